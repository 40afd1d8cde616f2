/- Texts of this proof, joined: Df, PL, E1, P1, E2, E3, E15, P5, F3, F4, P14. What each holds is said at its theorems. -/
import Derived.Test.YtojnhepgnbhaaaaGreatDoorIsProofQ1
import Derived.Lib.ItoaLen
import Derived.Laws.BitsLemmas
import Derived.Lib.Bytealg
set_option linter.unusedSimpArgs false
set_option linter.unusedVariables false
namespace Go.Proofs.YtojnhepgnbhaaaaGreatDoor
set_option linter.unusedVariables false
structure Xx where
 rule:ByteArray
 token:Zt
structure Zaj where
 rule:ByteArray
 facts:(List Zc)
noncomputable def ZdU (a_0:(List ByteArray)) (a:(List ByteArray)):Option Bool:=
 if (((a_0.length:Nat):Int) != ((a.length:Nat):Int))=true then
  some false
 else
  Zp (σ:=Unit)
   (fun (b:Nat) (c:ByteArray) _=>
    (atI a ((b:Nat):Int)).bind fun d=>
    if (sEq c d)=true then
     some (.inl ())
    else
     some (.inr false))
   (fun _=>
    some true)
   a_0 0 ()
noncomputable def Zk4 (a_0:Zc) (b_1:Zc):Option Bool:=
 if (sEq a_0.rel b_1.rel)=true then
  (ZdU a_0.args b_1.args).bind fun a=>
  some a
 else
  some false
noncomputable def Zau (l_0:(List Zc)) (f_1:Zc):Option Int:=
 Zp (σ:=Unit)
  (fun (i6:Nat) (a:Zc) _=>
   (Zk4 a f_1).bind fun b=>
   if b=true then
    some (.inr ((i6:Nat):Int))
   else
    some (.inl ()))
  (fun _=>
   some (-1))
  l_0 0 ()
noncomputable def Zee (l_0:(List ByteArray)):Option (List ByteArray):=
 chk (l_0.length≤1073741824) <|
 some l_0
noncomputable def X1 (f_0:Zc):Option Zc:=
 (Zee f_0.args).bind fun a=>
 some ({ rel:=f_0.rel,args:=a }:Zc)
noncomputable def ZaU (x_0:Int) (least_1:Int) (most_2:Int):Option Bool:=
 if (decide (least_1≤x_0))=true then
  some (decide (x_0≤most_2))
 else
  some false
noncomputable def Qq (s_0:ByteArray):Option Bool:=
 Zp (σ:=Unit)
  (fun (i9:Nat) (a:UInt8) _=>
   (ZaU (IntKind.i64.wrap ((a.toNat:Nat):Int)) 97 122).bind fun b=>
   if b=true then
    some (.inl ())
   else
    (ZaU (IntKind.i64.wrap ((a.toNat:Nat):Int)) 48 57).bind fun c=>
    if c=true then
     some (.inl ())
    else
     some (.inr false))
  (fun _=>
   (ZaU ((s_0.size:Nat):Int) 1 8).bind fun d=>
   some d)
  s_0.data.toList 0 ()
noncomputable def Zap (a:ByteArray):Option Bool:=
 if (decide (1<((a.size:Nat):Int)))=true then
  (sAt a 0).bind fun b=>
  if (((b.toNat:Nat):Int)==63)=true then
   chk (0≤1∧1≤((a.size:Nat):Int)) <|
   (Qq (a.extract (Int.toNat 1) a.size)).bind fun c=>
   some c
  else
   some false
 else
  some false
noncomputable def QL (s_0:ByteArray):Option Bool:=
 (Qq s_0).bind fun a=>
 if a=true then
  some true
 else
  (Zap s_0).bind fun b=>
  some b
noncomputable def Zc4 (s_0:ByteArray):Option Bool:=
 (Qq s_0).bind fun a=>
 if a=true then
  (sAt s_0 0).bind fun b=>
  (ZaU (IntKind.i64.wrap ((b.toNat:Nat):Int)) 97 122).bind fun c=>
  some c
 else
  some false
noncomputable def Xb (p_0:Zv):Option Bool:=
 Zp (σ:=Unit)
  (fun (i7:Nat) (a:ByteArray) _=>
   (QL a).bind fun b=>
   if b=true then
    some (.inl ())
   else
    some (.inr false))
  (fun _=>
   (Zc4 p_0.rel).bind fun c=>
   if c=true then
    some (decide (((p_0.args.length:Nat):Int)≤3))
   else
    some false)
  p_0.args 0 ()
noncomputable def Zey (f_0:Zc):Option Bool:=
 Zp (σ:=Unit)
  (fun (i7:Nat) (a:ByteArray) _=>
   (Qq a).bind fun b=>
   if b=true then
    some (.inl ())
   else
    some (.inr false))
  (fun _=>
   (Zc4 f_0.rel).bind fun c=>
   if c=true then
    some (decide (((f_0.args.length:Nat):Int)≤3))
   else
    some false)
  f_0.args 0 ()
noncomputable def XI (a:(List Zl)):Option Bool:=
 Zp (σ:=Unit)
  (fun (c:Nat) (b:Zl) _=>
   (Zap b.var).bind fun d=>
   if d=true then
    (Qq b.value).bind fun e=>
    if e=true then
     if (decide (0<((c:Nat):Int)))=true then
      (atI a (IntKind.i64.wrap (((c:Nat):Int) - 1))).bind fun f=>
      if (sLt f.var b.var)=true then
       some (.inl ())
      else
       some (.inr false)
     else
      some (.inl ())
    else
     some (.inr false)
   else
    some (.inr false))
  (fun _=>
   some (decide (((a.length:Nat):Int)≤6)))
  a 0 ()
noncomputable def ZbX (b_0:(List Zl)):Option (List Zl):=
 chk (b_0.length≤1073741824) <|
 some b_0
noncomputable def ZaC (b_0:(List Zl)) (term_1:ByteArray):Option (ByteArray × Bool):=
 (Qq term_1).bind fun b=>
 if b=true then
  some (term_1,true)
 else
  Zp (σ:=Unit)
   (fun (i7:Nat) (a:Zl) _=>
    if (sEq a.var term_1)=true then
     (Zap term_1).bind fun c=>
     if c=true then
      some (.inr (a.value,true))
     else
      some (.inl ())
    else
     some (.inl ()))
   (fun _=>
    some ((⟨#[]⟩),false))
   b_0 0 ()
noncomputable def ZhY (b_0:(List Zl)) (c:ByteArray) (value_2:ByteArray):Option (List Zl):=
 Zp (σ:=(List Zl) × Bool)
  (fun (i8:Nat) (b:Zl) s=>
   match s with
   | (a,d)=>
   if d=true then
    chk (a.length+1≤1073741824) <|
    some (.inl ((a++[b]),true))
   else
    if (sLt b.var c||sEq b.var c)=true then
     chk (a.length+1≤1073741824) <|
     some (.inl ((a++[b]),false))
    else
     chk (a.length+1≤1073741824) <|
     chk (a.length+1+1≤1073741824) <|
     some (.inl (((a++[({ var:=c,value:=value_2 }:Zl)])++[b]),true)))
  (fun s=>
   match s with
   | (a,d)=>
   if d=true then
    some a
   else
    chk (a.length+1≤1073741824) <|
    some (a++[({ var:=c,value:=value_2 }:Zl)]))
  b_0 0 ([],false)
noncomputable def Zfx (b_0:(List Zl)) (v_1:ByteArray) (value_2:ByteArray):Option ((List Zl) × Bool):=
 (XI b_0).bind fun b=>
 if b=true then
  (Zap v_1).bind fun c=>
  if c=true then
   (Qq value_2).bind fun d=>
   if d=true then
    (ZaC b_0 v_1).bind fun a=>
    if a.2=true then
     if (sEq a.1 value_2)=true then
      (ZbX b_0).bind fun e=>
      some (e,true)
     else
      some ([],false)
    else
     if (((b_0.length:Nat):Int)==6)=true then
      some ([],false)
     else
      (ZhY b_0 v_1 value_2).bind fun f=>
      some (f,true)
   else
    some ([],false)
  else
   some ([],false)
 else
  some ([],false)
noncomputable def ZaO (append_0:Zv) (a:Zc) (a_2:(List Zl)):Option ((List Zl) × Bool):=
 (Xb append_0).bind fun f=>
 if f=true then
  (Zey a).bind fun g=>
  if g=true then
   (XI a_2).bind fun i=>
   if i=true then
    if (sEq append_0.rel a.rel)=true then
     if (((append_0.args.length:Nat):Int) != ((a.args.length:Nat):Int))=true then
      some ([],false)
     else
      (ZbX a_2).bind fun j=>
      Zp (σ:=(List Zl))
       (fun (d:Nat) (c:ByteArray) b=>
        (Qq c).bind fun k=>
        if k=true then
         (atI a.args ((d:Nat):Int)).bind fun l=>
         if (sEq c l)=true then
          some (.inl b)
         else
          some (.inr ([],false))
        else
         (atI a.args ((d:Nat):Int)).bind fun m=>
         (Zfx b c m).bind fun e=>
         if e.2=true then
          some (.inl e.1)
         else
          some (.inr ([],false)))
       (fun b=>
        some (b,true))
       append_0.args 0 j
    else
     some ([],false)
   else
    some ([],false)
  else
   some ([],false)
 else
  some ([],false)
noncomputable def Zax (l_0:(List Zc)):Option (List Zc):=
 Zp (σ:=(List Zc))
  (fun (i7:Nat) (b:Zc) a=>
   (X1 b).bind fun c=>
   chk (a.length+1≤1073741824) <|
   some (.inl (a++[c])))
  (fun a=>
   some a)
  l_0 0 []
noncomputable def Xv (p_0:Zv) (b_1:(List Zl)) (facts_2:(List Zc)):Option (List Zc):=
 Zp (σ:=(List Zc))
  (fun (i9:Nat) (b:Zc) a=>
   (ZaO p_0 b b_1).bind fun c=>
   if c.2=true then
    (X1 b).bind fun d=>
    chk (a.length+1≤1073741824) <|
    some (.inl (a++[d]))
   else
    some (.inl a))
  (fun a=>
   some a)
  facts_2 0 []
noncomputable def Zc9 (x_0:Zm):Option Bool:=
 if (x_0.kind==1)=true then
  (Xb x_0.pattern).bind fun a=>
  if a=true then
   if (sEq x_0.left ⟨#[]⟩)=true then
    some (sEq x_0.right ⟨#[]⟩)
   else
    some false
  else
   some false
 else
  if (x_0.kind==2)=true then
   (Xb x_0.pattern).bind fun b=>
   if b=true then
    if (sEq x_0.left ⟨#[]⟩)=true then
     some (sEq x_0.right ⟨#[]⟩)
    else
     some false
   else
    some false
  else
   if (x_0.kind==3)=true then
    if (sEq x_0.pattern.rel ⟨#[]⟩)=true then
     if (((x_0.pattern.args.length:Nat):Int)==0)=true then
      (QL x_0.left).bind fun c=>
      if c=true then
       (QL x_0.right).bind fun d=>
       some d
      else
       some false
     else
      some false
    else
     some false
   else
    if (x_0.kind==4)=true then
     if (sEq x_0.pattern.rel ⟨#[]⟩)=true then
      if (((x_0.pattern.args.length:Nat):Int)==0)=true then
       (QL x_0.left).bind fun e=>
       if e=true then
        (QL x_0.right).bind fun f=>
        some f
       else
        some false
      else
       some false
     else
      some false
    else
     if (x_0.kind==5)=true then
      if (sEq x_0.pattern.rel ⟨#[]⟩)=true then
       if (((x_0.pattern.args.length:Nat):Int)==0)=true then
        (QL x_0.left).bind fun g=>
        if g=true then
         (QL x_0.right).bind fun i=>
         some i
        else
         some false
       else
        some false
      else
       some false
     else
      some false
noncomputable def Zgh (a:ByteArray) (b:ByteArray):Option Int:=
 if (sLt a b)=true then
  some (-1)
 else
  if (sLt a b||sEq a b)=true then
   some 0
  else
   some 1
noncomputable def Zab (n_0:Int):Option ByteArray:=
 if (n_0==(-9223372036854775808))=true then
  some (⟨#[45,57,50,50,51,51,55,50,48,51,54,56,53,52,55,55,53,56,48,56]⟩)
 else
  if (decide (n_0<0))=true then
   none
  else
   Zdu (σ:=Int × ByteArray)
    (fun s=>
     match s with
     | (a,b)=>
     chk ((Y9 [(IntKind.u8.wrap (IntKind.i64.wrap (48+(Int.tmod a 10))))]).size+b.size≤9223372036854775807) <|
     if ((IntKind.i64.wrap (Int.tdiv a 10))==0)=true then
      some (.inr ((Y9 [(IntKind.u8.wrap (IntKind.i64.wrap (48+(Int.tmod a 10))))])++b))
     else
      some (.inl ((IntKind.i64.wrap (Int.tdiv a 10)),((Y9 [(IntKind.u8.wrap (IntKind.i64.wrap (48+(Int.tmod a 10))))])++b))))
    (n_0,⟨#[]⟩)
noncomputable def ZaQ (n_0:Int):Option ByteArray:=
 if (n_0==(-9223372036854775808))=true then
  some (⟨#[45,57,50,50,51,51,55,50,48,51,54,56,53,52,55,55,53,56,48,56]⟩)
 else
  if (decide (n_0<0))=true then
   (Zab (IntKind.i64.wrap (0 - n_0))).bind fun c=>
   chk ((⟨#[45]⟩:ByteArray).size+c.size≤9223372036854775807) <|
   some ((⟨#[45]⟩:ByteArray)++c)
  else
   Zdu (σ:=Int × ByteArray)
    (fun s=>
     match s with
     | (a,b)=>
     chk ((Y9 [(IntKind.u8.wrap (IntKind.i64.wrap (48+(Int.tmod a 10))))]).size+b.size≤9223372036854775807) <|
     if ((IntKind.i64.wrap (Int.tdiv a 10))==0)=true then
      some (.inr ((Y9 [(IntKind.u8.wrap (IntKind.i64.wrap (48+(Int.tmod a 10))))])++b))
     else
      some (.inl ((IntKind.i64.wrap (Int.tdiv a 10)),((Y9 [(IntKind.u8.wrap (IntKind.i64.wrap (48+(Int.tmod a 10))))])++b))))
    (n_0,⟨#[]⟩)
noncomputable def QS (s_0:ByteArray):Option (Int × Bool):=
 (ZaU ((s_0.size:Nat):Int) 1 4).bind fun c=>
 if c=true then
  Zp (σ:=Int)
   (fun (i7:Nat) (b:UInt8) a=>
    if (decide (((b.toNat:Nat):Int)<48))=true then
     some (.inr (0,false))
    else
     if (decide (57<((b.toNat:Nat):Int)))=true then
      some (.inr (0,false))
     else
      some (.inl (IntKind.i64.wrap ((IntKind.i64.wrap (10 * a))+IntKind.i64.wrap (IntKind.u8.wrap (((b.toNat:Nat):Int) - 48))))))
   (fun a=>
    (ZaQ a).bind fun d=>
    if (sEq d s_0)=true then
     some (a,true)
    else
     some (0,false))
   s_0.data.toList 0 0
 else
  some (0,false)
noncomputable def Xo (a_0:ByteArray) (b_1:ByteArray):Option Int:=
 (QS a_0).bind fun b=>
 (QS b_1).bind fun a=>
 if b.2=true then
  if a.2=true then
   if (decide (b.1<a.1))=true then
    some (-1)
   else
    if (decide (a.1<b.1))=true then
     some 1
    else
     some 0
  else
   some (-1)
 else
  if a.2=true then
   some 1
  else
   (Zgh a_0 b_1).bind fun c=>
   some c
noncomputable def Za9 (x_0:Zm):Option Bool:=
 (Zc9 x_0).bind fun a=>
 if a=true then
  some (decide (3≤x_0.kind))
 else
  some false
noncomputable def ZcD (s_0:ByteArray):Option Bool:=
 (QS s_0).bind fun a=>
 some a.2
noncomputable def ZbV (x_0:Zm) (b_1:(List Zl)):Option Bool:=
 (Za9 x_0).bind fun c=>
 if c=true then
  (XI b_1).bind fun d=>
  if d=true then
   (ZaC b_1 x_0.left).bind fun a=>
   (ZaC b_1 x_0.right).bind fun b=>
   if a.2=true then
    if b.2=true then
     if (x_0.kind==3)=true then
      some (sEq a.1 b.1)
     else
      if (x_0.kind==4)=true then
       some (!(sEq a.1 b.1))
      else
       (ZcD a.1).bind fun e=>
       if e=true then
        (ZcD b.1).bind fun f=>
        if f=true then
         (Xo a.1 b.1).bind fun g=>
         some (decide (g<0))
        else
         some false
       else
        some false
    else
     some false
   else
    some false
  else
   some false
 else
  some false
noncomputable def Zb4 (x_0:Zm) (a:(List Zl)) (b:(List Zc)):Option Bool:=
 (Zc9 x_0).bind fun c=>
 if c=true then
  (XI a).bind fun d=>
  if d=true then
   if (x_0.kind==1)=true then
    (Xv x_0.pattern a b).bind fun e=>
    some (decide (0<((e.length:Nat):Int)))
   else
    if (x_0.kind==2)=true then
     (Xv x_0.pattern a b).bind fun f=>
     some (((f.length:Nat):Int)==0)
    else
     (ZbV x_0 a).bind fun g=>
     some g
  else
   some false
 else
  some false
noncomputable def Zfp (t_0:Zt):Option Zt:=
 (Zax t_0.facts).bind fun a=>
 (ZbX t_0.binding).bind fun b=>
 some ({ facts:=a,binding:=b }:Zt)
noncomputable def Zf1 (append_0:(List Zt)) (String_1:Zm) (a_2:(List Zc)):Option (List Zt):=
 Zp (σ:=(List Zt))
  (fun (i45:Nat) (c:Zt) a=>
   if (String_1.kind != 1)=true then
    (Zb4 String_1 c.binding a_2).bind fun g=>
    if g=true then
     (Zfp c).bind fun i=>
     chk (a.length+1≤1073741824) <|
     some (.inl (a++[i]))
    else
     some (.inl a)
   else
    Zp (σ:=(List Zt))
     (fun (i59:Nat) (d:Zc) b=>
      (ZaO String_1.pattern d c.binding).bind fun e=>
      if e.2=true then
       (Zax c.facts).bind fun f=>
       (X1 d).bind fun j=>
       chk (f.length+1≤1073741824) <|
       chk (b.length+1≤1073741824) <|
       some (.inl (b++[({ facts:=(f++[j]),binding:=e.1 }:Zt)]))
      else
       some (.inl b))
     (fun b=>
      some (.inl b))
     a_2 0 a)
  (fun a=>
   some a)
  append_0 0 []
noncomputable def Zay (l_0:(List Zm)) (facts_1:(List Zc)):Option (List Zt):=
 Zp (σ:=(List Zt))
  (fun (i7:Nat) (b:Zm) a=>
   (Zf1 a b facts_1).bind fun c=>
   some (.inl c))
  (fun a=>
   some a)
  l_0 0 ([({ facts:=[],binding:=[] }:Zt)])
noncomputable def XQ (r_0:Zf):Option (List Zm):=
 Zp (σ:=(List Zm))
  (fun (i6:Nat) (b:Zm) a=>
   if (b.kind != 2)=true then
    chk (a.length+1≤1073741824) <|
    some (.inl (a++[b]))
   else
    some (.inl a))
  (fun a=>
   some a)
  r_0.cond 0 []
noncomputable def Xi (p_0:Zv) (b_1:(List Zl)):Option (Zc × Bool):=
 (Xb p_0).bind fun c=>
 if c=true then
  (XI b_1).bind fun d=>
  if d=true then
   Zp (σ:=(List ByteArray))
    (fun (i11:Nat) (e:ByteArray) a=>
     (ZaC b_1 e).bind fun b=>
     if b.2=true then
      chk (a.length+1≤1073741824) <|
      some (.inl (a++[b.1]))
     else
      some (.inr (({ rel:=(⟨#[]⟩),args:=[] }:Zc),false)))
    (fun a=>
     some (({ rel:=p_0.rel,args:=a }:Zc),true))
    p_0.args 0 []
  else
   some (({ rel:=(⟨#[]⟩),args:=[] }:Zc),false)
 else
  some (({ rel:=(⟨#[]⟩),args:=[] }:Zc),false)
noncomputable def XW (l_0:(List ByteArray)) (s_1:ByteArray):Option (List ByteArray):=
 Zp (σ:=(List ByteArray) × Bool)
  (fun (i8:Nat) (b:ByteArray) s=>
   match s with
   | (a,c)=>
   if c=true then
    chk (a.length+1≤1073741824) <|
    some (.inl ((a++[b]),true))
   else
    if (sLt b s_1)=true then
     chk (a.length+1≤1073741824) <|
     some (.inl ((a++[b]),false))
    else
     if (sEq b s_1)=true then
      chk (a.length+1≤1073741824) <|
      some (.inl ((a++[b]),true))
     else
      chk (a.length+1≤1073741824) <|
      chk (a.length+1+1≤1073741824) <|
      some (.inl (((a++[s_1])++[b]),true)))
  (fun s=>
   match s with
   | (a,c)=>
   if c=true then
    some a
   else
    chk (a.length+1≤1073741824) <|
    some (a++[s_1]))
  l_0 0 ([],false)
noncomputable def Za4 (p_0:Zv):Option (List ByteArray):=
 Zp (σ:=(List ByteArray))
  (fun (i9:Nat) (b:ByteArray) a=>
   (Zap b).bind fun c=>
   if c=true then
    (XW a b).bind fun d=>
    some (.inl d)
   else
    some (.inl a))
  (fun a=>
   some a)
  p_0.args 0 []
noncomputable def XR (x_0:Zm):Option (List ByteArray):=
 (Za4 x_0.pattern).bind fun a=>
 (Zap x_0.left).bind fun c=>
 if c=true then
  (XW a x_0.left).bind fun b=>
  (Zap x_0.right).bind fun d=>
  if d=true then
   (XW b x_0.right).bind fun e=>
   some e
  else
   some b
 else
  (Zap x_0.right).bind fun f=>
  if f=true then
   (XW a x_0.right).bind fun g=>
   some g
  else
   some a
noncomputable def Qf (r_0:Zf) (n_1:Int):Option (List ByteArray):=
 Zp (σ:=(List ByteArray))
  (fun (i25:Nat) (c:Zm) a=>
   if (decide (((i25:Nat):Int)<n_1))=true then
    if (c.kind==1)=true then
     (Za4 c.pattern).bind fun d=>
     Zp (σ:=(List ByteArray))
      (fun (i34:Nat) (e:ByteArray) b=>
       (XW b e).bind fun f=>
       some (.inl f))
      (fun b=>
       some (.inl b))
      d 0 a
    else
     some (.inl a)
   else
    some (.inr a))
  (fun a=>
   some a)
  r_0.cond 0 []
noncomputable def ZS (l_0:(List ByteArray)) (s_1:ByteArray):Option Bool:=
 Zp (σ:=Unit)
  (fun (i4:Nat) (a:ByteArray) _=>
   if (sEq a s_1)=true then
    some (.inr true)
   else
    some (.inl ()))
  (fun _=>
   some false)
  l_0 0 ()
noncomputable def XS (r_0:Zf) (i_1:Int) (v_2:ByteArray):Option Bool:=
 Zp (σ:=Unit)
  (fun (i19:Nat) (a:Zm) _=>
   if (((i19:Nat):Int) != i_1)=true then
    (XR a).bind fun b=>
    (ZS b v_2).bind fun c=>
    if c=true then
     some (.inr true)
    else
     some (.inl ())
   else
    some (.inl ()))
  (fun _=>
   Zp (σ:=Unit)
    (fun (i30:Nat) (d:Zr) _=>
     (Za4 d.pattern).bind fun e=>
     (ZS e v_2).bind fun f=>
     if f=true then
      some (.inr true)
     else
      some (.inl ()))
    (fun _=>
     some false)
    r_0.thn 0 ())
  r_0.cond 0 ()
noncomputable def Zdm (a_0:Zr):Option Bool:=
 if (a_0.kind==1)=true then
  (Xb a_0.pattern).bind fun a=>
  some a
 else
  if (a_0.kind==2)=true then
   (Xb a_0.pattern).bind fun b=>
   some b
  else
   if (a_0.kind==3)=true then
    if (sEq a_0.pattern.rel ⟨#[]⟩)=true then
     some (((a_0.pattern.args.length:Nat):Int)==0)
    else
     some false
   else
    some false
noncomputable def Zdg (r_0:Zf):Option (List ByteArray):=
 Zp (σ:=(List ByteArray))
  (fun (i61:Nat) (e:Zm) a=>
   (XR e).bind fun f=>
   Zp (σ:=(List ByteArray))
    (fun (i70:Nat) (g:ByteArray) b=>
     (XW b g).bind fun i=>
     some (.inl i))
    (fun b=>
     some (.inl b))
    f 0 a)
  (fun a=>
   Zp (σ:=(List ByteArray))
    (fun (i97:Nat) (j:Zr) c=>
     (Za4 j.pattern).bind fun k=>
     Zp (σ:=(List ByteArray))
      (fun (i106:Nat) (l:ByteArray) d=>
       (XW d l).bind fun m=>
       some (.inl m))
      (fun d=>
       some (.inl d))
      k 0 c)
    (fun c=>
     some c)
    r_0.thn 0 a)
  r_0.cond 0 []
noncomputable def Zev (append_0:Zf):Option Bool:=
 (Zc4 append_0.name).bind fun g=>
 if g=true then
  (ZaU append_0.priority 0 9).bind fun i=>
  if i=true then
   (ZaU ((append_0.cond.length:Nat):Int) 1 4).bind fun j=>
   if j=true then
    (ZaU ((append_0.thn.length:Nat):Int) 1 2).bind fun k=>
    if k=true then
     (Qf append_0 ((append_0.cond.length:Nat):Int)).bind fun l=>
     Zp (σ:=Unit)
      (fun (i96:Nat) (a:Zm) _=>
       (Zc9 a).bind fun m=>
       if m=true then
        if (((i96:Nat):Int)==0)=true then
         if (a.kind != 1)=true then
          some (.inr false)
         else
          (Qf append_0 ((i96:Nat):Int)).bind fun o=>
          (XR a).bind fun p=>
          Zp (σ:=Unit)
           (fun (i110:Nat) (b:ByteArray) _=>
            (ZS o b).bind fun c=>
            (Za9 a).bind fun q=>
            if q=true then
             if c=true then
              if (a.kind==2)=true then
               some (.inl ())
              else
               some (.inl ())
             else
              some (.inr (.inr false))
            else
             if (a.kind==2)=true then
              if c=true then
               some (.inl ())
              else
               (XS append_0 ((i96:Nat):Int) b).bind fun t=>
               if t=true then
                some (.inr (.inr false))
               else
                some (.inl ())
             else
              some (.inl ()))
           (fun _=>
            some (.inl ()))
           p 0 ()
        else
         (Qf append_0 ((i96:Nat):Int)).bind fun u=>
         (XR a).bind fun v=>
         Zp (σ:=Unit)
          (fun (i126:Nat) (d:ByteArray) _=>
           (ZS u d).bind fun e=>
           (Za9 a).bind fun w=>
           if w=true then
            if e=true then
             if (a.kind==2)=true then
              some (.inl ())
             else
              some (.inl ())
            else
             some (.inr (.inr false))
           else
            if (a.kind==2)=true then
             if e=true then
              some (.inl ())
             else
              (XS append_0 ((i96:Nat):Int) d).bind fun x=>
              if x=true then
               some (.inr (.inr false))
              else
               some (.inl ())
            else
             some (.inl ()))
          (fun _=>
           some (.inl ()))
          v 0 ()
       else
        some (.inr false))
      (fun _=>
       Zp (σ:=Unit)
        (fun (i155:Nat) (f:Zr) _=>
         (Zdm f).bind fun y=>
         if y=true then
          (Za4 f.pattern).bind fun z=>
          Zp (σ:=Unit)
           (fun (i164:Nat) (A:ByteArray) _=>
            (ZS l A).bind fun B=>
            if B=true then
             some (.inl ())
            else
             some (.inr (.inr false)))
           (fun _=>
            some (.inl ()))
           z 0 ()
         else
          some (.inr false))
        (fun _=>
         (Zdg append_0).bind fun C=>
         some (decide (((C.length:Nat):Int)≤6)))
        append_0.thn 0 ())
      append_0.cond 0 ()
    else
     some false
   else
    some false
  else
   some false
 else
  some false
noncomputable def Zc8 (a_0:(List ByteArray)) (b_1:(List ByteArray)):Option Bool:=
 Zp (σ:=Unit)
  (fun (i6:Nat) (a:ByteArray) _=>
   (ZS b_1 a).bind fun b=>
   if b=true then
    some (.inl ())
   else
    some (.inr false))
  (fun _=>
   some true)
  a_0 0 ()
noncomputable def Zb6 (r_0:Zf):Option Bool:=
 (Zev r_0).bind fun b=>
 if b=true then
  Zp (σ:=Unit)
   (fun (i16:Nat) (a:Zm) _=>
    if (a.kind==2)=true then
     (XR a).bind fun c=>
     (Qf r_0 ((i16:Nat):Int)).bind fun d=>
     (Zc8 c d).bind fun e=>
     if e=true then
      some (.inl ())
     else
      some (.inr false)
    else
     some (.inl ()))
   (fun _=>
    Zp (σ:=Unit)
     (fun (i24:Nat) (f:Zr) _=>
      if (f.kind != 1)=true then
       some (.inr false)
      else
       some (.inl ()))
     (fun _=>
      some true)
     r_0.thn 0 ())
   r_0.cond 0 ()
 else
  some false
noncomputable def QW (r_0:Zf):Option (List ByteArray):=
 Zp (σ:=(List ByteArray))
  (fun (i9:Nat) (b:Zr) a=>
   if (b.kind==1)=true then
    (XW a b.pattern.rel).bind fun c=>
    some (.inl c)
   else
    if (b.kind==2)=true then
     (XW a b.pattern.rel).bind fun d=>
     some (.inl d)
    else
     some (.inl a))
  (fun a=>
   some a)
  r_0.thn 0 []
noncomputable def Zbx (r_0:Zf):Option (List ByteArray):=
 Zp (σ:=(List ByteArray))
  (fun (i9:Nat) (b:Zm) a=>
   if (b.kind==1)=true then
    (XW a b.pattern.rel).bind fun c=>
    some (.inl c)
   else
    if (b.kind==2)=true then
     (XW a b.pattern.rel).bind fun d=>
     some (.inl d)
    else
     some (.inl a))
  (fun a=>
   some a)
  r_0.cond 0 []
noncomputable def Za0 (append_0:(List Zf)) (String_1:ByteArray) (a_2:ByteArray):Option Bool:=
 Zdu (σ:=(List ByteArray) × Int)
  (fun s=>
   match s with
   | (d,c)=>
   if (decide (c<((d.length:Nat):Int)))=true then
    Zp (σ:=(List ByteArray))
     (fun (i93:Nat) (e:Zf) a=>
      (QW e).bind fun i=>
      chk (0≤c∧c<((a.length:Nat):Int)) <|
      (a[(Int.toNat c)]?).bind fun j=>
      (ZS i j).bind fun k=>
      if k=true then
       (Zbx e).bind fun f=>
       (ZS f a_2).bind fun l=>
       if l=true then
        some (.inr (.inr true))
       else
        Zp (σ:=(List ByteArray))
         (fun (i108:Nat) (g:ByteArray) b=>
          (ZS b g).bind fun m=>
          if m=true then
           some (.inl b)
          else
           chk (b.length+1≤1073741824) <|
           some (.inl (b++[g])))
         (fun b=>
          some (.inl b))
         f 0 a
      else
       some (.inl a))
     (fun a=>
      some (.inl (a,(IntKind.i64.wrap (c+1)))))
     append_0 0 d
   else
    some (.inr false))
  ([String_1],0)
noncomputable def ZeG (l_0:(List Zf)) (name_1:ByteArray):Option Int:=
 Zp (σ:=Unit)
  (fun (i4:Nat) (a:Zf) _=>
   if (sEq a.name name_1)=true then
    some (.inr ((i4:Nat):Int))
   else
    some (.inl ()))
  (fun _=>
   some (-1))
  l_0 0 ()
noncomputable def Zde (l_0:(List Zf)):Option Bool:=
 Zp (σ:=Unit)
  (fun (i8:Nat) (a:Zf) _=>
   (Zev a).bind fun b=>
   if b=true then
    (ZeG l_0 a.name).bind fun c=>
    if (c != ((i8:Nat):Int))=true then
     some (.inr false)
    else
     some (.inl ())
   else
    some (.inr false))
  (fun _=>
   some (decide (((l_0.length:Nat):Int)≤6)))
  l_0 0 ()
noncomputable def Zbg (append_0:(List Zf)):Option Bool:=
 Zp (σ:=Unit)
  (fun (i67:Nat) (a:Zf) _=>
   (Zb6 a).bind fun d=>
   if d=true then
    (QW a).bind fun e=>
    Zp (σ:=Unit)
     (fun (i90:Nat) (b:Zm) _=>
      Zp (σ:=Unit)
       (fun (i97:Nat) (c:ByteArray) _=>
        if (b.kind==2)=true then
         if (sEq b.pattern.rel c)=true then
          some (.inr (.inr (.inr false)))
         else
          (Za0 append_0 b.pattern.rel c).bind fun f=>
          if f=true then
           some (.inr (.inr (.inr false)))
          else
           some (.inl ())
        else
         some (.inr (.inl ())))
       (fun _=>
        some (.inl ()))
       e 0 ())
     (fun _=>
      some (.inl ()))
     a.cond 0 ()
   else
    some (.inr false))
  (fun _=>
   (Zde append_0).bind fun g=>
   some g)
  append_0 0 ()
noncomputable def Xj (a_0:Zc) (a:Zc):Option Int:=
 if (sEq a_0.rel a.rel)=true then
  Zp (σ:=Unit)
   (fun (b:Nat) (d:ByteArray) _=>
    if (decide (((b:Nat):Int)<((a.args.length:Nat):Int)))=true then
     (atI a.args ((b:Nat):Int)).bind fun e=>
     (Xo d e).bind fun c=>
     if (c != 0)=true then
      some (.inr c)
     else
      some (.inl ())
    else
     if (decide (((a_0.args.length:Nat):Int)<((a.args.length:Nat):Int)))=true then
      some (.inr (-1))
     else
      if (decide (((a.args.length:Nat):Int)<((a_0.args.length:Nat):Int)))=true then
       some (.inr 1)
      else
       some (.inr 0))
   (fun _=>
    if (decide (((a_0.args.length:Nat):Int)<((a.args.length:Nat):Int)))=true then
     some (-1)
    else
     if (decide (((a.args.length:Nat):Int)<((a_0.args.length:Nat):Int)))=true then
      some 1
     else
      some 0)
   a_0.args 0 ()
 else
  (Zgh a_0.rel a.rel).bind fun f=>
  some f
noncomputable def ZcW (a:(List Zc)):Option Bool:=
 Zp (σ:=Unit)
  (fun (b:Nat) (c:Zc) _=>
   (Zey c).bind fun d=>
   if d=true then
    if (decide (0<((b:Nat):Int)))=true then
     (atI a (IntKind.i64.wrap (((b:Nat):Int) - 1))).bind fun e=>
     (Xj e c).bind fun f=>
     if (decide (0≤f))=true then
      some (.inr false)
     else
      some (.inl ())
    else
     some (.inl ())
   else
    some (.inr false))
  (fun _=>
   some (decide (((a.length:Nat):Int)≤24)))
  a 0 ()
noncomputable def ZbK (l_0:(List Zc)) (f_1:Zc):Option (List Zc):=
 Zp (σ:=(List Zc) × Bool)
  (fun (i21:Nat) (b:Zc) s=>
   match s with
   | (a,c)=>
   if c=true then
    (X1 b).bind fun d=>
    chk (a.length+1≤1073741824) <|
    some (.inl ((a++[d]),true))
   else
    (Xj b f_1).bind fun e=>
    if (decide (0≤e))=true then
     (Xj b f_1).bind fun f=>
     if (decide (0<f))=true then
      (X1 f_1).bind fun g=>
      chk (a.length+1≤1073741824) <|
      (X1 b).bind fun i=>
      chk (a.length+1+1≤1073741824) <|
      some (.inl (((a++[g])++[i]),true))
     else
      (X1 b).bind fun j=>
      chk (a.length+1≤1073741824) <|
      some (.inl ((a++[j]),true))
    else
     (X1 b).bind fun k=>
     chk (a.length+1≤1073741824) <|
     some (.inl ((a++[k]),false)))
  (fun s=>
   match s with
   | (a,c)=>
   if c=true then
    some a
   else
    (X1 f_1).bind fun l=>
    chk (a.length+1≤1073741824) <|
    some (a++[l]))
  l_0 0 ([],false)
noncomputable def Yu (append_0:(List Zf)) (String_1:(List Zc)):Option ((List Zc) × Bool):=
 (Zbg append_0).bind fun f=>
 if f=true then
  (ZcW String_1).bind fun g=>
  if g=true then
   (Zax String_1).bind fun i=>
   Zdu (σ:=(List Zc) × Bool)
    (fun s=>
     match s with
     | (a,j)=>
     if j=true then
      Zp (σ:=(List Zc))
       (fun (i311:Nat) (e:Zf) b=>
        (XQ e).bind fun k=>
        (Zay k a).bind fun l=>
        Zp (σ:=(List Zc))
         (fun (i355:Nat) (m:Zt) c=>
          Zp (σ:=(List Zc))
           (fun (i368:Nat) (o:Zr) d=>
            (Xi o.pattern m.binding).bind fun p=>
            (ZbK d p.1).bind fun q=>
            some (.inl q))
           (fun d=>
            some (.inl d))
           e.thn 0 c)
         (fun c=>
          if (decide (24<((c.length:Nat):Int)))=true then
           some (.inr (.inr ([],false)))
          else
           some (.inl c))
         l 0 b)
       (fun b=>
        some (.inl (b,(decide (((a.length:Nat):Int)<((b.length:Nat):Int))))))
       append_0 0 a
     else
      some (.inr (a,true)))
    (i,true)
  else
   some ([],false)
 else
  some ([],false)
noncomputable def ZfJ (l_0:(List Int)) (x_1:Int):Option (List Int):=
 Zp (σ:=(List Int) × Bool)
  (fun (i7:Nat) (b:Int) s=>
   match s with
   | (a,c)=>
   if c=true then
    chk (a.length+1≤1073741824) <|
    some (.inl ((a++[b]),true))
   else
    if (decide (x_1≤b))=true then
     if (b != x_1)=true then
      chk (a.length+1≤1073741824) <|
      chk (a.length+1+1≤1073741824) <|
      some (.inl (((a++[x_1])++[b]),true))
     else
      chk (a.length+1≤1073741824) <|
      some (.inl ((a++[b]),true))
    else
     chk (a.length+1≤1073741824) <|
     some (.inl ((a++[b]),false)))
  (fun s=>
   match s with
   | (a,c)=>
   if c=true then
    some a
   else
    chk (a.length+1≤1073741824) <|
    some (a++[x_1]))
  l_0 0 ([],false)
noncomputable def Zbz (l_0:(List Zc)) (facts_1:(List Zc)):Option (List Int):=
 Zp (σ:=(List Int))
  (fun (i9:Nat) (c:Zc) a=>
   (Zau l_0 c).bind fun b=>
   if (decide (0≤b))=true then
    (ZfJ a b).bind fun d=>
    some (.inl d)
   else
    some (.inl a))
  (fun a=>
   some a)
  facts_1 0 []
noncomputable def ZaT (c:Zf) (e:Int) (b:Zt) (a_3:(List Zc)):Option Zh:=
 (atI c.thn e).bind fun f=>
 (Xi f.pattern b.binding).bind fun g=>
 Zp (σ:=(List Zc))
  (fun (i12:Nat) (d:Zm) a=>
   if (d.kind==2)=true then
    (Xi d.pattern b.binding).bind fun i=>
    chk (a.length+1≤1073741824) <|
    some (.inl (a++[i.1]))
   else
    some (.inl a))
  (fun a=>
   (Zau a_3 g.1).bind fun j=>
   (Zbz a_3 b.facts).bind fun k=>
   (Zbz a_3 a).bind fun l=>
   some ({ for_:=j,inn:=k,outs:=l }:Zh))
  c.cond 0 []
noncomputable def Zbc (a_0:(List Int)) (a:(List Int)):Option Bool:=
 if (((a_0.length:Nat):Int) != ((a.length:Nat):Int))=true then
  some false
 else
  Zp (σ:=Unit)
   (fun (b:Nat) (c:Int) _=>
    (atI a ((b:Nat):Int)).bind fun d=>
    if (c != d)=true then
     some (.inr false)
    else
     some (.inl ()))
   (fun _=>
    some true)
   a_0 0 ()
noncomputable def Zec (l_0:(List Zh)) (r_1:Zh):Option Int:=
 Zp (σ:=Unit)
  (fun (i8:Nat) (a:Zh) _=>
   if (a.for_==r_1.for_)=true then
    (Zbc a.inn r_1.inn).bind fun b=>
    if b=true then
     (Zbc a.outs r_1.outs).bind fun c=>
     if c=true then
      some (.inr ((i8:Nat):Int))
     else
      some (.inl ())
    else
     some (.inl ())
   else
    some (.inl ()))
  (fun _=>
   some (-1))
  l_0 0 ()
noncomputable def XG (append_0:(List Zf)) (String_1:(List Zc)):Option ((List Zc) × ZK × (List Xx) × Bool):=
 (Yu append_0 String_1).bind fun b=>
 if b.2=true then
  Zp (σ:=(List Zh) × (List Xx))
   (fun (i255:Nat) (o:Zc) s=>
    match s with
    | (d,e)=>
    (Zau b.1 o).bind fun p=>
    chk (d.length+1≤1073741824) <|
    chk (e.length+1≤1073741824) <|
    some (.inl ((d++[({ for_:=p,inn:=[],outs:=[] }:Zh)]),(e++[({ rule:=(⟨#[]⟩),token:=({ facts:=[],binding:=[] }:Zt) }:Xx)]))))
   (fun s=>
    match s with
    | (d,e)=>
    Zp (σ:=(List Zh) × (List Xx))
     (fun (i446:Nat) (f:Zf) s=>
      match s with
      | (g,i)=>
      (XQ f).bind fun q=>
      (Zay q b.1).bind fun t=>
      Zp (σ:=(List Zh) × (List Xx))
       (fun (i487:Nat) (l:Zt) s=>
        match s with
        | (j,k)=>
        Zp (σ:=(List Zh) × (List Xx))
         (fun (i498:Nat) (v:Zr) s=>
          match s with
          | (a,c)=>
          (ZaT f ((i498:Nat):Int) l b.1).bind fun m=>
          (Zec a m).bind fun u=>
          if (decide (0≤u))=true then
           some (.inl (a,c))
          else
           if (decide (60≤((a.length:Nat):Int)))=true then
            some (.inr (.inr (.inr ([],({ nodes:=0,reasons:=[] }:ZK),[],false))))
           else
            chk (a.length+1≤1073741824) <|
            chk (c.length+1≤1073741824) <|
            some (.inl ((a++[m]),(c++[({ rule:=f.name,token:=l }:Xx)]))))
         (fun s=>
          match s with
          | (a,c)=>
          some (.inl (a,c)))
         f.thn 0 (j,k))
       (fun s=>
        match s with
        | (j,k)=>
        some (.inl (j,k)))
       t 0 (g,i))
     (fun s=>
      match s with
      | (g,i)=>
      some (b.1,({ nodes:=((b.1.length:Nat):Int),reasons:=g }:ZK),i,true))
     append_0 0 (d,e))
   String_1 0 ([],[])
 else
  some ([],({ nodes:=0,reasons:=[] }:ZK),[],false)
noncomputable def Xw (rules_0:(List Zf)) (base_1:(List Zc)):Option ((List Zc) × ZK × Bool):=
 (XG rules_0 base_1).bind fun a=>
 if a.2.2.2=true then
  some (a.1,a.2.1,true)
 else
  some ([],({ nodes:=0,reasons:=[] }:ZK),false)
noncomputable def Zb0 (a_0:(List ByteArray)) (a:(List ByteArray)):Option Bool:=
 if (((a_0.length:Nat):Int) != ((a.length:Nat):Int))=true then
  some false
 else
  Zp (σ:=Unit)
   (fun (b:Nat) (c:ByteArray) _=>
    (atI a ((b:Nat):Int)).bind fun d=>
    if (sEq c d)=true then
     some (.inl ())
    else
     some (.inr false))
   (fun _=>
    some true)
   a_0 0 ()
noncomputable def Zbp (a_0:Zc) (b_1:Zc):Option Bool:=
 if (sEq a_0.rel b_1.rel)=true then
  (Zb0 a_0.args b_1.args).bind fun a=>
  some a
 else
  some false
noncomputable def Yh (l_0:(List Zc)) (f_1:Zc):Option Int:=
 Zp (σ:=Unit)
  (fun (i6:Nat) (a:Zc) _=>
   (Zbp a f_1).bind fun b=>
   if b=true then
    some (.inr ((i6:Nat):Int))
   else
    some (.inl ()))
  (fun _=>
   some (-1))
  l_0 0 ()
noncomputable def ZaI (l_0:(List ByteArray)):Option (List ByteArray):=
 chk (l_0.length≤1073741824) <|
 some l_0
noncomputable def Y3 (f_0:Zc):Option Zc:=
 (ZaI f_0.args).bind fun a=>
 some ({ rel:=f_0.rel,args:=a }:Zc)
noncomputable def Qr (s_0:ByteArray):Option Bool:=
 if (decide (((s_0.size:Nat):Int)<1))=true then
  some false
 else
  if (decide (8<((s_0.size:Nat):Int)))=true then
   some false
  else
   Zp (σ:=Unit)
    (fun (i4:Nat) (a:UInt8) _=>
     if (decide (((a.toNat:Nat):Int)<97))=true then
      if (decide (((a.toNat:Nat):Int)<48))=true then
       some (.inr false)
      else
       if (decide (57<((a.toNat:Nat):Int)))=true then
        some (.inr false)
       else
        some (.inl ())
     else
      if (decide (122<((a.toNat:Nat):Int)))=true then
       if (decide (((a.toNat:Nat):Int)<48))=true then
        some (.inr false)
       else
        if (decide (57<((a.toNat:Nat):Int)))=true then
         some (.inr false)
        else
         some (.inl ())
      else
       some (.inl ()))
    (fun _=>
     some true)
    s_0.data.toList 0 ()
noncomputable def ZcZ (s_0:ByteArray):Option Bool:=
 (Qr s_0).bind fun a=>
 if a=true then
  (sAt s_0 0).bind fun b=>
  some (decide (97≤((b.toNat:Nat):Int)))
 else
  some false
noncomputable def Zcn (a:ByteArray):Option Bool:=
 if (decide (1<((a.size:Nat):Int)))=true then
  (sAt a 0).bind fun b=>
  if (((b.toNat:Nat):Int)==63)=true then
   chk (0≤1∧1≤((a.size:Nat):Int)) <|
   (Qr (a.extract (Int.toNat 1) a.size)).bind fun c=>
   some c
  else
   some false
 else
  some false
noncomputable def QU (s_0:ByteArray):Option Bool:=
 (Qr s_0).bind fun a=>
 if a=true then
  some true
 else
  (Zcn s_0).bind fun b=>
  some b
noncomputable def Xe (p_0:Zv):Option Bool:=
 (ZcZ p_0.rel).bind fun a=>
 if a=true then
  if (decide (3<((p_0.args.length:Nat):Int)))=true then
   some false
  else
   Zp (σ:=Unit)
    (fun (i7:Nat) (b:ByteArray) _=>
     (QU b).bind fun c=>
     if c=true then
      some (.inl ())
     else
      some (.inr false))
    (fun _=>
     some true)
    p_0.args 0 ()
 else
  some false
noncomputable def XL (a:(List Zl)):Option Bool:=
 if (decide (6<((a.length:Nat):Int)))=true then
  some false
 else
  Zp (σ:=Unit)
   (fun (c:Nat) (b:Zl) _=>
    (Zcn b.var).bind fun d=>
    if d=true then
     (Qr b.value).bind fun e=>
     if e=true then
      if (decide (0<((c:Nat):Int)))=true then
       (atI a (IntKind.i64.wrap (((c:Nat):Int) - 1))).bind fun f=>
       if (sLt f.var b.var)=true then
        some (.inl ())
       else
        some (.inr false)
      else
       some (.inl ())
     else
      some (.inr false)
    else
     some (.inr false))
   (fun _=>
    some true)
   a 0 ()
noncomputable def Zen (f_0:Zc):Option Bool:=
 (ZcZ f_0.rel).bind fun a=>
 if a=true then
  if (decide (3<((f_0.args.length:Nat):Int)))=true then
   some false
  else
   Zp (σ:=Unit)
    (fun (i7:Nat) (b:ByteArray) _=>
     (Qr b).bind fun c=>
     if c=true then
      some (.inl ())
     else
      some (.inr false))
    (fun _=>
     some true)
    f_0.args 0 ()
 else
  some false
noncomputable def ZaB (b_0:(List Zl)):Option (List Zl):=
 chk (b_0.length≤1073741824) <|
 some b_0
noncomputable def ZaL (b_0:(List Zl)) (term_1:ByteArray):Option (ByteArray × Bool):=
 (Qr term_1).bind fun b=>
 if b=true then
  some (term_1,true)
 else
  (Zcn term_1).bind fun c=>
  if c=true then
   Zp (σ:=Unit)
    (fun (i6:Nat) (a:Zl) _=>
     if (sEq a.var term_1)=true then
      some (.inr (a.value,true))
     else
      some (.inl ()))
    (fun _=>
     some ((⟨#[]⟩),false))
    b_0 0 ()
  else
   some ((⟨#[]⟩),false)
noncomputable def ZfW (append_0:(List Zl)) (b:ByteArray) (a_2:ByteArray):Option ((List Zl) × Bool):=
 (XL append_0).bind fun f=>
 if f=true then
  (Zcn b).bind fun g=>
  if g=true then
   (Qr a_2).bind fun i=>
   if i=true then
    (ZaL append_0 b).bind fun e=>
    if e.2=true then
     if (sEq e.1 a_2)=true then
      (ZaB append_0).bind fun j=>
      some (j,true)
     else
      some ([],false)
    else
     if (decide (6≤((append_0.length:Nat):Int)))=true then
      some ([],false)
     else
      Zp (σ:=(List Zl) × Bool)
       (fun (i13:Nat) (c:Zl) s=>
        match s with
        | (a,d)=>
        if d=true then
         chk (a.length+1≤1073741824) <|
         some (.inl ((a++[c]),true))
        else
         if (sLt c.var b||sEq c.var b)=true then
          chk (a.length+1≤1073741824) <|
          some (.inl ((a++[c]),false))
         else
          chk (a.length+1≤1073741824) <|
          chk (a.length+1+1≤1073741824) <|
          some (.inl (((a++[({ var:=b,value:=a_2 }:Zl)])++[c]),true)))
       (fun s=>
        match s with
        | (a,d)=>
        if d=true then
         some (a,true)
        else
         chk (a.length+1≤1073741824) <|
         some ((a++[({ var:=b,value:=a_2 }:Zl)]),true))
       append_0 0 ([],false)
   else
    some ([],false)
  else
   some ([],false)
 else
  some ([],false)
noncomputable def ZaD (append_0:Zv) (a:Zc) (a_2:(List Zl)):Option ((List Zl) × Bool):=
 (Xe append_0).bind fun f=>
 if f=true then
  (Zen a).bind fun g=>
  if g=true then
   (XL a_2).bind fun i=>
   if i=true then
    if (sEq append_0.rel a.rel)=true then
     if (((append_0.args.length:Nat):Int) != ((a.args.length:Nat):Int))=true then
      some ([],false)
     else
      (ZaB a_2).bind fun j=>
      Zp (σ:=(List Zl))
       (fun (d:Nat) (c:ByteArray) b=>
        (Qr c).bind fun k=>
        if k=true then
         (atI a.args ((d:Nat):Int)).bind fun l=>
         if (sEq c l)=true then
          some (.inl b)
         else
          some (.inr ([],false))
        else
         (atI a.args ((d:Nat):Int)).bind fun m=>
         (ZfW b c m).bind fun e=>
         if e.2=true then
          some (.inl e.1)
         else
          some (.inr ([],false)))
       (fun b=>
        some (b,true))
       append_0.args 0 j
    else
     some ([],false)
   else
    some ([],false)
  else
   some ([],false)
 else
  some ([],false)
noncomputable def ZaF (l_0:(List Zc)):Option (List Zc):=
 Zp (σ:=(List Zc))
  (fun (i9:Nat) (b:Zc) a=>
   (Y3 b).bind fun c=>
   chk (a.length+1≤1073741824) <|
   some (.inl (a++[c])))
  (fun a=>
   some a)
  l_0 0 []
noncomputable def Xy (p_0:Zv) (b_1:(List Zl)) (facts_2:(List Zc)):Option (List Zc):=
 Zp (σ:=(List Zc))
  (fun (i12:Nat) (b:Zc) a=>
   (ZaD p_0 b b_1).bind fun c=>
   if c.2=true then
    (Y3 b).bind fun d=>
    chk (a.length+1≤1073741824) <|
    some (.inl (a++[d]))
   else
    some (.inl a))
  (fun a=>
   some a)
  facts_2 0 []
noncomputable def Xc (p_0:Zv):Option Bool:=
 if (sEq p_0.rel ⟨#[]⟩)=true then
  some (((p_0.args.length:Nat):Int)==0)
 else
  some false
noncomputable def Zdf (x_0:Zm):Option Bool:=
 if (x_0.kind==1)=true then
  (Xe x_0.pattern).bind fun a=>
  if a=true then
   if (sEq x_0.left ⟨#[]⟩)=true then
    some (sEq x_0.right ⟨#[]⟩)
   else
    some false
  else
   some false
 else
  if (x_0.kind==2)=true then
   (Xe x_0.pattern).bind fun b=>
   if b=true then
    if (sEq x_0.left ⟨#[]⟩)=true then
     some (sEq x_0.right ⟨#[]⟩)
    else
     some false
   else
    some false
  else
   if (x_0.kind==3)=true then
    (QU x_0.left).bind fun c=>
    if c=true then
     (QU x_0.right).bind fun d=>
     if d=true then
      (Xc x_0.pattern).bind fun e=>
      some e
     else
      some false
    else
     some false
   else
    if (x_0.kind==4)=true then
     (QU x_0.left).bind fun f=>
     if f=true then
      (QU x_0.right).bind fun g=>
      if g=true then
       (Xc x_0.pattern).bind fun i=>
       some i
      else
       some false
     else
      some false
    else
     if (x_0.kind==5)=true then
      (QU x_0.left).bind fun j=>
      if j=true then
       (QU x_0.right).bind fun k=>
       if k=true then
        (Xc x_0.pattern).bind fun l=>
        some l
       else
        some false
      else
       some false
     else
      some false
noncomputable def Zh1 (x_0:Zm):Option Bool:=
 (Zdf x_0).bind fun a=>
 if a=true then
  some (decide (3≤x_0.kind))
 else
  some false
noncomputable def ZaJ (n_0:Int):Option ByteArray:=
 (Zm7 n_0).bind fun a=>
 some a
noncomputable def QK (s_0:ByteArray):Option (Int × Bool):=
 if (decide (((s_0.size:Nat):Int)<1))=true then
  some (0,false)
 else
  if (decide (4<((s_0.size:Nat):Int)))=true then
   some (0,false)
  else
   (ZkL s_0).bind fun a=>
   if a.2=true then
    if (decide (a.1<0))=true then
     some (0,false)
    else
     if (decide (9999<a.1))=true then
      some (0,false)
     else
      (ZaJ a.1).bind fun b=>
      if (sEq b s_0)=true then
       some (a.1,true)
      else
       some (0,false)
   else
    some (0,false)
noncomputable def Zb7 (append_0:Zm) (String_1:(List Zl)):Option Bool:=
 (Zh1 append_0).bind fun e=>
 if e=true then
  (XL String_1).bind fun f=>
  if f=true then
   (ZaL String_1 append_0.left).bind fun a=>
   (ZaL String_1 append_0.right).bind fun b=>
   if a.2=true then
    if b.2=true then
     if (append_0.kind==3)=true then
      some (sEq a.1 b.1)
     else
      if (append_0.kind==4)=true then
       some (!(sEq a.1 b.1))
      else
       (QK a.1).bind fun c=>
       (QK b.1).bind fun d=>
       if c.2=true then
        if d.2=true then
         some (decide (c.1<d.1))
        else
         some false
       else
        some false
    else
     some false
   else
    some false
  else
   some false
 else
  some false
noncomputable def ZbZ (x_0:Zm) (a:(List Zl)) (b:(List Zc)):Option Bool:=
 (Zdf x_0).bind fun c=>
 if c=true then
  (XL a).bind fun d=>
  if d=true then
   if (x_0.kind==1)=true then
    (Xy x_0.pattern a b).bind fun e=>
    some (decide (0<((e.length:Nat):Int)))
   else
    if (x_0.kind==2)=true then
     (Xy x_0.pattern a b).bind fun f=>
     some (((f.length:Nat):Int)==0)
    else
     (Zb7 x_0 a).bind fun g=>
     some g
  else
   some false
 else
  some false
noncomputable def Zaw (append_0:(List Zm)) (String_1:(List Zc)):Option (List Zt):=
 Zp (σ:=(List Zt))
  (fun (i246:Nat) (d:Zm) e=>
   Zp (σ:=(List Zt))
    (fun (i322:Nat) (c:Zt) a=>
     if (d.kind != 1)=true then
      (ZbZ d c.binding String_1).bind fun j=>
      if j=true then
       chk (a.length+1≤1073741824) <|
       some (.inl (a++[c]))
      else
       some (.inl a)
     else
      Zp (σ:=(List Zt))
       (fun (i335:Nat) (f:Zc) b=>
        (ZaD d.pattern f c.binding).bind fun g=>
        if g.2=true then
         (ZaF c.facts).bind fun i=>
         (Y3 f).bind fun k=>
         chk (i.length+1≤1073741824) <|
         chk (b.length+1≤1073741824) <|
         some (.inl (b++[({ facts:=(i++[k]),binding:=g.1 }:Zt)]))
        else
         some (.inl b))
       (fun b=>
        some (.inl b))
       String_1 0 a)
    (fun a=>
     some (.inl a))
    e 0 [])
  (fun e=>
   some e)
  append_0 0 ([({ facts:=[],binding:=[] }:Zt)])
noncomputable def YU (r_0:Zf):Option (List Zm):=
 Zp (σ:=(List Zm))
  (fun (i7:Nat) (b:Zm) a=>
   if (b.kind != 2)=true then
    chk (a.length+1≤1073741824) <|
    some (.inl (a++[b]))
   else
    some (.inl a))
  (fun a=>
   some a)
  r_0.cond 0 []
noncomputable def Ql (p_0:Zv) (b_1:(List Zl)):Option (Zc × Bool):=
 (Xe p_0).bind fun c=>
 if c=true then
  (XL b_1).bind fun d=>
  if d=true then
   Zp (σ:=(List ByteArray))
    (fun (i11:Nat) (e:ByteArray) a=>
     (ZaL b_1 e).bind fun b=>
     if b.2=true then
      chk (a.length+1≤1073741824) <|
      some (.inl (a++[b.1]))
     else
      some (.inr (({ rel:=(⟨#[]⟩),args:=[] }:Zc),false)))
    (fun a=>
     some (({ rel:=p_0.rel,args:=a }:Zc),true))
    p_0.args 0 []
  else
   some (({ rel:=(⟨#[]⟩),args:=[] }:Zc),false)
 else
  some (({ rel:=(⟨#[]⟩),args:=[] }:Zc),false)
noncomputable def Zat (a:(List Zf)) (name_1:ByteArray):Option Int:=
 Zp (σ:=Unit)
  (fun (i4:Nat) (b:Zf) _=>
   if (sEq b.name name_1)=true then
    some (.inr ((i4:Nat):Int))
   else
    some (.inl ()))
  (fun _=>
   some (-1))
  a 0 ()
noncomputable def Yp (l_0:(List ByteArray)):Option (List ByteArray):=
 chk (l_0.length≤1073741824) <|
 (ZbI l_0).bind fun c=>
 Zp (σ:=(List ByteArray))
  (fun (b:Nat) (d:ByteArray) a=>
   if (((b:Nat):Int)==0)=true then
    chk (a.length+1≤1073741824) <|
    some (.inl (a++[d]))
   else
    chk (0≤(IntKind.i64.wrap (((b:Nat):Int) - 1))∧(IntKind.i64.wrap (((b:Nat):Int) - 1))<((c.length:Nat):Int)) <|
    (c[(Int.toNat (IntKind.i64.wrap (((b:Nat):Int) - 1)))]?).bind fun e=>
    if (sEq e d)=true then
     some (.inl a)
    else
     chk (a.length+1≤1073741824) <|
     some (.inl (a++[d])))
  (fun a=>
   some a)
  c 0 []
noncomputable def QJ (l_0:(List ByteArray)):Option (List ByteArray):=
 Zp (σ:=(List ByteArray))
  (fun (i9:Nat) (b:ByteArray) a=>
   (Zcn b).bind fun c=>
   if c=true then
    chk (a.length+1≤1073741824) <|
    some (.inl (a++[b]))
   else
    some (.inl a))
  (fun a=>
   some a)
  l_0 0 []
noncomputable def QR (r_0:Zf) (n_1:Int):Option (List ByteArray):=
 Zp (σ:=(List ByteArray))
  (fun (i10:Nat) (b:Zm) a=>
   if (decide (((i10:Nat):Int)<n_1))=true then
    if (b.kind==1)=true then
     (QJ b.pattern.args).bind fun c=>
     chk (a.length+c.length≤1073741824) <|
     some (.inl (a++c))
    else
     some (.inl a)
   else
    some (.inl a))
  (fun a=>
   (Yp a).bind fun d=>
   some d)
  r_0.cond 0 []
noncomputable def Xh (l_0:(List ByteArray)) (s_1:ByteArray):Option Bool:=
 Zp (σ:=Unit)
  (fun (i4:Nat) (a:ByteArray) _=>
   if (sEq a s_1)=true then
    some (.inr true)
   else
    some (.inl ()))
  (fun _=>
   some false)
  l_0 0 ()
noncomputable def Zgk (x_0:Zm):Option (List ByteArray):=
 (ZaI x_0.pattern.args).bind fun a=>
 chk (a.length+2≤1073741824) <|
 some (a++[x_0.left,x_0.right])
noncomputable def Qn (x_0:Zm):Option (List ByteArray):=
 (Zgk x_0).bind fun a=>
 (QJ a).bind fun b=>
 (Yp b).bind fun c=>
 some c
noncomputable def XB (r_0:Zf) (k_1:Int) (a:ByteArray):Option Bool:=
 Zp (σ:=Unit)
  (fun (i16:Nat) (b:Zm) _=>
   if (((i16:Nat):Int) != k_1)=true then
    (Qn b).bind fun c=>
    (Xh c a).bind fun d=>
    if d=true then
     some (.inr true)
    else
     some (.inl ())
   else
    some (.inl ()))
  (fun _=>
   Zp (σ:=Unit)
    (fun (i25:Nat) (e:Zr) _=>
     (Xh e.pattern.args a).bind fun f=>
     if f=true then
      some (.inr true)
     else
      some (.inl ()))
    (fun _=>
     some false)
    r_0.thn 0 ())
  r_0.cond 0 ()
noncomputable def ZbE (a:Zf) (b:Int):Option Bool:=
 (atI a.cond b).bind fun c=>
 (QR a b).bind fun e=>
 (Qn c).bind fun f=>
 Zp (σ:=Unit)
  (fun (i11:Nat) (d:ByteArray) _=>
   if (c.kind==1)=true then
    some (.inl ())
   else
    (Xh e d).bind fun g=>
    if g=true then
     some (.inl ())
    else
     if (c.kind != 2)=true then
      some (.inr false)
     else
      (XB a b d).bind fun i=>
      if i=true then
       some (.inr false)
      else
       some (.inl ()))
  (fun _=>
   some true)
  f 0 ()
noncomputable def ZcH (a_0:Zr):Option Bool:=
 if (a_0.kind==1)=true then
  (Xe a_0.pattern).bind fun a=>
  some a
 else
  if (a_0.kind==2)=true then
   (Xe a_0.pattern).bind fun b=>
   some b
  else
   if (a_0.kind==3)=true then
    (Xc a_0.pattern).bind fun c=>
    some c
   else
    some false
noncomputable def Zbj (l_0:(List Zm)):Option (List ByteArray):=
 Zp (σ:=(List ByteArray))
  (fun (i9:Nat) (c:Zm) a=>
   (Qn c).bind fun b=>
   chk (a.length+b.length≤1073741824) <|
   some (.inl (a++b)))
  (fun a=>
   some a)
  l_0 0 []
noncomputable def Zek (append_0:Zf):Option Bool:=
 (ZcZ append_0.name).bind fun c=>
 if c=true then
  if (decide (append_0.priority<0))=true then
   some false
  else
   if (decide (9<append_0.priority))=true then
    some false
   else
    if (decide (((append_0.cond.length:Nat):Int)<1))=true then
     some false
    else
     if (decide (4<((append_0.cond.length:Nat):Int)))=true then
      some false
     else
      if (decide (((append_0.thn.length:Nat):Int)<1))=true then
       some false
      else
       if (decide (2<((append_0.thn.length:Nat):Int)))=true then
        some false
       else
        Zp (σ:=Unit)
         (fun (i50:Nat) (a:Zm) _=>
          (Zdf a).bind fun d=>
          if d=true then
           if (((i50:Nat):Int)==0)=true then
            if (a.kind != 1)=true then
             some (.inr false)
            else
             (ZbE append_0 ((i50:Nat):Int)).bind fun e=>
             if e=true then
              some (.inl ())
             else
              some (.inr false)
           else
            (ZbE append_0 ((i50:Nat):Int)).bind fun f=>
            if f=true then
             some (.inl ())
            else
             some (.inr false)
          else
           some (.inr false))
         (fun _=>
          (QR append_0 ((append_0.cond.length:Nat):Int)).bind fun g=>
          Zp (σ:=Unit)
           (fun (i81:Nat) (b:Zr) _=>
            (ZcH b).bind fun i=>
            if i=true then
             (QJ b.pattern.args).bind fun j=>
             Zp (σ:=Unit)
              (fun (i90:Nat) (k:ByteArray) _=>
               (Xh g k).bind fun l=>
               if l=true then
                some (.inl ())
               else
                some (.inr (.inr false)))
              (fun _=>
               some (.inl ()))
              j 0 ()
            else
             some (.inr false))
           (fun _=>
            (Zbj append_0.cond).bind fun m=>
            (Yp m).bind fun o=>
            some (decide (((o.length:Nat):Int)≤6)))
           append_0.thn 0 ())
         append_0.cond 0 ()
 else
  some false
noncomputable def ZcX (a:(List Zf)):Option Bool:=
 if (decide (6<((a.length:Nat):Int)))=true then
  some false
 else
  Zp (σ:=Unit)
   (fun (i8:Nat) (b:Zf) _=>
    (Zek b).bind fun c=>
    if c=true then
     (Zat a b.name).bind fun d=>
     if (d != ((i8:Nat):Int))=true then
      some (.inr false)
     else
      some (.inl ())
    else
     some (.inr false))
   (fun _=>
    some true)
   a 0 ()
noncomputable def Zdh (r_0:Zf):Option Bool:=
 Zp (σ:=Unit)
  (fun (i4:Nat) (a:Zr) _=>
   if (a.kind != 1)=true then
    some (.inr false)
   else
    some (.inl ()))
  (fun _=>
   some true)
  r_0.thn 0 ()
noncomputable def ZbY (r_0:Zf):Option Bool:=
 (Zek r_0).bind fun b=>
 if b=true then
  (Zdh r_0).bind fun c=>
  if c=true then
   Zp (σ:=Unit)
    (fun (i26:Nat) (a:Zm) _=>
     if (a.kind != 2)=true then
      some (.inl ())
     else
      (QR r_0 ((i26:Nat):Int)).bind fun d=>
      (Qn a).bind fun e=>
      Zp (σ:=Unit)
       (fun (i35:Nat) (f:ByteArray) _=>
        (Xh d f).bind fun g=>
        if g=true then
         some (.inl ())
        else
         some (.inr (.inr false)))
       (fun _=>
        some (.inl ()))
       e 0 ())
    (fun _=>
     some true)
    r_0.cond 0 ()
  else
   some false
 else
  some false
noncomputable def Qm (r_0:Zf):Option (List ByteArray):=
 Zp (σ:=(List ByteArray))
  (fun (i7:Nat) (b:Zr) a=>
   if (b.kind==1)=true then
    chk (a.length+1≤1073741824) <|
    some (.inl (a++[b.pattern.rel]))
   else
    if (b.kind==2)=true then
     chk (a.length+1≤1073741824) <|
     some (.inl (a++[b.pattern.rel]))
    else
     some (.inl a))
  (fun a=>
   (Yp a).bind fun c=>
   some c)
  r_0.thn 0 []
noncomputable def ZbA (r_0:Zf):Option (List ByteArray):=
 Zp (σ:=(List ByteArray))
  (fun (i7:Nat) (b:Zm) a=>
   if (b.kind==1)=true then
    chk (a.length+1≤1073741824) <|
    some (.inl (a++[b.pattern.rel]))
   else
    if (b.kind==2)=true then
     chk (a.length+1≤1073741824) <|
     some (.inl (a++[b.pattern.rel]))
    else
     some (.inl a))
  (fun a=>
   (Yp a).bind fun c=>
   some c)
  r_0.cond 0 []
noncomputable def ZcM (rules_0:(List Zf)) (a_1:ByteArray):Option (List (ByteArray × Bool)):=
 Zdu (σ:=(List (ByteArray × Bool)) × (List ByteArray))
  (fun s=>
   match s with
   | (g,a)=>
   if (decide (0<((a.length:Nat):Int)))=true then
    chk (0≤0∧0<((a.length:Nat):Int)) <|
    (a[(Int.toNat 0)]?).bind fun j=>
    chk (0≤1∧1≤((a.length:Nat):Int)) <|
    Zp (σ:=(List (ByteArray × Bool)) × (List ByteArray))
     (fun (i72:Nat) (i:Zf) s=>
      match s with
      | (d,e)=>
      (Qm i).bind fun k=>
      (Xh k j).bind fun l=>
      if l=true then
       (ZbA i).bind fun m=>
       Zp (σ:=(List (ByteArray × Bool)) × (List ByteArray))
        (fun (i83:Nat) (f:ByteArray) s=>
         match s with
         | (b,c)=>
         if (Q6 b f false)=true then
          some (.inl (b,c))
         else
          chk (c.length+1≤1073741824) <|
          some (.inl ((Ze1 b f true),(c++[f]))))
        (fun s=>
         match s with
         | (b,c)=>
         some (.inl (b,c)))
        m 0 (d,e)
      else
       some (.inl (d,e)))
     (fun s=>
      match s with
      | (d,e)=>
      some (.inl (d,e)))
     rules_0 0 (g,(List.drop (Int.toNat 1) a))
   else
    some (.inr g))
  ([],[a_1])
noncomputable def Za7 (rules_0:(List Zf)):Option Bool:=
 (ZcX rules_0).bind fun d=>
 if d=true then
  Zp (σ:=Unit)
   (fun (i59:Nat) (a:Zf) _=>
    (ZbY a).bind fun e=>
    if e=true then
     Zp (σ:=Unit)
      (fun (i79:Nat) (b:Zm) _=>
       if (b.kind != 2)=true then
        some (.inl ())
       else
        (ZcM rules_0 b.pattern.rel).bind fun f=>
        (Qm a).bind fun g=>
        Zp (σ:=Unit)
         (fun (i86:Nat) (c:ByteArray) _=>
          if (sEq c b.pattern.rel)=true then
           some (.inr (.inr (.inr false)))
          else
           if (Q6 f c false)=true then
            some (.inr (.inr (.inr false)))
           else
            some (.inl ()))
         (fun _=>
          some (.inl ()))
         g 0 ())
      (fun _=>
       some (.inl ()))
      a.cond 0 ()
    else
     some (.inr false))
   (fun _=>
    some true)
   rules_0 0 ()
 else
  some false
noncomputable def XP (a_0:Int) (b_1:Int):Option Int:=
 if (decide (a_0<b_1))=true then
  some (-1)
 else
  if (decide (b_1<a_0))=true then
   some 1
  else
   some 0
noncomputable def QI (a_0:ByteArray) (b_1:ByteArray):Option Int:=
 (QK a_0).bind fun b=>
 (QK b_1).bind fun a=>
 if b.2=true then
  if a.2=true then
   (XP b.1 a.1).bind fun c=>
   some c
  else
   some (-1)
 else
  if a.2=true then
   some 1
  else
   (Zeg a_0 b_1).bind fun d=>
   some d
noncomputable def Qb (a_0:Zc) (a:Zc):Option Int:=
 (Zeg a_0.rel a.rel).bind fun b=>
 if (b != 0)=true then
  some b
 else
  Zp (σ:=Unit)
   (fun (c:Nat) (e:ByteArray) _=>
    if (decide (((c:Nat):Int)<((a.args.length:Nat):Int)))=true then
     (atI a.args ((c:Nat):Int)).bind fun f=>
     (QI e f).bind fun d=>
     if (d != 0)=true then
      some (.inr d)
     else
      some (.inl ())
    else
     (XP ((a_0.args.length:Nat):Int) ((a.args.length:Nat):Int)).bind fun g=>
     some (.inr g))
   (fun _=>
    (XP ((a_0.args.length:Nat):Int) ((a.args.length:Nat):Int)).bind fun i=>
    some i)
   a_0.args 0 ()
noncomputable def ZcU (a:(List Zc)):Option Bool:=
 if (decide (24<((a.length:Nat):Int)))=true then
  some false
 else
  Zp (σ:=Unit)
   (fun (b:Nat) (c:Zc) _=>
    (Zen c).bind fun d=>
    if d=true then
     if (decide (0<((b:Nat):Int)))=true then
      (atI a (IntKind.i64.wrap (((b:Nat):Int) - 1))).bind fun e=>
      (Qb e c).bind fun f=>
      if (decide (0≤f))=true then
       some (.inr false)
      else
       some (.inl ())
     else
      some (.inl ())
    else
     some (.inr false))
   (fun _=>
    some true)
   a 0 ()
noncomputable def X2 (l_0:(List Zc)) (f_1:Zc):Option (List Zc):=
 Zp (σ:=(List Zc) × Bool)
  (fun (i21:Nat) (b:Zc) s=>
   match s with
   | (a,c)=>
   if c=true then
    (Y3 b).bind fun d=>
    chk (a.length+1≤1073741824) <|
    some (.inl ((a++[d]),true))
   else
    (Qb b f_1).bind fun e=>
    if (decide (0<e))=true then
     (Y3 f_1).bind fun f=>
     chk (a.length+1≤1073741824) <|
     (Y3 b).bind fun g=>
     chk (a.length+1+1≤1073741824) <|
     some (.inl (((a++[f])++[g]),true))
    else
     (Y3 b).bind fun i=>
     chk (a.length+1≤1073741824) <|
     some (.inl ((a++[i]),false)))
  (fun s=>
   match s with
   | (a,c)=>
   if c=true then
    some a
   else
    (Y3 f_1).bind fun j=>
    chk (a.length+1≤1073741824) <|
    some (a++[j]))
  l_0 0 ([],false)
noncomputable def Yv (append_0:(List Zf)) (String_1:(List Zc)):Option ((List Zc) × Bool):=
 (Za7 append_0).bind fun k=>
 if k=true then
  (ZcU String_1).bind fun l=>
  if l=true then
   (ZaF String_1).bind fun m=>
   Zdu (σ:=(List Zc) × Bool)
    (fun s=>
     match s with
     | (g,o)=>
     if o=true then
      Zp (σ:=(List Zc) × Bool)
       (fun (i423:Nat) (i:Zf) s=>
        match s with
        | (b,c)=>
        (YU i).bind fun p=>
        (Zaw p b).bind fun q=>
        Zp (σ:=(List Zc) × Bool)
         (fun (i480:Nat) (t:Zt) s=>
          match s with
          | (d,e)=>
          Zp (σ:=(List Zc) × Bool)
           (fun (i501:Nat) (u:Zr) s=>
            match s with
            | (a,f)=>
            (Ql u.pattern t.binding).bind fun j=>
            (Yh a j.1).bind fun v=>
            if (decide (0≤v))=true then
             some (.inl (a,f))
            else
             if (decide (24≤((a.length:Nat):Int)))=true then
              some (.inr (.inr (.inr (.inr ([],false)))))
             else
              (X2 a j.1).bind fun w=>
              some (.inl (w,true)))
           (fun s=>
            match s with
            | (a,f)=>
            some (.inl (a,f)))
           i.thn 0 (d,e))
         (fun s=>
          match s with
          | (d,e)=>
          some (.inl (d,e)))
         q 0 (b,c))
       (fun s=>
        match s with
        | (b,c)=>
        some (.inl (b,c)))
       append_0 0 (g,false)
     else
      some (.inr (g,true)))
    (m,true)
  else
   some ([],false)
 else
  some ([],false)
noncomputable def ZfY (l_0:(List Int)) (n_1:Int):Option Bool:=
 Zp (σ:=Unit)
  (fun (i4:Nat) (a:Int) _=>
   if (a==n_1)=true then
    some (.inr true)
   else
    some (.inl ()))
  (fun _=>
   some false)
  l_0 0 ()
noncomputable def Zcy (facts_0:(List Zc)) (l_1:(List Zc)):Option (List Int):=
 Zp (σ:=(List Int))
  (fun (i16:Nat) (c:Zc) a=>
   (Yh facts_0 c).bind fun b=>
   if (decide (0≤b))=true then
    (ZfY a b).bind fun d=>
    if d=true then
     some (.inl a)
    else
     chk (a.length+1≤1073741824) <|
     some (.inl (a++[b]))
   else
    some (.inl a))
  (fun a=>
   (ZeM a).bind fun e=>
   some e)
  l_1 0 []
noncomputable def Zbt (a_0:(List Int)) (a:(List Int)):Option Bool:=
 if (((a_0.length:Nat):Int) != ((a.length:Nat):Int))=true then
  some false
 else
  Zp (σ:=Unit)
   (fun (b:Nat) (c:Int) _=>
    (atI a ((b:Nat):Int)).bind fun d=>
    if (c != d)=true then
     some (.inr false)
    else
     some (.inl ()))
   (fun _=>
    some true)
   a_0 0 ()
noncomputable def Zbb (a_0:Zh) (b_1:Zh):Option Bool:=
 if (a_0.for_==b_1.for_)=true then
  (Zbt a_0.inn b_1.inn).bind fun a=>
  if a=true then
   (Zbt a_0.outs b_1.outs).bind fun b=>
   some b
  else
   some false
 else
  some false
noncomputable def ZaK (l_0:(List Zh)) (r_1:Zh):Option Bool:=
 Zp (σ:=Unit)
  (fun (i6:Nat) (a:Zh) _=>
   (Zbb a r_1).bind fun b=>
   if b=true then
    some (.inr true)
   else
    some (.inl ()))
  (fun _=>
   some false)
  l_0 0 ()
noncomputable def Zbe (append_0:(List Zf)) (String_1:(List Zc)):Option ((List Zc) × ZK × (List Zaj) × Bool):=
 (Yv append_0 String_1).bind fun a=>
 if a.2=true then
  Zp (σ:=(List Zh) × (List Zaj))
   (fun (i941:Nat) (u:Zc) s=>
    match s with
    | (e,f)=>
    (Yh a.1 u).bind fun v=>
    chk (e.length+1≤1073741824) <|
    chk (f.length+1≤1073741824) <|
    some (.inl ((e++[({ for_:=v,inn:=[],outs:=[] }:Zh)]),(f++[({ rule:=(⟨#[]⟩),facts:=[] }:Zaj)]))))
   (fun s=>
    match s with
    | (e,f)=>
    Zp (σ:=(List Zh) × (List Zaj))
     (fun (i1660:Nat) (g:Zf) s=>
      match s with
      | (i,k)=>
      (YU g).bind fun w=>
      (Zaw w a.1).bind fun x=>
      Zp (σ:=(List Zh) × (List Zaj))
       (fun (i1803:Nat) (j:Zt) s=>
        match s with
        | (l,m)=>
        Zp (σ:=(List Zc))
         (fun (i1841:Nat) (o:Zm) c=>
          if (o.kind==2)=true then
           (Ql o.pattern j.binding).bind fun y=>
           chk (c.length+1≤1073741824) <|
           some (.inl (c++[y.1]))
          else
           some (.inl c))
         (fun c=>
          Zp (σ:=(List Zh) × (List Zaj))
           (fun (i1865:Nat) (z:Zr) s=>
            match s with
            | (b,d)=>
            (Ql z.pattern j.binding).bind fun A=>
            (Yh a.1 A.1).bind fun p=>
            (Zcy a.1 j.facts).bind fun q=>
            (Zcy a.1 c).bind fun t=>
            (ZaK b ({ for_:=p,inn:=q,outs:=t }:Zh)).bind fun B=>
            if B=true then
             some (.inl (b,d))
            else
             chk (b.length+1≤1073741824) <|
             chk (d.length+1≤1073741824) <|
             some (.inl ((b++[({ for_:=p,inn:=q,outs:=t }:Zh)]),(d++[({ rule:=g.name,facts:=j.facts }:Zaj)]))))
           (fun s=>
            match s with
            | (b,d)=>
            some (.inl (b,d)))
           g.thn 0 (l,m))
         g.cond 0 [])
       (fun s=>
        match s with
        | (l,m)=>
        some (.inl (l,m)))
       x 0 (i,k))
     (fun s=>
      match s with
      | (i,k)=>
      if (decide (60<((i.length:Nat):Int)))=true then
       some ([],({ nodes:=0,reasons:=[] }:ZK),[],false)
      else
       some (a.1,({ nodes:=((a.1.length:Nat):Int),reasons:=i }:ZK),k,true))
     append_0 0 (e,f))
   String_1 0 ([],[])
 else
  some ([],({ nodes:=0,reasons:=[] }:ZK),[],false)
noncomputable def Xz (rules_0:(List Zf)) (base_1:(List Zc)):Option ((List Zc) × ZK × Bool):=
 (Zbe rules_0 base_1).bind fun a=>
 some (a.1,a.2.1,a.2.2.2)
noncomputable def ZAp (a:(List Int)) (n_1:Int):Option Bool:=
 Zp (σ:=Unit)
  (fun (b:Nat) (c:Int) _=>
   (ZaU c 0 (IntKind.i64.wrap (n_1 - 1))).bind fun d=>
   if d=true then
    if (decide (0<((b:Nat):Int)))=true then
     (atI a (IntKind.i64.wrap (((b:Nat):Int) - 1))).bind fun e=>
     if (decide (c≤e))=true then
      some (.inr false)
     else
      some (.inl ())
    else
     some (.inl ())
   else
    some (.inr false))
  (fun _=>
   some true)
  a 0 ()
noncomputable def ZAr (b_0:ZK):Option Bool:=
 Zp (σ:=Unit)
  (fun (i11:Nat) (a:Zh) _=>
   (ZaU a.for_ 0 (IntKind.i64.wrap (b_0.nodes - 1))).bind fun b=>
   if b=true then
    (ZAp a.inn b_0.nodes).bind fun c=>
    if c=true then
     (ZAp a.outs b_0.nodes).bind fun d=>
     if d=true then
      some (.inl ())
     else
      some (.inr false)
    else
     some (.inr false)
   else
    some (.inr false))
  (fun _=>
   (ZaU b_0.nodes 0 24).bind fun e=>
   if e=true then
    some (decide (((b_0.reasons.length:Nat):Int)≤60))
   else
    some false)
  b_0.reasons 0 ()
noncomputable def ZBf (l_0:(List Int)):Option (List Int):=
 chk (l_0.length≤1073741824) <|
 some l_0
noncomputable def ZAC (g:ZK) (o:Int):Option (List Bool):=
 chk (0≤g.nodes∧g.nodes≤1073741824) <|
 Zdu (σ:=(List Bool) × (List Int) × Int)
  (fun s=>
   match s with
   | (l,m,d)=>
   if (decide (d<((m.length:Nat):Int)))=true then
    Zp (σ:=(List Bool) × (List Int))
     (fun (i95:Nat) (a:Zh) s=>
      match s with
      | (i,b)=>
      chk (0≤d∧d<((b.length:Nat):Int)) <|
      (b[(Int.toNat d)]?).bind fun p=>
      if (a.for_ != p)=true then
       some (.inl (i,b))
      else
       (ZBf a.inn).bind fun j=>
       chk (j.length+a.outs.length≤1073741824) <|
       Zdu (σ:=(List Bool) × (List Int) × Int)
        (fun s=>
         match s with
         | (e,k,c)=>
         if (decide (c<((j.length+a.outs.length:Nat):Int)))=true then
          chk (0≤c∧c<((j.length+a.outs.length:Nat):Int)) <|
          ((j++a.outs)[(Int.toNat c)]?).bind fun f=>
          chk (0≤f∧f<((e.length:Nat):Int)) <|
          (e[(Int.toNat f)]?).bind fun q=>
          if q=true then
           some (.inl (e,k,(IntKind.i64.wrap (c+1))))
          else
           chk (k.length+1≤1073741824) <|
           some (.inl ((List.set e (Int.toNat f) true),(k++[f]),(IntKind.i64.wrap (c+1))))
         else
          some (.inr (.inl (e,k))))
        (i,b,0))
     (fun s=>
      match s with
      | (i,b)=>
      some (.inl (i,b,(IntKind.i64.wrap (d+1)))))
     g.reasons 0 (l,m)
   else
    some (.inr l))
  ((List.replicate (Int.toNat g.nodes) false),[o],0)
noncomputable def ZAd (b_0:ZK):Option Bool:=
 (ZAr b_0).bind fun d=>
 if d=true then
  Zp (σ:=Unit)
   (fun (i27:Nat) (a:Zh) _=>
    Zp (σ:=Unit)
     (fun (i36:Nat) (b:Int) _=>
      if (b==a.for_)=true then
       some (.inr (.inr false))
      else
       (ZAC b_0 b).bind fun c=>
       chk (0≤a.for_∧a.for_<((c.length:Nat):Int)) <|
       (c[(Int.toNat a.for_)]?).bind fun e=>
       if e=true then
        some (.inr (.inr false))
       else
        some (.inl ()))
     (fun _=>
      some (.inl ()))
     a.outs 0 ())
   (fun _=>
    some true)
   b_0.reasons 0 ()
 else
  some false
noncomputable def ZAz (d:ZK):Option (List Int):=
 (ZAd d).bind fun p=>
 if p=true then
  chk (0≤d.nodes∧d.nodes≤1073741824) <|
  Zdu (σ:=(List Int) × Int)
   (fun s=>
    match s with
    | (i,j)=>
    if (decide (j≤d.nodes))=true then
     Zp (σ:=(List Int))
      (fun (i194:Nat) (a:Zh) e=>
       Zp (σ:=(List Int))
        (fun (i216:Nat) (f:Int) b=>
         chk (0≤a.for_∧a.for_<((b.length:Nat):Int)) <|
         (b[(Int.toNat a.for_)]?).bind fun k=>
         chk (0≤f∧f<((b.length:Nat):Int)) <|
         (b[(Int.toNat f)]?).bind fun l=>
         some (.inl (List.set b (Int.toNat a.for_) (if k<l then l else k))))
        (fun b=>
         Zp (σ:=(List Int))
          (fun (i228:Nat) (g:Int) c=>
           chk (0≤a.for_∧a.for_<((c.length:Nat):Int)) <|
           (c[(Int.toNat a.for_)]?).bind fun m=>
           chk (0≤g∧g<((c.length:Nat):Int)) <|
           (c[(Int.toNat g)]?).bind fun o=>
           some (.inl (List.set c (Int.toNat a.for_) (if m<(IntKind.i64.wrap (o+1)) then (IntKind.i64.wrap (o+1)) else m))))
          (fun c=>
           some (.inl c))
          a.outs 0 b)
        a.inn 0 e)
      (fun e=>
       some (.inl (e,(IntKind.i64.wrap (j+1)))))
      d.reasons 0 i
    else
     some (.inr i))
   ((List.replicate (Int.toNat d.nodes) 0),0)
 else
  some []
noncomputable def ZAq (l_0:(List Int)) (b:(List Int)) (round_2:Int):Option Bool:=
 Zp (σ:=Unit)
  (fun (i6:Nat) (c:Int) _=>
   (atI b c).bind fun a=>
   if (decide (a<0))=true then
    some (.inr false)
   else
    if (decide (round_2≤a))=true then
     some (.inr false)
    else
     some (.inl ()))
  (fun _=>
   some true)
  l_0 0 ()
noncomputable def ZAH (l_0:(List Int)) (a:(List Int)):Option Bool:=
 Zp (σ:=Unit)
  (fun (i6:Nat) (b:Int) _=>
   (atI a b).bind fun c=>
   if (decide (0≤c))=true then
    some (.inr false)
   else
    some (.inl ()))
  (fun _=>
   some true)
  l_0 0 ()
noncomputable def ZAo (append_0:ZK) (e:(List Int)) (a_2:Int) (c:(List Int)) (a_4:Int):Option (List Int):=
 Zdu (σ:=(List Int) × Int)
  (fun s=>
   match s with
   | (b,a)=>
   if (decide (a<append_0.nodes))=true then
    (atI e a).bind fun f=>
    if (f != a_2)=true then
     some (.inl (b,(IntKind.i64.wrap (a+1))))
    else
     (atI c a).bind fun g=>
     if (decide (0≤g))=true then
      some (.inl (b,(IntKind.i64.wrap (a+1))))
     else
      Zp (σ:=Unit)
       (fun (i38:Nat) (d:Zh) _=>
        if (d.for_==a)=true then
         (ZAq d.inn c a_4).bind fun i=>
         if i=true then
          (ZAH d.outs c).bind fun j=>
          if j=true then
           chk (b.length+1≤1073741824) <|
           some (.inr (.inl ((b++[a]),(IntKind.i64.wrap (a+1)))))
          else
           some (.inl ())
         else
          some (.inl ())
        else
         some (.inl ()))
       (fun _=>
        some (.inl (b,(IntKind.i64.wrap (a+1)))))
       append_0.reasons 0 ()
   else
    some (.inr b))
  ([],0)
noncomputable def ZAB (b_0:ZK):Option (List Int):=
 (ZAd b_0).bind fun m=>
 if m=true then
  (ZAz b_0).bind fun g=>
  Zdu (σ:=(List Int) × Int)
   (fun s=>
    match s with
    | (e,i)=>
    if (decide (i<b_0.nodes))=true then
     chk (e.length+1≤1073741824) <|
     some (.inl ((e++[(-1)]),(IntKind.i64.wrap (i+1))))
    else
     Zdu (σ:=(List Int) × Int × Int)
      (fun s=>
       match s with
       | (f,j,b)=>
       if (decide (b<b_0.nodes))=true then
        (ZAo b_0 g b f j).bind fun o=>
        Zdu (σ:=(List Int) × (List Int) × Int)
         (fun s=>
          match s with
          | (k,l,c)=>
          if (decide (0<((l.length:Nat):Int)))=true then
           Zp (σ:=(List Int))
            (fun (i56:Nat) (d:Int) a=>
             chk (0≤d∧d<((a.length:Nat):Int)) <|
             (a[(Int.toNat d)]?).bind fun q=>
             some (.inl (List.set a (Int.toNat d) c)))
            (fun a=>
             (ZAo b_0 g b a (IntKind.i64.wrap (c+1))).bind fun p=>
             some (.inl (a,p,(IntKind.i64.wrap (c+1)))))
            l 0 k
          else
           some (.inr (.inl (k,c,(IntKind.i64.wrap (b+1))))))
         (f,o,j)
       else
        some (.inr (.inr f)))
      (e,0,0))
   ([],0)
 else
  some []
noncomputable def ZAA (b_0:ZK):Option (List Bool):=
 (ZAB b_0).bind fun b=>
 Zp (σ:=(List Bool))
  (fun (i6:Nat) (c:Int) a=>
   chk (a.length+1≤1073741824) <|
   some (.inl (a++[(decide (0≤c))])))
  (fun a=>
   some a)
  b 0 []
noncomputable def ZBh (l_0:(List Zc)) (b_1:ZK):Option (List Zc):=
 (ZAA b_1).bind fun b=>
 Zp (σ:=(List Zc))
  (fun (i10:Nat) (c:Zc) a=>
   if (decide (((i10:Nat):Int)<((b.length:Nat):Int)))=true then
    chk (0≤((i10:Nat):Int)∧((i10:Nat):Int)<((b.length:Nat):Int)) <|
    (b[i10]?).bind fun d=>
    if d=true then
     (X1 c).bind fun e=>
     chk (a.length+1≤1073741824) <|
     some (.inl (a++[e]))
    else
     some (.inl a)
   else
    some (.inr a))
  (fun a=>
   some a)
  l_0 0 []
noncomputable def ZAw (rules_0:(List Zf)) (base_1:(List Zc)):Option ((List Zc) × Bool):=
 (Xw rules_0 base_1).bind fun a=>
 if a.2.2=true then
  (ZBh a.1 a.2.1).bind fun b=>
  some (b,true)
 else
  some ([],false)
noncomputable def ZAW (d:ZK):Option (List Int):=
 chk (0≤d.nodes∧d.nodes≤1073741824) <|
 Zdu (σ:=(List Int) × Bool)
  (fun s=>
   match s with
   | (j,o)=>
   if o=true then
    Zp (σ:=(List Int) × Bool)
     (fun (i155:Nat) (b:Zh) s=>
      match s with
      | (a,f)=>
      chk (0≤b.for_∧b.for_<((a.length:Nat):Int)) <|
      (a[(Int.toNat b.for_)]?).bind fun k=>
      Zp (σ:=Int)
       (fun (i173:Nat) (g:Int) e=>
        chk (0≤g∧g<((a.length:Nat):Int)) <|
        (a[(Int.toNat g)]?).bind fun l=>
        some (.inl (if e<l then l else e)))
       (fun e=>
        Zp (σ:=Int)
         (fun (i182:Nat) (i:Int) c=>
          chk (0≤i∧i<((a.length:Nat):Int)) <|
          (a[(Int.toNat i)]?).bind fun m=>
          some (.inl (if c<(IntKind.i64.wrap (m+1)) then (IntKind.i64.wrap (m+1)) else c)))
         (fun c=>
          if (decide (k<c))=true then
           some (.inl ((List.set a (Int.toNat b.for_) c),true))
          else
           some (.inl (a,f)))
         b.outs 0 e)
       b.inn 0 k)
     (fun s=>
      match s with
      | (a,f)=>
      some (.inl (a,f)))
     d.reasons 0 (j,false)
   else
    some (.inr j))
  ((List.replicate (Int.toNat d.nodes) 0),true)
noncomputable def ZAk (r_0:Zh) (a:(List Int)) (before_2:Int):Option Bool:=
 Zp (σ:=Unit)
  (fun (i14:Nat) (c:Int) _=>
   (atI a c).bind fun b=>
   if (decide (b<0))=true then
    some (.inr false)
   else
    if (decide (before_2≤b))=true then
     some (.inr false)
    else
     some (.inl ()))
  (fun _=>
   Zp (σ:=Unit)
    (fun (i22:Nat) (d:Int) _=>
     (atI a d).bind fun e=>
     if (decide (0≤e))=true then
      some (.inr false)
     else
      some (.inl ()))
    (fun _=>
     some true)
    r_0.outs 0 ())
  r_0.inn 0 ()
noncomputable def ZAU (d:ZK):Option (List Int):=
 (ZAW d).bind fun g=>
 chk (0≤d.nodes∧d.nodes≤1073741824) <|
 Zdu (σ:=(List Int) × Int × Int)
  (fun s=>
   match s with
   | (i,a,m)=>
   if (decide (a<((Int.toNat d.nodes:Nat):Int)))=true then
    chk (0≤a∧a<((i.length:Nat):Int)) <|
    (i[(Int.toNat a)]?).bind fun u=>
    chk (a<((g.length:Nat):Int)) <|
    (g[(Int.toNat a)]?).bind fun o=>
    some (.inl ((List.set i (Int.toNat a) (-1)),(IntKind.i64.wrap (a+1)),(if m<o then o else m)))
   else
    Zdu (σ:=(List Int) × Int × Int)
     (fun s=>
      match s with
      | (e,j,k)=>
      if (decide (k≤m))=true then
       Zp (σ:=(List Int))
        (fun (i109:Nat) (c:Zh) b=>
         chk (0≤c.for_∧c.for_<((g.length:Nat):Int)) <|
         (g[(Int.toNat c.for_)]?).bind fun p=>
         if (p==k)=true then
          chk (c.for_<((e.length:Nat):Int)) <|
          (e[(Int.toNat c.for_)]?).bind fun q=>
          if (decide (q<0))=true then
           (ZAk c e j).bind fun t=>
           if t=true then
            chk (b.length+1≤1073741824) <|
            some (.inl (b++[c.for_]))
           else
            some (.inl b)
          else
           some (.inl b)
         else
          some (.inl b))
        (fun b=>
         if (((b.length:Nat):Int)==0)=true then
          some (.inl (e,j,(IntKind.i64.wrap (k+1))))
         else
          Zp (σ:=(List Int))
           (fun (i120:Nat) (l:Int) f=>
            chk (0≤l∧l<((f.length:Nat):Int)) <|
            (f[(Int.toNat l)]?).bind fun v=>
            some (.inl (List.set f (Int.toNat l) j)))
           (fun f=>
            some (.inl (f,(IntKind.i64.wrap (j+1)),k)))
           b 0 e)
        d.reasons 0 []
      else
       some (.inr (.inr e)))
     (i,0,0))
  ((List.replicate (Int.toNat d.nodes) 0),0,0)
noncomputable def ZAV (b_0:ZK):Option (List Bool):=
 (ZAU b_0).bind fun b=>
 Zp (σ:=(List Bool))
  (fun (i7:Nat) (c:Int) a=>
   chk (a.length+1≤1073741824) <|
   some (.inl (a++[(decide (0≤c))])))
  (fun a=>
   some a)
  b 0 []
noncomputable def ZAy (b:(List Zc)) (b_1:ZK):Option (List Zc):=
 (ZAV b_1).bind fun c=>
 Zp (σ:=(List Zc))
  (fun (d:Nat) (e:Bool) a=>
   if e=true then
    (atI b ((d:Nat):Int)).bind fun f=>
    (Y3 f).bind fun g=>
    chk (a.length+1≤1073741824) <|
    some (.inl (a++[g]))
   else
    some (.inl a))
  (fun a=>
   some a)
  c 0 []
noncomputable def ZAv (rules_0:(List Zf)) (base_1:(List Zc)):Option ((List Zc) × Bool):=
 (Xz rules_0 base_1).bind fun a=>
 if a.2.2=true then
  (ZAy a.1 a.2.1).bind fun b=>
  some (b,true)
 else
  some ([],false)
noncomputable def ZDG (a:Zf) (b:Int) (c:(List Zc)):Option (List Zt):=
 (Zev a).bind fun d=>
 if d=true then
  (ZcW c).bind fun e=>
  if e=true then
   (ZaU b 0 ((a.cond.length:Nat):Int)).bind fun f=>
   if f=true then
    chk (0≤b∧b≤((a.cond.length:Nat):Int)) <|
    (Zay (List.drop 0 (List.take (Int.toNat b) a.cond)) c).bind fun g=>
    some g
   else
    some []
  else
   some []
 else
  some []
noncomputable def ZDJ (a_0:(List Zc)) (a:(List Zc)):Option Bool:=
 if (((a_0.length:Nat):Int) != ((a.length:Nat):Int))=true then
  some false
 else
  Zp (σ:=Unit)
   (fun (b:Nat) (c:Zc) _=>
    (atI a ((b:Nat):Int)).bind fun d=>
    (Zk4 c d).bind fun e=>
    if e=true then
     some (.inl ())
    else
     some (.inr false))
   (fun _=>
    some true)
   a_0 0 ()
noncomputable def ZDH (r_0:Zf) (model_1:(List Zc)) (facts_2:(List Zc)):Option (Zt × Bool):=
 (ZDG r_0 ((r_0.cond.length:Nat):Int) model_1).bind fun b=>
 Zp (σ:=Unit)
  (fun (i7:Nat) (a:Zt) _=>
   (ZDJ a.facts facts_2).bind fun c=>
   if c=true then
    some (.inr (a,true))
   else
    some (.inl ()))
  (fun _=>
   some (({ facts:=[],binding:=[] }:Zt),false))
  b 0 ()
noncomputable def ZDK (b:(List Zf)) (String_1:(List Zc)) (a_2:(List Zc)) (c:(List Zuw)) (a_4:Zuw):Option Bool:=
 if (sEq a_4.rule ⟨#[]⟩)=true then
  if (((a_4.uses.length:Nat):Int)==0)=true then
   (Zau String_1 a_4.fact).bind fun k=>
   some (decide (0≤k))
  else
   some false
 else
  (ZeG b a_4.rule).bind fun d=>
  Zp (σ:=(List Zc))
   (fun (i28:Nat) (e:Int) a=>
    (ZaU e 0 (IntKind.i64.wrap (((c.length:Nat):Int) - 1))).bind fun l=>
    if l=true then
     (atI c e).bind fun m=>
     chk (a.length+1≤1073741824) <|
     some (.inl (a++[m.fact]))
    else
     some (.inr false))
   (fun a=>
    if (decide (d<0))=true then
     some false
    else
     (atI b d).bind fun f=>
     (ZDH f a_2 a).bind fun g=>
     Zp (σ:=Bool)
      (fun (i42:Nat) (o:Zr) i=>
       if i=true then
        (Xi o.pattern g.1.binding).bind fun j=>
        if j.2=true then
         (Zk4 j.1 a_4.fact).bind fun p=>
         if p=true then
          some (.inr true)
         else
          some (.inl true)
        else
         some (.inl true)
       else
        some (.inr false))
      (fun i=>
       some false)
      f.thn 0 g.2)
   a_4.uses 0 []
noncomputable def ZDE (rules_0:(List Zf)) (base_1:(List Zc)) (steps_2:(List Zuw)):Option Bool:=
 (ZAw rules_0 base_1).bind fun a=>
 if a.2=true then
  if (decide (60<((steps_2.length:Nat):Int)))=true then
   some false
  else
   Zp (σ:=Unit)
    (fun (i7:Nat) (b:Zuw) _=>
     chk (0≤((i7:Nat):Int)∧((i7:Nat):Int)≤((steps_2.length:Nat):Int)) <|
     (ZDK rules_0 base_1 a.1 (List.drop 0 (List.take i7 steps_2)) b).bind fun c=>
     if c=true then
      some (.inl ())
     else
      some (.inr false))
    (fun _=>
     some true)
    steps_2 0 ()
 else
  some false
noncomputable def ZDI (b:Zf) (a:Int) (c:(List Zc)):Option (List Zt):=
 (Zek b).bind fun d=>
 if d=true then
  (ZcU c).bind fun e=>
  if e=true then
   if (decide (a<0))=true then
    some []
   else
    if (decide (((b.cond.length:Nat):Int)<a))=true then
     some []
    else
     chk (0≤a∧a≤((b.cond.length:Nat):Int)) <|
     (Zaw (List.drop 0 (List.take (Int.toNat a) b.cond)) c).bind fun f=>
     some f
  else
   some []
 else
  some []
noncomputable def ZDA (a_0:(List Zc)) (a:(List Zc)):Option Bool:=
 if (((a_0.length:Nat):Int) != ((a.length:Nat):Int))=true then
  some false
 else
  Zp (σ:=Unit)
   (fun (b:Nat) (c:Zc) _=>
    (atI a ((b:Nat):Int)).bind fun d=>
    (Zbp c d).bind fun e=>
    if e=true then
     some (.inl ())
    else
     some (.inr false))
   (fun _=>
    some true)
   a_0 0 ()
noncomputable def ZDB (r_0:Zf) (model_1:(List Zc)) (l_2:(List Zc)):Option (Zt × Bool):=
 (ZDI r_0 ((r_0.cond.length:Nat):Int) model_1).bind fun b=>
 Zp (σ:=Unit)
  (fun (i7:Nat) (a:Zt) _=>
   (ZDA a.facts l_2).bind fun c=>
   if c=true then
    some (.inr (a,true))
   else
    some (.inl ()))
  (fun _=>
   some (({ facts:=[],binding:=[] }:Zt),false))
  b 0 ()
noncomputable def ZDF (d:(List Zf)) (String_1:(List Zc)) (a_2:(List Zc)) (e:(List Zuw)) (a:Zuw):Option Bool:=
 if (sEq a.rule ⟨#[]⟩)=true then
  if (((a.uses.length:Nat):Int)==0)=true then
   (Yh String_1 a.fact).bind fun k=>
   some (decide (0≤k))
  else
   some false
 else
  (Zat d a.rule).bind fun f=>
  if (decide (f<0))=true then
   some false
  else
   Zp (σ:=(List Zc))
    (fun (i26:Nat) (c:Int) b=>
     if (decide (c<0))=true then
      some (.inr false)
     else
      if (decide (((e.length:Nat):Int)≤c))=true then
       some (.inr false)
      else
       (atI e c).bind fun l=>
       chk (b.length+1≤1073741824) <|
       some (.inl (b++[l.fact])))
    (fun b=>
     (atI d f).bind fun g=>
     (ZDB g a_2 b).bind fun i=>
     if i.2=true then
      Zp (σ:=Unit)
       (fun (i38:Nat) (m:Zr) _=>
        (Ql m.pattern i.1.binding).bind fun j=>
        if j.2=true then
         (Zbp j.1 a.fact).bind fun o=>
         if o=true then
          some (.inr true)
         else
          some (.inl ())
        else
         some (.inl ()))
       (fun _=>
        some false)
       g.thn 0 ()
     else
      some false)
    a.uses 0 []
noncomputable def ZDD (rules_0:(List Zf)) (base_1:(List Zc)) (steps_2:(List Zuw)):Option Bool:=
 (ZAv rules_0 base_1).bind fun a=>
 if a.2=true then
  if (decide (60<((steps_2.length:Nat):Int)))=true then
   some false
  else
   Zp (σ:=Unit)
    (fun (i7:Nat) (b:Zuw) _=>
     chk (0≤((i7:Nat):Int)∧((i7:Nat):Int)≤((steps_2.length:Nat):Int)) <|
     (ZDF rules_0 base_1 a.1 (List.drop 0 (List.take i7 steps_2)) b).bind fun c=>
     if c=true then
      some (.inl ())
     else
      some (.inr false))
    (fun _=>
     some true)
    steps_2 0 ()
 else
  some false
end Go.Proofs.YtojnhepgnbhaaaaGreatDoor
namespace Go.Proofs.YtojnhepgnbhaaaaGreatDoor
section
variable {α σ ρ:Type} {body:Nat→α→σ→Option (σ ⊕ ρ)} {fin:σ→Option ρ}
theorem Zj7 (i:Nat) (s:σ):Zp body fin [] i s=fin s:=rfl
theorem Ye {x:α} {l:List α} {i:Nat} {s s':σ} (h:body i x s=some (.inl s')):Zp body fin (x::l) i s=Zp body fin l (i+1) s':=by simp only [Zp,h]
theorem Yy {x:α} {l:List α} {i:Nat} {s:σ} {r:ρ} (h:body i x s=some (.inr r)):Zp body fin (x::l) i s=some r:=by simp only [Zp,h]
theorem Yf {p:α→Bool} {r:ρ}:∀{l:List α} {i:Nat} {s:σ},(∀i x,x∈l→body i x s=some (bif p x then .inl s else .inr r))→Zp body fin l i s=if l.all p=true then fin s else some r
 | [],_,_,_=>by simp [Zp]
 | x::l,i,s,h=>by
  have hx:=h i x (by simp)
  by_cases hp:p x=true
  ·rw [hp,cond_true] at hx
   rw [Ye hx,Yf fun j y my=>h j y (by simp [my])]
   simp [hp]
  ·rw [eq_false_of_ne_true hp,cond_false] at hx
   rw [Yy hx]
   simp [hp]
theorem ZcB {p:α→Bool} {r:ρ}:∀{l:List α} {i:Nat} {s:σ},(∀i x,x∈l→body i x s=some (bif p x then .inr r else .inl s))→Zp body fin l i s=if l.any p=true then some r else fin s
 | [],_,_,_=>by simp [Zp]
 | x::l,i,s,h=>by
  have hx:=h i x (by simp)
  by_cases hp:p x=true
  ·rw [hp,cond_true] at hx
   rw [Yy hx]
   simp [hp]
  ·rw [eq_false_of_ne_true hp,cond_false] at hx
   rw [Ye hx,ZcB fun j y my=>h j y (by simp [my])]
   simp [hp]
theorem ZaR {f:σ→α→σ} (I:Nat→σ→Prop):∀{l:List α} {i:Nat} {s:σ},I i s→(∀j x s,x∈l→i≤j→j<i+l.length→I j s→body j x s=some (.inl (f s x))∧I (j+1) (f s x))→Zp body fin l i s=fin (l.foldl f s)
 | [],_,_,_,_=>rfl
 | x::l,i,s,h0,h=>by
  obtain ⟨h1,h2⟩:=h i x s (by simp) (by omega) (by simp) h0
  rw [Ye h1,ZaR I h2 fun j y s my hj hl=>h j y s (by simp [my]) (by omega) (by simp at hl ⊢;omega)]
  rfl
theorem ZBD {f:σ→α→σ} {l:List α} {i:Nat} {s:σ} (h:∀j x s,x∈l→body j x s=some (.inl (f s x))):Zp body fin l i s=fin (l.foldl f s):=
 ZaR (fun _ _=>True) trivial fun j x s mx _ _ _=>⟨h j x s mx,trivial⟩
theorem Zad (g:List α→Nat→σ→Option ρ) (I:List α→Nat→σ→Prop) (h0:∀i s,I [] i s→fin s=g [] i s)
  (h1:∀x l i s,I (x::l) i s→(∃s',body i x s=some (.inl s')∧I l (i+1) s'∧g (x::l) i s=g l (i+1) s')∨(∃r,body i x s=some (.inr r)∧g (x::l) i s=some r)):∀(l:List α) (i:Nat) (s:σ),I l i s→Zp body fin l i s=g l i s
 | [],i,s,h=>h0 i s h
 | x::l,i,s,h=>by
  rcases h1 x l i s h with ⟨s',e1,e2,e3⟩ | ⟨r,e1,e2⟩
  ·rw [Ye e1,Zad g I h0 h1 l (i+1) s' e2,e3]
  ·rw [Yy e1,e2]
end
def Zbr {α:Type} (p:Nat→α→Bool):List α→Nat→Bool
 | [],_=>true
 | x::l,i=>p i x&&Zbr p l (i+1)
theorem Zm3 {α:Type} {p:Nat→α→Bool}:∀{l:List α} {i:Nat},Zbr p l i=true→∀j x,l[j]?=some x→p (i+j) x=true
 | [],_,_,j,x,hx=>by simp at hx
 | y::l,i,h,0,x,hx=>by simp only [Zbr,Bool.and_eq_true] at h;simp at hx;subst hx;exact h.1
 | y::l,i,h,j+1,x,hx=>by
  simp only [Zbr,Bool.and_eq_true] at h
  have:=Zm3 h.2 j x (by simpa using hx)
  rwa [show i+(j+1)=i+1+j by omega]
section
variable {α σ ρ:Type} {body:Nat→α→σ→Option (σ ⊕ ρ)} {fin:σ→Option ρ}
theorem X7 {p:Nat→α→Bool} {r:ρ}:∀{l:List α} {i:Nat} {s:σ},(∀j x,l[j]?=some x→body (i+j) x s=some (bif p (i+j) x then .inl s else .inr r))→Zp body fin l i s=if Zbr p l i=true then fin s else some r
 | [],_,_,_=>by simp [Zp,Zbr]
 | x::l,i,s,h=>by
  have hx:=h 0 x (by simp)
  simp only [Nat.add_zero] at hx
  by_cases hp:p i x=true
  ·rw [hp,cond_true] at hx
   rw [Ye hx,X7 fun j y hy=>by have:=h (j+1) y (by simpa using hy);rwa [show i+(j+1)=i+1+j by omega] at this]
   simp [Zbr,hp]
  ·rw [eq_false_of_ne_true hp,cond_false] at hx
   rw [Yy hx]
   simp [Zbr,hp]
theorem YY {β:Type} {g:α→Option β} {fin:List β→Option ρ} {body:Nat→α→List β→Option (List β ⊕ ρ)}:∀{l:List α} {i:Nat} {acc:List β},(∀j x s,x∈l→s.length+1≤acc.length+l.length→body j x s=some (.inl (s++(g x).toList)))→Zp body fin l i acc=fin (acc++l.filterMap g)
 | [],_,acc,_=>by simp [Zp]
 | x::l,i,acc,h=>by
  rw [Ye (h i x acc (by simp) (by simp))]
  rw [YY fun j y s my hs=>h j y s (by simp [my]) (by cases hg:g x<;>simp [hg] at hs ⊢<;>omega)]
  congr 1
  cases hg:g x<;>simp [hg]
theorem Zov {β:Type} {g:α→β} {fin:List β→Option ρ} {body:Nat→α→List β→Option (List β ⊕ ρ)} {l:List α} {i:Nat} {acc:List β} (h:∀j x s,x∈l→s.length+1≤acc.length+l.length→body j x s=some (.inl (s++[g x]))):Zp body fin l i acc=fin (acc++l.map g):=by
 rw [YY (g:=fun x=>some (g x)) h,List.filterMap_eq_map']
theorem ZdE {p:α→Bool} {fin:List α→Option ρ} {body:Nat→α→List α→Option (List α ⊕ ρ)} {l:List α} {i:Nat} {acc:List α} (h:∀j x s,x∈l→s.length+1≤acc.length+l.length→body j x s=some (.inl (if p x=true then s++[x] else s))):Zp body fin l i acc=fin (acc++l.filter p):=by
 rw [YY (g:=fun x=>if p x=true then some x else none) fun j x s mx hs=>by rw [h j x s mx hs];split<;>simp]
 congr 2
 induction l with
 | nil=>rfl
 | cons x l ih=>
  have ih:=ih fun j y s my hs=>h j y s (by simp [my]) (by simp at hs ⊢;omega)
  by_cases hp:p x=true<;>simp [hp,ih]
end
/- texts -/
theorem ZT {x y:ByteArray}:sEq x y=true↔x=y:=by simp [sEq]
theorem ZC3 {x y:ByteArray}:sEq x y=false↔¬x=y:=by simp [sEq]
theorem Ztb (x:ByteArray):sEq x x=true:=ZT.2 rfl
theorem ZeE {x y:ByteArray} (h:toL x=toL y):x=y:=by rw [←Zid x,←Zid y,h]
theorem Zck (x:ByteArray):(toL x).length=x.size:=by rw [toL,ByteArray.size,Array.length_toList]
theorem ZgW:∀(a b:List UInt8),Op.bytesLess a b=true↔a<b
 | [],[]=>by simp [Op.bytesLess]
 | [],_::_=>by simp [Op.bytesLess]
 | _::_,[]=>by simp [Op.bytesLess]
 | x::a,y::b=>by
  rw [List.cons_lt_cons_iff,←ZgW a b]
  simp only [Op.bytesLess]
  by_cases h:x<y
  ·simp [h]
  ·by_cases h2:x=y
   ·subst h2;simp [h]
   ·simp [h,h2]
theorem Ze0 {x y:ByteArray}:sLt x y=true↔toL x<toL y:=by
 unfold sLt toL
 rw [ZgW,ByteArray.toList_eq,ByteArray.toList_eq]
theorem Zhh (x:ByteArray):sLt x x=false:=by
 cases h:sLt x x with
 | false=>rfl
 | true=>exact absurd (Ze0.1 h) (List.lt_irrefl _)
theorem Zed {x y z:ByteArray} (h1:sLt x y=true) (h2:sLt y z=true):sLt x z=true:=Ze0.2 (List.lt_trans (Ze0.1 h1) (Ze0.1 h2))
theorem ZiK {x y:ByteArray} (h1:sLt x y=true):sLt y x=false:=by
 cases h:sLt y x with
 | false=>rfl
 | true=>have:=Zed h1 h;rw [Zhh] at this;simp at this
theorem Znd {x y:ByteArray} (h:sLt x y=true):¬x=y:=fun e=>by rw [e,Zhh] at h;simp at h
theorem Zeb {x y:ByteArray} (h1:sLt x y=false) (h2:¬x=y):sLt y x=true:=by
 rcases Std.lt_trichotomy (toL x) (toL y) with h | h | h
 ·rw [Ze0.2 h] at h1;simp at h1
 ·exact absurd (ZeE h) h2
 ·exact Ze0.2 h
def Asc (l:List ByteArray):Prop:=l.Pairwise fun x y=>sLt x y=true
theorem Znu:∀{a b:List ByteArray},Asc a→Asc b→(∀x,x∈a↔x∈b)→a=b
 | [],[],_,_,_=>rfl
 | [],y::b,_,_,h=>by have:=(h y).2 (by simp);simp at this
 | x::a,[],_,_,h=>by have:=(h x).1 (by simp);simp at this
 | x::a,y::b,ha,hb,h=>by
  unfold Asc at ha hb
  rw [List.pairwise_cons] at ha hb
  have hxy:x=y:=by
   have h1:=(h x).1 (by simp)
   have h2:=(h y).2 (by simp)
   rcases List.mem_cons.1 h1 with h1 | h1
   ·exact h1
   ·rcases List.mem_cons.1 h2 with h2 | h2
    ·exact h2.symm
    ·have:=ZiK (ha.1 y h2);rw [hb.1 x h1] at this;simp at this
  subst hxy
  congr 1
  refine Znu ha.2 hb.2 fun z=>?_
  have hz:=h z
  simp only [List.mem_cons] at hz
  constructor
  ·intro m
   rcases hz.1 (.inr m) with e | m'
   ·exact absurd e.symm (Znd (ha.1 z m))
   ·exact m'
  ·intro m
   rcases hz.2 (.inr m) with e | m'
   ·exact absurd e.symm (Znd (hb.1 z m))
   ·exact m'
def Qk:List ByteArray→ByteArray→List ByteArray
 | [],s=>[s]
 | x::r,s=>if sLt x s=true then x::Qk r s else if sEq x s=true then x::r else s::x::r
theorem ZhU {y s:ByteArray}:∀{l:List ByteArray},y∈Qk l s↔y=s∨y∈l
 | []=>by simp [Qk]
 | x::r=>by
  simp only [Qk]
  split
  ·simp only [List.mem_cons,ZhU (l:=r)]
   constructor<;>(intro h;rcases h with h | h | h<;>simp [h])
  ·split
   ·rename_i h
    have:=ZT.1 h
    subst this
    simp
   ·simp
theorem Zfm {s:ByteArray}:∀{l:List ByteArray},Asc l→Asc (Qk l s)
 | [],_=>by simp [Qk,Asc]
 | x::r,h=>by
  have h':=h
  unfold Asc at h'
  rw [List.pairwise_cons] at h'
  simp only [Qk]
  split
  ·rename_i hx
   refine List.pairwise_cons.2 ⟨fun y my=>?_,Zfm h'.2⟩
   rcases ZhU.1 my with rfl | my
   ·exact hx
   ·exact h'.1 y my
  ·split
   ·exact h
   ·rename_i hx hne
    have hsx:sLt s x=true:=Zeb (by simpa using hx) (fun e=>hne (ZT.2 e))
    refine List.pairwise_cons.2 ⟨fun y my=>?_,h⟩
    rcases List.mem_cons.1 my with rfl | my
    ·exact hsx
    ·exact Zed hsx (h'.1 y my)
theorem ZcC (s:ByteArray):∀l:List ByteArray,(Qk l s).length≤l.length+1
 | []=>by simp [Qk]
 | x::r=>by
  have:=ZcC s r
  simp only [Qk]
  split
  ·simp;omega
  ·split<;>simp
def ZR (l:List ByteArray):List ByteArray:=l.foldl Qk []
theorem XY:∀(l acc:List ByteArray),Asc acc→Asc (l.foldl Qk acc)∧(∀x,x∈l.foldl Qk acc↔x∈l∨x∈acc)∧(l.foldl Qk acc).length≤l.length+acc.length
 | [],acc,h=>⟨h,fun x=>by simp,by simp⟩
 | y::l,acc,h=>by
  obtain ⟨h1,h2,h3⟩:=XY l (Qk acc y) (Zfm h)
  refine ⟨h1,fun x=>?_,?_⟩
  ·rw [List.foldl_cons,h2 x,ZhU]
   rw [List.mem_cons]
   constructor
   ·rintro (h | h | h)<;>simp [h]
   ·rintro ((h | h) | h)<;>simp [h]
  ·have:=ZcC y acc
   rw [List.foldl_cons]
   simp only [List.length_cons]
   omega
theorem Zca (l:List ByteArray):Asc (ZR l):=(XY l [] List.Pairwise.nil).1
theorem ZW {x:ByteArray} {l:List ByteArray}:x∈ZR l↔x∈l:=by have:=(XY l [] List.Pairwise.nil).2.1 x;rw [ZR,this];simp
theorem ZdQ (l:List ByteArray):(ZR l).length≤l.length:=(XY l [] List.Pairwise.nil).2.2
theorem ZeX {a l:List ByteArray} (h:Asc a) (hm:∀x,x∈a↔x∈l):a=ZR l:=Znu h (Zca l) fun x=>by rw [hm,ZW]
theorem ZlC {a b:List ByteArray} (h:∀x,x∈a↔x∈b):ZR a=ZR b:=ZeX (Zca a) fun x=>by rw [ZW,h]
def YE (l:List ByteArray) (s:ByteArray):Bool:=l.any fun x=>sEq x s
theorem X8 {l:List ByteArray} {s:ByteArray}:YE l s=true↔s∈l:=by
 simp only [YE,List.any_eq_true,ZT]
 constructor
 ·rintro ⟨x,h,rfl⟩;exact h
 ·exact fun h=>⟨s,h,rfl⟩
/- sorting -/
theorem Zrc {x:ByteArray} {l:List ByteArray}:x∈Zes l↔x∈l:=by
 simp only [Zes,List.mem_map,List.mem_mergeSort]
 constructor
 ·rintro ⟨y,⟨z,hz,rfl⟩,rfl⟩;rw [Zid];exact hz
 ·exact fun h=>⟨toL x,⟨x,h,rfl⟩,Zid x⟩
theorem Zrj (l:List ByteArray):(Zes l).length=l.length:=by simp [Zes]
theorem Zs6 (l:List ByteArray):(Zes l).Pairwise fun x y=>sLt y x=false:=by
 unfold Zes
 rw [List.pairwise_map]
 have:=List.pairwise_mergeSort (le:=fun x y:List UInt8=>decide (x≤y)) (fun a b c h1 h2=>by simp at h1 h2 ⊢;exact List.le_trans h1 h2) (fun a b=>by simp;exact List.le_total a b) (l.map toL)
 refine this.imp fun {a b} h=>?_
 cases hh:sLt (ofL b) (ofL a) with
 | false=>rfl
 | true=>
  have h1:=Ze0.1 hh
  rw [ZbN,ZbN] at h1
  have h2:a≤b:=by simpa using h
  exact absurd h1 (List.not_lt.2 h2)
end Go.Proofs.YtojnhepgnbhaaaaGreatDoor
namespace Go.Proofs.YtojnhepgnbhaaaaGreatDoor
theorem Zdc (a b:ByteArray):toL (a++b)=toL a++toL b:=by simp [toL]
theorem ZpB (a b:List UInt8):ofL (a++b)=ofL a++ofL b:=ZeE (by rw [Zdc,ZbN,ZbN,ZbN])
theorem ZhH (a:List UInt8):(ofL a).size=a.length:=by rw [←Zck,ZbN]
theorem ZsS (a b c:ByteArray):(a++b)++c=a++(b++c):=ZeE (by simp only [Zdc,List.append_assoc])
theorem Zuh (a b:ByteArray):(a++b).size=a.size+b.size:=by rw [←Zck,←Zck,←Zck,Zdc,List.length_append]
theorem ZdA {n:Int} (h0:-9223372036854775808≤n) (h1:n≤9223372036854775807):IntKind.i64.wrap n=n:=by rw [IntKind.wrap_i64];omega
theorem Zsi (u:Nat) (hu:u<9223372036854775808):Y9 [IntKind.u8.wrap (IntKind.i64.wrap (48+Int.tmod (u:Int) 10))]=ofL [UInt8.ofNat (48+u % 10)]:=by
 have h1:Int.tmod (u:Int) 10=((u % 10:Nat):Int):=by rw [Int.tmod_eq_emod_of_nonneg (by omega)];omega
 rw [h1,ZdA (by omega) (by omega),IntKind.wrap_u8,show (48+((u % 10:Nat):Int)) % 256=((48+u % 10:Nat):Int) by omega]
 apply ZeE
 rw [ZbN]
 simp only [Y9,List.map_cons,List.map_nil,toL,Int.toNat_natCast]
theorem Zt1 (u:Nat) (hu:u<9223372036854775808):IntKind.i64.wrap (Int.tdiv (u:Int) 10)=((u / 10:Nat):Int):=by
 rw [Int.tdiv_eq_ediv_of_nonneg (by omega),ZdA (by omega) (by omega)]
 omega
theorem Zr5 {body:Int × ByteArray→Option ((Int × ByteArray) ⊕ ByteArray)} (hb:∀n t,body (n,t)=chk ((Y9 [IntKind.u8.wrap (IntKind.i64.wrap (48+Int.tmod n 10))]).size+t.size≤9223372036854775807)
   (if (IntKind.i64.wrap (Int.tdiv n 10)==0)=true then some (.inr (Y9 [IntKind.u8.wrap (IntKind.i64.wrap (48+Int.tmod n 10))]++t)) else some (.inl (IntKind.i64.wrap (Int.tdiv n 10),Y9 [IntKind.u8.wrap (IntKind.i64.wrap (48+Int.tmod n 10))]++t)))):
  ∀(u:Nat) (t:ByteArray),u<9223372036854775808→t.size+Lib.nDigits u≤1000→Zdu body ((u:Int),t)=some (ofL (Lib.decDigits u)++t):=by
 intro u
 induction u using Nat.strongRecOn with
 | ind u ih=>
  intro t hu ht
  rw [Zic,hb,Zsi u hu,Zt1 u hu]
  have hp:=Lib.nDigits_pos u
  rw [Zj _ (by rw [ZhH];simp;omega)]
  by_cases h:u<10
  ·have h0:u / 10=0:=by omega
   rw [h0,Lib.decDigits_one h,show u % 10=u by omega]
   rfl
  ·have h0:¬(((u / 10:Nat):Int)==0)=true:=by simp;omega
   rw [if_neg h0]
   have hd:=Lib.nDigits_big h
   show Zdu body (((u / 10:Nat):Int),ofL [UInt8.ofNat (48+u % 10)]++t)=_
   rw [ih (u / 10) (by omega) _ (by omega) (by rw [Zuh,ZhH];simp;omega),←ZsS,←ZpB]
   congr 2
   rw [show Lib.decDigits u=Lib.decDigits (u / 10)++[UInt8.ofNat (48+u % 10)] by rw [Lib.decDigits,dif_neg h]]
theorem ZvX (t:ByteArray):t++(⟨#[]⟩:ByteArray)=t:=ZeE (by rw [Zdc];simp [toL])
theorem Zmc {body:Int × ByteArray→Option ((Int × ByteArray) ⊕ ByteArray)} (hb:∀n t,body (n,t)=chk ((Y9 [IntKind.u8.wrap (IntKind.i64.wrap (48+Int.tmod n 10))]).size+t.size≤9223372036854775807)
   (if (IntKind.i64.wrap (Int.tdiv n 10)==0)=true then some (.inr (Y9 [IntKind.u8.wrap (IntKind.i64.wrap (48+Int.tmod n 10))]++t)) else some (.inl (IntKind.i64.wrap (Int.tdiv n 10),Y9 [IntKind.u8.wrap (IntKind.i64.wrap (48+Int.tmod n 10))]++t))))
  {n:Int} (h0:0≤n) (h1:n≤9223372036854775807):Zdu body (n,⟨#[]⟩)=some (ofL (Lib.itoa n)):=by
 obtain ⟨u,rfl⟩:∃u:Nat,n=(u:Int):=⟨n.toNat,by omega⟩
 have:=Lib.nDigits_le20 u (by omega)
 rw [Zr5 hb u _ (by omega) (by show 0+_≤_;omega),ZvX,Lib.itoa_nonneg]
theorem Zp0:ofL (Lib.itoa (-9223372036854775808))=(⟨#[45,57,50,50,51,51,55,50,48,51,54,56,53,52,55,55,53,56,48,56]⟩:ByteArray):=by
 rw [show (-9223372036854775808:Int)=-((9223372036854775808:Nat):Int) by rfl,Lib.itoa_neg _ (by omega),Lib.decDigits_eq,Lib.nDigits_unique 18 _ (by decide) (by decide)]
 decide +kernel
theorem Zir {n:Int} (h0:0≤n) (h1:n≤9223372036854775807):Zab n=some (ofL (Lib.itoa n)):=by
 unfold Zab
 rw [if_neg (by simp;omega),if_neg (by simp;omega)]
 exact Zmc (fun _ _=>rfl) h0 h1
theorem Zlb {n:Int} (h:Zjk n):ZaQ n=some (ofL (Lib.itoa n)):=by
 unfold ZaQ
 by_cases hm:n=-9223372036854775808
 ·subst hm
  rw [if_pos (by decide),Zp0]
 ·rw [if_neg (by simpa using hm)]
  by_cases hn:n<0
  ·have h2:Zjk n:=h
   unfold Zjk at h2
   rw [if_pos (by simpa using hn),ZdA (by omega) (by omega),Zir (by omega) (by omega),Option.bind_some]
   obtain ⟨u,rfl⟩:∃u:Nat,n=-(u:Int):=⟨n.natAbs,by omega⟩
   rw [show (0 - -(u:Int))=(u:Int) by omega,Lib.itoa_nonneg,Lib.itoa_neg u (by omega)]
   have:=Lib.nDigits_le20 u (by omega)
   rw [Zj _ (by rw [ZhH,Lib.decDigits_length];show 1+_≤_;omega)]
   exact congrArg some (ZeE (by rw [Zdc,ZbN,ZbN];rfl))
  ·rw [if_neg (by simpa using hn)]
   exact Zmc (fun _ _=>rfl) (by omega) h.2
theorem Zdi {n:Int} (h:Zjk n):ZaJ n=some (ofL (Lib.itoa n)):=by
 have h2:-9223372036854775808≤n∧n≤9223372036854775807:=h
 unfold ZaJ Zm7
 rw [Zj _ h2]
 rfl
end Go.Proofs.YtojnhepgnbhaaaaGreatDoor
namespace Go.Proofs.YtojnhepgnbhaaaaGreatDoor
def Za1 (b:UInt8):Bool:=(decide (97≤b.toNat)&&decide (b.toNat≤122))||(decide (48≤b.toNat)&&decide (b.toNat≤57))
def ZO (s:ByteArray):Bool:=decide (1≤s.size)&&decide (s.size≤8)&&(toL s).all Za1
theorem Zgi (x a b:Int):ZaU x a b=some (decide (a≤x)&&decide (x≤b)):=by
 unfold ZaU
 by_cases h:a≤x<;>simp [h]
theorem ZmK (b:UInt8):IntKind.i64.wrap ((b.toNat:Nat):Int)=((b.toNat:Nat):Int):=ZjU (by omega) (by have:=b.toNat_lt;omega)
theorem QX {b:UInt8}:Za1 b=true↔(97≤b.toNat∧b.toNat≤122)∨(48≤b.toNat∧b.toNat≤57):=by
 simp only [Za1,Bool.or_eq_true,Bool.and_eq_true,decide_eq_true_eq]
theorem Qd (s:ByteArray):Qq s=some (ZO s):=by
 unfold Qq ZO
 rw [show s.data.toList=toL s from rfl,Yf (p:=Za1) (r:=false)]
 ·simp only [Zgi,Option.bind_some]
  cases (toL s).all Za1 with
  | true=>
   simp only [if_true,Bool.and_true]
   congr 1
   rw [Bool.eq_iff_iff]
   simp only [Bool.and_eq_true,decide_eq_true_eq]
   omega
  | false=>simp
 ·intro i x _
  simp only [Zgi,Option.bind_some,ZmK,Bool.and_eq_true,decide_eq_true_eq]
  cases hp:Za1 x with
  | true=>
   have:=QX.1 hp
   repeat' split
   all_goals first | rfl | (exfalso;omega) | (exfalso;simp_all;done)
  | false=>
   have:=mt (QX (b:=x)).2 (by simp [hp])
   repeat' split
   all_goals first | rfl | (exfalso;omega) | (exfalso;simp_all;done)
theorem Qe (s:ByteArray):Qr s=some (ZO s):=by
 unfold Qr ZO
 simp only [decide_eq_true_eq]
 rw [show s.data.toList=toL s from rfl,Yf (p:=Za1) (r:=false)]
 ·repeat' split
  ·rw [decide_eq_false (show ¬1≤s.size by omega)];rfl
  ·rw [decide_eq_false (show ¬s.size≤8 by omega)];simp
  ·rename_i h;rw [h,decide_eq_true (show 1≤s.size by omega),decide_eq_true (show s.size≤8 by omega)];rfl
  ·rename_i h;rw [eq_false_of_ne_true h];simp
 ·intro i x _
  cases hp:Za1 x with
  | true=>
   have:=QX.1 hp
   repeat' split
   all_goals first | rfl | (exfalso;omega) | (exfalso;simp_all;done)
  | false=>
   have:=mt (QX (b:=x)).2 (by simp [hp])
   repeat' split
   all_goals first | rfl | (exfalso;omega) | (exfalso;simp_all;done)
def ZgV (s:ByteArray):UInt8:=(toL s).headD 0
theorem ZhT {s:ByteArray} (h:1≤s.size):sAt s 0=some (ZgV s):=by
 unfold sAt ZgV
 have hl:0<(toL s).length:=by rw [Zck];omega
 have:(toL s)[0]?=some ((toL s).headD 0):=by
  cases hh:toL s with
  | nil=>rw [hh] at hl;simp at hl
  | cons a r=>simp
 rw [if_pos (by omega)]
 exact ZnD this
def Qi (s:ByteArray):Bool:=ZO s&&decide (97≤(ZgV s).toNat)
theorem Zbh {s:ByteArray} (h:ZO s=true):1≤s.size∧s.size≤8:=by
 simp only [ZO,Bool.and_eq_true,decide_eq_true_eq] at h
 exact h.1
theorem Zhu {s:ByteArray} (h:ZO s=true):Za1 (ZgV s)=true:=by
 have hs:=Zbh h
 simp only [ZO,Bool.and_eq_true] at h
 have hl:0<(toL s).length:=by rw [Zck];omega
 refine List.all_eq_true.1 h.2 _ ?_
 unfold ZgV
 cases hh:toL s with
 | nil=>rw [hh] at hl;simp at hl
 | cons a r=>simp
theorem ZfC (s:ByteArray):Zc4 s=some (Qi s):=by
 unfold Zc4 Qi
 rw [Qd,Option.bind_some]
 cases h:ZO s with
 | false=>simp
 | true=>
  simp only [if_true,ZhT (Zbh h).1,Option.bind_some,Zgi,ZmK,Bool.true_and]
  have hb:=QX.1 (Zhu h)
  congr 1
  rw [Bool.eq_iff_iff]
  simp only [Bool.and_eq_true,decide_eq_true_eq]
  omega
theorem Zfk (s:ByteArray):ZcZ s=some (Qi s):=by
 unfold ZcZ Qi
 rw [Qe,Option.bind_some]
 cases h:ZO s with
 | false=>simp
 | true=>
  simp only [if_true,ZhT (Zbh h).1,Option.bind_some,Bool.true_and]
  congr 1
  rw [Bool.eq_iff_iff]
  simp only [decide_eq_true_eq]
  omega
def Zsf (s:ByteArray):ByteArray:=s.extract 1 s.size
def Yt (s:ByteArray):Bool:=decide (1<s.size)&&decide ((ZgV s).toNat=63)&&ZO (Zsf s)
theorem QC (s:ByteArray):Zap s=some (Yt s):=by
 unfold Zap Yt Zsf
 by_cases h:1<s.size
 ·have h':(1:Int)<((s.size:Nat):Int):=by omega
  simp only [h',h,decide_true,if_true,ZhT (show 1≤s.size by omega),Option.bind_some,Bool.true_and]
  rw [Zj _ ⟨by omega,by omega⟩,show Int.toNat 1=1 from rfl,Qd,Option.bind_some]
  by_cases h2:(ZgV s).toNat=63
  ·simp [h2]
  ·have:¬((ZgV s).toNat:Int)=63:=by omega
   simp [h2,this]
 ·have h':¬(1:Int)<((s.size:Nat):Int):=by omega
  simp [h',h]
theorem Zc0 (s:ByteArray):Zcn s=some (Yt s):=by
 unfold Zcn Yt Zsf
 by_cases h:1<s.size
 ·have h':(1:Int)<((s.size:Nat):Int):=by omega
  simp only [h',h,decide_true,if_true,ZhT (show 1≤s.size by omega),Option.bind_some,Bool.true_and]
  rw [Zj _ ⟨by omega,by omega⟩,show Int.toNat 1=1 from rfl,Qe,Option.bind_some]
  by_cases h2:(ZgV s).toNat=63
  ·simp [h2]
  ·have:¬((ZgV s).toNat:Int)=63:=by omega
   simp [h2,this]
 ·have h':¬(1:Int)<((s.size:Nat):Int):=by omega
  simp [h',h]
def YD (s:ByteArray):Bool:=ZO s||Yt s
theorem Zjd (s:ByteArray):QL s=some (YD s):=by
 unfold QL YD
 rw [Qd,QC]
 cases ZO s<;>simp
theorem Zjs (s:ByteArray):QU s=some (YD s):=by
 unfold QU YD
 rw [Qe,Zc0]
 cases ZO s<;>simp
theorem YW (l:List ByteArray) (s:ByteArray):ZS l s=some (YE l s):=by
 unfold ZS YE
 rw [ZcB (p:=fun x=>sEq x s) (r:=true)]
 ·cases l.any fun x=>sEq x s<;>simp
 ·intro i x _
  cases sEq x s<;>simp
theorem QY (l:List ByteArray) (s:ByteArray):Xh l s=some (YE l s):=by
 unfold Xh YE
 rw [ZcB (p:=fun x=>sEq x s) (r:=true)]
 ·cases l.any fun x=>sEq x s<;>simp
 ·intro i x _
  cases sEq x s<;>simp
theorem Qh (l:List ByteArray) (s:ByteArray) (h:l.length+1≤1073741824):XW l s=some (Qk l s):=by
 unfold XW
 refine (Zad (fun l _ (st:List ByteArray × Bool)=>some (if st.2=true then st.1++l else st.1++Qk l s)) (fun l _ (st:List ByteArray × Bool)=>st.1.length+l.length+(if st.2=true then 0 else 1)≤1073741824) ?_ ?_ l 0 ([],false) (by simpa using h)).trans (by simp)
 ·rintro i ⟨row,d⟩ hI
  cases d with
  | true=>simp
  | false=>simp only [Bool.false_eq_true,if_false,Qk];simp at hI;rw [Zj _ (by omega)]
 ·rintro x l i ⟨row,d⟩ hI
  left
  cases d with
  | true=>
   simp at hI
   exact ⟨(row++[x],true),by simp only [if_true];rw [Zj _ (by omega)],by simp;omega,by simp⟩
  | false=>
   simp at hI
   cases h1:sLt x s with
   | true=>exact ⟨(row++[x],false),by simp only [Bool.false_eq_true,if_false,if_true];rw [Zj _ (by omega)],by simp;omega,by simp [Qk,h1]⟩
   | false=>
    cases h2:sEq x s with
    | true=>exact ⟨(row++[x],true),by simp only [Bool.false_eq_true,if_false,if_true];rw [Zj _ (by omega)],by simp;omega,by simp [Qk,h1,h2]⟩
    | false=>exact ⟨(row++[s]++[x],true),by simp only [Bool.false_eq_true,if_false];rw [Zj _ (by omega),Zj _ (by omega)],by simp;omega,by simp [Qk,h1,h2]⟩
def Xk:ByteArray→List ByteArray→List ByteArray
 | _,[]=>[]
 | y,x::r=>if sEq y x=true then Xk x r else x::Xk x r
def Zlv:List ByteArray→List ByteArray
 | []=>[]
 | x::r=>x::Xk x r
theorem ZeP {z:ByteArray}:∀{l:List ByteArray} {y:ByteArray},z∈Xk y l→z∈l
 | [],_,h=>by simp [Xk] at h
 | x::r,y,h=>by
  simp only [Xk] at h
  split at h
  ·exact List.mem_cons_of_mem _ (ZeP h)
  ·rcases List.mem_cons.1 h with rfl | h
   ·simp
   ·exact List.mem_cons_of_mem _ (ZeP h)
theorem Zhx {z:ByteArray}:∀{l:List ByteArray} {y:ByteArray},z∈l→z=y∨z∈Xk y l
 | [],_,h=>by simp at h
 | x::r,y,h=>by
  simp only [Xk]
  rcases List.mem_cons.1 h with rfl | h
  ·split
   ·rename_i e;exact .inl (ZT.1 e).symm
   ·simp
  ·rcases Zhx (y:=x) h with rfl | h'
   ·split
    ·rename_i e;exact .inl (ZT.1 e).symm
    ·simp
   ·split
    ·exact .inr h'
    ·exact .inr (List.mem_cons_of_mem _ h')
theorem Zii:∀{l:List ByteArray} {y:ByteArray},(y::l).Pairwise (fun a b=>sLt b a=false)→Asc (y::Xk y l)
 | [],_,_=>by simp [Xk,Asc]
 | x::r,y,h=>by
  rw [List.pairwise_cons] at h
  have ih:=Zii h.2
  simp only [Xk]
  split
  ·rename_i e
   have e':=ZT.1 e
   subst e'
   exact ih
  ·rename_i e
   have hyx:sLt y x=true:=Zeb (h.1 x (by simp)) (fun h=>e (ZT.2 h.symm))
   refine List.pairwise_cons.2 ⟨fun z mz=>?_,ih⟩
   rcases List.mem_cons.1 mz with rfl | mz
   ·exact hyx
   ·exact Zed hyx ((List.pairwise_cons.1 ih).1 z mz)
theorem Zm5 (l:List ByteArray):Zlv (Zes l)=ZR l:=by
 have hs:=Zs6 l
 refine ZeX ?_ fun x=>?_
 ·cases h:Zes l with
  | nil=>simp [Zlv,Asc]
  | cons y r=>rw [h] at hs;exact Zii hs
 ·rw [←Zrc (l:=l)]
  cases h:Zes l with
  | nil=>simp [Zlv]
  | cons y r=>
   simp only [Zlv,List.mem_cons]
   constructor
   ·rintro (rfl | h)
    ·exact .inl rfl
    ·exact .inr (ZeP h)
   ·rintro (rfl | h)
    ·exact .inl rfl
    ·exact Zhx h
theorem X9 (l:List ByteArray) (h:l.length≤1073741824):Yp l=some (ZR l):=by
 unfold Yp
 rw [Zj _ h,ZbI,Zj _ (by omega),Option.bind_some]
 have hl:=Zrj l
 rw [←Zm5]
 generalize Zes l=v at hl
 refine (Zad (fun r i (row:List ByteArray)=>some (row++match i with | 0=>Zlv r | i+1=>(match v[i]? with | some y=>Xk y r | none=>[]))) (fun r i row=>v.drop i=r∧row.length≤i∧i≤v.length) ?_ ?_ v 0 [] ⟨by simp,by simp,by simp⟩).trans (by simp)
 ·rintro i row ⟨h1,h2,h3⟩
  cases i with
  | zero=>simp [Zlv]
  | succ i=>cases hv:v[i]?<;>simp [Xk,hv]
 ·rintro x r i row ⟨h1,h2,h3⟩
  left
  have hi:v[i]?=some x:=by have:=congrArg (fun l=>l[0]?) h1;simpa using this
  have hlt:i<v.length:=(List.getElem?_eq_some_iff.1 hi).1
  have hr:v.drop (i+1)=r:=by have:=congrArg List.tail h1;simpa using this
  cases i with
  | zero=>
   refine ⟨row++[x],?_,⟨hr,by simp at h2 ⊢;simp [h2],by omega⟩,?_⟩
   ·simp only [Int.natCast_zero,beq_self_eq_true,if_true]
    rw [Zj _ (by omega)]
   ·simp [Zlv,hi]
  | succ i=>
   have hw:IntKind.i64.wrap (((i+1:Nat):Int) - 1)=((i:Nat):Int):=by rw [ZjU (by omega) (by omega)];omega
   have hne:((((i+1:Nat):Int))==0)=false:=by rw [beq_eq_false_iff_ne];omega
   obtain ⟨y,hy⟩:∃y,v[i]?=some y:=⟨v[i],by simp⟩
   simp only [hne,Bool.false_eq_true,if_false,hw,Int.toNat_natCast,hy,Option.bind_some]
   cases he:sEq y x with
   | true=>
    refine ⟨row,?_,⟨hr,by omega,by omega⟩,?_⟩
    ·rw [Zj _ ⟨by omega,by omega⟩];rfl
    ·simp [Xk,he,hi]
   | false=>
    refine ⟨row++[x],?_,⟨hr,by simp;omega,by omega⟩,?_⟩
    ·rw [Zj _ ⟨by omega,by omega⟩]
     simp only [Bool.false_eq_true,if_false]
     rw [Zj _ (by omega)]
    ·simp [Xk,he,hi]
theorem Zfi (l:List ByteArray) (h:l.length≤1073741824):ZaI l=some l:=by
 unfold ZaI
 rw [Zj _ h]
theorem Zns (l:List ByteArray) (h:l.length≤1073741824):Zee l=some l:=by
 unfold Zee
 rw [Zj _ h]
theorem ZkI {ρ:Type} {fin:List ByteArray→Option ρ} {body:Nat→ByteArray→List ByteArray→Option (List ByteArray ⊕ ρ)} (hb:∀j x s,body j x s=(XW s x).bind fun v=>some (.inl v)) {l acc:List ByteArray} (h:acc.length+l.length≤1073741824):Zp body fin l 0 acc=fin (l.foldl Qk acc):=by
 refine ZaR (f:=Qk) (fun j s=>s.length≤acc.length+j) (by omega) fun j x s mx hj hl hI=>?_
 have hp:=ZcC x s
 exact ⟨by rw [hb,Qh _ _ (by omega)];rfl,by omega⟩
end Go.Proofs.YtojnhepgnbhaaaaGreatDoor
namespace Go.Proofs.YtojnhepgnbhaaaaGreatDoor
theorem ZaP {α σ ρ:Type} {body:Nat→α→σ→Option (σ ⊕ ρ)} {fin:σ→Option ρ} (st:List α→σ) (l:List α) (h:∀p x q,l=p++x::q→body p.length x (st p)=some (.inl (st (p++[x])))):Zp body fin l 0 (st [])=fin (st l):=by
 have key:∀(q p:List α),l=p++q→Zp body fin q p.length (st p)=fin (st l):=by
  intro q
  induction q with
  | nil=>intro p e;rw [Zj7,e,List.append_nil]
  | cons x q ih=>
   intro p e
   rw [Ye (h p x q e)]
   have:=ih (p++[x]) (by rw [e];simp)
   simpa using this
 exact key l [] rfl
def YV (f:Zc):Bool:=Qi f.rel&&decide (f.args.length≤3)&&f.args.all ZO
theorem ZiZ (f:Zc):Zey f=some (YV f):=by
 unfold Zey YV
 rw [Yf (p:=ZO) (r:=false)]
 ·rw [ZfC,Option.bind_some]
  cases Qi f.rel<;>cases h:f.args.all ZO<;>simp<;>omega
 ·intro i x _
  rw [Qd,Option.bind_some]
  cases ZO x<;>rfl
theorem Zi8 (f:Zc):Zen f=some (YV f):=by
 unfold Zen YV
 rw [Zfk,Option.bind_some]
 cases Qi f.rel with
 | false=>rfl
 | true=>
  rw [if_pos rfl]
  by_cases h:f.args.length≤3
  ·rw [if_neg (by simp;omega),Yf (p:=ZO) (r:=false)]
   ·cases h2:f.args.all ZO<;>simp [h]
   ·intro i x _
    rw [Qe,Option.bind_some]
    cases ZO x<;>rfl
  ·rw [if_pos (by simp;omega)]
   simp [h]
end Go.Proofs.YtojnhepgnbhaaaaGreatDoor
namespace Go.Proofs.YtojnhepgnbhaaaaGreatDoor
structure ZmE {α:Type} (c:α→α→Int):Prop where
 eq:∀a b,c a b=0↔a=b
 anti:∀a b,c b a=- c a b
 tr:∀a b d,c a b<0→c b d<0→c a d<0
def Zhm (a b:ByteArray):Int:=Lib.compareBytes (toL a) (toL b)
theorem ZgX:∀(x y:List UInt8),Lib.compareBytes x y=if Op.bytesLess x y=true then -1 else if x=y then 0 else 1
 | [],[]=>by simp [Lib.compareBytes,Op.bytesLess]
 | [],_::_=>by simp [Lib.compareBytes,Op.bytesLess]
 | _::_,[]=>by simp [Lib.compareBytes,Op.bytesLess]
 | a::x,b::y=>by
  have ih:=ZgX x y
  unfold Lib.compareBytes Op.bytesLess
  by_cases h1:a<b
  ·simp [h1]
  ·rw [if_neg h1]
   by_cases h2:b<a
   ·have h3:¬a=b:=fun e=>by rw [e] at h2;exact absurd h2 (UInt8.lt_irrefl _)
    rw [if_pos h2]
    simp [h1,h3]
   ·have h3:a=b:=by
     apply UInt8.toNat_inj.1
     rw [UInt8.lt_iff_toNat_lt] at h1 h2
     omega
    subst h3
    rw [if_neg h2,ih]
    simp [h1]
theorem Zge (a b:ByteArray):Zhm a b=if sLt a b=true then -1 else if a=b then 0 else 1:=by
 unfold Zhm
 rw [ZgX]
 have h1:Op.bytesLess (toL a) (toL b)=sLt a b:=by unfold sLt toL;rw [ByteArray.toList_eq,ByteArray.toList_eq]
 rw [h1]
 by_cases h:a=b
 ·subst h;simp
 ·rw [if_neg h,if_neg (fun e=>h (ZeE e))]
theorem Za8:ZmE Zhm where
 eq:=fun a b=>by
  rw [Zge]
  by_cases h:sLt a b=true
  ·simp [h,Znd h]
  ·rw [if_neg h]
   by_cases h2:a=b<;>simp [h2]
 anti:=fun a b=>by
  rw [Zge,Zge]
  by_cases h:sLt a b=true
  ·have h2:=ZiK h
   have h3:=Znd h
   rw [if_pos h,if_neg (by simp [h2]),if_neg (fun e=>h3 e.symm)];rfl
  ·rw [if_neg h]
   by_cases h2:a=b
   ·subst h2;rw [if_neg h];simp
   ·rw [if_pos (Zeb (by simpa using h) h2),if_neg h2]
 tr:=fun a b d h1 h2=>by
  have key:∀x y,Zhm x y<0→sLt x y=true:=fun x y h=>by
   rw [Zge] at h
   by_cases hx:sLt x y=true
   ·exact hx
   ·rw [if_neg hx] at h;split at h<;>omega
  rw [Zge,if_pos (Zed (key _ _ h1) (key _ _ h2))]
  omega
theorem Zkg (a b:ByteArray):Zgh a b=some (Zhm a b):=by
 unfold Zgh
 rw [Zge]
 by_cases h:sLt a b=true
 ·rw [if_pos h,if_pos h]
 ·rw [if_neg h,if_neg h]
  by_cases h2:a=b
  ·subst h2;rw [if_pos (by rw [Ztb];simp),if_pos rfl]
  ·rw [if_neg (by simp only [Bool.or_eq_true,ZT];rintro (h3 | h3);exact h h3;exact h2 h3),if_neg h2]
theorem ZhG (a b:ByteArray):Zeg a b=some (Zhm a b):=rfl
/- numbers -/
theorem ZlW {u:Nat} {b:UInt8} (h:b∈Lib.decDigits u):48≤b.toNat∧b.toNat≤57:=by
 rw [Lib.decDigits_eq,List.mem_map] at h
 obtain ⟨t,_,rfl⟩:=h
 unfold Lib.dg
 have:u / 10 ^ (Lib.nDigits u - 1 - t) % 10<10:=Nat.mod_lt _ (by omega)
 rw [UInt8.toNat_ofNat']
 omega
def Qy (s:ByteArray):Option Nat:=
 if 1≤s.size∧s.size≤4 then (match Lib.decNat (toL s) with | some n=>if ofL (Lib.decDigits n)=s then some n else none | none=>none) else none
def Zds (s:ByteArray):Int × Bool:=match Qy s with | some n=>((n:Int),true) | none=>(0,false)
theorem Zim {s:ByteArray} {n:Nat} (h:Qy s=some n):s=ofL (Lib.decDigits n)∧n≤9999:=by
 unfold Qy at h
 split at h
 ·rename_i hs
  split at h
  ·split at h
   ·rename_i m _ he
    obtain rfl:=Option.some.inj h
    refine ⟨he.symm,?_⟩
    have hl:Lib.nDigits m≤4:=by
     have:=congrArg ByteArray.size he
     rw [ZhH,Lib.decDigits_length] at this
     omega
    have:=Lib.lt_pow_nDigits m
    have h2:10 ^ Lib.nDigits m≤10 ^ 4:=Nat.pow_le_pow_right (by omega) hl
    omega
   ·simp at h
  ·simp at h
 ·simp at h
theorem ZsQ {a b:ByteArray} {n:Nat} (h1:Qy a=some n) (h2:Qy b=some n):a=b:=(Zim h1).1.trans (Zim h2).1.symm
theorem ZoC {body:Nat→UInt8→Int→Option (Int ⊕ (Int × Bool))} {fin:Int→Option (Int × Bool)}
  (hb:∀i (x:UInt8) n,body i x n=if (decide (((x.toNat:Nat):Int)<48))=true then some (.inr (0,false)) else if (decide (57<((x.toNat:Nat):Int)))=true then some (.inr (0,false)) else some (.inl (IntKind.i64.wrap ((IntKind.i64.wrap (10 * n))+IntKind.i64.wrap (IntKind.u8.wrap (((x.toNat:Nat):Int) - 48)))))):
  ∀(l:List UInt8) (i acc:Nat),(acc+1) * 10 ^ l.length≤100000→Zp body fin l i (acc:Int)=match Lib.decFrom acc l with | some n=>fin (n:Int) | none=>some (0,false)
 | [],i,acc,_=>rfl
 | x::l,i,acc,h=>by
  unfold Lib.decFrom Lib.digitVal
  by_cases h1:48≤x.toNat∧x.toNat≤57
  ·have e:body i x (acc:Int)=some (.inl ((acc * 10+(x.toNat - 48):Nat):Int)):=by
    have hp:1≤10 ^ (x::l).length:=Nat.one_le_pow _ _ (by omega)
    have h2:acc+1≤100000:=Nat.le_trans (Nat.le_mul_of_pos_right _ hp) h
    rw [hb,if_neg (by simp;omega),if_neg (by simp;omega),ZdA (n:=10 * (acc:Int)) (by omega) (by omega),IntKind.wrap_u8,ZdA (n:=(((x.toNat:Nat):Int) - 48) % 256) (by omega) (by omega),ZdA (by omega) (by omega)]
    congr 2
    omega
   rw [Ye e,if_pos h1]
   refine ZoC hb l (i+1) _ ?_
   rw [List.length_cons,Nat.pow_succ] at h
   refine Nat.le_trans ?_ h
   rw [show (acc+1) * (10 ^ l.length * 10)=((acc+1) * 10) * 10 ^ l.length by rw [Nat.mul_assoc,Nat.mul_comm 10]]
   exact Nat.mul_le_mul_right _ (by omega)
  ·have e:body i x (acc:Int)=some (.inr (0,false)):=by
    rw [hb]
    by_cases h2:x.toNat<48
    ·rw [if_pos (by simp;omega)]
    ·rw [if_neg (by simp;omega),if_pos (by simp;omega)]
   rw [Yy e,if_neg h1]
theorem Zta (n a b:Int):ZaU n a b=some (decide (a≤n)&&decide (n≤b)):=by
 unfold ZaU
 by_cases h:a≤n<;>simp [h]
theorem ZbG (s:ByteArray):QS s=some (Zds s):=by
 unfold QS Zds Qy
 rw [Zta,Option.bind_some]
 by_cases hs:1≤s.size∧s.size≤4
 ·rw [if_pos (by simp;omega),if_pos hs]
  have hl:s.data.toList.length=s.size:=Zck s
  refine (ZoC (fun _ _ _=>rfl) s.data.toList 0 0 (by
   rw [hl,Nat.zero_add,Nat.one_mul]
   exact Nat.le_trans (Nat.pow_le_pow_right (by omega) hs.2) (by omega))).trans ?_
  have hd:Lib.decNat (toL s)=Lib.decFrom 0 s.data.toList:=by
   unfold Lib.decNat
   rw [if_neg]
   ·rfl
   ·intro e
    have:=Zck s
    rw [List.isEmpty_iff.1 e] at this
    simp at this;omega
  rw [hd]
  cases hv:Lib.decFrom 0 s.data.toList with
  | none=>rfl
  | some n=>
   have hb:n<1000000000000000000:=Lib.decFrom_lt18 hv (by omega)
   show (ZaQ ((n:Nat):Int)).bind _=_
   rw [Zlb ⟨by omega,by omega⟩,Option.bind_some,Lib.itoa_nonneg]
   by_cases he:ofL (Lib.decDigits n)=s
   ·rw [if_pos (ZT.2 he)]
    simp only [he,if_true]
   ·rw [if_neg (by rw [ZT];exact he)]
    simp only [he,if_false]
 ·rw [if_neg (by simp;omega),if_neg hs]
theorem Zsn {b:UInt8} {r:List UInt8} (h:b=45∨b=43):Lib.decNat (b::r)=none:=by
 rcases h with rfl | rfl<;>simp [Lib.decNat,Lib.decFrom,Lib.digitVal]
theorem Zmm {s:ByteArray} (h:Lib.decNat (toL s)=none):Qy s=none:=by
 unfold Qy
 rw [h]
 split<;>rfl
theorem ZbQ (s:ByteArray):QK s=some (Zds s):=by
 unfold QK
 by_cases h1:s.size<1
 ·rw [if_pos (by simp;omega)]
  unfold Zds Qy
  rw [if_neg (by omega)]
 by_cases h2:4<s.size
 ·rw [if_neg (by simp;omega),if_pos (by simp;omega)]
  unfold Zds Qy
  rw [if_neg (by omega)]
 rw [if_neg (by simp;omega),if_neg (by simp;omega)]
 have hl:=Zck s
 have hx:ZkL s=some (match Lib.atoi (toL s) with | some n=>(n,true) | none=>(0,false)):=by
  unfold ZkL
  exact Zj _ (by omega)
 rw [hx,Option.bind_some]
 cases hL:toL s with
 | nil=>rw [hL] at hl;simp at hl;omega
 | cons b r=>
  have sgn:b=45∨b=43→Zds s=(0,false):=fun h=>by
   unfold Zds
   rw [Zmm (by rw [hL];exact Zsn h)]
  have bad:∀m,(b=45∨b=43)→¬ofL (Lib.decDigits m)=s:=fun m h e=>by
   have hm:b∈Lib.decDigits m:=by
    have:toL s=Lib.decDigits m:=by rw [←e,ZbN]
    rw [←this,hL];simp
   have:=ZlW hm
   rcases h with rfl | rfl<;>simp at this
  by_cases hb1:b=45
  ·rw [sgn (.inl hb1)]
   cases hd:Lib.decNat r with
   | none=>simp [Lib.atoi,hb1,hd]
   | some m=>
    have e:Lib.atoi (b::r)=some (-(m:Int)):=by simp [Lib.atoi,hb1,hd]
    rw [e]
    simp only [if_true]
    by_cases hm:m=0
    ·subst hm
     rw [if_neg (by simp),if_neg (by simp)]
     show (ZaJ ((0:Nat):Int)).bind _=_
     rw [Zdi ⟨by omega,by omega⟩,Option.bind_some,Lib.itoa_nonneg,if_neg (by rw [ZT];exact bad 0 (.inl hb1))]
    ·rw [if_pos (by simp;omega)]
  ·by_cases hb2:b=43
   ·rw [sgn (.inr hb2)]
    cases hd:Lib.decNat r with
    | none=>simp [Lib.atoi,hb2,hd]
    | some m=>
     have e:Lib.atoi (b::r)=some (m:Int):=by simp [Lib.atoi,hb2,hd]
     rw [e]
     simp only [if_true]
     rw [if_neg (by simp)]
     by_cases hm:9999<m
     ·rw [if_pos (by simp;omega)]
     ·rw [if_neg (by simp;omega),Zdi ⟨by omega,by omega⟩,Option.bind_some,Lib.itoa_nonneg,if_neg (by rw [ZT];exact bad m (.inr hb2))]
   ·have e:Lib.atoi (b::r)=(Lib.decNat (b::r)).map fun (m:Nat)=>(m:Int):=by simp [Lib.atoi,hb1,hb2]
    rw [e]
    cases hd:Lib.decNat (b::r) with
    | none=>
     unfold Zds
     rw [Zmm (by rw [hL];exact hd)]
     rfl
    | some m=>
     simp only [Option.map_some,if_true]
     rw [if_neg (by simp)]
     have hn:Qy s=if ofL (Lib.decDigits m)=s then some m else none:=by
      unfold Qy
      rw [if_pos (by omega),hL,hd]
     by_cases hm:9999<m
     ·rw [if_pos (by simp;omega)]
      have:Qy s=none:=by
       cases hq:Qy s with
       | none=>rfl
       | some n=>
        have h3:=(Zim hq).2
        rw [hn] at hq
        split at hq
        ·obtain rfl:=Option.some.inj hq;omega
        ·simp at hq
      unfold Zds
      rw [this]
     ·rw [if_neg (by simp;omega),Zdi ⟨by omega,by omega⟩,Option.bind_some,Lib.itoa_nonneg]
      unfold Zds
      rw [hn]
      by_cases he:ofL (Lib.decDigits m)=s
      ·rw [if_pos (ZT.2 he),if_pos he]
      ·rw [if_neg (by rw [ZT];exact he),if_neg he]
def Zjv (x y:Nat):Int:=if x<y then -1 else if y<x then 1 else 0
theorem ZnA:ZmE Zjv where
 eq:=fun a b=>by unfold Zjv;split<;>(try split)<;>omega
 anti:=fun a b=>by unfold Zjv;split<;>(try split)<;>(try split)<;>omega
 tr:=fun a b d h1 h2=>by
  unfold Zjv at *
  split at h1
  ·split at h2
   ·rw [if_pos (by omega)];omega
   ·split at h2<;>omega
  ·split at h1<;>omega
def Zfd (a b:ByteArray):Int:=
 match Qy a,Qy b with
 | some x,some y=>Zjv x y
 | some _,none=>-1
 | none,some _=>1
 | none,none=>Zhm a b
theorem Znl:ZmE Zfd where
 eq:=fun a b=>by
  unfold Zfd
  cases ha:Qy a with
  | none=>
   cases hb:Qy b with
   | none=>exact Za8.eq a b
   | some y=>simp only;exact ⟨fun h=>by omega,fun h=>by rw [h,hb] at ha;simp at ha⟩
  | some x=>
   cases hb:Qy b with
   | none=>simp only;exact ⟨fun h=>by omega,fun h=>by rw [h,hb] at ha;simp at ha⟩
   | some y=>
    simp only
    rw [ZnA.eq]
    exact ⟨fun h=>ZsQ ha (h ▸ hb),fun h=>by rw [h,hb] at ha;exact (Option.some.inj ha).symm⟩
 anti:=fun a b=>by
  unfold Zfd
  cases Qy a<;>cases Qy b<;>simp only
  ·exact Za8.anti a b
  ·rfl
  ·exact ZnA.anti _ _
 tr:=fun a b d h1 h2=>by
  unfold Zfd at *
  cases ha:Qy a<;>cases hb:Qy b<;>cases hd:Qy d<;>simp only [ha,hb,hd] at h1 h2 ⊢<;>first | omega | exact Za8.tr a b d h1 h2 | exact ZnA.tr _ _ _ h1 h2
theorem Zbw (x y:Nat):XP (x:Int) (y:Int)=some (Zjv x y):=by
 unfold XP Zjv
 by_cases h1:x<y
 ·rw [if_pos (by simpa using h1),if_pos h1]
 ·rw [if_neg (by simpa using h1),if_neg h1]
  by_cases h2:y<x
  ·rw [if_pos (by simpa using h2),if_pos h2]
  ·rw [if_neg (by simpa using h2),if_neg h2]
theorem ZdO (a b:ByteArray):Xo a b=some (Zfd a b):=by
 unfold Xo Zfd
 rw [ZbG,Option.bind_some,ZbG,Option.bind_some]
 unfold Zds
 cases Qy a with
 | none=>
  cases Qy b with
  | none=>simp only [Bool.false_eq_true,if_false];rw [Zkg];rfl
  | some y=>rfl
 | some x=>
  cases Qy b with
  | none=>rfl
  | some y=>
   simp only [if_true]
   unfold Zjv
   by_cases h1:x<y
   ·rw [if_pos (by simpa using h1),if_pos h1]
   ·rw [if_neg (by simpa using h1),if_neg h1]
    by_cases h2:y<x
    ·rw [if_pos (by simpa using h2),if_pos h2]
    ·rw [if_neg (by simpa using h2),if_neg h2]
theorem Zib (a b:ByteArray):QI a b=some (Zfd a b):=by
 unfold QI Zfd
 rw [ZbQ,Option.bind_some,ZbQ,Option.bind_some]
 unfold Zds
 cases Qy a with
 | none=>
  cases Qy b with
  | none=>simp only [Bool.false_eq_true,if_false];rw [ZhG];rfl
  | some y=>rfl
 | some x=>
  cases Qy b with
  | none=>rfl
  | some y=>simp only [if_true];rw [Zbw];rfl
def ZfM {α:Type} (c:α→α→Int):List α→List α→Int
 | [],[]=>0
 | [],_::_=>-1
 | _::_,[]=>1
 | x::l,y::r=>if c x y=0 then ZfM c l r else c x y
theorem Zno {α:Type} {c:α→α→Int} (h:ZmE c):ZmE (ZfM c) where
 eq:=fun a=>by
  induction a with
  | nil=>intro b;cases b<;>simp [ZfM]
  | cons x l ih=>
   intro b
   cases b with
   | nil=>simp [ZfM]
   | cons y r=>
    simp only [ZfM]
    by_cases hx:c x y=0
    ·rw [if_pos hx,ih,(h.eq x y).1 hx];simp
    ·rw [if_neg hx]
     exact ⟨fun e=>absurd e hx,fun e=>absurd ((h.eq x y).2 (by simp at e;exact e.1)) hx⟩
 anti:=fun a=>by
  induction a with
  | nil=>intro b;cases b<;>simp [ZfM]
  | cons x l ih=>
   intro b
   cases b with
   | nil=>simp [ZfM]
   | cons y r=>
    simp only [ZfM]
    have hy:=h.anti x y
    by_cases hx:c x y=0
    ·rw [if_pos hx,if_pos (by omega),ih]
    ·rw [if_neg hx,if_neg (by omega),hy]
 tr:=fun a=>by
  induction a with
  | nil=>
   intro b d h1 h2
   cases b with
   | nil=>simp [ZfM] at h1
   | cons y r=>cases d with
    | nil=>simp [ZfM] at h2
    | cons z q=>simp [ZfM]
  | cons x l ih=>
   intro b d h1 h2
   cases b with
   | nil=>simp [ZfM] at h1
   | cons y r=>cases d with
    | nil=>simp [ZfM] at h2
    | cons z q=>
     simp only [ZfM] at h1 h2 ⊢
     by_cases hx:c x y=0
     ·rw [if_pos hx] at h1
      obtain rfl:=(h.eq x y).1 hx
      by_cases hz:c x z=0
      ·rw [if_pos hz] at h2 ⊢;exact ih r q h1 h2
      ·rw [if_neg hz] at h2 ⊢;exact h2
     ·rw [if_neg hx] at h1
      by_cases hz:c y z=0
      ·obtain rfl:=(h.eq y z).1 hz
       rw [if_neg hx];exact h1
      ·rw [if_neg hz] at h2
       have:=h.tr x y z h1 h2
       rw [if_neg (by omega)];exact this
def Zdt (a b:Zc):Int:=if Zhm a.rel b.rel=0 then ZfM Zfd a.args b.args else Zhm a.rel b.rel
theorem Zn9 {a b:Zc} (h1:a.rel=b.rel) (h2:a.args=b.args):a=b:=by cases a;cases b;simp_all
theorem Zdy:ZmE Zdt where
 eq:=fun a b=>by
  unfold Zdt
  by_cases h:Zhm a.rel b.rel=0
  ·rw [if_pos h,(Zno Znl).eq]
   exact ⟨fun e=>Zn9 ((Za8.eq _ _).1 h) e,fun e=>by rw [e]⟩
  ·rw [if_neg h]
   exact ⟨fun e=>absurd e h,fun e=>absurd ((Za8.eq _ _).2 (by rw [e])) h⟩
 anti:=fun a b=>by
  unfold Zdt
  have hy:=Za8.anti a.rel b.rel
  by_cases h:Zhm a.rel b.rel=0
  ·rw [if_pos h,if_pos (by omega),(Zno Znl).anti]
  ·rw [if_neg h,if_neg (by omega),hy]
 tr:=fun a b d h1 h2=>by
  unfold Zdt at *
  by_cases hx:Zhm a.rel b.rel=0
  ·rw [if_pos hx] at h1
   have e:=(Za8.eq _ _).1 hx
   rw [e]
   by_cases hz:Zhm b.rel d.rel=0
   ·rw [if_pos hz] at h2 ⊢;exact (Zno Znl).tr _ _ _ h1 h2
   ·rw [if_neg hz] at h2 ⊢;exact h2
  ·rw [if_neg hx] at h1
   by_cases hz:Zhm b.rel d.rel=0
   ·rw [←(Za8.eq _ _).1 hz,if_neg hx];exact h1
   ·rw [if_neg hz] at h2
    have:=Za8.tr _ _ _ h1 h2
    rw [if_neg (by omega)];exact this
theorem Zcm {α:Type} (l:List α) (i:Nat):atI l (i:Int)=l[i]?:=by unfold atI;rw [if_pos (by omega),Int.toNat_natCast]
theorem ZiD {A B:List ByteArray} {body:Nat→ByteArray→Unit→Option (Unit ⊕ Int)} {fin:Unit→Option Int}
  (hlt:∀i x y,B[i]?=some y→body i x ()=if Zfd x y=0 then some (.inl ()) else some (.inr (Zfd x y))) (hge:∀x,B.length<A.length→body B.length x ()=some (.inr 1)) (hfin:A.length≤B.length→fin ()=some (if A.length<B.length then -1 else 0)):
  ∀(l:List ByteArray) (i:Nat),i+l.length=A.length→i≤B.length→Zp body fin l i ()=some (ZfM Zfd l (B.drop i))
 | [],i,h,hi=>by
  simp at h
  rw [Zj7,hfin (by omega)]
  by_cases hb:A.length<B.length
  ·rw [if_pos hb]
   cases hd:B.drop i with
   | nil=>have:=congrArg List.length hd;simp at this;omega
   | cons y r=>rfl
  ·rw [if_neg hb,List.drop_eq_nil_of_le (by omega)]
   rfl
 | x::l,i,h,hi=>by
  simp only [List.length_cons] at h
  by_cases hb:i<B.length
  ·have hy:B[i]?=some B[i]:=List.getElem?_eq_getElem hb
   rw [List.drop_eq_getElem_cons hb]
   simp only [ZfM]
   by_cases hc:Zfd x B[i]=0
   ·rw [Ye (by rw [hlt i x _ hy,if_pos hc]),if_pos hc]
    exact ZiD hlt hge hfin l (i+1) (by omega) (by omega)
   ·rw [Yy (by rw [hlt i x _ hy,if_neg hc]),if_neg hc]
  ·obtain rfl:i=B.length:=by omega
   rw [Yy (hge x (by omega)),List.drop_eq_nil_of_le (Nat.le_refl _)]
   rfl
theorem ZdG (a b:Zc):Xj a b=some (Zdt a b):=by
 unfold Xj Zdt
 by_cases h:a.rel=b.rel
 ·rw [if_pos (ZT.2 h),if_pos ((Za8.eq _ _).2 h)]
  refine ZiD (A:=a.args) (B:=b.args) (fun i x y hy=>?_) (fun x hx=>?_) (fun hx=>?_) a.args 0 (by simp) (Nat.zero_le _)
  ·have hi:=(List.getElem?_eq_some_iff.1 hy).1
   rw [if_pos (by simpa using hi),Zcm,hy,Option.bind_some,ZdO,Option.bind_some]
   by_cases hc:Zfd x y=0
   ·rw [hc];rfl
   ·rw [if_pos (by simpa using hc),if_neg hc]
  ·rw [if_neg (by simp),if_neg (by simp;omega),if_pos (by simpa using hx)]
  ·by_cases h2:a.args.length<b.args.length
   ·rw [if_pos (by simpa using h2),if_pos h2]
   ·rw [if_neg (by simpa using h2),if_neg (by simp;omega),if_neg h2]
 ·rw [if_neg (by rw [ZT];exact h),if_neg (fun e=>h ((Za8.eq _ _).1 e)),Zkg]
  rfl
theorem Zdx (a b:Zc):Qb a b=some (Zdt a b):=by
 unfold Qb Zdt
 rw [ZhG,Option.bind_some]
 by_cases h:Zhm a.rel b.rel=0
 ·rw [if_neg (by simpa using h),if_pos h]
  refine ZiD (A:=a.args) (B:=b.args) (fun i x y hy=>?_) (fun x hx=>?_) (fun hx=>?_) a.args 0 (by simp) (Nat.zero_le _)
  ·have hi:=(List.getElem?_eq_some_iff.1 hy).1
   rw [if_pos (by simpa using hi),Zcm,hy,Option.bind_some,Zib,Option.bind_some]
   by_cases hc:Zfd x y=0
   ·rw [hc];rfl
   ·rw [if_pos (by simpa using hc),if_neg hc]
  ·rw [if_neg (by simp),Zbw]
   unfold Zjv
   rw [if_neg (by omega),if_pos hx]
   rfl
  ·rw [Zbw]
   unfold Zjv
   by_cases h2:a.args.length<b.args.length
   ·rw [if_pos h2,if_pos h2];rfl
   ·rw [if_neg h2,if_neg (by omega),if_neg h2];rfl
 ·rw [if_pos (by simpa using h),if_neg h]
end Go.Proofs.YtojnhepgnbhaaaaGreatDoor
namespace Go.Proofs.YtojnhepgnbhaaaaGreatDoor
theorem XE (f:Zc) (h:f.args.length≤1048576):X1 f=some f:=by
 unfold X1
 rw [Zns _ (by omega)]
 rfl
theorem Xd (f:Zc) (h:f.args.length≤1048576):Y3 f=some f:=by
 unfold Y3
 rw [Zfi _ (by omega)]
 rfl
theorem Zkm {B:List ByteArray} {body:Nat→ByteArray→Unit→Option (Unit ⊕ Bool)} (hb:∀i x y,B[i]?=some y→body i x ()=if x=y then some (.inl ()) else some (.inr false)):
  ∀(l:List ByteArray) (i:Nat),i+l.length=B.length→Zp body (fun _=>some true) l i ()=some (decide (l=B.drop i))
 | [],i,h=>by
  simp at h
  rw [Zj7,List.drop_eq_nil_of_le (by omega)]
  simp
 | x::l,i,h=>by
  simp only [List.length_cons] at h
  have hi:i<B.length:=by omega
  have hd:(x::l=B.drop i)↔(x=B[i]∧l=B.drop (i+1)):=by rw [List.drop_eq_getElem_cons hi,List.cons.injEq]
  rw [Bool.eq_iff_iff.2 (show decide (x::l=B.drop i)=true↔decide (x=B[i]∧l=B.drop (i+1))=true by rw [decide_eq_true_iff,decide_eq_true_iff];exact hd)]
  by_cases hx:x=B[i]
  ·rw [Ye (by rw [hb i x _ (List.getElem?_eq_getElem hi),if_pos hx]),Zkm hb l (i+1) (by omega)]
   simp [hx]
  ·rw [Yy (by rw [hb i x _ (List.getElem?_eq_getElem hi),if_neg hx])]
   simp [hx]
theorem ZkT (a b:List ByteArray):Zb0 a b=some (decide (a=b)):=by
 unfold Zb0
 by_cases h:a.length=b.length
 ·rw [if_neg (by simp;omega)]
  have:=Zkm (B:=b) (body:=fun i6 x7 _=>(atI b ((i6:Nat):Int)).bind fun x8=>if (sEq x7 x8)=true then some (.inl ()) else some (.inr false)) (fun i x y hy=>by
   show (atI b ((i:Nat):Int)).bind _=_
   rw [Zcm,hy,Option.bind_some]
   by_cases hx:x=y
   ·rw [if_pos (ZT.2 hx),if_pos hx]
   ·rw [if_neg (by rw [ZT];exact hx),if_neg hx]) a 0 (by omega)
  simpa using this
 ·rw [if_pos (by simp;omega),decide_eq_false (fun e=>h (by rw [e]))]
open Classical
theorem ZbM (a b:Zc):Zbp a b=some (decide (a=b)):=by
 unfold Zbp
 by_cases h:a.rel=b.rel
 ·rw [if_pos (ZT.2 h),ZkT,Option.bind_some]
  congr 1
  rw [Bool.eq_iff_iff,decide_eq_true_iff,decide_eq_true_iff]
  exact ⟨fun e=>Zn9 h e,fun e=>by rw [e]⟩
 ·rw [if_neg (by rw [ZT];exact h),decide_eq_false (fun e=>h (by rw [e]))]
theorem ZlU (l:List Zc) (f:Zc):∃z,Yh l f=some z∧(z<0↔f∉l):=by
 unfold Yh
 have key:∀(l:List Zc) (i:Nat),∃z,Zp (σ:=Unit) (fun (i6:Nat) (x7:Zc) _=>(Zbp x7 f).bind fun v8=>if v8=true then some (.inr ((i6:Nat):Int)) else some (.inl ())) (fun _=>some (-1)) l i ()=some z∧(z<0↔f∉l):=by
  intro l
  induction l with
  | nil=>intro i;exact ⟨-1,rfl,by simp⟩
  | cons x l ih=>
   intro i
   by_cases hx:x=f
   ·refine ⟨(i:Int),Yy (by rw [ZbM,Option.bind_some,if_pos (decide_eq_true hx)]),by simp [hx]⟩
   ·obtain ⟨z,e,hz⟩:=ih (i+1)
    refine ⟨z,(Ye (by rw [ZbM,Option.bind_some,if_neg (by simpa using hx)])).trans e,?_⟩
    rw [hz,List.mem_cons]
    exact ⟨fun h=>by rintro (h1 | h1);exact hx h1.symm;exact h h1,fun h h1=>h (.inr h1)⟩
 exact key l 0
def Zdq:List Zc→Zc→List Zc
 | [],f=>[f]
 | x::l,f=>if Zdt x f<0 then x::Zdq l f else if Zdt x f=0 then x::l else f::x::l
def Ziv (l:List Zc):Prop:=l.Pairwise fun x y=>Zdt x y<0
theorem Zac {y f:Zc}:∀{l:List Zc},y∈Zdq l f↔y=f∨y∈l
 | []=>by simp [Zdq]
 | x::l=>by
  simp only [Zdq]
  split
  ·rw [List.mem_cons,Zac,List.mem_cons]
   exact ⟨fun h=>by rcases h with h | h | h<;>simp [h],fun h=>by rcases h with h | h | h<;>simp [h]⟩
  ·split
   ·rename_i h
    have e:=(Zdy.eq _ _).1 h
    rw [List.mem_cons,e]
    exact ⟨fun h=>by rcases h with h | h<;>simp [h],fun h=>by rcases h with h | h | h<;>simp [h]⟩
   ·rw [List.mem_cons]
theorem Zpn (f:Zc):∀l:List Zc,(Zdq l f).length≤l.length+1
 | []=>by simp [Zdq]
 | x::l=>by
  have:=Zpn f l
  simp only [Zdq]
  split
  ·simp;omega
  ·split<;>simp
theorem Zoq {f:Zc}:∀{l:List Zc},Ziv l→Ziv (Zdq l f)
 | [],_=>by simp [Zdq,Ziv]
 | x::l,h=>by
  unfold Ziv at *
  rw [List.pairwise_cons] at h
  simp only [Zdq]
  split
  ·rename_i hx
   rw [List.pairwise_cons]
   refine ⟨fun y my=>?_,Zoq h.2⟩
   rcases Zac.1 my with rfl | my
   ·exact hx
   ·exact h.1 y my
  ·rename_i hx
   split
   ·rw [List.pairwise_cons];exact h
   ·rename_i h0
    have hfx:Zdt f x<0:=by rw [Zdy.anti x f];omega
    rw [List.pairwise_cons,List.pairwise_cons]
    refine ⟨fun y my=>?_,h⟩
    rcases List.mem_cons.1 my with rfl | my
    ·exact hfx
    ·exact Zdy.tr _ _ _ hfx (h.1 y my)
theorem Zp5 (l:List Zc) (f:Zc) (hl:l.length≤1048576) (ha:∀x∈l,x.args.length≤1048576) (hf:f.args.length≤1048576):ZbK l f=some (Zdq l f):=by
 unfold ZbK
 rw [Zad (fun l _ s=>some (s.1++(if s.2=true then l else Zdq l f))) (fun l _ s=>s.1.length+2 * l.length+1≤4000000∧∀x∈l,x.args.length≤1048576) ?_ ?_ l 0 ([],false) ⟨by simp;omega,ha⟩]
 ·simp
 ·rintro i ⟨row,done⟩ ⟨h1,_⟩
  cases done with
  | true=>simp
  | false=>
   simp only [Bool.false_eq_true,if_false]
   simp only [List.length_nil] at h1
   rw [XE f hf,Option.bind_some,Zj _ (by omega)]
   rfl
 ·rintro x l i ⟨row,done⟩ ⟨h1,h2⟩
  simp only [List.length_cons] at h1
  have hx:=h2 x (by simp)
  left
  cases done with
  | true=>
   simp only [if_true]
   rw [XE x hx,Option.bind_some,Zj _ (by omega)]
   exact ⟨_,rfl,⟨by simp;omega,fun y my=>h2 y (by simp [my])⟩,by simp⟩
  | false=>
   simp only [Bool.false_eq_true,if_false]
   rw [ZdG,Option.bind_some]
   by_cases hlt:Zdt x f<0
   ·rw [if_neg (by simp;omega),XE x hx,Option.bind_some,Zj _ (by omega)]
    exact ⟨_,rfl,⟨by simp;omega,fun y my=>h2 y (by simp [my])⟩,by simp [Zdq,hlt]⟩
   ·rw [if_pos (by simp;omega),Option.bind_some]
    by_cases h0:Zdt x f=0
    ·rw [if_neg (by simp;omega),XE x hx,Option.bind_some,Zj _ (by omega)]
     exact ⟨_,rfl,⟨by simp;omega,fun y my=>h2 y (by simp [my])⟩,by simp [Zdq,h0]⟩
    ·rw [if_pos (by simp;omega),XE f hf,Option.bind_some,Zj _ (by omega),XE x hx,Option.bind_some,Zj _ (by omega)]
     exact ⟨_,rfl,⟨by simp;omega,fun y my=>h2 y (by simp [my])⟩,by simp [Zdq,h0,hlt]⟩
theorem Znm (l:List Zc) (f:Zc) (hn:f∉l) (hl:l.length≤1048576) (ha:∀x∈l,x.args.length≤1048576) (hf:f.args.length≤1048576):X2 l f=some (Zdq l f):=by
 unfold X2
 rw [Zad (fun l _ s=>some (s.1++(if s.2=true then l else Zdq l f))) (fun l _ s=>s.1.length+2 * l.length+1≤4000000∧f∉l∧∀x∈l,x.args.length≤1048576) ?_ ?_ l 0 ([],false) ⟨by simp;omega,hn,ha⟩]
 ·simp
 ·rintro i ⟨row,done⟩ ⟨h1,_⟩
  cases done with
  | true=>simp
  | false=>
   simp only [Bool.false_eq_true,if_false]
   simp only [List.length_nil] at h1
   rw [Xd f hf,Option.bind_some,Zj _ (by omega)]
   rfl
 ·rintro x l i ⟨row,done⟩ ⟨h1,h3,h2⟩
  simp only [List.length_cons] at h1
  have hx:=h2 x (by simp)
  have h3':f∉l:=fun m=>h3 (by simp [m])
  left
  cases done with
  | true=>
   simp only [if_true]
   rw [Xd x hx,Option.bind_some,Zj _ (by omega)]
   exact ⟨_,rfl,⟨by simp;omega,h3',fun y my=>h2 y (by simp [my])⟩,by simp⟩
  | false=>
   simp only [Bool.false_eq_true,if_false]
   rw [Zdx,Option.bind_some]
   have h0:¬Zdt x f=0:=fun e=>h3 (by rw [(Zdy.eq _ _).1 e];simp)
   by_cases hlt:Zdt x f<0
   ·rw [if_neg (by simp;omega),Xd x hx,Option.bind_some,Zj _ (by omega)]
    exact ⟨_,rfl,⟨by simp;omega,h3',fun y my=>h2 y (by simp [my])⟩,by simp [Zdq,hlt]⟩
   ·rw [if_pos (by simp;omega),Xd f hf,Option.bind_some,Zj _ (by omega),Xd x hx,Option.bind_some,Zj _ (by omega)]
    exact ⟨_,rfl,⟨by simp;omega,h3',fun y my=>h2 y (by simp [my])⟩,by simp [Zdq,h0,hlt]⟩
end Go.Proofs.YtojnhepgnbhaaaaGreatDoor
namespace Go.Proofs.YtojnhepgnbhaaaaGreatDoor
def Z1 (p:Zv):Bool:=Qi p.rel&&decide (p.args.length≤3)&&p.args.all YD
theorem Za6 (p:Zv):Xb p=some (Z1 p):=by
 unfold Xb Z1
 rw [Yf (p:=YD) (r:=false)]
 ·simp only [ZfC,Option.bind_some]
  have:decide (((p.args.length:Nat):Int)≤3)=decide (p.args.length≤3):=by rw [Bool.eq_iff_iff];simp only [decide_eq_true_eq];omega
  rw [this]
  cases p.args.all YD<;>cases Qi p.rel<;>simp
 ·intro i x _
  rw [Zjd]
  cases YD x<;>simp
theorem ZaY (p:Zv):Xe p=some (Z1 p):=by
 unfold Xe Z1
 rw [Zfk,Yf (p:=YD) (r:=false)]
 ·by_cases h:p.args.length≤3
  ·have h':¬(3:Int)<((p.args.length:Nat):Int):=by omega
   cases p.args.all YD<;>cases Qi p.rel<;>simp [h,h']
  ·have h':(3:Int)<((p.args.length:Nat):Int):=by omega
   cases Qi p.rel<;>simp [h,h']
 ·intro i x _
  rw [Zjs]
  cases YD x<;>simp
def Y6 (p:Zv):Bool:=sEq p.rel ⟨#[]⟩&&decide (p.args.length=0)
theorem ZrL {α:Type} (l:List α):((((l.length:Nat):Int))==0)=decide (l.length=0):=by
 rw [Bool.eq_iff_iff,beq_iff_eq,decide_eq_true_eq];omega
theorem Zer (p:Zv):Xc p=some (Y6 p):=by
 unfold Xc Y6
 rw [ZrL]
 cases sEq p.rel ⟨#[]⟩<;>simp
def YT (x:Zm):Bool:=
 if x.kind=1∨x.kind=2 then Z1 x.pattern&&sEq x.left ⟨#[]⟩&&sEq x.right ⟨#[]⟩
 else if x.kind=3∨x.kind=4∨x.kind=5 then Y6 x.pattern&&YD x.left&&YD x.right
 else false
theorem ZdL (x:Zm):Zc9 x=some (YT x):=by
 unfold Zc9 YT
 simp only [Za6,Zjd,Option.bind_some,Y6,ZrL,beq_iff_eq]
 by_cases h1:x.kind=1
 ·simp only [h1,if_true,true_or];cases Z1 x.pattern<;>cases sEq x.left ⟨#[]⟩<;>simp
 by_cases h2:x.kind=2
 ·simp only [h2,if_true,or_true];cases Z1 x.pattern<;>cases sEq x.left ⟨#[]⟩<;>simp
 simp only [h1,h2,if_false,or_self]
 by_cases h3:x.kind=3
 ·simp only [h3,if_true,true_or];cases sEq x.pattern.rel ⟨#[]⟩<;>cases decide (x.pattern.args.length=0)<;>cases YD x.left<;>simp
 by_cases h4:x.kind=4
 ·simp only [h4,if_true,true_or,or_true];cases sEq x.pattern.rel ⟨#[]⟩<;>cases decide (x.pattern.args.length=0)<;>cases YD x.left<;>simp
 by_cases h5:x.kind=5
 ·simp only [h5,if_true,or_true];cases sEq x.pattern.rel ⟨#[]⟩<;>cases decide (x.pattern.args.length=0)<;>cases YD x.left<;>simp
 simp [h3,h4,h5]
theorem ZfG (x:Zm):Zdf x=some (YT x):=by
 unfold Zdf YT
 simp only [ZaY,Zjs,Zer,Option.bind_some,beq_iff_eq]
 by_cases h1:x.kind=1
 ·simp only [h1,if_true,true_or];cases Z1 x.pattern<;>cases sEq x.left ⟨#[]⟩<;>simp
 by_cases h2:x.kind=2
 ·simp only [h2,if_true,or_true];cases Z1 x.pattern<;>cases sEq x.left ⟨#[]⟩<;>simp
 simp only [h1,h2,if_false,or_self]
 by_cases h3:x.kind=3
 ·simp only [h3,if_true,true_or];cases Y6 x.pattern<;>cases YD x.left<;>cases YD x.right<;>simp
 by_cases h4:x.kind=4
 ·simp only [h4,if_true,true_or,or_true];cases Y6 x.pattern<;>cases YD x.left<;>cases YD x.right<;>simp
 by_cases h5:x.kind=5
 ·simp only [h5,if_true,or_true];cases Y6 x.pattern<;>cases YD x.left<;>cases YD x.right<;>simp
 simp [h3,h4,h5]
theorem Zm6 {x:Zm} (h:YT x=true):x.kind=1∨x.kind=2∨x.kind=3∨x.kind=4∨x.kind=5:=by
 unfold YT at h
 split at h
 ·rename_i h1;omega
 ·split at h
  ·rename_i h1;omega
  ·simp at h
theorem Zpu (x:Zm):Za9 x=some (YT x&&decide (3≤x.kind)):=by
 unfold Za9
 rw [ZdL]
 cases YT x<;>simp
def Xu (a:Zr):Bool:=
 if a.kind=1∨a.kind=2 then Z1 a.pattern else if a.kind=3 then Y6 a.pattern else false
theorem ZlG (a:Zr):Zdm a=some (Xu a):=by
 unfold Zdm Xu
 simp only [Za6,Option.bind_some,Y6,ZrL,beq_iff_eq]
 by_cases h1:a.kind=1
 ·simp [h1]
 by_cases h2:a.kind=2
 ·simp [h2]
 by_cases h3:a.kind=3
 ·simp only [h3,if_true];cases sEq a.pattern.rel ⟨#[]⟩<;>simp
 simp [h1,h2,h3]
theorem Zl0 (a:Zr):ZcH a=some (Xu a):=by
 unfold ZcH Xu
 simp only [ZaY,Zer,Option.bind_some,beq_iff_eq]
 by_cases h1:a.kind=1
 ·simp [h1]
 by_cases h2:a.kind=2
 ·simp [h2]
 by_cases h3:a.kind=3
 ·simp [h3]
 simp [h1,h2,h3]
def Y5 (l:List ByteArray):List ByteArray:=l.filter Yt
theorem Zcw (l:List ByteArray):(Y5 l).length≤l.length:=List.length_filter_le _ _
theorem Zbq {x:ByteArray} {l:List ByteArray}:x∈Y5 l↔x∈l∧Yt x=true:=by simp [Y5]
theorem ZcV (l:List ByteArray) (h:l.length≤1073741824):QJ l=some (Y5 l):=by
 unfold QJ
 rw [ZdE (p:=Yt)]
 ·simp [Y5]
 ·intro j x s _ hs
  rw [Zc0,Option.bind_some]
  split
  ·rw [Zj _ (by simp at hs;omega)]
  ·rfl
theorem ZiY {p:ByteArray→Bool}:∀(l acc:List ByteArray),l.foldl (fun s x=>if p x=true then Qk s x else s) acc=(l.filter p).foldl Qk acc
 | [],_=>rfl
 | x::l,acc=>by
  rw [List.foldl_cons,ZiY l]
  by_cases h:p x=true<;>simp [h]
theorem Zb8 (p:Zv) (h:p.args.length≤1073741823):Za4 p=some (ZR (Y5 p.args)):=by
 unfold Za4
 rw [ZaR (f:=fun s x=>if Yt x=true then Qk s x else s) (fun j s=>s.length≤j) (by simp)]
 ·rw [ZiY];rfl
 ·intro j x s _ _ hl hI
  simp at hl
  have:=ZcC x s
  rw [QC,Option.bind_some]
  split
  ·rw [Qh _ _ (by omega)]
   exact ⟨rfl,by omega⟩
  ·exact ⟨rfl,by omega⟩
def ZfL (x:Zm):List ByteArray:=x.pattern.args++[x.left,x.right]
def YN (x:Zm):List ByteArray:=ZR (Y5 (ZfL x))
theorem ZbL (x:Zm) (h:x.pattern.args.length≤1073741822):Qn x=some (YN x):=by
 unfold Qn Zgk
 rw [Zfi _ (by omega),Option.bind_some,Zj _ (by omega),Option.bind_some,ZcV _ (by simp;omega),Option.bind_some]
 have:=Zcw (x.pattern.args++[x.left,x.right])
 simp at this
 rw [X9 _ (by omega)]
 rfl
theorem ZbF (x:Zm) (h:x.pattern.args.length≤1073741820):XR x=some (YN x):=by
 unfold XR
 have h1:=ZdQ (Y5 x.pattern.args)
 have h2:=Zcw x.pattern.args
 have h3:=ZcC x.left (ZR (Y5 x.pattern.args))
 have key:∀l:List ByteArray,(∀y,y∈l↔y∈Y5 (ZfL x))→Asc l→l=YN x:=fun l hm ha=>ZeX ha hm
 rw [Zb8 _ (by omega),Option.bind_some,QC,Option.bind_some,QC]
 simp only [Option.bind_some]
 rw [Qh _ _ (by omega),Option.bind_some,Qh (Qk _ _) _ (by omega),Option.bind_some,Qh _ x.right (by omega),Option.bind_some]
 cases hl:Yt x.left<;>cases hr:Yt x.right<;>simp only [if_true,Bool.false_eq_true,if_false]<;>congr 1<;>apply key<;>(try intro y)<;>(try simp only [ZhU,ZW,Zbq,ZfL,List.mem_append,List.mem_cons,List.not_mem_nil,or_false])
 all_goals first
  | exact Zca _
  | exact Zfm (Zca _)
  | exact Zfm (Zfm (Zca _))
  | skip
 ·constructor
  ·rintro ⟨a,b⟩;exact ⟨.inl a,b⟩
  ·rintro ⟨a | rfl | rfl,b⟩
   ·exact ⟨a,b⟩
   ·rw [hl] at b;simp at b
   ·rw [hr] at b;simp at b
 ·constructor
  ·rintro (rfl | ⟨a,b⟩)
   ·exact ⟨by simp,hr⟩
   ·exact ⟨.inl a,b⟩
  ·rintro ⟨a | rfl | rfl,b⟩
   ·exact .inr ⟨a,b⟩
   ·rw [hl] at b;simp at b
   ·exact .inl rfl
 ·constructor
  ·rintro (rfl | ⟨a,b⟩)
   ·exact ⟨by simp,hl⟩
   ·exact ⟨.inl a,b⟩
  ·rintro ⟨a | rfl | rfl,b⟩
   ·exact .inr ⟨a,b⟩
   ·exact .inl rfl
   ·rw [hr] at b;simp at b
 ·constructor
  ·rintro (rfl | rfl | ⟨a,b⟩)
   ·exact ⟨by simp,hr⟩
   ·exact ⟨by simp,hl⟩
   ·exact ⟨.inl a,b⟩
  ·rintro ⟨a | rfl | rfl,b⟩
   ·exact .inr (.inr ⟨a,b⟩)
   ·exact .inr (.inl rfl)
   ·exact .inl rfl
theorem Zf8 (x:Zm):(YN x).length≤x.pattern.args.length+2:=by
 have h1:=ZdQ (Y5 (ZfL x))
 have h2:=Zcw (ZfL x)
 have h3:(ZfL x).length=x.pattern.args.length+2:=by simp [ZfL]
 unfold YN
 omega
theorem Zq3 {x:Zm} {v:ByteArray} (h:v∈YN x):Yt v=true:=(Zbq.1 (ZW.1 h)).2
structure Zbf (r:Zf):Prop where
 cl:r.cond.length≤1048576
 tl:r.thn.length≤1048576
 ca:∀x∈r.cond,x.pattern.args.length≤1048576
 ta:∀a∈r.thn,a.pattern.args.length≤1048576
def YK (l:List Zm):List ByteArray:=l.flatMap fun x=>if x.kind=1 then Y5 x.pattern.args else []
def YJ (r:Zf) (n:Nat):List ByteArray:=ZR (YK (r.cond.take n))
theorem ZcK (r:Zf) (n:Int) (h:Zbf r) (h4:r.cond.length≤4):QR r n=some (YJ r n.toNat):=by
 unfold QR YJ
 refine (Zad (fun l i (row:List ByteArray)=>some (ZR (row++YK (l.take (n.toNat - i))))) (fun l i row=>r.cond.drop i=l∧row.length≤1048576 * i∧i≤r.cond.length) ?_ ?_ r.cond 0 [] ⟨by simp,by simp,by simp⟩).trans (by simp)
 ·rintro i row ⟨h1,h2,h3⟩
  rw [X9 _ (by omega)]
  simp [YK]
 ·rintro x l i row ⟨h1,h2,h3⟩
  left
  have hi:r.cond[i]?=some x:=by have:=congrArg (fun l=>l[0]?) h1;simpa using this
  have hlt:i<r.cond.length:=(List.getElem?_eq_some_iff.1 hi).1
  have hr:r.cond.drop (i+1)=l:=by have:=congrArg List.tail h1;simpa using this
  have hx:=h.ca x (List.mem_of_getElem? hi)
  have hv:=Zcw x.pattern.args
  by_cases hn:((i:Nat):Int)<n
  ·have e:n.toNat - i=(n.toNat - (i+1))+1:=by omega
   by_cases hk:x.kind=1
   ·refine ⟨row++Y5 x.pattern.args,?_,⟨hr,by simp;omega,by omega⟩,?_⟩
    ·simp only [hn,hk,decide_true,beq_self_eq_true,if_true]
     rw [ZcV _ (by omega),Option.bind_some,Zj _ (by omega)]
    ·rw [e];simp [YK,hk]
   ·refine ⟨row,?_,⟨hr,by omega,by omega⟩,?_⟩
    ·simp [hn,hk]
    ·rw [e];simp [YK,hk]
  ·have e:n.toNat - i=0:=by omega
   have e':n.toNat - (i+1)=0:=by omega
   refine ⟨row,?_,⟨hr,by omega,by omega⟩,?_⟩
   ·simp [hn]
   ·rw [e,e'];simp
theorem ZcN (r:Zf) (n:Int) (h:Zbf r) (h4:r.cond.length≤4):Qf r n=some (YJ r n.toNat):=by
 unfold Qf YJ
 refine (Zad (fun l i (row:List ByteArray)=>some ((YK (l.take (n.toNat - i))).foldl Qk row)) (fun l i row=>r.cond.drop i=l∧row.length≤1048576 * i∧i≤r.cond.length∧Asc row) ?_ ?_ r.cond 0 [] ⟨by simp,by simp,by simp,List.Pairwise.nil⟩).trans (by simp [ZR])
 ·rintro i row ⟨h1,h2,h3,h5⟩
  simp [YK]
 ·rintro x l i row ⟨h1,h2,h3,h5⟩
  have hi:r.cond[i]?=some x:=by have:=congrArg (fun l=>l[0]?) h1;simpa using this
  have hlt:i<r.cond.length:=(List.getElem?_eq_some_iff.1 hi).1
  have hr:r.cond.drop (i+1)=l:=by have:=congrArg List.tail h1;simpa using this
  have hx:=h.ca x (List.mem_of_getElem? hi)
  have hv:=Zcw x.pattern.args
  have hs:=ZdQ (Y5 x.pattern.args)
  by_cases hn:((i:Nat):Int)<n
  ·left
   have e:n.toNat - i=(n.toNat - (i+1))+1:=by omega
   by_cases hk:x.kind=1
   ·obtain ⟨f1,f2,f3⟩:=XY (ZR (Y5 x.pattern.args)) row h5
    refine ⟨(ZR (Y5 x.pattern.args)).foldl Qk row,?_,⟨hr,by omega,by omega,f1⟩,?_⟩
    ·simp only [hn,hk,decide_true,beq_self_eq_true,if_true]
     rw [Zb8 _ (by omega),Option.bind_some,ZkI (fun _ _ _=>rfl) (by omega)]
    ·rw [e]
     simp only [YK,List.take_succ_cons,List.flatMap_cons,hk,if_true,List.foldl_append]
     congr 2
     obtain ⟨g1,g2,_⟩:=XY (Y5 x.pattern.args) row h5
     exact Znu g1 f1 fun y=>by rw [g2,f2,ZW]
   ·refine ⟨row,?_,⟨hr,by omega,by omega,h5⟩,?_⟩
    ·simp [hn,hk]
    ·rw [e];simp [YK,hk]
  ·right
   have e:n.toNat - i=0:=by omega
   refine ⟨row,by simp [hn],by rw [e];simp [YK]⟩
def Zkr (r:Zf) (i:Int) (v:ByteArray):Bool:=!(Zbr (fun k x=>!(decide ((k:Int)≠i)&&YE (YN x) v)) r.cond 0&&r.thn.all fun a=>!YE a.pattern.args v)
theorem Zf3 {r:Zf} {i:Int} {v:ByteArray} {f:Zm→Option (List ByteArray)} {g:List ByteArray→ByteArray→Option Bool} (hf:∀x∈r.cond,f x=some (YN x)) (hg:∀l,g l v=some (YE l v)) {fin:Unit→Option Bool} (hfin:fin ()=some (!(r.thn.all fun a=>!YE a.pattern.args v))):
  Zp (σ:=Unit) (fun (k:Nat) (x:Zm) _=>if (((k:Nat):Int) != i)=true then (f x).bind fun l=>(g l v).bind fun b=>if b=true then some (.inr true) else some (.inl ()) else some (.inl ())) fin r.cond 0 ()=some (Zkr r i v):=by
 rw [X7 (p:=fun k x=>!(decide ((k:Int)≠i)&&YE (YN x) v)) (r:=true)]
 ·unfold Zkr
  cases Zbr (fun k x=>!(decide ((k:Int)≠i)&&YE (YN x) v)) r.cond 0 with
  | true=>simp only [if_true,hfin,Bool.true_and]
  | false=>simp
 ·intro j x hj
  rw [hf x (List.mem_of_getElem? hj),Option.bind_some,hg,Option.bind_some,Nat.zero_add]
  by_cases h:(j:Int)=i
  ·simp [h]
  ·have:((j:Int) != i)=true:=by simpa using h
   simp only [this,if_true]
   cases YE (YN x) v<;>simp [h]
theorem ZfV (r:Zf) (i:Int) (v:ByteArray) (h:Zbf r):XB r i v=some (Zkr r i v):=by
 unfold XB
 refine Zf3 (f:=Qn) (g:=Xh) (fun x mx=>ZbL x (by have:=h.ca x mx;omega)) (fun l=>QY l v) ?_
 rw [ZcB (p:=fun a=>YE a.pattern.args v) (r:=true)]
 ·simp only [←List.not_any_eq_all_not,Bool.not_not]
  cases r.thn.any fun a=>YE a.pattern.args v<;>rfl
 ·intro j a _
  rw [QY]
  cases YE a.pattern.args v<;>simp
theorem ZiF (r:Zf) (i:Int) (v:ByteArray) (h:Zbf r) (hv:Yt v=true):XS r i v=some (Zkr r i v):=by
 unfold XS
 refine Zf3 (f:=XR) (g:=ZS) (fun x mx=>ZbF x (by have:=h.ca x mx;omega)) (fun l=>YW l v) ?_
 rw [ZcB (p:=fun a=>YE a.pattern.args v) (r:=true)]
 ·simp only [←List.not_any_eq_all_not,Bool.not_not]
  cases r.thn.any fun a=>YE a.pattern.args v<;>rfl
 ·intro j a ma
  rw [Zb8 _ (by have:=h.ta a ma;omega),Option.bind_some,YW,Option.bind_some]
  have:YE (ZR (Y5 a.pattern.args)) v=YE a.pattern.args v:=by
   rw [Bool.eq_iff_iff,X8,X8,ZW,Zbq]
   simp [hv]
  rw [this]
  cases YE a.pattern.args v<;>simp
def ZkO (r:Zf) (i:Nat) (x:Zm) (v:ByteArray):Bool:=decide (x.kind=1)||YE (YJ r i) v||(decide (x.kind=2)&&!Zkr r i v)
def Zf6 (r:Zf) (i:Nat) (x:Zm):Bool:=(YN x).all (ZkO r i x)
theorem Zmb (r:Zf) (i:Nat) (x:Zm) (h:Zbf r) (h4:r.cond.length≤4) (hx:r.cond[i]?=some x):ZbE r i=some (Zf6 r i x):=by
 unfold ZbE Zf6
 have ha:atI r.cond (i:Int)=some x:=by unfold atI;rw [if_pos (by omega),Int.toNat_natCast];exact hx
 rw [ha,Option.bind_some,ZcK r _ h h4,Option.bind_some,ZbL x (by have:=h.ca x (List.mem_of_getElem? hx);omega),Option.bind_some,Int.toNat_natCast]
 rw [Yf (p:=ZkO r i x) (r:=false)]
 ·cases (YN x).all (ZkO r i x)<;>rfl
 ·intro j v mv
  rw [QY,ZfV r _ v h]
  simp only [Option.bind_some,ZkO,beq_iff_eq,bne_iff_ne,ne_eq]
  by_cases h1:x.kind=1
  ·simp [h1]
  ·simp only [h1,if_false,decide_false,Bool.false_or]
   cases YE (YJ r i) v with
   | true=>simp
   | false=>
    by_cases h2:x.kind=2
    ·simp only [h2,not_true_eq_false,if_false,Bool.false_eq_true,decide_true,Bool.true_and,Bool.false_or]
     cases Zkr r i v<;>simp
    ·simp [h2]
def Qj (r:Zf):Bool:=
 Qi r.name&&decide (0≤r.priority)&&decide (r.priority≤9)&&decide (1≤r.cond.length)&&decide (r.cond.length≤4)&&decide (1≤r.thn.length)&&decide (r.thn.length≤2)
  && Zbr (fun i x=>YT x&&(decide (i≠0)||decide (x.kind=1))&&Zf6 r i x) r.cond 0
  && r.thn.all (fun a=>Xu a&&(Y5 a.pattern.args).all (YE (YJ r r.cond.length)))
  && decide ((ZR (r.cond.flatMap YN)).length≤6)
theorem ZjJ (l:List Zm) (h:∀x∈l,x.pattern.args.length≤1048576) (h4:l.length≤4):Zbj l=some (l.flatMap YN):=by
 unfold Zbj
 rw [ZaR (f:=fun s x=>s++YN x) (fun j s=>s.length≤1048578 * j) (by simp)]
 ·congr 1
  have:∀(l:List Zm) (acc:List ByteArray),l.foldl (fun s x=>s++YN x) acc=acc++l.flatMap YN:=by
   intro l
   induction l with
   | nil=>simp
   | cons x l ih=>intro acc;rw [List.foldl_cons,ih];simp
  simpa using this l []
 ·intro j x s mx _ hl hI
  have:=h x mx
  have:=Zf8 x
  rw [ZbL x (by omega),Option.bind_some,Zj _ (by omega)]
  exact ⟨rfl,by simp;omega⟩
theorem ZiV (r:Zf) (h:Zbf r):Zek r=some (Qj r):=by
 unfold Zek Qj
 rw [Zfk,Option.bind_some]
 cases Qi r.name with
 | false=>simp
 | true=>
 simp only [if_true,decide_eq_true_eq,Bool.true_and]
 split
 ·rw [decide_eq_false (show ¬0≤r.priority by omega)];simp
 split
 ·rw [decide_eq_false (show ¬r.priority≤9 by omega)];simp
 split
 ·rw [decide_eq_false (show ¬1≤r.cond.length by omega)];simp
 split
 ·rw [decide_eq_false (show ¬r.cond.length≤4 by omega)];simp
 split
 ·rw [decide_eq_false (show ¬1≤r.thn.length by omega)];simp
 split
 ·rw [decide_eq_false (show ¬r.thn.length≤2 by omega)];simp
 rw [decide_eq_true (show 0≤r.priority by omega),decide_eq_true (show r.priority≤9 by omega),decide_eq_true (show 1≤r.cond.length by omega),decide_eq_true (show r.cond.length≤4 by omega),decide_eq_true (show 1≤r.thn.length by omega),decide_eq_true (show r.thn.length≤2 by omega)]
 simp only [Bool.true_and]
 have h4:r.cond.length≤4:=by omega
 rw [X7 (p:=fun i x=>YT x&&(decide (i≠0)||decide (x.kind=1))&&Zf6 r i x) (r:=false)]
 ·cases Zbr (fun i x=>YT x&&(decide (i≠0)||decide (x.kind=1))&&Zf6 r i x) r.cond 0 with
  | false=>simp
  | true=>
   simp only [if_true,Bool.true_and]
   rw [ZcK r _ h h4,Option.bind_some,Int.toNat_natCast,Yf (p:=fun a=>Xu a&&(Y5 a.pattern.args).all (YE (YJ r r.cond.length))) (r:=false)]
   ·cases r.thn.all fun a=>Xu a&&(Y5 a.pattern.args).all (YE (YJ r r.cond.length)) with
    | false=>simp
    | true=>
     have hl:(r.cond.flatMap YN).length≤1048578 * r.cond.length:=by
      have:∀l:List Zm,(∀x∈l,x.pattern.args.length≤1048576)→(l.flatMap YN).length≤1048578 * l.length:=by
       intro l
       induction l with
       | nil=>simp
       | cons x l ih=>
        intro hl
        have h1:=ih fun y my=>hl y (by simp [my])
        have h2:=hl x (by simp)
        have h3:=Zf8 x
        simp only [List.flatMap_cons,List.length_append,List.length_cons]
        omega
      exact this r.cond h.ca
     simp only [if_true,Bool.true_and]
     rw [ZjJ _ h.ca h4,Option.bind_some,X9 _ (by omega),Option.bind_some]
     congr 1
     rw [Bool.eq_iff_iff]
     simp only [decide_eq_true_eq]
     omega
   ·intro j a ma
    rw [Zl0,Option.bind_some]
    cases Xu a with
    | false=>simp
    | true=>
     simp only [if_true,Bool.true_and]
     rw [ZcV _ (by have:=h.ta a ma;omega),Option.bind_some,Yf (p:=YE (YJ r r.cond.length)) (r:=.inr false)]
     ·cases (Y5 a.pattern.args).all (YE (YJ r r.cond.length))<;>rfl
     ·intro k v _
      rw [QY,Option.bind_some]
      cases YE (YJ r r.cond.length) v<;>simp
 ·intro j x hj
  rw [Nat.zero_add,ZfG,Option.bind_some,Zmb r j x h h4 hj]
  simp only [Option.bind_some]
  cases YT x with
  | false=>simp
  | true=>
   by_cases h0:j=0
   ·subst h0
    by_cases hk:x.kind=1
    ·simp only [hk];cases Zf6 r 0 x<;>simp
    ·simp [hk]
   ·have:((j:Int)==0)=false:=by rw [beq_eq_false_iff_ne];omega
    simp only [this]
    cases Zf6 r j x<;>simp [h0]
theorem ZeD {α:Type} (f:α→List ByteArray):∀(l:List α) (acc:List ByteArray),Asc acc→l.foldl (fun s x=>(f x).foldl Qk s) acc=(l.flatMap f).foldl Qk acc
 | [],_,_=>rfl
 | x::l,acc,h=>by rw [List.foldl_cons,ZeD f l _ (XY (f x) acc h).1,List.flatMap_cons,List.foldl_append]
def Zll (r:Zf):List ByteArray:=ZR (r.cond.flatMap YN++r.thn.flatMap fun a=>Y5 a.pattern.args)
theorem Zlx (r:Zf) (h:Zbf r) (h4:r.cond.length≤4) (h2:r.thn.length≤2):Zdg r=some (Zll r):=by
 unfold Zdg Zll
 rw [ZaR (f:=fun s x=>(YN x).foldl Qk s) (fun j s=>s.length≤1048578 * j∧Asc s) ⟨by simp,List.Pairwise.nil⟩]
 ·have hA:=ZeD YN r.cond [] List.Pairwise.nil
  have hB:Asc (r.cond.foldl (fun s x=>(YN x).foldl Qk s) []):=by rw [hA];exact (XY _ [] List.Pairwise.nil).1
  have hl:(r.cond.foldl (fun s x=>(YN x).foldl Qk s) []).length≤1048578 * 4:=by
   rw [hA]
   have:=(XY (r.cond.flatMap YN) [] List.Pairwise.nil).2.2
   have h3:(r.cond.flatMap YN).length≤1048578 * r.cond.length:=by
    have:∀l:List Zm,(∀x∈l,x.pattern.args.length≤1048576)→(l.flatMap YN).length≤1048578 * l.length:=by
     intro l
     induction l with
     | nil=>simp
     | cons x l ih=>
      intro hl
      have h1:=ih fun y my=>hl y (by simp [my])
      have h2:=hl x (by simp)
      have h3:=Zf8 x
      simp only [List.flatMap_cons,List.length_append,List.length_cons]
      omega
    exact this r.cond h.ca
   simp only [List.length_nil,Nat.add_zero] at this
   omega
  rw [ZaR (f:=fun s a=>(ZR (Y5 a.pattern.args)).foldl Qk s) (fun j s=>s.length≤1048578 * 4+1048576 * j∧Asc s) ⟨by omega,hB⟩]
  ·congr 1
   rw [ZeD (fun a:Zr=>ZR (Y5 a.pattern.args)) r.thn _ hB,hA]
   refine ZeX (XY _ _ (XY _ [] List.Pairwise.nil).1).1 fun y=>?_
   rw [(XY _ _ (XY _ [] List.Pairwise.nil).1).2.1 y,(XY _ [] List.Pairwise.nil).2.1 y]
   simp only [List.mem_append,List.mem_flatMap,ZW,List.not_mem_nil,or_false]
   exact Or.comm
  ·intro j a s ma _ hj hI
   have h5:=h.ta a ma
   have h6:=Zcw a.pattern.args
   have h7:=ZdQ (Y5 a.pattern.args)
   obtain ⟨f1,f2,f3⟩:=XY (ZR (Y5 a.pattern.args)) s hI.2
   rw [Zb8 _ (by omega),Option.bind_some,ZkI (fun _ _ _=>rfl) (by omega)]
   exact ⟨rfl,by omega,f1⟩
 ·intro j x s mx _ hj hI
  have h5:=h.ca x mx
  have h6:=Zf8 x
  obtain ⟨f1,f2,f3⟩:=XY (YN x) s hI.2
  rw [ZbF _ (by omega),Option.bind_some,ZkI (fun _ _ _=>rfl) (by omega)]
  exact ⟨rfl,by omega,f1⟩
theorem ZoO {l:List Zm} {y:ByteArray} (h:y∈YK l):y∈l.flatMap YN:=by
 simp only [YK,List.mem_flatMap] at h ⊢
 obtain ⟨x,hx,hy⟩:=h
 refine ⟨x,hx,?_⟩
 split at hy
 ·rw [YN,ZW,Zbq]
  rw [Zbq] at hy
  exact ⟨by simp [ZfL,hy.1],hy.2⟩
 ·simp at hy
theorem Zji (r:Zf) (h:Zbf r):Zev r=some (Qj r):=by
 unfold Zev Qj
 rw [ZfC,Option.bind_some]
 cases Qi r.name with
 | false=>simp
 | true=>
 simp only [if_true,Zgi,Option.bind_some,Bool.true_and,Bool.and_eq_true,decide_eq_true_eq]
 split
 rotate_left
 ·rename_i hh
  have:(decide (0≤r.priority)&&decide (r.priority≤9))=false:=by simp;omega
  rw [this];simp
 rename_i hp
 rw [decide_eq_true hp.1,decide_eq_true hp.2]
 split
 rotate_left
 ·rename_i hh
  have:(decide (1≤r.cond.length)&&decide (r.cond.length≤4))=false:=by simp;omega
  simp only [Bool.true_and,this,Bool.false_and]
 rename_i hc
 rw [decide_eq_true (show 1≤r.cond.length by omega),decide_eq_true (show r.cond.length≤4 by omega)]
 split
 rotate_left
 ·rename_i hh
  have:(decide (1≤r.thn.length)&&decide (r.thn.length≤2))=false:=by simp;omega
  simp only [Bool.true_and,this,Bool.false_and]
 rename_i ht
 rw [decide_eq_true (show 1≤r.thn.length by omega),decide_eq_true (show r.thn.length≤2 by omega)]
 simp only [Bool.true_and]
 have h4:r.cond.length≤4:=by omega
 rw [ZcN r _ h h4,Option.bind_some,Int.toNat_natCast]
 rw [X7 (p:=fun i x=>YT x&&(decide (i≠0)||decide (x.kind=1))&&Zf6 r i x) (r:=false)]
 ·cases Zbr (fun i x=>YT x&&(decide (i≠0)||decide (x.kind=1))&&Zf6 r i x) r.cond 0 with
  | false=>simp
  | true=>
   simp only [if_true,Bool.true_and]
   rw [Yf (p:=fun a=>Xu a&&(Y5 a.pattern.args).all (YE (YJ r r.cond.length))) (r:=false)]
   ·cases ha:r.thn.all fun a=>Xu a&&(Y5 a.pattern.args).all (YE (YJ r r.cond.length)) with
    | false=>simp
    | true=>
     simp only [if_true,Bool.true_and]
     rw [Zlx r h h4 (by omega),Option.bind_some]
     have e:Zll r=ZR (r.cond.flatMap YN):=ZlC fun y=>by
      simp only [List.mem_append]
      refine ⟨fun hy=>?_,.inl⟩
      rcases hy with hy | hy
      ·exact hy
      ·obtain ⟨a,ma,hy⟩:=List.mem_flatMap.1 hy
       have:=List.all_eq_true.1 ha a ma
       simp only [Bool.and_eq_true] at this
       have:=List.all_eq_true.1 this.2 y hy
       rw [X8,YJ,ZW,List.take_length] at this
       exact ZoO this
     rw [e]
     congr 1
     rw [Bool.eq_iff_iff]
     simp only [decide_eq_true_eq]
     omega
   ·intro j a ma
    rw [ZlG,Option.bind_some]
    cases Xu a with
    | false=>simp
    | true=>
     simp only [if_true,Bool.true_and]
     rw [Zb8 _ (by have:=h.ta a ma;omega),Option.bind_some,Yf (p:=YE (YJ r r.cond.length)) (r:=.inr false)]
     ·have:(ZR (Y5 a.pattern.args)).all (YE (YJ r r.cond.length))=(Y5 a.pattern.args).all (YE (YJ r r.cond.length)):=by
       rw [Bool.eq_iff_iff,List.all_eq_true,List.all_eq_true]
       simp only [ZW]
      rw [this]
      cases (Y5 a.pattern.args).all (YE (YJ r r.cond.length))<;>rfl
     ·intro k v _
      rw [YW,Option.bind_some]
      cases YE (YJ r r.cond.length) v<;>simp
 ·intro j x hj
  have hxa:=h.ca x (List.mem_of_getElem? hj)
  rw [Nat.zero_add,ZdL,Option.bind_some,ZcN r _ h h4,ZbF x (by omega),Int.toNat_natCast]
  simp only [Option.bind_some]
  cases hic:YT x with
  | false=>simp
  | true=>
   have loop:∀{fin:Unit→Option (Unit ⊕ Bool)} (hfin:fin ()=some (.inl ())),Zp (σ:=Unit) (ρ:=Unit ⊕ Bool) (fun (_:Nat) (v:ByteArray) _=>(ZS (YJ r j) v).bind fun b=>(Za9 x).bind fun t=>if t=true then (if b=true then (if (x.kind==2)=true then some (.inl ()) else some (.inl ())) else some (.inr (.inr false))) else (if (x.kind==2)=true then (if b=true then some (.inl ()) else (XS r ((j:Nat):Int) v).bind fun e=>if e=true then some (.inr (.inr false)) else some (.inl ())) else some (.inl ()))) fin (YN x) 0 ()=some (bif Zf6 r j x then .inl () else .inr false):=fun {fin} hfin=>by
    rw [Yf (p:=ZkO r j x) (r:=.inr false)]
    ·unfold Zf6
     cases (YN x).all (ZkO r j x)<;>simp [hfin]
    ·intro k v mv
     rw [YW,Zpu,ZiF r _ v h (Zq3 mv),hic]
     simp only [Option.bind_some,Bool.true_and,decide_eq_true_eq,beq_iff_eq,ZkO]
     rcases Zm6 hic with hk | hk | hk | hk | hk<;>rw [hk]<;>cases YE (YJ r j) v<;>cases Zkr r j v<;>simp
   by_cases h0:j=0
   ·subst h0
    by_cases hk:x.kind=1
    ·have hk':(x.kind != 1)=false:=by simp [hk]
     simp only [if_true,hk',show (((0:Nat):Int)==0)=true from rfl,Bool.false_eq_true,if_false]
     rw [loop rfl]
     simp [hk]
    ·have hk':(x.kind != 1)=true:=by simpa using hk
     simp [hk',hk]
   ·have:((j:Int)==0)=false:=by rw [beq_eq_false_iff_ne];omega
    simp only [if_true,this,Bool.false_eq_true,if_false]
    rw [loop rfl]
    simp [h0]
end Go.Proofs.YtojnhepgnbhaaaaGreatDoor
namespace Go.Proofs.YtojnhepgnbhaaaaGreatDoor
theorem Zhw {v:ByteArray} (h:Yt v=true):ZO v=false:=by
 cases ha:ZO v with
 | false=>rfl
 | true=>
  have h1:=Zhu ha
  rw [QX] at h1
  unfold Yt at h
  simp only [Bool.and_eq_true,decide_eq_true_iff] at h
  omega
def Qx:List Zl→ByteArray→Option ByteArray
 | [],_=>none
 | x::b,v=>if x.var=v then some x.value else Qx b v
def XN (b:List Zl) (t:ByteArray):Option ByteArray:=if ZO t=true then some t else if Yt t=true then Qx b t else none
theorem Zhi {b:List Zl} {v:ByteArray} (h:Yt v=true):XN b v=Qx b v:=by
 unfold XN
 rw [if_neg (by rw [Zhw h];simp),if_pos h]
def ZeH (x:Zl):Bool:=Yt x.var&&ZO x.value
def Zg9:Option ByteArray→ByteArray→Bool
 | none,_=>true
 | some p,v=>sLt p v
def YM:Option ByteArray→List Zl→Bool
 | _,[]=>true
 | prev,x::r=>ZeH x&&Zg9 prev x.var&&YM (some x.var) r
def Z0 (b:List Zl):Bool:=decide (b.length≤6)&&YM none b
theorem Zq1 {prev:Option ByteArray} {b:List Zl} (h:YM prev b=true):∀x∈b,ZeH x=true∧∀p,prev=some p→sLt p x.var=true:=by
 induction b generalizing prev with
 | nil=>simp
 | cons y r ih=>
  simp only [YM,Bool.and_eq_true] at h
  obtain ⟨⟨h1,h2⟩,h3⟩:=h
  intro x mx
  rcases List.mem_cons.1 mx with rfl | mx
  ·exact ⟨h1,fun p hp=>by subst hp;exact h2⟩
  ·obtain ⟨k1,k2⟩:=ih h3 x mx
   exact ⟨k1,fun p hp=>by subst hp;exact Zed h2 (k2 _ rfl)⟩
theorem ZrH {b:List Zl} {v:ByteArray} (h:Qx b v=none):∀x∈b,¬x.var=v:=by
 induction b with
 | nil=>simp
 | cons y r ih=>
  simp only [Qx] at h
  split at h
  ·simp at h
  ·rename_i hy
   intro x mx
   rcases List.mem_cons.1 mx with rfl | mx
   ·exact hy
   ·exact ih h x mx
theorem Zq5 {b:List Zl} {v w:ByteArray} (h:Qx b v=some w):∃x∈b,x.var=v∧x.value=w:=by
 induction b with
 | nil=>simp [Qx] at h
 | cons y r ih=>
  simp only [Qx] at h
  split at h
  ·rename_i hy
   exact ⟨y,by simp,hy,Option.some.inj h⟩
  ·obtain ⟨x,mx,h1⟩:=ih h
   exact ⟨x,by simp [mx],h1⟩
def ZeS:List Zl→ByteArray→ByteArray→List Zl
 | [],v,w=>[⟨v,w⟩]
 | x::b,v,w=>if sLt v x.var=true then ⟨v,w⟩::x::b else x::ZeS b v w
theorem Zpv (v w:ByteArray):∀b:List Zl,(ZeS b v w).length=b.length+1
 | []=>rfl
 | x::b=>by
  simp only [ZeS]
  split
  ·rfl
  ·rw [List.length_cons,Zpv v w b];rfl
theorem Ziq {v w u:ByteArray}:∀{b:List Zl},Qx b v=none→Qx (ZeS b v w) u=if v=u then some w else Qx b u
 | [],_=>by simp [ZeS,Qx]
 | x::b,h=>by
  simp only [Qx] at h
  split at h
  ·simp at h
  ·rename_i hx
   simp only [ZeS]
   split
   ·simp [Qx]
   ·simp only [Qx]
    rw [Ziq h]
    by_cases hu:x.var=u
    ·rw [if_pos hu,if_pos hu,if_neg (fun e=>hx (hu.trans e.symm))]
    ·rw [if_neg hu,if_neg hu]
theorem ZmO {v w:ByteArray} (hv:Yt v=true) (hw:ZO w=true):∀{b:List Zl} {prev:Option ByteArray},YM prev b=true→Qx b v=none→(∀p,prev=some p→sLt p v=true)→YM prev (ZeS b v w)=true
 | [],prev,_,_,hp=>by
  simp only [ZeS,YM,ZeH,hv,hw,Bool.and_self,Bool.true_and,Bool.and_true]
  cases prev with
  | none=>rfl
  | some p=>exact hp p rfl
 | x::b,prev,h,hg,hp=>by
  have hx:=ZrH hg x (by simp)
  simp only [Qx,hx,if_false] at hg
  simp only [YM,Bool.and_eq_true] at h
  obtain ⟨⟨h1,h2⟩,h3⟩:=h
  simp only [ZeS]
  by_cases hlt:sLt v x.var=true
  ·rw [if_pos hlt]
   have h4:Zg9 prev v=true:=by
    cases prev with
    | none=>rfl
    | some p=>exact hp p rfl
   simp only [YM,Bool.and_eq_true]
   exact ⟨⟨by simp [ZeH,hv,hw],h4⟩,⟨⟨h1,hlt⟩,h3⟩⟩
  ·rw [if_neg hlt]
   simp only [YM,Bool.and_eq_true]
   refine ⟨⟨h1,h2⟩,ZmO hv hw h3 hg fun p hp2=>?_⟩
   obtain rfl:=Option.some.inj hp2
   exact Zeb (by simpa using hlt) (fun e=>hx e.symm)
def Zf0 (b:List Zl) (v w:ByteArray):Option (List Zl):=
 if Z0 b=true∧Yt v=true∧ZO w=true then
  (match Qx b v with
  | some old=>if old=w then some b else none
  | none=>if b.length=6 then none else some (ZeS b v w))
 else none
theorem Zqy {b b':List Zl} {v w:ByteArray} (h:Zf0 b v w=some b'):Z0 b'=true∧Qx b' v=some w∧∀u z,Qx b u=some z→Qx b' u=some z:=by
 unfold Zf0 at h
 split at h
 ·rename_i hc
  obtain ⟨h1,h2,h3⟩:=hc
  cases hg:Qx b v with
  | some old=>
   rw [hg] at h
   simp only at h
   split at h
   ·rename_i he
    obtain rfl:=Option.some.inj h
    exact ⟨h1,by rw [hg,he],fun u z hu=>hu⟩
   ·simp at h
  | none=>
   rw [hg] at h
   simp only at h
   split at h
   ·simp at h
   ·rename_i hl
    obtain rfl:=Option.some.inj h
    unfold Z0 at h1 ⊢
    rw [Bool.and_eq_true,decide_eq_true_iff] at h1
    refine ⟨?_,by rw [Ziq hg,if_pos rfl],fun u z hu=>?_⟩
    ·rw [Bool.and_eq_true,decide_eq_true_iff,Zpv]
     exact ⟨by omega,ZmO h2 h3 h1.2 hg (by simp)⟩
    ·rw [Ziq hg,if_neg (fun e=>by rw [←e,hg] at hu;simp at hu)];exact hu
 ·simp at h
def ZdS:List ByteArray→List ByteArray→List Zl→Option (List Zl)
 | [],_,b=>some b
 | _::_,[],_=>none
 | a::p,w::f,b=>if ZO a=true then (if a=w then ZdS p f b else none) else (Zf0 b a w).bind (ZdS p f)
theorem Zip:∀{p f:List ByteArray} {b b':List Zl},Z0 b=true→ZdS p f b=some b'→Z0 b'=true∧(∀a∈p,Yt a=true→∃z,Qx b' a=some z)∧∀u z,Qx b u=some z→Qx b' u=some z
 | [],_,b,b',hb,h=>by
  simp only [ZdS,Option.some.injEq] at h
  subst h
  exact ⟨hb,by simp,fun u z h=>h⟩
 | _::_,[],_,_,_,h=>by simp [ZdS] at h
 | a::p,w::f,b,b',hb,h=>by
  simp only [ZdS] at h
  by_cases ha:ZO a=true
  ·rw [if_pos ha] at h
   split at h
   ·obtain ⟨h1,h2,h3⟩:=Zip hb h
    refine ⟨h1,fun x mx hx=>?_,h3⟩
    rcases List.mem_cons.1 mx with rfl | mx
    ·rw [Zhw hx] at ha;simp at ha
    ·exact h2 x mx hx
   ·simp at h
  ·rw [if_neg ha] at h
   obtain ⟨b1,e1,h⟩:=Option.bind_eq_some_iff.1 h
   obtain ⟨k1,k2,k3⟩:=Zqy e1
   obtain ⟨h1,h2,h3⟩:=Zip k1 h
   refine ⟨h1,fun x mx hx=>?_,fun u z hu=>h3 u z (k3 u z hu)⟩
   rcases List.mem_cons.1 mx with rfl | mx
   ·exact ⟨w,h3 _ _ k2⟩
   ·exact h2 x mx hx
def ZhZ (p:Zv) (f:Zc) (b:List Zl):Bool:=Z1 p&&YV f&&Z0 b&&decide (p.rel=f.rel)&&decide (p.args.length=f.args.length)
def Za5 (p:Zv) (f:Zc) (b:List Zl):Option (List Zl):=if ZhZ p f b=true then ZdS p.args f.args b else none
theorem ZrA {p:Zv} {f:Zc} {b b':List Zl} (h:Za5 p f b=some b'):Z0 b'=true∧(∀a∈p.args,Yt a=true→∃z,Qx b' a=some z)∧∀u z,Qx b u=some z→Qx b' u=some z:=by
 unfold Za5 at h
 split at h
 ·rename_i hc
  unfold ZhZ at hc
  simp only [Bool.and_eq_true] at hc
  exact Zip hc.1.1.2 h
 ·simp at h
def Zd9:List ByteArray→List Zl→Option (List ByteArray)
 | [],_=>some []
 | a::p,b=>(XN b a).bind fun v=>(Zd9 p b).map fun l=>v::l
theorem Zj0 {b:List Zl}:∀{p:List ByteArray},p.all YD=true→(∀a∈p,Yt a=true→∃z,Qx b a=some z)→∃l,Zd9 p b=some l∧l.length=p.length
 | [],_,_=>⟨[],rfl,rfl⟩
 | a::p,h,hv=>by
  simp only [List.all_cons,Bool.and_eq_true] at h
  obtain ⟨l,e,hl⟩:=Zj0 h.2 fun x mx=>hv x (by simp [mx])
  have:∃v,XN b a=some v:=by
   have ht:=h.1
   unfold YD at ht
   rw [Bool.or_eq_true] at ht
   rcases ht with ht | ht
   ·exact ⟨a,by unfold XN;rw [if_pos ht]⟩
   ·obtain ⟨z,hz⟩:=hv a (by simp) ht
    exact ⟨z,by rw [Zhi ht];exact hz⟩
  obtain ⟨v,hv⟩:=this
  exact ⟨v::l,by simp only [Zd9,hv,e,Option.bind_some,Option.map_some],by simp [hl]⟩
def Ze8 (p:Zv) (b:List Zl):Option Zc:=if Z1 p=true∧Z0 b=true then (Zd9 p.args b).map fun l=>{ rel:=p.rel,args:=l } else none
def Zcu (p:Zv) (b:List Zl) (F:List Zc):List Zc:=F.filter fun f=>(Za5 p f b).isSome
def ZsZ (l r:ByteArray):Bool:=match Qy l,Qy r with | some m,some n=>decide (m<n) | _,_=>false
def Zoi (k:Int) (l r:ByteArray):Bool:=if k=3 then decide (l=r) else if k=4 then !decide (l=r) else ZsZ l r
def ZkD (x:Zm) (b:List Zl):Bool:=
 if YT x=true∧3≤x.kind∧Z0 b=true then (match XN b x.left,XN b x.right with | some l,some r=>Zoi x.kind l r | _,_=>false) else false
def ZfD (x:Zm) (b:List Zl) (F:List Zc):Bool:=
 if YT x=true∧Z0 b=true then
  (if x.kind=1 then decide (0<(Zcu x.pattern b F).length) else if x.kind=2 then decide ((Zcu x.pattern b F).length=0) else ZkD x b)
 else false
def Zil (x:Zm) (F:List Zc) (t:Zt):List Zt:=
 if x.kind=1 then F.filterMap fun f=>(Za5 x.pattern f t.binding).map fun b=>{ facts:=t.facts++[f],binding:=b }
 else if ZfD x t.binding F=true then [t] else []
def Zfe (x:Zm) (F:List Zc) (l:List Zt):List Zt:=l.flatMap (Zil x F)
def ZtY:Zt:={ facts:=[],binding:=[] }
def ZQ (l:List Zm) (F:List Zc):List Zt:=l.foldl (fun ts x=>Zfe x F ts) [ZtY]
theorem Zcj (p:List Zm) (x:Zm) (F:List Zc):ZQ (p++[x]) F=Zfe x F (ZQ p F):=by
 unfold ZQ
 rw [List.foldl_append]
 rfl
structure Zlu (p:List Zm) (F:List Zc) (t:Zt):Prop where
 bind:Z0 t.binding=true
 len:t.facts.length≤p.length
 sub:∀f∈t.facts,f∈F
 vars:∀v∈YK p,∃z,Qx t.binding v=some z
theorem Zts {p:List Zm} {x:Zm} {F:List Zc} {t u:Zt} (h:Zlu p F t) (hu:u∈Zil x F t):Zlu (p++[x]) F u:=by
 unfold Zil at hu
 have hv:YK (p++[x])=YK p++(if x.kind=1 then Y5 x.pattern.args else []):=by simp [YK]
 by_cases hk:x.kind=1
 ·rw [if_pos hk] at hu
  obtain ⟨f,mf,e⟩:=List.mem_filterMap.1 hu
  obtain ⟨b,e2,rfl⟩:=Option.map_eq_some_iff.1 e
  obtain ⟨h1,h2,h3⟩:=ZrA e2
  refine ⟨h1,by have:=h.len;simp;omega,fun g mg=>?_,fun v mv=>?_⟩
  ·rcases List.mem_append.1 mg with mg | mg
   ·exact h.sub g mg
   ·simp at mg;subst mg;exact mf
  ·rw [hv,if_pos hk] at mv
   rcases List.mem_append.1 mv with mv | mv
   ·obtain ⟨z,hz⟩:=h.vars v mv
    exact ⟨z,h3 v z hz⟩
   ·obtain ⟨m1,m2⟩:=Zbq.1 mv
    exact h2 v m1 m2
 ·rw [if_neg hk] at hu
  split at hu
  ·simp at hu
   subst hu
   refine ⟨h.bind,by have:=h.len;simp;omega,h.sub,fun v mv=>?_⟩
   rw [hv,if_neg hk,List.append_nil] at mv
   exact h.vars v mv
  ·simp at hu
theorem ZtG (F:List Zc):Zlu [] F ZtY:=⟨rfl,Nat.le_refl _,by simp [ZtY],by simp [YK]⟩
theorem Zd8 (F:List Zc) (l:List Zm):∀t∈ZQ l F,Zlu l F t:=by
 have:∀n (l:List Zm),l.length=n→∀t∈ZQ l F,Zlu l F t:=by
  intro n
  induction n with
  | zero=>
   intro l h
   rw [List.eq_nil_of_length_eq_zero h]
   intro t mt
   simp [ZQ] at mt
   subst mt
   exact ZtG F
  | succ n ih=>
   intro l h
   obtain ⟨p,x,rfl⟩:∃p x,l=p++[x]:=⟨l.dropLast,l.getLast (by intro e;simp [e] at h),(List.dropLast_concat_getLast _).symm⟩
   intro t mt
   rw [Zcj] at mt
   obtain ⟨s,ms,mt⟩:=List.mem_flatMap.1 mt
   exact Zts (ih p (by simpa using h) s ms) mt
 exact this _ l rfl
theorem Zkj (x:Zm) (F:List Zc) (hF:F.length≤24):∀l:List Zt,(Zfe x F l).length≤24 * l.length
 | []=>Nat.le_refl _
 | t::l=>by
  have ih:=Zkj x F hF l
  have h1:(Zil x F t).length≤24:=by
   unfold Zil
   split
   ·exact Nat.le_trans (List.length_filterMap_le _ _) hF
   ·split<;>simp
  unfold Zfe at *
  rw [List.flatMap_cons,List.length_append,List.length_cons]
  omega
theorem ZeB (F:List Zc) (hF:F.length≤24) (l:List Zm) (hl:l.length≤4):(ZQ l F).length≤331776:=by
 have key:∀(l:List Zm) (ts:List Zt),(l.foldl (fun ts x=>Zfe x F ts) ts).length≤24 ^ l.length * ts.length:=by
  intro l
  induction l with
  | nil=>intro ts;simp
  | cons x l ih=>
   intro ts
   rw [List.foldl_cons,List.length_cons,Nat.pow_succ]
   have h1:=ih (Zfe x F ts)
   have h2:=Zkj x F hF ts
   refine Nat.le_trans h1 (Nat.le_trans (Nat.mul_le_mul_left _ h2) ?_)
   rw [←Nat.mul_assoc]
   exact Nat.le_refl _
 have h1:=key l [ZtY]
 have h2:24 ^ l.length≤24 ^ 4:=Nat.pow_le_pow_right (by omega) hl
 unfold ZQ
 simp only [List.length_singleton,Nat.mul_one] at h1
 omega
end Go.Proofs.YtojnhepgnbhaaaaGreatDoor
namespace Go.Proofs.YtojnhepgnbhaaaaGreatDoor
def ZeC (b:List Zl) (i:Nat):Option ByteArray:=if i=0 then none else (b[i - 1]?).map (·.var)
theorem ZiS {b:List Zl} {body:Nat→Zl→Unit→Option (Unit ⊕ Bool)} {fin:Unit→Option Bool} (hb:∀i x,b[i]?=some x→body i x ()=if (ZeH x&&Zg9 (ZeC b i) x.var)=true then some (.inl ()) else some (.inr false)):
  ∀(l:List Zl) (i:Nat),b.drop i=l→Zp body fin l i ()=if YM (ZeC b i) l=true then fin () else some false
 | [],i,_=>by simp [Zp,YM]
 | x::l,i,h=>by
  have hx:b[i]?=some x:=by rw [←List.head?_drop,h];rfl
  have hd:b.drop (i+1)=l:=by rw [←List.tail_drop,h];rfl
  have hp:ZeC b (i+1)=some x.var:=by unfold ZeC;rw [if_neg (by omega),Nat.add_sub_cancel,hx];rfl
  by_cases hc:(ZeH x&&Zg9 (ZeC b i) x.var)=true
  ·rw [Ye (by rw [hb i x hx,if_pos hc]),ZiS hb l (i+1) hd,hp]
   simp only [YM,hc,Bool.true_and]
  ·rw [Yy (by rw [hb i x hx,if_neg hc])]
   simp only [YM,eq_false_of_ne_true hc,Bool.false_and,Bool.false_eq_true,if_false]
theorem Zml {b:List Zl} (hl:b.length≤1048576) {i:Nat} {x:Zl} (hx:b[i]?=some x):
  (if Yt x.var=true then (if ZO x.value=true then (if (decide (0<((i:Nat):Int)))=true then (atI b (IntKind.i64.wrap (((i:Nat):Int) - 1))).bind fun x13=>if (sLt x13.var x.var)=true then some (.inl ()) else some (.inr false) else some (.inl ())) else some (.inr false)) else some (.inr false):Option (Unit ⊕ Bool))
   = if (ZeH x&&Zg9 (ZeC b i) x.var)=true then some (.inl ()) else some (.inr false):=by
 have hi:=(List.getElem?_eq_some_iff.1 hx).1
 unfold ZeH
 cases Yt x.var with
 | false=>simp
 | true=>
  cases ZO x.value with
  | false=>simp
  | true=>
   rw [if_pos rfl,if_pos rfl]
   by_cases h0:i=0
   ·subst h0
    rw [if_neg (by simp)]
    simp [ZeC,Zg9]
   ·have hp:ZeC b i=some (b[i - 1]).var:=by unfold ZeC;rw [if_neg h0,List.getElem?_eq_getElem (by omega)];rfl
    rw [if_pos (by simp;omega),show ((i:Nat):Int) - 1=((i - 1:Nat):Int) by omega,ZdA (by omega) (by omega),Zcm,List.getElem?_eq_getElem (by omega),Option.bind_some,hp]
    simp [Zg9]
theorem QH (b:List Zl):XL b=some (Z0 b):=by
 unfold XL Z0
 by_cases h6:b.length≤6
 ·rw [if_neg (by simp;omega),ZiS (b:=b) (fun i x hx=>by
   rw [Zc0,Option.bind_some,Qe]
   exact Zml (by omega) hx) b 0 rfl,decide_eq_true h6]
  show (if YM none b=true then some true else some false)=_
  cases YM none b<;>rfl
 ·rw [if_pos (by simp;omega),decide_eq_false h6]
  rfl
theorem QG (b:List Zl) (hl:b.length≤1048576):XI b=some (Z0 b):=by
 unfold XI Z0
 rw [ZiS (b:=b) (fun i x hx=>by
   rw [QC,Option.bind_some,Qd]
   exact Zml hl hx) b 0 rfl]
 show (if YM none b=true then some (decide (((b.length:Nat):Int)≤6)) else some false)=_
 have:decide (((b.length:Nat):Int)≤6)=decide (b.length≤6):=by rw [Bool.eq_iff_iff];simp;omega
 rw [this]
 cases YM none b<;>simp
def ZtR (b:List Zl) (t:ByteArray):ByteArray × Bool:=match XN b t with | some v=>(v,true) | none=>(⟨#[]⟩,false)
def Zs8:Option ByteArray→ByteArray × Bool
 | some v=>(v,true)
 | none=>(⟨#[]⟩,false)
theorem ZbP (b:List Zl) (t:ByteArray):ZtR b t=Zs8 (XN b t):=by unfold ZtR Zs8;cases XN b t<;>rfl
theorem Zk6 {t:ByteArray} {body:Nat→Zl→Unit→Option (Unit ⊕ (ByteArray × Bool))} (hb:∀i x,body i x ()=if x.var=t then some (.inr (x.value,true)) else some (.inl ())):
  ∀(b:List Zl) (i:Nat),Zp body (fun _=>some ((⟨#[]⟩),false)) b i ()=some (Zs8 (Qx b t))
 | [],_=>rfl
 | x::b,i=>by
  by_cases hx:x.var=t
  ·rw [Yy (by rw [hb,if_pos hx])]
   simp [Qx,hx,Zs8]
  ·rw [Ye (by rw [hb,if_neg hx]),Zk6 hb b (i+1)]
   simp [Qx,hx]
theorem Zcs (b:List Zl) (t:ByteArray):ZaL b t=some (ZtR b t):=by
 unfold ZaL
 rw [ZbP,Qe,Option.bind_some]
 unfold XN
 by_cases ha:ZO t=true
 ·rw [if_pos ha,if_pos ha];rfl
 ·rw [if_neg ha,if_neg ha,Zc0,Option.bind_some]
  by_cases hv:Yt t=true
  ·rw [if_pos hv,if_pos hv,Zk6]
   intro i x
   by_cases hx:x.var=t
   ·rw [if_pos (ZT.2 hx),if_pos hx]
   ·rw [if_neg (by rw [ZT];exact hx),if_neg hx]
  ·rw [if_neg hv,if_neg hv];rfl
theorem Zcr (b:List Zl) (t:ByteArray):ZaC b t=some (ZtR b t):=by
 unfold ZaC
 rw [ZbP,Qd,Option.bind_some]
 unfold XN
 by_cases ha:ZO t=true
 ·rw [if_pos ha,if_pos ha];rfl
 ·rw [if_neg ha,if_neg ha]
  by_cases hv:Yt t=true
  ·rw [if_pos hv,Zk6]
   intro i x
   by_cases hx:x.var=t
   ·rw [if_pos (ZT.2 hx),if_pos hx,QC,Option.bind_some,if_pos hv]
   ·rw [if_neg (by rw [ZT];exact hx),if_neg hx]
  ·rw [if_neg hv,Yf (p:=fun _=>true) (r:=((⟨#[]⟩:ByteArray),false))]
   ·simp [Zs8]
   ·intro i x _
    rw [QC,Option.bind_some,if_neg hv]
    split<;>rfl
theorem Zok {a v:ByteArray}:((sLt a v||sEq a v)=true)↔¬sLt v a=true:=by
 rw [Bool.or_eq_true,ZT]
 constructor
 ·rintro (h | h)
  ·rw [ZiK h];simp
  ·rw [h,Zhh];simp
 ·intro h
  by_cases e:a=v
  ·exact .inr e
  ·exact .inl (Zeb (by simpa using h) (fun e2=>e e2.symm))
theorem Zom {ρ:Type} {v w:ByteArray} {K:List Zl→Option ρ} {body:Nat→Zl→(List Zl × Bool)→Option ((List Zl × Bool) ⊕ ρ)} {fin:(List Zl × Bool)→Option ρ}
  (h1:∀i x row,row.length≤1000→body i x (row,true)=some (.inl (row++[x],true)))
  (h2:∀i x row,row.length≤1000→body i x (row,false)=if (sLt x.var v||sEq x.var v)=true then some (.inl (row++[x],false)) else some (.inl ((row++[{ var:=v,value:=w }])++[x],true)))
  (h3:∀row,row.length≤1000→fin (row,true)=K row) (h4:∀row,row.length≤1000→fin (row,false)=K (row++[{ var:=v,value:=w }])) (b:List Zl) (hb:b.length≤100):Zp body fin b 0 ([],false)=K (ZeS b v w):=by
 rw [Zad (fun l _ s=>K (s.1++(if s.2=true then l else ZeS l v w))) (fun l _ s=>s.1.length+2 * l.length≤900) ?_ ?_ b 0 ([],false) (by simp;omega)]
 ·simp
 ·rintro i ⟨row,done⟩ hI
  simp only [List.length_nil] at hI
  cases done with
  | true=>rw [h3 row (by omega)];simp
  | false=>rw [h4 row (by omega)];simp [ZeS]
 ·rintro x l i ⟨row,done⟩ hI
  simp only [List.length_cons] at hI
  left
  cases done with
  | true=>exact ⟨_,h1 i x row (by omega),by simp;omega,by simp⟩
  | false=>
   rw [h2 i x row (by omega)]
   by_cases hs:sLt v x.var=true
   ·rw [if_neg (by rw [Zok];simpa using hs)]
    exact ⟨_,rfl,by simp;omega,by simp [ZeS,hs]⟩
   ·rw [if_pos (Zok.2 hs)]
    exact ⟨_,rfl,by simp;omega,by simp [ZeS,hs]⟩
def Zjo:Option (List Zl)→List Zl × Bool
 | some b=>(b,true)
 | none=>([],false)
theorem Zgj {b:List Zl} {v w:ByteArray} (h:¬(Z0 b=true∧Yt v=true∧ZO w=true)):Zjo (Zf0 b v w)=([],false):=by
 unfold Zf0
 rw [if_neg h]
 rfl
theorem Zh0 {b:List Zl} {v w:ByteArray} (h1:Z0 b=true) (h2:Yt v=true) (h3:ZO w=true):Zf0 b v w=match Qx b v with | some old=>if old=w then some b else none | none=>if b.length=6 then none else some (ZeS b v w):=by
 unfold Zf0
 exact if_pos ⟨h1,h2,h3⟩
theorem QN {b:List Zl} (h:Z0 b=true):b.length≤6:=by
 unfold Z0 at h
 rw [Bool.and_eq_true,decide_eq_true_iff] at h
 exact h.1
theorem Zoe (b:List Zl) (v w:ByteArray):ZfW b v w=some (Zjo (Zf0 b v w)):=by
 unfold ZfW
 rw [QH,Option.bind_some]
 by_cases h1:Z0 b=true
 ·rw [if_pos h1,Zc0,Option.bind_some]
  by_cases h2:Yt v=true
  ·rw [if_pos h2,Qe,Option.bind_some]
   by_cases h3:ZO w=true
   ·have h6:=QN h1
    rw [if_pos h3,Zcs,Option.bind_some,ZbP,Zhi h2]
    cases hg:Qx b v with
    | some old=>
     have hx:Zf0 b v w=if old=w then some b else none:=by rw [Zh0 h1 h2 h3,hg]
     rw [hx]
     show (if true=true then (if sEq old w=true then _ else _) else _)=_
     rw [if_pos rfl]
     by_cases he:old=w
     ·rw [if_pos (ZT.2 he),if_pos he]
      unfold ZaB
      rw [Zj _ (by omega)]
      rfl
     ·rw [if_neg (by rw [ZT];exact he),if_neg he]
      rfl
    | none=>
     have hx:Zf0 b v w=if b.length=6 then none else some (ZeS b v w):=by rw [Zh0 h1 h2 h3,hg]
     rw [hx]
     show (if false=true then _ else _)=_
     rw [if_neg (by simp)]
     by_cases hl:b.length=6
     ·rw [if_pos (by simp;omega),if_pos hl]
      rfl
     ·rw [if_neg (by simp;omega),if_neg hl]
      refine Zom (K:=fun r=>some (r,true)) (fun i x row hr=>?_) (fun i x row hr=>?_) (fun row hr=>?_) (fun row hr=>?_) b (by omega)
      ·show (if true=true then _ else _)=_
       rw [if_pos rfl,Zj _ (by omega)]
      ·show (if false=true then _ else _)=_
       rw [if_neg (by simp)]
       split
       ·rw [Zj _ (by omega)]
       ·rw [Zj _ (by omega),Zj _ (by omega)]
      ·show (if true=true then _ else _)=_
       rw [if_pos rfl]
      ·show (if false=true then _ else _)=_
       rw [if_neg (by simp),Zj _ (by omega)]
   ·rw [if_neg h3,Zgj (fun h=>h3 h.2.2)]
  ·rw [if_neg h2,Zgj (fun h=>h2 h.2.1)]
 ·rw [if_neg h1,Zgj (fun h=>h1 h.1)]
theorem ZpJ (b:List Zl) (v w:ByteArray) (hb:b.length≤100):ZhY b v w=some (ZeS b v w):=by
 unfold ZhY
 refine Zom (K:=fun r=>some r) (fun i x row hr=>?_) (fun i x row hr=>?_) (fun row hr=>?_) (fun row hr=>?_) b hb
 ·show (if true=true then _ else _)=_
  rw [if_pos rfl,Zj _ (by omega)]
 ·show (if false=true then _ else _)=_
  rw [if_neg (by simp)]
  split
  ·rw [Zj _ (by omega)]
  ·rw [Zj _ (by omega),Zj _ (by omega)]
 ·show (if true=true then _ else _)=_
  rw [if_pos rfl]
 ·show (if false=true then _ else _)=_
  rw [if_neg (by simp),Zj _ (by omega)]
theorem Zn1 (b:List Zl) (v w:ByteArray) (hb:b.length≤1048576):Zfx b v w=some (Zjo (Zf0 b v w)):=by
 unfold Zfx
 rw [QG b hb,Option.bind_some]
 by_cases h1:Z0 b=true
 ·rw [if_pos h1,QC,Option.bind_some]
  by_cases h2:Yt v=true
  ·rw [if_pos h2,Qd,Option.bind_some]
   by_cases h3:ZO w=true
   ·have h6:=QN h1
    rw [if_pos h3,Zcr,Option.bind_some,ZbP,Zhi h2]
    cases hg:Qx b v with
    | some old=>
     have hx:Zf0 b v w=if old=w then some b else none:=by rw [Zh0 h1 h2 h3,hg]
     rw [hx]
     show (if true=true then (if sEq old w=true then _ else _) else _)=_
     rw [if_pos rfl]
     by_cases he:old=w
     ·rw [if_pos (ZT.2 he),if_pos he]
      unfold ZbX
      rw [Zj _ (by omega)]
      rfl
     ·rw [if_neg (by rw [ZT];exact he),if_neg he]
      rfl
    | none=>
     have hx:Zf0 b v w=if b.length=6 then none else some (ZeS b v w):=by rw [Zh0 h1 h2 h3,hg]
     rw [hx]
     show (if false=true then _ else _)=_
     rw [if_neg (by simp)]
     by_cases hl:b.length=6
     ·rw [if_pos (by simp;omega),if_pos hl]
      rfl
     ·rw [if_neg (by simp;omega),if_neg hl,ZpJ _ _ _ (by omega)]
      rfl
   ·rw [if_neg h3,Zgj (fun h=>h3 h.2.2)]
  ·rw [if_neg h2,Zgj (fun h=>h2 h.2.1)]
 ·rw [if_neg h1,Zgj (fun h=>h1 h.1)]
theorem ZeI {fa:List ByteArray} {body:Nat→ByteArray→List Zl→Option (List Zl ⊕ (List Zl × Bool))}
  (hb:∀i a w row,fa[i]?=some w→Z0 row=true→body i a row=if ZO a=true then (if a=w then some (.inl row) else some (.inr ([],false))) else (match Zf0 row a w with | some r=>some (.inl r) | none=>some (.inr ([],false)))):
  ∀(l:List ByteArray) (i:Nat) (row:List Zl),i+l.length=fa.length→Z0 row=true→Zp body (fun row=>some (row,true)) l i row=some (Zjo (ZdS l (fa.drop i) row))
 | [],i,row,_,_=>by simp [Zp,ZdS,Zjo]
 | a::l,i,row,h,hr=>by
  simp only [List.length_cons] at h
  have hi:i<fa.length:=by omega
  have hw:fa[i]?=some fa[i]:=List.getElem?_eq_getElem hi
  rw [List.drop_eq_getElem_cons hi]
  simp only [ZdS]
  have e:=hb i a _ row hw hr
  by_cases ha:ZO a=true
  ·rw [if_pos ha] at e ⊢
   by_cases hq:a=fa[i]
   ·rw [if_pos hq] at e ⊢
    rw [Ye e]
    exact ZeI hb l (i+1) row (by omega) hr
   ·rw [if_neg hq] at e ⊢
    rw [Yy e]
    rfl
  ·rw [if_neg ha] at e ⊢
   cases hx:Zf0 row a fa[i] with
   | none=>
    rw [hx] at e
    rw [Yy e]
    rfl
   | some r=>
    rw [hx] at e
    rw [Ye e,Option.bind_some]
    exact ZeI hb l (i+1) r (by omega) (Zqy hx).1
theorem Zfw (p:Zv) (f:Zc) (b:List Zl):ZaD p f b=some (Zjo (Za5 p f b)):=by
 unfold ZaD Za5 ZhZ
 rw [ZaY,Option.bind_some]
 cases h1:Z1 p with
 | false=>rfl
 | true=>
  rw [if_pos rfl,Zi8,Option.bind_some]
  cases h2:YV f with
  | false=>rfl
  | true=>
   rw [if_pos rfl,QH,Option.bind_some]
   cases h3:Z0 b with
   | false=>rfl
   | true=>
    rw [if_pos rfl]
    by_cases h4:p.rel=f.rel
    ·rw [if_pos (ZT.2 h4),decide_eq_true h4]
     by_cases h5:p.args.length=f.args.length
     ·have h6:=QN h3
      rw [if_neg (by simp;omega),decide_eq_true h5]
      unfold ZaB
      rw [Zj _ (by omega),Option.bind_some]
      rw [ZeI (fa:=f.args) (fun i a w row hw hr=>?_) p.args 0 b (by omega) h3]
      ·rfl
      ·rw [Qe,Option.bind_some,Zcm,hw,Option.bind_some,Option.bind_some]
       split
       ·by_cases hq:a=w
        ·rw [if_pos (ZT.2 hq),if_pos hq]
        ·rw [if_neg (by rw [ZT];exact hq),if_neg hq]
       ·rw [Zoe,Option.bind_some]
        cases Zf0 row a w<;>rfl
     ·rw [if_pos (by simp;omega),decide_eq_false h5]
      rfl
    ·rw [if_neg (by rw [ZT];exact h4),decide_eq_false h4]
     rfl
theorem ZfT (p:Zv) (f:Zc) (b:List Zl) (hb:b.length≤1048576):ZaO p f b=some (Zjo (Za5 p f b)):=by
 unfold ZaO Za5 ZhZ
 rw [Za6,Option.bind_some]
 cases h1:Z1 p with
 | false=>rfl
 | true=>
  rw [if_pos rfl,ZiZ,Option.bind_some]
  cases h2:YV f with
  | false=>rfl
  | true=>
   rw [if_pos rfl,QG b hb,Option.bind_some]
   cases h3:Z0 b with
   | false=>rfl
   | true=>
    rw [if_pos rfl]
    by_cases h4:p.rel=f.rel
    ·rw [if_pos (ZT.2 h4),decide_eq_true h4]
     by_cases h5:p.args.length=f.args.length
     ·have h6:=QN h3
      rw [if_neg (by simp;omega),decide_eq_true h5]
      unfold ZbX
      rw [Zj _ (by omega),Option.bind_some]
      rw [ZeI (fa:=f.args) (fun i a w row hw hr=>?_) p.args 0 b (by omega) h3]
      ·rfl
      ·have hr6:=QN hr
       rw [Qd,Option.bind_some,Zcm,hw,Option.bind_some,Option.bind_some]
       split
       ·by_cases hq:a=w
        ·rw [if_pos (ZT.2 hq),if_pos hq]
        ·rw [if_neg (by rw [ZT];exact hq),if_neg hq]
       ·rw [Zn1 _ _ _ (by omega),Option.bind_some]
        cases Zf0 row a w<;>rfl
     ·rw [if_pos (by simp;omega),decide_eq_false h5]
      rfl
    ·rw [if_neg (by rw [ZT];exact h4),decide_eq_false h4]
     rfl
def Ze4:Option Zc→Zc × Bool
 | some f=>(f,true)
 | none=>({ rel:=⟨#[]⟩,args:=[] },false)
theorem Zmi {b:List Zl} {rel:ByteArray} {body:Nat→ByteArray→List ByteArray→Option (List ByteArray ⊕ (Zc × Bool))} (hb:∀i a row,row.length≤1048576→body i a row=match XN b a with | some v=>some (.inl (row++[v])) | none=>some (.inr ({ rel:=⟨#[]⟩,args:=[] },false))) (l:List ByteArray) (hl:l.length≤1000000):
  Zp body (fun row=>some ({ rel:=rel,args:=row },true)) l 0 []=some (Ze4 ((Zd9 l b).map fun l=>{ rel:=rel,args:=l })):=by
 rw [Zad (fun l _ row=>some (Ze4 ((Zd9 l b).map fun l=>{ rel:=rel,args:=row++l }))) (fun l _ row=>row.length+l.length≤1048576) ?_ ?_ l 0 [] (by simp;omega)]
 ·simp
 ·intro i row _
  simp [Zd9,Ze4]
 ·intro a l i row hI
  simp only [List.length_cons] at hI
  have e:=hb i a row (by omega)
  cases hv:XN b a with
  | none=>
   rw [hv] at e
   exact .inr ⟨_,e,by simp [Zd9,hv,Ze4]⟩
  | some v=>
   rw [hv] at e
   refine .inl ⟨_,e,by simp;omega,?_⟩
   simp only [Zd9,hv,Option.bind_some,Option.map_map]
   cases Zd9 l b<;>simp
theorem Zd5 (p:Zv) (b:List Zl):Ql p b=some (Ze4 (Ze8 p b)):=by
 unfold Ql Ze8
 rw [ZaY,Option.bind_some]
 cases h1:Z1 p with
 | false=>rfl
 | true=>
  rw [if_pos rfl,QH,Option.bind_some]
  cases h3:Z0 b with
  | false=>rfl
  | true=>
   have hl:p.args.length≤3:=by unfold Z1 at h1;simp at h1;exact h1.1.2
   rw [if_pos rfl,if_pos ⟨rfl,rfl⟩,Zmi (b:=b) (fun i a row hr=>?_) p.args (by omega)]
   rw [Zcs,Option.bind_some,ZbP]
   cases XN b a with
   | none=>rfl
   | some v=>
    show (if true=true then _ else _)=_
    rw [if_pos rfl,Zj _ (by omega)]
    rfl
theorem Zg0 (p:Zv) (b:List Zl) (hb:b.length≤1048576):Xi p b=some (Ze4 (Ze8 p b)):=by
 unfold Xi Ze8
 rw [Za6,Option.bind_some]
 cases h1:Z1 p with
 | false=>rfl
 | true=>
  rw [if_pos rfl,QG b hb,Option.bind_some]
  cases h3:Z0 b with
  | false=>rfl
  | true=>
   have hl:p.args.length≤3:=by unfold Z1 at h1;simp at h1;exact h1.1.2
   rw [if_pos rfl,if_pos ⟨rfl,rfl⟩,Zmi (b:=b) (fun i a row hr=>?_) p.args (by omega)]
   rw [Zcr,Option.bind_some,ZbP]
   cases XN b a with
   | none=>rfl
   | some v=>
    show (if true=true then _ else _)=_
    rw [if_pos rfl,Zj _ (by omega)]
    rfl
theorem ZeO (o:Option (List Zl)):(Zjo o).2=o.isSome:=by cases o<;>rfl
theorem Zdl (p:Zv) (b:List Zl) (F:List Zc) (hF:F.length≤1048576) (ha:∀f∈F,f.args.length≤1048576):Xy p b F=some (Zcu p b F):=by
 unfold Xy Zcu
 rw [ZdE (p:=fun f=>(Za5 p f b).isSome)]
 ·simp
 ·intro j f s mf hs
  rw [Zfw,Option.bind_some,ZeO]
  split
  ·rw [Xd f (ha f mf),Option.bind_some,Zj _ (by simp at hs;omega)]
  ·rfl
theorem ZcF (p:Zv) (b:List Zl) (F:List Zc) (hb:b.length≤1048576) (hF:F.length≤1048576) (ha:∀f∈F,f.args.length≤1048576):Xv p b F=some (Zcu p b F):=by
 unfold Xv Zcu
 rw [ZdE (p:=fun f=>(Za5 p f b).isSome)]
 ·simp
 ·intro j f s mf hs
  rw [ZfT _ _ _ hb,Option.bind_some,ZeO]
  split
  ·rw [XE f (ha f mf),Option.bind_some,Zj _ (by simp at hs;omega)]
  ·rfl
theorem Zla (x:Zm) (b:List Zl):Zb7 x b=some (ZkD x b):=by
 unfold Zb7 ZkD Zh1
 rw [ZfG,Option.bind_some]
 cases h1:YT x with
 | false=>rfl
 | true=>
  rw [if_pos rfl,Option.bind_some]
  by_cases h2:3≤x.kind
  ·rw [if_pos (by simpa using h2),QH,Option.bind_some]
   cases h3:Z0 b with
   | false=>simp
   | true=>
    rw [if_pos rfl,if_pos ⟨rfl,h2,rfl⟩,Zcs,Option.bind_some,Zcs,Option.bind_some,ZbP,ZbP]
    cases XN b x.left with
    | none=>rfl
    | some l=>
     cases XN b x.right with
     | none=>rfl
     | some r=>
      show (if true=true then (if true=true then (if (x.kind==3)=true then some (sEq l r) else _) else _) else _)=some (Zoi x.kind l r)
      rw [if_pos rfl,if_pos rfl]
      unfold Zoi
      by_cases k3:x.kind=3
      ·rw [if_pos (by simpa using k3),if_pos k3];rfl
      ·rw [if_neg (by simpa using k3),if_neg k3]
       by_cases k4:x.kind=4
       ·rw [if_pos (by simpa using k4),if_pos k4];rfl
       ·rw [if_neg (by simpa using k4),if_neg k4,ZbQ,Option.bind_some,ZbQ,Option.bind_some]
        show (if (Zds l).2=true then (if (Zds r).2=true then some (decide ((Zds l).1<(Zds r).1)) else some false) else some false)=_
        unfold Zds ZsZ
        cases Qy l<;>cases Qy r<;>simp
  ·rw [if_neg (by simpa using h2),if_neg (fun h=>h2 h.2.1)]
theorem ZkK (x:Zm) (b:List Zl) (hb:b.length≤1048576):ZbV x b=some (ZkD x b):=by
 unfold ZbV ZkD Za9
 rw [ZdL,Option.bind_some]
 cases h1:YT x with
 | false=>rfl
 | true=>
  rw [if_pos rfl,Option.bind_some]
  by_cases h2:3≤x.kind
  ·rw [if_pos (by simpa using h2),QG b hb,Option.bind_some]
   cases h3:Z0 b with
   | false=>simp
   | true=>
    rw [if_pos rfl,if_pos ⟨rfl,h2,rfl⟩,Zcr,Option.bind_some,Zcr,Option.bind_some,ZbP,ZbP]
    cases XN b x.left with
    | none=>rfl
    | some l=>
     cases XN b x.right with
     | none=>rfl
     | some r=>
      show (if true=true then (if true=true then (if (x.kind==3)=true then some (sEq l r) else _) else _) else _)=some (Zoi x.kind l r)
      rw [if_pos rfl,if_pos rfl]
      unfold Zoi
      by_cases k3:x.kind=3
      ·rw [if_pos (by simpa using k3),if_pos k3];rfl
      ·rw [if_neg (by simpa using k3),if_neg k3]
       by_cases k4:x.kind=4
       ·rw [if_pos (by simpa using k4),if_pos k4];rfl
       ·rw [if_neg (by simpa using k4),if_neg k4]
        unfold ZcD
        rw [ZbG,Option.bind_some,Option.bind_some]
        show (if (Zds l).2=true then ((QS r).bind fun v1=>some v1.2).bind (fun v6=>if v6=true then (Xo l r).bind fun v7=>some (decide (v7<0)) else some false) else some false)=_
        unfold ZsZ
        cases hl:Qy l with
        | none=>simp [Zds,hl]
        | some m=>
         rw [if_pos (by simp [Zds,hl]),ZbG,Option.bind_some,Option.bind_some]
         cases hr:Qy r with
         | none=>simp [Zds,hr]
         | some n=>
          have hd:decide (Zfd l r<0)=decide (m<n):=by
           have hc:Zfd l r=Zjv m n:=by unfold Zfd;rw [hl,hr]
           rw [hc,Bool.eq_iff_iff,decide_eq_true_iff,decide_eq_true_iff]
           unfold Zjv
           split
           ·omega
           ·split<;>omega
          rw [if_pos (by simp [Zds,hr]),ZdO,Option.bind_some,hd]
  ·rw [if_neg (by simpa using h2),if_neg (fun h=>h2 h.2.1)]
theorem Zj4 (x:Zm) (b:List Zl) (F:List Zc) (hF:F.length≤1048576) (ha:∀f∈F,f.args.length≤1048576):ZbZ x b F=some (ZfD x b F):=by
 unfold ZbZ ZfD
 rw [ZfG,Option.bind_some]
 cases h1:YT x with
 | false=>rfl
 | true=>
  rw [if_pos rfl,QH,Option.bind_some]
  cases h3:Z0 b with
  | false=>rfl
  | true=>
   rw [if_pos rfl,if_pos (show true=true∧true=true from ⟨rfl,rfl⟩)]
   by_cases k1:x.kind=1
   ·rw [if_pos (by simpa using k1),if_pos k1,Zdl _ _ _ hF ha,Option.bind_some]
    congr 1
    rw [Bool.eq_iff_iff];simp
   ·rw [if_neg (by simpa using k1),if_neg k1]
    by_cases k2:x.kind=2
    ·rw [if_pos (by simpa using k2),if_pos k2,Zdl _ _ _ hF ha,Option.bind_some,ZrL]
    ·rw [if_neg (by simpa using k2),if_neg k2,Zla]
     rfl
theorem ZkA (x:Zm) (b:List Zl) (F:List Zc) (hb:b.length≤1048576) (hF:F.length≤1048576) (ha:∀f∈F,f.args.length≤1048576):Zb4 x b F=some (ZfD x b F):=by
 unfold Zb4 ZfD
 rw [ZdL,Option.bind_some]
 cases h1:YT x with
 | false=>rfl
 | true=>
  rw [if_pos rfl,QG b hb,Option.bind_some]
  cases h3:Z0 b with
  | false=>rfl
  | true=>
   rw [if_pos rfl,if_pos (show true=true∧true=true from ⟨rfl,rfl⟩)]
   by_cases k1:x.kind=1
   ·rw [if_pos (by simpa using k1),if_pos k1,ZcF _ _ _ hb hF ha,Option.bind_some]
    congr 1
    rw [Bool.eq_iff_iff];simp
   ·rw [if_neg (by simpa using k1),if_neg k1]
    by_cases k2:x.kind=2
    ·rw [if_pos (by simpa using k2),if_pos k2,ZcF _ _ _ hb hF ha,Option.bind_some,ZrL]
    ·rw [if_neg (by simpa using k2),if_neg k2,ZkK _ _ hb]
     rfl
end Go.Proofs.YtojnhepgnbhaaaaGreatDoor
namespace Go.Proofs.YtojnhepgnbhaaaaGreatDoor
theorem ZbU {r:Zf} (h:Qj r=true):r.cond.length≤4∧r.thn.length≤2:=by
 simp only [Qj,Bool.and_eq_true,decide_eq_true_eq] at h
 omega
def Zog (r:Zf):Bool:=r.thn.all fun a=>decide (a.kind=1)
def Zg4 (r:Zf) (i:Nat) (x:Zm):Bool:=!decide (x.kind=2)||(YN x).all (YE (YJ r i))
def Z2 (r:Zf):Bool:=Qj r&&Zbr (Zg4 r) r.cond 0&&Zog r
theorem Zl2 (a b:List ByteArray):Zc8 a b=some (a.all (YE b)):=by
 unfold Zc8
 rw [Yf (p:=YE b) (r:=false)]
 ·cases a.all (YE b)<;>rfl
 ·intro i x _
  rw [YW,Option.bind_some]
  cases YE b x<;>simp
theorem Zmq {fin:Unit→Option Bool} {l:List Zr}:Zp (σ:=Unit) (fun (_:Nat) (x:Zr) _=>if (x.kind != 1)=true then some (.inr false) else some (.inl ())) fin l 0 ()=if (l.all fun a=>decide (a.kind=1))=true then fin () else some false:=by
 refine Yf fun i x _=>?_
 by_cases h:x.kind=1
 ·simp [h]
 ·have:(x.kind != 1)=true:=by simpa using h
  simp [this,h]
theorem ZlV (r:Zf):Zdh r=some (Zog r):=by
 unfold Zdh Zog
 rw [Zmq]
 cases r.thn.all fun a=>decide (a.kind=1)<;>rfl
theorem Zky (r:Zf) (h:Zbf r):Zb6 r=some (Z2 r):=by
 unfold Zb6 Z2
 rw [Zji r h,Option.bind_some]
 cases hr:Qj r with
 | false=>simp
 | true=>
  have h4:=(ZbU hr).1
  simp only [if_true,Bool.true_and]
  rw [X7 (p:=Zg4 r) (r:=false),Zmq]
  ·unfold Zog
   cases Zbr (Zg4 r) r.cond 0<;>cases r.thn.all fun a=>decide (a.kind=1)<;>simp
  ·intro j x hj
   rw [Nat.zero_add,ZbF x (by have:=h.ca x (List.mem_of_getElem? hj);omega),ZcN r _ h h4,Int.toNat_natCast]
   simp only [Option.bind_some,Zl2,Zg4]
   by_cases hk:x.kind=2
   ·simp only [hk,beq_self_eq_true,if_true,decide_true,Bool.not_true,Bool.false_or]
    cases (YN x).all (YE (YJ r j))<;>simp
   ·simp [hk]
theorem Zlt (r:Zf) (h:Zbf r):ZbY r=some (Z2 r):=by
 unfold ZbY Z2
 rw [ZiV r h,Option.bind_some,ZlV]
 cases hr:Qj r with
 | false=>simp
 | true=>
  have h4:=(ZbU hr).1
  simp only [if_true,Bool.true_and,Option.bind_some]
  rw [X7 (p:=Zg4 r) (r:=false)]
  ·cases Zbr (Zg4 r) r.cond 0<;>cases Zog r<;>simp
  ·intro j x hj
   rw [Nat.zero_add,ZbL x (by have:=h.ca x (List.mem_of_getElem? hj);omega),ZcK r _ h h4,Int.toNat_natCast]
   simp only [Option.bind_some,Zg4]
   by_cases hk:x.kind=2
   ·simp only [hk,bne_self_eq_false,Bool.false_eq_true,if_false,decide_true,Bool.not_true,Bool.false_or]
    rw [Yf (p:=YE (YJ r j)) (r:=.inr false)]
    ·cases (YN x).all (YE (YJ r j))<;>simp
    ·intro k v _
     rw [QY,Option.bind_some]
     cases YE (YJ r j) v<;>simp
   ·have:(x.kind != 2)=true:=by simpa using hk
    simp [hk,this]
theorem ZtH {l:List Nat} {x:Nat} (h:x∈l):x≤l.sum:=by
 induction l with
 | nil=>simp at h
 | cons a r ih=>
  rcases List.mem_cons.1 h with h | h
  ·subst h;simp
  ·have:=ih h;simp;omega
theorem Zlw {α:Type} {f:α→Nat} {l:List α} {n:Nat} (h:l.length+(l.map f).sum≤n) {x:α} (hx:x∈l):f x≤n:=by
 have:=ZtH (List.mem_map_of_mem (f:=f) hx)
 omega
theorem Zpk {l:List Zm} (h:YA l≤1048576):l.length≤1048576∧∀x∈l,x.pattern.args.length≤1048576:=by
 unfold YA at h
 refine ⟨by omega,fun x mx=>?_⟩
 have:=Zlw (f:=YO) h mx
 simp only [YO,Z5,Xm] at this
 omega
theorem Zqe {r:Zf} (h:Yq r≤1048576):Zbf r:=by
 simp only [Yq] at h
 have h1:YA r.cond≤1048576:=by omega
 have h2:Yg r.thn≤1048576:=by omega
 obtain ⟨a,b⟩:=Zpk h1
 refine ⟨a,?_,b,fun x mx=>?_⟩
 ·unfold Yg at h2;omega
 ·unfold Yg at h2
  have:=Zlw (f:=Yl) h2 mx
  simp only [Yl,Z5,Xm] at this
  omega
end Go.Proofs.YtojnhepgnbhaaaaGreatDoor
