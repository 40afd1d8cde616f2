/- Texts of this proof, joined: Df, Laid, DT, Dp1, Shelf, LItoa, LCompare, SortH, SortS, SortZ, LAtoi, Ext, Dp0. What each holds is said at its theorems. -/
import Derived.Test.YtlpkbfjcdaanmaaGreatDoorAskModelQ3
import GoSem.Claims
import Derived.Test.YtlpkbfjcdaanmaaGreatDoorProg
import Derived.Lib.LaidTab
import Derived.Lib.ItoaNum
import Derived.Shelf.Strings.Builder1
import Derived.Shelf.Strings.Builder2
import Derived.Shelf.Strings.OnBuilder
import Derived.Shelf.Small.Strs
import Derived.Shelf.Small.Wraps
import Derived.Shelf.Strconv.Atoi
import Derived.Shelf.Strconv.Itoa0
import Derived.Shelf.Strconv.Itoa1
import Derived.Shelf.LaysM
import Derived.Shelf.Strconv.Itoa2
import Derived.Shelf.Strconv.Itoa3
import Derived.Shelf.Strconv.AtoiErrFast
import Derived.Shelf.Strconv.ParseIntEmpty
import Derived.Shelf.Strconv.AtoiFail
import Derived.Shelf.Strconv.Clone
import Derived.Shelf.Strconv.SyntaxError
import Derived.Shelf.LaysC
import Derived.Shelf.Strconv.ToError
import Derived.Shelf.Strconv.AtoiErr
import Derived.Shelf.Strconv.ErrVar
import Derived.Shelf.Sort.Plain
import Derived.Shelf.Slices.In.SortNone
import Derived.Shelf.Slices.In.SortNone2
import Derived.Lib.AppendIntMem
import Derived.Lib.ItoaLen
import Derived.Lib.AtoiErrMem
open Array renaming getElem?_eq_none→AD,getElem?_toList→AI,getElem?_modify→AK
open Bool renaming false_or→AA,or_false→AB
open Int renaming toNat→A4,toNat_natCast→A6
open List renaming map→A0,set→A5,replicate→A9,size_toArray→AE,eq_nil_of_length_eq_zero→AF,getElem?_take→AG,getElem?_drop→AH,getElem?_map→AJ,map_map→AL
open Option renaming bind_some→AC
open Option.some renaming inj→A3
open Go.Proofs.Tryz
set_option linter.unusedSimpArgs false
set_option linter.unusedVariables false
set_option maxRecDepth 1000000
set_option maxHeartbeats 4000000
namespace Go.Proofs.YtlpkbfjcdaanmaaGreatDoor
theorem yO{p:Prop}(h:p:=by kernel_rfl):p:=h
theorem yP{α:Type}{a:Option α}{b c:α}(h:a=some b)(e:b=c:=by kernel_rfl):a=some c:=h.trans (congrArg some e)
section
structure XR where
 rule:ByteArray
 token:Zq
structure Za4 where
 rule:ByteArray
 facts:(List Zc)
structure ZwG where
 b:(List Int)
 i:Int
 h:Int
noncomputable def QS (s_0:ByteArray):Option Bool:=
 if (decide (((s_0.size:Nat):Int)<1))=true then
  some false
 else
  if (decide (8<((s_0.size:Nat):Int)))=true then
   some false
  else
   Zp (σ:=Unit)
    (fun (i4:Nat) (a:UInt8) _=>
     if (decide (((a.toNat:Nat):Int)<97))=true then
      if (decide (((a.toNat:Nat):Int)<48))=true then
       some (.inr false)
      else
       if (decide (57<((a.toNat:Nat):Int)))=true then
        some (.inr false)
       else
        some (.inl ())
     else
      if (decide (122<((a.toNat:Nat):Int)))=true then
       if (decide (((a.toNat:Nat):Int)<48))=true then
        some (.inr false)
       else
        if (decide (57<((a.toNat:Nat):Int)))=true then
         some (.inr false)
        else
         some (.inl ())
      else
       some (.inl ()))
    (fun _=>
     some true)
    s_0.data.toList 0 ()
noncomputable def Zey (s_0:ByteArray):Option Bool:=
 (QS s_0).bind fun a=>
 if a=true then
  (sAt s_0 0).bind fun b=>
  some (decide (97≤((b.toNat:Nat):Int)))
 else
  some false
noncomputable def ZfO (f_0:Zc):Option Bool:=
 (Zey f_0.rel).bind fun a=>
 if a=true then
  if (decide (3<((f_0.args.length:Nat):Int)))=true then
   some false
  else
   Zp (σ:=Unit)
    (fun (i7:Nat) (b:ByteArray) _=>
     (QS b).bind fun c=>
     if c=true then
      some (.inl ())
     else
      some (.inr false))
    (fun _=>
     some true)
    f_0.args 0 ()
 else
  some false
noncomputable def Zdp (a:ByteArray):Option Bool:=
 if (decide (1<((a.size:Nat):Int)))=true then
  (sAt a 0).bind fun b=>
  if (((b.toNat:Nat):Int)==63)=true then
   chk (0≤1∧1≤((a.size:Nat):Int)) <|
   (QS (a.extract (A4 1) a.size)).bind fun c=>
   some c
  else
   some false
 else
  some false
noncomputable def Zab (s_0:ByteArray):Option Bool:=
 (QS s_0).bind fun a=>
 if a=true then
  some true
 else
  (Zdp s_0).bind fun b=>
  some b
noncomputable def Xp (p_0:Zx):Option Bool:=
 (Zey p_0.rel).bind fun a=>
 if a=true then
  if (decide (3<((p_0.args.length:Nat):Int)))=true then
   some false
  else
   Zp (σ:=Unit)
    (fun (i7:Nat) (b:ByteArray) _=>
     (Zab b).bind fun c=>
     if c=true then
      some (.inl ())
     else
      some (.inr false))
    (fun _=>
     some true)
    p_0.args 0 ()
 else
  some false
noncomputable def XS (a:(List Zi)):Option Bool:=
 if (decide (6<((a.length:Nat):Int)))=true then
  some false
 else
  Zp (σ:=Unit)
   (fun (c:Nat) (b:Zi) _=>
    (Zdp b.var).bind fun d=>
    if d=true then
     (QS b.value).bind fun e=>
     if e=true then
      if (decide (0<((c:Nat):Int)))=true then
       (atI a (IntKind.i64.wrap (((c:Nat):Int) - 1))).bind fun f=>
       if (sLt f.var b.var)=true then
        some (.inl ())
       else
        some (.inr false)
      else
       some (.inl ())
     else
      some (.inr false)
    else
     some (.inr false))
   (fun _=>
    some true)
   a 0 ()
noncomputable def Zbn (b_0:(List Zi)):Option (List Zi):=
 chk (b_0.length≤1073741824) <|
 some b_0
noncomputable def Zbt (b_0:(List Zi)) (term_1:ByteArray):Option (ByteArray × Bool):=
 (QS term_1).bind fun b=>
 if b=true then
  some (term_1,true)
 else
  (Zdp term_1).bind fun c=>
  if c=true then
   Zp (σ:=Unit)
    (fun (i6:Nat) (a:Zi) _=>
     if (sEq a.var term_1)=true then
      some (.inr (a.value,true))
     else
      some (.inl ()))
    (fun _=>
     some ((⟨#[]⟩),false))
    b_0 0 ()
  else
   some ((⟨#[]⟩),false)
noncomputable def Zg4 (append_0:(List Zi)) (b:ByteArray) (a_2:ByteArray):Option ((List Zi) × Bool):=
 (XS append_0).bind fun f=>
 if f=true then
  (Zdp b).bind fun g=>
  if g=true then
   (QS a_2).bind fun i=>
   if i=true then
    (Zbt append_0 b).bind fun e=>
    if e.2=true then
     if (sEq e.1 a_2)=true then
      (Zbn append_0).bind fun j=>
      some (j,true)
     else
      some ([],false)
    else
     if (decide (6≤((append_0.length:Nat):Int)))=true then
      some ([],false)
     else
      Zp (σ:=(List Zi) × Bool)
       (fun (i13:Nat) (c:Zi) s=>
        match s with
        | (a,d)=>
        if d=true then
         chk (a.length+1≤1073741824) <|
         some (.inl ((a++[c]),true))
        else
         if (sLt c.var b||sEq c.var b)=true then
          chk (a.length+1≤1073741824) <|
          some (.inl ((a++[c]),false))
         else
          chk (a.length+1≤1073741824) <|
          chk (a.length+1+1≤1073741824) <|
          some (.inl (((a++[({ var:=b,value:=a_2 }:Zi)])++[c]),true)))
       (fun s=>
        match s with
        | (a,d)=>
        if d=true then
         some (a,true)
        else
         chk (a.length+1≤1073741824) <|
         some ((a++[({ var:=b,value:=a_2 }:Zi)]),true))
       append_0 0 ([],false)
   else
    some ([],false)
  else
   some ([],false)
 else
  some ([],false)
noncomputable def QF (append_0:Zx) (a:Zc) (a_2:(List Zi)):Option ((List Zi) × Bool):=
 (Xp append_0).bind fun f=>
 if f=true then
  (ZfO a).bind fun g=>
  if g=true then
   (XS a_2).bind fun i=>
   if i=true then
    if (sEq append_0.rel a.rel)=true then
     if (((append_0.args.length:Nat):Int) != ((a.args.length:Nat):Int))=true then
      some ([],false)
     else
      (Zbn a_2).bind fun j=>
      Zp (σ:=(List Zi))
       (fun (d:Nat) (c:ByteArray) b=>
        (QS c).bind fun k=>
        if k=true then
         (atI a.args ((d:Nat):Int)).bind fun l=>
         if (sEq c l)=true then
          some (.inl b)
         else
          some (.inr ([],false))
        else
         (atI a.args ((d:Nat):Int)).bind fun m=>
         (Zg4 b c m).bind fun e=>
         if e.2=true then
          some (.inl e.1)
         else
          some (.inr ([],false)))
       (fun b=>
        some (b,true))
       append_0.args 0 j
    else
     some ([],false)
   else
    some ([],false)
  else
   some ([],false)
 else
  some ([],false)
noncomputable def Zbx (l_0:(List ByteArray)):Option (List ByteArray):=
 chk (l_0.length≤1073741824) <|
 some l_0
noncomputable def YE (f_0:Zc):Option Zc:=
 (Zbx f_0.args).bind fun a=>
 some ({ rel:=f_0.rel,args:=a }:Zc)
noncomputable def Xt (p_0:Zx):Option Bool:=
 if (sEq p_0.rel ⟨#[]⟩)=true then
  some (((p_0.args.length:Nat):Int)==0)
 else
  some false
noncomputable def Zeh (x_0:Zl):Option Bool:=
 if (x_0.kind==1)=true then
  (Xp x_0.pattern).bind fun a=>
  if a=true then
   if (sEq x_0.left ⟨#[]⟩)=true then
    some (sEq x_0.right ⟨#[]⟩)
   else
    some false
  else
   some false
 else
  if (x_0.kind==2)=true then
   (Xp x_0.pattern).bind fun b=>
   if b=true then
    if (sEq x_0.left ⟨#[]⟩)=true then
     some (sEq x_0.right ⟨#[]⟩)
    else
     some false
   else
    some false
  else
   if (x_0.kind==3)=true then
    (Zab x_0.left).bind fun c=>
    if c=true then
     (Zab x_0.right).bind fun d=>
     if d=true then
      (Xt x_0.pattern).bind fun e=>
      some e
     else
      some false
    else
     some false
   else
    if (x_0.kind==4)=true then
     (Zab x_0.left).bind fun f=>
     if f=true then
      (Zab x_0.right).bind fun g=>
      if g=true then
       (Xt x_0.pattern).bind fun i=>
       some i
      else
       some false
     else
      some false
    else
     if (x_0.kind==5)=true then
      (Zab x_0.left).bind fun j=>
      if j=true then
       (Zab x_0.right).bind fun k=>
       if k=true then
        (Xt x_0.pattern).bind fun l=>
        some l
       else
        some false
      else
       some false
     else
      some false
noncomputable def XO (p_0:Zx) (b_1:(List Zi)) (facts_2:(List Zc)):Option (List Zc):=
 Zp (σ:=(List Zc))
  (fun (i12:Nat) (b:Zc) a=>
   (QF p_0 b b_1).bind fun c=>
   if c.2=true then
    (YE b).bind fun d=>
    chk (a.length+1≤1073741824) <|
    some (.inl (a++[d]))
   else
    some (.inl a))
  (fun a=>
   some a)
  facts_2 0 []
noncomputable def ZjH (x_0:Zl):Option Bool:=
 (Zeh x_0).bind fun a=>
 if a=true then
  some (decide (3≤x_0.kind))
 else
  some false
noncomputable def Zbu (n_0:Int):Option ByteArray:=
 (ZqT n_0).bind fun a=>
 some a
noncomputable def Zae (s_0:ByteArray):Option (Int × Bool):=
 if (decide (((s_0.size:Nat):Int)<1))=true then
  some (0,false)
 else
  if (decide (4<((s_0.size:Nat):Int)))=true then
   some (0,false)
  else
   (ZmK s_0).bind fun a=>
   if a.2=true then
    if (decide (a.1<0))=true then
     some (0,false)
    else
     if (decide (9999<a.1))=true then
      some (0,false)
     else
      (Zbu a.1).bind fun b=>
      if (sEq b s_0)=true then
       some (a.1,true)
      else
       some (0,false)
   else
    some (0,false)
noncomputable def Zc9 (append_0:Zl) (String_1:(List Zi)):Option Bool:=
 (ZjH append_0).bind fun e=>
 if e=true then
  (XS String_1).bind fun f=>
  if f=true then
   (Zbt String_1 append_0.left).bind fun a=>
   (Zbt String_1 append_0.right).bind fun b=>
   if a.2=true then
    if b.2=true then
     if (append_0.kind==3)=true then
      some (sEq a.1 b.1)
     else
      if (append_0.kind==4)=true then
       some (!(sEq a.1 b.1))
      else
       (Zae a.1).bind fun c=>
       (Zae b.1).bind fun d=>
       if c.2=true then
        if d.2=true then
         some (decide (c.1<d.1))
        else
         some false
       else
        some false
    else
     some false
   else
    some false
  else
   some false
 else
  some false
noncomputable def ZcY (x_0:Zl) (a:(List Zi)) (b:(List Zc)):Option Bool:=
 (Zeh x_0).bind fun c=>
 if c=true then
  (XS a).bind fun d=>
  if d=true then
   if (x_0.kind==1)=true then
    (XO x_0.pattern a b).bind fun e=>
    some (decide (0<((e.length:Nat):Int)))
   else
    if (x_0.kind==2)=true then
     (XO x_0.pattern a b).bind fun f=>
     some (((f.length:Nat):Int)==0)
    else
     (Zc9 x_0 a).bind fun g=>
     some g
  else
   some false
 else
  some false
noncomputable def Zad (l_0:(List Zc)):Option (List Zc):=
 Zp (σ:=(List Zc))
  (fun (i9:Nat) (b:Zc) a=>
   (YE b).bind fun c=>
   chk (a.length+1≤1073741824) <|
   some (.inl (a++[c])))
  (fun a=>
   some a)
  l_0 0 []
noncomputable def Zao (append_0:(List Zl)) (String_1:(List Zc)):Option (List Zq):=
 Zp (σ:=(List Zq))
  (fun (i246:Nat) (d:Zl) e=>
   Zp (σ:=(List Zq))
    (fun (i322:Nat) (c:Zq) a=>
     if (d.kind != 1)=true then
      (ZcY d c.binding String_1).bind fun j=>
      if j=true then
       chk (a.length+1≤1073741824) <|
       some (.inl (a++[c]))
      else
       some (.inl a)
     else
      Zp (σ:=(List Zq))
       (fun (i335:Nat) (f:Zc) b=>
        (QF d.pattern f c.binding).bind fun g=>
        if g.2=true then
         (Zad c.facts).bind fun i=>
         (YE f).bind fun k=>
         chk (i.length+1≤1073741824) <|
         chk (b.length+1≤1073741824) <|
         some (.inl (b++[({ facts:=(i++[k]),binding:=g.1 }:Zq)]))
        else
         some (.inl b))
       (fun b=>
        some (.inl b))
       String_1 0 a)
    (fun a=>
     some (.inl a))
    e 0 [])
  (fun e=>
   some e)
  append_0 0 ([({ facts:=[],binding:=[] }:Zq)])
noncomputable def ZcN (a_0:(List ByteArray)) (a:(List ByteArray)):Option Bool:=
 if (((a_0.length:Nat):Int) != ((a.length:Nat):Int))=true then
  some false
 else
  Zp (σ:=Unit)
   (fun (b:Nat) (c:ByteArray) _=>
    (atI a ((b:Nat):Int)).bind fun d=>
    if (sEq c d)=true then
     some (.inl ())
    else
     some (.inr false))
   (fun _=>
    some true)
   a_0 0 ()
noncomputable def Zca (a_0:Zc) (b_1:Zc):Option Bool:=
 if (sEq a_0.rel b_1.rel)=true then
  (ZcN a_0.args b_1.args).bind fun a=>
  some a
 else
  some false
noncomputable def Yl (l_0:(List Zc)) (f_1:Zc):Option Int:=
 Zp (σ:=Unit)
  (fun (i6:Nat) (a:Zc) _=>
   (Zca a f_1).bind fun b=>
   if b=true then
    some (.inr ((i6:Nat):Int))
   else
    some (.inl ()))
  (fun _=>
   some (-1))
  l_0 0 ()
noncomputable def QL (p_0:Zx) (b_1:(List Zi)):Option (Zc × Bool):=
 (Xp p_0).bind fun c=>
 if c=true then
  (XS b_1).bind fun d=>
  if d=true then
   Zp (σ:=(List ByteArray))
    (fun (i11:Nat) (e:ByteArray) a=>
     (Zbt b_1 e).bind fun b=>
     if b.2=true then
      chk (a.length+1≤1073741824) <|
      some (.inl (a++[b.1]))
     else
      some (.inr (({ rel:=(⟨#[]⟩),args:=[] }:Zc),false)))
    (fun a=>
     some (({ rel:=p_0.rel,args:=a }:Zc),true))
    p_0.args 0 []
  else
   some (({ rel:=(⟨#[]⟩),args:=[] }:Zc),false)
 else
  some (({ rel:=(⟨#[]⟩),args:=[] }:Zc),false)
noncomputable def X4 (a_0:Int) (b_1:Int):Option Int:=
 if (decide (a_0<b_1))=true then
  some (-1)
 else
  if (decide (b_1<a_0))=true then
   some 1
  else
   some 0
noncomputable def Q8 (a_0:ByteArray) (b_1:ByteArray):Option Int:=
 (Zae a_0).bind fun b=>
 (Zae b_1).bind fun a=>
 if b.2=true then
  if a.2=true then
   (X4 b.1 a.1).bind fun c=>
   some c
  else
   some (-1)
 else
  if a.2=true then
   some 1
  else
   (ZfS a_0 b_1).bind fun d=>
   some d
noncomputable def Qn (a_0:Zc) (a:Zc):Option Int:=
 (ZfS a_0.rel a.rel).bind fun b=>
 if (b != 0)=true then
  some b
 else
  Zp (σ:=Unit)
   (fun (c:Nat) (e:ByteArray) _=>
    if (decide (((c:Nat):Int)<((a.args.length:Nat):Int)))=true then
     (atI a.args ((c:Nat):Int)).bind fun f=>
     (Q8 e f).bind fun d=>
     if (d != 0)=true then
      some (.inr d)
     else
      some (.inl ())
    else
     (X4 ((a_0.args.length:Nat):Int) ((a.args.length:Nat):Int)).bind fun g=>
     some (.inr g))
   (fun _=>
    (X4 ((a_0.args.length:Nat):Int) ((a.args.length:Nat):Int)).bind fun i=>
    some i)
   a_0.args 0 ()
noncomputable def Qv (l_0:(List Zc)) (f_1:Zc):Option (List Zc):=
 Zp (σ:=(List Zc) × Bool)
  (fun (i21:Nat) (b:Zc) s=>
   match s with
   | (a,c)=>
   if c=true then
    (YE b).bind fun d=>
    chk (a.length+1≤1073741824) <|
    some (.inl ((a++[d]),true))
   else
    (Qn b f_1).bind fun e=>
    if (decide (0<e))=true then
     (YE f_1).bind fun f=>
     chk (a.length+1≤1073741824) <|
     (YE b).bind fun g=>
     chk (a.length+1+1≤1073741824) <|
     some (.inl (((a++[f])++[g]),true))
    else
     (YE b).bind fun i=>
     chk (a.length+1≤1073741824) <|
     some (.inl ((a++[i]),false)))
  (fun s=>
   match s with
   | (a,c)=>
   if c=true then
    some a
   else
    (YE f_1).bind fun j=>
    chk (a.length+1≤1073741824) <|
    some (a++[j]))
  l_0 0 ([],false)
noncomputable def Xb (r_0:Zg):Option (List Zl):=
 Zp (σ:=(List Zl))
  (fun (i7:Nat) (b:Zl) a=>
   if (b.kind != 2)=true then
    chk (a.length+1≤1073741824) <|
    some (.inl (a++[b]))
   else
    some (.inl a))
  (fun a=>
   some a)
  r_0.cond 0 []
noncomputable def Zai (l_0:(List ByteArray)):Option (List ByteArray):=
 Zp (σ:=(List ByteArray))
  (fun (i9:Nat) (b:ByteArray) a=>
   (Zdp b).bind fun c=>
   if c=true then
    chk (a.length+1≤1073741824) <|
    some (.inl (a++[b]))
   else
    some (.inl a))
  (fun a=>
   some a)
  l_0 0 []
noncomputable def Yy (l_0:(List ByteArray)):Option (List ByteArray):=
 chk (l_0.length≤1073741824) <|
 (Zcw l_0).bind fun c=>
 Zp (σ:=(List ByteArray))
  (fun (b:Nat) (d:ByteArray) a=>
   if (((b:Nat):Int)==0)=true then
    chk (a.length+1≤1073741824) <|
    some (.inl (a++[d]))
   else
    chk (0≤(IntKind.i64.wrap (((b:Nat):Int) - 1))∧(IntKind.i64.wrap (((b:Nat):Int) - 1))<((c.length:Nat):Int)) <|
    (c[(A4 (IntKind.i64.wrap (((b:Nat):Int) - 1)))]?).bind fun e=>
    if (sEq e d)=true then
     some (.inl a)
    else
     chk (a.length+1≤1073741824) <|
     some (.inl (a++[d])))
  (fun a=>
   some a)
  c 0 []
noncomputable def Zac (r_0:Zg) (n_1:Int):Option (List ByteArray):=
 Zp (σ:=(List ByteArray))
  (fun (i10:Nat) (b:Zl) a=>
   if (decide (((i10:Nat):Int)<n_1))=true then
    if (b.kind==1)=true then
     (Zai b.pattern.args).bind fun c=>
     chk (a.length+c.length≤1073741824) <|
     some (.inl (a++c))
    else
     some (.inl a)
   else
    some (.inl a))
  (fun a=>
   (Yy a).bind fun d=>
   some d)
  r_0.cond 0 []
noncomputable def Xv (l_0:(List ByteArray)) (s_1:ByteArray):Option Bool:=
 Zp (σ:=Unit)
  (fun (i4:Nat) (a:ByteArray) _=>
   if (sEq a s_1)=true then
    some (.inr true)
   else
    some (.inl ()))
  (fun _=>
   some false)
  l_0 0 ()
noncomputable def ZhS (x_0:Zl):Option (List ByteArray):=
 (Zbx x_0.pattern.args).bind fun a=>
 chk (a.length+2≤1073741824) <|
 some (a++[x_0.left,x_0.right])
noncomputable def QI (x_0:Zl):Option (List ByteArray):=
 (ZhS x_0).bind fun a=>
 (Zai a).bind fun b=>
 (Yy b).bind fun c=>
 some c
noncomputable def XT (r_0:Zg) (k_1:Int) (a:ByteArray):Option Bool:=
 Zp (σ:=Unit)
  (fun (i16:Nat) (b:Zl) _=>
   if (((i16:Nat):Int) != k_1)=true then
    (QI b).bind fun c=>
    (Xv c a).bind fun d=>
    if d=true then
     some (.inr true)
    else
     some (.inl ())
   else
    some (.inl ()))
  (fun _=>
   Zp (σ:=Unit)
    (fun (i25:Nat) (e:Zu) _=>
     (Xv e.pattern.args a).bind fun f=>
     if f=true then
      some (.inr true)
     else
      some (.inl ()))
    (fun _=>
     some false)
    r_0.thn 0 ())
  r_0.cond 0 ()
noncomputable def Zcd (a:Zg) (b:Int):Option Bool:=
 (atI a.cond b).bind fun c=>
 (Zac a b).bind fun e=>
 (QI c).bind fun f=>
 Zp (σ:=Unit)
  (fun (i11:Nat) (d:ByteArray) _=>
   if (c.kind==1)=true then
    some (.inl ())
   else
    (Xv e d).bind fun g=>
    if g=true then
     some (.inl ())
    else
     if (c.kind != 2)=true then
      some (.inr false)
     else
      (XT a b d).bind fun i=>
      if i=true then
       some (.inr false)
      else
       some (.inl ()))
  (fun _=>
   some true)
  f 0 ()
noncomputable def ZeA (a_0:Zu):Option Bool:=
 if (a_0.kind==1)=true then
  (Xp a_0.pattern).bind fun a=>
  some a
 else
  if (a_0.kind==2)=true then
   (Xp a_0.pattern).bind fun b=>
   some b
  else
   if (a_0.kind==3)=true then
    (Xt a_0.pattern).bind fun c=>
    some c
   else
    some false
noncomputable def ZbK (l_0:(List Zl)):Option (List ByteArray):=
 Zp (σ:=(List ByteArray))
  (fun (i9:Nat) (c:Zl) a=>
   (QI c).bind fun b=>
   chk (a.length+b.length≤1073741824) <|
   some (.inl (a++b)))
  (fun a=>
   some a)
  l_0 0 []
noncomputable def Zex (append_0:Zg):Option Bool:=
 (Zey append_0.name).bind fun c=>
 if c=true then
  if (decide (append_0.priority<0))=true then
   some false
  else
   if (decide (9<append_0.priority))=true then
    some false
   else
    if (decide (((append_0.cond.length:Nat):Int)<1))=true then
     some false
    else
     if (decide (4<((append_0.cond.length:Nat):Int)))=true then
      some false
     else
      if (decide (((append_0.thn.length:Nat):Int)<1))=true then
       some false
      else
       if (decide (2<((append_0.thn.length:Nat):Int)))=true then
        some false
       else
        Zp (σ:=Unit)
         (fun (i50:Nat) (a:Zl) _=>
          (Zeh a).bind fun d=>
          if d=true then
           if (((i50:Nat):Int)==0)=true then
            if (a.kind != 1)=true then
             some (.inr false)
            else
             (Zcd append_0 ((i50:Nat):Int)).bind fun e=>
             if e=true then
              some (.inl ())
             else
              some (.inr false)
           else
            (Zcd append_0 ((i50:Nat):Int)).bind fun f=>
            if f=true then
             some (.inl ())
            else
             some (.inr false)
          else
           some (.inr false))
         (fun _=>
          (Zac append_0 ((append_0.cond.length:Nat):Int)).bind fun g=>
          Zp (σ:=Unit)
           (fun (i81:Nat) (b:Zu) _=>
            (ZeA b).bind fun i=>
            if i=true then
             (Zai b.pattern.args).bind fun j=>
             Zp (σ:=Unit)
              (fun (i90:Nat) (k:ByteArray) _=>
               (Xv g k).bind fun l=>
               if l=true then
                some (.inl ())
               else
                some (.inr (.inr false)))
              (fun _=>
               some (.inl ()))
              j 0 ()
            else
             some (.inr false))
           (fun _=>
            (ZbK append_0.cond).bind fun m=>
            (Yy m).bind fun o=>
            some (decide (((o.length:Nat):Int)≤6)))
           append_0.thn 0 ())
         append_0.cond 0 ()
 else
  some false
noncomputable def Zbd (l_0:(List Zg)) (name_1:ByteArray):Option Int:=
 Zp (σ:=Unit)
  (fun (i4:Nat) (a:Zg) _=>
   if (sEq a.name name_1)=true then
    some (.inr ((i4:Nat):Int))
   else
    some (.inl ()))
  (fun _=>
   some (-1))
  l_0 0 ()
noncomputable def Zd7 (l_0:(List Zg)):Option Bool:=
 if (decide (6<((l_0.length:Nat):Int)))=true then
  some false
 else
  Zp (σ:=Unit)
   (fun (i8:Nat) (a:Zg) _=>
    (Zex a).bind fun b=>
    if b=true then
     (Zbd l_0 a.name).bind fun c=>
     if (c != ((i8:Nat):Int))=true then
      some (.inr false)
     else
      some (.inl ())
    else
     some (.inr false))
   (fun _=>
    some true)
   l_0 0 ()
noncomputable def Zeg (r_0:Zg):Option Bool:=
 Zp (σ:=Unit)
  (fun (i4:Nat) (a:Zu) _=>
   if (a.kind != 1)=true then
    some (.inr false)
   else
    some (.inl ()))
  (fun _=>
   some true)
  r_0.thn 0 ()
noncomputable def Zc0 (r_0:Zg):Option Bool:=
 (Zex r_0).bind fun b=>
 if b=true then
  (Zeg r_0).bind fun c=>
  if c=true then
   Zp (σ:=Unit)
    (fun (i26:Nat) (a:Zl) _=>
     if (a.kind != 2)=true then
      some (.inl ())
     else
      (Zac r_0 ((i26:Nat):Int)).bind fun d=>
      (QI a).bind fun e=>
      Zp (σ:=Unit)
       (fun (i35:Nat) (f:ByteArray) _=>
        (Xv d f).bind fun g=>
        if g=true then
         some (.inl ())
        else
         some (.inr (.inr false)))
       (fun _=>
        some (.inl ()))
       e 0 ())
    (fun _=>
     some true)
    r_0.cond 0 ()
  else
   some false
 else
  some false
noncomputable def QR (r_0:Zg):Option (List ByteArray):=
 Zp (σ:=(List ByteArray))
  (fun (i7:Nat) (b:Zu) a=>
   if (b.kind==1)=true then
    chk (a.length+1≤1073741824) <|
    some (.inl (a++[b.pattern.rel]))
   else
    if (b.kind==2)=true then
     chk (a.length+1≤1073741824) <|
     some (.inl (a++[b.pattern.rel]))
    else
     some (.inl a))
  (fun a=>
   (Yy a).bind fun c=>
   some c)
  r_0.thn 0 []
noncomputable def Zcp (r_0:Zg):Option (List ByteArray):=
 Zp (σ:=(List ByteArray))
  (fun (i7:Nat) (b:Zl) a=>
   if (b.kind==1)=true then
    chk (a.length+1≤1073741824) <|
    some (.inl (a++[b.pattern.rel]))
   else
    if (b.kind==2)=true then
     chk (a.length+1≤1073741824) <|
     some (.inl (a++[b.pattern.rel]))
    else
     some (.inl a))
  (fun a=>
   (Yy a).bind fun c=>
   some c)
  r_0.cond 0 []
noncomputable def Zeo (rules_0:(List Zg)) (a_1:ByteArray):Option (List (ByteArray × Bool)):=
 XI (σ:=(List (ByteArray × Bool)) × (List ByteArray))
  (fun s=>
   match s with
   | (g,a)=>
   if (decide (0<((a.length:Nat):Int)))=true then
    chk (0≤0∧0<((a.length:Nat):Int)) <|
    (a[(A4 0)]?).bind fun j=>
    chk (0≤1∧1≤((a.length:Nat):Int)) <|
    Zp (σ:=(List (ByteArray × Bool)) × (List ByteArray))
     (fun (i72:Nat) (i:Zg) s=>
      match s with
      | (d,e)=>
      (QR i).bind fun k=>
      (Xv k j).bind fun l=>
      if l=true then
       (Zcp i).bind fun m=>
       Zp (σ:=(List (ByteArray × Bool)) × (List ByteArray))
        (fun (i83:Nat) (f:ByteArray) s=>
         match s with
         | (b,c)=>
         if (ZaJ b f false)=true then
          some (.inl (b,c))
         else
          chk (c.length+1≤1073741824) <|
          some (.inl ((Zf4 b f true),(c++[f]))))
        (fun s=>
         match s with
         | (b,c)=>
         some (.inl (b,c)))
        m 0 (d,e)
      else
       some (.inl (d,e)))
     (fun s=>
      match s with
      | (d,e)=>
      some (.inl (d,e)))
     rules_0 0 (g,(List.drop (A4 1) a))
   else
    some (.inr g))
  ([],[a_1])
noncomputable def ZbT (rules_0:(List Zg)):Option Bool:=
 (Zd7 rules_0).bind fun d=>
 if d=true then
  Zp (σ:=Unit)
   (fun (i59:Nat) (a:Zg) _=>
    (Zc0 a).bind fun e=>
    if e=true then
     Zp (σ:=Unit)
      (fun (i79:Nat) (b:Zl) _=>
       if (b.kind != 2)=true then
        some (.inl ())
       else
        (Zeo rules_0 b.pattern.rel).bind fun f=>
        (QR a).bind fun g=>
        Zp (σ:=Unit)
         (fun (i86:Nat) (c:ByteArray) _=>
          if (sEq c b.pattern.rel)=true then
           some (.inr (.inr (.inr false)))
          else
           if (ZaJ f c false)=true then
            some (.inr (.inr (.inr false)))
           else
            some (.inl ()))
         (fun _=>
          some (.inl ()))
         g 0 ())
      (fun _=>
       some (.inl ()))
      a.cond 0 ()
    else
     some (.inr false))
   (fun _=>
    some true)
   rules_0 0 ()
 else
  some false
noncomputable def Zei (a:(List Zc)):Option Bool:=
 if (decide (24<((a.length:Nat):Int)))=true then
  some false
 else
  Zp (σ:=Unit)
   (fun (b:Nat) (c:Zc) _=>
    (ZfO c).bind fun d=>
    if d=true then
     if (decide (0<((b:Nat):Int)))=true then
      (atI a (IntKind.i64.wrap (((b:Nat):Int) - 1))).bind fun e=>
      (Qn e c).bind fun f=>
      if (decide (0≤f))=true then
       some (.inr false)
      else
       some (.inl ())
     else
      some (.inl ())
    else
     some (.inr false))
   (fun _=>
    some true)
   a 0 ()
noncomputable def YB (append_0:(List Zg)) (String_1:(List Zc)):Option ((List Zc) × Bool):=
 (ZbT append_0).bind fun k=>
 if k=true then
  (Zei String_1).bind fun l=>
  if l=true then
   (Zad String_1).bind fun m=>
   XI (σ:=(List Zc) × Bool)
    (fun s=>
     match s with
     | (g,o)=>
     if o=true then
      Zp (σ:=(List Zc) × Bool)
       (fun (i423:Nat) (i:Zg) s=>
        match s with
        | (b,c)=>
        (Xb i).bind fun p=>
        (Zao p b).bind fun q=>
        Zp (σ:=(List Zc) × Bool)
         (fun (i480:Nat) (t:Zq) s=>
          match s with
          | (d,e)=>
          Zp (σ:=(List Zc) × Bool)
           (fun (i501:Nat) (u:Zu) s=>
            match s with
            | (a,f)=>
            (QL u.pattern t.binding).bind fun j=>
            (Yl a j.1).bind fun v=>
            if (decide (0≤v))=true then
             some (.inl (a,f))
            else
             if (decide (24≤((a.length:Nat):Int)))=true then
              some (.inr (.inr (.inr (.inr ([],false)))))
             else
              (Qv a j.1).bind fun w=>
              some (.inl (w,true)))
           (fun s=>
            match s with
            | (a,f)=>
            some (.inl (a,f)))
           i.thn 0 (d,e))
         (fun s=>
          match s with
          | (d,e)=>
          some (.inl (d,e)))
         q 0 (b,c))
       (fun s=>
        match s with
        | (b,c)=>
        some (.inl (b,c)))
       append_0 0 (g,false)
     else
      some (.inr (g,true)))
    (m,true)
  else
   some ([],false)
 else
  some ([],false)
noncomputable def ZgY (l_0:(List Int)) (n_1:Int):Option Bool:=
 Zp (σ:=Unit)
  (fun (i4:Nat) (a:Int) _=>
   if (a==n_1)=true then
    some (.inr true)
   else
    some (.inl ()))
  (fun _=>
   some false)
  l_0 0 ()
noncomputable def ZdB (facts_0:(List Zc)) (l_1:(List Zc)):Option (List Int):=
 Zp (σ:=(List Int))
  (fun (i16:Nat) (c:Zc) a=>
   (Yl facts_0 c).bind fun b=>
   if (decide (0≤b))=true then
    (ZgY a b).bind fun d=>
    if d=true then
     some (.inl a)
    else
     chk (a.length+1≤1073741824) <|
     some (.inl (a++[b]))
   else
    some (.inl a))
  (fun a=>
   (Zf8 a).bind fun e=>
   some e)
  l_1 0 []
noncomputable def Zcj (a_0:(List Int)) (a:(List Int)):Option Bool:=
 if (((a_0.length:Nat):Int) != ((a.length:Nat):Int))=true then
  some false
 else
  Zp (σ:=Unit)
   (fun (b:Nat) (c:Int) _=>
    (atI a ((b:Nat):Int)).bind fun d=>
    if (c != d)=true then
     some (.inr false)
    else
     some (.inl ()))
   (fun _=>
    some true)
   a_0 0 ()
noncomputable def Zb1 (a_0:Zf) (b_1:Zf):Option Bool:=
 if (a_0.for_==b_1.for_)=true then
  (Zcj a_0.inn b_1.inn).bind fun a=>
  if a=true then
   (Zcj a_0.outs b_1.outs).bind fun b=>
   some b
  else
   some false
 else
  some false
noncomputable def Zbr (l_0:(List Zf)) (r_1:Zf):Option Bool:=
 Zp (σ:=Unit)
  (fun (i6:Nat) (a:Zf) _=>
   (Zb1 a r_1).bind fun b=>
   if b=true then
    some (.inr true)
   else
    some (.inl ()))
  (fun _=>
   some false)
  l_0 0 ()
noncomputable def ZbJ (append_0:(List Zg)) (String_1:(List Zc)):Option ((List Zc) × Zt × (List Za4) × Bool):=
 (YB append_0 String_1).bind fun a=>
 if a.2=true then
  Zp (σ:=(List Zf) × (List Za4))
   (fun (i941:Nat) (u:Zc) s=>
    match s with
    | (e,f)=>
    (Yl a.1 u).bind fun v=>
    chk (e.length+1≤1073741824) <|
    chk (f.length+1≤1073741824) <|
    some (.inl ((e++[({ for_:=v,inn:=[],outs:=[] }:Zf)]),(f++[({ rule:=(⟨#[]⟩),facts:=[] }:Za4)]))))
   (fun s=>
    match s with
    | (e,f)=>
    Zp (σ:=(List Zf) × (List Za4))
     (fun (i1660:Nat) (g:Zg) s=>
      match s with
      | (i,k)=>
      (Xb g).bind fun w=>
      (Zao w a.1).bind fun x=>
      Zp (σ:=(List Zf) × (List Za4))
       (fun (i1803:Nat) (j:Zq) s=>
        match s with
        | (l,m)=>
        Zp (σ:=(List Zc))
         (fun (i1841:Nat) (o:Zl) c=>
          if (o.kind==2)=true then
           (QL o.pattern j.binding).bind fun y=>
           chk (c.length+1≤1073741824) <|
           some (.inl (c++[y.1]))
          else
           some (.inl c))
         (fun c=>
          Zp (σ:=(List Zf) × (List Za4))
           (fun (i1865:Nat) (z:Zu) s=>
            match s with
            | (b,d)=>
            (QL z.pattern j.binding).bind fun A=>
            (Yl a.1 A.1).bind fun p=>
            (ZdB a.1 j.facts).bind fun q=>
            (ZdB a.1 c).bind fun t=>
            (Zbr b ({ for_:=p,inn:=q,outs:=t }:Zf)).bind fun B=>
            if B=true then
             some (.inl (b,d))
            else
             chk (b.length+1≤1073741824) <|
             chk (d.length+1≤1073741824) <|
             some (.inl ((b++[({ for_:=p,inn:=q,outs:=t }:Zf)]),(d++[({ rule:=g.name,facts:=j.facts }:Za4)]))))
           (fun s=>
            match s with
            | (b,d)=>
            some (.inl (b,d)))
           g.thn 0 (l,m))
         g.cond 0 [])
       (fun s=>
        match s with
        | (l,m)=>
        some (.inl (l,m)))
       x 0 (i,k))
     (fun s=>
      match s with
      | (i,k)=>
      if (decide (60<((i.length:Nat):Int)))=true then
       some ([],({ nodes:=0,reasons:=[] }:Zt),[],false)
      else
       some (a.1,({ nodes:=((a.1.length:Nat):Int),reasons:=i }:Zt),k,true))
     append_0 0 (e,f))
   String_1 0 ([],[])
 else
  some ([],({ nodes:=0,reasons:=[] }:Zt),[],false)
noncomputable def QV (rules_0:(List Zg)) (base_1:(List Zc)):Option ((List Zc) × Zt × Bool):=
 (ZbJ rules_0 base_1).bind fun a=>
 some (a.1,a.2.1,a.2.2.2)
noncomputable def ZgM (d:Zt):Option (List Int):=
 chk (0≤d.nodes∧d.nodes≤1073741824) <|
 XI (σ:=(List Int) × Bool)
  (fun s=>
   match s with
   | (j,o)=>
   if o=true then
    Zp (σ:=(List Int) × Bool)
     (fun (i155:Nat) (b:Zf) s=>
      match s with
      | (a,f)=>
      chk (0≤b.for_∧b.for_<((a.length:Nat):Int)) <|
      (a[(A4 b.for_)]?).bind fun k=>
      Zp (σ:=Int)
       (fun (i173:Nat) (g:Int) e=>
        chk (0≤g∧g<((a.length:Nat):Int)) <|
        (a[(A4 g)]?).bind fun l=>
        some (.inl (if e<l then l else e)))
       (fun e=>
        Zp (σ:=Int)
         (fun (i182:Nat) (i:Int) c=>
          chk (0≤i∧i<((a.length:Nat):Int)) <|
          (a[(A4 i)]?).bind fun m=>
          some (.inl (if c<(IntKind.i64.wrap (m+1)) then (IntKind.i64.wrap (m+1)) else c)))
         (fun c=>
          if (decide (k<c))=true then
           some (.inl ((A5 a (A4 b.for_) c),true))
          else
           some (.inl (a,f)))
         b.outs 0 e)
       b.inn 0 k)
     (fun s=>
      match s with
      | (a,f)=>
      some (.inl (a,f)))
     d.reasons 0 (j,false)
   else
    some (.inr j))
  ((A9 (A4 d.nodes) 0),true)
noncomputable def Zbq (r_0:Zf) (a:(List Int)) (before_2:Int):Option Bool:=
 Zp (σ:=Unit)
  (fun (i14:Nat) (c:Int) _=>
   (atI a c).bind fun b=>
   if (decide (b<0))=true then
    some (.inr false)
   else
    if (decide (before_2≤b))=true then
     some (.inr false)
    else
     some (.inl ()))
  (fun _=>
   Zp (σ:=Unit)
    (fun (i22:Nat) (d:Int) _=>
     (atI a d).bind fun e=>
     if (decide (0≤e))=true then
      some (.inr false)
     else
      some (.inl ()))
    (fun _=>
     some true)
    r_0.outs 0 ())
  r_0.inn 0 ()
noncomputable def ZhI (d:Zt):Option (List Int):=
 (ZgM d).bind fun g=>
 chk (0≤d.nodes∧d.nodes≤1073741824) <|
 XI (σ:=(List Int) × Int × Int)
  (fun s=>
   match s with
   | (i,a,m)=>
   if (decide (a<((A4 d.nodes:Nat):Int)))=true then
    chk (0≤a∧a<((i.length:Nat):Int)) <|
    (i[(A4 a)]?).bind fun u=>
    chk (a<((g.length:Nat):Int)) <|
    (g[(A4 a)]?).bind fun o=>
    some (.inl ((A5 i (A4 a) (-1)),(IntKind.i64.wrap (a+1)),(if m<o then o else m)))
   else
    XI (σ:=(List Int) × Int × Int)
     (fun s=>
      match s with
      | (e,j,k)=>
      if (decide (k≤m))=true then
       Zp (σ:=(List Int))
        (fun (i109:Nat) (c:Zf) b=>
         chk (0≤c.for_∧c.for_<((g.length:Nat):Int)) <|
         (g[(A4 c.for_)]?).bind fun p=>
         if (p==k)=true then
          chk (c.for_<((e.length:Nat):Int)) <|
          (e[(A4 c.for_)]?).bind fun q=>
          if (decide (q<0))=true then
           (Zbq c e j).bind fun t=>
           if t=true then
            chk (b.length+1≤1073741824) <|
            some (.inl (b++[c.for_]))
           else
            some (.inl b)
          else
           some (.inl b)
         else
          some (.inl b))
        (fun b=>
         if (((b.length:Nat):Int)==0)=true then
          some (.inl (e,j,(IntKind.i64.wrap (k+1))))
         else
          Zp (σ:=(List Int))
           (fun (i120:Nat) (l:Int) f=>
            chk (0≤l∧l<((f.length:Nat):Int)) <|
            (f[(A4 l)]?).bind fun v=>
            some (.inl (A5 f (A4 l) j)))
           (fun f=>
            some (.inl (f,(IntKind.i64.wrap (j+1)),k)))
           b 0 e)
        d.reasons 0 []
      else
       some (.inr (.inr e)))
     (i,0,0))
  ((A9 (A4 d.nodes) 0),0,0)
noncomputable def Zhs (b_0:Zt):Option (List Bool):=
 (ZhI b_0).bind fun b=>
 Zp (σ:=(List Bool))
  (fun (i7:Nat) (c:Int) a=>
   chk (a.length+1≤1073741824) <|
   some (.inl (a++[(decide (0≤c))])))
  (fun a=>
   some a)
  b 0 []
noncomputable def Zec (b:(List Zc)) (b_1:Zt):Option (List Zc):=
 (Zhs b_1).bind fun c=>
 Zp (σ:=(List Zc))
  (fun (d:Nat) (e:Bool) a=>
   if e=true then
    (atI b ((d:Nat):Int)).bind fun f=>
    (YE f).bind fun g=>
    chk (a.length+1≤1073741824) <|
    some (.inl (a++[g]))
   else
    some (.inl a))
  (fun a=>
   some a)
  c 0 []
noncomputable def Zbi (rules_0:(List Zg)) (base_1:(List Zc)):Option ((List Zc) × Bool):=
 (QV rules_0 base_1).bind fun a=>
 if a.2.2=true then
  (Zec a.1 a.2.1).bind fun b=>
  some (b,true)
 else
  some ([],false)
noncomputable def ZaQ (n_0:Int):Option ByteArray:=
 if (n_0==(-9223372036854775808))=true then
  some (⟨#[45,57,50,50,51,51,55,50,48,51,54,56,53,52,55,55,53,56,48,56]⟩)
 else
  if (decide (n_0<0))=true then
   none
  else
   XI (σ:=Int × ByteArray)
    (fun s=>
     match s with
     | (a,b)=>
     chk ((Xn [(IntKind.u8.wrap (IntKind.i64.wrap (48+(Int.tmod a 10))))]).size+b.size≤9223372036854775807) <|
     if ((IntKind.i64.wrap (Int.tdiv a 10))==0)=true then
      some (.inr ((Xn [(IntKind.u8.wrap (IntKind.i64.wrap (48+(Int.tmod a 10))))])++b))
     else
      some (.inl ((IntKind.i64.wrap (Int.tdiv a 10)),((Xn [(IntKind.u8.wrap (IntKind.i64.wrap (48+(Int.tmod a 10))))])++b))))
    (n_0,⟨#[]⟩)
noncomputable def Zbl (n_0:Int):Option ByteArray:=
 if (n_0==(-9223372036854775808))=true then
  some (⟨#[45,57,50,50,51,51,55,50,48,51,54,56,53,52,55,55,53,56,48,56]⟩)
 else
  if (decide (n_0<0))=true then
   (ZaQ (IntKind.i64.wrap (0 - n_0))).bind fun c=>
   chk ((⟨#[45]⟩:ByteArray).size+c.size≤9223372036854775807) <|
   some ((⟨#[45]⟩:ByteArray)++c)
  else
   XI (σ:=Int × ByteArray)
    (fun s=>
     match s with
     | (a,b)=>
     chk ((Xn [(IntKind.u8.wrap (IntKind.i64.wrap (48+(Int.tmod a 10))))]).size+b.size≤9223372036854775807) <|
     if ((IntKind.i64.wrap (Int.tdiv a 10))==0)=true then
      some (.inr ((Xn [(IntKind.u8.wrap (IntKind.i64.wrap (48+(Int.tmod a 10))))])++b))
     else
      some (.inl ((IntKind.i64.wrap (Int.tdiv a 10)),((Xn [(IntKind.u8.wrap (IntKind.i64.wrap (48+(Int.tmod a 10))))])++b))))
    (n_0,⟨#[]⟩)
noncomputable def Qr (x_0:Int) (least_1:Int) (most_2:Int):Option Bool:=
 if (decide (least_1≤x_0))=true then
  some (decide (x_0≤most_2))
 else
  some false
noncomputable def Zag (s_0:ByteArray):Option (Int × Bool):=
 (Qr ((s_0.size:Nat):Int) 1 4).bind fun c=>
 if c=true then
  Zp (σ:=Int)
   (fun (i7:Nat) (b:UInt8) a=>
    if (decide (((b.toNat:Nat):Int)<48))=true then
     some (.inr (0,false))
    else
     if (decide (57<((b.toNat:Nat):Int)))=true then
      some (.inr (0,false))
     else
      some (.inl (IntKind.i64.wrap ((IntKind.i64.wrap (10 * a))+IntKind.i64.wrap (IntKind.u8.wrap (((b.toNat:Nat):Int) - 48))))))
   (fun a=>
    (Zbl a).bind fun d=>
    if (sEq d s_0)=true then
     some (a,true)
    else
     some (0,false))
   s_0.data.toList 0 0
 else
  some (0,false)
noncomputable def QT (s_0:ByteArray):Option Bool:=
 Zp (σ:=Unit)
  (fun (i9:Nat) (a:UInt8) _=>
   (Qr (IntKind.i64.wrap ((a.toNat:Nat):Int)) 97 122).bind fun b=>
   if b=true then
    some (.inl ())
   else
    (Qr (IntKind.i64.wrap ((a.toNat:Nat):Int)) 48 57).bind fun c=>
    if c=true then
     some (.inl ())
    else
     some (.inr false))
  (fun _=>
   (Qr ((s_0.size:Nat):Int) 1 8).bind fun d=>
   some d)
  s_0.data.toList 0 ()
noncomputable def ZdM (s_0:ByteArray):Option Bool:=
 (QT s_0).bind fun a=>
 if a=true then
  (sAt s_0 0).bind fun b=>
  (Qr (IntKind.i64.wrap ((b.toNat:Nat):Int)) 97 122).bind fun c=>
  some c
 else
  some false
noncomputable def Za3 (a:ByteArray):Option Bool:=
 if (decide (1<((a.size:Nat):Int)))=true then
  (sAt a 0).bind fun b=>
  if (((b.toNat:Nat):Int)==63)=true then
   chk (0≤1∧1≤((a.size:Nat):Int)) <|
   (QT (a.extract (A4 1) a.size)).bind fun c=>
   some c
  else
   some false
 else
  some false
noncomputable def Zaq (s_0:ByteArray):Option Bool:=
 (QT s_0).bind fun a=>
 if a=true then
  some true
 else
  (Za3 s_0).bind fun b=>
  some b
noncomputable def Xq (p_0:Zx):Option Bool:=
 Zp (σ:=Unit)
  (fun (i7:Nat) (a:ByteArray) _=>
   (Zaq a).bind fun b=>
   if b=true then
    some (.inl ())
   else
    some (.inr false))
  (fun _=>
   (ZdM p_0.rel).bind fun c=>
   if c=true then
    some (decide (((p_0.args.length:Nat):Int)≤3))
   else
    some false)
  p_0.args 0 ()
noncomputable def Zej (x_0:Zl):Option Bool:=
 if (x_0.kind==1)=true then
  (Xq x_0.pattern).bind fun a=>
  if a=true then
   if (sEq x_0.left ⟨#[]⟩)=true then
    some (sEq x_0.right ⟨#[]⟩)
   else
    some false
  else
   some false
 else
  if (x_0.kind==2)=true then
   (Xq x_0.pattern).bind fun b=>
   if b=true then
    if (sEq x_0.left ⟨#[]⟩)=true then
     some (sEq x_0.right ⟨#[]⟩)
    else
     some false
   else
    some false
  else
   if (x_0.kind==3)=true then
    if (sEq x_0.pattern.rel ⟨#[]⟩)=true then
     if (((x_0.pattern.args.length:Nat):Int)==0)=true then
      (Zaq x_0.left).bind fun c=>
      if c=true then
       (Zaq x_0.right).bind fun d=>
       some d
      else
       some false
     else
      some false
    else
     some false
   else
    if (x_0.kind==4)=true then
     if (sEq x_0.pattern.rel ⟨#[]⟩)=true then
      if (((x_0.pattern.args.length:Nat):Int)==0)=true then
       (Zaq x_0.left).bind fun e=>
       if e=true then
        (Zaq x_0.right).bind fun f=>
        some f
       else
        some false
      else
       some false
     else
      some false
    else
     if (x_0.kind==5)=true then
      if (sEq x_0.pattern.rel ⟨#[]⟩)=true then
       if (((x_0.pattern.args.length:Nat):Int)==0)=true then
        (Zaq x_0.left).bind fun g=>
        if g=true then
         (Zaq x_0.right).bind fun i=>
         some i
        else
         some false
       else
        some false
      else
       some false
     else
      some false
noncomputable def Qd (l_0:(List ByteArray)) (s_1:ByteArray):Option (List ByteArray):=
 Zp (σ:=(List ByteArray) × Bool)
  (fun (i8:Nat) (b:ByteArray) s=>
   match s with
   | (a,c)=>
   if c=true then
    chk (a.length+1≤1073741824) <|
    some (.inl ((a++[b]),true))
   else
    if (sLt b s_1)=true then
     chk (a.length+1≤1073741824) <|
     some (.inl ((a++[b]),false))
    else
     if (sEq b s_1)=true then
      chk (a.length+1≤1073741824) <|
      some (.inl ((a++[b]),true))
     else
      chk (a.length+1≤1073741824) <|
      chk (a.length+1+1≤1073741824) <|
      some (.inl (((a++[s_1])++[b]),true)))
  (fun s=>
   match s with
   | (a,c)=>
   if c=true then
    some a
   else
    chk (a.length+1≤1073741824) <|
    some (a++[s_1]))
  l_0 0 ([],false)
noncomputable def Zb5 (p_0:Zx):Option (List ByteArray):=
 Zp (σ:=(List ByteArray))
  (fun (i9:Nat) (b:ByteArray) a=>
   (Za3 b).bind fun c=>
   if c=true then
    (Qd a b).bind fun d=>
    some (.inl d)
   else
    some (.inl a))
  (fun a=>
   some a)
  p_0.args 0 []
noncomputable def QH (r_0:Zg) (n_1:Int):Option (List ByteArray):=
 Zp (σ:=(List ByteArray))
  (fun (i25:Nat) (c:Zl) a=>
   if (decide (((i25:Nat):Int)<n_1))=true then
    if (c.kind==1)=true then
     (Zb5 c.pattern).bind fun d=>
     Zp (σ:=(List ByteArray))
      (fun (i34:Nat) (e:ByteArray) b=>
       (Qd b e).bind fun f=>
       some (.inl f))
      (fun b=>
       some (.inl b))
      d 0 a
    else
     some (.inl a)
   else
    some (.inr a))
  (fun a=>
   some a)
  r_0.cond 0 []
noncomputable def X3 (x_0:Zl):Option (List ByteArray):=
 (Zb5 x_0.pattern).bind fun a=>
 (Za3 x_0.left).bind fun c=>
 if c=true then
  (Qd a x_0.left).bind fun b=>
  (Za3 x_0.right).bind fun d=>
  if d=true then
   (Qd b x_0.right).bind fun e=>
   some e
  else
   some b
 else
  (Za3 x_0.right).bind fun f=>
  if f=true then
   (Qd a x_0.right).bind fun g=>
   some g
  else
   some a
noncomputable def ZW (l_0:(List ByteArray)) (s_1:ByteArray):Option Bool:=
 Zp (σ:=Unit)
  (fun (i4:Nat) (a:ByteArray) _=>
   if (sEq a s_1)=true then
    some (.inr true)
   else
    some (.inl ()))
  (fun _=>
   some false)
  l_0 0 ()
noncomputable def ZbV (x_0:Zl):Option Bool:=
 (Zej x_0).bind fun a=>
 if a=true then
  some (decide (3≤x_0.kind))
 else
  some false
noncomputable def X5 (r_0:Zg) (i_1:Int) (v_2:ByteArray):Option Bool:=
 Zp (σ:=Unit)
  (fun (i19:Nat) (a:Zl) _=>
   if (((i19:Nat):Int) != i_1)=true then
    (X3 a).bind fun b=>
    (ZW b v_2).bind fun c=>
    if c=true then
     some (.inr true)
    else
     some (.inl ())
   else
    some (.inl ()))
  (fun _=>
   Zp (σ:=Unit)
    (fun (i30:Nat) (d:Zu) _=>
     (Zb5 d.pattern).bind fun e=>
     (ZW e v_2).bind fun f=>
     if f=true then
      some (.inr true)
     else
      some (.inl ()))
    (fun _=>
     some false)
    r_0.thn 0 ())
  r_0.cond 0 ()
noncomputable def Zer (a_0:Zu):Option Bool:=
 if (a_0.kind==1)=true then
  (Xq a_0.pattern).bind fun a=>
  some a
 else
  if (a_0.kind==2)=true then
   (Xq a_0.pattern).bind fun b=>
   some b
  else
   if (a_0.kind==3)=true then
    if (sEq a_0.pattern.rel ⟨#[]⟩)=true then
     some (((a_0.pattern.args.length:Nat):Int)==0)
    else
     some false
   else
    some false
noncomputable def Zed (r_0:Zg):Option (List ByteArray):=
 Zp (σ:=(List ByteArray))
  (fun (i61:Nat) (e:Zl) a=>
   (X3 e).bind fun f=>
   Zp (σ:=(List ByteArray))
    (fun (i70:Nat) (g:ByteArray) b=>
     (Qd b g).bind fun i=>
     some (.inl i))
    (fun b=>
     some (.inl b))
    f 0 a)
  (fun a=>
   Zp (σ:=(List ByteArray))
    (fun (i97:Nat) (j:Zu) c=>
     (Zb5 j.pattern).bind fun k=>
     Zp (σ:=(List ByteArray))
      (fun (i106:Nat) (l:ByteArray) d=>
       (Qd d l).bind fun m=>
       some (.inl m))
      (fun d=>
       some (.inl d))
      k 0 c)
    (fun c=>
     some c)
    r_0.thn 0 a)
  r_0.cond 0 []
noncomputable def ZcZ (append_0:Zg):Option Bool:=
 (ZdM append_0.name).bind fun g=>
 if g=true then
  (Qr append_0.priority 0 9).bind fun i=>
  if i=true then
   (Qr ((append_0.cond.length:Nat):Int) 1 4).bind fun j=>
   if j=true then
    (Qr ((append_0.thn.length:Nat):Int) 1 2).bind fun k=>
    if k=true then
     (QH append_0 ((append_0.cond.length:Nat):Int)).bind fun l=>
     Zp (σ:=Unit)
      (fun (i96:Nat) (a:Zl) _=>
       (Zej a).bind fun m=>
       if m=true then
        if (((i96:Nat):Int)==0)=true then
         if (a.kind != 1)=true then
          some (.inr false)
         else
          (QH append_0 ((i96:Nat):Int)).bind fun o=>
          (X3 a).bind fun p=>
          Zp (σ:=Unit)
           (fun (i110:Nat) (b:ByteArray) _=>
            (ZW o b).bind fun c=>
            (ZbV a).bind fun q=>
            if q=true then
             if c=true then
              if (a.kind==2)=true then
               some (.inl ())
              else
               some (.inl ())
             else
              some (.inr (.inr false))
            else
             if (a.kind==2)=true then
              if c=true then
               some (.inl ())
              else
               (X5 append_0 ((i96:Nat):Int) b).bind fun t=>
               if t=true then
                some (.inr (.inr false))
               else
                some (.inl ())
             else
              some (.inl ()))
           (fun _=>
            some (.inl ()))
           p 0 ()
        else
         (QH append_0 ((i96:Nat):Int)).bind fun u=>
         (X3 a).bind fun v=>
         Zp (σ:=Unit)
          (fun (i126:Nat) (d:ByteArray) _=>
           (ZW u d).bind fun e=>
           (ZbV a).bind fun w=>
           if w=true then
            if e=true then
             if (a.kind==2)=true then
              some (.inl ())
             else
              some (.inl ())
            else
             some (.inr (.inr false))
           else
            if (a.kind==2)=true then
             if e=true then
              some (.inl ())
             else
              (X5 append_0 ((i96:Nat):Int) d).bind fun x=>
              if x=true then
               some (.inr (.inr false))
              else
               some (.inl ())
            else
             some (.inl ()))
          (fun _=>
           some (.inl ()))
          v 0 ()
       else
        some (.inr false))
      (fun _=>
       Zp (σ:=Unit)
        (fun (i155:Nat) (f:Zu) _=>
         (Zer f).bind fun y=>
         if y=true then
          (Zb5 f.pattern).bind fun z=>
          Zp (σ:=Unit)
           (fun (i164:Nat) (A:ByteArray) _=>
            (ZW l A).bind fun B=>
            if B=true then
             some (.inl ())
            else
             some (.inr (.inr false)))
           (fun _=>
            some (.inl ()))
           z 0 ()
         else
          some (.inr false))
        (fun _=>
         (Zed append_0).bind fun C=>
         some (decide (((C.length:Nat):Int)≤6)))
        append_0.thn 0 ())
      append_0.cond 0 ()
    else
     some false
   else
    some false
  else
   some false
 else
  some false
noncomputable def Zh8 (a:ByteArray) (b:ByteArray):Option Int:=
 if (sLt a b)=true then
  some (-1)
 else
  if (sLt a b||sEq a b)=true then
   some 0
  else
   some 1
noncomputable def Xz (a_0:ByteArray) (b_1:ByteArray):Option Int:=
 (Zag a_0).bind fun b=>
 (Zag b_1).bind fun a=>
 if b.2=true then
  if a.2=true then
   if (decide (b.1<a.1))=true then
    some (-1)
   else
    if (decide (a.1<b.1))=true then
     some 1
    else
     some 0
  else
   some (-1)
 else
  if a.2=true then
   some 1
  else
   (Zh8 a_0 b_1).bind fun c=>
   some c
noncomputable def Xw (a_0:Zc) (a:Zc):Option Int:=
 if (sEq a_0.rel a.rel)=true then
  Zp (σ:=Unit)
   (fun (b:Nat) (d:ByteArray) _=>
    if (decide (((b:Nat):Int)<((a.args.length:Nat):Int)))=true then
     (atI a.args ((b:Nat):Int)).bind fun e=>
     (Xz d e).bind fun c=>
     if (c != 0)=true then
      some (.inr c)
     else
      some (.inl ())
    else
     if (decide (((a_0.args.length:Nat):Int)<((a.args.length:Nat):Int)))=true then
      some (.inr (-1))
     else
      if (decide (((a.args.length:Nat):Int)<((a_0.args.length:Nat):Int)))=true then
       some (.inr 1)
      else
       some (.inr 0))
   (fun _=>
    if (decide (((a_0.args.length:Nat):Int)<((a.args.length:Nat):Int)))=true then
     some (-1)
    else
     if (decide (((a.args.length:Nat):Int)<((a_0.args.length:Nat):Int)))=true then
      some 1
     else
      some 0)
   a_0.args 0 ()
 else
  (Zh8 a_0.rel a.rel).bind fun f=>
  some f
noncomputable def ZfK (l_0:(List ByteArray)):Option (List ByteArray):=
 chk (l_0.length≤1073741824) <|
 some l_0
noncomputable def XE (f_0:Zc):Option Zc:=
 (ZfK f_0.args).bind fun a=>
 some ({ rel:=f_0.rel,args:=a }:Zc)
noncomputable def ZcF (l_0:(List Zc)) (f_1:Zc):Option (List Zc):=
 Zp (σ:=(List Zc) × Bool)
  (fun (i21:Nat) (b:Zc) s=>
   match s with
   | (a,c)=>
   if c=true then
    (XE b).bind fun d=>
    chk (a.length+1≤1073741824) <|
    some (.inl ((a++[d]),true))
   else
    (Xw b f_1).bind fun e=>
    if (decide (0≤e))=true then
     (Xw b f_1).bind fun f=>
     if (decide (0<f))=true then
      (XE f_1).bind fun g=>
      chk (a.length+1≤1073741824) <|
      (XE b).bind fun i=>
      chk (a.length+1+1≤1073741824) <|
      some (.inl (((a++[g])++[i]),true))
     else
      (XE b).bind fun j=>
      chk (a.length+1≤1073741824) <|
      some (.inl ((a++[j]),true))
    else
     (XE b).bind fun k=>
     chk (a.length+1≤1073741824) <|
     some (.inl ((a++[k]),false)))
  (fun s=>
   match s with
   | (a,c)=>
   if c=true then
    some a
   else
    (XE f_1).bind fun l=>
    chk (a.length+1≤1073741824) <|
    some (a++[l]))
  l_0 0 ([],false)
noncomputable def ZfR (f_0:Zc):Option Bool:=
 Zp (σ:=Unit)
  (fun (i7:Nat) (a:ByteArray) _=>
   (QT a).bind fun b=>
   if b=true then
    some (.inl ())
   else
    some (.inr false))
  (fun _=>
   (ZdM f_0.rel).bind fun c=>
   if c=true then
    some (decide (((f_0.args.length:Nat):Int)≤3))
   else
    some false)
  f_0.args 0 ()
noncomputable def Zcb (a:(List Zc)):Option Bool:=
 Zp (σ:=Unit)
  (fun (b:Nat) (c:Zc) _=>
   (ZfR c).bind fun d=>
   if d=true then
    if (decide (0<((b:Nat):Int)))=true then
     (atI a (IntKind.i64.wrap (((b:Nat):Int) - 1))).bind fun e=>
     (Xw e c).bind fun f=>
     if (decide (0≤f))=true then
      some (.inr false)
     else
      some (.inl ())
    else
     some (.inl ())
   else
    some (.inr false))
  (fun _=>
   some (decide (((a.length:Nat):Int)≤24)))
  a 0 ()
noncomputable def ZaS (b_0:(List Zi)):Option (List Zi):=
 chk (b_0.length≤1073741824) <|
 some b_0
noncomputable def XU (a:(List Zi)):Option Bool:=
 Zp (σ:=Unit)
  (fun (c:Nat) (b:Zi) _=>
   (Za3 b.var).bind fun d=>
   if d=true then
    (QT b.value).bind fun e=>
    if e=true then
     if (decide (0<((c:Nat):Int)))=true then
      (atI a (IntKind.i64.wrap (((c:Nat):Int) - 1))).bind fun f=>
      if (sLt f.var b.var)=true then
       some (.inl ())
      else
       some (.inr false)
     else
      some (.inl ())
    else
     some (.inr false)
   else
    some (.inr false))
  (fun _=>
   some (decide (((a.length:Nat):Int)≤6)))
  a 0 ()
noncomputable def Zbj (b_0:(List Zi)) (term_1:ByteArray):Option (ByteArray × Bool):=
 (QT term_1).bind fun b=>
 if b=true then
  some (term_1,true)
 else
  Zp (σ:=Unit)
   (fun (i7:Nat) (a:Zi) _=>
    if (sEq a.var term_1)=true then
     (Za3 term_1).bind fun c=>
     if c=true then
      some (.inr (a.value,true))
     else
      some (.inl ())
    else
     some (.inl ()))
   (fun _=>
    some ((⟨#[]⟩),false))
   b_0 0 ()
noncomputable def ZjO (b_0:(List Zi)) (c:ByteArray) (value_2:ByteArray):Option (List Zi):=
 Zp (σ:=(List Zi) × Bool)
  (fun (i8:Nat) (b:Zi) s=>
   match s with
   | (a,d)=>
   if d=true then
    chk (a.length+1≤1073741824) <|
    some (.inl ((a++[b]),true))
   else
    if (sLt b.var c||sEq b.var c)=true then
     chk (a.length+1≤1073741824) <|
     some (.inl ((a++[b]),false))
    else
     chk (a.length+1≤1073741824) <|
     chk (a.length+1+1≤1073741824) <|
     some (.inl (((a++[({ var:=c,value:=value_2 }:Zi)])++[b]),true)))
  (fun s=>
   match s with
   | (a,d)=>
   if d=true then
    some a
   else
    chk (a.length+1≤1073741824) <|
    some (a++[({ var:=c,value:=value_2 }:Zi)]))
  b_0 0 ([],false)
noncomputable def Zhm (b_0:(List Zi)) (v_1:ByteArray) (value_2:ByteArray):Option ((List Zi) × Bool):=
 (XU b_0).bind fun b=>
 if b=true then
  (Za3 v_1).bind fun c=>
  if c=true then
   (QT value_2).bind fun d=>
   if d=true then
    (Zbj b_0 v_1).bind fun a=>
    if a.2=true then
     if (sEq a.1 value_2)=true then
      (ZaS b_0).bind fun e=>
      some (e,true)
     else
      some ([],false)
    else
     if (((b_0.length:Nat):Int)==6)=true then
      some ([],false)
     else
      (ZjO b_0 v_1 value_2).bind fun f=>
      some (f,true)
   else
    some ([],false)
  else
   some ([],false)
 else
  some ([],false)
noncomputable def Zbp (append_0:Zx) (a:Zc) (a_2:(List Zi)):Option ((List Zi) × Bool):=
 (Xq append_0).bind fun f=>
 if f=true then
  (ZfR a).bind fun g=>
  if g=true then
   (XU a_2).bind fun i=>
   if i=true then
    if (sEq append_0.rel a.rel)=true then
     if (((append_0.args.length:Nat):Int) != ((a.args.length:Nat):Int))=true then
      some ([],false)
     else
      (ZaS a_2).bind fun j=>
      Zp (σ:=(List Zi))
       (fun (d:Nat) (c:ByteArray) b=>
        (QT c).bind fun k=>
        if k=true then
         (atI a.args ((d:Nat):Int)).bind fun l=>
         if (sEq c l)=true then
          some (.inl b)
         else
          some (.inr ([],false))
        else
         (atI a.args ((d:Nat):Int)).bind fun m=>
         (Zhm b c m).bind fun e=>
         if e.2=true then
          some (.inl e.1)
         else
          some (.inr ([],false)))
       (fun b=>
        some (b,true))
       append_0.args 0 j
    else
     some ([],false)
   else
    some ([],false)
  else
   some ([],false)
 else
  some ([],false)
noncomputable def Zbg (l_0:(List Zc)):Option (List Zc):=
 Zp (σ:=(List Zc))
  (fun (i7:Nat) (b:Zc) a=>
   (XE b).bind fun c=>
   chk (a.length+1≤1073741824) <|
   some (.inl (a++[c])))
  (fun a=>
   some a)
  l_0 0 []
noncomputable def XQ (p_0:Zx) (b_1:(List Zi)) (facts_2:(List Zc)):Option (List Zc):=
 Zp (σ:=(List Zc))
  (fun (i9:Nat) (b:Zc) a=>
   (Zbp p_0 b b_1).bind fun c=>
   if c.2=true then
    (XE b).bind fun d=>
    chk (a.length+1≤1073741824) <|
    some (.inl (a++[d]))
   else
    some (.inl a))
  (fun a=>
   some a)
  facts_2 0 []
noncomputable def Zd3 (s_0:ByteArray):Option Bool:=
 (Zag s_0).bind fun a=>
 some a.2
noncomputable def ZcI (x_0:Zl) (b_1:(List Zi)):Option Bool:=
 (ZbV x_0).bind fun c=>
 if c=true then
  (XU b_1).bind fun d=>
  if d=true then
   (Zbj b_1 x_0.left).bind fun a=>
   (Zbj b_1 x_0.right).bind fun b=>
   if a.2=true then
    if b.2=true then
     if (x_0.kind==3)=true then
      some (sEq a.1 b.1)
     else
      if (x_0.kind==4)=true then
       some (!(sEq a.1 b.1))
      else
       (Zd3 a.1).bind fun e=>
       if e=true then
        (Zd3 b.1).bind fun f=>
        if f=true then
         (Xz a.1 b.1).bind fun g=>
         some (decide (g<0))
        else
         some false
       else
        some false
    else
     some false
   else
    some false
  else
   some false
 else
  some false
noncomputable def ZcP (x_0:Zl) (a:(List Zi)) (b:(List Zc)):Option Bool:=
 (Zej x_0).bind fun c=>
 if c=true then
  (XU a).bind fun d=>
  if d=true then
   if (x_0.kind==1)=true then
    (XQ x_0.pattern a b).bind fun e=>
    some (decide (0<((e.length:Nat):Int)))
   else
    if (x_0.kind==2)=true then
     (XQ x_0.pattern a b).bind fun f=>
     some (((f.length:Nat):Int)==0)
    else
     (ZcI x_0 a).bind fun g=>
     some g
  else
   some false
 else
  some false
noncomputable def ZgP (t_0:Zq):Option Zq:=
 (Zbg t_0.facts).bind fun a=>
 (ZaS t_0.binding).bind fun b=>
 some ({ facts:=a,binding:=b }:Zq)
noncomputable def Zhz (append_0:(List Zq)) (String_1:Zl) (a_2:(List Zc)):Option (List Zq):=
 Zp (σ:=(List Zq))
  (fun (i45:Nat) (c:Zq) a=>
   if (String_1.kind != 1)=true then
    (ZcP String_1 c.binding a_2).bind fun g=>
    if g=true then
     (ZgP c).bind fun i=>
     chk (a.length+1≤1073741824) <|
     some (.inl (a++[i]))
    else
     some (.inl a)
   else
    Zp (σ:=(List Zq))
     (fun (i59:Nat) (d:Zc) b=>
      (Zbp String_1.pattern d c.binding).bind fun e=>
      if e.2=true then
       (Zbg c.facts).bind fun f=>
       (XE d).bind fun j=>
       chk (f.length+1≤1073741824) <|
       chk (b.length+1≤1073741824) <|
       some (.inl (b++[({ facts:=(f++[j]),binding:=e.1 }:Zq)]))
      else
       some (.inl b))
     (fun b=>
      some (.inl b))
     a_2 0 a)
  (fun a=>
   some a)
  append_0 0 []
noncomputable def Zaa (l_0:(List Zl)) (facts_1:(List Zc)):Option (List Zq):=
 Zp (σ:=(List Zq))
  (fun (i7:Nat) (b:Zl) a=>
   (Zhz a b facts_1).bind fun c=>
   some (.inl c))
  (fun a=>
   some a)
  l_0 0 ([({ facts:=[],binding:=[] }:Zq)])
noncomputable def XA (p_0:Zx) (b_1:(List Zi)):Option (Zc × Bool):=
 (Xq p_0).bind fun c=>
 if c=true then
  (XU b_1).bind fun d=>
  if d=true then
   Zp (σ:=(List ByteArray))
    (fun (i11:Nat) (e:ByteArray) a=>
     (Zbj b_1 e).bind fun b=>
     if b.2=true then
      chk (a.length+1≤1073741824) <|
      some (.inl (a++[b.1]))
     else
      some (.inr (({ rel:=(⟨#[]⟩),args:=[] }:Zc),false)))
    (fun a=>
     some (({ rel:=p_0.rel,args:=a }:Zc),true))
    p_0.args 0 []
  else
   some (({ rel:=(⟨#[]⟩),args:=[] }:Zc),false)
 else
  some (({ rel:=(⟨#[]⟩),args:=[] }:Zc),false)
noncomputable def X8 (r_0:Zg):Option (List Zl):=
 Zp (σ:=(List Zl))
  (fun (i6:Nat) (b:Zl) a=>
   if (b.kind != 2)=true then
    chk (a.length+1≤1073741824) <|
    some (.inl (a++[b]))
   else
    some (.inl a))
  (fun a=>
   some a)
  r_0.cond 0 []
noncomputable def Zd6 (a_0:(List ByteArray)) (b_1:(List ByteArray)):Option Bool:=
 Zp (σ:=Unit)
  (fun (i6:Nat) (a:ByteArray) _=>
   (ZW b_1 a).bind fun b=>
   if b=true then
    some (.inl ())
   else
    some (.inr false))
  (fun _=>
   some true)
  a_0 0 ()
noncomputable def Zc1 (r_0:Zg):Option Bool:=
 (ZcZ r_0).bind fun b=>
 if b=true then
  Zp (σ:=Unit)
   (fun (i16:Nat) (a:Zl) _=>
    if (a.kind==2)=true then
     (X3 a).bind fun c=>
     (QH r_0 ((i16:Nat):Int)).bind fun d=>
     (Zd6 c d).bind fun e=>
     if e=true then
      some (.inl ())
     else
      some (.inr false)
    else
     some (.inl ()))
   (fun _=>
    Zp (σ:=Unit)
     (fun (i24:Nat) (f:Zu) _=>
      if (f.kind != 1)=true then
       some (.inr false)
      else
       some (.inl ()))
     (fun _=>
      some true)
     r_0.thn 0 ())
   r_0.cond 0 ()
 else
  some false
noncomputable def Q9 (r_0:Zg):Option (List ByteArray):=
 Zp (σ:=(List ByteArray))
  (fun (i9:Nat) (b:Zu) a=>
   if (b.kind==1)=true then
    (Qd a b.pattern.rel).bind fun c=>
    some (.inl c)
   else
    if (b.kind==2)=true then
     (Qd a b.pattern.rel).bind fun d=>
     some (.inl d)
    else
     some (.inl a))
  (fun a=>
   some a)
  r_0.thn 0 []
noncomputable def Zct (r_0:Zg):Option (List ByteArray):=
 Zp (σ:=(List ByteArray))
  (fun (i9:Nat) (b:Zl) a=>
   if (b.kind==1)=true then
    (Qd a b.pattern.rel).bind fun c=>
    some (.inl c)
   else
    if (b.kind==2)=true then
     (Qd a b.pattern.rel).bind fun d=>
     some (.inl d)
    else
     some (.inl a))
  (fun a=>
   some a)
  r_0.cond 0 []
noncomputable def Zb2 (append_0:(List Zg)) (String_1:ByteArray) (a_2:ByteArray):Option Bool:=
 XI (σ:=(List ByteArray) × Int)
  (fun s=>
   match s with
   | (d,c)=>
   if (decide (c<((d.length:Nat):Int)))=true then
    Zp (σ:=(List ByteArray))
     (fun (i93:Nat) (e:Zg) a=>
      (Q9 e).bind fun i=>
      chk (0≤c∧c<((a.length:Nat):Int)) <|
      (a[(A4 c)]?).bind fun j=>
      (ZW i j).bind fun k=>
      if k=true then
       (Zct e).bind fun f=>
       (ZW f a_2).bind fun l=>
       if l=true then
        some (.inr (.inr true))
       else
        Zp (σ:=(List ByteArray))
         (fun (i108:Nat) (g:ByteArray) b=>
          (ZW b g).bind fun m=>
          if m=true then
           some (.inl b)
          else
           chk (b.length+1≤1073741824) <|
           some (.inl (b++[g])))
         (fun b=>
          some (.inl b))
         f 0 a
      else
       some (.inl a))
     (fun a=>
      some (.inl (a,(IntKind.i64.wrap (c+1)))))
     append_0 0 d
   else
    some (.inr false))
  ([String_1],0)
noncomputable def Zga (l_0:(List Zg)) (name_1:ByteArray):Option Int:=
 Zp (σ:=Unit)
  (fun (i4:Nat) (a:Zg) _=>
   if (sEq a.name name_1)=true then
    some (.inr ((i4:Nat):Int))
   else
    some (.inl ()))
  (fun _=>
   some (-1))
  l_0 0 ()
noncomputable def Zd4 (l_0:(List Zg)):Option Bool:=
 Zp (σ:=Unit)
  (fun (i8:Nat) (a:Zg) _=>
   (ZcZ a).bind fun b=>
   if b=true then
    (Zga l_0 a.name).bind fun c=>
    if (c != ((i8:Nat):Int))=true then
     some (.inr false)
    else
     some (.inl ())
   else
    some (.inr false))
  (fun _=>
   some (decide (((l_0.length:Nat):Int)≤6)))
  l_0 0 ()
noncomputable def Zb0 (append_0:(List Zg)):Option Bool:=
 Zp (σ:=Unit)
  (fun (i67:Nat) (a:Zg) _=>
   (Zc1 a).bind fun d=>
   if d=true then
    (Q9 a).bind fun e=>
    Zp (σ:=Unit)
     (fun (i90:Nat) (b:Zl) _=>
      Zp (σ:=Unit)
       (fun (i97:Nat) (c:ByteArray) _=>
        if (b.kind==2)=true then
         if (sEq b.pattern.rel c)=true then
          some (.inr (.inr (.inr false)))
         else
          (Zb2 append_0 b.pattern.rel c).bind fun f=>
          if f=true then
           some (.inr (.inr (.inr false)))
          else
           some (.inl ())
        else
         some (.inr (.inl ())))
       (fun _=>
        some (.inl ()))
       e 0 ())
     (fun _=>
      some (.inl ()))
     a.cond 0 ()
   else
    some (.inr false))
  (fun _=>
   (Zd4 append_0).bind fun g=>
   some g)
  append_0 0 ()
noncomputable def YA (append_0:(List Zg)) (String_1:(List Zc)):Option ((List Zc) × Bool):=
 (Zb0 append_0).bind fun f=>
 if f=true then
  (Zcb String_1).bind fun g=>
  if g=true then
   (Zbg String_1).bind fun i=>
   XI (σ:=(List Zc) × Bool)
    (fun s=>
     match s with
     | (a,j)=>
     if j=true then
      Zp (σ:=(List Zc))
       (fun (i311:Nat) (e:Zg) b=>
        (X8 e).bind fun k=>
        (Zaa k a).bind fun l=>
        Zp (σ:=(List Zc))
         (fun (i355:Nat) (m:Zq) c=>
          Zp (σ:=(List Zc))
           (fun (i368:Nat) (o:Zu) d=>
            (XA o.pattern m.binding).bind fun p=>
            (ZcF d p.1).bind fun q=>
            some (.inl q))
           (fun d=>
            some (.inl d))
           e.thn 0 c)
         (fun c=>
          if (decide (24<((c.length:Nat):Int)))=true then
           some (.inr (.inr ([],false)))
          else
           some (.inl c))
         l 0 b)
       (fun b=>
        some (.inl (b,(decide (((a.length:Nat):Int)<((b.length:Nat):Int))))))
       append_0 0 a
     else
      some (.inr (a,true)))
    (i,true)
  else
   some ([],false)
 else
  some ([],false)
noncomputable def Ze7 (a_0:(List ByteArray)) (a:(List ByteArray)):Option Bool:=
 if (((a_0.length:Nat):Int) != ((a.length:Nat):Int))=true then
  some false
 else
  Zp (σ:=Unit)
   (fun (b:Nat) (c:ByteArray) _=>
    (atI a ((b:Nat):Int)).bind fun d=>
    if (sEq c d)=true then
     some (.inl ())
    else
     some (.inr false))
   (fun _=>
    some true)
   a_0 0 ()
noncomputable def Zm2 (a_0:Zc) (b_1:Zc):Option Bool:=
 if (sEq a_0.rel b_1.rel)=true then
  (Ze7 a_0.args b_1.args).bind fun a=>
  some a
 else
  some false
noncomputable def Zbb (l_0:(List Zc)) (f_1:Zc):Option Int:=
 Zp (σ:=Unit)
  (fun (i6:Nat) (a:Zc) _=>
   (Zm2 a f_1).bind fun b=>
   if b=true then
    some (.inr ((i6:Nat):Int))
   else
    some (.inl ()))
  (fun _=>
   some (-1))
  l_0 0 ()
noncomputable def ZhE (l_0:(List Int)) (x_1:Int):Option (List Int):=
 Zp (σ:=(List Int) × Bool)
  (fun (i7:Nat) (b:Int) s=>
   match s with
   | (a,c)=>
   if c=true then
    chk (a.length+1≤1073741824) <|
    some (.inl ((a++[b]),true))
   else
    if (decide (x_1≤b))=true then
     if (b != x_1)=true then
      chk (a.length+1≤1073741824) <|
      chk (a.length+1+1≤1073741824) <|
      some (.inl (((a++[x_1])++[b]),true))
     else
      chk (a.length+1≤1073741824) <|
      some (.inl ((a++[b]),true))
    else
     chk (a.length+1≤1073741824) <|
     some (.inl ((a++[b]),false)))
  (fun s=>
   match s with
   | (a,c)=>
   if c=true then
    some a
   else
    chk (a.length+1≤1073741824) <|
    some (a++[x_1]))
  l_0 0 ([],false)
noncomputable def Zcn (l_0:(List Zc)) (facts_1:(List Zc)):Option (List Int):=
 Zp (σ:=(List Int))
  (fun (i9:Nat) (c:Zc) a=>
   (Zbb l_0 c).bind fun b=>
   if (decide (0≤b))=true then
    (ZhE a b).bind fun d=>
    some (.inl d)
   else
    some (.inl a))
  (fun a=>
   some a)
  facts_1 0 []
noncomputable def ZbA (c:Zg) (e:Int) (b:Zq) (a_3:(List Zc)):Option Zf:=
 (atI c.thn e).bind fun f=>
 (XA f.pattern b.binding).bind fun g=>
 Zp (σ:=(List Zc))
  (fun (i12:Nat) (d:Zl) a=>
   if (d.kind==2)=true then
    (XA d.pattern b.binding).bind fun i=>
    chk (a.length+1≤1073741824) <|
    some (.inl (a++[i.1]))
   else
    some (.inl a))
  (fun a=>
   (Zbb a_3 g.1).bind fun j=>
   (Zcn a_3 b.facts).bind fun k=>
   (Zcn a_3 a).bind fun l=>
   some ({ for_:=j,inn:=k,outs:=l }:Zf))
  c.cond 0 []
noncomputable def Zb3 (a_0:(List Int)) (a:(List Int)):Option Bool:=
 if (((a_0.length:Nat):Int) != ((a.length:Nat):Int))=true then
  some false
 else
  Zp (σ:=Unit)
   (fun (b:Nat) (c:Int) _=>
    (atI a ((b:Nat):Int)).bind fun d=>
    if (c != d)=true then
     some (.inr false)
    else
     some (.inl ()))
   (fun _=>
    some true)
   a_0 0 ()
noncomputable def Zfz (l_0:(List Zf)) (r_1:Zf):Option Int:=
 Zp (σ:=Unit)
  (fun (i8:Nat) (a:Zf) _=>
   if (a.for_==r_1.for_)=true then
    (Zb3 a.inn r_1.inn).bind fun b=>
    if b=true then
     (Zb3 a.outs r_1.outs).bind fun c=>
     if c=true then
      some (.inr ((i8:Nat):Int))
     else
      some (.inl ())
    else
     some (.inl ())
   else
    some (.inl ()))
  (fun _=>
   some (-1))
  l_0 0 ()
noncomputable def XZ (append_0:(List Zg)) (String_1:(List Zc)):Option ((List Zc) × Zt × (List XR) × Bool):=
 (YA append_0 String_1).bind fun b=>
 if b.2=true then
  Zp (σ:=(List Zf) × (List XR))
   (fun (i255:Nat) (o:Zc) s=>
    match s with
    | (d,e)=>
    (Zbb b.1 o).bind fun p=>
    chk (d.length+1≤1073741824) <|
    chk (e.length+1≤1073741824) <|
    some (.inl ((d++[({ for_:=p,inn:=[],outs:=[] }:Zf)]),(e++[({ rule:=(⟨#[]⟩),token:=({ facts:=[],binding:=[] }:Zq) }:XR)]))))
   (fun s=>
    match s with
    | (d,e)=>
    Zp (σ:=(List Zf) × (List XR))
     (fun (i446:Nat) (f:Zg) s=>
      match s with
      | (g,i)=>
      (X8 f).bind fun q=>
      (Zaa q b.1).bind fun t=>
      Zp (σ:=(List Zf) × (List XR))
       (fun (i487:Nat) (l:Zq) s=>
        match s with
        | (j,k)=>
        Zp (σ:=(List Zf) × (List XR))
         (fun (i498:Nat) (v:Zu) s=>
          match s with
          | (a,c)=>
          (ZbA f ((i498:Nat):Int) l b.1).bind fun m=>
          (Zfz a m).bind fun u=>
          if (decide (0≤u))=true then
           some (.inl (a,c))
          else
           if (decide (60≤((a.length:Nat):Int)))=true then
            some (.inr (.inr (.inr ([],({ nodes:=0,reasons:=[] }:Zt),[],false))))
           else
            chk (a.length+1≤1073741824) <|
            chk (c.length+1≤1073741824) <|
            some (.inl ((a++[m]),(c++[({ rule:=f.name,token:=l }:XR)]))))
         (fun s=>
          match s with
          | (a,c)=>
          some (.inl (a,c)))
         f.thn 0 (j,k))
       (fun s=>
        match s with
        | (j,k)=>
        some (.inl (j,k)))
       t 0 (g,i))
     (fun s=>
      match s with
      | (g,i)=>
      some (b.1,({ nodes:=((b.1.length:Nat):Int),reasons:=g }:Zt),i,true))
     append_0 0 (d,e))
   String_1 0 ([],[])
 else
  some ([],({ nodes:=0,reasons:=[] }:Zt),[],false)
noncomputable def QX (rules_0:(List Zg)) (base_1:(List Zc)):Option ((List Zc) × Zt × Bool):=
 (XZ rules_0 base_1).bind fun a=>
 if a.2.2.2=true then
  some (a.1,a.2.1,true)
 else
  some ([],({ nodes:=0,reasons:=[] }:Zt),false)
noncomputable def Zci (a:(List Int)) (n_1:Int):Option Bool:=
 Zp (σ:=Unit)
  (fun (b:Nat) (c:Int) _=>
   (Qr c 0 (IntKind.i64.wrap (n_1 - 1))).bind fun d=>
   if d=true then
    if (decide (0<((b:Nat):Int)))=true then
     (atI a (IntKind.i64.wrap (((b:Nat):Int) - 1))).bind fun e=>
     if (decide (c≤e))=true then
      some (.inr false)
     else
      some (.inl ())
    else
     some (.inl ())
   else
    some (.inr false))
  (fun _=>
   some true)
  a 0 ()
noncomputable def ZcJ (b_0:Zt):Option Bool:=
 Zp (σ:=Unit)
  (fun (i11:Nat) (a:Zf) _=>
   (Qr a.for_ 0 (IntKind.i64.wrap (b_0.nodes - 1))).bind fun b=>
   if b=true then
    (Zci a.inn b_0.nodes).bind fun c=>
    if c=true then
     (Zci a.outs b_0.nodes).bind fun d=>
     if d=true then
      some (.inl ())
     else
      some (.inr false)
    else
     some (.inr false)
   else
    some (.inr false))
  (fun _=>
   (Qr b_0.nodes 0 24).bind fun e=>
   if e=true then
    some (decide (((b_0.reasons.length:Nat):Int)≤60))
   else
    some false)
  b_0.reasons 0 ()
noncomputable def Zjo (l_0:(List Int)):Option (List Int):=
 chk (l_0.length≤1073741824) <|
 some l_0
noncomputable def ZdN (g:Zt) (o:Int):Option (List Bool):=
 chk (0≤g.nodes∧g.nodes≤1073741824) <|
 XI (σ:=(List Bool) × (List Int) × Int)
  (fun s=>
   match s with
   | (l,m,d)=>
   if (decide (d<((m.length:Nat):Int)))=true then
    Zp (σ:=(List Bool) × (List Int))
     (fun (i95:Nat) (a:Zf) s=>
      match s with
      | (i,b)=>
      chk (0≤d∧d<((b.length:Nat):Int)) <|
      (b[(A4 d)]?).bind fun p=>
      if (a.for_ != p)=true then
       some (.inl (i,b))
      else
       (Zjo a.inn).bind fun j=>
       chk (j.length+a.outs.length≤1073741824) <|
       XI (σ:=(List Bool) × (List Int) × Int)
        (fun s=>
         match s with
         | (e,k,c)=>
         if (decide (c<((j.length+a.outs.length:Nat):Int)))=true then
          chk (0≤c∧c<((j.length+a.outs.length:Nat):Int)) <|
          ((j++a.outs)[(A4 c)]?).bind fun f=>
          chk (0≤f∧f<((e.length:Nat):Int)) <|
          (e[(A4 f)]?).bind fun q=>
          if q=true then
           some (.inl (e,k,(IntKind.i64.wrap (c+1))))
          else
           chk (k.length+1≤1073741824) <|
           some (.inl ((A5 e (A4 f) true),(k++[f]),(IntKind.i64.wrap (c+1))))
         else
          some (.inr (.inl (e,k))))
        (i,b,0))
     (fun s=>
      match s with
      | (i,b)=>
      some (.inl (i,b,(IntKind.i64.wrap (d+1)))))
     g.reasons 0 (l,m)
   else
    some (.inr l))
  ((A9 (A4 g.nodes) false),[o],0)
noncomputable def Qx (b_0:Zt):Option Bool:=
 (ZcJ b_0).bind fun d=>
 if d=true then
  Zp (σ:=Unit)
   (fun (i27:Nat) (a:Zf) _=>
    Zp (σ:=Unit)
     (fun (i36:Nat) (b:Int) _=>
      if (b==a.for_)=true then
       some (.inr (.inr false))
      else
       (ZdN b_0 b).bind fun c=>
       chk (0≤a.for_∧a.for_<((c.length:Nat):Int)) <|
       (c[(A4 a.for_)]?).bind fun e=>
       if e=true then
        some (.inr (.inr false))
       else
        some (.inl ()))
     (fun _=>
      some (.inl ()))
     a.outs 0 ())
   (fun _=>
    some true)
   b_0.reasons 0 ()
 else
  some false
noncomputable def Zeb (d:Zt):Option (List Int):=
 (Qx d).bind fun p=>
 if p=true then
  chk (0≤d.nodes∧d.nodes≤1073741824) <|
  XI (σ:=(List Int) × Int)
   (fun s=>
    match s with
    | (i,j)=>
    if (decide (j≤d.nodes))=true then
     Zp (σ:=(List Int))
      (fun (i194:Nat) (a:Zf) e=>
       Zp (σ:=(List Int))
        (fun (i216:Nat) (f:Int) b=>
         chk (0≤a.for_∧a.for_<((b.length:Nat):Int)) <|
         (b[(A4 a.for_)]?).bind fun k=>
         chk (0≤f∧f<((b.length:Nat):Int)) <|
         (b[(A4 f)]?).bind fun l=>
         some (.inl (A5 b (A4 a.for_) (if k<l then l else k))))
        (fun b=>
         Zp (σ:=(List Int))
          (fun (i228:Nat) (g:Int) c=>
           chk (0≤a.for_∧a.for_<((c.length:Nat):Int)) <|
           (c[(A4 a.for_)]?).bind fun m=>
           chk (0≤g∧g<((c.length:Nat):Int)) <|
           (c[(A4 g)]?).bind fun o=>
           some (.inl (A5 c (A4 a.for_) (if m<(IntKind.i64.wrap (o+1)) then (IntKind.i64.wrap (o+1)) else m))))
          (fun c=>
           some (.inl c))
          a.outs 0 b)
        a.inn 0 e)
      (fun e=>
       some (.inl (e,(IntKind.i64.wrap (j+1)))))
      d.reasons 0 i
    else
     some (.inr i))
   ((A9 (A4 d.nodes) 0),0)
 else
  some []
noncomputable def Zc5 (l_0:(List Int)) (b:(List Int)) (round_2:Int):Option Bool:=
 Zp (σ:=Unit)
  (fun (i6:Nat) (c:Int) _=>
   (atI b c).bind fun a=>
   if (decide (a<0))=true then
    some (.inr false)
   else
    if (decide (round_2≤a))=true then
     some (.inr false)
    else
     some (.inl ()))
  (fun _=>
   some true)
  l_0 0 ()
noncomputable def ZfV (l_0:(List Int)) (a:(List Int)):Option Bool:=
 Zp (σ:=Unit)
  (fun (i6:Nat) (b:Int) _=>
   (atI a b).bind fun c=>
   if (decide (0≤c))=true then
    some (.inr false)
   else
    some (.inl ()))
  (fun _=>
   some true)
  l_0 0 ()
noncomputable def Zce (append_0:Zt) (e:(List Int)) (a_2:Int) (c:(List Int)) (a_4:Int):Option (List Int):=
 XI (σ:=(List Int) × Int)
  (fun s=>
   match s with
   | (b,a)=>
   if (decide (a<append_0.nodes))=true then
    (atI e a).bind fun f=>
    if (f != a_2)=true then
     some (.inl (b,(IntKind.i64.wrap (a+1))))
    else
     (atI c a).bind fun g=>
     if (decide (0≤g))=true then
      some (.inl (b,(IntKind.i64.wrap (a+1))))
     else
      Zp (σ:=Unit)
       (fun (i38:Nat) (d:Zf) _=>
        if (d.for_==a)=true then
         (Zc5 d.inn c a_4).bind fun i=>
         if i=true then
          (ZfV d.outs c).bind fun j=>
          if j=true then
           chk (b.length+1≤1073741824) <|
           some (.inr (.inl ((b++[a]),(IntKind.i64.wrap (a+1)))))
          else
           some (.inl ())
         else
          some (.inl ())
        else
         some (.inl ()))
       (fun _=>
        some (.inl (b,(IntKind.i64.wrap (a+1)))))
       append_0.reasons 0 ()
   else
    some (.inr b))
  ([],0)
noncomputable def Zee (b_0:Zt):Option (List Int):=
 (Qx b_0).bind fun m=>
 if m=true then
  (Zeb b_0).bind fun g=>
  XI (σ:=(List Int) × Int)
   (fun s=>
    match s with
    | (e,i)=>
    if (decide (i<b_0.nodes))=true then
     chk (e.length+1≤1073741824) <|
     some (.inl ((e++[(-1)]),(IntKind.i64.wrap (i+1))))
    else
     XI (σ:=(List Int) × Int × Int)
      (fun s=>
       match s with
       | (f,j,b)=>
       if (decide (b<b_0.nodes))=true then
        (Zce b_0 g b f j).bind fun o=>
        XI (σ:=(List Int) × (List Int) × Int)
         (fun s=>
          match s with
          | (k,l,c)=>
          if (decide (0<((l.length:Nat):Int)))=true then
           Zp (σ:=(List Int))
            (fun (i56:Nat) (d:Int) a=>
             chk (0≤d∧d<((a.length:Nat):Int)) <|
             (a[(A4 d)]?).bind fun q=>
             some (.inl (A5 a (A4 d) c)))
            (fun a=>
             (Zce b_0 g b a (IntKind.i64.wrap (c+1))).bind fun p=>
             some (.inl (a,p,(IntKind.i64.wrap (c+1)))))
            l 0 k
          else
           some (.inr (.inl (k,c,(IntKind.i64.wrap (b+1))))))
         (f,o,j)
       else
        some (.inr (.inr f)))
      (e,0,0))
   ([],0)
 else
  some []
noncomputable def Zeu (b_0:Zt):Option (List Bool):=
 (Zee b_0).bind fun b=>
 Zp (σ:=(List Bool))
  (fun (i6:Nat) (c:Int) a=>
   chk (a.length+1≤1073741824) <|
   some (.inl (a++[(decide (0≤c))])))
  (fun a=>
   some a)
  b 0 []
noncomputable def ZjI (l_0:(List Zc)) (b_1:Zt):Option (List Zc):=
 (Zeu b_1).bind fun b=>
 Zp (σ:=(List Zc))
  (fun (i10:Nat) (c:Zc) a=>
   if (decide (((i10:Nat):Int)<((b.length:Nat):Int)))=true then
    chk (0≤((i10:Nat):Int)∧((i10:Nat):Int)<((b.length:Nat):Int)) <|
    (b[i10]?).bind fun d=>
    if d=true then
     (XE c).bind fun e=>
     chk (a.length+1≤1073741824) <|
     some (.inl (a++[e]))
    else
     some (.inl a)
   else
    some (.inr a))
  (fun a=>
   some a)
  l_0 0 []
noncomputable def ZfH (rules_0:(List Zg)) (base_1:(List Zc)):Option ((List Zc) × Bool):=
 (QX rules_0 base_1).bind fun a=>
 if a.2.2=true then
  (ZjI a.1 a.2.1).bind fun b=>
  some (b,true)
 else
  some ([],false)
noncomputable def Zck (a:Zg) (b:Int) (c:(List Zc)):Option (List Zq):=
 (ZcZ a).bind fun d=>
 if d=true then
  (Zcb c).bind fun e=>
  if e=true then
   (Qr b 0 ((a.cond.length:Nat):Int)).bind fun f=>
   if f=true then
    chk (0≤b∧b≤((a.cond.length:Nat):Int)) <|
    (Zaa (List.drop 0 (List.take (A4 b) a.cond)) c).bind fun g=>
    some g
   else
    some []
  else
   some []
 else
  some []
noncomputable def Zbm (s_0:ByteArray) (a_1:(List Zi)):Option ByteArray:=
 Zp (σ:=Unit)
  (fun (i4:Nat) (a:Zi) _=>
   if (sEq a.var s_0)=true then
    some (.inr a.value)
   else
    some (.inl ()))
  (fun _=>
   some s_0)
  a_1 0 ()
noncomputable def ZbI (x_0:Zl) (a_1:(List Zi)):Option Zl:=
 (Zbm x_0.left a_1).bind fun b=>
 (Zbm x_0.right a_1).bind fun c=>
 Zp (σ:=(List ByteArray))
  (fun (i11:Nat) (d:ByteArray) a=>
   (Zbm d a_1).bind fun e=>
   chk (a.length+1≤1073741824) <|
   some (.inl (a++[e])))
  (fun a=>
   some ({ kind:=x_0.kind,pattern:=({ rel:=x_0.pattern.rel,args:=a }:Zx),left:=b,right:=c }:Zl))
  x_0.pattern.args 0 []
noncomputable def Zhg (x_0:Zl):Option Zl:=
 (ZbI x_0 []).bind fun a=>
 some a
noncomputable def Zdz (l_0:(List Zl)):Option Zg:=
 Zp (σ:=(List Zl))
  (fun (i9:Nat) (b:Zl) a=>
   (Zhg b).bind fun c=>
   chk (a.length+1≤1073741824) <|
   some (.inl (a++[c])))
  (fun a=>
   some ({ name:=(⟨#[97,115,107]⟩),priority:=0,cond:=a,thn:=[({ kind:=3,pattern:=({ rel:=(⟨#[]⟩),args:=[] }:Zx) }:Zu)] }:Zg))
  l_0 0 []
noncomputable def ZbL (l_0:(List Zl)):Option Bool:=
 (Zdz l_0).bind fun a=>
 (ZcZ a).bind fun b=>
 some b
noncomputable def Za6 (a_0:(List Zi)) (a:(List Zi)):Option Bool:=
 if (((a_0.length:Nat):Int) != ((a.length:Nat):Int))=true then
  some false
 else
  Zp (σ:=Unit)
   (fun (d:Nat) (b:Zi) _=>
    (atI a ((d:Nat):Int)).bind fun c=>
    if (sEq b.var c.var&&sEq b.value c.value)=true then
     some (.inl ())
    else
     some (.inr false))
   (fun _=>
    some true)
   a_0 0 ()
noncomputable def Zcg (append_0:(List Zg)) (String_1:(List Zc)) (a_2:(List Zl)):Option ((List (List Zi)) × Bool):=
 (ZfH append_0 String_1).bind fun c=>
 if c.2=true then
  (ZbL a_2).bind fun e=>
  if e=true then
   (Zdz a_2).bind fun f=>
   (Zck f ((a_2.length:Nat):Int) c.1).bind fun g=>
   Zp (σ:=(List (List Zi)))
    (fun (i25:Nat) (d:Zq) a=>
     Zp (σ:=Bool)
      (fun (i34:Nat) (i:(List Zi)) b=>
       if b=true then
        some (.inl true)
       else
        (Za6 i d.binding).bind fun j=>
        some (.inl j))
      (fun b=>
       if b=true then
        some (.inl a)
       else
        (ZaS d.binding).bind fun k=>
        chk (a.length+1≤1073741824) <|
        some (.inl (a++[k])))
      a 0 false)
    (fun a=>
     some (a,true))
    g 0 []
  else
   some ([],false)
 else
  some ([],false)
noncomputable def ZjF (l_0:(List Zl)):Option Zg:=
 some ({ name:=(⟨#[113]⟩),priority:=0,cond:=l_0,thn:=[({ kind:=3,pattern:=({ rel:=(⟨#[]⟩),args:=[] }:Zx) }:Zu)] }:Zg)
noncomputable def ZaE (l_0:(List Zl)):Option Bool:=
 (ZjF l_0).bind fun a=>
 (Zex a).bind fun b=>
 some b
noncomputable def ZcL (a_0:(List Zi)) (a:(List Zi)):Option Bool:=
 if (((a_0.length:Nat):Int) != ((a.length:Nat):Int))=true then
  some false
 else
  Zp (σ:=Unit)
   (fun (d:Nat) (b:Zi) _=>
    (atI a ((d:Nat):Int)).bind fun c=>
    if (sEq b.var c.var&&sEq b.value c.value)=true then
     some (.inl ())
    else
     some (.inr false))
   (fun _=>
    some true)
   a_0 0 ()
noncomputable def ZiV (rules_0:(List Zg)) (base_1:(List Zc)) (l_2:(List Zl)):Option ((List (List Zi)) × Bool):=
 (Zbi rules_0 base_1).bind fun c=>
 if c.2=true then
  (ZaE l_2).bind fun e=>
  if e=true then
   (Zao l_2 c.1).bind fun f=>
   Zp (σ:=(List (List Zi)))
    (fun (i19:Nat) (d:Zq) a=>
     Zp (σ:=Bool)
      (fun (i27:Nat) (g:(List Zi)) b=>
       if b=true then
        some (.inl true)
       else
        (ZcL g d.binding).bind fun i=>
        some (.inl i))
      (fun b=>
       if b=true then
        some (.inl a)
       else
        chk (a.length+1≤1073741824) <|
        some (.inl (a++[d.binding])))
      a 0 false)
    (fun a=>
     some (a,true))
    f 0 []
  else
   some ([],false)
 else
  some ([],false)
end
section
open Go.RowKit
def ZzE (P:Program) (L:List (String × (Array Value→Prop))) (w:World):Prop:=∀x∈L,∃cs,w.var? P x.1=some cs∧x.2 cs
def ZzH (P:Program) (L:List (String × (Array Value→Prop))) (b:Nat):Prop:=∀x∈L,¬P.globalNamed x.1=some b
theorem Zyc (P:Program) (L:List (String × (Array Value→Prop))):JOk (ZzE P L) (ZzH P L) where
 below:=fun x w w' hj hx _ _ _ hs hb y my=>by
  obtain ⟨cs,h1,h2⟩:=hj y my
  refine ⟨cs,?_,h2⟩
  unfold World.var? at h1 ⊢
  obtain ⟨g,hg,h1⟩:=Option.bind_eq_some_iff.1 h1
  rw [hg,AC]
  have a:g<w.heap.size:=by
   rcases Nat.lt_or_ge g w.heap.size with h | h
   ·exact h
   ·rw [AD h] at h1;simp at h1
  rw [hb g a (fun h=>hx g h y my hg)]
  exact h1
 new:=fun w b hj hb y my hg=>by
  obtain ⟨cs,h1,_⟩:=hj y my
  unfold World.var? at h1
  rw [hg,AC,AD hb] at h1
  simp at h1
theorem Qt {J:World→Prop} {JF:Nat→Prop} (h:JOk J JF) {w w':World} (hj:J w) (hb:Below w.heap.size w w'):J w':=
 h.below (fun _=>False) w w' hj (fun _ h=>h.elim) hb.os hb.tape hb.output hb.size fun k hk _=>hb.block k hk
theorem Ztg {w:World} {B:Nat} {n:Nat→Prop} {ct:CT} {v:Value} (h:OC w B n (false,ct) v []):ZkF w B n [(false,[(false,ct)])] v:=
 ⟨[v],[],⟨v,[],[],[],rfl,rfl,.inr ⟨rfl,_,rfl,h⟩,rfl,rfl⟩,Own.nil _ _,yG⟩
theorem ZrA {w:World} {B:Nat} {n:Nat→Prop} {c1 c2:CT} {v1 v2:Value} (h1:OC w B n (false,c1) v1 []) (h2:OC w B n (false,c2) v2 []):ZkF w B n [(false,[(false,c1)]),(false,[(false,c2)])] (.tuple #[v1,v2]):=
 ⟨[v1,v2],[],⟨v1,[v2],[],[],rfl,rfl,.inr ⟨rfl,_,rfl,h1⟩,v2,[],[],[],rfl,rfl,.inr ⟨rfl,_,rfl,h2⟩,rfl,rfl⟩,Own.nil _ _,yG⟩
theorem ZuT {w:World} {z:Nat→Prop} {c:CT} {v:Value} (h:ZnX w z (false,[c]) v):∃L,RC w c v L:=by
 rcases h with ⟨h,_⟩ | ⟨_,ct,L,h,hr,_⟩
 ·simp at h
 ·simp only[List.cons.injEq,and_true] at h
  subst h
  exact ⟨L,hr⟩
theorem ZmB {w:World} {z:Nat→Prop} {c:CT} {vs:List Value} (h:ZM (ZnX w z) [(false,[c])] vs):∃v L,vs=[v]∧RC w c v L:=by
 cases vs with
 | nil=>exact h.elim
 | cons v r=>
  cases r with
  | nil=>obtain ⟨L,hr⟩:=ZuT h.1;exact ⟨v,L,rfl,hr⟩
  | cons _ _=>exact h.2.elim
theorem ZxX {w:World} {z:Nat→Prop} {c d:CT} {vs:List Value} (h:ZM (ZnX w z) [(false,[c]),(false,[d])] vs):∃v u L M,vs=[v,u]∧RC w c v L∧RC w d u M:=by
 cases vs with
 | nil=>exact h.elim
 | cons v r=>
  obtain ⟨u,M,rfl,hu⟩:=ZmB h.2
  obtain ⟨L,hr⟩:=ZuT h.1
  exact ⟨v,u,L,M,rfl,hr,hu⟩
end
section
open Go.RowKit
def ttL:List (Nat × TI):=[
 (2,.atom (.c (.int .i64 0))),
 (3,.atom (.c (.int .i64 0))),
 (4,.atom (.c (.bool false))),
 (5,.atom (.c (.int .u8 0))),
 (9,.atom (.c (.str ⟨#[]⟩))),
 (12,.atom (.c (.int .u64 0))),
 (14,.strct [⟨0,1,false⟩,⟨1,1,false⟩] 2 [.c (.str ⟨#[]⟩),.c (.int .u64 0)]),
 (20,.ifc),
 (21,.atom (.c (.int .i32 0))),
 (22,.slice 99 4 72 [.c (.str ⟨#[]⟩),.c (.int .i64 0),.nil 103 5,.nil 206 3]),
 (23,.slice 48 2 40 [.c (.str ⟨#[]⟩),.nil 9 1]),
 (24,.slice 103 5 80 [.c (.int .i64 0),.c (.str ⟨#[]⟩),.nil 9 1,.c (.str ⟨#[]⟩),.c (.str ⟨#[]⟩)]),
 (28,.slice 109 1 24 [.nil 162 2]),
 (31,.slice 76 4 72 [.c (.str ⟨#[]⟩),.c (.int .i64 0),.nil 80 5,.nil 125 3]),
 (33,.slice 53 2 40 [.c (.str ⟨#[]⟩),.nil 9 1]),
 (35,.slice 80 5 80 [.c (.int .i64 0),.c (.str ⟨#[]⟩),.nil 9 1,.c (.str ⟨#[]⟩),.c (.str ⟨#[]⟩)]),
 (46,.slice 9 1 16 [.c (.str ⟨#[]⟩)]),
 (48,.strct [⟨0,1,false⟩,⟨1,1,false⟩] 2 [.c (.str ⟨#[]⟩),.nil 9 1]),
 (50,.slice 73 3 40 [.c (.str ⟨#[]⟩),.c (.int .i64 0),.c (.str ⟨#[]⟩)]),
 (53,.strct [⟨0,1,false⟩,⟨1,1,false⟩] 2 [.c (.str ⟨#[]⟩),.nil 9 1]),
 (63,.slice 5 1 1 [.c (.int .u8 0)]),
 (73,.strct [⟨0,1,false⟩,⟨1,1,false⟩,⟨2,1,false⟩] 3 [.c (.str ⟨#[]⟩),.c (.int .i64 0),.c (.str ⟨#[]⟩)]),
 (74,.slice 125 3 48 [.c (.int .i64 0),.c (.str ⟨#[]⟩),.nil 9 1]),
 (76,.strct [⟨0,1,false⟩,⟨1,1,false⟩,⟨2,1,false⟩,⟨3,1,false⟩] 4 [.c (.str ⟨#[]⟩),.c (.int .i64 0),.nil 80 5,.nil 125 3]),
 (78,.strct [⟨0,1,false⟩,⟨1,1,false⟩] 2 [.c (.str ⟨#[]⟩),.nil 9 1]),
 (80,.strct [⟨0,1,false⟩,⟨1,2,true⟩,⟨3,1,false⟩,⟨4,1,false⟩] 5 [.c (.int .i64 0),.c (.str ⟨#[]⟩),.nil 9 1,.c (.str ⟨#[]⟩),.c (.str ⟨#[]⟩)]),
 (82,.slice 88 4 80 [.c (.str ⟨#[]⟩),.nil 9 1,.c (.str ⟨#[]⟩),.nil 3 1]),
 (86,.slice 3 1 8 [.c (.int .i64 0)]),
 (88,.strct [⟨0,2,true⟩,⟨2,1,false⟩,⟨3,1,false⟩] 4 [.c (.str ⟨#[]⟩),.nil 9 1,.c (.str ⟨#[]⟩),.nil 3 1]),
 (97,.slice 206 3 48 [.c (.int .i64 0),.c (.str ⟨#[]⟩),.nil 9 1]),
 (99,.strct [⟨0,1,false⟩,⟨1,1,false⟩,⟨2,1,false⟩,⟨3,1,false⟩] 4 [.c (.str ⟨#[]⟩),.c (.int .i64 0),.nil 103 5,.nil 206 3]),
 (101,.strct [⟨0,1,false⟩,⟨1,1,false⟩] 2 [.c (.str ⟨#[]⟩),.nil 9 1]),
 (103,.strct [⟨0,1,false⟩,⟨1,2,true⟩,⟨3,1,false⟩,⟨4,1,false⟩] 5 [.c (.int .i64 0),.c (.str ⟨#[]⟩),.nil 9 1,.c (.str ⟨#[]⟩),.c (.str ⟨#[]⟩)]),
 (105,.slice 111 2 48 [.nil 53 2,.nil 162 2]),
 (109,.slice 162 2 32 [.c (.str ⟨#[]⟩),.c (.str ⟨#[]⟩)]),
 (111,.strct [⟨0,1,false⟩,⟨1,1,false⟩] 2 [.nil 53 2,.nil 162 2]),
 (125,.strct [⟨0,1,false⟩,⟨1,2,true⟩] 3 [.c (.int .i64 0),.c (.str ⟨#[]⟩),.nil 9 1]),
 (138,.slice 179 3 56 [.c (.int .i64 0),.nil 3 1,.nil 3 1]),
 (140,.strct [⟨0,1,false⟩,⟨1,1,false⟩] 2 [.c (.int .i64 0),.nil 179 3]),
 (151,.slice 4 1 1 [.c (.bool false)]),
 (162,.strct [⟨0,1,false⟩,⟨1,1,false⟩] 2 [.c (.str ⟨#[]⟩),.c (.str ⟨#[]⟩)]),
 (174,.slice 181 3 64 [.c (.str ⟨#[]⟩),.nil 53 2,.nil 162 2]),
 (179,.strct [⟨0,1,false⟩,⟨1,1,false⟩,⟨2,1,false⟩] 3 [.c (.int .i64 0),.nil 3 1,.nil 3 1]),
 (181,.strct [⟨0,1,false⟩,⟨1,2,true⟩] 3 [.c (.str ⟨#[]⟩),.nil 53 2,.nil 162 2]),
 (183,.slice 187 2 40 [.c (.str ⟨#[]⟩),.nil 53 2]),
 (187,.strct [⟨0,1,false⟩,⟨1,1,false⟩] 2 [.c (.str ⟨#[]⟩),.nil 53 2]),
 (189,.strct [⟨0,1,false⟩,⟨1,1,false⟩,⟨2,1,false⟩] 3 [.nil 5 1,.c (.int .i64 0),.c (.int .i64 0)]),
 (206,.strct [⟨0,1,false⟩,⟨1,2,true⟩] 3 [.c (.int .i64 0),.c (.str ⟨#[]⟩),.nil 9 1]),
 (251,.slice 151 1 24 [.nil 4 1]),
 (261,.atom (.c (.int .u64 0))),
 (269,.ifc),
 (270,.ifc),
 (276,.map .str .bool),
 (279,.atom (.c (.int .u64 0))),
 (297,.atom (.c (.int .u32 0))),
 (355,.strct [⟨0,1,false⟩] 1 [.c (.str ⟨#[]⟩)]),
 (4162,.eqs [.str,.str])]
def tt (t:Nat):Option TI:=Zx2 ttL t
theorem htt:∀t i,tt t=some i→TOk prog t i:=Zxw ttL yO
theorem hmix:prog.follows .mixedOrders=true:=yO
def Zy6 : List (String × (Array Value → Prop)) := [("internal/strconv.uint64pow10", fun cs => cs = (Lib.pow10Tab.map fun z => Value.int .u64 z).toArray), ("strconv.ErrSyntax", fun cs => ∃ tp p, cs = #[.iface tp p])]
def J0:World→Prop:=ZzE prog Zy6
def JF0:Nat→Prop:=ZzH prog Zy6
theorem hJ0:JOk J0 JF0:=Zyc _ _
theorem ZCY (w : World) (h : J0 w) : Lib.TabIs prog w "internal/strconv.uint64pow10" .u64 Lib.pow10Tab := by
 obtain ⟨cs,h1,h2⟩:=h _ (List.mem_cons_self ..)
 rw [h2] at h1
 exact h1
theorem ZzR (w : World) (h : J0 w) : ∃ tp p, w.var? prog "strconv.ErrSyntax" = some #[.iface tp p] := by
 obtain ⟨cs, h1, tp, p, h2⟩ := h ("strconv.ErrSyntax", fun cs => ∃ tp p, cs = #[.iface tp p]) (by simp [Zy6])
 rw [h2] at h1
 exact ⟨tp,p,h1⟩
def hdL:List (Nat × Nat):=[(16,2),(41,2),(70,2),(97,3),(98,1),(99,1),(100,1),(101,1),(130,2),(160,1),(162,1),(163,1),(168,1),(170,2),(172,2),(210,2),(216,2),(223,1),(224,1),(225,1),(226,1),(230,1),(231,1),(232,1),(235,2),(248,1),(258,1),(261,2),(266,1),(267,1),(268,1),(269,1),(270,1),(275,1),(293,3),(303,1),(304,1),(305,1),(327,4),(328,1),(329,1),(330,1),(362,1),(363,1)]
def ZxP:List (Nat × Nat)→Nat→Nat
 | [],_=>0
 | p::r,f=>match Nat.beq p.1 f with | true=>p.2 | false=>ZxP r f
def hds (f:FuncId):Nat:=ZxP hdL f
abbrev yQ(f:FuncId)(n:Nat):Prop:=(SC prog J0 JF0 hds).hd f=n
theorem ZGG:(SC prog J0 JF0 hds).hd 6=0:=yi (by kernel_rfl)
theorem ZFJ:(SC prog J0 JF0 hds).hd 12=0:=yi (by kernel_rfl)
theorem ZFB:(SC prog J0 JF0 hds).hd 16=2:=yi (by kernel_rfl)
theorem ZF0:(SC prog J0 JF0 hds).hd 27=0:=yi (by kernel_rfl)
theorem ZE2:(SC prog J0 JF0 hds).hd 29=0:=yi (by kernel_rfl)
theorem ZFw:(SC prog J0 JF0 hds).hd 35=0:=yi (by kernel_rfl)
theorem ZFc:(SC prog J0 JF0 hds).hd 36=0:=yi (by kernel_rfl)
theorem ZFf:(SC prog J0 JF0 hds).hd 40=0:=yi (by kernel_rfl)
theorem ZFQ:(SC prog J0 JF0 hds).hd 41=2:=yi (by kernel_rfl)
theorem ZF9:(SC prog J0 JF0 hds).hd 42=0:=yi (by kernel_rfl)
theorem ZFp:(SC prog J0 JF0 hds).hd 43=0:=yi (by kernel_rfl)
theorem ZF3:(SC prog J0 JF0 hds).hd 44=0:=yi (by kernel_rfl)
theorem ZEV:(SC prog J0 JF0 hds).hd 45=0:=yi (by kernel_rfl)
theorem ZEU:(SC prog J0 JF0 hds).hd 46=0:=yi (by kernel_rfl)
theorem ZFY:(SC prog J0 JF0 hds).hd 47=0:=yi (by kernel_rfl)
theorem ZFG:(SC prog J0 JF0 hds).hd 49=0:=yi (by kernel_rfl)
theorem ZFW:(SC prog J0 JF0 hds).hd 50=0:=yi (by kernel_rfl)
theorem ZFM:(SC prog J0 JF0 hds).hd 51=0:=yi (by kernel_rfl)
theorem ZF2:(SC prog J0 JF0 hds).hd 52=0:=yi (by kernel_rfl)
theorem ZFO:(SC prog J0 JF0 hds).hd 53=0:=yi (by kernel_rfl)
theorem ZEI:(SC prog J0 JF0 hds).hd 54=0:=yi (by kernel_rfl)
theorem ZEW:(SC prog J0 JF0 hds).hd 55=0:=yi (by kernel_rfl)
theorem ZE9:(SC prog J0 JF0 hds).hd 56=0:=yi (by kernel_rfl)
theorem ZFZ:(SC prog J0 JF0 hds).hd 57=0:=yi (by kernel_rfl)
theorem ZFx:(SC prog J0 JF0 hds).hd 58=0:=yi (by kernel_rfl)
theorem ZEA:(SC prog J0 JF0 hds).hd 61=0:=yi (by kernel_rfl)
theorem ZE5:(SC prog J0 JF0 hds).hd 62=0:=yi (by kernel_rfl)
theorem ZFL:(SC prog J0 JF0 hds).hd 63=0:=yi (by kernel_rfl)
theorem ZED:(SC prog J0 JF0 hds).hd 64=0:=yi (by kernel_rfl)
theorem ZEH:(SC prog J0 JF0 hds).hd 65=0:=yi (by kernel_rfl)
theorem ZFC:(SC prog J0 JF0 hds).hd 68=0:=yi (by kernel_rfl)
theorem ZEK:(SC prog J0 JF0 hds).hd 69=0:=yi (by kernel_rfl)
theorem ZFd:(SC prog J0 JF0 hds).hd 70=2:=yi (by kernel_rfl)
theorem ZFg:(SC prog J0 JF0 hds).hd 71=0:=yi (by kernel_rfl)
theorem ZEo:(SC prog J0 JF0 hds).hd 80=0:=yi (by kernel_rfl)
theorem ZEs:(SC prog J0 JF0 hds).hd 81=0:=yi (by kernel_rfl)
theorem ZEq:(SC prog J0 JF0 hds).hd 82=0:=yi (by kernel_rfl)
theorem ZEG:(SC prog J0 JF0 hds).hd 84=0:=yi (by kernel_rfl)
theorem ZE4:(SC prog J0 JF0 hds).hd 85=0:=yi (by kernel_rfl)
theorem ZFS:(SC prog J0 JF0 hds).hd 86=0:=yi (by kernel_rfl)
theorem ZFr:(SC prog J0 JF0 hds).hd 87=0:=yi (by kernel_rfl)
theorem ZFT:(SC prog J0 JF0 hds).hd 88=0:=yi (by kernel_rfl)
theorem ZFo:(SC prog J0 JF0 hds).hd 90=0:=yi (by kernel_rfl)
theorem ZFk:(SC prog J0 JF0 hds).hd 91=0:=yi (by kernel_rfl)
theorem ZEM:(SC prog J0 JF0 hds).hd 92=0:=yi (by kernel_rfl)
theorem ZFX:(SC prog J0 JF0 hds).hd 93=0:=yi (by kernel_rfl)
theorem ZFU:(SC prog J0 JF0 hds).hd 94=0:=yi (by kernel_rfl)
theorem ZEt:(SC prog J0 JF0 hds).hd 95=0:=yi (by kernel_rfl)
theorem ZFa:(SC prog J0 JF0 hds).hd 96=0:=yi (by kernel_rfl)
theorem ZFu:(SC prog J0 JF0 hds).hd 97=3:=yi (by kernel_rfl)
theorem ZF1:(SC prog J0 JF0 hds).hd 98=1:=yi (by kernel_rfl)
theorem ZFt:(SC prog J0 JF0 hds).hd 99=1:=yi (by kernel_rfl)
theorem ZAy:(SC prog J0 JF0 hds).hd 100=1:=yi (by kernel_rfl)
theorem ZEd:(SC prog J0 JF0 hds).hd 101=1:=yi (by kernel_rfl)
theorem ZC3:(SC prog J0 JF0 hds).hd 102=0:=yi (by kernel_rfl)
theorem ZA4:(SC prog J0 JF0 hds).hd 103=0:=yi (by kernel_rfl)
theorem ZEe:(SC prog J0 JF0 hds).hd 104=0:=yi (by kernel_rfl)
theorem ZAJ:(SC prog J0 JF0 hds).hd 105=0:=yi (by kernel_rfl)
theorem ZDV:(SC prog J0 JF0 hds).hd 106=0:=yi (by kernel_rfl)
theorem ZCw:(SC prog J0 JF0 hds).hd 107=0:=yi (by kernel_rfl)
theorem ZBv:(SC prog J0 JF0 hds).hd 108=0:=yi (by kernel_rfl)
theorem ZCN:(SC prog J0 JF0 hds).hd 110=0:=yi (by kernel_rfl)
theorem ZBb:(SC prog J0 JF0 hds).hd 111=0:=yi (by kernel_rfl)
theorem ZEl:(SC prog J0 JF0 hds).hd 112=0:=yi (by kernel_rfl)
theorem ZBC:(SC prog J0 JF0 hds).hd 113=0:=yi (by kernel_rfl)
theorem ZCJ:(SC prog J0 JF0 hds).hd 114=0:=yi (by kernel_rfl)
theorem Zz0:(SC prog J0 JF0 hds).hd 115=0:=yi (by kernel_rfl)
theorem ZBf:(SC prog J0 JF0 hds).hd 116=0:=yi (by kernel_rfl)
theorem ZDn:(SC prog J0 JF0 hds).hd 117=0:=yi (by kernel_rfl)
theorem ZD1:(SC prog J0 JF0 hds).hd 120=0:=yi (by kernel_rfl)
theorem ZBs:(SC prog J0 JF0 hds).hd 121=0:=yi (by kernel_rfl)
theorem ZBQ:(SC prog J0 JF0 hds).hd 122=0:=yi (by kernel_rfl)
theorem ZDW:(SC prog J0 JF0 hds).hd 123=0:=yi (by kernel_rfl)
theorem ZA3:(SC prog J0 JF0 hds).hd 124=0:=yi (by kernel_rfl)
theorem ZEg:(SC prog J0 JF0 hds).hd 127=0:=yi (by kernel_rfl)
theorem ZEc:(SC prog J0 JF0 hds).hd 128=0:=yi (by kernel_rfl)
theorem ZBz:(SC prog J0 JF0 hds).hd 129=0:=yi (by kernel_rfl)
theorem ZDl:(SC prog J0 JF0 hds).hd 130=2:=yi (by kernel_rfl)
theorem ZC6:(SC prog J0 JF0 hds).hd 131=0:=yi (by kernel_rfl)
theorem ZD3:(SC prog J0 JF0 hds).hd 132=0:=yi (by kernel_rfl)
theorem ZC9:(SC prog J0 JF0 hds).hd 136=0:=yi (by kernel_rfl)
theorem ZCQ:(SC prog J0 JF0 hds).hd 137=0:=yi (by kernel_rfl)
theorem ZDE:(SC prog J0 JF0 hds).hd 138=0:=yi (by kernel_rfl)
theorem ZBV:(SC prog J0 JF0 hds).hd 139=0:=yi (by kernel_rfl)
theorem ZCb:(SC prog J0 JF0 hds).hd 140=0:=yi (by kernel_rfl)
theorem ZDI:(SC prog J0 JF0 hds).hd 141=0:=yi (by kernel_rfl)
theorem ZAf:(SC prog J0 JF0 hds).hd 142=0:=yi (by kernel_rfl)
theorem ZDY:(SC prog J0 JF0 hds).hd 143=0:=yi (by kernel_rfl)
theorem ZBM:(SC prog J0 JF0 hds).hd 144=0:=yi (by kernel_rfl)
theorem ZCP:(SC prog J0 JF0 hds).hd 145=0:=yi (by kernel_rfl)
theorem ZBB:(SC prog J0 JF0 hds).hd 146=0:=yi (by kernel_rfl)
theorem ZD7:(SC prog J0 JF0 hds).hd 147=0:=yi (by kernel_rfl)
theorem ZD8:(SC prog J0 JF0 hds).hd 148=0:=yi (by kernel_rfl)
theorem ZAE:(SC prog J0 JF0 hds).hd 149=0:=yi (by kernel_rfl)
theorem Zz6:(SC prog J0 JF0 hds).hd 150=0:=yi (by kernel_rfl)
theorem ZBE:(SC prog J0 JF0 hds).hd 151=0:=yi (by kernel_rfl)
theorem ZDO:(SC prog J0 JF0 hds).hd 152=0:=yi (by kernel_rfl)
theorem ZBW:(SC prog J0 JF0 hds).hd 153=0:=yi (by kernel_rfl)
theorem ZAR:(SC prog J0 JF0 hds).hd 154=0:=yi (by kernel_rfl)
theorem ZAZ:(SC prog J0 JF0 hds).hd 155=0:=yi (by kernel_rfl)
theorem ZCq:(SC prog J0 JF0 hds).hd 156=0:=yi (by kernel_rfl)
theorem ZAY:(SC prog J0 JF0 hds).hd 157=0:=yi (by kernel_rfl)
theorem ZzN:(SC prog J0 JF0 hds).hd 158=0:=yi (by kernel_rfl)
theorem ZBU:(SC prog J0 JF0 hds).hd 159=0:=yi (by kernel_rfl)
theorem ZBS:(SC prog J0 JF0 hds).hd 160=1:=yi (by kernel_rfl)
theorem ZDt:(SC prog J0 JF0 hds).hd 161=0:=yi (by kernel_rfl)
theorem ZCp:(SC prog J0 JF0 hds).hd 162=1:=yi (by kernel_rfl)
theorem ZD9:(SC prog J0 JF0 hds).hd 163=1:=yi (by kernel_rfl)
theorem ZAg:(SC prog J0 JF0 hds).hd 164=0:=yi (by kernel_rfl)
theorem ZEf:(SC prog J0 JF0 hds).hd 165=0:=yi (by kernel_rfl)
theorem ZBN:(SC prog J0 JF0 hds).hd 166=0:=yi (by kernel_rfl)
theorem Zz1:(SC prog J0 JF0 hds).hd 167=0:=yi (by kernel_rfl)
theorem ZBZ:(SC prog J0 JF0 hds).hd 168=1:=yi (by kernel_rfl)
theorem ZBX:(SC prog J0 JF0 hds).hd 169=0:=yi (by kernel_rfl)
theorem ZBq:(SC prog J0 JF0 hds).hd 170=2:=yi (by kernel_rfl)
theorem ZAT:(SC prog J0 JF0 hds).hd 171=0:=yi (by kernel_rfl)
theorem ZEa:(SC prog J0 JF0 hds).hd 172=2:=yi (by kernel_rfl)
theorem ZDa:(SC prog J0 JF0 hds).hd 173=0:=yi (by kernel_rfl)
theorem ZAk:(SC prog J0 JF0 hds).hd 174=0:=yi (by kernel_rfl)
theorem ZDQ:(SC prog J0 JF0 hds).hd 175=0:=yi (by kernel_rfl)
theorem ZDg:(SC prog J0 JF0 hds).hd 176=0:=yi (by kernel_rfl)
theorem ZA7:(SC prog J0 JF0 hds).hd 177=0:=yi (by kernel_rfl)
theorem ZDf:(SC prog J0 JF0 hds).hd 179=0:=yi (by kernel_rfl)
theorem ZDL:(SC prog J0 JF0 hds).hd 180=0:=yi (by kernel_rfl)
theorem ZBD:(SC prog J0 JF0 hds).hd 181=0:=yi (by kernel_rfl)
theorem ZBI:(SC prog J0 JF0 hds).hd 182=0:=yi (by kernel_rfl)
theorem ZBT:(SC prog J0 JF0 hds).hd 183=0:=yi (by kernel_rfl)
theorem ZA5:(SC prog J0 JF0 hds).hd 184=0:=yi (by kernel_rfl)
theorem ZAj:(SC prog J0 JF0 hds).hd 185=0:=yi (by kernel_rfl)
theorem ZCj:(SC prog J0 JF0 hds).hd 186=0:=yi (by kernel_rfl)
theorem ZAx:(SC prog J0 JF0 hds).hd 187=0:=yi (by kernel_rfl)
theorem ZCC:(SC prog J0 JF0 hds).hd 188=0:=yi (by kernel_rfl)
theorem ZBd:(SC prog J0 JF0 hds).hd 190=0:=yi (by kernel_rfl)
theorem ZAK:(SC prog J0 JF0 hds).hd 191=0:=yi (by kernel_rfl)
theorem ZBp:(SC prog J0 JF0 hds).hd 192=0:=yi (by kernel_rfl)
theorem Zz8:(SC prog J0 JF0 hds).hd 193=0:=yi (by kernel_rfl)
theorem ZDZ:(SC prog J0 JF0 hds).hd 194=0:=yi (by kernel_rfl)
theorem ZD4:(SC prog J0 JF0 hds).hd 195=0:=yi (by kernel_rfl)
theorem ZzU:(SC prog J0 JF0 hds).hd 196=0:=yi (by kernel_rfl)
theorem ZAC:(SC prog J0 JF0 hds).hd 197=0:=yi (by kernel_rfl)
theorem ZB5:(SC prog J0 JF0 hds).hd 198=0:=yi (by kernel_rfl)
theorem ZCD:(SC prog J0 JF0 hds).hd 199=0:=yi (by kernel_rfl)
theorem ZBn:(SC prog J0 JF0 hds).hd 201=0:=yi (by kernel_rfl)
theorem ZEj:(SC prog J0 JF0 hds).hd 202=0:=yi (by kernel_rfl)
theorem ZDG:(SC prog J0 JF0 hds).hd 203=0:=yi (by kernel_rfl)
theorem ZBg:(SC prog J0 JF0 hds).hd 204=0:=yi (by kernel_rfl)
theorem ZAN:(SC prog J0 JF0 hds).hd 205=0:=yi (by kernel_rfl)
theorem Zz2:(SC prog J0 JF0 hds).hd 206=0:=yi (by kernel_rfl)
theorem ZB3:(SC prog J0 JF0 hds).hd 207=0:=yi (by kernel_rfl)
theorem ZAP:(SC prog J0 JF0 hds).hd 208=0:=yi (by kernel_rfl)
theorem ZB7:(SC prog J0 JF0 hds).hd 209=0:=yi (by kernel_rfl)
theorem ZB1:(SC prog J0 JF0 hds).hd 210=2:=yi (by kernel_rfl)
theorem ZCt:(SC prog J0 JF0 hds).hd 211=0:=yi (by kernel_rfl)
theorem ZDh:(SC prog J0 JF0 hds).hd 212=0:=yi (by kernel_rfl)
theorem ZC2:(SC prog J0 JF0 hds).hd 214=0:=yi (by kernel_rfl)
theorem ZCs:(SC prog J0 JF0 hds).hd 215=0:=yi (by kernel_rfl)
theorem ZAL:(SC prog J0 JF0 hds).hd 216=2:=yi (by kernel_rfl)
theorem ZBJ:(SC prog J0 JF0 hds).hd 217=0:=yi (by kernel_rfl)
theorem ZCd:(SC prog J0 JF0 hds).hd 218=0:=yi (by kernel_rfl)
theorem ZAo:(SC prog J0 JF0 hds).hd 219=0:=yi (by kernel_rfl)
theorem ZA0:(SC prog J0 JF0 hds).hd 221=0:=yi (by kernel_rfl)
theorem ZzW:(SC prog J0 JF0 hds).hd 223=1:=yi (by kernel_rfl)
theorem ZCf:(SC prog J0 JF0 hds).hd 224=1:=yi (by kernel_rfl)
theorem ZBF:(SC prog J0 JF0 hds).hd 225=1:=yi (by kernel_rfl)
theorem ZCU:(SC prog J0 JF0 hds).hd 226=1:=yi (by kernel_rfl)
theorem ZDJ:(SC prog J0 JF0 hds).hd 227=0:=yi (by kernel_rfl)
theorem ZCV:(SC prog J0 JF0 hds).hd 228=0:=yi (by kernel_rfl)
theorem ZBY:(SC prog J0 JF0 hds).hd 229=0:=yi (by kernel_rfl)
theorem ZBO:(SC prog J0 JF0 hds).hd 230=1:=yi (by kernel_rfl)
theorem ZA1:(SC prog J0 JF0 hds).hd 231=1:=yi (by kernel_rfl)
theorem ZAb:(SC prog J0 JF0 hds).hd 232=1:=yi (by kernel_rfl)
theorem ZDp:(SC prog J0 JF0 hds).hd 233=0:=yi (by kernel_rfl)
theorem ZAt:(SC prog J0 JF0 hds).hd 234=0:=yi (by kernel_rfl)
theorem ZAs:(SC prog J0 JF0 hds).hd 235=2:=yi (by kernel_rfl)
theorem ZAS:(SC prog J0 JF0 hds).hd 236=0:=yi (by kernel_rfl)
theorem ZDq:(SC prog J0 JF0 hds).hd 237=0:=yi (by kernel_rfl)
theorem ZCZ:(SC prog J0 JF0 hds).hd 238=0:=yi (by kernel_rfl)
theorem ZDN:(SC prog J0 JF0 hds).hd 239=0:=yi (by kernel_rfl)
theorem ZAp:(SC prog J0 JF0 hds).hd 240=0:=yi (by kernel_rfl)
theorem ZAV:(SC prog J0 JF0 hds).hd 241=0:=yi (by kernel_rfl)
theorem ZCW:(SC prog J0 JF0 hds).hd 242=0:=yi (by kernel_rfl)
theorem ZCK:(SC prog J0 JF0 hds).hd 243=0:=yi (by kernel_rfl)
theorem ZBH:(SC prog J0 JF0 hds).hd 244=0:=yi (by kernel_rfl)
theorem ZAI:(SC prog J0 JF0 hds).hd 245=0:=yi (by kernel_rfl)
theorem ZzK:(SC prog J0 JF0 hds).hd 246=0:=yi (by kernel_rfl)
theorem ZCX:(SC prog J0 JF0 hds).hd 247=0:=yi (by kernel_rfl)
theorem Zz7:(SC prog J0 JF0 hds).hd 248=1:=yi (by kernel_rfl)
theorem ZDP:(SC prog J0 JF0 hds).hd 249=0:=yi (by kernel_rfl)
theorem ZAn:(SC prog J0 JF0 hds).hd 250=0:=yi (by kernel_rfl)
theorem Zz3:(SC prog J0 JF0 hds).hd 251=0:=yi (by kernel_rfl)
theorem Zz5:(SC prog J0 JF0 hds).hd 252=0:=yi (by kernel_rfl)
theorem ZBx:(SC prog J0 JF0 hds).hd 253=0:=yi (by kernel_rfl)
theorem ZCL:(SC prog J0 JF0 hds).hd 254=0:=yi (by kernel_rfl)
theorem ZBk:(SC prog J0 JF0 hds).hd 255=0:=yi (by kernel_rfl)
theorem ZCg:(SC prog J0 JF0 hds).hd 256=0:=yi (by kernel_rfl)
theorem ZAa:(SC prog J0 JF0 hds).hd 257=0:=yi (by kernel_rfl)
theorem ZBu:(SC prog J0 JF0 hds).hd 258=1:=yi (by kernel_rfl)
theorem ZAF:(SC prog J0 JF0 hds).hd 259=0:=yi (by kernel_rfl)
theorem ZDs:(SC prog J0 JF0 hds).hd 260=0:=yi (by kernel_rfl)
theorem ZDR:(SC prog J0 JF0 hds).hd 261=2:=yi (by kernel_rfl)
theorem ZBy:(SC prog J0 JF0 hds).hd 262=0:=yi (by kernel_rfl)
theorem ZCu:(SC prog J0 JF0 hds).hd 263=0:=yi (by kernel_rfl)
theorem ZAO:(SC prog J0 JF0 hds).hd 264=0:=yi (by kernel_rfl)
theorem ZBh:(SC prog J0 JF0 hds).hd 266=1:=yi (by kernel_rfl)
theorem ZDF:(SC prog J0 JF0 hds).hd 267=1:=yi (by kernel_rfl)
theorem ZCz:(SC prog J0 JF0 hds).hd 268=1:=yi (by kernel_rfl)
theorem ZC4:(SC prog J0 JF0 hds).hd 269=1:=yi (by kernel_rfl)
theorem ZDA:(SC prog J0 JF0 hds).hd 270=1:=yi (by kernel_rfl)
theorem ZDi:(SC prog J0 JF0 hds).hd 271=0:=yi (by kernel_rfl)
theorem ZCc:(SC prog J0 JF0 hds).hd 272=0:=yi (by kernel_rfl)
theorem ZDC:(SC prog J0 JF0 hds).hd 273=0:=yi (by kernel_rfl)
theorem ZBR:(SC prog J0 JF0 hds).hd 274=0:=yi (by kernel_rfl)
theorem ZDD:(SC prog J0 JF0 hds).hd 275=1:=yi (by kernel_rfl)
theorem ZB8:(SC prog J0 JF0 hds).hd 276=0:=yi (by kernel_rfl)
theorem ZDm:(SC prog J0 JF0 hds).hd 277=0:=yi (by kernel_rfl)
theorem ZAh:(SC prog J0 JF0 hds).hd 278=0:=yi (by kernel_rfl)
theorem ZB4:(SC prog J0 JF0 hds).hd 283=0:=yi (by kernel_rfl)
theorem ZEm:(SC prog J0 JF0 hds).hd 284=0:=yi (by kernel_rfl)
theorem ZC7:(SC prog J0 JF0 hds).hd 285=0:=yi (by kernel_rfl)
theorem ZzY:(SC prog J0 JF0 hds).hd 287=0:=yi (by kernel_rfl)
theorem ZzM:(SC prog J0 JF0 hds).hd 288=0:=yi (by kernel_rfl)
theorem ZzP:(SC prog J0 JF0 hds).hd 289=0:=yi (by kernel_rfl)
theorem ZDd:(SC prog J0 JF0 hds).hd 290=0:=yi (by kernel_rfl)
theorem ZAi:(SC prog J0 JF0 hds).hd 291=0:=yi (by kernel_rfl)
theorem ZDz:(SC prog J0 JF0 hds).hd 292=0:=yi (by kernel_rfl)
theorem ZEh:(SC prog J0 JF0 hds).hd 293=3:=yi (by kernel_rfl)
theorem ZCa:(SC prog J0 JF0 hds).hd 294=0:=yi (by kernel_rfl)
theorem ZCi:(SC prog J0 JF0 hds).hd 296=0:=yi (by kernel_rfl)
theorem ZzZ:(SC prog J0 JF0 hds).hd 297=0:=yi (by kernel_rfl)
theorem ZDy:(SC prog J0 JF0 hds).hd 302=0:=yi (by kernel_rfl)
theorem ZAr:(SC prog J0 JF0 hds).hd 303=1:=yi (by kernel_rfl)
theorem ZD6:(SC prog J0 JF0 hds).hd 304=1:=yi (by kernel_rfl)
theorem ZAM:(SC prog J0 JF0 hds).hd 305=1:=yi (by kernel_rfl)
theorem ZCB:(SC prog J0 JF0 hds).hd 306=0:=yi (by kernel_rfl)
theorem ZCI:(SC prog J0 JF0 hds).hd 307=0:=yi (by kernel_rfl)
theorem ZBG:(SC prog J0 JF0 hds).hd 308=0:=yi (by kernel_rfl)
theorem ZBm:(SC prog J0 JF0 hds).hd 309=0:=yi (by kernel_rfl)
theorem ZBl:(SC prog J0 JF0 hds).hd 313=0:=yi (by kernel_rfl)
theorem ZCO:(SC prog J0 JF0 hds).hd 318=0:=yi (by kernel_rfl)
theorem ZCA:(SC prog J0 JF0 hds).hd 319=0:=yi (by kernel_rfl)
theorem ZBw:(SC prog J0 JF0 hds).hd 326=0:=yi (by kernel_rfl)
theorem ZD2:(SC prog J0 JF0 hds).hd 327=4:=yi (by kernel_rfl)
theorem ZDj:(SC prog J0 JF0 hds).hd 328=1:=yi (by kernel_rfl)
theorem ZCF:(SC prog J0 JF0 hds).hd 329=1:=yi (by kernel_rfl)
theorem ZB9:(SC prog J0 JF0 hds).hd 330=1:=yi (by kernel_rfl)
theorem ZCh:(SC prog J0 JF0 hds).hd 331=0:=yi (by kernel_rfl)
theorem ZDo:(SC prog J0 JF0 hds).hd 360=0:=yi (by kernel_rfl)
theorem ZBK:(SC prog J0 JF0 hds).hd 361=0:=yi (by kernel_rfl)
theorem ZCG:(SC prog J0 JF0 hds).hd 362=1:=yi (by kernel_rfl)
theorem ZDK:(SC prog J0 JF0 hds).hd 363=1:=yi (by kernel_rfl)
theorem ZA8:(SC prog J0 JF0 hds).hd 377=0:=yi (by kernel_rfl)
theorem ZDU:(SC prog J0 JF0 hds).hd 382=0:=yi (by kernel_rfl)
theorem tt2:tt 2=some (.atom (.c (.int .i64 0))):=yi rfl
theorem tt3:tt 3=some (.atom (.c (.int .i64 0))):=yi rfl
theorem tt4:tt 4=some (.atom (.c (.bool false))):=yi rfl
theorem tt5:tt 5=some (.atom (.c (.int .u8 0))):=yi rfl
theorem tt9:tt 9=some (.atom (.c (.str ⟨#[]⟩))):=yi rfl
theorem ZGz:tt 12=some (.atom (.c (.int .u64 0))):=yi rfl
theorem ZGt:tt 14=some (.strct [⟨0,1,false⟩,⟨1,1,false⟩] 2 [.c (.str ⟨#[]⟩),.c (.int .u64 0)]):=yi rfl
theorem ZGE:tt 20=some (.ifc):=yi rfl
theorem ZGj:tt 21=some (.atom (.c (.int .i32 0))):=yi rfl
theorem ZGh:tt 22=some (.slice 99 4 72 [.c (.str ⟨#[]⟩),.c (.int .i64 0),.nil 103 5,.nil 206 3]):=yi rfl
theorem ZGJ:tt 23=some (.slice 48 2 40 [.c (.str ⟨#[]⟩),.nil 9 1]):=yi rfl
theorem ZGp:tt 24=some (.slice 103 5 80 [.c (.int .i64 0),.c (.str ⟨#[]⟩),.nil 9 1,.c (.str ⟨#[]⟩),.c (.str ⟨#[]⟩)]):=yi rfl
theorem ZGV:tt 28=some (.slice 109 1 24 [.nil 162 2]):=yi rfl
theorem ZGD:tt 31=some (.slice 76 4 72 [.c (.str ⟨#[]⟩),.c (.int .i64 0),.nil 80 5,.nil 125 3]):=yi rfl
theorem ZGU:tt 33=some (.slice 53 2 40 [.c (.str ⟨#[]⟩),.nil 9 1]):=yi rfl
theorem ZGy:tt 35=some (.slice 80 5 80 [.c (.int .i64 0),.c (.str ⟨#[]⟩),.nil 9 1,.c (.str ⟨#[]⟩),.c (.str ⟨#[]⟩)]):=yi rfl
theorem ZGx:tt 46=some (.slice 9 1 16 [.c (.str ⟨#[]⟩)]):=yi rfl
theorem ZGB:tt 48=some (.strct [⟨0,1,false⟩,⟨1,1,false⟩] 2 [.c (.str ⟨#[]⟩),.nil 9 1]):=yi rfl
theorem ZGw:tt 50=some (.slice 73 3 40 [.c (.str ⟨#[]⟩),.c (.int .i64 0),.c (.str ⟨#[]⟩)]):=yi rfl
theorem ZGr:tt 53=some (.strct [⟨0,1,false⟩,⟨1,1,false⟩] 2 [.c (.str ⟨#[]⟩),.nil 9 1]):=yi rfl
theorem ZGf:tt 63=some (.slice 5 1 1 [.c (.int .u8 0)]):=yi rfl
theorem ZGq:tt 73=some (.strct [⟨0,1,false⟩,⟨1,1,false⟩,⟨2,1,false⟩] 3 [.c (.str ⟨#[]⟩),.c (.int .i64 0),.c (.str ⟨#[]⟩)]):=yi rfl
theorem ZGH:tt 74=some (.slice 125 3 48 [.c (.int .i64 0),.c (.str ⟨#[]⟩),.nil 9 1]):=yi rfl
theorem ZGK:tt 76=some (.strct [⟨0,1,false⟩,⟨1,1,false⟩,⟨2,1,false⟩,⟨3,1,false⟩] 4 [.c (.str ⟨#[]⟩),.c (.int .i64 0),.nil 80 5,.nil 125 3]):=yi rfl
theorem ZGo:tt 78=some (.strct [⟨0,1,false⟩,⟨1,1,false⟩] 2 [.c (.str ⟨#[]⟩),.nil 9 1]):=yi rfl
theorem ZGb:tt 80=some (.strct [⟨0,1,false⟩,⟨1,2,true⟩,⟨3,1,false⟩,⟨4,1,false⟩] 5 [.c (.int .i64 0),.c (.str ⟨#[]⟩),.nil 9 1,.c (.str ⟨#[]⟩),.c (.str ⟨#[]⟩)]):=yi rfl
theorem ZGn:tt 82=some (.slice 88 4 80 [.c (.str ⟨#[]⟩),.nil 9 1,.c (.str ⟨#[]⟩),.nil 3 1]):=yi rfl
theorem ZGd:tt 86=some (.slice 3 1 8 [.c (.int .i64 0)]):=yi rfl
theorem ZGO:tt 88=some (.strct [⟨0,2,true⟩,⟨2,1,false⟩,⟨3,1,false⟩] 4 [.c (.str ⟨#[]⟩),.nil 9 1,.c (.str ⟨#[]⟩),.nil 3 1]):=yi rfl
theorem ZGv:tt 97=some (.slice 206 3 48 [.c (.int .i64 0),.c (.str ⟨#[]⟩),.nil 9 1]):=yi rfl
theorem ZGe:tt 99=some (.strct [⟨0,1,false⟩,⟨1,1,false⟩,⟨2,1,false⟩,⟨3,1,false⟩] 4 [.c (.str ⟨#[]⟩),.c (.int .i64 0),.nil 103 5,.nil 206 3]):=yi rfl
theorem ZF4:tt 101=some (.strct [⟨0,1,false⟩,⟨1,1,false⟩] 2 [.c (.str ⟨#[]⟩),.nil 9 1]):=yi rfl
theorem ZFe:tt 103=some (.strct [⟨0,1,false⟩,⟨1,2,true⟩,⟨3,1,false⟩,⟨4,1,false⟩] 5 [.c (.int .i64 0),.c (.str ⟨#[]⟩),.nil 9 1,.c (.str ⟨#[]⟩),.c (.str ⟨#[]⟩)]):=yi rfl
theorem ZFl:tt 105=some (.slice 111 2 48 [.nil 53 2,.nil 162 2]):=yi rfl
theorem ZEQ:tt 109=some (.slice 162 2 32 [.c (.str ⟨#[]⟩),.c (.str ⟨#[]⟩)]):=yi rfl
theorem ZFm:tt 111=some (.strct [⟨0,1,false⟩,⟨1,1,false⟩] 2 [.nil 53 2,.nil 162 2]):=yi rfl
theorem ZEx:tt 125=some (.strct [⟨0,1,false⟩,⟨1,2,true⟩] 3 [.c (.int .i64 0),.c (.str ⟨#[]⟩),.nil 9 1]):=yi rfl
theorem ZEN:tt 138=some (.slice 179 3 56 [.c (.int .i64 0),.nil 3 1,.nil 3 1]):=yi rfl
theorem ZE6:tt 140=some (.strct [⟨0,1,false⟩,⟨1,1,false⟩] 2 [.c (.int .i64 0),.nil 179 3]):=yi rfl
theorem ZEw:tt 151=some (.slice 4 1 1 [.c (.bool false)]):=yi rfl
theorem ZEu:tt 162=some (.strct [⟨0,1,false⟩,⟨1,1,false⟩] 2 [.c (.str ⟨#[]⟩),.c (.str ⟨#[]⟩)]):=yi rfl
theorem ZE7:tt 174=some (.slice 181 3 64 [.c (.str ⟨#[]⟩),.nil 53 2,.nil 162 2]):=yi rfl
theorem ZE1:tt 179=some (.strct [⟨0,1,false⟩,⟨1,1,false⟩,⟨2,1,false⟩] 3 [.c (.int .i64 0),.nil 3 1,.nil 3 1]):=yi rfl
theorem ZFK:tt 181=some (.strct [⟨0,1,false⟩,⟨1,2,true⟩] 3 [.c (.str ⟨#[]⟩),.nil 53 2,.nil 162 2]):=yi rfl
theorem ZEX:tt 183=some (.slice 187 2 40 [.c (.str ⟨#[]⟩),.nil 53 2]):=yi rfl
theorem ZEn:tt 187=some (.strct [⟨0,1,false⟩,⟨1,1,false⟩] 2 [.c (.str ⟨#[]⟩),.nil 53 2]):=yi rfl
theorem ZFb:tt 189=some (.strct [⟨0,1,false⟩,⟨1,1,false⟩,⟨2,1,false⟩] 3 [.nil 5 1,.c (.int .i64 0),.c (.int .i64 0)]):=yi rfl
theorem ZEE:tt 206=some (.strct [⟨0,1,false⟩,⟨1,2,true⟩] 3 [.c (.int .i64 0),.c (.str ⟨#[]⟩),.nil 9 1]):=yi rfl
theorem ZFA:tt 251=some (.slice 151 1 24 [.nil 4 1]):=yi rfl
theorem ZEz:tt 261=some (.atom (.c (.int .u64 0))):=yi rfl
theorem ZFD:tt 269=some (.ifc):=yi rfl
theorem ZFP:tt 270=some (.ifc):=yi rfl
theorem ZFI:tt 276=some (.map .str .bool):=yi rfl
theorem ZFq:tt 279=some (.atom (.c (.int .u64 0))):=yi rfl
theorem ZFj:tt 297=some (.atom (.c (.int .u32 0))):=yi rfl
theorem ZFv:tt 355=some (.strct [⟨0,1,false⟩] 1 [.c (.str ⟨#[]⟩)]):=yi rfl
theorem ZBt:tt 4162=some (.eqs [.str,.str]):=yi rfl
theorem fnk {f : FuncId} {fn : Func} {c : Code} {args : List (Bool × List CT)} {res : List RT} (hf : prog.funcs[f]? = some fn) (hb : fn.body = some c) (h : fnS (fun _ => none) tt (SC prog J0 JF0 hds) fn.results.toList c args res) (hname : (fn.name == "runtime.NumGoroutine") = false := by kernel_rfl) (hok : X7 (fun _ => none) tt hds false fn.ntmps c = true := by kernel_rfl) (hlen : Nat.ble args.length fn.ntmps = true := by kernel_rfl) : Zm prog J0 f args res := ZwK htt hJ0 hmix hf hname hb hok hlen h
theorem fnb {f : FuncId} {fn : Func} {c : Code} {args : List (Bool × List CT)} {nb : NB} (hf : prog.funcs[f]? = some fn) (hb : fn.body = some c) (h : fnB (fun _ => none) tt (SC prog J0 JF0 hds) fn.results.toList c args nb) (hname : (fn.name == "runtime.NumGoroutine") = false := by kernel_rfl) (hok : X7 (fun _ => none) tt hds false fn.ntmps c = true := by kernel_rfl) (hlen : Nat.ble args.length fn.ntmps = true := by kernel_rfl) : ZqL prog J0 f args nb := Zvs htt hJ0 hmix hf hname hb hok hlen h
theorem fnn (t0 : Nat) {f : FuncId} {fn : Func} {c : Code} {args : List (Bool × List CT)} {res : List RT} (hf : prog.funcs[f]? = some fn) (hb : fn.body = some c) (h : fnN (fun _ => none) tt (SC prog J0 JF0 hds) fn.results.toList t0 c args res) (hname : (fn.name == "runtime.NumGoroutine") = false := by kernel_rfl) (hok : X7 (fun _ => none) tt hds false fn.ntmps c = true := by kernel_rfl) (hlen : Nat.ble args.length fn.ntmps = true := by kernel_rfl) : Zm prog J0 f args res := Zwj htt hJ0 hmix hf hname hb hok hlen t0 h
def ZoK (f:FuncId):Nat:=ZxP ([(151,2),(157,2)]++hdL) f
theorem ZDb:(SC prog J0 JF0 ZoK).hd 80=0:=yO
theorem ZDT:(SC prog J0 JF0 ZoK).hd 85=0:=yO
theorem Zzy:(SC prog J0 JF0 ZoK).hd 112=0:=yO
theorem Zzx:(SC prog J0 JF0 ZoK).hd 114=0:=yO
theorem ZyJ:(SC prog J0 JF0 ZoK).hd 151=2:=yO
theorem Zye:(SC prog J0 JF0 ZoK).hd 152=0:=yO
theorem Zy7:(SC prog J0 JF0 ZoK).hd 153=0:=yO
theorem Zzq:(SC prog J0 JF0 ZoK).hd 154=0:=yO
theorem Zy3:(SC prog J0 JF0 ZoK).hd 157=2:=yO
theorem Zy1:(SC prog J0 JF0 ZoK).hd 158=0:=yO
def Zs (x:Zc):List CT:=[.str x.rel,.sl 9 1 (A0 ZA x.args)]
theorem ZxH (x:Zc):Zs x=[.str x.rel,.sl 9 1 (A0 ZA x.args)]:=yi rfl
def ZzG (x:Zwt):List CT:=[.str x.rule,.int .i64 x.done,.str x.cond]
theorem ZwO (x:Zwt):ZzG x=[.str x.rule,.int .i64 x.done,.str x.cond]:=yi rfl
theorem Ztl (l:List Zwt):ZaN (l.map ZzG)=true:=Zbf (fun _=>rfl) l
def Qp (x:Zx):List CT:=[.str x.rel,.sl 9 1 (A0 ZA x.args)]
theorem Zr6 (x:Zx):Qp x=[.str x.rel,.sl 9 1 (A0 ZA x.args)]:=yi rfl
def ZJ (x:Zl):List CT:=[.int .i64 x.kind,.str x.pattern.rel,.sl 9 1 (A0 ZA x.pattern.args),.str x.left,.str x.right]
theorem Zxh (x:Zl):ZJ x=[.int .i64 x.kind,.str x.pattern.rel,.sl 9 1 (A0 ZA x.pattern.args),.str x.left,.str x.right]:=yi rfl
def ZI (x:Zu):List CT:=[.int .i64 x.kind,.str x.pattern.rel,.sl 9 1 (A0 ZA x.pattern.args)]
theorem Zt3 (x:Zu):ZI x=[.int .i64 x.kind,.str x.pattern.rel,.sl 9 1 (A0 ZA x.pattern.args)]:=yi rfl
def ZL (x:Zg):List CT:=[.str x.name,.int .i64 x.priority,.sl 80 5 (A0 ZJ x.cond),.sl 125 3 (A0 ZI x.thn)]
theorem Zxm (x:Zg):ZL x=[.str x.name,.int .i64 x.priority,.sl 80 5 (A0 ZJ x.cond),.sl 125 3 (A0 ZI x.thn)]:=yi rfl
def ZF5 (x:ZzC):List CT:=[.str x.fact.rel,.sl 9 1 (A0 ZA x.fact.args),.str x.rule,.sl 3 1 (A0 ZO x.uses)]
theorem ZxR (x:ZzC):ZF5 x=[.str x.fact.rel,.sl 9 1 (A0 ZA x.fact.args),.str x.rule,.sl 3 1 (A0 ZO x.uses)]:=yi rfl
def ZR (x:Zi):List CT:=[.str x.var,.str x.value]
theorem Zx1 (x:Zi):ZR x=[.str x.var,.str x.value]:=yi rfl
theorem Zt8 (l:List Zi):ZaN (l.map ZR)=true:=Zbf (fun _=>rfl) l
def YU (x:Zq):List CT:=[.sl 53 2 (A0 Zs x.facts),.sl 162 2 (A0 ZR x.binding)]
theorem Zwi (x:Zq):YU x=[.sl 53 2 (A0 Zs x.facts),.sl 162 2 (A0 ZR x.binding)]:=yi rfl
def ZG (x:Zf):List CT:=[.int .i64 x.for_,.sl 3 1 (A0 ZO x.inn),.sl 3 1 (A0 ZO x.outs)]
theorem Zth (x:Zf):ZG x=[.int .i64 x.for_,.sl 3 1 (A0 ZO x.inn),.sl 3 1 (A0 ZO x.outs)]:=yi rfl
def Qu (x:Zt):List CT:=[.int .i64 x.nodes,.sl 179 3 (A0 ZG x.reasons)]
theorem Zsj (x:Zt):Qu x=[.int .i64 x.nodes,.sl 179 3 (A0 ZG x.reasons)]:=yi rfl
def ZfI (x:XR):List CT:=[.str x.rule,.sl 53 2 (A0 Zs x.token.facts),.sl 162 2 (A0 ZR x.token.binding)]
theorem ZqJ (x:XR):ZfI x=[.str x.rule,.sl 53 2 (A0 Zs x.token.facts),.sl 162 2 (A0 ZR x.token.binding)]:=yi rfl
def Zh4 (x:Za4):List CT:=[.str x.rule,.sl 53 2 (A0 Zs x.facts)]
theorem Ztx (x:Za4):Zh4 x=[.str x.rule,.sl 53 2 (A0 Zs x.facts)]:=yi rfl
def ZAW (x:ZwG):List CT:=[.sl 5 1 (A0 Zs8 x.b),.int .i64 x.i,.int .i64 x.h]
theorem Zvb (x:ZwG):ZAW x=[.sl 5 1 (A0 Zs8 x.b),.int .i64 x.i,.int .i64 x.h]:=yi rfl
def ZeO (x:(List Zi)):List CT:=[.sl 162 2 (A0 ZR x)]
theorem Zmh (x:(List Zi)):ZeO x=[.sl 162 2 (A0 ZR x)]:=yi rfl
def Zv9 (x:(List Bool)):List CT:=[.sl 4 1 (A0 Ze4 x)]
theorem ZqM (x:(List Bool)):Zv9 x=[.sl 4 1 (A0 Ze4 x)]:=yi rfl
attribute [go_sem] tt2 tt3 tt4 tt5 tt9 ZGz ZGt ZGE ZGj ZGh ZGJ ZGp ZGV ZGD ZGU ZGy ZGx ZGB ZGw ZGr ZGf ZGq ZGH ZGK ZGo ZGb ZGn ZGd ZGO ZGv ZGe ZF4 ZFe ZFl ZEQ ZFm ZEx ZEN ZE6 ZEw
attribute [go_sem] ZEu ZE7 ZE1 ZFK ZEX ZEn ZFb ZEE ZFA ZEz ZFD ZFP ZFI ZFq ZFj ZFv ZBt ZGG ZFJ ZFB ZF0 ZE2 ZFw ZFc ZFf ZFQ ZF9 ZFp ZF3 ZEV ZEU ZFY ZFG ZFW ZFM ZF2 ZFO ZEI ZEW ZE9
attribute [go_sem] ZFZ ZFx ZEA ZE5 ZFL ZED ZEH ZFC ZEK ZFd ZFg ZEo ZEs ZEq ZEG ZE4 ZFS ZFr ZFT ZFo ZFk ZEM ZFX ZFU ZEt ZFa ZFu ZF1 ZFt ZAy ZEd ZC3 ZA4 ZEe ZAJ ZDV ZCw ZBv ZCN ZBb
attribute [go_sem] ZEl ZBC ZCJ Zz0 ZBf ZDn ZD1 ZBs ZBQ ZDW ZA3 ZEg ZEc ZBz ZDl ZC6 ZD3 ZC9 ZCQ ZDE ZBV ZCb ZDI ZAf ZDY ZBM ZCP ZBB ZD7 ZD8 ZAE Zz6 ZBE ZDO ZBW ZAR ZAZ ZCq ZAY ZzN
attribute [go_sem] ZBU ZBS ZDt ZCp ZD9 ZAg ZEf ZBN Zz1 ZBZ ZBX ZBq ZAT ZEa ZDa ZAk ZDQ ZDg ZA7 ZDf ZDL ZBD ZBI ZBT ZA5 ZAj ZCj ZAx ZCC ZBd ZAK ZBp Zz8 ZDZ ZD4 ZzU ZAC ZB5 ZCD ZBn
attribute [go_sem] ZEj ZDG ZBg ZAN Zz2 ZB3 ZAP ZB7 ZB1 ZCt ZDh ZC2 ZCs ZAL ZBJ ZCd ZAo ZA0 ZzW ZCf ZBF ZCU ZDJ ZCV ZBY ZBO ZA1 ZAb ZDp ZAt ZAs ZAS ZDq ZCZ ZDN ZAp ZAV ZCW ZCK ZBH
attribute [go_sem] ZAI ZzK ZCX Zz7 ZDP ZAn Zz3 Zz5 ZBx ZCL ZBk ZCg ZAa ZBu ZAF ZDs ZDR ZBy ZCu ZAO ZBh ZDF ZCz ZC4 ZDA ZDi ZCc ZDC ZBR ZDD ZB8 ZDm ZAh ZB4 ZEm ZC7 ZzY ZzM ZzP ZDd
attribute [go_sem] ZAi ZDz ZEh ZCa ZCi ZzZ ZDy ZAr ZD6 ZAM ZCB ZCI ZBG ZBm ZBl ZCO ZCA ZBw ZD2 ZDj ZCF ZB9 ZCh ZDo ZBK ZCG ZDK ZA8 ZDU ZDb ZDT Zzy Zzx ZyJ Zye Zy7 Zzq Zy3 Zy1 ZxH
attribute [go_sem] Ztl ZwO Zr6 Zxh Zt3 Zxm ZxR Zt8 Zx1 Zwi Zth Zsj ZqJ Ztx Zvb Zmh ZqM
end
section
theorem yA{p q:Prop}(h:q)(e:p=q:=by simp only[*,go_sem,seval];try rfl):p:=e▸h
theorem yD{p:Prop}(e:p:=by simp only[*,go_sem,seval]):p:=e
theorem yB{α:Type}{G q v:Prop}{b:Bool}{x y:Option α}{r:α}(h:(if b=true then x else y)=some r)(h1:b=true→x=some r→q)(h2:b=false→y=some r→v)(e:∀(_:b=true)(_:x=some r),G=q:=by intro _ _;(try simp only[*,go_sem,seval]);try rfl)(f:∀(_:b=false)(_:y=some r),G=v:=by intro _ _;(try simp only[*,go_sem,seval]);try rfl):G:=Ze h (fun a c=>(e a c)▸h1 a c) fun a c=>(f a c)▸h2 a c
theorem yC{σ ρ:Type}{s:σ}{y:σ⊕ρ}{C:σ→List (Bool×Nat×Nat)→List Nat→Prop}(h:some (.inl s)=some y)(ms:List (Bool×Nat×Nat))(k:List Nat)(d:k.Nodup:=by decide)(e:C s ms k:=by simp only[*,go_sem,seval]):∃s' ms k,y=.inl s'∧k.Nodup∧C s' ms k:=⟨s,ms,k,(Option.some.inj h).symm,d,e⟩
theorem yR{σ ρ:Type}{s:σ}{y:σ⊕ρ}{C:σ→List (Bool×Nat×Nat)→List Nat→Prop}(h:some (.inl s)=some y)(k:List Nat)(d:k.Nodup:=by decide)(e:C s [] k:=by simp only[*,go_sem,seval]):∃s' ms k,y=.inl s'∧k.Nodup∧C s' ms k:=⟨s,[],k,(Option.some.inj h).symm,d,e⟩
def yL(n:Nat):SV:=.p false [.c (.int .i64 (n:Int))]
def yM(x:CT):SV:=.p false [.c x]
def zC(t:Nat)(l:List CT):Ob:=.box t (l.map .c)
attribute [go_sem] yL yM zC List.map_cons List.map_nil
def yT(l:List Zc):CT:=.sl 53 2 (List.map Zs l)
attribute [go_sem] yT
def yU(l:List ByteArray):CT:=.sl 9 1 (List.map ZA l)
attribute [go_sem] yU
def yV(l:List Int):CT:=.sl 3 1 (List.map ZO l)
attribute [go_sem] yV
def yW(l:List Zl):CT:=.sl 80 5 (List.map ZJ l)
attribute [go_sem] yW
def yX(l:List Zi):CT:=.sl 162 2 (List.map ZR l)
attribute [go_sem] yX
def yY(l:List Zg):CT:=.sl 76 4 (List.map ZL l)
attribute [go_sem] yY
def yZ(l:List Zu):CT:=.sl 125 3 (List.map ZI l)
attribute [go_sem] yZ
def zA(l:List Zf):CT:=.sl 179 3 (List.map ZG l)
attribute [go_sem] zA
def zB(l:List Zq):CT:=.sl 111 2 (List.map YU l)
attribute [go_sem] zB
theorem XF {a:(List ByteArray)} {b:ByteArray} {r:(List ByteArray)} (h:Qd a b=some r):Zm prog J0 242 [(false,[.sl 9 1 (A0 ZA a)]),(false,[.str b])] [(false,[(false,.sl 9 1 (A0 ZA r))])]:=by
 refine fnk func242 rfl ?_
 unfold Qd at h
 simp only[fnS,f242,Zo,go_sem,seval]
 refine Zh h (fun i s st=>match s with | (d,e)=>IV [(0,yM (yU a)),(1,yM (.str b)),(5,.p false [.row 0]),(6,yM (.bool e)),(7,yL i)] [.row 9 1 (A0 ZA d) 2] st) [] [16] yF yD ?_ ?_
 rintro _ _ ⟨d,e⟩ ⟨_,_,_⟩ _ f g l h _
 simp only[go_sem,seval,Zb] at g
 obtain ⟨⟨m,_,_,_,_⟩,_,hn⟩:=g
 subst hn
 have o:=WF.slotL l m (j:=0) rfl
 have:=ZC f
 have:=ZE f
 have:=Zk (ZD f) o
 try simp only[*,go_sem,seval]
 refine yB h (fun _ h=>?_) fun _ h=>?_
 obtain ⟨q,h⟩:=Zv h
 try simp only[Nat.reduceLeDiff] at q
 try simp only[*,go_sem,seval]
 refine ⟨_,[],[321],(A3 h).symm,yF,?_⟩
 try simp only[*,go_sem,seval]
 refine yB h (fun _ h=>?_) fun _ h=>?_
 obtain ⟨t,h⟩:=Zv h
 try simp only[Nat.reduceLeDiff] at t
 try simp only[*,go_sem,seval]
 refine ⟨_,[],[321],(A3 h).symm,yF,?_⟩
 try simp only[*,go_sem,seval]
 refine yB h (fun _ h=>?_) fun _ h=>?_
 obtain ⟨u,h⟩:=Zv h
 try simp only[Nat.reduceLeDiff] at u
 try simp only[*,go_sem,seval]
 refine ⟨_,[],[433],(A3 h).symm,yF,?_⟩
 try simp only[*,go_sem,seval]
 obtain ⟨v,h⟩:=Zv h
 try simp only[Nat.reduceLeDiff] at v
 obtain ⟨w,h⟩:=Zv h
 try simp only[Nat.reduceLeDiff] at w
 try simp only[*,go_sem,seval]
 refine ⟨_,[],[513],(A3 h).symm,yF,?_⟩
 try simp only[*,go_sem,seval]
 rintro ⟨d,e⟩ ⟨_,_,_⟩ k _ h
 simp only[go_sem,seval,Zb] at k
 obtain ⟨⟨_,_,_,_,_⟩,_,hn⟩:=k
 subst hn
 have:=ZB (a.length)
 try simp only[*,go_sem,seval]
 refine yB h (fun _ h=>?_) fun _ h=>?_
 cases h
 try simp only[*,go_sem,seval]
 obtain ⟨x,h⟩:=Zv h
 try simp only[Nat.reduceLeDiff] at x
 cases h
 try simp only[*,go_sem,seval]
theorem YQ {l_0:(List ByteArray)} {s_1:ByteArray} {r:Bool} (h:ZW l_0 s_1=some r):Zm prog J0 181 [(false,[.sl 9 1 (A0 ZA l_0)]),(false,[.str s_1])] [(false,[(false,.bool r)])]:=by
 refine fnk func181 rfl ?_
 unfold ZW at h
 simp only[fnS,f181,Zo,go_sem,seval]
 refine Zh h (fun i _ st=>IV [(0,yM (yU l_0)),(1,yM (.str s_1)),(5,yL i)] [] st) [] [] yF yD ?_ ?_
 rintro _ _ ⟨⟩ ⟨_,_,_⟩ _ a b e h f
 simp only[go_sem,seval,Zb] at b
 obtain ⟨⟨g,_,_⟩,hn⟩:=b
 subst hn
 have k:=WF.slotL e g (j:=0) rfl
 have:=ZC a
 have:=ZE a
 have:=Zk (ZD a) k
 try simp only[*,go_sem,seval]
 refine yB h (fun _ h=>?_) fun _ h=>?_
 replace h:=Zr h f
 cases h
 try simp only[*,go_sem,seval]
 refine ⟨_,[],[],(A3 h).symm,yF,?_⟩
 try simp only[*,go_sem,seval]
 rintro ⟨⟩ ⟨_,_,_⟩ d _ h
 simp only[go_sem,seval,Zb] at d
 obtain ⟨⟨_,_,_⟩,hn⟩:=d
 subst hn
 have:=ZB (l_0.length)
 cases h
 try simp only[*,go_sem,seval]
theorem Zmz {a_0:ByteArray} {b_1:ByteArray} {r:Int} (h:Zh8 a_0 b_1=some r):Zm prog J0 115 [(false,[.str a_0]),(false,[.str b_1])] [(false,[(false,.int .i64 r)])]:=by
 refine fnk func115 rfl ?_
 unfold Zh8 at h
 simp only[fnS,f115,Zo,go_sem,seval]
 refine yB h (fun a h=>?_) fun a h=>?_
 cases h
 try simp only[*,go_sem,seval]
 refine Ze h (fun b h=>?_) (fun b h=>?_)
 have c:=b
 try simp only[a,AA,AB] at c
 cases h
 try simp only[*,go_sem,seval]
 have c:=b
 try simp only[a,AA,AB] at c
 cases h
 try simp only[*,go_sem,seval]
theorem ZqC {l_0:(List ByteArray)} {r:(List ByteArray)} (h:ZfK l_0=some r):Zm prog J0 214 [(false,[.sl 9 1 (A0 ZA l_0)])] [(false,[(false,.sl 9 1 (A0 ZA r))])]:=by
 refine fnk func214 rfl ?_
 unfold ZfK at h
 simp only[fnS,f214,Zo,go_sem,seval]
 obtain ⟨a,h⟩:=Zv h
 try simp only[Nat.reduceLeDiff] at a
 cases h
 try simp only[*,go_sem,seval]
theorem ZeN {b_0:(List Zi)} {r:(List Zi)} (h:ZaS b_0=some r):Zm prog J0 65 [(false,[.sl 162 2 (A0 ZR b_0)])] [(false,[(false,.sl 162 2 (A0 ZR r))])]:=by
 refine fnk func65 rfl ?_
 unfold ZaS at h
 simp only[fnS,f65,Zo,go_sem,seval]
 obtain ⟨a,h⟩:=Zv h
 try simp only[Nat.reduceLeDiff] at a
 cases h
 try simp only[*,go_sem,seval]
theorem ZtD {a:(List Zi)} {b:ByteArray} {d:ByteArray} {r:(List Zi)} (h:ZjO a b d=some r):Zm prog J0 204 [(false,[.sl 162 2 (A0 ZR a)]),(false,[.str b]),(false,[.str d])] [(false,[(false,.sl 162 2 (A0 ZR r))])]:=by
 refine fnk func204 rfl ?_
 unfold ZjO at h
 simp only[fnS,f204,Zo,go_sem,seval]
 refine Zh h (fun i s st=>match s with | (e,f)=>IV [(0,yM (yX a)),(1,yM (.str b)),(2,yM (.str d)),(7,.p false [.row 0]),(8,yM (.bool f)),(9,yL i)] [.row 162 2 (A0 ZR e) 2] st) [] [16] yF yD ?_ ?_
 rintro _ _ ⟨e,f⟩ ⟨_,_,_⟩ _ g o t h _
 simp only[go_sem,seval,Zb] at o
 obtain ⟨⟨u,_,_,_,_,_⟩,_,hn⟩:=o
 subst hn
 have v:=WF.slotL t u (j:=0) rfl
 have:=ZC g
 have:=ZE g
 have:=Zk (ZD g) v
 try simp only[*,go_sem,seval]
 refine yB h (fun k h=>?_) fun k h=>?_
 obtain ⟨w,h⟩:=Zv h
 try simp only[Nat.reduceLeDiff] at w
 try simp only[*,go_sem,seval]
 refine ⟨_,[],[337],(A3 h).symm,yF,?_⟩
 try simp only[*,go_sem,seval]
 refine Ze h (fun l h=>?_) (fun l h=>?_)
 have m:=l
 try simp only[k,AA,AB] at m
 obtain ⟨x,h⟩:=Zv h
 try simp only[Nat.reduceLeDiff] at x
 try simp only[*,go_sem,seval]
 refine ⟨_,[],[337],(A3 h).symm,yF,?_⟩
 try simp only[*,go_sem,seval]
 have m:=l
 try simp only[k,AA,AB] at m
 obtain ⟨y,h⟩:=Zv h
 try simp only[Nat.reduceLeDiff] at y
 obtain ⟨z,h⟩:=Zv h
 try simp only[Nat.reduceLeDiff] at z
 try simp only[*,go_sem,seval]
 refine ⟨_,[],[465],(A3 h).symm,yF,?_⟩
 try simp only[*,go_sem,seval]
 rintro ⟨e,f⟩ ⟨_,_,_⟩ q _ h
 simp only[go_sem,seval,Zb] at q
 obtain ⟨⟨_,_,_,_,_,_⟩,_,hn⟩:=q
 subst hn
 have:=ZB (a.length)
 try simp only[*,go_sem,seval]
 refine yB h (fun _ h=>?_) fun _ h=>?_
 cases h
 try simp only[*,go_sem,seval]
 obtain ⟨A,h⟩:=Zv h
 try simp only[Nat.reduceLeDiff] at A
 cases h
 try simp only[*,go_sem,seval]
theorem ZfX {r_0:Zg} {r:(List Zl)} (h:X8 r_0=some r):Zm prog J0 210 [(true,ZL r_0)] [(false,[(true,.sl 80 5 (A0 ZJ r))])]:=by
 refine fnk func210 rfl ?_
 unfold X8 at h
 simp only[fnS,f210,Zo,go_sem,seval]
 refine Zh h (fun i a st=>IV [(1,.bp 0 0),(3,.p false [.row 1]),(4,yL i)] [zC 76 (ZL r_0),.row 80 5 (A0 ZJ a) 1] st) [(true,32,1)] [0,32] yF yD ?_ ?_
 rintro _ _ a ⟨_,_,_⟩ _ b d f h _
 simp only[go_sem,seval,Zb] at d
 obtain ⟨⟨_,_,_⟩,g,_,hn⟩:=d
 subst hn
 have k:=WF.boxL f g (j:=2) rfl
 have:=ZC b
 have:=ZE b
 have:=Zk (ZD b) k
 try simp only[*,go_sem,seval]
 refine yB h (fun _ h=>?_) fun _ h=>?_
 obtain ⟨l,h⟩:=Zv h
 try simp only[Nat.reduceLeDiff] at l
 try simp only[*,go_sem,seval]
 refine ⟨_,[],[0,306],(A3 h).symm,yF,?_⟩
 try simp only[*,go_sem,seval]
 refine ⟨_,[],[0,1],(A3 h).symm,yF,?_⟩
 try simp only[*,go_sem,seval]
 rintro a ⟨_,_,_⟩ e _ h
 simp only[go_sem,seval,Zb] at e
 obtain ⟨⟨_,_,_⟩,_,_,hn⟩:=e
 subst hn
 have:=ZB (r_0.cond.length)
 cases h
 try simp only[*,go_sem,seval]
theorem Zob {l_0:(List Zg)} {name_1:ByteArray} {r:Int} (h:Zga l_0 name_1=some r):Zm prog J0 45 [(false,[.sl 76 4 (A0 ZL l_0)]),(false,[.str name_1])] [(false,[(false,.int .i64 r)])]:=by
 refine fnk func45 rfl ?_
 unfold Zga at h
 simp only[fnS,f45,Zo,go_sem,seval]
 refine Zh h (fun i _ st=>IV [(0,yM (yY l_0)),(1,yM (.str name_1)),(5,yL i)] [] st) [] [] yF yD ?_ ?_
 rintro _ _ ⟨⟩ ⟨_,_,_⟩ _ a b e h f
 simp only[go_sem,seval,Zb] at b
 obtain ⟨⟨g,_,_⟩,hn⟩:=b
 subst hn
 have k:=WF.slotL e g (j:=0) rfl
 have:=ZC a
 have:=ZE a
 have:=Zk (ZD a) k
 try simp only[*,go_sem,seval]
 refine yB h (fun _ h=>?_) fun _ h=>?_
 replace h:=Zr h f
 cases h
 try simp only[*,go_sem,seval]
 refine ⟨_,[],[],(A3 h).symm,yF,?_⟩
 try simp only[*,go_sem,seval]
 rintro ⟨⟩ ⟨_,_,_⟩ d _ h
 simp only[go_sem,seval,Zb] at d
 obtain ⟨⟨_,_,_⟩,hn⟩:=d
 subst hn
 have:=ZB (l_0.length)
 cases h
 try simp only[*,go_sem,seval]
theorem Zks {a_0:(List ByteArray)} {b_1:(List ByteArray)} {r:Bool} (h:Ze7 a_0 b_1=some r):Zm prog J0 201 [(false,[.sl 9 1 (A0 ZA a_0)]),(false,[.sl 9 1 (A0 ZA b_1)])] [(false,[(false,.bool r)])]:=by
 refine fnk func201 rfl ?_
 unfold Ze7 at h
 simp only[fnS,f201,Zo,go_sem,seval]
 refine yB h (fun _ h=>?_) fun _ h=>?_
 cases h
 try simp only[*,go_sem,seval]
 refine Zh h (fun i _ st=>IV [(0,yM (yU a_0)),(1,yM (yU b_1)),(5,yL i)] [] st) [] [] yF yD ?_ ?_
 rintro _ _ ⟨⟩ ⟨_,_,_⟩ _ a b e h f
 simp only[go_sem,seval,Zb] at b
 obtain ⟨⟨g,_,_⟩,hn⟩:=b
 subst hn
 have k:=WF.slotL e g (j:=0) rfl
 have:=ZC a
 have:=ZE a
 have:=Zk (ZD a) k
 obtain ⟨_,_,_,l,h⟩:=ZcM h
 simp only[A6] at l
 try simp only[*,go_sem,seval]
 refine yB h (fun _ h=>?_) fun _ h=>?_
 refine ⟨_,[],[],(A3 h).symm,yF,?_⟩
 try simp only[*,go_sem,seval]
 replace h:=Zr h f
 cases h
 try simp only[*,go_sem,seval]
 rintro ⟨⟩ ⟨_,_,_⟩ d _ h
 simp only[go_sem,seval,Zb] at d
 obtain ⟨⟨_,_,_⟩,hn⟩:=d
 subst hn
 have:=ZB (a_0.length)
 cases h
 try simp only[*,go_sem,seval]
theorem ZsW {a:(List Int)} {b:Int} {r:(List Int)} (h:ZhE a b=some r):Zm prog J0 288 [(false,[.sl 3 1 (A0 ZO a)]),(false,[.int .i64 b])] [(false,[(false,.sl 3 1 (A0 ZO r))])]:=by
 refine fnk func288 rfl ?_
 unfold ZhE at h
 simp only[fnS,f288,Zo,go_sem,seval]
 refine Zh h (fun i s st=>match s with | (d,e)=>IV [(0,yM (yV a)),(1,yM (.int .i64 b)),(5,.p false [.row 0]),(6,yM (.bool e)),(7,yL i)] [.row 3 1 (A0 ZO d) 2] st) [] [16] yF yD ?_ ?_
 rintro _ _ ⟨d,e⟩ ⟨_,_,_⟩ _ f k m h _
 simp only[go_sem,seval,Zb] at k
 obtain ⟨⟨o,_,_,_,_⟩,_,hn⟩:=k
 subst hn
 have q:=WF.slotL m o (j:=0) rfl
 have:=ZC f
 have:=ZE f
 have:=Zk (ZD f) q
 try simp only[*,go_sem,seval]
 refine yB h (fun _ h=>?_) fun _ h=>?_
 obtain ⟨t,h⟩:=Zv h
 try simp only[Nat.reduceLeDiff] at t
 try simp only[*,go_sem,seval]
 refine ⟨_,[],[321],(A3 h).symm,yF,?_⟩
 try simp only[*,go_sem,seval]
 iterate 2 refine yB h (fun _ h=>?_) fun _ h=>?_
 obtain ⟨u,h⟩:=Zv h
 try simp only[Nat.reduceLeDiff] at u
 obtain ⟨v,h⟩:=Zv h
 try simp only[Nat.reduceLeDiff] at v
 try simp only[*,go_sem,seval]
 refine ⟨_,[],[513],(A3 h).symm,yF,?_⟩
 try simp only[*,go_sem,seval]
 obtain ⟨w,h⟩:=Zv h
 try simp only[Nat.reduceLeDiff] at w
 try simp only[*,go_sem,seval]
 refine ⟨_,[],[433],(A3 h).symm,yF,?_⟩
 try simp only[*,go_sem,seval]
 obtain ⟨x,h⟩:=Zv h
 try simp only[Nat.reduceLeDiff] at x
 try simp only[*,go_sem,seval]
 refine ⟨_,[],[321],(A3 h).symm,yF,?_⟩
 try simp only[*,go_sem,seval]
 rintro ⟨d,e⟩ ⟨_,_,_⟩ l _ h
 simp only[go_sem,seval,Zb] at l
 obtain ⟨⟨_,_,_,_,_⟩,_,hn⟩:=l
 subst hn
 have:=ZB (a.length)
 try simp only[*,go_sem,seval]
 refine yB h (fun _ h=>?_) fun _ h=>?_
 cases h
 try simp only[*,go_sem,seval]
 obtain ⟨y,h⟩:=Zv h
 try simp only[Nat.reduceLeDiff] at y
 cases h
 try simp only[*,go_sem,seval]
theorem Zgz {a_0:(List Int)} {b_1:(List Int)} {r:Bool} (h:Zb3 a_0 b_1=some r):Zm prog J0 252 [(false,[.sl 3 1 (A0 ZO a_0)]),(false,[.sl 3 1 (A0 ZO b_1)])] [(false,[(false,.bool r)])]:=by
 refine fnk func252 rfl ?_
 unfold Zb3 at h
 simp only[fnS,f252,Zo,go_sem,seval]
 refine yB h (fun _ h=>?_) fun _ h=>?_
 cases h
 try simp only[*,go_sem,seval]
 refine Zh h (fun i _ st=>IV [(0,yM (yV a_0)),(1,yM (yV b_1)),(5,yL i)] [] st) [] [] yF yD ?_ ?_
 rintro _ _ ⟨⟩ ⟨_,_,_⟩ _ a b e h f
 simp only[go_sem,seval,Zb] at b
 obtain ⟨⟨g,_,_⟩,hn⟩:=b
 subst hn
 have k:=WF.slotL e g (j:=0) rfl
 have:=ZC a
 have:=ZE a
 have:=Zk (ZD a) k
 obtain ⟨_,_,_,l,h⟩:=ZcM h
 simp only[A6] at l
 try simp only[*,go_sem,seval]
 refine yB h (fun _ h=>?_) fun _ h=>?_
 replace h:=Zr h f
 cases h
 try simp only[*,go_sem,seval]
 refine ⟨_,[],[],(A3 h).symm,yF,?_⟩
 try simp only[*,go_sem,seval]
 rintro ⟨⟩ ⟨_,_,_⟩ d _ h
 simp only[go_sem,seval,Zb] at d
 obtain ⟨⟨_,_,_⟩,hn⟩:=d
 subst hn
 have:=ZB (a_0.length)
 cases h
 try simp only[*,go_sem,seval]
theorem Zq8 {l_0:(List Int)} {r:(List Int)} (h:Zjo l_0=some r):Zm prog J0 234 [(false,[.sl 3 1 (A0 ZO l_0)])] [(false,[(false,.sl 3 1 (A0 ZO r))])]:=by
 refine fnk func234 rfl ?_
 unfold Zjo at h
 simp only[fnS,f234,Zo,go_sem,seval]
 obtain ⟨a,h⟩:=Zv h
 try simp only[Nat.reduceLeDiff] at a
 cases h
 try simp only[*,go_sem,seval]
theorem ZmL {l_0:(List Int)} {rounds_1:(List Int)} {round_2:Int} {r:Bool} (h:Zc5 l_0 rounds_1 round_2=some r):Zm prog J0 289 [(false,[.sl 3 1 (A0 ZO l_0)]),(false,[.sl 3 1 (A0 ZO rounds_1)]),(false,[.int .i64 round_2])] [(false,[(false,.bool r)])]:=by
 refine fnk func289 rfl ?_
 unfold Zc5 at h
 simp only[fnS,f289,Zo,go_sem,seval]
 refine Zh h (fun i _ st=>IV [(0,yM (yV l_0)),(1,yM (yV rounds_1)),(2,yM (.int .i64 round_2)),(7,yL i)] [] st) [] [] yF yD ?_ ?_
 rintro _ _ ⟨⟩ ⟨_,_,_⟩ _ a b f h d
 simp only[go_sem,seval,Zb] at b
 obtain ⟨⟨g,_,_,_⟩,hn⟩:=b
 subst hn
 have k:=WF.slotL f g (j:=0) rfl
 have:=ZC a
 have:=ZE a
 have:=Zk (ZD a) k
 obtain ⟨_,_,_,_,h⟩:=ZcM h
 try simp only[*,go_sem,seval]
 refine yB h (fun _ h=>?_) fun _ h=>?_
 replace h:=Zr h d
 cases h
 try simp only[*,go_sem,seval]
 refine yB h (fun _ h=>?_) fun _ h=>?_
 replace h:=Zr h d
 cases h
 try simp only[*,go_sem,seval]
 refine ⟨_,[],[],(A3 h).symm,yF,?_⟩
 try simp only[*,go_sem,seval]
 rintro ⟨⟩ ⟨_,_,_⟩ e _ h
 simp only[go_sem,seval,Zb] at e
 obtain ⟨⟨_,_,_,_⟩,hn⟩:=e
 subst hn
 have:=ZB (l_0.length)
 cases h
 try simp only[*,go_sem,seval]
theorem Zqc {l_0:(List Int)} {rounds_1:(List Int)} {r:Bool} (h:ZfV l_0 rounds_1=some r):Zm prog J0 290 [(false,[.sl 3 1 (A0 ZO l_0)]),(false,[.sl 3 1 (A0 ZO rounds_1)])] [(false,[(false,.bool r)])]:=by
 refine fnk func290 rfl ?_
 unfold ZfV at h
 simp only[fnS,f290,Zo,go_sem,seval]
 refine Zh h (fun i _ st=>IV [(0,yM (yV l_0)),(1,yM (yV rounds_1)),(5,yL i)] [] st) [] [] yF yD ?_ ?_
 rintro _ _ ⟨⟩ ⟨_,_,_⟩ _ a b e h f
 simp only[go_sem,seval,Zb] at b
 obtain ⟨⟨g,_,_⟩,hn⟩:=b
 subst hn
 have k:=WF.slotL e g (j:=0) rfl
 have:=ZC a
 have:=ZE a
 have:=Zk (ZD a) k
 obtain ⟨_,_,_,_,h⟩:=ZcM h
 try simp only[*,go_sem,seval]
 refine yB h (fun _ h=>?_) fun _ h=>?_
 replace h:=Zr h f
 cases h
 try simp only[*,go_sem,seval]
 refine ⟨_,[],[],(A3 h).symm,yF,?_⟩
 try simp only[*,go_sem,seval]
 rintro ⟨⟩ ⟨_,_,_⟩ d _ h
 simp only[go_sem,seval,Zb] at d
 obtain ⟨⟨_,_,_⟩,hn⟩:=d
 subst hn
 have:=ZB (l_0.length)
 cases h
 try simp only[*,go_sem,seval]
theorem ZdK {s_0:ByteArray} {a_1:(List Zi)} {r:ByteArray} (h:Zbm s_0 a_1=some r):Zm prog J0 245 [(false,[.str s_0]),(false,[.sl 162 2 (A0 ZR a_1)])] [(false,[(false,.str r)])]:=by
 refine fnk func245 rfl ?_
 unfold Zbm at h
 have e:ZbS ⟨#[]⟩=true:=by decide
 simp only[fnS,f245,Zo,go_sem,seval,e]
 refine Zh h (fun i _ st=>IV [(0,yM (.str s_0)),(1,yM (yX a_1)),(5,yL i)] [] st) [] [] yF yD ?_ ?_
 rintro _ _ ⟨⟩ ⟨_,_,_⟩ _ a b f h g
 simp only[go_sem,seval,Zb] at b
 obtain ⟨⟨_,k,_⟩,hn⟩:=b
 subst hn
 have l:=WF.slotL f k (j:=0) rfl
 have:=ZC a
 have:=ZE a
 have:=Zk (ZD a) l
 try simp only[*,go_sem,seval]
 refine yB h (fun _ h=>?_) fun _ h=>?_
 replace h:=Zr h g
 cases h
 try simp only[*,go_sem,seval]
 refine ⟨_,[],[],(A3 h).symm,yF,?_⟩
 try simp only[*,go_sem,seval]
 rintro ⟨⟩ ⟨_,_,_⟩ d _ h
 simp only[go_sem,seval,Zb] at d
 obtain ⟨⟨_,_,_⟩,hn⟩:=d
 subst hn
 have:=ZB (a_1.length)
 cases h
 try simp only[*,go_sem,seval]
theorem ZiR {a_0:(List Zi)} {b_1:(List Zi)} {r:Bool} (h:Za6 a_0 b_1=some r):Zm prog J0 64 [(false,[.sl 162 2 (A0 ZR a_0)]),(false,[.sl 162 2 (A0 ZR b_1)])] [(false,[(false,.bool r)])]:=by
 refine fnk func64 rfl ?_
 unfold Za6 at h
 simp only[fnS,f64,Zo,go_sem,seval]
 refine yB h (fun _ h=>?_) fun _ h=>?_
 cases h
 try simp only[*,go_sem,seval]
 refine Zh h (fun i _ st=>IV [(0,yM (yX a_0)),(1,yM (yX b_1)),(5,yL i)] [] st) [] [] yF yD ?_ ?_
 rintro _ _ ⟨⟩ ⟨_,_,_⟩ _ a b e h f
 simp only[go_sem,seval,Zb] at b
 obtain ⟨⟨g,_,_⟩,hn⟩:=b
 subst hn
 have k:=WF.slotL e g (j:=0) rfl
 have:=ZC a
 have:=ZE a
 have:=Zk (ZD a) k
 obtain ⟨_,_,_,l,h⟩:=ZcM h
 simp only[A6] at l
 try simp only[*,go_sem,seval]
 refine yB h (fun _ h=>?_) fun _ h=>?_
 refine ⟨_,[],[],(A3 h).symm,yF,?_⟩
 try simp only[*,go_sem,seval]
 replace h:=Zr h f
 cases h
 try simp only[*,go_sem,seval]
 rintro ⟨⟩ ⟨_,_,_⟩ d _ h
 simp only[go_sem,seval,Zb] at d
 obtain ⟨⟨_,_,_⟩,hn⟩:=d
 subst hn
 have:=ZB (a_0.length)
 cases h
 try simp only[*,go_sem,seval]
theorem ZrN {l_0:(List Zl)} {r:Zg} (h:ZjF l_0=some r):Zm prog J0 130 [(false,[.sl 80 5 (A0 ZJ l_0)])] [(true,[(false,.str r.name),(false,.int .i64 r.priority),(true,.sl 80 5 (A0 ZJ r.cond)),(false,.sl 125 3 (A0 ZI r.thn))])]:=by
 refine fnk func130 rfl ?_
 unfold ZjF at h
 have a:ZbS ⟨#[113]⟩=true:=by decide
 simp only[fnS,f130,Zo,go_sem,seval,a]
 cases h
 try simp only[*,go_sem,seval]
theorem Zmy {a_0:(List Zi)} {b_1:(List Zi)} {r:Bool} (h:ZcL a_0 b_1=some r):Zm prog J0 71 [(false,[.sl 162 2 (A0 ZR a_0)]),(false,[.sl 162 2 (A0 ZR b_1)])] [(false,[(false,.bool r)])]:=by
 refine fnk func71 rfl ?_
 unfold ZcL at h
 simp only[fnS,f71,Zo,go_sem,seval]
 refine yB h (fun _ h=>?_) fun _ h=>?_
 cases h
 try simp only[*,go_sem,seval]
 refine Zh h (fun i _ st=>IV [(0,yM (yX a_0)),(1,yM (yX b_1)),(12,yL a_0.length),(13,yL i)] [] st) [] [] yF yD ?_ ?_
 rintro _ _ ⟨⟩ ⟨_,_,_⟩ _ a b e h f
 simp only[go_sem,seval,Zb] at b
 obtain ⟨⟨g,_,_,_⟩,hn⟩:=b
 subst hn
 have k:=WF.slotL e g (j:=0) rfl
 have:=ZC a
 have:=ZE a
 have:=Zk (ZD a) k
 obtain ⟨_,_,_,l,h⟩:=ZcM h
 simp only[A6] at l
 try simp only[*,go_sem,seval]
 refine yB h (fun _ h=>?_) fun _ h=>?_
 refine ⟨_,[],[],(A3 h).symm,yF,?_⟩
 try simp only[*,go_sem,seval]
 replace h:=Zr h f
 cases h
 try simp only[*,go_sem,seval]
 rintro ⟨⟩ ⟨_,_,_⟩ d _ h
 simp only[go_sem,seval,Zb] at d
 obtain ⟨⟨_,_,_,_⟩,hn⟩:=d
 subst hn
 have:=ZB (a_0.length)
 cases h
 try simp only[*,go_sem,seval]
end
end Go.Proofs.YtlpkbfjcdaanmaaGreatDoor
namespace Go.Proofs
open Go.Shelf
def lays106_ren:Go.Shelf.Ren:=⟨fun | 106=>238 | 213=>279 | 265=>310 | n=>n,fun | 9=>9 | 3=>3 | n=>n,fun | n=>n⟩
theorem lays106:Go.Proofs.Lays.n106 prog lays106_ren:={
 mixed:=by kernel_rfl
 f106:=func238.trans (congrArg some (by kernel_rfl))
 f213:=func279.trans (congrArg some (by kernel_rfl))
 f265:=func310.trans (congrArg some (by kernel_rfl))
 t3:=underlying3
 a3:=isAgg3
 z3:=sizeOf3
 v3:=zeroValue3
 t9:=underlying9
 a9:=isAgg9
 z9:=sizeOf9
 v9:=zeroValue9 }
open Go.RowKit in
theorem strings_Compare (a b:ByteArray) (w:World):
  Calls prog 238 #[.string a,.string b] w fun e w'=>e=.returned (.int .i64 (Lib.compareBytes a.data.toList b.data.toList))∧w'=w:=Any.strings_Compare lays106 a b w
def lays172_ren:Go.Shelf.Ren:=⟨fun | 172=>287 | 244=>316 | 245=>317 | 247=>344 | 279=>345 | 280=>346 | 281=>347 | 282=>348 | 287=>370 | 316=>371 | 171=>159 | 205=>372 | 321=>379 | 322=>380 | 243=>222 | 246=>265 | 283=>298 | 284=>299 | 285=>300 | 286=>301 | 129=>322 | 317=>321 | 318=>323 | 319=>324 | 320=>325 | 337=>358 | 338=>359 | n=>n,fun | 9=>9 | 3=>3 | 75=>270 | 76=>271 | 4=>4 | 5=>5 | 167=>314 | 37=>63 | 0=>0 | 85=>315 | 2=>2 | 168=>317 | 53=>279 | 175=>337 | 46=>261 | 210=>341 | 127=>289 | 145=>355 | 143=>353 | 21=>21 | 171=>278 | 173=>282 | 212=>296 | 51=>297 | 20=>20 | 213=>298 | 232=>345 | 233=>346 | 80=>273 | n=>n,fun | 15=>3 | 16=>4 | 17=>2 | 18=>5 | 19=>6 | n=>n⟩
theorem lays172:Go.Proofs.Lays.n172 prog lays172_ren:={
 mixed:=by kernel_rfl
 f129:=func322.trans (congrArg some (by kernel_rfl))
 f171:=func159.trans (congrArg some (by kernel_rfl))
 f172:=func287.trans (congrArg some (by kernel_rfl))
 f205:=func372.trans (congrArg some (by kernel_rfl))
 f243:=func222.trans (congrArg some (by kernel_rfl))
 f244:=func316.trans (congrArg some (by kernel_rfl))
 f245:=func317.trans (congrArg some (by kernel_rfl))
 f246:=func265.trans (congrArg some (by kernel_rfl))
 f247:=func344.trans (congrArg some (by kernel_rfl))
 f279:=func345.trans (congrArg some (by kernel_rfl))
 f280:=func346.trans (congrArg some (by kernel_rfl))
 f281:=func347.trans (congrArg some (by kernel_rfl))
 f282:=func348.trans (congrArg some (by kernel_rfl))
 f283:=func298.trans (congrArg some (by kernel_rfl))
 f284:=func299.trans (congrArg some (by kernel_rfl))
 f285:=func300.trans (congrArg some (by kernel_rfl))
 f286:=func301.trans (congrArg some (by kernel_rfl))
 f287:=func370.trans (congrArg some (by kernel_rfl))
 f316:=func371.trans (congrArg some (by kernel_rfl))
 f317:=func321.trans (congrArg some (by kernel_rfl))
 f318:=func323.trans (congrArg some (by kernel_rfl))
 f319:=func324.trans (congrArg some (by kernel_rfl))
 f320:=func325.trans (congrArg some (by kernel_rfl))
 f321:=func379.trans (congrArg some (by kernel_rfl))
 f322:=func380.trans (congrArg some (by kernel_rfl))
 f337:=func358.trans (congrArg some (by kernel_rfl))
 f338:=func359.trans (congrArg some (by kernel_rfl))
 t0:=underlying0
 a0:=isAgg0
 z0:=sizeOf0
 v0:=zeroValue0
 t2:=underlying2
 a2:=isAgg2
 z2:=sizeOf2
 v2:=zeroValue2
 t3:=underlying3
 a3:=isAgg3
 z3:=sizeOf3
 v3:=zeroValue3
 t4:=underlying4
 a4:=isAgg4
 z4:=sizeOf4
 v4:=zeroValue4
 t5:=underlying5
 a5:=isAgg5
 z5:=sizeOf5
 v5:=zeroValue5
 t9:=underlying9
 a9:=isAgg9
 z9:=sizeOf9
 v9:=zeroValue9
 t20:=underlying20
 a20:=isAgg20
 z20:=sizeOf20
 v20:=zeroValue20
 t21:=underlying21
 a21:=isAgg21
 z21:=sizeOf21
 v21:=zeroValue21
 t37:=underlying63
 a37:=isAgg63
 z37:=sizeOf63
 v37:=zeroValue63
 t46:=underlying261
 a46:=isAgg261
 z46:=sizeOf261
 v46:=zeroValue261
 t51:=underlying297
 a51:=isAgg297
 z51:=sizeOf297
 v51:=zeroValue297
 t53:=underlying279
 a53:=isAgg279
 z53:=sizeOf279
 v53:=zeroValue279
 t75:=underlying270
 a75:=isAgg270
 z75:=sizeOf270
 v75:=zeroValue270
 t76:=underlying271
 a76:=isAgg271
 z76:=sizeOf271
 v76:=zeroValue271
 t85:=underlying315
 a85:=isAgg315
 z85:=sizeOf315
 v85:=zeroValue315
 t127:=underlying289
 a127:=isAgg289
 z127:=sizeOf289
 v127:=zeroValue289
 t143:=underlying353
 a143:=isAgg353
 z143:=sizeOf353
 v143:=zeroValue353
 t145:=underlying355
 a145:=isAgg355
 z145:=sizeOf355
 v145:=zeroValue355
 t167:=underlying314
 a167:=isAgg314
 z167:=sizeOf314
 v167:=zeroValue314
 t168:=underlying317
 a168:=isAgg317
 z168:=sizeOf317
 v168:=zeroValue317
 t171:=underlying278
 a171:=isAgg278
 z171:=sizeOf278
 v171:=zeroValue278
 t173:=underlying282
 a173:=isAgg282
 z173:=sizeOf282
 v173:=zeroValue282
 t175:=underlying337
 a175:=isAgg337
 z175:=sizeOf337
 v175:=zeroValue337
 t210:=underlying341
 a210:=isAgg341
 z210:=sizeOf341
 v210:=zeroValue341
 t212:=underlying296
 a212:=isAgg296
 z212:=sizeOf296
 v212:=zeroValue296
 t213:=underlying298
 a213:=isAgg298
 z213:=sizeOf298
 t232:=underlying345
 a232:=isAgg345
 z232:=sizeOf345
 v232:=zeroValue345
 t233:=underlying346
 a233:=isAgg346
 z233:=sizeOf346
 v233:=zeroValue346
 g15:=by kernel_rfl
 g16:=by kernel_rfl
 g17:=by kernel_rfl
 g18:=by kernel_rfl
 g19:=by kernel_rfl }
open Go.RowKit in
theorem strconv_Atoi (s:ByteArray) (n:Int) (hl:s.size≤18) (h:Lib.atoi s.data.toList=some n) (w:World):
  Calls prog 287 #[.string s] w fun e w'=>e=.returned (.tuple #[.int .i64 n,.nilIface])∧∃t,w'=Lib.bytesWorld w 5 t:=Any.strconv_Atoi lays172 s n hl h w
def laysM171_ren:Go.Shelf.Ren:=⟨fun | 171=>159 | 243=>222 | 246=>265 | 283=>298 | 284=>299 | 285=>300 | 286=>301 | 129=>322 | 317=>321 | 318=>323 | 319=>324 | 320=>325 | 337=>358 | 338=>359 | n=>n,fun | 3=>3 | 9=>9 | 2=>2 | 4=>4 | 171=>278 | 0=>0 | 53=>279 | 37=>63 | 5=>5 | 173=>282 | 212=>296 | 51=>297 | 20=>20 | 213=>298 | 46=>261 | 232=>345 | 233=>346 | n=>n,fun | 17=>2 | 18=>5 | 19=>6 | n=>n⟩
theorem laysM171:Go.Proofs.LaysM.n171 prog laysM171_ren:={
 mixed:=by kernel_rfl
 f129:=func322.trans (congrArg some (by kernel_rfl))
 f171:=func159.trans (congrArg some (by kernel_rfl))
 f243:=func222.trans (congrArg some (by kernel_rfl))
 f246:=func265.trans (congrArg some (by kernel_rfl))
 f283:=func298.trans (congrArg some (by kernel_rfl))
 f284:=func299.trans (congrArg some (by kernel_rfl))
 f285:=func300.trans (congrArg some (by kernel_rfl))
 f286:=func301.trans (congrArg some (by kernel_rfl))
 f317:=func321.trans (congrArg some (by kernel_rfl))
 f318:=func323.trans (congrArg some (by kernel_rfl))
 f319:=func324.trans (congrArg some (by kernel_rfl))
 f320:=func325.trans (congrArg some (by kernel_rfl))
 f337:=func358.trans (congrArg some (by kernel_rfl))
 f338:=func359.trans (congrArg some (by kernel_rfl))
 t0:=underlying0
 a0:=isAgg0
 z0:=sizeOf0
 v0:=zeroValue0
 t2:=underlying2
 a2:=isAgg2
 z2:=sizeOf2
 v2:=zeroValue2
 t3:=underlying3
 a3:=isAgg3
 z3:=sizeOf3
 v3:=zeroValue3
 t4:=underlying4
 a4:=isAgg4
 z4:=sizeOf4
 v4:=zeroValue4
 t5:=underlying5
 a5:=isAgg5
 z5:=sizeOf5
 v5:=zeroValue5
 t9:=underlying9
 a9:=isAgg9
 z9:=sizeOf9
 v9:=zeroValue9
 t20:=underlying20
 a20:=isAgg20
 z20:=sizeOf20
 v20:=zeroValue20
 t37:=underlying63
 a37:=isAgg63
 z37:=sizeOf63
 v37:=zeroValue63
 t46:=underlying261
 a46:=isAgg261
 z46:=sizeOf261
 v46:=zeroValue261
 t51:=underlying297
 a51:=isAgg297
 z51:=sizeOf297
 v51:=zeroValue297
 t53:=underlying279
 a53:=isAgg279
 z53:=sizeOf279
 v53:=zeroValue279
 t171:=underlying278
 a171:=isAgg278
 z171:=sizeOf278
 v171:=zeroValue278
 t173:=underlying282
 a173:=isAgg282
 z173:=sizeOf282
 v173:=zeroValue282
 t212:=underlying296
 a212:=isAgg296
 z212:=sizeOf296
 v212:=zeroValue296
 t213:=underlying298
 a213:=isAgg298
 z213:=sizeOf298
 t232:=underlying345
 a232:=isAgg345
 z232:=sizeOf345
 v232:=zeroValue345
 t233:=underlying346
 a233:=isAgg346
 z233:=sizeOf346
 v233:=zeroValue346
 g17:=by kernel_rfl
 g18:=by kernel_rfl
 g19:=by kernel_rfl
 i0:=by kernel_rfl
 i2:=by kernel_rfl
 i3:=by kernel_rfl
 i4:=by kernel_rfl
 i5:=by kernel_rfl
 i9:=by kernel_rfl
 i20:=by kernel_rfl
 i37:=by kernel_rfl
 i46:=by kernel_rfl
 i51:=by kernel_rfl
 i53:=by kernel_rfl
 i171:=by kernel_rfl
 i173:=by kernel_rfl
 i212:=by kernel_rfl
 i232:=by kernel_rfl
 i233:=by kernel_rfl
 m17:=by kernel_rfl
 m18:=by kernel_rfl
 m19:=by kernel_rfl }
open Go.RowKit Go.Sort Go.Lib in
theorem strconv_Itoa (n : Int) (h0 : -9223372036854775808 ≤ n) (h1 : n ≤ 9223372036854775807) (w : World) (htab : Lib.TabIs prog w "internal/strconv.uint64pow10" .u64 Lib.pow10Tab) :
  Calls prog 159 #[.int .i64 n] w fun e w'=>e=.returned (.string ⟨(Lib.itoa n).toArray⟩)∧∃k os,w'=grow (w.drewN k) os:=Any.strconv_Itoa laysM171 n h0 h1 w htab
def laysC172_ren:Go.Shelf.Ren:=⟨fun | 172=>287 | 244=>316 | 245=>317 | 247=>344 | 279=>345 | 280=>346 | 281=>347 | 282=>348 | 287=>370 | 316=>371 | 171=>159 | 205=>372 | 321=>379 | 322=>380 | 243=>222 | 246=>265 | 283=>298 | 284=>299 | 285=>300 | 286=>301 | 129=>322 | 317=>321 | 318=>323 | 319=>324 | 320=>325 | 337=>358 | 338=>359 | n=>n,fun | 9=>9 | 3=>3 | 75=>270 | 76=>271 | 4=>4 | 5=>5 | 167=>314 | 37=>63 | 0=>0 | 85=>315 | 2=>2 | 168=>317 | 53=>279 | 175=>337 | 46=>261 | 210=>341 | 127=>289 | 145=>355 | 143=>353 | 21=>21 | 171=>278 | 173=>282 | 212=>296 | 51=>297 | 20=>20 | 213=>298 | 232=>345 | 233=>346 | 80=>273 | n=>n,fun | 15=>3 | 16=>4 | 17=>2 | 18=>5 | 19=>6 | n=>n⟩
theorem laysC172:Go.Proofs.LaysC.n172 prog laysC172_ren:={
 mixed:=by kernel_rfl
 f129:=func322.trans (congrArg some (by kernel_rfl))
 f171:=func159.trans (congrArg some (by kernel_rfl))
 f172:=func287.trans (congrArg some (by kernel_rfl))
 f205:=func372.trans (congrArg some (by kernel_rfl))
 f243:=func222.trans (congrArg some (by kernel_rfl))
 f244:=func316.trans (congrArg some (by kernel_rfl))
 f245:=func317.trans (congrArg some (by kernel_rfl))
 f246:=func265.trans (congrArg some (by kernel_rfl))
 f247:=func344.trans (congrArg some (by kernel_rfl))
 f279:=func345.trans (congrArg some (by kernel_rfl))
 f280:=func346.trans (congrArg some (by kernel_rfl))
 f281:=func347.trans (congrArg some (by kernel_rfl))
 f282:=func348.trans (congrArg some (by kernel_rfl))
 f283:=func298.trans (congrArg some (by kernel_rfl))
 f284:=func299.trans (congrArg some (by kernel_rfl))
 f285:=func300.trans (congrArg some (by kernel_rfl))
 f286:=func301.trans (congrArg some (by kernel_rfl))
 f287:=func370.trans (congrArg some (by kernel_rfl))
 f316:=func371.trans (congrArg some (by kernel_rfl))
 f317:=func321.trans (congrArg some (by kernel_rfl))
 f318:=func323.trans (congrArg some (by kernel_rfl))
 f319:=func324.trans (congrArg some (by kernel_rfl))
 f320:=func325.trans (congrArg some (by kernel_rfl))
 f321:=func379.trans (congrArg some (by kernel_rfl))
 f322:=func380.trans (congrArg some (by kernel_rfl))
 f337:=func358.trans (congrArg some (by kernel_rfl))
 f338:=func359.trans (congrArg some (by kernel_rfl))
 t0:=underlying0
 a0:=isAgg0
 z0:=sizeOf0
 v0:=zeroValue0
 t2:=underlying2
 a2:=isAgg2
 z2:=sizeOf2
 v2:=zeroValue2
 t3:=underlying3
 a3:=isAgg3
 z3:=sizeOf3
 v3:=zeroValue3
 t4:=underlying4
 a4:=isAgg4
 z4:=sizeOf4
 v4:=zeroValue4
 t5:=underlying5
 a5:=isAgg5
 z5:=sizeOf5
 v5:=zeroValue5
 t9:=underlying9
 a9:=isAgg9
 z9:=sizeOf9
 v9:=zeroValue9
 t20:=underlying20
 a20:=isAgg20
 z20:=sizeOf20
 v20:=zeroValue20
 t21:=underlying21
 a21:=isAgg21
 z21:=sizeOf21
 v21:=zeroValue21
 t37:=underlying63
 a37:=isAgg63
 z37:=sizeOf63
 v37:=zeroValue63
 t46:=underlying261
 a46:=isAgg261
 z46:=sizeOf261
 v46:=zeroValue261
 t51:=underlying297
 a51:=isAgg297
 z51:=sizeOf297
 v51:=zeroValue297
 t53:=underlying279
 a53:=isAgg279
 z53:=sizeOf279
 v53:=zeroValue279
 t75:=underlying270
 a75:=isAgg270
 z75:=sizeOf270
 v75:=zeroValue270
 t76:=underlying271
 a76:=isAgg271
 z76:=sizeOf271
 v76:=zeroValue271
 t85:=underlying315
 a85:=isAgg315
 z85:=sizeOf315
 v85:=zeroValue315
 t127:=underlying289
 a127:=isAgg289
 z127:=sizeOf289
 v127:=zeroValue289
 t143:=underlying353
 a143:=isAgg353
 z143:=sizeOf353
 v143:=zeroValue353
 t145:=underlying355
 a145:=isAgg355
 z145:=sizeOf355
 v145:=zeroValue355
 t167:=underlying314
 a167:=isAgg314
 z167:=sizeOf314
 v167:=zeroValue314
 t168:=underlying317
 a168:=isAgg317
 z168:=sizeOf317
 v168:=zeroValue317
 t171:=underlying278
 a171:=isAgg278
 z171:=sizeOf278
 v171:=zeroValue278
 t173:=underlying282
 a173:=isAgg282
 z173:=sizeOf282
 v173:=zeroValue282
 t175:=underlying337
 a175:=isAgg337
 z175:=sizeOf337
 v175:=zeroValue337
 t210:=underlying341
 a210:=isAgg341
 z210:=sizeOf341
 v210:=zeroValue341
 t212:=underlying296
 a212:=isAgg296
 z212:=sizeOf296
 v212:=zeroValue296
 t213:=underlying298
 a213:=isAgg298
 z213:=sizeOf298
 t232:=underlying345
 a232:=isAgg345
 z232:=sizeOf345
 v232:=zeroValue345
 t233:=underlying346
 a233:=isAgg346
 z233:=sizeOf346
 v233:=zeroValue346
 g15:=by kernel_rfl
 g16:=by kernel_rfl
 g17:=by kernel_rfl
 g18:=by kernel_rfl
 g19:=by kernel_rfl
 t80:=underlying273
 a80:=isAgg273
 z80:=sizeOf273
 v80:=zeroValue273
 i0:=by kernel_rfl
 i2:=by kernel_rfl
 i3:=by kernel_rfl
 i4:=by kernel_rfl
 i5:=by kernel_rfl
 i9:=by kernel_rfl
 i20:=by kernel_rfl
 i21:=by kernel_rfl
 i37:=by kernel_rfl
 i46:=by kernel_rfl
 i51:=by kernel_rfl
 i53:=by kernel_rfl
 i75:=by kernel_rfl
 i76:=by kernel_rfl
 i80:=by kernel_rfl
 i85:=by kernel_rfl
 i127:=by kernel_rfl
 i143:=by kernel_rfl
 i145:=by kernel_rfl
 i167:=by kernel_rfl
 i168:=by kernel_rfl
 i171:=by kernel_rfl
 i173:=by kernel_rfl
 i175:=by kernel_rfl
 i210:=by kernel_rfl
 i212:=by kernel_rfl
 i232:=by kernel_rfl
 i233:=by kernel_rfl
 m15:=by kernel_rfl
 m16:=by kernel_rfl
 m17:=by kernel_rfl
 m18:=by kernel_rfl
 m19:=by kernel_rfl
 c0:=by kernel_rfl
 c2:=by kernel_rfl
 c3:=by kernel_rfl
 c4:=by kernel_rfl
 c5:=by kernel_rfl
 c9:=by kernel_rfl
 c20:=by kernel_rfl
 c21:=by kernel_rfl
 c37:=by kernel_rfl
 c46:=by kernel_rfl
 c51:=by kernel_rfl
 c53:=by kernel_rfl
 c75:=by kernel_rfl
 c76:=by kernel_rfl
 c80:=by kernel_rfl
 c85:=by kernel_rfl
 c127:=by kernel_rfl
 c143:=by kernel_rfl
 c145:=by kernel_rfl
 c167:=by kernel_rfl
 c168:=by kernel_rfl
 c171:=by kernel_rfl
 c173:=by kernel_rfl
 c175:=by kernel_rfl
 c210:=by kernel_rfl
 c212:=by kernel_rfl
 c213:=by kernel_rfl
 c232:=by kernel_rfl
 c233:=by kernel_rfl }
open Go.RowKit in
theorem strconv_Atoi_err_var (s : ByteArray) (hl : s.size ≤ 18) (h : Lib.atoi s.data.toList = none) (tp : TypeId) (p : Value) (w : World) (hvar : w.var? prog "strconv.ErrSyntax" = some #[.iface tp p]) :
  Calls prog 287 #[.string s] w fun e w'=>∃N,e=.returned (.tuple #[.int .i64 0,.iface 317 (.pointer (some ⟨N,0,none⟩))])∧w.heap.size≤N∧w'.heap[N]?=some (.cells #[.string ⟨#[65,116,111,105]⟩,.string s,.iface tp p] 341 (0,0))∧Below w.heap.size w w':=Any.strconv_Atoi_err_var laysC172 s hl h tp p w hvar
def lays191_ren:Go.Shelf.Ren:=⟨fun | 191=>258 | 189=>295 | 125=>315 | 257=>320 | 128=>343 | 129=>322 | 294=>349 | 295=>350 | 296=>351 | 297=>352 | 298=>353 | 299=>354 | 216=>355 | 300=>356 | 301=>357 | 328=>373 | 329=>365 | 330=>366 | 331=>374 | 332=>375 | 215=>376 | 343=>381 | n=>n,fun | 28=>86 | 0=>0 | 3=>3 | 46=>261 | 51=>297 | 53=>279 | 4=>4 | 183=>307 | 182=>306 | 131=>202 | 5=>5 | 9=>9 | 218=>331 | 222=>335 | 228=>349 | 229=>350 | n=>n,fun | n=>n⟩
theorem lays191:Go.Proofs.Lays.n191 prog lays191_ren:={
 mixed:=by kernel_rfl
 f125:=func315.trans (congrArg some (by kernel_rfl))
 f128:=func343.trans (congrArg some (by kernel_rfl))
 f129:=func322.trans (congrArg some (by kernel_rfl))
 f189:=func295.trans (congrArg some (by kernel_rfl))
 f191:=func258.trans (congrArg some (by kernel_rfl))
 f215:=func376.trans (congrArg some (by kernel_rfl))
 f216:=func355.trans (congrArg some (by kernel_rfl))
 f257:=func320.trans (congrArg some (by kernel_rfl))
 f294:=func349.trans (congrArg some (by kernel_rfl))
 f295:=func350.trans (congrArg some (by kernel_rfl))
 f296:=func351.trans (congrArg some (by kernel_rfl))
 f297:=func352.trans (congrArg some (by kernel_rfl))
 f298:=func353.trans (congrArg some (by kernel_rfl))
 f299:=func354.trans (congrArg some (by kernel_rfl))
 f300:=func356.trans (congrArg some (by kernel_rfl))
 f301:=func357.trans (congrArg some (by kernel_rfl))
 f328:=func373.trans (congrArg some (by kernel_rfl))
 f329:=func365.trans (congrArg some (by kernel_rfl))
 f330:=func366.trans (congrArg some (by kernel_rfl))
 f331:=func374.trans (congrArg some (by kernel_rfl))
 f332:=func375.trans (congrArg some (by kernel_rfl))
 f343:=func381.trans (congrArg some (by kernel_rfl))
 t0:=underlying0
 a0:=isAgg0
 z0:=sizeOf0
 v0:=zeroValue0
 t3:=underlying3
 a3:=isAgg3
 z3:=sizeOf3
 v3:=zeroValue3
 t4:=underlying4
 a4:=isAgg4
 z4:=sizeOf4
 v4:=zeroValue4
 t5:=underlying5
 a5:=isAgg5
 z5:=sizeOf5
 v5:=zeroValue5
 t9:=underlying9
 a9:=isAgg9
 z9:=sizeOf9
 v9:=zeroValue9
 t28:=underlying86
 a28:=isAgg86
 z28:=sizeOf86
 v28:=zeroValue86
 t46:=underlying261
 a46:=isAgg261
 z46:=sizeOf261
 v46:=zeroValue261
 t51:=underlying297
 a51:=isAgg297
 z51:=sizeOf297
 v51:=zeroValue297
 t53:=underlying279
 a53:=isAgg279
 z53:=sizeOf279
 v53:=zeroValue279
 t131:=underlying202
 a131:=isAgg202
 z131:=sizeOf202
 v131:=zeroValue202
 t182:=underlying306
 a182:=isAgg306
 z182:=sizeOf306
 v182:=zeroValue306
 t183:=underlying307
 a183:=isAgg307
 z183:=sizeOf307
 v183:=zeroValue307
 t218:=underlying331
 a218:=isAgg331
 z218:=sizeOf331
 v218:=zeroValue331
 t222:=underlying335
 a222:=isAgg335
 z222:=sizeOf335
 v222:=zeroValue335
 t228:=underlying349
 a228:=isAgg349
 z228:=sizeOf349
 v228:=zeroValue349
 t229:=underlying350
 a229:=isAgg350
 z229:=sizeOf350
 v229:=zeroValue350 }
open Go.Sort Go.RowKit in
theorem sort_Ints (a off cap:Nat) (zs:List Int) (w:World) (hH:Holds (Value.int .i64) w a off zs.toArray) (b:a<w.heap.size) (c:zs.length<4611686018427387904):
  Calls prog 258 #[.slice (some ⟨a,off,none⟩) zs.length cap] w fun e w'=>
   e=.returned (.tuple #[])∧∃n os,w'=grow (putRow (Value.int .i64) (Sort.ahead w n) a off (zs.mergeSort fun x y=>decide (x≤y)).toArray) os:=Any.sort_Ints lays191 a off cap zs w hH b c
def lays192_ren:Go.Shelf.Ren:=⟨fun | 192=>248 | 190=>286 | 125=>315 | 258=>314 | 128=>343 | 129=>322 | 302=>334 | 303=>335 | 304=>336 | 305=>337 | 306=>338 | 307=>339 | 308=>340 | 309=>341 | 310=>342 | 333=>364 | 329=>365 | 330=>366 | 334=>367 | 335=>368 | 336=>369 | 344=>378 | n=>n,fun | 31=>46 | 0=>0 | 9=>9 | 3=>3 | 46=>261 | 51=>297 | 53=>279 | 4=>4 | 183=>307 | 182=>306 | 131=>202 | 5=>5 | 218=>331 | 222=>335 | 228=>349 | 229=>350 | n=>n,fun | n=>n⟩
theorem lays192:Go.Proofs.Lays.n192 prog lays192_ren:={
 mixed:=by kernel_rfl
 f125:=func315.trans (congrArg some (by kernel_rfl))
 f128:=func343.trans (congrArg some (by kernel_rfl))
 f129:=func322.trans (congrArg some (by kernel_rfl))
 f190:=func286.trans (congrArg some (by kernel_rfl))
 f192:=func248.trans (congrArg some (by kernel_rfl))
 f258:=func314.trans (congrArg some (by kernel_rfl))
 f302:=func334.trans (congrArg some (by kernel_rfl))
 f303:=func335.trans (congrArg some (by kernel_rfl))
 f304:=func336.trans (congrArg some (by kernel_rfl))
 f305:=func337.trans (congrArg some (by kernel_rfl))
 f306:=func338.trans (congrArg some (by kernel_rfl))
 f307:=func339.trans (congrArg some (by kernel_rfl))
 f308:=func340.trans (congrArg some (by kernel_rfl))
 f309:=func341.trans (congrArg some (by kernel_rfl))
 f310:=func342.trans (congrArg some (by kernel_rfl))
 f329:=func365.trans (congrArg some (by kernel_rfl))
 f330:=func366.trans (congrArg some (by kernel_rfl))
 f333:=func364.trans (congrArg some (by kernel_rfl))
 f334:=func367.trans (congrArg some (by kernel_rfl))
 f335:=func368.trans (congrArg some (by kernel_rfl))
 f336:=func369.trans (congrArg some (by kernel_rfl))
 f344:=func378.trans (congrArg some (by kernel_rfl))
 t0:=underlying0
 a0:=isAgg0
 z0:=sizeOf0
 v0:=zeroValue0
 t3:=underlying3
 a3:=isAgg3
 z3:=sizeOf3
 v3:=zeroValue3
 t4:=underlying4
 a4:=isAgg4
 z4:=sizeOf4
 v4:=zeroValue4
 t5:=underlying5
 a5:=isAgg5
 z5:=sizeOf5
 v5:=zeroValue5
 t9:=underlying9
 a9:=isAgg9
 z9:=sizeOf9
 v9:=zeroValue9
 t31:=underlying46
 a31:=isAgg46
 z31:=sizeOf46
 v31:=zeroValue46
 t46:=underlying261
 a46:=isAgg261
 z46:=sizeOf261
 v46:=zeroValue261
 t51:=underlying297
 a51:=isAgg297
 z51:=sizeOf297
 v51:=zeroValue297
 t53:=underlying279
 a53:=isAgg279
 z53:=sizeOf279
 v53:=zeroValue279
 t131:=underlying202
 a131:=isAgg202
 z131:=sizeOf202
 v131:=zeroValue202
 t182:=underlying306
 a182:=isAgg306
 z182:=sizeOf306
 v182:=zeroValue306
 t183:=underlying307
 a183:=isAgg307
 z183:=sizeOf307
 v183:=zeroValue307
 t218:=underlying331
 a218:=isAgg331
 z218:=sizeOf331
 v218:=zeroValue331
 t222:=underlying335
 a222:=isAgg335
 z222:=sizeOf335
 v222:=zeroValue335
 t228:=underlying349
 a228:=isAgg349
 z228:=sizeOf349
 v228:=zeroValue349
 t229:=underlying350
 a229:=isAgg350
 z229:=sizeOf350
 v229:=zeroValue350 }
open Go.Sort Go.RowKit in
theorem sort_Strings (a off cap:Nat) (ss:List (List UInt8)) (w:World) (hH:Holds encStr w a off ss.toArray) (b:a<w.heap.size) (c:ss.length<4611686018427387904):
  Calls prog 248 #[.slice (some ⟨a,off,none⟩) ss.length cap] w fun e w'=>
   e=.returned (.tuple #[])∧∃n os,w'=grow (putRow encStr (Sort.ahead w n) a off (ss.mergeSort fun x y=>decide (x≤y)).toArray) os:=Any.sort_Strings lays192 a off cap ss w hH b c
open Go.RowKit Go.Sort in
theorem sort_Strings_none (p:Option Addr) (cap:Nat) (w:World):
  Calls prog 248 #[.slice p 0 cap] w fun e w'=>e=.returned (.tuple #[])∧w'=w:=Any.sort_Strings_none lays192 p cap w
open Go.RowKit Go.Sort in
theorem sort_Ints_none (p:Option Addr) (cap:Nat) (w:World):
  Calls prog 258 #[.slice p 0 cap] w fun e w'=>e=.returned (.tuple #[])∧w'=w:=Any.sort_Ints_none lays191 p cap w
end Go.Proofs
namespace Go.Proofs.YtlpkbfjcdaanmaaGreatDoor
section
open Go.RowKit Go.Sort Go.Lib
theorem ZCR {J : World → Prop} (hJ : ∀ w, J w → Lib.TabIs prog w "internal/strconv.uint64pow10" .u64 Lib.pow10Tab) {n : Int} {r : ByteArray} (h : ZqT n = some r) : Zm prog J 159 [(false, [.int .i64 n])] [(false, [(false, .str r)])] := by
 obtain ⟨h1,h2⟩:=Zv h
 obtain rfl:=A3 h2
 refine ⟨⟨f159,func159,yO,yO⟩,fun w z vs hj hz hargs=>?_⟩
 obtain ⟨v,L,rfl,rfl,_⟩:=ZmB hargs
 refine (strconv_Itoa n h1.1 h1.2 w (hJ w hj)).mono ?_
 rintro e w' ⟨rfl,k,os,rfl⟩
 refine ⟨_,z,rfl,Ztg ⟨⟨rfl,rfl,?_⟩,rfl⟩,fun b h=>h,below_grow _ _ (Nat.le_refl _) _ _⟩
 have:=Lib.itoa_length_le n h1.1 h1.2
 show (Lib.itoa n).toArray.size≤_
 rw [AE]
 omega
end
section
open Go.RowKit
theorem ZvB {J:World→Prop} {a b:ByteArray} {r:Int} (h:ZfS a b=some r):Zm prog J 238 [(false,[.str a]),(false,[.str b])] [(false,[(false,.int .i64 r)])]:=by
 obtain rfl:=A3 h
 refine ⟨⟨f238,func238,yO,yO⟩,fun w z vs hj hz c=>?_⟩
 obtain ⟨v,u,L,M,rfl,⟨rfl,_⟩,rfl,_⟩:=ZxX c
 refine (strings_Compare a b w).mono ?_
 rintro e w' ⟨rfl,rfl⟩
 exact ⟨_,z,rfl,Ztg ⟨⟨rfl,rfl⟩,rfl⟩,fun b h=>h,Below.refl _ _⟩
end
section
open Go.RowKit Go.Sort
theorem Zpp {α:Type} [Inhabited α] {P:Program} {J:World→Prop} {JF:Nat→Prop} (a:α→Value) (el:α→List CT) (I:∀(w:World) x v L,RCs w (el x) v L→v=[a x]) (K:∀(w w':World) x,RCs w (el x) [a x] []→RCs w' (el x) [a x] []) (u:∀l:List α,ZaN (l.map el)=true) {f:FuncId} {e:TypeId} {zs d:List α} (hc:Zez P f) (hd:d.length=zs.length) (C:∀x∈d,x∈zs)
  (hN:∀p cap w,Calls P f #[.slice p 0 cap] w fun e w'=>e=.returned (.tuple #[])∧w'=w)
  (hC:∀i off cap w,Holds a w i off zs.toArray→i<w.heap.size→Calls P f #[.slice (some ⟨i,off,none⟩) zs.length cap] w fun e w'=>e=.returned (.tuple #[])∧∃n os,w'=grow (putRow a (Sort.ahead w n) i off d.toArray) os):
  Zkx P J JF f (.row e 1 (zs.map el)) [] [] (.row e 1 (d.map el)):=by
 refine ⟨hc,fun w z q v0 vs hj hqf hz hh ha=>?_⟩
 cases vs with
 | cons _ _=>exact ha.elim
 | nil=>
 obtain ⟨hfl,hm,hq,cs,c,M⟩:=hh
 have N:∀(l:List α) (cs:List Value) (L:List Nat),REs w 1 (l.map el) cs L→cs=l.map a∧(L=[]→∀x∈l,RCs w (el x) [a x] []):=by
  intro l
  induction l with
  | nil=>intro cs L h;exact ⟨h.1,fun _ x mx=>by simp at mx⟩
  | cons x l ih=>
   rintro cs L ⟨c1,c2,L1,L2,rfl,rfl,h3,h4⟩
   obtain ⟨i1,i2⟩:=ih _ _ h4
   have e1:=I _ _ _ _ h3.1
   refine ⟨by rw [e1,i1];rfl,fun hL y my=>?_⟩
   obtain ⟨l1,l2⟩:=List.append_eq_nil_iff.1 hL
   rcases List.mem_cons.1 my with rfl | my
   ·rw [←e1,←l1];exact h3.1
   ·exact i2 l2 y my
 obtain ⟨e1,e2⟩:=N zs cs [] M
 have e2:=e2 rfl
 subst e1
 have D:∀(w':World) (l:List α),(∀x∈l,x∈zs)→REs w' 1 (l.map el) (l.map a) []:=by
  intro w' l
  induction l with
  | nil=>intro _;exact ⟨rfl,rfl⟩
  | cons x l ih=>intro hl;exact ⟨[a x],l.map a,[],[],rfl,rfl,⟨K w w' x (e2 x (hl x yG)),rfl⟩,ih fun y my=>hl y (by simp [my])⟩
 have O:(zs.map el).length=zs.length:=by simp
 rw [O] at c
 have t:∀w':World,w'.os=w.os→w'.tape=w.tape→w'.output=w.output→w.heap.size≤w'.heap.size→(∀k,k<w.heap.size→¬q=some k→w'.heap[k]?=w.heap[k]?)→w'.ownsV 0 e 1 v0 d.length (d.map a)→∃v n,Ending.returned (.tuple #[])=.returned v∧ZkF w' w.heap.size n [] v∧(∀b,inQ z q b→n b)∧ZuY w' n q (.row e 1 (d.map el)) v0∧ZF7 q w w':=
  fun w' h1 h2 h3 h4 h5 h6=>⟨_,inQ z q,rfl,⟨[],[],⟨rfl,rfl⟩,Own.nil _ _,rfl⟩,fun _ h=>h,⟨u d,yE,hq,d.map a,by simpa using h6,D w' d C⟩,⟨h1,h2,h3,h4,h5⟩⟩
 rcases Nat.eq_zero_or_pos zs.length with h0 | h0
 ·have Q:zs=[]:=AF h0
  have R:d=[]:=AF (hd.trans h0)
  obtain ⟨A,cap,hv⟩:=Zdl c
  rw [h0] at hv
  subst hv
  refine (hN A cap w).mono ?_
  rintro e' w' ⟨rfl,rfl⟩
  exact t w' rfl rfl rfl (Nat.le_refl _) (fun _ _ _=>rfl) (by rw [R];rw [Q] at c;exact c)
 ·rcases c.2 with ⟨h',hl0⟩ | ⟨g,o,cap,m,h',hb,hg,hnc,S,E,B⟩
  ·omega
  ·subst h'
   have F:g<w.heap.size:=(Array.getElem?_eq_some_iff.1 hg).1
   have G:∀j,j<zs.length→m[o+j]?=some (a zs[j]!):=fun j hj=>by
    have:=congrArg (fun l=>l[j]?) B
    simp only[Nat.mul_one,AG,hj,if_true,AH,AI,AJ] at this
    rw [this]
    simp [List.getElem!_eq_getElem?_getD,hj]
   refine (hC g o cap w (fun j hj=>?_) F).mono ?_
   ·have H:j<zs.length:=by simpa using hj
    refine ⟨?_,by simp [World.frozen?,hg]⟩
    simp only[World.cell?,hg,Option.isSome_none,Bool.false_eq_true,if_false]
    rw [G j H]
    simp [H]
   ·rintro e' w' ⟨rfl,n,os,rfl⟩
    have hh:(putRow a (Sort.ahead w n) g o d.toArray).heap[g]?=some (.cells (putCells a o d.toArray m) e (0,0)):=by
     simp only[putRow,mapBlock,heap_ahead,AK,if_true,hg,Option.map_some,onCells]
    refine t _ rfl rfl rfl yG (fun k hk T=>?_) ⟨yG,.inr ⟨g,o,cap,putCells a o d.toArray m,by rw [hd],yE,?_,yE,S,by simpa [putCells] using E,?_⟩⟩
    ·rw [heap_grow_old _ _ (by simpa using hk)]
     simp only[putRow,mapBlock,heap_ahead,AK]
     rw [if_neg (fun e=>T (by rw [←hq];simp [Value.ownBlock,e]))]
    ·rw [heap_grow_old _ _ (by simpa using F)];exact hh
    ·apply List.ext_getElem?
     intro j
     simp only[Nat.mul_one,AG,AH,AJ,AI,putCells,Array.getElem?_mapIdx,AE]
     by_cases hj:j<d.length
     ·have U:o+j<m.size:=by omega
      simp [hj,U]
     ·simp [hj]
end
section
open Go.RowKit Go.Sort
theorem ZoD {J:World→Prop} {JF:Nat→Prop} {l r:List ByteArray} (h:Zcw l=some r):Zkx prog J JF 248 (.row 9 1 (l.map ZA)) [] [] (.row 9 1 (r.map ZA)):=by
 obtain ⟨h1,h2⟩:=Zv h
 obtain rfl:=A3 h2
 have e1:l.map ZA=(l.map toL).map fun x=>ZA (ofL x):=by rw [AL];exact List.map_congr_left fun x _=>by simp [Zj7]
 have e2:(ZfD l).map ZA=((l.map toL).mergeSort fun x y=>decide (x≤y)).map fun x=>ZA (ofL x):=by simp [ZfD,AL,Function.comp_def]
 rw [e1,e2]
 refine Zpp encStr (fun x=>ZA (ofL x)) (fun w x v L h=>?_) (fun w w' x h=>h) (fun l=>Zbf (fun _=>rfl) l) ⟨f248,func248,yO,yO⟩ yG (fun x hx=>by simpa using hx) (fun p cap w=>sort_Strings_none p cap w) (fun a off cap w hH hb=>sort_Strings a off cap (l.map toL) w hH hb (by simp;omega))
 obtain ⟨u,vs,L1,L2,rfl,rfl,q1,rfl,rfl⟩:=h
 rw [q1.1]
 rfl
end
section
open Go.RowKit Go.Sort
theorem Ztt {J:World→Prop} {JF:Nat→Prop} {l r:List Int} (h:Zf8 l=some r):Zkx prog J JF 258 (.row 3 1 (l.map ZO)) [] [] (.row 3 1 (r.map ZO)):=by
 obtain ⟨h1,h2⟩:=Zv h
 obtain rfl:=A3 h2
 refine Zpp (Value.int .i64) ZO (fun w x v L h=>?_) (fun w w' x h=>h) Zpz ⟨f258,func258,yO,yO⟩ (by simp [Zk4]) (fun x hx=>by simpa [Zk4] using hx) (fun p cap w=>sort_Ints_none p cap w) (fun a off cap w hH hb=>sort_Ints a off cap l w hH hb yE)
 obtain ⟨u,vs,L1,L2,rfl,rfl,q1,rfl,rfl⟩:=h
 rw [q1.1]
end
section
open Go.RowKit
theorem ZCE {J : World → Prop} (hJ : ∀ w, J w → ∃ tp p, w.var? prog "strconv.ErrSyntax" = some #[.iface tp p]) {s : ByteArray} {r : Int × Bool} (h : ZmK s = some r) : Zm prog J 287 [(false, [.str s])] [(false, [(false, .int .i64 r.1)]), (false, [(false, .ifc r.2)])] := by
 obtain ⟨h1,h2⟩:=Zv h
 refine ⟨⟨f287,func287,yO,yO⟩,fun w z vs hj hz hargs=>?_⟩
 obtain ⟨v,L,rfl,rfl,_⟩:=ZmB hargs
 cases ha:Lib.atoi (toL s) with
 | some n=>
  rw [ha] at h2
  obtain rfl:=A3 h2
  refine (strconv_Atoi s n h1 ha w).mono ?_
  rintro e w' ⟨rfl,t,rfl⟩
  exact ⟨_,z,rfl,ZrA ⟨⟨rfl,rfl⟩,rfl⟩ ⟨⟨rfl,rfl,rfl⟩,rfl⟩,fun b h=>h,Lib.bytesWorld_below _ _ _⟩
 | none=>
  rw [ha] at h2
  obtain rfl:=A3 h2
  obtain ⟨tp,p,hv⟩:=hJ w hj
  refine (strconv_Atoi_err_var s h1 ha tp p w hv).mono ?_
  rintro e w' ⟨N,rfl,_,_,hb⟩
  exact ⟨_,z,rfl,ZrA ⟨⟨rfl,rfl⟩,rfl⟩ ⟨⟨rfl,rfl,_,_,rfl⟩,rfl⟩,fun b h=>h,hb⟩
end
theorem ZvG {n:Int} {r:ByteArray} (h:ZqT n=some r):Zm prog J0 159 [(false,[.int .i64 n])] [(false,[(false,.str r)])]:=ZCR ZCY h
theorem Zki {a b:ByteArray} {r:Int} (h:ZfS a b=some r):Zm prog J0 238 [(false,[.str a]),(false,[.str b])] [(false,[(false,.int .i64 r)])]:=ZvB h
theorem ZkV {l r:List ByteArray} (h:Zcw l=some r):Zkx prog J0 JF0 248 (.row 9 1 (l.map ZA)) [] [] (.row 9 1 (r.map ZA)):=ZoD h
theorem Zn5 {l r:List Int} (h:Zf8 l=some r):Zkx prog J0 JF0 258 (.row 3 1 (l.map ZO)) [] [] (.row 3 1 (r.map ZO)):=Ztt h
theorem Zv1 {s:ByteArray} {r:Int × Bool} (h:ZmK s=some r):Zm prog J0 287 [(false,[.str s])] [(false,[(false,.int .i64 r.1)]),(false,[(false,.ifc r.2)])]:=ZCE ZzR h
section
theorem QG {s_0:ByteArray} {r:Bool} (h:QS s_0=some r):Zm prog J0 142 [(false,[.str s_0])] [(false,[(false,.bool r)])]:=by
 refine fnk func142 rfl ?_
 unfold QS at h
 simp only[fnS,f142,Zo,go_sem,seval]
 iterate 2 ((refine Ze h (fun _ h=>?_) fun _ h=>?_<;>try simp only[*,go_sem,seval]);cases h;try simp only[*,go_sem,seval])
 refine Zh h (fun i _ st=>IV [(0,yM (.str s_0)),(3,yL i)] [] st) [] [] yF yD ?_ ?_
 rintro _ _ ⟨⟩ ⟨_,_,_⟩ _ b d f h a
 simp only[go_sem,seval,Zb] at d
 obtain ⟨⟨g,_⟩,hn⟩:=d
 subst hn
 have k:=WF.slotS f g (j:=0) rfl
 have:=Zp3 b
 have:=Zxp b
 have:=Zk (ZuC b) k
 try simp only[*,go_sem,seval]
 iterate 2 refine yB h (fun _ h=>?_) fun _ h=>?_
 replace h:=Zr h a
 cases h
 try simp only[*,go_sem,seval]
 refine yB h (fun _ h=>?_) fun _ h=>?_
 replace h:=Zr h a
 cases h
 try simp only[*,go_sem,seval]
 refine ⟨_,[],[],(A3 h).symm,yF,?_⟩
 try simp only[*,go_sem,seval]
 iterate 2 refine yB h (fun _ h=>?_) fun _ h=>?_
 replace h:=Zr h a
 cases h
 try simp only[*,go_sem,seval]
 refine yB h (fun _ h=>?_) fun _ h=>?_
 replace h:=Zr h a
 cases h
 try simp only[*,go_sem,seval]
 refine ⟨_,[],[],(A3 h).symm,yF,?_⟩
 try simp only[*,go_sem,seval]
 refine ⟨_,[],[],(A3 h).symm,yF,?_⟩
 try simp only[*,go_sem,seval]
 rintro ⟨⟩ ⟨_,_,_⟩ e _ h
 simp only[go_sem,seval,Zb] at e
 obtain ⟨⟨_,_⟩,hn⟩:=e
 subst hn
 have:=ZB (s_0.size)
 cases h
 try simp only[*,go_sem,seval]
theorem Zhq {b_0:(List Zi)} {r:(List Zi)} (h:Zbn b_0=some r):Zm prog J0 146 [(false,[.sl 162 2 (A0 ZR b_0)])] [(false,[(false,.sl 162 2 (A0 ZR r))])]:=by
 refine fnk func146 rfl ?_
 unfold Zbn at h
 simp only[fnS,f146,Zo,go_sem,seval]
 obtain ⟨a,h⟩:=Zv h
 try simp only[Nat.reduceLeDiff] at a
 cases h
 try simp only[*,go_sem,seval]
theorem Zhb {l_0:(List ByteArray)} {r:(List ByteArray)} (h:Zbx l_0=some r):Zm prog J0 175 [(false,[.sl 9 1 (A0 ZA l_0)])] [(false,[(false,.sl 9 1 (A0 ZA r))])]:=by
 refine fnk func175 rfl ?_
 unfold Zbx at h
 simp only[fnS,f175,Zo,go_sem,seval]
 obtain ⟨a,h⟩:=Zv h
 try simp only[Nat.reduceLeDiff] at a
 cases h
 try simp only[*,go_sem,seval]
theorem ZaA {p_0:Zx} {r:Bool} (h:Xt p_0=some r):Zm prog J0 209 [(true,Qp p_0)] [(false,[(false,.bool r)])]:=by
 refine fnk func209 rfl ?_
 unfold Xt at h
 have a:ZbS ⟨#[]⟩=true:=by decide
 simp only[fnS,f209,Zo,go_sem,seval,a]
 refine yB h (fun _ h=>?_) fun _ h=>?_
 iterate 2 (cases h;try simp only[*,go_sem,seval])
theorem Zmm {n_0:Int} {r:ByteArray} (h:Zbu n_0=some r):Zm prog J0 95 [(false,[.int .i64 n_0])] [(false,[(false,.str r)])]:=by
 refine fnk func95 rfl ?_
 unfold Zbu at h
 have a:ZbS ⟨#[]⟩=true:=by decide
 simp only[fnS,f95,Zo,go_sem,seval,a]
 obtain ⟨_,b,h⟩:=Za h
 refine Zd (ZvG b) ?_
 cases h
 try simp only[*,go_sem,seval]
theorem Znk {a_0:(List ByteArray)} {b_1:(List ByteArray)} {r:Bool} (h:ZcN a_0 b_1=some r):Zm prog J0 205 [(false,[.sl 9 1 (A0 ZA a_0)]),(false,[.sl 9 1 (A0 ZA b_1)])] [(false,[(false,.bool r)])]:=by
 refine fnk func205 rfl ?_
 unfold ZcN at h
 simp only[fnS,f205,Zo,go_sem,seval]
 refine yB h (fun _ h=>?_) fun _ h=>?_
 cases h
 try simp only[*,go_sem,seval]
 refine Zh h (fun i _ st=>IV [(0,yM (yU a_0)),(1,yM (yU b_1)),(12,yL a_0.length),(13,yL i)] [] st) [] [] yF yD ?_ ?_
 rintro _ _ ⟨⟩ ⟨_,_,_⟩ _ a b e h f
 simp only[go_sem,seval,Zb] at b
 obtain ⟨⟨g,_,_,_⟩,hn⟩:=b
 subst hn
 have k:=WF.slotL e g (j:=0) rfl
 have:=ZC a
 have:=ZE a
 have:=Zk (ZD a) k
 obtain ⟨_,_,_,l,h⟩:=ZcM h
 simp only[A6] at l
 try simp only[*,go_sem,seval]
 refine yB h (fun _ h=>?_) fun _ h=>?_
 refine ⟨_,[],[],(A3 h).symm,yF,?_⟩
 try simp only[*,go_sem,seval]
 replace h:=Zr h f
 cases h
 try simp only[*,go_sem,seval]
 rintro ⟨⟩ ⟨_,_,_⟩ d _ h
 simp only[go_sem,seval,Zb] at d
 obtain ⟨⟨_,_,_,_⟩,hn⟩:=d
 subst hn
 have:=ZB (a_0.length)
 cases h
 try simp only[*,go_sem,seval]
theorem Zcm {a_0:Int} {b_1:Int} {r:Int} (h:X4 a_0 b_1=some r):Zm prog J0 240 [(false,[.int .i64 a_0]),(false,[.int .i64 b_1])] [(false,[(false,.int .i64 r)])]:=by
 refine fnk func240 rfl ?_
 unfold X4 at h
 simp only[fnS,f240,Zo,go_sem,seval]
 iterate 2 ((refine Ze h (fun _ h=>?_) fun _ h=>?_<;>try simp only[*,go_sem,seval]);cases h;try simp only[*,go_sem,seval])
 cases h
 try simp only[*,go_sem,seval]
theorem ZfN {r_0:Zg} {r:(List Zl)} (h:Xb r_0=some r):Zm prog J0 216 [(true,ZL r_0)] [(false,[(true,.sl 80 5 (A0 ZJ r))])]:=by
 refine fnk func216 rfl ?_
 unfold Xb at h
 simp only[fnS,f216,Zo,go_sem,seval]
 refine Zh h (fun i a st=>IV [(3,.p false [.row 0]),(7,yM (yW r_0.cond)),(8,yL r_0.cond.length),(9,yL i)] [.row 80 5 (A0 ZJ a) 1] st) [(false,3,0),(true,112,1)] [112] yF yD ?_ ?_
 rintro _ _ a ⟨_,_,_⟩ _ b d f h _
 simp only[go_sem,seval,Zb] at d
 obtain ⟨⟨_,g,_,_⟩,_,hn⟩:=d
 subst hn
 have k:=WF.slotL f g (j:=0) rfl
 have:=ZC b
 have:=ZE b
 have:=Zk (ZD b) k
 try simp only[*,go_sem,seval]
 refine yB h (fun _ h=>?_) fun _ h=>?_
 obtain ⟨l,h⟩:=Zv h
 try simp only[Nat.reduceLeDiff] at l
 try simp only[*,go_sem,seval]
 refine ⟨_,[],[177],(A3 h).symm,yF,?_⟩
 try simp only[*,go_sem,seval]
 refine ⟨_,[],[0],(A3 h).symm,yF,?_⟩
 try simp only[*,go_sem,seval]
 rintro a ⟨_,_,_⟩ e _ h
 simp only[go_sem,seval,Zb] at e
 obtain ⟨⟨_,_,_,_⟩,_,hn⟩:=e
 subst hn
 have:=ZB (r_0.cond.length)
 cases h
 try simp only[*,go_sem,seval]
theorem Qy {l_0:(List ByteArray)} {r:(List ByteArray)} (h:Yy l_0=some r):Zm prog J0 196 [(false,[.sl 9 1 (A0 ZA l_0)])] [(false,[(false,.sl 9 1 (A0 ZA r))])]:=by
 refine fnk func196 rfl ?_
 unfold Yy at h
 simp only[fnS,f196,Zo,go_sem,seval]
 obtain ⟨g,h⟩:=Zv h
 try simp only[Nat.reduceLeDiff] at g
 try simp only[*,go_sem,seval]
 obtain ⟨a,j,h⟩:=Za h
 refine Zwm (ZkV j) ?_
 try simp only[*,go_sem,seval]
 refine Zh h (fun i b st=>IV [(3,.p false [.row 0]),(4,.p false [.row 1]),(11,.p false [.row 0]),(12,yL a.length),(13,yL i)] [.row 9 1 (A0 ZA a) 2,.row 9 1 (A0 ZA b) 2] st) [(false,4,0)] [32,160] yF yD ?_ ?_
 rintro _ _ b ⟨_,_,_⟩ _ d e k h _
 simp only[go_sem,seval,Zb] at e
 obtain ⟨⟨_,_,_,_,_⟩,l,_,hn⟩:=e
 subst hn
 have m:=WF.rowL k l
 have:=ZC d
 have:=ZE d
 have:=Zk (ZD d) m
 try simp only[*,go_sem,seval]
 refine yB h (fun _ h=>?_) fun _ h=>?_
 obtain ⟨o,h⟩:=Zv h
 try simp only[Nat.reduceLeDiff] at o
 try simp only[*,go_sem,seval]
 refine ⟨_,[],[0,322],(A3 h).symm,yF,?_⟩
 try simp only[*,go_sem,seval]
 obtain ⟨_,h⟩:=Zv h
 obtain ⟨_,_,h⟩:=Za h
 try simp only[*,go_sem,seval]
 refine yB h (fun _ h=>?_) fun _ h=>?_
 refine ⟨_,[],[0,1],(A3 h).symm,yF,?_⟩
 try simp only[*,go_sem,seval]
 obtain ⟨q,h⟩:=Zv h
 try simp only[Nat.reduceLeDiff] at q
 try simp only[*,go_sem,seval]
 refine ⟨_,[],[0,322],(A3 h).symm,yF,?_⟩
 try simp only[*,go_sem,seval]
 rintro b ⟨_,_,_⟩ f _ h
 simp only[go_sem,seval,Zb] at f
 obtain ⟨⟨_,_,_,_,_⟩,_,_,hn⟩:=f
 subst hn
 have:=ZB (a.length)
 cases h
 try simp only[*,go_sem,seval]
theorem ZaB {l_0:(List ByteArray)} {s_1:ByteArray} {r:Bool} (h:Xv l_0 s_1=some r):Zm prog J0 195 [(false,[.sl 9 1 (A0 ZA l_0)]),(false,[.str s_1])] [(false,[(false,.bool r)])]:=by
 refine fnk func195 rfl ?_
 unfold Xv at h
 simp only[fnS,f195,Zo,go_sem,seval]
 refine Zh h (fun i _ st=>IV [(1,yM (.str s_1)),(7,yM (yU l_0)),(8,yL l_0.length),(9,yL i)] [] st) [] [] yF yD ?_ ?_
 rintro _ _ ⟨⟩ ⟨_,_,_⟩ _ a b e h f
 simp only[go_sem,seval,Zb] at b
 obtain ⟨⟨_,g,_,_⟩,hn⟩:=b
 subst hn
 have k:=WF.slotL e g (j:=0) rfl
 have:=ZC a
 have:=ZE a
 have:=Zk (ZD a) k
 try simp only[*,go_sem,seval]
 refine yB h (fun _ h=>?_) fun _ h=>?_
 replace h:=Zr h f
 cases h
 try simp only[*,go_sem,seval]
 refine ⟨_,[],[],(A3 h).symm,yF,?_⟩
 try simp only[*,go_sem,seval]
 rintro ⟨⟩ ⟨_,_,_⟩ d _ h
 simp only[go_sem,seval,Zb] at d
 obtain ⟨⟨_,_,_,_⟩,hn⟩:=d
 subst hn
 have:=ZB (l_0.length)
 cases h
 try simp only[*,go_sem,seval]
theorem ZoE {l_0:(List Zg)} {name_1:ByteArray} {r:Int} (h:Zbd l_0 name_1=some r):Zm prog J0 169 [(false,[.sl 76 4 (A0 ZL l_0)]),(false,[.str name_1])] [(false,[(false,.int .i64 r)])]:=by
 refine fnk func169 rfl ?_
 unfold Zbd at h
 simp only[fnS,f169,Zo,go_sem,seval]
 refine Zh h (fun i _ st=>IV [(1,yM (.str name_1)),(7,yM (yY l_0)),(8,yL l_0.length),(9,yL i)] [] st) [] [] yF yD ?_ ?_
 rintro _ _ ⟨⟩ ⟨_,_,_⟩ _ a b e h f
 simp only[go_sem,seval,Zb] at b
 obtain ⟨⟨_,g,_,_⟩,hn⟩:=b
 subst hn
 have k:=WF.slotL e g (j:=0) rfl
 have:=ZC a
 have:=ZE a
 have:=Zk (ZD a) k
 try simp only[*,go_sem,seval]
 refine yB h (fun _ h=>?_) fun _ h=>?_
 replace h:=Zr h f
 cases h
 try simp only[*,go_sem,seval]
 refine ⟨_,[],[],(A3 h).symm,yF,?_⟩
 try simp only[*,go_sem,seval]
 rintro ⟨⟩ ⟨_,_,_⟩ d _ h
 simp only[go_sem,seval,Zb] at d
 obtain ⟨⟨_,_,_,_⟩,hn⟩:=d
 subst hn
 have:=ZB (l_0.length)
 cases h
 try simp only[*,go_sem,seval]
theorem ZoM {r_0:Zg} {r:Bool} (h:Zeg r_0=some r):Zm prog J0 318 [(true,ZL r_0)] [(false,[(false,.bool r)])]:=by
 refine fnk func318 rfl ?_
 unfold Zeg at h
 simp only[fnS,f318,Zo,go_sem,seval]
 refine Zh h (fun i _ st=>IV [(6,yM (yZ r_0.thn)),(7,yL r_0.thn.length),(8,yL i)] [] st) [] [] yF yD ?_ ?_
 rintro _ _ ⟨⟩ ⟨_,_,_⟩ _ a b e h f
 simp only[go_sem,seval,Zb] at b
 obtain ⟨⟨g,_,_⟩,hn⟩:=b
 subst hn
 have k:=WF.slotL e g (j:=0) rfl
 have:=ZC a
 have:=ZE a
 have:=Zk (ZD a) k
 try simp only[*,go_sem,seval]
 refine yB h (fun _ h=>?_) fun _ h=>?_
 replace h:=Zr h f
 cases h
 try simp only[*,go_sem,seval]
 refine ⟨_,[],[],(A3 h).symm,yF,?_⟩
 try simp only[*,go_sem,seval]
 rintro ⟨⟩ ⟨_,_,_⟩ d _ h
 simp only[go_sem,seval,Zb] at d
 obtain ⟨⟨_,_,_⟩,hn⟩:=d
 subst hn
 have:=ZB (r_0.thn.length)
 cases h
 try simp only[*,go_sem,seval]
theorem Zrg {l_0:(List Int)} {n_1:Int} {r:Bool} (h:ZgY l_0 n_1=some r):Zm prog J0 257 [(false,[.sl 3 1 (A0 ZO l_0)]),(false,[.int .i64 n_1])] [(false,[(false,.bool r)])]:=by
 refine fnk func257 rfl ?_
 unfold ZgY at h
 simp only[fnS,f257,Zo,go_sem,seval]
 refine Zh h (fun i _ st=>IV [(1,yM (.int .i64 n_1)),(7,yM (yV l_0)),(8,yL l_0.length),(9,yL i)] [] st) [] [] yF yD ?_ ?_
 rintro _ _ ⟨⟩ ⟨_,_,_⟩ _ a b e h f
 simp only[go_sem,seval,Zb] at b
 obtain ⟨⟨_,g,_,_⟩,hn⟩:=b
 subst hn
 have k:=WF.slotL e g (j:=0) rfl
 have:=ZC a
 have:=ZE a
 have:=Zk (ZD a) k
 try simp only[*,go_sem,seval]
 refine yB h (fun _ h=>?_) fun _ h=>?_
 replace h:=Zr h f
 cases h
 try simp only[*,go_sem,seval]
 refine ⟨_,[],[],(A3 h).symm,yF,?_⟩
 try simp only[*,go_sem,seval]
 rintro ⟨⟩ ⟨_,_,_⟩ d _ h
 simp only[go_sem,seval,Zb] at d
 obtain ⟨⟨_,_,_,_⟩,hn⟩:=d
 subst hn
 have:=ZB (l_0.length)
 cases h
 try simp only[*,go_sem,seval]
theorem ZiE {a_0:(List Int)} {b_1:(List Int)} {r:Bool} (h:Zcj a_0 b_1=some r):Zm prog J0 296 [(false,[.sl 3 1 (A0 ZO a_0)]),(false,[.sl 3 1 (A0 ZO b_1)])] [(false,[(false,.bool r)])]:=by
 refine fnk func296 rfl ?_
 unfold Zcj at h
 simp only[fnS,f296,Zo,go_sem,seval]
 refine yB h (fun _ h=>?_) fun _ h=>?_
 cases h
 try simp only[*,go_sem,seval]
 refine Zh h (fun i _ st=>IV [(0,yM (yV a_0)),(1,yM (yV b_1)),(12,yL a_0.length),(13,yL i)] [] st) [] [] yF yD ?_ ?_
 rintro _ _ ⟨⟩ ⟨_,_,_⟩ _ a b e h f
 simp only[go_sem,seval,Zb] at b
 obtain ⟨⟨g,_,_,_⟩,hn⟩:=b
 subst hn
 have k:=WF.slotL e g (j:=0) rfl
 have:=ZC a
 have:=ZE a
 have:=Zk (ZD a) k
 obtain ⟨_,_,_,l,h⟩:=ZcM h
 simp only[A6] at l
 try simp only[*,go_sem,seval]
 refine yB h (fun _ h=>?_) fun _ h=>?_
 replace h:=Zr h f
 cases h
 try simp only[*,go_sem,seval]
 refine ⟨_,[],[],(A3 h).symm,yF,?_⟩
 try simp only[*,go_sem,seval]
 rintro ⟨⟩ ⟨_,_,_⟩ d _ h
 simp only[go_sem,seval,Zb] at d
 obtain ⟨⟨_,_,_,_⟩,hn⟩:=d
 subst hn
 have:=ZB (a_0.length)
 cases h
 try simp only[*,go_sem,seval]
theorem Zsl {a:Zt} {r:(List Int)} (h:ZgM a=some r):Zm prog J0 263 [(true,Qu a)] [(false,[(false,.sl 3 1 (A0 ZO r))])]:=by
 refine fnk func263 rfl ?_
 unfold ZgM at h
 simp only[fnS,f263,Zo,go_sem,seval]
 obtain ⟨_,h⟩:=Zv h
 try simp only[*,go_sem,seval]
 refine Xj h (fun s st=>match s with | (q,t)=>IV [(1,.bp 0 0),(3,.p false [.row 1]),(4,yM (.bool t))] [.box 140 [.c (.int .i64 a.nodes),.c (zA a.reasons)],.row 3 1 (A0 ZO q) 2] st) [] [0,64] yF yD ?_
 rintro ⟨q,t⟩ ⟨_,_,_⟩ _ u _ h C
 simp only[go_sem,seval,Zb] at u
 obtain ⟨⟨_,_,_⟩,_,_,hn⟩:=u
 subst hn
 try simp only[*,go_sem,seval]
 refine yB h (fun _ h=>?_) fun _ h=>?_
 refine Zh h (fun i s st=>match s with | (e,f)=>IV [(1,.bp 0 0),(3,.p false [.row 1]),(4,yM (.bool f)),(17,yM (zA a.reasons)),(18,yL a.reasons.length),(19,yL i)] [.box 140 [.c (.int .i64 a.nodes),.c (zA a.reasons)],.row 3 1 (A0 ZO e) 2] st) [] [0,1] yF yD ?_ ?_
 rintro v d ⟨e,f⟩ ⟨_,_,_⟩ _ g w D h _
 simp only[go_sem,seval,Zb] at w
 obtain ⟨⟨_,_,_,E,_,_⟩,_,_,hn⟩:=w
 subst hn
 have F:=WF.slotL D E (j:=0) rfl
 have:=ZC g
 have:=ZE g
 have:=Zk (ZD g) F
 obtain ⟨_,h⟩:=Zv h
 obtain ⟨_,_,h⟩:=Za h
 try simp only[*,go_sem,seval]
 refine Zh h (fun i k st=>IV [(1,.bp 0 0),(3,.p false [.row 1]),(4,yM (.bool f)),(6,.bp 2 0),(7,yM (.int .i64 k)),(17,yM (zA a.reasons)),(18,yL a.reasons.length),(19,yL v),(29,yM (yV d.inn)),(30,yL d.inn.length),(31,yL i)] [.box 140 [.c (.int .i64 a.nodes),.c (zA a.reasons)],.row 3 1 (A0 ZO e) 2,zC 179 (ZG d)] st) [] [0,1,50] yF yD ?_ ?_
 rintro _ _ k ⟨_,_,_⟩ _ l x G h _
 simp only[go_sem,seval,Zb] at x
 obtain ⟨⟨_,_,_,_,_,_,_,_,H,_,_⟩,_,_,_,hn⟩:=x
 subst hn
 have I:=WF.slotL G H (j:=0) rfl
 have:=ZC l
 have:=ZE l
 have:=Zk (ZD l) I
 obtain ⟨_,h⟩:=Zv h
 obtain ⟨_,_,h⟩:=Za h
 try simp only[*,go_sem,seval]
 refine ⟨_,[],[0,1,2],(A3 h).symm,yF,?_⟩
 try simp only[*,go_sem,seval]
 rintro k ⟨_,_,_⟩ y _ h
 simp only[go_sem,seval,Zb] at y
 obtain ⟨⟨_,_,_,_,_,_,_,_,_,_,_⟩,_,_,_,hn⟩:=y
 subst hn
 have:=ZB (d.inn.length)
 try simp only[*,go_sem,seval]
 refine Zh h (fun i m st=>IV [(1,.bp 0 0),(3,.p false [.row 1]),(4,yM (.bool f)),(6,.bp 2 0),(7,yM (.int .i64 m)),(17,yM (zA a.reasons)),(18,yL a.reasons.length),(19,yL v),(43,yM (yV d.outs)),(44,yL d.outs.length),(45,yL i)] [.box 140 [.c (.int .i64 a.nodes),.c (zA a.reasons)],.row 3 1 (A0 ZO e) 2,zC 179 (ZG d)] st) [] [0,1,2] yF yD ?_ ?_
 rintro _ _ m ⟨_,_,_⟩ _ o z J h _
 simp only[go_sem,seval,Zb] at z
 obtain ⟨⟨_,_,_,_,_,_,_,_,K,_,_⟩,_,_,_,hn⟩:=z
 subst hn
 have L:=WF.slotL J K (j:=0) rfl
 have:=ZC o
 have:=ZE o
 have:=Zk (ZD o) L
 obtain ⟨_,h⟩:=Zv h
 obtain ⟨_,_,h⟩:=Za h
 try simp only[*,go_sem,seval]
 refine ⟨_,[],[0,1,2],(A3 h).symm,yF,?_⟩
 try simp only[*,go_sem,seval]
 rintro m ⟨_,_,_⟩ A _ h
 simp only[go_sem,seval,Zb] at A
 obtain ⟨⟨_,_,_,_,_,_,_,_,_,_,_⟩,_,_,_,hn⟩:=A
 subst hn
 have:=ZB (d.outs.length)
 try simp only[*,go_sem,seval]
 refine yB h (fun _ h=>?_) fun _ h=>?_
 refine ⟨_,[],[0,1],(A3 h).symm,yF,?_⟩
 try simp only[*,go_sem,seval]
 refine ⟨_,[],[0,1],(A3 h).symm,yF,?_⟩
 try simp only[*,go_sem,seval]
 rintro ⟨e,f⟩ ⟨_,_,_⟩ B _ h
 simp only[go_sem,seval,Zb] at B
 obtain ⟨⟨_,_,_,_,_,_⟩,_,_,hn⟩:=B
 subst hn
 have:=ZB (a.reasons.length)
 try simp only[*,go_sem,seval]
 refine ⟨_,[],[0,1],(A3 h).symm,yF,?_⟩
 try simp only[*,go_sem,seval]
 replace h:=Zr h C
 cases h
 try simp only[*,go_sem,seval]
theorem Zm7 {r_0:Zf} {rounds_1:(List Int)} {before_2:Int} {r:Bool} (h:Zbq r_0 rounds_1 before_2=some r):Zm prog J0 264 [(true,ZG r_0),(false,[.sl 3 1 (A0 ZO rounds_1)]),(false,[.int .i64 before_2])] [(false,[(false,.bool r)])]:=by
 refine fnk func264 rfl ?_
 unfold Zbq at h
 simp only[fnS,f264,Zo,go_sem,seval]
 refine Zh h (fun i _ st=>IV [(1,yM (yV rounds_1)),(2,yM (.int .i64 before_2)),(3,.bp 0 0),(12,yM (yV r_0.inn)),(13,yL r_0.inn.length),(14,yL i)] [zC 179 (ZG r_0)] st) [] [0] yF yD ?_ ?_
 rintro _ _ ⟨⟩ ⟨_,_,_⟩ _ a d l h e
 simp only[go_sem,seval,Zb] at d
 obtain ⟨⟨_,_,_,m,_,_⟩,_,hn⟩:=d
 subst hn
 have o:=WF.slotL l m (j:=0) rfl
 have:=ZC a
 have:=ZE a
 have:=Zk (ZD a) o
 obtain ⟨_,_,_,_,h⟩:=ZcM h
 try simp only[*,go_sem,seval]
 refine yB h (fun _ h=>?_) fun _ h=>?_
 replace h:=Zr h e
 cases h
 try simp only[*,go_sem,seval]
 refine yB h (fun _ h=>?_) fun _ h=>?_
 replace h:=Zr h e
 cases h
 try simp only[*,go_sem,seval]
 refine ⟨_,[],[0],(A3 h).symm,yF,?_⟩
 try simp only[*,go_sem,seval]
 rintro ⟨⟩ ⟨_,_,_⟩ f _ h
 simp only[go_sem,seval,Zb] at f
 obtain ⟨⟨_,_,_,_,_,_⟩,_,hn⟩:=f
 subst hn
 have:=ZB (r_0.inn.length)
 try simp only[*,go_sem,seval]
 refine Zh h (fun i _ st=>IV [(1,yM (yV rounds_1)),(33,yM (yV r_0.outs)),(34,yL r_0.outs.length),(35,yL i)] [] st) [] [] yF yD ?_ ?_
 rintro _ _ ⟨⟩ ⟨_,_,_⟩ _ b g q h t
 simp only[go_sem,seval,Zb] at g
 obtain ⟨⟨_,u,_,_⟩,hn⟩:=g
 subst hn
 have v:=WF.slotL q u (j:=0) rfl
 have:=ZC b
 have:=ZE b
 have:=Zk (ZD b) v
 obtain ⟨_,_,_,_,h⟩:=ZcM h
 try simp only[*,go_sem,seval]
 refine yB h (fun _ h=>?_) fun _ h=>?_
 replace h:=Zr h t
 cases h
 try simp only[*,go_sem,seval]
 refine ⟨_,[],[],(A3 h).symm,yF,?_⟩
 try simp only[*,go_sem,seval]
 rintro ⟨⟩ ⟨_,_,_⟩ k _ h
 simp only[go_sem,seval,Zb] at k
 obtain ⟨⟨_,_,_,_⟩,hn⟩:=k
 subst hn
 have:=ZB (r_0.outs.length)
 cases h
 try simp only[*,go_sem,seval]
theorem ZkK {n_0:Int} {r:ByteArray} (h:ZaQ n_0=some r):Zm prog J0 91 [(false,[.int .i64 n_0])] [(false,[(false,.str r)])]:=by
 refine fnk func91 rfl ?_
 unfold ZaQ at h
 have g:ZbS ⟨#[45,57,50,50,51,51,55,50,48,51,54,56,53,52,55,55,53,56,48,56]⟩=true:=by decide
 have i:ZbS ⟨#[]⟩=true:=by decide
 have j:¬((10:Int)=0):=by decide
 simp only[fnS,f91,Zo,go_sem,seval,g,i,j]
 refine yB h (fun _ h=>?_) fun _ h=>?_
 cases h
 try simp only[*,go_sem,seval]
 refine yB h (fun _ h=>?_) fun _ h=>?_
 cases h
 refine Xj h (fun s st=>match s with | (a,b)=>IV [(0,yM (.int .i64 a)),(3,yM (.str b))] [] st) [] [] yF yD ?_
 rintro ⟨a,b⟩ ⟨_,_,_⟩ _ d _ h k
 simp only[go_sem,seval,Zb] at d
 obtain ⟨⟨_,_⟩,hn⟩:=d
 subst hn
 obtain ⟨e,h⟩:=Zv h
 try simp only[Nat.reduceLeDiff] at e
 try simp only[go_sem] at e
 try simp only[*,go_sem,seval]
 refine yB h (fun _ h=>?_) fun _ h=>?_
 replace h:=Zr h k
 cases h
 try simp only[*,go_sem,seval]
 refine ⟨_,[],[],(A3 h).symm,yF,?_⟩
 try simp only[*,go_sem,seval]
theorem ZmT {n_0:Int} {r:ByteArray} (h:Zbl n_0=some r):Zm prog J0 91 [(false,[.int .i64 n_0])] [(false,[(false,.str r)])]:=by
 refine fnk func91 rfl ?_
 unfold Zbl at h
 have i:ZbS ⟨#[45,57,50,50,51,51,55,50,48,51,54,56,53,52,55,55,53,56,48,56]⟩=true:=by decide
 have j:ZbS ⟨#[45]⟩=true:=by decide
 have k:ZbS ⟨#[]⟩=true:=by decide
 have l:¬((10:Int)=0):=by decide
 simp only[fnS,f91,Zo,go_sem,seval,i,j,k,l]
 refine yB h (fun _ h=>?_) fun _ h=>?_
 cases h
 try simp only[*,go_sem,seval]
 refine yB h (fun _ h=>?_) fun _ h=>?_
 obtain ⟨_,m,h⟩:=Za h
 refine Zd (ZkK m) ?_
 obtain ⟨a,h⟩:=Zv h
 try simp only[Nat.reduceLeDiff] at a
 try simp only[go_sem] at a
 cases h
 try simp only[*,go_sem,seval]
 refine Xj h (fun s st=>match s with | (b,d)=>IV [(0,yM (.int .i64 b)),(3,yM (.str d))] [] st) [] [] yF yD ?_
 rintro ⟨b,d⟩ ⟨_,_,_⟩ _ e _ h o
 simp only[go_sem,seval,Zb] at e
 obtain ⟨⟨_,_⟩,hn⟩:=e
 subst hn
 obtain ⟨f,h⟩:=Zv h
 try simp only[Nat.reduceLeDiff] at f
 try simp only[go_sem] at f
 try simp only[*,go_sem,seval]
 refine yB h (fun _ h=>?_) fun _ h=>?_
 replace h:=Zr h o
 cases h
 try simp only[*,go_sem,seval]
 refine ⟨_,[],[],(A3 h).symm,yF,?_⟩
 try simp only[*,go_sem,seval]
theorem XM {x_0:Int} {least_1:Int} {most_2:Int} {r:Bool} (h:Qr x_0 least_1 most_2=some r):Zm prog J0 122 [(false,[.int .i64 x_0]),(false,[.int .i64 least_1]),(false,[.int .i64 most_2])] [(false,[(false,.bool r)])]:=by
 refine fnk func122 rfl ?_
 unfold Qr at h
 simp only[fnS,f122,Zo,go_sem,seval]
 refine yB h (fun _ h=>?_) fun _ h=>?_
 iterate 2 (cases h;try simp only[*,go_sem,seval])
end
end Go.Proofs.YtlpkbfjcdaanmaaGreatDoor
