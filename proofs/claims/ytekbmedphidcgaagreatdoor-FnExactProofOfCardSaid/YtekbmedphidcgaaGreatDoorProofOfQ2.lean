/- Texts of this proof, joined: Df, E1, P1, E2, E3, E15, P5, F3, F4, P14. What each holds is said at its theorems. -/
import Derived.Test.YtekbmedphidcgaaGreatDoorProofOfQ1
import Derived.Lib.ItoaLen
import Derived.Laws.BitsLemmas
import Derived.Lib.Bytealg
open Bool renaming true_and→A4,and_eq_true→A5,false_eq_true→A6,eq_iff_iff→A8,or_eq_true→AP,false_or→AT,false_and→Ae,and_true→Af,not_not→Ap,not_true→Aq
open Go.ByteArray renaming toList_eq→Ah
open Int renaming toNat→A3,toNat_natCast→AA
open List renaming mem_cons→A7,length_cons→A9,pairwise_cons→AB,set→AD,mem_of_getElem?→AF,replicate→AG,getElem?_eq_some_iff→AH,getElem?_eq_getElem→AK,all_eq_true→AL,mem_append→AM,flatMap_cons→AN,length_append→AO,length_nil→AR,foldl_cons→AS,mem_flatMap→AU,range'→AW,mem_cons_of_mem→AY,tail→AZ,drop_eq_nil_of_le→Ab,drop_eq_getElem_cons→Ac,foldl_append→Ad,append_nil→Ag,not_mem_nil→Al,not_any_eq_all_not→Am
open List.Pairwise renaming nil→AC
open Nat renaming le_trans→AI,zero_add→AJ,le_refl→AQ,pow_le_pow_right→Aa,mul_assoc→Aj
open Option renaming bind_some→A0,map_some→Ak
open Option.some renaming inj→AE
open UInt8 renaming ofNat→AX
set_option linter.unusedSimpArgs false
set_option linter.unusedVariables false
set_option maxRecDepth 1000000
set_option maxHeartbeats 4000000
namespace Go.Proofs.YtekbmedphidcgaaGreatDoor
section
structure Xd where
 rule:ByteArray
 token:Zt
structure Zac where
 rule:ByteArray
 facts:(List Zd)
structure ZF where
 b:(List Int)
 i:Int
 h:Int
def goO (f:Int→List Int→Option (List Int)):List Int→List Int→Option (List Int)
 | [],l=>some l
 | y::ys,l=>(f y l).bind (goO f ys)
noncomputable def ZDY (sup:Int→Option Int) (has:List Int→Int→Option Bool) (b:Zu):Nat→Int→List Int→Option (List Int)
 | 0,_,_=>none
 | n+1,x,l=>(sup x).bind fun s=>if decide (s<0)=true then some l else (has l s).bind fun h=>if h=true then some l else (b.reasons[s.toNat]?).bind fun r=>(goO (ZDY sup has b n) r.inn l).bind fun t=>if t.length<1048576 then some (t++[s]) else none
def Zb9 (d:List (List Bool)) (i j:Nat):Bool:=match d[i]? with | some r=>(match r[j]? with | some v=>v | none=>false) | none=>false
def Zjq (d:List (List Bool)) (i j:Nat) (v:Bool):List (List Bool):=match d[i]? with | some r=>d.set i (r.set j v) | none=>d
def Zah (x:Nat) (d:List (List Bool)) (y:Int):List (List Bool):=Zjq d x y.toNat true
def Zic (d:List (List Bool)) (r:Zg):List (List Bool):=r.outs.foldl (Zah r.for_.toNat) (r.inn.foldl (Zah r.for_.toNat) d)
def ZkT (k i:Nat) (d:List (List Bool)) (j:Nat):List (List Bool):=Zjq d i j (Zb9 d i j||(Zb9 d i k&&Zb9 d k j))
def Zm6 (n k:Nat) (d:List (List Bool)) (i:Nat):List (List Bool):=(AW 0 n).foldl (ZkT k i) d
def ZmX (n:Nat) (d:List (List Bool)) (k:Nat):List (List Bool):=(AW 0 n).foldl (Zm6 n k) d
def Zfc (n:Nat) (R:List Zg):List (List Bool):=(AW 0 n).foldl (ZmX n) (R.foldl Zic (AG n (AG n false)))
def Zl9 (b:Zu):Bool:=decide (0≤b.nodes∧b.nodes≤24∧b.reasons.length≤60)&&b.reasons.all fun r=>decide (0≤r.for_∧r.for_<b.nodes)&&r.inn.all (fun y=>decide (0≤y∧y<b.nodes))&&r.outs.all (fun y=>decide (0≤y∧y<b.nodes))
noncomputable def Zb4 (a_0:(List ByteArray)) (a:(List ByteArray)):Option Bool:=
 if (((a_0.length:Nat):Int) != ((a.length:Nat):Int))=true then
  some false
 else
  Zn (σ:=Unit)
   (fun (b:Nat) (c:ByteArray) _=>
    (atI a ((b:Nat):Int)).bind fun d=>
    if (sEq c d)=true then
     some (.inl ())
    else
     some (.inr false))
   (fun _=>
    some true)
   a_0 0 ()
noncomputable def Zbe (a_0:Zd) (b_1:Zd):Option Bool:=
 if (sEq a_0.rel b_1.rel)=true then
  (Zb4 a_0.args b_1.args).bind fun v1=>
  some v1
 else
  some false
noncomputable def Z8 (l_0:(List Zd)) (f_1:Zd):Option Int:=
 Zn (σ:=Unit)
  (fun (i6:Nat) (a:Zd) _=>
   (Zbe a f_1).bind fun b=>
   if b=true then
    some (.inr ((i6:Nat):Int))
   else
    some (.inl ()))
  (fun _=>
   some (-1))
  l_0 0 ()
noncomputable def Zaw (l_0:(List ByteArray)):Option (List ByteArray):=
 chk (l_0.length≤1073741824) <|
 some l_0
noncomputable def Yl (f_0:Zd):Option Zd:=
 (Zaw f_0.args).bind fun v1=>
 some ({ rel:=f_0.rel,args:=v1 }:Zd)
noncomputable def X5 (s_0:ByteArray):Option Bool:=
 if (decide (((s_0.size:Nat):Int)<1))=true then
  some false
 else
  if (decide (8<((s_0.size:Nat):Int)))=true then
   some false
  else
   Zn (σ:=Unit)
    (fun (i4:Nat) (a:UInt8) _=>
     if (decide (((a.toNat:Nat):Int)<97))=true then
      if (decide (((a.toNat:Nat):Int)<48))=true then
       some (.inr false)
      else
       if (decide (57<((a.toNat:Nat):Int)))=true then
        some (.inr false)
       else
        some (.inl ())
     else
      if (decide (122<((a.toNat:Nat):Int)))=true then
       if (decide (((a.toNat:Nat):Int)<48))=true then
        some (.inr false)
       else
        if (decide (57<((a.toNat:Nat):Int)))=true then
         some (.inr false)
        else
         some (.inl ())
      else
       some (.inl ()))
    (fun _=>
     some true)
    s_0.data.toList 0 ()
noncomputable def Zdg (s_0:ByteArray):Option Bool:=
 (X5 s_0).bind fun v1=>
 if v1=true then
  (sAt s_0 0).bind fun a=>
  some (decide (97≤((a.toNat:Nat):Int)))
 else
  some false
noncomputable def Zcp (a:ByteArray):Option Bool:=
 if (decide (1<((a.size:Nat):Int)))=true then
  (sAt a 0).bind fun b=>
  if (((b.toNat:Nat):Int)==63)=true then
   chk (0≤1∧1≤((a.size:Nat):Int)) <|
   (X5 (a.extract (A3 1) a.size)).bind fun c=>
   some c
  else
   some false
 else
  some false
noncomputable def Qx (s_0:ByteArray):Option Bool:=
 (X5 s_0).bind fun v1=>
 if v1=true then
  some true
 else
  (Zcp s_0).bind fun a=>
  some a
noncomputable def YR (p_0:Zv):Option Bool:=
 (Zdg p_0.rel).bind fun v1=>
 if v1=true then
  if (decide (3<((p_0.args.length:Nat):Int)))=true then
   some false
  else
   Zn (σ:=Unit)
    (fun (i7:Nat) (a:ByteArray) _=>
     (Qx a).bind fun b=>
     if b=true then
      some (.inl ())
     else
      some (.inr false))
    (fun _=>
     some true)
    p_0.args 0 ()
 else
  some false
noncomputable def Xq (a:(List Zp)):Option Bool:=
 if (decide (6<((a.length:Nat):Int)))=true then
  some false
 else
  Zn (σ:=Unit)
   (fun (c:Nat) (b:Zp) _=>
    (Zcp b.var).bind fun d=>
    if d=true then
     (X5 b.value).bind fun e=>
     if e=true then
      if (decide (0<((c:Nat):Int)))=true then
       (atI a (IntKind.i64.wrap (((c:Nat):Int) - 1))).bind fun f=>
       if (sLt f.var b.var)=true then
        some (.inl ())
       else
        some (.inr false)
      else
       some (.inl ())
     else
      some (.inr false)
    else
     some (.inr false))
   (fun _=>
    some true)
   a 0 ()
noncomputable def Zej (f_0:Zd):Option Bool:=
 (Zdg f_0.rel).bind fun v1=>
 if v1=true then
  if (decide (3<((f_0.args.length:Nat):Int)))=true then
   some false
  else
   Zn (σ:=Unit)
    (fun (i7:Nat) (a:ByteArray) _=>
     (X5 a).bind fun b=>
     if b=true then
      some (.inl ())
     else
      some (.inr false))
    (fun _=>
     some true)
    f_0.args 0 ()
 else
  some false
noncomputable def ZaB (b_0:(List Zp)):Option (List Zp):=
 chk (b_0.length≤1073741824) <|
 some b_0
noncomputable def ZaC (b_0:(List Zp)) (term_1:ByteArray):Option (ByteArray × Bool):=
 (X5 term_1).bind fun v1=>
 if v1=true then
  some (term_1,true)
 else
  (Zcp term_1).bind fun b=>
  if b=true then
   Zn (σ:=Unit)
    (fun (i6:Nat) (a:Zp) _=>
     if (sEq a.var term_1)=true then
      some (.inr (a.value,true))
     else
      some (.inl ()))
    (fun _=>
     some ((⟨#[]⟩),false))
    b_0 0 ()
  else
   some ((⟨#[]⟩),false)
noncomputable def Zf0 (append_0:(List Zp)) (b:ByteArray) (a_2:ByteArray):Option ((List Zp) × Bool):=
 (Xq append_0).bind fun v1=>
 if v1=true then
  (Zcp b).bind fun f=>
  if f=true then
   (X5 a_2).bind fun g=>
   if g=true then
    (ZaC append_0 b).bind fun e=>
    if e.2=true then
     if (sEq e.1 a_2)=true then
      (ZaB append_0).bind fun i=>
      some (i,true)
     else
      some ([],false)
    else
     if (decide (6≤((append_0.length:Nat):Int)))=true then
      some ([],false)
     else
      Zn (σ:=(List Zp) × Bool)
       (fun (i13:Nat) (c:Zp) s=>
        match s with
        | (a,d)=>
        if d=true then
         chk (a.length+1≤1073741824) <|
         some (.inl ((a++[c]),true))
        else
         if (sLt c.var b||sEq c.var b)=true then
          chk (a.length+1≤1073741824) <|
          some (.inl ((a++[c]),false))
         else
          chk (a.length+1≤1073741824) <|
          chk (a.length+1+1≤1073741824) <|
          some (.inl (((a++[({ var:=b,value:=a_2 }:Zp)])++[c]),true)))
       (fun s=>
        match s with
        | (a,d)=>
        if d=true then
         some (a,true)
        else
         chk (a.length+1≤1073741824) <|
         some ((a++[({ var:=b,value:=a_2 }:Zp)]),true))
       append_0 0 ([],false)
   else
    some ([],false)
  else
   some ([],false)
 else
  some ([],false)
noncomputable def ZaF (append_0:Zv) (a:Zd) (a_2:(List Zp)):Option ((List Zp) × Bool):=
 (YR append_0).bind fun v1=>
 if v1=true then
  (Zej a).bind fun f=>
  if f=true then
   (Xq a_2).bind fun g=>
   if g=true then
    if (sEq append_0.rel a.rel)=true then
     if (((append_0.args.length:Nat):Int) != ((a.args.length:Nat):Int))=true then
      some ([],false)
     else
      (ZaB a_2).bind fun i=>
      Zn (σ:=(List Zp))
       (fun (d:Nat) (c:ByteArray) b=>
        (X5 c).bind fun j=>
        if j=true then
         (atI a.args ((d:Nat):Int)).bind fun k=>
         if (sEq c k)=true then
          some (.inl b)
         else
          some (.inr ([],false))
        else
         (atI a.args ((d:Nat):Int)).bind fun l=>
         (Zf0 b c l).bind fun e=>
         if e.2=true then
          some (.inl e.1)
         else
          some (.inr ([],false)))
       (fun b=>
        some (b,true))
       append_0.args 0 i
    else
     some ([],false)
   else
    some ([],false)
  else
   some ([],false)
 else
  some ([],false)
noncomputable def Xc (p_0:Zv) (b_1:(List Zp)) (facts_2:(List Zd)):Option (List Zd):=
 Zn (σ:=(List Zd))
  (fun (i12:Nat) (b:Zd) a=>
   (ZaF p_0 b b_1).bind fun c=>
   if c.2=true then
    (Yl b).bind fun d=>
    chk (a.length+1≤1073741824) <|
    some (.inl (a++[d]))
   else
    some (.inl a))
  (fun a=>
   some a)
  facts_2 0 []
noncomputable def YS (p_0:Zv):Option Bool:=
 if (sEq p_0.rel ⟨#[]⟩)=true then
  some (((p_0.args.length:Nat):Int)==0)
 else
  some false
noncomputable def Zdj (x_0:Zr):Option Bool:=
 if (x_0.kind==1)=true then
  (YR x_0.pattern).bind fun v1=>
  if v1=true then
   if (sEq x_0.left ⟨#[]⟩)=true then
    some (sEq x_0.right ⟨#[]⟩)
   else
    some false
  else
   some false
 else
  if (x_0.kind==2)=true then
   (YR x_0.pattern).bind fun a=>
   if a=true then
    if (sEq x_0.left ⟨#[]⟩)=true then
     some (sEq x_0.right ⟨#[]⟩)
    else
     some false
   else
    some false
  else
   if (x_0.kind==3)=true then
    (Qx x_0.left).bind fun b=>
    if b=true then
     (Qx x_0.right).bind fun c=>
     if c=true then
      (YS x_0.pattern).bind fun d=>
      some d
     else
      some false
    else
     some false
   else
    if (x_0.kind==4)=true then
     (Qx x_0.left).bind fun e=>
     if e=true then
      (Qx x_0.right).bind fun f=>
      if f=true then
       (YS x_0.pattern).bind fun g=>
       some g
      else
       some false
     else
      some false
    else
     if (x_0.kind==5)=true then
      (Qx x_0.left).bind fun i=>
      if i=true then
       (Qx x_0.right).bind fun j=>
       if j=true then
        (YS x_0.pattern).bind fun k=>
        some k
       else
        some false
      else
       some false
     else
      some false
noncomputable def Zhs (x_0:Zr):Option Bool:=
 (Zdj x_0).bind fun v1=>
 if v1=true then
  some (decide (3≤x_0.kind))
 else
  some false
noncomputable def Zav (n_0:Int):Option ByteArray:=
 (Zno n_0).bind fun v1=>
 some v1
noncomputable def QD (s_0:ByteArray):Option (Int × Bool):=
 if (decide (((s_0.size:Nat):Int)<1))=true then
  some (0,false)
 else
  if (decide (4<((s_0.size:Nat):Int)))=true then
   some (0,false)
  else
   (Zkj s_0).bind fun v1=>
   if v1.2=true then
    if (decide (v1.1<0))=true then
     some (0,false)
    else
     if (decide (9999<v1.1))=true then
      some (0,false)
     else
      (Zav v1.1).bind fun a=>
      if (sEq a s_0)=true then
       some (v1.1,true)
      else
       some (0,false)
   else
    some (0,false)
noncomputable def ZbM (append_0:Zr) (String_1:(List Zp)):Option Bool:=
 (Zhs append_0).bind fun v1=>
 if v1=true then
  (Xq String_1).bind fun e=>
  if e=true then
   (ZaC String_1 append_0.left).bind fun a=>
   (ZaC String_1 append_0.right).bind fun b=>
   if a.2=true then
    if b.2=true then
     if (append_0.kind==3)=true then
      some (sEq a.1 b.1)
     else
      if (append_0.kind==4)=true then
       some (!(sEq a.1 b.1))
      else
       (QD a.1).bind fun c=>
       (QD b.1).bind fun d=>
       if c.2=true then
        if d.2=true then
         some (decide (c.1<d.1))
        else
         some false
       else
        some false
    else
     some false
   else
    some false
  else
   some false
 else
  some false
noncomputable def Zb5 (x_0:Zr) (a:(List Zp)) (b:(List Zd)):Option Bool:=
 (Zdj x_0).bind fun v1=>
 if v1=true then
  (Xq a).bind fun c=>
  if c=true then
   if (x_0.kind==1)=true then
    (Xc x_0.pattern a b).bind fun d=>
    some (decide (0<((d.length:Nat):Int)))
   else
    if (x_0.kind==2)=true then
     (Xc x_0.pattern a b).bind fun e=>
     some (((e.length:Nat):Int)==0)
    else
     (ZbM x_0 a).bind fun f=>
     some f
  else
   some false
 else
  some false
noncomputable def ZaG (l_0:(List Zd)):Option (List Zd):=
 Zn (σ:=(List Zd))
  (fun (i9:Nat) (b:Zd) a=>
   (Yl b).bind fun c=>
   chk (a.length+1≤1073741824) <|
   some (.inl (a++[c])))
  (fun a=>
   some a)
  l_0 0 []
noncomputable def Zam (append_0:(List Zr)) (String_1:(List Zd)):Option (List Zt):=
 Zn (σ:=(List Zt))
  (fun (i246:Nat) (d:Zr) e=>
   Zn (σ:=(List Zt))
    (fun (i322:Nat) (c:Zt) a=>
     if (d.kind != 1)=true then
      (Zb5 d c.binding String_1).bind fun j=>
      if j=true then
       chk (a.length+1≤1073741824) <|
       some (.inl (a++[c]))
      else
       some (.inl a)
     else
      Zn (σ:=(List Zt))
       (fun (i335:Nat) (f:Zd) b=>
        (ZaF d.pattern f c.binding).bind fun g=>
        if g.2=true then
         (ZaG c.facts).bind fun i=>
         (Yl f).bind fun k=>
         chk (i.length+1≤1073741824) <|
         chk (b.length+1≤1073741824) <|
         some (.inl (b++[({ facts:=(i++[k]),binding:=g.1 }:Zt)]))
        else
         some (.inl b))
       (fun b=>
        some (.inl b))
       String_1 0 a)
    (fun a=>
     some (.inl a))
    e 0 [])
  (fun e=>
   some e)
  append_0 0 ([({ facts:=[],binding:=[] }:Zt)])
noncomputable def Xw (a_0:Int) (b_1:Int):Option Int:=
 if (decide (a_0<b_1))=true then
  some (-1)
 else
  if (decide (b_1<a_0))=true then
   some 1
  else
   some 0
noncomputable def Qj (a_0:ByteArray) (b_1:ByteArray):Option Int:=
 (QD a_0).bind fun v1=>
 (QD b_1).bind fun a=>
 if v1.2=true then
  if a.2=true then
   (Xw v1.1 a.1).bind fun b=>
   some b
  else
   some (-1)
 else
  if a.2=true then
   some 1
  else
   (Zd1 a_0 b_1).bind fun c=>
   some c
noncomputable def XJ (a_0:Zd) (a:Zd):Option Int:=
 (Zd1 a_0.rel a.rel).bind fun v1=>
 if (v1 != 0)=true then
  some v1
 else
  Zn (σ:=Unit)
   (fun (b:Nat) (d:ByteArray) _=>
    if (decide (((b:Nat):Int)<((a.args.length:Nat):Int)))=true then
     (atI a.args ((b:Nat):Int)).bind fun e=>
     (Qj d e).bind fun c=>
     if (c != 0)=true then
      some (.inr c)
     else
      some (.inl ())
    else
     (Xw ((a_0.args.length:Nat):Int) ((a.args.length:Nat):Int)).bind fun f=>
     some (.inr f))
   (fun _=>
    (Xw ((a_0.args.length:Nat):Int) ((a.args.length:Nat):Int)).bind fun g=>
    some g)
   a_0.args 0 ()
noncomputable def XF (l_0:(List Zd)) (f_1:Zd):Option (List Zd):=
 Zn (σ:=(List Zd) × Bool)
  (fun (i21:Nat) (b:Zd) s=>
   match s with
   | (a,c)=>
   if c=true then
    (Yl b).bind fun d=>
    chk (a.length+1≤1073741824) <|
    some (.inl ((a++[d]),true))
   else
    (XJ b f_1).bind fun e=>
    if (decide (0<e))=true then
     (Yl f_1).bind fun f=>
     chk (a.length+1≤1073741824) <|
     (Yl b).bind fun g=>
     chk (a.length+1+1≤1073741824) <|
     some (.inl (((a++[f])++[g]),true))
    else
     (Yl b).bind fun i=>
     chk (a.length+1≤1073741824) <|
     some (.inl ((a++[i]),false)))
  (fun s=>
   match s with
   | (a,c)=>
   if c=true then
    some a
   else
    (Yl f_1).bind fun j=>
    chk (a.length+1≤1073741824) <|
    some (a++[j]))
  l_0 0 ([],false)
noncomputable def YA (r_0:Zf):Option (List Zr):=
 Zn (σ:=(List Zr))
  (fun (i7:Nat) (b:Zr) a=>
   if (b.kind != 2)=true then
    chk (a.length+1≤1073741824) <|
    some (.inl (a++[b]))
   else
    some (.inl a))
  (fun a=>
   some a)
  r_0.cond 0 []
noncomputable def XZ (p_0:Zv) (b_1:(List Zp)):Option (Zd × Bool):=
 (YR p_0).bind fun v1=>
 if v1=true then
  (Xq b_1).bind fun c=>
  if c=true then
   Zn (σ:=(List ByteArray))
    (fun (i11:Nat) (d:ByteArray) a=>
     (ZaC b_1 d).bind fun b=>
     if b.2=true then
      chk (a.length+1≤1073741824) <|
      some (.inl (a++[b.1]))
     else
      some (.inr (({ rel:=(⟨#[]⟩),args:=[] }:Zd),false)))
    (fun a=>
     some (({ rel:=p_0.rel,args:=a }:Zd),true))
    p_0.args 0 []
  else
   some (({ rel:=(⟨#[]⟩),args:=[] }:Zd),false)
 else
  some (({ rel:=(⟨#[]⟩),args:=[] }:Zd),false)
noncomputable def Qn (l_0:(List ByteArray)):Option (List ByteArray):=
 Zn (σ:=(List ByteArray))
  (fun (i9:Nat) (b:ByteArray) a=>
   (Zcp b).bind fun c=>
   if c=true then
    chk (a.length+1≤1073741824) <|
    some (.inl (a++[b]))
   else
    some (.inl a))
  (fun a=>
   some a)
  l_0 0 []
noncomputable def Yb (l_0:(List ByteArray)):Option (List ByteArray):=
 chk (l_0.length≤1073741824) <|
 (ZbK l_0).bind fun v1=>
 Zn (σ:=(List ByteArray))
  (fun (b:Nat) (c:ByteArray) a=>
   if (((b:Nat):Int)==0)=true then
    chk (a.length+1≤1073741824) <|
    some (.inl (a++[c]))
   else
    chk (0≤(IntKind.i64.wrap (((b:Nat):Int) - 1))∧(IntKind.i64.wrap (((b:Nat):Int) - 1))<((v1.length:Nat):Int)) <|
    (v1[(A3 (IntKind.i64.wrap (((b:Nat):Int) - 1)))]?).bind fun d=>
    if (sEq d c)=true then
     some (.inl a)
    else
     chk (a.length+1≤1073741824) <|
     some (.inl (a++[c])))
  (fun a=>
   some a)
  v1 0 []
noncomputable def Qu (r_0:Zf) (n_1:Int):Option (List ByteArray):=
 Zn (σ:=(List ByteArray))
  (fun (i10:Nat) (b:Zr) a=>
   if (decide (((i10:Nat):Int)<n_1))=true then
    if (b.kind==1)=true then
     (Qn b.pattern.args).bind fun c=>
     chk (a.length+c.length≤1073741824) <|
     some (.inl (a++c))
    else
     some (.inl a)
   else
    some (.inl a))
  (fun a=>
   (Yb a).bind fun d=>
   some d)
  r_0.cond 0 []
noncomputable def YV (l_0:(List ByteArray)) (s_1:ByteArray):Option Bool:=
 Zn (σ:=Unit)
  (fun (i4:Nat) (a:ByteArray) _=>
   if (sEq a s_1)=true then
    some (.inr true)
   else
    some (.inl ()))
  (fun _=>
   some false)
  l_0 0 ()
noncomputable def Zgs (x_0:Zr):Option (List ByteArray):=
 (Zaw x_0.pattern.args).bind fun v1=>
 chk (v1.length+2≤1073741824) <|
 some (v1++[x_0.left,x_0.right])
noncomputable def X1 (x_0:Zr):Option (List ByteArray):=
 (Zgs x_0).bind fun v1=>
 (Qn v1).bind fun a=>
 (Yb a).bind fun b=>
 some b
noncomputable def Xm (r_0:Zf) (k_1:Int) (a:ByteArray):Option Bool:=
 Zn (σ:=Unit)
  (fun (i16:Nat) (b:Zr) _=>
   if (((i16:Nat):Int) != k_1)=true then
    (X1 b).bind fun c=>
    (YV c a).bind fun d=>
    if d=true then
     some (.inr true)
    else
     some (.inl ())
   else
    some (.inl ()))
  (fun _=>
   Zn (σ:=Unit)
    (fun (i25:Nat) (e:Zx) _=>
     (YV e.pattern.args a).bind fun f=>
     if f=true then
      some (.inr true)
     else
      some (.inl ()))
    (fun _=>
     some false)
    r_0.thn 0 ())
  r_0.cond 0 ()
noncomputable def Zbs (a:Zf) (b:Int):Option Bool:=
 (atI a.cond b).bind fun c=>
 (Qu a b).bind fun e=>
 (X1 c).bind fun f=>
 Zn (σ:=Unit)
  (fun (i11:Nat) (d:ByteArray) _=>
   if (c.kind==1)=true then
    some (.inl ())
   else
    (YV e d).bind fun g=>
    if g=true then
     some (.inl ())
    else
     if (c.kind != 2)=true then
      some (.inr false)
     else
      (Xm a b d).bind fun i=>
      if i=true then
       some (.inr false)
      else
       some (.inl ()))
  (fun _=>
   some true)
  f 0 ()
noncomputable def Zc5 (a_0:Zx):Option Bool:=
 if (a_0.kind==1)=true then
  (YR a_0.pattern).bind fun v1=>
  some v1
 else
  if (a_0.kind==2)=true then
   (YR a_0.pattern).bind fun a=>
   some a
  else
   if (a_0.kind==3)=true then
    (YS a_0.pattern).bind fun b=>
    some b
   else
    some false
noncomputable def Za4 (l_0:(List Zr)):Option (List ByteArray):=
 Zn (σ:=(List ByteArray))
  (fun (i9:Nat) (c:Zr) a=>
   (X1 c).bind fun b=>
   chk (a.length+b.length≤1073741824) <|
   some (.inl (a++b)))
  (fun a=>
   some a)
  l_0 0 []
noncomputable def ZdT (append_0:Zf):Option Bool:=
 (Zdg append_0.name).bind fun v1=>
 if v1=true then
  if (decide (append_0.priority<0))=true then
   some false
  else
   if (decide (9<append_0.priority))=true then
    some false
   else
    if (decide (((append_0.cond.length:Nat):Int)<1))=true then
     some false
    else
     if (decide (4<((append_0.cond.length:Nat):Int)))=true then
      some false
     else
      if (decide (((append_0.thn.length:Nat):Int)<1))=true then
       some false
      else
       if (decide (2<((append_0.thn.length:Nat):Int)))=true then
        some false
       else
        Zn (σ:=Unit)
         (fun (i50:Nat) (a:Zr) _=>
          (Zdj a).bind fun c=>
          if c=true then
           if (((i50:Nat):Int)==0)=true then
            if (a.kind != 1)=true then
             some (.inr false)
            else
             (Zbs append_0 ((i50:Nat):Int)).bind fun d=>
             if d=true then
              some (.inl ())
             else
              some (.inr false)
           else
            (Zbs append_0 ((i50:Nat):Int)).bind fun e=>
            if e=true then
             some (.inl ())
            else
             some (.inr false)
          else
           some (.inr false))
         (fun _=>
          (Qu append_0 ((append_0.cond.length:Nat):Int)).bind fun f=>
          Zn (σ:=Unit)
           (fun (i81:Nat) (b:Zx) _=>
            (Zc5 b).bind fun g=>
            if g=true then
             (Qn b.pattern.args).bind fun i=>
             Zn (σ:=Unit)
              (fun (i90:Nat) (j:ByteArray) _=>
               (YV f j).bind fun k=>
               if k=true then
                some (.inl ())
               else
                some (.inr (.inr false)))
              (fun _=>
               some (.inl ()))
              i 0 ()
            else
             some (.inr false))
           (fun _=>
            (Za4 append_0.cond).bind fun l=>
            (Yb l).bind fun m=>
            some (decide (((m.length:Nat):Int)≤6)))
           append_0.thn 0 ())
         append_0.cond 0 ()
 else
  some false
noncomputable def Zao (l_0:(List Zf)) (name_1:ByteArray):Option Int:=
 Zn (σ:=Unit)
  (fun (i4:Nat) (a:Zf) _=>
   if (sEq a.name name_1)=true then
    some (.inr ((i4:Nat):Int))
   else
    some (.inl ()))
  (fun _=>
   some (-1))
  l_0 0 ()
noncomputable def ZcN (l_0:(List Zf)):Option Bool:=
 if (decide (6<((l_0.length:Nat):Int)))=true then
  some false
 else
  Zn (σ:=Unit)
   (fun (i8:Nat) (a:Zf) _=>
    (ZdT a).bind fun b=>
    if b=true then
     (Zao l_0 a.name).bind fun c=>
     if (c != ((i8:Nat):Int))=true then
      some (.inr false)
     else
      some (.inl ())
    else
     some (.inr false))
   (fun _=>
    some true)
   l_0 0 ()
noncomputable def Zc0 (r_0:Zf):Option Bool:=
 Zn (σ:=Unit)
  (fun (i4:Nat) (a:Zx) _=>
   if (a.kind != 1)=true then
    some (.inr false)
   else
    some (.inl ()))
  (fun _=>
   some true)
  r_0.thn 0 ()
noncomputable def ZbU (r_0:Zf):Option Bool:=
 (ZdT r_0).bind fun v1=>
 if v1=true then
  (Zc0 r_0).bind fun b=>
  if b=true then
   Zn (σ:=Unit)
    (fun (i26:Nat) (a:Zr) _=>
     if (a.kind != 2)=true then
      some (.inl ())
     else
      (Qu r_0 ((i26:Nat):Int)).bind fun c=>
      (X1 a).bind fun d=>
      Zn (σ:=Unit)
       (fun (i35:Nat) (e:ByteArray) _=>
        (YV c e).bind fun f=>
        if f=true then
         some (.inl ())
        else
         some (.inr (.inr false)))
       (fun _=>
        some (.inl ()))
       d 0 ())
    (fun _=>
     some true)
    r_0.cond 0 ()
  else
   some false
 else
  some false
noncomputable def XY (r_0:Zf):Option (List ByteArray):=
 Zn (σ:=(List ByteArray))
  (fun (i7:Nat) (b:Zx) a=>
   if (b.kind==1)=true then
    chk (a.length+1≤1073741824) <|
    some (.inl (a++[b.pattern.rel]))
   else
    if (b.kind==2)=true then
     chk (a.length+1≤1073741824) <|
     some (.inl (a++[b.pattern.rel]))
    else
     some (.inl a))
  (fun a=>
   (Yb a).bind fun c=>
   some c)
  r_0.thn 0 []
noncomputable def Zbm (r_0:Zf):Option (List ByteArray):=
 Zn (σ:=(List ByteArray))
  (fun (i7:Nat) (b:Zr) a=>
   if (b.kind==1)=true then
    chk (a.length+1≤1073741824) <|
    some (.inl (a++[b.pattern.rel]))
   else
    if (b.kind==2)=true then
     chk (a.length+1≤1073741824) <|
     some (.inl (a++[b.pattern.rel]))
    else
     some (.inl a))
  (fun a=>
   (Yb a).bind fun c=>
   some c)
  r_0.cond 0 []
noncomputable def ZcF (rules_0:(List Zf)) (a_1:ByteArray):Option (List (ByteArray × Bool)):=
 Y5 (σ:=(List (ByteArray × Bool)) × (List ByteArray))
  (fun s=>
   match s with
   | (g,a)=>
   if (decide (0<((a.length:Nat):Int)))=true then
    chk (0≤0∧0<((a.length:Nat):Int)) <|
    (a[(A3 0)]?).bind fun j=>
    chk (0≤1∧1≤((a.length:Nat):Int)) <|
    Zn (σ:=(List (ByteArray × Bool)) × (List ByteArray))
     (fun (i72:Nat) (i:Zf) s=>
      match s with
      | (d,e)=>
      (XY i).bind fun k=>
      (YV k j).bind fun l=>
      if l=true then
       (Zbm i).bind fun m=>
       Zn (σ:=(List (ByteArray × Bool)) × (List ByteArray))
        (fun (i83:Nat) (f:ByteArray) s=>
         match s with
         | (b,c)=>
         if (QU b f false)=true then
          some (.inl (b,c))
         else
          chk (c.length+1≤1073741824) <|
          some (.inl ((Zeu b f true),(c++[f]))))
        (fun s=>
         match s with
         | (b,c)=>
         some (.inl (b,c)))
        m 0 (d,e)
      else
       some (.inl (d,e)))
     (fun s=>
      match s with
      | (d,e)=>
      some (.inl (d,e)))
     rules_0 0 (g,(List.drop (A3 1) a))
   else
    some (.inr g))
  ([],[a_1])
noncomputable def ZaP (rules_0:(List Zf)):Option Bool:=
 (ZcN rules_0).bind fun v1=>
 if v1=true then
  Zn (σ:=Unit)
   (fun (i59:Nat) (a:Zf) _=>
    (ZbU a).bind fun d=>
    if d=true then
     Zn (σ:=Unit)
      (fun (i79:Nat) (b:Zr) _=>
       if (b.kind != 2)=true then
        some (.inl ())
       else
        (ZcF rules_0 b.pattern.rel).bind fun e=>
        (XY a).bind fun f=>
        Zn (σ:=Unit)
         (fun (i86:Nat) (c:ByteArray) _=>
          if (sEq c b.pattern.rel)=true then
           some (.inr (.inr (.inr false)))
          else
           if (QU e c false)=true then
            some (.inr (.inr (.inr false)))
           else
            some (.inl ()))
         (fun _=>
          some (.inl ()))
         f 0 ())
      (fun _=>
       some (.inl ()))
      a.cond 0 ()
    else
     some (.inr false))
   (fun _=>
    some true)
   rules_0 0 ()
 else
  some false
noncomputable def ZcA (a:(List Zd)):Option Bool:=
 if (decide (24<((a.length:Nat):Int)))=true then
  some false
 else
  Zn (σ:=Unit)
   (fun (b:Nat) (c:Zd) _=>
    (Zej c).bind fun d=>
    if d=true then
     if (decide (0<((b:Nat):Int)))=true then
      (atI a (IntKind.i64.wrap (((b:Nat):Int) - 1))).bind fun e=>
      (XJ e c).bind fun f=>
      if (decide (0≤f))=true then
       some (.inr false)
      else
       some (.inl ())
     else
      some (.inl ())
    else
     some (.inr false))
   (fun _=>
    some true)
   a 0 ()
noncomputable def Yf (append_0:(List Zf)) (String_1:(List Zd)):Option ((List Zd) × Bool):=
 (ZaP append_0).bind fun v1=>
 if v1=true then
  (ZcA String_1).bind fun k=>
  if k=true then
   (ZaG String_1).bind fun l=>
   Y5 (σ:=(List Zd) × Bool)
    (fun s=>
     match s with
     | (g,m)=>
     if m=true then
      Zn (σ:=(List Zd) × Bool)
       (fun (i423:Nat) (i:Zf) s=>
        match s with
        | (b,c)=>
        (YA i).bind fun o=>
        (Zam o b).bind fun p=>
        Zn (σ:=(List Zd) × Bool)
         (fun (i480:Nat) (q:Zt) s=>
          match s with
          | (d,e)=>
          Zn (σ:=(List Zd) × Bool)
           (fun (i501:Nat) (t:Zx) s=>
            match s with
            | (a,f)=>
            (XZ t.pattern q.binding).bind fun j=>
            (Z8 a j.1).bind fun u=>
            if (decide (0≤u))=true then
             some (.inl (a,f))
            else
             if (decide (24≤((a.length:Nat):Int)))=true then
              some (.inr (.inr (.inr (.inr ([],false)))))
             else
              (XF a j.1).bind fun v=>
              some (.inl (v,true)))
           (fun s=>
            match s with
            | (a,f)=>
            some (.inl (a,f)))
           i.thn 0 (d,e))
         (fun s=>
          match s with
          | (d,e)=>
          some (.inl (d,e)))
         p 0 (b,c))
       (fun s=>
        match s with
        | (b,c)=>
        some (.inl (b,c)))
       append_0 0 (g,false)
     else
      some (.inr (g,true)))
    (l,true)
  else
   some ([],false)
 else
  some ([],false)
noncomputable def ZfM (l_0:(List Int)) (n_1:Int):Option Bool:=
 Zn (σ:=Unit)
  (fun (i4:Nat) (a:Int) _=>
   if (a==n_1)=true then
    some (.inr true)
   else
    some (.inl ()))
  (fun _=>
   some false)
  l_0 0 ()
noncomputable def Zcr (facts_0:(List Zd)) (l_1:(List Zd)):Option (List Int):=
 Zn (σ:=(List Int))
  (fun (i16:Nat) (c:Zd) a=>
   (Z8 facts_0 c).bind fun b=>
   if (decide (0≤b))=true then
    (ZfM a b).bind fun d=>
    if d=true then
     some (.inl a)
    else
     chk (a.length+1≤1073741824) <|
     some (.inl (a++[b]))
   else
    some (.inl a))
  (fun a=>
   (ZeC a).bind fun e=>
   some e)
  l_1 0 []
noncomputable def Zbh (a_0:(List Int)) (a:(List Int)):Option Bool:=
 if (((a_0.length:Nat):Int) != ((a.length:Nat):Int))=true then
  some false
 else
  Zn (σ:=Unit)
   (fun (b:Nat) (c:Int) _=>
    (atI a ((b:Nat):Int)).bind fun d=>
    if (c != d)=true then
     some (.inr false)
    else
     some (.inl ()))
   (fun _=>
    some true)
   a_0 0 ()
noncomputable def ZaK (a_0:Zg) (b_1:Zg):Option Bool:=
 if (a_0.for_==b_1.for_)=true then
  (Zbh a_0.inn b_1.inn).bind fun v1=>
  if v1=true then
   (Zbh a_0.outs b_1.outs).bind fun a=>
   some a
  else
   some false
 else
  some false
noncomputable def ZaA (l_0:(List Zg)) (r_1:Zg):Option Bool:=
 Zn (σ:=Unit)
  (fun (i6:Nat) (a:Zg) _=>
   (ZaK a r_1).bind fun b=>
   if b=true then
    some (.inr true)
   else
    some (.inl ()))
  (fun _=>
   some false)
  l_0 0 ()
noncomputable def ZEB (append_0:(List Zf)) (String_1:(List Zd)):Option ((List Zd) × Zu × (List Zac) × Bool):=
 (Yf append_0 String_1).bind fun v1=>
 if v1.2=true then
  Zn (σ:=(List Zg) × (List Zac))
   (fun (i941:Nat) (t:Zd) s=>
    match s with
    | (d,e)=>
    (Z8 v1.1 t).bind fun u=>
    chk (d.length+1≤1073741824) <|
    chk (e.length+1≤1073741824) <|
    some (.inl ((d++[({ for_:=u,inn:=[],outs:=[] }:Zg)]),(e++[({ rule:=(⟨#[]⟩),facts:=[] }:Zac)]))))
   (fun s=>
    match s with
    | (d,e)=>
    Zn (σ:=(List Zg) × (List Zac))
     (fun (i1660:Nat) (f:Zf) s=>
      match s with
      | (g,j)=>
      (YA f).bind fun v=>
      (Zam v v1.1).bind fun w=>
      Zn (σ:=(List Zg) × (List Zac))
       (fun (i1803:Nat) (i:Zt) s=>
        match s with
        | (k,l)=>
        Zn (σ:=(List Zd))
         (fun (i1841:Nat) (m:Zr) b=>
          if (m.kind==2)=true then
           (XZ m.pattern i.binding).bind fun x=>
           chk (b.length+1≤1073741824) <|
           some (.inl (b++[x.1]))
          else
           some (.inl b))
         (fun b=>
          Zn (σ:=(List Zg) × (List Zac))
           (fun (i1865:Nat) (y:Zx) s=>
            match s with
            | (a,c)=>
            (XZ y.pattern i.binding).bind fun z=>
            (Z8 v1.1 z.1).bind fun o=>
            (Zcr v1.1 i.facts).bind fun p=>
            (Zcr v1.1 b).bind fun q=>
            (ZaA a ({ for_:=o,inn:=p,outs:=q }:Zg)).bind fun A=>
            if A=true then
             some (.inl (a,c))
            else
             chk (a.length+1≤1073741824) <|
             chk (c.length+1≤1073741824) <|
             some (.inl ((a++[({ for_:=o,inn:=p,outs:=q }:Zg)]),(c++[({ rule:=f.name,facts:=i.facts }:Zac)]))))
           (fun s=>
            match s with
            | (a,c)=>
            some (.inl (a,c)))
           f.thn 0 (k,l))
         f.cond 0 [])
       (fun s=>
        match s with
        | (k,l)=>
        some (.inl (k,l)))
       w 0 (g,j))
     (fun s=>
      match s with
      | (g,j)=>
      if (decide (60<((g.length:Nat):Int)))=true then
       some ([],({ nodes:=0,reasons:=[] }:Zu),[],false)
      else
       some (v1.1,({ nodes:=((v1.1.length:Nat):Int),reasons:=g }:Zu),j,true))
     append_0 0 (d,e))
   String_1 0 ([],[])
 else
  some ([],({ nodes:=0,reasons:=[] }:Zu),[],false)
noncomputable def ZaJ (append_0:(List Zf)) (String_1:(List Zd)):Option ((List Zd) × Zu × (List Zac) × Bool):=
 (Yf append_0 String_1).bind fun v1=>
 if v1.2=true then
  Zn (σ:=(List Zg) × (List Zac))
   (fun (i941:Nat) (t:Zd) s=>
    match s with
    | (d,e)=>
    (Z8 v1.1 t).bind fun u=>
    chk (d.length+1≤1073741824) <|
    chk (e.length+1≤1073741824) <|
    some (.inl ((d++[({ for_:=u,inn:=[],outs:=[] }:Zg)]),(e++[({ rule:=(⟨#[]⟩),facts:=[] }:Zac)]))))
   (fun s=>
    match s with
    | (d,e)=>
    Zn (σ:=(List Zg) × (List Zac))
     (fun (i1660:Nat) (f:Zf) s=>
      match s with
      | (g,j)=>
      (YA f).bind fun v=>
      (Zam v v1.1).bind fun w=>
      Zn (σ:=(List Zg) × (List Zac))
       (fun (i1803:Nat) (i:Zt) s=>
        match s with
        | (k,l)=>
        Zn (σ:=(List Zd))
         (fun (i1841:Nat) (m:Zr) b=>
          if (m.kind==2)=true then
           (XZ m.pattern i.binding).bind fun x=>
           chk (b.length+1≤1073741824) <|
           some (.inl (b++[x.1]))
          else
           some (.inl b))
         (fun b=>
          Zn (σ:=(List Zg) × (List Zac))
           (fun (i1865:Nat) (y:Zx) s=>
            match s with
            | (a,c)=>
            (XZ y.pattern i.binding).bind fun z=>
            (Z8 v1.1 z.1).bind fun o=>
            (Zcr v1.1 i.facts).bind fun p=>
            (Zcr v1.1 b).bind fun q=>
            (ZaA a ({ for_:=o,inn:=p,outs:=q }:Zg)).bind fun A=>
            if A=true then
             some (.inl (a,c))
            else
             chk (a.length+1≤1073741824) <|
             chk (c.length+1≤1073741824) <|
             some (.inl ((a++[({ for_:=o,inn:=p,outs:=q }:Zg)]),(c++[({ rule:=f.name,facts:=i.facts }:Zac)]))))
           (fun s=>
            match s with
            | (a,c)=>
            some (.inl (a,c)))
           f.thn 0 (k,l))
         f.cond 0 [])
       (fun s=>
        match s with
        | (k,l)=>
        some (.inl (k,l)))
       w 0 (g,j))
     (fun s=>
      match s with
      | (g,j)=>
      if (decide (60<((g.length:Nat):Int)))=true then
       some ([],({ nodes:=0,reasons:=[] }:Zu),[],false)
      else
       some (v1.1,({ nodes:=((v1.1.length:Nat):Int),reasons:=g }:Zu),j,true))
     append_0 0 (d,e))
   String_1 0 ([],[])
 else
  some ([],({ nodes:=0,reasons:=[] }:Zu),[],false)
noncomputable def ZfS (d:Zu):Option (List Int):=
 chk (0≤d.nodes∧d.nodes≤1073741824) <|
 Y5 (σ:=(List Int) × Bool)
  (fun s=>
   match s with
   | (j,o)=>
   if o=true then
    Zn (σ:=(List Int) × Bool)
     (fun (i155:Nat) (b:Zg) s=>
      match s with
      | (a,f)=>
      chk (0≤b.for_∧b.for_<((a.length:Nat):Int)) <|
      (a[(A3 b.for_)]?).bind fun k=>
      Zn (σ:=Int)
       (fun (i173:Nat) (g:Int) e=>
        chk (0≤g∧g<((a.length:Nat):Int)) <|
        (a[(A3 g)]?).bind fun l=>
        some (.inl (if e<l then l else e)))
       (fun e=>
        Zn (σ:=Int)
         (fun (i182:Nat) (i:Int) c=>
          chk (0≤i∧i<((a.length:Nat):Int)) <|
          (a[(A3 i)]?).bind fun m=>
          some (.inl (if c<(IntKind.i64.wrap (m+1)) then (IntKind.i64.wrap (m+1)) else c)))
         (fun c=>
          if (decide (k<c))=true then
           some (.inl ((AD a (A3 b.for_) c),true))
          else
           some (.inl (a,f)))
         b.outs 0 e)
       b.inn 0 k)
     (fun s=>
      match s with
      | (a,f)=>
      some (.inl (a,f)))
     d.reasons 0 (j,false)
   else
    some (.inr j))
  ((AG (A3 d.nodes) 0),true)
noncomputable def Zas (r_0:Zg) (a:(List Int)) (before_2:Int):Option Bool:=
 Zn (σ:=Unit)
  (fun (i14:Nat) (c:Int) _=>
   (atI a c).bind fun b=>
   if (decide (b<0))=true then
    some (.inr false)
   else
    if (decide (before_2≤b))=true then
     some (.inr false)
    else
     some (.inl ()))
  (fun _=>
   Zn (σ:=Unit)
    (fun (i22:Nat) (d:Int) _=>
     (atI a d).bind fun e=>
     if (decide (0≤e))=true then
      some (.inr false)
     else
      some (.inl ()))
    (fun _=>
     some true)
    r_0.outs 0 ())
  r_0.inn 0 ()
noncomputable def ZfP (d:Zu):Option (List Int):=
 (ZfS d).bind fun v1=>
 chk (0≤d.nodes∧d.nodes≤1073741824) <|
 Y5 (σ:=(List Int) × Int × Int)
  (fun s=>
   match s with
   | (g,a,l)=>
   if (decide (a<((A3 d.nodes:Nat):Int)))=true then
    chk (0≤a∧a<((g.length:Nat):Int)) <|
    (g[(A3 a)]?).bind fun t=>
    chk (a<((v1.length:Nat):Int)) <|
    (v1[(A3 a)]?).bind fun m=>
    some (.inl ((AD g (A3 a) (-1)),(IntKind.i64.wrap (a+1)),(if l<m then m else l)))
   else
    Y5 (σ:=(List Int) × Int × Int)
     (fun s=>
      match s with
      | (e,i,j)=>
      if (decide (j≤l))=true then
       Zn (σ:=(List Int))
        (fun (i109:Nat) (c:Zg) b=>
         chk (0≤c.for_∧c.for_<((v1.length:Nat):Int)) <|
         (v1[(A3 c.for_)]?).bind fun o=>
         if (o==j)=true then
          chk (c.for_<((e.length:Nat):Int)) <|
          (e[(A3 c.for_)]?).bind fun p=>
          if (decide (p<0))=true then
           (Zas c e i).bind fun q=>
           if q=true then
            chk (b.length+1≤1073741824) <|
            some (.inl (b++[c.for_]))
           else
            some (.inl b)
          else
           some (.inl b)
         else
          some (.inl b))
        (fun b=>
         if (((b.length:Nat):Int)==0)=true then
          some (.inl (e,i,(IntKind.i64.wrap (j+1))))
         else
          Zn (σ:=(List Int))
           (fun (i120:Nat) (k:Int) f=>
            chk (0≤k∧k<((f.length:Nat):Int)) <|
            (f[(A3 k)]?).bind fun u=>
            some (.inl (AD f (A3 k) i)))
           (fun f=>
            some (.inl (f,(IntKind.i64.wrap (i+1)),j)))
           b 0 e)
        d.reasons 0 []
      else
       some (.inr (.inr e)))
     (g,0,0))
  ((AG (A3 d.nodes) 0),0,0)
noncomputable def Za5 (x_0:Int) (least_1:Int) (most_2:Int):Option Bool:=
 if (decide (least_1≤x_0))=true then
  some (decide (x_0≤most_2))
 else
  some false
noncomputable def Q4 (n_0:Int):Option ByteArray:=
 if (n_0==(-9223372036854775808))=true then
  some (⟨#[45,57,50,50,51,51,55,50,48,51,54,56,53,52,55,55,53,56,48,56]⟩)
 else
  if (decide (n_0<0))=true then
   none
  else
   Y5 (σ:=Int × ByteArray)
    (fun s=>
     match s with
     | (a,b)=>
     chk ((YQ [(IntKind.u8.wrap (IntKind.i64.wrap (48+(Int.tmod a 10))))]).size+b.size≤9223372036854775807) <|
     if ((IntKind.i64.wrap (Int.tdiv a 10))==0)=true then
      some (.inr ((YQ [(IntKind.u8.wrap (IntKind.i64.wrap (48+(Int.tmod a 10))))])++b))
     else
      some (.inl ((IntKind.i64.wrap (Int.tdiv a 10)),((YQ [(IntKind.u8.wrap (IntKind.i64.wrap (48+(Int.tmod a 10))))])++b))))
    (n_0,⟨#[]⟩)
noncomputable def XO (n_0:Int):Option ByteArray:=
 if (n_0==(-9223372036854775808))=true then
  some (⟨#[45,57,50,50,51,51,55,50,48,51,54,56,53,52,55,55,53,56,48,56]⟩)
 else
  if (decide (n_0<0))=true then
   (Q4 (IntKind.i64.wrap (0 - n_0))).bind fun v1=>
   chk ((⟨#[45]⟩:ByteArray).size+v1.size≤9223372036854775807) <|
   some ((⟨#[45]⟩:ByteArray)++v1)
  else
   Y5 (σ:=Int × ByteArray)
    (fun s=>
     match s with
     | (a,b)=>
     chk ((YQ [(IntKind.u8.wrap (IntKind.i64.wrap (48+(Int.tmod a 10))))]).size+b.size≤9223372036854775807) <|
     if ((IntKind.i64.wrap (Int.tdiv a 10))==0)=true then
      some (.inr ((YQ [(IntKind.u8.wrap (IntKind.i64.wrap (48+(Int.tmod a 10))))])++b))
     else
      some (.inl ((IntKind.i64.wrap (Int.tdiv a 10)),((YQ [(IntKind.u8.wrap (IntKind.i64.wrap (48+(Int.tmod a 10))))])++b))))
    (n_0,⟨#[]⟩)
noncomputable def X0 (s_0:ByteArray):Option (Int × Bool):=
 (Za5 ((s_0.size:Nat):Int) 1 4).bind fun v1=>
 if v1=true then
  Zn (σ:=Int)
   (fun (i7:Nat) (b:UInt8) a=>
    if (decide (((b.toNat:Nat):Int)<48))=true then
     some (.inr (0,false))
    else
     if (decide (57<((b.toNat:Nat):Int)))=true then
      some (.inr (0,false))
     else
      some (.inl (IntKind.i64.wrap ((IntKind.i64.wrap (10 * a))+IntKind.i64.wrap (IntKind.u8.wrap (((b.toNat:Nat):Int) - 48))))))
   (fun a=>
    (XO a).bind fun c=>
    if (sEq c s_0)=true then
     some (a,true)
    else
     some (0,false))
   s_0.data.toList 0 0
 else
  some (0,false)
noncomputable def X3 (s_0:ByteArray):Option Bool:=
 Zn (σ:=Unit)
  (fun (i9:Nat) (a:UInt8) _=>
   (Za5 (IntKind.i64.wrap ((a.toNat:Nat):Int)) 97 122).bind fun b=>
   if b=true then
    some (.inl ())
   else
    (Za5 (IntKind.i64.wrap ((a.toNat:Nat):Int)) 48 57).bind fun c=>
    if c=true then
     some (.inl ())
    else
     some (.inr false))
  (fun _=>
   (Za5 ((s_0.size:Nat):Int) 1 8).bind fun d=>
   some d)
  s_0.data.toList 0 ()
noncomputable def ZcY (s_0:ByteArray):Option Bool:=
 (X3 s_0).bind fun v1=>
 if v1=true then
  (sAt s_0 0).bind fun a=>
  (Za5 (IntKind.i64.wrap ((a.toNat:Nat):Int)) 97 122).bind fun b=>
  some b
 else
  some false
noncomputable def Zab (a:ByteArray):Option Bool:=
 if (decide (1<((a.size:Nat):Int)))=true then
  (sAt a 0).bind fun b=>
  if (((b.toNat:Nat):Int)==63)=true then
   chk (0≤1∧1≤((a.size:Nat):Int)) <|
   (X3 (a.extract (A3 1) a.size)).bind fun c=>
   some c
  else
   some false
 else
  some false
noncomputable def Qv (s_0:ByteArray):Option Bool:=
 (X3 s_0).bind fun v1=>
 if v1=true then
  some true
 else
  (Zab s_0).bind fun a=>
  some a
noncomputable def YD (p_0:Zv):Option Bool:=
 Zn (σ:=Unit)
  (fun (i7:Nat) (a:ByteArray) _=>
   (Qv a).bind fun b=>
   if b=true then
    some (.inl ())
   else
    some (.inr false))
  (fun _=>
   (ZcY p_0.rel).bind fun c=>
   if c=true then
    some (decide (((p_0.args.length:Nat):Int)≤3))
   else
    some false)
  p_0.args 0 ()
noncomputable def Zb1 (x_0:Zr):Option Bool:=
 if (x_0.kind==1)=true then
  (YD x_0.pattern).bind fun v1=>
  if v1=true then
   if (sEq x_0.left ⟨#[]⟩)=true then
    some (sEq x_0.right ⟨#[]⟩)
   else
    some false
  else
   some false
 else
  if (x_0.kind==2)=true then
   (YD x_0.pattern).bind fun a=>
   if a=true then
    if (sEq x_0.left ⟨#[]⟩)=true then
     some (sEq x_0.right ⟨#[]⟩)
    else
     some false
   else
    some false
  else
   if (x_0.kind==3)=true then
    if (sEq x_0.pattern.rel ⟨#[]⟩)=true then
     if (((x_0.pattern.args.length:Nat):Int)==0)=true then
      (Qv x_0.left).bind fun b=>
      if b=true then
       (Qv x_0.right).bind fun c=>
       some c
      else
       some false
     else
      some false
    else
     some false
   else
    if (x_0.kind==4)=true then
     if (sEq x_0.pattern.rel ⟨#[]⟩)=true then
      if (((x_0.pattern.args.length:Nat):Int)==0)=true then
       (Qv x_0.left).bind fun d=>
       if d=true then
        (Qv x_0.right).bind fun e=>
        some e
       else
        some false
      else
       some false
     else
      some false
    else
     if (x_0.kind==5)=true then
      if (sEq x_0.pattern.rel ⟨#[]⟩)=true then
       if (((x_0.pattern.args.length:Nat):Int)==0)=true then
        (Qv x_0.left).bind fun f=>
        if f=true then
         (Qv x_0.right).bind fun g=>
         some g
        else
         some false
       else
        some false
      else
       some false
     else
      some false
noncomputable def XA (l_0:(List ByteArray)) (s_1:ByteArray):Option (List ByteArray):=
 Zn (σ:=(List ByteArray) × Bool)
  (fun (i8:Nat) (b:ByteArray) s=>
   match s with
   | (a,c)=>
   if c=true then
    chk (a.length+1≤1073741824) <|
    some (.inl ((a++[b]),true))
   else
    if (sLt b s_1)=true then
     chk (a.length+1≤1073741824) <|
     some (.inl ((a++[b]),false))
    else
     if (sEq b s_1)=true then
      chk (a.length+1≤1073741824) <|
      some (.inl ((a++[b]),true))
     else
      chk (a.length+1≤1073741824) <|
      chk (a.length+1+1≤1073741824) <|
      some (.inl (((a++[s_1])++[b]),true)))
  (fun s=>
   match s with
   | (a,c)=>
   if c=true then
    some a
   else
    chk (a.length+1≤1073741824) <|
    some (a++[s_1]))
  l_0 0 ([],false)
noncomputable def Za0 (p_0:Zv):Option (List ByteArray):=
 Zn (σ:=(List ByteArray))
  (fun (i9:Nat) (b:ByteArray) a=>
   (Zab b).bind fun c=>
   if c=true then
    (XA a b).bind fun d=>
    some (.inl d)
   else
    some (.inl a))
  (fun a=>
   some a)
  p_0.args 0 []
noncomputable def XT (r_0:Zf) (n_1:Int):Option (List ByteArray):=
 Zn (σ:=(List ByteArray))
  (fun (i25:Nat) (c:Zr) a=>
   if (decide (((i25:Nat):Int)<n_1))=true then
    if (c.kind==1)=true then
     (Za0 c.pattern).bind fun d=>
     Zn (σ:=(List ByteArray))
      (fun (i34:Nat) (e:ByteArray) b=>
       (XA b e).bind fun f=>
       some (.inl f))
      (fun b=>
       some (.inl b))
      d 0 a
    else
     some (.inl a)
   else
    some (.inr a))
  (fun a=>
   some a)
  r_0.cond 0 []
noncomputable def Xz (x_0:Zr):Option (List ByteArray):=
 (Za0 x_0.pattern).bind fun v1=>
 (Zab x_0.left).bind fun b=>
 if b=true then
  (XA v1 x_0.left).bind fun a=>
  (Zab x_0.right).bind fun c=>
  if c=true then
   (XA a x_0.right).bind fun d=>
   some d
  else
   some a
 else
  (Zab x_0.right).bind fun e=>
  if e=true then
   (XA v1 x_0.right).bind fun f=>
   some f
  else
   some v1
noncomputable def ZR (l_0:(List ByteArray)) (s_1:ByteArray):Option Bool:=
 Zn (σ:=Unit)
  (fun (i4:Nat) (a:ByteArray) _=>
   if (sEq a s_1)=true then
    some (.inr true)
   else
    some (.inl ()))
  (fun _=>
   some false)
  l_0 0 ()
noncomputable def ZaT (x_0:Zr):Option Bool:=
 (Zb1 x_0).bind fun v1=>
 if v1=true then
  some (decide (3≤x_0.kind))
 else
  some false
noncomputable def Xu (r_0:Zf) (i_1:Int) (v_2:ByteArray):Option Bool:=
 Zn (σ:=Unit)
  (fun (i19:Nat) (a:Zr) _=>
   if (((i19:Nat):Int) != i_1)=true then
    (Xz a).bind fun b=>
    (ZR b v_2).bind fun c=>
    if c=true then
     some (.inr true)
    else
     some (.inl ())
   else
    some (.inl ()))
  (fun _=>
   Zn (σ:=Unit)
    (fun (i30:Nat) (d:Zx) _=>
     (Za0 d.pattern).bind fun e=>
     (ZR e v_2).bind fun f=>
     if f=true then
      some (.inr true)
     else
      some (.inl ()))
    (fun _=>
     some false)
    r_0.thn 0 ())
  r_0.cond 0 ()
noncomputable def ZcM (a_0:Zx):Option Bool:=
 if (a_0.kind==1)=true then
  (YD a_0.pattern).bind fun v1=>
  some v1
 else
  if (a_0.kind==2)=true then
   (YD a_0.pattern).bind fun a=>
   some a
  else
   if (a_0.kind==3)=true then
    if (sEq a_0.pattern.rel ⟨#[]⟩)=true then
     some (((a_0.pattern.args.length:Nat):Int)==0)
    else
     some false
   else
    some false
noncomputable def ZcH (r_0:Zf):Option (List ByteArray):=
 Zn (σ:=(List ByteArray))
  (fun (i61:Nat) (e:Zr) a=>
   (Xz e).bind fun f=>
   Zn (σ:=(List ByteArray))
    (fun (i70:Nat) (g:ByteArray) b=>
     (XA b g).bind fun i=>
     some (.inl i))
    (fun b=>
     some (.inl b))
    f 0 a)
  (fun a=>
   Zn (σ:=(List ByteArray))
    (fun (i97:Nat) (j:Zx) c=>
     (Za0 j.pattern).bind fun k=>
     Zn (σ:=(List ByteArray))
      (fun (i106:Nat) (l:ByteArray) d=>
       (XA d l).bind fun m=>
       some (.inl m))
      (fun d=>
       some (.inl d))
      k 0 c)
    (fun c=>
     some c)
    r_0.thn 0 a)
  r_0.cond 0 []
noncomputable def ZbX (append_0:Zf):Option Bool:=
 (ZcY append_0.name).bind fun v1=>
 if v1=true then
  (Za5 append_0.priority 0 9).bind fun g=>
  if g=true then
   (Za5 ((append_0.cond.length:Nat):Int) 1 4).bind fun i=>
   if i=true then
    (Za5 ((append_0.thn.length:Nat):Int) 1 2).bind fun j=>
    if j=true then
     (XT append_0 ((append_0.cond.length:Nat):Int)).bind fun k=>
     Zn (σ:=Unit)
      (fun (i96:Nat) (a:Zr) _=>
       (Zb1 a).bind fun l=>
       if l=true then
        if (((i96:Nat):Int)==0)=true then
         if (a.kind != 1)=true then
          some (.inr false)
         else
          (XT append_0 ((i96:Nat):Int)).bind fun m=>
          (Xz a).bind fun o=>
          Zn (σ:=Unit)
           (fun (i110:Nat) (b:ByteArray) _=>
            (ZR m b).bind fun c=>
            (ZaT a).bind fun p=>
            if p=true then
             if c=true then
              if (a.kind==2)=true then
               some (.inl ())
              else
               some (.inl ())
             else
              some (.inr (.inr false))
            else
             if (a.kind==2)=true then
              if c=true then
               some (.inl ())
              else
               (Xu append_0 ((i96:Nat):Int) b).bind fun q=>
               if q=true then
                some (.inr (.inr false))
               else
                some (.inl ())
             else
              some (.inl ()))
           (fun _=>
            some (.inl ()))
           o 0 ()
        else
         (XT append_0 ((i96:Nat):Int)).bind fun t=>
         (Xz a).bind fun u=>
         Zn (σ:=Unit)
          (fun (i126:Nat) (d:ByteArray) _=>
           (ZR t d).bind fun e=>
           (ZaT a).bind fun v=>
           if v=true then
            if e=true then
             if (a.kind==2)=true then
              some (.inl ())
             else
              some (.inl ())
            else
             some (.inr (.inr false))
           else
            if (a.kind==2)=true then
             if e=true then
              some (.inl ())
             else
              (Xu append_0 ((i96:Nat):Int) d).bind fun w=>
              if w=true then
               some (.inr (.inr false))
              else
               some (.inl ())
            else
             some (.inl ()))
          (fun _=>
           some (.inl ()))
          u 0 ()
       else
        some (.inr false))
      (fun _=>
       Zn (σ:=Unit)
        (fun (i155:Nat) (f:Zx) _=>
         (ZcM f).bind fun x=>
         if x=true then
          (Za0 f.pattern).bind fun y=>
          Zn (σ:=Unit)
           (fun (i164:Nat) (z:ByteArray) _=>
            (ZR k z).bind fun A=>
            if A=true then
             some (.inl ())
            else
             some (.inr (.inr false)))
           (fun _=>
            some (.inl ()))
           y 0 ()
         else
          some (.inr false))
        (fun _=>
         (ZcH append_0).bind fun B=>
         some (decide (((B.length:Nat):Int)≤6)))
        append_0.thn 0 ())
      append_0.cond 0 ()
    else
     some false
   else
    some false
  else
   some false
 else
  some false
noncomputable def Zgl (a:ByteArray) (b:ByteArray):Option Int:=
 if (sLt a b)=true then
  some (-1)
 else
  if (sLt a b||sEq a b)=true then
   some 0
  else
   some 1
noncomputable def Y0 (a_0:ByteArray) (b_1:ByteArray):Option Int:=
 (X0 a_0).bind fun v1=>
 (X0 b_1).bind fun a=>
 if v1.2=true then
  if a.2=true then
   if (decide (v1.1<a.1))=true then
    some (-1)
   else
    if (decide (a.1<v1.1))=true then
     some 1
    else
     some 0
  else
   some (-1)
 else
  if a.2=true then
   some 1
  else
   (Zgl a_0 b_1).bind fun b=>
   some b
noncomputable def YZ (a_0:Zd) (a:Zd):Option Int:=
 if (sEq a_0.rel a.rel)=true then
  Zn (σ:=Unit)
   (fun (b:Nat) (d:ByteArray) _=>
    if (decide (((b:Nat):Int)<((a.args.length:Nat):Int)))=true then
     (atI a.args ((b:Nat):Int)).bind fun e=>
     (Y0 d e).bind fun c=>
     if (c != 0)=true then
      some (.inr c)
     else
      some (.inl ())
    else
     if (decide (((a_0.args.length:Nat):Int)<((a.args.length:Nat):Int)))=true then
      some (.inr (-1))
     else
      if (decide (((a.args.length:Nat):Int)<((a_0.args.length:Nat):Int)))=true then
       some (.inr 1)
      else
       some (.inr 0))
   (fun _=>
    if (decide (((a_0.args.length:Nat):Int)<((a.args.length:Nat):Int)))=true then
     some (-1)
    else
     if (decide (((a.args.length:Nat):Int)<((a_0.args.length:Nat):Int)))=true then
      some 1
     else
      some 0)
   a_0.args 0 ()
 else
  (Zgl a_0.rel a.rel).bind fun f=>
  some f
noncomputable def Zeq (l_0:(List ByteArray)):Option (List ByteArray):=
 chk (l_0.length≤1073741824) <|
 some l_0
noncomputable def XM (f_0:Zd):Option Zd:=
 (Zeq f_0.args).bind fun v1=>
 some ({ rel:=f_0.rel,args:=v1 }:Zd)
noncomputable def YI (l_0:(List Zd)) (f_1:Zd):Option (List Zd):=
 Zn (σ:=(List Zd) × Bool)
  (fun (i21:Nat) (b:Zd) s=>
   match s with
   | (a,c)=>
   if c=true then
    (XM b).bind fun d=>
    chk (a.length+1≤1073741824) <|
    some (.inl ((a++[d]),true))
   else
    (YZ b f_1).bind fun e=>
    if (decide (0≤e))=true then
     (YZ b f_1).bind fun f=>
     if (decide (0<f))=true then
      (XM f_1).bind fun g=>
      chk (a.length+1≤1073741824) <|
      (XM b).bind fun i=>
      chk (a.length+1+1≤1073741824) <|
      some (.inl (((a++[g])++[i]),true))
     else
      (XM b).bind fun j=>
      chk (a.length+1≤1073741824) <|
      some (.inl ((a++[j]),true))
    else
     (XM b).bind fun k=>
     chk (a.length+1≤1073741824) <|
     some (.inl ((a++[k]),false)))
  (fun s=>
   match s with
   | (a,c)=>
   if c=true then
    some a
   else
    (XM f_1).bind fun l=>
    chk (a.length+1≤1073741824) <|
    some (a++[l]))
  l_0 0 ([],false)
noncomputable def ZcU (a_0:(List ByteArray)) (b_1:(List ByteArray)):Option Bool:=
 Zn (σ:=Unit)
  (fun (i6:Nat) (a:ByteArray) _=>
   (ZR b_1 a).bind fun b=>
   if b=true then
    some (.inl ())
   else
    some (.inr false))
  (fun _=>
   some true)
  a_0 0 ()
noncomputable def ZbL (r_0:Zf):Option Bool:=
 (ZbX r_0).bind fun v1=>
 if v1=true then
  Zn (σ:=Unit)
   (fun (i16:Nat) (a:Zr) _=>
    if (a.kind==2)=true then
     (Xz a).bind fun b=>
     (XT r_0 ((i16:Nat):Int)).bind fun c=>
     (ZcU b c).bind fun d=>
     if d=true then
      some (.inl ())
     else
      some (.inr false)
    else
     some (.inl ()))
   (fun _=>
    Zn (σ:=Unit)
     (fun (i24:Nat) (e:Zx) _=>
      if (e.kind != 1)=true then
       some (.inr false)
      else
       some (.inl ()))
     (fun _=>
      some true)
     r_0.thn 0 ())
   r_0.cond 0 ()
 else
  some false
noncomputable def QI (r_0:Zf):Option (List ByteArray):=
 Zn (σ:=(List ByteArray))
  (fun (i9:Nat) (b:Zx) a=>
   if (b.kind==1)=true then
    (XA a b.pattern.rel).bind fun c=>
    some (.inl c)
   else
    if (b.kind==2)=true then
     (XA a b.pattern.rel).bind fun d=>
     some (.inl d)
    else
     some (.inl a))
  (fun a=>
   some a)
  r_0.thn 0 []
noncomputable def Zbt (r_0:Zf):Option (List ByteArray):=
 Zn (σ:=(List ByteArray))
  (fun (i9:Nat) (b:Zr) a=>
   if (b.kind==1)=true then
    (XA a b.pattern.rel).bind fun c=>
    some (.inl c)
   else
    if (b.kind==2)=true then
     (XA a b.pattern.rel).bind fun d=>
     some (.inl d)
    else
     some (.inl a))
  (fun a=>
   some a)
  r_0.cond 0 []
noncomputable def ZaO (append_0:(List Zf)) (String_1:ByteArray) (a_2:ByteArray):Option Bool:=
 Y5 (σ:=(List ByteArray) × Int)
  (fun s=>
   match s with
   | (d,c)=>
   if (decide (c<((d.length:Nat):Int)))=true then
    Zn (σ:=(List ByteArray))
     (fun (i93:Nat) (e:Zf) a=>
      (QI e).bind fun i=>
      chk (0≤c∧c<((a.length:Nat):Int)) <|
      (a[(A3 c)]?).bind fun j=>
      (ZR i j).bind fun k=>
      if k=true then
       (Zbt e).bind fun f=>
       (ZR f a_2).bind fun l=>
       if l=true then
        some (.inr (.inr true))
       else
        Zn (σ:=(List ByteArray))
         (fun (i108:Nat) (g:ByteArray) b=>
          (ZR b g).bind fun m=>
          if m=true then
           some (.inl b)
          else
           chk (b.length+1≤1073741824) <|
           some (.inl (b++[g])))
         (fun b=>
          some (.inl b))
         f 0 a
      else
       some (.inl a))
     (fun a=>
      some (.inl (a,(IntKind.i64.wrap (c+1)))))
     append_0 0 d
   else
    some (.inr false))
  ([String_1],0)
noncomputable def Zev (l_0:(List Zf)) (name_1:ByteArray):Option Int:=
 Zn (σ:=Unit)
  (fun (i4:Nat) (a:Zf) _=>
   if (sEq a.name name_1)=true then
    some (.inr ((i4:Nat):Int))
   else
    some (.inl ()))
  (fun _=>
   some (-1))
  l_0 0 ()
noncomputable def Zcz (l_0:(List Zf)):Option Bool:=
 Zn (σ:=Unit)
  (fun (i8:Nat) (a:Zf) _=>
   (ZbX a).bind fun b=>
   if b=true then
    (Zev l_0 a.name).bind fun c=>
    if (c != ((i8:Nat):Int))=true then
     some (.inr false)
    else
     some (.inl ())
   else
    some (.inr false))
  (fun _=>
   some (decide (((l_0.length:Nat):Int)≤6)))
  l_0 0 ()
noncomputable def ZaM (append_0:(List Zf)):Option Bool:=
 Zn (σ:=Unit)
  (fun (i67:Nat) (a:Zf) _=>
   (ZbL a).bind fun d=>
   if d=true then
    (QI a).bind fun e=>
    Zn (σ:=Unit)
     (fun (i90:Nat) (b:Zr) _=>
      Zn (σ:=Unit)
       (fun (i97:Nat) (c:ByteArray) _=>
        if (b.kind==2)=true then
         if (sEq b.pattern.rel c)=true then
          some (.inr (.inr (.inr false)))
         else
          (ZaO append_0 b.pattern.rel c).bind fun f=>
          if f=true then
           some (.inr (.inr (.inr false)))
          else
           some (.inl ())
        else
         some (.inr (.inl ())))
       (fun _=>
        some (.inl ()))
       e 0 ())
     (fun _=>
      some (.inl ()))
     a.cond 0 ()
   else
    some (.inr false))
  (fun _=>
   (Zcz append_0).bind fun g=>
   some g)
  append_0 0 ()
noncomputable def ZdZ (f_0:Zd):Option Bool:=
 Zn (σ:=Unit)
  (fun (i7:Nat) (a:ByteArray) _=>
   (X3 a).bind fun b=>
   if b=true then
    some (.inl ())
   else
    some (.inr false))
  (fun _=>
   (ZcY f_0.rel).bind fun c=>
   if c=true then
    some (decide (((f_0.args.length:Nat):Int)≤3))
   else
    some false)
  f_0.args 0 ()
noncomputable def Zdd (a:(List Zd)):Option Bool:=
 Zn (σ:=Unit)
  (fun (b:Nat) (c:Zd) _=>
   (ZdZ c).bind fun d=>
   if d=true then
    if (decide (0<((b:Nat):Int)))=true then
     (atI a (IntKind.i64.wrap (((b:Nat):Int) - 1))).bind fun e=>
     (YZ e c).bind fun f=>
     if (decide (0≤f))=true then
      some (.inr false)
     else
      some (.inl ())
    else
     some (.inl ())
   else
    some (.inr false))
  (fun _=>
   some (decide (((a.length:Nat):Int)≤24)))
  a 0 ()
noncomputable def Zak (l_0:(List Zd)):Option (List Zd):=
 Zn (σ:=(List Zd))
  (fun (i7:Nat) (b:Zd) a=>
   (XM b).bind fun c=>
   chk (a.length+1≤1073741824) <|
   some (.inl (a++[c])))
  (fun a=>
   some a)
  l_0 0 []
noncomputable def Xt (a:(List Zp)):Option Bool:=
 Zn (σ:=Unit)
  (fun (c:Nat) (b:Zp) _=>
   (Zab b.var).bind fun d=>
   if d=true then
    (X3 b.value).bind fun e=>
    if e=true then
     if (decide (0<((c:Nat):Int)))=true then
      (atI a (IntKind.i64.wrap (((c:Nat):Int) - 1))).bind fun f=>
      if (sLt f.var b.var)=true then
       some (.inl ())
      else
       some (.inr false)
     else
      some (.inl ())
    else
     some (.inr false)
   else
    some (.inr false))
  (fun _=>
   some (decide (((a.length:Nat):Int)≤6)))
  a 0 ()
noncomputable def Zb7 (b_0:(List Zp)):Option (List Zp):=
 chk (b_0.length≤1073741824) <|
 some b_0
noncomputable def ZaI (b_0:(List Zp)) (term_1:ByteArray):Option (ByteArray × Bool):=
 (X3 term_1).bind fun v1=>
 if v1=true then
  some (term_1,true)
 else
  Zn (σ:=Unit)
   (fun (i7:Nat) (a:Zp) _=>
    if (sEq a.var term_1)=true then
     (Zab term_1).bind fun b=>
     if b=true then
      some (.inr (a.value,true))
     else
      some (.inl ())
    else
     some (.inl ()))
   (fun _=>
    some ((⟨#[]⟩),false))
   b_0 0 ()
noncomputable def Zh3 (b_0:(List Zp)) (c:ByteArray) (value_2:ByteArray):Option (List Zp):=
 Zn (σ:=(List Zp) × Bool)
  (fun (i8:Nat) (b:Zp) s=>
   match s with
   | (a,d)=>
   if d=true then
    chk (a.length+1≤1073741824) <|
    some (.inl ((a++[b]),true))
   else
    if (sLt b.var c||sEq b.var c)=true then
     chk (a.length+1≤1073741824) <|
     some (.inl ((a++[b]),false))
    else
     chk (a.length+1≤1073741824) <|
     chk (a.length+1+1≤1073741824) <|
     some (.inl (((a++[({ var:=c,value:=value_2 }:Zp)])++[b]),true)))
  (fun s=>
   match s with
   | (a,d)=>
   if d=true then
    some a
   else
    chk (a.length+1≤1073741824) <|
    some (a++[({ var:=c,value:=value_2 }:Zp)]))
  b_0 0 ([],false)
noncomputable def Zfm (b_0:(List Zp)) (v_1:ByteArray) (value_2:ByteArray):Option ((List Zp) × Bool):=
 (Xt b_0).bind fun v1=>
 if v1=true then
  (Zab v_1).bind fun b=>
  if b=true then
   (X3 value_2).bind fun c=>
   if c=true then
    (ZaI b_0 v_1).bind fun a=>
    if a.2=true then
     if (sEq a.1 value_2)=true then
      (Zb7 b_0).bind fun d=>
      some (d,true)
     else
      some ([],false)
    else
     if (((b_0.length:Nat):Int)==6)=true then
      some ([],false)
     else
      (Zh3 b_0 v_1 value_2).bind fun e=>
      some (e,true)
   else
    some ([],false)
  else
   some ([],false)
 else
  some ([],false)
noncomputable def Zau (append_0:Zv) (a:Zd) (a_2:(List Zp)):Option ((List Zp) × Bool):=
 (YD append_0).bind fun v1=>
 if v1=true then
  (ZdZ a).bind fun f=>
  if f=true then
   (Xt a_2).bind fun g=>
   if g=true then
    if (sEq append_0.rel a.rel)=true then
     if (((append_0.args.length:Nat):Int) != ((a.args.length:Nat):Int))=true then
      some ([],false)
     else
      (Zb7 a_2).bind fun i=>
      Zn (σ:=(List Zp))
       (fun (d:Nat) (c:ByteArray) b=>
        (X3 c).bind fun j=>
        if j=true then
         (atI a.args ((d:Nat):Int)).bind fun k=>
         if (sEq c k)=true then
          some (.inl b)
         else
          some (.inr ([],false))
        else
         (atI a.args ((d:Nat):Int)).bind fun l=>
         (Zfm b c l).bind fun e=>
         if e.2=true then
          some (.inl e.1)
         else
          some (.inr ([],false)))
       (fun b=>
        some (b,true))
       append_0.args 0 i
    else
     some ([],false)
   else
    some ([],false)
  else
   some ([],false)
 else
  some ([],false)
noncomputable def Xf (p_0:Zv) (b_1:(List Zp)) (facts_2:(List Zd)):Option (List Zd):=
 Zn (σ:=(List Zd))
  (fun (i9:Nat) (b:Zd) a=>
   (Zau p_0 b b_1).bind fun c=>
   if c.2=true then
    (XM b).bind fun d=>
    chk (a.length+1≤1073741824) <|
    some (.inl (a++[d]))
   else
    some (.inl a))
  (fun a=>
   some a)
  facts_2 0 []
noncomputable def ZcE (s_0:ByteArray):Option Bool:=
 (X0 s_0).bind fun v1=>
 some v1.2
noncomputable def ZbO (x_0:Zr) (b_1:(List Zp)):Option Bool:=
 (ZaT x_0).bind fun v1=>
 if v1=true then
  (Xt b_1).bind fun c=>
  if c=true then
   (ZaI b_1 x_0.left).bind fun a=>
   (ZaI b_1 x_0.right).bind fun b=>
   if a.2=true then
    if b.2=true then
     if (x_0.kind==3)=true then
      some (sEq a.1 b.1)
     else
      if (x_0.kind==4)=true then
       some (!(sEq a.1 b.1))
      else
       (ZcE a.1).bind fun d=>
       if d=true then
        (ZcE b.1).bind fun e=>
        if e=true then
         (Y0 a.1 b.1).bind fun f=>
         some (decide (f<0))
        else
         some false
       else
        some false
    else
     some false
   else
    some false
  else
   some false
 else
  some false
noncomputable def ZbV (x_0:Zr) (a:(List Zp)) (b:(List Zd)):Option Bool:=
 (Zb1 x_0).bind fun v1=>
 if v1=true then
  (Xt a).bind fun c=>
  if c=true then
   if (x_0.kind==1)=true then
    (Xf x_0.pattern a b).bind fun d=>
    some (decide (0<((d.length:Nat):Int)))
   else
    if (x_0.kind==2)=true then
     (Xf x_0.pattern a b).bind fun e=>
     some (((e.length:Nat):Int)==0)
    else
     (ZbO x_0 a).bind fun f=>
     some f
  else
   some false
 else
  some false
noncomputable def ZfQ (t_0:Zt):Option Zt:=
 (Zak t_0.facts).bind fun v1=>
 (Zb7 t_0.binding).bind fun a=>
 some ({ facts:=v1,binding:=a }:Zt)
noncomputable def Zfi (append_0:(List Zt)) (String_1:Zr) (a_2:(List Zd)):Option (List Zt):=
 Zn (σ:=(List Zt))
  (fun (i45:Nat) (c:Zt) a=>
   if (String_1.kind != 1)=true then
    (ZbV String_1 c.binding a_2).bind fun g=>
    if g=true then
     (ZfQ c).bind fun i=>
     chk (a.length+1≤1073741824) <|
     some (.inl (a++[i]))
    else
     some (.inl a)
   else
    Zn (σ:=(List Zt))
     (fun (i59:Nat) (d:Zd) b=>
      (Zau String_1.pattern d c.binding).bind fun e=>
      if e.2=true then
       (Zak c.facts).bind fun f=>
       (XM d).bind fun j=>
       chk (f.length+1≤1073741824) <|
       chk (b.length+1≤1073741824) <|
       some (.inl (b++[({ facts:=(f++[j]),binding:=e.1 }:Zt)]))
      else
       some (.inl b))
     (fun b=>
      some (.inl b))
     a_2 0 a)
  (fun a=>
   some a)
  append_0 0 []
noncomputable def Zai (l_0:(List Zr)) (facts_1:(List Zd)):Option (List Zt):=
 Zn (σ:=(List Zt))
  (fun (i7:Nat) (b:Zr) a=>
   (Zfi a b facts_1).bind fun c=>
   some (.inl c))
  (fun a=>
   some a)
  l_0 0 ([({ facts:=[],binding:=[] }:Zt)])
noncomputable def Xv (r_0:Zf):Option (List Zr):=
 Zn (σ:=(List Zr))
  (fun (i6:Nat) (b:Zr) a=>
   if (b.kind != 2)=true then
    chk (a.length+1≤1073741824) <|
    some (.inl (a++[b]))
   else
    some (.inl a))
  (fun a=>
   some a)
  r_0.cond 0 []
noncomputable def Y2 (p_0:Zv) (b_1:(List Zp)):Option (Zd × Bool):=
 (YD p_0).bind fun v1=>
 if v1=true then
  (Xt b_1).bind fun c=>
  if c=true then
   Zn (σ:=(List ByteArray))
    (fun (i11:Nat) (d:ByteArray) a=>
     (ZaI b_1 d).bind fun b=>
     if b.2=true then
      chk (a.length+1≤1073741824) <|
      some (.inl (a++[b.1]))
     else
      some (.inr (({ rel:=(⟨#[]⟩),args:=[] }:Zd),false)))
    (fun a=>
     some (({ rel:=p_0.rel,args:=a }:Zd),true))
    p_0.args 0 []
  else
   some (({ rel:=(⟨#[]⟩),args:=[] }:Zd),false)
 else
  some (({ rel:=(⟨#[]⟩),args:=[] }:Zd),false)
noncomputable def Yg (append_0:(List Zf)) (String_1:(List Zd)):Option ((List Zd) × Bool):=
 (ZaM append_0).bind fun v1=>
 if v1=true then
  (Zdd String_1).bind fun f=>
  if f=true then
   (Zak String_1).bind fun g=>
   Y5 (σ:=(List Zd) × Bool)
    (fun s=>
     match s with
     | (a,i)=>
     if i=true then
      Zn (σ:=(List Zd))
       (fun (i311:Nat) (e:Zf) b=>
        (Xv e).bind fun j=>
        (Zai j a).bind fun k=>
        Zn (σ:=(List Zd))
         (fun (i355:Nat) (l:Zt) c=>
          Zn (σ:=(List Zd))
           (fun (i368:Nat) (m:Zx) d=>
            (Y2 m.pattern l.binding).bind fun o=>
            (YI d o.1).bind fun p=>
            some (.inl p))
           (fun d=>
            some (.inl d))
           e.thn 0 c)
         (fun c=>
          if (decide (24<((c.length:Nat):Int)))=true then
           some (.inr (.inr ([],false)))
          else
           some (.inl c))
         k 0 b)
       (fun b=>
        some (.inl (b,(decide (((a.length:Nat):Int)<((b.length:Nat):Int))))))
       append_0 0 a
     else
      some (.inr (a,true)))
    (g,true)
  else
   some ([],false)
 else
  some ([],false)
noncomputable def ZdL (a_0:(List ByteArray)) (a:(List ByteArray)):Option Bool:=
 if (((a_0.length:Nat):Int) != ((a.length:Nat):Int))=true then
  some false
 else
  Zn (σ:=Unit)
   (fun (b:Nat) (c:ByteArray) _=>
    (atI a ((b:Nat):Int)).bind fun d=>
    if (sEq c d)=true then
     some (.inl ())
    else
     some (.inr false))
   (fun _=>
    some true)
   a_0 0 ()
noncomputable def Zj1 (a_0:Zd) (b_1:Zd):Option Bool:=
 if (sEq a_0.rel b_1.rel)=true then
  (ZdL a_0.args b_1.args).bind fun v1=>
  some v1
 else
  some false
noncomputable def Ql (l_0:(List Zd)) (f_1:Zd):Option Int:=
 Zn (σ:=Unit)
  (fun (i6:Nat) (a:Zd) _=>
   (Zj1 a f_1).bind fun b=>
   if b=true then
    some (.inr ((i6:Nat):Int))
   else
    some (.inl ()))
  (fun _=>
   some (-1))
  l_0 0 ()
noncomputable def Zga (l_0:(List Int)) (x_1:Int):Option (List Int):=
 Zn (σ:=(List Int) × Bool)
  (fun (i7:Nat) (b:Int) s=>
   match s with
   | (a,c)=>
   if c=true then
    chk (a.length+1≤1073741824) <|
    some (.inl ((a++[b]),true))
   else
    if (decide (x_1≤b))=true then
     if (b != x_1)=true then
      chk (a.length+1≤1073741824) <|
      chk (a.length+1+1≤1073741824) <|
      some (.inl (((a++[x_1])++[b]),true))
     else
      chk (a.length+1≤1073741824) <|
      some (.inl ((a++[b]),true))
    else
     chk (a.length+1≤1073741824) <|
     some (.inl ((a++[b]),false)))
  (fun s=>
   match s with
   | (a,c)=>
   if c=true then
    some a
   else
    chk (a.length+1≤1073741824) <|
    some (a++[x_1]))
  l_0 0 ([],false)
noncomputable def Zbu (l_0:(List Zd)) (facts_1:(List Zd)):Option (List Int):=
 Zn (σ:=(List Int))
  (fun (i9:Nat) (c:Zd) a=>
   (Ql l_0 c).bind fun b=>
   if (decide (0≤b))=true then
    (Zga a b).bind fun d=>
    some (.inl d)
   else
    some (.inl a))
  (fun a=>
   some a)
  facts_1 0 []
noncomputable def ZaD (c:Zf) (e:Int) (b:Zt) (a_3:(List Zd)):Option Zg:=
 (atI c.thn e).bind fun f=>
 (Y2 f.pattern b.binding).bind fun g=>
 Zn (σ:=(List Zd))
  (fun (i12:Nat) (d:Zr) a=>
   if (d.kind==2)=true then
    (Y2 d.pattern b.binding).bind fun i=>
    chk (a.length+1≤1073741824) <|
    some (.inl (a++[i.1]))
   else
    some (.inl a))
  (fun a=>
   (Ql a_3 g.1).bind fun j=>
   (Zbu a_3 b.facts).bind fun k=>
   (Zbu a_3 a).bind fun l=>
   some ({ for_:=j,inn:=k,outs:=l }:Zg))
  c.cond 0 []
noncomputable def ZaN (a_0:(List Int)) (a:(List Int)):Option Bool:=
 if (((a_0.length:Nat):Int) != ((a.length:Nat):Int))=true then
  some false
 else
  Zn (σ:=Unit)
   (fun (b:Nat) (c:Int) _=>
    (atI a ((b:Nat):Int)).bind fun d=>
    if (c != d)=true then
     some (.inr false)
    else
     some (.inl ()))
   (fun _=>
    some true)
   a_0 0 ()
noncomputable def Zd8 (l_0:(List Zg)) (r_1:Zg):Option Int:=
 Zn (σ:=Unit)
  (fun (i8:Nat) (a:Zg) _=>
   if (a.for_==r_1.for_)=true then
    (ZaN a.inn r_1.inn).bind fun b=>
    if b=true then
     (ZaN a.outs r_1.outs).bind fun c=>
     if c=true then
      some (.inr ((i8:Nat):Int))
     else
      some (.inl ())
    else
     some (.inl ())
   else
    some (.inl ()))
  (fun _=>
   some (-1))
  l_0 0 ()
noncomputable def ZD0 (append_0:(List Zf)) (String_1:(List Zd)):Option ((List Zd) × Zu × (List Xd) × Bool):=
 (Yg append_0 String_1).bind fun v1=>
 if v1.2=true then
  Zn (σ:=(List Zg) × (List Xd))
   (fun (i255:Nat) (m:Zd) s=>
    match s with
    | (c,d)=>
    (Ql v1.1 m).bind fun o=>
    chk (c.length+1≤1073741824) <|
    chk (d.length+1≤1073741824) <|
    some (.inl ((c++[({ for_:=o,inn:=[],outs:=[] }:Zg)]),(d++[({ rule:=(⟨#[]⟩),token:=({ facts:=[],binding:=[] }:Zt) }:Xd)]))))
   (fun s=>
    match s with
    | (c,d)=>
    Zn (σ:=(List Zg) × (List Xd))
     (fun (i446:Nat) (e:Zf) s=>
      match s with
      | (f,g)=>
      (Xv e).bind fun p=>
      (Zai p v1.1).bind fun q=>
      Zn (σ:=(List Zg) × (List Xd))
       (fun (i487:Nat) (k:Zt) s=>
        match s with
        | (i,j)=>
        Zn (σ:=(List Zg) × (List Xd))
         (fun (i498:Nat) (u:Zx) s=>
          match s with
          | (a,b)=>
          (ZaD e ((i498:Nat):Int) k v1.1).bind fun l=>
          (Zd8 a l).bind fun t=>
          if (decide (0≤t))=true then
           some (.inl (a,b))
          else
           if (decide (60≤((a.length:Nat):Int)))=true then
            some (.inr (.inr (.inr ([],({ nodes:=0,reasons:=[] }:Zu),[],false))))
           else
            chk (a.length+1≤1073741824) <|
            chk (b.length+1≤1073741824) <|
            some (.inl ((a++[l]),(b++[({ rule:=e.name,token:=k }:Xd)]))))
         (fun s=>
          match s with
          | (a,b)=>
          some (.inl (a,b)))
         e.thn 0 (i,j))
       (fun s=>
        match s with
        | (i,j)=>
        some (.inl (i,j)))
       q 0 (f,g))
     (fun s=>
      match s with
      | (f,g)=>
      some (v1.1,({ nodes:=((v1.1.length:Nat):Int),reasons:=f }:Zu),g,true))
     append_0 0 (c,d))
   String_1 0 ([],[])
 else
  some ([],({ nodes:=0,reasons:=[] }:Zu),[],false)
noncomputable def Xl (append_0:(List Zf)) (String_1:(List Zd)):Option ((List Zd) × Zu × (List Xd) × Bool):=
 (Yg append_0 String_1).bind fun v1=>
 if v1.2=true then
  Zn (σ:=(List Zg) × (List Xd))
   (fun (i255:Nat) (m:Zd) s=>
    match s with
    | (c,d)=>
    (Ql v1.1 m).bind fun o=>
    chk (c.length+1≤1073741824) <|
    chk (d.length+1≤1073741824) <|
    some (.inl ((c++[({ for_:=o,inn:=[],outs:=[] }:Zg)]),(d++[({ rule:=(⟨#[]⟩),token:=({ facts:=[],binding:=[] }:Zt) }:Xd)]))))
   (fun s=>
    match s with
    | (c,d)=>
    Zn (σ:=(List Zg) × (List Xd))
     (fun (i446:Nat) (e:Zf) s=>
      match s with
      | (f,g)=>
      (Xv e).bind fun p=>
      (Zai p v1.1).bind fun q=>
      Zn (σ:=(List Zg) × (List Xd))
       (fun (i487:Nat) (k:Zt) s=>
        match s with
        | (i,j)=>
        Zn (σ:=(List Zg) × (List Xd))
         (fun (i498:Nat) (u:Zx) s=>
          match s with
          | (a,b)=>
          (ZaD e ((i498:Nat):Int) k v1.1).bind fun l=>
          (Zd8 a l).bind fun t=>
          if (decide (0≤t))=true then
           some (.inl (a,b))
          else
           if (decide (60≤((a.length:Nat):Int)))=true then
            some (.inr (.inr (.inr ([],({ nodes:=0,reasons:=[] }:Zu),[],false))))
           else
            chk (a.length+1≤1073741824) <|
            chk (b.length+1≤1073741824) <|
            some (.inl ((a++[l]),(b++[({ rule:=e.name,token:=k }:Xd)]))))
         (fun s=>
          match s with
          | (a,b)=>
          some (.inl (a,b)))
         e.thn 0 (i,j))
       (fun s=>
        match s with
        | (i,j)=>
        some (.inl (i,j)))
       q 0 (f,g))
     (fun s=>
      match s with
      | (f,g)=>
      some (v1.1,({ nodes:=((v1.1.length:Nat):Int),reasons:=f }:Zu),g,true))
     append_0 0 (c,d))
   String_1 0 ([],[])
 else
  some ([],({ nodes:=0,reasons:=[] }:Zu),[],false)
noncomputable def ZD4 (a:(List Int)) (n_1:Int):Option Bool:=
 Zn (σ:=Unit)
  (fun (b:Nat) (c:Int) _=>
   (Za5 c 0 (IntKind.i64.wrap (n_1 - 1))).bind fun d=>
   if d=true then
    if (decide (0<((b:Nat):Int)))=true then
     (atI a (IntKind.i64.wrap (((b:Nat):Int) - 1))).bind fun e=>
     if (decide (c≤e))=true then
      some (.inr false)
     else
      some (.inl ())
    else
     some (.inl ())
   else
    some (.inr false))
  (fun _=>
   some true)
  a 0 ()
noncomputable def ZEb (b_0:Zu):Option Bool:=
 Zn (σ:=Unit)
  (fun (i11:Nat) (a:Zg) _=>
   (Za5 a.for_ 0 (IntKind.i64.wrap (b_0.nodes - 1))).bind fun b=>
   if b=true then
    (ZD4 a.inn b_0.nodes).bind fun c=>
    if c=true then
     (ZD4 a.outs b_0.nodes).bind fun d=>
     if d=true then
      some (.inl ())
     else
      some (.inr false)
    else
     some (.inr false)
   else
    some (.inr false))
  (fun _=>
   (Za5 b_0.nodes 0 24).bind fun e=>
   if e=true then
    some (decide (((b_0.reasons.length:Nat):Int)≤60))
   else
    some false)
  b_0.reasons 0 ()
noncomputable def ZFr (l_0:(List Int)):Option (List Int):=
 chk (l_0.length≤1073741824) <|
 some l_0
noncomputable def ZEk (g:Zu) (o:Int):Option (List Bool):=
 chk (0≤g.nodes∧g.nodes≤1073741824) <|
 Y5 (σ:=(List Bool) × (List Int) × Int)
  (fun s=>
   match s with
   | (l,m,d)=>
   if (decide (d<((m.length:Nat):Int)))=true then
    Zn (σ:=(List Bool) × (List Int))
     (fun (i95:Nat) (a:Zg) s=>
      match s with
      | (i,b)=>
      chk (0≤d∧d<((b.length:Nat):Int)) <|
      (b[(A3 d)]?).bind fun p=>
      if (a.for_ != p)=true then
       some (.inl (i,b))
      else
       (ZFr a.inn).bind fun j=>
       chk (j.length+a.outs.length≤1073741824) <|
       Y5 (σ:=(List Bool) × (List Int) × Int)
        (fun s=>
         match s with
         | (e,k,c)=>
         if (decide (c<((j.length+a.outs.length:Nat):Int)))=true then
          chk (0≤c∧c<((j.length+a.outs.length:Nat):Int)) <|
          ((j++a.outs)[(A3 c)]?).bind fun f=>
          chk (0≤f∧f<((e.length:Nat):Int)) <|
          (e[(A3 f)]?).bind fun q=>
          if q=true then
           some (.inl (e,k,(IntKind.i64.wrap (c+1))))
          else
           chk (k.length+1≤1073741824) <|
           some (.inl ((AD e (A3 f) true),(k++[f]),(IntKind.i64.wrap (c+1))))
         else
          some (.inr (.inl (e,k))))
        (i,b,0))
     (fun s=>
      match s with
      | (i,b)=>
      some (.inl (i,b,(IntKind.i64.wrap (d+1)))))
     g.reasons 0 (l,m)
   else
    some (.inr l))
  ((AG (A3 g.nodes) false),[o],0)
noncomputable def ZDG (b_0:Zu):Option Bool:=
 (ZEb b_0).bind fun v1=>
 if v1=true then
  Zn (σ:=Unit)
   (fun (i27:Nat) (a:Zg) _=>
    Zn (σ:=Unit)
     (fun (i36:Nat) (b:Int) _=>
      if (b==a.for_)=true then
       some (.inr (.inr false))
      else
       (ZEk b_0 b).bind fun c=>
       chk (0≤a.for_∧a.for_<((c.length:Nat):Int)) <|
       (c[(A3 a.for_)]?).bind fun d=>
       if d=true then
        some (.inr (.inr false))
       else
        some (.inl ()))
     (fun _=>
      some (.inl ()))
     a.outs 0 ())
   (fun _=>
    some true)
   b_0.reasons 0 ()
 else
  some false
noncomputable def ZEq (d:Zu):Option (List Int):=
 (ZDG d).bind fun v1=>
 if v1=true then
  chk (0≤d.nodes∧d.nodes≤1073741824) <|
  Y5 (σ:=(List Int) × Int)
   (fun s=>
    match s with
    | (i,j)=>
    if (decide (j≤d.nodes))=true then
     Zn (σ:=(List Int))
      (fun (i194:Nat) (a:Zg) e=>
       Zn (σ:=(List Int))
        (fun (i216:Nat) (f:Int) b=>
         chk (0≤a.for_∧a.for_<((b.length:Nat):Int)) <|
         (b[(A3 a.for_)]?).bind fun k=>
         chk (0≤f∧f<((b.length:Nat):Int)) <|
         (b[(A3 f)]?).bind fun l=>
         some (.inl (AD b (A3 a.for_) (if k<l then l else k))))
        (fun b=>
         Zn (σ:=(List Int))
          (fun (i228:Nat) (g:Int) c=>
           chk (0≤a.for_∧a.for_<((c.length:Nat):Int)) <|
           (c[(A3 a.for_)]?).bind fun m=>
           chk (0≤g∧g<((c.length:Nat):Int)) <|
           (c[(A3 g)]?).bind fun o=>
           some (.inl (AD c (A3 a.for_) (if m<(IntKind.i64.wrap (o+1)) then (IntKind.i64.wrap (o+1)) else m))))
          (fun c=>
           some (.inl c))
          a.outs 0 b)
        a.inn 0 e)
      (fun e=>
       some (.inl (e,(IntKind.i64.wrap (j+1)))))
      d.reasons 0 i
    else
     some (.inr i))
   ((AG (A3 d.nodes) 0),0)
 else
  some []
noncomputable def ZDx (l_0:(List Int)) (b:(List Int)) (round_2:Int):Option Bool:=
 Zn (σ:=Unit)
  (fun (i6:Nat) (c:Int) _=>
   (atI b c).bind fun a=>
   if (decide (a<0))=true then
    some (.inr false)
   else
    if (decide (round_2≤a))=true then
     some (.inr false)
    else
     some (.inl ()))
  (fun _=>
   some true)
  l_0 0 ()
noncomputable def ZDR (l_0:(List Int)) (a:(List Int)):Option Bool:=
 Zn (σ:=Unit)
  (fun (i6:Nat) (b:Int) _=>
   (atI a b).bind fun c=>
   if (decide (0≤c))=true then
    some (.inr false)
   else
    some (.inl ()))
  (fun _=>
   some true)
  l_0 0 ()
noncomputable def ZD5 (append_0:Zu) (e:(List Int)) (a_2:Int) (c:(List Int)) (a_4:Int):Option (List Int):=
 Y5 (σ:=(List Int) × Int)
  (fun s=>
   match s with
   | (b,a)=>
   if (decide (a<append_0.nodes))=true then
    (atI e a).bind fun f=>
    if (f != a_2)=true then
     some (.inl (b,(IntKind.i64.wrap (a+1))))
    else
     (atI c a).bind fun g=>
     if (decide (0≤g))=true then
      some (.inl (b,(IntKind.i64.wrap (a+1))))
     else
      Zn (σ:=Unit)
       (fun (i38:Nat) (d:Zg) _=>
        if (d.for_==a)=true then
         (ZDx d.inn c a_4).bind fun i=>
         if i=true then
          (ZDR d.outs c).bind fun j=>
          if j=true then
           chk (b.length+1≤1073741824) <|
           some (.inr (.inl ((b++[a]),(IntKind.i64.wrap (a+1)))))
          else
           some (.inl ())
         else
          some (.inl ())
        else
         some (.inl ()))
       (fun _=>
        some (.inl (b,(IntKind.i64.wrap (a+1)))))
       append_0.reasons 0 ()
   else
    some (.inr b))
  ([],0)
noncomputable def ZD6 (b_0:Zu):Option (List Int):=
 (ZDG b_0).bind fun v1=>
 if v1=true then
  (ZEq b_0).bind fun g=>
  Y5 (σ:=(List Int) × Int)
   (fun s=>
    match s with
    | (e,i)=>
    if (decide (i<b_0.nodes))=true then
     chk (e.length+1≤1073741824) <|
     some (.inl ((e++[(-1)]),(IntKind.i64.wrap (i+1))))
    else
     Y5 (σ:=(List Int) × Int × Int)
      (fun s=>
       match s with
       | (f,j,b)=>
       if (decide (b<b_0.nodes))=true then
        (ZD5 b_0 g b f j).bind fun m=>
        Y5 (σ:=(List Int) × (List Int) × Int)
         (fun s=>
          match s with
          | (k,l,c)=>
          if (decide (0<((l.length:Nat):Int)))=true then
           Zn (σ:=(List Int))
            (fun (i56:Nat) (d:Int) a=>
             chk (0≤d∧d<((a.length:Nat):Int)) <|
             (a[(A3 d)]?).bind fun p=>
             some (.inl (AD a (A3 d) c)))
            (fun a=>
             (ZD5 b_0 g b a (IntKind.i64.wrap (c+1))).bind fun o=>
             some (.inl (a,o,(IntKind.i64.wrap (c+1)))))
            l 0 k
          else
           some (.inr (.inl (k,c,(IntKind.i64.wrap (b+1))))))
         (f,m,j)
       else
        some (.inr (.inr f)))
      (e,0,0))
   ([],0)
 else
  some []
noncomputable def YW (b:(List Int)) (nodes_1:Int):Option Bool:=
 Zn (σ:=Unit)
  (fun (c:Nat) (a:Int) _=>
   if (decide (a<0))=true then
    some (.inr false)
   else
    if (decide (nodes_1≤a))=true then
     some (.inr false)
    else
     if (decide (0<((c:Nat):Int)))=true then
      (atI b (IntKind.i64.wrap (((c:Nat):Int) - 1))).bind fun d=>
      if (decide (a≤d))=true then
       some (.inr false)
      else
       some (.inl ())
     else
      some (.inl ()))
  (fun _=>
   some true)
  b 0 ()
noncomputable def ZbW (b_0:Zu):Option Bool:=
 if (decide (b_0.nodes<0))=true then
  some false
 else
  if (decide (24<b_0.nodes))=true then
   some false
  else
   if (decide (60<((b_0.reasons.length:Nat):Int)))=true then
    some false
   else
    Zn (σ:=Unit)
     (fun (i8:Nat) (a:Zg) _=>
      if (decide (a.for_<0))=true then
       some (.inr false)
      else
       if (decide (b_0.nodes≤a.for_))=true then
        some (.inr false)
       else
        (YW a.inn b_0.nodes).bind fun b=>
        if b=true then
         (YW a.outs b_0.nodes).bind fun c=>
         if c=true then
          some (.inl ())
         else
          some (.inr false)
        else
         some (.inr false))
     (fun _=>
      some true)
     b_0.reasons 0 ()
noncomputable def ZaL (a:Zu):Option (List (List Bool)):=
 if Zl9 a=true then some (Zfc a.nodes.toNat a.reasons) else none
noncomputable def XI (b_0:Zu):Option Bool:=
 (ZbW b_0).bind fun v1=>
 if v1=true then
  (ZaL b_0).bind fun c=>
  Zn (σ:=Unit)
   (fun (i28:Nat) (a:Zg) _=>
    Zn (σ:=Unit)
     (fun (i37:Nat) (b:Int) _=>
      if (b==a.for_)=true then
       some (.inr (.inr false))
      else
       (atI c b).bind fun d=>
       (atI d a.for_).bind fun e=>
       if e=true then
        some (.inr (.inr false))
       else
        some (.inl ()))
     (fun _=>
      some (.inl ()))
     a.outs 0 ())
   (fun _=>
    some true)
   b_0.reasons 0 ()
 else
  some false
noncomputable def ZDN (b_0:Zu) (b:(List Int)) (a:Int):Option Int:=
 if (decide (a<0))=true then
  some (-1)
 else
  if (decide (b_0.nodes≤a))=true then
   some (-1)
  else
   (atI b a).bind fun c=>
   if (decide (c<0))=true then
    some (-1)
   else
    Zn (σ:=Unit)
     (fun (i7:Nat) (d:Zg) _=>
      if (d.for_==a)=true then
       (Zas d b c).bind fun e=>
       if e=true then
        some (.inr ((i7:Nat):Int))
       else
        some (.inl ())
      else
       some (.inl ()))
     (fun _=>
      some (-1))
     b_0.reasons 0 ()
noncomputable def ZDD (b_0:Zu) (a:Int):Option (List Int):=
 (XI b_0).bind fun ok=>if ok=true then (ZfP b_0).bind fun rd=>ZDY (ZDN b_0 rd) ZfM b_0 (((rd[a.toNat]?).getD 0).toNat+1) a [] else some []
noncomputable def ZEa (steps_0:(List ZvY)) (f_1:Zd):Option Int:=
 Zn (σ:=Unit)
  (fun (i6:Nat) (a:ZvY) _=>
   (Zbe a.fact f_1).bind fun b=>
   if b=true then
    some (.inr ((i6:Nat):Int))
   else
    some (.inl ()))
  (fun _=>
   some (-1))
  steps_0 0 ()
noncomputable def ZDQ (append_0:(List Zf)) (String_1:(List Zd)) (a_2:Zd):Option ((List ZvY) × Bool):=
 (ZEB append_0 String_1).bind fun v1=>
 if v1.2.2.2=true then
  (Z8 v1.1 a_2).bind fun f=>
  (ZDD v1.2.1 f).bind fun d=>
  if (((d.length:Nat):Int)==0)=true then
   some ([],false)
  else
   Zn (σ:=(List ZvY))
    (fun (i54:Nat) (b:Int) a=>
     chk (0≤b∧b<((v1.2.1.reasons.length:Nat):Int)) <|
     (v1.2.1.reasons[(A3 b)]?).bind fun g=>
     (atI v1.1 g.for_).bind fun i=>
     (Yl i).bind fun j=>
     (atI v1.2.2.1 b).bind fun e=>
     Zn (σ:=(List Int))
      (fun (i68:Nat) (k:Zd) c=>
       (ZEa a k).bind fun l=>
       chk (c.length+1≤1073741824) <|
       some (.inl (c++[l])))
      (fun c=>
       chk (a.length+1≤1073741824) <|
       some (.inl (a++[({ fact:=j,rule:=e.rule,uses:=c }:ZvY)])))
      e.facts 0 [])
    (fun a=>
     some (a,true))
    d 0 []
 else
  some ([],false)
noncomputable def ZDr (b_0:Zu) (a:Int):Option Int:=
 (ZD6 b_0).bind fun v1=>
 (Za5 a 0 (IntKind.i64.wrap (((v1.length:Nat):Int) - 1))).bind fun d=>
 if d=true then
  chk (0≤a∧a<((v1.length:Nat):Int)) <|
  (v1[(A3 a)]?).bind fun c=>
  if (decide (c<0))=true then
   some (-1)
  else
   Zn (σ:=Unit)
    (fun (i11:Nat) (b:Zg) _=>
     if (b.for_==a)=true then
      (ZDx b.inn v1 c).bind fun e=>
      if e=true then
       (ZDR b.outs v1).bind fun f=>
       if f=true then
        some (.inr ((i11:Nat):Int))
       else
        some (.inl ())
      else
       some (.inl ())
     else
      some (.inl ()))
    (fun _=>
     some (-1))
    b_0.reasons 0 ()
 else
  some (-1)
noncomputable def ZEh (l_0:(List Int)) (x_1:Int):Option Bool:=
 Zn (σ:=Unit)
  (fun (i4:Nat) (a:Int) _=>
   if (a==x_1)=true then
    some (.inr true)
   else
    some (.inl ()))
  (fun _=>
   some false)
  l_0 0 ()
noncomputable def ZDF (b_0:Zu) (a:Int):Option (List Int):=
 (ZD6 b_0).bind fun rd=>ZDY (ZDr b_0) ZEh b_0 (((rd[a.toNat]?).getD 0).toNat+1) a []
noncomputable def ZEo (steps_0:(List ZvY)) (f_1:Zd):Option Int:=
 Zn (σ:=Unit)
  (fun (i6:Nat) (a:ZvY) _=>
   (Zj1 a.fact f_1).bind fun b=>
   if b=true then
    some (.inr ((i6:Nat):Int))
   else
    some (.inl ()))
  (fun _=>
   some (-1))
  steps_0 0 ()
noncomputable def ZDT (append_0:(List Zf)) (String_1:(List Zd)) (a_2:Zd):Option ((List ZvY) × Bool):=
 (ZD0 append_0 String_1).bind fun v1=>
 if v1.2.2.2=true then
  (Ql v1.1 a_2).bind fun f=>
  (ZDF v1.2.1 f).bind fun g=>
  Zn (σ:=(List ZvY))
   (fun (i38:Nat) (b:Int) a=>
    chk (0≤b∧b<((v1.2.1.reasons.length:Nat):Int)) <|
    (v1.2.1.reasons[(A3 b)]?).bind fun d=>
    chk (0≤d.for_∧d.for_<((v1.1.length:Nat):Int)) <|
    (v1.1[(A3 d.for_)]?).bind fun i=>
    (XM i).bind fun j=>
    (atI v1.2.2.1 b).bind fun e=>
    Zn (σ:=(List Int))
     (fun (i52:Nat) (k:Zd) c=>
      (ZEo a k).bind fun l=>
      chk (c.length+1≤1073741824) <|
      some (.inl (c++[l])))
     (fun c=>
      chk (a.length+1≤1073741824) <|
      some (.inl (a++[({ fact:=j,rule:=e.rule,uses:=c }:ZvY)])))
     e.token.facts 0 [])
   (fun a=>
    some (a,(decide (0<((a.length:Nat):Int)))))
   g 0 []
 else
  some ([],false)
end
theorem Zde (a b:ByteArray):toL (a++b)=toL a++toL b:=by simp [toL]
theorem ZqQ (a b:List UInt8):ofL (a++b)=ofL a++ofL b:=ZeP (by rw [Zde,ZbD,ZbD,ZbD])
theorem Zff (a:List UInt8):(ofL a).size=a.length:=by rw [←Zco,ZbD]
theorem Zui (a b c:ByteArray):(a++b)++c=a++(b++c):=ZeP (by simp only[Zde,List.append_assoc])
theorem ZuK (a b:ByteArray):(a++b).size=a.size+b.size:=by rw [←Zco,←Zco,←Zco,Zde,AO]
theorem Zdu {n:Int} (h0:-9223372036854775808≤n) (h1:n≤9223372036854775807):IntKind.i64.wrap n=n:=by rw [IntKind.wrap_i64];omega
theorem ZsN (u:Nat) (hu:u<9223372036854775808):YQ [IntKind.u8.wrap (IntKind.i64.wrap (48+Int.tmod (u:Int) 10))]=ofL [AX (48+u % 10)]:=by
 have h1:Int.tmod (u:Int) 10=((u % 10:Nat):Int):=by rw [Int.tmod_eq_emod_of_nonneg yE];omega
 rw [h1,Zdu yE yE,IntKind.wrap_u8,show (48+((u % 10:Nat):Int)) % 256=((48+u % 10:Nat):Int) by omega]
 apply ZeP
 rw [ZbD]
 simp only[YQ,List.map_cons,List.map_nil,toL,AA]
theorem ZuH (u:Nat) (hu:u<9223372036854775808):IntKind.i64.wrap (Int.tdiv (u:Int) 10)=((u / 10:Nat):Int):=by
 rw [Int.tdiv_eq_ediv_of_nonneg yE,Zdu yE yE]
 omega
theorem Ztj {body:Int × ByteArray→Option ((Int × ByteArray) ⊕ ByteArray)} (hb:∀n t,body (n,t)=chk ((YQ [IntKind.u8.wrap (IntKind.i64.wrap (48+Int.tmod n 10))]).size+t.size≤9223372036854775807)
   (if (IntKind.i64.wrap (Int.tdiv n 10)==0)=true then some (.inr (YQ [IntKind.u8.wrap (IntKind.i64.wrap (48+Int.tmod n 10))]++t)) else some (.inl (IntKind.i64.wrap (Int.tdiv n 10),YQ [IntKind.u8.wrap (IntKind.i64.wrap (48+Int.tmod n 10))]++t)))):
  ∀(u:Nat) (t:ByteArray),u<9223372036854775808→t.size+Lib.nDigits u≤1000→Y5 body ((u:Int),t)=some (ofL (Lib.decDigits u)++t):=by
 intro u
 induction u using Nat.strongRecOn with
 | ind u ih=>
  intro t hu ht
  rw [Zig,hb,ZsN u hu,ZuH u hu]
  have hp:=Lib.nDigits_pos u
  rw [Zi _ (by rw [Zff];simp;omega)]
  by_cases h:u<10
  ·have h0:u / 10=0:=by omega
   rw [h0,Lib.decDigits_one h,show u % 10=u by omega]
   rfl
  ·have h0:¬(((u / 10:Nat):Int)==0)=true:=by simp;omega
   rw [if_neg h0]
   have hd:=Lib.nDigits_big h
   show Y5 body (((u / 10:Nat):Int),ofL [AX (48+u % 10)]++t)=_
   rw [ih (u / 10) yE _ yE (by rw [ZuK,Zff];simp;omega),←Zui,←ZqQ]
   congr 2
   rw [show Lib.decDigits u=Lib.decDigits (u / 10)++[AX (48+u % 10)] by rw [Lib.decDigits,dif_neg h]]
theorem ZyO (t:ByteArray):t++(⟨#[]⟩:ByteArray)=t:=ZeP (by rw [Zde];simp [toL])
theorem Zmt {body:Int × ByteArray→Option ((Int × ByteArray) ⊕ ByteArray)} (hb:∀n t,body (n,t)=chk ((YQ [IntKind.u8.wrap (IntKind.i64.wrap (48+Int.tmod n 10))]).size+t.size≤9223372036854775807)
   (if (IntKind.i64.wrap (Int.tdiv n 10)==0)=true then some (.inr (YQ [IntKind.u8.wrap (IntKind.i64.wrap (48+Int.tmod n 10))]++t)) else some (.inl (IntKind.i64.wrap (Int.tdiv n 10),YQ [IntKind.u8.wrap (IntKind.i64.wrap (48+Int.tmod n 10))]++t))))
  {n:Int} (h0:0≤n) (h1:n≤9223372036854775807):Y5 body (n,⟨#[]⟩)=some (ofL (Lib.itoa n)):=by
 obtain ⟨u,rfl⟩:∃u:Nat,n=(u:Int):=⟨n.toNat,yE⟩
 have:=Lib.nDigits_le20 u yE
 rw [Ztj hb u _ yE (by show 0+_≤_;omega),ZyO,Lib.itoa_nonneg]
theorem ZqM:ofL (Lib.itoa (-9223372036854775808))=(⟨#[45,57,50,50,51,51,55,50,48,51,54,56,53,52,55,55,53,56,48,56]⟩:ByteArray):=by
 rw [show (-9223372036854775808:Int)=-((9223372036854775808:Nat):Int) by rfl,Lib.itoa_neg _ yE,Lib.decDigits_eq,Lib.nDigits_unique 18 _ yF yF]
 decide +kernel
theorem Zin {n:Int} (h0:0≤n) (h1:n≤9223372036854775807):Q4 n=some (ofL (Lib.itoa n)):=by
 unfold Q4
 rw [if_neg (by simp;omega),if_neg (by simp;omega)]
 exact Zmt (fun _ _=>rfl) h0 h1
theorem ZfT {n:Int} (h:ZoN n):XO n=some (ofL (Lib.itoa n)):=by
 unfold XO
 by_cases hm:n=-9223372036854775808
 ·subst hm
  rw [if_pos yF,ZqM]
 ·rw [if_neg (by simpa using hm)]
  by_cases hn:n<0
  ·have h2:ZoN n:=h
   unfold ZoN at h2
   rw [if_pos (by simpa using hn),Zdu yE yE,Zin yE yE,A0]
   obtain ⟨u,rfl⟩:∃u:Nat,n=-(u:Int):=⟨n.natAbs,yE⟩
   rw [show (0 - -(u:Int))=(u:Int) by omega,Lib.itoa_nonneg,Lib.itoa_neg u yE]
   have:=Lib.nDigits_le20 u yE
   rw [Zi _ (by rw [Zff,Lib.decDigits_length];show 1+_≤_;omega)]
   exact congrArg some (ZeP (by rw [Zde,ZbD,ZbD];rfl))
  ·rw [if_neg (by simpa using hn)]
   exact Zmt (fun _ _=>rfl) yE h.2
theorem ZcV {n:Int} (h:ZoN n):Zav n=some (ofL (Lib.itoa n)):=by
 have h2:-9223372036854775808≤n∧n≤9223372036854775807:=h
 unfold Zav Zno
 rw [Zi _ h2]
 rfl
def ZaY (b:UInt8):Bool:=(decide (97≤b.toNat)&&decide (b.toNat≤122))||(decide (48≤b.toNat)&&decide (b.toNat≤57))
def ZP (s:ByteArray):Bool:=decide (1≤s.size)&&decide (s.size≤8)&&(toL s).all ZaY
theorem Zgf (x a b:Int):Za5 x a b=some (decide (a≤x)&&decide (x≤b)):=by
 unfold Za5
 by_cases h:a≤x<;>simp [h]
theorem Zmj (b:UInt8):IntKind.i64.wrap ((b.toNat:Nat):Int)=((b.toNat:Nat):Int):=Xn (by omega) (by have:=b.toNat_lt;omega)
theorem QQ {b:UInt8}:ZaY b=true↔(97≤b.toNat∧b.toNat≤122)∨(48≤b.toNat∧b.toNat≤57):=by
 simp only[ZaY,AP,A5,decide_eq_true_eq]
theorem XQ (s:ByteArray):X3 s=some (ZP s):=by
 unfold X3 ZP
 rw [show s.data.toList=toL s from rfl,ZW (p:=ZaY) (r:=false)]
 ·simp only[Zgf,A0]
  cases (toL s).all ZaY with
  | true=>
   simp only[if_true,Af]
   congr 1
   rw [A8]
   simp only[A5,decide_eq_true_eq]
   omega
  | false=>simp
 ·intro i x _
  simp only[Zgf,A0,Zmj,A5,decide_eq_true_eq]
  cases hp:ZaY x with
  | true=>
   have:=QQ.1 hp
   repeat' split
   all_goals first | rfl | (exfalso;omega) | (exfalso;simp_all;done)
  | false=>
   have:=mt (QQ (b:=x)).2 (by simp [hp])
   repeat' split
   all_goals first | rfl | (exfalso;omega) | (exfalso;simp_all;done)
theorem XP (s:ByteArray):X5 s=some (ZP s):=by
 unfold X5 ZP
 simp only[decide_eq_true_eq]
 rw [show s.data.toList=toL s from rfl,ZW (p:=ZaY) (r:=false)]
 ·repeat' split
  ·rw [decide_eq_false (show ¬1≤s.size by omega)];rfl
  ·rw [decide_eq_false (show ¬s.size≤8 by omega)];simp
  ·rename_i h;rw [h,decide_eq_true (show 1≤s.size by omega),decide_eq_true (show s.size≤8 by omega)];rfl
  ·rename_i h;rw [eq_false_of_ne_true h];simp
 ·intro i x _
  cases hp:ZaY x with
  | true=>
   have:=QQ.1 hp
   repeat' split
   all_goals first | rfl | (exfalso;omega) | (exfalso;simp_all;done)
  | false=>
   have:=mt (QQ (b:=x)).2 (by simp [hp])
   repeat' split
   all_goals first | rfl | (exfalso;omega) | (exfalso;simp_all;done)
def ZgS (s:ByteArray):UInt8:=(toL s).headD 0
theorem ZhG {s:ByteArray} (h:1≤s.size):sAt s 0=some (ZgS s):=by
 unfold sAt ZgS
 have hl:0<(toL s).length:=by rw [Zco];omega
 have:(toL s)[0]?=some ((toL s).headD 0):=by
  cases hh:toL s with
  | nil=>rw [hh] at hl;simp at hl
  | cons a r=>simp
 rw [if_pos yE]
 exact Znm this
def Qc (s:ByteArray):Bool:=ZP s&&decide (97≤(ZgS s).toNat)
theorem ZeH {s:ByteArray} (h:ZP s=true):1≤s.size∧s.size≤8:=by
 simp only[ZP,A5,decide_eq_true_eq] at h
 exact h.1
theorem ZhU {s:ByteArray} (h:ZP s=true):ZaY (ZgS s)=true:=by
 have hs:=ZeH h
 simp only[ZP,A5] at h
 have hl:0<(toL s).length:=by rw [Zco];omega
 refine AL.1 h.2 _ ?_
 unfold ZgS
 cases hh:toL s with
 | nil=>rw [hh] at hl;simp at hl
 | cons a r=>simp
theorem ZfH (s:ByteArray):ZcY s=some (Qc s):=by
 unfold ZcY Qc
 rw [XQ,A0]
 cases h:ZP s with
 | false=>simp
 | true=>
  simp only[if_true,ZhG (ZeH h).1,A0,Zgf,Zmj,A4]
  have hb:=QQ.1 (ZhU h)
  congr 1
  rw [A8]
  simp only[A5,decide_eq_true_eq]
  omega
theorem Zft (s:ByteArray):Zdg s=some (Qc s):=by
 unfold Zdg Qc
 rw [XP,A0]
 cases h:ZP s with
 | false=>simp
 | true=>
  simp only[if_true,ZhG (ZeH h).1,A0,A4]
  congr 1
  rw [A8]
  simp only[decide_eq_true_eq]
  omega
def ZsT (s:ByteArray):ByteArray:=s.extract 1 s.size
def Ye (s:ByteArray):Bool:=decide (1<s.size)&&decide ((ZgS s).toNat=63)&&ZP (ZsT s)
theorem Qt (s:ByteArray):Zab s=some (Ye s):=by
 unfold Zab Ye ZsT
 by_cases h:1<s.size
 ·have h':(1:Int)<((s.size:Nat):Int):=by omega
  simp only[h',h,decide_true,if_true,ZhG (show 1≤s.size by omega),A0,A4]
  rw [Zi _ ⟨yE,yE⟩,show A3 1=1 from rfl,XQ,A0]
  by_cases h2:(ZgS s).toNat=63
  ·simp [h2]
  ·have:¬((ZgS s).toNat:Int)=63:=by omega
   simp [h2,this]
 ·have h':¬(1:Int)<((s.size:Nat):Int):=by omega
  simp [h',h]
theorem ZcI (s:ByteArray):Zcp s=some (Ye s):=by
 unfold Zcp Ye ZsT
 by_cases h:1<s.size
 ·have h':(1:Int)<((s.size:Nat):Int):=by omega
  simp only[h',h,decide_true,if_true,ZhG (show 1≤s.size by omega),A0,A4]
  rw [Zi _ ⟨yE,yE⟩,show A3 1=1 from rfl,XP,A0]
  by_cases h2:(ZgS s).toNat=63
  ·simp [h2]
  ·have:¬((ZgS s).toNat:Int)=63:=by omega
   simp [h2,this]
 ·have h':¬(1:Int)<((s.size:Nat):Int):=by omega
  simp [h',h]
def Yi (s:ByteArray):Bool:=ZP s||Ye s
theorem Zi3 (s:ByteArray):Qv s=some (Yi s):=by
 unfold Qv Yi
 rw [XQ,Qt]
 cases ZP s<;>simp
theorem ZiT (s:ByteArray):Qx s=some (Yi s):=by
 unfold Qx Yi
 rw [XP,ZcI]
 cases ZP s<;>simp
theorem YF (l:List ByteArray) (s:ByteArray):ZR l s=some (Yj l s):=by
 unfold ZR Yj
 rw [Zc7 (p:=fun x=>sEq x s) (r:=true)]
 ·cases l.any fun x=>sEq x s<;>simp
 ·intro i x _
  cases sEq x s<;>simp
theorem QO (l:List ByteArray) (s:ByteArray):YV l s=some (Yj l s):=by
 unfold YV Yj
 rw [Zc7 (p:=fun x=>sEq x s) (r:=true)]
 ·cases l.any fun x=>sEq x s<;>simp
 ·intro i x _
  cases sEq x s<;>simp
theorem XV (l:List ByteArray) (s:ByteArray) (h:l.length+1≤1073741824):XA l s=some (XW l s):=by
 unfold XA
 refine (Q6 (fun l _ (st:List ByteArray × Bool)=>some (if st.2=true then st.1++l else st.1++XW l s)) (fun l _ (st:List ByteArray × Bool)=>st.1.length+l.length+(if st.2=true then 0 else 1)≤1073741824) ?_ ?_ l 0 ([],false) (by simpa using h)).trans yG
 ·rintro i ⟨row,d⟩ hI
  cases d with
  | true=>simp
  | false=>simp only[A6,if_false,XW];simp at hI;rw [Zi _ yE]
 ·rintro x l i ⟨row,d⟩ hI
  left
  cases d with
  | true=>
   simp at hI
   exact ⟨(row++[x],true),by simp only[if_true];rw [Zi _ yE],by simp;omega,yG⟩
  | false=>
   simp at hI
   cases h1:sLt x s with
   | true=>exact ⟨(row++[x],false),by simp only[A6,if_false,if_true];rw [Zi _ yE],by simp;omega,by simp [XW,h1]⟩
   | false=>
    cases h2:sEq x s with
    | true=>exact ⟨(row++[x],true),by simp only[A6,if_false,if_true];rw [Zi _ yE],by simp;omega,by simp [XW,h1,h2]⟩
    | false=>exact ⟨(row++[s]++[x],true),by simp only[A6,if_false];rw [Zi _ yE,Zi _ yE],by simp;omega,by simp [XW,h1,h2]⟩
def YX:ByteArray→List ByteArray→List ByteArray
 | _,[]=>[]
 | y,x::r=>if sEq y x=true then YX x r else x::YX x r
def ZkN:List ByteArray→List ByteArray
 | []=>[]
 | x::r=>x::YX x r
theorem Zey {z:ByteArray}:∀{l:List ByteArray} {y:ByteArray},z∈YX y l→z∈l
 | [],_,h=>by simp [YX] at h
 | x::r,y,h=>by
  simp only[YX] at h
  split at h
  ·exact AY _ (Zey h)
  ·rcases A7.1 h with rfl | h
   ·simp
   ·exact AY _ (Zey h)
theorem Zh9 {z:ByteArray}:∀{l:List ByteArray} {y:ByteArray},z∈l→z=y∨z∈YX y l
 | [],_,h=>by simp at h
 | x::r,y,h=>by
  simp only[YX]
  rcases A7.1 h with rfl | h
  ·split
   ·rename_i e;exact .inl (ZN.1 e).symm
   ·simp
  ·rcases Zh9 (y:=x) h with rfl | h'
   ·split
    ·rename_i e;exact .inl (ZN.1 e).symm
    ·simp
   ·split
    ·exact .inr h'
    ·exact .inr (AY _ h')
theorem Zhv:∀{l:List ByteArray} {y:ByteArray},(y::l).Pairwise (fun a b=>sLt b a=false)→Asc (y::YX y l)
 | [],_,_=>by simp [YX,Asc]
 | x::r,y,h=>by
  rw [AB] at h
  have ih:=Zhv h.2
  simp only[YX]
  split
  ·rename_i e
   have e':=ZN.1 e
   subst e'
   exact ih
  ·rename_i e
   have c:sLt y x=true:=Zd2 (h.1 x yG) (fun h=>e (ZN.2 h.symm))
   refine AB.2 ⟨fun z mz=>?_,ih⟩
   rcases A7.1 mz with rfl | mz
   ·exact c
   ·exact ZdU c ((AB.1 ih).1 z mz)
theorem ZnU (l:List ByteArray):ZkN (Zeg l)=ZQ l:=by
 have hs:=Zto l
 refine Zez ?_ fun x=>?_
 ·cases h:Zeg l with
  | nil=>simp [ZkN,Asc]
  | cons y r=>rw [h] at hs;exact Zhv hs
 ·rw [←ZrE (l:=l)]
  cases h:Zeg l with
  | nil=>simp [ZkN]
  | cons y r=>
   simp only[ZkN,A7]
   constructor
   ·rintro (rfl | h)
    ·exact .inl rfl
    ·exact .inr (Zey h)
   ·rintro (rfl | h)
    ·exact .inl rfl
    ·exact Zh9 h
theorem XG (l:List ByteArray) (h:l.length≤1073741824):Yb l=some (ZQ l):=by
 unfold Yb
 rw [Zi _ h,ZbK,Zi _ (by omega),A0]
 have hl:=ZsJ l
 rw [←ZnU]
 generalize Zeg l=v at hl
 refine (Q6 (fun r i (row:List ByteArray)=>some (row++match i with | 0=>ZkN r | i+1=>(match v[i]? with | some y=>YX y r | none=>[]))) (fun r i row=>v.drop i=r∧row.length≤i∧i≤v.length) ?_ ?_ v 0 [] ⟨by simp,by simp,by simp⟩).trans (by simp)
 ·rintro i row ⟨h1,h2,h3⟩
  cases i with
  | zero=>simp [ZkN]
  | succ i=>cases hv:v[i]?<;>simp [YX,hv]
 ·rintro x r i row ⟨h1,h2,h3⟩
  left
  have hi:v[i]?=some x:=by have:=congrArg (fun l=>l[0]?) h1;simpa using this
  have hlt:i<v.length:=(AH.1 hi).1
  have hr:v.drop (i+1)=r:=by have:=congrArg AZ h1;simpa using this
  cases i with
  | zero=>
   refine ⟨row++[x],?_,⟨hr,by simp at h2 ⊢;simp [h2],by omega⟩,?_⟩
   ·simp only[Int.natCast_zero,beq_self_eq_true,if_true]
    rw [Zi _ (by omega)]
   ·simp [ZkN,hi]
  | succ i=>
   have hw:IntKind.i64.wrap (((i+1:Nat):Int) - 1)=((i:Nat):Int):=by rw [Xn (by omega) (by omega)];omega
   have hne:((((i+1:Nat):Int))==0)=false:=by rw [beq_eq_false_iff_ne];omega
   obtain ⟨y,hy⟩:∃y,v[i]?=some y:=⟨v[i],by simp⟩
   simp only[hne,A6,if_false,hw,AA,hy,A0]
   cases he:sEq y x with
   | true=>
    refine ⟨row,?_,⟨hr,by omega,by omega⟩,?_⟩
    ·rw [Zi _ ⟨by omega,by omega⟩];rfl
    ·simp [YX,he,hi]
   | false=>
    refine ⟨row++[x],?_,⟨hr,by simp;omega,by omega⟩,?_⟩
    ·rw [Zi _ ⟨by omega,by omega⟩]
     simp only[A6,if_false]
     rw [Zi _ (by omega)]
    ·simp [YX,he,hi]
theorem Zfl (l:List ByteArray) (h:l.length≤1073741824):Zaw l=some l:=by
 unfold Zaw
 rw [Zi _ h]
theorem ZnL (l:List ByteArray) (h:l.length≤1073741824):Zeq l=some l:=by
 unfold Zeq
 rw [Zi _ h]
theorem Zkw {ρ:Type} {fin:List ByteArray→Option ρ} {body:Nat→ByteArray→List ByteArray→Option (List ByteArray ⊕ ρ)} (hb:∀j x s,body j x s=(XA s x).bind fun v=>some (.inl v)) {l a:List ByteArray} (h:a.length+l.length≤1073741824):Zn body fin l 0 a=fin (l.foldl XW a):=by
 refine XE (f:=XW) (fun j s=>s.length≤a.length+j) yE fun j x s mx hj hl hI=>?_
 have hp:=Zc6 x s
 exact ⟨by rw [hb,XV _ _ yE];rfl,yE⟩
theorem QL {α σ ρ:Type} {body:Nat→α→σ→Option (σ ⊕ ρ)} {fin:σ→Option ρ} (st:List α→σ) (l:List α) (h:∀p x q,l=p++x::q→body p.length x (st p)=some (.inl (st (p++[x])))):Zn body fin l 0 (st [])=fin (st l):=by
 have key:∀(q p:List α),l=p++q→Zn body fin q p.length (st p)=fin (st l):=by
  intro q
  induction q with
  | nil=>intro p e;rw [ZkA,e,Ag]
  | cons x q ih=>
   intro p e
   rw [ZV (h p x q e)]
   have:=ih (p++[x]) (by rw [e];simp)
   simpa using this
 exact key l [] rfl
def YH (f:Zd):Bool:=Qc f.rel&&decide (f.args.length≤3)&&f.args.all ZP
theorem ZiZ (f:Zd):ZdZ f=some (YH f):=by
 unfold ZdZ YH
 rw [ZW (p:=ZP) (r:=false)]
 ·rw [ZfH,A0]
  cases Qc f.rel<;>cases h:f.args.all ZP<;>simp<;>omega
 ·intro i x _
  rw [XQ,A0]
  cases ZP x<;>rfl
theorem ZiS (f:Zd):Zej f=some (YH f):=by
 unfold Zej YH
 rw [Zft,A0]
 cases Qc f.rel with
 | false=>rfl
 | true=>
  rw [if_pos rfl]
  by_cases h:f.args.length≤3
  ·rw [if_neg (by simp;omega),ZW (p:=ZP) (r:=false)]
   ·cases h2:f.args.all ZP<;>simp [h]
   ·intro i x _
    rw [XP,A0]
    cases ZP x<;>rfl
  ·rw [if_pos (by simp;omega)]
   simp [h]
structure Zm9 {α:Type} (c:α→α→Int):Prop where
 eq:∀a b,c a b=0↔a=b
 anti:∀a b,c b a=- c a b
 tr:∀a b d,c a b<0→c b d<0→c a d<0
def Zg6 (a b:ByteArray):Int:=Lib.compareBytes (toL a) (toL b)
theorem ZgY:∀(x y:List UInt8),Lib.compareBytes x y=if Op.bytesLess x y=true then -1 else if x=y then 0 else 1
 | [],[]=>by simp [Lib.compareBytes,Op.bytesLess]
 | [],_::_=>by simp [Lib.compareBytes,Op.bytesLess]
 | _::_,[]=>by simp [Lib.compareBytes,Op.bytesLess]
 | a::x,b::y=>by
  have ih:=ZgY x y
  unfold Lib.compareBytes Op.bytesLess
  by_cases h1:a<b
  ·simp [h1]
  ·rw [if_neg h1]
   by_cases h2:b<a
   ·have h3:¬a=b:=fun e=>by rw [e] at h2;exact absurd h2 (UInt8.lt_irrefl _)
    rw [if_pos h2]
    simp [h1,h3]
   ·have h3:a=b:=by
     apply UInt8.toNat_inj.1
     rw [UInt8.lt_iff_toNat_lt] at h1 h2
     omega
    subst h3
    rw [if_neg h2,ih]
    simp [h1]
theorem Zgp (a b:ByteArray):Zg6 a b=if sLt a b=true then -1 else if a=b then 0 else 1:=by
 unfold Zg6
 rw [ZgY]
 have h1:Op.bytesLess (toL a) (toL b)=sLt a b:=by unfold sLt toL;rw [Ah,Ah]
 rw [h1]
 by_cases h:a=b
 ·subst h;simp
 ·rw [if_neg h,if_neg (fun e=>h (ZeP e))]
theorem ZaW:Zm9 Zg6 where
 eq:=fun a b=>by
  rw [Zgp]
  by_cases h:sLt a b=true
  ·simp [h,ZnR h]
  ·rw [if_neg h]
   by_cases h2:a=b<;>simp [h2]
 anti:=fun a b=>by
  rw [Zgp,Zgp]
  by_cases h:sLt a b=true
  ·have h2:=ZiN h
   have h3:=ZnR h
   rw [if_pos h,if_neg (by simp [h2]),if_neg (fun e=>h3 e.symm)];rfl
  ·rw [if_neg h]
   by_cases h2:a=b
   ·subst h2;rw [if_neg h];simp
   ·rw [if_pos (Zd2 (by simpa using h) h2),if_neg h2]
 tr:=fun a b d h1 h2=>by
  have key:∀x y,Zg6 x y<0→sLt x y=true:=fun x y h=>by
   rw [Zgp] at h
   by_cases hx:sLt x y=true
   ·exact hx
   ·rw [if_neg hx] at h;split at h<;>omega
  rw [Zgp,if_pos (ZdU (key _ _ h1) (key _ _ h2))]
  omega
theorem Zkt (a b:ByteArray):Zgl a b=some (Zg6 a b):=by
 unfold Zgl
 rw [Zgp]
 by_cases h:sLt a b=true
 ·rw [if_pos h,if_pos h]
 ·rw [if_neg h,if_neg h]
  by_cases h2:a=b
  ·subst h2;rw [if_pos (by rw [ZtY];simp),if_pos rfl]
  ·rw [if_neg (by simp only[AP,ZN];rintro (h3 | h3);exact h h3;exact h2 h3),if_neg h2]
theorem ZhQ (a b:ByteArray):Zd1 a b=some (Zg6 a b):=rfl
/- numbers -/
theorem Zl3 {u:Nat} {b:UInt8} (h:b∈Lib.decDigits u):48≤b.toNat∧b.toNat≤57:=by
 rw [Lib.decDigits_eq,List.mem_map] at h
 obtain ⟨t,_,rfl⟩:=h
 unfold Lib.dg
 have:u / 10 ^ (Lib.nDigits u - 1 - t) % 10<10:=Nat.mod_lt _ yE
 rw [UInt8.toNat_ofNat']
 omega
def Qg (s:ByteArray):Option Nat:=
 if 1≤s.size∧s.size≤4 then (match Lib.decNat (toL s) with | some n=>if ofL (Lib.decDigits n)=s then some n else none | none=>none) else none
def ZcZ (s:ByteArray):Int × Bool:=match Qg s with | some n=>((n:Int),true) | none=>(0,false)
theorem Ziz {s:ByteArray} {n:Nat} (h:Qg s=some n):s=ofL (Lib.decDigits n)∧n≤9999:=by
 unfold Qg at h
 split at h
 ·rename_i hs
  split at h
  ·split at h
   ·rename_i m _ he
    obtain rfl:=AE h
    refine ⟨he.symm,?_⟩
    have hl:Lib.nDigits m≤4:=by
     have:=congrArg ByteArray.size he
     rw [Zff,Lib.decDigits_length] at this
     omega
    have:=Lib.lt_pow_nDigits m
    have h2:10 ^ Lib.nDigits m≤10 ^ 4:=Aa yE hl
    omega
   ·simp at h
  ·simp at h
 ·simp at h
theorem Zs0 {a b:ByteArray} {n:Nat} (h1:Qg a=some n) (h2:Qg b=some n):a=b:=(Ziz h1).1.trans (Ziz h2).1.symm
theorem ZoS {body:Nat→UInt8→Int→Option (Int ⊕ (Int × Bool))} {fin:Int→Option (Int × Bool)}
  (hb:∀i (x:UInt8) n,body i x n=if (decide (((x.toNat:Nat):Int)<48))=true then some (.inr (0,false)) else if (decide (57<((x.toNat:Nat):Int)))=true then some (.inr (0,false)) else some (.inl (IntKind.i64.wrap ((IntKind.i64.wrap (10 * n))+IntKind.i64.wrap (IntKind.u8.wrap (((x.toNat:Nat):Int) - 48)))))):
  ∀(l:List UInt8) (i a:Nat),(a+1) * 10 ^ l.length≤100000→Zn body fin l i (a:Int)=match Lib.decFrom a l with | some n=>fin (n:Int) | none=>some (0,false)
 | [],i,a,_=>rfl
 | x::l,i,a,h=>by
  unfold Lib.decFrom Lib.digitVal
  by_cases h1:48≤x.toNat∧x.toNat≤57
  ·have e:body i x (a:Int)=some (.inl ((a * 10+(x.toNat - 48):Nat):Int)):=by
    have hp:1≤10 ^ (x::l).length:=Nat.one_le_pow _ _ yE
    have h2:a+1≤100000:=AI (Nat.le_mul_of_pos_right _ hp) h
    rw [hb,if_neg (by simp;omega),if_neg (by simp;omega),Zdu (n:=10 * (a:Int)) yE yE,IntKind.wrap_u8,Zdu (n:=(((x.toNat:Nat):Int) - 48) % 256) yE yE,Zdu yE yE]
    congr 2
    omega
   rw [ZV e,if_pos h1]
   refine ZoS hb l (i+1) _ ?_
   rw [A9,Nat.pow_succ] at h
   refine AI ?_ h
   rw [show (a+1) * (10 ^ l.length * 10)=((a+1) * 10) * 10 ^ l.length by rw [Aj,Nat.mul_comm 10]]
   exact Nat.mul_le_mul_right _ yE
  ·have e:body i x (a:Int)=some (.inr (0,false)):=by
    rw [hb]
    by_cases h2:x.toNat<48
    ·rw [if_pos (by simp;omega)]
    ·rw [if_neg (by simp;omega),if_pos (by simp;omega)]
   rw [Ya e,if_neg h1]
theorem Zt2 (n a b:Int):Za5 n a b=some (decide (a≤n)&&decide (n≤b)):=by
 unfold Za5
 by_cases h:a≤n<;>simp [h]
theorem s_ParseInt_eq (s:ByteArray):X0 s=some (ZcZ s):=by
 unfold X0 ZcZ Qg
 rw [Zt2,A0]
 by_cases hs:1≤s.size∧s.size≤4
 ·rw [if_pos (by simp;omega),if_pos hs]
  have hl:s.data.toList.length=s.size:=Zco s
  refine (ZoS (fun _ _ _=>rfl) s.data.toList 0 0 (by
   rw [hl,AJ,Nat.one_mul]
   exact AI (Aa yE hs.2) yE)).trans ?_
  have hd:Lib.decNat (toL s)=Lib.decFrom 0 s.data.toList:=by
   unfold Lib.decNat
   rw [if_neg]
   ·rfl
   ·intro e
    have:=Zco s
    rw [List.isEmpty_iff.1 e] at this
    simp at this;omega
  rw [hd]
  cases hv:Lib.decFrom 0 s.data.toList with
  | none=>rfl
  | some n=>
   have hb:n<1000000000000000000:=Lib.decFrom_lt18 hv yE
   show (XO ((n:Nat):Int)).bind _=_
   rw [ZfT ⟨yE,yE⟩,A0,Lib.itoa_nonneg]
   by_cases he:ofL (Lib.decDigits n)=s
   ·rw [if_pos (ZN.2 he)]
    simp only[he,if_true]
   ·rw [if_neg (by rw [ZN];exact he)]
    simp only[he,if_false]
 ·rw [if_neg (by simp;omega),if_neg hs]
theorem Zs4 {b:UInt8} {r:List UInt8} (h:b=45∨b=43):Lib.decNat (b::r)=none:=by
 rcases h with rfl | rfl<;>simp [Lib.decNat,Lib.decFrom,Lib.digitVal]
theorem Zl7 {s:ByteArray} (h:Lib.decNat (toL s)=none):Qg s=none:=by
 unfold Qg
 rw [h]
 split<;>rfl
theorem Zbx (s:ByteArray):QD s=some (ZcZ s):=by
 unfold QD
 by_cases h1:s.size<1
 ·rw [if_pos (by simp;omega)]
  unfold ZcZ Qg
  rw [if_neg yE]
 by_cases h2:4<s.size
 ·rw [if_neg (by simp;omega),if_pos (by simp;omega)]
  unfold ZcZ Qg
  rw [if_neg yE]
 rw [if_neg (by simp;omega),if_neg (by simp;omega)]
 have hl:=Zco s
 have hx:Zkj s=some (match Lib.atoi (toL s) with | some n=>(n,true) | none=>(0,false)):=by
  unfold Zkj
  exact Zi _ yE
 rw [hx,A0]
 cases hL:toL s with
 | nil=>rw [hL] at hl;simp at hl;omega
 | cons b r=>
  have d:b=45∨b=43→ZcZ s=(0,false):=fun h=>by
   unfold ZcZ
   rw [Zl7 (by rw [hL];exact Zs4 h)]
  have f:∀m,(b=45∨b=43)→¬ofL (Lib.decDigits m)=s:=fun m h e=>by
   have hm:b∈Lib.decDigits m:=by
    have:toL s=Lib.decDigits m:=by rw [←e,ZbD]
    rw [←this,hL];simp
   have:=Zl3 hm
   rcases h with rfl | rfl<;>simp at this
  by_cases a:b=45
  ·rw [d (.inl a)]
   cases hd:Lib.decNat r with
   | none=>simp [Lib.atoi,a,hd]
   | some m=>
    have e:Lib.atoi (b::r)=some (-(m:Int)):=by simp [Lib.atoi,a,hd]
    rw [e]
    simp only[if_true]
    by_cases hm:m=0
    ·subst hm
     rw [if_neg yG,if_neg yG]
     show (Zav ((0:Nat):Int)).bind _=_
     rw [ZcV ⟨yE,yE⟩,A0,Lib.itoa_nonneg,if_neg (by rw [ZN];exact f 0 (.inl a))]
    ·rw [if_pos (by simp;omega)]
  ·by_cases c:b=43
   ·rw [d (.inr c)]
    cases hd:Lib.decNat r with
    | none=>simp [Lib.atoi,c,hd]
    | some m=>
     have e:Lib.atoi (b::r)=some (m:Int):=by simp [Lib.atoi,c,hd]
     rw [e]
     simp only[if_true]
     rw [if_neg yG]
     by_cases hm:9999<m
     ·rw [if_pos (by simp;omega)]
     ·rw [if_neg (by simp;omega),ZcV ⟨yE,yE⟩,A0,Lib.itoa_nonneg,if_neg (by rw [ZN];exact f m (.inr c))]
   ·have e:Lib.atoi (b::r)=(Lib.decNat (b::r)).map fun (m:Nat)=>(m:Int):=by simp [Lib.atoi,a,c]
    rw [e]
    cases hd:Lib.decNat (b::r) with
    | none=>
     unfold ZcZ
     rw [Zl7 (by rw [hL];exact hd)]
     rfl
    | some m=>
     simp only[Ak,if_true]
     rw [if_neg yG]
     have hn:Qg s=if ofL (Lib.decDigits m)=s then some m else none:=by
      unfold Qg
      rw [if_pos yE,hL,hd]
     by_cases hm:9999<m
     ·rw [if_pos (by simp;omega)]
      have:Qg s=none:=by
       cases hq:Qg s with
       | none=>rfl
       | some n=>
        have h3:=(Ziz hq).2
        rw [hn] at hq
        split at hq
        ·obtain rfl:=AE hq;omega
        ·simp at hq
      unfold ZcZ
      rw [this]
     ·rw [if_neg (by simp;omega),ZcV ⟨yE,yE⟩,A0,Lib.itoa_nonneg]
      unfold ZcZ
      rw [hn]
      by_cases he:ofL (Lib.decDigits m)=s
      ·rw [if_pos (ZN.2 he),if_pos he]
      ·rw [if_neg (by rw [ZN];exact he),if_neg he]
def Zjj (x y:Nat):Int:=if x<y then -1 else if y<x then 1 else 0
theorem Zn3:Zm9 Zjj where
 eq:=fun a b=>by unfold Zjj;split<;>(try split)<;>omega
 anti:=fun a b=>by unfold Zjj;split<;>(try split)<;>(try split)<;>omega
 tr:=fun a b d h1 h2=>by
  unfold Zjj at *
  split at h1
  ·split at h2
   ·rw [if_pos yE];omega
   ·split at h2<;>omega
  ·split at h1<;>omega
def Ze7 (a b:ByteArray):Int:=
 match Qg a,Qg b with
 | some x,some y=>Zjj x y
 | some _,none=>-1
 | none,some _=>1
 | none,none=>Zg6 a b
theorem ZnS:Zm9 Ze7 where
 eq:=fun a b=>by
  unfold Ze7
  cases ha:Qg a with
  | none=>
   cases hb:Qg b with
   | none=>exact ZaW.eq a b
   | some y=>simp only;exact ⟨fun h=>by omega,fun h=>by rw [h,hb] at ha;simp at ha⟩
  | some x=>
   cases hb:Qg b with
   | none=>simp only;exact ⟨fun h=>by omega,fun h=>by rw [h,hb] at ha;simp at ha⟩
   | some y=>
    simp only
    rw [Zn3.eq]
    exact ⟨fun h=>Zs0 ha (h ▸ hb),fun h=>by rw [h,hb] at ha;exact (AE ha).symm⟩
 anti:=fun a b=>by
  unfold Ze7
  cases Qg a<;>cases Qg b<;>simp only
  ·exact ZaW.anti a b
  ·rfl
  ·exact Zn3.anti _ _
 tr:=fun a b d h1 h2=>by
  unfold Ze7 at *
  cases ha:Qg a<;>cases hb:Qg b<;>cases hd:Qg d<;>simp only[ha,hb,hd] at h1 h2 ⊢<;>first | omega | exact ZaW.tr a b d h1 h2 | exact Zn3.tr _ _ _ h1 h2
theorem Zbf (x y:Nat):Xw (x:Int) (y:Int)=some (Zjj x y):=by
 unfold Xw Zjj
 by_cases h1:x<y
 ·rw [if_pos (by simpa using h1),if_pos h1]
 ·rw [if_neg (by simpa using h1),if_neg h1]
  by_cases h2:y<x
  ·rw [if_pos (by simpa using h2),if_pos h2]
  ·rw [if_neg (by simpa using h2),if_neg h2]
theorem Zdt (a b:ByteArray):Y0 a b=some (Ze7 a b):=by
 unfold Y0 Ze7
 rw [s_ParseInt_eq,A0,s_ParseInt_eq,A0]
 unfold ZcZ
 cases Qg a with
 | none=>
  cases Qg b with
  | none=>simp only[A6,if_false];rw [Zkt];rfl
  | some y=>rfl
 | some x=>
  cases Qg b with
  | none=>rfl
  | some y=>
   simp only[if_true]
   unfold Zjj
   by_cases h1:x<y
   ·rw [if_pos (by simpa using h1),if_pos h1]
   ·rw [if_neg (by simpa using h1),if_neg h1]
    by_cases h2:y<x
    ·rw [if_pos (by simpa using h2),if_pos h2]
    ·rw [if_neg (by simpa using h2),if_neg h2]
theorem ZhT (a b:ByteArray):Qj a b=some (Ze7 a b):=by
 unfold Qj Ze7
 rw [Zbx,A0,Zbx,A0]
 unfold ZcZ
 cases Qg a with
 | none=>
  cases Qg b with
  | none=>simp only[A6,if_false];rw [ZhQ];rfl
  | some y=>rfl
 | some x=>
  cases Qg b with
  | none=>rfl
  | some y=>simp only[if_true];rw [Zbf];rfl
def ZfB {α:Type} (c:α→α→Int):List α→List α→Int
 | [],[]=>0
 | [],_::_=>-1
 | _::_,[]=>1
 | x::l,y::r=>if c x y=0 then ZfB c l r else c x y
theorem ZnA {α:Type} {c:α→α→Int} (h:Zm9 c):Zm9 (ZfB c) where
 eq:=fun a=>by
  induction a with
  | nil=>intro b;cases b<;>simp [ZfB]
  | cons x l ih=>
   intro b
   cases b with
   | nil=>simp [ZfB]
   | cons y r=>
    simp only[ZfB]
    by_cases hx:c x y=0
    ·rw [if_pos hx,ih,(h.eq x y).1 hx];simp
    ·rw [if_neg hx]
     exact ⟨fun e=>absurd e hx,fun e=>absurd ((h.eq x y).2 (by simp at e;exact e.1)) hx⟩
 anti:=fun a=>by
  induction a with
  | nil=>intro b;cases b<;>simp [ZfB]
  | cons x l ih=>
   intro b
   cases b with
   | nil=>simp [ZfB]
   | cons y r=>
    simp only[ZfB]
    have hy:=h.anti x y
    by_cases hx:c x y=0
    ·rw [if_pos hx,if_pos (by omega),ih]
    ·rw [if_neg hx,if_neg (by omega),hy]
 tr:=fun a=>by
  induction a with
  | nil=>
   intro b d h1 h2
   cases b with
   | nil=>simp [ZfB] at h1
   | cons y r=>cases d with
    | nil=>simp [ZfB] at h2
    | cons z q=>simp [ZfB]
  | cons x l ih=>
   intro b d h1 h2
   cases b with
   | nil=>simp [ZfB] at h1
   | cons y r=>cases d with
    | nil=>simp [ZfB] at h2
    | cons z q=>
     simp only[ZfB] at h1 h2 ⊢
     by_cases hx:c x y=0
     ·rw [if_pos hx] at h1
      obtain rfl:=(h.eq x y).1 hx
      by_cases hz:c x z=0
      ·rw [if_pos hz] at h2 ⊢;exact ih r q h1 h2
      ·rw [if_neg hz] at h2 ⊢;exact h2
     ·rw [if_neg hx] at h1
      by_cases hz:c y z=0
      ·obtain rfl:=(h.eq y z).1 hz
       rw [if_neg hx];exact h1
      ·rw [if_neg hz] at h2
       have:=h.tr x y z h1 h2
       rw [if_neg (by omega)];exact this
def Zdl (a b:Zd):Int:=if Zg6 a.rel b.rel=0 then ZfB Ze7 a.args b.args else Zg6 a.rel b.rel
theorem Zo6 {a b:Zd} (h1:a.rel=b.rel) (h2:a.args=b.args):a=b:=by cases a;cases b;simp_all
theorem Zdq:Zm9 Zdl where
 eq:=fun a b=>by
  unfold Zdl
  by_cases h:Zg6 a.rel b.rel=0
  ·rw [if_pos h,(ZnA ZnS).eq]
   exact ⟨fun e=>Zo6 ((ZaW.eq _ _).1 h) e,fun e=>by rw [e]⟩
  ·rw [if_neg h]
   exact ⟨fun e=>absurd e h,fun e=>absurd ((ZaW.eq _ _).2 (by rw [e])) h⟩
 anti:=fun a b=>by
  unfold Zdl
  have hy:=ZaW.anti a.rel b.rel
  by_cases h:Zg6 a.rel b.rel=0
  ·rw [if_pos h,if_pos yE,(ZnA ZnS).anti]
  ·rw [if_neg h,if_neg yE,hy]
 tr:=fun a b d h1 h2=>by
  unfold Zdl at *
  by_cases hx:Zg6 a.rel b.rel=0
  ·rw [if_pos hx] at h1
   have e:=(ZaW.eq _ _).1 hx
   rw [e]
   by_cases hz:Zg6 b.rel d.rel=0
   ·rw [if_pos hz] at h2 ⊢;exact (ZnA ZnS).tr _ _ _ h1 h2
   ·rw [if_neg hz] at h2 ⊢;exact h2
  ·rw [if_neg hx] at h1
   by_cases hz:Zg6 b.rel d.rel=0
   ·rw [←(ZaW.eq _ _).1 hz,if_neg hx];exact h1
   ·rw [if_neg hz] at h2
    have:=ZaW.tr _ _ _ h1 h2
    rw [if_neg yE];exact this
theorem Zby {α:Type} (l:List α) (i:Nat):atI l (i:Int)=l[i]?:=by unfold atI;rw [if_pos (by omega),AA]
theorem ZiG {A B:List ByteArray} {body:Nat→ByteArray→Unit→Option (Unit ⊕ Int)} {fin:Unit→Option Int}
  (b:∀i x y,B[i]?=some y→body i x ()=if Ze7 x y=0 then some (.inl ()) else some (.inr (Ze7 x y))) (c:∀x,B.length<A.length→body B.length x ()=some (.inr 1)) (a:A.length≤B.length→fin ()=some (if A.length<B.length then -1 else 0)):
  ∀(l:List ByteArray) (i:Nat),i+l.length=A.length→i≤B.length→Zn body fin l i ()=some (ZfB Ze7 l (B.drop i))
 | [],i,h,hi=>by
  simp at h
  rw [ZkA,a yE]
  by_cases hb:A.length<B.length
  ·rw [if_pos hb]
   cases hd:B.drop i with
   | nil=>have:=congrArg List.length hd;simp at this;omega
   | cons y r=>rfl
  ·rw [if_neg hb,Ab yE]
   rfl
 | x::l,i,h,hi=>by
  simp only[A9] at h
  by_cases hb:i<B.length
  ·have hy:B[i]?=some B[i]:=AK hb
   rw [Ac hb]
   simp only[ZfB]
   by_cases hc:Ze7 x B[i]=0
   ·rw [ZV (by rw [b i x _ hy,if_pos hc]),if_pos hc]
    exact ZiG b c a l (i+1) yE yE
   ·rw [Ya (by rw [b i x _ hy,if_neg hc]),if_neg hc]
  ·obtain rfl:i=B.length:=by omega
   rw [Ya (c x yE),Ab (AQ _)]
   rfl
theorem ZdC (a b:Zd):YZ a b=some (Zdl a b):=by
 unfold YZ Zdl
 by_cases h:a.rel=b.rel
 ·rw [if_pos (ZN.2 h),if_pos ((ZaW.eq _ _).2 h)]
  refine ZiG (A:=a.args) (B:=b.args) (fun i x y hy=>?_) (fun x hx=>?_) (fun hx=>?_) a.args 0 yG (Nat.zero_le _)
  ·have hi:=(AH.1 hy).1
   rw [if_pos (by simpa using hi),Zby,hy,A0,Zdt,A0]
   by_cases hc:Ze7 x y=0
   ·rw [hc];rfl
   ·rw [if_pos (by simpa using hc),if_neg hc]
  ·rw [if_neg yG,if_neg (by simp;omega),if_pos (by simpa using hx)]
  ·by_cases h2:a.args.length<b.args.length
   ·rw [if_pos (by simpa using h2),if_pos h2]
   ·rw [if_neg (by simpa using h2),if_neg (by simp;omega),if_neg h2]
 ·rw [if_neg (by rw [ZN];exact h),if_neg (fun e=>h ((ZaW.eq _ _).1 e)),Zkt]
  rfl
theorem Zdo (a b:Zd):XJ a b=some (Zdl a b):=by
 unfold XJ Zdl
 rw [ZhQ,A0]
 by_cases h:Zg6 a.rel b.rel=0
 ·rw [if_neg (by simpa using h),if_pos h]
  refine ZiG (A:=a.args) (B:=b.args) (fun i x y hy=>?_) (fun x hx=>?_) (fun hx=>?_) a.args 0 yG (Nat.zero_le _)
  ·have hi:=(AH.1 hy).1
   rw [if_pos (by simpa using hi),Zby,hy,A0,ZhT,A0]
   by_cases hc:Ze7 x y=0
   ·rw [hc];rfl
   ·rw [if_pos (by simpa using hc),if_neg hc]
  ·rw [if_neg yG,Zbf]
   unfold Zjj
   rw [if_neg yE,if_pos hx]
   rfl
  ·rw [Zbf]
   unfold Zjj
   by_cases h2:a.args.length<b.args.length
   ·rw [if_pos h2,if_pos h2];rfl
   ·rw [if_neg h2,if_neg yE,if_neg h2];rfl
 ·rw [if_pos (by simpa using h),if_neg h]
section
theorem Xo (f:Zd) (h:f.args.length≤1048576):XM f=some f:=by
 unfold XM
 rw [ZnL _ yE]
 rfl
theorem YB (f:Zd) (h:f.args.length≤1048576):Yl f=some f:=by
 unfold Yl
 rw [Zfl _ yE]
 rfl
theorem Zla {B:List ByteArray} {body:Nat→ByteArray→Unit→Option (Unit ⊕ Bool)} (hb:∀i x y,B[i]?=some y→body i x ()=if x=y then some (.inl ()) else some (.inr false)):
  ∀(l:List ByteArray) (i:Nat),i+l.length=B.length→Zn body (fun _=>some true) l i ()=some (decide (l=B.drop i))
 | [],i,h=>by
  simp at h
  rw [ZkA,Ab yE]
  simp
 | x::l,i,h=>by
  simp only[A9] at h
  have hi:i<B.length:=by omega
  have hd:(x::l=B.drop i)↔(x=B[i]∧l=B.drop (i+1)):=by rw [Ac hi,List.cons.injEq]
  rw [A8.2 (show decide (x::l=B.drop i)=true↔decide (x=B[i]∧l=B.drop (i+1))=true by rw [decide_eq_true_iff,decide_eq_true_iff];exact hd)]
  by_cases hx:x=B[i]
  ·rw [ZV (by rw [hb i x _ (AK hi),if_pos hx]),Zla hb l (i+1) yE]
   simp [hx]
  ·rw [Ya (by rw [hb i x _ (AK hi),if_neg hx])]
   simp [hx]
theorem ZkL (a b:List ByteArray):Zb4 a b=some (decide (a=b)):=by
 unfold Zb4
 by_cases h:a.length=b.length
 ·rw [if_neg (by simp;omega)]
  have:=Zla (B:=b) (body:=fun i6 x7 _=>(atI b ((i6:Nat):Int)).bind fun x8=>if (sEq x7 x8)=true then some (.inl ()) else some (.inr false)) (fun i x y hy=>by
   show (atI b ((i:Nat):Int)).bind _=_
   rw [Zby,hy,A0]
   by_cases hx:x=y
   ·rw [if_pos (ZN.2 hx),if_pos hx]
   ·rw [if_neg (by rw [ZN];exact hx),if_neg hx]) a 0 yE
  simpa using this
 ·rw [if_pos (by simp;omega),decide_eq_false (fun e=>h (by rw [e]))]
open Classical
theorem ZbI (a b:Zd):Zbe a b=some (decide (a=b)):=by
 unfold Zbe
 by_cases h:a.rel=b.rel
 ·rw [if_pos (ZN.2 h),ZkL,A0]
  congr 1
  rw [A8,decide_eq_true_iff,decide_eq_true_iff]
  exact ⟨fun e=>Zo6 h e,fun e=>by rw [e]⟩
 ·rw [if_neg (by rw [ZN];exact h),decide_eq_false (fun e=>h (by rw [e]))]
theorem ZlY (l:List Zd) (f:Zd):∃z,Z8 l f=some z∧(z<0↔f∉l):=by
 unfold Z8
 have key:∀(l:List Zd) (i:Nat),∃z,Zn (σ:=Unit) (fun (i6:Nat) (x7:Zd) _=>(Zbe x7 f).bind fun v8=>if v8=true then some (.inr ((i6:Nat):Int)) else some (.inl ())) (fun _=>some (-1)) l i ()=some z∧(z<0↔f∉l):=by
  intro l
  induction l with
  | nil=>intro i;exact ⟨-1,rfl,yG⟩
  | cons x l ih=>
   intro i
   by_cases hx:x=f
   ·refine ⟨(i:Int),Ya (by rw [ZbI,A0,if_pos (decide_eq_true hx)]),by simp [hx]⟩
   ·obtain ⟨z,e,hz⟩:=ih (i+1)
    refine ⟨z,(ZV (by rw [ZbI,A0,if_neg (by simpa using hx)])).trans e,?_⟩
    rw [hz,A7]
    exact ⟨fun h=>by rintro (h1 | h1);exact hx h1.symm;exact h h1,fun h h1=>h (.inr h1)⟩
 exact key l 0
def Zdn:List Zd→Zd→List Zd
 | [],f=>[f]
 | x::l,f=>if Zdl x f<0 then x::Zdn l f else if Zdl x f=0 then x::l else f::x::l
def ZiF (l:List Zd):Prop:=l.Pairwise fun x y=>Zdl x y<0
theorem Qm {y f:Zd}:∀{l:List Zd},y∈Zdn l f↔y=f∨y∈l
 | []=>by simp [Zdn]
 | x::l=>by
  simp only[Zdn]
  split
  ·rw [A7,Qm,A7]
   exact ⟨fun h=>by rcases h with h | h | h<;>simp [h],fun h=>by rcases h with h | h | h<;>simp [h]⟩
  ·split
   ·rename_i h
    have e:=(Zdq.eq _ _).1 h
    rw [A7,e]
    exact ⟨fun h=>by rcases h with h | h<;>simp [h],fun h=>by rcases h with h | h | h<;>simp [h]⟩
   ·rw [A7]
theorem ZjK (f:Zd):∀l:List Zd,(Zdn l f).length≤l.length+1
 | []=>by simp [Zdn]
 | x::l=>by
  have:=ZjK f l
  simp only[Zdn]
  split
  ·simp;omega
  ·split<;>simp
theorem Zoj {f:Zd}:∀{l:List Zd},ZiF l→ZiF (Zdn l f)
 | [],_=>by simp [Zdn,ZiF]
 | x::l,h=>by
  unfold ZiF at *
  rw [AB] at h
  simp only[Zdn]
  split
  ·rename_i hx
   rw [AB]
   refine ⟨fun y my=>?_,Zoj h.2⟩
   rcases Qm.1 my with rfl | my
   ·exact hx
   ·exact h.1 y my
  ·rename_i hx
   split
   ·rw [AB];exact h
   ·rename_i h0
    have a:Zdl f x<0:=by rw [Zdq.anti x f];omega
    rw [AB,AB]
    refine ⟨fun y my=>?_,h⟩
    rcases A7.1 my with rfl | my
    ·exact a
    ·exact Zdq.tr _ _ _ a (h.1 y my)
theorem Zk2 (l:List Zd) (f:Zd) (hl:l.length≤1048576) (ha:∀x∈l,x.args.length≤1048576) (hf:f.args.length≤1048576):YI l f=some (Zdn l f):=by
 unfold YI
 rw [Q6 (fun l _ s=>some (s.1++(if s.2=true then l else Zdn l f))) (fun l _ s=>s.1.length+2 * l.length+1≤4000000∧∀x∈l,x.args.length≤1048576) ?_ ?_ l 0 ([],false) ⟨by simp;omega,ha⟩]
 ·simp
 ·rintro i ⟨row,a⟩ ⟨h1,_⟩
  cases a with
  | true=>simp
  | false=>
   simp only[A6,if_false]
   simp only[AR] at h1
   rw [Xo f hf,A0,Zi _ yE]
   rfl
 ·rintro x l i ⟨row,a⟩ ⟨h1,h2⟩
  simp only[A9] at h1
  have hx:=h2 x yG
  left
  cases a with
  | true=>
   simp only[if_true]
   rw [Xo x hx,A0,Zi _ yE]
   exact ⟨_,rfl,⟨by simp;omega,fun y my=>h2 y (by simp [my])⟩,yG⟩
  | false=>
   simp only[A6,if_false]
   rw [ZdC,A0]
   by_cases b:Zdl x f<0
   ·rw [if_neg (by simp;omega),Xo x hx,A0,Zi _ yE]
    exact ⟨_,rfl,⟨by simp;omega,fun y my=>h2 y (by simp [my])⟩,by simp [Zdn,b]⟩
   ·rw [if_pos (by simp;omega),A0]
    by_cases h0:Zdl x f=0
    ·rw [if_neg (by simp;omega),Xo x hx,A0,Zi _ yE]
     exact ⟨_,rfl,⟨by simp;omega,fun y my=>h2 y (by simp [my])⟩,by simp [Zdn,h0]⟩
    ·rw [if_pos (by simp;omega),Xo f hf,A0,Zi _ yE,Xo x hx,A0,Zi _ yE]
     exact ⟨_,rfl,⟨by simp;omega,fun y my=>h2 y (by simp [my])⟩,by simp [Zdn,h0,b]⟩
theorem ZnZ (l:List Zd) (f:Zd) (hn:f∉l) (hl:l.length≤1048576) (ha:∀x∈l,x.args.length≤1048576) (hf:f.args.length≤1048576):XF l f=some (Zdn l f):=by
 unfold XF
 rw [Q6 (fun l _ s=>some (s.1++(if s.2=true then l else Zdn l f))) (fun l _ s=>s.1.length+2 * l.length+1≤4000000∧f∉l∧∀x∈l,x.args.length≤1048576) ?_ ?_ l 0 ([],false) ⟨by simp;omega,hn,ha⟩]
 ·simp
 ·rintro i ⟨row,a⟩ ⟨h1,_⟩
  cases a with
  | true=>simp
  | false=>
   simp only[A6,if_false]
   simp only[AR] at h1
   rw [YB f hf,A0,Zi _ yE]
   rfl
 ·rintro x l i ⟨row,a⟩ ⟨h1,h3,h2⟩
  simp only[A9] at h1
  have hx:=h2 x yG
  have b:f∉l:=fun m=>h3 (by simp [m])
  left
  cases a with
  | true=>
   simp only[if_true]
   rw [YB x hx,A0,Zi _ yE]
   exact ⟨_,rfl,⟨by simp;omega,b,fun y my=>h2 y (by simp [my])⟩,yG⟩
  | false=>
   simp only[A6,if_false]
   rw [Zdo,A0]
   have h0:¬Zdl x f=0:=fun e=>h3 (by rw [(Zdq.eq _ _).1 e];simp)
   by_cases c:Zdl x f<0
   ·rw [if_neg (by simp;omega),YB x hx,A0,Zi _ yE]
    exact ⟨_,rfl,⟨by simp;omega,b,fun y my=>h2 y (by simp [my])⟩,by simp [Zdn,c]⟩
   ·rw [if_pos (by simp;omega),YB f hf,A0,Zi _ yE,YB x hx,A0,Zi _ yE]
    exact ⟨_,rfl,⟨by simp;omega,b,fun y my=>h2 y (by simp [my])⟩,by simp [Zdn,h0,c]⟩
end
def Z0 (p:Zv):Bool:=Qc p.rel&&decide (p.args.length≤3)&&p.args.all Yi
theorem QA (p:Zv):YD p=some (Z0 p):=by
 unfold YD Z0
 rw [ZW (p:=Yi) (r:=false)]
 ·simp only[ZfH,A0]
  have:decide (((p.args.length:Nat):Int)≤3)=decide (p.args.length≤3):=by rw [A8];simp only[decide_eq_true_eq];omega
  rw [this]
  cases p.args.all Yi<;>cases Qc p.rel<;>simp
 ·intro i x _
  rw [Zi3]
  cases Yi x<;>simp
theorem Za8 (p:Zv):YR p=some (Z0 p):=by
 unfold YR Z0
 rw [Zft,ZW (p:=Yi) (r:=false)]
 ·by_cases h:p.args.length≤3
  ·have h':¬(3:Int)<((p.args.length:Nat):Int):=by omega
   cases p.args.all Yi<;>cases Qc p.rel<;>simp [h,h']
  ·have h':(3:Int)<((p.args.length:Nat):Int):=by omega
   cases Qc p.rel<;>simp [h,h']
 ·intro i x _
  rw [ZiT]
  cases Yi x<;>simp
def YO (p:Zv):Bool:=sEq p.rel ⟨#[]⟩&&decide (p.args.length=0)
theorem Zsv {α:Type} (l:List α):((((l.length:Nat):Int))==0)=decide (l.length=0):=by
 rw [A8,beq_iff_eq,decide_eq_true_eq];omega
theorem Zd5 (p:Zv):YS p=some (YO p):=by
 unfold YS YO
 rw [Zsv]
 cases sEq p.rel ⟨#[]⟩<;>simp
def Yz (x:Zr):Bool:=
 if x.kind=1∨x.kind=2 then Z0 x.pattern&&sEq x.left ⟨#[]⟩&&sEq x.right ⟨#[]⟩
 else if x.kind=3∨x.kind=4∨x.kind=5 then YO x.pattern&&Yi x.left&&Yi x.right
 else false
theorem ZbT (x:Zr):Zb1 x=some (Yz x):=by
 unfold Zb1 Yz
 simp only[QA,Zi3,A0,YO,Zsv,beq_iff_eq]
 by_cases h1:x.kind=1
 ·simp only[h1,if_true,true_or];cases Z0 x.pattern<;>cases sEq x.left ⟨#[]⟩<;>simp
 by_cases h2:x.kind=2
 ·simp only[h2,if_true,or_true];cases Z0 x.pattern<;>cases sEq x.left ⟨#[]⟩<;>simp
 simp only[h1,h2,if_false,or_self]
 by_cases h3:x.kind=3
 ·simp only[h3,if_true,true_or];cases sEq x.pattern.rel ⟨#[]⟩<;>cases decide (x.pattern.args.length=0)<;>cases Yi x.left<;>simp
 by_cases h4:x.kind=4
 ·simp only[h4,if_true,true_or,or_true];cases sEq x.pattern.rel ⟨#[]⟩<;>cases decide (x.pattern.args.length=0)<;>cases Yi x.left<;>simp
 by_cases h5:x.kind=5
 ·simp only[h5,if_true,or_true];cases sEq x.pattern.rel ⟨#[]⟩<;>cases decide (x.pattern.args.length=0)<;>cases Yi x.left<;>simp
 simp [h3,h4,h5]
theorem Zfn (x:Zr):Zdj x=some (Yz x):=by
 unfold Zdj Yz
 simp only[Za8,ZiT,Zd5,A0,beq_iff_eq]
 by_cases h1:x.kind=1
 ·simp only[h1,if_true,true_or];cases Z0 x.pattern<;>cases sEq x.left ⟨#[]⟩<;>simp
 by_cases h2:x.kind=2
 ·simp only[h2,if_true,or_true];cases Z0 x.pattern<;>cases sEq x.left ⟨#[]⟩<;>simp
 simp only[h1,h2,if_false,or_self]
 by_cases h3:x.kind=3
 ·simp only[h3,if_true,true_or];cases YO x.pattern<;>cases Yi x.left<;>cases Yi x.right<;>simp
 by_cases h4:x.kind=4
 ·simp only[h4,if_true,true_or,or_true];cases YO x.pattern<;>cases Yi x.left<;>cases Yi x.right<;>simp
 by_cases h5:x.kind=5
 ·simp only[h5,if_true,or_true];cases YO x.pattern<;>cases Yi x.left<;>cases Yi x.right<;>simp
 simp [h3,h4,h5]
theorem Znz {x:Zr} (h:Yz x=true):x.kind=1∨x.kind=2∨x.kind=3∨x.kind=4∨x.kind=5:=by
 unfold Yz at h
 split at h
 ·rename_i h1;omega
 ·split at h
  ·rename_i h1;omega
  ·simp at h
theorem ZoE (x:Zr):ZaT x=some (Yz x&&decide (3≤x.kind)):=by
 unfold ZaT
 rw [ZbT]
 cases Yz x<;>simp
def Xa (a:Zx):Bool:=
 if a.kind=1∨a.kind=2 then Z0 a.pattern else if a.kind=3 then YO a.pattern else false
theorem ZlD (a:Zx):ZcM a=some (Xa a):=by
 unfold ZcM Xa
 simp only[QA,A0,YO,Zsv,beq_iff_eq]
 by_cases h1:a.kind=1
 ·simp [h1]
 by_cases h2:a.kind=2
 ·simp [h2]
 by_cases h3:a.kind=3
 ·simp only[h3,if_true];cases sEq a.pattern.rel ⟨#[]⟩<;>simp
 simp [h1,h2,h3]
theorem ZlK (a:Zx):Zc5 a=some (Xa a):=by
 unfold Zc5 Xa
 simp only[Za8,Zd5,A0,beq_iff_eq]
 by_cases h1:a.kind=1
 ·simp [h1]
 by_cases h2:a.kind=2
 ·simp [h2]
 by_cases h3:a.kind=3
 ·simp [h3]
 simp [h1,h2,h3]
def YM (l:List ByteArray):List ByteArray:=l.filter Ye
theorem Zcw (l:List ByteArray):(YM l).length≤l.length:=List.length_filter_le _ _
theorem Zbo {x:ByteArray} {l:List ByteArray}:x∈YM l↔x∈l∧Ye x=true:=by simp [YM]
theorem Zdf (l:List ByteArray) (h:l.length≤1073741824):Qn l=some (YM l):=by
 unfold Qn
 rw [ZdF (p:=Ye)]
 ·simp [YM]
 ·intro j x s _ hs
  rw [ZcI,A0]
  split
  ·rw [Zi _ (by simp at hs;omega)]
  ·rfl
theorem Zi5 {p:ByteArray→Bool}:∀(l a:List ByteArray),l.foldl (fun s x=>if p x=true then XW s x else s) a=(l.filter p).foldl XW a
 | [],_=>rfl
 | x::l,a=>by
  rw [AS,Zi5 l]
  by_cases h:p x=true<;>simp [h]
theorem ZbP (p:Zv) (h:p.args.length≤1073741823):Za0 p=some (ZQ (YM p.args)):=by
 unfold Za0
 rw [XE (f:=fun s x=>if Ye x=true then XW s x else s) (fun j s=>s.length≤j) yG]
 ·rw [Zi5];rfl
 ·intro j x s _ _ hl hI
  simp at hl
  have:=Zc6 x s
  rw [Qt,A0]
  split
  ·rw [XV _ _ yE]
   exact ⟨rfl,yE⟩
  ·exact ⟨rfl,yE⟩
def Zfz (x:Zr):List ByteArray:=x.pattern.args++[x.left,x.right]
def Yt (x:Zr):List ByteArray:=ZQ (YM (Zfz x))
theorem ZbB (x:Zr) (h:x.pattern.args.length≤1073741822):X1 x=some (Yt x):=by
 unfold X1 Zgs
 rw [Zfl _ yE,A0,Zi _ yE,A0,Zdf _ (by simp;omega),A0]
 have:=Zcw (x.pattern.args++[x.left,x.right])
 simp at this
 rw [XG _ yE]
 rfl
theorem Zbz (x:Zr) (h:x.pattern.args.length≤1073741820):Xz x=some (Yt x):=by
 unfold Xz
 have h1:=Zdy (YM x.pattern.args)
 have h2:=Zcw x.pattern.args
 have h3:=Zc6 x.left (ZQ (YM x.pattern.args))
 have key:∀l:List ByteArray,(∀y,y∈l↔y∈YM (Zfz x))→Asc l→l=Yt x:=fun l hm ha=>Zez ha hm
 rw [ZbP _ (by omega),A0,Qt,A0,Qt]
 simp only[A0]
 rw [XV _ _ (by omega),A0,XV (XW _ _) _ (by omega),A0,XV _ x.right (by omega),A0]
 cases hl:Ye x.left<;>cases hr:Ye x.right<;>simp only[if_true,A6,if_false]<;>congr 1<;>apply key<;>(try intro y)<;>(try simp only[Zhu,ZS,Zbo,Zfz,AM,A7,Al,or_false])
 all_goals first
  | exact ZbR _
  | exact ZfN (ZbR _)
  | exact ZfN (ZfN (ZbR _))
  | skip
 ·constructor
  ·rintro ⟨a,b⟩;exact ⟨.inl a,b⟩
  ·rintro ⟨a | rfl | rfl,b⟩
   ·exact ⟨a,b⟩
   ·rw [hl] at b;simp at b
   ·rw [hr] at b;simp at b
 ·constructor
  ·rintro (rfl | ⟨a,b⟩)
   ·exact ⟨by simp,hr⟩
   ·exact ⟨.inl a,b⟩
  ·rintro ⟨a | rfl | rfl,b⟩
   ·exact .inr ⟨a,b⟩
   ·rw [hl] at b;simp at b
   ·exact .inl rfl
 ·constructor
  ·rintro (rfl | ⟨a,b⟩)
   ·exact ⟨by simp,hl⟩
   ·exact ⟨.inl a,b⟩
  ·rintro ⟨a | rfl | rfl,b⟩
   ·exact .inr ⟨a,b⟩
   ·exact .inl rfl
   ·rw [hr] at b;simp at b
 ·constructor
  ·rintro (rfl | rfl | ⟨a,b⟩)
   ·exact ⟨by simp,hr⟩
   ·exact ⟨by simp,hl⟩
   ·exact ⟨.inl a,b⟩
  ·rintro ⟨a | rfl | rfl,b⟩
   ·exact .inr (.inr ⟨a,b⟩)
   ·exact .inr (.inl rfl)
   ·exact .inl rfl
theorem Zgv (x:Zr):(Yt x).length≤x.pattern.args.length+2:=by
 have h1:=Zdy (YM (Zfz x))
 have h2:=Zcw (Zfz x)
 have h3:(Zfz x).length=x.pattern.args.length+2:=by simp [Zfz]
 unfold Yt
 omega
theorem ZrV {x:Zr} {v:ByteArray} (h:v∈Yt x):Ye v=true:=(Zbo.1 (ZS.1 h)).2
structure Za6 (r:Zf):Prop where
 cl:r.cond.length≤1048576
 tl:r.thn.length≤1048576
 ca:∀x∈r.cond,x.pattern.args.length≤1048576
 ta:∀a∈r.thn,a.pattern.args.length≤1048576
def Ys (l:List Zr):List ByteArray:=l.flatMap fun x=>if x.kind=1 then YM x.pattern.args else []
def Yr (r:Zf) (n:Nat):List ByteArray:=ZQ (Ys (r.cond.take n))
theorem ZcJ (r:Zf) (n:Int) (h:Za6 r) (h4:r.cond.length≤4):Qu r n=some (Yr r n.toNat):=by
 unfold Qu Yr
 refine (Q6 (fun l i (row:List ByteArray)=>some (ZQ (row++Ys (l.take (n.toNat - i))))) (fun l i row=>r.cond.drop i=l∧row.length≤1048576 * i∧i≤r.cond.length) ?_ ?_ r.cond 0 [] ⟨yG,yG,yG⟩).trans yG
 ·rintro i row ⟨h1,h2,h3⟩
  rw [XG _ yE]
  simp [Ys]
 ·rintro x l i row ⟨h1,h2,h3⟩
  left
  have hi:r.cond[i]?=some x:=by have:=congrArg (fun l=>l[0]?) h1;simpa using this
  have hlt:i<r.cond.length:=(AH.1 hi).1
  have hr:r.cond.drop (i+1)=l:=by have:=congrArg AZ h1;simpa using this
  have hx:=h.ca x (AF hi)
  have hv:=Zcw x.pattern.args
  by_cases hn:((i:Nat):Int)<n
  ·have e:n.toNat - i=(n.toNat - (i+1))+1:=by omega
   by_cases hk:x.kind=1
   ·refine ⟨row++YM x.pattern.args,?_,⟨hr,by simp;omega,yE⟩,?_⟩
    ·simp only[hn,hk,decide_true,beq_self_eq_true,if_true]
     rw [Zdf _ yE,A0,Zi _ yE]
    ·rw [e];simp [Ys,hk]
   ·refine ⟨row,?_,⟨hr,yE,yE⟩,?_⟩
    ·simp [hn,hk]
    ·rw [e];simp [Ys,hk]
  ·have e:n.toNat - i=0:=by omega
   have e':n.toNat - (i+1)=0:=by omega
   refine ⟨row,?_,⟨hr,yE,yE⟩,?_⟩
   ·simp [hn]
   ·rw [e,e'];simp
theorem ZcP (r:Zf) (n:Int) (h:Za6 r) (h4:r.cond.length≤4):XT r n=some (Yr r n.toNat):=by
 unfold XT Yr
 refine (Q6 (fun l i (row:List ByteArray)=>some ((Ys (l.take (n.toNat - i))).foldl XW row)) (fun l i row=>r.cond.drop i=l∧row.length≤1048576 * i∧i≤r.cond.length∧Asc row) ?_ ?_ r.cond 0 [] ⟨yG,yG,yG,AC⟩).trans (by simp [ZQ])
 ·rintro i row ⟨h1,h2,h3,h5⟩
  simp [Ys]
 ·rintro x l i row ⟨h1,h2,h3,h5⟩
  have hi:r.cond[i]?=some x:=by have:=congrArg (fun l=>l[0]?) h1;simpa using this
  have hlt:i<r.cond.length:=(AH.1 hi).1
  have hr:r.cond.drop (i+1)=l:=by have:=congrArg AZ h1;simpa using this
  have hx:=h.ca x (AF hi)
  have hv:=Zcw x.pattern.args
  have hs:=Zdy (YM x.pattern.args)
  by_cases hn:((i:Nat):Int)<n
  ·left
   have e:n.toNat - i=(n.toNat - (i+1))+1:=by omega
   by_cases hk:x.kind=1
   ·obtain ⟨f1,f2,f3⟩:=XC (ZQ (YM x.pattern.args)) row h5
    refine ⟨(ZQ (YM x.pattern.args)).foldl XW row,?_,⟨hr,yE,yE,f1⟩,?_⟩
    ·simp only[hn,hk,decide_true,beq_self_eq_true,if_true]
     rw [ZbP _ yE,A0,Zkw (fun _ _ _=>rfl) yE]
    ·rw [e]
     simp only[Ys,List.take_succ_cons,AN,hk,if_true,Ad]
     congr 2
     obtain ⟨g1,g2,_⟩:=XC (YM x.pattern.args) row h5
     exact Znf g1 f1 fun y=>by rw [g2,f2,ZS]
   ·refine ⟨row,?_,⟨hr,yE,yE,h5⟩,?_⟩
    ·simp [hn,hk]
    ·rw [e];simp [Ys,hk]
  ·right
   have e:n.toNat - i=0:=by omega
   refine ⟨row,by simp [hn],by rw [e];simp [Ys]⟩
def Zkp (r:Zf) (i:Int) (v:ByteArray):Bool:=!(Zar (fun k x=>!(decide ((k:Int)≠i)&&Yj (Yt x) v)) r.cond 0&&r.thn.all fun a=>!Yj a.pattern.args v)
theorem ZfR {r:Zf} {i:Int} {v:ByteArray} {f:Zr→Option (List ByteArray)} {g:List ByteArray→ByteArray→Option Bool} (hf:∀x∈r.cond,f x=some (Yt x)) (hg:∀l,g l v=some (Yj l v)) {fin:Unit→Option Bool} (c:fin ()=some (!(r.thn.all fun a=>!Yj a.pattern.args v))):
  Zn (σ:=Unit) (fun (k:Nat) (x:Zr) _=>if (((k:Nat):Int) != i)=true then (f x).bind fun l=>(g l v).bind fun b=>if b=true then some (.inr true) else some (.inl ()) else some (.inl ())) fin r.cond 0 ()=some (Zkp r i v):=by
 rw [Xh (p:=fun k x=>!(decide ((k:Int)≠i)&&Yj (Yt x) v)) (r:=true)]
 ·unfold Zkp
  cases Zar (fun k x=>!(decide ((k:Int)≠i)&&Yj (Yt x) v)) r.cond 0 with
  | true=>simp only[if_true,c,A4]
  | false=>simp
 ·intro j x hj
  rw [hf x (AF hj),A0,hg,A0,AJ]
  by_cases h:(j:Int)=i
  ·simp [h]
  ·have:((j:Int) != i)=true:=by simpa using h
   simp only[this,if_true]
   cases Yj (Yt x) v<;>simp [h]
theorem Zfe (r:Zf) (i:Int) (v:ByteArray) (h:Za6 r):Xm r i v=some (Zkp r i v):=by
 unfold Xm
 refine ZfR (f:=X1) (g:=YV) (fun x mx=>ZbB x (by have:=h.ca x mx;omega)) (fun l=>QO l v) ?_
 rw [Zc7 (p:=fun a=>Yj a.pattern.args v) (r:=true)]
 ·simp only[←Am,Ap]
  cases r.thn.any fun a=>Yj a.pattern.args v<;>rfl
 ·intro j a _
  rw [QO]
  cases Yj a.pattern.args v<;>simp
theorem Zik (r:Zf) (i:Int) (v:ByteArray) (h:Za6 r) (hv:Ye v=true):Xu r i v=some (Zkp r i v):=by
 unfold Xu
 refine ZfR (f:=Xz) (g:=ZR) (fun x mx=>Zbz x (by have:=h.ca x mx;omega)) (fun l=>YF l v) ?_
 rw [Zc7 (p:=fun a=>Yj a.pattern.args v) (r:=true)]
 ·simp only[←Am,Ap]
  cases r.thn.any fun a=>Yj a.pattern.args v<;>rfl
 ·intro j a ma
  rw [ZbP _ (by have:=h.ta a ma;omega),A0,YF,A0]
  have:Yj (ZQ (YM a.pattern.args)) v=Yj a.pattern.args v:=by
   rw [A8,XD,XD,ZS,Zbo]
   simp [hv]
  rw [this]
  cases Yj a.pattern.args v<;>simp
def Zj5 (r:Zf) (i:Nat) (x:Zr) (v:ByteArray):Bool:=decide (x.kind=1)||Yj (Yr r i) v||(decide (x.kind=2)&&!Zkp r i v)
def ZfL (r:Zf) (i:Nat) (x:Zr):Bool:=(Yt x).all (Zj5 r i x)
theorem Zlp (r:Zf) (i:Nat) (x:Zr) (h:Za6 r) (h4:r.cond.length≤4) (hx:r.cond[i]?=some x):Zbs r i=some (ZfL r i x):=by
 unfold Zbs ZfL
 have ha:atI r.cond (i:Int)=some x:=by unfold atI;rw [if_pos yE,AA];exact hx
 rw [ha,A0,ZcJ r _ h h4,A0,ZbB x (by have:=h.ca x (AF hx);omega),A0,AA]
 rw [ZW (p:=Zj5 r i x) (r:=false)]
 ·cases (Yt x).all (Zj5 r i x)<;>rfl
 ·intro j v mv
  rw [QO,Zfe r _ v h]
  simp only[A0,Zj5,beq_iff_eq,bne_iff_ne,ne_eq]
  by_cases h1:x.kind=1
  ·simp [h1]
  ·simp only[h1,if_false,decide_false,AT]
   cases Yj (Yr r i) v with
   | true=>simp
   | false=>
    by_cases h2:x.kind=2
    ·simp only[h2,not_true_eq_false,if_false,A6,decide_true,A4,AT]
     cases Zkp r i v<;>simp
    ·simp [h2]
def XX (r:Zf):Bool:=
 Qc r.name&&decide (0≤r.priority)&&decide (r.priority≤9)&&decide (1≤r.cond.length)&&decide (r.cond.length≤4)&&decide (1≤r.thn.length)&&decide (r.thn.length≤2)
  && Zar (fun i x=>Yz x&&(decide (i≠0)||decide (x.kind=1))&&ZfL r i x) r.cond 0
  && r.thn.all (fun a=>Xa a&&(YM a.pattern.args).all (Yj (Yr r r.cond.length)))
  && decide ((ZQ (r.cond.flatMap Yt)).length≤6)
theorem Zjw (l:List Zr) (h:∀x∈l,x.pattern.args.length≤1048576) (h4:l.length≤4):Za4 l=some (l.flatMap Yt):=by
 unfold Za4
 rw [XE (f:=fun s x=>s++Yt x) (fun j s=>s.length≤1048578 * j) yG]
 ·congr 1
  have:∀(l:List Zr) (a:List ByteArray),l.foldl (fun s x=>s++Yt x) a=a++l.flatMap Yt:=by
   intro l
   induction l with
   | nil=>simp
   | cons x l ih=>intro a;rw [AS,ih];simp
  simpa using this l []
 ·intro j x s mx _ hl hI
  have:=h x mx
  have:=Zgv x
  rw [ZbB x yE,A0,Zi _ yE]
  exact ⟨rfl,by simp;omega⟩
theorem ZiV (r:Zf) (h:Za6 r):ZdT r=some (XX r):=by
 unfold ZdT XX
 rw [Zft,A0]
 cases Qc r.name with
 | false=>simp
 | true=>
 simp only[if_true,decide_eq_true_eq,A4]
 split
 ·rw [decide_eq_false (show ¬0≤r.priority by omega)];simp
 split
 ·rw [decide_eq_false (show ¬r.priority≤9 by omega)];simp
 split
 ·rw [decide_eq_false (show ¬1≤r.cond.length by omega)];simp
 split
 ·rw [decide_eq_false (show ¬r.cond.length≤4 by omega)];simp
 split
 ·rw [decide_eq_false (show ¬1≤r.thn.length by omega)];simp
 split
 ·rw [decide_eq_false (show ¬r.thn.length≤2 by omega)];simp
 rw [decide_eq_true (show 0≤r.priority by omega),decide_eq_true (show r.priority≤9 by omega),decide_eq_true (show 1≤r.cond.length by omega),decide_eq_true (show r.cond.length≤4 by omega),decide_eq_true (show 1≤r.thn.length by omega),decide_eq_true (show r.thn.length≤2 by omega)]
 simp only[A4]
 have h4:r.cond.length≤4:=by omega
 rw [Xh (p:=fun i x=>Yz x&&(decide (i≠0)||decide (x.kind=1))&&ZfL r i x) (r:=false)]
 ·cases Zar (fun i x=>Yz x&&(decide (i≠0)||decide (x.kind=1))&&ZfL r i x) r.cond 0 with
  | false=>simp
  | true=>
   simp only[if_true,A4]
   rw [ZcJ r _ h h4,A0,AA,ZW (p:=fun a=>Xa a&&(YM a.pattern.args).all (Yj (Yr r r.cond.length))) (r:=false)]
   ·cases r.thn.all fun a=>Xa a&&(YM a.pattern.args).all (Yj (Yr r r.cond.length)) with
    | false=>simp
    | true=>
     have hl:(r.cond.flatMap Yt).length≤1048578 * r.cond.length:=by
      have:∀l:List Zr,(∀x∈l,x.pattern.args.length≤1048576)→(l.flatMap Yt).length≤1048578 * l.length:=by
       intro l
       induction l with
       | nil=>simp
       | cons x l ih=>
        intro hl
        have h1:=ih fun y my=>hl y (by simp [my])
        have h2:=hl x (by simp)
        have h3:=Zgv x
        simp only[AN,AO,A9]
        omega
      exact this r.cond h.ca
     simp only[if_true,A4]
     rw [Zjw _ h.ca h4,A0,XG _ (by omega),A0]
     congr 1
     rw [A8]
     simp only[decide_eq_true_eq]
     omega
   ·intro j a ma
    rw [ZlK,A0]
    cases Xa a with
    | false=>simp
    | true=>
     simp only[if_true,A4]
     rw [Zdf _ (by have:=h.ta a ma;omega),A0,ZW (p:=Yj (Yr r r.cond.length)) (r:=.inr false)]
     ·cases (YM a.pattern.args).all (Yj (Yr r r.cond.length))<;>rfl
     ·intro k v _
      rw [QO,A0]
      cases Yj (Yr r r.cond.length) v<;>simp
 ·intro j x hj
  rw [AJ,Zfn,A0,Zlp r j x h h4 hj]
  simp only[A0]
  cases Yz x with
  | false=>simp
  | true=>
   by_cases h0:j=0
   ·subst h0
    by_cases hk:x.kind=1
    ·simp only[hk];cases ZfL r 0 x<;>simp
    ·simp [hk]
   ·have:((j:Int)==0)=false:=by rw [beq_eq_false_iff_ne];omega
    simp only[this]
    cases ZfL r j x<;>simp [h0]
theorem ZeB {α:Type} (f:α→List ByteArray):∀(l:List α) (a:List ByteArray),Asc a→l.foldl (fun s x=>(f x).foldl XW s) a=(l.flatMap f).foldl XW a
 | [],_,_=>rfl
 | x::l,a,h=>by rw [AS,ZeB f l _ (XC (f x) a h).1,AN,Ad]
def ZkC (r:Zf):List ByteArray:=ZQ (r.cond.flatMap Yt++r.thn.flatMap fun a=>YM a.pattern.args)
theorem ZlU (r:Zf) (h:Za6 r) (h4:r.cond.length≤4) (h2:r.thn.length≤2):ZcH r=some (ZkC r):=by
 unfold ZcH ZkC
 rw [XE (f:=fun s x=>(Yt x).foldl XW s) (fun j s=>s.length≤1048578 * j∧Asc s) ⟨yG,AC⟩]
 ·have hA:=ZeB Yt r.cond [] AC
  have hB:Asc (r.cond.foldl (fun s x=>(Yt x).foldl XW s) []):=by rw [hA];exact (XC _ [] AC).1
  have hl:(r.cond.foldl (fun s x=>(Yt x).foldl XW s) []).length≤1048578 * 4:=by
   rw [hA]
   have:=(XC (r.cond.flatMap Yt) [] AC).2.2
   have h3:(r.cond.flatMap Yt).length≤1048578 * r.cond.length:=by
    have:∀l:List Zr,(∀x∈l,x.pattern.args.length≤1048576)→(l.flatMap Yt).length≤1048578 * l.length:=by
     intro l
     induction l with
     | nil=>simp
     | cons x l ih=>
      intro hl
      have h1:=ih fun y my=>hl y (by simp [my])
      have h2:=hl x yG
      have h3:=Zgv x
      simp only[AN,AO,A9]
      omega
    exact this r.cond h.ca
   simp only[AR,Nat.add_zero] at this
   omega
  rw [XE (f:=fun s a=>(ZQ (YM a.pattern.args)).foldl XW s) (fun j s=>s.length≤1048578 * 4+1048576 * j∧Asc s) ⟨yE,hB⟩]
  ·congr 1
   rw [ZeB (fun a:Zx=>ZQ (YM a.pattern.args)) r.thn _ hB,hA]
   refine Zez (XC _ _ (XC _ [] AC).1).1 fun y=>?_
   rw [(XC _ _ (XC _ [] AC).1).2.1 y,(XC _ [] AC).2.1 y]
   simp only[AM,AU,ZS,Al,or_false]
   exact Or.comm
  ·intro j a s ma _ hj hI
   have h5:=h.ta a ma
   have h6:=Zcw a.pattern.args
   have h7:=Zdy (YM a.pattern.args)
   obtain ⟨f1,f2,f3⟩:=XC (ZQ (YM a.pattern.args)) s hI.2
   rw [ZbP _ yE,A0,Zkw (fun _ _ _=>rfl) yE]
   exact ⟨rfl,yE,f1⟩
 ·intro j x s mx _ hj hI
  have h5:=h.ca x mx
  have h6:=Zgv x
  obtain ⟨f1,f2,f3⟩:=XC (Yt x) s hI.2
  rw [Zbz _ yE,A0,Zkw (fun _ _ _=>rfl) yE]
  exact ⟨rfl,yE,f1⟩
theorem ZoX {l:List Zr} {y:ByteArray} (h:y∈Ys l):y∈l.flatMap Yt:=by
 simp only[Ys,AU] at h ⊢
 obtain ⟨x,hx,hy⟩:=h
 refine ⟨x,hx,?_⟩
 split at hy
 ·rw [Yt,ZS,Zbo]
  rw [Zbo] at hy
  exact ⟨by simp [Zfz,hy.1],hy.2⟩
 ·simp at hy
theorem Zfr (r:Zf) (h:Za6 r):ZbX r=some (XX r):=by
 unfold ZbX XX
 rw [ZfH,A0]
 cases Qc r.name with
 | false=>simp
 | true=>
 simp only[if_true,Zgf,A0,A4,A5,decide_eq_true_eq]
 split
 rotate_left
 ·rename_i hh
  have:(decide (0≤r.priority)&&decide (r.priority≤9))=false:=by simp;omega
  rw [this];simp
 rename_i hp
 rw [decide_eq_true hp.1,decide_eq_true hp.2]
 split
 rotate_left
 ·rename_i hh
  have:(decide (1≤r.cond.length)&&decide (r.cond.length≤4))=false:=by simp;omega
  simp only[A4,this,Ae]
 rename_i hc
 rw [decide_eq_true (show 1≤r.cond.length by omega),decide_eq_true (show r.cond.length≤4 by omega)]
 split
 rotate_left
 ·rename_i hh
  have:(decide (1≤r.thn.length)&&decide (r.thn.length≤2))=false:=by simp;omega
  simp only[A4,this,Ae]
 rename_i ht
 rw [decide_eq_true (show 1≤r.thn.length by omega),decide_eq_true (show r.thn.length≤2 by omega)]
 simp only[A4]
 have h4:r.cond.length≤4:=by omega
 rw [ZcP r _ h h4,A0,AA]
 rw [Xh (p:=fun i x=>Yz x&&(decide (i≠0)||decide (x.kind=1))&&ZfL r i x) (r:=false)]
 ·cases Zar (fun i x=>Yz x&&(decide (i≠0)||decide (x.kind=1))&&ZfL r i x) r.cond 0 with
  | false=>simp
  | true=>
   simp only[if_true,A4]
   rw [ZW (p:=fun a=>Xa a&&(YM a.pattern.args).all (Yj (Yr r r.cond.length))) (r:=false)]
   ·cases ha:r.thn.all fun a=>Xa a&&(YM a.pattern.args).all (Yj (Yr r r.cond.length)) with
    | false=>simp
    | true=>
     simp only[if_true,A4]
     rw [ZlU r h h4 (by omega),A0]
     have e:ZkC r=ZQ (r.cond.flatMap Yt):=Zlx fun y=>by
      simp only[AM]
      refine ⟨fun hy=>?_,.inl⟩
      rcases hy with hy | hy
      ·exact hy
      ·obtain ⟨a,ma,hy⟩:=AU.1 hy
       have:=AL.1 ha a ma
       simp only[A5] at this
       have:=AL.1 this.2 y hy
       rw [XD,Yr,ZS,List.take_length] at this
       exact ZoX this
     rw [e]
     congr 1
     rw [A8]
     simp only[decide_eq_true_eq]
     omega
   ·intro j a ma
    rw [ZlD,A0]
    cases Xa a with
    | false=>simp
    | true=>
     simp only[if_true,A4]
     rw [ZbP _ (by have:=h.ta a ma;omega),A0,ZW (p:=Yj (Yr r r.cond.length)) (r:=.inr false)]
     ·have:(ZQ (YM a.pattern.args)).all (Yj (Yr r r.cond.length))=(YM a.pattern.args).all (Yj (Yr r r.cond.length)):=by
       rw [A8,AL,AL]
       simp only[ZS]
      rw [this]
      cases (YM a.pattern.args).all (Yj (Yr r r.cond.length))<;>rfl
     ·intro k v _
      rw [YF,A0]
      cases Yj (Yr r r.cond.length) v<;>simp
 ·intro j x hj
  have hxa:=h.ca x (AF hj)
  rw [AJ,ZbT,A0,ZcP r _ h h4,Zbz x (by omega),AA]
  simp only[A0]
  cases hic:Yz x with
  | false=>simp
  | true=>
   have loop:∀{fin:Unit→Option (Unit ⊕ Bool)} (hfin:fin ()=some (.inl ())),Zn (σ:=Unit) (ρ:=Unit ⊕ Bool) (fun (_:Nat) (v:ByteArray) _=>(ZR (Yr r j) v).bind fun b=>(ZaT x).bind fun t=>if t=true then (if b=true then (if (x.kind==2)=true then some (.inl ()) else some (.inl ())) else some (.inr (.inr false))) else (if (x.kind==2)=true then (if b=true then some (.inl ()) else (Xu r ((j:Nat):Int) v).bind fun e=>if e=true then some (.inr (.inr false)) else some (.inl ())) else some (.inl ()))) fin (Yt x) 0 ()=some (bif ZfL r j x then .inl () else .inr false):=fun {fin} hfin=>by
    rw [ZW (p:=Zj5 r j x) (r:=.inr false)]
    ·unfold ZfL
     cases (Yt x).all (Zj5 r j x)<;>simp [hfin]
    ·intro k v mv
     rw [YF,ZoE,Zik r _ v h (ZrV mv),hic]
     simp only[A0,A4,decide_eq_true_eq,beq_iff_eq,Zj5]
     rcases Znz hic with hk | hk | hk | hk | hk<;>rw [hk]<;>cases Yj (Yr r j) v<;>cases Zkp r j v<;>simp
   by_cases h0:j=0
   ·subst h0
    by_cases hk:x.kind=1
    ·have hk':(x.kind != 1)=false:=by simp [hk]
     simp only[if_true,hk',show (((0:Nat):Int)==0)=true from rfl,A6,if_false]
     rw [loop rfl]
     simp [hk]
    ·have hk':(x.kind != 1)=true:=by simpa using hk
     simp [hk',hk]
   ·have:((j:Int)==0)=false:=by rw [beq_eq_false_iff_ne];omega
    simp only[if_true,this,A6,if_false]
    rw [loop rfl]
    simp [h0]
theorem ZhB {v:ByteArray} (h:Ye v=true):ZP v=false:=by
 cases ha:ZP v with
 | false=>rfl
 | true=>
  have h1:=ZhU ha
  rw [QQ] at h1
  unfold Ye at h
  simp only[A5,decide_eq_true_iff] at h
  omega
def Qe:List Zp→ByteArray→Option ByteArray
 | [],_=>none
 | x::b,v=>if x.var=v then some x.value else Qe b v
def Xx (b:List Zp) (t:ByteArray):Option ByteArray:=if ZP t=true then some t else if Ye t=true then Qe b t else none
theorem ZgZ {b:List Zp} {v:ByteArray} (h:Ye v=true):Xx b v=Qe b v:=by
 unfold Xx
 rw [if_neg (by rw [ZhB h];simp),if_pos h]
def ZeA (x:Zp):Bool:=Ye x.var&&ZP x.value
def Zg3:Option ByteArray→ByteArray→Bool
 | none,_=>true
 | some p,v=>sLt p v
def Yv:Option ByteArray→List Zp→Bool
 | _,[]=>true
 | prev,x::r=>ZeA x&&Zg3 prev x.var&&Yv (some x.var) r
def ZX (b:List Zp):Bool:=decide (b.length≤6)&&Yv none b
theorem Zr3 {a:Option ByteArray} {b:List Zp} (h:Yv a b=true):∀x∈b,ZeA x=true∧∀p,a=some p→sLt p x.var=true:=by
 induction b generalizing a with
 | nil=>simp
 | cons y r ih=>
  simp only[Yv,A5] at h
  obtain ⟨⟨h1,h2⟩,h3⟩:=h
  intro x mx
  rcases A7.1 mx with rfl | mx
  ·exact ⟨h1,fun p hp=>by subst hp;exact h2⟩
  ·obtain ⟨k1,k2⟩:=ih h3 x mx
   exact ⟨k1,fun p hp=>by subst hp;exact ZdU h2 (k2 _ rfl)⟩
theorem ZrD {b:List Zp} {v:ByteArray} (h:Qe b v=none):∀x∈b,¬x.var=v:=by
 induction b with
 | nil=>simp
 | cons y r ih=>
  simp only[Qe] at h
  split at h
  ·simp at h
  ·rename_i hy
   intro x mx
   rcases A7.1 mx with rfl | mx
   ·exact hy
   ·exact ih h x mx
theorem Zsh {b:List Zp} {v w:ByteArray} (h:Qe b v=some w):∃x∈b,x.var=v∧x.value=w:=by
 induction b with
 | nil=>simp [Qe] at h
 | cons y r ih=>
  simp only[Qe] at h
  split at h
  ·rename_i hy
   exact ⟨y,yG,hy,AE h⟩
  ·obtain ⟨x,mx,h1⟩:=ih h
   exact ⟨x,by simp [mx],h1⟩
def ZeG:List Zp→ByteArray→ByteArray→List Zp
 | [],v,w=>[⟨v,w⟩]
 | x::b,v,w=>if sLt v x.var=true then ⟨v,w⟩::x::b else x::ZeG b v w
theorem ZoB (v w:ByteArray):∀b:List Zp,(ZeG b v w).length=b.length+1
 | []=>rfl
 | x::b=>by
  simp only[ZeG]
  split
  ·rfl
  ·rw [A9,ZoB v w b];rfl
theorem Zip {v w u:ByteArray}:∀{b:List Zp},Qe b v=none→Qe (ZeG b v w) u=if v=u then some w else Qe b u
 | [],_=>by simp [ZeG,Qe]
 | x::b,h=>by
  simp only[Qe] at h
  split at h
  ·simp at h
  ·rename_i hx
   simp only[ZeG]
   split
   ·simp [Qe]
   ·simp only[Qe]
    rw [Zip h]
    by_cases hu:x.var=u
    ·rw [if_pos hu,if_pos hu,if_neg (fun e=>hx (hu.trans e.symm))]
    ·rw [if_neg hu,if_neg hu]
theorem Zmk {v w:ByteArray} (hv:Ye v=true) (hw:ZP w=true):∀{b:List Zp} {a:Option ByteArray},Yv a b=true→Qe b v=none→(∀p,a=some p→sLt p v=true)→Yv a (ZeG b v w)=true
 | [],a,_,_,hp=>by
  simp only[ZeG,Yv,ZeA,hv,hw,Bool.and_self,A4,Af]
  cases a with
  | none=>rfl
  | some p=>exact hp p rfl
 | x::b,a,h,hg,hp=>by
  have hx:=ZrD hg x yG
  simp only[Qe,hx,if_false] at hg
  simp only[Yv,A5] at h
  obtain ⟨⟨h1,h2⟩,h3⟩:=h
  simp only[ZeG]
  by_cases c:sLt v x.var=true
  ·rw [if_pos c]
   have h4:Zg3 a v=true:=by
    cases a with
    | none=>rfl
    | some p=>exact hp p rfl
   simp only[Yv,A5]
   exact ⟨⟨by simp [ZeA,hv,hw],h4⟩,⟨⟨h1,c⟩,h3⟩⟩
  ·rw [if_neg c]
   simp only[Yv,A5]
   refine ⟨⟨h1,h2⟩,Zmk hv hw h3 hg fun p d=>?_⟩
   obtain rfl:=AE d
   exact Zd2 (by simpa using c) (fun e=>hx e.symm)
def ZfJ (b:List Zp) (v w:ByteArray):Option (List Zp):=
 if ZX b=true∧Ye v=true∧ZP w=true then
  (match Qe b v with
  | some old=>if old=w then some b else none
  | none=>if b.length=6 then none else some (ZeG b v w))
 else none
theorem Zrs {b b':List Zp} {v w:ByteArray} (h:ZfJ b v w=some b'):ZX b'=true∧Qe b' v=some w∧∀u z,Qe b u=some z→Qe b' u=some z:=by
 unfold ZfJ at h
 split at h
 ·rename_i hc
  obtain ⟨h1,h2,h3⟩:=hc
  cases hg:Qe b v with
  | some old=>
   rw [hg] at h
   simp only at h
   split at h
   ·rename_i he
    obtain rfl:=AE h
    exact ⟨h1,by rw [hg,he],fun u z hu=>hu⟩
   ·simp at h
  | none=>
   rw [hg] at h
   simp only at h
   split at h
   ·simp at h
   ·rename_i hl
    obtain rfl:=AE h
    unfold ZX at h1 ⊢
    rw [A5,decide_eq_true_iff] at h1
    refine ⟨?_,by rw [Zip hg,if_pos rfl],fun u z hu=>?_⟩
    ·rw [A5,decide_eq_true_iff,ZoB]
     exact ⟨yE,Zmk h2 h3 h1.2 hg yG⟩
    ·rw [Zip hg,if_neg (fun e=>by rw [←e,hg] at hu;simp at hu)];exact hu
 ·simp at h
def ZdI:List ByteArray→List ByteArray→List Zp→Option (List Zp)
 | [],_,b=>some b
 | _::_,[],_=>none
 | a::p,w::f,b=>if ZP a=true then (if a=w then ZdI p f b else none) else (ZfJ b a w).bind (ZdI p f)
theorem ZiA:∀{p f:List ByteArray} {b b':List Zp},ZX b=true→ZdI p f b=some b'→ZX b'=true∧(∀a∈p,Ye a=true→∃z,Qe b' a=some z)∧∀u z,Qe b u=some z→Qe b' u=some z
 | [],_,b,b',hb,h=>by
  simp only[ZdI,Option.some.injEq] at h
  subst h
  exact ⟨hb,yG,fun u z h=>h⟩
 | _::_,[],_,_,_,h=>by simp [ZdI] at h
 | a::p,w::f,b,b',hb,h=>by
  simp only[ZdI] at h
  by_cases ha:ZP a=true
  ·rw [if_pos ha] at h
   split at h
   ·obtain ⟨h1,h2,h3⟩:=ZiA hb h
    refine ⟨h1,fun x mx hx=>?_,h3⟩
    rcases A7.1 mx with rfl | mx
    ·rw [ZhB hx] at ha;simp at ha
    ·exact h2 x mx hx
   ·simp at h
  ·rw [if_neg ha] at h
   obtain ⟨b1,e1,h⟩:=Option.bind_eq_some_iff.1 h
   obtain ⟨k1,k2,k3⟩:=Zrs e1
   obtain ⟨h1,h2,h3⟩:=ZiA k1 h
   refine ⟨h1,fun x mx hx=>?_,fun u z hu=>h3 u z (k3 u z hu)⟩
   rcases A7.1 mx with rfl | mx
   ·exact ⟨w,h3 _ _ k2⟩
   ·exact h2 x mx hx
def Zfh (p:Zv) (f:Zd) (b:List Zp):Bool:=Z0 p&&YH f&&ZX b&&decide (p.rel=f.rel)&&decide (p.args.length=f.args.length)
def Zan (p:Zv) (f:Zd) (b:List Zp):Option (List Zp):=if Zfh p f b=true then ZdI p.args f.args b else none
theorem Zr5 {p:Zv} {f:Zd} {b b':List Zp} (h:Zan p f b=some b'):ZX b'=true∧(∀a∈p.args,Ye a=true→∃z,Qe b' a=some z)∧∀u z,Qe b u=some z→Qe b' u=some z:=by
 unfold Zan at h
 split at h
 ·rename_i hc
  unfold Zfh at hc
  simp only[A5] at hc
  exact ZiA hc.1.1.2 h
 ·simp at h
def Zd0:List ByteArray→List Zp→Option (List ByteArray)
 | [],_=>some []
 | a::p,b=>(Xx b a).bind fun v=>(Zd0 p b).map fun l=>v::l
theorem ZkQ {b:List Zp}:∀{p:List ByteArray},p.all Yi=true→(∀a∈p,Ye a=true→∃z,Qe b a=some z)→∃l,Zd0 p b=some l∧l.length=p.length
 | [],_,_=>⟨[],rfl,rfl⟩
 | a::p,h,hv=>by
  simp only[List.all_cons,A5] at h
  obtain ⟨l,e,hl⟩:=ZkQ h.2 fun x mx=>hv x (by simp [mx])
  have:∃v,Xx b a=some v:=by
   have ht:=h.1
   unfold Yi at ht
   rw [AP] at ht
   rcases ht with ht | ht
   ·exact ⟨a,by unfold Xx;rw [if_pos ht]⟩
   ·obtain ⟨z,hz⟩:=hv a yG ht
    exact ⟨z,by rw [ZgZ ht];exact hz⟩
  obtain ⟨v,hv⟩:=this
  exact ⟨v::l,by simp only[Zd0,hv,e,A0,Ak],by simp [hl]⟩
def Zba (p:Zv) (b:List Zp):Option Zd:=if Z0 p=true∧ZX b=true then (Zd0 p.args b).map fun l=>{ rel:=p.rel,args:=l } else none
def Zcu (p:Zv) (b:List Zp) (F:List Zd):List Zd:=F.filter fun f=>(Zan p f b).isSome
def Ztl (l r:ByteArray):Bool:=match Qg l,Qg r with | some m,some n=>decide (m<n) | _,_=>false
def Zoa (k:Int) (l r:ByteArray):Bool:=if k=3 then decide (l=r) else if k=4 then !decide (l=r) else Ztl l r
def Zj0 (x:Zr) (b:List Zp):Bool:=
 if Yz x=true∧3≤x.kind∧ZX b=true then (match Xx b x.left,Xx b x.right with | some l,some r=>Zoa x.kind l r | _,_=>false) else false
def ZfV (x:Zr) (b:List Zp) (F:List Zd):Bool:=
 if Yz x=true∧ZX b=true then
  (if x.kind=1 then decide (0<(Zcu x.pattern b F).length) else if x.kind=2 then decide ((Zcu x.pattern b F).length=0) else Zj0 x b)
 else false
def ZgR (x:Zr) (F:List Zd) (t:Zt):List Zt:=
 if x.kind=1 then F.filterMap fun f=>(Zan x.pattern f t.binding).map fun b=>{ facts:=t.facts++[f],binding:=b }
 else if ZfV x t.binding F=true then [t] else []
def ZfX (x:Zr) (F:List Zd) (l:List Zt):List Zt:=l.flatMap (ZgR x F)
def Zt3:Zt:={ facts:=[],binding:=[] }
def ZM (l:List Zr) (F:List Zd):List Zt:=l.foldl (fun ts x=>ZfX x F ts) [Zt3]
theorem ZaR (p:List Zr) (x:Zr) (F:List Zd):ZM (p++[x]) F=ZfX x F (ZM p F):=by
 unfold ZM
 rw [Ad]
 rfl
structure Zkk (p:List Zr) (F:List Zd) (t:Zt):Prop where
 bind:ZX t.binding=true
 len:t.facts.length≤p.length
 sub:∀f∈t.facts,f∈F
 vars:∀v∈Ys p,∃z,Qe t.binding v=some z
theorem ZuD {p:List Zr} {x:Zr} {F:List Zd} {t u:Zt} (h:Zkk p F t) (hu:u∈ZgR x F t):Zkk (p++[x]) F u:=by
 unfold ZgR at hu
 have hv:Ys (p++[x])=Ys p++(if x.kind=1 then YM x.pattern.args else []):=by simp [Ys]
 by_cases hk:x.kind=1
 ·rw [if_pos hk] at hu
  obtain ⟨f,mf,e⟩:=List.mem_filterMap.1 hu
  obtain ⟨b,e2,rfl⟩:=Option.map_eq_some_iff.1 e
  obtain ⟨h1,h2,h3⟩:=Zr5 e2
  refine ⟨h1,by have:=h.len;simp;omega,fun g mg=>?_,fun v mv=>?_⟩
  ·rcases AM.1 mg with mg | mg
   ·exact h.sub g mg
   ·simp at mg;subst mg;exact mf
  ·rw [hv,if_pos hk] at mv
   rcases AM.1 mv with mv | mv
   ·obtain ⟨z,hz⟩:=h.vars v mv
    exact ⟨z,h3 v z hz⟩
   ·obtain ⟨m1,m2⟩:=Zbo.1 mv
    exact h2 v m1 m2
 ·rw [if_neg hk] at hu
  split at hu
  ·simp at hu
   subst hu
   refine ⟨h.bind,by have:=h.len;simp;omega,h.sub,fun v mv=>?_⟩
   rw [hv,if_neg hk,Ag] at mv
   exact h.vars v mv
  ·simp at hu
theorem ZvL (F:List Zd):Zkk [] F Zt3:=⟨rfl,AQ _,by simp [Zt3],by simp [Ys]⟩
theorem Zec (F:List Zd) (l:List Zr):∀t∈ZM l F,Zkk l F t:=by
 have:∀n (l:List Zr),l.length=n→∀t∈ZM l F,Zkk l F t:=by
  intro n
  induction n with
  | zero=>
   intro l h
   rw [List.eq_nil_of_length_eq_zero h]
   intro t mt
   simp [ZM] at mt
   subst mt
   exact ZvL F
  | succ n ih=>
   intro l h
   obtain ⟨p,x,rfl⟩:∃p x,l=p++[x]:=⟨l.dropLast,l.getLast (by intro e;simp [e] at h),(List.dropLast_concat_getLast _).symm⟩
   intro t mt
   rw [ZaR] at mt
   obtain ⟨s,ms,mt⟩:=AU.1 mt
   exact ZuD (ih p (by simpa using h) s ms) mt
 exact this _ l rfl
theorem ZkV (x:Zr) (F:List Zd) (hF:F.length≤24):∀l:List Zt,(ZfX x F l).length≤24 * l.length
 | []=>AQ _
 | t::l=>by
  have ih:=ZkV x F hF l
  have h1:(ZgR x F t).length≤24:=by
   unfold ZgR
   split
   ·exact AI (List.length_filterMap_le _ _) hF
   ·split<;>simp
  unfold ZfX at *
  rw [AN,AO,A9]
  omega
theorem ZeI (F:List Zd) (hF:F.length≤24) (l:List Zr) (hl:l.length≤4):(ZM l F).length≤331776:=by
 have key:∀(l:List Zr) (ts:List Zt),(l.foldl (fun ts x=>ZfX x F ts) ts).length≤24 ^ l.length * ts.length:=by
  intro l
  induction l with
  | nil=>intro ts;simp
  | cons x l ih=>
   intro ts
   rw [AS,A9,Nat.pow_succ]
   have h1:=ih (ZfX x F ts)
   have h2:=ZkV x F hF ts
   refine AI h1 (AI (Nat.mul_le_mul_left _ h2) ?_)
   rw [←Aj]
   exact AQ _
 have h1:=key l [Zt3]
 have h2:24 ^ l.length≤24 ^ 4:=Aa yE hl
 unfold ZM
 simp only[List.length_singleton,Nat.mul_one] at h1
 omega
def ZeX (b:List Zp) (i:Nat):Option ByteArray:=if i=0 then none else (b[i - 1]?).map (·.var)
theorem Zim {b:List Zp} {body:Nat→Zp→Unit→Option (Unit ⊕ Bool)} {fin:Unit→Option Bool} (hb:∀i x,b[i]?=some x→body i x ()=if (ZeA x&&Zg3 (ZeX b i) x.var)=true then some (.inl ()) else some (.inr false)):
  ∀(l:List Zp) (i:Nat),b.drop i=l→Zn body fin l i ()=if Yv (ZeX b i) l=true then fin () else some false
 | [],i,_=>by simp [Zn,Yv]
 | x::l,i,h=>by
  have hx:b[i]?=some x:=by rw [←List.head?_drop,h];rfl
  have hd:b.drop (i+1)=l:=by rw [←List.tail_drop,h];rfl
  have hp:ZeX b (i+1)=some x.var:=by unfold ZeX;rw [if_neg yE,Nat.add_sub_cancel,hx];rfl
  by_cases hc:(ZeA x&&Zg3 (ZeX b i) x.var)=true
  ·rw [ZV (by rw [hb i x hx,if_pos hc]),Zim hb l (i+1) hd,hp]
   simp only[Yv,hc,A4]
  ·rw [Ya (by rw [hb i x hx,if_neg hc])]
   simp only[Yv,eq_false_of_ne_true hc,Ae,A6,if_false]
theorem ZmC {b:List Zp} (hl:b.length≤1048576) {i:Nat} {x:Zp} (hx:b[i]?=some x):
  (if Ye x.var=true then (if ZP x.value=true then (if (decide (0<((i:Nat):Int)))=true then (atI b (IntKind.i64.wrap (((i:Nat):Int) - 1))).bind fun a=>if (sLt a.var x.var)=true then some (.inl ()) else some (.inr false) else some (.inl ())) else some (.inr false)) else some (.inr false):Option (Unit ⊕ Bool))
   = if (ZeA x&&Zg3 (ZeX b i) x.var)=true then some (.inl ()) else some (.inr false):=by
 have hi:=(AH.1 hx).1
 unfold ZeA
 cases Ye x.var with
 | false=>simp
 | true=>
  cases ZP x.value with
  | false=>simp
  | true=>
   rw [if_pos rfl,if_pos rfl]
   by_cases h0:i=0
   ·subst h0
    rw [if_neg yG]
    simp [ZeX,Zg3]
   ·have hp:ZeX b i=some (b[i - 1]).var:=by unfold ZeX;rw [if_neg h0,AK yE];rfl
    rw [if_pos (by simp;omega),show ((i:Nat):Int) - 1=((i - 1:Nat):Int) by omega,Zdu yE yE,Zby,AK yE,A0,hp]
    simp [Zg3]
theorem Qo (b:List Zp):Xq b=some (ZX b):=by
 unfold Xq ZX
 by_cases h6:b.length≤6
 ·rw [if_neg (by simp;omega),Zim (b:=b) (fun i x hx=>by
   rw [ZcI,A0,XP]
   exact ZmC yE hx) b 0 rfl,decide_eq_true h6]
  show (if Yv none b=true then some true else some false)=_
  cases Yv none b<;>rfl
 ·rw [if_pos (by simp;omega),decide_eq_false h6]
  rfl
theorem QH (b:List Zp) (hl:b.length≤1048576):Xt b=some (ZX b):=by
 unfold Xt ZX
 rw [Zim (b:=b) (fun i x hx=>by
   rw [Qt,A0,XQ]
   exact ZmC hl hx) b 0 rfl]
 show (if Yv none b=true then some (decide (((b.length:Nat):Int)≤6)) else some false)=_
 have:decide (((b.length:Nat):Int)≤6)=decide (b.length≤6):=by rw [A8];simp;omega
 rw [this]
 cases Yv none b<;>simp
def Zvw (b:List Zp) (t:ByteArray):ByteArray × Bool:=match Xx b t with | some v=>(v,true) | none=>(⟨#[]⟩,false)
def Ztq:Option ByteArray→ByteArray × Bool
 | some v=>(v,true)
 | none=>(⟨#[]⟩,false)
theorem ZbH (b:List Zp) (t:ByteArray):Zvw b t=Ztq (Xx b t):=by unfold Zvw Ztq;cases Xx b t<;>rfl
theorem Zk8 {t:ByteArray} {body:Nat→Zp→Unit→Option (Unit ⊕ (ByteArray × Bool))} (hb:∀i x,body i x ()=if x.var=t then some (.inr (x.value,true)) else some (.inl ())):
  ∀(b:List Zp) (i:Nat),Zn body (fun _=>some ((⟨#[]⟩),false)) b i ()=some (Ztq (Qe b t))
 | [],_=>rfl
 | x::b,i=>by
  by_cases hx:x.var=t
  ·rw [Ya (by rw [hb,if_pos hx])]
   simp [Qe,hx,Ztq]
  ·rw [ZV (by rw [hb,if_neg hx]),Zk8 hb b (i+1)]
   simp [Qe,hx]
theorem Zcm (b:List Zp) (t:ByteArray):ZaC b t=some (Zvw b t):=by
 unfold ZaC
 rw [ZbH,XP,A0]
 unfold Xx
 by_cases ha:ZP t=true
 ·rw [if_pos ha,if_pos ha];rfl
 ·rw [if_neg ha,if_neg ha,ZcI,A0]
  by_cases hv:Ye t=true
  ·rw [if_pos hv,if_pos hv,Zk8]
   intro i x
   by_cases hx:x.var=t
   ·rw [if_pos (ZN.2 hx),if_pos hx]
   ·rw [if_neg (by rw [ZN];exact hx),if_neg hx]
  ·rw [if_neg hv,if_neg hv];rfl
theorem Zcj (b:List Zp) (t:ByteArray):ZaI b t=some (Zvw b t):=by
 unfold ZaI
 rw [ZbH,XQ,A0]
 unfold Xx
 by_cases ha:ZP t=true
 ·rw [if_pos ha,if_pos ha];rfl
 ·rw [if_neg ha,if_neg ha]
  by_cases hv:Ye t=true
  ·rw [if_pos hv,Zk8]
   intro i x
   by_cases hx:x.var=t
   ·rw [if_pos (ZN.2 hx),if_pos hx,Qt,A0,if_pos hv]
   ·rw [if_neg (by rw [ZN];exact hx),if_neg hx]
  ·rw [if_neg hv,ZW (p:=fun _=>true) (r:=((⟨#[]⟩:ByteArray),false))]
   ·simp [Ztq]
   ·intro i x _
    rw [Qt,A0,if_neg hv]
    split<;>rfl
theorem ZpH {a v:ByteArray}:((sLt a v||sEq a v)=true)↔¬sLt v a=true:=by
 rw [AP,ZN]
 constructor
 ·rintro (h | h)
  ·rw [ZiN h];simp
  ·rw [h,Zhi];simp
 ·intro h
  by_cases e:a=v
  ·exact .inr e
  ·exact .inl (Zd2 (by simpa using h) (fun e2=>e e2.symm))
theorem Zpf {ρ:Type} {v w:ByteArray} {K:List Zp→Option ρ} {body:Nat→Zp→(List Zp × Bool)→Option ((List Zp × Bool) ⊕ ρ)} {fin:(List Zp × Bool)→Option ρ}
  (h1:∀i x row,row.length≤1000→body i x (row,true)=some (.inl (row++[x],true)))
  (h2:∀i x row,row.length≤1000→body i x (row,false)=if (sLt x.var v||sEq x.var v)=true then some (.inl (row++[x],false)) else some (.inl ((row++[{ var:=v,value:=w }])++[x],true)))
  (h3:∀row,row.length≤1000→fin (row,true)=K row) (h4:∀row,row.length≤1000→fin (row,false)=K (row++[{ var:=v,value:=w }])) (b:List Zp) (hb:b.length≤100):Zn body fin b 0 ([],false)=K (ZeG b v w):=by
 rw [Q6 (fun l _ s=>K (s.1++(if s.2=true then l else ZeG l v w))) (fun l _ s=>s.1.length+2 * l.length≤900) ?_ ?_ b 0 ([],false) (by simp;omega)]
 ·simp
 ·rintro i ⟨row,done⟩ hI
  simp only[AR] at hI
  cases done with
  | true=>rw [h3 row (by omega)];simp
  | false=>rw [h4 row (by omega)];simp [ZeG]
 ·rintro x l i ⟨row,done⟩ hI
  simp only[A9] at hI
  left
  cases done with
  | true=>exact ⟨_,h1 i x row (by omega),by simp;omega,by simp⟩
  | false=>
   rw [h2 i x row (by omega)]
   by_cases hs:sLt v x.var=true
   ·rw [if_neg (by rw [ZpH];simpa using hs)]
    exact ⟨_,rfl,by simp;omega,by simp [ZeG,hs]⟩
   ·rw [if_pos (ZpH.2 hs)]
    exact ⟨_,rfl,by simp;omega,by simp [ZeG,hs]⟩
def Zjc:Option (List Zp)→List Zp × Bool
 | some b=>(b,true)
 | none=>([],false)
theorem Zgm {b:List Zp} {v w:ByteArray} (h:¬(ZX b=true∧Ye v=true∧ZP w=true)):Zjc (ZfJ b v w)=([],false):=by
 unfold ZfJ
 rw [if_neg h]
 rfl
theorem ZhN {b:List Zp} {v w:ByteArray} (h1:ZX b=true) (h2:Ye v=true) (h3:ZP w=true):ZfJ b v w=match Qe b v with | some a=>if a=w then some b else none | none=>if b.length=6 then none else some (ZeG b v w):=by
 unfold ZfJ
 exact if_pos ⟨h1,h2,h3⟩
theorem Qr {b:List Zp} (h:ZX b=true):b.length≤6:=by
 unfold ZX at h
 rw [A5,decide_eq_true_iff] at h
 exact h.1
theorem Zoh (b:List Zp) (v w:ByteArray):Zf0 b v w=some (Zjc (ZfJ b v w)):=by
 unfold Zf0
 rw [Qo,A0]
 by_cases h1:ZX b=true
 ·rw [if_pos h1,ZcI,A0]
  by_cases h2:Ye v=true
  ·rw [if_pos h2,XP,A0]
   by_cases h3:ZP w=true
   ·have h6:=Qr h1
    rw [if_pos h3,Zcm,A0,ZbH,ZgZ h2]
    cases hg:Qe b v with
    | some old=>
     have hx:ZfJ b v w=if old=w then some b else none:=by rw [ZhN h1 h2 h3,hg]
     rw [hx]
     show (if true=true then (if sEq old w=true then _ else _) else _)=_
     rw [if_pos rfl]
     by_cases he:old=w
     ·rw [if_pos (ZN.2 he),if_pos he]
      unfold ZaB
      rw [Zi _ (by omega)]
      rfl
     ·rw [if_neg (by rw [ZN];exact he),if_neg he]
      rfl
    | none=>
     have hx:ZfJ b v w=if b.length=6 then none else some (ZeG b v w):=by rw [ZhN h1 h2 h3,hg]
     rw [hx]
     show (if false=true then _ else _)=_
     rw [if_neg (by simp)]
     by_cases hl:b.length=6
     ·rw [if_pos (by simp;omega),if_pos hl]
      rfl
     ·rw [if_neg (by simp;omega),if_neg hl]
      refine Zpf (K:=fun r=>some (r,true)) (fun i x row hr=>?_) (fun i x row hr=>?_) (fun row hr=>?_) (fun row hr=>?_) b (by omega)
      ·show (if true=true then _ else _)=_
       rw [if_pos rfl,Zi _ (by omega)]
      ·show (if false=true then _ else _)=_
       rw [if_neg (by simp)]
       split
       ·rw [Zi _ (by omega)]
       ·rw [Zi _ (by omega),Zi _ (by omega)]
      ·show (if true=true then _ else _)=_
       rw [if_pos rfl]
      ·show (if false=true then _ else _)=_
       rw [if_neg (by simp),Zi _ (by omega)]
   ·rw [if_neg h3,Zgm (fun h=>h3 h.2.2)]
  ·rw [if_neg h2,Zgm (fun h=>h2 h.2.1)]
 ·rw [if_neg h1,Zgm (fun h=>h1 h.1)]
theorem Zqh (b:List Zp) (v w:ByteArray) (hb:b.length≤100):Zh3 b v w=some (ZeG b v w):=by
 unfold Zh3
 refine Zpf (K:=fun r=>some r) (fun i x row hr=>?_) (fun i x row hr=>?_) (fun row hr=>?_) (fun row hr=>?_) b hb
 ·show (if true=true then _ else _)=_
  rw [if_pos rfl,Zi _ (by omega)]
 ·show (if false=true then _ else _)=_
  rw [if_neg (by simp)]
  split
  ·rw [Zi _ (by omega)]
  ·rw [Zi _ (by omega),Zi _ (by omega)]
 ·show (if true=true then _ else _)=_
  rw [if_pos rfl]
 ·show (if false=true then _ else _)=_
  rw [if_neg (by simp),Zi _ (by omega)]
theorem Zn9 (b:List Zp) (v w:ByteArray) (hb:b.length≤1048576):Zfm b v w=some (Zjc (ZfJ b v w)):=by
 unfold Zfm
 rw [QH b hb,A0]
 by_cases h1:ZX b=true
 ·rw [if_pos h1,Qt,A0]
  by_cases h2:Ye v=true
  ·rw [if_pos h2,XQ,A0]
   by_cases h3:ZP w=true
   ·have h6:=Qr h1
    rw [if_pos h3,Zcj,A0,ZbH,ZgZ h2]
    cases hg:Qe b v with
    | some a=>
     have hx:ZfJ b v w=if a=w then some b else none:=by rw [ZhN h1 h2 h3,hg]
     rw [hx]
     show (if true=true then (if sEq a w=true then _ else _) else _)=_
     rw [if_pos rfl]
     by_cases he:a=w
     ·rw [if_pos (ZN.2 he),if_pos he]
      unfold Zb7
      rw [Zi _ yE]
      rfl
     ·rw [if_neg (by rw [ZN];exact he),if_neg he]
      rfl
    | none=>
     have hx:ZfJ b v w=if b.length=6 then none else some (ZeG b v w):=by rw [ZhN h1 h2 h3,hg]
     rw [hx]
     show (if false=true then _ else _)=_
     rw [if_neg yG]
     by_cases hl:b.length=6
     ·rw [if_pos (by simp;omega),if_pos hl]
      rfl
     ·rw [if_neg (by simp;omega),if_neg hl,Zqh _ _ _ yE]
      rfl
   ·rw [if_neg h3,Zgm (fun h=>h3 h.2.2)]
  ·rw [if_neg h2,Zgm (fun h=>h2 h.2.1)]
 ·rw [if_neg h1,Zgm (fun h=>h1 h.1)]
theorem ZeT {fa:List ByteArray} {body:Nat→ByteArray→List Zp→Option (List Zp ⊕ (List Zp × Bool))}
  (hb:∀i a w row,fa[i]?=some w→ZX row=true→body i a row=if ZP a=true then (if a=w then some (.inl row) else some (.inr ([],false))) else (match ZfJ row a w with | some r=>some (.inl r) | none=>some (.inr ([],false)))):
  ∀(l:List ByteArray) (i:Nat) (row:List Zp),i+l.length=fa.length→ZX row=true→Zn body (fun row=>some (row,true)) l i row=some (Zjc (ZdI l (fa.drop i) row))
 | [],i,row,_,_=>by simp [Zn,ZdI,Zjc]
 | a::l,i,row,h,hr=>by
  simp only[A9] at h
  have hi:i<fa.length:=by omega
  have hw:fa[i]?=some fa[i]:=AK hi
  rw [Ac hi]
  simp only[ZdI]
  have e:=hb i a _ row hw hr
  by_cases ha:ZP a=true
  ·rw [if_pos ha] at e ⊢
   by_cases hq:a=fa[i]
   ·rw [if_pos hq] at e ⊢
    rw [ZV e]
    exact ZeT hb l (i+1) row yE hr
   ·rw [if_neg hq] at e ⊢
    rw [Ya e]
    rfl
  ·rw [if_neg ha] at e ⊢
   cases hx:ZfJ row a fa[i] with
   | none=>
    rw [hx] at e
    rw [Ya e]
    rfl
   | some r=>
    rw [hx] at e
    rw [ZV e,A0]
    exact ZeT hb l (i+1) r yE (Zrs hx).1
theorem Zf9 (p:Zv) (f:Zd) (b:List Zp):ZaF p f b=some (Zjc (Zan p f b)):=by
 unfold ZaF Zan Zfh
 rw [Za8,A0]
 cases h1:Z0 p with
 | false=>rfl
 | true=>
  rw [if_pos rfl,ZiS,A0]
  cases h2:YH f with
  | false=>rfl
  | true=>
   rw [if_pos rfl,Qo,A0]
   cases h3:ZX b with
   | false=>rfl
   | true=>
    rw [if_pos rfl]
    by_cases h4:p.rel=f.rel
    ·rw [if_pos (ZN.2 h4),decide_eq_true h4]
     by_cases h5:p.args.length=f.args.length
     ·have h6:=Qr h3
      rw [if_neg (by simp;omega),decide_eq_true h5]
      unfold ZaB
      rw [Zi _ yE,A0]
      rw [ZeT (fa:=f.args) (fun i a w row hw hr=>?_) p.args 0 b yE h3]
      ·rfl
      ·rw [XP,A0,Zby,hw,A0,A0]
       split
       ·by_cases hq:a=w
        ·rw [if_pos (ZN.2 hq),if_pos hq]
        ·rw [if_neg (by rw [ZN];exact hq),if_neg hq]
       ·rw [Zoh,A0]
        cases ZfJ row a w<;>rfl
     ·rw [if_pos (by simp;omega),decide_eq_false h5]
      rfl
    ·rw [if_neg (by rw [ZN];exact h4),decide_eq_false h4]
     rfl
theorem Zf3 (p:Zv) (f:Zd) (b:List Zp) (hb:b.length≤1048576):Zau p f b=some (Zjc (Zan p f b)):=by
 unfold Zau Zan Zfh
 rw [QA,A0]
 cases h1:Z0 p with
 | false=>rfl
 | true=>
  rw [if_pos rfl,ZiZ,A0]
  cases h2:YH f with
  | false=>rfl
  | true=>
   rw [if_pos rfl,QH b hb,A0]
   cases h3:ZX b with
   | false=>rfl
   | true=>
    rw [if_pos rfl]
    by_cases h4:p.rel=f.rel
    ·rw [if_pos (ZN.2 h4),decide_eq_true h4]
     by_cases h5:p.args.length=f.args.length
     ·have h6:=Qr h3
      rw [if_neg (by simp;omega),decide_eq_true h5]
      unfold Zb7
      rw [Zi _ yE,A0]
      rw [ZeT (fa:=f.args) (fun i a w row hw hr=>?_) p.args 0 b yE h3]
      ·rfl
      ·have hr6:=Qr hr
       rw [XQ,A0,Zby,hw,A0,A0]
       split
       ·by_cases hq:a=w
        ·rw [if_pos (ZN.2 hq),if_pos hq]
        ·rw [if_neg (by rw [ZN];exact hq),if_neg hq]
       ·rw [Zn9 _ _ _ yE,A0]
        cases ZfJ row a w<;>rfl
     ·rw [if_pos (by simp;omega),decide_eq_false h5]
      rfl
    ·rw [if_neg (by rw [ZN];exact h4),decide_eq_false h4]
     rfl
def Zce:Option Zd→Zd × Bool
 | some f=>(f,true)
 | none=>({ rel:=⟨#[]⟩,args:=[] },false)
theorem Zmv {b:List Zp} {rel:ByteArray} {body:Nat→ByteArray→List ByteArray→Option (List ByteArray ⊕ (Zd × Bool))} (hb:∀i a row,row.length≤1048576→body i a row=match Xx b a with | some v=>some (.inl (row++[v])) | none=>some (.inr ({ rel:=⟨#[]⟩,args:=[] },false))) (l:List ByteArray) (hl:l.length≤1000000):
  Zn body (fun row=>some ({ rel:=rel,args:=row },true)) l 0 []=some (Zce ((Zd0 l b).map fun l=>{ rel:=rel,args:=l })):=by
 rw [Q6 (fun l _ row=>some (Zce ((Zd0 l b).map fun l=>{ rel:=rel,args:=row++l }))) (fun l _ row=>row.length+l.length≤1048576) ?_ ?_ l 0 [] (by simp;omega)]
 ·simp
 ·intro i row _
  simp [Zd0,Zce]
 ·intro a l i row hI
  simp only[A9] at hI
  have e:=hb i a row (by omega)
  cases hv:Xx b a with
  | none=>
   rw [hv] at e
   exact .inr ⟨_,e,by simp [Zd0,hv,Zce]⟩
  | some v=>
   rw [hv] at e
   refine .inl ⟨_,e,by simp;omega,?_⟩
   simp only[Zd0,hv,A0,Option.map_map]
   cases Zd0 l b<;>simp
theorem ZdQ (p:Zv) (b:List Zp):XZ p b=some (Zce (Zba p b)):=by
 unfold XZ Zba
 rw [Za8,A0]
 cases h1:Z0 p with
 | false=>rfl
 | true=>
  rw [if_pos rfl,Qo,A0]
  cases h3:ZX b with
  | false=>rfl
  | true=>
   have hl:p.args.length≤3:=by unfold Z0 at h1;simp at h1;exact h1.1.2
   rw [if_pos rfl,if_pos ⟨rfl,rfl⟩,Zmv (b:=b) (fun i a row hr=>?_) p.args yE]
   rw [Zcm,A0,ZbH]
   cases Xx b a with
   | none=>rfl
   | some v=>
    show (if true=true then _ else _)=_
    rw [if_pos rfl,Zi _ yE]
    rfl
theorem ZgM (p:Zv) (b:List Zp) (hb:b.length≤1048576):Y2 p b=some (Zce (Zba p b)):=by
 unfold Y2 Zba
 rw [QA,A0]
 cases h1:Z0 p with
 | false=>rfl
 | true=>
  rw [if_pos rfl,QH b hb,A0]
  cases h3:ZX b with
  | false=>rfl
  | true=>
   have hl:p.args.length≤3:=by unfold Z0 at h1;simp at h1;exact h1.1.2
   rw [if_pos rfl,if_pos ⟨rfl,rfl⟩,Zmv (b:=b) (fun i a row hr=>?_) p.args yE]
   rw [Zcj,A0,ZbH]
   cases Xx b a with
   | none=>rfl
   | some v=>
    show (if true=true then _ else _)=_
    rw [if_pos rfl,Zi _ yE]
    rfl
theorem ZeQ (o:Option (List Zp)):(Zjc o).2=o.isSome:=by cases o<;>rfl
theorem Zdc (p:Zv) (b:List Zp) (F:List Zd) (hF:F.length≤1048576) (ha:∀f∈F,f.args.length≤1048576):Xc p b F=some (Zcu p b F):=by
 unfold Xc Zcu
 rw [ZdF (p:=fun f=>(Zan p f b).isSome)]
 ·simp
 ·intro j f s mf hs
  rw [Zf9,A0,ZeQ]
  split
  ·rw [YB f (ha f mf),A0,Zi _ (by simp at hs;omega)]
  ·rfl
theorem ZcK (p:Zv) (b:List Zp) (F:List Zd) (hb:b.length≤1048576) (hF:F.length≤1048576) (ha:∀f∈F,f.args.length≤1048576):Xf p b F=some (Zcu p b F):=by
 unfold Xf Zcu
 rw [ZdF (p:=fun f=>(Zan p f b).isSome)]
 ·simp
 ·intro j f s mf hs
  rw [Zf3 _ _ _ hb,A0,ZeQ]
  split
  ·rw [Xo f (ha f mf),A0,Zi _ (by simp at hs;omega)]
  ·rfl
theorem ZkK (x:Zr) (b:List Zp):ZbM x b=some (Zj0 x b):=by
 unfold ZbM Zj0 Zhs
 rw [Zfn,A0]
 cases h1:Yz x with
 | false=>rfl
 | true=>
  rw [if_pos rfl,A0]
  by_cases h2:3≤x.kind
  ·rw [if_pos (by simpa using h2),Qo,A0]
   cases h3:ZX b with
   | false=>simp
   | true=>
    rw [if_pos rfl,if_pos ⟨rfl,h2,rfl⟩,Zcm,A0,Zcm,A0,ZbH,ZbH]
    cases Xx b x.left with
    | none=>rfl
    | some l=>
     cases Xx b x.right with
     | none=>rfl
     | some r=>
      show (if true=true then (if true=true then (if (x.kind==3)=true then some (sEq l r) else _) else _) else _)=some (Zoa x.kind l r)
      rw [if_pos rfl,if_pos rfl]
      unfold Zoa
      by_cases k3:x.kind=3
      ·rw [if_pos (by simpa using k3),if_pos k3];rfl
      ·rw [if_neg (by simpa using k3),if_neg k3]
       by_cases k4:x.kind=4
       ·rw [if_pos (by simpa using k4),if_pos k4];rfl
       ·rw [if_neg (by simpa using k4),if_neg k4,Zbx,A0,Zbx,A0]
        show (if (ZcZ l).2=true then (if (ZcZ r).2=true then some (decide ((ZcZ l).1<(ZcZ r).1)) else some false) else some false)=_
        unfold ZcZ Ztl
        cases Qg l<;>cases Qg r<;>simp
  ·rw [if_neg (by simpa using h2),if_neg (fun h=>h2 h.2.1)]
theorem ZjY (x:Zr) (b:List Zp) (hb:b.length≤1048576):ZbO x b=some (Zj0 x b):=by
 unfold ZbO Zj0 ZaT
 rw [ZbT,A0]
 cases h1:Yz x with
 | false=>rfl
 | true=>
  rw [if_pos rfl,A0]
  by_cases h2:3≤x.kind
  ·rw [if_pos (by simpa using h2),QH b hb,A0]
   cases h3:ZX b with
   | false=>simp
   | true=>
    rw [if_pos rfl,if_pos ⟨rfl,h2,rfl⟩,Zcj,A0,Zcj,A0,ZbH,ZbH]
    cases Xx b x.left with
    | none=>rfl
    | some l=>
     cases Xx b x.right with
     | none=>rfl
     | some r=>
      show (if true=true then (if true=true then (if (x.kind==3)=true then some (sEq l r) else _) else _) else _)=some (Zoa x.kind l r)
      rw [if_pos rfl,if_pos rfl]
      unfold Zoa
      by_cases k3:x.kind=3
      ·rw [if_pos (by simpa using k3),if_pos k3];rfl
      ·rw [if_neg (by simpa using k3),if_neg k3]
       by_cases k4:x.kind=4
       ·rw [if_pos (by simpa using k4),if_pos k4];rfl
       ·rw [if_neg (by simpa using k4),if_neg k4]
        unfold ZcE
        rw [s_ParseInt_eq,A0,A0]
        show (if (ZcZ l).2=true then ((X0 r).bind fun v1=>some v1.2).bind (fun v6=>if v6=true then (Y0 l r).bind fun v7=>some (decide (v7<0)) else some false) else some false)=_
        unfold Ztl
        cases hl:Qg l with
        | none=>simp [ZcZ,hl]
        | some m=>
         rw [if_pos (by simp [ZcZ,hl]),s_ParseInt_eq,A0,A0]
         cases hr:Qg r with
         | none=>simp [ZcZ,hr]
         | some n=>
          have hd:decide (Ze7 l r<0)=decide (m<n):=by
           have hc:Ze7 l r=Zjj m n:=by unfold Ze7;rw [hl,hr]
           rw [hc,A8,decide_eq_true_iff,decide_eq_true_iff]
           unfold Zjj
           split
           ·omega
           ·split<;>omega
          rw [if_pos (by simp [ZcZ,hr]),Zdt,A0,hd]
  ·rw [if_neg (by simpa using h2),if_neg (fun h=>h2 h.2.1)]
theorem ZjZ (x:Zr) (b:List Zp) (F:List Zd) (hF:F.length≤1048576) (ha:∀f∈F,f.args.length≤1048576):Zb5 x b F=some (ZfV x b F):=by
 unfold Zb5 ZfV
 rw [Zfn,A0]
 cases h1:Yz x with
 | false=>rfl
 | true=>
  rw [if_pos rfl,Qo,A0]
  cases h3:ZX b with
  | false=>rfl
  | true=>
   rw [if_pos rfl,if_pos (show true=true∧true=true from ⟨rfl,rfl⟩)]
   by_cases k1:x.kind=1
   ·rw [if_pos (by simpa using k1),if_pos k1,Zdc _ _ _ hF ha,A0]
    congr 1
    rw [A8];simp
   ·rw [if_neg (by simpa using k1),if_neg k1]
    by_cases k2:x.kind=2
    ·rw [if_pos (by simpa using k2),if_pos k2,Zdc _ _ _ hF ha,A0,Zsv]
    ·rw [if_neg (by simpa using k2),if_neg k2,ZkK]
     rfl
theorem ZkS (x:Zr) (b:List Zp) (F:List Zd) (hb:b.length≤1048576) (hF:F.length≤1048576) (ha:∀f∈F,f.args.length≤1048576):ZbV x b F=some (ZfV x b F):=by
 unfold ZbV ZfV
 rw [ZbT,A0]
 cases h1:Yz x with
 | false=>rfl
 | true=>
  rw [if_pos rfl,QH b hb,A0]
  cases h3:ZX b with
  | false=>rfl
  | true=>
   rw [if_pos rfl,if_pos (show true=true∧true=true from ⟨rfl,rfl⟩)]
   by_cases k1:x.kind=1
   ·rw [if_pos (by simpa using k1),if_pos k1,ZcK _ _ _ hb hF ha,A0]
    congr 1
    rw [A8];simp
   ·rw [if_neg (by simpa using k1),if_neg k1]
    by_cases k2:x.kind=2
    ·rw [if_pos (by simpa using k2),if_pos k2,ZcK _ _ _ hb hF ha,A0,Zsv]
    ·rw [if_neg (by simpa using k2),if_neg k2,ZjY _ _ hb]
     rfl
theorem ZbZ {r:Zf} (h:XX r=true):r.cond.length≤4∧r.thn.length≤2:=by
 simp only[XX,A5,decide_eq_true_eq] at h
 omega
def Zon (r:Zf):Bool:=r.thn.all fun a=>decide (a.kind=1)
def Zg7 (r:Zf) (i:Nat) (x:Zr):Bool:=!decide (x.kind=2)||(Yt x).all (Yj (Yr r i))
def ZU (r:Zf):Bool:=XX r&&Zar (Zg7 r) r.cond 0&&Zon r
theorem ZlC (a b:List ByteArray):ZcU a b=some (a.all (Yj b)):=by
 unfold ZcU
 rw [ZW (p:=Yj b) (r:=false)]
 ·cases a.all (Yj b)<;>rfl
 ·intro i x _
  rw [YF,A0]
  cases Yj b x<;>simp
theorem Zmm {fin:Unit→Option Bool} {l:List Zx}:Zn (σ:=Unit) (fun (_:Nat) (x:Zx) _=>if (x.kind != 1)=true then some (.inr false) else some (.inl ())) fin l 0 ()=if (l.all fun a=>decide (a.kind=1))=true then fin () else some false:=by
 refine ZW fun i x _=>?_
 by_cases h:x.kind=1
 ·simp [h]
 ·have:(x.kind != 1)=true:=by simpa using h
  simp [this,h]
theorem ZlT (r:Zf):Zc0 r=some (Zon r):=by
 unfold Zc0 Zon
 rw [Zmm]
 cases r.thn.all fun a=>decide (a.kind=1)<;>rfl
theorem ZkB (r:Zf) (h:Za6 r):ZbL r=some (ZU r):=by
 unfold ZbL ZU
 rw [Zfr r h,A0]
 cases hr:XX r with
 | false=>simp
 | true=>
  have h4:=(ZbZ hr).1
  simp only[if_true,A4]
  rw [Xh (p:=Zg7 r) (r:=false),Zmm]
  ·unfold Zon
   cases Zar (Zg7 r) r.cond 0<;>cases r.thn.all fun a=>decide (a.kind=1)<;>simp
  ·intro j x hj
   rw [AJ,Zbz x (by have:=h.ca x (AF hj);omega),ZcP r _ h h4,AA]
   simp only[A0,ZlC,Zg7]
   by_cases hk:x.kind=2
   ·simp only[hk,beq_self_eq_true,if_true,decide_true,Aq,AT]
    cases (Yt x).all (Yj (Yr r j))<;>simp
   ·simp [hk]
theorem Zj9 (r:Zf) (h:Za6 r):ZbU r=some (ZU r):=by
 unfold ZbU ZU
 rw [ZiV r h,A0,ZlT]
 cases hr:XX r with
 | false=>simp
 | true=>
  have h4:=(ZbZ hr).1
  simp only[if_true,A4,A0]
  rw [Xh (p:=Zg7 r) (r:=false)]
  ·cases Zar (Zg7 r) r.cond 0<;>cases Zon r<;>simp
  ·intro j x hj
   rw [AJ,ZbB x (by have:=h.ca x (AF hj);omega),ZcJ r _ h h4,AA]
   simp only[A0,Zg7]
   by_cases hk:x.kind=2
   ·simp only[hk,bne_self_eq_false,A6,if_false,decide_true,Aq,AT]
    rw [ZW (p:=Yj (Yr r j)) (r:=.inr false)]
    ·cases (Yt x).all (Yj (Yr r j))<;>simp
    ·intro k v _
     rw [QO,A0]
     cases Yj (Yr r j) v<;>simp
   ·have:(x.kind != 2)=true:=by simpa using hk
    simp [hk,this]
/- bounds out of the size of an argument -/
theorem ZIF {l:List Nat} {x:Nat} (h:x∈l):x≤l.sum:=by
 induction l with
 | nil=>simp at h
 | cons a r ih=>
  rcases A7.1 h with h | h
  ·subst h;simp
  ·have:=ih h;simp;omega
theorem ZF1 {α:Type} {f:α→Nat} {l:List α} {n:Nat} (h:l.length+(l.map f).sum≤n) {x:α} (hx:x∈l):f x≤n:=by
 have:=ZIF (List.mem_map_of_mem (f:=f) hx)
 omega
theorem ZHD {l:List Zr} (h:ZDh l≤1048576):l.length≤1048576∧∀x∈l,x.pattern.args.length≤1048576:=by
 unfold ZDh at h
 refine ⟨yE,fun x mx=>?_⟩
 have:=ZF1 (f:=ZDl) h mx
 simp only[ZDl,ZC1,ZDs] at this
 omega
theorem ZHZ {r:Zf} (h:ZDd r≤1048576):Za6 r:=by
 simp only[ZDd] at h
 have h1:ZDh r.cond≤1048576:=by omega
 have h2:ZC7 r.thn≤1048576:=by omega
 obtain ⟨a,b⟩:=ZHD h1
 refine ⟨a,?_,b,fun x mx=>?_⟩
 ·unfold ZC7 at h2;omega
 ·unfold ZC7 at h2
  have:=ZF1 (f:=ZC9) h2 mx
  simp only[ZC9,ZC1,ZDs] at this
  omega
end Go.Proofs.YtekbmedphidcgaaGreatDoor
