/- A part of the proof; no conditions. -/
import Derived.Test.YtlpkbfjcdaanmaaGreatDoorMissedQ1
import Derived.Lib.ItoaLen
import Derived.Laws.BitsLemmas
import Derived.Lib.Bytealg
open Bool renaming false_eq_true→A4,and_eq_true→AB,eq_iff_iff→AD,true_and→AH,or_eq_true→AS
open ByteArray renaming size→AT
open Go.ByteArray renaming toList_eq→AY
open Int renaming toNat→A0,toNat_natCast→AL
open List renaming mem_cons→A5,drop→A6,set→A7,pairwise_cons→A8,length_cons→A9,replicate→AA,take→AC,length_append→AF,map_cons→AG,range'→AI,map_nil→AK,mem_cons_of_mem→AM,getElem?_eq_some_iff→AN,drop_eq_nil_of_le→AQ,getElem?_eq_getElem→AR,map_append→AU,eq_nil_of_length_eq_zero→AW,dropLast_concat_getLast→AX,drop_eq_getElem_cons→Aa,length_nil→Ab
open Nat renaming zero_le→AE,le_trans→AP,pow_le_pow_right→AZ
open Option renaming bind_some→A3
open Option.some renaming inj→AO
open UInt8 renaming ofNat→AJ
set_option linter.unusedSimpArgs false
set_option linter.unusedVariables false
set_option maxRecDepth 1000000
set_option maxHeartbeats 4000000
namespace Go.Proofs.YtlpkbfjcdaanmaaGreatDoor
open Go.IntKind (i64)
noncomputable section
section
structure XR where
 rule:ByteArray
 token:Zq
structure Za4 where
 rule:ByteArray
 facts:(List Zc)
structure ZwG where
 b:(List Int)
 i:Int
 h:Int
def goO (f:Int->List Int->Option (List Int)):List Int->List Int->Option (List Int)
 | [],l=>some l
 |y::ys,l=>(f y l).bind (goO f ys)
def ZJa (sup:Int->Option Int) (has:List Int->Int->Option Bool) (b:Zt):Nat->Int->List Int->Option (List Int)
 |0,_,_=>none
 |n+1,x,l=>(sup x).bind fun s=>if decide (s<0)=true then some l else (has l s).bind fun h=>if h=true then some l else (b.reasons[s.toNat]?).bind fun r=>(goO (ZJa sup has b n) r.inn l).bind fun t=>if t.length<1048576 then some (t++[s]) else none
def ZHL (k:Int):ByteArray:=if k=3 then ⟨#[32,61,32]⟩ else if k=4 then ⟨#[32,33,61,32]⟩ else ⟨#[32,60,32]⟩
def ZJw (d:List (List Bool)) (i j:Nat):Bool:=match d[i]? with|some r=>(match r[j]? with|some v=>v|none=>false)|none=>false
def ZKt (d:List (List Bool)) (i j:Nat) (v:Bool):List (List Bool):=match d[i]? with|some r=>d.set i (r.set j v)|none=>d
def ZI8 (x:Nat) (d:List (List Bool)) (y:Int):List (List Bool):=ZKt d x y.toNat true
def ZJ6 (d:List (List Bool)) (r:Zf):List (List Bool):=r.outs.foldl (ZI8 r.for_.toNat) (r.inn.foldl (ZI8 r.for_.toNat) d)
def ZKE (k i:Nat) (d:List (List Bool)) (j:Nat):List (List Bool):=ZKt d i j (ZJw d i j||(ZJw d i k&&ZJw d k j))
def ZLd (n k:Nat) (d:List (List Bool)) (i:Nat):List (List Bool):=(AI 0 n).foldl (ZKE k i) d
def ZKX (n:Nat) (d:List (List Bool)) (k:Nat):List (List Bool):=(AI 0 n).foldl (ZLd n k) d
def ZJR (n:Nat) (R:List Zf):List (List Bool):=(AI 0 n).foldl (ZKX n) (R.foldl ZJ6 (AA n (AA n false)))
def ZK3 (b:Zt):Bool:=decide (0<=b.nodes/\b.nodes<=24/\b.reasons.length<=60)&&b.reasons.all fun r=>decide (0<=r.for_/\r.for_<b.nodes)&&r.inn.all (fun y=>decide (0<=y/\y<b.nodes))&&r.outs.all (fun y=>decide (0<=y/\y<b.nodes))
def QS (b:ByteArray):Option Bool:=
 if (decide ((b.size:Int)<1))=true then
  some false
 else
  if (decide (8<(b.size:Int)))=true then
   some false
  else
   forL (σ:=Unit)
    (fun (c:Nat) (a:UInt8) _=>
     if (decide ((a.toNat:Int)<97))=true then
      if (decide ((a.toNat:Int)<48))=true then
       some (.inr false)
      else
       if (decide (57<(a.toNat:Int)))=true then
        some (.inr false)
       else
        some (.inl ())
     else
      if (decide (122<(a.toNat:Int)))=true then
       if (decide ((a.toNat:Int)<48))=true then
        some (.inr false)
       else
        if (decide (57<(a.toNat:Int)))=true then
         some (.inr false)
        else
         some (.inl ())
      else
       some (.inl ()))
    (fun _=>
     some true)
    b.data.toList 0 ()
def Zey (b:ByteArray):Option Bool:=
 (QS b).bind fun c=>
 if c=true then
  (sAt b 0).bind fun a=>
  some (decide (97<=(a.toNat:Int)))
 else
  some false
def ZfO (c:Zc):Option Bool:=
 (Zey c.rel).bind fun d=>
 if d=true then
  if (decide (3<(c.args.length:Int)))=true then
   some false
  else
   forL (σ:=Unit)
    (fun (e:Nat) (a:ByteArray) _=>
     (QS a).bind fun b=>
     if b=true then
      some (.inl ())
     else
      some (.inr false))
    (fun _=>
     some true)
    c.args 0 ()
 else
  some false
def Zdp (a:ByteArray):Option Bool:=
 if (decide (1<(a.size:Int)))=true then
  (sAt a 0).bind fun b=>
  if ((b.toNat:Int)==63)=true then
   chk (0<=1/\1<=(a.size:Int)) <|
   (QS (a.extract (A0 1) a.size)).bind fun c=>
   some c
  else
   some false
 else
  some false
def Zab (b:ByteArray):Option Bool:=
 (QS b).bind fun c=>
 if c=true then
  some true
 else
  (Zdp b).bind fun a=>
  some a
def Xp (c:Zx):Option Bool:=
 (Zey c.rel).bind fun d=>
 if d=true then
  if (decide (3<(c.args.length:Int)))=true then
   some false
  else
   forL (σ:=Unit)
    (fun (e:Nat) (a:ByteArray) _=>
     (Zab a).bind fun b=>
     if b=true then
      some (.inl ())
     else
      some (.inr false))
    (fun _=>
     some true)
    c.args 0 ()
 else
  some false
def XS (a:List Zi):Option Bool:=
 if (decide (6<(a.length:Int)))=true then
  some false
 else
  forL (σ:=Unit)
   (fun (c:Nat) (b:Zi) _=>
    (Zdp b.var).bind fun d=>
    if d=true then
     (QS b.value).bind fun e=>
     if e=true then
      if (decide (0<(c:Int)))=true then
       (atI a (i64.wrap ((c:Int)-1))).bind fun f=>
       if (sLt f.var b.var)=true then
        some (.inl ())
       else
        some (.inr false)
      else
       some (.inl ())
     else
      some (.inr false)
    else
     some (.inr false))
   (fun _=>
    some true)
   a 0 ()
def Zbn (a:List Zi):Option (List Zi):=
 chk (a.length<=1073741824) <|
 some a
def Zbt (d:List Zi) (c:ByteArray):Option (ByteArray×Bool):=
 (QS c).bind fun e=>
 if e=true then
  some (c,true)
 else
  (Zdp c).bind fun b=>
  if b=true then
   forL (σ:=Unit)
    (fun (f:Nat) (a:Zi) _=>
     if (sEq a.var c)=true then
      some (.inr (a.value,true))
     else
      some (.inl ()))
    (fun _=>
     some ((⟨#[]⟩),false))
    d 0 ()
  else
   some ((⟨#[]⟩),false)
def Zg4 (h:List Zi) (b:ByteArray) (j:ByteArray):Option ((List Zi)×Bool):=
 (XS h).bind fun k=>
 if k=true then
  (Zdp b).bind fun f=>
  if f=true then
   (QS j).bind fun g=>
   if g=true then
    (Zbt h b).bind fun e=>
    if e.2=true then
     if (sEq e.1 j)=true then
      (Zbn h).bind fun i=>
      some (i,true)
     else
      some ([],false)
    else
     if (decide (6<=(h.length:Int)))=true then
      some ([],false)
     else
      forL (σ:=(List Zi)×Bool)
       (fun (l:Nat) (c:Zi) s=>
        match s with
        |(a,d)=>
        if d=true then
         chk (a.length+1<=1073741824) <|
         some (.inl ((a++[c]),true))
        else
         if (sLt c.var b||sEq c.var b)=true then
          chk (a.length+1<=1073741824) <|
          some (.inl ((a++[c]),false))
         else
          chk (a.length+1<=1073741824) <|
          chk (a.length+1+1<=1073741824) <|
          some (.inl (((a++[({var:=b,value:=j}:Zi)])++[c]),true)))
       (fun s=>
        match s with
        |(a,d)=>
        if d=true then
         some (a,true)
        else
         chk (a.length+1<=1073741824) <|
         some ((a++[({var:=b,value:=j}:Zi)]),true))
       h 0 ([],false)
   else
    some ([],false)
  else
   some ([],false)
 else
  some ([],false)
def QF (h:Zx) (a:Zc) (m:List Zi):Option ((List Zi)×Bool):=
 (Xp h).bind fun n=>
 if n=true then
  (ZfO a).bind fun f=>
  if f=true then
   (XS m).bind fun g=>
   if g=true then
    if (sEq h.rel a.rel)=true then
     if ((h.args.length:Int) != (a.args.length:Int))=true then
      some ([],false)
     else
      (Zbn m).bind fun i=>
      forL (σ:=(List Zi))
       (fun (d:Nat) (c:ByteArray) b=>
        (QS c).bind fun j=>
        if j=true then
         (atI a.args (d:Int)).bind fun k=>
         if (sEq c k)=true then
          some (.inl b)
         else
          some (.inr ([],false))
        else
         (atI a.args (d:Int)).bind fun l=>
         (Zg4 b c l).bind fun e=>
         if e.2=true then
          some (.inl e.1)
         else
          some (.inr ([],false)))
       (fun b=>
        some (b,true))
       h.args 0 i
    else
     some ([],false)
   else
    some ([],false)
  else
   some ([],false)
 else
  some ([],false)
def Zbx (a:List ByteArray):Option (List ByteArray):=
 chk (a.length<=1073741824) <|
 some a
def YE (a:Zc):Option Zc:=
 (Zbx a.args).bind fun b=>
 some ({rel:=a.rel,args:=b}:Zc)
def Xt (a:Zx):Option Bool:=
 if (sEq a.rel ⟨#[]⟩)=true then
  some ((a.args.length:Int)==0)
 else
  some false
def Zeh (h:Zl):Option Bool:=
 if (h.kind==1)=true then
  (Xp h.pattern).bind fun l=>
  if l=true then
   if (sEq h.left ⟨#[]⟩)=true then
    some (sEq h.right ⟨#[]⟩)
   else
    some false
  else
   some false
 else
  if (h.kind==2)=true then
   (Xp h.pattern).bind fun a=>
   if a=true then
    if (sEq h.left ⟨#[]⟩)=true then
     some (sEq h.right ⟨#[]⟩)
    else
     some false
   else
    some false
  else
   if (h.kind==3)=true then
    (Zab h.left).bind fun b=>
    if b=true then
     (Zab h.right).bind fun c=>
     if c=true then
      (Xt h.pattern).bind fun d=>
      some d
     else
      some false
    else
     some false
   else
    if (h.kind==4)=true then
     (Zab h.left).bind fun e=>
     if e=true then
      (Zab h.right).bind fun f=>
      if f=true then
       (Xt h.pattern).bind fun g=>
       some g
      else
       some false
     else
      some false
    else
     if (h.kind==5)=true then
      (Zab h.left).bind fun i=>
      if i=true then
       (Zab h.right).bind fun j=>
       if j=true then
        (Xt h.pattern).bind fun k=>
        some k
       else
        some false
      else
       some false
     else
      some false
def XO (e:Zx) (f:List Zi) (g:List Zc):Option (List Zc):=
 forL (σ:=(List Zc))
  (fun (h:Nat) (b:Zc) a=>
   (QF e b f).bind fun c=>
   if c.2=true then
    (YE b).bind fun d=>
    chk (a.length+1<=1073741824) <|
    some (.inl (a++[d]))
   else
    some (.inl a))
  (fun a=>
   some a)
  g 0 []
def ZjH (a:Zl):Option Bool:=
 (Zeh a).bind fun b=>
 if b=true then
  some (decide (3<=a.kind))
 else
  some false
def Zbu (a:Int):Option ByteArray:=
 (ZqT a).bind fun b=>
 some b
def Zae (c:ByteArray):Option (Int×Bool):=
 if (decide ((c.size:Int)<1))=true then
  some (0,false)
 else
  if (decide (4<(c.size:Int)))=true then
   some (0,false)
  else
   (ZmK c).bind fun b=>
   if b.2=true then
    if (decide (b.1<0))=true then
     some (0,false)
    else
     if (decide (9999<b.1))=true then
      some (0,false)
     else
      (Zbu b.1).bind fun a=>
      if (sEq a c)=true then
       some (b.1,true)
      else
       some (0,false)
   else
    some (0,false)
def Zc9 (f:Zl) (g:List Zi):Option Bool:=
 (ZjH f).bind fun h=>
 if h=true then
  (XS g).bind fun e=>
  if e=true then
   (Zbt g f.left).bind fun a=>
   (Zbt g f.right).bind fun b=>
   if a.2=true then
    if b.2=true then
     if (f.kind==3)=true then
      some (sEq a.1 b.1)
     else
      if (f.kind==4)=true then
       some (!(sEq a.1 b.1))
      else
       (Zae a.1).bind fun c=>
       (Zae b.1).bind fun d=>
       if c.2=true then
        if d.2=true then
         some (decide (c.1<d.1))
        else
         some false
       else
        some false
    else
     some false
   else
    some false
  else
   some false
 else
  some false
def ZcY (g:Zl) (a:List Zi) (b:List Zc):Option Bool:=
 (Zeh g).bind fun h=>
 if h=true then
  (XS a).bind fun c=>
  if c=true then
   if (g.kind==1)=true then
    (XO g.pattern a b).bind fun d=>
    some (decide (0<(d.length:Int)))
   else
    if (g.kind==2)=true then
     (XO g.pattern a b).bind fun e=>
     some ((e.length:Int)==0)
    else
     (Zc9 g a).bind fun f=>
     some f
  else
   some false
 else
  some false
def Zad (d:List Zc):Option (List Zc):=
 forL (σ:=(List Zc))
  (fun (e:Nat) (b:Zc) a=>
   (YE b).bind fun c=>
   chk (a.length+1<=1073741824) <|
   some (.inl (a++[c])))
  (fun a=>
   some a)
  d 0 []
def Zao (l:List Zl) (h:List Zc):Option (List Zq):=
 forL (σ:=(List Zq))
  (fun (m:Nat) (d:Zl) e=>
   forL (σ:=(List Zq))
    (fun (n:Nat) (c:Zq) a=>
     if (d.kind != 1)=true then
      (ZcY d c.binding h).bind fun j=>
      if j=true then
       chk (a.length+1<=1073741824) <|
       some (.inl (a++[c]))
      else
       some (.inl a)
     else
      forL (σ:=(List Zq))
       (fun (o:Nat) (f:Zc) b=>
        (QF d.pattern f c.binding).bind fun g=>
        if g.2=true then
         (Zad c.facts).bind fun i=>
         (YE f).bind fun k=>
         chk (i.length+1<=1073741824) <|
         chk (b.length+1<=1073741824) <|
         some (.inl (b++[({facts:=(i++[k]),binding:=g.1}:Zq)]))
        else
         some (.inl b))
       (fun b=>
        some (.inl b))
       h 0 a)
    (fun a=>
     some (.inl a))
    e 0 [])
  (fun e=>
   some e)
  l 0 ([({facts:=[],binding:=[]}:Zq)])
def ZcN (e:List ByteArray) (a:List ByteArray):Option Bool:=
 if ((e.length:Int) != (a.length:Int))=true then
  some false
 else
  forL (σ:=Unit)
   (fun (b:Nat) (c:ByteArray) _=>
    (atI a (b:Int)).bind fun d=>
    if (sEq c d)=true then
     some (.inl ())
    else
     some (.inr false))
   (fun _=>
    some true)
   e 0 ()
def Zca (a:Zc) (b:Zc):Option Bool:=
 if (sEq a.rel b.rel)=true then
  (ZcN a.args b.args).bind fun c=>
  some c
 else
  some false
def Yl (c:List Zc) (d:Zc):Option Int:=
 forL (σ:=Unit)
  (fun (e:Nat) (a:Zc) _=>
   (Zca a d).bind fun b=>
   if b=true then
    some (.inr (e:Int))
   else
    some (.inl ()))
  (fun _=>
   some (-1))
  c 0 ()
def QL (e:Zx) (f:List Zi):Option (Zc×Bool):=
 (Xp e).bind fun g=>
 if g=true then
  (XS f).bind fun c=>
  if c=true then
   forL (σ:=(List ByteArray))
    (fun (h:Nat) (d:ByteArray) a=>
     (Zbt f d).bind fun b=>
     if b.2=true then
      chk (a.length+1<=1073741824) <|
      some (.inl (a++[b.1]))
     else
      some (.inr (({rel:=(⟨#[]⟩),args:=[]}:Zc),false)))
    (fun a=>
     some (({rel:=e.rel,args:=a}:Zc),true))
    e.args 0 []
  else
   some (({rel:=(⟨#[]⟩),args:=[]}:Zc),false)
 else
  some (({rel:=(⟨#[]⟩),args:=[]}:Zc),false)
def X4 (a:Int) (b:Int):Option Int:=
 if (decide (a<b))=true then
  some (-1)
 else
  if (decide (b<a))=true then
   some 1
  else
   some 0
def Q8 (d:ByteArray) (e:ByteArray):Option Int:=
 (Zae d).bind fun f=>
 (Zae e).bind fun a=>
 if f.2=true then
  if a.2=true then
   (X4 f.1 a.1).bind fun b=>
   some b
  else
   some (-1)
 else
  if a.2=true then
   some 1
  else
   (ZfS d e).bind fun c=>
   some c
def Qn (h:Zc) (a:Zc):Option Int:=
 (ZfS h.rel a.rel).bind fun i=>
 if (i != 0)=true then
  some i
 else
  forL (σ:=Unit)
   (fun (b:Nat) (d:ByteArray) _=>
    if (decide ((b:Int)<(a.args.length:Int)))=true then
     (atI a.args (b:Int)).bind fun e=>
     (Q8 d e).bind fun c=>
     if (c != 0)=true then
      some (.inr c)
     else
      some (.inl ())
    else
     (X4 (h.args.length:Int) (a.args.length:Int)).bind fun f=>
     some (.inr f))
   (fun _=>
    (X4 (h.args.length:Int) (a.args.length:Int)).bind fun g=>
    some g)
   h.args 0 ()
def Qv (k:List Zc) (h:Zc):Option (List Zc):=
 forL (σ:=(List Zc)×Bool)
  (fun (l:Nat) (b:Zc) s=>
   match s with
   |(a,c)=>
   if c=true then
    (YE b).bind fun d=>
    chk (a.length+1<=1073741824) <|
    some (.inl ((a++[d]),true))
   else
    (Qn b h).bind fun e=>
    if (decide (0<e))=true then
     (YE h).bind fun f=>
     chk (a.length+1<=1073741824) <|
     (YE b).bind fun g=>
     chk (a.length+1+1<=1073741824) <|
     some (.inl (((a++[f])++[g]),true))
    else
     (YE b).bind fun i=>
     chk (a.length+1<=1073741824) <|
     some (.inl ((a++[i]),false)))
  (fun s=>
   match s with
   |(a,c)=>
   if c=true then
    some a
   else
    (YE h).bind fun j=>
    chk (a.length+1<=1073741824) <|
    some (a++[j]))
  k 0 ([],false)
def Xb (c:Zg):Option (List Zl):=
 forL (σ:=(List Zl))
  (fun (d:Nat) (b:Zl) a=>
   if (b.kind != 2)=true then
    chk (a.length+1<=1073741824) <|
    some (.inl (a++[b]))
   else
    some (.inl a))
  (fun a=>
   some a)
  c.cond 0 []
def Zai (d:List ByteArray):Option (List ByteArray):=
 forL (σ:=(List ByteArray))
  (fun (e:Nat) (b:ByteArray) a=>
   (Zdp b).bind fun c=>
   if c=true then
    chk (a.length+1<=1073741824) <|
    some (.inl (a++[b]))
   else
    some (.inl a))
  (fun a=>
   some a)
  d 0 []
def Yy (f:List ByteArray):Option (List ByteArray):=
 chk (f.length<=1073741824) <|
 (Zcw f).bind fun e=>
 forL (σ:=(List ByteArray))
  (fun (b:Nat) (c:ByteArray) a=>
   if ((b:Int)==0)=true then
    chk (a.length+1<=1073741824) <|
    some (.inl (a++[c]))
   else
    chk (0<=(i64.wrap ((b:Int)-1))/\(i64.wrap ((b:Int)-1))<(e.length:Int)) <|
    (e[(A0 (i64.wrap ((b:Int)-1)))]?).bind fun d=>
    if (sEq d c)=true then
     some (.inl a)
    else
     chk (a.length+1<=1073741824) <|
     some (.inl (a++[c])))
  (fun a=>
   some a)
  e 0 []
def Zac (e:Zg) (f:Int):Option (List ByteArray):=
 forL (σ:=(List ByteArray))
  (fun (g:Nat) (b:Zl) a=>
   if (decide ((g:Int)<f))=true then
    if (b.kind==1)=true then
     (Zai b.pattern.args).bind fun c=>
     chk (a.length+c.length<=1073741824) <|
     some (.inl (a++c))
    else
     some (.inl a)
   else
    some (.inl a))
  (fun a=>
   (Yy a).bind fun d=>
   some d)
  e.cond 0 []
def Xv (b:List ByteArray) (c:ByteArray):Option Bool:=
 forL (σ:=Unit)
  (fun (d:Nat) (a:ByteArray) _=>
   if (sEq a c)=true then
    some (.inr true)
   else
    some (.inl ()))
  (fun _=>
   some false)
  b 0 ()
def ZhS (a:Zl):Option (List ByteArray):=
 (Zbx a.pattern.args).bind fun b=>
 chk (b.length+2<=1073741824) <|
 some (b++[a.left,a.right])
def QI (c:Zl):Option (List ByteArray):=
 (ZhS c).bind fun d=>
 (Zai d).bind fun a=>
 (Yy a).bind fun b=>
 some b
def XT (g:Zg) (h:Int) (a:ByteArray):Option Bool:=
 forL (σ:=Unit)
  (fun (i:Nat) (b:Zl) _=>
   if ((i:Int) != h)=true then
    (QI b).bind fun c=>
    (Xv c a).bind fun d=>
    if d=true then
     some (.inr true)
    else
     some (.inl ())
   else
    some (.inl ()))
  (fun _=>
   forL (σ:=Unit)
    (fun (j:Nat) (e:Zu) _=>
     (Xv e.pattern.args a).bind fun f=>
     if f=true then
      some (.inr true)
     else
      some (.inl ()))
    (fun _=>
     some false)
    g.thn 0 ())
  g.cond 0 ()
def Zcd (a:Zg) (b:Int):Option Bool:=
 (atI a.cond b).bind fun c=>
 (Zac a b).bind fun e=>
 (QI c).bind fun f=>
 forL (σ:=Unit)
  (fun (h:Nat) (d:ByteArray) _=>
   if (c.kind==1)=true then
    some (.inl ())
   else
    (Xv e d).bind fun g=>
    if g=true then
     some (.inl ())
    else
     if (c.kind != 2)=true then
      some (.inr false)
     else
      (XT a b d).bind fun i=>
      if i=true then
       some (.inr false)
      else
       some (.inl ()))
  (fun _=>
   some true)
  f 0 ()
def ZeA (c:Zu):Option Bool:=
 if (c.kind==1)=true then
  (Xp c.pattern).bind fun d=>
  some d
 else
  if (c.kind==2)=true then
   (Xp c.pattern).bind fun a=>
   some a
  else
   if (c.kind==3)=true then
    (Xt c.pattern).bind fun b=>
    some b
   else
    some false
def ZbK (d:List Zl):Option (List ByteArray):=
 forL (σ:=(List ByteArray))
  (fun (e:Nat) (c:Zl) a=>
   (QI c).bind fun b=>
   chk (a.length+b.length<=1073741824) <|
   some (.inl (a++b)))
  (fun a=>
   some a)
  d 0 []
def Zex (h:Zg):Option Bool:=
 (Zey h.name).bind fun o=>
 if o=true then
  if (decide (h.priority<0))=true then
   some false
  else
   if (decide (9<h.priority))=true then
    some false
   else
    if (decide ((h.cond.length:Int)<1))=true then
     some false
    else
     if (decide (4<(h.cond.length:Int)))=true then
      some false
     else
      if (decide ((h.thn.length:Int)<1))=true then
       some false
      else
       if (decide (2<(h.thn.length:Int)))=true then
        some false
       else
        forL (σ:=Unit)
         (fun (n:Nat) (a:Zl) _=>
          (Zeh a).bind fun c=>
          if c=true then
           if ((n:Int)==0)=true then
            if (a.kind != 1)=true then
             some (.inr false)
            else
             (Zcd h (n:Int)).bind fun d=>
             if d=true then
              some (.inl ())
             else
              some (.inr false)
           else
            (Zcd h (n:Int)).bind fun e=>
            if e=true then
             some (.inl ())
            else
             some (.inr false)
          else
           some (.inr false))
         (fun _=>
          (Zac h (h.cond.length:Int)).bind fun f=>
          forL (σ:=Unit)
           (fun (p:Nat) (b:Zu) _=>
            (ZeA b).bind fun g=>
            if g=true then
             (Zai b.pattern.args).bind fun i=>
             forL (σ:=Unit)
              (fun (q:Nat) (j:ByteArray) _=>
               (Xv f j).bind fun k=>
               if k=true then
                some (.inl ())
               else
                some (.inr (.inr false)))
              (fun _=>
               some (.inl ()))
              i 0 ()
            else
             some (.inr false))
           (fun _=>
            (ZbK h.cond).bind fun l=>
            (Yy l).bind fun m=>
            some (decide ((m.length:Int)<=6)))
           h.thn 0 ())
         h.cond 0 ()
 else
  some false
def Zbd (b:List Zg) (c:ByteArray):Option Int:=
 forL (σ:=Unit)
  (fun (d:Nat) (a:Zg) _=>
   if (sEq a.name c)=true then
    some (.inr (d:Int))
   else
    some (.inl ()))
  (fun _=>
   some (-1))
  b 0 ()
def Zd7 (d:List Zg):Option Bool:=
 if (decide (6<(d.length:Int)))=true then
  some false
 else
  forL (σ:=Unit)
   (fun (e:Nat) (a:Zg) _=>
    (Zex a).bind fun b=>
    if b=true then
     (Zbd d a.name).bind fun c=>
     if (c != (e:Int))=true then
      some (.inr false)
     else
      some (.inl ())
    else
     some (.inr false))
   (fun _=>
    some true)
   d 0 ()
def Zeg (b:Zg):Option Bool:=
 forL (σ:=Unit)
  (fun (c:Nat) (a:Zu) _=>
   if (a.kind != 1)=true then
    some (.inr false)
   else
    some (.inl ()))
  (fun _=>
   some true)
  b.thn 0 ()
def Zc0 (g:Zg):Option Bool:=
 (Zex g).bind fun h=>
 if h=true then
  (Zeg g).bind fun b=>
  if b=true then
   forL (σ:=Unit)
    (fun (i:Nat) (a:Zl) _=>
     if (a.kind != 2)=true then
      some (.inl ())
     else
      (Zac g (i:Int)).bind fun c=>
      (QI a).bind fun d=>
      forL (σ:=Unit)
       (fun (j:Nat) (e:ByteArray) _=>
        (Xv c e).bind fun f=>
        if f=true then
         some (.inl ())
        else
         some (.inr (.inr false)))
       (fun _=>
        some (.inl ()))
       d 0 ())
    (fun _=>
     some true)
    g.cond 0 ()
  else
   some false
 else
  some false
def QR (d:Zg):Option (List ByteArray):=
 forL (σ:=(List ByteArray))
  (fun (e:Nat) (b:Zu) a=>
   if (b.kind==1)=true then
    chk (a.length+1<=1073741824) <|
    some (.inl (a++[b.pattern.rel]))
   else
    if (b.kind==2)=true then
     chk (a.length+1<=1073741824) <|
     some (.inl (a++[b.pattern.rel]))
    else
     some (.inl a))
  (fun a=>
   (Yy a).bind fun c=>
   some c)
  d.thn 0 []
def Zcp (d:Zg):Option (List ByteArray):=
 forL (σ:=(List ByteArray))
  (fun (e:Nat) (b:Zl) a=>
   if (b.kind==1)=true then
    chk (a.length+1<=1073741824) <|
    some (.inl (a++[b.pattern.rel]))
   else
    if (b.kind==2)=true then
     chk (a.length+1<=1073741824) <|
     some (.inl (a++[b.pattern.rel]))
    else
     some (.inl a))
  (fun a=>
   (Yy a).bind fun c=>
   some c)
  d.cond 0 []
def Zeo (h:List Zg) (n:ByteArray):Option (List (ByteArray×Bool)):=
 iter (σ:=(List (ByteArray×Bool))×(List ByteArray))
  (fun s=>
   match s with
   |(g,a)=>
   if (decide (0<(a.length:Int)))=true then
    chk (0<=0/\0<(a.length:Int)) <|
    (a[(A0 0)]?).bind fun j=>
    chk (0<=1/\1<=(a.length:Int)) <|
    forL (σ:=(List (ByteArray×Bool))×(List ByteArray))
     (fun (o:Nat) (i:Zg) s=>
      match s with
      |(d,e)=>
      (QR i).bind fun k=>
      (Xv k j).bind fun l=>
      if l=true then
       (Zcp i).bind fun m=>
       forL (σ:=(List (ByteArray×Bool))×(List ByteArray))
        (fun (p:Nat) (f:ByteArray) s=>
         match s with
         |(b,c)=>
         if (ZaJ b f false)=true then
          some (.inl (b,c))
         else
          chk (c.length+1<=1073741824) <|
          some (.inl ((Zf4 b f true),(c++[f]))))
        (fun s=>
         match s with
         |(b,c)=>
         some (.inl (b,c)))
        m 0 (d,e)
      else
       some (.inl (d,e)))
     (fun s=>
      match s with
      |(d,e)=>
      some (.inl (d,e)))
     h 0 (g,(A6 (A0 1) a))
   else
    some (.inr g))
  ([],[n])
def ZbT (g:List Zg):Option Bool:=
 (Zd7 g).bind fun h=>
 if h=true then
  forL (σ:=Unit)
   (fun (i:Nat) (a:Zg) _=>
    (Zc0 a).bind fun d=>
    if d=true then
     forL (σ:=Unit)
      (fun (j:Nat) (b:Zl) _=>
       if (b.kind != 2)=true then
        some (.inl ())
       else
        (Zeo g b.pattern.rel).bind fun e=>
        (QR a).bind fun f=>
        forL (σ:=Unit)
         (fun (k:Nat) (c:ByteArray) _=>
          if (sEq c b.pattern.rel)=true then
           some (.inr (.inr (.inr false)))
          else
           if (ZaJ e c false)=true then
            some (.inr (.inr (.inr false)))
           else
            some (.inl ()))
         (fun _=>
          some (.inl ()))
         f 0 ())
      (fun _=>
       some (.inl ()))
      a.cond 0 ()
    else
     some (.inr false))
   (fun _=>
    some true)
   g 0 ()
 else
  some false
def Zei (a:List Zc):Option Bool:=
 if (decide (24<(a.length:Int)))=true then
  some false
 else
  forL (σ:=Unit)
   (fun (b:Nat) (c:Zc) _=>
    (ZfO c).bind fun d=>
    if d=true then
     if (decide (0<(b:Int)))=true then
      (atI a (i64.wrap ((b:Int)-1))).bind fun e=>
      (Qn e c).bind fun f=>
      if (decide (0<=f))=true then
       some (.inr false)
      else
       some (.inl ())
     else
      some (.inl ())
    else
     some (.inr false))
   (fun _=>
    some true)
   a 0 ()
def YB (h:List Zg) (n:List Zc):Option ((List Zc)×Bool):=
 (ZbT h).bind fun r=>
 if r=true then
  (Zei n).bind fun k=>
  if k=true then
   (Zad n).bind fun l=>
   iter (σ:=(List Zc)×Bool)
    (fun s=>
     match s with
     |(g,m)=>
     if m=true then
      forL (σ:=(List Zc)×Bool)
       (fun (w:Nat) (i:Zg) s=>
        match s with
        |(b,c)=>
        (Xb i).bind fun o=>
        (Zao o b).bind fun p=>
        forL (σ:=(List Zc)×Bool)
         (fun (x:Nat) (q:Zq) s=>
          match s with
          |(d,e)=>
          forL (σ:=(List Zc)×Bool)
           (fun (y:Nat) (t:Zu) s=>
            match s with
            |(a,f)=>
            (QL t.pattern q.binding).bind fun j=>
            (Yl a j.1).bind fun u=>
            if (decide (0<=u))=true then
             some (.inl (a,f))
            else
             if (decide (24<=(a.length:Int)))=true then
              some (.inr (.inr (.inr (.inr ([],false)))))
             else
              (Qv a j.1).bind fun v=>
              some (.inl (v,true)))
           (fun s=>
            match s with
            |(a,f)=>
            some (.inl (a,f)))
           i.thn 0 (d,e))
         (fun s=>
          match s with
          |(d,e)=>
          some (.inl (d,e)))
         p 0 (b,c))
       (fun s=>
        match s with
        |(b,c)=>
        some (.inl (b,c)))
       h 0 (g,false)
     else
      some (.inr (g,true)))
    (l,true)
  else
   some ([],false)
 else
  some ([],false)
def ZgY (b:List Int) (c:Int):Option Bool:=
 forL (σ:=Unit)
  (fun (d:Nat) (a:Int) _=>
   if (a==c)=true then
    some (.inr true)
   else
    some (.inl ()))
  (fun _=>
   some false)
  b 0 ()
def ZdB (f:List Zc) (g:List Zc):Option (List Int):=
 forL (σ:=(List Int))
  (fun (h:Nat) (c:Zc) a=>
   (Yl f c).bind fun b=>
   if (decide (0<=b))=true then
    (ZgY a b).bind fun d=>
    if d=true then
     some (.inl a)
    else
     chk (a.length+1<=1073741824) <|
     some (.inl (a++[b]))
   else
    some (.inl a))
  (fun a=>
   (Zf8 a).bind fun e=>
   some e)
  g 0 []
def Zcj (e:List Int) (a:List Int):Option Bool:=
 if ((e.length:Int) != (a.length:Int))=true then
  some false
 else
  forL (σ:=Unit)
   (fun (b:Nat) (c:Int) _=>
    (atI a (b:Int)).bind fun d=>
    if (c != d)=true then
     some (.inr false)
    else
     some (.inl ()))
   (fun _=>
    some true)
   e 0 ()
def Zb1 (b:Zf) (c:Zf):Option Bool:=
 if (b.for_==c.for_)=true then
  (Zcj b.inn c.inn).bind fun d=>
  if d=true then
   (Zcj b.outs c.outs).bind fun a=>
   some a
  else
   some false
 else
  some false
def Zbr (c:List Zf) (d:Zf):Option Bool:=
 forL (σ:=Unit)
  (fun (e:Nat) (a:Zf) _=>
   (Zb1 a d).bind fun b=>
   if b=true then
    some (.inr true)
   else
    some (.inl ()))
  (fun _=>
   some false)
  c 0 ()
def ZJz (n:List Zg) (r:List Zc):Option ((List Zc)×Zt×(List Za4)×Bool):=
 (YB n r).bind fun h=>
 if h.2=true then
  forL (σ:=(List Zf)×(List Za4))
   (fun (aa:Nat) (t:Zc) s=>
    match s with
    |(d,e)=>
    (Yl h.1 t).bind fun u=>
    chk (d.length+1<=1073741824) <|
    chk (e.length+1<=1073741824) <|
    some (.inl ((d++[({for_:=u,inn:=[],outs:=[]}:Zf)]),(e++[({rule:=(⟨#[]⟩),facts:=[]}:Za4)]))))
   (fun s=>
    match s with
    |(d,e)=>
    forL (σ:=(List Zf)×(List Za4))
     (fun (ab:Nat) (f:Zg) s=>
      match s with
      |(g,j)=>
      (Xb f).bind fun v=>
      (Zao v h.1).bind fun w=>
      forL (σ:=(List Zf)×(List Za4))
       (fun (ac:Nat) (i:Zq) s=>
        match s with
        |(k,l)=>
        forL (σ:=(List Zc))
         (fun (ad:Nat) (m:Zl) b=>
          if (m.kind==2)=true then
           (QL m.pattern i.binding).bind fun x=>
           chk (b.length+1<=1073741824) <|
           some (.inl (b++[x.1]))
          else
           some (.inl b))
         (fun b=>
          forL (σ:=(List Zf)×(List Za4))
           (fun (ae:Nat) (y:Zu) s=>
            match s with
            |(a,c)=>
            (QL y.pattern i.binding).bind fun z=>
            (Yl h.1 z.1).bind fun o=>
            (ZdB h.1 i.facts).bind fun p=>
            (ZdB h.1 b).bind fun q=>
            (Zbr a ({for_:=o,inn:=p,outs:=q}:Zf)).bind fun A=>
            if A=true then
             some (.inl (a,c))
            else
             chk (a.length+1<=1073741824) <|
             chk (c.length+1<=1073741824) <|
             some (.inl ((a++[({for_:=o,inn:=p,outs:=q}:Zf)]),(c++[({rule:=f.name,facts:=i.facts}:Za4)]))))
           (fun s=>
            match s with
            |(a,c)=>
            some (.inl (a,c)))
           f.thn 0 (k,l))
         f.cond 0 [])
       (fun s=>
        match s with
        |(k,l)=>
        some (.inl (k,l)))
       w 0 (g,j))
     (fun s=>
      match s with
      |(g,j)=>
      if (decide (60<(g.length:Int)))=true then
       some ([],({nodes:=0,reasons:=[]}:Zt),[],false)
      else
       some (h.1,({nodes:=(h.1.length:Int),reasons:=g}:Zt),j,true))
     n 0 (d,e))
   r 0 ([],[])
 else
  some ([],({nodes:=0,reasons:=[]}:Zt),[],false)
def ZbJ (n:List Zg) (r:List Zc):Option ((List Zc)×Zt×(List Za4)×Bool):=
 (YB n r).bind fun h=>
 if h.2=true then
  forL (σ:=(List Zf)×(List Za4))
   (fun (aa:Nat) (t:Zc) s=>
    match s with
    |(d,e)=>
    (Yl h.1 t).bind fun u=>
    chk (d.length+1<=1073741824) <|
    chk (e.length+1<=1073741824) <|
    some (.inl ((d++[({for_:=u,inn:=[],outs:=[]}:Zf)]),(e++[({rule:=(⟨#[]⟩),facts:=[]}:Za4)]))))
   (fun s=>
    match s with
    |(d,e)=>
    forL (σ:=(List Zf)×(List Za4))
     (fun (ab:Nat) (f:Zg) s=>
      match s with
      |(g,j)=>
      (Xb f).bind fun v=>
      (Zao v h.1).bind fun w=>
      forL (σ:=(List Zf)×(List Za4))
       (fun (ac:Nat) (i:Zq) s=>
        match s with
        |(k,l)=>
        forL (σ:=(List Zc))
         (fun (ad:Nat) (m:Zl) b=>
          if (m.kind==2)=true then
           (QL m.pattern i.binding).bind fun x=>
           chk (b.length+1<=1073741824) <|
           some (.inl (b++[x.1]))
          else
           some (.inl b))
         (fun b=>
          forL (σ:=(List Zf)×(List Za4))
           (fun (ae:Nat) (y:Zu) s=>
            match s with
            |(a,c)=>
            (QL y.pattern i.binding).bind fun z=>
            (Yl h.1 z.1).bind fun o=>
            (ZdB h.1 i.facts).bind fun p=>
            (ZdB h.1 b).bind fun q=>
            (Zbr a ({for_:=o,inn:=p,outs:=q}:Zf)).bind fun A=>
            if A=true then
             some (.inl (a,c))
            else
             chk (a.length+1<=1073741824) <|
             chk (c.length+1<=1073741824) <|
             some (.inl ((a++[({for_:=o,inn:=p,outs:=q}:Zf)]),(c++[({rule:=f.name,facts:=i.facts}:Za4)]))))
           (fun s=>
            match s with
            |(a,c)=>
            some (.inl (a,c)))
           f.thn 0 (k,l))
         f.cond 0 [])
       (fun s=>
        match s with
        |(k,l)=>
        some (.inl (k,l)))
       w 0 (g,j))
     (fun s=>
      match s with
      |(g,j)=>
      if (decide (60<(g.length:Int)))=true then
       some ([],({nodes:=0,reasons:=[]}:Zt),[],false)
      else
       some (h.1,({nodes:=(h.1.length:Int),reasons:=g}:Zt),j,true))
     n 0 (d,e))
   r 0 ([],[])
 else
  some ([],({nodes:=0,reasons:=[]}:Zt),[],false)
def QV (b:List Zg) (c:List Zc):Option ((List Zc)×Zt×Bool):=
 (ZbJ b c).bind fun a=>
 some (a.1,a.2.1,a.2.2.2)
def ZgM (d:Zt):Option (List Int):=
 chk (0<=d.nodes/\d.nodes<=1073741824) <|
 iter (σ:=(List Int)×Bool)
  (fun s=>
   match s with
   |(j,o)=>
   if o=true then
    forL (σ:=(List Int)×Bool)
     (fun (h:Nat) (b:Zf) s=>
      match s with
      |(a,f)=>
      chk (0<=b.for_/\b.for_<(a.length:Int)) <|
      (a[(A0 b.for_)]?).bind fun k=>
      forL (σ:=Int)
       (fun (n:Nat) (g:Int) e=>
        chk (0<=g/\g<(a.length:Int)) <|
        (a[(A0 g)]?).bind fun l=>
        some (.inl (if e<l then l else e)))
       (fun e=>
        forL (σ:=Int)
         (fun (p:Nat) (i:Int) c=>
          chk (0<=i/\i<(a.length:Int)) <|
          (a[(A0 i)]?).bind fun m=>
          some (.inl (if c<(i64.wrap (m+1)) then (i64.wrap (m+1)) else c)))
         (fun c=>
          if (decide (k<c))=true then
           some (.inl ((A7 a (A0 b.for_) c),true))
          else
           some (.inl (a,f)))
         b.outs 0 e)
       b.inn 0 k)
     (fun s=>
      match s with
      |(a,f)=>
      some (.inl (a,f)))
     d.reasons 0 (j,false)
   else
    some (.inr j))
  ((AA (A0 d.nodes) 0),true)
def Zbq (f:Zf) (a:List Int) (g:Int):Option Bool:=
 forL (σ:=Unit)
  (fun (h:Nat) (c:Int) _=>
   (atI a c).bind fun b=>
   if (decide (b<0))=true then
    some (.inr false)
   else
    if (decide (g<=b))=true then
     some (.inr false)
    else
     some (.inl ()))
  (fun _=>
   forL (σ:=Unit)
    (fun (i:Nat) (d:Int) _=>
     (atI a d).bind fun e=>
     if (decide (0<=e))=true then
      some (.inr false)
     else
      some (.inl ()))
    (fun _=>
     some true)
    f.outs 0 ())
  f.inn 0 ()
def ZhI (d:Zt):Option (List Int):=
 (ZgM d).bind fun h=>
 chk (0<=d.nodes/\d.nodes<=1073741824) <|
 iter (σ:=(List Int)×Int×Int)
  (fun s=>
   match s with
   |(g,a,l)=>
   if (decide (a<((A0 d.nodes:Nat):Int)))=true then
    chk (0<=a/\a<(g.length:Int)) <|
    (g[(A0 a)]?).bind fun t=>
    chk (a<(h.length:Int)) <|
    (h[(A0 a)]?).bind fun m=>
    some (.inl ((A7 g (A0 a) (-1)),(i64.wrap (a+1)),(if l<m then m else l)))
   else
    iter (σ:=(List Int)×Int×Int)
     (fun s=>
      match s with
      |(e,i,j)=>
      if (decide (j<=l))=true then
       forL (σ:=(List Int))
        (fun (n:Nat) (c:Zf) b=>
         chk (0<=c.for_/\c.for_<(h.length:Int)) <|
         (h[(A0 c.for_)]?).bind fun o=>
         if (o==j)=true then
          chk (c.for_<(e.length:Int)) <|
          (e[(A0 c.for_)]?).bind fun p=>
          if (decide (p<0))=true then
           (Zbq c e i).bind fun q=>
           if q=true then
            chk (b.length+1<=1073741824) <|
            some (.inl (b++[c.for_]))
           else
            some (.inl b)
          else
           some (.inl b)
         else
          some (.inl b))
        (fun b=>
         if ((b.length:Int)==0)=true then
          some (.inl (e,i,(i64.wrap (j+1))))
         else
          forL (σ:=(List Int))
           (fun (r:Nat) (k:Int) f=>
            chk (0<=k/\k<(f.length:Int)) <|
            (f[(A0 k)]?).bind fun u=>
            some (.inl (A7 f (A0 k) i)))
           (fun f=>
            some (.inl (f,(i64.wrap (i+1)),j)))
           b 0 e)
        d.reasons 0 []
      else
       some (.inr (.inr e)))
     (g,0,0))
  ((AA (A0 d.nodes) 0),0,0)
def Zhs (c:Zt):Option (List Bool):=
 (ZhI c).bind fun d=>
 forL (σ:=(List Bool))
  (fun (e:Nat) (b:Int) a=>
   chk (a.length+1<=1073741824) <|
   some (.inl (a++[(decide (0<=b))])))
  (fun a=>
   some a)
  d 0 []
def Zec (b:List Zc) (g:Zt):Option (List Zc):=
 (Zhs g).bind fun h=>
 forL (σ:=(List Zc))
  (fun (c:Nat) (d:Bool) a=>
   if d=true then
    (atI b (c:Int)).bind fun e=>
    (YE e).bind fun f=>
    chk (a.length+1<=1073741824) <|
    some (.inl (a++[f]))
   else
    some (.inl a))
  (fun a=>
   some a)
  h 0 []
def Zbi (c:List Zg) (d:List Zc):Option ((List Zc)×Bool):=
 (QV c d).bind fun b=>
 if b.2.2=true then
  (Zec b.1 b.2.1).bind fun a=>
  some (a,true)
 else
  some ([],false)
def ZHj (c:List Zi) (d:List Zi):Option Bool:=
 forL (σ:=Unit)
  (fun (e:Nat) (a:Zi) _=>
   (Zbt d a.var).bind fun b=>
   if b.2=true then
    if (sEq b.1 a.value)=true then
     some (.inl ())
    else
     some (.inr false)
   else
    some (.inl ()))
  (fun _=>
   some true)
  c 0 ()
def ZHb (b:Zg) (d:List Zc) (h:List Zi):Option Int:=
 iter (σ:=Int×Int)
  (fun s=>
   match s with
   |(c,a)=>
   if (decide (a<=(b.cond.length:Int)))=true then
    chk (0<=a/\a<=(b.cond.length:Int)) <|
    (Zao (A6 0 (AC (A0 a) b.cond)) d).bind fun e=>
    forL (σ:=Unit)
     (fun (i:Nat) (f:Zq) _=>
      (ZHj f.binding h).bind fun g=>
      if g=true then
       some (.inr (.inl (a,(i64.wrap (a+1)))))
      else
       some (.inl ()))
     (fun _=>
      some (.inl (c,(i64.wrap (a+1)))))
     e 0 ()
   else
    some (.inr c))
  (0,0)
def ZHV (a:List ByteArray) (b:ByteArray):Option ByteArray:=
 (ZIa a b).bind fun c=>
 some c
def ZGZ (b:Zx):Option ByteArray:=
 (Xp b).bind fun c=>
 if c=true then
  chk (b.rel.size+(⟨#[40]⟩:ByteArray).size<=9223372036854775807) <|
  (ZHV b.args (⟨#[44]⟩)).bind fun a=>
  chk ((b.rel++(⟨#[40]⟩:ByteArray)).size+a.size<=9223372036854775807) <|
  chk (((b.rel++(⟨#[40]⟩:ByteArray))++a).size+(⟨#[41]⟩:ByteArray).size<=9223372036854775807) <|
  some (((b.rel++(⟨#[40]⟩:ByteArray))++a)++(⟨#[41]⟩:ByteArray))
 else
  some (⟨#[]⟩)
def ZG3 (b:Zl):Option ByteArray:=
 (Zeh b).bind fun c=>
 if c=true then
  if b.kind=1 then ZGZ b.pattern
  else if b.kind=2 then (ZGZ b.pattern).bind fun a=>if a.size<=1048576 then some ((⟨#[110,111,116,32]⟩:ByteArray)++a) else none
  else if 3<=b.kind/\b.kind<=5/\b.left.size<=1048576/\b.right.size<=1048576 then some ((b.left++ZHL b.kind)++b.right) else none
 else some ⟨#[]⟩
def ZHk (m:List Zg) (n:List Zc) (d:Zc):Option ((List Zwt)×Bool):=
 (Zbi m n).bind fun h=>
 if h.2=true then
  (ZfO d).bind fun g=>
  if g=true then
   (Yl h.1 d).bind fun i=>
   if (decide (0<=i))=true then
    some ([],false)
   else
    forL (σ:=(List Zwt))
     (fun (o:Nat) (b:Zg) e=>
      forL (σ:=(List Zwt))
       (fun (p:Nat) (j:Zu) a=>
        (QF j.pattern d []).bind fun f=>
        if f.2=true then
         (ZHb b h.1 f.1).bind fun c=>
         if (decide (c<(b.cond.length:Int)))=true then
          (atI b.cond c).bind fun k=>
          (ZG3 k).bind fun l=>
          chk (a.length+1<=1073741824) <|
          some (.inl (a++[({rule:=b.name,done:=c,cond:=l}:Zwt)]))
         else
          chk (a.length+1<=1073741824) <|
          some (.inl (a++[({rule:=b.name,done:=c,cond:=(⟨#[]⟩)}:Zwt)]))
        else
         some (.inl a))
       (fun a=>
        some (.inl a))
       b.thn 0 e)
     (fun e=>
      some (e,true))
     m 0 []
  else
   some ([],false)
 else
  some ([],false)
def ZJg (b:Zc):Option ByteArray:=
 (ZfO b).bind fun c=>
 if c=true then
  chk (b.rel.size+(⟨#[40]⟩:ByteArray).size<=9223372036854775807) <|
  (ZHV b.args (⟨#[44]⟩)).bind fun a=>
  chk ((b.rel++(⟨#[40]⟩:ByteArray)).size+a.size<=9223372036854775807) <|
  chk (((b.rel++(⟨#[40]⟩:ByteArray))++a).size+(⟨#[41]⟩:ByteArray).size<=9223372036854775807) <|
  some (((b.rel++(⟨#[40]⟩:ByteArray))++a)++(⟨#[41]⟩:ByteArray))
 else
  some (⟨#[]⟩)
def ZJi (e:ZzC):Option ByteArray:=
 (ZfO e.fact).bind fun f=>
 if f=true then
  (ZJg e.fact).bind fun a=>
  if (sEq e.rule ⟨#[]⟩)=true then
   chk (a.size+(⟨#[32,103,105,118,101,110]⟩:ByteArray).size<=9223372036854775807) <|
   some (a++(⟨#[32,103,105,118,101,110]⟩:ByteArray))
  else
   chk ((⟨#[32,98,121,32]⟩:ByteArray).size+e.rule.size<=9223372036854775807) <|
   chk (((⟨#[32,98,121,32]⟩:ByteArray)++e.rule).size+(⟨#[32,102,114,111,109]⟩:ByteArray).size<=9223372036854775807) <|
   chk (a.size+(((⟨#[32,98,121,32]⟩:ByteArray)++e.rule)++(⟨#[32,102,114,111,109]⟩:ByteArray)).size<=9223372036854775807) <|
   forL (σ:=ByteArray)
    (fun (g:Nat) (d:Int) b=>
     (Zbu d).bind fun c=>
     chk ((⟨#[32]⟩:ByteArray).size+c.size<=9223372036854775807) <|
     chk (b.size+((⟨#[32]⟩:ByteArray)++c).size<=9223372036854775807) <|
     some (.inl (b++((⟨#[32]⟩:ByteArray)++c))))
    (fun b=>
     some b)
    e.uses 0 (a++(((⟨#[32,98,121,32]⟩:ByteArray)++e.rule)++(⟨#[32,102,114,111,109]⟩:ByteArray)))
 else
  some (⟨#[]⟩)
def ZJs (c:List ZzC) (d:Zc):Option Int:=
 forL (σ:=Unit)
  (fun (e:Nat) (a:ZzC) _=>
   (Zca a.fact d).bind fun b=>
   if b=true then
    some (.inr (e:Int))
   else
    some (.inl ()))
  (fun _=>
   some (-1))
  c 0 ()
def ZIU (b:List Int) (e:Int):Option Bool:=
 forL (σ:=Unit)
  (fun (c:Nat) (a:Int) _=>
   if (decide (a<0))=true then
    some (.inr false)
   else
    if (decide (e<=a))=true then
     some (.inr false)
    else
     if (decide (0<(c:Int)))=true then
      (atI b (i64.wrap ((c:Int)-1))).bind fun d=>
      if (decide (a<=d))=true then
       some (.inr false)
      else
       some (.inl ())
     else
      some (.inl ()))
  (fun _=>
   some true)
  b 0 ()
def ZJt (d:Zt):Option Bool:=
 if (decide (d.nodes<0))=true then
  some false
 else
  if (decide (24<d.nodes))=true then
   some false
  else
   if (decide (60<(d.reasons.length:Int)))=true then
    some false
   else
    forL (σ:=Unit)
     (fun (e:Nat) (a:Zf) _=>
      if (decide (a.for_<0))=true then
       some (.inr false)
      else
       if (decide (d.nodes<=a.for_))=true then
        some (.inr false)
       else
        (ZIU a.inn d.nodes).bind fun b=>
        if b=true then
         (ZIU a.outs d.nodes).bind fun c=>
         if c=true then
          some (.inl ())
         else
          some (.inr false)
        else
         some (.inr false))
     (fun _=>
      some true)
     d.reasons 0 ()
def ZJh (a:Zt):Option (List (List Bool)):=
 if ZK3 a=true then some (ZJR a.nodes.toNat a.reasons) else none
def ZIW (f:Zt):Option Bool:=
 (ZJt f).bind fun g=>
 if g=true then
  (ZJh f).bind fun c=>
  forL (σ:=Unit)
   (fun (h:Nat) (a:Zf) _=>
    forL (σ:=Unit)
     (fun (i:Nat) (b:Int) _=>
      if (b==a.for_)=true then
       some (.inr (.inr false))
      else
       (atI c b).bind fun d=>
       (atI d a.for_).bind fun e=>
       if e=true then
        some (.inr (.inr false))
       else
        some (.inl ()))
     (fun _=>
      some (.inl ()))
     a.outs 0 ())
   (fun _=>
    some true)
   f.reasons 0 ()
 else
  some false
def ZI1 (f:Zt) (b:List Int) (a:Int):Option Int:=
 if (decide (a<0))=true then
  some (-1)
 else
  if (decide (f.nodes<=a))=true then
   some (-1)
  else
   (atI b a).bind fun c=>
   if (decide (c<0))=true then
    some (-1)
   else
    forL (σ:=Unit)
     (fun (g:Nat) (d:Zf) _=>
      if (d.for_==a)=true then
       (Zbq d b c).bind fun e=>
       if e=true then
        some (.inr (g:Int))
       else
        some (.inl ())
      else
       some (.inl ()))
     (fun _=>
      some (-1))
     f.reasons 0 ()
def ZIX (b:Zt) (a:Int):Option (List Int):=
 (ZIW b).bind fun ok=>if ok=true then (ZhI b).bind fun rd=>ZJa (ZI1 b rd) ZgY b (((rd[a.toNat]?).getD 0).toNat+1) a [] else some []
def ZJd (m:List Zg) (n:List Zc) (o:Zc):Option ((List ZzC)×Bool):=
 (ZJz m n).bind fun h=>
 if h.2.2.2=true then
  (Yl h.1 o).bind fun f=>
  (ZIX h.2.1 f).bind fun d=>
  if ((d.length:Int)==0)=true then
   some ([],false)
  else
   forL (σ:=(List ZzC))
    (fun (p:Nat) (b:Int) a=>
     chk (0<=b/\b<(h.2.1.reasons.length:Int)) <|
     (h.2.1.reasons[(A0 b)]?).bind fun g=>
     (atI h.1 g.for_).bind fun i=>
     (YE i).bind fun j=>
     (atI h.2.2.1 b).bind fun e=>
     forL (σ:=(List Int))
      (fun (q:Nat) (k:Zc) c=>
       (ZJs a k).bind fun l=>
       chk (c.length+1<=1073741824) <|
       some (.inl (c++[l])))
      (fun c=>
       chk (a.length+1<=1073741824) <|
       some (.inl (a++[({fact:=j,rule:=e.rule,uses:=c}:ZzC)])))
      e.facts 0 [])
    (fun a=>
     some (a,true))
    d 0 []
 else
  some ([],false)
def ZI9 (a:Zwt):Option ByteArray:=
 chk (a.rule.size+(⟨#[32]⟩:ByteArray).size<=9223372036854775807) <|
 (Zbu a.done).bind fun b=>
 chk ((a.rule++(⟨#[32]⟩:ByteArray)).size+b.size<=9223372036854775807) <|
 chk (((a.rule++(⟨#[32]⟩:ByteArray))++b).size+(⟨#[32]⟩:ByteArray).size<=9223372036854775807) <|
 chk ((((a.rule++(⟨#[32]⟩:ByteArray))++b)++(⟨#[32]⟩:ByteArray)).size+a.cond.size<=9223372036854775807) <|
 some ((((a.rule++(⟨#[32]⟩:ByteArray))++b)++(⟨#[32]⟩:ByteArray))++a.cond)
def ZI0 (h:List Zg) (j:List Zc) (k:Zc):Option (List ByteArray):=
 (ZJd h j k).bind fun l=>
 if l.2=true then
  forL (σ:=(List ByteArray))
   (fun (m:Nat) (g:ZzC) a=>
    (Zbu (m:Int)).bind fun c=>
    chk (c.size+(⟨#[58,32]⟩:ByteArray).size<=9223372036854775807) <|
    (ZJi g).bind fun e=>
    chk ((c++(⟨#[58,32]⟩:ByteArray)).size+e.size<=9223372036854775807) <|
    chk (a.length+1<=1073741824) <|
    some (.inl (a++[((c++(⟨#[58,32]⟩:ByteArray))++e)])))
   (fun a=>
    some a)
   l.1 0 []
 else
  (ZHk h j k).bind fun d=>
  if d.2=true then
   if ((d.1.length:Int)==0)=true then
    some ([(⟨#[110,111,32,114,117,108,101]⟩)])
   else
    forL (σ:=(List ByteArray))
     (fun (n:Nat) (i:Zwt) b=>
      (ZI9 i).bind fun f=>
      chk ((⟨#[110,111,58,32]⟩:ByteArray).size+f.size<=9223372036854775807) <|
      chk (b.length+1<=1073741824) <|
      some (.inl (b++[((⟨#[110,111,58,32]⟩:ByteArray)++f)])))
     (fun b=>
      some b)
     d.1 0 []
  else
   some []
def ZO4 (a:List Int):Option Bool:=
 some (decide (4096<(a.length:Int)))
def ZNt (d:List Int):Option ZwG:=
 forL (σ:=Int)
  (fun (e:Nat) (c:Int) a=>
   if (decide ((e:Int)<4000))=true then
    some (.inl (ZFE .i64 (i64.wrap ((i64.wrap ((i64.wrap (a*167))+i64.wrap c))+29)) 1073741823))
   else
    some (.inr ({b:=d,i:=0,h:=a}:ZwG)))
  (fun a=>
   some ({b:=d,i:=0,h:=a}:ZwG))
  d 0 (i64.wrap (851207+(i64.wrap (3*(d.length:Int)))))
def ZM0 (a:ZwG):Option (Int×ZwG):=
 if (decide (a.i<(a.b.length:Int)))=true then
  (atI a.b a.i).bind fun c=>
  some ((ZFE .i64 (i64.wrap ((ZFE .i64 (ZEC .i64 (ZER .i64 (i64.wrap ((i64.wrap (a.h*6364136223846793005))+1442695040888963407)) 35) (ZER .i64 (i64.wrap ((i64.wrap (a.h*6364136223846793005))+1442695040888963407)) 45)) 255)+i64.wrap c)) 255),({b:=a.b,i:=(i64.wrap (a.i+1)),h:=(i64.wrap ((i64.wrap (a.h*6364136223846793005))+1442695040888963407))}:ZwG))
 else
  some ((ZFE .i64 (ZEC .i64 (ZER .i64 (i64.wrap ((i64.wrap (a.h*6364136223846793005))+1442695040888963407)) 35) (ZER .i64 (i64.wrap ((i64.wrap (a.h*6364136223846793005))+1442695040888963407)) 45)) 255),({b:=a.b,i:=a.i,h:=(i64.wrap ((i64.wrap (a.h*6364136223846793005))+1442695040888963407))}:ZwG))
def ZMw (e:ZwG) (d:Int):Option (Int×ZwG):=
 if (decide (d<=0))=true then
  some (0,e)
 else
  if (decide (d<=256))=true then
   (ZM0 e).bind fun f=>
   chk (¬d=0) <|
   some ((Int.tmod f.1 d),f.2)
  else
   (ZM0 e).bind fun a=>
   (ZM0 a.2).bind fun b=>
   (ZM0 b.2).bind fun c=>
   chk (¬d=0) <|
   some ((Int.tmod (i64.wrap ((i64.wrap ((i64.wrap (a.1*65536))+(i64.wrap (b.1*256))))+c.1)) d),c.2)
def ZMP (b:ZwG) (c:Int):Option (Bool×ZwG):=
 (ZMw b c).bind fun a=>
 some ((a.1==0),a.2)
def ZaQ (c:Int):Option ByteArray:=
 if (c==(-9223372036854775808))=true then
  some (⟨#[45,57,50,50,51,51,55,50,48,51,54,56,53,52,55,55,53,56,48,56]⟩)
 else
  if (decide (c<0))=true then
   none
  else
   iter (σ:=Int×ByteArray)
    (fun s=>
     match s with
     |(a,b)=>
     chk ((Xn [(IntKind.u8.wrap (i64.wrap (48+(Int.tmod a 10))))]).size+b.size<=9223372036854775807) <|
     if ((i64.wrap (Int.tdiv a 10))==0)=true then
      some (.inr ((Xn [(IntKind.u8.wrap (i64.wrap (48+(Int.tmod a 10))))])++b))
     else
      some (.inl ((i64.wrap (Int.tdiv a 10)),((Xn [(IntKind.u8.wrap (i64.wrap (48+(Int.tmod a 10))))])++b))))
    (c,⟨#[]⟩)
def Zbl (c:Int):Option ByteArray:=
 if (c==(-9223372036854775808))=true then
  some (⟨#[45,57,50,50,51,51,55,50,48,51,54,56,53,52,55,55,53,56,48,56]⟩)
 else
  if (decide (c<0))=true then
   (ZaQ (i64.wrap (0-c))).bind fun d=>
   chk ((⟨#[45]⟩:ByteArray).size+d.size<=9223372036854775807) <|
   some ((⟨#[45]⟩:ByteArray)++d)
  else
   iter (σ:=Int×ByteArray)
    (fun s=>
     match s with
     |(a,b)=>
     chk ((Xn [(IntKind.u8.wrap (i64.wrap (48+(Int.tmod a 10))))]).size+b.size<=9223372036854775807) <|
     if ((i64.wrap (Int.tdiv a 10))==0)=true then
      some (.inr ((Xn [(IntKind.u8.wrap (i64.wrap (48+(Int.tmod a 10))))])++b))
     else
      some (.inl ((i64.wrap (Int.tdiv a 10)),((Xn [(IntKind.u8.wrap (i64.wrap (48+(Int.tmod a 10))))])++b))))
    (c,⟨#[]⟩)
def Qr (a:Int) (b:Int) (c:Int):Option Bool:=
 if (decide (b<=a))=true then
  some (decide (a<=c))
 else
  some false
def Zag (d:ByteArray):Option (Int×Bool):=
 (Qr (d.size:Int) 1 4).bind fun e=>
 if e=true then
  forL (σ:=Int)
   (fun (f:Nat) (b:UInt8) a=>
    if (decide ((b.toNat:Int)<48))=true then
     some (.inr (0,false))
    else
     if (decide (57<(b.toNat:Int)))=true then
      some (.inr (0,false))
     else
      some (.inl (i64.wrap ((i64.wrap (10*a))+i64.wrap (IntKind.u8.wrap ((b.toNat:Int)-48))))))
   (fun a=>
    (Zbl a).bind fun c=>
    if (sEq c d)=true then
     some (a,true)
    else
     some (0,false))
   d.data.toList 0 0
 else
  some (0,false)
def ZMF (b:ByteArray) (c:ByteArray):Option (List ByteArray):=
 if (sEq c ⟨#[]⟩)=true then
  some [b]
 else
  iter (σ:=(List ByteArray)×Int×Int)
   (fun s=>
    match s with
    |(e,d,a)=>
    if (decide ((i64.wrap (a+(c.size:Int)))<=(b.size:Int)))=true then
     chk (0<=(i64.wrap (a+(c.size:Int)))/\(i64.wrap (a+(c.size:Int)))<=(b.size:Int)/\0<=a/\a<=(((A0 (i64.wrap (a+(c.size:Int)))):Nat):Int)) <|
     if (sEq (b.extract (A0 a) (A0 (i64.wrap (a+(c.size:Int))))) c)=true then
      chk (a<=(b.size:Int)/\0<=d/\d<=(((A0 a):Nat):Int)) <|
      chk (e.length+1<=1073741824) <|
      some (.inl ((e++[(b.extract (A0 d) (A0 a))]),(i64.wrap (a+(c.size:Int))),(i64.wrap (a+(c.size:Int)))))
     else
      some (.inl (e,d,(i64.wrap (a+1))))
    else
     chk (0<=d/\d<=(b.size:Int)) <|
     chk (e.length+1<=1073741824) <|
     some (.inr (e++[(b.extract (A0 d) b.size)])))
   ([],0,0)
def QT (e:ByteArray):Option Bool:=
 forL (σ:=Unit)
  (fun (f:Nat) (a:UInt8) _=>
   (Qr (i64.wrap (a.toNat:Int)) 97 122).bind fun b=>
   if b=true then
    some (.inl ())
   else
    (Qr (i64.wrap (a.toNat:Int)) 48 57).bind fun c=>
    if c=true then
     some (.inl ())
    else
     some (.inr false))
  (fun _=>
   (Qr (e.size:Int) 1 8).bind fun d=>
   some d)
  e.data.toList 0 ()
def ZdM (c:ByteArray):Option Bool:=
 (QT c).bind fun d=>
 if d=true then
  (sAt c 0).bind fun a=>
  (Qr (i64.wrap (a.toNat:Int)) 97 122).bind fun b=>
  some b
 else
  some false
def Za3 (a:ByteArray):Option Bool:=
 if (decide (1<(a.size:Int)))=true then
  (sAt a 0).bind fun b=>
  if ((b.toNat:Int)==63)=true then
   chk (0<=1/\1<=(a.size:Int)) <|
   (QT (a.extract (A0 1) a.size)).bind fun c=>
   some c
  else
   some false
 else
  some false
def Zaq (b:ByteArray):Option Bool:=
 (QT b).bind fun c=>
 if c=true then
  some true
 else
  (Za3 b).bind fun a=>
  some a
def Xq (d:Zx):Option Bool:=
 forL (σ:=Unit)
  (fun (e:Nat) (a:ByteArray) _=>
   (Zaq a).bind fun b=>
   if b=true then
    some (.inl ())
   else
    some (.inr false))
  (fun _=>
   (ZdM d.rel).bind fun c=>
   if c=true then
    some (decide ((d.args.length:Int)<=3))
   else
    some false)
  d.args 0 ()
def Zej (h:Zl):Option Bool:=
 if (h.kind==1)=true then
  (Xq h.pattern).bind fun i=>
  if i=true then
   if (sEq h.left ⟨#[]⟩)=true then
    some (sEq h.right ⟨#[]⟩)
   else
    some false
  else
   some false
 else
  if (h.kind==2)=true then
   (Xq h.pattern).bind fun a=>
   if a=true then
    if (sEq h.left ⟨#[]⟩)=true then
     some (sEq h.right ⟨#[]⟩)
    else
     some false
   else
    some false
  else
   if (h.kind==3)=true then
    if (sEq h.pattern.rel ⟨#[]⟩)=true then
     if ((h.pattern.args.length:Int)==0)=true then
      (Zaq h.left).bind fun b=>
      if b=true then
       (Zaq h.right).bind fun c=>
       some c
      else
       some false
     else
      some false
    else
     some false
   else
    if (h.kind==4)=true then
     if (sEq h.pattern.rel ⟨#[]⟩)=true then
      if ((h.pattern.args.length:Int)==0)=true then
       (Zaq h.left).bind fun d=>
       if d=true then
        (Zaq h.right).bind fun e=>
        some e
       else
        some false
      else
       some false
     else
      some false
    else
     if (h.kind==5)=true then
      if (sEq h.pattern.rel ⟨#[]⟩)=true then
       if ((h.pattern.args.length:Int)==0)=true then
        (Zaq h.left).bind fun f=>
        if f=true then
         (Zaq h.right).bind fun g=>
         some g
        else
         some false
       else
        some false
      else
       some false
     else
      some false
def Qd (e:List ByteArray) (d:ByteArray):Option (List ByteArray):=
 forL (σ:=(List ByteArray)×Bool)
  (fun (f:Nat) (b:ByteArray) s=>
   match s with
   |(a,c)=>
   if c=true then
    chk (a.length+1<=1073741824) <|
    some (.inl ((a++[b]),true))
   else
    if (sLt b d)=true then
     chk (a.length+1<=1073741824) <|
     some (.inl ((a++[b]),false))
    else
     if (sEq b d)=true then
      chk (a.length+1<=1073741824) <|
      some (.inl ((a++[b]),true))
     else
      chk (a.length+1<=1073741824) <|
      chk (a.length+1+1<=1073741824) <|
      some (.inl (((a++[d])++[b]),true)))
  (fun s=>
   match s with
   |(a,c)=>
   if c=true then
    some a
   else
    chk (a.length+1<=1073741824) <|
    some (a++[d]))
  e 0 ([],false)
def Zb5 (e:Zx):Option (List ByteArray):=
 forL (σ:=(List ByteArray))
  (fun (f:Nat) (b:ByteArray) a=>
   (Za3 b).bind fun c=>
   if c=true then
    (Qd a b).bind fun d=>
    some (.inl d)
   else
    some (.inl a))
  (fun a=>
   some a)
  e.args 0 []
def QH (g:Zg) (h:Int):Option (List ByteArray):=
 forL (σ:=(List ByteArray))
  (fun (i:Nat) (c:Zl) a=>
   if (decide ((i:Int)<h))=true then
    if (c.kind==1)=true then
     (Zb5 c.pattern).bind fun d=>
     forL (σ:=(List ByteArray))
      (fun (j:Nat) (e:ByteArray) b=>
       (Qd b e).bind fun f=>
       some (.inl f))
      (fun b=>
       some (.inl b))
      d 0 a
    else
     some (.inl a)
   else
    some (.inr a))
  (fun a=>
   some a)
  g.cond 0 []
def X3 (g:Zl):Option (List ByteArray):=
 (Zb5 g.pattern).bind fun h=>
 (Za3 g.left).bind fun b=>
 if b=true then
  (Qd h g.left).bind fun a=>
  (Za3 g.right).bind fun c=>
  if c=true then
   (Qd a g.right).bind fun d=>
   some d
  else
   some a
 else
  (Za3 g.right).bind fun e=>
  if e=true then
   (Qd h g.right).bind fun f=>
   some f
  else
   some h
def ZW (b:List ByteArray) (c:ByteArray):Option Bool:=
 forL (σ:=Unit)
  (fun (d:Nat) (a:ByteArray) _=>
   if (sEq a c)=true then
    some (.inr true)
   else
    some (.inl ()))
  (fun _=>
   some false)
  b 0 ()
def ZbV (a:Zl):Option Bool:=
 (Zej a).bind fun b=>
 if b=true then
  some (decide (3<=a.kind))
 else
  some false
def X5 (g:Zg) (i:Int) (h:ByteArray):Option Bool:=
 forL (σ:=Unit)
  (fun (j:Nat) (a:Zl) _=>
   if ((j:Int) != i)=true then
    (X3 a).bind fun b=>
    (ZW b h).bind fun c=>
    if c=true then
     some (.inr true)
    else
     some (.inl ())
   else
    some (.inl ()))
  (fun _=>
   forL (σ:=Unit)
    (fun (k:Nat) (d:Zu) _=>
     (Zb5 d.pattern).bind fun e=>
     (ZW e h).bind fun f=>
     if f=true then
      some (.inr true)
     else
      some (.inl ()))
    (fun _=>
     some false)
    g.thn 0 ())
  g.cond 0 ()
def Zer (b:Zu):Option Bool:=
 if (b.kind==1)=true then
  (Xq b.pattern).bind fun c=>
  some c
 else
  if (b.kind==2)=true then
   (Xq b.pattern).bind fun a=>
   some a
  else
   if (b.kind==3)=true then
    if (sEq b.pattern.rel ⟨#[]⟩)=true then
     some ((b.pattern.args.length:Int)==0)
    else
     some false
   else
    some false
def Zed (h:Zg):Option (List ByteArray):=
 forL (σ:=(List ByteArray))
  (fun (n:Nat) (e:Zl) a=>
   (X3 e).bind fun f=>
   forL (σ:=(List ByteArray))
    (fun (o:Nat) (g:ByteArray) b=>
     (Qd b g).bind fun i=>
     some (.inl i))
    (fun b=>
     some (.inl b))
    f 0 a)
  (fun a=>
   forL (σ:=(List ByteArray))
    (fun (p:Nat) (j:Zu) c=>
     (Zb5 j.pattern).bind fun k=>
     forL (σ:=(List ByteArray))
      (fun (q:Nat) (l:ByteArray) d=>
       (Qd d l).bind fun m=>
       some (.inl m))
      (fun d=>
       some (.inl d))
      k 0 c)
    (fun c=>
     some c)
    h.thn 0 a)
  h.cond 0 []
def ZcZ (h:Zg):Option Bool:=
 (ZdM h.name).bind fun r=>
 if r=true then
  (Qr h.priority 0 9).bind fun g=>
  if g=true then
   (Qr (h.cond.length:Int) 1 4).bind fun i=>
   if i=true then
    (Qr (h.thn.length:Int) 1 2).bind fun j=>
    if j=true then
     (QH h (h.cond.length:Int)).bind fun k=>
     forL (σ:=Unit)
      (fun (n:Nat) (a:Zl) _=>
       (Zej a).bind fun l=>
       if l=true then
        if ((n:Int)==0)=true then
         if (a.kind != 1)=true then
          some (.inr false)
         else
          (QH h (n:Int)).bind fun m=>
          (X3 a).bind fun o=>
          forL (σ:=Unit)
           (fun (s:Nat) (b:ByteArray) _=>
            (ZW m b).bind fun c=>
            (ZbV a).bind fun p=>
            if p=true then
             if c=true then
              if (a.kind==2)=true then
               some (.inl ())
              else
               some (.inl ())
             else
              some (.inr (.inr false))
            else
             if (a.kind==2)=true then
              if c=true then
               some (.inl ())
              else
               (X5 h (n:Int) b).bind fun q=>
               if q=true then
                some (.inr (.inr false))
               else
                some (.inl ())
             else
              some (.inl ()))
           (fun _=>
            some (.inl ()))
           o 0 ()
        else
         (QH h (n:Int)).bind fun t=>
         (X3 a).bind fun u=>
         forL (σ:=Unit)
          (fun (aa:Nat) (d:ByteArray) _=>
           (ZW t d).bind fun e=>
           (ZbV a).bind fun v=>
           if v=true then
            if e=true then
             if (a.kind==2)=true then
              some (.inl ())
             else
              some (.inl ())
            else
             some (.inr (.inr false))
           else
            if (a.kind==2)=true then
             if e=true then
              some (.inl ())
             else
              (X5 h (n:Int) d).bind fun w=>
              if w=true then
               some (.inr (.inr false))
              else
               some (.inl ())
            else
             some (.inl ()))
          (fun _=>
           some (.inl ()))
          u 0 ()
       else
        some (.inr false))
      (fun _=>
       forL (σ:=Unit)
        (fun (ab:Nat) (f:Zu) _=>
         (Zer f).bind fun x=>
         if x=true then
          (Zb5 f.pattern).bind fun y=>
          forL (σ:=Unit)
           (fun (ac:Nat) (z:ByteArray) _=>
            (ZW k z).bind fun A=>
            if A=true then
             some (.inl ())
            else
             some (.inr (.inr false)))
           (fun _=>
            some (.inl ()))
           y 0 ()
         else
          some (.inr false))
        (fun _=>
         (Zed h).bind fun B=>
         some (decide ((B.length:Int)<=6)))
        h.thn 0 ())
      h.cond 0 ()
    else
     some false
   else
    some false
  else
   some false
 else
  some false
def ZHq (a:Int):Option ByteArray:=
 if (a==3)=true then
  some (⟨#[32,61,32]⟩)
 else
  if (a==4)=true then
   some (⟨#[32,33,61,32]⟩)
  else
   some (⟨#[32,60,32]⟩)
def ZMX (g:ByteArray):Option (ByteArray×(List ByteArray)×Bool):=
 (ZMF g (⟨#[40]⟩)).bind fun f=>
 if ((f.length:Int) != 2)=true then
  some ((⟨#[]⟩),[],false)
 else
  chk (0<=1/\1<(f.length:Int)) <|
  (f[(A0 1)]?).bind fun a=>
  if ((a.size:Int)==0)=true then
   some ((⟨#[]⟩),[],false)
  else
   (sAt a (i64.wrap ((a.size:Int)-1))).bind fun b=>
   if ((b.toNat:Int) != 41)=true then
    some ((⟨#[]⟩),[],false)
   else
    chk (0<=(i64.wrap ((a.size:Int)-1))/\(i64.wrap ((a.size:Int)-1))<=(a.size:Int)) <|
    if (sEq (a.extract 0 (A0 (i64.wrap ((a.size:Int)-1)))) ⟨#[]⟩)=true then
     chk (0<=0/\0<(f.length:Int)) <|
     (f[(A0 0)]?).bind fun c=>
     some (c,[],true)
    else
     chk (0<=0/\0<(f.length:Int)) <|
     (f[(A0 0)]?).bind fun d=>
     (ZMF (a.extract 0 (A0 (i64.wrap ((a.size:Int)-1)))) (⟨#[44]⟩)).bind fun e=>
     some (d,e,true)
def ZMy (c:ByteArray):Option (Zx×Bool):=
 (ZMX c).bind fun b=>
 if b.2.2=true then
  (Xq ({rel:=b.1,args:=b.2.1}:Zx)).bind fun a=>
  if a=true then
   some (({rel:=b.1,args:=b.2.1}:Zx),true)
  else
   some (({rel:=(⟨#[]⟩),args:=[]}:Zx),false)
 else
  some (({rel:=(⟨#[]⟩),args:=[]}:Zx),false)
def ZMI (a:ByteArray):Option (Zl×Bool):=
 iter (σ:=Int)
  (fun b=>
   if (decide (b<=5))=true then
    (ZHq b).bind fun j=>
    (ZMF a j).bind fun c=>
    if ((c.length:Int)==2)=true then
     chk (0<=0/\0<(c.length:Int)) <|
     (c[(A0 0)]?).bind fun d=>
     chk (0<=1/\1<(c.length:Int)) <|
     (c[(A0 1)]?).bind fun e=>
     (Zej ({kind:=b,pattern:=({rel:=(⟨#[]⟩),args:=[]}:Zx),left:=d,right:=e}:Zl)).bind fun k=>
     if k=true then
      some (.inr (({kind:=b,pattern:=({rel:=(⟨#[]⟩),args:=[]}:Zx),left:=d,right:=e}:Zl),true))
     else
      some (.inl (i64.wrap (b+1)))
    else
     some (.inl (i64.wrap (b+1)))
   else
    if (decide (4<(a.size:Int)))=true then
     chk (0<=4/\4<=(a.size:Int)) <|
     if (sEq (a.extract 0 (A0 4)) ⟨#[110,111,116,32]⟩)=true then
      (ZMy (a.extract (A0 4) a.size)).bind fun f=>
      if f.2=true then
       some (.inr (({kind:=2,pattern:=f.1,left:=(⟨#[]⟩),right:=(⟨#[]⟩)}:Zl),true))
      else
       some (.inr (({kind:=0,pattern:=({rel:=(⟨#[]⟩),args:=[]}:Zx),left:=(⟨#[]⟩),right:=(⟨#[]⟩)}:Zl),false))
     else
      (ZMy a).bind fun g=>
      if g.2=true then
       some (.inr (({kind:=1,pattern:=g.1,left:=(⟨#[]⟩),right:=(⟨#[]⟩)}:Zl),true))
      else
       some (.inr (({kind:=0,pattern:=({rel:=(⟨#[]⟩),args:=[]}:Zx),left:=(⟨#[]⟩),right:=(⟨#[]⟩)}:Zl),false))
    else
     (ZMy a).bind fun i=>
     if i.2=true then
      some (.inr (({kind:=1,pattern:=i.1,left:=(⟨#[]⟩),right:=(⟨#[]⟩)}:Zl),true))
     else
      some (.inr (({kind:=0,pattern:=({rel:=(⟨#[]⟩),args:=[]}:Zx),left:=(⟨#[]⟩),right:=(⟨#[]⟩)}:Zl),false)))
  3
def ZMK (g:ByteArray):Option (Zu×Bool):=
 if (sEq g ⟨#[115,116,111,112]⟩)=true then
  some (({kind:=3,pattern:=({rel:=(⟨#[]⟩),args:=[]}:Zx)}:Zu),true)
 else
  (ZMF g (⟨#[32]⟩)).bind fun f=>
  if ((f.length:Int) != 2)=true then
   some (({kind:=0,pattern:=({rel:=(⟨#[]⟩),args:=[]}:Zx)}:Zu),false)
  else
   chk (0<=0/\0<(f.length:Int)) <|
   (f[(A0 0)]?).bind fun a=>
   if (sEq a ⟨#[97,100,100]⟩)=true then
    chk (0<=1/\1<(f.length:Int)) <|
    (f[(A0 1)]?).bind fun d=>
    (ZMy d).bind fun b=>
    some (({kind:=1,pattern:=b.1}:Zu),b.2)
   else
    if (sEq a ⟨#[100,114,111,112]⟩)=true then
     chk (0<=1/\1<(f.length:Int)) <|
     (f[(A0 1)]?).bind fun e=>
     (ZMy e).bind fun c=>
     some (({kind:=2,pattern:=c.1}:Zu),c.2)
    else
     some (({kind:=0,pattern:=({rel:=(⟨#[]⟩),args:=[]}:Zx)}:Zu),false)
def ZMW (h:Zg) (j:ByteArray) (k:ByteArray):Option (Zg×Bool):=
 (ZMF j (⟨#[32,38,32]⟩)).bind fun l=>
 forL (σ:=(List Zl))
  (fun (m:Nat) (e:ByteArray) a=>
   (ZMI e).bind fun c=>
   if c.2=true then
    chk (a.length+1<=1073741824) <|
    some (.inl (a++[c.1]))
   else
    some (.inr (({name:=h.name,priority:=h.priority,cond:=a,thn:=[]}:Zg),false)))
  (fun a=>
   (ZMF k (⟨#[32,38,32]⟩)).bind fun f=>
   forL (σ:=(List Zu))
    (fun (n:Nat) (g:ByteArray) b=>
     (ZMK g).bind fun d=>
     if d.2=true then
      chk (b.length+1<=1073741824) <|
      some (.inl (b++[d.1]))
     else
      some (.inr (({name:=h.name,priority:=h.priority,cond:=a,thn:=b}:Zg),false)))
    (fun b=>
     (ZcZ ({name:=h.name,priority:=h.priority,cond:=a,thn:=b}:Zg)).bind fun i=>
     some (({name:=h.name,priority:=h.priority,cond:=a,thn:=b}:Zg),i))
    f 0 [])
  l 0 []
def ZMB (l:ByteArray):Option (Zg×Bool):=
 (ZMF l (⟨#[58,32]⟩)).bind fun h=>
 if ((h.length:Int) != 2)=true then
  some (({name:=(⟨#[]⟩),priority:=0,cond:=[],thn:=[]}:Zg),false)
 else
  chk (0<=0/\0<(h.length:Int)) <|
  (h[(A0 0)]?).bind fun e=>
  (ZMF e (⟨#[32]⟩)).bind fun a=>
  chk (0<=1/\1<(h.length:Int)) <|
  (h[(A0 1)]?).bind fun f=>
  (ZMF f (⟨#[32,45,62,32]⟩)).bind fun b=>
  if ((a.length:Int) != 2)=true then
   some (({name:=(⟨#[]⟩),priority:=0,cond:=[],thn:=[]}:Zg),false)
  else
   if ((b.length:Int) != 2)=true then
    some (({name:=(⟨#[]⟩),priority:=0,cond:=[],thn:=[]}:Zg),false)
   else
    chk (1<(a.length:Int)) <|
    (a[(A0 1)]?).bind fun g=>
    (Zag g).bind fun c=>
    if c.2=true then
     chk (0<(a.length:Int)) <|
     (a[(A0 0)]?).bind fun i=>
     chk (0<(b.length:Int)) <|
     (b[(A0 0)]?).bind fun j=>
     chk (1<(b.length:Int)) <|
     (b[(A0 1)]?).bind fun k=>
     (ZMW ({name:=i,priority:=c.1,cond:=[],thn:=[]}:Zg) j k).bind fun d=>
     if d.2=true then
      some (d.1,true)
     else
      some (({name:=(⟨#[]⟩),priority:=0,cond:=[],thn:=[]}:Zg),false)
    else
     some (({name:=(⟨#[]⟩),priority:=0,cond:=[],thn:=[]}:Zg),false)
def ZMZ (g:ZwG) (h:Bool):Option (Zg×ZwG):=
 if h=true then
  (ZMw g 11).bind fun f=>
  chk (0<=f.1/\f.1<((11:Nat):Int)) <|
  (([(⟨#[114,32,49,58,32,111,110,40,63,120,44,63,121,41,32,38,32,111,110,40,63,121,44,63,122,41,32,45,62,32,97,100,100,32,111,110,40,63,120,44,63,122,41]⟩),(⟨#[114,32,50,58,32,111,110,40,63,120,44,63,121,41,32,38,32,112,40,63,121,41,32,45,62,32,97,100,100,32,112,40,63,120,41]⟩),(⟨#[114,32,48,58,32,112,40,63,120,41,32,38,32,111,110,40,63,120,44,63,121,41,32,38,32,63,120,32,33,61,32,63,121,32,45,62,32,97,100,100,32,113,40,63,121,41]⟩),(⟨#[114,32,51,58,32,112,40,63,120,41,32,38,32,112,40,63,121,41,32,38,32,63,120,32,60,32,63,121,32,45,62,32,97,100,100,32,122,40,41]⟩),(⟨#[114,32,52,58,32,111,110,40,63,120,44,97,41,32,45,62,32,97,100,100,32,113,40,63,120,41,32,38,32,97,100,100,32,112,40,97,41]⟩),(⟨#[114,32,49,58,32,113,40,63,120,41,32,38,32,112,40,63,120,41,32,45,62,32,97,100,100,32,98,97,100,40,41]⟩),(⟨#[114,32,49,58,32,97,116,40,63,120,44,63,121,41,32,45,62,32,97,100,100,32,111,110,40,63,120,44,63,121,41]⟩),(⟨#[114,32,50,58,32,112,40,63,120,41,32,38,32,110,111,116,32,113,40,63,120,41,32,45,62,32,97,100,100,32,115,40,63,120,41]⟩),(⟨#[114,32,53,58,32,111,110,40,63,120,44,63,121,41,32,38,32,110,111,116,32,112,40,63,121,41,32,45,62,32,97,100,100,32,115,40,63,121,41]⟩),(⟨#[114,32,48,58,32,115,40,63,120,41,32,38,32,110,111,116,32,122,40,41,32,38,32,110,111,116,32,112,40,63,120,41,32,45,62,32,97,100,100,32,98,97,100,40,41]⟩),(⟨#[114,32,49,58,32,113,40,63,120,41,32,38,32,111,110,40,63,120,44,63,121,41,32,38,32,110,111,116,32,113,40,63,121,41,32,45,62,32,97,100,100,32,115,40,63,120,41]⟩)])[(A0 f.1)]?).bind fun b=>
  (ZMB b).bind fun c=>
  some (c.1,f.2)
 else
  (ZMw g 7).bind fun a=>
  chk (0<=a.1/\a.1<((11:Nat):Int)) <|
  (([(⟨#[114,32,49,58,32,111,110,40,63,120,44,63,121,41,32,38,32,111,110,40,63,121,44,63,122,41,32,45,62,32,97,100,100,32,111,110,40,63,120,44,63,122,41]⟩),(⟨#[114,32,50,58,32,111,110,40,63,120,44,63,121,41,32,38,32,112,40,63,121,41,32,45,62,32,97,100,100,32,112,40,63,120,41]⟩),(⟨#[114,32,48,58,32,112,40,63,120,41,32,38,32,111,110,40,63,120,44,63,121,41,32,38,32,63,120,32,33,61,32,63,121,32,45,62,32,97,100,100,32,113,40,63,121,41]⟩),(⟨#[114,32,51,58,32,112,40,63,120,41,32,38,32,112,40,63,121,41,32,38,32,63,120,32,60,32,63,121,32,45,62,32,97,100,100,32,122,40,41]⟩),(⟨#[114,32,52,58,32,111,110,40,63,120,44,97,41,32,45,62,32,97,100,100,32,113,40,63,120,41,32,38,32,97,100,100,32,112,40,97,41]⟩),(⟨#[114,32,49,58,32,113,40,63,120,41,32,38,32,112,40,63,120,41,32,45,62,32,97,100,100,32,98,97,100,40,41]⟩),(⟨#[114,32,49,58,32,97,116,40,63,120,44,63,121,41,32,45,62,32,97,100,100,32,111,110,40,63,120,44,63,121,41]⟩),(⟨#[114,32,50,58,32,112,40,63,120,41,32,38,32,110,111,116,32,113,40,63,120,41,32,45,62,32,97,100,100,32,115,40,63,120,41]⟩),(⟨#[114,32,53,58,32,111,110,40,63,120,44,63,121,41,32,38,32,110,111,116,32,112,40,63,121,41,32,45,62,32,97,100,100,32,115,40,63,121,41]⟩),(⟨#[114,32,48,58,32,115,40,63,120,41,32,38,32,110,111,116,32,122,40,41,32,38,32,110,111,116,32,112,40,63,120,41,32,45,62,32,97,100,100,32,98,97,100,40,41]⟩),(⟨#[114,32,49,58,32,113,40,63,120,41,32,38,32,111,110,40,63,120,44,63,121,41,32,38,32,110,111,116,32,113,40,63,121,41,32,45,62,32,97,100,100,32,115,40,63,120,41]⟩)])[(A0 a.1)]?).bind fun d=>
  (ZMB d).bind fun e=>
  some (e.1,a.2)
def ZM7 (l:ZwG) (m:Bool):Option ((List Zg)×ZwG):=
 (ZMw l 4).bind fun k=>
 iter (σ:=(List Int)×Int×Int×(List Zg)×Int)
  (fun s=>
   match s with
   |(e,f,g,c,d)=>
   if (decide (0<d))=true then
    (ZMZ ({b:=e,i:=f,h:=g}:ZwG) m).bind fun a=>
    (Zbl d).bind fun j=>
    chk ((⟨#[114]⟩:ByteArray).size+j.size<=9223372036854775807) <|
    chk (c.length+1<=1073741824) <|
    some (.inl (a.2.b,a.2.i,a.2.h,(c++[({name:=((⟨#[114]⟩:ByteArray)++j),priority:=a.1.priority,cond:=a.1.cond,thn:=a.1.thn}:Zg)]),(i64.wrap (d-1))))
   else
    some (.inr (c,({b:=e,i:=f,h:=g}:ZwG))))
  (k.2.b,k.2.i,k.2.h,[],k.1)
def ZML (d:ZwG) (a:List ByteArray):Option (ByteArray×ZwG):=
 (ZMw d (a.length:Int)).bind fun c=>
 (atI a c.1).bind fun b=>
 some (b,c.2)
def Zh8 (a:ByteArray) (b:ByteArray):Option Int:=
 if (sLt a b)=true then
  some (-1)
 else
  if (sLt a b||sEq a b)=true then
   some 0
  else
   some 1
def Xz (d:ByteArray) (e:ByteArray):Option Int:=
 (Zag d).bind fun c=>
 (Zag e).bind fun a=>
 if c.2=true then
  if a.2=true then
   if (decide (c.1<a.1))=true then
    some (-1)
   else
    if (decide (a.1<c.1))=true then
     some 1
    else
     some 0
  else
   some (-1)
 else
  if a.2=true then
   some 1
  else
   (Zh8 d e).bind fun b=>
   some b
def Xw (g:Zc) (a:Zc):Option Int:=
 if (sEq g.rel a.rel)=true then
  forL (σ:=Unit)
   (fun (b:Nat) (d:ByteArray) _=>
    if (decide ((b:Int)<(a.args.length:Int)))=true then
     (atI a.args (b:Int)).bind fun e=>
     (Xz d e).bind fun c=>
     if (c != 0)=true then
      some (.inr c)
     else
      some (.inl ())
    else
     if (decide ((g.args.length:Int)<(a.args.length:Int)))=true then
      some (.inr (-1))
     else
      if (decide ((a.args.length:Int)<(g.args.length:Int)))=true then
       some (.inr 1)
      else
       some (.inr 0))
   (fun _=>
    if (decide ((g.args.length:Int)<(a.args.length:Int)))=true then
     some (-1)
    else
     if (decide ((a.args.length:Int)<(g.args.length:Int)))=true then
      some 1
     else
      some 0)
   g.args 0 ()
 else
  (Zh8 g.rel a.rel).bind fun f=>
  some f
def ZfK (a:List ByteArray):Option (List ByteArray):=
 chk (a.length<=1073741824) <|
 some a
def XE (a:Zc):Option Zc:=
 (ZfK a.args).bind fun b=>
 some ({rel:=a.rel,args:=b}:Zc)
def ZcF (m:List Zc) (h:Zc):Option (List Zc):=
 forL (σ:=(List Zc)×Bool)
  (fun (n:Nat) (b:Zc) s=>
   match s with
   |(a,c)=>
   if c=true then
    (XE b).bind fun d=>
    chk (a.length+1<=1073741824) <|
    some (.inl ((a++[d]),true))
   else
    (Xw b h).bind fun e=>
    if (decide (0<=e))=true then
     (Xw b h).bind fun f=>
     if (decide (0<f))=true then
      (XE h).bind fun g=>
      chk (a.length+1<=1073741824) <|
      (XE b).bind fun i=>
      chk (a.length+1+1<=1073741824) <|
      some (.inl (((a++[g])++[i]),true))
     else
      (XE b).bind fun j=>
      chk (a.length+1<=1073741824) <|
      some (.inl ((a++[j]),true))
    else
     (XE b).bind fun k=>
     chk (a.length+1<=1073741824) <|
     some (.inl ((a++[k]),false)))
  (fun s=>
   match s with
   |(a,c)=>
   if c=true then
    some a
   else
    (XE h).bind fun l=>
    chk (a.length+1<=1073741824) <|
    some (a++[l]))
  m 0 ([],false)
def ZNc (q:ZwG) (r:Int):Option ((List Zc)×ZwG):=
 (ZMw q (i64.wrap (r+1))).bind fun n=>
 iter (σ:=(List Int)×Int×Int×(List Zc)×Int)
  (fun s=>
   match s with
   |(g,j,k,c,d)=>
   if (decide (0<d))=true then
    (ZML ({b:=g,i:=j,h:=k}:ZwG) ([(⟨#[97]⟩),(⟨#[98]⟩),(⟨#[49]⟩),(⟨#[50]⟩)])).bind fun e=>
    (ZML e.2 ([(⟨#[97]⟩),(⟨#[98]⟩),(⟨#[49]⟩)])).bind fun f=>
    (ZMw f.2 5).bind fun a=>
    if (a.1==0)=true then
     (ZcF c ({rel:=(⟨#[112]⟩),args:=[e.1]}:Zc)).bind fun l=>
     some (.inl (a.2.b,a.2.i,a.2.h,l,(i64.wrap (d-1))))
    else
     if (a.1==1)=true then
      (ZcF c ({rel:=(⟨#[97,116]⟩),args:=[e.1,f.1]}:Zc)).bind fun m=>
      some (.inl (a.2.b,a.2.i,a.2.h,m,(i64.wrap (d-1))))
     else
      if (a.1==2)=true then
       (ZcF c ({rel:=(⟨#[113]⟩),args:=[e.1]}:Zc)).bind fun o=>
       some (.inl (a.2.b,a.2.i,a.2.h,o,(i64.wrap (d-1))))
      else
       (ZcF c ({rel:=(⟨#[111,110]⟩),args:=[e.1,f.1]}:Zc)).bind fun p=>
       some (.inl (a.2.b,a.2.i,a.2.h,p,(i64.wrap (d-1))))
   else
    some (.inr (c,({b:=g,i:=j,h:=k}:ZwG))))
  (n.2.b,n.2.i,n.2.h,[],n.1)
def ZMN (d:ZwG) (a:List Int):Option (Int×ZwG):=
 (ZMw d (a.length:Int)).bind fun c=>
 (atI a c.1).bind fun b=>
 some (b,c.2)
def ZMC (e:ZwG) (d:Int):Option (Zg×ZwG):=
 (ZMw e (if 13<d then 13 else d)).bind fun c=>
 chk (0<=c.1/\c.1<((13:Nat):Int)) <|
 (([(⟨#[114,32,49,58,32,111,110,40,63,120,44,63,121,41,32,38,32,111,110,40,63,121,44,63,122,41,32,45,62,32,97,100,100,32,111,110,40,63,120,44,63,122,41]⟩),(⟨#[114,32,50,58,32,111,110,40,63,120,44,63,121,41,32,38,32,112,40,63,121,41,32,45,62,32,97,100,100,32,112,40,63,120,41]⟩),(⟨#[114,32,48,58,32,112,40,63,120,41,32,38,32,111,110,40,63,120,44,63,121,41,32,38,32,63,120,32,33,61,32,63,121,32,45,62,32,97,100,100,32,97,116,40,63,121,44,63,120,41]⟩),(⟨#[114,32,51,58,32,97,116,40,63,120,44,63,121,41,32,38,32,112,40,63,120,41,32,38,32,112,40,63,121,41,32,38,32,63,120,32,60,32,63,121,32,45,62,32,97,100,100,32,122,40,41]⟩),(⟨#[114,32,52,58,32,111,110,40,63,120,44,97,41,32,45,62,32,97,100,100,32,113,40,63,120,41,32,38,32,97,100,100,32,112,40,97,41]⟩),(⟨#[114,32,49,58,32,97,116,40,63,120,44,63,120,41,32,38,32,113,40,49,41,32,45,62,32,97,100,100,32,111,110,40,63,120,44,49,41]⟩),(⟨#[114,32,49,58,32,112,40,63,120,41,32,38,32,110,111,116,32,113,40,63,120,41,32,45,62,32,97,100,100,32,97,116,40,63,120,44,98,41]⟩),(⟨#[114,32,50,58,32,111,110,40,63,120,44,63,121,41,32,38,32,110,111,116,32,97,116,40,63,121,44,63,122,41,32,45,62,32,97,100,100,32,113,40,63,121,41]⟩),(⟨#[114,32,53,58,32,97,116,40,63,120,44,63,121,41,32,38,32,110,111,116,32,112,40,63,121,41,32,38,32,63,120,32,33,61,32,63,121,32,45,62,32,97,100,100,32,122,40,41]⟩),(⟨#[114,32,57,58,32,113,40,63,120,41,32,38,32,112,40,63,120,41,32,45,62,32,100,114,111,112,32,112,40,63,120,41]⟩),(⟨#[114,32,48,58,32,97,116,40,63,120,44,49,41,32,38,32,97,116,40,63,121,44,50,41,32,38,32,63,120,32,61,32,63,121,32,45,62,32,100,114,111,112,32,97,116,40,63,120,44,49,41,32,38,32,115,116,111,112]⟩),(⟨#[114,32,49,58,32,111,110,40,63,120,44,63,120,41,32,45,62,32,115,116,111,112]⟩),(⟨#[114,32,55,58,32,122,40,41,32,38,32,111,110,40,63,120,44,63,121,41,32,45,62,32,100,114,111,112,32,122,40,41,32,38,32,97,100,100,32,111,110,40,63,121,44,63,120,41]⟩)])[(A0 c.1)]?).bind fun a=>
 (ZMB a).bind fun b=>
 some (b.1,c.2)
def ZMR (b:ZwG):Option (ByteArray×ZwG):=
 (ZML b ([(⟨#[97]⟩),(⟨#[98]⟩),(⟨#[99]⟩),(⟨#[49]⟩),(⟨#[50]⟩)])).bind fun a=>
 some (a.1,a.2)
def ZNk (d:ZwG):Option (ByteArray×Int×ZwG):=
 (ZMw d 6).bind fun c=>
 chk (0<=c.1/\c.1<((6:Nat):Int)) <|
 (([(⟨#[111,110]⟩),(⟨#[111,110]⟩),(⟨#[97,116]⟩),(⟨#[112]⟩),(⟨#[113]⟩),(⟨#[122]⟩)])[(A0 c.1)]?).bind fun a=>
 ([2,2,2,1,1,0][(A0 c.1)]?).bind fun b=>
 some (a,b,c.2)
def ZM3 (d:ZwG):Option (ByteArray×ZwG):=
 (ZMP d 4).bind fun c=>
 if c.1=true then
  (ZMR c.2).bind fun a=>
  some (a.1,a.2)
 else
  (ZML c.2 ([(⟨#[63,120]⟩),(⟨#[63,121]⟩),(⟨#[63,122]⟩)])).bind fun b=>
  some (b.1,b.2)
def ZMO (k:ZwG):Option (Zx×ZwG):=
 (ZNk k).bind fun j=>
 iter (σ:=(List Int)×Int×Int×(List ByteArray)×Int)
  (fun s=>
   match s with
   |(d,e,f,c,g)=>
   if (decide (g<j.2.1))=true then
    (ZM3 ({b:=d,i:=e,h:=f}:ZwG)).bind fun a=>
    chk (c.length+1<=1073741824) <|
    some (.inl (a.2.b,a.2.i,a.2.h,(c++[a.1]),(i64.wrap (g+1))))
   else
    some (.inr (({rel:=j.1,args:=c}:Zx),({b:=d,i:=e,h:=f}:ZwG))))
  (j.2.2.b,j.2.2.i,j.2.2.h,[],0)
def ZNx (b:ZwG) (c:ByteArray) (d:ByteArray):Option (Zl×ZwG):=
 (ZMN b [3,4,4,5]).bind fun a=>
 some (({kind:=a.1,pattern:=({rel:=(⟨#[]⟩),args:=[]}:Zx),left:=c,right:=d}:Zl),a.2)
def ZNd (h:ZwG):Option (Zl×ZwG):=
 (ZMw h 5).bind fun g=>
 if (g.1==0)=true then
  (ZMO g.2).bind fun a=>
  some (({kind:=1,pattern:=a.1,left:=(⟨#[]⟩),right:=(⟨#[]⟩)}:Zl),a.2)
 else
  if (g.1==1)=true then
   (ZMO g.2).bind fun b=>
   some (({kind:=1,pattern:=b.1,left:=(⟨#[]⟩),right:=(⟨#[]⟩)}:Zl),b.2)
  else
   if (g.1==2)=true then
    (ZMO g.2).bind fun c=>
    some (({kind:=2,pattern:=c.1,left:=(⟨#[]⟩),right:=(⟨#[]⟩)}:Zl),c.2)
   else
    (ZM3 g.2).bind fun d=>
    (ZM3 d.2).bind fun e=>
    (ZNx e.2 d.1 e.1).bind fun f=>
    some (f.1,f.2)
def ZM8 (r:ZwG):Option (Zg×ZwG):=
 (ZMw r 4).bind fun n=>
 (ZMO n.2).bind fun q=>
 (ZMw q.2 3).bind fun j=>
 iter (σ:=(List Int)×Int×Int×(List Zl)×Int)
  (fun s=>
   match s with
   |(t,u,v,c,w)=>
   if (decide (0<w))=true then
    (ZNd ({b:=t,i:=u,h:=v}:ZwG)).bind fun k=>
    chk (c.length+1<=1073741824) <|
    some (.inl (k.2.b,k.2.i,k.2.h,(c++[k.1]),(i64.wrap (w-1))))
   else
    (QH ({name:=(⟨#[114]⟩),priority:=n.1,cond:=c,thn:=[]}:Zg) (c.length:Int)).bind fun A=>
    (ZMO ({b:=t,i:=u,h:=v}:ZwG)).bind fun d=>
    iter (σ:=(List Int)×Int×Int×(List ByteArray)×Int)
     (fun s=>
      match s with
      |(l,m,o,a,e)=>
      if (decide (e<(a.length:Int)))=true then
       chk (0<=e/\e<(a.length:Int)) <|
       (a[(A0 e)]?).bind fun x=>
       (Za3 x).bind fun B=>
       if B=true then
        (ZW A x).bind fun C=>
        if C=true then
         some (.inl (l,m,o,a,(i64.wrap (e+1))))
        else
         (ZMR ({b:=l,i:=m,h:=o}:ZwG)).bind fun p=>
         some (.inl (p.2.b,p.2.i,p.2.h,(A7 a (A0 e) p.1),(i64.wrap (e+1))))
       else
        some (.inl (l,m,o,a,(i64.wrap (e+1))))
      else
       (ZMN ({b:=l,i:=m,h:=o}:ZwG) [1,1,2]).bind fun f=>
       (ZMP f.2 6).bind fun g=>
       if g.1=true then
        (ZcZ ({name:=(⟨#[114]⟩),priority:=n.1,cond:=c,thn:=[({kind:=f.1,pattern:=({rel:=d.1.rel,args:=a}:Zx)}:Zu),({kind:=3,pattern:=({rel:=(⟨#[]⟩),args:=[]}:Zx)}:Zu)]}:Zg)).bind fun D=>
        if D=true then
         some (.inr (.inr (({name:=(⟨#[114]⟩),priority:=n.1,cond:=c,thn:=[({kind:=f.1,pattern:=({rel:=d.1.rel,args:=a}:Zx)}:Zu),({kind:=3,pattern:=({rel:=(⟨#[]⟩),args:=[]}:Zx)}:Zu)]}:Zg),g.2)))
        else
         (ZMC g.2 99).bind fun y=>
         some (.inr (.inr (y.1,y.2)))
       else
        (ZcZ ({name:=(⟨#[114]⟩),priority:=n.1,cond:=c,thn:=[({kind:=f.1,pattern:=({rel:=d.1.rel,args:=a}:Zx)}:Zu)]}:Zg)).bind fun E=>
        if E=true then
         some (.inr (.inr (({name:=(⟨#[114]⟩),priority:=n.1,cond:=c,thn:=[({kind:=f.1,pattern:=({rel:=d.1.rel,args:=a}:Zx)}:Zu)]}:Zg),g.2)))
        else
         (ZMC g.2 99).bind fun z=>
         some (.inr (.inr (z.1,z.2))))
     (d.2.b,d.2.i,d.2.h,d.1.args,0))
  (j.2.b,j.2.i,j.2.h,[({kind:=1,pattern:=q.1,left:=(⟨#[]⟩),right:=(⟨#[]⟩)}:Zl)],j.1)
def ZM6 (d:ZwG):Option (Zg×ZwG):=
 (ZMP d 3).bind fun c=>
 if c.1=true then
  (ZM8 c.2).bind fun a=>
  some (a.1,a.2)
 else
  (ZMC c.2 99).bind fun b=>
  some (b.1,b.2)
def ZNu (l:ZwG) (m:Int):Option ((List Zg)×ZwG):=
 (ZMw l (i64.wrap (m+1))).bind fun k=>
 iter (σ:=(List Int)×Int×Int×(List Zg)×Int)
  (fun s=>
   match s with
   |(e,f,g,c,d)=>
   if (decide (0<d))=true then
    (ZM6 ({b:=e,i:=f,h:=g}:ZwG)).bind fun a=>
    (Zbl d).bind fun j=>
    chk ((⟨#[114]⟩:ByteArray).size+j.size<=9223372036854775807) <|
    chk (c.length+1<=1073741824) <|
    some (.inl (a.2.b,a.2.i,a.2.h,(c++[({name:=((⟨#[114]⟩:ByteArray)++j),priority:=a.1.priority,cond:=a.1.cond,thn:=a.1.thn}:Zg)]),(i64.wrap (d-1))))
   else
    some (.inr (c,({b:=e,i:=f,h:=g}:ZwG))))
  (k.2.b,k.2.i,k.2.h,[],k.1)
def ZMQ (b:ZwG):Option (ByteArray×ZwG):=
 (ZML b ([(⟨#[97]⟩),(⟨#[98]⟩),(⟨#[111,110]⟩),(⟨#[55]⟩),(⟨#[49,48]⟩),(⟨#[57,57,57,57]⟩),(⟨#[49,48,48,48,48]⟩),(⟨#[48,48,55]⟩),(⟨#[48]⟩),(⟨#[]⟩),(⟨#[65]⟩),(⟨#[63,120]⟩),(⟨#[63,63]⟩),(⟨#[63]⟩),(⟨#[97,98,99,100,101,102,103,104]⟩),(⟨#[97,98,99,100,101,102,103,104,105]⟩),(⟨#[63,97,98,99,100,101,102,103,104]⟩),(⟨#[97,45,98]⟩),(⟨#[120,49]⟩),(⟨#[49,120]⟩),(⟨#[45,51]⟩)])).bind fun a=>
 some (a.1,a.2)
def ZNl (f:ZwG):Option (Zx×ZwG):=
 (ZMO f).bind fun e=>
 (ZMw e.2 10).bind fun a=>
 if (a.1==0)=true then
  (ZMQ a.2).bind fun c=>
  some (({rel:=c.1,args:=e.1.args}:Zx),c.2)
 else
  if (a.1==1)=true then
   (ZMQ a.2).bind fun d=>
   chk (e.1.args.length+1<=1073741824) <|
   some (({rel:=e.1.rel,args:=(e.1.args++[d.1])}:Zx),d.2)
  else
   if (a.1==2)=true then
    (ZMw a.2 5).bind fun b=>
    chk (0<=b.1/\b.1<=((4:Nat):Int)) <|
    some (({rel:=e.1.rel,args:=(A6 0 (AC (A0 b.1) [(⟨#[63,120]⟩),(⟨#[63,120]⟩),(⟨#[63,121]⟩),(⟨#[63,120]⟩)]))}:Zx),b.2)
   else
    some (e.1,a.2)
def ZNy (f:ZwG):Option (Zl×ZwG):=
 (ZNd f).bind fun e=>
 (ZMw e.2 12).bind fun a=>
 if (a.1==0)=true then
  (ZMN a.2 [0,1,3,5,6,(-1)]).bind fun b=>
  some (({kind:=b.1,pattern:=e.1.pattern,left:=e.1.left,right:=e.1.right}:Zl),b.2)
 else
  if (a.1==1)=true then
   (ZMQ a.2).bind fun c=>
   some (({kind:=e.1.kind,pattern:=e.1.pattern,left:=c.1,right:=e.1.right}:Zl),c.2)
  else
   if (a.1==2)=true then
    (ZNl a.2).bind fun d=>
    some (({kind:=e.1.kind,pattern:=d.1,left:=e.1.left,right:=e.1.right}:Zl),d.2)
   else
    some (e.1,a.2)
def ZNz (k:ZwG):Option (Zg×ZwG):=
 (ZM6 k).bind fun h=>
 (ZMw h.2 14).bind fun a=>
 if (a.1==0)=true then
  (ZMQ a.2).bind fun b=>
  some (({name:=b.1,priority:=h.1.priority,cond:=h.1.cond,thn:=h.1.thn}:Zg),b.2)
 else
  if (a.1==1)=true then
   (ZMN a.2 [(-1),0,9,10]).bind fun c=>
   some (({name:=h.1.name,priority:=c.1,cond:=h.1.cond,thn:=h.1.thn}:Zg),c.2)
  else
   if (a.1==2)=true then
    (ZNy a.2).bind fun d=>
    chk (h.1.cond.length+1<=1073741824) <|
    some (({name:=h.1.name,priority:=h.1.priority,cond:=(h.1.cond++[d.1]),thn:=h.1.thn}:Zg),d.2)
   else
    if (a.1==3)=true then
     (ZMN a.2 [0,1,2,3,4]).bind fun e=>
     (ZNl e.2).bind fun f=>
     chk (h.1.thn.length+1<=1073741824) <|
     some (({name:=h.1.name,priority:=h.1.priority,cond:=h.1.cond,thn:=(h.1.thn++[({kind:=e.1,pattern:=f.1}:Zu)])}:Zg),f.2)
    else
     if (a.1==4)=true then
      chk (0<=1/\1<=(h.1.cond.length:Int)) <|
      some (({name:=h.1.name,priority:=h.1.priority,cond:=(A6 (A0 1) h.1.cond),thn:=h.1.thn}:Zg),a.2)
     else
      if (a.1==5)=true then
       chk (0<=1/\1<=(h.1.thn.length:Int)) <|
       some (({name:=h.1.name,priority:=h.1.priority,cond:=h.1.cond,thn:=(A6 (A0 1) h.1.thn)}:Zg),a.2)
      else
       if (a.1==6)=true then
        (ZML a.2 ([(⟨#[63,102]⟩),(⟨#[63,97]⟩),(⟨#[63,103]⟩)])).bind fun g=>
        (ZMN g.2 [1,2]).bind fun i=>
        (ZML i.2 ([(⟨#[63,102]⟩),(⟨#[63,120]⟩)])).bind fun j=>
        some (({name:=h.1.name,priority:=h.1.priority,cond:=[({kind:=1,pattern:=({rel:=(⟨#[116]⟩),args:=[(⟨#[63,97]⟩),(⟨#[63,98]⟩),(⟨#[63,99]⟩)]}:Zx),left:=(⟨#[]⟩),right:=(⟨#[]⟩)}:Zl),({kind:=1,pattern:=({rel:=(⟨#[116]⟩),args:=[(⟨#[63,100]⟩),(⟨#[63,101]⟩),g.1]}:Zx),left:=(⟨#[]⟩),right:=(⟨#[]⟩)}:Zl),({kind:=i.1,pattern:=({rel:=(⟨#[117]⟩),args:=[j.1]}:Zx),left:=(⟨#[]⟩),right:=(⟨#[]⟩)}:Zl)],thn:=[({kind:=3,pattern:=({rel:=(⟨#[]⟩),args:=[]}:Zx)}:Zu)]}:Zg),j.2)
       else
        some (h.1,a.2)
def ZPY (o:ZwG):Option ((List Zg)×ZwG):=
 (ZNu o 3).bind fun n=>
 (ZMw n.2 10).bind fun c=>
 if (c.1==0)=true then
  (ZNz c.2).bind fun f=>
  chk (n.1.length+1<=1073741824) <|
  some ((n.1++[f.1]),f.2)
 else
  if (c.1==1)=true then
   (ZMN c.2 [6,7]).bind fun d=>
   iter (σ:=(List Int)×Int×Int×(List Zg)×Int)
    (fun s=>
     match s with
     |(g,j,k,e,l)=>
     if (decide ((e.length:Int)<d.1))=true then
      (ZMC ({b:=g,i:=j,h:=k}:ZwG) 6).bind fun a=>
      (Zbl l).bind fun m=>
      chk ((⟨#[107]⟩:ByteArray).size+m.size<=9223372036854775807) <|
      chk (e.length+1<=1073741824) <|
      some (.inl (a.2.b,a.2.i,a.2.h,(e++[({name:=((⟨#[107]⟩:ByteArray)++m),priority:=a.1.priority,cond:=a.1.cond,thn:=a.1.thn}:Zg)]),(i64.wrap (l+1))))
     else
      some (.inr (e,({b:=g,i:=j,h:=k}:ZwG))))
    (d.2.b,d.2.i,d.2.h,n.1,0)
  else
   some (n.1,c.2)
def ZNa (k:ZwG):Option (Zc×ZwG):=
 (ZNk k).bind fun j=>
 iter (σ:=(List Int)×Int×Int×(List ByteArray)×Int)
  (fun s=>
   match s with
   |(d,e,f,c,g)=>
   if (decide (g<j.2.1))=true then
    (ZMR ({b:=d,i:=e,h:=f}:ZwG)).bind fun a=>
    chk (c.length+1<=1073741824) <|
    some (.inl (a.2.b,a.2.i,a.2.h,(c++[a.1]),(i64.wrap (g+1))))
   else
    some (.inr (({rel:=j.1,args:=c}:Zc),({b:=d,i:=e,h:=f}:ZwG))))
  (j.2.2.b,j.2.2.i,j.2.2.h,[],0)
def ZNg (f:ZwG):Option (Zc×ZwG):=
 (ZNa f).bind fun e=>
 (ZMw e.2 10).bind fun a=>
 if (a.1==0)=true then
  (ZMQ a.2).bind fun c=>
  some (({rel:=c.1,args:=e.1.args}:Zc),c.2)
 else
  if (a.1==1)=true then
   (ZMQ a.2).bind fun d=>
   chk (e.1.args.length+1<=1073741824) <|
   some (({rel:=e.1.rel,args:=(e.1.args++[d.1])}:Zc),d.2)
  else
   if (a.1==2)=true then
    (ZMw a.2 5).bind fun b=>
    chk (0<=b.1/\b.1<=((4:Nat):Int)) <|
    some (({rel:=e.1.rel,args:=(A6 0 (AC (A0 b.1) [(⟨#[97]⟩),(⟨#[98]⟩),(⟨#[99]⟩),(⟨#[97]⟩)]))}:Zc),b.2)
   else
    some (e.1,a.2)
def ZNw (l:ZwG) (m:Int):Option ((List Zc)×ZwG):=
 (ZMw l (i64.wrap (m+1))).bind fun k=>
 iter (σ:=(List Int)×Int×Int×(List Zc)×Int)
  (fun s=>
   match s with
   |(c,d,e,f,g)=>
   if (decide (0<g))=true then
    (ZNa ({b:=c,i:=d,h:=e}:ZwG)).bind fun a=>
    (ZcF f a.1).bind fun j=>
    some (.inl (a.2.b,a.2.i,a.2.h,j,(i64.wrap (g-1))))
   else
    some (.inr (f,({b:=c,i:=d,h:=e}:ZwG))))
  (k.2.b,k.2.i,k.2.h,[],k.1)
def ZNi (i:ZwG):Option ((List Zc)×ZwG):=
 (ZNw i 6).bind fun h=>
 (ZMw h.2 8).bind fun a=>
 if (a.1==0)=true then
  (ZNg a.2).bind fun e=>
  chk (h.1.length+1<=1073741824) <|
  some ((h.1++[e.1]),e.2)
 else
  if (a.1==1)=true then
   iter (σ:=(List Zc)×Int)
    (fun s=>
     match s with
     |(c,d)=>
     if (decide (d<25))=true then
      (Zbl d).bind fun f=>
      (ZcF c ({rel:=(⟨#[110]⟩),args:=[f]}:Zc)).bind fun g=>
      some (.inl (g,(i64.wrap (d+1))))
     else
      (ZMN a.2 [23,24,25]).bind fun b=>
      chk (0<=b.1/\b.1<=(c.length:Int)) <|
      some (.inr ((A6 0 (AC (A0 b.1) c)),b.2)))
    (h.1,0)
  else
   some (h.1,a.2)
def ZPW (f:ZwG):Option ((List Zg)×(List Zc)×ZwG):=
 (ZM7 f true).bind fun e=>
 (ZNc e.2 5).bind fun b=>
 (ZMw b.2 12).bind fun a=>
 if (a.1==0)=true then
  (ZPY a.2).bind fun c=>
  some (c.1,b.1,c.2)
 else
  if (a.1==1)=true then
   (ZNi a.2).bind fun d=>
   some (e.1,d.1,d.2)
  else
   some (e.1,b.1,a.2)
def ZfR (d:Zc):Option Bool:=
 forL (σ:=Unit)
  (fun (e:Nat) (a:ByteArray) _=>
   (QT a).bind fun b=>
   if b=true then
    some (.inl ())
   else
    some (.inr false))
  (fun _=>
   (ZdM d.rel).bind fun c=>
   if c=true then
    some (decide ((d.args.length:Int)<=3))
   else
    some false)
  d.args 0 ()
def Zcb (a:List Zc):Option Bool:=
 forL (σ:=Unit)
  (fun (b:Nat) (c:Zc) _=>
   (ZfR c).bind fun d=>
   if d=true then
    if (decide (0<(b:Int)))=true then
     (atI a (i64.wrap ((b:Int)-1))).bind fun e=>
     (Xw e c).bind fun f=>
     if (decide (0<=f))=true then
      some (.inr false)
     else
      some (.inl ())
    else
     some (.inl ())
   else
    some (.inr false))
  (fun _=>
   some (decide ((a.length:Int)<=24)))
  a 0 ()
def ZaS (a:List Zi):Option (List Zi):=
 chk (a.length<=1073741824) <|
 some a
def XU (a:List Zi):Option Bool:=
 forL (σ:=Unit)
  (fun (c:Nat) (b:Zi) _=>
   (Za3 b.var).bind fun d=>
   if d=true then
    (QT b.value).bind fun e=>
    if e=true then
     if (decide (0<(c:Int)))=true then
      (atI a (i64.wrap ((c:Int)-1))).bind fun f=>
      if (sLt f.var b.var)=true then
       some (.inl ())
      else
       some (.inr false)
     else
      some (.inl ())
    else
     some (.inr false)
   else
    some (.inr false))
  (fun _=>
   some (decide ((a.length:Int)<=6)))
  a 0 ()
def Zbj (d:List Zi) (c:ByteArray):Option (ByteArray×Bool):=
 (QT c).bind fun e=>
 if e=true then
  some (c,true)
 else
  forL (σ:=Unit)
   (fun (f:Nat) (a:Zi) _=>
    if (sEq a.var c)=true then
     (Za3 c).bind fun b=>
     if b=true then
      some (.inr (a.value,true))
     else
      some (.inl ())
    else
     some (.inl ()))
   (fun _=>
    some ((⟨#[]⟩),false))
   d 0 ()
def ZjO (f:List Zi) (c:ByteArray) (e:ByteArray):Option (List Zi):=
 forL (σ:=(List Zi)×Bool)
  (fun (g:Nat) (b:Zi) s=>
   match s with
   |(a,d)=>
   if d=true then
    chk (a.length+1<=1073741824) <|
    some (.inl ((a++[b]),true))
   else
    if (sLt b.var c||sEq b.var c)=true then
     chk (a.length+1<=1073741824) <|
     some (.inl ((a++[b]),false))
    else
     chk (a.length+1<=1073741824) <|
     chk (a.length+1+1<=1073741824) <|
     some (.inl (((a++[({var:=c,value:=e}:Zi)])++[b]),true)))
  (fun s=>
   match s with
   |(a,d)=>
   if d=true then
    some a
   else
    chk (a.length+1<=1073741824) <|
    some (a++[({var:=c,value:=e}:Zi)]))
  f 0 ([],false)
def Zhm (f:List Zi) (g:ByteArray) (h:ByteArray):Option ((List Zi)×Bool):=
 (XU f).bind fun i=>
 if i=true then
  (Za3 g).bind fun b=>
  if b=true then
   (QT h).bind fun c=>
   if c=true then
    (Zbj f g).bind fun a=>
    if a.2=true then
     if (sEq a.1 h)=true then
      (ZaS f).bind fun d=>
      some (d,true)
     else
      some ([],false)
    else
     if ((f.length:Int)==6)=true then
      some ([],false)
     else
      (ZjO f g h).bind fun e=>
      some (e,true)
   else
    some ([],false)
  else
   some ([],false)
 else
  some ([],false)
def Zbp (h:Zx) (a:Zc) (m:List Zi):Option ((List Zi)×Bool):=
 (Xq h).bind fun n=>
 if n=true then
  (ZfR a).bind fun f=>
  if f=true then
   (XU m).bind fun g=>
   if g=true then
    if (sEq h.rel a.rel)=true then
     if ((h.args.length:Int) != (a.args.length:Int))=true then
      some ([],false)
     else
      (ZaS m).bind fun i=>
      forL (σ:=(List Zi))
       (fun (d:Nat) (c:ByteArray) b=>
        (QT c).bind fun j=>
        if j=true then
         (atI a.args (d:Int)).bind fun k=>
         if (sEq c k)=true then
          some (.inl b)
         else
          some (.inr ([],false))
        else
         (atI a.args (d:Int)).bind fun l=>
         (Zhm b c l).bind fun e=>
         if e.2=true then
          some (.inl e.1)
         else
          some (.inr ([],false)))
       (fun b=>
        some (b,true))
       h.args 0 i
    else
     some ([],false)
   else
    some ([],false)
  else
   some ([],false)
 else
  some ([],false)
def Zbg (d:List Zc):Option (List Zc):=
 forL (σ:=(List Zc))
  (fun (e:Nat) (b:Zc) a=>
   (XE b).bind fun c=>
   chk (a.length+1<=1073741824) <|
   some (.inl (a++[c])))
  (fun a=>
   some a)
  d 0 []
def XQ (e:Zx) (f:List Zi) (g:List Zc):Option (List Zc):=
 forL (σ:=(List Zc))
  (fun (h:Nat) (b:Zc) a=>
   (Zbp e b f).bind fun c=>
   if c.2=true then
    (XE b).bind fun d=>
    chk (a.length+1<=1073741824) <|
    some (.inl (a++[d]))
   else
    some (.inl a))
  (fun a=>
   some a)
  g 0 []
def Zd3 (a:ByteArray):Option Bool:=
 (Zag a).bind fun b=>
 some b.2
def ZcI (g:Zl) (h:List Zi):Option Bool:=
 (ZbV g).bind fun i=>
 if i=true then
  (XU h).bind fun c=>
  if c=true then
   (Zbj h g.left).bind fun a=>
   (Zbj h g.right).bind fun b=>
   if a.2=true then
    if b.2=true then
     if (g.kind==3)=true then
      some (sEq a.1 b.1)
     else
      if (g.kind==4)=true then
       some (!(sEq a.1 b.1))
      else
       (Zd3 a.1).bind fun d=>
       if d=true then
        (Zd3 b.1).bind fun e=>
        if e=true then
         (Xz a.1 b.1).bind fun f=>
         some (decide (f<0))
        else
         some false
       else
        some false
    else
     some false
   else
    some false
  else
   some false
 else
  some false
def ZcP (g:Zl) (a:List Zi) (b:List Zc):Option Bool:=
 (Zej g).bind fun h=>
 if h=true then
  (XU a).bind fun c=>
  if c=true then
   if (g.kind==1)=true then
    (XQ g.pattern a b).bind fun d=>
    some (decide (0<(d.length:Int)))
   else
    if (g.kind==2)=true then
     (XQ g.pattern a b).bind fun e=>
     some ((e.length:Int)==0)
    else
     (ZcI g a).bind fun f=>
     some f
  else
   some false
 else
  some false
def ZgP (b:Zq):Option Zq:=
 (Zbg b.facts).bind fun c=>
 (ZaS b.binding).bind fun a=>
 some ({facts:=c,binding:=a}:Zq)
def Zhz (l:List Zq) (h:Zl) (k:List Zc):Option (List Zq):=
 forL (σ:=(List Zq))
  (fun (m:Nat) (c:Zq) a=>
   if (h.kind != 1)=true then
    (ZcP h c.binding k).bind fun g=>
    if g=true then
     (ZgP c).bind fun i=>
     chk (a.length+1<=1073741824) <|
     some (.inl (a++[i]))
    else
     some (.inl a)
   else
    forL (σ:=(List Zq))
     (fun (n:Nat) (d:Zc) b=>
      (Zbp h.pattern d c.binding).bind fun e=>
      if e.2=true then
       (Zbg c.facts).bind fun f=>
       (XE d).bind fun j=>
       chk (f.length+1<=1073741824) <|
       chk (b.length+1<=1073741824) <|
       some (.inl (b++[({facts:=(f++[j]),binding:=e.1}:Zq)]))
      else
       some (.inl b))
     (fun b=>
      some (.inl b))
     k 0 a)
  (fun a=>
   some a)
  l 0 []
def Zaa (d:List Zl) (e:List Zc):Option (List Zq):=
 forL (σ:=(List Zq))
  (fun (f:Nat) (b:Zl) a=>
   (Zhz a b e).bind fun c=>
   some (.inl c))
  (fun a=>
   some a)
  d 0 ([({facts:=[],binding:=[]}:Zq)])
def XA (e:Zx) (f:List Zi):Option (Zc×Bool):=
 (Xq e).bind fun g=>
 if g=true then
  (XU f).bind fun c=>
  if c=true then
   forL (σ:=(List ByteArray))
    (fun (h:Nat) (d:ByteArray) a=>
     (Zbj f d).bind fun b=>
     if b.2=true then
      chk (a.length+1<=1073741824) <|
      some (.inl (a++[b.1]))
     else
      some (.inr (({rel:=(⟨#[]⟩),args:=[]}:Zc),false)))
    (fun a=>
     some (({rel:=e.rel,args:=a}:Zc),true))
    e.args 0 []
  else
   some (({rel:=(⟨#[]⟩),args:=[]}:Zc),false)
 else
  some (({rel:=(⟨#[]⟩),args:=[]}:Zc),false)
def X8 (c:Zg):Option (List Zl):=
 forL (σ:=(List Zl))
  (fun (d:Nat) (b:Zl) a=>
   if (b.kind != 2)=true then
    chk (a.length+1<=1073741824) <|
    some (.inl (a++[b]))
   else
    some (.inl a))
  (fun a=>
   some a)
  c.cond 0 []
def Zd6 (c:List ByteArray) (d:List ByteArray):Option Bool:=
 forL (σ:=Unit)
  (fun (e:Nat) (a:ByteArray) _=>
   (ZW d a).bind fun b=>
   if b=true then
    some (.inl ())
   else
    some (.inr false))
  (fun _=>
   some true)
  c 0 ()
def Zc1 (f:Zg):Option Bool:=
 (ZcZ f).bind fun g=>
 if g=true then
  forL (σ:=Unit)
   (fun (h:Nat) (a:Zl) _=>
    if (a.kind==2)=true then
     (X3 a).bind fun b=>
     (QH f (h:Int)).bind fun c=>
     (Zd6 b c).bind fun d=>
     if d=true then
      some (.inl ())
     else
      some (.inr false)
    else
     some (.inl ()))
   (fun _=>
    forL (σ:=Unit)
     (fun (i:Nat) (e:Zu) _=>
      if (e.kind != 1)=true then
       some (.inr false)
      else
       some (.inl ()))
     (fun _=>
      some true)
     f.thn 0 ())
   f.cond 0 ()
 else
  some false
def Q9 (e:Zg):Option (List ByteArray):=
 forL (σ:=(List ByteArray))
  (fun (f:Nat) (b:Zu) a=>
   if (b.kind==1)=true then
    (Qd a b.pattern.rel).bind fun c=>
    some (.inl c)
   else
    if (b.kind==2)=true then
     (Qd a b.pattern.rel).bind fun d=>
     some (.inl d)
    else
     some (.inl a))
  (fun a=>
   some a)
  e.thn 0 []
def Zct (e:Zg):Option (List ByteArray):=
 forL (σ:=(List ByteArray))
  (fun (f:Nat) (b:Zl) a=>
   if (b.kind==1)=true then
    (Qd a b.pattern.rel).bind fun c=>
    some (.inl c)
   else
    if (b.kind==2)=true then
     (Qd a b.pattern.rel).bind fun d=>
     some (.inl d)
    else
     some (.inl a))
  (fun a=>
   some a)
  e.cond 0 []
def Zb2 (h:List Zg) (n:ByteArray) (o:ByteArray):Option Bool:=
 iter (σ:=(List ByteArray)×Int)
  (fun s=>
   match s with
   |(d,c)=>
   if (decide (c<(d.length:Int)))=true then
    forL (σ:=(List ByteArray))
     (fun (p:Nat) (e:Zg) a=>
      (Q9 e).bind fun i=>
      chk (0<=c/\c<(a.length:Int)) <|
      (a[(A0 c)]?).bind fun j=>
      (ZW i j).bind fun k=>
      if k=true then
       (Zct e).bind fun f=>
       (ZW f o).bind fun l=>
       if l=true then
        some (.inr (.inr true))
       else
        forL (σ:=(List ByteArray))
         (fun (q:Nat) (g:ByteArray) b=>
          (ZW b g).bind fun m=>
          if m=true then
           some (.inl b)
          else
           chk (b.length+1<=1073741824) <|
           some (.inl (b++[g])))
         (fun b=>
          some (.inl b))
         f 0 a
      else
       some (.inl a))
     (fun a=>
      some (.inl (a,(i64.wrap (c+1)))))
     h 0 d
   else
    some (.inr false))
  ([n],0)
def Zga (b:List Zg) (c:ByteArray):Option Int:=
 forL (σ:=Unit)
  (fun (d:Nat) (a:Zg) _=>
   if (sEq a.name c)=true then
    some (.inr (d:Int))
   else
    some (.inl ()))
  (fun _=>
   some (-1))
  b 0 ()
def Zd4 (d:List Zg):Option Bool:=
 forL (σ:=Unit)
  (fun (e:Nat) (a:Zg) _=>
   (ZcZ a).bind fun b=>
   if b=true then
    (Zga d a.name).bind fun c=>
    if (c != (e:Int))=true then
     some (.inr false)
    else
     some (.inl ())
   else
    some (.inr false))
  (fun _=>
   some (decide ((d.length:Int)<=6)))
  d 0 ()
def Zb0 (h:List Zg):Option Bool:=
 forL (σ:=Unit)
  (fun (i:Nat) (a:Zg) _=>
   (Zc1 a).bind fun d=>
   if d=true then
    (Q9 a).bind fun e=>
    forL (σ:=Unit)
     (fun (j:Nat) (b:Zl) _=>
      forL (σ:=Unit)
       (fun (k:Nat) (c:ByteArray) _=>
        if (b.kind==2)=true then
         if (sEq b.pattern.rel c)=true then
          some (.inr (.inr (.inr false)))
         else
          (Zb2 h b.pattern.rel c).bind fun f=>
          if f=true then
           some (.inr (.inr (.inr false)))
          else
           some (.inl ())
        else
         some (.inr (.inl ())))
       (fun _=>
        some (.inl ()))
       e 0 ())
     (fun _=>
      some (.inl ()))
     a.cond 0 ()
   else
    some (.inr false))
  (fun _=>
   (Zd4 h).bind fun g=>
   some g)
  h 0 ()
def YA (h:List Zg) (n:List Zc):Option ((List Zc)×Bool):=
 (Zb0 h).bind fun q=>
 if q=true then
  (Zcb n).bind fun f=>
  if f=true then
   (Zbg n).bind fun g=>
   iter (σ:=(List Zc)×Bool)
    (fun s=>
     match s with
     |(a,i)=>
     if i=true then
      forL (σ:=(List Zc))
       (fun (r:Nat) (e:Zg) b=>
        (X8 e).bind fun j=>
        (Zaa j a).bind fun k=>
        forL (σ:=(List Zc))
         (fun (t:Nat) (l:Zq) c=>
          forL (σ:=(List Zc))
           (fun (u:Nat) (m:Zu) d=>
            (XA m.pattern l.binding).bind fun o=>
            (ZcF d o.1).bind fun p=>
            some (.inl p))
           (fun d=>
            some (.inl d))
           e.thn 0 c)
         (fun c=>
          if (decide (24<(c.length:Int)))=true then
           some (.inr (.inr ([],false)))
          else
           some (.inl c))
         k 0 b)
       (fun b=>
        some (.inl (b,(decide ((a.length:Int)<(b.length:Int))))))
       h 0 a
     else
      some (.inr (a,true)))
    (g,true)
  else
   some ([],false)
 else
  some ([],false)
def ZPX (h:ZwG):Option ((List Zg)×(List Zc)×Zc×ZwG):=
 (ZPW h).bind fun g=>
 (YA g.1 g.2.1).bind fun a=>
 if (decide (0<(a.1.length:Int)))=true then
  (ZMP g.2.2 4).bind fun c=>
  if c.1=true then
   (ZNg c.2).bind fun d=>
   some (g.1,g.2.1,d.1,d.2)
  else
   (ZMw c.2 (a.1.length:Int)).bind fun b=>
   chk (0<=b.1/\b.1<(a.1.length:Int)) <|
   (a.1[(A0 b.1)]?).bind fun f=>
   some (g.1,g.2.1,f,b.2)
 else
  (ZNg g.2.2).bind fun e=>
  some (g.1,g.2.1,e.1,e.2)
def ZPS (e:List Int):Option ((List Zg)×(List Zc)×Zc):=
 (ZNt e).bind fun f=>
 (ZPX f).bind fun a=>
 (ZMP a.2.2.2 2).bind fun b=>
 if b.1=true then
  (ZML b.2 ([(⟨#[112]⟩),(⟨#[113]⟩),(⟨#[115]⟩)])).bind fun c=>
  (ZMR c.2).bind fun d=>
  some (a.1,a.2.1,({rel:=c.1,args:=[d.1]}:Zc))
 else
  some (a.1,a.2.1,a.2.2.1)
def Ze7 (e:List ByteArray) (a:List ByteArray):Option Bool:=
 if ((e.length:Int) != (a.length:Int))=true then
  some false
 else
  forL (σ:=Unit)
   (fun (b:Nat) (c:ByteArray) _=>
    (atI a (b:Int)).bind fun d=>
    if (sEq c d)=true then
     some (.inl ())
    else
     some (.inr false))
   (fun _=>
    some true)
   e 0 ()
def Zm2 (a:Zc) (b:Zc):Option Bool:=
 if (sEq a.rel b.rel)=true then
  (Ze7 a.args b.args).bind fun c=>
  some c
 else
  some false
def Zbb (c:List Zc) (d:Zc):Option Int:=
 forL (σ:=Unit)
  (fun (e:Nat) (a:Zc) _=>
   (Zm2 a d).bind fun b=>
   if b=true then
    some (.inr (e:Int))
   else
    some (.inl ()))
  (fun _=>
   some (-1))
  c 0 ()
def ZhE (e:List Int) (d:Int):Option (List Int):=
 forL (σ:=(List Int)×Bool)
  (fun (f:Nat) (b:Int) s=>
   match s with
   |(a,c)=>
   if c=true then
    chk (a.length+1<=1073741824) <|
    some (.inl ((a++[b]),true))
   else
    if (decide (d<=b))=true then
     if (b != d)=true then
      chk (a.length+1<=1073741824) <|
      chk (a.length+1+1<=1073741824) <|
      some (.inl (((a++[d])++[b]),true))
     else
      chk (a.length+1<=1073741824) <|
      some (.inl ((a++[b]),true))
    else
     chk (a.length+1<=1073741824) <|
     some (.inl ((a++[b]),false)))
  (fun s=>
   match s with
   |(a,c)=>
   if c=true then
    some a
   else
    chk (a.length+1<=1073741824) <|
    some (a++[d]))
  e 0 ([],false)
def Zcn (e:List Zc) (f:List Zc):Option (List Int):=
 forL (σ:=(List Int))
  (fun (g:Nat) (c:Zc) a=>
   (Zbb e c).bind fun b=>
   if (decide (0<=b))=true then
    (ZhE a b).bind fun d=>
    some (.inl d)
   else
    some (.inl a))
  (fun a=>
   some a)
  f 0 []
def ZbA (c:Zg) (e:Int) (b:Zq) (h:List Zc):Option Zf:=
 (atI c.thn e).bind fun f=>
 (XA f.pattern b.binding).bind fun g=>
 forL (σ:=(List Zc))
  (fun (m:Nat) (d:Zl) a=>
   if (d.kind==2)=true then
    (XA d.pattern b.binding).bind fun i=>
    chk (a.length+1<=1073741824) <|
    some (.inl (a++[i.1]))
   else
    some (.inl a))
  (fun a=>
   (Zbb h g.1).bind fun j=>
   (Zcn h b.facts).bind fun k=>
   (Zcn h a).bind fun l=>
   some ({for_:=j,inn:=k,outs:=l}:Zf))
  c.cond 0 []
def Zb3 (e:List Int) (a:List Int):Option Bool:=
 if ((e.length:Int) != (a.length:Int))=true then
  some false
 else
  forL (σ:=Unit)
   (fun (b:Nat) (c:Int) _=>
    (atI a (b:Int)).bind fun d=>
    if (c != d)=true then
     some (.inr false)
    else
     some (.inl ()))
   (fun _=>
    some true)
   e 0 ()
def Zfz (e:List Zf) (d:Zf):Option Int:=
 forL (σ:=Unit)
  (fun (f:Nat) (a:Zf) _=>
   if (a.for_==d.for_)=true then
    (Zb3 a.inn d.inn).bind fun b=>
    if b=true then
     (Zb3 a.outs d.outs).bind fun c=>
     if c=true then
      some (.inr (f:Int))
     else
      some (.inl ())
    else
     some (.inl ())
   else
    some (.inl ()))
  (fun _=>
   some (-1))
  e 0 ()
def ZI6 (n:List Zg) (r:List Zc):Option ((List Zc)×Zt×(List XR)×Bool):=
 (YA n r).bind fun h=>
 if h.2=true then
  forL (σ:=(List Zf)×(List XR))
   (fun (w:Nat) (m:Zc) s=>
    match s with
    |(c,d)=>
    (Zbb h.1 m).bind fun o=>
    chk (c.length+1<=1073741824) <|
    chk (d.length+1<=1073741824) <|
    some (.inl ((c++[({for_:=o,inn:=[],outs:=[]}:Zf)]),(d++[({rule:=(⟨#[]⟩),token:=({facts:=[],binding:=[]}:Zq)}:XR)]))))
   (fun s=>
    match s with
    |(c,d)=>
    forL (σ:=(List Zf)×(List XR))
     (fun (x:Nat) (e:Zg) s=>
      match s with
      |(f,g)=>
      (X8 e).bind fun p=>
      (Zaa p h.1).bind fun q=>
      forL (σ:=(List Zf)×(List XR))
       (fun (y:Nat) (k:Zq) s=>
        match s with
        |(i,j)=>
        forL (σ:=(List Zf)×(List XR))
         (fun (v:Nat) (u:Zu) s=>
          match s with
          |(a,b)=>
          (ZbA e (v:Int) k h.1).bind fun l=>
          (Zfz a l).bind fun t=>
          if (decide (0<=t))=true then
           some (.inl (a,b))
          else
           if (decide (60<=(a.length:Int)))=true then
            some (.inr (.inr (.inr ([],({nodes:=0,reasons:=[]}:Zt),[],false))))
           else
            chk (a.length+1<=1073741824) <|
            chk (b.length+1<=1073741824) <|
            some (.inl ((a++[l]),(b++[({rule:=e.name,token:=k}:XR)]))))
         (fun s=>
          match s with
          |(a,b)=>
          some (.inl (a,b)))
         e.thn 0 (i,j))
       (fun s=>
        match s with
        |(i,j)=>
        some (.inl (i,j)))
       q 0 (f,g))
     (fun s=>
      match s with
      |(f,g)=>
      some (h.1,({nodes:=(h.1.length:Int),reasons:=f}:Zt),g,true))
     n 0 (c,d))
   r 0 ([],[])
 else
  some ([],({nodes:=0,reasons:=[]}:Zt),[],false)
def XZ (n:List Zg) (r:List Zc):Option ((List Zc)×Zt×(List XR)×Bool):=
 (YA n r).bind fun h=>
 if h.2=true then
  forL (σ:=(List Zf)×(List XR))
   (fun (w:Nat) (m:Zc) s=>
    match s with
    |(c,d)=>
    (Zbb h.1 m).bind fun o=>
    chk (c.length+1<=1073741824) <|
    chk (d.length+1<=1073741824) <|
    some (.inl ((c++[({for_:=o,inn:=[],outs:=[]}:Zf)]),(d++[({rule:=(⟨#[]⟩),token:=({facts:=[],binding:=[]}:Zq)}:XR)]))))
   (fun s=>
    match s with
    |(c,d)=>
    forL (σ:=(List Zf)×(List XR))
     (fun (x:Nat) (e:Zg) s=>
      match s with
      |(f,g)=>
      (X8 e).bind fun p=>
      (Zaa p h.1).bind fun q=>
      forL (σ:=(List Zf)×(List XR))
       (fun (y:Nat) (k:Zq) s=>
        match s with
        |(i,j)=>
        forL (σ:=(List Zf)×(List XR))
         (fun (v:Nat) (u:Zu) s=>
          match s with
          |(a,b)=>
          (ZbA e (v:Int) k h.1).bind fun l=>
          (Zfz a l).bind fun t=>
          if (decide (0<=t))=true then
           some (.inl (a,b))
          else
           if (decide (60<=(a.length:Int)))=true then
            some (.inr (.inr (.inr ([],({nodes:=0,reasons:=[]}:Zt),[],false))))
           else
            chk (a.length+1<=1073741824) <|
            chk (b.length+1<=1073741824) <|
            some (.inl ((a++[l]),(b++[({rule:=e.name,token:=k}:XR)]))))
         (fun s=>
          match s with
          |(a,b)=>
          some (.inl (a,b)))
         e.thn 0 (i,j))
       (fun s=>
        match s with
        |(i,j)=>
        some (.inl (i,j)))
       q 0 (f,g))
     (fun s=>
      match s with
      |(f,g)=>
      some (h.1,({nodes:=(h.1.length:Int),reasons:=f}:Zt),g,true))
     n 0 (c,d))
   r 0 ([],[])
 else
  some ([],({nodes:=0,reasons:=[]}:Zt),[],false)
def QX (b:List Zg) (c:List Zc):Option ((List Zc)×Zt×Bool):=
 (XZ b c).bind fun a=>
 if a.2.2.2=true then
  some (a.1,a.2.1,true)
 else
  some ([],({nodes:=0,reasons:=[]}:Zt),false)
def Zci (a:List Int) (f:Int):Option Bool:=
 forL (σ:=Unit)
  (fun (b:Nat) (c:Int) _=>
   (Qr c 0 (i64.wrap (f-1))).bind fun d=>
   if d=true then
    if (decide (0<(b:Int)))=true then
     (atI a (i64.wrap ((b:Int)-1))).bind fun e=>
     if (decide (c<=e))=true then
      some (.inr false)
     else
      some (.inl ())
    else
     some (.inl ())
   else
    some (.inr false))
  (fun _=>
   some true)
  a 0 ()
def ZcJ (f:Zt):Option Bool:=
 forL (σ:=Unit)
  (fun (g:Nat) (a:Zf) _=>
   (Qr a.for_ 0 (i64.wrap (f.nodes-1))).bind fun b=>
   if b=true then
    (Zci a.inn f.nodes).bind fun c=>
    if c=true then
     (Zci a.outs f.nodes).bind fun d=>
     if d=true then
      some (.inl ())
     else
      some (.inr false)
    else
     some (.inr false)
   else
    some (.inr false))
  (fun _=>
   (Qr f.nodes 0 24).bind fun e=>
   if e=true then
    some (decide ((f.reasons.length:Int)<=60))
   else
    some false)
  f.reasons 0 ()
def Zjo (a:List Int):Option (List Int):=
 chk (a.length<=1073741824) <|
 some a
def ZdN (g:Zt) (o:Int):Option (List Bool):=
 chk (0<=g.nodes/\g.nodes<=1073741824) <|
 iter (σ:=(List Bool)×(List Int)×Int)
  (fun s=>
   match s with
   |(l,m,d)=>
   if (decide (d<(m.length:Int)))=true then
    forL (σ:=(List Bool)×(List Int))
     (fun (h:Nat) (a:Zf) s=>
      match s with
      |(i,b)=>
      chk (0<=d/\d<(b.length:Int)) <|
      (b[(A0 d)]?).bind fun p=>
      if (a.for_ != p)=true then
       some (.inl (i,b))
      else
       (Zjo a.inn).bind fun j=>
       chk (j.length+a.outs.length<=1073741824) <|
       iter (σ:=(List Bool)×(List Int)×Int)
        (fun s=>
         match s with
         |(e,k,c)=>
         if (decide (c<((j.length+a.outs.length:Nat):Int)))=true then
          chk (0<=c/\c<((j.length+a.outs.length:Nat):Int)) <|
          ((j++a.outs)[(A0 c)]?).bind fun f=>
          chk (0<=f/\f<(e.length:Int)) <|
          (e[(A0 f)]?).bind fun q=>
          if q=true then
           some (.inl (e,k,(i64.wrap (c+1))))
          else
           chk (k.length+1<=1073741824) <|
           some (.inl ((A7 e (A0 f) true),(k++[f]),(i64.wrap (c+1))))
         else
          some (.inr (.inl (e,k))))
        (i,b,0))
     (fun s=>
      match s with
      |(i,b)=>
      some (.inl (i,b,(i64.wrap (d+1)))))
     g.reasons 0 (l,m)
   else
    some (.inr l))
  ((AA (A0 g.nodes) false),[o],0)
def Qx (e:Zt):Option Bool:=
 (ZcJ e).bind fun f=>
 if f=true then
  forL (σ:=Unit)
   (fun (g:Nat) (a:Zf) _=>
    forL (σ:=Unit)
     (fun (h:Nat) (b:Int) _=>
      if (b==a.for_)=true then
       some (.inr (.inr false))
      else
       (ZdN e b).bind fun c=>
       chk (0<=a.for_/\a.for_<(c.length:Int)) <|
       (c[(A0 a.for_)]?).bind fun d=>
       if d=true then
        some (.inr (.inr false))
       else
        some (.inl ()))
     (fun _=>
      some (.inl ()))
     a.outs 0 ())
   (fun _=>
    some true)
   e.reasons 0 ()
 else
  some false
def Zeb (d:Zt):Option (List Int):=
 (Qx d).bind fun h=>
 if h=true then
  chk (0<=d.nodes/\d.nodes<=1073741824) <|
  iter (σ:=(List Int)×Int)
   (fun s=>
    match s with
    |(i,j)=>
    if (decide (j<=d.nodes))=true then
     forL (σ:=(List Int))
      (fun (n:Nat) (a:Zf) e=>
       forL (σ:=(List Int))
        (fun (p:Nat) (f:Int) b=>
         chk (0<=a.for_/\a.for_<(b.length:Int)) <|
         (b[(A0 a.for_)]?).bind fun k=>
         chk (0<=f/\f<(b.length:Int)) <|
         (b[(A0 f)]?).bind fun l=>
         some (.inl (A7 b (A0 a.for_) (if k<l then l else k))))
        (fun b=>
         forL (σ:=(List Int))
          (fun (q:Nat) (g:Int) c=>
           chk (0<=a.for_/\a.for_<(c.length:Int)) <|
           (c[(A0 a.for_)]?).bind fun m=>
           chk (0<=g/\g<(c.length:Int)) <|
           (c[(A0 g)]?).bind fun o=>
           some (.inl (A7 c (A0 a.for_) (if m<(i64.wrap (o+1)) then (i64.wrap (o+1)) else m))))
          (fun c=>
           some (.inl c))
          a.outs 0 b)
        a.inn 0 e)
      (fun e=>
       some (.inl (e,(i64.wrap (j+1)))))
      d.reasons 0 i
    else
     some (.inr i))
   ((AA (A0 d.nodes) 0),0)
 else
  some []
def Zc5 (d:List Int) (b:List Int) (e:Int):Option Bool:=
 forL (σ:=Unit)
  (fun (f:Nat) (c:Int) _=>
   (atI b c).bind fun a=>
   if (decide (a<0))=true then
    some (.inr false)
   else
    if (decide (e<=a))=true then
     some (.inr false)
    else
     some (.inl ()))
  (fun _=>
   some true)
  d 0 ()
def ZfV (d:List Int) (a:List Int):Option Bool:=
 forL (σ:=Unit)
  (fun (e:Nat) (b:Int) _=>
   (atI a b).bind fun c=>
   if (decide (0<=c))=true then
    some (.inr false)
   else
    some (.inl ()))
  (fun _=>
   some true)
  d 0 ()
def Zce (h:Zt) (e:List Int) (k:Int) (c:List Int) (l:Int):Option (List Int):=
 iter (σ:=(List Int)×Int)
  (fun s=>
   match s with
   |(b,a)=>
   if (decide (a<h.nodes))=true then
    (atI e a).bind fun f=>
    if (f != k)=true then
     some (.inl (b,(i64.wrap (a+1))))
    else
     (atI c a).bind fun g=>
     if (decide (0<=g))=true then
      some (.inl (b,(i64.wrap (a+1))))
     else
      forL (σ:=Unit)
       (fun (m:Nat) (d:Zf) _=>
        if (d.for_==a)=true then
         (Zc5 d.inn c l).bind fun i=>
         if i=true then
          (ZfV d.outs c).bind fun j=>
          if j=true then
           chk (b.length+1<=1073741824) <|
           some (.inr (.inl ((b++[a]),(i64.wrap (a+1)))))
          else
           some (.inl ())
         else
          some (.inl ())
        else
         some (.inl ()))
       (fun _=>
        some (.inl (b,(i64.wrap (a+1)))))
       h.reasons 0 ()
   else
    some (.inr b))
  ([],0)
def Zee (h:Zt):Option (List Int):=
 (Qx h).bind fun n=>
 if n=true then
  (Zeb h).bind fun g=>
  iter (σ:=(List Int)×Int)
   (fun s=>
    match s with
    |(e,i)=>
    if (decide (i<h.nodes))=true then
     chk (e.length+1<=1073741824) <|
     some (.inl ((e++[(-1)]),(i64.wrap (i+1))))
    else
     iter (σ:=(List Int)×Int×Int)
      (fun s=>
       match s with
       |(f,j,b)=>
       if (decide (b<h.nodes))=true then
        (Zce h g b f j).bind fun m=>
        iter (σ:=(List Int)×(List Int)×Int)
         (fun s=>
          match s with
          |(k,l,c)=>
          if (decide (0<(l.length:Int)))=true then
           forL (σ:=(List Int))
            (fun (q:Nat) (d:Int) a=>
             chk (0<=d/\d<(a.length:Int)) <|
             (a[(A0 d)]?).bind fun p=>
             some (.inl (A7 a (A0 d) c)))
            (fun a=>
             (Zce h g b a (i64.wrap (c+1))).bind fun o=>
             some (.inl (a,o,(i64.wrap (c+1)))))
            l 0 k
          else
           some (.inr (.inl (k,c,(i64.wrap (b+1))))))
         (f,m,j)
       else
        some (.inr (.inr f)))
      (e,0,0))
   ([],0)
 else
  some []
def Zeu (c:Zt):Option (List Bool):=
 (Zee c).bind fun d=>
 forL (σ:=(List Bool))
  (fun (e:Nat) (b:Int) a=>
   chk (a.length+1<=1073741824) <|
   some (.inl (a++[(decide (0<=b))])))
  (fun a=>
   some a)
  d 0 []
def ZjI (g:List Zc) (h:Zt):Option (List Zc):=
 (Zeu h).bind fun f=>
 forL (σ:=(List Zc))
  (fun (e:Nat) (b:Zc) a=>
   if (decide ((e:Int)<(f.length:Int)))=true then
    chk (0<=(e:Int)/\(e:Int)<(f.length:Int)) <|
    (f[e]?).bind fun c=>
    if c=true then
     (XE b).bind fun d=>
     chk (a.length+1<=1073741824) <|
     some (.inl (a++[d]))
    else
     some (.inl a)
   else
    some (.inr a))
  (fun a=>
   some a)
  g 0 []
def ZfH (c:List Zg) (d:List Zc):Option ((List Zc)×Bool):=
 (QX c d).bind fun b=>
 if b.2.2=true then
  (ZjI b.1 b.2.1).bind fun a=>
  some (a,true)
 else
  some ([],false)
def ZNv (a:List Zc) (b:Zc):Option Bool:=
 (Zbb a b).bind fun c=>
 some (decide (0<=c))
def ZHX (d:List ByteArray) (c:ByteArray):Option ByteArray:=
 forL (σ:=ByteArray)
  (fun (e:Nat) (b:ByteArray) a=>
   if (decide (0<(e:Int)))=true then
    chk (a.size+c.size<=9223372036854775807) <|
    chk ((a++c).size+b.size<=9223372036854775807) <|
    some (.inl ((a++c)++b))
   else
    chk (a.size+b.size<=9223372036854775807) <|
    some (.inl (a++b)))
  (fun a=>
   some a)
  d 0 (⟨#[]⟩)
def ZG1 (b:Zx):Option ByteArray:=
 (Xq b).bind fun c=>
 if c=true then
  chk (b.rel.size+(⟨#[40]⟩:ByteArray).size<=9223372036854775807) <|
  (ZHX b.args (⟨#[44]⟩)).bind fun a=>
  chk ((b.rel++(⟨#[40]⟩:ByteArray)).size+a.size<=9223372036854775807) <|
  chk (((b.rel++(⟨#[40]⟩:ByteArray))++a).size+(⟨#[41]⟩:ByteArray).size<=9223372036854775807) <|
  some (((b.rel++(⟨#[40]⟩:ByteArray))++a)++(⟨#[41]⟩:ByteArray))
 else
  some (⟨#[]⟩)
def ZG7 (d:Zl):Option ByteArray:=
 (Zej d).bind fun e=>
 if e=true then
  if (d.kind==1)=true then
   (ZG1 d.pattern).bind fun c=>
   some c
  else
   if (d.kind==2)=true then
    (ZG1 d.pattern).bind fun b=>
    chk ((⟨#[110,111,116,32]⟩:ByteArray).size+b.size<=9223372036854775807) <|
    some ((⟨#[110,111,116,32]⟩:ByteArray)++b)
   else
    (ZHq d.kind).bind fun a=>
    chk (d.left.size+a.size<=9223372036854775807) <|
    chk ((d.left++a).size+d.right.size<=9223372036854775807) <|
    some ((d.left++a)++d.right)
 else
  some (⟨#[]⟩)
def Zck (a:Zg) (b:Int) (c:List Zc):Option (List Zq):=
 (ZcZ a).bind fun g=>
 if g=true then
  (Zcb c).bind fun d=>
  if d=true then
   (Qr b 0 (a.cond.length:Int)).bind fun e=>
   if e=true then
    chk (0<=b/\b<=(a.cond.length:Int)) <|
    (Zaa (A6 0 (AC (A0 b) a.cond)) c).bind fun f=>
    some f
   else
    some []
  else
   some []
 else
  some []
def ZMH (d:Zg) (e:List Zc):Option Int:=
 iter (σ:=Int×Int)
  (fun s=>
   match s with
   |(b,a)=>
   if (decide (a<=(d.cond.length:Int)))=true then
    (Zck d a e).bind fun c=>
    if (decide (0<(c.length:Int)))=true then
     some (.inl (a,(i64.wrap (a+1))))
    else
     some (.inl (b,(i64.wrap (a+1))))
   else
    some (.inr b))
  (0,0)
def w_FnMissed (h:List Int):Option Bool:=
 (ZO4 h).bind fun n=>
 if n=true then
  some true
 else
  (ZPS h).bind fun a=>
  (ZHk a.1 a.2.1 a.2.2).bind fun b=>
  (ZfH a.1 a.2.1).bind fun f=>
  if f.2=true then
   (ZfR a.2.2).bind fun o=>
   if o=true then
    (ZNv f.1 a.2.2).bind fun p=>
    if (b.2==(!p))=true then
     forL (σ:=Unit)
      (fun (r:Nat) (c:Zwt) _=>
       (Zga a.1 c.rule).bind fun k=>
       if (decide (k<0))=true then
        some (.inr false)
       else
        if (decide (c.done<0))=true then
         some (.inr false)
        else
         (atI a.1 k).bind fun g=>
         if (decide ((g.cond.length:Int)<=c.done))=true then
          some (.inr false)
         else
          (atI g.cond c.done).bind fun q=>
          (ZG7 q).bind fun t=>
          if (sEq c.cond t)=true then
           (ZMH g f.1).bind fun u=>
           if (decide (u<c.done))=true then
            some (.inr false)
           else
            some (.inl ())
          else
           some (.inr false))
      (fun _=>
       (ZI0 a.1 a.2.1 a.2.2).bind fun v=>
       (ZfR a.2.2).bind fun w=>
       some ((decide (0<(v.length:Int)))==w))
      b.1 0 ()
    else
     some false
   else
    if (b.2==false)=true then
     forL (σ:=Unit)
      (fun (s:Nat) (d:Zwt) _=>
       (Zga a.1 d.rule).bind fun l=>
       if (decide (l<0))=true then
        some (.inr false)
       else
        if (decide (d.done<0))=true then
         some (.inr false)
        else
         (atI a.1 l).bind fun i=>
         if (decide ((i.cond.length:Int)<=d.done))=true then
          some (.inr false)
         else
          (atI i.cond d.done).bind fun x=>
          (ZG7 x).bind fun y=>
          if (sEq d.cond y)=true then
           (ZMH i f.1).bind fun z=>
           if (decide (z<d.done))=true then
            some (.inr false)
           else
            some (.inl ())
          else
           some (.inr false))
      (fun _=>
       (ZI0 a.1 a.2.1 a.2.2).bind fun A=>
       (ZfR a.2.2).bind fun B=>
       some ((decide (0<(A.length:Int)))==B))
      b.1 0 ()
    else
     some false
  else
   if (b.2==false)=true then
    forL (σ:=Unit)
     (fun (aa:Nat) (e:Zwt) _=>
      (Zga a.1 e.rule).bind fun m=>
      if (decide (m<0))=true then
       some (.inr false)
      else
       if (decide (e.done<0))=true then
        some (.inr false)
       else
        (atI a.1 m).bind fun j=>
        if (decide ((j.cond.length:Int)<=e.done))=true then
         some (.inr false)
        else
         (atI j.cond e.done).bind fun C=>
         (ZG7 C).bind fun D=>
         if (sEq e.cond D)=true then
          (ZMH j f.1).bind fun E=>
          if (decide (E<e.done))=true then
           some (.inr false)
          else
           some (.inl ())
         else
          some (.inr false))
     (fun _=>
      (ZI0 a.1 a.2.1 a.2.2).bind fun F=>
      some ((decide (0<(F.length:Int)))==false))
     b.1 0 ()
   else
    some false
def ZIT (h:Zt) (a:Int):Option Int:=
 (Zee h).bind fun g=>
 (Qr a 0 (i64.wrap ((g.length:Int)-1))).bind fun d=>
 if d=true then
  chk (0<=a/\a<(g.length:Int)) <|
  (g[(A0 a)]?).bind fun c=>
  if (decide (c<0))=true then
   some (-1)
  else
   forL (σ:=Unit)
    (fun (i:Nat) (b:Zf) _=>
     if (b.for_==a)=true then
      (Zc5 b.inn g c).bind fun e=>
      if e=true then
       (ZfV b.outs g).bind fun f=>
       if f=true then
        some (.inr (i:Int))
       else
        some (.inl ())
      else
       some (.inl ())
     else
      some (.inl ()))
    (fun _=>
     some (-1))
    h.reasons 0 ()
 else
  some (-1)
def ZJy (b:List Int) (c:Int):Option Bool:=
 forL (σ:=Unit)
  (fun (d:Nat) (a:Int) _=>
   if (a==c)=true then
    some (.inr true)
   else
    some (.inl ()))
  (fun _=>
   some false)
  b 0 ()
def ZIV (b:Zt) (a:Int):Option (List Int):=
 (Zee b).bind fun rd=>ZJa (ZIT b) ZJy b (((rd[a.toNat]?).getD 0).toNat+1) a []
def ZJC (c:List ZzC) (d:Zc):Option Int:=
 forL (σ:=Unit)
  (fun (e:Nat) (a:ZzC) _=>
   (Zm2 a.fact d).bind fun b=>
   if b=true then
    some (.inr (e:Int))
   else
    some (.inl ()))
  (fun _=>
   some (-1))
  c 0 ()
def ZJf (m:List Zg) (n:List Zc) (o:Zc):Option ((List ZzC)×Bool):=
 (ZI6 m n).bind fun h=>
 if h.2.2.2=true then
  (Zbb h.1 o).bind fun f=>
  (ZIV h.2.1 f).bind fun g=>
  forL (σ:=(List ZzC))
   (fun (p:Nat) (b:Int) a=>
    chk (0<=b/\b<(h.2.1.reasons.length:Int)) <|
    (h.2.1.reasons[(A0 b)]?).bind fun d=>
    chk (0<=d.for_/\d.for_<(h.1.length:Int)) <|
    (h.1[(A0 d.for_)]?).bind fun i=>
    (XE i).bind fun j=>
    (atI h.2.2.1 b).bind fun e=>
    forL (σ:=(List Int))
     (fun (q:Nat) (k:Zc) c=>
      (ZJC a k).bind fun l=>
      chk (c.length+1<=1073741824) <|
      some (.inl (c++[l])))
     (fun c=>
      chk (a.length+1<=1073741824) <|
      some (.inl (a++[({fact:=j,rule:=e.rule,uses:=c}:ZzC)])))
     e.token.facts 0 [])
   (fun a=>
    some (a,(decide (0<(a.length:Int)))))
   g 0 []
 else
  some ([],false)
def ZHm (c:List Zi) (d:List Zi):Option Bool:=
 forL (σ:=Unit)
  (fun (e:Nat) (a:Zi) _=>
   (Zbj d a.var).bind fun b=>
   if b.2=true then
    if (sEq b.1 a.value)=true then
     some (.inl ())
    else
     some (.inr false)
   else
    some (.inl ()))
  (fun _=>
   some true)
  c 0 ()
def ZHs (g:Zg) (h:List Zc) (i:List Zi):Option Int:=
 iter (σ:=Int×Int)
  (fun s=>
   match s with
   |(c,a)=>
   if (decide (a<=(g.cond.length:Int)))=true then
    (Zck g a h).bind fun d=>
    forL (σ:=Int)
     (fun (j:Nat) (e:Zq) b=>
      (ZHm e.binding i).bind fun f=>
      if f=true then
       some (.inl a)
      else
       some (.inl b))
     (fun b=>
      some (.inl (b,(i64.wrap (a+1)))))
     d 0 c
   else
    some (.inr c))
  (0,0)
def ZHi (m:List Zg) (n:List Zc) (d:Zc):Option ((List Zwt)×Bool):=
 (ZfH m n).bind fun h=>
 if h.2=true then
  (ZfR d).bind fun g=>
  if g=true then
   (Zbb h.1 d).bind fun i=>
   if (decide (0<=i))=true then
    some ([],false)
   else
    forL (σ:=(List Zwt))
     (fun (o:Nat) (b:Zg) e=>
      forL (σ:=(List Zwt))
       (fun (p:Nat) (j:Zu) a=>
        (Zbp j.pattern d []).bind fun f=>
        if f.2=true then
         (ZHs b h.1 f.1).bind fun c=>
         if (decide (c<(b.cond.length:Int)))=true then
          (atI b.cond c).bind fun k=>
          (ZG7 k).bind fun l=>
          chk (a.length+1<=1073741824) <|
          some (.inl (a++[({rule:=b.name,done:=c,cond:=l}:Zwt)]))
         else
          chk (a.length+1<=1073741824) <|
          some (.inl (a++[({rule:=b.name,done:=c,cond:=(⟨#[]⟩)}:Zwt)]))
        else
         some (.inl a))
       (fun a=>
        some (.inl a))
       b.thn 0 e)
     (fun e=>
      some (e,true))
     m 0 []
  else
   some ([],false)
 else
  some ([],false)
def ZI7 (b:Zc):Option ByteArray:=
 (ZfR b).bind fun c=>
 if c=true then
  chk (b.rel.size+(⟨#[40]⟩:ByteArray).size<=9223372036854775807) <|
  (ZHX b.args (⟨#[44]⟩)).bind fun a=>
  chk ((b.rel++(⟨#[40]⟩:ByteArray)).size+a.size<=9223372036854775807) <|
  chk (((b.rel++(⟨#[40]⟩:ByteArray))++a).size+(⟨#[41]⟩:ByteArray).size<=9223372036854775807) <|
  some (((b.rel++(⟨#[40]⟩:ByteArray))++a)++(⟨#[41]⟩:ByteArray))
 else
  some (⟨#[]⟩)
def ZJG (d:List Int):Option ByteArray:=
 forL (σ:=ByteArray)
  (fun (e:Nat) (c:Int) a=>
   chk (a.size+(⟨#[32]⟩:ByteArray).size<=9223372036854775807) <|
   (Zbl c).bind fun b=>
   chk ((a++(⟨#[32]⟩:ByteArray)).size+b.size<=9223372036854775807) <|
   some (.inl ((a++(⟨#[32]⟩:ByteArray))++b)))
  (fun a=>
   some a)
  d 0 (⟨#[]⟩)
def ZJp (d:ZzC):Option ByteArray:=
 (ZfR d.fact).bind fun e=>
 if e=true then
  if (sEq d.rule ⟨#[]⟩)=true then
   (ZI7 d.fact).bind fun b=>
   chk (b.size+(⟨#[32,103,105,118,101,110]⟩:ByteArray).size<=9223372036854775807) <|
   some (b++(⟨#[32,103,105,118,101,110]⟩:ByteArray))
  else
   (ZI7 d.fact).bind fun a=>
   chk (a.size+(⟨#[32,98,121,32]⟩:ByteArray).size<=9223372036854775807) <|
   chk ((a++(⟨#[32,98,121,32]⟩:ByteArray)).size+d.rule.size<=9223372036854775807) <|
   chk (((a++(⟨#[32,98,121,32]⟩:ByteArray))++d.rule).size+(⟨#[32,102,114,111,109]⟩:ByteArray).size<=9223372036854775807) <|
   (ZJG d.uses).bind fun c=>
   chk ((((a++(⟨#[32,98,121,32]⟩:ByteArray))++d.rule)++(⟨#[32,102,114,111,109]⟩:ByteArray)).size+c.size<=9223372036854775807) <|
   some ((((a++(⟨#[32,98,121,32]⟩:ByteArray))++d.rule)++(⟨#[32,102,114,111,109]⟩:ByteArray))++c)
 else
  some (⟨#[]⟩)
def ZJb (a:Zwt):Option ByteArray:=
 chk (a.rule.size+(⟨#[32]⟩:ByteArray).size<=9223372036854775807) <|
 (Zbl a.done).bind fun b=>
 chk ((a.rule++(⟨#[32]⟩:ByteArray)).size+b.size<=9223372036854775807) <|
 chk (((a.rule++(⟨#[32]⟩:ByteArray))++b).size+(⟨#[32]⟩:ByteArray).size<=9223372036854775807) <|
 chk ((((a.rule++(⟨#[32]⟩:ByteArray))++b)++(⟨#[32]⟩:ByteArray)).size+a.cond.size<=9223372036854775807) <|
 some ((((a.rule++(⟨#[32]⟩:ByteArray))++b)++(⟨#[32]⟩:ByteArray))++a.cond)
def ZIZ (h:List Zg) (n:List Zc) (r:Zc):Option (List ByteArray):=
 (ZJf h n r).bind fun t=>
 forL (σ:=(List ByteArray)×Bool)
  (fun (u:Nat) (o:ZzC) s=>
   match s with
   |(c,j)=>
   if j=true then
    (Zbl (u:Int)).bind fun d=>
    chk (d.size+(⟨#[58,32]⟩:ByteArray).size<=9223372036854775807) <|
    (ZJp o).bind fun k=>
    chk ((d++(⟨#[58,32]⟩:ByteArray)).size+k.size<=9223372036854775807) <|
    chk (c.length+1<=1073741824) <|
    some (.inl ((c++[((d++(⟨#[58,32]⟩:ByteArray))++k)]),true))
   else
    (ZHi h n r).bind fun e=>
    forL (σ:=(List ByteArray)×Bool)
     (fun (v:Nat) (p:Zwt) s=>
      match s with
      |(a,f)=>
      if f=true then
       (ZJb p).bind fun l=>
       chk ((⟨#[110,111,58,32]⟩:ByteArray).size+l.size<=9223372036854775807) <|
       chk (a.length+1<=1073741824) <|
       some (.inl ((a++[((⟨#[110,111,58,32]⟩:ByteArray)++l)]),true))
      else
       some (.inr (.inr a)))
     (fun s=>
      match s with
      |(a,f)=>
      if f=true then
       if ((e.1.length:Int)==0)=true then
        chk (a.length+1<=1073741824) <|
        some (.inr (a++[(⟨#[110,111,32,114,117,108,101]⟩)]))
       else
        some (.inr a)
      else
       some (.inr a))
     e.1 0 (c,e.2))
  (fun s=>
   match s with
   |(c,j)=>
   (ZHi h n r).bind fun g=>
   forL (σ:=(List ByteArray)×Bool)
    (fun (w:Nat) (q:Zwt) s=>
     match s with
     |(b,i)=>
     if i=true then
      (ZJb q).bind fun m=>
      chk ((⟨#[110,111,58,32]⟩:ByteArray).size+m.size<=9223372036854775807) <|
      chk (b.length+1<=1073741824) <|
      some (.inl ((b++[((⟨#[110,111,58,32]⟩:ByteArray)++m)]),true))
     else
      some (.inr b))
    (fun s=>
     match s with
     |(b,i)=>
     if i=true then
      if ((g.1.length:Int)==0)=true then
       chk (b.length+1<=1073741824) <|
       some (b++[(⟨#[110,111,32,114,117,108,101]⟩)])
      else
       some b
     else
      some b)
    g.1 0 (c,g.2))
  t.1 0 ([],t.2)
end
theorem ZdQ (a b:ByteArray):toL (a++b)=toL a++toL b:=by simp [toL]
theorem Zto (a b:List UInt8):ofL (a++b)=ofL a++ofL b:=Zf2 (by rw [ZdQ,Zcu,Zcu,Zcu])
theorem Zj6 (a:List UInt8):(ofL a).size=a.length:=by rw [<-Zds,Zcu]
theorem ZxC (a b c:ByteArray):(a++b)++c=a++(b++c):=Zf2 (by simp only[ZdQ,List.append_assoc])
theorem ZyE (a b:ByteArray):(a++b).size=a.size+b.size:=by rw [<-Zds,<-Zds,<-Zds,ZdQ,AF]
theorem ZeV {n:Int}(h0:-9223372036854775808<=n) (h1:n<=9223372036854775807):i64.wrap n=n:=by rw [IntKind.wrap_i64];omega
theorem ZxS (u:Nat) (hu:u<9223372036854775808):Xn [IntKind.u8.wrap (i64.wrap (48+Int.tmod (u:Int) 10))]=ofL [AJ (48+u % 10)]:=by
 have h1:Int.tmod (u:Int) 10=((u % 10:Nat):Int):=by rw [Int.tmod_eq_emod_of_nonneg yE];omega
 rw [h1,ZeV yE yE,IntKind.wrap_u8,show (48+((u % 10:Nat):Int)) % 256=((48+u % 10:Nat):Int) by omega];apply Zf2;rw [Zcu];simp only[Xn,AG,AK,toL,AL]
theorem ZyU (u:Nat) (hu:u<9223372036854775808):i64.wrap (Int.tdiv (u:Int) 10)=((u / 10:Nat):Int):=by
 rw [Int.tdiv_eq_ediv_of_nonneg yE,ZeV yE yE];omega
theorem Zxq {body:Int×ByteArray->Option ((Int×ByteArray) ⊕ ByteArray)}(hb:∀n t,body (n,t)=chk ((Xn [IntKind.u8.wrap (i64.wrap (48+Int.tmod n 10))]).size+t.size<=9223372036854775807)
   (if (i64.wrap (Int.tdiv n 10)==0)=true then some (.inr (Xn [IntKind.u8.wrap (i64.wrap (48+Int.tmod n 10))]++t)) else some (.inl (i64.wrap (Int.tdiv n 10),Xn [IntKind.u8.wrap (i64.wrap (48+Int.tmod n 10))]++t)))):
  ∀(u:Nat) (t:ByteArray),u<9223372036854775808->t.size+Lib.nDigits u<=1000->iter body ((u:Int),t)=some (ofL (Lib.decDigits u)++t):=by
 intro u;induction u using Nat.strongRecOn with
 |ind u ih=>
  intro t hu ht;rw [ZjL,hb,ZxS u hu,ZyU u hu];have hp:=Lib.nDigits_pos u;rw [Zj _ (by rw [Zj6];simp;omega)];by_cases h:u<10
  .have h0:u / 10=0:=by omega
   rw [h0,Lib.decDigits_one h,show u % 10=u by omega];rfl
  .have h0:¬(((u / 10:Nat):Int)==0)=true:=by simp;omega
   rw [if_neg h0];have hd:=Lib.nDigits_big h;show iter body (((u / 10:Nat):Int),ofL [AJ (48+u % 10)]++t)=_
   rw [ih (u / 10) yE _ yE (by rw [ZyE,Zj6];simp;omega),<-ZxC,<-Zto];congr 2
   rw [show Lib.decDigits u=Lib.decDigits (u / 10)++[AJ (48+u % 10)] by rw [Lib.decDigits,dif_neg h]]
theorem ZCn (t:ByteArray):t++(⟨#[]⟩:ByteArray)=t:=Zf2 (by rw [ZdQ];simp [toL])
theorem ZoU {body:Int×ByteArray->Option ((Int×ByteArray) ⊕ ByteArray)}(hb:∀n t,body (n,t)=chk ((Xn [IntKind.u8.wrap (i64.wrap (48+Int.tmod n 10))]).size+t.size<=9223372036854775807)
   (if (i64.wrap (Int.tdiv n 10)==0)=true then some (.inr (Xn [IntKind.u8.wrap (i64.wrap (48+Int.tmod n 10))]++t)) else some (.inl (i64.wrap (Int.tdiv n 10),Xn [IntKind.u8.wrap (i64.wrap (48+Int.tmod n 10))]++t))))
  {n:Int} (h0:0<=n) (h1:n<=9223372036854775807):iter body (n,⟨#[]⟩)=some (ofL (Lib.itoa n)):=by
 obtain ⟨u,rfl⟩:∃u:Nat,n=(u:Int):=⟨n.toNat,yE⟩
 have:=Lib.nDigits_le20 u yE;rw [Zxq hb u _ yE (by show 0+_<=_;omega),ZCn,Lib.itoa_nonneg]
theorem Zt2:ofL (Lib.itoa (-9223372036854775808))=(⟨#[45,57,50,50,51,51,55,50,48,51,54,56,53,52,55,55,53,56,48,56]⟩:ByteArray):=by
 rw [show (-9223372036854775808:Int)=-((9223372036854775808:Nat):Int) by rfl,Lib.itoa_neg _ yE,Lib.decDigits_eq,Lib.nDigits_unique 18 _ yF yF];decide +kernel
theorem ZkH {n:Int}(h0:0<=n) (h1:n<=9223372036854775807):ZaQ n=some (ofL (Lib.itoa n)):=by
 unfold ZaQ;rw [if_neg (by simp;omega),if_neg (by simp;omega)];exact ZoU (fun _ _=>rfl) h0 h1
theorem ZmZ {n:Int}(h:Zlp n):Zbl n=some (ofL (Lib.itoa n)):=by
 unfold Zbl;by_cases hm:n=-9223372036854775808
 .subst hm;rw [if_pos yF,Zt2]
 .rw [if_neg (by simpa using hm)];by_cases hn:n<0
  .have h2:Zlp n:=h;unfold Zlp at h2;rw [if_pos (by simpa using hn),ZeV yE yE,ZkH yE yE,A3];obtain ⟨u,rfl⟩:∃u:Nat,n=-(u:Int):=⟨n.natAbs,yE⟩
   rw [show (0 - -(u:Int))=(u:Int) by omega,Lib.itoa_nonneg,Lib.itoa_neg u yE];have:=Lib.nDigits_le20 u yE;rw [Zj _ (by rw [Zj6,Lib.decDigits_length];show 1+_<=_;omega)];exact congrArg some (Zf2 (by rw [ZdQ,Zcu,Zcu];rfl))
  .rw [if_neg (by simpa using hn)];exact ZoU (fun _ _=>rfl) yE h.2
theorem Zd5 {n:Int}(h:Zlp n):Zbu n=some (ofL (Lib.itoa n)):=by
 have h2:-9223372036854775808<=n/\n<=9223372036854775807:=h;unfold Zbu ZqT;rw [Zj _ h2];rfl
theorem ZJe {n:Int}(h:Zlp n):(ofL (Lib.itoa n)).size<=21:=by
 rw [Zj6];exact Lib.itoa_length_le n h.1 h.2
def ZbP (b:UInt8):Bool:=(decide (97<=b.toNat)&&decide (b.toNat<=122))||(decide (48<=b.toNat)&&decide (b.toNat<=57))
def ZT (s:ByteArray):Bool:=decide (1<=s.size)&&decide (s.size<=8)&&(toL s).all ZbP
theorem Zh0 (x a b:Int):Qr x a b=some (decide (a<=x)&&decide (x<=b)):=by
 unfold Qr;by_cases h:a<=x<;>simp [h]
theorem Zpa (b:UInt8):i64.wrap (b.toNat:Int)=(b.toNat:Int):=ZeT yE (by have:=b.toNat_lt;omega)
theorem Zax {b:UInt8}:ZbP b=true↔(97<=b.toNat/\b.toNat<=122)\/(48<=b.toNat/\b.toNat<=57):=by
 simp only[ZbP,AS,AB,decide_eq_true_eq]
theorem QB (s:ByteArray):QT s=some (ZT s):=by
 unfold QT ZT;rw [show s.data.toList=toL s from rfl,Z0 (p:=ZbP) (r:=false)]
 .simp only[Zh0,A3];cases (toL s).all ZbP with
  |true=>
   simp only[if_true,Bool.and_true];congr 1
   rw [AD];simp only[AB,decide_eq_true_eq];omega
  |false=>simp
 .intro i x _;simp only[Zh0,A3,Zpa,AB,decide_eq_true_eq];cases hp:ZbP x with
  |true=>
   have:=Zax.1 hp
   repeat' split
   all_goals first|rfl|(exfalso;omega)|(exfalso;simp_all;done)
  |false=>
   have:=mt (Zax (b:=x)).2 (by simp [hp])
   repeat' split
   all_goals first|rfl|(exfalso;omega)|(exfalso;simp_all;done)
theorem QC (s:ByteArray):QS s=some (ZT s):=by
 unfold QS ZT;simp only[decide_eq_true_eq];rw [show s.data.toList=toL s from rfl,Z0 (p:=ZbP) (r:=false)]
 .repeat' split
  .rw [decide_eq_false (show ¬1<=s.size by omega)];rfl
  .rw [decide_eq_false (show ¬s.size<=8 by omega)];simp
  .rename_i h;rw [h,decide_eq_true (show 1<=s.size by omega),decide_eq_true (show s.size<=8 by omega)];rfl
  .rename_i h;rw [eq_false_of_ne_true h];simp
 .intro i x _;cases hp:ZbP x with
  |true=>
   have:=Zax.1 hp
   repeat' split
   all_goals first|rfl|(exfalso;omega)|(exfalso;simp_all;done)
  |false=>
   have:=mt (Zax (b:=x)).2 (by simp [hp])
   repeat' split
   all_goals first|rfl|(exfalso;omega)|(exfalso;simp_all;done)
def Zih (s:ByteArray):UInt8:=(toL s).headD 0
theorem Zj1 {s:ByteArray}(h:1<=s.size):sAt s 0=some (Zih s):=by
 unfold sAt Zih;have hl:0<(toL s).length:=by rw [Zds];omega
 have:(toL s)[0]?=some ((toL s).headD 0):=by
  cases hh:toL s with
  |nil=>rw [hh]at hl;simp at hl
  |cons a r=>simp
 rw [if_pos yE];exact Zp3 this
def XG (s:ByteArray):Bool:=ZT s&&decide (97<=(Zih s).toNat)
theorem ZbW {s:ByteArray}(h:ZT s=true):1<=s.size/\s.size<=8:=by
 simp only[ZT,AB,decide_eq_true_eq]at h;exact h.1
theorem ZjK {s:ByteArray}(h:ZT s=true):ZbP (Zih s)=true:=by
 have hs:=ZbW h;simp only[ZT,AB]at h;have hl:0<(toL s).length:=by rw [Zds];omega
 refine List.all_eq_true.1 h.2 _ ?_;unfold Zih;cases hh:toL s with
 |nil=>rw [hh]at hl;simp at hl
 |cons a r=>simp
theorem Zhp (s:ByteArray):ZdM s=some (XG s):=by
 unfold ZdM XG;rw [QB,A3];cases h:ZT s with
 |false=>simp
 |true=>
  simp only[if_true,Zj1 (ZbW h).1,A3,Zh0,Zpa,AH];have hb:=Zax.1 (ZjK h);congr 1
  rw [AD];simp only[AB,decide_eq_true_eq];omega
theorem Zg9 (s:ByteArray):Zey s=some (XG s):=by
 unfold Zey XG;rw [QC,A3];cases h:ZT s with
 |false=>simp
 |true=>
  simp only[if_true,Zj1 (ZbW h).1,A3,AH];congr 1
  rw [AD];simp only[decide_eq_true_eq];omega
def ZuN (s:ByteArray):ByteArray:=s.extract 1 s.size
def Yr (s:ByteArray):Bool:=decide (1<s.size)&&decide ((Zih s).toNat=63)&&ZT (ZuN s)
theorem Zaj (s:ByteArray):Za3 s=some (Yr s):=by
 unfold Za3 Yr ZuN;by_cases h:1<s.size
 .have h':(1:Int)<(s.size:Int):=by omega
  simp only[h',h,decide_true,if_true,Zj1 (show 1<=s.size by omega),A3,AH];rw [Zj _ ⟨yE,yE⟩,show A0 1=1 from rfl,QB,A3];by_cases h2:(Zih s).toNat=63
  .simp [h2]
  .have:¬((Zih s).toNat:Int)=63:=by omega
   simp [h2,this]
 .have h':¬(1:Int)<(s.size:Int):=by omega
  simp [h',h]
theorem ZdO (s:ByteArray):Zdp s=some (Yr s):=by
 unfold Zdp Yr ZuN;by_cases h:1<s.size
 .have h':(1:Int)<(s.size:Int):=by omega
  simp only[h',h,decide_true,if_true,Zj1 (show 1<=s.size by omega),A3,AH];rw [Zj _ ⟨yE,yE⟩,show A0 1=1 from rfl,QC,A3];by_cases h2:(Zih s).toNat=63
  .simp [h2]
  .have:¬((Zih s).toNat:Int)=63:=by omega
   simp [h2,this]
 .have h':¬(1:Int)<(s.size:Int):=by omega
  simp [h',h]
def YJ (s:ByteArray):Bool:=ZT s||Yr s
theorem Zk6 (s:ByteArray):Zaq s=some (YJ s):=by
 unfold Zaq YJ;rw [QB,Zaj];cases ZT s<;>simp
theorem ZkY (s:ByteArray):Zab s=some (YJ s):=by
 unfold Zab YJ;rw [QC,ZdO];cases ZT s<;>simp
theorem Xc (l:List ByteArray) (s:ByteArray):ZW l s=some (YM l s):=by
 unfold ZW YM;rw [ZcX (p:=fun x=>sEq x s) (r:=true)]
 .cases l.any fun x=>sEq x s<;>simp
 .intro i x _;cases sEq x s<;>simp
theorem Zay (l:List ByteArray) (s:ByteArray):Xv l s=some (YM l s):=by
 unfold Xv YM;rw [ZcX (p:=fun x=>sEq x s) (r:=true)]
 .cases l.any fun x=>sEq x s<;>simp
 .intro i x _;cases sEq x s<;>simp
theorem QM (l:List ByteArray) (s:ByteArray) (h:l.length+1<=1073741824):Qd l s=some (QO l s):=by
 unfold Qd;refine (ZaV (fun l _ (st:List ByteArray×Bool)=>some (if st.2=true then st.1++l else st.1++QO l s)) (fun l _ (st:List ByteArray×Bool)=>st.1.length+l.length+(if st.2=true then 0 else 1)<=1073741824) ?_ ?_ l 0 ([],false) (by simpa using h)).trans yG
 .rintro i ⟨row,d⟩ hI;cases d with
  |true=>simp
  |false=>simp only[A4,if_false,QO];simp at hI;rw [Zj _ yE]
 .rintro x l i ⟨row,d⟩ hI;left
  cases d with
  |true=>
   simp at hI;exact ⟨(row++[x],true),by simp only[if_true];rw [Zj _ yE],by simp;omega,yG⟩
  |false=>
   simp at hI;cases h1:sLt x s with
   |true=>exact ⟨(row++[x],false),by simp only[A4,if_false,if_true];rw [Zj _ yE],by simp;omega,by simp [QO,h1]⟩
   |false=>
    cases h2:sEq x s with
    |true=>exact ⟨(row++[x],true),by simp only[A4,if_false,if_true];rw [Zj _ yE],by simp;omega,by simp [QO,h1,h2]⟩
    |false=>exact ⟨(row++[s]++[x],true),by simp only[A4,if_false];rw [Zj _ yE,Zj _ yE],by simp;omega,by simp [QO,h1,h2]⟩
def XC:ByteArray->List ByteArray->List ByteArray
 |_,[]=>[]
 |y,x::r=>if sEq y x=true then XC x r else x::XC x r
def ZmO:List ByteArray->List ByteArray
 | []=>[]
 |x::r=>x::XC x r
theorem Zgf {z:ByteArray}:∀{l:List ByteArray}{y:ByteArray},z∈XC y l->z∈l
 | [],_,h=>by simp [XC]at h
 |x::r,y,h=>by
  simp only[XC]at h;split at h
  .exact AM _ (Zgf h)
  .rcases A5.1 h with rfl|h
   .simp
   .exact AM _ (Zgf h)
theorem ZjR {z:ByteArray}:∀{l:List ByteArray}{y:ByteArray},z∈l->z=y\/z∈XC y l
 | [],_,h=>by simp at h
 |x::r,y,h=>by
  simp only[XC];rcases A5.1 h with rfl|h
  .split
   .rename_i e;exact .inl (ZQ.1 e).symm
   .simp
  .rcases ZjR (y:=x) h with rfl|h'
   .split
    .rename_i e;exact .inl (ZQ.1 e).symm
    .simp
   .split
    .exact .inr h'
    .exact .inr (AM _ h')
theorem ZjN:∀{l:List ByteArray}{y:ByteArray},(y::l).Pairwise (fun a b=>sLt b a=false)->Asc (y::XC y l)
 | [],_,_=>by simp [XC,Asc]
 |x::r,y,h=>by
  rw [A8]at h;have ih:=ZjN h.2;simp only[XC];split
  .rename_i e;have e':=ZQ.1 e;subst e';exact ih
  .rename_i e;have c:sLt y x=true:=ZfB (h.1 x yG) (fun h=>e (ZQ.2 h.symm));refine A8.2 ⟨fun z mz=>?_,ih⟩;rcases A5.1 mz with rfl|mz
   .exact c
   .exact ZfL c ((A8.1 ih).1 z mz)
theorem Zqf (l:List ByteArray):ZmO (ZfD l)=ZV l:=by
 have hs:=ZxL l;refine Zgd ?_ fun x=>?_
 .cases h:ZfD l with
  |nil=>simp [ZmO,Asc]
  |cons y r=>rw [h]at hs;exact ZjN hs
 .rw [<-ZvO (l:=l)];cases h:ZfD l with
  |nil=>simp [ZmO]
  |cons y r=>
   simp only[ZmO,A5];constructor
   .rintro (rfl|h)
    .exact .inl rfl
    .exact .inr (Zgf h)
   .rintro (rfl|h)
    .exact .inl rfl
    .exact ZjR h
theorem Qi (l:List ByteArray) (h:l.length<=1073741824):Yy l=some (ZV l):=by
 unfold Yy;rw [Zj _ h,Zcw,Zj _ yE,A3];have hl:=Zvw l;rw [<-Zqf];generalize ZfD l=v at hl
 refine (ZaV (fun r i (row:List ByteArray)=>some (row++match i with|0=>ZmO r|i+1=>(match v[i]? with|some y=>XC y r|none=>[]))) (fun r i row=>v.drop i=r/\row.length<=i/\i<=v.length) ?_ ?_ v 0 [] ⟨yG,yG,yG⟩).trans yG
 .rintro i row ⟨h1,h2,h3⟩;cases i with
  |zero=>simp [ZmO]
  |succ i=>cases hv:v[i]?<;>simp [XC,hv]
 .rintro x r i row ⟨h1,h2,h3⟩;left
  have hi:v[i]?=some x:=by have:=congrArg (fun l=>l[0]?) h1;simpa using this
  have hlt:i<v.length:=(AN.1 hi).1;have hr:v.drop (i+1)=r:=by have:=congrArg List.tail h1;simpa using this
  cases i with
  |zero=>
   refine ⟨row++[x],?_,⟨hr,by simp at h2 ⊢;simp [h2],yE⟩,?_⟩
   .simp only[Int.natCast_zero,beq_self_eq_true,if_true];rw [Zj _ yE]
   .simp [ZmO,hi]
  |succ i=>
   have hw:i64.wrap (((i+1:Nat):Int)-1)=(i:Int):=by rw [ZeT yE yE];omega
   have a:((((i+1:Nat):Int))==0)=false:=by rw [beq_eq_false_iff_ne];omega
   obtain ⟨y,hy⟩:∃y,v[i]?=some y:=⟨v[i],yG⟩
   simp only[a,A4,if_false,hw,AL,hy,A3];cases he:sEq y x with
   |true=>
    refine ⟨row,?_,⟨hr,yE,yE⟩,?_⟩
    .rw [Zj _ ⟨yE,yE⟩];rfl
    .simp [XC,he,hi]
   |false=>
    refine ⟨row++[x],?_,⟨hr,by simp;omega,yE⟩,?_⟩
    .rw [Zj _ ⟨yE,yE⟩];simp only[A4,if_false];rw [Zj _ yE]
    .simp [XC,he,hi]
theorem Zg2 (l:List ByteArray) (h:l.length<=1073741824):Zbx l=some l:=by
 unfold Zbx;rw [Zj _ h]
theorem ZqO (l:List ByteArray) (h:l.length<=1073741824):ZfK l=some l:=by
 unfold ZfK;rw [Zj _ h]
theorem Zm0 {ρ:Type}{fin:List ByteArray->Option ρ}{body:Nat->ByteArray->List ByteArray->Option (List ByteArray ⊕ ρ)}(hb:∀j x s,body j x s=(Qd s x).bind fun v=>some (.inl v)) {l a:List ByteArray}(h:a.length+l.length<=1073741824):forL body fin l 0 a=fin (l.foldl QO a):=by
 refine Y9 (f:=QO) (fun j s=>s.length<=a.length+j) yE fun j x s mx hj hl hI=>?_;have hp:=Zen x s;exact ⟨by rw [hb,QM _ _ yE];rfl,yE⟩
theorem ZaC {α σ ρ:Type}{body:Nat->α->σ->Option (σ ⊕ ρ)}{fin:σ->Option ρ}(st:List α->σ) (l:List α) (h:∀p x q,l=p++x::q->body p.length x (st p)=some (.inl (st (p++[x])))):forL body fin l 0 (st [])=fin (st l):=by
 have key:∀(q p:List α),l=p++q->forL body fin q p.length (st p)=fin (st l):=by
  intro q;induction q with
  |nil=>intro p e;rw [ZnV,e,List.append_nil]
  |cons x q ih=>
   intro p e;rw [Z4 (h p x q e)];have:=ih (p++[x]) (by rw [e];simp);simpa using this
 exact key l [] rfl
def ZHg (l:List ByteArray) (sep:ByteArray):ByteArray:=ofL (Lib.join (l.map toL) (toL sep))
def ZHh (l:List ByteArray) (sep:ByteArray):Nat:=(l.map AT).sum+l.length*sep.size
theorem ZIF (p:List (List UInt8)) (hp:p≠[]) (x sep:List UInt8):Lib.join (p++[x]) sep=(Lib.join p sep++sep)++x:=by
 cases p with
 |nil=>exact absurd rfl hp
 |cons y r=>rw [List.cons_append,Lib.join_cons,Lib.join_cons];simp [Lib.joinTail]
theorem ZH2 (sep:ByteArray):ZHg [] sep=⟨#[]⟩:=rfl
theorem ZHR {p:List ByteArray}(hp:p≠[]) (x sep:ByteArray):ZHg (p++[x]) sep=(ZHg p sep++sep)++x:=by
 unfold ZHg;rw [AU,AG,AK,ZIF _ (by simpa using hp)];exact Zf2 (by simp only[ZdQ,Zcu])
theorem ZH4 (x sep:ByteArray):ZHg [x] sep=x:=by
 unfold ZHg;rw [AG,AK,Lib.join_one,Zj7]
theorem ZHE (p q:List ByteArray) (sep:ByteArray):ZHh (p++q) sep=ZHh p sep+ZHh q sep:=by
 unfold ZHh;rw [AU,List.sum_append,AF,Nat.add_mul];omega
theorem ZHA (x:ByteArray) (q:List ByteArray) (sep:ByteArray):ZHh (x::q) sep=x.size+sep.size+ZHh q sep:=by
 unfold ZHh;rw [AG,List.sum_cons,A9,Nat.add_mul];omega
theorem ZHf (sep:ByteArray) (l:List ByteArray):(ZHg l sep).size<=ZHh l sep:=by
 have:∀n (l:List ByteArray),l.length=n->(ZHg l sep).size<=ZHh l sep:=by
  intro n;induction n with
  |zero=>intro l h;rw [AW h];exact AE _
  |succ n ih=>
   intro l h;obtain ⟨p,x,rfl⟩:∃p x,l=p++[x]:=⟨l.dropLast,l.getLast (by intro e;simp [e]at h),(AX _).symm⟩
   rw [ZHE,ZHA];by_cases hp:p=[]
   .subst hp;rw [List.nil_append,ZH4];omega
   .have:=ih p (by simpa using h);rw [ZHR hp,ZyE,ZyE];omega
 exact this _ l rfl
theorem ZIO (l:List ByteArray) (sep:ByteArray) (h:ZHh l sep<=1099511627776):ZHX l sep=some (ZHg l sep):=by
 unfold ZHX;rw [<-ZH2 sep];rw [ZaC (fun p=>ZHg p sep) l];intro p x q e;have h1:=ZHf sep p;rw [e,ZHE,ZHA]at h;by_cases hp:p=[]
 .subst hp;rw [if_neg yG,Zj _ yE];show some (Sum.inl (ZHg [] sep++x))=some (Sum.inl (ZHg [x] sep))
  rw [ZH4,ZH2];exact congrArg (fun t=>some (Sum.inl t)) (Zf2 (by rw [ZdQ];simp [toL]))
 .have:0<p.length:=List.length_pos_iff.2 hp;rw [if_pos (by simpa using this),Zj _ yE,Zj _ (by rw [ZyE];omega),ZHR hp]
theorem ZIM (l:List ByteArray) (sep:ByteArray) (h:ZHh l sep<=1099511627776) (hl:l.length<=1099511627776):ZHV l sep=some (ZHg l sep):=by
 unfold ZHV ZIa;have h1:=ZHf sep l;unfold ZHg at h1;rw [Zj6]at h1;rw [Zj _ ⟨yE,yE⟩];rfl
theorem ZJZ {l:List ByteArray}{sep:ByteArray}(h:XD l<=1048576) (hs:sep.size<=16):ZHh l sep<=20000000/\l.length<=1048576:=by
 unfold XD at h;unfold ZHh;have:l.length*sep.size<=1048576*16:=Nat.mul_le_mul yE hs;omega
def Y3 (f:Zc):Bool:=XG f.rel&&decide (f.args.length<=3)&&f.args.all ZT
theorem Zli (f:Zc):ZfR f=some (Y3 f):=by
 unfold ZfR Y3;rw [Z0 (p:=ZT) (r:=false)]
 .rw [Zhp,A3];cases XG f.rel<;>cases h:f.args.all ZT<;>simp<;>omega
 .intro i x _;rw [QB,A3];cases ZT x<;>rfl
theorem Zlu (f:Zc):ZfO f=some (Y3 f):=by
 unfold ZfO Y3;rw [Zg9,A3];cases XG f.rel with
 |false=>rfl
 |true=>
  rw [if_pos rfl];by_cases h:f.args.length<=3
  .rw [if_neg (by simp;omega),Z0 (p:=ZT) (r:=false)]
   .cases h2:f.args.all ZT<;>simp [h]
   .intro i x _;rw [QC,A3];cases ZT x<;>rfl
  .rw [if_pos (by simp;omega)];simp [h]
def ZJH (f:Zc):ByteArray:=if Y3 f=true then ((f.rel++(⟨#[40]⟩:ByteArray))++ZHg f.args ⟨#[44]⟩)++(⟨#[41]⟩:ByteArray) else ⟨#[]⟩
theorem ZKB {f:Zc}(h:Xx f<=1048576):(ZJH f).size<=30000000:=by
 unfold Xx at h;have h1:=ZJZ (l:=f.args) (sep:=⟨#[44]⟩) yE yF;have h2:=ZHf ⟨#[44]⟩ f.args;have e1:(⟨#[40]⟩:ByteArray).size=1:=rfl;have e2:(⟨#[41]⟩:ByteArray).size=1:=rfl;unfold ZJH;split
 .rw [ZyE,ZyE,ZyE];omega
 .exact AE _
theorem ZJO {f:Zc}(h:Xx f<=1048576):ZI7 f=some (ZJH f):=by
 unfold Xx at h;have h1:=ZJZ (l:=f.args) (sep:=⟨#[44]⟩) yE yF;have h2:=ZHf ⟨#[44]⟩ f.args;have e1:(⟨#[40]⟩:ByteArray).size=1:=rfl;have e2:(⟨#[41]⟩:ByteArray).size=1:=rfl;unfold ZI7 ZJH;rw [Zli,A3];split
 .rw [Zj _ yE,ZIO _ _ yE,A3,Zj _ (by rw [ZyE];omega),Zj _ (by rw [ZyE,ZyE];omega)]
 .rfl
theorem ZKu {f:Zc}(h:Xx f<=1048576):ZJg f=some (ZJH f):=by
 unfold Xx at h;have h1:=ZJZ (l:=f.args) (sep:=⟨#[44]⟩) yE yF;have h2:=ZHf ⟨#[44]⟩ f.args;have e1:(⟨#[40]⟩:ByteArray).size=1:=rfl;have e2:(⟨#[41]⟩:ByteArray).size=1:=rfl;unfold ZJg ZJH;rw [Zlu,A3];split
 .rw [Zj _ yE,ZIM _ _ yE yE,A3,Zj _ (by rw [ZyE];omega),Zj _ (by rw [ZyE,ZyE];omega)]
 .rfl
def ZJD (l:List Int):ByteArray:=l.foldl (fun s u=>(s++(⟨#[32]⟩:ByteArray))++ofL (Lib.itoa u)) ⟨#[]⟩
theorem ZJ1 (p:List Int) (x:Int):ZJD (p++[x])=(ZJD p++(⟨#[32]⟩:ByteArray))++ofL (Lib.itoa x):=by
 unfold ZJD;rw [List.foldl_append];rfl
theorem ZJl:∀n (l:List Int),l.length=n->(∀u∈l,Zlp u)->(ZJD l).size<=22*n
 |0,l,h,_=>by rw [AW h];exact AE _
 |n+1,l,h,hw=>by
  obtain ⟨p,x,rfl⟩:∃p x,l=p++[x]:=⟨l.dropLast,l.getLast (by intro e;simp [e]at h),(AX _).symm⟩
  have h1:=ZJl n p (by simpa using h) fun u mu=>hw u (by simp [mu]);have h2:=ZJe (hw x yG);have e1:(⟨#[32]⟩:ByteArray).size=1:=rfl;rw [ZJ1,ZyE,ZyE];omega
theorem ZLf {l:List Int}(hl:l.length<=1048576) (hw:∀u∈l,Zlp u):ZJG l=some (ZJD l):=by
 unfold ZJG;rw [show (⟨#[]⟩:ByteArray)=ZJD [] from rfl,ZaC ZJD l];intro p x q e;have hx:Zlp x:=hw x (by rw [e];simp);have h1:=ZJl p.length p rfl fun u mu=>hw u (by rw [e];simp [mu]);have h2:=ZJe hx;have e1:(⟨#[32]⟩:ByteArray).size=1:=rfl;have e2:p.length+(q.length+1)=l.length:=by rw [e,AF,A9]
 rw [Zj _ yE,ZmZ hx,A3,Zj _ (by rw [ZyE];omega),ZJ1]
/-- a step in writing -/
def ZKL (s:ZzC):ByteArray :=
  if Y3 s.fact=true then
    (if sEq s.rule ⟨#[]⟩=true then ZJH s.fact ++ (⟨#[32, 103, 105, 118, 101, 110]⟩:ByteArray)
     else (((ZJH s.fact ++ (⟨#[32, 98, 121, 32]⟩:ByteArray)) ++ s.rule) ++ (⟨#[32, 102, 114, 111, 109]⟩:ByteArray)) ++ ZJD s.uses)
  else ⟨#[]⟩
theorem ZKP {s:ZzC}(h:ZJB s<=1048576) (wf:ZLN s):ZJp s=some (ZKL s):=by
 unfold ZJB at h;have hw:∀u∈s.uses,Zlp u:=wf.2.2;have h1:=ZKB (f:=s.fact) yE;have h2:=ZJl s.uses.length s.uses rfl hw;have e1:(⟨#[32,103,105,118,101,110]⟩:ByteArray).size=6:=rfl;have e2:(⟨#[32,98,121,32]⟩:ByteArray).size=4:=rfl;have e3:(⟨#[32,102,114,111,109]⟩:ByteArray).size=5:=rfl;unfold ZJp ZKL;rw [Zli,A3];split
 .split
  .rw [ZJO yE,A3,Zj _ yE]
  .rw [ZJO yE,A3,Zj _ yE,Zj _ (by rw [ZyE];omega),Zj _ (by simp only[ZyE];omega),ZLf yE hw,A3,Zj _ (by simp only[ZyE];omega)]
 .rfl
theorem ZKR {s:ZzC}(h:ZJB s<=1048576) (wf:ZLN s):ZJi s=some (ZKL s):=by
 unfold ZJB at h;have hw:∀u∈s.uses,Zlp u:=wf.2.2;have h1:=ZKB (f:=s.fact) yE;have h2:=ZJl s.uses.length s.uses rfl hw;have e1:(⟨#[32,103,105,118,101,110]⟩:ByteArray).size=6:=rfl;have e2:(⟨#[32,98,121,32]⟩:ByteArray).size=4:=rfl;have e3:(⟨#[32,102,114,111,109]⟩:ByteArray).size=5:=rfl;have e4:(⟨#[32]⟩:ByteArray).size=1:=rfl;unfold ZJi ZKL;rw [Zlu,A3];split
 .rw [ZKu yE,A3];split
  .rw [Zj _ yE]
  .rw [Zj _ yE,Zj _ (by rw [ZyE];omega),Zj _ (by simp only[ZyE];omega)];have hs:ZJH s.fact++(((⟨#[32,98,121,32]⟩:ByteArray)++s.rule)++(⟨#[32,102,114,111,109]⟩:ByteArray))=(((ZJH s.fact++(⟨#[32,98,121,32]⟩:ByteArray))++s.rule)++(⟨#[32,102,114,111,109]⟩:ByteArray)):=by simp only[ZxC]
   rw [hs];generalize hb:(((ZJH s.fact++(⟨#[32,98,121,32]⟩:ByteArray))++s.rule)++(⟨#[32,102,114,111,109]⟩:ByteArray))=base
   have hbs:base.size<=40000000:=by rw [<-hb];simp only[ZyE];omega
   have h0:base=(fun p=>base++ZJD p) []:=(ZCn base).symm;rw [h0,ZaC (fun p=>base++ZJD p) s.uses]
   .show some (base++ZJD s.uses)=some ((base++ZJD [])++ZJD s.uses)
    rw [show ZJD []=(⟨#[]⟩:ByteArray) from rfl,ZCn]
   .intro p x q e;have hx:Zlp x:=hw x (by rw [e];simp);have h3:=ZJl p.length p rfl fun u mu=>hw u (by rw [e];simp [mu]);have h4:=ZJe hx;have h5:p.length+(q.length+1)=s.uses.length:=by rw [e,AF,A9]
    rw [Zd5 hx,A3,Zj _ yE,Zj _ (by simp only[ZyE];omega),ZJ1];simp only[ZxC]
 .rfl
structure Zpu {α:Type}(c:α->α->Int):Prop where
 eq:∀a b,c a b=0↔a=b
 anti:∀a b,c b a=- c a b
 tr:∀a b d,c a b<0->c b d<0->c a d<0
def Zjd (a b:ByteArray):Int:=Lib.compareBytes (toL a) (toL b)
theorem ZiH:∀(x y:List UInt8),Lib.compareBytes x y=if Op.bytesLess x y=true then -1 else if x=y then 0 else 1
 | [],[]=>by simp [Lib.compareBytes,Op.bytesLess]
 | [],_::_=>by simp [Lib.compareBytes,Op.bytesLess]
 |_::_,[]=>by simp [Lib.compareBytes,Op.bytesLess]
 |a::x,b::y=>by
  have ih:=ZiH x y;unfold Lib.compareBytes Op.bytesLess;by_cases h1:a<b
  .simp [h1]
  .rw [if_neg h1];by_cases h2:b<a
   .have h3:¬a=b:=fun e=>by rw [e]at h2;exact absurd h2 (UInt8.lt_irrefl _)
    rw [if_pos h2];simp [h1,h3]
   .have h3:a=b:=by
     apply UInt8.toNat_inj.1;rw [UInt8.lt_iff_toNat_lt]at h1 h2;omega
    subst h3;rw [if_neg h2,ih];simp [h1]
theorem ZhQ (a b:ByteArray):Zjd a b=if sLt a b=true then -1 else if a=b then 0 else 1:=by
 unfold Zjd;rw [ZiH];have h1:Op.bytesLess (toL a) (toL b)=sLt a b:=by unfold sLt toL;rw [AY,AY]
 rw [h1];by_cases h:a=b
 .subst h;simp
 .rw [if_neg h,if_neg (fun e=>h (Zf2 e))]
theorem ZbN:Zpu Zjd where
 eq:=fun a b=>by
  rw [ZhQ];by_cases h:sLt a b=true
  .simp [h,Zqp h]
  .rw [if_neg h];by_cases h2:a=b<;>simp [h2]
 anti:=fun a b=>by
  rw [ZhQ,ZhQ];by_cases h:sLt a b=true
  .have h2:=ZkU h;have h3:=Zqp h;rw [if_pos h,if_neg (by simp [h2]),if_neg (fun e=>h3 e.symm)];rfl
  .rw [if_neg h];by_cases h2:a=b
   .subst h2;rw [if_neg h];simp
   .rw [if_pos (ZfB (by simpa using h) h2),if_neg h2]
 tr:=fun a b d h1 h2=>by
  have key:∀x y,Zjd x y<0->sLt x y=true:=fun x y h=>by
   rw [ZhQ]at h;by_cases hx:sLt x y=true
   .exact hx
   .rw [if_neg hx]at h;split at h<;>omega
  rw [ZhQ,if_pos (ZfL (key _ _ h1) (key _ _ h2))];omega
theorem ZmS (a b:ByteArray):Zh8 a b=some (Zjd a b):=by
 unfold Zh8;rw [ZhQ];by_cases h:sLt a b=true
 .rw [if_pos h,if_pos h]
 .rw [if_neg h,if_neg h];by_cases h2:a=b
  .subst h2;rw [if_pos (by rw [ZxA];simp),if_pos rfl]
  .rw [if_neg (by simp only[AS,ZQ];rintro (h3|h3);exact h h3;exact h2 h3),if_neg h2]
theorem Zjq (a b:ByteArray):ZfS a b=some (Zjd a b):=rfl
/- numbers -/
theorem Zn3 {u:Nat}{b:UInt8}(h:b∈Lib.decDigits u):48<=b.toNat/\b.toNat<=57:=by
 rw [Lib.decDigits_eq,List.mem_map]at h;obtain ⟨t,_,rfl⟩:=h;unfold Lib.dg;have:u / 10 ^ (Lib.nDigits u-1-t) % 10<10:=Nat.mod_lt _ yE;rw [UInt8.toNat_ofNat'];omega
def Q3 (s:ByteArray):Option Nat:=
 if 1<=s.size/\s.size<=4 then (match Lib.decNat (toL s) with|some n=>if ofL (Lib.decDigits n)=s then some n else none|none=>none) else none
def ZeB (s:ByteArray):Int×Bool:=match Q3 s with|some n=>((n:Int),true)|none=>(0,false)
theorem ZkA {s:ByteArray}{n:Nat}(h:Q3 s=some n):s=ofL (Lib.decDigits n)/\n<=9999:=by
 unfold Q3 at h;split at h
 .rename_i hs;split at h
  .split at h
   .rename_i m _ he;obtain rfl:=AO h;refine ⟨he.symm,?_⟩;have hl:Lib.nDigits m<=4:=by
     have:=congrArg AT he;rw [Zj6,Lib.decDigits_length]at this;omega
    have:=Lib.lt_pow_nDigits m;have h2:10 ^ Lib.nDigits m<=10 ^ 4:=AZ yE hl;omega
   .simp at h
  .simp at h
 .simp at h
theorem Zwy {a b:ByteArray}{n:Nat}(h1:Q3 a=some n) (h2:Q3 b=some n):a=b:=(ZkA h1).1.trans (ZkA h2).1.symm
theorem Zsn {body:Nat->UInt8->Int->Option (Int ⊕ (Int×Bool))}{fin:Int->Option (Int×Bool)}
  (hb:∀i (x:UInt8) n,body i x n=if (decide ((x.toNat:Int)<48))=true then some (.inr (0,false)) else if (decide (57<(x.toNat:Int)))=true then some (.inr (0,false)) else some (.inl (i64.wrap ((i64.wrap (10*n))+i64.wrap (IntKind.u8.wrap ((x.toNat:Int)-48)))))):
  ∀(l:List UInt8) (i a:Nat),(a+1)*10 ^ l.length<=100000->forL body fin l i (a:Int)=match Lib.decFrom a l with|some n=>fin (n:Int)|none=>some (0,false)
 | [],i,a,_=>rfl
 |x::l,i,a,h=>by
  unfold Lib.decFrom Lib.digitVal;by_cases h1:48<=x.toNat/\x.toNat<=57
  .have e:body i x (a:Int)=some (.inl ((a*10+(x.toNat-48):Nat):Int)):=by
    have hp:1<=10 ^ (x::l).length:=Nat.one_le_pow _ _ yE;have h2:a+1<=100000:=AP (Nat.le_mul_of_pos_right _ hp) h;rw [hb,if_neg (by simp;omega),if_neg (by simp;omega),ZeV (n:=10*(a:Int)) yE yE,IntKind.wrap_u8,ZeV (n:=((x.toNat:Int)-48) % 256) yE yE,ZeV yE yE];congr 2
    omega
   rw [Z4 e,if_pos h1];refine Zsn hb l (i+1) _ ?_;rw [A9,Nat.pow_succ]at h;refine AP ?_ h;rw [show (a+1)*(10 ^ l.length*10)=((a+1)*10)*10 ^ l.length by rw [Nat.mul_assoc,Nat.mul_comm 10]];exact Nat.mul_le_mul_right _ yE
  .have e:body i x (a:Int)=some (.inr (0,false)):=by
    rw [hb];by_cases h2:x.toNat<48
    .rw [if_pos (by simp;omega)]
    .rw [if_neg (by simp;omega),if_pos (by simp;omega)]
   rw [YF e,if_neg h1]
theorem Ztb (n a b:Int):Qr n a b=some (decide (a<=n)&&decide (n<=b)):=by
 unfold Qr;by_cases h:a<=n<;>simp [h]
theorem ZcH (s:ByteArray):Zag s=some (ZeB s):=by
 unfold Zag ZeB Q3;rw [Ztb,A3];by_cases hs:1<=s.size/\s.size<=4
 .rw [if_pos (by simp;omega),if_pos hs];have hl:s.data.toList.length=s.size:=Zds s;refine (Zsn (fun _ _ _=>rfl) s.data.toList 0 0 (by
   rw [hl,Nat.zero_add,Nat.one_mul];exact AP (AZ yE hs.2) yE)).trans ?_
  have hd:Lib.decNat (toL s)=Lib.decFrom 0 s.data.toList:=by
   unfold Lib.decNat;rw [if_neg]
   .rfl
   .intro e;have:=Zds s;rw [List.isEmpty_iff.1 e]at this;simp at this;omega
  rw [hd];cases hv:Lib.decFrom 0 s.data.toList with
  |none=>rfl
  |some n=>
   have hb:n<1000000000000000000:=Lib.decFrom_lt18 hv yE;show (Zbl (n:Int)).bind _=_
   rw [ZmZ ⟨yE,yE⟩,A3,Lib.itoa_nonneg];by_cases he:ofL (Lib.decDigits n)=s
   .rw [if_pos (ZQ.2 he)];simp only[he,if_true]
   .rw [if_neg (by rw [ZQ];exact he)];simp only[he,if_false]
 .rw [if_neg (by simp;omega),if_neg hs]
theorem ZwT {b:UInt8}{r:List UInt8}(h:b=45\/b=43):Lib.decNat (b::r)=none:=by
 rcases h with rfl|rfl<;>simp [Lib.decNat,Lib.decFrom,Lib.digitVal]
theorem Zpi {s:ByteArray}(h:Lib.decNat (toL s)=none):Q3 s=none:=by
 unfold Q3;rw [h];split<;>rfl
theorem ZcC (s:ByteArray):Zae s=some (ZeB s):=by
 unfold Zae;by_cases h1:s.size<1
 .rw [if_pos (by simp;omega)];unfold ZeB Q3;rw [if_neg yE]
 by_cases h2:4<s.size
 .rw [if_neg (by simp;omega),if_pos (by simp;omega)];unfold ZeB Q3;rw [if_neg yE]
 rw [if_neg (by simp;omega),if_neg (by simp;omega)];have hl:=Zds s;have hx:ZmK s=some (match Lib.atoi (toL s) with|some n=>(n,true)|none=>(0,false)):=by
  unfold ZmK;exact Zj _ yE
 rw [hx,A3];cases hL:toL s with
 |nil=>rw [hL]at hl;simp at hl;omega
 |cons b r=>
  have d:b=45\/b=43->ZeB s=(0,false):=fun h=>by
   unfold ZeB;rw [Zpi (by rw [hL];exact ZwT h)]
  have f:∀m,(b=45\/b=43)->¬ofL (Lib.decDigits m)=s:=fun m h e=>by
   have hm:b∈Lib.decDigits m:=by
    have:toL s=Lib.decDigits m:=by rw [<-e,Zcu]
    rw [<-this,hL];simp
   have:=Zn3 hm;rcases h with rfl|rfl<;>simp at this
  by_cases a:b=45
  .rw [d (.inl a)];cases hd:Lib.decNat r with
   |none=>simp [Lib.atoi,a,hd]
   |some m=>
    have e:Lib.atoi (b::r)=some (-(m:Int)):=by simp [Lib.atoi,a,hd]
    rw [e];simp only[if_true];by_cases hm:m=0
    .subst hm;rw [if_neg yG,if_neg yG];show (Zbu ((0:Nat):Int)).bind _=_
     rw [Zd5 ⟨yE,yE⟩,A3,Lib.itoa_nonneg,if_neg (by rw [ZQ];exact f 0 (.inl a))]
    .rw [if_pos (by simp;omega)]
  .by_cases c:b=43
   .rw [d (.inr c)];cases hd:Lib.decNat r with
    |none=>simp [Lib.atoi,c,hd]
    |some m=>
     have e:Lib.atoi (b::r)=some (m:Int):=by simp [Lib.atoi,c,hd]
     rw [e];simp only[if_true];rw [if_neg yG];by_cases hm:9999<m
     .rw [if_pos (by simp;omega)]
     .rw [if_neg (by simp;omega),Zd5 ⟨yE,yE⟩,A3,Lib.itoa_nonneg,if_neg (by rw [ZQ];exact f m (.inr c))]
   .have e:Lib.atoi (b::r)=(Lib.decNat (b::r)).map fun (m:Nat)=>(m:Int):=by simp [Lib.atoi,a,c]
    rw [e];cases hd:Lib.decNat (b::r) with
    |none=>
     unfold ZeB;rw [Zpi (by rw [hL];exact hd)];rfl
    |some m=>
     simp only[Option.map_some,if_true];rw [if_neg yG];have hn:Q3 s=if ofL (Lib.decDigits m)=s then some m else none:=by
      unfold Q3;rw [if_pos yE,hL,hd]
     by_cases hm:9999<m
     .rw [if_pos (by simp;omega)];have:Q3 s=none:=by
       cases hq:Q3 s with
       |none=>rfl
       |some n=>
        have h3:=(ZkA hq).2;rw [hn]at hq;split at hq
        .obtain rfl:=AO hq;omega
        .simp at hq
      unfold ZeB;rw [this]
     .rw [if_neg (by simp;omega),Zd5 ⟨yE,yE⟩,A3,Lib.itoa_nonneg];unfold ZeB;rw [hn];by_cases he:ofL (Lib.decDigits m)=s
      .rw [if_pos (ZQ.2 he),if_pos he]
      .rw [if_neg (by rw [ZQ];exact he),if_neg he]
def ZlE (x y:Nat):Int:=if x<y then -1 else if y<x then 1 else 0
theorem Zp9:Zpu ZlE where
 eq:=fun a b=>by unfold ZlE;split<;>(try split)<;>omega
 anti:=fun a b=>by unfold ZlE;split<;>(try split)<;>(try split)<;>omega
 tr:=fun a b d h1 h2=>by
  unfold ZlE at *;split at h1
  .split at h2
   .rw [if_pos yE];omega
   .split at h2<;>omega
  .split at h1<;>omega
def ZgI (a b:ByteArray):Int:=
 match Q3 a,Q3 b with
 |some x,some y=>ZlE x y
 |some _,none=>-1
 |none,some _=>1
 |none,none=>Zjd a b
theorem Zqe:Zpu ZgI where
 eq:=fun a b=>by
  unfold ZgI;cases ha:Q3 a with
  |none=>
   cases hb:Q3 b with
   |none=>exact ZbN.eq a b
   |some y=>simp only;exact ⟨fun h=>by omega,fun h=>by rw [h,hb]at ha;simp at ha⟩
  |some x=>
   cases hb:Q3 b with
   |none=>simp only;exact ⟨fun h=>by omega,fun h=>by rw [h,hb]at ha;simp at ha⟩
   |some y=>
    simp only;rw [Zp9.eq];exact ⟨fun h=>Zwy ha (h ▸ hb),fun h=>by rw [h,hb]at ha;exact (AO ha).symm⟩
 anti:=fun a b=>by
  unfold ZgI;cases Q3 a<;>cases Q3 b<;>simp only
  .exact ZbN.anti a b
  .rfl
  .exact Zp9.anti _ _
 tr:=fun a b d h1 h2=>by
  unfold ZgI at *;cases ha:Q3 a<;>cases hb:Q3 b<;>cases hd:Q3 d<;>simp only[ha,hb,hd]at h1 h2 ⊢<;>first|omega|exact ZbN.tr a b d h1 h2|exact Zp9.tr _ _ _ h1 h2
theorem Zco (x y:Nat):X4 (x:Int) (y:Int)=some (ZlE x y):=by
 unfold X4 ZlE;by_cases h1:x<y
 .rw [if_pos (by simpa using h1),if_pos h1]
 .rw [if_neg (by simpa using h1),if_neg h1];by_cases h2:y<x
  .rw [if_pos (by simpa using h2),if_pos h2]
  .rw [if_neg (by simpa using h2),if_neg h2]
theorem ZeW (a b:ByteArray):Xz a b=some (ZgI a b):=by
 unfold Xz ZgI;rw [ZcH,A3,ZcH,A3];unfold ZeB;cases Q3 a with
 |none=>
  cases Q3 b with
  |none=>simp only[A4,if_false];rw [ZmS];rfl
  |some y=>rfl
 |some x=>
  cases Q3 b with
  |none=>rfl
  |some y=>
   simp only[if_true];unfold ZlE;by_cases h1:x<y
   .rw [if_pos (by simpa using h1),if_pos h1]
   .rw [if_neg (by simpa using h1),if_neg h1];by_cases h2:y<x
    .rw [if_pos (by simpa using h2),if_pos h2]
    .rw [if_neg (by simpa using h2),if_neg h2]
theorem ZjQ (a b:ByteArray):Q8 a b=some (ZgI a b):=by
 unfold Q8 ZgI;rw [ZcC,A3,ZcC,A3];unfold ZeB;cases Q3 a with
 |none=>
  cases Q3 b with
  |none=>simp only[A4,if_false];rw [Zjq];rfl
  |some y=>rfl
 |some x=>
  cases Q3 b with
  |none=>rfl
  |some y=>simp only[if_true];rw [Zco];rfl
def ZgT {α:Type}(c:α->α->Int):List α->List α->Int
 | [],[]=>0
 | [],_::_=>-1
 |_::_,[]=>1
 |x::l,y::r=>if c x y=0 then ZgT c l r else c x y
theorem ZqZ {α:Type}{c:α->α->Int}(h:Zpu c):Zpu (ZgT c) where
 eq:=fun a=>by
  induction a with
  |nil=>intro b;cases b<;>simp [ZgT]
  |cons x l ih=>
   intro b;cases b with
   |nil=>simp [ZgT]
   |cons y r=>
    simp only[ZgT];by_cases hx:c x y=0
    .rw [if_pos hx,ih,(h.eq x y).1 hx];simp
    .rw [if_neg hx];exact ⟨fun e=>absurd e hx,fun e=>absurd ((h.eq x y).2 (by simp at e;exact e.1)) hx⟩
 anti:=fun a=>by
  induction a with
  |nil=>intro b;cases b<;>simp [ZgT]
  |cons x l ih=>
   intro b;cases b with
   |nil=>simp [ZgT]
   |cons y r=>
    simp only[ZgT];have hy:=h.anti x y;by_cases hx:c x y=0
    .rw [if_pos hx,if_pos yE,ih]
    .rw [if_neg hx,if_neg yE,hy]
 tr:=fun a=>by
  induction a with
  |nil=>
   intro b d h1 h2;cases b with
   |nil=>simp [ZgT]at h1
   |cons y r=>cases d with
    |nil=>simp [ZgT]at h2
    |cons z q=>simp [ZgT]
  |cons x l ih=>
   intro b d h1 h2;cases b with
   |nil=>simp [ZgT]at h1
   |cons y r=>cases d with
    |nil=>simp [ZgT]at h2
    |cons z q=>
     simp only[ZgT]at h1 h2 ⊢;by_cases hx:c x y=0
     .rw [if_pos hx]at h1;obtain rfl:=(h.eq x y).1 hx;by_cases hz:c x z=0
      .rw [if_pos hz]at h2 ⊢;exact ih r q h1 h2
      .rw [if_neg hz]at h2 ⊢;exact h2
     .rw [if_neg hx]at h1;by_cases hz:c y z=0
      .obtain rfl:=(h.eq y z).1 hz;rw [if_neg hx];exact h1
      .rw [if_neg hz]at h2;have:=h.tr x y z h1 h2;rw [if_neg yE];exact this
def ZeE (a b:Zc):Int:=if Zjd a.rel b.rel=0 then ZgT ZgI a.args b.args else Zjd a.rel b.rel
theorem Zq1 {a b:Zc}(h1:a.rel=b.rel) (h2:a.args=b.args):a=b:=by cases a;cases b;simp_all
theorem ZeR:Zpu ZeE where
 eq:=fun a b=>by
  unfold ZeE;by_cases h:Zjd a.rel b.rel=0
  .rw [if_pos h,(ZqZ Zqe).eq];exact ⟨fun e=>Zq1 ((ZbN.eq _ _).1 h) e,fun e=>by rw [e]⟩
  .rw [if_neg h];exact ⟨fun e=>absurd e h,fun e=>absurd ((ZbN.eq _ _).2 (by rw [e])) h⟩
 anti:=fun a b=>by
  unfold ZeE;have hy:=ZbN.anti a.rel b.rel;by_cases h:Zjd a.rel b.rel=0
  .rw [if_pos h,if_pos yE,(ZqZ Zqe).anti]
  .rw [if_neg h,if_neg yE,hy]
 tr:=fun a b d h1 h2=>by
  unfold ZeE at *;by_cases hx:Zjd a.rel b.rel=0
  .rw [if_pos hx]at h1;have e:=(ZbN.eq _ _).1 hx;rw [e];by_cases hz:Zjd b.rel d.rel=0
   .rw [if_pos hz]at h2 ⊢;exact (ZqZ Zqe).tr _ _ _ h1 h2
   .rw [if_neg hz]at h2 ⊢;exact h2
  .rw [if_neg hx]at h1;by_cases hz:Zjd b.rel d.rel=0
   .rw [<-(ZbN.eq _ _).1 hz,if_neg hx];exact h1
   .rw [if_neg hz]at h2;have:=ZbN.tr _ _ _ h1 h2;rw [if_neg yE];exact this
theorem Za1 {α:Type}(l:List α) (i:Nat):atI l (i:Int)=l[i]?:=by unfold atI;rw [if_pos yE,AL]
theorem ZkG {A B:List ByteArray}{body:Nat->ByteArray->Unit->Option (Unit ⊕ Int)}{fin:Unit->Option Int}
  (b:∀i x y,B[i]?=some y->body i x ()=if ZgI x y=0 then some (.inl ()) else some (.inr (ZgI x y))) (c:∀x,B.length<A.length->body B.length x ()=some (.inr 1)) (a:A.length<=B.length->fin ()=some (if A.length<B.length then -1 else 0)):
  ∀(l:List ByteArray) (i:Nat),i+l.length=A.length->i<=B.length->forL body fin l i ()=some (ZgT ZgI l (B.drop i))
 | [],i,h,hi=>by
  simp at h;rw [ZnV,a yE];by_cases hb:A.length<B.length
  .rw [if_pos hb];cases hd:B.drop i with
   |nil=>have:=congrArg List.length hd;simp at this;omega
   |cons y r=>rfl
  .rw [if_neg hb,AQ yE];rfl
 |x::l,i,h,hi=>by
  simp only[A9]at h;by_cases hb:i<B.length
  .have hy:B[i]?=some B[i]:=AR hb;rw [Aa hb];simp only[ZgT];by_cases hc:ZgI x B[i]=0
   .rw [Z4 (by rw [b i x _ hy,if_pos hc]),if_pos hc];exact ZkG b c a l (i+1) yE yE
   .rw [YF (by rw [b i x _ hy,if_neg hc]),if_neg hc]
  .obtain rfl:i=B.length:=by omega
   rw [YF (c x yE),AQ (Nat.le_refl _)];rfl
theorem ZeP (a b:Zc):Xw a b=some (ZeE a b):=by
 unfold Xw ZeE;by_cases h:a.rel=b.rel
 .rw [if_pos (ZQ.2 h),if_pos ((ZbN.eq _ _).2 h)];refine ZkG (A:=a.args) (B:=b.args) (fun i x y hy=>?_) (fun x hx=>?_) (fun hx=>?_) a.args 0 yG (AE _)
  .have hi:=(AN.1 hy).1;rw [if_pos (by simpa using hi),Za1,hy,A3,ZeW,A3];by_cases hc:ZgI x y=0
   .rw [hc];rfl
   .rw [if_pos (by simpa using hc),if_neg hc]
  .rw [if_neg yG,if_neg (by simp;omega),if_pos (by simpa using hx)]
  .by_cases h2:a.args.length<b.args.length
   .rw [if_pos (by simpa using h2),if_pos h2]
   .rw [if_neg (by simpa using h2),if_neg (by simp;omega),if_neg h2]
 .rw [if_neg (by rw [ZQ];exact h),if_neg (fun e=>h ((ZbN.eq _ _).1 e)),ZmS];rfl
theorem ZeU (a b:Zc):Qn a b=some (ZeE a b):=by
 unfold Qn ZeE;rw [Zjq,A3];by_cases h:Zjd a.rel b.rel=0
 .rw [if_neg (by simpa using h),if_pos h];refine ZkG (A:=a.args) (B:=b.args) (fun i x y hy=>?_) (fun x hx=>?_) (fun hx=>?_) a.args 0 yG (AE _)
  .have hi:=(AN.1 hy).1;rw [if_pos (by simpa using hi),Za1,hy,A3,ZjQ,A3];by_cases hc:ZgI x y=0
   .rw [hc];rfl
   .rw [if_pos (by simpa using hc),if_neg hc]
  .rw [if_neg yG,Zco];unfold ZlE;rw [if_neg yE,if_pos hx];rfl
  .rw [Zco];unfold ZlE;by_cases h2:a.args.length<b.args.length
   .rw [if_pos h2,if_pos h2];rfl
   .rw [if_neg h2,if_neg yE,if_neg h2];rfl
 .rw [if_pos (by simpa using h),if_neg h]
section
theorem Xs (f:Zc) (h:f.args.length<=1048576):XE f=some f:=by
 unfold XE;rw [ZqO _ yE];rfl
theorem YN (f:Zc) (h:f.args.length<=1048576):YE f=some f:=by
 unfold YE;rw [Zg2 _ yE];rfl
theorem ZmY {B:List ByteArray}{body:Nat->ByteArray->Unit->Option (Unit ⊕ Bool)}(hb:∀i x y,B[i]?=some y->body i x ()=if x=y then some (.inl ()) else some (.inr false)):
  ∀(l:List ByteArray) (i:Nat),i+l.length=B.length->forL body (fun _=>some true) l i ()=some (decide (l=B.drop i))
 | [],i,h=>by
  simp at h;rw [ZnV,AQ yE];simp
 |x::l,i,h=>by
  simp only[A9]at h;have hi:i<B.length:=by omega
  have hd:(x::l=B.drop i)↔(x=B[i]/\l=B.drop (i+1)):=by rw [Aa hi,List.cons.injEq]
  rw [AD.2 (show decide (x::l=B.drop i)=true↔decide (x=B[i]/\l=B.drop (i+1))=true by rw [decide_eq_true_iff,decide_eq_true_iff];exact hd)];by_cases hx:x=B[i]
  .rw [Z4 (by rw [hb i x _ (AR hi),if_pos hx]),ZmY hb l (i+1) yE];simp [hx]
  .rw [YF (by rw [hb i x _ (AR hi),if_neg hx])];simp [hx]
theorem ZmH (a b:List ByteArray):ZcN a b=some (decide (a=b)):=by
 unfold ZcN;by_cases h:a.length=b.length
 .rw [if_neg (by simp;omega)];have:=ZmY (B:=b) (body:=fun i6 x7 _=>(atI b (i6:Int)).bind fun x8=>if (sEq x7 x8)=true then some (.inl ()) else some (.inr false)) (fun i x y hy=>by
   show (atI b (i:Int)).bind _=_
   rw [Za1,hy,A3];by_cases hx:x=y
   .rw [if_pos (ZQ.2 hx),if_pos hx]
   .rw [if_neg (by rw [ZQ];exact hx),if_neg hx]) a 0 yE
  simpa using this
 .rw [if_pos (by simp;omega),decide_eq_false (fun e=>h (by rw [e]))]
open Classical
theorem Zcv (a b:Zc):Zca a b=some (decide (a=b)):=by
 unfold Zca;by_cases h:a.rel=b.rel
 .rw [if_pos (ZQ.2 h),ZmH,A3];congr 1
  rw [AD,decide_eq_true_iff,decide_eq_true_iff];exact ⟨fun e=>Zq1 h e,fun e=>by rw [e]⟩
 .rw [if_neg (by rw [ZQ];exact h),decide_eq_false (fun e=>h (by rw [e]))]
theorem ZoH (l:List Zc) (f:Zc):∃z,Yl l f=some z/\(z<0↔f∉l):=by
 unfold Yl;have key:∀(l:List Zc) (i:Nat),∃z,forL (σ:=Unit) (fun (i6:Nat) (x7:Zc) _=>(Zca x7 f).bind fun v8=>if v8=true then some (.inr (i6:Int)) else some (.inl ())) (fun _=>some (-1)) l i ()=some z/\(z<0↔f∉l):=by
  intro l;induction l with
  |nil=>intro i;exact ⟨-1,rfl,yG⟩
  |cons x l ih=>
   intro i;by_cases hx:x=f
   .refine ⟨(i:Int),YF (by rw [Zcv,A3,if_pos (decide_eq_true hx)]),by simp [hx]⟩
   .obtain ⟨z,e,hz⟩:=ih (i+1);refine ⟨z,(Z4 (by rw [Zcv,A3,if_neg (by simpa using hx)])).trans e,?_⟩;rw [hz,A5];exact ⟨fun h=>by rintro (h1|h1);exact hx h1.symm;exact h h1,fun h h1=>h (.inr h1)⟩
 exact key l 0
def ZeF:List Zc->Zc->List Zc
 | [],f=>[f]
 |x::l,f=>if ZeE x f<0 then x::ZeF l f else if ZeE x f=0 then x::l else f::x::l
def Zg7 (l:List Zc):Prop:=l.Pairwise fun x y=>ZeE x y<0
theorem ZaT {y f:Zc}:∀{l:List Zc},y∈ZeF l f↔y=f\/y∈l
 | []=>by simp [ZeF]
 |x::l=>by
  simp only[ZeF];split
  .rw [A5,ZaT,A5];exact ⟨fun h=>by rcases h with h|h|h<;>simp [h],fun h=>by rcases h with h|h|h<;>simp [h]⟩
  .split
   .rename_i h;have e:=(ZeR.eq _ _).1 h;rw [A5,e];exact ⟨fun h=>by rcases h with h|h<;>simp [h],fun h=>by rcases h with h|h|h<;>simp [h]⟩
   .rw [A5]
theorem Zsd (f:Zc):∀l:List Zc,(ZeF l f).length<=l.length+1
 | []=>by simp [ZeF]
 |x::l=>by
  have:=Zsd f l;simp only[ZeF];split
  .simp;omega
  .split<;>simp
theorem Zq9 {f:Zc}:∀{l:List Zc},Zg7 l->Zg7 (ZeF l f)
 | [],_=>by simp [ZeF,Zg7]
 |x::l,h=>by
  unfold Zg7 at *;rw [A8]at h;simp only[ZeF];split
  .rename_i hx;rw [A8];refine ⟨fun y my=>?_,Zq9 h.2⟩;rcases ZaT.1 my with rfl|my
   .exact hx
   .exact h.1 y my
  .rename_i hx;split
   .rw [A8];exact h
   .rename_i h0;have a:ZeE f x<0:=by rw [ZeR.anti x f];omega
    rw [A8,A8];refine ⟨fun y my=>?_,h⟩;rcases A5.1 my with rfl|my
    .exact a
    .exact ZeR.tr _ _ _ a (h.1 y my)
theorem Zt4 (l:List Zc) (f:Zc) (hl:l.length<=1048576) (ha:∀x∈l,x.args.length<=1048576) (hf:f.args.length<=1048576):ZcF l f=some (ZeF l f):=by
 unfold ZcF;rw [ZaV (fun l _ s=>some (s.1++(if s.2=true then l else ZeF l f))) (fun l _ s=>s.1.length+2*l.length+1<=4000000/\∀x∈l,x.args.length<=1048576) ?_ ?_ l 0 ([],false) ⟨by simp;omega,ha⟩]
 .simp
 .rintro i ⟨row,a⟩ ⟨h1,_⟩;cases a with
  |true=>simp
  |false=>
   simp only[A4,if_false];simp only[Ab]at h1;rw [Xs f hf,A3,Zj _ yE];rfl
 .rintro x l i ⟨row,a⟩ ⟨h1,h2⟩;simp only[A9]at h1;have hx:=h2 x yG;left
  cases a with
  |true=>
   simp only[if_true];rw [Xs x hx,A3,Zj _ yE];exact ⟨_,rfl,⟨by simp;omega,fun y my=>h2 y (by simp [my])⟩,yG⟩
  |false=>
   simp only[A4,if_false];rw [ZeP,A3];by_cases b:ZeE x f<0
   .rw [if_neg (by simp;omega),Xs x hx,A3,Zj _ yE];exact ⟨_,rfl,⟨by simp;omega,fun y my=>h2 y (by simp [my])⟩,by simp [ZeF,b]⟩
   .rw [if_pos (by simp;omega),A3];by_cases h0:ZeE x f=0
    .rw [if_neg (by simp;omega),Xs x hx,A3,Zj _ yE];exact ⟨_,rfl,⟨by simp;omega,fun y my=>h2 y (by simp [my])⟩,by simp [ZeF,h0]⟩
    .rw [if_pos (by simp;omega),Xs f hf,A3,Zj _ yE,Xs x hx,A3,Zj _ yE];exact ⟨_,rfl,⟨by simp;omega,fun y my=>h2 y (by simp [my])⟩,by simp [ZeF,h0,b]⟩
theorem ZqG (l:List Zc) (f:Zc) (hn:f∉l) (hl:l.length<=1048576) (ha:∀x∈l,x.args.length<=1048576) (hf:f.args.length<=1048576):Qv l f=some (ZeF l f):=by
 unfold Qv;rw [ZaV (fun l _ s=>some (s.1++(if s.2=true then l else ZeF l f))) (fun l _ s=>s.1.length+2*l.length+1<=4000000/\f∉l/\∀x∈l,x.args.length<=1048576) ?_ ?_ l 0 ([],false) ⟨by simp;omega,hn,ha⟩]
 .simp
 .rintro i ⟨row,a⟩ ⟨h1,_⟩;cases a with
  |true=>simp
  |false=>
   simp only[A4,if_false];simp only[Ab]at h1;rw [YN f hf,A3,Zj _ yE];rfl
 .rintro x l i ⟨row,a⟩ ⟨h1,h3,h2⟩;simp only[A9]at h1;have hx:=h2 x yG;have b:f∉l:=fun m=>h3 (by simp [m]);left
  cases a with
  |true=>
   simp only[if_true];rw [YN x hx,A3,Zj _ yE];exact ⟨_,rfl,⟨by simp;omega,b,fun y my=>h2 y (by simp [my])⟩,yG⟩
  |false=>
   simp only[A4,if_false];rw [ZeU,A3];have h0:¬ZeE x f=0:=fun e=>h3 (by rw [(ZeR.eq _ _).1 e];simp);by_cases c:ZeE x f<0
   .rw [if_neg (by simp;omega),YN x hx,A3,Zj _ yE];exact ⟨_,rfl,⟨by simp;omega,b,fun y my=>h2 y (by simp [my])⟩,by simp [ZeF,c]⟩
   .rw [if_pos (by simp;omega),YN f hf,A3,Zj _ yE,YN x hx,A3,Zj _ yE];exact ⟨_,rfl,⟨by simp;omega,b,fun y my=>h2 y (by simp [my])⟩,by simp [ZeF,h0,c]⟩
end
end
end Go.Proofs.YtlpkbfjcdaanmaaGreatDoor
