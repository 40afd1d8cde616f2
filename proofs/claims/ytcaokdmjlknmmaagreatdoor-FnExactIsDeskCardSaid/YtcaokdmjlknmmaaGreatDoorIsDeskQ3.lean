/- Texts of this proof, joined: K3, U14, K4, K5, K6, K7, K8, K9, K10, BInv, BRun, BOps1, BOps2, BOps3, BOps4, BOps5, BOps6, BOps7. What each holds is said at its theorems. -/
import Derived.Test.YtcaokdmjlknmmaaGreatDoorIsDeskQ2
import Derived.Test.YtcaokdmjlknmmaaGreatDoorIsDeskQ1
import Derived.Laws.CopyRow
import Derived.Laws.OwnMore
import Derived.Laws.StructEq
import Derived.Laws.Tables
import Derived.Great.BuildSlice
open Array renaming getElem?_eq_some_iff→BC
open Bool renaming eq_false_iff→AL,eq_iff_iff→AN,and_eq_true→AO,true_and→Ak,and_false→BS
open Go.ByteArray renaming toList_eq→BU
open Int renaming toNat_natCast→AS,toNat→At
open List renaming mem_append→AB,getElem?_eq_getElem→AE,getElem?_map→AF,mem_flatMap→AI,getElem?_eq_some_iff→AJ,length_cons→AP,mem_cons→AR,nodup_append→AT,append_nil→AW,ext_getElem?→AX,getElem?_mapIdx→AY,eq_nil_of_length_eq_zero→Aa,replicate→Ac,foldl_cons→Ae,flatMap_cons→Ag,length_append→Ah,drop_eq_getElem_cons→Ai,mem_of_getElem?→Aj,nodup_cons→Al,singleton_append→Am,nil_append→An,map_id'→Ao,length_nil→Aq,append_assoc→Ar,getElem_mem→As,take_add_one→Au,map_append→Aw,getElem?_drop→Ax,map_cons→Az,map_map→B9,mem_of_mem_drop→BE,mem_of_mem_take→BF,mem_map→BH,drop_length→BI,length_singleton→BK,take_of_length_le→BL,length_take→BM,getElem?_append_right→BN,getElem?_take→BV,drop_append→BW,drop_of_length_le→BX,flatMap_append→BY,replicate_succ→Ba,flatten_cons→Bb,all_cons→Bd
open List.Sublist renaming append→BG,refl→BZ
open List.cons renaming injEq→BP,inj→BR
open Nat renaming zero_add→AH,add_mul→AK,le_refl→AM,add_assoc→AQ,zero_le→AU,add_zero→Ay,le_trans→BB,lt_of_lt_of_le→BT,mul_le_mul→Bc
open Option renaming bind_some→A0,map_eq_some_iff→AD,bind_eq_some_iff→AG,map_some→AZ,toList_some→BJ
open Option.some renaming injEq→AA,inj→Ad
open Prod.mk renaming injEq→AC
open UInt8 renaming ofNat→BD
set_option linter.unusedSimpArgs false
set_option linter.unusedVariables false
set_option maxRecDepth 1000000
set_option maxHeartbeats 4000000
namespace Go.Proofs.YtcaokdmjlknmmaaGreatDoor
section
open Classical
theorem ZtJ {α:Type}{a b:List α}{body:Nat->α->Unit->Option (Unit ⊕ Bool)}{fin:Unit->Option Bool}(h:a.length=b.length) (hb:∀i x y,a[i]?=some x->b[i]?=some y->body i x ()=some (bif decide (x=y) then .inl () else .inr false)):Zv body fin a 0 ()=if a=b then fin () else some false:=by
 rw [ZaP (p:=fun i x=>decide (b[i]?=some x)) (r:=false)]
 .have:=ZvR (p:=fun i x=>decide (b[i]?=some x)) (b:=b) (fun i x=>by rw [decide_eq_true_iff]) a h
  by_cases e:a=b
  .rw [if_pos (this.2 e),if_pos e]
  .rw [if_neg fun hh=>e (this.1 hh),if_neg e]
 .intro j x hx
  have hj:=(AJ.1 hx).1
  have c:b[j]?=some b[j]:=AE yE
  rw [AH,hb j x b[j] hx c,c]
  congr 2
  rw [AN,decide_eq_true_iff,decide_eq_true_iff]
  exact ⟨fun e=>by rw [e],fun e=>(Ad e).symm⟩
theorem Zkw {α:Type}{a b:List α}{body:Nat->α->Unit->Option (Unit ⊕ Bool)}(h:a.length=b.length) (hb:∀i x y,a[i]?=some x->b[i]?=some y->body i x ()=some (bif decide (x=y) then .inl () else .inr false)):Zv body (fun _=>some true) a 0 ()=some (decide (a=b)):=by
 rw [ZtJ h hb]
 by_cases e:a=b
 .rw [if_pos e,decide_eq_true e]
 .rw [if_neg e,decide_eq_false e]
theorem Zer {α:Type}{a b:List α}(h:¬a.length=b.length):((((a.length:Nat):Int)) != ((b.length:Nat):Int))=true:=by simp;omega
theorem Zd0 {α:Type}{a b:List α}(h:a.length=b.length):¬((((a.length:Nat):Int)) != ((b.length:Nat):Int))=true:=by simp;omega
theorem Zwv {α:Type}{a b:List α}(h:¬a.length=b.length):decide (a=b)=false:=decide_eq_false fun e=>h (by rw [e])
theorem Zsi (p:Prop) [Decidable p]:(if decide p=true then some (Sum.inl ()) else some (Sum.inr false):Option (Unit ⊕ Bool))=some (bif decide p then .inl () else .inr false):=by
 by_cases h:p<;>simp [h]
theorem Xp (a b:Zj):Xh a b=some (decide (a=b)):=by
 unfold Xh
 by_cases h1:a.rel=b.rel
 .rw [if_pos (Zz.2 h1),Zg2,A0]
  by_cases h2:a.args=b.args
  .rw [decide_eq_true h2,decide_eq_true ((ZyA a b).2 ⟨h1,h2⟩)]
  .rw [decide_eq_false h2,decide_eq_false fun e=>h2 (by rw [e])]
 .rw [if_neg (by rw [Zz];exact h1),decide_eq_false fun e=>h1 (by rw [e])]
theorem Qc (a b:Zj):XZ a b=some (decide (a=b)):=Xp a b
theorem ZcC (a b:Zf):Zaq a b=some (decide (a=b)):=by
 unfold Zaq
 by_cases h:a=b
 .subst h
  rw [if_pos yG,if_pos (Zz.2 rfl),if_pos (Zz.2 rfl),Xp,A0]
  simp
 .rw [decide_eq_false h]
  split
  .rename_i h1
   split
   .rename_i h2
    split
    .rename_i h3
     rw [Xp,A0,decide_eq_false fun e=>h ((Zrr a b).2 ⟨by simpa using h1,e,Zz.1 h2,Zz.1 h3⟩)]
    .rfl
   .rfl
  .rfl
theorem ZeU (a b:Zf):Zbl a b=some (decide (a=b)):=by
 unfold Zbl
 by_cases h:a=b
 .subst h
  rw [if_pos yG,Qc,A0,if_pos yG,if_pos (Zz.2 rfl),Zz.2 rfl]
  simp
 .rw [decide_eq_false h]
  split
  .rename_i h1
   rw [Qc,A0]
   split
   .rename_i h2
    split
    .rename_i h3
     congr 1
     rw [AL]
     intro h4
     exact h ((Zrr a b).2 ⟨by simpa using h1,by simpa using h2,Zz.1 h3,Zz.1 h4⟩)
    .rfl
   .rfl
  .rfl
theorem Zoz {a b:List ZY}{f:Zj->Zj->Option Bool}(hf:∀x y,f x y=some (decide (x=y))) (h:a.length=b.length):Zv (σ:=Unit)
  (fun (g:Nat) (c:ZY) _=>(atI b ((g:Nat):Int)).bind fun d=>if (c.kind != d.kind)=true then some (.inr false) else (f c.pattern d.pattern).bind fun j=>if j=true then some (.inl ()) else some (.inr false)) (fun _=>some true) a 0 ()=some (decide (a=b)):=by
 refine Zkw h fun i x y hx hy=>?_
 rw [Yk,hy,A0]
 by_cases hk:x.kind=y.kind
 .rw [if_neg (by simp [hk]),hf,A0]
  by_cases hp:x.pattern=y.pattern
  .rw [decide_eq_true hp,decide_eq_true ((ZyV x y).2 ⟨hk,hp⟩)];rfl
  .rw [decide_eq_false hp,decide_eq_false fun e=>hp (by rw [e])];rfl
 .rw [if_pos (by simp [hk]),decide_eq_false fun e=>hk (by rw [e])];rfl
theorem ZnI (a b:Zl):ZdO a b=some (decide (a=b)):=by
 unfold ZdO
 by_cases h1:a.name=b.name
 .rw [if_pos (Zz.2 h1)]
  by_cases h2:a.priority=b.priority
  .rw [if_neg (by simp [h2])]
   by_cases h3:a.cond.length=b.cond.length
   .rw [if_neg (Zd0 h3)]
    by_cases h4:a.thn.length=b.thn.length
    .rw [if_neg (Zd0 h4),Zoz Xp h4,ZtJ h3 fun i x y hx hy=>by rw [Yk,hy,A0,ZcC,A0,Zsi]]
     by_cases h5:a.cond=b.cond
     .rw [if_pos h5]
      by_cases h6:a.thn=b.thn
      .rw [decide_eq_true h6,decide_eq_true ((Zrc a b).2 ⟨h1,h2,h5,h6⟩)]
      .rw [decide_eq_false h6,decide_eq_false fun e=>h6 (by rw [e])]
     .rw [if_neg h5,decide_eq_false fun e=>h5 (by rw [e])]
    .rw [if_pos (Zer h4),decide_eq_false fun e=>h4 (by rw [e])]
   .rw [if_pos (Zer h3),decide_eq_false fun e=>h3 (by rw [e])]
  .rw [if_pos (by simp [h2]),decide_eq_false fun e=>h2 (by rw [e])]
 .rw [if_neg (by rw [Zz];exact h1),decide_eq_false fun e=>h1 (by rw [e])]
theorem Zns (a b:Zl):Zes a b=some (decide (a=b)):=by
 unfold Zes
 by_cases h1:a.name=b.name
 .rw [if_pos (Zz.2 h1)]
  by_cases h2:a.priority=b.priority
  .rw [if_neg (by simp [h2])]
   by_cases h3:a.cond.length=b.cond.length
   .rw [if_neg (Zd0 h3)]
    by_cases h4:a.thn.length=b.thn.length
    .rw [if_neg (Zd0 h4),Zoz Qc h4,ZtJ h3 fun i x y hx hy=>by rw [Yk,hy,A0,ZeU,A0,Zsi]]
     by_cases h5:a.cond=b.cond
     .rw [if_pos h5]
      by_cases h6:a.thn=b.thn
      .rw [decide_eq_true h6,decide_eq_true ((Zrc a b).2 ⟨h1,h2,h5,h6⟩)]
      .rw [decide_eq_false h6,decide_eq_false fun e=>h6 (by rw [e])]
     .rw [if_neg h5,decide_eq_false fun e=>h5 (by rw [e])]
    .rw [if_pos (Zer h4),decide_eq_false fun e=>h4 (by rw [e])]
   .rw [if_pos (Zer h3),decide_eq_false fun e=>h3 (by rw [e])]
  .rw [if_pos (by simp [h2]),decide_eq_false fun e=>h2 (by rw [e])]
 .rw [if_neg (by rw [Zz];exact h1),decide_eq_false fun e=>h1 (by rw [e])]
theorem Zgi (a b:List Zl):Zbv a b=some (decide (a=b)):=by
 unfold Zbv
 by_cases h:a.length=b.length
 .rw [if_neg (Zd0 h),Zkw h fun i x y hx hy=>by rw [Yk,hy,A0,ZnI,A0,Zsi]]
 .rw [if_pos (Zer h),Zwv h]
theorem Zb9 (a b:List Zk):Qo a b=some (decide (a=b)):=by
 unfold Qo
 by_cases h:a.length=b.length
 .rw [if_neg (Zd0 h),Zkw h fun i x y hx hy=>by rw [Yk,hy,A0,Zm4,A0,Zsi]]
 .rw [if_pos (Zer h),Zwv h]
theorem Zje (a b:List Zk):Zbr a b=some (decide (a=b)):=Zb9 a b
theorem Zv5 (x y:Zg):x=y↔x.var=y.var/\x.value=y.value:=⟨fun e=>by rw [e];exact ⟨rfl,rfl⟩,fun h=>by cases x;cases y;simp_all⟩
theorem Zpi (a b:List Zg):Zda a b=some (decide (a=b)):=by
 unfold Zda
 by_cases h:a.length=b.length
 .rw [if_neg (Zd0 h),Zkw h fun i x y hx hy=>by
   rw [Yk,hy,A0]
   by_cases e:x=y
   .rw [if_pos (by rw [e];simp [Zz]),decide_eq_true e];rfl
   .rw [if_neg (fun hh=>e (by
     rw [AO,Zz,Zz]at hh
     exact (Zv5 x y).2 hh)),decide_eq_false e];rfl]
 .rw [if_pos (Zer h),Zwv h]
theorem ZeF (a b:List Int):Zcp a b=some (decide (a=b)):=by
 unfold Zcp
 by_cases h:a.length=b.length
 .rw [if_neg (Zd0 h),Zkw h fun i x y hx hy=>by
   rw [Yk,hy,A0]
   by_cases e:x=y
   .rw [if_neg (by simp [e])];simp [e]
   .rw [if_pos (by simp [e])];simp [e]]
  exact congrArg some (decide_eq_decide.2 Iff.rfl)
 .rw [if_pos (Zer h)]
  have:¬a=b:=fun e=>h (by rw [e])
  simp [this]
theorem Zgb (a b:List Zs):ZbE a b=some (decide (a=b)):=by
 unfold ZbE
 by_cases h:a.length=b.length
 .rw [if_neg (Zd0 h),Zkw h fun i x y hx hy=>by
   rw [Yk,hy,A0,Zb9,A0]
   by_cases h1:x.facts=y.facts
   .rw [if_pos (decide_eq_true h1),Zpi,A0,Zsi]
    congr 2
    rw [AN,decide_eq_true_iff,decide_eq_true_iff]
    exact ⟨fun e=>(Zyd x y).2 ⟨h1,e⟩,fun e=>by rw [e]⟩
   .rw [if_neg (by simpa using h1),decide_eq_false fun e=>h1 (by rw [e])];rfl]
 .rw [if_pos (Zer h),Zwv h]
theorem ZiM (a b:List Zs):Zb7 a b=some (decide (a=b)):=Zgb a b
theorem ZlF (s:ByteArray):∀(l:List Zg) (i:Nat),Zv (σ:=Unit) (fun (_:Nat) (x5:Zg) _=>if (sEq x5.var s)=true then some (.inr x5.value) else some (.inl ())) (fun _=>some s) l i ()=some (ZnL l s)
 | [],i=>rfl
 |x::l,i=>by
  unfold ZnL Xy
  by_cases h:x.var=s
  .rw [Ya (by rw [if_pos (Zz.2 h)]),if_pos h];rfl
  .rw [ZK (by rw [if_neg (by rw [Zz];exact h)]),if_neg h]
   exact ZlF s l (i+1)
theorem Zcv (s:ByteArray) (to:List Zg):QO s to=some (ZnL to s):=ZlF s to 0
theorem Zd1 (s:ByteArray) (to:List Zg):Q2 s to=some (ZnL to s):=ZlF s to 0
theorem Zgc (x:Zf) (to:List Zg) (h:x.pattern.args.length<=1048576):ZaO x to=some (Zsc to x):=by
 unfold ZaO
 rw [Zcv,A0,Zcv,A0,Xs (g:=ZnL to)]
 .rfl
 .intro j y s my hs
  rw [Zcv,A0,Zr _ (by simp at hs;omega)]
theorem Zga (x:Zf) (to:List Zg) (h:x.pattern.args.length<=1048576):Xe x to=some (Zsc to x):=by
 unfold Xe
 rw [Zd1,A0,Zd1,A0,Xs (g:=ZnL to)]
 .rfl
 .intro j y s my hs
  rw [Zd1,A0,Zr _ (by simp at hs;omega)]
theorem ZqB (p:Zg) (y:ByteArray):∀l:List Zg,Xy (l++[p]) y=match Xy l y with|some v=>some v|none=>if p.var=y then some p.value else none
 | []=>by simp [Xy]
 |x::l=>by
  simp only[List.cons_append,Xy]
  split
  .rfl
  .exact ZqB p y l
theorem ZtW {n:Int}(h:Zbn n):(⟨#[63]⟩:ByteArray).size+(ofL (Lib.itoa n)).size<=9223372036854775807:=by
 have:=ZvA h
 have e:(⟨#[63]⟩:ByteArray).size=1:=rfl
 omega
theorem Zf0:∀(l:List ByteArray) (i:Nat) (mp:List (ByteArray×Bool)) (acc:List Zg),(∀y,Za2 mp y false=true↔Xy acc y≠none)->acc.length+l.length<=4194304->
  Zv (σ:=(List (ByteArray×Bool))×(List Zg)) (fun (_:Nat) (a:ByteArray) s=>match s with|(mp_11,row_12)=>(ZbR a).bind fun c=>if c=true then if (Za2 mp_11 a false)=true then some (.inl (mp_11,row_12)) else
   ((Qn (IntKind.i64.wrap (((row_12.length:Nat):Int)+1))).bind fun b=>chk ((⟨#[63]⟩:ByteArray).size+b.size<=9223372036854775807) <| chk (row_12.length+1<=1073741824) <| some (.inl ((Zft mp_11 a true),(row_12++[({ var:=a,value:=((⟨#[63]⟩:ByteArray)++b) }:Zg)])))) else some (.inl (mp_11,row_12)))
   (fun s=>match s with|(_,row_12)=>some row_12) l i (mp,acc)=some (l.foldl Za6 acc)
 | [],_,_,_,_,_=>rfl
 |x::l,i,mp,acc,hm,hl=>by
  simp only[AP]at hl
  simp only[Ae]
  have hw:Zbn ((acc.length:Int)+1):=⟨yE,yE⟩
  by_cases hv:Yp x=true
  .by_cases hg:Xy acc x=none
   .have hn:Za6 acc x=acc++[{ var:=x,value:=(⟨#[63]⟩:ByteArray)++ofL (Lib.itoa ((acc.length:Int)+1)) }]:=if_pos ⟨hv,hg⟩
    rw [ZK (s':=(Zft mp x true,Za6 acc x)) (by
     simp only[Zae,A0,hv,if_true]
     rw [if_neg (by rw [hm];simpa using hg),ZaL hw.1 hw.2,ZbN hw,A0,Zr _ (ZtW hw),Zr _ yE,hn])]
    refine Zf0 l (i+1) _ _ (fun y=>?_) (by rw [hn];simp;omega)
    rw [Zwp,hn,ZqB]
    by_cases hy:y=x
    .subst hy;simp [hg]
    .rw [if_neg hy,hm]
     have d:¬x=y:=fun e=>hy e.symm
     cases Xy acc y<;>simp [d]
   .have hn:Za6 acc x=acc:=if_neg fun h=>hg h.2
    rw [ZK (s':=(mp,acc)) (by
     simp only[Zae,A0,hv,if_true]
     rw [if_pos ((hm x).2 hg)]),hn]
    exact Zf0 l (i+1) mp acc hm yE
  .have hn:Za6 acc x=acc:=if_neg fun h=>hv h.1
   rw [ZK (s':=(mp,acc)) (by
    simp only[Zae,A0]
    rw [if_neg hv]),hn]
   exact Zf0 l (i+1) mp acc hm yE
theorem Zgf (l:List ByteArray) (h:l.length<=4194304):Qy l=some (Zmu l):=Zf0 l 0 [] [] (fun y=>by simp [Za2,Zd4,Xy]) (by simpa using h)
theorem Zq4 {acc:List Zg}{s:ByteArray}{ρ:Type}{z:ρ}{fin:Unit->Option ρ}:∀(l:List Zg) (i:Nat),Zv (σ:=Unit) (fun (_:Nat) (x7:Zg) _=>if (sEq x7.var s)=true then some (.inr z) else some (.inl ())) fin l i ()=if Xy l s=none then fin () else some z
 | [],_=>by simp [Xy,Zv]
 |x::l,i=>by
  unfold Xy
  by_cases h:x.var=s
  .rw [Ya (by rw [if_pos (Zz.2 h)]),if_pos h,if_neg yG]
  .rw [ZK (by rw [if_neg (by rw [Zz];exact h)]),if_neg h]
   exact Zq4 (acc:=acc) l (i+1)
theorem Zhg (acc:List Zg) (s:ByteArray) (h:acc.length<=4194304):QH acc s=some (Za6 acc s):=by
 unfold QH Za6
 have hw:Zbn ((acc.length:Int)+1):=⟨yE,yE⟩
 rw [Qz,A0]
 by_cases hv:Yp s=true
 .rw [if_pos hv,Zq4 (acc:=acc)]
  by_cases hg:Xy acc s=none
  .rw [if_pos hg,if_pos ⟨hv,hg⟩,ZaL hw.1 hw.2,Zgq hw,A0,Zr _ (ZtW hw),Zr _ yE]
  .rw [if_neg hg,if_neg fun h=>hg h.2]
 .rw [if_neg hv,if_neg fun h=>hv h.1]
end
section
theorem Zfe (p:Zj) (h:p.args.length<=1048576):QL p=some p:=by
 unfold QL
 rw [ZbX _ yE]
 rfl
theorem Zis (p:Zj) (h:p.args.length<=1048576):QD p=some p:=by
 unfold QD
 rw [Zjk _ yE]
 rfl
theorem ZaY (x:Zf) (h:x.pattern.args.length<=1048576):YN x=some x:=by
 unfold YN
 rw [Zfe _ h]
 rfl
theorem ZlO (l:List Zf) (hl:l.length<=1048576) (h:∀x∈l,x.pattern.args.length<=1048576):Zc9 l=some l:=by
 unfold Zc9
 rw [Xs (g:=fun y=>y)]
 .simp
 .intro j y s my hs
  rw [ZaY y (h y my),A0,Zr _ (by simp at hs;omega)]
theorem Znc (r:Zl) (h:XI r):Zen r=some r:=by
 unfold Zen
 rw [ZlO _ h.1 h.3,A0,Xs (g:=fun y=>y)]
 .simp
 .intro j y s my hs
  have hl:=h.2
  rw [Zfe _ (h.4 y my),A0,Zr _ (by simp at hs;omega)]
theorem Zq6 (r:Zl) (h:XI r):Zhk r=some r:=by
 unfold Zhk
 rw [Xs (g:=fun y=>y)]
 .simp only[An,Ao]
  rw [Xs (g:=fun y=>y)]
  .simp
  .intro j y s my hs
   have hl:=h.2
   rw [Zis _ (h.4 y my),A0,Zr _ (by simp at hs;omega)]
 .intro j y s my hs
  have hl:=h.1
  rw [Zg3 y (h.3 y my),A0,Zr _ (by simp at hs;omega)]
open Classical
end
section
open Classical
theorem Zmh (p:Zj):(Zsc (Zmu p.args) { kind:=0,pattern:=p,left:=⟨#[]⟩,right:=⟨#[]⟩ }).pattern=Zdo p:=rfl
theorem ZiG (p:Zj) (h:p.args.length<=1048576):ZdH p=some (Zdo p):=by
 unfold ZdH
 rw [Zgf _ yE,A0,Zgc _ _ h,A0,Zmh]
theorem Zir {ρ:Type}{fin:List Zg->Option ρ}:∀(l:List ByteArray) (i:Nat) (acc:List Zg),acc.length+l.length<=4194304->Zv (σ:=(List Zg)) (fun (_:Nat) (x9:ByteArray) row_3=>(QH row_3 x9).bind fun a=>some (.inl a)) fin l i acc=fin (l.foldl Za6 acc)
 | [],_,_,_=>rfl
 |x::l,i,acc,h=>by
  simp only[AP]at h
  have:=Zhv acc x
  rw [ZK (s':=Za6 acc x) (by rw [Zhg _ _ yE];rfl)]
  exact Zir l (i+1) _ yE
theorem Zjy (p:Zj) (h:p.args.length<=1048576):ZdE p=some (Zdo p):=by
 unfold ZdE
 rw [Zir _ _ _ (by simp;omega),Zga _ _ h,A0]
 exact congrArg some (Zmh p)
theorem Zu8 {l:List Zf}(h:∀x∈l,x.pattern.args.length<=1048574) (hl:l.length<=4):(l.flatMap QR).length<=1048576*l.length:=by
 clear hl
 induction l with
 |nil=>simp
 |cons x l ih=>
  have h1:=h x yG
  have h2:=ih fun y my=>h y (by simp [my])
  simp only[Ag,Ah,QR,AP,Aq]
  omega
theorem ZsZ (x:Zf) (h:x.pattern.args.length<=1048576):Zbz x=some (QR x):=by
 unfold Zbz
 rw [ZbX _ yE,A0,Zr _ yE]
 rfl
structure SmN (r:Zl):Prop where
 c4:r.cond.length<=4
 ca:∀x∈r.cond,x.pattern.args.length<=1048574
theorem Zk3 (r:Zl) (h:SmN r):ZbB r=some (Zik r):=by
 unfold ZbB Zik
 have key:∀(l:List Zf) (i:Nat) (acc:List ByteArray),(∀x∈l,x.pattern.args.length<=1048574)->acc.length+1048576*l.length<=8388608->
   Zv (σ:=(List ByteArray)) (fun (_:Nat) (c:Zf) a=>(Zbz c).bind fun b=>chk (a.length+b.length<=1073741824) <| some (.inl (a++b))) (fun a=>(Qy a).bind fun d=>some d) l i acc=(Qy (acc++l.flatMap QR)).bind fun v=>some v:=by
  intro l
  induction l with
  |nil=>intro i acc _ _;simp [Zv]
  |cons x l ih=>
   intro i acc hs hl
   have hx:=hs x yG
   simp only[AP]at hl
   have ht:(QR x).length=x.pattern.args.length+2:=by simp [QR]
   rw [ZK (s':=acc++QR x) (by rw [ZsZ _ yE,A0,Zr _ yE]),ih _ _ (fun y my=>hs y (by simp [my])) (by rw [Ah,ht];omega)]
   simp [Ar]
 have hc:=h.c4
 rw [key r.cond 0 [] h.ca (by simp;omega),An,Zgf _ (by have:=Zu8 h.ca hc;omega)]
 rfl
theorem ZkR (r:Zl) (h:SmN r):Zb2 r=some (Zik r):=by
 unfold Zb2 Zik Zmu
 have key:∀(l:List Zf) (i:Nat) (acc:List Zg),(∀x∈l,x.pattern.args.length<=1048574)->acc.length+1048576*l.length<=4194304->
   Zv (σ:=(List Zg)) (fun (_:Nat) (c:Zf) a=>Zv (σ:=(List Zg)) (fun (_:Nat) (d:ByteArray) b=>(QH b d).bind fun e=>some (.inl e)) (fun b=>(QH b c.left).bind fun f=>(QH f c.right).bind fun g=>some (.inl g)) c.pattern.args 0 a) (fun a=>some a) l i acc=some ((l.flatMap QR).foldl Za6 acc):=by
  intro l
  induction l with
  |nil=>intro i acc _ _;rfl
  |cons x l ih=>
   intro i acc hs hl
   have hx:=hs x yG
   simp only[AP]at hl
   have h1:=Zi8 x.pattern.args acc
   have h2:=Zhv (x.pattern.args.foldl Za6 acc) x.left
   have h3:=Zhv (Za6 (x.pattern.args.foldl Za6 acc) x.left) x.right
   rw [ZK (s':=Za6 (Za6 (x.pattern.args.foldl Za6 acc) x.left) x.right) (by
    rw [Zir _ _ _ yE,Zhg _ _ yE,A0,Zhg _ _ yE,A0])]
   rw [ih _ _ (fun y my=>hs y (by simp [my])) yE]
   simp [QR,List.foldl_append]
 have hc:=h.c4
 rw [key r.cond 0 [] h.ca (by simp;omega)]
theorem ZkS (r:Zl) (h:SmN r):ZbM r=some (Zcy r):=by
 unfold ZbM
 rw [Zk3 r h,A0,Xs (g:=Zsc (Zik r))]
 .rfl
 .intro j y s my hs
  have hc:=h.c4
  rw [Zgc _ _ (by have:=h.ca y my;omega),A0,Zr _ (by simp at hs;omega)]
theorem ZkU (r:Zl) (h:SmN r):ZbT r=some (Zcy r):=by
 unfold ZbT
 rw [ZkR r h,A0,Xs (g:=Zsc (Zik r))]
 .rfl
 .intro j y s my hs
  have hc:=h.c4
  rw [Zga _ _ (by have:=h.ca y my;omega),A0,Zr _ (by simp at hs;omega)]
theorem Zku {r:Zl}(h:SmN r):∀x∈Zcy r,x.pattern.args.length<=1048574:=fun x mx=>by
 obtain ⟨y,my,rfl⟩:=BH.1 mx
 have:=h.ca y my
 simpa [Zsc]using this
theorem Zib {ρ:Type}{f:Zj->Zj->Option Bool}(hf:∀x y,f x y=some (decide (x=y))) {g:Nat->ρ}{fin:Unit->Option ρ}(p:Zj):∀(l:List Z7) (i:Nat),Zv (σ:=Unit) (fun (i6:Nat) (x7:Z7) _=>(f x7.shape p).bind fun v8=>if v8=true then some (.inr (g i6)) else some (.inl ())) fin l i ()=match Zoe p l i with|some k=>some (g k)|none=>fin ()
 | [],_=>rfl
 |x::l,i=>by
  unfold Zoe
  by_cases h:x.shape=p
  .rw [Ya (by rw [hf,A0,if_pos (decide_eq_true h)]),if_pos h]
  .rw [ZK (by rw [hf,A0,if_neg (by simpa using h)]),if_neg h]
   exact Zib hf p l (i+1)
theorem ZcX {n:Nat}(h:n<=1048576):IntKind.i64.wrap ((((n+1:Nat)):Int) - 1)=((n:Nat):Int):=by
 rw [show (((n+1:Nat)):Int) - 1=((n:Nat):Int) by omega,ZaL yE yE]
theorem Zl4 (n:Ze) (p:Zj) (h:n.alphas.length<=1000):XL n p=some (X4 n p):=by
 unfold XL X4
 rw [Zib Xp (g:=fun i=>(((i:Nat):Int),n))]
 cases Zoe p n.alphas 0 with
 |some k=>rfl
 |none=>simp only;rw [Zr _ yE,ZcX yE]
theorem Zjg (n:Ze) (p:Zj) (h:n.alphas.length<=1000):ZdF n p=some (X4 n p):=by
 unfold ZdF X4
 rw [Zib Qc (g:=fun i=>(((i:Nat):Int),n))]
 cases Zoe p n.alphas 0 with
 |some k=>rfl
 |none=>simp only;rw [Zr _ yE,ZcX yE]
theorem ZcR (n:Ze) (p:Zj):(X4 n p).2.nodes=n.nodes/\(X4 n p).2.alphas.length<=n.alphas.length+1:=by
 unfold X4
 split
 .exact ⟨rfl,by simp only;omega⟩
 .exact ⟨rfl,yG⟩
theorem Zvx (n:Ze) (p:Int) (x:Zf):n.nodes.length<=(ZV n p x).2.nodes.length/\(ZV n p x).2.nodes.length<=n.nodes.length+1/\(ZV n p x).2.alphas.length<=n.alphas.length+1:=by
 unfold ZV
 split
 .exact ⟨AM _,by simp only;omega,by simp only;omega⟩
 .refine ⟨yG,yG,?_⟩
  simp only
  split
  .exact (ZcR n _).2
  .simp only;omega
theorem Zkz {ρ:Type}{g:Nat->ρ}{fin:Unit->Option ρ}(p:Int) (x:Zf):∀(l:List ZL) (i:Nat),Zv (σ:=Unit) (fun (a:Nat) (b:ZL) _=>if (decide (0<((a:Nat):Int)))=true then if (b.parent==p)=true then (Zaq b.cond x).bind fun c=>if c=true then some (.inr (g a)) else some (.inl ()) else some (.inl ()) else some (.inl ())) fin l i ()=
  match Zac (fun y=>y.parent=p/\y.cond=x) l i with|some k=>some (g k)|none=>fin ()
 | [],_=>rfl
 |y::l,i=>by
  unfold Zac
  have ih:=Zkz (g:=g) (fin:=fin) p x l (i+1)
  by_cases h0:0<i
  .have hd:decide (0<((i:Nat):Int))=true:=decide_eq_true yE
   by_cases h1:y.parent=p
   .by_cases h2:y.cond=x
    .rw [Ya (by rw [if_pos hd,if_pos (by simp [h1]),ZcC,A0,if_pos (decide_eq_true h2)]),if_pos ⟨h0,h1,h2⟩]
    .rw [ZK (by rw [if_pos hd,if_pos (by simp [h1]),ZcC,A0,if_neg (by simpa using h2)]),if_neg fun h=>h2 h.2.2]
     exact ih
   .rw [ZK (by rw [if_pos hd,if_neg (by simp [h1])]),if_neg fun h=>h1 h.2.1]
    exact ih
  .rw [ZK (by rw [if_neg (by simp;omega)]),if_neg fun h=>h0 h.1]
   exact ih
theorem ZsI (n:Ze) (p:Int) (x:Zf) (h1:n.nodes.length<=1000) (h2:n.alphas.length<=1000) (hx:x.pattern.args.length<=1048574):QE n p x=some (ZV n p x):=by
 unfold QE ZV
 rw [Zkz (g:=fun i=>(((i:Nat):Int),n)) p x]
 cases Zac (fun y=>y.parent=p/\y.cond=x) n.nodes 0 with
 |some k=>rfl
 |none=>
  simp only
  obtain ⟨e1,e2⟩:=ZcR n (Zdo x.pattern)
  by_cases k1:x.kind=1
  .rw [if_pos (by simp [k1]),ZiG _ yE,A0,Zl4 _ _ h2,A0,ZaY _ yE,A0,e1,Zr _ yE,ZcX yE,if_pos (.inl k1)]
  .rw [if_neg (by simp [k1])]
   by_cases k2:x.kind=2
   .rw [if_pos (by simp [k2]),ZiG _ yE,A0,Zl4 _ _ h2,A0,ZaY _ yE,A0,e1,Zr _ yE,ZcX yE,if_pos (.inr k2)]
   .rw [if_neg (by simp [k2]),ZaY _ yE,A0,Zr _ yE,ZcX yE,if_neg (by simp [k1,k2])]
theorem ZkM {ρ:Type}{a:List ZL}{q:ZL->Prop}(hn:a.length<=1000) {body:Int->Option (Int ⊕ ρ)}{g:Nat->ρ}{z:Option ρ}
  (h1:∀(k:Nat) y,1<=k->a[k]?=some y->body ((k:Nat):Int)=if q y then some (.inr (g k)) else some (.inl (((k+1:Nat)):Int))) (h2:body ((a.length:Nat):Int)=z.bind fun r=>some (.inr r)):
  ∀(d k:Nat),k+d=a.length->1<=k->ZaT body ((k:Nat):Int)=match Zac q (a.drop k) k with|some j=>some (g j)|none=>z
 |0,k,hk,hk1=>by
  obtain rfl:k=a.length:=by omega
  rw [BI]
  cases z with
  |none=>rw [Zli,h2];rfl
  |some r=>rw [ZaN (by rw [h2];rfl)];rfl
 |d+1,k,hk,hk1=>by
  have b:k<a.length:=by omega
  rw [Ai b]
  unfold Zac
  have hy:a[k]?=some a[k]:=AE b
  by_cases hq:q a[k]
  .rw [ZaN (by rw [h1 k _ hk1 hy,if_pos hq]),if_pos ⟨yE,hq⟩]
  .rw [ZdA (by rw [h1 k _ hk1 hy,if_neg hq]),if_neg fun h=>hq h.2]
   exact ZkM hn h1 h2 d (k+1) yE yE
noncomputable def Zv7 (n:Ze) (parent:Int) (x:Zf):Int×Ze:=
 let a:Int×Ze:=if x.kind=1\/x.kind=2 then X4 n (Zdo x.pattern) else (-1,n)
 (((n.nodes.length:Nat):Int),{ a.2 with nodes:=n.nodes++[{ parent:=parent,cond:=x,alpha:=a.1,tokens:=[] }] })
theorem ZsM (n:Ze) (p:Int) (x:Zf) (h0:1<=n.nodes.length) (h1:n.nodes.length<=1000) (h2:n.alphas.length<=1000) (hx:x.pattern.args.length<=1048574):Zfd n p x=some (ZV n p x):=by
 unfold Zfd ZV
 have hf:Zac (fun y=>y.parent=p/\y.cond=x) n.nodes 0=Zac (fun y=>y.parent=p/\y.cond=x) (n.nodes.drop 1) 1:=by
  cases hn:n.nodes with
  |nil=>rw [hn]at h0;simp at h0
  |cons y r=>simp [Zac]
 rw [hf]
 refine (ZkM (q:=fun y=>y.parent=p/\y.cond=x) (g:=fun i=>(((i:Nat):Int),n)) (z:=some (Zv7 n p x)) h1 (fun k y hk hy=>?_) ?_ (n.nodes.length - 1) 1 yE (AM _)).trans ?_
 .have a:=(AJ.1 hy).1
  rw [if_pos (decide_eq_true yE),Zr _ ⟨yE,yE⟩,AS,hy,A0]
  have hw:IntKind.i64.wrap (((k:Nat):Int)+1)=(((k+1:Nat)):Int):=Zp a yE
  by_cases e1:y.parent=p
  .rw [if_pos (by simp [e1]),ZeU,A0]
   by_cases e2:y.cond=x
   .rw [if_pos (decide_eq_true e2),if_pos ⟨e1,e2⟩]
   .rw [if_neg (by simpa using e2),if_neg fun h=>e2 h.2,hw]
  .rw [if_neg (by simp [e1]),if_neg fun h=>e1 h.1,hw]
 .rw [if_neg yG,Zg3 _ yE,A0]
  unfold Zv7
  obtain ⟨e1,e2⟩:=ZcR n (Zdo x.pattern)
  by_cases k1:x.kind=1
  .rw [if_pos (by simp [k1]),Zjy _ yE,A0,Zjg _ _ h2,A0,e1,Zr _ yE,ZcX yE,if_pos (.inl k1)]
   rfl
  .rw [if_neg (by simp [k1])]
   by_cases k2:x.kind=2
   .rw [if_pos (by simp [k2]),Zjy _ yE,A0,Zjg _ _ h2,A0,e1,Zr _ yE,ZcX yE,if_pos (.inr k2)]
    rfl
   .rw [if_neg (by simp [k2]),Zr _ yE,ZcX yE,if_neg (by simp [k1,k2])]
    rfl
 .cases Zac (fun y=>y.parent=p/\y.cond=x) (n.nodes.drop 1) 1<;>rfl
theorem Zof {ρ:Type}{ch:Ze->Int->Zf->Option (Int×Ze)}(b:∀n p x,1<=n.nodes.length->n.nodes.length<=1000->n.alphas.length<=1000->x.pattern.args.length<=1048574->ch n p x=some (ZV n p x)) {fin:Int×(List Zl)×(List Int)×(List Z7)×(List ZL)×(List Zk)×Int->Option ρ}:
  ∀(l:List Zf) (i:Nat) (p:Int) (n:Ze),1<=n.nodes.length->n.nodes.length+l.length<=1000->n.alphas.length+l.length<=1000->(∀x∈l,x.pattern.args.length<=1048574)->
  Zv (σ:=Int×(List Zl)×(List Int)×(List Z7)×(List ZL)×(List Zk)×Int) (fun (_:Nat) (c:Zf) s=>match s with|(f_67,row_68,row_69,row_70,row_71,row_72,u_74)=>(ch ({ rules:=row_68,ends:=row_69,alphas:=row_70,nodes:=row_71,facts:=row_72,tries:=f_67 }:Ze) u_74 c).bind fun a=>some (.inl (a.2.tries,a.2.rules,a.2.ends,a.2.alphas,a.2.nodes,a.2.facts,a.1)))
   fin l i (n.tries,n.rules,n.ends,n.alphas,n.nodes,n.facts,p)=fin ((YY l (p,n)).2.tries,(YY l (p,n)).2.rules,(YY l (p,n)).2.ends,(YY l (p,n)).2.alphas,(YY l (p,n)).2.nodes,(YY l (p,n)).2.facts,(YY l (p,n)).1)
 | [],_,_,_,_,_,_,_=>rfl
 |x::l,i,p,n,h0,h1,h2,h3=>by
  simp only[AP]at h1 h2
  obtain ⟨c1,c2,c3⟩:=Zvx n p x
  rw [ZK (s':=((ZV n p x).2.tries,(ZV n p x).2.rules,(ZV n p x).2.ends,(ZV n p x).2.alphas,(ZV n p x).2.nodes,(ZV n p x).2.facts,(ZV n p x).1)) (by
   show (ch n p x).bind _=_
   rw [b n p x h0 yE yE (h3 x yG)];rfl)]
  exact Zof b l (i+1) (ZV n p x).1 (ZV n p x).2 yE yE yE fun y my=>h3 y (by simp [my])
theorem Zka:∀(l:List Zf) (p:Int) (n:Ze),(YY l (p,n)).2.ends=n.ends/\(YY l (p,n)).2.rules=n.rules/\(YY l (p,n)).2.facts=n.facts/\(YY l (p,n)).2.tries=n.tries
 | [],_,_=>⟨rfl,rfl,rfl,rfl⟩
 |x::l,p,n=>by
  have e:YY (x::l) (p,n)=YY l ((ZV n p x).1,(ZV n p x).2):=rfl
  obtain ⟨a,b,c,d⟩:=Zka l (ZV n p x).1 (ZV n p x).2
  have hc:(ZV n p x).2.ends=n.ends/\(ZV n p x).2.rules=n.rules/\(ZV n p x).2.facts=n.facts/\(ZV n p x).2.tries=n.tries:=by
   unfold ZV
   split
   .exact ⟨rfl,rfl,rfl,rfl⟩
   .simp only
    split
    .unfold X4
     split<;>exact ⟨rfl,rfl,rfl,rfl⟩
    .exact ⟨rfl,rfl,rfl,rfl⟩
  rw [e]
  exact ⟨a.trans hc.1,b.trans hc.2.1,c.trans hc.2.2.1,d.trans hc.2.2.2⟩
theorem ZiD {ρ:Type}{pc:Zl->Option (List Zf)}(b:∀r,SmN r->pc r=some (Zcy r)) {ch:Ze->Int->Zf->Option (Int×Ze)}(c:∀n p x,1<=n.nodes.length->n.nodes.length<=1000->n.alphas.length<=1000->x.pattern.args.length<=1048574->ch n p x=some (ZV n p x)) {fin:Int×(List Zl)×(List Int)×(List Z7)×(List ZL)×(List Zk)->Option ρ}:
  ∀(l:List Zl) (i:Nat) (n:Ze),ZlU n->n.nodes.length+4*l.length<=900->n.alphas.length+4*l.length<=900->n.ends.length+l.length<=900->(∀r∈l,SmN r)->
  Zv (σ:=Int×(List Zl)×(List Int)×(List Z7)×(List ZL)×(List Zk)) (fun (_:Nat) (d:Zl) s=>match s with|(f_38,row_39,row_40,row_41,row_42,row_43)=>(pc d).bind (fun e=>Zv (σ:=Int×(List Zl)×(List Int)×(List Z7)×(List ZL)×(List Zk)×Int) (fun (_:Nat) (f:Zf) s=>match s with|(f_67,row_68,row_69,row_70,row_71,row_72,u_74)=>(ch ({ rules:=row_68,ends:=row_69,alphas:=row_70,nodes:=row_71,facts:=row_72,tries:=f_67 }:Ze) u_74 f).bind fun a=>some (.inl (a.2.tries,a.2.rules,a.2.ends,a.2.alphas,a.2.nodes,a.2.facts,a.1))) (fun s=>match s with|(f_67,row_68,row_69,row_70,row_71,row_72,u_74)=>chk (row_69.length+1<=1073741824) <| some (.inl (f_67,row_68,(row_69++[u_74]),row_70,row_71,row_72))) e 0 (f_38,row_39,row_40,row_41,row_42,row_43,0)))
   fin l i (n.tries,n.rules,n.ends,n.alphas,n.nodes,n.facts)=fin ((l.foldl Xn n).tries,(l.foldl Xn n).rules,(l.foldl Xn n).ends,(l.foldl Xn n).alphas,(l.foldl Xn n).nodes,(l.foldl Xn n).facts)
 | [],_,_,_,_,_,_,_=>rfl
 |r::l,i,n,hI,h1,h2,h4,h3=>by
  simp only[AP]at h1 h2 h4
  have hr:=h3 r yG
  have hr4:=hr.c4
  have hcl:=Ziq r
  obtain ⟨r1,r2,r3,r4⟩:=Zpk hI hr.c4
  obtain ⟨w1,w2,w3,w4⟩:=Zka (Zcy r) 0 n
  rw [ZK (s':=((Xn n r).tries,(Xn n r).rules,(Xn n r).ends,(Xn n r).alphas,(Xn n r).nodes,(Xn n r).facts)) (by
   simp only[b r hr,A0]
   rw [Zof c _ _ _ _ hI.one yE yE (Zku hr)]
   simp only
   rw [w1,Zr _ yE]
   rfl)]
  exact ZiD b c l (i+1) (Xn n r) r1 yE yE yE fun y my=>h3 y (by simp [my])
theorem ZoS (R:List Zl) (hl:R.length<=1048576) (h:∀r∈R,XI r):ZcP R=some R:=by
 unfold ZcP
 rw [Xs (g:=fun r=>r)]
 .simp
 .intro j y s my hs
  rw [Znc y (h y my),A0,Zr _ (by simp at hs;omega)]
theorem Zr6 (R:List Zl) (hl:R.length<=1048576) (h:∀r∈R,XI r):ZdZ R=some R:=by
 unfold ZdZ
 rw [Xs (g:=fun r=>r)]
 .simp
 .intro j y s my hs
  rw [Zq6 y (h y my),A0,Zr _ (by simp at hs;omega)]
theorem ZmO (R:List Zl) (hl:R.length<=6) (h:∀r∈R,XI r) (h':∀r∈R,SmN r):Zdg R=some (ZfX R []):=by
 unfold Zdg
 rw [ZoS R yE h,A0]
 exact (ZiD ZkS (fun n p x _ a b c=>ZsI n p x a b c) R 0 (ZaS R []) (Zll R []) (by simp [ZaS];omega) (by simp [ZaS];omega) (by simp [ZaS];omega) h').trans rfl
theorem Zji (R:List Zl) (h:∀r∈R,XI r) (h':Yr R=true->∀r∈R,SmN r):Q6 R=some (if Yr R=true then (ZfX R [ZjK],true) else ({ rules:=[],ends:=[],alphas:=[],nodes:=[],facts:=[],tries:=0 },false)):=by
 unfold Q6
 rw [ZhR h,A0]
 by_cases hR:Yr R=true
 .have hl:=(Zdt hR).1
  rw [if_pos hR,if_pos hR,Zr6 R yE h,A0]
  exact (ZiD ZkU ZsM R 0 (ZaS R [ZjK]) (Zll R [ZjK]) (by simp [ZaS];omega) (by simp [ZaS];omega) (by simp [ZaS];omega) (h' hR)).trans rfl
 .rw [if_neg hR,if_neg hR]
end
section
open Classical
structure Zgk (N:List ZL):Prop where
 par:∀i y,1<=i->N[i]?=some y->0<=y.parent/\y.parent<((i:Nat):Int)
 sm:∀y∈N,y.cond.pattern.args.length<=1048574
 few:N.length<=1000
def Zki (N:List ZL) (i:Int):Zf:=match N[i.toNat]? with|some y=>y.cond|none=>ZvZ
theorem Zq1 (n:Ze) (h:Zgk n.nodes):∀(k:Nat) (row:List Zf) (i:Int),i.toNat<=k->i<n.nodes.length->row.length+k<=1000->
  ZaT (σ:=(List Zf)×Int)
  (fun s=>
   match s with
   |(row_4,node_5)=>
   (XJ node_5 1 (IntKind.i64.wrap (((n.nodes.length:Nat):Int) - 1))).bind fun v6=>
   if v6=true then
    (atI n.nodes node_5).bind fun x7=>
    (ZcV x7.cond).bind fun v8=>
    chk (1+row_4.length<=1073741824) <|
    if (decide (node_5<=x7.parent))=true then
     some (.inr ([v8]++row_4))
    else
     some (.inl (([v8]++row_4),x7.parent))
   else
    some (.inr row_4))
  (row,i)=some (X5 n.nodes i++row):=by
 have hlen:=h.few
 intro k
 induction k with
 |zero=>
  intro row i hk hi hr
  rw [ZdB yE,ZaN (r:=row)]
  .rfl
  .show (XJ i 1 _).bind _=_
   rw [QP,A0,if_neg (by simp;omega)]
 |succ k ih=>
  intro row i hk hi hr
  by_cases h1:1<=i
  .obtain ⟨j,rfl⟩:∃j:Nat,i=(j:Int):=⟨i.toNat,yE⟩
   have hj:j<n.nodes.length:=by omega
   have hy:n.nodes[j]?=some n.nodes[j]:=AE hj
   have hp:=h.par j _ yE hy
   have hs:=h.sm _ (As hj)
   rw [ZiQ (y:=n.nodes[j]) h1 (by simp) hp.2,ZdA (s':=([n.nodes[j].cond]++row,n.nodes[j].parent))]
   .rw [ih _ _ yE yE (by simp;omega)]
    simp
   .show (XJ _ 1 _).bind _=_
    rw [QP,A0,ZaL yE yE,if_pos (by simp;omega),Yk,hy,A0,Zg3 _ yE,A0,Zr _ yE,if_neg (by simp;omega)]
  .rw [ZdB yE,ZaN (r:=row)]
   .rfl
   .show (XJ i 1 _).bind _=_
    rw [QP,A0,if_neg (by simp;omega)]
theorem Zqg (n:Ze) (h:Zgk n.nodes) (i:Nat) (hi:i<n.nodes.length):ZgC n ((i:Nat):Int)=some (X5 n.nodes ((i:Nat):Int)):=by
 unfold ZgC
 have hlen:=h.few
 rw [Zq1 n h i [] _ yE yE (by simp;omega),AW]
theorem Zx7 {ρ:Type}(N:List ZL) (h:Zgk N) (U:List Int) (hU:∀u∈U,0<=u/\u<N.length) (hl:U.length<=2000) {g:List Zf->ρ}:∀(k:Nat) (acc:List Zf),k<=U.length->acc.length+k<=4000->
  ZaT (σ:=(List Zf)×Int)
       (fun s=>
        match s with
        |(row_12,i_13)=>
        if (decide (0<=i_13))=true then
         chk (0<=i_13/\i_13<((U.length:Nat):Int)) <|
         (U[(At i_13)]?).bind fun b=>
         (atI N b).bind fun c=>
         (YN c.cond).bind fun d=>
         chk (row_12.length+1<=1073741824) <|
         some (.inl ((row_12++[d]),(IntKind.i64.wrap (i_13 - 1))))
        else
         some (.inr (g row_12)))
       (acc,((k:Nat):Int) - 1)=some (g (acc++(U.take k).reverse.map (Zki N))):=by
 intro k
 induction k with
 |zero=>
  intro acc _ _
  rw [ZaN (r:=g acc)]
  .simp
  .show (if _ then _ else _)=_
   rw [if_neg yG]
 |succ k ih=>
  intro acc hk ha
  have hu:U[k]?=some U[k]:=AE yE
  obtain ⟨u1,u2⟩:=hU _ (As (show k<U.length by omega))
  obtain ⟨j,hj⟩:∃j:Nat,U[k]=(j:Int):=⟨U[k].toNat,yE⟩
  have a:j<N.length:=by omega
  have hy:N[j]?=some N[j]:=AE a
  have hs:=h.sm _ (As a)
  have e:(((k+1:Nat):Int) - 1)=((k:Nat):Int):=by omega
  have ec:Zki N U[k]=N[j].cond:=by unfold Zki;rw [hj,AS,hy]
  rw [ZdA (s':=(acc++[N[j].cond],((k:Nat):Int) - 1))]
  .rw [ih _ yE (by simp;omega),Au,hu,BJ,List.reverse_append,List.reverse_singleton,Aw,List.map_singleton,ec,Ar]
  .show (if _ then _ else _)=_
   rw [e,if_pos yG,Zr _ yE,AS,hu,A0,hj,Yk,hy,A0,ZaY _ yE,A0,Zr _ yE,ZaL yE yE]
theorem Zql {N:List ZL}{j:Nat}(h1:1<=j) (hj:j<N.length) (hp:N[j].parent<((j:Nat):Int)):X5 N ((j:Nat):Int)=X5 N N[j].parent++[Zki N ((j:Nat):Int)]:=by
 have hy:N[j]?=some N[j]:=AE hj
 rw [ZiQ (y:=N[j]) yE (by simp) hp]
 unfold Zki
 rw [AS,hy]
theorem ZrI (n:Ze) (h:Zgk n.nodes) (i:Nat) (hi:i<n.nodes.length):Zgo n ((i:Nat):Int)=some (X5 n.nodes ((i:Nat):Int)):=by
 have hlen:=h.few
 unfold Zgo
 by_cases h0:i=0
 .subst h0
  rw [if_pos yG,ZdB yE]
 rw [if_neg (by simp;omega),if_neg (by simp;omega)]
 have key:∀(k:Nat) (row:List Int) (j:Nat),j<=k->1<=j->j<n.nodes.length->(∀u∈row,0<=u/\u<n.nodes.length)->row.length+k<=1000->
   ZaT (σ:=(List Int)×Int)
    (fun s=>
     match s with
     |(row_3,node_4)=>
     chk (row_3.length+1<=1073741824) <|
     (atI n.nodes node_4).bind fun x5=>
     if (decide (x5.parent<1))=true then
      ZaT (σ:=(List Zf)×Int)
       (fun s=>
        match s with
        |(row_12,i_13)=>
        if (decide (0<=i_13))=true then
         chk (0<=i_13/\i_13<((row_3.length+1:Nat):Int)) <|
         ((row_3++[node_4])[(At i_13)]?).bind fun f=>
         (atI n.nodes f).bind fun l=>
         (YN l.cond).bind fun m=>
         chk (row_12.length+1<=1073741824) <|
         some (.inl ((row_12++[m]),(IntKind.i64.wrap (i_13 - 1))))
        else
         some (.inr (.inr row_12)))
       ([],(IntKind.i64.wrap (((row_3.length+1:Nat):Int) - 1)))
     else
      if (decide (node_4<=x5.parent))=true then
       ZaT (σ:=(List Zf)×Int)
        (fun s=>
         match s with
         |(row_23,i_24)=>
         if (decide (0<=i_24))=true then
          chk (0<=i_24/\i_24<((row_3.length+1:Nat):Int)) <|
          ((row_3++[node_4])[(At i_24)]?).bind fun o=>
          (atI n.nodes o).bind fun p=>
          (YN p.cond).bind fun t=>
          chk (row_23.length+1<=1073741824) <|
          some (.inl ((row_23++[t]),(IntKind.i64.wrap (i_24 - 1))))
         else
          some (.inr (.inr row_23)))
        ([],(IntKind.i64.wrap (((row_3.length+1:Nat):Int) - 1)))
      else
       some (.inl ((row_3++[node_4]),x5.parent)))
    (row,((j:Nat):Int))=some (X5 n.nodes ((j:Nat):Int)++row.reverse.map (Zki n.nodes)):=by
  intro k
  induction k with
  |zero=>intro row j a b;omega
  |succ k ih=>
   intro row j hk h1 hj c hr
   have hy:n.nodes[j]?=some n.nodes[j]:=AE hj
   have hp:=h.par j _ h1 hy
   have e:=Zql h1 hj hp.2
   by_cases d:n.nodes[j].parent<1
   .refine ZaN ?_
    show chk _ _=_
    rw [Zr _ yE,Yk,hy,A0,if_pos (by simpa using d)]
    have hd:=Zx7 (ρ:=(List Int×Int) ⊕ List Zf) n.nodes h (row++[((j:Nat):Int)]) (fun u mu=>by
     rcases AB.1 mu with mu|mu
     .exact c u mu
     .simp at mu;subst mu;omega) (by simp;omega) (g:=.inr) (row.length+1) [] yG (by simp;omega)
    rw [Ah,BK]at hd
    rw [ZaL yE yE]
    refine hd.trans ?_
    rw [e,ZdB (by omega:n.nodes[j].parent<1),BL yG]
    simp
   .rw [ZdA (s':=(row++[((j:Nat):Int)],n.nodes[j].parent))]
    .obtain ⟨q,hq⟩:∃q:Nat,n.nodes[j].parent=(q:Int):=⟨n.nodes[j].parent.toNat,yE⟩
     rw [e,hq,ih _ q yE yE yE (fun u mu=>by
      rcases AB.1 mu with mu|mu
      .exact c u mu
      .simp at mu;subst mu;omega) (by simp;omega)]
     simp
    .show chk _ _=_
     rw [Zr _ yE,Yk,hy,A0,if_neg (by simpa using d),if_neg (by simp;omega)]
 rw [key i [] i (AM _) yE hi yG (by simp;omega)]
 simp
end
section
open Classical
theorem Zrk {α:Type}{l M:List α}{k:Nat}(hl:M.length=l.length) (hk:k<l.length) {y:α}(hy:M[k]?=some y):((M.take k++l.drop k).set k y)=M.take (k+1)++l.drop (k+1):=by
 have a:(M.take k).length=k:=by rw [BM];omega
 rw [List.set_append_right _ _ yE,a,Nat.sub_self,Ai hk,List.set_cons_zero,Au,hy,BJ,Ar]
 rfl
theorem ZtY {α:Type}{l M:List α}{k:Nat}(hl:M.length=l.length) (hk:k<l.length):(M.take k++l.drop k)[k]?=some l[k]:=by
 have a:(M.take k).length=k:=by rw [BM];omega
 rw [BN yE,a,Nat.sub_self,Ax,Ay,AE hk]
theorem ZqY {α ρ:Type}{body:(List α×Int)->Option ((List α×Int) ⊕ ρ)}{l M:List α}(hl:M.length=l.length) {r:ρ}
  (a:∀k (hk:k<l.length),body (M.take k++l.drop k,((k:Nat):Int))=some (.inl (M.take (k+1)++l.drop (k+1),(((k+1:Nat)):Int))))
  (b:body (M,((l.length:Nat):Int))=some (.inr r)):ZaT body (l,0)=some r:=by
 have key:∀(m k:Nat),k+m=l.length->ZaT body (M.take k++l.drop k,((k:Nat):Int))=some r:=by
  intro m
  induction m with
  |zero=>
   intro k hk
   have e:k=l.length:=by omega
   subst e
   rw [BI,AW,BL yE]
   exact ZaN b
  |succ m ih=>
   intro k hk
   rw [ZdA (a k yE)]
   exact ih (k+1) yE
 have:=key l.length 0 yE
 simpa using this
def Zjl (F:List Zk) (a:Z7):Z7:={ shape:=a.shape,facts:=Qi a.shape [] F }
def Zha (N:List ZL) (F:List Zk) (i:Nat) (y:ZL):ZL:={ parent:=y.parent,cond:=y.cond,alpha:=y.alpha,tokens:=Yn (X5 N ((i:Nat):Int)) F }
def ZkG (n:Ze) (F:List Zk):Ze:={ rules:=n.rules,ends:=n.ends,alphas:=n.alphas.map (Zjl F),nodes:=n.nodes.mapIdx (Zha n.nodes F),facts:=F,tries:=n.tries }
theorem ZuM (N:List ZL) (F:List Zk):(N.mapIdx (Zha N F)).map ZaW=N.map ZaW:=by
 refine AX fun i=>?_
 rw [AF,AF,AY]
 cases N[i]?<;>rfl
theorem Zkx {a b:List ZL}(h:a.map ZaW=b.map ZaW) (hb:Zgk b):Zgk a:=by
 have hlen:a.length=b.length:=by
  have:=congrArg List.length h
  simpa using this
 have c:∀(i:Nat) (x:ZL),a[i]?=some x->∃y:ZL,b[i]?=some y/\x.parent=y.parent/\x.cond=y.cond:=fun i x hx=>by
  have e:(a.map ZaW)[i]?=(b.map ZaW)[i]?:=by rw [h]
  rw [AF,AF,hx]at e
  cases hy:b[i]? with
  |none=>rw [hy]at e;simp at e
  |some y=>
   rw [hy]at e
   simp only[AZ,AA,ZaW,AC]at e
   exact ⟨y,rfl,e.1,e.2⟩
 refine ⟨fun i x h1 hx=>?_,fun x mx=>?_,by have:=hb.few;omega⟩
 .obtain ⟨y,hy,e1,_⟩:=c i x hx
  rw [e1];exact hb.par i y h1 hy
 .obtain ⟨i,hi,rfl⟩:=List.getElem_of_mem mx
  obtain ⟨y,hy,_,e2⟩:=c i _ (AE hi)
  rw [e2];exact hb.sm y (Aj hy)
theorem Zvq {l M:List ZL}(h:M.map ZaW=l.map ZaW) (k:Nat):(M.take k++l.drop k).map ZaW=l.map ZaW:=by
 rw [Aw,List.map_take,List.map_drop,h,List.take_append_drop]
theorem Zus (n:Ze) (F:List Zk) (hN:Zgk n.nodes) (hf:∀i:Nat,i<n.nodes.length->(X5 n.nodes ((i:Nat):Int)).length<=4) (hF:F.length<=24) (hA:∀f∈F,f.args.length<=3) (ha:n.alphas.length<=1000):Zar n F=some (ZkG n F):=by
 have hlen:=hN.few
 unfold Zar
 rw [Zeq _ yE (fun f mf=>by have:=hA f mf;omega),A0]
 refine ZqY (M:=n.alphas.map (Zjl F)) yG (fun k hk=>?_) ?_
 .have hM:(n.alphas.map (Zjl F)).length=n.alphas.length:=by simp
  have hg:=ZtY (M:=n.alphas.map (Zjl F)) hM hk
  show (if _ then _ else _)=_
  rw [if_pos (by simpa using hk),Zr _ (by simp;omega),AS,hg,A0,Zbe _ _ _ yE (fun f mf=>by have:=hA f mf;omega),A0,
   Zrk (M:=n.alphas.map (Zjl F)) hM hk (y:={ shape:=n.alphas[k].shape,facts:=Qi n.alphas[k].shape [] F }) (by rw [AF,AE hk];rfl),ZaL yE yE]
  rfl
 .show (if _ then _ else _)=_
  rw [if_neg yG]
  refine ZqY (M:=n.nodes.mapIdx (Zha n.nodes F)) yG (fun k hk=>?_) ?_
  .have hM:(n.nodes.mapIdx (Zha n.nodes F)).length=n.nodes.length:=by simp
   have hg:=ZtY (M:=n.nodes.mapIdx (Zha n.nodes F)) hM hk
   have a:=Zvq (ZuM n.nodes F) k
   have b:((n.nodes.mapIdx (Zha n.nodes F)).take k++n.nodes.drop k).length=n.nodes.length:=by simp;omega
   show (if _ then _ else _)=_
   rw [if_pos (by simpa using hk),ZrI _ (Zkx a hN) k (by rw [b];exact hk),A0]
   simp only[Zf2 a]
   unfold ZeQ
   rw [if_pos ⟨hf k hk,hF,hA⟩,ZhV _ _ (hf k hk) hF hA,A0,Zr _ (by rw [b];omega),AS,hg,A0,
    Zrk (M:=n.nodes.mapIdx (Zha n.nodes F)) hM hk (y:={ parent:=n.nodes[k].parent,cond:=n.nodes[k].cond,alpha:=n.nodes[k].alpha,tokens:=Yn (X5 n.nodes ((k:Nat):Int)) F }) (by rw [AY,AE hk];rfl),ZaL yE yE]
   rfl
  .show (if _ then _ else _)=_
   rw [if_neg yG]
   rfl
theorem ZuE {n:Ze}{p:Int}{x:Zf}(h:∀y∈n.nodes,y.cond.pattern.args.length<=1048574) (hx:x.pattern.args.length<=1048574):∀y∈(ZV n p x).2.nodes,y.cond.pattern.args.length<=1048574:=by
 unfold ZV
 split
 .exact h
 .have ha:∀a:Int×Ze,a.2.nodes=n.nodes->∀y∈a.2.nodes++[({ parent:=p,cond:=x,alpha:=a.1,tokens:=[] }:ZL)],y.cond.pattern.args.length<=1048574:=fun a e y my=>by
   rcases AB.1 my with my|my
   .exact h y (e ▸ my)
   .simp at my;subst my;exact hx
  intro y my
  refine ha (if x.kind=1\/x.kind=2 then X4 n (Zdo x.pattern) else (-1,n)) ?_ y ?_
  .split
   .exact (ZcR n _).1
   .rfl
  .have e:(if x.kind=1\/x.kind=2 then X4 n (Zdo x.pattern) else (-1,n)).2.nodes=n.nodes:=by
    split
    .exact (ZcR n _).1
    .rfl
   rw [e];exact my
theorem Zqk:∀(l:List Zf) (p:Int) (n:Ze),(∀y∈n.nodes,y.cond.pattern.args.length<=1048574)->(∀x∈l,x.pattern.args.length<=1048574)->∀y∈(YY l (p,n)).2.nodes,y.cond.pattern.args.length<=1048574
 | [],_,_,h,_=>h
 |x::l,p,n,h,hl=>by
  have e:YY (x::l) (p,n)=YY l ((ZV n p x).1,(ZV n p x).2):=rfl
  rw [e]
  exact Zqk l _ _ (ZuE h (hl x yG)) fun y my=>hl y (by simp [my])
theorem ZtV:∀(l:List Zl) (n:Ze),(∀y∈n.nodes,y.cond.pattern.args.length<=1048574)->(∀r∈l,SmN r)->∀y∈(l.foldl Xn n).nodes,y.cond.pattern.args.length<=1048574
 | [],_,h,_=>h
 |r::l,n,h,hl=>by
  rw [Ae]
  exact ZtV l _ (Zqk _ _ _ h (Zku (hl r yG))) fun r mr=>hl r (by simp [mr])
theorem ZoB {R:List Zl}(hl:R.length<=6) (h:∀r∈R,SmN r) (t:List Zs):Zgk (ZfX R t).nodes/\(∀i:Nat,i<(ZfX R t).nodes.length->(X5 (ZfX R t).nodes ((i:Nat):Int)).length<=4)/\(ZfX R t).alphas.length<=1000:=by
 obtain ⟨w1,w2,w3⟩:=Ztv R (ZaS R t) (Zll R t) fun r mr=>(h r mr).c4
 have e1:(ZaS R t).nodes.length=1:=rfl
 have e2:(ZaS R t).alphas.length=0:=rfl
 rw [e1]at w2
 rw [e2]at w3
 exact ⟨⟨w1.par,ZtV R (ZaS R t) (by simp [ZaS,ZvZ]) h,by show (R.foldl Xn (ZaS R t)).nodes.length<=_;omega⟩,w1.few,by show (R.foldl Xn (ZaS R t)).alphas.length<=_;omega⟩
theorem Ztc (R:List Zl) (F:List Zk) (z:Int) (hl:R.length<=6) (h:∀r∈R,XI r) (h':∀r∈R,SmN r) (hF:F.length<=24) (hA:∀f∈F,f.args.length<=3):Zjz R F z=some { ZkG (ZfX R []) F with tries:=z }:=by
 unfold Zjz
 obtain ⟨a1,a2,a3⟩:=ZoB hl h' []
 rw [ZmO R hl h h',A0,Zus _ _ a1 a2 hF hA a3,A0]
end
section
open Classical
theorem ZwI {α β:Type}{f:α->β}{a b:List α}{body:Nat->α->Unit->Option (Unit ⊕ Bool)}{fin:Unit->Option Bool}(h:a.length=b.length) (hb:∀i x y,a[i]?=some x->b[i]?=some y->(f x=f y->body i x ()=some (.inl ()))/\(f x≠f y->body i x ()=some (.inr false))):Zv body fin a 0 ()=if a.map f=b.map f then fin () else some false:=by
 have key:∀(l:List α) (i:Nat),a.drop i=l->Zv body fin l i ()=if l.map f=(b.drop i).map f then fin () else some false:=by
  intro l
  induction l with
  |nil=>
   intro i hi
   have hl:a.length<=i:=by
    have:=congrArg List.length hi
    simp at this;omega
   rw [List.drop_eq_nil_of_le (by omega:b.length<=i)]
   simp [Zv]
  |cons x l ih=>
   intro i hi
   have hl:i<a.length:=by
    have:=congrArg List.length hi
    simp at this;omega
   rw [Ai hl]at hi
   simp only[BP]at hi
   obtain ⟨hx,hi⟩:=hi
   have c:=hb i x b[i] (by rw [<-hx];exact AE hl) (AE yE)
   rw [Ai (by omega:i<b.length),Az,Az]
   by_cases e:f x=f b[i]
   .rw [ZK (s':=()) (c.1 e),ih (i+1) hi]
    by_cases e2:l.map f=(b.drop (i+1)).map f
    .rw [if_pos e2,if_pos (by rw [e,e2])]
    .rw [if_neg e2,if_neg fun h=>e2 (BR h).2]
   .rw [Ya (c.2 e),if_neg fun h=>e (BR h).1]
 have:=key a 0 yG
 simpa using this
theorem Y9 {α:Type}{q:Nat->α->Prop}{body:Nat->α->Unit->Option (Unit ⊕ Bool)}{fin:Unit->Option Bool}:∀(l:List α) (i:Nat),(∀(j:Nat) (x:α),l[j]?=some x->(q (i+j) x->body (i+j) x ()=some (.inl ()))/\(¬q (i+j) x->body (i+j) x ()=some (.inr false)))->
  Zv body fin l i ()=if (∀j x,l[j]?=some x->q (i+j) x) then fin () else some false
 | [],i,_=>by rw [if_pos (fun j x h=>by simp at h)];rfl
 |x::l,i,h=>by
  have h0:=h 0 x yG
  rw [Ay]at h0
  by_cases e:q i x
  .rw [ZK (s':=()) (h0.1 e),Y9 (q:=q) l (i+1) fun j y hy=>by
    have:=h (j+1) y (by simpa using hy)
    rw [show i+1+j=i+(j+1) by omega];exact this]
   by_cases e2:∀j y,l[j]?=some y->q (i+1+j) y
   .rw [if_pos e2,if_pos fun j y hy=>?_]
    cases j with
    |zero=>simp at hy;subst hy;exact e
    |succ j=>rw [show i+(j+1)=i+1+j by omega];exact e2 j y (by simpa using hy)
   .rw [if_neg e2,if_neg fun hh=>e2 fun j y hy=>by
     have:=hh (j+1) y (by simpa using hy)
     rw [show i+1+j=i+(j+1) by omega];exact this]
  .rw [Ya (h0.2 e),if_neg fun hh=>e (by simpa using hh 0 x yG)]
theorem ZDu {p q:Prop}[Decidable p] [Decidable q] [Decidable (p/\q)]:(if decide p=true then (some (bif decide q then .inl () else .inr false):Option (Unit ⊕ Bool)) else some (.inr false))=some (bif decide (p/\q) then .inl () else .inr false):=by
 by_cases hp:p<;>by_cases hq:q<;>simp [hp,hq]
theorem ZoK (a b:Z7):a=b↔a.shape=b.shape/\a.facts=b.facts:=⟨fun e=>by rw [e];exact ⟨rfl,rfl⟩,fun h=>by cases a;cases b;simp_all⟩
theorem Zqr (a b:ZL):a=b↔a.parent=b.parent/\a.cond=b.cond/\a.alpha=b.alpha/\a.tokens=b.tokens:=⟨fun e=>by rw [e];exact ⟨rfl,rfl,rfl,rfl⟩,fun h=>by cases a;cases b;simp_all⟩
def Zab (y:ZL):Int×Int×Zf:=(y.parent,y.alpha,y.cond)
theorem ZjE (a b:Ze):Zay a b=some (decide (a.rules=b.rules/\a.ends=b.ends/\a.facts=b.facts/\a.alphas=b.alphas/\a.nodes=b.nodes)):=by
 unfold Zay
 rw [Zgi,A0]
 by_cases h1:a.rules=b.rules
 rotate_left
 .rw [decide_eq_false h1,if_neg yG,decide_eq_false fun h=>h1 h.1]
 rw [decide_eq_true h1,if_pos rfl,ZeF,A0]
 by_cases h2:a.ends=b.ends
 rotate_left
 .rw [decide_eq_false h2,if_neg yG,decide_eq_false fun h=>h2 h.2.1]
 rw [decide_eq_true h2,if_pos rfl,Zb9,A0]
 by_cases h3:a.facts=b.facts
 rotate_left
 .rw [decide_eq_false h3,if_neg yG,decide_eq_false fun h=>h3 h.2.2.1]
 rw [decide_eq_true h3,if_pos rfl]
 by_cases h4:a.alphas.length=b.alphas.length
 rotate_left
 .rw [if_pos (Zer h4),decide_eq_false fun h=>h4 (by rw [h.2.2.2.1])]
 rw [if_neg (Zd0 h4)]
 by_cases h5:a.nodes.length=b.nodes.length
 rotate_left
 .rw [if_pos (Zer h5),decide_eq_false fun h=>h5 (by rw [h.2.2.2.2])]
 rw [if_neg (Zd0 h5),ZtJ h4 fun i x y hx hy=>by
  rw [Yk,hy,A0,Xp,A0,Zb9,A0,Zsi,ZDu]
  congr 2
  rw [AN,decide_eq_true_iff,decide_eq_true_iff,ZoK]]
 rw [Zkw h5 fun i x y hx hy=>by
  rw [Yk,hy,A0]
  by_cases e1:x.parent=y.parent
  rotate_left
  .rw [if_pos (by simpa using e1),decide_eq_false fun e=>e1 (by rw [e])];rfl
  rw [if_neg (by simp [e1])]
  by_cases e2:x.alpha=y.alpha
  rotate_left
  .rw [if_pos (by simpa using e2),decide_eq_false fun e=>e2 (by rw [e])];rfl
  rw [if_neg (by simp [e2]),ZcC,A0,Zgb,A0,Zsi,ZDu]
  congr 2
  rw [AN,decide_eq_true_iff,decide_eq_true_iff,Zqr]
  exact ⟨fun h=>⟨e1,h.1,e2,h.2⟩,fun h=>⟨h.2.1,h.2.2.2⟩⟩]
 by_cases h6:a.alphas=b.alphas
 .rw [if_pos h6]
  congr 2
  simp [h1,h2,h3,h6]
 .rw [if_neg h6,decide_eq_false fun h=>h6 h.2.2.2.1]
theorem ZkQ (a b:Ze):ZbI a b=some (decide (a.alphas.map (·.shape)=b.alphas.map (·.shape)/\a.nodes.map Zab=b.nodes.map Zab/\a.ends=b.ends)):=by
 unfold ZbI
 by_cases h4:a.alphas.length=b.alphas.length
 rotate_left
 .rw [if_pos (Zer h4),decide_eq_false fun h=>h4 (by have:=congrArg List.length h.1;simpa using this)]
 rw [if_neg (Zd0 h4)]
 by_cases h5:a.nodes.length=b.nodes.length
 rotate_left
 .rw [if_pos (Zer h5),decide_eq_false fun h=>h5 (by have:=congrArg List.length h.2.1;simpa using this)]
 rw [if_neg (Zd0 h5)]
 by_cases h6:a.ends.length=b.ends.length
 rotate_left
 .rw [if_pos (Zer h6),decide_eq_false fun h=>h6 (by rw [h.2.2])]
 rw [if_neg (Zd0 h6),ZwI (f:=(·.shape)) h4 fun i x y hx hy=>by
  rw [Yk,hy,A0,Qc,A0]
  exact ⟨fun e=>if_pos (decide_eq_true e),fun e=>if_neg (by simpa using e)⟩]
 by_cases e1:a.alphas.map (·.shape)=b.alphas.map (·.shape)
 rotate_left
 .rw [if_neg e1,decide_eq_false fun h=>e1 h.1]
 rw [if_pos e1,ZwI (f:=Zab) h5 fun i x y hx hy=>by
  rw [Yk,hy,A0,ZeU,A0]
  refine ⟨fun e=>?_,fun e=>?_⟩
  .have e1:x.parent=y.parent:=congrArg (·.1) e
   have e2:x.alpha=y.alpha:=congrArg (·.2.1) e
   have e3:x.cond=y.cond:=congrArg (·.2.2) e
   rw [if_neg (by simp [e1]),if_neg (by simp [e2]),if_pos (decide_eq_true e3)]
  .by_cases e1:x.parent=y.parent
   rotate_left
   .rw [if_pos (by simpa using e1)]
   by_cases e2:x.alpha=y.alpha
   rotate_left
   .rw [if_neg (by simp [e1]),if_pos (by simpa using e2)]
   rw [if_neg (by simp [e1]),if_neg (by simp [e2]),if_neg (by
    rw [decide_eq_true_iff]
    exact fun e3=>e (by unfold Zab;rw [e1,e2,e3]))]]
 by_cases e2:a.nodes.map Zab=b.nodes.map Zab
 rotate_left
 .rw [if_neg e2,decide_eq_false fun h=>e2 h.2.1]
 rw [if_pos e2,Zkw h6 fun i x y hx hy=>by
  rw [Yk,hy,A0]
  by_cases e:x=y
  .rw [if_neg (by simp [e])];simp [e]
  .rw [if_pos (by simpa using e)];simp [e]]
 congr 2
 simp [e1,e2]
end
section
open Classical
theorem Zw9 (t:List Zs) (n:Ze):(rt t n).nodes.map Zab=n.nodes.map Zab:=by
 unfold rt
 cases n.nodes<;>rfl
theorem Zlp {a b:List ZL}(h:a.map Zab=b.map Zab):a.map ZaW=b.map ZaW:=by
 have e:∀l:List ZL,l.map ZaW=(l.map Zab).map fun x=>(x.1,x.2.2):=fun l=>by
  rw [B9];rfl
 rw [e,e,h]
theorem Zsl (N:List ZL) (F:List Zk):(N.mapIdx (Zha N F)).map Zab=N.map Zab:=by
 refine AX fun i=>?_
 rw [AF,AF,AY]
 cases N[i]?<;>rfl
theorem Zxe (n N0:Ze) (t:List Zs) (F:List Zk):
  ((n.alphas.map (·.shape)=(rt t N0).alphas.map (·.shape)/\n.nodes.map Zab=(rt t N0).nodes.map Zab/\n.ends=(rt t N0).ends)/\(∀(j:Nat) (x:Z7),n.alphas[j]?=some x->x.facts=Qi x.shape [] F)/\(∀(j:Nat) (y:ZL),n.nodes[j]?=some y->y.tokens=Yn (X5 n.nodes ((j:Nat):Int)) F))↔
  (n.ends=(ZkG N0 F).ends/\n.alphas=(ZkG N0 F).alphas/\n.nodes=(ZkG N0 F).nodes):=by
 rw [Zw9]
 constructor
 .rintro ⟨⟨h1,h2,h3⟩,h4,h5⟩
  refine ⟨h3,AX fun i=>?_,AX fun i=>?_⟩
  .have e:(n.alphas.map (·.shape))[i]?=(N0.alphas.map (·.shape))[i]?:=by rw [h1];rfl
   rw [AF,AF]at e
   show _=(N0.alphas.map (Zjl F))[i]?
   rw [AF]
   cases hx:n.alphas[i]? with
   |none=>rw [hx]at e;cases hy:N0.alphas[i]? with
    |none=>rfl
    |some y=>rw [hy]at e;simp at e
   |some x=>rw [hx]at e;cases hy:N0.alphas[i]? with
    |none=>rw [hy]at e;simp at e
    |some y=>
     rw [hy]at e
     have e':x.shape=y.shape:=by simpa using e
     rw [AZ,(ZoK x (Zjl F y)).2 ⟨e',by rw [h4 i x hx,e'];rfl⟩]
  .have e:(n.nodes.map Zab)[i]?=(N0.nodes.map Zab)[i]?:=by rw [h2]
   rw [AF,AF]at e
   have hp:=Zf2 (Zlp h2) ((i:Nat):Int)
   show _=(N0.nodes.mapIdx (Zha N0.nodes F))[i]?
   rw [AY]
   cases hx:n.nodes[i]? with
   |none=>rw [hx]at e;cases hy:N0.nodes[i]? with
    |none=>rfl
    |some y=>rw [hy]at e;simp at e
   |some x=>rw [hx]at e;cases hy:N0.nodes[i]? with
    |none=>rw [hy]at e;simp at e
    |some y=>
     rw [hy]at e
     have e':Zab x=Zab y:=by simpa using e
     rw [AZ,(Zqr x (Zha N0.nodes F i y)).2 ⟨congrArg (·.1) e',congrArg (·.2.2) e',congrArg (·.2.1) e',by rw [h5 i x hx,hp];rfl⟩]
 .rintro ⟨h1,h2,h3⟩
  have hf:n.nodes.map Zab=N0.nodes.map Zab:=by
   rw [h3];exact Zsl N0.nodes F
  refine ⟨⟨?_,hf,h1⟩,fun j x hx=>?_,fun j y hy=>?_⟩
  .rw [h2]
   show (N0.alphas.map (Zjl F)).map _=N0.alphas.map _
   rw [B9];rfl
  .rw [h2]at hx
   have b:(N0.alphas.map (Zjl F))[j]?=some x:=hx
   rw [AF]at b
   obtain ⟨a,_,rfl⟩:=AD.1 b
   rfl
  .rw [Zf2 (Zlp hf)]
   rw [h3]at hy
   have c:(N0.nodes.mapIdx (Zha N0.nodes F))[j]?=some y:=hy
   rw [AY]at c
   obtain ⟨a,_,rfl⟩:=AD.1 c
   rfl
theorem Zlx:∀(l:List Zl) (n:Ze),(l.foldl Xn n).rules=n.rules
 | [],_=>rfl
 |r::l,n=>by
  rw [Ae,Zlx l]
  exact (Zka (Zcy r) 0 n).2.1
theorem Zss (R:List Zl) (t:List Zs):(ZfX R t).rules=R:=Zlx R (ZaS R t)
noncomputable def ZsA (n:Ze):Bool:=Yr n.rules&&XM n.facts&&decide (0<=n.tries)&&decide (n.ends=(ZkG (ZfX n.rules []) n.facts).ends/\n.alphas=(ZkG (ZfX n.rules []) n.facts).alphas/\n.nodes=(ZkG (ZfX n.rules []) n.facts).nodes)
theorem Zmw {F:List Zk}(h:XM F=true):F.length<=24/\∀f∈F,f.args.length<=3:=by
 obtain ⟨h1,h2⟩:=ZpY h
 refine ⟨h1,fun f mf=>?_⟩
 exact Zvi (h2 f mf)
theorem ZlG (n:Ze) (hR:∀r∈n.rules,XI r) (hS:Yr n.rules=true->∀r∈n.rules,SmN r):Zc5 n=some (ZsA n):=by
 unfold Zc5 ZsA
 rw [ZhX hR,A0]
 by_cases h1:Yr n.rules=true
 rotate_left
 .rw [if_neg h1,AL.2 h1];rfl
 rw [if_pos h1,Zh1,A0]
 by_cases h2:XM n.facts=true
 rotate_left
 .rw [if_neg h2,h1,AL.2 h2];rfl
 rw [if_pos h2]
 by_cases h3:0<=n.tries
 rotate_left
 .rw [if_neg (by simpa using h3),h1,h2,decide_eq_false h3];rfl
 obtain ⟨f1,f2⟩:=Zmw h2
 rw [if_pos (decide_eq_true h3),Ztc n.rules n.facts 0 (Zdt h1).1 hR (hS h1) f1 f2,A0,ZjE,A0,h1,h2,decide_eq_true h3]
 congr 1
 simp only[Ak]
 rw [AN,decide_eq_true_iff,decide_eq_true_iff]
 exact ⟨fun h=>⟨h.2.1,h.2.2.2.1,h.2.2.2.2⟩,fun h=>⟨(Zss _ _).symm,h.1,rfl,h.2.1,h.2.2⟩⟩
theorem Zmm (n:Ze) (hR:∀r∈n.rules,XI r) (hS:Yr n.rules=true->∀r∈n.rules,SmN r) (hF:n.facts.length<=1048576):Zdb n=some (ZsA n):=by
 unfold Zdb ZsA
 rw [Zji _ hR hS,A0]
 by_cases h1:Yr n.rules=true
 rotate_left
 .rw [if_neg h1,if_neg yG,AL.2 h1];rfl
 rw [if_pos h1,if_pos rfl,Zh9 _ hF,A0]
 by_cases h2:XM n.facts=true
 rotate_left
 .rw [if_neg h2,h1,AL.2 h2];rfl
 obtain ⟨f1,f2⟩:=Zmw h2
 have hl:=(Zdt h1).1
 have a:=Zxe n (ZfX n.rules []) [ZjK] n.facts
 rw [<-ZxC (fun r mr=>(hS h1 r mr).c4)]at a
 rw [if_pos h2,ZkQ,A0,h1,h2,Ak,Ak]
 by_cases h4:n.alphas.map (·.shape)=(ZfX n.rules [ZjK]).alphas.map (·.shape)/\n.nodes.map Zab=(ZfX n.rules [ZjK]).nodes.map Zab/\n.ends=(ZfX n.rules [ZjK]).ends
 rotate_left
 .rw [if_neg (by simpa using h4),decide_eq_false fun h=>h4 (a.2 h).1,BS]
 rw [if_pos (by simpa using h4)]
 by_cases h3:0<=n.tries
 rotate_left
 .rw [if_pos (by simp;omega),decide_eq_false h3];rfl
 rw [if_neg (by simp;omega),decide_eq_true h3,Ak]
 obtain ⟨b1,b2,b3⟩:=ZoB hl (hS h1) [ZjK]
 have b:=Zlp h4.2.1
 have hN:=Zkx b b1
 have hlen:n.nodes.length=(ZfX n.rules [ZjK]).nodes.length:=by
  have:=congrArg List.length h4.2.1
  simpa using this
 rw [Y9 (q:=fun _ x=>x.facts=Qi x.shape [] n.facts) n.alphas 0 fun j x hx=>by
  rw [Zbm _ _ _ yG hF (fun f mf=>by have:=f2 f mf;omega),A0,Zje,A0]
  exact ⟨fun e=>if_pos (decide_eq_true e),fun e=>if_neg (by rw [decide_eq_true_iff];exact e)⟩]
 by_cases h5:∀(j:Nat) (x:Z7),n.alphas[j]?=some x->x.facts=Qi x.shape [] n.facts
 rotate_left
 .rw [if_neg h5,decide_eq_false fun h=>h5 (a.2 h).2.1]
 rw [if_pos h5,Y9 (q:=fun i y=>y.tokens=Yn (X5 n.nodes ((i:Nat):Int)) n.facts) n.nodes 0 fun j y hy=>by
  have hj:=(AJ.1 hy).1
  rw [AH,Zqg n hN j hj,A0,Znd _ _ (by rw [Zf2 b];exact b2 j yE) f1 f2,A0,ZiM,A0]
  exact ⟨fun e=>if_pos (decide_eq_true e),fun e=>if_neg (by rw [decide_eq_true_iff];exact e)⟩]
 simp only[AH]
 by_cases h6:∀(j:Nat) (y:ZL),n.nodes[j]?=some y->y.tokens=Yn (X5 n.nodes ((j:Nat):Int)) n.facts
 .rw [if_pos h6,decide_eq_true (a.1 ⟨h4,h5,h6⟩)]
 .rw [if_neg h6,decide_eq_false fun h=>h6 (a.2 h).2.2]
end
section
open Classical
theorem ZoC {α ρ:Type}{l:List α}{i:Nat}(hi:i<=l.length) {q:α->Prop}{body:Int->Option (Int ⊕ ρ)}{r1 r2:ρ}
  (a:∀(u:Nat) (x:α),u<i->l[u]?=some x->(q x->body ((u:Nat):Int)=some (.inr r1))/\(¬q x->body ((u:Nat):Int)=some (.inl (((u+1:Nat)):Int))))
  (c:body ((i:Nat):Int)=some (.inr r2)):ZaT body 0=some (if ∃y∈l.take i,q y then r1 else r2):=by
 have key:∀(m u:Nat),u+m=i->(∀y∈l.take u,¬q y)->ZaT body ((u:Nat):Int)=some (if ∃y∈l.take i,q y then r1 else r2):=by
  intro m
  induction m with
  |zero=>
   intro u hu b
   have e:u=i:=by omega
   subst e
   rw [ZaN c,if_neg fun ⟨y,my,hy⟩=>b y my hy]
  |succ m ih=>
   intro u hu b
   have hx:l[u]?=some l[u]:=AE yE
   obtain ⟨h1,h2⟩:=a u _ yE hx
   by_cases hq:q l[u]
   .rw [ZaN (h1 hq),if_pos ⟨l[u],List.mem_take_iff_getElem.2 ⟨u,yE,rfl⟩,hq⟩]
   .rw [ZdA (h2 hq)]
    refine ih (u+1) yE fun y my=>?_
    rw [Au,hx,AB]at my
    rcases my with my|my
    .exact b y my
    .simp at my;subst my;exact hq
 exact key i 0 yE yG
theorem ZvC {m:List (Int×Bool)}{k y:Int}:Za2 (Zft m k true) y false=if y=k then true else Za2 m y false:=by
 unfold Za2
 induction m with
 |nil=>
  by_cases h:y=k<;>simp [Zft,Zd4,h]
 |cons p r ih=>
  simp only[Zft]
  by_cases h:k=p.1
  .subst h
   rw [if_pos rfl]
   by_cases h2:y=p.1
   .simp [Zd4,h2]
   .simp [Zd4,h2]
  .rw [if_neg h]
   by_cases h2:y=p.1
   .subst h2
    have:¬p.1=k:=fun e=>h e.symm
    simp [Zd4,this]
   .simp only[Zd4,if_neg h2];exact ih
theorem ZjQ (l:List Z2) (hl:l.length<=1048576) (h:∀x∈l,x.fact.args.length<=1048576):Zbq l=some (l.map (·.fact)):=by
 unfold Zbq
 rw [Xs (g:=(·.fact))]
 .simp
 .intro j x s mx hs
  rw [Za0 _ (h x mx),A0,Zr _ (by simp at hs;omega)]
theorem ZjN (l:List Z2) (hl:l.length<=1048576) (h:∀x∈l,x.fact.args.length<=1048576):ZdG l=some (l.map (·.fact)):=by
 unfold ZdG
 rw [Xs (g:=(·.fact))]
 .simp
 .intro j x s mx hs
  rw [ZeJ _ (h x mx),A0,Zr _ (by simp at hs;omega)]
def Zly (l:List Z2) (i:Nat) (x:Z2):Prop:=(1<=x.time/\x.time<=200)/\∀y∈l.take i,y.time≠x.time
noncomputable def ZsP (l:List Z2):Bool:=if (∀(j:Nat) (x:Z2),l[j]?=some x->Zly l j x) then XM (l.map (·.fact)) else false
theorem Zne (l:List Z2) (hl:l.length<=1048576) (h:∀x∈l,x.fact.args.length<=1048576):ZdQ l=some (ZsP l):=by
 unfold ZdQ ZsP
 rw [Y9 (q:=Zly l) l 0 fun j x hx=>?_]
 .simp only[AH]
  split
  .rw [ZjN l hl h,A0,Zh9 _ (by simpa using hl)];rfl
  .rfl
 .have hj:=(AJ.1 hx).1
  rw [AH,QP,A0]
  by_cases ht:1<=x.time/\x.time<=200
  .rw [if_pos (by simpa using ht),ZoC (l:=l) (i:=j) yE (q:=fun y=>y.time=x.time) (r1:=.inr false) (r2:=.inl ()) (fun u y hu hy=>by
    rw [if_pos (by simpa using hu),Yk,hy,A0]
    refine ⟨fun e=>if_pos (by simpa using e),fun e=>?_⟩
    rw [if_neg (by simpa using e),ZaL yE yE]
    rfl) (by rw [if_neg yG])]
   refine ⟨fun hq=>by rw [if_neg fun ⟨y,my,e⟩=>hq.2 y my e],fun hq=>by rw [if_pos (Classical.byContradiction fun a=>hq ⟨ht,fun y my e=>a ⟨y,my,e⟩⟩)]⟩
  .rw [if_neg (by simpa using ht)]
   exact ⟨fun hq=>absurd hq.1 ht,fun _=>rfl⟩
theorem Znm (l:List Z2) (hl:l.length<=1048576) (h:∀x∈l,x.fact.args.length<=1048576):ZdK l=some (ZsP l):=by
 unfold ZdK ZsP
 have key:∀(r a:List Z2) (mp:List (Int×Bool)),l=a++r->(∀k,Za2 mp k false=true↔∃y∈a,y.time=k)->
   Zv (σ:=(List (Int×Bool)))
  (fun (i7:Nat) (x8:Z2) b=>
   if (decide (x8.time<1))=true then
    some (.inr false)
   else
    if (decide (200<x8.time))=true then
     some (.inr false)
    else
     if (Za2 b x8.time false)=true then
      some (.inr false)
     else
      some (.inl (Zft b x8.time true)))
  (fun b=>
   (Zbq l).bind fun v9=>
   (Zbi v9).bind fun g=>
   some g)
  r a.length mp=if (∀(j:Nat) (x:Z2),r[j]?=some x->Zly l (a.length+j) x) then some (XM (l.map (·.fact))) else some false:=by
  intro r
  induction r with
  |nil=>
   intro a mp _ _
   rw [if_pos fun j x hx=>by simp at hx]
   show (Zbq l).bind _=_
   rw [ZjQ l hl h,A0,Zh1];rfl
  |cons x r ih=>
   intro a mp e d
   have c:l.take a.length=a:=by rw [e];simp
   by_cases hq:Zly l a.length x
   .have i:=hq
    obtain ⟨⟨q1,q2⟩,q3⟩:=i
    rw [c]at q3
    have f:¬Za2 mp x.time false=true:=fun hh=>by
     obtain ⟨y,my,e⟩:=(d _).1 hh
     exact q3 y my e
    rw [ZK (s':=Zft mp x.time true) (by rw [if_neg (by simp;omega),if_neg (by simp;omega),if_neg f])]
    have:=ih (a++[x]) (Zft mp x.time true) (by rw [e];simp) fun k=>by
     rw [ZvC]
     by_cases hk:k=x.time
     .subst hk;simp
     .rw [if_neg hk,d]
      constructor
      .rintro ⟨y,my,ey⟩;exact ⟨y,by simp [my],ey⟩
      .rintro ⟨y,my,ey⟩
       rcases AB.1 my with my|my
       .exact ⟨y,my,ey⟩
       .exfalso
        rw [List.mem_singleton]at my
        exact hk (by rw [<-ey,my])
    rw [Ah,BK]at this
    rw [this]
    by_cases e2:∀(j:Nat) (y:Z2),r[j]?=some y->Zly l (a.length+1+j) y
    .rw [if_pos e2,if_pos fun j y hy=>?_]
     cases j with
     |zero=>simp at hy;subst hy;exact hq
     |succ j=>rw [show a.length+(j+1)=a.length+1+j by omega];exact e2 j y (by simpa using hy)
    .rw [if_neg e2,if_neg fun hh=>e2 fun j y hy=>by
      have:=hh (j+1) y (by simpa using hy)
      rw [show a.length+1+j=a.length+(j+1) by omega];exact this]
   .rw [if_neg fun hh=>hq (by simpa using hh 0 x yG)]
    refine Ya ?_
    by_cases h1:x.time<1
    .rw [if_pos (by simpa using h1)]
    rw [if_neg (by simpa using h1)]
    by_cases h2:200<x.time
    .rw [if_pos (by simpa using h2)]
    rw [if_neg (by simpa using h2),if_pos]
    refine (d _).2 (Classical.byContradiction fun f=>hq ⟨⟨yE,yE⟩,fun y my e=>f ⟨y,?_,e⟩⟩)
    rw [c]at my;exact my
 have:=key l [] [] rfl (fun k=>by simp [Za2,Zd4])
 simp only[Aq,AH]at this
 rw [this]
 split<;>rfl
theorem ZoA {R:List Zl}{n:ByteArray}(h:¬ZeT R n<0):∃r,atI R (ZeT R n)=some r:=by
 have key:∀(l:List Zl) (i:Nat),∃z,Zv (σ:=Unit) (ρ:=Int) (fun (i4:Nat) (x5:Zl) _=>if (sEq x5.name n)=true then some (.inr ((i4:Nat):Int)) else some (.inl ())) (fun _=>some (-1)) l i ()=some z/\(z<0\/∃(j:Nat) (r:Zl),z=((i+j:Nat):Int)/\l[j]?=some r):=by
  intro l
  induction l with
  |nil=>intro i;exact ⟨-1,rfl,.inl yE⟩
  |cons x l ih=>
   intro i
   by_cases hx:sEq x.name n=true
   .exact ⟨_,Ya (by rw [if_pos hx]),.inr ⟨0,x,yG,rfl⟩⟩
   .obtain ⟨z,e,hz⟩:=ih (i+1)
    refine ⟨z,(ZK (s':=()) (by rw [if_neg hx])).trans e,hz.imp id ?_⟩
    rintro ⟨j,r,e1,e2⟩
    exact ⟨j+1,r,by rw [e1];congr 1;omega,by simpa using e2⟩
 obtain ⟨z,e,hz⟩:=key R 0
 have e2:QB R n=some z:=e
 rw [ZcJ]at e2
 obtain rfl:=Ad e2
 rcases hz with hz|⟨j,r,e1,e3⟩
 .exact absurd hz h
 .rw [AH]at e1
  rw [e1,Yk]
  exact ⟨r,e3⟩
def ZyF (r:Zl):Int:=r.cond.foldl (fun s x=>if (x.kind==1)=true then IntKind.i64.wrap (s+1) else s) 0
theorem Zqf {ρ:Type}(r:Zl) {fin:Int->Option ρ}:Zv (σ:=Int) (fun (_:Nat) (x:Zf) n_5=>if (x.kind==1)=true then some (.inl (IntKind.i64.wrap (n_5+1))) else some (.inl n_5)) fin r.cond 0 0=fin (ZyF r):=by
 refine ZsH (f:=fun (s:Int) (x:Zf)=>if (x.kind==1)=true then IntKind.i64.wrap (s+1) else s) fun j x s _=>?_
 by_cases h:(x.kind==1)=true
 .rw [if_pos h,if_pos h]
 .rw [if_neg h,if_neg h]
noncomputable def Zsb (e:Yq) (f:ZX):Bool:=decide (∃r,¬ZeT e.rules f.rule<0/\atI e.rules (ZeT e.rules f.rule)=some r/\((f.times.length:Nat):Int)=ZyF r/\∀(j:Nat) (t:Int),f.times[j]?=some t->1<=t/\t<=e.clock)
theorem Zk5 (e:Yq) (f:ZX):ZbU e f=some (Zsb e f):=by
 unfold ZbU Zsb
 rw [ZcJ,A0]
 by_cases h0:ZeT e.rules f.rule<0
 .rw [if_pos (decide_eq_true h0),decide_eq_false fun ⟨r,h,_⟩=>h h0]
 rw [if_neg (by simpa using h0)]
 obtain ⟨r,hr⟩:=ZoA h0
 rw [hr,A0,Zqf,Y9 (q:=fun _ t=>1<=t/\t<=e.clock) f.times 0 fun j t ht=>by
  refine ⟨fun hq=>?_,fun hq=>?_⟩
  .rw [if_neg (by simp;omega),if_neg (by simp;omega)]
  .by_cases h1:t<1
   .rw [if_pos (by simpa using h1)]
   .rw [if_neg (by simpa using h1),if_pos (by simp;omega)]]
 by_cases h1:∀(j:Nat) (t:Int),f.times[j]?=some t->1<=t/\t<=e.clock
 .rw [if_pos h1]
  congr 1
  rw [AN,beq_iff_eq,decide_eq_true_iff]
  constructor
  .intro hh;exact ⟨r,h0,rfl,hh,h1⟩
  .rintro ⟨r',_,e1,hh,_⟩
   obtain rfl:=Ad e1
   exact hh
 .rw [if_neg h1,decide_eq_false fun ⟨_,_,_,_,hh⟩=>h1 hh]
theorem Zmi (e:Yq) (f:ZX):ZcN e f=some (Zsb e f):=by
 unfold ZcN Zsb
 rw [ZhM,A0]
 by_cases h0:ZeT e.rules f.rule<0
 .rw [if_pos (decide_eq_true h0),decide_eq_false fun ⟨r,h,_⟩=>h h0]
 rw [if_neg (by simpa using h0)]
 obtain ⟨r,hr⟩:=ZoA h0
 have hc:Zi9 r=some (ZyF r):=Zqf r
 rw [hr,A0,hc,A0]
 by_cases h2:((f.times.length:Nat):Int)=ZyF r
 rotate_left
 .rw [if_pos (by simpa using h2),decide_eq_false]
  rintro ⟨r',_,e1,hh,_⟩
  obtain rfl:=Ad e1
  exact h2 hh
 rw [if_neg (by simpa using h2),Y9 (q:=fun _ t=>1<=t/\t<=e.clock) f.times 0 fun j t ht=>by
  rw [QP,A0]
  exact ⟨fun hq=>by rw [if_pos (by simpa using hq)],fun hq=>by rw [if_neg (by simpa using hq)]⟩]
 by_cases h1:∀(j:Nat) (t:Int),f.times[j]?=some t->1<=t/\t<=e.clock
 .rw [if_pos h1,decide_eq_true ⟨r,h0,rfl,h2,h1⟩]
 .rw [if_neg h1,decide_eq_false fun ⟨_,_,_,_,hh⟩=>h1 hh]
def Zlb (a b:ZX):Prop:=a.rule=b.rule/\a.times=b.times
theorem Zk6 (a b:ZX):∃c,ZbD a b=some c/\(c=true↔Zlb a b):=by
 unfold ZbD Zlb
 by_cases h:a.rule=b.rule
 .rw [if_pos (Zz.2 h),ZeF,A0]
  refine ⟨_,rfl,?_⟩
  rw [decide_eq_true_iff]
  exact ⟨fun e=>⟨h,e⟩,fun e=>e.2⟩
 .rw [if_neg (by rw [Zz];exact h)]
  exact ⟨false,rfl,by simp [h]⟩
theorem Zm3 (l:List ZX) (c:Zht):Zel l c=some (decide (∃y∈l,y.rule=c.mtch.rule/\y.times=c.times)):=by
 unfold Zel
 have key:∀(l:List ZX) (i:Nat),Zv (σ:=Unit)
  (fun (i6:Nat) (x7:ZX) _=>
   if (sEq x7.rule c.mtch.rule)=true then
    (ZaD x7.times c.times).bind fun v8=>
    if v8=true then
     some (.inr true)
    else
     some (.inl ())
   else
    some (.inl ()))
  (fun _=>
   some false)
  l i ()=some (decide (∃y∈l,y.rule=c.mtch.rule/\y.times=c.times)):=by
  intro l
  induction l with
  |nil=>intro i;simp [Zv]
  |cons x l ih=>
   intro i
   by_cases hq:x.rule=c.mtch.rule/\x.times=c.times
   .rw [Ya (r:=true),decide_eq_true ⟨x,yG,hq⟩]
    rw [if_pos (Zz.2 hq.1)]
    have e:ZaD x.times c.times=some (decide (x.times=c.times)):=ZeF _ _
    rw [e,A0,if_pos (decide_eq_true hq.2)]
   .rw [ZK (s':=()),ih]
    .congr 1
     rw [AN,decide_eq_true_iff,decide_eq_true_iff]
     constructor
     .rintro ⟨y,my,h⟩;exact ⟨y,by simp [my],h⟩
     .rintro ⟨y,my,h⟩
      rcases AR.1 my with rfl|my
      .exact absurd h hq
      .exact ⟨y,my,h⟩
    .by_cases h1:x.rule=c.mtch.rule
     .have e:ZaD x.times c.times=some (decide (x.times=c.times)):=ZeF _ _
      rw [if_pos (Zz.2 h1),e,A0,if_neg (by rw [decide_eq_true_iff];exact fun e=>hq ⟨h1,e⟩)]
     .rw [if_neg (by rw [Zz];exact h1)]
 exact key l 0
theorem ZqW (x:Y3):∃b,QM x=some b/\Zcl x=some b:=by
 have e:Zcl x=QM x:=by
  unfold QM Zcl
  simp only[ZeE,ZgS,Zdf,Zew]
 rw [e]
 have:∃b,QM x=some b:=by
  unfold QM
  simp only[ZeE,Zdf,A0]
  repeat' split
  all_goals exact ⟨_,rfl⟩
 obtain ⟨b,hb⟩:=this
 exact ⟨b,hb,hb⟩
end
section
open Classical
noncomputable def evB (x:Y3):Bool:=(QM x).getD false
theorem ZEC (x:Y3):QM x=some (evB x):=by
 obtain ⟨b,h,_⟩:=ZqW x
 unfold evB
 rw [h];rfl
theorem ZE1 (x:Y3):Zcl x=some (evB x):=by
 obtain ⟨b,h,h2⟩:=ZqW x
 unfold evB
 rw [h,h2];rfl
def Zw0 (e:Yq) (i:Nat) (x:ZX):Prop:=Zsb e x=true/\¬∃y∈e.fired.take i,Zlb y x
noncomputable def ZsX (e:Yq):Bool:=
 if Yr e.rules=true then if ZsP e.memory=true then if 0<=e.clock/\e.clock<=200 then if e.fired.length<=40 then if e.log.length<=500 then
 if (∀(j:Nat) (x:Z2),e.memory[j]?=some x->x.time<=e.clock) then if (∀(j:Nat) (x:ZX),e.fired[j]?=some x->Zw0 e j x) then if (∀(j:Nat) (x:Y3),e.log[j]?=some x->evB x=true) then true
 else false else false else false else false else false else false else false else false
structure SmE (e:Yq):Prop where
 rs:∀r∈e.rules,XI r
 ml:e.memory.length<=1048576
 ma:∀x∈e.memory,x.fact.args.length<=1048576
theorem ZnU (e:Yq) (h:SmE e):Zee e=some (ZsX e):=by
 unfold Zee ZsX
 rw [ZhX h.rs,A0]
 by_cases h1:Yr e.rules=true
 rotate_left
 .rw [if_neg h1,if_neg h1]
 rw [if_pos h1,if_pos h1,Znm _ h.ml h.ma,A0]
 by_cases h2:ZsP e.memory=true
 rotate_left
 .rw [if_neg h2,if_neg h2]
 rw [if_pos h2,if_pos h2]
 by_cases h3:0<=e.clock/\e.clock<=200
 rotate_left
 .rw [if_neg h3]
  by_cases a:e.clock<0
  .rw [if_pos (by simpa using a)]
  .rw [if_neg (by simpa using a),if_pos (by simp;omega)]
 rw [if_pos h3,if_neg (by simp;omega),if_neg (by simp;omega)]
 by_cases h4:e.fired.length<=40
 rotate_left
 .rw [if_neg h4,if_pos (by simp;omega)]
 rw [if_pos h4,if_neg (by simp;omega)]
 by_cases h5:e.log.length<=500
 rotate_left
 .rw [if_neg h5,if_pos (by simp;omega)]
 rw [if_pos h5,if_neg (by simp;omega),Y9 (q:=fun _ x=>x.time<=e.clock) e.memory 0 fun j x _=>by
  refine ⟨fun hq=>by rw [if_neg (by simpa using hq)],fun hq=>by rw [if_pos (by simpa using hq)]⟩]
 by_cases h6:∀(j:Nat) (x:Z2),e.memory[j]?=some x->x.time<=e.clock
 rotate_left
 .rw [if_neg h6,if_neg h6]
 rw [if_pos h6,if_pos h6,Y9 (q:=Zw0 e) e.fired 0 fun j x hx=>by
  have hj:=(AJ.1 hx).1
  rw [AH,Zk5,A0]
  by_cases hf:Zsb e x=true
  rotate_left
  .rw [if_neg hf]
   exact ⟨fun hq=>absurd hq.1 hf,fun _=>rfl⟩
  rw [if_pos hf,ZoC (l:=e.fired) (i:=j) yE (q:=fun y=>Zlb y x) (r1:=.inr false) (r2:=.inl ()) (fun u y hu hy=>by
    obtain ⟨c,hc,b⟩:=Zk6 y x
    rw [if_pos (by simpa using hu),Yk,hy,A0,hc,A0]
    refine ⟨fun e=>if_pos (b.2 e),fun e=>?_⟩
    rw [if_neg fun h=>e (b.1 h),ZaL yE yE]
    rfl) (by rw [if_neg yG])]
  exact ⟨fun hq=>by rw [if_neg hq.2],fun hq=>by rw [if_pos (Classical.byContradiction fun d=>hq ⟨hf,d⟩)]⟩]
 simp only[AH]
 by_cases h7:∀(j:Nat) (x:ZX),e.fired[j]?=some x->Zw0 e j x
 rotate_left
 .rw [if_neg h7,if_neg h7]
 rw [if_pos h7,if_pos h7,Y9 (q:=fun _ x=>evB x=true) e.log 0 fun j x _=>by
  rw [ZEC,A0]
  exact ⟨fun hq=>if_pos hq,fun hq=>if_neg hq⟩]
 split<;>rfl
theorem Zm7 (e:Yq) (h:SmE e):Zeg e=some (ZsX e):=by
 unfold Zeg ZsX
 rw [ZhR h.rs,A0]
 by_cases h1:Yr e.rules=true
 rotate_left
 .rw [if_neg h1,if_neg h1]
 rw [if_pos h1,if_pos h1,Zne _ h.ml h.ma,A0]
 by_cases h2:ZsP e.memory=true
 rotate_left
 .rw [if_neg h2,if_neg h2]
 rw [if_pos h2,if_pos h2,QP,A0]
 by_cases h3:0<=e.clock/\e.clock<=200
 rotate_left
 .rw [if_neg h3,if_neg (by simpa using h3)]
 rw [if_pos h3,if_pos (by simpa using h3)]
 by_cases h4:e.fired.length<=40
 rotate_left
 .rw [if_neg h4,if_pos (by simp;omega)]
 rw [if_pos h4,if_neg (by simp;omega)]
 by_cases h5:e.log.length<=500
 rotate_left
 .rw [if_neg h5,if_pos (by simp;omega)]
 rw [if_pos h5,if_neg (by simp;omega),Y9 (q:=fun _ x=>x.time<=e.clock) e.memory 0 fun j x _=>by
  refine ⟨fun hq=>by rw [if_neg (by simpa using hq)],fun hq=>by rw [if_pos (by simpa using hq)]⟩]
 by_cases h6:∀(j:Nat) (x:Z2),e.memory[j]?=some x->x.time<=e.clock
 rotate_left
 .rw [if_neg h6,if_neg h6]
 rw [if_pos h6,if_pos h6,Y9 (q:=Zw0 e) e.fired 0 fun j x hx=>by
  have hj:=(AJ.1 hx).1
  rw [AH,Zmi,A0]
  by_cases hf:Zsb e x=true
  rotate_left
  .rw [if_neg hf]
   exact ⟨fun hq=>absurd hq.1 hf,fun _=>rfl⟩
  rw [if_pos hf,Zr _ yE,Zm3,A0,List.drop_zero]
  exact ⟨fun hq=>if_neg (by rw [decide_eq_true_iff];exact hq.2),fun hq=>if_pos (by rw [decide_eq_true_iff];exact Classical.byContradiction fun a=>hq ⟨hf,a⟩)⟩]
 simp only[AH]
 by_cases h7:∀(j:Nat) (x:ZX),e.fired[j]?=some x->Zw0 e j x
 rotate_left
 .rw [if_neg h7,if_neg h7]
 rw [if_pos h7,if_pos h7,Y9 (q:=fun _ x=>evB x=true) e.log 0 fun j x _=>by
  rw [ZE1,A0]
  exact ⟨fun hq=>if_pos hq,fun hq=>if_neg hq⟩]
 split<;>rfl
theorem Zwr {r:Zl}(h:Yl r<=1048576) (hr:Zba r=true):SmN r:=by
 simp only[Yl]at h
 have a:=ZrT hr
 refine ⟨a.1,fun x mx=>?_⟩
 have ht:1<=r.thn.length:=by
  unfold Zba at hr
  simp only[AO,decide_eq_true_iff]at hr
  omega
 have h1:r.cond.length+(r.cond.map Yo).sum<=1048575:=by
  unfold Y1 Yv at h
  omega
 have hc:1<=r.cond.length:=List.length_pos_of_mem mx
 have h2:=ZtS (List.mem_map_of_mem (f:=Yo) mx)
 simp only[Yo,Z1,XU]at h2
 omega
noncomputable def ZtI (d:ZaQ):Bool:=ZsX d.engine&&ZsA d.network&&decide (d.engine.rules=d.network.rules)&&decide (d.network.facts=d.engine.memory.map (·.fact))
structure SmD (d:ZaQ):Prop where
 e:SmE d.engine
 r:∀r∈d.network.rules,XI r
 n:Yr d.network.rules=true->∀r∈d.network.rules,SmN r
 f:d.network.facts.length<=1048576
theorem Zqz (d:ZaQ) (h:SmD d):Zfv d=some (ZtI d):=by
 unfold Zfv ZtI
 rw [ZnU _ h.e,A0]
 by_cases h1:ZsX d.engine=true
 rotate_left
 .rw [if_neg h1,AL.2 h1];rfl
 rw [if_pos h1,ZlG _ h.r h.n,A0]
 by_cases h2:ZsA d.network=true
 rotate_left
 .rw [if_neg h2,h1,AL.2 h2];rfl
 rw [if_pos h2,Zgi,A0]
 by_cases h3:d.engine.rules=d.network.rules
 rotate_left
 .rw [decide_eq_false h3,if_neg yG,h1,h2];rfl
 rw [if_pos (decide_eq_true h3),ZjQ _ h.e.ml h.e.ma,A0,Zb9,A0,h1,h2,decide_eq_true h3]
 rfl
theorem ZrJ (d:ZaQ) (h:SmD d):ZfA d=some (ZtI d):=by
 unfold ZfA ZtI
 rw [Zm7 _ h.e,A0]
 by_cases h1:ZsX d.engine=true
 rotate_left
 .rw [if_neg h1,AL.2 h1];rfl
 rw [if_pos h1,Zmm _ h.r h.n h.f,A0]
 by_cases h2:ZsA d.network=true
 rotate_left
 .rw [if_neg h2,h1,AL.2 h2];rfl
 rw [if_pos h2,h1,h2]
 by_cases h3:d.engine.rules.length=d.network.rules.length
 rotate_left
 .rw [if_pos (Zer h3),Zwv h3];rfl
 rw [if_neg (Zd0 h3),ZjN _ h.e.ml h.e.ma,A0,Zje,A0]
 by_cases h4:d.network.facts=d.engine.memory.map (·.fact)
 rotate_left
 .rw [decide_eq_false h4,if_neg yG,BS]
 rw [if_pos (decide_eq_true h4),decide_eq_true h4,ZwI (f:=fun r=>r) h3 fun i x y hx hy=>by
  rw [Yk,hy,A0,Zns,A0]
  exact ⟨fun e=>if_pos (decide_eq_true e),fun e=>if_neg (by rw [decide_eq_true_iff];exact e)⟩]
 rw [Ao,Ao]
 by_cases h5:d.engine.rules=d.network.rules
 .rw [if_pos h5,decide_eq_true h5];rfl
 .rw [if_neg h5,decide_eq_false h5];rfl
theorem ZmC {d:ZaQ}(h:Qf d<=1048576):SmD d:=by
 simp only[Qf,YP,Yw]at h
 have b:d.engine.rules.length+(d.engine.rules.map Yl).sum<=1048576:=by unfold Yi at h;omega
 have a:d.network.rules.length+(d.network.rules.map Yl).sum<=1048576:=by unfold Yi at h;omega
 have hm:d.engine.memory.length+(d.engine.memory.map YR).sum<=1048576:=by unfold Y5 at h;omega
 have hf:d.network.facts.length<=1048576:=by unfold YQ at h;omega
 refine ⟨⟨fun r mr=>ZlS (Zfs (f:=Yl) b mr),yE,fun x mx=>?_⟩,fun r mr=>ZlS (Zfs (f:=Yl) a mr),fun hR r mr=>Zwr (Zfs (f:=Yl) a mr) ((Zdt hR).2 r mr),hf⟩
 have:=Zfs (f:=YR) hm mx
 simp only[YR,YL,XU]at this
 omega
theorem ZpR (aD:ZaQ) (cz:Qf aD<=1048576) (_:Zsu aD):∃r,ZfA aD=some r/\Zfv aD=some r:=
 ⟨_,ZrJ aD (ZmC cz),Zqz aD (ZmC cz)⟩
end
section
open Go.RowKit
def ZD {α β:Type}(R:α->β->Prop):List α->List β->Prop
 | [],[]=>True
 |a::l,b::r=>R a b/\ZD R l r
 |_,_=>False
section
variable {α β:Type} {R R':α->β->Prop}
theorem ZD.len:∀{l:List α}{r:List β},ZD R l r->l.length=r.length
 | [],[],_=>rfl
 |_::_,_::_,h=>by simp [h.2.len]
 | [],_::_,h=>h.elim
 |_::_,[],h=>h.elim
theorem ZD.mono:∀{l:List α}{r:List β},ZD R l r->(∀a b,a∈l->R a b->R' a b)->ZD R' l r
 | [],[],_,_=>trivial
 |_::_,_::_,h,f=>⟨f _ _ yG h.1,h.2.mono fun a b m=>f a b (by simp [m])⟩
 | [],_::_,h,_=>h.elim
 |_::_,[],h,_=>h.elim
theorem ZD.at:∀{l:List α}{r:List β}{i:Nat}{a:α},ZD R l r->l[i]?=some a->∃b,r[i]?=some b/\R a b
 | [],[],_,_,_,h=>by simp at h
 |_::_,b::_,0,_,h,e=>by simp at e;subst e;exact ⟨b,yG,h.1⟩
 |_::_,_::_,i+1,a,h,e=>by
  obtain ⟨b,h1,h2⟩:=h.2.at (i:=i) (a:=a) (by simpa using e)
  exact ⟨b,by simpa using h1,h2⟩
 | [],_::_,_,_,h,_=>h.elim
 |_::_,[],_,_,h,_=>h.elim
theorem ZD.set:∀{l:List α}{r:List β}{i:Nat}{a:α}{b:β},ZD R l r->R a b->ZD R (l.set i a) (r.set i b)
 | [],[],_,_,_,_,_=>trivial
 |_::_,_::_,0,_,_,h,e=>⟨e,h.2⟩
 |_::_,_::_,_+1,_,_,h,e=>⟨h.1,h.2.set e⟩
 | [],_::_,_,_,_,h,_=>h.elim
 |_::_,[],_,_,_,h,_=>h.elim
theorem ZD.drop:∀{l:List α}{r:List β}(n:Nat),ZD R l r->ZD R (l.drop n) (r.drop n)
 |_,_,0,h=>by simpa using h
 | [],[],n+1,_=>by simp [ZD]
 |_::_,_::_,n+1,h=>by simpa using h.2.drop n
 | [],_::_,_+1,h=>h.elim
 |_::_,[],_+1,h=>h.elim
theorem ZD.take:∀{l:List α}{r:List β}(n:Nat),ZD R l r->ZD R (l.take n) (r.take n)
 |_,_,0,h=>by simp [ZD]
 | [],[],n+1,_=>by simp [ZD]
 |_::_,_::_,n+1,h=>by simpa using ⟨h.1,h.2.take n⟩
 | [],_::_,_+1,h=>h.elim
 |_::_,[],_+1,h=>h.elim
theorem ZD.append:∀{l l':List α}{r r':List β},ZD R l r->ZD R l' r'->ZD R (l++l') (r++r')
 | [],_,[],_,_,h=>h
 |_::_,_,_::_,_,h,h'=>⟨h.1,h.2.append h'⟩
 | [],_,_::_,_,h,_=>h.elim
 |_::_,_,[],_,h,_=>h.elim
end
class NW where
 B0:Nat
structure Gh where
 val:Nat->Value
 O:Nat->List Nat
 D:Nat->List Nat
 Z:Nat->Prop
def Gh.own (g:Gh) (b:Nat):Prop:=(∃k,b∈g.O k)\/g.Z b
def Gh.low (g:Gh) (b:Nat):Prop:=g.own b\/∃k,b∈g.D k
structure X7 (g g':Gh) (n:Nat):Prop where
 own:∀b,g'.own b->g.own b\/n<=b
 low:∀b,g'.low b->g.low b\/n<=b
structure XF (g' g:Gh):Prop where
 own:∀b,g'.own b->g.own b
 low:∀b,g'.low b->g.low b
theorem X7.refl (g:Gh) (n:Nat):X7 g g n:=⟨fun _ h=>.inl h,fun _ h=>.inl h⟩
theorem XF.refl (g:Gh):XF g g:=⟨fun _ h=>h,fun _ h=>h⟩
theorem XF.trans {a b c:Gh}(h:XF a b) (k:XF b c):XF a c:=⟨fun x hx=>k.own x (h.own x hx),fun x hx=>k.low x (h.low x hx)⟩
theorem XF.grow {g' g:Gh}(h:XF g' g) (n:Nat):X7 g g' n:=⟨fun x hx=>.inl (h.own x hx),fun x hx=>.inl (h.low x hx)⟩
theorem XF.of {g' g:Gh}(h:∀b,g'.own b->g.own b) (k:∀j b,b∈g'.D j->∃i,b∈g.D i):XF g' g:=⟨h,fun x hx=>hx.imp (h x) fun ⟨j,mj⟩=>k j x mj⟩
theorem X7.of {g g':Gh}{n:Nat}(h:∀b,g'.own b->g.own b\/n<=b) (k:∀j b,b∈g'.D j->g.low b\/n<=b):X7 g g' n:=⟨h,fun x hx=>by
 rcases hx with hx|⟨j,mj⟩
 .exact (h x hx).imp (fun q=>.inl q) id
 .exact k j x mj⟩
structure ZaA extends World where
 z:Nat->Prop
 x:Nat->Prop
 hv:Option Value
 y:Nat->Prop:=fun _=>False
structure Bel (W:ZaA) (w:World):Prop where
 os:w.os=W.os
 tape:w.tape=W.tape
 output:w.output=W.output
 size:W.heap.size<=w.heap.size
 block:∀k,k<W.heap.size->¬W.x k->w.heap[k]?=W.heap[k]?
theorem Bel.trans {W:ZaA}{w w':World}(h:Bel W w) (k:Below w.heap.size w w'):Bel W w':=
 ⟨k.os.trans h.os,k.tape.trans h.tape,k.output.trans h.output,BB h.size k.size,fun i hi hx=>(k.block i (BT hi h.size)).trans (h.block i hi hx)⟩
def NR [NW] (g:Gh) (w:World) (x:CT) (v:Value):Prop:=
 ∃e m xs cs L,x=.sl e m xs/\0<m/\w.ownsV 0 e m v xs.length cs/\REs w m xs cs L/\(v.ownBlock.toList++L).Nodup/\∀b∈v.ownBlock.toList++L,¬g.low b/\NW.B0<=b/\∃cur t,w.heap[b]?=some (.cells cur t (0,0))
def AVR [NW] (g:Gh) (w:World):AV->Value->Prop
 |.c x,v=>∃L,RC w x v L/\∀b∈L,¬g.own b
 |.n x,v=>NR g w x v
 |.row k,v=>v=g.val k/\v.oneCell'=true
 |.nil _ _,v=>v=.slice none 0 0
 |.dead,v=>v.oneCell'=true
def PVR [NW] (g:Gh) (w:World):Bool->List AV->Value->Prop
 |true,cs,v=>∃vs:List Value,v=.agg vs.toArray/\ZD (AVR g w) cs vs
 |false,cs,v=>∃x,cs=[x]/\AVR g w x v
def SVR [NW] (g:Gh) (w:World):SV->Value->Prop
 |.any,_=>True
 |.und,v=>v=undef
 |.p a cs,v=>PVR g w a cs v
 |.tup xs,v=>∃vs:List Value,v=.tuple vs.toArray/\ZD (fun x u=>PVR g w x.1 x.2 u) xs vs
 |.bp k off,v=>∃b,g.val k=.pointer (some ⟨b,0,none⟩)/\v=.pointer (some ⟨b,off,none⟩)
 |.rp k m i off,v=>∃b o n c,g.val k=.slice (some ⟨b,o,none⟩) n c/\v=.pointer (some ⟨b,o+(i*m+off),none⟩)
 |.ep e off,v=>∃b lo cs L,v=.pointer (some ⟨b,lo+off,none⟩)/\Za9 w b lo cs/\RCs w e cs L/\(∀x∈b::L,¬g.own x)/\b<w.heap.size
 |.fn f,v=>v=.func (.func f) #[] #[]
def ObR [NW] (g:Gh) (w:World) (k:Nat):Ob->Prop
 |.gone=>g.O k=[]/\g.D k=[]
 |.box t cs=>∃b vs,g.val k=.pointer (some ⟨b,0,none⟩)/\g.O k=[b]/\g.D k=[]/\w.heap[b]?=some (.cells vs.toArray t (0,0))/\ZD (AVR g w) cs vs
 |.row e m xs d=>0<m/\∃cs L,w.ownsV 0 e m (g.val k) xs.length cs/\REs w m xs cs L/\((d=2/\g.O k=(g.val k).ownBlock.toList/\g.D k=L)\/(d=1/\g.O k=(g.val k).ownBlock.toList/\g.D k=[]/\∀b∈L,¬g.own b)\/(d=0/\g.O k=[]/\g.D k=[]/\∀b∈(g.val k).ownBlock.toList++L,¬g.own b))
 |.map kk vk kv=>∃b es c,g.val k=.map (some b)/\g.O k=[b]/\g.D k=[]/\w.heap[b]?=some (.map es c)/\Zd8 es=kv/\ZjC kk vk kv
def YZ (w:World) (o:Ob) (b:Nat):Prop:=
 match o with
 |.map _ _ _=>∃es c,w.heap[b]?=some (.map es c)
 |_=>∃cur e,w.heap[b]?=some (.cells cur e (0,0))
theorem YZ.lt {w:World}{o:Ob}{b:Nat}(h:YZ w o b):b<w.heap.size:=by
 unfold YZ at h
 split at h
 .obtain ⟨_,_,h⟩:=h;exact (BC.1 h).1
 .obtain ⟨_,_,h⟩:=h;exact (BC.1 h).1
theorem YZ.keep {w w':World}{o:Ob}{b:Nat}(h:YZ w o b) (e:w'.heap[b]?=w.heap[b]?):YZ w' o b:=by
 unfold YZ at h ⊢
 rw [e];exact h
def ZjJ:Ob->Bool
 |.map _ _ _=>true
 |_=>false
theorem YZ.of {w:World}{o o':Ob}{b:Nat}(h:YZ w o b) (e:ZjJ o'=ZjJ o):YZ w o' b:=by
 cases o<;>cases o'<;>simp [ZjJ]at e<;>exact h
structure HI [NW] (W:ZaA) (g:Gh) (ob:Nat->Ob) (w:World):Prop where
 below:Bel W w
 obs:∀k,ObR g w k (ob k)
 nodup:∀k,(g.O k++g.D k).Nodup
 apart:∀k j,k≠j->∀b∈g.O k++g.D k,b∉g.O j++g.D j
 plain:∀k,∀b∈g.O k++g.D k,(W.heap.size<=b\/W.x b\/W.y b)/\YZ w (ob k) b
 gz:g.Z=W.z
 zx:∀b,W.z b->b<W.heap.size/\¬W.x b/\¬W.y b
 nw:∀b,(W.heap.size<=b\/W.x b\/W.y b)->NW.B0<=b
 oy:∀k,∀b∈g.O k,W.heap.size<=b\/W.x b
def avU (U:Nat->Prop):AV->Prop
 |.row k=>U k
 |_=>True
def XD (U:Nat->Prop) (cs:List AV):Prop:=∀x∈cs,avU U x
def svU (U:Nat->Prop):SV->Prop
 |.p _ cs=>XD U cs
 |.tup xs=>∀x∈xs,XD U x.2
 |.bp k _=>U k
 |.rp k _ _ _=>U k
 |_=>True
def obU (U:Nat->Prop):Ob->Prop
 |.box _ cs=>XD U cs
 |_=>True
structure StU (U:Nat->Prop) (st:St):Prop where
 sl:∀t,svU U (st.sl t)
 ob:∀k,obU U (st.ob k)
 gone:∀k,¬U k->st.ob k=.gone
theorem HI.lt [NW] {W:ZaA}{g:Gh}{ob:Nat->Ob}{w:World}(h:HI W g ob w) (k:Nat):∀b∈g.O k++g.D k,b<w.heap.size:=by
 intro b m
 exact (h.plain k b m).2.lt
theorem HI.nz [NW] {W:ZaA}{g:Gh}{ob:Nat->Ob}{w:World}(h:HI W g ob w) {k b:Nat}(m:b∈g.O k++g.D k):¬g.Z b:=fun hz=>by
 rw [h.gz]at hz
 obtain ⟨h1,h2⟩:=h.zx b hz
 rcases (h.plain k b m).1 with h3|h3|h3
 .omega
 .exact h2.1 h3
 .exact h2.2 h3
theorem HI.oyOf [NW] {W:ZaA}{g g':Gh}{ob ob':Nat->Ob}{w w':World}(h:HI W g ob w) (ho:∀b,g'.own b->g.own b\/w.heap.size<=b)
  (hp:∀k,∀b∈g'.O k++g'.D k,(W.heap.size<=b\/W.x b\/W.y b)/\YZ w' (ob' k) b):∀k,∀b∈g'.O k,W.heap.size<=b\/W.x b:=fun k b m=>by
 rcases ho b (.inl ⟨k,m⟩) with (⟨j,mj⟩|hz)|hn
 .exact h.oy j b mj
 .rw [h.gz]at hz
  obtain ⟨h1,h2,h3⟩:=h.zx b hz
  rcases (hp k b (by simp [m])).1 with q|q|q
  .omega
  .exact absurd q h2
  .exact absurd q h3
 .exact .inl (BB h.below.size hn)
section
variable {g g':Gh} {w w':World} {U:Nat->Prop}
theorem NR.move [NW] {x:CT}{v:Value}(h:NR g w x v)
  (hw:∀b,b<w.heap.size->¬g.own b->w'.heap[b]?=w.heap[b]?) (ho:X7 g g' w.heap.size):NR g' w' x v:=by
 obtain ⟨e,m,xs,cs,L,h1,h2,h3,h4,h5,h6⟩:=h
 have a:∀b∈v.ownBlock.toList++L,b<w.heap.size:=fun b mb=>by
  obtain ⟨_,_,_,_,q⟩:=h6 b mb
  exact (BC.1 q).1
 have hs:∀b∈v.ownBlock.toList++L,w'.heap[b]?=w.heap[b]?:=fun b mb=>hw b (a b mb) fun o=>(h6 b mb).1 (.inl o)
 refine ⟨e,m,xs,cs,L,h1,h2,Zcg h3 fun b mb=>hs b (by simp [mb]),h4.keep fun b mb=>hs b (by simp [mb]),h5,fun b mb=>⟨fun o=>?_,(h6 b mb).2.1,by rw [hs b mb];exact (h6 b mb).2.2⟩⟩
 rcases ho.low b o with o|o
 .exact (h6 b mb).1 o
 .have:=a b mb;omega
theorem AVR.move [NW] {x:AV}{v:Value}(h:AVR g w x v) (hx:avU U x) (hv:∀k,U k->g'.val k=g.val k)
  (hw:∀b,b<w.heap.size->¬g.own b->w'.heap[b]?=w.heap[b]?) (ho:X7 g g' w.heap.size):AVR g' w' x v:=by
 cases x with
 |c x=>
  obtain ⟨L,h1,h2⟩:=h
  have a:=h1.lt
  refine ⟨L,h1.keep fun b m=>hw b (a b m) (h2 b m),fun b m o=>?_⟩
  rcases ho.own b o with o|o
  .exact h2 b m o
  .have:=a b m;omega
 |n x=>exact NR.move h hw ho
 |row k=>exact ⟨h.1.trans (hv k hx).symm,h.2⟩
 |nil e m=>exact h
 |dead=>exact h
theorem AVRs.move [NW] {cs:List AV}{vs:List Value}(h:ZD (AVR g w) cs vs) (hx:XD U cs) (hv:∀k,U k->g'.val k=g.val k)
  (hw:∀b,b<w.heap.size->¬g.own b->w'.heap[b]?=w.heap[b]?) (ho:X7 g g' w.heap.size):ZD (AVR g' w') cs vs:=
 h.mono fun a _ m r=>r.move (hx a m) hv hw ho
theorem PVR.move [NW] {a:Bool}{cs:List AV}{v:Value}(h:PVR g w a cs v) (hx:XD U cs) (hv:∀k,U k->g'.val k=g.val k)
  (hw:∀b,b<w.heap.size->¬g.own b->w'.heap[b]?=w.heap[b]?) (ho:X7 g g' w.heap.size):PVR g' w' a cs v:=by
 cases a with
 |true=>obtain ⟨vs,h1,h2⟩:=h;exact ⟨vs,h1,AVRs.move h2 hx hv hw ho⟩
 |false=>obtain ⟨x,h1,h2⟩:=h;exact ⟨x,h1,h2.move (hx x (by simp [h1])) hv hw ho⟩
theorem SVR.move [NW] {s:SV}{v:Value}(h:SVR g w s v) (hx:svU U s) (hv:∀k,U k->g'.val k=g.val k)
  (hw:∀b,b<w.heap.size->¬g.own b->w'.heap[b]?=w.heap[b]?) (ho:X7 g g' w.heap.size) (hs:w.heap.size<=w'.heap.size):SVR g' w' s v:=by
 cases s with
 |any=>exact h
 |und=>exact h
 |p a cs=>exact PVR.move h hx hv hw ho
 |tup xs=>
  obtain ⟨vs,h1,h2⟩:=h
  exact ⟨vs,h1,h2.mono fun x _ m r=>r.move (hx x m) hv hw ho⟩
 |bp k off=>obtain ⟨b,h1,h2⟩:=h;exact ⟨b,(hv k hx).trans h1,h2⟩
 |rp k m i off=>obtain ⟨b,o,n,c,h1,h2⟩:=h;exact ⟨b,o,n,c,(hv k hx).trans h1,h2⟩
 |ep e off=>
  obtain ⟨b,lo,cs,L,h1,h2,h3,h4,h5⟩:=h
  have d:=h3.lt
  refine ⟨b,lo,cs,L,h1,fun j u hu=>?_,h3.keep fun x m=>hw x (d x m) (h4 x (by simp [m])),fun x m o=>?_,yE⟩
  .rw [<-h2 j u hu];exact World.cell?_of_block (hw b h5 (h4 b yG))
  .rcases ho.own x o with o|o
   .exact h4 x m o
   .rcases AR.1 m with rfl|m
    .omega
    .have:=d x m;omega
 |fn f=>exact h
theorem HI.step [NW] {W:ZaA}{ob ob':Nat->Ob}(h:HI W g ob w) (T:Nat->Prop)
  (v:Bel W w') (hZ:g'.Z=g.Z)
  (hw:∀b,b<w.heap.size->(∀k,T k->b∉g.O k)->w'.heap[b]?=w.heap[b]?)
  (hk:∀k,¬T k->ob' k=ob k/\g'.val k=g.val k/\g'.O k=g.O k/\g'.D k=g.D k)
  (z:∀k,obU U (ob k)) (hv:∀k,U k->g'.val k=g.val k)
  (ho:X7 g g' w.heap.size)
  (hT:∀k,T k->ObR g' w' k (ob' k)/\(g'.O k++g'.D k).Nodup/\(∀b∈g'.O k++g'.D k,(W.heap.size<=b\/W.x b\/W.y b)/\YZ w' (ob' k) b)/\∀j,k≠j->∀b∈g'.O k++g'.D k,b∉g'.O j++g'.D j):
  HI W g' ob' w':=by
 have p:∀b,b<w.heap.size->¬g.own b->w'.heap[b]?=w.heap[b]?:=fun b hb hn=>hw b hb fun k _ m=>hn (.inl ⟨k,m⟩)
 have i:∀k,¬T k->∀b∈g.O k++g.D k,w'.heap[b]?=w.heap[b]?:=fun k hk b m=>
  hw b (h.lt k b m) fun j hj mj=>h.apart j k (fun e=>hk (e ▸ hj)) b (by simp [mj]) m
 suffices hpl:(∀k,ObR g' w' k (ob' k))/\(∀k,(g'.O k++g'.D k).Nodup)/\(∀k j,k≠j->∀b∈g'.O k++g'.D k,b∉g'.O j++g'.D j)/\∀k,∀b∈g'.O k++g'.D k,(W.heap.size<=b\/W.x b\/W.y b)/\YZ w' (ob' k) b from
  ⟨v,hpl.1,hpl.2.1,hpl.2.2.1,hpl.2.2.2,hZ.trans h.gz,h.zx,h.nw,h.oyOf ho.own hpl.2.2.2⟩
 refine ⟨fun k=>?_,fun k=>?_,fun k j q b m=>?_,fun k b m=>?_⟩
 .by_cases a:T k
  .exact (hT k a).1
  .obtain ⟨e1,e2,e3,e4⟩:=hk k a
   have f:=h.obs k
   have hF:=i k a
   have hU:=z k
   rw [e1]
   cases hok:ob k with
   |gone=>rw [hok]at f;exact ⟨e3.trans f.1,e4.trans f.2⟩
   |box t cs=>
    rw [hok]at f hU
    obtain ⟨b,vs,h1,h2,h3,h4,h5⟩:=f
    exact ⟨b,vs,e2.trans h1,e3.trans h2,e4.trans h3,by rw [hF b (by simp [h2])];exact h4,AVRs.move h5 hU hv p ho⟩
   |map kk vk kv=>
    rw [hok]at f
    obtain ⟨b,es,c,h1,h2,h3,h4,h5⟩:=f
    exact ⟨b,es,c,e2.trans h1,e3.trans h2,e4.trans h3,by rw [hF b (by simp [h2])];exact h4,h5⟩
   |row e m xs d=>
    rw [hok]at f
    obtain ⟨hm,cs,L,h1,h2,h4⟩:=f
    have l:=h2.lt
    have hL:∀b∈L,w'.heap[b]?=w.heap[b]?:=fun b mb=>by
     rcases h4 with ⟨_,_,h4⟩|⟨_,_,_,h4⟩|⟨_,_,_,h4⟩
     .exact hF b (by simp [h4,mb])
     .exact p b (l b mb) (h4 b mb)
     .exact p b (l b mb) (h4 b (by simp [mb]))
    have B:∀b∈(g.val k).ownBlock.toList,w'.heap[b]?=w.heap[b]?:=fun b mb=>by
     rcases h4 with ⟨_,h3,_⟩|⟨_,h3,_⟩|⟨_,_,_,h4⟩
     .exact hF b (by simp [h3,mb])
     .exact hF b (by simp [h3,mb])
     .exact p b (Zip h1 b mb) (h4 b (by simp [mb]))
    refine ⟨hm,cs,L,by rw [e2];exact Zcg h1 B,h2.keep hL,?_⟩
    rw [e2,e3,e4]
    have u:∀b,b<w.heap.size->¬g.own b->¬g'.own b:=fun b hb hn o=>by
     rcases ho.own b o with o|o
     .exact hn o
     .omega
    rcases h4 with h4|⟨hd,h3,h4,h5⟩|⟨hd,h3,h4,h5⟩
    .exact .inl h4
    .exact .inr (.inl ⟨hd,h3,h4,fun b mb=>u b (l b mb) (h5 b mb)⟩)
    .refine .inr (.inr ⟨hd,h3,h4,fun b mb=>?_⟩)
     rcases AB.1 mb with m1|m1
     .exact u b (Zip h1 b m1) (h5 b mb)
     .exact u b (l b m1) (h5 b mb)
 .by_cases a:T k
  .exact (hT k a).2.1
  .obtain ⟨e1,e2,e3,e4⟩:=hk k a
   rw [e3,e4];exact h.nodup k
 .by_cases a:T k
  .exact (hT k a).2.2.2 j q b m
  .by_cases A:T j
   .exact fun mj=>(hT j A).2.2.2 k (fun e=>q e.symm) b mj m
   .obtain ⟨_,_,e3,e4⟩:=hk k a
    obtain ⟨_,_,f3,f4⟩:=hk j A
    rw [e3,e4]at m
    rw [f3,f4]
    exact h.apart k j q b m
 .by_cases a:T k
  .exact (hT k a).2.2.1 b m
  .obtain ⟨_,_,e3,e4⟩:=hk k a
   rw [e3,e4]at m
   obtain ⟨p1,p2⟩:=h.plain k b m
   obtain ⟨e1,_⟩:=hk k a
   exact ⟨p1,by rw [e1];exact p2.keep (i k a b m)⟩
end
structure Inv [NW] (W:ZaA) (U:Nat->Prop) (st:St) (a:Act) (w:World):Prop where
 ex:∃g,HI W g st.ob w/\∀t,SVR g w (st.sl t) (a.tmps.getD t undef)
 wf:StU U st
 defers:a.defers=[]
 hand:∀v,W.hv=some v->a.tmps.getD 0 undef=v
end
section
open Go.RowKit
def ZaV:AV->Value->Bool
 |.c (.int k n),.int k' n'=>k==k'&&n==n'
 |.c (.bool b),.bool b'=>b==b'
 |.c (.str s),.string s'=>s.data.toList==s'.data.toList&&ZaR s
 |.nil _ m,.slice none 0 0=>Nat.blt 0 m
 |_,_=>false
def ZhL:TypeDesc->AV->Bool
 |.int k,.c (.int k' _)=>k==k'
 |.bool,.c (.bool _)=>true
 |.string,.c (.str _)=>true
 |_,_=>false
def Zr8:TypeDesc->Bool
 |.struct _=>true
 |.array _ _=>true
 |_=>false
def ZdW:PK->TypeDesc->Bool
 |.int k,.int k'=>k==k'
 |.str,.string=>true
 |.bool,.bool=>true
 |_,_=>false
def EqF (P:Program):List PK->List Field->Nat->Prop
 | [],[],_=>True
 | k :: ks, f :: fs, n => f.name ≠ "_" ∧ f.offset = n ∧ (∃ d, P.underlying f.type = some d ∧ ZdW k d = true) ∧ EqF P ks fs (n + 1)
 |_,_,_=>False
def TOk (P:Program) (t:TypeId):TI->Prop
 |.atom z=>∃d zv i,P.underlying t=some d/\ZhL d z=true/\P.info? t=some i/\i.zero=some zv/\i.size=1/\ZaV z zv=true
 |.strct fs n z=>∃(fields:Array Field) (i:TypeInfo) (zvs:Array Value),P.underlying t=some (.struct fields)/\P.info? t=some i/\i.size=n/\i.zero=some (.agg zvs)/\ZD (fun a v=>ZaV a v=true) z zvs.toList/\
   ZD (fun (fi:FI) (f:Field)=>f.offset=fi.off/\fi.size≠0/\∃j d,P.info? f.type=some j/\j.size=fi.size/\P.underlying f.type=some d/\Zr8 d=fi.agg) fs fields.toList
 |.slice e m bytes z=>P.underlying t=some (.slice e)/\0<m/\bytes<=131072/\(∃(i:TypeInfo) (zv:Value),P.info? e=some i/\i.size=m/\i.bytes=bytes/\i.zero=some zv/\ZD (fun a v=>ZaV a v=true) z zv.cells.toList/\z.length=m)/\
   ∃j:TypeInfo,P.info? t=some j/\j.size=1/\j.zero=some (.slice none 0 0)
 |.ifc=>∃ms,P.underlying t=some (.interface ms)
 |.map kk vk=>∃kt et dk dv i zv,P.underlying t=some (.map kt et)/\P.underlying kt=some dk/\ZdW kk dk=true/\P.underlying et=some dv/\ZdW vk dv=true/\P.info? et=some i/\i.zero=some zv/\ZaV (Ze3 vk) zv=true
 |.eqs ks=>∃u,t=u+4000/\P.underlying u=some (.struct (P.fieldsOf u))/\P.stoodInHeld u=false/\P.eqGuardType P.depth u=false/\EqF P ks (P.fieldsOf u).toList 0
section
variable {P:Program} {w:World} {t:TypeId}
theorem ZqN {i:TypeInfo}(h:P.info? t=some i):(typeInfo t).run P w=.ok i w:=by simp [typeInfo,program,Sem.run,h]
theorem Yt {d:TypeDesc}(h:P.underlying t=some d):(underlying t).run P w=.ok d w:=by simp [underlying,program,Sem.run,h]
theorem YW [NW] {i:TypeInfo}(h:P.info? t=some i):(sizeOf t).run P w=.ok i.size w:=by simp [sizeOf,ZqN h]
theorem Zjj [NW] {i:TypeInfo}{z:Value}(h:P.info? t=some i) (hz:i.zero=some z):(zeroValue t).run P w=.ok z w:=by simp [zeroValue,ZqN h,hz]
theorem Zhx [NW] {d:TypeDesc}(h:P.underlying t=some d):(isAgg t).run P w=.ok (Zr8 d) w:=by
 simp only[isAgg,Sem.run_bind,Yt h,Result.andThen_ok]
 cases d<;>rfl
theorem ZwZ {d:TypeDesc}{z:AV}(h:ZhL d z=true):Zr8 d=false:=by
 unfold ZhL at h
 split at h<;>first|rfl|simp at h
end
section
variable {g:Gh} {w:World}
theorem ZrH {s:ByteArray}(h:ZaR s=true):s.size<=9223372036854775807:=by
 unfold ZaR at h
 have:=Nat.le_of_ble_eq_true h
 rw [Array.length_toList]at this
 exact this
theorem Zfm [NW] {x:AV}{v:Value}(h:ZaV x v=true):AVR g w x v:=by
 unfold ZaV at h
 split at h
 .simp only[AO,beq_iff_eq]at h
  exact ⟨[],⟨by rw [h.1,h.2],rfl⟩,yG⟩
 .simp only[beq_iff_eq]at h
  exact ⟨[],⟨by rw [h],rfl⟩,yG⟩
 .rename_i s s'
  simp only[AO,beq_iff_eq]at h
  have e:s=s':=by
   cases s;cases s'
   simpa using h.1
  exact ⟨[],⟨by rw [e],rfl,ZrH h.2⟩,yG⟩
 .rfl
 .simp at h
theorem AVR.one [NW] {x:AV}{v:Value}(h:AVR g w x v):v.oneCell'=true:=by
 cases x with
 |c x=>obtain ⟨L,h1,_⟩:=h;exact h1.one
 |n x=>
  obtain ⟨e,m,xs,cs,L,h1,h2,h3,_⟩:=h
  obtain ⟨A,c,hv,_⟩:=Zav h3
  simp [hv,Value.oneCell']
 |row k=>exact h.2
 |nil e m=>simp [AVR]at h;simp [h,Value.oneCell']
 |dead=>exact h
theorem Zoy {v:Value}(h:v.oneCell'=true):v.cells=#[v]:=by
 cases v<;>simp [Value.oneCell']at h<;>rfl
theorem PVR.cells [NW] {a:Bool}{cs:List AV}{v:Value}(h:PVR g w a cs v):∃vs:List Value,v.cells=vs.toArray/\ZD (AVR g w) cs vs:=by
 cases a with
 |true=>obtain ⟨vs,rfl,h2⟩:=h;exact ⟨vs,rfl,h2⟩
 |false=>obtain ⟨x,rfl,h2⟩:=h;exact ⟨[v],by rw [Zoy h2.one],⟨h2,trivial⟩⟩
theorem AVRs.one [NW] {cs:List AV}{vs:List Value}(h:ZD (AVR g w) cs vs):∀u∈vs,u.oneCell'=true:=by
 induction vs generalizing cs with
 |nil=>simp
 |cons v r ih=>
  cases cs with
  |nil=>exact h.elim
  |cons c cs=>
   intro u m
   rcases AR.1 m with rfl|m
   .exact h.1.one
   .exact ih h.2 u m
end
theorem Zue (x y:ByteArray):(x.toList==y.toList)=decide (x=y):=by
 rw [AN]
 simp only[beq_iff_eq,decide_eq_true_eq]
 constructor
 .intro h
  have h':x.data.toList=y.data.toList:=by rw [<-BU,<-BU];exact h
  cases x;cases y
  simpa using h'
 .rintro rfl;rfl
end
section
open Go.RowKit
def Uk (U:Nat->Prop) (key:Nat):Nat->Prop:=fun k=>U k\/(key<=k/\k<key+16)
theorem avU.mono {U U':Nat->Prop}(h:∀k,U k->U' k) {x:AV}(hx:avU U x):avU U' x:=by cases x<;>first|exact h _ hx|trivial
theorem XD.mono [NW] {U U':Nat->Prop}(h:∀k,U k->U' k) {x:List AV}(hx:XD U x):XD U' x:=fun y m=>(hx y m).mono h
theorem svU.mono [NW] {U U':Nat->Prop}(h:∀k,U k->U' k) {x:SV}(hx:svU U x):svU U' x:=by
 cases x<;>first|exact XD.mono h hx|exact fun y m=>XD.mono h (hx y m)|exact h _ hx|trivial
theorem obU.mono [NW] {U U':Nat->Prop}(h:∀k,U k->U' k) {x:Ob}(hx:obU U x):obU U' x:=by
 cases x<;>first|exact XD.mono h hx|trivial
def Fin [NW] (P:Program) (W:ZaA) (U:Nat->Prop) (key:Nat) (st:St) (g:Gh) (w:World) (s:Sem Next) (r:SV×List (Nat×Ob)):Prop:=
 ∃g' cv w',(s.run P w=.ok (.value cv) w'\/(s.run P w=.ok .skip w'/\cv=undef))/\HI W g' (Zh st.ob r.2) w'/\SVR g' w' r.1 cv/\(∀x v,svU U x->SVR g w x v->SVR g' w' x v)/\
  svU (Uk U key) r.1/\(∀k,obU (Uk U key) (Zh st.ob r.2 k))/\∀k,¬Uk U key k->Zh st.ob r.2 k=.gone
section
variable {P:Program} {W:ZaA} {U:Nat->Prop} {key:Nat} {st:St} {g:Gh} {w:World} {a:Act} {tt:Nat->Option TI}
theorem Za7 [NW] {s:Sem Next}{v:SV}{cv:Value}(hI:HI W g st.ob w) (hU:StU U st) (a:s.run P w=.ok (.value cv) w) (hv:SVR g w v cv) (hu:svU U v):Fin P W U key st g w s (v,[]):=
 ⟨g,cv,w,.inl a,hI,hv,fun _ _ _ h=>h,hu.mono fun _=>.inl,fun k=>(hU.ob k).mono fun _=>.inl,fun k hk=>hU.gone k fun h=>hk (.inl h)⟩
theorem XE (x:CT):svU U (.p false [.c x]):=fun y m=>by simp at m;subst m;trivial
theorem ZbS [NW] (k:IntKind) (n:Int):SVR g w (.p false [.c (.int k n)]) (.int k n):=⟨_,rfl,[],⟨rfl,rfl⟩,yG⟩
theorem Za4 [NW] (b:Bool):SVR g w (.p false [.c (.bool b)]) (.bool b):=⟨_,rfl,[],⟨rfl,rfl⟩,yG⟩
theorem Zld [NW] {s:ByteArray}(h:s.size<=9223372036854775807):SVR g w (.p false [.c (.str s)]) (.string s):=⟨_,rfl,[],⟨rfl,rfl,h⟩,yG⟩
theorem ZbG [NW] {k:IntKind}{n:Int}{v:Value}(h:SVR g w (.p false [.c (.int k n)]) v):v=.int k n:=by
 obtain ⟨x,hx,h⟩:=h;simp at hx;subst hx;obtain ⟨L,h1,_⟩:=h;exact h1.1
theorem ZfZ [NW] {b:Bool}{v:Value}(h:SVR g w (.p false [.c (.bool b)]) v):v=.bool b:=by
 obtain ⟨x,hx,h⟩:=h;simp at hx;subst hx;obtain ⟨L,h1,_⟩:=h;exact h1.1
theorem Zig [NW] {s:ByteArray}{v:Value}(h:SVR g w (.p false [.c (.str s)]) v):v=.string s/\s.size<=9223372036854775807:=by
 obtain ⟨x,hx,h⟩:=h;simp at hx;subst hx;obtain ⟨L,h1,_⟩:=h;exact ⟨h1.1,h1.2.2⟩
theorem ZDo [NW] {t:Nat}(htt:∀t i,tt t=some i->TOk P t i) (v:Value):SVR g w (cvT (tt t) v) v/\svU U (cvT (tt t) v):=by
 unfold cvT
 split
 .exact ⟨ZbS _ _,XE _⟩
 .exact ⟨Za4 _,XE _⟩
 .split
  .rename_i h;exact ⟨Zld (ZrH h),XE _⟩
  .exact ⟨trivial,trivial⟩
 .split
  .exact ⟨⟨_,rfl,rfl⟩,fun y m=>by simp at m;subst m;trivial⟩
  .exact ⟨trivial,trivial⟩
 .exact ⟨trivial,trivial⟩
theorem ZkE [NW] (htt:∀t i,tt t=some i->TOk P t i) (hS:∀t,SVR g w (st.sl t) (a.tmps.getD t undef)) (hU:StU U st) (t:Nat) (x:Operand):
  SVR g w (st.ev tt t x) (a.eval x)/\svU U (st.ev tt t x):=by
 cases x with
 |tmp s=>exact ⟨hS s,hU.sl s⟩
 |const v=>exact ZDo htt v
 |global _=>exact ⟨trivial,trivial⟩
 |func f=>exact ⟨rfl,trivial⟩
theorem Zya [NW] {op:BinOp}{t:Nat}{ox oy:Operand}{k k':IntKind}{n n':Int}{z:CT}(hk:k=k'\/op=.shl\/op=.shr) (hz:Zyp op k n n'=some z):
  ∃cv,(do eqGuard op t ox oy (.int k n) (.int k' n');binOp op t (.int k n) (.int k' n'):Sem Value).run P w=.ok cv w/\SVR g w (.p false [.c z]) cv:=by
 have hg:(eqGuard op t ox oy (.int k n) (.int k' n')).run P w=.ok () w:=by
  cases op<;>rfl
 simp only[Sem.run_bind,hg,Result.andThen_ok]
 cases op<;>simp only[Zyp,ZAP,ZDZ,orI,ZCM,Zt3,ZDp,ZDI,Option.map_none,AZ,AA,reduceCtorEq]at hz<;>(try subst hz)<;>
  (try (split at hz<;>simp only[AA,reduceCtorEq]at hz;subst hz))<;>
  simp only[reduceCtorEq,or_false,or_true]at hk<;>(try subst hk)<;>
  first
   |(refine ⟨_,?_,ZbS _ _⟩;simp [binOp,Op.intArith,Op.intDiv,Op.intBits,Op.shift, *];done)
   |(refine ⟨_,?_,Za4 _⟩;simp [binOp,Op.intCmp];done)
set_option maxHeartbeats 1000000 in
theorem ZxO [NW] {op : BinOp} {t : Nat} {ox oy : Operand} {s s' : ByteArray} {z : CT} (hz : ZyD op s s' = some z) :
    ∃ cv, (do eqGuard op t ox oy (.string s) (.string s'); binOp op t (.string s) (.string s') : Sem Value).run P w = .ok cv w ∧ SVR g w (.p false [.c z]) cv := by
  have hg : (eqGuard op t ox oy (.string s) (.string s')).run P w = .ok () w := by
    cases op <;> rfl
  simp only[Sem.run_bind, hg, Result.andThen_ok]
  cases op <;> simp only[ZyD, AA, reduceCtorEq] at hz <;> (try subst hz) <;>
    first
      | (refine ⟨_, ?_, Za4 _⟩; simp only[binOp, Op.stringOp, sLt, sEq, ← Zue]; rfl)
      | (split at hz
         · rename_i hl
           simp only[AA] at hz
           subst hz
           refine ⟨_, ?_, Zld (by rw [ByteArray.size_append]; exact hl)⟩
           have hl' : ¬ ((s.size + s'.size : Nat) : Int) > IntKind.i64.max := by
             have : IntKind.i64.max = 9223372036854775807 := by decide
             omega
           simp only[binOp, Op.stringOp, hl', if_false]
           rfl
         · simp at hz)
theorem Zqp [NW] {op:BinOp}{t:Nat}{ox oy:Operand}{b b':Bool}{r:Bool}(ht:P.underlying t=some .bool) (a:(op=.eql/\r=(b==b'))\/(op=.neq/\r=!(b==b'))):
  (do eqGuard op t ox oy (.bool b) (.bool b');binOp op t (.bool b) (.bool b'):Sem Value).run P w=.ok (.bool r) w:=by
 have hg:(eqGuard op t ox oy (.bool b) (.bool b')).run P w=.ok () w:=by
  cases op<;>rfl
 have he:(Op.equal t (.bool b) (.bool b')).run P w=.ok (b==b') w:=by
  have key:∀d:Nat,(Op.equalIn (d+1) t (.bool b) (.bool b')).run P w=.ok (b==b') w:=fun d=>by
   rw [Op.equalIn]
   simp only[Sem.run_bind,Yt ht,Result.andThen_ok,Sem.run_pure]
  exact key 9999
 simp only[Sem.run_bind,hg,Result.andThen_ok]
 rcases a with ⟨rfl,rfl⟩|⟨rfl,rfl⟩
 .simp only[binOp,Sem.run_bind,he,Result.andThen_ok,Sem.run_pure]
 .simp only[binOp,Sem.run_bind,he,Result.andThen_ok,Sem.run_pure]
theorem ZBZ [NW] (htt:∀t i,tt t=some i->TOk P t i) {op:BinOp}{t:Nat}{ox oy:Operand}{x y v:SV}{vx vy:Value}(h:Zyj (tt t) op x y=some v) (hx:SVR g w x vx) (hy:SVR g w y vy):
  ∃cv,(do eqGuard op t ox oy vx vy;binOp op t vx vy:Sem Value).run P w=.ok cv w/\SVR g w v cv/\svU U v:=by
 unfold Zyj at h
 split at h
 .have ex:=ZbG hx
  have ey:=ZbG hy
  subst ex ey
  split at h
  .rename_i hk
   obtain ⟨z,hz,rfl⟩:=AD.1 h
   obtain ⟨cv,h1,h2⟩:=Zya (P:=P) (g:=g) (w:=w) (t:=t) (ox:=ox) (oy:=oy) hk hz
   exact ⟨cv,h1,h2,XE _⟩
  .simp at h
 .obtain ⟨ex,lx⟩:=Zig hx
  obtain ⟨ey,ly⟩:=Zig hy
  subst ex ey
  obtain ⟨z,hz,rfl⟩:=AD.1 h
  obtain ⟨cv,h1,h2⟩:=ZxO (P:=P) (g:=g) (w:=w) (t:=t) (ox:=ox) (oy:=oy) hz
  exact ⟨cv,h1,h2,XE _⟩
 .have ex:=ZfZ hx
  have ey:=ZfZ hy
  subst ex ey
  split at h
  .rename_i a
   simp only[AA]at h
   subst h
   obtain ⟨d,zv,i,h1,h2,_⟩:=htt t _ a
   have hd:d=.bool:=by cases d<;>simp [ZhL]at h2;rfl
   subst hd
   exact ⟨_,Zqp h1 (.inl ⟨rfl,rfl⟩),Za4 _,XE _⟩
  .rename_i a
   simp only[AA]at h
   subst h
   obtain ⟨d,zv,i,h1,h2,_⟩:=htt t _ a
   have hd:d=.bool:=by cases d<;>simp [ZhL]at h2;rfl
   subst hd
   exact ⟨_,Zqp h1 (.inr ⟨rfl,rfl⟩),Za4 _,XE _⟩
  .simp at h
 .simp at h
theorem Zn3 {k:PK}{d:TypeDesc}(h:ZdW k d=true):Zr8 d=false:=by
 unfold ZdW at h
 split at h<;>first|rfl|simp at h
theorem ZBc [NW] {k:PK}{x y:AV}{vx vy:Value}{b:Bool}{t:Nat}{d:TypeDesc}(h:eqC k x y=some b) (hd:P.underlying t=some d) (hk:ZdW k d=true) (hx:AVR g w x vx) (hy:AVR g w y vy) (n:Nat):(Op.equalIn (n+1) t vx vy).run P w=.ok b w:=by
 unfold eqC at h
 split at h
 .split at h<;>simp only[AA,reduceCtorEq]at h
  rename_i kk;subst kk h
  obtain ⟨_,h1,_⟩:=hx;obtain ⟨_,h2,_⟩:=hy
  have e1:=h1.1;have e2:=h2.1;subst e1 e2
  cases d<;>simp [ZdW]at hk
  exact run_equalIn_int w n t _ _ _ _ hd
 .simp only[AA]at h;subst h
  obtain ⟨_,h1,_⟩:=hx;obtain ⟨_,h2,_⟩:=hy
  have e1:=h1.1;have e2:=h2.1;subst e1 e2
  cases d<;>simp [ZdW]at hk
  rw [run_equalIn_string w n t _ _ hd,sEq,Zue]
 .simp only[AA]at h;subst h
  obtain ⟨_,h1,_⟩:=hx;obtain ⟨_,h2,_⟩:=hy
  have e1:=h1.1;have e2:=h2.1;subst e1 e2
  cases d<;>simp [ZdW]at hk
  exact run_equalIn_bool' w n t _ _ hd
 .simp at h
theorem Zto [NW] (n:Nat) {X Y:Array Value}:∀{ks:List PK}{fs:List Field}{o:Nat}{xs ys:List AV}{vx vy:List Value}{b:Bool},Znr ks xs ys=some b->EqF P ks fs o->ZD (AVR g w) xs vx->ZD (AVR g w) ys vy->(∀j v,vx[j]?=some v->X[o+j]?=some v)->(∀j v,vy[j]?=some v->Y[o+j]?=some v)->(Op.eqFields (n+1) X Y fs).run P w=.ok b w
 | [],[],_,[],[],_,_,b,h,_,_,_,_,_=>by simp [Znr]at h;subst h;simp [Op.eqFields]
 |k::ks,f::fs,o,x::xs,y::ys,[],_,_,_,_,hx,_,_,_=>hx.elim
 |k::ks,f::fs,o,x::xs,y::ys,_::_,[],_,_,_,_,hy,_,_=>hy.elim
 |k::ks,f::fs,o,x::xs,y::ys,u::vx,v::vy,b,h,hf,hx,hy,hX,hY=>by
  simp only[Znr]at h
  obtain ⟨b1,h1,h⟩:=AG.1 h
  obtain ⟨b2,h2,rfl⟩:=AD.1 h
  obtain ⟨f1,f2,⟨d,f3,f4⟩,f5⟩:=hf
  have e1:=ZBc h1 f3 f4 hx.1 hy.1 n
  have e2:=Zto n h2 f5 hx.2 hy.2 (fun j v hj=>by have:=hX (j+1) v (by simpa using hj);rwa [show o+(j+1)=o+1+j by omega]at this) (fun j v hj=>by have:=hY (j+1) v (by simpa using hj);rwa [show o+(j+1)=o+1+j by omega]at this)
  have p1:(part f.type X f.offset).run P w=.ok u w:=by
   have:=hX 0 u yG
   simp only[part,Sem.run_bind,Zhx f3,Zn3 f4,Result.andThen_ok]
   rw [f2];simp at this;simp [this]
  have p2:(part f.type Y f.offset).run P w=.ok v w:=by
   have:=hY 0 v yG
   simp only[part,Sem.run_bind,Zhx f3,Zn3 f4,Result.andThen_ok]
   rw [f2];simp at this;simp [this]
  simp only[Op.eqFields,f1,ne_eq,not_false_eq_true,if_true,Sem.run_bind,p1,p2,e1,Result.andThen_ok]
  cases b1
  .simp
  .simpa using e2
 | [],_::_,_,_,_,_,_,_,_,hf,_,_,_,_=>hf.elim
 |_::_,[],_,_,_,_,_,_,_,hf,_,_,_,_=>hf.elim
 | [],[],_,_::_,_,_,_,_,h,_,_,_,_,_=>by simp [Znr]at h
 | [],[],_,[],_::_,_,_,_,h,_,_,_,_,_=>by simp [Znr]at h
 |_::_,_::_,_,[],_,_,_,_,h,_,_,_,_,_=>by simp [Znr]at h
 |_::_,_::_,_,_::_,[],_,_,_,h,_,_,_,_,_=>by simp [Znr]at h
theorem ZqI {op:BinOp}{b:Bool}{v:SV}(h:ZqX op b=some v):(op=.eql/\v=.p false [.c (.bool b)])\/(op=.neq/\v=.p false [.c (.bool (!b))]):=by
 unfold ZqX at h
 split at h<;>simp only[AA,reduceCtorEq]at h<;>subst h
 .exact .inl ⟨rfl,rfl⟩
 .exact .inr ⟨rfl,rfl⟩
theorem ZBW [NW] (htt:∀t i,tt t=some i->TOk P t i) {op:BinOp}{t:Nat}{ox oy:Operand}{x y v:SV}{vx vy:Value}(h:Zyq (tt (t+4000)) op x y=some v) (hx:SVR g w x vx) (hy:SVR g w y vy):
  ∃cv,(do eqGuard op t ox oy vx vy;binOp op t vx vy:Sem Value).run P w=.ok cv w/\SVR g w v cv/\svU U v:=by
 unfold Zyq at h
 split at h
 .obtain ⟨ks,a,h'⟩:=AG.1 h
  obtain ⟨b,hb,d⟩:=AG.1 h'
  have c:tt (t+4000)=some (.eqs ks):=by
   unfold ZwO at a
   split at a<;>simp only[AA,reduceCtorEq]at a
   rename_i c
   rw [c,a]
  obtain ⟨u,e,h1,h2,h3,h4⟩:=htt _ _ c
  have e:t=u:=Nat.add_right_cancel e
  subst e
  obtain ⟨us,rfl,f⟩:=hx
  obtain ⟨vs,rfl,k⟩:=hy
  have hq:=Zto (X:=us.toArray) (Y:=vs.toArray) 9998 hb h4 f k (fun j v hj=>by simpa using hj) (fun j v hj=>by simpa using hj)
  have hg:=run_eqGuard_agg (P:=P) w op t ox oy us.toArray vs.toArray h3
  rcases ZqI d with ⟨rfl,rfl⟩|⟨rfl,rfl⟩
  .refine ⟨_,?_,Za4 b,XE _⟩
   simp only[Sem.run_bind,hg,Result.andThen_ok,run_eql_struct,run_equalIn_struct w 9999 t _ _ h1 h2,hq]
  .refine ⟨_,?_,Za4 (!b),XE _⟩
   simp only[Sem.run_bind,hg,Result.andThen_ok,run_neq_struct,run_equalIn_struct w 9999 t _ _ h1 h2,hq]
 .simp at h
theorem ZBp [NW] {b:Bool}{v:Value}(h:SVR g w (.p false [.c (.ifc b)]) v):(b=true/\v=.nilIface)\/(b=false/\∃t x,v=.iface t x):=by
 obtain ⟨x,hx,h⟩:=h;simp at hx;subst hx;obtain ⟨L,h1,_⟩:=h
 have h2:=h1.2.2
 cases b with
 |true=>exact .inl ⟨rfl,h2⟩
 |false=>exact .inr ⟨rfl,h2⟩
theorem ZyM [NW] (htt:∀t i,tt t=some i->TOk P t i) {op:BinOp}{t:Nat}{ox oy:Operand}{x y v:SV}{vx:Value}(h:Zw1 tt t (ZjX oy) op x y=some v) (hx:SVR g w x vx) (hy:SVR g w y (a.eval oy)):
  ∃cv,(do eqGuard op t ox oy vx (a.eval oy);binOp op t vx (a.eval oy):Sem Value).run P w=.ok cv w/\SVR g w v cv/\svU U v:=by
 unfold Zw1 at h
 split at h
 .rename_i hn
  have ho:oy=.const .nilIface:=by
   cases oy with
   |const c=>cases c<;>first|rfl|(simp [ZjX,Zs2]at hn;done)
   |_=>simp [ZjX]at hn
  subst ho
  split at h
  rotate_left
  .simp at h
  rename_i d
  have j:tt t=some .ifc:=by
   unfold Zv6 at d
   split at d
   .assumption
   .simp at d
  obtain ⟨ms,e⟩:=htt _ _ j
  unfold ZBa at h
  split at h
  .rename_i b
   have hb:=ZBp hx
   have k:a.eval (.const .nilIface)=.nilIface:=rfl
   rw [k]
   have hg:∀v:Value,(v=.nilIface\/∃t x,v=.iface t x)->(eqGuard op t ox (.const .nilIface) v .nilIface).run P w=.ok () w:=fun v hv=>by
    rcases hv with rfl|⟨t',x',rfl⟩
    .simp only[eqGuard]
     cases ox<;>cases op<;>rfl
    .simp only[eqGuard]
     cases op<;>rfl
   have he:(Op.equal t vx .nilIface).run P w=.ok b w:=by
    show (Op.equalIn (9999+1) t _ _).run P w=_
    rw [Op.equalIn]
    rcases hb with ⟨rfl,rfl⟩|⟨rfl,t',x',rfl⟩
    .simp only[Sem.run_bind,Yt e,Result.andThen_ok,Sem.run_pure]
    .simp only[Sem.run_bind,Yt e,Result.andThen_ok,Sem.run_pure]
   have f:=hg vx (hb.imp (fun h=>h.2) (fun h=>h.2))
   rcases ZqI h with ⟨rfl,rfl⟩|⟨rfl,rfl⟩
   .refine ⟨_,?_,Za4 b,XE _⟩
    simp only[Sem.run_bind,f,Result.andThen_ok]
    rcases hb with ⟨rfl,rfl⟩|⟨rfl,t',x',rfl⟩<;>simp only[binOp,Sem.run_bind,he,Result.andThen_ok,Sem.run_pure]
   .refine ⟨_,?_,Za4 (!b),XE _⟩
    simp only[Sem.run_bind,f,Result.andThen_ok]
    rcases hb with ⟨rfl,rfl⟩|⟨rfl,t',x',rfl⟩<;>simp only[binOp,Sem.run_bind,he,Result.andThen_ok,Sem.run_pure]
  .simp at h
 .split at h
  .exact ZBW htt h hx hy
  .exact ZBZ htt h hx hy
theorem ZCh [NW] {op:UnOp}{x v:SV}{vx:Value}(h:unV op x=some v) (hx:SVR g w x vx):∃cv,(Op.unary op vx).run P w=.ok cv w/\SVR g w v cv/\svU U v:=by
 unfold unV at h
 split at h
 .have ex:=ZfZ hx
  subst ex
  split at h<;>simp at h
  subst h
  exact ⟨_,by simp [Op.unary],Za4 _,XE _⟩
 .have ex:=ZbG hx
  subst ex
  split at h<;>simp at h
  subst h
  exact ⟨_,by simp [Op.unary,Op.intArith],ZbS _ _,XE _⟩
 .simp at h
end
end
section
open Go.RowKit
section
variable {P:Program} {W:ZaA} {U:Nat->Prop} {key:Nat} {st:St} {g:Gh} {w:World} {a:Act} {tt:Nat->Option TI}
theorem ZAE {t:Nat}{z:AV}(htt:∀t i,tt t=some i->TOk P t i) (h:tt t=some (.atom z)):∃d,P.underlying t=some d:=by
 obtain ⟨d,_,_,h,_⟩:=htt t _ h;exact ⟨d,h⟩
theorem Zp0 {t:Nat}(htt:∀t i,tt t=some i->TOk P t i) (h:Zb6 (tt t)=true):∃e,P.underlying t=some (.slice e):=by
 unfold Zb6 at h
 split at h
 .rename_i h1;exact ⟨_,(htt t _ h1).1⟩
 .simp at h
theorem Zhn {t:Nat}(htt:∀t i,tt t=some i->TOk P t i) (h:Zdh (tt t)=true):P.underlying t=some .string:=by
 unfold Zdh at h
 split at h
 .rename_i h1
  obtain ⟨d,zv,i,h2,h3,_⟩:=htt t _ h1
  have hd:d=.string:=by cases d<;>simp [ZhL]at h3;rfl
  rw [hd]at h2;exact h2
 .simp at h
theorem Zyy [NW] (htt:∀t i,tt t=some i->TOk P t i) {s t:Nat}{x v:SV}{vx:Value}(h:ZqM (tt s) (tt t) x=some v) (hx:SVR g w x vx):∃cv,(convert s t vx).run P w=.ok cv w/\SVR g w v cv/\svU U v:=by
 unfold ZqM at h
 split at h
 .have ex:=ZbG hx
  subst ex
  split at h
  .rename_i h1 h2
   simp only[AA]at h
   subst h
   obtain ⟨d,zv,i,h3,h4,_⟩:=htt t _ h2
   have hd:∃k,d=.int k:=by cases d<;>simp [ZhL]at h4;exact ⟨_,rfl⟩
   obtain ⟨k,rfl⟩:=hd
   simp only[ZhL,beq_iff_eq]at h4
   subst h4
   obtain ⟨ds,hs⟩:=ZAE htt h1
   refine ⟨_,?_,ZbS _ _,XE _⟩
   simp [convert,Yt hs,Yt h3,Conv.intToInt]
  .simp at h
 .simp at h
theorem ZgL [NW] {e m:Nat}{xs:List (List CT)}{v:Value}(h:SVR g w (.p false [.c (.sl e m xs)]) v):∃A cap cs L0 L1,v=.slice A xs.length cap/\xs.length<=cap/\cap<=maxLen/\0<m/\Sl w m A xs.length cs L0/\REs w m xs cs L1/\(∀b∈L0++L1,¬g.own b):=by
 obtain ⟨x,hx,h⟩:=h
 simp at hx
 subst hx
 obtain ⟨L,⟨A,cap,cs,L0,L1,h1,h2,h3,h4,h5,h6,h7⟩,ho⟩:=h
 exact ⟨A,cap,cs,L0,L1,h1,h2,h3,h5,h6,h7,fun b m=>ho b (h4 ▸ m)⟩
theorem ZfE [NW] {k:Nat}{v:Value}(h:SVR g w (.p false [.row k]) v):v=g.val k:=by
 obtain ⟨x,hx,h⟩:=h;simp at hx;subst hx;exact h.1
theorem ZsD [NW] {e m:Nat}{v:Value}(h:SVR g w (.p false [.nil e m]) v):v=.slice none 0 0:=by
 obtain ⟨x,hx,h⟩:=h;simp at hx;subst hx;exact h
theorem ZeK {B e m n:Nat}{v:Value}{cs:List Value}(h:w.ownsV B e m v n cs):∃A cap,v=.slice A n cap:=by
 obtain ⟨A,c,hv,_⟩:=Zav h
 exact ⟨A,c,hv⟩
theorem ZED [NW] {x:CT}{v:Value}(h:SVR g w (.p false [.n x]) v):NR g w x v:=by
 obtain ⟨y,hy,h⟩:=h;simp at hy;subst hy;exact h
theorem ZAH [NW] (htt:∀t i,tt t=some i->TOk P t i) (hI:HI W g st.ob w) {t:Nat}{ts:Array TypeId}{ty:TypeId}(a:ts[0]?=some t) {x v:SV}{vx:Value}(h:ZnR st (tt t) x=some v) (hx:SVR g w x vx):
  ∃cv,(Builtin.len_ ts ty #[vx]).run P w=.ok cv w/\SVR g w v cv/\svU U v:=by
 have fin:∀(A:Option Addr) (n c:Nat),Zb6 (tt t)=true->(Builtin.len_ ts ty #[.slice A n c]).run P w=.ok (.int .i64 n) w:=fun A n c hs=>by
  obtain ⟨e,he⟩:=Zp0 htt hs
  simp [Builtin.len_,a,Yt he,goInt]
 unfold ZnR at h
 split at h
 .split at h<;>simp at h
  rename_i hs
  subst h
  obtain ⟨A,cap,_,_,_,rfl,_⟩:=ZgL hx
  exact ⟨_,fin _ _ _ hs,ZbS _ _,XE _⟩
 .split at h<;>simp at h
  rename_i hs
  subst h
  obtain ⟨_,_,_,_,_,h1,_,h3,_⟩:=ZED hx
  simp only[CT.sl.injEq]at h1
  obtain ⟨_,_,rfl⟩:=h1
  obtain ⟨A,cap,rfl⟩:=ZeK h3
  exact ⟨_,fin _ _ _ hs,ZbS _ _,XE _⟩
 .split at h<;>simp at h
  rename_i hs
  subst h
  obtain ⟨rfl,_⟩:=Zig hx
  refine ⟨_,?_,ZbS _ _,XE _⟩
  simp [Builtin.len_,a,Yt (Zhn htt hs),goInt]
 .split at h<;>simp at h
  rename_i hs
  subst h
  have:=ZsD hx
  subst this
  exact ⟨_,fin _ _ _ hs,ZbS _ _,XE _⟩
 .split at h
  .rename_i k _ e m xs d hk
   split at h<;>simp at h
   rename_i hs
   subst h
   have hv:=ZfE hx
   subst hv
   have ho:=hI.obs k
   rw [hk]at ho
   obtain ⟨_,cs,L,h1,_⟩:=ho
   obtain ⟨A,cap,hv⟩:=ZeK h1
   rw [hv]
   exact ⟨_,fin _ _ _ hs,ZbS _ _,XE _⟩
  .simp at h
 .simp at h
theorem Zmt {f:Value->ByteArray->Sem (ForInStep ByteArray)}(hf:∀n s,f (.int .u8 n) s=pure (ForInStep.yield (s.push (BD n.toNat)))):∀(l:List Int) (s:ByteArray),(forIn (l.map fun n=>Value.int .u8 n) s f).run P w=.ok ⟨s.data++(l.map fun n=>BD n.toNat).toArray⟩ w
 | [],s=>by simp
 |n::l,s=>by
  have ih:=Zmt hf l (s.push (BD n.toNat))
  simp only[Az,List.forIn_cons,hf,Sem.run_bind,Sem.run_pure,Result.andThen_ok,ih]
  congr 2
  apply Array.ext'
  simp [ByteArray.push]
theorem ZuS [NW] {b o cap:Nat}(l:List Int) (hc:∀j u,(l.map fun n=>Value.int .u8 n)[j]?=some u->w.cell? ⟨b,o+j,none⟩=some u):(Conv.bytesToString (.slice (some ⟨b,o,none⟩) l.length cap)).run P w=.ok (.string (Xd l)) w:=by
 have h1:=run_loadCells_list (P:=P) w ⟨b,o,none⟩ (l.map fun n=>Value.int .u8 n) (fun j u hj=>by rw [ZcY];exact hc j u hj)
 rw [List.length_map]at h1
 unfold Conv.bytesToString
 simp only[Sem.run_bind,h1,Result.andThen_ok,<-Array.forIn_toList]
 rw [Zmt (fun _ _=>rfl)]
 simp [Xd,ByteArray.empty,ByteArray.emptyWithCapacity]
 rfl
theorem Zmg {m:Nat}:∀{xs:List (List CT)}{l:List Int}{cs:List Value}{L:List Nat},Ze0 xs=some l->REs w m xs cs L->cs=l.map (fun n=>Value.int .u8 n)/\xs.length=l.length
 | [],_,_,_,h,⟨h1,_⟩=>by simp [Ze0]at h;subst h h1;simp
 |x::r,l,_,_,h,⟨c1,c2,L1,L2,rfl,rfl,h3,h4⟩=>by
  unfold Ze0 at h
  split at h
  .rename_i he;simp at he
  .rename_i n r' he
   simp only[BP]at he
   obtain ⟨rfl,rfl⟩:=he
   obtain ⟨l',hl,rfl⟩:=AD.1 h
   obtain ⟨i1,i2⟩:=Zmg hl h4
   obtain ⟨v,cs',_,_,rfl,rfl,a1,a2⟩:=h3.1
   obtain ⟨rfl,_⟩:=a2
   rw [a1.1,i1]
   exact ⟨rfl,by simp [i2]⟩
  .simp at h
theorem Zqq (l:List Int):(Xd l).size=l.length:=by simp [Xd,ByteArray.size]
theorem Zwo [NW] (htt:∀t i,tt t=some i->TOk P t i) (hI:HI W g st.ob w) {s t:Nat}{x v:SV}{vx:Value}(y:Zdh (tt t)=true) (f:Zmp (ZpH tt (tt s))=true) (h:Zh5 st x=some v) (hx:SVR g w x vx):∃cv,(convert s t vx).run P w=.ok cv w/\SVR g w v cv/\svU U v:=by
 have ht:=Zhn htt y
 have hs:∃e,P.underlying s=some (.slice e)/\P.underlying e=some (.int .u8):=by
  unfold ZpH at f
  split at f
  .rename_i e m b z B
   have h1:=(htt _ _ B).1
   unfold Zmp at f
   split at f
   .rename_i C
    obtain ⟨d,zv,i,h2,h3,_⟩:=htt _ _ C
    cases d<;>simp [ZhL]at h3
    subst h3
    exact ⟨e,h1,h2⟩
   .simp at f
  .simp [Zmp]at f
 obtain ⟨e,hs,he⟩:=hs
 have go:∀A n c,(convert s t (.slice A n c)).run P w=(Conv.bytesToString (.slice A n c)).run P w:=fun A n c=>by
  unfold convert
  simp only[Sem.run_bind,Yt hs,Yt ht,Yt he,Result.andThen_ok]
 have fin:∀(A:Option Addr) (n cap:Nat) (cs:List Value) (L:List Nat) (xs:List (List CT)) (l:List Int) (m:Nat),n=xs.length->0<m->Ze0 xs=some l->REs w m xs cs L->n<=9223372036854775807->(n=0\/∃b o,A=some ⟨b,o,none⟩/\Za9 w b o cs)->∃cv,(convert s t (.slice A n cap)).run P w=.ok cv w/\SVR g w (.p false [.c (.str (Xd l))]) cv/\svU U (.p false [.c (.str (Xd l))]):=by
  intro A n cap cs L xs l m hn hm hl hR hsz hA
  obtain ⟨i1,i2⟩:=Zmg hl hR
  have q:(Xd l).size<=9223372036854775807:=by rw [Zqq];omega
  refine ⟨.string (Xd l),?_,Zld q,XE _⟩
  rw [go]
  rcases hA with h0|⟨b,o,rfl,hc⟩
  .have:l=[]:=Aa yE
   subst this
   cases A with
   |none=>rfl
   |some a=>
    have h1:=run_loadCells_list (P:=P) w a [] yG
    rw [h0]
    unfold Conv.bytesToString
    simp only[Aq]at h1
    simp only[Sem.run_bind,h1,Result.andThen_ok]
    rfl
  .rw [hn,i2]
   exact ZuS l fun j u hj=>hc j u (by rw [i1];exact hj)
 unfold Zh5 at h
 split at h
 .split at h
  .rename_i k _ e' m xs d hk
   obtain ⟨l,hl,rfl⟩:=AD.1 h
   have hv:=ZfE hx
   have ho:=hI.obs k
   rw [hk]at ho
   obtain ⟨hm,cs,L,h1,h2,_⟩:=ho
   rw [hv]
   rcases h1.2 with ⟨h3,h4⟩|⟨b,o,cap,cur,h3,h4,h5,h6,h7,h8,h9⟩
   .rw [h3]
    exact fin _ _ _ cs L xs l m yE hm hl h2 yE (.inl rfl)
   .rw [h3]
    refine fin _ _ _ cs L xs l m rfl hm hl h2 (by unfold maxLen at h7;omega) (.inr ⟨b,o,rfl,fun j u hj=>?_⟩)
    exact ZiP h1 h3 j u hj
  .simp at h
 .obtain ⟨l,hl,rfl⟩:=AD.1 h
  obtain ⟨A,cap,cs,L0,L1,rfl,h2,h3,h5,h6,h7,_⟩:=ZgL hx
  rename_i e' m' xs _
  refine fin _ _ _ cs L1 xs l _ rfl h5 hl h7 (by unfold maxLen at h3;omega) ?_
  rcases Nat.eq_zero_or_pos xs.length with h0|h0
  .exact .inl h0
  .obtain ⟨b,off,h8,h9,hc⟩:=h6.at_ h0
   exact .inr ⟨b,off,h8,hc⟩
 .simp at h
theorem Zxq [NW] (htt:∀t i,tt t=some i->TOk P t i) (hI:HI W g st.ob w) {s t:Nat}{x v:SV}{vx:Value}(h:ZgO tt st s t x=some v) (hx:SVR g w x vx):∃cv,(convert s t vx).run P w=.ok cv w/\SVR g w v cv/\svU U v:=by
 unfold ZgO at h
 split at h
 .rename_i hc
  simp only[AO]at hc
  exact Zwo htt hI hc.1 hc.2 h hx
 .exact Zyy htt h hx
theorem RCs.avr [NW] {e:List CT}{cs:List Value}{L:List Nat}:RCs w e cs L->(∀b∈L,¬g.own b)->ZD (AVR g w) (e.map .c) cs:=by
 induction e generalizing cs L with
 |nil=>intro h _;obtain ⟨rfl,rfl⟩:=h;trivial
 |cons x r ih=>
  rintro ⟨v,cs',L1,L2,rfl,rfl,h1,h2⟩ ho
  exact ⟨⟨L1,h1,fun b m=>ho b (by simp [m])⟩,ih h2 fun b m=>ho b (by simp [m])⟩
theorem Zj9 (a:Bool) (e:List CT):XD U (e.map AV.c):=fun y m=>by
 obtain ⟨x,_,rfl⟩:=BH.1 m;trivial
theorem ZpI [NW] (htt:∀t i,tt t=some i->TOk P t i) {t b lo off:Nat}{cs:List AV}{vs:List Value}{v:SV}(h:cut (tt t) cs off=some v) (hc:Za9 w b lo vs) (hr:ZD (AVR g w) cs vs) (hu:XD U cs):
  ∃cv,(Instr.loadAt t (.pointer (some ⟨b,lo+off,none⟩))).run P w=.ok cv w/\SVR g w v cv/\svU U v:=by
 have hlen:=hr.len
 have c:∀d,P.underlying t=some d->Zr8 d=false->∀x,cs[off]?=some x->∃cv,(Instr.loadAt t (.pointer (some ⟨b,lo+off,none⟩))).run P w=.ok cv w/\SVR g w (.p false [x]) cv/\svU U (.p false [x]):=fun d hd ha x hx=>by
  obtain ⟨u,h1,h2⟩:=hr.at hx
  refine ⟨u,?_,⟨x,rfl,h2⟩,fun y m=>by simp at m;subst m;exact hu y (Aj hx)⟩
  simp [Instr.loadAt,Instr.sureAddr,loadVar,Zhx hd,ha,load,Sem.run,hc off u h1]
 unfold cut at h
 split at h
 .rename_i fs n z k
  split at h<;>simp at h
  rename_i hn
  subst h
  obtain ⟨fields,i,zvs,h1,h2,h3,_⟩:=htt t _ k
  refine ⟨.agg ((vs.drop off).take n).toArray,?_,⟨_,rfl,(hr.drop off).take n⟩,fun y m=>hu y (BE (BF m))⟩
  have hl:((vs.drop off).take n).length=i.size:=by simp;omega
  have a:=run_loadCells_list (P:=P) w ⟨b,lo+off,none⟩ ((vs.drop off).take n) (fun j u hj=>by
   rw [ZcY,AQ]
   refine hc _ u ?_
   have l:j<n:=by
    have:=(AJ.1 hj).1
    simp at this;omega
   rw [BV,if_pos l,Ax]at hj
   exact hj)
  rw [hl]at a
  simp [Instr.loadAt,Instr.sureAddr,loadVar,Zhx h1,Zr8,YW h2,a]
 .simp at h
 .rename_i i k o f
  obtain ⟨x,hx,rfl⟩:=AD.1 h
  cases i with
  |atom z=>obtain ⟨d,zv,i,h1,h2,_⟩:=htt t _ f;exact c d h1 (ZwZ h2) x hx
  |strct fs n z=>exact absurd rfl (k _ _ _)
  |slice e m b z=>exact c _ (htt t _ f).1 rfl x hx
  |map kk vk=>
   obtain ⟨kt,et,_,_,_,_,h1,_⟩:=htt t _ f
   exact c _ h1 rfl x hx
  |ifc=>obtain ⟨ms,h1⟩:=htt t _ f;exact c _ h1 rfl x hx
  |eqs ks=>exact absurd rfl (o _)
 .simp at h
end
end
section
open Go.RowKit
section
variable {P:Program} {W:ZaA} {U:Nat->Prop} {key:Nat} {st:St} {g:Gh} {w:World} {a:Act} {tt:Nat->Option TI}
theorem HI.deep [NW] {ob:Nat->Ob}{k e m:Nat}{xs:List (List CT)}{d:Nat}(hI:HI W g ob w) (hk:ob k=.row e m xs d):0<m/\∃cs L,w.ownsV 0 e m (g.val k) xs.length cs/\REs w m xs cs L/\(∀b∈L,¬g.own b)/\((d=2/\g.O k=(g.val k).ownBlock.toList/\g.D k=L)\/(d=1/\g.O k=(g.val k).ownBlock.toList/\g.D k=[])\/(d=0/\g.O k=[]/\g.D k=[]/\∀b∈(g.val k).ownBlock.toList,¬g.own b)):=by
 have ho:=hI.obs k
 rw [hk]at ho
 obtain ⟨hm,cs,L,h1,h2,h4⟩:=ho
 refine ⟨hm,cs,L,h1,h2,?_,?_⟩
 .rcases h4 with ⟨_,_,h4⟩|⟨_,_,_,h4⟩|⟨_,_,_,h4⟩
  .rintro b mb (⟨j,mj⟩|hz)
   .by_cases a:j=k
    .subst a
     have:=hI.nodup j
     rw [AT]at this
     exact this.2.2 b mj b (h4 ▸ mb) rfl
    .exact hI.apart j k a b (by simp [mj]) (by simp [h4,mb])
   .exact hI.nz (k:=k) (by simp [h4,mb]) hz
  .exact h4
  .exact fun b mb=>h4 b (by simp [mb])
 .rcases h4 with h4|⟨q1,q2,q3,_⟩|⟨q1,q2,q3,q4⟩
  .exact .inl h4
  .exact .inr (.inl ⟨q1,q2,q3⟩)
  .exact .inr (.inr ⟨q1,q2,q3,fun b mb=>q4 b (by simp [mb])⟩)
theorem HI.deepO [NW] {ob:Nat->Ob}{k e m:Nat}{xs:List (List CT)}{d:Nat}(hI:HI W g ob w) (hk:ob k=.row e m xs d) (hd:¬d=0):0<m/\∃cs L,w.ownsV 0 e m (g.val k) xs.length cs/\REs w m xs cs L/\(∀b∈L,¬g.own b)/\g.O k=(g.val k).ownBlock.toList/\((d=2/\g.D k=L)\/(d=1/\g.D k=[])):=by
 obtain ⟨hm,cs,L,h1,h2,h3,h4⟩:=hI.deep hk
 refine ⟨hm,cs,L,h1,h2,h3,?_⟩
 rcases h4 with ⟨q1,q2,q3⟩|⟨q1,q2,q3⟩|⟨q1,_⟩
 .exact ⟨q2,.inl ⟨q1,q3⟩⟩
 .exact ⟨q2,.inr ⟨q1,q3⟩⟩
 .exact absurd q1 hd
theorem REs.at {m:Nat}:∀{xs:List (List CT)}{cs:List Value}{L:List Nat}{i:Nat}{e:List CT},REs w m xs cs L->xs[i]?=some e->
  ∃c L',RCs w e c L'/\c.length=m/\(∀b∈L',b∈L)/\∀j u,c[j]?=some u->cs[i*m+j]?=some u
 | [],_,_,_,_,_,h=>by simp at h
 |x::r,_,_,0,e,⟨c1,c2,L1,L2,rfl,rfl,h3,h4⟩,h=>by
  simp at h;subst h
  exact ⟨c1,L1,h3.1,h3.2,fun b mb=>by simp [mb],fun j u hu=>by
   rw [Nat.zero_mul,AH,List.getElem?_append_left (AJ.1 hu).1];exact hu⟩
 |x::r,_,_,i+1,e,⟨c1,c2,L1,L2,rfl,rfl,h3,h4⟩,h=>by
  obtain ⟨c,L',a1,a2,a3,a4⟩:=REs.at h4 (i:=i) (e:=e) (by simpa using h)
  refine ⟨c,L',a1,a2,fun b mb=>by simp [a3 b mb],fun j u hu=>?_⟩
  have hl:=h3.2
  rw [BN (by rw [AK];omega)]
  rw [<-a4 j u hu]
  congr 1
  rw [hl,AK];omega
theorem REs.len {m:Nat}:∀{xs:List (List CT)}{cs:List Value}{L:List Nat},REs w m xs cs L->cs.length=xs.length*m
 | [],_,_,h=>by simp [h.1]
 |x::r,_,_,⟨c1,c2,L1,L2,rfl,rfl,h3,h4⟩=>by simp [h3.2,REs.len h4,AK];omega
theorem ZBj [NW] (htt:∀t i,tt t=some i->TOk P t i) (hI:HI W g st.ob w) (hU:StU U st) {t e m a:Nat}{z:List AV}(p:tt t=some (.slice e m a z)) {x i v:SV}{vx vi:Value}(h:QT st m x i=some v) (hx:SVR g w x vx) (B:svU U x) (hi:SVR g w i vi):
  ∃cv,(Instr.indexAt t vx vi).run P w=.ok cv w/\SVR g w v cv/\svU U v:=by
 obtain ⟨hu,hm,_,⟨ie,zv,C,D,_⟩,_⟩:=htt t _ p
 have f:∀(b o n c:Nat) (k:IntKind) (q:Int),0<=q->q<n->(Instr.indexAt t (.slice (some ⟨b,o,none⟩) n c) (.int k q)).run P w=.ok (.pointer (some ⟨b,o+q.toNat*m,none⟩)) w:=fun b o n c k q h0 h1=>by
  simp [Instr.indexAt,asIntOf,Yt hu,h0,h1,YW C,D,ZcY]
 unfold QT at h
 split at h
 .have ei:=ZbG hi
  subst ei
  split at h
  .rename_i hq
   obtain ⟨x,l,rfl⟩:=AD.1 h
   obtain ⟨A,cap,cs,L0,L1,rfl,h2,h3,h5,h6,h7,ho⟩:=ZgL hx
   obtain ⟨h0,rfl⟩:=hq
   have hlt:=(AJ.1 l).1
   obtain ⟨b,off,rfl,rfl,hc⟩:=h6.at_ yE
   obtain ⟨c,L',a1,a2,a3,a4⟩:=h7.at l
   refine ⟨_,f b off _ _ _ _ h0 yE,⟨b,off+_,c,L',by rw [Ay],fun j u hj=>?_,a1,fun y my=>?_,?_⟩,trivial⟩
   .rw [AQ];exact hc _ u (a4 j u hj)
   .rcases AR.1 my with rfl|my
    .exact ho _ yG
    .exact ho _ (by simp [a3 y my])
   .exact h6.lt h5 b yG
  .simp at h
 .rename_i k _ _
  have ei:=ZbG hi
  subst ei
  split at h
  .rename_i e' m' xs d hk
   split at h
   .rename_i hq
    obtain ⟨h0,h1,rfl⟩:=hq
    simp only[AA]at h
    subst h
    have hv:=ZfE hx
    subst hv
    obtain ⟨_,cs,L,o1,_⟩:=hI.deep hk
    rcases o1.2 with ⟨_,hn⟩|⟨b,o,cap,cur,hv,_⟩
    .omega
    .refine ⟨_,by rw [hv];exact f b o _ _ _ _ h0 h1,⟨b,o,_,_,hv,yG⟩,by have:=B (.row k) yG;exact this⟩
   .simp at h
  .simp at h
 .simp at h
theorem ZxU [NW] (htt:∀t i,tt t=some i->TOk P t i) {t:Nat}{x i v:SV}{vx vi:Value}(h:ZlX (tt t) x i=some v) (hx:SVR g w x vx) (hi:SVR g w i vi):
  ∃cv,(Instr.index t vx vi).run P w=.ok cv w/\SVR g w v cv/\svU U v:=by
 unfold ZlX at h
 split at h
 .have ei:=ZbG hi
  subst ei
  obtain ⟨rfl,_⟩:=Zig hx
  split at h
  .rename_i hq
   obtain ⟨b,hb,rfl⟩:=AD.1 h
   refine ⟨_,?_,ZbS _ _,XE _⟩
   simp [Instr.index,asIntOf,Yt (Zhn htt hq.2),hq.1,hb]
  .simp at h
 .simp at h
theorem Ztu [NW] {e:List CT}{v:Value}(h:SVR g w (.p false [.c (.pt e)]) v):∃b cs L,v=.pointer (some ⟨b,0,none⟩)/\b<w.heap.size/\Za9 w b 0 cs/\RCs w e cs L/\∀x∈b::L,¬g.own x:=by
 obtain ⟨x,hx,h⟩:=h
 simp at hx
 subst hx
 obtain ⟨_,⟨b,cs,L,h1,h2,rfl,h4,h5⟩,ho⟩:=h
 exact ⟨b,cs,L,h1,h2,h4,h5,ho⟩
theorem Zuf [NW] (htt:∀t i,tt t=some i->TOk P t i) (hI:HI W g st.ob w) (hU:StU U st) {t:Nat}{x v:SV}{vx:Value}(h:Qb st (tt t) x=some v) (hx:SVR g w x vx):
  ∃cv,(Instr.loadAt t vx).run P w=.ok cv w/\SVR g w v cv/\svU U v:=by
 unfold Qb at h
 split at h
 .rename_i k off
  split at h
  .rename_i tb cs hk
   obtain ⟨b,h1,rfl⟩:=hx
   have ho:=hI.obs k
   rw [hk]at ho
   obtain ⟨b',vs,o1,o2,o3,o4,o5⟩:=ho
   have hb:b=b':=by rw [o1]at h1;simpa using h1.symm
   subst hb
   have hu:=hU.ob k
   rw [hk]at hu
   have hc:Za9 w b 0 vs:=fun j u hj=>by
    rw [AH,cell_of_row w b j vs.toArray tb (0,0) o4];simpa using hj
   have:=ZpI (P:=P) htt h hc o5 hu
   simpa using this
  .simp at h
 .rename_i k m i off
  split at h
  .rename_i e m' xs d hk
   obtain ⟨x,a,h'⟩:=AG.1 h
   obtain ⟨b,o,n,c,h1,rfl⟩:=hx
   obtain ⟨hm,cs,L,o1,o2,o3,_⟩:=hI.deep hk
   split at h'
   .rename_i f
    subst f
    obtain ⟨c',L',a1,a2,a3,a4⟩:=o2.at a
    have hc:Za9 w b (o+i*m) c':=fun j u hj=>by
     rw [AQ]
     exact ZiP o1 h1 (i*m+j) u (a4 j u hj)
    rw [<-AQ]
    exact ZpI htt h' hc (a1.avr fun y my=>o3 y (a3 y my)) (Zj9 true _)
   .simp at h'
  .simp at h
 .obtain ⟨b,lo,cs,L,rfl,h2,h3,h4,h5⟩:=hx
  exact ZpI htt h h2 (h3.avr fun y my=>h4 y (by simp [my])) (Zj9 true _)
 .obtain ⟨b,cs,L,rfl,h2,h3,h4,h5⟩:=Ztu hx
  have:=ZpI (P:=P) (U:=U) htt h h3 (h4.avr fun y my=>h5 y (by simp [my])) (Zj9 true _)
  simpa using this
 .simp at h
theorem ZzK [NW] {d:Nat}{x v:SV}{vx:Value}(h:Zke d x=some v) (hx:SVR g w x vx) (hu:svU U x):∃b o,vx=.pointer (some ⟨b,o,none⟩)/\SVR g w v (.pointer (some ⟨b,o+d,none⟩))/\svU U v:=by
 unfold Zke at h
 split at h<;>simp at h<;>subst h
 .obtain ⟨b,h1,rfl⟩:=hx;exact ⟨b,_,rfl,⟨b,h1,rfl⟩,hu⟩
 .obtain ⟨b,o,n,c,h1,rfl⟩:=hx;exact ⟨b,_,rfl,⟨b,o,n,c,h1,by simp only[AQ]⟩,hu⟩
 .obtain ⟨b,lo,cs,L,rfl,h⟩:=hx;exact ⟨b,_,rfl,⟨b,lo,cs,L,by rw [AQ],h⟩,trivial⟩
 .obtain ⟨b,cs,L,rfl,h2,h3,h4,h5⟩:=Ztu hx
  exact ⟨b,0,rfl,⟨b,0,cs,L,rfl,h3,h4,h5,h2⟩,trivial⟩
theorem ZAF [NW] (htt:∀t i,tt t=some i->TOk P t i) {t f n:Nat}{fs:List FI}{z:List AV}(c:tt t=some (.strct fs n z)) {fi:FI}(hf:fs[f]?=some fi) {x v:SV}{vx:Value}(h:Zke fi.off x=some v) (hx:SVR g w x vx) (hu:svU U x):
  ∃cv,(Instr.fieldAt t vx f).run P w=.ok cv w/\SVR g w v cv/\svU U v:=by
 obtain ⟨b,o,rfl,h1,h2⟩:=ZzK h hx hu
 obtain ⟨a,i,zvs,u1,_,_,_,_,u2⟩:=htt t _ c
 obtain ⟨fl,e1,e2,e3,j,d,e4,e5,_⟩:=u2.at hf
 have e:a[f]?=some fl:=by simpa using e1
 refine ⟨_,?_,h1,h2⟩
 simp [Instr.fieldAt,Yt u1,e,Instr.sureAddr,fieldPlace,YW e4,e5,e3,ZcY,e2]
theorem ZA0 [NW] (htt:∀t i,tt t=some i->TOk P t i) {t f n:Nat}{fs:List FI}{z:List AV}(c:tt t=some (.strct fs n z)) {x v:SV}{vx:Value}(h:Zmx fs f x=some v) (hx:SVR g w x vx) (hu:svU U x):
  ∃cv,(Instr.field t vx f).run P w=.ok cv w/\SVR g w v cv/\svU U v:=by
 unfold Zmx at h
 split at h
 .rename_i cs
  obtain ⟨fi,hf,h⟩:=AG.1 h
  obtain ⟨vs,rfl,hr⟩:=hx
  obtain ⟨a,i,zvs,u1,_,_,_,_,u2⟩:=htt t _ c
  obtain ⟨fl,e1,e2,e3,j,d,e4,e5,e6,e7⟩:=u2.at hf
  have b:a[f]?=some fl:=by simpa using e1
  have hlen:=hr.len
  split at h
  .rename_i ha
   split at h<;>simp at h
   rename_i hn
   subst h
   refine ⟨.agg ((vs.drop fi.off).take fi.size).toArray,?_,⟨_,rfl,(hr.drop _).take _⟩,fun y m=>hu y (BE (BF m))⟩
   simp [Instr.field,Yt u1,b,asAgg,part,Zhx e6,e7,ha,YW e4,e5,e2]
  .rename_i ha
   obtain ⟨y,hy,rfl⟩:=AD.1 h
   obtain ⟨u,b1,b2⟩:=hr.at hy
   refine ⟨u,?_,⟨y,rfl,b2⟩,fun z mz=>by simp at mz;subst mz;exact hu z (Aj hy)⟩
   simp [Instr.field,Yt u1,b,asAgg,part,Zhx e6,e7,ha,e2,b1]
 .simp at h
theorem ZyG [NW] {c:Bool}{x y:SV}{vc vx vy:Value}(hc:SVR g w (.p false [.c (.bool c)]) vc) (hx:SVR g w x vx/\svU U x) (hy:SVR g w y vy/\svU U y):
  ∃cv,(do pure (Next.value (if <-asBool vc then vx else vy)):Sem Next).run P w=.ok (.value cv) w/\SVR g w (if c=true then x else y) cv/\svU U (if c=true then x else y):=by
 have:=ZfZ hc
 subst this
 cases c
 .exact ⟨vy,by simp [asBool],by simpa using hy.1,by simpa using hy.2⟩
 .exact ⟨vx,by simp [asBool],by simpa using hx.1,by simpa using hx.2⟩
theorem ZAN [NW] {i:Nat}{x v:SV}{vx:Value}(h:Zw3 i x=some v) (hx:SVR g w x vx) (hu:svU U x):∃cv,(Instr.extract vx i).run P w=.ok cv w/\SVR g w v cv/\svU U v:=by
 unfold Zw3 at h
 split at h
 .obtain ⟨y,hy,rfl⟩:=AD.1 h
  obtain ⟨vs,rfl,hr⟩:=hx
  obtain ⟨u,b1,b2⟩:=hr.at hy
  exact ⟨u,by simp [Instr.extract,b1],b2,hu y (Aj hy)⟩
 .simp at h
theorem ZvU [NW] {lo:Bool}{x y v:SV}{vx vy:Value}{ts:Array TypeId}{ty:TypeId}(h:ZvY lo x y=some v) (hx:SVR g w x vx) (hy:SVR g w y vy):
  ∃cv,((if lo then Builtin.min_ ts ty #[vx,vy] else Builtin.max_ ts ty #[vx,vy]):Sem Value).run P w=.ok cv w/\SVR g w v cv/\svU U v:=by
 unfold ZvY at h
 split at h
 .have ex:=ZbG hx
  have ey:=ZbG hy
  subst ex ey
  simp only[AA]at h
  subst h
  refine ⟨_,?_,ZbS _ _,XE _⟩
  cases lo
  .simp [Builtin.max_,Builtin.max2]
  .simp [Builtin.min_,Builtin.min2]
 .simp at h
end
end
section
open Go.RowKit
theorem Zai {α:Type}(l:List α) (off:Nat) (vs:List α) (h:off+vs.length<=l.length):(splice l off vs).length=l.length:=by
 simp [splice];omega
theorem ZrF {α:Type}(l:List α) (n:Nat) (v:α) (r:List α) (h:n+(r.length+1)<=l.length):splice (l.set n v) (n+1) r=splice l n (v::r):=by
 unfold splice
 have e1:(l.set n v).take (n+1)=l.take n++[v]:=by
  rw [List.take_succ_eq_append_getElem (by simp;omega)]
  simp [List.take_set_of_le]
 have e2:(l.set n v).drop (n+1+r.length)=l.drop (n+(v::r).length):=by
  rw [List.drop_set_of_lt yE]
  congr 1
  simp;omega
 rw [e1,e2];simp
theorem Zol [NW] (off:Nat):∀(vs:List Value) (k:Nat) (a:Array Value),off+k+vs.length<=a.size->
  (vs.zipIdx k).foldl (fun (cs:Array Value) (p:Value×Nat)=>cs.setIfInBounds (off+p.2) p.1) a=(splice a.toList (off+k) vs).toArray
 | [],k,a,h=>by simp [splice]
 |v::r,k,a,h=>by
  rw [List.zipIdx_cons,Ae,Zol off r (k+1) _ (by simp at h ⊢;omega)]
  have:=ZrF a.toList (off+k) v r (by simpa using h)
  rw [<-this]
  simp [AQ]
theorem Zmq [NW] (off:Nat) (v:Value) (vs:List Value) (hv:v.cells=vs.toArray) (a:Array Value) (h:off+vs.length<=a.size):
  v.cells.zipIdx.foldl (fun cs (c,j)=>cs.setIfInBounds (off+j) c) a=(splice a.toList off vs).toArray:=by
 have:=Zol off vs 0 a (by simpa using h)
 rw [hv,<-Array.foldl_toList]
 simpa using this
section
variable {P:Program} {W:ZaA} {U:Nat->Prop} {key:Nat} {st:St} {g:Gh} {w:World} {a:Act} {tt:Nat->Option TI}
theorem ZD.splice {α β:Type}{R:α->β->Prop}{l vs:List α}{r us:List β}(h:ZD R l r) (h':ZD R vs us) (off:Nat):ZD R (splice l off vs) (splice r off us):=by
 unfold Go.Proofs.YtcaokdmjlknmmaaGreatDoor.splice
 rw [h'.len]
 exact (h.take _).append (h'.append (h.drop _))
theorem ZkL {l vs:List AV}(h:XD U l) (h':XD U vs) (off:Nat):XD U (splice l off vs):=by
 intro y m
 unfold splice at m
 rcases AB.1 m with m|m
 .exact h y (BF m)
 .rcases AB.1 m with m|m
  .exact h' y m
  .exact h y (BE m)
theorem ZtK [NW] {a:Nat->Option (Nat×Nat)}{fs:List FI}(hp:∀i fi,fs[i]?=some fi->a i=some (fi.off,fi.size)):
  ∀{b:List (Nat×SV)} {ps:List (Nat×Value)} {cs c:List AV} {vs:List Value},ZiV fs cs b=some c->ZD (fun p q=>p.1=q.1/\SVR g w p.2 q.2/\svU U p.2) b ps->ZD (AVR g w) cs vs->XD U cs->
   ∃d:List Value,Instr.fill a vs.toArray ps=some d.toArray/\ZD (AVR g w) c d/\XD U c
 | [],[],cs,c,vs,h,_,hr,hu=>by simp [ZiV]at h;subst h;exact ⟨vs,rfl,hr,hu⟩
 | [],_::_,_,_,_,_,h,_,_=>h.elim
 |_::_,[],_,_,_,_,h,_,_=>h.elim
 |(i,s)::r,(j,v)::ps,cs,c,vs,h,⟨⟨e,hs,hsu⟩,hps⟩,hr,hu=>by
  simp only at e hs hsu
  subst e
  cases s with
  |p ag us=>
   simp only[ZiV]at h
   obtain ⟨f,hf,h⟩:=AG.1 h
   split at h
   .rename_i hl
    obtain ⟨k,c1,c2⟩:=PVR.cells hs
    have hlen:=c2.len
    have hlen2:=hr.len
    obtain ⟨d,d1,d2,d3⟩:=ZtK hp h hps (hr.splice c2 f.off) (ZkL hu hsu f.off)
    refine ⟨d,?_,d2,d3⟩
    have l:v.cells.size=k.length:=by simp [c1]
    rw [Instr.fill,hp i f hf]
    simp only
    rw [if_neg (by simp [l];omega),Zmq f.off v k c1 _ (by simp;omega)]
    simpa using d1
   .simp at h
  |_=>simp [ZiV]at h
theorem ZD.of_map {α β γ:Type}{R:β->γ->Prop}(f:α->β) (h:α->γ):∀{l:List α},(∀x∈l,R (f x) (h x))->ZD R (l.map f) (l.map h)
 | [],_=>trivial
 |x::l,hh=>⟨hh x yG,ZD.of_map f h fun y m=>hh y (by simp [m])⟩
theorem ZiE [NW]:∀{z:List AV}{zvs:List Value},ZD (fun a v=>ZaV a v=true) z zvs->ZD (AVR g w) z zvs/\XD U z
 | [],[],_=>⟨trivial,fun _ m=>by simp at m⟩
 |x::z,v::zvs,h=>by
  obtain ⟨h1,h2⟩:=ZiE (z:=z) (zvs:=zvs) h.2
  refine ⟨⟨Zfm h.1,h1⟩,fun y m=>?_⟩
  rcases AR.1 m with rfl|m
  .have:=h.1
   cases y<;>first|trivial|simp [ZaV]at this
  .exact h2 y m
 | [],_::_,h=>h.elim
 |_::_,[],h=>h.elim
theorem ZoP:∀{fs:List FI}{a:List Field},ZD (fun (fi:FI) (f:Field)=>f.offset=fi.off/\fi.size≠0/\∃j d,P.info? f.type=some j/\j.size=fi.size/\P.underlying f.type=some d/\Zr8 d=fi.agg) fs a->
  a.mapM (fun f=>(P.info? f.type).map fun i=>(f.offset,i.size))=some (fs.map fun fi=>(fi.off,fi.size))
 | [],[],_=>rfl
 |fi::fs,f::a,⟨⟨h1,_,j,d,h2,h3,_⟩,h⟩=>by
  simp [List.mapM_cons,h2,h3,h1,ZoP h]
 | [],_::_,h=>h.elim
 |_::_,[],h=>h.elim
theorem Zw4 [NW] (htt:∀t i,tt t=some i->TOk P t i) (hS:∀t,SVR g w (st.sl t) (a.tmps.getD t undef)) (hU:StU U st) {t n:Nat}{fs:List FI}{z:List AV}(f:tt t=some (.strct fs n z)) {b:Array (Nat×Operand)}{cs:List AV}(h:ZiV fs z (b.toList.map (Zgg tt st fs z))=some cs):
  ∃cv,(Instr.build t (b.map fun (i,x)=>(i,a.eval x))).run P w=.ok cv w/\SVR g w (.p true cs) cv/\svU U (.p true cs):=by
 obtain ⟨fields,i,zvs,u1,u2,u3,u4,u5,u6⟩:=htt t _ f
 obtain ⟨hz,j⟩:=ZiE (g:=g) (w:=w) (U:=U) u5
 have c:ZD (fun (p:Nat×SV) (q:Nat×Value)=>p.1=q.1/\SVR g w p.2 q.2/\svU U p.2) (b.toList.map (Zgg tt st fs z)) (b.toList.map fun p=>(p.1,a.eval p.2)):=by
  refine ZD.of_map _ _ fun p _=>?_
  unfold Zgg
  split
  .rename_i hc
   rw [hc]
   refine ⟨rfl,?_⟩
   dsimp only
   split
   .exact ⟨⟨_,rfl,rfl⟩,fun y m=>by simp at m;subst m;trivial⟩
   .exact ⟨trivial,trivial⟩
  .have:=ZkE htt hS hU 0 p.2
   exact ⟨rfl,this⟩
 have k:∀(i:Nat) (fi:FI),fs[i]?=some fi->((fs.map fun (fi:FI)=>(fi.off,fi.size)).toArray[i]?)=some (fi.off,fi.size):=fun i fi hf=>by simp [hf]
 obtain ⟨d,d1,d2,d3⟩:=ZtK k h c hz j
 refine ⟨.agg d.toArray,run_build w t _ _ ?_,⟨d,rfl,d2⟩,d3⟩
 unfold Program.built
 simp only[u1,u2,u4,ZoP u6]
 have e:(b.map fun (x:Nat×Operand)=>(x.1,a.eval x.2)).toList=b.toList.map fun p=>(p.1,a.eval p.2):=by simp
 have e2:(b.map fun x=>match x with|(i,x)=>(i,a.eval x))=b.map fun (x:Nat×Operand)=>(x.1,a.eval x.2):=rfl
 rw [e2,e]
 exact d1
theorem Sl.sub {m n:Nat}{A:Option Addr}{cs:List Value}{L:List Nat}(h:Sl w m A n cs L) (l q cap:Nat) (hm:0<m) (hq:l+q<=n) (hcap:n<=cap):
  ∃A' L',A'=(if cap=l then A else A.map (·.add (l*m)))/\Sl w m A' q ((cs.drop (l*m)).take (q*m)) L'/\∀b∈L',b∈L:=by
 have hlen:=h.1
 have hlm:l*m+q*m<=n*m:=by rw [<-AK];exact Nat.mul_le_mul_right m hq
 refine ⟨_,if q=0 then [] else L,rfl,⟨by simp;omega,?_⟩,fun b mb=>?_⟩
 .by_cases a:q=0
  .exact .inl ⟨a,by simp [a]⟩
  .rcases h.2 with ⟨h0,_⟩|⟨_,b,off,rfl,rfl,hc⟩
   .omega
   .refine .inr ⟨yE,b,off+l*m,by rw [if_neg yE];simp [ZcY],by simp [a],fun j u hj=>?_⟩
    rw [AQ]
    refine hc _ u ?_
    have c:j<q*m:=by
     have:=(AJ.1 hj).1
     simp at this;omega
    rw [BV,if_pos c,Ax]at hj
    exact hj
 .split at mb
  .simp at mb
  .exact mb
theorem REs.drop {m:Nat}:∀{xs:List (List CT)}{cs:List Value}{L:List Nat}(l:Nat),REs w m xs cs L->∃L',REs w m (xs.drop l) (cs.drop (l*m)) L'/\∀b∈L',b∈L
 |xs,cs,L,0,h=>⟨L,by simpa using h,fun _ mb=>mb⟩
 | [],cs,L,l+1,h=>⟨[],by obtain ⟨rfl,rfl⟩:=h;simp [REs],yG⟩
 |x::r,_,_,l+1,⟨c1,c2,L1,L2,rfl,rfl,h3,h4⟩=>by
  obtain ⟨L',h5,h6⟩:=REs.drop l h4
  refine ⟨L',?_,fun b mb=>by simp [h6 b mb]⟩
  have e:(l+1)*m=c1.length+l*m:=by rw [h3.2,AK];omega
  have e2:(c1++c2).drop (c1.length+l*m)=c2.drop (l*m):=by
   rw [BW,BX (Nat.le_add_right _ _),An,Nat.add_sub_cancel_left]
  rw [e,e2]
  simpa using h5
theorem REs.take {m:Nat}:∀{xs:List (List CT)}{cs:List Value}{L:List Nat}(l:Nat),REs w m xs cs L->∃L',REs w m (xs.take l) (cs.take (l*m)) L'/\∀b∈L',b∈L
 |xs,cs,L,0,h=>⟨[],by simp [REs],yG⟩
 | [],cs,L,l+1,h=>⟨[],by obtain ⟨rfl,rfl⟩:=h;simp [REs],yG⟩
 |x::r,_,_,l+1,⟨c1,c2,L1,L2,rfl,rfl,h3,h4⟩=>by
  obtain ⟨L',h5,h6⟩:=REs.take l h4
  refine ⟨L1++L',?_,fun b mb=>by
   rcases AB.1 mb with mb|mb
   .simp [mb]
   .simp [h6 b mb]⟩
  have e:(l+1)*m=c1.length+l*m:=by rw [h3.2,AK];omega
  rw [e,List.take_length_add_append]
  exact ⟨c1,_,L1,L',rfl,rfl,h3,h5⟩
theorem Zod {k:IntKind}{i:Int}{y:Nat}{a:BoundsCode}(h0:0<=i) (h1:i<=y):(Instr.sliceBound (.int k i) y a).run P w=.ok i.toNat w:=by
 simp [Instr.sliceBound,asIntOf,h0,h1]
def Zme [NW] (g:Gh) (w:World):Option SV->Option Value->Prop
 |none,none=>True
 |some s,some u=>SVR g w s u
 |_,_=>False
theorem Ziz [NW] {lo hi:Option SV}{vlo vhi:Option Value}{len cap l h:Nat}{b:Bool}(hh:hiB len hi=some h) (hl:loB h lo=some l) (hlo:Zme g w lo vlo) (hhi:Zme g w hi vhi) (hc:len<=cap):
  (Instr.sliceBounds b len cap vlo vhi none).run P w=.ok (l,h,cap) w/\l<=h/\h<=len:=by
 have e1 : ((match vhi, (none : Option Value) with | some v, some _ => Instr.sliceBound v cap .slice3B | some v, none => Instr.sliceBound v cap (if b then .sliceAcap else .sliceAlen) | none, none => pure len | none, some _ => stuck "Slice: max without high") : Sem Nat).run P w = .ok h w ∧ h ≤ len := by
  unfold hiB at hh
  split at hh
  .simp only[AA]at hh
   subst hh
   cases vhi with
   |none=>exact ⟨rfl,AM _⟩
   |some v=>exact hhi.elim
  .split at hh<;>simp only[AA,reduceCtorEq]at hh
   rename_i hq
   subst hh
   cases vhi with
   |none=>exact hhi.elim
   |some v=>
    have e:=ZbG hhi
    subst e
    exact ⟨Zod hq.1 yE,yE⟩
  .simp at hh
 have e2:((match vlo with|some v=>Instr.sliceBound v h .sliceB|none=>pure 0):Sem Nat).run P w=.ok l w/\l<=h:=by
  unfold loB at hl
  split at hl
  .simp only[AA]at hl
   subst hl
   cases vlo with
   |none=>exact ⟨rfl,AU _⟩
   |some v=>exact hlo.elim
  .split at hl<;>simp only[AA,reduceCtorEq]at hl
   rename_i hq
   subst hl
   cases vlo with
   |none=>exact hlo.elim
   |some v=>
    have e:=ZbG hlo
    subst e
    exact ⟨Zod hq.1 hq.2,yE⟩
  .simp at hl
 refine ⟨?_,e2.2,e1.2⟩
 unfold Instr.sliceBounds
 simp only[Sem.run_bind,Sem.run_pure,Result.andThen_ok,Option.isSome_none,Bool.false_eq_true,if_false]
 have e1':=e1.1
 have e2':=e2.1
 cases vhi<;>cases vlo<;>simp_all
theorem ZqS [NW] (htt:∀t i,tt t=some i->TOk P t i) {t:Nat}{x v:SV}{lo hi:Option SV}{vx:Value}{vlo vhi:Option Value}(h:ZlZ (tt t) lo hi x=some v) (hx:SVR g w x vx)
  (f:Zme g w lo vlo) (j:Zme g w hi vhi):∃cv,(Instr.sliceAt t vx vlo vhi none).run P w=.ok cv w/\SVR g w v cv/\svU U v:=by
 unfold ZlZ at h
 split at h
 .rename_i s
  split at h
  .rename_i k
   have hu:=Zhn htt k
   obtain ⟨q,hq,h⟩:=AG.1 h
   obtain ⟨l,hl,rfl⟩:=AD.1 h
   obtain ⟨rfl,hs⟩:=Zig hx
   obtain ⟨b1,b2,b3⟩:=Ziz (P:=P) (b:=false) hq hl f j (AM _)
   refine ⟨_,?_,Zld (by rw [ByteArray.size_extract];omega),XE _⟩
   simp [Instr.sliceAt,Yt hu,Instr.slice,b1]
  .simp at h
 .rename_i e m xs
  split at h
  .rename_i d
   obtain ⟨q,hq,h⟩:=AG.1 h
   obtain ⟨l,hl,rfl⟩:=AD.1 h
   obtain ⟨A,cap,cs,L0,L1,rfl,h2,h3,h5,h6,h7,ho⟩:=ZgL hx
   obtain ⟨b1,b2,b3⟩:=Ziz (P:=P) (b:=true) hq hl f j h2
   obtain ⟨e',b',z',o⟩:∃e' b' z',tt t=some (.slice e' m b' z'):=by
    unfold Zkh at d
    split at d
    .rename_i h1;subst d;exact ⟨_,_,_,h1⟩
    .omega
   obtain ⟨hu,_,_,⟨ie,zv,u,y,_⟩,_⟩:=htt t _ o
   have fin:SVR g w (.p false [.c (.sl e m ((xs.take q).drop l))]) (.slice (if cap=l then A else A.map (·.add (l*m))) (q - l) (cap - l)):=by
    obtain ⟨A',L',rfl,s1,s2⟩:=h6.sub l (q - l) cap h5 yE h2
    obtain ⟨M1,r1,r2⟩:=h7.take q
    obtain ⟨M2,r3,r4⟩:=r1.drop l
    have a:((xs.take q).drop l).length=q - l:=by simp;omega
    have e1:(cs.drop (l*m)).take ((q - l)*m)=(cs.take (q*m)).drop (l*m):=by
     rw [List.drop_take,Nat.sub_mul]
    rw [e1]at s1
    refine ⟨_,rfl,L'++M2,⟨_,_,_,L',M2,by rw [a],by rw [a];omega,yE,rfl,h5,by rw [a];exact s1,r3⟩,fun b mb=>?_⟩
    rcases AB.1 mb with mb|mb
    .exact ho b (by simp [s2 b mb])
    .exact ho b (by simp [r2 b (r4 b mb)])
   refine ⟨_,?_,fin,XE _⟩
   simp [Instr.sliceAt,Yt hu,Instr.slice,b1,YW u,y]
  .simp at h
 .simp at h
end
end
section
open Go.RowKit
theorem ZB {α:Type}(f:Nat->α) (k:Nat) (v:α):upd f k v k=v:=by simp [upd]
theorem ZP {α:Type}(f:Nat->α) {k j:Nat}(v:α) (h:j≠k):upd f k v j=f j:=by simp [upd,h]
theorem Yd (ob:Nat->Ob) (u v:List (Nat×Ob)):Zh ob (u++v)=Zh (Zh ob u) v:=by
 induction u generalizing ob with
 |nil=>rfl
 |cons p r ih=>exact ih _
theorem ZeN:∀(ks:List Nat) (ob:Nat->Ob) (k:Nat),Zh ob (Yc ks) k=if k∈ks then .gone else ob k
 | [],ob,k=>by simp [Yc,Zh]
 |x::ks,ob,k=>by
  have:Yc (x::ks)=(x,Ob.gone)::Yc ks:=rfl
  rw [this,Zh,ZeN ks]
  by_cases h1:k∈ks
  .simp [h1]
  .by_cases h2:k=x
   .subst h2;simp [upd]
   .simp [h1,h2,upd]
theorem QY [NW] (ks:List Nat) (ob:Nat->Ob) (key:Nat) (o:Ob) (k:Nat):Zh ob (Yc ks++[(key,o)]) k=if k=key then o else if k∈ks then .gone else ob k:=by
 rw [Yd]
 simp only[Zh,upd,ZeN]
def Gh.turn (g:Gh) (ks:List Nat) (key:Nat) (v:Value) (O D:List Nat):Gh:=
 ⟨upd g.val key v,fun k=>if k=key then O else if k∈ks then [] else g.O k,fun k=>if k=key then D else if k∈ks then [] else g.D k,g.Z⟩
section
variable {P:Program} {W:ZaA} {U:Nat->Prop} {key:Nat} {st:St} {g:Gh} {w w':World} {a:Act} {tt:Nat->Option TI}
theorem Zfn {ks:List Nat}{v:Value}{O D:List Nat}{b:Nat}(h:(g.turn ks key v O D).own b):b∈O\/(∃k,k∉ks/\k≠key/\b∈g.O k)\/g.Z b:=by
 rcases h with ⟨k,hk⟩|h
 .simp only[Gh.turn]at hk
  split at hk
  .exact .inl hk
  .rename_i h1
   split at hk
   .simp at hk
   .rename_i h2;exact .inr (.inl ⟨k,h2,h1,hk⟩)
 .exact .inr (.inr h)
theorem Zn9 {n:Nat}{ks:List Nat}{v:Value}{O D:List Nat}(hO:∀b∈O,(∃k∈ks,b∈g.O k)\/n<=b) (hD:∀b∈D,(∃k∈ks,b∈g.O k++g.D k)\/n<=b):X7 g (g.turn ks key v O D) n:=by
 refine .of (fun b hb=>?_) fun j b mb=>?_
 .rcases Zfn hb with m|⟨k,_,_,m⟩|m
  .rcases hO b m with ⟨k,_,m⟩|m
   .exact .inl (.inl ⟨k,m⟩)
   .exact .inr m
  .exact .inl (.inl ⟨k,m⟩)
  .exact .inl (.inr m)
 .simp only[Gh.turn]at mb
  split at mb
  .refine (hD b mb).imp (fun ⟨k,_,mk⟩=>?_) id
   rcases AB.1 mk with m1|m1
   .exact .inl (.inl ⟨k,m1⟩)
   .exact .inr ⟨k,m1⟩
  .split at mb
   .simp at mb
   .exact .inl (.inr ⟨j,mb⟩)
theorem HI.turn [NW] {ob:Nat->Ob}(h:HI W g ob w) (i:∀k,obU U (ob k)) (c:¬U key) (ks:List Nat) (z:∀k∈ks,U k)
  (l:Bel W w') (A:w.heap.size<=w'.heap.size) (hw:∀b,b<w.heap.size->(∀k∈ks,b∉g.O k)->w'.heap[b]?=w.heap[b]?)
  {v:Value} {O D:List Nat} {o:Ob} (hO:∀b∈O,(∃k∈ks,b∈g.O k)\/w.heap.size<=b) (hD:∀b∈D,(∃k∈ks,b∈g.O k++g.D k)\/w.heap.size<=b)
  (B:(O++D).Nodup) (C:∀b∈O++D,(W.heap.size<=b\/W.x b\/W.y b)/\YZ w' o b)
  (E:X7 g (g.turn ks key v O D) w.heap.size->ObR (g.turn ks key v O D) w' key o):
  HI W (g.turn ks key v O D) (Zh ob (Yc ks++[(key,o)])) w'/\∀x u,svU U x->SVR g w x u->SVR (g.turn ks key v O D) w' x u:=by
 have hkk:key∉ks:=fun m=>c (z key m)
 have d:∀k,U k->(g.turn ks key v O D).val k=g.val k:=fun k hk=>ZP _ _ fun e=>c (e ▸ hk)
 have a:X7 g (g.turn ks key v O D) w.heap.size:=Zn9 hO hD
 have f:∀b∈O++D,(∃k∈ks,b∈g.O k++g.D k)\/w.heap.size<=b:=fun b m=>by
  rcases AB.1 m with m|m
  .exact (hO b m).imp (fun ⟨k,h1,h2⟩=>⟨k,h1,by simp [h2]⟩) id
  .exact hD b m
 refine ⟨h.step (fun k=>k=key\/k∈ks) l rfl (fun b hb hn=>hw b hb fun k hk=>hn k (.inr hk)) (fun k hk=>?_) i d a (fun k hk=>?_),fun x u hx hu=>hu.move hx d (fun b hb hn=>hw b hb fun k _ m=>hn (.inl ⟨k,m⟩)) a A⟩
 .have h1:k≠key:=fun e=>hk (.inl e)
  have h2:k∉ks:=fun e=>hk (.inr e)
  rw [QY]
  simp [Gh.turn,h1,h2,upd]
 .rw [QY]
  by_cases h1:k=key
  .subst h1
   have eO:(g.turn ks k v O D).O k=O:=by simp [Gh.turn]
   have eD:(g.turn ks k v O D).D k=D:=by simp [Gh.turn]
   rw [if_pos rfl,eO,eD]
   refine ⟨E a,B,C,fun j hj b m mj=>?_⟩
   have p:¬j=k:=fun e=>hj e.symm
   by_cases h2:j∈ks
   .simp [Gh.turn,p,h2]at mj
   .have t:b∈g.O j++g.D j:=by simpa [Gh.turn,p,h2]using mj
    rcases f b m with ⟨q,q1,q2⟩|q
    .exact h.apart q j (fun e=>h2 (e ▸ q1)) b q2 t
    .have:=h.lt j b t;omega
  .have h2:k∈ks:=hk.resolve_left h1
   have eO:(g.turn ks key v O D).O k=[]:=by simp [Gh.turn,h1,h2]
   have eD:(g.turn ks key v O D).D k=[]:=by simp [Gh.turn,h1,h2]
   rw [if_neg h1,if_pos h2,eO,eD]
   exact ⟨⟨eO,eD⟩,yG,yG,yG⟩
theorem ZiT [NW] (hU:StU U st) (ks:List Nat) {o:Ob}(ho:obU (Uk U key) o):(∀k,obU (Uk U key) (Zh st.ob (Yc ks++[(key,o)]) k))/\∀k,¬Uk U key k->Zh st.ob (Yc ks++[(key,o)]) k=.gone:=by
 constructor
 .intro k
  rw [QY]
  split
  .exact ho
  .split
   .trivial
   .exact (hU.ob k).mono fun _=>.inl
 .intro k hk
  rw [QY,if_neg (fun e=>hk (.inr yE))]
  split
  .rfl
  .exact hU.gone k fun h=>hk (.inl h)
theorem ZjV:Uk U key key:=.inr yE
theorem Zw2 [NW] (hI:HI W g st.ob w) (hU:StU U st) (a:¬U key) {t:TypeId}{cs:List AV}{vs:List Value}(hr:ZD (AVR g w) cs vs) (hu:XD U cs) {s:Sem Next}
  (d:s.run P w=.ok (.value (.pointer (some ⟨w.heap.size,0,none⟩))) (w.alloc (.cells vs.toArray t))):Fin P W U key st g w s (.bp key 0,[(key,.box t cs)]):=by
 have hb:Below w.heap.size w (w.alloc (.cells vs.toArray t)):=(Below.refl _ _).alloc (AM _) _
 obtain ⟨h1,h2⟩:=hI.turn (key:=key) (U:=U) (w':=w.alloc (.cells vs.toArray t)) (v:=.pointer (some ⟨w.heap.size,0,none⟩)) (O:=[w.heap.size]) (D:=[]) (o:=.box t cs) hU.ob a [] yG
  (hI.below.trans hb) hb.size (fun b c _=>hb.block b c) yG yG yG (fun b m=>by
   simp at m;subst m;exact ⟨.inl hI.below.size,_,_,heap_alloc_new w _⟩) (fun f=>⟨w.heap.size,vs,by simp [Gh.turn,upd],by simp [Gh.turn],by simp [Gh.turn],heap_alloc_new w _,
    AVRs.move hr hu (fun k hk=>ZP _ _ fun e=>a (e ▸ hk)) (fun b c _=>hb.block b c) f⟩)
 have i:=ZiT (key:=key) (o:=.box t cs) hU [] (XD.mono (fun _=>.inl) hu)
 exact ⟨_,_,_,.inl d,h1,⟨w.heap.size,by simp [Gh.turn,upd],rfl⟩,h2,ZjV,i.1,i.2⟩
theorem ZjY (b:Nat) (cs a:Array Value) (t:TypeId) (hb:w.heap[b]?=some (.cells cs t (0,0))):(w.setRow b a).heap[b]?=some (.cells a t (0,0))/\(∀k,k≠b->(w.setRow b a).heap[k]?=w.heap[k]?)/\(w.setRow b a).heap.size=w.heap.size/\(w.setRow b a).os=w.os/\(w.setRow b a).tape=w.tape/\(w.setRow b a).output=w.output:=by
 refine ⟨setRow_heap w b cs a t _ hb,fun k hk=>?_,?_,rfl,rfl,rfl⟩
 .have c:¬b=k:=fun e=>hk e.symm
  simp [World.setRow,Array.getElem?_modify,c]
 .simp [World.setRow]
theorem ZwF [NW] (htt:∀t i,tt t=some i->TOk P t i) (hI:HI W g st.ob w) (hU:StU U st) {t k off tb:Nat}{cs vs:List AV}{va vv:Value}{ag:Bool}(hk:st.ob k=.box tb cs) (hl:vs.length=ZfN (tt t)) (ho:off+vs.length<=cs.length)
  (ha:SVR g w (.bp k off) va) (hv:SVR g w (.p ag vs) vv) (o:XD U vs) (a:0<vs.length) {s:Sem Next} (hs:s=(do Instr.storeAt t va vv;pure .skip)):Fin P W U key st g w s (.und,[(k,.box tb (splice cs off vs))]):=by
 obtain ⟨b,h1,rfl⟩:=ha
 have v:=hI.obs k
 rw [hk]at v
 obtain ⟨b',us,o1,o2,o3,o4,o5⟩:=v
 have hb:b=b':=by rw [o1]at h1;simpa using h1.symm
 subst hb
 have hlen:=o5.len
 obtain ⟨xs,c1,c2⟩:=PVR.cells hv
 have C:=c2.len
 have c:=hU.ob k
 rw [hk]at c
 obtain ⟨r1,r2,r3,r4,r5,r6⟩:=ZjY b us.toArray (splice us off xs).toArray tb o4
 have f:(sizeOf t).run P w=.ok xs.length w:=by
  rw [<-C,hl]
  unfold ZfN at hl ⊢
  cases hti:tt t with
  |none=>rw [hti]at hl;simp at hl;simp [hl]at a
  |some i=>
   cases i with
   |atom z=>obtain ⟨d,zv,i,_,_,h3,_,h4,_⟩:=htt t _ hti;rw [YW h3,h4]
   |strct fs n z=>obtain ⟨_,i,_,_,h3,h4,_⟩:=htt t _ hti;rw [YW h3,h4]
   |slice e m b z=>obtain ⟨_,_,_,_,j,h3,h4,_⟩:=htt t _ hti;rw [YW h3,h4]
   |_=>rw [hti]at hl;simp at hl;simp [hl]at a
 have y:=run_storeCells_at (P:=P) b off tb xs 0 us.toArray w o4 (by simp;omega) (AVRs.one c2)
 have A:s.run P w=.ok .skip (w.setRow b (splice us off xs).toArray):=by
  subst hs
  have e:(us.toArray.toList.take (off+0)++xs++us.toArray.toList.drop (off+0+xs.length)).toArray=(splice us off xs).toArray:=by simp [splice]
  rw [e]at y
  simp [Instr.storeAt,Instr.sureAddr,storeVar,c1,f,y]
 have l:∀b',b'<w.heap.size->¬g.own b'->(w.setRow b (splice us off xs).toArray).heap[b']?=w.heap[b']?:=fun b' _ hn=>r2 b' fun e=>hn (.inl ⟨k,by simp [o2,e]⟩)
 have B:W.heap.size<=b\/W.x b:=hI.oy k b (by simp [o2])
 refine ⟨g,undef,_,.inr ⟨A,rfl⟩,?_,rfl,fun x u hx hu=>hu.move hx (fun _ _=>rfl) l (X7.refl _ _) yE,trivial,fun q=>?_,fun q hq=>?_⟩
 .refine hI.step (U:=U) (fun q=>q=k) ?_ rfl (fun b' _ hn=>r2 b' fun e=>hn k rfl (by simp [o2,e])) (fun q hq=>⟨ZP _ _ hq,rfl,rfl,rfl⟩) hU.ob (fun _ _=>rfl) (X7.refl _ _) (fun q hq=>?_)
  .exact ⟨r4.trans hI.below.os,r5.trans hI.below.tape,r6.trans hI.below.output,by have:=hI.below.size;omega,fun q hq hx=>by rw [r2 q (fun e=>by subst e;rcases B with h|h;omega;exact hx h)];exact hI.below.block q hq hx⟩
  .subst hq
   refine ⟨?_,hI.nodup q,fun b' m=>?_,hI.apart q⟩
   .simp only[Zh,ZB]
    exact ⟨b,_,o1,o2,o3,r1,(AVRs.move o5 c (fun _ _=>rfl) l (X7.refl _ _)).splice (AVRs.move c2 o (fun _ _=>rfl) l (X7.refl _ _)) off⟩
   .simp [o2,o3]at m
    subst m
    refine ⟨B.imp_right .inl,?_⟩
    simp only[Zh,ZB]
    exact ⟨_,_,r1⟩
 .simp only[Zh,upd]
  split
  .exact XD.mono (fun _=>.inl) (ZkL c o off)
  .exact (hU.ob q).mono fun _=>.inl
 .simp only[Zh,upd]
  split
  .rename_i e;subst e
   exact absurd (hU.gone q fun h=>hq (.inl h)) (by simp [hk])
  .exact hU.gone q fun h=>hq (.inl h)
end
end
section
open Go.RowKit
section
variable {P:Program} {W:ZaA} {U:Nat->Prop} {key:Nat} {st:St} {g:Gh} {w w':World} {a:Act} {tt:Nat->Option TI}
def Gh.F (g:Gh) (ks:List Nat):List Nat:=ks.flatMap fun k=>g.O k++g.D k
def FP (g:Gh) (ks:List Nat) (d:Nat) (L:List Nat):Prop:=(d=2->L.Sublist (g.F ks))/\d<=2/\0<d/\∀b∈L,¬g.own b\/∃k∈ks,b∈g.O k
theorem FP.nil:FP g [] 2 []:=⟨fun _=>by simp [Gh.F],yG⟩
theorem FP.append {ks a:List Nat}{d d':Nat}{L L':List Nat}(h:FP g ks d L) (h':FP g a d' L'):FP g (ks++a) (ZaU d d') (L++L'):=by
 have q1:=h.2.1
 have q2:=h'.2.1
 have q3:=h.2.2.1
 have q4:=h'.2.2.1
 refine ⟨fun hd=>?_,by unfold ZaU;split<;>omega,by unfold ZaU;split<;>omega,fun b m=>?_⟩
 .have c:d=2/\d'=2:=by unfold ZaU at hd;split at hd<;>omega
  simp only[Gh.F,BY]
  exact BG (h.1 c.1) (h'.1 c.2)
 .rcases AB.1 m with m|m
  .exact (h.2.2.2 b m).imp id fun ⟨k,h1,h2⟩=>⟨k,by simp [h1],h2⟩
  .exact (h'.2.2.2 b m).imp id fun ⟨k,h1,h2⟩=>⟨k,by simp [h1],h2⟩
theorem HI.nodupF [NW] {ob:Nat->Ob}(hI:HI W g ob w):∀{ks:List Nat},ks.Nodup->(g.F ks).Nodup
 | [],_=>by simp [Gh.F]
 |k::ks,h=>by
  simp only[Gh.F,Ag,AT]
  rw [Al]at h
  refine ⟨AT.1 (hI.nodup k),hI.nodupF h.2,fun x hx y hy e=>?_⟩
  subst e
  obtain ⟨j,hj,hy⟩:=AI.1 hy
  exact hI.apart k j (fun e=>h.1 (e ▸ hj)) x hx hy
theorem Zfj {ks:List Nat}{b:Nat}(h:b∈g.F ks):∃k∈ks,b∈g.O k++g.D k:=by simpa [Gh.F]using h
theorem Sl.row {B e m n:Nat}{v:Value}{cs:List Value}(h:w.ownsV B e m v n cs):∃A cap L0,v=.slice A n cap/\n<=cap/\cap<=maxLen/\Sl w m A n cs L0/\L0.Sublist v.ownBlock.toList:=by
 obtain ⟨A,cap,rfl,h1,h2⟩:=Zav h
 obtain ⟨L0,h3,_,h4⟩:=Sl.of_ownV h
 refine ⟨A,cap,L0,rfl,h1,h2,h3,?_⟩
 rcases h3.2 with ⟨_,rfl⟩|⟨_,b,off,rfl,rfl,_⟩
 .exact List.nil_sublist _
 .simp [Value.ownBlock]
theorem NR.toC [NW] {x:CT}{v:Value}(h:NR g w x v):∃L,RC w x v L/\∀b∈L,¬g.own b:=by
 obtain ⟨e,m,xs,cs,L,rfl,h2,h3,h4,h5,h6⟩:=h
 obtain ⟨A,cap,L0,s1,s2,s3,s4,s5⟩:=Sl.row h3
 refine ⟨L0++L,⟨A,cap,cs,L0,L,s1,s2,s3,rfl,h2,s4,h4⟩,fun b mb o=>(h6 b ?_).1 (.inl o)⟩
 rcases AB.1 mb with m1|m1
 .simp [s5.subset m1]
 .simp [m1]
theorem ZzI [NW] (hI:HI W g st.ob w) {x:AV}{ct:CT}{ks:List Nat}{d:Nat}{v:Value}(h:avT st x=some (ct,ks,d)) (hx:AVR g w x v) (hu:avU U x):∃L,RC w ct v L/\FP g ks d L/\∀k∈ks,U k:=by
 cases x with
 |c y=>
  obtain ⟨L,h1,h2⟩:=hx
  cases y<;>simp only[avT,AA,AC]at h<;>obtain ⟨rfl,rfl,rfl⟩:=h
  .exact ⟨L,h1,⟨fun _=>by rw [h1.2];simp [Gh.F],yG,yG,fun b m=>.inl (h2 b m)⟩,yG⟩
  .exact ⟨L,h1,⟨fun _=>by rw [h1.2];simp [Gh.F],yG,yG,fun b m=>.inl (h2 b m)⟩,yG⟩
  .exact ⟨L,h1,⟨fun _=>by rw [h1.2.1];simp [Gh.F],yG,yG,fun b m=>.inl (h2 b m)⟩,yG⟩
  all_goals exact ⟨L,h1,⟨fun e=>by simp at e,yG,yG,fun b m=>.inl (h2 b m)⟩,yG⟩
 |row k=>
  simp only[avT]at h
  split at h
  .rename_i e m xs d' hk
   obtain ⟨hm,cs,L1,o1,o2,o3,o5⟩:=hI.deep hk
   obtain ⟨A,cap,L0,s1,s2,s3,s4,s5⟩:=Sl.row o1
   have a:RC w (.sl e m xs) v (L0++L1):=⟨A,cap,cs,L0,L1,by rw [hx.1,s1],s2,s3,rfl,hm,s4,o2⟩
   split at h
   .rename_i f
    simp only[AA,AC]at h
    obtain ⟨rfl,rfl,rfl⟩:=h
    refine ⟨L0++L1,a,⟨fun e=>by simp at e,yG,yG,fun b m=>.inl ?_⟩,yG⟩
    rcases o5 with ⟨q,_⟩|⟨q,_⟩|⟨_,_,_,q⟩
    .omega
    .omega
    .rcases AB.1 m with m|m
     .exact q b (s5.subset m)
     .exact o3 b m
   .rename_i f
    simp only[AA,AC]at h
    obtain ⟨rfl,rfl,rfl⟩:=h
    have hO:g.O k=(g.val k).ownBlock.toList:=by
     rcases o5 with ⟨_,q,_⟩|⟨_,q,_⟩|⟨q,_⟩
     .exact q
     .exact q
     .exact absurd q f
    refine ⟨L0++L1,a,⟨fun hd=>?_,?_,yE,fun b m=>?_⟩,fun q mq=>by simp at mq;subst mq;exact hu⟩
    .rcases o5 with ⟨_,_,o5⟩|⟨o5,_⟩|⟨o5,_⟩
     .simp only[Gh.F,Ag,List.flatMap_nil,AW,hO,o5]
      exact BG s5 (BZ _)
     .omega
     .omega
    .rcases o5 with ⟨o5,_⟩|⟨o5,_⟩|⟨o5,_⟩<;>omega
    .rcases AB.1 m with m|m
     .exact .inr ⟨k,yG,by rw [hO];exact s5.subset m⟩
     .exact .inl (o3 b m)
  .simp at h
 |nil e m=>
  simp only[avT]at h
  split at h
  .rename_i hm
   simp only[AA,AC]at h
   obtain ⟨rfl,rfl,rfl⟩:=h
   refine ⟨[],⟨none,0,[],[],[],hx,yG,AU _,rfl,hm,Sl.zero,rfl,rfl⟩,FP.nil,yG⟩
  .simp at h
 |n x=>simp [avT]at h
 |dead=>simp [avT]at h
theorem Zo8 [NW] (hI:HI W g st.ob w):∀{xs:List AV}{cts:List CT}{ks:List Nat}{d:Nat}{vs:List Value},Zdc st xs=some (cts,ks,d)->ZD (AVR g w) xs vs->XD U xs->∃L,RCs w cts vs L/\FP g ks d L/\∀k∈ks,U k
 | [],_,_,_,[],h,_,_=>by
  simp only[Zdc,AA,AC]at h
  obtain ⟨rfl,rfl,rfl⟩:=h
  exact ⟨[],⟨rfl,rfl⟩,FP.nil,yG⟩
 | [],_,_,_,_::_,_,h,_=>h.elim
 |_::_,_,_,_,[],_,h,_=>h.elim
 |x::r,cts,ks,d,v::vs,h,hr,hu=>by
  simp only[Zdc]at h
  obtain ⟨⟨c1,k1,d1⟩,h1,h⟩:=AG.1 h
  obtain ⟨⟨c2,k2,d2⟩,h2,h⟩:=AD.1 h
  simp only[AC]at h
  obtain ⟨rfl,rfl,rfl⟩:=h
  obtain ⟨L1,a1,a2,a3⟩:=ZzI hI h1 hr.1 (hu x yG)
  obtain ⟨L2,b1,b2,b3⟩:=Zo8 hI h2 hr.2 (fun y m=>hu y (by simp [m]))
  exact ⟨L1++L2,⟨v,vs,L1,L2,rfl,rfl,a1,b1⟩,a2.append b2,fun k m=>(AB.1 m).elim (a3 k) (b3 k)⟩
theorem Zp1 [NW] (hI:HI W g st.ob w) {m:Nat}:∀{xs:List SV}{es:List (List CT)}{ks:List Nat}{d:Nat}{vs:List Value},Y6 st m xs=some (es,ks,d)->ZD (fun s v=>SVR g w s v/\svU U s) xs vs->
  ∃(cs:List (List Value)) (L:List Nat),ZD (fun (c:List Value) (v:Value)=>v.cells=c.toArray/\c.length=m/\∀u∈c,u.oneCell'=true) cs vs/\REs w m es cs.flatten L/\FP g ks d L/\∀k∈ks,U k
 | [],_,_,_,[],h,_=>by
  simp only[Y6,AA,AC]at h
  obtain ⟨rfl,rfl,rfl⟩:=h
  exact ⟨[],[],trivial,⟨rfl,rfl⟩,FP.nil,yG⟩
 | [],_,_,_,_::_,_,h=>h.elim
 |_::_,_,_,_,[],_,h=>h.elim
 |s::r,es,ks,d,v::vs,h,⟨⟨hs,hsu⟩,hr⟩=>by
  cases s with
  |p ag us=>
   simp only[Y6]at h
   split at h
   .rename_i hl
    obtain ⟨⟨c1,k1,d1⟩,h1,h⟩:=AG.1 h
    obtain ⟨⟨c2,k2,d2⟩,h2,h⟩:=AD.1 h
    simp only[AC]at h
    obtain ⟨rfl,rfl,rfl⟩:=h
    obtain ⟨a,p1,p2⟩:=PVR.cells hs
    obtain ⟨L1,a1,a2,a3⟩:=Zo8 hI h1 p2 hsu
    obtain ⟨cs,L2,b1,b2,b3,b4⟩:=Zp1 hI h2 hr
    have b:a.length=m:=by rw [<-p2.len];exact hl
    exact ⟨a::cs,L1++L2,⟨⟨p1,b,AVRs.one p2⟩,b1⟩,⟨a,cs.flatten,L1,L2,yG,rfl,⟨a1,b⟩,b2⟩,a2.append b3,fun k mk=>(AB.1 mk).elim (a3 k) (b4 k)⟩
   .simp at h
  |_=>simp [Y6]at h
theorem ZqU [NW] {m:Nat}:∀(cs:List (List Value)) (vs:List Value) (i:Nat) (a base:List Value),ZD (fun (c:List Value) (v:Value)=>v.cells=c.toArray/\c.length=m/\∀u∈c,u.oneCell'=true) cs vs->a.length=i*m->base.length=vs.length*m->
  Instr.fill (fun i=>some (i*m,m)) (a++base).toArray ((List.range' i vs.length).zip vs)=some (a++cs.flatten).toArray
 | [],[],i,a,base,_,_,hb=>by
  have:base=[]:=Aa (by simpa using hb)
  subst this
  simp [Instr.fill]
 | [],_::_,_,_,_,h,_,_=>h.elim
 |_::_,[],_,_,_,h,_,_=>h.elim
 |c::cs,v::vs,i,a,base,⟨⟨h1,h2,_⟩,h⟩,hp,hb=>by
  have hb':base.length=m+vs.length*m:=by rw [hb];simp [AK];omega
  have b:v.cells.size=m:=by simp [h1,h2]
  simp only[AP,List.range'_succ,List.zip_cons_cons,Instr.fill]
  rw [if_neg (by simp [b];omega),Zmq (i*m) v c h1 _ (by simp;omega)]
  have e:splice (a++base).toArray.toList (i*m) c=(a++c)++base.drop m:=by
   unfold splice
   simp only[<-hp]
   rw [List.take_left',BW,BX yE]
   .simp [h2]
   .rfl
  rw [e,ZqU cs vs (i+1) (a++c) (base.drop m) h (by simp [hp,h2,AK]) (by simp;omega)]
  simp
theorem Zvw [NW] (hI:HI W g st.ob w) (hU:StU U st) (i:¬U key) {e m:Nat}(hm:0<m) {xs:List (List CT)}{ks:List Nat}{d:Nat}{L:List Nat}{cs:List Value}{v:Value}(f:w'.ownsV 0 e m v xs.length cs) (hv:v.ownBlock=some w.heap.size)
  (hb:Below w.heap.size w w') (x:∃z e,w'.heap[w.heap.size]?=some (.cells z e (0,0))) (hr:REs w m xs cs L) (hf:FP g ks d L) (B:∀k∈ks,U k) (j:∀k∈ks,∃e m xs d,st.ob k=.row e m xs d) (C:ks.Nodup) {s:Sem Next} (l:s.run P w=.ok (.value v) w'):
  Fin P W U key st g w s (.p false [.row key],Yc ks++[(key,.row e m xs d)]):=by
 have c:=hr.lt
 have hF:=hI.nodupF C
 have a:∀b∈(if d=2 then L else []),b∈L/\d=2:=fun b mb=>by
  split at mb
  .rename_i hd;exact ⟨mb,hd⟩
  .simp at mb
 obtain ⟨h1,h2⟩:=hI.turn (key:=key) (U:=U) (w':=w') (v:=v) (O:=[w.heap.size]) (D:=if d=2 then L else []) (o:=.row e m xs d) hU.ob i ks B
  (hI.below.trans hb) hb.size (fun b t _=>hb.block b t) yG (fun b mb=>by
   obtain ⟨m1,m2⟩:=a b mb
   exact .inl (Zfj ((hf.1 m2).subset m1)))
  (by
   simp only[Am,Al]
   refine ⟨fun mb=>?_,?_⟩
   .have:=c _ (a _ mb).1;omega
   .split
    .rename_i hd;exact hF.sublist (hf.1 hd)
    .simp)
  (fun b mb=>by
   simp only[Am,AR]at mb
   rcases mb with rfl|mb
   .exact ⟨.inl hI.below.size,x⟩
   .obtain ⟨m1,m2⟩:=a b mb
    obtain ⟨k,k1,mk⟩:=Zfj ((hf.1 m2).subset m1)
    obtain ⟨p1,p2⟩:=hI.plain k b mk
    obtain ⟨_,_,_,_,E⟩:=j k k1
    rw [E]at p2
    exact ⟨p1,p2.keep (hb.block b (c b m1))⟩)
  (fun _=>⟨hm,cs,L,by simpa [Gh.turn,upd]using f,hr.keep fun b mb=>hb.block b (c b mb),by
   have q1:=hf.2.1
   have q2:=hf.2.2.1
   by_cases hd:d=2
   .exact .inl ⟨hd,by simp [Gh.turn,upd,hv],by simp [Gh.turn,hd]⟩
   .refine .inr (.inl ⟨yE,by simp [Gh.turn,upd,hv],by simp [Gh.turn,hd],fun b mb ho=>?_⟩)
    have t:=c b mb
    rcases Zfn ho with mo|⟨k,k1,_,mk⟩|hz
    .simp at mo;omega
    .rcases hf.2.2.2 b mb with hn|⟨q,q1,q2⟩
     .exact hn (.inl ⟨k,mk⟩)
     .exact hI.apart k q (fun e=>k1 (e ▸ q1)) b (by simp [mk]) (by simp [q2])
    .rcases hf.2.2.2 b mb with hn|⟨q,q1,q2⟩
     .exact hn (.inr hz)
     .exact hI.nz (k:=q) (by simp [q2]) hz⟩)
 have u:=ZiT (key:=key) (o:=.row e m xs d) hU ks trivial
 refine ⟨_,_,_,.inl l,h1,⟨_,rfl,⟨by simp [Gh.turn,upd],?_⟩⟩,h2,fun y my=>by simp at my;subst my;exact ZjV,u.1,u.2⟩
 obtain ⟨A,cap,F⟩:=ZeK f
 simp [F,Value.oneCell']
theorem Zm2 (st:St):∀(ks:List Nat) (ob:Nat->Ob) (k:Nat),Zh ob (ZI st ks) k=if k∈ks then Z6 (st.ob k) else ob k
 | [],ob,k=>by simp [ZI,Zh]
 |j::r,ob,k=>by
  show Zh (upd ob j (Z6 (st.ob j))) (ZI st r) k=_
  rw [Zm2 st r]
  by_cases h:k∈r
  .simp [h]
  .by_cases hj:k=j
   .subst hj;simp [h,upd]
   .simp [h,hj,upd]
theorem Zdy [NW] (st:St) (ks:List Nat) (ob:Nat->Ob) (key:Nat) (o:Ob) (k:Nat):Zh ob (ZI st ks++[(key,o)]) k=if k=key then o else if k∈ks then Z6 (st.ob k) else ob k:=by
 rw [Yd]
 show upd (Zh ob (ZI st ks)) key o k=_
 by_cases h:k=key
 .simp [upd,h]
 .simp only[upd,h,if_false];exact Zm2 st ks ob k
theorem Zv0 {x:AV}{ct:CT}{ks:List Nat}{d:Nat}(h:avT st x=some (ct,ks,d)):∀k∈ks,∃e m xs d,st.ob k=.row e m xs d:=by
 intro k mk
 cases x with
 |c y=>cases y<;>simp only[avT,AA,AC]at h<;>(rw [<-h.2.1]at mk;simp at mk)
 |nil e m=>
  simp only[avT]at h
  split at h<;>simp only[AA,AC,reduceCtorEq]at h
  rw [<-h.2.1]at mk;simp at mk
 |row j=>
  simp only[avT]at h
  split at h
  .rename_i e m xs d' hj
   split at h<;>simp only[AA,AC]at h
   .rw [<-h.2.1]at mk;simp at mk
   .rw [<-h.2.1]at mk;simp at mk;subst mk;exact ⟨_,_,_,_,hj⟩
  .simp at h
 |n x=>simp [avT]at h
 |dead=>simp [avT]at h
theorem ZoN [NW]:∀{xs:List AV}{cts:List CT}{ks:List Nat}{d:Nat},Zdc st xs=some (cts,ks,d)->∀k∈ks,∃e m xs d,st.ob k=.row e m xs d
 | [],_,_,_,h,k,mk=>by simp only[Zdc,AA,AC]at h;rw [<-h.2.1]at mk;simp at mk
 |x::r,_,_,_,h,k,mk=>by
  simp only[Zdc]at h
  obtain ⟨⟨c1,k1,d1⟩,h1,h⟩:=AG.1 h
  obtain ⟨⟨c2,k2,d2⟩,h2,h⟩:=AD.1 h
  simp only[AC]at h
  rw [<-h.2.1]at mk
  rcases AB.1 mk with mk|mk
  .exact Zv0 h1 k mk
  .exact ZoN h2 k mk
theorem ZkC [NW] {m:Nat}:∀{xs:List SV}{es:List (List CT)}{ks:List Nat}{d:Nat},Y6 st m xs=some (es,ks,d)->∀k∈ks,∃e m xs d,st.ob k=.row e m xs d
 | [],_,_,_,h,k,mk=>by simp only[Y6,AA,AC]at h;rw [<-h.2.1]at mk;simp at mk
 |x::r,_,_,_,h,k,mk=>by
  cases x with
  |p a cs=>
   simp only[Y6]at h
   split at h
   .obtain ⟨⟨c1,k1,d1⟩,h1,h⟩:=AG.1 h
    obtain ⟨⟨c2,k2,d2⟩,h2,h⟩:=AD.1 h
    simp only[AC]at h
    rw [<-h.2.1]at mk
    rcases AB.1 mk with mk|mk
    .exact ZoN h1 k mk
    .exact ZkC h2 k mk
   .simp at h
  |_=>simp [Y6]at h
theorem ZsE [NW] (hI:HI W g st.ob w) (hU:StU U st) (t:¬U key) {e m:Nat}(hm:0<m) {xs:List (List CT)}{ks:List Nat}{d:Nat}{L:List Nat}{cs:List Value}{v:Value}(u:w'.ownsV 0 e m v xs.length cs) (hv:v.ownBlock=some w.heap.size)
  (hb:Below w.heap.size w w') (H:∃I e,w'.heap[w.heap.size]?=some (.cells I e (0,0))) (hr:REs w m xs cs L) (hf:FP g ks d L) (z:∀k∈ks,U k) (i:∀k∈ks,∃e m xs d,st.ob k=.row e m xs d) (J:ks.Nodup) {s:Sem Next} (B:s.run P w=.ok (.value v) w'):
  Fin P W U key st g w s (.p false [.row key],ZI st ks++[(key,.row e m xs d)]):=by
 have l:=hr.lt
 have hF:=hI.nodupF J
 have c:∀b∈(if d=2 then L else []),b∈L/\d=2:=fun b mb=>by
  split at mb
  .rename_i hd;exact ⟨mb,hd⟩
  .simp at mb
 obtain ⟨h1,h2⟩:=hI.turn (key:=key) (U:=U) (w':=w') (v:=v) (O:=[w.heap.size]) (D:=if d=2 then L else []) (o:=.row e m xs d) hU.ob t ks z
  (hI.below.trans hb) hb.size (fun b C _=>hb.block b C) yG (fun b mb=>by
   obtain ⟨m1,m2⟩:=c b mb
   exact .inl (Zfj ((hf.1 m2).subset m1)))
  (by
   simp only[Am,Al]
   refine ⟨fun mb=>?_,?_⟩
   .have:=l _ (c _ mb).1;omega
   .split
    .rename_i hd;exact hF.sublist (hf.1 hd)
    .simp)
  (fun b mb=>by
   simp only[Am,AR]at mb
   rcases mb with rfl|mb
   .exact ⟨.inl hI.below.size,H⟩
   .obtain ⟨m1,m2⟩:=c b mb
    obtain ⟨k,k1,mk⟩:=Zfj ((hf.1 m2).subset m1)
    obtain ⟨p1,p2⟩:=hI.plain k b mk
    obtain ⟨_,_,_,_,f⟩:=i k k1
    rw [f]at p2
    exact ⟨p1,p2.keep (hb.block b (l b m1))⟩)
  (fun _=>⟨hm,cs,L,by simpa [Gh.turn,upd]using u,hr.keep fun b mb=>hb.block b (l b mb),by
   have q1:=hf.2.1
   have q2:=hf.2.2.1
   by_cases hd:d=2
   .exact .inl ⟨hd,by simp [Gh.turn,upd,hv],by simp [Gh.turn,hd]⟩
   .refine .inr (.inl ⟨yE,by simp [Gh.turn,upd,hv],by simp [Gh.turn,hd],fun b mb ho=>?_⟩)
    have C:=l b mb
    rcases Zfn ho with mo|⟨k,k1,_,mk⟩|hz
    .simp at mo;omega
    .rcases hf.2.2.2 b mb with hn|⟨q,q1,q2⟩
     .exact hn (.inl ⟨k,mk⟩)
     .exact hI.apart k q (fun e=>k1 (e ▸ q1)) b (by simp [mk]) (by simp [q2])
    .rcases hf.2.2.2 b mb with hn|⟨q,q1,q2⟩
     .exact hn (.inr hz)
     .exact hI.nz (k:=q) (by simp [q2]) hz⟩)
 have hkk:∀k∈ks,k≠key:=fun k mk e=>t (e ▸ z k mk)
 have K:HI W (g.turn ks key v [w.heap.size] (if d=2 then L else [])) (Zh st.ob (ZI st ks++[(key,.row e m xs d)])) w':=by
  refine ⟨h1.below,fun k=>?_,h1.nodup,h1.apart,fun k b mb=>?_,h1.gz,h1.zx,h1.nw,h1.oy⟩
  rotate_left
  .have hp:=h1.plain k b mb
   rw [QY]at hp
   rw [Zdy]
   by_cases hk:k=key
   .rw [if_pos hk]at hp ⊢;exact hp
   .rw [if_neg hk]at hp ⊢
    by_cases a:k∈ks
    .rw [if_pos a]at hp ⊢
     obtain ⟨e2,m2,M,d2,f⟩:=i k a
     rw [f]
     exact hp
    .rw [if_neg a]at hp ⊢;exact hp
  have ho:=h1.obs k
  rw [QY]at ho
  rw [Zdy]
  by_cases hk:k=key
  .rw [if_pos hk]at ho ⊢;exact ho
  .rw [if_neg hk]at ho ⊢
   by_cases a:k∈ks
   .rw [if_pos a]at ho ⊢
    obtain ⟨e2,m2,M,d2,f⟩:=i k a
    obtain ⟨p1,N,L2,p2,p3,p4,p5⟩:=hI.deep f
    rw [f]
    have x:(g.turn ks key v [w.heap.size] (if d=2 then L else [])).val k=g.val k:=by simp [Gh.turn,upd,hk]
    have E:=p3.lt
    have F:=Zip p2
    refine ⟨p1,N,L2,by rw [x];exact Zcg p2 fun b mb=>hb.block b (F b mb),p3.keep fun b mb=>hb.block b (E b mb),.inr (.inr ⟨rfl,ho.1,ho.2,fun b mb G=>?_⟩)⟩
    rw [x]at mb
    have hbl:b<w.heap.size:=by
     rcases AB.1 mb with m1|m1
     .exact F b m1
     .exact E b m1
    rcases Zfn G with mo|⟨j,j1,_,mj⟩|hz
    .simp at mo;omega
    .rcases AB.1 mb with m1|m1
     .rcases p5 with ⟨_,q1,_⟩|⟨_,q1,_⟩|⟨_,_,_,q⟩
      .exact hI.apart j k (fun e=>j1 (e ▸ a)) b (by simp [mj]) (by simp [q1,m1])
      .exact hI.apart j k (fun e=>j1 (e ▸ a)) b (by simp [mj]) (by simp [q1,m1])
      .exact q b m1 (.inl ⟨j,mj⟩)
     .exact p4 b m1 (.inl ⟨j,mj⟩)
    .rcases AB.1 mb with m1|m1
     .rcases p5 with ⟨_,q1,_⟩|⟨_,q1,_⟩|⟨_,_,_,q⟩
      .exact hI.nz (k:=k) (by simp [q1,m1]) hz
      .exact hI.nz (k:=k) (by simp [q1,m1]) hz
      .exact q b m1 (.inr hz)
     .exact p4 b m1 (.inr hz)
   .rw [if_neg a]at ho ⊢;exact ho
 have Q:∀k,obU U (Z6 (st.ob k)):=fun k=>by
  have:=hU.ob k
  cases hk:st.ob k<;>simp only[Z6]<;>first|trivial|(rw [hk]at this;exact this)
 refine ⟨_,_,_,.inl B,K,⟨_,rfl,⟨by simp [Gh.turn,upd],?_⟩⟩,h2,fun y my=>by simp at my;subst my;exact ZjV,fun k=>?_,fun k hk=>?_⟩
 .obtain ⟨A,cap,R⟩:=ZeK u
  simp [R,Value.oneCell']
 .rw [Zdy]
  split
  .trivial
  .split
   .exact (Q k).mono fun _=>.inl
   .exact (hU.ob k).mono fun _=>.inl
 .rw [Zdy,if_neg (fun e=>hk (.inr yE))]
  have e:=hU.gone k fun h=>hk (.inl h)
  split
  .rw [e];rfl
  .exact e
end
end
section
open Go.RowKit
section
variable {P:Program} {W:ZaA} {U:Nat->Prop} {key:Nat} {st:St} {g:Gh} {w w':World} {a:Act} {tt:Nat->Option TI}
theorem ZAk [NW] (htt:∀t i,tt t=some i->TOk P t i) (hI:HI W g st.ob w) (hS:∀t,SVR g w (st.sl t) (a.tmps.getD t undef)) (hU:StU U st) (q:¬U key) {t len e m l:Nat}{z:List AV}(H:tt t=some (.slice e m l z)) {b:Array (Nat×Operand)}{xs:List (List CT)}{ks:List Nat}{d:Nat}
  (h:Y6 st m (b.toList.map fun p=>st.ev tt e p.2)=some (xs,ks,d)) (hr:b.toList.map (·.1)=List.range len) (hl:len*m<=16777216) (I:ks.Nodup) {s:Sem Next} (hs:s=(do pure (.value (<-Instr.buildSlice t len (b.map fun (i,x)=>(i,a.eval x)))))):
  Fin P W U key st g w s (.p false [.row key],ZI st ks++[(key,.row e m xs d)]):=by
 obtain ⟨hu,hm,_,⟨ie,zv,y,o,hby,hz,hzc,hzl⟩,_⟩:=htt t _ H
 have A:ZD (fun s v=>SVR g w s v/\svU U s) (b.toList.map fun p=>st.ev tt e p.2) (b.toList.map fun p=>a.eval p.2):=ZD.of_map _ _ fun p _=>ZkE htt hS hU e p.2
 obtain ⟨cs,L,c1,c2,c3,c4⟩:=Zp1 hI h A
 have f:b.toList.length=len:=by have:=congrArg List.length hr;simpa using this
 have B:cs.length=len:=by rw [c1.len];simpa using f
 have C:xs.length=len:=by
  have h1:=c2.len
  have h2:cs.flatten.length=len*m:=by
   have:∀(cs:List (List Value)) (vs:List Value),ZD (fun (c:List Value) (v:Value)=>v.cells=c.toArray/\c.length=m/\∀u∈c,u.oneCell'=true) cs vs->cs.flatten.length=cs.length*m:=by
    intro cs
    induction cs with
    |nil=>intro _ _;simp
    |cons c cs ih=>
     intro vs hh
     cases vs with
     |nil=>exact hh.elim
     |cons v vs=>simp [ih vs hh.2,hh.1.2.1,AK];omega
   rw [this cs _ c1,B]
  rw [h2]at h1
  exact (Nat.eq_of_mul_eq_mul_right hm h1).symm
 have j:(b.map fun x=>match x with|(i,x)=>(i,a.eval x)).toList=(List.range' 0 (b.toList.map fun p=>a.eval p.2).length).zip (b.toList.map fun p=>a.eval p.2):=by
  have e1:(b.map fun x=>match x with|(i,x)=>(i,a.eval x)).toList=(b.toList.map (·.1)).zip (b.toList.map fun p=>a.eval p.2):=by
   rw [List.zip_map'];simp
  rw [e1,hr,List.range_eq_range']
  simp [f]
 have D:(Instr.buildSlice t len (b.map fun (i,x)=>(i,a.eval x))).run P w=.ok (.slice (some ⟨w.heap.size,0,none⟩) len len) (w.alloc (.cells cs.flatten.toArray e)):=by
  have k:∀base:List Value,base.length=len*m->Instr.fill (fun i=>some (i*m,m)) base.toArray (b.map fun x=>match x with|(i,x)=>(i,a.eval x)).toList=some cs.flatten.toArray:=fun base hb=>by
   rw [j]
   have:=ZqU cs (b.toList.map fun p=>a.eval p.2) 0 [] base c1 yG (by simpa [f]using hb)
   simpa using this
  by_cases h0:len=0
  .subst h0
   have E:cs=[]:=Aa B
   subst E
   have J:b=#[]:=by
    have:b.toList=[]:=Aa f
    simpa using this
   subst J
   simp [Instr.buildSlice,Yt hu,YW y,Instr.fill,newRow,Array.range_zero']
  .have F:¬len*ie.size=0:=by
    rw [o];intro e;rcases Nat.mul_eq_zero.1 e with e|e<;>omega
   refine run_buildSlice w t e len _ _ ie zv hu y hz (by rw [o];omega) F ?_
   rw [o]
   have hb:=k ((Array.range (len*m)).map (zv.cells[· % zv.cells.size]!)).toList yG
   rw [Array.toArray_toList]at hb
   exact hb
 have G:=Zhf <| World.ownsRow_lit (base:=0) (e:=e) (size:=m) w cs.flatten.toArray len (AU _) (by unfold maxLen;have:=Nat.le_mul_of_pos_right len hm;omega) (by
  have h1:=c2.len
  rw [C]at h1
  simpa using h1)
 refine ZsE hI hU q hm (v:=.slice (some ⟨w.heap.size,0,none⟩) len len) (cs:=cs.flatten) (w':=w.alloc (.cells cs.flatten.toArray e)) (by rw [C];simpa using G) rfl ((Below.refl _ _).alloc (AM _) _) ⟨_,_,heap_alloc_new w _⟩ c2 c3 c4 (ZkC h) I ?_
 subst hs
 simp only[Sem.run_bind,D,Result.andThen_ok,Sem.run_pure]
theorem ZhW {m:Nat}{ze:List CT}{zc:List Value}(h:RCs w ze zc []) (hl:zc.length=m):∀n:Nat,REs w m (Ac n ze) (Ac n zc).flatten []
 |0=>by simp [REs]
 |n+1=>by
  rw [Ba,Ba,Bb]
  exact ⟨zc,_,[],[],rfl,rfl,⟨h,hl⟩,ZhW h hl n⟩
theorem ZpT [NW]:∀{z:List AV}{zs:List Value}{ze:List CT},Zk4 z=some ze->ZD (fun a v=>ZaV a v=true) z zs->RCs w ze zs []
 | [],[],ze,h,_=>by simp [Zk4]at h;subst h;exact ⟨rfl,rfl⟩
 | [],_::_,_,_,h=>h.elim
 |_::_,[],_,_,h=>h.elim
 |.c x::z,v::zs,ze,h,hr=>by
  simp only[Zk4]at h
  obtain ⟨b,h1,rfl⟩:=AD.1 h
  have hx:=Zfm (g:=⟨fun _=>undef,fun _=>[],fun _=>[],fun _=>False⟩) (w:=w) hr.1
  obtain ⟨L,hL,_⟩:=hx
  have d:L=[]:=by
   have:=hr.1
   cases x with
   |int k n=>exact hL.2
   |bool b=>exact hL.2
   |str s=>exact hL.2.1
   |_=>simp [ZaV]at this
  subst d
  exact ⟨v,zs,[],[],rfl,rfl,hL,ZpT h1 hr.2⟩
 |.nil e m::z,v::zs,ze,h,hr=>by
  simp only[Zk4]at h
  split at h
  .rename_i hm
   obtain ⟨b,h1,rfl⟩:=AD.1 h
   have hv:v=.slice none 0 0:=Zfm (g:=⟨fun _=>undef,fun _=>[],fun _=>[],fun _=>False⟩) (w:=w) hr.1
   subst hv
   exact ⟨_,zs,[],[],rfl,rfl,⟨none,0,[],[],[],rfl,yG,AU _,rfl,hm,Sl.zero,rfl,rfl⟩,ZpT h1 hr.2⟩
  .simp at h
 |.row k::z,v::zs,ze,h,_=>by simp [Zk4]at h
 |.n x::z,v::zs,ze,h,_=>by simp [Zk4]at h
 |.dead::z,v::zs,ze,h,_=>by simp [Zk4]at h
theorem Zn7 (z:Array Value) (m:Nat) (hz:z.size=m) (hm:0<m):∀n:Nat,(madeCells z (n*m)).toList=(Ac n z.toList).flatten
 |0=>by simp [madeCells]
 |n+1=>by
  have ih:=Zn7 z m hz hm n
  rw [List.replicate_succ',List.flatten_append,<-ih]
  simp only[madeCells,Array.toList_map,Array.toList_range,AK,Nat.one_mul,List.range_add,Aw,B9,Bb,List.flatten_nil,AW]
  congr 1
  apply AX
  intro j
  by_cases hj:j<m
  .simp only[AF,List.getElem?_range hj,AZ,Function.comp]
   have e:(n*m+j) % z.size=j:=by
    rw [hz,Nat.add_comm,Nat.add_mul_mod_self_right,Nat.mod_eq_of_lt hj]
   have a:j<z.size:=by omega
   simp [e,a]
  .have h1:z.size<=j:=by omega
   simp [hj,h1]
theorem ZxP [NW] (htt:∀t i,tt t=some i->TOk P t i) (hI:HI W g st.ob w) (hU:StU U st) (c:¬U key) {t e m a:Nat}{z:List AV}(k:tt t=some (.slice e m a z)) {n:Nat}{ze:List CT}(hz:Zk4 z=some ze) (hn:n<=1073741824) {s:Sem Next}
  (hs:s=(do pure (.value (<-Instr.makeSlice t (.int .i64 n) (.int .i64 n))))):Fin P W U key st g w s (.p false [.row key],[(key,.row e m (Ac n ze) 2)]):=by
 obtain ⟨hu,hm,hby0,⟨ie,zv,l,o,hby,q,f,u⟩,_⟩:=htt t _ k
 have v:ie.bytes*n<=281474976710656:=by
  have:=Bc (show ie.bytes<=131072 by omega) hn
  omega
 obtain ⟨w',r1,r2,r3⟩:=run_make_full (P:=P) w 0 t e ie zv m hu l q o .i64 .i64 n v (by unfold maxLen;omega) (AU _)
 have j:zv.cells.size=m:=by rw [<-u,f.len];simp
 rw [Zn7 zv.cells m j hm n]at r2
 have x:=ZhW (ZpT (w:=w) hz f) (by simpa using j) n
 have hb:Below w.heap.size w w':=(Below.refl _ _).grown r3 (AM _) yG
 have y:∃b e,w'.heap[w.heap.size]?=some (.cells b e (0,0)):=by
  rcases r2.2 with ⟨h',_⟩|⟨g',cap',b,h',_,hg,_⟩
  .simp at h'
  .simp at h'
   rw [<-h'.1]at hg
   exact ⟨b,e,hg⟩
 have:=Zvw (ks:=[]) (d:=2) hI hU c hm (xs:=Ac n ze) (by simpa using Zhf r2) rfl hb y x FP.nil yG yG yG (s:=s) (P:=P) (by subst hs;simp only[Sem.run_bind,r1,Result.andThen_ok,Sem.run_pure])
 simpa [Yc]using this
theorem Zri [NW] {t e:TypeId}{ty:TypeId}{ie:TypeInfo}(hu:P.underlying t=some (.slice e)) (a:P.info? e=some ie) (A B:Option Addr) (n c c':Nat) (b:n<=c):
  (Builtin.append_ #[t,t] ty #[.slice A n c,.slice B 0 c']).run P w=.ok (.slice A n c) w:=by
 cases A<;>cases B<;>simp [Builtin.append_,Yt hu,YW a,Builtin.lenOf,Builtin.firstCells,loadCells,loadCellsFrom,storeCells,b]
theorem ZqZ:∀{e:List CT}{cs:List Value}{L:List Nat},RCs w e cs L->e.all CT.flat=true->L=[]
 | [],_,_,h,_=>h.2
 |x::r,_,_,⟨v,cs',L1,L2,rfl,rfl,h1,h2⟩,hf=>by
  simp only[Bd,AO]at hf
  have e1:L1=[]:=by
   cases x with
   |int k n=>exact h1.2
   |bool b=>exact h1.2
   |str s=>exact h1.2.1
   |_=>simp [CT.flat]at hf
  rw [e1,ZqZ h2 hf.2];rfl
theorem ZjB [NW] {m:Nat}:∀{xs:List (List CT)}{cs:List Value}{L:List Nat},REs w m xs cs L->Zbj xs=true->L=[]
 | [],_,_,h,_=>h.2
 |x::r,_,_,⟨c1,c2,L1,L2,rfl,rfl,h1,h2⟩,hf=>by
  simp only[Zbj,Bd,AO]at hf
  rw [ZqZ h1.1 hf.1,ZjB h2 hf.2];rfl
theorem REs.append {m:Nat}:∀{xs ys:List (List CT)}{us vs:List Value}{L M:List Nat},REs w m xs us L->REs w m ys vs M->REs w m (xs++ys) (us++vs) (L++M)
 | [],_,_,_,_,_,h,h'=>by obtain ⟨rfl,rfl⟩:=h;simpa using h'
 |_::_,_,_,_,_,_,⟨c1,c2,L1,L2,rfl,rfl,h3,h4⟩,h'=>⟨c1,c2++_,L1,L2++_,yG,yG,h3,h4.append h'⟩
theorem REs.one {m:Nat}:∀{xs:List (List CT)}{cs:List Value}{L:List Nat},REs w m xs cs L->∀u∈cs,u.oneCell'=true
 | [],_,_,h=>by simp [h.1]
 |_::_,_,_,⟨c1,c2,L1,L2,rfl,rfl,h3,h4⟩=>fun u mu=>by
  rcases AB.1 mu with mu|mu
  .exact h3.1.one u mu
  .exact h4.one u mu
theorem Zwk {a b:Nat}(h:ZaU a b=2) (ha:a<=2) (hb:b<=2):a=2/\b=2:=by unfold ZaU at h;split at h<;>omega
theorem Zob {fl:Bool}{xs:List (List CT)}(h:ZiO fl xs=2):Zbj xs=true:=by unfold ZiO at h;split at h<;>simp_all
theorem Zq0 (fl:Bool) (xs:List (List CT)):ZiO fl xs<=2:=by unfold ZiO;split<;>omega
theorem ZnW (fl:Bool) (xs:List (List CT)):0<ZiO fl xs:=by unfold ZiO;split<;>omega
theorem HI.plainD [NW] {ob:Nat->Ob}(h:HI W g ob w) {k b:Nat}(m:b∈g.D k):(W.heap.size<=b\/W.x b\/W.y b)/\∃a e,w.heap[b]?=some (.cells a e (0,0)):=by
 have h1:=h.plain k b (by simp [m])
 have h2:=h.obs k
 cases hk:ob k with
 |map kk vk kv=>
  rw [hk]at h2
  obtain ⟨_,_,_,_,_,h3,_⟩:=h2
  rw [h3]at m;simp at m
 |_=>rw [hk]at h1;exact h1
theorem ZAC [NW] (hI:HI W g st.ob w) {x:SV}{v:Value}{e m:Nat}{xs:List (List CT)}{ks:List Nat}{d:Nat}(h:ZfQ st x=some (xs,ks,d)) (a:ZlK st e m x=true) (hx:SVR g w x v) (hu:svU U x):
  ∃cs L,w.ownsV 0 e m v xs.length cs/\REs w m xs cs L/\(∀b∈L,¬g.own b)/\(d=2->L=ks.flatMap g.D)/\v.ownBlock.toList=ks.flatMap g.O/\(∀k∈ks,U k)/\d<=2/\0<d:=by
 unfold ZfQ at h
 split at h
 .simp only[AA,AC]at h
  obtain ⟨rfl,rfl,rfl⟩:=h
  have:=ZsD hx
  subst this
  exact ⟨[],[],Zfg _ _ _ _,⟨rfl,rfl⟩,yG,yG,by simp [Value.ownBlock],yG,yG,yG⟩
 .rename_i k
  split at h
  .rename_i e' m' xs' d' hk
   split at h
   .simp at h
   rename_i c
   simp only[AA,AC]at h
   obtain ⟨rfl,rfl,rfl⟩:=h
   simp only[ZlK,hk,AO,beq_iff_eq]at a
   obtain ⟨rfl,rfl⟩:=a
   have:=ZfE hx
   subst this
   obtain ⟨hm,cs,L,o1,o2,o3,o4,o5⟩:=hI.deepO hk c
   refine ⟨cs,L,o1,o2,o3,fun hd=>?_,by simp [o4],fun q mq=>by simp at mq;subst mq;exact hu (.row q) yG,?_,yE⟩
   .rcases o5 with ⟨_,o5⟩|⟨o5,_⟩
    .simp [o5]
    .omega
   .rcases o5 with ⟨o5,_⟩|⟨o5,_⟩<;>omega
  .simp at h
 .simp at h
theorem ZAm [NW] (hI:HI W g st.ob w) {x:SV}{v:Value}{m:Nat}{xs:List (List CT)}{ks:List Nat}{d:Nat}{fl:Bool}(h:ZfT st fl x=some (xs,ks,d)) (a:Zkm st m x=true) (hx:SVR g w x v) (hu:svU U x):
  ∃A c cs L,v=.slice A xs.length c/\REs w m xs cs L/\(0<xs.length->∃b off,A=some ⟨b,off,none⟩/\Za9 w b off cs)/\(∀b∈L,¬g.own b)/\(d=2->L.Sublist (ks.flatMap g.D))/\(∀k∈ks,U k)/\d<=2/\0<d:=by
 unfold ZfT at h
 split at h
 .simp only[AA,AC]at h
  obtain ⟨rfl,rfl,rfl⟩:=h
  simp only[Zkm,beq_iff_eq]at a
  subst a
  obtain ⟨A,cap,cs,L0,L1,rfl,h2,h3,h5,h6,h7,ho⟩:=ZgL hx
  refine ⟨A,cap,cs,L1,rfl,h7,fun hp=>?_,fun b mb=>ho b (by simp [mb]),fun hd=>by rw [ZjB h7 (Zob hd)];simp,yG,Zq0 _ _,ZnW _ _⟩
  obtain ⟨b,off,h8,_,h9⟩:=h6.at_ hp
  exact ⟨b,off,h8,h9⟩
 .simp only[AA,AC]at h
  obtain ⟨rfl,rfl,rfl⟩:=h
  have:=ZsD hx
  subst this
  exact ⟨none,0,[],[],rfl,⟨rfl,rfl⟩,yG,yG,yG,yG,yG,yG⟩
 .rename_i k
  split at h
  .rename_i e' m' f d' hk
   simp only[Zkm,hk,beq_iff_eq]at a
   subst a
   have:=ZfE hx
   subst this
   obtain ⟨hm,cs,L,o1,o2,o3,o5⟩:=hI.deep hk
   obtain ⟨A,cap,L0,s1,s2,s3,s4,s5⟩:=Sl.row o1
   have e:0<f.length->∃b off,A=some ⟨b,off,none⟩/\Za9 w b off cs:=fun hp=>by
    obtain ⟨b,off,h8,_,h9⟩:=s4.at_ hp
    exact ⟨b,off,h8,h9⟩
   split at h
   .simp only[AA,AC]at h
    obtain ⟨rfl,rfl,rfl⟩:=h
    exact ⟨A,cap,cs,L,s1,o2,e,o3,fun hd=>by rw [ZjB o2 (Zob hd)];simp,yG,Zq0 _ _,ZnW _ _⟩
   .rename_i hd0
    simp only[AA,AC]at h
    obtain ⟨rfl,rfl,rfl⟩:=h
    refine ⟨A,cap,cs,L,s1,o2,e,o3,fun hd=>?_,fun q mq=>by simp at mq;subst mq;exact hu (.row q) yG,?_,yE⟩
    .rcases o5 with ⟨_,_,o5⟩|⟨o5,_⟩|⟨o5,_⟩
     .simp [o5]
     .omega
     .omega
    .rcases o5 with ⟨o5,_⟩|⟨o5,_⟩|⟨o5,_⟩<;>omega
  .simp at h
 .simp at h
theorem HI.nodupD [NW] {ob:Nat->Ob}(hI:HI W g ob w):∀{ks:List Nat},ks.Nodup->(ks.flatMap g.D).Nodup
 | [],_=>by simp
 |k::ks,h=>by
  simp only[Ag,AT]
  rw [Al]at h
  refine ⟨(AT.1 (hI.nodup k)).2.1,hI.nodupD h.2,fun x hx y hy e=>?_⟩
  subst e
  obtain ⟨j,hj,hy⟩:=AI.1 hy
  exact hI.apart k j (fun e=>h.1 (e ▸ hj)) x (by simp [hx]) (by simp [hy])
theorem Zzy [NW] (htt:∀t i,tt t=some i->TOk P t i) (hI:HI W g st.ob w) (hU:StU U st) (I:¬U key) {t:Nat}{s x:SV}{vs vx:Value}{r:SV×List (Nat×Ob)}(h:Zng st key (tt t) s x=some r) (hs:SVR g w s vs/\svU U s) (hx:SVR g w x vx/\svU U x) {ty:TypeId}{q:Sem Next}
  (hq:q=(do pure (.value (<-Builtin.append_ #[t,t] ty #[vs,vx])))):Fin P W U key st g w q r:=by
 unfold Zng at h
 split at h
 .rename_i e m p z V
  obtain ⟨⟨xs,k1,d1⟩,h1,h⟩:=AG.1 h
  obtain ⟨⟨ys,k2,d2⟩,h2,h⟩:=AG.1 h
  split at h
  .rename_i hc
   simp only[AA]at h
   subst h
   obtain ⟨X,Y,J,K⟩:=hc
   simp only at J K
   obtain ⟨hu,hm,L,⟨ie,zv,M,Z,aa,ab,ac,ad⟩,_⟩:=htt t _ V
   obtain ⟨cs,Lx,a1,a2,a3,a4,a5,a6,a7,a8⟩:=ZAC hI h1 X hs.1 hs.2
   obtain ⟨A,c,a,Ly,b0,b1,b2,b3,b4,b5,b7,b8⟩:=ZAm hI h2 Y hx.1 hx.2
   subst b0
   obtain ⟨A1,cap1,ae,af,hv3⟩:=Zav a1
   have N:a.length=ys.length*m:=b1.len
   obtain ⟨v',w',r1,r2,r3,r4⟩:∃v' w',(Builtin.append_ #[t,t] ty #[vs,.slice A ys.length c]).run P w=.ok v' w'/\w'.ownsV 0 e m v' (xs.length+ys.length) (cs++a)/\w.grownBy w' vs.ownBlock/\(v'.ownBlock=vs.ownBlock\/v'.ownBlock=some w.heap.size):=by
    by_cases hy:ys.length=0
    .have ag:a=[]:=Aa (by rw [N,hy];simp)
     refine ⟨vs,w,?_,by rw [ag,hy,AW];exact a1,World.grownBy.refl _ _,.inl rfl⟩
     rw [ae,hy]
     exact Zri hu M A1 A _ _ _ af
    .obtain ⟨b,off,rfl,E⟩:=b2 yE
     have B:(xs.length+ys.length)*p<=140737488355328:=by
      have:=Bc K L
      omega
     obtain ⟨v',w',q1,q2,q3,q5⟩:=Zge (P:=P) w 0 t ty e ie zv m p hu M ab Z aa (by rw [<-ad,ac.len];simp) hm vs xs.length cs a1 ⟨b,off,none⟩ ys.length c a N
      (fun j u hj=>by rw [ZcY];exact E j u hj) b1.one (by unfold maxLen;omega) B (AU _)
     exact ⟨v',w',q1,q2,q3,q5⟩
   have C:∀b,¬g.own b->some b≠vs.ownBlock:=fun b hn e=>hn (by
    have:b∈vs.ownBlock.toList:=by simp [<-e]
    rw [a5]at this
    obtain ⟨k,_,mk⟩:=AI.1 this
    exact .inl ⟨k,mk⟩)
   have d:∀b∈Lx++Ly,w'.heap[b]?=w.heap[b]?:=fun b mb=>by
    rcases AB.1 mb with mb|mb
    .exact r3.block b (a2.lt b mb) (C b (a3 b mb))
    .exact r3.block b (b1.lt b mb) (C b (b3 b mb))
   have Q:REs w' m (xs++ys) (cs++a) (Lx++Ly):=(a2.keep fun b mb=>d b (by simp [mb])).append (b1.keep fun b mb=>d b (by simp [mb]))
   have l:∀b∈v'.ownBlock.toList,b∈k1.flatMap g.O\/b=w.heap.size:=fun b mb=>by
    rcases r4 with r4|r4
    .rw [r4,a5]at mb;exact .inl mb
    .rw [r4]at mb;simp at mb;exact .inr mb
   have f:(ZaU d1 d2)=2->(Lx++Ly).Sublist ((k1++k2).flatMap g.D):=fun hd=>by
    have hd:=Zwk hd a7 b7
    rw [BY]
    exact BG (by rw [a4 hd.1];exact BZ _) (b4 hd.2)
   have F:∀b∈(if (ZaU d1 d2)=2 then Lx++Ly else []),b∈Lx++Ly/\(ZaU d1 d2)=2:=fun b mb=>by
    split at mb
    .rename_i hd;exact ⟨mb,hd⟩
    .simp at mb
   have R:Bel W w':=by
    refine ⟨r3.os.trans hI.below.os,r3.tape.trans hI.below.tape,r3.output.trans hI.below.output,BB hI.below.size r3.size,fun b hb S=>?_⟩
    rw [r3.block b (BT hb hI.below.size) fun e=>?_]
    .exact hI.below.block b hb S
    .have:b∈vs.ownBlock.toList:=by simp [<-e]
     rw [a5]at this
     obtain ⟨k,_,mk⟩:=AI.1 this
     rcases hI.oy k b mk with h|h
     .omega
     .exact S h
   obtain ⟨t1,t2⟩:=hI.turn (key:=key) (U:=U) (w':=w') (v:=v') (O:=v'.ownBlock.toList) (D:=if (ZaU d1 d2)=2 then Lx++Ly else []) (o:=.row e m (xs++ys) (ZaU d1 d2)) hU.ob I (k1++k2)
    (fun k mk=>(AB.1 mk).elim (a6 k) (b5 k)) R r3.size (fun b hb hn=>r3.block b hb fun e=>by
     have:b∈vs.ownBlock.toList:=by simp [<-e]
     rw [a5]at this
     obtain ⟨k,hk,mk⟩:=AI.1 this
     exact hn k (by simp [hk]) mk)
    (fun b mb=>by
     rcases l b mb with mb|rfl
     .obtain ⟨k,hk,mk⟩:=AI.1 mb
      exact .inl ⟨k,by simp [hk],mk⟩
     .exact .inr (AM _))
    (fun b mb=>by
     obtain ⟨m1,m2⟩:=F b mb
     obtain ⟨k,hk,mk⟩:=AI.1 ((f m2).subset m1)
     exact .inl ⟨k,hk,by simp [mk]⟩)
    (by
     rw [AT]
     refine ⟨by cases v'.ownBlock<;>simp,?_,fun b mb b' ah e=>?_⟩
     .split
      .rename_i hd;exact (hI.nodupD J).sublist (f hd)
      .simp
     .subst e
      obtain ⟨m1,m2⟩:=F b ah
      rcases l b mb with mb|rfl
      .obtain ⟨k,_,mk⟩:=AI.1 mb
       rcases AB.1 m1 with m1|m1
       .exact a3 b m1 (.inl ⟨k,mk⟩)
       .exact b3 b m1 (.inl ⟨k,mk⟩)
      .rcases AB.1 m1 with m1|m1
       .have:=a2.lt _ m1;omega
       .have:=b1.lt _ m1;omega)
    (fun b mb=>by
     rcases AB.1 mb with mb|mb
     .have ai:W.heap.size<=b\/W.x b\/W.y b:=by
       rcases l b mb with mb|rfl
       .obtain ⟨k,_,mk⟩:=AI.1 mb
        exact (hI.plain k b (by simp [mk])).1
       .exact .inl hI.below.size
      rcases r2.2 with ⟨h',_⟩|⟨g',o',cap',G,h',hg0,hg,_⟩
      .simp [h',Value.ownBlock]at mb
      .simp [h',Value.ownBlock]at mb
       subst mb
       exact ⟨ai,G,e,hg⟩
     .obtain ⟨m1,m2⟩:=F b mb
      obtain ⟨k,hk,mk⟩:=AI.1 ((f m2).subset m1)
      obtain ⟨p1,G,e',p2⟩:=hI.plainD mk
      exact ⟨p1,G,e',by rw [d b m1];exact p2⟩)
    (fun hown=>⟨hm,cs++a,Lx++Ly,by simpa [Gh.turn,upd]using r2,Q,by
     by_cases hd:ZaU d1 d2=2
     .exact .inl ⟨hd,by simp [Gh.turn,upd],by simp [Gh.turn,hd]⟩
     .have aj:ZaU d1 d2=1:=by unfold ZaU at hd ⊢;split<;>simp_all<;>omega
      refine .inr (.inl ⟨aj,by simp [Gh.turn,upd],by simp [Gh.turn,hd],fun b mb ho=>?_⟩)
      have H:¬g.own b:=by
       rcases AB.1 mb with m1|m1
       .exact a3 b m1
       .exact b3 b m1
      rcases Zfn ho with mo|⟨k,_,_,mk⟩|hz
      .rcases l b mo with mo|rfl
       .obtain ⟨k,_,mk⟩:=AI.1 mo
        exact H (.inl ⟨k,mk⟩)
       .rcases AB.1 mb with m1|m1
        .have:=a2.lt _ m1;omega
        .have:=b1.lt _ m1;omega
      .exact H (.inl ⟨k,mk⟩)
      .exact H (.inr hz)⟩)
   have T:=ZiT (key:=key) (o:=.row e m (xs++ys) (ZaU d1 d2)) hU (k1++k2) trivial
   refine ⟨_,v',w',.inl (by subst hq;simp only[Sem.run_bind,r1,Result.andThen_ok,Sem.run_pure]),t1,⟨_,rfl,⟨by simp [Gh.turn,upd],?_⟩⟩,t2,fun y my=>by simp at my;subst my;exact ZjV,T.1,T.2⟩
   obtain ⟨A2,cap2,ak⟩:=ZeK r2
   simp [ak,Value.oneCell']
  .simp at h
 .simp at h
end
end
end Go.Proofs.YtcaokdmjlknmmaaGreatDoor
