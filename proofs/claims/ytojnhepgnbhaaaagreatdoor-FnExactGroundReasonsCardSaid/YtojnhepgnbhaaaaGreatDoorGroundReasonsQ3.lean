/- Texts of this proof, joined: F8, BInv, BRun, BOps1, BOps2, BOps3, BOps4, BOps5, BOps6, BOps7, BOps8, BFrz, BOpsM, BOps9. What each holds is said at its theorems. -/
import Derived.Test.YtojnhepgnbhaaaaGreatDoorGroundReasonsQ2
import Derived.Test.YtojnhepgnbhaaaaGreatDoorGroundReasonsQ1
import Derived.Laws.CopyRow
import Derived.Laws.OwnMore
import Derived.Laws.StructEq
import Derived.Laws.Tables
import Derived.Great.BuildSlice
import Derived.MapKept
set_option linter.unusedSimpArgs false
set_option linter.unusedVariables false
namespace Go.Proofs.YtojnhepgnbhaaaaGreatDoor
open Classical
section
variable {α σ ρ:Type} {body:Nat→α→σ→Option (σ ⊕ ρ)} {fin:σ→Option ρ}
theorem Zks (st:List α→σ) (ok:List α→Prop) [DecidablePred ok] (q:ρ) (l:List α) (h0:ok []) (mono:∀p r,l=p++r→ok l→ok p)
  (h:∀p x r,l=p++x::r→ok p→body p.length x (st p)=if ok (p++[x]) then some (.inl (st (p++[x]))) else some (.inr q)):Zp body fin l 0 (st [])=if ok l then fin (st l) else some q:=by
 have key:∀(r pre:List α),l=pre++r→ok pre→Zp body fin r pre.length (st pre)=if ok l then fin (st l) else some q:=by
  intro r
  induction r with
  | nil=>intro pre e hp;rw [List.append_nil] at e;subst e;rw [if_pos hp];rfl
  | cons x r ih=>
   intro pre e hp
   have hx:=h pre x r e hp
   have e2:l=(pre++[x])++r:=by rw [e];simp
   by_cases hk:ok (pre++[x])
   ·rw [if_pos hk] at hx
    rw [Ye hx]
    simpa using ih (pre++[x]) e2 hk
   ·rw [if_neg hk] at hx
    rw [Yy hx,if_neg fun hl=>hk (mono _ _ e2 hl)]
 exact key l [] rfl h0
end
noncomputable def Ztv:List Zc→Zc→Nat→Int
 | [],_,_=>-1
 | x::l,f,i=>if x=f then ((i:Nat):Int) else Ztv l f (i+1)
noncomputable def Y0 (l:List Zc) (f:Zc):Int:=Ztv l f 0
theorem ZbO (l:List Zc) (f:Zc):Yh l f=some (Y0 l f):=by
 unfold Yh Y0
 generalize 0=i
 induction l generalizing i with
 | nil=>rfl
 | cons x l ih=>
  by_cases hx:x=f
  ·rw [Yy (r:=((i:Nat):Int)) (by rw [ZbM,Option.bind_some,if_pos (decide_eq_true hx)])]
   simp [Ztv,hx]
  ·rw [Ye (s':=()) (by rw [ZbM,Option.bind_some,if_neg (by simpa using hx)]),ih (i+1)]
   simp [Ztv,hx]
theorem Zd6 (l:List Zc) (f:Zc):Zau l f=some (Y0 l f):=ZbO l f
noncomputable def Zas (F l:List Zc):List Int:=l.foldl (fun row f=>if 0≤Y0 F f then Zdp row (Y0 F f) else row) []
theorem Zg6 (F:List Zc):∀(l:List Zc) (row:List Int),row.Pairwise (·<·)→(l.foldl (fun row f=>if 0≤Y0 F f then Zdp row (Y0 F f) else row) row).Pairwise (·<·)∧(∀x,x∈l.foldl (fun row f=>if 0≤Y0 F f then Zdp row (Y0 F f) else row) row↔x∈row∨∃f∈l,Y0 F f=x∧0≤x)∧(l.foldl (fun row f=>if 0≤Y0 F f then Zdp row (Y0 F f) else row) row).length≤row.length+l.length
 | [],row,h=>⟨h,by simp,by simp⟩
 | f::l,row,h=>by
  rw [List.foldl_cons]
  by_cases h0:0≤Y0 F f
  ·rw [if_pos h0]
   obtain ⟨h1,h2,h3⟩:=Zg6 F l (Zdp row (Y0 F f)) (ZnQ h)
   have:=Zo8 (Y0 F f) row
   refine ⟨h1,fun x=>?_,by simp only [List.length_cons];omega⟩
   rw [h2,Zls]
   constructor
   ·rintro ((rfl | h) | ⟨g,mg,e⟩)
    ·exact .inr ⟨f,by simp,rfl,h0⟩
    ·exact .inl h
    ·exact .inr ⟨g,by simp [mg],e⟩
   ·rintro (h | ⟨g,mg,e,e0⟩)
    ·exact .inl (.inr h)
    ·rcases List.mem_cons.1 mg with rfl | mg
     ·exact .inl (.inl e.symm)
     ·exact .inr ⟨g,mg,e,e0⟩
  ·rw [if_neg h0]
   obtain ⟨h1,h2,h3⟩:=Zg6 F l row h
   refine ⟨h1,fun x=>?_,by simp only [List.length_cons];omega⟩
   rw [h2]
   constructor
   ·rintro (h | ⟨g,mg,e⟩)
    ·exact .inl h
    ·exact .inr ⟨g,by simp [mg],e⟩
   ·rintro (h | ⟨g,mg,e,e0⟩)
    ·exact .inl h
    ·rcases List.mem_cons.1 mg with rfl | mg
     ·rw [e] at h0;exact absurd e0 h0
     ·exact .inr ⟨g,mg,e,e0⟩
theorem ZdK (F l:List Zc):(Zas F l).Pairwise (·<·)∧(∀x,x∈Zas F l↔∃f∈l,Y0 F f=x∧0≤x)∧(Zas F l).length≤l.length:=by
 obtain ⟨h1,h2,h3⟩:=Zg6 F l [] List.Pairwise.nil
 exact ⟨h1,fun x=>by rw [Zas,h2];simp,by simpa [Zas] using h3⟩
theorem ZnX (F p:List Zc) (f:Zc):Zas F (p++[f])=if 0≤Y0 F f then Zdp (Zas F p) (Y0 F f) else Zas F p:=by rw [Zas,List.foldl_append];rfl
theorem ZgL (F l:List Zc) (h:l.length≤1000000):Zbz F l=some (Zas F l):=by
 unfold Zbz
 have h0:Zas F []=[]:=rfl
 rw [←h0,ZaP (fun p=>Zas F p) l]
 intro p f q e
 have hp:p.length≤l.length:=by rw [e];simp
 have:=(ZdK F p).2.2
 rw [Zd6,Option.bind_some,ZnX]
 by_cases h0:0≤Y0 F f
 ·rw [if_pos (by simpa using h0),if_pos h0,Zn8 _ _ (by omega)]
  rfl
 ·rw [if_neg (by simpa using h0),if_neg h0]
noncomputable def ZaW (F l:List Zc):List Int:=l.foldl (fun row f=>if 0≤Y0 F f∧Y0 F f∉row then row++[Y0 F f] else row) []
theorem Zjb (F p:List Zc) (f:Zc):ZaW F (p++[f])=if 0≤Y0 F f∧Y0 F f∉ZaW F p then ZaW F p++[Y0 F f] else ZaW F p:=by rw [ZaW,List.foldl_append];rfl
theorem Zjt (F:List Zc):∀n (l:List Zc),l.length=n→(ZaW F l).Nodup∧(∀x,x∈ZaW F l↔∃f∈l,Y0 F f=x∧0≤x)∧(ZaW F l).length≤l.length:=by
 intro n
 induction n with
 | zero=>intro l hl;rw [List.eq_nil_of_length_eq_zero hl];simp [ZaW]
 | succ n ih=>
  intro l hl
  obtain ⟨p,f,rfl⟩:∃p f,l=p++[f]:=⟨l.dropLast,l.getLast (by intro e;simp [e] at hl),(List.dropLast_concat_getLast _).symm⟩
  obtain ⟨h1,h2,h3⟩:=ih p (by simpa using hl)
  rw [Zjb]
  by_cases hc:0≤Y0 F f∧Y0 F f∉ZaW F p
  ·rw [if_pos hc]
   refine ⟨by rw [List.nodup_append];exact ⟨h1,by simp,fun a ha b hb e=>by simp at hb;subst hb;subst e;exact hc.2 ha⟩,fun x=>?_,by simp;omega⟩
   rw [List.mem_append,h2]
   constructor
   ·rintro (⟨g,mg,e⟩ | h)
    ·exact ⟨g,by simp [mg],e⟩
    ·simp at h;subst h;exact ⟨f,by simp,rfl,hc.1⟩
   ·rintro ⟨g,mg,e,e0⟩
    rcases List.mem_append.1 mg with mg | mg
    ·exact .inl ⟨g,mg,e,e0⟩
    ·simp at mg;subst mg;exact .inr (by simp [e])
  ·rw [if_neg hc]
   refine ⟨h1,fun x=>?_,by simp;omega⟩
   rw [h2]
   constructor
   ·rintro ⟨g,mg,e⟩
    exact ⟨g,by simp [mg],e⟩
   ·rintro ⟨g,mg,e,e0⟩
    rcases List.mem_append.1 mg with mg | mg
    ·exact ⟨g,mg,e,e0⟩
    ·simp at mg;subst mg
     have:Y0 F g∈ZaW F p:=Classical.byContradiction fun hn=>hc ⟨by rw [e];exact e0,hn⟩
     rw [e] at this
     exact (h2 x).1 this
theorem Zhv (F l:List Zc) (h:l.length≤1000000):Zcy F l=some (Zas F l):=by
 unfold Zcy
 have h0:ZaW F []=[]:=rfl
 rw [←h0,ZaP (fun p=>ZaW F p) l]
 ·obtain ⟨h1,h2,h3⟩:=Zjt F _ l rfl
  obtain ⟨k1,k2,_⟩:=ZdK F l
  simp only [ZeM]
  rw [Zj _ (by omega),Option.bind_some,Zk7 (ZqZ h1) k1 fun x=>by rw [Zrl,h2,k2]]
 ·intro p f q e
  have hp:p.length≤l.length:=by rw [e];simp
  have h3:=(Zjt F _ p rfl).2.2
  rw [ZbO,Option.bind_some,Zjb]
  by_cases h0:0≤Y0 F f
  ·rw [if_pos (by simpa using h0),ZnV,Option.bind_some]
   by_cases hm:Y0 F f∈ZaW F p
   ·rw [if_pos (Zo6.2 hm),if_neg (fun h=>h.2 hm)]
   ·rw [if_neg (by rw [Zo6];exact hm),if_pos ⟨h0,hm⟩,Zj _ (by omega)]
    rfl
  ·rw [if_neg (by simpa using h0),if_neg (fun h=>h0 h.1)]
theorem ZdW (a b:List Int):Zbt a b=some (decide (a=b)):=by
 unfold Zbt
 by_cases h:a.length=b.length
 ·rw [if_neg (by simp;omega),X7 (p:=fun i x=>decide (b[i]?=some x)) (r:=false)]
  ·have:Zbr (fun i x=>decide (b[i]?=some x)) a 0=decide (a=b):=by
    rw [Bool.eq_iff_iff,decide_eq_true_iff]
    constructor
    ·intro ha
     apply List.ext_getElem?
     intro i
     by_cases hi:i<a.length
     ·have hx:=List.getElem?_eq_getElem hi
      have:=Zm3 ha i _ hx
      simp only [Nat.zero_add,decide_eq_true_eq] at this
      rw [hx,this]
     ·rw [List.getElem?_eq_none (by omega),List.getElem?_eq_none (by omega)]
    ·rintro rfl
     have:∀(l pre:List Int),Zbr (fun i x=>decide ((pre++l)[i]?=some x)) l pre.length=true:=by
      intro l
      induction l with
      | nil=>intro pre;rfl
      | cons x l ih=>
       intro pre
       simp only [Zbr,Bool.and_eq_true,decide_eq_true_eq]
       refine ⟨by simp,?_⟩
       have:=ih (pre++[x])
       simpa using this
     simpa using this a []
   rw [this]
   cases decide (a=b)<;>rfl
  ·intro j x hx
   have hj:=(List.getElem?_eq_some_iff.1 hx).1
   have hb:b[j]?=some b[j]:=List.getElem?_eq_getElem (by omega)
   rw [Nat.zero_add,Zcm,hb,Option.bind_some]
   by_cases he:x=b[j]
   ·simp [he]
   ·have:¬b[j]=x:=fun e=>he e.symm
    simp [he,this]
 ·rw [if_pos (by simp;omega),decide_eq_false (fun e=>h (by rw [e]))]
theorem Zal (a b:List Int):Zbc a b=some (decide (a=b)):=ZdW a b
theorem ZkS {a b:Zh} (h1:a.for_=b.for_) (h2:a.inn=b.inn) (h3:a.outs=b.outs):a=b:=by
 cases a;cases b;simp only at h1 h2 h3;subst h1 h2 h3;rfl
theorem ZjF (a b:Zh):Zbb a b=some (decide (a=b)):=by
 unfold Zbb
 by_cases h1:a.for_=b.for_
 ·rw [if_pos (by simpa using h1),ZdW,Option.bind_some]
  by_cases h2:a.inn=b.inn
  ·rw [if_pos (decide_eq_true h2),ZdW,Option.bind_some]
   congr 1
   rw [Bool.eq_iff_iff,decide_eq_true_iff,decide_eq_true_iff]
   exact ⟨ZkS h1 h2,fun e=>by rw [e]⟩
  ·rw [if_neg (by simpa using h2),decide_eq_false (fun e=>h2 (by rw [e]))]
 ·rw [if_neg (by simpa using h1),decide_eq_false (fun e=>h1 (by rw [e]))]
theorem ZkM (l:List Zh) (r:Zh):ZaK l r=some (decide (r∈l)):=by
 unfold ZaK
 rw [ZcB (p:=fun x=>decide (x=r)) (r:=true)]
 ·have:l.any (fun x=>decide (x=r))=decide (r∈l):=by
   rw [Bool.eq_iff_iff,List.any_eq_true,decide_eq_true_iff]
   exact ⟨fun ⟨x,mx,e⟩=>by rw [decide_eq_true_iff] at e;rw [←e];exact mx,fun h=>⟨r,h,by simp⟩⟩
  rw [this]
  cases decide (r∈l)<;>rfl
 ·intro i x mx
  rw [ZjF,Option.bind_some]
  cases decide (x=r)<;>rfl
theorem Zni (l:List Zh) (r:Zh):∃z,Zec l r=some z∧(0≤z↔r∈l):=by
 unfold Zec
 generalize 0=i
 induction l generalizing i with
 | nil=>exact ⟨-1,rfl,by simp⟩
 | cons x l ih=>
  by_cases hx:x=r
  ·subst hx
   refine ⟨((i:Nat):Int),Yy ?_,by simp⟩
   rw [if_pos (by simp),Zal,Option.bind_some,if_pos (by simp),Zal,Option.bind_some,if_pos (by simp)]
  ·obtain ⟨z,e,hz⟩:=ih (i+1)
   refine ⟨z,(Ye ?_).trans e,by rw [hz,List.mem_cons];exact ⟨.inr,fun h=>h.resolve_left fun e=>hx e.symm⟩⟩
   by_cases h1:x.for_=r.for_
   ·rw [if_pos (by simpa using h1),Zal,Option.bind_some]
    by_cases h2:x.inn=r.inn
    ·rw [if_pos (decide_eq_true h2),Zal,Option.bind_some,if_neg (by simpa using fun e=>hx (ZkS h1 h2 e))]
    ·rw [if_neg (by simpa using h2)]
   ·rw [if_neg (by simpa using h1)]
noncomputable def ZrB (r:Zf) (t:Zt):List Zc:=(r.cond.filter fun x=>x.kind==2).map fun x=>(Ze4 (Ze8 x.pattern t.binding)).1
noncomputable def Yi (F:List Zc) (r:Zf) (t:Zt) (a:Zr):Zh:={ for_:=Y0 F (Yx a t),inn:=Zas F t.facts,outs:=Zas F (ZrB r t) }
theorem ZoR {ρ:Type} {r:Zf} {t:Zt} (hr:r.cond.length≤1000000) {fin:List Zc→Option ρ} {body:Nat→Zm→List Zc→Option (List Zc ⊕ ρ)}
  (hb:∀i x row,row.length≤1000000→body i x row=if (x.kind==2)=true then some (.inl (row++[(Ze4 (Ze8 x.pattern t.binding)).1])) else some (.inl row)):Zp body fin r.cond 0 []=fin (ZrB r t):=by
 rw [YY (g:=fun x:Zm=>if (x.kind==2)=true then some (Ze4 (Ze8 x.pattern t.binding)).1 else none)]
 ·rw [List.nil_append]
  congr 1
  unfold ZrB
  induction r.cond with
  | nil=>rfl
  | cons x l ih=>
   by_cases hx:(x.kind==2)=true
   ·simp only [List.filterMap_cons,List.filter_cons,hx,if_true,List.map_cons,ih]
   ·simp only [List.filterMap_cons,List.filter_cons,hx,if_false,ih]
    simp
 ·intro j x s mx hs
  rw [hb _ _ _ (by simp at hs;omega)]
  by_cases hx:(x.kind==2)=true
  ·rw [if_pos hx,if_pos hx]
   rfl
  ·rw [if_neg hx,if_neg hx]
   simp
theorem ZkZ (r:Zf) (t:Zt):(ZrB r t).length≤r.cond.length:=by
 rw [ZrB,List.length_map]
 exact List.length_filter_le _ _
theorem Zj2 {F:List Zc} {r:Zf} {t:Zt} (hr:r.cond.length≤4) (ht:Zsr F t) {j:Nat} {a:Zr} (ha:r.thn[j]?=some a):ZaT r ((j:Nat):Int) t F=some (Yi F r t a):=by
 have hb:=ht.bind
 have hl:=ht.len
 have e1:∀p,Xi p t.binding=some (Ze4 (Ze8 p t.binding)):=fun p=>Zg0 p t.binding (by omega)
 unfold ZaT
 rw [Zcm,ha,Option.bind_some,e1,Option.bind_some,ZoR (t:=t) (by omega) (fun i x row hrow=>by rw [e1,Option.bind_some,Zj _ (by omega)])]
 have:=ZkZ r t
 rw [Zd6,Option.bind_some,ZgL _ _ (by omega),Option.bind_some,ZgL _ _ (by omega),Option.bind_some]
 rfl
noncomputable def ZiR (l:List Zh) (r:Zh):List Zh:=if r∈l then l else l++[r]
theorem ZsD (l:List Zh) (r:Zh):l.length≤(ZiR l r).length∧(ZiR l r).length≤l.length+1:=by
 unfold ZiR
 split<;>simp
theorem ZmQ:∀(c l:List Zh),l.length≤(c.foldl ZiR l).length∧(c.foldl ZiR l).length≤l.length+c.length
 | [],l=>by simp
 | r::c,l=>by
  have h1:=ZmQ c (ZiR l r)
  have h2:=ZsD l r
  simp only [List.foldl_cons,List.length_cons]
  omega
theorem Zj9 {α β:Type} {g:α→List β} {N:Nat}:∀{l:List α},(∀x∈l,(g x).length≤N)→(l.flatMap g).length≤N * l.length
 | [],_=>by simp
 | x::l,h=>by
  have h1:=h x (by simp)
  have h2:=Zj9 (l:=l) fun y my=>h y (by simp [my])
  rw [List.flatMap_cons,List.length_append,List.length_cons,Nat.mul_add]
  omega
noncomputable def QA {β:Type} (s:List Zh × List β) (p:Zh × β):List Zh × List β:=if p.1∈s.1 then s else (s.1++[p.1],s.2++[p.2])
theorem ZcO {β:Type}:∀(c:List (Zh × β)) (s:List Zh × List β),(c.foldl QA s).1=(c.map Prod.fst).foldl ZiR s.1∧(s.2.length=s.1.length→(c.foldl QA s).2.length=(c.foldl QA s).1.length)
 | [],s=>⟨rfl,fun h=>h⟩
 | p::c,s=>by
  obtain ⟨h1,h2⟩:=ZcO c (QA s p)
  have e:(QA s p).1=ZiR s.1 p.1:=by unfold QA ZiR;split<;>rfl
  refine ⟨by rw [List.foldl_cons,h1,e];rfl,fun h=>h2 ?_⟩
  unfold QA
  split
  ·exact h
  ·simp [h]
theorem Zh5 {β:Type} (c:List (Zh × β)) (s:List Zh × List β):s.1.length≤(c.foldl QA s).1.length∧(c.foldl QA s).1.length≤s.1.length+c.length:=by
 have:=ZmQ (c.map Prod.fst) s.1
 rw [(ZcO c s).1]
 simpa using this
section
variable {β:Type} (o:Zf→Zt→β) (F:List Zc)
noncomputable def Zl5 (r:Zf) (t:Zt):List (Zh × β):=r.thn.map fun a=>(Yi F r t a,o r t)
noncomputable def ZkG (r:Zf):List (Zh × β):=(ZQ (Zav r) F).flatMap (Zl5 o F r)
noncomputable def ZcT (base:List Zc):List Zh:=base.map fun f=>{ for_:=Y0 F f,inn:=[],outs:=[] }
noncomputable def Zan (z:β) (R:List Zf) (base:List Zc):List Zh × List β:=(R.flatMap (ZkG o F)).foldl QA (ZcT F base,base.map fun _=>z)
theorem Zpi (r:Zf) (t:Zt):(Zl5 o F r t).length=r.thn.length:=by simp [Zl5]
end
noncomputable def ZyV (F:List Zc) (r:Zf) (t:Zt):List Zh:=r.thn.map (Yi F r t)
noncomputable def Zsl (F:List Zc) (r:Zf):List Zh:=(ZQ (Zav r) F).flatMap (ZyV F r)
noncomputable def Zak (R:List Zf) (F base:List Zc):List Zh:=(R.flatMap (Zsl F)).foldl ZiR (ZcT F base)
theorem Zja {β:Type} (o:Zf→Zt→β) (F:List Zc) (z:β) (R:List Zf) (base:List Zc):(Zan o F z R base).1=Zak R F base∧(Zan o F z R base).2.length=(Zak R F base).length:=by
 obtain ⟨h1,h2⟩:=ZcO (R.flatMap (ZkG o F)) (ZcT F base,base.map fun _=>z)
 have e:(R.flatMap (ZkG o F)).map Prod.fst=R.flatMap (Zsl F):=by
  rw [List.map_flatMap]
  congr 1
  funext r
  rw [ZkG,Zsl,List.map_flatMap]
  congr 1
  funext t
  simp [Zl5,ZyV]
 have h3:(Zan o F z R base).1=Zak R F base:=by unfold Zan Zak;rw [h1,e]
 refine ⟨h3,?_⟩
 rw [←h3]
 exact h2 (by simp [ZcT])
section
variable {β ρ:Type} {o:Zf→Zt→β} {F:List Zc}
theorem ZmG {base:List Zc} (hl:base.length≤1000000) {z:β} {fin:List Zh × List β→Option ρ} {body:Nat→Zc→List Zh × List β→Option ((List Zh × List β) ⊕ ρ)}
  (hb:∀i f a b,a.length≤1000000→b.length≤1000000→body i f (a,b)=some (.inl (a++[{ for_:=Y0 F f,inn:=[],outs:=[] }],b++[z]))):Zp body fin base 0 ([],[])=fin (ZcT F base,base.map fun _=>z):=by
 have h0:(([],[]):List Zh × List β)=(ZcT F [],([]:List Zc).map fun _=>z):=rfl
 rw [h0,ZaP (fun p=>(ZcT F p,p.map fun _=>z)) base]
 intro p f q e
 have hp:p.length≤base.length:=by rw [e];simp
 rw [hb _ _ _ _ (by rw [ZcT,List.length_map];omega) (by rw [List.length_map];omega)]
 simp [ZcT]
theorem ZuR {r:Zf} {t:Zt} (hr2:r.thn.length≤2) {fin:List Zh × List β→Option ρ} {body:Nat→Zr→List Zh × List β→Option ((List Zh × List β) ⊕ ρ)} {s:List Zh × List β} (hl:s.1.length≤99999998) (hs:s.2.length=s.1.length)
  (hb:∀i a c d,c.length≤100000000→d.length≤100000000→body i a (c,d)=if decide (Yi F r t a∈c)=true then some (.inl (c,d)) else some (.inl (c++[Yi F r t a],d++[o r t]))):Zp body fin r.thn 0 s=fin ((Zl5 o F r t).foldl QA s):=by
 have h0:s=((([]:List Zr).map fun a=>(Yi F r t a,o r t))).foldl QA s:=rfl
 conv=>lhs;rw [h0]
 rw [ZaP (fun p:List Zr=>(p.map fun a=>(Yi F r t a,o r t)).foldl QA s) r.thn]
 ·rfl
 ·intro p a q e
  have hp:p.length≤r.thn.length:=by rw [e];simp
  have h1:=Zh5 (p.map fun a=>(Yi F r t a,o r t)) s
  have h2:=(ZcO (p.map fun a=>(Yi F r t a,o r t)) s).2 hs
  rw [List.length_map] at h1
  rw [List.map_append,List.foldl_append]
  generalize (p.map fun a=>(Yi F r t a,o r t)).foldl QA s=u at h1 h2 ⊢
  obtain ⟨c,d⟩:=u
  simp only at h1 h2
  rw [hb _ _ _ _ (by omega) (by omega)]
  show _=some (Sum.inl (QA (c,d) (Yi F r t a,o r t)))
  unfold QA
  by_cases hm:Yi F r t a∈c
  ·rw [if_pos (decide_eq_true hm),if_pos hm]
  ·rw [if_neg (by simpa using hm),if_neg hm]
theorem ZrT {α:Type} {g:α→List (Zh × β)} {L:List α} {M N:Nat} (hg:∀x∈L,(g x).length≤N) {fin:List Zh × List β→Option ρ} {body:Nat→α→List Zh × List β→Option ((List Zh × List β) ⊕ ρ)} {s:List Zh × List β} (hl:s.1.length+N * L.length≤M) (hs:s.2.length=s.1.length)
  (hb:∀i x u,x∈L→u.1.length≤M→u.2.length=u.1.length→body i x u=some (.inl ((g x).foldl QA u))):Zp body fin L 0 s=fin ((L.flatMap g).foldl QA s):=by
 have h0:s=(([]:List α).flatMap g).foldl QA s:=rfl
 conv=>lhs;rw [h0]
 rw [ZaP (fun p=>(p.flatMap g).foldl QA s) L]
 intro p x q e
 have hp:p.length≤L.length:=by rw [e];simp
 have h1:=Zh5 (p.flatMap g) s
 have h2:=(ZcO (p.flatMap g) s).2 hs
 have h3:=Zj9 (l:=p) (g:=g) (N:=N) fun y my=>hg y (by rw [e];simp [my])
 have h4:=Nat.mul_le_mul_left N hp
 rw [hb _ _ _ (by rw [e];simp) (by omega) h2,List.flatMap_append,List.foldl_append]
 simp
theorem ZuW {r:Zf} {t:Zt} {q:ρ} {fin:List Zh × List β→Option ρ} {body:Nat→Zr→List Zh × List β→Option ((List Zh × List β) ⊕ ρ)} {s:List Zh × List β} (hl:s.1.length≤60) (hs:s.2.length=s.1.length)
  (hb:∀j a c d,r.thn[j]?=some a→c.length≤60→d.length≤60→body j a (c,d)=if Yi F r t a∈c then some (.inl (c,d)) else if 60≤c.length then some (.inr q) else some (.inl (c++[Yi F r t a],d++[o r t]))):Zp body fin r.thn 0 s=if ((Zl5 o F r t).foldl QA s).1.length≤60 then fin ((Zl5 o F r t).foldl QA s) else some q:=by
 have h0:s=((([]:List Zr).map fun a=>(Yi F r t a,o r t))).foldl QA s:=rfl
 conv=>lhs;rw [h0]
 rw [Zks (fun p:List Zr=>(p.map fun a=>(Yi F r t a,o r t)).foldl QA s) (fun p=>((p.map fun a=>(Yi F r t a,o r t)).foldl QA s).1.length≤60) q r.thn (by simpa using hl) (fun p c e h=>by
  rw [e,List.map_append,List.foldl_append] at h
  exact Nat.le_trans (Zh5 _ _).1 h)]
 ·rfl
 ·intro p a c e h60
  have h2:=(ZcO (p.map fun a=>(Yi F r t a,o r t)) s).2 hs
  rw [List.map_append,List.foldl_append]
  generalize (p.map fun a=>(Yi F r t a,o r t)).foldl QA s=u at h60 h2 ⊢
  obtain ⟨x,y⟩:=u
  simp only at h60 h2
  rw [hb _ _ _ _ (by rw [e];simp) h60 (by omega)]
  show _=if (QA (x,y) (Yi F r t a,o r t)).1.length≤60 then some (Sum.inl (QA (x,y) (Yi F r t a,o r t))) else some (Sum.inr q)
  unfold QA
  by_cases hm:Yi F r t a∈x
  ·rw [if_pos hm,if_pos hm,if_pos h60]
  ·rw [if_neg hm,if_neg hm]
   by_cases h1:60≤x.length
   ·rw [if_pos h1,if_neg (by simp;omega)]
   ·rw [if_neg h1,if_pos (by simp;omega)]
theorem Zss {α:Type} {g:α→List (Zh × β)} {L:List α} {q:ρ} {fin:List Zh × List β→Option ρ} {body:Nat→α→List Zh × List β→Option ((List Zh × List β) ⊕ ρ)} {s:List Zh × List β} (hl:s.1.length≤60) (hs:s.2.length=s.1.length)
  (hb:∀i x u,x∈L→u.1.length≤60→u.2.length=u.1.length→body i x u=if ((g x).foldl QA u).1.length≤60 then some (.inl ((g x).foldl QA u)) else some (.inr q)):Zp body fin L 0 s=if ((L.flatMap g).foldl QA s).1.length≤60 then fin ((L.flatMap g).foldl QA s) else some q:=by
 have h0:s=(([]:List α).flatMap g).foldl QA s:=rfl
 conv=>lhs;rw [h0]
 rw [Zks (fun p=>(p.flatMap g).foldl QA s) (fun p=>((p.flatMap g).foldl QA s).1.length≤60) q L (by simpa using hl) (fun p c e h=>by
  rw [e,List.flatMap_append,List.foldl_append] at h
  exact Nat.le_trans (Zh5 _ _).1 h)]
 intro p x c e h60
 have h2:=(ZcO (p.flatMap g) s).2 hs
 rw [hb _ _ _ (by rw [e];simp) h60 h2,List.flatMap_append,List.foldl_append]
 simp
end
def noB:ZK:={ nodes:=0,reasons:=[] }
def Znv (r:Zf) (t:Zt):Zaj:={ rule:=r.name,facts:=t.facts }
def ZnS (r:Zf) (t:Zt):Xx:={ rule:=r.name,token:=t }
def noI:Zaj:={ rule:=⟨#[]⟩,facts:=[] }
def noS:Xx:={ rule:=⟨#[]⟩,token:={ facts:=[],binding:=[] } }
def Zqj {β:Type} (F:List Zc) (g:List Zh × List β):List Zc × ZK × List β × Bool:=if 60<g.1.length then ([],noB,[],false) else (F,{ nodes:=((F.length:Nat):Int),reasons:=g.1 },g.2,true)
structure Qu (R:List Zf) (base F:List Zc):Prop where
 logical:(YI R&&R.all (Xq R))=true
 facts:YQ base=true
 good:Zeq R base F
 len:F.length≤24
 closed:ZhE R F
theorem Qu.rule {R:List Zf} {base F:List Zc} (h:Qu R base F) {r:Zf} (mr:r∈R):Z2 r=true∧r.cond.length≤4∧r.thn.length≤2:=by
 have h1:=h.logical
 rw [Bool.and_eq_true] at h1
 have h2:=List.all_eq_true.1 h1.2 r mr
 unfold Xq at h2
 rw [Bool.and_eq_true] at h2
 have h3:=h2.1
 unfold Z2 at h3
 simp only [Bool.and_eq_true] at h3
 exact ⟨h2.1,ZbU h3.1.1⟩
theorem Qu.toks {R:List Zf} {base F:List Zc} (h:Qu R base F) {r:Zf} (mr:r∈R):(ZQ (Zav r) F).length≤331776:=ZeB F h.len (Zav r) (by have:=Zc5 r;have:=(h.rule mr).2.1;omega)
theorem Qu.tokS {R:List Zf} {base F:List Zc} (h:Qu R base F) {r:Zf} (mr:r∈R) {t:Zt} (mt:t∈ZQ (Zav r) F):Zsr F t:=(Zd8 F _ t mt).s (by have:=Zc5 r;have:=(h.rule mr).2.1;omega) fun f mf=>X4 (h.good.ok f mf)
theorem Zpd {R:List Zf} {base F:List Zc} (h:Qu R base F) (hp:Yv R base=some (F,true)):Zbe R base=some (Zqj F (Zan Znv F noI R base)):=by
 have h6:R.length≤6:=by have:=h.logical;rw [Bool.and_eq_true] at this;exact (ZhQ this.1).1
 have hb24:=(ZdP h.facts).1
 unfold Zbe
 rw [hp,Option.bind_some,if_pos rfl,ZmG (F:=F) (z:=noI) (by omega)]
 ·show Zp _ _ R 0 (ZcT F base,base.map fun _=>noI)=_
  rw [ZrT (g:=ZkG Znv F) (N:=663552) (M:=90000000)]
  ·show (if decide (60<(((Zan Znv F noI R base).1.length:Nat):Int))=true then _ else _)=_
   unfold Zqj
   by_cases h60:60<(Zan Znv F noI R base).1.length
   ·rw [if_pos (decide_eq_true (by omega)),if_pos h60]
    rfl
   ·rw [if_neg (fun h=>h60 (by have:=of_decide_eq_true h;omega)),if_neg h60]
    rfl
  ·intro r mr
   obtain ⟨_,_,h2⟩:=h.rule mr
   have h3:=h.toks mr
   have:=Zj9 (l:=ZQ (Zav r) F) (g:=Zl5 Znv F r) (N:=2) fun x _=>by rw [Zpi];omega
   unfold ZkG
   omega
  ·simp only [ZcT,List.length_map];omega
  ·simp [ZcT]
  ·intro i r u mr hu hu2
   obtain ⟨c,d⟩:=u
   obtain ⟨_,h1,h2⟩:=h.rule mr
   have h3:=h.toks mr
   simp only at hu hu2
   show (YU r).bind _=_
   rw [Zbv r (by omega),Option.bind_some,ZgK _ _ (by have:=Zc5 r;omega) h.len (fun f mf=>X4 (h.good.ok f mf)),Option.bind_some,ZrT (g:=Zl5 Znv F r) (N:=2) (M:=99999998)]
   ·rfl
   ·intro t mt
    rw [Zpi]
    exact h2
   ·simp only;omega
   ·exact hu2
   ·intro j t v mt hv hv2
    obtain ⟨c2,d2⟩:=v
    simp only at hv hv2
    have ht:=h.tokS mr mt
    have hl:=ht.len
    have ha:=ZkZ r t
    show Zp _ _ r.cond 0 []=_
    rw [ZoR (t:=t) (by omega) (fun i x row hrow=>by rw [Zd5,Option.bind_some,Zj _ (by omega)])]
    rw [ZuR (o:=Znv) (F:=F) (t:=t) h2 (s:=(c2,d2)) hv hv2]
    ·intro k a x y hx hy
     show (Ql a.pattern t.binding).bind _=_
     rw [Zd5,Option.bind_some,ZbO,Option.bind_some,Zhv _ _ (by omega),Option.bind_some,Zhv _ _ (by omega),Option.bind_some]
     show (ZaK x (Yi F r t a)).bind _=_
     rw [ZkM,Option.bind_some]
     by_cases hm:Yi F r t a∈x
     ·rw [if_pos (decide_eq_true hm),if_pos (decide_eq_true hm)]
     ·rw [if_neg (by simpa using hm),if_neg (by simpa using hm),Zj _ (by omega),Zj _ (by omega)]
      rfl
 ·intro i f a b ha hb
  show (Yh F f).bind _=_
  rw [ZbO,Option.bind_some,Zj _ (by omega),Zj _ (by omega)]
  rfl
theorem Zpp {R:List Zf} {base F:List Zc} (h:Qu R base F) (hp:Yu R base=some (F,true)):XG R base=some (Zqj F (Zan ZnS F noS R base)):=by
 have h6:R.length≤6:=by have:=h.logical;rw [Bool.and_eq_true] at this;exact (ZhQ this.1).1
 have hb24:=(ZdP h.facts).1
 unfold XG
 rw [hp,Option.bind_some,if_pos rfl,ZmG (F:=F) (z:=noS) (by omega)]
 ·show Zp _ _ R 0 (ZcT F base,base.map fun _=>noS)=_
  rw [Zss (g:=ZkG ZnS F) (q:=([],noB,[],false))]
  ·show (if (Zan ZnS F noS R base).1.length≤60 then _ else _)=_
   unfold Zqj
   by_cases h60:60<(Zan ZnS F noS R base).1.length
   ·rw [if_neg (by omega),if_pos h60]
   ·rw [if_pos (by omega),if_neg h60]
    rfl
  ·simp only [ZcT,List.length_map];omega
  ·simp [ZcT]
  ·intro i r u mr hu hu2
   obtain ⟨c,d⟩:=u
   obtain ⟨_,h1,h2⟩:=h.rule mr
   simp only at hu hu2
   show (XQ r).bind _=_
   rw [Zeu r (by omega),Option.bind_some,ZgQ _ _ (by have:=Zc5 r;omega) h.len (fun f mf=>X4 (h.good.ok f mf)),Option.bind_some,Zss (g:=Zl5 ZnS F r) (q:=.inr ([],noB,[],false)) (s:=(c,d)) hu hu2]
   ·rfl
   ·intro j t v mt hv hv2
    obtain ⟨c2,d2⟩:=v
    simp only at hv hv2
    have ht:=h.tokS mr mt
    show Zp _ _ r.thn 0 (c2,d2)=_
    rw [ZuW (o:=ZnS) (F:=F) (t:=t) (q:=.inr (.inr ([],noB,[],false))) (s:=(c2,d2)) hv hv2]
    ·intro k a x y ha hx hy
     show (ZaT r ((k:Nat):Int) t F).bind _=_
     rw [Zj2 h1 ht ha,Option.bind_some]
     obtain ⟨z,hz,hz2⟩:=Zni x (Yi F r t a)
     rw [hz,Option.bind_some]
     by_cases hm:Yi F r t a∈x
     ·rw [if_pos (by simpa using hz2.2 hm),if_pos hm]
     ·rw [if_neg (by simpa using fun h0=>hm (hz2.1 h0)),if_neg hm]
      by_cases h60:60≤x.length
      ·rw [if_pos (by simp;omega),if_pos h60]
       rfl
      ·rw [if_neg (by simp;omega),if_neg h60,Zj _ (by omega),Zj _ (by omega)]
       rfl
 ·intro i f a b ha hb
  show (Zau F f).bind _=_
  rw [Zd6,Option.bind_some,Zj _ (by omega),Zj _ (by omega)]
  rfl
theorem Zpf {R:List Zf} (hR:ZbJ R) (base:List Zc) (hb20:base.length≤1048576):(Zbe R base=some ([],noB,[],false)∧XG R base=some ([],noB,[],false))∨∃F,Qu R base F∧Zbe R base=some (Zqj F (Zan Znv F noI R base))∧XG R base=some (Zqj F (Zan ZnS F noS R base)):=by
 obtain ⟨⟨F,b⟩,h1,h2,h3⟩:=Zhp hR base hb20
 have no:b=false→(Zbe R base=some ([],noB,[],false)∧XG R base=some ([],noB,[],false)):=fun e=>by
  subst e
  unfold Zbe XG
  rw [h1,h2]
  exact ⟨rfl,rfl⟩
 rcases h3 with h3 | ⟨h3,h4,⟨h5,h6,h7,h8⟩ | ⟨h5,_⟩⟩
 ·simp only [Prod.mk.injEq] at h3
  exact .inl (no h3.2)
 ·simp only at h5
  subst h5
  have hG:Qu R base F:=⟨h3,h4,h6,h7,h8⟩
  exact .inr ⟨F,hG,Zpd hG h2,Zpp hG h1⟩
 ·exact .inl (no h5)
def ZnM (R:List Zf) (base F:List Zc) (b:ZK) (ok:Bool):Prop:=(ok=false∧F=[]∧b=noB)∨(ok=true∧Qu R base F∧b={ nodes:=((F.length:Nat):Int),reasons:=Zak R F base }∧(Zak R F base).length≤60)
theorem Zhd {R:List Zf} (hR:ZbJ R) (base:List Zc) (hb20:base.length≤1048576):∃F b ok,Xz R base=some (F,b,ok)∧Xw R base=some (F,b,ok)∧ZnM R base F b ok:=by
 unfold Xz Xw
 rcases Zpf hR base hb20 with ⟨h1,h2⟩ | ⟨F,hG,h1,h2⟩
 ·rw [h1,h2]
  exact ⟨_,_,_,rfl,rfl,.inl ⟨rfl,rfl,rfl⟩⟩
 ·obtain ⟨e1,_⟩:=Zja Znv F noI R base
  obtain ⟨e2,_⟩:=Zja ZnS F noS R base
  rw [h1,h2]
  unfold Zqj
  rw [e1,e2]
  by_cases h60:60<(Zak R F base).length
  ·rw [if_pos h60,if_pos h60]
   exact ⟨_,_,_,rfl,rfl,.inl ⟨rfl,rfl,rfl⟩⟩
  ·rw [if_neg h60,if_neg h60]
   exact ⟨_,_,_,rfl,rfl,.inr ⟨rfl,hG,rfl,Nat.le_of_not_lt h60⟩⟩
theorem Zpb {r:Zh}:∀{c l:List Zh},r∈c.foldl ZiR l↔r∈l∨r∈c
 | [],l=>by simp
 | x::c,l=>by
  rw [List.foldl_cons,Zpb]
  have:r∈ZiR l x↔r∈l∨r=x:=by
   unfold ZiR
   split
   ·rename_i h
    exact ⟨.inl,fun h'=>h'.elim id fun e=>e ▸ h⟩
   ·simp
  rw [this,List.mem_cons,or_assoc]
theorem Zp4 {R:List Zf} {F base:List Zc} {x:Zh}:x∈Zak R F base↔(∃f∈base,x={ for_:=Y0 F f,inn:=[],outs:=[] })∨∃r∈R,∃t∈ZQ (Zav r) F,∃a∈r.thn,x=Yi F r t a:=by
 unfold Zak
 rw [Zpb]
 constructor
 ·rintro (h | h)
  ·obtain ⟨f,mf,e⟩:=List.mem_map.1 h
   exact .inl ⟨f,mf,e.symm⟩
  ·obtain ⟨r,mr,h⟩:=List.mem_flatMap.1 h
   obtain ⟨t,mt,h⟩:=List.mem_flatMap.1 h
   obtain ⟨a,ma,e⟩:=List.mem_map.1 h
   exact .inr ⟨r,mr,t,mt,a,ma,e.symm⟩
 ·rintro (⟨f,mf,e⟩ | ⟨r,mr,t,mt,a,ma,e⟩)
  ·exact .inl (List.mem_map.2 ⟨f,mf,e.symm⟩)
  ·exact .inr (List.mem_flatMap.2 ⟨r,mr,List.mem_flatMap.2 ⟨t,mt,List.mem_map.2 ⟨a,ma,e.symm⟩⟩⟩)
theorem Znq {R:List Zf} {base F:List Zc} (h:Qu R base F) {x:Zh} (mx:x∈Zak R F base):x.inn.length≤4∧x.outs.length≤4:=by
 rcases Zp4.1 mx with ⟨f,_,rfl⟩ | ⟨r,mr,t,mt,a,_,rfl⟩
 ·exact ⟨Nat.zero_le _,Nat.zero_le _⟩
 ·have h1:=(h.tokS mr mt).len
  have h2:=ZkZ r t
  have h3:=(h.rule mr).2.1
  exact ⟨Nat.le_trans (ZdK F t.facts).2.2 h1,Nat.le_trans (ZdK F (ZrB r t)).2.2 (by omega)⟩
theorem ZnM.small {R:List Zf} {base F:List Zc} {b:ZK} {ok:Bool} (h:ZnM R base F b ok):F.length≤1048576∧Yd F≤1048576∧ZaN b≤1048576:=by
 rcases h with ⟨_,rfl,rfl⟩ | ⟨_,hG,rfl,h60⟩
 ·simp [Yd,ZaN,noB,ZaG]
 ·have h1:=hG.len
  have h2:(F.map YP).sum≤F.length * 64:=ZjT fun x mx=>Zre (hG.good.ok x mx)
  have h3:((Zak R F base).map Zc7).sum≤(Zak R F base).length * 64:=ZjT fun x mx=>by
   obtain ⟨k1,k2⟩:=Znq hG mx
   unfold Zc7
   omega
  refine ⟨by omega,?_,?_⟩
  ·unfold Yd
   omega
  ·unfold ZaN ZaG
   simp only
   omega
theorem Zgo (aRules:List Zf) (cz:Yj aRules≤1048576) (_:(fun ds=>∀d∈ds,ZpL d) aRules) (aBase:List Zc) (cf:Yd aBase≤1048576) (_:(fun ds=>∀d∈ds,ZpO d) aBase):∃r b k,Xw aRules aBase=some (r,b,k)∧Xz aRules aBase=some (r,b,k)∧(r.length≤1048576∧Yd r≤1048576∧ZaN b≤1048576):=by
 have hF:aBase.length≤1048576:=by unfold Yd at cf;omega
 obtain ⟨r,b,k,h1,h2,h3⟩:=Zhd (Zo5 cz) aBase hF
 exact ⟨r,b,k,h2,h1,h3.small⟩
end Go.Proofs.YtojnhepgnbhaaaaGreatDoor
namespace Go.Proofs.YtojnhepgnbhaaaaGreatDoor
open Go.RowKit
def ZH {α β:Type} (R:α→β→Prop):List α→List β→Prop
 | [],[]=>True
 | a::l,b::r=>R a b∧ZH R l r
 | _,_=>False
section
variable {α β:Type} {R R':α→β→Prop}
theorem ZH.len:∀{l:List α} {r:List β},ZH R l r→l.length=r.length
 | [],[],_=>rfl
 | _::_,_::_,h=>by simp [h.2.len]
 | [],_::_,h=>h.elim
 | _::_,[],h=>h.elim
theorem ZH.mono:∀{l:List α} {r:List β},ZH R l r→(∀a b,a∈l→R a b→R' a b)→ZH R' l r
 | [],[],_,_=>trivial
 | _::_,_::_,h,f=>⟨f _ _ (by simp) h.1,h.2.mono fun a b m=>f a b (by simp [m])⟩
 | [],_::_,h,_=>h.elim
 | _::_,[],h,_=>h.elim
theorem ZH.at:∀{l:List α} {r:List β} {i:Nat} {a:α},ZH R l r→l[i]?=some a→∃b,r[i]?=some b∧R a b
 | [],[],_,_,_,h=>by simp at h
 | _::_,b::_,0,_,h,e=>by simp at e;subst e;exact ⟨b,by simp,h.1⟩
 | _::_,_::_,i+1,a,h,e=>by
  obtain ⟨b,h1,h2⟩:=h.2.at (i:=i) (a:=a) (by simpa using e)
  exact ⟨b,by simpa using h1,h2⟩
 | [],_::_,_,_,h,_=>h.elim
 | _::_,[],_,_,h,_=>h.elim
theorem ZH.set:∀{l:List α} {r:List β} {i:Nat} {a:α} {b:β},ZH R l r→R a b→ZH R (l.set i a) (r.set i b)
 | [],[],_,_,_,_,_=>trivial
 | _::_,_::_,0,_,_,h,e=>⟨e,h.2⟩
 | _::_,_::_,_+1,_,_,h,e=>⟨h.1,h.2.set e⟩
 | [],_::_,_,_,_,h,_=>h.elim
 | _::_,[],_,_,_,h,_=>h.elim
theorem ZH.drop:∀{l:List α} {r:List β} (n:Nat),ZH R l r→ZH R (l.drop n) (r.drop n)
 | _,_,0,h=>by simpa using h
 | [],[],n+1,_=>by simp [ZH]
 | _::_,_::_,n+1,h=>by simpa using h.2.drop n
 | [],_::_,_+1,h=>h.elim
 | _::_,[],_+1,h=>h.elim
theorem ZH.take:∀{l:List α} {r:List β} (n:Nat),ZH R l r→ZH R (l.take n) (r.take n)
 | _,_,0,h=>by simp [ZH]
 | [],[],n+1,_=>by simp [ZH]
 | _::_,_::_,n+1,h=>by simpa using ⟨h.1,h.2.take n⟩
 | [],_::_,_+1,h=>h.elim
 | _::_,[],_+1,h=>h.elim
theorem ZH.append:∀{l l':List α} {r r':List β},ZH R l r→ZH R l' r'→ZH R (l++l') (r++r')
 | [],_,[],_,_,h=>h
 | _::_,_,_::_,_,h,h'=>⟨h.1,h.2.append h'⟩
 | [],_,_::_,_,h,_=>h.elim
 | _::_,_,[],_,h,_=>h.elim
end
class NW where
 B0:Nat
structure Gh where
 val:Nat→Value
 O:Nat→List Nat
 D:Nat→List Nat
 Z:Nat→Prop
def Gh.own (g:Gh) (b:Nat):Prop:=(∃k,b∈g.O k)∨g.Z b
def Gh.low (g:Gh) (b:Nat):Prop:=g.own b∨∃k,b∈g.D k
structure Qt (g g':Gh) (n:Nat):Prop where
 own:∀b,g'.own b→g.own b∨n≤b
 low:∀b,g'.low b→g.low b∨n≤b
structure Xs (g' g:Gh):Prop where
 own:∀b,g'.own b→g.own b
 low:∀b,g'.low b→g.low b
theorem Qt.refl (g:Gh) (n:Nat):Qt g g n:=⟨fun _ h=>.inl h,fun _ h=>.inl h⟩
theorem Xs.refl (g:Gh):Xs g g:=⟨fun _ h=>h,fun _ h=>h⟩
theorem Xs.trans {a b c:Gh} (h:Xs a b) (k:Xs b c):Xs a c:=⟨fun x hx=>k.own x (h.own x hx),fun x hx=>k.low x (h.low x hx)⟩
theorem Xs.grow {g' g:Gh} (h:Xs g' g) (n:Nat):Qt g g' n:=⟨fun x hx=>.inl (h.own x hx),fun x hx=>.inl (h.low x hx)⟩
theorem Xs.of {g' g:Gh} (h:∀b,g'.own b→g.own b) (k:∀j b,b∈g'.D j→∃i,b∈g.D i):Xs g' g:=⟨h,fun x hx=>hx.imp (h x) fun ⟨j,mj⟩=>k j x mj⟩
theorem Qt.of {g g':Gh} {n:Nat} (h:∀b,g'.own b→g.own b∨n≤b) (k:∀j b,b∈g'.D j→g.low b∨n≤b):Qt g g' n:=⟨h,fun x hx=>by
 rcases hx with hx | ⟨j,mj⟩
 ·exact (h x hx).imp (fun q=>.inl q) id
 ·exact k j x mj⟩
structure Q8 extends World where
 z:Nat→Prop
 x:Nat→Prop
 hv:Option Value
structure Bel (W:Q8) (w:World):Prop where
 os:w.os=W.os
 tape:w.tape=W.tape
 output:w.output=W.output
 size:W.heap.size≤w.heap.size
 block:∀k,k<W.heap.size→¬W.x k→w.heap[k]?=W.heap[k]?
theorem Bel.trans {W:Q8} {w w':World} (h:Bel W w) (k:Below w.heap.size w w'):Bel W w':=
 ⟨k.os.trans h.os,k.tape.trans h.tape,k.output.trans h.output,Nat.le_trans h.size k.size,fun i hi hx=>(k.block i (Nat.lt_of_lt_of_le hi h.size)).trans (h.block i hi hx)⟩
def NR [NW] (g:Gh) (w:World) (x:CT) (v:Value):Prop:=
 ∃e m xs cs L,x=.sl e m xs∧0<m∧w.ownsV 0 e m v xs.length cs∧REs w m xs cs L∧(v.ownBlock.toList++L).Nodup∧∀b∈v.ownBlock.toList++L,¬g.low b∧NW.B0≤b∧∃cur t,w.heap[b]?=some (.cells cur t (0,0))
def AVR [NW] (g:Gh) (w:World):AV→Value→Prop
 | .c x,v=>∃L,RC w x v L∧∀b∈L,¬g.own b
 | .n x,v=>NR g w x v
 | .row k,v=>v=g.val k∧v.oneCell'=true
 | .nil _ _,v=>v=.slice none 0 0
 | .dead,v=>v.oneCell'=true
def PVR [NW] (g:Gh) (w:World):Bool→List AV→Value→Prop
 | true,cs,v=>∃vs:List Value,v=.agg vs.toArray∧ZH (AVR g w) cs vs
 | false,cs,v=>∃x,cs=[x]∧AVR g w x v
def SVR [NW] (g:Gh) (w:World):SV→Value→Prop
 | .any,_=>True
 | .und,v=>v=undef
 | .p a cs,v=>PVR g w a cs v
 | .tup xs,v=>∃vs:List Value,v=.tuple vs.toArray∧ZH (fun x u=>PVR g w x.1 x.2 u) xs vs
 | .bp k off,v=>∃b,g.val k=.pointer (some ⟨b,0,none⟩)∧v=.pointer (some ⟨b,off,none⟩)
 | .rp k m i off,v=>∃b o n c,g.val k=.slice (some ⟨b,o,none⟩) n c∧v=.pointer (some ⟨b,o+(i * m+off),none⟩)
 | .ep e off,v=>∃b lo cs L,v=.pointer (some ⟨b,lo+off,none⟩)∧XX w b lo cs∧RCs w e cs L∧(∀x∈b::L,¬g.own x)∧b<w.heap.size
 | .fn f,v=>v=.func (.func f) #[] #[]
def ObR [NW] (g:Gh) (w:World) (k:Nat):Ob→Prop
 | .gone=>g.O k=[]∧g.D k=[]
 | .box t cs=>∃b vs,g.val k=.pointer (some ⟨b,0,none⟩)∧g.O k=[b]∧g.D k=[]∧w.heap[b]?=some (.cells vs.toArray t (0,0))∧ZH (AVR g w) cs vs
 | .row e m xs d=>0<m∧∃cs L,w.ownsV 0 e m (g.val k) xs.length cs∧REs w m xs cs L∧((d=2∧g.O k=(g.val k).ownBlock.toList∧g.D k=L)∨(d=1∧g.O k=(g.val k).ownBlock.toList∧g.D k=[]∧∀b∈L,¬g.own b)∨(d=0∧g.O k=[]∧g.D k=[]∧∀b∈(g.val k).ownBlock.toList++L,¬g.own b))
 | .map kk vk kv=>∃b es c,g.val k=.map (some b)∧g.O k=[b]∧g.D k=[]∧w.heap[b]?=some (.map es c)∧Zc3 es=kv∧Zie kk vk kv
def XZ (w:World) (o:Ob) (b:Nat):Prop:=
 match o with
 | .map _ _ _=>∃es c,w.heap[b]?=some (.map es c)
 | _=>∃cur e,w.heap[b]?=some (.cells cur e (0,0))
theorem XZ.lt {w:World} {o:Ob} {b:Nat} (h:XZ w o b):b<w.heap.size:=by
 unfold XZ at h
 split at h
 ·obtain ⟨_,_,h⟩:=h;exact (Array.getElem?_eq_some_iff.1 h).1
 ·obtain ⟨_,_,h⟩:=h;exact (Array.getElem?_eq_some_iff.1 h).1
theorem XZ.keep {w w':World} {o:Ob} {b:Nat} (h:XZ w o b) (e:w'.heap[b]?=w.heap[b]?):XZ w' o b:=by
 unfold XZ at h ⊢
 rw [e];exact h
def Zis:Ob→Bool
 | .map _ _ _=>true
 | _=>false
theorem XZ.of {w:World} {o o':Ob} {b:Nat} (h:XZ w o b) (e:Zis o'=Zis o):XZ w o' b:=by
 cases o<;>cases o'<;>simp [Zis] at e<;>exact h
structure HI [NW] (W:Q8) (g:Gh) (ob:Nat→Ob) (w:World):Prop where
 below:Bel W w
 obs:∀k,ObR g w k (ob k)
 nodup:∀k,(g.O k++g.D k).Nodup
 apart:∀k j,k≠j→∀b∈g.O k++g.D k,b∉g.O j++g.D j
 plain:∀k,∀b∈g.O k++g.D k,(W.heap.size≤b∨W.x b)∧XZ w (ob k) b
 gz:g.Z=W.z
 zx:∀b,W.z b→b<W.heap.size∧¬W.x b
 nw:∀b,(W.heap.size≤b∨W.x b)→NW.B0≤b
def avU (U:Nat→Prop):AV→Prop
 | .row k=>U k
 | _=>True
def Qz (U:Nat→Prop) (cs:List AV):Prop:=∀x∈cs,avU U x
def svU (U:Nat→Prop):SV→Prop
 | .p _ cs=>Qz U cs
 | .tup xs=>∀x∈xs,Qz U x.2
 | .bp k _=>U k
 | .rp k _ _ _=>U k
 | _=>True
def obU (U:Nat→Prop):Ob→Prop
 | .box _ cs=>Qz U cs
 | _=>True
structure StU (U:Nat→Prop) (st:St):Prop where
 sl:∀t,svU U (st.sl t)
 ob:∀k,obU U (st.ob k)
 gone:∀k,¬U k→st.ob k=.gone
theorem HI.lt [NW] {W:Q8} {g:Gh} {ob:Nat→Ob} {w:World} (h:HI W g ob w) (k:Nat):∀b∈g.O k++g.D k,b<w.heap.size:=by
 intro b m
 exact (h.plain k b m).2.lt
theorem HI.nz [NW] {W:Q8} {g:Gh} {ob:Nat→Ob} {w:World} (h:HI W g ob w) {k b:Nat} (m:b∈g.O k++g.D k):¬g.Z b:=fun hz=>by
 rw [h.gz] at hz
 obtain ⟨h1,h2⟩:=h.zx b hz
 rcases (h.plain k b m).1 with h3 | h3
 ·omega
 ·exact h2 h3
section
variable {g g':Gh} {w w':World} {U:Nat→Prop}
theorem NR.move [NW] {x:CT} {v:Value} (h:NR g w x v)
  (hw:∀b,b<w.heap.size→¬g.own b→w'.heap[b]?=w.heap[b]?) (ho:Qt g g' w.heap.size):NR g' w' x v:=by
 obtain ⟨e,m,xs,cs,L,h1,h2,h3,h4,h5,h6⟩:=h
 have hlt:∀b∈v.ownBlock.toList++L,b<w.heap.size:=fun b mb=>by
  obtain ⟨_,_,_,_,q⟩:=h6 b mb
  exact (Array.getElem?_eq_some_iff.1 q).1
 have hs:∀b∈v.ownBlock.toList++L,w'.heap[b]?=w.heap[b]?:=fun b mb=>hw b (hlt b mb) fun o=>(h6 b mb).1 (.inl o)
 refine ⟨e,m,xs,cs,L,h1,h2,Zg5 h3 fun b mb=>hs b (by simp [mb]),h4.keep fun b mb=>hs b (by simp [mb]),h5,fun b mb=>⟨fun o=>?_,(h6 b mb).2.1,by rw [hs b mb];exact (h6 b mb).2.2⟩⟩
 rcases ho.low b o with o | o
 ·exact (h6 b mb).1 o
 ·have:=hlt b mb;omega
theorem AVR.move [NW] {x:AV} {v:Value} (h:AVR g w x v) (hx:avU U x) (hv:∀k,U k→g'.val k=g.val k)
  (hw:∀b,b<w.heap.size→¬g.own b→w'.heap[b]?=w.heap[b]?) (ho:Qt g g' w.heap.size):AVR g' w' x v:=by
 cases x with
 | c x=>
  obtain ⟨L,h1,h2⟩:=h
  have hlt:=h1.lt
  refine ⟨L,h1.keep fun b m=>hw b (hlt b m) (h2 b m),fun b m o=>?_⟩
  rcases ho.own b o with o | o
  ·exact h2 b m o
  ·have:=hlt b m;omega
 | n x=>exact NR.move h hw ho
 | row k=>exact ⟨h.1.trans (hv k hx).symm,h.2⟩
 | nil e m=>exact h
 | dead=>exact h
theorem AVRs.move [NW] {cs:List AV} {vs:List Value} (h:ZH (AVR g w) cs vs) (hx:Qz U cs) (hv:∀k,U k→g'.val k=g.val k)
  (hw:∀b,b<w.heap.size→¬g.own b→w'.heap[b]?=w.heap[b]?) (ho:Qt g g' w.heap.size):ZH (AVR g' w') cs vs:=
 h.mono fun a _ m r=>r.move (hx a m) hv hw ho
theorem PVR.move [NW] {a:Bool} {cs:List AV} {v:Value} (h:PVR g w a cs v) (hx:Qz U cs) (hv:∀k,U k→g'.val k=g.val k)
  (hw:∀b,b<w.heap.size→¬g.own b→w'.heap[b]?=w.heap[b]?) (ho:Qt g g' w.heap.size):PVR g' w' a cs v:=by
 cases a with
 | true=>obtain ⟨vs,h1,h2⟩:=h;exact ⟨vs,h1,AVRs.move h2 hx hv hw ho⟩
 | false=>obtain ⟨x,h1,h2⟩:=h;exact ⟨x,h1,h2.move (hx x (by simp [h1])) hv hw ho⟩
theorem SVR.move [NW] {s:SV} {v:Value} (h:SVR g w s v) (hx:svU U s) (hv:∀k,U k→g'.val k=g.val k)
  (hw:∀b,b<w.heap.size→¬g.own b→w'.heap[b]?=w.heap[b]?) (ho:Qt g g' w.heap.size) (hs:w.heap.size≤w'.heap.size):SVR g' w' s v:=by
 cases s with
 | any=>exact h
 | und=>exact h
 | p a cs=>exact PVR.move h hx hv hw ho
 | tup xs=>
  obtain ⟨vs,h1,h2⟩:=h
  exact ⟨vs,h1,h2.mono fun x _ m r=>r.move (hx x m) hv hw ho⟩
 | bp k off=>obtain ⟨b,h1,h2⟩:=h;exact ⟨b,(hv k hx).trans h1,h2⟩
 | rp k m i off=>obtain ⟨b,o,n,c,h1,h2⟩:=h;exact ⟨b,o,n,c,(hv k hx).trans h1,h2⟩
 | ep e off=>
  obtain ⟨b,lo,cs,L,h1,h2,h3,h4,h5⟩:=h
  have hlt:=h3.lt
  refine ⟨b,lo,cs,L,h1,fun j u hu=>?_,h3.keep fun x m=>hw x (hlt x m) (h4 x (by simp [m])),fun x m o=>?_,by omega⟩
  ·rw [←h2 j u hu];exact World.cell?_of_block (hw b h5 (h4 b (by simp)))
  ·rcases ho.own x o with o | o
   ·exact h4 x m o
   ·rcases List.mem_cons.1 m with rfl | m
    ·omega
    ·have:=hlt x m;omega
 | fn f=>exact h
theorem HI.step [NW] {W:Q8} {ob ob':Nat→Ob} (h:HI W g ob w) (T:Nat→Prop)
  (hbel:Bel W w') (hZ:g'.Z=g.Z)
  (hw:∀b,b<w.heap.size→(∀k,T k→b∉g.O k)→w'.heap[b]?=w.heap[b]?)
  (hk:∀k,¬T k→ob' k=ob k∧g'.val k=g.val k∧g'.O k=g.O k∧g'.D k=g.D k)
  (hobU:∀k,obU U (ob k)) (hv:∀k,U k→g'.val k=g.val k)
  (ho:Qt g g' w.heap.size)
  (hT:∀k,T k→ObR g' w' k (ob' k)∧(g'.O k++g'.D k).Nodup∧(∀b∈g'.O k++g'.D k,(W.heap.size≤b∨W.x b)∧XZ w' (ob' k) b)∧∀j,k≠j→∀b∈g'.O k++g'.D k,b∉g'.O j++g'.D j):
  HI W g' ob' w':=by
 have hw':∀b,b<w.heap.size→¬g.own b→w'.heap[b]?=w.heap[b]?:=fun b hb hn=>hw b hb fun k _ m=>hn (.inl ⟨k,m⟩)
 have hkeepF:∀k,¬T k→∀b∈g.O k++g.D k,w'.heap[b]?=w.heap[b]?:=fun k hk b m=>
  hw b (h.lt k b m) fun j hj mj=>h.apart j k (fun e=>hk (e ▸ hj)) b (by simp [mj]) m
 refine ⟨hbel,fun k=>?_,fun k=>?_,fun k j hkj b m=>?_,fun k b m=>?_,hZ.trans h.gz,h.zx,h.nw⟩
 ·by_cases hTk:T k
  ·exact (hT k hTk).1
  ·obtain ⟨e1,e2,e3,e4⟩:=hk k hTk
   have hob:=h.obs k
   have hF:=hkeepF k hTk
   have hU:=hobU k
   rw [e1]
   cases hok:ob k with
   | gone=>rw [hok] at hob;exact ⟨e3.trans hob.1,e4.trans hob.2⟩
   | box t cs=>
    rw [hok] at hob hU
    obtain ⟨b,vs,h1,h2,h3,h4,h5⟩:=hob
    exact ⟨b,vs,e2.trans h1,e3.trans h2,e4.trans h3,by rw [hF b (by simp [h2])];exact h4,AVRs.move h5 hU hv hw' ho⟩
   | map kk vk kv=>
    rw [hok] at hob
    obtain ⟨b,es,c,h1,h2,h3,h4,h5⟩:=hob
    exact ⟨b,es,c,e2.trans h1,e3.trans h2,e4.trans h3,by rw [hF b (by simp [h2])];exact h4,h5⟩
   | row e m xs d=>
    rw [hok] at hob
    obtain ⟨hm,cs,L,h1,h2,h4⟩:=hob
    have hltL:=h2.lt
    have hL:∀b∈L,w'.heap[b]?=w.heap[b]?:=fun b mb=>by
     rcases h4 with ⟨_,_,h4⟩ | ⟨_,_,_,h4⟩ | ⟨_,_,_,h4⟩
     ·exact hF b (by simp [h4,mb])
     ·exact hw' b (hltL b mb) (h4 b mb)
     ·exact hw' b (hltL b mb) (h4 b (by simp [mb]))
    have hOb:∀b∈(g.val k).ownBlock.toList,w'.heap[b]?=w.heap[b]?:=fun b mb=>by
     rcases h4 with ⟨_,h3,_⟩ | ⟨_,h3,_⟩ | ⟨_,_,_,h4⟩
     ·exact hF b (by simp [h3,mb])
     ·exact hF b (by simp [h3,mb])
     ·exact hw' b (ZpA h1 b mb) (h4 b (by simp [mb]))
    refine ⟨hm,cs,L,by rw [e2];exact Zg5 h1 hOb,h2.keep hL,?_⟩
    rw [e2,e3,e4]
    have hno:∀b,b<w.heap.size→¬g.own b→¬g'.own b:=fun b hb hn o=>by
     rcases ho.own b o with o | o
     ·exact hn o
     ·omega
    rcases h4 with h4 | ⟨hd,h3,h4,h5⟩ | ⟨hd,h3,h4,h5⟩
    ·exact .inl h4
    ·exact .inr (.inl ⟨hd,h3,h4,fun b mb=>hno b (hltL b mb) (h5 b mb)⟩)
    ·refine .inr (.inr ⟨hd,h3,h4,fun b mb=>?_⟩)
     rcases List.mem_append.1 mb with m1 | m1
     ·exact hno b (ZpA h1 b m1) (h5 b mb)
     ·exact hno b (hltL b m1) (h5 b mb)
 ·by_cases hTk:T k
  ·exact (hT k hTk).2.1
  ·obtain ⟨e1,e2,e3,e4⟩:=hk k hTk
   rw [e3,e4];exact h.nodup k
 ·by_cases hTk:T k
  ·exact (hT k hTk).2.2.2 j hkj b m
  ·by_cases hTj:T j
   ·exact fun mj=>(hT j hTj).2.2.2 k (fun e=>hkj e.symm) b mj m
   ·obtain ⟨_,_,e3,e4⟩:=hk k hTk
    obtain ⟨_,_,f3,f4⟩:=hk j hTj
    rw [e3,e4] at m
    rw [f3,f4]
    exact h.apart k j hkj b m
 ·by_cases hTk:T k
  ·exact (hT k hTk).2.2.1 b m
  ·obtain ⟨_,_,e3,e4⟩:=hk k hTk
   rw [e3,e4] at m
   obtain ⟨p1,p2⟩:=h.plain k b m
   obtain ⟨e1,_⟩:=hk k hTk
   exact ⟨p1,by rw [e1];exact p2.keep (hkeepF k hTk b m)⟩
end
structure Inv [NW] (W:Q8) (U:Nat→Prop) (st:St) (a:Act) (w:World):Prop where
 ex:∃g,HI W g st.ob w∧∀t,SVR g w (st.sl t) (a.tmps.getD t undef)
 wf:StU U st
 defers:a.defers=[]
 hand:∀v,W.hv=some v→a.tmps.getD 0 undef=v
end Go.Proofs.YtojnhepgnbhaaaaGreatDoor
namespace Go.Proofs.YtojnhepgnbhaaaaGreatDoor
open Go.RowKit
def Q7:AV→Value→Bool
 | .c (.int k n),.int k' n'=>k==k'&&n==n'
 | .c (.bool b),.bool b'=>b==b'
 | .c (.str s),.string s'=>s.data.toList==s'.data.toList&&Zcf s
 | .nil _ m,.slice none 0 0=>Nat.blt 0 m
 | _,_=>false
def ZgA:TypeDesc→AV→Bool
 | .int k,.c (.int k' _)=>k==k'
 | .bool,.c (.bool _)=>true
 | .string,.c (.str _)=>true
 | _,_=>false
def Zos:TypeDesc→Bool
 | .struct _=>true
 | .array _ _=>true
 | _=>false
def Zdk:PK→TypeDesc→Bool
 | .int k,.int k'=>k==k'
 | .str,.string=>true
 | .bool,.bool=>true
 | _,_=>false
def EqF (P:Program):List PK→List Field→Nat→Prop
 | [],[],_=>True
 | k :: ks, f :: fs, n => f.name ≠ "_" ∧ f.offset = n ∧ (∃ d, P.underlying f.type = some d ∧ Zdk k d = true) ∧ EqF P ks fs (n + 1)
 | _,_,_=>False
def TOk (P:Program) (t:TypeId):TI→Prop
 | .atom z=>∃d zv i,P.underlying t=some d∧ZgA d z=true∧P.info? t=some i∧i.zero=some zv∧i.size=1∧Q7 z zv=true
 | .strct fs n z=>∃(fields:Array Field) (i:TypeInfo) (zvs:Array Value),P.underlying t=some (.struct fields)∧P.info? t=some i∧i.size=n∧i.zero=some (.agg zvs)∧ZH (fun a v=>Q7 a v=true) z zvs.toList∧
   ZH (fun (fi:FI) (f:Field)=>f.offset=fi.off∧fi.size≠0∧∃j d,P.info? f.type=some j∧j.size=fi.size∧P.underlying f.type=some d∧Zos d=fi.agg) fs fields.toList
 | .slice e m bytes z=>P.underlying t=some (.slice e)∧0<m∧bytes≤131072∧(∃(i:TypeInfo) (zv:Value),P.info? e=some i∧i.size=m∧i.bytes=bytes∧i.zero=some zv∧ZH (fun a v=>Q7 a v=true) z zv.cells.toList∧z.length=m)∧
   ∃j:TypeInfo,P.info? t=some j∧j.size=1∧j.zero=some (.slice none 0 0)
 | .ifc=>∃ms,P.underlying t=some (.interface ms)
 | .map kk vk=>∃kt et dk dv i zv,P.underlying t=some (.map kt et)∧P.underlying kt=some dk∧Zdk kk dk=true∧P.underlying et=some dv∧Zdk vk dv=true∧P.info? et=some i∧i.zero=some zv∧Q7 (ZdT vk) zv=true
 | .eqs ks=>∃u,t=u+4000∧P.underlying u=some (.struct (P.fieldsOf u))∧P.stoodInHeld u=false∧P.eqGuardType P.depth u=false∧EqF P ks (P.fieldsOf u).toList 0
section
variable {P:Program} {w:World} {t:TypeId}
theorem Zoa {i:TypeInfo} (h:P.info? t=some i):(typeInfo t).run P w=.ok i w:=by simp [typeInfo,program,Sem.run,h]
theorem Yw {d:TypeDesc} (h:P.underlying t=some d):(underlying t).run P w=.ok d w:=by simp [underlying,program,Sem.run,h]
theorem XH [NW] {i:TypeInfo} (h:P.info? t=some i):(sizeOf t).run P w=.ok i.size w:=by simp [sizeOf,Zoa h]
theorem Zij [NW] {i:TypeInfo} {z:Value} (h:P.info? t=some i) (hz:i.zero=some z):(zeroValue t).run P w=.ok z w:=by simp [zeroValue,Zoa h,hz]
theorem Zgd [NW] {d:TypeDesc} (h:P.underlying t=some d):(isAgg t).run P w=.ok (Zos d) w:=by
 simp only [isAgg,Sem.run_bind,Yw h,Result.andThen_ok]
 cases d<;>rfl
theorem Zsz {d:TypeDesc} {z:AV} (h:ZgA d z=true):Zos d=false:=by
 unfold ZgA at h
 split at h<;>first | rfl | simp at h
end
section
variable {g:Gh} {w:World}
theorem Zo3 {s:ByteArray} (h:Zcf s=true):s.size≤9223372036854775807:=by
 unfold Zcf at h
 have:=Nat.le_of_ble_eq_true h
 rw [Array.length_toList] at this
 exact this
theorem Zex [NW] {x:AV} {v:Value} (h:Q7 x v=true):AVR g w x v:=by
 unfold Q7 at h
 split at h
 ·simp only [Bool.and_eq_true,beq_iff_eq] at h
  exact ⟨[],⟨by rw [h.1,h.2],rfl⟩,by simp⟩
 ·simp only [beq_iff_eq] at h
  exact ⟨[],⟨by rw [h],rfl⟩,by simp⟩
 ·rename_i s s'
  simp only [Bool.and_eq_true,beq_iff_eq] at h
  have e:s=s':=by
   cases s;cases s'
   simpa using h.1
  exact ⟨[],⟨by rw [e],rfl,Zo3 h.2⟩,by simp⟩
 ·rfl
 ·simp at h
theorem AVR.one [NW] {x:AV} {v:Value} (h:AVR g w x v):v.oneCell'=true:=by
 cases x with
 | c x=>obtain ⟨L,h1,_⟩:=h;exact h1.one
 | n x=>
  obtain ⟨e,m,xs,cs,L,h1,h2,h3,_⟩:=h
  obtain ⟨A,c,hv,_⟩:=Zar h3
  simp [hv,Value.oneCell']
 | row k=>exact h.2
 | nil e m=>simp [AVR] at h;simp [h,Value.oneCell']
 | dead=>exact h
theorem Zmu {v:Value} (h:v.oneCell'=true):v.cells=#[v]:=by
 cases v<;>simp [Value.oneCell'] at h<;>rfl
theorem PVR.cells [NW] {a:Bool} {cs:List AV} {v:Value} (h:PVR g w a cs v):∃vs:List Value,v.cells=vs.toArray∧ZH (AVR g w) cs vs:=by
 cases a with
 | true=>obtain ⟨vs,rfl,h2⟩:=h;exact ⟨vs,rfl,h2⟩
 | false=>obtain ⟨x,rfl,h2⟩:=h;exact ⟨[v],by rw [Zmu h2.one],⟨h2,trivial⟩⟩
theorem AVRs.one [NW] {cs:List AV} {vs:List Value} (h:ZH (AVR g w) cs vs):∀u∈vs,u.oneCell'=true:=by
 induction vs generalizing cs with
 | nil=>simp
 | cons v r ih=>
  cases cs with
  | nil=>exact h.elim
  | cons c cs=>
   intro u m
   rcases List.mem_cons.1 m with rfl | m
   ·exact h.1.one
   ·exact ih h.2 u m
end
theorem ZqS (x y:ByteArray):(x.toList==y.toList)=decide (x=y):=by
 rw [Bool.eq_iff_iff]
 simp only [beq_iff_eq,decide_eq_true_eq]
 constructor
 ·intro h
  have h':x.data.toList=y.data.toList:=by rw [←ByteArray.toList_eq,←ByteArray.toList_eq];exact h
  cases x;cases y
  simpa using h'
 ·rintro rfl;rfl
end Go.Proofs.YtojnhepgnbhaaaaGreatDoor
namespace Go.Proofs.YtojnhepgnbhaaaaGreatDoor
open Go.RowKit
def Uk (U:Nat→Prop) (key:Nat):Nat→Prop:=fun k=>U k∨(key≤k∧k<key+16)
theorem avU.mono {U U':Nat→Prop} (h:∀k,U k→U' k) {x:AV} (hx:avU U x):avU U' x:=by cases x<;>first | exact h _ hx | trivial
theorem Qz.mono [NW] {U U':Nat→Prop} (h:∀k,U k→U' k) {x:List AV} (hx:Qz U x):Qz U' x:=fun y m=>(hx y m).mono h
theorem svU.mono [NW] {U U':Nat→Prop} (h:∀k,U k→U' k) {x:SV} (hx:svU U x):svU U' x:=by
 cases x<;>first | exact Qz.mono h hx | exact fun y m=>Qz.mono h (hx y m) | exact h _ hx | trivial
theorem obU.mono [NW] {U U':Nat→Prop} (h:∀k,U k→U' k) {x:Ob} (hx:obU U x):obU U' x:=by
 cases x<;>first | exact Qz.mono h hx | trivial
def Fin [NW] (P:Program) (W:Q8) (U:Nat→Prop) (key:Nat) (st:St) (g:Gh) (w:World) (s:Sem Next) (r:SV × List (Nat × Ob)):Prop:=
 ∃g' cv w',(s.run P w=.ok (.value cv) w'∨(s.run P w=.ok .skip w'∧cv=undef))∧HI W g' (Zk st.ob r.2) w'∧SVR g' w' r.1 cv∧(∀x v,svU U x→SVR g w x v→SVR g' w' x v)∧
  svU (Uk U key) r.1∧(∀k,obU (Uk U key) (Zk st.ob r.2 k))∧∀k,¬Uk U key k→Zk st.ob r.2 k=.gone
section
variable {P:Program} {W:Q8} {U:Nat→Prop} {key:Nat} {st:St} {g:Gh} {w:World} {a:Act} {tt:Nat→Option TI}
theorem Zah [NW] {s:Sem Next} {v:SV} {cv:Value} (hI:HI W g st.ob w) (hU:StU U st) (hrun:s.run P w=.ok (.value cv) w) (hv:SVR g w v cv) (hu:svU U v):Fin P W U key st g w s (v,[]):=
 ⟨g,cv,w,.inl hrun,hI,hv,fun _ _ _ h=>h,hu.mono fun _=>.inl,fun k=>(hU.ob k).mono fun _=>.inl,fun k hk=>hU.gone k fun h=>hk (.inl h)⟩
theorem Xt (x:CT):svU U (.p false [.c x]):=fun y m=>by simp at m;subst m;trivial
theorem Za2 [NW] (k:IntKind) (n:Int):SVR g w (.p false [.c (.int k n)]) (.int k n):=⟨_,rfl,[],⟨rfl,rfl⟩,by simp⟩
theorem Zaf [NW] (b:Bool):SVR g w (.p false [.c (.bool b)]) (.bool b):=⟨_,rfl,[],⟨rfl,rfl⟩,by simp⟩
theorem ZjY [NW] {s:ByteArray} (h:s.size≤9223372036854775807):SVR g w (.p false [.c (.str s)]) (.string s):=⟨_,rfl,[],⟨rfl,rfl,h⟩,by simp⟩
theorem Zbd [NW] {k:IntKind} {n:Int} {v:Value} (h:SVR g w (.p false [.c (.int k n)]) v):v=.int k n:=by
 obtain ⟨x,hx,h⟩:=h;simp at hx;subst hx;obtain ⟨L,h1,_⟩:=h;exact h1.1
theorem ZeZ [NW] {b:Bool} {v:Value} (h:SVR g w (.p false [.c (.bool b)]) v):v=.bool b:=by
 obtain ⟨x,hx,h⟩:=h;simp at hx;subst hx;obtain ⟨L,h1,_⟩:=h;exact h1.1
theorem Zhl [NW] {s:ByteArray} {v:Value} (h:SVR g w (.p false [.c (.str s)]) v):v=.string s∧s.size≤9223372036854775807:=by
 obtain ⟨x,hx,h⟩:=h;simp at hx;subst hx;obtain ⟨L,h1,_⟩:=h;exact ⟨h1.1,h1.2.2⟩
theorem Zzp [NW] {t:Nat} (htt:∀t i,tt t=some i→TOk P t i) (v:Value):SVR g w (cvT (tt t) v) v∧svU U (cvT (tt t) v):=by
 unfold cvT
 split
 ·exact ⟨Za2 _ _,Xt _⟩
 ·exact ⟨Zaf _,Xt _⟩
 ·split
  ·rename_i h;exact ⟨ZjY (Zo3 h),Xt _⟩
  ·exact ⟨trivial,trivial⟩
 ·split
  ·exact ⟨⟨_,rfl,rfl⟩,fun y m=>by simp at m;subst m;trivial⟩
  ·exact ⟨trivial,trivial⟩
 ·exact ⟨trivial,trivial⟩
theorem Zjj [NW] (htt:∀t i,tt t=some i→TOk P t i) (hS:∀t,SVR g w (st.sl t) (a.tmps.getD t undef)) (hU:StU U st) (t:Nat) (x:Operand):
  SVR g w (st.ev tt t x) (a.eval x)∧svU U (st.ev tt t x):=by
 cases x with
 | tmp s=>exact ⟨hS s,hU.sl s⟩
 | const v=>exact Zzp htt v
 | global _=>exact ⟨trivial,trivial⟩
 | func f=>exact ⟨rfl,trivial⟩
set_option maxHeartbeats 1000000 in
theorem Zun [NW] {op:BinOp} {t:Nat} {ox oy:Operand} {k k':IntKind} {n n':Int} {z:CT} (hk:k=k'∨op=.shl∨op=.shr) (hz:Zto op k n n'=some z):
  ∃cv,(do eqGuard op t ox oy (.int k n) (.int k' n');binOp op t (.int k n) (.int k' n'):Sem Value).run P w=.ok cv w∧SVR g w (.p false [.c z]) cv:=by
 have hg:(eqGuard op t ox oy (.int k n) (.int k' n')).run P w=.ok () w:=by
  cases op<;>rfl
 simp only [Sem.run_bind,hg,Result.andThen_ok]
 cases op<;>simp only [Zto,ZwI,Zze,orI,Zyi,ZqU,Zx0,Zy2,Option.map_none,Option.map_some,Option.some.injEq,reduceCtorEq] at hz<;>(try subst hz)<;>
  (try (split at hz<;>simp only [Option.some.injEq,reduceCtorEq] at hz;subst hz))<;>
  simp only [reduceCtorEq,or_false,or_true] at hk<;>(try subst hk)<;>
  first
   | (refine ⟨_,?_,Za2 _ _⟩;simp [binOp,Op.intArith,Op.intDiv,Op.intBits,Op.shift, *];done)
   | (refine ⟨_,?_,Zaf _⟩;simp [binOp,Op.intCmp];done)
set_option maxHeartbeats 1000000 in
theorem Zuc [NW] {op : BinOp} {t : Nat} {ox oy : Operand} {s s' : ByteArray} {z : CT} (hz : Zud op s s' = some z) :
    ∃ cv, (do eqGuard op t ox oy (.string s) (.string s'); binOp op t (.string s) (.string s') : Sem Value).run P w = .ok cv w ∧ SVR g w (.p false [.c z]) cv := by
  have hg : (eqGuard op t ox oy (.string s) (.string s')).run P w = .ok () w := by
    cases op <;> rfl
  simp only [Sem.run_bind, hg, Result.andThen_ok]
  cases op <;> simp only [Zud, Option.some.injEq, reduceCtorEq] at hz <;> (try subst hz) <;>
    first
      | (refine ⟨_, ?_, Zaf _⟩; simp only [binOp, Op.stringOp, sLt, sEq, ← ZqS]; rfl)
      | (split at hz
         · rename_i hl
           simp only [Option.some.injEq] at hz
           subst hz
           refine ⟨_, ?_, ZjY (by rw [ByteArray.size_append]; exact hl)⟩
           have hl' : ¬ ((s.size + s'.size : Nat) : Int) > IntKind.i64.max := by
             have : IntKind.i64.max = 9223372036854775807 := by decide
             omega
           simp only [binOp, Op.stringOp, hl', if_false]
           rfl
         · simp at hz)
theorem Zor [NW] {op:BinOp} {t:Nat} {ox oy:Operand} {b b':Bool} {r:Bool} (ht:P.underlying t=some .bool) (hop:(op=.eql∧r=(b==b'))∨(op=.neq∧r=!(b==b'))):
  (do eqGuard op t ox oy (.bool b) (.bool b');binOp op t (.bool b) (.bool b'):Sem Value).run P w=.ok (.bool r) w:=by
 have hg:(eqGuard op t ox oy (.bool b) (.bool b')).run P w=.ok () w:=by
  cases op<;>rfl
 have he:(Op.equal t (.bool b) (.bool b')).run P w=.ok (b==b') w:=by
  have key:∀d:Nat,(Op.equalIn (d+1) t (.bool b) (.bool b')).run P w=.ok (b==b') w:=fun d=>by
   rw [Op.equalIn]
   simp only [Sem.run_bind,Yw ht,Result.andThen_ok,Sem.run_pure]
  exact key 9999
 simp only [Sem.run_bind,hg,Result.andThen_ok]
 rcases hop with ⟨rfl,rfl⟩ | ⟨rfl,rfl⟩
 ·simp only [binOp,Sem.run_bind,he,Result.andThen_ok,Sem.run_pure]
 ·simp only [binOp,Sem.run_bind,he,Result.andThen_ok,Sem.run_pure]
theorem ZuP [NW] (htt:∀t i,tt t=some i→TOk P t i) {op:BinOp} {t:Nat} {ox oy:Operand} {x y v:SV} {vx vy:Value} (h:ZtB (tt t) op x y=some v) (hx:SVR g w x vx) (hy:SVR g w y vy):
  ∃cv,(do eqGuard op t ox oy vx vy;binOp op t vx vy:Sem Value).run P w=.ok cv w∧SVR g w v cv∧svU U v:=by
 unfold ZtB at h
 split at h
 ·have ex:=Zbd hx
  have ey:=Zbd hy
  subst ex ey
  split at h
  ·rename_i hk
   obtain ⟨z,hz,rfl⟩:=Option.map_eq_some_iff.1 h
   obtain ⟨cv,h1,h2⟩:=Zun (P:=P) (g:=g) (w:=w) (t:=t) (ox:=ox) (oy:=oy) hk hz
   exact ⟨cv,h1,h2,Xt _⟩
  ·simp at h
 ·obtain ⟨ex,lx⟩:=Zhl hx
  obtain ⟨ey,ly⟩:=Zhl hy
  subst ex ey
  obtain ⟨z,hz,rfl⟩:=Option.map_eq_some_iff.1 h
  obtain ⟨cv,h1,h2⟩:=Zuc (P:=P) (g:=g) (w:=w) (t:=t) (ox:=ox) (oy:=oy) hz
  exact ⟨cv,h1,h2,Xt _⟩
 ·have ex:=ZeZ hx
  have ey:=ZeZ hy
  subst ex ey
  split at h
  ·rename_i hti
   simp only [Option.some.injEq] at h
   subst h
   obtain ⟨d,zv,i,h1,h2,_⟩:=htt t _ hti
   have hd:d=.bool:=by cases d<;>simp [ZgA] at h2;rfl
   subst hd
   exact ⟨_,Zor h1 (.inl ⟨rfl,rfl⟩),Zaf _,Xt _⟩
  ·rename_i hti
   simp only [Option.some.injEq] at h
   subst h
   obtain ⟨d,zv,i,h1,h2,_⟩:=htt t _ hti
   have hd:d=.bool:=by cases d<;>simp [ZgA] at h2;rfl
   subst hd
   exact ⟨_,Zor h1 (.inr ⟨rfl,rfl⟩),Zaf _,Xt _⟩
  ·simp at h
 ·simp at h
theorem Zmn {k:PK} {d:TypeDesc} (h:Zdk k d=true):Zos d=false:=by
 unfold Zdk at h
 split at h<;>first | rfl | simp at h
theorem ZxH [NW] {k:PK} {x y:AV} {vx vy:Value} {b:Bool} {t:Nat} {d:TypeDesc} (h:eqC k x y=some b) (hd:P.underlying t=some d) (hk:Zdk k d=true) (hx:AVR g w x vx) (hy:AVR g w y vy) (n:Nat):(Op.equalIn (n+1) t vx vy).run P w=.ok b w:=by
 unfold eqC at h
 split at h
 ·split at h<;>simp only [Option.some.injEq,reduceCtorEq] at h
  rename_i kk;subst kk h
  obtain ⟨_,h1,_⟩:=hx;obtain ⟨_,h2,_⟩:=hy
  have e1:=h1.1;have e2:=h2.1;subst e1 e2
  cases d<;>simp [Zdk] at hk
  exact run_equalIn_int w n t _ _ _ _ hd
 ·simp only [Option.some.injEq] at h;subst h
  obtain ⟨_,h1,_⟩:=hx;obtain ⟨_,h2,_⟩:=hy
  have e1:=h1.1;have e2:=h2.1;subst e1 e2
  cases d<;>simp [Zdk] at hk
  rw [run_equalIn_string w n t _ _ hd,sEq,ZqS]
 ·simp only [Option.some.injEq] at h;subst h
  obtain ⟨_,h1,_⟩:=hx;obtain ⟨_,h2,_⟩:=hy
  have e1:=h1.1;have e2:=h2.1;subst e1 e2
  cases d<;>simp [Zdk] at hk
  exact run_equalIn_bool' w n t _ _ hd
 ·simp at h
theorem Zqq [NW] (n:Nat) {X Y:Array Value}:∀{ks:List PK} {fs:List Field} {o:Nat} {xs ys:List AV} {vx vy:List Value} {b:Bool},Zl6 ks xs ys=some b→EqF P ks fs o→ZH (AVR g w) xs vx→ZH (AVR g w) ys vy→(∀j v,vx[j]?=some v→X[o+j]?=some v)→(∀j v,vy[j]?=some v→Y[o+j]?=some v)→(Op.eqFields (n+1) X Y fs).run P w=.ok b w
 | [],[],_,[],[],_,_,b,h,_,_,_,_,_=>by simp [Zl6] at h;subst h;simp [Op.eqFields]
 | k::ks,f::fs,o,x::xs,y::ys,[],_,_,_,_,hx,_,_,_=>hx.elim
 | k::ks,f::fs,o,x::xs,y::ys,_::_,[],_,_,_,_,hy,_,_=>hy.elim
 | k::ks,f::fs,o,x::xs,y::ys,u::vx,v::vy,b,h,hf,hx,hy,hX,hY=>by
  simp only [Zl6] at h
  obtain ⟨b1,h1,h⟩:=Option.bind_eq_some_iff.1 h
  obtain ⟨b2,h2,rfl⟩:=Option.map_eq_some_iff.1 h
  obtain ⟨f1,f2,⟨d,f3,f4⟩,f5⟩:=hf
  have e1:=ZxH h1 f3 f4 hx.1 hy.1 n
  have e2:=Zqq n h2 f5 hx.2 hy.2 (fun j v hj=>by have:=hX (j+1) v (by simpa using hj);rwa [show o+(j+1)=o+1+j by omega] at this) (fun j v hj=>by have:=hY (j+1) v (by simpa using hj);rwa [show o+(j+1)=o+1+j by omega] at this)
  have p1:(part f.type X f.offset).run P w=.ok u w:=by
   have:=hX 0 u (by simp)
   simp only [part,Sem.run_bind,Zgd f3,Zmn f4,Result.andThen_ok]
   rw [f2];simp at this;simp [this]
  have p2:(part f.type Y f.offset).run P w=.ok v w:=by
   have:=hY 0 v (by simp)
   simp only [part,Sem.run_bind,Zgd f3,Zmn f4,Result.andThen_ok]
   rw [f2];simp at this;simp [this]
  simp only [Op.eqFields,f1,ne_eq,not_false_eq_true,if_true,Sem.run_bind,p1,p2,e1,Result.andThen_ok]
  cases b1
  ·simp
  ·simpa using e2
 | [],_::_,_,_,_,_,_,_,_,hf,_,_,_,_=>hf.elim
 | _::_,[],_,_,_,_,_,_,_,hf,_,_,_,_=>hf.elim
 | [],[],_,_::_,_,_,_,_,h,_,_,_,_,_=>by simp [Zl6] at h
 | [],[],_,[],_::_,_,_,_,h,_,_,_,_,_=>by simp [Zl6] at h
 | _::_,_::_,_,[],_,_,_,_,h,_,_,_,_,_=>by simp [Zl6] at h
 | _::_,_::_,_,_::_,[],_,_,_,h,_,_,_,_,_=>by simp [Zl6] at h
theorem Zot {op:BinOp} {b:Bool} {v:SV} (h:ZoW op b=some v):(op=.eql∧v=.p false [.c (.bool b)])∨(op=.neq∧v=.p false [.c (.bool (!b))]):=by
 unfold ZoW at h
 split at h<;>simp only [Option.some.injEq,reduceCtorEq] at h<;>subst h
 ·exact .inl ⟨rfl,rfl⟩
 ·exact .inr ⟨rfl,rfl⟩
theorem Zvw [NW] (htt:∀t i,tt t=some i→TOk P t i) {op:BinOp} {t:Nat} {ox oy:Operand} {x y v:SV} {vx vy:Value} (h:ZtM (tt (t+4000)) op x y=some v) (hx:SVR g w x vx) (hy:SVR g w y vy):
  ∃cv,(do eqGuard op t ox oy vx vy;binOp op t vx vy:Sem Value).run P w=.ok cv w∧SVR g w v cv∧svU U v:=by
 unfold ZtM at h
 split at h
 ·obtain ⟨ks,hks,h'⟩:=Option.bind_eq_some_iff.1 h
  obtain ⟨b,hb,h''⟩:=Option.bind_eq_some_iff.1 h'
  have hti:tt (t+4000)=some (.eqs ks):=by
   unfold Zs9 at hks
   split at hks<;>simp only [Option.some.injEq,reduceCtorEq] at hks
   rename_i hti
   rw [hti,hks]
  obtain ⟨u,e,h1,h2,h3,h4⟩:=htt _ _ hti
  have e:t=u:=Nat.add_right_cancel e
  subst e
  obtain ⟨us,rfl,hus⟩:=hx
  obtain ⟨vs,rfl,hvs⟩:=hy
  have hq:=Zqq (X:=us.toArray) (Y:=vs.toArray) 9998 hb h4 hus hvs (fun j v hj=>by simpa using hj) (fun j v hj=>by simpa using hj)
  have hg:=run_eqGuard_agg (P:=P) w op t ox oy us.toArray vs.toArray h3
  rcases Zot h'' with ⟨rfl,rfl⟩ | ⟨rfl,rfl⟩
  ·refine ⟨_,?_,Zaf b,Xt _⟩
   simp only [Sem.run_bind,hg,Result.andThen_ok,run_eql_struct,run_equalIn_struct w 9999 t _ _ h1 h2,hq]
  ·refine ⟨_,?_,Zaf (!b),Xt _⟩
   simp only [Sem.run_bind,hg,Result.andThen_ok,run_neq_struct,run_equalIn_struct w 9999 t _ _ h1 h2,hq]
 ·simp at h
theorem Zxu [NW] {b:Bool} {v:Value} (h:SVR g w (.p false [.c (.ifc b)]) v):(b=true∧v=.nilIface)∨(b=false∧∃t x,v=.iface t x):=by
 obtain ⟨x,hx,h⟩:=h;simp at hx;subst hx;obtain ⟨L,h1,_⟩:=h
 have h2:=h1.2.2
 cases b with
 | true=>exact .inl ⟨rfl,h2⟩
 | false=>exact .inr ⟨rfl,h2⟩
theorem ZtV [NW] (htt:∀t i,tt t=some i→TOk P t i) {op:BinOp} {t:Nat} {ox oy:Operand} {x y v:SV} {vx:Value} (h:Zr6 tt t (ZiA oy) op x y=some v) (hx:SVR g w x vx) (hy:SVR g w y (a.eval oy)):
  ∃cv,(do eqGuard op t ox oy vx (a.eval oy);binOp op t vx (a.eval oy):Sem Value).run P w=.ok cv w∧SVR g w v cv∧svU U v:=by
 unfold Zr6 at h
 split at h
 ·rename_i hn
  have ho:oy=.const .nilIface:=by
   cases oy with
   | const c=>cases c<;>first | rfl | (simp [ZiA,Zqm] at hn;done)
   | _=>simp [ZiA] at hn
  subst ho
  split at h
  rotate_left
  ·simp at h
  rename_i hif
  have hti:tt t=some .ifc:=by
   unfold Zs5 at hif
   split at hif
   ·assumption
   ·simp at hif
  obtain ⟨ms,hms⟩:=htt _ _ hti
  unfold ZvH at h
  split at h
  ·rename_i b
   have hb:=Zxu hx
   have hev:a.eval (.const .nilIface)=.nilIface:=rfl
   rw [hev]
   have hg:∀v:Value,(v=.nilIface∨∃t x,v=.iface t x)→(eqGuard op t ox (.const .nilIface) v .nilIface).run P w=.ok () w:=fun v hv=>by
    rcases hv with rfl | ⟨t',x',rfl⟩
    ·simp only [eqGuard]
     cases ox<;>cases op<;>rfl
    ·simp only [eqGuard]
     cases op<;>rfl
   have he:(Op.equal t vx .nilIface).run P w=.ok b w:=by
    show (Op.equalIn (9999+1) t _ _).run P w=_
    rw [Op.equalIn]
    rcases hb with ⟨rfl,rfl⟩ | ⟨rfl,t',x',rfl⟩
    ·simp only [Sem.run_bind,Yw hms,Result.andThen_ok,Sem.run_pure]
    ·simp only [Sem.run_bind,Yw hms,Result.andThen_ok,Sem.run_pure]
   have hg':=hg vx (hb.imp (fun h=>h.2) (fun h=>h.2))
   rcases Zot h with ⟨rfl,rfl⟩ | ⟨rfl,rfl⟩
   ·refine ⟨_,?_,Zaf b,Xt _⟩
    simp only [Sem.run_bind,hg',Result.andThen_ok]
    rcases hb with ⟨rfl,rfl⟩ | ⟨rfl,t',x',rfl⟩<;>simp only [binOp,Sem.run_bind,he,Result.andThen_ok,Sem.run_pure]
   ·refine ⟨_,?_,Zaf (!b),Xt _⟩
    simp only [Sem.run_bind,hg',Result.andThen_ok]
    rcases hb with ⟨rfl,rfl⟩ | ⟨rfl,t',x',rfl⟩<;>simp only [binOp,Sem.run_bind,he,Result.andThen_ok,Sem.run_pure]
  ·simp at h
 ·split at h
  ·exact Zvw htt h hx hy
  ·exact ZuP htt h hx hy
theorem ZxX [NW] {op:UnOp} {x v:SV} {vx:Value} (h:unV op x=some v) (hx:SVR g w x vx):∃cv,(Op.unary op vx).run P w=.ok cv w∧SVR g w v cv∧svU U v:=by
 unfold unV at h
 split at h
 ·have ex:=ZeZ hx
  subst ex
  split at h<;>simp at h
  subst h
  exact ⟨_,by simp [Op.unary],Zaf _,Xt _⟩
 ·have ex:=Zbd hx
  subst ex
  split at h<;>simp at h
  subst h
  exact ⟨_,by simp [Op.unary,Op.intArith],Za2 _ _,Xt _⟩
 ·simp at h
end
end Go.Proofs.YtojnhepgnbhaaaaGreatDoor
namespace Go.Proofs.YtojnhepgnbhaaaaGreatDoor
open Go.RowKit
section
variable {P:Program} {W:Q8} {U:Nat→Prop} {key:Nat} {st:St} {g:Gh} {w:World} {a:Act} {tt:Nat→Option TI}
theorem Zxt {t:Nat} {z:AV} (htt:∀t i,tt t=some i→TOk P t i) (h:tt t=some (.atom z)):∃d,P.underlying t=some d:=by
 obtain ⟨d,_,_,h,_⟩:=htt t _ h;exact ⟨d,h⟩
theorem ZoI {t:Nat} (htt:∀t i,tt t=some i→TOk P t i) (h:ZaZ (tt t)=true):∃e,P.underlying t=some (.slice e):=by
 unfold ZaZ at h
 split at h
 ·rename_i h1;exact ⟨_,(htt t _ h1).1⟩
 ·simp at h
theorem Zf7 {t:Nat} (htt:∀t i,tt t=some i→TOk P t i) (h:ZcI (tt t)=true):P.underlying t=some .string:=by
 unfold ZcI at h
 split at h
 ·rename_i h1
  obtain ⟨d,zv,i,h2,h3,_⟩:=htt t _ h1
  have hd:d=.string:=by cases d<;>simp [ZgA] at h3;rfl
  rw [hd] at h2;exact h2
 ·simp at h
theorem Zt7 [NW] (htt:∀t i,tt t=some i→TOk P t i) {s t:Nat} {x v:SV} {vx:Value} (h:ZoT (tt s) (tt t) x=some v) (hx:SVR g w x vx):∃cv,(convert s t vx).run P w=.ok cv w∧SVR g w v cv∧svU U v:=by
 unfold ZoT at h
 split at h
 ·have ex:=Zbd hx
  subst ex
  split at h
  ·rename_i h1 h2
   simp only [Option.some.injEq] at h
   subst h
   obtain ⟨d,zv,i,h3,h4,_⟩:=htt t _ h2
   have hd:∃k,d=.int k:=by cases d<;>simp [ZgA] at h4;exact ⟨_,rfl⟩
   obtain ⟨k,rfl⟩:=hd
   simp only [ZgA,beq_iff_eq] at h4
   subst h4
   obtain ⟨ds,hs⟩:=Zxt htt h1
   refine ⟨_,?_,Za2 _ _,Xt _⟩
   simp [convert,Yw hs,Yw h3,Conv.intToInt]
  ·simp at h
 ·simp at h
theorem Zfz [NW] {e m:Nat} {xs:List (List CT)} {v:Value} (h:SVR g w (.p false [.c (.sl e m xs)]) v):∃A cap cs L0 L1,v=.slice A xs.length cap∧xs.length≤cap∧cap≤maxLen∧0<m∧Sl w m A xs.length cs L0∧REs w m xs cs L1∧(∀b∈L0++L1,¬g.own b):=by
 obtain ⟨x,hx,h⟩:=h
 simp at hx
 subst hx
 obtain ⟨L,⟨A,cap,cs,L0,L1,h1,h2,h3,h4,h5,h6,h7⟩,ho⟩:=h
 exact ⟨A,cap,cs,L0,L1,h1,h2,h3,h5,h6,h7,fun b m=>ho b (h4 ▸ m)⟩
theorem ZeY [NW] {k:Nat} {v:Value} (h:SVR g w (.p false [.row k]) v):v=g.val k:=by
 obtain ⟨x,hx,h⟩:=h;simp at hx;subst hx;exact h.1
theorem Zqi [NW] {e m:Nat} {v:Value} (h:SVR g w (.p false [.nil e m]) v):v=.slice none 0 0:=by
 obtain ⟨x,hx,h⟩:=h;simp at hx;subst hx;exact h
theorem Zct {B e m n:Nat} {v:Value} {cs:List Value} (h:w.ownsV B e m v n cs):∃A cap,v=.slice A n cap:=by
 obtain ⟨A,c,hv,_⟩:=Zar h
 exact ⟨A,c,hv⟩
theorem Zx9 [NW] {x:CT} {v:Value} (h:SVR g w (.p false [.n x]) v):NR g w x v:=by
 obtain ⟨y,hy,h⟩:=h;simp at hy;subst hy;exact h
theorem ZuK [NW] (htt:∀t i,tt t=some i→TOk P t i) (hI:HI W g st.ob w) {t:Nat} {ts:Array TypeId} {ty:TypeId} (hts:ts[0]?=some t) {x v:SV} {vx:Value} (h:Zqd st (tt t) x=some v) (hx:SVR g w x vx):
  ∃cv,(Builtin.len_ ts ty #[vx]).run P w=.ok cv w∧SVR g w v cv∧svU U v:=by
 have fin:∀(A:Option Addr) (n c:Nat),ZaZ (tt t)=true→(Builtin.len_ ts ty #[.slice A n c]).run P w=.ok (.int .i64 n) w:=fun A n c hs=>by
  obtain ⟨e,he⟩:=ZoI htt hs
  simp [Builtin.len_,hts,Yw he,goInt]
 unfold Zqd at h
 split at h
 ·split at h<;>simp at h
  rename_i hs
  subst h
  obtain ⟨A,cap,_,_,_,rfl,_⟩:=Zfz hx
  exact ⟨_,fin _ _ _ hs,Za2 _ _,Xt _⟩
 ·split at h<;>simp at h
  rename_i hs
  subst h
  obtain ⟨_,_,_,_,_,h1,_,h3,_⟩:=Zx9 hx
  simp only [CT.sl.injEq] at h1
  obtain ⟨_,_,rfl⟩:=h1
  obtain ⟨A,cap,rfl⟩:=Zct h3
  exact ⟨_,fin _ _ _ hs,Za2 _ _,Xt _⟩
 ·split at h<;>simp at h
  rename_i hs
  subst h
  obtain ⟨rfl,_⟩:=Zhl hx
  refine ⟨_,?_,Za2 _ _,Xt _⟩
  simp [Builtin.len_,hts,Yw (Zf7 htt hs),goInt]
 ·split at h<;>simp at h
  rename_i hs
  subst h
  have:=Zqi hx
  subst this
  exact ⟨_,fin _ _ _ hs,Za2 _ _,Xt _⟩
 ·split at h
  ·rename_i k _ e m xs d hk
   split at h<;>simp at h
   rename_i hs
   subst h
   have hv:=ZeY hx
   subst hv
   have ho:=hI.obs k
   rw [hk] at ho
   obtain ⟨_,cs,L,h1,_⟩:=ho
   obtain ⟨A,cap,hv⟩:=Zct h1
   rw [hv]
   exact ⟨_,fin _ _ _ hs,Za2 _ _,Xt _⟩
  ·simp at h
 ·simp at h
theorem Zkf {f:Value→ByteArray→Sem (ForInStep ByteArray)} (hf:∀n s,f (.int .u8 n) s=pure (ForInStep.yield (s.push (UInt8.ofNat n.toNat)))):∀(l:List Int) (s:ByteArray),(forIn (l.map fun n=>Value.int .u8 n) s f).run P w=.ok ⟨s.data++(l.map fun n=>UInt8.ofNat n.toNat).toArray⟩ w
 | [],s=>by simp
 | n::l,s=>by
  have ih:=Zkf hf l (s.push (UInt8.ofNat n.toNat))
  simp only [List.map_cons,List.forIn_cons,hf,Sem.run_bind,Sem.run_pure,Result.andThen_ok,ih]
  congr 2
  apply Array.ext'
  simp [ByteArray.push]
theorem Zrt [NW] {b o cap:Nat} (l:List Int) (hc:∀j u,(l.map fun n=>Value.int .u8 n)[j]?=some u→w.cell? ⟨b,o+j,none⟩=some u):(Conv.bytesToString (.slice (some ⟨b,o,none⟩) l.length cap)).run P w=.ok (.string (Y9 l)) w:=by
 have h1:=run_loadCells_list (P:=P) w ⟨b,o,none⟩ (l.map fun n=>Value.int .u8 n) (fun j u hj=>by rw [ZcL];exact hc j u hj)
 rw [List.length_map] at h1
 unfold Conv.bytesToString
 simp only [Sem.run_bind,h1,Result.andThen_ok,←Array.forIn_toList]
 rw [Zkf (fun _ _=>rfl)]
 simp [Y9,ByteArray.empty,ByteArray.emptyWithCapacity]
 rfl
theorem ZkP {m:Nat}:∀{xs:List (List CT)} {l:List Int} {cs:List Value} {L:List Nat},ZdX xs=some l→REs w m xs cs L→cs=l.map (fun n=>Value.int .u8 n)∧xs.length=l.length
 | [],_,_,_,h,⟨h1,_⟩=>by simp [ZdX] at h;subst h h1;simp
 | x::r,l,_,_,h,⟨c1,c2,L1,L2,rfl,rfl,h3,h4⟩=>by
  unfold ZdX at h
  split at h
  ·rename_i he;simp at he
  ·rename_i n r' he
   simp only [List.cons.injEq] at he
   obtain ⟨rfl,rfl⟩:=he
   obtain ⟨l',hl,rfl⟩:=Option.map_eq_some_iff.1 h
   obtain ⟨i1,i2⟩:=ZkP hl h4
   obtain ⟨v,cs',_,_,rfl,rfl,a1,a2⟩:=h3.1
   obtain ⟨rfl,_⟩:=a2
   rw [a1.1,i1]
   exact ⟨rfl,by simp [i2]⟩
  ·simp at h
theorem Zoc (l:List Int):(Y9 l).size=l.length:=by simp [Y9,ByteArray.size]
theorem Zth [NW] (htt:∀t i,tt t=some i→TOk P t i) (hI:HI W g st.ob w) {s t:Nat} {x v:SV} {vx:Value} (hst:ZcI (tt t)=true) (hby:ZkW (ZnH tt (tt s))=true) (h:ZkR st x=some v) (hx:SVR g w x vx):∃cv,(convert s t vx).run P w=.ok cv w∧SVR g w v cv∧svU U v:=by
 have ht:=Zf7 htt hst
 have hs:∃e,P.underlying s=some (.slice e)∧P.underlying e=some (.int .u8):=by
  unfold ZnH at hby
  split at hby
  ·rename_i e m b z hti
   have h1:=(htt _ _ hti).1
   unfold ZkW at hby
   split at hby
   ·rename_i hte
    obtain ⟨d,zv,i,h2,h3,_⟩:=htt _ _ hte
    cases d<;>simp [ZgA] at h3
    subst h3
    exact ⟨e,h1,h2⟩
   ·simp at hby
  ·simp [ZkW] at hby
 obtain ⟨e,hs,he⟩:=hs
 have go:∀A n c,(convert s t (.slice A n c)).run P w=(Conv.bytesToString (.slice A n c)).run P w:=fun A n c=>by
  unfold convert
  simp only [Sem.run_bind,Yw hs,Yw ht,Yw he,Result.andThen_ok]
 have fin:∀(A:Option Addr) (n cap:Nat) (cs:List Value) (L:List Nat) (xs:List (List CT)) (l:List Int) (m:Nat),n=xs.length→0<m→ZdX xs=some l→REs w m xs cs L→n≤9223372036854775807→(n=0∨∃b o,A=some ⟨b,o,none⟩∧XX w b o cs)→∃cv,(convert s t (.slice A n cap)).run P w=.ok cv w∧SVR g w (.p false [.c (.str (Y9 l))]) cv∧svU U (.p false [.c (.str (Y9 l))]):=by
  intro A n cap cs L xs l m hn hm hl hR hsz hA
  obtain ⟨i1,i2⟩:=ZkP hl hR
  have hsz':(Y9 l).size≤9223372036854775807:=by rw [Zoc];omega
  refine ⟨.string (Y9 l),?_,ZjY hsz',Xt _⟩
  rw [go]
  rcases hA with h0 | ⟨b,o,rfl,hc⟩
  ·have:l=[]:=List.eq_nil_of_length_eq_zero (by omega)
   subst this
   cases A with
   | none=>rfl
   | some a=>
    have h1:=run_loadCells_list (P:=P) w a [] (by simp)
    rw [h0]
    unfold Conv.bytesToString
    simp only [List.length_nil] at h1
    simp only [Sem.run_bind,h1,Result.andThen_ok]
    rfl
  ·rw [hn,i2]
   exact Zrt l fun j u hj=>hc j u (by rw [i1];exact hj)
 unfold ZkR at h
 split at h
 ·split at h
  ·rename_i k _ e' m xs d hk
   obtain ⟨l,hl,rfl⟩:=Option.map_eq_some_iff.1 h
   have hv:=ZeY hx
   have ho:=hI.obs k
   rw [hk] at ho
   obtain ⟨hm,cs,L,h1,h2,_⟩:=ho
   rw [hv]
   rcases h1.2 with ⟨h3,h4⟩ | ⟨b,o,cap,cur,h3,h4,h5,h6,h7,h8,h9⟩
   ·rw [h3]
    exact fin _ _ _ cs L xs l m (by omega) hm hl h2 (by omega) (.inl rfl)
   ·rw [h3]
    refine fin _ _ _ cs L xs l m rfl hm hl h2 (by unfold maxLen at h7;omega) (.inr ⟨b,o,rfl,fun j u hj=>?_⟩)
    exact ZhS h1 h3 j u hj
  ·simp at h
 ·obtain ⟨l,hl,rfl⟩:=Option.map_eq_some_iff.1 h
  obtain ⟨A,cap,cs,L0,L1,rfl,h2,h3,h5,h6,h7,_⟩:=Zfz hx
  rename_i e' m' xs _
  refine fin _ _ _ cs L1 xs l _ rfl h5 hl h7 (by unfold maxLen at h3;omega) ?_
  rcases Nat.eq_zero_or_pos xs.length with h0 | h0
  ·exact .inl h0
  ·obtain ⟨b,off,h8,h9,hc⟩:=h6.at_ h0
   exact .inr ⟨b,off,h8,hc⟩
 ·simp at h
theorem Zs7 [NW] (htt:∀t i,tt t=some i→TOk P t i) (hI:HI W g st.ob w) {s t:Nat} {x v:SV} {vx:Value} (h:Zgv tt st s t x=some v) (hx:SVR g w x vx):∃cv,(convert s t vx).run P w=.ok cv w∧SVR g w v cv∧svU U v:=by
 unfold Zgv at h
 split at h
 ·rename_i hc
  simp only [Bool.and_eq_true] at hc
  exact Zth htt hI hc.1 hc.2 h hx
 ·exact Zt7 htt h hx
theorem RCs.avr [NW] {e:List CT} {cs:List Value} {L:List Nat}:RCs w e cs L→(∀b∈L,¬g.own b)→ZH (AVR g w) (e.map .c) cs:=by
 induction e generalizing cs L with
 | nil=>intro h _;obtain ⟨rfl,rfl⟩:=h;trivial
 | cons x r ih=>
  rintro ⟨v,cs',L1,L2,rfl,rfl,h1,h2⟩ ho
  exact ⟨⟨L1,h1,fun b m=>ho b (by simp [m])⟩,ih h2 fun b m=>ho b (by simp [m])⟩
theorem ZiE (a:Bool) (e:List CT):Qz U (e.map AV.c):=fun y m=>by
 obtain ⟨x,_,rfl⟩:=List.mem_map.1 m;trivial
theorem Znp [NW] (htt:∀t i,tt t=some i→TOk P t i) {t b lo off:Nat} {cs:List AV} {vs:List Value} {v:SV} (h:cut (tt t) cs off=some v) (hc:XX w b lo vs) (hr:ZH (AVR g w) cs vs) (hu:Qz U cs):
  ∃cv,(Instr.loadAt t (.pointer (some ⟨b,lo+off,none⟩))).run P w=.ok cv w∧SVR g w v cv∧svU U v:=by
 have hlen:=hr.len
 have one:∀d,P.underlying t=some d→Zos d=false→∀x,cs[off]?=some x→∃cv,(Instr.loadAt t (.pointer (some ⟨b,lo+off,none⟩))).run P w=.ok cv w∧SVR g w (.p false [x]) cv∧svU U (.p false [x]):=fun d hd ha x hx=>by
  obtain ⟨u,h1,h2⟩:=hr.at hx
  refine ⟨u,?_,⟨x,rfl,h2⟩,fun y m=>by simp at m;subst m;exact hu y (List.mem_of_getElem? hx)⟩
  simp [Instr.loadAt,Instr.sureAddr,loadVar,Zgd hd,ha,load,Sem.run,hc off u h1]
 unfold cut at h
 split at h
 ·rename_i fs n z hti
  split at h<;>simp at h
  rename_i hn
  subst h
  obtain ⟨fields,i,zvs,h1,h2,h3,_⟩:=htt t _ hti
  refine ⟨.agg ((vs.drop off).take n).toArray,?_,⟨_,rfl,(hr.drop off).take n⟩,fun y m=>hu y (List.mem_of_mem_drop (List.mem_of_mem_take m))⟩
  have hl:((vs.drop off).take n).length=i.size:=by simp;omega
  have hload:=run_loadCells_list (P:=P) w ⟨b,lo+off,none⟩ ((vs.drop off).take n) (fun j u hj=>by
   rw [ZcL,Nat.add_assoc]
   refine hc _ u ?_
   have hjn:j<n:=by
    have:=(List.getElem?_eq_some_iff.1 hj).1
    simp at this;omega
   rw [List.getElem?_take,if_pos hjn,List.getElem?_drop] at hj
   exact hj)
  rw [hl] at hload
  simp [Instr.loadAt,Instr.sureAddr,loadVar,Zgd h1,Zos,XH h2,hload]
 ·simp at h
 ·rename_i i hti hne hns
  obtain ⟨x,hx,rfl⟩:=Option.map_eq_some_iff.1 h
  cases i with
  | atom z=>obtain ⟨d,zv,i,h1,h2,_⟩:=htt t _ hns;exact one d h1 (Zsz h2) x hx
  | strct fs n z=>exact absurd rfl (hti _ _ _)
  | slice e m b z=>exact one _ (htt t _ hns).1 rfl x hx
  | map kk vk=>
   obtain ⟨kt,et,_,_,_,_,h1,_⟩:=htt t _ hns
   exact one _ h1 rfl x hx
  | ifc=>obtain ⟨ms,h1⟩:=htt t _ hns;exact one _ h1 rfl x hx
  | eqs ks=>exact absurd rfl (hne _)
 ·simp at h
end
end Go.Proofs.YtojnhepgnbhaaaaGreatDoor
namespace Go.Proofs.YtojnhepgnbhaaaaGreatDoor
open Go.RowKit
section
variable {P:Program} {W:Q8} {U:Nat→Prop} {key:Nat} {st:St} {g:Gh} {w:World} {a:Act} {tt:Nat→Option TI}
theorem HI.deep [NW] {ob:Nat→Ob} {k e m:Nat} {xs:List (List CT)} {d:Nat} (hI:HI W g ob w) (hk:ob k=.row e m xs d):0<m∧∃cs L,w.ownsV 0 e m (g.val k) xs.length cs∧REs w m xs cs L∧(∀b∈L,¬g.own b)∧((d=2∧g.O k=(g.val k).ownBlock.toList∧g.D k=L)∨(d=1∧g.O k=(g.val k).ownBlock.toList∧g.D k=[])∨(d=0∧g.O k=[]∧g.D k=[]∧∀b∈(g.val k).ownBlock.toList,¬g.own b)):=by
 have ho:=hI.obs k
 rw [hk] at ho
 obtain ⟨hm,cs,L,h1,h2,h4⟩:=ho
 refine ⟨hm,cs,L,h1,h2,?_,?_⟩
 ·rcases h4 with ⟨_,_,h4⟩ | ⟨_,_,_,h4⟩ | ⟨_,_,_,h4⟩
  ·rintro b mb (⟨j,mj⟩ | hz)
   ·by_cases hjk:j=k
    ·subst hjk
     have:=hI.nodup j
     rw [List.nodup_append] at this
     exact this.2.2 b mj b (h4 ▸ mb) rfl
    ·exact hI.apart j k hjk b (by simp [mj]) (by simp [h4,mb])
   ·exact hI.nz (k:=k) (by simp [h4,mb]) hz
  ·exact h4
  ·exact fun b mb=>h4 b (by simp [mb])
 ·rcases h4 with h4 | ⟨q1,q2,q3,_⟩ | ⟨q1,q2,q3,q4⟩
  ·exact .inl h4
  ·exact .inr (.inl ⟨q1,q2,q3⟩)
  ·exact .inr (.inr ⟨q1,q2,q3,fun b mb=>q4 b (by simp [mb])⟩)
theorem HI.deepO [NW] {ob:Nat→Ob} {k e m:Nat} {xs:List (List CT)} {d:Nat} (hI:HI W g ob w) (hk:ob k=.row e m xs d) (hd:¬d=0):0<m∧∃cs L,w.ownsV 0 e m (g.val k) xs.length cs∧REs w m xs cs L∧(∀b∈L,¬g.own b)∧g.O k=(g.val k).ownBlock.toList∧((d=2∧g.D k=L)∨(d=1∧g.D k=[])):=by
 obtain ⟨hm,cs,L,h1,h2,h3,h4⟩:=hI.deep hk
 refine ⟨hm,cs,L,h1,h2,h3,?_⟩
 rcases h4 with ⟨q1,q2,q3⟩ | ⟨q1,q2,q3⟩ | ⟨q1,_⟩
 ·exact ⟨q2,.inl ⟨q1,q3⟩⟩
 ·exact ⟨q2,.inr ⟨q1,q3⟩⟩
 ·exact absurd q1 hd
theorem REs.at {m:Nat}:∀{xs:List (List CT)} {cs:List Value} {L:List Nat} {i:Nat} {e:List CT},REs w m xs cs L→xs[i]?=some e→
  ∃c L',RCs w e c L'∧c.length=m∧(∀b∈L',b∈L)∧∀j u,c[j]?=some u→cs[i * m+j]?=some u
 | [],_,_,_,_,_,h=>by simp at h
 | x::r,_,_,0,e,⟨c1,c2,L1,L2,rfl,rfl,h3,h4⟩,h=>by
  simp at h;subst h
  exact ⟨c1,L1,h3.1,h3.2,fun b mb=>by simp [mb],fun j u hu=>by
   rw [Nat.zero_mul,Nat.zero_add,List.getElem?_append_left (List.getElem?_eq_some_iff.1 hu).1];exact hu⟩
 | x::r,_,_,i+1,e,⟨c1,c2,L1,L2,rfl,rfl,h3,h4⟩,h=>by
  obtain ⟨c,L',a1,a2,a3,a4⟩:=REs.at h4 (i:=i) (e:=e) (by simpa using h)
  refine ⟨c,L',a1,a2,fun b mb=>by simp [a3 b mb],fun j u hu=>?_⟩
  have hl:=h3.2
  rw [List.getElem?_append_right (by rw [Nat.add_mul];omega)]
  rw [←a4 j u hu]
  congr 1
  rw [hl,Nat.add_mul];omega
theorem REs.len {m:Nat}:∀{xs:List (List CT)} {cs:List Value} {L:List Nat},REs w m xs cs L→cs.length=xs.length * m
 | [],_,_,h=>by simp [h.1]
 | x::r,_,_,⟨c1,c2,L1,L2,rfl,rfl,h3,h4⟩=>by simp [h3.2,REs.len h4,Nat.add_mul];omega
theorem Zwt [NW] (htt:∀t i,tt t=some i→TOk P t i) (hI:HI W g st.ob w) (hU:StU U st) {t e m bytes:Nat} {z:List AV} (hti:tt t=some (.slice e m bytes z)) {x i v:SV} {vx vi:Value} (h:ZdJ st m x i=some v) (hx:SVR g w x vx) (hxu:svU U x) (hi:SVR g w i vi):
  ∃cv,(Instr.indexAt t vx vi).run P w=.ok cv w∧SVR g w v cv∧svU U v:=by
 obtain ⟨hu,hm,_,⟨ie,zv,hie,hsz,_⟩,_⟩:=htt t _ hti
 have run:∀(b o n c:Nat) (k:IntKind) (q:Int),0≤q→q<n→(Instr.indexAt t (.slice (some ⟨b,o,none⟩) n c) (.int k q)).run P w=.ok (.pointer (some ⟨b,o+q.toNat * m,none⟩)) w:=fun b o n c k q h0 h1=>by
  simp [Instr.indexAt,asIntOf,Yw hu,h0,h1,XH hie,hsz,ZcL]
 unfold ZdJ at h
 split at h
 ·have ei:=Zbd hi
  subst ei
  split at h
  ·rename_i hq
   obtain ⟨x,hx1,rfl⟩:=Option.map_eq_some_iff.1 h
   obtain ⟨A,cap,cs,L0,L1,rfl,h2,h3,h5,h6,h7,ho⟩:=Zfz hx
   obtain ⟨h0,rfl⟩:=hq
   have hlt:=(List.getElem?_eq_some_iff.1 hx1).1
   obtain ⟨b,off,rfl,rfl,hc⟩:=h6.at_ (by omega)
   obtain ⟨c,L',a1,a2,a3,a4⟩:=h7.at hx1
   refine ⟨_,run b off _ _ _ _ h0 (by omega),⟨b,off+_,c,L',by rw [Nat.add_zero],fun j u hj=>?_,a1,fun y my=>?_,?_⟩,trivial⟩
   ·rw [Nat.add_assoc];exact hc _ u (a4 j u hj)
   ·rcases List.mem_cons.1 my with rfl | my
    ·exact ho _ (by simp)
    ·exact ho _ (by simp [a3 y my])
   ·exact h6.lt h5 b (by simp)
  ·simp at h
 ·rename_i k _ _
  have ei:=Zbd hi
  subst ei
  split at h
  ·rename_i e' m' xs d hk
   split at h
   ·rename_i hq
    obtain ⟨h0,h1,rfl⟩:=hq
    simp only [Option.some.injEq] at h
    subst h
    have hv:=ZeY hx
    subst hv
    obtain ⟨_,cs,L,o1,_⟩:=hI.deep hk
    rcases o1.2 with ⟨_,hn⟩ | ⟨b,o,cap,cur,hv,_⟩
    ·omega
    ·refine ⟨_,by rw [hv];exact run b o _ _ _ _ h0 h1,⟨b,o,_,_,hv,by simp⟩,by have:=hxu (.row k) (by simp);exact this⟩
   ·simp at h
  ·simp at h
 ·simp at h
theorem Zum [NW] (htt:∀t i,tt t=some i→TOk P t i) {t:Nat} {x i v:SV} {vx vi:Value} (h:ZkU (tt t) x i=some v) (hx:SVR g w x vx) (hi:SVR g w i vi):
  ∃cv,(Instr.index t vx vi).run P w=.ok cv w∧SVR g w v cv∧svU U v:=by
 unfold ZkU at h
 split at h
 ·have ei:=Zbd hi
  subst ei
  obtain ⟨rfl,_⟩:=Zhl hx
  split at h
  ·rename_i hq
   obtain ⟨b,hb,rfl⟩:=Option.map_eq_some_iff.1 h
   refine ⟨_,?_,Za2 _ _,Xt _⟩
   simp [Instr.index,asIntOf,Yw (Zf7 htt hq.2),hq.1,hb]
  ·simp at h
 ·simp at h
theorem Zqv [NW] {e:List CT} {v:Value} (h:SVR g w (.p false [.c (.pt e)]) v):∃b cs L,v=.pointer (some ⟨b,0,none⟩)∧b<w.heap.size∧XX w b 0 cs∧RCs w e cs L∧∀x∈b::L,¬g.own x:=by
 obtain ⟨x,hx,h⟩:=h
 simp at hx
 subst hx
 obtain ⟨_,⟨b,cs,L,h1,h2,rfl,h4,h5⟩,ho⟩:=h
 exact ⟨b,cs,L,h1,h2,h4,h5,ho⟩
theorem ZqM [NW] (htt:∀t i,tt t=some i→TOk P t i) (hI:HI W g st.ob w) (hU:StU U st) {t:Nat} {x v:SV} {vx:Value} (h:ZbW st (tt t) x=some v) (hx:SVR g w x vx):
  ∃cv,(Instr.loadAt t vx).run P w=.ok cv w∧SVR g w v cv∧svU U v:=by
 unfold ZbW at h
 split at h
 ·rename_i k off
  split at h
  ·rename_i tb cs hk
   obtain ⟨b,h1,rfl⟩:=hx
   have ho:=hI.obs k
   rw [hk] at ho
   obtain ⟨b',vs,o1,o2,o3,o4,o5⟩:=ho
   have hb:b=b':=by rw [o1] at h1;simpa using h1.symm
   subst hb
   have hu:=hU.ob k
   rw [hk] at hu
   have hc:XX w b 0 vs:=fun j u hj=>by
    rw [Nat.zero_add,cell_of_row w b j vs.toArray tb (0,0) o4];simpa using hj
   have:=Znp (P:=P) htt h hc o5 hu
   simpa using this
  ·simp at h
 ·rename_i k m i off
  split at h
  ·rename_i e m' xs d hk
   obtain ⟨x,hx1,h'⟩:=Option.bind_eq_some_iff.1 h
   obtain ⟨b,o,n,c,h1,rfl⟩:=hx
   obtain ⟨hm,cs,L,o1,o2,o3,_⟩:=hI.deep hk
   split at h'
   ·rename_i hmm
    subst hmm
    obtain ⟨c',L',a1,a2,a3,a4⟩:=o2.at hx1
    have hc:XX w b (o+i * m) c':=fun j u hj=>by
     rw [Nat.add_assoc]
     exact ZhS o1 h1 (i * m+j) u (a4 j u hj)
    rw [←Nat.add_assoc]
    exact Znp htt h' hc (a1.avr fun y my=>o3 y (a3 y my)) (ZiE true _)
   ·simp at h'
  ·simp at h
 ·obtain ⟨b,lo,cs,L,rfl,h2,h3,h4,h5⟩:=hx
  exact Znp htt h h2 (h3.avr fun y my=>h4 y (by simp [my])) (ZiE true _)
 ·obtain ⟨b,cs,L,rfl,h2,h3,h4,h5⟩:=Zqv hx
  have:=Znp (P:=P) (U:=U) htt h h3 (h4.avr fun y my=>h5 y (by simp [my])) (ZiE true _)
  simpa using this
 ·simp at h
theorem Zxk [NW] {d:Nat} {x v:SV} {vx:Value} (h:Zit d x=some v) (hx:SVR g w x vx) (hu:svU U x):∃b o,vx=.pointer (some ⟨b,o,none⟩)∧SVR g w v (.pointer (some ⟨b,o+d,none⟩))∧svU U v:=by
 unfold Zit at h
 split at h<;>simp at h<;>subst h
 ·obtain ⟨b,h1,rfl⟩:=hx;exact ⟨b,_,rfl,⟨b,h1,rfl⟩,hu⟩
 ·obtain ⟨b,o,n,c,h1,rfl⟩:=hx;exact ⟨b,_,rfl,⟨b,o,n,c,h1,by simp only [Nat.add_assoc]⟩,hu⟩
 ·obtain ⟨b,lo,cs,L,rfl,h⟩:=hx;exact ⟨b,_,rfl,⟨b,lo,cs,L,by rw [Nat.add_assoc],h⟩,trivial⟩
 ·obtain ⟨b,cs,L,rfl,h2,h3,h4,h5⟩:=Zqv hx
  exact ⟨b,0,rfl,⟨b,0,cs,L,rfl,h3,h4,h5,h2⟩,trivial⟩
theorem ZwU [NW] (htt:∀t i,tt t=some i→TOk P t i) {t f n:Nat} {fs:List FI} {z:List AV} (hti:tt t=some (.strct fs n z)) {fi:FI} (hf:fs[f]?=some fi) {x v:SV} {vx:Value} (h:Zit fi.off x=some v) (hx:SVR g w x vx) (hu:svU U x):
  ∃cv,(Instr.fieldAt t vx f).run P w=.ok cv w∧SVR g w v cv∧svU U v:=by
 obtain ⟨b,o,rfl,h1,h2⟩:=Zxk h hx hu
 obtain ⟨fields,i,zvs,u1,_,_,_,_,u2⟩:=htt t _ hti
 obtain ⟨fl,e1,e2,e3,j,d,e4,e5,_⟩:=u2.at hf
 have e1':fields[f]?=some fl:=by simpa using e1
 refine ⟨_,?_,h1,h2⟩
 simp [Instr.fieldAt,Yw u1,e1',Instr.sureAddr,fieldPlace,XH e4,e5,e3,ZcL,e2]
theorem Zwb [NW] (htt:∀t i,tt t=some i→TOk P t i) {t f n:Nat} {fs:List FI} {z:List AV} (hti:tt t=some (.strct fs n z)) {x v:SV} {vx:Value} (h:Zkq fs f x=some v) (hx:SVR g w x vx) (hu:svU U x):
  ∃cv,(Instr.field t vx f).run P w=.ok cv w∧SVR g w v cv∧svU U v:=by
 unfold Zkq at h
 split at h
 ·rename_i cs
  obtain ⟨fi,hf,h⟩:=Option.bind_eq_some_iff.1 h
  obtain ⟨vs,rfl,hr⟩:=hx
  obtain ⟨fields,i,zvs,u1,_,_,_,_,u2⟩:=htt t _ hti
  obtain ⟨fl,e1,e2,e3,j,d,e4,e5,e6,e7⟩:=u2.at hf
  have e1':fields[f]?=some fl:=by simpa using e1
  have hlen:=hr.len
  split at h
  ·rename_i ha
   split at h<;>simp at h
   rename_i hn
   subst h
   refine ⟨.agg ((vs.drop fi.off).take fi.size).toArray,?_,⟨_,rfl,(hr.drop _).take _⟩,fun y m=>hu y (List.mem_of_mem_drop (List.mem_of_mem_take m))⟩
   simp [Instr.field,Yw u1,e1',asAgg,part,Zgd e6,e7,ha,XH e4,e5,e2]
  ·rename_i ha
   obtain ⟨y,hy,rfl⟩:=Option.map_eq_some_iff.1 h
   obtain ⟨u,b1,b2⟩:=hr.at hy
   refine ⟨u,?_,⟨y,rfl,b2⟩,fun z mz=>by simp at mz;subst mz;exact hu z (List.mem_of_getElem? hy)⟩
   simp [Instr.field,Yw u1,e1',asAgg,part,Zgd e6,e7,ha,e2,b1]
 ·simp at h
theorem Zt2 [NW] {c:Bool} {x y:SV} {vc vx vy:Value} (hc:SVR g w (.p false [.c (.bool c)]) vc) (hx:SVR g w x vx∧svU U x) (hy:SVR g w y vy∧svU U y):
  ∃cv,(do pure (Next.value (if ←asBool vc then vx else vy)):Sem Next).run P w=.ok (.value cv) w∧SVR g w (if c=true then x else y) cv∧svU U (if c=true then x else y):=by
 have:=ZeZ hc
 subst this
 cases c
 ·exact ⟨vy,by simp [asBool],by simpa using hy.1,by simpa using hy.2⟩
 ·exact ⟨vx,by simp [asBool],by simpa using hx.1,by simpa using hx.2⟩
theorem Zv2 [NW] {i:Nat} {x v:SV} {vx:Value} (h:ZrV i x=some v) (hx:SVR g w x vx) (hu:svU U x):∃cv,(Instr.extract vx i).run P w=.ok cv w∧SVR g w v cv∧svU U v:=by
 unfold ZrV at h
 split at h
 ·obtain ⟨y,hy,rfl⟩:=Option.map_eq_some_iff.1 h
  obtain ⟨vs,rfl,hr⟩:=hx
  obtain ⟨u,b1,b2⟩:=hr.at hy
  exact ⟨u,by simp [Instr.extract,b1],b2,hu y (List.mem_of_getElem? hy)⟩
 ·simp at h
theorem ZsY [NW] {lo:Bool} {x y v:SV} {vx vy:Value} {ts:Array TypeId} {ty:TypeId} (h:Zsq lo x y=some v) (hx:SVR g w x vx) (hy:SVR g w y vy):
  ∃cv,((if lo then Builtin.min_ ts ty #[vx,vy] else Builtin.max_ ts ty #[vx,vy]):Sem Value).run P w=.ok cv w∧SVR g w v cv∧svU U v:=by
 unfold Zsq at h
 split at h
 ·have ex:=Zbd hx
  have ey:=Zbd hy
  subst ex ey
  simp only [Option.some.injEq] at h
  subst h
  refine ⟨_,?_,Za2 _ _,Xt _⟩
  cases lo
  ·simp [Builtin.max_,Builtin.max2]
  ·simp [Builtin.min_,Builtin.min2]
 ·simp at h
end
end Go.Proofs.YtojnhepgnbhaaaaGreatDoor
namespace Go.Proofs.YtojnhepgnbhaaaaGreatDoor
open Go.RowKit
theorem ZeW {α:Type} (l:List α) (off:Nat) (vs:List α) (h:off+vs.length≤l.length):(splice l off vs).length=l.length:=by
 simp [splice];omega
theorem ZoN {α:Type} (l:List α) (n:Nat) (v:α) (r:List α) (h:n+(r.length+1)≤l.length):splice (l.set n v) (n+1) r=splice l n (v::r):=by
 unfold splice
 have e1:(l.set n v).take (n+1)=l.take n++[v]:=by
  rw [List.take_succ_eq_append_getElem (by simp;omega)]
  simp [List.take_set_of_le]
 have e2:(l.set n v).drop (n+1+r.length)=l.drop (n+(v::r).length):=by
  rw [List.drop_set_of_lt (by omega)]
  congr 1
  simp;omega
 rw [e1,e2];simp
theorem ZmI [NW] (off:Nat):∀(vs:List Value) (k:Nat) (cells:Array Value),off+k+vs.length≤cells.size→
  (vs.zipIdx k).foldl (fun (cs:Array Value) (p:Value × Nat)=>cs.setIfInBounds (off+p.2) p.1) cells=(splice cells.toList (off+k) vs).toArray
 | [],k,cells,h=>by simp [splice]
 | v::r,k,cells,h=>by
  rw [List.zipIdx_cons,List.foldl_cons,ZmI off r (k+1) _ (by simp at h ⊢;omega)]
  have:=ZoN cells.toList (off+k) v r (by simpa using h)
  rw [←this]
  simp [Nat.add_assoc]
theorem ZkQ [NW] (off:Nat) (v:Value) (vs:List Value) (hv:v.cells=vs.toArray) (cells:Array Value) (h:off+vs.length≤cells.size):
  v.cells.zipIdx.foldl (fun cs (c,j)=>cs.setIfInBounds (off+j) c) cells=(splice cells.toList off vs).toArray:=by
 have:=ZmI off vs 0 cells (by simpa using h)
 rw [hv,←Array.foldl_toList]
 simpa using this
section
variable {P:Program} {W:Q8} {U:Nat→Prop} {key:Nat} {st:St} {g:Gh} {w:World} {a:Act} {tt:Nat→Option TI}
theorem ZH.splice {α β:Type} {R:α→β→Prop} {l vs:List α} {r us:List β} (h:ZH R l r) (h':ZH R vs us) (off:Nat):ZH R (splice l off vs) (splice r off us):=by
 unfold Go.Proofs.YtojnhepgnbhaaaaGreatDoor.splice
 rw [h'.len]
 exact (h.take _).append (h'.append (h.drop _))
theorem ZiW {l vs:List AV} (h:Qz U l) (h':Qz U vs) (off:Nat):Qz U (splice l off vs):=by
 intro y m
 unfold splice at m
 rcases List.mem_append.1 m with m | m
 ·exact h y (List.mem_of_mem_take m)
 ·rcases List.mem_append.1 m with m | m
  ·exact h' y m
  ·exact h y (List.mem_of_mem_drop m)
theorem ZqL [NW] {place:Nat→Option (Nat × Nat)} {fs:List FI} (hp:∀i fi,fs[i]?=some fi→place i=some (fi.off,fi.size)):
  ∀{parts:List (Nat × SV)} {ps:List (Nat × Value)} {cs cs':List AV} {vs:List Value},Zif fs cs parts=some cs'→ZH (fun p q=>p.1=q.1∧SVR g w p.2 q.2∧svU U p.2) parts ps→ZH (AVR g w) cs vs→Qz U cs→
   ∃vs':List Value,Instr.fill place vs.toArray ps=some vs'.toArray∧ZH (AVR g w) cs' vs'∧Qz U cs'
 | [],[],cs,cs',vs,h,_,hr,hu=>by simp [Zif] at h;subst h;exact ⟨vs,rfl,hr,hu⟩
 | [],_::_,_,_,_,_,h,_,_=>h.elim
 | _::_,[],_,_,_,_,h,_,_=>h.elim
 | (i,s)::r,(j,v)::ps,cs,cs',vs,h,⟨⟨e,hs,hsu⟩,hps⟩,hr,hu=>by
  simp only at e hs hsu
  subst e
  cases s with
  | p ag us=>
   simp only [Zif] at h
   obtain ⟨f,hf,h⟩:=Option.bind_eq_some_iff.1 h
   split at h
   ·rename_i hl
    obtain ⟨us',c1,c2⟩:=PVR.cells hs
    have hlen:=c2.len
    have hlen2:=hr.len
    obtain ⟨vs',d1,d2,d3⟩:=ZqL hp h hps (hr.splice c2 f.off) (ZiW hu hsu f.off)
    refine ⟨vs',?_,d2,d3⟩
    have hcs:v.cells.size=us'.length:=by simp [c1]
    rw [Instr.fill,hp i f hf]
    simp only
    rw [if_neg (by simp [hcs];omega),ZkQ f.off v us' c1 _ (by simp;omega)]
    simpa using d1
   ·simp at h
  | _=>simp [Zif] at h
theorem ZH.of_map {α β γ:Type} {R:β→γ→Prop} (f:α→β) (h:α→γ):∀{l:List α},(∀x∈l,R (f x) (h x))→ZH R (l.map f) (l.map h)
 | [],_=>trivial
 | x::l,hh=>⟨hh x (by simp),ZH.of_map f h fun y m=>hh y (by simp [m])⟩
theorem Zg8 [NW]:∀{z:List AV} {zvs:List Value},ZH (fun a v=>Q7 a v=true) z zvs→ZH (AVR g w) z zvs∧Qz U z
 | [],[],_=>⟨trivial,fun _ m=>by simp at m⟩
 | x::z,v::zvs,h=>by
  obtain ⟨h1,h2⟩:=Zg8 (z:=z) (zvs:=zvs) h.2
  refine ⟨⟨Zex h.1,h1⟩,fun y m=>?_⟩
  rcases List.mem_cons.1 m with rfl | m
  ·have:=h.1
   cases y<;>first | trivial | simp [Q7] at this
  ·exact h2 y m
 | [],_::_,h=>h.elim
 | _::_,[],h=>h.elim
theorem ZmA:∀{fs:List FI} {fields:List Field},ZH (fun (fi:FI) (f:Field)=>f.offset=fi.off∧fi.size≠0∧∃j d,P.info? f.type=some j∧j.size=fi.size∧P.underlying f.type=some d∧Zos d=fi.agg) fs fields→
  fields.mapM (fun f=>(P.info? f.type).map fun i=>(f.offset,i.size))=some (fs.map fun fi=>(fi.off,fi.size))
 | [],[],_=>rfl
 | fi::fs,f::fields,⟨⟨h1,_,j,d,h2,h3,_⟩,h⟩=>by
  simp [List.mapM_cons,h2,h3,h1,ZmA h]
 | [],_::_,h=>h.elim
 | _::_,[],h=>h.elim
theorem ZrX [NW] (htt:∀t i,tt t=some i→TOk P t i) (hS:∀t,SVR g w (st.sl t) (a.tmps.getD t undef)) (hU:StU U st) {t n:Nat} {fs:List FI} {z:List AV} (hti:tt t=some (.strct fs n z)) {parts:Array (Nat × Operand)} {cs:List AV} (h:Zif fs z (parts.toList.map (Zfa tt st fs z))=some cs):
  ∃cv,(Instr.build t (parts.map fun (i,x)=>(i,a.eval x))).run P w=.ok cv w∧SVR g w (.p true cs) cv∧svU U (.p true cs):=by
 obtain ⟨fields,i,zvs,u1,u2,u3,u4,u5,u6⟩:=htt t _ hti
 obtain ⟨hz,hzu⟩:=Zg8 (g:=g) (w:=w) (U:=U) u5
 have hparts:ZH (fun (p:Nat × SV) (q:Nat × Value)=>p.1=q.1∧SVR g w p.2 q.2∧svU U p.2) (parts.toList.map (Zfa tt st fs z)) (parts.toList.map fun p=>(p.1,a.eval p.2)):=by
  refine ZH.of_map _ _ fun p _=>?_
  unfold Zfa
  split
  ·rename_i hc
   rw [hc]
   refine ⟨rfl,?_⟩
   dsimp only
   split
   ·exact ⟨⟨_,rfl,rfl⟩,fun y m=>by simp at m;subst m;trivial⟩
   ·exact ⟨trivial,trivial⟩
  ·have:=Zjj htt hS hU 0 p.2
   exact ⟨rfl,this⟩
 have hpl:∀(i:Nat) (fi:FI),fs[i]?=some fi→((fs.map fun (fi:FI)=>(fi.off,fi.size)).toArray[i]?)=some (fi.off,fi.size):=fun i fi hf=>by simp [hf]
 obtain ⟨vs',d1,d2,d3⟩:=ZqL hpl h hparts hz hzu
 refine ⟨.agg vs'.toArray,run_build w t _ _ ?_,⟨vs',rfl,d2⟩,d3⟩
 unfold Program.built
 simp only [u1,u2,u4,ZmA u6]
 have e:(parts.map fun (x:Nat × Operand)=>(x.1,a.eval x.2)).toList=parts.toList.map fun p=>(p.1,a.eval p.2):=by simp
 have e2:(parts.map fun x=>match x with | (i,x)=>(i,a.eval x))=parts.map fun (x:Nat × Operand)=>(x.1,a.eval x.2):=rfl
 rw [e2,e]
 exact d1
theorem Sl.sub {m n:Nat} {A:Option Addr} {cs:List Value} {L:List Nat} (h:Sl w m A n cs L) (l q cap:Nat) (hm:0<m) (hq:l+q≤n) (hcap:n≤cap):
  ∃A' L',A'=(if cap=l then A else A.map (·.add (l * m)))∧Sl w m A' q ((cs.drop (l * m)).take (q * m)) L'∧∀b∈L',b∈L:=by
 have hlen:=h.1
 have hlm:l * m+q * m≤n * m:=by rw [←Nat.add_mul];exact Nat.mul_le_mul_right m hq
 refine ⟨_,if q=0 then [] else L,rfl,⟨by simp;omega,?_⟩,fun b mb=>?_⟩
 ·by_cases hq0:q=0
  ·exact .inl ⟨hq0,by simp [hq0]⟩
  ·rcases h.2 with ⟨h0,_⟩ | ⟨_,b,off,rfl,rfl,hc⟩
   ·omega
   ·refine .inr ⟨by omega,b,off+l * m,by rw [if_neg (by omega)];simp [ZcL],by simp [hq0],fun j u hj=>?_⟩
    rw [Nat.add_assoc]
    refine hc _ u ?_
    have hjq:j<q * m:=by
     have:=(List.getElem?_eq_some_iff.1 hj).1
     simp at this;omega
    rw [List.getElem?_take,if_pos hjq,List.getElem?_drop] at hj
    exact hj
 ·split at mb
  ·simp at mb
  ·exact mb
theorem REs.drop {m:Nat}:∀{xs:List (List CT)} {cs:List Value} {L:List Nat} (l:Nat),REs w m xs cs L→∃L',REs w m (xs.drop l) (cs.drop (l * m)) L'∧∀b∈L',b∈L
 | xs,cs,L,0,h=>⟨L,by simpa using h,fun _ mb=>mb⟩
 | [],cs,L,l+1,h=>⟨[],by obtain ⟨rfl,rfl⟩:=h;simp [REs],by simp⟩
 | x::r,_,_,l+1,⟨c1,c2,L1,L2,rfl,rfl,h3,h4⟩=>by
  obtain ⟨L',h5,h6⟩:=REs.drop l h4
  refine ⟨L',?_,fun b mb=>by simp [h6 b mb]⟩
  have e:(l+1) * m=c1.length+l * m:=by rw [h3.2,Nat.add_mul];omega
  have e2:(c1++c2).drop (c1.length+l * m)=c2.drop (l * m):=by
   rw [List.drop_append,List.drop_of_length_le (Nat.le_add_right _ _),List.nil_append,Nat.add_sub_cancel_left]
  rw [e,e2]
  simpa using h5
theorem REs.take {m:Nat}:∀{xs:List (List CT)} {cs:List Value} {L:List Nat} (l:Nat),REs w m xs cs L→∃L',REs w m (xs.take l) (cs.take (l * m)) L'∧∀b∈L',b∈L
 | xs,cs,L,0,h=>⟨[],by simp [REs],by simp⟩
 | [],cs,L,l+1,h=>⟨[],by obtain ⟨rfl,rfl⟩:=h;simp [REs],by simp⟩
 | x::r,_,_,l+1,⟨c1,c2,L1,L2,rfl,rfl,h3,h4⟩=>by
  obtain ⟨L',h5,h6⟩:=REs.take l h4
  refine ⟨L1++L',?_,fun b mb=>by
   rcases List.mem_append.1 mb with mb | mb
   ·simp [mb]
   ·simp [h6 b mb]⟩
  have e:(l+1) * m=c1.length+l * m:=by rw [h3.2,Nat.add_mul];omega
  rw [e,List.take_length_add_append]
  exact ⟨c1,_,L1,L',rfl,rfl,h3,h5⟩
theorem ZmW {k:IntKind} {i:Int} {y:Nat} {code:BoundsCode} (h0:0≤i) (h1:i≤y):(Instr.sliceBound (.int k i) y code).run P w=.ok i.toNat w:=by
 simp [Instr.sliceBound,asIntOf,h0,h1]
def Zk5 [NW] (g:Gh) (w:World):Option SV→Option Value→Prop
 | none,none=>True
 | some s,some u=>SVR g w s u
 | _,_=>False
theorem Zhj [NW] {lo hi:Option SV} {vlo vhi:Option Value} {len cap l h:Nat} {b:Bool} (hh:hiB len hi=some h) (hl:loB h lo=some l) (hlo:Zk5 g w lo vlo) (hhi:Zk5 g w hi vhi) (hc:len≤cap):
  (Instr.sliceBounds b len cap vlo vhi none).run P w=.ok (l,h,cap) w∧l≤h∧h≤len:=by
 have e1 : ((match vhi, (none : Option Value) with | some v, some _ => Instr.sliceBound v cap .slice3B | some v, none => Instr.sliceBound v cap (if b then .sliceAcap else .sliceAlen) | none, none => pure len | none, some _ => stuck "Slice: max without high") : Sem Nat).run P w = .ok h w ∧ h ≤ len := by
  unfold hiB at hh
  split at hh
  ·simp only [Option.some.injEq] at hh
   subst hh
   cases vhi with
   | none=>exact ⟨rfl,Nat.le_refl _⟩
   | some v=>exact hhi.elim
  ·split at hh<;>simp only [Option.some.injEq,reduceCtorEq] at hh
   rename_i hq
   subst hh
   cases vhi with
   | none=>exact hhi.elim
   | some v=>
    have e:=Zbd hhi
    subst e
    exact ⟨ZmW hq.1 (by omega),by omega⟩
  ·simp at hh
 have e2:((match vlo with | some v=>Instr.sliceBound v h .sliceB | none=>pure 0):Sem Nat).run P w=.ok l w∧l≤h:=by
  unfold loB at hl
  split at hl
  ·simp only [Option.some.injEq] at hl
   subst hl
   cases vlo with
   | none=>exact ⟨rfl,Nat.zero_le _⟩
   | some v=>exact hlo.elim
  ·split at hl<;>simp only [Option.some.injEq,reduceCtorEq] at hl
   rename_i hq
   subst hl
   cases vlo with
   | none=>exact hlo.elim
   | some v=>
    have e:=Zbd hlo
    subst e
    exact ⟨ZmW hq.1 hq.2,by omega⟩
  ·simp at hl
 refine ⟨?_,e2.2,e1.2⟩
 unfold Instr.sliceBounds
 simp only [Sem.run_bind,Sem.run_pure,Result.andThen_ok,Option.isSome_none,Bool.false_eq_true,if_false]
 have e1':=e1.1
 have e2':=e2.1
 cases vhi<;>cases vlo<;>simp_all
theorem Zpx [NW] (htt:∀t i,tt t=some i→TOk P t i) {t:Nat} {x v:SV} {lo hi:Option SV} {vx:Value} {vlo vhi:Option Value} (h:Zlm (tt t) lo hi x=some v) (hx:SVR g w x vx)
  (hlo:Zk5 g w lo vlo) (hhi:Zk5 g w hi vhi):∃cv,(Instr.sliceAt t vx vlo vhi none).run P w=.ok cv w∧SVR g w v cv∧svU U v:=by
 unfold Zlm at h
 split at h
 ·rename_i s
  split at h
  ·rename_i hstr
   have hu:=Zf7 htt hstr
   obtain ⟨q,hq,h⟩:=Option.bind_eq_some_iff.1 h
   obtain ⟨l,hl,rfl⟩:=Option.map_eq_some_iff.1 h
   obtain ⟨rfl,hs⟩:=Zhl hx
   obtain ⟨b1,b2,b3⟩:=Zhj (P:=P) (b:=false) hq hl hlo hhi (Nat.le_refl _)
   refine ⟨_,?_,ZjY (by rw [ByteArray.size_extract];omega),Xt _⟩
   simp [Instr.sliceAt,Yw hu,Instr.slice,b1]
  ·simp at h
 ·rename_i e m xs
  split at h
  ·rename_i hsz
   obtain ⟨q,hq,h⟩:=Option.bind_eq_some_iff.1 h
   obtain ⟨l,hl,rfl⟩:=Option.map_eq_some_iff.1 h
   obtain ⟨A,cap,cs,L0,L1,rfl,h2,h3,h5,h6,h7,ho⟩:=Zfz hx
   obtain ⟨b1,b2,b3⟩:=Zhj (P:=P) (b:=true) hq hl hlo hhi h2
   obtain ⟨e',b',z',hti⟩:∃e' b' z',tt t=some (.slice e' m b' z'):=by
    unfold Zix at hsz
    split at hsz
    ·rename_i h1;subst hsz;exact ⟨_,_,_,h1⟩
    ·omega
   obtain ⟨hu,_,_,⟨ie,zv,hie,hsi,_⟩,_⟩:=htt t _ hti
   have fin:SVR g w (.p false [.c (.sl e m ((xs.take q).drop l))]) (.slice (if cap=l then A else A.map (·.add (l * m))) (q - l) (cap - l)):=by
    obtain ⟨A',L',rfl,s1,s2⟩:=h6.sub l (q - l) cap h5 (by omega) h2
    obtain ⟨M1,r1,r2⟩:=h7.take q
    obtain ⟨M2,r3,r4⟩:=r1.drop l
    have hlen:((xs.take q).drop l).length=q - l:=by simp;omega
    have e1:(cs.drop (l * m)).take ((q - l) * m)=(cs.take (q * m)).drop (l * m):=by
     rw [List.drop_take,Nat.sub_mul]
    rw [e1] at s1
    refine ⟨_,rfl,L'++M2,⟨_,_,_,L',M2,by rw [hlen],by rw [hlen];omega,by omega,rfl,h5,by rw [hlen];exact s1,r3⟩,fun b mb=>?_⟩
    rcases List.mem_append.1 mb with mb | mb
    ·exact ho b (by simp [s2 b mb])
    ·exact ho b (by simp [r2 b (r4 b mb)])
   refine ⟨_,?_,fin,Xt _⟩
   simp [Instr.sliceAt,Yw hu,Instr.slice,b1,XH hie,hsi]
  ·simp at h
 ·simp at h
end
end Go.Proofs.YtojnhepgnbhaaaaGreatDoor
namespace Go.Proofs.YtojnhepgnbhaaaaGreatDoor
open Go.RowKit
theorem Zw {α:Type} (f:Nat→α) (k:Nat) (v:α):upd f k v k=v:=by simp [upd]
theorem ZI {α:Type} (f:Nat→α) {k j:Nat} (v:α) (h:j≠k):upd f k v j=f j:=by simp [upd,h]
theorem YR (ob:Nat→Ob) (u v:List (Nat × Ob)):Zk ob (u++v)=Zk (Zk ob u) v:=by
 induction u generalizing ob with
 | nil=>rfl
 | cons p r ih=>exact ih _
theorem Zi2:∀(ks:List Nat) (ob:Nat→Ob) (k:Nat),Zk ob (Zam ks) k=if k∈ks then .gone else ob k
 | [],ob,k=>by simp [Zam,Zk]
 | x::ks,ob,k=>by
  have:Zam (x::ks)=(x,Ob.gone)::Zam ks:=rfl
  rw [this,Zk,Zi2 ks]
  by_cases h1:k∈ks
  ·simp [h1]
  ·by_cases h2:k=x
   ·subst h2;simp [upd]
   ·simp [h1,h2,upd]
theorem ZaE [NW] (ks:List Nat) (ob:Nat→Ob) (key:Nat) (o:Ob) (k:Nat):Zk ob (Zam ks++[(key,o)]) k=if k=key then o else if k∈ks then .gone else ob k:=by
 rw [YR]
 simp only [Zk,upd,Zi2]
def Gh.turn (g:Gh) (ks:List Nat) (key:Nat) (v:Value) (O D:List Nat):Gh:=
 ⟨upd g.val key v,fun k=>if k=key then O else if k∈ks then [] else g.O k,fun k=>if k=key then D else if k∈ks then [] else g.D k,g.Z⟩
section
variable {P:Program} {W:Q8} {U:Nat→Prop} {key:Nat} {st:St} {g:Gh} {w w':World} {a:Act} {tt:Nat→Option TI}
theorem Zel {ks:List Nat} {v:Value} {O D:List Nat} {b:Nat} (h:(g.turn ks key v O D).own b):b∈O∨(∃k,k∉ks∧k≠key∧b∈g.O k)∨g.Z b:=by
 rcases h with ⟨k,hk⟩ | h
 ·simp only [Gh.turn] at hk
  split at hk
  ·exact .inl hk
  ·rename_i h1
   split at hk
   ·simp at hk
   ·rename_i h2;exact .inr (.inl ⟨k,h2,h1,hk⟩)
 ·exact .inr (.inr h)
theorem ZmC {n:Nat} {ks:List Nat} {v:Value} {O D:List Nat} (hO:∀b∈O,(∃k∈ks,b∈g.O k)∨n≤b) (hD:∀b∈D,(∃k∈ks,b∈g.O k++g.D k)∨n≤b):Qt g (g.turn ks key v O D) n:=by
 refine .of (fun b hb=>?_) fun j b mb=>?_
 ·rcases Zel hb with m | ⟨k,_,_,m⟩ | m
  ·rcases hO b m with ⟨k,_,m⟩ | m
   ·exact .inl (.inl ⟨k,m⟩)
   ·exact .inr m
  ·exact .inl (.inl ⟨k,m⟩)
  ·exact .inl (.inr m)
 ·simp only [Gh.turn] at mb
  split at mb
  ·refine (hD b mb).imp (fun ⟨k,_,mk⟩=>?_) id
   rcases List.mem_append.1 mk with m1 | m1
   ·exact .inl (.inl ⟨k,m1⟩)
   ·exact .inr ⟨k,m1⟩
  ·split at mb
   ·simp at mb
   ·exact .inl (.inr ⟨j,mb⟩)
theorem HI.turn [NW] {ob:Nat→Ob} (h:HI W g ob w) (hobU:∀k,obU U (ob k)) (hkey:¬U key) (ks:List Nat) (hks:∀k∈ks,U k)
  (hbel:Bel W w') (hsz:w.heap.size≤w'.heap.size) (hw:∀b,b<w.heap.size→(∀k∈ks,b∉g.O k)→w'.heap[b]?=w.heap[b]?)
  {v:Value} {O D:List Nat} {o:Ob} (hO:∀b∈O,(∃k∈ks,b∈g.O k)∨w.heap.size≤b) (hD:∀b∈D,(∃k∈ks,b∈g.O k++g.D k)∨w.heap.size≤b)
  (hnd:(O++D).Nodup) (hpl:∀b∈O++D,(W.heap.size≤b∨W.x b)∧XZ w' o b)
  (hob:Qt g (g.turn ks key v O D) w.heap.size→ObR (g.turn ks key v O D) w' key o):
  HI W (g.turn ks key v O D) (Zk ob (Zam ks++[(key,o)])) w'∧∀x u,svU U x→SVR g w x u→SVR (g.turn ks key v O D) w' x u:=by
 have hkk:key∉ks:=fun m=>hkey (hks key m)
 have hval:∀k,U k→(g.turn ks key v O D).val k=g.val k:=fun k hk=>ZI _ _ fun e=>hkey (e ▸ hk)
 have hown:Qt g (g.turn ks key v O D) w.heap.size:=ZmC hO hD
 have hFnew:∀b∈O++D,(∃k∈ks,b∈g.O k++g.D k)∨w.heap.size≤b:=fun b m=>by
  rcases List.mem_append.1 m with m | m
  ·exact (hO b m).imp (fun ⟨k,h1,h2⟩=>⟨k,h1,by simp [h2]⟩) id
  ·exact hD b m
 refine ⟨h.step (fun k=>k=key∨k∈ks) hbel rfl (fun b hb hn=>hw b hb fun k hk=>hn k (.inr hk)) (fun k hk=>?_) hobU hval hown (fun k hk=>?_),fun x u hx hu=>hu.move hx hval (fun b hb hn=>hw b hb fun k _ m=>hn (.inl ⟨k,m⟩)) hown hsz⟩
 ·have h1:k≠key:=fun e=>hk (.inl e)
  have h2:k∉ks:=fun e=>hk (.inr e)
  rw [ZaE]
  simp [Gh.turn,h1,h2,upd]
 ·rw [ZaE]
  by_cases h1:k=key
  ·subst h1
   have eO:(g.turn ks k v O D).O k=O:=by simp [Gh.turn]
   have eD:(g.turn ks k v O D).D k=D:=by simp [Gh.turn]
   rw [if_pos rfl,eO,eD]
   refine ⟨hob hown,hnd,hpl,fun j hj b m mj=>?_⟩
   have hjk:¬j=k:=fun e=>hj e.symm
   by_cases h2:j∈ks
   ·simp [Gh.turn,hjk,h2] at mj
   ·have mj':b∈g.O j++g.D j:=by simpa [Gh.turn,hjk,h2] using mj
    rcases hFnew b m with ⟨q,q1,q2⟩ | q
    ·exact h.apart q j (fun e=>h2 (e ▸ q1)) b q2 mj'
    ·have:=h.lt j b mj';omega
  ·have h2:k∈ks:=hk.resolve_left h1
   have eO:(g.turn ks key v O D).O k=[]:=by simp [Gh.turn,h1,h2]
   have eD:(g.turn ks key v O D).D k=[]:=by simp [Gh.turn,h1,h2]
   rw [if_neg h1,if_pos h2,eO,eD]
   exact ⟨⟨eO,eD⟩,by simp,by simp,by simp⟩
theorem Zhr [NW] (hU:StU U st) (ks:List Nat) {o:Ob} (ho:obU (Uk U key) o):(∀k,obU (Uk U key) (Zk st.ob (Zam ks++[(key,o)]) k))∧∀k,¬Uk U key k→Zk st.ob (Zam ks++[(key,o)]) k=.gone:=by
 constructor
 ·intro k
  rw [ZaE]
  split
  ·exact ho
  ·split
   ·trivial
   ·exact (hU.ob k).mono fun _=>.inl
 ·intro k hk
  rw [ZaE,if_neg (fun e=>hk (.inr (by omega)))]
  split
  ·rfl
  ·exact hU.gone k fun h=>hk (.inl h)
theorem Ziw:Uk U key key:=.inr (by omega)
theorem Zte [NW] (hI:HI W g st.ob w) (hU:StU U st) (hkey:¬U key) {t:TypeId} {cs:List AV} {vs:List Value} (hr:ZH (AVR g w) cs vs) (hu:Qz U cs) {s:Sem Next}
  (hrun:s.run P w=.ok (.value (.pointer (some ⟨w.heap.size,0,none⟩))) (w.alloc (.cells vs.toArray t))):Fin P W U key st g w s (.bp key 0,[(key,.box t cs)]):=by
 have hb:Below w.heap.size w (w.alloc (.cells vs.toArray t)):=(Below.refl _ _).alloc (Nat.le_refl _) _
 obtain ⟨h1,h2⟩:=hI.turn (key:=key) (U:=U) (w':=w.alloc (.cells vs.toArray t)) (v:=.pointer (some ⟨w.heap.size,0,none⟩)) (O:=[w.heap.size]) (D:=[]) (o:=.box t cs) hU.ob hkey [] (by simp)
  (hI.below.trans hb) hb.size (fun b hb' _=>hb.block b hb') (by simp) (by simp) (by simp) (fun b m=>by
   simp at m;subst m;exact ⟨.inl hI.below.size,_,_,heap_alloc_new w _⟩) (fun hown=>⟨w.heap.size,vs,by simp [Gh.turn,upd],by simp [Gh.turn],by simp [Gh.turn],heap_alloc_new w _,
    AVRs.move hr hu (fun k hk=>ZI _ _ fun e=>hkey (e ▸ hk)) (fun b hb' _=>hb.block b hb') hown⟩)
 have hwf:=Zhr (key:=key) (o:=.box t cs) hU [] (Qz.mono (fun _=>.inl) hu)
 exact ⟨_,_,_,.inl hrun,h1,⟨w.heap.size,by simp [Gh.turn,upd],rfl⟩,h2,Ziw,hwf.1,hwf.2⟩
theorem ZmD (b:Nat) (cs cs':Array Value) (t:TypeId) (hb:w.heap[b]?=some (.cells cs t (0,0))):(w.setRow b cs').heap[b]?=some (.cells cs' t (0,0))∧(∀k,k≠b→(w.setRow b cs').heap[k]?=w.heap[k]?)∧(w.setRow b cs').heap.size=w.heap.size∧(w.setRow b cs').os=w.os∧(w.setRow b cs').tape=w.tape∧(w.setRow b cs').output=w.output:=by
 refine ⟨setRow_heap w b cs cs' t _ hb,fun k hk=>?_,?_,rfl,rfl,rfl⟩
 ·have hbk:¬b=k:=fun e=>hk e.symm
  simp [World.setRow,Array.getElem?_modify,hbk]
 ·simp [World.setRow]
theorem Zsm [NW] (htt:∀t i,tt t=some i→TOk P t i) (hI:HI W g st.ob w) (hU:StU U st) {t k off tb:Nat} {cs vs:List AV} {va vv:Value} {ag:Bool} (hk:st.ob k=.box tb cs) (hl:vs.length=Zhf (tt t)) (ho:off+vs.length≤cs.length)
  (ha:SVR g w (.bp k off) va) (hv:SVR g w (.p ag vs) vv) (hvu:Qz U vs) (hpos:0<vs.length) {s:Sem Next} (hs:s=(do Instr.storeAt t va vv;pure .skip)):Fin P W U key st g w s (.und,[(k,.box tb (splice cs off vs))]):=by
 obtain ⟨b,h1,rfl⟩:=ha
 have hob:=hI.obs k
 rw [hk] at hob
 obtain ⟨b',us,o1,o2,o3,o4,o5⟩:=hob
 have hb:b=b':=by rw [o1] at h1;simpa using h1.symm
 subst hb
 have hlen:=o5.len
 obtain ⟨xs,c1,c2⟩:=PVR.cells hv
 have hxl:=c2.len
 have hcu:=hU.ob k
 rw [hk] at hcu
 obtain ⟨r1,r2,r3,r4,r5,r6⟩:=ZmD b us.toArray (splice us off xs).toArray tb o4
 have hsize:(sizeOf t).run P w=.ok xs.length w:=by
  rw [←hxl,hl]
  unfold Zhf at hl ⊢
  cases hti:tt t with
  | none=>rw [hti] at hl;simp at hl;simp [hl] at hpos
  | some i=>
   cases i with
   | atom z=>obtain ⟨d,zv,i,_,_,h3,_,h4,_⟩:=htt t _ hti;rw [XH h3,h4]
   | strct fs n z=>obtain ⟨_,i,_,_,h3,h4,_⟩:=htt t _ hti;rw [XH h3,h4]
   | slice e m b z=>obtain ⟨_,_,_,_,j,h3,h4,_⟩:=htt t _ hti;rw [XH h3,h4]
   | _=>rw [hti] at hl;simp at hl;simp [hl] at hpos
 have hst:=run_storeCells_at (P:=P) b off tb xs 0 us.toArray w o4 (by simp;omega) (AVRs.one c2)
 have hrun:s.run P w=.ok .skip (w.setRow b (splice us off xs).toArray):=by
  subst hs
  have e:(us.toArray.toList.take (off+0)++xs++us.toArray.toList.drop (off+0+xs.length)).toArray=(splice us off xs).toArray:=by simp [splice]
  rw [e] at hst
  simp [Instr.storeAt,Instr.sureAddr,storeVar,c1,hsize,hst]
 have hmv:∀b',b'<w.heap.size→¬g.own b'→(w.setRow b (splice us off xs).toArray).heap[b']?=w.heap[b']?:=fun b' _ hn=>r2 b' fun e=>hn (.inl ⟨k,by simp [o2,e]⟩)
 have hbW:W.heap.size≤b∨W.x b:=(hI.plain k b (by simp [o2])).1
 refine ⟨g,undef,_,.inr ⟨hrun,rfl⟩,?_,rfl,fun x u hx hu=>hu.move hx (fun _ _=>rfl) hmv (Qt.refl _ _) (by omega),trivial,fun q=>?_,fun q hq=>?_⟩
 ·refine hI.step (U:=U) (fun q=>q=k) ?_ rfl (fun b' _ hn=>r2 b' fun e=>hn k rfl (by simp [o2,e])) (fun q hq=>⟨ZI _ _ hq,rfl,rfl,rfl⟩) hU.ob (fun _ _=>rfl) (Qt.refl _ _) (fun q hq=>?_)
  ·exact ⟨r4.trans hI.below.os,r5.trans hI.below.tape,r6.trans hI.below.output,by have:=hI.below.size;omega,fun q hq hx=>by rw [r2 q (fun e=>by subst e;rcases hbW with h | h;omega;exact hx h)];exact hI.below.block q hq hx⟩
  ·subst hq
   refine ⟨?_,hI.nodup q,fun b' m=>?_,hI.apart q⟩
   ·simp only [Zk,Zw]
    exact ⟨b,_,o1,o2,o3,r1,(AVRs.move o5 hcu (fun _ _=>rfl) hmv (Qt.refl _ _)).splice (AVRs.move c2 hvu (fun _ _=>rfl) hmv (Qt.refl _ _)) off⟩
   ·simp [o2,o3] at m
    subst m
    refine ⟨hbW,?_⟩
    simp only [Zk,Zw]
    exact ⟨_,_,r1⟩
 ·simp only [Zk,upd]
  split
  ·exact Qz.mono (fun _=>.inl) (ZiW hcu hvu off)
  ·exact (hU.ob q).mono fun _=>.inl
 ·simp only [Zk,upd]
  split
  ·rename_i e;subst e
   exact absurd (hU.gone q fun h=>hq (.inl h)) (by simp [hk])
  ·exact hU.gone q fun h=>hq (.inl h)
end
end Go.Proofs.YtojnhepgnbhaaaaGreatDoor
namespace Go.Proofs.YtojnhepgnbhaaaaGreatDoor
open Go.RowKit
section
variable {P:Program} {W:Q8} {U:Nat→Prop} {key:Nat} {st:St} {g:Gh} {w w':World} {a:Act} {tt:Nat→Option TI}
def Gh.F (g:Gh) (ks:List Nat):List Nat:=ks.flatMap fun k=>g.O k++g.D k
def FP (g:Gh) (ks:List Nat) (d:Nat) (L:List Nat):Prop:=(d=2→L.Sublist (g.F ks))∧d≤2∧0<d∧∀b∈L,¬g.own b∨∃k∈ks,b∈g.O k
theorem FP.nil:FP g [] 2 []:=⟨fun _=>by simp [Gh.F],by simp⟩
theorem FP.append {ks ks':List Nat} {d d':Nat} {L L':List Nat} (h:FP g ks d L) (h':FP g ks' d' L'):FP g (ks++ks') (ZeK d d') (L++L'):=by
 have q1:=h.2.1
 have q2:=h'.2.1
 have q3:=h.2.2.1
 have q4:=h'.2.2.1
 refine ⟨fun hd=>?_,by unfold ZeK;split<;>omega,by unfold ZeK;split<;>omega,fun b m=>?_⟩
 ·have hd':d=2∧d'=2:=by unfold ZeK at hd;split at hd<;>omega
  simp only [Gh.F,List.flatMap_append]
  exact List.Sublist.append (h.1 hd'.1) (h'.1 hd'.2)
 ·rcases List.mem_append.1 m with m | m
  ·exact (h.2.2.2 b m).imp id fun ⟨k,h1,h2⟩=>⟨k,by simp [h1],h2⟩
  ·exact (h'.2.2.2 b m).imp id fun ⟨k,h1,h2⟩=>⟨k,by simp [h1],h2⟩
theorem HI.nodupF [NW] {ob:Nat→Ob} (hI:HI W g ob w):∀{ks:List Nat},ks.Nodup→(g.F ks).Nodup
 | [],_=>by simp [Gh.F]
 | k::ks,h=>by
  simp only [Gh.F,List.flatMap_cons,List.nodup_append]
  rw [List.nodup_cons] at h
  refine ⟨List.nodup_append.1 (hI.nodup k),hI.nodupF h.2,fun x hx y hy e=>?_⟩
  subst e
  obtain ⟨j,hj,hy⟩:=List.mem_flatMap.1 hy
  exact hI.apart k j (fun e=>h.1 (e ▸ hj)) x hx hy
theorem Zjp {ks:List Nat} {b:Nat} (h:b∈g.F ks):∃k∈ks,b∈g.O k++g.D k:=by simpa [Gh.F] using h
theorem Sl.row {B e m n:Nat} {v:Value} {cs:List Value} (h:w.ownsV B e m v n cs):∃A cap L0,v=.slice A n cap∧n≤cap∧cap≤maxLen∧Sl w m A n cs L0∧L0.Sublist v.ownBlock.toList:=by
 obtain ⟨A,cap,rfl,h1,h2⟩:=Zar h
 obtain ⟨L0,h3,_,h4⟩:=Sl.of_ownV h
 refine ⟨A,cap,L0,rfl,h1,h2,h3,?_⟩
 rcases h3.2 with ⟨_,rfl⟩ | ⟨_,b,off,rfl,rfl,_⟩
 ·exact List.nil_sublist _
 ·simp [Value.ownBlock]
theorem NR.toC [NW] {x:CT} {v:Value} (h:NR g w x v):∃L,RC w x v L∧∀b∈L,¬g.own b:=by
 obtain ⟨e,m,xs,cs,L,rfl,h2,h3,h4,h5,h6⟩:=h
 obtain ⟨A,cap,L0,s1,s2,s3,s4,s5⟩:=Sl.row h3
 refine ⟨L0++L,⟨A,cap,cs,L0,L,s1,s2,s3,rfl,h2,s4,h4⟩,fun b mb o=>(h6 b ?_).1 (.inl o)⟩
 rcases List.mem_append.1 mb with m1 | m1
 ·simp [s5.subset m1]
 ·simp [m1]
theorem Zvq [NW] (hI:HI W g st.ob w) {x:AV} {ct:CT} {ks:List Nat} {d:Nat} {v:Value} (h:avT st x=some (ct,ks,d)) (hx:AVR g w x v) (hu:avU U x):∃L,RC w ct v L∧FP g ks d L∧∀k∈ks,U k:=by
 cases x with
 | c y=>
  obtain ⟨L,h1,h2⟩:=hx
  cases y<;>simp only [avT,Option.some.injEq,Prod.mk.injEq] at h<;>obtain ⟨rfl,rfl,rfl⟩:=h
  ·exact ⟨L,h1,⟨fun _=>by rw [h1.2];simp [Gh.F],by simp,by simp,fun b m=>.inl (h2 b m)⟩,by simp⟩
  ·exact ⟨L,h1,⟨fun _=>by rw [h1.2];simp [Gh.F],by simp,by simp,fun b m=>.inl (h2 b m)⟩,by simp⟩
  ·exact ⟨L,h1,⟨fun _=>by rw [h1.2.1];simp [Gh.F],by simp,by simp,fun b m=>.inl (h2 b m)⟩,by simp⟩
  all_goals exact ⟨L,h1,⟨fun e=>by simp at e,by simp,by simp,fun b m=>.inl (h2 b m)⟩,by simp⟩
 | row k=>
  simp only [avT] at h
  split at h
  ·rename_i e m xs d' hk
   obtain ⟨hm,cs,L1,o1,o2,o3,o5⟩:=hI.deep hk
   obtain ⟨A,cap,L0,s1,s2,s3,s4,s5⟩:=Sl.row o1
   have hrc:RC w (.sl e m xs) v (L0++L1):=⟨A,cap,cs,L0,L1,by rw [hx.1,s1],s2,s3,rfl,hm,s4,o2⟩
   split at h
   ·rename_i hd0
    simp only [Option.some.injEq,Prod.mk.injEq] at h
    obtain ⟨rfl,rfl,rfl⟩:=h
    refine ⟨L0++L1,hrc,⟨fun e=>by simp at e,by simp,by simp,fun b m=>.inl ?_⟩,by simp⟩
    rcases o5 with ⟨q,_⟩ | ⟨q,_⟩ | ⟨_,_,_,q⟩
    ·omega
    ·omega
    ·rcases List.mem_append.1 m with m | m
     ·exact q b (s5.subset m)
     ·exact o3 b m
   ·rename_i hd0
    simp only [Option.some.injEq,Prod.mk.injEq] at h
    obtain ⟨rfl,rfl,rfl⟩:=h
    have hO:g.O k=(g.val k).ownBlock.toList:=by
     rcases o5 with ⟨_,q,_⟩ | ⟨_,q,_⟩ | ⟨q,_⟩
     ·exact q
     ·exact q
     ·exact absurd q hd0
    refine ⟨L0++L1,hrc,⟨fun hd=>?_,?_,by omega,fun b m=>?_⟩,fun q mq=>by simp at mq;subst mq;exact hu⟩
    ·rcases o5 with ⟨_,_,o5⟩ | ⟨o5,_⟩ | ⟨o5,_⟩
     ·simp only [Gh.F,List.flatMap_cons,List.flatMap_nil,List.append_nil,hO,o5]
      exact List.Sublist.append s5 (List.Sublist.refl _)
     ·omega
     ·omega
    ·rcases o5 with ⟨o5,_⟩ | ⟨o5,_⟩ | ⟨o5,_⟩<;>omega
    ·rcases List.mem_append.1 m with m | m
     ·exact .inr ⟨k,by simp,by rw [hO];exact s5.subset m⟩
     ·exact .inl (o3 b m)
  ·simp at h
 | nil e m=>
  simp only [avT] at h
  split at h
  ·rename_i hm
   simp only [Option.some.injEq,Prod.mk.injEq] at h
   obtain ⟨rfl,rfl,rfl⟩:=h
   refine ⟨[],⟨none,0,[],[],[],hx,by simp,Nat.zero_le _,rfl,hm,Sl.zero,rfl,rfl⟩,FP.nil,by simp⟩
  ·simp at h
 | n x=>simp [avT] at h
 | dead=>simp [avT] at h
theorem ZqF [NW] (hI:HI W g st.ob w):∀{xs:List AV} {cts:List CT} {ks:List Nat} {d:Nat} {vs:List Value},Zfb st xs=some (cts,ks,d)→ZH (AVR g w) xs vs→Qz U xs→∃L,RCs w cts vs L∧FP g ks d L∧∀k∈ks,U k
 | [],_,_,_,[],h,_,_=>by
  simp only [Zfb,Option.some.injEq,Prod.mk.injEq] at h
  obtain ⟨rfl,rfl,rfl⟩:=h
  exact ⟨[],⟨rfl,rfl⟩,FP.nil,by simp⟩
 | [],_,_,_,_::_,_,h,_=>h.elim
 | _::_,_,_,_,[],_,h,_=>h.elim
 | x::r,cts,ks,d,v::vs,h,hr,hu=>by
  simp only [Zfb] at h
  obtain ⟨⟨c1,k1,d1⟩,h1,h⟩:=Option.bind_eq_some_iff.1 h
  obtain ⟨⟨c2,k2,d2⟩,h2,h⟩:=Option.map_eq_some_iff.1 h
  simp only [Prod.mk.injEq] at h
  obtain ⟨rfl,rfl,rfl⟩:=h
  obtain ⟨L1,a1,a2,a3⟩:=Zvq hI h1 hr.1 (hu x (by simp))
  obtain ⟨L2,b1,b2,b3⟩:=ZqF hI h2 hr.2 (fun y m=>hu y (by simp [m]))
  exact ⟨L1++L2,⟨v,vs,L1,L2,rfl,rfl,a1,b1⟩,a2.append b2,fun k m=>(List.mem_append.1 m).elim (a3 k) (b3 k)⟩
theorem Zoj [NW] (hI:HI W g st.ob w) {m:Nat}:∀{xs:List SV} {es:List (List CT)} {ks:List Nat} {d:Nat} {vs:List Value},Y1 st m xs=some (es,ks,d)→ZH (fun s v=>SVR g w s v∧svU U s) xs vs→
  ∃(cs:List (List Value)) (L:List Nat),ZH (fun (c:List Value) (v:Value)=>v.cells=c.toArray∧c.length=m∧∀u∈c,u.oneCell'=true) cs vs∧REs w m es cs.flatten L∧FP g ks d L∧∀k∈ks,U k
 | [],_,_,_,[],h,_=>by
  simp only [Y1,Option.some.injEq,Prod.mk.injEq] at h
  obtain ⟨rfl,rfl,rfl⟩:=h
  exact ⟨[],[],trivial,⟨rfl,rfl⟩,FP.nil,by simp⟩
 | [],_,_,_,_::_,_,h=>h.elim
 | _::_,_,_,_,[],_,h=>h.elim
 | s::r,es,ks,d,v::vs,h,⟨⟨hs,hsu⟩,hr⟩=>by
  cases s with
  | p ag us=>
   simp only [Y1] at h
   split at h
   ·rename_i hl
    obtain ⟨⟨c1,k1,d1⟩,h1,h⟩:=Option.bind_eq_some_iff.1 h
    obtain ⟨⟨c2,k2,d2⟩,h2,h⟩:=Option.map_eq_some_iff.1 h
    simp only [Prod.mk.injEq] at h
    obtain ⟨rfl,rfl,rfl⟩:=h
    obtain ⟨us',p1,p2⟩:=PVR.cells hs
    obtain ⟨L1,a1,a2,a3⟩:=ZqF hI h1 p2 hsu
    obtain ⟨cs,L2,b1,b2,b3,b4⟩:=Zoj hI h2 hr
    have hl':us'.length=m:=by rw [←p2.len];exact hl
    exact ⟨us'::cs,L1++L2,⟨⟨p1,hl',AVRs.one p2⟩,b1⟩,⟨us',cs.flatten,L1,L2,by simp,rfl,⟨a1,hl'⟩,b2⟩,a2.append b3,fun k mk=>(List.mem_append.1 mk).elim (a3 k) (b4 k)⟩
   ·simp at h
  | _=>simp [Y1] at h
theorem Zo2 [NW] {m:Nat}:∀(cs:List (List Value)) (vs:List Value) (i:Nat) (pre base:List Value),ZH (fun (c:List Value) (v:Value)=>v.cells=c.toArray∧c.length=m∧∀u∈c,u.oneCell'=true) cs vs→pre.length=i * m→base.length=vs.length * m→
  Instr.fill (fun i=>some (i * m,m)) (pre++base).toArray ((List.range' i vs.length).zip vs)=some (pre++cs.flatten).toArray
 | [],[],i,pre,base,_,_,hb=>by
  have:base=[]:=List.eq_nil_of_length_eq_zero (by simpa using hb)
  subst this
  simp [Instr.fill]
 | [],_::_,_,_,_,h,_,_=>h.elim
 | _::_,[],_,_,_,h,_,_=>h.elim
 | c::cs,v::vs,i,pre,base,⟨⟨h1,h2,_⟩,h⟩,hp,hb=>by
  have hb':base.length=m+vs.length * m:=by rw [hb];simp [Nat.add_mul];omega
  have hcs:v.cells.size=m:=by simp [h1,h2]
  simp only [List.length_cons,List.range'_succ,List.zip_cons_cons,Instr.fill]
  rw [if_neg (by simp [hcs];omega),ZkQ (i * m) v c h1 _ (by simp;omega)]
  have e:splice (pre++base).toArray.toList (i * m) c=(pre++c)++base.drop m:=by
   unfold splice
   simp only [←hp]
   rw [List.take_left',List.drop_append,List.drop_of_length_le (by omega)]
   ·simp [h2]
   ·rfl
  rw [e,Zo2 cs vs (i+1) (pre++c) (base.drop m) h (by simp [hp,h2,Nat.add_mul]) (by simp;omega)]
  simp
theorem ZrJ [NW] (hI:HI W g st.ob w) (hU:StU U st) (hkey:¬U key) {e m:Nat} (hm:0<m) {xs:List (List CT)} {ks:List Nat} {d:Nat} {L:List Nat} {cs:List Value} {v:Value} (hown:w'.ownsV 0 e m v xs.length cs) (hv:v.ownBlock=some w.heap.size)
  (hb:Below w.heap.size w w') (hpl:∃cur e,w'.heap[w.heap.size]?=some (.cells cur e (0,0))) (hr:REs w m xs cs L) (hf:FP g ks d L) (hks:∀k∈ks,U k) (hrow:∀k∈ks,∃e m xs d,st.ob k=.row e m xs d) (hnd:ks.Nodup) {s:Sem Next} (hrun:s.run P w=.ok (.value v) w'):
  Fin P W U key st g w s (.p false [.row key],Zam ks++[(key,.row e m xs d)]):=by
 have hlt:=hr.lt
 have hF:=hI.nodupF hnd
 have hDmem:∀b∈(if d=2 then L else []),b∈L∧d=2:=fun b mb=>by
  split at mb
  ·rename_i hd;exact ⟨mb,hd⟩
  ·simp at mb
 obtain ⟨h1,h2⟩:=hI.turn (key:=key) (U:=U) (w':=w') (v:=v) (O:=[w.heap.size]) (D:=if d=2 then L else []) (o:=.row e m xs d) hU.ob hkey ks hks
  (hI.below.trans hb) hb.size (fun b hb' _=>hb.block b hb') (by simp) (fun b mb=>by
   obtain ⟨m1,m2⟩:=hDmem b mb
   exact .inl (Zjp ((hf.1 m2).subset m1)))
  (by
   simp only [List.singleton_append,List.nodup_cons]
   refine ⟨fun mb=>?_,?_⟩
   ·have:=hlt _ (hDmem _ mb).1;omega
   ·split
    ·rename_i hd;exact hF.sublist (hf.1 hd)
    ·simp)
  (fun b mb=>by
   simp only [List.singleton_append,List.mem_cons] at mb
   rcases mb with rfl | mb
   ·exact ⟨.inl hI.below.size,hpl⟩
   ·obtain ⟨m1,m2⟩:=hDmem b mb
    obtain ⟨k,k1,mk⟩:=Zjp ((hf.1 m2).subset m1)
    obtain ⟨p1,p2⟩:=hI.plain k b mk
    obtain ⟨_,_,_,_,hob⟩:=hrow k k1
    rw [hob] at p2
    exact ⟨p1,p2.keep (hb.block b (hlt b m1))⟩)
  (fun _=>⟨hm,cs,L,by simpa [Gh.turn,upd] using hown,hr.keep fun b mb=>hb.block b (hlt b mb),by
   have q1:=hf.2.1
   have q2:=hf.2.2.1
   by_cases hd:d=2
   ·exact .inl ⟨hd,by simp [Gh.turn,upd,hv],by simp [Gh.turn,hd]⟩
   ·refine .inr (.inl ⟨by omega,by simp [Gh.turn,upd,hv],by simp [Gh.turn,hd],fun b mb ho=>?_⟩)
    have hb':=hlt b mb
    rcases Zel ho with mo | ⟨k,k1,_,mk⟩ | hz
    ·simp at mo;omega
    ·rcases hf.2.2.2 b mb with hn | ⟨q,q1,q2⟩
     ·exact hn (.inl ⟨k,mk⟩)
     ·exact hI.apart k q (fun e=>k1 (e ▸ q1)) b (by simp [mk]) (by simp [q2])
    ·rcases hf.2.2.2 b mb with hn | ⟨q,q1,q2⟩
     ·exact hn (.inr hz)
     ·exact hI.nz (k:=q) (by simp [q2]) hz⟩)
 have hwf:=Zhr (key:=key) (o:=.row e m xs d) hU ks trivial
 refine ⟨_,_,_,.inl hrun,h1,⟨_,rfl,⟨by simp [Gh.turn,upd],?_⟩⟩,h2,fun y my=>by simp at my;subst my;exact Ziw,hwf.1,hwf.2⟩
 obtain ⟨A,cap,hv'⟩:=Zct hown
 simp [hv',Value.oneCell']
theorem Zlf (st:St):∀(ks:List Nat) (ob:Nat→Ob) (k:Nat),Zk ob (ZP st ks) k=if k∈ks then Ym (st.ob k) else ob k
 | [],ob,k=>by simp [ZP,Zk]
 | j::r,ob,k=>by
  show Zk (upd ob j (Ym (st.ob j))) (ZP st r) k=_
  rw [Zlf st r]
  by_cases h:k∈r
  ·simp [h]
  ·by_cases hj:k=j
   ·subst hj;simp [h,upd]
   ·simp [h,hj,upd]
theorem Zci [NW] (st:St) (ks:List Nat) (ob:Nat→Ob) (key:Nat) (o:Ob) (k:Nat):Zk ob (ZP st ks++[(key,o)]) k=if k=key then o else if k∈ks then Ym (st.ob k) else ob k:=by
 rw [YR]
 show upd (Zk ob (ZP st ks)) key o k=_
 by_cases h:k=key
 ·simp [upd,h]
 ·simp only [upd,h,if_false];exact Zlf st ks ob k
theorem ZsE {x:AV} {ct:CT} {ks:List Nat} {d:Nat} (h:avT st x=some (ct,ks,d)):∀k∈ks,∃e m xs d,st.ob k=.row e m xs d:=by
 intro k mk
 cases x with
 | c y=>cases y<;>simp only [avT,Option.some.injEq,Prod.mk.injEq] at h<;>(rw [←h.2.1] at mk;simp at mk)
 | nil e m=>
  simp only [avT] at h
  split at h<;>simp only [Option.some.injEq,Prod.mk.injEq,reduceCtorEq] at h
  rw [←h.2.1] at mk;simp at mk
 | row j=>
  simp only [avT] at h
  split at h
  ·rename_i e m xs d' hj
   split at h<;>simp only [Option.some.injEq,Prod.mk.injEq] at h
   ·rw [←h.2.1] at mk;simp at mk
   ·rw [←h.2.1] at mk;simp at mk;subst mk;exact ⟨_,_,_,_,hj⟩
  ·simp at h
 | n x=>simp [avT] at h
 | dead=>simp [avT] at h
theorem Zmp [NW]:∀{xs:List AV} {cts:List CT} {ks:List Nat} {d:Nat},Zfb st xs=some (cts,ks,d)→∀k∈ks,∃e m xs d,st.ob k=.row e m xs d
 | [],_,_,_,h,k,mk=>by simp only [Zfb,Option.some.injEq,Prod.mk.injEq] at h;rw [←h.2.1] at mk;simp at mk
 | x::r,_,_,_,h,k,mk=>by
  simp only [Zfb] at h
  obtain ⟨⟨c1,k1,d1⟩,h1,h⟩:=Option.bind_eq_some_iff.1 h
  obtain ⟨⟨c2,k2,d2⟩,h2,h⟩:=Option.map_eq_some_iff.1 h
  simp only [Prod.mk.injEq] at h
  rw [←h.2.1] at mk
  rcases List.mem_append.1 mk with mk | mk
  ·exact ZsE h1 k mk
  ·exact Zmp h2 k mk
theorem Zjg [NW] {m:Nat}:∀{xs:List SV} {es:List (List CT)} {ks:List Nat} {d:Nat},Y1 st m xs=some (es,ks,d)→∀k∈ks,∃e m xs d,st.ob k=.row e m xs d
 | [],_,_,_,h,k,mk=>by simp only [Y1,Option.some.injEq,Prod.mk.injEq] at h;rw [←h.2.1] at mk;simp at mk
 | x::r,_,_,_,h,k,mk=>by
  cases x with
  | p a cs=>
   simp only [Y1] at h
   split at h
   ·obtain ⟨⟨c1,k1,d1⟩,h1,h⟩:=Option.bind_eq_some_iff.1 h
    obtain ⟨⟨c2,k2,d2⟩,h2,h⟩:=Option.map_eq_some_iff.1 h
    simp only [Prod.mk.injEq] at h
    rw [←h.2.1] at mk
    rcases List.mem_append.1 mk with mk | mk
    ·exact Zmp h1 k mk
    ·exact Zjg h2 k mk
   ·simp at h
  | _=>simp [Y1] at h
theorem Zp7 [NW] (hI:HI W g st.ob w) (hU:StU U st) (hkey:¬U key) {e m:Nat} (hm:0<m) {xs:List (List CT)} {ks:List Nat} {d:Nat} {L:List Nat} {cs:List Value} {v:Value} (hown:w'.ownsV 0 e m v xs.length cs) (hv:v.ownBlock=some w.heap.size)
  (hb:Below w.heap.size w w') (hpl:∃cur e,w'.heap[w.heap.size]?=some (.cells cur e (0,0))) (hr:REs w m xs cs L) (hf:FP g ks d L) (hks:∀k∈ks,U k) (hrow:∀k∈ks,∃e m xs d,st.ob k=.row e m xs d) (hnd:ks.Nodup) {s:Sem Next} (hrun:s.run P w=.ok (.value v) w'):
  Fin P W U key st g w s (.p false [.row key],ZP st ks++[(key,.row e m xs d)]):=by
 have hlt:=hr.lt
 have hF:=hI.nodupF hnd
 have hDmem:∀b∈(if d=2 then L else []),b∈L∧d=2:=fun b mb=>by
  split at mb
  ·rename_i hd;exact ⟨mb,hd⟩
  ·simp at mb
 obtain ⟨h1,h2⟩:=hI.turn (key:=key) (U:=U) (w':=w') (v:=v) (O:=[w.heap.size]) (D:=if d=2 then L else []) (o:=.row e m xs d) hU.ob hkey ks hks
  (hI.below.trans hb) hb.size (fun b hb' _=>hb.block b hb') (by simp) (fun b mb=>by
   obtain ⟨m1,m2⟩:=hDmem b mb
   exact .inl (Zjp ((hf.1 m2).subset m1)))
  (by
   simp only [List.singleton_append,List.nodup_cons]
   refine ⟨fun mb=>?_,?_⟩
   ·have:=hlt _ (hDmem _ mb).1;omega
   ·split
    ·rename_i hd;exact hF.sublist (hf.1 hd)
    ·simp)
  (fun b mb=>by
   simp only [List.singleton_append,List.mem_cons] at mb
   rcases mb with rfl | mb
   ·exact ⟨.inl hI.below.size,hpl⟩
   ·obtain ⟨m1,m2⟩:=hDmem b mb
    obtain ⟨k,k1,mk⟩:=Zjp ((hf.1 m2).subset m1)
    obtain ⟨p1,p2⟩:=hI.plain k b mk
    obtain ⟨_,_,_,_,hob⟩:=hrow k k1
    rw [hob] at p2
    exact ⟨p1,p2.keep (hb.block b (hlt b m1))⟩)
  (fun _=>⟨hm,cs,L,by simpa [Gh.turn,upd] using hown,hr.keep fun b mb=>hb.block b (hlt b mb),by
   have q1:=hf.2.1
   have q2:=hf.2.2.1
   by_cases hd:d=2
   ·exact .inl ⟨hd,by simp [Gh.turn,upd,hv],by simp [Gh.turn,hd]⟩
   ·refine .inr (.inl ⟨by omega,by simp [Gh.turn,upd,hv],by simp [Gh.turn,hd],fun b mb ho=>?_⟩)
    have hb':=hlt b mb
    rcases Zel ho with mo | ⟨k,k1,_,mk⟩ | hz
    ·simp at mo;omega
    ·rcases hf.2.2.2 b mb with hn | ⟨q,q1,q2⟩
     ·exact hn (.inl ⟨k,mk⟩)
     ·exact hI.apart k q (fun e=>k1 (e ▸ q1)) b (by simp [mk]) (by simp [q2])
    ·rcases hf.2.2.2 b mb with hn | ⟨q,q1,q2⟩
     ·exact hn (.inr hz)
     ·exact hI.nz (k:=q) (by simp [q2]) hz⟩)
 have hkk:∀k∈ks,k≠key:=fun k mk e=>hkey (e ▸ hks k mk)
 have h1':HI W (g.turn ks key v [w.heap.size] (if d=2 then L else [])) (Zk st.ob (ZP st ks++[(key,.row e m xs d)])) w':=by
  refine ⟨h1.below,fun k=>?_,h1.nodup,h1.apart,fun k b mb=>?_,h1.gz,h1.zx,h1.nw⟩
  rotate_left
  ·have hp:=h1.plain k b mb
   rw [ZaE] at hp
   rw [Zci]
   by_cases hk:k=key
   ·rw [if_pos hk] at hp ⊢;exact hp
   ·rw [if_neg hk] at hp ⊢
    by_cases hm':k∈ks
    ·rw [if_pos hm'] at hp ⊢
     obtain ⟨e2,m2,xs2,d2,hob⟩:=hrow k hm'
     rw [hob]
     exact hp
    ·rw [if_neg hm'] at hp ⊢;exact hp
  have ho:=h1.obs k
  rw [ZaE] at ho
  rw [Zci]
  by_cases hk:k=key
  ·rw [if_pos hk] at ho ⊢;exact ho
  ·rw [if_neg hk] at ho ⊢
   by_cases hm':k∈ks
   ·rw [if_pos hm'] at ho ⊢
    obtain ⟨e2,m2,xs2,d2,hob⟩:=hrow k hm'
    obtain ⟨p1,cs2,L2,p2,p3,p4,p5⟩:=hI.deep hob
    rw [hob]
    have hval:(g.turn ks key v [w.heap.size] (if d=2 then L else [])).val k=g.val k:=by simp [Gh.turn,upd,hk]
    have hl2:=p3.lt
    have hl1:=ZpA p2
    refine ⟨p1,cs2,L2,by rw [hval];exact Zg5 p2 fun b mb=>hb.block b (hl1 b mb),p3.keep fun b mb=>hb.block b (hl2 b mb),.inr (.inr ⟨rfl,ho.1,ho.2,fun b mb hob'=>?_⟩)⟩
    rw [hval] at mb
    have hbl:b<w.heap.size:=by
     rcases List.mem_append.1 mb with m1 | m1
     ·exact hl1 b m1
     ·exact hl2 b m1
    rcases Zel hob' with mo | ⟨j,j1,_,mj⟩ | hz
    ·simp at mo;omega
    ·rcases List.mem_append.1 mb with m1 | m1
     ·rcases p5 with ⟨_,q1,_⟩ | ⟨_,q1,_⟩ | ⟨_,_,_,q⟩
      ·exact hI.apart j k (fun e=>j1 (e ▸ hm')) b (by simp [mj]) (by simp [q1,m1])
      ·exact hI.apart j k (fun e=>j1 (e ▸ hm')) b (by simp [mj]) (by simp [q1,m1])
      ·exact q b m1 (.inl ⟨j,mj⟩)
     ·exact p4 b m1 (.inl ⟨j,mj⟩)
    ·rcases List.mem_append.1 mb with m1 | m1
     ·rcases p5 with ⟨_,q1,_⟩ | ⟨_,q1,_⟩ | ⟨_,_,_,q⟩
      ·exact hI.nz (k:=k) (by simp [q1,m1]) hz
      ·exact hI.nz (k:=k) (by simp [q1,m1]) hz
      ·exact q b m1 (.inr hz)
     ·exact p4 b m1 (.inr hz)
   ·rw [if_neg hm'] at ho ⊢;exact ho
 have hfz:∀k,obU U (Ym (st.ob k)):=fun k=>by
  have:=hU.ob k
  cases hk:st.ob k<;>simp only [Ym]<;>first | trivial | (rw [hk] at this;exact this)
 refine ⟨_,_,_,.inl hrun,h1',⟨_,rfl,⟨by simp [Gh.turn,upd],?_⟩⟩,h2,fun y my=>by simp at my;subst my;exact Ziw,fun k=>?_,fun k hk=>?_⟩
 ·obtain ⟨A,cap,hv'⟩:=Zct hown
  simp [hv',Value.oneCell']
 ·rw [Zci]
  split
  ·trivial
  ·split
   ·exact (hfz k).mono fun _=>.inl
   ·exact (hU.ob k).mono fun _=>.inl
 ·rw [Zci,if_neg (fun e=>hk (.inr (by omega)))]
  have e:=hU.gone k fun h=>hk (.inl h)
  split
  ·rw [e];rfl
  ·exact e
end
end Go.Proofs.YtojnhepgnbhaaaaGreatDoor
namespace Go.Proofs.YtojnhepgnbhaaaaGreatDoor
open Go.RowKit
section
variable {P:Program} {W:Q8} {U:Nat→Prop} {key:Nat} {st:St} {g:Gh} {w w':World} {a:Act} {tt:Nat→Option TI}
theorem Zxd [NW] (htt:∀t i,tt t=some i→TOk P t i) (hI:HI W g st.ob w) (hS:∀t,SVR g w (st.sl t) (a.tmps.getD t undef)) (hU:StU U st) (hkey:¬U key) {t len e m bytes:Nat} {z:List AV} (hti:tt t=some (.slice e m bytes z)) {parts:Array (Nat × Operand)} {xs:List (List CT)} {ks:List Nat} {d:Nat}
  (h:Y1 st m (parts.toList.map fun p=>st.ev tt e p.2)=some (xs,ks,d)) (hr:parts.toList.map (·.1)=List.range len) (hl:len * m≤16777216) (hnd:ks.Nodup) {s:Sem Next} (hs:s=(do pure (.value (←Instr.buildSlice t len (parts.map fun (i,x)=>(i,a.eval x)))))):
  Fin P W U key st g w s (.p false [.row key],ZP st ks++[(key,.row e m xs d)]):=by
 obtain ⟨hu,hm,_,⟨ie,zv,hie,hsz,hby,hz,hzc,hzl⟩,_⟩:=htt t _ hti
 have hall:ZH (fun s v=>SVR g w s v∧svU U s) (parts.toList.map fun p=>st.ev tt e p.2) (parts.toList.map fun p=>a.eval p.2):=ZH.of_map _ _ fun p _=>Zjj htt hS hU e p.2
 obtain ⟨cs,L,c1,c2,c3,c4⟩:=Zoj hI h hall
 have hlen:parts.toList.length=len:=by have:=congrArg List.length hr;simpa using this
 have hcl:cs.length=len:=by rw [c1.len];simpa using hlen
 have hxl:xs.length=len:=by
  have h1:=c2.len
  have h2:cs.flatten.length=len * m:=by
   have:∀(cs:List (List Value)) (vs:List Value),ZH (fun (c:List Value) (v:Value)=>v.cells=c.toArray∧c.length=m∧∀u∈c,u.oneCell'=true) cs vs→cs.flatten.length=cs.length * m:=by
    intro cs
    induction cs with
    | nil=>intro _ _;simp
    | cons c cs ih=>
     intro vs hh
     cases vs with
     | nil=>exact hh.elim
     | cons v vs=>simp [ih vs hh.2,hh.1.2.1,Nat.add_mul];omega
   rw [this cs _ c1,hcl]
  rw [h2] at h1
  exact (Nat.eq_of_mul_eq_mul_right hm h1).symm
 have hparts:(parts.map fun x=>match x with | (i,x)=>(i,a.eval x)).toList=(List.range' 0 (parts.toList.map fun p=>a.eval p.2).length).zip (parts.toList.map fun p=>a.eval p.2):=by
  have e1:(parts.map fun x=>match x with | (i,x)=>(i,a.eval x)).toList=(parts.toList.map (·.1)).zip (parts.toList.map fun p=>a.eval p.2):=by
   rw [List.zip_map'];simp
  rw [e1,hr,List.range_eq_range']
  simp [hlen]
 have hrun:(Instr.buildSlice t len (parts.map fun (i,x)=>(i,a.eval x))).run P w=.ok (.slice (some ⟨w.heap.size,0,none⟩) len len) (w.alloc (.cells cs.flatten.toArray e)):=by
  have hcells:∀base:List Value,base.length=len * m→Instr.fill (fun i=>some (i * m,m)) base.toArray (parts.map fun x=>match x with | (i,x)=>(i,a.eval x)).toList=some cs.flatten.toArray:=fun base hb=>by
   rw [hparts]
   have:=Zo2 cs (parts.toList.map fun p=>a.eval p.2) 0 [] base c1 (by simp) (by simpa [hlen] using hb)
   simpa using this
  by_cases h0:len=0
  ·subst h0
   have hcs0:cs=[]:=List.eq_nil_of_length_eq_zero hcl
   subst hcs0
   have hp0:parts=#[]:=by
    have:parts.toList=[]:=List.eq_nil_of_length_eq_zero hlen
    simpa using this
   subst hp0
   simp [Instr.buildSlice,Yw hu,XH hie,Instr.fill,newRow,Array.range_zero']
  ·have hpos:¬len * ie.size=0:=by
    rw [hsz];intro e;rcases Nat.mul_eq_zero.1 e with e | e<;>omega
   refine run_buildSlice w t e len _ _ ie zv hu hie hz (by rw [hsz];omega) hpos ?_
   rw [hsz]
   have hb:=hcells ((Array.range (len * m)).map (zv.cells[· % zv.cells.size]!)).toList (by simp)
   rw [Array.toArray_toList] at hb
   exact hb
 have hown:=Zfj <| World.ownsRow_lit (base:=0) (e:=e) (size:=m) w cs.flatten.toArray len (Nat.zero_le _) (by unfold maxLen;have:=Nat.le_mul_of_pos_right len hm;omega) (by
  have h1:=c2.len
  rw [hxl] at h1
  simpa using h1)
 refine Zp7 hI hU hkey hm (v:=.slice (some ⟨w.heap.size,0,none⟩) len len) (cs:=cs.flatten) (w':=w.alloc (.cells cs.flatten.toArray e)) (by rw [hxl];simpa using hown) rfl ((Below.refl _ _).alloc (Nat.le_refl _) _) ⟨_,_,heap_alloc_new w _⟩ c2 c3 c4 (Zjg h) hnd ?_
 subst hs
 simp only [Sem.run_bind,hrun,Result.andThen_ok,Sem.run_pure]
theorem ZgB {m:Nat} {ze:List CT} {zc:List Value} (h:RCs w ze zc []) (hl:zc.length=m):∀n:Nat,REs w m (List.replicate n ze) (List.replicate n zc).flatten []
 | 0=>by simp [REs]
 | n+1=>by
  rw [List.replicate_succ,List.replicate_succ,List.flatten_cons]
  exact ⟨zc,_,[],[],rfl,rfl,⟨h,hl⟩,ZgB h hl n⟩
theorem Zna [NW]:∀{z:List AV} {zs:List Value} {ze:List CT},ZjO z=some ze→ZH (fun a v=>Q7 a v=true) z zs→RCs w ze zs []
 | [],[],ze,h,_=>by simp [ZjO] at h;subst h;exact ⟨rfl,rfl⟩
 | [],_::_,_,_,h=>h.elim
 | _::_,[],_,_,h=>h.elim
 | .c x::z,v::zs,ze,h,hr=>by
  simp only [ZjO] at h
  obtain ⟨b,h1,rfl⟩:=Option.map_eq_some_iff.1 h
  have hx:=Zex (g:=⟨fun _=>undef,fun _=>[],fun _=>[],fun _=>False⟩) (w:=w) hr.1
  obtain ⟨L,hL,_⟩:=hx
  have hL0:L=[]:=by
   have:=hr.1
   cases x with
   | int k n=>exact hL.2
   | bool b=>exact hL.2
   | str s=>exact hL.2.1
   | _=>simp [Q7] at this
  subst hL0
  exact ⟨v,zs,[],[],rfl,rfl,hL,Zna h1 hr.2⟩
 | .nil e m::z,v::zs,ze,h,hr=>by
  simp only [ZjO] at h
  split at h
  ·rename_i hm
   obtain ⟨b,h1,rfl⟩:=Option.map_eq_some_iff.1 h
   have hv:v=.slice none 0 0:=Zex (g:=⟨fun _=>undef,fun _=>[],fun _=>[],fun _=>False⟩) (w:=w) hr.1
   subst hv
   exact ⟨_,zs,[],[],rfl,rfl,⟨none,0,[],[],[],rfl,by simp,Nat.zero_le _,rfl,hm,Sl.zero,rfl,rfl⟩,Zna h1 hr.2⟩
  ·simp at h
 | .row k::z,v::zs,ze,h,_=>by simp [ZjO] at h
 | .n x::z,v::zs,ze,h,_=>by simp [ZjO] at h
 | .dead::z,v::zs,ze,h,_=>by simp [ZjO] at h
theorem ZmM (z:Array Value) (m:Nat) (hz:z.size=m) (hm:0<m):∀n:Nat,(madeCells z (n * m)).toList=(List.replicate n z.toList).flatten
 | 0=>by simp [madeCells]
 | n+1=>by
  have ih:=ZmM z m hz hm n
  rw [List.replicate_succ',List.flatten_append,←ih]
  simp only [madeCells,Array.toList_map,Array.toList_range,Nat.add_mul,Nat.one_mul,List.range_add,List.map_append,List.map_map,List.flatten_cons,List.flatten_nil,List.append_nil]
  congr 1
  apply List.ext_getElem?
  intro j
  by_cases hj:j<m
  ·simp only [List.getElem?_map,List.getElem?_range hj,Option.map_some,Function.comp]
   have e:(n * m+j) % z.size=j:=by
    rw [hz,Nat.add_comm,Nat.add_mul_mod_self_right,Nat.mod_eq_of_lt hj]
   have hjz:j<z.size:=by omega
   simp [e,hjz]
  ·have h1:z.size≤j:=by omega
   simp [hj,h1]
theorem ZtE [NW] (htt:∀t i,tt t=some i→TOk P t i) (hI:HI W g st.ob w) (hU:StU U st) (hkey:¬U key) {t e m bytes:Nat} {z:List AV} (hti:tt t=some (.slice e m bytes z)) {n:Nat} {ze:List CT} (hz:ZjO z=some ze) (hn:n≤1073741824) {s:Sem Next}
  (hs:s=(do pure (.value (←Instr.makeSlice t (.int .i64 n) (.int .i64 n))))):Fin P W U key st g w s (.p false [.row key],[(key,.row e m (List.replicate n ze) 2)]):=by
 obtain ⟨hu,hm,hby0,⟨ie,zv,hie,hsz,hby,hzz,hzc,hzl⟩,_⟩:=htt t _ hti
 have hb':ie.bytes * n≤281474976710656:=by
  have:=Nat.mul_le_mul (show ie.bytes≤131072 by omega) hn
  omega
 obtain ⟨w',r1,r2,r3⟩:=run_make_full (P:=P) w 0 t e ie zv m hu hie hzz hsz .i64 .i64 n hb' (by unfold maxLen;omega) (Nat.zero_le _)
 have hzs:zv.cells.size=m:=by rw [←hzl,hzc.len];simp
 rw [ZmM zv.cells m hzs hm n] at r2
 have hre:=ZgB (Zna (w:=w) hz hzc) (by simpa using hzs) n
 have hb:Below w.heap.size w w':=(Below.refl _ _).grown r3 (Nat.le_refl _) (by simp)
 have hpl:∃cur e,w'.heap[w.heap.size]?=some (.cells cur e (0,0)):=by
  rcases r2.2 with ⟨h',_⟩ | ⟨g',cap',cur,h',_,hg,_⟩
  ·simp at h'
  ·simp at h'
   rw [←h'.1] at hg
   exact ⟨cur,e,hg⟩
 have:=ZrJ (ks:=[]) (d:=2) hI hU hkey hm (xs:=List.replicate n ze) (by simpa using Zfj r2) rfl hb hpl hre FP.nil (by simp) (by simp) (by simp) (s:=s) (P:=P) (by subst hs;simp only [Sem.run_bind,r1,Result.andThen_ok,Sem.run_pure])
 simpa [Zam] using this
theorem Zox [NW] {t e:TypeId} {ty:TypeId} {ie:TypeInfo} (hu:P.underlying t=some (.slice e)) (hie:P.info? e=some ie) (A B:Option Addr) (n c c':Nat) (hnc:n≤c):
  (Builtin.append_ #[t,t] ty #[.slice A n c,.slice B 0 c']).run P w=.ok (.slice A n c) w:=by
 cases A<;>cases B<;>simp [Builtin.append_,Yw hu,XH hie,Builtin.lenOf,Builtin.firstCells,loadCells,loadCellsFrom,storeCells,hnc]
theorem Zod:∀{e:List CT} {cs:List Value} {L:List Nat},RCs w e cs L→e.all CT.flat=true→L=[]
 | [],_,_,h,_=>h.2
 | x::r,_,_,⟨v,cs',L1,L2,rfl,rfl,h1,h2⟩,hf=>by
  simp only [List.all_cons,Bool.and_eq_true] at hf
  have e1:L1=[]:=by
   cases x with
   | int k n=>exact h1.2
   | bool b=>exact h1.2
   | str s=>exact h1.2.1
   | _=>simp [CT.flat] at hf
  rw [e1,Zod h2 hf.2];rfl
theorem ZhX [NW] {m:Nat}:∀{xs:List (List CT)} {cs:List Value} {L:List Nat},REs w m xs cs L→Zaz xs=true→L=[]
 | [],_,_,h,_=>h.2
 | x::r,_,_,⟨c1,c2,L1,L2,rfl,rfl,h1,h2⟩,hf=>by
  simp only [Zaz,List.all_cons,Bool.and_eq_true] at hf
  rw [Zod h1.1 hf.1,ZhX h2 hf.2];rfl
theorem REs.append {m:Nat}:∀{xs ys:List (List CT)} {us vs:List Value} {L M:List Nat},REs w m xs us L→REs w m ys vs M→REs w m (xs++ys) (us++vs) (L++M)
 | [],_,_,_,_,_,h,h'=>by obtain ⟨rfl,rfl⟩:=h;simpa using h'
 | _::_,_,_,_,_,_,⟨c1,c2,L1,L2,rfl,rfl,h3,h4⟩,h'=>⟨c1,c2++_,L1,L2++_,by simp,by simp,h3,h4.append h'⟩
theorem REs.one {m:Nat}:∀{xs:List (List CT)} {cs:List Value} {L:List Nat},REs w m xs cs L→∀u∈cs,u.oneCell'=true
 | [],_,_,h=>by simp [h.1]
 | _::_,_,_,⟨c1,c2,L1,L2,rfl,rfl,h3,h4⟩=>fun u mu=>by
  rcases List.mem_append.1 mu with mu | mu
  ·exact h3.1.one u mu
  ·exact h4.one u mu
theorem Zsy {a b:Nat} (h:ZeK a b=2) (ha:a≤2) (hb:b≤2):a=2∧b=2:=by unfold ZeK at h;split at h<;>omega
theorem ZmL {fl:Bool} {xs:List (List CT)} (h:ZhV fl xs=2):Zaz xs=true:=by unfold ZhV at h;split at h<;>simp_all
theorem Zo4 (fl:Bool) (xs:List (List CT)):ZhV fl xs≤2:=by unfold ZhV;split<;>omega
theorem Zm2 (fl:Bool) (xs:List (List CT)):0<ZhV fl xs:=by unfold ZhV;split<;>omega
theorem HI.plainD [NW] {ob:Nat→Ob} (h:HI W g ob w) {k b:Nat} (m:b∈g.D k):(W.heap.size≤b∨W.x b)∧∃cur e,w.heap[b]?=some (.cells cur e (0,0)):=by
 have h1:=h.plain k b (by simp [m])
 have h2:=h.obs k
 cases hk:ob k with
 | map kk vk kv=>
  rw [hk] at h2
  obtain ⟨_,_,_,_,_,h3,_⟩:=h2
  rw [h3] at m;simp at m
 | _=>rw [hk] at h1;exact h1
theorem Zwv [NW] (hI:HI W g st.ob w) {x:SV} {v:Value} {e m:Nat} {xs:List (List CT)} {ks:List Nat} {d:Nat} (h:Zne st x=some (xs,ks,d)) (hok:ZqQ st e m x=true) (hx:SVR g w x v) (hu:svU U x):
  ∃cs L,w.ownsV 0 e m v xs.length cs∧REs w m xs cs L∧(∀b∈L,¬g.own b)∧(d=2→L=ks.flatMap g.D)∧v.ownBlock.toList=ks.flatMap g.O∧(∀k∈ks,U k)∧d≤2∧0<d:=by
 unfold Zne at h
 split at h
 ·simp only [Option.some.injEq,Prod.mk.injEq] at h
  obtain ⟨rfl,rfl,rfl⟩:=h
  have:=Zqi hx
  subst this
  exact ⟨[],[],ZiI _ _ _ _,⟨rfl,rfl⟩,by simp,by simp,by simp [Value.ownBlock],by simp,by simp,by simp⟩
 ·rename_i k
  split at h
  ·rename_i e' m' xs' d' hk
   split at h
   ·simp at h
   rename_i hd0
   simp only [Option.some.injEq,Prod.mk.injEq] at h
   obtain ⟨rfl,rfl,rfl⟩:=h
   simp only [ZqQ,hk,Bool.and_eq_true,beq_iff_eq] at hok
   obtain ⟨rfl,rfl⟩:=hok
   have:=ZeY hx
   subst this
   obtain ⟨hm,cs,L,o1,o2,o3,o4,o5⟩:=hI.deepO hk hd0
   refine ⟨cs,L,o1,o2,o3,fun hd=>?_,by simp [o4],fun q mq=>by simp at mq;subst mq;exact hu (.row q) (by simp),?_,by omega⟩
   ·rcases o5 with ⟨_,o5⟩ | ⟨o5,_⟩
    ·simp [o5]
    ·omega
   ·rcases o5 with ⟨o5,_⟩ | ⟨o5,_⟩<;>omega
  ·simp at h
 ·simp at h
theorem ZxI [NW] (hI:HI W g st.ob w) {x:SV} {v:Value} {m:Nat} {xs:List (List CT)} {ks:List Nat} {d:Nat} {fl:Bool} (h:ZnG st fl x=some (xs,ks,d)) (hok:Zpm st m x=true) (hx:SVR g w x v) (hu:svU U x):
  ∃A c cs L,v=.slice A xs.length c∧REs w m xs cs L∧(0<xs.length→∃b off,A=some ⟨b,off,none⟩∧XX w b off cs)∧(∀b∈L,¬g.own b)∧(d=2→L.Sublist (ks.flatMap g.D))∧(∀k∈ks,U k)∧d≤2∧0<d:=by
 unfold ZnG at h
 split at h
 ·simp only [Option.some.injEq,Prod.mk.injEq] at h
  obtain ⟨rfl,rfl,rfl⟩:=h
  simp only [Zpm,beq_iff_eq] at hok
  subst hok
  obtain ⟨A,cap,cs,L0,L1,rfl,h2,h3,h5,h6,h7,ho⟩:=Zfz hx
  refine ⟨A,cap,cs,L1,rfl,h7,fun hp=>?_,fun b mb=>ho b (by simp [mb]),fun hd=>by rw [ZhX h7 (ZmL hd)];simp,by simp,Zo4 _ _,Zm2 _ _⟩
  obtain ⟨b,off,h8,_,h9⟩:=h6.at_ hp
  exact ⟨b,off,h8,h9⟩
 ·simp only [Option.some.injEq,Prod.mk.injEq] at h
  obtain ⟨rfl,rfl,rfl⟩:=h
  have:=Zqi hx
  subst this
  exact ⟨none,0,[],[],rfl,⟨rfl,rfl⟩,by simp,by simp,by simp,by simp,by simp,by simp⟩
 ·rename_i k
  split at h
  ·rename_i e' m' xs' d' hk
   simp only [Zpm,hk,beq_iff_eq] at hok
   subst hok
   have:=ZeY hx
   subst this
   obtain ⟨hm,cs,L,o1,o2,o3,o5⟩:=hI.deep hk
   obtain ⟨A,cap,L0,s1,s2,s3,s4,s5⟩:=Sl.row o1
   have hat:0<xs'.length→∃b off,A=some ⟨b,off,none⟩∧XX w b off cs:=fun hp=>by
    obtain ⟨b,off,h8,_,h9⟩:=s4.at_ hp
    exact ⟨b,off,h8,h9⟩
   split at h
   ·simp only [Option.some.injEq,Prod.mk.injEq] at h
    obtain ⟨rfl,rfl,rfl⟩:=h
    exact ⟨A,cap,cs,L,s1,o2,hat,o3,fun hd=>by rw [ZhX o2 (ZmL hd)];simp,by simp,Zo4 _ _,Zm2 _ _⟩
   ·rename_i hd0
    simp only [Option.some.injEq,Prod.mk.injEq] at h
    obtain ⟨rfl,rfl,rfl⟩:=h
    refine ⟨A,cap,cs,L,s1,o2,hat,o3,fun hd=>?_,fun q mq=>by simp at mq;subst mq;exact hu (.row q) (by simp),?_,by omega⟩
    ·rcases o5 with ⟨_,_,o5⟩ | ⟨o5,_⟩ | ⟨o5,_⟩
     ·simp [o5]
     ·omega
     ·omega
    ·rcases o5 with ⟨o5,_⟩ | ⟨o5,_⟩ | ⟨o5,_⟩<;>omega
  ·simp at h
 ·simp at h
theorem HI.nodupD [NW] {ob:Nat→Ob} (hI:HI W g ob w):∀{ks:List Nat},ks.Nodup→(ks.flatMap g.D).Nodup
 | [],_=>by simp
 | k::ks,h=>by
  simp only [List.flatMap_cons,List.nodup_append]
  rw [List.nodup_cons] at h
  refine ⟨(List.nodup_append.1 (hI.nodup k)).2.1,hI.nodupD h.2,fun x hx y hy e=>?_⟩
  subst e
  obtain ⟨j,hj,hy⟩:=List.mem_flatMap.1 hy
  exact hI.apart k j (fun e=>h.1 (e ▸ hj)) x (by simp [hx]) (by simp [hy])
theorem ZxN [NW] (htt:∀t i,tt t=some i→TOk P t i) (hI:HI W g st.ob w) (hU:StU U st) (hkey:¬U key) {t:Nat} {s x:SV} {vs vx:Value} {r:SV × List (Nat × Ob)} (h:ZtI st key (tt t) s x=some r) (hs:SVR g w s vs∧svU U s) (hx:SVR g w x vx∧svU U x) {ty:TypeId} {q:Sem Next}
  (hq:q=(do pure (.value (←Builtin.append_ #[t,t] ty #[vs,vx])))):Fin P W U key st g w q r:=by
 unfold ZtI at h
 split at h
 ·rename_i e m bytes z hti
  obtain ⟨⟨xs,k1,d1⟩,h1,h⟩:=Option.bind_eq_some_iff.1 h
  obtain ⟨⟨ys,k2,d2⟩,h2,h⟩:=Option.bind_eq_some_iff.1 h
  split at h
  ·rename_i hc
   simp only [Option.some.injEq] at h
   subst h
   obtain ⟨hc1,hc2,hc3,hc4⟩:=hc
   simp only at hc3 hc4
   obtain ⟨hu,hm,hby0,⟨ie,zv,hie,hsz,hby,hzz,hzc,hzl⟩,_⟩:=htt t _ hti
   obtain ⟨cs,Lx,a1,a2,a3,a4,a5,a6,a7,a8⟩:=Zwv hI h1 hc1 hs.1 hs.2
   obtain ⟨A,c,news,Ly,b0,b1,b2,b3,b4,b5,b7,b8⟩:=ZxI hI h2 hc2 hx.1 hx.2
   subst b0
   obtain ⟨A1,cap1,hv1,hv2,hv3⟩:=Zar a1
   have hnl:news.length=ys.length * m:=b1.len
   obtain ⟨v',w',r1,r2,r3,r4⟩:∃v' w',(Builtin.append_ #[t,t] ty #[vs,.slice A ys.length c]).run P w=.ok v' w'∧w'.ownsV 0 e m v' (xs.length+ys.length) (cs++news)∧w.grownBy w' vs.ownBlock∧(v'.ownBlock=vs.ownBlock∨v'.ownBlock=some w.heap.size):=by
    by_cases hy:ys.length=0
    ·have hn0:news=[]:=List.eq_nil_of_length_eq_zero (by rw [hnl,hy];simp)
     refine ⟨vs,w,?_,by rw [hn0,hy,List.append_nil];exact a1,World.grownBy.refl _ _,.inl rfl⟩
     rw [hv1,hy]
     exact Zox hu hie A1 A _ _ _ hv2
    ·obtain ⟨b,off,rfl,hcell⟩:=b2 (by omega)
     have hbytes:(xs.length+ys.length) * bytes≤140737488355328:=by
      have:=Nat.mul_le_mul hc4 hby0
      omega
     obtain ⟨v',w',q1,q2,q3,q5⟩:=ZjH (P:=P) w 0 t ty e ie zv m bytes hu hie hzz hsz hby (by rw [←hzl,hzc.len];simp) hm vs xs.length cs a1 ⟨b,off,none⟩ ys.length c news hnl
      (fun j u hj=>by rw [ZcL];exact hcell j u hj) b1.one (by unfold maxLen;omega) hbytes (Nat.zero_le _)
     exact ⟨v',w',q1,q2,q3,q5⟩
   have hnot:∀b,¬g.own b→some b≠vs.ownBlock:=fun b hn e=>hn (by
    have:b∈vs.ownBlock.toList:=by simp [←e]
    rw [a5] at this
    obtain ⟨k,_,mk⟩:=List.mem_flatMap.1 this
    exact .inl ⟨k,mk⟩)
   have hkeepL:∀b∈Lx++Ly,w'.heap[b]?=w.heap[b]?:=fun b mb=>by
    rcases List.mem_append.1 mb with mb | mb
    ·exact r3.block b (a2.lt b mb) (hnot b (a3 b mb))
    ·exact r3.block b (b1.lt b mb) (hnot b (b3 b mb))
   have hREs:REs w' m (xs++ys) (cs++news) (Lx++Ly):=(a2.keep fun b mb=>hkeepL b (by simp [mb])).append (b1.keep fun b mb=>hkeepL b (by simp [mb]))
   have hOwn:∀b∈v'.ownBlock.toList,b∈k1.flatMap g.O∨b=w.heap.size:=fun b mb=>by
    rcases r4 with r4 | r4
    ·rw [r4,a5] at mb;exact .inl mb
    ·rw [r4] at mb;simp at mb;exact .inr mb
   have hDsub:(ZeK d1 d2)=2→(Lx++Ly).Sublist ((k1++k2).flatMap g.D):=fun hd=>by
    have hd:=Zsy hd a7 b7
    rw [List.flatMap_append]
    exact List.Sublist.append (by rw [a4 hd.1];exact List.Sublist.refl _) (b4 hd.2)
   have hDm:∀b∈(if (ZeK d1 d2)=2 then Lx++Ly else []),b∈Lx++Ly∧(ZeK d1 d2)=2:=fun b mb=>by
    split at mb
    ·rename_i hd;exact ⟨mb,hd⟩
    ·simp at mb
   have hbel:Bel W w':=by
    refine ⟨r3.os.trans hI.below.os,r3.tape.trans hI.below.tape,r3.output.trans hI.below.output,Nat.le_trans hI.below.size r3.size,fun b hb hx'=>?_⟩
    rw [r3.block b (Nat.lt_of_lt_of_le hb hI.below.size) fun e=>?_]
    ·exact hI.below.block b hb hx'
    ·have:b∈vs.ownBlock.toList:=by simp [←e]
     rw [a5] at this
     obtain ⟨k,_,mk⟩:=List.mem_flatMap.1 this
     rcases (hI.plain k b (by simp [mk])).1 with h | h
     ·omega
     ·exact hx' h
   obtain ⟨t1,t2⟩:=hI.turn (key:=key) (U:=U) (w':=w') (v:=v') (O:=v'.ownBlock.toList) (D:=if (ZeK d1 d2)=2 then Lx++Ly else []) (o:=.row e m (xs++ys) (ZeK d1 d2)) hU.ob hkey (k1++k2)
    (fun k mk=>(List.mem_append.1 mk).elim (a6 k) (b5 k)) hbel r3.size (fun b hb hn=>r3.block b hb fun e=>by
     have:b∈vs.ownBlock.toList:=by simp [←e]
     rw [a5] at this
     obtain ⟨k,hk,mk⟩:=List.mem_flatMap.1 this
     exact hn k (by simp [hk]) mk)
    (fun b mb=>by
     rcases hOwn b mb with mb | rfl
     ·obtain ⟨k,hk,mk⟩:=List.mem_flatMap.1 mb
      exact .inl ⟨k,by simp [hk],mk⟩
     ·exact .inr (Nat.le_refl _))
    (fun b mb=>by
     obtain ⟨m1,m2⟩:=hDm b mb
     obtain ⟨k,hk,mk⟩:=List.mem_flatMap.1 ((hDsub m2).subset m1)
     exact .inl ⟨k,hk,by simp [mk]⟩)
    (by
     rw [List.nodup_append]
     refine ⟨by cases v'.ownBlock<;>simp,?_,fun b mb b' mb' e=>?_⟩
     ·split
      ·rename_i hd;exact (hI.nodupD hc3).sublist (hDsub hd)
      ·simp
     ·subst e
      obtain ⟨m1,m2⟩:=hDm b mb'
      rcases hOwn b mb with mb | rfl
      ·obtain ⟨k,_,mk⟩:=List.mem_flatMap.1 mb
       rcases List.mem_append.1 m1 with m1 | m1
       ·exact a3 b m1 (.inl ⟨k,mk⟩)
       ·exact b3 b m1 (.inl ⟨k,mk⟩)
      ·rcases List.mem_append.1 m1 with m1 | m1
       ·have:=a2.lt _ m1;omega
       ·have:=b1.lt _ m1;omega)
    (fun b mb=>by
     rcases List.mem_append.1 mb with mb | mb
     ·have hpl:W.heap.size≤b∨W.x b:=by
       rcases hOwn b mb with mb | rfl
       ·obtain ⟨k,_,mk⟩:=List.mem_flatMap.1 mb
        exact (hI.plain k b (by simp [mk])).1
       ·exact .inl hI.below.size
      rcases r2.2 with ⟨h',_⟩ | ⟨g',o',cap',cur,h',hg0,hg,_⟩
      ·simp [h',Value.ownBlock] at mb
      ·simp [h',Value.ownBlock] at mb
       subst mb
       exact ⟨hpl,cur,e,hg⟩
     ·obtain ⟨m1,m2⟩:=hDm b mb
      obtain ⟨k,hk,mk⟩:=List.mem_flatMap.1 ((hDsub m2).subset m1)
      obtain ⟨p1,cur,e',p2⟩:=hI.plainD mk
      exact ⟨p1,cur,e',by rw [hkeepL b m1];exact p2⟩)
    (fun hown=>⟨hm,cs++news,Lx++Ly,by simpa [Gh.turn,upd] using r2,hREs,by
     by_cases hd:ZeK d1 d2=2
     ·exact .inl ⟨hd,by simp [Gh.turn,upd],by simp [Gh.turn,hd]⟩
     ·have hd1:ZeK d1 d2=1:=by unfold ZeK at hd ⊢;split<;>simp_all<;>omega
      refine .inr (.inl ⟨hd1,by simp [Gh.turn,upd],by simp [Gh.turn,hd],fun b mb ho=>?_⟩)
      have hnb:¬g.own b:=by
       rcases List.mem_append.1 mb with m1 | m1
       ·exact a3 b m1
       ·exact b3 b m1
      rcases Zel ho with mo | ⟨k,_,_,mk⟩ | hz
      ·rcases hOwn b mo with mo | rfl
       ·obtain ⟨k,_,mk⟩:=List.mem_flatMap.1 mo
        exact hnb (.inl ⟨k,mk⟩)
       ·rcases List.mem_append.1 mb with m1 | m1
        ·have:=a2.lt _ m1;omega
        ·have:=b1.lt _ m1;omega
      ·exact hnb (.inl ⟨k,mk⟩)
      ·exact hnb (.inr hz)⟩)
   have hwf:=Zhr (key:=key) (o:=.row e m (xs++ys) (ZeK d1 d2)) hU (k1++k2) trivial
   refine ⟨_,v',w',.inl (by subst hq;simp only [Sem.run_bind,r1,Result.andThen_ok,Sem.run_pure]),t1,⟨_,rfl,⟨by simp [Gh.turn,upd],?_⟩⟩,t2,fun y my=>by simp at my;subst my;exact Ziw,hwf.1,hwf.2⟩
   obtain ⟨A2,cap2,hv'⟩:=Zct r2
   simp [hv',Value.oneCell']
  ·simp at h
 ·simp at h
end
end Go.Proofs.YtojnhepgnbhaaaaGreatDoor
namespace Go.Proofs.YtojnhepgnbhaaaaGreatDoor
open Go.RowKit
section
variable {P:Program} {W:Q8} {U:Nat→Prop} {key:Nat} {st:St} {g:Gh} {w w':World} {a:Act} {tt:Nat→Option TI}
theorem RCs.dropS:∀{x:List CT} {c:List Value} {L:List Nat} (n:Nat),RCs w x c L→∃L',RCs w (x.drop n) (c.drop n) L'∧L'.Sublist L
 | x,c,L,0,h=>⟨L,by simpa using h,List.Sublist.refl _⟩
 | [],c,L,n+1,h=>⟨[],by obtain ⟨rfl,rfl⟩:=h;simp [RCs],List.nil_sublist _⟩
 | x::r,_,_,n+1,⟨v,cs',L1,L2,rfl,rfl,h1,h2⟩=>by
  obtain ⟨L',a1,a2⟩:=RCs.dropS n h2
  exact ⟨L',by simpa using a1,a2.trans (List.sublist_append_right L1 L2)⟩
theorem RCs.spliceS [NW] {x:List CT} {c:List Value} {L:List Nat} {ys:List CT} {us:List Value} (h:RCs w x c L) (h':RCs w ys us []):∀(off:Nat),∃L',RCs w (splice x off ys) (splice c off us) L'∧L'.Sublist L:=by
 have hl:us.length=ys.length:=h'.len
 intro off
 induction off generalizing x c L with
 | zero=>
  obtain ⟨L',a1,a2⟩:=h.dropS (0+ys.length)
  refine ⟨[]++L',?_,a2⟩
  simp only [splice,List.take_zero,List.nil_append,hl]
  exact h'.append a1
 | succ off ih=>
  cases x with
  | nil=>
   obtain ⟨rfl,rfl⟩:=h
   refine ⟨[],?_,List.nil_sublist _⟩
   simpa [splice] using h'
  | cons x r=>
   obtain ⟨v,cs',L1,L2,rfl,rfl,h1,h2⟩:=h
   obtain ⟨L',a1,a2⟩:=ih h2
   refine ⟨L1++L',?_,List.Sublist.append (List.Sublist.refl _) a2⟩
   have e1:splice (x::r) (off+1) ys=x::splice r off ys:=by
    simp only [splice,List.take_succ_cons,List.cons_append]
    rw [show off+1+ys.length=(off+ys.length)+1 by omega,List.drop_succ_cons]
   have e2:splice (v::cs') (off+1) us=v::splice cs' off us:=by
    simp only [splice,List.take_succ_cons,List.cons_append]
    rw [show off+1+us.length=(off+us.length)+1 by omega,List.drop_succ_cons]
   rw [e1,e2]
   exact ⟨v,_,L1,L',rfl,rfl,h1,a1⟩
theorem ZiL {α:Type} (c1 c2:List α) (off:Nat) (us:List α):splice (c1++c2) (c1.length+off) us=c1++splice c2 off us:=by
 simp only [splice]
 rw [List.take_length_add_append,Nat.add_assoc,List.drop_append,List.drop_of_length_le (Nat.le_add_right _ _),Nat.add_sub_cancel_left]
 simp
theorem Ze5 {α:Type} (c1 c2:List α) (off:Nat) (us:List α) (h:off+us.length≤c1.length):splice (c1++c2) off us=splice c1 off us++c2:=by
 simp only [splice]
 rw [List.take_append_of_le_length (by omega),List.drop_append_of_le_length h]
 simp
theorem REs.set [NW] {m:Nat} {ys:List CT} {us:List Value} (h':RCs w ys us []):∀{xs:List (List CT)} {cs:List Value} {L:List Nat} {i off:Nat} {x:List CT},REs w m xs cs L→xs[i]?=some x→off+us.length≤m→
  ∃L',REs w m (xs.set i (splice x off ys)) (splice cs (i * m+off) us) L'∧L'.Sublist L
 | [],_,_,_,_,_,_,hx,_=>by simp at hx
 | e::r,_,_,0,off,x,⟨c1,c2,L1,L2,rfl,rfl,h3,h4⟩,hx,ho=>by
  simp at hx;subst hx
  obtain ⟨L',a1,a2⟩:=h3.1.spliceS h' off
  refine ⟨L'++L2,?_,List.Sublist.append a2 (List.Sublist.refl _)⟩
  rw [Nat.zero_mul,Nat.zero_add,Ze5 _ _ _ _ (by rw [h3.2];exact ho)]
  exact ⟨splice c1 off us,c2,L',L2,rfl,rfl,⟨a1,by rw [ZeW _ _ _ (by rw [h3.2];exact ho)];exact h3.2⟩,h4⟩
 | e::r,_,_,i+1,off,x,⟨c1,c2,L1,L2,rfl,rfl,h3,h4⟩,hx,ho=>by
  obtain ⟨L',a1,a2⟩:=REs.set h' h4 (i:=i) (off:=off) (x:=x) (by simpa using hx) ho
  refine ⟨L1++L',?_,List.Sublist.append (List.Sublist.refl _) a2⟩
  have e:(i+1) * m+off=c1.length+(i * m+off):=by rw [h3.2,Nat.add_mul];omega
  rw [e,ZiL]
  exact ⟨c1,_,L1,L',rfl,rfl,h3,a1⟩
theorem Zme [NW]:∀{vs:List AV} {ys:List CT} {us:List Value},Zg7 vs=some ys→ZH (AVR g w) vs us→RCs w ys us []
 | [],_,[],h,_=>by simp [Zg7] at h;subst h;exact ⟨rfl,rfl⟩
 | [],_,_::_,_,h=>h.elim
 | _::_,_,[],_,h=>h.elim
 | x::vs,ys,u::us,h,hr=>by
  simp only [Zg7] at h
  obtain ⟨y,h1,h⟩:=Option.bind_eq_some_iff.1 h
  obtain ⟨b,h2,rfl⟩:=Option.map_eq_some_iff.1 h
  have hx:x=.c y∧y.flat=true:=by
   cases x with
   | c z=>cases z<;>simp [Zqx] at h1<;>subst h1<;>exact ⟨rfl,rfl⟩
   | _=>simp [Zqx] at h1
  obtain ⟨rfl,hf⟩:=hx
  obtain ⟨L,hL,_⟩:=hr.1
  have hL0:L=[]:=by
   cases y with
   | int k n=>exact hL.2
   | bool b=>exact hL.2
   | str s=>exact hL.2.1
   | _=>simp [CT.flat] at hf
  subst hL0
  exact ⟨u,us,[],[],rfl,rfl,hL,Zme h2 hr.2⟩
theorem Zr4 [NW] (htt:∀t i,tt t=some i→TOk P t i) (hI:HI W g st.ob w) (hU:StU U st) {t k m i off e:Nat} {xs:List (List CT)} {d:Nat} {x ys:List CT} {vs:List AV} {va vv:Value} {ag:Bool} (hk:st.ob k=.row e m xs d) (hd0:¬d=0) (hx:xs[i]?=some x) (hys:Zg7 vs=some ys) (hl:vs.length=Zhf (tt t)) (ho:off+vs.length≤m)
  (ha:SVR g w (.rp k m i off) va) (hv:SVR g w (.p ag vs) vv) (hpos:0<vs.length) {s:Sem Next} (hs:s=(do Instr.storeAt t va vv;pure .skip)):Fin P W U key st g w s (.und,[(k,.row e m (xs.set i (splice x off ys)) d)]):=by
 obtain ⟨b,o,n,c,h1,rfl⟩:=ha
 obtain ⟨hm,cs,L,o1,o2,o3,o4,o5⟩:=hI.deepO hk hd0
 obtain ⟨us,c1,c2⟩:=PVR.cells hv
 have hxl:=c2.len
 have hi:i<xs.length:=(List.getElem?_eq_some_iff.1 hx).1
 rcases o1.2 with ⟨_,hn⟩ | ⟨b',o',cap,cur,hv',hbW,hg,hnc,hcm,hcs,htk⟩
 ·omega
 have hbb:b=b'∧o=o':=by rw [hv'] at h1;simp at h1;exact ⟨h1.1.1.symm,h1.1.2.symm⟩
 obtain ⟨rfl,rfl⟩:=hbb
 have hlt:i * m+off+us.length≤xs.length * m:=by
  have:=Nat.mul_le_mul_right m (show i+1≤xs.length by omega)
  rw [Nat.add_mul] at this
  omega
 have hcap:xs.length * m≤cap * m:=Nat.mul_le_mul_right m hnc
 have hsize:(sizeOf t).run P w=.ok us.length w:=by
  rw [←hxl,hl]
  unfold Zhf at hl ⊢
  cases hti:tt t with
  | none=>rw [hti] at hl;simp at hl;simp [hl] at hpos
  | some i=>
   cases i with
   | atom z=>obtain ⟨d,zv,i,_,_,h3,_,h4,_⟩:=htt t _ hti;rw [XH h3,h4]
   | strct fs n z=>obtain ⟨_,i,_,_,h3,h4,_⟩:=htt t _ hti;rw [XH h3,h4]
   | slice e m b z=>obtain ⟨_,_,_,_,j,h3,h4,_⟩:=htt t _ hti;rw [XH h3,h4]
   | _=>rw [hti] at hl;simp at hl;simp [hl] at hpos
 have hst:=run_storeCells_at (P:=P) b (o+(i * m+off)) e us 0 cur w hg (by omega) (AVRs.one c2)
 obtain ⟨r1,r2,r3,r4,r5,r6⟩:=ZmD b cur (splice cur.toList (o+(i * m+off)) us).toArray e hg
 have hrun:s.run P w=.ok .skip (w.setRow b (splice cur.toList (o+(i * m+off)) us).toArray):=by
  subst hs
  have e:(cur.toList.take (o+(i * m+off)+0)++us++cur.toList.drop (o+(i * m+off)+0+us.length)).toArray=(splice cur.toList (o+(i * m+off)) us).toArray:=by simp [splice]
  rw [e] at hst
  simp [Instr.storeAt,Instr.sureAddr,storeVar,c1,hsize,hst]
 have hOk:g.O k=[b]:=by rw [o4,hv'];rfl
 have hmv:∀b',b'<w.heap.size→¬g.own b'→(w.setRow b (splice cur.toList (o+(i * m+off)) us).toArray).heap[b']?=w.heap[b']?:=fun b' _ hn=>r2 b' fun e=>hn (.inl ⟨k,by simp [hOk,e]⟩)
 obtain ⟨L',q1,q2⟩:=o2.set (Zme hys c2) hx (show off+us.length≤m by omega)
 have hown':(w.setRow b (splice cur.toList (o+(i * m+off)) us).toArray).ownsV 0 e m (g.val k) (xs.set i (splice x off ys)).length (splice cs (i * m+off) us):=by
  have hcl:cs.length=xs.length * m:=o1.1
  refine ⟨by rw [ZeW _ _ _ (by omega),hcl];simp,.inr ⟨b,o,cap,_,by simpa using hv',hbW,r1,by simpa using hnc,hcm,by rw [List.size_toArray,ZeW _ _ _ (show o+(i * m+off)+us.length≤cur.toList.length by simp;omega)];simpa using hcs,?_⟩⟩
  have h0:((splice cur.toList (o+(i * m+off)) us).toArray.toList).drop o=splice (cur.toList.drop o) (i * m+off) us:=by
   show (splice cur.toList (o+(i * m+off)) us).drop o=_
   unfold splice
   have hto:o≤(cur.toList.take (o+(i * m+off))).length:=by simp;omega
   rw [List.drop_append_of_le_length hto,List.drop_take,Nat.add_sub_cancel_left,List.drop_drop,Nat.add_assoc]
  rw [h0]
  have:cur.toList.drop o=cs++(cur.toList.drop o).drop (xs.length * m):=by rw [←htk];exact (List.take_append_drop _ _).symm
  rw [this,Ze5 _ _ _ _ (by omega)]
  have e2:(xs.set i (splice x off ys)).length * m=(splice cs (i * m+off) us).length:=by rw [ZeW _ _ _ (by omega),hcl];simp
  rw [e2]
  exact List.take_left' rfl
 have hltL:=o2.lt
 have hREs':REs (w.setRow b (splice cur.toList (o+(i * m+off)) us).toArray) m (xs.set i (splice x off ys)) (splice cs (i * m+off) us) L':=q1.keep fun b' mb=>hmv b' (hltL b' (q2.subset mb)) (o3 b' (q2.subset mb))
 let g':Gh:=⟨g.val,g.O,upd g.D k (if d=2 then L' else []),g.Z⟩
 have hgo:∀b',g'.own b'↔g.own b':=fun b'=>Iff.rfl
 have hgr:(∀b'∈g'.D k,b'∈g.D k)→Qt g g' w.heap.size:=fun hs=>.of (fun b' h=>.inl h) fun j b' mb=>by
  by_cases hj:j=k
  ·subst hj;exact .inl (.inr ⟨j,hs b' mb⟩)
  ·exact .inl (.inr ⟨j,by simpa [g',ZI _ _ hj] using mb⟩)
 have hDsub:∀b'∈g'.D k,b'∈g.D k:=fun b' mb=>by
  simp only [g',Zw] at mb
  split at mb
  ·rename_i hd
   rcases o5 with ⟨_,o5⟩ | ⟨o5,_⟩
   ·rw [o5];exact q2.subset mb
   ·omega
  ·simp at mb
 refine ⟨g',undef,_,.inr ⟨hrun,rfl⟩,?_,rfl,fun x u hx hu=>hu.move hx (fun _ _=>rfl) hmv (hgr hDsub) (by omega),trivial,fun q=>?_,fun q hq=>?_⟩
 ·refine hI.step (U:=U) (fun q=>q=k) ?_ rfl (fun b' _ hn=>r2 b' fun e=>hn k rfl (by simp [hOk,e])) (fun q hq=>⟨ZI _ _ hq,rfl,rfl,ZI _ _ hq⟩) hU.ob (fun _ _=>rfl) (hgr hDsub) (fun q hq=>?_)
  ·exact ⟨r4.trans hI.below.os,r5.trans hI.below.tape,r6.trans hI.below.output,by have:=hI.below.size;omega,fun q hq hx'=>by rw [r2 q (fun e=>by subst e;rcases (hI.plain k q (by simp [hOk])).1 with h | h;omega;exact hx' h)];exact hI.below.block q hq hx'⟩
  ·subst hq
   have hmem:∀b'∈g'.O q++g'.D q,b'∈g.O q++g.D q:=fun b' mb=>by
    rcases List.mem_append.1 mb with mb | mb
    ·exact List.mem_append.2 (.inl mb)
    ·exact List.mem_append.2 (.inr (hDsub b' mb))
   refine ⟨?_,?_,fun b' mb=>?_,fun j hj b' mb mj=>?_⟩
   ·simp only [Zk,Zw]
    refine ⟨hm,_,L',hown',hREs',?_⟩
    rcases o5 with ⟨o5,_⟩ | ⟨o5,_⟩
    ·exact .inl ⟨o5,o4,by simp [g',upd,o5]⟩
    ·exact .inr (.inl ⟨o5,o4,by simp [g',upd,o5],fun b' mb=>o3 b' (q2.subset mb)⟩)
   ·have hn:=hI.nodup q
    refine hn.sublist (List.Sublist.append (List.Sublist.refl _) ?_)
    simp only [g',Zw]
    split
    ·rename_i hd
     rcases o5 with ⟨_,o5⟩ | ⟨o5,_⟩
     ·rw [o5];exact q2
     ·omega
    ·exact List.nil_sublist _
   ·have hp:=hI.plain q b' (hmem b' mb)
    rw [hk] at hp
    obtain ⟨p1,cur',e',p2⟩:=hp
    refine ⟨p1,?_⟩
    simp only [Zk,Zw]
    show ∃cur e,_=_
    by_cases hb':b'=b
    ·subst hb';exact ⟨_,_,r1⟩
    ·exact ⟨cur',e',by rw [r2 b' hb'];exact p2⟩
   ·have mj':b'∈g.O j++g.D j:=by
     rcases List.mem_append.1 mj with mj | mj
     ·exact List.mem_append.2 (.inl mj)
     ·simp only [g',ZI _ _ (fun e:j=q=>hj e.symm)] at mj;exact List.mem_append.2 (.inr mj)
    exact hI.apart q j hj b' (hmem b' mb) mj'
 ·simp only [Zk,upd]
  split
  ·trivial
  ·exact (hU.ob q).mono fun _=>.inl
 ·simp only [Zk,upd]
  split
  ·rename_i e;subst e
   exact absurd (hU.gone q fun h=>hq (.inl h)) (by simp [hk])
  ·exact hU.gone q fun h=>hq (.inl h)
end
end Go.Proofs.YtojnhepgnbhaaaaGreatDoor
namespace Go.Proofs.YtojnhepgnbhaaaaGreatDoor
open Go.RowKit
section
variable {P:Program} {W:Q8} {U:Nat→Prop} {key:Nat} {st:St} {g:Gh} {w w':World} {a:Act} {tt:Nat→Option TI}
theorem ZpE [NW] {α:Type} (f:Nat→α) (k:Nat):upd f k (f k)=f:=by
 funext j;by_cases hj:j=k
 ·subst hj;rw [Zw]
 ·rw [ZI _ _ hj]
theorem AVR.less [NW] {g1:Gh} {x:AV} {v:Value} (h:AVR g w x v) (hv:g1.val=g.val) (ho:Xs g1 g):AVR g1 w x v:=by
 cases x with
 | c x=>obtain ⟨L,h1,h2⟩:=h;exact ⟨L,h1,fun b mb hb=>h2 b mb (ho.own b hb)⟩
 | n x=>exact NR.move h (fun _ _ _=>rfl) (ho.grow _)
 | row k=>exact ⟨h.1.trans (by rw [hv]),h.2⟩
 | nil e m=>exact h
 | dead=>exact h
theorem SVR.less [NW] {g1:Gh} {x:SV} {v:Value} (h:SVR g w x v) (hv:g1.val=g.val) (ho:Xs g1 g):SVR g1 w x v:=
 h.move (U:=fun _=>True) (by (cases x<;>try trivial);(intro y my;cases y<;>trivial);(intro y my z mz;cases z<;>trivial)) (fun k _=>by rw [hv]) (fun _ _ _=>rfl) (ho.grow _) (Nat.le_refl _)
theorem ZhP [NW] {ob:Nat→Ob} (hI:HI W g ob w) (k:Nat):∃g1:Gh,HI W g1 (upd ob k (Ym (ob k))) w∧g1.val=g.val∧Xs g1 g∧((∃e m xs d,ob k=.row e m xs d)→∀b∈g.O k++g.D k,¬g1.low b):=by
 cases hk:ob k with
 | gone=>exact ⟨g,by rw [show Ym Ob.gone=ob k from hk.symm,ZpE];exact hI,rfl,Xs.refl _,by simp⟩
 | box t cs=>exact ⟨g,by rw [show Ym (Ob.box t cs)=ob k from hk.symm,ZpE];exact hI,rfl,Xs.refl _,by simp⟩
 | map kk vk kv=>exact ⟨g,by rw [show Ym (Ob.map kk vk kv)=ob k from hk.symm,ZpE];exact hI,rfl,Xs.refl _,by simp⟩
 | row e m xs d=>
  obtain ⟨hm,cs,L,o1,o2,o3,o5⟩:=hI.deep hk
  let g1:Gh:=⟨g.val,upd g.O k [],upd g.D k [],g.Z⟩
  have hO:∀j b,b∈g1.O j→j≠k∧b∈g.O j:=fun j b mb=>by
   by_cases hj:j=k
   ·subst hj;simp [g1,upd] at mb
   ·exact ⟨hj,by simpa [g1,upd,hj] using mb⟩
  have hD:∀j b,b∈g1.D j→j≠k∧b∈g.D j:=fun j b mb=>by
   by_cases hj:j=k
   ·subst hj;simp [g1,upd] at mb
   ·exact ⟨hj,by simpa [g1,upd,hj] using mb⟩
  have hOD:∀j b,b∈g1.O j++g1.D j→j≠k∧b∈g.O j++g.D j:=fun j b mb=>by
   rcases List.mem_append.1 mb with m1 | m1
   ·exact ⟨(hO j b m1).1,by simp [(hO j b m1).2]⟩
   ·exact ⟨(hD j b m1).1,by simp [(hD j b m1).2]⟩
  have hown:∀b,g1.own b→g.own b:=fun b hb=>by
   rcases hb with ⟨j,mj⟩ | hz
   ·exact .inl ⟨j,(hO j b mj).2⟩
   ·exact .inr hz
  have hless:Xs g1 g:=.of hown fun j b mb=>⟨j,(hD j b mb).2⟩
  have hnot:∀b∈(g.val k).ownBlock.toList,¬g1.own b:=fun b mb hb=>by
   rcases o5 with ⟨_,q,_⟩ | ⟨_,q,_⟩ | ⟨_,_,_,q⟩
   ·have mk:b∈g.O k++g.D k:=by simp [q,mb]
    rcases hb with ⟨j,mj⟩ | hz
    ·exact hI.apart k j (fun e=>(hO j b mj).1 e.symm) b mk (by simp [(hO j b mj).2])
    ·exact hI.nz mk hz
   ·have mk:b∈g.O k++g.D k:=by simp [q,mb]
    rcases hb with ⟨j,mj⟩ | hz
    ·exact hI.apart k j (fun e=>(hO j b mj).1 e.symm) b mk (by simp [(hO j b mj).2])
    ·exact hI.nz mk hz
   ·exact q b mb (hown b hb)
  refine ⟨g1,⟨hI.below,fun j=>?_,fun j=>?_,fun i j hij b mb mj=>?_,fun j b mb=>?_,hI.gz,hI.zx,hI.nw⟩,rfl,hless,fun _ b mb hb=>?_⟩
  rotate_right
  ·rcases hb with (⟨j,mj⟩ | hz) | ⟨j,mj⟩
   ·exact hI.apart k j (fun e=>(hO j b mj).1 e.symm) b mb (by simp [(hO j b mj).2])
   ·exact hI.nz mb hz
   ·exact hI.apart k j (fun e=>(hD j b mj).1 e.symm) b mb (by simp [(hD j b mj).2])
  ·by_cases hj:j=k
   ·subst hj
    rw [Zw]
    refine ⟨hm,cs,L,o1,o2,.inr (.inr ⟨rfl,by simp [g1,upd],by simp [g1,upd],fun b mb=>?_⟩)⟩
    rcases List.mem_append.1 mb with m1 | m1
    ·exact hnot b m1
    ·exact fun hb=>o3 b m1 (hown b hb)
   ·rw [ZI _ _ hj]
    have ho:=hI.obs j
    cases hoj:ob j with
    | gone=>rw [hoj] at ho;exact ⟨by simpa [g1,upd,hj] using ho.1,by simpa [g1,upd,hj] using ho.2⟩
    | box t ds=>
     rw [hoj] at ho
     obtain ⟨b,vs,h1,h2,h3,h4,h5⟩:=ho
     exact ⟨b,vs,h1,by simpa [g1,upd,hj] using h2,by simpa [g1,upd,hj] using h3,h4,h5.mono fun x u _ hx=>AVR.less hx rfl hless⟩
    | map kk vk kv=>
     rw [hoj] at ho
     obtain ⟨b,es,c,h1,h2,h3,h4⟩:=ho
     exact ⟨b,es,c,h1,by simpa [g1,upd,hj] using h2,by simpa [g1,upd,hj] using h3,h4⟩
    | row e' m' xs' d'=>
     rw [hoj] at ho
     obtain ⟨hm',cs',L',p1,p2,p3⟩:=ho
     refine ⟨hm',cs',L',p1,p2,?_⟩
     have e1:g1.O j=g.O j:=by simp [g1,upd,hj]
     have e2:g1.D j=g.D j:=by simp [g1,upd,hj]
     rw [e1,e2]
     rcases p3 with p3 | ⟨q1,q2,q3,q4⟩ | ⟨q1,q2,q3,q4⟩
     ·exact .inl p3
     ·exact .inr (.inl ⟨q1,q2,q3,fun b mb hb=>q4 b mb (hown b hb)⟩)
     ·exact .inr (.inr ⟨q1,q2,q3,fun b mb hb=>q4 b mb (hown b hb)⟩)
  ·by_cases hj:j=k
   ·subst hj;simp [g1,upd]
   ·have:=hI.nodup j;simpa [g1,upd,hj] using this
  ·exact hI.apart i j hij b (hOD i b mb).2 (hOD j b mj).2
  ·rw [ZI _ _ (hOD j b mb).1];exact hI.plain j b (hOD j b mb).2
theorem Zs0 [NW] {ob:Nat→Ob} (hI:HI W g ob w) {k t:Nat} {cs:List AV} (hk:ob k=.box t cs):∃g1:Gh,HI W g1 (upd ob k .gone) w∧g1.val=g.val∧Xs g1 g∧∃b vs,g.val k=.pointer (some ⟨b,0,none⟩)∧¬g1.own b∧b<w.heap.size∧XX w b 0 vs∧ZH (AVR g w) cs vs:=by
 have ho:=hI.obs k
 rw [hk] at ho
 obtain ⟨b,vs,h1,h2,h3,h4,h5⟩:=ho
 let g1:Gh:=⟨g.val,upd g.O k [],upd g.D k [],g.Z⟩
 have hO:∀j x,x∈g1.O j++g1.D j→j≠k∧x∈g.O j++g.D j:=fun j x mx=>by
  by_cases hj:j=k
  ·subst hj;simp [g1,upd] at mx
  ·exact ⟨hj,by simpa [g1,upd,hj] using mx⟩
 have hown:∀x,g1.own x→g.own x∧x≠b:=fun x hx=>by
  rcases hx with ⟨j,mj⟩ | hz
  ·have:=hO j x (by simp [mj])
   refine ⟨.inl ⟨j,?_⟩,fun e=>?_⟩
   ·have hj:=this.1
    simpa [g1,upd,hj] using mj
   ·subst e
    exact hI.apart j k this.1 x this.2 (by simp [h2])
  ·exact ⟨.inr hz,fun e=>by subst e;exact hI.nz (k:=k) (by simp [h2]) hz⟩
 have hless:Xs g1 g:=.of (fun x hx=>(hown x hx).1) fun j b mb=>⟨j,by
  have hj:=(hO j b (by simp [mb])).1
  simpa [g1,upd,hj] using mb⟩
 refine ⟨g1,⟨hI.below,fun j=>?_,fun j=>?_,fun i j hij x mx mj=>?_,fun j x mx=>?_,hI.gz,hI.zx,hI.nw⟩,rfl,hless,b,vs,h1,fun hb=>(hown b hb).2 rfl,(Array.getElem?_eq_some_iff.1 h4).1,fun j u hj=>?_,h5⟩
 ·by_cases hj:j=k
  ·subst hj;rw [Zw];exact ⟨by simp [g1,upd],by simp [g1,upd]⟩
  ·rw [ZI _ _ hj]
   have ho:=hI.obs j
   have e1:g1.O j=g.O j:=by simp [g1,upd,hj]
   have e2:g1.D j=g.D j:=by simp [g1,upd,hj]
   cases hoj:ob j with
   | gone=>rw [hoj] at ho;exact ⟨e1.trans ho.1,e2.trans ho.2⟩
   | box t ds=>
    rw [hoj] at ho
    obtain ⟨b,vs,h1,h2,h3,h4,h5⟩:=ho
    exact ⟨b,vs,h1,e1.trans h2,e2.trans h3,h4,h5.mono fun x u _ hx=>AVR.less hx rfl hless⟩
   | map kk vk kv=>
    rw [hoj] at ho
    obtain ⟨b,es,c,h1,h2,h3,h4⟩:=ho
    exact ⟨b,es,c,h1,e1.trans h2,e2.trans h3,h4⟩
   | row e' m' xs' d'=>
    rw [hoj] at ho
    obtain ⟨hm',cs',L',p1,p2,p3⟩:=ho
    refine ⟨hm',cs',L',p1,p2,?_⟩
    rw [e1,e2]
    rcases p3 with p3 | ⟨q1,q2,q3,q4⟩ | ⟨q1,q2,q3,q4⟩
    ·exact .inl p3
    ·exact .inr (.inl ⟨q1,q2,q3,fun b mb hb=>q4 b mb (hown b hb).1⟩)
    ·exact .inr (.inr ⟨q1,q2,q3,fun b mb hb=>q4 b mb (hown b hb).1⟩)
 ·by_cases hj:j=k
  ·subst hj;simp [g1,upd]
  ·have:=hI.nodup j;simpa [g1,upd,hj] using this
 ·exact hI.apart i j hij x (hO i x mx).2 (hO j x mj).2
 ·rw [ZI _ _ (hO j x mx).1];exact hI.plain j x (hO j x mx).2
 ·rw [Nat.zero_add,cell_of_row w b j vs.toArray t (0,0) h4];simpa using hj
theorem Zpy [NW] {ob:Nat→Ob} (hI:HI W g ob w) {k e m:Nat} {xs:List (List CT)} (hk:ob k=.row e m xs 0):∃L,RC w (.sl e m xs) (g.val k) L∧∀b∈L,¬g.own b:=by
 obtain ⟨hm,cs,L1,o1,o2,o3,o5⟩:=hI.deep hk
 obtain ⟨A,cap,L0,s1,s2,s3,s4,s5⟩:=Sl.row o1
 refine ⟨L0++L1,⟨A,cap,cs,L0,L1,s1,s2,s3,rfl,hm,s4,o2⟩,fun b mb=>?_⟩
 rcases List.mem_append.1 mb with m1 | m1
 ·rcases o5 with ⟨q,_⟩ | ⟨q,_⟩ | ⟨_,_,_,q⟩
  ·omega
  ·omega
  ·exact q b (s5.subset m1)
 ·exact o3 b m1
theorem REs.dropS {m:Nat}:∀{xs:List (List CT)} {cs:List Value} {L:List Nat} (l:Nat),REs w m xs cs L→∃L',REs w m (xs.drop l) (cs.drop (l * m)) L'∧L'.Sublist L
 | xs,cs,L,0,h=>⟨L,by simpa using h,List.Sublist.refl _⟩
 | [],cs,L,l+1,h=>⟨[],by obtain ⟨rfl,rfl⟩:=h;simp [REs],List.nil_sublist _⟩
 | x::r,_,_,l+1,⟨c1,c2,L1,L2,rfl,rfl,h3,h4⟩=>by
  obtain ⟨L',h5,h6⟩:=REs.dropS l h4
  refine ⟨L',?_,h6.trans (List.sublist_append_right _ _)⟩
  have e:(l+1) * m=c1.length+l * m:=by rw [h3.2,Nat.add_mul];omega
  have e2:(c1++c2).drop (c1.length+l * m)=c2.drop (l * m):=by
   rw [List.drop_append,List.drop_of_length_le (Nat.le_add_right _ _),List.nil_append,Nat.add_sub_cancel_left]
  rw [e,e2]
  simpa using h5
theorem ZsH [NW] (htt:∀t i,tt t=some i→TOk P t i) (hI:HI W g st.ob w) (hU:StU U st) (hkey:¬U key) {t k e m d l:Nat} {xs:List (List CT)} (hk:st.ob k=.row e m xs d) (hd0:¬d=0) (hsz:Zix (tt t)=m) {lo:Option SV} {vx:Value} {vlo:Option Value} (hl:loB xs.length lo=some l) (hx:SVR g w (.p false [.row k]) vx)
  (hlo:Zk5 g w lo vlo) {s:Sem Next} (hs:s=(do pure (.value (←Instr.sliceAt t vx vlo none none)))):Fin P W U key st g w s (.p false [.row key],[(k,.gone),(key,.row e m (xs.drop l) d)]):=by
 obtain ⟨hm,cs,L,o1,o2,o3,o4,o5⟩:=hI.deepO hk hd0
 have hv:=ZeY hx
 subst hv
 obtain ⟨A,cap,hv,hnc,hcm⟩:=Zar o1
 obtain ⟨b1,b2,_⟩:=Zhj (P:=P) (w:=w) (g:=g) (b:=true) (len:=xs.length) (cap:=cap) (h:=xs.length) (hi:=none) (vhi:=none) rfl hl hlo trivial hnc
 obtain ⟨e',b',z',hti⟩:∃e' b' z',tt t=some (.slice e' m b' z'):=by
  unfold Zix at hsz
  split at hsz
  ·rename_i h1;subst hsz;exact ⟨_,_,_,h1⟩
  ·omega
 obtain ⟨hu,_,_,⟨ie,zv,hie,hsi,_⟩,_⟩:=htt t _ hti
 have hO:g.O k=(Value.slice A xs.length cap).ownBlock.toList:=by rw [o4,hv]
 have o1':=o1
 rw [hv] at o1'
 obtain ⟨t1,t2⟩:=ZpM (l:=l) o1' b2
 generalize hw:(Value.slice (if cap=l then A else A.map (·.add (l * m))) (xs.length - l) (cap - l))=v' at t1 t2
 have hrun:s.run P w=.ok (.value v') w:=by
  subst hs
  have:(Instr.sliceAt t (.slice A xs.length cap) vlo none none).run P w=.ok v' w:=by
   rw [←hw]
   simp [Instr.sliceAt,Yw hu,Instr.slice,b1,XH hie,hsi]
  rw [hv]
  simp only [Sem.run_bind,this,Result.andThen_ok,Sem.run_pure]
 obtain ⟨M,r1,r2⟩:=o2.dropS l
 have hUk:U k:=Classical.byContradiction fun hn=>by have:=hU.gone _ hn;rw [hk] at this;simp at this
 have hDm:∀b∈(if d=2 then M else []),b∈g.D k:=fun b mb=>by
  split at mb
  ·rename_i hd
   rcases o5 with ⟨_,q⟩ | ⟨q,_⟩
   ·rw [q];exact r2.subset mb
   ·omega
  ·simp at mb
 have hlen:(xs.drop l).length=xs.length - l:=by simp
 obtain ⟨i1,i2⟩:=hI.turn (key:=key) (U:=U) (w':=w) (v:=v') (O:=v'.ownBlock.toList) (D:=if d=2 then M else []) (o:=.row e m (xs.drop l) d) hU.ob hkey [k]
  (fun j mj=>by simp at mj;subst mj;exact hUk) hI.below (Nat.le_refl _) (fun b hb hn=>rfl)
  (fun b mb=>.inl ⟨k,by simp,by rw [hO,←t2];exact mb⟩)
  (fun b mb=>.inl ⟨k,by simp,List.mem_append.2 (.inr (hDm b mb))⟩)
  (by
   have hn:=hI.nodup k
   refine hn.sublist (List.Sublist.append (by rw [hO,←t2];exact List.Sublist.refl _) ?_)
   split
   ·rename_i hd
    rcases o5 with ⟨_,q⟩ | ⟨q,_⟩
    ·rw [q];exact r2
    ·omega
   ·exact List.nil_sublist _)
  (fun b mb=>by
   have hmem:b∈g.O k++g.D k:=by
    rcases List.mem_append.1 mb with mb | mb
    ·exact List.mem_append.2 (.inl (by rw [hO,←t2];exact mb))
    ·exact List.mem_append.2 (.inr (hDm b mb))
   obtain ⟨p1,p2⟩:=hI.plain k b hmem
   exact ⟨p1,p2.of (by rw [hk];rfl)⟩)
  (fun hown=>⟨hm,cs.drop (l * m),M,by simp only [Gh.turn,Zw];rw [hlen];exact t1,r1,by
   rcases o5 with ⟨q,_⟩ | ⟨q,_⟩
   ·exact .inl ⟨q,by simp [Gh.turn,Zw],by simp [Gh.turn,q]⟩
   ·refine .inr (.inl ⟨q,by simp [Gh.turn,Zw],by simp [Gh.turn,q],fun b mb ho=>?_⟩)
    rcases Zel ho with mo | ⟨j,_,_,mj⟩ | hz
    ·exact o3 b (r2.subset mb) (.inl ⟨k,by rw [hO,←t2];exact mo⟩)
    ·exact o3 b (r2.subset mb) (.inl ⟨j,mj⟩)
    ·exact o3 b (r2.subset mb) (.inr hz)⟩)
 have hwf:=Zhr (key:=key) (o:=.row e m (xs.drop l) d) hU [k] trivial
 refine ⟨_,v',w,.inl hrun,i1,⟨_,rfl,⟨by simp [Gh.turn,Zw],?_⟩⟩,i2,fun y my=>by simp at my;subst my;exact Ziw,hwf.1,hwf.2⟩
 rw [←hw]
 simp [Value.oneCell']
theorem Zrh [NW] (htt:∀t i,tt t=some i→TOk P t i) (hI:HI W g st.ob w) (hU:StU U st) (hkey:¬U key) {t:Nat} {x:SV} {r:SV × List (Nat × Ob)} {lo hi:Option SV} {vx:Value} {vlo vhi:Option Value} (h:Zbu st key (tt t) lo hi x=some r) (hx:SVR g w x vx)
  (hlo:Zk5 g w lo vlo) (hhi:Zk5 g w hi vhi) {s:Sem Next} (hs:s=(do pure (.value (←Instr.sliceAt t vx vlo vhi none)))):Fin P W U key st g w s r:=by
 unfold Zbu at h
 split at h
 ·rename_i k
  split at h
  rotate_left
  ·simp at h
  split at h
  ·rename_i e m xs d hk
   split at h
   ·rename_i hsz
    split at h
    ·rename_i hmv
     obtain ⟨l,hl,rfl⟩:=Option.map_eq_some_iff.1 h
     unfold mvS at hmv
     split at hmv
     ·have hd0:¬d=0:=fun e=>by subst e;simp at hmv
      cases vhi with
      | some _=>exact hhi.elim
      | none=>exact ZsH htt hI hU hkey hk hd0 hsz hl hx hlo hs
     ·simp at hmv
    obtain ⟨q,hq,h⟩:=Option.bind_eq_some_iff.1 h
    obtain ⟨l,hl,rfl⟩:=Option.map_eq_some_iff.1 h
    obtain ⟨g1,i1,i2,i3,_⟩:=ZhP hI k
    rw [hk] at i1
    obtain ⟨L,t1,t2⟩:=Zpy i1 (Zw st.ob k (.row e m xs 0))
    have hvx:vx=g1.val k:=by rw [i2];exact ZeY hx
    have hx1:SVR g1 w (.p false [.c (.sl e m xs)]) vx:=⟨_,rfl,L,hvx ▸ t1,t2⟩
    have lo1:Zk5 g1 w lo vlo:=by
     cases lo<;>cases vlo<;>simp only [Zk5] at hlo ⊢
     exact hlo.less i2 i3
    have hi1:Zk5 g1 w hi vhi:=by
     cases hi<;>cases vhi<;>simp only [Zk5] at hhi ⊢
     exact hhi.less i2 i3
    obtain ⟨cv,c1,c2,c3⟩:=Zpx (t:=t) (U:=U) (g:=g1) (P:=P) (x:=.p false [.c (.sl e m xs)]) (v:=.p false [.c (.sl e m ((xs.take q).drop l))]) htt (by simp only [Zlm,hsz,if_true,hq,hl,Option.bind_some,Option.map_some]) hx1 lo1 hi1
    have hUk:U k:=Classical.byContradiction fun hn=>by have:=hU.gone _ hn;rw [hk] at this;simp at this
    refine ⟨g1,cv,w,.inl (by rw [hs];simp only [Sem.run_bind,c1,Result.andThen_ok,Sem.run_pure]),i1,c2,fun y v _ hy=>hy.less i2 i3,c3.mono fun _=>.inl,fun j=>?_,fun j hj=>?_⟩
    ·show obU _ (upd st.ob k (.row e m xs 0) j)
     by_cases hjk:j=k
     ·subst hjk;rw [Zw];trivial
     ·rw [ZI _ _ hjk];exact (hU.ob j).mono fun _=>.inl
    ·show upd st.ob k (.row e m xs 0) j=_
     rw [ZI _ _ (show j≠k from fun e=>hj (.inl (e ▸ hUk)))];exact hU.gone j fun h=>hj (.inl h)
   ·simp at h
  ·simp at h
 ·obtain ⟨v,hv,rfl⟩:=Option.map_eq_some_iff.1 h
  obtain ⟨cv,c1,c2,c3⟩:=Zpx (U:=U) htt hv hx hlo hhi
  exact Zah hI hU (by rw [hs];simp only [Sem.run_bind,c1,Result.andThen_ok,Sem.run_pure]) c2 c3
 ·simp at h
end
end Go.Proofs.YtojnhepgnbhaaaaGreatDoor
namespace Go.Proofs.YtojnhepgnbhaaaaGreatDoor
open Go.RowKit Go.MapKept
theorem Zj5 {kk:PK} {d:TypeDesc} {k:Value} (hd:Zdk kk d=true) (hk:Zgs kk k):IsKey d k:=by
 cases kk<;>cases d<;>simp [Zdk] at hd<;>cases k<;>simp_all [Zgs,IsKey]
theorem Zqn {kk:PK} {a b:Value} (ha:Zgs kk a) (hb:Zgs kk b):vEq a b=true↔a=b:=by
 cases kk<;>cases a<;>simp [Zgs] at ha<;>cases b<;>simp [Zgs] at hb<;>simp_all [vEq,sEq]
theorem Zhg [NW] {kk vk:PK} {d:TypeDesc} {k:Value} (hd:Zdk kk d=true) (hk:Zgs kk k):∀(l:List MapEntry) (i:Nat),Zie kk vk (l.map fun e=>(e.key,e.val))→
  (Instr.findNow d k l i=some none∧Zjz (l.map fun e=>(e.key,e.val)) k=none∧∀v,Zew (l.map fun e=>(e.key,e.val)) k v=(l.map fun e=>(e.key,e.val))++[(k,v)])∨
  ∃j e,Instr.findNow d k l i=some (some (i+j,e.val))∧l[j]?=some e∧e.key=k∧Zjz (l.map fun e=>(e.key,e.val)) k=some e.val∧Zgs vk e.val∧∀v,Zew (l.map fun e=>(e.key,e.val)) k v=(l.modify j fun e=>{ e with key:=k,val:=v }).map fun e=>(e.key,e.val)
 | [],i,_=>.inl ⟨rfl,rfl,fun _=>rfl⟩
 | e::l,i,h=>by
  have he:=h (e.key,e.val) (by simp)
  obtain ⟨r,hr,hiff⟩:=sameNow_of_keys (Zj5 hd hk) (Zj5 hd he.1)
  cases r with
  | true=>
   have hek:=hiff.1 rfl
   have hv:vEq k e.key=true:=(Zqn hk he.1).2 hek
   exact .inr ⟨0,e,by simp [Instr.findNow,hr],rfl,hek.symm,by simp [Zjz,hv],he.2,fun v=>by simp [Zew,hv]⟩
  | false=>
   have hne:¬vEq k e.key=true:=fun q=>by have:=hiff.2 ((Zqn hk he.1).1 q);cases this
   rcases Zhg hd hk l (i+1) (fun p m=>h p (by simp only [List.map_cons,List.mem_cons];exact .inr m)) with ⟨h1,h2,h3⟩ | ⟨j,e',h1,h2,h3,h4,h5,h6⟩
   ·exact .inl ⟨by simp [Instr.findNow,hr,h1],by simp [Zjz,hne,h2],fun v=>by simp [Zew,hne,h3]⟩
   ·exact .inr ⟨j+1,e',by simp [Instr.findNow,hr,h1];omega,by simpa using h2,h3,by simp [Zjz,hne,h4],h5,fun v=>by simp [Zew,hne,h6]⟩
section
variable {P:Program} {W:Q8} {U:Nat→Prop} {key:Nat} {st:St} {g:Gh} {w w':World} {a:Act} {tt:Nat→Option TI}
theorem Zwq [NW] {vk:PK} {v:Value} (h:Zgs vk v):AVR g w (avV v) v:=by
 cases vk<;>cases v<;>simp [Zgs] at h<;>first | exact ⟨[],⟨rfl,rfl⟩,by simp⟩ | exact ⟨[],⟨rfl,rfl,h⟩,by simp⟩
theorem ZyL (v:Value):avU U (avV v):=by cases v<;>trivial
theorem Znz [NW] {kk:PK} {x:SV} {v k:Value} (h:Zrr kk x=some k) (hx:SVR g w x v):v=k∧Zgs kk k:=by
 unfold Zrr at h
 split at h
 ·split at h<;>simp only [Option.some.injEq,reduceCtorEq] at h
  rename_i e;subst e h
  exact ⟨Zbd hx,rfl⟩
 ·simp only [Option.some.injEq] at h;subst h
  exact ⟨(Zhl hx).1,(Zhl hx).2⟩
 ·simp only [Option.some.injEq] at h;subst h
  exact ⟨ZeZ hx,trivial⟩
 ·simp at h
theorem Zln (htt:∀t i,tt t=some i→TOk P t i) {t:Nat} {kk vk:PK} (h:ZdD kk vk (tt t)=true):TOk P t (.map kk vk):=by
 unfold ZdD at h
 split at h
 ·rename_i a b hti
  simp only [Bool.and_eq_true,decide_eq_true_eq] at h
  rw [h.1,h.2] at hti
  exact htt _ _ hti
 ·simp at h
theorem ZrE [NW] {vk:PK} {zv:Value} (h:Q7 (ZdT vk) zv=true):AVR g w (ZdT vk) zv∧avU U (ZdT vk):=by
 refine ⟨Zex h,?_⟩
 cases vk<;>trivial
theorem Zof [NW] (htt:∀t i,tt t=some i→TOk P t i) {t:Nat} {kk vk:PK} {kv:List (Value × Value)} {i v:SV} {vi:Value} {ok:Bool} {b c:Nat} {es:Array MapEntry} (hm:ZdD kk vk (tt t)=true) (h:Zn5 kk vk kv i ok=some v) (hi:SVR g w i vi) (hb:w.heap[b]?=some (.map es c)) (hes:Zc3 es=kv) (hok:Zie kk vk kv):
  ∃cv,(Instr.lookup t (.map (some b)) vi ok).run P w=.ok cv w∧SVR g w v cv∧svU U v:=by
 obtain ⟨kt,et,dk,dv,inf,zv,h1,h2,h3,h4,h5,h6,h7,h8⟩:=Zln htt hm
 unfold Zn5 at h
 obtain ⟨k,hk,rfl⟩:=Option.map_eq_some_iff.1 h
 obtain ⟨rfl,hkk⟩:=Znz hk hi
 subst hes
 have hz:=ZrE (g:=g) (w:=w) (U:=U) h8
 have hze:(zeroValue et).run P w=.ok zv w:=Zij h6 h7
 have key:∃r:Option (Nat × Value),(Instr.findKey kt vi es.toList).run P w=.ok r w∧(match r with | some p=>Zjz (Zc3 es) vi=some p.2∧Zgs vk p.2 | none=>Zjz (Zc3 es) vi=none):=by
  rcases Zhg h3 hkk es.toList 0 hok with ⟨f1,f2,_⟩ | ⟨j,e,f1,f2,f3,f4,f5,_⟩
  ·exact ⟨none,run_findKey h2 f1,f2⟩
  ·exact ⟨some _,run_findKey h2 f1,f4,f5⟩
 obtain ⟨r,hr,hr2⟩:=key
 have hck:(Instr.checkKey es.isEmpty 10000 kt vi).run P w=.ok () w:=run_checkKey (P:=P) (w:=w) h2 (Zj5 h3 hkk) es.isEmpty 9999
 have hg:(getObj b).run P w=.ok (.map es c) w:=by simp [getObj,Sem.run,hb]
 have hfin:∃rv rb,(Instr.lookup t (.map (some b)) vi ok).run P w=.ok (if ok then .tuple #[rv,.bool rb] else rv) w∧AVR g w (Zbi (Zc3 es) vi (ZdT vk)) rv∧avU U (Zbi (Zc3 es) vi (ZdT vk))∧ZdR (Zc3 es) vi=rb:=by
  cases r with
  | none=>
   simp only at hr2
   refine ⟨zv,false,?_,by simp only [Zbi,hr2];exact hz.1,by simp only [Zbi,hr2];exact hz.2,by simp [ZdR,hr2]⟩
   unfold Instr.lookup
   simp only [Sem.run_bind,Yw h1,Result.andThen_ok,hg,Sem.run_pure,hck,hr,hze]
  | some p=>
   simp only at hr2
   refine ⟨p.2,true,?_,by simp only [Zbi,hr2.1];exact Zwq hr2.2,by simp only [Zbi,hr2.1];exact ZyL _,by simp [ZdR,hr2.1]⟩
   unfold Instr.lookup
   simp only [Sem.run_bind,Yw h1,Result.andThen_ok,hg,Sem.run_pure,hck,hr]
 obtain ⟨rv,rb,q1,q2,q3,q4⟩:=hfin
 refine ⟨_,q1,?_,?_⟩
 ·cases ok with
  | true=>exact ⟨[rv,.bool rb],rfl,⟨_,rfl,q2⟩,⟨_,rfl,[],⟨by rw [q4],rfl⟩,by simp⟩,trivial⟩
  | false=>exact ⟨_,rfl,q2⟩
 ·cases ok with
  | true=>
   intro y my
   simp only [List.mem_cons,List.not_mem_nil,or_false] at my
   rcases my with rfl | rfl
   ·intro z mz;simp at mz;subst mz;exact q3
   ·intro z mz;simp at mz;subst mz;trivial
  | false=>intro z mz;simp at mz;subst mz;exact q3
theorem ZtJ [NW] (htt:∀t i,tt t=some i→TOk P t i) (hI:HI W g st.ob w) {t:Nat} {x i v:SV} {vx vi:Value} {ok:Bool} (h:Zjf st (tt t) x i ok=some v) (hx:SVR g w x vx) (hi:SVR g w i vi):
  ∃cv,(Instr.lookup t vx vi ok).run P w=.ok cv w∧SVR g w v cv∧svU U v:=by
 unfold Zjf at h
 split at h
 ·rename_i k
  split at h
  ·rename_i kk vk kv hk
   split at h
   ·rename_i hm
    have hv:=ZeY hx
    have ho:=hI.obs k
    rw [hk] at ho
    obtain ⟨b,es,c,h1,_,_,h4,h5,h6⟩:=ho
    rw [hv,h1]
    exact Zof htt hm h hi h4 h5 h6
   ·simp at h
  ·simp at h
 ·rename_i kk vk kv
  split at h
  ·rename_i hm
   obtain ⟨y,hy,hx⟩:=hx
   simp at hy;subst hy
   obtain ⟨L,⟨b,es,c,rfl,h4,h5,h6,_⟩,_⟩:=hx
   exact Zof htt hm h hi h4 h5 h6
  ·simp at h
 ·simp at h
theorem Zxn [NW] (htt:∀t i,tt t=some i→TOk P t i) (hI:HI W g st.ob w) (hU:StU U st) (hkey:¬U key) {t:Nat} {r:SV × List (Nat × Ob)} (h:ZmB key (tt t)=some r) {s:Sem Next} (hs:s=(do pure (.value (←Instr.makeMap t none)))):Fin P W U key st g w s r:=by
 unfold ZmB at h
 split at h
 ·rename_i kk vk hti
  simp only [Option.some.injEq] at h;subst h
  have hrun:s.run P w=.ok (.value (.map (some w.heap.size))) (w.alloc (.map #[] 0)):=by
   subst hs
   have h0:(Instr.makeMap t none).run P w=.ok (.map (some w.heap.size)) (w.alloc (.map #[] 0)):=rfl
   simp only [Sem.run_bind,h0,Result.andThen_ok,Sem.run_pure]
  have hb:Below w.heap.size w (w.alloc (.map #[] 0)):=(Below.refl _ _).alloc (Nat.le_refl _) _
  have hnew:=heap_alloc_new w (.map #[] 0)
  obtain ⟨h1,h2⟩:=hI.turn (key:=key) (U:=U) (w':=w.alloc (.map #[] 0)) (v:=.map (some w.heap.size)) (O:=[w.heap.size]) (D:=[]) (o:=.map kk vk []) hU.ob hkey [] (by simp)
   (hI.below.trans hb) hb.size (fun b hb' _=>hb.block b hb') (by simp) (by simp) (by simp) (fun b mb=>by
    simp at mb;subst mb
    exact ⟨.inl hI.below.size,_,_,hnew⟩)
   (fun _=>⟨w.heap.size,#[],0,by simp [Gh.turn,upd],by simp [Gh.turn,upd],by simp [Gh.turn,upd],hnew,rfl,fun _ m=>by simp at m⟩)
  have hwf:=Zhr (key:=key) (o:=.map kk vk []) hU [] trivial
  exact ⟨_,_,_,.inl hrun,h1,⟨_,rfl,⟨by simp [Gh.turn,upd],by simp [Value.oneCell']⟩⟩,h2,fun y my=>by simp at my;subst my;exact Ziw,hwf.1,hwf.2⟩
 ·simp at h
theorem ZtQ [NW] (htt:∀t i,tt t=some i→TOk P t i) {t:Nat} {kk vk:PK} {kv:List (Value × Value)} {k v:Value} {b c:Nat} {es:Array MapEntry} (hm:ZdD kk vk (tt t)=true) (hk:Zgs kk k) (hv:Zgs vk v) (hb:w.heap[b]?=some (.map es c)) (hes:Zc3 es=kv) (hok:Zie kk vk kv):
  ∃es' c',(Instr.mapUpdate t (.map (some b)) k v).run P w=.ok () { w with heap:=w.heap.setIfInBounds b (.map es' c') }∧Zc3 es'=Zew kv k v∧Zie kk vk (Zew kv k v):=by
 obtain ⟨kt,et,dk,dv,inf,zv,h1,h2,h3,h4,h5,h6,h7,h8⟩:=Zln htt hm
 subst hes
 have hck:(Instr.checkKey false 10000 kt k).run P w=.ok () w:=run_checkKey (P:=P) (w:=w) h2 (Zj5 h3 hk) false 9999
 have hg:(getObj b).run P w=.ok (.map es c) w:=by simp [getObj,Sem.run,hb]
 have hst:∀o,(setObj b o).run P w=.ok () { w with heap:=w.heap.setIfInBounds b o }:=fun o=>by simp [setObj,Sem.run,hb]
 have hput:∀{kv:List (Value × Value)},Zie kk vk kv→Zie kk vk (Zew kv k v):=fun {kv}=>by
  induction kv with
  | nil=>intro _ p m;simp [Zew] at m;subst m;exact ⟨hk,hv⟩
  | cons q r ih=>
   intro h p m
   simp only [Zew] at m
   split at m
   ·rcases List.mem_cons.1 m with rfl | m
    ·exact ⟨hk,hv⟩
    ·exact h p (by simp [m])
   ·rcases List.mem_cons.1 m with rfl | m
    ·exact h p (by simp)
    ·exact ih (fun q mq=>h q (by simp [mq])) p m
 rcases Zhg h3 hk es.toList 0 hok with ⟨f1,_,f2⟩ | ⟨j,e,f1,f2,f3,_,_,f4⟩
 ·refine ⟨es.push { key:=k,val:=v,born:=c },c+1,?_,?_,hput hok⟩
  ·have hf:=run_findKey (P:=P) (w:=w) h2 f1
   unfold Instr.mapUpdate
   simp only [Sem.run_bind,Yw h1,Result.andThen_ok,hg,hck,hf,hst]
  ·rw [show Zew (Zc3 es) k v=_ from f2 v];simp [Zc3]
 ·rw [Nat.zero_add] at f1
  have hf:=run_findKey (P:=P) (w:=w) h2 f1
  have hj:es[j]?=some e:=by simpa using f2
  have hkey:(Instr.keyThatStays k k).run P w=.ok k w:=run_keyThatStays (Zj5 h3 hk)
  refine ⟨es.modify j fun e=>{ e with key:=k,val:=v },c,?_,?_,hput hok⟩
  ·unfold Instr.mapUpdate
   simp only [Sem.run_bind,Yw h1,Result.andThen_ok,hg,hck,hf,hst,hj,Option.map_some,Option.getD_some,f3,hkey]
  ·rw [show Zew (Zc3 es) k v=_ from f4 v];simp [Zc3]
theorem ZvE [NW] (htt:∀t i,tt t=some i→TOk P t i) (hI:HI W g st.ob w) (hU:StU U st) {t:Nat} {x i v:SV} {u:List (Nat × Ob)} {vx vi vv:Value} (h:Zrp st (tt t) x i v=some u) (hx:SVR g w x vx) (hi:SVR g w i vi) (hv:SVR g w v vv) {s:Sem Next} (hs:s=(do Instr.mapUpdate t vx vi vv;pure .skip)):Fin P W U key st g w s (.und,u):=by
 unfold Zrp at h
 split at h
 ·rename_i k
  split at h
  ·rename_i kk vk kv hk
   split at h
   ·rename_i hm
    obtain ⟨a,ha,h⟩:=Option.bind_eq_some_iff.1 h
    obtain ⟨b',hb',rfl⟩:=Option.map_eq_some_iff.1 h
    obtain ⟨rfl,hka⟩:=Znz ha hi
    obtain ⟨rfl,hkb⟩:=Znz hb' hv
    have hvx:=ZeY hx
    have ho:=hI.obs k
    rw [hk] at ho
    obtain ⟨b,es,c,h1,h2,h3,h4,h5,h6⟩:=ho
    obtain ⟨es',c',r1,r2,r3⟩:=ZtQ (w:=w) htt hm hka hkb h4 h5 h6
    have hrun:s.run P w=.ok .skip { w with heap:=w.heap.setIfInBounds b (.map es' c') }:=by
     rw [hs,hvx,h1];simp only [Sem.run_bind,r1,Result.andThen_ok,Sem.run_pure]
    obtain ⟨q1,q2⟩:=heap_set (o':=.map es' c') h4
    have hlt:b<w.heap.size:=(Array.getElem?_eq_some_iff.1 h4).1
    have hsz:({ w with heap:=w.heap.setIfInBounds b (.map es' c') }:World).heap.size=w.heap.size:=by simp
    have hbW:W.heap.size≤b∨W.x b:=(hI.plain k b (by simp [h2])).1
    have hUk:U k:=Classical.byContradiction fun hn=>by have:=hU.gone _ hn;rw [hk] at this;simp at this
    have hmv:∀b',b'<w.heap.size→¬g.own b'→({ w with heap:=w.heap.setIfInBounds b (.map es' c') }:World).heap[b']?=w.heap[b']?:=fun b' _ hn=>q2 b' fun e=>hn (.inl ⟨k,by simp [h2,e]⟩)
    refine ⟨g,undef,_,.inr ⟨hrun,rfl⟩,?_,rfl,fun x u hx hu=>hu.move hx (fun _ _=>rfl) hmv (Qt.refl _ _) (Nat.le_of_eq hsz.symm),trivial,fun q=>?_,fun q hq=>?_⟩
    ·refine hI.step (U:=U) (fun q=>q=k) ?_ rfl (fun b' _ hn=>q2 b' fun e=>hn k rfl (by simp [h2,e])) (fun q hq=>⟨ZI _ _ hq,rfl,rfl,rfl⟩) hU.ob (fun _ _=>rfl) (Qt.refl _ _) (fun q hq=>?_)
     ·exact ⟨hI.below.os,hI.below.tape,hI.below.output,Nat.le_trans hI.below.size (Nat.le_of_eq hsz.symm),fun q hq hx=>by
       show (w.heap.setIfInBounds b (.map es' c'))[q]?=_
       rw [q2 q (fun e=>by subst e;rcases hbW with h | h;omega;exact hx h)];exact hI.below.block q hq hx⟩
     ·subst hq
      refine ⟨?_,hI.nodup q,fun b' m=>?_,hI.apart q⟩
      ·simp only [Zk,Zw]
       exact ⟨b,es',c',h1,h2,h3,q1,r2,r3⟩
      ·simp [h2,h3] at m
       subst m
       refine ⟨hbW,?_⟩
       simp only [Zk,Zw]
       exact ⟨_,_,q1⟩
    ·simp only [Zk,upd]
     split
     ·trivial
     ·exact (hU.ob q).mono fun _=>.inl
    ·simp only [Zk,upd]
     split
     ·rename_i e;subst e;exact absurd (.inl hUk) hq
     ·exact hU.gone q fun h=>hq (.inl h)
   ·simp at h
  ·simp at h
 ·simp at h
theorem ZqJ [NW]:∀{cs:List AV} {l:List CT} {vs:List Value},Zh2.zBox cs=some l→ZH (AVR g w) cs vs→∃L,RCs w l vs L∧∀b∈L,¬g.own b
 | [],l,[],h,_=>by simp [Zh2.zBox] at h;subst h;exact ⟨[],⟨rfl,rfl⟩,by simp⟩
 | [],_,_::_,_,h=>h.elim
 | _::_,_,[],_,h=>h.elim
 | x::r,l,v::vs,h,hr=>by
  cases x with
  | c x=>
   simp only [Zh2.zBox] at h
   obtain ⟨b,hb,rfl⟩:=Option.map_eq_some_iff.1 h
   obtain ⟨L,h1,h2⟩:=ZqJ hb hr.2
   obtain ⟨L0,h3,h4⟩:=hr.1
   refine ⟨L0++L,⟨v,vs,L0,L,rfl,rfl,h3,h1⟩,fun b mb=>?_⟩
   rcases List.mem_append.1 mb with m | m
   ·exact h4 b m
   ·exact h2 b m
  | _=>simp [Zh2.zBox] at h
theorem Zrd {x:SV} {r:CT × List (Nat × Ob)} (h:Zh2 st x=some r):(∀p∈r.2,p.2=Ob.gone∧∃t cs,st.ob p.1=.box t cs):=by
 unfold Zh2 at h
 split at h
 ·split at h
  ·rename_i k _ t cs hk
   obtain ⟨l,_,rfl⟩:=Option.map_eq_some_iff.1 h
   intro p mp;simp at mp;subst mp
   exact ⟨rfl,t,cs,hk⟩
  ·simp at h
 ·simp only [Option.some.injEq] at h;subst h;intro p mp;simp at mp
 ·simp at h
theorem Ztq [NW] {ob:Nat→Ob} (hI:HI W g ob w) {x:SV} {r:CT × List (Nat × Ob)} {v:Value} (h:Zh2 st x=some r) (hob:∀p∈r.2,ob p.1=st.ob p.1) (hx:SVR g w x v):
  ∃g1:Gh,HI W g1 (Zk ob r.2) w∧g1.val=g.val∧Xs g1 g∧∃L,RC w r.1 v L∧∀b∈L,¬g1.own b:=by
 unfold Zh2 at h
 split at h
 ·rename_i k
  split at h
  ·rename_i t cs hk
   obtain ⟨l,hl,rfl⟩:=Option.map_eq_some_iff.1 h
   have hk':ob k=.box t cs:=(hob (k,.gone) (by simp)).trans hk
   obtain ⟨g1,i1,i2,i3,b,vs,j1,j2,j3,j4,j5⟩:=Zs0 hI hk'
   obtain ⟨L,l1,l2⟩:=ZqJ hl j5
   obtain ⟨b',e1,rfl⟩:=hx
   rw [j1] at e1
   simp at e1
   subst e1
   refine ⟨g1,i1,i2,i3,b::L,⟨b,vs,L,rfl,j3,rfl,j4,l1⟩,fun x mx=>?_⟩
   rcases List.mem_cons.1 mx with rfl | mx
   ·exact j2
   ·exact fun hx=>l2 x mx (i3.own x hx)
  ·simp at h
 ·simp only [Option.some.injEq] at h;subst h
  obtain ⟨y,hy,hx⟩:=hx
  simp at hy;subst hy
  obtain ⟨L,h1,h2⟩:=hx
  exact ⟨g,hI,rfl,Xs.refl _,L,h1,h2⟩
 ·simp at h
theorem Zpa [NW]:∀{xs:List SV} {ob:Nat→Ob} {g:Gh} {r:List CT × List (Nat × Ob)} {vs:List Value},HI W g ob w→ZdM st xs=some r→(r.2.map (·.1)).Nodup→(∀p∈r.2,ob p.1=st.ob p.1)→ZH (SVR g w) xs vs→
  ∃g1:Gh,HI W g1 (Zk ob r.2) w∧g1.val=g.val∧Xs g1 g∧∃L,RCs w r.1 vs L∧∀b∈L,¬g1.own b
 | [],ob,g,r,vs,hI,h,_,_,hr=>by
  simp [ZdM] at h;subst h
  cases vs with
  | nil=>exact ⟨g,hI,rfl,Xs.refl _,[],⟨rfl,rfl⟩,by simp⟩
  | cons _ _=>exact hr.elim
 | x::xs,ob,g,r,[],hI,h,_,_,hr=>hr.elim
 | x::xs,ob,g,r,v::vs,hI,h,hn,hob,hr=>by
  simp only [ZdM] at h
  obtain ⟨a,ha,h⟩:=Option.bind_eq_some_iff.1 h
  obtain ⟨b,hb,rfl⟩:=Option.map_eq_some_iff.1 h
  simp only [List.map_append,List.nodup_append] at hn
  obtain ⟨n1,n2,n3⟩:=hn
  obtain ⟨g1,i1,i2,i3,L1,l1,l2⟩:=Ztq hI ha (fun p m=>hob p (by simp [m])) hr.1
  have hob2:∀p∈b.2,Zk ob a.2 p.1=st.ob p.1:=fun p mp=>by
   have hne:∀q∈a.2,q.1≠p.1:=fun q mq=>n3 q.1 (List.mem_map.2 ⟨q,mq,rfl⟩) p.1 (List.mem_map.2 ⟨p,mp,rfl⟩)
   have:∀(u:List (Nat × Ob)) (ob:Nat→Ob),(∀q∈u,q.1≠p.1)→Zk ob u p.1=ob p.1:=by
    intro u
    induction u with
    | nil=>intro ob _;rfl
    | cons q u ih=>intro ob h;rw [Zk,ih _ fun z mz=>h z (by simp [mz])];exact ZI _ _ fun e=>h q (by simp) e.symm
   rw [this _ _ hne]
   exact hob p (by simp [mp])
  have hr2:ZH (SVR g1 w) xs vs:=hr.2.mono fun x u _ hx=>hx.less i2 i3
  obtain ⟨g2,k1,k2,k3,L2,m1,m2⟩:=Zpa i1 hb n2 hob2 hr2
  refine ⟨g2,?_,k2.trans i2,k3.trans i3,L1++L2,⟨v,vs,L1,L2,rfl,rfl,l1,m1⟩,fun x mx=>?_⟩
  ·rw [YR];exact k1
  ·rcases List.mem_append.1 mx with m | m
   ·exact fun hx=>l2 x m (k3.own x hx)
   ·exact m2 x m
theorem ZkN [NW]:∀{xs:List SV} {r:List CT × List (Nat × Ob)},ZdM st xs=some r→∀p∈r.2,p.2=Ob.gone∧∃t cs,st.ob p.1=.box t cs
 | [],r,h=>by simp [ZdM] at h;subst h;intro p m;simp at m
 | x::xs,r,h=>by
  simp only [ZdM] at h
  obtain ⟨a,ha,h⟩:=Option.bind_eq_some_iff.1 h
  obtain ⟨b,hb,rfl⟩:=Option.map_eq_some_iff.1 h
  intro p m
  rcases List.mem_append.1 m with m | m
  ·exact Zrd ha p m
  ·exact ZkN hb p m
theorem Zu0 [NW] (hI:HI W g st.ob w) (hU:StU U st) {f:FuncId} {xs:List SV} {vs:List Value} {r:List CT × List (Nat × Ob)} (h:ZdM st xs=some r) (hn:(r.2.map (·.1)).Nodup) (hr:ZH (SVR g w) xs vs) {s:Sem Next} (hs:s.run P w=.ok (.value (.func (.func f) #[] vs.toArray)) w):Fin P W U key st g w s (.p false [.c (.fn f r.1)],r.2):=by
 obtain ⟨g1,i1,i2,i3,L,l1,l2⟩:=Zpa hI h hn (fun _ _=>rfl) hr
 have hg:=ZkN h
 have hall:∀(u:List (Nat × Ob)) (ob:Nat→Ob) (k:Nat),(∀p∈u,p.2=Ob.gone)→Zk ob u k=ob k∨Zk ob u k=.gone:=by
  intro u
  induction u with
  | nil=>intro ob k _;exact .inl rfl
  | cons q u ih=>
   intro ob k h
   rw [Zk]
   rcases ih (upd ob q.1 q.2) k (fun p m=>h p (by simp [m])) with e | e
   ·rw [e]
    by_cases hk:k=q.1
    ·right;rw [hk,Zw];exact h q (by simp)
    ·left;exact ZI _ _ hk
   ·exact .inr e
 refine ⟨g1,_,w,.inl hs,i1,⟨_,rfl,L,⟨vs,rfl,l1⟩,l2⟩,fun x u _ hx=>hx.less i2 i3,Xt _,fun k=>?_,fun k hk=>?_⟩
 ·rcases hall r.2 st.ob k (fun p m=>(hg p m).1) with e | e
  ·rw [e];exact (hU.ob k).mono fun _=>.inl
  ·rw [e];trivial
 ·rcases hall r.2 st.ob k (fun p m=>(hg p m).1) with e | e
  ·rw [e];exact hU.gone k fun h=>hk (.inl h)
  ·exact e
end
end Go.Proofs.YtojnhepgnbhaaaaGreatDoor
namespace Go.Proofs.YtojnhepgnbhaaaaGreatDoor
open Go.RowKit
section
variable {P:Program} {W:Q8} {U:Nat→Prop} {key:Nat} {st:St} {g:Gh} {w w':World} {a:Act} {tt:Nat→Option TI}
theorem Zet:∀(ts:List TypeId) (xs:List Operand),(ZhK ts xs).map (·.2)=xs
 | _,[]=>by cases ‹List TypeId›<;>rfl
 | [],x::xs=>by simp [ZhK,Zet [] xs]
 | t::ts,x::xs=>by simp [ZhK,Zet ts xs]
theorem Zry [NW] (htt:∀t i,tt t=some i→TOk P t i) {t:Nat} {z:List AV} (h:Zlo (tt t)=some z):∃zv vs,(zeroValue t).run P w=.ok zv w∧zv.cells=(vs:List Value).toArray∧ZH (AVR g w) z vs∧Qz U z:=by
 unfold Zlo at h
 split at h<;>simp only [Option.some.injEq,reduceCtorEq] at h<;>subst h<;>rename_i hti
 ·obtain ⟨d,zv,i,h1,h2,h3,h4,h5,h6⟩:=htt t _ hti
  have hr:AVR g w _ zv:=Zex h6
  exact ⟨zv,[zv],Zij h3 h4,by rw [Zmu hr.one],⟨hr,trivial⟩,fun y m=>by
   simp at m;subst m
   cases y<;>first | trivial | simp [Q7] at h6⟩
 ·obtain ⟨fields,i,zvs,h1,h2,h3,h4,h5,_⟩:=htt t _ hti
  obtain ⟨q1,q2⟩:=Zg8 (g:=g) (w:=w) (U:=U) h5
  exact ⟨.agg zvs,zvs.toList,Zij h2 h4,by simp [Value.cells],q1,q2⟩
 ·obtain ⟨_,hm,_,_,j,h1,h2,h3⟩:=htt t _ hti
  exact ⟨_,[.slice none 0 0],Zij h1 h3,rfl,⟨rfl,trivial⟩,fun y m=>by simp at m;subst m;trivial⟩
set_option maxHeartbeats 1000000 in
theorem Zms [NW] (htt:∀t i,tt t=some i→TOk P t i) (o:Oper) {r:SV × List (Nat × Ob)} (hr:opE tt key o st=some r) (hI:HI W g st.ob w) (hS:∀t,SVR g w (st.sl t) (a.tmps.getD t undef)) (hU:StU U st) (hkey:¬U key):
  Fin P W U key st g w (execOp a.eval o) r:=by
 have ev:=fun t x=>Zjj (P:=P) (a:=a) (g:=g) (w:=w) (U:=U) htt hS hU t x
 have pur:∀{v:Option SV} {s:Sem Value},Zbn v=some r→execOp a.eval o=(do pure (.value (←s)))→(∀u,v=some u→∃cv,s.run P w=.ok cv w∧SVR g w u cv∧svU U u)→Fin P W U key st g w (execOp a.eval o) r:=fun {v s} hp he hv=>by
  obtain ⟨u,hu,rfl⟩:=Option.map_eq_some_iff.1 hp
  obtain ⟨cv,c1,c2,c3⟩:=hv u hu
  exact Zah hI hU (by rw [he];simp only [Sem.run_bind,c1,Result.andThen_ok,Sem.run_pure]) c2 c3
 obtain ⟨dst,op,ty,pos,af,gd⟩:=o
 cases op with
 | move x=>
  simp only [opE,Option.some.injEq] at hr;subst hr
  exact Zah hI hU rfl (ev ty x).1 (ev ty x).2
 | assign x=>
  simp only [opE,Option.some.injEq] at hr;subst hr
  exact Zah hI hU rfl (ev ty x).1 (ev ty x).2
 | pick c x y=>
  simp only [opE] at hr
  split at hr
  ·rename_i b hb
   simp only [Option.some.injEq] at hr;subst hr
   have hc:=(ev 0 c).1
   rw [hb] at hc
   obtain ⟨cv,c1,c2,c3⟩:=Zt2 (P:=P) hc (ev ty x) (ev ty y)
   exact Zah hI hU c1 c2 c3
  ·simp at hr
 | alloc t=>
  simp only [opE] at hr
  obtain ⟨z,hz,rfl⟩:=Option.map_eq_some_iff.1 hr
  obtain ⟨zv,vs,h1,h2,h3,h4⟩:=Zry (P:=P) (g:=g) (w:=w) (U:=U) htt hz
  exact Zte hI hU hkey h3 h4 (by simp [execOp,Instr.alloc,h1,newVar,newRow,h2])
 | box t x=>
  simp only [opE] at hr
  split at hr
  ·rename_i ag cs hx
   simp only [Option.some.injEq] at hr;subst hr
   have hv:=ev t x
   rw [hx] at hv
   obtain ⟨vs,h2,h3⟩:=PVR.cells hv.1
   exact Zte hI hU hkey h3 hv.2 (by simp [execOp,Instr.box,newVar,newRow,h2])
  ·simp at hr
 | build t parts=>
  simp only [opE] at hr
  split at hr
  ·rename_i fs n z hti
   obtain ⟨cs,hcs,rfl⟩:=Option.map_eq_some_iff.1 hr
   obtain ⟨cv,c1,c2,c3⟩:=ZrX (P:=P) htt hS hU hti hcs
   exact Zah hI hU (by simp only [execOp,Sem.run_bind,c1,Result.andThen_ok,Sem.run_pure]) c2 c3
  ·simp at hr
 | buildSlice t len parts=>
  simp only [opE] at hr
  split at hr
  ·rename_i e m bytes z hti
   obtain ⟨⟨xs,ks,d⟩,h1,hr⟩:=Option.bind_eq_some_iff.1 hr
   split at hr
   ·rename_i hc
    simp only [Option.some.injEq] at hr;subst hr
    exact Zxd htt hI hS hU hkey hti h1 hc.1 hc.2.1 hc.2.2.1 rfl
   ·simp at hr
  ·simp at hr
 | load t x=>exact pur hr rfl fun u hu=>ZqM htt hI hU hu (ev 0 x).1
 | store t x v=>
  simp only [opE] at hr
  obtain ⟨u,hu,rfl⟩:=Option.map_eq_some_iff.1 hr
  have hx:=ev 0 x
  have hv:=ev t v
  unfold ZkJ at hu
  split at hu
  ·rename_i k off ag vs he1 he2
   rw [he1] at hx
   rw [he2] at hv
   split at hu
   ·rename_i tb cs hk
    split at hu
    ·rename_i hc
     simp only [Option.some.injEq] at hu;subst hu
     exact Zsm htt hI hU hk hc.1 hc.2.2 hx.1 hv.1 hv.2 hc.2.1 rfl
    ·simp at hu
   ·simp at hu
  ·rename_i k m i off ag vs he1 he2
   rw [he1] at hx
   rw [he2] at hv
   split at hu
   ·rename_i e m' xs d hk
    obtain ⟨y,hy,hu⟩:=Option.bind_eq_some_iff.1 hu
    obtain ⟨ys,hys,hu⟩:=Option.bind_eq_some_iff.1 hu
    split at hu
    ·rename_i hc
     simp only [Option.some.injEq] at hu;subst hu
     obtain ⟨rfl,hc1,hc2,hc3,hc4⟩:=hc
     exact Zr4 htt hI hU hk (by omega) hy hys hc1 hc3 hx.1 hv.1 hc2 rfl
    ·simp at hu
   ·simp at hu
  ·simp at hu
 | nilCheck x=>
  simp only [opE] at hr
  have hx:=ev 0 x
  split at hr<;>simp only [Option.some.injEq,reduceCtorEq] at hr<;>subst hr<;>rename_i he<;>rw [he] at hx
  ·obtain ⟨b,_,hv⟩:=hx.1
   exact Zah hI hU (cv:=a.eval x) (by simp [execOp,hv]) hx.1 hx.2
  ·obtain ⟨b,_,_,_,hv⟩:=hx.1
   exact Zah hI hU (cv:=a.eval x) (by simp [execOp,hv]) hx.1 hx.2
  ·obtain ⟨b,_,_,_,hv,_⟩:=hx.1
   exact Zah hI hU (cv:=a.eval x) (by simp [execOp,hv]) hx.1 hx.2
  ·obtain ⟨b,_,_,hv,_⟩:=Zqv hx.1
   exact Zah hI hU (cv:=a.eval x) (by simp [execOp,hv]) hx.1 hx.2
 | binOp op t x y t'=>exact pur hr rfl fun u hu=>ZtV htt hu (ev t x).1 (ev t y).1
 | unOp op t x=>exact pur hr rfl fun u hu=>ZxX hu (ev 0 x).1
 | convert s t x=>exact pur hr rfl fun u hu=>Zs7 htt hI hu (ev 0 x).1
 | makeSlice t n c=>
  simp only [opE] at hr
  have hn:=(ev 0 n).1
  have hc:=(ev 0 c).1
  unfold ZoS at hr
  split at hr
  ·rename_i n' c' he1 he2
   rw [he1] at hn
   rw [he2] at hc
   split at hr
   ·rename_i e m bytes z hti
    obtain ⟨ze,hz,hr⟩:=Option.bind_eq_some_iff.1 hr
    split at hr
    ·rename_i hq
     simp only [Option.some.injEq] at hr;subst hr
     obtain ⟨h0,rfl,h1⟩:=hq
     have e1:=Zbd hn
     have e2:=Zbd hc
     obtain ⟨n'',rfl⟩:=Int.eq_ofNat_of_zero_le h0
     simp only [Int.toNat_natCast]
     exact ZtE htt hI hU hkey hti hz (by omega) (by simp only [execOp,e1,e2])
    ·simp at hr
   ·simp at hr
  ·simp at hr
 | slice t x lo hi mx=>
  cases mx with
  | some _=>simp [opE] at hr
  | none=>
   refine Zrh (vlo:=lo.map a.eval) (vhi:=hi.map a.eval) htt hI hU hkey hr (ev 0 x).1 ?_ ?_ rfl
   ·cases lo with
    | none=>trivial
    | some y=>exact (ev 0 y).1
   ·cases hi with
    | none=>trivial
    | some y=>exact (ev 0 y).1
 | fieldAddr t x f=>
  simp only [opE] at hr
  split at hr
  ·rename_i fs n z hti
   refine pur hr rfl fun u hu=>?_
   obtain ⟨fi,hf,hu⟩:=Option.bind_eq_some_iff.1 hu
   exact ZwU htt hti hf hu (ev 0 x).1 (ev 0 x).2
  ·simp at hr
 | field t x f=>
  simp only [opE] at hr
  split at hr
  ·rename_i fs n z hti
   exact pur hr rfl fun u hu=>Zwb htt hti hu (ev 0 x).1 (ev 0 x).2
  ·simp at hr
 | indexAddr t x i=>
  simp only [opE] at hr
  split at hr
  ·rename_i e m bytes z hti
   exact pur hr rfl fun u hu=>Zwt htt hI hU hti hu (ev 0 x).1 (ev 0 x).2 (ev 0 i).1
  ·simp at hr
 | index t x i=>exact pur hr rfl fun u hu=>Zum htt hu (ev 0 x).1 (ev 0 i).1
 | makeFunc fn first caps=>
  cases fn with
  | func f=>
   simp only [opE] at hr
   split at hr
   ·rename_i h0
    obtain ⟨q,hq,hr⟩:=Option.bind_eq_some_iff.1 hr
    split at hr
    ·rename_i hn
     simp only [Option.some.injEq] at hr;subst hr
     have hf:first=#[]:=by simpa using h0
     have hall:ZH (SVR g w) (caps.toList.map (st.ev tt 0)) (caps.toList.map a.eval):=ZH.of_map _ _ fun x _=>(ev 0 x).1
     refine Zu0 hI hU hq hn hall ?_
     have e1:(caps.toList.map a.eval).toArray=caps.map a.eval:=by apply Array.ext';simp
     rw [e1]
     simp [execOp,Instr.makeFunc,hf]
    ·simp at hr
   ·simp at hr
  | _=>simp [opE] at hr
 | makeMap t res=>
  cases res with
  | none=>
   simp only [opE] at hr
   exact Zxn htt hI hU hkey hr rfl
  | some _=>simp [opE] at hr
 | lookup t x i ok=>exact pur hr rfl fun u hu=>ZtJ htt hI hu (ev 0 x).1 (ev 0 i).1
 | mapUpdate t x i v=>
  simp only [opE] at hr
  obtain ⟨u,hu,rfl⟩:=Option.map_eq_some_iff.1 hr
  exact ZvE htt hI hU hu (ev 0 x).1 (ev 0 i).1 (ev 0 v).1 rfl
 | extract x i=>exact pur hr rfl fun u hu=>Zv2 hu (ev 0 x).1 (ev 0 x).2
 | call c=>
  obtain ⟨callee,args,ts⟩:=c
  cases callee with
  | builtin b=>
   simp only [opE] at hr
   have hts:∀l:List TypeId,ts.toList=l→ts=l.toArray:=fun l h=>by rw [←h]
   have one:∀v,evs tt st ts.toList args.toList=[v]→∃x,args=#[x]∧SVR g w v (a.eval x)∧svU U v:=fun v h=>by
    obtain ⟨args⟩:=args
    generalize ts.toList=l at h
    cases args with
    | nil=>cases l<;>simp [evs,ZhK] at h
    | cons x xs=>
     cases xs with
     | nil=>
      refine ⟨x,rfl,?_⟩
      cases l with
      | nil=>simp only [evs,ZhK,List.map_cons,List.map_nil,List.cons.injEq,and_true] at h;rw [←h];exact ev _ _
      | cons t l=>cases l<;>(simp only [evs,ZhK,List.map_cons,List.map_nil,List.cons.injEq,and_true] at h;rw [←h];exact ev _ _)
     | cons y ys=>cases l with
      | nil=>simp [evs,ZhK] at h
      | cons t l=>cases l<;>simp [evs,ZhK] at h
   have two:∀v u,evs tt st ts.toList args.toList=[v,u]→∃x y,args=#[x,y]∧(SVR g w v (a.eval x)∧svU U v)∧SVR g w u (a.eval y)∧svU U u:=fun v u h=>by
    obtain ⟨args⟩:=args
    have h2:=congrArg List.length h
    have h3:(evs tt st ts.toList args).length=args.length:=by
     have:=congrArg List.length (Zet ts.toList args)
     simpa [evs] using this
    have h4:args.length=2:=by rw [←h3];exact h2
    obtain ⟨x,y,rfl⟩:∃x y,args=[x,y]:=by
     match args,h4 with
     | [x,y],_=>exact ⟨x,y,rfl⟩
    refine ⟨x,y,rfl,?_⟩
    have h5:∃t1 t2,evs tt st ts.toList [x,y]=[st.ev tt t1 x,st.ev tt t2 y]:=by
     generalize ts.toList=l
     cases l with
     | nil=>exact ⟨0,0,rfl⟩
     | cons t1 l=>cases l with
      | nil=>exact ⟨t1,0,rfl⟩
      | cons t2 l=>exact ⟨t1,t2,by cases l<;>rfl⟩
    obtain ⟨t1,t2,h5⟩:=h5
    rw [h5] at h
    simp only [List.cons.injEq,and_true] at h
    rw [←h.1,←h.2]
    exact ⟨ev _ _,ev _ _⟩
   unfold Zqb at hr
   split at hr
   ·rename_i t _ v he1 he2
    have e1:=hts _ he1
    obtain ⟨x,rfl,hx,_⟩:=one _ he2
    exact pur (s:=Builtin.len_ ts ty #[a.eval x]) hr (by simp [execOp,resolve,invoke,builtin]) fun u hu=>ZuK htt hI (by simp [e1]) hu hx
   ·rename_i t u v1 v2 he1 he2
    have e1:=hts _ he1
    obtain ⟨x,y,rfl,hx,hy⟩:=two _ _ he2
    split at hr
    ·rename_i he
     subst he
     exact ZxN htt hI hU hkey hr hx hy (ty:=ty) (by simp [execOp,resolve,invoke,builtin,e1])
    ·simp at hr
   ·rename_i v1 v2 he2
    obtain ⟨x,y,rfl,hx,hy⟩:=two _ _ he2
    refine pur (s:=Builtin.max_ ts ty #[a.eval x,a.eval y]) hr (by simp [execOp,resolve,invoke,builtin]) fun u hu=>?_
    have:=ZsY (P:=P) (U:=U) (ts:=ts) (ty:=ty) hu hx.1 hy.1
    simpa using this
   ·rename_i v1 v2 he2
    obtain ⟨x,y,rfl,hx,hy⟩:=two _ _ he2
    refine pur (s:=Builtin.min_ ts ty #[a.eval x,a.eval y]) hr (by simp [execOp,resolve,invoke,builtin]) fun u hu=>?_
    have:=ZsY (P:=P) (U:=U) (ts:=ts) (ty:=ty) hu hx.1 hy.1
    simpa using this
   ·simp at hr
  | value f=>simp [opE] at hr
  | invoke r m=>simp [opE] at hr
 | _=>simp [opE] at hr
end
end Go.Proofs.YtojnhepgnbhaaaaGreatDoor
