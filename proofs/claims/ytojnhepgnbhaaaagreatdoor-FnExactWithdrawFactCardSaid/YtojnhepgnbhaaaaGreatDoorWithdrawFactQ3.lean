/- Texts of this proof, joined: F8, S15, S16, S17, L13C, R11, S18, S19, S20, S21, S22, S23, BInv, BRun, BOps1, BOps2, BOps3, BOps4, BOps5, BOps6. What each holds is said at its theorems. -/
import Derived.Test.YtojnhepgnbhaaaaGreatDoorWithdrawFactQ2
import Derived.Test.YtojnhepgnbhaaaaGreatDoorWithdrawFactQ1
import Derived.Laws.CopyRow
import Derived.Laws.OwnMore
import Derived.Laws.StructEq
import Derived.Laws.Tables
import Derived.Great.BuildSlice
set_option linter.unusedSimpArgs false
set_option linter.unusedVariables false
namespace Go.Proofs.YtojnhepgnbhaaaaGreatDoor
open Classical
section
variable {α σ ρ:Type} {body:Nat→α→σ→Option (σ ⊕ ρ)} {fin:σ→Option ρ}
theorem Zks (st:List α→σ) (ok:List α→Prop) [DecidablePred ok] (q:ρ) (l:List α) (h0:ok []) (mono:∀p r,l=p++r→ok l→ok p)
  (h:∀p x r,l=p++x::r→ok p→body p.length x (st p)=if ok (p++[x]) then some (.inl (st (p++[x]))) else some (.inr q)):Zp body fin l 0 (st [])=if ok l then fin (st l) else some q:=by
 have key:∀(r pre:List α),l=pre++r→ok pre→Zp body fin r pre.length (st pre)=if ok l then fin (st l) else some q:=by
  intro r
  induction r with
  | nil=>intro pre e hp;rw [List.append_nil] at e;subst e;rw [if_pos hp];rfl
  | cons x r ih=>
   intro pre e hp
   have hx:=h pre x r e hp
   have e2:l=(pre++[x])++r:=by rw [e];simp
   by_cases hk:ok (pre++[x])
   ·rw [if_pos hk] at hx
    rw [Ye hx]
    simpa using ih (pre++[x]) e2 hk
   ·rw [if_neg hk] at hx
    rw [Yy hx,if_neg fun hl=>hk (mono _ _ e2 hl)]
 exact key l [] rfl h0
end
noncomputable def Ztv:List Zc→Zc→Nat→Int
 | [],_,_=>-1
 | x::l,f,i=>if x=f then ((i:Nat):Int) else Ztv l f (i+1)
noncomputable def Y0 (l:List Zc) (f:Zc):Int:=Ztv l f 0
theorem ZbO (l:List Zc) (f:Zc):Yh l f=some (Y0 l f):=by
 unfold Yh Y0
 generalize 0=i
 induction l generalizing i with
 | nil=>rfl
 | cons x l ih=>
  by_cases hx:x=f
  ·rw [Yy (r:=((i:Nat):Int)) (by rw [ZbM,Option.bind_some,if_pos (decide_eq_true hx)])]
   simp [Ztv,hx]
  ·rw [Ye (s':=()) (by rw [ZbM,Option.bind_some,if_neg (by simpa using hx)]),ih (i+1)]
   simp [Ztv,hx]
theorem Zd6 (l:List Zc) (f:Zc):Zau l f=some (Y0 l f):=ZbO l f
theorem ZB4 {f:Zc}:∀{l:List Zc} {i:Nat},(f∉l∧Ztv l f i=-1)∨∃j,Ztv l f i=((i+j:Nat):Int)∧l[j]?=some f
 | [],i=>.inl ⟨by simp,rfl⟩
 | x::l,i=>by
  unfold Ztv
  by_cases hx:x=f
  ·rw [if_pos hx];exact .inr ⟨0,by simp,by simp [hx]⟩
  ·rw [if_neg hx]
   rcases ZB4 (f:=f) (l:=l) (i:=i+1) with ⟨h1,h2⟩ | ⟨j,h1,h2⟩
   ·exact .inl ⟨by simp only [List.mem_cons,not_or];exact ⟨fun e=>hx e.symm,h1⟩,h2⟩
   ·exact .inr ⟨j+1,by rw [h1];congr 1;omega,by simpa using h2⟩
theorem ZBH (l:List Zc) (f:Zc):(f∉l∧Y0 l f=-1)∨∃j,Y0 l f=((j:Nat):Int)∧l[j]?=some f:=by
 have:=ZB4 (f:=f) (l:=l) (i:=0)
 simpa [Y0] using this
theorem ZBY {l:List Zc} {f:Zc} (h:f∈l):∃j,Y0 l f=((j:Nat):Int)∧l[j]?=some f:=(ZBH l f).resolve_left fun h'=>h'.1 h
noncomputable def Zas (F l:List Zc):List Int:=l.foldl (fun row f=>if 0≤Y0 F f then Zdp row (Y0 F f) else row) []
theorem Zg6 (F:List Zc):∀(l:List Zc) (row:List Int),row.Pairwise (·<·)→(l.foldl (fun row f=>if 0≤Y0 F f then Zdp row (Y0 F f) else row) row).Pairwise (·<·)∧(∀x,x∈l.foldl (fun row f=>if 0≤Y0 F f then Zdp row (Y0 F f) else row) row↔x∈row∨∃f∈l,Y0 F f=x∧0≤x)∧(l.foldl (fun row f=>if 0≤Y0 F f then Zdp row (Y0 F f) else row) row).length≤row.length+l.length
 | [],row,h=>⟨h,by simp,by simp⟩
 | f::l,row,h=>by
  rw [List.foldl_cons]
  by_cases h0:0≤Y0 F f
  ·rw [if_pos h0]
   obtain ⟨h1,h2,h3⟩:=Zg6 F l (Zdp row (Y0 F f)) (ZnQ h)
   have:=Zo8 (Y0 F f) row
   refine ⟨h1,fun x=>?_,by simp only [List.length_cons];omega⟩
   rw [h2,Zls]
   constructor
   ·rintro ((rfl | h) | ⟨g,mg,e⟩)
    ·exact .inr ⟨f,by simp,rfl,h0⟩
    ·exact .inl h
    ·exact .inr ⟨g,by simp [mg],e⟩
   ·rintro (h | ⟨g,mg,e,e0⟩)
    ·exact .inl (.inr h)
    ·rcases List.mem_cons.1 mg with rfl | mg
     ·exact .inl (.inl e.symm)
     ·exact .inr ⟨g,mg,e,e0⟩
  ·rw [if_neg h0]
   obtain ⟨h1,h2,h3⟩:=Zg6 F l row h
   refine ⟨h1,fun x=>?_,by simp only [List.length_cons];omega⟩
   rw [h2]
   constructor
   ·rintro (h | ⟨g,mg,e⟩)
    ·exact .inl h
    ·exact .inr ⟨g,by simp [mg],e⟩
   ·rintro (h | ⟨g,mg,e,e0⟩)
    ·exact .inl h
    ·rcases List.mem_cons.1 mg with rfl | mg
     ·rw [e] at h0;exact absurd e0 h0
     ·exact .inr ⟨g,mg,e,e0⟩
theorem ZdK (F l:List Zc):(Zas F l).Pairwise (·<·)∧(∀x,x∈Zas F l↔∃f∈l,Y0 F f=x∧0≤x)∧(Zas F l).length≤l.length:=by
 obtain ⟨h1,h2,h3⟩:=Zg6 F l [] List.Pairwise.nil
 exact ⟨h1,fun x=>by rw [Zas,h2];simp,by simpa [Zas] using h3⟩
theorem ZnX (F p:List Zc) (f:Zc):Zas F (p++[f])=if 0≤Y0 F f then Zdp (Zas F p) (Y0 F f) else Zas F p:=by rw [Zas,List.foldl_append];rfl
theorem ZgL (F l:List Zc) (h:l.length≤1000000):Zbz F l=some (Zas F l):=by
 unfold Zbz
 have h0:Zas F []=[]:=rfl
 rw [←h0,ZaP (fun p=>Zas F p) l]
 intro p f q e
 have hp:p.length≤l.length:=by rw [e];simp
 have:=(ZdK F p).2.2
 rw [Zd6,Option.bind_some,ZnX]
 by_cases h0:0≤Y0 F f
 ·rw [if_pos (by simpa using h0),if_pos h0,Zn8 _ _ (by omega)]
  rfl
 ·rw [if_neg (by simpa using h0),if_neg h0]
noncomputable def ZaW (F l:List Zc):List Int:=l.foldl (fun row f=>if 0≤Y0 F f∧Y0 F f∉row then row++[Y0 F f] else row) []
theorem Zjb (F p:List Zc) (f:Zc):ZaW F (p++[f])=if 0≤Y0 F f∧Y0 F f∉ZaW F p then ZaW F p++[Y0 F f] else ZaW F p:=by rw [ZaW,List.foldl_append];rfl
theorem Zjt (F:List Zc):∀n (l:List Zc),l.length=n→(ZaW F l).Nodup∧(∀x,x∈ZaW F l↔∃f∈l,Y0 F f=x∧0≤x)∧(ZaW F l).length≤l.length:=by
 intro n
 induction n with
 | zero=>intro l hl;rw [List.eq_nil_of_length_eq_zero hl];simp [ZaW]
 | succ n ih=>
  intro l hl
  obtain ⟨p,f,rfl⟩:∃p f,l=p++[f]:=⟨l.dropLast,l.getLast (by intro e;simp [e] at hl),(List.dropLast_concat_getLast _).symm⟩
  obtain ⟨h1,h2,h3⟩:=ih p (by simpa using hl)
  rw [Zjb]
  by_cases hc:0≤Y0 F f∧Y0 F f∉ZaW F p
  ·rw [if_pos hc]
   refine ⟨by rw [List.nodup_append];exact ⟨h1,by simp,fun a ha b hb e=>by simp at hb;subst hb;subst e;exact hc.2 ha⟩,fun x=>?_,by simp;omega⟩
   rw [List.mem_append,h2]
   constructor
   ·rintro (⟨g,mg,e⟩ | h)
    ·exact ⟨g,by simp [mg],e⟩
    ·simp at h;subst h;exact ⟨f,by simp,rfl,hc.1⟩
   ·rintro ⟨g,mg,e,e0⟩
    rcases List.mem_append.1 mg with mg | mg
    ·exact .inl ⟨g,mg,e,e0⟩
    ·simp at mg;subst mg;exact .inr (by simp [e])
  ·rw [if_neg hc]
   refine ⟨h1,fun x=>?_,by simp;omega⟩
   rw [h2]
   constructor
   ·rintro ⟨g,mg,e⟩
    exact ⟨g,by simp [mg],e⟩
   ·rintro ⟨g,mg,e,e0⟩
    rcases List.mem_append.1 mg with mg | mg
    ·exact ⟨g,mg,e,e0⟩
    ·simp at mg;subst mg
     have:Y0 F g∈ZaW F p:=Classical.byContradiction fun hn=>hc ⟨by rw [e];exact e0,hn⟩
     rw [e] at this
     exact (h2 x).1 this
theorem Zhv (F l:List Zc) (h:l.length≤1000000):Zcy F l=some (Zas F l):=by
 unfold Zcy
 have h0:ZaW F []=[]:=rfl
 rw [←h0,ZaP (fun p=>ZaW F p) l]
 ·obtain ⟨h1,h2,h3⟩:=Zjt F _ l rfl
  obtain ⟨k1,k2,_⟩:=ZdK F l
  simp only [ZeM]
  rw [Zj _ (by omega),Option.bind_some,Zk7 (ZqZ h1) k1 fun x=>by rw [Zrl,h2,k2]]
 ·intro p f q e
  have hp:p.length≤l.length:=by rw [e];simp
  have h3:=(Zjt F _ p rfl).2.2
  rw [ZbO,Option.bind_some,Zjb]
  by_cases h0:0≤Y0 F f
  ·rw [if_pos (by simpa using h0),ZnV,Option.bind_some]
   by_cases hm:Y0 F f∈ZaW F p
   ·rw [if_pos (Zo6.2 hm),if_neg (fun h=>h.2 hm)]
   ·rw [if_neg (by rw [Zo6];exact hm),if_pos ⟨h0,hm⟩,Zj _ (by omega)]
    rfl
  ·rw [if_neg (by simpa using h0),if_neg (fun h=>h0 h.1)]
theorem ZdW (a b:List Int):Zbt a b=some (decide (a=b)):=by
 unfold Zbt
 by_cases h:a.length=b.length
 ·rw [if_neg (by simp;omega),X7 (p:=fun i x=>decide (b[i]?=some x)) (r:=false)]
  ·have:Zbr (fun i x=>decide (b[i]?=some x)) a 0=decide (a=b):=by
    rw [Bool.eq_iff_iff,decide_eq_true_iff]
    constructor
    ·intro ha
     apply List.ext_getElem?
     intro i
     by_cases hi:i<a.length
     ·have hx:=List.getElem?_eq_getElem hi
      have:=Zm3 ha i _ hx
      simp only [Nat.zero_add,decide_eq_true_eq] at this
      rw [hx,this]
     ·rw [List.getElem?_eq_none (by omega),List.getElem?_eq_none (by omega)]
    ·rintro rfl
     have:∀(l pre:List Int),Zbr (fun i x=>decide ((pre++l)[i]?=some x)) l pre.length=true:=by
      intro l
      induction l with
      | nil=>intro pre;rfl
      | cons x l ih=>
       intro pre
       simp only [Zbr,Bool.and_eq_true,decide_eq_true_eq]
       refine ⟨by simp,?_⟩
       have:=ih (pre++[x])
       simpa using this
     simpa using this a []
   rw [this]
   cases decide (a=b)<;>rfl
  ·intro j x hx
   have hj:=(List.getElem?_eq_some_iff.1 hx).1
   have hb:b[j]?=some b[j]:=List.getElem?_eq_getElem (by omega)
   rw [Nat.zero_add,Zcm,hb,Option.bind_some]
   by_cases he:x=b[j]
   ·simp [he]
   ·have:¬b[j]=x:=fun e=>he e.symm
    simp [he,this]
 ·rw [if_pos (by simp;omega),decide_eq_false (fun e=>h (by rw [e]))]
theorem Zal (a b:List Int):Zbc a b=some (decide (a=b)):=ZdW a b
theorem ZkS {a b:Zh} (h1:a.for_=b.for_) (h2:a.inn=b.inn) (h3:a.outs=b.outs):a=b:=by
 cases a;cases b;simp only at h1 h2 h3;subst h1 h2 h3;rfl
theorem ZjF (a b:Zh):Zbb a b=some (decide (a=b)):=by
 unfold Zbb
 by_cases h1:a.for_=b.for_
 ·rw [if_pos (by simpa using h1),ZdW,Option.bind_some]
  by_cases h2:a.inn=b.inn
  ·rw [if_pos (decide_eq_true h2),ZdW,Option.bind_some]
   congr 1
   rw [Bool.eq_iff_iff,decide_eq_true_iff,decide_eq_true_iff]
   exact ⟨ZkS h1 h2,fun e=>by rw [e]⟩
  ·rw [if_neg (by simpa using h2),decide_eq_false (fun e=>h2 (by rw [e]))]
 ·rw [if_neg (by simpa using h1),decide_eq_false (fun e=>h1 (by rw [e]))]
theorem ZkM (l:List Zh) (r:Zh):ZaK l r=some (decide (r∈l)):=by
 unfold ZaK
 rw [ZcB (p:=fun x=>decide (x=r)) (r:=true)]
 ·have:l.any (fun x=>decide (x=r))=decide (r∈l):=by
   rw [Bool.eq_iff_iff,List.any_eq_true,decide_eq_true_iff]
   exact ⟨fun ⟨x,mx,e⟩=>by rw [decide_eq_true_iff] at e;rw [←e];exact mx,fun h=>⟨r,h,by simp⟩⟩
  rw [this]
  cases decide (r∈l)<;>rfl
 ·intro i x mx
  rw [ZjF,Option.bind_some]
  cases decide (x=r)<;>rfl
theorem Zni (l:List Zh) (r:Zh):∃z,Zec l r=some z∧(0≤z↔r∈l):=by
 unfold Zec
 generalize 0=i
 induction l generalizing i with
 | nil=>exact ⟨-1,rfl,by simp⟩
 | cons x l ih=>
  by_cases hx:x=r
  ·subst hx
   refine ⟨((i:Nat):Int),Yy ?_,by simp⟩
   rw [if_pos (by simp),Zal,Option.bind_some,if_pos (by simp),Zal,Option.bind_some,if_pos (by simp)]
  ·obtain ⟨z,e,hz⟩:=ih (i+1)
   refine ⟨z,(Ye ?_).trans e,by rw [hz,List.mem_cons];exact ⟨.inr,fun h=>h.resolve_left fun e=>hx e.symm⟩⟩
   by_cases h1:x.for_=r.for_
   ·rw [if_pos (by simpa using h1),Zal,Option.bind_some]
    by_cases h2:x.inn=r.inn
    ·rw [if_pos (decide_eq_true h2),Zal,Option.bind_some,if_neg (by simpa using fun e=>hx (ZkS h1 h2 e))]
    ·rw [if_neg (by simpa using h2)]
   ·rw [if_neg (by simpa using h1)]
noncomputable def ZrB (r:Zf) (t:Zt):List Zc:=(r.cond.filter fun x=>x.kind==2).map fun x=>(Ze4 (Ze8 x.pattern t.binding)).1
noncomputable def Yi (F:List Zc) (r:Zf) (t:Zt) (a:Zr):Zh:={ for_:=Y0 F (Yx a t),inn:=Zas F t.facts,outs:=Zas F (ZrB r t) }
theorem ZoR {ρ:Type} {r:Zf} {t:Zt} (hr:r.cond.length≤1000000) {fin:List Zc→Option ρ} {body:Nat→Zm→List Zc→Option (List Zc ⊕ ρ)}
  (hb:∀i x row,row.length≤1000000→body i x row=if (x.kind==2)=true then some (.inl (row++[(Ze4 (Ze8 x.pattern t.binding)).1])) else some (.inl row)):Zp body fin r.cond 0 []=fin (ZrB r t):=by
 rw [YY (g:=fun x:Zm=>if (x.kind==2)=true then some (Ze4 (Ze8 x.pattern t.binding)).1 else none)]
 ·rw [List.nil_append]
  congr 1
  unfold ZrB
  induction r.cond with
  | nil=>rfl
  | cons x l ih=>
   by_cases hx:(x.kind==2)=true
   ·simp only [List.filterMap_cons,List.filter_cons,hx,if_true,List.map_cons,ih]
   ·simp only [List.filterMap_cons,List.filter_cons,hx,if_false,ih]
    simp
 ·intro j x s mx hs
  rw [hb _ _ _ (by simp at hs;omega)]
  by_cases hx:(x.kind==2)=true
  ·rw [if_pos hx,if_pos hx]
   rfl
  ·rw [if_neg hx,if_neg hx]
   simp
theorem ZkZ (r:Zf) (t:Zt):(ZrB r t).length≤r.cond.length:=by
 rw [ZrB,List.length_map]
 exact List.length_filter_le _ _
theorem Zj2 {F:List Zc} {r:Zf} {t:Zt} (hr:r.cond.length≤4) (ht:Zsr F t) {j:Nat} {a:Zr} (ha:r.thn[j]?=some a):ZaT r ((j:Nat):Int) t F=some (Yi F r t a):=by
 have hb:=ht.bind
 have hl:=ht.len
 have e1:∀p,Xi p t.binding=some (Ze4 (Ze8 p t.binding)):=fun p=>Zg0 p t.binding (by omega)
 unfold ZaT
 rw [Zcm,ha,Option.bind_some,e1,Option.bind_some,ZoR (t:=t) (by omega) (fun i x row hrow=>by rw [e1,Option.bind_some,Zj _ (by omega)])]
 have:=ZkZ r t
 rw [Zd6,Option.bind_some,ZgL _ _ (by omega),Option.bind_some,ZgL _ _ (by omega),Option.bind_some]
 rfl
noncomputable def ZiR (l:List Zh) (r:Zh):List Zh:=if r∈l then l else l++[r]
theorem ZsD (l:List Zh) (r:Zh):l.length≤(ZiR l r).length∧(ZiR l r).length≤l.length+1:=by
 unfold ZiR
 split<;>simp
theorem ZmQ:∀(c l:List Zh),l.length≤(c.foldl ZiR l).length∧(c.foldl ZiR l).length≤l.length+c.length
 | [],l=>by simp
 | r::c,l=>by
  have h1:=ZmQ c (ZiR l r)
  have h2:=ZsD l r
  simp only [List.foldl_cons,List.length_cons]
  omega
theorem Zj9 {α β:Type} {g:α→List β} {N:Nat}:∀{l:List α},(∀x∈l,(g x).length≤N)→(l.flatMap g).length≤N * l.length
 | [],_=>by simp
 | x::l,h=>by
  have h1:=h x (by simp)
  have h2:=Zj9 (l:=l) fun y my=>h y (by simp [my])
  rw [List.flatMap_cons,List.length_append,List.length_cons,Nat.mul_add]
  omega
noncomputable def QA {β:Type} (s:List Zh × List β) (p:Zh × β):List Zh × List β:=if p.1∈s.1 then s else (s.1++[p.1],s.2++[p.2])
theorem ZcO {β:Type}:∀(c:List (Zh × β)) (s:List Zh × List β),(c.foldl QA s).1=(c.map Prod.fst).foldl ZiR s.1∧(s.2.length=s.1.length→(c.foldl QA s).2.length=(c.foldl QA s).1.length)
 | [],s=>⟨rfl,fun h=>h⟩
 | p::c,s=>by
  obtain ⟨h1,h2⟩:=ZcO c (QA s p)
  have e:(QA s p).1=ZiR s.1 p.1:=by unfold QA ZiR;split<;>rfl
  refine ⟨by rw [List.foldl_cons,h1,e];rfl,fun h=>h2 ?_⟩
  unfold QA
  split
  ·exact h
  ·simp [h]
theorem Zh5 {β:Type} (c:List (Zh × β)) (s:List Zh × List β):s.1.length≤(c.foldl QA s).1.length∧(c.foldl QA s).1.length≤s.1.length+c.length:=by
 have:=ZmQ (c.map Prod.fst) s.1
 rw [(ZcO c s).1]
 simpa using this
section
variable {β:Type} (o:Zf→Zt→β) (F:List Zc)
noncomputable def Zl5 (r:Zf) (t:Zt):List (Zh × β):=r.thn.map fun a=>(Yi F r t a,o r t)
noncomputable def ZkG (r:Zf):List (Zh × β):=(ZQ (Zav r) F).flatMap (Zl5 o F r)
noncomputable def ZcT (base:List Zc):List Zh:=base.map fun f=>{ for_:=Y0 F f,inn:=[],outs:=[] }
noncomputable def Zan (z:β) (R:List Zf) (base:List Zc):List Zh × List β:=(R.flatMap (ZkG o F)).foldl QA (ZcT F base,base.map fun _=>z)
theorem Zpi (r:Zf) (t:Zt):(Zl5 o F r t).length=r.thn.length:=by simp [Zl5]
end
noncomputable def ZyV (F:List Zc) (r:Zf) (t:Zt):List Zh:=r.thn.map (Yi F r t)
noncomputable def Zsl (F:List Zc) (r:Zf):List Zh:=(ZQ (Zav r) F).flatMap (ZyV F r)
noncomputable def Zak (R:List Zf) (F base:List Zc):List Zh:=(R.flatMap (Zsl F)).foldl ZiR (ZcT F base)
theorem Zja {β:Type} (o:Zf→Zt→β) (F:List Zc) (z:β) (R:List Zf) (base:List Zc):(Zan o F z R base).1=Zak R F base∧(Zan o F z R base).2.length=(Zak R F base).length:=by
 obtain ⟨h1,h2⟩:=ZcO (R.flatMap (ZkG o F)) (ZcT F base,base.map fun _=>z)
 have e:(R.flatMap (ZkG o F)).map Prod.fst=R.flatMap (Zsl F):=by
  rw [List.map_flatMap]
  congr 1
  funext r
  rw [ZkG,Zsl,List.map_flatMap]
  congr 1
  funext t
  simp [Zl5,ZyV]
 have h3:(Zan o F z R base).1=Zak R F base:=by unfold Zan Zak;rw [h1,e]
 refine ⟨h3,?_⟩
 rw [←h3]
 exact h2 (by simp [ZcT])
section
variable {β ρ:Type} {o:Zf→Zt→β} {F:List Zc}
theorem ZmG {base:List Zc} (hl:base.length≤1000000) {z:β} {fin:List Zh × List β→Option ρ} {body:Nat→Zc→List Zh × List β→Option ((List Zh × List β) ⊕ ρ)}
  (hb:∀i f a b,a.length≤1000000→b.length≤1000000→body i f (a,b)=some (.inl (a++[{ for_:=Y0 F f,inn:=[],outs:=[] }],b++[z]))):Zp body fin base 0 ([],[])=fin (ZcT F base,base.map fun _=>z):=by
 have h0:(([],[]):List Zh × List β)=(ZcT F [],([]:List Zc).map fun _=>z):=rfl
 rw [h0,ZaP (fun p=>(ZcT F p,p.map fun _=>z)) base]
 intro p f q e
 have hp:p.length≤base.length:=by rw [e];simp
 rw [hb _ _ _ _ (by rw [ZcT,List.length_map];omega) (by rw [List.length_map];omega)]
 simp [ZcT]
theorem ZuR {r:Zf} {t:Zt} (hr2:r.thn.length≤2) {fin:List Zh × List β→Option ρ} {body:Nat→Zr→List Zh × List β→Option ((List Zh × List β) ⊕ ρ)} {s:List Zh × List β} (hl:s.1.length≤99999998) (hs:s.2.length=s.1.length)
  (hb:∀i a c d,c.length≤100000000→d.length≤100000000→body i a (c,d)=if decide (Yi F r t a∈c)=true then some (.inl (c,d)) else some (.inl (c++[Yi F r t a],d++[o r t]))):Zp body fin r.thn 0 s=fin ((Zl5 o F r t).foldl QA s):=by
 have h0:s=((([]:List Zr).map fun a=>(Yi F r t a,o r t))).foldl QA s:=rfl
 conv=>lhs;rw [h0]
 rw [ZaP (fun p:List Zr=>(p.map fun a=>(Yi F r t a,o r t)).foldl QA s) r.thn]
 ·rfl
 ·intro p a q e
  have hp:p.length≤r.thn.length:=by rw [e];simp
  have h1:=Zh5 (p.map fun a=>(Yi F r t a,o r t)) s
  have h2:=(ZcO (p.map fun a=>(Yi F r t a,o r t)) s).2 hs
  rw [List.length_map] at h1
  rw [List.map_append,List.foldl_append]
  generalize (p.map fun a=>(Yi F r t a,o r t)).foldl QA s=u at h1 h2 ⊢
  obtain ⟨c,d⟩:=u
  simp only at h1 h2
  rw [hb _ _ _ _ (by omega) (by omega)]
  show _=some (Sum.inl (QA (c,d) (Yi F r t a,o r t)))
  unfold QA
  by_cases hm:Yi F r t a∈c
  ·rw [if_pos (decide_eq_true hm),if_pos hm]
  ·rw [if_neg (by simpa using hm),if_neg hm]
theorem ZrT {α:Type} {g:α→List (Zh × β)} {L:List α} {M N:Nat} (hg:∀x∈L,(g x).length≤N) {fin:List Zh × List β→Option ρ} {body:Nat→α→List Zh × List β→Option ((List Zh × List β) ⊕ ρ)} {s:List Zh × List β} (hl:s.1.length+N * L.length≤M) (hs:s.2.length=s.1.length)
  (hb:∀i x u,x∈L→u.1.length≤M→u.2.length=u.1.length→body i x u=some (.inl ((g x).foldl QA u))):Zp body fin L 0 s=fin ((L.flatMap g).foldl QA s):=by
 have h0:s=(([]:List α).flatMap g).foldl QA s:=rfl
 conv=>lhs;rw [h0]
 rw [ZaP (fun p=>(p.flatMap g).foldl QA s) L]
 intro p x q e
 have hp:p.length≤L.length:=by rw [e];simp
 have h1:=Zh5 (p.flatMap g) s
 have h2:=(ZcO (p.flatMap g) s).2 hs
 have h3:=Zj9 (l:=p) (g:=g) (N:=N) fun y my=>hg y (by rw [e];simp [my])
 have h4:=Nat.mul_le_mul_left N hp
 rw [hb _ _ _ (by rw [e];simp) (by omega) h2,List.flatMap_append,List.foldl_append]
 simp
theorem ZuW {r:Zf} {t:Zt} {q:ρ} {fin:List Zh × List β→Option ρ} {body:Nat→Zr→List Zh × List β→Option ((List Zh × List β) ⊕ ρ)} {s:List Zh × List β} (hl:s.1.length≤60) (hs:s.2.length=s.1.length)
  (hb:∀j a c d,r.thn[j]?=some a→c.length≤60→d.length≤60→body j a (c,d)=if Yi F r t a∈c then some (.inl (c,d)) else if 60≤c.length then some (.inr q) else some (.inl (c++[Yi F r t a],d++[o r t]))):Zp body fin r.thn 0 s=if ((Zl5 o F r t).foldl QA s).1.length≤60 then fin ((Zl5 o F r t).foldl QA s) else some q:=by
 have h0:s=((([]:List Zr).map fun a=>(Yi F r t a,o r t))).foldl QA s:=rfl
 conv=>lhs;rw [h0]
 rw [Zks (fun p:List Zr=>(p.map fun a=>(Yi F r t a,o r t)).foldl QA s) (fun p=>((p.map fun a=>(Yi F r t a,o r t)).foldl QA s).1.length≤60) q r.thn (by simpa using hl) (fun p c e h=>by
  rw [e,List.map_append,List.foldl_append] at h
  exact Nat.le_trans (Zh5 _ _).1 h)]
 ·rfl
 ·intro p a c e h60
  have h2:=(ZcO (p.map fun a=>(Yi F r t a,o r t)) s).2 hs
  rw [List.map_append,List.foldl_append]
  generalize (p.map fun a=>(Yi F r t a,o r t)).foldl QA s=u at h60 h2 ⊢
  obtain ⟨x,y⟩:=u
  simp only at h60 h2
  rw [hb _ _ _ _ (by rw [e];simp) h60 (by omega)]
  show _=if (QA (x,y) (Yi F r t a,o r t)).1.length≤60 then some (Sum.inl (QA (x,y) (Yi F r t a,o r t))) else some (Sum.inr q)
  unfold QA
  by_cases hm:Yi F r t a∈x
  ·rw [if_pos hm,if_pos hm,if_pos h60]
  ·rw [if_neg hm,if_neg hm]
   by_cases h1:60≤x.length
   ·rw [if_pos h1,if_neg (by simp;omega)]
   ·rw [if_neg h1,if_pos (by simp;omega)]
theorem Zss {α:Type} {g:α→List (Zh × β)} {L:List α} {q:ρ} {fin:List Zh × List β→Option ρ} {body:Nat→α→List Zh × List β→Option ((List Zh × List β) ⊕ ρ)} {s:List Zh × List β} (hl:s.1.length≤60) (hs:s.2.length=s.1.length)
  (hb:∀i x u,x∈L→u.1.length≤60→u.2.length=u.1.length→body i x u=if ((g x).foldl QA u).1.length≤60 then some (.inl ((g x).foldl QA u)) else some (.inr q)):Zp body fin L 0 s=if ((L.flatMap g).foldl QA s).1.length≤60 then fin ((L.flatMap g).foldl QA s) else some q:=by
 have h0:s=(([]:List α).flatMap g).foldl QA s:=rfl
 conv=>lhs;rw [h0]
 rw [Zks (fun p=>(p.flatMap g).foldl QA s) (fun p=>((p.flatMap g).foldl QA s).1.length≤60) q L (by simpa using hl) (fun p c e h=>by
  rw [e,List.flatMap_append,List.foldl_append] at h
  exact Nat.le_trans (Zh5 _ _).1 h)]
 intro p x c e h60
 have h2:=(ZcO (p.flatMap g) s).2 hs
 rw [hb _ _ _ (by rw [e];simp) h60 h2,List.flatMap_append,List.foldl_append]
 simp
end
def noB:ZK:={ nodes:=0,reasons:=[] }
def Znv (r:Zf) (t:Zt):Zaj:={ rule:=r.name,facts:=t.facts }
def ZnS (r:Zf) (t:Zt):Xx:={ rule:=r.name,token:=t }
def noI:Zaj:={ rule:=⟨#[]⟩,facts:=[] }
def noS:Xx:={ rule:=⟨#[]⟩,token:={ facts:=[],binding:=[] } }
def Zqj {β:Type} (F:List Zc) (g:List Zh × List β):List Zc × ZK × List β × Bool:=if 60<g.1.length then ([],noB,[],false) else (F,{ nodes:=((F.length:Nat):Int),reasons:=g.1 },g.2,true)
structure Qu (R:List Zf) (base F:List Zc):Prop where
 logical:(YI R&&R.all (Xq R))=true
 facts:YQ base=true
 good:Zeq R base F
 len:F.length≤24
 closed:ZhE R F
theorem Qu.rule {R:List Zf} {base F:List Zc} (h:Qu R base F) {r:Zf} (mr:r∈R):Z2 r=true∧r.cond.length≤4∧r.thn.length≤2:=by
 have h1:=h.logical
 rw [Bool.and_eq_true] at h1
 have h2:=List.all_eq_true.1 h1.2 r mr
 unfold Xq at h2
 rw [Bool.and_eq_true] at h2
 have h3:=h2.1
 unfold Z2 at h3
 simp only [Bool.and_eq_true] at h3
 exact ⟨h2.1,ZbU h3.1.1⟩
theorem Qu.toks {R:List Zf} {base F:List Zc} (h:Qu R base F) {r:Zf} (mr:r∈R):(ZQ (Zav r) F).length≤331776:=ZeB F h.len (Zav r) (by have:=Zc5 r;have:=(h.rule mr).2.1;omega)
theorem Qu.tokS {R:List Zf} {base F:List Zc} (h:Qu R base F) {r:Zf} (mr:r∈R) {t:Zt} (mt:t∈ZQ (Zav r) F):Zsr F t:=(Zd8 F _ t mt).s (by have:=Zc5 r;have:=(h.rule mr).2.1;omega) fun f mf=>X4 (h.good.ok f mf)
theorem Zpd {R:List Zf} {base F:List Zc} (h:Qu R base F) (hp:Yv R base=some (F,true)):Zbe R base=some (Zqj F (Zan Znv F noI R base)):=by
 have h6:R.length≤6:=by have:=h.logical;rw [Bool.and_eq_true] at this;exact (ZhQ this.1).1
 have hb24:=(ZdP h.facts).1
 unfold Zbe
 rw [hp,Option.bind_some,if_pos rfl,ZmG (F:=F) (z:=noI) (by omega)]
 ·show Zp _ _ R 0 (ZcT F base,base.map fun _=>noI)=_
  rw [ZrT (g:=ZkG Znv F) (N:=663552) (M:=90000000)]
  ·show (if decide (60<(((Zan Znv F noI R base).1.length:Nat):Int))=true then _ else _)=_
   unfold Zqj
   by_cases h60:60<(Zan Znv F noI R base).1.length
   ·rw [if_pos (decide_eq_true (by omega)),if_pos h60]
    rfl
   ·rw [if_neg (fun h=>h60 (by have:=of_decide_eq_true h;omega)),if_neg h60]
    rfl
  ·intro r mr
   obtain ⟨_,_,h2⟩:=h.rule mr
   have h3:=h.toks mr
   have:=Zj9 (l:=ZQ (Zav r) F) (g:=Zl5 Znv F r) (N:=2) fun x _=>by rw [Zpi];omega
   unfold ZkG
   omega
  ·simp only [ZcT,List.length_map];omega
  ·simp [ZcT]
  ·intro i r u mr hu hu2
   obtain ⟨c,d⟩:=u
   obtain ⟨_,h1,h2⟩:=h.rule mr
   have h3:=h.toks mr
   simp only at hu hu2
   show (YU r).bind _=_
   rw [Zbv r (by omega),Option.bind_some,ZgK _ _ (by have:=Zc5 r;omega) h.len (fun f mf=>X4 (h.good.ok f mf)),Option.bind_some,ZrT (g:=Zl5 Znv F r) (N:=2) (M:=99999998)]
   ·rfl
   ·intro t mt
    rw [Zpi]
    exact h2
   ·simp only;omega
   ·exact hu2
   ·intro j t v mt hv hv2
    obtain ⟨c2,d2⟩:=v
    simp only at hv hv2
    have ht:=h.tokS mr mt
    have hl:=ht.len
    have ha:=ZkZ r t
    show Zp _ _ r.cond 0 []=_
    rw [ZoR (t:=t) (by omega) (fun i x row hrow=>by rw [Zd5,Option.bind_some,Zj _ (by omega)])]
    rw [ZuR (o:=Znv) (F:=F) (t:=t) h2 (s:=(c2,d2)) hv hv2]
    ·intro k a x y hx hy
     show (Ql a.pattern t.binding).bind _=_
     rw [Zd5,Option.bind_some,ZbO,Option.bind_some,Zhv _ _ (by omega),Option.bind_some,Zhv _ _ (by omega),Option.bind_some]
     show (ZaK x (Yi F r t a)).bind _=_
     rw [ZkM,Option.bind_some]
     by_cases hm:Yi F r t a∈x
     ·rw [if_pos (decide_eq_true hm),if_pos (decide_eq_true hm)]
     ·rw [if_neg (by simpa using hm),if_neg (by simpa using hm),Zj _ (by omega),Zj _ (by omega)]
      rfl
 ·intro i f a b ha hb
  show (Yh F f).bind _=_
  rw [ZbO,Option.bind_some,Zj _ (by omega),Zj _ (by omega)]
  rfl
theorem Zpp {R:List Zf} {base F:List Zc} (h:Qu R base F) (hp:Yu R base=some (F,true)):XG R base=some (Zqj F (Zan ZnS F noS R base)):=by
 have h6:R.length≤6:=by have:=h.logical;rw [Bool.and_eq_true] at this;exact (ZhQ this.1).1
 have hb24:=(ZdP h.facts).1
 unfold XG
 rw [hp,Option.bind_some,if_pos rfl,ZmG (F:=F) (z:=noS) (by omega)]
 ·show Zp _ _ R 0 (ZcT F base,base.map fun _=>noS)=_
  rw [Zss (g:=ZkG ZnS F) (q:=([],noB,[],false))]
  ·show (if (Zan ZnS F noS R base).1.length≤60 then _ else _)=_
   unfold Zqj
   by_cases h60:60<(Zan ZnS F noS R base).1.length
   ·rw [if_neg (by omega),if_pos h60]
   ·rw [if_pos (by omega),if_neg h60]
    rfl
  ·simp only [ZcT,List.length_map];omega
  ·simp [ZcT]
  ·intro i r u mr hu hu2
   obtain ⟨c,d⟩:=u
   obtain ⟨_,h1,h2⟩:=h.rule mr
   simp only at hu hu2
   show (XQ r).bind _=_
   rw [Zeu r (by omega),Option.bind_some,ZgQ _ _ (by have:=Zc5 r;omega) h.len (fun f mf=>X4 (h.good.ok f mf)),Option.bind_some,Zss (g:=Zl5 ZnS F r) (q:=.inr ([],noB,[],false)) (s:=(c,d)) hu hu2]
   ·rfl
   ·intro j t v mt hv hv2
    obtain ⟨c2,d2⟩:=v
    simp only at hv hv2
    have ht:=h.tokS mr mt
    show Zp _ _ r.thn 0 (c2,d2)=_
    rw [ZuW (o:=ZnS) (F:=F) (t:=t) (q:=.inr (.inr ([],noB,[],false))) (s:=(c2,d2)) hv hv2]
    ·intro k a x y ha hx hy
     show (ZaT r ((k:Nat):Int) t F).bind _=_
     rw [Zj2 h1 ht ha,Option.bind_some]
     obtain ⟨z,hz,hz2⟩:=Zni x (Yi F r t a)
     rw [hz,Option.bind_some]
     by_cases hm:Yi F r t a∈x
     ·rw [if_pos (by simpa using hz2.2 hm),if_pos hm]
     ·rw [if_neg (by simpa using fun h0=>hm (hz2.1 h0)),if_neg hm]
      by_cases h60:60≤x.length
      ·rw [if_pos (by simp;omega),if_pos h60]
       rfl
      ·rw [if_neg (by simp;omega),if_neg h60,Zj _ (by omega),Zj _ (by omega)]
       rfl
 ·intro i f a b ha hb
  show (Zau F f).bind _=_
  rw [Zd6,Option.bind_some,Zj _ (by omega),Zj _ (by omega)]
  rfl
theorem Zpf {R:List Zf} (hR:ZbJ R) (base:List Zc) (hb20:base.length≤1048576):(Zbe R base=some ([],noB,[],false)∧XG R base=some ([],noB,[],false))∨∃F,Qu R base F∧Zbe R base=some (Zqj F (Zan Znv F noI R base))∧XG R base=some (Zqj F (Zan ZnS F noS R base)):=by
 obtain ⟨⟨F,b⟩,h1,h2,h3⟩:=Zhp hR base hb20
 have no:b=false→(Zbe R base=some ([],noB,[],false)∧XG R base=some ([],noB,[],false)):=fun e=>by
  subst e
  unfold Zbe XG
  rw [h1,h2]
  exact ⟨rfl,rfl⟩
 rcases h3 with h3 | ⟨h3,h4,⟨h5,h6,h7,h8⟩ | ⟨h5,_⟩⟩
 ·simp only [Prod.mk.injEq] at h3
  exact .inl (no h3.2)
 ·simp only at h5
  subst h5
  have hG:Qu R base F:=⟨h3,h4,h6,h7,h8⟩
  exact .inr ⟨F,hG,Zpd hG h2,Zpp hG h1⟩
 ·exact .inl (no h5)
def ZnM (R:List Zf) (base F:List Zc) (b:ZK) (ok:Bool):Prop:=(ok=false∧F=[]∧b=noB)∨(ok=true∧Qu R base F∧b={ nodes:=((F.length:Nat):Int),reasons:=Zak R F base }∧(Zak R F base).length≤60)
theorem Zhd {R:List Zf} (hR:ZbJ R) (base:List Zc) (hb20:base.length≤1048576):∃F b ok,Xz R base=some (F,b,ok)∧Xw R base=some (F,b,ok)∧ZnM R base F b ok:=by
 unfold Xz Xw
 rcases Zpf hR base hb20 with ⟨h1,h2⟩ | ⟨F,hG,h1,h2⟩
 ·rw [h1,h2]
  exact ⟨_,_,_,rfl,rfl,.inl ⟨rfl,rfl,rfl⟩⟩
 ·obtain ⟨e1,_⟩:=Zja Znv F noI R base
  obtain ⟨e2,_⟩:=Zja ZnS F noS R base
  rw [h1,h2]
  unfold Zqj
  rw [e1,e2]
  by_cases h60:60<(Zak R F base).length
  ·rw [if_pos h60,if_pos h60]
   exact ⟨_,_,_,rfl,rfl,.inl ⟨rfl,rfl,rfl⟩⟩
  ·rw [if_neg h60,if_neg h60]
   exact ⟨_,_,_,rfl,rfl,.inr ⟨rfl,hG,rfl,Nat.le_of_not_lt h60⟩⟩
theorem Zpb {r:Zh}:∀{c l:List Zh},r∈c.foldl ZiR l↔r∈l∨r∈c
 | [],l=>by simp
 | x::c,l=>by
  rw [List.foldl_cons,Zpb]
  have:r∈ZiR l x↔r∈l∨r=x:=by
   unfold ZiR
   split
   ·rename_i h
    exact ⟨.inl,fun h'=>h'.elim id fun e=>e ▸ h⟩
   ·simp
  rw [this,List.mem_cons,or_assoc]
theorem Zp4 {R:List Zf} {F base:List Zc} {x:Zh}:x∈Zak R F base↔(∃f∈base,x={ for_:=Y0 F f,inn:=[],outs:=[] })∨∃r∈R,∃t∈ZQ (Zav r) F,∃a∈r.thn,x=Yi F r t a:=by
 unfold Zak
 rw [Zpb]
 constructor
 ·rintro (h | h)
  ·obtain ⟨f,mf,e⟩:=List.mem_map.1 h
   exact .inl ⟨f,mf,e.symm⟩
  ·obtain ⟨r,mr,h⟩:=List.mem_flatMap.1 h
   obtain ⟨t,mt,h⟩:=List.mem_flatMap.1 h
   obtain ⟨a,ma,e⟩:=List.mem_map.1 h
   exact .inr ⟨r,mr,t,mt,a,ma,e.symm⟩
 ·rintro (⟨f,mf,e⟩ | ⟨r,mr,t,mt,a,ma,e⟩)
  ·exact .inl (List.mem_map.2 ⟨f,mf,e.symm⟩)
  ·exact .inr (List.mem_flatMap.2 ⟨r,mr,List.mem_flatMap.2 ⟨t,mt,List.mem_map.2 ⟨a,ma,e.symm⟩⟩⟩)
theorem Znq {R:List Zf} {base F:List Zc} (h:Qu R base F) {x:Zh} (mx:x∈Zak R F base):x.inn.length≤4∧x.outs.length≤4:=by
 rcases Zp4.1 mx with ⟨f,_,rfl⟩ | ⟨r,mr,t,mt,a,_,rfl⟩
 ·exact ⟨Nat.zero_le _,Nat.zero_le _⟩
 ·have h1:=(h.tokS mr mt).len
  have h2:=ZkZ r t
  have h3:=(h.rule mr).2.1
  exact ⟨Nat.le_trans (ZdK F t.facts).2.2 h1,Nat.le_trans (ZdK F (ZrB r t)).2.2 (by omega)⟩
end Go.Proofs.YtojnhepgnbhaaaaGreatDoor
namespace Go.Proofs.YtojnhepgnbhaaaaGreatDoor
open Classical
def mx (a b:Int):Int:=if a<b then b else a
theorem ZDi (a b:Int):a≤mx a b∧b≤mx a b:=by unfold mx;split<;>omega
theorem ZDt {a b c:Int} (h1:a≤c) (h2:b≤c):mx a b≤c:=by unfold mx;split<;>omega
theorem ZCK (g:Int→Int):∀(l:List Int) (m:Int),m≤l.foldl (fun m y=>mx m (g y)) m∧∀y∈l,g y≤l.foldl (fun m y=>mx m (g y)) m
 | [],m=>⟨Int.le_refl _,by simp⟩
 | x::l,m=>by
  obtain ⟨h1,h2⟩:=ZCK g l (mx m (g x))
  have h3:=ZDi m (g x)
  refine ⟨by rw [List.foldl_cons];omega,fun y my=>?_⟩
  rw [List.foldl_cons]
  rcases List.mem_cons.1 my with rfl | my
  ·omega
  ·exact h2 y my
theorem ZCJ {g:Int→Int} {T:Int}:∀{l:List Int} {m:Int},m≤T→(∀y∈l,g y≤T)→l.foldl (fun m y=>mx m (g y)) m≤T
 | [],_,h,_=>h
 | x::l,m,h,hl=>ZCJ (l:=l) (ZDt h (hl x (by simp))) fun y my=>hl y (by simp [my])
def OkN (n:Nat) (r:Zh):Prop:=(0≤r.for_∧r.for_.toNat<n)∧(∀y∈r.inn,0≤y∧y.toNat<n)∧∀y∈r.outs,0≤y∧y.toNat<n
def lvN (row:List Int) (i:Nat):Int:=(row[i]?).getD 0
theorem ZAh (row:List Int) (i j:Nat) (v:Int):lvN (row.set i v) j=if j=i∧i<row.length then v else lvN row j:=by
 unfold lvN
 rw [List.getElem?_set]
 by_cases h:i=j
 ·subst h
  by_cases h2:i<row.length
  ·simp [h2]
  ·simp [h2]
 ·have:¬j=i:=fun e=>h e.symm
  simp [h,this]
theorem ZAM {a b:List Int} (hl:a.length=b.length) (h:∀i,i<a.length→lvN a i=lvN b i):a=b:=by
 apply List.ext_getElem?
 intro i
 by_cases hi:i<a.length
 ·have:=h i hi
  unfold lvN at this
  rw [List.getElem?_eq_getElem hi,List.getElem?_eq_getElem (by omega)] at this ⊢
  simpa using this
 ·rw [List.getElem?_eq_none (by omega),List.getElem?_eq_none (by omega)]
def ZBa (row:List Int) (r:Zh):Int:=r.outs.foldl (fun m y=>mx m (lvN row y.toNat+1)) (r.inn.foldl (fun m y=>mx m (lvN row y.toNat)) (lvN row r.for_.toNat))
theorem ZCb (row:List Int) (r:Zh):lvN row r.for_.toNat≤ZBa row r∧(∀y∈r.inn,lvN row y.toNat≤ZBa row r)∧∀y∈r.outs,lvN row y.toNat+1≤ZBa row r:=by
 obtain ⟨h1,h2⟩:=ZCK (fun y=>lvN row y.toNat) r.inn (lvN row r.for_.toNat)
 obtain ⟨h3,h4⟩:=ZCK (fun y=>lvN row y.toNat+1) r.outs (r.inn.foldl (fun m y=>mx m (lvN row y.toNat)) (lvN row r.for_.toNat))
 exact ⟨Int.le_trans h1 h3,fun y my=>Int.le_trans (h2 y my) h3,h4⟩
theorem ZDo {row:List Int} {r:Zh} {T:Int} (h1:lvN row r.for_.toNat≤T) (h2:∀y∈r.inn,lvN row y.toNat≤T) (h3:∀y∈r.outs,lvN row y.toNat+1≤T):ZBa row r≤T:=
 ZCJ (g:=fun y=>lvN row y.toNat+1) (ZCJ (g:=fun y=>lvN row y.toNat) h1 h2) h3
def ZAc (row:List Int) (r:Zh):List Int:=row.set r.for_.toNat (ZBa row r)
def Q2 (R:List Zh) (row:List Int):List Int:=R.foldl ZAc row
theorem ZAu (row:List Int) (r:Zh):(ZAc row r).length=row.length:=by simp [ZAc]
theorem ZAK:∀(R:List Zh) (row:List Int),(Q2 R row).length=row.length
 | [],_=>rfl
 | r::R,row=>(ZAK R (ZAc row r)).trans (ZAu row r)
theorem ZAR (row:List Int) (r:Zh) (i:Nat):lvN row i≤lvN (ZAc row r) i:=by
 unfold ZAc
 rw [ZAh]
 split
 ·rename_i h
  rw [h.1]
  exact (ZCb row r).1
 ·exact Int.le_refl _
theorem ZAm:∀(R:List Zh) (row:List Int) (i:Nat),lvN row i≤lvN (Q2 R row) i
 | [],_,_=>Int.le_refl _
 | r::R,row,i=>Int.le_trans (ZAR row r i) (ZAm R (ZAc row r) i)
theorem ZBE {row:List Int} {r:Zh} (h:¬lvN row r.for_.toNat<ZBa row r):ZAc row r=row:=by
 have e:ZBa row r=lvN row r.for_.toNat:=by have:=(ZCb row r).1;omega
 refine ZAM (ZAu row r) fun i _=>?_
 unfold ZAc
 rw [ZAh]
 split
 ·rename_i h;rw [h.1,e]
 ·rfl
structure ZBs (R:List Zh) (t:Nat→Int):Prop where
 pos:∀i,0≤t i
 inn:∀r∈R,∀y∈r.inn,t y.toNat≤t r.for_.toNat
 outs:∀r∈R,∀y∈r.outs,t y.toNat+1≤t r.for_.toNat
theorem ZBx {R:List Zh} {t:Nat→Int} (ht:ZBs R t) {r:Zh} (mr:r∈R) {row:List Int} (h:∀i,lvN row i≤t i) (i:Nat):lvN (ZAc row r) i≤t i:=by
 unfold ZAc
 rw [ZAh]
 split
 ·rename_i hi
  rw [hi.1]
  exact ZDo (h _) (fun y my=>Int.le_trans (h _) (ht.inn r mr y my)) fun y my=>by have:=h y.toNat;have:=ht.outs r mr y my;omega
 ·exact h i
theorem ZAx {R:List Zh} {t:Nat→Int} (ht:ZBs R t):∀{l:List Zh},(∀r∈l,r∈R)→∀{row:List Int},(∀i,lvN row i≤t i)→∀i,lvN (Q2 l row) i≤t i
 | [],_,_,h=>h
 | r::l,hl,row,h=>ZAx ht (l:=l) (fun x mx=>hl x (by simp [mx])) (ZBx ht (hl r (by simp)) h)
theorem ZA0 {n:Nat}:∀{R:List Zh} {row:List Int},row.length=n→(∀r∈R,OkN n r)→∀r∈R,(∀y∈r.inn,lvN row y.toNat≤lvN (Q2 R row) r.for_.toNat)∧∀y∈r.outs,lvN row y.toNat+1≤lvN (Q2 R row) r.for_.toNat
 | [],_,_,_,r,mr=>by simp at mr
 | q::R,row,hl,hR,r,mr=>by
  have hs:=ZAm R (ZAc row q)
  show (∀y∈r.inn,lvN row y.toNat≤lvN (Q2 R (ZAc row q)) r.for_.toNat)∧∀y∈r.outs,lvN row y.toNat+1≤lvN (Q2 R (ZAc row q)) r.for_.toNat
  rcases List.mem_cons.1 mr with rfl | mr
  ·have h0:=(hR r (by simp)).1.2
   have e:lvN (ZAc row r) r.for_.toNat=ZBa row r:=by
    unfold ZAc
    rw [ZAh,if_pos ⟨rfl,by omega⟩]
   have h1:=hs r.for_.toNat
   rw [e] at h1
   obtain ⟨_,h2,h3⟩:=ZCb row r
   exact ⟨fun y my=>Int.le_trans (h2 y my) h1,fun y my=>Int.le_trans (h3 y my) h1⟩
  ·obtain ⟨h2,h3⟩:=ZA0 (n:=n) (R:=R) (row:=ZAc row q) (by rw [ZAu,hl]) (fun x mx=>hR x (by simp [mx])) r mr
   refine ⟨fun y my=>Int.le_trans (ZAR row q _) (h2 y my),fun y my=>?_⟩
   have:=ZAR row q y.toNat
   have:=h3 y my
   omega
structure ZAj (n:Nat) (R:List Zh) (L:List Int):Prop where
 len:L.length=n
 sol:ZBs R (lvN L)
 least:∀t,ZBs R t→∀i,lvN L i≤t i
theorem ZAj.uniq {n:Nat} {R:List Zh} {L M:List Int} (h:ZAj n R L) (k:ZAj n R M):L=M:=
 ZAM (h.len.trans k.len.symm) fun i _=>Int.le_antisymm (h.least _ k.sol i) (k.least _ h.sol i)
theorem ZC5 {n:Nat} {R:List Zh} {row:List Int} (hl:row.length=n) (hR:∀r∈R,OkN n r) (h0:∀i,0≤lvN row i) (hle:∀t,ZBs R t→∀i,lvN row i≤t i) (h:Q2 R row=row):ZAj n R row:=by
 have:=ZA0 hl hR
 rw [h] at this
 exact ⟨hl,⟨h0,fun r mr=>(this r mr).1,fun r mr=>(this r mr).2⟩,hle⟩
noncomputable def ZA6 (n:Nat) (L row:List Int):Nat:=(List.range n).countP fun i=>decide (¬lvN row i=lvN L i)
theorem ZBI {n:Nat} {R:List Zh} {L row:List Int} (hL:ZAj n R L) (hl:row.length=n) (hR:∀r∈R,OkN n r) (h0:∀i,0≤lvN row i) (hle:∀i,lvN row i≤lvN L i):ZA6 n L row=0∨ZA6 n L (Q2 R row)+1≤ZA6 n L row:=by
 have hs:=ZAx hL.sol (l:=R) (fun _ h=>h) hle
 have hge:=ZAm R row
 by_cases hz:∃i,i<n∧¬lvN row i=lvN L i∧lvN (Q2 R row) i=lvN L i
 ·right
  obtain ⟨i,hi,h1,h2⟩:=hz
  refine ZiC (fun j _ hj=>?_) i (List.mem_range.2 hi) (by simpa using h2) (by simpa using h1)
  simp only [decide_eq_true_eq] at hj ⊢
  intro e
  have:=hs j
  have:=hge j
  omega
 ·left
  have hno:∀i,i<n→¬lvN row i=lvN L i→lvN (Q2 R row) i≤lvN L i - 1:=fun i hi h1=>by
   have h2:¬lvN (Q2 R row) i=lvN L i:=fun h=>hz ⟨i,hi,h1,h⟩
   have:=hs i
   omega
  let t:Nat→Int:=fun i=>if i<n∧¬lvN row i=lvN L i then lvN L i - 1 else lvN L i
  have tle:∀i,t i≤lvN L i:=fun i=>by simp only [t];split<;>omega
  have key:∀(x y:Nat) (d:Int),0≤d→x<n→lvN L y+d≤lvN L x→lvN row y+d≤lvN (Q2 R row) x→t y+d≤t x:=fun x y d hd hx h1 h2=>by
   by_cases hA:x<n∧¬lvN row x=lvN L x
   ·have e:t x=lvN L x - 1:=if_pos hA
    have h3:=hno x hA.1 hA.2
    by_cases hB:y<n∧¬lvN row y=lvN L y
    ·have e2:t y=lvN L y - 1:=if_pos hB
     omega
    ·have e2:t y=lvN L y:=if_neg hB
     by_cases hy:y<n
     ·have h4:lvN row y=lvN L y:=Classical.byContradiction fun h=>hB ⟨hy,h⟩
      omega
     ·have h4:lvN row y=0:=by unfold lvN;rw [List.getElem?_eq_none (by omega)];rfl
      have h5:lvN L y=0:=by unfold lvN;rw [List.getElem?_eq_none (by rw [hL.len];omega)];rfl
      omega
   ·have e:t x=lvN L x:=if_neg hA
    have:=tle y
    omega
  have ht:ZBs R t:=⟨fun i=>by
   simp only [t]
   split
   ·rename_i h
    have:=h0 i;have:=hle i;have:=h.2
    omega
   ·exact hL.sol.pos i,fun r mr y my=>by
    have h1:=hL.sol.inn r mr y my
    have h2:=(ZA0 hl hR r mr).1 y my
    have:=key r.for_.toNat y.toNat 0 (Int.le_refl _) (hR r mr).1.2 (by omega) (by omega)
    omega,fun r mr y my=>key r.for_.toNat y.toNat 1 (by omega) (hR r mr).1.2 (hL.sol.outs r mr y my) ((ZA0 hl hR r mr).2 y my)⟩
  unfold ZA6
  rw [List.countP_eq_zero]
  intro i hi
  simp only [decide_eq_true_eq,Classical.not_not]
  refine Classical.byContradiction fun h=>?_
  have h1:=hL.least t ht i
  have e:t i=lvN L i - 1:=if_pos ⟨List.mem_range.1 hi,h⟩
  omega
noncomputable def ZCQ (R:List Zh):Nat→List Int→List Int
 | 0,row=>row
 | k+1,row=>ZCQ R k (Q2 R row)
theorem ZBA {n:Nat} {R:List Zh} {L:List Int} (hL:ZAj n R L) (hR:∀r∈R,OkN n r):∀(k:Nat) (row:List Int),row.length=n→(∀i,0≤lvN row i)→(∀i,lvN row i≤lvN L i)→ZA6 n L row≤k→ZCQ R k row=L
 | 0,row,hl,h0,hle,hk=>by
  show row=L
  refine ZAM (hl.trans hL.len.symm) fun i hi=>?_
  have:ZA6 n L row=0:=by omega
  unfold ZA6 at this
  rw [List.countP_eq_zero] at this
  simpa using this i (List.mem_range.2 (by omega))
 | k+1,row,hl,h0,hle,hk=>by
  refine ZBA hL hR k (Q2 R row) (by rw [ZAK,hl]) (fun i=>Int.le_trans (h0 i) (ZAm R row i)) (ZAx hL.sol (fun _ h=>h) hle) ?_
  rcases ZBI hL hl hR h0 hle with h | h
  ·have:ZA6 n L (Q2 R row)=0:=by
    have e:row=L:=by
     refine ZAM (hl.trans hL.len.symm) fun i hi=>?_
     unfold ZA6 at h
     rw [List.countP_eq_zero] at h
     simpa using h i (List.mem_range.2 (by omega))
    unfold ZA6
    rw [List.countP_eq_zero]
    intro i hi
    have h1:=ZAx hL.sol (l:=R) (fun _ h=>h) hle i
    have h2:=ZAm R row i
    rw [e] at h1 h2 ⊢
    simp only [decide_eq_true_eq,Classical.not_not]
    omega
   omega
  ·omega
def ZBn (R:List Zh) (x y:Int):Prop:=∃r∈R,r.for_=x∧(y∈r.inn∨y∈r.outs)
inductive ZAi (R:List Zh) (x:Int):Int→Prop
 | one {y:Int}:ZBn R x y→ZAi R x y
 | step {y z:Int}:ZAi R x y→ZBn R y z→ZAi R x z
theorem ZAi.head {R:List Zh} {x y z:Int} (h:ZBn R x y) (k:ZAi R y z):ZAi R x z:=by
 induction k with
 | one h1=>exact .step (.one h) h1
 | step _ h1 ih=>exact .step ih h1
def ZCg (R:List Zh):Prop:=∀r∈R,∀y∈r.outs,y≠r.for_∧¬ZAi R y r.for_
noncomputable def ZAZ (n:Nat) (R:List Zh) (i:Nat):Int:=if i<n then (((List.range n).countP fun j=>decide (j=i∨ZAi R ((i:Nat):Int) ((j:Nat):Int)):Nat):Int) - 1 else 0
theorem ZBW {α:Type} {p q:α→Bool}:∀{l:List α},(∀x∈l,p x=true→q x=true)→l.countP p≤l.countP q
 | [],_=>Nat.le_refl _
 | x::l,h=>by
  have ih:=ZBW (l:=l) fun y my=>h y (by simp [my])
  have hx:=h x (by simp)
  simp only [List.countP_cons]
  cases hp:p x with
  | true=>rw [hx hp];simpa using ih
  | false=>simp;omega
theorem ZCI {n:Nat} {R:List Zh} (hR:∀r∈R,OkN n r) (hS:ZCg R):ZBs R (ZAZ n R)∧∀i,ZAZ n R i<n∨ZAZ n R i=0:=by
 have hx:∀i,i<n→ZAZ n R i=(((List.range n).countP fun j=>decide (j=i∨ZAi R ((i:Nat):Int) ((j:Nat):Int)):Nat):Int) - 1:=fun i hi=>if_pos hi
 refine ⟨⟨fun i=>?_,fun r mr y my=>?_,fun r mr y my=>?_⟩,fun i=>?_⟩
 ·by_cases hi:i<n
  ·rw [hx i hi]
   have:0<(List.range n).countP fun j=>decide (j=i∨ZAi R ((i:Nat):Int) ((j:Nat):Int)):=List.countP_pos_iff.2 ⟨i,List.mem_range.2 hi,by simp⟩
   omega
  ·unfold ZAZ;rw [if_neg hi];exact Int.le_refl _
 ·obtain ⟨⟨f0,f1⟩,f2,_⟩:=hR r mr
  obtain ⟨y0,y1⟩:=f2 y my
  rw [hx _ y1,hx _ f1]
  have ey:((y.toNat:Nat):Int)=y:=Int.toNat_of_nonneg y0
  have ef:((r.for_.toNat:Nat):Int)=r.for_:=Int.toNat_of_nonneg f0
  have hd:ZBn R r.for_ y:=⟨r,mr,rfl,.inl my⟩
  have:=ZBW (l:=List.range n) (p:=fun j=>decide (j=y.toNat∨ZAi R ((y.toNat:Nat):Int) ((j:Nat):Int))) (q:=fun j=>decide (j=r.for_.toNat∨ZAi R ((r.for_.toNat:Nat):Int) ((j:Nat):Int))) (fun j _ hj=>by
   simp only [decide_eq_true_eq,ey,ef] at hj ⊢
   rcases hj with rfl | hj
   ·exact .inr (by rw [ey];exact .one hd)
   ·exact .inr (.head hd hj))
  omega
 ·obtain ⟨⟨f0,f1⟩,_,f3⟩:=hR r mr
  obtain ⟨y0,y1⟩:=f3 y my
  rw [hx _ y1,hx _ f1]
  have ey:((y.toNat:Nat):Int)=y:=Int.toNat_of_nonneg y0
  have ef:((r.for_.toNat:Nat):Int)=r.for_:=Int.toNat_of_nonneg f0
  have hd:ZBn R r.for_ y:=⟨r,mr,rfl,.inr my⟩
  obtain ⟨s1,s2⟩:=hS r mr y my
  have:=ZiC (l:=List.range n) (p:=fun j=>decide (j=y.toNat∨ZAi R ((y.toNat:Nat):Int) ((j:Nat):Int))) (q:=fun j=>decide (j=r.for_.toNat∨ZAi R ((r.for_.toNat:Nat):Int) ((j:Nat):Int))) (fun j _ hj=>by
   simp only [decide_eq_true_eq,ey,ef] at hj ⊢
   rcases hj with rfl | hj
   ·exact .inr (by rw [ey];exact .one hd)
   ·exact .inr (.head hd hj)) r.for_.toNat (List.mem_range.2 f1) (by
    simp only [decide_eq_false_iff_not,ey,ef,not_or]
    exact ⟨fun e=>s1 (by rw [←ey,←ef,e]),s2⟩) (by simp)
  omega
 ·by_cases hi:i<n
  ·left
   rw [hx i hi]
   have:=List.countP_le_length (p:=fun j=>decide (j=i∨ZAi R ((i:Nat):Int) ((j:Nat):Int))) (l:=List.range n)
   rw [List.length_range] at this
   omega
  ·right;unfold ZAZ;rw [if_neg hi]
end Go.Proofs.YtojnhepgnbhaaaaGreatDoor
namespace Go.Proofs.YtojnhepgnbhaaaaGreatDoor
open Classical
def rdN (row:List Int) (y:Int):Int:=(row[y.toNat]?).getD (-1)
def ZBi (row:List Int) (k:Nat) (r:Zh):Prop:=(∀y∈r.inn,0≤rdN row y∧rdN row y<((k:Nat):Int))∧∀y∈r.outs,rdN row y<0
def ZAP (row l:List Int) (k:Int):List Int:=l.foldl (fun s x=>s.set x.toNat k) row
theorem ZCw (k:Int):∀(l row:List Int),(ZAP row l k).length=row.length
 | [],_=>rfl
 | x::l,row=>(ZCw k l (row.set x.toNat k)).trans (by simp)
theorem ZBt (k:Int):∀(l row:List Int) (i:Nat),(ZAP row l k)[i]?=if (∃x∈l,x.toNat=i)∧i<row.length then some k else row[i]?
 | [],row,i=>by simp [ZAP]
 | x::l,row,i=>by
  have ih:=ZBt k l (row.set x.toNat k) i
  show (ZAP (row.set x.toNat k) l k)[i]?=_
  rw [ih,List.length_set,List.getElem?_set]
  by_cases h2:i<row.length
  ·by_cases h1:∃y∈l,y.toNat=i
   ·have:∃y∈x::l,y.toNat=i:=by obtain ⟨y,m,e⟩:=h1;exact ⟨y,by simp [m],e⟩
    rw [if_pos ⟨h1,h2⟩,if_pos ⟨this,h2⟩]
   ·rw [if_neg (fun h=>h1 h.1)]
    by_cases h3:x.toNat=i
    ·rw [if_pos h3,if_pos (by omega),if_pos ⟨⟨x,by simp,h3⟩,h2⟩]
    ·rw [if_neg h3,if_neg]
     rintro ⟨⟨y,m,e⟩,_⟩
     rcases List.mem_cons.1 m with rfl | m
     ·exact h3 e
     ·exact h1 ⟨y,m,e⟩
  ·have e:row[i]?=none:=List.getElem?_eq_none (by omega)
   by_cases h3:x.toNat=i
   ·have:¬x.toNat<row.length:=by omega
    simp [h2,e,h3]
   ·simp [h2,e,h3]
theorem ZCO {row l m:List Int} {k:Int} (h:∀i,(∃x∈l,x.toNat=i)↔∃x∈m,x.toNat=i):ZAP row l k=ZAP row m k:=by
 apply List.ext_getElem?
 intro i
 rw [ZBt,ZBt]
 by_cases hc:(∃x∈l,x.toNat=i)∧i<row.length
 ·rw [if_pos hc,if_pos ⟨(h i).1 hc.1,hc.2⟩]
 ·rw [if_neg hc,if_neg fun h'=>hc ⟨(h i).2 h'.1,h'.2⟩]
def ZAN (row:List Int):Nat:=row.countP fun v=>decide (v<0)
theorem ZBJ {k:Int} (hk:0≤k):∀(row:List Int) (i:Nat),ZAN (row.set i k)≤ZAN row∧(∀v,row[i]?=some v→v<0→ZAN (row.set i k)+1≤ZAN row)
 | [],i=>by simp [ZAN]
 | v::row,0=>by
  simp only [List.set_cons_zero,ZAN,List.countP_cons]
  have:¬k<0:=by omega
  refine ⟨by simp [this],fun u hu hn=>?_⟩
  simp at hu;subst hu
  simp [this,hn]
 | v::row,i+1=>by
  obtain ⟨h1,h2⟩:=ZBJ hk row i
  simp only [List.set_cons_succ,ZAN,List.countP_cons] at *
  refine ⟨by omega,fun u hu hn=>?_⟩
  have:=h2 u (by simpa using hu) hn
  omega
theorem ZB7 {k:Int} (hk:0≤k):∀(l row:List Int),ZAN (ZAP row l k)≤ZAN row
 | [],_=>Nat.le_refl _
 | x::l,row=>Nat.le_trans (ZB7 hk l (row.set x.toNat k)) (ZBJ hk row _).1
noncomputable def ZAb (R:List Zh) (L:List Int) (s:Int) (row:List Int) (k:Nat):List Int:=R.filterMap fun r=>if lvN L r.for_.toNat=s∧rdN row r.for_<0∧ZBi row k r then some r.for_ else none
theorem ZAX {R:List Zh} {L:List Int} {s:Int} {row:List Int} {k:Nat} {x:Int}:x∈ZAb R L s row k↔∃r∈R,r.for_=x∧lvN L x.toNat=s∧rdN row x<0∧ZBi row k r:=by
 unfold ZAb
 rw [List.mem_filterMap]
 constructor
 ·rintro ⟨r,mr,h⟩
  split at h
  ·rename_i hc
   obtain rfl:=Option.some.inj h
   exact ⟨r,mr,rfl,hc⟩
  ·simp at h
 ·rintro ⟨r,mr,rfl,h⟩
  exact ⟨r,mr,by rw [if_pos h]⟩
structure RIn (n:Nat) (row:List Int) (k:Nat):Prop where
 len:row.length=n
 val:∀i,i<n→∃v,row[i]?=some v∧(v=-1∨(0≤v∧v<((k:Nat):Int)))
 few:k+ZAN row≤n
theorem RIn.next {n:Nat} {R:List Zh} {L row:List Int} {s:Int} {k:Nat} (hR:∀r∈R,OkN n r) (h:RIn n row k) (hc:ZAb R L s row k≠[]):RIn n (ZAP row (ZAb R L s row k) ((k:Nat):Int)) (k+1)∧ZAN (ZAP row (ZAb R L s row k) ((k:Nat):Int))+1≤ZAN row:=by
 have hd:ZAN (ZAP row (ZAb R L s row k) ((k:Nat):Int))+1≤ZAN row:=by
  cases e:ZAb R L s row k with
  | nil=>exact absurd e hc
  | cons x l=>
   have mx:x∈ZAb R L s row k:=by rw [e];simp
   obtain ⟨r,mr,rfl,_,h2,_⟩:=ZAX.1 mx
   obtain ⟨v,hv,_⟩:=h.val r.for_.toNat (hR r mr).1.2
   have h3:v<0:=by unfold rdN at h2;rw [hv] at h2;exact h2
   have h4:=(ZBJ (k:=((k:Nat):Int)) (by omega) row r.for_.toNat).2 v hv h3
   have h5:=ZB7 (k:=((k:Nat):Int)) (by omega) l (row.set r.for_.toNat ((k:Nat):Int))
   exact Nat.le_trans (Nat.succ_le_succ h5) h4
 refine ⟨⟨by rw [ZCw,h.len],fun i hi=>?_,by have:=h.few;omega⟩,hd⟩
 rw [ZBt]
 obtain ⟨v,hv,hv2⟩:=h.val i hi
 split
 ·exact ⟨_,rfl,.inr ⟨by omega,by omega⟩⟩
 ·refine ⟨v,hv,?_⟩
  rcases hv2 with hv2 | ⟨h1,h2⟩
  ·exact .inl hv2
  ·exact .inr ⟨h1,by omega⟩
noncomputable def ZAg (R:List Zh) (L:List Int) (s:Int):Nat→List Int→Nat→List Int × Nat
 | 0,row,k=>(row,k)
 | f+1,row,k=>if ZAb R L s row k=[] then (row,k) else ZAg R L s f (ZAP row (ZAb R L s row k) ((k:Nat):Int)) (k+1)
theorem ZAL {n:Nat} {R:List Zh} {L:List Int} {s:Int} (hR:∀r∈R,OkN n r):∀(f:Nat) (row:List Int) (k:Nat),RIn n row k→ZAN row≤f→RIn n (ZAg R L s f row k).1 (ZAg R L s f row k).2∧ZAb R L s (ZAg R L s f row k).1 (ZAg R L s f row k).2=[]
 | 0,row,k,h,hf=>by
  refine ⟨h,Classical.byContradiction fun hc=>?_⟩
  have:=(h.next hR hc).2
  omega
 | f+1,row,k,h,hf=>by
  unfold ZAg
  by_cases hc:ZAb R L s row k=[]
  ·rw [if_pos hc];exact ⟨h,hc⟩
  ·rw [if_neg hc]
   obtain ⟨h1,h2⟩:=h.next hR hc
   exact ZAL hR f _ _ h1 (by omega)
theorem ZCY {R:List Zh} {L:List Int} {s:Int} (hs:∀r∈R,¬lvN L r.for_.toNat=s) (f:Nat) (row:List Int) (k:Nat):ZAg R L s f row k=(row,k):=by
 cases f with
 | zero=>rfl
 | succ f=>
  unfold ZAg
  rw [if_pos]
  rw [List.eq_nil_iff_forall_not_mem]
  intro x mx
  obtain ⟨r,mr,rfl,h,_⟩:=ZAX.1 mx
  exact hs r mr h
noncomputable def ZAf (R:List Zh) (L:List Int) (n:Nat) (l:List Nat) (st:List Int × Nat):List Int × Nat:=l.foldl (fun st s=>ZAg R L ((s:Nat):Int) n st.1 st.2) st
theorem ZBC {n:Nat} {R:List Zh} {L:List Int} (hR:∀r∈R,OkN n r):∀(l:List Nat) (st:List Int × Nat),RIn n st.1 st.2→RIn n (ZAf R L n l st).1 (ZAf R L n l st).2
 | [],_,h=>h
 | s::l,st,h=>ZBC hR l _ (ZAL hR n st.1 st.2 h (by have:=h.few;omega)).1
theorem ZCn (R:List Zh) (L:List Int) (n:Nat) (l:List Nat) (s:Nat) (st:List Int × Nat):ZAf R L n (l++[s]) st=ZAg R L ((s:Nat):Int) n (ZAf R L n l st).1 (ZAf R L n l st).2:=by
 unfold ZAf
 rw [List.foldl_append]
 rfl
theorem ZCt {n:Nat} {R:List Zh} {L:List Int} {a b:Nat} (h1:∀r∈R,lvN L r.for_.toNat<((a:Nat):Int)) (h2:∀r∈R,lvN L r.for_.toNat<((b:Nat):Int)) (st:List Int × Nat):ZAf R L n (List.range a) st=ZAf R L n (List.range b) st:=by
 have key:∀(a d:Nat),(∀r∈R,lvN L r.for_.toNat<((a:Nat):Int))→ZAf R L n (List.range (a+d)) st=ZAf R L n (List.range a) st:=by
  intro a d ha
  induction d with
  | zero=>rfl
  | succ d ih=>
   rw [show a+(d+1)=(a+d)+1 by omega,List.range_succ,ZCn,ih,ZCY]
   intro r mr e
   have:=ha r mr
   omega
 rcases Nat.le_total a b with h | h
 ·have:=key a (b - a) h1
  rw [show a+(b - a)=b by omega] at this
  exact this.symm
 ·have:=key b (a - b) h2
  rw [show b+(a - b)=a by omega] at this
  exact this
end Go.Proofs.YtojnhepgnbhaaaaGreatDoor
namespace Go.Proofs.YtojnhepgnbhaaaaGreatDoor
open Classical
theorem ZDn (F:List Zc):∀n (l:List Zm),l.length=n→∀t∈ZQ l F,∀f∈t.facts,∃x∈l,x.kind=1∧x.pattern.rel=f.rel:=by
 intro n
 induction n with
 | zero=>
  intro l h t mt f mf
  rw [List.eq_nil_of_length_eq_zero h] at mt
  simp [ZQ] at mt
  subst mt
  simp [ZtY] at mf
 | succ n ih=>
  intro l h
  obtain ⟨p,x,rfl⟩:∃p x,l=p++[x]:=⟨l.dropLast,l.getLast (by intro e;simp [e] at h),(List.dropLast_concat_getLast _).symm⟩
  intro t mt f mf
  rw [Zcj] at mt
  obtain ⟨s,ms,mt⟩:=List.mem_flatMap.1 mt
  have old:f∈s.facts→∃y∈p++[x],y.kind=1∧y.pattern.rel=f.rel:=fun hf=>by
   obtain ⟨y,my,hy⟩:=ih p (by simpa using h) s ms f hf
   exact ⟨y,by simp [my],hy⟩
  unfold Zil at mt
  by_cases hk:x.kind=1
  ·rw [if_pos hk] at mt
   obtain ⟨g,mg,hg⟩:=List.mem_filterMap.1 mt
   obtain ⟨b,hb,rfl⟩:=Option.map_eq_some_iff.1 hg
   simp only [List.mem_append,List.mem_singleton] at mf
   rcases mf with mf | rfl
   ·exact old mf
   ·refine ⟨x,by simp,hk,?_⟩
    unfold Za5 at hb
    split at hb
    ·rename_i hc
     unfold ZhZ at hc
     simp only [Bool.and_eq_true,decide_eq_true_eq,ZT] at hc
     first | exact hc.1.2 | exact hc.2 | exact hc.1.1.2 | exact hc.2.1 | exact hc.1.2.1
    ·simp at hb
  ·rw [if_neg hk] at mt
   split at mt
   ·simp at mt;subst mt;exact old mf
   ·simp at mt
def ZAQ (F:List Zc) (x:Int):ByteArray:=match F[x.toNat]? with | some f=>f.rel | none=>⟨#[]⟩
theorem ZBk {F:List Zc} {f:Zc} {x:Int} (e:Y0 F f=x) (h0:0≤x):(0≤x∧x.toNat<F.length)∧ZAQ F x=f.rel∧f∈F:=by
 rcases ZBH F f with ⟨_,h2⟩ | ⟨j,h1,h2⟩
 ·omega
 ·have ej:x.toNat=j:=by omega
  refine ⟨⟨h0,?_⟩,?_,List.mem_of_getElem? h2⟩
  ·rw [ej];exact (List.getElem?_eq_some_iff.1 h2).1
  ·unfold ZAQ;rw [ej,h2]
structure ZDy (R:List Zf) (F:List Zc) (x:Zh):Prop where
 node:0≤x.for_∧x.for_.toNat<F.length
 inn:∀y∈x.inn,(0≤y∧y.toNat<F.length)∧Zhy R (ZAQ F x.for_) (ZAQ F y)
 outs:∀y∈x.outs,(0≤y∧y.toNat<F.length)∧Zhy R (ZAQ F x.for_) (ZAQ F y)∧ZAQ F y≠ZAQ F x.for_∧¬XC R (ZAQ F y) (ZAQ F x.for_)
 up:x.inn.Pairwise (·<·)∧x.outs.Pairwise (·<·)
theorem ZAF {R:List Zf} {base F:List Zc} (h:Qu R base F) {x:Zh} (mx:x∈Zak R F base):ZDy R F x:=by
 rcases Zp4.1 mx with ⟨f,mf,rfl⟩ | ⟨r,mr,t,mt,a,ma,rfl⟩
 ·obtain ⟨j,h1,h2⟩:=ZBY (h.good.inc f mf)
  have:=(List.getElem?_eq_some_iff.1 h2).1
  exact ⟨⟨by simp only;omega,by simp only;omega⟩,by simp,by simp,List.Pairwise.nil,List.Pairwise.nil⟩
 ·have hin:Yx a t∈F:=h.closed r mr t mt a ma
  obtain ⟨j,h1,h2⟩:=ZBY hin
  have hr:=(h.rule mr).1
  have hr2:=hr
  unfold Z2 at hr2
  simp only [Bool.and_eq_true] at hr2
  have hk:a.kind=1:=by
   have:=List.all_eq_true.1 hr2.2 a ma
   simpa using this
  obtain ⟨hn,hrel,_⟩:=ZBk (F:=F) (f:=Yx a t) rfl (by rw [h1];omega)
  have hok:=h.good.ok _ hin
  have hname:∀p b,YV (Ze4 (Ze8 p b)).1=true→(Ze4 (Ze8 p b)).1.rel=p.rel:=fun p b hf=>by
   cases hi:Ze8 p b with
   | none=>
    rw [hi] at hf
    exact absurd hf (by decide)
   | some g=>
    unfold Ze8 at hi
    split at hi
    ·obtain ⟨l,_,rfl⟩:=Option.map_eq_some_iff.1 hi
     rfl
    ·simp at hi
  have hfor:ZAQ F (Y0 F (Yx a t))=a.pattern.rel:=hrel.trans (hname a.pattern t.binding hok)
  have hw:a.pattern.rel∈XM r:=List.mem_filterMap.2 ⟨a,ma,by rw [if_pos (.inl hk)]⟩
  refine ⟨hn,fun y my=>?_,fun y my=>?_,(ZdK F _).1,(ZdK F _).1⟩
  ·obtain ⟨f,mf,e,e0⟩:=((ZdK F t.facts).2.1 y).1 my
   obtain ⟨k1,k2,_⟩:=ZBk e e0
   obtain ⟨c,mc,ck,cr⟩:=ZDn F _ (Zav r) rfl t mt f mf
   refine ⟨k1,r,mr,?_,?_⟩
   ·show ZAQ F (Y0 F (Yx a t))∈_
    rw [hfor];exact hw
   ·rw [k2,←cr]
    exact List.mem_filterMap.2 ⟨c,(List.mem_filter.1 mc).1,by rw [if_pos (.inl ck)]⟩
  ·obtain ⟨f,mf,e,e0⟩:=((ZdK F (ZrB r t)).2.1 y).1 my
   obtain ⟨k1,k2,k3⟩:=ZBk e e0
   obtain ⟨c,mc,rfl⟩:=List.mem_map.1 mf
   obtain ⟨mc,ck⟩:=List.mem_filter.1 mc
   have cr:=hname c.pattern t.binding (h.good.ok _ k3)
   have hy:ZAQ F y=c.pattern.rel:=k2.trans cr
   have hfor':ZAQ F (Yi F r t a).for_=a.pattern.rel:=hfor
   have hlog:ZkX R c.pattern.rel a.pattern.rel=true:=by
    have h1:=h.logical
    rw [Bool.and_eq_true] at h1
    have h2:=List.all_eq_true.1 h1.2 r mr
    unfold Xq at h2
    rw [Bool.and_eq_true] at h2
    have h3:=List.all_eq_true.1 h2.2 c mc
    unfold Zg3 at h3
    rw [ck] at h3
    simp only [Bool.not_true,Bool.false_or] at h3
    exact List.all_eq_true.1 h3 _ (ZW.2 hw)
   unfold ZkX at hlog
   simp only [Bool.and_eq_true,Bool.not_eq_true',decide_eq_false_iff_not] at hlog
   rw [hfor',hy]
   refine ⟨k1,⟨r,mr,hw,List.mem_filterMap.2 ⟨c,mc,by rw [if_pos (.inr (by simpa using ck))]⟩⟩,fun e=>?_,hlog.2⟩
   have:=ZC3.1 hlog.1
   exact this e.symm
theorem ZC4 {R:List Zf} {base F:List Zc} (h:Qu R base F):∀x∈Zak R F base,OkN F.length x:=fun x mx=>by
 have hf:=ZAF h mx
 exact ⟨hf.node,fun y my=>(hf.inn y my).1,fun y my=>(hf.outs y my).1⟩
theorem ZCe {R:List Zf} {base F:List Zc} (h:Qu R base F):ZCg (Zak R F base):=by
 have hstep:∀x y,ZBn (Zak R F base) x y→Zhy R (ZAQ F x) (ZAQ F y):=fun x y ⟨r,mr,e,hy⟩=>by
  have hf:=ZAF h mr
  subst e
  rcases hy with hy | hy
  ·exact (hf.inn y hy).2
  ·exact (hf.outs y hy).2.1
 have hreach:∀x y,ZAi (Zak R F base) x y→XC R (ZAQ F x) (ZAQ F y):=fun x y hd=>by
  induction hd with
  | one h1=>exact .one (hstep _ _ h1)
  | step _ h1 ih=>exact .next ih (hstep _ _ h1)
 intro r mr y my
 obtain ⟨_,_,h2,h3⟩:=(ZAF h mr).outs y my
 exact ⟨fun e=>h2 (by rw [e]),fun hd=>h3 (hreach _ _ hd)⟩
end Go.Proofs.YtojnhepgnbhaaaaGreatDoor
namespace Go.Proofs.YtojnhepgnbhaaaaGreatDoor
theorem ZBj (x a b:Int):ZaU x a b=some (decide (a≤x)&&decide (x≤b)):=by
 unfold ZaU
 cases decide (a≤x)<;>simp
end Go.Proofs.YtojnhepgnbhaaaaGreatDoor
namespace Go.Proofs.YtojnhepgnbhaaaaGreatDoor
def ZCc (l:List Int) (n:Int) (i:Nat) (x:Int):Bool:=decide (0≤x)&&(decide (x<n)&&(decide (i=0)||(match l[i - 1]? with | some y=>decide (y<x) | none=>false)))
def ZA7 (l:List Int) (n:Int):Bool:=Zbr (ZCc l n) l 0
theorem ZDq {l:List Int} {j:Nat} {x:Int} (hl:l.length≤1000000000) (hj:l[j]?=some x) (h0:0<j):∃y,l[j - 1]?=some y∧atI l (IntKind.i64.wrap (((j:Nat):Int) - 1))=some y:=by
 have hlt:=(List.getElem?_eq_some_iff.1 hj).1
 have hg:l[j - 1]?=some l[j - 1]:=List.getElem?_eq_getElem (by omega)
 refine ⟨l[j - 1],hg,?_⟩
 have hw:IntKind.i64.wrap (((j:Nat):Int) - 1)=((j - 1:Nat):Int):=by rw [ZjU (by omega) (by omega)];omega
 rw [hw]
 unfold atI
 rw [if_pos (by omega),Int.toNat_natCast,hg]
theorem ZBc (l:List Int) (n:Int) (hl:l.length≤1000000000):ZAp l n=some (ZA7 l (IntKind.i64.wrap (n - 1)+1)):=by
 unfold ZAp ZA7
 generalize IntKind.i64.wrap (n - 1)=m
 rw [X7 (p:=ZCc l (m+1)) (r:=false)]
 ·cases Zbr (ZCc l (m+1)) l 0<;>rfl
 ·intro j x hj
  rw [Nat.zero_add,ZBj,Option.bind_some]
  unfold ZCc
  by_cases h1:x<0
  ·rw [show decide (0≤x)=false by simp;omega];rfl
  ·rw [show decide (0≤x)=true by simp;omega]
   by_cases h2:m<x
   ·rw [show decide (x≤m)=false by simp;omega,show decide (x<m+1)=false by simp;omega];rfl
   ·rw [show decide (x≤m)=true by simp;omega,show decide (x<m+1)=true by simp;omega]
    by_cases h3:j=0
    ·subst h3;rfl
    ·obtain ⟨y,e1,e2⟩:=ZDq hl hj (by omega)
     rw [show (true&&true)=true from rfl,if_pos rfl,if_pos (by simp;omega),e2,Option.bind_some,e1]
     by_cases h4:x≤y
     ·rw [if_pos (by simpa using h4)]
      simp [h3,show ¬y<x by omega]
     ·rw [if_neg (by simpa using h4)]
      simp [h3,show y<x by omega]
theorem ZB1 (l:List Int) (n:Int) (hl:l.length≤1000000000) (h0:0≤n) (h1:n≤1000000000):ZAp l n=some (ZA7 l n):=by
 rw [ZBc l n hl,ZjU (by omega) (by omega)]
 congr 2
 omega
theorem ZDd {l:List Int} {n:Int} (h1:∀x∈l,0≤x∧x<n) (h2:l.Pairwise (·<·)):ZA7 l n=true:=by
 have key:∀(q pre:List Int),l=pre++q→Zbr (ZCc l n) q pre.length=true:=by
  intro q
  induction q with
  | nil=>intro _ _;rfl
  | cons x q ih=>
   intro pre e
   simp only [Zbr,Bool.and_eq_true]
   refine ⟨?_,?_⟩
   ·have hx:=h1 x (by rw [e];simp)
    simp only [ZCc,Bool.and_eq_true,decide_eq_true_eq,Bool.or_eq_true]
    refine ⟨hx.1,hx.2,?_⟩
    by_cases h0:pre.length=0
    ·exact .inl h0
    ·right
     have hlt:pre.length - 1<pre.length:=by omega
     have hg:l[pre.length - 1]?=some pre[pre.length - 1]:=by rw [e,List.getElem?_append_left hlt,List.getElem?_eq_getElem hlt]
     rw [hg]
     rw [e,List.pairwise_append] at h2
     simpa using h2.2.2 _ (List.getElem_mem hlt) x (by simp)
   ·have:=ih (pre++[x]) (by rw [e];simp)
    simpa using this
 exact key l [] rfl
def ZCR (n:Int) (r:Zh):Bool:=decide (0≤r.for_)&&(decide (r.for_<n)&&(ZA7 r.inn n&&ZA7 r.outs n))
def ZAn (b:ZK):Bool:=decide (0≤b.nodes)&&(decide (b.nodes≤24)&&(decide (b.reasons.length≤60)&&b.reasons.all (ZCR b.nodes)))
def ZDk (b:ZK):Prop:=∀r∈b.reasons,r.inn.length≤1000000000∧r.outs.length≤1000000000
theorem ZBw {b:ZK} (h:ZDk b) (hl:b.reasons.length≤1000000000):ZAr b=some (ZAn b):=by
 unfold ZAr ZAn
 by_cases hn:0≤b.nodes∧b.nodes≤24
 ·have hw:IntKind.i64.wrap (b.nodes - 1)=b.nodes - 1:=ZjU (by omega) (by omega)
  rw [Yf (p:=ZCR b.nodes) (r:=false)]
  ·rw [ZBj,show decide (0≤b.nodes)=true by simp;omega,show decide (b.nodes≤24)=true by simp;omega]
   simp only [Option.bind_some,Bool.and_self,if_true,Bool.true_and]
   have hc:decide (((b.reasons.length:Nat):Int)≤60)=decide (b.reasons.length≤60):=by rw [Bool.eq_iff_iff];simp;omega
   rw [hc]
   cases b.reasons.all (ZCR b.nodes)<;>cases decide (b.reasons.length≤60)<;>rfl
  ·intro i r mr
   obtain ⟨s1,s2⟩:=h r mr
   rw [ZBj,hw,ZB1 _ _ s1 hn.1 (by omega),ZB1 _ _ s2 hn.1 (by omega)]
   unfold ZCR
   have hc:decide (r.for_≤b.nodes - 1)=decide (r.for_<b.nodes):=by rw [Bool.eq_iff_iff];simp;omega
   rw [hc]
   simp only [Option.bind_some]
   cases decide (0≤r.for_)<;>cases decide (r.for_<b.nodes)<;>cases ZA7 r.inn b.nodes<;>cases ZA7 r.outs b.nodes<;>rfl
 ·have hf:(decide (0≤b.nodes)&&(decide (b.nodes≤24)&&(decide (b.reasons.length≤60)&&b.reasons.all (ZCR b.nodes))))=false:=by
   by_cases h0:0≤b.nodes
   ·have:decide (b.nodes≤24)=false:=by simp;omega
    rw [this];simp
   ·have:decide (0≤b.nodes)=false:=by simp;omega
    rw [this];simp
  rw [hf,Yf (p:=fun r=>decide (0≤r.for_)&&(decide (r.for_≤IntKind.i64.wrap (b.nodes - 1))&&(ZA7 r.inn (IntKind.i64.wrap (b.nodes - 1)+1)&&ZA7 r.outs (IntKind.i64.wrap (b.nodes - 1)+1)))) (r:=false)]
  ·rw [ZBj]
   have:(decide (0≤b.nodes)&&decide (b.nodes≤24))=false:=by
    cases h1:decide (0≤b.nodes)<;>cases h2:decide (b.nodes≤24)<;>simp at h1 h2 ⊢
    omega
   rw [this]
   split<;>rfl
  ·intro i r mr
   obtain ⟨s1,s2⟩:=h r mr
   rw [ZBj,ZBc _ _ s1,ZBc _ _ s2]
   simp only [Option.bind_some]
   cases decide (0≤r.for_)<;>cases decide (r.for_≤IntKind.i64.wrap (b.nodes - 1))<;>cases ZA7 r.inn (IntKind.i64.wrap (b.nodes - 1)+1)<;>cases ZA7 r.outs (IntKind.i64.wrap (b.nodes - 1)+1)<;>rfl
end Go.Proofs.YtojnhepgnbhaaaaGreatDoor
namespace Go.Proofs.YtojnhepgnbhaaaaGreatDoor
open Classical
def ZC6 (row:List Bool):Nat:=row.countP fun v=>!v
theorem ZCz:∀(row:List Bool) (i:Nat),row[i]?=some false→ZC6 (row.set i true)+1=ZC6 row
 | [],i,h=>by simp at h
 | v::row,0,h=>by
  simp at h;subst h
  simp [ZC6]
 | v::row,i+1,h=>by
  have ih:=ZCz row i (by simpa using h)
  simp only [ZC6,List.set_cons_succ,List.countP_cons] at *
  omega
def ZAI (s:List Bool × List Int) (y:Int):List Bool × List Int:=if s.1[y.toNat]?=some true then s else (s.1.set y.toNat true,s.2++[y])
structure ZAe (n:Nat) (R:List Zh) (x:Int) (s:List Bool × List Int):Prop where
 len:s.1.length=n
 row:∃t,s.2=x::t∧(∀y∈t,(0≤y∧y.toNat<n)∧ZAi R x y∧s.1[y.toNat]?=some true)∧(∀y:Int,0≤y→s.1[y.toNat]?=some true→y∈t)∧t.length+ZC6 s.1=n
structure ZAS (s u:List Bool × List Int):Prop where
 mono:∀i:Nat,s.1[i]?=some true→u.1[i]?=some true
 more:∃v,u.2=s.2++v
theorem ZAS.refl (s:List Bool × List Int):ZAS s s:=⟨fun _ h=>h,[],by simp⟩
theorem ZAS.trans {s t u:List Bool × List Int} (h:ZAS s t) (k:ZAS t u):ZAS s u:=⟨fun i hi=>k.mono i (h.mono i hi),by
 obtain ⟨a,ha⟩:=h.more
 obtain ⟨b,hb⟩:=k.more
 exact ⟨a++b,by rw [hb,ha,List.append_assoc]⟩⟩
theorem ZDa {row:List Bool} {j:Nat} (hj:j<row.length) (i:Nat):(row.set j true)[i]?=if j=i then some true else row[i]?:=by
 rw [List.getElem?_set]
 by_cases e:j=i
 ·rw [if_pos e,if_pos e,if_pos hj]
 ·rw [if_neg e,if_neg e]
theorem ZCW {n:Nat} {R:List Zh} {x y:Int} {s:List Bool × List Int} (h:ZAe n R x s) (hy:0≤y∧y.toNat<n) (hd:ZAi R x y):ZAe n R x (ZAI s y)∧ZAS s (ZAI s y)∧(ZAI s y).1[y.toNat]?=some true:=by
 unfold ZAI
 by_cases hs:s.1[y.toNat]?=some true
 ·rw [if_pos hs];exact ⟨h,.refl s,hs⟩
 ·rw [if_neg hs]
  have hl:y.toNat<s.1.length:=by rw [h.len];exact hy.2
  have hf:s.1[y.toNat]?=some false:=by
   rw [List.getElem?_eq_getElem hl] at hs ⊢
   cases hv:s.1[y.toNat] with
   | true=>rw [hv] at hs;exact absurd rfl hs
   | false=>rfl
  have hset:=ZDa hl
  obtain ⟨t,t1,t2,t3,t4⟩:=h.row
  have hmono:∀i:Nat,s.1[i]?=some true→(s.1.set y.toNat true)[i]?=some true:=fun i hi=>by
   rw [hset]
   split
   ·rfl
   ·exact hi
  refine ⟨⟨by simp [h.len],t++[y],by simp [t1],fun z mz=>?_,fun z z0 hz=>?_,?_⟩,⟨hmono,[y],rfl⟩,by rw [hset,if_pos rfl]⟩
  ·rcases List.mem_append.1 mz with mz | mz
   ·obtain ⟨a,b,c⟩:=t2 z mz
    exact ⟨a,b,hmono _ c⟩
   ·simp at mz;subst mz
    exact ⟨hy,hd,by rw [hset,if_pos rfl]⟩
  ·rw [hset] at hz
   by_cases e:y.toNat=z.toNat
   ·have:z=y:=by omega
    simp [this]
   ·rw [if_neg e] at hz
    exact List.mem_append.2 (.inl (t3 z z0 hz))
  ·have:=ZCz s.1 y.toNat hf
   simp only [List.length_append,List.length_singleton]
   omega
theorem ZB3 {n:Nat} {R:List Zh} {x:Int}:∀{l:List Int} {s:List Bool × List Int},ZAe n R x s→(∀y∈l,(0≤y∧y.toNat<n)∧ZAi R x y)→ZAe n R x (l.foldl ZAI s)∧ZAS s (l.foldl ZAI s)∧∀y∈l,(l.foldl ZAI s).1[y.toNat]?=some true
 | [],s,h,_=>⟨h,.refl s,by simp⟩
 | y::l,s,h,hl=>by
  obtain ⟨a1,a2,a3⟩:=ZCW h (hl y (by simp)).1 (hl y (by simp)).2
  obtain ⟨b1,b2,b3⟩:=ZB3 (l:=l) a1 fun z mz=>hl z (by simp [mz])
  exact ⟨b1,a2.trans b2,fun z mz=>by
   rcases List.mem_cons.1 mz with rfl | mz
   ·exact b2.mono _ a3
   ·exact b3 z mz⟩
noncomputable def ZAT (z:Int) (s:List Bool × List Int) (r:Zh):List Bool × List Int:=if r.for_=z then (r.inn++r.outs).foldl ZAI s else s
theorem ZDg {n:Nat} {R:List Zh} {x z:Int} (hR:∀r∈R,OkN n r) (hz:z=x∨ZAi R x z) {r:Zh} (mr:r∈R) (e:r.for_=z):∀y∈r.inn++r.outs,(0≤y∧y.toNat<n)∧ZAi R x y:=fun y my=>by
 have hy:=List.mem_append.1 my
 have hd:ZBn R z y:=⟨r,mr,e,hy⟩
 refine ⟨hy.elim ((hR r mr).2.1 y) ((hR r mr).2.2 y),?_⟩
 rcases hz with rfl | hz
 ·exact .one hd
 ·exact .step hz hd
theorem ZCV {n:Nat} {R:List Zh} {x z:Int} (hR:∀r∈R,OkN n r) (hz:z=x∨ZAi R x z) {s:List Bool × List Int} (h:ZAe n R x s) {r:Zh} (mr:r∈R):ZAe n R x (ZAT z s r)∧ZAS s (ZAT z s r)∧(r.for_=z→∀y∈r.inn++r.outs,(ZAT z s r).1[y.toNat]?=some true):=by
 unfold ZAT
 by_cases e:r.for_=z
 ·rw [if_pos e]
  obtain ⟨a1,a2,a3⟩:=ZB3 h (ZDg hR hz mr e)
  exact ⟨a1,a2,fun _=>a3⟩
 ·rw [if_neg e]
  exact ⟨h,.refl s,fun h=>absurd h e⟩
theorem ZCE {n:Nat} {R:List Zh} {x z:Int} (hR:∀r∈R,OkN n r) (hz:z=x∨ZAi R x z):∀{l:List Zh} {s:List Bool × List Int},(∀r∈l,r∈R)→ZAe n R x s→ZAe n R x (l.foldl (ZAT z) s)∧ZAS s (l.foldl (ZAT z) s)∧∀r∈l,r.for_=z→∀y∈r.inn++r.outs,(l.foldl (ZAT z) s).1[y.toNat]?=some true
 | [],s,_,h=>⟨h,.refl s,by simp⟩
 | r::l,s,hl,h=>by
  obtain ⟨a1,a2,a3⟩:=ZCV hR hz h (hl r (by simp))
  obtain ⟨b1,b2,b3⟩:=ZCE hR hz (l:=l) (fun q mq=>hl q (by simp [mq])) a1
  exact ⟨b1,a2.trans b2,fun q mq e y my=>by
   rcases List.mem_cons.1 mq with rfl | mq
   ·exact b2.mono _ (a3 e y my)
   ·exact b3 q mq e y my⟩
theorem ZAe.at {n:Nat} {R:List Zh} {x:Int} {s:List Bool × List Int} (h:ZAe n R x s) {i:Nat} {z:Int} (hi:s.2[i]?=some z):z=x∨ZAi R x z:=by
 obtain ⟨t,t1,t2,_⟩:=h.row
 have:=List.mem_of_getElem? hi
 rw [t1] at this
 exact (List.mem_cons.1 this).imp id fun m=>(t2 z m).2.1
theorem ZAe.fin {n:Nat} {R:List Zh} {x:Int} (hR:∀r∈R,OkN n r) {out:List Bool} {todo:List Int} (hI:ZAe n R x (out,todo)) (hC:∀j z,j<todo.length→todo[j]?=some z→∀y,ZBn R z y→out[y.toNat]?=some true):out.length=n∧∀y:Int,0≤y→(out[y.toNat]?=some true↔ZAi R x y):=by
 obtain ⟨t,t1,t2,t3,t4⟩:=hI.row
 simp only at t1 t4
 refine ⟨hI.len,fun y y0=>⟨fun hy=>(t2 y (t3 y y0 hy)).2.1,fun hy=>?_⟩⟩
 have hcl:∀z∈todo,∀y,ZBn R z y→out[y.toNat]?=some true:=fun z mz=>by
  obtain ⟨j,hj,e⟩:=List.getElem_of_mem mz
  exact hC j z hj (by rw [List.getElem?_eq_getElem hj,e])
 have h0:∀a b,ZBn R a b→0≤b:=fun a b ⟨r,mr,_,hb⟩=>hb.elim (fun h=>((hR r mr).2.1 b h).1) fun h=>((hR r mr).2.2 b h).1
 have:∀y,ZAi R x y→0≤y∧out[y.toNat]?=some true:=fun y hd=>by
  induction hd with
  | one h=>exact ⟨h0 _ _ h,hcl x (by rw [t1];simp) _ h⟩
  | step _ h ih=>exact ⟨h0 _ _ h,hcl _ (by rw [t1];exact List.mem_cons_of_mem _ (t3 _ ih.1 ih.2)) _ h⟩
 exact (this y hy).2
theorem ZCH {σ ρ:Type} {n:Nat} {R:List Zh} {x:Int} (hR:∀r∈R,OkN n r) (st:List Bool→List Int→Nat→σ) (g:List Bool→ρ) {body:σ→Option (σ ⊕ ρ)}
  (h1:∀out todo i z,ZAe n R x (out,todo)→i<n+1→todo[i]?=some z→(z=x∨ZAi R x z)→body (st out todo i)=some (.inl (st (R.foldl (ZAT z) (out,todo)).1 (R.foldl (ZAT z) (out,todo)).2 (i+1))))
  (h2:∀out todo,ZAe n R x (out,todo)→body (st out todo todo.length)=some (.inr (g out))):
  ∀m out todo i,ZAe n R x (out,todo)→i≤todo.length→n+1 - i≤m→(∀j z,j<i→todo[j]?=some z→∀y,ZBn R z y→out[y.toNat]?=some true)→∃row,Zdu body (st out todo i)=some (g row)∧row.length=n∧∀y:Int,0≤y→(row[y.toNat]?=some true↔ZAi R x y):=by
 intro m
 induction m with
 | zero=>
  intro out todo i hI hi hm hC
  obtain ⟨t,t1,t2,t3,t4⟩:=hI.row
  simp only at t1 t4
  have:todo.length=t.length+1:=by rw [t1];simp
  have hil:i=todo.length:=by omega
  subst hil
  exact ⟨out,Zef (h2 out todo hI),hI.fin hR hC⟩
 | succ m ih=>
  intro out todo i hI hi hm hC
  by_cases hil:i=todo.length
  ·subst hil
   exact ⟨out,Zef (h2 out todo hI),hI.fin hR hC⟩
  ·have hlt:i<todo.length:=by omega
   obtain ⟨z,hz⟩:∃z,todo[i]?=some z:=⟨_,List.getElem?_eq_getElem hlt⟩
   have hzx:=hI.at (i:=i) (z:=z) hz
   obtain ⟨t,t1,t2,t3,t4⟩:=hI.row
   simp only at t1 t4
   have htl:todo.length=t.length+1:=by rw [t1];simp
   have hin:i<n+1:=by omega
   rw [ZiQ (h1 out todo i z hI hin hz hzx)]
   obtain ⟨b1,b2,b3⟩:=ZCE hR hzx (l:=R) (fun _ h=>h) hI
   obtain ⟨v,hv⟩:=b2.more
   simp only at hv
   refine ih _ _ (i+1) b1 (by rw [hv,List.length_append];omega) (by omega) fun j u hj hu y hd=>?_
   rw [hv] at hu
   rw [List.getElem?_append_left (by omega)] at hu
   by_cases hji:j<i
   ·exact b2.mono _ (hC j u hji hu y hd)
   ·obtain rfl:j=i:=by omega
    rw [hz] at hu
    obtain rfl:=Option.some.inj hu
    obtain ⟨r,mr,e,hy⟩:=hd
    exact b3 r mr e y (List.mem_append.2 hy)
end Go.Proofs.YtojnhepgnbhaaaaGreatDoor
namespace Go.Proofs.YtojnhepgnbhaaaaGreatDoor
open Classical
theorem ZDv {P:Nat→Prop}:∀v,P v→∃v,P v∧∀u,P u→v≤u:=by
 intro v
 induction v using Nat.strongRecOn with
 | ind v ih=>
  intro hv
  by_cases h:∃u,P u∧u<v
  ·obtain ⟨u,hu,hl⟩:=h
   exact ih u hl hu
  ·exact ⟨v,hv,fun u hu=>by
    by_cases hl:u<v
    ·exact absurd ⟨u,hu,hl⟩ h
    ·omega⟩
theorem ZDb {n:Nat} {R:List Zh} (hR:∀r∈R,OkN n r) {t0:Nat→Int} (h0:ZBs R t0):∃L,ZAj n R L:=by
 have hm:∀i:Nat,∃v:Nat,(∃t,ZBs R t∧(t i).toNat=v)∧∀u,(∃t,ZBs R t∧(t i).toNat=u)→v≤u:=fun i=>ZDv _ ⟨t0,h0,rfl⟩
 let m:Nat→Nat:=fun i=>Classical.choose (hm i)
 have m1:∀i,∃t,ZBs R t∧(t i).toNat=m i:=fun i=>(Classical.choose_spec (hm i)).1
 have m2:∀i t,ZBs R t→((m i:Nat):Int)≤t i:=fun i t ht=>by
  have:=(Classical.choose_spec (hm i)).2 _ ⟨t,ht,rfl⟩
  have:=ht.pos i
  show ((Classical.choose (hm i):Nat):Int)≤t i
  omega
 let L:List Int:=(List.range n).map fun i=>((m i:Nat):Int)
 have hL:∀i,i<n→lvN L i=((m i:Nat):Int):=fun i hi=>by
  have:L[i]?=some ((m i:Nat):Int):=by simp [L,hi]
  unfold lvN;rw [this];rfl
 have hL2:∀i,¬i<n→lvN L i=0:=fun i hi=>by
  unfold lvN;rw [List.getElem?_eq_none (by simp [L];omega)];rfl
 refine ⟨L,by simp [L],⟨fun i=>?_,fun r mr y my=>?_,fun r mr y my=>?_⟩,fun t ht i=>?_⟩
 ·by_cases hi:i<n
  ·rw [hL i hi];omega
  ·rw [hL2 i hi];exact Int.le_refl _
 ·obtain ⟨f1,f2,_⟩:=hR r mr
  rw [hL _ f1.2,hL _ (f2 y my).2]
  obtain ⟨t,ht,e⟩:=m1 r.for_.toNat
  have:=m2 y.toNat t ht
  have:=ht.inn r mr y my
  have:=ht.pos r.for_.toNat
  omega
 ·obtain ⟨f1,_,f3⟩:=hR r mr
  rw [hL _ f1.2,hL _ (f3 y my).2]
  obtain ⟨t,ht,e⟩:=m1 r.for_.toNat
  have:=m2 y.toNat t ht
  have:=ht.outs r mr y my
  have:=ht.pos r.for_.toNat
  omega
 ·by_cases hi:i<n
  ·rw [hL i hi];exact m2 i t ht
  ·rw [hL2 i hi];exact ht.pos i
theorem ZDe {n:Nat} {R:List Zh} (hR:∀r∈R,OkN n r) (hS:ZCg R):∃L,ZAj n R L∧∀i,lvN L i<n∨lvN L i=0:=by
 obtain ⟨h1,h2⟩:=ZCI hR hS
 obtain ⟨L,hL⟩:=ZDb hR h1
 refine ⟨L,hL,fun i=>?_⟩
 have:=hL.least _ h1 i
 have:=hL.sol.pos i
 rcases h2 i with h | h<;>omega
noncomputable def ZAs (s:List Int × Bool) (r:Zh):List Int × Bool:=if lvN s.1 r.for_.toNat<ZBa s.1 r then (ZAc s.1 r,true) else s
theorem ZA1 {n:Nat}:∀{R:List Zh} {s:List Int × Bool},s.1.length=n→(∀r∈R,OkN n r)→(R.foldl ZAs s).1=Q2 R s.1∧((R.foldl ZAs s).2=true↔s.2=true∨Q2 R s.1≠s.1)
 | [],s,_,_=>by simp [Q2]
 | r::R,s,hl,hR=>by
  have hR':∀q∈R,OkN n q:=fun q mq=>hR q (by simp [mq])
  rw [List.foldl_cons]
  show _∧(_↔s.2=true∨Q2 R (ZAc s.1 r)≠s.1)
  by_cases hc:lvN s.1 r.for_.toNat<ZBa s.1 r
  ·have e:ZAs s r=(ZAc s.1 r,true):=if_pos hc
   rw [e]
   obtain ⟨h1,h2⟩:=ZA1 (R:=R) (s:=(ZAc s.1 r,true)) (by rw [ZAu];exact hl) hR'
   refine ⟨h1,iff_of_true (h2.2 (.inl rfl)) (.inr fun he=>?_)⟩
   have h3:=ZAm R (ZAc s.1 r) r.for_.toNat
   rw [he] at h3
   have:lvN (ZAc s.1 r) r.for_.toNat=ZBa s.1 r:=by
    unfold ZAc
    rw [ZAh,if_pos ⟨rfl,by have:=(hR r (by simp)).1.2;omega⟩]
   omega
  ·have e:ZAs s r=s:=if_neg hc
   rw [e,ZBE hc]
   obtain ⟨h1,h2⟩:=ZA1 hl hR'
   refine ⟨h1.trans ?_,h2⟩
   show Q2 R s.1=Q2 R (ZAc s.1 r)
   rw [ZBE hc]
theorem ZBq {n:Nat} {R:List Zh} {L:List Int} (hL:ZAj n R L):Q2 R L=L:=
 ZAM (ZAK R L) fun i _=>Int.le_antisymm (ZAx hL.sol (fun _ h=>h) (fun _=>Int.le_refl _) i) (ZAm R L i)
theorem ZB0 {n:Nat} {L row:List Int} (hl:row.length=n) (hL:L.length=n) (h:ZA6 n L row=0):row=L:=by
 refine ZAM (hl.trans hL.symm) fun i hi=>?_
 unfold ZA6 at h
 rw [List.countP_eq_zero] at h
 simpa using h i (List.mem_range.2 (by omega))
theorem ZCT (n:Nat) (L row:List Int):ZA6 n L row≤n:=by
 have:=List.countP_le_length (p:=fun i=>decide (¬lvN row i=lvN L i)) (l:=List.range n)
 rw [List.length_range] at this
 exact this
theorem ZCD {σ ρ:Type} {n:Nat} {R:List Zh} {L:List Int} (hL:ZAj n R L) (hR:∀r∈R,OkN n r) (st:List Int→Bool→σ) (g:List Int→ρ) {body:σ→Option (σ ⊕ ρ)}
  (h1:∀row,row.length=n→(∀i,0≤lvN row i∧lvN row i≤lvN L i)→body (st row true)=some (.inl (st (R.foldl ZAs (row,false)).1 (R.foldl ZAs (row,false)).2)))
  (h2:∀row,body (st row false)=some (.inr (g row))):
  ∀k row,row.length=n→(∀i,0≤lvN row i∧lvN row i≤lvN L i)→ZA6 n L row≤k→Zdu body (st row true)=some (g L):=by
 have fixed:∀row,row.length=n→(∀i,0≤lvN row i∧lvN row i≤lvN L i)→Q2 R row=row→Zdu body (st row true)=some (g L):=fun row hl h0 e=>by
  obtain ⟨e1,e2⟩:=ZA1 (s:=(row,false)) hl hR
  have e3:(R.foldl ZAs (row,false)).2=false:=by
   cases hb:(R.foldl ZAs (row,false)).2 with
   | false=>rfl
   | true=>
    rcases e2.1 hb with h | h
    ·simp at h
    ·exact absurd e h
  rw [ZiQ (h1 row hl h0),e3,e1]
  have hrow:ZAj n R row:=ZC5 hl hR (fun i=>(h0 i).1) (fun t ht i=>Int.le_trans (h0 i).2 (hL.least t ht i)) e
  show Zdu body (st (Q2 R row) false)=_
  rw [e,Zef (h2 row),hrow.uniq hL]
 intro k
 induction k with
 | zero=>
  intro row hl h0 hk
  have e:row=L:=ZB0 hl hL.len (by omega)
  exact fixed row hl h0 (by rw [e];exact ZBq hL)
 | succ k ih=>
  intro row hl h0 hk
  by_cases e:Q2 R row=row
  ·exact fixed row hl h0 e
  ·obtain ⟨e1,e2⟩:=ZA1 (s:=(row,false)) hl hR
   rw [ZiQ (h1 row hl h0),e2.2 (.inr e),e1]
   refine ih _ (by rw [ZAK];exact hl) (fun i=>⟨Int.le_trans (h0 i).1 (ZAm R row i),ZAx hL.sol (fun _ h=>h) (fun i=>(h0 i).2) i⟩) ?_
   rcases ZBI hL hl hR (fun i=>(h0 i).1) (fun i=>(h0 i).2) with h | h
   ·exact absurd (by rw [ZB0 hl hL.len h];exact ZBq hL) e
   ·show ZA6 n L (Q2 R row)≤k
    omega
/- the reference writes each greater level at once -/
theorem ZDf {row:List Int} {f:Nat} (hf:f<row.length):row.set f (lvN row f)=row:=ZAM (by simp) fun i _=>by
 rw [ZAh]
 split
 ·rename_i h;rw [h.1]
 ·rfl
theorem ZB9 {row:List Int} {f:Nat} (hf:f<row.length):∀(l:List Int) (v:Int),lvN row f≤v→l.foldl (fun s y=>s.set f (mx (lvN s f) (lvN s y.toNat))) (row.set f v)=row.set f (l.foldl (fun m y=>mx m (lvN row y.toNat)) v)
 | [],_,_=>rfl
 | y::l,v,hv=>by
  have e1:lvN (row.set f v) f=v:=by rw [ZAh,if_pos ⟨rfl,hf⟩]
  have e2:mx v (lvN (row.set f v) y.toNat)=mx v (lvN row y.toNat):=by
   rw [ZAh]
   split
   ·rename_i h
    rw [h.1]
    unfold mx
    split<;>split<;>omega
   ·rfl
  rw [List.foldl_cons,List.foldl_cons,e1,e2,List.set_set]
  exact ZB9 hf l _ (Int.le_trans hv (ZDi v _).1)
theorem ZCq {row:List Int} {f:Nat} (hf:f<row.length):∀(l:List Int) (v:Int),(∀y∈l,y.toNat≠f)→l.foldl (fun s y=>s.set f (mx (lvN s f) (lvN s y.toNat+1))) (row.set f v)=row.set f (l.foldl (fun m y=>mx m (lvN row y.toNat+1)) v)
 | [],_,_=>rfl
 | y::l,v,hl=>by
  have e1:lvN (row.set f v) f=v:=by rw [ZAh,if_pos ⟨rfl,hf⟩]
  have e2:lvN (row.set f v) y.toNat=lvN row y.toNat:=by
   rw [ZAh,if_neg fun h=>hl y (by simp) h.1]
  rw [List.foldl_cons,List.foldl_cons,e1,e2,List.set_set]
  exact ZCq hf l _ fun z mz=>hl z (by simp [mz])
theorem ZCN {row:List Int} {r:Zh} (hf:r.for_.toNat<row.length) (hS:∀y∈r.outs,y.toNat≠r.for_.toNat):r.outs.foldl (fun s y=>s.set r.for_.toNat (mx (lvN s r.for_.toNat) (lvN s y.toNat+1))) (r.inn.foldl (fun s y=>s.set r.for_.toNat (mx (lvN s r.for_.toNat) (lvN s y.toNat))) row)=ZAc row r:=by
 have e:=ZB9 hf r.inn (lvN row r.for_.toNat) (Int.le_refl _)
 rw [ZDf hf] at e
 rw [e,ZCq hf _ _ hS]
 rfl
/- rounds -/
theorem ZCy {σ ρ:Type} {n top:Nat} {R:List Zh} {L:List Int} (hR:∀r∈R,OkN n r) (st:List Int→Nat→Nat→σ) (g:List Int→ρ) {body:σ→Option (σ ⊕ ρ)}
  (h1:∀row k s,RIn n row k→s≤top→ZAb R L ((s:Nat):Int) row k≠[]→body (st row k s)=some (.inl (st (ZAP row (ZAb R L ((s:Nat):Int) row k) ((k:Nat):Int)) (k+1) s)))
  (h2:∀row k s,RIn n row k→s≤top→ZAb R L ((s:Nat):Int) row k=[]→body (st row k s)=some (.inl (st row k (s+1))))
  (h3:∀row k,RIn n row k→body (st row k (top+1))=some (.inr (g row))):
  ∀d s row k,s+d=top+1→RIn n row k→Zdu body (st row k s)=some (g (ZAf R L n (List.range' s d) (row,k)).1):=by
 have level:∀f s row k,s≤top→RIn n row k→ZAN row≤f→Zdu body (st row k s)=Zdu body (st (ZAg R L ((s:Nat):Int) f row k).1 (ZAg R L ((s:Nat):Int) f row k).2 (s+1)):=by
  intro f
  induction f with
  | zero=>
   intro s row k hs hI hf
   have hc:ZAb R L ((s:Nat):Int) row k=[]:=Classical.byContradiction fun hc=>by have:=(hI.next hR hc).2;omega
   exact ZiQ (h2 row k s hI hs hc)
  | succ f ih=>
   intro s row k hs hI hf
   unfold ZAg
   by_cases hc:ZAb R L ((s:Nat):Int) row k=[]
   ·rw [if_pos hc]
    exact ZiQ (h2 row k s hI hs hc)
   ·rw [if_neg hc,ZiQ (h1 row k s hI hs hc)]
    obtain ⟨a,b⟩:=hI.next hR hc
    exact ih s _ _ hs a (by omega)
 intro d
 induction d with
 | zero=>
  intro s row k hs hI
  obtain rfl:s=top+1:=by omega
  exact Zef (h3 row k hI)
 | succ d ih=>
  intro s row k hs hI
  have hu:ZAN row≤n:=by have:=hI.few;omega
  rw [level n s row k (by omega) hI hu]
  exact ih (s+1) _ _ (by omega) (ZAL hR n row k hI hu).1
theorem ZBl {row:List Int} {R:List Zh} {L:List Int} {s:Int} {k:Nat} {l:List Int} (h:∀x,x∈l↔x∈ZAb R L s row k):ZAP row l ((k:Nat):Int)=ZAP row (ZAb R L s row k) ((k:Nat):Int)∧(l=[]↔ZAb R L s row k=[]):=by
 refine ⟨ZCO fun i=>?_,?_⟩
 ·constructor
  ·rintro ⟨x,mx,e⟩;exact ⟨x,(h x).1 mx,e⟩
  ·rintro ⟨x,mx,e⟩;exact ⟨x,(h x).2 mx,e⟩
 ·rw [List.eq_nil_iff_forall_not_mem,List.eq_nil_iff_forall_not_mem]
  exact forall_congr' fun x=>not_congr (h x)
theorem ZCL {σ ρ:Type} {n:Nat} {R:List Zh} {L:List Int} {s:Int} (hR:∀r∈R,OkN n r) (st:List Int→Nat→List Int→σ) (g:List Int→Nat→ρ) (cm:List Int→Nat→List Int) (hcm:∀row k x,RIn n row k→(x∈cm row k↔x∈ZAb R L s row k)) {body:σ→Option (σ ⊕ ρ)}
  (h1:∀row k,RIn n row k→cm row k≠[]→RIn n (ZAP row (cm row k) ((k:Nat):Int)) (k+1)→body (st row k (cm row k))=some (.inl (st (ZAP row (cm row k) ((k:Nat):Int)) (k+1) (cm (ZAP row (cm row k) ((k:Nat):Int)) (k+1)))))
  (h2:∀row k,RIn n row k→body (st row k [])=some (.inr (g row k))):
  ∀f row k,RIn n row k→ZAN row≤f→Zdu body (st row k (cm row k))=some (g (ZAg R L s f row k).1 (ZAg R L s f row k).2):=by
 intro f
 induction f with
 | zero=>
  intro row k hI hf
  have hc:ZAb R L s row k=[]:=Classical.byContradiction fun hc=>by have:=(hI.next hR hc).2;omega
  rw [(ZBl fun x=>hcm row k x hI).2.2 hc,Zef (h2 row k hI)]
  rfl
 | succ f ih=>
  intro row k hI hf
  unfold ZAg
  by_cases hc:ZAb R L s row k=[]
  ·rw [if_pos hc,(ZBl fun x=>hcm row k x hI).2.2 hc,Zef (h2 row k hI)]
  ·obtain ⟨e1,e2⟩:=ZBl fun x=>hcm row k x hI
   rw [if_neg hc,ZiQ (h1 row k hI (fun h=>hc (e2.1 h)) (by rw [e1];exact (hI.next hR hc).1)),e1]
   exact ih _ _ (hI.next hR hc).1 (by have:=(hI.next hR hc).2;omega)
end Go.Proofs.YtojnhepgnbhaaaaGreatDoor
namespace Go.Proofs.YtojnhepgnbhaaaaGreatDoor
open Classical
structure ZAl (b:ZK):Prop where
 n0:0≤b.nodes
 n1:b.nodes≤24
 len:b.reasons.length≤60
 ok:∀r∈b.reasons,OkN b.nodes.toNat r
 up:∀r∈b.reasons,r.inn.Pairwise (·<·)∧r.outs.Pairwise (·<·)
 few:∀r∈b.reasons,r.inn.length≤4∧r.outs.length≤4
 strat:ZCg b.reasons
theorem ZAl.of {R:List Zf} {base F:List Zc} (h:Qu R base F) (h60:(Zak R F base).length≤60):ZAl { nodes:=((F.length:Nat):Int),reasons:=Zak R F base }:=by
 have:=h.len
 exact ⟨by simp only;omega,by simp only;omega,h60,fun r mr=>by simpa using ZC4 h r mr,fun r mr=>(ZAF h mr).up,fun r mr=>Znq h mr,ZCe h⟩
theorem ZAi.sub {R Q:List Zh} (h:∀r∈Q,r∈R) {x y:Int} (k:ZAi Q x y):ZAi R x y:=by
 have one:∀a b,ZBn Q a b→ZBn R a b:=fun a b ⟨r,mr,e,hy⟩=>⟨r,h r mr,e,hy⟩
 induction k with
 | one h1=>exact .one (one _ _ h1)
 | step _ h1 ih=>exact .step ih (one _ _ h1)
theorem ZAl.sub {b c:ZK} (h:ZAl b) (hn:c.nodes=b.nodes) (hl:c.reasons.length≤b.reasons.length) (hs:∀r∈c.reasons,r∈b.reasons):ZAl c:=by
 have:=h.len
 exact ⟨by rw [hn];exact h.n0,by rw [hn];exact h.n1,by omega,fun r mr=>by rw [hn];exact h.ok r (hs r mr),fun r mr=>h.up r (hs r mr),fun r mr=>h.few r (hs r mr),fun r mr y my=>by
  obtain ⟨h1,h2⟩:=h.strat r (hs r mr) y my
  exact ⟨h1,fun hd=>h2 (hd.sub hs)⟩⟩
theorem ZAl.valid {b:ZK} (h:ZAl b):ZAn b=true:=by
 unfold ZAn
 have h0:=h.n0
 have h1:=h.n1
 simp only [Bool.and_eq_true,decide_eq_true_eq]
 refine ⟨h.n0,h.n1,h.len,List.all_eq_true.2 fun r mr=>?_⟩
 obtain ⟨⟨f0,f1⟩,f2,f3⟩:=h.ok r mr
 obtain ⟨u1,u2⟩:=h.up r mr
 unfold ZCR
 simp only [Bool.and_eq_true,decide_eq_true_eq]
 exact ⟨f0,by omega,ZDd (fun y my=>by have:=f2 y my;omega) u1,ZDd (fun y my=>by have:=f3 y my;omega) u2⟩
theorem ZAl.small {b:ZK} (h:ZAl b):ZDk b:=fun r mr=>by have:=h.few r mr;omega
def ZA9:List Zh→Nat→Int→List Zh
 | [],_,_=>[]
 | r::l,i,k=>if ((i:Nat):Int)=k then ZA9 l (i+1) k else r::ZA9 l (i+1) k
theorem ZBb {k:Int}:∀{l:List Zh} {i:Nat},(ZA9 l i k).length≤l.length∧∀r∈ZA9 l i k,r∈l
 | [],_=>by simp [ZA9]
 | x::l,i=>by
  obtain ⟨h1,h2⟩:=ZBb (k:=k) (l:=l) (i:=i+1)
  unfold ZA9
  split
  ·exact ⟨by simp;omega,fun r mr=>by simp [h2 r mr]⟩
  ·refine ⟨by simp;omega,fun r mr=>?_⟩
   rcases List.mem_cons.1 mr with rfl | mr
   ·simp
   ·simp [h2 r mr]
theorem ZEZ {ρ:Type} {fin:List Zh→Option ρ} {body:Nat→Zh→List Zh→Option (List Zh ⊕ ρ)} {k:Int}:∀(l:List Zh) (i:Nat) (acc:List Zh),(∀j r s,r∈l→s.length+1≤acc.length+l.length→body j r s=if ((j:Nat):Int)=k then some (.inl s) else some (.inl (s++[r])))→Zp body fin l i acc=fin (acc++ZA9 l i k)
 | [],_,acc,_=>by simp [Zp,ZA9]
 | x::l,i,acc,h=>by
  have hx:=h i x acc (by simp) (by simp)
  unfold ZA9
  by_cases hk:((i:Nat):Int)=k
  ·rw [if_pos hk] at hx ⊢
   rw [Ye hx]
   exact ZEZ l (i+1) acc fun j r s mr hs=>h j r s (by simp [mr]) (by simp;omega)
  ·rw [if_neg hk] at hx ⊢
   rw [Ye hx,ZEZ l (i+1) (acc++[x]) fun j r s mr hs=>h j r s (by simp [mr]) (by simp at hs ⊢;omega)]
   simp
def ZK.drop (b:ZK) (k:Int):ZK:={ nodes:=b.nodes,reasons:=ZA9 b.reasons 0 k }
theorem ZAl.drop {b:ZK} (h:ZAl b) (k:Int):ZAl (b.drop k):=h.sub rfl (ZBb).1 (ZBb).2
def ZAt:List Zc→List Int→List Zc
 | f::F,v::l=>if 0≤v then f::ZAt F l else ZAt F l
 | _,_=>[]
theorem ZB2:∀{F:List Zc} {l:List Int},(ZAt F l).length≤F.length∧∀f∈ZAt F l,f∈F
 | [],l=>by simp [ZAt]
 | f::F,[]=>by simp [ZAt]
 | f::F,v::l=>by
  obtain ⟨h1,h2⟩:=ZB2 (F:=F) (l:=l)
  unfold ZAt
  split
  ·refine ⟨by simp;omega,fun g mg=>?_⟩
   rcases List.mem_cons.1 mg with rfl | mg
   ·simp
   ·simp [h2 g mg]
  ·exact ⟨by simp;omega,fun g mg=>by simp [h2 g mg]⟩
noncomputable def lvB (b:ZK):List Int:=if h:∃L,ZAj b.nodes.toNat b.reasons L then Classical.choose h else []
noncomputable def rdB (b:ZK):List Int:=(ZAf b.reasons (lvB b) b.nodes.toNat (List.range b.nodes.toNat) (List.replicate b.nodes.toNat (-1),0)).1
theorem ZAl.lv {b:ZK} (h:ZAl b):ZAj b.nodes.toNat b.reasons (lvB b)∧∀i,0≤lvN (lvB b) i∧(lvN (lvB b) i<b.nodes.toNat∨lvN (lvB b) i=0):=by
 obtain ⟨L,hL,h2⟩:=ZDe h.ok h.strat
 have hex:∃L,ZAj b.nodes.toNat b.reasons L:=⟨L,hL⟩
 have e:lvB b=Classical.choose hex:=dif_pos hex
 have h1:ZAj b.nodes.toNat b.reasons (lvB b):=by rw [e];exact Classical.choose_spec hex
 refine ⟨h1,fun i=>⟨h1.sol.pos i,?_⟩⟩
 rw [h1.uniq hL]
 exact h2 i
theorem ZBo (n:Nat):RIn n (List.replicate n (-1)) 0:=⟨by simp,fun i hi=>⟨-1,by simp [hi],.inl rfl⟩,by
 have:=List.countP_le_length (p:=fun v:Int=>decide (v<0)) (l:=List.replicate n (-1))
 rw [List.length_replicate] at this
 unfold ZAN
 omega⟩
theorem ZAl.rd {b:ZK} (h:ZAl b):(rdB b).length=b.nodes.toNat:=(ZBC h.ok _ _ (ZBo _)).len
end Go.Proofs.YtojnhepgnbhaaaaGreatDoor
namespace Go.Proofs.YtojnhepgnbhaaaaGreatDoor
open Classical
theorem ZA3 {row:List Int} {i:Nat} (h:i<row.length):row[i]?=some (lvN row i):=by
 unfold lvN
 rw [List.getElem?_eq_getElem h]
 rfl
theorem ZCU {x:Int} (h1:-1000000≤x) (h2:x≤1000000):IntKind.i64.wrap x=x:=ZjU (by omega) (by omega)
theorem ZA4 {k:Nat} (h:k<1000000000):IntKind.i64.wrap (((k:Nat):Int)+1)=((k+1:Nat):Int):=Zi (n:=k+1) (by omega) (by omega)
theorem ZCZ (l:List Int) (h:l.length≤1073741824):ZBf l=some l:=Zj _ h
/- what a node depends on -/
theorem ZBV {ρ:Type} {n:Nat} {R:List Zh} {x:Int} {l:List Int} {body:List Bool × List Int × Int→Option ((List Bool × List Int × Int) ⊕ ρ)} (g:List Bool × List Int→ρ)
  (h1:∀s i y,ZAe n R x s→i<l.length→l[i]?=some y→(0≤y∧y.toNat<n)→body (s.1,s.2,((i:Nat):Int))=some (.inl ((ZAI s y).1,(ZAI s y).2,((i+1:Nat):Int))))
  (h2:∀s,body (s.1,s.2,((l.length:Nat):Int))=some (.inr (g s))) (hl:∀y∈l,(0≤y∧y.toNat<n)∧ZAi R x y):
  ∀(rest pre:List Int) (s:List Bool × List Int),l=pre++rest→ZAe n R x s→Zdu body (s.1,s.2,((pre.length:Nat):Int))=some (g (rest.foldl ZAI s))
 | [],pre,s,e,_=>by
  rw [List.append_nil] at e
  subst e
  exact Zef (h2 s)
 | y::rest,pre,s,e,hI=>by
  have hy:l[pre.length]?=some y:=by rw [e];simp
  have my:y∈l:=List.mem_of_getElem? hy
  have hlt:=(List.getElem?_eq_some_iff.1 hy).1
  rw [ZiQ (h1 s pre.length y hI hlt hy (hl y my).1)]
  have:=ZBV g h1 h2 hl rest (pre++[y]) (ZAI s y) (by rw [e];simp) (ZCW hI (hl y my).1 (hl y my).2).1
  simpa using this
theorem ZBM {b:ZK} (h:ZAl b) (x:Int):∃row,ZAC b x=some row∧row.length=b.nodes.toNat∧∀y:Int,0≤y→(row[y.toNat]?=some true↔ZAi b.reasons x y):=by
 have h0:=h.n0
 have h1:=h.n1
 have hn:b.nodes.toNat≤24:=by omega
 unfold ZAC
 rw [Zj _ ⟨h0,by omega⟩]
 have start:ZAe b.nodes.toNat b.reasons x (List.replicate b.nodes.toNat false,[x]):=⟨by simp,[],rfl,by simp,fun y _ hy=>by
  by_cases hl:y.toNat<b.nodes.toNat
  ·simp [hl] at hy
  ·rw [List.getElem?_eq_none (by simp;omega)] at hy;simp at hy,by simp [ZC6,List.countP_replicate]⟩
 refine ZCH h.ok (fun out todo i=>(out,todo,((i:Nat):Int))) (fun r=>r) ?_ ?_ (b.nodes.toNat+1) _ _ 0 start (by simp) (by omega) (fun j z hj=>by omega)
 ·intro out todo i z hI hi hz hzx
  have hlt:=(List.getElem?_eq_some_iff.1 hz).1
  have ht:decide (((i:Nat):Int)<((todo.length:Nat):Int))=true:=decide_eq_true (by omega)
  simp only [ht,if_true]
  rw [ZaR (f:=ZAT z) (fun _ s=>ZAe b.nodes.toNat b.reasons x s∧ZAS (out,todo) s) ⟨hI,.refl _⟩]
  ·rw [ZA4 (by omega)]
  ·intro j r s mr _ _ hs
   obtain ⟨hs1,hs2⟩:=hs
   obtain ⟨k1,k2,_⟩:=ZCV h.ok hzx hs1 mr
   refine ⟨?_,k1,hs2.trans k2⟩
   obtain ⟨a,c⟩:=s
   obtain ⟨v,hv⟩:=hs2.more
   simp only at hv
   have hzc:c[i]?=some z:=by rw [hv,List.getElem?_append_left hlt];exact hz
   have hcl:i<c.length:=(List.getElem?_eq_some_iff.1 hzc).1
   simp only [Int.toNat_natCast]
   rw [Zj _ ⟨by omega,by omega⟩,hzc,Option.bind_some]
   unfold ZAT
   by_cases e:r.for_=z
   ·obtain ⟨f1,f2⟩:=h.few r mr
    have e2:(r.for_ != z)=false:=by simp [e]
    rw [if_pos e,e2]
    simp only [Bool.false_eq_true,if_false]
    rw [ZCZ _ (by omega),Option.bind_some,Zj _ (by omega)]
    have hd:=ZDg h.ok hzx mr e
    refine ZBV (n:=b.nodes.toNat) (R:=b.reasons) (x:=x) (l:=r.inn++r.outs) (fun s=>Sum.inl s) ?_ ?_ hd (r.inn++r.outs) [] (a,c) rfl hs1
    ·intro s u y hu hul hy hyn
     have hlt2:decide (((u:Nat):Int)<((r.inn.length+r.outs.length:Nat):Int))=true:=decide_eq_true (by rw [List.length_append] at hul;omega)
     simp only [hlt2,if_true,Int.toNat_natCast]
     rw [List.length_append] at hul
     rw [Zj _ ⟨by omega,by omega⟩,hy,Option.bind_some]
     have hyl:y.toNat<s.1.length:=by rw [hu.len];exact hyn.2
     rw [Zj _ ⟨hyn.1,by omega⟩,List.getElem?_eq_getElem hyl,Option.bind_some,ZA4 (by omega)]
     unfold ZAI
     obtain ⟨t,t1,_,_,t4⟩:=hu.row
     have hlen:s.2.length=t.length+1:=by rw [t1];simp
     by_cases hb:s.1[y.toNat]=true
     ·rw [if_pos hb,if_pos (by rw [List.getElem?_eq_getElem hyl,hb])]
     ·rw [if_neg hb,if_neg (by rw [List.getElem?_eq_getElem hyl];simpa using hb),Zj _ (by omega)]
    ·intro s
     have hf:decide ((((r.inn++r.outs).length:Nat):Int)<((r.inn.length+r.outs.length:Nat):Int))=false:=decide_eq_false (by rw [List.length_append];omega)
     simp only [hf,Bool.false_eq_true,if_false]
   ·have e2:(r.for_ != z)=true:=by simp [e]
    rw [if_neg e,e2,if_pos rfl]
 ·intro out todo hI
  simp only [ZC,Bool.false_eq_true,if_false]
theorem ZAO {b:ZK} (h:ZAl b):ZAd b=some true:=by
 unfold ZAd
 have h60:=h.len
 rw [ZBw h.small (by omega),h.valid,Option.bind_some,if_pos rfl,Yf (p:=fun _=>true) (r:=true)]
 ·simp
 ·intro i r mr
  rw [Yf (p:=fun _=>true) (r:=.inl ())]
  ·simp
  ·intro j y my
   obtain ⟨k1,k2⟩:=h.strat r mr y my
   obtain ⟨row,e,hl,hd⟩:=ZBM h y
   obtain ⟨⟨f0,f1⟩,_,_⟩:=h.ok r mr
   have ey:(y==r.for_)=false:=by simpa using k1
   have hlt:r.for_.toNat<row.length:=by omega
   have hv:row[r.for_.toNat]=false:=by
    cases hb:row[r.for_.toNat] with
    | false=>rfl
    | true=>exact absurd ((hd r.for_ f0).1 (by rw [List.getElem?_eq_getElem hlt,hb])) k2
   rw [ey]
   simp only [Bool.false_eq_true,if_false]
   rw [e,Option.bind_some,Zj _ ⟨f0,by omega⟩,List.getElem?_eq_getElem hlt,Option.bind_some,hv]
   rfl
/- strata -/
theorem ZBu (n i:Nat):lvN (List.replicate n 0) i=0:=by
 unfold lvN
 by_cases hi:i<n
 ·simp [hi]
 ·rw [List.getElem?_eq_none (by simp;omega)];rfl
theorem ZCu {b:ZK} (h:ZAl b):ZAz b=some (lvB b):=by
 obtain ⟨hL,hv⟩:=h.lv
 have h0:=h.n0
 have h1:=h.n1
 unfold ZAz
 rw [ZAO h,Option.bind_some,if_pos rfl,Zj _ ⟨h0,by omega⟩]
 generalize hn:b.nodes.toNat=n at *
 have walk:∀(body:List Int × Int→Option ((List Int × Int) ⊕ List Int)),(∀row (i:Nat),i≤n→row.length=n→(∀j,0≤lvN row j∧lvN row j≤lvN (lvB b) j)→body (row,((i:Nat):Int))=some (.inl (Q2 b.reasons row,((i+1:Nat):Int))))→(∀row,body (row,((n+1:Nat):Int))=some (.inr row))→
   ∀d i row,i+d=n+1→row.length=n→(∀j,0≤lvN row j∧lvN row j≤lvN (lvB b) j)→Zdu body (row,((i:Nat):Int))=some (ZCQ b.reasons d row):=by
  intro body b1 b2 d
  induction d with
  | zero=>
   intro i row hi hl hb
   obtain rfl:i=n+1:=by omega
   exact Zef (b2 row)
  | succ d ih=>
   intro i row hi hl hb
   rw [ZiQ (b1 row i (by omega) hl hb)]
   exact ih (i+1) _ (by omega) (by rw [ZAK];exact hl) fun j=>⟨Int.le_trans (hb j).1 (ZAm b.reasons row j),ZAx hL.sol (fun _ h=>h) (fun j=>(hb j).2) j⟩
 rw [←ZBA hL (by have:=h.ok;rw [hn] at this;exact this) (n+1) (List.replicate n 0) (by simp) (fun j=>by rw [ZBu];exact Int.le_refl _) (fun j=>by rw [ZBu];exact (hv j).1) (by have:=ZCT n (lvB b) (List.replicate n 0);omega)]
 refine walk _ ?_ ?_ (n+1) 0 _ (by omega) (by simp) (fun j=>by rw [ZBu];exact ⟨Int.le_refl _,(hv j).1⟩)
 ·intro row i hi hl hb
  have ht:decide (((i:Nat):Int)≤b.nodes)=true:=decide_eq_true (by omega)
  simp only [ht,if_true]
  rw [ZaR (f:=ZAc) (fun _ s=>s.length=n∧∀j,0≤lvN s j∧lvN s j≤lvN (lvB b) j) ⟨hl,hb⟩]
  ·rw [ZA4 (by omega)]
   rfl
  ·intro j r s mr _ _ hs
   obtain ⟨hs1,hs2⟩:=hs
   have hok:=h.ok r mr
   rw [hn] at hok
   obtain ⟨⟨f0,f1⟩,f2,f3⟩:=hok
   refine ⟨?_,by rw [ZAu];exact hs1,fun j=>⟨Int.le_trans (hs2 j).1 (ZAR s r j),ZBx hL.sol mr (fun j=>(hs2 j).2) j⟩⟩
   have hout:∀y∈r.outs,y.toNat≠r.for_.toNat:=fun y my e=>(h.strat r mr y my).1 (by have:=f3 y my;omega)
   rw [ZaR (f:=fun u y=>u.set r.for_.toNat (mx (lvN u r.for_.toNat) (lvN u y.toNat))) (fun _ u=>u.length=n∧∀j,j≠r.for_.toNat→lvN u j=lvN s j) ⟨hs1,fun _ _=>rfl⟩]
   ·rw [ZaR (f:=fun u y=>u.set r.for_.toNat (mx (lvN u r.for_.toNat) (lvN u y.toNat+1))) (fun _ u=>u.length=n∧∀j,j≠r.for_.toNat→lvN u j=lvN s j)]
    ·rw [ZCN (by omega) hout]
    ·have e:=ZB9 (row:=s) (f:=r.for_.toNat) (by omega) r.inn (lvN s r.for_.toNat) (Int.le_refl _)
     rw [ZDf (by omega)] at e
     rw [e]
     exact ⟨by simp [hs1],fun j hj=>by rw [ZAh,if_neg fun hh=>hj hh.1]⟩
    ·intro j y u my _ _ hu
     obtain ⟨y0,y1⟩:=f3 y my
     have hy:=hout y my
     have hyv:=hu.2 y.toNat hy
     have hb1:=hs2 y.toNat
     have hb2:=hv y.toNat
     refine ⟨?_,by simp [hu.1],fun j hj=>by rw [ZAh,if_neg fun hh=>hj hh.1];exact hu.2 j hj⟩
     rw [Zj _ ⟨f0,by omega⟩,ZA3 (by omega),Option.bind_some,Zj _ ⟨y0,by omega⟩,ZA3 (by omega),Option.bind_some,ZCU (by omega) (by omega)]
     rfl
   ·intro j y u my _ _ hu
    obtain ⟨y0,y1⟩:=f2 y my
    refine ⟨?_,by simp [hu.1],fun j hj=>by rw [ZAh,if_neg fun hh=>hj hh.1];exact hu.2 j hj⟩
    rw [Zj _ ⟨f0,by omega⟩,ZA3 (by omega),Option.bind_some,Zj _ ⟨y0,by omega⟩,ZA3 (by omega),Option.bind_some]
    rfl
 ·intro row
  have hf:decide (((n+1:Nat):Int)≤b.nodes)=false:=decide_eq_false (by omega)
  simp only [hf,Bool.false_eq_true,if_false]
theorem ZC2 {b:ZK} (h:ZAl b):ZAW b=some (lvB b):=by
 obtain ⟨hL,hv⟩:=h.lv
 have h0:=h.n0
 have h1:=h.n1
 unfold ZAW
 rw [Zj _ ⟨h0,by omega⟩]
 refine ZCD hL h.ok (fun row m=>(row,m)) (fun row=>row) ?_ ?_ b.nodes.toNat _ (by simp) (fun j=>by rw [ZBu];exact ⟨Int.le_refl _,(hv j).1⟩) (ZCT _ _ _)
 ·intro row hl hb
  simp only [if_true]
  rw [ZaR (f:=ZAs) (fun _ s=>s.1.length=b.nodes.toNat∧∀j,0≤lvN s.1 j∧lvN s.1 j≤lvN (lvB b) j) ⟨hl,hb⟩]
  intro j r s mr _ _ hs
  obtain ⟨hs1,hs2⟩:=hs
  obtain ⟨⟨f0,f1⟩,f2,f3⟩:=h.ok r mr
  obtain ⟨row,m⟩:=s
  simp only at hs1 hs2
  refine ⟨?_,?_⟩
  ·dsimp only
   rw [Zj _ ⟨f0,by omega⟩,ZA3 (by omega),Option.bind_some]
   rw [ZBD (f:=fun u y=>mx u (lvN row y.toNat)) fun j y u my=>by
    obtain ⟨y0,y1⟩:=f2 y my
    rw [Zj _ ⟨y0,by omega⟩,ZA3 (by omega),Option.bind_some]
    rfl]
   rw [ZBD (f:=fun u y=>mx u (lvN row y.toNat+1)) fun j y u my=>by
    obtain ⟨y0,y1⟩:=f3 y my
    have hb1:=hs2 y.toNat
    have hb2:=hv y.toNat
    rw [Zj _ ⟨y0,by omega⟩,ZA3 (by omega),Option.bind_some,ZCU (by omega) (by omega)]
    rfl]
   show (if decide (lvN row r.for_.toNat<ZBa row r)=true then some (Sum.inl (row.set r.for_.toNat (ZBa row r),true)) else some (Sum.inl (row,m)))=some (Sum.inl (ZAs (row,m) r))
   unfold ZAs
   by_cases hc:lvN row r.for_.toNat<ZBa row r
   ·rw [if_pos (decide_eq_true hc),if_pos hc]
    rfl
   ·rw [if_neg (by simpa using hc),if_neg hc]
  ·unfold ZAs
   by_cases hc:lvN row r.for_.toNat<ZBa row r
   ·rw [if_pos hc]
    exact ⟨by rw [ZAu];exact hs1,fun j=>⟨Int.le_trans (hs2 j).1 (ZAR row r j),ZBx hL.sol mr (fun j=>(hs2 j).2) j⟩⟩
   ·rw [if_neg hc]
    exact ⟨hs1,hs2⟩
 ·intro row
  rfl
end Go.Proofs.YtojnhepgnbhaaaaGreatDoor
namespace Go.Proofs.YtojnhepgnbhaaaaGreatDoor
open Classical
theorem ZCS {n k:Nat} {row:List Int} (h:RIn n row k) {y:Int} (h0:0≤y) (hy:y.toNat<n):atI row y=some (rdN row y)∧row[y.toNat]?=some (rdN row y):=by
 obtain ⟨v,hv,_⟩:=h.val y.toNat hy
 have e:row[y.toNat]?=some (rdN row y):=by unfold rdN;rw [hv];rfl
 refine ⟨?_,e⟩
 unfold atI
 rw [if_pos h0,e]
noncomputable def ZCa (row:List Int) (k:Nat) (y:Int):Bool:=decide (0≤rdN row y∧rdN row y<((k:Nat):Int))
noncomputable def ZCd (row:List Int) (y:Int):Bool:=decide (rdN row y<0)
theorem ZCx {ρ:Type} {n k:Nat} {row:List Int} (h:RIn n row k) {l:List Int} (hl:∀y∈l,0≤y∧y.toNat<n) {fin:Unit→Option ρ} {z:ρ} {body:Nat→Int→Unit→Option (Unit ⊕ ρ)}
  (hb:∀i y u,body i y u=(atI row y).bind fun x=>if decide (x<0)=true then some (.inr z) else if decide (((k:Nat):Int)≤x)=true then some (.inr z) else some (.inl ())):Zp body fin l 0 ()=if l.all (ZCa row k)=true then fin () else some z:=by
 rw [Yf (p:=ZCa row k) (r:=z)]
 intro i y my
 obtain ⟨y0,y1⟩:=hl y my
 rw [hb,(ZCS h y0 y1).1,Option.bind_some]
 unfold ZCa
 by_cases h1:rdN row y<0
 ·rw [if_pos (decide_eq_true h1),decide_eq_false (by omega)];rfl
 ·rw [if_neg (by simpa using h1)]
  by_cases h2:((k:Nat):Int)≤rdN row y
  ·rw [if_pos (decide_eq_true h2),decide_eq_false (by omega)];rfl
  ·rw [if_neg (by simpa using h2),decide_eq_true (by omega)];rfl
theorem ZCp {ρ:Type} {n k:Nat} {row:List Int} (h:RIn n row k) {l:List Int} (hl:∀y∈l,0≤y∧y.toNat<n) {fin:Unit→Option ρ} {z:ρ} {body:Nat→Int→Unit→Option (Unit ⊕ ρ)}
  (hb:∀i y u,body i y u=(atI row y).bind fun x=>if decide (0≤x)=true then some (.inr z) else some (.inl ())):Zp body fin l 0 ()=if l.all (ZCd row)=true then fin () else some z:=by
 rw [Yf (p:=ZCd row) (r:=z)]
 intro i y my
 obtain ⟨y0,y1⟩:=hl y my
 rw [hb,(ZCS h y0 y1).1,Option.bind_some]
 unfold ZCd
 by_cases h1:0≤rdN row y
 ·rw [if_pos (decide_eq_true h1),decide_eq_false (by omega)];rfl
 ·rw [if_neg (by simpa using h1),decide_eq_true (by omega)];rfl
theorem ZAJ {row:List Int} {k:Nat} {r:Zh}:(r.inn.all (ZCa row k)=true∧r.outs.all (ZCd row)=true)↔ZBi row k r:=by
 simp only [List.all_eq_true,ZCa,ZCd,decide_eq_true_eq]
 exact Iff.rfl
theorem ZB8 {n k:Nat} {row:List Int} (h:RIn n row k) {r:Zh} (hr:OkN n r):ZAk r row ((k:Nat):Int)=some (decide (ZBi row k r)):=by
 unfold ZAk
 rw [ZCx h hr.2.1 fun i y u=>rfl,ZCp h hr.2.2 fun i y u=>rfl]
 by_cases h1:r.inn.all (ZCa row k)=true
 ·rw [if_pos h1]
  by_cases h2:r.outs.all (ZCd row)=true
  ·rw [if_pos h2,decide_eq_true (ZAJ.1 ⟨h1,h2⟩)]
  ·rw [if_neg h2,decide_eq_false fun h=>h2 (ZAJ.2 h).2]
 ·rw [if_neg h1,decide_eq_false fun h=>h1 (ZAJ.2 h).1]
theorem ZCk {n k:Nat} {row:List Int} (h:RIn n row k) {l:List Int} (hl:∀y∈l,0≤y∧y.toNat<n):ZAq l row ((k:Nat):Int)=some (l.all (ZCa row k)):=by
 unfold ZAq
 rw [ZCx h hl fun i y u=>rfl]
 cases l.all (ZCa row k)<;>rfl
theorem ZCP {n k:Nat} {row:List Int} (h:RIn n row k) {l:List Int} (hl:∀y∈l,0≤y∧y.toNat<n):ZAH l row=some (l.all (ZCd row)):=by
 unfold ZAH
 rw [ZCp h hl fun i y u=>rfl]
 cases l.all (ZCd row)<;>rfl
/- the program's rounds -/
theorem ZC9 {n:Nat} {L:List Int} {ρ:Type} {body:List Int × Int × Int→Option ((List Int × Int × Int) ⊕ ρ)} {r:ρ} (hv:∀i,0≤lvN L i∧lvN L i≤((n:Nat):Int))
  (h1:∀k row u,k<n→row.length=n→body (row,((k:Nat):Int),u)=some (.inl (row.set k (-1),((k+1:Nat):Int),mx u (lvN L k))))
  (h2:∀u,0≤u→u≤((n:Nat):Int)→(∀i,i<n→lvN L i≤u)→body (List.replicate n (-1),((n:Nat):Int),u)=some (.inr r)):
  ∀m k row u,k+m=n→row.length=n→(∀i,i<k→row[i]?=some (-1))→0≤u→u≤((n:Nat):Int)→(∀i,i<k→lvN L i≤u)→Zdu body (row,((k:Nat):Int),u)=some r:=by
 intro m
 induction m with
 | zero=>
  intro k row u hk hl hr h0 hu hm
  obtain rfl:k=n:=by omega
  have:row=List.replicate k (-1):=by
   apply List.ext_getElem?
   intro i
   by_cases hi:i<k
   ·rw [hr i hi];simp [hi]
   ·rw [List.getElem?_eq_none (by omega),List.getElem?_eq_none (by simp;omega)]
  rw [this]
  exact Zef (h2 u h0 hu hm)
 | succ m ih=>
  intro k row u hk hl hr h0 hu hm
  rw [ZiQ (h1 k row u (by omega) hl)]
  have hx:=ZDi u (lvN L k)
  refine ih (k+1) _ _ (by omega) (by simp [hl]) (fun i hi=>?_) (by omega) (ZDt hu (hv k).2) fun i hi=>?_
  ·rw [List.getElem?_set]
   by_cases e:k=i
   ·rw [if_pos e,if_pos (by omega)]
   ·rw [if_neg e];exact hr i (by omega)
  ·by_cases e:i=k
   ·rw [e];exact hx.2
   ·exact Int.le_trans (hm i (by omega)) hx.1
theorem ZDp {b:ZK} (h:ZAl b) {t:Nat} (ht:∀i,i<b.nodes.toNat→lvN (lvB b) i≤((t:Nat):Int)):(ZAf b.reasons (lvB b) b.nodes.toNat (List.range' 0 (t+1)) (List.replicate b.nodes.toNat (-1),0)).1=rdB b:=by
 unfold rdB
 rw [←List.range_eq_range',ZCt (a:=t+1) (b:=b.nodes.toNat)]
 ·intro r mr
  have:=ht r.for_.toNat (h.ok r mr).1.2
  omega
 ·intro r mr
  have:=(h.lv.2 r.for_.toNat).2
  have:=(h.ok r mr).1.2
  omega
theorem ZB5 {ρ:Type} {n k:Nat} {row:List Int} (hl:row.length=n) {l:List Int} (hx:∀x∈l,0≤x∧x.toNat<n) {fin:List Int→Option ρ} {body:Nat→Int→List Int→Option (List Int ⊕ ρ)}
  (hb:∀i x s,body i x s=chk (0≤x∧x<((s.length:Nat):Int)) ((s[Int.toNat x]?).bind fun _=>some (.inl (List.set s (Int.toNat x) ((k:Nat):Int))))):Zp body fin l 0 row=fin (ZAP row l ((k:Nat):Int)):=by
 rw [ZaR (f:=fun s x=>s.set x.toNat ((k:Nat):Int)) (fun _ s=>s.length=n) hl]
 ·rfl
 ·intro j x s mx _ _ hs
  obtain ⟨x0,x1⟩:=hx x mx
  refine ⟨?_,by simp [hs]⟩
  rw [hb,Zj _ ⟨x0,by omega⟩,List.getElem?_eq_getElem (show x.toNat<s.length by omega),Option.bind_some]
theorem ZBZ {n:Nat} {R:List Zh} (hR:∀r∈R,OkN n r) {L:List Int} {s:Int} {row:List Int} {k:Nat}:∀x∈ZAb R L s row k,0≤x∧x.toNat<n:=fun x mx=>by
 obtain ⟨r,mr,rfl,_⟩:=ZAX.1 mx
 exact (hR r mr).1
theorem ZBF {b:ZK} (h:ZAl b) {ρ:Type} {row:List Int} {k s:Nat} (hI:RIn b.nodes.toNat row k) {fin:List Int→Option ρ} {body:Nat→Zh→List Int→Option (List Int ⊕ ρ)}
  (hb:∀i r acc,body i r acc=chk (0≤r.for_∧r.for_<(((lvB b).length:Nat):Int)) (((lvB b)[(Int.toNat r.for_)]?).bind fun x111=>
         if (x111==((s:Nat):Int))=true then
          chk (r.for_<((row.length:Nat):Int)) <|
          (row[(Int.toNat r.for_)]?).bind fun x112=>
          if (decide (x112<0))=true then
           (ZAk r row ((k:Nat):Int)).bind fun v113=>
           if v113=true then
            chk (acc.length+1≤1073741824) <|
            some (.inl (acc++[r.for_]))
           else
            some (.inl acc)
          else
           some (.inl acc)
         else
          some (.inl acc))):Zp body fin b.reasons 0 []=fin (ZAb b.reasons (lvB b) ((s:Nat):Int) row k):=by
 have hLl:=h.lv.1.len
 have h60:=h.len
 rw [YY (g:=fun r=>if lvN (lvB b) r.for_.toNat=((s:Nat):Int)∧rdN row r.for_<0∧ZBi row k r then some r.for_ else none)]
 ·rfl
 ·intro j r acc mr ha
  simp only [List.length_nil,Nat.zero_add] at ha
  have hok:=h.ok r mr
  obtain ⟨f0,f1⟩:=hok.1
  rw [hb,Zj _ ⟨f0,by omega⟩,ZA3 (by omega),Option.bind_some]
  by_cases c1:lvN (lvB b) r.for_.toNat=((s:Nat):Int)
  ·rw [if_pos (by simpa using c1),Zj _ (by rw [hI.len];omega),(ZCS hI f0 f1).2,Option.bind_some]
   by_cases c2:rdN row r.for_<0
   ·rw [if_pos (decide_eq_true c2),ZB8 hI hok,Option.bind_some]
    by_cases c3:ZBi row k r
    ·rw [if_pos (decide_eq_true c3),Zj _ (by omega),if_pos ⟨c1,c2,c3⟩];rfl
    ·rw [if_neg (by simpa using c3),if_neg fun hh=>c3 hh.2.2];simp
   ·rw [if_neg (by simpa using c2),if_neg fun hh=>c2 hh.2.1];simp
  ·rw [if_neg (by simpa using c1),if_neg fun hh=>c1 hh.1];simp
theorem ZC7 {b:ZK} (h:ZAl b):ZAU b=some (rdB b):=by
 obtain ⟨hL,hv⟩:=h.lv
 have h0:=h.n0
 have h1:=h.n1
 have h60:=h.len
 unfold ZAU
 rw [ZC2 h,Option.bind_some,Zj _ ⟨h0,by omega⟩]
 have hv':∀i,0≤lvN (lvB b) i∧lvN (lvB b) i≤((b.nodes.toNat:Nat):Int):=fun i=>by have:=hv i;omega
 refine ZC9 (n:=b.nodes.toNat) (L:=lvB b) hv' ?_ ?_ b.nodes.toNat 0 _ 0 (by omega) (by simp) (fun i hi=>by omega) (Int.le_refl _) (by omega) (fun i hi=>by omega)
 ·intro k row u hk hl
  have ht:decide (((k:Nat):Int)<((b.nodes.toNat:Nat):Int))=true:=decide_eq_true (by omega)
  simp only [ht,if_true,Int.toNat_natCast]
  have:=hL.len
  rw [Zj _ ⟨by omega,by omega⟩,List.getElem?_eq_getElem (show k<row.length by omega),Option.bind_some,Zj _ (by omega),ZA3 (by omega),Option.bind_some,ZA4 (by omega)]
  rfl
 ·intro u u0 un um
  simp only [ZC,Bool.false_eq_true,if_false]
  obtain ⟨t,rfl⟩:∃t:Nat,u=((t:Nat):Int):=⟨u.toNat,by omega⟩
  rw [←ZDp h um]
  refine ZCy (top:=t) h.ok (fun row k s=>(row,((k:Nat):Int),((s:Nat):Int))) (fun row=>Sum.inr row) ?_ ?_ ?_ (t+1) 0 _ 0 (by omega) (ZBo _)
  ·intro row k s hI hs hc
   have ht:decide (((s:Nat):Int)≤((t:Nat):Int))=true:=decide_eq_true (by omega)
   simp only [ht,if_true]
   rw [ZBF h hI fun i r acc=>rfl]
   have hl0:((((ZAb b.reasons (lvB b) ((s:Nat):Int) row k).length:Nat):Int)==0)=false:=by
    have:(ZAb b.reasons (lvB b) ((s:Nat):Int) row k).length≠0:=fun e=>hc (List.eq_nil_of_length_eq_zero e)
    simpa using this
   simp only [hl0,Bool.false_eq_true,if_false]
   rw [ZB5 hI.len (ZBZ h.ok) fun i x s=>rfl,ZA4 (by have:=hI.few;omega)]
  ·intro row k s hI hs hc
   have ht:decide (((s:Nat):Int)≤((t:Nat):Int))=true:=decide_eq_true (by omega)
   simp only [ht,if_true]
   rw [ZBF h hI fun i r acc=>rfl,hc,ZA4 (by omega)]
   rfl
  ·intro row k hI
   have hf:decide (((t+1:Nat):Int)≤((t:Nat):Int))=false:=decide_eq_false (by omega)
   simp only [hf,Bool.false_eq_true,if_false]
/- the reference's rounds -/
noncomputable def ZBg (n:Nat) (R:List Zh) (L:List Int) (s:Int) (row:List Int) (k x:Nat):Option Int:=if lvN L x=s∧rdN row ((x:Nat):Int)<0∧R.any (fun r=>decide (r.for_=((x:Nat):Int)∧ZBi row k r))=true then some ((x:Nat):Int) else none
theorem ZB6 {n:Nat} {R:List Zh} (hR:∀r∈R,OkN n r) {L:List Int} {s:Int} {row:List Int} {k:Nat} {x:Int}:x∈(List.range' 0 n).filterMap (ZBg n R L s row k)↔x∈ZAb R L s row k:=by
 rw [ZAX,List.mem_filterMap]
 constructor
 ·rintro ⟨i,mi,hi⟩
  unfold ZBg at hi
  split at hi
  ·rename_i hc
   obtain rfl:=Option.some.inj hi
   obtain ⟨h1,h2,h3⟩:=hc
   obtain ⟨r,mr,hr⟩:=List.any_eq_true.1 h3
   rw [decide_eq_true_iff] at hr
   exact ⟨r,mr,hr.1,by simpa using h1,h2,hr.2⟩
  ·simp at hi
 ·rintro ⟨r,mr,rfl,h1,h2,h3⟩
  obtain ⟨f0,f1⟩:=(hR r mr).1
  have e:((r.for_.toNat:Nat):Int)=r.for_:=Int.toNat_of_nonneg f0
  refine ⟨r.for_.toNat,List.mem_range'.2 ⟨r.for_.toNat,f1,by omega⟩,?_⟩
  unfold ZBg
  rw [if_pos ⟨h1,by rw [e];exact h2,List.any_eq_true.2 ⟨r,mr,by rw [decide_eq_true_iff,e];exact ⟨rfl,h3⟩⟩⟩,e]
theorem ZBr {b:ZK} (h:ZAl b) {row:List Int} {k s:Nat} (hI:RIn b.nodes.toNat row k):ZAo b (lvB b) ((s:Nat):Int) row ((k:Nat):Int)=some ((List.range' 0 b.nodes.toNat).filterMap (ZBg b.nodes.toNat b.reasons (lvB b) ((s:Nat):Int) row k)):=by
 obtain ⟨hL,hv⟩:=h.lv
 have h0:=h.n0
 have h1:=h.n1
 unfold ZAo
 have walk:∀(body:List Int × Int→Option ((List Int × Int) ⊕ List Int)) (G:Nat→Option Int),(∀acc (i:Nat),i<b.nodes.toNat→acc.length≤24→body (acc,((i:Nat):Int))=some (.inl (acc++(G i).toList,((i+1:Nat):Int))))→(∀acc,body (acc,((b.nodes.toNat:Nat):Int))=some (.inr acc))→
   ∀d i acc,i+d=b.nodes.toNat→acc.length≤i→Zdu body (acc,((i:Nat):Int))=some (acc++(List.range' i d).filterMap G):=by
  intro body G b1 b2 d
  induction d with
  | zero=>
   intro i acc hi ha
   obtain rfl:i=b.nodes.toNat:=by omega
   rw [Zef (b2 acc)]
   simp
  | succ d ih=>
   intro i acc hi ha
   rw [ZiQ (b1 acc i (by omega) (by omega)),ih (i+1) _ (by omega) (by rw [List.length_append];cases G i<;>simp<;>omega),List.range'_succ,List.filterMap_cons]
   cases G i<;>simp
 refine walk _ (ZBg b.nodes.toNat b.reasons (lvB b) ((s:Nat):Int) row k) ?_ ?_ b.nodes.toNat 0 [] (by omega) (by simp)
 ·intro acc i hi ha
  have ht:decide (((i:Nat):Int)<b.nodes)=true:=decide_eq_true (by omega)
  have hLl:=hL.len
  have e1:atI (lvB b) ((i:Nat):Int)=some (lvN (lvB b) i):=by rw [Zcm];exact ZA3 (by omega)
  have e2:=(ZCS hI (y:=((i:Nat):Int)) (by omega) (by simpa using hi)).1
  simp only [ht,if_true]
  rw [e1,Option.bind_some,e2,ZA4 (by omega)]
  unfold ZBg
  by_cases c1:lvN (lvB b) i=((s:Nat):Int)
  ·have d1:(lvN (lvB b) i != ((s:Nat):Int))=false:=by simp [c1]
   simp only [d1,Bool.false_eq_true,if_false,Option.bind_some]
   by_cases c2:rdN row ((i:Nat):Int)<0
   ·have d2:decide (0≤rdN row ((i:Nat):Int))=false:=decide_eq_false (by omega)
    simp only [d2,Bool.false_eq_true,if_false]
    rw [ZcB (p:=fun r=>decide (r.for_=((i:Nat):Int)∧ZBi row k r)) (r:=.inl (acc++[((i:Nat):Int)],((i+1:Nat):Int)))]
    ·by_cases c3:b.reasons.any (fun r=>decide (r.for_=((i:Nat):Int)∧ZBi row k r))=true
     ·rw [if_pos c3,if_pos ⟨c1,c2,c3⟩];rfl
     ·rw [if_neg c3,if_neg fun hh=>c3 hh.2.2];simp
    ·intro j r mr
     obtain ⟨f1,f2,f3⟩:=h.ok r mr
     by_cases c3:r.for_=((i:Nat):Int)
     ·rw [if_pos (by simpa using c3),ZCk hI f2,Option.bind_some]
      by_cases c4:r.inn.all (ZCa row k)=true
      ·rw [if_pos c4,ZCP hI f3,Option.bind_some]
       by_cases c5:r.outs.all (ZCd row)=true
       ·rw [if_pos c5,Zj _ (by omega),decide_eq_true ⟨c3,ZAJ.1 ⟨c4,c5⟩⟩];rfl
       ·rw [if_neg c5,decide_eq_false fun hh=>c5 (ZAJ.2 hh.2).2];rfl
      ·rw [if_neg c4,decide_eq_false fun hh=>c4 (ZAJ.2 hh.2).1];rfl
     ·rw [if_neg (by simpa using c3),decide_eq_false fun hh=>c3 hh.1];rfl
   ·have d2:decide (0≤rdN row ((i:Nat):Int))=true:=decide_eq_true (by omega)
    simp only [d2,if_true]
    rw [if_neg fun hh=>c2 hh.2.1];simp
  ·have d1:(lvN (lvB b) i != ((s:Nat):Int))=true:=by simp [c1]
   simp only [d1,if_true]
   rw [if_neg fun hh=>c1 hh.1];simp
 ·intro acc
  have hf:decide (((b.nodes.toNat:Nat):Int)<b.nodes)=false:=decide_eq_false (by omega)
  simp only [hf,Bool.false_eq_true,if_false]
theorem ZCC {b:ZK} (h:ZAl b):ZAB b=some (rdB b):=by
 have h0:=h.n0
 have h1:=h.n1
 unfold ZAB
 rw [ZAO h,Option.bind_some,if_pos rfl,ZCu h,Option.bind_some]
 have walk:∀(body:List Int × Int→Option ((List Int × Int) ⊕ List Int)),(∀(i:Nat),i<b.nodes.toNat→body (List.replicate i (-1),((i:Nat):Int))=some (.inl (List.replicate i (-1)++[-1],((i+1:Nat):Int))))→body (List.replicate b.nodes.toNat (-1),((b.nodes.toNat:Nat):Int))=some (.inr (rdB b))→
   ∀d i,i+d=b.nodes.toNat→Zdu body (List.replicate i (-1),((i:Nat):Int))=some (rdB b):=by
  intro body b1 b2 d
  induction d with
  | zero=>
   intro i hi
   obtain rfl:i=b.nodes.toNat:=by omega
   exact Zef b2
  | succ d ih=>
   intro i hi
   rw [ZiQ (b1 i (by omega)),←ih (i+1) (by omega),List.replicate_succ']
 refine walk _ ?_ ?_ b.nodes.toNat 0 (by omega)
 ·intro i hi
  have ht:decide (((i:Nat):Int)<b.nodes)=true:=decide_eq_true (by omega)
  simp only [ht,if_true]
  rw [Zj _ (by simp;omega),ZA4 (by omega)]
 ·have hf:decide (((b.nodes.toNat:Nat):Int)<b.nodes)=false:=decide_eq_false (by omega)
  simp only [hf,Bool.false_eq_true,if_false]
  have walk2:∀(body:List Int × Int × Int→Option ((List Int × Int × Int) ⊕ ((List Int × Int) ⊕ List Int))),(∀row (k s:Nat),RIn b.nodes.toNat row k→s<b.nodes.toNat→body (row,((k:Nat):Int),((s:Nat):Int))=some (.inl ((ZAg b.reasons (lvB b) ((s:Nat):Int) b.nodes.toNat row k).1,(((ZAg b.reasons (lvB b) ((s:Nat):Int) b.nodes.toNat row k).2:Nat):Int),((s+1:Nat):Int))))→(∀row (k:Nat),body (row,((k:Nat):Int),((b.nodes.toNat:Nat):Int))=some (.inr (.inr row)))→
    ∀d s row k,s+d=b.nodes.toNat→RIn b.nodes.toNat row k→Zdu body (row,((k:Nat):Int),((s:Nat):Int))=some (.inr (ZAf b.reasons (lvB b) b.nodes.toNat (List.range' s d) (row,k)).1):=by
   intro body b1 b2 d
   induction d with
   | zero=>
    intro s row k hs hI
    obtain rfl:s=b.nodes.toNat:=by omega
    exact Zef (b2 row k)
   | succ d ih=>
    intro s row k hs hI
    rw [ZiQ (b1 row k s hI (by omega))]
    exact ih (s+1) _ _ (by omega) (ZAL h.ok b.nodes.toNat row k hI (by have:=hI.few;omega)).1
  have e:rdB b=(ZAf b.reasons (lvB b) b.nodes.toNat (List.range' 0 b.nodes.toNat) (List.replicate b.nodes.toNat (-1),0)).1:=by unfold rdB;rw [List.range_eq_range']
  rw [e]
  refine walk2 _ ?_ ?_ b.nodes.toNat 0 _ 0 (by omega) (ZBo _)
  ·intro row k s hI hs
   have ht:decide (((s:Nat):Int)<b.nodes)=true:=decide_eq_true (by omega)
   simp only [ht,if_true]
   rw [ZBr h hI,Option.bind_some,ZA4 (by omega)]
   refine ZCL (s:=((s:Nat):Int)) h.ok (fun row k l=>(row,l,((k:Nat):Int))) (fun row k=>Sum.inl (row,((k:Nat):Int),((s+1:Nat):Int))) (fun row k=>(List.range' 0 b.nodes.toNat).filterMap (ZBg b.nodes.toNat b.reasons (lvB b) ((s:Nat):Int) row k)) (fun row k x _=>ZB6 h.ok) ?_ ?_ b.nodes.toNat row k hI (by have:=hI.few;omega)
   ·intro row k hI hc hN
    have hlt:decide (0<((((List.range' 0 b.nodes.toNat).filterMap (ZBg b.nodes.toNat b.reasons (lvB b) ((s:Nat):Int) row k)).length:Nat):Int))=true:=by
     have:((List.range' 0 b.nodes.toNat).filterMap (ZBg b.nodes.toNat b.reasons (lvB b) ((s:Nat):Int) row k)).length≠0:=fun e=>hc (List.eq_nil_of_length_eq_zero e)
     exact decide_eq_true (by omega)
    simp only [hlt,if_true]
    rw [ZB5 hI.len (fun x mx=>ZBZ h.ok x (ZB6 h.ok |>.1 mx)) fun i x s=>rfl,ZA4 (by have:=hI.few;omega),ZBr h hN,Option.bind_some]
   ·intro row k hI
    rfl
  ·intro row k
   simp only [hf,Bool.false_eq_true,if_false]
end Go.Proofs.YtojnhepgnbhaaaaGreatDoor
namespace Go.Proofs.YtojnhepgnbhaaaaGreatDoor
open Classical
theorem ZBp {ρ:Type} {l:List Int} (hl:l.length≤1000) {fin:List Bool→Option ρ} {body:Nat→Int→List Bool→Option (List Bool ⊕ ρ)} (hb:∀i x s,body i x s=chk (s.length+1≤1073741824) (some (.inl (s++[decide (0≤x)])))):Zp body fin l 0 []=fin (l.map fun x=>decide (0≤x)):=by
 rw [Zov (g:=fun x=>decide (0≤x))]
 ·rfl
 ·intro j x s _ hs
  simp at hs
  rw [hb,Zj _ (by omega)]
theorem ZCX {b:ZK} (h:ZAl b):ZAV b=some ((rdB b).map fun x=>decide (0≤x)):=by
 unfold ZAV
 have:=h.n1
 rw [ZC7 h,Option.bind_some,ZBp (by rw [h.rd];omega) fun i x s=>rfl]
theorem ZCo {b:ZK} (h:ZAl b):ZAA b=some ((rdB b).map fun x=>decide (0≤x)):=by
 unfold ZAA
 have:=h.n1
 rw [ZCC h,Option.bind_some,ZBp (by rw [h.rd];omega) fun i x s=>rfl]
theorem ZBK {ρ:Type} {fin:List Zc→Option ρ} {body:Nat→Bool→List Zc→Option (List Zc ⊕ ρ)} {F:List Zc} (hF:∀f∈F,f.args.length≤1048576) (hl:F.length≤1000)
  (hb:∀i x s,body i x s=if x=true then (atI F ((i:Nat):Int)).bind fun f=>(Y3 f).bind fun g=>chk (s.length+1≤1073741824) (some (.inl (s++[g]))) else some (.inl s)):
  ∀(rest:List Zc) (l:List Int) (pre acc:List Zc),F=pre++rest→l.length=rest.length→acc.length≤pre.length→Zp body fin (l.map fun x=>decide (0≤x)) pre.length acc=fin (acc++ZAt rest l)
 | [],[],pre,acc,_,_,_=>by simp [Zp,ZAt]
 | [],_::_,_,_,_,e,_=>by simp at e
 | _::_,[],_,_,_,e,_=>by simp at e
 | f::rest,v::l,pre,acc,e,el,ha=>by
  have hf:F[pre.length]?=some f:=by rw [e];simp
  have hlt:=(List.getElem?_eq_some_iff.1 hf).1
  have ih:=fun acc' h'=>ZBK (fin:=fin) hF hl hb rest l (pre++[f]) acc' (by rw [e];simp) (by simpa using el) h'
  simp only [List.length_append,List.length_singleton] at ih
  rw [List.map_cons]
  unfold ZAt
  by_cases hv:0≤v
  ·rw [Ye (s':=acc++[f]) (by
    rw [hb,if_pos (decide_eq_true hv),Zcm,hf,Option.bind_some,Xd _ (hF f (List.mem_of_getElem? hf)),Option.bind_some,Zj _ (by omega)]),ih _ (by simp;omega),if_pos hv]
   simp
  ·rw [Ye (s':=acc) (by rw [hb,if_neg (by simpa using hv)]),ih _ (by omega),if_neg hv]
theorem ZBy {ρ:Type} {fin:List Zc→Option ρ} {body:Nat→Zc→List Zc→Option (List Zc ⊕ ρ)} {L:List Bool} {N:Nat} (hN:N≤1000) {z:List Zc→ρ}
  (hb:∀i x s,body i x s=if decide (((i:Nat):Int)<((L.length:Nat):Int))=true then chk (0≤((i:Nat):Int)∧((i:Nat):Int)<((L.length:Nat):Int)) ((L[i]?).bind fun v=>if v=true then (X1 x).bind fun g=>chk (s.length+1≤1073741824) (some (.inl (s++[g]))) else some (.inl s)) else some (.inr (z s))):
  ∀(rest:List Zc) (l:List Int) (pre:List Bool) (acc:List Zc),(∀f∈rest,f.args.length≤1048576)→L=pre++(l.map fun x=>decide (0≤x))→l.length=rest.length→acc.length≤pre.length→pre.length+rest.length≤N→Zp body fin rest pre.length acc=fin (acc++ZAt rest l)
 | [],[],pre,acc,_,_,_,_,_=>by simp [Zp,ZAt]
 | [],_::_,_,_,_,_,e,_,_=>by simp at e
 | _::_,[],_,_,_,_,e,_,_=>by simp at e
 | f::rest,v::l,pre,acc,hF,e,el,ha,hn=>by
  have hf:L[pre.length]?=some (decide (0≤v)):=by rw [e];simp
  have hlt:=(List.getElem?_eq_some_iff.1 hf).1
  have ih:=fun acc' h'=>ZBy (fin:=fin) hN hb rest l (pre++[decide (0≤v)]) acc' (fun g mg=>hF g (by simp [mg])) (by rw [e];simp) (by simpa using el) h' (by simp at hn ⊢;omega)
  simp only [List.length_append,List.length_singleton] at ih
  simp only [List.length_cons] at hn
  have hx:∀s,body pre.length f s=if 0≤v then chk (s.length+1≤1073741824) (some (.inl (s++[f]))) else some (.inl s):=fun s=>by
   rw [hb,if_pos (decide_eq_true (by omega)),Zj _ ⟨by omega,by omega⟩,hf,Option.bind_some]
   by_cases hv:0≤v
   ·rw [if_pos (decide_eq_true hv),if_pos hv,XE _ (hF f (by simp)),Option.bind_some]
   ·rw [if_neg (by simpa using hv),if_neg hv]
  unfold ZAt
  by_cases hv:0≤v
  ·rw [Ye (s':=acc++[f]) (by rw [hx,if_pos hv,Zj _ (by omega)]),ih _ (by simp;omega),if_pos hv]
   simp
  ·rw [Ye (s':=acc) (by rw [hx,if_neg hv]),ih _ (by omega),if_neg hv]
theorem ZCG {b:ZK} (h:ZAl b) {F:List Zc} (hF:∀f∈F,f.args.length≤1048576) (hn:b.nodes=((F.length:Nat):Int)):ZAy F b=some (ZAt F (rdB b)):=by
 have h1:=h.n1
 have hr:=h.rd
 unfold ZAy
 rw [ZCX h,Option.bind_some]
 exact ZBK hF (by omega) (fun i x s=>rfl) F (rdB b) [] [] rfl (by omega) (Nat.le_refl _)
theorem ZDj {b:ZK} (h:ZAl b) {F:List Zc} (hF:∀f∈F,f.args.length≤1048576) (hn:b.nodes=((F.length:Nat):Int)):ZBh F b=some (ZAt F (rdB b)):=by
 have h1:=h.n1
 have hr:=h.rd
 unfold ZBh
 rw [ZCo h,Option.bind_some]
 exact ZBy (N:=F.length) (by omega) (fun i x s=>rfl) F (rdB b) [] [] hF rfl (by omega) (Nat.le_refl _) (by simp)
theorem Qu.args {R:List Zf} {base F:List Zc} (h:Qu R base F):∀f∈F,f.args.length≤1048576:=fun f mf=>by
 have:=X4 (h.good.ok f mf)
 omega
structure ZDh (M:List Zc):Prop where
 len:M.length≤24
 ok:∀f∈M,YV f=true
theorem ZDh.cost {M:List Zc} (h:ZDh M):M.length≤1048576∧Yd M≤1048576:=by
 have h1:=h.len
 have h2:(M.map YP).sum≤M.length * 64:=ZjT fun x mx=>Zre (h.ok x mx)
 unfold Yd
 omega
theorem ZDl:ZDh []:=⟨by simp,by simp⟩
theorem Qu.few {R:List Zf} {base F:List Zc} (h:Qu R base F) (l:List Int):ZDh (ZAt F l):=by
 have h1:=h.len
 obtain ⟨k1,k2⟩:=ZB2 (F:=F) (l:=l)
 exact ⟨by omega,fun f mf=>h.good.ok f (k2 f mf)⟩
theorem ZFj {b:ZK} (h:ZAl b) (k:Int):ZES b [k]=some (b.drop k):=by
 unfold ZES
 have h60:=h.len
 rw [ZEZ (k:=k)]
 ·rfl
 ·intro j r s mr hs
  simp only [List.length_nil,Nat.zero_add] at hs
  obtain ⟨f1,f2⟩:=h.few r mr
  rw [ZnV,Option.bind_some]
  by_cases e:((j:Nat):Int)=k
  ·rw [if_pos (by rw [Zo6];simp [e]),if_pos e]
  ·rw [if_neg (by rw [Zo6];simpa using e),if_neg e]
   unfold ZEV ZEW
   rw [Zj _ (by omega),Option.bind_some,Zj _ (by omega),Option.bind_some,Option.bind_some,Zj _ (by omega)]
theorem ZFi (l:List Int) (x:Int):ZFb l x=some (Ztx l x):=ZnV l x
theorem ZFk {b:ZK} (h:ZAl b) (k:Int):ZER b [k]=some (b.drop k):=by
 unfold ZER ZEU
 have h60:=h.len
 rw [ZEZ (k:=k)]
 ·rfl
 ·intro j r s mr hs
  simp only [List.length_nil,Nat.zero_add] at hs
  obtain ⟨f1,f2⟩:=h.few r mr
  rw [ZFi,Option.bind_some]
  by_cases e:((j:Nat):Int)=k
  ·rw [if_pos (by rw [Zo6];simp [e]),if_pos e]
  ·rw [if_neg (by rw [Zo6];simpa using e),if_neg e]
   unfold ZET
   rw [ZCZ _ (by omega),Option.bind_some,ZCZ _ (by omega),Option.bind_some,Option.bind_some,Zj _ (by omega)]
theorem ZE5 {R:List Zf} (hR:ZbJ R) (base:List Zc) (hb20:base.length≤1048576) (f:Zc):∃M ok,ZEP R base f=some (M,ok)∧ZEO R base f=some (M,ok)∧ZDh M:=by
 obtain ⟨F,b,ok,h1,h2,h3⟩:=Zhd hR base hb20
 unfold ZEP ZEO
 rw [h1,h2,Zd6,ZbO]
 simp only [Option.bind_some]
 rcases h3 with ⟨rfl,rfl,rfl⟩ | ⟨rfl,hG,rfl,h60⟩
 ·exact ⟨_,_,rfl,rfl,ZDl⟩
 ·have hB:=ZAl.of hG h60
  simp only [if_true]
  by_cases hk:Y0 base f<0
  ·rw [if_pos (decide_eq_true hk),if_pos (decide_eq_true hk)]
   exact ⟨_,_,rfl,rfl,ZDl⟩
  ·rw [if_neg (by simpa using hk),if_neg (by simpa using hk),ZFk hB,ZFj hB,Option.bind_some,Option.bind_some,ZDj (hB.drop _) hG.args rfl,ZCG (hB.drop _) hG.args rfl]
   exact ⟨_,_,rfl,rfl,hG.few _⟩
theorem ZE1 (aRules:List Zf) (cz:Yj aRules≤1048576) (_:(fun ds=>∀d∈ds,ZpL d) aRules) (aBase:List Zc) (cf:Yd aBase≤1048576) (_:(fun ds=>∀d∈ds,ZpO d) aBase) (aF:Zc) (_:YP aF≤1048576) (_:ZpO aF):∃r b,ZEP aRules aBase aF=some (r,b)∧ZEO aRules aBase aF=some (r,b)∧(r.length≤1048576∧Yd r≤1048576):=by
 have hF:aBase.length≤1048576:=by unfold Yd at cf;omega
 obtain ⟨r,b,h1,h2,h3⟩:=ZE5 (Zo5 cz) aBase hF aF
 exact ⟨r,b,h1,h2,h3.cost⟩
end Go.Proofs.YtojnhepgnbhaaaaGreatDoor
namespace Go.Proofs.YtojnhepgnbhaaaaGreatDoor
open Go.RowKit
def ZH {α β:Type} (R:α→β→Prop):List α→List β→Prop
 | [],[]=>True
 | a::l,b::r=>R a b∧ZH R l r
 | _,_=>False
section
variable {α β:Type} {R R':α→β→Prop}
theorem ZH.len:∀{l:List α} {r:List β},ZH R l r→l.length=r.length
 | [],[],_=>rfl
 | _::_,_::_,h=>by simp [h.2.len]
 | [],_::_,h=>h.elim
 | _::_,[],h=>h.elim
theorem ZH.mono:∀{l:List α} {r:List β},ZH R l r→(∀a b,a∈l→R a b→R' a b)→ZH R' l r
 | [],[],_,_=>trivial
 | _::_,_::_,h,f=>⟨f _ _ (by simp) h.1,h.2.mono fun a b m=>f a b (by simp [m])⟩
 | [],_::_,h,_=>h.elim
 | _::_,[],h,_=>h.elim
theorem ZH.at:∀{l:List α} {r:List β} {i:Nat} {a:α},ZH R l r→l[i]?=some a→∃b,r[i]?=some b∧R a b
 | [],[],_,_,_,h=>by simp at h
 | _::_,b::_,0,_,h,e=>by simp at e;subst e;exact ⟨b,by simp,h.1⟩
 | _::_,_::_,i+1,a,h,e=>by
  obtain ⟨b,h1,h2⟩:=h.2.at (i:=i) (a:=a) (by simpa using e)
  exact ⟨b,by simpa using h1,h2⟩
 | [],_::_,_,_,h,_=>h.elim
 | _::_,[],_,_,h,_=>h.elim
theorem ZH.set:∀{l:List α} {r:List β} {i:Nat} {a:α} {b:β},ZH R l r→R a b→ZH R (l.set i a) (r.set i b)
 | [],[],_,_,_,_,_=>trivial
 | _::_,_::_,0,_,_,h,e=>⟨e,h.2⟩
 | _::_,_::_,_+1,_,_,h,e=>⟨h.1,h.2.set e⟩
 | [],_::_,_,_,_,h,_=>h.elim
 | _::_,[],_,_,_,h,_=>h.elim
theorem ZH.drop:∀{l:List α} {r:List β} (n:Nat),ZH R l r→ZH R (l.drop n) (r.drop n)
 | _,_,0,h=>by simpa using h
 | [],[],n+1,_=>by simp [ZH]
 | _::_,_::_,n+1,h=>by simpa using h.2.drop n
 | [],_::_,_+1,h=>h.elim
 | _::_,[],_+1,h=>h.elim
theorem ZH.take:∀{l:List α} {r:List β} (n:Nat),ZH R l r→ZH R (l.take n) (r.take n)
 | _,_,0,h=>by simp [ZH]
 | [],[],n+1,_=>by simp [ZH]
 | _::_,_::_,n+1,h=>by simpa using ⟨h.1,h.2.take n⟩
 | [],_::_,_+1,h=>h.elim
 | _::_,[],_+1,h=>h.elim
theorem ZH.append:∀{l l':List α} {r r':List β},ZH R l r→ZH R l' r'→ZH R (l++l') (r++r')
 | [],_,[],_,_,h=>h
 | _::_,_,_::_,_,h,h'=>⟨h.1,h.2.append h'⟩
 | [],_,_::_,_,h,_=>h.elim
 | _::_,_,[],_,h,_=>h.elim
end
class NW where
 B0:Nat
structure Gh where
 val:Nat→Value
 O:Nat→List Nat
 D:Nat→List Nat
 Z:Nat→Prop
def Gh.own (g:Gh) (b:Nat):Prop:=(∃k,b∈g.O k)∨g.Z b
def Gh.low (g:Gh) (b:Nat):Prop:=g.own b∨∃k,b∈g.D k
structure Qt (g g':Gh) (n:Nat):Prop where
 own:∀b,g'.own b→g.own b∨n≤b
 low:∀b,g'.low b→g.low b∨n≤b
structure Xs (g' g:Gh):Prop where
 own:∀b,g'.own b→g.own b
 low:∀b,g'.low b→g.low b
theorem Qt.refl (g:Gh) (n:Nat):Qt g g n:=⟨fun _ h=>.inl h,fun _ h=>.inl h⟩
theorem Xs.refl (g:Gh):Xs g g:=⟨fun _ h=>h,fun _ h=>h⟩
theorem Xs.trans {a b c:Gh} (h:Xs a b) (k:Xs b c):Xs a c:=⟨fun x hx=>k.own x (h.own x hx),fun x hx=>k.low x (h.low x hx)⟩
theorem Xs.grow {g' g:Gh} (h:Xs g' g) (n:Nat):Qt g g' n:=⟨fun x hx=>.inl (h.own x hx),fun x hx=>.inl (h.low x hx)⟩
theorem Xs.of {g' g:Gh} (h:∀b,g'.own b→g.own b) (k:∀j b,b∈g'.D j→∃i,b∈g.D i):Xs g' g:=⟨h,fun x hx=>hx.imp (h x) fun ⟨j,mj⟩=>k j x mj⟩
theorem Qt.of {g g':Gh} {n:Nat} (h:∀b,g'.own b→g.own b∨n≤b) (k:∀j b,b∈g'.D j→g.low b∨n≤b):Qt g g' n:=⟨h,fun x hx=>by
 rcases hx with hx | ⟨j,mj⟩
 ·exact (h x hx).imp (fun q=>.inl q) id
 ·exact k j x mj⟩
structure Q8 extends World where
 z:Nat→Prop
 x:Nat→Prop
 hv:Option Value
structure Bel (W:Q8) (w:World):Prop where
 os:w.os=W.os
 tape:w.tape=W.tape
 output:w.output=W.output
 size:W.heap.size≤w.heap.size
 block:∀k,k<W.heap.size→¬W.x k→w.heap[k]?=W.heap[k]?
theorem Bel.trans {W:Q8} {w w':World} (h:Bel W w) (k:Below w.heap.size w w'):Bel W w':=
 ⟨k.os.trans h.os,k.tape.trans h.tape,k.output.trans h.output,Nat.le_trans h.size k.size,fun i hi hx=>(k.block i (Nat.lt_of_lt_of_le hi h.size)).trans (h.block i hi hx)⟩
def NR [NW] (g:Gh) (w:World) (x:CT) (v:Value):Prop:=
 ∃e m xs cs L,x=.sl e m xs∧0<m∧w.ownsV 0 e m v xs.length cs∧REs w m xs cs L∧(v.ownBlock.toList++L).Nodup∧∀b∈v.ownBlock.toList++L,¬g.low b∧NW.B0≤b∧∃cur t,w.heap[b]?=some (.cells cur t (0,0))
def AVR [NW] (g:Gh) (w:World):AV→Value→Prop
 | .c x,v=>∃L,RC w x v L∧∀b∈L,¬g.own b
 | .n x,v=>NR g w x v
 | .row k,v=>v=g.val k∧v.oneCell'=true
 | .nil _ _,v=>v=.slice none 0 0
 | .dead,v=>v.oneCell'=true
def PVR [NW] (g:Gh) (w:World):Bool→List AV→Value→Prop
 | true,cs,v=>∃vs:List Value,v=.agg vs.toArray∧ZH (AVR g w) cs vs
 | false,cs,v=>∃x,cs=[x]∧AVR g w x v
def SVR [NW] (g:Gh) (w:World):SV→Value→Prop
 | .any,_=>True
 | .und,v=>v=undef
 | .p a cs,v=>PVR g w a cs v
 | .tup xs,v=>∃vs:List Value,v=.tuple vs.toArray∧ZH (fun x u=>PVR g w x.1 x.2 u) xs vs
 | .bp k off,v=>∃b,g.val k=.pointer (some ⟨b,0,none⟩)∧v=.pointer (some ⟨b,off,none⟩)
 | .rp k m i off,v=>∃b o n c,g.val k=.slice (some ⟨b,o,none⟩) n c∧v=.pointer (some ⟨b,o+(i * m+off),none⟩)
 | .ep e off,v=>∃b lo cs L,v=.pointer (some ⟨b,lo+off,none⟩)∧XX w b lo cs∧RCs w e cs L∧(∀x∈b::L,¬g.own x)∧b<w.heap.size
 | .fn f,v=>v=.func (.func f) #[] #[]
def ObR [NW] (g:Gh) (w:World) (k:Nat):Ob→Prop
 | .gone=>g.O k=[]∧g.D k=[]
 | .box t cs=>∃b vs,g.val k=.pointer (some ⟨b,0,none⟩)∧g.O k=[b]∧g.D k=[]∧w.heap[b]?=some (.cells vs.toArray t (0,0))∧ZH (AVR g w) cs vs
 | .row e m xs d=>0<m∧∃cs L,w.ownsV 0 e m (g.val k) xs.length cs∧REs w m xs cs L∧((d=2∧g.O k=(g.val k).ownBlock.toList∧g.D k=L)∨(d=1∧g.O k=(g.val k).ownBlock.toList∧g.D k=[]∧∀b∈L,¬g.own b)∨(d=0∧g.O k=[]∧g.D k=[]∧∀b∈(g.val k).ownBlock.toList++L,¬g.own b))
 | .map kk vk kv=>∃b es c,g.val k=.map (some b)∧g.O k=[b]∧g.D k=[]∧w.heap[b]?=some (.map es c)∧Zc3 es=kv∧Zie kk vk kv
def XZ (w:World) (o:Ob) (b:Nat):Prop:=
 match o with
 | .map _ _ _=>∃es c,w.heap[b]?=some (.map es c)
 | _=>∃cur e,w.heap[b]?=some (.cells cur e (0,0))
theorem XZ.lt {w:World} {o:Ob} {b:Nat} (h:XZ w o b):b<w.heap.size:=by
 unfold XZ at h
 split at h
 ·obtain ⟨_,_,h⟩:=h;exact (Array.getElem?_eq_some_iff.1 h).1
 ·obtain ⟨_,_,h⟩:=h;exact (Array.getElem?_eq_some_iff.1 h).1
theorem XZ.keep {w w':World} {o:Ob} {b:Nat} (h:XZ w o b) (e:w'.heap[b]?=w.heap[b]?):XZ w' o b:=by
 unfold XZ at h ⊢
 rw [e];exact h
def Zis:Ob→Bool
 | .map _ _ _=>true
 | _=>false
theorem XZ.of {w:World} {o o':Ob} {b:Nat} (h:XZ w o b) (e:Zis o'=Zis o):XZ w o' b:=by
 cases o<;>cases o'<;>simp [Zis] at e<;>exact h
structure HI [NW] (W:Q8) (g:Gh) (ob:Nat→Ob) (w:World):Prop where
 below:Bel W w
 obs:∀k,ObR g w k (ob k)
 nodup:∀k,(g.O k++g.D k).Nodup
 apart:∀k j,k≠j→∀b∈g.O k++g.D k,b∉g.O j++g.D j
 plain:∀k,∀b∈g.O k++g.D k,(W.heap.size≤b∨W.x b)∧XZ w (ob k) b
 gz:g.Z=W.z
 zx:∀b,W.z b→b<W.heap.size∧¬W.x b
 nw:∀b,(W.heap.size≤b∨W.x b)→NW.B0≤b
def avU (U:Nat→Prop):AV→Prop
 | .row k=>U k
 | _=>True
def Qz (U:Nat→Prop) (cs:List AV):Prop:=∀x∈cs,avU U x
def svU (U:Nat→Prop):SV→Prop
 | .p _ cs=>Qz U cs
 | .tup xs=>∀x∈xs,Qz U x.2
 | .bp k _=>U k
 | .rp k _ _ _=>U k
 | _=>True
def obU (U:Nat→Prop):Ob→Prop
 | .box _ cs=>Qz U cs
 | _=>True
structure StU (U:Nat→Prop) (st:St):Prop where
 sl:∀t,svU U (st.sl t)
 ob:∀k,obU U (st.ob k)
 gone:∀k,¬U k→st.ob k=.gone
theorem HI.lt [NW] {W:Q8} {g:Gh} {ob:Nat→Ob} {w:World} (h:HI W g ob w) (k:Nat):∀b∈g.O k++g.D k,b<w.heap.size:=by
 intro b m
 exact (h.plain k b m).2.lt
theorem HI.nz [NW] {W:Q8} {g:Gh} {ob:Nat→Ob} {w:World} (h:HI W g ob w) {k b:Nat} (m:b∈g.O k++g.D k):¬g.Z b:=fun hz=>by
 rw [h.gz] at hz
 obtain ⟨h1,h2⟩:=h.zx b hz
 rcases (h.plain k b m).1 with h3 | h3
 ·omega
 ·exact h2 h3
section
variable {g g':Gh} {w w':World} {U:Nat→Prop}
theorem NR.move [NW] {x:CT} {v:Value} (h:NR g w x v)
  (hw:∀b,b<w.heap.size→¬g.own b→w'.heap[b]?=w.heap[b]?) (ho:Qt g g' w.heap.size):NR g' w' x v:=by
 obtain ⟨e,m,xs,cs,L,h1,h2,h3,h4,h5,h6⟩:=h
 have hlt:∀b∈v.ownBlock.toList++L,b<w.heap.size:=fun b mb=>by
  obtain ⟨_,_,_,_,q⟩:=h6 b mb
  exact (Array.getElem?_eq_some_iff.1 q).1
 have hs:∀b∈v.ownBlock.toList++L,w'.heap[b]?=w.heap[b]?:=fun b mb=>hw b (hlt b mb) fun o=>(h6 b mb).1 (.inl o)
 refine ⟨e,m,xs,cs,L,h1,h2,Zg5 h3 fun b mb=>hs b (by simp [mb]),h4.keep fun b mb=>hs b (by simp [mb]),h5,fun b mb=>⟨fun o=>?_,(h6 b mb).2.1,by rw [hs b mb];exact (h6 b mb).2.2⟩⟩
 rcases ho.low b o with o | o
 ·exact (h6 b mb).1 o
 ·have:=hlt b mb;omega
theorem AVR.move [NW] {x:AV} {v:Value} (h:AVR g w x v) (hx:avU U x) (hv:∀k,U k→g'.val k=g.val k)
  (hw:∀b,b<w.heap.size→¬g.own b→w'.heap[b]?=w.heap[b]?) (ho:Qt g g' w.heap.size):AVR g' w' x v:=by
 cases x with
 | c x=>
  obtain ⟨L,h1,h2⟩:=h
  have hlt:=h1.lt
  refine ⟨L,h1.keep fun b m=>hw b (hlt b m) (h2 b m),fun b m o=>?_⟩
  rcases ho.own b o with o | o
  ·exact h2 b m o
  ·have:=hlt b m;omega
 | n x=>exact NR.move h hw ho
 | row k=>exact ⟨h.1.trans (hv k hx).symm,h.2⟩
 | nil e m=>exact h
 | dead=>exact h
theorem AVRs.move [NW] {cs:List AV} {vs:List Value} (h:ZH (AVR g w) cs vs) (hx:Qz U cs) (hv:∀k,U k→g'.val k=g.val k)
  (hw:∀b,b<w.heap.size→¬g.own b→w'.heap[b]?=w.heap[b]?) (ho:Qt g g' w.heap.size):ZH (AVR g' w') cs vs:=
 h.mono fun a _ m r=>r.move (hx a m) hv hw ho
theorem PVR.move [NW] {a:Bool} {cs:List AV} {v:Value} (h:PVR g w a cs v) (hx:Qz U cs) (hv:∀k,U k→g'.val k=g.val k)
  (hw:∀b,b<w.heap.size→¬g.own b→w'.heap[b]?=w.heap[b]?) (ho:Qt g g' w.heap.size):PVR g' w' a cs v:=by
 cases a with
 | true=>obtain ⟨vs,h1,h2⟩:=h;exact ⟨vs,h1,AVRs.move h2 hx hv hw ho⟩
 | false=>obtain ⟨x,h1,h2⟩:=h;exact ⟨x,h1,h2.move (hx x (by simp [h1])) hv hw ho⟩
theorem SVR.move [NW] {s:SV} {v:Value} (h:SVR g w s v) (hx:svU U s) (hv:∀k,U k→g'.val k=g.val k)
  (hw:∀b,b<w.heap.size→¬g.own b→w'.heap[b]?=w.heap[b]?) (ho:Qt g g' w.heap.size) (hs:w.heap.size≤w'.heap.size):SVR g' w' s v:=by
 cases s with
 | any=>exact h
 | und=>exact h
 | p a cs=>exact PVR.move h hx hv hw ho
 | tup xs=>
  obtain ⟨vs,h1,h2⟩:=h
  exact ⟨vs,h1,h2.mono fun x _ m r=>r.move (hx x m) hv hw ho⟩
 | bp k off=>obtain ⟨b,h1,h2⟩:=h;exact ⟨b,(hv k hx).trans h1,h2⟩
 | rp k m i off=>obtain ⟨b,o,n,c,h1,h2⟩:=h;exact ⟨b,o,n,c,(hv k hx).trans h1,h2⟩
 | ep e off=>
  obtain ⟨b,lo,cs,L,h1,h2,h3,h4,h5⟩:=h
  have hlt:=h3.lt
  refine ⟨b,lo,cs,L,h1,fun j u hu=>?_,h3.keep fun x m=>hw x (hlt x m) (h4 x (by simp [m])),fun x m o=>?_,by omega⟩
  ·rw [←h2 j u hu];exact World.cell?_of_block (hw b h5 (h4 b (by simp)))
  ·rcases ho.own x o with o | o
   ·exact h4 x m o
   ·rcases List.mem_cons.1 m with rfl | m
    ·omega
    ·have:=hlt x m;omega
 | fn f=>exact h
theorem HI.step [NW] {W:Q8} {ob ob':Nat→Ob} (h:HI W g ob w) (T:Nat→Prop)
  (hbel:Bel W w') (hZ:g'.Z=g.Z)
  (hw:∀b,b<w.heap.size→(∀k,T k→b∉g.O k)→w'.heap[b]?=w.heap[b]?)
  (hk:∀k,¬T k→ob' k=ob k∧g'.val k=g.val k∧g'.O k=g.O k∧g'.D k=g.D k)
  (hobU:∀k,obU U (ob k)) (hv:∀k,U k→g'.val k=g.val k)
  (ho:Qt g g' w.heap.size)
  (hT:∀k,T k→ObR g' w' k (ob' k)∧(g'.O k++g'.D k).Nodup∧(∀b∈g'.O k++g'.D k,(W.heap.size≤b∨W.x b)∧XZ w' (ob' k) b)∧∀j,k≠j→∀b∈g'.O k++g'.D k,b∉g'.O j++g'.D j):
  HI W g' ob' w':=by
 have hw':∀b,b<w.heap.size→¬g.own b→w'.heap[b]?=w.heap[b]?:=fun b hb hn=>hw b hb fun k _ m=>hn (.inl ⟨k,m⟩)
 have hkeepF:∀k,¬T k→∀b∈g.O k++g.D k,w'.heap[b]?=w.heap[b]?:=fun k hk b m=>
  hw b (h.lt k b m) fun j hj mj=>h.apart j k (fun e=>hk (e ▸ hj)) b (by simp [mj]) m
 refine ⟨hbel,fun k=>?_,fun k=>?_,fun k j hkj b m=>?_,fun k b m=>?_,hZ.trans h.gz,h.zx,h.nw⟩
 ·by_cases hTk:T k
  ·exact (hT k hTk).1
  ·obtain ⟨e1,e2,e3,e4⟩:=hk k hTk
   have hob:=h.obs k
   have hF:=hkeepF k hTk
   have hU:=hobU k
   rw [e1]
   cases hok:ob k with
   | gone=>rw [hok] at hob;exact ⟨e3.trans hob.1,e4.trans hob.2⟩
   | box t cs=>
    rw [hok] at hob hU
    obtain ⟨b,vs,h1,h2,h3,h4,h5⟩:=hob
    exact ⟨b,vs,e2.trans h1,e3.trans h2,e4.trans h3,by rw [hF b (by simp [h2])];exact h4,AVRs.move h5 hU hv hw' ho⟩
   | map kk vk kv=>
    rw [hok] at hob
    obtain ⟨b,es,c,h1,h2,h3,h4,h5⟩:=hob
    exact ⟨b,es,c,e2.trans h1,e3.trans h2,e4.trans h3,by rw [hF b (by simp [h2])];exact h4,h5⟩
   | row e m xs d=>
    rw [hok] at hob
    obtain ⟨hm,cs,L,h1,h2,h4⟩:=hob
    have hltL:=h2.lt
    have hL:∀b∈L,w'.heap[b]?=w.heap[b]?:=fun b mb=>by
     rcases h4 with ⟨_,_,h4⟩ | ⟨_,_,_,h4⟩ | ⟨_,_,_,h4⟩
     ·exact hF b (by simp [h4,mb])
     ·exact hw' b (hltL b mb) (h4 b mb)
     ·exact hw' b (hltL b mb) (h4 b (by simp [mb]))
    have hOb:∀b∈(g.val k).ownBlock.toList,w'.heap[b]?=w.heap[b]?:=fun b mb=>by
     rcases h4 with ⟨_,h3,_⟩ | ⟨_,h3,_⟩ | ⟨_,_,_,h4⟩
     ·exact hF b (by simp [h3,mb])
     ·exact hF b (by simp [h3,mb])
     ·exact hw' b (ZpA h1 b mb) (h4 b (by simp [mb]))
    refine ⟨hm,cs,L,by rw [e2];exact Zg5 h1 hOb,h2.keep hL,?_⟩
    rw [e2,e3,e4]
    have hno:∀b,b<w.heap.size→¬g.own b→¬g'.own b:=fun b hb hn o=>by
     rcases ho.own b o with o | o
     ·exact hn o
     ·omega
    rcases h4 with h4 | ⟨hd,h3,h4,h5⟩ | ⟨hd,h3,h4,h5⟩
    ·exact .inl h4
    ·exact .inr (.inl ⟨hd,h3,h4,fun b mb=>hno b (hltL b mb) (h5 b mb)⟩)
    ·refine .inr (.inr ⟨hd,h3,h4,fun b mb=>?_⟩)
     rcases List.mem_append.1 mb with m1 | m1
     ·exact hno b (ZpA h1 b m1) (h5 b mb)
     ·exact hno b (hltL b m1) (h5 b mb)
 ·by_cases hTk:T k
  ·exact (hT k hTk).2.1
  ·obtain ⟨e1,e2,e3,e4⟩:=hk k hTk
   rw [e3,e4];exact h.nodup k
 ·by_cases hTk:T k
  ·exact (hT k hTk).2.2.2 j hkj b m
  ·by_cases hTj:T j
   ·exact fun mj=>(hT j hTj).2.2.2 k (fun e=>hkj e.symm) b mj m
   ·obtain ⟨_,_,e3,e4⟩:=hk k hTk
    obtain ⟨_,_,f3,f4⟩:=hk j hTj
    rw [e3,e4] at m
    rw [f3,f4]
    exact h.apart k j hkj b m
 ·by_cases hTk:T k
  ·exact (hT k hTk).2.2.1 b m
  ·obtain ⟨_,_,e3,e4⟩:=hk k hTk
   rw [e3,e4] at m
   obtain ⟨p1,p2⟩:=h.plain k b m
   obtain ⟨e1,_⟩:=hk k hTk
   exact ⟨p1,by rw [e1];exact p2.keep (hkeepF k hTk b m)⟩
end
structure Inv [NW] (W:Q8) (U:Nat→Prop) (st:St) (a:Act) (w:World):Prop where
 ex:∃g,HI W g st.ob w∧∀t,SVR g w (st.sl t) (a.tmps.getD t undef)
 wf:StU U st
 defers:a.defers=[]
 hand:∀v,W.hv=some v→a.tmps.getD 0 undef=v
end Go.Proofs.YtojnhepgnbhaaaaGreatDoor
namespace Go.Proofs.YtojnhepgnbhaaaaGreatDoor
open Go.RowKit
def Q7:AV→Value→Bool
 | .c (.int k n),.int k' n'=>k==k'&&n==n'
 | .c (.bool b),.bool b'=>b==b'
 | .c (.str s),.string s'=>s.data.toList==s'.data.toList&&Zcf s
 | .nil _ m,.slice none 0 0=>Nat.blt 0 m
 | _,_=>false
def ZgA:TypeDesc→AV→Bool
 | .int k,.c (.int k' _)=>k==k'
 | .bool,.c (.bool _)=>true
 | .string,.c (.str _)=>true
 | _,_=>false
def Zos:TypeDesc→Bool
 | .struct _=>true
 | .array _ _=>true
 | _=>false
def Zdk:PK→TypeDesc→Bool
 | .int k,.int k'=>k==k'
 | .str,.string=>true
 | .bool,.bool=>true
 | _,_=>false
def EqF (P:Program):List PK→List Field→Nat→Prop
 | [],[],_=>True
 | k :: ks, f :: fs, n => f.name ≠ "_" ∧ f.offset = n ∧ (∃ d, P.underlying f.type = some d ∧ Zdk k d = true) ∧ EqF P ks fs (n + 1)
 | _,_,_=>False
def TOk (P:Program) (t:TypeId):TI→Prop
 | .atom z=>∃d zv i,P.underlying t=some d∧ZgA d z=true∧P.info? t=some i∧i.zero=some zv∧i.size=1∧Q7 z zv=true
 | .strct fs n z=>∃(fields:Array Field) (i:TypeInfo) (zvs:Array Value),P.underlying t=some (.struct fields)∧P.info? t=some i∧i.size=n∧i.zero=some (.agg zvs)∧ZH (fun a v=>Q7 a v=true) z zvs.toList∧
   ZH (fun (fi:FI) (f:Field)=>f.offset=fi.off∧fi.size≠0∧∃j d,P.info? f.type=some j∧j.size=fi.size∧P.underlying f.type=some d∧Zos d=fi.agg) fs fields.toList
 | .slice e m bytes z=>P.underlying t=some (.slice e)∧0<m∧bytes≤131072∧(∃(i:TypeInfo) (zv:Value),P.info? e=some i∧i.size=m∧i.bytes=bytes∧i.zero=some zv∧ZH (fun a v=>Q7 a v=true) z zv.cells.toList∧z.length=m)∧
   ∃j:TypeInfo,P.info? t=some j∧j.size=1∧j.zero=some (.slice none 0 0)
 | .ifc=>∃ms,P.underlying t=some (.interface ms)
 | .map kk vk=>∃kt et dk dv i zv,P.underlying t=some (.map kt et)∧P.underlying kt=some dk∧Zdk kk dk=true∧P.underlying et=some dv∧Zdk vk dv=true∧P.info? et=some i∧i.zero=some zv∧Q7 (ZdT vk) zv=true
 | .eqs ks=>∃u,t=u+4000∧P.underlying u=some (.struct (P.fieldsOf u))∧P.stoodInHeld u=false∧P.eqGuardType P.depth u=false∧EqF P ks (P.fieldsOf u).toList 0
section
variable {P:Program} {w:World} {t:TypeId}
theorem Zoa {i:TypeInfo} (h:P.info? t=some i):(typeInfo t).run P w=.ok i w:=by simp [typeInfo,program,Sem.run,h]
theorem Yw {d:TypeDesc} (h:P.underlying t=some d):(underlying t).run P w=.ok d w:=by simp [underlying,program,Sem.run,h]
theorem XH [NW] {i:TypeInfo} (h:P.info? t=some i):(sizeOf t).run P w=.ok i.size w:=by simp [sizeOf,Zoa h]
theorem Zij [NW] {i:TypeInfo} {z:Value} (h:P.info? t=some i) (hz:i.zero=some z):(zeroValue t).run P w=.ok z w:=by simp [zeroValue,Zoa h,hz]
theorem Zgd [NW] {d:TypeDesc} (h:P.underlying t=some d):(isAgg t).run P w=.ok (Zos d) w:=by
 simp only [isAgg,Sem.run_bind,Yw h,Result.andThen_ok]
 cases d<;>rfl
theorem Zsz {d:TypeDesc} {z:AV} (h:ZgA d z=true):Zos d=false:=by
 unfold ZgA at h
 split at h<;>first | rfl | simp at h
end
section
variable {g:Gh} {w:World}
theorem Zo3 {s:ByteArray} (h:Zcf s=true):s.size≤9223372036854775807:=by
 unfold Zcf at h
 have:=Nat.le_of_ble_eq_true h
 rw [Array.length_toList] at this
 exact this
theorem Zex [NW] {x:AV} {v:Value} (h:Q7 x v=true):AVR g w x v:=by
 unfold Q7 at h
 split at h
 ·simp only [Bool.and_eq_true,beq_iff_eq] at h
  exact ⟨[],⟨by rw [h.1,h.2],rfl⟩,by simp⟩
 ·simp only [beq_iff_eq] at h
  exact ⟨[],⟨by rw [h],rfl⟩,by simp⟩
 ·rename_i s s'
  simp only [Bool.and_eq_true,beq_iff_eq] at h
  have e:s=s':=by
   cases s;cases s'
   simpa using h.1
  exact ⟨[],⟨by rw [e],rfl,Zo3 h.2⟩,by simp⟩
 ·rfl
 ·simp at h
theorem AVR.one [NW] {x:AV} {v:Value} (h:AVR g w x v):v.oneCell'=true:=by
 cases x with
 | c x=>obtain ⟨L,h1,_⟩:=h;exact h1.one
 | n x=>
  obtain ⟨e,m,xs,cs,L,h1,h2,h3,_⟩:=h
  obtain ⟨A,c,hv,_⟩:=Zar h3
  simp [hv,Value.oneCell']
 | row k=>exact h.2
 | nil e m=>simp [AVR] at h;simp [h,Value.oneCell']
 | dead=>exact h
theorem Zmu {v:Value} (h:v.oneCell'=true):v.cells=#[v]:=by
 cases v<;>simp [Value.oneCell'] at h<;>rfl
theorem PVR.cells [NW] {a:Bool} {cs:List AV} {v:Value} (h:PVR g w a cs v):∃vs:List Value,v.cells=vs.toArray∧ZH (AVR g w) cs vs:=by
 cases a with
 | true=>obtain ⟨vs,rfl,h2⟩:=h;exact ⟨vs,rfl,h2⟩
 | false=>obtain ⟨x,rfl,h2⟩:=h;exact ⟨[v],by rw [Zmu h2.one],⟨h2,trivial⟩⟩
theorem AVRs.one [NW] {cs:List AV} {vs:List Value} (h:ZH (AVR g w) cs vs):∀u∈vs,u.oneCell'=true:=by
 induction vs generalizing cs with
 | nil=>simp
 | cons v r ih=>
  cases cs with
  | nil=>exact h.elim
  | cons c cs=>
   intro u m
   rcases List.mem_cons.1 m with rfl | m
   ·exact h.1.one
   ·exact ih h.2 u m
end
theorem ZqS (x y:ByteArray):(x.toList==y.toList)=decide (x=y):=by
 rw [Bool.eq_iff_iff]
 simp only [beq_iff_eq,decide_eq_true_eq]
 constructor
 ·intro h
  have h':x.data.toList=y.data.toList:=by rw [←ByteArray.toList_eq,←ByteArray.toList_eq];exact h
  cases x;cases y
  simpa using h'
 ·rintro rfl;rfl
end Go.Proofs.YtojnhepgnbhaaaaGreatDoor
namespace Go.Proofs.YtojnhepgnbhaaaaGreatDoor
open Go.RowKit
def Uk (U:Nat→Prop) (key:Nat):Nat→Prop:=fun k=>U k∨(key≤k∧k<key+16)
theorem avU.mono {U U':Nat→Prop} (h:∀k,U k→U' k) {x:AV} (hx:avU U x):avU U' x:=by cases x<;>first | exact h _ hx | trivial
theorem Qz.mono [NW] {U U':Nat→Prop} (h:∀k,U k→U' k) {x:List AV} (hx:Qz U x):Qz U' x:=fun y m=>(hx y m).mono h
theorem svU.mono [NW] {U U':Nat→Prop} (h:∀k,U k→U' k) {x:SV} (hx:svU U x):svU U' x:=by
 cases x<;>first | exact Qz.mono h hx | exact fun y m=>Qz.mono h (hx y m) | exact h _ hx | trivial
theorem obU.mono [NW] {U U':Nat→Prop} (h:∀k,U k→U' k) {x:Ob} (hx:obU U x):obU U' x:=by
 cases x<;>first | exact Qz.mono h hx | trivial
def Fin [NW] (P:Program) (W:Q8) (U:Nat→Prop) (key:Nat) (st:St) (g:Gh) (w:World) (s:Sem Next) (r:SV × List (Nat × Ob)):Prop:=
 ∃g' cv w',(s.run P w=.ok (.value cv) w'∨(s.run P w=.ok .skip w'∧cv=undef))∧HI W g' (Zk st.ob r.2) w'∧SVR g' w' r.1 cv∧(∀x v,svU U x→SVR g w x v→SVR g' w' x v)∧
  svU (Uk U key) r.1∧(∀k,obU (Uk U key) (Zk st.ob r.2 k))∧∀k,¬Uk U key k→Zk st.ob r.2 k=.gone
section
variable {P:Program} {W:Q8} {U:Nat→Prop} {key:Nat} {st:St} {g:Gh} {w:World} {a:Act} {tt:Nat→Option TI}
theorem Zah [NW] {s:Sem Next} {v:SV} {cv:Value} (hI:HI W g st.ob w) (hU:StU U st) (hrun:s.run P w=.ok (.value cv) w) (hv:SVR g w v cv) (hu:svU U v):Fin P W U key st g w s (v,[]):=
 ⟨g,cv,w,.inl hrun,hI,hv,fun _ _ _ h=>h,hu.mono fun _=>.inl,fun k=>(hU.ob k).mono fun _=>.inl,fun k hk=>hU.gone k fun h=>hk (.inl h)⟩
theorem Xt (x:CT):svU U (.p false [.c x]):=fun y m=>by simp at m;subst m;trivial
theorem Za2 [NW] (k:IntKind) (n:Int):SVR g w (.p false [.c (.int k n)]) (.int k n):=⟨_,rfl,[],⟨rfl,rfl⟩,by simp⟩
theorem Zaf [NW] (b:Bool):SVR g w (.p false [.c (.bool b)]) (.bool b):=⟨_,rfl,[],⟨rfl,rfl⟩,by simp⟩
theorem ZjY [NW] {s:ByteArray} (h:s.size≤9223372036854775807):SVR g w (.p false [.c (.str s)]) (.string s):=⟨_,rfl,[],⟨rfl,rfl,h⟩,by simp⟩
theorem Zbd [NW] {k:IntKind} {n:Int} {v:Value} (h:SVR g w (.p false [.c (.int k n)]) v):v=.int k n:=by
 obtain ⟨x,hx,h⟩:=h;simp at hx;subst hx;obtain ⟨L,h1,_⟩:=h;exact h1.1
theorem ZeZ [NW] {b:Bool} {v:Value} (h:SVR g w (.p false [.c (.bool b)]) v):v=.bool b:=by
 obtain ⟨x,hx,h⟩:=h;simp at hx;subst hx;obtain ⟨L,h1,_⟩:=h;exact h1.1
theorem Zhl [NW] {s:ByteArray} {v:Value} (h:SVR g w (.p false [.c (.str s)]) v):v=.string s∧s.size≤9223372036854775807:=by
 obtain ⟨x,hx,h⟩:=h;simp at hx;subst hx;obtain ⟨L,h1,_⟩:=h;exact ⟨h1.1,h1.2.2⟩
theorem Zzp [NW] {t:Nat} (htt:∀t i,tt t=some i→TOk P t i) (v:Value):SVR g w (cvT (tt t) v) v∧svU U (cvT (tt t) v):=by
 unfold cvT
 split
 ·exact ⟨Za2 _ _,Xt _⟩
 ·exact ⟨Zaf _,Xt _⟩
 ·split
  ·rename_i h;exact ⟨ZjY (Zo3 h),Xt _⟩
  ·exact ⟨trivial,trivial⟩
 ·split
  ·exact ⟨⟨_,rfl,rfl⟩,fun y m=>by simp at m;subst m;trivial⟩
  ·exact ⟨trivial,trivial⟩
 ·exact ⟨trivial,trivial⟩
theorem Zjj [NW] (htt:∀t i,tt t=some i→TOk P t i) (hS:∀t,SVR g w (st.sl t) (a.tmps.getD t undef)) (hU:StU U st) (t:Nat) (x:Operand):
  SVR g w (st.ev tt t x) (a.eval x)∧svU U (st.ev tt t x):=by
 cases x with
 | tmp s=>exact ⟨hS s,hU.sl s⟩
 | const v=>exact Zzp htt v
 | global _=>exact ⟨trivial,trivial⟩
 | func f=>exact ⟨rfl,trivial⟩
set_option maxHeartbeats 1000000 in
theorem Zun [NW] {op:BinOp} {t:Nat} {ox oy:Operand} {k k':IntKind} {n n':Int} {z:CT} (hk:k=k'∨op=.shl∨op=.shr) (hz:Zto op k n n'=some z):
  ∃cv,(do eqGuard op t ox oy (.int k n) (.int k' n');binOp op t (.int k n) (.int k' n'):Sem Value).run P w=.ok cv w∧SVR g w (.p false [.c z]) cv:=by
 have hg:(eqGuard op t ox oy (.int k n) (.int k' n')).run P w=.ok () w:=by
  cases op<;>rfl
 simp only [Sem.run_bind,hg,Result.andThen_ok]
 cases op<;>simp only [Zto,ZwI,Zze,orI,Zyi,ZqU,Zx0,Zy2,Option.map_none,Option.map_some,Option.some.injEq,reduceCtorEq] at hz<;>(try subst hz)<;>
  (try (split at hz<;>simp only [Option.some.injEq,reduceCtorEq] at hz;subst hz))<;>
  simp only [reduceCtorEq,or_false,or_true] at hk<;>(try subst hk)<;>
  first
   | (refine ⟨_,?_,Za2 _ _⟩;simp [binOp,Op.intArith,Op.intDiv,Op.intBits,Op.shift, *];done)
   | (refine ⟨_,?_,Zaf _⟩;simp [binOp,Op.intCmp];done)
set_option maxHeartbeats 1000000 in
theorem Zuc [NW] {op : BinOp} {t : Nat} {ox oy : Operand} {s s' : ByteArray} {z : CT} (hz : Zud op s s' = some z) :
    ∃ cv, (do eqGuard op t ox oy (.string s) (.string s'); binOp op t (.string s) (.string s') : Sem Value).run P w = .ok cv w ∧ SVR g w (.p false [.c z]) cv := by
  have hg : (eqGuard op t ox oy (.string s) (.string s')).run P w = .ok () w := by
    cases op <;> rfl
  simp only [Sem.run_bind, hg, Result.andThen_ok]
  cases op <;> simp only [Zud, Option.some.injEq, reduceCtorEq] at hz <;> (try subst hz) <;>
    first
      | (refine ⟨_, ?_, Zaf _⟩; simp only [binOp, Op.stringOp, sLt, sEq, ← ZqS]; rfl)
      | (split at hz
         · rename_i hl
           simp only [Option.some.injEq] at hz
           subst hz
           refine ⟨_, ?_, ZjY (by rw [ByteArray.size_append]; exact hl)⟩
           have hl' : ¬ ((s.size + s'.size : Nat) : Int) > IntKind.i64.max := by
             have : IntKind.i64.max = 9223372036854775807 := by decide
             omega
           simp only [binOp, Op.stringOp, hl', if_false]
           rfl
         · simp at hz)
theorem Zor [NW] {op:BinOp} {t:Nat} {ox oy:Operand} {b b':Bool} {r:Bool} (ht:P.underlying t=some .bool) (hop:(op=.eql∧r=(b==b'))∨(op=.neq∧r=!(b==b'))):
  (do eqGuard op t ox oy (.bool b) (.bool b');binOp op t (.bool b) (.bool b'):Sem Value).run P w=.ok (.bool r) w:=by
 have hg:(eqGuard op t ox oy (.bool b) (.bool b')).run P w=.ok () w:=by
  cases op<;>rfl
 have he:(Op.equal t (.bool b) (.bool b')).run P w=.ok (b==b') w:=by
  have key:∀d:Nat,(Op.equalIn (d+1) t (.bool b) (.bool b')).run P w=.ok (b==b') w:=fun d=>by
   rw [Op.equalIn]
   simp only [Sem.run_bind,Yw ht,Result.andThen_ok,Sem.run_pure]
  exact key 9999
 simp only [Sem.run_bind,hg,Result.andThen_ok]
 rcases hop with ⟨rfl,rfl⟩ | ⟨rfl,rfl⟩
 ·simp only [binOp,Sem.run_bind,he,Result.andThen_ok,Sem.run_pure]
 ·simp only [binOp,Sem.run_bind,he,Result.andThen_ok,Sem.run_pure]
theorem ZuP [NW] (htt:∀t i,tt t=some i→TOk P t i) {op:BinOp} {t:Nat} {ox oy:Operand} {x y v:SV} {vx vy:Value} (h:ZtB (tt t) op x y=some v) (hx:SVR g w x vx) (hy:SVR g w y vy):
  ∃cv,(do eqGuard op t ox oy vx vy;binOp op t vx vy:Sem Value).run P w=.ok cv w∧SVR g w v cv∧svU U v:=by
 unfold ZtB at h
 split at h
 ·have ex:=Zbd hx
  have ey:=Zbd hy
  subst ex ey
  split at h
  ·rename_i hk
   obtain ⟨z,hz,rfl⟩:=Option.map_eq_some_iff.1 h
   obtain ⟨cv,h1,h2⟩:=Zun (P:=P) (g:=g) (w:=w) (t:=t) (ox:=ox) (oy:=oy) hk hz
   exact ⟨cv,h1,h2,Xt _⟩
  ·simp at h
 ·obtain ⟨ex,lx⟩:=Zhl hx
  obtain ⟨ey,ly⟩:=Zhl hy
  subst ex ey
  obtain ⟨z,hz,rfl⟩:=Option.map_eq_some_iff.1 h
  obtain ⟨cv,h1,h2⟩:=Zuc (P:=P) (g:=g) (w:=w) (t:=t) (ox:=ox) (oy:=oy) hz
  exact ⟨cv,h1,h2,Xt _⟩
 ·have ex:=ZeZ hx
  have ey:=ZeZ hy
  subst ex ey
  split at h
  ·rename_i hti
   simp only [Option.some.injEq] at h
   subst h
   obtain ⟨d,zv,i,h1,h2,_⟩:=htt t _ hti
   have hd:d=.bool:=by cases d<;>simp [ZgA] at h2;rfl
   subst hd
   exact ⟨_,Zor h1 (.inl ⟨rfl,rfl⟩),Zaf _,Xt _⟩
  ·rename_i hti
   simp only [Option.some.injEq] at h
   subst h
   obtain ⟨d,zv,i,h1,h2,_⟩:=htt t _ hti
   have hd:d=.bool:=by cases d<;>simp [ZgA] at h2;rfl
   subst hd
   exact ⟨_,Zor h1 (.inr ⟨rfl,rfl⟩),Zaf _,Xt _⟩
  ·simp at h
 ·simp at h
theorem Zmn {k:PK} {d:TypeDesc} (h:Zdk k d=true):Zos d=false:=by
 unfold Zdk at h
 split at h<;>first | rfl | simp at h
theorem ZxH [NW] {k:PK} {x y:AV} {vx vy:Value} {b:Bool} {t:Nat} {d:TypeDesc} (h:eqC k x y=some b) (hd:P.underlying t=some d) (hk:Zdk k d=true) (hx:AVR g w x vx) (hy:AVR g w y vy) (n:Nat):(Op.equalIn (n+1) t vx vy).run P w=.ok b w:=by
 unfold eqC at h
 split at h
 ·split at h<;>simp only [Option.some.injEq,reduceCtorEq] at h
  rename_i kk;subst kk h
  obtain ⟨_,h1,_⟩:=hx;obtain ⟨_,h2,_⟩:=hy
  have e1:=h1.1;have e2:=h2.1;subst e1 e2
  cases d<;>simp [Zdk] at hk
  exact run_equalIn_int w n t _ _ _ _ hd
 ·simp only [Option.some.injEq] at h;subst h
  obtain ⟨_,h1,_⟩:=hx;obtain ⟨_,h2,_⟩:=hy
  have e1:=h1.1;have e2:=h2.1;subst e1 e2
  cases d<;>simp [Zdk] at hk
  rw [run_equalIn_string w n t _ _ hd,sEq,ZqS]
 ·simp only [Option.some.injEq] at h;subst h
  obtain ⟨_,h1,_⟩:=hx;obtain ⟨_,h2,_⟩:=hy
  have e1:=h1.1;have e2:=h2.1;subst e1 e2
  cases d<;>simp [Zdk] at hk
  exact run_equalIn_bool' w n t _ _ hd
 ·simp at h
theorem Zqq [NW] (n:Nat) {X Y:Array Value}:∀{ks:List PK} {fs:List Field} {o:Nat} {xs ys:List AV} {vx vy:List Value} {b:Bool},Zl6 ks xs ys=some b→EqF P ks fs o→ZH (AVR g w) xs vx→ZH (AVR g w) ys vy→(∀j v,vx[j]?=some v→X[o+j]?=some v)→(∀j v,vy[j]?=some v→Y[o+j]?=some v)→(Op.eqFields (n+1) X Y fs).run P w=.ok b w
 | [],[],_,[],[],_,_,b,h,_,_,_,_,_=>by simp [Zl6] at h;subst h;simp [Op.eqFields]
 | k::ks,f::fs,o,x::xs,y::ys,[],_,_,_,_,hx,_,_,_=>hx.elim
 | k::ks,f::fs,o,x::xs,y::ys,_::_,[],_,_,_,_,hy,_,_=>hy.elim
 | k::ks,f::fs,o,x::xs,y::ys,u::vx,v::vy,b,h,hf,hx,hy,hX,hY=>by
  simp only [Zl6] at h
  obtain ⟨b1,h1,h⟩:=Option.bind_eq_some_iff.1 h
  obtain ⟨b2,h2,rfl⟩:=Option.map_eq_some_iff.1 h
  obtain ⟨f1,f2,⟨d,f3,f4⟩,f5⟩:=hf
  have e1:=ZxH h1 f3 f4 hx.1 hy.1 n
  have e2:=Zqq n h2 f5 hx.2 hy.2 (fun j v hj=>by have:=hX (j+1) v (by simpa using hj);rwa [show o+(j+1)=o+1+j by omega] at this) (fun j v hj=>by have:=hY (j+1) v (by simpa using hj);rwa [show o+(j+1)=o+1+j by omega] at this)
  have p1:(part f.type X f.offset).run P w=.ok u w:=by
   have:=hX 0 u (by simp)
   simp only [part,Sem.run_bind,Zgd f3,Zmn f4,Result.andThen_ok]
   rw [f2];simp at this;simp [this]
  have p2:(part f.type Y f.offset).run P w=.ok v w:=by
   have:=hY 0 v (by simp)
   simp only [part,Sem.run_bind,Zgd f3,Zmn f4,Result.andThen_ok]
   rw [f2];simp at this;simp [this]
  simp only [Op.eqFields,f1,ne_eq,not_false_eq_true,if_true,Sem.run_bind,p1,p2,e1,Result.andThen_ok]
  cases b1
  ·simp
  ·simpa using e2
 | [],_::_,_,_,_,_,_,_,_,hf,_,_,_,_=>hf.elim
 | _::_,[],_,_,_,_,_,_,_,hf,_,_,_,_=>hf.elim
 | [],[],_,_::_,_,_,_,_,h,_,_,_,_,_=>by simp [Zl6] at h
 | [],[],_,[],_::_,_,_,_,h,_,_,_,_,_=>by simp [Zl6] at h
 | _::_,_::_,_,[],_,_,_,_,h,_,_,_,_,_=>by simp [Zl6] at h
 | _::_,_::_,_,_::_,[],_,_,_,h,_,_,_,_,_=>by simp [Zl6] at h
theorem Zot {op:BinOp} {b:Bool} {v:SV} (h:ZoW op b=some v):(op=.eql∧v=.p false [.c (.bool b)])∨(op=.neq∧v=.p false [.c (.bool (!b))]):=by
 unfold ZoW at h
 split at h<;>simp only [Option.some.injEq,reduceCtorEq] at h<;>subst h
 ·exact .inl ⟨rfl,rfl⟩
 ·exact .inr ⟨rfl,rfl⟩
theorem Zvw [NW] (htt:∀t i,tt t=some i→TOk P t i) {op:BinOp} {t:Nat} {ox oy:Operand} {x y v:SV} {vx vy:Value} (h:ZtM (tt (t+4000)) op x y=some v) (hx:SVR g w x vx) (hy:SVR g w y vy):
  ∃cv,(do eqGuard op t ox oy vx vy;binOp op t vx vy:Sem Value).run P w=.ok cv w∧SVR g w v cv∧svU U v:=by
 unfold ZtM at h
 split at h
 ·obtain ⟨ks,hks,h'⟩:=Option.bind_eq_some_iff.1 h
  obtain ⟨b,hb,h''⟩:=Option.bind_eq_some_iff.1 h'
  have hti:tt (t+4000)=some (.eqs ks):=by
   unfold Zs9 at hks
   split at hks<;>simp only [Option.some.injEq,reduceCtorEq] at hks
   rename_i hti
   rw [hti,hks]
  obtain ⟨u,e,h1,h2,h3,h4⟩:=htt _ _ hti
  have e:t=u:=Nat.add_right_cancel e
  subst e
  obtain ⟨us,rfl,hus⟩:=hx
  obtain ⟨vs,rfl,hvs⟩:=hy
  have hq:=Zqq (X:=us.toArray) (Y:=vs.toArray) 9998 hb h4 hus hvs (fun j v hj=>by simpa using hj) (fun j v hj=>by simpa using hj)
  have hg:=run_eqGuard_agg (P:=P) w op t ox oy us.toArray vs.toArray h3
  rcases Zot h'' with ⟨rfl,rfl⟩ | ⟨rfl,rfl⟩
  ·refine ⟨_,?_,Zaf b,Xt _⟩
   simp only [Sem.run_bind,hg,Result.andThen_ok,run_eql_struct,run_equalIn_struct w 9999 t _ _ h1 h2,hq]
  ·refine ⟨_,?_,Zaf (!b),Xt _⟩
   simp only [Sem.run_bind,hg,Result.andThen_ok,run_neq_struct,run_equalIn_struct w 9999 t _ _ h1 h2,hq]
 ·simp at h
theorem Zxu [NW] {b:Bool} {v:Value} (h:SVR g w (.p false [.c (.ifc b)]) v):(b=true∧v=.nilIface)∨(b=false∧∃t x,v=.iface t x):=by
 obtain ⟨x,hx,h⟩:=h;simp at hx;subst hx;obtain ⟨L,h1,_⟩:=h
 have h2:=h1.2.2
 cases b with
 | true=>exact .inl ⟨rfl,h2⟩
 | false=>exact .inr ⟨rfl,h2⟩
theorem ZtV [NW] (htt:∀t i,tt t=some i→TOk P t i) {op:BinOp} {t:Nat} {ox oy:Operand} {x y v:SV} {vx:Value} (h:Zr6 tt t (ZiA oy) op x y=some v) (hx:SVR g w x vx) (hy:SVR g w y (a.eval oy)):
  ∃cv,(do eqGuard op t ox oy vx (a.eval oy);binOp op t vx (a.eval oy):Sem Value).run P w=.ok cv w∧SVR g w v cv∧svU U v:=by
 unfold Zr6 at h
 split at h
 ·rename_i hn
  have ho:oy=.const .nilIface:=by
   cases oy with
   | const c=>cases c<;>first | rfl | (simp [ZiA,Zqm] at hn;done)
   | _=>simp [ZiA] at hn
  subst ho
  split at h
  rotate_left
  ·simp at h
  rename_i hif
  have hti:tt t=some .ifc:=by
   unfold Zs5 at hif
   split at hif
   ·assumption
   ·simp at hif
  obtain ⟨ms,hms⟩:=htt _ _ hti
  unfold ZvH at h
  split at h
  ·rename_i b
   have hb:=Zxu hx
   have hev:a.eval (.const .nilIface)=.nilIface:=rfl
   rw [hev]
   have hg:∀v:Value,(v=.nilIface∨∃t x,v=.iface t x)→(eqGuard op t ox (.const .nilIface) v .nilIface).run P w=.ok () w:=fun v hv=>by
    rcases hv with rfl | ⟨t',x',rfl⟩
    ·simp only [eqGuard]
     cases ox<;>cases op<;>rfl
    ·simp only [eqGuard]
     cases op<;>rfl
   have he:(Op.equal t vx .nilIface).run P w=.ok b w:=by
    show (Op.equalIn (9999+1) t _ _).run P w=_
    rw [Op.equalIn]
    rcases hb with ⟨rfl,rfl⟩ | ⟨rfl,t',x',rfl⟩
    ·simp only [Sem.run_bind,Yw hms,Result.andThen_ok,Sem.run_pure]
    ·simp only [Sem.run_bind,Yw hms,Result.andThen_ok,Sem.run_pure]
   have hg':=hg vx (hb.imp (fun h=>h.2) (fun h=>h.2))
   rcases Zot h with ⟨rfl,rfl⟩ | ⟨rfl,rfl⟩
   ·refine ⟨_,?_,Zaf b,Xt _⟩
    simp only [Sem.run_bind,hg',Result.andThen_ok]
    rcases hb with ⟨rfl,rfl⟩ | ⟨rfl,t',x',rfl⟩<;>simp only [binOp,Sem.run_bind,he,Result.andThen_ok,Sem.run_pure]
   ·refine ⟨_,?_,Zaf (!b),Xt _⟩
    simp only [Sem.run_bind,hg',Result.andThen_ok]
    rcases hb with ⟨rfl,rfl⟩ | ⟨rfl,t',x',rfl⟩<;>simp only [binOp,Sem.run_bind,he,Result.andThen_ok,Sem.run_pure]
  ·simp at h
 ·split at h
  ·exact Zvw htt h hx hy
  ·exact ZuP htt h hx hy
theorem ZxX [NW] {op:UnOp} {x v:SV} {vx:Value} (h:unV op x=some v) (hx:SVR g w x vx):∃cv,(Op.unary op vx).run P w=.ok cv w∧SVR g w v cv∧svU U v:=by
 unfold unV at h
 split at h
 ·have ex:=ZeZ hx
  subst ex
  split at h<;>simp at h
  subst h
  exact ⟨_,by simp [Op.unary],Zaf _,Xt _⟩
 ·have ex:=Zbd hx
  subst ex
  split at h<;>simp at h
  subst h
  exact ⟨_,by simp [Op.unary,Op.intArith],Za2 _ _,Xt _⟩
 ·simp at h
end
end Go.Proofs.YtojnhepgnbhaaaaGreatDoor
namespace Go.Proofs.YtojnhepgnbhaaaaGreatDoor
open Go.RowKit
section
variable {P:Program} {W:Q8} {U:Nat→Prop} {key:Nat} {st:St} {g:Gh} {w:World} {a:Act} {tt:Nat→Option TI}
theorem Zxt {t:Nat} {z:AV} (htt:∀t i,tt t=some i→TOk P t i) (h:tt t=some (.atom z)):∃d,P.underlying t=some d:=by
 obtain ⟨d,_,_,h,_⟩:=htt t _ h;exact ⟨d,h⟩
theorem ZoI {t:Nat} (htt:∀t i,tt t=some i→TOk P t i) (h:ZaZ (tt t)=true):∃e,P.underlying t=some (.slice e):=by
 unfold ZaZ at h
 split at h
 ·rename_i h1;exact ⟨_,(htt t _ h1).1⟩
 ·simp at h
theorem Zf7 {t:Nat} (htt:∀t i,tt t=some i→TOk P t i) (h:ZcI (tt t)=true):P.underlying t=some .string:=by
 unfold ZcI at h
 split at h
 ·rename_i h1
  obtain ⟨d,zv,i,h2,h3,_⟩:=htt t _ h1
  have hd:d=.string:=by cases d<;>simp [ZgA] at h3;rfl
  rw [hd] at h2;exact h2
 ·simp at h
theorem Zt7 [NW] (htt:∀t i,tt t=some i→TOk P t i) {s t:Nat} {x v:SV} {vx:Value} (h:ZoT (tt s) (tt t) x=some v) (hx:SVR g w x vx):∃cv,(convert s t vx).run P w=.ok cv w∧SVR g w v cv∧svU U v:=by
 unfold ZoT at h
 split at h
 ·have ex:=Zbd hx
  subst ex
  split at h
  ·rename_i h1 h2
   simp only [Option.some.injEq] at h
   subst h
   obtain ⟨d,zv,i,h3,h4,_⟩:=htt t _ h2
   have hd:∃k,d=.int k:=by cases d<;>simp [ZgA] at h4;exact ⟨_,rfl⟩
   obtain ⟨k,rfl⟩:=hd
   simp only [ZgA,beq_iff_eq] at h4
   subst h4
   obtain ⟨ds,hs⟩:=Zxt htt h1
   refine ⟨_,?_,Za2 _ _,Xt _⟩
   simp [convert,Yw hs,Yw h3,Conv.intToInt]
  ·simp at h
 ·simp at h
theorem Zfz [NW] {e m:Nat} {xs:List (List CT)} {v:Value} (h:SVR g w (.p false [.c (.sl e m xs)]) v):∃A cap cs L0 L1,v=.slice A xs.length cap∧xs.length≤cap∧cap≤maxLen∧0<m∧Sl w m A xs.length cs L0∧REs w m xs cs L1∧(∀b∈L0++L1,¬g.own b):=by
 obtain ⟨x,hx,h⟩:=h
 simp at hx
 subst hx
 obtain ⟨L,⟨A,cap,cs,L0,L1,h1,h2,h3,h4,h5,h6,h7⟩,ho⟩:=h
 exact ⟨A,cap,cs,L0,L1,h1,h2,h3,h5,h6,h7,fun b m=>ho b (h4 ▸ m)⟩
theorem ZeY [NW] {k:Nat} {v:Value} (h:SVR g w (.p false [.row k]) v):v=g.val k:=by
 obtain ⟨x,hx,h⟩:=h;simp at hx;subst hx;exact h.1
theorem Zqi [NW] {e m:Nat} {v:Value} (h:SVR g w (.p false [.nil e m]) v):v=.slice none 0 0:=by
 obtain ⟨x,hx,h⟩:=h;simp at hx;subst hx;exact h
theorem Zct {B e m n:Nat} {v:Value} {cs:List Value} (h:w.ownsV B e m v n cs):∃A cap,v=.slice A n cap:=by
 obtain ⟨A,c,hv,_⟩:=Zar h
 exact ⟨A,c,hv⟩
theorem Zx9 [NW] {x:CT} {v:Value} (h:SVR g w (.p false [.n x]) v):NR g w x v:=by
 obtain ⟨y,hy,h⟩:=h;simp at hy;subst hy;exact h
theorem ZuK [NW] (htt:∀t i,tt t=some i→TOk P t i) (hI:HI W g st.ob w) {t:Nat} {ts:Array TypeId} {ty:TypeId} (hts:ts[0]?=some t) {x v:SV} {vx:Value} (h:Zqd st (tt t) x=some v) (hx:SVR g w x vx):
  ∃cv,(Builtin.len_ ts ty #[vx]).run P w=.ok cv w∧SVR g w v cv∧svU U v:=by
 have fin:∀(A:Option Addr) (n c:Nat),ZaZ (tt t)=true→(Builtin.len_ ts ty #[.slice A n c]).run P w=.ok (.int .i64 n) w:=fun A n c hs=>by
  obtain ⟨e,he⟩:=ZoI htt hs
  simp [Builtin.len_,hts,Yw he,goInt]
 unfold Zqd at h
 split at h
 ·split at h<;>simp at h
  rename_i hs
  subst h
  obtain ⟨A,cap,_,_,_,rfl,_⟩:=Zfz hx
  exact ⟨_,fin _ _ _ hs,Za2 _ _,Xt _⟩
 ·split at h<;>simp at h
  rename_i hs
  subst h
  obtain ⟨_,_,_,_,_,h1,_,h3,_⟩:=Zx9 hx
  simp only [CT.sl.injEq] at h1
  obtain ⟨_,_,rfl⟩:=h1
  obtain ⟨A,cap,rfl⟩:=Zct h3
  exact ⟨_,fin _ _ _ hs,Za2 _ _,Xt _⟩
 ·split at h<;>simp at h
  rename_i hs
  subst h
  obtain ⟨rfl,_⟩:=Zhl hx
  refine ⟨_,?_,Za2 _ _,Xt _⟩
  simp [Builtin.len_,hts,Yw (Zf7 htt hs),goInt]
 ·split at h<;>simp at h
  rename_i hs
  subst h
  have:=Zqi hx
  subst this
  exact ⟨_,fin _ _ _ hs,Za2 _ _,Xt _⟩
 ·split at h
  ·rename_i k _ e m xs d hk
   split at h<;>simp at h
   rename_i hs
   subst h
   have hv:=ZeY hx
   subst hv
   have ho:=hI.obs k
   rw [hk] at ho
   obtain ⟨_,cs,L,h1,_⟩:=ho
   obtain ⟨A,cap,hv⟩:=Zct h1
   rw [hv]
   exact ⟨_,fin _ _ _ hs,Za2 _ _,Xt _⟩
  ·simp at h
 ·simp at h
theorem Zkf {f:Value→ByteArray→Sem (ForInStep ByteArray)} (hf:∀n s,f (.int .u8 n) s=pure (ForInStep.yield (s.push (UInt8.ofNat n.toNat)))):∀(l:List Int) (s:ByteArray),(forIn (l.map fun n=>Value.int .u8 n) s f).run P w=.ok ⟨s.data++(l.map fun n=>UInt8.ofNat n.toNat).toArray⟩ w
 | [],s=>by simp
 | n::l,s=>by
  have ih:=Zkf hf l (s.push (UInt8.ofNat n.toNat))
  simp only [List.map_cons,List.forIn_cons,hf,Sem.run_bind,Sem.run_pure,Result.andThen_ok,ih]
  congr 2
  apply Array.ext'
  simp [ByteArray.push]
theorem Zrt [NW] {b o cap:Nat} (l:List Int) (hc:∀j u,(l.map fun n=>Value.int .u8 n)[j]?=some u→w.cell? ⟨b,o+j,none⟩=some u):(Conv.bytesToString (.slice (some ⟨b,o,none⟩) l.length cap)).run P w=.ok (.string (Y9 l)) w:=by
 have h1:=run_loadCells_list (P:=P) w ⟨b,o,none⟩ (l.map fun n=>Value.int .u8 n) (fun j u hj=>by rw [ZcL];exact hc j u hj)
 rw [List.length_map] at h1
 unfold Conv.bytesToString
 simp only [Sem.run_bind,h1,Result.andThen_ok,←Array.forIn_toList]
 rw [Zkf (fun _ _=>rfl)]
 simp [Y9,ByteArray.empty,ByteArray.emptyWithCapacity]
 rfl
theorem ZkP {m:Nat}:∀{xs:List (List CT)} {l:List Int} {cs:List Value} {L:List Nat},ZdX xs=some l→REs w m xs cs L→cs=l.map (fun n=>Value.int .u8 n)∧xs.length=l.length
 | [],_,_,_,h,⟨h1,_⟩=>by simp [ZdX] at h;subst h h1;simp
 | x::r,l,_,_,h,⟨c1,c2,L1,L2,rfl,rfl,h3,h4⟩=>by
  unfold ZdX at h
  split at h
  ·rename_i he;simp at he
  ·rename_i n r' he
   simp only [List.cons.injEq] at he
   obtain ⟨rfl,rfl⟩:=he
   obtain ⟨l',hl,rfl⟩:=Option.map_eq_some_iff.1 h
   obtain ⟨i1,i2⟩:=ZkP hl h4
   obtain ⟨v,cs',_,_,rfl,rfl,a1,a2⟩:=h3.1
   obtain ⟨rfl,_⟩:=a2
   rw [a1.1,i1]
   exact ⟨rfl,by simp [i2]⟩
  ·simp at h
theorem Zoc (l:List Int):(Y9 l).size=l.length:=by simp [Y9,ByteArray.size]
theorem Zth [NW] (htt:∀t i,tt t=some i→TOk P t i) (hI:HI W g st.ob w) {s t:Nat} {x v:SV} {vx:Value} (hst:ZcI (tt t)=true) (hby:ZkW (ZnH tt (tt s))=true) (h:ZkR st x=some v) (hx:SVR g w x vx):∃cv,(convert s t vx).run P w=.ok cv w∧SVR g w v cv∧svU U v:=by
 have ht:=Zf7 htt hst
 have hs:∃e,P.underlying s=some (.slice e)∧P.underlying e=some (.int .u8):=by
  unfold ZnH at hby
  split at hby
  ·rename_i e m b z hti
   have h1:=(htt _ _ hti).1
   unfold ZkW at hby
   split at hby
   ·rename_i hte
    obtain ⟨d,zv,i,h2,h3,_⟩:=htt _ _ hte
    cases d<;>simp [ZgA] at h3
    subst h3
    exact ⟨e,h1,h2⟩
   ·simp at hby
  ·simp [ZkW] at hby
 obtain ⟨e,hs,he⟩:=hs
 have go:∀A n c,(convert s t (.slice A n c)).run P w=(Conv.bytesToString (.slice A n c)).run P w:=fun A n c=>by
  unfold convert
  simp only [Sem.run_bind,Yw hs,Yw ht,Yw he,Result.andThen_ok]
 have fin:∀(A:Option Addr) (n cap:Nat) (cs:List Value) (L:List Nat) (xs:List (List CT)) (l:List Int) (m:Nat),n=xs.length→0<m→ZdX xs=some l→REs w m xs cs L→n≤9223372036854775807→(n=0∨∃b o,A=some ⟨b,o,none⟩∧XX w b o cs)→∃cv,(convert s t (.slice A n cap)).run P w=.ok cv w∧SVR g w (.p false [.c (.str (Y9 l))]) cv∧svU U (.p false [.c (.str (Y9 l))]):=by
  intro A n cap cs L xs l m hn hm hl hR hsz hA
  obtain ⟨i1,i2⟩:=ZkP hl hR
  have hsz':(Y9 l).size≤9223372036854775807:=by rw [Zoc];omega
  refine ⟨.string (Y9 l),?_,ZjY hsz',Xt _⟩
  rw [go]
  rcases hA with h0 | ⟨b,o,rfl,hc⟩
  ·have:l=[]:=List.eq_nil_of_length_eq_zero (by omega)
   subst this
   cases A with
   | none=>rfl
   | some a=>
    have h1:=run_loadCells_list (P:=P) w a [] (by simp)
    rw [h0]
    unfold Conv.bytesToString
    simp only [List.length_nil] at h1
    simp only [Sem.run_bind,h1,Result.andThen_ok]
    rfl
  ·rw [hn,i2]
   exact Zrt l fun j u hj=>hc j u (by rw [i1];exact hj)
 unfold ZkR at h
 split at h
 ·split at h
  ·rename_i k _ e' m xs d hk
   obtain ⟨l,hl,rfl⟩:=Option.map_eq_some_iff.1 h
   have hv:=ZeY hx
   have ho:=hI.obs k
   rw [hk] at ho
   obtain ⟨hm,cs,L,h1,h2,_⟩:=ho
   rw [hv]
   rcases h1.2 with ⟨h3,h4⟩ | ⟨b,o,cap,cur,h3,h4,h5,h6,h7,h8,h9⟩
   ·rw [h3]
    exact fin _ _ _ cs L xs l m (by omega) hm hl h2 (by omega) (.inl rfl)
   ·rw [h3]
    refine fin _ _ _ cs L xs l m rfl hm hl h2 (by unfold maxLen at h7;omega) (.inr ⟨b,o,rfl,fun j u hj=>?_⟩)
    exact ZhS h1 h3 j u hj
  ·simp at h
 ·obtain ⟨l,hl,rfl⟩:=Option.map_eq_some_iff.1 h
  obtain ⟨A,cap,cs,L0,L1,rfl,h2,h3,h5,h6,h7,_⟩:=Zfz hx
  rename_i e' m' xs _
  refine fin _ _ _ cs L1 xs l _ rfl h5 hl h7 (by unfold maxLen at h3;omega) ?_
  rcases Nat.eq_zero_or_pos xs.length with h0 | h0
  ·exact .inl h0
  ·obtain ⟨b,off,h8,h9,hc⟩:=h6.at_ h0
   exact .inr ⟨b,off,h8,hc⟩
 ·simp at h
theorem Zs7 [NW] (htt:∀t i,tt t=some i→TOk P t i) (hI:HI W g st.ob w) {s t:Nat} {x v:SV} {vx:Value} (h:Zgv tt st s t x=some v) (hx:SVR g w x vx):∃cv,(convert s t vx).run P w=.ok cv w∧SVR g w v cv∧svU U v:=by
 unfold Zgv at h
 split at h
 ·rename_i hc
  simp only [Bool.and_eq_true] at hc
  exact Zth htt hI hc.1 hc.2 h hx
 ·exact Zt7 htt h hx
theorem RCs.avr [NW] {e:List CT} {cs:List Value} {L:List Nat}:RCs w e cs L→(∀b∈L,¬g.own b)→ZH (AVR g w) (e.map .c) cs:=by
 induction e generalizing cs L with
 | nil=>intro h _;obtain ⟨rfl,rfl⟩:=h;trivial
 | cons x r ih=>
  rintro ⟨v,cs',L1,L2,rfl,rfl,h1,h2⟩ ho
  exact ⟨⟨L1,h1,fun b m=>ho b (by simp [m])⟩,ih h2 fun b m=>ho b (by simp [m])⟩
theorem ZiE (a:Bool) (e:List CT):Qz U (e.map AV.c):=fun y m=>by
 obtain ⟨x,_,rfl⟩:=List.mem_map.1 m;trivial
theorem Znp [NW] (htt:∀t i,tt t=some i→TOk P t i) {t b lo off:Nat} {cs:List AV} {vs:List Value} {v:SV} (h:cut (tt t) cs off=some v) (hc:XX w b lo vs) (hr:ZH (AVR g w) cs vs) (hu:Qz U cs):
  ∃cv,(Instr.loadAt t (.pointer (some ⟨b,lo+off,none⟩))).run P w=.ok cv w∧SVR g w v cv∧svU U v:=by
 have hlen:=hr.len
 have one:∀d,P.underlying t=some d→Zos d=false→∀x,cs[off]?=some x→∃cv,(Instr.loadAt t (.pointer (some ⟨b,lo+off,none⟩))).run P w=.ok cv w∧SVR g w (.p false [x]) cv∧svU U (.p false [x]):=fun d hd ha x hx=>by
  obtain ⟨u,h1,h2⟩:=hr.at hx
  refine ⟨u,?_,⟨x,rfl,h2⟩,fun y m=>by simp at m;subst m;exact hu y (List.mem_of_getElem? hx)⟩
  simp [Instr.loadAt,Instr.sureAddr,loadVar,Zgd hd,ha,load,Sem.run,hc off u h1]
 unfold cut at h
 split at h
 ·rename_i fs n z hti
  split at h<;>simp at h
  rename_i hn
  subst h
  obtain ⟨fields,i,zvs,h1,h2,h3,_⟩:=htt t _ hti
  refine ⟨.agg ((vs.drop off).take n).toArray,?_,⟨_,rfl,(hr.drop off).take n⟩,fun y m=>hu y (List.mem_of_mem_drop (List.mem_of_mem_take m))⟩
  have hl:((vs.drop off).take n).length=i.size:=by simp;omega
  have hload:=run_loadCells_list (P:=P) w ⟨b,lo+off,none⟩ ((vs.drop off).take n) (fun j u hj=>by
   rw [ZcL,Nat.add_assoc]
   refine hc _ u ?_
   have hjn:j<n:=by
    have:=(List.getElem?_eq_some_iff.1 hj).1
    simp at this;omega
   rw [List.getElem?_take,if_pos hjn,List.getElem?_drop] at hj
   exact hj)
  rw [hl] at hload
  simp [Instr.loadAt,Instr.sureAddr,loadVar,Zgd h1,Zos,XH h2,hload]
 ·simp at h
 ·rename_i i hti hne hns
  obtain ⟨x,hx,rfl⟩:=Option.map_eq_some_iff.1 h
  cases i with
  | atom z=>obtain ⟨d,zv,i,h1,h2,_⟩:=htt t _ hns;exact one d h1 (Zsz h2) x hx
  | strct fs n z=>exact absurd rfl (hti _ _ _)
  | slice e m b z=>exact one _ (htt t _ hns).1 rfl x hx
  | map kk vk=>
   obtain ⟨kt,et,_,_,_,_,h1,_⟩:=htt t _ hns
   exact one _ h1 rfl x hx
  | ifc=>obtain ⟨ms,h1⟩:=htt t _ hns;exact one _ h1 rfl x hx
  | eqs ks=>exact absurd rfl (hne _)
 ·simp at h
end
end Go.Proofs.YtojnhepgnbhaaaaGreatDoor
namespace Go.Proofs.YtojnhepgnbhaaaaGreatDoor
open Go.RowKit
section
variable {P:Program} {W:Q8} {U:Nat→Prop} {key:Nat} {st:St} {g:Gh} {w:World} {a:Act} {tt:Nat→Option TI}
theorem HI.deep [NW] {ob:Nat→Ob} {k e m:Nat} {xs:List (List CT)} {d:Nat} (hI:HI W g ob w) (hk:ob k=.row e m xs d):0<m∧∃cs L,w.ownsV 0 e m (g.val k) xs.length cs∧REs w m xs cs L∧(∀b∈L,¬g.own b)∧((d=2∧g.O k=(g.val k).ownBlock.toList∧g.D k=L)∨(d=1∧g.O k=(g.val k).ownBlock.toList∧g.D k=[])∨(d=0∧g.O k=[]∧g.D k=[]∧∀b∈(g.val k).ownBlock.toList,¬g.own b)):=by
 have ho:=hI.obs k
 rw [hk] at ho
 obtain ⟨hm,cs,L,h1,h2,h4⟩:=ho
 refine ⟨hm,cs,L,h1,h2,?_,?_⟩
 ·rcases h4 with ⟨_,_,h4⟩ | ⟨_,_,_,h4⟩ | ⟨_,_,_,h4⟩
  ·rintro b mb (⟨j,mj⟩ | hz)
   ·by_cases hjk:j=k
    ·subst hjk
     have:=hI.nodup j
     rw [List.nodup_append] at this
     exact this.2.2 b mj b (h4 ▸ mb) rfl
    ·exact hI.apart j k hjk b (by simp [mj]) (by simp [h4,mb])
   ·exact hI.nz (k:=k) (by simp [h4,mb]) hz
  ·exact h4
  ·exact fun b mb=>h4 b (by simp [mb])
 ·rcases h4 with h4 | ⟨q1,q2,q3,_⟩ | ⟨q1,q2,q3,q4⟩
  ·exact .inl h4
  ·exact .inr (.inl ⟨q1,q2,q3⟩)
  ·exact .inr (.inr ⟨q1,q2,q3,fun b mb=>q4 b (by simp [mb])⟩)
theorem HI.deepO [NW] {ob:Nat→Ob} {k e m:Nat} {xs:List (List CT)} {d:Nat} (hI:HI W g ob w) (hk:ob k=.row e m xs d) (hd:¬d=0):0<m∧∃cs L,w.ownsV 0 e m (g.val k) xs.length cs∧REs w m xs cs L∧(∀b∈L,¬g.own b)∧g.O k=(g.val k).ownBlock.toList∧((d=2∧g.D k=L)∨(d=1∧g.D k=[])):=by
 obtain ⟨hm,cs,L,h1,h2,h3,h4⟩:=hI.deep hk
 refine ⟨hm,cs,L,h1,h2,h3,?_⟩
 rcases h4 with ⟨q1,q2,q3⟩ | ⟨q1,q2,q3⟩ | ⟨q1,_⟩
 ·exact ⟨q2,.inl ⟨q1,q3⟩⟩
 ·exact ⟨q2,.inr ⟨q1,q3⟩⟩
 ·exact absurd q1 hd
theorem REs.at {m:Nat}:∀{xs:List (List CT)} {cs:List Value} {L:List Nat} {i:Nat} {e:List CT},REs w m xs cs L→xs[i]?=some e→
  ∃c L',RCs w e c L'∧c.length=m∧(∀b∈L',b∈L)∧∀j u,c[j]?=some u→cs[i * m+j]?=some u
 | [],_,_,_,_,_,h=>by simp at h
 | x::r,_,_,0,e,⟨c1,c2,L1,L2,rfl,rfl,h3,h4⟩,h=>by
  simp at h;subst h
  exact ⟨c1,L1,h3.1,h3.2,fun b mb=>by simp [mb],fun j u hu=>by
   rw [Nat.zero_mul,Nat.zero_add,List.getElem?_append_left (List.getElem?_eq_some_iff.1 hu).1];exact hu⟩
 | x::r,_,_,i+1,e,⟨c1,c2,L1,L2,rfl,rfl,h3,h4⟩,h=>by
  obtain ⟨c,L',a1,a2,a3,a4⟩:=REs.at h4 (i:=i) (e:=e) (by simpa using h)
  refine ⟨c,L',a1,a2,fun b mb=>by simp [a3 b mb],fun j u hu=>?_⟩
  have hl:=h3.2
  rw [List.getElem?_append_right (by rw [Nat.add_mul];omega)]
  rw [←a4 j u hu]
  congr 1
  rw [hl,Nat.add_mul];omega
theorem REs.len {m:Nat}:∀{xs:List (List CT)} {cs:List Value} {L:List Nat},REs w m xs cs L→cs.length=xs.length * m
 | [],_,_,h=>by simp [h.1]
 | x::r,_,_,⟨c1,c2,L1,L2,rfl,rfl,h3,h4⟩=>by simp [h3.2,REs.len h4,Nat.add_mul];omega
theorem Zwt [NW] (htt:∀t i,tt t=some i→TOk P t i) (hI:HI W g st.ob w) (hU:StU U st) {t e m bytes:Nat} {z:List AV} (hti:tt t=some (.slice e m bytes z)) {x i v:SV} {vx vi:Value} (h:ZdJ st m x i=some v) (hx:SVR g w x vx) (hxu:svU U x) (hi:SVR g w i vi):
  ∃cv,(Instr.indexAt t vx vi).run P w=.ok cv w∧SVR g w v cv∧svU U v:=by
 obtain ⟨hu,hm,_,⟨ie,zv,hie,hsz,_⟩,_⟩:=htt t _ hti
 have run:∀(b o n c:Nat) (k:IntKind) (q:Int),0≤q→q<n→(Instr.indexAt t (.slice (some ⟨b,o,none⟩) n c) (.int k q)).run P w=.ok (.pointer (some ⟨b,o+q.toNat * m,none⟩)) w:=fun b o n c k q h0 h1=>by
  simp [Instr.indexAt,asIntOf,Yw hu,h0,h1,XH hie,hsz,ZcL]
 unfold ZdJ at h
 split at h
 ·have ei:=Zbd hi
  subst ei
  split at h
  ·rename_i hq
   obtain ⟨x,hx1,rfl⟩:=Option.map_eq_some_iff.1 h
   obtain ⟨A,cap,cs,L0,L1,rfl,h2,h3,h5,h6,h7,ho⟩:=Zfz hx
   obtain ⟨h0,rfl⟩:=hq
   have hlt:=(List.getElem?_eq_some_iff.1 hx1).1
   obtain ⟨b,off,rfl,rfl,hc⟩:=h6.at_ (by omega)
   obtain ⟨c,L',a1,a2,a3,a4⟩:=h7.at hx1
   refine ⟨_,run b off _ _ _ _ h0 (by omega),⟨b,off+_,c,L',by rw [Nat.add_zero],fun j u hj=>?_,a1,fun y my=>?_,?_⟩,trivial⟩
   ·rw [Nat.add_assoc];exact hc _ u (a4 j u hj)
   ·rcases List.mem_cons.1 my with rfl | my
    ·exact ho _ (by simp)
    ·exact ho _ (by simp [a3 y my])
   ·exact h6.lt h5 b (by simp)
  ·simp at h
 ·rename_i k _ _
  have ei:=Zbd hi
  subst ei
  split at h
  ·rename_i e' m' xs d hk
   split at h
   ·rename_i hq
    obtain ⟨h0,h1,rfl⟩:=hq
    simp only [Option.some.injEq] at h
    subst h
    have hv:=ZeY hx
    subst hv
    obtain ⟨_,cs,L,o1,_⟩:=hI.deep hk
    rcases o1.2 with ⟨_,hn⟩ | ⟨b,o,cap,cur,hv,_⟩
    ·omega
    ·refine ⟨_,by rw [hv];exact run b o _ _ _ _ h0 h1,⟨b,o,_,_,hv,by simp⟩,by have:=hxu (.row k) (by simp);exact this⟩
   ·simp at h
  ·simp at h
 ·simp at h
theorem Zum [NW] (htt:∀t i,tt t=some i→TOk P t i) {t:Nat} {x i v:SV} {vx vi:Value} (h:ZkU (tt t) x i=some v) (hx:SVR g w x vx) (hi:SVR g w i vi):
  ∃cv,(Instr.index t vx vi).run P w=.ok cv w∧SVR g w v cv∧svU U v:=by
 unfold ZkU at h
 split at h
 ·have ei:=Zbd hi
  subst ei
  obtain ⟨rfl,_⟩:=Zhl hx
  split at h
  ·rename_i hq
   obtain ⟨b,hb,rfl⟩:=Option.map_eq_some_iff.1 h
   refine ⟨_,?_,Za2 _ _,Xt _⟩
   simp [Instr.index,asIntOf,Yw (Zf7 htt hq.2),hq.1,hb]
  ·simp at h
 ·simp at h
theorem Zqv [NW] {e:List CT} {v:Value} (h:SVR g w (.p false [.c (.pt e)]) v):∃b cs L,v=.pointer (some ⟨b,0,none⟩)∧b<w.heap.size∧XX w b 0 cs∧RCs w e cs L∧∀x∈b::L,¬g.own x:=by
 obtain ⟨x,hx,h⟩:=h
 simp at hx
 subst hx
 obtain ⟨_,⟨b,cs,L,h1,h2,rfl,h4,h5⟩,ho⟩:=h
 exact ⟨b,cs,L,h1,h2,h4,h5,ho⟩
theorem ZqM [NW] (htt:∀t i,tt t=some i→TOk P t i) (hI:HI W g st.ob w) (hU:StU U st) {t:Nat} {x v:SV} {vx:Value} (h:ZbW st (tt t) x=some v) (hx:SVR g w x vx):
  ∃cv,(Instr.loadAt t vx).run P w=.ok cv w∧SVR g w v cv∧svU U v:=by
 unfold ZbW at h
 split at h
 ·rename_i k off
  split at h
  ·rename_i tb cs hk
   obtain ⟨b,h1,rfl⟩:=hx
   have ho:=hI.obs k
   rw [hk] at ho
   obtain ⟨b',vs,o1,o2,o3,o4,o5⟩:=ho
   have hb:b=b':=by rw [o1] at h1;simpa using h1.symm
   subst hb
   have hu:=hU.ob k
   rw [hk] at hu
   have hc:XX w b 0 vs:=fun j u hj=>by
    rw [Nat.zero_add,cell_of_row w b j vs.toArray tb (0,0) o4];simpa using hj
   have:=Znp (P:=P) htt h hc o5 hu
   simpa using this
  ·simp at h
 ·rename_i k m i off
  split at h
  ·rename_i e m' xs d hk
   obtain ⟨x,hx1,h'⟩:=Option.bind_eq_some_iff.1 h
   obtain ⟨b,o,n,c,h1,rfl⟩:=hx
   obtain ⟨hm,cs,L,o1,o2,o3,_⟩:=hI.deep hk
   split at h'
   ·rename_i hmm
    subst hmm
    obtain ⟨c',L',a1,a2,a3,a4⟩:=o2.at hx1
    have hc:XX w b (o+i * m) c':=fun j u hj=>by
     rw [Nat.add_assoc]
     exact ZhS o1 h1 (i * m+j) u (a4 j u hj)
    rw [←Nat.add_assoc]
    exact Znp htt h' hc (a1.avr fun y my=>o3 y (a3 y my)) (ZiE true _)
   ·simp at h'
  ·simp at h
 ·obtain ⟨b,lo,cs,L,rfl,h2,h3,h4,h5⟩:=hx
  exact Znp htt h h2 (h3.avr fun y my=>h4 y (by simp [my])) (ZiE true _)
 ·obtain ⟨b,cs,L,rfl,h2,h3,h4,h5⟩:=Zqv hx
  have:=Znp (P:=P) (U:=U) htt h h3 (h4.avr fun y my=>h5 y (by simp [my])) (ZiE true _)
  simpa using this
 ·simp at h
theorem Zxk [NW] {d:Nat} {x v:SV} {vx:Value} (h:Zit d x=some v) (hx:SVR g w x vx) (hu:svU U x):∃b o,vx=.pointer (some ⟨b,o,none⟩)∧SVR g w v (.pointer (some ⟨b,o+d,none⟩))∧svU U v:=by
 unfold Zit at h
 split at h<;>simp at h<;>subst h
 ·obtain ⟨b,h1,rfl⟩:=hx;exact ⟨b,_,rfl,⟨b,h1,rfl⟩,hu⟩
 ·obtain ⟨b,o,n,c,h1,rfl⟩:=hx;exact ⟨b,_,rfl,⟨b,o,n,c,h1,by simp only [Nat.add_assoc]⟩,hu⟩
 ·obtain ⟨b,lo,cs,L,rfl,h⟩:=hx;exact ⟨b,_,rfl,⟨b,lo,cs,L,by rw [Nat.add_assoc],h⟩,trivial⟩
 ·obtain ⟨b,cs,L,rfl,h2,h3,h4,h5⟩:=Zqv hx
  exact ⟨b,0,rfl,⟨b,0,cs,L,rfl,h3,h4,h5,h2⟩,trivial⟩
theorem ZwU [NW] (htt:∀t i,tt t=some i→TOk P t i) {t f n:Nat} {fs:List FI} {z:List AV} (hti:tt t=some (.strct fs n z)) {fi:FI} (hf:fs[f]?=some fi) {x v:SV} {vx:Value} (h:Zit fi.off x=some v) (hx:SVR g w x vx) (hu:svU U x):
  ∃cv,(Instr.fieldAt t vx f).run P w=.ok cv w∧SVR g w v cv∧svU U v:=by
 obtain ⟨b,o,rfl,h1,h2⟩:=Zxk h hx hu
 obtain ⟨fields,i,zvs,u1,_,_,_,_,u2⟩:=htt t _ hti
 obtain ⟨fl,e1,e2,e3,j,d,e4,e5,_⟩:=u2.at hf
 have e1':fields[f]?=some fl:=by simpa using e1
 refine ⟨_,?_,h1,h2⟩
 simp [Instr.fieldAt,Yw u1,e1',Instr.sureAddr,fieldPlace,XH e4,e5,e3,ZcL,e2]
theorem Zwb [NW] (htt:∀t i,tt t=some i→TOk P t i) {t f n:Nat} {fs:List FI} {z:List AV} (hti:tt t=some (.strct fs n z)) {x v:SV} {vx:Value} (h:Zkq fs f x=some v) (hx:SVR g w x vx) (hu:svU U x):
  ∃cv,(Instr.field t vx f).run P w=.ok cv w∧SVR g w v cv∧svU U v:=by
 unfold Zkq at h
 split at h
 ·rename_i cs
  obtain ⟨fi,hf,h⟩:=Option.bind_eq_some_iff.1 h
  obtain ⟨vs,rfl,hr⟩:=hx
  obtain ⟨fields,i,zvs,u1,_,_,_,_,u2⟩:=htt t _ hti
  obtain ⟨fl,e1,e2,e3,j,d,e4,e5,e6,e7⟩:=u2.at hf
  have e1':fields[f]?=some fl:=by simpa using e1
  have hlen:=hr.len
  split at h
  ·rename_i ha
   split at h<;>simp at h
   rename_i hn
   subst h
   refine ⟨.agg ((vs.drop fi.off).take fi.size).toArray,?_,⟨_,rfl,(hr.drop _).take _⟩,fun y m=>hu y (List.mem_of_mem_drop (List.mem_of_mem_take m))⟩
   simp [Instr.field,Yw u1,e1',asAgg,part,Zgd e6,e7,ha,XH e4,e5,e2]
  ·rename_i ha
   obtain ⟨y,hy,rfl⟩:=Option.map_eq_some_iff.1 h
   obtain ⟨u,b1,b2⟩:=hr.at hy
   refine ⟨u,?_,⟨y,rfl,b2⟩,fun z mz=>by simp at mz;subst mz;exact hu z (List.mem_of_getElem? hy)⟩
   simp [Instr.field,Yw u1,e1',asAgg,part,Zgd e6,e7,ha,e2,b1]
 ·simp at h
theorem Zt2 [NW] {c:Bool} {x y:SV} {vc vx vy:Value} (hc:SVR g w (.p false [.c (.bool c)]) vc) (hx:SVR g w x vx∧svU U x) (hy:SVR g w y vy∧svU U y):
  ∃cv,(do pure (Next.value (if ←asBool vc then vx else vy)):Sem Next).run P w=.ok (.value cv) w∧SVR g w (if c=true then x else y) cv∧svU U (if c=true then x else y):=by
 have:=ZeZ hc
 subst this
 cases c
 ·exact ⟨vy,by simp [asBool],by simpa using hy.1,by simpa using hy.2⟩
 ·exact ⟨vx,by simp [asBool],by simpa using hx.1,by simpa using hx.2⟩
theorem Zv2 [NW] {i:Nat} {x v:SV} {vx:Value} (h:ZrV i x=some v) (hx:SVR g w x vx) (hu:svU U x):∃cv,(Instr.extract vx i).run P w=.ok cv w∧SVR g w v cv∧svU U v:=by
 unfold ZrV at h
 split at h
 ·obtain ⟨y,hy,rfl⟩:=Option.map_eq_some_iff.1 h
  obtain ⟨vs,rfl,hr⟩:=hx
  obtain ⟨u,b1,b2⟩:=hr.at hy
  exact ⟨u,by simp [Instr.extract,b1],b2,hu y (List.mem_of_getElem? hy)⟩
 ·simp at h
theorem ZsY [NW] {lo:Bool} {x y v:SV} {vx vy:Value} {ts:Array TypeId} {ty:TypeId} (h:Zsq lo x y=some v) (hx:SVR g w x vx) (hy:SVR g w y vy):
  ∃cv,((if lo then Builtin.min_ ts ty #[vx,vy] else Builtin.max_ ts ty #[vx,vy]):Sem Value).run P w=.ok cv w∧SVR g w v cv∧svU U v:=by
 unfold Zsq at h
 split at h
 ·have ex:=Zbd hx
  have ey:=Zbd hy
  subst ex ey
  simp only [Option.some.injEq] at h
  subst h
  refine ⟨_,?_,Za2 _ _,Xt _⟩
  cases lo
  ·simp [Builtin.max_,Builtin.max2]
  ·simp [Builtin.min_,Builtin.min2]
 ·simp at h
end
end Go.Proofs.YtojnhepgnbhaaaaGreatDoor
namespace Go.Proofs.YtojnhepgnbhaaaaGreatDoor
open Go.RowKit
theorem ZeW {α:Type} (l:List α) (off:Nat) (vs:List α) (h:off+vs.length≤l.length):(splice l off vs).length=l.length:=by
 simp [splice];omega
theorem ZoN {α:Type} (l:List α) (n:Nat) (v:α) (r:List α) (h:n+(r.length+1)≤l.length):splice (l.set n v) (n+1) r=splice l n (v::r):=by
 unfold splice
 have e1:(l.set n v).take (n+1)=l.take n++[v]:=by
  rw [List.take_succ_eq_append_getElem (by simp;omega)]
  simp [List.take_set_of_le]
 have e2:(l.set n v).drop (n+1+r.length)=l.drop (n+(v::r).length):=by
  rw [List.drop_set_of_lt (by omega)]
  congr 1
  simp;omega
 rw [e1,e2];simp
theorem ZmI [NW] (off:Nat):∀(vs:List Value) (k:Nat) (cells:Array Value),off+k+vs.length≤cells.size→
  (vs.zipIdx k).foldl (fun (cs:Array Value) (p:Value × Nat)=>cs.setIfInBounds (off+p.2) p.1) cells=(splice cells.toList (off+k) vs).toArray
 | [],k,cells,h=>by simp [splice]
 | v::r,k,cells,h=>by
  rw [List.zipIdx_cons,List.foldl_cons,ZmI off r (k+1) _ (by simp at h ⊢;omega)]
  have:=ZoN cells.toList (off+k) v r (by simpa using h)
  rw [←this]
  simp [Nat.add_assoc]
theorem ZkQ [NW] (off:Nat) (v:Value) (vs:List Value) (hv:v.cells=vs.toArray) (cells:Array Value) (h:off+vs.length≤cells.size):
  v.cells.zipIdx.foldl (fun cs (c,j)=>cs.setIfInBounds (off+j) c) cells=(splice cells.toList off vs).toArray:=by
 have:=ZmI off vs 0 cells (by simpa using h)
 rw [hv,←Array.foldl_toList]
 simpa using this
section
variable {P:Program} {W:Q8} {U:Nat→Prop} {key:Nat} {st:St} {g:Gh} {w:World} {a:Act} {tt:Nat→Option TI}
theorem ZH.splice {α β:Type} {R:α→β→Prop} {l vs:List α} {r us:List β} (h:ZH R l r) (h':ZH R vs us) (off:Nat):ZH R (splice l off vs) (splice r off us):=by
 unfold Go.Proofs.YtojnhepgnbhaaaaGreatDoor.splice
 rw [h'.len]
 exact (h.take _).append (h'.append (h.drop _))
theorem ZiW {l vs:List AV} (h:Qz U l) (h':Qz U vs) (off:Nat):Qz U (splice l off vs):=by
 intro y m
 unfold splice at m
 rcases List.mem_append.1 m with m | m
 ·exact h y (List.mem_of_mem_take m)
 ·rcases List.mem_append.1 m with m | m
  ·exact h' y m
  ·exact h y (List.mem_of_mem_drop m)
theorem ZqL [NW] {place:Nat→Option (Nat × Nat)} {fs:List FI} (hp:∀i fi,fs[i]?=some fi→place i=some (fi.off,fi.size)):
  ∀{parts:List (Nat × SV)} {ps:List (Nat × Value)} {cs cs':List AV} {vs:List Value},Zif fs cs parts=some cs'→ZH (fun p q=>p.1=q.1∧SVR g w p.2 q.2∧svU U p.2) parts ps→ZH (AVR g w) cs vs→Qz U cs→
   ∃vs':List Value,Instr.fill place vs.toArray ps=some vs'.toArray∧ZH (AVR g w) cs' vs'∧Qz U cs'
 | [],[],cs,cs',vs,h,_,hr,hu=>by simp [Zif] at h;subst h;exact ⟨vs,rfl,hr,hu⟩
 | [],_::_,_,_,_,_,h,_,_=>h.elim
 | _::_,[],_,_,_,_,h,_,_=>h.elim
 | (i,s)::r,(j,v)::ps,cs,cs',vs,h,⟨⟨e,hs,hsu⟩,hps⟩,hr,hu=>by
  simp only at e hs hsu
  subst e
  cases s with
  | p ag us=>
   simp only [Zif] at h
   obtain ⟨f,hf,h⟩:=Option.bind_eq_some_iff.1 h
   split at h
   ·rename_i hl
    obtain ⟨us',c1,c2⟩:=PVR.cells hs
    have hlen:=c2.len
    have hlen2:=hr.len
    obtain ⟨vs',d1,d2,d3⟩:=ZqL hp h hps (hr.splice c2 f.off) (ZiW hu hsu f.off)
    refine ⟨vs',?_,d2,d3⟩
    have hcs:v.cells.size=us'.length:=by simp [c1]
    rw [Instr.fill,hp i f hf]
    simp only
    rw [if_neg (by simp [hcs];omega),ZkQ f.off v us' c1 _ (by simp;omega)]
    simpa using d1
   ·simp at h
  | _=>simp [Zif] at h
theorem ZH.of_map {α β γ:Type} {R:β→γ→Prop} (f:α→β) (h:α→γ):∀{l:List α},(∀x∈l,R (f x) (h x))→ZH R (l.map f) (l.map h)
 | [],_=>trivial
 | x::l,hh=>⟨hh x (by simp),ZH.of_map f h fun y m=>hh y (by simp [m])⟩
theorem Zg8 [NW]:∀{z:List AV} {zvs:List Value},ZH (fun a v=>Q7 a v=true) z zvs→ZH (AVR g w) z zvs∧Qz U z
 | [],[],_=>⟨trivial,fun _ m=>by simp at m⟩
 | x::z,v::zvs,h=>by
  obtain ⟨h1,h2⟩:=Zg8 (z:=z) (zvs:=zvs) h.2
  refine ⟨⟨Zex h.1,h1⟩,fun y m=>?_⟩
  rcases List.mem_cons.1 m with rfl | m
  ·have:=h.1
   cases y<;>first | trivial | simp [Q7] at this
  ·exact h2 y m
 | [],_::_,h=>h.elim
 | _::_,[],h=>h.elim
theorem ZmA:∀{fs:List FI} {fields:List Field},ZH (fun (fi:FI) (f:Field)=>f.offset=fi.off∧fi.size≠0∧∃j d,P.info? f.type=some j∧j.size=fi.size∧P.underlying f.type=some d∧Zos d=fi.agg) fs fields→
  fields.mapM (fun f=>(P.info? f.type).map fun i=>(f.offset,i.size))=some (fs.map fun fi=>(fi.off,fi.size))
 | [],[],_=>rfl
 | fi::fs,f::fields,⟨⟨h1,_,j,d,h2,h3,_⟩,h⟩=>by
  simp [List.mapM_cons,h2,h3,h1,ZmA h]
 | [],_::_,h=>h.elim
 | _::_,[],h=>h.elim
theorem ZrX [NW] (htt:∀t i,tt t=some i→TOk P t i) (hS:∀t,SVR g w (st.sl t) (a.tmps.getD t undef)) (hU:StU U st) {t n:Nat} {fs:List FI} {z:List AV} (hti:tt t=some (.strct fs n z)) {parts:Array (Nat × Operand)} {cs:List AV} (h:Zif fs z (parts.toList.map (Zfa tt st fs z))=some cs):
  ∃cv,(Instr.build t (parts.map fun (i,x)=>(i,a.eval x))).run P w=.ok cv w∧SVR g w (.p true cs) cv∧svU U (.p true cs):=by
 obtain ⟨fields,i,zvs,u1,u2,u3,u4,u5,u6⟩:=htt t _ hti
 obtain ⟨hz,hzu⟩:=Zg8 (g:=g) (w:=w) (U:=U) u5
 have hparts:ZH (fun (p:Nat × SV) (q:Nat × Value)=>p.1=q.1∧SVR g w p.2 q.2∧svU U p.2) (parts.toList.map (Zfa tt st fs z)) (parts.toList.map fun p=>(p.1,a.eval p.2)):=by
  refine ZH.of_map _ _ fun p _=>?_
  unfold Zfa
  split
  ·rename_i hc
   rw [hc]
   refine ⟨rfl,?_⟩
   dsimp only
   split
   ·exact ⟨⟨_,rfl,rfl⟩,fun y m=>by simp at m;subst m;trivial⟩
   ·exact ⟨trivial,trivial⟩
  ·have:=Zjj htt hS hU 0 p.2
   exact ⟨rfl,this⟩
 have hpl:∀(i:Nat) (fi:FI),fs[i]?=some fi→((fs.map fun (fi:FI)=>(fi.off,fi.size)).toArray[i]?)=some (fi.off,fi.size):=fun i fi hf=>by simp [hf]
 obtain ⟨vs',d1,d2,d3⟩:=ZqL hpl h hparts hz hzu
 refine ⟨.agg vs'.toArray,run_build w t _ _ ?_,⟨vs',rfl,d2⟩,d3⟩
 unfold Program.built
 simp only [u1,u2,u4,ZmA u6]
 have e:(parts.map fun (x:Nat × Operand)=>(x.1,a.eval x.2)).toList=parts.toList.map fun p=>(p.1,a.eval p.2):=by simp
 have e2:(parts.map fun x=>match x with | (i,x)=>(i,a.eval x))=parts.map fun (x:Nat × Operand)=>(x.1,a.eval x.2):=rfl
 rw [e2,e]
 exact d1
theorem Sl.sub {m n:Nat} {A:Option Addr} {cs:List Value} {L:List Nat} (h:Sl w m A n cs L) (l q cap:Nat) (hm:0<m) (hq:l+q≤n) (hcap:n≤cap):
  ∃A' L',A'=(if cap=l then A else A.map (·.add (l * m)))∧Sl w m A' q ((cs.drop (l * m)).take (q * m)) L'∧∀b∈L',b∈L:=by
 have hlen:=h.1
 have hlm:l * m+q * m≤n * m:=by rw [←Nat.add_mul];exact Nat.mul_le_mul_right m hq
 refine ⟨_,if q=0 then [] else L,rfl,⟨by simp;omega,?_⟩,fun b mb=>?_⟩
 ·by_cases hq0:q=0
  ·exact .inl ⟨hq0,by simp [hq0]⟩
  ·rcases h.2 with ⟨h0,_⟩ | ⟨_,b,off,rfl,rfl,hc⟩
   ·omega
   ·refine .inr ⟨by omega,b,off+l * m,by rw [if_neg (by omega)];simp [ZcL],by simp [hq0],fun j u hj=>?_⟩
    rw [Nat.add_assoc]
    refine hc _ u ?_
    have hjq:j<q * m:=by
     have:=(List.getElem?_eq_some_iff.1 hj).1
     simp at this;omega
    rw [List.getElem?_take,if_pos hjq,List.getElem?_drop] at hj
    exact hj
 ·split at mb
  ·simp at mb
  ·exact mb
theorem REs.drop {m:Nat}:∀{xs:List (List CT)} {cs:List Value} {L:List Nat} (l:Nat),REs w m xs cs L→∃L',REs w m (xs.drop l) (cs.drop (l * m)) L'∧∀b∈L',b∈L
 | xs,cs,L,0,h=>⟨L,by simpa using h,fun _ mb=>mb⟩
 | [],cs,L,l+1,h=>⟨[],by obtain ⟨rfl,rfl⟩:=h;simp [REs],by simp⟩
 | x::r,_,_,l+1,⟨c1,c2,L1,L2,rfl,rfl,h3,h4⟩=>by
  obtain ⟨L',h5,h6⟩:=REs.drop l h4
  refine ⟨L',?_,fun b mb=>by simp [h6 b mb]⟩
  have e:(l+1) * m=c1.length+l * m:=by rw [h3.2,Nat.add_mul];omega
  have e2:(c1++c2).drop (c1.length+l * m)=c2.drop (l * m):=by
   rw [List.drop_append,List.drop_of_length_le (Nat.le_add_right _ _),List.nil_append,Nat.add_sub_cancel_left]
  rw [e,e2]
  simpa using h5
theorem REs.take {m:Nat}:∀{xs:List (List CT)} {cs:List Value} {L:List Nat} (l:Nat),REs w m xs cs L→∃L',REs w m (xs.take l) (cs.take (l * m)) L'∧∀b∈L',b∈L
 | xs,cs,L,0,h=>⟨[],by simp [REs],by simp⟩
 | [],cs,L,l+1,h=>⟨[],by obtain ⟨rfl,rfl⟩:=h;simp [REs],by simp⟩
 | x::r,_,_,l+1,⟨c1,c2,L1,L2,rfl,rfl,h3,h4⟩=>by
  obtain ⟨L',h5,h6⟩:=REs.take l h4
  refine ⟨L1++L',?_,fun b mb=>by
   rcases List.mem_append.1 mb with mb | mb
   ·simp [mb]
   ·simp [h6 b mb]⟩
  have e:(l+1) * m=c1.length+l * m:=by rw [h3.2,Nat.add_mul];omega
  rw [e,List.take_length_add_append]
  exact ⟨c1,_,L1,L',rfl,rfl,h3,h5⟩
theorem ZmW {k:IntKind} {i:Int} {y:Nat} {code:BoundsCode} (h0:0≤i) (h1:i≤y):(Instr.sliceBound (.int k i) y code).run P w=.ok i.toNat w:=by
 simp [Instr.sliceBound,asIntOf,h0,h1]
def Zk5 [NW] (g:Gh) (w:World):Option SV→Option Value→Prop
 | none,none=>True
 | some s,some u=>SVR g w s u
 | _,_=>False
theorem Zhj [NW] {lo hi:Option SV} {vlo vhi:Option Value} {len cap l h:Nat} {b:Bool} (hh:hiB len hi=some h) (hl:loB h lo=some l) (hlo:Zk5 g w lo vlo) (hhi:Zk5 g w hi vhi) (hc:len≤cap):
  (Instr.sliceBounds b len cap vlo vhi none).run P w=.ok (l,h,cap) w∧l≤h∧h≤len:=by
 have e1 : ((match vhi, (none : Option Value) with | some v, some _ => Instr.sliceBound v cap .slice3B | some v, none => Instr.sliceBound v cap (if b then .sliceAcap else .sliceAlen) | none, none => pure len | none, some _ => stuck "Slice: max without high") : Sem Nat).run P w = .ok h w ∧ h ≤ len := by
  unfold hiB at hh
  split at hh
  ·simp only [Option.some.injEq] at hh
   subst hh
   cases vhi with
   | none=>exact ⟨rfl,Nat.le_refl _⟩
   | some v=>exact hhi.elim
  ·split at hh<;>simp only [Option.some.injEq,reduceCtorEq] at hh
   rename_i hq
   subst hh
   cases vhi with
   | none=>exact hhi.elim
   | some v=>
    have e:=Zbd hhi
    subst e
    exact ⟨ZmW hq.1 (by omega),by omega⟩
  ·simp at hh
 have e2:((match vlo with | some v=>Instr.sliceBound v h .sliceB | none=>pure 0):Sem Nat).run P w=.ok l w∧l≤h:=by
  unfold loB at hl
  split at hl
  ·simp only [Option.some.injEq] at hl
   subst hl
   cases vlo with
   | none=>exact ⟨rfl,Nat.zero_le _⟩
   | some v=>exact hlo.elim
  ·split at hl<;>simp only [Option.some.injEq,reduceCtorEq] at hl
   rename_i hq
   subst hl
   cases vlo with
   | none=>exact hlo.elim
   | some v=>
    have e:=Zbd hlo
    subst e
    exact ⟨ZmW hq.1 hq.2,by omega⟩
  ·simp at hl
 refine ⟨?_,e2.2,e1.2⟩
 unfold Instr.sliceBounds
 simp only [Sem.run_bind,Sem.run_pure,Result.andThen_ok,Option.isSome_none,Bool.false_eq_true,if_false]
 have e1':=e1.1
 have e2':=e2.1
 cases vhi<;>cases vlo<;>simp_all
theorem Zpx [NW] (htt:∀t i,tt t=some i→TOk P t i) {t:Nat} {x v:SV} {lo hi:Option SV} {vx:Value} {vlo vhi:Option Value} (h:Zlm (tt t) lo hi x=some v) (hx:SVR g w x vx)
  (hlo:Zk5 g w lo vlo) (hhi:Zk5 g w hi vhi):∃cv,(Instr.sliceAt t vx vlo vhi none).run P w=.ok cv w∧SVR g w v cv∧svU U v:=by
 unfold Zlm at h
 split at h
 ·rename_i s
  split at h
  ·rename_i hstr
   have hu:=Zf7 htt hstr
   obtain ⟨q,hq,h⟩:=Option.bind_eq_some_iff.1 h
   obtain ⟨l,hl,rfl⟩:=Option.map_eq_some_iff.1 h
   obtain ⟨rfl,hs⟩:=Zhl hx
   obtain ⟨b1,b2,b3⟩:=Zhj (P:=P) (b:=false) hq hl hlo hhi (Nat.le_refl _)
   refine ⟨_,?_,ZjY (by rw [ByteArray.size_extract];omega),Xt _⟩
   simp [Instr.sliceAt,Yw hu,Instr.slice,b1]
  ·simp at h
 ·rename_i e m xs
  split at h
  ·rename_i hsz
   obtain ⟨q,hq,h⟩:=Option.bind_eq_some_iff.1 h
   obtain ⟨l,hl,rfl⟩:=Option.map_eq_some_iff.1 h
   obtain ⟨A,cap,cs,L0,L1,rfl,h2,h3,h5,h6,h7,ho⟩:=Zfz hx
   obtain ⟨b1,b2,b3⟩:=Zhj (P:=P) (b:=true) hq hl hlo hhi h2
   obtain ⟨e',b',z',hti⟩:∃e' b' z',tt t=some (.slice e' m b' z'):=by
    unfold Zix at hsz
    split at hsz
    ·rename_i h1;subst hsz;exact ⟨_,_,_,h1⟩
    ·omega
   obtain ⟨hu,_,_,⟨ie,zv,hie,hsi,_⟩,_⟩:=htt t _ hti
   have fin:SVR g w (.p false [.c (.sl e m ((xs.take q).drop l))]) (.slice (if cap=l then A else A.map (·.add (l * m))) (q - l) (cap - l)):=by
    obtain ⟨A',L',rfl,s1,s2⟩:=h6.sub l (q - l) cap h5 (by omega) h2
    obtain ⟨M1,r1,r2⟩:=h7.take q
    obtain ⟨M2,r3,r4⟩:=r1.drop l
    have hlen:((xs.take q).drop l).length=q - l:=by simp;omega
    have e1:(cs.drop (l * m)).take ((q - l) * m)=(cs.take (q * m)).drop (l * m):=by
     rw [List.drop_take,Nat.sub_mul]
    rw [e1] at s1
    refine ⟨_,rfl,L'++M2,⟨_,_,_,L',M2,by rw [hlen],by rw [hlen];omega,by omega,rfl,h5,by rw [hlen];exact s1,r3⟩,fun b mb=>?_⟩
    rcases List.mem_append.1 mb with mb | mb
    ·exact ho b (by simp [s2 b mb])
    ·exact ho b (by simp [r2 b (r4 b mb)])
   refine ⟨_,?_,fin,Xt _⟩
   simp [Instr.sliceAt,Yw hu,Instr.slice,b1,XH hie,hsi]
  ·simp at h
 ·simp at h
end
end Go.Proofs.YtojnhepgnbhaaaaGreatDoor
namespace Go.Proofs.YtojnhepgnbhaaaaGreatDoor
open Go.RowKit
theorem Zw {α:Type} (f:Nat→α) (k:Nat) (v:α):upd f k v k=v:=by simp [upd]
theorem ZI {α:Type} (f:Nat→α) {k j:Nat} (v:α) (h:j≠k):upd f k v j=f j:=by simp [upd,h]
theorem YR (ob:Nat→Ob) (u v:List (Nat × Ob)):Zk ob (u++v)=Zk (Zk ob u) v:=by
 induction u generalizing ob with
 | nil=>rfl
 | cons p r ih=>exact ih _
theorem Zi2:∀(ks:List Nat) (ob:Nat→Ob) (k:Nat),Zk ob (Zam ks) k=if k∈ks then .gone else ob k
 | [],ob,k=>by simp [Zam,Zk]
 | x::ks,ob,k=>by
  have:Zam (x::ks)=(x,Ob.gone)::Zam ks:=rfl
  rw [this,Zk,Zi2 ks]
  by_cases h1:k∈ks
  ·simp [h1]
  ·by_cases h2:k=x
   ·subst h2;simp [upd]
   ·simp [h1,h2,upd]
theorem ZaE [NW] (ks:List Nat) (ob:Nat→Ob) (key:Nat) (o:Ob) (k:Nat):Zk ob (Zam ks++[(key,o)]) k=if k=key then o else if k∈ks then .gone else ob k:=by
 rw [YR]
 simp only [Zk,upd,Zi2]
def Gh.turn (g:Gh) (ks:List Nat) (key:Nat) (v:Value) (O D:List Nat):Gh:=
 ⟨upd g.val key v,fun k=>if k=key then O else if k∈ks then [] else g.O k,fun k=>if k=key then D else if k∈ks then [] else g.D k,g.Z⟩
section
variable {P:Program} {W:Q8} {U:Nat→Prop} {key:Nat} {st:St} {g:Gh} {w w':World} {a:Act} {tt:Nat→Option TI}
theorem Zel {ks:List Nat} {v:Value} {O D:List Nat} {b:Nat} (h:(g.turn ks key v O D).own b):b∈O∨(∃k,k∉ks∧k≠key∧b∈g.O k)∨g.Z b:=by
 rcases h with ⟨k,hk⟩ | h
 ·simp only [Gh.turn] at hk
  split at hk
  ·exact .inl hk
  ·rename_i h1
   split at hk
   ·simp at hk
   ·rename_i h2;exact .inr (.inl ⟨k,h2,h1,hk⟩)
 ·exact .inr (.inr h)
theorem ZmC {n:Nat} {ks:List Nat} {v:Value} {O D:List Nat} (hO:∀b∈O,(∃k∈ks,b∈g.O k)∨n≤b) (hD:∀b∈D,(∃k∈ks,b∈g.O k++g.D k)∨n≤b):Qt g (g.turn ks key v O D) n:=by
 refine .of (fun b hb=>?_) fun j b mb=>?_
 ·rcases Zel hb with m | ⟨k,_,_,m⟩ | m
  ·rcases hO b m with ⟨k,_,m⟩ | m
   ·exact .inl (.inl ⟨k,m⟩)
   ·exact .inr m
  ·exact .inl (.inl ⟨k,m⟩)
  ·exact .inl (.inr m)
 ·simp only [Gh.turn] at mb
  split at mb
  ·refine (hD b mb).imp (fun ⟨k,_,mk⟩=>?_) id
   rcases List.mem_append.1 mk with m1 | m1
   ·exact .inl (.inl ⟨k,m1⟩)
   ·exact .inr ⟨k,m1⟩
  ·split at mb
   ·simp at mb
   ·exact .inl (.inr ⟨j,mb⟩)
theorem HI.turn [NW] {ob:Nat→Ob} (h:HI W g ob w) (hobU:∀k,obU U (ob k)) (hkey:¬U key) (ks:List Nat) (hks:∀k∈ks,U k)
  (hbel:Bel W w') (hsz:w.heap.size≤w'.heap.size) (hw:∀b,b<w.heap.size→(∀k∈ks,b∉g.O k)→w'.heap[b]?=w.heap[b]?)
  {v:Value} {O D:List Nat} {o:Ob} (hO:∀b∈O,(∃k∈ks,b∈g.O k)∨w.heap.size≤b) (hD:∀b∈D,(∃k∈ks,b∈g.O k++g.D k)∨w.heap.size≤b)
  (hnd:(O++D).Nodup) (hpl:∀b∈O++D,(W.heap.size≤b∨W.x b)∧XZ w' o b)
  (hob:Qt g (g.turn ks key v O D) w.heap.size→ObR (g.turn ks key v O D) w' key o):
  HI W (g.turn ks key v O D) (Zk ob (Zam ks++[(key,o)])) w'∧∀x u,svU U x→SVR g w x u→SVR (g.turn ks key v O D) w' x u:=by
 have hkk:key∉ks:=fun m=>hkey (hks key m)
 have hval:∀k,U k→(g.turn ks key v O D).val k=g.val k:=fun k hk=>ZI _ _ fun e=>hkey (e ▸ hk)
 have hown:Qt g (g.turn ks key v O D) w.heap.size:=ZmC hO hD
 have hFnew:∀b∈O++D,(∃k∈ks,b∈g.O k++g.D k)∨w.heap.size≤b:=fun b m=>by
  rcases List.mem_append.1 m with m | m
  ·exact (hO b m).imp (fun ⟨k,h1,h2⟩=>⟨k,h1,by simp [h2]⟩) id
  ·exact hD b m
 refine ⟨h.step (fun k=>k=key∨k∈ks) hbel rfl (fun b hb hn=>hw b hb fun k hk=>hn k (.inr hk)) (fun k hk=>?_) hobU hval hown (fun k hk=>?_),fun x u hx hu=>hu.move hx hval (fun b hb hn=>hw b hb fun k _ m=>hn (.inl ⟨k,m⟩)) hown hsz⟩
 ·have h1:k≠key:=fun e=>hk (.inl e)
  have h2:k∉ks:=fun e=>hk (.inr e)
  rw [ZaE]
  simp [Gh.turn,h1,h2,upd]
 ·rw [ZaE]
  by_cases h1:k=key
  ·subst h1
   have eO:(g.turn ks k v O D).O k=O:=by simp [Gh.turn]
   have eD:(g.turn ks k v O D).D k=D:=by simp [Gh.turn]
   rw [if_pos rfl,eO,eD]
   refine ⟨hob hown,hnd,hpl,fun j hj b m mj=>?_⟩
   have hjk:¬j=k:=fun e=>hj e.symm
   by_cases h2:j∈ks
   ·simp [Gh.turn,hjk,h2] at mj
   ·have mj':b∈g.O j++g.D j:=by simpa [Gh.turn,hjk,h2] using mj
    rcases hFnew b m with ⟨q,q1,q2⟩ | q
    ·exact h.apart q j (fun e=>h2 (e ▸ q1)) b q2 mj'
    ·have:=h.lt j b mj';omega
  ·have h2:k∈ks:=hk.resolve_left h1
   have eO:(g.turn ks key v O D).O k=[]:=by simp [Gh.turn,h1,h2]
   have eD:(g.turn ks key v O D).D k=[]:=by simp [Gh.turn,h1,h2]
   rw [if_neg h1,if_pos h2,eO,eD]
   exact ⟨⟨eO,eD⟩,by simp,by simp,by simp⟩
theorem Zhr [NW] (hU:StU U st) (ks:List Nat) {o:Ob} (ho:obU (Uk U key) o):(∀k,obU (Uk U key) (Zk st.ob (Zam ks++[(key,o)]) k))∧∀k,¬Uk U key k→Zk st.ob (Zam ks++[(key,o)]) k=.gone:=by
 constructor
 ·intro k
  rw [ZaE]
  split
  ·exact ho
  ·split
   ·trivial
   ·exact (hU.ob k).mono fun _=>.inl
 ·intro k hk
  rw [ZaE,if_neg (fun e=>hk (.inr (by omega)))]
  split
  ·rfl
  ·exact hU.gone k fun h=>hk (.inl h)
theorem Ziw:Uk U key key:=.inr (by omega)
theorem Zte [NW] (hI:HI W g st.ob w) (hU:StU U st) (hkey:¬U key) {t:TypeId} {cs:List AV} {vs:List Value} (hr:ZH (AVR g w) cs vs) (hu:Qz U cs) {s:Sem Next}
  (hrun:s.run P w=.ok (.value (.pointer (some ⟨w.heap.size,0,none⟩))) (w.alloc (.cells vs.toArray t))):Fin P W U key st g w s (.bp key 0,[(key,.box t cs)]):=by
 have hb:Below w.heap.size w (w.alloc (.cells vs.toArray t)):=(Below.refl _ _).alloc (Nat.le_refl _) _
 obtain ⟨h1,h2⟩:=hI.turn (key:=key) (U:=U) (w':=w.alloc (.cells vs.toArray t)) (v:=.pointer (some ⟨w.heap.size,0,none⟩)) (O:=[w.heap.size]) (D:=[]) (o:=.box t cs) hU.ob hkey [] (by simp)
  (hI.below.trans hb) hb.size (fun b hb' _=>hb.block b hb') (by simp) (by simp) (by simp) (fun b m=>by
   simp at m;subst m;exact ⟨.inl hI.below.size,_,_,heap_alloc_new w _⟩) (fun hown=>⟨w.heap.size,vs,by simp [Gh.turn,upd],by simp [Gh.turn],by simp [Gh.turn],heap_alloc_new w _,
    AVRs.move hr hu (fun k hk=>ZI _ _ fun e=>hkey (e ▸ hk)) (fun b hb' _=>hb.block b hb') hown⟩)
 have hwf:=Zhr (key:=key) (o:=.box t cs) hU [] (Qz.mono (fun _=>.inl) hu)
 exact ⟨_,_,_,.inl hrun,h1,⟨w.heap.size,by simp [Gh.turn,upd],rfl⟩,h2,Ziw,hwf.1,hwf.2⟩
theorem ZmD (b:Nat) (cs cs':Array Value) (t:TypeId) (hb:w.heap[b]?=some (.cells cs t (0,0))):(w.setRow b cs').heap[b]?=some (.cells cs' t (0,0))∧(∀k,k≠b→(w.setRow b cs').heap[k]?=w.heap[k]?)∧(w.setRow b cs').heap.size=w.heap.size∧(w.setRow b cs').os=w.os∧(w.setRow b cs').tape=w.tape∧(w.setRow b cs').output=w.output:=by
 refine ⟨setRow_heap w b cs cs' t _ hb,fun k hk=>?_,?_,rfl,rfl,rfl⟩
 ·have hbk:¬b=k:=fun e=>hk e.symm
  simp [World.setRow,Array.getElem?_modify,hbk]
 ·simp [World.setRow]
theorem Zsm [NW] (htt:∀t i,tt t=some i→TOk P t i) (hI:HI W g st.ob w) (hU:StU U st) {t k off tb:Nat} {cs vs:List AV} {va vv:Value} {ag:Bool} (hk:st.ob k=.box tb cs) (hl:vs.length=Zhf (tt t)) (ho:off+vs.length≤cs.length)
  (ha:SVR g w (.bp k off) va) (hv:SVR g w (.p ag vs) vv) (hvu:Qz U vs) (hpos:0<vs.length) {s:Sem Next} (hs:s=(do Instr.storeAt t va vv;pure .skip)):Fin P W U key st g w s (.und,[(k,.box tb (splice cs off vs))]):=by
 obtain ⟨b,h1,rfl⟩:=ha
 have hob:=hI.obs k
 rw [hk] at hob
 obtain ⟨b',us,o1,o2,o3,o4,o5⟩:=hob
 have hb:b=b':=by rw [o1] at h1;simpa using h1.symm
 subst hb
 have hlen:=o5.len
 obtain ⟨xs,c1,c2⟩:=PVR.cells hv
 have hxl:=c2.len
 have hcu:=hU.ob k
 rw [hk] at hcu
 obtain ⟨r1,r2,r3,r4,r5,r6⟩:=ZmD b us.toArray (splice us off xs).toArray tb o4
 have hsize:(sizeOf t).run P w=.ok xs.length w:=by
  rw [←hxl,hl]
  unfold Zhf at hl ⊢
  cases hti:tt t with
  | none=>rw [hti] at hl;simp at hl;simp [hl] at hpos
  | some i=>
   cases i with
   | atom z=>obtain ⟨d,zv,i,_,_,h3,_,h4,_⟩:=htt t _ hti;rw [XH h3,h4]
   | strct fs n z=>obtain ⟨_,i,_,_,h3,h4,_⟩:=htt t _ hti;rw [XH h3,h4]
   | slice e m b z=>obtain ⟨_,_,_,_,j,h3,h4,_⟩:=htt t _ hti;rw [XH h3,h4]
   | _=>rw [hti] at hl;simp at hl;simp [hl] at hpos
 have hst:=run_storeCells_at (P:=P) b off tb xs 0 us.toArray w o4 (by simp;omega) (AVRs.one c2)
 have hrun:s.run P w=.ok .skip (w.setRow b (splice us off xs).toArray):=by
  subst hs
  have e:(us.toArray.toList.take (off+0)++xs++us.toArray.toList.drop (off+0+xs.length)).toArray=(splice us off xs).toArray:=by simp [splice]
  rw [e] at hst
  simp [Instr.storeAt,Instr.sureAddr,storeVar,c1,hsize,hst]
 have hmv:∀b',b'<w.heap.size→¬g.own b'→(w.setRow b (splice us off xs).toArray).heap[b']?=w.heap[b']?:=fun b' _ hn=>r2 b' fun e=>hn (.inl ⟨k,by simp [o2,e]⟩)
 have hbW:W.heap.size≤b∨W.x b:=(hI.plain k b (by simp [o2])).1
 refine ⟨g,undef,_,.inr ⟨hrun,rfl⟩,?_,rfl,fun x u hx hu=>hu.move hx (fun _ _=>rfl) hmv (Qt.refl _ _) (by omega),trivial,fun q=>?_,fun q hq=>?_⟩
 ·refine hI.step (U:=U) (fun q=>q=k) ?_ rfl (fun b' _ hn=>r2 b' fun e=>hn k rfl (by simp [o2,e])) (fun q hq=>⟨ZI _ _ hq,rfl,rfl,rfl⟩) hU.ob (fun _ _=>rfl) (Qt.refl _ _) (fun q hq=>?_)
  ·exact ⟨r4.trans hI.below.os,r5.trans hI.below.tape,r6.trans hI.below.output,by have:=hI.below.size;omega,fun q hq hx=>by rw [r2 q (fun e=>by subst e;rcases hbW with h | h;omega;exact hx h)];exact hI.below.block q hq hx⟩
  ·subst hq
   refine ⟨?_,hI.nodup q,fun b' m=>?_,hI.apart q⟩
   ·simp only [Zk,Zw]
    exact ⟨b,_,o1,o2,o3,r1,(AVRs.move o5 hcu (fun _ _=>rfl) hmv (Qt.refl _ _)).splice (AVRs.move c2 hvu (fun _ _=>rfl) hmv (Qt.refl _ _)) off⟩
   ·simp [o2,o3] at m
    subst m
    refine ⟨hbW,?_⟩
    simp only [Zk,Zw]
    exact ⟨_,_,r1⟩
 ·simp only [Zk,upd]
  split
  ·exact Qz.mono (fun _=>.inl) (ZiW hcu hvu off)
  ·exact (hU.ob q).mono fun _=>.inl
 ·simp only [Zk,upd]
  split
  ·rename_i e;subst e
   exact absurd (hU.gone q fun h=>hq (.inl h)) (by simp [hk])
  ·exact hU.gone q fun h=>hq (.inl h)
end
end Go.Proofs.YtojnhepgnbhaaaaGreatDoor
namespace Go.Proofs.YtojnhepgnbhaaaaGreatDoor
open Go.RowKit
section
variable {P:Program} {W:Q8} {U:Nat→Prop} {key:Nat} {st:St} {g:Gh} {w w':World} {a:Act} {tt:Nat→Option TI}
def Gh.F (g:Gh) (ks:List Nat):List Nat:=ks.flatMap fun k=>g.O k++g.D k
def FP (g:Gh) (ks:List Nat) (d:Nat) (L:List Nat):Prop:=(d=2→L.Sublist (g.F ks))∧d≤2∧0<d∧∀b∈L,¬g.own b∨∃k∈ks,b∈g.O k
theorem FP.nil:FP g [] 2 []:=⟨fun _=>by simp [Gh.F],by simp⟩
theorem FP.append {ks ks':List Nat} {d d':Nat} {L L':List Nat} (h:FP g ks d L) (h':FP g ks' d' L'):FP g (ks++ks') (ZeK d d') (L++L'):=by
 have q1:=h.2.1
 have q2:=h'.2.1
 have q3:=h.2.2.1
 have q4:=h'.2.2.1
 refine ⟨fun hd=>?_,by unfold ZeK;split<;>omega,by unfold ZeK;split<;>omega,fun b m=>?_⟩
 ·have hd':d=2∧d'=2:=by unfold ZeK at hd;split at hd<;>omega
  simp only [Gh.F,List.flatMap_append]
  exact List.Sublist.append (h.1 hd'.1) (h'.1 hd'.2)
 ·rcases List.mem_append.1 m with m | m
  ·exact (h.2.2.2 b m).imp id fun ⟨k,h1,h2⟩=>⟨k,by simp [h1],h2⟩
  ·exact (h'.2.2.2 b m).imp id fun ⟨k,h1,h2⟩=>⟨k,by simp [h1],h2⟩
theorem HI.nodupF [NW] {ob:Nat→Ob} (hI:HI W g ob w):∀{ks:List Nat},ks.Nodup→(g.F ks).Nodup
 | [],_=>by simp [Gh.F]
 | k::ks,h=>by
  simp only [Gh.F,List.flatMap_cons,List.nodup_append]
  rw [List.nodup_cons] at h
  refine ⟨List.nodup_append.1 (hI.nodup k),hI.nodupF h.2,fun x hx y hy e=>?_⟩
  subst e
  obtain ⟨j,hj,hy⟩:=List.mem_flatMap.1 hy
  exact hI.apart k j (fun e=>h.1 (e ▸ hj)) x hx hy
theorem Zjp {ks:List Nat} {b:Nat} (h:b∈g.F ks):∃k∈ks,b∈g.O k++g.D k:=by simpa [Gh.F] using h
theorem Sl.row {B e m n:Nat} {v:Value} {cs:List Value} (h:w.ownsV B e m v n cs):∃A cap L0,v=.slice A n cap∧n≤cap∧cap≤maxLen∧Sl w m A n cs L0∧L0.Sublist v.ownBlock.toList:=by
 obtain ⟨A,cap,rfl,h1,h2⟩:=Zar h
 obtain ⟨L0,h3,_,h4⟩:=Sl.of_ownV h
 refine ⟨A,cap,L0,rfl,h1,h2,h3,?_⟩
 rcases h3.2 with ⟨_,rfl⟩ | ⟨_,b,off,rfl,rfl,_⟩
 ·exact List.nil_sublist _
 ·simp [Value.ownBlock]
theorem NR.toC [NW] {x:CT} {v:Value} (h:NR g w x v):∃L,RC w x v L∧∀b∈L,¬g.own b:=by
 obtain ⟨e,m,xs,cs,L,rfl,h2,h3,h4,h5,h6⟩:=h
 obtain ⟨A,cap,L0,s1,s2,s3,s4,s5⟩:=Sl.row h3
 refine ⟨L0++L,⟨A,cap,cs,L0,L,s1,s2,s3,rfl,h2,s4,h4⟩,fun b mb o=>(h6 b ?_).1 (.inl o)⟩
 rcases List.mem_append.1 mb with m1 | m1
 ·simp [s5.subset m1]
 ·simp [m1]
theorem Zvq [NW] (hI:HI W g st.ob w) {x:AV} {ct:CT} {ks:List Nat} {d:Nat} {v:Value} (h:avT st x=some (ct,ks,d)) (hx:AVR g w x v) (hu:avU U x):∃L,RC w ct v L∧FP g ks d L∧∀k∈ks,U k:=by
 cases x with
 | c y=>
  obtain ⟨L,h1,h2⟩:=hx
  cases y<;>simp only [avT,Option.some.injEq,Prod.mk.injEq] at h<;>obtain ⟨rfl,rfl,rfl⟩:=h
  ·exact ⟨L,h1,⟨fun _=>by rw [h1.2];simp [Gh.F],by simp,by simp,fun b m=>.inl (h2 b m)⟩,by simp⟩
  ·exact ⟨L,h1,⟨fun _=>by rw [h1.2];simp [Gh.F],by simp,by simp,fun b m=>.inl (h2 b m)⟩,by simp⟩
  ·exact ⟨L,h1,⟨fun _=>by rw [h1.2.1];simp [Gh.F],by simp,by simp,fun b m=>.inl (h2 b m)⟩,by simp⟩
  all_goals exact ⟨L,h1,⟨fun e=>by simp at e,by simp,by simp,fun b m=>.inl (h2 b m)⟩,by simp⟩
 | row k=>
  simp only [avT] at h
  split at h
  ·rename_i e m xs d' hk
   obtain ⟨hm,cs,L1,o1,o2,o3,o5⟩:=hI.deep hk
   obtain ⟨A,cap,L0,s1,s2,s3,s4,s5⟩:=Sl.row o1
   have hrc:RC w (.sl e m xs) v (L0++L1):=⟨A,cap,cs,L0,L1,by rw [hx.1,s1],s2,s3,rfl,hm,s4,o2⟩
   split at h
   ·rename_i hd0
    simp only [Option.some.injEq,Prod.mk.injEq] at h
    obtain ⟨rfl,rfl,rfl⟩:=h
    refine ⟨L0++L1,hrc,⟨fun e=>by simp at e,by simp,by simp,fun b m=>.inl ?_⟩,by simp⟩
    rcases o5 with ⟨q,_⟩ | ⟨q,_⟩ | ⟨_,_,_,q⟩
    ·omega
    ·omega
    ·rcases List.mem_append.1 m with m | m
     ·exact q b (s5.subset m)
     ·exact o3 b m
   ·rename_i hd0
    simp only [Option.some.injEq,Prod.mk.injEq] at h
    obtain ⟨rfl,rfl,rfl⟩:=h
    have hO:g.O k=(g.val k).ownBlock.toList:=by
     rcases o5 with ⟨_,q,_⟩ | ⟨_,q,_⟩ | ⟨q,_⟩
     ·exact q
     ·exact q
     ·exact absurd q hd0
    refine ⟨L0++L1,hrc,⟨fun hd=>?_,?_,by omega,fun b m=>?_⟩,fun q mq=>by simp at mq;subst mq;exact hu⟩
    ·rcases o5 with ⟨_,_,o5⟩ | ⟨o5,_⟩ | ⟨o5,_⟩
     ·simp only [Gh.F,List.flatMap_cons,List.flatMap_nil,List.append_nil,hO,o5]
      exact List.Sublist.append s5 (List.Sublist.refl _)
     ·omega
     ·omega
    ·rcases o5 with ⟨o5,_⟩ | ⟨o5,_⟩ | ⟨o5,_⟩<;>omega
    ·rcases List.mem_append.1 m with m | m
     ·exact .inr ⟨k,by simp,by rw [hO];exact s5.subset m⟩
     ·exact .inl (o3 b m)
  ·simp at h
 | nil e m=>
  simp only [avT] at h
  split at h
  ·rename_i hm
   simp only [Option.some.injEq,Prod.mk.injEq] at h
   obtain ⟨rfl,rfl,rfl⟩:=h
   refine ⟨[],⟨none,0,[],[],[],hx,by simp,Nat.zero_le _,rfl,hm,Sl.zero,rfl,rfl⟩,FP.nil,by simp⟩
  ·simp at h
 | n x=>simp [avT] at h
 | dead=>simp [avT] at h
theorem ZqF [NW] (hI:HI W g st.ob w):∀{xs:List AV} {cts:List CT} {ks:List Nat} {d:Nat} {vs:List Value},Zfb st xs=some (cts,ks,d)→ZH (AVR g w) xs vs→Qz U xs→∃L,RCs w cts vs L∧FP g ks d L∧∀k∈ks,U k
 | [],_,_,_,[],h,_,_=>by
  simp only [Zfb,Option.some.injEq,Prod.mk.injEq] at h
  obtain ⟨rfl,rfl,rfl⟩:=h
  exact ⟨[],⟨rfl,rfl⟩,FP.nil,by simp⟩
 | [],_,_,_,_::_,_,h,_=>h.elim
 | _::_,_,_,_,[],_,h,_=>h.elim
 | x::r,cts,ks,d,v::vs,h,hr,hu=>by
  simp only [Zfb] at h
  obtain ⟨⟨c1,k1,d1⟩,h1,h⟩:=Option.bind_eq_some_iff.1 h
  obtain ⟨⟨c2,k2,d2⟩,h2,h⟩:=Option.map_eq_some_iff.1 h
  simp only [Prod.mk.injEq] at h
  obtain ⟨rfl,rfl,rfl⟩:=h
  obtain ⟨L1,a1,a2,a3⟩:=Zvq hI h1 hr.1 (hu x (by simp))
  obtain ⟨L2,b1,b2,b3⟩:=ZqF hI h2 hr.2 (fun y m=>hu y (by simp [m]))
  exact ⟨L1++L2,⟨v,vs,L1,L2,rfl,rfl,a1,b1⟩,a2.append b2,fun k m=>(List.mem_append.1 m).elim (a3 k) (b3 k)⟩
theorem Zoj [NW] (hI:HI W g st.ob w) {m:Nat}:∀{xs:List SV} {es:List (List CT)} {ks:List Nat} {d:Nat} {vs:List Value},Y1 st m xs=some (es,ks,d)→ZH (fun s v=>SVR g w s v∧svU U s) xs vs→
  ∃(cs:List (List Value)) (L:List Nat),ZH (fun (c:List Value) (v:Value)=>v.cells=c.toArray∧c.length=m∧∀u∈c,u.oneCell'=true) cs vs∧REs w m es cs.flatten L∧FP g ks d L∧∀k∈ks,U k
 | [],_,_,_,[],h,_=>by
  simp only [Y1,Option.some.injEq,Prod.mk.injEq] at h
  obtain ⟨rfl,rfl,rfl⟩:=h
  exact ⟨[],[],trivial,⟨rfl,rfl⟩,FP.nil,by simp⟩
 | [],_,_,_,_::_,_,h=>h.elim
 | _::_,_,_,_,[],_,h=>h.elim
 | s::r,es,ks,d,v::vs,h,⟨⟨hs,hsu⟩,hr⟩=>by
  cases s with
  | p ag us=>
   simp only [Y1] at h
   split at h
   ·rename_i hl
    obtain ⟨⟨c1,k1,d1⟩,h1,h⟩:=Option.bind_eq_some_iff.1 h
    obtain ⟨⟨c2,k2,d2⟩,h2,h⟩:=Option.map_eq_some_iff.1 h
    simp only [Prod.mk.injEq] at h
    obtain ⟨rfl,rfl,rfl⟩:=h
    obtain ⟨us',p1,p2⟩:=PVR.cells hs
    obtain ⟨L1,a1,a2,a3⟩:=ZqF hI h1 p2 hsu
    obtain ⟨cs,L2,b1,b2,b3,b4⟩:=Zoj hI h2 hr
    have hl':us'.length=m:=by rw [←p2.len];exact hl
    exact ⟨us'::cs,L1++L2,⟨⟨p1,hl',AVRs.one p2⟩,b1⟩,⟨us',cs.flatten,L1,L2,by simp,rfl,⟨a1,hl'⟩,b2⟩,a2.append b3,fun k mk=>(List.mem_append.1 mk).elim (a3 k) (b4 k)⟩
   ·simp at h
  | _=>simp [Y1] at h
theorem Zo2 [NW] {m:Nat}:∀(cs:List (List Value)) (vs:List Value) (i:Nat) (pre base:List Value),ZH (fun (c:List Value) (v:Value)=>v.cells=c.toArray∧c.length=m∧∀u∈c,u.oneCell'=true) cs vs→pre.length=i * m→base.length=vs.length * m→
  Instr.fill (fun i=>some (i * m,m)) (pre++base).toArray ((List.range' i vs.length).zip vs)=some (pre++cs.flatten).toArray
 | [],[],i,pre,base,_,_,hb=>by
  have:base=[]:=List.eq_nil_of_length_eq_zero (by simpa using hb)
  subst this
  simp [Instr.fill]
 | [],_::_,_,_,_,h,_,_=>h.elim
 | _::_,[],_,_,_,h,_,_=>h.elim
 | c::cs,v::vs,i,pre,base,⟨⟨h1,h2,_⟩,h⟩,hp,hb=>by
  have hb':base.length=m+vs.length * m:=by rw [hb];simp [Nat.add_mul];omega
  have hcs:v.cells.size=m:=by simp [h1,h2]
  simp only [List.length_cons,List.range'_succ,List.zip_cons_cons,Instr.fill]
  rw [if_neg (by simp [hcs];omega),ZkQ (i * m) v c h1 _ (by simp;omega)]
  have e:splice (pre++base).toArray.toList (i * m) c=(pre++c)++base.drop m:=by
   unfold splice
   simp only [←hp]
   rw [List.take_left',List.drop_append,List.drop_of_length_le (by omega)]
   ·simp [h2]
   ·rfl
  rw [e,Zo2 cs vs (i+1) (pre++c) (base.drop m) h (by simp [hp,h2,Nat.add_mul]) (by simp;omega)]
  simp
theorem ZrJ [NW] (hI:HI W g st.ob w) (hU:StU U st) (hkey:¬U key) {e m:Nat} (hm:0<m) {xs:List (List CT)} {ks:List Nat} {d:Nat} {L:List Nat} {cs:List Value} {v:Value} (hown:w'.ownsV 0 e m v xs.length cs) (hv:v.ownBlock=some w.heap.size)
  (hb:Below w.heap.size w w') (hpl:∃cur e,w'.heap[w.heap.size]?=some (.cells cur e (0,0))) (hr:REs w m xs cs L) (hf:FP g ks d L) (hks:∀k∈ks,U k) (hrow:∀k∈ks,∃e m xs d,st.ob k=.row e m xs d) (hnd:ks.Nodup) {s:Sem Next} (hrun:s.run P w=.ok (.value v) w'):
  Fin P W U key st g w s (.p false [.row key],Zam ks++[(key,.row e m xs d)]):=by
 have hlt:=hr.lt
 have hF:=hI.nodupF hnd
 have hDmem:∀b∈(if d=2 then L else []),b∈L∧d=2:=fun b mb=>by
  split at mb
  ·rename_i hd;exact ⟨mb,hd⟩
  ·simp at mb
 obtain ⟨h1,h2⟩:=hI.turn (key:=key) (U:=U) (w':=w') (v:=v) (O:=[w.heap.size]) (D:=if d=2 then L else []) (o:=.row e m xs d) hU.ob hkey ks hks
  (hI.below.trans hb) hb.size (fun b hb' _=>hb.block b hb') (by simp) (fun b mb=>by
   obtain ⟨m1,m2⟩:=hDmem b mb
   exact .inl (Zjp ((hf.1 m2).subset m1)))
  (by
   simp only [List.singleton_append,List.nodup_cons]
   refine ⟨fun mb=>?_,?_⟩
   ·have:=hlt _ (hDmem _ mb).1;omega
   ·split
    ·rename_i hd;exact hF.sublist (hf.1 hd)
    ·simp)
  (fun b mb=>by
   simp only [List.singleton_append,List.mem_cons] at mb
   rcases mb with rfl | mb
   ·exact ⟨.inl hI.below.size,hpl⟩
   ·obtain ⟨m1,m2⟩:=hDmem b mb
    obtain ⟨k,k1,mk⟩:=Zjp ((hf.1 m2).subset m1)
    obtain ⟨p1,p2⟩:=hI.plain k b mk
    obtain ⟨_,_,_,_,hob⟩:=hrow k k1
    rw [hob] at p2
    exact ⟨p1,p2.keep (hb.block b (hlt b m1))⟩)
  (fun _=>⟨hm,cs,L,by simpa [Gh.turn,upd] using hown,hr.keep fun b mb=>hb.block b (hlt b mb),by
   have q1:=hf.2.1
   have q2:=hf.2.2.1
   by_cases hd:d=2
   ·exact .inl ⟨hd,by simp [Gh.turn,upd,hv],by simp [Gh.turn,hd]⟩
   ·refine .inr (.inl ⟨by omega,by simp [Gh.turn,upd,hv],by simp [Gh.turn,hd],fun b mb ho=>?_⟩)
    have hb':=hlt b mb
    rcases Zel ho with mo | ⟨k,k1,_,mk⟩ | hz
    ·simp at mo;omega
    ·rcases hf.2.2.2 b mb with hn | ⟨q,q1,q2⟩
     ·exact hn (.inl ⟨k,mk⟩)
     ·exact hI.apart k q (fun e=>k1 (e ▸ q1)) b (by simp [mk]) (by simp [q2])
    ·rcases hf.2.2.2 b mb with hn | ⟨q,q1,q2⟩
     ·exact hn (.inr hz)
     ·exact hI.nz (k:=q) (by simp [q2]) hz⟩)
 have hwf:=Zhr (key:=key) (o:=.row e m xs d) hU ks trivial
 refine ⟨_,_,_,.inl hrun,h1,⟨_,rfl,⟨by simp [Gh.turn,upd],?_⟩⟩,h2,fun y my=>by simp at my;subst my;exact Ziw,hwf.1,hwf.2⟩
 obtain ⟨A,cap,hv'⟩:=Zct hown
 simp [hv',Value.oneCell']
theorem Zlf (st:St):∀(ks:List Nat) (ob:Nat→Ob) (k:Nat),Zk ob (ZP st ks) k=if k∈ks then Ym (st.ob k) else ob k
 | [],ob,k=>by simp [ZP,Zk]
 | j::r,ob,k=>by
  show Zk (upd ob j (Ym (st.ob j))) (ZP st r) k=_
  rw [Zlf st r]
  by_cases h:k∈r
  ·simp [h]
  ·by_cases hj:k=j
   ·subst hj;simp [h,upd]
   ·simp [h,hj,upd]
theorem Zci [NW] (st:St) (ks:List Nat) (ob:Nat→Ob) (key:Nat) (o:Ob) (k:Nat):Zk ob (ZP st ks++[(key,o)]) k=if k=key then o else if k∈ks then Ym (st.ob k) else ob k:=by
 rw [YR]
 show upd (Zk ob (ZP st ks)) key o k=_
 by_cases h:k=key
 ·simp [upd,h]
 ·simp only [upd,h,if_false];exact Zlf st ks ob k
theorem ZsE {x:AV} {ct:CT} {ks:List Nat} {d:Nat} (h:avT st x=some (ct,ks,d)):∀k∈ks,∃e m xs d,st.ob k=.row e m xs d:=by
 intro k mk
 cases x with
 | c y=>cases y<;>simp only [avT,Option.some.injEq,Prod.mk.injEq] at h<;>(rw [←h.2.1] at mk;simp at mk)
 | nil e m=>
  simp only [avT] at h
  split at h<;>simp only [Option.some.injEq,Prod.mk.injEq,reduceCtorEq] at h
  rw [←h.2.1] at mk;simp at mk
 | row j=>
  simp only [avT] at h
  split at h
  ·rename_i e m xs d' hj
   split at h<;>simp only [Option.some.injEq,Prod.mk.injEq] at h
   ·rw [←h.2.1] at mk;simp at mk
   ·rw [←h.2.1] at mk;simp at mk;subst mk;exact ⟨_,_,_,_,hj⟩
  ·simp at h
 | n x=>simp [avT] at h
 | dead=>simp [avT] at h
theorem Zmp [NW]:∀{xs:List AV} {cts:List CT} {ks:List Nat} {d:Nat},Zfb st xs=some (cts,ks,d)→∀k∈ks,∃e m xs d,st.ob k=.row e m xs d
 | [],_,_,_,h,k,mk=>by simp only [Zfb,Option.some.injEq,Prod.mk.injEq] at h;rw [←h.2.1] at mk;simp at mk
 | x::r,_,_,_,h,k,mk=>by
  simp only [Zfb] at h
  obtain ⟨⟨c1,k1,d1⟩,h1,h⟩:=Option.bind_eq_some_iff.1 h
  obtain ⟨⟨c2,k2,d2⟩,h2,h⟩:=Option.map_eq_some_iff.1 h
  simp only [Prod.mk.injEq] at h
  rw [←h.2.1] at mk
  rcases List.mem_append.1 mk with mk | mk
  ·exact ZsE h1 k mk
  ·exact Zmp h2 k mk
theorem Zjg [NW] {m:Nat}:∀{xs:List SV} {es:List (List CT)} {ks:List Nat} {d:Nat},Y1 st m xs=some (es,ks,d)→∀k∈ks,∃e m xs d,st.ob k=.row e m xs d
 | [],_,_,_,h,k,mk=>by simp only [Y1,Option.some.injEq,Prod.mk.injEq] at h;rw [←h.2.1] at mk;simp at mk
 | x::r,_,_,_,h,k,mk=>by
  cases x with
  | p a cs=>
   simp only [Y1] at h
   split at h
   ·obtain ⟨⟨c1,k1,d1⟩,h1,h⟩:=Option.bind_eq_some_iff.1 h
    obtain ⟨⟨c2,k2,d2⟩,h2,h⟩:=Option.map_eq_some_iff.1 h
    simp only [Prod.mk.injEq] at h
    rw [←h.2.1] at mk
    rcases List.mem_append.1 mk with mk | mk
    ·exact Zmp h1 k mk
    ·exact Zjg h2 k mk
   ·simp at h
  | _=>simp [Y1] at h
theorem Zp7 [NW] (hI:HI W g st.ob w) (hU:StU U st) (hkey:¬U key) {e m:Nat} (hm:0<m) {xs:List (List CT)} {ks:List Nat} {d:Nat} {L:List Nat} {cs:List Value} {v:Value} (hown:w'.ownsV 0 e m v xs.length cs) (hv:v.ownBlock=some w.heap.size)
  (hb:Below w.heap.size w w') (hpl:∃cur e,w'.heap[w.heap.size]?=some (.cells cur e (0,0))) (hr:REs w m xs cs L) (hf:FP g ks d L) (hks:∀k∈ks,U k) (hrow:∀k∈ks,∃e m xs d,st.ob k=.row e m xs d) (hnd:ks.Nodup) {s:Sem Next} (hrun:s.run P w=.ok (.value v) w'):
  Fin P W U key st g w s (.p false [.row key],ZP st ks++[(key,.row e m xs d)]):=by
 have hlt:=hr.lt
 have hF:=hI.nodupF hnd
 have hDmem:∀b∈(if d=2 then L else []),b∈L∧d=2:=fun b mb=>by
  split at mb
  ·rename_i hd;exact ⟨mb,hd⟩
  ·simp at mb
 obtain ⟨h1,h2⟩:=hI.turn (key:=key) (U:=U) (w':=w') (v:=v) (O:=[w.heap.size]) (D:=if d=2 then L else []) (o:=.row e m xs d) hU.ob hkey ks hks
  (hI.below.trans hb) hb.size (fun b hb' _=>hb.block b hb') (by simp) (fun b mb=>by
   obtain ⟨m1,m2⟩:=hDmem b mb
   exact .inl (Zjp ((hf.1 m2).subset m1)))
  (by
   simp only [List.singleton_append,List.nodup_cons]
   refine ⟨fun mb=>?_,?_⟩
   ·have:=hlt _ (hDmem _ mb).1;omega
   ·split
    ·rename_i hd;exact hF.sublist (hf.1 hd)
    ·simp)
  (fun b mb=>by
   simp only [List.singleton_append,List.mem_cons] at mb
   rcases mb with rfl | mb
   ·exact ⟨.inl hI.below.size,hpl⟩
   ·obtain ⟨m1,m2⟩:=hDmem b mb
    obtain ⟨k,k1,mk⟩:=Zjp ((hf.1 m2).subset m1)
    obtain ⟨p1,p2⟩:=hI.plain k b mk
    obtain ⟨_,_,_,_,hob⟩:=hrow k k1
    rw [hob] at p2
    exact ⟨p1,p2.keep (hb.block b (hlt b m1))⟩)
  (fun _=>⟨hm,cs,L,by simpa [Gh.turn,upd] using hown,hr.keep fun b mb=>hb.block b (hlt b mb),by
   have q1:=hf.2.1
   have q2:=hf.2.2.1
   by_cases hd:d=2
   ·exact .inl ⟨hd,by simp [Gh.turn,upd,hv],by simp [Gh.turn,hd]⟩
   ·refine .inr (.inl ⟨by omega,by simp [Gh.turn,upd,hv],by simp [Gh.turn,hd],fun b mb ho=>?_⟩)
    have hb':=hlt b mb
    rcases Zel ho with mo | ⟨k,k1,_,mk⟩ | hz
    ·simp at mo;omega
    ·rcases hf.2.2.2 b mb with hn | ⟨q,q1,q2⟩
     ·exact hn (.inl ⟨k,mk⟩)
     ·exact hI.apart k q (fun e=>k1 (e ▸ q1)) b (by simp [mk]) (by simp [q2])
    ·rcases hf.2.2.2 b mb with hn | ⟨q,q1,q2⟩
     ·exact hn (.inr hz)
     ·exact hI.nz (k:=q) (by simp [q2]) hz⟩)
 have hkk:∀k∈ks,k≠key:=fun k mk e=>hkey (e ▸ hks k mk)
 have h1':HI W (g.turn ks key v [w.heap.size] (if d=2 then L else [])) (Zk st.ob (ZP st ks++[(key,.row e m xs d)])) w':=by
  refine ⟨h1.below,fun k=>?_,h1.nodup,h1.apart,fun k b mb=>?_,h1.gz,h1.zx,h1.nw⟩
  rotate_left
  ·have hp:=h1.plain k b mb
   rw [ZaE] at hp
   rw [Zci]
   by_cases hk:k=key
   ·rw [if_pos hk] at hp ⊢;exact hp
   ·rw [if_neg hk] at hp ⊢
    by_cases hm':k∈ks
    ·rw [if_pos hm'] at hp ⊢
     obtain ⟨e2,m2,xs2,d2,hob⟩:=hrow k hm'
     rw [hob]
     exact hp
    ·rw [if_neg hm'] at hp ⊢;exact hp
  have ho:=h1.obs k
  rw [ZaE] at ho
  rw [Zci]
  by_cases hk:k=key
  ·rw [if_pos hk] at ho ⊢;exact ho
  ·rw [if_neg hk] at ho ⊢
   by_cases hm':k∈ks
   ·rw [if_pos hm'] at ho ⊢
    obtain ⟨e2,m2,xs2,d2,hob⟩:=hrow k hm'
    obtain ⟨p1,cs2,L2,p2,p3,p4,p5⟩:=hI.deep hob
    rw [hob]
    have hval:(g.turn ks key v [w.heap.size] (if d=2 then L else [])).val k=g.val k:=by simp [Gh.turn,upd,hk]
    have hl2:=p3.lt
    have hl1:=ZpA p2
    refine ⟨p1,cs2,L2,by rw [hval];exact Zg5 p2 fun b mb=>hb.block b (hl1 b mb),p3.keep fun b mb=>hb.block b (hl2 b mb),.inr (.inr ⟨rfl,ho.1,ho.2,fun b mb hob'=>?_⟩)⟩
    rw [hval] at mb
    have hbl:b<w.heap.size:=by
     rcases List.mem_append.1 mb with m1 | m1
     ·exact hl1 b m1
     ·exact hl2 b m1
    rcases Zel hob' with mo | ⟨j,j1,_,mj⟩ | hz
    ·simp at mo;omega
    ·rcases List.mem_append.1 mb with m1 | m1
     ·rcases p5 with ⟨_,q1,_⟩ | ⟨_,q1,_⟩ | ⟨_,_,_,q⟩
      ·exact hI.apart j k (fun e=>j1 (e ▸ hm')) b (by simp [mj]) (by simp [q1,m1])
      ·exact hI.apart j k (fun e=>j1 (e ▸ hm')) b (by simp [mj]) (by simp [q1,m1])
      ·exact q b m1 (.inl ⟨j,mj⟩)
     ·exact p4 b m1 (.inl ⟨j,mj⟩)
    ·rcases List.mem_append.1 mb with m1 | m1
     ·rcases p5 with ⟨_,q1,_⟩ | ⟨_,q1,_⟩ | ⟨_,_,_,q⟩
      ·exact hI.nz (k:=k) (by simp [q1,m1]) hz
      ·exact hI.nz (k:=k) (by simp [q1,m1]) hz
      ·exact q b m1 (.inr hz)
     ·exact p4 b m1 (.inr hz)
   ·rw [if_neg hm'] at ho ⊢;exact ho
 have hfz:∀k,obU U (Ym (st.ob k)):=fun k=>by
  have:=hU.ob k
  cases hk:st.ob k<;>simp only [Ym]<;>first | trivial | (rw [hk] at this;exact this)
 refine ⟨_,_,_,.inl hrun,h1',⟨_,rfl,⟨by simp [Gh.turn,upd],?_⟩⟩,h2,fun y my=>by simp at my;subst my;exact Ziw,fun k=>?_,fun k hk=>?_⟩
 ·obtain ⟨A,cap,hv'⟩:=Zct hown
  simp [hv',Value.oneCell']
 ·rw [Zci]
  split
  ·trivial
  ·split
   ·exact (hfz k).mono fun _=>.inl
   ·exact (hU.ob k).mono fun _=>.inl
 ·rw [Zci,if_neg (fun e=>hk (.inr (by omega)))]
  have e:=hU.gone k fun h=>hk (.inl h)
  split
  ·rw [e];rfl
  ·exact e
end
end Go.Proofs.YtojnhepgnbhaaaaGreatDoor
