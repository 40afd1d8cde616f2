/- Texts of this proof, joined: S22, S23, N5, N6, N9, N17, S24, A1, D1, D2, D3, D4, D5, D6, D7, D8, BInv, BRun, BOps1, BOps2, BOps3, BOps4, BOps5. What each holds is said at its theorems. -/
import Derived.Test.YtekbmedphidcgaaGreatDoorAskedQ3
import Derived.Test.YtekbmedphidcgaaGreatDoorAskedQ2
import Derived.Test.YtekbmedphidcgaaGreatDoorAskedQ1
import Derived.Laws.CopyRow
import Derived.Laws.OwnMore
import Derived.Laws.StructEq
import Derived.Laws.Tables
set_option linter.unusedSimpArgs false
set_option linter.unusedVariables false
open Array renaming getElem?_eq_some_iff→Ak
open Bool renaming and_eq_true→A4,false_eq_true→AD,and_true→Az
open ByteArray renaming size_extract→AT
open Go.ByteArray renaming toList_eq→B4
open Int renaming toNat→A3,toNat_natCast→AA,le_refl→AZ
open List renaming mem_append→A5,getElem?_eq_getElem→A7,range'→AC,replicate→AE,getElem?_eq_some_iff→AF,mem_map→AG,getElem_mem→AJ,mem_of_mem_drop→AK,eq_nil_of_length_eq_zero→AM,length_cons→AN,all_eq_true→AP,length_append→AQ,mem_of_getElem?→AR,mem_cons→AS,getElem?_cons_succ→AU,getElem?_cons_zero→AW,getElem?_eq_none→AY,mem_filterMap→Aa,mem_filter→Ab,mem_of_mem_take→Ac,map_cons→Ad,dropLast_concat_getLast→Ae,append_assoc→Af,foldl_cons→Ag,flatMap_cons→Ai,ext_getElem?→Al,range_eq_range'→Am,length_nil→An,any_eq_true→Ao,length_singleton→Ap,singleton_append→Aq,nodup_nil→Ar,nodup_cons→As,nodup_append→Au,take_append_drop→Aw,flatMap_nil→Ax,append_nil→Ay,length_map→B2,getElem?_take→B5,getElem?_drop→B6
open List.Nodup renaming sublist→B1
open List.cons renaming inj→Aj
open Nat renaming le_refl→A8,add_assoc→AH,zero_add→AL,add_mul→AO,zero_le→Ah,and_le_right→Av
open Option renaming bind_some→A0,map_eq_some_iff→A9,bind_eq_some_iff→AB,isSome_iff_exists→At
open Option.some renaming injEq→A6,inj→AI
open Prod.mk renaming injEq→B3
open UInt8 renaming ofNat→AX
namespace Go.Proofs.YtekbmedphidcgaaGreatDoor
section
open Classical
theorem ZsS {n k:Nat} {row:List Int} (h:RIn n row k) {y:Int} (h0:0≤y) (hy:y.toNat<n):atI row y=some (rdN row y)∧row[y.toNat]?=some (rdN row y):=by
 obtain ⟨v,hv,_⟩:=h.val y.toNat hy
 have e:row[y.toNat]?=some (rdN row y):=by unfold rdN;rw [hv];rfl
 refine ⟨?_,e⟩
 unfold atI
 rw [if_pos h0,e]
noncomputable def ZsE (row:List Int) (k:Nat) (y:Int):Bool:=decide (0≤rdN row y∧rdN row y<((k:Nat):Int))
noncomputable def ZrW (row:List Int) (y:Int):Bool:=decide (rdN row y<0)
theorem Zue {ρ:Type} {n k:Nat} {row:List Int} (h:RIn n row k) {l:List Int} (hl:∀y∈l,0≤y∧y.toNat<n) {fin:Unit→Option ρ} {z:ρ} {body:Nat→Int→Unit→Option (Unit ⊕ ρ)}
  (hb:∀i y u,body i y u=(atI row y).bind fun x=>if decide (x<0)=true then some (.inr z) else if decide (((k:Nat):Int)≤x)=true then some (.inr z) else some (.inl ())):forL body fin l 0 ()=if l.all (ZsE row k)=true then fin () else some z:=by
 rw [ZW (p:=ZsE row k) (r:=z)]
 intro i y my
 obtain ⟨y0,y1⟩:=hl y my
 rw [hb,(ZsS h y0 y1).1,A0]
 unfold ZsE
 by_cases h1:rdN row y<0
 ·rw [if_pos (decide_eq_true h1),decide_eq_false (by omega)];rfl
 ·rw [if_neg (by simpa using h1)]
  by_cases h2:((k:Nat):Int)≤rdN row y
  ·rw [if_pos (decide_eq_true h2),decide_eq_false (by omega)];rfl
  ·rw [if_neg (by simpa using h2),decide_eq_true (by omega)];rfl
theorem Zs2 {ρ:Type} {n k:Nat} {row:List Int} (h:RIn n row k) {l:List Int} (hl:∀y∈l,0≤y∧y.toNat<n) {fin:Unit→Option ρ} {z:ρ} {body:Nat→Int→Unit→Option (Unit ⊕ ρ)}
  (hb:∀i y u,body i y u=(atI row y).bind fun x=>if decide (0≤x)=true then some (.inr z) else some (.inl ())):forL body fin l 0 ()=if l.all (ZrW row)=true then fin () else some z:=by
 rw [ZW (p:=ZrW row) (r:=z)]
 intro i y my
 obtain ⟨y0,y1⟩:=hl y my
 rw [hb,(ZsS h y0 y1).1,A0]
 unfold ZrW
 by_cases h1:0≤rdN row y
 ·rw [if_pos (decide_eq_true h1),decide_eq_false (by omega)];rfl
 ·rw [if_neg (by simpa using h1),decide_eq_true (by omega)];rfl
theorem Zll {row:List Int} {k:Nat} {r:Zg}:(r.inn.all (ZsE row k)=true∧r.outs.all (ZrW row)=true)↔Zmr row k r:=by
 simp only[AP,ZsE,ZrW,decide_eq_true_eq]
 exact Iff.rfl
theorem ZnH {n k:Nat} {row:List Int} (h:RIn n row k) {r:Zg} (hr:OkN n r):Zas r row ((k:Nat):Int)=some (decide (Zmr row k r)):=by
 unfold Zas
 rw [Zue h hr.2.1 fun i y u=>rfl,Zs2 h hr.2.2 fun i y u=>rfl]
 by_cases h1:r.inn.all (ZsE row k)=true
 ·rw [if_pos h1]
  by_cases h2:r.outs.all (ZrW row)=true
  ·rw [if_pos h2,decide_eq_true (Zll.1 ⟨h1,h2⟩)]
  ·rw [if_neg h2,decide_eq_false fun h=>h2 (Zll.2 h).2]
 ·rw [if_neg h1,decide_eq_false fun h=>h1 (Zll.2 h).1]
theorem ZGR {n k:Nat} {row:List Int} (h:RIn n row k) {l:List Int} (hl:∀y∈l,0≤y∧y.toNat<n):ZDx l row ((k:Nat):Int)=some (l.all (ZsE row k)):=by
 unfold ZDx
 rw [Zue h hl fun i y u=>rfl]
 cases l.all (ZsE row k)<;>rfl
theorem ZH7 {n k:Nat} {row:List Int} (h:RIn n row k) {l:List Int} (hl:∀y∈l,0≤y∧y.toNat<n):ZDR l row=some (l.all (ZrW row)):=by
 unfold ZDR
 rw [Zs2 h hl fun i y u=>rfl]
 cases l.all (ZrW row)<;>rfl
/- the program's rounds -/
theorem ZsU {n:Nat} {L:List Int} {ρ:Type} {body:List Int × Int × Int→Option ((List Int × Int × Int) ⊕ ρ)} {r:ρ} (hv:∀i,0≤lvN L i∧lvN L i≤((n:Nat):Int))
  (h1:∀k row u,k<n→row.length=n→body (row,((k:Nat):Int),u)=some (.inl (row.set k (-1),((k+1:Nat):Int),mx u (lvN L k))))
  (h2:∀u,0≤u→u≤((n:Nat):Int)→(∀i,i<n→lvN L i≤u)→body (AE n (-1),((n:Nat):Int),u)=some (.inr r)):
  ∀m k row u,k+m=n→row.length=n→(∀i,i<k→row[i]?=some (-1))→0≤u→u≤((n:Nat):Int)→(∀i,i<k→lvN L i≤u)→iter body (row,((k:Nat):Int),u)=some r:=by
 intro m
 induction m with
 | zero=>
  intro k row u hk hl hr h0 hu hm
  obtain rfl:k=n:=by omega
  have:row=AE k (-1):=by
   apply Al
   intro i
   by_cases hi:i<k
   ·rw [hr i hi];simp [hi]
   ·rw [AY (by omega),AY (by simp;omega)]
  rw [this]
  exact YG (h2 u h0 hu hm)
 | succ m ih=>
  intro k row u hk hl hr h0 hu hm
  rw [YU (h1 k row u (by omega) hl)]
  have hx:=ZvW u (lvN L k)
  refine ih (k+1) _ _ (by omega) (by simp [hl]) (fun i hi=>?_) (by omega) (ZvU hu (hv k).2) fun i hi=>?_
  ·rw [List.getElem?_set]
   by_cases e:k=i
   ·rw [if_pos e,if_pos (by omega)]
   ·rw [if_neg e];exact hr i (by omega)
  ·by_cases e:i=k
   ·rw [e];exact hx.2
   ·exact Int.le_trans (hm i (by omega)) hx.1
theorem Zvf {b:Zu} (h:ZdS b) {t:Nat} (ht:∀i,i<b.nodes.toNat→lvN (lvB b) i≤((t:Nat):Int)):(QM b.reasons (lvB b) b.nodes.toNat (AC 0 (t+1)) (AE b.nodes.toNat (-1),0)).1=rdB b:=by
 unfold rdB
 rw [←Am,Zps (a:=t+1) (b:=b.nodes.toNat)]
 ·intro r mr
  have:=ht r.for_.toNat (h.ok r mr).1.2
  omega
 ·intro r mr
  have:=(h.lv.2 r.for_.toNat).2
  have:=(h.ok r mr).1.2
  omega
theorem Zsu {ρ:Type} {n k:Nat} {row:List Int} (hl:row.length=n) {l:List Int} (hx:∀x∈l,0≤x∧x.toNat<n) {fin:List Int→Option ρ} {body:Nat→Int→List Int→Option (List Int ⊕ ρ)}
  (hb:∀i x s,body i x s=chk (0≤x∧x<((s.length:Nat):Int)) ((s[A3 x]?).bind fun _=>some (.inl (List.set s (A3 x) ((k:Nat):Int))))):forL body fin l 0 row=fin (ZjJ row l ((k:Nat):Int)):=by
 rw [XE (f:=fun s x=>s.set x.toNat ((k:Nat):Int)) (fun _ s=>s.length=n) hl]
 ·rfl
 ·intro j x s mx _ _ hs
  obtain ⟨x0,x1⟩:=hx x mx
  refine ⟨?_,by simp [hs]⟩
  rw [hb,Zi _ ⟨x0,by omega⟩,A7 (show x.toNat<s.length by omega),A0]
theorem Zr2 {n:Nat} {R:List Zg} (hR:∀r∈R,OkN n r) {L:List Int} {s:Int} {row:List Int} {k:Nat}:∀x∈Q2 R L s row k,0≤x∧x.toNat<n:=fun x mx=>by
 obtain ⟨r,mr,rfl,_⟩:=ZiD.1 mx
 exact (hR r mr).1
theorem Zln {b:Zu} (h:ZdS b) {ρ:Type} {row:List Int} {k s:Nat} (hI:RIn b.nodes.toNat row k) {fin:List Int→Option ρ} {body:Nat→Zg→List Int→Option (List Int ⊕ ρ)}
  (hb:∀i r acc,body i r acc=chk (0≤r.for_∧r.for_<(((lvB b).length:Nat):Int)) (((lvB b)[(A3 r.for_)]?).bind fun x111=>
         if (x111==((s:Nat):Int))=true then
          chk (r.for_<((row.length:Nat):Int)) <|
          (row[(A3 r.for_)]?).bind fun x112=>
          if (decide (x112<0))=true then
           (Zas r row ((k:Nat):Int)).bind fun v113=>
           if v113=true then
            chk (acc.length+1≤1073741824) <|
            some (.inl (acc++[r.for_]))
           else
            some (.inl acc)
          else
           some (.inl acc)
         else
          some (.inl acc))):forL body fin b.reasons 0 []=fin (Q2 b.reasons (lvB b) ((s:Nat):Int) row k):=by
 have hLl:=h.lv.1.len
 have h60:=h.len
 rw [Yk (g:=fun r=>if lvN (lvB b) r.for_.toNat=((s:Nat):Int)∧rdN row r.for_<0∧Zmr row k r then some r.for_ else none)]
 ·rfl
 ·intro j r acc mr ha
  simp only[An,AL] at ha
  have hok:=h.ok r mr
  obtain ⟨f0,f1⟩:=hok.1
  rw [hb,Zi _ ⟨f0,by omega⟩,ZoC (by omega),A0]
  by_cases c1:lvN (lvB b) r.for_.toNat=((s:Nat):Int)
  ·rw [if_pos (by simpa using c1),Zi _ (by rw [hI.len];omega),(ZsS hI f0 f1).2,A0]
   by_cases c2:rdN row r.for_<0
   ·rw [if_pos (decide_eq_true c2),ZnH hI hok,A0]
    by_cases c3:Zmr row k r
    ·rw [if_pos (decide_eq_true c3),Zi _ (by omega),if_pos ⟨c1,c2,c3⟩];rfl
    ·rw [if_neg (by simpa using c3),if_neg fun hh=>c3 hh.2.2];simp
   ·rw [if_neg (by simpa using c2),if_neg fun hh=>c2 hh.2.1];simp
  ·rw [if_neg (by simpa using c1),if_neg fun hh=>c1 hh.1];simp
theorem ZrH {b:Zu} (h:ZdS b):ZfP b=some (rdB b):=by
 obtain ⟨hL,hv⟩:=h.lv
 have h0:=h.n0
 have h1:=h.n1
 have h60:=h.len
 unfold ZfP
 rw [Zry h,A0,Zi _ ⟨h0,by omega⟩]
 have hv':∀i,0≤lvN (lvB b) i∧lvN (lvB b) i≤((b.nodes.toNat:Nat):Int):=fun i=>by have:=hv i;omega
 refine ZsU (n:=b.nodes.toNat) (L:=lvB b) hv' ?_ ?_ b.nodes.toNat 0 _ 0 (by omega) (by simp) (fun i hi=>by omega) (AZ _) (by omega) (fun i hi=>by omega)
 ·intro k row u hk hl
  have ht:decide (((k:Nat):Int)<((b.nodes.toNat:Nat):Int))=true:=decide_eq_true (by omega)
  simp only[ht,if_true,AA]
  have:=hL.len
  rw [Zi _ ⟨by omega,by omega⟩,A7 (show k<row.length by omega),A0,Zi _ (by omega),ZoC (by omega),A0,ZsY (by omega)]
  rfl
 ·intro u u0 un um
  simp only[Zz,AD,if_false]
  obtain ⟨t,rfl⟩:∃t:Nat,u=((t:Nat):Int):=⟨u.toNat,by omega⟩
  rw [←Zvf h um]
  refine ZoQ (top:=t) h.ok (fun row k s=>(row,((k:Nat):Int),((s:Nat):Int))) (fun row=>Sum.inr row) ?_ ?_ ?_ (t+1) 0 _ 0 (by omega) (Zl5 _)
  ·intro row k s hI hs hc
   have ht:decide (((s:Nat):Int)≤((t:Nat):Int))=true:=decide_eq_true (by omega)
   simp only[ht,if_true]
   rw [Zln h hI fun i r acc=>rfl]
   have hl0:((((Q2 b.reasons (lvB b) ((s:Nat):Int) row k).length:Nat):Int)==0)=false:=by
    have:(Q2 b.reasons (lvB b) ((s:Nat):Int) row k).length≠0:=fun e=>hc (AM e)
    simpa using this
   simp only[hl0,AD,if_false]
   rw [Zsu hI.len (Zr2 h.ok) fun i x s=>rfl,ZsY (by have:=hI.few;omega)]
  ·intro row k s hI hs hc
   have ht:decide (((s:Nat):Int)≤((t:Nat):Int))=true:=decide_eq_true (by omega)
   simp only[ht,if_true]
   rw [Zln h hI fun i r acc=>rfl,hc,ZsY (by omega)]
   rfl
  ·intro row k hI
   have hf:decide (((t+1:Nat):Int)≤((t:Nat):Int))=false:=decide_eq_false (by omega)
   simp only[hf,AD,if_false]
/- the reference's rounds -/
noncomputable def ZFA (n:Nat) (R:List Zg) (L:List Int) (s:Int) (row:List Int) (k x:Nat):Option Int:=if lvN L x=s∧rdN row ((x:Nat):Int)<0∧R.any (fun r=>decide (r.for_=((x:Nat):Int)∧Zmr row k r))=true then some ((x:Nat):Int) else none
theorem ZGx {n:Nat} {R:List Zg} (hR:∀r∈R,OkN n r) {L:List Int} {s:Int} {row:List Int} {k:Nat} {x:Int}:x∈(AC 0 n).filterMap (ZFA n R L s row k)↔x∈Q2 R L s row k:=by
 rw [ZiD,Aa]
 constructor
 ·rintro ⟨i,mi,hi⟩
  unfold ZFA at hi
  split at hi
  ·rename_i hc
   obtain rfl:=AI hi
   obtain ⟨h1,h2,h3⟩:=hc
   obtain ⟨r,mr,hr⟩:=Ao.1 h3
   rw [decide_eq_true_iff] at hr
   exact ⟨r,mr,hr.1,by simpa using h1,h2,hr.2⟩
  ·simp at hi
 ·rintro ⟨r,mr,rfl,h1,h2,h3⟩
  obtain ⟨f0,f1⟩:=(hR r mr).1
  have e:((r.for_.toNat:Nat):Int)=r.for_:=Int.toNat_of_nonneg f0
  refine ⟨r.for_.toNat,List.mem_range'.2 ⟨r.for_.toNat,f1,by omega⟩,?_⟩
  unfold ZFA
  rw [if_pos ⟨h1,by rw [e];exact h2,Ao.2 ⟨r,mr,by rw [decide_eq_true_iff,e];exact ⟨rfl,h3⟩⟩⟩,e]
theorem ZFM {b:Zu} (h:ZdS b) {row:List Int} {k s:Nat} (hI:RIn b.nodes.toNat row k):ZD5 b (lvB b) ((s:Nat):Int) row ((k:Nat):Int)=some ((AC 0 b.nodes.toNat).filterMap (ZFA b.nodes.toNat b.reasons (lvB b) ((s:Nat):Int) row k)):=by
 obtain ⟨hL,hv⟩:=h.lv
 have h0:=h.n0
 have h1:=h.n1
 unfold ZD5
 have walk:∀(body:List Int × Int→Option ((List Int × Int) ⊕ List Int)) (G:Nat→Option Int),(∀acc (i:Nat),i<b.nodes.toNat→acc.length≤24→body (acc,((i:Nat):Int))=some (.inl (acc++(G i).toList,((i+1:Nat):Int))))→(∀acc,body (acc,((b.nodes.toNat:Nat):Int))=some (.inr acc))→
   ∀d i acc,i+d=b.nodes.toNat→acc.length≤i→iter body (acc,((i:Nat):Int))=some (acc++(AC i d).filterMap G):=by
  intro body G b1 b2 d
  induction d with
  | zero=>
   intro i acc hi ha
   obtain rfl:i=b.nodes.toNat:=by omega
   rw [YG (b2 acc)]
   simp
  | succ d ih=>
   intro i acc hi ha
   rw [YU (b1 acc i (by omega) (by omega)),ih (i+1) _ (by omega) (by rw [AQ];cases G i<;>simp<;>omega),List.range'_succ,List.filterMap_cons]
   cases G i<;>simp
 refine walk _ (ZFA b.nodes.toNat b.reasons (lvB b) ((s:Nat):Int) row k) ?_ ?_ b.nodes.toNat 0 [] (by omega) (by simp)
 ·intro acc i hi ha
  have ht:decide (((i:Nat):Int)<b.nodes)=true:=decide_eq_true (by omega)
  have hLl:=hL.len
  have e1:atI (lvB b) ((i:Nat):Int)=some (lvN (lvB b) i):=by rw [Zby];exact ZoC (by omega)
  have e2:=(ZsS hI (y:=((i:Nat):Int)) (by omega) (by simpa using hi)).1
  simp only[ht,if_true]
  rw [e1,A0,e2,ZsY (by omega)]
  unfold ZFA
  by_cases c1:lvN (lvB b) i=((s:Nat):Int)
  ·have d1:(lvN (lvB b) i != ((s:Nat):Int))=false:=by simp [c1]
   simp only[d1,AD,if_false,A0]
   by_cases c2:rdN row ((i:Nat):Int)<0
   ·have d2:decide (0≤rdN row ((i:Nat):Int))=false:=decide_eq_false (by omega)
    simp only[d2,AD,if_false]
    rw [Zc7 (p:=fun r=>decide (r.for_=((i:Nat):Int)∧Zmr row k r)) (r:=.inl (acc++[((i:Nat):Int)],((i+1:Nat):Int)))]
    ·by_cases c3:b.reasons.any (fun r=>decide (r.for_=((i:Nat):Int)∧Zmr row k r))=true
     ·rw [if_pos c3,if_pos ⟨c1,c2,c3⟩];rfl
     ·rw [if_neg c3,if_neg fun hh=>c3 hh.2.2];simp
    ·intro j r mr
     obtain ⟨f1,f2,f3⟩:=h.ok r mr
     by_cases c3:r.for_=((i:Nat):Int)
     ·rw [if_pos (by simpa using c3),ZGR hI f2,A0]
      by_cases c4:r.inn.all (ZsE row k)=true
      ·rw [if_pos c4,ZH7 hI f3,A0]
       by_cases c5:r.outs.all (ZrW row)=true
       ·rw [if_pos c5,Zi _ (by omega),decide_eq_true ⟨c3,Zll.1 ⟨c4,c5⟩⟩];rfl
       ·rw [if_neg c5,decide_eq_false fun hh=>c5 (Zll.2 hh.2).2];rfl
      ·rw [if_neg c4,decide_eq_false fun hh=>c4 (Zll.2 hh.2).1];rfl
     ·rw [if_neg (by simpa using c3),decide_eq_false fun hh=>c3 hh.1];rfl
   ·have d2:decide (0≤rdN row ((i:Nat):Int))=true:=decide_eq_true (by omega)
    simp only[d2,if_true]
    rw [if_neg fun hh=>c2 hh.2.1];simp
  ·have d1:(lvN (lvB b) i != ((s:Nat):Int))=true:=by simp [c1]
   simp only[d1,if_true]
   rw [if_neg fun hh=>c1 hh.1];simp
 ·intro acc
  have hf:decide (((b.nodes.toNat:Nat):Int)<b.nodes)=false:=decide_eq_false (by omega)
  simp only[hf,AD,if_false]
theorem ZFN {b:Zu} (h:ZdS b):ZD6 b=some (rdB b):=by
 have h0:=h.n0
 have h1:=h.n1
 unfold ZD6
 rw [ZEI h,A0,if_pos rfl,ZHj h,A0]
 have walk:∀(body:List Int × Int→Option ((List Int × Int) ⊕ List Int)),(∀(i:Nat),i<b.nodes.toNat→body (AE i (-1),((i:Nat):Int))=some (.inl (AE i (-1)++[-1],((i+1:Nat):Int))))→body (AE b.nodes.toNat (-1),((b.nodes.toNat:Nat):Int))=some (.inr (rdB b))→
   ∀d i,i+d=b.nodes.toNat→iter body (AE i (-1),((i:Nat):Int))=some (rdB b):=by
  intro body b1 b2 d
  induction d with
  | zero=>
   intro i hi
   obtain rfl:i=b.nodes.toNat:=by omega
   exact YG b2
  | succ d ih=>
   intro i hi
   rw [YU (b1 i (by omega)),←ih (i+1) (by omega),List.replicate_succ']
 refine walk _ ?_ ?_ b.nodes.toNat 0 (by omega)
 ·intro i hi
  have ht:decide (((i:Nat):Int)<b.nodes)=true:=decide_eq_true (by omega)
  simp only[ht,if_true]
  rw [Zi _ (by simp;omega),ZsY (by omega)]
 ·have hf:decide (((b.nodes.toNat:Nat):Int)<b.nodes)=false:=decide_eq_false (by omega)
  simp only[hf,AD,if_false]
  have walk2:∀(body:List Int × Int × Int→Option ((List Int × Int × Int) ⊕ ((List Int × Int) ⊕ List Int))),(∀row (k s:Nat),RIn b.nodes.toNat row k→s<b.nodes.toNat→body (row,((k:Nat):Int),((s:Nat):Int))=some (.inl ((Zbr b.reasons (lvB b) ((s:Nat):Int) b.nodes.toNat row k).1,(((Zbr b.reasons (lvB b) ((s:Nat):Int) b.nodes.toNat row k).2:Nat):Int),((s+1:Nat):Int))))→(∀row (k:Nat),body (row,((k:Nat):Int),((b.nodes.toNat:Nat):Int))=some (.inr (.inr row)))→
    ∀d s row k,s+d=b.nodes.toNat→RIn b.nodes.toNat row k→iter body (row,((k:Nat):Int),((s:Nat):Int))=some (.inr (QM b.reasons (lvB b) b.nodes.toNat (AC s d) (row,k)).1):=by
   intro body b1 b2 d
   induction d with
   | zero=>
    intro s row k hs hI
    obtain rfl:s=b.nodes.toNat:=by omega
    exact YG (b2 row k)
   | succ d ih=>
    intro s row k hs hI
    rw [YU (b1 row k s hI (by omega))]
    exact ih (s+1) _ _ (by omega) (Zhk h.ok b.nodes.toNat row k hI (by have:=hI.few;omega)).1
  have e:rdB b=(QM b.reasons (lvB b) b.nodes.toNat (AC 0 b.nodes.toNat) (AE b.nodes.toNat (-1),0)).1:=by unfold rdB;rw [Am]
  rw [e]
  refine walk2 _ ?_ ?_ b.nodes.toNat 0 _ 0 (by omega) (Zl5 _)
  ·intro row k s hI hs
   have ht:decide (((s:Nat):Int)<b.nodes)=true:=decide_eq_true (by omega)
   simp only[ht,if_true]
   rw [ZFM h hI,A0,ZsY (by omega)]
   refine ZHT (s:=((s:Nat):Int)) h.ok (fun row k l=>(row,l,((k:Nat):Int))) (fun row k=>Sum.inl (row,((k:Nat):Int),((s+1:Nat):Int))) (fun row k=>(AC 0 b.nodes.toNat).filterMap (ZFA b.nodes.toNat b.reasons (lvB b) ((s:Nat):Int) row k)) (fun row k x _=>ZGx h.ok) ?_ ?_ b.nodes.toNat row k hI (by have:=hI.few;omega)
   ·intro row k hI hc hN
    have hlt:decide (0<((((AC 0 b.nodes.toNat).filterMap (ZFA b.nodes.toNat b.reasons (lvB b) ((s:Nat):Int) row k)).length:Nat):Int))=true:=by
     have:((AC 0 b.nodes.toNat).filterMap (ZFA b.nodes.toNat b.reasons (lvB b) ((s:Nat):Int) row k)).length≠0:=fun e=>hc (AM e)
     exact decide_eq_true (by omega)
    simp only[hlt,if_true]
    rw [Zsu hI.len (fun x mx=>Zr2 h.ok x (ZGx h.ok |>.1 mx)) fun i x s=>rfl,ZsY (by have:=hI.few;omega),ZFM h hN,A0]
   ·intro row k hI
    rfl
  ·intro row k
   simp only[hf,AD,if_false]
end
section
open Classical
theorem Zn7 {ρ:Type} {l:List Int} (hl:l.length≤1000) {fin:List Bool→Option ρ} {body:Nat→Int→List Bool→Option (List Bool ⊕ ρ)} (hb:∀i x s,body i x s=chk (s.length+1≤1073741824) (some (.inl (s++[decide (0≤x)])))):forL body fin l 0 []=fin (l.map fun x=>decide (0≤x)):=by
 rw [Zk3 (g:=fun x=>decide (0≤x))]
 ·rfl
 ·intro j x s _ hs
  simp at hs
  rw [hb,Zi _ (by omega)]
theorem ZmN {b:Zu} (h:ZdS b):ZdW b=some ((rdB b).map fun x=>decide (0≤x)):=by
 unfold ZdW
 have:=h.n1
 rw [ZrH h,A0,Zn7 (by rw [h.rd];omega) fun i x s=>rfl]
theorem ZJz {b:Zu} (h:ZdS b):ZIN b=some ((rdB b).map fun x=>decide (0≤x)):=by
 unfold ZIN
 have:=h.n1
 rw [ZFN h,A0,Zn7 (by rw [h.rd];omega) fun i x s=>rfl]
theorem Zkm {ρ:Type} {fin:List Zd→Option ρ} {body:Nat→Bool→List Zd→Option (List Zd ⊕ ρ)} {F:List Zd} (hF:∀f∈F,f.args.length≤1048576) (hl:F.length≤1000)
  (hb:∀i x s,body i x s=if x=true then (atI F ((i:Nat):Int)).bind fun f=>(Yl f).bind fun g=>chk (s.length+1≤1073741824) (some (.inl (s++[g]))) else some (.inl s)):
  ∀(rest:List Zd) (l:List Int) (pre acc:List Zd),F=pre++rest→l.length=rest.length→acc.length≤pre.length→forL body fin (l.map fun x=>decide (0≤x)) pre.length acc=fin (acc++YT rest l)
 | [],[],pre,acc,_,_,_=>by simp [forL,YT]
 | [],_::_,_,_,_,e,_=>by simp at e
 | _::_,[],_,_,_,e,_=>by simp at e
 | f::rest,v::l,pre,acc,e,el,ha=>by
  have hf:F[pre.length]?=some f:=by rw [e];simp
  have hlt:=(AF.1 hf).1
  have ih:=fun acc' h'=>Zkm (fin:=fin) hF hl hb rest l (pre++[f]) acc' (by rw [e];simp) (by simpa using el) h'
  simp only[AQ,Ap] at ih
  rw [Ad]
  unfold YT
  by_cases hv:0≤v
  ·rw [ZV (s':=acc++[f]) (by
    rw [hb,if_pos (decide_eq_true hv),Zby,hf,A0,YB _ (hF f (AR hf)),A0,Zi _ (by omega)]),ih _ (by simp;omega),if_pos hv]
   simp
  ·rw [ZV (s':=acc) (by rw [hb,if_neg (by simpa using hv)]),ih _ (by omega),if_neg hv]
theorem ZJa {ρ:Type} {fin:List Zd→Option ρ} {body:Nat→Zd→List Zd→Option (List Zd ⊕ ρ)} {L:List Bool} {N:Nat} (hN:N≤1000) {z:List Zd→ρ}
  (hb:∀i x s,body i x s=if decide (((i:Nat):Int)<((L.length:Nat):Int))=true then chk (0≤((i:Nat):Int)∧((i:Nat):Int)<((L.length:Nat):Int)) ((L[i]?).bind fun v=>if v=true then (XM x).bind fun g=>chk (s.length+1≤1073741824) (some (.inl (s++[g]))) else some (.inl s)) else some (.inr (z s))):
  ∀(rest:List Zd) (l:List Int) (pre:List Bool) (acc:List Zd),(∀f∈rest,f.args.length≤1048576)→L=pre++(l.map fun x=>decide (0≤x))→l.length=rest.length→acc.length≤pre.length→pre.length+rest.length≤N→forL body fin rest pre.length acc=fin (acc++YT rest l)
 | [],[],pre,acc,_,_,_,_,_=>by simp [forL,YT]
 | [],_::_,_,_,_,_,e,_,_=>by simp at e
 | _::_,[],_,_,_,_,e,_,_=>by simp at e
 | f::rest,v::l,pre,acc,hF,e,el,ha,hn=>by
  have hf:L[pre.length]?=some (decide (0≤v)):=by rw [e];simp
  have hlt:=(AF.1 hf).1
  have ih:=fun acc' h'=>ZJa (fin:=fin) hN hb rest l (pre++[decide (0≤v)]) acc' (fun g mg=>hF g (by simp [mg])) (by rw [e];simp) (by simpa using el) h' (by simp at hn ⊢;omega)
  simp only[AQ,Ap] at ih
  simp only[AN] at hn
  have hx:∀s,body pre.length f s=if 0≤v then chk (s.length+1≤1073741824) (some (.inl (s++[f]))) else some (.inl s):=fun s=>by
   rw [hb,if_pos (decide_eq_true (by omega)),Zi _ ⟨by omega,by omega⟩,hf,A0]
   by_cases hv:0≤v
   ·rw [if_pos (decide_eq_true hv),if_pos hv,Xo _ (hF f (by simp)),A0]
   ·rw [if_neg (by simpa using hv),if_neg hv]
  unfold YT
  by_cases hv:0≤v
  ·rw [ZV (s':=acc++[f]) (by rw [hx,if_pos hv,Zi _ (by omega)]),ih _ (by simp;omega),if_pos hv]
   simp
  ·rw [ZV (s':=acc) (by rw [hx,if_neg hv]),ih _ (by omega),if_neg hv]
theorem Zo3 {b:Zu} (h:ZdS b) {F:List Zd} (hF:∀f∈F,f.args.length≤1048576) (hn:b.nodes=((F.length:Nat):Int)):ZcT F b=some (YT F (rdB b)):=by
 have h1:=h.n1
 have hr:=h.rd
 unfold ZcT
 rw [ZmN h,A0]
 exact Zkm hF (by omega) (fun i x s=>rfl) F (rdB b) [] [] rfl (by omega) (A8 _)
theorem ZJ6 {b:Zu} (h:ZdS b) {F:List Zd} (hF:∀f∈F,f.args.length≤1048576) (hn:b.nodes=((F.length:Nat):Int)):ZI0 F b=some (YT F (rdB b)):=by
 have h1:=h.n1
 have hr:=h.rd
 unfold ZI0
 rw [ZJz h,A0]
 exact ZJa (N:=F.length) (by omega) (fun i x s=>rfl) F (rdB b) [] [] hF rfl (by omega) (A8 _) (by simp)
theorem Yu.args {R:List Zf} {base F:List Zd} (h:Yu R base F):∀f∈F,f.args.length≤1048576:=fun f mf=>by
 have:=Xg (h.good.ok f mf)
 omega
structure ZKg (M:List Zd):Prop where
 len:M.length≤24
 ok:∀f∈M,YH f=true
theorem ZKB:ZKg []:=⟨by simp,by simp⟩
theorem Yu.few {R:List Zf} {base F:List Zd} (h:Yu R base F) (l:List Int):ZKg (YT F l):=by
 have h1:=h.len
 obtain ⟨k1,k2⟩:=Zms (F:=F) (l:=l)
 exact ⟨by omega,fun f mf=>h.good.ok f (k2 f mf)⟩
end
section
open Classical
theorem ZI1 {l:List Zd} (hl:l.length≤24) (ha:ZiF l) (hok:∀f∈l,YH f=true):Yw l=true:=by
 unfold Yw
 rw [A4,decide_eq_true_iff]
 refine ⟨hl,?_⟩
 have key:∀(rest pre:List Zd),l=pre++rest→Zar (ZeN l) rest pre.length=true:=by
  intro rest
  induction rest with
  | nil=>intro pre _;rfl
  | cons x rest ih=>
   intro pre e
   simp only[Zar,A4]
   refine ⟨?_,by have:=ih (pre++[x]) (by rw [e];simp);simpa using this⟩
   unfold ZeN
   rw [A4]
   refine ⟨hok x (by rw [e];simp),?_⟩
   by_cases h0:pre.length=0
   ·rw [if_pos h0]
   ·rw [if_neg h0]
    obtain ⟨q,y,rfl⟩:∃q y,pre=q++[y]:=⟨pre.dropLast,pre.getLast (by intro e2;simp [e2] at h0),(Ae _).symm⟩
    have hy:l[(q++[y]).length - 1]?=some y:=by rw [e];simp
    rw [hy,decide_eq_true_iff]
    unfold ZiF at ha
    rw [e,Af,List.pairwise_append] at ha
    have h2:=ha.2.1
    rw [Aq,List.pairwise_cons] at h2
    exact h2.1 x (by simp)
 exact key l [] rfl
theorem ZJS {a b:List Zd} (h:a.Sublist b) (hb:ZiF b):ZiF a:=List.Pairwise.sublist h hb
theorem ZiB:∀{F:List Zd} {l:List Int},(YT F l).Sublist F
 | [],l=>by simp [YT]
 | f::F,[]=>by simp [YT]
 | f::F,v::l=>by
  unfold YT
  split
  ·exact ZiB.cons_cons f
  ·exact ZiB.cons f
/- reasons, of the smaller set -/
end
section
open Classical
theorem Yu.factsM {R:List Zf} {base F:List Zd} (h:Yu R base F) (l:List Int):Yw (YT F l)=true:=
 ZI1 (h.few l).len (ZJS ZiB h.good.asc) (h.few l).ok
end
section
open Classical
def ZKd (R:List Zf) (base M:List Zd) (ok:Bool):Prop:=(ok=false∧M=[])∨(ok=true∧∃F,Yu R base F∧(YJ R F base).length≤60∧M=YT F (rdB { nodes:=((F.length:Nat):Int),reasons:=YJ R F base }))
theorem ZJt {R:List Zf} (hR:ZbC R) (base:List Zd) (hb20:base.length≤1048576):∃M ok,ZIQ R base=some (M,ok)∧Zbg R base=some (M,ok)∧ZKd R base M ok:=by
 obtain ⟨F,b,ok,h1,h2,h3⟩:=Zhb hR base hb20
 unfold ZIQ Zbg
 rw [h1,h2]
 rcases h3 with ⟨rfl,rfl,rfl⟩ | ⟨rfl,hG,rfl,h60⟩
 ·exact ⟨_,_,rfl,rfl,.inl ⟨rfl,rfl⟩⟩
 ·have hB:=ZdS.of hG h60
  refine ⟨_,true,?_,?_,.inr ⟨rfl,F,hG,h60,rfl⟩⟩
  ·rw [A0,if_pos rfl,ZJ6 hB hG.args rfl];rfl
  ·rw [A0,if_pos rfl,Zo3 hB hG.args rfl];rfl
theorem ZKd.few {R:List Zf} {base M:List Zd} {ok:Bool} (h:ZKd R base M ok):ZKg M:=by
 rcases h with ⟨_,rfl⟩ | ⟨_,F,hG,_,rfl⟩
 ·exact ZKB
 ·exact hG.few _
end
section
open Classical
def ZLo (b c:List Zp):Prop:=∀u z,Qe b u=some z→Qe c u=some z
theorem ZLo.refl (b:List Zp):ZLo b b:=fun _ _ h=>h
theorem ZLo.trans {a b c:List Zp} (h:ZLo a b) (k:ZLo b c):ZLo a c:=fun u z e=>k u z (h u z e)
theorem ZNr {b b':List Zp} {v w:ByteArray} (h:ZfJ b v w=some b'):Ye v=true∧ZP w=true:=by
 unfold ZfJ at h
 split at h
 ·rename_i hc;exact hc.2
 ·simp at h
theorem ZNG {c:List Zp} {v w:ByteArray} (hc:ZX c=true) (hv:Ye v=true) (hw:ZP w=true) (hg:Qe c v=some w):ZfJ c v w=some c:=by
 unfold ZfJ
 rw [if_pos ⟨hc,hv,hw⟩,hg]
 simp
theorem ZLp:∀{p f:List ByteArray} {b b' c:List Zp},ZX b=true→ZX c=true→ZdI p f b=some b'→ZLo b' c→ZdI p f c=some c
 | [],_,_,_,_,_,_,_,_=>rfl
 | _::_,[],_,_,_,_,_,h,_=>by simp [ZdI] at h
 | a::p,w::f,b,b',c,hb,hc,h,he=>by
  simp only[ZdI] at h ⊢
  by_cases ha:ZP a=true
  ·rw [if_pos ha] at h ⊢
   split at h
   ·rename_i e
    rw [if_pos e]
    exact ZLp hb hc h he
   ·simp at h
  ·rw [if_neg ha] at h ⊢
   obtain ⟨b1,e1,h⟩:=AB.1 h
   obtain ⟨k1,k2,k3⟩:=Zrs e1
   obtain ⟨hv,hw⟩:=ZNr e1
   obtain ⟨h1,h2,h3⟩:=ZiA k1 h
   rw [ZNG hc hv hw (he _ _ (h3 _ _ k2)),A0]
   exact ZLp k1 hc h he
theorem ZLr {p:Zv} {f:Zd} {b b' c:List Zp} (hc:ZX c=true) (h:Zan p f b=some b') (he:ZLo b' c):Zan p f c=some c:=by
 unfold Zan at h ⊢
 split at h
 ·rename_i ho
  unfold Zfh at ho ⊢
  simp only[A4] at ho
  rw [if_pos (by simp only[A4];exact ⟨⟨⟨⟨ho.1.1.1.1,ho.1.1.1.2⟩,hc⟩,ho.1.2⟩,ho.2⟩)]
  exact ZLp ho.1.1.2 hc h he
 ·simp at h
theorem ZNx {prev:Option ByteArray}:∀{b:List Zp},Yv prev b=true→(b.map (·.var)).Nodup:=by
 intro b
 induction b generalizing prev with
 | nil=>intro _;exact Ar
 | cons x r ih=>
  intro h
  simp only[Yv,A4] at h
  rw [Ad,As]
  refine ⟨fun hm=>?_,ih h.2⟩
  obtain ⟨y,my,e⟩:=AG.1 hm
  have:=(Zr3 h.2 y my).2 _ rfl
  rw [e] at this
  rw [Zhi] at this
  exact absurd this (by simp)
theorem ZNL {b:List Zp} {x:Zp} (h:x∈b):∃z,Qe b x.var=some z:=by
 cases hg:Qe b x.var with
 | some z=>exact ⟨z,rfl⟩
 | none=>exact absurd rfl (ZrD hg x h)
theorem ZNU {b c:List Zp} (hb:ZX b=true) (he:ZLo b c):b.length≤c.length∧∀v z,Qe b v=none→Qe c v=some z→b.length+1≤c.length:=by
 unfold ZX at hb
 rw [A4] at hb
 have hn:=ZNx hb.2
 have hs:∀v∈b.map (·.var),v∈c.map (·.var):=fun v mv=>by
  obtain ⟨x,mx,rfl⟩:=AG.1 mv
  obtain ⟨z,hz⟩:=ZNL mx
  obtain ⟨y,my,e,_⟩:=Zsh (he _ _ hz)
  exact AG.2 ⟨y,my,e⟩
 refine ⟨by simpa using Zcs hn hs,fun v z h1 h2=>?_⟩
 have:(v::b.map (·.var)).Nodup:=by
  rw [As]
  refine ⟨fun hm=>?_,hn⟩
  obtain ⟨x,mx,e⟩:=AG.1 hm
  exact ZrD h1 x mx e
 have:=Zcs this (m:=c.map (·.var)) fun u mu=>by
  rcases AS.1 mu with rfl | mu
  ·obtain ⟨y,my,e,_⟩:=Zsh h2
   exact AG.2 ⟨y,my,e⟩
  ·exact hs u mu
 simpa using this
theorem ZNz {b c c1:List Zp} {v w:ByteArray} (hb:ZX b=true) (hc:ZX c=true) (he:ZLo b c) (h:ZfJ c v w=some c1):∃b1,ZfJ b v w=some b1∧ZLo b1 c1:=by
 obtain ⟨k1,k2,k3⟩:=Zrs h
 obtain ⟨hv,hw⟩:=ZNr h
 obtain ⟨l1,l2⟩:=ZNU hb he
 have hc6:c.length≤6:=by
  unfold ZX at hc
  rw [A4,decide_eq_true_iff] at hc
  exact hc.1
 unfold ZfJ
 rw [if_pos ⟨hb,hv,hw⟩]
 cases hg:Qe b v with
 | some old=>
  have:old=w:=by
   have h1:=k3 _ _ (he _ _ hg)
   rw [k2] at h1
   exact (AI h1).symm
  subst this
  simp only[if_true]
  exact ⟨b,rfl,he.trans k3⟩
 | none=>
  simp only
  by_cases h6:b.length=6
  ·exfalso
   cases hgc:Qe c v with
   | some z=>have:=l2 v z hg hgc;omega
   | none=>
    unfold ZfJ at h
    rw [if_pos ⟨hc,hv,hw⟩,hgc] at h
    simp only at h
    rw [if_pos (by omega)] at h
    simp at h
  ·rw [if_neg h6]
   refine ⟨_,rfl,fun u z hu=>?_⟩
   rw [Zip hg] at hu
   split at hu
   ·rename_i e
    subst e
    rw [k2];exact hu
   ·exact k3 _ _ (he _ _ hu)
theorem ZLE:∀{p f:List ByteArray} {b c c':List Zp},ZX b=true→ZX c=true→ZLo b c→ZdI p f c=some c'→∃b',ZdI p f b=some b'
 | [],_,b,_,_,_,_,_,_=>⟨b,rfl⟩
 | _::_,[],_,_,_,_,_,_,h=>by simp [ZdI] at h
 | a::p,w::f,b,c,c',hb,hc,he,h=>by
  simp only[ZdI] at h ⊢
  by_cases ha:ZP a=true
  ·rw [if_pos ha] at h ⊢
   split at h
   ·rename_i e
    rw [if_pos e]
    exact ZLE hb hc he h
   ·simp at h
  ·rw [if_neg ha] at h ⊢
   obtain ⟨c1,e1,h⟩:=AB.1 h
   obtain ⟨b1,e2,he1⟩:=ZNz hb hc he e1
   rw [e2,A0]
   exact ZLE (Zrs e2).1 (Zrs e1).1 he1 h
theorem ZM8 {p:Zv} {f:Zd} {b c:List Zp} (hb:ZX b=true) (hc:ZX c=true) (he:ZLo b c) (h:(Zan p f c).isSome=true):(Zan p f b).isSome=true:=by
 unfold Zan at h ⊢
 split at h
 ·rename_i ho
  unfold Zfh at ho ⊢
  simp only[A4] at ho
  rw [if_pos (by simp only[A4];exact ⟨⟨⟨⟨ho.1.1.1.1,ho.1.1.1.2⟩,hb⟩,ho.1.2⟩,ho.2⟩)]
  obtain ⟨c',e⟩:=At.1 h
  obtain ⟨b',e'⟩:=ZLE hb hc he e
  rw [e'];rfl
 ·simp at h
theorem ZMr {b c:List Zp} (he:ZLo b c) {t v:ByteArray} (h:Xx b t=some v):Xx c t=some v:=by
 unfold Xx at h ⊢
 split
 ·rename_i ha
  rw [if_pos ha] at h;exact h
 ·rename_i ha
  rw [if_neg ha] at h
  split
  ·rename_i hv
   rw [if_pos hv] at h
   exact he _ _ h
  ·rename_i hv
   rw [if_neg hv] at h
   exact h
def ZLw (M:List Zd) (x:Zr) (b:List Zp):Prop:=if x.kind=1 then ∃f∈M,∃b0 b',Zan x.pattern f b0=some b'∧ZLo b' b else ZfV x b M=true
theorem ZLw.more {M:List Zd} {x:Zr} {b c:List Zp} (hb:ZX b=true) (hc:ZX c=true) (he:ZLo b c) (h:ZLw M x b):ZLw M x c:=by
 unfold ZLw at h ⊢
 by_cases h1:x.kind=1
 ·rw [if_pos h1] at h ⊢
  obtain ⟨f,mf,b0,b',e,k⟩:=h
  exact ⟨f,mf,b0,b',e,k.trans he⟩
 ·rw [if_neg h1] at h ⊢
  unfold ZfV at h ⊢
  split at h
  ·rename_i hk
   rw [if_pos ⟨hk.1,hc⟩,if_neg h1]
   by_cases h2:x.kind=2
   ·rw [if_pos h2] at h ⊢
    rw [decide_eq_true_iff] at h ⊢
    have h0:=AM h
    rw [List.length_eq_zero_iff]
    unfold Zcu at h0 ⊢
    rw [List.filter_eq_nil_iff] at h0 ⊢
    exact fun f mf hs=>h0 f mf (ZM8 hb hc he hs)
   ·rw [if_neg h2] at h ⊢
    unfold Zj0 at h ⊢
    split at h
    ·rename_i hq
     rw [if_pos ⟨hq.1,hq.2.1,hc⟩]
     revert h
     cases h3:Xx b x.left with
     | none=>intro h;simp at h
     | some l=>
      cases h4:Xx b x.right with
      | none=>intro h;simp at h
      | some r=>
       intro h
       rw [ZMr he h3,ZMr he h4]
       exact h
    ·simp at h
  ·simp at h
theorem ZMY {M:List Zd}:∀n (l:List Zr),l.length=n→∀t∈ZM l M,∀x∈l,ZLw M x t.binding:=by
 intro n
 induction n with
 | zero=>intro l h t mt x mx;rw [AM h] at mx;simp at mx
 | succ n ih=>
  intro l h t mt x mx
  obtain ⟨p,y,rfl⟩:∃p y,l=p++[y]:=⟨l.dropLast,l.getLast (by intro e;simp [e] at h),(Ae _).symm⟩
  have ht:=(Zec M _ t mt).bind
  rw [ZaR] at mt
  obtain ⟨s,ms,mt⟩:=List.mem_flatMap.1 mt
  have hs:=(Zec M _ s ms).bind
  unfold ZgR at mt
  by_cases hk:y.kind=1
  ·rw [if_pos hk] at mt
   obtain ⟨f,mf,ef⟩:=Aa.1 mt
   obtain ⟨b,eb,rfl⟩:=A9.1 ef
   rcases A5.1 mx with mx | mx
   ·exact (ih p (by simpa using h) s ms x mx).more hs ht (Zr5 eb).2.2
   ·simp at mx
    subst mx
    unfold ZLw
    rw [if_pos hk]
    exact ⟨f,mf,_,b,eb,ZLo.refl _⟩
  ·rw [if_neg hk] at mt
   split at mt
   ·rename_i hh
    simp only[List.mem_singleton] at mt
    subst mt
    rcases A5.1 mx with mx | mx
    ·exact ih p (by simpa using h) _ ms x mx
    ·simp at mx
     subst mx
     unfold ZLw
     rw [if_neg hk]
     exact hh
   ·simp at mt
theorem ZMJ {l:List Zr} (hl:∀x∈l,Yz x=true) {M:List Zd} {t:Zt} (mt:t∈ZM l M):∀x∈l,ZfV x t.binding M=true:=fun x mx=>by
 have h:=ZMY _ l rfl t mt x mx
 have hb:=(Zec M _ t mt).bind
 unfold ZLw at h
 by_cases h1:x.kind=1
 ·rw [if_pos h1] at h
  obtain ⟨f,mf,b0,b',e,k⟩:=h
  unfold ZfV
  rw [if_pos ⟨hl x mx,hb⟩,if_pos h1,decide_eq_true_iff]
  have:f∈Zcu x.pattern t.binding M:=Ab.2 ⟨mf,by rw [ZLr hb e k];rfl⟩
  exact List.length_pos_of_mem this
 ·rw [if_neg h1] at h
  exact h
theorem ZNc {p:Zv} {f g:Zd} {b:List Zp} (hf:Zan p f []=some b) (hg:Zan p g []=some b):f=g:=by
 have hb:=(Zr5 hf).1
 have ok:∀{f:Zd},Zan p f []=some b→Z0 p=true∧YH f=true:=fun {f} h=>by
  unfold Zan at h
  split at h
  ·rename_i ho
   unfold Zfh at ho
   simp only[A4] at ho
   exact ⟨ho.1.1.1.1,ho.1.1.1.2⟩
  ·simp at h
 have h1:=(ZI5 (ok hf).1 hb (Zr5 hf).2.1 (ok hf).2).1 (by rw [ZLr hb hf (ZLo.refl _)];rfl)
 have h2:=(ZI5 (ok hg).1 hb (Zr5 hg).2.1 (ok hg).2).1 (by rw [ZLr hb hg (ZLo.refl _)];rfl)
 rw [h1] at h2
 exact AI h2
end
section
open Classical
theorem ZJX {α:Type} {p:Nat→α→Bool} {b:List α} (hp:∀i x,p i x=true↔b[i]?=some x):∀(a:List α),a.length=b.length→(Zar p a 0=true↔a=b):=by
 intro a hl
 constructor
 ·intro ha
  apply Al
  intro i
  by_cases hi:i<a.length
  ·have hx:=A7 hi
   have:=ZnB ha i _ hx
   rw [AL,hp] at this
   rw [hx,this]
  ·rw [AY (by omega),AY (by omega)]
 ·rintro rfl
  have:∀(l pre:List α),a=pre++l→Zar p l pre.length=true:=by
   intro l
   induction l with
   | nil=>intro pre _;rfl
   | cons x l ih=>
    intro pre e
    simp only[Zar,A4]
    refine ⟨(hp _ _).2 (by rw [e];simp),?_⟩
    have:=ih (pre++[x]) (by rw [e];simp)
    simpa using this
  exact this a [] rfl
noncomputable def givesB (t:Zt) (f:Zd) (a:Zx):Bool:=(Zce (Zba a.pattern t.binding)).2&&decide ((Zce (Zba a.pattern t.binding)).1=f)
end
section
open Classical
theorem ZMB (x y:Zp):(sEq x.var y.var&&sEq x.value y.value)=true↔x=y:=by
 rw [A4,ZN,ZN]
 cases x
 cases y
 simp
theorem ZLi (a b:List Zp):ZK4 a b=some (decide (a=b)):=by
 unfold ZK4
 by_cases h:a.length=b.length
 ·rw [if_neg (by simp;omega),Xh (p:=fun i x=>decide (b[i]?=some x)) (r:=false)]
  ·have:=ZJX (p:=fun i x=>decide (b[i]?=some x)) (b:=b) (fun i x=>by rw [decide_eq_true_iff]) a h
   by_cases e:a=b
   ·rw [if_pos (this.2 e),decide_eq_true e]
   ·rw [if_neg fun hh=>e (this.1 hh),decide_eq_false e]
  ·intro j x hx
   have hj:=(AF.1 hx).1
   have hb:b[j]?=some b[j]:=A7 (by omega)
   rw [AL,Zby,hb,A0]
   by_cases he:x=b[j]
   ·rw [if_pos ((ZMB _ _).2 he),decide_eq_true (by rw [he])];rfl
   ·rw [if_neg (fun hh=>he ((ZMB _ _).1 hh)),decide_eq_false fun e=>he (AI e).symm];rfl
 ·rw [if_pos (by simp;omega),decide_eq_false (fun e=>h (by rw [e]))]
theorem ZLN (a b:List Zp):ZLt a b=some (decide (a=b)):=ZLi a b
noncomputable def ZNu (out:List (List Zp)) (b:List Zp):List (List Zp):=if b∈out then out else out++[b]
noncomputable def ZKE (ts:List Zt):List (List Zp):=ts.foldl (fun out t=>ZNu out t.binding) []
theorem ZLK (p:List Zt) (t:Zt):ZKE (p++[t])=ZNu (ZKE p) t.binding:=by unfold ZKE;rw [List.foldl_append];rfl
theorem ZNV {α:Type} {P:List α→Prop} (h0:P []) (h:∀p x,P p→P (p++[x])) (l:List α):P l:=by
 have:∀n (l:List α),l.length=n→P l:=by
  intro n
  induction n with
  | zero=>intro l hl;rw [AM hl];exact h0
  | succ n ih=>
   intro l hl
   obtain ⟨p,x,rfl⟩:∃p x,l=p++[x]:=⟨l.dropLast,l.getLast (by intro e;simp [e] at hl),(Ae _).symm⟩
   exact h p x (ih p (by simpa using hl))
 exact this _ l rfl
theorem ZLA (ts:List Zt):(ZKE ts).length≤ts.length∧(ZKE ts).Nodup∧∀b,b∈ZKE ts↔∃t∈ts,t.binding=b:=
 ZNV (P:=fun ts=>(ZKE ts).length≤ts.length∧(ZKE ts).Nodup∧∀b,b∈ZKE ts↔∃t∈ts,t.binding=b) ⟨A8 _,Ar,by simp [ZKE]⟩ (fun p x ⟨h1,h2,h3⟩=>by
  rw [ZLK]
  unfold ZNu
  by_cases hm:x.binding∈ZKE p
  ·rw [if_pos hm]
   refine ⟨by simp;omega,h2,fun b=>?_⟩
   rw [h3]
   constructor
   ·rintro ⟨t,mt,e⟩;exact ⟨t,by simp [mt],e⟩
   ·rintro ⟨t,mt,e⟩
    rcases A5.1 mt with mt | mt
    ·exact ⟨t,mt,e⟩
    ·simp at mt
     subst mt
     rw [←e]
     exact (h3 _).1 hm
  ·rw [if_neg hm]
   refine ⟨by simp;omega,?_,fun b=>?_⟩
   ·exact Au.2 ⟨h2,by simp,fun a ha c hc e=>by simp at hc;subst hc;subst e;exact hm ha⟩
   ·rw [A5,h3]
    constructor
    ·rintro (⟨t,mt,e⟩ | mb)
     ·exact ⟨t,by simp [mt],e⟩
     ·simp at mb
      exact ⟨x,by simp,mb.symm⟩
    ·rintro ⟨t,mt,e⟩
     rcases A5.1 mt with mt | mt
     ·exact .inl ⟨t,mt,e⟩
     ·simp at mt
      subst mt
      exact .inr (by simp [e])) ts
theorem ZMZ (b:List Zp):∀(l:List (List Zp)) (u:Bool),l.foldl (fun u x=>u||decide (x=b)) u=(u||decide (b∈l))
 | [],u=>by simp
 | x::l,u=>by
  rw [Ag,ZMZ b l,Bool.or_assoc]
  congr 1
  by_cases h:x=b
  ·simp [h]
  ·by_cases h2:b∈l
   ·simp [h,h2]
   ·have:¬b=x:=fun e=>h e.symm
    simp [h,h2,this]
theorem ZMR {ρ:Type} {ts:List Zt} {fin:List (List Zp)→Option ρ} {body:Nat→Zt→List (List Zp)→Option (List (List Zp) ⊕ ρ)} (hb:∀i t row,t∈ts→row.length≤ts.length→body i t row=some (.inl (ZNu row t.binding))):forL body fin ts 0 []=fin (ZKE ts):=by
 have h0:([]:List (List Zp))=ZKE []:=rfl
 rw [h0,QL ZKE ts]
 intro p t q e
 have:p.length+(q.length+1)=ts.length:=by rw [e,AQ,AN]
 rw [hb _ _ _ (by rw [e];simp) (by have:=(ZLA p).1;omega),ZLK]
theorem ZMk {ρ:Type} {row:List (List Zp)} {b:List Zp} {same:List Zp→List Zp→Option Bool} (hs:∀x,same x b=some (decide (x=b))) {fin:Bool→Option ρ}:forL (σ:=Bool) (fun (i27:Nat) (x28:List Zp) known_23=>if known_23=true then some (.inl true) else (same x28 b).bind fun v29=>some (.inl v29)) fin row 0 false=fin (decide (b∈row)):=by
 rw [Zke (f:=fun u x=>u||decide (x=b)),ZMZ]
 ·simp
 ·intro j x s _
  cases s with
  | true=>rfl
  | false=>rw [if_neg (by simp),hs,A0];simp
theorem ZNp {row:List (List Zp)} {b:List Zp}:(if decide (b∈row)=true then some (Sum.inl row) else some (Sum.inl (row++[b])):Option (List (List Zp) ⊕ (List (List Zp) × Bool)))=some (.inl (ZNu row b)):=by
 unfold ZNu
 by_cases h:b∈row
 ·rw [if_pos (decide_eq_true h),if_pos h]
 ·rw [if_neg (by simpa using h),if_neg h]
def ZNW (R:List Zf) (base:List Zd) (q:List Zr) (A:List (List Zp)) (ok:Bool):Prop:=(ok=false∧A=[]∧∀M,Zbg R base=some (M,true)→ZKH q=false)∨(ok=true∧∃M,Zbg R base=some (M,true)∧ZKg M∧ZKH q=true∧A=ZKE (ZM q M))
theorem ZK7 {q:List Zr} (h:ZKH q=true):1≤q.length∧q.length≤4∧∀x∈q,Yz x=true:=by
 unfold ZKH XX at h
 simp only[A4,decide_eq_true_eq] at h
 refine ⟨h.1.1.1.1.1.1.2,h.1.1.1.1.1.2,fun x mx=>?_⟩
 obtain ⟨j,hj,e⟩:=List.getElem_of_mem mx
 have:=ZnB h.1.1.2 j x (by show q[j]?=some x;rw [A7 hj,e])
 simp only[A4] at this
 exact this.1.1
theorem ZLJ {R:List Zf} (hR:ZbC R) (base:List Zd) (hb20:base.length≤1048576) (q:List Zr) (hq:q.length≤1048576) (hqa:∀x∈q,x.pattern.args.length≤1048576):∃A ok,ZKL R base q=some (A,ok)∧ZMm R base q=some (A,ok)∧ZNW R base q A ok:=by
 obtain ⟨M,ok,h1,h2,h3⟩:=ZJt hR base hb20
 have hfew:=h3.few
 unfold ZKL ZMm
 rw [h1,h2,ZMd q hq hqa,ZK5 q hq hqa]
 simp only[A0]
 rcases h3 with ⟨rfl,rfl⟩ | ⟨rfl,F,hG,h60,hMF⟩
 ·exact ⟨_,_,rfl,rfl,.inl ⟨rfl,rfl,fun M e=>by rw [h2] at e;simp at e⟩⟩
 ·simp only[if_true]
  cases hv:ZKH q with
  | false=>exact ⟨_,_,rfl,rfl,.inl ⟨rfl,rfl,fun _ _=>hv⟩⟩
  | true=>
   obtain ⟨_,hq4,_⟩:=ZK7 hv
   have hM24:=hfew.len
   have hMa:∀f∈M,f.args.length≤3:=fun f mf=>Xg (hfew.ok f mf)
   have hfM:=hG.factsM (rdB { nodes:=((F.length:Nat):Int),reasons:=YJ R F base })
   rw [←hMF] at hfM
   have htl:=ZeI M hM24 q hq4
   have hbl:∀t∈ZM q M,t.binding.length≤6:=fun t mt=>Qr (Zec M _ t mt).bind
   simp only[if_true]
   rw [ZgN q M hq4 hM24 hMa,ZLR q hq hqa]
   simp only[A0]
   have hT:=ZMy (ZKG ⟨#[97,115,107]⟩ q) M (ZLk hq hqa) (by omega)
   have hv2:XX (ZKG ⟨#[97,115,107]⟩ q)=true:=by rw [ZLW ZM9 ZNg];exact hv
   rw [hv2,hfM] at hT
   have hT2:ZLq (ZKG ⟨#[97,115,107]⟩ q) ((q.length:Nat):Int) M=some (ZM q M):=hT
   rw [hT2]
   simp only[A0]
   refine ⟨ZKE (ZM q M),true,?_,?_,.inr ⟨rfl,M,h2,hfew,hv,rfl⟩⟩
   ·rw [ZMR]
    intro i t row mt hrow
    rw [ZMk (b:=t.binding) (fun x=>ZLi x t.binding),Zi _ (by omega)]
    exact ZNp
   ·rw [ZMR]
    intro i t row mt hrow
    rw [ZMk (b:=t.binding) (fun x=>ZLN x t.binding)]
    have:=hbl t mt
    rw [show Zb7 t.binding=some t.binding from Zi _ (by omega),A0,Zi _ (by omega)]
    exact ZNp
end
theorem Znh (y:Int):0≤ZkD .i64 y 255∧ZkD .i64 y 255≤255:=by
 have e:ZkD .i64 y 255=(((BitVec.ofInt 64 y &&& BitVec.ofInt 64 255).toNat:Nat):Int):=by
  show IntKind.i64.wrap (((BitVec.ofInt 64 y &&& BitVec.ofInt 64 255).toNat:Nat):Int)=_
  have:=Av (n:=(BitVec.ofInt 64 y).toNat) (m:=(BitVec.ofInt 64 255).toNat)
  rw [BitVec.toNat_and]
  have h2:(BitVec.ofInt 64 255).toNat=255:=by decide
  exact Xn (by omega) (by omega)
 have:=Av (n:=(BitVec.ofInt 64 y).toNat) (m:=(BitVec.ofInt 64 255).toNat)
 rw [e,BitVec.toNat_and]
 have h2:(BitVec.ofInt 64 255).toNat=255:=by decide
 omega
structure Qb (c:ZF):Prop where
 i:0≤c.i
 b:c.b.length≤4096
theorem ZtT (code:List Int) (h:code.length≤4096):∃c,ZhL code=some c∧Qb c:=by
 unfold ZhL
 have key:∀(l:List Int) (i:Nat) (s:Int),∃c,forL (fun (i5:Nat) (x6:Int) (h_2:Int)=>
   if (decide (((i5:Nat):Int)<4000))=true then
    some (.inl (ZkD .i64 (IntKind.i64.wrap ((IntKind.i64.wrap ((IntKind.i64.wrap (h_2 * 167))+IntKind.i64.wrap x6))+29)) 1073741823))
   else
    some (.inr ({ b:=code,i:=0,h:=h_2 }:ZF))) (fun h_2=>some ({ b:=code,i:=0,h:=h_2 }:ZF)) l i s=some c∧Qb c:=by
  intro l
  induction l with
  | nil=>intro i s;exact ⟨_,rfl,AZ _,h⟩
  | cons x l ih=>
   intro i s
   cases hd:decide (((i:Nat):Int)<4000) with
   | true=>
    obtain ⟨c,h1,h2⟩:=ih (i+1) (ZkD .i64 (IntKind.i64.wrap ((IntKind.i64.wrap ((IntKind.i64.wrap (s * 167))+IntKind.i64.wrap x))+29)) 1073741823)
    exact ⟨c,by rw [ZV (by rw [hd,if_pos rfl])];exact h1,h2⟩
   | false=>exact ⟨_,by rw [Ya (by rw [hd];rfl)],AZ _,h⟩
 exact key code 0 _
theorem Zsn {c:ZF} (h:Qb c):∃x c',Zb0 c=some (x,c')∧0≤x∧x≤255∧Qb c':=by
 unfold Zb0
 cases hd:decide (c.i<((c.b.length:Nat):Int)) with
 | true=>
  have hlt:c.i<((c.b.length:Nat):Int):=by simpa using hd
  have hi:=h.i
  have hb:=h.b
  have hn:c.i.toNat<c.b.length:=by omega
  rw [if_pos rfl,show atI c.b c.i=some (c.b[c.i.toNat]) by unfold atI;rw [if_pos hi,A7 hn]]
  refine ⟨_,_,rfl,(Znh _).1,(Znh _).2,?_,hb⟩
  show 0≤IntKind.i64.wrap (c.i+1)
  rw [Xn (by omega) (by omega)]
  omega
 | false=>
  rw [if_neg (by simp)]
  exact ⟨_,_,rfl,(Znh _).1,(Znh _).2,h.i,h.b⟩
theorem ZcC {c:ZF} (h:Qb c) {n:Int} (h0:0<n) (h1:n≤256):∃x c',Xb c n=some (x,c')∧0≤x∧x<n∧Qb c':=by
 unfold Xb
 obtain ⟨x,c',e,hx,_,hc⟩:=Zsn h
 rw [if_neg (by simp;omega),if_pos (by simp;omega),e]
 refine ⟨Int.tmod x n,c',?_,Int.tmod_nonneg _ hx,Int.tmod_lt_of_pos _ h0,hc⟩
 show chk _ _=_
 rw [Zi _ (by omega)]
theorem ZL5 {c:ZF} (h:Qb c) {n:Int} (h0:0<n) (h1:n≤256):∃b c',ZK1 c n=some (b,c')∧Qb c':=by
 obtain ⟨x,c',e,_,_,hc⟩:=ZcC h h0 h1
 exact ⟨x==0,c',by unfold ZK1;rw [e];rfl,hc⟩
theorem ZK3 {c:ZF} (h:Qb c) {l:List Int} (h0:0<l.length) (h1:l.length≤256):∃x c',ZKN c l=some (x,c')∧x∈l∧Qb c':=by
 obtain ⟨x,c',e,hx,hx2,hc⟩:=ZcC h (n:=((l.length:Nat):Int)) (by omega) (by omega)
 have hn:x.toNat<l.length:=by omega
 refine ⟨l[x.toNat],c',?_,AJ _,hc⟩
 unfold ZKN
 rw [e]
 show (atI l x).bind _=_
 rw [show atI l x=some l[x.toNat] by unfold atI;rw [if_pos hx,A7 hn]]
 rfl
def Xs (p s:ByteArray):Prop:=∃a b,a≤b∧b≤s.size∧p=s.extract a b
theorem Xs.size {p s:ByteArray} (h:Xs p s):p.size≤s.size:=by
 obtain ⟨a,b,h1,h2,rfl⟩:=h
 rw [AT]
 omega
theorem ZoP (s:ByteArray) (a b:Nat):toL (s.extract a b)=((toL s).drop a).take (b - a):=by
 unfold toL
 rw [ByteArray.data_extract,Array.toList_extract,List.extract_eq_take_drop]
theorem Xs.infix {p s:ByteArray} (h:Xs p s):toL p <:+: toL s:=by
 obtain ⟨a,b,h1,h2,rfl⟩:=h
 rw [ZoP]
 refine ⟨(toL s).take a,((toL s).drop a).drop (b - a),?_⟩
 rw [Af,Aw,Aw]
theorem ZqJ {σ ρ:Type} {s sep:ByteArray} (hsep:0<sep.size) (st:List ByteArray→Nat→Nat→σ) (g:List ByteArray→ρ) {body:σ→Option (σ ⊕ ρ)}
  (h1:∀row from_ i,from_≤i→i+sep.size≤s.size→row.length≤i→body (st row from_ i)=some (.inl (if sEq (s.extract i (i+sep.size)) sep=true then st (row++[s.extract from_ i]) (i+sep.size) (i+sep.size) else st row from_ (i+1))))
  (h2:∀row from_ i,from_≤i→i≤s.size→¬i+sep.size≤s.size→row.length≤i→body (st row from_ i)=some (.inr (g (row++[s.extract from_ s.size])))):
  ∃l,iter body (st [] 0 0)=some (g l)∧l.length≤s.size+1∧∀p∈l,Xs p s:=by
 have key:∀m row from_ i,s.size - i≤m→from_≤i→i≤s.size→row.length≤i→(∀p∈row,Xs p s)→∃l,iter body (st row from_ i)=some (g l)∧l.length≤s.size+1∧∀p∈l,Xs p s:=by
  intro m
  induction m with
  | zero=>
   intro row from_ i hm hf hi hr hp
   have hn:¬i+sep.size≤s.size:=by omega
   refine ⟨_,YG (h2 row from_ i hf hi hn hr),by simp;omega,fun p mp=>?_⟩
   rcases A5.1 mp with mp | mp
   ·exact hp p mp
   ·simp at mp;subst mp;exact ⟨from_,s.size,by omega,A8 _,rfl⟩
  | succ m ih=>
   intro row from_ i hm hf hi hr hp
   by_cases hn:i+sep.size≤s.size
   ·rw [YU (h1 row from_ i hf hn hr)]
    split
    ·refine ih _ _ _ (by omega) (A8 _) hn (by simp;omega) fun p mp=>?_
     rcases A5.1 mp with mp | mp
     ·exact hp p mp
     ·simp at mp;subst mp;exact ⟨from_,i,hf,hi,rfl⟩
    ·exact ih _ _ _ (by omega) (by omega) (by omega) (by omega) hp
   ·refine ⟨_,YG (h2 row from_ i hf hi hn hr),by simp;omega,fun p mp=>?_⟩
    rcases A5.1 mp with mp | mp
    ·exact hp p mp
    ·simp at mp;subst mp;exact ⟨from_,s.size,by omega,A8 _,rfl⟩
 exact key s.size [] 0 0 (by omega) (A8 _) (Ah _) (A8 _) (by simp)
theorem Xs.ext (s:ByteArray) {a b:Nat} (h:a≤b) (hb:b≤s.size):Xs (s.extract a b) s:=⟨a,b,h,hb,rfl⟩
theorem Xs.trans {p q s:ByteArray} (h:Xs p q) (k:Xs q s):Xs p s:=by
 obtain ⟨a,b,h1,h2,rfl⟩:=h
 obtain ⟨c,d,h3,h4,rfl⟩:=k
 rw [AT] at h2
 refine ⟨c+a,c+b,by omega,by omega,?_⟩
 rw [ByteArray.extract_extract]
 congr 1
 omega
theorem Xj {s sep:ByteArray} (hs:s.size≤1000) (h0:0<sep.size) (h1:sep.size≤10):∃l,Qd s sep=some l∧l.length≤s.size+1∧∀p∈l,Xs p s:=by
 unfold Qd
 rw [if_neg (by rw [ZN];intro e;rw [e] at h0;exact absurd h0 (by decide))]
 refine ZqJ h0 (fun row f i=>(row,((f:Nat):Int),((i:Nat):Int))) (fun l=>l) ?_ ?_
 ·intro row f i hf hi hr
  have e:IntKind.i64.wrap (((i:Nat):Int)+((sep.size:Nat):Int))=((i+sep.size:Nat):Int):=by rw [Xn (by omega) (by omega)];omega
  have e1:IntKind.i64.wrap (((i:Nat):Int)+1)=((i+1:Nat):Int):=by rw [Xn (by omega) (by omega)];omega
  simp only[e,e1,AA]
  rw [if_pos (by simp;omega),Zi _ (by omega)]
  split
  ·rw [Zi _ (by omega),Zi _ (by omega)]
  ·rfl
 ·intro row f i hf hi hn hr
  have e:IntKind.i64.wrap (((i:Nat):Int)+((sep.size:Nat):Int))=((i+sep.size:Nat):Int):=by rw [Xn (by omega) (by omega)];omega
  simp only[e,AA]
  rw [if_neg (by simp;omega),Zi _ (by omega),Zi _ (by omega)]
theorem ZsC {α:Type} {l:List α} (h:¬(((l.length:Nat):Int) != 2)=true):∃x y,l=[x,y]:=by
 have hl:l.length=2:=by simp at h;omega
 match l,hl with
 | [x,y],_=>exact ⟨x,y,rfl⟩
theorem Zqk {s:ByteArray} (hs:s.size≤1000):∃r a ok,Zd9 s=some (r,a,ok)∧a.length≤s.size+1:=by
 unfold Zd9
 obtain ⟨l,e,hl,hp⟩:=Xj (sep:=⟨#[40]⟩) hs (by decide) (by decide)
 rw [e,A0]
 split
 ·exact ⟨_,_,_,rfl,by simp⟩
 rename_i h2
 obtain ⟨x,y,rfl⟩:=ZsC h2
 have hl2:(([x,y]:List ByteArray).length:Int)=2:=rfl
 rw [Zi _ (by rw [hl2];decide)]
 simp only[show A3 1=1 from rfl,show A3 0=0 from rfl,AU,AW,A0]
 have hy:=(hp y (by simp)).size
 split
 ·exact ⟨_,_,_,rfl,by simp⟩
 rename_i h3
 have hy0:y.size≠0:=fun e=>h3 (by rw [e];rfl)
 have e1:IntKind.i64.wrap (((y.size:Nat):Int) - 1)=((y.size - 1:Nat):Int):=by rw [Xn (by omega) (by omega)];omega
 simp only[e1]
 have hb:∃b,sAt y ((y.size - 1:Nat):Int)=some b:=by
  unfold sAt
  rw [if_pos (by omega),AA]
  exact ⟨y[y.size - 1]'(by omega),by rw [getElem?_pos]⟩
 obtain ⟨b,hb⟩:=hb
 rw [hb,A0]
 split
 ·exact ⟨_,_,_,rfl,by simp⟩
 rw [Zi _ (by omega),AA]
 split
 ·rw [Zi _ (by simp)]
  exact ⟨_,_,_,rfl,by simp⟩
 ·rw [Zi _ (by simp)]
  have hq:(y.extract 0 (y.size - 1)).size≤y.size:=by rw [AT];omega
  obtain ⟨k,e2,hk,_⟩:=Xj (s:=y.extract 0 (y.size - 1)) (sep:=⟨#[44]⟩) (by omega) (by decide) (by decide)
  rw [e2,A0]
  exact ⟨_,_,_,rfl,by omega⟩
theorem ZeZ {s:ByteArray} (hs:s.size≤1000):∃p ok,Yd s=some (p,ok)∧p.args.length≤s.size+1:=by
 unfold Yd
 obtain ⟨r,a,ok,e,ha⟩:=Zqk hs
 rw [e,A0]
 cases ok with
 | false=>exact ⟨_,_,rfl,by simp⟩
 | true=>
  rw [if_pos rfl,QA,A0]
  split
  ·exact ⟨_,_,rfl,ha⟩
  ·exact ⟨_,_,rfl,by simp⟩
def ZiL:ByteArray:=⟨#[110,111,116,32]⟩
theorem ZnQ {s:ByteArray} (hs:s.size≤1000):∃x ok,ZaH s=some (x,ok)∧x.pattern.args.length≤s.size+1∧(x.kind=2→Xs ZiL s):=by
 unfold ZaH
 have sg:∀k:Int,∃g,Zfu k=some g∧0<g.size∧g.size≤10:=fun k=>by
  unfold Zfu
  split
  ·exact ⟨_,rfl,by decide,by decide⟩
  ·split
   ·exact ⟨_,rfl,by decide,by decide⟩
   ·exact ⟨_,rfl,by decide,by decide⟩
 have key:∀(body:Int→Option (Int ⊕ Zr × Bool)) (Q:Zr × Bool→Prop),(∀k:Nat,3≤k→k≤5→(∃r,body ((k:Nat):Int)=some (.inr r)∧Q r)∨body ((k:Nat):Int)=some (.inl ((k+1:Nat):Int)))→(∃r,body 6=some (.inr r)∧Q r)→∃r,iter body 3=some r∧Q r:=by
  intro body Q h1 h2
  have stop:∀k:Nat,3≤k→k≤6→∃r,iter body ((k:Nat):Int)=some r∧Q r:=by
   have go:∀m k:Nat,k+m=6→3≤k→∃r,iter body ((k:Nat):Int)=some r∧Q r:=by
    intro m
    induction m with
    | zero=>
     intro k hk _
     obtain rfl:k=6:=by omega
     obtain ⟨r,e,q⟩:=h2
     exact ⟨r,YG e,q⟩
    | succ m ih=>
     intro k hk h3
     rcases h1 k h3 (by omega) with ⟨r,e,q⟩ | e
     ·exact ⟨r,YG e,q⟩
     ·rw [YU e];exact ih (k+1) (by omega) (by omega)
   exact fun k h3 h6=>go (6 - k) k (by omega) h3
  exact stop 3 (by omega) (by omega)
 have fin:∀body:Int→Option (Int ⊕ Zr × Bool),(∃r,iter body 3=some r∧(r.1.pattern.args.length≤s.size+1∧(r.1.kind=2→Xs ZiL s)))→∃x ok,iter body 3=some (x,ok)∧x.pattern.args.length≤s.size+1∧(x.kind=2→Xs ZiL s):=fun _ ⟨r,e,q⟩=>⟨r.1,r.2,e,q⟩
 refine fin _ (key _ (fun r=>r.1.pattern.args.length≤s.size+1∧(r.1.kind=2→Xs ZiL s)) ?_ ?_)
 ·intro k h3 h5
  rw [if_pos (by simp;omega)]
  obtain ⟨g,eg,g0,g1⟩:=sg ((k:Nat):Int)
  obtain ⟨l,el,hl,hp⟩:=Xj hs g0 g1
  have e1:IntKind.i64.wrap (((k:Nat):Int)+1)=((k+1:Nat):Int):=by rw [Xn (by omega) (by omega)];omega
  rw [eg,A0,el,A0,e1]
  split
  ·rename_i h2
   obtain ⟨x,y,rfl⟩:=ZsC (l:=l) (by simp at h2 ⊢;omega)
   rw [Zi _ (by simp)]
   simp only[show A3 1=1 from rfl,show A3 0=0 from rfl,AU,AW,A0]
   rw [Zi _ (by simp),ZbT,A0]
   split
   ·exact .inl ⟨_,rfl,by simp,fun h=>by simp only at h;omega⟩
   ·exact .inr rfl
  ·exact .inr rfl
 ·rw [if_neg (by decide)]
  have pat:∀(t:ByteArray),t.size≤s.size→∀kd:Int,(kd=2→Xs ZiL s)→∃r,((Yd t).bind fun v=>if v.2=true then some (Sum.inr (({ kind:=kd,pattern:=v.1,left:=⟨#[]⟩,right:=⟨#[]⟩ }:Zr),true)) else some (.inr (({ kind:=0,pattern:=({ rel:=⟨#[]⟩,args:=[] }:Zv),left:=⟨#[]⟩,right:=⟨#[]⟩ }:Zr),false)))=some (Sum.inr r:Int ⊕ Zr × Bool)∧(r.1.pattern.args.length≤s.size+1∧(r.1.kind=2→Xs ZiL s)):=fun t ht kd hk=>by
   obtain ⟨p,ok,e,ha⟩:=ZeZ (s:=t) (by omega)
   rw [e,A0]
   cases ok with
   | true=>exact ⟨_,rfl,by show p.args.length≤_;omega,hk⟩
   | false=>exact ⟨_,rfl,by simp,fun h=>by simp at h⟩
  split
  ·rename_i h4
   have h4':4<s.size:=by simp at h4;omega
   rw [Zi _ (by omega)]
   split
   ·rename_i hn
    have hn':=ZN.1 hn
    exact pat _ (by rw [AT];omega) 2 fun _=>by
     unfold ZiL
     rw [←hn']
     exact Xs.ext s (by decide) (by show A3 4≤_;have:A3 4=4:=rfl;omega)
   ·exact pat s (A8 _) 1 fun h=>by omega
  ·exact pat s (A8 _) 1 fun h=>by omega
theorem Zo2 {s:ByteArray} (hs:s.size≤1000):∃a ok,Zap s=some (a,ok)∧a.pattern.args.length≤s.size+1:=by
 unfold Zap
 split
 ·exact ⟨_,_,rfl,by simp⟩
 obtain ⟨l,e,hl,hp⟩:=Xj (sep:=⟨#[32]⟩) hs (by decide) (by decide)
 rw [e,A0]
 split
 ·exact ⟨_,_,rfl,by simp⟩
 rename_i h2
 obtain ⟨x,y,rfl⟩:=ZsC h2
 have hy:=(hp y (by simp)).size
 obtain ⟨p,ok,ep,ha⟩:=ZeZ (s:=y) (by omega)
 rw [Zi _ (by simp)]
 simp only[show A3 1=1 from rfl,show A3 0=0 from rfl,AU,AW,A0,ep]
 split
 ·rw [Zi _ (by simp)]
  exact ⟨_,_,rfl,by show p.args.length≤_;omega⟩
 ·split
  ·rw [Zi _ (by simp)]
   exact ⟨_,_,rfl,by show p.args.length≤_;omega⟩
  ·exact ⟨_,_,rfl,by simp⟩
structure ZiP (s:ByteArray) (r:Zf):Prop where
 cl:r.cond.length≤s.size+1
 tl:r.thn.length≤s.size+1
 ca:∀x∈r.cond,x.pattern.args.length≤s.size+1∧(x.kind=2→Xs ZiL s)
 ta:∀a∈r.thn,a.pattern.args.length≤s.size+1
theorem ZmR {α ρ:Type} {s:ByteArray} {P:α→Prop} {g:ByteArray→Option (α × Bool)} {fin:List α→Option ρ} {z:List α→ρ} {Q:ρ→Prop} {l:List ByteArray} (hl:l.length≤2000) (hp:∀p∈l,Xs p s) (hg:∀p,Xs p s→∃x ok,g p=some (x,ok)∧P x) (hz:∀acc:List α,acc.length≤l.length→(∀x∈acc,P x)→Q (z acc)) (hfin:∀acc:List α,acc.length≤l.length→(∀x∈acc,P x)→∃r,fin acc=some r∧Q r):
  ∃r,forL (σ:=List α) (fun (i:Nat) (x:ByteArray) row=>(g x).bind fun v=>if v.2=true then chk (row.length+1≤1073741824) (some (.inl (row++[v.1]))) else some (.inr (z row))) fin l 0 []=some r∧Q r:=by
 have key:∀(m:List ByteArray) (i:Nat) (acc:List α),(∀p∈m,p∈l)→acc.length+m.length≤l.length→(∀x∈acc,P x)→∃r,forL (σ:=List α) (fun (i:Nat) (x:ByteArray) row=>(g x).bind fun v=>if v.2=true then chk (row.length+1≤1073741824) (some (.inl (row++[v.1]))) else some (.inr (z row))) fin m i acc=some r∧Q r:=by
  intro m
  induction m with
  | nil=>intro i acc _ hlen ha;exact hfin acc (by simp at hlen;omega) ha
  | cons x m ih=>
   intro i acc hm hlen ha
   obtain ⟨y,ok,e,hy⟩:=hg x (hp x (hm x (by simp)))
   rw [AN] at hlen
   cases ok with
   | true=>
    rw [ZV (s':=acc++[y]) (by rw [e];exact Zi _ (by omega))]
    exact ih _ _ (fun p mp=>hm p (by simp [mp])) (by simp;omega) fun q mq=>by
     rcases A5.1 mq with mq | mq
     ·exact ha q mq
     ·simp at mq;subst mq;exact hy
   | false=>exact ⟨_,Ya (by rw [e];rfl),hz acc (by omega) ha⟩
 exact key l 0 [] (fun _ h=>h) (by simp) (by simp)
theorem Zp5 {s a b:ByteArray} (hs:s.size≤1000) (ha:Xs a s) (hb:Xs b s) (r0:Zf):∃r ok,Zen r0 a b=some (r,ok)∧ZiP s r:=by
 unfold Zen
 have ha':=ha.size
 have hb':=hb.size
 obtain ⟨l,e,hl,hp⟩:=Xj (s:=a) (sep:=⟨#[32,38,32]⟩) (by omega) (by decide) (by decide)
 obtain ⟨k,e2,hk,hq⟩:=Xj (s:=b) (sep:=⟨#[32,38,32]⟩) (by omega) (by decide) (by decide)
 rw [e,A0]
 obtain ⟨r,h1,h2⟩:=ZmR (s:=s) (P:=fun x:Zr=>x.pattern.args.length≤s.size+1∧(x.kind=2→Xs ZiL s)) (g:=ZaH) (fin:=fun row_6=>(Qd b (⟨#[32,38,32]⟩)).bind fun v27=>
   forL (σ:=(List Zx))
    (fun (i37:Nat) (x38:ByteArray) row_32=>
     (Zap x38).bind fun v39=>
     if v39.2=true then
      chk (row_32.length+1≤1073741824) <|
      some (.inl (row_32++[v39.1]))
     else
      some (.inr (({ name:=r0.name,priority:=r0.priority,cond:=row_6,thn:=row_32 }:Zf),false)))
    (fun row_32=>
     (ZbX ({ name:=r0.name,priority:=r0.priority,cond:=row_6,thn:=row_32 }:Zf)).bind fun v40=>
     some (({ name:=r0.name,priority:=r0.priority,cond:=row_6,thn:=row_32 }:Zf),v40))
    v27 0 []) (z:=fun row_6=>(({ name:=r0.name,priority:=r0.priority,cond:=row_6,thn:=[] }:Zf),false)) (Q:=fun r=>ZiP s r.1) (l:=l) (by omega) (fun p mp=>(hp p mp).trans ha) (fun p hp=>by
    obtain ⟨x,ok,e,h1,h2⟩:=ZnQ (s:=p) (by have:=hp.size;omega)
    exact ⟨x,ok,e,by have:=hp.size;omega,fun h=>(h2 h).trans hp⟩) (fun acc h1 h2=>⟨by show acc.length≤_;omega,by simp,h2,by simp⟩) (fun acc h1 h2=>by
    rw [e2,A0]
    exact ZmR (s:=s) (P:=fun x:Zx=>x.pattern.args.length≤s.size+1) (g:=Zap) (z:=fun row_32=>(({ name:=r0.name,priority:=r0.priority,cond:=acc,thn:=row_32 }:Zf),false)) (Q:=fun r=>ZiP s r.1) (l:=k) (by omega) (fun p mp=>(hq p mp).trans hb) (fun p hp=>by
     obtain ⟨x,ok,e,h1⟩:=Zo2 (s:=p) (by have:=hp.size;omega)
     exact ⟨x,ok,e,by have:=hp.size;omega⟩) (fun row h3 h4=>⟨by show acc.length≤_;omega,by show row.length≤_;omega,h2,h4⟩) (fun row h3 h4=>by
     rw [Zfr _ ⟨by show acc.length≤_;omega,by show row.length≤_;omega,fun x mx=>by have:=(h2 x mx).1;omega,fun x mx=>by have:=h4 x mx;omega⟩,A0]
     exact ⟨_,rfl,by show acc.length≤_;omega,by show row.length≤_;omega,h2,h4⟩))
 exact ⟨r.1,r.2,h1,h2⟩
theorem Zel (s:ByteArray):ZiP s { name:=⟨#[]⟩,priority:=0,cond:=[],thn:=[] }:=⟨by simp,by simp,by simp,by simp⟩
theorem Znt {s:ByteArray} (hs:s.size≤1000):∃r ok,QB s=some (r,ok)∧ZiP s r:=by
 unfold QB
 obtain ⟨l,e,hl,hp⟩:=Xj (sep:=⟨#[58,32]⟩) hs (by decide) (by decide)
 rw [e,A0]
 split
 ·exact ⟨_,_,rfl,Zel s⟩
 rename_i h2
 obtain ⟨x,y,rfl⟩:=ZsC h2
 have hx:=hp x (by simp)
 have hy:=hp y (by simp)
 have hx':=hx.size
 have hy':=hy.size
 obtain ⟨m,em,hm,hpm⟩:=Xj (s:=x) (sep:=⟨#[32]⟩) (by omega) (by decide) (by decide)
 obtain ⟨k,ek,hk,hpk⟩:=Xj (s:=y) (sep:=⟨#[32,45,62,32]⟩) (by omega) (by decide) (by decide)
 rw [Zi _ (by simp)]
 simp only[show A3 1=1 from rfl,show A3 0=0 from rfl,AU,AW,A0,em]
 rw [Zi _ (by simp),ek,A0]
 split
 ·exact ⟨_,_,rfl,Zel s⟩
 rename_i h3
 obtain ⟨m0,m1,rfl⟩:=ZsC h3
 split
 ·exact ⟨_,_,rfl,Zel s⟩
 rename_i h4
 obtain ⟨k0,k1,rfl⟩:=ZsC h4
 rw [Zi _ (by simp)]
 simp only[AU,AW,A0,Q0]
 split
 ·rw [Zi _ (by simp),Zi _ (by simp),Zi _ (by simp)]
  obtain ⟨r,ok,er,hr⟩:=Zp5 hs ((hpk k0 (by simp)).trans hy) ((hpk k1 (by simp)).trans hy) ({ name:=m0,priority:=(ZcZ m1).1,cond:=[],thn:=[] }:Zf)
  rw [er,A0]
  cases ok with
  | true=>exact ⟨_,_,rfl,hr⟩
  | false=>exact ⟨_,_,rfl,Zel s⟩
 ·exact ⟨_,_,rfl,Zel s⟩
theorem ZoD {c:ZF} (h:Qb c) {l:List ByteArray} (h0:0<l.length) (h1:l.length≤256):∃x c',Zdx c l=some (x,c')∧x∈l∧Qb c':=by
 obtain ⟨x,c',e,hx,hx2,hc⟩:=ZcC h (n:=((l.length:Nat):Int)) (by omega) (by omega)
 have hn:x.toNat<l.length:=by omega
 refine ⟨l[x.toNat],c',?_,AJ _,hc⟩
 unfold Zdx
 rw [e]
 show (atI l x).bind _=_
 rw [show atI l x=some l[x.toNat] by unfold atI;rw [if_pos hx,A7 hn]]
 rfl
def RK (nots:Bool) (r:Zf):Prop:=∃s:ByteArray,s.size≤100∧(nots=false→¬Xs ZiL s)∧ZiP s r
theorem ZkZ (L:List ByteArray) (n:Int) (N:Nat) (hN:N=L.length) (h0:0<n) (hn:n≤N) (hs:∀s∈L,s.size≤100) (hL:N≤256) {c:ZF} (hc:Qb c):∃s r c',((Xb c n).bind fun v1=>chk (0≤v1.1∧v1.1<((N:Nat):Int)) ((L[(A3 v1.1)]?).bind fun x2=>(QB x2).bind fun v3=>some (v3.1,v1.2)))=some (r,c')∧s∈L.take n.toNat∧s.size≤100∧ZiP s r∧Qb c':=by
 obtain ⟨x,c',e,hx,hx2,hc'⟩:=ZcC hc h0 (by omega)
 have hl:x.toNat<L.length:=by omega
 obtain ⟨r,ok,er,hr⟩:=Znt (s:=L[x.toNat]) (by have:=hs _ (AJ hl);omega)
 refine ⟨L[x.toNat],r,c',?_,?_,hs _ (AJ hl),hr,hc'⟩
 ·rw [e,A0,Zi _ (by omega),A7 hl,A0,er]
  rfl
 ·rw [List.mem_take_iff_getElem]
  exact ⟨x.toNat,by omega,rfl⟩
theorem Zwa {s:ByteArray} (h:¬toL ZiL <:+: toL s):¬Xs ZiL s:=fun k=>h k.infix
theorem ZpT {c:ZF} (h:Qb c) (nots:Bool):∃r c',Zbn c nots=some (r,c')∧RK nots r∧Qb c':=by
 unfold Zbn
 have fin:∀{L:List ByteArray} {n:Int} {o:Option (Zf × ZF)},(nots=false→∀s∈L.take n.toNat,¬toL ZiL <:+: toL s)→(∃s r c',o=some (r,c')∧s∈L.take n.toNat∧s.size≤100∧ZiP s r∧Qb c')→∃r c',o=some (r,c')∧RK nots r∧Qb c':=fun hn ⟨s,r,c',e,h1,h2,h3,h4⟩=>⟨r,c',e,⟨s,h2,fun hf=>Zwa (hn hf s h1),h3⟩,h4⟩
 cases nots with
 | true=>
  rw [if_pos rfl]
  exact fin (fun h=>by cases h) (ZkZ _ 11 11 rfl (by omega) (by omega) (by decide) (by omega) h)
 | false=>
  rw [if_neg (by simp)]
  exact fin (fun _=>by decide) (ZkZ _ 7 11 rfl (by omega) (by omega) (by decide) (by omega) h)
theorem RK.name {nots:Bool} {r:Zf} (h:RK nots r) (n:ByteArray) (p:Int):RK nots { name:=n,priority:=p,cond:=r.cond,thn:=r.thn }:=by
 obtain ⟨s,h1,h2,h3⟩:=h
 exact ⟨s,h1,h2,h3.cl,h3.tl,h3.ca,h3.ta⟩
theorem Zow {c:ZF} (h:Qb c) (nots:Bool):∃R c',Zda c nots=some (R,c')∧R.length≤3∧(∀r∈R,RK nots r)∧Qb c':=by
 unfold Zda
 obtain ⟨n,c1,e,n0,n1,hc⟩:=ZcC h (n:=4) (by omega) (by omega)
 rw [e,A0]
 have key:∀(k:Nat) (cc:ZF) (row:List Zf),Qb cc→row.length+k≤3→(∀r∈row,RK nots r)→∃R c',iter (σ:=(List Int) × Int × Int × (List Zf) × Int)
  (fun s=>
   match s with
   | (f_4,f_5,f_6,row_7,n_8)=>
   if (decide (0<n_8))=true then
    (Zbn ({ b:=f_4,i:=f_5,h:=f_6 }:ZF) nots).bind fun v9=>
    (XO n_8).bind fun v10=>
    chk ((⟨#[114]⟩:ByteArray).size+v10.size≤9223372036854775807) <|
    chk (row_7.length+1≤1073741824) <|
    some (.inl (v9.2.b,v9.2.i,v9.2.h,(row_7++[({ name:=((⟨#[114]⟩:ByteArray)++v10),priority:=v9.1.priority,cond:=v9.1.cond,thn:=v9.1.thn }:Zf)]),(IntKind.i64.wrap (n_8 - 1))))
   else
    some (.inr (row_7,({ b:=f_4,i:=f_5,h:=f_6 }:ZF))))
  (cc.b,cc.i,cc.h,row,((k:Nat):Int))=some (R,c')∧R.length≤3∧(∀r∈R,RK nots r)∧Qb c':=by
  intro k
  induction k with
  | zero=>
   intro cc row hcc hl hr
   exact ⟨row,cc,YG rfl,by omega,hr,hcc⟩
  | succ k ih=>
   intro cc row hcc hl hr
   obtain ⟨r,c2,e2,hrk,hc2⟩:=ZpT hcc nots
   have hpos:decide (0<(((k+1:Nat)):Int))=true:=decide_eq_true (by omega)
   have hw:IntKind.i64.wrap ((((k+1:Nat)):Int) - 1)=((k:Nat):Int):=by rw [Xn (by omega) (by omega)];omega
   have hsz:(ofL (Lib.itoa ((k+1:Nat):Int))).size≤21:=Zss ⟨by omega,by omega⟩
   refine (YU (s':=(c2.b,c2.i,c2.h,row++[({ name:=((⟨#[114]⟩:ByteArray)++ofL (Lib.itoa ((k+1:Nat):Int))),priority:=r.priority,cond:=r.cond,thn:=r.thn }:Zf)],((k:Nat):Int))) ?_) ▸ ih c2 _ hc2 (by simp;omega) fun q mq=>?_
   ·simp only[hpos,if_true]
    rw [show ({ b:=cc.b,i:=cc.i,h:=cc.h }:ZF)=cc from rfl,e2,A0,ZfT ⟨by omega,by omega⟩,A0,Zi _ (by have:(⟨#[114]⟩:ByteArray).size=1:=rfl;omega),Zi _ (by omega),hw]
   ·rcases A5.1 mq with mq | mq
    ·exact hr q mq
    ·simp at mq;subst mq;exact hrk.name _ _
 have e5:n=((n.toNat:Nat):Int):=by omega
 have:=key n.toNat c1 [] hc (by simp;omega) (fun y hy=>by simp at hy)
 rw [←e5] at this
 exact this
theorem ZqB {c:ZF} (h:Qb c) {m:Int} (h0:0≤m) (h7:m≤7):∃l c',Zeo c m=some (l,c')∧l.length≤7∧(∀f∈l,f.args.length≤2)∧Qb c':=by
 unfold Zeo
 have hw:IntKind.i64.wrap (m+1)=m+1:=Xn (by omega) (by omega)
 rw [hw]
 obtain ⟨n,c1,e,n0,n1,hc⟩:=ZcC h (n:=m+1) (by omega) (by omega)
 rw [e,A0]
 have put:∀(row:List Zd) (f:Zd),row.length≤7→(∀f∈row,f.args.length≤2)→f.args.length≤2→∃row',YI row f=some row'∧row'.length≤row.length+1∧∀f∈row',f.args.length≤2:=fun row f hl ha hf=>⟨_,Zk2 row f (by omega) (fun x mx=>by have:=ha x mx;omega) (by omega),ZjK f row,fun x mx=>by
  rcases Qm.1 mx with rfl | mx
  ·exact hf
  ·exact ha x mx⟩
 have key:∀(k:Nat) (cc:ZF) (row:List Zd),Qb cc→row.length+k≤7→(∀f∈row,f.args.length≤2)→∃l c',iter (σ:=(List Int) × Int × Int × (List Zd) × Int)
   (fun s=>
   match s with
   | (f_9,f_10,f_11,row_12,n_13)=>
   if (decide (0<n_13))=true then
    (Zdx ({ b:=f_9,i:=f_10,h:=f_11 }:ZF) ([(⟨#[97]⟩),(⟨#[98]⟩),(⟨#[49]⟩),(⟨#[50]⟩)])).bind fun v14=>
    (Zdx v14.2 ([(⟨#[97]⟩),(⟨#[98]⟩),(⟨#[49]⟩)])).bind fun v15=>
    (Xb v15.2 5).bind fun v16=>
    if (v16.1==0)=true then
     (YI row_12 ({ rel:=(⟨#[112]⟩),args:=[v14.1] }:Zd)).bind fun v17=>
     some (.inl (v16.2.b,v16.2.i,v16.2.h,v17,(IntKind.i64.wrap (n_13 - 1))))
    else
     if (v16.1==1)=true then
      (YI row_12 ({ rel:=(⟨#[97,116]⟩),args:=[v14.1,v15.1] }:Zd)).bind fun v18=>
      some (.inl (v16.2.b,v16.2.i,v16.2.h,v18,(IntKind.i64.wrap (n_13 - 1))))
     else
      if (v16.1==2)=true then
       (YI row_12 ({ rel:=(⟨#[113]⟩),args:=[v14.1] }:Zd)).bind fun v19=>
       some (.inl (v16.2.b,v16.2.i,v16.2.h,v19,(IntKind.i64.wrap (n_13 - 1))))
      else
       (YI row_12 ({ rel:=(⟨#[111,110]⟩),args:=[v14.1,v15.1] }:Zd)).bind fun v20=>
       some (.inl (v16.2.b,v16.2.i,v16.2.h,v20,(IntKind.i64.wrap (n_13 - 1))))
   else
    some (.inr (row_12,({ b:=f_9,i:=f_10,h:=f_11 }:ZF))))
   (cc.b,cc.i,cc.h,row,((k:Nat):Int))=some (l,c')∧l.length≤7∧(∀f∈l,f.args.length≤2)∧Qb c':=by
  intro k
  induction k with
  | zero=>
   intro cc row hcc hl hr
   exact ⟨row,cc,YG rfl,by omega,hr,hcc⟩
  | succ k ih=>
   intro cc row hcc hl hr
   obtain ⟨a,c2,e2,_,hc2⟩:=ZoD hcc (l:=[(⟨#[97]⟩),(⟨#[98]⟩),(⟨#[49]⟩),(⟨#[50]⟩)]) (by simp) (by simp)
   obtain ⟨b,c3,e3,_,hc3⟩:=ZoD hc2 (l:=[(⟨#[97]⟩),(⟨#[98]⟩),(⟨#[49]⟩)]) (by simp) (by simp)
   obtain ⟨x,c4,e4,_,_,hc4⟩:=ZcC hc3 (n:=5) (by omega) (by omega)
   have hpos:decide (0<(((k+1:Nat)):Int))=true:=decide_eq_true (by omega)
   have hw:IntKind.i64.wrap ((((k+1:Nat)):Int) - 1)=((k:Nat):Int):=by rw [Xn (by omega) (by omega)];omega
   have go:∀f:Zd,f.args.length≤2→∀{body:(List Int) × Int × Int × (List Zd) × Int→Option (((List Int) × Int × Int × (List Zd) × Int) ⊕ (List Zd × ZF))},(body (cc.b,cc.i,cc.h,row,((k+1:Nat):Int))=(YI row f).bind fun v=>some (.inl (c4.b,c4.i,c4.h,v,((k:Nat):Int))))→(∀(row:List Zd),row.length+k≤7→(∀f∈row,f.args.length≤2)→∃l c',iter body (c4.b,c4.i,c4.h,row,((k:Nat):Int))=some (l,c')∧l.length≤7∧(∀f∈l,f.args.length≤2)∧Qb c')→∃l c',iter body (cc.b,cc.i,cc.h,row,((k+1:Nat):Int))=some (l,c')∧l.length≤7∧(∀f∈l,f.args.length≤2)∧Qb c':=fun f hf body hb hi=>by
    obtain ⟨row',ep,hl',hr'⟩:=put row f (by omega) hr hf
    rw [YU (hb.trans (by rw [ep];rfl))]
    exact hi row' (by omega) hr'
   have hi:=fun row=>ih c4 row hc4
   by_cases x0:x=0
   ·refine go { rel:=(⟨#[112]⟩),args:=[a] } (by simp) ?_ hi
    simp only[hpos,if_true]
    rw [show ({ b:=cc.b,i:=cc.i,h:=cc.h }:ZF)=cc from rfl,e2,A0,e3,A0,e4,A0,hw,if_pos (by simp [x0])]
   ·by_cases x1:x=1
    ·refine go { rel:=(⟨#[97,116]⟩),args:=[a,b] } (by simp) ?_ hi
     simp only[hpos,if_true]
     rw [show ({ b:=cc.b,i:=cc.i,h:=cc.h }:ZF)=cc from rfl,e2,A0,e3,A0,e4,A0,hw,if_neg (by simp [x0]),if_pos (by simp [x1])]
    ·by_cases x2:x=2
     ·refine go { rel:=(⟨#[113]⟩),args:=[a] } (by simp) ?_ hi
      simp only[hpos,if_true]
      rw [show ({ b:=cc.b,i:=cc.i,h:=cc.h }:ZF)=cc from rfl,e2,A0,e3,A0,e4,A0,hw,if_neg (by simp [x0]),if_neg (by simp [x1]),if_pos (by simp [x2])]
     ·refine go { rel:=(⟨#[111,110]⟩),args:=[a,b] } (by simp) ?_ hi
      simp only[hpos,if_true]
      rw [show ({ b:=cc.b,i:=cc.i,h:=cc.h }:ZF)=cc from rfl,e2,A0,e3,A0,e4,A0,hw,if_neg (by simp [x0]),if_neg (by simp [x1]),if_neg (by simp [x2])]
 have e5:n=((n.toNat:Nat):Int):=by omega
 have:=key n.toNat c1 [] hc (by simp;omega) (fun y hy=>by simp at hy)
 rw [←e5] at this
 exact this
section
open Classical
theorem Zsp {code:List Int} (h:¬decide (4096<((code.length:Nat):Int))=true):code.length≤4096:=by
 simp at h;omega
theorem ZtE (code:List Int):ZqV code=some (decide (4096<((code.length:Nat):Int))):=rfl
end
section
open Classical
theorem ZL6 {c:ZF} (h:Qb c):∃x c',ZKY c=some (x,c')∧Qb c':=by
 unfold ZKY
 obtain ⟨x,c',e,_,hc⟩:=ZoD h (l:=[(⟨#[97]⟩),(⟨#[98]⟩),(⟨#[99]⟩),(⟨#[49]⟩),(⟨#[50]⟩)]) (by simp) (by simp)
 exact ⟨x,c',by rw [e];rfl,hc⟩
theorem ZLa {c:ZF} (h:Qb c):∃x c',ZKR c=some (x,c')∧Qb c':=by
 unfold ZKR
 have key:∀L:List ByteArray,0<L.length→L.length≤256→∃x c',((Zdx c L).bind fun v1=>some (v1.1,v1.2))=some (x,c')∧Qb c':=fun L h0 h1=>by
  obtain ⟨x,c',e,_,hc⟩:=ZoD h (l:=L) h0 h1
  exact ⟨x,c',by rw [e];rfl,hc⟩
 exact key _ (by simp) (by simp)
theorem ZM0 {c:ZF} (h:Qb c):∃r n c',ZLI c=some (r,n,c')∧0≤n∧n≤2∧r≠⟨#[110]⟩∧Qb c':=by
 unfold ZLI
 obtain ⟨x,c',e,x0,x1,hc⟩:=ZcC h (n:=6) (by omega) (by omega)
 have key:∀(A:List ByteArray) (B:List Int),A.length=6→B.length=6→(∀b∈B,0≤b∧b≤2)→(∀a∈A,a≠⟨#[110]⟩)→∃r n c',((Xb c 6).bind fun v1=>chk (0≤v1.1∧v1.1<((6:Nat):Int)) <| (A[(A3 v1.1)]?).bind fun x2=>(B[(A3 v1.1)]?).bind fun x3=>some (x2,x3,v1.2))=some (r,n,c')∧0≤n∧n≤2∧r≠⟨#[110]⟩∧Qb c':=fun A B hA hB hb ha=>by
  have q1:x.toNat<A.length:=by omega
  have q2:x.toNat<B.length:=by omega
  have q3:=hb _ (AJ q2)
  refine ⟨A[x.toNat],B[x.toNat],c',?_,q3.1,q3.2,ha _ (AJ q1),hc⟩
  rw [e,A0,Zi _ (by omega),A7 q1,A0,A7 q2,A0]
 exact key _ _ rfl rfl (by decide) (by decide)
theorem ZMA {ρ:Type} {tm:ZF→Option (ByteArray × ZF)} (ht:∀c,Qb c→∃x c',tm c=some (x,c')∧Qb c') (g:List ByteArray→ZF→ρ) {n:Int} (n0:0≤n) (n1:n≤100) {c:ZF} (hc:Qb c):∃row c',iter (σ:=(List Int) × Int × Int × (List ByteArray) × Int)
  (fun s=>
   match s with
   | (f_4,f_5,f_6,row_7,i_8)=>
   if (decide (i_8<n))=true then
    (tm ({ b:=f_4,i:=f_5,h:=f_6 }:ZF)).bind fun v9=>
    chk (row_7.length+1≤1073741824) <|
    some (.inl (v9.2.b,v9.2.i,v9.2.h,(row_7++[v9.1]),(IntKind.i64.wrap (i_8+1))))
   else
    some (.inr (g row_7 ({ b:=f_4,i:=f_5,h:=f_6 }:ZF))))
  (c.b,c.i,c.h,[],0)=some (g row c')∧row.length≤n.toNat∧Qb c':=by
 have key:∀(m k:Nat) (cc:ZF) (row:List ByteArray),((k+m:Nat):Int)=n→row.length=k→Qb cc→∃row' c',iter (σ:=(List Int) × Int × Int × (List ByteArray) × Int)
  (fun s=>
   match s with
   | (f_4,f_5,f_6,row_7,i_8)=>
   if (decide (i_8<n))=true then
    (tm ({ b:=f_4,i:=f_5,h:=f_6 }:ZF)).bind fun v9=>
    chk (row_7.length+1≤1073741824) <|
    some (.inl (v9.2.b,v9.2.i,v9.2.h,(row_7++[v9.1]),(IntKind.i64.wrap (i_8+1))))
   else
    some (.inr (g row_7 ({ b:=f_4,i:=f_5,h:=f_6 }:ZF))))
  (cc.b,cc.i,cc.h,row,((k:Nat):Int))=some (g row' c')∧row'.length≤n.toNat∧Qb c':=by
  intro m
  induction m with
  | zero=>
   intro k cc row hk hr hcc
   refine ⟨row,cc,YG ?_,by omega,hcc⟩
   simp only
   rw [if_neg (by simp;omega)]
  | succ m ih=>
   intro k cc row hk hr hcc
   obtain ⟨a,c2,e2,hc2⟩:=ht cc hcc
   have hw:IntKind.i64.wrap (((k:Nat):Int)+1)=((k+1:Nat):Int):=by rw [Xn (by omega) (by omega)];omega
   refine (YU (s':=(c2.b,c2.i,c2.h,row++[a],((k+1:Nat):Int))) ?_) ▸ ih (k+1) c2 (row++[a]) (by omega) (by simp [hr]) hc2
   simp only
   rw [if_pos (by simp;omega),show ({ b:=cc.b,i:=cc.i,h:=cc.h }:ZF)=cc from rfl,e2,A0,Zi _ (by omega),hw]
 exact key n.toNat 0 c [] (by omega) rfl hc
theorem ZMC {c:ZF} (h:Qb c):∃f c',ZLg c=some (f,c')∧f.args.length≤2∧f.rel≠⟨#[110]⟩∧Qb c':=by
 unfold ZLg
 obtain ⟨r,n,c1,e,n0,n1,hr0,hc⟩:=ZM0 h
 rw [e,A0]
 obtain ⟨row,c2,e2,h1,h2⟩:=ZMA (tm:=ZKY) (fun c hc=>ZL6 hc) (fun row c=>(({ rel:=r,args:=row }:Zd),c)) n0 (by omega) hc
 exact ⟨{ rel:=r,args:=row },c2,e2,by show row.length≤2;omega,hr0,h2⟩
theorem ZNH {c:ZF} (h:Qb c):∃f c',ZLV c=some (f,c')∧f.args.length≤4∧Qb c':=by
 unfold ZLV
 obtain ⟨f,c1,e1,a1,_,h1⟩:=ZMC h
 obtain ⟨k,c2,e2,k0,k1,h2⟩:=ZcC h1 (n:=10) (by omega) (by omega)
 rw [e1,A0,e2,A0]
 split
 ·obtain ⟨w,c3,e3,h3⟩:=ZLa h2
  exact ⟨{ rel:=w,args:=f.args },c3,by rw [e3];rfl,by show f.args.length≤4;omega,h3⟩
 ·split
  ·obtain ⟨w,c3,e3,h3⟩:=ZLa h2
   exact ⟨{ rel:=f.rel,args:=f.args++[w] },c3,by rw [e3,A0,Zi _ (by show f.args.length+1≤_;omega)],by simp;omega,h3⟩
  ·split
   ·obtain ⟨w,c3,e3,w0,w1,h3⟩:=ZcC h2 (n:=5) (by omega) (by omega)
    refine ⟨_,c3,by rw [e3,A0,Zi _ (by omega)],?_,h3⟩
    simp
    omega
   ·exact ⟨f,c2,rfl,by omega,h2⟩
end
section
/- one computation is another one wherever it comes to an end -/
def Ref {α:Type} (a b:Option α):Prop:=∀r,a=some r→b=some r
theorem Ref.refl {α:Type} (a:Option α):Ref a a:=fun _ h=>h
theorem Ref.bind {α β:Type} {a b:Option α} {f g:α→Option β} (h:Ref a b) (k:∀x,Ref (f x) (g x)):Ref (a.bind f) (b.bind g):=fun r hr=>by
 obtain ⟨x,h1,h2⟩:=AB.1 hr
 rw [h x h1,A0]
 exact k x r h2
theorem Ref.ite {α:Type} {c:Prop} [Decidable c] {a b a' b':Option α} (h:Ref a a') (k:Ref b b'):Ref (if c then a else b) (if c then a' else b'):=by
 split
 ·exact h
 ·exact k
theorem Ref.chk {α:Type} {p:Prop} [Decidable p] {a b:Option α} (h:Ref a b):Ref (chk p a) (chk p b):=fun r hr=>by
 unfold Go.Proofs.YtekbmedphidcgaaGreatDoor.chk at hr ⊢
 split at hr
 ·rename_i hp;rw [if_pos hp];exact h r hr
 ·simp at hr
theorem Ref.forL {α σ ρ:Type} {body body':Nat→α→σ→Option (σ ⊕ ρ)} {fin fin':σ→Option ρ} (h:∀i x s,Ref (body i x s) (body' i x s)) (k:∀s,Ref (fin s) (fin' s)):∀(l:List α) (i:Nat) (s:σ),Ref (forL body fin l i s) (forL body' fin' l i s)
 | [],_,s=>k s
 | x::l,i,s=>fun r hr=>by
  cases e:body i x s with
  | none=>simp only[Go.Proofs.YtekbmedphidcgaaGreatDoor.forL,e] at hr;simp at hr
  | some y=>
   cases y with
   | inl s'=>
    rw [ZV e] at hr
    rw [ZV (h i x s _ e)]
    exact Ref.forL h k l (i+1) s' r hr
   | inr q=>
    rw [Ya e] at hr
    rw [Ya (h i x s _ e)]
    exact hr
theorem Ref.iter {σ ρ:Type} {body body':σ→Option (σ ⊕ ρ)} (h:∀s,Ref (body s) (body' s)):∀(n:Nat) (s:σ),Ref (Zcc body n s) (iter body' s)
 | 0,_=>fun r hr=>by simp [Zcc] at hr
 | n+1,s=>fun r hr=>by
  simp only[Zcc] at hr
  cases e:body s with
  | none=>rw [e] at hr;simp at hr
  | some y=>
   rw [e] at hr
   cases y with
   | inl s'=>rw [YU (h s _ e)];exact Ref.iter h n s' r hr
   | inr q=>rw [YG (h s _ e)];exact hr
def ZLP (s sep:ByteArray):Nat→Nat→Nat→List ByteArray
 | 0,f,_=>[s.extract f s.size]
 | m+1,f,i=>if i+sep.size≤s.size then (if sEq (s.extract i (i+sep.size)) sep=true then s.extract f i::ZLP s sep m (i+sep.size) (i+sep.size) else ZLP s sep m f (i+1)) else [s.extract f s.size]
theorem ZNP {σ ρ:Type} {s sep:ByteArray} (hsep:0<sep.size) (st:List ByteArray→Nat→Nat→σ) (g:List ByteArray→ρ) {body:σ→Option (σ ⊕ ρ)}
  (h1:∀row from_ i,from_≤i→i+sep.size≤s.size→row.length≤i→body (st row from_ i)=some (.inl (if sEq (s.extract i (i+sep.size)) sep=true then st (row++[s.extract from_ i]) (i+sep.size) (i+sep.size) else st row from_ (i+1))))
  (h2:∀row from_ i,from_≤i→i≤s.size→¬i+sep.size≤s.size→row.length≤i→body (st row from_ i)=some (.inr (g (row++[s.extract from_ s.size])))):
  iter body (st [] 0 0)=some (g (ZLP s sep s.size 0 0)):=by
 have key:∀m row from_ i,s.size - i≤m→from_≤i→i≤s.size→row.length≤i→iter body (st row from_ i)=some (g (row++ZLP s sep m from_ i)):=by
  intro m
  induction m with
  | zero=>
   intro row from_ i hm hf hi hr
   exact YG (h2 row from_ i hf hi (by omega) hr)
  | succ m ih=>
   intro row from_ i hm hf hi hr
   unfold ZLP
   by_cases hn:i+sep.size≤s.size
   ·rw [YU (h1 row from_ i hf hn hr),if_pos hn]
    split
    ·rw [ih _ _ _ (by omega) (A8 _) hn (by simp;omega),Af,Aq]
    ·exact ih _ _ _ (by omega) (by omega) (by omega) (by omega)
   ·rw [if_neg hn]
    exact YG (h2 row from_ i hf hi hn hr)
 exact key s.size [] 0 0 (by omega) (A8 _) (Ah _) (A8 _)
theorem ZNe {s sep:ByteArray} (hs:s.size≤1000) (h0:0<sep.size) (h1:sep.size≤10):Qd s sep=some (ZLP s sep s.size 0 0):=by
 unfold Qd
 rw [if_neg (by rw [ZN];intro e;rw [e] at h0;exact absurd h0 (by decide))]
 refine ZNP h0 (fun row f i=>(row,((f:Nat):Int),((i:Nat):Int))) (fun l=>l) ?_ ?_
 ·intro row f i hf hi hr
  have e:IntKind.i64.wrap (((i:Nat):Int)+((sep.size:Nat):Int))=((i+sep.size:Nat):Int):=by rw [Xn (by omega) (by omega)];omega
  have e1:IntKind.i64.wrap (((i:Nat):Int)+1)=((i+1:Nat):Int):=by rw [Xn (by omega) (by omega)];omega
  simp only[e,e1,AA]
  rw [if_pos (by simp;omega),Zi _ (by omega)]
  split
  ·rw [Zi _ (by omega),Zi _ (by omega)]
  ·rfl
 ·intro row f i hf hi hn hr
  have e:IntKind.i64.wrap (((i:Nat):Int)+((sep.size:Nat):Int))=((i+sep.size:Nat):Int):=by rw [Xn (by omega) (by omega)];omega
  simp only[e,AA]
  rw [if_neg (by simp;omega),Zi _ (by omega),Zi _ (by omega)]
def ZKS (s sep:ByteArray):Option (List ByteArray):=if s.size≤1000∧0<sep.size∧sep.size≤10 then some (ZLP s sep s.size 0 0) else none
theorem ZKZ (s sep:ByteArray):Ref (ZKS s sep) (Qd s sep):=fun r h=>by
 unfold ZKS at h
 split at h
 ·rename_i hc;rw [ZNe hc.1 hc.2.1 hc.2.2];exact h
 ·simp at h
def ZL9 (p:Zv):Option Bool:=some (Z0 p)
theorem ZMx (p:Zv):Ref (ZL9 p) (YD p):=fun r h=>by rw [QA];exact h
def ZM6 (x:Zr):Option Bool:=some (Yz x)
theorem ZNn (x:Zr):Ref (ZM6 x) (Zb1 x):=fun r h=>by rw [ZbT];exact h
def ZMq (s:ByteArray):Option (Int × Bool):=some (ZcZ s)
theorem ZMG (s:ByteArray):Ref (ZMq s) (X0 s):=fun r h=>by rw [Q0];exact h
def ZMj (r:Zf):Option Bool:=if r.cond.length≤100∧r.thn.length≤100∧(∀x∈r.cond,x.pattern.args.length≤100)∧(∀a∈r.thn,a.pattern.args.length≤100) then some (XX r) else none
theorem ZNb (r:Zf):Ref (ZMj r) (ZbX r):=fun x h=>by
 unfold ZMj at h
 split at h
 ·rename_i hc
  rw [Zfr r ⟨by omega,by omega,fun x mx=>by have:=hc.2.2.1 x mx;omega,fun a ma=>by have:=hc.2.2.2 a ma;omega⟩]
  exact h
 ·simp at h
noncomputable def ZMH (s_0:ByteArray):Option (ByteArray × (List ByteArray) × Bool):=
 (ZKS s_0 (⟨#[40]⟩)).bind fun b=>
 if (((b.length:Nat):Int) != 2)=true then
  some ((⟨#[]⟩),[],false)
 else
  chk (0≤1∧1<((b.length:Nat):Int)) <|
  (b[(A3 1)]?).bind fun a=>
  if (((a.size:Nat):Int)==0)=true then
   some ((⟨#[]⟩),[],false)
  else
   (sAt a (IntKind.i64.wrap (((a.size:Nat):Int) - 1))).bind fun c=>
   if (((c.toNat:Nat):Int) != 41)=true then
    some ((⟨#[]⟩),[],false)
   else
    chk (0≤(IntKind.i64.wrap (((a.size:Nat):Int) - 1))∧(IntKind.i64.wrap (((a.size:Nat):Int) - 1))≤((a.size:Nat):Int)) <|
    if (sEq (a.extract 0 (A3 (IntKind.i64.wrap (((a.size:Nat):Int) - 1)))) ⟨#[]⟩)=true then
     chk (0≤0∧0<((b.length:Nat):Int)) <|
     (b[(A3 0)]?).bind fun d=>
     some (d,[],true)
    else
     chk (0≤0∧0<((b.length:Nat):Int)) <|
     (b[(A3 0)]?).bind fun e=>
     (ZKS (a.extract 0 (A3 (IntKind.i64.wrap (((a.size:Nat):Int) - 1)))) (⟨#[44]⟩)).bind fun f=>
     some (e,f,true)
noncomputable def ZK0 (s_0:ByteArray):Option (Zv × Bool):=
 (ZMH s_0).bind fun a=>
 if a.2.2=true then
  (ZL9 ({ rel:=a.1,args:=a.2.1 }:Zv)).bind fun b=>
  if b=true then
   some (({ rel:=a.1,args:=a.2.1 }:Zv),true)
  else
   some (({ rel:=(⟨#[]⟩),args:=[] }:Zv),false)
 else
  some (({ rel:=(⟨#[]⟩),args:=[] }:Zv),false)
noncomputable def ZMK (a:ByteArray):Option (Zr × Bool):=
 (fun body s=>Zcc body 5 s)
  (fun b=>
   if (decide (b≤5))=true then
    (Zfu b).bind fun j=>
    (ZKS a j).bind fun c=>
    if (((c.length:Nat):Int)==2)=true then
     chk (0≤0∧0<((c.length:Nat):Int)) <|
     (c[(A3 0)]?).bind fun d=>
     chk (0≤1∧1<((c.length:Nat):Int)) <|
     (c[(A3 1)]?).bind fun e=>
     (ZM6 ({ kind:=b,pattern:=({ rel:=(⟨#[]⟩),args:=[] }:Zv),left:=d,right:=e }:Zr)).bind fun k=>
     if k=true then
      some (.inr (({ kind:=b,pattern:=({ rel:=(⟨#[]⟩),args:=[] }:Zv),left:=d,right:=e }:Zr),true))
     else
      some (.inl (IntKind.i64.wrap (b+1)))
    else
     some (.inl (IntKind.i64.wrap (b+1)))
   else
    if (decide (4<((a.size:Nat):Int)))=true then
     chk (0≤4∧4≤((a.size:Nat):Int)) <|
     if (sEq (a.extract 0 (A3 4)) ⟨#[110,111,116,32]⟩)=true then
      (ZK0 (a.extract (A3 4) a.size)).bind fun f=>
      if f.2=true then
       some (.inr (({ kind:=2,pattern:=f.1,left:=(⟨#[]⟩),right:=(⟨#[]⟩) }:Zr),true))
      else
       some (.inr (({ kind:=0,pattern:=({ rel:=(⟨#[]⟩),args:=[] }:Zv),left:=(⟨#[]⟩),right:=(⟨#[]⟩) }:Zr),false))
     else
      (ZK0 a).bind fun g=>
      if g.2=true then
       some (.inr (({ kind:=1,pattern:=g.1,left:=(⟨#[]⟩),right:=(⟨#[]⟩) }:Zr),true))
      else
       some (.inr (({ kind:=0,pattern:=({ rel:=(⟨#[]⟩),args:=[] }:Zv),left:=(⟨#[]⟩),right:=(⟨#[]⟩) }:Zr),false))
    else
     (ZK0 a).bind fun i=>
     if i.2=true then
      some (.inr (({ kind:=1,pattern:=i.1,left:=(⟨#[]⟩),right:=(⟨#[]⟩) }:Zr),true))
     else
      some (.inr (({ kind:=0,pattern:=({ rel:=(⟨#[]⟩),args:=[] }:Zv),left:=(⟨#[]⟩),right:=(⟨#[]⟩) }:Zr),false)))
  3
noncomputable def ZMp (s_0:ByteArray):Option (Zx × Bool):=
 if (sEq s_0 ⟨#[115,116,111,112]⟩)=true then
  some (({ kind:=3,pattern:=({ rel:=(⟨#[]⟩),args:=[] }:Zv) }:Zx),true)
 else
  (ZKS s_0 (⟨#[32]⟩)).bind fun a=>
  if (((a.length:Nat):Int) != 2)=true then
   some (({ kind:=0,pattern:=({ rel:=(⟨#[]⟩),args:=[] }:Zv) }:Zx),false)
  else
   chk (0≤0∧0<((a.length:Nat):Int)) <|
   (a[(A3 0)]?).bind fun b=>
   if (sEq b ⟨#[97,100,100]⟩)=true then
    chk (0≤1∧1<((a.length:Nat):Int)) <|
    (a[(A3 1)]?).bind fun e=>
    (ZK0 e).bind fun c=>
    some (({ kind:=1,pattern:=c.1 }:Zx),c.2)
   else
    if (sEq b ⟨#[100,114,111,112]⟩)=true then
     chk (0≤1∧1<((a.length:Nat):Int)) <|
     (a[(A3 1)]?).bind fun f=>
     (ZK0 f).bind fun d=>
     some (({ kind:=2,pattern:=d.1 }:Zx),d.2)
    else
     some (({ kind:=0,pattern:=({ rel:=(⟨#[]⟩),args:=[] }:Zv) }:Zx),false)
noncomputable def ZMP (append_0:Zf) (String_1:ByteArray) (a_2:ByteArray):Option (Zf × Bool):=
 (ZKS String_1 (⟨#[32,38,32]⟩)).bind fun e=>
 forL (σ:=(List Zr))
  (fun (i24:Nat) (f:ByteArray) a=>
   (ZMK f).bind fun c=>
   if c.2=true then
    chk (a.length+1≤1073741824) <|
    some (.inl (a++[c.1]))
   else
    some (.inr (({ name:=append_0.name,priority:=append_0.priority,cond:=a,thn:=[] }:Zf),false)))
  (fun a=>
   (ZKS a_2 (⟨#[32,38,32]⟩)).bind fun g=>
   forL (σ:=(List Zx))
    (fun (i37:Nat) (i:ByteArray) b=>
     (ZMp i).bind fun d=>
     if d.2=true then
      chk (b.length+1≤1073741824) <|
      some (.inl (b++[d.1]))
     else
      some (.inr (({ name:=append_0.name,priority:=append_0.priority,cond:=a,thn:=b }:Zf),false)))
    (fun b=>
     (ZMj ({ name:=append_0.name,priority:=append_0.priority,cond:=a,thn:=b }:Zf)).bind fun j=>
     some (({ name:=append_0.name,priority:=append_0.priority,cond:=a,thn:=b }:Zf),j))
    g 0 [])
  e 0 []
noncomputable def ZNm (s_0:ByteArray):Option (Zf × Bool):=
 (ZKS s_0 (⟨#[58,32]⟩)).bind fun a=>
 if (((a.length:Nat):Int) != 2)=true then
  some (({ name:=(⟨#[]⟩),priority:=0,cond:=[],thn:=[] }:Zf),false)
 else
  chk (0≤0∧0<((a.length:Nat):Int)) <|
  (a[(A3 0)]?).bind fun f=>
  (ZKS f (⟨#[32]⟩)).bind fun b=>
  chk (0≤1∧1<((a.length:Nat):Int)) <|
  (a[(A3 1)]?).bind fun g=>
  (ZKS g (⟨#[32,45,62,32]⟩)).bind fun c=>
  if (((b.length:Nat):Int) != 2)=true then
   some (({ name:=(⟨#[]⟩),priority:=0,cond:=[],thn:=[] }:Zf),false)
  else
   if (((c.length:Nat):Int) != 2)=true then
    some (({ name:=(⟨#[]⟩),priority:=0,cond:=[],thn:=[] }:Zf),false)
   else
    chk (1<((b.length:Nat):Int)) <|
    (b[(A3 1)]?).bind fun i=>
    (ZMq i).bind fun d=>
    if d.2=true then
     chk (0<((b.length:Nat):Int)) <|
     (b[(A3 0)]?).bind fun j=>
     chk (0<((c.length:Nat):Int)) <|
     (c[(A3 0)]?).bind fun k=>
     chk (1<((c.length:Nat):Int)) <|
     (c[(A3 1)]?).bind fun l=>
     (ZMP ({ name:=j,priority:=d.1,cond:=[],thn:=[] }:Zf) k l).bind fun e=>
     if e.2=true then
      some (e.1,true)
     else
      some (({ name:=(⟨#[]⟩),priority:=0,cond:=[],thn:=[] }:Zf),false)
    else
     some (({ name:=(⟨#[]⟩),priority:=0,cond:=[],thn:=[] }:Zf),false)
theorem ZNA (s:ByteArray):Ref (ZMH s) (Zd9 s):=by
 unfold ZMH Zd9
 repeat' (first | with_reducible exact Ref.refl _ | exact ZKZ _ _ | apply Ref.bind | apply Ref.ite | apply Ref.chk | intro _)
theorem ZL7 (s:ByteArray):Ref (ZK0 s) (Yd s):=by
 unfold ZK0 Yd
 repeat' (first | with_reducible exact Ref.refl _ | exact ZNA _ | exact ZMx _ | apply Ref.bind | apply Ref.ite | intro _)
theorem ZM4 (s:ByteArray):Ref (ZMK s) (ZaH s):=by
 unfold ZMK ZaH
 refine Ref.iter ?_ 5 3
 repeat' (first | with_reducible exact Ref.refl _ | exact ZKZ _ _ | exact ZL7 _ | exact ZNn _ | apply Ref.bind | apply Ref.ite | apply Ref.chk | intro _)
theorem ZNj (s:ByteArray):Ref (ZMp s) (Zap s):=by
 unfold ZMp Zap
 repeat' (first | with_reducible exact Ref.refl _ | exact ZKZ _ _ | exact ZL7 _ | apply Ref.bind | apply Ref.ite | apply Ref.chk | intro _)
theorem ZNC (r:Zf) (a b:ByteArray):Ref (ZMP r a b) (Zen r a b):=by
 unfold ZMP Zen
 refine Ref.bind (ZKZ _ _) fun _=>Ref.forL (fun _ _ _=>?_) (fun _=>Ref.bind (ZKZ _ _) fun _=>Ref.forL (fun _ _ _=>?_) (fun _=>?_) _ _ _) _ _ _
 ·repeat' (first | with_reducible exact Ref.refl _ | exact ZM4 _ | apply Ref.bind | apply Ref.ite | apply Ref.chk | intro _)
 ·repeat' (first | with_reducible exact Ref.refl _ | exact ZNj _ | apply Ref.bind | apply Ref.ite | apply Ref.chk | intro _)
 ·exact Ref.bind (ZNb _) fun _=>Ref.refl _
theorem ZNM (s:ByteArray):Ref (ZNm s) (QB s):=by
 unfold ZNm QB
 repeat' (first | with_reducible exact Ref.refl _ | exact ZKZ _ _ | exact ZMG _ | exact ZNC _ _ _ | apply Ref.bind | apply Ref.ite | apply Ref.chk | intro _)
noncomputable def ZMV (s:ByteArray):Bool:=match ZNm s with | some (r,_)=>decide (1≤r.cond.length)&&decide (1≤r.thn.length) | none=>false
theorem ZNO {s:ByteArray} (h:ZMV s=true):∃r ok,QB s=some (r,ok)∧1≤r.cond.length∧1≤r.thn.length:=by
 unfold ZMV at h
 split at h
 ·rename_i r ok e
  rw [A4,decide_eq_true_iff,decide_eq_true_iff] at h
  exact ⟨r,ok,ZNM s _ e,h⟩
 ·simp at h
theorem ZNs:([(⟨#[114,32,49,58,32,111,110,40,63,120,44,63,121,41,32,38,32,111,110,40,63,121,44,63,122,41,32,45,62,32,97,100,100,32,111,110,40,63,120,44,63,122,41]⟩),(⟨#[114,32,50,58,32,111,110,40,63,120,44,63,121,41,32,38,32,112,40,63,121,41,32,45,62,32,97,100,100,32,112,40,63,120,41]⟩),(⟨#[114,32,48,58,32,112,40,63,120,41,32,38,32,111,110,40,63,120,44,63,121,41,32,38,32,63,120,32,33,61,32,63,121,32,45,62,32,97,100,100,32,97,116,40,63,121,44,63,120,41]⟩),(⟨#[114,32,51,58,32,97,116,40,63,120,44,63,121,41,32,38,32,112,40,63,120,41,32,38,32,112,40,63,121,41,32,38,32,63,120,32,60,32,63,121,32,45,62,32,97,100,100,32,122,40,41]⟩),(⟨#[114,32,52,58,32,111,110,40,63,120,44,97,41,32,45,62,32,97,100,100,32,113,40,63,120,41,32,38,32,97,100,100,32,112,40,97,41]⟩),(⟨#[114,32,49,58,32,97,116,40,63,120,44,63,120,41,32,38,32,113,40,49,41,32,45,62,32,97,100,100,32,111,110,40,63,120,44,49,41]⟩),(⟨#[114,32,49,58,32,112,40,63,120,41,32,38,32,110,111,116,32,113,40,63,120,41,32,45,62,32,97,100,100,32,97,116,40,63,120,44,98,41]⟩),(⟨#[114,32,50,58,32,111,110,40,63,120,44,63,121,41,32,38,32,110,111,116,32,97,116,40,63,121,44,63,122,41,32,45,62,32,97,100,100,32,113,40,63,121,41]⟩),(⟨#[114,32,53,58,32,97,116,40,63,120,44,63,121,41,32,38,32,110,111,116,32,112,40,63,121,41,32,38,32,63,120,32,33,61,32,63,121,32,45,62,32,97,100,100,32,122,40,41]⟩),(⟨#[114,32,57,58,32,113,40,63,120,41,32,38,32,112,40,63,120,41,32,45,62,32,100,114,111,112,32,112,40,63,120,41]⟩),(⟨#[114,32,48,58,32,97,116,40,63,120,44,49,41,32,38,32,97,116,40,63,121,44,50,41,32,38,32,63,120,32,61,32,63,121,32,45,62,32,100,114,111,112,32,97,116,40,63,120,44,49,41,32,38,32,115,116,111,112]⟩),(⟨#[114,32,49,58,32,111,110,40,63,120,44,63,120,41,32,45,62,32,115,116,111,112]⟩),(⟨#[114,32,55,58,32,122,40,41,32,38,32,111,110,40,63,120,44,63,121,41,32,45,62,32,100,114,111,112,32,122,40,41,32,38,32,97,100,100,32,111,110,40,63,121,44,63,120,41]⟩)]:List ByteArray).all ZMV=true:=by kernel_rfl
theorem ZNa:∀s∈([(⟨#[114,32,49,58,32,111,110,40,63,120,44,63,121,41,32,38,32,111,110,40,63,121,44,63,122,41,32,45,62,32,97,100,100,32,111,110,40,63,120,44,63,122,41]⟩),(⟨#[114,32,50,58,32,111,110,40,63,120,44,63,121,41,32,38,32,112,40,63,121,41,32,45,62,32,97,100,100,32,112,40,63,120,41]⟩),(⟨#[114,32,48,58,32,112,40,63,120,41,32,38,32,111,110,40,63,120,44,63,121,41,32,38,32,63,120,32,33,61,32,63,121,32,45,62,32,97,100,100,32,97,116,40,63,121,44,63,120,41]⟩),(⟨#[114,32,51,58,32,97,116,40,63,120,44,63,121,41,32,38,32,112,40,63,120,41,32,38,32,112,40,63,121,41,32,38,32,63,120,32,60,32,63,121,32,45,62,32,97,100,100,32,122,40,41]⟩),(⟨#[114,32,52,58,32,111,110,40,63,120,44,97,41,32,45,62,32,97,100,100,32,113,40,63,120,41,32,38,32,97,100,100,32,112,40,97,41]⟩),(⟨#[114,32,49,58,32,97,116,40,63,120,44,63,120,41,32,38,32,113,40,49,41,32,45,62,32,97,100,100,32,111,110,40,63,120,44,49,41]⟩),(⟨#[114,32,49,58,32,112,40,63,120,41,32,38,32,110,111,116,32,113,40,63,120,41,32,45,62,32,97,100,100,32,97,116,40,63,120,44,98,41]⟩),(⟨#[114,32,50,58,32,111,110,40,63,120,44,63,121,41,32,38,32,110,111,116,32,97,116,40,63,121,44,63,122,41,32,45,62,32,97,100,100,32,113,40,63,121,41]⟩),(⟨#[114,32,53,58,32,97,116,40,63,120,44,63,121,41,32,38,32,110,111,116,32,112,40,63,121,41,32,38,32,63,120,32,33,61,32,63,121,32,45,62,32,97,100,100,32,122,40,41]⟩),(⟨#[114,32,57,58,32,113,40,63,120,41,32,38,32,112,40,63,120,41,32,45,62,32,100,114,111,112,32,112,40,63,120,41]⟩),(⟨#[114,32,48,58,32,97,116,40,63,120,44,49,41,32,38,32,97,116,40,63,121,44,50,41,32,38,32,63,120,32,61,32,63,121,32,45,62,32,100,114,111,112,32,97,116,40,63,120,44,49,41,32,38,32,115,116,111,112]⟩),(⟨#[114,32,49,58,32,111,110,40,63,120,44,63,120,41,32,45,62,32,115,116,111,112]⟩),(⟨#[114,32,55,58,32,122,40,41,32,38,32,111,110,40,63,120,44,63,121,41,32,45,62,32,100,114,111,112,32,122,40,41,32,38,32,97,100,100,32,111,110,40,63,121,44,63,120,41]⟩)]:List ByteArray),ZMV s=true:=fun s ms=>AP.1 ZNs s ms
structure RS (r:Zf):Prop where
 cl:r.cond.length≤200
 tl:r.thn.length≤200
 ca:∀x∈r.cond,x.pattern.args.length≤200
 ta:∀a∈r.thn,a.pattern.args.length≤200
theorem ZiP.rs {s:ByteArray} {r:Zf} (h:ZiP s r) (hs:s.size≤100):RS r:=⟨by have:=h.cl;omega,by have:=h.tl;omega,fun x mx=>by have:=(h.ca x mx).1;omega,fun x mx=>by have:=h.ta x mx;omega⟩
theorem RS.name {r:Zf} (h:RS r) (n:ByteArray) (p:Int):RS { name:=n,priority:=p,cond:=r.cond,thn:=r.thn }:=⟨h.cl,h.tl,h.ca,h.ta⟩
theorem RS.small {r:Zf} (h:RS r):Za6 r:=⟨by have:=h.cl;omega,by have:=h.tl;omega,fun x mx=>by have:=h.ca x mx;omega,fun x mx=>by have:=h.ta x mx;omega⟩
theorem RK.rs {b:Bool} {r:Zf} (h:RK b r):RS r:=by
 obtain ⟨s,h1,_,h3⟩:=h
 exact h3.rs h1
theorem ZNv (L:List ByteArray) (N:Nat) (n:Int) (hN:L.length=N) (h0:0<n) (hn:n≤N) (hN2:N≤200) (hs:∀s∈L,s.size≤100) (hg:∀s∈L,ZMV s=true) {c:ZF} (hc:Qb c):∃r c',((Xb c n).bind fun v1=>chk (0≤v1.1∧v1.1<((N:Nat):Int)) <| (L[(A3 v1.1)]?).bind fun x2=>(QB x2).bind fun v3=>some (v3.1,v1.2))=some (r,c')∧RS r∧1≤r.cond.length∧1≤r.thn.length∧Qb c':=by
 obtain ⟨x,c',e,hx,hx2,hc'⟩:=ZcC hc h0 (by omega)
 have hl:x.toNat<L.length:=by omega
 have ml:=AJ hl
 obtain ⟨r,ok,er,hr⟩:=Znt (s:=L[x.toNat]) (by have:=hs _ ml;omega)
 obtain ⟨r2,ok2,er2,q1,q2⟩:=ZNO (hg _ ml)
 obtain ⟨rfl,rfl⟩:r=r2∧ok=ok2:=by
  have:=AI (er.symm.trans er2)
  exact ⟨congrArg Prod.fst this,congrArg Prod.snd this⟩
 refine ⟨r,c',?_,hr.rs (hs _ ml),q1,q2,hc'⟩
 rw [e,A0,Zi _ (by omega),A7 hl,A0,er]
 rfl
theorem ZLL {c:ZF} (h:Qb c) {m:Int} (h0:0<m):∃r c',ZKJ c m=some (r,c')∧RS r∧1≤r.cond.length∧1≤r.thn.length∧Qb c':=by
 unfold ZKJ
 exact ZNv _ 13 _ rfl (by split<;>omega) (by split<;>omega) (by omega) (by decide) ZNa h
theorem ZL3 {c:ZF} (h:Qb c):∃x c',ZK2 c=some (x,c')∧Qb c':=by
 unfold ZK2
 obtain ⟨b,c1,e1,h1⟩:=ZL5 h (n:=4) (by omega) (by omega)
 rw [e1,A0]
 split
 ·obtain ⟨x,c2,e2,h2⟩:=ZL6 h1
  exact ⟨x,c2,by rw [e2];rfl,h2⟩
 ·obtain ⟨x,c2,e2,_,h2⟩:=ZoD h1 (l:=[(⟨#[63,120]⟩),(⟨#[63,121]⟩),(⟨#[63,122]⟩)]) (by simp) (by simp)
  exact ⟨x,c2,by rw [e2];rfl,h2⟩
theorem ZLG {c:ZF} (h:Qb c):∃p c',ZKO c=some (p,c')∧p.args.length≤2∧Qb c':=by
 unfold ZKO
 obtain ⟨r,n,c1,e,n0,n1,_,hc⟩:=ZM0 h
 rw [e,A0]
 obtain ⟨row,c2,e2,h1,h2⟩:=ZMA (tm:=ZK2) (fun c hc=>ZL3 hc) (fun row c=>(({ rel:=r,args:=row }:Zv),c)) n0 (by omega) hc
 exact ⟨{ rel:=r,args:=row },c2,e2,by show row.length≤2;omega,h2⟩
theorem ZMu {c:ZF} (h:Qb c):∃p c',ZLj c=some (p,c')∧p.args.length≤4∧Qb c':=by
 unfold ZLj
 obtain ⟨f,c1,e1,a1,h1⟩:=ZLG h
 obtain ⟨k,c2,e2,k0,k1,h2⟩:=ZcC h1 (n:=10) (by omega) (by omega)
 rw [e1,A0,e2,A0]
 split
 ·obtain ⟨w,c3,e3,h3⟩:=ZLa h2
  exact ⟨{ rel:=w,args:=f.args },c3,by rw [e3];rfl,by show f.args.length≤4;omega,h3⟩
 ·split
  ·obtain ⟨w,c3,e3,h3⟩:=ZLa h2
   exact ⟨{ rel:=f.rel,args:=f.args++[w] },c3,by rw [e3,A0,Zi _ (by show f.args.length+1≤_;omega)],by simp;omega,h3⟩
  ·split
   ·obtain ⟨w,c3,e3,w0,w1,h3⟩:=ZcC h2 (n:=5) (by omega) (by omega)
    refine ⟨_,c3,by rw [e3,A0,Zi _ (by omega)],?_,h3⟩
    simp
    omega
   ·exact ⟨f,c2,rfl,by omega,h2⟩
theorem ZME {c:ZF} (h:Qb c):∃x c',ZLm c=some (x,c')∧x.pattern.args.length≤2∧Qb c':=by
 unfold ZLm
 obtain ⟨k,c1,e1,k0,k1,h1⟩:=ZcC h (n:=5) (by omega) (by omega)
 rw [e1,A0]
 have pat:∀kd:Int,∃x c',((ZKO c1).bind fun v2=>some (({ kind:=kd,pattern:=v2.1,left:=(⟨#[]⟩),right:=(⟨#[]⟩) }:Zr),v2.2))=some (x,c')∧x.pattern.args.length≤2∧Qb c':=fun kd=>by
  obtain ⟨p,c2,e2,a,h2⟩:=ZLG h1
  exact ⟨{ kind:=kd,pattern:=p,left:=⟨#[]⟩,right:=⟨#[]⟩ },c2,by rw [e2];rfl,a,h2⟩
 split
 ·exact pat 1
 ·split
  ·exact pat 1
  ·split
   ·exact pat 2
   ·obtain ⟨x,c2,e2,h2⟩:=ZL3 h1
    obtain ⟨y,c3,e3,h3⟩:=ZL3 h2
    obtain ⟨k,c4,e4,_,h4⟩:=ZK3 h3 (l:=[3,4,4,5]) (by simp) (by simp)
    refine ⟨{ kind:=k,pattern:={ rel:=⟨#[]⟩,args:=[] },left:=x,right:=y },c4,?_,by simp,h4⟩
    rw [e2,A0,e3,A0]
    unfold ZLY
    rw [e4];rfl
theorem ZMt {c:ZF} (h:Qb c):∃x c',ZLs c=some (x,c')∧x.pattern.args.length≤4∧Qb c':=by
 unfold ZLs
 obtain ⟨x,c1,e1,a1,h1⟩:=ZME h
 obtain ⟨k,c2,e2,k0,k1,h2⟩:=ZcC h1 (n:=12) (by omega) (by omega)
 rw [e1,A0,e2,A0]
 split
 ·obtain ⟨w,c3,e3,_,h3⟩:=ZK3 h2 (l:=[0,1,3,5,6,(-1)]) (by simp) (by simp)
  exact ⟨{ kind:=w,pattern:=x.pattern,left:=x.left,right:=x.right },c3,by rw [e3];rfl,by show x.pattern.args.length≤4;omega,h3⟩
 ·split
  ·obtain ⟨w,c3,e3,h3⟩:=ZLa h2
   exact ⟨{ kind:=x.kind,pattern:=x.pattern,left:=w,right:=x.right },c3,by rw [e3];rfl,by show x.pattern.args.length≤4;omega,h3⟩
  ·split
   ·obtain ⟨p,c3,e3,a,h3⟩:=ZMu h2
    exact ⟨{ kind:=x.kind,pattern:=p,left:=x.left,right:=x.right },c3,by rw [e3];rfl,a,h3⟩
   ·exact ⟨x,c2,rfl,by omega,h2⟩
def DrR (o:Option (Zf × ZF)):Prop:=∃r c',o=some (r,c')∧RS r∧1≤r.cond.length∧1≤r.thn.length∧Qb c'
theorem ZNR {R:List Zr} (hR:R.length≤3) (h1:1≤R.length) (ha:∀x∈R,x.pattern.args.length≤2) {T:List Zx} (hT:T.length≤2) (h2:1≤T.length) (hb:∀a∈T,a.pattern.args.length≤3) (nm:ByteArray) (pr:Int) {c:ZF} (hc:Qb c) {σ:Type}:∃r c',((ZbX ({ name:=nm,priority:=pr,cond:=R,thn:=T }:Zf)).bind fun v32=>
        if v32=true then
         some (.inr (.inr (({ name:=nm,priority:=pr,cond:=R,thn:=T }:Zf),c)))
        else
         (ZKJ c 99).bind fun v33=>
         some (.inr (.inr (v33.1,v33.2))))=some (.inr (.inr (r,c')):(List Int × Int × Int × List ByteArray × Int) ⊕ (σ ⊕ (Zf × ZF)))∧RS r∧1≤r.cond.length∧1≤r.thn.length∧Qb c':=by
 have hs:RS ({ name:=nm,priority:=pr,cond:=R,thn:=T }:Zf):=⟨by show R.length≤200;omega,by show T.length≤200;omega,fun x mx=>by have:=ha x mx;omega,fun a ma=>by have:=hb a ma;omega⟩
 rw [Zfr _ hs.small,A0]
 split
 ·exact ⟨_,_,rfl,hs,h1,h2,hc⟩
 ·obtain ⟨r,c2,e2,q⟩:=ZLL hc (m:=99) (by omega)
  exact ⟨r,c2,by rw [e2];rfl,q⟩
theorem ZM7 {c:ZF} (h:Qb c):DrR (ZLc c):=by
 unfold ZLc
 obtain ⟨pr,c1,e1,_,_,h1⟩:=ZcC h (n:=4) (by omega) (by omega)
 obtain ⟨p0,c2,e2,a2,h2⟩:=ZLG h1
 obtain ⟨n,c3,e3,n0,n1,h3⟩:=ZcC h2 (n:=3) (by omega) (by omega)
 rw [e1,A0,e2,A0,e3,A0]
 have inner:∀(R:List Zr),R.length≤3→1≤R.length→(∀x∈R,x.pattern.args.length≤2)→∀(rel:ByteArray) (V:List ByteArray) (m k:Nat) (cc:ZF) (row:List ByteArray),k+m=row.length→row.length≤3→Qb cc→∃r c',iter (σ:=(List Int) × Int × Int × (List ByteArray) × Int) (ρ:=(List Int × Int × Int × List Zr × Int) ⊕ (Zf × ZF))
     (fun s=>
      match s with
      | (f_22,f_23,f_24,row_25,u_17)=>
      if (decide (u_17<((row_25.length:Nat):Int)))=true then
       chk (0≤u_17∧u_17<((row_25.length:Nat):Int)) <|
       (row_25[(A3 u_17)]?).bind fun x26=>
       (Zab x26).bind fun v27=>
       if v27=true then
        (ZR V x26).bind fun v28=>
        if v28=true then
         some (.inl (f_22,f_23,f_24,row_25,(IntKind.i64.wrap (u_17+1))))
        else
         (ZKY ({ b:=f_22,i:=f_23,h:=f_24 }:ZF)).bind fun v29=>
         some (.inl (v29.2.b,v29.2.i,v29.2.h,(List.set row_25 (A3 u_17) v29.1),(IntKind.i64.wrap (u_17+1))))
       else
        some (.inl (f_22,f_23,f_24,row_25,(IntKind.i64.wrap (u_17+1))))
      else
       (ZKN ({ b:=f_22,i:=f_23,h:=f_24 }:ZF) [1,1,2]).bind fun v30=>
       (ZK1 v30.2 6).bind fun v31=>
       if v31.1=true then
        (ZbX ({ name:=(⟨#[114]⟩),priority:=pr,cond:=R,thn:=[({ kind:=v30.1,pattern:=({ rel:=rel,args:=row_25 }:Zv) }:Zx),({ kind:=3,pattern:=({ rel:=(⟨#[]⟩),args:=[] }:Zv) }:Zx)] }:Zf)).bind fun v32=>
        if v32=true then
         some (.inr (.inr (({ name:=(⟨#[114]⟩),priority:=pr,cond:=R,thn:=[({ kind:=v30.1,pattern:=({ rel:=rel,args:=row_25 }:Zv) }:Zx),({ kind:=3,pattern:=({ rel:=(⟨#[]⟩),args:=[] }:Zv) }:Zx)] }:Zf),v31.2)))
        else
         (ZKJ v31.2 99).bind fun v33=>
         some (.inr (.inr (v33.1,v33.2)))
       else
        (ZbX ({ name:=(⟨#[114]⟩),priority:=pr,cond:=R,thn:=[({ kind:=v30.1,pattern:=({ rel:=rel,args:=row_25 }:Zv) }:Zx)] }:Zf)).bind fun v34=>
        if v34=true then
         some (.inr (.inr (({ name:=(⟨#[114]⟩),priority:=pr,cond:=R,thn:=[({ kind:=v30.1,pattern:=({ rel:=rel,args:=row_25 }:Zv) }:Zx)] }:Zf),v31.2)))
        else
         (ZKJ v31.2 99).bind fun v35=>
         some (.inr (.inr (v35.1,v35.2))))
     (cc.b,cc.i,cc.h,row,((k:Nat):Int))=some (.inr (r,c'))∧RS r∧1≤r.cond.length∧1≤r.thn.length∧Qb c':=by
  intro R hR hR1 ha rel V m
  induction m with
  | zero=>
   intro k cc row hk hl hcc
   obtain ⟨kd,d1,g1,_,hd1⟩:=ZK3 hcc (l:=[1,1,2]) (by simp) (by simp)
   obtain ⟨o,d2,g2,hd2⟩:=ZL5 hd1 (n:=6) (by omega) (by omega)
   have fin:∀T:List Zx,T.length≤2→1≤T.length→(∀a∈T,a.pattern.args.length≤3)→_:=fun T t1 t2 t3=>ZNR (σ:=List Int × Int × Int × List Zr × Int) hR hR1 ha (T:=T) t1 t2 t3 (⟨#[114]⟩) pr hd2
   cases o with
   | true=>
    obtain ⟨r,c',e,q⟩:=fin [({ kind:=kd,pattern:=({ rel:=rel,args:=row }:Zv) }:Zx),({ kind:=3,pattern:=({ rel:=(⟨#[]⟩),args:=[] }:Zv) }:Zx)] (by simp) (by simp) (by simp;omega)
    refine ⟨r,c',YG ?_,q⟩
    simp only
    rw [if_neg (by simp;omega),show ({ b:=cc.b,i:=cc.i,h:=cc.h }:ZF)=cc from rfl,g1,A0,g2,A0,if_pos rfl]
    exact e
   | false=>
    obtain ⟨r,c',e,q⟩:=fin [({ kind:=kd,pattern:=({ rel:=rel,args:=row }:Zv) }:Zx)] (by simp) (by simp) (by simp;omega)
    refine ⟨r,c',YG ?_,q⟩
    simp only
    rw [if_neg (by simp;omega),show ({ b:=cc.b,i:=cc.i,h:=cc.h }:ZF)=cc from rfl,g1,A0,g2,A0,if_neg (by simp)]
    exact e
  | succ m ih=>
   intro k cc row hk hl hcc
   have hkl:k<row.length:=by omega
   have hw:IntKind.i64.wrap (((k:Nat):Int)+1)=((k+1:Nat):Int):=by rw [Xn (by omega) (by omega)];omega
   obtain ⟨a,d1,g1,hd1⟩:=ZL6 hcc
   by_cases hv:Ye row[k]=true
   ·by_cases ht:Yj V row[k]=true
    ·refine (YU (s':=(cc.b,cc.i,cc.h,row,((k+1:Nat):Int))) ?_) ▸ ih (k+1) cc row (by omega) hl hcc
     simp only
     rw [if_pos (by simp;omega),Zi _ (by omega),AA,A7 hkl,A0,Qt,A0,if_pos hv,YF,A0,if_pos ht,hw]
    ·refine (YU (s':=(d1.b,d1.i,d1.h,row.set k a,((k+1:Nat):Int))) ?_) ▸ ih (k+1) d1 (row.set k a) (by simp;omega) (by simpa using hl) hd1
     simp only
     rw [if_pos (by simp;omega),Zi _ (by omega),AA,A7 hkl,A0,Qt,A0,if_pos hv,YF,A0,if_neg ht,show ({ b:=cc.b,i:=cc.i,h:=cc.h }:ZF)=cc from rfl,g1,A0,hw]
   ·refine (YU (s':=(cc.b,cc.i,cc.h,row,((k+1:Nat):Int))) ?_) ▸ ih (k+1) cc row (by omega) hl hcc
    simp only
    rw [if_pos (by simp;omega),Zi _ (by omega),AA,A7 hkl,A0,Qt,A0,if_neg hv,hw]
 have outer:∀{body:(List Int × Int × Int × List Zr × Int)→Option ((List Int × Int × Int × List Zr × Int) ⊕ (Zf × ZF))},(∀(cc:ZF) (R:List Zr) (k:Nat),Qb cc→∃x c',x.pattern.args.length≤2∧Qb c'∧(R.length≤3→k≤3→body (cc.b,cc.i,cc.h,R,((k+1:Nat):Int))=some (.inl (c'.b,c'.i,c'.h,R++[x],((k:Nat):Int)))))→(∀(cc:ZF) (R:List Zr),Qb cc→R.length≤3→1≤R.length→(∀x∈R,x.pattern.args.length≤2)→∃r c',body (cc.b,cc.i,cc.h,R,0)=some (.inr (r,c'))∧RS r∧1≤r.cond.length∧1≤r.thn.length∧Qb c')→∀(k:Nat) (cc:ZF) (R:List Zr),Qb cc→R.length+k≤3→1≤R.length→(∀x∈R,x.pattern.args.length≤2)→DrR (iter body (cc.b,cc.i,cc.h,R,((k:Nat):Int))):=by
  intro body hs he k
  induction k with
  | zero=>
   intro cc R hcc hl hl1 ha
   obtain ⟨r,c',e,q⟩:=he cc R hcc (by omega) hl1 ha
   exact ⟨r,c',YG e,q⟩
  | succ k ih=>
   intro cc R hcc hl hl1 ha
   obtain ⟨x,c',hx,hc',e⟩:=hs cc R k hcc
   rw [YU (e (by omega) (by omega))]
   exact ih c' (R++[x]) hc' (by simp;omega) (by simp) fun y my=>by
    rcases A5.1 my with my | my
    ·exact ha y my
    ·simp at my;subst my;exact hx
 have hn:n=((n.toNat:Nat):Int):=by omega
 rw [hn]
 refine outer ?_ ?_ n.toNat c3 [{ kind:=1,pattern:=p0,left:=⟨#[]⟩,right:=⟨#[]⟩ }] h3 (by simp;omega) (by simp) (by simp;exact a2)
 ·intro cc R k hcc
  obtain ⟨x,c',e,hx,hc'⟩:=ZME hcc
  refine ⟨x,c',hx,hc',fun hR hk3=>?_⟩
  have hw:IntKind.i64.wrap ((((k+1:Nat)):Int) - 1)=((k:Nat):Int):=by rw [Xn (by omega) (by omega)];omega
  simp only
  rw [if_pos (decide_eq_true (by omega)),show ({ b:=cc.b,i:=cc.i,h:=cc.h }:ZF)=cc from rfl,e,A0,Zi _ (by omega),hw]
 ·intro cc R hcc hR hR1 ha
  obtain ⟨p,c4,e4,a4,h4⟩:=ZLG hcc
  obtain ⟨r,c',e,q⟩:=inner R hR hR1 ha p.rel (Yr ({ name:=(⟨#[114]⟩),priority:=pr,cond:=R,thn:=[] }:Zf) R.length) p.args.length 0 c4 p.args (by omega) (by omega) h4
  refine ⟨r,c',?_,q⟩
  simp only
  rw [if_neg (by simp),ZcP _ _ ⟨by show R.length≤_;omega,by simp,fun x mx=>by have:=ha x mx;omega,by simp⟩ (by show R.length≤4;omega),A0,AA,show ({ b:=cc.b,i:=cc.i,h:=cc.h }:ZF)=cc from rfl,e4,A0]
  exact e
theorem ZMD {c:ZF} (h:Qb c):DrR (ZLe c):=by
 unfold ZLe
 obtain ⟨b,c1,e1,h1⟩:=ZL5 h (n:=3) (by omega) (by omega)
 rw [e1,A0]
 split
 ·obtain ⟨r,c2,e2,q⟩:=ZM7 h1
  exact ⟨r,c2,by rw [e2];rfl,q⟩
 ·obtain ⟨r,c2,e2,q⟩:=ZLL h1 (m:=99) (by omega)
  exact ⟨r,c2,by rw [e2];rfl,q⟩
theorem ZNE {c:ZF} (h:Qb c):∃r c',ZLZ c=some (r,c')∧r.cond.length≤201∧r.thn.length≤201∧(∀x∈r.cond,x.pattern.args.length≤200)∧(∀a∈r.thn,a.pattern.args.length≤200)∧Qb c':=by
 unfold ZLZ
 obtain ⟨r,c1,e1,q,q1,q2,h1⟩:=ZMD h
 obtain ⟨k,c2,e2,k0,k1,h2⟩:=ZcC h1 (n:=14) (by omega) (by omega)
 have b1:=q.cl
 have b2:=q.tl
 rw [e1,A0,e2,A0]
 split
 ·obtain ⟨w,c3,e3,h3⟩:=ZLa h2
  exact ⟨{ name:=w,priority:=r.priority,cond:=r.cond,thn:=r.thn },c3,by rw [e3];rfl,by show r.cond.length≤_;omega,by show r.thn.length≤_;omega,q.ca,q.ta,h3⟩
 split
 ·obtain ⟨w,c3,e3,_,h3⟩:=ZK3 h2 (l:=[(-1),0,9,10]) (by simp) (by simp)
  exact ⟨{ name:=r.name,priority:=w,cond:=r.cond,thn:=r.thn },c3,by rw [e3];rfl,by show r.cond.length≤_;omega,by show r.thn.length≤_;omega,q.ca,q.ta,h3⟩
 split
 ·obtain ⟨x,c3,e3,ax,h3⟩:=ZMt h2
  refine ⟨{ name:=r.name,priority:=r.priority,cond:=r.cond++[x],thn:=r.thn },c3,by rw [e3,A0,Zi _ (by show r.cond.length+1≤_;omega)],by simp;omega,by show r.thn.length≤_;omega,fun y my=>?_,q.ta,h3⟩
  rcases A5.1 my with my | my
  ·exact q.ca y my
  ·simp at my;subst my;omega
 split
 ·obtain ⟨kd,c3,e3,_,h3⟩:=ZK3 h2 (l:=[0,1,2,3,4]) (by simp) (by simp)
  obtain ⟨p,c4,e4,ap,h4⟩:=ZMu h3
  refine ⟨{ name:=r.name,priority:=r.priority,cond:=r.cond,thn:=r.thn++[{ kind:=kd,pattern:=p }] },c4,by rw [e3,A0,e4,A0,Zi _ (by show r.thn.length+1≤_;omega)],by show r.cond.length≤_;omega,by simp;omega,q.ca,fun y my=>?_,h4⟩
  rcases A5.1 my with my | my
  ·exact q.ta y my
  ·simp at my;subst my;show p.args.length≤200;omega
 split
 ·exact ⟨{ name:=r.name,priority:=r.priority,cond:=r.cond.drop 1,thn:=r.thn },c2,by rw [Zi _ (by show 0≤1∧(1:Int)≤((r.cond.length:Nat):Int);omega)];rfl,by simp;omega,by show r.thn.length≤_;omega,fun y my=>q.ca y (AK my),q.ta,h2⟩
 split
 ·exact ⟨{ name:=r.name,priority:=r.priority,cond:=r.cond,thn:=r.thn.drop 1 },c2,by rw [Zi _ (by show 0≤1∧(1:Int)≤((r.thn.length:Nat):Int);omega)];rfl,by show r.cond.length≤_;omega,by simp;omega,q.ca,fun y my=>q.ta y (AK my),h2⟩
 split
 ·obtain ⟨w1,c3,e3,_,h3⟩:=ZoD h2 (l:=[(⟨#[63,102]⟩),(⟨#[63,97]⟩),(⟨#[63,103]⟩)]) (by simp) (by simp)
  obtain ⟨w2,c4,e4,_,h4⟩:=ZK3 h3 (l:=[1,2]) (by simp) (by simp)
  obtain ⟨w3,c5,e5,_,h5⟩:=ZoD h4 (l:=[(⟨#[63,102]⟩),(⟨#[63,120]⟩)]) (by simp) (by simp)
  exact ⟨_,c5,by rw [e3,A0,e4,A0,e5,A0],by simp,by simp,by simp,by simp,h5⟩
 ·exact ⟨r,c2,rfl,by omega,by omega,q.ca,q.ta,h2⟩
structure RB (r:Zf):Prop where
 cl:r.cond.length≤201
 tl:r.thn.length≤201
 ca:∀x∈r.cond,x.pattern.args.length≤200
 ta:∀a∈r.thn,a.pattern.args.length≤200
theorem RS.rb {r:Zf} (h:RS r):RB r:=⟨by have:=h.cl;omega,by have:=h.tl;omega,h.ca,h.ta⟩
theorem ZNQ {R:List Zf} (hl:R.length≤100) (h:∀r∈R,RB r):ZbC R:=by
 refine ⟨fun r mr=>?_,?_⟩
 ·have q:=h r mr
  exact ⟨by have:=q.cl;omega,by have:=q.tl;omega,fun x mx=>by have:=q.ca x mx;omega,fun x mx=>by have:=q.ta x mx;omega⟩
 have:∀l:List Zf,(∀r∈l,r∈R)→(l.flatMap Yc).length≤201 * l.length:=by
  intro l
  induction l with
  | nil=>intro _;simp
  | cons r l ih=>
   intro hm
   have h1:=ih fun q mq=>hm q (by simp [mq])
   have h2:=ZkR r
   have h3:=(h r (hm r (by simp))).cl
   rw [Ai,AQ,AN]
   omega
 have:=this R fun _ h=>h
 omega
theorem ZNJ {c:ZF} (h:Qb c) {m:Int} (h0:0≤m) (h7:m≤7):∃R c',ZL0 c m=some (R,c')∧R.length≤7∧(∀r∈R,RB r)∧Qb c':=by
 unfold ZL0
 have hw:IntKind.i64.wrap (m+1)=m+1:=Xn (by omega) (by omega)
 rw [hw]
 obtain ⟨n,c1,e,n0,n1,hc⟩:=ZcC h (n:=m+1) (by omega) (by omega)
 rw [e,A0]
 have key:∀(k:Nat) (cc:ZF) (row:List Zf),Qb cc→row.length+k≤7→(∀r∈row,RB r)→∃R c',iter (σ:=(List Int) × Int × Int × (List Zf) × Int)
  (fun s=>
   match s with
   | (f_4,f_5,f_6,row_7,n_8)=>
   if (decide (0<n_8))=true then
    (ZLe ({ b:=f_4,i:=f_5,h:=f_6 }:ZF)).bind fun v9=>
    (XO n_8).bind fun v10=>
    chk ((⟨#[114]⟩:ByteArray).size+v10.size≤9223372036854775807) <|
    chk (row_7.length+1≤1073741824) <|
    some (.inl (v9.2.b,v9.2.i,v9.2.h,(row_7++[({ name:=((⟨#[114]⟩:ByteArray)++v10),priority:=v9.1.priority,cond:=v9.1.cond,thn:=v9.1.thn }:Zf)]),(IntKind.i64.wrap (n_8 - 1))))
   else
    some (.inr (row_7,({ b:=f_4,i:=f_5,h:=f_6 }:ZF))))
  (cc.b,cc.i,cc.h,row,((k:Nat):Int))=some (R,c')∧R.length≤7∧(∀r∈R,RB r)∧Qb c':=by
  intro k
  induction k with
  | zero=>
   intro cc row hcc hl hr
   exact ⟨row,cc,YG rfl,by omega,hr,hcc⟩
  | succ k ih=>
   intro cc row hcc hl hr
   obtain ⟨r,c2,e2,hrk,_,_,hc2⟩:=ZMD hcc
   have hpos:decide (0<(((k+1:Nat)):Int))=true:=decide_eq_true (by omega)
   have hw:IntKind.i64.wrap ((((k+1:Nat)):Int) - 1)=((k:Nat):Int):=by rw [Xn (by omega) (by omega)];omega
   have hsz:(ofL (Lib.itoa ((k+1:Nat):Int))).size≤21:=Zss ⟨by omega,by omega⟩
   refine (YU (s':=(c2.b,c2.i,c2.h,row++[({ name:=((⟨#[114]⟩:ByteArray)++ofL (Lib.itoa ((k+1:Nat):Int))),priority:=r.priority,cond:=r.cond,thn:=r.thn }:Zf)],((k:Nat):Int))) ?_) ▸ ih c2 _ hc2 (by simp;omega) fun q mq=>?_
   ·simp only[hpos,if_true]
    rw [show ({ b:=cc.b,i:=cc.i,h:=cc.h }:ZF)=cc from rfl,e2,A0,ZfT ⟨by omega,by omega⟩,A0,Zi _ (by have:(⟨#[114]⟩:ByteArray).size=1:=rfl;omega),Zi _ (by omega),hw]
   ·rcases A5.1 mq with mq | mq
    ·exact hr q mq
    ·simp at mq;subst mq;exact (hrk.name _ _).rb
 have e5:n=((n.toNat:Nat):Int):=by omega
 have:=key n.toNat c1 [] hc (by simp;omega) (fun y hy=>by simp at hy)
 rw [←e5] at this
 exact this
theorem ZNt {c:ZF} (h:Qb c):∃R c',ZLy c=some (R,c')∧R.length≤20∧(∀r∈R,RB r)∧Qb c':=by
 unfold ZLy
 obtain ⟨R,c1,e1,r1,r2,h1⟩:=ZNJ h (m:=3) (by omega) (by omega)
 obtain ⟨k,c2,e2,k0,k1,h2⟩:=ZcC h1 (n:=10) (by omega) (by omega)
 rw [e1,A0,e2,A0]
 split
 ·obtain ⟨r,c3,e3,q1,q2,q3,q4,h3⟩:=ZNE h2
  refine ⟨R++[r],c3,by rw [e3,A0,Zi _ (by show R.length+1≤_;omega)],by simp;omega,fun y my=>?_,h3⟩
  rcases A5.1 my with my | my
  ·exact r2 y my
  ·simp at my;subst my;exact ⟨q1,q2,q3,q4⟩
 split
 ·obtain ⟨n,c3,e3,hn,h3⟩:=ZK3 h2 (l:=[6,7]) (by simp) (by simp)
  rw [e3,A0]
  have n67:n≤7:=by simp at hn;omega
  have key:∀(m j:Nat) (cc:ZF) (row:List Zf),20 - row.length≤m→j≤row.length→Qb cc→row.length≤20→(∀r∈row,RB r)→∃R c',iter (σ:=(List Int) × Int × Int × (List Zf) × Int)
    (fun s=>
     match s with
     | (f_7,f_8,f_9,row_10,i_11)=>
     if (decide (((row_10.length:Nat):Int)<n))=true then
      (ZKJ ({ b:=f_7,i:=f_8,h:=f_9 }:ZF) 6).bind fun v12=>
      (XO i_11).bind fun v13=>
      chk ((⟨#[107]⟩:ByteArray).size+v13.size≤9223372036854775807) <|
      chk (row_10.length+1≤1073741824) <|
      some (.inl (v12.2.b,v12.2.i,v12.2.h,(row_10++[({ name:=((⟨#[107]⟩:ByteArray)++v13),priority:=v12.1.priority,cond:=v12.1.cond,thn:=v12.1.thn }:Zf)]),(IntKind.i64.wrap (i_11+1))))
     else
      some (.inr (row_10,({ b:=f_7,i:=f_8,h:=f_9 }:ZF))))
    (cc.b,cc.i,cc.h,row,((j:Nat):Int))=some (R,c')∧R.length≤20∧(∀r∈R,RB r)∧Qb c':=by
   intro m
   induction m with
   | zero=>
    intro j cc row hm hj hcc hl hr
    refine ⟨row,cc,YG ?_,hl,hr,hcc⟩
    simp only
    rw [if_neg (by simp;omega)]
   | succ m ih=>
    intro j cc row hm hj hcc hl hr
    by_cases hlt:((row.length:Nat):Int)<n
    ·obtain ⟨r,c4,e4,hrs,_,_,h4⟩:=ZLL hcc (m:=6) (by omega)
     have hw:IntKind.i64.wrap (((j:Nat):Int)+1)=((j+1:Nat):Int):=by rw [Xn (by omega) (by omega)];omega
     have hsz:(ofL (Lib.itoa ((j:Nat):Int))).size≤21:=Zss ⟨by omega,by omega⟩
     refine (YU (s':=(c4.b,c4.i,c4.h,row++[({ name:=((⟨#[107]⟩:ByteArray)++ofL (Lib.itoa ((j:Nat):Int))),priority:=r.priority,cond:=r.cond,thn:=r.thn }:Zf)],((j+1:Nat):Int))) ?_) ▸ ih (j+1) c4 _ (by simp;omega) (by simp;omega) h4 (by simp;omega) fun q mq=>?_
     ·simp only
      rw [if_pos (by simpa using hlt),show ({ b:=cc.b,i:=cc.i,h:=cc.h }:ZF)=cc from rfl,e4,A0,ZfT ⟨by omega,by omega⟩,A0,Zi _ (by have:(⟨#[107]⟩:ByteArray).size=1:=rfl;omega),Zi _ (by omega),hw]
     ·rcases A5.1 mq with mq | mq
      ·exact hr q mq
      ·simp at mq;subst mq;exact (hrs.name _ _).rb
    ·refine ⟨row,cc,YG ?_,hl,hr,hcc⟩
     simp only
     rw [if_neg (by simpa using hlt)]
  exact key 20 0 c3 R (by omega) (by omega) h3 (by omega) r2
 ·exact ⟨R,c2,rfl,by omega,r2,h2⟩
theorem ZMs {f:Zd}:∀{l:List Zd},f∉l→(Zdn l f).length=l.length+1
 | [],_=>rfl
 | x::l,h=>by
  unfold Zdn
  split
  ·rw [AN,ZMs fun m=>h (by simp [m]),AN]
  ·split
   ·rename_i h0
    exact absurd ((Zdq.eq x f).1 h0) fun e=>h (by simp [e])
   ·simp
def ZMi (k:Nat):Zd:={ rel:=⟨#[110]⟩,args:=[ofL (Lib.itoa ((k:Nat):Int))] }
theorem ZNS {a b:List UInt8} (h:ofL a=ofL b):a=b:=by
 have:=congrArg toL h
 simpa [toL,ofL] using this
theorem ZNK {j k:Nat} (hj:j<25) (hk:k<25) (h:ZMi j=ZMi k):j=k:=by
 have h1:ofL (Lib.itoa ((j:Nat):Int))=ofL (Lib.itoa ((k:Nat):Int)):=by
  have:=congrArg Zd.args h
  simpa [ZMi] using this
 have h2:=ZNS h1
 rw [Lib.itoa_nonneg,Lib.itoa_nonneg] at h2
 have one:∀a b:Nat,a<200→b<200→AX a=AX b→a=b:=fun a b ha hb e=>by
  have:=congrArg UInt8.toNat e
  simp only[UInt8.toNat_ofNat'] at this
  omega
 by_cases a:j<10<;>by_cases b:k<10
 ·rw [Lib.decDigits_one a,Lib.decDigits_one b] at h2
  have:=one _ _ (by omega) (by omega) (Aj h2).1
  omega
 ·rw [Lib.decDigits_one a,Lib.decDigits_two b (by omega)] at h2
  simp at h2
 ·rw [Lib.decDigits_two a (by omega),Lib.decDigits_one b] at h2
  simp at h2
 ·rw [Lib.decDigits_two a (by omega),Lib.decDigits_two b (by omega)] at h2
  obtain ⟨e1,e2⟩:=Aj h2
  have q1:=one _ _ (by omega) (by omega) e1
  have q2:=one _ _ (by omega) (by omega) (Aj e2).1
  omega
theorem ZNN {c:ZF} (h:Qb c) {m:Int} (h0:0≤m) (h7:m≤7):∃l c',ZLS c m=some (l,c')∧l.length≤7∧(∀f∈l,f.args.length≤2∧f.rel≠⟨#[110]⟩)∧Qb c':=by
 unfold ZLS
 have hw:IntKind.i64.wrap (m+1)=m+1:=Xn (by omega) (by omega)
 rw [hw]
 obtain ⟨n,c1,e,n0,n1,hc⟩:=ZcC h (n:=m+1) (by omega) (by omega)
 rw [e,A0]
 have key:∀(k:Nat) (cc:ZF) (row:List Zd),Qb cc→row.length+k≤7→(∀f∈row,f.args.length≤2∧f.rel≠⟨#[110]⟩)→∃l c',iter (σ:=(List Int) × Int × Int × (List Zd) × Int)
  (fun s=>
   match s with
   | (f_4,f_5,f_6,row_7,n_8)=>
   if (decide (0<n_8))=true then
    (ZLg ({ b:=f_4,i:=f_5,h:=f_6 }:ZF)).bind fun v9=>
    (YI row_7 v9.1).bind fun v10=>
    some (.inl (v9.2.b,v9.2.i,v9.2.h,v10,(IntKind.i64.wrap (n_8 - 1))))
   else
    some (.inr (row_7,({ b:=f_4,i:=f_5,h:=f_6 }:ZF))))
  (cc.b,cc.i,cc.h,row,((k:Nat):Int))=some (l,c')∧l.length≤7∧(∀f∈l,f.args.length≤2∧f.rel≠⟨#[110]⟩)∧Qb c':=by
  intro k
  induction k with
  | zero=>
   intro cc row hcc hl hr
   exact ⟨row,cc,YG rfl,by omega,hr,hcc⟩
  | succ k ih=>
   intro cc row hcc hl hr
   obtain ⟨f,c2,e2,hf,hf2,hc2⟩:=ZMC hcc
   have hpos:decide (0<(((k+1:Nat)):Int))=true:=decide_eq_true (by omega)
   have hw:IntKind.i64.wrap ((((k+1:Nat)):Int) - 1)=((k:Nat):Int):=by rw [Xn (by omega) (by omega)];omega
   have hil:=ZjK f row
   refine (YU (s':=(c2.b,c2.i,c2.h,Zdn row f,((k:Nat):Int))) ?_) ▸ ih c2 _ hc2 (by omega) fun q mq=>?_
   ·simp only[hpos,if_true]
    rw [show ({ b:=cc.b,i:=cc.i,h:=cc.h }:ZF)=cc from rfl,e2,A0,Zk2 row f (by omega) (fun x mx=>by have:=(hr x mx).1;omega) (by omega),A0,hw]
   ·rcases Qm.1 mq with rfl | mq
    ·exact ⟨hf,hf2⟩
    ·exact hr q mq
 have e5:n=((n.toNat:Nat):Int):=by omega
 have:=key n.toNat c1 [] hc (by simp;omega) (fun y hy=>by simp at hy)
 rw [←e5] at this
 exact this
theorem ZNy {c:ZF} (h:Qb c):∃l c',ZLz c=some (l,c')∧l.length≤50∧(∀f∈l,f.args.length≤4)∧Qb c':=by
 unfold ZLz
 obtain ⟨l,c1,e1,l1,l2,h1⟩:=ZNN h (m:=6) (by omega) (by omega)
 obtain ⟨k,c2,e2,k0,k1,h2⟩:=ZcC h1 (n:=8) (by omega) (by omega)
 rw [e1,A0,e2,A0]
 split
 ·obtain ⟨f,c3,e3,q,h3⟩:=ZNH h2
  refine ⟨l++[f],c3,by rw [e3,A0,Zi _ (by show l.length+1≤_;omega)],by simp;omega,fun y my=>?_,h3⟩
  rcases A5.1 my with my | my
  ·have:=(l2 y my).1;omega
  ·simp at my;subst my;exact q
 split
 ·have key:∀(m k:Nat) (row:List Zd),k+m=25→k≤row.length→row.length≤7+k→(∀f∈row,f.args.length≤4∧(f.rel≠⟨#[110]⟩∨∃j,j<k∧f=ZMi j))→∃l' c',iter (σ:=(List Zd) × Int)
    (fun s=>
     match s with
     | (row_6,i_7)=>
     if (decide (i_7<25))=true then
      (XO i_7).bind fun v8=>
      (YI row_6 ({ rel:=(⟨#[110]⟩),args:=[v8] }:Zd)).bind fun v9=>
      some (.inl (v9,(IntKind.i64.wrap (i_7+1))))
     else
      (ZKN c2 [23,24,25]).bind fun v10=>
      chk (0≤v10.1∧v10.1≤((row_6.length:Nat):Int)) <|
      some (.inr ((List.drop 0 (List.take (A3 v10.1) row_6)),v10.2)))
    (row,((k:Nat):Int))=some (l',c')∧l'.length≤50∧(∀f∈l',f.args.length≤4)∧Qb c':=by
   intro m
   induction m with
   | zero=>
    intro k row hk h1 h3 hr
    obtain ⟨x,c3,e3,hx,h4⟩:=ZK3 h2 (l:=[23,24,25]) (by simp) (by simp)
    have hx2:0≤x∧x≤25:=by simp at hx;omega
    refine ⟨(row.take x.toNat).drop 0,c3,YG ?_,by rw [List.drop_zero,List.length_take];omega,fun f mf=>(hr f (Ac (AK mf))).1,h4⟩
    simp only
    rw [if_neg (by simp;omega),e3,A0,Zi _ (by show 0≤x∧x≤_;omega)]
   | succ m ih=>
    intro k row hk h1 h3 hr
    have hw:IntKind.i64.wrap (((k:Nat):Int)+1)=((k+1:Nat):Int):=by rw [Xn (by omega) (by omega)];omega
    have hnew:ZMi k∉row:=fun mk=>by
     rcases (hr _ mk).2 with hn | ⟨j,hj,e⟩
     ·exact hn rfl
     ·have:=ZNK (by omega) (by omega) e;omega
    have hil:=ZMs hnew
    refine (YU (s':=(Zdn row (ZMi k),((k+1:Nat):Int))) ?_) ▸ ih (k+1) (Zdn row (ZMi k)) (by omega) (by omega) (by omega) fun q mq=>?_
    ·simp only
     rw [if_pos (by simp;omega),ZfT ⟨by omega,by omega⟩,A0,show ({ rel:=(⟨#[110]⟩),args:=[ofL (Lib.itoa ((k:Nat):Int))] }:Zd)=ZMi k from rfl,Zk2 row (ZMi k) (by omega) (fun x mx=>by have:=(hr x mx).1;omega) (by simp [ZMi]),A0,hw]
    ·rcases Qm.1 mq with rfl | mq
     ·exact ⟨by simp [ZMi],.inr ⟨k,by omega,rfl⟩⟩
     ·obtain ⟨a1,a2⟩:=hr q mq
      refine ⟨a1,?_⟩
      rcases a2 with a2 | ⟨j,hj,e⟩
      ·exact .inl a2
      ·exact .inr ⟨j,by omega,e⟩
  exact key 25 0 l rfl (by omega) (by omega) fun f mf=>⟨by have:=(l2 f mf).1;omega,.inl (l2 f mf).2⟩
 ·exact ⟨l,c2,rfl,by omega,fun f mf=>by have:=(l2 f mf).1;omega,h2⟩
structure DrB (R:List Zf) (l:List Zd):Prop where
 rl:R.length≤20
 r:∀r∈R,RB r
 ll:l.length≤50
 a:∀f∈l,f.args.length≤4
theorem ZMn {c:ZF} (h:Qb c):∃R l c',ZLb c=some (R,l,c')∧DrB R l∧Qb c':=by
 unfold ZLb
 obtain ⟨R,c1,e1,r1,r2,h1⟩:=Zow h true
 obtain ⟨l,c2,e2,b1,b2,h2⟩:=ZqB h1 (m:=5) (by omega) (by omega)
 obtain ⟨k,c3,e3,k0,k1,h3⟩:=ZcC h2 (n:=12) (by omega) (by omega)
 rw [e1,A0,e2,A0,e3,A0]
 have rb:∀r∈R,RB r:=fun r mr=>(r2 r mr).rs.rb
 have la:∀f∈l,f.args.length≤4:=fun f mf=>by have:=b2 f mf;omega
 split
 ·obtain ⟨Q,c4,e4,q1,q2,h4⟩:=ZNt h3
  exact ⟨Q,l,c4,by rw [e4];rfl,⟨q1,q2,by omega,la⟩,h4⟩
 split
 ·obtain ⟨m,c4,e4,q1,q2,h4⟩:=ZNy h3
  exact ⟨R,m,c4,by rw [e4];rfl,⟨by omega,rb,q1,q2⟩,h4⟩
 ·exact ⟨R,l,c3,rfl,⟨by omega,rb,by omega,la⟩,h3⟩
theorem DrB.small {R:List Zf} {l:List Zd} (h:DrB R l):ZbC R:=ZNQ (by have:=h.rl;omega) h.r
open Classical
end
section
noncomputable def ZL4 (l:List Zr):Option Bool:=if l.length≤100∧(∀x∈l,x.pattern.args.length≤100) then some (ZKH l) else none
theorem ZMT (l:List Zr):Ref (ZL4 l) (ZKK l):=fun r h=>by
 unfold ZL4 at h
 split at h
 ·rename_i hc
  rw [ZK5 l (by omega) fun x mx=>by have:=hc.2 x mx;omega]
  exact h
 ·simp at h
noncomputable def ZML (s_0:ByteArray):Option ((List Zr) × Bool):=
 (ZKS s_0 (⟨#[32,38,32]⟩)).bind fun c=>
 forL (σ:=(List Zr))
  (fun (i9:Nat) (d:ByteArray) a=>
   (ZMK d).bind fun b=>
   if b.2=true then
    chk (a.length+1≤1073741824) <|
    some (.inl (a++[b.1]))
   else
    some (.inr ([],false)))
  (fun a=>
   (ZL4 a).bind fun e=>
   if e=true then
    some (a,true)
   else
    some ([],false))
  c 0 []
theorem ZNw (s:ByteArray):Ref (ZML s) (ZKI s):=by
 unfold ZML ZKI
 refine Ref.bind (ZKZ _ _) fun _=>Ref.forL (fun _ _ _=>?_) (fun _=>?_) _ _ _
 ·repeat' (first | with_reducible exact Ref.refl _ | exact ZM4 _ | apply Ref.bind | apply Ref.ite | apply Ref.chk | intro _)
 ·exact Ref.bind (ZMT _) fun _=>Ref.refl _
noncomputable def ZNI (s:ByteArray):Bool:=match ZML s with | some (q,_)=>decide (1≤q.length)&&decide (q.length≤4)&&q.all (fun x=>decide (x.pattern.args.length≤4)) | none=>false
theorem ZNF {s:ByteArray} (h:ZNI s=true):∃q ok,ZKI s=some (q,ok)∧1≤q.length∧q.length≤4∧∀x∈q,x.pattern.args.length≤4:=by
 unfold ZNI at h
 split at h
 ·rename_i q ok e
  rw [A4,A4,decide_eq_true_iff,decide_eq_true_iff,AP] at h
  exact ⟨q,ok,ZNw s _ e,h.1.1,h.1.2,fun x mx=>of_decide_eq_true (h.2 x mx)⟩
 ·simp at h
def ZMO:List ByteArray:=[(⟨#[112,40,63,120,41]⟩),(⟨#[111,110,40,63,120,44,63,121,41]⟩),(⟨#[111,110,40,63,120,44,63,121,41,32,38,32,112,40,63,121,41]⟩),(⟨#[113,40,63,120,41,32,38,32,110,111,116,32,112,40,63,120,41]⟩),(⟨#[111,110,40,63,120,44,63,121,41,32,38,32,63,120,32,33,61,32,63,121]⟩),(⟨#[112,40,63,120,41,32,38,32,110,111,116,32,111,110,40,63,120,44,63,122,41]⟩),(⟨#[111,110,40,97,44,63,121,41,32,38,32,111,110,40,63,121,44,63,122,41,32,38,32,110,111,116,32,113,40,63,122,41]⟩),(⟨#[122,40,41]⟩),(⟨#[112,40,63,120,41,32,38,32,112,40,63,121,41,32,38,32,63,120,32,60,32,63,121]⟩),(⟨#[111,110,40,63,120,44,63,120,41]⟩)]
theorem ZNd:ZMO.all ZNI=true:=by kernel_rfl
theorem ZM5 {c:ZF} (h:Qb c):∃q c',ZLf c=some (q,c')∧1≤q.length∧q.length≤4∧(∀x∈q,x.pattern.args.length≤4)∧Qb c':=by
 obtain ⟨s,c1,e1,ms,h1⟩:=ZoD h (l:=ZMO) (by decide) (by decide)
 obtain ⟨q,ok,e2,q1,q2,q3⟩:=ZNF (AP.1 ZNd s ms)
 refine ⟨q,c1,?_,q1,q2,q3,h1⟩
 unfold ZLf
 have e1':Zdx c ZMO=some (s,c1):=e1
 unfold ZMO at e1'
 rw [e1',A0]
 show (ZKI s).bind _=_
 rw [e2]
 rfl
theorem ZNB {c:ZF} (h:Qb c):∃q c',ZLn c=some (q,c')∧q.length≤5∧(∀x∈q,x.pattern.args.length≤4)∧Qb c':=by
 unfold ZLn
 obtain ⟨q,c1,e1,q1,q2,q3,h1⟩:=ZM5 h
 obtain ⟨k,c2,e2,k0,k1,h2⟩:=ZcC h1 (n:=8) (by omega) (by omega)
 rw [e1,A0,e2,A0]
 split
 ·obtain ⟨x,c3,e3,a,h3⟩:=ZMt h2
  refine ⟨q++[x],c3,by rw [e3,A0,Zi _ (by show q.length+1≤_;omega)],by simp;omega,fun y my=>?_,h3⟩
  rcases A5.1 my with my | my
  ·exact q3 y my
  ·simp at my;subst my;exact a
 ·split
  ·refine ⟨q.drop 1,c2,by rw [Zi _ (by show 0≤1∧(1:Int)≤((q.length:Nat):Int);omega)];rfl,by simp;omega,fun y my=>q3 y (AK my),h2⟩
  ·split
   ·obtain ⟨x,c3,e3,a,h3⟩:=ZMt h2
    exact ⟨[x],c3,by rw [e3];rfl,by simp,fun y my=>by simp at my;subst my;exact a,h3⟩
   ·exact ⟨q,c2,rfl,by omega,q3,h2⟩
theorem ZMg (code:List Int) (h:code.length≤4096):∃R l q,ZKP code=some (R,l,q)∧DrB R l∧q.length≤5∧∀x∈q,x.pattern.args.length≤4:=by
 unfold ZKP
 obtain ⟨c,e0,h0⟩:=ZtT code h
 obtain ⟨R,l,c1,e1,hD,h1⟩:=ZMn h0
 obtain ⟨q,c2,e2,q1,q2,h2⟩:=ZNB h1
 exact ⟨R,l,q,by rw [e0,A0,e1,A0];show (ZLn c1).bind _=_;rw [e2];rfl,hD,q1,q2⟩
theorem ZLT (code:List Int) (h:code.length≤4096):∃R l p,ZKF code=some (R,l,p)∧DrB R l∧p.args.length≤4:=by
 unfold ZKF
 obtain ⟨c,e0,h0⟩:=ZtT code h
 obtain ⟨R,l,c1,e1,hD,h1⟩:=ZMn h0
 obtain ⟨p,c2,e2,q1,h2⟩:=ZMu h1
 exact ⟨R,l,p,by rw [e0,A0,e1,A0];show (ZLj c1).bind _=_;rw [e2];rfl,hD,q1⟩
open Classical
theorem ZNl (a b:List Zp):ZLF a b=some (decide (a=b)):=ZLi a b
def ZLd (p:Zv):Zr:={ kind:=1,pattern:=p,left:=⟨#[]⟩,right:=⟨#[]⟩ }
theorem ZNq (p:Zv):ZKH [ZLd p]=Z0 p:=by
 cases hp:Z0 p with
 | false=>
  cases hq:ZKH [ZLd p] with
  | false=>rfl
  | true=>
   have:=(ZK7 hq).2.2 (ZLd p) (by simp)
   unfold Yz at this
   rw [if_pos (.inl rfl)] at this
   simp only[A4] at this
   have h2:=this.1.1
   rw [show (ZLd p).pattern=p from rfl,hp] at h2
   exact absurd h2 (by simp)
 | true=>
  have h3:p.args.length≤3:=by
   have h:=hp
   unfold Z0 at h
   simp only[A4,decide_eq_true_iff] at h
   exact h.1.2
  have hv:(ZQ ([ZLd p].flatMap Yt)).length≤6:=by
   have h1:=Zgv (ZLd p)
   have h2:=Zdy ([ZLd p].flatMap Yt)
   rw [Ai,Ax,Ay] at h2 ⊢
   have h4:(ZLd p).pattern.args.length=p.args.length:=rfl
   omega
  have hc:Yz (ZLd p)=true:=by
   unfold Yz
   rw [if_pos (.inl rfl),show (ZLd p).pattern=p from rfl,hp]
   rfl
  have hf:ZfL (ZKG ⟨#[113]⟩ [ZLd p]) 0 (ZLd p)=true:=by
   unfold ZfL Zj5
   rw [AP]
   intro v _
   simp [ZLd]
  unfold ZKH XX
  simp only[A4,decide_eq_true_eq]
  refine ⟨⟨⟨⟨⟨⟨⟨⟨⟨ZNg,AZ 0⟩,by show (0:Int)≤9;omega⟩,by simp [ZKG]⟩,by simp [ZKG]⟩,by simp [ZKG]⟩,by simp [ZKG]⟩,?_⟩,?_⟩,hv⟩
  ·show Zar _ [ZLd p] 0=true
   simp only[Zar,Az,A4]
   exact ⟨⟨hc,by simp [ZLd]⟩,hf⟩
  ·show ([ZNo].all fun a=>Xa a&&(YM a.pattern.args).all (Yj _))=true
   simp only[List.all_cons,List.all_nil,Az,A4]
   exact ⟨by decide,rfl⟩
theorem ZMU (p:Zv) (M:List Zd):ZM [ZLd p] M=M.filterMap fun f=>(Zan p f []).map fun b=>{ facts:=[f],binding:=b }:=by
 unfold ZM
 rw [Ag,List.foldl_nil]
 unfold ZfX
 rw [Ai,Ax,Ay]
 unfold ZgR
 rw [if_pos (show (ZLd p).kind=1 from rfl)]
 rfl
theorem ZMM (p:Zv) {M:List Zd} (hM:M.Nodup):(ZKE (ZM [ZLd p] M)).length=(Zcu p [] M).length:=by
 obtain ⟨_,h2,h3⟩:=ZLA (ZM [ZLd p] M)
 have hm:∀b,b∈ZKE (ZM [ZLd p] M)↔∃f∈M,Zan p f []=some b:=fun b=>by
  rw [h3,ZMU]
  constructor
  ·rintro ⟨t,mt,e⟩
   obtain ⟨f,mf,ef⟩:=Aa.1 mt
   obtain ⟨c,ec,rfl⟩:=A9.1 ef
   exact ⟨f,mf,by rw [ec];exact congrArg some e⟩
  ·rintro ⟨f,mf,e⟩
   exact ⟨_,Aa.2 ⟨f,mf,by rw [e];rfl⟩,rfl⟩
 let g:Zd→List Zp:=fun f=>(Zan p f []).getD []
 have hg:∀f∈Zcu p [] M,Zan p f []=some (g f):=fun f mf=>by
  obtain ⟨b,hb⟩:=At.1 (Ab.1 mf).2
  show _=some ((Zan p f []).getD [])
  rw [hb];rfl
 have hn:((Zcu p [] M).map g).Nodup:=List.pairwise_map.2 (List.Pairwise.imp_of_mem (fun {a c} ma mc hne e=>hne (ZNc (hg a ma) (by rw [hg c mc,e]))) (B1 List.filter_sublist hM))
 have l1:=Zcs h2 (m:=(Zcu p [] M).map g) fun b mb=>by
  obtain ⟨f,mf,e⟩:=(hm b).1 mb
  have mf2:f∈Zcu p [] M:=Ab.2 ⟨mf,by rw [e];rfl⟩
  refine AG.2 ⟨f,mf2,?_⟩
  have:=hg f mf2
  rw [e] at this
  exact (AI this).symm
 have l2:=Zcs hn (m:=ZKE (ZM [ZLd p] M)) fun b mb=>by
  obtain ⟨f,mf,rfl⟩:=AG.1 mb
  exact (hm _).2 ⟨f,(Ab.1 mf).1,hg f mf⟩
 rw [B2] at l1 l2
 omega
theorem ZNT (code:List Int) (h:code.length≤4096):((ZKF code).bind fun v66=>
      (ZKM v66.1 v66.2.1 v66.2.2).bind fun v67=>
      (ZKL v66.1 v66.2.1 ([({ kind:=1,pattern:=v66.2.2,left:=(⟨#[]⟩),right:=(⟨#[]⟩) }:Zr)])).bind fun v68=>
      if (v67.2==v68.2)=true then
       some (((v67.1.length:Nat):Int)==((v68.1.length:Nat):Int))
      else
       some false)=some true:=by
 obtain ⟨R,l,p,e1,hD,hp⟩:=ZLT code h
 have hl:=hD.ll
 rw [e1,A0]
 dsimp only
 obtain ⟨M,ok,m1,m2,hM⟩:=ZJt hD.small l (by omega)
 obtain ⟨A,ok2,a1,_,hA⟩:=ZLJ hD.small l (by omega) [ZLd p] (by simp) (fun x mx=>by simp at mx;subst mx;show p.args.length≤_;omega)
 have hfew:=hM.few
 have hq:ZKL R l [({ kind:=1,pattern:=p,left:=(⟨#[]⟩),right:=(⟨#[]⟩) }:Zr)]=some (A,ok2):=a1
 have hap:ZKM R l p=some (if ok=true∧Z0 p=true then (Zcu p [] M,true) else ([],false)):=by
  unfold ZKM
  rw [m2,A0]
  cases ok with
  | false=>simp
  | true=>
   simp only[if_true]
   rw [Za8,A0]
   cases hpb:Z0 p with
   | false=>simp
   | true=>
    have hml:=hfew.len
    simp only[if_true]
    rw [Zdc p [] M (by omega) (fun f mf=>by have:=Xg (hfew.ok f mf);omega)]
    simp
 rw [hap,A0,hq,A0]
 rcases hM with ⟨rfl,rfl⟩ | ⟨rfl,F,hG,h60,hMF⟩
 ·rcases hA with ⟨rfl,rfl,_⟩ | ⟨_,M2,h2,_⟩
  ·rfl
  ·rw [m2] at h2;simp at h2
 ·have hnd:M.Nodup:=by rw [hMF];exact B1 ZiB (Zg2 hG.good.asc)
  have hA2:(Z0 p=false∧ok2=false∧A=[])∨(Z0 p=true∧ok2=true∧A=ZKE (ZM [ZLd p] M)):=by
   rcases hA with ⟨rfl,rfl,h0⟩ | ⟨rfl,M2,h2,_,h4,rfl⟩
   ·have:=h0 M m2
    rw [ZNq] at this
    exact .inl ⟨this,rfl,rfl⟩
   ·rw [m2] at h2
    simp only[A6,B3,and_true] at h2
    subst h2
    rw [ZNq] at h4
    exact .inr ⟨h4,rfl,rfl⟩
  rcases hA2 with ⟨hpb,rfl,rfl⟩ | ⟨hpb,rfl,rfl⟩
  ·rw [hpb];rfl
  ·simp only[hpb,and_self,if_true]
   rw [if_pos (by simp),ZMM p hnd]
   simp
theorem ZMw (code:List Int):ZLH code=some true:=by
 unfold ZLH
 rw [ZtE,A0]
 split
 ·rfl
 rename_i hb
 have hc:=Zsp hb
 obtain ⟨R,base,q,e1,hD,hq,hqa⟩:=ZMg code hc
 have hR:=hD.small
 have hbl:=hD.ll
 have hq1:q.length≤1048576:=by omega
 have hqa1:∀x∈q,x.pattern.args.length≤1048576:=fun x mx=>by have:=hqa x mx;omega
 obtain ⟨M,ok,m1,m2,hM⟩:=ZJt hR base (by omega)
 obtain ⟨A,ok2,a1,_,hA⟩:=ZLJ hR base (by omega) q hq1 hqa1
 have hone:=ZNT code hc
 have hfew:=hM.few
 rw [e1]
 simp only[A0]
 rw [a1]
 simp only[A0]
 rw [m1]
 simp only[A0]
 rcases hM with ⟨rfl,rfl⟩ | ⟨rfl,F,hG,h60,hMF⟩
 ·rw [if_neg (by simp)]
  rcases hA with ⟨rfl,rfl,_⟩ | ⟨_,M2,h2,_⟩
  ·rw [if_pos (by rfl)]
   exact hone
  ·rw [m2] at h2;simp at h2
 ·rw [if_pos rfl,ZK5 q hq1 hqa1,A0]
  have hMl:=hfew.len
  have hMa:∀f∈M,f.args.length≤1048576:=fun f mf=>by have:=Xg (hfew.ok f mf);omega
  rcases hA with ⟨rfl,rfl,h0⟩ | ⟨rfl,M2,h2,_,h4,rfl⟩
  ·rw [h0 M m2,if_pos (by rfl)]
   exact hone
  ·rw [m2] at h2
   simp only[A6,B3,and_true] at h2
   subst h2
   obtain ⟨_,_,hcond⟩:=ZK7 h4
   obtain ⟨k1,k2,k3⟩:=ZLA (ZM q M)
   have htl:=ZeI M hMl q (ZK7 h4).2.1
   rw [h4,if_pos (by rfl)]
   have hall:∀b∈ZKE (ZM q M),b.length≤6∧∀x∈q,ZfV x b M=true:=fun b mb=>by
    obtain ⟨t,mt,rfl⟩:=(k3 b).1 mb
    exact ⟨Qr (Zec M _ t mt).bind,ZMJ hcond mt⟩
   generalize ZKE (ZM q M)=A at k1 k2 hall
   rw [Xh (p:=fun _ _=>true) (r:=false)]
   ·have:∀(l:List (List Zp)) (i:Nat),Zar (fun _ _=>true) l i=true:=by
     intro l
     induction l with
     | nil=>intro i;rfl
     | cons x l ih=>intro i;simp [Zar,ih]
    rw [this,if_pos rfl]
    exact hone
   ·intro j b hj
    have hjl:=(AF.1 hj).1
    obtain ⟨hb6,hbh⟩:=hall b (AR hj)
    rw [ZW (p:=fun _=>true) (r:=.inr false)]
    ·rw [if_pos (by simp),AL]
     have hit:∀(m k:Nat),k+m=j→iter (σ:=Int) (ρ:=Unit ⊕ Bool) (fun u_63=>
          if (decide (u_63<((j:Nat):Int)))=true then
           (atI A u_63).bind fun x64=>
           (ZLF b x64).bind fun v65=>
           if v65=true then
            some (.inr (.inr false))
           else
            some (.inl (IntKind.i64.wrap (u_63+1)))
          else
           some (.inr (.inl ()))) ((k:Nat):Int)=some (.inl ()):=by
      intro m
      induction m with
      | zero=>
       intro k hk
       exact YG (by rw [if_neg (by simp;omega)])
      | succ m ih=>
       intro k hk
       have hkl:k<A.length:=by omega
       have hne:¬b=A[k]:=fun e=>by
        have h1:=List.pairwise_iff_getElem.1 k2 k j hkl hjl (by omega)
        have h2:A[j]=b:=by rw [A7 hjl] at hj;exact AI hj
        exact h1 (by rw [←e,h2])
       rw [YU (s':=((k+1:Nat):Int)) (by
        rw [if_pos (by simp;omega),Zby,A7 hkl,A0,ZNl,A0,if_neg (by simpa using hne),Xn (by omega) (by omega)]
        rfl)]
       exact ih (k+1) (by omega)
     exact (hit j 0 (by omega)).trans rfl
    ·intro k x mx
     rw [ZkS x b M (by omega) (by omega) hMa,A0,hbh x mx]
     rfl
end
section
open Go.RowKit
def ZH {α β:Type} (R:α→β→Prop):List α→List β→Prop
 | [],[]=>True
 | a::l,b::r=>R a b∧ZH R l r
 | _,_=>False
section
variable {α β:Type} {R R':α→β→Prop}
theorem ZH.len:∀{l:List α} {r:List β},ZH R l r→l.length=r.length
 | [],[],_=>rfl
 | _::_,_::_,h=>by simp [h.2.len]
 | [],_::_,h=>h.elim
 | _::_,[],h=>h.elim
theorem ZH.mono:∀{l:List α} {r:List β},ZH R l r→(∀a b,a∈l→R a b→R' a b)→ZH R' l r
 | [],[],_,_=>trivial
 | _::_,_::_,h,f=>⟨f _ _ (by simp) h.1,h.2.mono fun a b m=>f a b (by simp [m])⟩
 | [],_::_,h,_=>h.elim
 | _::_,[],h,_=>h.elim
theorem ZH.at:∀{l:List α} {r:List β} {i:Nat} {a:α},ZH R l r→l[i]?=some a→∃b,r[i]?=some b∧R a b
 | [],[],_,_,_,h=>by simp at h
 | _::_,b::_,0,_,h,e=>by simp at e;subst e;exact ⟨b,by simp,h.1⟩
 | _::_,_::_,i+1,a,h,e=>by
  obtain ⟨b,h1,h2⟩:=h.2.at (i:=i) (a:=a) (by simpa using e)
  exact ⟨b,by simpa using h1,h2⟩
 | [],_::_,_,_,h,_=>h.elim
 | _::_,[],_,_,h,_=>h.elim
theorem ZH.set:∀{l:List α} {r:List β} {i:Nat} {a:α} {b:β},ZH R l r→R a b→ZH R (l.set i a) (r.set i b)
 | [],[],_,_,_,_,_=>trivial
 | _::_,_::_,0,_,_,h,e=>⟨e,h.2⟩
 | _::_,_::_,_+1,_,_,h,e=>⟨h.1,h.2.set e⟩
 | [],_::_,_,_,_,h,_=>h.elim
 | _::_,[],_,_,_,h,_=>h.elim
theorem ZH.drop:∀{l:List α} {r:List β} (n:Nat),ZH R l r→ZH R (l.drop n) (r.drop n)
 | _,_,0,h=>by simpa using h
 | [],[],n+1,_=>by simp [ZH]
 | _::_,_::_,n+1,h=>by simpa using h.2.drop n
 | [],_::_,_+1,h=>h.elim
 | _::_,[],_+1,h=>h.elim
theorem ZH.take:∀{l:List α} {r:List β} (n:Nat),ZH R l r→ZH R (l.take n) (r.take n)
 | _,_,0,h=>by simp [ZH]
 | [],[],n+1,_=>by simp [ZH]
 | _::_,_::_,n+1,h=>by simpa using ⟨h.1,h.2.take n⟩
 | [],_::_,_+1,h=>h.elim
 | _::_,[],_+1,h=>h.elim
theorem ZH.append:∀{l l':List α} {r r':List β},ZH R l r→ZH R l' r'→ZH R (l++l') (r++r')
 | [],_,[],_,_,h=>h
 | _::_,_,_::_,_,h,h'=>⟨h.1,h.2.append h'⟩
 | [],_,_::_,_,h,_=>h.elim
 | _::_,_,[],_,h,_=>h.elim
end
class NW where
 B0:Nat
structure Gh where
 val:Nat→Value
 O:Nat→List Nat
 D:Nat→List Nat
 Z:Nat→Prop
def Gh.own (g:Gh) (b:Nat):Prop:=(∃k,b∈g.O k)∨g.Z b
def Gh.low (g:Gh) (b:Nat):Prop:=g.own b∨∃k,b∈g.D k
structure X7 (g g':Gh) (n:Nat):Prop where
 own:∀b,g'.own b→g.own b∨n≤b
 low:∀b,g'.low b→g.low b∨n≤b
structure Y7 (g' g:Gh):Prop where
 own:∀b,g'.own b→g.own b
 low:∀b,g'.low b→g.low b
theorem X7.refl (g:Gh) (n:Nat):X7 g g n:=⟨fun _ h=>.inl h,fun _ h=>.inl h⟩
theorem Y7.refl (g:Gh):Y7 g g:=⟨fun _ h=>h,fun _ h=>h⟩
theorem Y7.trans {a b c:Gh} (h:Y7 a b) (k:Y7 b c):Y7 a c:=⟨fun x hx=>k.own x (h.own x hx),fun x hx=>k.low x (h.low x hx)⟩
theorem Y7.grow {g' g:Gh} (h:Y7 g' g) (n:Nat):X7 g g' n:=⟨fun x hx=>.inl (h.own x hx),fun x hx=>.inl (h.low x hx)⟩
theorem Y7.of {g' g:Gh} (h:∀b,g'.own b→g.own b) (k:∀j b,b∈g'.D j→∃i,b∈g.D i):Y7 g' g:=⟨h,fun x hx=>hx.imp (h x) fun ⟨j,mj⟩=>k j x mj⟩
theorem X7.of {g g':Gh} {n:Nat} (h:∀b,g'.own b→g.own b∨n≤b) (k:∀j b,b∈g'.D j→g.low b∨n≤b):X7 g g' n:=⟨h,fun x hx=>by
 rcases hx with hx | ⟨j,mj⟩
 ·exact (h x hx).imp (fun q=>.inl q) id
 ·exact k j x mj⟩
structure QK extends World where
 z:Nat→Prop
 x:Nat→Prop
 hv:Option Value
structure Bel (W:QK) (w:World):Prop where
 os:w.os=W.os
 tape:w.tape=W.tape
 output:w.output=W.output
 size:W.heap.size≤w.heap.size
 block:∀k,k<W.heap.size→¬W.x k→w.heap[k]?=W.heap[k]?
theorem Bel.trans {W:QK} {w w':World} (h:Bel W w) (k:Below w.heap.size w w'):Bel W w':=
 ⟨k.os.trans h.os,k.tape.trans h.tape,k.output.trans h.output,Nat.le_trans h.size k.size,fun i hi hx=>(k.block i (Nat.lt_of_lt_of_le hi h.size)).trans (h.block i hi hx)⟩
def NR [NW] (g:Gh) (w:World) (x:CT) (v:Value):Prop:=
 ∃e m xs cs L,x=.sl e m xs∧0<m∧w.ownsV 0 e m v xs.length cs∧REs w m xs cs L∧(v.ownBlock.toList++L).Nodup∧∀b∈v.ownBlock.toList++L,¬g.low b∧NW.B0≤b∧∃cur t,w.heap[b]?=some (.cells cur t (0,0))
def AVR [NW] (g:Gh) (w:World):AV→Value→Prop
 | .c x,v=>∃L,RC w x v L∧∀b∈L,¬g.own b
 | .n x,v=>NR g w x v
 | .row k,v=>v=g.val k∧v.oneCell'=true
 | .nil _ _,v=>v=.slice none 0 0
 | .dead,v=>v.oneCell'=true
def PVR [NW] (g:Gh) (w:World):Bool→List AV→Value→Prop
 | true,cs,v=>∃vs:List Value,v=.agg vs.toArray∧ZH (AVR g w) cs vs
 | false,cs,v=>∃x,cs=[x]∧AVR g w x v
def SVR [NW] (g:Gh) (w:World):SV→Value→Prop
 | .any,_=>True
 | .und,v=>v=undef
 | .p a cs,v=>PVR g w a cs v
 | .tup xs,v=>∃vs:List Value,v=.tuple vs.toArray∧ZH (fun x u=>PVR g w x.1 x.2 u) xs vs
 | .bp k off,v=>∃b,g.val k=.pointer (some ⟨b,0,none⟩)∧v=.pointer (some ⟨b,off,none⟩)
 | .rp k m i off,v=>∃b o n c,g.val k=.slice (some ⟨b,o,none⟩) n c∧v=.pointer (some ⟨b,o+(i * m+off),none⟩)
 | .ep e off,v=>∃b lo cs L,v=.pointer (some ⟨b,lo+off,none⟩)∧Q9 w b lo cs∧RCs w e cs L∧(∀x∈b::L,¬g.own x)∧b<w.heap.size
 | .fn f,v=>v=.func (.func f) #[] #[]
def ObR [NW] (g:Gh) (w:World) (k:Nat):Ob→Prop
 | .gone=>g.O k=[]∧g.D k=[]
 | .box t cs=>∃b vs,g.val k=.pointer (some ⟨b,0,none⟩)∧g.O k=[b]∧g.D k=[]∧w.heap[b]?=some (.cells vs.toArray t (0,0))∧ZH (AVR g w) cs vs
 | .row e m xs d=>0<m∧∃cs L,w.ownsV 0 e m (g.val k) xs.length cs∧REs w m xs cs L∧((d=2∧g.O k=(g.val k).ownBlock.toList∧g.D k=L)∨(d=1∧g.O k=(g.val k).ownBlock.toList∧g.D k=[]∧∀b∈L,¬g.own b)∨(d=0∧g.O k=[]∧g.D k=[]∧∀b∈(g.val k).ownBlock.toList++L,¬g.own b))
 | .map kk vk kv=>∃b es c,g.val k=.map (some b)∧g.O k=[b]∧g.D k=[]∧w.heap[b]?=some (.map es c)∧Zc2 es=kv∧Zib kk vk kv
def Xk (w:World) (o:Ob) (b:Nat):Prop:=
 match o with
 | .map _ _ _=>∃es c,w.heap[b]?=some (.map es c)
 | _=>∃cur e,w.heap[b]?=some (.cells cur e (0,0))
theorem Xk.lt {w:World} {o:Ob} {b:Nat} (h:Xk w o b):b<w.heap.size:=by
 unfold Xk at h
 split at h
 ·obtain ⟨_,_,h⟩:=h;exact (Ak.1 h).1
 ·obtain ⟨_,_,h⟩:=h;exact (Ak.1 h).1
theorem Xk.keep {w w':World} {o:Ob} {b:Nat} (h:Xk w o b) (e:w'.heap[b]?=w.heap[b]?):Xk w' o b:=by
 unfold Xk at h ⊢
 rw [e];exact h
def ZhR:Ob→Bool
 | .map _ _ _=>true
 | _=>false
theorem Xk.of {w:World} {o o':Ob} {b:Nat} (h:Xk w o b) (e:ZhR o'=ZhR o):Xk w o' b:=by
 cases o<;>cases o'<;>simp [ZhR] at e<;>exact h
structure HI [NW] (W:QK) (g:Gh) (ob:Nat→Ob) (w:World):Prop where
 below:Bel W w
 obs:∀k,ObR g w k (ob k)
 nodup:∀k,(g.O k++g.D k).Nodup
 apart:∀k j,k≠j→∀b∈g.O k++g.D k,b∉g.O j++g.D j
 plain:∀k,∀b∈g.O k++g.D k,(W.heap.size≤b∨W.x b)∧Xk w (ob k) b
 gz:g.Z=W.z
 zx:∀b,W.z b→b<W.heap.size∧¬W.x b
 nw:∀b,(W.heap.size≤b∨W.x b)→NW.B0≤b
def avU (U:Nat→Prop):AV→Prop
 | .row k=>U k
 | _=>True
def X6 (U:Nat→Prop) (cs:List AV):Prop:=∀x∈cs,avU U x
def svU (U:Nat→Prop):SV→Prop
 | .p _ cs=>X6 U cs
 | .tup xs=>∀x∈xs,X6 U x.2
 | .bp k _=>U k
 | .rp k _ _ _=>U k
 | _=>True
def obU (U:Nat→Prop):Ob→Prop
 | .box _ cs=>X6 U cs
 | _=>True
structure StU (U:Nat→Prop) (st:St):Prop where
 sl:∀t,svU U (st.sl t)
 ob:∀k,obU U (st.ob k)
 gone:∀k,¬U k→st.ob k=.gone
theorem HI.lt [NW] {W:QK} {g:Gh} {ob:Nat→Ob} {w:World} (h:HI W g ob w) (k:Nat):∀b∈g.O k++g.D k,b<w.heap.size:=by
 intro b m
 exact (h.plain k b m).2.lt
theorem HI.nz [NW] {W:QK} {g:Gh} {ob:Nat→Ob} {w:World} (h:HI W g ob w) {k b:Nat} (m:b∈g.O k++g.D k):¬g.Z b:=fun hz=>by
 rw [h.gz] at hz
 obtain ⟨h1,h2⟩:=h.zx b hz
 rcases (h.plain k b m).1 with h3 | h3
 ·omega
 ·exact h2 h3
section
variable {g g':Gh} {w w':World} {U:Nat→Prop}
theorem NR.move [NW] {x:CT} {v:Value} (h:NR g w x v)
  (hw:∀b,b<w.heap.size→¬g.own b→w'.heap[b]?=w.heap[b]?) (ho:X7 g g' w.heap.size):NR g' w' x v:=by
 obtain ⟨e,m,xs,cs,L,h1,h2,h3,h4,h5,h6⟩:=h
 have hlt:∀b∈v.ownBlock.toList++L,b<w.heap.size:=fun b mb=>by
  obtain ⟨_,_,_,_,q⟩:=h6 b mb
  exact (Ak.1 q).1
 have hs:∀b∈v.ownBlock.toList++L,w'.heap[b]?=w.heap[b]?:=fun b mb=>hw b (hlt b mb) fun o=>(h6 b mb).1 (.inl o)
 refine ⟨e,m,xs,cs,L,h1,h2,Zhf h3 fun b mb=>hs b (by simp [mb]),h4.keep fun b mb=>hs b (by simp [mb]),h5,fun b mb=>⟨fun o=>?_,(h6 b mb).2.1,by rw [hs b mb];exact (h6 b mb).2.2⟩⟩
 rcases ho.low b o with o | o
 ·exact (h6 b mb).1 o
 ·have:=hlt b mb;omega
theorem AVR.move [NW] {x:AV} {v:Value} (h:AVR g w x v) (hx:avU U x) (hv:∀k,U k→g'.val k=g.val k)
  (hw:∀b,b<w.heap.size→¬g.own b→w'.heap[b]?=w.heap[b]?) (ho:X7 g g' w.heap.size):AVR g' w' x v:=by
 cases x with
 | c x=>
  obtain ⟨L,h1,h2⟩:=h
  have hlt:=h1.lt
  refine ⟨L,h1.keep fun b m=>hw b (hlt b m) (h2 b m),fun b m o=>?_⟩
  rcases ho.own b o with o | o
  ·exact h2 b m o
  ·have:=hlt b m;omega
 | n x=>exact NR.move h hw ho
 | row k=>exact ⟨h.1.trans (hv k hx).symm,h.2⟩
 | nil e m=>exact h
 | dead=>exact h
theorem AVRs.move [NW] {cs:List AV} {vs:List Value} (h:ZH (AVR g w) cs vs) (hx:X6 U cs) (hv:∀k,U k→g'.val k=g.val k)
  (hw:∀b,b<w.heap.size→¬g.own b→w'.heap[b]?=w.heap[b]?) (ho:X7 g g' w.heap.size):ZH (AVR g' w') cs vs:=
 h.mono fun a _ m r=>r.move (hx a m) hv hw ho
theorem PVR.move [NW] {a:Bool} {cs:List AV} {v:Value} (h:PVR g w a cs v) (hx:X6 U cs) (hv:∀k,U k→g'.val k=g.val k)
  (hw:∀b,b<w.heap.size→¬g.own b→w'.heap[b]?=w.heap[b]?) (ho:X7 g g' w.heap.size):PVR g' w' a cs v:=by
 cases a with
 | true=>obtain ⟨vs,h1,h2⟩:=h;exact ⟨vs,h1,AVRs.move h2 hx hv hw ho⟩
 | false=>obtain ⟨x,h1,h2⟩:=h;exact ⟨x,h1,h2.move (hx x (by simp [h1])) hv hw ho⟩
theorem SVR.move [NW] {s:SV} {v:Value} (h:SVR g w s v) (hx:svU U s) (hv:∀k,U k→g'.val k=g.val k)
  (hw:∀b,b<w.heap.size→¬g.own b→w'.heap[b]?=w.heap[b]?) (ho:X7 g g' w.heap.size) (hs:w.heap.size≤w'.heap.size):SVR g' w' s v:=by
 cases s with
 | any=>exact h
 | und=>exact h
 | p a cs=>exact PVR.move h hx hv hw ho
 | tup xs=>
  obtain ⟨vs,h1,h2⟩:=h
  exact ⟨vs,h1,h2.mono fun x _ m r=>r.move (hx x m) hv hw ho⟩
 | bp k off=>obtain ⟨b,h1,h2⟩:=h;exact ⟨b,(hv k hx).trans h1,h2⟩
 | rp k m i off=>obtain ⟨b,o,n,c,h1,h2⟩:=h;exact ⟨b,o,n,c,(hv k hx).trans h1,h2⟩
 | ep e off=>
  obtain ⟨b,lo,cs,L,h1,h2,h3,h4,h5⟩:=h
  have hlt:=h3.lt
  refine ⟨b,lo,cs,L,h1,fun j u hu=>?_,h3.keep fun x m=>hw x (hlt x m) (h4 x (by simp [m])),fun x m o=>?_,by omega⟩
  ·rw [←h2 j u hu];exact World.cell?_of_block (hw b h5 (h4 b (by simp)))
  ·rcases ho.own x o with o | o
   ·exact h4 x m o
   ·rcases AS.1 m with rfl | m
    ·omega
    ·have:=hlt x m;omega
 | fn f=>exact h
theorem HI.step [NW] {W:QK} {ob ob':Nat→Ob} (h:HI W g ob w) (T:Nat→Prop)
  (hbel:Bel W w') (hZ:g'.Z=g.Z)
  (hw:∀b,b<w.heap.size→(∀k,T k→b∉g.O k)→w'.heap[b]?=w.heap[b]?)
  (hk:∀k,¬T k→ob' k=ob k∧g'.val k=g.val k∧g'.O k=g.O k∧g'.D k=g.D k)
  (hobU:∀k,obU U (ob k)) (hv:∀k,U k→g'.val k=g.val k)
  (ho:X7 g g' w.heap.size)
  (hT:∀k,T k→ObR g' w' k (ob' k)∧(g'.O k++g'.D k).Nodup∧(∀b∈g'.O k++g'.D k,(W.heap.size≤b∨W.x b)∧Xk w' (ob' k) b)∧∀j,k≠j→∀b∈g'.O k++g'.D k,b∉g'.O j++g'.D j):
  HI W g' ob' w':=by
 have hw':∀b,b<w.heap.size→¬g.own b→w'.heap[b]?=w.heap[b]?:=fun b hb hn=>hw b hb fun k _ m=>hn (.inl ⟨k,m⟩)
 have hkeepF:∀k,¬T k→∀b∈g.O k++g.D k,w'.heap[b]?=w.heap[b]?:=fun k hk b m=>
  hw b (h.lt k b m) fun j hj mj=>h.apart j k (fun e=>hk (e ▸ hj)) b (by simp [mj]) m
 refine ⟨hbel,fun k=>?_,fun k=>?_,fun k j hkj b m=>?_,fun k b m=>?_,hZ.trans h.gz,h.zx,h.nw⟩
 ·by_cases hTk:T k
  ·exact (hT k hTk).1
  ·obtain ⟨e1,e2,e3,e4⟩:=hk k hTk
   have hob:=h.obs k
   have hF:=hkeepF k hTk
   have hU:=hobU k
   rw [e1]
   cases hok:ob k with
   | gone=>rw [hok] at hob;exact ⟨e3.trans hob.1,e4.trans hob.2⟩
   | box t cs=>
    rw [hok] at hob hU
    obtain ⟨b,vs,h1,h2,h3,h4,h5⟩:=hob
    exact ⟨b,vs,e2.trans h1,e3.trans h2,e4.trans h3,by rw [hF b (by simp [h2])];exact h4,AVRs.move h5 hU hv hw' ho⟩
   | map kk vk kv=>
    rw [hok] at hob
    obtain ⟨b,es,c,h1,h2,h3,h4,h5⟩:=hob
    exact ⟨b,es,c,e2.trans h1,e3.trans h2,e4.trans h3,by rw [hF b (by simp [h2])];exact h4,h5⟩
   | row e m xs d=>
    rw [hok] at hob
    obtain ⟨hm,cs,L,h1,h2,h4⟩:=hob
    have hltL:=h2.lt
    have hL:∀b∈L,w'.heap[b]?=w.heap[b]?:=fun b mb=>by
     rcases h4 with ⟨_,_,h4⟩ | ⟨_,_,_,h4⟩ | ⟨_,_,_,h4⟩
     ·exact hF b (by simp [h4,mb])
     ·exact hw' b (hltL b mb) (h4 b mb)
     ·exact hw' b (hltL b mb) (h4 b (by simp [mb]))
    have hOb:∀b∈(g.val k).ownBlock.toList,w'.heap[b]?=w.heap[b]?:=fun b mb=>by
     rcases h4 with ⟨_,h3,_⟩ | ⟨_,h3,_⟩ | ⟨_,_,_,h4⟩
     ·exact hF b (by simp [h3,mb])
     ·exact hF b (by simp [h3,mb])
     ·exact hw' b (Zp8 h1 b mb) (h4 b (by simp [mb]))
    refine ⟨hm,cs,L,by rw [e2];exact Zhf h1 hOb,h2.keep hL,?_⟩
    rw [e2,e3,e4]
    have hno:∀b,b<w.heap.size→¬g.own b→¬g'.own b:=fun b hb hn o=>by
     rcases ho.own b o with o | o
     ·exact hn o
     ·omega
    rcases h4 with h4 | ⟨hd,h3,h4,h5⟩ | ⟨hd,h3,h4,h5⟩
    ·exact .inl h4
    ·exact .inr (.inl ⟨hd,h3,h4,fun b mb=>hno b (hltL b mb) (h5 b mb)⟩)
    ·refine .inr (.inr ⟨hd,h3,h4,fun b mb=>?_⟩)
     rcases A5.1 mb with m1 | m1
     ·exact hno b (Zp8 h1 b m1) (h5 b mb)
     ·exact hno b (hltL b m1) (h5 b mb)
 ·by_cases hTk:T k
  ·exact (hT k hTk).2.1
  ·obtain ⟨e1,e2,e3,e4⟩:=hk k hTk
   rw [e3,e4];exact h.nodup k
 ·by_cases hTk:T k
  ·exact (hT k hTk).2.2.2 j hkj b m
  ·by_cases hTj:T j
   ·exact fun mj=>(hT j hTj).2.2.2 k (fun e=>hkj e.symm) b mj m
   ·obtain ⟨_,_,e3,e4⟩:=hk k hTk
    obtain ⟨_,_,f3,f4⟩:=hk j hTj
    rw [e3,e4] at m
    rw [f3,f4]
    exact h.apart k j hkj b m
 ·by_cases hTk:T k
  ·exact (hT k hTk).2.2.1 b m
  ·obtain ⟨_,_,e3,e4⟩:=hk k hTk
   rw [e3,e4] at m
   obtain ⟨p1,p2⟩:=h.plain k b m
   obtain ⟨e1,_⟩:=hk k hTk
   exact ⟨p1,by rw [e1];exact p2.keep (hkeepF k hTk b m)⟩
end
structure Inv [NW] (W:QK) (U:Nat→Prop) (st:St) (a:Act) (w:World):Prop where
 ex:∃g,HI W g st.ob w∧∀t,SVR g w (st.sl t) (a.tmps.getD t undef)
 wf:StU U st
 defers:a.defers=[]
 hand:∀v,W.hv=some v→a.tmps.getD 0 undef=v
end
section
open Go.RowKit
def QV:AV→Value→Bool
 | .c (.int k n),.int k' n'=>k==k'&&n==n'
 | .c (.bool b),.bool b'=>b==b'
 | .c (.str s),.string s'=>s.data.toList==s'.data.toList&&Z2 s
 | .nil _ m,.slice none 0 0=>Nat.blt 0 m
 | _,_=>false
def ZgW:TypeDesc→AV→Bool
 | .int k,.c (.int k' _)=>k==k'
 | .bool,.c (.bool _)=>true
 | .string,.c (.str _)=>true
 | _,_=>false
def Zpk:TypeDesc→Bool
 | .struct _=>true
 | .array _ _=>true
 | _=>false
def Zc4:PK→TypeDesc→Bool
 | .int k,.int k'=>k==k'
 | .str,.string=>true
 | .bool,.bool=>true
 | _,_=>false
def EqF (P:Program):List PK→List Field→Nat→Prop
 | [],[],_=>True
 | k :: ks, f :: fs, n => f.name ≠ "_" ∧ f.offset = n ∧ (∃ d, P.underlying f.type = some d ∧ Zc4 k d = true) ∧ EqF P ks fs (n + 1)
 | _,_,_=>False
def TOk (P:Program) (t:TypeId):TI→Prop
 | .atom z=>∃d zv i,P.underlying t=some d∧ZgW d z=true∧P.info? t=some i∧i.zero=some zv∧i.size=1∧QV z zv=true
 | .strct fs n z=>∃(fields:Array Field) (i:TypeInfo) (zvs:Array Value),P.underlying t=some (.struct fields)∧P.info? t=some i∧i.size=n∧i.zero=some (.agg zvs)∧ZH (fun a v=>QV a v=true) z zvs.toList∧
   ZH (fun (fi:FI) (f:Field)=>f.offset=fi.off∧fi.size≠0∧∃j d,P.info? f.type=some j∧j.size=fi.size∧P.underlying f.type=some d∧Zpk d=fi.agg) fs fields.toList
 | .slice e m bytes z=>P.underlying t=some (.slice e)∧0<m∧bytes≤131072∧(∃(i:TypeInfo) (zv:Value),P.info? e=some i∧i.size=m∧i.bytes=bytes∧i.zero=some zv∧ZH (fun a v=>QV a v=true) z zv.cells.toList∧z.length=m)∧
   ∃j:TypeInfo,P.info? t=some j∧j.size=1∧j.zero=some (.slice none 0 0)
 | .ifc=>∃ms,P.underlying t=some (.interface ms)
 | .map kk vk=>∃kt et dk dv i zv,P.underlying t=some (.map kt et)∧P.underlying kt=some dk∧Zc4 kk dk=true∧P.underlying et=some dv∧Zc4 vk dv=true∧P.info? et=some i∧i.zero=some zv∧QV (ZdG vk) zv=true
 | .eqs ks=>∃u,t=u+4000∧P.underlying u=some (.struct (P.fieldsOf u))∧P.stoodInHeld u=false∧P.eqGuardType P.depth u=false∧EqF P ks (P.fieldsOf u).toList 0
section
variable {P:Program} {w:World} {t:TypeId}
theorem ZpU {i:TypeInfo} (h:P.info? t=some i):(typeInfo t).run P w=.ok i w:=by simp [typeInfo,program,Sem.run,h]
theorem Yh {d:TypeDesc} (h:P.underlying t=some d):(underlying t).run P w=.ok d w:=by simp [underlying,program,Sem.run,h]
theorem Xp [NW] {i:TypeInfo} (h:P.info? t=some i):(sizeOf t).run P w=.ok i.size w:=by simp [sizeOf,ZpU h]
theorem Zhp [NW] {i:TypeInfo} {z:Value} (h:P.info? t=some i) (hz:i.zero=some z):(zeroValue t).run P w=.ok z w:=by simp [zeroValue,ZpU h,hz]
theorem Zgq [NW] {d:TypeDesc} (h:P.underlying t=some d):(isAgg t).run P w=.ok (Zpk d) w:=by
 simp only[isAgg,Sem.run_bind,Yh h,Result.andThen_ok]
 cases d<;>rfl
theorem ZtM {d:TypeDesc} {z:AV} (h:ZgW d z=true):Zpk d=false:=by
 unfold ZgW at h
 split at h<;>first | rfl | simp at h
end
section
variable {g:Gh} {w:World}
theorem Zpn {s:ByteArray} (h:Z2 s=true):s.size≤9223372036854775807:=by
 unfold Z2 at h
 have:=Nat.le_of_ble_eq_true h
 rw [Array.length_toList] at this
 exact this
theorem Zep [NW] {x:AV} {v:Value} (h:QV x v=true):AVR g w x v:=by
 unfold QV at h
 split at h
 ·simp only[A4,beq_iff_eq] at h
  exact ⟨[],⟨by rw [h.1,h.2],rfl⟩,by simp⟩
 ·simp only[beq_iff_eq] at h
  exact ⟨[],⟨by rw [h],rfl⟩,by simp⟩
 ·rename_i s s'
  simp only[A4,beq_iff_eq] at h
  have e:s=s':=by
   cases s;cases s'
   simpa using h.1
  exact ⟨[],⟨by rw [e],rfl,Zpn h.2⟩,by simp⟩
 ·rfl
 ·simp at h
theorem AVR.one [NW] {x:AV} {v:Value} (h:AVR g w x v):v.oneCell'=true:=by
 cases x with
 | c x=>obtain ⟨L,h1,_⟩:=h;exact h1.one
 | n x=>
  obtain ⟨e,m,xs,cs,L,h1,h2,h3,_⟩:=h
  obtain ⟨A,c,hv,_⟩:=ZcS h3
  simp [hv,Value.oneCell']
 | row k=>exact h.2
 | nil e m=>simp [AVR] at h;simp [h,Value.oneCell']
 | dead=>exact h
theorem ZmH {v:Value} (h:v.oneCell'=true):v.cells=#[v]:=by
 cases v<;>simp [Value.oneCell'] at h<;>rfl
theorem PVR.cells [NW] {a:Bool} {cs:List AV} {v:Value} (h:PVR g w a cs v):∃vs:List Value,v.cells=vs.toArray∧ZH (AVR g w) cs vs:=by
 cases a with
 | true=>obtain ⟨vs,rfl,h2⟩:=h;exact ⟨vs,rfl,h2⟩
 | false=>obtain ⟨x,rfl,h2⟩:=h;exact ⟨[v],by rw [ZmH h2.one],⟨h2,trivial⟩⟩
theorem AVRs.one [NW] {cs:List AV} {vs:List Value} (h:ZH (AVR g w) cs vs):∀u∈vs,u.oneCell'=true:=by
 induction vs generalizing cs with
 | nil=>simp
 | cons v r ih=>
  cases cs with
  | nil=>exact h.elim
  | cons c cs=>
   intro u m
   rcases AS.1 m with rfl | m
   ·exact h.1.one
   ·exact ih h.2 u m
end
theorem Zrt (x y:ByteArray):(x.toList==y.toList)=decide (x=y):=by
 rw [Bool.eq_iff_iff]
 simp only[beq_iff_eq,decide_eq_true_eq]
 constructor
 ·intro h
  have h':x.data.toList=y.data.toList:=by rw [←B4,←B4];exact h
  cases x;cases y
  simpa using h'
 ·rintro rfl;rfl
end
section
open Go.RowKit
def Uk (U:Nat→Prop) (key:Nat):Nat→Prop:=fun k=>U k∨(key≤k∧k<key+16)
theorem avU.mono {U U':Nat→Prop} (h:∀k,U k→U' k) {x:AV} (hx:avU U x):avU U' x:=by cases x<;>first | exact h _ hx | trivial
theorem X6.mono [NW] {U U':Nat→Prop} (h:∀k,U k→U' k) {x:List AV} (hx:X6 U x):X6 U' x:=fun y m=>(hx y m).mono h
theorem svU.mono [NW] {U U':Nat→Prop} (h:∀k,U k→U' k) {x:SV} (hx:svU U x):svU U' x:=by
 cases x<;>first | exact X6.mono h hx | exact fun y m=>X6.mono h (hx y m) | exact h _ hx | trivial
theorem obU.mono [NW] {U U':Nat→Prop} (h:∀k,U k→U' k) {x:Ob} (hx:obU U x):obU U' x:=by
 cases x<;>first | exact X6.mono h hx | trivial
def Fin [NW] (P:Program) (W:QK) (U:Nat→Prop) (key:Nat) (st:St) (g:Gh) (w:World) (s:Sem Next) (r:SV × List (Nat × Ob)):Prop:=
 ∃g' cv w',(s.run P w=.ok (.value cv) w'∨(s.run P w=.ok .skip w'∧cv=undef))∧HI W g' (Zk st.ob r.2) w'∧SVR g' w' r.1 cv∧(∀x v,svU U x→SVR g w x v→SVR g' w' x v)∧
  svU (Uk U key) r.1∧(∀k,obU (Uk U key) (Zk st.ob r.2 k))∧∀k,¬Uk U key k→Zk st.ob r.2 k=.gone
section
variable {P:Program} {W:QK} {U:Nat→Prop} {key:Nat} {st:St} {g:Gh} {w:World} {a:Act} {tt:Nat→Option TI}
theorem QY [NW] {s:Sem Next} {v:SV} {cv:Value} (hI:HI W g st.ob w) (hU:StU U st) (hrun:s.run P w=.ok (.value cv) w) (hv:SVR g w v cv) (hu:svU U v):Fin P W U key st g w s (v,[]):=
 ⟨g,cv,w,.inl hrun,hI,hv,fun _ _ _ h=>h,hu.mono fun _=>.inl,fun k=>(hU.ob k).mono fun _=>.inl,fun k hk=>hU.gone k fun h=>hk (.inl h)⟩
theorem Y8 (x:CT):svU U (.p false [.c x]):=fun y m=>by simp at m;subst m;trivial
theorem ZaQ [NW] (k:IntKind) (n:Int):SVR g w (.p false [.c (.int k n)]) (.int k n):=⟨_,rfl,[],⟨rfl,rfl⟩,by simp⟩
theorem Q3 [NW] (b:Bool):SVR g w (.p false [.c (.bool b)]) (.bool b):=⟨_,rfl,[],⟨rfl,rfl⟩,by simp⟩
theorem Zjz [NW] {s:ByteArray} (h:s.size≤9223372036854775807):SVR g w (.p false [.c (.str s)]) (.string s):=⟨_,rfl,[],⟨rfl,rfl,h⟩,by simp⟩
theorem Za1 [NW] {k:IntKind} {n:Int} {v:Value} (h:SVR g w (.p false [.c (.int k n)]) v):v=.int k n:=by
 obtain ⟨x,hx,h⟩:=h;simp at hx;subst hx;obtain ⟨L,h1,_⟩:=h;exact h1.1
theorem ZeW [NW] {b:Bool} {v:Value} (h:SVR g w (.p false [.c (.bool b)]) v):v=.bool b:=by
 obtain ⟨x,hx,h⟩:=h;simp at hx;subst hx;obtain ⟨L,h1,_⟩:=h;exact h1.1
theorem Zhm [NW] {s:ByteArray} {v:Value} (h:SVR g w (.p false [.c (.str s)]) v):v=.string s∧s.size≤9223372036854775807:=by
 obtain ⟨x,hx,h⟩:=h;simp at hx;subst hx;obtain ⟨L,h1,_⟩:=h;exact ⟨h1.1,h1.2.2⟩
theorem ZAR [NW] {t:Nat} (htt:∀t i,tt t=some i→TOk P t i) (v:Value):SVR g w (cvT (tt t) v) v∧svU U (cvT (tt t) v):=by
 unfold cvT
 split
 ·exact ⟨ZaQ _ _,Y8 _⟩
 ·exact ⟨Q3 _,Y8 _⟩
 ·split
  ·rename_i h;exact ⟨Zjz (Zpn h),Y8 _⟩
  ·exact ⟨trivial,trivial⟩
 ·split
  ·exact ⟨⟨_,rfl,rfl⟩,fun y m=>by simp at m;subst m;trivial⟩
  ·exact ⟨trivial,trivial⟩
 ·exact ⟨trivial,trivial⟩
theorem Zi6 [NW] (htt:∀t i,tt t=some i→TOk P t i) (hS:∀t,SVR g w (st.sl t) (a.tmps.getD t undef)) (hU:StU U st) (t:Nat) (x:Operand):
  SVR g w (st.ev tt t x) (a.eval x)∧svU U (st.ev tt t x):=by
 cases x with
 | tmp s=>exact ⟨hS s,hU.sl s⟩
 | const v=>exact ZAR htt v
 | global _=>exact ⟨trivial,trivial⟩
 | func f=>exact ⟨rfl,trivial⟩
set_option maxHeartbeats 1000000 in
theorem ZuT [NW] {op:BinOp} {t:Nat} {ox oy:Operand} {k k':IntKind} {n n':Int} {z:CT} (hk:k=k'∨op=.shl∨op=.shr) (hz:Zu3 op k n n'=some z):
  ∃cv,(do eqGuard op t ox oy (.int k n) (.int k' n');binOp op t (.int k n) (.int k' n'):Sem Value).run P w=.ok cv w∧SVR g w (.p false [.c z]) cv:=by
 have hg:(eqGuard op t ox oy (.int k n) (.int k' n')).run P w=.ok () w:=by
  cases op<;>rfl
 simp only[Sem.run_bind,hg,Result.andThen_ok]
 cases op<;>simp only[Zu3,Zy5,ZkD,orI,ZuA,Zrc,ZBR,Zsr,Option.map_none,Option.map_some,A6,reduceCtorEq] at hz<;>(try subst hz)<;>
  (try (split at hz<;>simp only[A6,reduceCtorEq] at hz;subst hz))<;>
  simp only[reduceCtorEq,or_false,or_true] at hk<;>(try subst hk)<;>
  first
   | (refine ⟨_,?_,ZaQ _ _⟩;simp [binOp,Op.intArith,Op.intDiv,Op.intBits,Op.shift, *];done)
   | (refine ⟨_,?_,Q3 _⟩;simp [binOp,Op.intCmp];done)
set_option maxHeartbeats 1000000 in
theorem Zvy [NW] {op : BinOp} {t : Nat} {ox oy : Operand} {s s' : ByteArray} {z : CT} (hz : Zux op s s' = some z) :
    ∃ cv, (do eqGuard op t ox oy (.string s) (.string s'); binOp op t (.string s) (.string s') : Sem Value).run P w = .ok cv w ∧ SVR g w (.p false [.c z]) cv := by
  have hg : (eqGuard op t ox oy (.string s) (.string s')).run P w = .ok () w := by
    cases op <;> rfl
  simp only[Sem.run_bind, hg, Result.andThen_ok]
  cases op <;> simp only[Zux, A6, reduceCtorEq] at hz <;> (try subst hz) <;>
    first
      | (refine ⟨_, ?_, Q3 _⟩; simp only[binOp, Op.stringOp, sLt, sEq, ← Zrt]; rfl)
      | (split at hz
         · rename_i hl
           simp only[A6] at hz
           subst hz
           refine ⟨_, ?_, Zjz (by rw [ByteArray.size_append]; exact hl)⟩
           have hl' : ¬ ((s.size + s'.size : Nat) : Int) > IntKind.i64.max := by
             have : IntKind.i64.max = 9223372036854775807 := by decide
             omega
           simp only[binOp, Op.stringOp, hl', if_false]
           rfl
         · simp at hz)
theorem ZoA [NW] {op:BinOp} {t:Nat} {ox oy:Operand} {b b':Bool} {r:Bool} (ht:P.underlying t=some .bool) (hop:(op=.eql∧r=(b==b'))∨(op=.neq∧r=!(b==b'))):
  (do eqGuard op t ox oy (.bool b) (.bool b');binOp op t (.bool b) (.bool b'):Sem Value).run P w=.ok (.bool r) w:=by
 have hg:(eqGuard op t ox oy (.bool b) (.bool b')).run P w=.ok () w:=by
  cases op<;>rfl
 have he:(Op.equal t (.bool b) (.bool b')).run P w=.ok (b==b') w:=by
  have key:∀d:Nat,(Op.equalIn (d+1) t (.bool b) (.bool b')).run P w=.ok (b==b') w:=fun d=>by
   rw [Op.equalIn]
   simp only[Sem.run_bind,Yh ht,Result.andThen_ok,Sem.run_pure]
  exact key 9999
 simp only[Sem.run_bind,hg,Result.andThen_ok]
 rcases hop with ⟨rfl,rfl⟩ | ⟨rfl,rfl⟩
 ·simp only[binOp,Sem.run_bind,he,Result.andThen_ok,Sem.run_pure]
 ·simp only[binOp,Sem.run_bind,he,Result.andThen_ok,Sem.run_pure]
theorem ZwD [NW] (htt:∀t i,tt t=some i→TOk P t i) {op:BinOp} {t:Nat} {ox oy:Operand} {x y v:SV} {vx vy:Value} (h:Zvn (tt t) op x y=some v) (hx:SVR g w x vx) (hy:SVR g w y vy):
  ∃cv,(do eqGuard op t ox oy vx vy;binOp op t vx vy:Sem Value).run P w=.ok cv w∧SVR g w v cv∧svU U v:=by
 unfold Zvn at h
 split at h
 ·have ex:=Za1 hx
  have ey:=Za1 hy
  subst ex ey
  split at h
  ·rename_i hk
   obtain ⟨z,hz,rfl⟩:=A9.1 h
   obtain ⟨cv,h1,h2⟩:=ZuT (P:=P) (g:=g) (w:=w) (t:=t) (ox:=ox) (oy:=oy) hk hz
   exact ⟨cv,h1,h2,Y8 _⟩
  ·simp at h
 ·obtain ⟨ex,lx⟩:=Zhm hx
  obtain ⟨ey,ly⟩:=Zhm hy
  subst ex ey
  obtain ⟨z,hz,rfl⟩:=A9.1 h
  obtain ⟨cv,h1,h2⟩:=Zvy (P:=P) (g:=g) (w:=w) (t:=t) (ox:=ox) (oy:=oy) hz
  exact ⟨cv,h1,h2,Y8 _⟩
 ·have ex:=ZeW hx
  have ey:=ZeW hy
  subst ex ey
  split at h
  ·rename_i hti
   simp only[A6] at h
   subst h
   obtain ⟨d,zv,i,h1,h2,_⟩:=htt t _ hti
   have hd:d=.bool:=by cases d<;>simp [ZgW] at h2;rfl
   subst hd
   exact ⟨_,ZoA h1 (.inl ⟨rfl,rfl⟩),Q3 _,Y8 _⟩
  ·rename_i hti
   simp only[A6] at h
   subst h
   obtain ⟨d,zv,i,h1,h2,_⟩:=htt t _ hti
   have hd:d=.bool:=by cases d<;>simp [ZgW] at h2;rfl
   subst hd
   exact ⟨_,ZoA h1 (.inr ⟨rfl,rfl⟩),Q3 _,Y8 _⟩
  ·simp at h
 ·simp at h
theorem ZmL {k:PK} {d:TypeDesc} (h:Zc4 k d=true):Zpk d=false:=by
 unfold Zc4 at h
 split at h<;>first | rfl | simp at h
theorem ZxJ [NW] {k:PK} {x y:AV} {vx vy:Value} {b:Bool} {t:Nat} {d:TypeDesc} (h:eqC k x y=some b) (hd:P.underlying t=some d) (hk:Zc4 k d=true) (hx:AVR g w x vx) (hy:AVR g w y vy) (n:Nat):(Op.equalIn (n+1) t vx vy).run P w=.ok b w:=by
 unfold eqC at h
 split at h
 ·split at h<;>simp only[A6,reduceCtorEq] at h
  rename_i kk;subst kk h
  obtain ⟨_,h1,_⟩:=hx;obtain ⟨_,h2,_⟩:=hy
  have e1:=h1.1;have e2:=h2.1;subst e1 e2
  cases d<;>simp [Zc4] at hk
  exact run_equalIn_int w n t _ _ _ _ hd
 ·simp only[A6] at h;subst h
  obtain ⟨_,h1,_⟩:=hx;obtain ⟨_,h2,_⟩:=hy
  have e1:=h1.1;have e2:=h2.1;subst e1 e2
  cases d<;>simp [Zc4] at hk
  rw [run_equalIn_string w n t _ _ hd,sEq,Zrt]
 ·simp only[A6] at h;subst h
  obtain ⟨_,h1,_⟩:=hx;obtain ⟨_,h2,_⟩:=hy
  have e1:=h1.1;have e2:=h2.1;subst e1 e2
  cases d<;>simp [Zc4] at hk
  exact run_equalIn_bool' w n t _ _ hd
 ·simp at h
theorem Zrn [NW] (n:Nat) {X Y:Array Value}:∀{ks:List PK} {fs:List Field} {o:Nat} {xs ys:List AV} {vx vy:List Value} {b:Bool},ZlL ks xs ys=some b→EqF P ks fs o→ZH (AVR g w) xs vx→ZH (AVR g w) ys vy→(∀j v,vx[j]?=some v→X[o+j]?=some v)→(∀j v,vy[j]?=some v→Y[o+j]?=some v)→(Op.eqFields (n+1) X Y fs).run P w=.ok b w
 | [],[],_,[],[],_,_,b,h,_,_,_,_,_=>by simp [ZlL] at h;subst h;simp [Op.eqFields]
 | k::ks,f::fs,o,x::xs,y::ys,[],_,_,_,_,hx,_,_,_=>hx.elim
 | k::ks,f::fs,o,x::xs,y::ys,_::_,[],_,_,_,_,hy,_,_=>hy.elim
 | k::ks,f::fs,o,x::xs,y::ys,u::vx,v::vy,b,h,hf,hx,hy,hX,hY=>by
  simp only[ZlL] at h
  obtain ⟨b1,h1,h⟩:=AB.1 h
  obtain ⟨b2,h2,rfl⟩:=A9.1 h
  obtain ⟨f1,f2,⟨d,f3,f4⟩,f5⟩:=hf
  have e1:=ZxJ h1 f3 f4 hx.1 hy.1 n
  have e2:=Zrn n h2 f5 hx.2 hy.2 (fun j v hj=>by have:=hX (j+1) v (by simpa using hj);rwa [show o+(j+1)=o+1+j by omega] at this) (fun j v hj=>by have:=hY (j+1) v (by simpa using hj);rwa [show o+(j+1)=o+1+j by omega] at this)
  have p1:(part f.type X f.offset).run P w=.ok u w:=by
   have:=hX 0 u (by simp)
   simp only[part,Sem.run_bind,Zgq f3,ZmL f4,Result.andThen_ok]
   rw [f2];simp at this;simp [this]
  have p2:(part f.type Y f.offset).run P w=.ok v w:=by
   have:=hY 0 v (by simp)
   simp only[part,Sem.run_bind,Zgq f3,ZmL f4,Result.andThen_ok]
   rw [f2];simp at this;simp [this]
  simp only[Op.eqFields,f1,ne_eq,not_false_eq_true,if_true,Sem.run_bind,p1,p2,e1,Result.andThen_ok]
  cases b1
  ·simp
  ·simpa using e2
 | [],_::_,_,_,_,_,_,_,_,hf,_,_,_,_=>hf.elim
 | _::_,[],_,_,_,_,_,_,_,hf,_,_,_,_=>hf.elim
 | [],[],_,_::_,_,_,_,_,h,_,_,_,_,_=>by simp [ZlL] at h
 | [],[],_,[],_::_,_,_,_,h,_,_,_,_,_=>by simp [ZlL] at h
 | _::_,_::_,_,[],_,_,_,_,h,_,_,_,_,_=>by simp [ZlL] at h
 | _::_,_::_,_,_::_,[],_,_,_,h,_,_,_,_,_=>by simp [ZlL] at h
theorem ZoJ {op:BinOp} {b:Bool} {v:SV} (h:Zn8 op b=some v):(op=.eql∧v=.p false [.c (.bool b)])∨(op=.neq∧v=.p false [.c (.bool (!b))]):=by
 unfold Zn8 at h
 split at h<;>simp only[A6,reduceCtorEq] at h<;>subst h
 ·exact .inl ⟨rfl,rfl⟩
 ·exact .inr ⟨rfl,rfl⟩
theorem Zxc [NW] (htt:∀t i,tt t=some i→TOk P t i) {op:BinOp} {t:Nat} {ox oy:Operand} {x y v:SV} {vx vy:Value} (h:Zvq (tt (t+4000)) op x y=some v) (hx:SVR g w x vx) (hy:SVR g w y vy):
  ∃cv,(do eqGuard op t ox oy vx vy;binOp op t vx vy:Sem Value).run P w=.ok cv w∧SVR g w v cv∧svU U v:=by
 unfold Zvq at h
 split at h
 ·obtain ⟨ks,hks,h'⟩:=AB.1 h
  obtain ⟨b,hb,h''⟩:=AB.1 h'
  have hti:tt (t+4000)=some (.eqs ks):=by
   unfold ZtP at hks
   split at hks<;>simp only[A6,reduceCtorEq] at hks
   rename_i hti
   rw [hti,hks]
  obtain ⟨u,e,h1,h2,h3,h4⟩:=htt _ _ hti
  have e:t=u:=Nat.add_right_cancel e
  subst e
  obtain ⟨us,rfl,hus⟩:=hx
  obtain ⟨vs,rfl,hvs⟩:=hy
  have hq:=Zrn (X:=us.toArray) (Y:=vs.toArray) 9998 hb h4 hus hvs (fun j v hj=>by simpa using hj) (fun j v hj=>by simpa using hj)
  have hg:=run_eqGuard_agg (P:=P) w op t ox oy us.toArray vs.toArray h3
  rcases ZoJ h'' with ⟨rfl,rfl⟩ | ⟨rfl,rfl⟩
  ·refine ⟨_,?_,Q3 b,Y8 _⟩
   simp only[Sem.run_bind,hg,Result.andThen_ok,run_eql_struct,run_equalIn_struct w 9999 t _ _ h1 h2,hq]
  ·refine ⟨_,?_,Q3 (!b),Y8 _⟩
   simp only[Sem.run_bind,hg,Result.andThen_ok,run_neq_struct,run_equalIn_struct w 9999 t _ _ h1 h2,hq]
 ·simp at h
theorem Zws [NW] {b:Bool} {v:Value} (h:SVR g w (.p false [.c (.ifc b)]) v):(b=true∧v=.nilIface)∨(b=false∧∃t x,v=.iface t x):=by
 obtain ⟨x,hx,h⟩:=h;simp at hx;subst hx;obtain ⟨L,h1,_⟩:=h
 have h2:=h1.2.2
 cases b with
 | true=>exact .inl ⟨rfl,h2⟩
 | false=>exact .inr ⟨rfl,h2⟩
theorem ZuQ [NW] (htt:∀t i,tt t=some i→TOk P t i) {op:BinOp} {t:Nat} {ox oy:Operand} {x y v:SV} {vx:Value} (h:ZtF tt t (Zil oy) op x y=some v) (hx:SVR g w x vx) (hy:SVR g w y (a.eval oy)):
  ∃cv,(do eqGuard op t ox oy vx (a.eval oy);binOp op t vx (a.eval oy):Sem Value).run P w=.ok cv w∧SVR g w v cv∧svU U v:=by
 unfold ZtF at h
 split at h
 ·rename_i hn
  have ho:oy=.const .nilIface:=by
   cases oy with
   | const c=>cases c<;>first | rfl | (simp [Zil,Zqo] at hn;done)
   | _=>simp [Zil] at hn
  subst ho
  split at h
  rotate_left
  ·simp at h
  rename_i hif
  have hti:tt t=some .ifc:=by
   unfold Zts at hif
   split at hif
   ·assumption
   ·simp at hif
  obtain ⟨ms,hms⟩:=htt _ _ hti
  unfold ZzV at h
  split at h
  ·rename_i b
   have hb:=Zws hx
   have hev:a.eval (.const .nilIface)=.nilIface:=rfl
   rw [hev]
   have hg:∀v:Value,(v=.nilIface∨∃t x,v=.iface t x)→(eqGuard op t ox (.const .nilIface) v .nilIface).run P w=.ok () w:=fun v hv=>by
    rcases hv with rfl | ⟨t',x',rfl⟩
    ·simp only[eqGuard]
     cases ox<;>cases op<;>rfl
    ·simp only[eqGuard]
     cases op<;>rfl
   have he:(Op.equal t vx .nilIface).run P w=.ok b w:=by
    show (Op.equalIn (9999+1) t _ _).run P w=_
    rw [Op.equalIn]
    rcases hb with ⟨rfl,rfl⟩ | ⟨rfl,t',x',rfl⟩
    ·simp only[Sem.run_bind,Yh hms,Result.andThen_ok,Sem.run_pure]
    ·simp only[Sem.run_bind,Yh hms,Result.andThen_ok,Sem.run_pure]
   have hg':=hg vx (hb.imp (fun h=>h.2) (fun h=>h.2))
   rcases ZoJ h with ⟨rfl,rfl⟩ | ⟨rfl,rfl⟩
   ·refine ⟨_,?_,Q3 b,Y8 _⟩
    simp only[Sem.run_bind,hg',Result.andThen_ok]
    rcases hb with ⟨rfl,rfl⟩ | ⟨rfl,t',x',rfl⟩<;>simp only[binOp,Sem.run_bind,he,Result.andThen_ok,Sem.run_pure]
   ·refine ⟨_,?_,Q3 (!b),Y8 _⟩
    simp only[Sem.run_bind,hg',Result.andThen_ok]
    rcases hb with ⟨rfl,rfl⟩ | ⟨rfl,t',x',rfl⟩<;>simp only[binOp,Sem.run_bind,he,Result.andThen_ok,Sem.run_pure]
  ·simp at h
 ·split at h
  ·exact Zxc htt h hx hy
  ·exact ZwD htt h hx hy
theorem ZBh [NW] {op:UnOp} {x v:SV} {vx:Value} (h:unV op x=some v) (hx:SVR g w x vx):∃cv,(Op.unary op vx).run P w=.ok cv w∧SVR g w v cv∧svU U v:=by
 unfold unV at h
 split at h
 ·have ex:=ZeW hx
  subst ex
  split at h<;>simp at h
  subst h
  exact ⟨_,by simp [Op.unary],Q3 _,Y8 _⟩
 ·have ex:=Za1 hx
  subst ex
  split at h<;>simp at h
  subst h
  exact ⟨_,by simp [Op.unary,Op.intArith],ZaQ _ _,Y8 _⟩
 ·simp at h
end
end
section
open Go.RowKit
section
variable {P:Program} {W:QK} {U:Nat→Prop} {key:Nat} {st:St} {g:Gh} {w:World} {a:Act} {tt:Nat→Option TI}
theorem Zyv {t:Nat} {z:AV} (htt:∀t i,tt t=some i→TOk P t i) (h:tt t=some (.atom z)):∃d,P.underlying t=some d:=by
 obtain ⟨d,_,_,h,_⟩:=htt t _ h;exact ⟨d,h⟩
theorem ZpE {t:Nat} (htt:∀t i,tt t=some i→TOk P t i) (h:Za2 (tt t)=true):∃e,P.underlying t=some (.slice e):=by
 unfold Za2 at h
 split at h
 ·rename_i h1;exact ⟨_,(htt t _ h1).1⟩
 ·simp at h
theorem Zgb {t:Nat} (htt:∀t i,tt t=some i→TOk P t i) (h:ZbY (tt t)=true):P.underlying t=some .string:=by
 unfold ZbY at h
 split at h
 ·rename_i h1
  obtain ⟨d,zv,i,h2,h3,_⟩:=htt t _ h1
  have hd:d=.string:=by cases d<;>simp [ZgW] at h3;rfl
  rw [hd] at h2;exact h2
 ·simp at h
theorem Zvv [NW] (htt:∀t i,tt t=some i→TOk P t i) {s t:Nat} {x v:SV} {vx:Value} (h:ZoY (tt s) (tt t) x=some v) (hx:SVR g w x vx):∃cv,(convert s t vx).run P w=.ok cv w∧SVR g w v cv∧svU U v:=by
 unfold ZoY at h
 split at h
 ·have ex:=Za1 hx
  subst ex
  split at h
  ·rename_i h1 h2
   simp only[A6] at h
   subst h
   obtain ⟨d,zv,i,h3,h4,_⟩:=htt t _ h2
   have hd:∃k,d=.int k:=by cases d<;>simp [ZgW] at h4;exact ⟨_,rfl⟩
   obtain ⟨k,rfl⟩:=hd
   simp only[ZgW,beq_iff_eq] at h4
   subst h4
   obtain ⟨ds,hs⟩:=Zyv htt h1
   refine ⟨_,?_,ZaQ _ _,Y8 _⟩
   simp [convert,Yh hs,Yh h3,Conv.intToInt]
  ·simp at h
 ·simp at h
theorem Zf5 [NW] {e m:Nat} {xs:List (List CT)} {v:Value} (h:SVR g w (.p false [.c (.sl e m xs)]) v):∃A cap cs L0 L1,v=.slice A xs.length cap∧xs.length≤cap∧cap≤maxLen∧0<m∧Sl w m A xs.length cs L0∧REs w m xs cs L1∧(∀b∈L0++L1,¬g.own b):=by
 obtain ⟨x,hx,h⟩:=h
 simp at hx
 subst hx
 obtain ⟨L,⟨A,cap,cs,L0,L1,h1,h2,h3,h4,h5,h6,h7⟩,ho⟩:=h
 exact ⟨A,cap,cs,L0,L1,h1,h2,h3,h5,h6,h7,fun b m=>ho b (h4 ▸ m)⟩
theorem ZeK [NW] {k:Nat} {v:Value} (h:SVR g w (.p false [.row k]) v):v=g.val k:=by
 obtain ⟨x,hx,h⟩:=h;simp at hx;subst hx;exact h.1
theorem ZqE [NW] {e m:Nat} {v:Value} (h:SVR g w (.p false [.nil e m]) v):v=.slice none 0 0:=by
 obtain ⟨x,hx,h⟩:=h;simp at hx;subst hx;exact h
theorem Q8 {B e m n:Nat} {v:Value} {cs:List Value} (h:w.ownsV B e m v n cs):∃A cap,v=.slice A n cap:=by
 obtain ⟨A,c,hv,_⟩:=ZcS h
 exact ⟨A,c,hv⟩
theorem ZBN [NW] {x:CT} {v:Value} (h:SVR g w (.p false [.n x]) v):NR g w x v:=by
 obtain ⟨y,hy,h⟩:=h;simp at hy;subst hy;exact h
theorem Zxg [NW] (htt:∀t i,tt t=some i→TOk P t i) (hI:HI W g st.ob w) {t:Nat} {ts:Array TypeId} {ty:TypeId} (hts:ts[0]?=some t) {x v:SV} {vx:Value} (h:ZlW st (tt t) x=some v) (hx:SVR g w x vx):
  ∃cv,(Builtin.len_ ts ty #[vx]).run P w=.ok cv w∧SVR g w v cv∧svU U v:=by
 have fin:∀(A:Option Addr) (n c:Nat),Za2 (tt t)=true→(Builtin.len_ ts ty #[.slice A n c]).run P w=.ok (.int .i64 n) w:=fun A n c hs=>by
  obtain ⟨e,he⟩:=ZpE htt hs
  simp [Builtin.len_,hts,Yh he,goInt]
 unfold ZlW at h
 split at h
 ·split at h<;>simp at h
  rename_i hs
  subst h
  obtain ⟨A,cap,_,_,_,rfl,_⟩:=Zf5 hx
  exact ⟨_,fin _ _ _ hs,ZaQ _ _,Y8 _⟩
 ·split at h<;>simp at h
  rename_i hs
  subst h
  obtain ⟨_,_,_,_,_,h1,_,h3,_⟩:=ZBN hx
  simp only[CT.sl.injEq] at h1
  obtain ⟨_,_,rfl⟩:=h1
  obtain ⟨A,cap,rfl⟩:=Q8 h3
  exact ⟨_,fin _ _ _ hs,ZaQ _ _,Y8 _⟩
 ·split at h<;>simp at h
  rename_i hs
  subst h
  obtain ⟨rfl,_⟩:=Zhm hx
  refine ⟨_,?_,ZaQ _ _,Y8 _⟩
  simp [Builtin.len_,hts,Yh (Zgb htt hs),goInt]
 ·split at h<;>simp at h
  rename_i hs
  subst h
  have:=ZqE hx
  subst this
  exact ⟨_,fin _ _ _ hs,ZaQ _ _,Y8 _⟩
 ·split at h
  ·rename_i k _ e m xs d hk
   split at h<;>simp at h
   rename_i hs
   subst h
   have hv:=ZeK hx
   subst hv
   have ho:=hI.obs k
   rw [hk] at ho
   obtain ⟨_,cs,L,h1,_⟩:=ho
   obtain ⟨A,cap,hv⟩:=Q8 h1
   rw [hv]
   exact ⟨_,fin _ _ _ hs,ZaQ _ _,Y8 _⟩
  ·simp at h
 ·simp at h
theorem Zki {f:Value→ByteArray→Sem (ForInStep ByteArray)} (hf:∀n s,f (.int .u8 n) s=pure (ForInStep.yield (s.push (AX n.toNat)))):∀(l:List Int) (s:ByteArray),(forIn (l.map fun n=>Value.int .u8 n) s f).run P w=.ok ⟨s.data++(l.map fun n=>AX n.toNat).toArray⟩ w
 | [],s=>by simp
 | n::l,s=>by
  have ih:=Zki hf l (s.push (AX n.toNat))
  simp only[Ad,List.forIn_cons,hf,Sem.run_bind,Sem.run_pure,Result.andThen_ok,ih]
  congr 2
  apply Array.ext'
  simp [ByteArray.push]
theorem Zsa [NW] {b o cap:Nat} (l:List Int) (hc:∀j u,(l.map fun n=>Value.int .u8 n)[j]?=some u→w.cell? ⟨b,o+j,none⟩=some u):(Conv.bytesToString (.slice (some ⟨b,o,none⟩) l.length cap)).run P w=.ok (.string (YQ l)) w:=by
 have h1:=run_loadCells_list (P:=P) w ⟨b,o,none⟩ (l.map fun n=>Value.int .u8 n) (fun j u hj=>by rw [ZcD];exact hc j u hj)
 rw [B2] at h1
 unfold Conv.bytesToString
 simp only[Sem.run_bind,h1,Result.andThen_ok,←Array.forIn_toList]
 rw [Zki (fun _ _=>rfl)]
 simp [YQ,ByteArray.empty,ByteArray.emptyWithCapacity]
 rfl
theorem Zlh {m:Nat}:∀{xs:List (List CT)} {l:List Int} {cs:List Value} {L:List Nat},ZdK xs=some l→REs w m xs cs L→cs=l.map (fun n=>Value.int .u8 n)∧xs.length=l.length
 | [],_,_,_,h,⟨h1,_⟩=>by simp [ZdK] at h;subst h h1;simp
 | x::r,l,_,_,h,⟨c1,c2,L1,L2,rfl,rfl,h3,h4⟩=>by
  unfold ZdK at h
  split at h
  ·rename_i he;simp at he
  ·rename_i n r' he
   simp only[List.cons.injEq] at he
   obtain ⟨rfl,rfl⟩:=he
   obtain ⟨l',hl,rfl⟩:=A9.1 h
   obtain ⟨i1,i2⟩:=Zlh hl h4
   obtain ⟨v,cs',_,_,rfl,rfl,a1,a2⟩:=h3.1
   obtain ⟨rfl,_⟩:=a2
   rw [a1.1,i1]
   exact ⟨rfl,by simp [i2]⟩
  ·simp at h
theorem Zpz (l:List Int):(YQ l).size=l.length:=by simp [YQ,ByteArray.size]
theorem Zug [NW] (htt:∀t i,tt t=some i→TOk P t i) (hI:HI W g st.ob w) {s t:Nat} {x v:SV} {vx:Value} (hst:ZbY (tt t)=true) (hby:ZkO (ZnC tt (tt s))=true) (h:ZgV st x=some v) (hx:SVR g w x vx):∃cv,(convert s t vx).run P w=.ok cv w∧SVR g w v cv∧svU U v:=by
 have ht:=Zgb htt hst
 have hs:∃e,P.underlying s=some (.slice e)∧P.underlying e=some (.int .u8):=by
  unfold ZnC at hby
  split at hby
  ·rename_i e m b z hti
   have h1:=(htt _ _ hti).1
   unfold ZkO at hby
   split at hby
   ·rename_i hte
    obtain ⟨d,zv,i,h2,h3,_⟩:=htt _ _ hte
    cases d<;>simp [ZgW] at h3
    subst h3
    exact ⟨e,h1,h2⟩
   ·simp at hby
  ·simp [ZkO] at hby
 obtain ⟨e,hs,he⟩:=hs
 have go:∀A n c,(convert s t (.slice A n c)).run P w=(Conv.bytesToString (.slice A n c)).run P w:=fun A n c=>by
  unfold convert
  simp only[Sem.run_bind,Yh hs,Yh ht,Yh he,Result.andThen_ok]
 have fin:∀(A:Option Addr) (n cap:Nat) (cs:List Value) (L:List Nat) (xs:List (List CT)) (l:List Int) (m:Nat),n=xs.length→0<m→ZdK xs=some l→REs w m xs cs L→n≤9223372036854775807→(n=0∨∃b o,A=some ⟨b,o,none⟩∧Q9 w b o cs)→∃cv,(convert s t (.slice A n cap)).run P w=.ok cv w∧SVR g w (.p false [.c (.str (YQ l))]) cv∧svU U (.p false [.c (.str (YQ l))]):=by
  intro A n cap cs L xs l m hn hm hl hR hsz hA
  obtain ⟨i1,i2⟩:=Zlh hl hR
  have hsz':(YQ l).size≤9223372036854775807:=by rw [Zpz];omega
  refine ⟨.string (YQ l),?_,Zjz hsz',Y8 _⟩
  rw [go]
  rcases hA with h0 | ⟨b,o,rfl,hc⟩
  ·have:l=[]:=AM (by omega)
   subst this
   cases A with
   | none=>rfl
   | some a=>
    have h1:=run_loadCells_list (P:=P) w a [] (by simp)
    rw [h0]
    unfold Conv.bytesToString
    simp only[An] at h1
    simp only[Sem.run_bind,h1,Result.andThen_ok]
    rfl
  ·rw [hn,i2]
   exact Zsa l fun j u hj=>hc j u (by rw [i1];exact hj)
 unfold ZgV at h
 split at h
 ·split at h
  ·rename_i k _ e' m xs d hk
   obtain ⟨l,hl,rfl⟩:=A9.1 h
   have hv:=ZeK hx
   have ho:=hI.obs k
   rw [hk] at ho
   obtain ⟨hm,cs,L,h1,h2,_⟩:=ho
   rw [hv]
   rcases h1.2 with ⟨h3,h4⟩ | ⟨b,o,cap,cur,h3,h4,h5,h6,h7,h8,h9⟩
   ·rw [h3]
    exact fin _ _ _ cs L xs l m (by omega) hm hl h2 (by omega) (.inl rfl)
   ·rw [h3]
    refine fin _ _ _ cs L xs l m rfl hm hl h2 (by unfold maxLen at h7;omega) (.inr ⟨b,o,rfl,fun j u hj=>?_⟩)
    exact ZhI h1 h3 j u hj
  ·simp at h
 ·obtain ⟨l,hl,rfl⟩:=A9.1 h
  obtain ⟨A,cap,cs,L0,L1,rfl,h2,h3,h5,h6,h7,_⟩:=Zf5 hx
  rename_i e' m' xs _
  refine fin _ _ _ cs L1 xs l _ rfl h5 hl h7 (by unfold maxLen at h3;omega) ?_
  rcases Nat.eq_zero_or_pos xs.length with h0 | h0
  ·exact .inl h0
  ·obtain ⟨b,off,h8,h9,hc⟩:=h6.at_ h0
   exact .inr ⟨b,off,h8,hc⟩
 ·simp at h
theorem Zs1 [NW] (htt:∀t i,tt t=some i→TOk P t i) (hI:HI W g st.ob w) {s t:Nat} {x v:SV} {vx:Value} (h:ZfG tt st s t x=some v) (hx:SVR g w x vx):∃cv,(convert s t vx).run P w=.ok cv w∧SVR g w v cv∧svU U v:=by
 unfold ZfG at h
 split at h
 ·rename_i hc
  simp only[A4] at hc
  exact Zug htt hI hc.1 hc.2 h hx
 ·exact Zvv htt h hx
theorem RCs.avr [NW] {e:List CT} {cs:List Value} {L:List Nat}:RCs w e cs L→(∀b∈L,¬g.own b)→ZH (AVR g w) (e.map .c) cs:=by
 induction e generalizing cs L with
 | nil=>intro h _;obtain ⟨rfl,rfl⟩:=h;trivial
 | cons x r ih=>
  rintro ⟨v,cs',L1,L2,rfl,rfl,h1,h2⟩ ho
  exact ⟨⟨L1,h1,fun b m=>ho b (by simp [m])⟩,ih h2 fun b m=>ho b (by simp [m])⟩
theorem Zkx (a:Bool) (e:List CT):X6 U (e.map AV.c):=fun y m=>by
 obtain ⟨x,_,rfl⟩:=AG.1 m;trivial
theorem Zns [NW] (htt:∀t i,tt t=some i→TOk P t i) {t b lo off:Nat} {cs:List AV} {vs:List Value} {v:SV} (h:cut (tt t) cs off=some v) (hc:Q9 w b lo vs) (hr:ZH (AVR g w) cs vs) (hu:X6 U cs):
  ∃cv,(Instr.loadAt t (.pointer (some ⟨b,lo+off,none⟩))).run P w=.ok cv w∧SVR g w v cv∧svU U v:=by
 have hlen:=hr.len
 have one:∀d,P.underlying t=some d→Zpk d=false→∀x,cs[off]?=some x→∃cv,(Instr.loadAt t (.pointer (some ⟨b,lo+off,none⟩))).run P w=.ok cv w∧SVR g w (.p false [x]) cv∧svU U (.p false [x]):=fun d hd ha x hx=>by
  obtain ⟨u,h1,h2⟩:=hr.at hx
  refine ⟨u,?_,⟨x,rfl,h2⟩,fun y m=>by simp at m;subst m;exact hu y (AR hx)⟩
  simp [Instr.loadAt,Instr.sureAddr,loadVar,Zgq hd,ha,load,Sem.run,hc off u h1]
 unfold cut at h
 split at h
 ·rename_i fs n z hti
  split at h<;>simp at h
  rename_i hn
  subst h
  obtain ⟨fields,i,zvs,h1,h2,h3,_⟩:=htt t _ hti
  refine ⟨.agg ((vs.drop off).take n).toArray,?_,⟨_,rfl,(hr.drop off).take n⟩,fun y m=>hu y (AK (Ac m))⟩
  have hl:((vs.drop off).take n).length=i.size:=by simp;omega
  have hload:=run_loadCells_list (P:=P) w ⟨b,lo+off,none⟩ ((vs.drop off).take n) (fun j u hj=>by
   rw [ZcD,AH]
   refine hc _ u ?_
   have hjn:j<n:=by
    have:=(AF.1 hj).1
    simp at this;omega
   rw [B5,if_pos hjn,B6] at hj
   exact hj)
  rw [hl] at hload
  simp [Instr.loadAt,Instr.sureAddr,loadVar,Zgq h1,Zpk,Xp h2,hload]
 ·simp at h
 ·rename_i i hti hne hns
  obtain ⟨x,hx,rfl⟩:=A9.1 h
  cases i with
  | atom z=>obtain ⟨d,zv,i,h1,h2,_⟩:=htt t _ hns;exact one d h1 (ZtM h2) x hx
  | strct fs n z=>exact absurd rfl (hti _ _ _)
  | slice e m b z=>exact one _ (htt t _ hns).1 rfl x hx
  | map kk vk=>
   obtain ⟨kt,et,_,_,_,_,h1,_⟩:=htt t _ hns
   exact one _ h1 rfl x hx
  | ifc=>obtain ⟨ms,h1⟩:=htt t _ hns;exact one _ h1 rfl x hx
  | eqs ks=>exact absurd rfl (hne _)
 ·simp at h
end
end
section
open Go.RowKit
section
variable {P:Program} {W:QK} {U:Nat→Prop} {key:Nat} {st:St} {g:Gh} {w:World} {a:Act} {tt:Nat→Option TI}
theorem HI.deep [NW] {ob:Nat→Ob} {k e m:Nat} {xs:List (List CT)} {d:Nat} (hI:HI W g ob w) (hk:ob k=.row e m xs d):0<m∧∃cs L,w.ownsV 0 e m (g.val k) xs.length cs∧REs w m xs cs L∧(∀b∈L,¬g.own b)∧((d=2∧g.O k=(g.val k).ownBlock.toList∧g.D k=L)∨(d=1∧g.O k=(g.val k).ownBlock.toList∧g.D k=[])∨(d=0∧g.O k=[]∧g.D k=[]∧∀b∈(g.val k).ownBlock.toList,¬g.own b)):=by
 have ho:=hI.obs k
 rw [hk] at ho
 obtain ⟨hm,cs,L,h1,h2,h4⟩:=ho
 refine ⟨hm,cs,L,h1,h2,?_,?_⟩
 ·rcases h4 with ⟨_,_,h4⟩ | ⟨_,_,_,h4⟩ | ⟨_,_,_,h4⟩
  ·rintro b mb (⟨j,mj⟩ | hz)
   ·by_cases hjk:j=k
    ·subst hjk
     have:=hI.nodup j
     rw [Au] at this
     exact this.2.2 b mj b (h4 ▸ mb) rfl
    ·exact hI.apart j k hjk b (by simp [mj]) (by simp [h4,mb])
   ·exact hI.nz (k:=k) (by simp [h4,mb]) hz
  ·exact h4
  ·exact fun b mb=>h4 b (by simp [mb])
 ·rcases h4 with h4 | ⟨q1,q2,q3,_⟩ | ⟨q1,q2,q3,q4⟩
  ·exact .inl h4
  ·exact .inr (.inl ⟨q1,q2,q3⟩)
  ·exact .inr (.inr ⟨q1,q2,q3,fun b mb=>q4 b (by simp [mb])⟩)
theorem HI.deepO [NW] {ob:Nat→Ob} {k e m:Nat} {xs:List (List CT)} {d:Nat} (hI:HI W g ob w) (hk:ob k=.row e m xs d) (hd:¬d=0):0<m∧∃cs L,w.ownsV 0 e m (g.val k) xs.length cs∧REs w m xs cs L∧(∀b∈L,¬g.own b)∧g.O k=(g.val k).ownBlock.toList∧((d=2∧g.D k=L)∨(d=1∧g.D k=[])):=by
 obtain ⟨hm,cs,L,h1,h2,h3,h4⟩:=hI.deep hk
 refine ⟨hm,cs,L,h1,h2,h3,?_⟩
 rcases h4 with ⟨q1,q2,q3⟩ | ⟨q1,q2,q3⟩ | ⟨q1,_⟩
 ·exact ⟨q2,.inl ⟨q1,q3⟩⟩
 ·exact ⟨q2,.inr ⟨q1,q3⟩⟩
 ·exact absurd q1 hd
theorem REs.at {m:Nat}:∀{xs:List (List CT)} {cs:List Value} {L:List Nat} {i:Nat} {e:List CT},REs w m xs cs L→xs[i]?=some e→
  ∃c L',RCs w e c L'∧c.length=m∧(∀b∈L',b∈L)∧∀j u,c[j]?=some u→cs[i * m+j]?=some u
 | [],_,_,_,_,_,h=>by simp at h
 | x::r,_,_,0,e,⟨c1,c2,L1,L2,rfl,rfl,h3,h4⟩,h=>by
  simp at h;subst h
  exact ⟨c1,L1,h3.1,h3.2,fun b mb=>by simp [mb],fun j u hu=>by
   rw [Nat.zero_mul,AL,List.getElem?_append_left (AF.1 hu).1];exact hu⟩
 | x::r,_,_,i+1,e,⟨c1,c2,L1,L2,rfl,rfl,h3,h4⟩,h=>by
  obtain ⟨c,L',a1,a2,a3,a4⟩:=REs.at h4 (i:=i) (e:=e) (by simpa using h)
  refine ⟨c,L',a1,a2,fun b mb=>by simp [a3 b mb],fun j u hu=>?_⟩
  have hl:=h3.2
  rw [List.getElem?_append_right (by rw [AO];omega)]
  rw [←a4 j u hu]
  congr 1
  rw [hl,AO];omega
theorem REs.len {m:Nat}:∀{xs:List (List CT)} {cs:List Value} {L:List Nat},REs w m xs cs L→cs.length=xs.length * m
 | [],_,_,h=>by simp [h.1]
 | x::r,_,_,⟨c1,c2,L1,L2,rfl,rfl,h3,h4⟩=>by simp [h3.2,REs.len h4,AO];omega
theorem ZAb [NW] (htt:∀t i,tt t=some i→TOk P t i) (hI:HI W g st.ob w) (hU:StU U st) {t e m bytes:Nat} {z:List AV} (hti:tt t=some (.slice e m bytes z)) {x i v:SV} {vx vi:Value} (h:Za9 st m x i=some v) (hx:SVR g w x vx) (hxu:svU U x) (hi:SVR g w i vi):
  ∃cv,(Instr.indexAt t vx vi).run P w=.ok cv w∧SVR g w v cv∧svU U v:=by
 obtain ⟨hu,hm,_,⟨ie,zv,hie,hsz,_⟩,_⟩:=htt t _ hti
 have run:∀(b o n c:Nat) (k:IntKind) (q:Int),0≤q→q<n→(Instr.indexAt t (.slice (some ⟨b,o,none⟩) n c) (.int k q)).run P w=.ok (.pointer (some ⟨b,o+q.toNat * m,none⟩)) w:=fun b o n c k q h0 h1=>by
  simp [Instr.indexAt,asIntOf,Yh hu,h0,h1,Xp hie,hsz,ZcD]
 unfold Za9 at h
 split at h
 ·have ei:=Za1 hi
  subst ei
  split at h
  ·rename_i hq
   obtain ⟨x,hx1,rfl⟩:=A9.1 h
   obtain ⟨A,cap,cs,L0,L1,rfl,h2,h3,h5,h6,h7,ho⟩:=Zf5 hx
   obtain ⟨h0,rfl⟩:=hq
   have hlt:=(AF.1 hx1).1
   obtain ⟨b,off,rfl,rfl,hc⟩:=h6.at_ (by omega)
   obtain ⟨c,L',a1,a2,a3,a4⟩:=h7.at hx1
   refine ⟨_,run b off _ _ _ _ h0 (by omega),⟨b,off+_,c,L',by rw [Nat.add_zero],fun j u hj=>?_,a1,fun y my=>?_,?_⟩,trivial⟩
   ·rw [AH];exact hc _ u (a4 j u hj)
   ·rcases AS.1 my with rfl | my
    ·exact ho _ (by simp)
    ·exact ho _ (by simp [a3 y my])
   ·exact h6.lt h5 b (by simp)
  ·simp at h
 ·rename_i k _ _
  have ei:=Za1 hi
  subst ei
  split at h
  ·rename_i e' m' xs d hk
   split at h
   ·rename_i hq
    obtain ⟨h0,h1,rfl⟩:=hq
    simp only[A6] at h
    subst h
    have hv:=ZeK hx
    subst hv
    obtain ⟨_,cs,L,o1,_⟩:=hI.deep hk
    rcases o1.2 with ⟨_,hn⟩ | ⟨b,o,cap,cur,hv,_⟩
    ·omega
    ·refine ⟨_,by rw [hv];exact run b o _ _ _ _ h0 h1,⟨b,o,_,_,hv,by simp⟩,by have:=hxu (.row k) (by simp);exact this⟩
   ·simp at h
  ·simp at h
 ·simp at h
theorem ZvI [NW] (htt:∀t i,tt t=some i→TOk P t i) {t:Nat} {x i v:SV} {vx vi:Value} (h:ZjW (tt t) x i=some v) (hx:SVR g w x vx) (hi:SVR g w i vi):
  ∃cv,(Instr.index t vx vi).run P w=.ok cv w∧SVR g w v cv∧svU U v:=by
 unfold ZjW at h
 split at h
 ·have ei:=Za1 hi
  subst ei
  obtain ⟨rfl,_⟩:=Zhm hx
  split at h
  ·rename_i hq
   obtain ⟨b,hb,rfl⟩:=A9.1 h
   refine ⟨_,?_,ZaQ _ _,Y8 _⟩
   simp [Instr.index,asIntOf,Yh (Zgb htt hq.2),hq.1,hb]
  ·simp at h
 ·simp at h
theorem ZqT [NW] {e:List CT} {v:Value} (h:SVR g w (.p false [.c (.pt e)]) v):∃b cs L,v=.pointer (some ⟨b,0,none⟩)∧b<w.heap.size∧Q9 w b 0 cs∧RCs w e cs L∧∀x∈b::L,¬g.own x:=by
 obtain ⟨x,hx,h⟩:=h
 simp at hx
 subst hx
 obtain ⟨_,⟨b,cs,L,h1,h2,rfl,h4,h5⟩,ho⟩:=h
 exact ⟨b,cs,L,h1,h2,h4,h5,ho⟩
theorem Zq2 [NW] (htt:∀t i,tt t=some i→TOk P t i) (hI:HI W g st.ob w) (hU:StU U st) {t:Nat} {x v:SV} {vx:Value} (h:Qa st (tt t) x=some v) (hx:SVR g w x vx):
  ∃cv,(Instr.loadAt t vx).run P w=.ok cv w∧SVR g w v cv∧svU U v:=by
 unfold Qa at h
 split at h
 ·rename_i k off
  split at h
  ·rename_i tb cs hk
   obtain ⟨b,h1,rfl⟩:=hx
   have ho:=hI.obs k
   rw [hk] at ho
   obtain ⟨b',vs,o1,o2,o3,o4,o5⟩:=ho
   have hb:b=b':=by rw [o1] at h1;simpa using h1.symm
   subst hb
   have hu:=hU.ob k
   rw [hk] at hu
   have hc:Q9 w b 0 vs:=fun j u hj=>by
    rw [AL,cell_of_row w b j vs.toArray tb (0,0) o4];simpa using hj
   have:=Zns (P:=P) htt h hc o5 hu
   simpa using this
  ·simp at h
 ·rename_i k m i off
  split at h
  ·rename_i e m' xs d hk
   obtain ⟨x,hx1,h'⟩:=AB.1 h
   obtain ⟨b,o,n,c,h1,rfl⟩:=hx
   obtain ⟨hm,cs,L,o1,o2,o3,_⟩:=hI.deep hk
   split at h'
   ·rename_i hmm
    subst hmm
    obtain ⟨c',L',a1,a2,a3,a4⟩:=o2.at hx1
    have hc:Q9 w b (o+i * m) c':=fun j u hj=>by
     rw [AH]
     exact ZhI o1 h1 (i * m+j) u (a4 j u hj)
    rw [←AH]
    exact Zns htt h' hc (a1.avr fun y my=>o3 y (a3 y my)) (Zkx true _)
   ·simp at h'
  ·simp at h
 ·obtain ⟨b,lo,cs,L,rfl,h2,h3,h4,h5⟩:=hx
  exact Zns htt h h2 (h3.avr fun y my=>h4 y (by simp [my])) (Zkx true _)
 ·obtain ⟨b,cs,L,rfl,h2,h3,h4,h5⟩:=ZqT hx
  have:=Zns (P:=P) (U:=U) htt h h3 (h4.avr fun y my=>h5 y (by simp [my])) (Zkx true _)
  simpa using this
 ·simp at h
theorem ZyP [NW] {d:Nat} {x v:SV} {vx:Value} (h:Zit d x=some v) (hx:SVR g w x vx) (hu:svU U x):∃b o,vx=.pointer (some ⟨b,o,none⟩)∧SVR g w v (.pointer (some ⟨b,o+d,none⟩))∧svU U v:=by
 unfold Zit at h
 split at h<;>simp at h<;>subst h
 ·obtain ⟨b,h1,rfl⟩:=hx;exact ⟨b,_,rfl,⟨b,h1,rfl⟩,hu⟩
 ·obtain ⟨b,o,n,c,h1,rfl⟩:=hx;exact ⟨b,_,rfl,⟨b,o,n,c,h1,by simp only[AH]⟩,hu⟩
 ·obtain ⟨b,lo,cs,L,rfl,h⟩:=hx;exact ⟨b,_,rfl,⟨b,lo,cs,L,by rw [AH],h⟩,trivial⟩
 ·obtain ⟨b,cs,L,rfl,h2,h3,h4,h5⟩:=ZqT hx
  exact ⟨b,0,rfl,⟨b,0,cs,L,rfl,h3,h4,h5,h2⟩,trivial⟩
theorem Zy0 [NW] (htt:∀t i,tt t=some i→TOk P t i) {t f n:Nat} {fs:List FI} {z:List AV} (hti:tt t=some (.strct fs n z)) {fi:FI} (hf:fs[f]?=some fi) {x v:SV} {vx:Value} (h:Zit fi.off x=some v) (hx:SVR g w x vx) (hu:svU U x):
  ∃cv,(Instr.fieldAt t vx f).run P w=.ok cv w∧SVR g w v cv∧svU U v:=by
 obtain ⟨b,o,rfl,h1,h2⟩:=ZyP h hx hu
 obtain ⟨fields,i,zvs,u1,_,_,_,_,u2⟩:=htt t _ hti
 obtain ⟨fl,e1,e2,e3,j,d,e4,e5,_⟩:=u2.at hf
 have e1':fields[f]?=some fl:=by simpa using e1
 refine ⟨_,?_,h1,h2⟩
 simp [Instr.fieldAt,Yh u1,e1',Instr.sureAddr,fieldPlace,Xp e4,e5,e3,ZcD,e2]
theorem Zx1 [NW] (htt:∀t i,tt t=some i→TOk P t i) {t f n:Nat} {fs:List FI} {z:List AV} (hti:tt t=some (.strct fs n z)) {x v:SV} {vx:Value} (h:Zlj fs f x=some v) (hx:SVR g w x vx) (hu:svU U x):
  ∃cv,(Instr.field t vx f).run P w=.ok cv w∧SVR g w v cv∧svU U v:=by
 unfold Zlj at h
 split at h
 ·rename_i cs
  obtain ⟨fi,hf,h⟩:=AB.1 h
  obtain ⟨vs,rfl,hr⟩:=hx
  obtain ⟨fields,i,zvs,u1,_,_,_,_,u2⟩:=htt t _ hti
  obtain ⟨fl,e1,e2,e3,j,d,e4,e5,e6,e7⟩:=u2.at hf
  have e1':fields[f]?=some fl:=by simpa using e1
  have hlen:=hr.len
  split at h
  ·rename_i ha
   split at h<;>simp at h
   rename_i hn
   subst h
   refine ⟨.agg ((vs.drop fi.off).take fi.size).toArray,?_,⟨_,rfl,(hr.drop _).take _⟩,fun y m=>hu y (AK (Ac m))⟩
   simp [Instr.field,Yh u1,e1',asAgg,part,Zgq e6,e7,ha,Xp e4,e5,e2]
  ·rename_i ha
   obtain ⟨y,hy,rfl⟩:=A9.1 h
   obtain ⟨u,b1,b2⟩:=hr.at hy
   refine ⟨u,?_,⟨y,rfl,b2⟩,fun z mz=>by simp at mz;subst mz;exact hu z (AR hy)⟩
   simp [Instr.field,Yh u1,e1',asAgg,part,Zgq e6,e7,ha,e2,b1]
 ·simp at h
theorem Zvs [NW] {c:Bool} {x y:SV} {vc vx vy:Value} (hc:SVR g w (.p false [.c (.bool c)]) vc) (hx:SVR g w x vx∧svU U x) (hy:SVR g w y vy∧svU U y):
  ∃cv,(do pure (Next.value (if ←asBool vc then vx else vy)):Sem Next).run P w=.ok (.value cv) w∧SVR g w (if c=true then x else y) cv∧svU U (if c=true then x else y):=by
 have:=ZeW hc
 subst this
 cases c
 ·exact ⟨vy,by simp [asBool],by simpa using hy.1,by simpa using hy.2⟩
 ·exact ⟨vx,by simp [asBool],by simpa using hx.1,by simpa using hx.2⟩
theorem Zwy [NW] {i:Nat} {x v:SV} {vx:Value} (h:Zt1 i x=some v) (hx:SVR g w x vx) (hu:svU U x):∃cv,(Instr.extract vx i).run P w=.ok cv w∧SVR g w v cv∧svU U v:=by
 unfold Zt1 at h
 split at h
 ·obtain ⟨y,hy,rfl⟩:=A9.1 h
  obtain ⟨vs,rfl,hr⟩:=hx
  obtain ⟨u,b1,b2⟩:=hr.at hy
  exact ⟨u,by simp [Instr.extract,b1],b2,hu y (AR hy)⟩
 ·simp at h
theorem Zs6 [NW] {lo:Bool} {x y v:SV} {vx vy:Value} {ts:Array TypeId} {ty:TypeId} (h:ZtJ lo x y=some v) (hx:SVR g w x vx) (hy:SVR g w y vy):
  ∃cv,((if lo then Builtin.min_ ts ty #[vx,vy] else Builtin.max_ ts ty #[vx,vy]):Sem Value).run P w=.ok cv w∧SVR g w v cv∧svU U v:=by
 unfold ZtJ at h
 split at h
 ·have ex:=Za1 hx
  have ey:=Za1 hy
  subst ex ey
  simp only[A6] at h
  subst h
  refine ⟨_,?_,ZaQ _ _,Y8 _⟩
  cases lo
  ·simp [Builtin.max_,Builtin.max2]
  ·simp [Builtin.min_,Builtin.min2]
 ·simp at h
end
end
section
open Go.RowKit
theorem ZeJ {α:Type} (l:List α) (off:Nat) (vs:List α) (h:off+vs.length≤l.length):(splice l off vs).length=l.length:=by
 simp [splice];omega
theorem ZpD {α:Type} (l:List α) (n:Nat) (v:α) (r:List α) (h:n+(r.length+1)≤l.length):splice (l.set n v) (n+1) r=splice l n (v::r):=by
 unfold splice
 have e1:(l.set n v).take (n+1)=l.take n++[v]:=by
  rw [List.take_succ_eq_append_getElem (by simp;omega)]
  simp [List.take_set_of_le]
 have e2:(l.set n v).drop (n+1+r.length)=l.drop (n+(v::r).length):=by
  rw [List.drop_set_of_lt (by omega)]
  congr 1
  simp;omega
 rw [e1,e2];simp
theorem Zmz [NW] (off:Nat):∀(vs:List Value) (k:Nat) (cells:Array Value),off+k+vs.length≤cells.size→
  (vs.zipIdx k).foldl (fun (cs:Array Value) (p:Value × Nat)=>cs.setIfInBounds (off+p.2) p.1) cells=(splice cells.toList (off+k) vs).toArray
 | [],k,cells,h=>by simp [splice]
 | v::r,k,cells,h=>by
  rw [List.zipIdx_cons,Ag,Zmz off r (k+1) _ (by simp at h ⊢;omega)]
  have:=ZpD cells.toList (off+k) v r (by simpa using h)
  rw [←this]
  simp [AH]
theorem Zkl [NW] (off:Nat) (v:Value) (vs:List Value) (hv:v.cells=vs.toArray) (cells:Array Value) (h:off+vs.length≤cells.size):
  v.cells.zipIdx.foldl (fun cs (c,j)=>cs.setIfInBounds (off+j) c) cells=(splice cells.toList off vs).toArray:=by
 have:=Zmz off vs 0 cells (by simpa using h)
 rw [hv,←Array.foldl_toList]
 simpa using this
section
variable {P:Program} {W:QK} {U:Nat→Prop} {key:Nat} {st:St} {g:Gh} {w:World} {a:Act} {tt:Nat→Option TI}
theorem ZH.splice {α β:Type} {R:α→β→Prop} {l vs:List α} {r us:List β} (h:ZH R l r) (h':ZH R vs us) (off:Nat):ZH R (splice l off vs) (splice r off us):=by
 unfold Go.Proofs.YtekbmedphidcgaaGreatDoor.splice
 rw [h'.len]
 exact (h.take _).append (h'.append (h.drop _))
theorem ZiW {l vs:List AV} (h:X6 U l) (h':X6 U vs) (off:Nat):X6 U (splice l off vs):=by
 intro y m
 unfold splice at m
 rcases A5.1 m with m | m
 ·exact h y (Ac m)
 ·rcases A5.1 m with m | m
  ·exact h' y m
  ·exact h y (AK m)
theorem Zq9 [NW] {place:Nat→Option (Nat × Nat)} {fs:List FI} (hp:∀i fi,fs[i]?=some fi→place i=some (fi.off,fi.size)):
  ∀{parts:List (Nat × SV)} {ps:List (Nat × Value)} {cs cs':List AV} {vs:List Value},ZhA fs cs parts=some cs'→ZH (fun p q=>p.1=q.1∧SVR g w p.2 q.2∧svU U p.2) parts ps→ZH (AVR g w) cs vs→X6 U cs→
   ∃vs':List Value,Instr.fill place vs.toArray ps=some vs'.toArray∧ZH (AVR g w) cs' vs'∧X6 U cs'
 | [],[],cs,cs',vs,h,_,hr,hu=>by simp [ZhA] at h;subst h;exact ⟨vs,rfl,hr,hu⟩
 | [],_::_,_,_,_,_,h,_,_=>h.elim
 | _::_,[],_,_,_,_,h,_,_=>h.elim
 | (i,s)::r,(j,v)::ps,cs,cs',vs,h,⟨⟨e,hs,hsu⟩,hps⟩,hr,hu=>by
  simp only at e hs hsu
  subst e
  cases s with
  | p ag us=>
   simp only[ZhA] at h
   obtain ⟨f,hf,h⟩:=AB.1 h
   split at h
   ·rename_i hl
    obtain ⟨us',c1,c2⟩:=PVR.cells hs
    have hlen:=c2.len
    have hlen2:=hr.len
    obtain ⟨vs',d1,d2,d3⟩:=Zq9 hp h hps (hr.splice c2 f.off) (ZiW hu hsu f.off)
    refine ⟨vs',?_,d2,d3⟩
    have hcs:v.cells.size=us'.length:=by simp [c1]
    rw [Instr.fill,hp i f hf]
    simp only
    rw [if_neg (by simp [hcs];omega),Zkl f.off v us' c1 _ (by simp;omega)]
    simpa using d1
   ·simp at h
  | _=>simp [ZhA] at h
theorem ZH.of_map {α β γ:Type} {R:β→γ→Prop} (f:α→β) (h:α→γ):∀{l:List α},(∀x∈l,R (f x) (h x))→ZH R (l.map f) (l.map h)
 | [],_=>trivial
 | x::l,hh=>⟨hh x (by simp),ZH.of_map f h fun y m=>hh y (by simp [m])⟩
theorem Zhc [NW]:∀{z:List AV} {zvs:List Value},ZH (fun a v=>QV a v=true) z zvs→ZH (AVR g w) z zvs∧X6 U z
 | [],[],_=>⟨trivial,fun _ m=>by simp at m⟩
 | x::z,v::zvs,h=>by
  obtain ⟨h1,h2⟩:=Zhc (z:=z) (zvs:=zvs) h.2
  refine ⟨⟨Zep h.1,h1⟩,fun y m=>?_⟩
  rcases AS.1 m with rfl | m
  ·have:=h.1
   cases y<;>first | trivial | simp [QV] at this
  ·exact h2 y m
 | [],_::_,h=>h.elim
 | _::_,[],h=>h.elim
theorem ZmJ:∀{fs:List FI} {fields:List Field},ZH (fun (fi:FI) (f:Field)=>f.offset=fi.off∧fi.size≠0∧∃j d,P.info? f.type=some j∧j.size=fi.size∧P.underlying f.type=some d∧Zpk d=fi.agg) fs fields→
  fields.mapM (fun f=>(P.info? f.type).map fun i=>(f.offset,i.size))=some (fs.map fun fi=>(fi.off,fi.size))
 | [],[],_=>rfl
 | fi::fs,f::fields,⟨⟨h1,_,j,d,h2,h3,_⟩,h⟩=>by
  simp [List.mapM_cons,h2,h3,h1,ZmJ h]
 | [],_::_,h=>h.elim
 | _::_,[],h=>h.elim
theorem Zud [NW] (htt:∀t i,tt t=some i→TOk P t i) (hS:∀t,SVR g w (st.sl t) (a.tmps.getD t undef)) (hU:StU U st) {t n:Nat} {fs:List FI} {z:List AV} (hti:tt t=some (.strct fs n z)) {parts:Array (Nat × Operand)} {cs:List AV} (h:ZhA fs z (parts.toList.map (Ze5 tt st fs z))=some cs):
  ∃cv,(Instr.build t (parts.map fun (i,x)=>(i,a.eval x))).run P w=.ok cv w∧SVR g w (.p true cs) cv∧svU U (.p true cs):=by
 obtain ⟨fields,i,zvs,u1,u2,u3,u4,u5,u6⟩:=htt t _ hti
 obtain ⟨hz,hzu⟩:=Zhc (g:=g) (w:=w) (U:=U) u5
 have hparts:ZH (fun (p:Nat × SV) (q:Nat × Value)=>p.1=q.1∧SVR g w p.2 q.2∧svU U p.2) (parts.toList.map (Ze5 tt st fs z)) (parts.toList.map fun p=>(p.1,a.eval p.2)):=by
  refine ZH.of_map _ _ fun p _=>?_
  unfold Ze5
  split
  ·rename_i hc
   rw [hc]
   refine ⟨rfl,?_⟩
   dsimp only
   split
   ·exact ⟨⟨_,rfl,rfl⟩,fun y m=>by simp at m;subst m;trivial⟩
   ·exact ⟨trivial,trivial⟩
  ·have:=Zi6 htt hS hU 0 p.2
   exact ⟨rfl,this⟩
 have hpl:∀(i:Nat) (fi:FI),fs[i]?=some fi→((fs.map fun (fi:FI)=>(fi.off,fi.size)).toArray[i]?)=some (fi.off,fi.size):=fun i fi hf=>by simp [hf]
 obtain ⟨vs',d1,d2,d3⟩:=Zq9 hpl h hparts hz hzu
 refine ⟨.agg vs'.toArray,run_build w t _ _ ?_,⟨vs',rfl,d2⟩,d3⟩
 unfold Program.built
 simp only[u1,u2,u4,ZmJ u6]
 have e:(parts.map fun (x:Nat × Operand)=>(x.1,a.eval x.2)).toList=parts.toList.map fun p=>(p.1,a.eval p.2):=by simp
 have e2:(parts.map fun x=>match x with | (i,x)=>(i,a.eval x))=parts.map fun (x:Nat × Operand)=>(x.1,a.eval x.2):=rfl
 rw [e2,e]
 exact d1
theorem Sl.sub {m n:Nat} {A:Option Addr} {cs:List Value} {L:List Nat} (h:Sl w m A n cs L) (l q cap:Nat) (hm:0<m) (hq:l+q≤n) (hcap:n≤cap):
  ∃A' L',A'=(if cap=l then A else A.map (·.add (l * m)))∧Sl w m A' q ((cs.drop (l * m)).take (q * m)) L'∧∀b∈L',b∈L:=by
 have hlen:=h.1
 have hlm:l * m+q * m≤n * m:=by rw [←AO];exact Nat.mul_le_mul_right m hq
 refine ⟨_,if q=0 then [] else L,rfl,⟨by simp;omega,?_⟩,fun b mb=>?_⟩
 ·by_cases hq0:q=0
  ·exact .inl ⟨hq0,by simp [hq0]⟩
  ·rcases h.2 with ⟨h0,_⟩ | ⟨_,b,off,rfl,rfl,hc⟩
   ·omega
   ·refine .inr ⟨by omega,b,off+l * m,by rw [if_neg (by omega)];simp [ZcD],by simp [hq0],fun j u hj=>?_⟩
    rw [AH]
    refine hc _ u ?_
    have hjq:j<q * m:=by
     have:=(AF.1 hj).1
     simp at this;omega
    rw [B5,if_pos hjq,B6] at hj
    exact hj
 ·split at mb
  ·simp at mb
  ·exact mb
theorem REs.drop {m:Nat}:∀{xs:List (List CT)} {cs:List Value} {L:List Nat} (l:Nat),REs w m xs cs L→∃L',REs w m (xs.drop l) (cs.drop (l * m)) L'∧∀b∈L',b∈L
 | xs,cs,L,0,h=>⟨L,by simpa using h,fun _ mb=>mb⟩
 | [],cs,L,l+1,h=>⟨[],by obtain ⟨rfl,rfl⟩:=h;simp [REs],by simp⟩
 | x::r,_,_,l+1,⟨c1,c2,L1,L2,rfl,rfl,h3,h4⟩=>by
  obtain ⟨L',h5,h6⟩:=REs.drop l h4
  refine ⟨L',?_,fun b mb=>by simp [h6 b mb]⟩
  have e:(l+1) * m=c1.length+l * m:=by rw [h3.2,AO];omega
  have e2:(c1++c2).drop (c1.length+l * m)=c2.drop (l * m):=by
   rw [List.drop_append,List.drop_of_length_le (Nat.le_add_right _ _),List.nil_append,Nat.add_sub_cancel_left]
  rw [e,e2]
  simpa using h5
theorem REs.take {m:Nat}:∀{xs:List (List CT)} {cs:List Value} {L:List Nat} (l:Nat),REs w m xs cs L→∃L',REs w m (xs.take l) (cs.take (l * m)) L'∧∀b∈L',b∈L
 | xs,cs,L,0,h=>⟨[],by simp [REs],by simp⟩
 | [],cs,L,l+1,h=>⟨[],by obtain ⟨rfl,rfl⟩:=h;simp [REs],by simp⟩
 | x::r,_,_,l+1,⟨c1,c2,L1,L2,rfl,rfl,h3,h4⟩=>by
  obtain ⟨L',h5,h6⟩:=REs.take l h4
  refine ⟨L1++L',?_,fun b mb=>by
   rcases A5.1 mb with mb | mb
   ·simp [mb]
   ·simp [h6 b mb]⟩
  have e:(l+1) * m=c1.length+l * m:=by rw [h3.2,AO];omega
  rw [e,List.take_length_add_append]
  exact ⟨c1,_,L1,L',rfl,rfl,h3,h5⟩
theorem Znc {k:IntKind} {i:Int} {y:Nat} {code:BoundsCode} (h0:0≤i) (h1:i≤y):(Instr.sliceBound (.int k i) y code).run P w=.ok i.toNat w:=by
 simp [Instr.sliceBound,asIntOf,h0,h1]
def Zkq [NW] (g:Gh) (w:World):Option SV→Option Value→Prop
 | none,none=>True
 | some s,some u=>SVR g w s u
 | _,_=>False
theorem Zho [NW] {lo hi:Option SV} {vlo vhi:Option Value} {len cap l h:Nat} {b:Bool} (hh:hiB len hi=some h) (hl:loB h lo=some l) (hlo:Zkq g w lo vlo) (hhi:Zkq g w hi vhi) (hc:len≤cap):
  (Instr.sliceBounds b len cap vlo vhi none).run P w=.ok (l,h,cap) w∧l≤h∧h≤len:=by
 have e1 : ((match vhi, (none : Option Value) with | some v, some _ => Instr.sliceBound v cap .slice3B | some v, none => Instr.sliceBound v cap (if b then .sliceAcap else .sliceAlen) | none, none => pure len | none, some _ => stuck "Slice: max without high") : Sem Nat).run P w = .ok h w ∧ h ≤ len := by
  unfold hiB at hh
  split at hh
  ·simp only[A6] at hh
   subst hh
   cases vhi with
   | none=>exact ⟨rfl,A8 _⟩
   | some v=>exact hhi.elim
  ·split at hh<;>simp only[A6,reduceCtorEq] at hh
   rename_i hq
   subst hh
   cases vhi with
   | none=>exact hhi.elim
   | some v=>
    have e:=Za1 hhi
    subst e
    exact ⟨Znc hq.1 (by omega),by omega⟩
  ·simp at hh
 have e2:((match vlo with | some v=>Instr.sliceBound v h .sliceB | none=>pure 0):Sem Nat).run P w=.ok l w∧l≤h:=by
  unfold loB at hl
  split at hl
  ·simp only[A6] at hl
   subst hl
   cases vlo with
   | none=>exact ⟨rfl,Ah _⟩
   | some v=>exact hlo.elim
  ·split at hl<;>simp only[A6,reduceCtorEq] at hl
   rename_i hq
   subst hl
   cases vlo with
   | none=>exact hlo.elim
   | some v=>
    have e:=Za1 hlo
    subst e
    exact ⟨Znc hq.1 hq.2,by omega⟩
  ·simp at hl
 refine ⟨?_,e2.2,e1.2⟩
 unfold Instr.sliceBounds
 simp only[Sem.run_bind,Sem.run_pure,Result.andThen_ok,Option.isSome_none,AD,if_false]
 have e1':=e1.1
 have e2':=e2.1
 cases vhi<;>cases vlo<;>simp_all
theorem Zor [NW] (htt:∀t i,tt t=some i→TOk P t i) {t:Nat} {x v:SV} {lo hi:Option SV} {vx:Value} {vlo vhi:Option Value} (h:ZkW (tt t) lo hi x=some v) (hx:SVR g w x vx)
  (hlo:Zkq g w lo vlo) (hhi:Zkq g w hi vhi):∃cv,(Instr.sliceAt t vx vlo vhi none).run P w=.ok cv w∧SVR g w v cv∧svU U v:=by
 unfold ZkW at h
 split at h
 ·rename_i s
  split at h
  ·rename_i hstr
   have hu:=Zgb htt hstr
   obtain ⟨q,hq,h⟩:=AB.1 h
   obtain ⟨l,hl,rfl⟩:=A9.1 h
   obtain ⟨rfl,hs⟩:=Zhm hx
   obtain ⟨b1,b2,b3⟩:=Zho (P:=P) (b:=false) hq hl hlo hhi (A8 _)
   refine ⟨_,?_,Zjz (by rw [AT];omega),Y8 _⟩
   simp [Instr.sliceAt,Yh hu,Instr.slice,b1]
  ·simp at h
 ·rename_i e m xs
  split at h
  ·rename_i hsz
   obtain ⟨q,hq,h⟩:=AB.1 h
   obtain ⟨l,hl,rfl⟩:=A9.1 h
   obtain ⟨A,cap,cs,L0,L1,rfl,h2,h3,h5,h6,h7,ho⟩:=Zf5 hx
   obtain ⟨b1,b2,b3⟩:=Zho (P:=P) (b:=true) hq hl hlo hhi h2
   obtain ⟨e',b',z',hti⟩:∃e' b' z',tt t=some (.slice e' m b' z'):=by
    unfold ZiK at hsz
    split at hsz
    ·rename_i h1;subst hsz;exact ⟨_,_,_,h1⟩
    ·omega
   obtain ⟨hu,_,_,⟨ie,zv,hie,hsi,_⟩,_⟩:=htt t _ hti
   have fin:SVR g w (.p false [.c (.sl e m ((xs.take q).drop l))]) (.slice (if cap=l then A else A.map (·.add (l * m))) (q - l) (cap - l)):=by
    obtain ⟨A',L',rfl,s1,s2⟩:=h6.sub l (q - l) cap h5 (by omega) h2
    obtain ⟨M1,r1,r2⟩:=h7.take q
    obtain ⟨M2,r3,r4⟩:=r1.drop l
    have hlen:((xs.take q).drop l).length=q - l:=by simp;omega
    have e1:(cs.drop (l * m)).take ((q - l) * m)=(cs.take (q * m)).drop (l * m):=by
     rw [List.drop_take,Nat.sub_mul]
    rw [e1] at s1
    refine ⟨_,rfl,L'++M2,⟨_,_,_,L',M2,by rw [hlen],by rw [hlen];omega,by omega,rfl,h5,by rw [hlen];exact s1,r3⟩,fun b mb=>?_⟩
    rcases A5.1 mb with mb | mb
    ·exact ho b (by simp [s2 b mb])
    ·exact ho b (by simp [r2 b (r4 b mb)])
   refine ⟨_,?_,fin,Y8 _⟩
   simp [Instr.sliceAt,Yh hu,Instr.slice,b1,Xp hie,hsi]
  ·simp at h
 ·simp at h
end
end
section
open Go.RowKit
theorem Zy {α:Type} (f:Nat→α) (k:Nat) (v:α):upd f k v k=v:=by simp [upd]
theorem ZI {α:Type} (f:Nat→α) {k j:Nat} (v:α) (h:j≠k):upd f k v j=f j:=by simp [upd,h]
theorem Yy (ob:Nat→Ob) (u v:List (Nat × Ob)):Zk ob (u++v)=Zk (Zk ob u) v:=by
 induction u generalizing ob with
 | nil=>rfl
 | cons p r ih=>exact ih _
theorem ZiO:∀(ks:List Nat) (ob:Nat→Ob) (k:Nat),Zk ob (Zaf ks) k=if k∈ks then .gone else ob k
 | [],ob,k=>by simp [Zaf,Zk]
 | x::ks,ob,k=>by
  have:Zaf (x::ks)=(x,Ob.gone)::Zaf ks:=rfl
  rw [this,Zk,ZiO ks]
  by_cases h1:k∈ks
  ·simp [h1]
  ·by_cases h2:k=x
   ·subst h2;simp [upd]
   ·simp [h1,h2,upd]
theorem Zax [NW] (ks:List Nat) (ob:Nat→Ob) (key:Nat) (o:Ob) (k:Nat):Zk ob (Zaf ks++[(key,o)]) k=if k=key then o else if k∈ks then .gone else ob k:=by
 rw [Yy]
 simp only[Zk,upd,ZiO]
def Gh.turn (g:Gh) (ks:List Nat) (key:Nat) (v:Value) (O D:List Nat):Gh:=
 ⟨upd g.val key v,fun k=>if k=key then O else if k∈ks then [] else g.O k,fun k=>if k=key then D else if k∈ks then [] else g.D k,g.Z⟩
section
variable {P:Program} {W:QK} {U:Nat→Prop} {key:Nat} {st:St} {g:Gh} {w w':World} {a:Act} {tt:Nat→Option TI}
theorem ZdX {ks:List Nat} {v:Value} {O D:List Nat} {b:Nat} (h:(g.turn ks key v O D).own b):b∈O∨(∃k,k∉ks∧k≠key∧b∈g.O k)∨g.Z b:=by
 rcases h with ⟨k,hk⟩ | h
 ·simp only[Gh.turn] at hk
  split at hk
  ·exact .inl hk
  ·rename_i h1
   split at hk
   ·simp at hk
   ·rename_i h2;exact .inr (.inl ⟨k,h2,h1,hk⟩)
 ·exact .inr (.inr h)
theorem Zm7 {n:Nat} {ks:List Nat} {v:Value} {O D:List Nat} (hO:∀b∈O,(∃k∈ks,b∈g.O k)∨n≤b) (hD:∀b∈D,(∃k∈ks,b∈g.O k++g.D k)∨n≤b):X7 g (g.turn ks key v O D) n:=by
 refine .of (fun b hb=>?_) fun j b mb=>?_
 ·rcases ZdX hb with m | ⟨k,_,_,m⟩ | m
  ·rcases hO b m with ⟨k,_,m⟩ | m
   ·exact .inl (.inl ⟨k,m⟩)
   ·exact .inr m
  ·exact .inl (.inl ⟨k,m⟩)
  ·exact .inl (.inr m)
 ·simp only[Gh.turn] at mb
  split at mb
  ·refine (hD b mb).imp (fun ⟨k,_,mk⟩=>?_) id
   rcases A5.1 mk with m1 | m1
   ·exact .inl (.inl ⟨k,m1⟩)
   ·exact .inr ⟨k,m1⟩
  ·split at mb
   ·simp at mb
   ·exact .inl (.inr ⟨j,mb⟩)
theorem HI.turn [NW] {ob:Nat→Ob} (h:HI W g ob w) (hobU:∀k,obU U (ob k)) (hkey:¬U key) (ks:List Nat) (hks:∀k∈ks,U k)
  (hbel:Bel W w') (hsz:w.heap.size≤w'.heap.size) (hw:∀b,b<w.heap.size→(∀k∈ks,b∉g.O k)→w'.heap[b]?=w.heap[b]?)
  {v:Value} {O D:List Nat} {o:Ob} (hO:∀b∈O,(∃k∈ks,b∈g.O k)∨w.heap.size≤b) (hD:∀b∈D,(∃k∈ks,b∈g.O k++g.D k)∨w.heap.size≤b)
  (hnd:(O++D).Nodup) (hpl:∀b∈O++D,(W.heap.size≤b∨W.x b)∧Xk w' o b)
  (hob:X7 g (g.turn ks key v O D) w.heap.size→ObR (g.turn ks key v O D) w' key o):
  HI W (g.turn ks key v O D) (Zk ob (Zaf ks++[(key,o)])) w'∧∀x u,svU U x→SVR g w x u→SVR (g.turn ks key v O D) w' x u:=by
 have hkk:key∉ks:=fun m=>hkey (hks key m)
 have hval:∀k,U k→(g.turn ks key v O D).val k=g.val k:=fun k hk=>ZI _ _ fun e=>hkey (e ▸ hk)
 have hown:X7 g (g.turn ks key v O D) w.heap.size:=Zm7 hO hD
 have hFnew:∀b∈O++D,(∃k∈ks,b∈g.O k++g.D k)∨w.heap.size≤b:=fun b m=>by
  rcases A5.1 m with m | m
  ·exact (hO b m).imp (fun ⟨k,h1,h2⟩=>⟨k,h1,by simp [h2]⟩) id
  ·exact hD b m
 refine ⟨h.step (fun k=>k=key∨k∈ks) hbel rfl (fun b hb hn=>hw b hb fun k hk=>hn k (.inr hk)) (fun k hk=>?_) hobU hval hown (fun k hk=>?_),fun x u hx hu=>hu.move hx hval (fun b hb hn=>hw b hb fun k _ m=>hn (.inl ⟨k,m⟩)) hown hsz⟩
 ·have h1:k≠key:=fun e=>hk (.inl e)
  have h2:k∉ks:=fun e=>hk (.inr e)
  rw [Zax]
  simp [Gh.turn,h1,h2,upd]
 ·rw [Zax]
  by_cases h1:k=key
  ·subst h1
   have eO:(g.turn ks k v O D).O k=O:=by simp [Gh.turn]
   have eD:(g.turn ks k v O D).D k=D:=by simp [Gh.turn]
   rw [if_pos rfl,eO,eD]
   refine ⟨hob hown,hnd,hpl,fun j hj b m mj=>?_⟩
   have hjk:¬j=k:=fun e=>hj e.symm
   by_cases h2:j∈ks
   ·simp [Gh.turn,hjk,h2] at mj
   ·have mj':b∈g.O j++g.D j:=by simpa [Gh.turn,hjk,h2] using mj
    rcases hFnew b m with ⟨q,q1,q2⟩ | q
    ·exact h.apart q j (fun e=>h2 (e ▸ q1)) b q2 mj'
    ·have:=h.lt j b mj';omega
  ·have h2:k∈ks:=hk.resolve_left h1
   have eO:(g.turn ks key v O D).O k=[]:=by simp [Gh.turn,h1,h2]
   have eD:(g.turn ks key v O D).D k=[]:=by simp [Gh.turn,h1,h2]
   rw [if_neg h1,if_pos h2,eO,eD]
   exact ⟨⟨eO,eD⟩,by simp,by simp,by simp⟩
theorem Zh7 [NW] (hU:StU U st) (ks:List Nat) {o:Ob} (ho:obU (Uk U key) o):(∀k,obU (Uk U key) (Zk st.ob (Zaf ks++[(key,o)]) k))∧∀k,¬Uk U key k→Zk st.ob (Zaf ks++[(key,o)]) k=.gone:=by
 constructor
 ·intro k
  rw [Zax]
  split
  ·exact ho
  ·split
   ·trivial
   ·exact (hU.ob k).mono fun _=>.inl
 ·intro k hk
  rw [Zax,if_neg (fun e=>hk (.inr (by omega)))]
  split
  ·rfl
  ·exact hU.gone k fun h=>hk (.inl h)
theorem Zij:Uk U key key:=.inr (by omega)
theorem ZtI [NW] (hI:HI W g st.ob w) (hU:StU U st) (hkey:¬U key) {t:TypeId} {cs:List AV} {vs:List Value} (hr:ZH (AVR g w) cs vs) (hu:X6 U cs) {s:Sem Next}
  (hrun:s.run P w=.ok (.value (.pointer (some ⟨w.heap.size,0,none⟩))) (w.alloc (.cells vs.toArray t))):Fin P W U key st g w s (.bp key 0,[(key,.box t cs)]):=by
 have hb:Below w.heap.size w (w.alloc (.cells vs.toArray t)):=(Below.refl _ _).alloc (A8 _) _
 obtain ⟨h1,h2⟩:=hI.turn (key:=key) (U:=U) (w':=w.alloc (.cells vs.toArray t)) (v:=.pointer (some ⟨w.heap.size,0,none⟩)) (O:=[w.heap.size]) (D:=[]) (o:=.box t cs) hU.ob hkey [] (by simp)
  (hI.below.trans hb) hb.size (fun b hb' _=>hb.block b hb') (by simp) (by simp) (by simp) (fun b m=>by
   simp at m;subst m;exact ⟨.inl hI.below.size,_,_,heap_alloc_new w _⟩) (fun hown=>⟨w.heap.size,vs,by simp [Gh.turn,upd],by simp [Gh.turn],by simp [Gh.turn],heap_alloc_new w _,
    AVRs.move hr hu (fun k hk=>ZI _ _ fun e=>hkey (e ▸ hk)) (fun b hb' _=>hb.block b hb') hown⟩)
 have hwf:=Zh7 (key:=key) (o:=.box t cs) hU [] (X6.mono (fun _=>.inl) hu)
 exact ⟨_,_,_,.inl hrun,h1,⟨w.heap.size,by simp [Gh.turn,upd],rfl⟩,h2,Zij,hwf.1,hwf.2⟩
theorem Zmq (b:Nat) (cs cs':Array Value) (t:TypeId) (hb:w.heap[b]?=some (.cells cs t (0,0))):(w.setRow b cs').heap[b]?=some (.cells cs' t (0,0))∧(∀k,k≠b→(w.setRow b cs').heap[k]?=w.heap[k]?)∧(w.setRow b cs').heap.size=w.heap.size∧(w.setRow b cs').os=w.os∧(w.setRow b cs').tape=w.tape∧(w.setRow b cs').output=w.output:=by
 refine ⟨setRow_heap w b cs cs' t _ hb,fun k hk=>?_,?_,rfl,rfl,rfl⟩
 ·have hbk:¬b=k:=fun e=>hk e.symm
  simp [World.setRow,Array.getElem?_modify,hbk]
 ·simp [World.setRow]
theorem ZtA [NW] (htt:∀t i,tt t=some i→TOk P t i) (hI:HI W g st.ob w) (hU:StU U st) {t k off tb:Nat} {cs vs:List AV} {va vv:Value} {ag:Bool} (hk:st.ob k=.box tb cs) (hl:vs.length=Zhl (tt t)) (ho:off+vs.length≤cs.length)
  (ha:SVR g w (.bp k off) va) (hv:SVR g w (.p ag vs) vv) (hvu:X6 U vs) (hpos:0<vs.length) {s:Sem Next} (hs:s=(do Instr.storeAt t va vv;pure .skip)):Fin P W U key st g w s (.und,[(k,.box tb (splice cs off vs))]):=by
 obtain ⟨b,h1,rfl⟩:=ha
 have hob:=hI.obs k
 rw [hk] at hob
 obtain ⟨b',us,o1,o2,o3,o4,o5⟩:=hob
 have hb:b=b':=by rw [o1] at h1;simpa using h1.symm
 subst hb
 have hlen:=o5.len
 obtain ⟨xs,c1,c2⟩:=PVR.cells hv
 have hxl:=c2.len
 have hcu:=hU.ob k
 rw [hk] at hcu
 obtain ⟨r1,r2,r3,r4,r5,r6⟩:=Zmq b us.toArray (splice us off xs).toArray tb o4
 have hsize:(sizeOf t).run P w=.ok xs.length w:=by
  rw [←hxl,hl]
  unfold Zhl at hl ⊢
  cases hti:tt t with
  | none=>rw [hti] at hl;simp at hl;simp [hl] at hpos
  | some i=>
   cases i with
   | atom z=>obtain ⟨d,zv,i,_,_,h3,_,h4,_⟩:=htt t _ hti;rw [Xp h3,h4]
   | strct fs n z=>obtain ⟨_,i,_,_,h3,h4,_⟩:=htt t _ hti;rw [Xp h3,h4]
   | slice e m b z=>obtain ⟨_,_,_,_,j,h3,h4,_⟩:=htt t _ hti;rw [Xp h3,h4]
   | _=>rw [hti] at hl;simp at hl;simp [hl] at hpos
 have hst:=run_storeCells_at (P:=P) b off tb xs 0 us.toArray w o4 (by simp;omega) (AVRs.one c2)
 have hrun:s.run P w=.ok .skip (w.setRow b (splice us off xs).toArray):=by
  subst hs
  have e:(us.toArray.toList.take (off+0)++xs++us.toArray.toList.drop (off+0+xs.length)).toArray=(splice us off xs).toArray:=by simp [splice]
  rw [e] at hst
  simp [Instr.storeAt,Instr.sureAddr,storeVar,c1,hsize,hst]
 have hmv:∀b',b'<w.heap.size→¬g.own b'→(w.setRow b (splice us off xs).toArray).heap[b']?=w.heap[b']?:=fun b' _ hn=>r2 b' fun e=>hn (.inl ⟨k,by simp [o2,e]⟩)
 have hbW:W.heap.size≤b∨W.x b:=(hI.plain k b (by simp [o2])).1
 refine ⟨g,undef,_,.inr ⟨hrun,rfl⟩,?_,rfl,fun x u hx hu=>hu.move hx (fun _ _=>rfl) hmv (X7.refl _ _) (by omega),trivial,fun q=>?_,fun q hq=>?_⟩
 ·refine hI.step (U:=U) (fun q=>q=k) ?_ rfl (fun b' _ hn=>r2 b' fun e=>hn k rfl (by simp [o2,e])) (fun q hq=>⟨ZI _ _ hq,rfl,rfl,rfl⟩) hU.ob (fun _ _=>rfl) (X7.refl _ _) (fun q hq=>?_)
  ·exact ⟨r4.trans hI.below.os,r5.trans hI.below.tape,r6.trans hI.below.output,by have:=hI.below.size;omega,fun q hq hx=>by rw [r2 q (fun e=>by subst e;rcases hbW with h | h;omega;exact hx h)];exact hI.below.block q hq hx⟩
  ·subst hq
   refine ⟨?_,hI.nodup q,fun b' m=>?_,hI.apart q⟩
   ·simp only[Zk,Zy]
    exact ⟨b,_,o1,o2,o3,r1,(AVRs.move o5 hcu (fun _ _=>rfl) hmv (X7.refl _ _)).splice (AVRs.move c2 hvu (fun _ _=>rfl) hmv (X7.refl _ _)) off⟩
   ·simp [o2,o3] at m
    subst m
    refine ⟨hbW,?_⟩
    simp only[Zk,Zy]
    exact ⟨_,_,r1⟩
 ·simp only[Zk,upd]
  split
  ·exact X6.mono (fun _=>.inl) (ZiW hcu hvu off)
  ·exact (hU.ob q).mono fun _=>.inl
 ·simp only[Zk,upd]
  split
  ·rename_i e;subst e
   exact absurd (hU.gone q fun h=>hq (.inl h)) (by simp [hk])
  ·exact hU.gone q fun h=>hq (.inl h)
end
end
end Go.Proofs.YtekbmedphidcgaaGreatDoor
