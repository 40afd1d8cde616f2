/- Texts of this proof, joined: S19, S20, S21, S22, S23, W1, Dp20, Dp21, W2, Sz, To, Eq, MText, Mk, Mark, Held, Open, ExactDerivedOf, Opens. What each holds is said at its theorems. -/
import Derived.Test.YtekbmedphidcgaaGreatDoorDerivedOfQ6
import Derived.Test.YtekbmedphidcgaaGreatDoorDerivedOfQ5
import Derived.Test.YtekbmedphidcgaaGreatDoorDerivedOfQ4
import Derived.Test.YtekbmedphidcgaaGreatDoorProg
import Derived.OwnWalk
import Derived.Outline
import Derived.WalkSpells
import Derived.StillTailTactics
import Derived.Test.YtekbmedphidcgaaGreatDoorDerivedOfQ3
import Derived.Test.YtekbmedphidcgaaGreatDoorDerivedOfQ1
import Derived.WalkLawsBesides
import Derived.Deep.RegionHeld3
import Derived.Deep.Slices
import Derived.ChangeArms
import Derived.ProofKit
set_option linter.unusedSimpArgs false
set_option linter.unusedVariables false
open Bool renaming false_eq_true→AC,and_eq_true→Ak
open ByteArray renaming size→Ay
open Go.ByteArray renaming mk_append_mk→Az
open Int renaming le_trans→A7,le_refl→AD,toNat→AW,toNat_natCast→Ad
open List renaming getElem?_eq_getElem→A3,replicate→A8,drop_eq_getElem_cons→A9,take→AA,drop→AB,drop_of_length_le→AE,getElem?_eq_some_iff→AF,range'→AG,mem_cons→AH,length_append→AJ,mem_append→AK,map→AL,append_nil→AM,length_cons→AN,getElem?_eq_none→AO,foldl_cons→AP,map_cons→AQ,append_assoc→AS,set_append_right→AT,set_cons_zero→AU,drop_zero→AY,sum_cons→Aa,getElem_append_right→Ab,range→Ac,eq_nil_of_length_eq_zero→Ae,length_filter_le→Ag,countP_le_length→Ah,set_set→Ai,eq_nil_iff_forall_not_mem→Aj,all_eq_true→Al,mem_of_getElem?→Am,getElem?_append_left→Ao,range_eq_range'→Ap,any_eq_true→Aq,length_singleton→Ar,flatten_cons→As,take_add_one→At,sublist_append_left→Au,mem_flatten→Av,getElem_mem→Aw,not_mem_nil→Ax
open Nat renaming zero_le→A4,add_zero→A5,le_refl→A6,lt_of_lt_of_le→AI,mul_one→AR,le_trans→AX
open Option renaming bind_some→A0
open Option.some renaming inj→Af
open UInt8 renaming ofNat→AZ
open Go.Proofs.Tryz
namespace Go.Proofs.YtekbmedphidcgaaGreatDoor
section
open Classical
theorem ZyX {P:Nat→Prop}:∀v,P v→∃v,P v∧∀u,P u→v≤u:=by
 intro v
 induction v using Nat.strongRecOn with
 | ind v ih=>
  intro hv
  by_cases h:∃u,P u∧u<v
  ·obtain ⟨u,hu,hl⟩:=h
   exact ih u hl hu
  ·exact ⟨v,hv,fun u hu=>by
    by_cases hl:u<v
    ·exact absurd ⟨u,hu,hl⟩ h
    ·omega⟩
theorem Ztx {n:Nat} {R:List Zg} (hR:∀r∈R,OkN n r) {t0:Nat→Int} (h0:Zjk R t0):∃L,ZaZ n R L:=by
 have hm:∀i:Nat,∃v:Nat,(∃t,Zjk R t∧(t i).toNat=v)∧∀u,(∃t,Zjk R t∧(t i).toNat=u)→v≤u:=fun i=>ZyX _ ⟨t0,h0,rfl⟩
 let m:Nat→Nat:=fun i=>Classical.choose (hm i)
 have m1:∀i,∃t,Zjk R t∧(t i).toNat=m i:=fun i=>(Classical.choose_spec (hm i)).1
 have m2:∀i t,Zjk R t→((m i:Nat):Int)≤t i:=fun i t ht=>by
  have:=(Classical.choose_spec (hm i)).2 _ ⟨t,ht,rfl⟩
  have:=ht.pos i
  show ((Classical.choose (hm i):Nat):Int)≤t i
  omega
 let L:List Int:=(Ac n).map fun i=>((m i:Nat):Int)
 have hL:∀i,i<n→lvN L i=((m i:Nat):Int):=fun i hi=>by
  have:L[i]?=some ((m i:Nat):Int):=by simp [L,hi]
  unfold lvN;rw [this];rfl
 have hL2:∀i,¬i<n→lvN L i=0:=fun i hi=>by
  unfold lvN;rw [AO (by simp [L];omega)];rfl
 refine ⟨L,by simp [L],⟨fun i=>?_,fun r mr y my=>?_,fun r mr y my=>?_⟩,fun t ht i=>?_⟩
 ·by_cases hi:i<n
  ·rw [hL i hi];omega
  ·rw [hL2 i hi];exact AD _
 ·obtain ⟨f1,f2,_⟩:=hR r mr
  rw [hL _ f1.2,hL _ (f2 y my).2]
  obtain ⟨t,ht,e⟩:=m1 r.for_.toNat
  have:=m2 y.toNat t ht
  have:=ht.inn r mr y my
  have:=ht.pos r.for_.toNat
  omega
 ·obtain ⟨f1,_,f3⟩:=hR r mr
  rw [hL _ f1.2,hL _ (f3 y my).2]
  obtain ⟨t,ht,e⟩:=m1 r.for_.toNat
  have:=m2 y.toNat t ht
  have:=ht.outs r mr y my
  have:=ht.pos r.for_.toNat
  omega
 ·by_cases hi:i<n
  ·rw [hL i hi];exact m2 i t ht
  ·rw [hL2 i hi];exact ht.pos i
theorem ZsR {n:Nat} {R:List Zg} (hR:∀r∈R,OkN n r) (hS:Zni R):∃L,ZaZ n R L∧∀i,lvN L i<n∨lvN L i=0:=by
 obtain ⟨h1,h2⟩:=Zp9 hR hS
 obtain ⟨L,hL⟩:=Ztx hR h1
 refine ⟨L,hL,fun i=>?_⟩
 have:=hL.least _ h1 i
 have:=hL.sol.pos i
 rcases h2 i with h | h<;>omega
noncomputable def Zb8 (s:List Int × Bool) (r:Zg):List Int × Bool:=if lvN s.1 r.for_.toNat<Zg9 s.1 r then (X2 s.1 r,true) else s
theorem Zgj {n:Nat}:∀{R:List Zg} {s:List Int × Bool},s.1.length=n→(∀r∈R,OkN n r)→(R.foldl Zb8 s).1=X9 R s.1∧((R.foldl Zb8 s).2=true↔s.2=true∨X9 R s.1≠s.1)
 | [],s,_,_=>by simp [X9]
 | r::R,s,hl,hR=>by
  have hR':∀q∈R,OkN n q:=fun q mq=>hR q (by simp [mq])
  rw [AP]
  show _∧(_↔s.2=true∨X9 R (X2 s.1 r)≠s.1)
  by_cases hc:lvN s.1 r.for_.toNat<Zg9 s.1 r
  ·have e:Zb8 s r=(X2 s.1 r,true):=if_pos hc
   rw [e]
   obtain ⟨h1,h2⟩:=Zgj (R:=R) (s:=(X2 s.1 r,true)) (by rw [Zd7];exact hl) hR'
   refine ⟨h1,iff_of_true (h2.2 (.inl rfl)) (.inr fun he=>?_)⟩
   have h3:=ZdY R (X2 s.1 r) r.for_.toNat
   rw [he] at h3
   have:lvN (X2 s.1 r) r.for_.toNat=Zg9 s.1 r:=by
    unfold X2
    rw [Zh1,if_pos ⟨rfl,by have:=(hR r (by simp)).1.2;omega⟩]
   omega
  ·have e:Zb8 s r=s:=if_neg hc
   rw [e,Zlb hc]
   obtain ⟨h1,h2⟩:=Zgj hl hR'
   refine ⟨h1.trans ?_,h2⟩
   show X9 R s.1=X9 R (X2 s.1 r)
   rw [Zlb hc]
theorem Zje {n:Nat} {R:List Zg} {L:List Int} (hL:ZaZ n R L):X9 R L=L:=
 ZjC (Zii R L) fun i _=>Int.le_antisymm (Zh5 hL.sol (fun _ h=>h) (fun _=>AD _) i) (ZdY R L i)
theorem ZmB {n:Nat} {L row:List Int} (hl:row.length=n) (hL:L.length=n) (h:ZnE n L row=0):row=L:=by
 refine ZjC (hl.trans hL.symm) fun i hi=>?_
 unfold ZnE at h
 rw [List.countP_eq_zero] at h
 simpa using h i (List.mem_range.2 (by omega))
theorem ZvJ (n:Nat) (L row:List Int):ZnE n L row≤n:=by
 have:=Ah (p:=fun i=>decide (¬lvN row i=lvN L i)) (l:=Ac n)
 rw [List.length_range] at this
 exact this
theorem Zoy {σ ρ:Type} {n:Nat} {R:List Zg} {L:List Int} (hL:ZaZ n R L) (hR:∀r∈R,OkN n r) (st:List Int→Bool→σ) (g:List Int→ρ) {body:σ→Option (σ ⊕ ρ)}
  (h1:∀row,row.length=n→(∀i,0≤lvN row i∧lvN row i≤lvN L i)→body (st row true)=some (.inl (st (R.foldl Zb8 (row,false)).1 (R.foldl Zb8 (row,false)).2)))
  (h2:∀row,body (st row false)=some (.inr (g row))):
  ∀k row,row.length=n→(∀i,0≤lvN row i∧lvN row i≤lvN L i)→ZnE n L row≤k→Y5 body (st row true)=some (g L):=by
 have fixed:∀row,row.length=n→(∀i,0≤lvN row i∧lvN row i≤lvN L i)→X9 R row=row→Y5 body (st row true)=some (g L):=fun row hl h0 e=>by
  obtain ⟨e1,e2⟩:=Zgj (s:=(row,false)) hl hR
  have e3:(R.foldl Zb8 (row,false)).2=false:=by
   cases hb:(R.foldl Zb8 (row,false)).2 with
   | false=>rfl
   | true=>
    rcases e2.1 hb with h | h
    ·simp at h
    ·exact absurd e h
  rw [YU (h1 row hl h0),e3,e1]
  have hrow:ZaZ n R row:=ZrO hl hR (fun i=>(h0 i).1) (fun t ht i=>A7 (h0 i).2 (hL.least t ht i)) e
  show Y5 body (st (X9 R row) false)=_
  rw [e,YG (h2 row),hrow.uniq hL]
 intro k
 induction k with
 | zero=>
  intro row hl h0 hk
  have e:row=L:=ZmB hl hL.len (by omega)
  exact fixed row hl h0 (by rw [e];exact Zje hL)
 | succ k ih=>
  intro row hl h0 hk
  by_cases e:X9 R row=row
  ·exact fixed row hl h0 e
  ·obtain ⟨e1,e2⟩:=Zgj (s:=(row,false)) hl hR
   rw [YU (h1 row hl h0),e2.2 (.inr e),e1]
   refine ih _ (by rw [Zii];exact hl) (fun i=>⟨A7 (h0 i).1 (ZdY R row i),Zh5 hL.sol (fun _ h=>h) (fun i=>(h0 i).2) i⟩) ?_
   rcases ZpY hL hl hR (fun i=>(h0 i).1) (fun i=>(h0 i).2) with h | h
   ·exact absurd (by rw [ZmB hl hL.len h];exact Zje hL) e
   ·show ZnE n L (X9 R row)≤k
    omega
/- the reference writes each greater level at once -/
theorem ZIA {row:List Int} {f:Nat} (hf:f<row.length):row.set f (lvN row f)=row:=ZjC (by simp) fun i _=>by
 rw [Zh1]
 split
 ·rename_i h;rw [h.1]
 ·rfl
theorem ZGQ {row:List Int} {f:Nat} (hf:f<row.length):∀(l:List Int) (v:Int),lvN row f≤v→l.foldl (fun s y=>s.set f (mx (lvN s f) (lvN s y.toNat))) (row.set f v)=row.set f (l.foldl (fun m y=>mx m (lvN row y.toNat)) v)
 | [],_,_=>rfl
 | y::l,v,hv=>by
  have e1:lvN (row.set f v) f=v:=by rw [Zh1,if_pos ⟨rfl,hf⟩]
  have e2:mx v (lvN (row.set f v) y.toNat)=mx v (lvN row y.toNat):=by
   rw [Zh1]
   split
   ·rename_i h
    rw [h.1]
    unfold mx
    split<;>split<;>omega
   ·rfl
  rw [AP,AP,e1,e2,Ai]
  exact ZGQ hf l _ (A7 hv (ZvW v _).1)
theorem ZHk {row:List Int} {f:Nat} (hf:f<row.length):∀(l:List Int) (v:Int),(∀y∈l,y.toNat≠f)→l.foldl (fun s y=>s.set f (mx (lvN s f) (lvN s y.toNat+1))) (row.set f v)=row.set f (l.foldl (fun m y=>mx m (lvN row y.toNat+1)) v)
 | [],_,_=>rfl
 | y::l,v,hl=>by
  have e1:lvN (row.set f v) f=v:=by rw [Zh1,if_pos ⟨rfl,hf⟩]
  have e2:lvN (row.set f v) y.toNat=lvN row y.toNat:=by
   rw [Zh1,if_neg fun h=>hl y (by simp) h.1]
  rw [AP,AP,e1,e2,Ai]
  exact ZHk hf l _ fun z mz=>hl z (by simp [mz])
theorem ZH6 {row:List Int} {r:Zg} (hf:r.for_.toNat<row.length) (hS:∀y∈r.outs,y.toNat≠r.for_.toNat):r.outs.foldl (fun s y=>s.set r.for_.toNat (mx (lvN s r.for_.toNat) (lvN s y.toNat+1))) (r.inn.foldl (fun s y=>s.set r.for_.toNat (mx (lvN s r.for_.toNat) (lvN s y.toNat))) row)=X2 row r:=by
 have e:=ZGQ hf r.inn (lvN row r.for_.toNat) (AD _)
 rw [ZIA hf] at e
 rw [e,ZHk hf _ _ hS]
 rfl
/- rounds -/
theorem ZoQ {σ ρ:Type} {n top:Nat} {R:List Zg} {L:List Int} (hR:∀r∈R,OkN n r) (st:List Int→Nat→Nat→σ) (g:List Int→ρ) {body:σ→Option (σ ⊕ ρ)}
  (h1:∀row k s,RIn n row k→s≤top→Q2 R L ((s:Nat):Int) row k≠[]→body (st row k s)=some (.inl (st (ZjJ row (Q2 R L ((s:Nat):Int) row k) ((k:Nat):Int)) (k+1) s)))
  (h2:∀row k s,RIn n row k→s≤top→Q2 R L ((s:Nat):Int) row k=[]→body (st row k s)=some (.inl (st row k (s+1))))
  (h3:∀row k,RIn n row k→body (st row k (top+1))=some (.inr (g row))):
  ∀d s row k,s+d=top+1→RIn n row k→Y5 body (st row k s)=some (g (QM R L n (AG s d) (row,k)).1):=by
 have level:∀f s row k,s≤top→RIn n row k→Ze8 row≤f→Y5 body (st row k s)=Y5 body (st (Zbr R L ((s:Nat):Int) f row k).1 (Zbr R L ((s:Nat):Int) f row k).2 (s+1)):=by
  intro f
  induction f with
  | zero=>
   intro s row k hs hI hf
   have hc:Q2 R L ((s:Nat):Int) row k=[]:=Classical.byContradiction fun hc=>by have:=(hI.next hR hc).2;omega
   exact YU (h2 row k s hI hs hc)
  | succ f ih=>
   intro s row k hs hI hf
   unfold Zbr
   by_cases hc:Q2 R L ((s:Nat):Int) row k=[]
   ·rw [if_pos hc]
    exact YU (h2 row k s hI hs hc)
   ·rw [if_neg hc,YU (h1 row k s hI hs hc)]
    obtain ⟨a,b⟩:=hI.next hR hc
    exact ih s _ _ hs a (by omega)
 intro d
 induction d with
 | zero=>
  intro s row k hs hI
  obtain rfl:s=top+1:=by omega
  exact YG (h3 row k hI)
 | succ d ih=>
  intro s row k hs hI
  have hu:Ze8 row≤n:=by have:=hI.few;omega
  rw [level n s row k (by omega) hI hu]
  exact ih (s+1) _ _ (by omega) (Zhk hR n row k hI hu).1
theorem ZFB {row:List Int} {R:List Zg} {L:List Int} {s:Int} {k:Nat} {l:List Int} (h:∀x,x∈l↔x∈Q2 R L s row k):ZjJ row l ((k:Nat):Int)=ZjJ row (Q2 R L s row k) ((k:Nat):Int)∧(l=[]↔Q2 R L s row k=[]):=by
 refine ⟨ZH9 fun i=>?_,?_⟩
 ·constructor
  ·rintro ⟨x,mx,e⟩;exact ⟨x,(h x).1 mx,e⟩
  ·rintro ⟨x,mx,e⟩;exact ⟨x,(h x).2 mx,e⟩
 ·rw [Aj,Aj]
  exact forall_congr' fun x=>not_congr (h x)
theorem ZHT {σ ρ:Type} {n:Nat} {R:List Zg} {L:List Int} {s:Int} (hR:∀r∈R,OkN n r) (st:List Int→Nat→List Int→σ) (g:List Int→Nat→ρ) (cm:List Int→Nat→List Int) (hcm:∀row k x,RIn n row k→(x∈cm row k↔x∈Q2 R L s row k)) {body:σ→Option (σ ⊕ ρ)}
  (h1:∀row k,RIn n row k→cm row k≠[]→RIn n (ZjJ row (cm row k) ((k:Nat):Int)) (k+1)→body (st row k (cm row k))=some (.inl (st (ZjJ row (cm row k) ((k:Nat):Int)) (k+1) (cm (ZjJ row (cm row k) ((k:Nat):Int)) (k+1)))))
  (h2:∀row k,RIn n row k→body (st row k [])=some (.inr (g row k))):
  ∀f row k,RIn n row k→Ze8 row≤f→Y5 body (st row k (cm row k))=some (g (Zbr R L s f row k).1 (Zbr R L s f row k).2):=by
 intro f
 induction f with
 | zero=>
  intro row k hI hf
  have hc:Q2 R L s row k=[]:=Classical.byContradiction fun hc=>by have:=(hI.next hR hc).2;omega
  rw [(ZFB fun x=>hcm row k x hI).2.2 hc,YG (h2 row k hI)]
  rfl
 | succ f ih=>
  intro row k hI hf
  unfold Zbr
  by_cases hc:Q2 R L s row k=[]
  ·rw [if_pos hc,(ZFB fun x=>hcm row k x hI).2.2 hc,YG (h2 row k hI)]
  ·obtain ⟨e1,e2⟩:=ZFB fun x=>hcm row k x hI
   rw [if_neg hc,YU (h1 row k hI (fun h=>hc (e2.1 h)) (by rw [e1];exact (hI.next hR hc).1)),e1]
   exact ih _ _ (hI.next hR hc).1 (by have:=(hI.next hR hc).2;omega)
end
section
open Classical
structure ZdS (b:Zu):Prop where
 n0:0≤b.nodes
 n1:b.nodes≤24
 len:b.reasons.length≤60
 ok:∀r∈b.reasons,OkN b.nodes.toNat r
 up:∀r∈b.reasons,r.inn.Pairwise (·<·)∧r.outs.Pairwise (·<·)
 few:∀r∈b.reasons,r.inn.length≤4∧r.outs.length≤4
 strat:Zni b.reasons
theorem ZdS.of {R:List Zf} {base F:List Zd} (h:Yu R base F) (h60:(YJ R F base).length≤60):ZdS { nodes:=((F.length:Nat):Int),reasons:=YJ R F base }:=by
 have:=h.len
 exact ⟨by simp only;omega,by simp only;omega,h60,fun r mr=>by simpa using Zr9 h r mr,fun r mr=>(ZdA h mr).up,fun r mr=>ZnG h mr,Znl h⟩
theorem ZdS.valid {b:Zu} (h:ZdS b):ZeV b=true:=by
 unfold ZeV
 have h0:=h.n0
 have h1:=h.n1
 simp only[Ak,decide_eq_true_eq]
 refine ⟨h.n0,h.n1,h.len,Al.2 fun r mr=>?_⟩
 obtain ⟨⟨f0,f1⟩,f2,f3⟩:=h.ok r mr
 obtain ⟨u1,u2⟩:=h.up r mr
 unfold Zs3
 simp only[Ak,decide_eq_true_eq]
 exact ⟨f0,by omega,Ztz (fun y my=>by have:=f2 y my;omega) u1,Ztz (fun y my=>by have:=f3 y my;omega) u2⟩
theorem ZdS.small {b:Zu} (h:ZdS b):Ztd b:=fun r mr=>by have:=h.few r mr;omega
def YT:List Zd→List Int→List Zd
 | f::F,v::l=>if 0≤v then f::YT F l else YT F l
 | _,_=>[]
theorem Zms:∀{F:List Zd} {l:List Int},(YT F l).length≤F.length∧∀f∈YT F l,f∈F
 | [],l=>by simp [YT]
 | f::F,[]=>by simp [YT]
 | f::F,v::l=>by
  obtain ⟨h1,h2⟩:=Zms (F:=F) (l:=l)
  unfold YT
  split
  ·refine ⟨by simp;omega,fun g mg=>?_⟩
   rcases AH.1 mg with rfl | mg
   ·simp
   ·simp [h2 g mg]
  ·exact ⟨by simp;omega,fun g mg=>by simp [h2 g mg]⟩
noncomputable def lvB (b:Zu):List Int:=if h:∃L,ZaZ b.nodes.toNat b.reasons L then Classical.choose h else []
noncomputable def rdB (b:Zu):List Int:=(QM b.reasons (lvB b) b.nodes.toNat (Ac b.nodes.toNat) (A8 b.nodes.toNat (-1),0)).1
theorem ZdS.lv {b:Zu} (h:ZdS b):ZaZ b.nodes.toNat b.reasons (lvB b)∧∀i,0≤lvN (lvB b) i∧(lvN (lvB b) i<b.nodes.toNat∨lvN (lvB b) i=0):=by
 obtain ⟨L,hL,h2⟩:=ZsR h.ok h.strat
 have hex:∃L,ZaZ b.nodes.toNat b.reasons L:=⟨L,hL⟩
 have e:lvB b=Classical.choose hex:=dif_pos hex
 have h1:ZaZ b.nodes.toNat b.reasons (lvB b):=by rw [e];exact Classical.choose_spec hex
 refine ⟨h1,fun i=>⟨h1.sol.pos i,?_⟩⟩
 rw [h1.uniq hL]
 exact h2 i
theorem Zl5 (n:Nat):RIn n (A8 n (-1)) 0:=⟨by simp,fun i hi=>⟨-1,by simp [hi],.inl rfl⟩,by
 have:=Ah (p:=fun v:Int=>decide (v<0)) (l:=A8 n (-1))
 rw [List.length_replicate] at this
 unfold Ze8
 omega⟩
theorem ZdS.rd {b:Zu} (h:ZdS b):(rdB b).length=b.nodes.toNat:=(ZkX h.ok _ _ (Zl5 _)).len
end
section
open Classical
theorem ZoC {row:List Int} {i:Nat} (h:i<row.length):row[i]?=some (lvN row i):=by
 unfold lvN
 rw [A3 h]
 rfl
theorem ZuV {x:Int} (h1:-1000000≤x) (h2:x≤1000000):IntKind.i64.wrap x=x:=Xn (by omega) (by omega)
theorem ZsY {k:Nat} (h:k<1000000000):IntKind.i64.wrap (((k:Nat):Int)+1)=((k+1:Nat):Int):=Zj (n:=k+1) (by omega) (by omega)
theorem ZIo (l:List Int) (h:l.length≤1073741824):ZFr l=some l:=Zi _ h
/- what a node depends on -/
theorem ZGC {ρ:Type} {n:Nat} {R:List Zg} {x:Int} {l:List Int} {body:List Bool × List Int × Int→Option ((List Bool × List Int × Int) ⊕ ρ)} (g:List Bool × List Int→ρ)
  (h1:∀s i y,ZDJ n R x s→i<l.length→l[i]?=some y→(0≤y∧y.toNat<n)→body (s.1,s.2,((i:Nat):Int))=some (.inl ((ZEz s y).1,(ZEz s y).2,((i+1:Nat):Int))))
  (h2:∀s,body (s.1,s.2,((l.length:Nat):Int))=some (.inr (g s))) (hl:∀y∈l,(0≤y∧y.toNat<n)∧ZdN R x y):
  ∀(rest pre:List Int) (s:List Bool × List Int),l=pre++rest→ZDJ n R x s→Y5 body (s.1,s.2,((pre.length:Nat):Int))=some (g (rest.foldl ZEz s))
 | [],pre,s,e,_=>by
  rw [AM] at e
  subst e
  exact YG (h2 s)
 | y::rest,pre,s,e,hI=>by
  have hy:l[pre.length]?=some y:=by rw [e];simp
  have my:y∈l:=Am hy
  have hlt:=(AF.1 hy).1
  rw [YU (h1 s pre.length y hI hlt hy (hl y my).1)]
  have:=ZGC g h1 h2 hl rest (pre++[y]) (ZEz s y) (by rw [e];simp) (ZIe hI (hl y my).1 (hl y my).2).1
  simpa using this
theorem ZGe {b:Zu} (h:ZdS b) (x:Int):∃row,ZEk b x=some row∧row.length=b.nodes.toNat∧∀y:Int,0≤y→(row[y.toNat]?=some true↔ZdN b.reasons x y):=by
 have h0:=h.n0
 have h1:=h.n1
 have hn:b.nodes.toNat≤24:=by omega
 unfold ZEk
 rw [Zi _ ⟨h0,by omega⟩]
 have start:ZDJ b.nodes.toNat b.reasons x (A8 b.nodes.toNat false,[x]):=⟨by simp,[],rfl,by simp,fun y _ hy=>by
  by_cases hl:y.toNat<b.nodes.toNat
  ·simp [hl] at hy
  ·rw [AO (by simp;omega)] at hy;simp at hy,by simp [ZIl,List.countP_replicate]⟩
 refine ZHS h.ok (fun out todo i=>(out,todo,((i:Nat):Int))) (fun r=>r) ?_ ?_ (b.nodes.toNat+1) _ _ 0 start (by simp) (by omega) (fun j z hj=>by omega)
 ·intro out todo i z hI hi hz hzx
  have hlt:=(AF.1 hz).1
  have ht:decide (((i:Nat):Int)<((todo.length:Nat):Int))=true:=decide_eq_true (by omega)
  simp only[ht,if_true]
  rw [XE (f:=ZES z) (fun _ s=>ZDJ b.nodes.toNat b.reasons x s∧ZER (out,todo) s) ⟨hI,.refl _⟩]
  ·rw [ZsY (by omega)]
  ·intro j r s mr _ _ hs
   obtain ⟨hs1,hs2⟩:=hs
   obtain ⟨k1,k2,_⟩:=ZIi h.ok hzx hs1 mr
   refine ⟨?_,k1,hs2.trans k2⟩
   obtain ⟨a,c⟩:=s
   obtain ⟨v,hv⟩:=hs2.more
   simp only at hv
   have hzc:c[i]?=some z:=by rw [hv,Ao hlt];exact hz
   have hcl:i<c.length:=(AF.1 hzc).1
   simp only[Ad]
   rw [Zi _ ⟨by omega,by omega⟩,hzc,A0]
   unfold ZES
   by_cases e:r.for_=z
   ·obtain ⟨f1,f2⟩:=h.few r mr
    have e2:(r.for_ != z)=false:=by simp [e]
    rw [if_pos e,e2]
    simp only[AC,if_false]
    rw [ZIo _ (by omega),A0,Zi _ (by omega)]
    have hd:=ZIv h.ok hzx mr e
    refine ZGC (n:=b.nodes.toNat) (R:=b.reasons) (x:=x) (l:=r.inn++r.outs) (fun s=>Sum.inl s) ?_ ?_ hd (r.inn++r.outs) [] (a,c) rfl hs1
    ·intro s u y hu hul hy hyn
     have hlt2:decide (((u:Nat):Int)<((r.inn.length+r.outs.length:Nat):Int))=true:=decide_eq_true (by rw [AJ] at hul;omega)
     simp only[hlt2,if_true,Ad]
     rw [AJ] at hul
     rw [Zi _ ⟨by omega,by omega⟩,hy,A0]
     have hyl:y.toNat<s.1.length:=by rw [hu.len];exact hyn.2
     rw [Zi _ ⟨hyn.1,by omega⟩,A3 hyl,A0,ZsY (by omega)]
     unfold ZEz
     obtain ⟨t,t1,_,_,t4⟩:=hu.row
     have hlen:s.2.length=t.length+1:=by rw [t1];simp
     by_cases hb:s.1[y.toNat]=true
     ·rw [if_pos hb,if_pos (by rw [A3 hyl,hb])]
     ·rw [if_neg hb,if_neg (by rw [A3 hyl];simpa using hb),Zi _ (by omega)]
    ·intro s
     have hf:decide ((((r.inn++r.outs).length:Nat):Int)<((r.inn.length+r.outs.length:Nat):Int))=false:=decide_eq_false (by rw [AJ];omega)
     simp only[hf,AC,if_false]
   ·have e2:(r.for_ != z)=true:=by simp [e]
    rw [if_neg e,e2,if_pos rfl]
 ·intro out todo hI
  simp only[Zz,AC,if_false]
theorem ZEI {b:Zu} (h:ZdS b):ZDG b=some true:=by
 unfold ZDG
 have h60:=h.len
 rw [ZF5 h.small (by omega),h.valid,A0,if_pos rfl,ZW (p:=fun _=>true) (r:=true)]
 ·simp
 ·intro i r mr
  rw [ZW (p:=fun _=>true) (r:=.inl ())]
  ·simp
  ·intro j y my
   obtain ⟨k1,k2⟩:=h.strat r mr y my
   obtain ⟨row,e,hl,hd⟩:=ZGe h y
   obtain ⟨⟨f0,f1⟩,_,_⟩:=h.ok r mr
   have ey:(y==r.for_)=false:=by simpa using k1
   have hlt:r.for_.toNat<row.length:=by omega
   have hv:row[r.for_.toNat]=false:=by
    cases hb:row[r.for_.toNat] with
    | false=>rfl
    | true=>exact absurd ((hd r.for_ f0).1 (by rw [A3 hlt,hb])) k2
   rw [ey]
   simp only[AC,if_false]
   rw [e,A0,Zi _ ⟨f0,by omega⟩,A3 hlt,A0,hv]
   rfl
/- strata -/
theorem ZvN (n i:Nat):lvN (A8 n 0) i=0:=by
 unfold lvN
 by_cases hi:i<n
 ·simp [hi]
 ·rw [AO (by simp;omega)];rfl
theorem ZHj {b:Zu} (h:ZdS b):ZEq b=some (lvB b):=by
 obtain ⟨hL,hv⟩:=h.lv
 have h0:=h.n0
 have h1:=h.n1
 unfold ZEq
 rw [ZEI h,A0,if_pos rfl,Zi _ ⟨h0,by omega⟩]
 generalize hn:b.nodes.toNat=n at *
 have walk:∀(body:List Int × Int→Option ((List Int × Int) ⊕ List Int)),(∀row (i:Nat),i≤n→row.length=n→(∀j,0≤lvN row j∧lvN row j≤lvN (lvB b) j)→body (row,((i:Nat):Int))=some (.inl (X9 b.reasons row,((i+1:Nat):Int))))→(∀row,body (row,((n+1:Nat):Int))=some (.inr row))→
   ∀d i row,i+d=n+1→row.length=n→(∀j,0≤lvN row j∧lvN row j≤lvN (lvB b) j)→Y5 body (row,((i:Nat):Int))=some (ZH8 b.reasons d row):=by
  intro body b1 b2 d
  induction d with
  | zero=>
   intro i row hi hl hb
   obtain rfl:i=n+1:=by omega
   exact YG (b2 row)
  | succ d ih=>
   intro i row hi hl hb
   rw [YU (b1 row i (by omega) hl hb)]
   exact ih (i+1) _ (by omega) (by rw [Zii];exact hl) fun j=>⟨A7 (hb j).1 (ZdY b.reasons row j),Zh5 hL.sol (fun _ h=>h) (fun j=>(hb j).2) j⟩
 rw [←ZGc hL (by have:=h.ok;rw [hn] at this;exact this) (n+1) (A8 n 0) (by simp) (fun j=>by rw [ZvN];exact AD _) (fun j=>by rw [ZvN];exact (hv j).1) (by have:=ZvJ n (lvB b) (A8 n 0);omega)]
 refine walk _ ?_ ?_ (n+1) 0 _ (by omega) (by simp) (fun j=>by rw [ZvN];exact ⟨AD _,(hv j).1⟩)
 ·intro row i hi hl hb
  have ht:decide (((i:Nat):Int)≤b.nodes)=true:=decide_eq_true (by omega)
  simp only[ht,if_true]
  rw [XE (f:=X2) (fun _ s=>s.length=n∧∀j,0≤lvN s j∧lvN s j≤lvN (lvB b) j) ⟨hl,hb⟩]
  ·rw [ZsY (by omega)]
   rfl
  ·intro j r s mr _ _ hs
   obtain ⟨hs1,hs2⟩:=hs
   have hok:=h.ok r mr
   rw [hn] at hok
   obtain ⟨⟨f0,f1⟩,f2,f3⟩:=hok
   refine ⟨?_,by rw [Zd7];exact hs1,fun j=>⟨A7 (hs2 j).1 (Zif s r j),ZoI hL.sol mr (fun j=>(hs2 j).2) j⟩⟩
   have hout:∀y∈r.outs,y.toNat≠r.for_.toNat:=fun y my e=>(h.strat r mr y my).1 (by have:=f3 y my;omega)
   rw [XE (f:=fun u y=>u.set r.for_.toNat (mx (lvN u r.for_.toNat) (lvN u y.toNat))) (fun _ u=>u.length=n∧∀j,j≠r.for_.toNat→lvN u j=lvN s j) ⟨hs1,fun _ _=>rfl⟩]
   ·rw [XE (f:=fun u y=>u.set r.for_.toNat (mx (lvN u r.for_.toNat) (lvN u y.toNat+1))) (fun _ u=>u.length=n∧∀j,j≠r.for_.toNat→lvN u j=lvN s j)]
    ·rw [ZH6 (by omega) hout]
    ·have e:=ZGQ (row:=s) (f:=r.for_.toNat) (by omega) r.inn (lvN s r.for_.toNat) (AD _)
     rw [ZIA (by omega)] at e
     rw [e]
     exact ⟨by simp [hs1],fun j hj=>by rw [Zh1,if_neg fun hh=>hj hh.1]⟩
    ·intro j y u my _ _ hu
     obtain ⟨y0,y1⟩:=f3 y my
     have hy:=hout y my
     have hyv:=hu.2 y.toNat hy
     have hb1:=hs2 y.toNat
     have hb2:=hv y.toNat
     refine ⟨?_,by simp [hu.1],fun j hj=>by rw [Zh1,if_neg fun hh=>hj hh.1];exact hu.2 j hj⟩
     rw [Zi _ ⟨f0,by omega⟩,ZoC (by omega),A0,Zi _ ⟨y0,by omega⟩,ZoC (by omega),A0,ZuV (by omega) (by omega)]
     rfl
   ·intro j y u my _ _ hu
    obtain ⟨y0,y1⟩:=f2 y my
    refine ⟨?_,by simp [hu.1],fun j hj=>by rw [Zh1,if_neg fun hh=>hj hh.1];exact hu.2 j hj⟩
    rw [Zi _ ⟨f0,by omega⟩,ZoC (by omega),A0,Zi _ ⟨y0,by omega⟩,ZoC (by omega),A0]
    rfl
 ·intro row
  have hf:decide (((n+1:Nat):Int)≤b.nodes)=false:=decide_eq_false (by omega)
  simp only[hf,AC,if_false]
theorem Zry {b:Zu} (h:ZdS b):ZfS b=some (lvB b):=by
 obtain ⟨hL,hv⟩:=h.lv
 have h0:=h.n0
 have h1:=h.n1
 unfold ZfS
 rw [Zi _ ⟨h0,by omega⟩]
 refine Zoy hL h.ok (fun row m=>(row,m)) (fun row=>row) ?_ ?_ b.nodes.toNat _ (by simp) (fun j=>by rw [ZvN];exact ⟨AD _,(hv j).1⟩) (ZvJ _ _ _)
 ·intro row hl hb
  simp only[if_true]
  rw [XE (f:=Zb8) (fun _ s=>s.1.length=b.nodes.toNat∧∀j,0≤lvN s.1 j∧lvN s.1 j≤lvN (lvB b) j) ⟨hl,hb⟩]
  intro j r s mr _ _ hs
  obtain ⟨hs1,hs2⟩:=hs
  obtain ⟨⟨f0,f1⟩,f2,f3⟩:=h.ok r mr
  obtain ⟨row,m⟩:=s
  simp only at hs1 hs2
  refine ⟨?_,?_⟩
  ·dsimp only
   rw [Zi _ ⟨f0,by omega⟩,ZoC (by omega),A0]
   rw [Zke (f:=fun u y=>mx u (lvN row y.toNat)) fun j y u my=>by
    obtain ⟨y0,y1⟩:=f2 y my
    rw [Zi _ ⟨y0,by omega⟩,ZoC (by omega),A0]
    rfl]
   rw [Zke (f:=fun u y=>mx u (lvN row y.toNat+1)) fun j y u my=>by
    obtain ⟨y0,y1⟩:=f3 y my
    have hb1:=hs2 y.toNat
    have hb2:=hv y.toNat
    rw [Zi _ ⟨y0,by omega⟩,ZoC (by omega),A0,ZuV (by omega) (by omega)]
    rfl]
   show (if decide (lvN row r.for_.toNat<Zg9 row r)=true then some (Sum.inl (row.set r.for_.toNat (Zg9 row r),true)) else some (Sum.inl (row,m)))=some (Sum.inl (Zb8 (row,m) r))
   unfold Zb8
   by_cases hc:lvN row r.for_.toNat<Zg9 row r
   ·rw [if_pos (decide_eq_true hc),if_pos hc]
    rfl
   ·rw [if_neg (by simpa using hc),if_neg hc]
  ·unfold Zb8
   by_cases hc:lvN row r.for_.toNat<Zg9 row r
   ·rw [if_pos hc]
    exact ⟨by rw [Zd7];exact hs1,fun j=>⟨A7 (hs2 j).1 (Zif row r j),ZoI hL.sol mr (fun j=>(hs2 j).2) j⟩⟩
   ·rw [if_neg hc]
    exact ⟨hs1,hs2⟩
 ·intro row
  rfl
end
section
open Classical
theorem ZsS {n k:Nat} {row:List Int} (h:RIn n row k) {y:Int} (h0:0≤y) (hy:y.toNat<n):atI row y=some (rdN row y)∧row[y.toNat]?=some (rdN row y):=by
 obtain ⟨v,hv,_⟩:=h.val y.toNat hy
 have e:row[y.toNat]?=some (rdN row y):=by unfold rdN;rw [hv];rfl
 refine ⟨?_,e⟩
 unfold atI
 rw [if_pos h0,e]
noncomputable def ZsE (row:List Int) (k:Nat) (y:Int):Bool:=decide (0≤rdN row y∧rdN row y<((k:Nat):Int))
noncomputable def ZrW (row:List Int) (y:Int):Bool:=decide (rdN row y<0)
theorem Zue {ρ:Type} {n k:Nat} {row:List Int} (h:RIn n row k) {l:List Int} (hl:∀y∈l,0≤y∧y.toNat<n) {fin:Unit→Option ρ} {z:ρ} {body:Nat→Int→Unit→Option (Unit ⊕ ρ)}
  (hb:∀i y u,body i y u=(atI row y).bind fun x=>if decide (x<0)=true then some (.inr z) else if decide (((k:Nat):Int)≤x)=true then some (.inr z) else some (.inl ())):Zn body fin l 0 ()=if l.all (ZsE row k)=true then fin () else some z:=by
 rw [ZW (p:=ZsE row k) (r:=z)]
 intro i y my
 obtain ⟨y0,y1⟩:=hl y my
 rw [hb,(ZsS h y0 y1).1,A0]
 unfold ZsE
 by_cases h1:rdN row y<0
 ·rw [if_pos (decide_eq_true h1),decide_eq_false (by omega)];rfl
 ·rw [if_neg (by simpa using h1)]
  by_cases h2:((k:Nat):Int)≤rdN row y
  ·rw [if_pos (decide_eq_true h2),decide_eq_false (by omega)];rfl
  ·rw [if_neg (by simpa using h2),decide_eq_true (by omega)];rfl
theorem Zs2 {ρ:Type} {n k:Nat} {row:List Int} (h:RIn n row k) {l:List Int} (hl:∀y∈l,0≤y∧y.toNat<n) {fin:Unit→Option ρ} {z:ρ} {body:Nat→Int→Unit→Option (Unit ⊕ ρ)}
  (hb:∀i y u,body i y u=(atI row y).bind fun x=>if decide (0≤x)=true then some (.inr z) else some (.inl ())):Zn body fin l 0 ()=if l.all (ZrW row)=true then fin () else some z:=by
 rw [ZW (p:=ZrW row) (r:=z)]
 intro i y my
 obtain ⟨y0,y1⟩:=hl y my
 rw [hb,(ZsS h y0 y1).1,A0]
 unfold ZrW
 by_cases h1:0≤rdN row y
 ·rw [if_pos (decide_eq_true h1),decide_eq_false (by omega)];rfl
 ·rw [if_neg (by simpa using h1),decide_eq_true (by omega)];rfl
theorem Zll {row:List Int} {k:Nat} {r:Zg}:(r.inn.all (ZsE row k)=true∧r.outs.all (ZrW row)=true)↔Zmr row k r:=by
 simp only[Al,ZsE,ZrW,decide_eq_true_eq]
 exact Iff.rfl
theorem ZnH {n k:Nat} {row:List Int} (h:RIn n row k) {r:Zg} (hr:OkN n r):Zas r row ((k:Nat):Int)=some (decide (Zmr row k r)):=by
 unfold Zas
 rw [Zue h hr.2.1 fun i y u=>rfl,Zs2 h hr.2.2 fun i y u=>rfl]
 by_cases h1:r.inn.all (ZsE row k)=true
 ·rw [if_pos h1]
  by_cases h2:r.outs.all (ZrW row)=true
  ·rw [if_pos h2,decide_eq_true (Zll.1 ⟨h1,h2⟩)]
  ·rw [if_neg h2,decide_eq_false fun h=>h2 (Zll.2 h).2]
 ·rw [if_neg h1,decide_eq_false fun h=>h1 (Zll.2 h).1]
theorem ZGR {n k:Nat} {row:List Int} (h:RIn n row k) {l:List Int} (hl:∀y∈l,0≤y∧y.toNat<n):ZDx l row ((k:Nat):Int)=some (l.all (ZsE row k)):=by
 unfold ZDx
 rw [Zue h hl fun i y u=>rfl]
 cases l.all (ZsE row k)<;>rfl
theorem ZH7 {n k:Nat} {row:List Int} (h:RIn n row k) {l:List Int} (hl:∀y∈l,0≤y∧y.toNat<n):ZDR l row=some (l.all (ZrW row)):=by
 unfold ZDR
 rw [Zs2 h hl fun i y u=>rfl]
 cases l.all (ZrW row)<;>rfl
/- the program's rounds -/
theorem ZsU {n:Nat} {L:List Int} {ρ:Type} {body:List Int × Int × Int→Option ((List Int × Int × Int) ⊕ ρ)} {r:ρ} (hv:∀i,0≤lvN L i∧lvN L i≤((n:Nat):Int))
  (h1:∀k row u,k<n→row.length=n→body (row,((k:Nat):Int),u)=some (.inl (row.set k (-1),((k+1:Nat):Int),mx u (lvN L k))))
  (h2:∀u,0≤u→u≤((n:Nat):Int)→(∀i,i<n→lvN L i≤u)→body (A8 n (-1),((n:Nat):Int),u)=some (.inr r)):
  ∀m k row u,k+m=n→row.length=n→(∀i,i<k→row[i]?=some (-1))→0≤u→u≤((n:Nat):Int)→(∀i,i<k→lvN L i≤u)→Y5 body (row,((k:Nat):Int),u)=some r:=by
 intro m
 induction m with
 | zero=>
  intro k row u hk hl hr h0 hu hm
  obtain rfl:k=n:=by omega
  have:row=A8 k (-1):=by
   apply List.ext_getElem?
   intro i
   by_cases hi:i<k
   ·rw [hr i hi];simp [hi]
   ·rw [AO (by omega),AO (by simp;omega)]
  rw [this]
  exact YG (h2 u h0 hu hm)
 | succ m ih=>
  intro k row u hk hl hr h0 hu hm
  rw [YU (h1 k row u (by omega) hl)]
  have hx:=ZvW u (lvN L k)
  refine ih (k+1) _ _ (by omega) (by simp [hl]) (fun i hi=>?_) (by omega) (ZvU hu (hv k).2) fun i hi=>?_
  ·rw [List.getElem?_set]
   by_cases e:k=i
   ·rw [if_pos e,if_pos (by omega)]
   ·rw [if_neg e];exact hr i (by omega)
  ·by_cases e:i=k
   ·rw [e];exact hx.2
   ·exact A7 (hm i (by omega)) hx.1
theorem Zvf {b:Zu} (h:ZdS b) {t:Nat} (ht:∀i,i<b.nodes.toNat→lvN (lvB b) i≤((t:Nat):Int)):(QM b.reasons (lvB b) b.nodes.toNat (AG 0 (t+1)) (A8 b.nodes.toNat (-1),0)).1=rdB b:=by
 unfold rdB
 rw [←Ap,Zps (a:=t+1) (b:=b.nodes.toNat)]
 ·intro r mr
  have:=ht r.for_.toNat (h.ok r mr).1.2
  omega
 ·intro r mr
  have:=(h.lv.2 r.for_.toNat).2
  have:=(h.ok r mr).1.2
  omega
theorem Zsu {ρ:Type} {n k:Nat} {row:List Int} (hl:row.length=n) {l:List Int} (hx:∀x∈l,0≤x∧x.toNat<n) {fin:List Int→Option ρ} {body:Nat→Int→List Int→Option (List Int ⊕ ρ)}
  (hb:∀i x s,body i x s=chk (0≤x∧x<((s.length:Nat):Int)) ((s[AW x]?).bind fun _=>some (.inl (List.set s (AW x) ((k:Nat):Int))))):Zn body fin l 0 row=fin (ZjJ row l ((k:Nat):Int)):=by
 rw [XE (f:=fun s x=>s.set x.toNat ((k:Nat):Int)) (fun _ s=>s.length=n) hl]
 ·rfl
 ·intro j x s mx _ _ hs
  obtain ⟨x0,x1⟩:=hx x mx
  refine ⟨?_,by simp [hs]⟩
  rw [hb,Zi _ ⟨x0,by omega⟩,A3 (show x.toNat<s.length by omega),A0]
theorem Zr2 {n:Nat} {R:List Zg} (hR:∀r∈R,OkN n r) {L:List Int} {s:Int} {row:List Int} {k:Nat}:∀x∈Q2 R L s row k,0≤x∧x.toNat<n:=fun x mx=>by
 obtain ⟨r,mr,rfl,_⟩:=ZiD.1 mx
 exact (hR r mr).1
theorem Zln {b:Zu} (h:ZdS b) {ρ:Type} {row:List Int} {k s:Nat} (hI:RIn b.nodes.toNat row k) {fin:List Int→Option ρ} {body:Nat→Zg→List Int→Option (List Int ⊕ ρ)}
  (hb:∀i r acc,body i r acc=chk (0≤r.for_∧r.for_<(((lvB b).length:Nat):Int)) (((lvB b)[(AW r.for_)]?).bind fun x111=>
         if (x111==((s:Nat):Int))=true then
          chk (r.for_<((row.length:Nat):Int)) <|
          (row[(AW r.for_)]?).bind fun x112=>
          if (decide (x112<0))=true then
           (Zas r row ((k:Nat):Int)).bind fun v113=>
           if v113=true then
            chk (acc.length+1≤1073741824) <|
            some (.inl (acc++[r.for_]))
           else
            some (.inl acc)
          else
           some (.inl acc)
         else
          some (.inl acc))):Zn body fin b.reasons 0 []=fin (Q2 b.reasons (lvB b) ((s:Nat):Int) row k):=by
 have hLl:=h.lv.1.len
 have h60:=h.len
 rw [Yk (g:=fun r=>if lvN (lvB b) r.for_.toNat=((s:Nat):Int)∧rdN row r.for_<0∧Zmr row k r then some r.for_ else none)]
 ·rfl
 ·intro j r acc mr ha
  simp only[List.length_nil,Nat.zero_add] at ha
  have hok:=h.ok r mr
  obtain ⟨f0,f1⟩:=hok.1
  rw [hb,Zi _ ⟨f0,by omega⟩,ZoC (by omega),A0]
  by_cases c1:lvN (lvB b) r.for_.toNat=((s:Nat):Int)
  ·rw [if_pos (by simpa using c1),Zi _ (by rw [hI.len];omega),(ZsS hI f0 f1).2,A0]
   by_cases c2:rdN row r.for_<0
   ·rw [if_pos (decide_eq_true c2),ZnH hI hok,A0]
    by_cases c3:Zmr row k r
    ·rw [if_pos (decide_eq_true c3),Zi _ (by omega),if_pos ⟨c1,c2,c3⟩];rfl
    ·rw [if_neg (by simpa using c3),if_neg fun hh=>c3 hh.2.2];simp
   ·rw [if_neg (by simpa using c2),if_neg fun hh=>c2 hh.2.1];simp
  ·rw [if_neg (by simpa using c1),if_neg fun hh=>c1 hh.1];simp
theorem ZrH {b:Zu} (h:ZdS b):ZfP b=some (rdB b):=by
 obtain ⟨hL,hv⟩:=h.lv
 have h0:=h.n0
 have h1:=h.n1
 have h60:=h.len
 unfold ZfP
 rw [Zry h,A0,Zi _ ⟨h0,by omega⟩]
 have hv':∀i,0≤lvN (lvB b) i∧lvN (lvB b) i≤((b.nodes.toNat:Nat):Int):=fun i=>by have:=hv i;omega
 refine ZsU (n:=b.nodes.toNat) (L:=lvB b) hv' ?_ ?_ b.nodes.toNat 0 _ 0 (by omega) (by simp) (fun i hi=>by omega) (AD _) (by omega) (fun i hi=>by omega)
 ·intro k row u hk hl
  have ht:decide (((k:Nat):Int)<((b.nodes.toNat:Nat):Int))=true:=decide_eq_true (by omega)
  simp only[ht,if_true,Ad]
  have:=hL.len
  rw [Zi _ ⟨by omega,by omega⟩,A3 (show k<row.length by omega),A0,Zi _ (by omega),ZoC (by omega),A0,ZsY (by omega)]
  rfl
 ·intro u u0 un um
  simp only[Zz,AC,if_false]
  obtain ⟨t,rfl⟩:∃t:Nat,u=((t:Nat):Int):=⟨u.toNat,by omega⟩
  rw [←Zvf h um]
  refine ZoQ (top:=t) h.ok (fun row k s=>(row,((k:Nat):Int),((s:Nat):Int))) (fun row=>Sum.inr row) ?_ ?_ ?_ (t+1) 0 _ 0 (by omega) (Zl5 _)
  ·intro row k s hI hs hc
   have ht:decide (((s:Nat):Int)≤((t:Nat):Int))=true:=decide_eq_true (by omega)
   simp only[ht,if_true]
   rw [Zln h hI fun i r acc=>rfl]
   have hl0:((((Q2 b.reasons (lvB b) ((s:Nat):Int) row k).length:Nat):Int)==0)=false:=by
    have:(Q2 b.reasons (lvB b) ((s:Nat):Int) row k).length≠0:=fun e=>hc (Ae e)
    simpa using this
   simp only[hl0,AC,if_false]
   rw [Zsu hI.len (Zr2 h.ok) fun i x s=>rfl,ZsY (by have:=hI.few;omega)]
  ·intro row k s hI hs hc
   have ht:decide (((s:Nat):Int)≤((t:Nat):Int))=true:=decide_eq_true (by omega)
   simp only[ht,if_true]
   rw [Zln h hI fun i r acc=>rfl,hc,ZsY (by omega)]
   rfl
  ·intro row k hI
   have hf:decide (((t+1:Nat):Int)≤((t:Nat):Int))=false:=decide_eq_false (by omega)
   simp only[hf,AC,if_false]
/- the reference's rounds -/
noncomputable def ZFA (n:Nat) (R:List Zg) (L:List Int) (s:Int) (row:List Int) (k x:Nat):Option Int:=if lvN L x=s∧rdN row ((x:Nat):Int)<0∧R.any (fun r=>decide (r.for_=((x:Nat):Int)∧Zmr row k r))=true then some ((x:Nat):Int) else none
theorem ZGx {n:Nat} {R:List Zg} (hR:∀r∈R,OkN n r) {L:List Int} {s:Int} {row:List Int} {k:Nat} {x:Int}:x∈(AG 0 n).filterMap (ZFA n R L s row k)↔x∈Q2 R L s row k:=by
 rw [ZiD,List.mem_filterMap]
 constructor
 ·rintro ⟨i,mi,hi⟩
  unfold ZFA at hi
  split at hi
  ·rename_i hc
   obtain rfl:=Af hi
   obtain ⟨h1,h2,h3⟩:=hc
   obtain ⟨r,mr,hr⟩:=Aq.1 h3
   rw [decide_eq_true_iff] at hr
   exact ⟨r,mr,hr.1,by simpa using h1,h2,hr.2⟩
  ·simp at hi
 ·rintro ⟨r,mr,rfl,h1,h2,h3⟩
  obtain ⟨f0,f1⟩:=(hR r mr).1
  have e:((r.for_.toNat:Nat):Int)=r.for_:=Int.toNat_of_nonneg f0
  refine ⟨r.for_.toNat,List.mem_range'.2 ⟨r.for_.toNat,f1,by omega⟩,?_⟩
  unfold ZFA
  rw [if_pos ⟨h1,by rw [e];exact h2,Aq.2 ⟨r,mr,by rw [decide_eq_true_iff,e];exact ⟨rfl,h3⟩⟩⟩,e]
theorem ZFM {b:Zu} (h:ZdS b) {row:List Int} {k s:Nat} (hI:RIn b.nodes.toNat row k):ZD5 b (lvB b) ((s:Nat):Int) row ((k:Nat):Int)=some ((AG 0 b.nodes.toNat).filterMap (ZFA b.nodes.toNat b.reasons (lvB b) ((s:Nat):Int) row k)):=by
 obtain ⟨hL,hv⟩:=h.lv
 have h0:=h.n0
 have h1:=h.n1
 unfold ZD5
 have walk:∀(body:List Int × Int→Option ((List Int × Int) ⊕ List Int)) (G:Nat→Option Int),(∀acc (i:Nat),i<b.nodes.toNat→acc.length≤24→body (acc,((i:Nat):Int))=some (.inl (acc++(G i).toList,((i+1:Nat):Int))))→(∀acc,body (acc,((b.nodes.toNat:Nat):Int))=some (.inr acc))→
   ∀d i acc,i+d=b.nodes.toNat→acc.length≤i→Y5 body (acc,((i:Nat):Int))=some (acc++(AG i d).filterMap G):=by
  intro body G b1 b2 d
  induction d with
  | zero=>
   intro i acc hi ha
   obtain rfl:i=b.nodes.toNat:=by omega
   rw [YG (b2 acc)]
   simp
  | succ d ih=>
   intro i acc hi ha
   rw [YU (b1 acc i (by omega) (by omega)),ih (i+1) _ (by omega) (by rw [AJ];cases G i<;>simp<;>omega),List.range'_succ,List.filterMap_cons]
   cases G i<;>simp
 refine walk _ (ZFA b.nodes.toNat b.reasons (lvB b) ((s:Nat):Int) row k) ?_ ?_ b.nodes.toNat 0 [] (by omega) (by simp)
 ·intro acc i hi ha
  have ht:decide (((i:Nat):Int)<b.nodes)=true:=decide_eq_true (by omega)
  have hLl:=hL.len
  have e1:atI (lvB b) ((i:Nat):Int)=some (lvN (lvB b) i):=by rw [Zby];exact ZoC (by omega)
  have e2:=(ZsS hI (y:=((i:Nat):Int)) (by omega) (by simpa using hi)).1
  simp only[ht,if_true]
  rw [e1,A0,e2,ZsY (by omega)]
  unfold ZFA
  by_cases c1:lvN (lvB b) i=((s:Nat):Int)
  ·have d1:(lvN (lvB b) i != ((s:Nat):Int))=false:=by simp [c1]
   simp only[d1,AC,if_false,A0]
   by_cases c2:rdN row ((i:Nat):Int)<0
   ·have d2:decide (0≤rdN row ((i:Nat):Int))=false:=decide_eq_false (by omega)
    simp only[d2,AC,if_false]
    rw [Zc7 (p:=fun r=>decide (r.for_=((i:Nat):Int)∧Zmr row k r)) (r:=.inl (acc++[((i:Nat):Int)],((i+1:Nat):Int)))]
    ·by_cases c3:b.reasons.any (fun r=>decide (r.for_=((i:Nat):Int)∧Zmr row k r))=true
     ·rw [if_pos c3,if_pos ⟨c1,c2,c3⟩];rfl
     ·rw [if_neg c3,if_neg fun hh=>c3 hh.2.2];simp
    ·intro j r mr
     obtain ⟨f1,f2,f3⟩:=h.ok r mr
     by_cases c3:r.for_=((i:Nat):Int)
     ·rw [if_pos (by simpa using c3),ZGR hI f2,A0]
      by_cases c4:r.inn.all (ZsE row k)=true
      ·rw [if_pos c4,ZH7 hI f3,A0]
       by_cases c5:r.outs.all (ZrW row)=true
       ·rw [if_pos c5,Zi _ (by omega),decide_eq_true ⟨c3,Zll.1 ⟨c4,c5⟩⟩];rfl
       ·rw [if_neg c5,decide_eq_false fun hh=>c5 (Zll.2 hh.2).2];rfl
      ·rw [if_neg c4,decide_eq_false fun hh=>c4 (Zll.2 hh.2).1];rfl
     ·rw [if_neg (by simpa using c3),decide_eq_false fun hh=>c3 hh.1];rfl
   ·have d2:decide (0≤rdN row ((i:Nat):Int))=true:=decide_eq_true (by omega)
    simp only[d2,if_true]
    rw [if_neg fun hh=>c2 hh.2.1];simp
  ·have d1:(lvN (lvB b) i != ((s:Nat):Int))=true:=by simp [c1]
   simp only[d1,if_true]
   rw [if_neg fun hh=>c1 hh.1];simp
 ·intro acc
  have hf:decide (((b.nodes.toNat:Nat):Int)<b.nodes)=false:=decide_eq_false (by omega)
  simp only[hf,AC,if_false]
theorem ZFN {b:Zu} (h:ZdS b):ZD6 b=some (rdB b):=by
 have h0:=h.n0
 have h1:=h.n1
 unfold ZD6
 rw [ZEI h,A0,if_pos rfl,ZHj h,A0]
 have walk:∀(body:List Int × Int→Option ((List Int × Int) ⊕ List Int)),(∀(i:Nat),i<b.nodes.toNat→body (A8 i (-1),((i:Nat):Int))=some (.inl (A8 i (-1)++[-1],((i+1:Nat):Int))))→body (A8 b.nodes.toNat (-1),((b.nodes.toNat:Nat):Int))=some (.inr (rdB b))→
   ∀d i,i+d=b.nodes.toNat→Y5 body (A8 i (-1),((i:Nat):Int))=some (rdB b):=by
  intro body b1 b2 d
  induction d with
  | zero=>
   intro i hi
   obtain rfl:i=b.nodes.toNat:=by omega
   exact YG b2
  | succ d ih=>
   intro i hi
   rw [YU (b1 i (by omega)),←ih (i+1) (by omega),List.replicate_succ']
 refine walk _ ?_ ?_ b.nodes.toNat 0 (by omega)
 ·intro i hi
  have ht:decide (((i:Nat):Int)<b.nodes)=true:=decide_eq_true (by omega)
  simp only[ht,if_true]
  rw [Zi _ (by simp;omega),ZsY (by omega)]
 ·have hf:decide (((b.nodes.toNat:Nat):Int)<b.nodes)=false:=decide_eq_false (by omega)
  simp only[hf,AC,if_false]
  have walk2:∀(body:List Int × Int × Int→Option ((List Int × Int × Int) ⊕ ((List Int × Int) ⊕ List Int))),(∀row (k s:Nat),RIn b.nodes.toNat row k→s<b.nodes.toNat→body (row,((k:Nat):Int),((s:Nat):Int))=some (.inl ((Zbr b.reasons (lvB b) ((s:Nat):Int) b.nodes.toNat row k).1,(((Zbr b.reasons (lvB b) ((s:Nat):Int) b.nodes.toNat row k).2:Nat):Int),((s+1:Nat):Int))))→(∀row (k:Nat),body (row,((k:Nat):Int),((b.nodes.toNat:Nat):Int))=some (.inr (.inr row)))→
    ∀d s row k,s+d=b.nodes.toNat→RIn b.nodes.toNat row k→Y5 body (row,((k:Nat):Int),((s:Nat):Int))=some (.inr (QM b.reasons (lvB b) b.nodes.toNat (AG s d) (row,k)).1):=by
   intro body b1 b2 d
   induction d with
   | zero=>
    intro s row k hs hI
    obtain rfl:s=b.nodes.toNat:=by omega
    exact YG (b2 row k)
   | succ d ih=>
    intro s row k hs hI
    rw [YU (b1 row k s hI (by omega))]
    exact ih (s+1) _ _ (by omega) (Zhk h.ok b.nodes.toNat row k hI (by have:=hI.few;omega)).1
  have e:rdB b=(QM b.reasons (lvB b) b.nodes.toNat (AG 0 b.nodes.toNat) (A8 b.nodes.toNat (-1),0)).1:=by unfold rdB;rw [Ap]
  rw [e]
  refine walk2 _ ?_ ?_ b.nodes.toNat 0 _ 0 (by omega) (Zl5 _)
  ·intro row k s hI hs
   have ht:decide (((s:Nat):Int)<b.nodes)=true:=decide_eq_true (by omega)
   simp only[ht,if_true]
   rw [ZFM h hI,A0,ZsY (by omega)]
   refine ZHT (s:=((s:Nat):Int)) h.ok (fun row k l=>(row,l,((k:Nat):Int))) (fun row k=>Sum.inl (row,((k:Nat):Int),((s+1:Nat):Int))) (fun row k=>(AG 0 b.nodes.toNat).filterMap (ZFA b.nodes.toNat b.reasons (lvB b) ((s:Nat):Int) row k)) (fun row k x _=>ZGx h.ok) ?_ ?_ b.nodes.toNat row k hI (by have:=hI.few;omega)
   ·intro row k hI hc hN
    have hlt:decide (0<((((AG 0 b.nodes.toNat).filterMap (ZFA b.nodes.toNat b.reasons (lvB b) ((s:Nat):Int) row k)).length:Nat):Int))=true:=by
     have:((AG 0 b.nodes.toNat).filterMap (ZFA b.nodes.toNat b.reasons (lvB b) ((s:Nat):Int) row k)).length≠0:=fun e=>hc (Ae e)
     exact decide_eq_true (by omega)
    simp only[hlt,if_true]
    rw [Zsu hI.len (fun x mx=>Zr2 h.ok x (ZGx h.ok |>.1 mx)) fun i x s=>rfl,ZsY (by have:=hI.few;omega),ZFM h hN,A0]
   ·intro row k hI
    rfl
  ·intro row k
   simp only[hf,AC,if_false]
end
section
open Classical
theorem Zn7 {ρ:Type} {l:List Int} (hl:l.length≤1000) {fin:List Bool→Option ρ} {body:Nat→Int→List Bool→Option (List Bool ⊕ ρ)} (hb:∀i x s,body i x s=chk (s.length+1≤1073741824) (some (.inl (s++[decide (0≤x)])))):Zn body fin l 0 []=fin (l.map fun x=>decide (0≤x)):=by
 rw [Zk3 (g:=fun x=>decide (0≤x))]
 ·rfl
 ·intro j x s _ hs
  simp at hs
  rw [hb,Zi _ (by omega)]
theorem ZmN {b:Zu} (h:ZdS b):ZdW b=some ((rdB b).map fun x=>decide (0≤x)):=by
 unfold ZdW
 have:=h.n1
 rw [ZrH h,A0,Zn7 (by rw [h.rd];omega) fun i x s=>rfl]
theorem ZJz {b:Zu} (h:ZdS b):ZIN b=some ((rdB b).map fun x=>decide (0≤x)):=by
 unfold ZIN
 have:=h.n1
 rw [ZFN h,A0,Zn7 (by rw [h.rd];omega) fun i x s=>rfl]
theorem Zkm {ρ:Type} {fin:List Zd→Option ρ} {body:Nat→Bool→List Zd→Option (List Zd ⊕ ρ)} {F:List Zd} (hF:∀f∈F,f.args.length≤1048576) (hl:F.length≤1000)
  (hb:∀i x s,body i x s=if x=true then (atI F ((i:Nat):Int)).bind fun f=>(Yl f).bind fun g=>chk (s.length+1≤1073741824) (some (.inl (s++[g]))) else some (.inl s)):
  ∀(rest:List Zd) (l:List Int) (pre acc:List Zd),F=pre++rest→l.length=rest.length→acc.length≤pre.length→Zn body fin (l.map fun x=>decide (0≤x)) pre.length acc=fin (acc++YT rest l)
 | [],[],pre,acc,_,_,_=>by simp [Zn,YT]
 | [],_::_,_,_,_,e,_=>by simp at e
 | _::_,[],_,_,_,e,_=>by simp at e
 | f::rest,v::l,pre,acc,e,el,ha=>by
  have hf:F[pre.length]?=some f:=by rw [e];simp
  have hlt:=(AF.1 hf).1
  have ih:=fun acc' h'=>Zkm (fin:=fin) hF hl hb rest l (pre++[f]) acc' (by rw [e];simp) (by simpa using el) h'
  simp only[AJ,Ar] at ih
  rw [AQ]
  unfold YT
  by_cases hv:0≤v
  ·rw [ZV (s':=acc++[f]) (by
    rw [hb,if_pos (decide_eq_true hv),Zby,hf,A0,YB _ (hF f (Am hf)),A0,Zi _ (by omega)]),ih _ (by simp;omega),if_pos hv]
   simp
  ·rw [ZV (s':=acc) (by rw [hb,if_neg (by simpa using hv)]),ih _ (by omega),if_neg hv]
theorem ZJa {ρ:Type} {fin:List Zd→Option ρ} {body:Nat→Zd→List Zd→Option (List Zd ⊕ ρ)} {L:List Bool} {N:Nat} (hN:N≤1000) {z:List Zd→ρ}
  (hb:∀i x s,body i x s=if decide (((i:Nat):Int)<((L.length:Nat):Int))=true then chk (0≤((i:Nat):Int)∧((i:Nat):Int)<((L.length:Nat):Int)) ((L[i]?).bind fun v=>if v=true then (XM x).bind fun g=>chk (s.length+1≤1073741824) (some (.inl (s++[g]))) else some (.inl s)) else some (.inr (z s))):
  ∀(rest:List Zd) (l:List Int) (pre:List Bool) (acc:List Zd),(∀f∈rest,f.args.length≤1048576)→L=pre++(l.map fun x=>decide (0≤x))→l.length=rest.length→acc.length≤pre.length→pre.length+rest.length≤N→Zn body fin rest pre.length acc=fin (acc++YT rest l)
 | [],[],pre,acc,_,_,_,_,_=>by simp [Zn,YT]
 | [],_::_,_,_,_,_,e,_,_=>by simp at e
 | _::_,[],_,_,_,_,e,_,_=>by simp at e
 | f::rest,v::l,pre,acc,hF,e,el,ha,hn=>by
  have hf:L[pre.length]?=some (decide (0≤v)):=by rw [e];simp
  have hlt:=(AF.1 hf).1
  have ih:=fun acc' h'=>ZJa (fin:=fin) hN hb rest l (pre++[decide (0≤v)]) acc' (fun g mg=>hF g (by simp [mg])) (by rw [e];simp) (by simpa using el) h' (by simp at hn ⊢;omega)
  simp only[AJ,Ar] at ih
  simp only[AN] at hn
  have hx:∀s,body pre.length f s=if 0≤v then chk (s.length+1≤1073741824) (some (.inl (s++[f]))) else some (.inl s):=fun s=>by
   rw [hb,if_pos (decide_eq_true (by omega)),Zi _ ⟨by omega,by omega⟩,hf,A0]
   by_cases hv:0≤v
   ·rw [if_pos (decide_eq_true hv),if_pos hv,Xo _ (hF f (by simp)),A0]
   ·rw [if_neg (by simpa using hv),if_neg hv]
  unfold YT
  by_cases hv:0≤v
  ·rw [ZV (s':=acc++[f]) (by rw [hx,if_pos hv,Zi _ (by omega)]),ih _ (by simp;omega),if_pos hv]
   simp
  ·rw [ZV (s':=acc) (by rw [hx,if_neg hv]),ih _ (by omega),if_neg hv]
theorem Zo3 {b:Zu} (h:ZdS b) {F:List Zd} (hF:∀f∈F,f.args.length≤1048576) (hn:b.nodes=((F.length:Nat):Int)):ZcT F b=some (YT F (rdB b)):=by
 have h1:=h.n1
 have hr:=h.rd
 unfold ZcT
 rw [ZmN h,A0]
 exact Zkm hF (by omega) (fun i x s=>rfl) F (rdB b) [] [] rfl (by omega) (A6 _)
theorem ZJ6 {b:Zu} (h:ZdS b) {F:List Zd} (hF:∀f∈F,f.args.length≤1048576) (hn:b.nodes=((F.length:Nat):Int)):ZI0 F b=some (YT F (rdB b)):=by
 have h1:=h.n1
 have hr:=h.rd
 unfold ZI0
 rw [ZJz h,A0]
 exact ZJa (N:=F.length) (by omega) (fun i x s=>rfl) F (rdB b) [] [] hF rfl (by omega) (A6 _) (by simp)
theorem Yu.args {R:List Zf} {base F:List Zd} (h:Yu R base F):∀f∈F,f.args.length≤1048576:=fun f mf=>by
 have:=Xg (h.good.ok f mf)
 omega
structure ZKg (M:List Zd):Prop where
 len:M.length≤24
 ok:∀f∈M,YH f=true
theorem ZKg.cost {M:List Zd} (h:ZKg M):M.length≤1048576∧ZDa M≤1048576:=by
 have h1:=h.len
 have h2:(M.map ZC2).sum≤M.length * 64:=ZGX fun x mx=>ZIr (h.ok x mx)
 unfold ZDa
 omega
theorem ZKB:ZKg []:=⟨by simp,by simp⟩
theorem Yu.few {R:List Zf} {base F:List Zd} (h:Yu R base F) (l:List Int):ZKg (YT F l):=by
 have h1:=h.len
 obtain ⟨k1,k2⟩:=Zms (F:=F) (l:=l)
 exact ⟨by omega,fun f mf=>h.good.ok f (k2 f mf)⟩
theorem ZKw {R:List Zf} (hR:ZbC R) (base:List Zd) (hb20:base.length≤1048576):∃M ok,ZIQ R base=some (M,ok)∧Zbg R base=some (M,ok)∧ZKg M:=by
 obtain ⟨F,b,ok,h1,h2,h3⟩:=Zhb hR base hb20
 unfold ZIQ Zbg
 rw [h1,h2]
 rcases h3 with ⟨rfl,rfl,rfl⟩ | ⟨rfl,hG,rfl,h60⟩
 ·exact ⟨_,_,rfl,rfl,ZKB⟩
 ·have hB:=ZdS.of hG h60
  refine ⟨_,true,?_,?_,hG.few (rdB { nodes:=((F.length:Nat):Int),reasons:=YJ R F base })⟩
  ·rw [A0,if_pos rfl,ZJ6 hB hG.args rfl];rfl
  ·rw [A0,if_pos rfl,Zo3 hB hG.args rfl];rfl
end
section
open Go.RowKit
theorem ZKt {α:Type} {c:ZaE α} {w:World}:∀{ds:List α} {xs:List Value} {L:List Nat},c.reps w xs ds L→∃(css:List (List Value)) (Ls:List (List Nat)),css.length=ds.length∧Ls.length=ds.length∧xs=css.flatten∧L=Ls.flatten∧∀(i:Nat) (d:α) (c1:List Value) (l1:List Nat),ds[i]?=some d→css[i]?=some c1→Ls[i]?=some l1→c.rep w c1 d l1
 | [],_,_,⟨h1,h2⟩=>⟨[],[],rfl,rfl,h1,h2,by simp⟩
 | d::ds,_,_,⟨c1,c2,L1,L2,rfl,rfl,h1,h2⟩=>by
  obtain ⟨css,Ls,a1,a2,rfl,rfl,a5⟩:=ZKt h2
  refine ⟨c1::css,L1::Ls,by simp [a1],by simp [a2],by simp,by simp,fun i e u l hd hc hl=>?_⟩
  cases i with
  | zero=>simp at hd hc hl;subst hd hc hl;exact h1
  | succ i=>exact a5 i e u l (by simpa using hd) (by simpa using hc) (by simpa using hl)
theorem ZKA {α:Type} {m:Nat}:∀{css:List (List α)} {i j:Nat} {c1:List α} {u:α},(∀x∈css,x.length=m)→css[i]?=some c1→c1[j]?=some u→css.flatten[i * m+j]?=some u
 | [],i,_,_,_,_,h,_=>by simp at h
 | c::css,0,j,c1,u,hs,h,hu=>by
  simp at h;subst h
  rw [As,Nat.zero_mul,Nat.zero_add,Ao (AF.1 hu).1]
  exact hu
 | c::css,i+1,j,c1,u,hs,h,hu=>by
  have hc:=hs c (by simp)
  have:=ZKA (css:=css) (i:=i) (fun x mx=>hs x (by simp [mx])) (by simpa using h) hu
  rw [As,List.getElem?_append_right (by rw [hc,Nat.add_mul];omega),hc,show (i+1) * m+j - m=i * m+j by rw [Nat.add_mul];omega]
  exact this
structure ZKC {α:Type} (c:ZaE α) (w:World) (A:Option Addr) (ds:List α) (L:List Nat) (css:List (List Value)) (Ls:List (List Nat)):Prop where
 cl:css.length=ds.length
 ll:Ls.length=ds.length
 el:∀(i:Nat) (d:α) (c1:List Value) (l1:List Nat),ds[i]?=some d→css[i]?=some c1→Ls[i]?=some l1→c.rep w c1 d l1
 sub:Ls.flatten.Sublist L
 at_:∀(i:Nat) (c1:List Value),css[i]?=some c1→∃b off,A=some ⟨b,off,none⟩∧b∈L∧∀j u,c1[j]?=some u→w.cell? ⟨b,off+(i * c.size+j),none⟩=some u
theorem Sli.parts {α:Type} {c:ZaE α} {w:World} {A:Option Addr} {ds:List α} {L:List Nat} (h:Sli c w A ds L):∃css Ls,ZKC c w A ds L css Ls:=by
 obtain ⟨xs,L0,L1,rfl,h1,h2⟩:=h
 obtain ⟨css,Ls,a1,a2,rfl,rfl,a5⟩:=ZKt h2
 refine ⟨css,Ls,a1,a2,a5,List.sublist_append_right _ _,fun i c1 hc=>?_⟩
 have hi:i<ds.length:=by rw [←a1];exact (AF.1 hc).1
 obtain ⟨b,off,hA,hL,hcell⟩:=h1.at_ (by omega)
 have hs:∀x∈css,x.length=c.size:=fun x mx=>by
  obtain ⟨j,hj⟩:=List.mem_iff_getElem?.1 mx
  have hjl:=(AF.1 hj).1
  exact c.len (a5 j ds[j] x Ls[j] (A3 (by omega)) hj (A3 (by omega)))
 exact ⟨b,off,hA,by simp [hL],fun j u hu=>hcell _ u (ZKA hs hc hu)⟩
theorem ZKj {Ls:List (List Nat)} {k:Nat} {l:List Nat} (h:Ls[k]?=some l):(Ls.take (k+1)).flatten=(Ls.take k).flatten++l:=by
 rw [At,h];simp
theorem ZKu {α:Type} {c:ZaE α} {w:World} {d:α} {c1:List Value} {l1:List Nat}:∀{ds:List α} {xs:List Value} {L:List Nat},c.reps w xs ds L→c.rep w c1 d l1→c.reps w (xs++c1) (ds++[d]) (L++l1)
 | [],_,_,⟨h1,h2⟩,h=>by subst h1 h2;exact ⟨c1,[],l1,[],by simp,by simp,h,rfl,rfl⟩
 | e::ds,_,_,⟨x1,x2,L1,L2,rfl,rfl,h1,h2⟩,h=>⟨x1,x2++c1,L1,L2++l1,by simp,by simp,h1,ZKu h2 h⟩
theorem ZKv:(prog.info? 71).map (fun i=>(i.zero,i.size,i.bytes))=some (some (.agg #[.string ⟨#[]⟩,.slice none 0 0]),2,40):=by kernel_rfl
theorem ZKx {Ls:List (List Nat)} (k:Nat):(Ls.take k).flatten.Sublist Ls.flatten:=by
 conv=>rhs;rw [←List.take_append_drop k Ls,List.flatten_append]
 exact Au _ _
theorem ZKz {w:World} {base:Nat} {e:TypeId} {size n:Nat} {v:Value} {xs:List Value} (h:w.ownsRow base e size v n xs):Own w base v.ownBlock.toList:=by
 rcases h.2 with ⟨h0,_⟩ | ⟨g,cap,cur,hv,hg,hc,_⟩
 ·subst h0;exact Own.nil w base
 ·subst hv;exact ⟨by simp [Value.ownBlock],by simpa [Value.ownBlock] using hg,by simpa [Value.ownBlock] using ⟨cur,e,hc⟩⟩
structure ZKk {α:Type} (c:ZaE α) (E:TypeId) (W w1:World) (LA:List Nat) (Ls:List (List Nat)) (M:List α) (p:α→Bool) (k:Nat) (v:Value) (w:World):Prop where
 ex:∃xs Lp,w.ownsRow W.heap.size E c.size v ((M.take k).filter p).length xs∧c.reps w1 xs ((M.take k).filter p) Lp∧Lp.Sublist (Ls.take k).flatten
 far:∀g,v.ownBlock=some g→g∉LA
 lt:∀y∈LA,y<w.heap.size
 same:∀y∈LA,w.heap[y]?=w1.heap[y]?
 below:Below W.heap.size W w
section
variable {α:Type} {c:ZaE α} {E:TypeId} {W w1 w w':World} {LA:List Nat} {Ls:List (List Nat)} {M:List α} {p:α→Bool} {k:Nat} {v v':Value} {x:α} {l:List Nat}
theorem ZKk.start (hlt:∀y∈LA,y<w1.heap.size) (hb:Below W.heap.size W w1):ZKk c E W w1 LA Ls M p 0 (.slice none 0 0) w1:=
 ⟨⟨[],[],World.ownsRow_nil _ _ _ _,⟨rfl,rfl⟩,by simp⟩,by simp [Value.ownBlock],hlt,fun _ _=>rfl,hb⟩
theorem ZKk.made {g:Nat} (hg:w1.heap[g]?=some (.cells #[] E (0,0))) (hge:W.heap.size≤g) (hLA:g∉LA) (hlt:∀y∈LA,y<w1.heap.size) (hb:Below W.heap.size W w1):ZKk c E W w1 LA Ls M p 0 (.slice (some ⟨g,0,none⟩) 0 0) w1:=
 ⟨⟨[],[],⟨by simp,.inr ⟨g,0,#[],rfl,hge,hg,by simp,by unfold maxLen;omega,by simp,by simp⟩⟩,⟨rfl,rfl⟩,by simp⟩,by simpa [Value.ownBlock] using hLA,hlt,fun _ _=>rfl,hb⟩
theorem ZKk.later (h:ZKk c E W w1 LA Ls M p k v w) (hb:Below w.heap.size w w'):ZKk c E W w1 LA Ls M p k v w':=by
 obtain ⟨⟨xs,Lp,h1,h2,h3⟩,h4,h5,h6,h7⟩:=h
 exact ⟨⟨xs,Lp,h1.kept (row:=none) ⟨hb.os,hb.tape,hb.output,hb.size,fun q hq _=>hb.block q hq⟩ (by cases v.ownBlock<;>simp),h2,h3⟩,h4,fun y m=>AI (h5 y m) hb.size,fun y m=>(hb.block y (h5 y m)).trans (h6 y m),h7.trans (hb.mono h7.size)⟩
theorem ZKl (hx:M[k]?=some x):(M.take (k+1)).filter p=(M.take k).filter p++(if p x then [x] else []):=by
 rw [At,hx,List.filter_append]
 show _++List.filter p [x]=_
 cases hp:p x<;>simp [hp]
theorem ZKk.skip (h:ZKk c E W w1 LA Ls M p k v w) (hx:M[k]?=some x) (hl:Ls[k]?=some l) (hp:p x=false):ZKk c E W w1 LA Ls M p (k+1) v w:=by
 obtain ⟨⟨xs,Lp,h1,h2,h3⟩,h4,h5,h6,h7⟩:=h
 have e:(M.take (k+1)).filter p=(M.take k).filter p:=by rw [ZKl hx,hp];simp
 exact ⟨⟨xs,Lp,by rw [e];exact h1,by rw [e];exact h2,by rw [ZKj hl];exact h3.trans (Au _ _)⟩,h4,h5,h6,h7⟩
theorem ZKk.next {xs news:List Value} {Lp:List Nat} (h:ZKk c E W w1 LA Ls M p k v w) (h2:c.reps w1 xs ((M.take k).filter p) Lp) (h3:Lp.Sublist (Ls.take k).flatten) (hx:M[k]?=some x) (hl:Ls[k]?=some l) (hp:p x=true) (hr:c.rep w1 news x l)
  (hown:w'.ownsRow W.heap.size E c.size v' (((M.take k).filter p).length+1) (xs++news)) (hgrow:w.grownBy w' v.ownBlock) (hblk:∀g,v'.ownBlock=some g→v.ownBlock=some g∨w.heap.size≤g) (hge:∀g,v.ownBlock=some g→W.heap.size≤g):ZKk c E W w1 LA Ls M p (k+1) v' w':=by
 obtain ⟨-,h4,h5,h6,h7⟩:=h
 have e:(M.take (k+1)).filter p=(M.take k).filter p++[x]:=by rw [ZKl hx,hp];simp
 refine ⟨⟨xs++news,Lp++l,by rw [e,AJ];exact hown,by rw [e];exact ZKu h2 hr,by rw [ZKj hl];exact List.Sublist.append h3 (List.Sublist.refl _)⟩,fun g hg m=>?_,fun y m=>AI (h5 y m) hgrow.size,fun y m=>?_,?_⟩
 ·rcases hblk g hg with hg' | hg'
  ·exact h4 g hg' m
  ·exact absurd (h5 g m) (by omega)
 ·exact (hgrow.block y (h5 y m) (fun hc=>h4 y hc.symm m)).trans (h6 y m)
 ·exact h7.trans ⟨hgrow.os,hgrow.tape,hgrow.output,hgrow.size,fun q hq=>hgrow.block q (AI hq h7.size) (fun hc=>absurd (hge q hc.symm) (by omega))⟩
theorem ZKk.done (h:ZKk c E W w1 LA Ls M p k v w) (hk:M.length≤k) (hO:Own w1 W.heap.size LA) (hs:Ls.flatten.Sublist LA):ZEC c E W (M.filter p) (.returned v) w:=by
 obtain ⟨⟨xs,Lp,h1,h2,h3⟩,h4,h5,h6,h7⟩:=h
 rw [List.take_of_length_le hk] at h1 h2
 have hsub:Lp.Sublist LA:=h3.trans ((ZKx _).trans hs)
 have hkeep:∀y∈Lp,w.heap[y]?=w1.heap[y]?:=fun y m=>h6 y (hsub.subset m)
 have hv:=ZKz h1
 refine ⟨v,rfl,⟨xs,Lp,Zht h1,ZmT h2 hkeep,?_⟩,h7⟩
 have hL:=(hO.sub hsub).keep hkeep
 refine ⟨List.nodup_append.2 ⟨hv.nodup,hL.nodup,fun a ma b mb hab=>?_⟩,fun b m=>?_,fun b m=>?_⟩
 ·subst hab
  exact h4 a (by simpa using ma) (hsub.subset mb)
 ·rcases AK.1 m with m | m
  ·exact hv.ge b m
  ·exact hL.ge b m
 ·rcases AK.1 m with m | m
  ·exact hv.plain b m
  ·exact hL.plain b m
end
section
variable {β:Type} {c:ZaE β} {E:TypeId} {W w1 w w':World} {LA:List Nat} {Ls:List (List Nat)} {ds:List β} {k:Nat} {v v':Value} {y:β} {l l':List Nat}
end
set_option maxRecDepth 100000 in
set_option maxHeartbeats 4000000 in
theorem ZKq {R:List Zf} {base M:List Zd} {ok:Bool} (hM:Zbg R base=some (M,ok)) (hml:M.length≤1024) (w:World) (hj:J0 w) (A:Option Addr) (c:Nat) (L:List Nat) (hR:(ZfI ZDB).rep w [.slice A R.length c] R L) (B:Option Addr) (d:Nat) (K:List Nat) (hB:(ZfI ZDc).rep w [.slice B base.length d] base K):
  Calls prog 15 #[.slice A R.length c,.slice B base.length d] w (ZEC ZDc 71 w (M.filter fun f=>decide (Z9 base f<0))):=by
 have HB:=Lib.hid hB
 have HM:=Lib.hid hM
 have HJ:=Lib.hid hj
 clear hM hB hj
 go_enter func15,ntmps15
 go_wp2_with fail
 refine (Zl.givesSB (c:=ZDc) (g:=Zq) (t:=71) (ds:=M) (b:=ok) (Zn1 HM.out) ZFU HJ.out (vs:=[_,_]) ⟨ZzU ZIg _ hR,ZzU ZFU _ HB.out,trivial⟩).mono ?_
 rintro e w1 ⟨v,rfl,hA⟩
 obtain ⟨An,cap,rfl⟩:=hA.shape
 obtain ⟨LA,hG⟩:=hA.got
 obtain ⟨hn1,hm1,hS⟩:=ZCX hG.rep
 obtain ⟨css,Ls,hP⟩:=hS.parts
 have HP:=Lib.hid hP
 have HG:=Lib.hid hG
 have HW:=Lib.hid hA.below
 clear hA hS hP hG
 obtain ⟨n,hn⟩:∃n,M.length=n:=⟨_,rfl⟩
 rw [hn]
 have HN:=Lib.hid hn
 rw [hn] at hml hn1
 clear hn
 go_wp2
 have hst:ZKk ZDc 71 w w1 LA Ls M (fun f=>decide (Z9 base f<0)) 0 (.slice none 0 0) w1:=ZKk.start HG.out.own.lt HW.out
 have HS:=Lib.hid hst
 clear hst
 go_loopw [7,9,18] (fun v q i wr=>∃(k:Nat),k≤n∧i=.int .i64 k∧Hid (ZKk ZDc 71 w w1 LA Ls M (fun f=>decide (Z9 base f<0)) k v wr)) (fun _ _ i _=>n - (intOf i).toNat)
 case atStart=>exact ⟨0,A4 _,rfl,HS⟩
 case round=>
  clear HS
  obtain ⟨k,hk,rfl,HA⟩:=hrel
  by_cases hlt:k<n
  ·obtain ⟨x,hx⟩:∃x,M[k]?=some x:=⟨_,A3 (by have:=HN.out;omega)⟩
   obtain ⟨c1,hc1⟩:∃c1,css[k]?=some c1:=⟨_,A3 (by have:=HP.out.cl;have:=HN.out;omega)⟩
   obtain ⟨l1,hl1⟩:∃l1,Ls[k]?=some l1:=⟨_,A3 (by have:=HP.out.ll;have:=HN.out;omega)⟩
   obtain ⟨b,off,rfl,hbL,hc⟩:=HP.out.at_ k c1 hc1
   have HR:=Lib.hid (HP.out.el k x c1 l1 hx hc1 hl1)
   obtain ⟨A1,cc1,L1,e1,e2,t0,n1,m1,s1⟩:=HR.out
   subst e1 e2
   have hsub:Hid (∀y∈l1,y∈LA):=by
    intro y m
    obtain ⟨hkl1,hkl2⟩:=AF.1 hl1
    exact HP.out.sub.subset (Av.2 ⟨l1,hkl2 ▸ Aw hkl1,m⟩)
   have q0:wr.cell? ⟨b,off+k * 2,none⟩=_:=(World.cell?_of_block (a:=⟨b,off+(k * 2+0),none⟩) (HA.out.same b hbL)).trans (hc 0 _ rfl)
   have q1:wr.cell? ⟨b,off+k * 2+1,none⟩=_:=(World.cell?_of_block (a:=⟨b,off+(k * 2+1),none⟩) (HA.out.same b hbL)).trans (hc 1 _ rfl)
   clear hc
   have BA:Hid (Below wr.heap.size wr (wr.alloc (.cells #[.string x.rel,.slice A1 x.args.length cc1] 71))):=(Below.refl _ wr).alloc (A6 _) _
   have BW:Hid (Below w.heap.size w (wr.alloc (.cells #[.string x.rel,.slice A1 x.args.length cc1] 71))):=HA.out.below.trans (BA.out.mono HA.out.below.size)
   have HBk:=Lib.hid ((ZfI ZDc).keep HB.out (ZCW BW.out (fun y m=>(ZfI ZDc).lt HB.out y m)))
   have HRk:=Lib.hid (ZDc.keep HR.out (w':=wr.alloc (.cells #[.string x.rel,.slice A1 x.args.length cc1] 71)) (fun y m=>(BA.out.block y (HA.out.lt y (hsub.out y m))).trans (HA.out.same y (hsub.out y m))))
   by_cases hp:Z9 base x<0
   ·go_wp2_with fail
    refine (Zl.givesI (ZbG (ZbE base x)) (ZDP hJ0 HJ.out BW.out) (vs:=[_,_]) ⟨ZzU ZFU _ HBk.out,ZEU ZFU HRk.out,trivial⟩).mono ?_
    rintro e w2 ⟨rfl,hb2⟩
    have HA2:=Lib.hid ((HA.out.later BA.out).later hb2)
    have K0:Hid (Blk w2 wr.heap.size 71 #[.string x.rel,.slice A1 x.args.length cc1]):=Blk.later (Blk.new _ _ _) hb2
    have qb0:=K0.out.at (i:=0) (v:=.string x.rel) rfl
    have qb1:=K0.out.at (i:=1) (v:=.slice A1 x.args.length cc1) rfl
    obtain ⟨xs,Lp,ho,hr,hs⟩:=HA2.out.ex
    have HO:=Lib.hid ho
    have HRs:=Lib.hid (And.intro hr hs)
    have hpl:((M.take k).filter fun f=>decide (Z9 base f<0)).length≤k:=AX (Ag _ _) (by simp;omega)
    clear hb2 ho hr hs
    go_wp2_with (at_builtin;(refine ZIb rfl (.tmp 26) (.tmp 28) 26 rfl 71 _ 2 40 underlying26 ZKv rfl (by omega) w.heap.size u7 ((M.take k).filter fun f=>decide (Z9 base f<0)).length xs [_,_] rfl rfl HO.out rfl (by intro u hu;simp only[AH,Ax,or_false] at hu;rcases hu with rfl | rfl<;>rfl) (by omega) (by omega) HA2.out.below.size ?_);intro v' w' hown hgrow hblk)
    exact ⟨⟨k+1,by omega,by simp,HA2.out.next HRs.out.1 HRs.out.2 hx hl1 (by simpa using hp) HR.out hown hgrow hblk (ZFp HO.out)⟩,by simp [intOf];omega⟩
   ·go_wp2_with fail
    refine (Zl.givesI (ZbG (ZbE base x)) (ZDP hJ0 HJ.out BW.out) (vs:=[_,_]) ⟨ZzU ZFU _ HBk.out,ZEU ZFU HRk.out,trivial⟩).mono ?_
    rintro e w2 ⟨rfl,hb2⟩
    have HA2:=Lib.hid ((HA.out.later BA.out).later hb2)
    clear hb2
    go_wp2
    exact ⟨⟨k+1,by omega,by simp,HA2.out.skip hx hl1 (by simpa using hp)⟩,by simp [intOf];omega⟩
  ·go_wp2
   go_ret
   exact HA.out.done (by have:=HN.out;omega) HG.out.own HP.out.sub
noncomputable def ZKi (R:List Zf) (base:List Zd):Option (List Zd):=(Zbg R base).bind fun m=>if m.1.length≤1024 then some (m.1.filter fun f=>decide (Z9 base f<0)) else none
noncomputable def ZKh (R:List Zf) (base:List Zd):Option (List Zd):=(ZIQ R base).bind fun m=>if m.1.length≤1024 then some (m.1.filter fun f=>decide (Z9 base f<0)) else none
theorem ZKn {aRules:List Zf} {aBase:List Zd} {r:List Zd} (hh:ZKi aRules aBase=some r) (w:World) (hj:J0 w) (AaRules:Option Addr) (caRules:Nat) (LaRules:List Nat) (haRules:(ZfI ZDB).rep w [.slice AaRules aRules.length caRules] aRules LaRules) (AaBase:Option Addr) (caBase:Nat) (LaBase:List Nat) (haBase:(ZfI ZDc).rep w [.slice AaBase aBase.length caBase] aBase LaBase):
  Calls prog 15 #[.slice AaRules aRules.length caRules,.slice AaBase aBase.length caBase] w (ZEC ZDc 71 w r):=by
 unfold ZKi at hh
 cases hM:Zbg aRules aBase with
 | none=>rw [hM] at hh;cases hh
 | some m=>
  obtain ⟨M,ok⟩:=m
  rw [hM,A0] at hh
  by_cases hl:M.length≤1024
  ·rw [if_pos hl] at hh
   obtain rfl:=Af hh
   exact ZKq hM hl w hj AaRules caRules LaRules haRules AaBase caBase LaBase haBase
  ·rw [if_neg hl] at hh;cases hh
theorem ZKg.filter {M:List Zd} (h:ZKg M) (p:Zd→Bool):ZKg (M.filter p):=
 ⟨AX (Ag _ _) h.len,fun f hf=>h.ok f (List.mem_filter.1 hf).1⟩
theorem ZKp (aRules:List Zf) (cz:ZC4 aRules≤1048576) (_:(fun ds=>∀d∈ds,ZIa d) aRules) (aBase:List Zd) (cf:ZDa aBase≤1048576) (_:(fun ds=>∀d∈ds,ZF3 d) aBase):∃r,ZKh aRules aBase=some r∧ZKi aRules aBase=some r∧(r.length≤1048576∧ZDa r≤1048576):=by
 have hF:aBase.length≤1048576:=by unfold ZDa at cf;omega
 obtain ⟨r,b,h1,h2,h3⟩:=ZKw (ZHG cz) aBase hF
 have hl:r.length≤1024:=AX h3.len (by omega)
 refine ⟨r.filter fun f=>decide (Z9 aBase f<0),?_,?_,(h3.filter _).cost⟩
 ·unfold ZKh;rw [h1,A0,if_pos hl]
 ·unfold ZKi;rw [h2,A0,if_pos hl]
end
section
set_option linter.unusedSimpArgs false
set_option linter.unusedVariables false
set_option maxRecDepth 1000000
set_option maxHeartbeats 4000000
theorem Zhg {rules_0:(List Zf)} {base_1:(List Zd)} {r:((List Zd) × Zu × Bool)} (h:X4 rules_0 base_1=some r):Zl prog J0 58 [(false,[.sl 104 4 (AL ZG rules_0)]),(false,[.sl 71 2 (AL Zq base_1)])] [(false,[(false,.sl 71 2 (AL Zq r.1))]),(true,[(false,.int .i64 r.2.1.nodes),(false,.sl 144 3 (AL ZL r.2.1.reasons))]),(false,[(false,.bool r.2.2)])]:=by
 refine fnk func58 rfl ?_
 unfold X4 at h
 simp only[fnS,f58,Zm,go_sem,seval]
 refine Za h fun _ a h=>Zb (ZjG a) ?_
 simp only[*,go_sem,seval]
 refine Ze h (fun _ h=>?_) fun _ h=>?_<;>try simp only[*,go_sem,seval]
 iterate 2 (cases h;simp only[*,go_sem,seval])
end
section
set_option linter.unusedSimpArgs false
set_option linter.unusedVariables false
set_option maxRecDepth 1000000
set_option maxHeartbeats 4000000
theorem ZJr {rules_0:(List Zf)} {base_1:(List Zd)} {r:((List Zd) × Bool)} (h:ZIQ rules_0 base_1=some r):Zl prog J0 32 [(false,[.sl 104 4 (AL ZG rules_0)]),(false,[.sl 71 2 (AL Zq base_1)])] [(false,[(false,.sl 71 2 (AL Zq r.1))]),(false,[(false,.bool r.2)])]:=by
 refine fnk func32 rfl ?_
 unfold ZIQ at h
 simp only[fnS,f32,Zm,go_sem,seval]
 refine Za h fun _ a h=>Zb (Zhg a) ?_
 simp only[*,go_sem,seval]
 refine Ze h (fun _ h=>?_) fun _ h=>?_<;>try simp only[*,go_sem,seval]
 refine Za h fun _ b h=>Zb (ZJE b) ?_
 iterate 2 (cases h;simp only[*,go_sem,seval])
end
section
open Go.RowKit
set_option maxRecDepth 100000 in
set_option maxHeartbeats 4000000 in
theorem ZKs {R:List Zf} {base M:List Zd} {ok:Bool} (hM:ZIQ R base=some (M,ok)) (hml:M.length≤1024) (w:World) (hj:J0 w) (A:Option Addr) (c:Nat) (L:List Nat) (hR:(ZfI ZDB).rep w [.slice A R.length c] R L) (B:Option Addr) (d:Nat) (K:List Nat) (hB:(ZfI ZDc).rep w [.slice B base.length d] base K):
  Calls prog 12 #[.slice A R.length c,.slice B base.length d] w (ZEC ZDc 71 w (M.filter fun f=>decide (Z9 base f<0))):=by
 have HB:=Lib.hid hB
 have HM:=Lib.hid hM
 have HJ:=Lib.hid hj
 clear hM hB hj
 go_enter func12,ntmps12
 go_wp2_with fail
 have B0:Hid (Below w.heap.size w (w.alloc (.cells #[] 71))):=(Below.refl _ w).alloc (A6 _) _
 refine (Zl.givesSB (c:=ZDc) (g:=Zq) (t:=71) (ds:=M) (b:=ok) (ZJr HM.out) ZFU (ZDP hJ0 HJ.out B0.out) (vs:=[_,_]) ⟨ZzU ZIg _ ((ZfI ZDB).keep hR (ZCW B0.out (fun y m=>(ZfI ZDB).lt hR y m))),ZzU ZFU _ ((ZfI ZDc).keep HB.out (ZCW B0.out (fun y m=>(ZfI ZDc).lt HB.out y m))),trivial⟩).mono ?_
 rintro e w1 ⟨v,rfl,hA⟩
 obtain ⟨An,cap,rfl⟩:=hA.shape
 obtain ⟨LA,hG⟩:=hA.got
 obtain ⟨hn1,hm1,hS⟩:=ZCX hG.rep
 obtain ⟨css,Ls,hP⟩:=hS.parts
 have HP:=Lib.hid hP
 have HG:=Lib.hid hG
 have HW:=Lib.hid (B0.out.trans (hA.below.mono B0.out.size))
 have HE:Hid (Blk w1 w.heap.size 71 #[]):=Blk.later (Blk.new _ _ _) hA.below
 clear hA hS hP hG
 obtain ⟨n,hn⟩:∃n,M.length=n:=⟨_,rfl⟩
 rw [hn]
 have HN:=Lib.hid hn
 rw [hn] at hml hn1
 clear hn
 go_wp2
 have hst:ZKk ZDc 71 w w1 LA Ls M (fun f=>decide (Z9 base f<0)) 0 (.slice (some ⟨w.heap.size,0,none⟩) 0 0) w1:=ZKk.made HE.out (A6 _) (fun m=>absurd (HG.out.own.ge _ m) (by simp)) HG.out.own.lt HW.out
 have HS:=Lib.hid hst
 clear hst
 go_loopw [5,8] (fun v i wr=>∃(k:Nat),k≤n∧i=.int .i64 k∧Hid (ZKk ZDc 71 w w1 LA Ls M (fun f=>decide (Z9 base f<0)) k v wr)) (fun _ i _=>n - (intOf i).toNat)
 case atStart=>exact ⟨0,A4 _,rfl,HS⟩
 case round=>
  clear HS
  obtain ⟨k,hk,rfl,HA⟩:=hrel
  by_cases hlt:k<n
  ·obtain ⟨x,hx⟩:∃x,M[k]?=some x:=⟨_,A3 (by have:=HN.out;omega)⟩
   obtain ⟨c1,hc1⟩:∃c1,css[k]?=some c1:=⟨_,A3 (by have:=HP.out.cl;have:=HN.out;omega)⟩
   obtain ⟨l1,hl1⟩:∃l1,Ls[k]?=some l1:=⟨_,A3 (by have:=HP.out.ll;have:=HN.out;omega)⟩
   obtain ⟨b,off,rfl,hbL,hc⟩:=HP.out.at_ k c1 hc1
   have HR:=Lib.hid (HP.out.el k x c1 l1 hx hc1 hl1)
   obtain ⟨A1,cc1,L1,e1,e2,t0,n1,m1,s1⟩:=HR.out
   subst e1 e2
   have hsub:Hid (∀y∈l1,y∈LA):=by
    intro y m
    obtain ⟨hkl1,hkl2⟩:=AF.1 hl1
    exact HP.out.sub.subset (Av.2 ⟨l1,hkl2 ▸ Aw hkl1,m⟩)
   have q0:wr.cell? ⟨b,off+k * 2,none⟩=_:=(World.cell?_of_block (a:=⟨b,off+(k * 2+0),none⟩) (HA.out.same b hbL)).trans (hc 0 _ rfl)
   have q1:wr.cell? ⟨b,off+k * 2+1,none⟩=_:=(World.cell?_of_block (a:=⟨b,off+(k * 2+1),none⟩) (HA.out.same b hbL)).trans (hc 1 _ rfl)
   have HC:=Lib.hid hc
   have HBL:=Lib.hid hbL
   clear hc
   have BW:Hid (Below w.heap.size w wr):=HA.out.below
   have HBk:=Lib.hid ((ZfI ZDc).keep HB.out (ZCW BW.out (fun y m=>(ZfI ZDc).lt HB.out y m)))
   have HRk:=Lib.hid (ZDc.keep HR.out (w':=wr) (fun y m=>HA.out.same y (hsub.out y m)))
   by_cases hp:Z9 base x<0
   ·go_wp2_with fail
    refine (Zl.givesI (ZbJ (Zbw base x)) (ZDP hJ0 HJ.out BW.out) (vs:=[_,_]) ⟨ZzU ZFU _ HBk.out,ZEU ZFU HRk.out,trivial⟩).mono ?_
    rintro e w2 ⟨rfl,hb2⟩
    have HA2:=Lib.hid (HA.out.later hb2)
    have q2:w2.cell? ⟨b,off+k * 2,none⟩=_:=(World.cell?_of_block (a:=⟨b,off+(k * 2+0),none⟩) (HA2.out.same b HBL.out)).trans (HC.out 0 _ rfl)
    have q3:w2.cell? ⟨b,off+k * 2+1,none⟩=_:=(World.cell?_of_block (a:=⟨b,off+(k * 2+1),none⟩) (HA2.out.same b HBL.out)).trans (HC.out 1 _ rfl)
    obtain ⟨xs,Lp,ho,hr,hs⟩:=HA2.out.ex
    have HO:=Lib.hid ho
    have HRs:=Lib.hid (And.intro hr hs)
    have hpl:((M.take k).filter fun f=>decide (Z9 base f<0)).length≤k:=AX (Ag _ _) (by simp;omega)
    clear hb2 ho hr hs
    go_wp2_with (at_builtin;(refine ZIb rfl (.tmp 29) (.tmp 34) 26 rfl 71 _ 2 40 underlying26 ZKv rfl (by omega) w.heap.size u5 ((M.take k).filter fun f=>decide (Z9 base f<0)).length xs [_,_] rfl rfl HO.out rfl (by intro u hu;simp only[AH,Ax,or_false] at hu;rcases hu with rfl | rfl<;>rfl) (by omega) (by omega) HA2.out.below.size ?_);intro v' w' hown hgrow hblk)
    exact ⟨⟨k+1,by omega,by simp,HA2.out.next HRs.out.1 HRs.out.2 hx hl1 (by simpa using hp) HR.out hown hgrow hblk (ZFp HO.out)⟩,by simp [intOf];omega⟩
   ·go_wp2_with fail
    refine (Zl.givesI (ZbJ (Zbw base x)) (ZDP hJ0 HJ.out BW.out) (vs:=[_,_]) ⟨ZzU ZFU _ HBk.out,ZEU ZFU HRk.out,trivial⟩).mono ?_
    rintro e w2 ⟨rfl,hb2⟩
    have HA2:=Lib.hid (HA.out.later hb2)
    clear hb2
    go_wp2
    exact ⟨⟨k+1,by omega,by simp,HA2.out.skip hx hl1 (by simpa using hp)⟩,by simp [intOf];omega⟩
  ·go_wp2
   go_ret
   exact HA.out.done (by have:=HN.out;omega) (HG.out.own.mono B0.out.size) HP.out.sub
theorem ZKr {aRules:List Zf} {aBase:List Zd} {r:List Zd} (hh:ZKh aRules aBase=some r) (w:World) (hj:J0 w) (AaRules:Option Addr) (caRules:Nat) (LaRules:List Nat) (haRules:(ZfI ZDB).rep w [.slice AaRules aRules.length caRules] aRules LaRules) (AaBase:Option Addr) (caBase:Nat) (LaBase:List Nat) (haBase:(ZfI ZDc).rep w [.slice AaBase aBase.length caBase] aBase LaBase):
  Calls prog 12 #[.slice AaRules aRules.length caRules,.slice AaBase aBase.length caBase] w (ZEC ZDc 71 w r):=by
 unfold ZKh at hh
 cases hM:ZIQ aRules aBase with
 | none=>rw [hM] at hh;cases hh
 | some m=>
  obtain ⟨M,ok⟩:=m
  rw [hM,A0] at hh
  by_cases hl:M.length≤1024
  ·rw [if_pos hl] at hh
   obtain rfl:=Af hh
   exact ZKs hM hl w hj AaRules caRules LaRules haRules AaBase caBase LaBase haBase
  ·rw [if_neg hl] at hh;cases hh
end
section
open Go.RowKit
set_option maxHeartbeats 400000 in
theorem ZEZ (A:Option Addr) (n c:Nat) (ds:List ByteArray) (L:List Nat) (left:Int) (w:World) (hn:n=ds.length) (hm:n≤9223372036854775807) (h0:0≤left) (h1:left≤1048576) (h:Sli ZCD w A ds L):
  Calls prog 95 #[.slice A n c,.int .i64 left] w (ZEw (ZDs ds) left w):=by
 have H:=Lib.hid h
 have HN:=Lib.hid hn
 clear h hn
 by_cases hlen:(n:Int)≤left
 ·go_enter func95,ntmps95
  go_wp2
  go_loop [1,5] (fun q i=>∃(k:Nat) (l:Int),k≤n∧i=.int .i64 k∧q=.int .i64 l∧0≤l∧l≤left∧Hid (szR ((ds.drop k).map Ay).sum l=szR (ZDs ds) left)) (fun _ i=>n - (intOf i).toNat)
  case atStart=>exact ⟨0,left - n,A4 _,rfl,rfl,by omega,by omega,Lib.hid (by
    have e:=HN.out
    exact ZDV _ _ _ _ (by omega) (by simp [ZDs];omega))⟩
  case round=>
   obtain ⟨k,l,hk,rfl,rfl,hl0,hl1,HE⟩:=hrel
   by_cases hlt:k<n
   ·obtain ⟨b,off,cs,Lk,rfl,_,_,hrep,hc⟩:=H.out.at_ (show k<ds.length by have:=HN.out;omega)
    obtain ⟨rfl,_,hss⟩:=ZID hrep
    have hc0:=hc 0 _ rfl
    clear hc hrep
    have hd:Hid (ds.drop k=ds[k]'(by have:=HN.out;omega)::ds.drop (k+1)):=A9 _
    generalize ds[k]'(by have:=HN.out;omega)=s at hc0 hd hss
    simp only[show ZCD.size=1 from rfl,AR,A5] at hc0
    by_cases hs:(s.size:Int)≤l
    ·go_wp2
     go_round
     case rel=>exact ⟨k+1,l - s.size,by omega,by go_num,rfl,by omega,by omega,Lib.hid (by rw [←HE.out,hd.out];exact ZDV _ _ _ _ (by omega) (by simp))⟩
     case measure=>simp [intOf];omega
    ·go_wp2
     go_ret
     exact ⟨ZDf (by rw [←HE.out,hd.out,ZCZ (by simp;omega)]),Below.refl _ _⟩
   ·go_wp2
    go_ret
    exact ⟨ZDf (by rw [←HE.out,AE (by have:=HN.out;omega)];simp [szR,hl0]),Below.refl _ _⟩
 ·go_enter func95,ntmps95
  go_wp2
  go_ret
  exact ⟨ZDf (by rw [ZCZ (by have:=HN.out;simp [ZDs];omega)]),Below.refl _ _⟩
set_option maxHeartbeats 400000 in
set_option maxHeartbeats 800000 in
theorem ZFd (cs:List Value) (x:Zd) (L:List Nat) (left:Int) (w:World) (h0:0≤left) (h1:left≤1048576) (h:ZDc.rep w cs x L):
  Calls prog 38 #[.agg cs.toArray,.int .i64 left] w (ZEw (ZC2 x) left w):=by
 obtain ⟨A1,c1,L1,rfl,_hL,t0,n1,m1,s1⟩:=h
 unfold maxLen at m1
 have S1:=Lib.hid s1
 clear s1
 have B0:Hid (Below w.heap.size w (w.alloc (.cells #[.string x.rel,.slice A1 x.args.length c1] 66))):=(Below.refl _ _).alloc (A6 _) _
 have K0:Hid (Blk (w.alloc (.cells #[.string x.rel,.slice A1 x.args.length c1] 66)) w.heap.size 66 #[.string x.rel,.slice A1 x.args.length c1]):=Blk.new _ _ _
 go_enter func38,ntmps38
 by_cases k1:(x.rel.size:Int)≤left
 rotate_left
 ·go_wp2_with fail
  go_ret
  exact ⟨ZDf (by rw [ZCZ (by simp only[ZC2];omega)]),B0.out⟩
 go_wp2_with fail
 refine (ZEZ A1 _ c1 x.args L1 _ _ rfl (by omega) (by omega) (by omega) (S1.out.below B0.out)).mono ?_
 rintro e w1 ⟨rfl,hb1⟩
 have B1:=Lib.hid (B0.out.trans (hb1.mono B0.out.size))
 have K1:=Lib.hid (K0.out.later hb1)
 have f0:=K1.out.at (i:=0) rfl
 have f1:=K1.out.at (i:=1) rfl
 clear hb1
 by_cases k2:((ZDs x.args:Nat):Int)≤left - x.rel.size
 rotate_left
 ·rw [ZCZ k2]
  go_wp2_with fail
  go_ret
  exact ⟨ZDf (by rw [ZCZ (by simp only[ZC2];omega)]),B1.out⟩
 rw [ZDo k2]
 go_wp2_with fail
 go_ret
 exact ⟨ZDf (by rw [ZDo (by simp only[ZC2];omega)]<;>simp only[ZC2]<;>omega),B1.out⟩
set_option maxHeartbeats 800000 in
theorem ZHM (A:Option Addr) (n c:Nat) (ds:List Zd) (L:List Nat) (left:Int) (w:World) (hn:n=ds.length) (hm:n≤9223372036854775807) (h0:0≤left) (h1:left≤1048576) (h:Sli ZDc w A ds L):
  Calls prog 11 #[.slice A n c,.int .i64 left] w (ZEw (ZDa ds) left w):=by
 have H:=Lib.hid h
 have HN:=Lib.hid hn
 clear h hn
 by_cases hlen:(n:Int)≤left
 ·go_enter func11,ntmps11
  go_wp2
  go_loopw [1,5] (fun q i wr=>∃(k:Nat) (l:Int),k≤n∧i=.int .i64 k∧q=.int .i64 l∧0≤l∧l≤left∧Hid (Below w.heap.size w wr)∧Hid (szR ((ds.drop k).map ZC2).sum l=szR (ZDa ds) left)) (fun _ i _=>n - (intOf i).toNat)
  case atStart=>exact ⟨0,left - n,A4 _,rfl,rfl,by omega,by omega,Below.refl _ _,Lib.hid (by
    have e:=HN.out
    exact ZDV _ _ _ _ (by omega) (by simp only[ZDa,AY];omega))⟩
  case round=>
   obtain ⟨k,l,hk,rfl,rfl,hl0,hl1,HB,HE⟩:=hrel
   by_cases hlt:k<n
   ·have hkl:k<ds.length:=by have:=HN.out;omega
    obtain ⟨b,off,cs,Lk,rfl,hbL,hLk,hrep,hc⟩:=H.out.at_ hkl
    have hbl:b<w.heap.size:=H.out.lt b hbL
    have HR:=Lib.hid (ZDc.keep hrep (ZCW HB.out (fun y m=>H.out.lt y (hLk y m))))
    obtain ⟨A1,c1,rfl⟩:=ZDq hrep
    have q0:wr.cell? ⟨b,off+k * 2,none⟩=_:=(HB.out.cell (p:=⟨b,off+(k * 2+0),none⟩) hbl).trans (hc 0 _ rfl)
    have q1:wr.cell? ⟨b,off+k * 2+1,none⟩=_:=(HB.out.cell (p:=⟨b,off+(k * 2+1),none⟩) hbl).trans (hc 1 _ rfl)
    have hd:Hid (ds.drop k=ds[k]::ds.drop (k+1)):=A9 _
    generalize ds[k]=x at *
    clear hc hrep
    by_cases hs:(ZC2 x:Int)≤l
    ·go_wp2_with (go_at_call 38;refine (ZFd _ x Lk _ _ (by omega) (by omega) HR.out).mono ?_;rintro e w1 ⟨rfl,hb1⟩;rw [ZDo hs];have HB1:=Lib.hid (HB.out.trans (hb1.mono HB.out.size));clear hb1)
     go_roundw
     case rel=>exact ⟨k+1,l - ZC2 x,by omega,by go_num,rfl,by omega,by omega,HB1.out,Lib.hid (by rw [←HE.out,hd.out];exact ZDV _ _ _ _ (by omega) (by simp))⟩
     case measure=>simp [intOf];omega
    ·go_wp2_with (go_at_call 38;refine (ZFd _ x Lk _ _ (by omega) (by omega) HR.out).mono ?_;rintro e w1 ⟨rfl,hb1⟩;rw [ZCZ hs];have HB1:=Lib.hid (HB.out.trans (hb1.mono HB.out.size));clear hb1)
     go_ret
     exact ⟨ZDf (by rw [←HE.out,hd.out,ZCZ (by simp;omega)]),HB1.out⟩
   ·go_wp2
    go_ret
    exact ⟨ZDf (by rw [←HE.out,AE (by have:=HN.out;omega)];simp [szR,hl0]),HB.out⟩
 ·go_enter func11,ntmps11
  go_wp2
  go_ret
  exact ⟨ZDf (by rw [ZCZ (by have:=HN.out;simp only[ZDa];omega)]),Below.refl _ _⟩
set_option maxHeartbeats 800000 in
theorem ZEY (cs:List Value) (x:Zv) (L:List Nat) (left:Int) (w:World) (h0:0≤left) (h1:left≤1048576) (h:ZEp.rep w cs x L):
  Calls prog 131 #[.agg cs.toArray,.int .i64 left] w (ZEw (ZC1 x) left w):=by
 obtain ⟨A1,c1,L1,rfl,_hL,t0,n1,m1,s1⟩:=h
 unfold maxLen at m1
 have S1:=Lib.hid s1
 clear s1
 have B0:Hid (Below w.heap.size w (w.alloc (.cells #[.string x.rel,.slice A1 x.args.length c1] 111))):=(Below.refl _ _).alloc (A6 _) _
 have K0:Hid (Blk (w.alloc (.cells #[.string x.rel,.slice A1 x.args.length c1] 111)) w.heap.size 111 #[.string x.rel,.slice A1 x.args.length c1]):=Blk.new _ _ _
 go_enter func131,ntmps131
 by_cases k1:(x.rel.size:Int)≤left
 rotate_left
 ·go_wp2_with fail
  go_ret
  exact ⟨ZDf (by rw [ZCZ (by simp only[ZC1];omega)]),B0.out⟩
 go_wp2_with fail
 refine (ZEZ A1 _ c1 x.args L1 _ _ rfl (by omega) (by omega) (by omega) (S1.out.below B0.out)).mono ?_
 rintro e w1 ⟨rfl,hb1⟩
 have B1:=Lib.hid (B0.out.trans (hb1.mono B0.out.size))
 have K1:=Lib.hid (K0.out.later hb1)
 have f0:=K1.out.at (i:=0) rfl
 have f1:=K1.out.at (i:=1) rfl
 clear hb1
 by_cases k2:((ZDs x.args:Nat):Int)≤left - x.rel.size
 rotate_left
 ·rw [ZCZ k2]
  go_wp2_with fail
  go_ret
  exact ⟨ZDf (by rw [ZCZ (by simp only[ZC1];omega)]),B1.out⟩
 rw [ZDo k2]
 go_wp2_with fail
 go_ret
 exact ⟨ZDf (by rw [ZDo (by simp only[ZC1];omega)]<;>simp only[ZC1]<;>omega),B1.out⟩
set_option maxHeartbeats 800000 in
theorem ZF4 (cs:List Value) (x:Zr) (L:List Nat) (left:Int) (w:World) (h0:0≤left) (h1:left≤1048576) (h:ZDC.rep w cs x L):
  Calls prog 70 #[.agg cs.toArray,.int .i64 left] w (ZEw (ZDl x) left w):=by
 obtain ⟨A1,c1,L1,rfl,_hL,t0,t1,t2,n1,m1,s1⟩:=h
 unfold maxLen at m1
 have S1:=Lib.hid s1
 clear s1
 have B0:Hid (Below w.heap.size w (w.alloc (.cells #[.int .i64 x.kind,.string x.pattern.rel,.slice A1 x.pattern.args.length c1,.string x.left,.string x.right] 113))):=(Below.refl _ _).alloc (A6 _) _
 have K0:Hid (Blk (w.alloc (.cells #[.int .i64 x.kind,.string x.pattern.rel,.slice A1 x.pattern.args.length c1,.string x.left,.string x.right] 113)) w.heap.size 113 #[.int .i64 x.kind,.string x.pattern.rel,.slice A1 x.pattern.args.length c1,.string x.left,.string x.right]):=Blk.new _ _ _
 go_enter func70,ntmps70
 go_wp2_with fail
 refine (ZEY [.string x.pattern.rel,.slice A1 x.pattern.args.length c1] x.pattern _ _ _ (by omega) (by omega) ⟨A1,c1,L1,rfl,rfl,t0,n1,(by unfold maxLen;omega),S1.out.below B0.out⟩).mono ?_
 rintro e w1 ⟨rfl,hb1⟩
 have B1:=Lib.hid (B0.out.trans (hb1.mono B0.out.size))
 have K1:=Lib.hid (K0.out.later hb1)
 have f0:=K1.out.at (i:=0) rfl
 have f1:=K1.out.at (i:=1) rfl
 have f2:=K1.out.at (i:=2) rfl
 have f3:=K1.out.at (i:=3) rfl
 have f4:=K1.out.at (i:=4) rfl
 clear hb1
 by_cases k1:((ZC1 x.pattern:Nat):Int)≤left
 rotate_left
 ·rw [ZCZ k1]
  go_wp2_with fail
  go_ret
  exact ⟨ZDf (by rw [ZCZ (by simp only[ZDl];omega)]),B1.out⟩
 rw [ZDo k1]
 by_cases k2:(x.left.size:Int)≤left - (ZC1 x.pattern:Nat)
 rotate_left
 ·go_wp2_with fail
  go_ret
  exact ⟨ZDf (by rw [ZCZ (by simp only[ZDl];omega)]),B1.out⟩
 by_cases k3:(x.right.size:Int)≤left - (ZC1 x.pattern:Nat) - x.left.size
 rotate_left
 ·go_wp2_with fail
  go_ret
  exact ⟨ZDf (by rw [ZCZ (by simp only[ZDl];omega)]),B1.out⟩
 go_wp2_with fail
 go_ret
 exact ⟨ZDf (by rw [ZDo (by simp only[ZDl];omega)]<;>simp only[ZDl]<;>omega),B1.out⟩
set_option maxHeartbeats 800000 in
theorem ZHN (A:Option Addr) (n c:Nat) (ds:List Zr) (L:List Nat) (left:Int) (w:World) (hn:n=ds.length) (hm:n≤9223372036854775807) (h0:0≤left) (h1:left≤1048576) (h:Sli ZDC w A ds L):
  Calls prog 21 #[.slice A n c,.int .i64 left] w (ZEw (ZDh ds) left w):=by
 have H:=Lib.hid h
 have HN:=Lib.hid hn
 clear h hn
 by_cases hlen:(n:Int)≤left
 ·go_enter func21,ntmps21
  go_wp2
  go_loopw [1,5] (fun q i wr=>∃(k:Nat) (l:Int),k≤n∧i=.int .i64 k∧q=.int .i64 l∧0≤l∧l≤left∧Hid (Below w.heap.size w wr)∧Hid (szR ((ds.drop k).map ZDl).sum l=szR (ZDh ds) left)) (fun _ i _=>n - (intOf i).toNat)
  case atStart=>exact ⟨0,left - n,A4 _,rfl,rfl,by omega,by omega,Below.refl _ _,Lib.hid (by
    have e:=HN.out
    exact ZDV _ _ _ _ (by omega) (by simp only[ZDh,AY];omega))⟩
  case round=>
   obtain ⟨k,l,hk,rfl,rfl,hl0,hl1,HB,HE⟩:=hrel
   by_cases hlt:k<n
   ·have hkl:k<ds.length:=by have:=HN.out;omega
    obtain ⟨b,off,cs,Lk,rfl,hbL,hLk,hrep,hc⟩:=H.out.at_ hkl
    have hbl:b<w.heap.size:=H.out.lt b hbL
    have HR:=Lib.hid (ZDC.keep hrep (ZCW HB.out (fun y m=>H.out.lt y (hLk y m))))
    obtain ⟨A1,c1,rfl⟩:=ZEc hrep
    have q0:wr.cell? ⟨b,off+k * 5,none⟩=_:=(HB.out.cell (p:=⟨b,off+(k * 5+0),none⟩) hbl).trans (hc 0 _ rfl)
    have q1:wr.cell? ⟨b,off+k * 5+1,none⟩=_:=(HB.out.cell (p:=⟨b,off+(k * 5+1),none⟩) hbl).trans (hc 1 _ rfl)
    have q2:wr.cell? ⟨b,off+k * 5+2,none⟩=_:=(HB.out.cell (p:=⟨b,off+(k * 5+2),none⟩) hbl).trans (hc 2 _ rfl)
    have q3:wr.cell? ⟨b,off+k * 5+3,none⟩=_:=(HB.out.cell (p:=⟨b,off+(k * 5+3),none⟩) hbl).trans (hc 3 _ rfl)
    have q4:wr.cell? ⟨b,off+k * 5+4,none⟩=_:=(HB.out.cell (p:=⟨b,off+(k * 5+4),none⟩) hbl).trans (hc 4 _ rfl)
    have hd:Hid (ds.drop k=ds[k]::ds.drop (k+1)):=A9 _
    generalize ds[k]=x at *
    clear hc hrep
    by_cases hs:(ZDl x:Int)≤l
    ·go_wp2_with (go_at_call 70;refine (ZF4 _ x Lk _ _ (by omega) (by omega) HR.out).mono ?_;rintro e w1 ⟨rfl,hb1⟩;rw [ZDo hs];have HB1:=Lib.hid (HB.out.trans (hb1.mono HB.out.size));clear hb1)
     go_roundw
     case rel=>exact ⟨k+1,l - ZDl x,by omega,by go_num,rfl,by omega,by omega,HB1.out,Lib.hid (by rw [←HE.out,hd.out];exact ZDV _ _ _ _ (by omega) (by simp))⟩
     case measure=>simp [intOf];omega
    ·go_wp2_with (go_at_call 70;refine (ZF4 _ x Lk _ _ (by omega) (by omega) HR.out).mono ?_;rintro e w1 ⟨rfl,hb1⟩;rw [ZCZ hs];have HB1:=Lib.hid (HB.out.trans (hb1.mono HB.out.size));clear hb1)
     go_ret
     exact ⟨ZDf (by rw [←HE.out,hd.out,ZCZ (by simp;omega)]),HB1.out⟩
   ·go_wp2
    go_ret
    exact ⟨ZDf (by rw [←HE.out,AE (by have:=HN.out;omega)];simp [szR,hl0]),HB.out⟩
 ·go_enter func21,ntmps21
  go_wp2
  go_ret
  exact ⟨ZDf (by rw [ZCZ (by have:=HN.out;simp only[ZDh];omega)]),Below.refl _ _⟩
set_option maxHeartbeats 800000 in
theorem ZFt (cs:List Value) (x:Zx) (L:List Nat) (left:Int) (w:World) (h0:0≤left) (h1:left≤1048576) (h:ZC8.rep w cs x L):
  Calls prog 195 #[.agg cs.toArray,.int .i64 left] w (ZEw (ZC9 x) left w):=by
 obtain ⟨A1,c1,L1,rfl,_hL,t0,n1,m1,s1⟩:=h
 unfold maxLen at m1
 have S1:=Lib.hid s1
 clear s1
 have B0:Hid (Below w.heap.size w (w.alloc (.cells #[.int .i64 x.kind,.string x.pattern.rel,.slice A1 x.pattern.args.length c1] 221))):=(Below.refl _ _).alloc (A6 _) _
 have K0:Hid (Blk (w.alloc (.cells #[.int .i64 x.kind,.string x.pattern.rel,.slice A1 x.pattern.args.length c1] 221)) w.heap.size 221 #[.int .i64 x.kind,.string x.pattern.rel,.slice A1 x.pattern.args.length c1]):=Blk.new _ _ _
 go_enter func195,ntmps195
 go_wp2_with fail
 refine (ZEY [.string x.pattern.rel,.slice A1 x.pattern.args.length c1] x.pattern _ _ _ (by omega) (by omega) ⟨A1,c1,L1,rfl,rfl,t0,n1,(by unfold maxLen;omega),S1.out.below B0.out⟩).mono ?_
 rintro e w1 ⟨rfl,hb1⟩
 have B1:=Lib.hid (B0.out.trans (hb1.mono B0.out.size))
 have K1:=Lib.hid (K0.out.later hb1)
 have f0:=K1.out.at (i:=0) rfl
 have f1:=K1.out.at (i:=1) rfl
 have f2:=K1.out.at (i:=2) rfl
 clear hb1
 by_cases k1:((ZC1 x.pattern:Nat):Int)≤left
 rotate_left
 ·rw [ZCZ k1]
  go_wp2_with fail
  go_ret
  exact ⟨ZDf (by rw [ZCZ (by simp only[ZC9];omega)]),B1.out⟩
 rw [ZDo k1]
 go_wp2_with fail
 go_ret
 exact ⟨ZDf (by rw [ZDo (by simp only[ZC9];omega)]<;>simp only[ZC9]<;>omega),B1.out⟩
set_option maxHeartbeats 800000 in
theorem ZGm (A:Option Addr) (n c:Nat) (ds:List Zx) (L:List Nat) (left:Int) (w:World) (hn:n=ds.length) (hm:n≤9223372036854775807) (h0:0≤left) (h1:left≤1048576) (h:Sli ZC8 w A ds L):
  Calls prog 126 #[.slice A n c,.int .i64 left] w (ZEw (ZC7 ds) left w):=by
 have H:=Lib.hid h
 have HN:=Lib.hid hn
 clear h hn
 by_cases hlen:(n:Int)≤left
 ·go_enter func126,ntmps126
  go_wp2
  go_loopw [1,5] (fun q i wr=>∃(k:Nat) (l:Int),k≤n∧i=.int .i64 k∧q=.int .i64 l∧0≤l∧l≤left∧Hid (Below w.heap.size w wr)∧Hid (szR ((ds.drop k).map ZC9).sum l=szR (ZC7 ds) left)) (fun _ i _=>n - (intOf i).toNat)
  case atStart=>exact ⟨0,left - n,A4 _,rfl,rfl,by omega,by omega,Below.refl _ _,Lib.hid (by
    have e:=HN.out
    exact ZDV _ _ _ _ (by omega) (by simp only[ZC7,AY];omega))⟩
  case round=>
   obtain ⟨k,l,hk,rfl,rfl,hl0,hl1,HB,HE⟩:=hrel
   by_cases hlt:k<n
   ·have hkl:k<ds.length:=by have:=HN.out;omega
    obtain ⟨b,off,cs,Lk,rfl,hbL,hLk,hrep,hc⟩:=H.out.at_ hkl
    have hbl:b<w.heap.size:=H.out.lt b hbL
    have HR:=Lib.hid (ZC8.keep hrep (ZCW HB.out (fun y m=>H.out.lt y (hLk y m))))
    obtain ⟨A1,c1,rfl⟩:=ZDW hrep
    have q0:wr.cell? ⟨b,off+k * 3,none⟩=_:=(HB.out.cell (p:=⟨b,off+(k * 3+0),none⟩) hbl).trans (hc 0 _ rfl)
    have q1:wr.cell? ⟨b,off+k * 3+1,none⟩=_:=(HB.out.cell (p:=⟨b,off+(k * 3+1),none⟩) hbl).trans (hc 1 _ rfl)
    have q2:wr.cell? ⟨b,off+k * 3+2,none⟩=_:=(HB.out.cell (p:=⟨b,off+(k * 3+2),none⟩) hbl).trans (hc 2 _ rfl)
    have hd:Hid (ds.drop k=ds[k]::ds.drop (k+1)):=A9 _
    generalize ds[k]=x at *
    clear hc hrep
    by_cases hs:(ZC9 x:Int)≤l
    ·go_wp2_with (go_at_call 195;refine (ZFt _ x Lk _ _ (by omega) (by omega) HR.out).mono ?_;rintro e w1 ⟨rfl,hb1⟩;rw [ZDo hs];have HB1:=Lib.hid (HB.out.trans (hb1.mono HB.out.size));clear hb1)
     go_roundw
     case rel=>exact ⟨k+1,l - ZC9 x,by omega,by go_num,rfl,by omega,by omega,HB1.out,Lib.hid (by rw [←HE.out,hd.out];exact ZDV _ _ _ _ (by omega) (by simp))⟩
     case measure=>simp [intOf];omega
    ·go_wp2_with (go_at_call 195;refine (ZFt _ x Lk _ _ (by omega) (by omega) HR.out).mono ?_;rintro e w1 ⟨rfl,hb1⟩;rw [ZCZ hs];have HB1:=Lib.hid (HB.out.trans (hb1.mono HB.out.size));clear hb1)
     go_ret
     exact ⟨ZDf (by rw [←HE.out,hd.out,ZCZ (by simp;omega)]),HB1.out⟩
   ·go_wp2
    go_ret
    exact ⟨ZDf (by rw [←HE.out,AE (by have:=HN.out;omega)];simp [szR,hl0]),HB.out⟩
 ·go_enter func126,ntmps126
  go_wp2
  go_ret
  exact ⟨ZDf (by rw [ZCZ (by have:=HN.out;simp only[ZC7];omega)]),Below.refl _ _⟩
set_option maxHeartbeats 800000 in
theorem ZFY (cs:List Value) (x:Zf) (L:List Nat) (left:Int) (w:World) (h0:0≤left) (h1:left≤1048576) (h:ZDB.rep w cs x L):
  Calls prog 61 #[.agg cs.toArray,.int .i64 left] w (ZEw (ZDd x) left w):=by
 obtain ⟨A1,c1,L1,A2,c2,L2,rfl,_hL,t0,n1,m1,s1,n2,m2,s2⟩:=h
 unfold maxLen at m1 m2
 have S1:=Lib.hid s1
 clear s1
 have S2:=Lib.hid s2
 clear s2
 have B0:Hid (Below w.heap.size w (w.alloc (.cells #[.string x.name,.int .i64 x.priority,.slice A1 x.cond.length c1,.slice A2 x.thn.length c2] 100))):=(Below.refl _ _).alloc (A6 _) _
 have K0:Hid (Blk (w.alloc (.cells #[.string x.name,.int .i64 x.priority,.slice A1 x.cond.length c1,.slice A2 x.thn.length c2] 100)) w.heap.size 100 #[.string x.name,.int .i64 x.priority,.slice A1 x.cond.length c1,.slice A2 x.thn.length c2]):=Blk.new _ _ _
 go_enter func61,ntmps61
 by_cases k1:(x.name.size:Int)≤left
 rotate_left
 ·go_wp2_with fail
  go_ret
  exact ⟨ZDf (by rw [ZCZ (by simp only[ZDd];omega)]),B0.out⟩
 go_wp2_with fail
 refine (ZHN A1 _ c1 x.cond L1 _ _ rfl (by omega) (by omega) (by omega) (S1.out.below B0.out)).mono ?_
 rintro e w1 ⟨rfl,hb1⟩
 have B1:=Lib.hid (B0.out.trans (hb1.mono B0.out.size))
 have K1:=Lib.hid (K0.out.later hb1)
 have f0:=K1.out.at (i:=0) rfl
 have f1:=K1.out.at (i:=1) rfl
 have f2:=K1.out.at (i:=2) rfl
 have f3:=K1.out.at (i:=3) rfl
 clear hb1
 by_cases k2:((ZDh x.cond:Nat):Int)≤left - x.name.size
 rotate_left
 ·rw [ZCZ k2]
  go_wp2_with fail
  go_ret
  exact ⟨ZDf (by rw [ZCZ (by simp only[ZDd];omega)]),B1.out⟩
 rw [ZDo k2]
 go_wp2_with fail
 refine (ZGm A2 _ c2 x.thn L2 _ _ rfl (by omega) (by omega) (by omega) (S2.out.below B1.out)).mono ?_
 rintro e w2 ⟨rfl,hb2⟩
 have B2:=Lib.hid (B1.out.trans (hb2.mono B1.out.size))
 have K2:=Lib.hid (K1.out.later hb2)
 clear f0 f1 f2 f3
 have f0:=K2.out.at (i:=0) rfl
 have f1:=K2.out.at (i:=1) rfl
 have f2:=K2.out.at (i:=2) rfl
 have f3:=K2.out.at (i:=3) rfl
 clear hb2
 by_cases k3:((ZC7 x.thn:Nat):Int)≤left - x.name.size - (ZDh x.cond:Nat)
 rotate_left
 ·rw [ZCZ k3]
  go_wp2_with fail
  go_ret
  exact ⟨ZDf (by rw [ZCZ (by simp only[ZDd];omega)]),B2.out⟩
 rw [ZDo k3]
 go_wp2_with fail
 go_ret
 exact ⟨ZDf (by rw [ZDo (by simp only[ZDd];omega)]<;>simp only[ZDd]<;>omega),B2.out⟩
set_option maxHeartbeats 800000 in
theorem ZHn (A:Option Addr) (n c:Nat) (ds:List Zf) (L:List Nat) (left:Int) (w:World) (hn:n=ds.length) (hm:n≤9223372036854775807) (h0:0≤left) (h1:left≤1048576) (h:Sli ZDB w A ds L):
  Calls prog 10 #[.slice A n c,.int .i64 left] w (ZEw (ZC4 ds) left w):=by
 have H:=Lib.hid h
 have HN:=Lib.hid hn
 clear h hn
 by_cases hlen:(n:Int)≤left
 ·go_enter func10,ntmps10
  go_wp2
  go_loopw [1,5] (fun q i wr=>∃(k:Nat) (l:Int),k≤n∧i=.int .i64 k∧q=.int .i64 l∧0≤l∧l≤left∧Hid (Below w.heap.size w wr)∧Hid (szR ((ds.drop k).map ZDd).sum l=szR (ZC4 ds) left)) (fun _ i _=>n - (intOf i).toNat)
  case atStart=>exact ⟨0,left - n,A4 _,rfl,rfl,by omega,by omega,Below.refl _ _,Lib.hid (by
    have e:=HN.out
    exact ZDV _ _ _ _ (by omega) (by simp only[ZC4,AY];omega))⟩
  case round=>
   obtain ⟨k,l,hk,rfl,rfl,hl0,hl1,HB,HE⟩:=hrel
   by_cases hlt:k<n
   ·have hkl:k<ds.length:=by have:=HN.out;omega
    obtain ⟨b,off,cs,Lk,rfl,hbL,hLk,hrep,hc⟩:=H.out.at_ hkl
    have hbl:b<w.heap.size:=H.out.lt b hbL
    have HR:=Lib.hid (ZDB.keep hrep (ZCW HB.out (fun y m=>H.out.lt y (hLk y m))))
    obtain ⟨A1,c1,A2,c2,rfl⟩:=ZD9 hrep
    have q0:wr.cell? ⟨b,off+k * 4,none⟩=_:=(HB.out.cell (p:=⟨b,off+(k * 4+0),none⟩) hbl).trans (hc 0 _ rfl)
    have q1:wr.cell? ⟨b,off+k * 4+1,none⟩=_:=(HB.out.cell (p:=⟨b,off+(k * 4+1),none⟩) hbl).trans (hc 1 _ rfl)
    have q2:wr.cell? ⟨b,off+k * 4+2,none⟩=_:=(HB.out.cell (p:=⟨b,off+(k * 4+2),none⟩) hbl).trans (hc 2 _ rfl)
    have q3:wr.cell? ⟨b,off+k * 4+3,none⟩=_:=(HB.out.cell (p:=⟨b,off+(k * 4+3),none⟩) hbl).trans (hc 3 _ rfl)
    have hd:Hid (ds.drop k=ds[k]::ds.drop (k+1)):=A9 _
    generalize ds[k]=x at *
    clear hc hrep
    by_cases hs:(ZDd x:Int)≤l
    ·go_wp2_with (go_at_call 61;refine (ZFY _ x Lk _ _ (by omega) (by omega) HR.out).mono ?_;rintro e w1 ⟨rfl,hb1⟩;rw [ZDo hs];have HB1:=Lib.hid (HB.out.trans (hb1.mono HB.out.size));clear hb1)
     go_roundw
     case rel=>exact ⟨k+1,l - ZDd x,by omega,by go_num,rfl,by omega,by omega,HB1.out,Lib.hid (by rw [←HE.out,hd.out];exact ZDV _ _ _ _ (by omega) (by simp))⟩
     case measure=>simp [intOf];omega
    ·go_wp2_with (go_at_call 61;refine (ZFY _ x Lk _ _ (by omega) (by omega) HR.out).mono ?_;rintro e w1 ⟨rfl,hb1⟩;rw [ZCZ hs];have HB1:=Lib.hid (HB.out.trans (hb1.mono HB.out.size));clear hb1)
     go_ret
     exact ⟨ZDf (by rw [←HE.out,hd.out,ZCZ (by simp;omega)]),HB1.out⟩
   ·go_wp2
    go_ret
    exact ⟨ZDf (by rw [←HE.out,AE (by have:=HN.out;omega)];simp [szR,hl0]),HB.out⟩
 ·go_enter func10,ntmps10
  go_wp2
  go_ret
  exact ⟨ZDf (by rw [ZCZ (by have:=HN.out;simp only[ZC4];omega)]),Below.refl _ _⟩
end
section
open Go.RowKit
theorem infoString_:(prog.info? 9).map (fun i=>(i.zero,i.size,i.bytes))=some (some (.string ⟨#[]⟩),1,16):=by kernel_rfl
set_option maxHeartbeats 1600000 in
theorem ZEX (A:Option Addr) (n c:Nat) (ds:List ByteArray) (L:List Nat) (w:World) (hn:n=ds.length) (hm:ds.length≤1099511627776) (h:Sli ZCD w A ds L):
  Calls prog 100 #[.slice A n c] w (ZEC ZCD 9 w ds):=by
 obtain ⟨i0,hi,hz0,hz1,hz2⟩:=info_parts infoString_
 rw [←hn] at hm
 have H:=Lib.hid h
 have HN:=Lib.hid hn
 clear h hn
 go_enter func100,ntmps100
 go_wp2_with (at_make;refine wpList_make_full _ rfl _ _ 56 rfl w.heap.size 9 i0 _ 1 underlying56 hi hz0 hz1 .i64 .i64 _ _ n rfl rfl rfl rfl (by rw [hz2];omega) (by unfold maxLen;omega) (A6 _) ?_;intro w1 hown hg)
 have hb:Below w.heap.size w w1:=(Below.refl _ _).grown hg (A6 _) (by simp)
 have HF0:Hid (ZC3 ZCD 9 w n ds 0 w1):=ZC3.start hown hb
 clear hown hg hb
 go_wp2
 go_loopw [4] (fun i wr=>∃(k:Nat),k≤n∧i=.int .i64 k∧Hid (ZC3 ZCD 9 w n ds k wr)) (fun i _=>n - (intOf i).toNat)
 case atStart=>exact ⟨0,A4 _,rfl,HF0⟩
 case round=>
  obtain ⟨k,hk,rfl,HF⟩:=hrel
  by_cases hlt:k<n
  ·have hkl:k<ds.length:=by have:=HN.out;omega
   obtain ⟨b,off,cs,Lk,rfl,hbL,hLk,hrep,hc⟩:=H.out.at_ hkl
   have hbl:b<w.heap.size:=H.out.lt b hbL
   have hrep0:=hrep
   obtain ⟨rfl,_,hss⟩:=hrep0
   have q0:=(HF.out.below.cell (p:=⟨b,off+(k * ZCD.size+0),none⟩) hbl).trans (hc 0 _ rfl)
   have HS:=Lib.hid (HF.out.store (w2:=wr) (x:=ds[k]) (M:=[]) hlt HN.out (fun _=>rfl) (Below.refl _ _) ⟨⟨rfl,rfl,hss⟩,Own.nil _ _⟩)
   obtain ⟨d0,e0⟩:=HF.out.cell hlt (j:=0) (by decide)
   have z0:=HF.out.frozen k
   simp only[show ZCD.size=1 from rfl,AR,A5] at q0 HS e0
   generalize ds[k]=x at *
   clear hc hrep
   go_wp2_with fail
   go_roundw
   case rel=>exact ⟨k+1,by omega,by go_num,HS.out⟩
   case measure=>simp [intOf];omega
  ·obtain rfl:k=n:=by omega
   go_wp2
   go_ret
   exact ⟨_,rfl,HF.out.done HN.out⟩
set_option maxHeartbeats 1600000 in
theorem ZEl (cs:List Value) (x:Zd) (L:List Nat) (w:World) (hz:ZC2 x≤1048576) (h:ZDc.rep w cs x L):
  Calls prog 40 #[.agg cs.toArray] w (ZGB ZDc w x):=by
 obtain ⟨A1,c1,L1,rfl,_hL,t0,n1,m1,s1⟩:=h
 unfold maxLen at m1
 have S1:=Lib.hid s1
 clear s1
 simp only[ZC2] at hz
 go_enter func40,ntmps40
 go_wp2_with fail
 refine (ZEX A1 _ c1 x.args L1 _ rfl (by simp only[ZDs] at hz;omega) (S1.out.below (by repeat (first | refine Below.setCell ?_ (by dsimp only;omega) _ | refine Below.alloc ?_ (by first | (simp;done) | (simp;omega) | omega) _ | exact Below.refl _ _)))).mono ?_
 rintro e w1 ⟨v1,rfl,a1⟩
 obtain ⟨vA1,vc1,rfl⟩:=a1.shape
 have hb1:=a1.below
 obtain ⟨M1,g1⟩:=a1.got
 clear a1
 have G1:=Lib.hid (g1.mono (show w.heap.size+3≤_ by simp))
 have lt1:=Lib.hid g1.lt
 clear g1
 have B1:Hid (Below w.heap.size w w1):=Below.trans (by repeat (first | refine Below.setCell ?_ (by dsimp only;omega) _ | refine Below.alloc ?_ (by first | (simp;done) | (simp;omega) | omega) _ | exact Below.refl _ _)) (hb1.mono (by first | (simp;done) | (simp;omega) | omega))
 have K0:Hid (Blk w1 w.heap.size 66 #[.string x.rel,.slice A1 x.args.length c1]):=Blk.later (Blk.alloc (Blk.alloc (Blk.new _ _ _) _) _) hb1
 have K1:Hid (Blk w1 (w.heap.size+1) 71 #[.string ⟨#[]⟩,.slice none 0 0]):=Blk.later (Blk.alloc (Blk.new_at (by simp)) _) hb1
 have K2:Hid (Blk w1 (w.heap.size+1+1) 71 #[.string x.rel,.slice none 0 0]):=Blk.later (Blk.new_at (by simp)) hb1
 have f0:=K0.out.at (i:=0) rfl
 have r0:=K1.out.at (i:=0) rfl
 have o0:=K2.out.at (i:=0) rfl
 have rz0:=K1.out.frozen 0
 have oz0:=K2.out.frozen 0
 have f1:=K0.out.at (i:=1) rfl
 have r1:=K1.out.at (i:=1) rfl
 have o1:=K2.out.at (i:=1) rfl
 have rz1:=K1.out.frozen 1
 have oz1:=K2.out.frozen 1
 have hz1:w.heap.size+2<w1.heap.size:=by have:=hb1.size;simp at this;omega
 clear hb1
 go_wp2_with fail
 refine bodyPost_ret (v:=.agg #[.string x.rel,.slice vA1 x.args.length vc1]) (by simp [results,results40,go_sem,r0,r1]) rfl ?_
 obtain ⟨nn1,mm1,ss1⟩:=ZCX G1.out.rep
 exact ZEP (wr:=w1) (M1) ⟨⟨vA1,vc1,M1,rfl,rfl,t0,nn1,mm1,ss1⟩,by have o:=G1.out.own;simpa only [AS] using o⟩ (by intro b hb;repeat rw [Below.heap_setCell _ _ _ _ (by dsimp only;omega)]) (by repeat (first | refine Below.setCell ?_ (by dsimp only;omega) _ | refine Below.alloc ?_ (by first | (simp;done) | (simp;omega) | omega) _ | exact B1.out))
theorem infoFact:(prog.info? 71).map (fun i=>(i.zero,i.size,i.bytes))=some (some (.agg #[.string ⟨#[]⟩,.slice none 0 0]),2,40):=by kernel_rfl
set_option maxHeartbeats 1600000 in
theorem ZEu (A:Option Addr) (n c:Nat) (ds:List Zd) (L:List Nat) (w:World) (hn:n=ds.length) (hz:ZDa ds≤1048576) (h:Sli ZDc w A ds L):
  Calls prog 14 #[.slice A n c] w (ZEC ZDc 71 w ds):=by
 obtain ⟨i0,hi,hz0,hz1,hz2⟩:=info_parts infoFact
 have H:=Lib.hid h
 have HN:=Lib.hid hn
 have hm:n≤1048576:=by simp only[ZDa] at hz;omega
 have HZ:=Lib.hid hz
 clear h hn hz
 go_enter func14,ntmps14
 go_wp2_with (at_make;refine wpList_make_full _ rfl _ _ 26 rfl w.heap.size 71 i0 _ 2 underlying26 hi hz0 hz1 .i64 .i64 _ _ n rfl rfl rfl rfl (by rw [hz2];omega) (by unfold maxLen;omega) (A6 _) ?_;intro w1 hown hg)
 have hb:Below w.heap.size w w1:=(Below.refl _ _).grown hg (A6 _) (by simp)
 have HF0:Hid (ZC3 ZDc 71 w n ds 0 w1):=ZC3.start hown hb
 clear hown hg hb
 go_wp2
 go_loopw [4] (fun i wr=>∃(k:Nat),k≤n∧i=.int .i64 k∧Hid (ZC3 ZDc 71 w n ds k wr)) (fun i _=>n - (intOf i).toNat)
 case atStart=>exact ⟨0,A4 _,rfl,HF0⟩
 case round=>
  obtain ⟨k,hk,rfl,HF⟩:=hrel
  by_cases hlt:k<n
  ·have hkl:k<ds.length:=by have:=HN.out;omega
   obtain ⟨b,off,cs,Lk,rfl,hbL,hLk,hrep,hc⟩:=H.out.at_ hkl
   have hbl:b<w.heap.size:=H.out.lt b hbL
   have HR:=Lib.hid (ZDc.keep hrep (ZCW HF.out.below (fun y m=>H.out.lt y (hLk y m))))
   obtain ⟨A1,c1,rfl⟩:=ZDq hrep
   have q0:wr.cell? ⟨b,off+k * 2,none⟩=_:=(HF.out.below.cell (p:=⟨b,off+(k * 2+0),none⟩) hbl).trans (hc 0 _ rfl)
   have q1:wr.cell? ⟨b,off+k * 2+1,none⟩=_:=(HF.out.below.cell (p:=⟨b,off+(k * 2+1),none⟩) hbl).trans (hc 1 _ rfl)
   have hcx:Hid (ZC2 ds[k]≤1048576):=ZFV ZC2 ds k hkl (by have:=HZ.out;simp only[ZDa] at this;omega)
   obtain ⟨x,hx⟩:∃x,x=ds[k]:=⟨_,rfl⟩
   have HX:=Lib.hid hx
   rw [←hx] at HR q0 q1 hcx
   clear hc hrep hx
   go_wp2_with fail
   refine (ZEl _ x Lk _ hcx.out HR.out).mono ?_
   rintro e w2 ⟨cs2,M2,rfl,g2,hb2⟩
   have HF2:=Lib.hid (HF.out.later hb2)
   have HS:=Lib.hid (HF.out.store hlt HN.out (fun _=>HX.out) hb2 g2)
   obtain ⟨vA1,vc1,rfl⟩:=ZDq g2.rep
   clear g2 hb2
   obtain ⟨d0,e0⟩:∃d,w2.cell? ⟨w.heap.size,k * 2,none⟩=some d:=HF2.out.cell hlt (j:=0) (by decide)
   have z0:=HF2.out.frozen (k * 2)
   obtain ⟨d1,e1⟩:∃d,w2.cell? ⟨w.heap.size,k * 2+1,none⟩=some d:=HF2.out.cell hlt (j:=1) (by decide)
   have z1:=HF2.out.frozen (k * 2+1)
   go_wp2_with fail
   go_roundw
   case rel=>exact ⟨k+1,by omega,by go_num,HS.out⟩
   case measure=>simp [intOf];omega
  ·obtain rfl:k=n:=by omega
   go_wp2
   go_ret
   exact ⟨_,rfl,HF.out.done HN.out⟩
set_option maxHeartbeats 1600000 in
theorem ZE5 (cs:List Value) (x:Zv) (L:List Nat) (w:World) (hz:ZC1 x≤1048576) (h:ZEp.rep w cs x L):
  Calls prog 134 #[.agg cs.toArray] w (ZGB ZEp w x):=by
 obtain ⟨A1,c1,L1,rfl,_hL,t0,n1,m1,s1⟩:=h
 unfold maxLen at m1
 have S1:=Lib.hid s1
 clear s1
 simp only[ZC1] at hz
 go_enter func134,ntmps134
 go_wp2_with fail
 refine (ZEX A1 _ c1 x.args L1 _ rfl (by simp only[ZDs] at hz;omega) (S1.out.below (by repeat (first | refine Below.setCell ?_ (by dsimp only;omega) _ | refine Below.alloc ?_ (by first | (simp;done) | (simp;omega) | omega) _ | exact Below.refl _ _)))).mono ?_
 rintro e w1 ⟨v1,rfl,a1⟩
 obtain ⟨vA1,vc1,rfl⟩:=a1.shape
 have hb1:=a1.below
 obtain ⟨M1,g1⟩:=a1.got
 clear a1
 have G1:=Lib.hid (g1.mono (show w.heap.size+3≤_ by simp))
 have lt1:=Lib.hid g1.lt
 clear g1
 have B1:Hid (Below w.heap.size w w1):=Below.trans (by repeat (first | refine Below.setCell ?_ (by dsimp only;omega) _ | refine Below.alloc ?_ (by first | (simp;done) | (simp;omega) | omega) _ | exact Below.refl _ _)) (hb1.mono (by first | (simp;done) | (simp;omega) | omega))
 have K0:Hid (Blk w1 w.heap.size 111 #[.string x.rel,.slice A1 x.args.length c1]):=Blk.later (Blk.alloc (Blk.alloc (Blk.new _ _ _) _) _) hb1
 have K1:Hid (Blk w1 (w.heap.size+1) 58 #[.string ⟨#[]⟩,.slice none 0 0]):=Blk.later (Blk.alloc (Blk.new_at (by simp)) _) hb1
 have K2:Hid (Blk w1 (w.heap.size+1+1) 58 #[.string x.rel,.slice none 0 0]):=Blk.later (Blk.new_at (by simp)) hb1
 have f0:=K0.out.at (i:=0) rfl
 have r0:=K1.out.at (i:=0) rfl
 have o0:=K2.out.at (i:=0) rfl
 have rz0:=K1.out.frozen 0
 have oz0:=K2.out.frozen 0
 have f1:=K0.out.at (i:=1) rfl
 have r1:=K1.out.at (i:=1) rfl
 have o1:=K2.out.at (i:=1) rfl
 have rz1:=K1.out.frozen 1
 have oz1:=K2.out.frozen 1
 have hz1:w.heap.size+2<w1.heap.size:=by have:=hb1.size;simp at this;omega
 clear hb1
 go_wp2_with fail
 refine bodyPost_ret (v:=.agg #[.string x.rel,.slice vA1 x.args.length vc1]) (by simp [results,results134,go_sem,r0,r1]) rfl ?_
 obtain ⟨nn1,mm1,ss1⟩:=ZCX G1.out.rep
 exact ZEP (wr:=w1) (M1) ⟨⟨vA1,vc1,M1,rfl,rfl,t0,nn1,mm1,ss1⟩,by have o:=G1.out.own;simpa only [AS] using o⟩ (by intro b hb;repeat rw [Below.heap_setCell _ _ _ _ (by dsimp only;omega)]) (by repeat (first | refine Below.setCell ?_ (by dsimp only;omega) _ | refine Below.alloc ?_ (by first | (simp;done) | (simp;omega) | omega) _ | exact B1.out))
set_option maxHeartbeats 1600000 in
theorem ZHU (cs:List Value) (x:Zr) (L:List Nat) (w:World) (hz:ZDl x≤1048576) (h:ZDC.rep w cs x L):
  Calls prog 75 #[.agg cs.toArray] w (ZGB ZDC w x):=by
 obtain ⟨A1,c1,L1,rfl,_hL,t0,t1,t2,n1,m1,s1⟩:=h
 unfold maxLen at m1
 have S1:=Lib.hid s1
 clear s1
 simp only[ZDl] at hz
 go_enter func75,ntmps75
 go_wp2_with fail
 refine (ZE5 [.string x.pattern.rel,.slice A1 x.pattern.args.length c1] x.pattern _ _ (by omega) ⟨A1,c1,L1,rfl,rfl,t0,n1,(by unfold maxLen;omega),S1.out.below (by repeat (first | refine Below.setCell ?_ (by dsimp only;omega) _ | refine Below.alloc ?_ (by first | (simp;done) | (simp;omega) | omega) _ | exact Below.refl _ _))⟩).mono ?_
 rintro e w1 ⟨cs1,M1,rfl,g1,hb1⟩
 obtain ⟨vA1,vc1,rfl⟩:=ZEL g1.rep
 have G1:=Lib.hid (g1.mono (show w.heap.size+3≤_ by simp))
 have lt1:=Lib.hid g1.lt
 clear g1
 have B1:Hid (Below w.heap.size w w1):=Below.trans (by repeat (first | refine Below.setCell ?_ (by dsimp only;omega) _ | refine Below.alloc ?_ (by first | (simp;done) | (simp;omega) | omega) _ | exact Below.refl _ _)) (hb1.mono (by first | (simp;done) | (simp;omega) | omega))
 have K0:Hid (Blk w1 w.heap.size 113 #[.int .i64 x.kind,.string x.pattern.rel,.slice A1 x.pattern.args.length c1,.string x.left,.string x.right]):=Blk.later (Blk.alloc (Blk.alloc (Blk.new _ _ _) _) _) hb1
 have K1:Hid (Blk w1 (w.heap.size+1) 60 #[.int .i64 0,.string ⟨#[]⟩,.slice none 0 0,.string ⟨#[]⟩,.string ⟨#[]⟩]):=Blk.later (Blk.alloc (Blk.new_at (by simp)) _) hb1
 have K2:Hid (Blk w1 (w.heap.size+1+1) 60 #[.int .i64 x.kind,.string ⟨#[]⟩,.slice none 0 0,.string ⟨#[]⟩,.string ⟨#[]⟩]):=Blk.later (Blk.new_at (by simp)) hb1
 have f0:=K0.out.at (i:=0) rfl
 have r0:=K1.out.at (i:=0) rfl
 have o0:=K2.out.at (i:=0) rfl
 have rz0:=K1.out.frozen 0
 have oz0:=K2.out.frozen 0
 have f1:=K0.out.at (i:=1) rfl
 have r1:=K1.out.at (i:=1) rfl
 have o1:=K2.out.at (i:=1) rfl
 have rz1:=K1.out.frozen 1
 have oz1:=K2.out.frozen 1
 have f2:=K0.out.at (i:=2) rfl
 have r2:=K1.out.at (i:=2) rfl
 have o2:=K2.out.at (i:=2) rfl
 have rz2:=K1.out.frozen 2
 have oz2:=K2.out.frozen 2
 have f3:=K0.out.at (i:=3) rfl
 have r3:=K1.out.at (i:=3) rfl
 have o3:=K2.out.at (i:=3) rfl
 have rz3:=K1.out.frozen 3
 have oz3:=K2.out.frozen 3
 have f4:=K0.out.at (i:=4) rfl
 have r4:=K1.out.at (i:=4) rfl
 have o4:=K2.out.at (i:=4) rfl
 have rz4:=K1.out.frozen 4
 have oz4:=K2.out.frozen 4
 have hz1:w.heap.size+2<w1.heap.size:=by have:=hb1.size;simp at this;omega
 clear hb1
 go_wp2_with fail
 refine bodyPost_ret (v:=.agg #[.int .i64 x.kind,.string x.pattern.rel,.slice vA1 x.pattern.args.length vc1,.string x.left,.string x.right]) (by simp [results,results75,go_sem,r0,r1,r2,r3,r4]) rfl ?_
 obtain ⟨_,_,N1,hcs1,hL1,_,nn1,mm1,ss1⟩:=G1.out.rep
 cases hcs1
 subst hL1
 exact ZEP (wr:=w1) (M1) ⟨⟨vA1,vc1,M1,rfl,rfl,t0,t1,t2,nn1,mm1,ss1⟩,by have o:=G1.out.own;simpa only [AS] using o⟩ (by intro b hb;repeat rw [Below.heap_setCell _ _ _ _ (by dsimp only;omega)]) (by repeat (first | refine Below.setCell ?_ (by dsimp only;omega) _ | refine Below.alloc ?_ (by first | (simp;done) | (simp;omega) | omega) _ | exact B1.out))
theorem infoCond:(prog.info? 60).map (fun i=>(i.zero,i.size,i.bytes))=some (some (.agg #[.int .i64 0,.string ⟨#[]⟩,.slice none 0 0,.string ⟨#[]⟩,.string ⟨#[]⟩]),5,80):=by kernel_rfl
set_option maxHeartbeats 1600000 in
theorem ZHC (A:Option Addr) (n c:Nat) (ds:List Zr) (L:List Nat) (w:World) (hn:n=ds.length) (hz:ZDh ds≤1048576) (h:Sli ZDC w A ds L):
  Calls prog 23 #[.slice A n c] w (ZEC ZDC 60 w ds):=by
 obtain ⟨i0,hi,hz0,hz1,hz2⟩:=info_parts infoCond
 have H:=Lib.hid h
 have HN:=Lib.hid hn
 have hm:n≤1048576:=by simp only[ZDh] at hz;omega
 have HZ:=Lib.hid hz
 clear h hn hz
 go_enter func23,ntmps23
 go_wp2_with (at_make;refine wpList_make_full _ rfl _ _ 41 rfl w.heap.size 60 i0 _ 5 underlying41 hi hz0 hz1 .i64 .i64 _ _ n rfl rfl rfl rfl (by rw [hz2];omega) (by unfold maxLen;omega) (A6 _) ?_;intro w1 hown hg)
 have hb:Below w.heap.size w w1:=(Below.refl _ _).grown hg (A6 _) (by simp)
 have HF0:Hid (ZC3 ZDC 60 w n ds 0 w1):=ZC3.start hown hb
 clear hown hg hb
 go_wp2
 go_loopw [4] (fun i wr=>∃(k:Nat),k≤n∧i=.int .i64 k∧Hid (ZC3 ZDC 60 w n ds k wr)) (fun i _=>n - (intOf i).toNat)
 case atStart=>exact ⟨0,A4 _,rfl,HF0⟩
 case round=>
  obtain ⟨k,hk,rfl,HF⟩:=hrel
  by_cases hlt:k<n
  ·have hkl:k<ds.length:=by have:=HN.out;omega
   obtain ⟨b,off,cs,Lk,rfl,hbL,hLk,hrep,hc⟩:=H.out.at_ hkl
   have hbl:b<w.heap.size:=H.out.lt b hbL
   have HR:=Lib.hid (ZDC.keep hrep (ZCW HF.out.below (fun y m=>H.out.lt y (hLk y m))))
   obtain ⟨A1,c1,rfl⟩:=ZEc hrep
   have q0:wr.cell? ⟨b,off+k * 5,none⟩=_:=(HF.out.below.cell (p:=⟨b,off+(k * 5+0),none⟩) hbl).trans (hc 0 _ rfl)
   have q1:wr.cell? ⟨b,off+k * 5+1,none⟩=_:=(HF.out.below.cell (p:=⟨b,off+(k * 5+1),none⟩) hbl).trans (hc 1 _ rfl)
   have q2:wr.cell? ⟨b,off+k * 5+2,none⟩=_:=(HF.out.below.cell (p:=⟨b,off+(k * 5+2),none⟩) hbl).trans (hc 2 _ rfl)
   have q3:wr.cell? ⟨b,off+k * 5+3,none⟩=_:=(HF.out.below.cell (p:=⟨b,off+(k * 5+3),none⟩) hbl).trans (hc 3 _ rfl)
   have q4:wr.cell? ⟨b,off+k * 5+4,none⟩=_:=(HF.out.below.cell (p:=⟨b,off+(k * 5+4),none⟩) hbl).trans (hc 4 _ rfl)
   have hcx:Hid (ZDl ds[k]≤1048576):=ZFV ZDl ds k hkl (by have:=HZ.out;simp only[ZDh] at this;omega)
   obtain ⟨x,hx⟩:∃x,x=ds[k]:=⟨_,rfl⟩
   have HX:=Lib.hid hx
   rw [←hx] at HR q0 q1 q2 q3 q4 hcx
   clear hc hrep hx
   go_wp2_with fail
   refine (ZHU _ x Lk _ hcx.out HR.out).mono ?_
   rintro e w2 ⟨cs2,M2,rfl,g2,hb2⟩
   have HF2:=Lib.hid (HF.out.later hb2)
   have HS:=Lib.hid (HF.out.store hlt HN.out (fun _=>HX.out) hb2 g2)
   obtain ⟨vA1,vc1,rfl⟩:=ZEc g2.rep
   clear g2 hb2
   obtain ⟨d0,e0⟩:∃d,w2.cell? ⟨w.heap.size,k * 5,none⟩=some d:=HF2.out.cell hlt (j:=0) (by decide)
   have z0:=HF2.out.frozen (k * 5)
   obtain ⟨d1,e1⟩:∃d,w2.cell? ⟨w.heap.size,k * 5+1,none⟩=some d:=HF2.out.cell hlt (j:=1) (by decide)
   have z1:=HF2.out.frozen (k * 5+1)
   obtain ⟨d2,e2⟩:∃d,w2.cell? ⟨w.heap.size,k * 5+2,none⟩=some d:=HF2.out.cell hlt (j:=2) (by decide)
   have z2:=HF2.out.frozen (k * 5+2)
   obtain ⟨d3,e3⟩:∃d,w2.cell? ⟨w.heap.size,k * 5+3,none⟩=some d:=HF2.out.cell hlt (j:=3) (by decide)
   have z3:=HF2.out.frozen (k * 5+3)
   obtain ⟨d4,e4⟩:∃d,w2.cell? ⟨w.heap.size,k * 5+4,none⟩=some d:=HF2.out.cell hlt (j:=4) (by decide)
   have z4:=HF2.out.frozen (k * 5+4)
   go_wp2_with fail
   go_roundw
   case rel=>exact ⟨k+1,by omega,by go_num,HS.out⟩
   case measure=>simp [intOf];omega
  ·obtain rfl:k=n:=by omega
   go_wp2
   go_ret
   exact ⟨_,rfl,HF.out.done HN.out⟩
set_option maxHeartbeats 1600000 in
theorem ZGY (cs:List Value) (x:Zx) (L:List Nat) (w:World) (hz:ZC9 x≤1048576) (h:ZC8.rep w cs x L):
  Calls prog 197 #[.agg cs.toArray] w (ZGB ZC8 w x):=by
 obtain ⟨A1,c1,L1,rfl,_hL,t0,n1,m1,s1⟩:=h
 unfold maxLen at m1
 have S1:=Lib.hid s1
 clear s1
 simp only[ZC9] at hz
 go_enter func197,ntmps197
 go_wp2_with fail
 refine (ZE5 [.string x.pattern.rel,.slice A1 x.pattern.args.length c1] x.pattern _ _ (by omega) ⟨A1,c1,L1,rfl,rfl,t0,n1,(by unfold maxLen;omega),S1.out.below (by repeat (first | refine Below.setCell ?_ (by dsimp only;omega) _ | refine Below.alloc ?_ (by first | (simp;done) | (simp;omega) | omega) _ | exact Below.refl _ _))⟩).mono ?_
 rintro e w1 ⟨cs1,M1,rfl,g1,hb1⟩
 obtain ⟨vA1,vc1,rfl⟩:=ZEL g1.rep
 have G1:=Lib.hid (g1.mono (show w.heap.size+3≤_ by simp))
 have lt1:=Lib.hid g1.lt
 clear g1
 have B1:Hid (Below w.heap.size w w1):=Below.trans (by repeat (first | refine Below.setCell ?_ (by dsimp only;omega) _ | refine Below.alloc ?_ (by first | (simp;done) | (simp;omega) | omega) _ | exact Below.refl _ _)) (hb1.mono (by first | (simp;done) | (simp;omega) | omega))
 have K0:Hid (Blk w1 w.heap.size 221 #[.int .i64 x.kind,.string x.pattern.rel,.slice A1 x.pattern.args.length c1]):=Blk.later (Blk.alloc (Blk.alloc (Blk.new _ _ _) _) _) hb1
 have K1:Hid (Blk w1 (w.heap.size+1) 166 #[.int .i64 0,.string ⟨#[]⟩,.slice none 0 0]):=Blk.later (Blk.alloc (Blk.new_at (by simp)) _) hb1
 have K2:Hid (Blk w1 (w.heap.size+1+1) 166 #[.int .i64 x.kind,.string ⟨#[]⟩,.slice none 0 0]):=Blk.later (Blk.new_at (by simp)) hb1
 have f0:=K0.out.at (i:=0) rfl
 have r0:=K1.out.at (i:=0) rfl
 have o0:=K2.out.at (i:=0) rfl
 have rz0:=K1.out.frozen 0
 have oz0:=K2.out.frozen 0
 have f1:=K0.out.at (i:=1) rfl
 have r1:=K1.out.at (i:=1) rfl
 have o1:=K2.out.at (i:=1) rfl
 have rz1:=K1.out.frozen 1
 have oz1:=K2.out.frozen 1
 have f2:=K0.out.at (i:=2) rfl
 have r2:=K1.out.at (i:=2) rfl
 have o2:=K2.out.at (i:=2) rfl
 have rz2:=K1.out.frozen 2
 have oz2:=K2.out.frozen 2
 have hz1:w.heap.size+2<w1.heap.size:=by have:=hb1.size;simp at this;omega
 clear hb1
 go_wp2_with fail
 refine bodyPost_ret (v:=.agg #[.int .i64 x.kind,.string x.pattern.rel,.slice vA1 x.pattern.args.length vc1]) (by simp [results,results197,go_sem,r0,r1,r2]) rfl ?_
 obtain ⟨_,_,N1,hcs1,hL1,_,nn1,mm1,ss1⟩:=G1.out.rep
 cases hcs1
 subst hL1
 exact ZEP (wr:=w1) (M1) ⟨⟨vA1,vc1,M1,rfl,rfl,t0,nn1,mm1,ss1⟩,by have o:=G1.out.own;simpa only [AS] using o⟩ (by intro b hb;repeat rw [Below.heap_setCell _ _ _ _ (by dsimp only;omega)]) (by repeat (first | refine Below.setCell ?_ (by dsimp only;omega) _ | refine Below.alloc ?_ (by first | (simp;done) | (simp;omega) | omega) _ | exact B1.out))
theorem infoAction:(prog.info? 166).map (fun i=>(i.zero,i.size,i.bytes))=some (some (.agg #[.int .i64 0,.string ⟨#[]⟩,.slice none 0 0]),3,48):=by kernel_rfl
set_option maxHeartbeats 1600000 in
theorem ZGj (A:Option Addr) (n c:Nat) (ds:List Zx) (L:List Nat) (w:World) (hn:n=ds.length) (hz:ZC7 ds≤1048576) (h:Sli ZC8 w A ds L):
  Calls prog 128 #[.slice A n c] w (ZEC ZC8 166 w ds):=by
 obtain ⟨i0,hi,hz0,hz1,hz2⟩:=info_parts infoAction
 have H:=Lib.hid h
 have HN:=Lib.hid hn
 have hm:n≤1048576:=by simp only[ZC7] at hz;omega
 have HZ:=Lib.hid hz
 clear h hn hz
 go_enter func128,ntmps128
 go_wp2_with (at_make;refine wpList_make_full _ rfl _ _ 102 rfl w.heap.size 166 i0 _ 3 underlying102 hi hz0 hz1 .i64 .i64 _ _ n rfl rfl rfl rfl (by rw [hz2];omega) (by unfold maxLen;omega) (A6 _) ?_;intro w1 hown hg)
 have hb:Below w.heap.size w w1:=(Below.refl _ _).grown hg (A6 _) (by simp)
 have HF0:Hid (ZC3 ZC8 166 w n ds 0 w1):=ZC3.start hown hb
 clear hown hg hb
 go_wp2
 go_loopw [4] (fun i wr=>∃(k:Nat),k≤n∧i=.int .i64 k∧Hid (ZC3 ZC8 166 w n ds k wr)) (fun i _=>n - (intOf i).toNat)
 case atStart=>exact ⟨0,A4 _,rfl,HF0⟩
 case round=>
  obtain ⟨k,hk,rfl,HF⟩:=hrel
  by_cases hlt:k<n
  ·have hkl:k<ds.length:=by have:=HN.out;omega
   obtain ⟨b,off,cs,Lk,rfl,hbL,hLk,hrep,hc⟩:=H.out.at_ hkl
   have hbl:b<w.heap.size:=H.out.lt b hbL
   have HR:=Lib.hid (ZC8.keep hrep (ZCW HF.out.below (fun y m=>H.out.lt y (hLk y m))))
   obtain ⟨A1,c1,rfl⟩:=ZDW hrep
   have q0:wr.cell? ⟨b,off+k * 3,none⟩=_:=(HF.out.below.cell (p:=⟨b,off+(k * 3+0),none⟩) hbl).trans (hc 0 _ rfl)
   have q1:wr.cell? ⟨b,off+k * 3+1,none⟩=_:=(HF.out.below.cell (p:=⟨b,off+(k * 3+1),none⟩) hbl).trans (hc 1 _ rfl)
   have q2:wr.cell? ⟨b,off+k * 3+2,none⟩=_:=(HF.out.below.cell (p:=⟨b,off+(k * 3+2),none⟩) hbl).trans (hc 2 _ rfl)
   have hcx:Hid (ZC9 ds[k]≤1048576):=ZFV ZC9 ds k hkl (by have:=HZ.out;simp only[ZC7] at this;omega)
   obtain ⟨x,hx⟩:∃x,x=ds[k]:=⟨_,rfl⟩
   have HX:=Lib.hid hx
   rw [←hx] at HR q0 q1 q2 hcx
   clear hc hrep hx
   go_wp2_with fail
   refine (ZGY _ x Lk _ hcx.out HR.out).mono ?_
   rintro e w2 ⟨cs2,M2,rfl,g2,hb2⟩
   have HF2:=Lib.hid (HF.out.later hb2)
   have HS:=Lib.hid (HF.out.store hlt HN.out (fun _=>HX.out) hb2 g2)
   obtain ⟨vA1,vc1,rfl⟩:=ZDW g2.rep
   clear g2 hb2
   obtain ⟨d0,e0⟩:∃d,w2.cell? ⟨w.heap.size,k * 3,none⟩=some d:=HF2.out.cell hlt (j:=0) (by decide)
   have z0:=HF2.out.frozen (k * 3)
   obtain ⟨d1,e1⟩:∃d,w2.cell? ⟨w.heap.size,k * 3+1,none⟩=some d:=HF2.out.cell hlt (j:=1) (by decide)
   have z1:=HF2.out.frozen (k * 3+1)
   obtain ⟨d2,e2⟩:∃d,w2.cell? ⟨w.heap.size,k * 3+2,none⟩=some d:=HF2.out.cell hlt (j:=2) (by decide)
   have z2:=HF2.out.frozen (k * 3+2)
   go_wp2_with fail
   go_roundw
   case rel=>exact ⟨k+1,by omega,by go_num,HS.out⟩
   case measure=>simp [intOf];omega
  ·obtain rfl:k=n:=by omega
   go_wp2
   go_ret
   exact ⟨_,rfl,HF.out.done HN.out⟩
set_option maxHeartbeats 1600000 in
theorem ZHY (cs:List Value) (x:Zf) (L:List Nat) (w:World) (hz:ZDd x≤1048576) (h:ZDB.rep w cs x L):
  Calls prog 63 #[.agg cs.toArray] w (ZGB ZDB w x):=by
 obtain ⟨A1,c1,L1,A2,c2,L2,rfl,_hL,t0,n1,m1,s1,n2,m2,s2⟩:=h
 unfold maxLen at m1 m2
 have S1:=Lib.hid s1
 clear s1
 have S2:=Lib.hid s2
 clear s2
 simp only[ZDd] at hz
 go_enter func63,ntmps63
 go_wp2_with fail
 refine (ZHC A1 _ c1 x.cond L1 _ rfl (by omega) (S1.out.below (by repeat (first | refine Below.setCell ?_ (by dsimp only;omega) _ | refine Below.alloc ?_ (by first | (simp;done) | (simp;omega) | omega) _ | exact Below.refl _ _)))).mono ?_
 rintro e w1 ⟨v1,rfl,a1⟩
 obtain ⟨vA1,vc1,rfl⟩:=a1.shape
 have hb1:=a1.below
 obtain ⟨M1,g1⟩:=a1.got
 clear a1
 have G1:=Lib.hid (g1.mono (show w.heap.size+3≤_ by simp))
 have lt1:=Lib.hid g1.lt
 clear g1
 have B1:Hid (Below w.heap.size w w1):=Below.trans (by repeat (first | refine Below.setCell ?_ (by dsimp only;omega) _ | refine Below.alloc ?_ (by first | (simp;done) | (simp;omega) | omega) _ | exact Below.refl _ _)) (hb1.mono (by first | (simp;done) | (simp;omega) | omega))
 have K0:Hid (Blk w1 w.heap.size 100 #[.string x.name,.int .i64 x.priority,.slice A1 x.cond.length c1,.slice A2 x.thn.length c2]):=Blk.later (Blk.alloc (Blk.alloc (Blk.new _ _ _) _) _) hb1
 have K1:Hid (Blk w1 (w.heap.size+1) 104 #[.string ⟨#[]⟩,.int .i64 0,.slice none 0 0,.slice none 0 0]):=Blk.later (Blk.alloc (Blk.new_at (by simp)) _) hb1
 have K2:Hid (Blk w1 (w.heap.size+1+1) 104 #[.string x.name,.int .i64 x.priority,.slice none 0 0,.slice none 0 0]):=Blk.later (Blk.new_at (by simp)) hb1
 have f0:=K0.out.at (i:=0) rfl
 have r0:=K1.out.at (i:=0) rfl
 have o0:=K2.out.at (i:=0) rfl
 have rz0:=K1.out.frozen 0
 have oz0:=K2.out.frozen 0
 have f1:=K0.out.at (i:=1) rfl
 have r1:=K1.out.at (i:=1) rfl
 have o1:=K2.out.at (i:=1) rfl
 have rz1:=K1.out.frozen 1
 have oz1:=K2.out.frozen 1
 have f2:=K0.out.at (i:=2) rfl
 have r2:=K1.out.at (i:=2) rfl
 have o2:=K2.out.at (i:=2) rfl
 have rz2:=K1.out.frozen 2
 have oz2:=K2.out.frozen 2
 have f3:=K0.out.at (i:=3) rfl
 have r3:=K1.out.at (i:=3) rfl
 have o3:=K2.out.at (i:=3) rfl
 have rz3:=K1.out.frozen 3
 have oz3:=K2.out.frozen 3
 have hz1:w.heap.size+2<w1.heap.size:=by have:=hb1.size;simp at this;omega
 clear hb1
 go_wp2_with fail
 refine (ZGj A2 _ c2 x.thn L2 _ rfl (by omega) (S2.out.below (by repeat (first | refine Below.setCell ?_ (by dsimp only;omega) _ | refine Below.alloc ?_ (by first | (simp;done) | (simp;omega) | omega) _ | exact B1.out)))).mono ?_
 rintro e w2 ⟨v2,rfl,a2⟩
 obtain ⟨vA2,vc2,rfl⟩:=a2.shape
 have hb2:=a2.below
 obtain ⟨M2,g2⟩:=a2.got
 clear a2
 have G2:=Lib.hid (g2.mono (show w1.heap.size≤_ by simp))
 have lt2:=Lib.hid g2.lt
 clear g2
 have B2:Hid (Below w.heap.size w w2):=Below.trans (by repeat (first | refine Below.setCell ?_ (by dsimp only;omega) _ | refine Below.alloc ?_ (by first | (simp;done) | (simp;omega) | omega) _ | exact B1.out)) (hb2.mono (by first | (simp;done) | (simp;omega) | omega))
 have G1:Hid (Got (ZfI ZDC) (w.heap.size+3) [.slice vA1 x.cond.length vc1] x.cond M1 w2):=Got.later (by repeat (first | refine Got.setCell ?_ (by dsimp only;omega) _ | exact G1.out)) hb2
 have K0:=Lib.hid (Blk.later (Blk.far K0.out (by dsimp only;omega) _) hb2)
 have K1:=Lib.hid (Blk.later (Blk.far K1.out (by dsimp only;omega) _) hb2)
 have K2:=Lib.hid (Blk.later (Blk.set_ K2.out 2 _) hb2)
 clear f0 r0 o0 rz0 oz0 f1 r1 o1 rz1 oz1 f2 r2 o2 rz2 oz2 f3 r3 o3 rz3 oz3
 have f0:=K0.out.at (i:=0) rfl
 have r0:=K1.out.at (i:=0) rfl
 have o0:=K2.out.at (i:=0) rfl
 have rz0:=K1.out.frozen 0
 have oz0:=K2.out.frozen 0
 have f1:=K0.out.at (i:=1) rfl
 have r1:=K1.out.at (i:=1) rfl
 have o1:=K2.out.at (i:=1) rfl
 have rz1:=K1.out.frozen 1
 have oz1:=K2.out.frozen 1
 have f2:=K0.out.at (i:=2) rfl
 have r2:=K1.out.at (i:=2) rfl
 have o2:=K2.out.at (i:=2) rfl
 have rz2:=K1.out.frozen 2
 have oz2:=K2.out.frozen 2
 have f3:=K0.out.at (i:=3) rfl
 have r3:=K1.out.at (i:=3) rfl
 have o3:=K2.out.at (i:=3) rfl
 have rz3:=K1.out.frozen 3
 have oz3:=K2.out.frozen 3
 have hz2:w.heap.size+2<w2.heap.size:=by have:=hb2.size;simp at this;omega
 have hy2:w1.heap.size≤w2.heap.size:=by have:=hb2.size;simp at this;omega
 clear hb2
 go_wp2_with fail
 refine bodyPost_ret (v:=.agg #[.string x.name,.int .i64 x.priority,.slice vA1 x.cond.length vc1,.slice vA2 x.thn.length vc2]) (by simp [results,results63,go_sem,r0,r1,r2,r3]) rfl ?_
 obtain ⟨nn1,mm1,ss1⟩:=ZCX G1.out.rep
 obtain ⟨nn2,mm2,ss2⟩:=ZCX G2.out.rep
 exact ZEP (wr:=w2) (M1++M2) ⟨⟨vA1,vc1,M1,vA2,vc2,M2,rfl,rfl,t0,nn1,mm1,ss1,nn2,mm2,ss2⟩,by have o:=(Own.append G1.out.own G2.out.own (by omega) lt1.out);simpa only [AS] using o⟩ (by intro b hb;repeat rw [Below.heap_setCell _ _ _ _ (by dsimp only;omega)]) (by repeat (first | refine Below.setCell ?_ (by dsimp only;omega) _ | refine Below.alloc ?_ (by first | (simp;done) | (simp;omega) | omega) _ | exact B2.out))
theorem infoRule:(prog.info? 104).map (fun i=>(i.zero,i.size,i.bytes))=some (some (.agg #[.string ⟨#[]⟩,.int .i64 0,.slice none 0 0,.slice none 0 0]),4,72):=by kernel_rfl
set_option maxHeartbeats 1600000 in
theorem ZEs (A:Option Addr) (n c:Nat) (ds:List Zf) (L:List Nat) (w:World) (hn:n=ds.length) (hz:ZC4 ds≤1048576) (h:Sli ZDB w A ds L):
  Calls prog 13 #[.slice A n c] w (ZEC ZDB 104 w ds):=by
 obtain ⟨i0,hi,hz0,hz1,hz2⟩:=info_parts infoRule
 have H:=Lib.hid h
 have HN:=Lib.hid hn
 have hm:n≤1048576:=by simp only[ZC4] at hz;omega
 have HZ:=Lib.hid hz
 clear h hn hz
 go_enter func13,ntmps13
 go_wp2_with (at_make;refine wpList_make_full _ rfl _ _ 28 rfl w.heap.size 104 i0 _ 4 underlying28 hi hz0 hz1 .i64 .i64 _ _ n rfl rfl rfl rfl (by rw [hz2];omega) (by unfold maxLen;omega) (A6 _) ?_;intro w1 hown hg)
 have hb:Below w.heap.size w w1:=(Below.refl _ _).grown hg (A6 _) (by simp)
 have HF0:Hid (ZC3 ZDB 104 w n ds 0 w1):=ZC3.start hown hb
 clear hown hg hb
 go_wp2
 go_loopw [4] (fun i wr=>∃(k:Nat),k≤n∧i=.int .i64 k∧Hid (ZC3 ZDB 104 w n ds k wr)) (fun i _=>n - (intOf i).toNat)
 case atStart=>exact ⟨0,A4 _,rfl,HF0⟩
 case round=>
  obtain ⟨k,hk,rfl,HF⟩:=hrel
  by_cases hlt:k<n
  ·have hkl:k<ds.length:=by have:=HN.out;omega
   obtain ⟨b,off,cs,Lk,rfl,hbL,hLk,hrep,hc⟩:=H.out.at_ hkl
   have hbl:b<w.heap.size:=H.out.lt b hbL
   have HR:=Lib.hid (ZDB.keep hrep (ZCW HF.out.below (fun y m=>H.out.lt y (hLk y m))))
   obtain ⟨A1,c1,A2,c2,rfl⟩:=ZD9 hrep
   have q0:wr.cell? ⟨b,off+k * 4,none⟩=_:=(HF.out.below.cell (p:=⟨b,off+(k * 4+0),none⟩) hbl).trans (hc 0 _ rfl)
   have q1:wr.cell? ⟨b,off+k * 4+1,none⟩=_:=(HF.out.below.cell (p:=⟨b,off+(k * 4+1),none⟩) hbl).trans (hc 1 _ rfl)
   have q2:wr.cell? ⟨b,off+k * 4+2,none⟩=_:=(HF.out.below.cell (p:=⟨b,off+(k * 4+2),none⟩) hbl).trans (hc 2 _ rfl)
   have q3:wr.cell? ⟨b,off+k * 4+3,none⟩=_:=(HF.out.below.cell (p:=⟨b,off+(k * 4+3),none⟩) hbl).trans (hc 3 _ rfl)
   have hcx:Hid (ZDd ds[k]≤1048576):=ZFV ZDd ds k hkl (by have:=HZ.out;simp only[ZC4] at this;omega)
   obtain ⟨x,hx⟩:∃x,x=ds[k]:=⟨_,rfl⟩
   have HX:=Lib.hid hx
   rw [←hx] at HR q0 q1 q2 q3 hcx
   clear hc hrep hx
   go_wp2_with fail
   refine (ZHY _ x Lk _ hcx.out HR.out).mono ?_
   rintro e w2 ⟨cs2,M2,rfl,g2,hb2⟩
   have HF2:=Lib.hid (HF.out.later hb2)
   have HS:=Lib.hid (HF.out.store hlt HN.out (fun _=>HX.out) hb2 g2)
   obtain ⟨vA1,vc1,vA2,vc2,rfl⟩:=ZD9 g2.rep
   clear g2 hb2
   obtain ⟨d0,e0⟩:∃d,w2.cell? ⟨w.heap.size,k * 4,none⟩=some d:=HF2.out.cell hlt (j:=0) (by decide)
   have z0:=HF2.out.frozen (k * 4)
   obtain ⟨d1,e1⟩:∃d,w2.cell? ⟨w.heap.size,k * 4+1,none⟩=some d:=HF2.out.cell hlt (j:=1) (by decide)
   have z1:=HF2.out.frozen (k * 4+1)
   obtain ⟨d2,e2⟩:∃d,w2.cell? ⟨w.heap.size,k * 4+2,none⟩=some d:=HF2.out.cell hlt (j:=2) (by decide)
   have z2:=HF2.out.frozen (k * 4+2)
   obtain ⟨d3,e3⟩:∃d,w2.cell? ⟨w.heap.size,k * 4+3,none⟩=some d:=HF2.out.cell hlt (j:=3) (by decide)
   have z3:=HF2.out.frozen (k * 4+3)
   go_wp2_with fail
   go_roundw
   case rel=>exact ⟨k+1,by omega,by go_num,HS.out⟩
   case measure=>simp [intOf];omega
  ·obtain rfl:k=n:=by omega
   go_wp2
   go_ret
   exact ⟨_,rfl,HF.out.done HN.out⟩
end
section
open Go.RowKit
def ZDH (w:World) (e:Ending) (w':World):Prop:=e=.returned (.bool true)∧Below w.heap.size w w'
set_option maxHeartbeats 1600000 in
theorem ZE0 (A B:Option Addr) (n c d:Nat) (ds:List ByteArray) (L M:List Nat) (w:World) (hn:n=ds.length) (hm:n≤9223372036854775807) (h1:Sli ZCD w A ds L) (h2:Sli ZCD w B ds M):
  Calls prog 106 #[.slice A n c,.slice B n d] w (ZDH w):=by
 have H1:=Lib.hid h1
 have H2:=Lib.hid h2
 have HN:=Lib.hid hn
 clear h1 h2 hn
 have hne:((n:Int) != n)=false:=by simp
 go_enter func106,ntmps106
 go_wp2
 go_loopw [5] (fun i wr=>∃(k:Nat),k≤n∧i=.int .i64 k∧Hid (∃q,wr=w.drewN q)) (fun i _=>n - (intOf i).toNat)
 case atStart=>exact ⟨0,A4 _,rfl,0,rfl⟩
 case round=>
  obtain ⟨k,hk,rfl,hq⟩:=hrel
  obtain ⟨q,rfl⟩:=hq.out
  by_cases hlt:k<n
  ·have hkl:k<ds.length:=by have:=HN.out;omega
   obtain ⟨b,off,cs,Lk,rfl,_,_,hrep,hc⟩:=H1.out.at_ hkl
   obtain ⟨b',off',cs',Mk,rfl,_,_,hrep',hc'⟩:=H2.out.at_ hkl
   generalize ds[k]=x at *
   obtain ⟨rfl,_,_⟩:=hrep
   obtain ⟨rfl,_,_⟩:=hrep'
   have q0:=hc 0 _ rfl
   have p0:=hc' 0 _ rfl
   simp only[show ZCD.size=1 from rfl,AR,A5] at q0 p0
   clear hc hc'
   have k0:(0:Int)≤k:=by omega
   have k1:(k:Int)<n:=by omega
   go_wp2_with fail
   go_quiet (fail)
   go_wp2_with fail
   go_roundw
   case rel=>exact ⟨k+1,by omega,by go_num,by first | exact ZIf _ _ _ | exact ZHc _ _⟩
   case measure=>simp [intOf];omega
  ·go_wp2
   go_ret
   exact ⟨rfl,ZET _ _ _⟩
set_option maxHeartbeats 1600000 in
theorem ZFe (cs ds:List Value) (x:Zd) (L M:List Nat) (w:World) (h1:ZDc.rep w cs x L) (h2:ZDc.rep w ds x M):
  Calls prog 43 #[.agg cs.toArray,.agg ds.toArray] w (ZDH w):=by
 obtain ⟨aA1,ac1,aL1,rfl,_ahL,at0,an1,am1,as1⟩:=h1
 obtain ⟨bA1,bc1,bL1,rfl,_bhL,bt0,bn1,bm1,bs1⟩:=h2
 unfold maxLen at am1 bm1
 have SA1:=Lib.hid as1
 have SB1:=Lib.hid bs1
 clear as1 bs1
 go_enter func43,ntmps43
 go_wp2_with fail
 refine (ZE0 aA1 bA1 _ ac1 bc1 x.args aL1 bL1 _ rfl (by omega) (SA1.out.below (by repeat (first | refine Below.setCell ?_ (by dsimp only;omega) _ | refine Below.alloc ?_ (by first | (simp;done) | (simp;omega) | omega) _ | exact Below.refl _ _))) (SB1.out.below (by repeat (first | refine Below.setCell ?_ (by dsimp only;omega) _ | refine Below.alloc ?_ (by first | (simp;done) | (simp;omega) | omega) _ | exact Below.refl _ _)))).mono ?_
 rintro e w1 ⟨rfl,hb1⟩
 have B1:Hid (Below w.heap.size w w1):=Below.trans (by repeat (first | refine Below.setCell ?_ (by dsimp only;omega) _ | refine Below.alloc ?_ (by first | (simp;done) | (simp;omega) | omega) _ | exact Below.refl _ _)) (hb1.mono (by first | (simp;done) | (simp;omega) | omega))
 have K0:Hid (Blk w1 w.heap.size 71 #[.string x.rel,.slice aA1 x.args.length ac1]):=Blk.later (Blk.alloc (Blk.new _ _ _) _) hb1
 have K1:Hid (Blk w1 (w.heap.size+1) 71 #[.string x.rel,.slice bA1 x.args.length bc1]):=Blk.later (Blk.new_at (by simp)) hb1
 have f0:=K0.out.at (i:=0) rfl
 have r0:=K1.out.at (i:=0) rfl
 have f1:=K0.out.at (i:=1) rfl
 have r1:=K1.out.at (i:=1) rfl
 clear hb1
 have hz1:=B1.out.size
 go_wp2_with fail
 go_ret
 exact ⟨rfl,(by repeat (first | refine Below.setCell ?_ (by dsimp only;omega) _ | refine Below.alloc ?_ (by first | (simp;done) | (simp;omega) | omega) _ | exact B1.out))⟩
set_option maxRecDepth 100000 in
set_option maxHeartbeats 1600000 in
theorem ZHr (A B:Option Addr) (n c d:Nat) (ds:List Zd) (L M:List Nat) (w:World) (hn:n=ds.length) (hm:n≤9223372036854775807) (h1:Sli ZDc w A ds L) (h2:Sli ZDc w B ds M):
  Calls prog 16 #[.slice A n c,.slice B n d] w (ZDH w):=by
 have H1:=Lib.hid h1
 have H2:=Lib.hid h2
 have HN:=Lib.hid hn
 clear h1 h2 hn
 have hne:((n:Int) != n)=false:=by simp
 go_enter func16,ntmps16
 go_wp2
 go_loopw [5] (fun i wr=>∃(k:Nat),k≤n∧i=.int .i64 k∧Hid (Below w.heap.size w wr)) (fun i _=>n - (intOf i).toNat)
 case atStart=>exact ⟨0,A4 _,rfl,Below.refl _ _⟩
 case round=>
  obtain ⟨k,hk,rfl,HB⟩:=hrel
  by_cases hlt:k<n
  ·have hkl:k<ds.length:=by have:=HN.out;omega
   obtain ⟨b,off,cs,Lk,rfl,hbL,hLk,hrep,hc⟩:=H1.out.at_ hkl
   obtain ⟨b',off',cs',Mk,rfl,hbM,hMk,hrep',hc'⟩:=H2.out.at_ hkl
   have hbl:b<w.heap.size:=H1.out.lt b hbL
   have hbl':b'<w.heap.size:=H2.out.lt b' hbM
   have HR:=Lib.hid (ZDc.keep hrep (ZCW HB.out (fun y m=>H1.out.lt y (hLk y m))))
   have HR':=Lib.hid (ZDc.keep hrep' (ZCW HB.out (fun y m=>H2.out.lt y (hMk y m))))
   generalize ds[k]=x at *
   obtain ⟨aA1,ac1,rfl⟩:=ZDq hrep
   obtain ⟨bA1,bc1,rfl⟩:=ZDq hrep'
   have q0:wr.cell? ⟨b,off+k * 2,none⟩=_:=(HB.out.cell (p:=⟨b,off+(k * 2+0),none⟩) hbl).trans (hc 0 _ rfl)
   have p0:wr.cell? ⟨b',off'+k * 2,none⟩=_:=(HB.out.cell (p:=⟨b',off'+(k * 2+0),none⟩) hbl').trans (hc' 0 _ rfl)
   have q1:wr.cell? ⟨b,off+k * 2+1,none⟩=_:=(HB.out.cell (p:=⟨b,off+(k * 2+1),none⟩) hbl).trans (hc 1 _ rfl)
   have p1:wr.cell? ⟨b',off'+k * 2+1,none⟩=_:=(HB.out.cell (p:=⟨b',off'+(k * 2+1),none⟩) hbl').trans (hc' 1 _ rfl)
   clear hc hc' hrep hrep'
   have k0:(0:Int)≤k:=by omega
   have k1:(k:Int)<n:=by omega
   go_wp2_with fail
   go_still_tail 8,(by kernel_rfl)
   change wpList _ _ _ _ _ wr.drew
   go_wp2_with (go_at_call 43;(refine (ZFe _ _ x Lk Mk wr.drew (ZDc.keep HR.out (fun _ _=>rfl)) (ZDc.keep HR'.out (fun _ _=>rfl))).mono ?_;rintro e w1 ⟨rfl,hb1⟩;have HB1:=Lib.hid (HB.out.drew.trans (hb1.mono HB.out.size));clear hb1))
   go_roundw
   case rel=>exact ⟨k+1,by omega,by go_num,HB1.out⟩
   case measure=>simp [intOf];omega
  ·go_wp2
   go_ret
   exact ⟨rfl,HB.out⟩
set_option maxHeartbeats 1600000 in
theorem ZE1 (cs ds:List Value) (x:Zv) (L M:List Nat) (w:World) (h1:ZEp.rep w cs x L) (h2:ZEp.rep w ds x M):
  Calls prog 141 #[.agg cs.toArray,.agg ds.toArray] w (ZDH w):=by
 obtain ⟨aA1,ac1,aL1,rfl,_ahL,at0,an1,am1,as1⟩:=h1
 obtain ⟨bA1,bc1,bL1,rfl,_bhL,bt0,bn1,bm1,bs1⟩:=h2
 unfold maxLen at am1 bm1
 have SA1:=Lib.hid as1
 have SB1:=Lib.hid bs1
 clear as1 bs1
 go_enter func141,ntmps141
 go_wp2_with fail
 refine (ZE0 aA1 bA1 _ ac1 bc1 x.args aL1 bL1 _ rfl (by omega) (SA1.out.below (by repeat (first | refine Below.setCell ?_ (by dsimp only;omega) _ | refine Below.alloc ?_ (by first | (simp;done) | (simp;omega) | omega) _ | exact Below.refl _ _))) (SB1.out.below (by repeat (first | refine Below.setCell ?_ (by dsimp only;omega) _ | refine Below.alloc ?_ (by first | (simp;done) | (simp;omega) | omega) _ | exact Below.refl _ _)))).mono ?_
 rintro e w1 ⟨rfl,hb1⟩
 have B1:Hid (Below w.heap.size w w1):=Below.trans (by repeat (first | refine Below.setCell ?_ (by dsimp only;omega) _ | refine Below.alloc ?_ (by first | (simp;done) | (simp;omega) | omega) _ | exact Below.refl _ _)) (hb1.mono (by first | (simp;done) | (simp;omega) | omega))
 have K0:Hid (Blk w1 w.heap.size 58 #[.string x.rel,.slice aA1 x.args.length ac1]):=Blk.later (Blk.alloc (Blk.new _ _ _) _) hb1
 have K1:Hid (Blk w1 (w.heap.size+1) 58 #[.string x.rel,.slice bA1 x.args.length bc1]):=Blk.later (Blk.new_at (by simp)) hb1
 have f0:=K0.out.at (i:=0) rfl
 have r0:=K1.out.at (i:=0) rfl
 have f1:=K0.out.at (i:=1) rfl
 have r1:=K1.out.at (i:=1) rfl
 clear hb1
 have hz1:=B1.out.size
 go_wp2_with fail
 go_ret
 exact ⟨rfl,(by repeat (first | refine Below.setCell ?_ (by dsimp only;omega) _ | refine Below.alloc ?_ (by first | (simp;done) | (simp;omega) | omega) _ | exact B1.out))⟩
set_option maxHeartbeats 1600000 in
theorem ZH0 (cs ds:List Value) (x:Zr) (L M:List Nat) (w:World) (h1:ZDC.rep w cs x L) (h2:ZDC.rep w ds x M):
  Calls prog 80 #[.agg cs.toArray,.agg ds.toArray] w (ZDH w):=by
 obtain ⟨aA1,ac1,aL1,rfl,_ahL,at0,at1,at2,an1,am1,as1⟩:=h1
 obtain ⟨bA1,bc1,bL1,rfl,_bhL,bt0,bt1,bt2,bn1,bm1,bs1⟩:=h2
 unfold maxLen at am1 bm1
 have SA1:=Lib.hid as1
 have SB1:=Lib.hid bs1
 clear as1 bs1
 go_enter func80,ntmps80
 go_wp2_with fail
 refine (ZE1 [.string x.pattern.rel,.slice aA1 x.pattern.args.length ac1] [.string x.pattern.rel,.slice bA1 x.pattern.args.length bc1] x.pattern _ _ _ ⟨aA1,ac1,aL1,rfl,rfl,at0,an1,(by unfold maxLen;omega),SA1.out.below (by repeat (first | refine Below.setCell ?_ (by dsimp only;omega) _ | refine Below.alloc ?_ (by first | (simp;done) | (simp;omega) | omega) _ | exact Below.refl _ _))⟩ ⟨bA1,bc1,bL1,rfl,rfl,bt0,bn1,(by unfold maxLen;omega),SB1.out.below (by repeat (first | refine Below.setCell ?_ (by dsimp only;omega) _ | refine Below.alloc ?_ (by first | (simp;done) | (simp;omega) | omega) _ | exact Below.refl _ _))⟩).mono ?_
 rintro e w1 ⟨rfl,hb1⟩
 have B1:Hid (Below w.heap.size w w1):=Below.trans (by repeat (first | refine Below.setCell ?_ (by dsimp only;omega) _ | refine Below.alloc ?_ (by first | (simp;done) | (simp;omega) | omega) _ | exact Below.refl _ _)) (hb1.mono (by first | (simp;done) | (simp;omega) | omega))
 have K0:Hid (Blk w1 w.heap.size 60 #[.int .i64 x.kind,.string x.pattern.rel,.slice aA1 x.pattern.args.length ac1,.string x.left,.string x.right]):=Blk.later (Blk.alloc (Blk.new _ _ _) _) hb1
 have K1:Hid (Blk w1 (w.heap.size+1) 60 #[.int .i64 x.kind,.string x.pattern.rel,.slice bA1 x.pattern.args.length bc1,.string x.left,.string x.right]):=Blk.later (Blk.new_at (by simp)) hb1
 have f0:=K0.out.at (i:=0) rfl
 have r0:=K1.out.at (i:=0) rfl
 have f1:=K0.out.at (i:=1) rfl
 have r1:=K1.out.at (i:=1) rfl
 have f2:=K0.out.at (i:=2) rfl
 have r2:=K1.out.at (i:=2) rfl
 have f3:=K0.out.at (i:=3) rfl
 have r3:=K1.out.at (i:=3) rfl
 have f4:=K0.out.at (i:=4) rfl
 have r4:=K1.out.at (i:=4) rfl
 clear hb1
 have hz1:=B1.out.size
 go_wp2_with fail
 go_ret
 exact ⟨rfl,(by repeat (first | refine Below.setCell ?_ (by dsimp only;omega) _ | refine Below.alloc ?_ (by first | (simp;done) | (simp;omega) | omega) _ | exact B1.out))⟩
set_option maxRecDepth 100000 in
set_option maxHeartbeats 1600000 in
theorem ZHb (A B:Option Addr) (n c d:Nat) (ds:List Zr) (L M:List Nat) (w:World) (hn:n=ds.length) (hm:n≤9223372036854775807) (h1:Sli ZDC w A ds L) (h2:Sli ZDC w B ds M):
  Calls prog 26 #[.slice A n c,.slice B n d] w (ZDH w):=by
 have H1:=Lib.hid h1
 have H2:=Lib.hid h2
 have HN:=Lib.hid hn
 clear h1 h2 hn
 have hne:((n:Int) != n)=false:=by simp
 go_enter func26,ntmps26
 go_wp2
 go_loopw [5] (fun i wr=>∃(k:Nat),k≤n∧i=.int .i64 k∧Hid (Below w.heap.size w wr)) (fun i _=>n - (intOf i).toNat)
 case atStart=>exact ⟨0,A4 _,rfl,Below.refl _ _⟩
 case round=>
  obtain ⟨k,hk,rfl,HB⟩:=hrel
  by_cases hlt:k<n
  ·have hkl:k<ds.length:=by have:=HN.out;omega
   obtain ⟨b,off,cs,Lk,rfl,hbL,hLk,hrep,hc⟩:=H1.out.at_ hkl
   obtain ⟨b',off',cs',Mk,rfl,hbM,hMk,hrep',hc'⟩:=H2.out.at_ hkl
   have hbl:b<w.heap.size:=H1.out.lt b hbL
   have hbl':b'<w.heap.size:=H2.out.lt b' hbM
   have HR:=Lib.hid (ZDC.keep hrep (ZCW HB.out (fun y m=>H1.out.lt y (hLk y m))))
   have HR':=Lib.hid (ZDC.keep hrep' (ZCW HB.out (fun y m=>H2.out.lt y (hMk y m))))
   generalize ds[k]=x at *
   obtain ⟨aA1,ac1,rfl⟩:=ZEc hrep
   obtain ⟨bA1,bc1,rfl⟩:=ZEc hrep'
   have q0:wr.cell? ⟨b,off+k * 5,none⟩=_:=(HB.out.cell (p:=⟨b,off+(k * 5+0),none⟩) hbl).trans (hc 0 _ rfl)
   have p0:wr.cell? ⟨b',off'+k * 5,none⟩=_:=(HB.out.cell (p:=⟨b',off'+(k * 5+0),none⟩) hbl').trans (hc' 0 _ rfl)
   have q1:wr.cell? ⟨b,off+k * 5+1,none⟩=_:=(HB.out.cell (p:=⟨b,off+(k * 5+1),none⟩) hbl).trans (hc 1 _ rfl)
   have p1:wr.cell? ⟨b',off'+k * 5+1,none⟩=_:=(HB.out.cell (p:=⟨b',off'+(k * 5+1),none⟩) hbl').trans (hc' 1 _ rfl)
   have q2:wr.cell? ⟨b,off+k * 5+2,none⟩=_:=(HB.out.cell (p:=⟨b,off+(k * 5+2),none⟩) hbl).trans (hc 2 _ rfl)
   have p2:wr.cell? ⟨b',off'+k * 5+2,none⟩=_:=(HB.out.cell (p:=⟨b',off'+(k * 5+2),none⟩) hbl').trans (hc' 2 _ rfl)
   have q3:wr.cell? ⟨b,off+k * 5+3,none⟩=_:=(HB.out.cell (p:=⟨b,off+(k * 5+3),none⟩) hbl).trans (hc 3 _ rfl)
   have p3:wr.cell? ⟨b',off'+k * 5+3,none⟩=_:=(HB.out.cell (p:=⟨b',off'+(k * 5+3),none⟩) hbl').trans (hc' 3 _ rfl)
   have q4:wr.cell? ⟨b,off+k * 5+4,none⟩=_:=(HB.out.cell (p:=⟨b,off+(k * 5+4),none⟩) hbl).trans (hc 4 _ rfl)
   have p4:wr.cell? ⟨b',off'+k * 5+4,none⟩=_:=(HB.out.cell (p:=⟨b',off'+(k * 5+4),none⟩) hbl').trans (hc' 4 _ rfl)
   clear hc hc' hrep hrep'
   have k0:(0:Int)≤k:=by omega
   have k1:(k:Int)<n:=by omega
   go_wp2_with fail
   go_still_tail 8,(by kernel_rfl)
   change wpList _ _ _ _ _ wr.drew
   go_wp2_with (go_at_call 80;(refine (ZH0 _ _ x Lk Mk wr.drew (ZDC.keep HR.out (fun _ _=>rfl)) (ZDC.keep HR'.out (fun _ _=>rfl))).mono ?_;rintro e w1 ⟨rfl,hb1⟩;have HB1:=Lib.hid (HB.out.drew.trans (hb1.mono HB.out.size));clear hb1))
   go_roundw
   case rel=>exact ⟨k+1,by omega,by go_num,HB1.out⟩
   case measure=>simp [intOf];omega
  ·go_wp2
   go_ret
   exact ⟨rfl,HB.out⟩
set_option maxHeartbeats 1600000 in
theorem ZGK (cs ds:List Value) (x:Zx) (L M:List Nat) (w:World) (h1:ZC8.rep w cs x L) (h2:ZC8.rep w ds x M):
  Calls prog 199 #[.agg cs.toArray,.agg ds.toArray] w (ZDH w):=by
 obtain ⟨aA1,ac1,aL1,rfl,_ahL,at0,an1,am1,as1⟩:=h1
 obtain ⟨bA1,bc1,bL1,rfl,_bhL,bt0,bn1,bm1,bs1⟩:=h2
 unfold maxLen at am1 bm1
 have SA1:=Lib.hid as1
 have SB1:=Lib.hid bs1
 clear as1 bs1
 go_enter func199,ntmps199
 go_wp2_with fail
 refine (ZE1 [.string x.pattern.rel,.slice aA1 x.pattern.args.length ac1] [.string x.pattern.rel,.slice bA1 x.pattern.args.length bc1] x.pattern _ _ _ ⟨aA1,ac1,aL1,rfl,rfl,at0,an1,(by unfold maxLen;omega),SA1.out.below (by repeat (first | refine Below.setCell ?_ (by dsimp only;omega) _ | refine Below.alloc ?_ (by first | (simp;done) | (simp;omega) | omega) _ | exact Below.refl _ _))⟩ ⟨bA1,bc1,bL1,rfl,rfl,bt0,bn1,(by unfold maxLen;omega),SB1.out.below (by repeat (first | refine Below.setCell ?_ (by dsimp only;omega) _ | refine Below.alloc ?_ (by first | (simp;done) | (simp;omega) | omega) _ | exact Below.refl _ _))⟩).mono ?_
 rintro e w1 ⟨rfl,hb1⟩
 have B1:Hid (Below w.heap.size w w1):=Below.trans (by repeat (first | refine Below.setCell ?_ (by dsimp only;omega) _ | refine Below.alloc ?_ (by first | (simp;done) | (simp;omega) | omega) _ | exact Below.refl _ _)) (hb1.mono (by first | (simp;done) | (simp;omega) | omega))
 have K0:Hid (Blk w1 w.heap.size 166 #[.int .i64 x.kind,.string x.pattern.rel,.slice aA1 x.pattern.args.length ac1]):=Blk.later (Blk.alloc (Blk.new _ _ _) _) hb1
 have K1:Hid (Blk w1 (w.heap.size+1) 166 #[.int .i64 x.kind,.string x.pattern.rel,.slice bA1 x.pattern.args.length bc1]):=Blk.later (Blk.new_at (by simp)) hb1
 have f0:=K0.out.at (i:=0) rfl
 have r0:=K1.out.at (i:=0) rfl
 have f1:=K0.out.at (i:=1) rfl
 have r1:=K1.out.at (i:=1) rfl
 have f2:=K0.out.at (i:=2) rfl
 have r2:=K1.out.at (i:=2) rfl
 clear hb1
 have hz1:=B1.out.size
 go_wp2_with fail
 go_ret
 exact ⟨rfl,(by repeat (first | refine Below.setCell ?_ (by dsimp only;omega) _ | refine Below.alloc ?_ (by first | (simp;done) | (simp;omega) | omega) _ | exact B1.out))⟩
set_option maxRecDepth 100000 in
set_option maxHeartbeats 1600000 in
theorem ZGq (A B:Option Addr) (n c d:Nat) (ds:List Zx) (L M:List Nat) (w:World) (hn:n=ds.length) (hm:n≤9223372036854775807) (h1:Sli ZC8 w A ds L) (h2:Sli ZC8 w B ds M):
  Calls prog 130 #[.slice A n c,.slice B n d] w (ZDH w):=by
 have H1:=Lib.hid h1
 have H2:=Lib.hid h2
 have HN:=Lib.hid hn
 clear h1 h2 hn
 have hne:((n:Int) != n)=false:=by simp
 go_enter func130,ntmps130
 go_wp2
 go_loopw [5] (fun i wr=>∃(k:Nat),k≤n∧i=.int .i64 k∧Hid (Below w.heap.size w wr)) (fun i _=>n - (intOf i).toNat)
 case atStart=>exact ⟨0,A4 _,rfl,Below.refl _ _⟩
 case round=>
  obtain ⟨k,hk,rfl,HB⟩:=hrel
  by_cases hlt:k<n
  ·have hkl:k<ds.length:=by have:=HN.out;omega
   obtain ⟨b,off,cs,Lk,rfl,hbL,hLk,hrep,hc⟩:=H1.out.at_ hkl
   obtain ⟨b',off',cs',Mk,rfl,hbM,hMk,hrep',hc'⟩:=H2.out.at_ hkl
   have hbl:b<w.heap.size:=H1.out.lt b hbL
   have hbl':b'<w.heap.size:=H2.out.lt b' hbM
   have HR:=Lib.hid (ZC8.keep hrep (ZCW HB.out (fun y m=>H1.out.lt y (hLk y m))))
   have HR':=Lib.hid (ZC8.keep hrep' (ZCW HB.out (fun y m=>H2.out.lt y (hMk y m))))
   generalize ds[k]=x at *
   obtain ⟨aA1,ac1,rfl⟩:=ZDW hrep
   obtain ⟨bA1,bc1,rfl⟩:=ZDW hrep'
   have q0:wr.cell? ⟨b,off+k * 3,none⟩=_:=(HB.out.cell (p:=⟨b,off+(k * 3+0),none⟩) hbl).trans (hc 0 _ rfl)
   have p0:wr.cell? ⟨b',off'+k * 3,none⟩=_:=(HB.out.cell (p:=⟨b',off'+(k * 3+0),none⟩) hbl').trans (hc' 0 _ rfl)
   have q1:wr.cell? ⟨b,off+k * 3+1,none⟩=_:=(HB.out.cell (p:=⟨b,off+(k * 3+1),none⟩) hbl).trans (hc 1 _ rfl)
   have p1:wr.cell? ⟨b',off'+k * 3+1,none⟩=_:=(HB.out.cell (p:=⟨b',off'+(k * 3+1),none⟩) hbl').trans (hc' 1 _ rfl)
   have q2:wr.cell? ⟨b,off+k * 3+2,none⟩=_:=(HB.out.cell (p:=⟨b,off+(k * 3+2),none⟩) hbl).trans (hc 2 _ rfl)
   have p2:wr.cell? ⟨b',off'+k * 3+2,none⟩=_:=(HB.out.cell (p:=⟨b',off'+(k * 3+2),none⟩) hbl').trans (hc' 2 _ rfl)
   clear hc hc' hrep hrep'
   have k0:(0:Int)≤k:=by omega
   have k1:(k:Int)<n:=by omega
   go_wp2_with fail
   go_still_tail 8,(by kernel_rfl)
   change wpList _ _ _ _ _ wr.drew
   go_wp2_with (go_at_call 199;(refine (ZGK _ _ x Lk Mk wr.drew (ZC8.keep HR.out (fun _ _=>rfl)) (ZC8.keep HR'.out (fun _ _=>rfl))).mono ?_;rintro e w1 ⟨rfl,hb1⟩;have HB1:=Lib.hid (HB.out.drew.trans (hb1.mono HB.out.size));clear hb1))
   go_roundw
   case rel=>exact ⟨k+1,by omega,by go_num,HB1.out⟩
   case measure=>simp [intOf];omega
  ·go_wp2
   go_ret
   exact ⟨rfl,HB.out⟩
set_option maxHeartbeats 1600000 in
theorem ZHQ (cs ds:List Value) (x:Zf) (L M:List Nat) (w:World) (h1:ZDB.rep w cs x L) (h2:ZDB.rep w ds x M):
  Calls prog 65 #[.agg cs.toArray,.agg ds.toArray] w (ZDH w):=by
 obtain ⟨aA1,ac1,aL1,aA2,ac2,aL2,rfl,_ahL,at0,an1,am1,as1,an2,am2,as2⟩:=h1
 obtain ⟨bA1,bc1,bL1,bA2,bc2,bL2,rfl,_bhL,bt0,bn1,bm1,bs1,bn2,bm2,bs2⟩:=h2
 unfold maxLen at am1 bm1 am2 bm2
 have SA1:=Lib.hid as1
 have SB1:=Lib.hid bs1
 clear as1 bs1
 have SA2:=Lib.hid as2
 have SB2:=Lib.hid bs2
 clear as2 bs2
 go_enter func65,ntmps65
 go_wp2_with fail
 refine (ZHb aA1 bA1 _ ac1 bc1 x.cond aL1 bL1 _ rfl (by omega) (SA1.out.below (by repeat (first | refine Below.setCell ?_ (by dsimp only;omega) _ | refine Below.alloc ?_ (by first | (simp;done) | (simp;omega) | omega) _ | exact Below.refl _ _))) (SB1.out.below (by repeat (first | refine Below.setCell ?_ (by dsimp only;omega) _ | refine Below.alloc ?_ (by first | (simp;done) | (simp;omega) | omega) _ | exact Below.refl _ _)))).mono ?_
 rintro e w1 ⟨rfl,hb1⟩
 have B1:Hid (Below w.heap.size w w1):=Below.trans (by repeat (first | refine Below.setCell ?_ (by dsimp only;omega) _ | refine Below.alloc ?_ (by first | (simp;done) | (simp;omega) | omega) _ | exact Below.refl _ _)) (hb1.mono (by first | (simp;done) | (simp;omega) | omega))
 have K0:Hid (Blk w1 w.heap.size 104 #[.string x.name,.int .i64 x.priority,.slice aA1 x.cond.length ac1,.slice aA2 x.thn.length ac2]):=Blk.later (Blk.alloc (Blk.new _ _ _) _) hb1
 have K1:Hid (Blk w1 (w.heap.size+1) 104 #[.string x.name,.int .i64 x.priority,.slice bA1 x.cond.length bc1,.slice bA2 x.thn.length bc2]):=Blk.later (Blk.new_at (by simp)) hb1
 have f0:=K0.out.at (i:=0) rfl
 have r0:=K1.out.at (i:=0) rfl
 have f1:=K0.out.at (i:=1) rfl
 have r1:=K1.out.at (i:=1) rfl
 have f2:=K0.out.at (i:=2) rfl
 have r2:=K1.out.at (i:=2) rfl
 have f3:=K0.out.at (i:=3) rfl
 have r3:=K1.out.at (i:=3) rfl
 clear hb1
 have hz1:=B1.out.size
 go_wp2_with fail
 refine (ZGq aA2 bA2 _ ac2 bc2 x.thn aL2 bL2 _ rfl (by omega) (SA2.out.below (by repeat (first | refine Below.setCell ?_ (by dsimp only;omega) _ | refine Below.alloc ?_ (by first | (simp;done) | (simp;omega) | omega) _ | exact B1.out))) (SB2.out.below (by repeat (first | refine Below.setCell ?_ (by dsimp only;omega) _ | refine Below.alloc ?_ (by first | (simp;done) | (simp;omega) | omega) _ | exact B1.out)))).mono ?_
 rintro e w2 ⟨rfl,hb2⟩
 have B2:Hid (Below w.heap.size w w2):=Below.trans (by repeat (first | refine Below.setCell ?_ (by dsimp only;omega) _ | refine Below.alloc ?_ (by first | (simp;done) | (simp;omega) | omega) _ | exact B1.out)) (hb2.mono (by first | (simp;done) | (simp;omega) | omega))
 have K0:=Lib.hid (K0.out.later hb2)
 have K1:=Lib.hid (K1.out.later hb2)
 clear f0 r0 f1 r1 f2 r2 f3 r3
 have f0:=K0.out.at (i:=0) rfl
 have r0:=K1.out.at (i:=0) rfl
 have f1:=K0.out.at (i:=1) rfl
 have r1:=K1.out.at (i:=1) rfl
 have f2:=K0.out.at (i:=2) rfl
 have r2:=K1.out.at (i:=2) rfl
 have f3:=K0.out.at (i:=3) rfl
 have r3:=K1.out.at (i:=3) rfl
 clear hb2
 have hz2:=B2.out.size
 go_wp2_with fail
 go_ret
 exact ⟨rfl,(by repeat (first | refine Below.setCell ?_ (by dsimp only;omega) _ | refine Below.alloc ?_ (by first | (simp;done) | (simp;omega) | omega) _ | exact B2.out))⟩
set_option maxRecDepth 100000 in
set_option maxHeartbeats 1600000 in
theorem ZHJ (A B:Option Addr) (n c d:Nat) (ds:List Zf) (L M:List Nat) (w:World) (hn:n=ds.length) (hm:n≤9223372036854775807) (h1:Sli ZDB w A ds L) (h2:Sli ZDB w B ds M):
  Calls prog 17 #[.slice A n c,.slice B n d] w (ZDH w):=by
 have H1:=Lib.hid h1
 have H2:=Lib.hid h2
 have HN:=Lib.hid hn
 clear h1 h2 hn
 have hne:((n:Int) != n)=false:=by simp
 go_enter func17,ntmps17
 go_wp2
 go_loopw [5] (fun i wr=>∃(k:Nat),k≤n∧i=.int .i64 k∧Hid (Below w.heap.size w wr)) (fun i _=>n - (intOf i).toNat)
 case atStart=>exact ⟨0,A4 _,rfl,Below.refl _ _⟩
 case round=>
  obtain ⟨k,hk,rfl,HB⟩:=hrel
  by_cases hlt:k<n
  ·have hkl:k<ds.length:=by have:=HN.out;omega
   obtain ⟨b,off,cs,Lk,rfl,hbL,hLk,hrep,hc⟩:=H1.out.at_ hkl
   obtain ⟨b',off',cs',Mk,rfl,hbM,hMk,hrep',hc'⟩:=H2.out.at_ hkl
   have hbl:b<w.heap.size:=H1.out.lt b hbL
   have hbl':b'<w.heap.size:=H2.out.lt b' hbM
   have HR:=Lib.hid (ZDB.keep hrep (ZCW HB.out (fun y m=>H1.out.lt y (hLk y m))))
   have HR':=Lib.hid (ZDB.keep hrep' (ZCW HB.out (fun y m=>H2.out.lt y (hMk y m))))
   generalize ds[k]=x at *
   obtain ⟨aA1,ac1,aA2,ac2,rfl⟩:=ZD9 hrep
   obtain ⟨bA1,bc1,bA2,bc2,rfl⟩:=ZD9 hrep'
   have q0:wr.cell? ⟨b,off+k * 4,none⟩=_:=(HB.out.cell (p:=⟨b,off+(k * 4+0),none⟩) hbl).trans (hc 0 _ rfl)
   have p0:wr.cell? ⟨b',off'+k * 4,none⟩=_:=(HB.out.cell (p:=⟨b',off'+(k * 4+0),none⟩) hbl').trans (hc' 0 _ rfl)
   have q1:wr.cell? ⟨b,off+k * 4+1,none⟩=_:=(HB.out.cell (p:=⟨b,off+(k * 4+1),none⟩) hbl).trans (hc 1 _ rfl)
   have p1:wr.cell? ⟨b',off'+k * 4+1,none⟩=_:=(HB.out.cell (p:=⟨b',off'+(k * 4+1),none⟩) hbl').trans (hc' 1 _ rfl)
   have q2:wr.cell? ⟨b,off+k * 4+2,none⟩=_:=(HB.out.cell (p:=⟨b,off+(k * 4+2),none⟩) hbl).trans (hc 2 _ rfl)
   have p2:wr.cell? ⟨b',off'+k * 4+2,none⟩=_:=(HB.out.cell (p:=⟨b',off'+(k * 4+2),none⟩) hbl').trans (hc' 2 _ rfl)
   have q3:wr.cell? ⟨b,off+k * 4+3,none⟩=_:=(HB.out.cell (p:=⟨b,off+(k * 4+3),none⟩) hbl).trans (hc 3 _ rfl)
   have p3:wr.cell? ⟨b',off'+k * 4+3,none⟩=_:=(HB.out.cell (p:=⟨b',off'+(k * 4+3),none⟩) hbl').trans (hc' 3 _ rfl)
   clear hc hc' hrep hrep'
   have k0:(0:Int)≤k:=by omega
   have k1:(k:Int)<n:=by omega
   go_wp2_with fail
   go_still_tail 8,(by kernel_rfl)
   change wpList _ _ _ _ _ wr.drew
   go_wp2_with (go_at_call 65;(refine (ZHQ _ _ x Lk Mk wr.drew (ZDB.keep HR.out (fun _ _=>rfl)) (ZDB.keep HR'.out (fun _ _=>rfl))).mono ?_;rintro e w1 ⟨rfl,hb1⟩;have HB1:=Lib.hid (HB.out.drew.trans (hb1.mono HB.out.size));clear hb1))
   go_roundw
   case rel=>exact ⟨k+1,by omega,by go_num,HB1.out⟩
   case measure=>simp [intOf];omega
  ·go_wp2
   go_ret
   exact ⟨rfl,HB.out⟩
end
section
open Go.RowKit
def ZFP:Nat→Nat→List UInt8→List UInt8
 | 0,_,acc=>acc
 | f+1,k,acc=>if k=0 then acc else ZFP f (k / 10) ((48+AZ (k % 10))::acc)
def ZHy (k:Nat):ByteArray:=⟨(109::ZFP (k+1) k []).toArray⟩
theorem ZFR (W:World) (z:Int):(convert 48 9 (.slice (some ⟨W.heap.size,0,none⟩) 1 1)).run prog (W.alloc (.cells #[.int .u8 z] 5))=.ok (.string ⟨#[AZ z.toNat]⟩) (W.alloc (.cells #[.int .u8 z] 5)):=by
 rw [run_convert_bytes_string _ _ _ _ _ _ _ underlying48 underlying5 underlying9,run_bytesToString _ _ _ _ [z] (by simp [loadCells,go_sem])]
 rfl
set_option maxHeartbeats 800000 in
set_option maxRecDepth 100000 in
theorem ZGL (k:Nat) (w:World) (h0:1≤k) (h1:k≤4611686018427387904):
  Calls prog 66 #[.int .i64 k] w fun e w'=>e=.returned (.string (ZHy k))∧Below w.heap.size w w':=by
 have hle:¬((k:Int)≤0):=by omega
 have kc:=ZFR
 go_enter func66,ntmps66
 go_wp2
 go_loopw [0,3] (fun i s wr=>∃(f q:Nat) (acc:List UInt8),i=.int .i64 q∧s=.string ⟨acc.toArray⟩∧q≤k∧q<f∧acc.length+q≤k∧Hid (ZFP f q acc=ZFP (k+1) k [])∧Hid (Below w.heap.size w wr)) (fun i _ _=>(intOf i).toNat)
 case atStart=>exact ⟨k+1,k,[],rfl,rfl,A6 _,by omega,by simp,Lib.hid rfl,Below.refl _ _⟩
 case round=>
  obtain ⟨f,q,acc,rfl,rfl,hqk,hqf,hal,HE,HB⟩:=hrel
  by_cases hq:0<q
  ·have hq':(0:Int)<q:=by omega
   have HEn:Hid (ZFP (f - 1) (q / 10) ((48+AZ (q % 10))::acc)=ZFP (k+1) k []):=by
    rw [Hid,←HE.out]
    obtain ⟨f,rfl⟩:∃g,f=g+1:=⟨f - 1,by omega⟩
    rw [ZFP,if_neg (by omega)];rfl
   go_wp2
   go_roundw
   case rel=>exact ⟨f - 1,q / 10,_,by go_num,congrArg Value.string (by rw [Az];simp),by omega,by omega,by simp only[AN];omega,HEn,HB.out.alloc HB.out.size _⟩
   case measure=>simp [intOf];omega
  ·obtain rfl:q=0:=by omega
   have e:Hid (ZFP (k+1) k []=acc):=by
    rw [Hid,←HE.out]
    obtain ⟨f,rfl⟩:∃g,f=g+1:=⟨f - 1,by omega⟩
    simp [ZFP]
   have hq':¬(0:Int)<(0:Nat):=by omega
   go_wp2
   go_ret
   exact ⟨congrArg (fun s=>Ending.returned (.string s)) (by rw [ZHy,e.out,Az];simp),HB.out⟩
theorem ZHs:∀(f k:Nat) (acc:List UInt8),(ZFP f k acc).length≤acc.length+f
 | 0,_,acc=>by simp [ZFP]
 | f+1,k,acc=>by
  rw [ZFP]
  split
  ·omega
  ·have:=ZHs f (k / 10) ((48+AZ (k % 10))::acc)
   simp at this;omega
theorem ZH5 (k:Nat) (h:k≤4611686018427387904):(ZHy k).size≤9223372036854775807:=by
 have:=ZHs (k+1) k []
 simp [ZHy,Ay] at this ⊢
 omega
end
section
open Go.RowKit
def mTx (k:Int):ByteArray:=ZHy k.toNat
theorem ZDe (k:Int) (w:World) (h0:1≤k) (h1:k≤4611686018427387904):
  Calls prog 66 #[.int .i64 k] w fun e w'=>e=.returned (.string (mTx k))∧Below w.heap.size w w':=by
 obtain ⟨n,rfl⟩:=Int.eq_ofNat_of_zero_le (show 0≤k by omega)
 exact ZGL n w (by omega) (by omega)
theorem ZD2 (k:Int) (h:k≤4611686018427387904):(mTx k).size≤9223372036854775807:=ZH5 _ (by omega)
def ZC0:Int→List ByteArray→List ByteArray
 | _,[]=>[]
 | k,_::r=>mTx k::ZC0 (k+1) r
def ZCV (k:Int) (l:List ByteArray):Int:=k+l.length
theorem ZDz (k:Int) (l:List ByteArray):(ZC0 k l).length=l.length:=by induction l generalizing k with | nil=>rfl | cons x r ih=>simp [ZC0,ih]
theorem ZC6 (k:Int) (l:List ByteArray):k≤ZCV k l:=by unfold ZCV;omega
theorem ZDO (k:Int) (l:List ByteArray):ZCV k l≤k+16 * ZDs l:=by unfold ZCV ZDs;omega
def ZFa (k:Int) (x:Zd):Zd:=⟨mTx (k),ZC0 (k+1) x.args⟩
def ZDy (k:Int) (x:Zd):Int:=ZCV (k+1) x.args
def ZEf:Int→List Zd→List Zd
 | _,[]=>[]
 | k,x::r=>ZFa k x::ZEf (ZDy k x) r
def ZDj:Int→List Zd→Int
 | k,[]=>k
 | k,x::r=>ZDj (ZDy k x) r
theorem ZKy (k:Int) (l:List Zd):(ZEf k l).length=l.length:=by induction l generalizing k with | nil=>rfl | cons x r ih=>simp [ZEf,ih]
theorem ZFG (k:Int) (x:Zd):k≤ZDy k x:=by
 unfold ZDy
 have:=ZC6 (k+1) x.args
 omega
theorem ZFk (k:Int) (l:List Zd):k≤ZDj k l:=by
 induction l generalizing k with
 | nil=>exact AD _
 | cons x r ih=>exact A7 (ZFG k x) (ih _)
theorem ZHh (k:Int) (x:Zd):ZDy k x≤k+1+16 * ZC2 x:=by
 unfold ZDy
 have:=ZDO (k+1) x.args
 simp only[ZC2]
 omega
theorem ZG3 (k:Int) (l:List Zd):ZDj k l≤k+16 * ZDa l:=by
 induction l generalizing k with
 | nil=>simp [ZDj,ZDa]
 | cons x r ih=>
  have h1:=ZHh k x
  have h2:=ih (ZDy k x)
  simp only[ZDj,ZDa,AN,AQ,Aa] at h2 ⊢
  omega
def ZE6 (k:Int) (x:Zr):Zr:=⟨(k),⟨mTx (k+1),ZC0 (k+1+1) x.pattern.args⟩,mTx (ZCV (k+1+1) x.pattern.args),mTx (ZCV (k+1+1) x.pattern.args+1)⟩
def ZDw (k:Int) (x:Zr):Int:=ZCV (k+1+1) x.pattern.args+1+1
def ZDX:Int→List Zr→List Zr
 | _,[]=>[]
 | k,x::r=>ZE6 k x::ZDX (ZDw k x) r
def ZDi:Int→List Zr→Int
 | k,[]=>k
 | k,x::r=>ZDi (ZDw k x) r
theorem ZHg (k:Int) (l:List Zr):(ZDX k l).length=l.length:=by induction l generalizing k with | nil=>rfl | cons x r ih=>simp [ZDX,ih]
theorem ZFI (k:Int) (x:Zr):k≤ZDw k x:=by
 unfold ZDw
 have:=ZC6 (k+1+1) x.pattern.args
 omega
theorem ZEF (k:Int) (l:List Zr):k≤ZDi k l:=by
 induction l generalizing k with
 | nil=>exact AD _
 | cons x r ih=>exact A7 (ZFI k x) (ih _)
theorem ZHL (k:Int) (x:Zr):ZDw k x≤k+4+16 * ZDl x:=by
 unfold ZDw
 have:=ZDO (k+1+1) x.pattern.args
 simp only[ZDl,ZC1]
 omega
theorem ZG9 (k:Int) (l:List Zr):ZDi k l≤k+16 * ZDh l:=by
 induction l generalizing k with
 | nil=>simp [ZDi,ZDh]
 | cons x r ih=>
  have h1:=ZHL k x
  have h2:=ih (ZDw k x)
  simp only[ZDi,ZDh,AN,AQ,Aa] at h2 ⊢
  omega
def ZEi (k:Int) (x:Zx):Zx:=⟨(k),⟨mTx (k+1),ZC0 (k+1+1) x.pattern.args⟩⟩
def ZDk (k:Int) (x:Zx):Int:=ZCV (k+1+1) x.pattern.args
def ZDu:Int→List Zx→List Zx
 | _,[]=>[]
 | k,x::r=>ZEi k x::ZDu (ZDk k x) r
def ZDg:Int→List Zx→Int
 | k,[]=>k
 | k,x::r=>ZDg (ZDk k x) r
theorem ZGs (k:Int) (l:List Zx):(ZDu k l).length=l.length:=by induction l generalizing k with | nil=>rfl | cons x r ih=>simp [ZDu,ih]
theorem ZE3 (k:Int) (x:Zx):k≤ZDk k x:=by
 unfold ZDk
 have:=ZC6 (k+1+1) x.pattern.args
 omega
theorem ZEj (k:Int) (l:List Zx):k≤ZDg k l:=by
 induction l generalizing k with
 | nil=>exact AD _
 | cons x r ih=>exact A7 (ZE3 k x) (ih _)
theorem ZGp (k:Int) (x:Zx):ZDk k x≤k+2+16 * ZC9 x:=by
 unfold ZDk
 have:=ZDO (k+1+1) x.pattern.args
 simp only[ZC9,ZC1]
 omega
theorem ZFX (k:Int) (l:List Zx):ZDg k l≤k+16 * ZC7 l:=by
 induction l generalizing k with
 | nil=>simp [ZDg,ZC7]
 | cons x r ih=>
  have h1:=ZGp k x
  have h2:=ih (ZDk k x)
  simp only[ZDg,ZC7,AN,AQ,Aa] at h2 ⊢
  omega
def ZE9 (k:Int) (x:Zf):Zf:=⟨mTx (k),(k+1),ZDX (k+1+1) x.cond,ZDu (ZDi (k+1+1) x.cond) x.thn⟩
def ZDv (k:Int) (x:Zf):Int:=ZDg (ZDi (k+1+1) x.cond) x.thn
def ZEg:Int→List Zf→List Zf
 | _,[]=>[]
 | k,x::r=>ZE9 k x::ZEg (ZDv k x) r
def ZC5:Int→List Zf→Int
 | k,[]=>k
 | k,x::r=>ZC5 (ZDv k x) r
theorem ZFH (k:Int) (x:Zf):k≤ZDv k x:=by
 unfold ZDv
 have:=ZEF (k+1+1) x.cond
 have:=ZEj (ZDi (k+1+1) x.cond) x.thn
 omega
theorem ZFq (k:Int) (l:List Zf):k≤ZC5 k l:=by
 induction l generalizing k with
 | nil=>exact AD _
 | cons x r ih=>exact A7 (ZFH k x) (ih _)
theorem ZHl (k:Int) (x:Zf):ZDv k x≤k+2+16 * ZDd x:=by
 unfold ZDv
 have:=ZG9 (k+1+1) x.cond
 have:=ZFX (ZDi (k+1+1) x.cond) x.thn
 simp only[ZDd]
 omega
theorem ZGT (k:Int) (l:List Zf):ZC5 k l≤k+16 * ZC4 l:=by
 induction l generalizing k with
 | nil=>simp [ZC5,ZC4]
 | cons x r ih=>
  have h1:=ZHl k x
  have h2:=ih (ZDv k x)
  simp only[ZC5,ZC4,AN,AQ,Aa] at h2 ⊢
  omega
end
section
open Go.RowKit
set_option maxHeartbeats 1600000 in
theorem ZDM (A:Option Addr) (n c:Nat) (ds:List ByteArray) (L:List Nat) (base:Nat) (k:Int) (w:World) (hn:n=ds.length) (hk0:1≤k) (hk1:ZCV k ds≤4611686018427387904) (h:Got (ZfI ZCD) base [.slice A n c] ds L w):
  Calls prog 68 #[.slice A n c,.int .i64 k] w fun e w'=>e=.returned (.int .i64 (ZCV k ds))∧Got (ZfI ZCD) base [.slice A n c] (ZC0 k ds) L w'∧ZDm L w w':=by
 have H:=Lib.hid h
 have HN:=Lib.hid hn
 have hk1':k+n≤4611686018427387904:=by simp only[ZCV] at hk1;omega
 clear h hn hk1
 go_enter func68,ntmps68
 go_wp2
 go_loopw [1,5] (fun q j wr=>∃(i:Nat) (kk:Int) (D:List ByteArray),i≤n∧j=.int .i64 i∧q=.int .i64 kk∧1≤kk∧kk+(n - i:Nat)≤4611686018427387904∧Hid (kk=k+i∧D.length=i∧D++ZC0 kk (ds.drop i)=ZC0 k ds)∧Hid (Got (ZfI ZCD) base [.slice A n c] (D++ds.drop i) L wr)∧Hid (ZDm L w wr)) (fun _ j _=>n - (intOf j).toNat)
 case atStart=>exact ⟨0,k,[],A4 _,rfl,rfl,hk0,by omega,⟨by omega,rfl,rfl⟩,H.out,ZDm.refl _ _⟩
 case round=>
  obtain ⟨i,kk,D,hi,rfl,rfl,h1,h2,HD,HG,HO⟩:=hrel
  by_cases hlt:i<n
  ·have hil:i<ds.length:=by have:=HN.out;omega
   obtain ⟨hkk,hDl,hDm⟩:=HD.out
   have hcl:i<(D++ds.drop i).length:=by simp;omega
   obtain ⟨b,off,cs,Lk,rfl,hbL,hLk,hown,hrep,hcells,hput⟩:=HG.out.focus hcl
   obtain ⟨rfl,hlk,_⟩:=hrep
   have HEl:=Lib.hid (ZD7.start (m:=1) hcells rfl hown)
   have hnext:Hid (ds.drop i=ds[i]::ds.drop (i+1)):=A9 _
   have HPut:=Lib.hid hput
   have HOwn:=Lib.hid hown
   have HLk:=Lib.hid hLk
   have HLe:=Lib.hid hlk
   have HDn:Hid (kk+1=k+(i+1:Nat)∧(D++[mTx kk]).length=i+1∧(D++[mTx kk])++ZC0 (kk+1) (ds.drop (i+1))=ZC0 k ds):=by
    refine ⟨by omega,by simp [hDl],?_⟩
    rw [←hDm,hnext.out];simp [ZC0]
   have hset:Hid ((D++ds.drop i).set i (mTx kk)=(D++[mTx kk])++ds.drop (i+1)):=by
    rw [Hid,AT _ _ (by omega),show i - D.length=0 by omega,hnext.out,AU];simp
   clear hput hown hLk hcells hkk hDl hDm hlk
   simp only[show ZCD.size=1 from rfl,AR] at HEl HPut
   go_wp2_with (go_at_call 66;refine (ZDe _ _ (by omega) (by omega)).mono ?_;rintro e w1 ⟨rfl,hb1⟩;have E1:=Lib.hid (HEl.out.later hb1);have q1:=E1.out.at (j:=0) rfl;have z1:=E1.out.frozen (off+i);clear hb1;simp only[A5] at q1)
   have E2:=Lib.hid (E1.out.set 0 (by omega) (.string (mTx kk)))
   have hO2:=Lib.hid (ZDA HOwn.out E2.out.plain E2.out.only (by rw [HLe.out];simp))
   have HGn:=Lib.hid (HPut.out _ _ (mTx kk) E2.out.only E2.out.cells E2.out.rest (by rw [HLe.out];exact ⟨rfl,rfl,ZD2 _ (by omega)⟩) hO2.out)
   have HOn:=Lib.hid (HO.out.trans (E2.out.only.mono (fun y m=>by rcases AH.1 m with rfl | m;exact hbL;exact HLk.out y m)))
   rw [hset.out] at HGn
   simp only[A5] at HGn HOn
   clear E2 hO2 HPut
   go_wp2_with fail
   go_roundw
   case rel=>exact ⟨i+1,kk+1,_,by omega,by go_num,rfl,by omega,by omega,HDn,HGn,HOn⟩
   case measure=>simp [intOf];omega
  ·obtain rfl:i=n:=by omega
   have hf:Hid (ZCV k ds=kk∧D=ZC0 k ds):=by
    obtain ⟨h1,h2,h3⟩:=HD.out
    have e:ds.drop i=[]:=AE (by have:=HN.out;omega)
    rw [e] at h3
    simp [ZC0] at h3
    exact ⟨by have:=HN.out;simp only[ZCV];omega,h3⟩
   have e:Hid (ds.drop i=[]):=AE (by have:=HN.out;omega)
   rw [e.out,AM] at HG
   go_wp2
   go_ret
   exact ⟨ZDf hf.out.1.symm,by rw [←hf.out.2];exact HG.out,HO.out⟩
set_option maxRecDepth 100000 in
set_option maxHeartbeats 4000000 in
theorem ZGd (A:Option Addr) (n c:Nat) (ds:List Zd) (L:List Nat) (base:Nat) (k:Int) (w:World) (hn:n=ds.length) (hm:n≤9223372036854775807) (hk0:1≤k) (hk1:ZDj k ds≤4611686018427387904) (h:Got (ZfI ZDc) base [.slice A n c] ds L w):
  Calls prog 19 #[.slice A n c,.int .i64 k] w fun e w'=>e=.returned (.int .i64 (ZDj k ds))∧Got (ZfI ZDc) base [.slice A n c] (ZEf k ds) L w'∧ZDm L w w':=by
 have H:=Lib.hid h
 have HN:=Lib.hid hn
 have HK:=Lib.hid hk1
 clear h hn hk1
 go_enter func19,ntmps19
 go_wp2
 go_loopw [1,5] (fun q j wr=>∃(i:Nat) (kk:Int) (D:List Zd),i≤n∧j=.int .i64 i∧q=.int .i64 kk∧1≤kk∧Hid (ZDj kk (ds.drop i)=ZDj k ds∧D.length=i∧D++ZEf kk (ds.drop i)=ZEf k ds)∧Hid (Got (ZfI ZDc) base [.slice A n c] (D++ds.drop i) L wr)∧Hid (ZDm L w wr)) (fun _ j _=>n - (intOf j).toNat)
 case atStart=>exact ⟨0,k,[],A4 _,rfl,rfl,hk0,⟨rfl,rfl,rfl⟩,H.out,ZDm.refl _ _⟩
 case round=>
  obtain ⟨i,kk,D,hi,rfl,rfl,h1,HD,HG,HO⟩:=hrel
  by_cases hlt:i<n
  ·have hil:i<ds.length:=by have:=HN.out;omega
   obtain ⟨hkk,hDl,hDm⟩:=HD.out
   have hcl:i<(D++ds.drop i).length:=by simp;omega
   obtain ⟨b,off,cs,Lk,rfl,hbL,hLk,hown,hrep,hcells,hput⟩:=HG.out.focus hcl
   have hnext:Hid (ds.drop i=ds[i]::ds.drop (i+1)):=A9 _
   have hxi:(D++ds.drop i)[i]=ds[i]:=by
    rw [Ab (by omega)];simp [hDl]
   rw [hxi] at hrep
   clear hxi
   generalize ds[i]=x at hrep hnext
   have hnb:Hid (ZDy kk x≤4611686018427387904):=by
    have:=ZFk (ZDy kk x) (ds.drop (i+1))
    rw [hnext.out] at hkk
    have hk:=HK.out
    rw [←hkk] at hk
    exact A7 this hk
   have hnb1:=hnb.out
   have hnb2:=ZFG kk x
   unfold ZDy at hnb1 hnb2
   have HDn:Hid (ZDj (ZDy kk x) (ds.drop (i+1))=ZDj k ds∧(D++[ZFa kk x]).length=i+1∧(D++[ZFa kk x])++ZEf (ZDy kk x) (ds.drop (i+1))=ZEf k ds):=by
    refine ⟨by rw [←hkk,hnext.out];rfl,by simp [hDl],?_⟩
    rw [←hDm,hnext.out];simp [ZEf]
   have hset:Hid ((D++ds.drop i).set i (ZFa kk x)=(D++[ZFa kk x])++ds.drop (i+1)):=by
    rw [Hid,AT _ _ (by omega),show i - D.length=0 by omega,hnext.out,AU];simp
   obtain ⟨A1,c1,L1,rfl,hLL,t0,n1,m1,s1⟩:=hrep
   unfold maxLen at m1
   subst Lk
   have HEl:=Lib.hid (ZD7.start (m:=2) hcells rfl hown)
   have hbn:=Lib.hid hown.head
   have G1:Hid (Got (ZfI ZCD) base [.slice A1 x.args.length c1] x.args L1 wr):=⟨⟨A1,c1,rfl,n1,(by unfold maxLen;omega),s1⟩,hown.tail⟩
   have bn1:Hid (b∉L1):=fun m=>hown.head (by simp [m])
   have sb1:Hid (∀y∈L1,y∈L1):=fun y m=>by simp [m]
   clear s1
   have HPut:=Lib.hid hput
   have HOwn:=Lib.hid hown
   have HLk:=Lib.hid hLk
   clear hput hown hLk hcells hkk hDl hDm
   simp only[show ZDc.size=2 from rfl] at HEl HPut
   have q0:=HEl.out.at (j:=0) rfl
   have z0:=HEl.out.frozen (off+i * 2)
   have q1:=HEl.out.at (j:=1) rfl
   have z1:=HEl.out.frozen (off+i * 2+1)
   simp only[A5] at q0
   have gm0:(0:Int)≤0:=by omega
   have mono_x_args:=ZC6 (kk+1) x.args
   go_wp2_with fail
   refine (ZDe _ _ (by omega) (by omega)).mono ?_
   rintro e w1 ⟨rfl,hb1⟩
   have HEl:=Lib.hid (HEl.out.later hb1)
   have G1:=Lib.hid (G1.out.later hb1)
   clear hb1
   clear q0 z0 q1 z1
   have q0:=HEl.out.at (j:=0) rfl
   have z0:=HEl.out.frozen (off+i * 2)
   have q1:=HEl.out.at (j:=1) rfl
   have z1:=HEl.out.frozen (off+i * 2+1)
   simp only[A5] at q0
   go_wp2_with fail
   have G1:=Lib.hid (G1.out.setFar (p:=⟨b,off+i * 2+0,none⟩) bn1.out (.string (mTx (kk))))
   refine (ZDM A1 _ c1 x.args L1 base _ _ rfl (by omega) (by omega) G1.out).mono ?_
   rintro e w2 ⟨rfl,g2,on2⟩
   have HEl:=Lib.hid ((HEl.out.set 0 (by omega) (.string (mTx (kk)))).marked on2 sb1.out bn1.out)
   have G1:=Lib.hid g2
   clear g2 on2
   clear q0 z0 q1 z1
   have q0:=HEl.out.at (j:=0) rfl
   have z0:=HEl.out.frozen (off+i * 2)
   have q1:=HEl.out.at (j:=1) rfl
   have z1:=HEl.out.frozen (off+i * 2+1)
   simp only[A5] at q0
   obtain ⟨nn1,mm1,ss1⟩:=ZCX G1.out.rep
   have hO2:=Lib.hid (ZDA HOwn.out HEl.out.plain HEl.out.only (fun y m=>by (try simp only[AK] at m)<;>(exact G1.out.own.plain y m)))
   have HGn:=Lib.hid (HPut.out _ _ (ZFa kk x) HEl.out.only HEl.out.cells HEl.out.rest ⟨A1,c1,L1,by simp [ZFa,ZDz],rfl,ZD2 _ (by omega),nn1,mm1,ss1⟩ hO2.out)
   have HOn:=Lib.hid (HO.out.trans (HEl.out.only.mono (fun y m=>by rcases AH.1 m with rfl | m;exact hbL;exact HLk.out y m)))
   rw [hset.out] at HGn
   try simp only[A5] at HGn HOn
   clear HEl hO2 HPut G1 nn1 mm1 ss1
   go_wp2_with fail
   go_roundw
   case rel=>exact ⟨i+1,ZDy kk x,_,by omega,by go_num,rfl,by unfold ZDy;omega,HDn,HGn,HOn⟩
   case measure=>simp [intOf];omega
  ·obtain rfl:i=n:=by omega
   have e:Hid (ds.drop i=[]):=AE (by have:=HN.out;omega)
   have hf:Hid (ZDj k ds=kk∧D=ZEf k ds):=by
    obtain ⟨h1,h2,h3⟩:=HD.out
    rw [e.out] at h3 h1
    simp [ZEf] at h3
    exact ⟨h1.symm,h3⟩
   rw [e.out,AM] at HG
   go_wp2
   go_ret
   exact ⟨ZDf hf.out.1.symm,by rw [←hf.out.2];exact HG.out,HO.out⟩
set_option maxRecDepth 100000 in
set_option maxHeartbeats 4000000 in
theorem ZGf (A:Option Addr) (n c:Nat) (ds:List Zr) (L:List Nat) (base:Nat) (k:Int) (w:World) (hn:n=ds.length) (hm:n≤9223372036854775807) (hk0:1≤k) (hk1:ZDi k ds≤4611686018427387904) (h:Got (ZfI ZDC) base [.slice A n c] ds L w):
  Calls prog 27 #[.slice A n c,.int .i64 k] w fun e w'=>e=.returned (.int .i64 (ZDi k ds))∧Got (ZfI ZDC) base [.slice A n c] (ZDX k ds) L w'∧ZDm L w w':=by
 have H:=Lib.hid h
 have HN:=Lib.hid hn
 have HK:=Lib.hid hk1
 clear h hn hk1
 go_enter func27,ntmps27
 go_wp2
 go_loopw [1,5] (fun q j wr=>∃(i:Nat) (kk:Int) (D:List Zr),i≤n∧j=.int .i64 i∧q=.int .i64 kk∧1≤kk∧Hid (ZDi kk (ds.drop i)=ZDi k ds∧D.length=i∧D++ZDX kk (ds.drop i)=ZDX k ds)∧Hid (Got (ZfI ZDC) base [.slice A n c] (D++ds.drop i) L wr)∧Hid (ZDm L w wr)) (fun _ j _=>n - (intOf j).toNat)
 case atStart=>exact ⟨0,k,[],A4 _,rfl,rfl,hk0,⟨rfl,rfl,rfl⟩,H.out,ZDm.refl _ _⟩
 case round=>
  obtain ⟨i,kk,D,hi,rfl,rfl,h1,HD,HG,HO⟩:=hrel
  by_cases hlt:i<n
  ·have hil:i<ds.length:=by have:=HN.out;omega
   obtain ⟨hkk,hDl,hDm⟩:=HD.out
   have hcl:i<(D++ds.drop i).length:=by simp;omega
   obtain ⟨b,off,cs,Lk,rfl,hbL,hLk,hown,hrep,hcells,hput⟩:=HG.out.focus hcl
   have hnext:Hid (ds.drop i=ds[i]::ds.drop (i+1)):=A9 _
   have hxi:(D++ds.drop i)[i]=ds[i]:=by
    rw [Ab (by omega)];simp [hDl]
   rw [hxi] at hrep
   clear hxi
   generalize ds[i]=x at hrep hnext
   have hnb:Hid (ZDw kk x≤4611686018427387904):=by
    have:=ZEF (ZDw kk x) (ds.drop (i+1))
    rw [hnext.out] at hkk
    have hk:=HK.out
    rw [←hkk] at hk
    exact A7 this hk
   have hnb1:=hnb.out
   have hnb2:=ZFI kk x
   unfold ZDw at hnb1 hnb2
   have HDn:Hid (ZDi (ZDw kk x) (ds.drop (i+1))=ZDi k ds∧(D++[ZE6 kk x]).length=i+1∧(D++[ZE6 kk x])++ZDX (ZDw kk x) (ds.drop (i+1))=ZDX k ds):=by
    refine ⟨by rw [←hkk,hnext.out];rfl,by simp [hDl],?_⟩
    rw [←hDm,hnext.out];simp [ZDX]
   have hset:Hid ((D++ds.drop i).set i (ZE6 kk x)=(D++[ZE6 kk x])++ds.drop (i+1)):=by
    rw [Hid,AT _ _ (by omega),show i - D.length=0 by omega,hnext.out,AU];simp
   obtain ⟨A1,c1,L1,rfl,hLL,t0,t1,t2,n1,m1,s1⟩:=hrep
   unfold maxLen at m1
   subst Lk
   have HEl:=Lib.hid (ZD7.start (m:=5) hcells rfl hown)
   have hbn:=Lib.hid hown.head
   have G1:Hid (Got (ZfI ZCD) base [.slice A1 x.pattern.args.length c1] x.pattern.args L1 wr):=⟨⟨A1,c1,rfl,n1,(by unfold maxLen;omega),s1⟩,hown.tail⟩
   have bn1:Hid (b∉L1):=fun m=>hown.head (by simp [m])
   have sb1:Hid (∀y∈L1,y∈L1):=fun y m=>by simp [m]
   clear s1
   have HPut:=Lib.hid hput
   have HOwn:=Lib.hid hown
   have HLk:=Lib.hid hLk
   clear hput hown hLk hcells hkk hDl hDm
   simp only[show ZDC.size=5 from rfl] at HEl HPut
   have q0:=HEl.out.at (j:=0) rfl
   have z0:=HEl.out.frozen (off+i * 5)
   have q1:=HEl.out.at (j:=1) rfl
   have z1:=HEl.out.frozen (off+i * 5+1)
   have q2:=HEl.out.at (j:=2) rfl
   have z2:=HEl.out.frozen (off+i * 5+2)
   have q3:=HEl.out.at (j:=3) rfl
   have z3:=HEl.out.frozen (off+i * 5+3)
   have q4:=HEl.out.at (j:=4) rfl
   have z4:=HEl.out.frozen (off+i * 5+4)
   simp only[A5] at q0
   have gm0:(0:Int)≤0:=by omega
   have mono_x_pattern_args:=ZC6 (kk+1+1) x.pattern.args
   go_wp2_with fail
   refine (ZDe _ _ (by omega) (by omega)).mono ?_
   rintro e w1 ⟨rfl,hb1⟩
   have HEl:=Lib.hid ((HEl.out.set 0 (by omega) (.int .i64 (kk))).later hb1)
   have G1:=Lib.hid ((G1.out.setFar (p:=⟨b,off+i * 5+0,none⟩) bn1.out (.int .i64 (kk))).later hb1)
   clear hb1
   clear q0 z0 q1 z1 q2 z2 q3 z3 q4 z4
   have q0:=HEl.out.at (j:=0) rfl
   have z0:=HEl.out.frozen (off+i * 5)
   have q1:=HEl.out.at (j:=1) rfl
   have z1:=HEl.out.frozen (off+i * 5+1)
   have q2:=HEl.out.at (j:=2) rfl
   have z2:=HEl.out.frozen (off+i * 5+2)
   have q3:=HEl.out.at (j:=3) rfl
   have z3:=HEl.out.frozen (off+i * 5+3)
   have q4:=HEl.out.at (j:=4) rfl
   have z4:=HEl.out.frozen (off+i * 5+4)
   simp only[A5] at q0
   go_wp2_with fail
   have G1:=Lib.hid (G1.out.setFar (p:=⟨b,off+i * 5+1,none⟩) bn1.out (.string (mTx (kk+1))))
   refine (ZDM A1 _ c1 x.pattern.args L1 base _ _ rfl (by omega) (by omega) G1.out).mono ?_
   rintro e w2 ⟨rfl,g2,on2⟩
   have HEl:=Lib.hid ((HEl.out.set 1 (by omega) (.string (mTx (kk+1)))).marked on2 sb1.out bn1.out)
   have G1:=Lib.hid g2
   clear g2 on2
   clear q0 z0 q1 z1 q2 z2 q3 z3 q4 z4
   have q0:=HEl.out.at (j:=0) rfl
   have z0:=HEl.out.frozen (off+i * 5)
   have q1:=HEl.out.at (j:=1) rfl
   have z1:=HEl.out.frozen (off+i * 5+1)
   have q2:=HEl.out.at (j:=2) rfl
   have z2:=HEl.out.frozen (off+i * 5+2)
   have q3:=HEl.out.at (j:=3) rfl
   have z3:=HEl.out.frozen (off+i * 5+3)
   have q4:=HEl.out.at (j:=4) rfl
   have z4:=HEl.out.frozen (off+i * 5+4)
   simp only[A5] at q0
   go_wp2_with fail
   refine (ZDe _ _ (by omega) (by omega)).mono ?_
   rintro e w3 ⟨rfl,hb3⟩
   have HEl:=Lib.hid (HEl.out.later hb3)
   have G1:=Lib.hid (G1.out.later hb3)
   clear hb3
   clear q0 z0 q1 z1 q2 z2 q3 z3 q4 z4
   have q0:=HEl.out.at (j:=0) rfl
   have z0:=HEl.out.frozen (off+i * 5)
   have q1:=HEl.out.at (j:=1) rfl
   have z1:=HEl.out.frozen (off+i * 5+1)
   have q2:=HEl.out.at (j:=2) rfl
   have z2:=HEl.out.frozen (off+i * 5+2)
   have q3:=HEl.out.at (j:=3) rfl
   have z3:=HEl.out.frozen (off+i * 5+3)
   have q4:=HEl.out.at (j:=4) rfl
   have z4:=HEl.out.frozen (off+i * 5+4)
   simp only[A5] at q0
   go_wp2_with fail
   refine (ZDe _ _ (by omega) (by omega)).mono ?_
   rintro e w4 ⟨rfl,hb4⟩
   have HEl:=Lib.hid ((HEl.out.set 3 (by omega) (.string (mTx (ZCV (kk+1+1) x.pattern.args)))).later hb4)
   have G1:=Lib.hid ((G1.out.setFar (p:=⟨b,off+i * 5+3,none⟩) bn1.out (.string (mTx (ZCV (kk+1+1) x.pattern.args)))).later hb4)
   clear hb4
   clear q0 z0 q1 z1 q2 z2 q3 z3 q4 z4
   have q0:=HEl.out.at (j:=0) rfl
   have z0:=HEl.out.frozen (off+i * 5)
   have q1:=HEl.out.at (j:=1) rfl
   have z1:=HEl.out.frozen (off+i * 5+1)
   have q2:=HEl.out.at (j:=2) rfl
   have z2:=HEl.out.frozen (off+i * 5+2)
   have q3:=HEl.out.at (j:=3) rfl
   have z3:=HEl.out.frozen (off+i * 5+3)
   have q4:=HEl.out.at (j:=4) rfl
   have z4:=HEl.out.frozen (off+i * 5+4)
   simp only[A5] at q0
   have HEl:=Lib.hid (HEl.out.set 4 (by omega) (.string (mTx (ZCV (kk+1+1) x.pattern.args+1))))
   have G1:=Lib.hid (G1.out.setFar (p:=⟨b,off+i * 5+4,none⟩) bn1.out (.string (mTx (ZCV (kk+1+1) x.pattern.args+1))))
   obtain ⟨nn1,mm1,ss1⟩:=ZCX G1.out.rep
   have hO2:=Lib.hid (ZDA HOwn.out HEl.out.plain HEl.out.only (fun y m=>by (try simp only[AK] at m)<;>(exact G1.out.own.plain y m)))
   have HGn:=Lib.hid (HPut.out _ _ (ZE6 kk x) HEl.out.only HEl.out.cells HEl.out.rest ⟨A1,c1,L1,by simp [ZE6,ZDz],rfl,ZD2 _ (by omega),ZD2 _ (by omega),ZD2 _ (by omega),nn1,mm1,ss1⟩ hO2.out)
   have HOn:=Lib.hid (HO.out.trans (HEl.out.only.mono (fun y m=>by rcases AH.1 m with rfl | m;exact hbL;exact HLk.out y m)))
   rw [hset.out] at HGn
   try simp only[A5] at HGn HOn
   clear HEl hO2 HPut G1 nn1 mm1 ss1
   go_wp2_with fail
   go_roundw
   case rel=>exact ⟨i+1,ZDw kk x,_,by omega,by go_num,rfl,by unfold ZDw;omega,HDn,HGn,HOn⟩
   case measure=>simp [intOf];omega
  ·obtain rfl:i=n:=by omega
   have e:Hid (ds.drop i=[]):=AE (by have:=HN.out;omega)
   have hf:Hid (ZDi k ds=kk∧D=ZDX k ds):=by
    obtain ⟨h1,h2,h3⟩:=HD.out
    rw [e.out] at h3 h1
    simp [ZDX] at h3
    exact ⟨h1.symm,h3⟩
   rw [e.out,AM] at HG
   go_wp2
   go_ret
   exact ⟨ZDf hf.out.1.symm,by rw [←hf.out.2];exact HG.out,HO.out⟩
set_option maxRecDepth 100000 in
set_option maxHeartbeats 4000000 in
theorem ZFS (A:Option Addr) (n c:Nat) (ds:List Zx) (L:List Nat) (base:Nat) (k:Int) (w:World) (hn:n=ds.length) (hm:n≤9223372036854775807) (hk0:1≤k) (hk1:ZDg k ds≤4611686018427387904) (h:Got (ZfI ZC8) base [.slice A n c] ds L w):
  Calls prog 67 #[.slice A n c,.int .i64 k] w fun e w'=>e=.returned (.int .i64 (ZDg k ds))∧Got (ZfI ZC8) base [.slice A n c] (ZDu k ds) L w'∧ZDm L w w':=by
 have H:=Lib.hid h
 have HN:=Lib.hid hn
 have HK:=Lib.hid hk1
 clear h hn hk1
 go_enter func67,ntmps67
 go_wp2
 go_loopw [1,5] (fun q j wr=>∃(i:Nat) (kk:Int) (D:List Zx),i≤n∧j=.int .i64 i∧q=.int .i64 kk∧1≤kk∧Hid (ZDg kk (ds.drop i)=ZDg k ds∧D.length=i∧D++ZDu kk (ds.drop i)=ZDu k ds)∧Hid (Got (ZfI ZC8) base [.slice A n c] (D++ds.drop i) L wr)∧Hid (ZDm L w wr)) (fun _ j _=>n - (intOf j).toNat)
 case atStart=>exact ⟨0,k,[],A4 _,rfl,rfl,hk0,⟨rfl,rfl,rfl⟩,H.out,ZDm.refl _ _⟩
 case round=>
  obtain ⟨i,kk,D,hi,rfl,rfl,h1,HD,HG,HO⟩:=hrel
  by_cases hlt:i<n
  ·have hil:i<ds.length:=by have:=HN.out;omega
   obtain ⟨hkk,hDl,hDm⟩:=HD.out
   have hcl:i<(D++ds.drop i).length:=by simp;omega
   obtain ⟨b,off,cs,Lk,rfl,hbL,hLk,hown,hrep,hcells,hput⟩:=HG.out.focus hcl
   have hnext:Hid (ds.drop i=ds[i]::ds.drop (i+1)):=A9 _
   have hxi:(D++ds.drop i)[i]=ds[i]:=by
    rw [Ab (by omega)];simp [hDl]
   rw [hxi] at hrep
   clear hxi
   generalize ds[i]=x at hrep hnext
   have hnb:Hid (ZDk kk x≤4611686018427387904):=by
    have:=ZEj (ZDk kk x) (ds.drop (i+1))
    rw [hnext.out] at hkk
    have hk:=HK.out
    rw [←hkk] at hk
    exact A7 this hk
   have hnb1:=hnb.out
   have hnb2:=ZE3 kk x
   unfold ZDk at hnb1 hnb2
   have HDn:Hid (ZDg (ZDk kk x) (ds.drop (i+1))=ZDg k ds∧(D++[ZEi kk x]).length=i+1∧(D++[ZEi kk x])++ZDu (ZDk kk x) (ds.drop (i+1))=ZDu k ds):=by
    refine ⟨by rw [←hkk,hnext.out];rfl,by simp [hDl],?_⟩
    rw [←hDm,hnext.out];simp [ZDu]
   have hset:Hid ((D++ds.drop i).set i (ZEi kk x)=(D++[ZEi kk x])++ds.drop (i+1)):=by
    rw [Hid,AT _ _ (by omega),show i - D.length=0 by omega,hnext.out,AU];simp
   obtain ⟨A1,c1,L1,rfl,hLL,t0,n1,m1,s1⟩:=hrep
   unfold maxLen at m1
   subst Lk
   have HEl:=Lib.hid (ZD7.start (m:=3) hcells rfl hown)
   have hbn:=Lib.hid hown.head
   have G1:Hid (Got (ZfI ZCD) base [.slice A1 x.pattern.args.length c1] x.pattern.args L1 wr):=⟨⟨A1,c1,rfl,n1,(by unfold maxLen;omega),s1⟩,hown.tail⟩
   have bn1:Hid (b∉L1):=fun m=>hown.head (by simp [m])
   have sb1:Hid (∀y∈L1,y∈L1):=fun y m=>by simp [m]
   clear s1
   have HPut:=Lib.hid hput
   have HOwn:=Lib.hid hown
   have HLk:=Lib.hid hLk
   clear hput hown hLk hcells hkk hDl hDm
   simp only[show ZC8.size=3 from rfl] at HEl HPut
   have q0:=HEl.out.at (j:=0) rfl
   have z0:=HEl.out.frozen (off+i * 3)
   have q1:=HEl.out.at (j:=1) rfl
   have z1:=HEl.out.frozen (off+i * 3+1)
   have q2:=HEl.out.at (j:=2) rfl
   have z2:=HEl.out.frozen (off+i * 3+2)
   simp only[A5] at q0
   have gm0:(0:Int)≤0:=by omega
   have mono_x_pattern_args:=ZC6 (kk+1+1) x.pattern.args
   go_wp2_with fail
   refine (ZDe _ _ (by omega) (by omega)).mono ?_
   rintro e w1 ⟨rfl,hb1⟩
   have HEl:=Lib.hid ((HEl.out.set 0 (by omega) (.int .i64 (kk))).later hb1)
   have G1:=Lib.hid ((G1.out.setFar (p:=⟨b,off+i * 3+0,none⟩) bn1.out (.int .i64 (kk))).later hb1)
   clear hb1
   clear q0 z0 q1 z1 q2 z2
   have q0:=HEl.out.at (j:=0) rfl
   have z0:=HEl.out.frozen (off+i * 3)
   have q1:=HEl.out.at (j:=1) rfl
   have z1:=HEl.out.frozen (off+i * 3+1)
   have q2:=HEl.out.at (j:=2) rfl
   have z2:=HEl.out.frozen (off+i * 3+2)
   simp only[A5] at q0
   go_wp2_with fail
   have G1:=Lib.hid (G1.out.setFar (p:=⟨b,off+i * 3+1,none⟩) bn1.out (.string (mTx (kk+1))))
   refine (ZDM A1 _ c1 x.pattern.args L1 base _ _ rfl (by omega) (by omega) G1.out).mono ?_
   rintro e w2 ⟨rfl,g2,on2⟩
   have HEl:=Lib.hid ((HEl.out.set 1 (by omega) (.string (mTx (kk+1)))).marked on2 sb1.out bn1.out)
   have G1:=Lib.hid g2
   clear g2 on2
   clear q0 z0 q1 z1 q2 z2
   have q0:=HEl.out.at (j:=0) rfl
   have z0:=HEl.out.frozen (off+i * 3)
   have q1:=HEl.out.at (j:=1) rfl
   have z1:=HEl.out.frozen (off+i * 3+1)
   have q2:=HEl.out.at (j:=2) rfl
   have z2:=HEl.out.frozen (off+i * 3+2)
   simp only[A5] at q0
   obtain ⟨nn1,mm1,ss1⟩:=ZCX G1.out.rep
   have hO2:=Lib.hid (ZDA HOwn.out HEl.out.plain HEl.out.only (fun y m=>by (try simp only[AK] at m)<;>(exact G1.out.own.plain y m)))
   have HGn:=Lib.hid (HPut.out _ _ (ZEi kk x) HEl.out.only HEl.out.cells HEl.out.rest ⟨A1,c1,L1,by simp [ZEi,ZDz],rfl,ZD2 _ (by omega),nn1,mm1,ss1⟩ hO2.out)
   have HOn:=Lib.hid (HO.out.trans (HEl.out.only.mono (fun y m=>by rcases AH.1 m with rfl | m;exact hbL;exact HLk.out y m)))
   rw [hset.out] at HGn
   try simp only[A5] at HGn HOn
   clear HEl hO2 HPut G1 nn1 mm1 ss1
   go_wp2_with fail
   go_roundw
   case rel=>exact ⟨i+1,ZDk kk x,_,by omega,by go_num,rfl,by unfold ZDk;omega,HDn,HGn,HOn⟩
   case measure=>simp [intOf];omega
  ·obtain rfl:i=n:=by omega
   have e:Hid (ds.drop i=[]):=AE (by have:=HN.out;omega)
   have hf:Hid (ZDg k ds=kk∧D=ZDu k ds):=by
    obtain ⟨h1,h2,h3⟩:=HD.out
    rw [e.out] at h3 h1
    simp [ZDu] at h3
    exact ⟨h1.symm,h3⟩
   rw [e.out,AM] at HG
   go_wp2
   go_ret
   exact ⟨ZDf hf.out.1.symm,by rw [←hf.out.2];exact HG.out,HO.out⟩
set_option maxRecDepth 100000 in
set_option maxHeartbeats 4000000 in
theorem ZGh (A:Option Addr) (n c:Nat) (ds:List Zf) (L:List Nat) (base:Nat) (k:Int) (w:World) (hn:n=ds.length) (hm:n≤9223372036854775807) (hk0:1≤k) (hk1:ZC5 k ds≤4611686018427387904) (h:Got (ZfI ZDB) base [.slice A n c] ds L w):
  Calls prog 18 #[.slice A n c,.int .i64 k] w fun e w'=>e=.returned (.int .i64 (ZC5 k ds))∧Got (ZfI ZDB) base [.slice A n c] (ZEg k ds) L w'∧ZDm L w w':=by
 have H:=Lib.hid h
 have HN:=Lib.hid hn
 have HK:=Lib.hid hk1
 clear h hn hk1
 go_enter func18,ntmps18
 go_wp2
 go_loopw [1,5] (fun q j wr=>∃(i:Nat) (kk:Int) (D:List Zf),i≤n∧j=.int .i64 i∧q=.int .i64 kk∧1≤kk∧Hid (ZC5 kk (ds.drop i)=ZC5 k ds∧D.length=i∧D++ZEg kk (ds.drop i)=ZEg k ds)∧Hid (Got (ZfI ZDB) base [.slice A n c] (D++ds.drop i) L wr)∧Hid (ZDm L w wr)) (fun _ j _=>n - (intOf j).toNat)
 case atStart=>exact ⟨0,k,[],A4 _,rfl,rfl,hk0,⟨rfl,rfl,rfl⟩,H.out,ZDm.refl _ _⟩
 case round=>
  obtain ⟨i,kk,D,hi,rfl,rfl,h1,HD,HG,HO⟩:=hrel
  by_cases hlt:i<n
  ·have hil:i<ds.length:=by have:=HN.out;omega
   obtain ⟨hkk,hDl,hDm⟩:=HD.out
   have hcl:i<(D++ds.drop i).length:=by simp;omega
   obtain ⟨b,off,cs,Lk,rfl,hbL,hLk,hown,hrep,hcells,hput⟩:=HG.out.focus hcl
   have hnext:Hid (ds.drop i=ds[i]::ds.drop (i+1)):=A9 _
   have hxi:(D++ds.drop i)[i]=ds[i]:=by
    rw [Ab (by omega)];simp [hDl]
   rw [hxi] at hrep
   clear hxi
   generalize ds[i]=x at hrep hnext
   have hnb:Hid (ZDv kk x≤4611686018427387904):=by
    have:=ZFq (ZDv kk x) (ds.drop (i+1))
    rw [hnext.out] at hkk
    have hk:=HK.out
    rw [←hkk] at hk
    exact A7 this hk
   have hnb1:=hnb.out
   have hnb2:=ZFH kk x
   unfold ZDv at hnb1 hnb2
   have HDn:Hid (ZC5 (ZDv kk x) (ds.drop (i+1))=ZC5 k ds∧(D++[ZE9 kk x]).length=i+1∧(D++[ZE9 kk x])++ZEg (ZDv kk x) (ds.drop (i+1))=ZEg k ds):=by
    refine ⟨by rw [←hkk,hnext.out];rfl,by simp [hDl],?_⟩
    rw [←hDm,hnext.out];simp [ZEg]
   have hset:Hid ((D++ds.drop i).set i (ZE9 kk x)=(D++[ZE9 kk x])++ds.drop (i+1)):=by
    rw [Hid,AT _ _ (by omega),show i - D.length=0 by omega,hnext.out,AU];simp
   obtain ⟨A1,c1,L1,A2,c2,L2,rfl,hLL,t0,n1,m1,s1,n2,m2,s2⟩:=hrep
   unfold maxLen at m1 m2
   subst hLL
   have HEl:=Lib.hid (ZD7.start (m:=4) hcells rfl hown)
   have hbn:=Lib.hid hown.head
   have G1:Hid (Got (ZfI ZDC) base [.slice A1 x.cond.length c1] x.cond L1 wr):=⟨⟨A1,c1,rfl,n1,(by unfold maxLen;omega),s1⟩,hown.tail.left⟩
   have bn1:Hid (b∉L1):=fun m=>hown.head (by simp [m])
   have sb1:Hid (∀y∈L1,y∈L1++L2):=fun y m=>by simp [m]
   have ap1_2:Hid (∀y∈L1,y∉L2):=fun y m m'=>hown.tail.apart y m (by simp [m'])
   have ap2_1:Hid (∀y∈L2,y∉L1):=fun y m m'=>ap1_2.out y m' m
   have G2:Hid (Got (ZfI ZC8) base [.slice A2 x.thn.length c2] x.thn L2 wr):=⟨⟨A2,c2,rfl,n2,(by unfold maxLen;omega),s2⟩,hown.tail.right⟩
   have bn2:Hid (b∉L2):=fun m=>hown.head (by simp [m])
   have sb2:Hid (∀y∈L2,y∈L1++L2):=fun y m=>by simp [m]
   clear s1
   clear s2
   have HPut:=Lib.hid hput
   have HOwn:=Lib.hid hown
   have HLk:=Lib.hid hLk
   clear hput hown hLk hcells hkk hDl hDm
   simp only[show ZDB.size=4 from rfl] at HEl HPut
   have q0:=HEl.out.at (j:=0) rfl
   have z0:=HEl.out.frozen (off+i * 4)
   have q1:=HEl.out.at (j:=1) rfl
   have z1:=HEl.out.frozen (off+i * 4+1)
   have q2:=HEl.out.at (j:=2) rfl
   have z2:=HEl.out.frozen (off+i * 4+2)
   have q3:=HEl.out.at (j:=3) rfl
   have z3:=HEl.out.frozen (off+i * 4+3)
   simp only[A5] at q0
   have gm0:(0:Int)≤0:=by omega
   have mono_x_cond:=ZEF (kk+1+1) x.cond
   have mono_x_thn:=ZEj (ZDi (kk+1+1) x.cond) x.thn
   go_wp2_with fail
   refine (ZDe _ _ (by omega) (by omega)).mono ?_
   rintro e w1 ⟨rfl,hb1⟩
   have HEl:=Lib.hid (HEl.out.later hb1)
   have G1:=Lib.hid (G1.out.later hb1)
   have G2:=Lib.hid (G2.out.later hb1)
   clear hb1
   clear q0 z0 q1 z1 q2 z2 q3 z3
   have q0:=HEl.out.at (j:=0) rfl
   have z0:=HEl.out.frozen (off+i * 4)
   have q1:=HEl.out.at (j:=1) rfl
   have z1:=HEl.out.frozen (off+i * 4+1)
   have q2:=HEl.out.at (j:=2) rfl
   have z2:=HEl.out.frozen (off+i * 4+2)
   have q3:=HEl.out.at (j:=3) rfl
   have z3:=HEl.out.frozen (off+i * 4+3)
   simp only[A5] at q0
   go_wp2_with fail
   have G1:=Lib.hid ((G1.out.setFar (p:=⟨b,off+i * 4+0,none⟩) bn1.out (.string (mTx (kk)))).setFar (p:=⟨b,off+i * 4+1,none⟩) bn1.out (.int .i64 (kk+1)))
   refine (ZGf A1 _ c1 x.cond L1 base _ _ rfl (by omega) (by omega) (by omega) G1.out).mono ?_
   rintro e w2 ⟨rfl,g2,on2⟩
   have HEl:=Lib.hid (((HEl.out.set 0 (by omega) (.string (mTx (kk)))).set 1 (by omega) (.int .i64 (kk+1))).marked on2 sb1.out bn1.out)
   have G1:=Lib.hid g2
   have G2:=Lib.hid (((G2.out.setFar (p:=⟨b,off+i * 4+0,none⟩) bn2.out (.string (mTx (kk)))).setFar (p:=⟨b,off+i * 4+1,none⟩) bn2.out (.int .i64 (kk+1))).only on2 ap2_1.out)
   clear g2 on2
   clear q0 z0 q1 z1 q2 z2 q3 z3
   have q0:=HEl.out.at (j:=0) rfl
   have z0:=HEl.out.frozen (off+i * 4)
   have q1:=HEl.out.at (j:=1) rfl
   have z1:=HEl.out.frozen (off+i * 4+1)
   have q2:=HEl.out.at (j:=2) rfl
   have z2:=HEl.out.frozen (off+i * 4+2)
   have q3:=HEl.out.at (j:=3) rfl
   have z3:=HEl.out.frozen (off+i * 4+3)
   simp only[A5] at q0
   go_wp2_with fail
   refine (ZFS A2 _ c2 x.thn L2 base _ _ rfl (by omega) (by omega) (by omega) G2.out).mono ?_
   rintro e w3 ⟨rfl,g3,on3⟩
   have HEl:=Lib.hid (HEl.out.marked on3 sb2.out bn2.out)
   have G1:=Lib.hid (G1.out.only on3 ap1_2.out)
   have G2:=Lib.hid g3
   clear g3 on3
   clear q0 z0 q1 z1 q2 z2 q3 z3
   have q0:=HEl.out.at (j:=0) rfl
   have z0:=HEl.out.frozen (off+i * 4)
   have q1:=HEl.out.at (j:=1) rfl
   have z1:=HEl.out.frozen (off+i * 4+1)
   have q2:=HEl.out.at (j:=2) rfl
   have z2:=HEl.out.frozen (off+i * 4+2)
   have q3:=HEl.out.at (j:=3) rfl
   have z3:=HEl.out.frozen (off+i * 4+3)
   simp only[A5] at q0
   obtain ⟨nn1,mm1,ss1⟩:=ZCX G1.out.rep
   obtain ⟨nn2,mm2,ss2⟩:=ZCX G2.out.rep
   have hO2:=Lib.hid (ZDA HOwn.out HEl.out.plain HEl.out.only (fun y m=>by (try simp only[AK] at m)<;>(rcases m with m | m<;>first | exact G1.out.own.plain y m | exact G2.out.own.plain y m)))
   have HGn:=Lib.hid (HPut.out _ _ (ZE9 kk x) HEl.out.only HEl.out.cells HEl.out.rest ⟨A1,c1,L1,A2,c2,L2,by simp [ZE9,ZHg,ZGs],rfl,ZD2 _ (by omega),nn1,mm1,ss1,nn2,mm2,ss2⟩ hO2.out)
   have HOn:=Lib.hid (HO.out.trans (HEl.out.only.mono (fun y m=>by rcases AH.1 m with rfl | m;exact hbL;exact HLk.out y m)))
   rw [hset.out] at HGn
   try simp only[A5] at HGn HOn
   clear HEl hO2 HPut G1 G2 nn1 nn2 mm1 mm2 ss1 ss2
   go_wp2_with fail
   go_roundw
   case rel=>exact ⟨i+1,ZDv kk x,_,by omega,by go_num,rfl,by unfold ZDv;omega,HDn,HGn,HOn⟩
   case measure=>simp [intOf];omega
  ·obtain rfl:i=n:=by omega
   have e:Hid (ds.drop i=[]):=AE (by have:=HN.out;omega)
   have hf:Hid (ZC5 k ds=kk∧D=ZEg k ds):=by
    obtain ⟨h1,h2,h3⟩:=HD.out
    rw [e.out] at h3 h1
    simp [ZEg] at h3
    exact ⟨h1.symm,h3⟩
   rw [e.out,AM] at HG
   go_wp2
   go_ret
   exact ⟨ZDf hf.out.1.symm,by rw [←hf.out.2];exact HG.out,HO.out⟩
end
section
open Go.RowKit
theorem ZEv {w w1:World} {B:Nat} (h:Below w.drew.heap.size w.drew w1) (hB:B≤w.heap.size):Below B w w1:=⟨h.os,h.tape,h.output,h.size,fun k hk=>h.block k (AI hk hB)⟩
set_option maxHeartbeats 1600000 in
theorem ZFO (A:Option Addr) (n c:Nat) (ds:List ByteArray) (L:List Nat) (k:Int) (w:World) (hn:n=ds.length) (hk0:1≤k) (hk1:ZCV k ds≤4611686018427387904) (h:Sli ZCD w A (ZC0 k ds) L):
  Calls prog 69 #[.slice A n c,.int .i64 k] w fun e w'=>e=.returned (.int .i64 (ZCV k ds))∧Below w.heap.size w w':=by
 have H:=Lib.hid h
 have HN:=Lib.hid hn
 have hk1':k+n≤4611686018427387904:=by simp only[ZCV] at hk1;omega
 clear h hn hk1
 go_enter func69,ntmps69
 go_wp2
 go_loopw [1,5] (fun q j wr=>∃(i:Nat) (kk:Int),i≤n∧j=.int .i64 i∧q=.int .i64 kk∧1≤kk∧kk+(n - i:Nat)≤4611686018427387904∧Hid (kk=k+i∧(ZC0 k ds).drop i=ZC0 kk (ds.drop i))∧Hid (Below w.heap.size w wr)) (fun _ j _=>n - (intOf j).toNat)
 case atStart=>exact ⟨0,k,A4 _,rfl,rfl,hk0,by omega,⟨by omega,rfl⟩,Below.refl _ _⟩
 case round=>
  obtain ⟨i,kk,hi,rfl,rfl,h1,h2,HD,HB⟩:=hrel
  by_cases hlt:i<n
  ·have hil:i<ds.length:=by have:=HN.out;omega
   obtain ⟨hkk,hdr⟩:=HD.out
   have hml:i<(ZC0 k ds).length:=by rw [ZDz];exact hil
   obtain ⟨b,off,cs,Lk,rfl,hbL,_,hrep,hc⟩:=H.out.at_ hml
   have hdr2:=hdr
   rw [A9 hml,A9 hil,ZC0] at hdr2
   injection hdr2 with e1 e2
   rw [e1] at hrep
   obtain ⟨rfl,_,_⟩:=hrep
   have hbl:b<w.heap.size:=H.out.lt b hbL
   have hbr:b<wr.heap.size:=AI hbl HB.out.size
   have q0:=(HB.out.cell (p:=⟨b,off+(i * ZCD.size+0),none⟩) hbl).trans (hc 0 _ rfl)
   simp only[show ZCD.size=1 from rfl,AR,A5] at q0
   have HDn:Hid (kk+1=k+(i+1:Nat)∧(ZC0 k ds).drop (i+1)=ZC0 (kk+1) (ds.drop (i+1))):=⟨by omega,e2⟩
   clear hc hkk hdr e1 e2
   have i0:(0:Int)≤i:=by omega
   have i1:(i:Int)<n:=by omega
   go_wp2_with fail
   go_region_held3 (fun w'=>w'.cell? ⟨b,off+i,none⟩=some (.string (mTx kk))) (first | go_keep | exact (hb1.cell (p:=⟨b,off+i,none⟩) hbr).trans q0) (first | (go_at_call 66;refine (ZDe _ _ (by omega) (by omega)).mono ?_;rintro e w1 ⟨rfl,hb1⟩))
   have HBn:=Lib.hid (HB.out.trans (ZEv hb1 HB.out.size))
   clear hb1
   go_wp2_with fail
   go_roundw
   case rel=>exact ⟨i+1,kk+1,by omega,by go_num,rfl,by omega,by omega,HDn,HBn⟩
   case measure=>simp [intOf];omega
  ·obtain rfl:i=n:=by omega
   have hf:Hid (ZCV k ds=kk):=by
    obtain ⟨h1,_⟩:=HD.out
    have:=HN.out;rw [Hid];simp only[ZCV];omega
   go_wp2
   go_ret
   exact ⟨ZDf hf.out.symm,HB.out⟩
set_option maxRecDepth 100000 in
set_option maxHeartbeats 4000000 in
theorem ZKo (A:Option Addr) (n c:Nat) (ds:List Zd) (L:List Nat) (k:Int) (w:World) (hn:n=ds.length) (hm:n≤9223372036854775807) (hk0:1≤k) (hk1:ZDj k ds≤4611686018427387904) (h:Sli ZDc w A (ZEf k ds) L):
  Calls prog 20 #[.slice A n c,.int .i64 k] w fun e w'=>e=.returned (.int .i64 (ZDj k ds))∧Below w.heap.size w w':=by
 have H:=Lib.hid h
 have HN:=Lib.hid hn
 have HK:=Lib.hid hk1
 clear h hn hk1
 go_enter func20,ntmps20
 go_wp2
 go_loopw [1,5] (fun q j wr=>∃(i:Nat) (kk:Int),i≤n∧j=.int .i64 i∧q=.int .i64 kk∧1≤kk∧Hid (ZDj kk (ds.drop i)=ZDj k ds∧(ZEf k ds).drop i=ZEf kk (ds.drop i))∧Hid (Below w.heap.size w wr)) (fun _ j _=>n - (intOf j).toNat)
 case atStart=>exact ⟨0,k,A4 _,rfl,rfl,hk0,⟨rfl,rfl⟩,Below.refl _ _⟩
 case round=>
  obtain ⟨i,kk,hi,rfl,rfl,h1,HD,HB⟩:=hrel
  by_cases hlt:i<n
  ·have hil:i<ds.length:=by have:=HN.out;omega
   obtain ⟨hkk,hdr⟩:=HD.out
   have hml:i<(ZEf k ds).length:=by rw [ZKy];exact hil
   obtain ⟨b,off,cs,Lk,rfl,hbL,hLk,hrep,hc⟩:=H.out.at_ hml
   rw [A9 hml,A9 hil,ZEf] at hdr
   injection hdr with e1 e2
   rw [e1] at hrep
   clear e1
   have hnext:ds.drop i=ds[i]::ds.drop (i+1):=A9 _
   rw [hnext] at hkk
   clear hnext
   generalize ds[i]=x at hrep hkk e2
   have hnb:Hid (ZDy kk x≤4611686018427387904):=by
    have:=ZFk (ZDy kk x) (ds.drop (i+1))
    have hk:=HK.out
    rw [←hkk] at hk
    exact A7 this hk
   have hnb1:=hnb.out
   have hnb2:=ZFG kk x
   unfold ZDy at hnb1 hnb2
   have HDn:Hid (ZDj (ZDy kk x) (ds.drop (i+1))=ZDj k ds∧(ZEf k ds).drop (i+1)=ZEf (ZDy kk x) (ds.drop (i+1))):=⟨hkk,e2⟩
   have hbl:b<w.heap.size:=H.out.lt b hbL
   clear hkk e2
   obtain ⟨A1,c1,L1,rfl,hLL,t0,n1,m1,s1⟩:=hrep
   have S1:=Lib.hid s1
   have lL1:Hid (∀y∈L1,y<w.heap.size):=fun y m=>H.out.lt y (hLk y (by rw [hLL];simp [m]))
   have ll1:(ZFa kk x).args.length=x.args.length:=ZDz _ _
   clear s1
   have Q0:=Lib.hid (hc 0 _ rfl)
   have Q1:=Lib.hid (hc 1 _ rfl)
   unfold maxLen at m1
   rw [ll1] at Q1 n1
   clear hc ll1
   have i0:(0:Int)≤i:=by omega
   have i1:(i:Int)<n:=by omega
   have mono_x_args:=ZC6 (kk+1) x.args
   have q0:wr.cell? ⟨b,off+i * 2,none⟩=some (.string (mTx (kk))):=(HB.out.cell (p:=⟨b,off+(i * 2+0),none⟩) hbl).trans Q0.out
   have q1:wr.cell? ⟨b,off+i * 2+1,none⟩=some (.slice A1 x.args.length c1):=(HB.out.cell (p:=⟨b,off+(i * 2+1),none⟩) hbl).trans Q1.out
   have hbr:b<wr.heap.size:=AI hbl HB.out.size
   go_wp2_with fail
   go_region_held3 (fun w'=>w'.cell? ⟨b,off+i * 2,none⟩=some (.string (mTx (kk)))) (first | go_keep | exact (hb1.cell (p:=⟨b,off+i * 2,none⟩) hbr).trans q0) (first | (go_at_call 66;refine (ZDe _ _ (by omega) (by omega)).mono ?_;rintro e w1 ⟨rfl,hb1⟩))
   have HB:=Lib.hid (HB.out.trans (ZEv hb1 HB.out.size))
   clear hb1
   clear q0 q1
   have q0:w1.cell? ⟨b,off+i * 2,none⟩=some (.string (mTx (kk))):=(HB.out.cell (p:=⟨b,off+(i * 2+0),none⟩) hbl).trans Q0.out
   have q1:w1.cell? ⟨b,off+i * 2+1,none⟩=some (.slice A1 x.args.length c1):=(HB.out.cell (p:=⟨b,off+(i * 2+1),none⟩) hbl).trans Q1.out
   replace hbr:b<w1.heap.size:=AI hbl HB.out.size
   go_wp2_with fail
   refine (ZFO A1 _ c1 x.args L1 _ _ rfl (by omega) (by omega) (S1.out.keep (ZCW HB.out lL1.out))).mono ?_
   rintro e w2 ⟨rfl,hb2⟩
   have HB:=Lib.hid (HB.out.trans (hb2.mono HB.out.size))
   clear hb2
   clear q0 q1
   have q0:w2.cell? ⟨b,off+i * 2,none⟩=some (.string (mTx (kk))):=(HB.out.cell (p:=⟨b,off+(i * 2+0),none⟩) hbl).trans Q0.out
   have q1:w2.cell? ⟨b,off+i * 2+1,none⟩=some (.slice A1 x.args.length c1):=(HB.out.cell (p:=⟨b,off+(i * 2+1),none⟩) hbl).trans Q1.out
   replace hbr:b<w2.heap.size:=AI hbl HB.out.size
   have ge2:¬(ZCV (kk+1) x.args<0):=by omega
   go_wp2_with fail
   go_roundw
   case rel=>exact ⟨i+1,ZDy kk x,by omega,by go_num,rfl,by unfold ZDy;omega,HDn,HB⟩
   case measure=>simp [intOf];omega
  ·obtain rfl:i=n:=by omega
   have hf:Hid (ZDj k ds=kk):=by
    obtain ⟨h1,_⟩:=HD.out
    rw [Hid,←h1,AE (by have:=HN.out;omega)];rfl
   go_wp2
   go_ret
   exact ⟨ZDf hf.out.symm,HB.out⟩
end
section
open Go.RowKit Go.Deep
def ZtV {α:Type} (P:Program) (t:TypeId) (c:ZaE α) (wf:α→Prop):Prop:=
 ∀{H:Type} {enc:TypeId × Value→H} {w:World} {base:Nat} {spare:Nat→Bool} {held:Bool} {fuel:Nat} {cs:List Value} {x:DataW H × List MemPlace},
  DataW.trod enc P w base spare held fuel t cs=some x→∃d L,c.rep w cs d L∧wf d
theorem ZFD {P:Program} {t:TypeId} (ht:P.underlying t=some (.int .i64)):ZtV P t Zqc ZoN:=by
 intro H enc w base spare held fuel cs x h
 obtain ⟨n,rfl,_,hw⟩:=DataW.trod_int ht h
 refine ⟨n,[],⟨rfl,rfl⟩,?_⟩
 simp [Lit.wf,IntKind.min,IntKind.max,IntKind.signed,IntKind.bits] at hw
 exact ⟨by omega,by omega⟩
theorem ZDL {P:Program} {t:TypeId} (ht:P.underlying t=some .string):ZtV P t ZCD (fun _=>True):=by
 intro H enc w base spare held fuel cs x h
 obtain ⟨s,rfl,_,hs⟩:=DataW.trod_string ht h
 exact ⟨s,[],⟨rfl,rfl,by unfold maxLen at hs;omega⟩,trivial⟩
theorem ZpR {α:Type} {c:ZaE α} {wf:α→Prop} {P:Program} {t e:TypeId} (ht:P.underlying t=some (.slice e)) (hc:P.cellsOf e=c.size) (ho:ZtV P e c wf):ZtV P t (ZfI c) (fun ds=>∀d∈ds,wf d):=by
 intro H enc w base spare held fuel cs x h
 rcases open_slice ht h with ⟨rfl,_⟩ | ⟨a,len,cap,m,n,D,Pl,rfl,hb,hl,hm,hmm,_,hx⟩
 ·exact ⟨[],[],⟨none,0,rfl,A6 _,A4 _,Sli.nil _ _⟩,by simp⟩
 ·have hlm:len≤m:=by rw [hmm];split<;>omega
  have key:∀q,q≤len→∃(xs:List Value) (ds:List α) (L:List Nat),ds.length=q∧(∀j u,xs[j]?=some u→w.cell? (a.add j)=some u)∧c.reps w xs ds L∧∀d∈ds,wf d:=by
   intro q
   induction q with
   | zero=>exact fun _=>⟨[],[],[],rfl,by simp,⟨rfl,rfl⟩,by simp⟩
   | succ q ih=>
    intro hq
    obtain ⟨xs,ds,L,hd,hcell,hr,hwf⟩:=ih (by omega)
    obtain ⟨cs',h1,h2⟩:=hx q (by omega)
    obtain ⟨d,Lq,hrep,hwd⟩:=ho h2
    obtain ⟨_,hlen,hat⟩:=World.cells?_some h1
    refine ⟨xs++cs',ds++[d],L++Lq,by simp [hd],fun j u hu=>?_,Zi9 hr (Zoc hrep),?_⟩
    ·have hxl:xs.length=q * c.size:=by rw [ZhY hr,hd]
     rw [List.getElem?_append] at hu
     split at hu
     ·exact hcell j u hu
     ·rename_i hj
      have hj2:=(AF.1 hu).1
      have:=hat (j - xs.length) (by omega)
      rw [←hu,←this,Go.Deep.add_add,hc,←hxl]
      congr 2
      omega
    ·intro y hy
     rcases AK.1 hy with hy | hy
     ·exact hwf y hy
     ·simp at hy;subst hy;exact hwd
  obtain ⟨xs,ds,L,hd,hcell,hr,hwf⟩:=key len (A6 _)
  have hxl:=ZhY hr
  rcases Nat.eq_zero_or_pos len with h0 | h0
  ·have:ds=[]:=Ae (by omega)
   subst this
   refine ⟨[],[],⟨some a,cap,by simp at hd;rw [←hd];rfl,by simp,hm,Sli.nil _ _⟩,by simp⟩
  ·obtain ⟨b,off,sp⟩:=a
   have hp:0<xs.length:=by rw [hxl,hd];exact Nat.mul_pos h0 c.pos
   have hsp:sp=none:=by
    have h1:=hcell 0 _ (A3 hp)
    have e:(⟨b,off,sp⟩:Addr).add 0=⟨b,off,sp⟩:=by simp [Addr.add]
    rw [e] at h1
    cases sp with
    | none=>rfl
    | some q=>
     simp only[World.cell?] at h1
     split at h1<;>simp at h1
   subst hsp
   refine ⟨ds,[b]++L,⟨some ⟨b,off,none⟩,cap,by rw [hd],by omega,hm,xs,[b],L,rfl,⟨by rw [hxl],.inr ⟨by omega,b,off,rfl,rfl,fun j u hu=>?_⟩⟩,hr⟩,hwf⟩
   have:=hcell j u hu
   rwa [ZcD] at this
end
section
open Go.RowKit
set_option maxRecDepth 100000 in
set_option maxHeartbeats 8000000 in
theorem ZKm (w:World) (hJ:J0 w) (A_aRules:Option Addr) (c_aRules:Nat) (aRules:List Zf) (L_aRules:List Nat) (ln_aRules:aRules.length≤9223372036854775807) (h_aRules:Sli ZDB w A_aRules aRules L_aRules) (A_aBase:Option Addr) (c_aBase:Nat) (aBase:List Zd) (L_aBase:List Nat) (ln_aBase:aBase.length≤9223372036854775807) (h_aBase:Sli ZDc w A_aBase aBase L_aBase) (wf_aRules:(fun ds=>∀d∈ds,ZIa d) aRules) (wf_aBase:(fun ds=>∀d∈ds,ZF3 d) aBase):
  Calls prog 3 #[.slice A_aRules aRules.length c_aRules,.slice A_aBase aBase.length c_aBase] w fun e w'=>e=.returned (.bool true)∧Below w.heap.size w w':=by
 have HJ:=Lib.hid hJ
 clear hJ
 have H_aRules:=Lib.hid h_aRules
 clear h_aRules
 have H_aBase:=Lib.hid h_aBase
 clear h_aBase
 go_enter func3,ntmps3
 go_wp2_with fail
 refine (ZHn A_aRules _ c_aRules aRules L_aRules _ _ rfl ln_aRules (by omega) (by omega) (H_aRules.out.below (Below.refl w.heap.size w))).mono ?_
 rintro e w1 ⟨rfl,hb⟩
 have B1:=Lib.hid ((Below.refl w.heap.size w).trans (hb.mono (Below.refl w.heap.size w).size))
 have sz1:=hb.size
 clear hb
 by_cases cc_aRules:((ZC4 aRules:Nat):Int)≤1048576
 rotate_left
 ·rw [ZCZ cc_aRules]
  go_wp2
  go_ret
  exact ⟨rfl,B1.out⟩
 rw [ZDo cc_aRules]
 have cz_aRules:ZC4 aRules≤1048576:=by omega
 have cl_aRules:aRules.length≤1048576:=by have:=cz_aRules;simp only[ZC4] at this;omega
 have nn_aRules:¬(1048576 - ((ZC4 aRules:Nat):Int)<0):=by omega
 go_wp2_with fail
 refine (ZHM A_aBase _ c_aBase aBase L_aBase _ _ rfl ln_aBase (by omega) (by omega) (H_aBase.out.below B1.out)).mono ?_
 rintro e w2 ⟨rfl,hb⟩
 have B2:=Lib.hid (B1.out.trans (hb.mono B1.out.size))
 have sz2:=hb.size
 clear B1
 clear hb
 by_cases cc_aBase:((ZDa aBase:Nat):Int)≤1048576 - ((ZC4 aRules:Nat):Int)
 rotate_left
 ·rw [ZCZ cc_aBase]
  go_wp2
  go_ret
  exact ⟨rfl,B2.out⟩
 rw [ZDo cc_aBase]
 have cz_aBase:ZDa aBase≤1048576:=by omega
 have cl_aBase:aBase.length≤1048576:=by have:=cz_aBase;simp only[ZDa] at this;omega
 have nn_aBase:¬(1048576 - ((ZC4 aRules:Nat):Int) - ((ZDa aBase:Nat):Int)<0):=by omega
 obtain ⟨R0,hs0,hi0,rl⟩:=ZKp aRules cz_aRules wf_aRules aBase cz_aBase wf_aBase
 go_wp2_with fail
 refine (ZEs A_aRules _ c_aRules aRules L_aRules _ rfl cz_aRules (H_aRules.out.below B2.out)).mono ?_
 rintro e w3 ⟨v,rfl,acc⟩
 obtain ⟨A_t2aRules,c_t2aRules,rfl⟩:=acc.shape
 have hb:=acc.below
 obtain ⟨L_t2aRules,gt⟩:=acc.got
 have B3:=Lib.hid (B2.out.trans (hb.mono B2.out.size))
 have sz3:=hb.size
 clear B2
 have V_t2aRules:=Lib.hid gt
 have ge_t2aRules:=Lib.hid gt.own.ge
 have lt_t2aRules:=Lib.hid gt.lt
 clear gt hb acc
 go_wp2_with fail
 refine (ZEu A_aBase _ c_aBase aBase L_aBase _ rfl cz_aBase (H_aBase.out.below B3.out)).mono ?_
 rintro e w4 ⟨v,rfl,acc⟩
 obtain ⟨A_t3aBase,c_t3aBase,rfl⟩:=acc.shape
 have hb:=acc.below
 obtain ⟨L_t3aBase,gt⟩:=acc.got
 have B4:=Lib.hid (B3.out.trans (hb.mono B3.out.size))
 have sz4:=hb.size
 have V_t2aRules:=Lib.hid (V_t2aRules.out.later hb)
 clear B3
 have V_t3aBase:=Lib.hid gt
 have ge_t3aBase:=Lib.hid gt.own.ge
 have lt_t3aBase:=Lib.hid gt.lt
 clear gt hb acc
 go_wp2_with fail
 refine (ZKr hs0 _ (ZDP hJ0 HJ.out B4.out) A_t2aRules c_t2aRules L_t2aRules V_t2aRules.out.rep A_t3aBase c_t3aBase L_t3aBase V_t3aBase.out.rep).mono ?_
 rintro e w5 ⟨v,rfl,acc⟩
 obtain ⟨A_w0,c_w0,rfl⟩:=acc.shape
 have hb:=acc.below
 obtain ⟨L_w0,gt⟩:=acc.got
 have B5:=Lib.hid (B4.out.trans (hb.mono B4.out.size))
 have sz5:=hb.size
 have V_t2aRules:=Lib.hid (V_t2aRules.out.later hb)
 have V_t3aBase:=Lib.hid (V_t3aBase.out.later hb)
 clear B4
 have V_w0:=Lib.hid gt
 have ge_w0:=Lib.hid gt.own.ge
 have lt_w0:=Lib.hid gt.lt
 clear gt hb acc
 clear V_t2aRules
 clear V_t3aBase
 go_wp2_with fail
 refine (ZEs A_aRules _ c_aRules aRules L_aRules _ rfl cz_aRules (H_aRules.out.below B5.out)).mono ?_
 rintro e w6 ⟨v,rfl,acc⟩
 obtain ⟨A_x0,c_x0,rfl⟩:=acc.shape
 have hb:=acc.below
 obtain ⟨L_x0,gt⟩:=acc.got
 have B6:=Lib.hid (B5.out.trans (hb.mono B5.out.size))
 have sz6:=hb.size
 have V_w0:=Lib.hid (V_w0.out.later hb)
 clear B5
 have V_x0:=Lib.hid gt
 have ge_x0:=Lib.hid gt.own.ge
 have lt_x0:=Lib.hid gt.lt
 clear gt hb acc
 go_wp2_with fail
 refine (ZEu A_aBase _ c_aBase aBase L_aBase _ rfl cz_aBase (H_aBase.out.below B6.out)).mono ?_
 rintro e w7 ⟨v,rfl,acc⟩
 obtain ⟨A_x1,c_x1,rfl⟩:=acc.shape
 have hb:=acc.below
 obtain ⟨L_x1,gt⟩:=acc.got
 have B7:=Lib.hid (B6.out.trans (hb.mono B6.out.size))
 have sz7:=hb.size
 have V_w0:=Lib.hid (V_w0.out.later hb)
 have V_x0:=Lib.hid (V_x0.out.later hb)
 clear B6
 have V_x1:=Lib.hid gt
 have ge_x1:=Lib.hid gt.own.ge
 have lt_x1:=Lib.hid gt.lt
 clear gt hb acc
 go_wp2_with fail
 refine (ZKn hi0 _ (ZDP hJ0 HJ.out B7.out) A_x0 c_x0 L_x0 V_x0.out.rep A_x1 c_x1 L_x1 V_x1.out.rep).mono ?_
 rintro e w8 ⟨v,rfl,acc⟩
 obtain ⟨A_g0,c_g0,rfl⟩:=acc.shape
 have hb:=acc.below
 obtain ⟨L_g0,gt⟩:=acc.got
 have B8:=Lib.hid (B7.out.trans (hb.mono B7.out.size))
 have sz8:=hb.size
 have V_w0:=Lib.hid (V_w0.out.later hb)
 have V_x0:=Lib.hid (V_x0.out.later hb)
 have V_x1:=Lib.hid (V_x1.out.later hb)
 clear B7
 have V_g0:=Lib.hid gt
 have ge_g0:=Lib.hid gt.own.ge
 have lt_g0:=Lib.hid gt.lt
 clear gt hb acc
 go_wp2_with fail
 refine (ZHr A_g0 A_w0 _ c_g0 c_w0 _ L_g0 L_w0 _ rfl (by omega) (ZCX V_g0.out.rep).2.2 (ZCX V_w0.out.rep).2.2).mono ?_
 rintro e w9 ⟨rfl,hb⟩
 have B9:=Lib.hid (B8.out.trans (hb.mono B8.out.size))
 have sz9:=hb.size
 have V_w0:=Lib.hid (V_w0.out.later hb)
 have V_x0:=Lib.hid (V_x0.out.later hb)
 have V_x1:=Lib.hid (V_x1.out.later hb)
 have V_g0:=Lib.hid (V_g0.out.later hb)
 clear B8
 clear hb
 go_wp2_with fail
 refine (ZEs A_aRules _ c_aRules aRules L_aRules _ rfl cz_aRules (H_aRules.out.below B9.out)).mono ?_
 rintro e w10 ⟨v,rfl,acc⟩
 obtain ⟨A_t9aRules,c_t9aRules,rfl⟩:=acc.shape
 have hb:=acc.below
 obtain ⟨L_t9aRules,gt⟩:=acc.got
 have B10:=Lib.hid (B9.out.trans (hb.mono B9.out.size))
 have sz10:=hb.size
 have V_w0:=Lib.hid (V_w0.out.later hb)
 have V_x0:=Lib.hid (V_x0.out.later hb)
 have V_x1:=Lib.hid (V_x1.out.later hb)
 have V_g0:=Lib.hid (V_g0.out.later hb)
 clear B9
 have V_t9aRules:=Lib.hid gt
 have ge_t9aRules:=Lib.hid gt.own.ge
 have lt_t9aRules:=Lib.hid gt.lt
 clear gt hb acc
 go_wp2_with fail
 refine (ZHJ A_x0 A_t9aRules _ c_x0 c_t9aRules _ L_x0 L_t9aRules _ rfl (by omega) (ZCX V_x0.out.rep).2.2 (ZCX V_t9aRules.out.rep).2.2).mono ?_
 rintro e w11 ⟨rfl,hb⟩
 have B11:=Lib.hid (B10.out.trans (hb.mono B10.out.size))
 have sz11:=hb.size
 have V_w0:=Lib.hid (V_w0.out.later hb)
 have V_x0:=Lib.hid (V_x0.out.later hb)
 have V_x1:=Lib.hid (V_x1.out.later hb)
 have V_g0:=Lib.hid (V_g0.out.later hb)
 have V_t9aRules:=Lib.hid (V_t9aRules.out.later hb)
 clear B10
 clear hb
 clear V_t9aRules
 go_wp2_with fail
 refine (ZEu A_aBase _ c_aBase aBase L_aBase _ rfl cz_aBase (H_aBase.out.below B11.out)).mono ?_
 rintro e w12 ⟨v,rfl,acc⟩
 obtain ⟨A_t11aBase,c_t11aBase,rfl⟩:=acc.shape
 have hb:=acc.below
 obtain ⟨L_t11aBase,gt⟩:=acc.got
 have B12:=Lib.hid (B11.out.trans (hb.mono B11.out.size))
 have sz12:=hb.size
 have V_w0:=Lib.hid (V_w0.out.later hb)
 have V_x0:=Lib.hid (V_x0.out.later hb)
 have V_x1:=Lib.hid (V_x1.out.later hb)
 have V_g0:=Lib.hid (V_g0.out.later hb)
 clear B11
 have V_t11aBase:=Lib.hid gt
 have ge_t11aBase:=Lib.hid gt.own.ge
 have lt_t11aBase:=Lib.hid gt.lt
 clear gt hb acc
 go_wp2_with fail
 refine (ZHr A_x1 A_t11aBase _ c_x1 c_t11aBase _ L_x1 L_t11aBase _ rfl (by omega) (ZCX V_x1.out.rep).2.2 (ZCX V_t11aBase.out.rep).2.2).mono ?_
 rintro e w13 ⟨rfl,hb⟩
 have B13:=Lib.hid (B12.out.trans (hb.mono B12.out.size))
 have sz13:=hb.size
 have V_w0:=Lib.hid (V_w0.out.later hb)
 have V_x0:=Lib.hid (V_x0.out.later hb)
 have V_x1:=Lib.hid (V_x1.out.later hb)
 have V_g0:=Lib.hid (V_g0.out.later hb)
 have V_t11aBase:=Lib.hid (V_t11aBase.out.later hb)
 clear B12
 clear hb
 clear V_t11aBase
 have nl_x0_13:=ZGT ((1:Int)) aRules
 have nb_x0_13:ZC5 ((1:Int)) aRules≤4611686018427387904:=by omega
 have ng_x0_13:=ZFq ((1:Int)) aRules
 go_wp2_with fail
 refine (ZGh A_x0 _ c_x0 aRules L_x0 _ _ _ rfl (by omega) (by omega) (by omega) V_x0.out).mono ?_
 rintro e w14 ⟨rfl,gm,on⟩
 have B14:=Lib.hid (B13.out.trans (on.below B13.out.size (fun y m=>by have:=ge_x0.out y m;omega)))
 have sz14:=on.size
 have V_w0:=Lib.hid (V_w0.out.only on (fun y m m'=>by have:=lt_w0.out y m;have:=ge_x0.out y m';omega))
 have V_x1:=Lib.hid (V_x1.out.only on (fun y m m'=>by have:=ge_x1.out y m;have:=lt_x0.out y m';omega))
 have V_g0:=Lib.hid (V_g0.out.only on (fun y m m'=>by have:=ge_g0.out y m;have:=lt_x0.out y m';omega))
 clear B13
 have V_x0:=Lib.hid gm
 clear gm on
 clear V_x0
 have nl_x1_14:=ZG3 (ZC5 ((1:Int)) aRules) aBase
 have nb_x1_14:ZDj (ZC5 ((1:Int)) aRules) aBase≤4611686018427387904:=by omega
 have ng_x1_14:=ZFk (ZC5 ((1:Int)) aRules) aBase
 go_wp2_with fail
 refine (ZGd A_x1 _ c_x1 aBase L_x1 _ _ _ rfl (by omega) (by omega) (by omega) V_x1.out).mono ?_
 rintro e w15 ⟨rfl,gm,on⟩
 have B15:=Lib.hid (B14.out.trans (on.below B14.out.size (fun y m=>by have:=ge_x1.out y m;omega)))
 have sz15:=on.size
 have V_w0:=Lib.hid (V_w0.out.only on (fun y m m'=>by have:=lt_w0.out y m;have:=ge_x1.out y m';omega))
 have V_g0:=Lib.hid (V_g0.out.only on (fun y m m'=>by have:=ge_g0.out y m;have:=lt_x1.out y m';omega))
 clear B14
 have V_x1:=Lib.hid gm
 clear gm on
 clear V_x1
 have kn:¬(ZDj (ZC5 ((1:Int)) aRules) aBase<0):=by omega
 go_wp2_with fail
 refine (ZHr A_g0 A_w0 _ c_g0 c_w0 _ L_g0 L_w0 _ rfl (by omega) (ZCX V_g0.out.rep).2.2 (ZCX V_w0.out.rep).2.2).mono ?_
 rintro e w16 ⟨rfl,hb⟩
 have B16:=Lib.hid (B15.out.trans (hb.mono B15.out.size))
 have sz16:=hb.size
 have V_w0:=Lib.hid (V_w0.out.later hb)
 have V_g0:=Lib.hid (V_g0.out.later hb)
 clear B15
 clear hb
 have nl_g0_16:=ZG3 ((1:Int)) R0
 have nb_g0_16:ZDj ((1:Int)) R0≤4611686018427387904:=by omega
 have ng_g0_16:=ZFk ((1:Int)) R0
 go_wp2_with fail
 refine (ZGd A_g0 _ c_g0 R0 L_g0 _ _ _ rfl (by omega) (by omega) (by omega) V_g0.out).mono ?_
 rintro e w17 ⟨rfl,gm,on⟩
 have B17:=Lib.hid (B16.out.trans (on.below B16.out.size (fun y m=>by have:=ge_g0.out y m;omega)))
 have sz17:=on.size
 have V_w0:=Lib.hid (V_w0.out.only on (fun y m m'=>by have:=lt_w0.out y m;have:=ge_g0.out y m';omega))
 clear B16
 have V_g0:=Lib.hid gm
 clear gm on
 go_wp2_with fail
 refine (ZKo A_g0 _ c_g0 R0 L_g0 _ _ rfl (by omega) (by omega) (by omega) (ZCX V_g0.out.rep).2.2).mono ?_
 rintro e w18 ⟨rfl,hb⟩
 have B18:=Lib.hid (B17.out.trans (hb.mono B17.out.size))
 have sz18:=hb.size
 have V_w0:=Lib.hid (V_w0.out.later hb)
 have V_g0:=Lib.hid (V_g0.out.later hb)
 clear B17
 clear hb
 have qn18:¬(ZDj ((1:Int)) R0<0):=by omega
 have qm18:((ZDj ((1:Int)) R0) != (ZDj ((1:Int)) R0))=false:=by simp
 go_wp2_with fail
 refine (ZEs A_aRules _ c_aRules aRules L_aRules _ rfl cz_aRules (H_aRules.out.below B18.out)).mono ?_
 rintro e w19 ⟨v,rfl,acc⟩
 obtain ⟨A_t18aRules,c_t18aRules,rfl⟩:=acc.shape
 have hb:=acc.below
 obtain ⟨L_t18aRules,gt⟩:=acc.got
 have B19:=Lib.hid (B18.out.trans (hb.mono B18.out.size))
 have sz19:=hb.size
 have V_w0:=Lib.hid (V_w0.out.later hb)
 have V_g0:=Lib.hid (V_g0.out.later hb)
 clear B18
 have V_t18aRules:=Lib.hid gt
 have ge_t18aRules:=Lib.hid gt.own.ge
 have lt_t18aRules:=Lib.hid gt.lt
 clear gt hb acc
 go_wp2_with fail
 refine (ZEu A_aBase _ c_aBase aBase L_aBase _ rfl cz_aBase (H_aBase.out.below B19.out)).mono ?_
 rintro e w20 ⟨v,rfl,acc⟩
 obtain ⟨A_t19aBase,c_t19aBase,rfl⟩:=acc.shape
 have hb:=acc.below
 obtain ⟨L_t19aBase,gt⟩:=acc.got
 have B20:=Lib.hid (B19.out.trans (hb.mono B19.out.size))
 have sz20:=hb.size
 have V_w0:=Lib.hid (V_w0.out.later hb)
 have V_g0:=Lib.hid (V_g0.out.later hb)
 have V_t18aRules:=Lib.hid (V_t18aRules.out.later hb)
 clear B19
 have V_t19aBase:=Lib.hid gt
 have ge_t19aBase:=Lib.hid gt.own.ge
 have lt_t19aBase:=Lib.hid gt.lt
 clear gt hb acc
 go_wp2_with fail
 refine (ZKn hi0 _ (ZDP hJ0 HJ.out B20.out) A_t18aRules c_t18aRules L_t18aRules V_t18aRules.out.rep A_t19aBase c_t19aBase L_t19aBase V_t19aBase.out.rep).mono ?_
 rintro e w21 ⟨v,rfl,acc⟩
 obtain ⟨A_h0,c_h0,rfl⟩:=acc.shape
 have hb:=acc.below
 obtain ⟨L_h0,gt⟩:=acc.got
 have B21:=Lib.hid (B20.out.trans (hb.mono B20.out.size))
 have sz21:=hb.size
 have V_w0:=Lib.hid (V_w0.out.later hb)
 have V_g0:=Lib.hid (V_g0.out.later hb)
 have V_t18aRules:=Lib.hid (V_t18aRules.out.later hb)
 have V_t19aBase:=Lib.hid (V_t19aBase.out.later hb)
 clear B20
 have V_h0:=Lib.hid gt
 have ge_h0:=Lib.hid gt.own.ge
 have lt_h0:=Lib.hid gt.lt
 clear gt hb acc
 clear V_t18aRules
 clear V_t19aBase
 go_wp2_with fail
 refine (ZHr A_h0 A_w0 _ c_h0 c_w0 _ L_h0 L_w0 _ rfl (by omega) (ZCX V_h0.out.rep).2.2 (ZCX V_w0.out.rep).2.2).mono ?_
 rintro e w22 ⟨rfl,hb⟩
 have B22:=Lib.hid (B21.out.trans (hb.mono B21.out.size))
 have sz22:=hb.size
 have V_w0:=Lib.hid (V_w0.out.later hb)
 have V_g0:=Lib.hid (V_g0.out.later hb)
 have V_h0:=Lib.hid (V_h0.out.later hb)
 clear B21
 clear hb
 go_wp2_with fail
 refine (ZKo A_g0 _ c_g0 R0 L_g0 _ _ rfl (by omega) (by omega) (by omega) (ZCX V_g0.out.rep).2.2).mono ?_
 rintro e w23 ⟨rfl,hb⟩
 have B23:=Lib.hid (B22.out.trans (hb.mono B22.out.size))
 have sz23:=hb.size
 have V_w0:=Lib.hid (V_w0.out.later hb)
 have V_g0:=Lib.hid (V_g0.out.later hb)
 have V_h0:=Lib.hid (V_h0.out.later hb)
 clear B22
 clear hb
 have qn23:¬(ZDj ((1:Int)) R0<0):=by omega
 have qm23:((ZDj ((1:Int)) R0) != (ZDj ((1:Int)) R0))=false:=by simp
 go_wp2_with fail
 go_ret
 exact ⟨rfl,B23.out⟩
end
section
open Go.RowKit
set_option maxRecDepth 100000 in
theorem ZGG:ZtV prog 66 ZDc ZF3:=by
 intro H enc w base spare held fuel cs x h
 obtain ⟨xs,n,_,_,hlen,hxl,hf⟩:=DataW.trod_struct underlying66 h
 have hl:cs.length=2:=hlen.trans (by kernel_rfl)
 have hx:xs.length=2:=hxl
 match cs,hl with
 | [a0,a1],_=>
  have f0:DataW.trod enc prog w base spare held n 9 [a0]=some (xs[0]'(by omega)):=by
   have this:DataW.trod enc prog w base spare held n 9 (AA (prog.cellsOf 9) (AB 0 [a0,a1]))=_:=(hf 0 _ rfl).trans (A3 (show 0<xs.length by omega))
   rw [show prog.cellsOf 9=1 by kernel_rfl] at this
   exact this
  have f1:DataW.trod enc prog w base spare held n 56 [a1]=some (xs[1]'(by omega)):=by
   have this:DataW.trod enc prog w base spare held n 56 (AA (prog.cellsOf 56) (AB 1 [a0,a1]))=_:=(hf 1 _ rfl).trans (A3 (show 1<xs.length by omega))
   rw [show prog.cellsOf 56=1 by kernel_rfl] at this
   exact this
  obtain ⟨d0,M0,r0,w0⟩:=(ZDL underlying9) f0
  obtain ⟨e0,_,t0⟩:=r0
  cases e0
  obtain ⟨d1,M1,r1,w1⟩:=(ZpR underlying56 (by kernel_rfl) (ZDL underlying9)) f1
  obtain ⟨A1,c1,e1,n1,m1,s1⟩:=r1
  cases e1
  exact ⟨⟨d0,d1⟩,_,⟨A1,c1,M1,rfl,rfl,t0,n1,m1,s1⟩,⟨w0,w1⟩⟩
set_option maxRecDepth 100000 in
theorem ZFy:ZtV prog 111 ZEp ZFF:=by
 intro H enc w base spare held fuel cs x h
 obtain ⟨xs,n,_,_,hlen,hxl,hf⟩:=DataW.trod_struct underlying111 h
 have hl:cs.length=2:=hlen.trans (by kernel_rfl)
 have hx:xs.length=2:=hxl
 match cs,hl with
 | [a0,a1],_=>
  have f0:DataW.trod enc prog w base spare held n 9 [a0]=some (xs[0]'(by omega)):=by
   have this:DataW.trod enc prog w base spare held n 9 (AA (prog.cellsOf 9) (AB 0 [a0,a1]))=_:=(hf 0 _ rfl).trans (A3 (show 0<xs.length by omega))
   rw [show prog.cellsOf 9=1 by kernel_rfl] at this
   exact this
  have f1:DataW.trod enc prog w base spare held n 56 [a1]=some (xs[1]'(by omega)):=by
   have this:DataW.trod enc prog w base spare held n 56 (AA (prog.cellsOf 56) (AB 1 [a0,a1]))=_:=(hf 1 _ rfl).trans (A3 (show 1<xs.length by omega))
   rw [show prog.cellsOf 56=1 by kernel_rfl] at this
   exact this
  obtain ⟨d0,M0,r0,w0⟩:=(ZDL underlying9) f0
  obtain ⟨e0,_,t0⟩:=r0
  cases e0
  obtain ⟨d1,M1,r1,w1⟩:=(ZpR underlying56 (by kernel_rfl) (ZDL underlying9)) f1
  obtain ⟨A1,c1,e1,n1,m1,s1⟩:=r1
  cases e1
  exact ⟨⟨d0,d1⟩,_,⟨A1,c1,M1,rfl,rfl,t0,n1,m1,s1⟩,⟨w0,w1⟩⟩
set_option maxRecDepth 100000 in
theorem ZIs:ZtV prog 113 ZDC ZIz:=by
 intro H enc w base spare held fuel cs x h
 obtain ⟨xs,n,_,_,hlen,hxl,hf⟩:=DataW.trod_struct underlying113 h
 have hl:cs.length=5:=hlen.trans (by kernel_rfl)
 have hx:xs.length=4:=hxl
 match cs,hl with
 | [a0,a1,a2,a3,a4],_=>
  have f0:DataW.trod enc prog w base spare held n 3 [a0]=some (xs[0]'(by omega)):=by
   have this:DataW.trod enc prog w base spare held n 3 (AA (prog.cellsOf 3) (AB 0 [a0,a1,a2,a3,a4]))=_:=(hf 0 _ rfl).trans (A3 (show 0<xs.length by omega))
   rw [show prog.cellsOf 3=1 by kernel_rfl] at this
   exact this
  have f1:DataW.trod enc prog w base spare held n 111 [a1,a2]=some (xs[1]'(by omega)):=by
   have this:DataW.trod enc prog w base spare held n 111 (AA (prog.cellsOf 111) (AB 1 [a0,a1,a2,a3,a4]))=_:=(hf 1 _ rfl).trans (A3 (show 1<xs.length by omega))
   rw [show prog.cellsOf 111=2 by kernel_rfl] at this
   exact this
  have f2:DataW.trod enc prog w base spare held n 9 [a3]=some (xs[2]'(by omega)):=by
   have this:DataW.trod enc prog w base spare held n 9 (AA (prog.cellsOf 9) (AB 3 [a0,a1,a2,a3,a4]))=_:=(hf 2 _ rfl).trans (A3 (show 2<xs.length by omega))
   rw [show prog.cellsOf 9=1 by kernel_rfl] at this
   exact this
  have f3:DataW.trod enc prog w base spare held n 9 [a4]=some (xs[3]'(by omega)):=by
   have this:DataW.trod enc prog w base spare held n 9 (AA (prog.cellsOf 9) (AB 4 [a0,a1,a2,a3,a4]))=_:=(hf 3 _ rfl).trans (A3 (show 3<xs.length by omega))
   rw [show prog.cellsOf 9=1 by kernel_rfl] at this
   exact this
  obtain ⟨d0,M0,r0,w0⟩:=(ZFD underlying3) f0
  obtain ⟨e0,_⟩:=r0
  cases e0
  obtain ⟨d1,M1,r1,w1⟩:=ZFy f1
  obtain ⟨A1,c1,N1,e1,g1,t0,n1,m1,s1⟩:=r1
  cases e1
  subst g1
  obtain ⟨d2,M2,r2,w2⟩:=(ZDL underlying9) f2
  obtain ⟨e2,_,t1⟩:=r2
  cases e2
  obtain ⟨d3,M3,r3,w3⟩:=(ZDL underlying9) f3
  obtain ⟨e3,_,t2⟩:=r3
  cases e3
  exact ⟨⟨d0,d1,d2,d3⟩,_,⟨A1,c1,M1,rfl,rfl,t0,t1,t2,n1,m1,s1⟩,⟨w0,w1,w2,w3⟩⟩
set_option maxRecDepth 100000 in
theorem ZHI:ZtV prog 221 ZC8 ZHA:=by
 intro H enc w base spare held fuel cs x h
 obtain ⟨xs,n,_,_,hlen,hxl,hf⟩:=DataW.trod_struct underlying221 h
 have hl:cs.length=3:=hlen.trans (by kernel_rfl)
 have hx:xs.length=2:=hxl
 match cs,hl with
 | [a0,a1,a2],_=>
  have f0:DataW.trod enc prog w base spare held n 3 [a0]=some (xs[0]'(by omega)):=by
   have this:DataW.trod enc prog w base spare held n 3 (AA (prog.cellsOf 3) (AB 0 [a0,a1,a2]))=_:=(hf 0 _ rfl).trans (A3 (show 0<xs.length by omega))
   rw [show prog.cellsOf 3=1 by kernel_rfl] at this
   exact this
  have f1:DataW.trod enc prog w base spare held n 111 [a1,a2]=some (xs[1]'(by omega)):=by
   have this:DataW.trod enc prog w base spare held n 111 (AA (prog.cellsOf 111) (AB 1 [a0,a1,a2]))=_:=(hf 1 _ rfl).trans (A3 (show 1<xs.length by omega))
   rw [show prog.cellsOf 111=2 by kernel_rfl] at this
   exact this
  obtain ⟨d0,M0,r0,w0⟩:=(ZFD underlying3) f0
  obtain ⟨e0,_⟩:=r0
  cases e0
  obtain ⟨d1,M1,r1,w1⟩:=ZFy f1
  obtain ⟨A1,c1,N1,e1,g1,t0,n1,m1,s1⟩:=r1
  cases e1
  subst g1
  exact ⟨⟨d0,d1⟩,_,⟨A1,c1,M1,rfl,rfl,t0,n1,m1,s1⟩,⟨w0,w1⟩⟩
set_option maxRecDepth 100000 in
theorem ZIn:ZtV prog 100 ZDB ZIa:=by
 intro H enc w base spare held fuel cs x h
 obtain ⟨xs,n,_,_,hlen,hxl,hf⟩:=DataW.trod_struct underlying100 h
 have hl:cs.length=4:=hlen.trans (by kernel_rfl)
 have hx:xs.length=4:=hxl
 match cs,hl with
 | [a0,a1,a2,a3],_=>
  have f0:DataW.trod enc prog w base spare held n 9 [a0]=some (xs[0]'(by omega)):=by
   have this:DataW.trod enc prog w base spare held n 9 (AA (prog.cellsOf 9) (AB 0 [a0,a1,a2,a3]))=_:=(hf 0 _ rfl).trans (A3 (show 0<xs.length by omega))
   rw [show prog.cellsOf 9=1 by kernel_rfl] at this
   exact this
  have f1:DataW.trod enc prog w base spare held n 3 [a1]=some (xs[1]'(by omega)):=by
   have this:DataW.trod enc prog w base spare held n 3 (AA (prog.cellsOf 3) (AB 1 [a0,a1,a2,a3]))=_:=(hf 1 _ rfl).trans (A3 (show 1<xs.length by omega))
   rw [show prog.cellsOf 3=1 by kernel_rfl] at this
   exact this
  have f2:DataW.trod enc prog w base spare held n 36 [a2]=some (xs[2]'(by omega)):=by
   have this:DataW.trod enc prog w base spare held n 36 (AA (prog.cellsOf 36) (AB 2 [a0,a1,a2,a3]))=_:=(hf 2 _ rfl).trans (A3 (show 2<xs.length by omega))
   rw [show prog.cellsOf 36=1 by kernel_rfl] at this
   exact this
  have f3:DataW.trod enc prog w base spare held n 98 [a3]=some (xs[3]'(by omega)):=by
   have this:DataW.trod enc prog w base spare held n 98 (AA (prog.cellsOf 98) (AB 3 [a0,a1,a2,a3]))=_:=(hf 3 _ rfl).trans (A3 (show 3<xs.length by omega))
   rw [show prog.cellsOf 98=1 by kernel_rfl] at this
   exact this
  obtain ⟨d0,M0,r0,w0⟩:=(ZDL underlying9) f0
  obtain ⟨e0,_,t0⟩:=r0
  cases e0
  obtain ⟨d1,M1,r1,w1⟩:=(ZFD underlying3) f1
  obtain ⟨e1,_⟩:=r1
  cases e1
  obtain ⟨d2,M2,r2,w2⟩:=(ZpR underlying36 (by kernel_rfl) ZIs) f2
  obtain ⟨A1,c1,e2,n1,m1,s1⟩:=r2
  cases e2
  obtain ⟨d3,M3,r3,w3⟩:=(ZpR underlying98 (by kernel_rfl) ZHI) f3
  obtain ⟨A2,c2,e3,n2,m2,s2⟩:=r3
  cases e3
  exact ⟨⟨d0,d1,d2,d3⟩,_,⟨A1,c1,M2,A2,c2,M3,rfl,rfl,t0,n1,m1,s1,n2,m2,s2⟩,⟨w0,w1,w2,w3⟩⟩
end
end Go.Proofs.YtekbmedphidcgaaGreatDoor
