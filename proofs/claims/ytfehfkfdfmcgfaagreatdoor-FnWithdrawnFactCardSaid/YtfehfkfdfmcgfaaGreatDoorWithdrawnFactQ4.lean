/- Texts of this proof, joined: N2, N4, S21, S22, S23, N5, D4, N9, D5, D6, D7, BInv, BRun, BOps1, BOps2, BOps3, BOps4, BOps5. What each holds is said at its theorems. -/
import Derived.Test.YtfehfkfdfmcgfaaGreatDoorWithdrawnFactQ3
import Derived.Test.YtfehfkfdfmcgfaaGreatDoorWithdrawnFactQ2
import Derived.Test.YtfehfkfdfmcgfaaGreatDoorWithdrawnFactQ1
import Derived.Laws.CopyRow
import Derived.Laws.OwnMore
import Derived.Laws.StructEq
import Derived.Laws.Tables
set_option linter.unusedSimpArgs false
set_option linter.unusedVariables false
open Array renaming getElem?_eq_some_iff→Ah
open Bool renaming and_eq_true→A7,false_eq_true→A8,false_or→Aj
open Go.ByteArray renaming toList_eq→Au
open Int renaming toNat→A1,toNat_natCast→A9,le_refl→AR,le_trans→AX
open List renaming mem_append→A2,getElem?_eq_getElem→A3,getElem?_eq_some_iff→A6,replicate→AA,mem_of_getElem?→AB,mem_map→AC,range'→AD,getElem_mem→AG,mem_flatMap→AI,mem_filterMap→AJ,length_append→AK,mem_cons→AM,all_eq_true→AN,mem_of_mem_drop→AO,eq_nil_of_length_eq_zero→AQ,length_nil→AS,getElem?_eq_none→AW,length_cons→AY,mem_of_mem_take→AZ,dropLast_concat_getLast→Aa,mem_filter→Ab,foldl_cons→Ac,nodup_append→Ae,nodup_cons→Af,pairwise_iff_getElem→Ai,getElem?_append_left→Ak,range_eq_range'→Al,any_eq_true→Am,length_singleton→An,map_cons→Ao,append_assoc→Ap,singleton_append→Aq,length_map→Ar,getElem_cons_drop→As,take_append_drop→At,getElem?_take→Av,getElem?_drop→Aw
open List.cons renaming inj→Ag
open Nat renaming le_refl→AF,add_assoc→AH,zero_add→AL,add_mul→AP,le_trans→Ad
open Option renaming bind_some→A0,map_eq_some_iff→A5,bind_eq_some_iff→AE
open Option.some renaming injEq→A4,inj→AU
open UInt8 renaming ofNat→AT
namespace Go.Proofs.YtfehfkfdfmcgfaaGreatDoor
section
open Classical
theorem ZuI {M F:List Zb}:∀n (l:List Zt),l.length=n→(∀x∈l,¬x.kind=2)→∀t∈Zw l F,(∀f∈t.facts,f∈M)→t∈Zw l M:=by
 intro n
 induction n with
 | zero=>
  intro l h _ t mt _
  rw [AQ h] at mt ⊢
  exact mt
 | succ n ih=>
  intro l h hk
  obtain ⟨p,x,rfl⟩:∃p x,l=p++[x]:=⟨l.dropLast,l.getLast (by intro e;simp [e] at h),(Aa _).symm⟩
  intro t mt hf
  rw [Y6] at mt ⊢
  obtain ⟨s,ms,mt⟩:=AI.1 mt
  have hx:=hk x (by simp)
  unfold ZaR at mt
  by_cases h1:x.kind=1
  ·rw [if_pos h1] at mt
   obtain ⟨g,mg,hg⟩:=AJ.1 mt
   obtain ⟨b,hb,rfl⟩:=A5.1 hg
   have hs:=ih p (by simpa using h) (fun y my=>hk y (by simp [my])) s ms fun f mf=>hf f (by simp [mf])
   refine AI.2 ⟨s,hs,?_⟩
   unfold ZaR
   rw [if_pos h1]
   exact AJ.2 ⟨g,hf g (by simp),by rw [hb];rfl⟩
  ·rw [if_neg h1] at mt
   have hh:∀G,Zak x s.binding G=Zak x s.binding F:=fun G=>by
    unfold Zak
    simp only[if_neg h1,if_neg hx]
   split at mt
   ·rename_i hb
    simp at mt;subst mt
    have hs:=ih p (by simpa using h) (fun y my=>hk y (by simp [my])) t ms hf
    refine AI.2 ⟨t,hs,?_⟩
    unfold ZaR
    rw [if_neg h1,hh,if_pos hb]
    simp
   ·simp at mt
theorem Zv2 {R:List Zg} {r:Zg} {M F:List Zb} {t:Zu} (mt:t∈Zw (XT r) F) (hf:∀f∈t.facts,f∈M):t∈Zw (XT r) M:=ZuI _ (XT r) rfl ZnZ t mt hf
theorem ZsT {r:Zg} {F:List Zb} {t:Zu} (mt:t∈Zw (XT r) F):∀f∈t.facts,f∈F:=(Qp F _ t mt).sub
structure ZjQ (R:List Zg) (base M:List Zb):Prop where
 giv:∀f∈base,f∈M
 clos:∀r∈R,∀t∈Zw (XT r) M,(∀g∈ZiJ r t,g∉M)→∀a∈r.thn,Z8 a t∈M
 supp:∃rank:Zb→Nat,∀f∈M,f∈base∨∃r∈R,∃t∈Zw (XT r) M,∃a∈r.thn,Z8 a t=f∧(∀g∈t.facts,rank g<rank f)∧∀g∈ZiJ r t,g∉M
theorem ZnO {f:Zb}:∀{F:List Zb} {l:List Int},l.length=F.length→(f∈YT F l↔∃i,F[i]?=some f∧0≤rdN l ((i:Nat):Int))
 | [],l,_=>by simp [YT]
 | g::F,[],h=>by simp at h
 | g::F,v::l,h=>by
  have ih:=ZnO (f:=f) (F:=F) (l:=l) (by simpa using h)
  have sh:∀i:Nat,rdN (v::l) ((i+1:Nat):Int)=rdN l ((i:Nat):Int):=fun i=>by unfold rdN;rw [A9,A9];simp
  have s0:rdN (v::l) ((0:Nat):Int)=v:=by unfold rdN;rfl
  have key:(∃i,(g::F)[i]?=some f∧0≤rdN (v::l) ((i:Nat):Int))↔(g=f∧0≤v)∨∃i,F[i]?=some f∧0≤rdN l ((i:Nat):Int):=by
   constructor
   ·rintro ⟨i,h1,h2⟩
    cases i with
    | zero=>rw [s0] at h2;exact .inl ⟨by simpa using h1,h2⟩
    | succ i=>rw [sh] at h2;exact .inr ⟨i,by simpa using h1,h2⟩
   ·rintro (⟨h1,h2⟩ | ⟨i,h1,h2⟩)
    ·exact ⟨0,by simp [h1],by rw [s0];exact h2⟩
    ·exact ⟨i+1,by simpa using h1,by rw [sh];exact h2⟩
  rw [key]
  unfold YT
  by_cases hv:0≤v
  ·rw [if_pos hv,AM,ih]
   constructor
   ·rintro (h | h)
    ·exact .inl ⟨h.symm,hv⟩
    ·exact .inr h
   ·rintro (⟨h,_⟩ | h)
    ·exact .inl h.symm
    ·exact .inr h
  ·rw [if_neg hv,ih]
   constructor
   ·exact .inr
   ·rintro (⟨_,h⟩ | h)
    ·exact absurd h hv
    ·exact h
theorem Zn8 {F:List Zb} {f g:Zb} (hf:f∈F) (hg:g∈F) (h:ZY F f=ZY F g):f=g:=by
 obtain ⟨i,h1,h2⟩:=Q6 hf
 obtain ⟨j,h3,h4⟩:=Q6 hg
 have:i=j:=by omega
 subst this
 rw [h2] at h4
 exact AU h4
theorem ZtO {F:List Zb} (hF:F.Nodup) {j:Nat} {f:Zb} (h:F[j]?=some f):ZY F f=((j:Nat):Int):=by
 obtain ⟨k,h1,h2⟩:=Q6 (AB h)
 obtain ⟨hj,ej⟩:=A6.1 h
 obtain ⟨hk,ek⟩:=A6.1 h2
 have:k=j:=by
  rcases Nat.lt_trichotomy k j with hl | hl | hl
  ·exact absurd (ek.trans ej.symm) (Ai.1 hF k j hk hj hl)
  ·exact hl
  ·exact absurd (ej.trans ek.symm) (Ai.1 hF j k hj hk hl)
 rw [h1,this]
theorem ZvC {F:List Zb} (hF:F.Nodup) {l:List Int} (hl:l.length=F.length) {f:Zb}:f∈YT F l↔f∈F∧0≤rdN l (ZY F f):=by
 rw [ZnO hl]
 constructor
 ·rintro ⟨i,h1,h2⟩
  exact ⟨AB h1,by rw [ZtO hF h1];exact h2⟩
 ·rintro ⟨h1,h2⟩
  obtain ⟨j,h3,h4⟩:=Q6 h1
  exact ⟨j,h4,by rw [←h3];exact h2⟩
theorem Zt6 {R:List Zg} {base F:List Zb} (h:Z0 R base F) {rs:List Zf} {given:List Zb} (hB:Q4 { nodes:=((F.length:Nat):Int),reasons:=rs })
  (hrs:∀x,x∈rs↔(∃f∈given,x={ for_:=ZY F f,inn:=[],outs:=[] })∨∃r∈R,∃t∈Zw (XT r) F,∃a∈r.thn,x=Yg F r t a) (hg:∀f∈given,f∈F):ZjQ R given (YT F (rdB { nodes:=((F.length:Nat):Int),reasons:=rs })):=by
 obtain ⟨e1,e2⟩:=hB.end
 have hF:=ZdT h.good.asc
 have hl:=hB.rd
 generalize rdB { nodes:=((F.length:Nat):Int),reasons:=rs }=rd at e1 e2 hl
 simp only[A9] at hl
 have hm:∀f,f∈YT F rd↔f∈F∧0≤rdN rd (ZY F f):=fun f=>ZvC hF hl
 have nat:∀f∈F,((ZY F f).toNat:Int)=ZY F f:=fun f mf=>by
  obtain ⟨j,h1,_⟩:=Q6 mf
  omega
 refine ⟨fun f mf=>?_,fun r mr t mt hab a ma=>?_,fun f=>(rdN rd (ZY F f)).toNat,fun f mf=>?_⟩
 ·rw [hm]
  exact ⟨hg f mf,e2 _ ((hrs _).2 (.inl ⟨f,mf,rfl⟩)) (by simp) (by simp)⟩
 ·have ht:∀g∈t.facts,g∈YT F rd:=ZsT mt
  have mt':t∈Zw (XT r) F:=Zv2 (R:=R) mt fun g mg=>((hm g).1 (ht g mg)).1
  have hin:=h.closed r mr t mt' a ma
  rw [hm]
  refine ⟨hin,e2 _ ((hrs _).2 (.inr ⟨r,mr,t,mt',a,ma,rfl⟩)) (fun y my=>?_) fun y my=>?_⟩
  ·obtain ⟨g,mg,e,_⟩:=((Yv F t.facts).2.1 y).1 my
   rw [←e]
   exact ((hm g).1 (ht g mg)).2
  ·obtain ⟨g,mg,e,e0⟩:=((Yv F (ZiJ r t)).2.1 y).1 my
   have gF:g∈F:=by
    rcases ZfL F g with ⟨_,h2⟩ | ⟨j,_,h2⟩
    ·omega
    ·exact AB h2
   refine Classical.byContradiction fun hn=>hab g mg ((hm g).2 ⟨gF,?_⟩)
   rw [e];omega
 ·obtain ⟨fF,f0⟩:=(hm f).1 mf
  obtain ⟨x,mx,ex,hi,ho⟩:=e1 (ZY F f).toNat (by rw [nat f fF];exact f0)
  rw [nat f fF] at hi
  rcases (hrs x).1 mx with ⟨g,mg,rfl⟩ | ⟨r,mr,t,mt,a,ma,rfl⟩
  ·left
   have:ZY F g=ZY F f:=by have:=nat g (hg g mg);have:=nat f fF;simp only at ex;omega
   rw [←Zn8 (hg g mg) fF this]
   exact mg
  ·right
   have hin:=h.closed r mr t mt a ma
   have e:Z8 a t=f:=Zn8 hin fF (by
    have h1:=nat _ hin;have h2:=nat f fF
    have ex':(ZY F (Z8 a t)).toNat=(ZY F f).toNat:=ex
    omega)
   have hfacts:∀g∈t.facts,g∈YT F rd∧rdN rd (ZY F g)<rdN rd (ZY F f):=fun g mg=>by
    have gF:=ZsT mt g mg
    obtain ⟨j,k1,_⟩:=Q6 gF
    have my:ZY F g∈Qr F t.facts:=((Yv F t.facts).2.1 _).2 ⟨g,mg,rfl,by omega⟩
    obtain ⟨k2,k3⟩:=hi _ my
    exact ⟨(hm g).2 ⟨gF,k2⟩,k3⟩
   refine ⟨r,mr,t,Zv2 (R:=R) mt fun g mg=>(hfacts g mg).1,a,ma,e,fun g mg=>?_,fun g mg hgm=>?_⟩
   ·have k2:=(hfacts g mg).2
    have k1:=((hm g).1 (hfacts g mg).1).2
    show (rdN rd (ZY F g)).toNat<(rdN rd (ZY F f)).toNat
    omega
   ·obtain ⟨gF,g0⟩:=(hm g).1 hgm
    obtain ⟨j,k1,_⟩:=Q6 gF
    have my:ZY F g∈Qr F (ZiJ r t):=((Yv F (ZiJ r t)).2.1 _).2 ⟨g,mg,rfl,by omega⟩
    have:=ho _ my
    omega
theorem Zk4 {R:List Zg} {base F:List Zb} (h:Z0 R base F) (h60:(ZZ R F base).length≤60):ZjQ R base (YT F (rdB { nodes:=((F.length:Nat):Int),reasons:=ZZ R F base })):=
 Zt6 h (Q4.of h h60) (fun _=>Zib) h.good.inc
/- one model alone -/
noncomputable def ZNk (R:List Zg):List ByteArray:=R.flatMap fun r=>Xk r++Yq r
noncomputable def ZM9 (R:List Zg) (x:ByteArray):Nat:=(ZNk R).countP fun y=>decide (y=x∨YJ R x y)
theorem YJ.head {R:List Zg} {x y z:ByteArray} (h:Zdq R x y) (k:YJ R y z):YJ R x z:=by
 induction k with
 | one h1=>exact .next (.one h) h1
 | next _ h1 ih=>exact .next ih h1
theorem ZNj {R:List Zg} {x y:ByteArray} (h:Zdq R x y):ZM9 R y≤ZM9 R x:=Zn7 fun z _ hz=>by
 simp only[decide_eq_true_eq] at hz ⊢
 rcases hz with rfl | hz
 ·exact .inr (.one h)
 ·exact .inr (.head h hz)
theorem ZNi {R:List Zg} {x y:ByteArray} (h:Zdq R x y) (hn:y≠x) (hr:¬YJ R y x):ZM9 R y+1≤ZM9 R x:=by
 refine Zfb (fun z _ hz=>?_) x ?_ ?_ ?_
 ·simp only[decide_eq_true_eq] at hz ⊢
  rcases hz with rfl | hz
  ·exact .inr (.one h)
  ·exact .inr (.head h hz)
 ·obtain ⟨r,mr,hw,_⟩:=h
  exact AI.2 ⟨r,mr,A2.2 (.inl hw)⟩
 ·simp only[decide_eq_false_iff_not,not_or]
  exact ⟨fun e=>hn e.symm,hr⟩
 ·simp
structure ZFN (R:List Zg):Prop where
 adds:∀r∈R,∀a∈r.thn,a.kind=1
 free:∀r∈R,∀x∈r.cond,x.kind=2→∀w∈Xk r,x.pattern.rel≠w∧¬YJ R x.pattern.rel w
theorem ZM4 {p:Zv} {b:List Zs} (hf:Yb (YE (Yf p b)).1=true):(YE (Yf p b)).1.rel=p.rel:=by
 cases hi:Yf p b with
 | none=>
  rw [hi] at hf
  exact absurd hf (by decide)
 | some g=>
  unfold Yf at hi
  split at hi
  ·obtain ⟨l,_,rfl⟩:=A5.1 hi
   rfl
  ·simp at hi
theorem ZM5 {R A B:List Zg} (hR:ZFN R) (hA:∀r∈A,r∈R) {D:ByteArray→Prop} (hD:∀x y,D x→Zdq R x y→D y) (hB:∀r∈A,∀w∈Xk r,D w→r∈B) {base M N:List Zb} (hM:ZjQ A base M) (hN:ZjQ B base N) (okM:∀f∈M,Yb f=true) (okN:∀f∈N,Yb f=true) {v:Nat} (ih:∀f,D f.rel→ZM9 R f.rel<v→(f∈M↔f∈N)):∀f∈M,D f.rel→ZM9 R f.rel≤v→f∈N:=by
 obtain ⟨rank,hs⟩:=hM.supp
 have key:∀n,∀f∈M,rank f=n→D f.rel→ZM9 R f.rel≤v→f∈N:=by
  intro n
  induction n using Nat.strongRecOn with
  | ind n IH=>
   intro f mf hn hd hv
   rcases hs f mf with hb | ⟨r,mr,t,mt,a,ma,e,hr,ha⟩
   ·exact hN.giv f hb
   ·have mR:=hA r mr
    have hrel:f.rel=a.pattern.rel:=by
     have:=okM f mf
     rw [←e] at this ⊢
     exact ZM4 this
    have hw:a.pattern.rel∈Xk r:=AJ.2 ⟨a,ma,by rw [if_pos (.inl (hR.adds r mR a ma))]⟩
    have hfN:∀g∈t.facts,g∈N:=fun g mg=>by
     obtain ⟨c,mc,ck,cr⟩:=Zxv M _ (XT r) rfl t mt g mg
     have hst:Zdq R f.rel g.rel:=⟨r,mR,by rw [hrel];exact hw,by rw [←cr];exact AJ.2 ⟨c,(Ab.1 mc).1,by rw [if_pos (.inl ck)]⟩⟩
     have:=ZNj hst
     exact IH (rank g) (by have:=hr g mg;omega) g (ZsT mt g mg) rfl (hD _ _ hd hst) (by omega)
    rw [←e]
    refine hN.clos r (hB r mr _ hw (by rw [←hrel];exact hd)) t (Zv2 (R:=R) mt hfN) (fun g mg gN=>?_) a ma
    obtain ⟨c,mc,rfl⟩:=AC.1 mg
    obtain ⟨mc,ck⟩:=Ab.1 mc
    have ck2:c.kind=2:=by simpa using ck
    have grel:=ZM4 (okN _ gN)
    obtain ⟨k1,k2⟩:=hR.free r mR c mc ck2 _ hw
    have hst:Zdq R f.rel c.pattern.rel:=⟨r,mR,by rw [hrel];exact hw,AJ.2 ⟨c,mc,by rw [if_pos (.inr ck2)]⟩⟩
    have:=ZNi hst (by rw [hrel];exact k1) (by rw [hrel];exact k2)
    exact ha _ mg ((ih _ (by rw [grel];exact hD _ _ hd hst) (by rw [grel];omega)).2 gN)
 exact fun f mf=>key _ f mf rfl
theorem ZNb {R L:List Zg} (hR:ZFN R) (hL:∀r∈L,r∈R) {D:ByteArray→Prop} (hD:∀x y,D x→Zdq R x y→D y) (hB:∀r∈R,∀w∈Xk r,D w→r∈L) {base M N:List Zb} (hM:ZjQ R base M) (hN:ZjQ L base N) (okM:∀f∈M,Yb f=true) (okN:∀f∈N,Yb f=true):∀f,D f.rel→(f∈M↔f∈N):=by
 have key:∀v f,D f.rel→ZM9 R f.rel<v→(f∈M↔f∈N):=by
  intro v
  induction v with
  | zero=>intro f _ h;omega
  | succ v ih=>
   intro f hd h
   exact ⟨fun m=>ZM5 hR (fun _ h=>h) hD hB hM hN okM okN ih f m hd (by omega),fun m=>ZM5 hR hL hD (fun r mr _ _ _=>hL r mr) hN hM okN okM (fun g hg h=>(ih g hg h).symm) f m hd (by omega)⟩
 exact fun f hd=>key (ZM9 R f.rel+1) f hd (by omega)
theorem ZOQ {R:List Zg} (hR:ZFN R) {base M N:List Zb} (hM:ZjQ R base M) (hN:ZjQ R base N) (okM:∀f∈M,Yb f=true) (okN:∀f∈N,Yb f=true):∀f,f∈M↔f∈N:=
 fun f=>ZNb (D:=fun _=>True) hR (fun _ h=>h) (fun _ _ _ _=>trivial) (fun _ h _ _ _=>h) hM hN okM okN f trivial
theorem Z0.log {R:List Zg} {base F:List Zb} (h:Z0 R base F):ZFN R:=by
 refine ⟨fun r mr a ma=>?_,fun r mr x mx hx w mw=>?_⟩
 ·have hr2:=(h.rule mr).1
  unfold ZM at hr2
  simp only[A7] at hr2
  have:=AN.1 hr2.2 a ma
  simpa using this
 ·have h1:=h.logical
  rw [A7] at h1
  have h2:=AN.1 h1.2 r mr
  unfold Y4 at h2
  rw [A7] at h2
  have h3:=AN.1 h2.2 x mx
  unfold ZgX at h3
  rw [hx] at h3
  simp only[beq_self_eq_true,Bool.not_true,Aj] at h3
  have h4:=AN.1 h3 _ (ZP.2 mw)
  unfold Zjl at h4
  simp only[A7,Bool.not_eq_true',decide_eq_false_iff_not] at h4
  exact ⟨fun e=>ZuE.1 h4.1 e.symm,h4.2⟩
end
section
open Classical
/- without one of the given facts -/
theorem ZII {r:Zg} (h:YQ r=true):∃x l,r.cond=x::l∧x.kind=1:=by
 unfold YQ at h
 simp only[A7,decide_eq_true_eq] at h
 have hv:=h.1.1.2
 have hl:=h.1.1.1.1.1.1.2
 cases hc:r.cond with
 | nil=>rw [hc] at hl;simp at hl
 | cons x l=>
  refine ⟨x,l,rfl,?_⟩
  rw [hc] at hv
  simp only[Q0,A7,ne_eq,not_true_eq_false,decide_false,Aj,decide_eq_true_eq] at hv
  exact hv.1.1.2
theorem ZJs {F:List Zb}:∀n (l:List Zt),l.length=n→(∃x∈l,x.kind=1)→∀t∈Zw l F,t.facts≠[]:=by
 intro n
 induction n with
 | zero=>intro l h ⟨x,mx,_⟩;rw [AQ h] at mx;simp at mx
 | succ n ih=>
  intro l h hx
  obtain ⟨p,x,rfl⟩:∃p x,l=p++[x]:=⟨l.dropLast,l.getLast (by intro e;simp [e] at h),(Aa _).symm⟩
  intro t mt
  rw [Y6] at mt
  obtain ⟨s,ms,mt⟩:=AI.1 mt
  unfold ZaR at mt
  by_cases h1:x.kind=1
  ·rw [if_pos h1] at mt
   obtain ⟨g,mg,hg⟩:=AJ.1 mt
   obtain ⟨b,hb,rfl⟩:=A5.1 hg
   simp
  ·rw [if_neg h1] at mt
   split at mt
   ·simp at mt;subst mt
    obtain ⟨y,my,hy⟩:=hx
    rcases A2.1 my with my | my
    ·exact ih p (by simpa using h) ⟨y,my,hy⟩ t ms
    ·simp at my;subst my;exact absurd hy h1
   ·simp at mt
theorem ZIZ {R:List Zg} {base F:List Zb} (h:Z0 R base F) {r:Zg} (mr:r∈R) {t:Zu} (mt:t∈Zw (XT r) F) (a:Zz):(Yg F r t a).inn≠[]:=by
 have hl:=(h.rule mr).1
 unfold ZM at hl
 simp only[A7] at hl
 obtain ⟨x,l,e,hx⟩:=ZII hl.1.1
 have hne:=ZJs _ (XT r) rfl ⟨x,Ab.2 ⟨by rw [e];simp,by simp [hx]⟩,hx⟩ t mt
 cases hf:t.facts with
 | nil=>exact absurd hf hne
 | cons g l2=>
  have gF:=ZsT mt g (by rw [hf];simp)
  obtain ⟨j,k1,_⟩:=Q6 gF
  have my:ZY F g∈Qr F t.facts:=((Yv F t.facts).2.1 _).2 ⟨g,by rw [hf];simp,rfl,by omega⟩
  intro e2
  have e3:Qr F t.facts=[]:=e2
  rw [e3] at my
  simp at my
theorem ZH2:∀(c l:List Zf),∃E,c.foldl Zjz l=l++E∧∀x∈E,x∈c
 | [],l=>⟨[],by simp,by simp⟩
 | r::c,l=>by
  obtain ⟨E,h1,h2⟩:=ZH2 c (Zjz l r)
  rw [Ac,h1]
  unfold Zjz
  split
  ·exact ⟨E,rfl,fun x mx=>by simp [h2 x mx]⟩
  ·refine ⟨r::E,by simp,fun x mx=>?_⟩
   rcases AM.1 mx with rfl | mx
   ·simp
   ·simp [h2 x mx]
theorem ZOg {k:Nat}:∀{A E:List Zf} {i:Nat},i≤k→k<i+A.length→Zil (A++E) i ((k:Nat):Int)=A.eraseIdx (k - i)++E
 | [],E,i,h1,h2=>by simp at h2;omega
 | x::A,E,i,h1,h2=>by
  rw [List.cons_append]
  unfold Zil
  have rest:∀(l:List Zf) (j:Nat),k<j→Zil l j ((k:Nat):Int)=l:=by
   intro l
   induction l with
   | nil=>intro j _;rfl
   | cons y l ih=>
    intro j hj
    unfold Zil
    rw [if_neg (by omega),ih (j+1) (by omega)]
  by_cases e:i=k
  ·subst e
   rw [if_pos rfl,rest _ _ (by omega)]
   simp
  ·rw [if_neg (by omega),ZOg (by omega) (by simp at h2;omega)]
   obtain ⟨d,hd⟩:∃d,k - i=d+1:=⟨k - i - 1,by omega⟩
   rw [hd,show k - (i+1)=d by omega]
   simp
theorem ZOr {α β:Type} (g:α→β):∀(l:List α) (k:Nat),(l.map g).eraseIdx k=(l.eraseIdx k).map g
 | [],_=>by simp
 | x::l,0=>by simp
 | x::l,k+1=>by simp [ZOr g l k]
theorem ZOo {R:List Zg} {base F:List Zb} (h:Z0 R base F) (h60:(ZZ R F base).length≤60) {k:Nat} (hk:k<base.length):ZjQ R (base.eraseIdx k) (YT F (rdB (Zr.drop { nodes:=((F.length:Nat):Int),reasons:=ZZ R F base } ((k:Nat):Int)))):=by
 have hB:=(Q4.of h h60).drop ((k:Nat):Int)
 obtain ⟨E,e1,e2⟩:=ZH2 (R.flatMap (Zvb F)) (Zdj F base)
 have hg:ZZ R F base=Zdj F base++E:=e1
 have hbl:(Zdj F base).length=base.length:=by simp [Zdj]
 have hd:Zil (ZZ R F base) 0 ((k:Nat):Int)=(Zdj F base).eraseIdx k++E:=by
  rw [hg,ZOg (by omega) (by omega)]
  simp
 have hbase:(Zdj F base).eraseIdx k=Zdj F (base.eraseIdx k):=by
  unfold Zdj
  exact ZOr _ base k
 refine Zt6 h hB (fun x=>?_) fun f mf=>h.good.inc f (List.mem_of_mem_eraseIdx mf)
 rw [hd,hbase,A2]
 have hb:x∈Zdj F (base.eraseIdx k)↔∃f∈base.eraseIdx k,x={ for_:=ZY F f,inn:=[],outs:=[] }:=by
  unfold Zdj
  rw [AC]
  exact ⟨fun ⟨f,mf,e⟩=>⟨f,mf,e.symm⟩,fun ⟨f,mf,e⟩=>⟨f,mf,e.symm⟩⟩
 rw [hb]
 refine or_congr_right ?_
 constructor
 ·intro mx
  obtain ⟨r,mr,hx⟩:=AI.1 (e2 x mx)
  obtain ⟨t,mt,hx⟩:=AI.1 hx
  obtain ⟨a,ma,e⟩:=AC.1 hx
  exact ⟨r,mr,t,mt,a,ma,e.symm⟩
 ·rintro ⟨r,mr,t,mt,a,ma,rfl⟩
  have hm:Yg F r t a∈ZZ R F base:=Zib.2 (.inr ⟨r,mr,t,mt,a,ma,rfl⟩)
  rw [hg] at hm
  rcases A2.1 hm with hm | hm
  ·obtain ⟨f,_,e⟩:=AC.1 hm
   have:=ZIZ h mr mt a
   rw [←e] at this
   exact absurd rfl this
  ·exact hm
end
section
open Classical
theorem ZhH {row:List Int} {i:Nat} (h:i<row.length):row[i]?=some (lvN row i):=by
 unfold lvN
 rw [A3 h]
 rfl
theorem Zth {x:Int} (h1:-1000000≤x) (h2:x≤1000000):IntKind.i64.wrap x=x:=YW (by omega) (by omega)
theorem ZhU {k:Nat} (h:k<1000000000):IntKind.i64.wrap (((k:Nat):Int)+1)=((k+1:Nat):Int):=Zj (n:=k+1) (by omega) (by omega)
theorem ZtC (l:List Int) (h:l.length≤1073741824):ZiE l=some l:=Zh _ h
/- what a node depends on -/
theorem ZnG {ρ:Type} {n:Nat} {R:List Zf} {x:Int} {l:List Int} {body:List Bool × List Int × Int→Option ((List Bool × List Int × Int) ⊕ ρ)} (g:List Bool × List Int→ρ)
  (h1:∀s i y,Qc n R x s→i<l.length→l[i]?=some y→(0≤y∧y.toNat<n)→body (s.1,s.2,((i:Nat):Int))=some (.inl ((ZeR s y).1,(ZeR s y).2,((i+1:Nat):Int))))
  (h2:∀s,body (s.1,s.2,((l.length:Nat):Int))=some (.inr (g s))) (hl:∀y∈l,(0≤y∧y.toNat<n)∧Zaj R x y):
  ∀(rest pre:List Int) (s:List Bool × List Int),l=pre++rest→Qc n R x s→iter body (s.1,s.2,((pre.length:Nat):Int))=some (g (rest.foldl ZeR s))
 | [],pre,s,e,_=>by
  rw [List.append_nil] at e
  subst e
  exact Z2 (h2 s)
 | y::rest,pre,s,e,hI=>by
  have hy:l[pre.length]?=some y:=by rw [e];simp
  have my:y∈l:=AB hy
  have hlt:=(A6.1 hy).1
  rw [Yh (h1 s pre.length y hI hlt hy (hl y my).1)]
  have:=ZnG g h1 h2 hl rest (pre++[y]) (ZeR s y) (by rw [e];simp) (Zto hI (hl y my).1 (hl y my).2).1
  simpa using this
theorem Znp {b:Zr} (h:Q4 b) (x:Int):∃row,Zdf b x=some row∧row.length=b.nodes.toNat∧∀y:Int,0≤y→(row[y.toNat]?=some true↔Zaj b.reasons x y):=by
 have h0:=h.n0
 have h1:=h.n1
 have hn:b.nodes.toNat≤24:=by omega
 unfold Zdf
 rw [Zh _ ⟨h0,by omega⟩]
 have start:Qc b.nodes.toNat b.reasons x (AA b.nodes.toNat false,[x]):=⟨by simp,[],rfl,by simp,fun y _ hy=>by
  by_cases hl:y.toNat<b.nodes.toNat
  ·simp [hl] at hy
  ·rw [AW (by simp;omega)] at hy;simp at hy,by simp [Zuo,List.countP_replicate]⟩
 refine Zr6 h.ok (fun out todo i=>(out,todo,((i:Nat):Int))) (fun r=>r) ?_ ?_ (b.nodes.toNat+1) _ _ 0 start (by simp) (by omega) (fun j z hj=>by omega)
 ·intro out todo i z hI hi hz hzx
  have hlt:=(A6.1 hz).1
  have ht:decide (((i:Nat):Int)<((todo.length:Nat):Int))=true:=decide_eq_true (by omega)
  simp only[ht,if_true]
  rw [YM (f:=Zg0 z) (fun _ s=>Qc b.nodes.toNat b.reasons x s∧ZgZ (out,todo) s) ⟨hI,.refl _⟩]
  ·rw [ZhU (by omega)]
  ·intro j r s mr _ _ hs
   obtain ⟨hs1,hs2⟩:=hs
   obtain ⟨k1,k2,_⟩:=ZsV h.ok hzx hs1 mr
   refine ⟨?_,k1,hs2.trans k2⟩
   obtain ⟨a,c⟩:=s
   obtain ⟨v,hv⟩:=hs2.more
   simp only at hv
   have hzc:c[i]?=some z:=by rw [hv,Ak hlt];exact hz
   have hcl:i<c.length:=(A6.1 hzc).1
   simp only[A9]
   rw [Zh _ ⟨by omega,by omega⟩,hzc,A0]
   unfold Zg0
   by_cases e:r.for_=z
   ·obtain ⟨f1,f2⟩:=h.few r mr
    have e2:(r.for_ != z)=false:=by simp [e]
    rw [if_pos e,e2]
    simp only[A8,if_false]
    rw [ZtC _ (by omega),A0,Zh _ (by omega)]
    have hd:=ZvK h.ok hzx mr e
    refine ZnG (n:=b.nodes.toNat) (R:=b.reasons) (x:=x) (l:=r.inn++r.outs) (fun s=>Sum.inl s) ?_ ?_ hd (r.inn++r.outs) [] (a,c) rfl hs1
    ·intro s u y hu hul hy hyn
     have hlt2:decide (((u:Nat):Int)<((r.inn.length+r.outs.length:Nat):Int))=true:=decide_eq_true (by rw [AK] at hul;omega)
     simp only[hlt2,if_true,A9]
     rw [AK] at hul
     rw [Zh _ ⟨by omega,by omega⟩,hy,A0]
     have hyl:y.toNat<s.1.length:=by rw [hu.len];exact hyn.2
     rw [Zh _ ⟨hyn.1,by omega⟩,A3 hyl,A0,ZhU (by omega)]
     unfold ZeR
     obtain ⟨t,t1,_,_,t4⟩:=hu.row
     have hlen:s.2.length=t.length+1:=by rw [t1];simp
     by_cases hb:s.1[y.toNat]=true
     ·rw [if_pos hb,if_pos (by rw [A3 hyl,hb])]
     ·rw [if_neg hb,if_neg (by rw [A3 hyl];simpa using hb),Zh _ (by omega)]
    ·intro s
     have hf:decide ((((r.inn++r.outs).length:Nat):Int)<((r.inn.length+r.outs.length:Nat):Int))=false:=decide_eq_false (by rw [AK];omega)
     simp only[hf,A8,if_false]
   ·have e2:(r.for_ != z)=true:=by simp [e]
    rw [if_neg e,e2,if_pos rfl]
 ·intro out todo hI
  simp only[Zy,A8,if_false]
theorem ZfQ {b:Zr} (h:Q4 b):XR b=some true:=by
 unfold XR
 have h60:=h.len
 rw [Zlj h.small (by omega),h.valid,A0,if_pos rfl,ZU (p:=fun _=>true) (r:=true)]
 ·simp
 ·intro i r mr
  rw [ZU (p:=fun _=>true) (r:=.inl ())]
  ·simp
  ·intro j y my
   obtain ⟨k1,k2⟩:=h.strat r mr y my
   obtain ⟨row,e,hl,hd⟩:=Znp h y
   obtain ⟨⟨f0,f1⟩,_,_⟩:=h.ok r mr
   have ey:(y==r.for_)=false:=by simpa using k1
   have hlt:r.for_.toNat<row.length:=by omega
   have hv:row[r.for_.toNat]=false:=by
    cases hb:row[r.for_.toNat] with
    | false=>rfl
    | true=>exact absurd ((hd r.for_ f0).1 (by rw [A3 hlt,hb])) k2
   rw [ey]
   simp only[A8,if_false]
   rw [e,A0,Zh _ ⟨f0,by omega⟩,A3 hlt,A0,hv]
   rfl
/- strata -/
theorem ZkT (n i:Nat):lvN (AA n 0) i=0:=by
 unfold lvN
 by_cases hi:i<n
 ·simp [hi]
 ·rw [AW (by simp;omega)];rfl
theorem Zp3 {b:Zr} (h:Q4 b):Zds b=some (lvB b):=by
 obtain ⟨hL,hv⟩:=h.lv
 have h0:=h.n0
 have h1:=h.n1
 unfold Zds
 rw [ZfQ h,A0,if_pos rfl,Zh _ ⟨h0,by omega⟩]
 generalize hn:b.nodes.toNat=n at *
 have walk:∀(body:List Int × Int→Option ((List Int × Int) ⊕ List Int)),(∀row (i:Nat),i≤n→row.length=n→(∀j,0≤lvN row j∧lvN row j≤lvN (lvB b) j)→body (row,((i:Nat):Int))=some (.inl (XM b.reasons row,((i+1:Nat):Int))))→(∀row,body (row,((n+1:Nat):Int))=some (.inr row))→
   ∀d i row,i+d=n+1→row.length=n→(∀j,0≤lvN row j∧lvN row j≤lvN (lvB b) j)→iter body (row,((i:Nat):Int))=some (ZsN b.reasons d row):=by
  intro body b1 b2 d
  induction d with
  | zero=>
   intro i row hi hl hb
   obtain rfl:i=n+1:=by omega
   exact Z2 (b2 row)
  | succ d ih=>
   intro i row hi hl hb
   rw [Yh (b1 row i (by omega) hl hb)]
   exact ih (i+1) _ (by omega) (by rw [Ze8];exact hl) fun j=>⟨AX (hb j).1 (Zbk b.reasons row j),Zdt hL.sol (fun _ h=>h) (fun j=>(hb j).2) j⟩
 rw [←Zmq hL (by have:=h.ok;rw [hn] at this;exact this) (n+1) (AA n 0) (by simp) (fun j=>by rw [ZkT];exact AR _) (fun j=>by rw [ZkT];exact (hv j).1) (by have:=Ztp n (lvB b) (AA n 0);omega)]
 refine walk _ ?_ ?_ (n+1) 0 _ (by omega) (by simp) (fun j=>by rw [ZkT];exact ⟨AR _,(hv j).1⟩)
 ·intro row i hi hl hb
  have ht:decide (((i:Nat):Int)≤b.nodes)=true:=decide_eq_true (by omega)
  simp only[ht,if_true]
  rw [YM (f:=XS) (fun _ s=>s.length=n∧∀j,0≤lvN s j∧lvN s j≤lvN (lvB b) j) ⟨hl,hb⟩]
  ·rw [ZhU (by omega)]
   rfl
  ·intro j r s mr _ _ hs
   obtain ⟨hs1,hs2⟩:=hs
   have hok:=h.ok r mr
   rw [hn] at hok
   obtain ⟨⟨f0,f1⟩,f2,f3⟩:=hok
   refine ⟨?_,by rw [Zc4];exact hs1,fun j=>⟨AX (hs2 j).1 (ZgM s r j),Zln hL.sol mr (fun j=>(hs2 j).2) j⟩⟩
   have hout:∀y∈r.outs,y.toNat≠r.for_.toNat:=fun y my e=>(h.strat r mr y my).1 (by have:=f3 y my;omega)
   rw [YM (f:=fun u y=>u.set r.for_.toNat (mx (lvN u r.for_.toNat) (lvN u y.toNat))) (fun _ u=>u.length=n∧∀j,j≠r.for_.toNat→lvN u j=lvN s j) ⟨hs1,fun _ _=>rfl⟩]
   ·rw [YM (f:=fun u y=>u.set r.for_.toNat (mx (lvN u r.for_.toNat) (lvN u y.toNat+1))) (fun _ u=>u.length=n∧∀j,j≠r.for_.toNat→lvN u j=lvN s j)]
    ·rw [Zsx (by omega) hout]
    ·have e:=Zpx (row:=s) (f:=r.for_.toNat) (by omega) r.inn (lvN s r.for_.toNat) (AR _)
     rw [Zu6 (by omega)] at e
     rw [e]
     exact ⟨by simp [hs1],fun j hj=>by rw [Zad,if_neg fun hh=>hj hh.1]⟩
    ·intro j y u my _ _ hu
     obtain ⟨y0,y1⟩:=f3 y my
     have hy:=hout y my
     have hyv:=hu.2 y.toNat hy
     have hb1:=hs2 y.toNat
     have hb2:=hv y.toNat
     refine ⟨?_,by simp [hu.1],fun j hj=>by rw [Zad,if_neg fun hh=>hj hh.1];exact hu.2 j hj⟩
     rw [Zh _ ⟨f0,by omega⟩,ZhH (by omega),A0,Zh _ ⟨y0,by omega⟩,ZhH (by omega),A0,Zth (by omega) (by omega)]
     rfl
   ·intro j y u my _ _ hu
    obtain ⟨y0,y1⟩:=f2 y my
    refine ⟨?_,by simp [hu.1],fun j hj=>by rw [Zad,if_neg fun hh=>hj hh.1];exact hu.2 j hj⟩
    rw [Zh _ ⟨f0,by omega⟩,ZhH (by omega),A0,Zh _ ⟨y0,by omega⟩,ZhH (by omega),A0]
    rfl
 ·intro row
  have hf:decide (((n+1:Nat):Int)≤b.nodes)=false:=decide_eq_false (by omega)
  simp only[hf,A8,if_false]
theorem Zuu {b:Zr} (h:Q4 b):ZgJ b=some (lvB b):=by
 obtain ⟨hL,hv⟩:=h.lv
 have h0:=h.n0
 have h1:=h.n1
 unfold ZgJ
 rw [Zh _ ⟨h0,by omega⟩]
 refine Zqg hL h.ok (fun row m=>(row,m)) (fun row=>row) ?_ ?_ b.nodes.toNat _ (by simp) (fun j=>by rw [ZkT];exact ⟨AR _,(hv j).1⟩) (Ztp _ _ _)
 ·intro row hl hb
  simp only[if_true]
  rw [YM (f:=ZcH) (fun _ s=>s.1.length=b.nodes.toNat∧∀j,0≤lvN s.1 j∧lvN s.1 j≤lvN (lvB b) j) ⟨hl,hb⟩]
  intro j r s mr _ _ hs
  obtain ⟨hs1,hs2⟩:=hs
  obtain ⟨⟨f0,f1⟩,f2,f3⟩:=h.ok r mr
  obtain ⟨row,m⟩:=s
  simp only at hs1 hs2
  refine ⟨?_,?_⟩
  ·dsimp only
   rw [Zh _ ⟨f0,by omega⟩,ZhH (by omega),A0]
   rw [Zif (f:=fun u y=>mx u (lvN row y.toNat)) fun j y u my=>by
    obtain ⟨y0,y1⟩:=f2 y my
    rw [Zh _ ⟨y0,by omega⟩,ZhH (by omega),A0]
    rfl]
   rw [Zif (f:=fun u y=>mx u (lvN row y.toNat+1)) fun j y u my=>by
    obtain ⟨y0,y1⟩:=f3 y my
    have hb1:=hs2 y.toNat
    have hb2:=hv y.toNat
    rw [Zh _ ⟨y0,by omega⟩,ZhH (by omega),A0,Zth (by omega) (by omega)]
    rfl]
   show (if decide (lvN row r.for_.toNat<Zh3 row r)=true then some (Sum.inl (row.set r.for_.toNat (Zh3 row r),true)) else some (Sum.inl (row,m)))=some (Sum.inl (ZcH (row,m) r))
   unfold ZcH
   by_cases hc:lvN row r.for_.toNat<Zh3 row r
   ·rw [if_pos (decide_eq_true hc),if_pos hc]
    rfl
   ·rw [if_neg (by simpa using hc),if_neg hc]
  ·unfold ZcH
   by_cases hc:lvN row r.for_.toNat<Zh3 row r
   ·rw [if_pos hc]
    exact ⟨by rw [Zc4];exact hs1,fun j=>⟨AX (hs2 j).1 (ZgM row r j),Zln hL.sol mr (fun j=>(hs2 j).2) j⟩⟩
   ·rw [if_neg hc]
    exact ⟨hs1,hs2⟩
 ·intro row
  rfl
end
section
open Classical
theorem Zs5 {n k:Nat} {row:List Int} (h:RIn n row k) {y:Int} (h0:0≤y) (hy:y.toNat<n):atI row y=some (rdN row y)∧row[y.toNat]?=some (rdN row y):=by
 obtain ⟨v,hv,_⟩:=h.val y.toNat hy
 have e:row[y.toNat]?=some (rdN row y):=by unfold rdN;rw [hv];rfl
 refine ⟨?_,e⟩
 unfold atI
 rw [if_pos h0,e]
noncomputable def Zpu (row:List Int) (k:Nat) (y:Int):Bool:=decide (0≤rdN row y∧rdN row y<((k:Nat):Int))
noncomputable def ZpC (row:List Int) (y:Int):Bool:=decide (rdN row y<0)
theorem Zq3 {ρ:Type} {n k:Nat} {row:List Int} (h:RIn n row k) {l:List Int} (hl:∀y∈l,0≤y∧y.toNat<n) {fin:Unit→Option ρ} {z:ρ} {body:Nat→Int→Unit→Option (Unit ⊕ ρ)}
  (hb:∀i y u,body i y u=(atI row y).bind fun x=>if decide (x<0)=true then some (.inr z) else if decide (((k:Nat):Int)≤x)=true then some (.inr z) else some (.inl ())):forL body fin l 0 ()=if l.all (Zpu row k)=true then fin () else some z:=by
 rw [ZU (p:=Zpu row k) (r:=z)]
 intro i y my
 obtain ⟨y0,y1⟩:=hl y my
 rw [hb,(Zs5 h y0 y1).1,A0]
 unfold Zpu
 by_cases h1:rdN row y<0
 ·rw [if_pos (decide_eq_true h1),decide_eq_false (by omega)];rfl
 ·rw [if_neg (by simpa using h1)]
  by_cases h2:((k:Nat):Int)≤rdN row y
  ·rw [if_pos (decide_eq_true h2),decide_eq_false (by omega)];rfl
  ·rw [if_neg (by simpa using h2),decide_eq_true (by omega)];rfl
theorem Zp4 {ρ:Type} {n k:Nat} {row:List Int} (h:RIn n row k) {l:List Int} (hl:∀y∈l,0≤y∧y.toNat<n) {fin:Unit→Option ρ} {z:ρ} {body:Nat→Int→Unit→Option (Unit ⊕ ρ)}
  (hb:∀i y u,body i y u=(atI row y).bind fun x=>if decide (0≤x)=true then some (.inr z) else some (.inl ())):forL body fin l 0 ()=if l.all (ZpC row)=true then fin () else some z:=by
 rw [ZU (p:=ZpC row) (r:=z)]
 intro i y my
 obtain ⟨y0,y1⟩:=hl y my
 rw [hb,(Zs5 h y0 y1).1,A0]
 unfold ZpC
 by_cases h1:0≤rdN row y
 ·rw [if_pos (decide_eq_true h1),decide_eq_false (by omega)];rfl
 ·rw [if_neg (by simpa using h1),decide_eq_true (by omega)];rfl
theorem ZeQ {row:List Int} {k:Nat} {r:Zf}:(r.inn.all (Zpu row k)=true∧r.outs.all (ZpC row)=true)↔ZiT row k r:=by
 simp only[AN,Zpu,ZpC,decide_eq_true_eq]
 exact Iff.rfl
theorem ZoE {n k:Nat} {row:List Int} (h:RIn n row k) {r:Zf} (hr:OkN n r):ZaY r row ((k:Nat):Int)=some (decide (ZiT row k r)):=by
 unfold ZaY
 rw [Zq3 h hr.2.1 fun i y u=>rfl,Zp4 h hr.2.2 fun i y u=>rfl]
 by_cases h1:r.inn.all (Zpu row k)=true
 ·rw [if_pos h1]
  by_cases h2:r.outs.all (ZpC row)=true
  ·rw [if_pos h2,decide_eq_true (ZeQ.1 ⟨h1,h2⟩)]
  ·rw [if_neg h2,decide_eq_false fun h=>h2 (ZeQ.2 h).2]
 ·rw [if_neg h1,decide_eq_false fun h=>h1 (ZeQ.2 h).1]
theorem Zpv {n k:Nat} {row:List Int} (h:RIn n row k) {l:List Int} (hl:∀y∈l,0≤y∧y.toNat<n):Zcz l row ((k:Nat):Int)=some (l.all (Zpu row k)):=by
 unfold Zcz
 rw [Zq3 h hl fun i y u=>rfl]
 cases l.all (Zpu row k)<;>rfl
theorem ZsB {n k:Nat} {row:List Int} (h:RIn n row k) {l:List Int} (hl:∀y∈l,0≤y∧y.toNat<n):Ze5 l row=some (l.all (ZpC row)):=by
 unfold Ze5
 rw [Zp4 h hl fun i y u=>rfl]
 cases l.all (ZpC row)<;>rfl
/- the program's rounds -/
theorem Zwl {n:Nat} {L:List Int} {ρ:Type} {body:List Int × Int × Int→Option ((List Int × Int × Int) ⊕ ρ)} {r:ρ} (hv:∀i,0≤lvN L i∧lvN L i≤((n:Nat):Int))
  (h1:∀k row u,k<n→row.length=n→body (row,((k:Nat):Int),u)=some (.inl (row.set k (-1),((k+1:Nat):Int),mx u (lvN L k))))
  (h2:∀u,0≤u→u≤((n:Nat):Int)→(∀i,i<n→lvN L i≤u)→body (AA n (-1),((n:Nat):Int),u)=some (.inr r)):
  ∀m k row u,k+m=n→row.length=n→(∀i,i<k→row[i]?=some (-1))→0≤u→u≤((n:Nat):Int)→(∀i,i<k→lvN L i≤u)→iter body (row,((k:Nat):Int),u)=some r:=by
 intro m
 induction m with
 | zero=>
  intro k row u hk hl hr h0 hu hm
  obtain rfl:k=n:=by omega
  have:row=AA k (-1):=by
   apply List.ext_getElem?
   intro i
   by_cases hi:i<k
   ·rw [hr i hi];simp [hi]
   ·rw [AW (by omega),AW (by simp;omega)]
  rw [this]
  exact Z2 (h2 u h0 hu hm)
 | succ m ih=>
  intro k row u hk hl hr h0 hu hm
  rw [Yh (h1 k row u (by omega) hl)]
  have hx:=Zu4 u (lvN L k)
  refine ih (k+1) _ _ (by omega) (by simp [hl]) (fun i hi=>?_) (by omega) (ZxU hu (hv k).2) fun i hi=>?_
  ·rw [List.getElem?_set]
   by_cases e:k=i
   ·rw [if_pos e,if_pos (by omega)]
   ·rw [if_neg e];exact hr i (by omega)
  ·by_cases e:i=k
   ·rw [e];exact hx.2
   ·exact AX (hm i (by omega)) hx.1
theorem Zxd {b:Zr} (h:Q4 b) {t:Nat} (ht:∀i,i<b.nodes.toNat→lvN (lvB b) i≤((t:Nat):Int)):(Xl b.reasons (lvB b) b.nodes.toNat (AD 0 (t+1)) (AA b.nodes.toNat (-1),0)).1=rdB b:=by
 unfold rdB
 rw [←Al,ZrN (a:=t+1) (b:=b.nodes.toNat)]
 ·intro r mr
  have:=ht r.for_.toNat (h.ok r mr).1.2
  omega
 ·intro r mr
  have:=(h.lv.2 r.for_.toNat).2
  have:=(h.ok r mr).1.2
  omega
theorem ZoC {ρ:Type} {n k:Nat} {row:List Int} (hl:row.length=n) {l:List Int} (hx:∀x∈l,0≤x∧x.toNat<n) {fin:List Int→Option ρ} {body:Nat→Int→List Int→Option (List Int ⊕ ρ)}
  (hb:∀i x s,body i x s=chk (0≤x∧x<((s.length:Nat):Int)) ((s[A1 x]?).bind fun _=>some (.inl (List.set s (A1 x) ((k:Nat):Int))))):forL body fin l 0 row=fin (ZcJ row l ((k:Nat):Int)):=by
 rw [YM (f:=fun s x=>s.set x.toNat ((k:Nat):Int)) (fun _ s=>s.length=n) hl]
 ·rfl
 ·intro j x s mx _ _ hs
  obtain ⟨x0,x1⟩:=hx x mx
  refine ⟨?_,by simp [hs]⟩
  rw [hb,Zh _ ⟨x0,by omega⟩,A3 (show x.toNat<s.length by omega),A0]
theorem Zox {n:Nat} {R:List Zf} (hR:∀r∈R,OkN n r) {L:List Int} {s:Int} {row:List Int} {k:Nat}:∀x∈Yw R L s row k,0≤x∧x.toNat<n:=fun x mx=>by
 obtain ⟨r,mr,rfl,_⟩:=ZbV.1 mx
 exact (hR r mr).1
theorem ZlG {b:Zr} (h:Q4 b) {ρ:Type} {row:List Int} {k s:Nat} (hI:RIn b.nodes.toNat row k) {fin:List Int→Option ρ} {body:Nat→Zf→List Int→Option (List Int ⊕ ρ)}
  (hb:∀i r acc,body i r acc=chk (0≤r.for_∧r.for_<(((lvB b).length:Nat):Int)) (((lvB b)[(A1 r.for_)]?).bind fun x111=>
         if (x111==((s:Nat):Int))=true then
          chk (r.for_<((row.length:Nat):Int)) <|
          (row[(A1 r.for_)]?).bind fun x112=>
          if (decide (x112<0))=true then
           (ZaY r row ((k:Nat):Int)).bind fun v113=>
           if v113=true then
            chk (acc.length+1≤1073741824) <|
            some (.inl (acc++[r.for_]))
           else
            some (.inl acc)
          else
           some (.inl acc)
         else
          some (.inl acc))):forL body fin b.reasons 0 []=fin (Yw b.reasons (lvB b) ((s:Nat):Int) row k):=by
 have hLl:=h.lv.1.len
 have h60:=h.len
 rw [YC (g:=fun r=>if lvN (lvB b) r.for_.toNat=((s:Nat):Int)∧rdN row r.for_<0∧ZiT row k r then some r.for_ else none)]
 ·rfl
 ·intro j r acc mr ha
  simp only[AS,AL] at ha
  have hok:=h.ok r mr
  obtain ⟨f0,f1⟩:=hok.1
  rw [hb,Zh _ ⟨f0,by omega⟩,ZhH (by omega),A0]
  by_cases c1:lvN (lvB b) r.for_.toNat=((s:Nat):Int)
  ·rw [if_pos (by simpa using c1),Zh _ (by rw [hI.len];omega),(Zs5 hI f0 f1).2,A0]
   by_cases c2:rdN row r.for_<0
   ·rw [if_pos (decide_eq_true c2),ZoE hI hok,A0]
    by_cases c3:ZiT row k r
    ·rw [if_pos (decide_eq_true c3),Zh _ (by omega),if_pos ⟨c1,c2,c3⟩];rfl
    ·rw [if_neg (by simpa using c3),if_neg fun hh=>c3 hh.2.2];simp
   ·rw [if_neg (by simpa using c2),if_neg fun hh=>c2 hh.2.1];simp
  ·rw [if_neg (by simpa using c1),if_neg fun hh=>c1 hh.1];simp
theorem ZtV {b:Zr} (h:Q4 b):ZfZ b=some (rdB b):=by
 obtain ⟨hL,hv⟩:=h.lv
 have h0:=h.n0
 have h1:=h.n1
 have h60:=h.len
 unfold ZfZ
 rw [Zuu h,A0,Zh _ ⟨h0,by omega⟩]
 have hv':∀i,0≤lvN (lvB b) i∧lvN (lvB b) i≤((b.nodes.toNat:Nat):Int):=fun i=>by have:=hv i;omega
 refine Zwl (n:=b.nodes.toNat) (L:=lvB b) hv' ?_ ?_ b.nodes.toNat 0 _ 0 (by omega) (by simp) (fun i hi=>by omega) (AR _) (by omega) (fun i hi=>by omega)
 ·intro k row u hk hl
  have ht:decide (((k:Nat):Int)<((b.nodes.toNat:Nat):Int))=true:=decide_eq_true (by omega)
  simp only[ht,if_true,A9]
  have:=hL.len
  rw [Zh _ ⟨by omega,by omega⟩,A3 (show k<row.length by omega),A0,Zh _ (by omega),ZhH (by omega),A0,ZhU (by omega)]
  rfl
 ·intro u u0 un um
  simp only[Zy,A8,if_false]
  obtain ⟨t,rfl⟩:∃t:Nat,u=((t:Nat):Int):=⟨u.toNat,by omega⟩
  rw [←Zxd h um]
  refine Zro (top:=t) h.ok (fun row k s=>(row,((k:Nat):Int),((s:Nat):Int))) (fun row=>Sum.inr row) ?_ ?_ ?_ (t+1) 0 _ 0 (by omega) (Zg9 _)
  ·intro row k s hI hs hc
   have ht:decide (((s:Nat):Int)≤((t:Nat):Int))=true:=decide_eq_true (by omega)
   simp only[ht,if_true]
   rw [ZlG h hI fun i r acc=>rfl]
   have hl0:((((Yw b.reasons (lvB b) ((s:Nat):Int) row k).length:Nat):Int)==0)=false:=by
    have:(Yw b.reasons (lvB b) ((s:Nat):Int) row k).length≠0:=fun e=>hc (AQ e)
    simpa using this
   simp only[hl0,A8,if_false]
   rw [ZoC hI.len (Zox h.ok) fun i x s=>rfl,ZhU (by have:=hI.few;omega)]
  ·intro row k s hI hs hc
   have ht:decide (((s:Nat):Int)≤((t:Nat):Int))=true:=decide_eq_true (by omega)
   simp only[ht,if_true]
   rw [ZlG h hI fun i r acc=>rfl,hc,ZhU (by omega)]
   rfl
  ·intro row k hI
   have hf:decide (((t+1:Nat):Int)≤((t:Nat):Int))=false:=decide_eq_false (by omega)
   simp only[hf,A8,if_false]
/- the reference's rounds -/
noncomputable def ZiG (n:Nat) (R:List Zf) (L:List Int) (s:Int) (row:List Int) (k x:Nat):Option Int:=if lvN L x=s∧rdN row ((x:Nat):Int)<0∧R.any (fun r=>decide (r.for_=((x:Nat):Int)∧ZiT row k r))=true then some ((x:Nat):Int) else none
theorem ZnW {n:Nat} {R:List Zf} (hR:∀r∈R,OkN n r) {L:List Int} {s:Int} {row:List Int} {k:Nat} {x:Int}:x∈(AD 0 n).filterMap (ZiG n R L s row k)↔x∈Yw R L s row k:=by
 rw [ZbV,AJ]
 constructor
 ·rintro ⟨i,mi,hi⟩
  unfold ZiG at hi
  split at hi
  ·rename_i hc
   obtain rfl:=AU hi
   obtain ⟨h1,h2,h3⟩:=hc
   obtain ⟨r,mr,hr⟩:=Am.1 h3
   rw [decide_eq_true_iff] at hr
   exact ⟨r,mr,hr.1,by simpa using h1,h2,hr.2⟩
  ·simp at hi
 ·rintro ⟨r,mr,rfl,h1,h2,h3⟩
  obtain ⟨f0,f1⟩:=(hR r mr).1
  have e:((r.for_.toNat:Nat):Int)=r.for_:=Int.toNat_of_nonneg f0
  refine ⟨r.for_.toNat,List.mem_range'.2 ⟨r.for_.toNat,f1,by omega⟩,?_⟩
  unfold ZiG
  rw [if_pos ⟨h1,by rw [e];exact h2,Am.2 ⟨r,mr,by rw [decide_eq_true_iff,e];exact ⟨rfl,h3⟩⟩⟩,e]
theorem Zj4 {b:Zr} (h:Q4 b) {row:List Int} {k s:Nat} (hI:RIn b.nodes.toNat row k):ZbH b (lvB b) ((s:Nat):Int) row ((k:Nat):Int)=some ((AD 0 b.nodes.toNat).filterMap (ZiG b.nodes.toNat b.reasons (lvB b) ((s:Nat):Int) row k)):=by
 obtain ⟨hL,hv⟩:=h.lv
 have h0:=h.n0
 have h1:=h.n1
 unfold ZbH
 have walk:∀(body:List Int × Int→Option ((List Int × Int) ⊕ List Int)) (G:Nat→Option Int),(∀acc (i:Nat),i<b.nodes.toNat→acc.length≤24→body (acc,((i:Nat):Int))=some (.inl (acc++(G i).toList,((i+1:Nat):Int))))→(∀acc,body (acc,((b.nodes.toNat:Nat):Int))=some (.inr acc))→
   ∀d i acc,i+d=b.nodes.toNat→acc.length≤i→iter body (acc,((i:Nat):Int))=some (acc++(AD i d).filterMap G):=by
  intro body G b1 b2 d
  induction d with
  | zero=>
   intro i acc hi ha
   obtain rfl:i=b.nodes.toNat:=by omega
   rw [Z2 (b2 acc)]
   simp
  | succ d ih=>
   intro i acc hi ha
   rw [Yh (b1 acc i (by omega) (by omega)),ih (i+1) _ (by omega) (by rw [AK];cases G i<;>simp<;>omega),List.range'_succ,List.filterMap_cons]
   cases G i<;>simp
 refine walk _ (ZiG b.nodes.toNat b.reasons (lvB b) ((s:Nat):Int) row k) ?_ ?_ b.nodes.toNat 0 [] (by omega) (by simp)
 ·intro acc i hi ha
  have ht:decide (((i:Nat):Int)<b.nodes)=true:=decide_eq_true (by omega)
  have hLl:=hL.len
  have e1:atI (lvB b) ((i:Nat):Int)=some (lvN (lvB b) i):=by rw [Zav];exact ZhH (by omega)
  have e2:=(Zs5 hI (y:=((i:Nat):Int)) (by omega) (by simpa using hi)).1
  simp only[ht,if_true]
  rw [e1,A0,e2,ZhU (by omega)]
  unfold ZiG
  by_cases c1:lvN (lvB b) i=((s:Nat):Int)
  ·have d1:(lvN (lvB b) i != ((s:Nat):Int))=false:=by simp [c1]
   simp only[d1,A8,if_false,A0]
   by_cases c2:rdN row ((i:Nat):Int)<0
   ·have d2:decide (0≤rdN row ((i:Nat):Int))=false:=decide_eq_false (by omega)
    simp only[d2,A8,if_false]
    rw [Zco (p:=fun r=>decide (r.for_=((i:Nat):Int)∧ZiT row k r)) (r:=.inl (acc++[((i:Nat):Int)],((i+1:Nat):Int)))]
    ·by_cases c3:b.reasons.any (fun r=>decide (r.for_=((i:Nat):Int)∧ZiT row k r))=true
     ·rw [if_pos c3,if_pos ⟨c1,c2,c3⟩];rfl
     ·rw [if_neg c3,if_neg fun hh=>c3 hh.2.2];simp
    ·intro j r mr
     obtain ⟨f1,f2,f3⟩:=h.ok r mr
     by_cases c3:r.for_=((i:Nat):Int)
     ·rw [if_pos (by simpa using c3),Zpv hI f2,A0]
      by_cases c4:r.inn.all (Zpu row k)=true
      ·rw [if_pos c4,ZsB hI f3,A0]
       by_cases c5:r.outs.all (ZpC row)=true
       ·rw [if_pos c5,Zh _ (by omega),decide_eq_true ⟨c3,ZeQ.1 ⟨c4,c5⟩⟩];rfl
       ·rw [if_neg c5,decide_eq_false fun hh=>c5 (ZeQ.2 hh.2).2];rfl
      ·rw [if_neg c4,decide_eq_false fun hh=>c4 (ZeQ.2 hh.2).1];rfl
     ·rw [if_neg (by simpa using c3),decide_eq_false fun hh=>c3 hh.1];rfl
   ·have d2:decide (0≤rdN row ((i:Nat):Int))=true:=decide_eq_true (by omega)
    simp only[d2,if_true]
    rw [if_neg fun hh=>c2 hh.2.1];simp
  ·have d1:(lvN (lvB b) i != ((s:Nat):Int))=true:=by simp [c1]
   simp only[d1,if_true]
   rw [if_neg fun hh=>c1 hh.1];simp
 ·intro acc
  have hf:decide (((b.nodes.toNat:Nat):Int)<b.nodes)=false:=decide_eq_false (by omega)
  simp only[hf,A8,if_false]
theorem Zqq {b:Zr} (h:Q4 b):ZdF b=some (rdB b):=by
 have h0:=h.n0
 have h1:=h.n1
 unfold ZdF
 rw [ZfQ h,A0,if_pos rfl,Zp3 h,A0]
 have walk:∀(body:List Int × Int→Option ((List Int × Int) ⊕ List Int)),(∀(i:Nat),i<b.nodes.toNat→body (AA i (-1),((i:Nat):Int))=some (.inl (AA i (-1)++[-1],((i+1:Nat):Int))))→body (AA b.nodes.toNat (-1),((b.nodes.toNat:Nat):Int))=some (.inr (rdB b))→
   ∀d i,i+d=b.nodes.toNat→iter body (AA i (-1),((i:Nat):Int))=some (rdB b):=by
  intro body b1 b2 d
  induction d with
  | zero=>
   intro i hi
   obtain rfl:i=b.nodes.toNat:=by omega
   exact Z2 b2
  | succ d ih=>
   intro i hi
   rw [Yh (b1 i (by omega)),←ih (i+1) (by omega),List.replicate_succ']
 refine walk _ ?_ ?_ b.nodes.toNat 0 (by omega)
 ·intro i hi
  have ht:decide (((i:Nat):Int)<b.nodes)=true:=decide_eq_true (by omega)
  simp only[ht,if_true]
  rw [Zh _ (by simp;omega),ZhU (by omega)]
 ·have hf:decide (((b.nodes.toNat:Nat):Int)<b.nodes)=false:=decide_eq_false (by omega)
  simp only[hf,A8,if_false]
  have walk2:∀(body:List Int × Int × Int→Option ((List Int × Int × Int) ⊕ ((List Int × Int) ⊕ List Int))),(∀row (k s:Nat),RIn b.nodes.toNat row k→s<b.nodes.toNat→body (row,((k:Nat):Int),((s:Nat):Int))=some (.inl ((YL b.reasons (lvB b) ((s:Nat):Int) b.nodes.toNat row k).1,(((YL b.reasons (lvB b) ((s:Nat):Int) b.nodes.toNat row k).2:Nat):Int),((s+1:Nat):Int))))→(∀row (k:Nat),body (row,((k:Nat):Int),((b.nodes.toNat:Nat):Int))=some (.inr (.inr row)))→
    ∀d s row k,s+d=b.nodes.toNat→RIn b.nodes.toNat row k→iter body (row,((k:Nat):Int),((s:Nat):Int))=some (.inr (Xl b.reasons (lvB b) b.nodes.toNat (AD s d) (row,k)).1):=by
   intro body b1 b2 d
   induction d with
   | zero=>
    intro s row k hs hI
    obtain rfl:s=b.nodes.toNat:=by omega
    exact Z2 (b2 row k)
   | succ d ih=>
    intro s row k hs hI
    rw [Yh (b1 row k s hI (by omega))]
    exact ih (s+1) _ _ (by omega) (ZdK h.ok b.nodes.toNat row k hI (by have:=hI.few;omega)).1
  have e:rdB b=(Xl b.reasons (lvB b) b.nodes.toNat (AD 0 b.nodes.toNat) (AA b.nodes.toNat (-1),0)).1:=by unfold rdB;rw [Al]
  rw [e]
  refine walk2 _ ?_ ?_ b.nodes.toNat 0 _ 0 (by omega) (Zg9 _)
  ·intro row k s hI hs
   have ht:decide (((s:Nat):Int)<b.nodes)=true:=decide_eq_true (by omega)
   simp only[ht,if_true]
   rw [Zj4 h hI,A0,ZhU (by omega)]
   refine Zr7 (s:=((s:Nat):Int)) h.ok (fun row k l=>(row,l,((k:Nat):Int))) (fun row k=>Sum.inl (row,((k:Nat):Int),((s+1:Nat):Int))) (fun row k=>(AD 0 b.nodes.toNat).filterMap (ZiG b.nodes.toNat b.reasons (lvB b) ((s:Nat):Int) row k)) (fun row k x _=>ZnW h.ok) ?_ ?_ b.nodes.toNat row k hI (by have:=hI.few;omega)
   ·intro row k hI hc hN
    have hlt:decide (0<((((AD 0 b.nodes.toNat).filterMap (ZiG b.nodes.toNat b.reasons (lvB b) ((s:Nat):Int) row k)).length:Nat):Int))=true:=by
     have:((AD 0 b.nodes.toNat).filterMap (ZiG b.nodes.toNat b.reasons (lvB b) ((s:Nat):Int) row k)).length≠0:=fun e=>hc (AQ e)
     exact decide_eq_true (by omega)
    simp only[hlt,if_true]
    rw [ZoC hI.len (fun x mx=>Zox h.ok x (ZnW h.ok |>.1 mx)) fun i x s=>rfl,ZhU (by have:=hI.few;omega),Zj4 h hN,A0]
   ·intro row k hI
    rfl
  ·intro row k
   simp only[hf,A8,if_false]
end
section
open Classical
theorem Zkj {ρ:Type} {l:List Int} (hl:l.length≤1000) {fin:List Bool→Option ρ} {body:Nat→Int→List Bool→Option (List Bool ⊕ ρ)} (hb:∀i x s,body i x s=chk (s.length+1≤1073741824) (some (.inl (s++[decide (0≤x)])))):forL body fin l 0 []=fin (l.map fun x=>decide (0≤x)):=by
 rw [Zjo (g:=fun x=>decide (0≤x))]
 ·rfl
 ·intro j x s _ hs
  simp at hs
  rw [hb,Zh _ (by omega)]
theorem Zub {b:Zr} (h:Q4 b):Zgt b=some ((rdB b).map fun x=>decide (0≤x)):=by
 unfold Zgt
 have:=h.n1
 rw [ZtV h,A0,Zkj (by rw [h.rd];omega) fun i x s=>rfl]
theorem Zqb {b:Zr} (h:Q4 b):Zd0 b=some ((rdB b).map fun x=>decide (0≤x)):=by
 unfold Zd0
 have:=h.n1
 rw [Zqq h,A0,Zkj (by rw [h.rd];omega) fun i x s=>rfl]
theorem Zme {ρ:Type} {fin:List Zb→Option ρ} {body:Nat→Bool→List Zb→Option (List Zb ⊕ ρ)} {F:List Zb} (hF:∀f∈F,f.args.length≤1048576) (hl:F.length≤1000)
  (hb:∀i x s,body i x s=if x=true then (atI F ((i:Nat):Int)).bind fun f=>(YA f).bind fun g=>chk (s.length+1≤1073741824) (some (.inl (s++[g]))) else some (.inl s)):
  ∀(rest:List Zb) (l:List Int) (pre acc:List Zb),F=pre++rest→l.length=rest.length→acc.length≤pre.length→forL body fin (l.map fun x=>decide (0≤x)) pre.length acc=fin (acc++YT rest l)
 | [],[],pre,acc,_,_,_=>by simp [forL,YT]
 | [],_::_,_,_,_,e,_=>by simp at e
 | _::_,[],_,_,_,e,_=>by simp at e
 | f::rest,v::l,pre,acc,e,el,ha=>by
  have hf:F[pre.length]?=some f:=by rw [e];simp
  have hlt:=(A6.1 hf).1
  have ih:=fun acc' h'=>Zme (fin:=fin) hF hl hb rest l (pre++[f]) acc' (by rw [e];simp) (by simpa using el) h'
  simp only[AK,An] at ih
  rw [Ao]
  unfold YT
  by_cases hv:0≤v
  ·rw [ZX (s':=acc++[f]) (by
    rw [hb,if_pos (decide_eq_true hv),Zav,hf,A0,YN _ (hF f (AB hf)),A0,Zh _ (by omega)]),ih _ (by simp;omega),if_pos hv]
   simp
  ·rw [ZX (s':=acc) (by rw [hb,if_neg (by simpa using hv)]),ih _ (by omega),if_neg hv]
theorem Zlt {ρ:Type} {fin:List Zb→Option ρ} {body:Nat→Zb→List Zb→Option (List Zb ⊕ ρ)} {L:List Bool} {N:Nat} (hN:N≤1000) {z:List Zb→ρ}
  (hb:∀i x s,body i x s=if decide (((i:Nat):Int)<((L.length:Nat):Int))=true then chk (0≤((i:Nat):Int)∧((i:Nat):Int)<((L.length:Nat):Int)) ((L[i]?).bind fun v=>if v=true then (Xj x).bind fun g=>chk (s.length+1≤1073741824) (some (.inl (s++[g]))) else some (.inl s)) else some (.inr (z s))):
  ∀(rest:List Zb) (l:List Int) (pre:List Bool) (acc:List Zb),(∀f∈rest,f.args.length≤1048576)→L=pre++(l.map fun x=>decide (0≤x))→l.length=rest.length→acc.length≤pre.length→pre.length+rest.length≤N→forL body fin rest pre.length acc=fin (acc++YT rest l)
 | [],[],pre,acc,_,_,_,_,_=>by simp [forL,YT]
 | [],_::_,_,_,_,_,e,_,_=>by simp at e
 | _::_,[],_,_,_,_,e,_,_=>by simp at e
 | f::rest,v::l,pre,acc,hF,e,el,ha,hn=>by
  have hf:L[pre.length]?=some (decide (0≤v)):=by rw [e];simp
  have hlt:=(A6.1 hf).1
  have ih:=fun acc' h'=>Zlt (fin:=fin) hN hb rest l (pre++[decide (0≤v)]) acc' (fun g mg=>hF g (by simp [mg])) (by rw [e];simp) (by simpa using el) h' (by simp at hn ⊢;omega)
  simp only[AK,An] at ih
  simp only[AY] at hn
  have hx:∀s,body pre.length f s=if 0≤v then chk (s.length+1≤1073741824) (some (.inl (s++[f]))) else some (.inl s):=fun s=>by
   rw [hb,if_pos (decide_eq_true (by omega)),Zh _ ⟨by omega,by omega⟩,hf,A0]
   by_cases hv:0≤v
   ·rw [if_pos (decide_eq_true hv),if_pos hv,Xb _ (hF f (by simp)),A0]
   ·rw [if_neg (by simpa using hv),if_neg hv]
  unfold YT
  by_cases hv:0≤v
  ·rw [ZX (s':=acc++[f]) (by rw [hx,if_pos hv,Zh _ (by omega)]),ih _ (by simp;omega),if_pos hv]
   simp
  ·rw [ZX (s':=acc) (by rw [hx,if_neg hv]),ih _ (by omega),if_neg hv]
theorem Zra {b:Zr} (h:Q4 b) {F:List Zb} (hF:∀f∈F,f.args.length≤1048576) (hn:b.nodes=((F.length:Nat):Int)):Zdo F b=some (YT F (rdB b)):=by
 have h1:=h.n1
 have hr:=h.rd
 unfold Zdo
 rw [Zub h,A0]
 exact Zme hF (by omega) (fun i x s=>rfl) F (rdB b) [] [] rfl (by omega) (AF _)
theorem Zvi {b:Zr} (h:Q4 b) {F:List Zb} (hF:∀f∈F,f.args.length≤1048576) (hn:b.nodes=((F.length:Nat):Int)):Zjd F b=some (YT F (rdB b)):=by
 have h1:=h.n1
 have hr:=h.rd
 unfold Zjd
 rw [Zqb h,A0]
 exact Zlt (N:=F.length) (by omega) (fun i x s=>rfl) F (rdB b) [] [] hF rfl (by omega) (AF _) (by simp)
theorem Z0.args {R:List Zg} {base F:List Zb} (h:Z0 R base F):∀f∈F,f.args.length≤1048576:=fun f mf=>by
 have:=YY (h.good.ok f mf)
 omega
structure ZBW (M:List Zb):Prop where
 len:M.length≤24
 ok:∀f∈M,Yb f=true
theorem ZwU:ZBW []:=⟨by simp,by simp⟩
theorem Z0.few {R:List Zg} {base F:List Zb} (h:Z0 R base F) (l:List Int):ZBW (YT F l):=by
 have h1:=h.len
 obtain ⟨k1,k2⟩:=ZnP (F:=F) (l:=l)
 exact ⟨by omega,fun f mf=>h.good.ok f (k2 f mf)⟩
theorem ZPf {b:Zr} (h:Q4 b) (k:Int):ZNv b [k]=some (b.drop k):=by
 unfold ZNv
 have h60:=h.len
 rw [ZNR (k:=k)]
 ·rfl
 ·intro j r s mr hs
  simp only[AS,AL] at hs
  obtain ⟨f1,f2⟩:=h.few r mr
  rw [Zqf,A0]
  by_cases e:((j:Nat):Int)=k
  ·rw [if_pos (by rw [ZqQ];simp [e]),if_pos e]
  ·rw [if_neg (by rw [ZqQ];simpa using e),if_neg e]
   unfold ZGb ZF8
   rw [Zh _ (by omega),A0,Zh _ (by omega),A0,A0,Zh _ (by omega)]
theorem ZO2 (l:List Int) (x:Int):ZHv l x=some (ZxR l x):=Zqf l x
theorem ZOU {b:Zr} (h:Q4 b) (k:Int):ZNu b [k]=some (b.drop k):=by
 unfold ZNu ZND
 have h60:=h.len
 rw [ZNR (k:=k)]
 ·rfl
 ·intro j r s mr hs
  simp only[AS,AL] at hs
  obtain ⟨f1,f2⟩:=h.few r mr
  rw [ZO2,A0]
  by_cases e:((j:Nat):Int)=k
  ·rw [if_pos (by rw [ZqQ];simp [e]),if_pos e]
  ·rw [if_neg (by rw [ZqQ];simpa using e),if_neg e]
   unfold ZNw
   rw [ZtC _ (by omega),A0,ZtC _ (by omega),A0,A0,Zh _ (by omega)]
theorem ZNY {R:List Zg} (hR:Zbc R) (base:List Zb) (hb20:base.length≤1048576) (f:Zb):∃M ok,ZNo R base f=some (M,ok)∧ZNr R base f=some (M,ok)∧ZBW M:=by
 obtain ⟨F,b,ok,h1,h2,h3⟩:=Zh9 hR base hb20
 unfold ZNo ZNr
 rw [h1,h2,Zb5,Zam]
 simp only[A0]
 rcases h3 with ⟨rfl,rfl,rfl⟩ | ⟨rfl,hG,rfl,h60⟩
 ·exact ⟨_,_,rfl,rfl,ZwU⟩
 ·have hB:=Q4.of hG h60
  simp only[if_true]
  by_cases hk:ZY base f<0
  ·rw [if_pos (decide_eq_true hk),if_pos (decide_eq_true hk)]
   exact ⟨_,_,rfl,rfl,ZwU⟩
  ·rw [if_neg (by simpa using hk),if_neg (by simpa using hk),ZOU hB,ZPf hB,A0,A0,Zvi (hB.drop _) hG.args rfl,Zra (hB.drop _) hG.args rfl]
   exact ⟨_,_,rfl,rfl,hG.few _⟩
end
section
open Classical
theorem ZqT {l:List Zb} (hl:l.length≤24) (ha:Zg3 l) (hok:∀f∈l,Yb f=true):Z3 l=true:=by
 unfold Z3
 rw [A7,decide_eq_true_iff]
 refine ⟨hl,?_⟩
 have key:∀(rest pre:List Zb),l=pre++rest→Q0 (Zda l) rest pre.length=true:=by
  intro rest
  induction rest with
  | nil=>intro pre _;rfl
  | cons x rest ih=>
   intro pre e
   simp only[Q0,A7]
   refine ⟨?_,by have:=ih (pre++[x]) (by rw [e];simp);simpa using this⟩
   unfold Zda
   rw [A7]
   refine ⟨hok x (by rw [e];simp),?_⟩
   by_cases h0:pre.length=0
   ·rw [if_pos h0]
   ·rw [if_neg h0]
    obtain ⟨q,y,rfl⟩:∃q y,pre=q++[y]:=⟨pre.dropLast,pre.getLast (by intro e2;simp [e2] at h0),(Aa _).symm⟩
    have hy:l[(q++[y]).length - 1]?=some y:=by rw [e];simp
    rw [hy,decide_eq_true_iff]
    unfold Zg3 at ha
    rw [e,Ap,List.pairwise_append] at ha
    have h2:=ha.2.1
    rw [Aq,List.pairwise_cons] at h2
    exact h2.1 x (by simp)
 exact key l [] rfl
theorem ZwZ {a b:List Zb} (h:a.Sublist b) (hb:Zg3 b):Zg3 a:=List.Pairwise.sublist h hb
theorem Zjy:∀{F:List Zb} {l:List Int},(YT F l).Sublist F
 | [],l=>by simp [YT]
 | f::F,[]=>by simp [YT]
 | f::F,v::l=>by
  unfold YT
  split
  ·exact Zjy.cons_cons f
  ·exact Zjy.cons f
theorem ZFp {R L:List Zg} (hS:Zbc L) (hL:∀r∈L,r∈R) (hlog:(Z6 L&&L.all (Y4 L))=true) {base F:List Zb} (h:Z0 R base F) {given:List Zb} (hs:given.Sublist base):∃G,Yu L given=some (G,true)∧Yt L given=some (G,true)∧Z0 L given G∧∀f∈G,f∈F:=by
 obtain ⟨hb24,hbok⟩:=QQ h.facts
 have hg:Z3 given=true:=ZqT (Ad hs.length_le hb24) (ZwZ hs (ZcT h.facts)) fun f mf=>hbok f (hs.subset mf)
 have hcl:Cl L given F:=⟨h.good.asc,fun f mf=>h.good.inc f (hs.subset mf),fun r mr=>h.closed r (hL r mr)⟩
 have hl20:given.length≤1048576:=by have:=hs.length_le;omega
 obtain ⟨s1,s2⟩:=Zhv hS given hl20
 obtain ⟨i1,i2⟩:=Zhx hS given
 obtain ⟨x,e1,r1⟩:=s2 hlog hg
 obtain ⟨y,e2,r2⟩:=i2 hlog hg
 rw [←r1.uniq r2] at e2
 obtain ⟨G,ok⟩:=x
 rcases r1 with ⟨h1,h2,h3,h4⟩ | ⟨h1,h2,h3⟩
 ·simp only at h1 h2 h3 h4
  subst h1
  exact ⟨G,e1,e2,⟨hlog,hg,h2,h3,h4⟩,fun f mf=>h2.low F hcl f mf⟩
 ·have:=h3 F hcl
  have:=h.len
  omega
/- reasons, of the smaller set -/
def ZFu (F:List Zb) (y:Int):Zb:=match F[y.toNat]? with | some f=>f | none=>{ rel:=⟨#[]⟩,args:=[] }
theorem ZFg {F:List Zb} {f:Zb} (h:f∈F):ZFu F (ZY F f)=f:=by
 obtain ⟨j,h1,h2⟩:=Q6 h
 unfold ZFu
 rw [h1,A9,h2]
noncomputable def ZFK (F G:List Zb) (x:Zf):Zf:={ for_:=ZY G (ZFu F x.for_),inn:=Qr G (x.inn.map (ZFu F)),outs:=Qr G (x.outs.map (ZFu F)) }
theorem ZFt {F G:List Zb} (h:∀f∈G,f∈F) (l:List Zb):Qr G ((Qr F l).map (ZFu F))=Qr G l:=by
 obtain ⟨h1,h2,_⟩:=Yv G ((Qr F l).map (ZFu F))
 obtain ⟨k1,k2,_⟩:=Yv G l
 have inG:∀g:Zb,0≤ZY G g→g∈G:=fun g hg=>by
  rcases ZfL G g with ⟨_,h2⟩ | ⟨j,_,h2⟩
  ·omega
  ·exact AB h2
 refine ZmI h1 k1 fun x=>?_
 rw [h2,k2]
 constructor
 ·rintro ⟨f,mf,e,e0⟩
  obtain ⟨y,my,rfl⟩:=AC.1 mf
  obtain ⟨g,mg,e2,e3⟩:=((Yv F l).2.1 y).1 my
  have gF:g∈F:=by
   rcases ZfL F g with ⟨_,h2⟩ | ⟨j,_,h2⟩
   ·omega
   ·exact AB h2
  rw [←e2,ZFg gF] at e
  exact ⟨g,mg,e,e0⟩
 ·rintro ⟨g,mg,e,e0⟩
  have gG:=inG g (by omega)
  have gF:=h g gG
  obtain ⟨j,k3,_⟩:=Q6 gF
  exact ⟨g,AC.2 ⟨ZY F g,((Yv F l).2.1 _).2 ⟨g,mg,rfl,by omega⟩,ZFg gF⟩,e,e0⟩
theorem ZFn:∀(c l:List Zf),l.Nodup→(c.foldl Zjz l).Nodup
 | [],_,h=>h
 | r::c,l,h=>by
  rw [Ac]
  refine ZFn c _ ?_
  unfold Zjz
  split
  ·exact h
  ·rename_i hn
   rw [Ae]
   exact ⟨h,by simp,fun a ha b hb e=>by simp at hb;subst hb;subst e;exact hn ha⟩
theorem ZFv {F:List Zb}:∀{base:List Zb},base.Nodup→(∀f∈base,f∈F)→(Zdj F base).Nodup
 | [],_,_=>by simp [Zdj]
 | f::base,h,hF=>by
  rw [Af] at h
  show (_::Zdj F base).Nodup
  rw [Af]
  refine ⟨fun hm=>?_,ZFv h.2 fun g mg=>hF g (by simp [mg])⟩
  obtain ⟨g,mg,e⟩:=AC.1 hm
  have e2:ZY F g=ZY F f:=congrArg Zf.for_ e
  exact h.1 (by rw [←Zn8 (hF g (by simp [mg])) (hF f (by simp)) e2];exact mg)
theorem ZFz {R L:List Zg} (hL:∀r∈L,r∈R) {base F given G:List Zb} (h:Z0 R base F) (k:Z0 L given G) (hs:∀f∈given,f∈base) (hG:∀f∈G,f∈F):(ZZ L G given).length≤(ZZ R F base).length:=by
 have hn:(ZZ L G given).Nodup:=ZFn _ _ (ZFv (ZdT (ZcT k.facts)) k.good.inc)
 have:=Zc5 (m:=(ZZ R F base).map (ZFK F G)) hn fun x mx=>by
  rcases Zib.1 mx with ⟨f,mf,rfl⟩ | ⟨r,mr,t,mt,a,ma,rfl⟩
  ·refine AC.2 ⟨{ for_:=ZY F f,inn:=[],outs:=[] },Zib.2 (.inl ⟨f,hs f mf,rfl⟩),?_⟩
   unfold ZFK
   rw [ZFg (hG f (k.good.inc f mf))]
   rfl
  ·have mt':t∈Zw (XT r) F:=Zv2 (R:=R) mt fun g mg=>hG g (ZsT mt g mg)
   refine AC.2 ⟨Yg F r t a,Zib.2 (.inr ⟨r,hL r mr,t,mt',a,ma,rfl⟩),?_⟩
   unfold ZFK Yg
   simp only
   rw [ZFt hG,ZFt hG,ZFg (hG _ (k.closed r mr t mt a ma))]
 rwa [Ar] at this
theorem ZFm {R:List Zg} {base F:List Zb} (h:Z0 R base F) (h1:Yu R base=some (F,true)) (h2:Yt R base=some (F,true)) (h60:(ZZ R F base).length≤60):Ql R base=some (F,{ nodes:=((F.length:Nat):Int),reasons:=ZZ R F base },true)∧Qi R base=some (F,{ nodes:=((F.length:Nat):Int),reasons:=ZZ R F base },true):=by
 obtain ⟨e1,_⟩:=Zkh ZoR F noI R base
 obtain ⟨e2,_⟩:=Zkh Zqh F noS R base
 unfold Ql Qi
 rw [Zqn h h2,ZpJ h h1]
 unfold Zsq
 rw [e1,e2,if_neg (by omega),if_neg (by omega)]
 exact ⟨rfl,rfl⟩
theorem ZOe {R:List Zg} (hR:Zbc R) {base F:List Zb} (h:Z0 R base F) (h60:(ZZ R F base).length≤60) {k:Nat} (hk:k<base.length):
  Ze1 R (base.eraseIdx k)=some (YT F (rdB (Zr.drop { nodes:=((F.length:Nat):Int),reasons:=ZZ R F base } ((k:Nat):Int))),true)∧ZbK R (base.eraseIdx k)=some (YT F (rdB (Zr.drop { nodes:=((F.length:Nat):Int),reasons:=ZZ R F base } ((k:Nat):Int))),true):=by
 have hs:(base.eraseIdx k).Sublist base:=List.eraseIdx_sublist base k
 obtain ⟨G,p1,p2,hG,hGF⟩:=ZFp hR (fun _ h=>h) h.logical h hs
 have hb24:=(QQ h.facts).1
 have hl20:(base.eraseIdx k).length≤1048576:=by have:=hs.length_le;omega
 have g60:(ZZ R G (base.eraseIdx k)).length≤60:=Ad (ZFz (fun _ h=>h) h hG (fun f mf=>hs.subset mf) hGF) h60
 have hMo:=ZOo h h60 hk
 have hMn:=Zk4 hG g60
 have ok1:∀f∈YT F (rdB (Zr.drop { nodes:=((F.length:Nat):Int),reasons:=ZZ R F base } ((k:Nat):Int))),Yb f=true:=fun f mf=>h.good.ok f (ZnP.2 f mf)
 have ok2:∀f∈YT G (rdB { nodes:=((G.length:Nat):Int),reasons:=ZZ R G (base.eraseIdx k) }),Yb f=true:=fun f mf=>hG.good.ok f (ZnP.2 f mf)
 have hiff:=ZOQ h.log hMn hMo ok2 ok1
 have heq:YT G (rdB { nodes:=((G.length:Nat):Int),reasons:=ZZ R G (base.eraseIdx k) })=YT F (rdB (Zr.drop { nodes:=((F.length:Nat):Int),reasons:=ZZ R F base } ((k:Nat):Int))):=Zk8 (ZwZ Zjy hG.good.asc) (ZwZ Zjy h.good.asc) hiff
 have hB:=Q4.of hG g60
 obtain ⟨h1,h2⟩:=ZFm hG p1 p2 g60
 unfold Ze1 ZbK
 rw [h1,h2,←heq]
 refine ⟨?_,?_⟩
 ·rw [A0,if_pos rfl,Zvi hB hG.args rfl];rfl
 ·rw [A0,if_pos rfl,Zra hB hG.args rfl];rfl
end
theorem ZrL {c:ZJ} (h:Qu c) {l:List ByteArray} (h0:0<l.length) (h1:l.length≤256):∃x c',Zd8 c l=some (x,c')∧x∈l∧Qu c':=by
 obtain ⟨x,c',e,hx,hx2,hc⟩:=ZdR h (n:=((l.length:Nat):Int)) (by omega) (by omega)
 have hn:x.toNat<l.length:=by omega
 refine ⟨l[x.toNat],c',?_,AG _,hc⟩
 unfold Zd8
 rw [e]
 show (atI l x).bind _=_
 rw [show atI l x=some l[x.toNat] by unfold atI;rw [if_pos hx,A3 hn]]
 rfl
def RK (nots:Bool) (r:Zg):Prop:=∃s:ByteArray,s.size≤100∧(nots=false→¬Xe ZjF s)∧Zkr s r
theorem Zmz (L:List ByteArray) (n:Int) (N:Nat) (hN:N=L.length) (h0:0<n) (hn:n≤N) (hs:∀s∈L,s.size≤100) (hL:N≤256) {c:ZJ} (hc:Qu c):∃s r c',((Xv c n).bind fun v1=>chk (0≤v1.1∧v1.1<((N:Nat):Int)) ((L[(A1 v1.1)]?).bind fun x2=>(QD x2).bind fun v3=>some (v3.1,v1.2)))=some (r,c')∧s∈L.take n.toNat∧s.size≤100∧Zkr s r∧Qu c':=by
 obtain ⟨x,c',e,hx,hx2,hc'⟩:=ZdR hc h0 (by omega)
 have hl:x.toNat<L.length:=by omega
 obtain ⟨r,ok,er,hr⟩:=Zpk (s:=L[x.toNat]) (by have:=hs _ (AG hl);omega)
 refine ⟨L[x.toNat],r,c',?_,?_,hs _ (AG hl),hr,hc'⟩
 ·rw [e,A0,Zh _ (by omega),A3 hl,A0,er]
  rfl
 ·rw [List.mem_take_iff_getElem]
  exact ⟨x.toNat,by omega,rfl⟩
theorem ZBJ {s:ByteArray} (h:¬toL ZjF <:+: toL s):¬Xe ZjF s:=fun k=>h k.infix
theorem Zrr {c:ZJ} (h:Qu c) (nots:Bool):∃r c',ZbM c nots=some (r,c')∧RK nots r∧Qu c':=by
 unfold ZbM
 have fin:∀{L:List ByteArray} {n:Int} {o:Option (Zg × ZJ)},(nots=false→∀s∈L.take n.toNat,¬toL ZjF <:+: toL s)→(∃s r c',o=some (r,c')∧s∈L.take n.toNat∧s.size≤100∧Zkr s r∧Qu c')→∃r c',o=some (r,c')∧RK nots r∧Qu c':=fun hn ⟨s,r,c',e,h1,h2,h3,h4⟩=>⟨r,c',e,⟨s,h2,fun hf=>ZBJ (hn hf s h1),h3⟩,h4⟩
 cases nots with
 | true=>
  rw [if_pos rfl]
  exact fin (fun h=>by cases h) (Zmz _ 11 11 rfl (by omega) (by omega) (by decide) (by omega) h)
 | false=>
  rw [if_neg (by simp)]
  exact fin (fun _=>by decide) (Zmz _ 7 11 rfl (by omega) (by omega) (by decide) (by omega) h)
theorem RK.name {nots:Bool} {r:Zg} (h:RK nots r) (n:ByteArray) (p:Int):RK nots { name:=n,priority:=p,cond:=r.cond,thn:=r.thn }:=by
 obtain ⟨s,h1,h2,h3⟩:=h
 exact ⟨s,h1,h2,h3.cl,h3.tl,h3.ca,h3.ta⟩
theorem ZqN {c:ZJ} (h:Qu c) (nots:Bool):∃R c',Zd3 c nots=some (R,c')∧R.length≤3∧(∀r∈R,RK nots r)∧Qu c':=by
 unfold Zd3
 obtain ⟨n,c1,e,n0,n1,hc⟩:=ZdR h (n:=4) (by omega) (by omega)
 rw [e,A0]
 have key:∀(k:Nat) (cc:ZJ) (row:List Zg),Qu cc→row.length+k≤3→(∀r∈row,RK nots r)→∃R c',iter (σ:=(List Int) × Int × Int × (List Zg) × Int)
  (fun s=>
   match s with
   | (f_4,f_5,f_6,row_7,n_8)=>
   if (decide (0<n_8))=true then
    (ZbM ({ b:=f_4,i:=f_5,h:=f_6 }:ZJ) nots).bind fun v9=>
    (X3 n_8).bind fun v10=>
    chk ((⟨#[114]⟩:ByteArray).size+v10.size≤9223372036854775807) <|
    chk (row_7.length+1≤1073741824) <|
    some (.inl (v9.2.b,v9.2.i,v9.2.h,(row_7++[({ name:=((⟨#[114]⟩:ByteArray)++v10),priority:=v9.1.priority,cond:=v9.1.cond,thn:=v9.1.thn }:Zg)]),(IntKind.i64.wrap (n_8 - 1))))
   else
    some (.inr (row_7,({ b:=f_4,i:=f_5,h:=f_6 }:ZJ))))
  (cc.b,cc.i,cc.h,row,((k:Nat):Int))=some (R,c')∧R.length≤3∧(∀r∈R,RK nots r)∧Qu c':=by
  intro k
  induction k with
  | zero=>
   intro cc row hcc hl hr
   exact ⟨row,cc,Z2 rfl,by omega,hr,hcc⟩
  | succ k ih=>
   intro cc row hcc hl hr
   obtain ⟨r,c2,e2,hrk,hc2⟩:=Zrr hcc nots
   have hpos:decide (0<(((k+1:Nat)):Int))=true:=decide_eq_true (by omega)
   have hw:IntKind.i64.wrap ((((k+1:Nat)):Int) - 1)=((k:Nat):Int):=by rw [YW (by omega) (by omega)];omega
   have hsz:(ofL (Lib.itoa ((k+1:Nat):Int))).size≤21:=ZtA ⟨by omega,by omega⟩
   refine (Yh (s':=(c2.b,c2.i,c2.h,row++[({ name:=((⟨#[114]⟩:ByteArray)++ofL (Lib.itoa ((k+1:Nat):Int))),priority:=r.priority,cond:=r.cond,thn:=r.thn }:Zg)],((k:Nat):Int))) ?_) ▸ ih c2 _ hc2 (by simp;omega) fun q mq=>?_
   ·simp only[hpos,if_true]
    rw [show ({ b:=cc.b,i:=cc.i,h:=cc.h }:ZJ)=cc from rfl,e2,A0,Zf5 ⟨by omega,by omega⟩,A0,Zh _ (by have:(⟨#[114]⟩:ByteArray).size=1:=rfl;omega),Zh _ (by omega),hw]
   ·rcases A2.1 mq with mq | mq
    ·exact hr q mq
    ·simp at mq;subst mq;exact hrk.name _ _
 have e5:n=((n.toNat:Nat):Int):=by omega
 have:=key n.toNat c1 [] hc (by simp;omega) (fun y hy=>by simp at hy)
 rw [←e5] at this
 exact this
theorem Zsf {c:ZJ} (h:Qu c) {m:Int} (h0:0≤m) (h7:m≤7):∃l c',ZeM c m=some (l,c')∧l.length≤7∧(∀f∈l,f.args.length≤2)∧Qu c':=by
 unfold ZeM
 have hw:IntKind.i64.wrap (m+1)=m+1:=YW (by omega) (by omega)
 rw [hw]
 obtain ⟨n,c1,e,n0,n1,hc⟩:=ZdR h (n:=m+1) (by omega) (by omega)
 rw [e,A0]
 have put:∀(row:List Zb) (f:Zb),row.length≤7→(∀f∈row,f.args.length≤2)→f.args.length≤2→∃row',YX row f=some row'∧row'.length≤row.length+1∧∀f∈row',f.args.length≤2:=fun row f hl ha hf=>⟨_,ZlP row f (by omega) (fun x mx=>by have:=ha x mx;omega) (by omega),Zmb f row,fun x mx=>by
  rcases QP.1 mx with rfl | mx
  ·exact hf
  ·exact ha x mx⟩
 have key:∀(k:Nat) (cc:ZJ) (row:List Zb),Qu cc→row.length+k≤7→(∀f∈row,f.args.length≤2)→∃l c',iter (σ:=(List Int) × Int × Int × (List Zb) × Int)
   (fun s=>
   match s with
   | (f_9,f_10,f_11,row_12,n_13)=>
   if (decide (0<n_13))=true then
    (Zd8 ({ b:=f_9,i:=f_10,h:=f_11 }:ZJ) ([(⟨#[97]⟩),(⟨#[98]⟩),(⟨#[49]⟩),(⟨#[50]⟩)])).bind fun v14=>
    (Zd8 v14.2 ([(⟨#[97]⟩),(⟨#[98]⟩),(⟨#[49]⟩)])).bind fun v15=>
    (Xv v15.2 5).bind fun v16=>
    if (v16.1==0)=true then
     (YX row_12 ({ rel:=(⟨#[112]⟩),args:=[v14.1] }:Zb)).bind fun v17=>
     some (.inl (v16.2.b,v16.2.i,v16.2.h,v17,(IntKind.i64.wrap (n_13 - 1))))
    else
     if (v16.1==1)=true then
      (YX row_12 ({ rel:=(⟨#[97,116]⟩),args:=[v14.1,v15.1] }:Zb)).bind fun v18=>
      some (.inl (v16.2.b,v16.2.i,v16.2.h,v18,(IntKind.i64.wrap (n_13 - 1))))
     else
      if (v16.1==2)=true then
       (YX row_12 ({ rel:=(⟨#[113]⟩),args:=[v14.1] }:Zb)).bind fun v19=>
       some (.inl (v16.2.b,v16.2.i,v16.2.h,v19,(IntKind.i64.wrap (n_13 - 1))))
      else
       (YX row_12 ({ rel:=(⟨#[111,110]⟩),args:=[v14.1,v15.1] }:Zb)).bind fun v20=>
       some (.inl (v16.2.b,v16.2.i,v16.2.h,v20,(IntKind.i64.wrap (n_13 - 1))))
   else
    some (.inr (row_12,({ b:=f_9,i:=f_10,h:=f_11 }:ZJ))))
   (cc.b,cc.i,cc.h,row,((k:Nat):Int))=some (l,c')∧l.length≤7∧(∀f∈l,f.args.length≤2)∧Qu c':=by
  intro k
  induction k with
  | zero=>
   intro cc row hcc hl hr
   exact ⟨row,cc,Z2 rfl,by omega,hr,hcc⟩
  | succ k ih=>
   intro cc row hcc hl hr
   obtain ⟨a,c2,e2,_,hc2⟩:=ZrL hcc (l:=[(⟨#[97]⟩),(⟨#[98]⟩),(⟨#[49]⟩),(⟨#[50]⟩)]) (by simp) (by simp)
   obtain ⟨b,c3,e3,_,hc3⟩:=ZrL hc2 (l:=[(⟨#[97]⟩),(⟨#[98]⟩),(⟨#[49]⟩)]) (by simp) (by simp)
   obtain ⟨x,c4,e4,_,_,hc4⟩:=ZdR hc3 (n:=5) (by omega) (by omega)
   have hpos:decide (0<(((k+1:Nat)):Int))=true:=decide_eq_true (by omega)
   have hw:IntKind.i64.wrap ((((k+1:Nat)):Int) - 1)=((k:Nat):Int):=by rw [YW (by omega) (by omega)];omega
   have go:∀f:Zb,f.args.length≤2→∀{body:(List Int) × Int × Int × (List Zb) × Int→Option (((List Int) × Int × Int × (List Zb) × Int) ⊕ (List Zb × ZJ))},(body (cc.b,cc.i,cc.h,row,((k+1:Nat):Int))=(YX row f).bind fun v=>some (.inl (c4.b,c4.i,c4.h,v,((k:Nat):Int))))→(∀(row:List Zb),row.length+k≤7→(∀f∈row,f.args.length≤2)→∃l c',iter body (c4.b,c4.i,c4.h,row,((k:Nat):Int))=some (l,c')∧l.length≤7∧(∀f∈l,f.args.length≤2)∧Qu c')→∃l c',iter body (cc.b,cc.i,cc.h,row,((k+1:Nat):Int))=some (l,c')∧l.length≤7∧(∀f∈l,f.args.length≤2)∧Qu c':=fun f hf body hb hi=>by
    obtain ⟨row',ep,hl',hr'⟩:=put row f (by omega) hr hf
    rw [Yh (hb.trans (by rw [ep];rfl))]
    exact hi row' (by omega) hr'
   have hi:=fun row=>ih c4 row hc4
   by_cases x0:x=0
   ·refine go { rel:=(⟨#[112]⟩),args:=[a] } (by simp) ?_ hi
    simp only[hpos,if_true]
    rw [show ({ b:=cc.b,i:=cc.i,h:=cc.h }:ZJ)=cc from rfl,e2,A0,e3,A0,e4,A0,hw,if_pos (by simp [x0])]
   ·by_cases x1:x=1
    ·refine go { rel:=(⟨#[97,116]⟩),args:=[a,b] } (by simp) ?_ hi
     simp only[hpos,if_true]
     rw [show ({ b:=cc.b,i:=cc.i,h:=cc.h }:ZJ)=cc from rfl,e2,A0,e3,A0,e4,A0,hw,if_neg (by simp [x0]),if_pos (by simp [x1])]
    ·by_cases x2:x=2
     ·refine go { rel:=(⟨#[113]⟩),args:=[a] } (by simp) ?_ hi
      simp only[hpos,if_true]
      rw [show ({ b:=cc.b,i:=cc.i,h:=cc.h }:ZJ)=cc from rfl,e2,A0,e3,A0,e4,A0,hw,if_neg (by simp [x0]),if_neg (by simp [x1]),if_pos (by simp [x2])]
     ·refine go { rel:=(⟨#[111,110]⟩),args:=[a,b] } (by simp) ?_ hi
      simp only[hpos,if_true]
      rw [show ({ b:=cc.b,i:=cc.i,h:=cc.h }:ZJ)=cc from rfl,e2,A0,e3,A0,e4,A0,hw,if_neg (by simp [x0]),if_neg (by simp [x1]),if_neg (by simp [x2])]
 have e5:n=((n.toNat:Nat):Int):=by omega
 have:=key n.toNat c1 [] hc (by simp;omega) (fun y hy=>by simp at hy)
 rw [←e5] at this
 exact this
section
open Classical
theorem Zjv {l:List Zb} {f:Zb}:ZY l f<0↔f∉l:=by
 rcases ZfL l f with ⟨h1,h2⟩ | ⟨j,h1,h2⟩
 ·exact ⟨fun _=>h1,fun _=>by omega⟩
 ·exact ⟨fun h=>by omega,fun h=>absurd (AB h2) h⟩
end
section
open Classical
theorem ZFl (l:List Zb):ZFe l l=some true:=by
 unfold ZFe
 rw [if_neg (by simp),Xu (p:=fun _ _=>true) (r:=false)]
 ·have:∀(l:List Zb) (i:Nat),Q0 (fun _ _=>true) l i=true:=by
   intro l
   induction l with
   | nil=>intro i;rfl
   | cons x l ih=>intro i;simp [Q0,ih]
  rw [this];rfl
 ·intro j x hx
  rw [Zav,AL,hx,A0,ZFo,A0]
  simp
theorem ZFq {l:List Zb} {f:Zb} (ha:Z3 l=true) (hf:f∈l):ZFc l f=some (l.filter fun x=>decide (x≠f),true):=by
 obtain ⟨h24,hok⟩:=QQ ha
 unfold ZFc
 rw [ZhY l (by omega),A0,if_pos ha,Zb5,A0,if_neg (by rw [decide_eq_true_iff,Zjv];exact fun hn=>hn hf)]
 unfold ZFf
 rw [Zcm (p:=fun x=>decide (x≠f))]
 ·rfl
 ·intro j x s mx hs
  simp only[AS,AL] at hs
  rw [ZFo,A0]
  by_cases e:x=f
  ·rw [if_pos (by simpa using e),if_neg (by simpa using e)]
  ·rw [if_neg (by simpa using e),Xb _ (by have:=YY (hok x mx);omega),A0,Zh _ (by omega),if_pos (by simpa using e)]
theorem ZtJ {code:List Int} (h:¬decide (4096<((code.length:Nat):Int))=true):code.length≤4096:=by
 simp at h;omega
theorem Zwr (code:List Int):ZsU code=some (decide (4096<((code.length:Nat):Int))):=rfl
noncomputable def givesB (R:List Zg) (x:Zb) (m:Qg):Bool:=match R[(Zag R m.rule).toNat]? with
 | some r=>decide (0≤Zag R m.rule)&&r.thn.any fun a=>(YE (Yf a.pattern m.binding)).2&&decide (ZbB (YE (Yf a.pattern m.binding)).1 x=0)
 | none=>false
end
section
open Classical
theorem ZI9 {c:ZJ} (h:Qu c):∃x c',ZGv c=some (x,c')∧Qu c':=by
 unfold ZGv
 obtain ⟨x,c',e,_,hc⟩:=ZrL h (l:=[(⟨#[97]⟩),(⟨#[98]⟩),(⟨#[99]⟩),(⟨#[49]⟩),(⟨#[50]⟩)]) (by simp) (by simp)
 exact ⟨x,c',by rw [e];rfl,hc⟩
theorem ZH8 {c:ZJ} (h:Qu c):∃x c',ZGo c=some (x,c')∧Qu c':=by
 unfold ZGo
 have key:∀L:List ByteArray,0<L.length→L.length≤256→∃x c',((Zd8 c L).bind fun v1=>some (v1.1,v1.2))=some (x,c')∧Qu c':=fun L h0 h1=>by
  obtain ⟨x,c',e,_,hc⟩:=ZrL h (l:=L) h0 h1
  exact ⟨x,c',by rw [e];rfl,hc⟩
 exact key _ (by simp) (by simp)
theorem ZJe {c:ZJ} (h:Qu c):∃r n c',ZG0 c=some (r,n,c')∧0≤n∧n≤2∧r≠⟨#[110]⟩∧Qu c':=by
 unfold ZG0
 obtain ⟨x,c',e,x0,x1,hc⟩:=ZdR h (n:=6) (by omega) (by omega)
 have key:∀(A:List ByteArray) (B:List Int),A.length=6→B.length=6→(∀b∈B,0≤b∧b≤2)→(∀a∈A,a≠⟨#[110]⟩)→∃r n c',((Xv c 6).bind fun v1=>chk (0≤v1.1∧v1.1<((6:Nat):Int)) <| (A[(A1 v1.1)]?).bind fun x2=>(B[(A1 v1.1)]?).bind fun x3=>some (x2,x3,v1.2))=some (r,n,c')∧0≤n∧n≤2∧r≠⟨#[110]⟩∧Qu c':=fun A B hA hB hb ha=>by
  have q1:x.toNat<A.length:=by omega
  have q2:x.toNat<B.length:=by omega
  have q3:=hb _ (AG q2)
  refine ⟨A[x.toNat],B[x.toNat],c',?_,q3.1,q3.2,ha _ (AG q1),hc⟩
  rw [e,A0,Zh _ (by omega),A3 q1,A0,A3 q2,A0]
 exact key _ _ rfl rfl (by decide) (by decide)
theorem ZIY {ρ:Type} {tm:ZJ→Option (ByteArray × ZJ)} (ht:∀c,Qu c→∃x c',tm c=some (x,c')∧Qu c') (g:List ByteArray→ZJ→ρ) {n:Int} (n0:0≤n) (n1:n≤100) {c:ZJ} (hc:Qu c):∃row c',iter (σ:=(List Int) × Int × Int × (List ByteArray) × Int)
  (fun s=>
   match s with
   | (f_4,f_5,f_6,row_7,i_8)=>
   if (decide (i_8<n))=true then
    (tm ({ b:=f_4,i:=f_5,h:=f_6 }:ZJ)).bind fun v9=>
    chk (row_7.length+1≤1073741824) <|
    some (.inl (v9.2.b,v9.2.i,v9.2.h,(row_7++[v9.1]),(IntKind.i64.wrap (i_8+1))))
   else
    some (.inr (g row_7 ({ b:=f_4,i:=f_5,h:=f_6 }:ZJ))))
  (c.b,c.i,c.h,[],0)=some (g row c')∧row.length≤n.toNat∧Qu c':=by
 have key:∀(m k:Nat) (cc:ZJ) (row:List ByteArray),((k+m:Nat):Int)=n→row.length=k→Qu cc→∃row' c',iter (σ:=(List Int) × Int × Int × (List ByteArray) × Int)
  (fun s=>
   match s with
   | (f_4,f_5,f_6,row_7,i_8)=>
   if (decide (i_8<n))=true then
    (tm ({ b:=f_4,i:=f_5,h:=f_6 }:ZJ)).bind fun v9=>
    chk (row_7.length+1≤1073741824) <|
    some (.inl (v9.2.b,v9.2.i,v9.2.h,(row_7++[v9.1]),(IntKind.i64.wrap (i_8+1))))
   else
    some (.inr (g row_7 ({ b:=f_4,i:=f_5,h:=f_6 }:ZJ))))
  (cc.b,cc.i,cc.h,row,((k:Nat):Int))=some (g row' c')∧row'.length≤n.toNat∧Qu c':=by
  intro m
  induction m with
  | zero=>
   intro k cc row hk hr hcc
   refine ⟨row,cc,Z2 ?_,by omega,hcc⟩
   simp only
   rw [if_neg (by simp;omega)]
  | succ m ih=>
   intro k cc row hk hr hcc
   obtain ⟨a,c2,e2,hc2⟩:=ht cc hcc
   have hw:IntKind.i64.wrap (((k:Nat):Int)+1)=((k+1:Nat):Int):=by rw [YW (by omega) (by omega)];omega
   refine (Yh (s':=(c2.b,c2.i,c2.h,row++[a],((k+1:Nat):Int))) ?_) ▸ ih (k+1) c2 (row++[a]) (by omega) (by simp [hr]) hc2
   simp only
   rw [if_pos (by simp;omega),show ({ b:=cc.b,i:=cc.i,h:=cc.h }:ZJ)=cc from rfl,e2,A0,Zh _ (by omega),hw]
 exact key n.toNat 0 c [] (by omega) rfl hc
theorem ZI1 {c:ZJ} (h:Qu c):∃f c',ZGF c=some (f,c')∧f.args.length≤2∧f.rel≠⟨#[110]⟩∧Qu c':=by
 unfold ZGF
 obtain ⟨r,n,c1,e,n0,n1,hr0,hc⟩:=ZJe h
 rw [e,A0]
 obtain ⟨row,c2,e2,h1,h2⟩:=ZIY (tm:=ZGv) (fun c hc=>ZI9 hc) (fun row c=>(({ rel:=r,args:=row }:Zb),c)) n0 (by omega) hc
 exact ⟨{ rel:=r,args:=row },c2,e2,by show row.length≤2;omega,hr0,h2⟩
theorem ZIB {c:ZJ} (h:Qu c):∃f c',ZGS c=some (f,c')∧f.args.length≤4∧Qu c':=by
 unfold ZGS
 obtain ⟨f,c1,e1,a1,_,h1⟩:=ZI1 h
 obtain ⟨k,c2,e2,k0,k1,h2⟩:=ZdR h1 (n:=10) (by omega) (by omega)
 rw [e1,A0,e2,A0]
 split
 ·obtain ⟨w,c3,e3,h3⟩:=ZH8 h2
  exact ⟨{ rel:=w,args:=f.args },c3,by rw [e3];rfl,by show f.args.length≤4;omega,h3⟩
 ·split
  ·obtain ⟨w,c3,e3,h3⟩:=ZH8 h2
   exact ⟨{ rel:=f.rel,args:=f.args++[w] },c3,by rw [e3,A0,Zh _ (by show f.args.length+1≤_;omega)],by simp;omega,h3⟩
  ·split
   ·obtain ⟨w,c3,e3,w0,w1,h3⟩:=ZdR h2 (n:=5) (by omega) (by omega)
    refine ⟨_,c3,by rw [e3,A0,Zh _ (by omega)],?_,h3⟩
    simp
    omega
   ·exact ⟨f,c2,rfl,by omega,h2⟩
theorem ZJq {R:List Zg} {base:List Zb} {x:List Zb × Bool} (h:x=([],false)∨(Z6 R&&R.all (Y4 R))=true∧Z3 base=true∧Res R base x):x.1.length≤24:=by
 rcases h with rfl | ⟨_,_,hr⟩
 ·simp
 ·rcases hr with ⟨_,_,hl,_⟩ | ⟨_,e,_⟩
  ·exact hl
  ·rw [e];simp
theorem ZON {l:List Zb} (hn:l.Nodup) {j:Nat} {x:Zb} (hx:l[j]?=some x):(l.take j++l.drop (j+1)).Sublist l∧x∉l.take j++l.drop (j+1):=by
 obtain ⟨hj,ej⟩:=A6.1 hx
 have e:l=l.take j++x::l.drop (j+1):=by
  rw [←ej,As,At]
 generalize l.take j=a at *
 generalize l.drop (j+1)=b at *
 subst e
 refine ⟨List.Sublist.append (List.Sublist.refl _) (List.sublist_cons_self _ _),fun m=>?_⟩
 rw [Ae] at hn
 rcases A2.1 m with m | m
 ·exact hn.2.2 x m x (by simp) rfl
 ·exact (Af.1 hn.2.1).1 m
end
section
/- one computation is another one wherever it comes to an end -/
def Ref {α:Type} (a b:Option α):Prop:=∀r,a=some r→b=some r
theorem Ref.refl {α:Type} (a:Option α):Ref a a:=fun _ h=>h
theorem Ref.bind {α β:Type} {a b:Option α} {f g:α→Option β} (h:Ref a b) (k:∀x,Ref (f x) (g x)):Ref (a.bind f) (b.bind g):=fun r hr=>by
 obtain ⟨x,h1,h2⟩:=AE.1 hr
 rw [h x h1,A0]
 exact k x r h2
theorem Ref.ite {α:Type} {c:Prop} [Decidable c] {a b a' b':Option α} (h:Ref a a') (k:Ref b b'):Ref (if c then a else b) (if c then a' else b'):=by
 split
 ·exact h
 ·exact k
theorem Ref.chk {α:Type} {p:Prop} [Decidable p] {a b:Option α} (h:Ref a b):Ref (chk p a) (chk p b):=fun r hr=>by
 unfold Go.Proofs.YtfehfkfdfmcgfaaGreatDoor.chk at hr ⊢
 split at hr
 ·rename_i hp;rw [if_pos hp];exact h r hr
 ·simp at hr
theorem Ref.forL {α σ ρ:Type} {body body':Nat→α→σ→Option (σ ⊕ ρ)} {fin fin':σ→Option ρ} (h:∀i x s,Ref (body i x s) (body' i x s)) (k:∀s,Ref (fin s) (fin' s)):∀(l:List α) (i:Nat) (s:σ),Ref (forL body fin l i s) (forL body' fin' l i s)
 | [],_,s=>k s
 | x::l,i,s=>fun r hr=>by
  cases e:body i x s with
  | none=>simp only[Go.Proofs.YtfehfkfdfmcgfaaGreatDoor.forL,e] at hr;simp at hr
  | some y=>
   cases y with
   | inl s'=>
    rw [ZX e] at hr
    rw [ZX (h i x s _ e)]
    exact Ref.forL h k l (i+1) s' r hr
   | inr q=>
    rw [Yi e] at hr
    rw [Yi (h i x s _ e)]
    exact hr
theorem Ref.iter {σ ρ:Type} {body body':σ→Option (σ ⊕ ρ)} (h:∀s,Ref (body s) (body' s)):∀(n:Nat) (s:σ),Ref (ZcM body n s) (iter body' s)
 | 0,_=>fun r hr=>by simp [ZcM] at hr
 | n+1,s=>fun r hr=>by
  simp only[ZcM] at hr
  cases e:body s with
  | none=>rw [e] at hr;simp at hr
  | some y=>
   rw [e] at hr
   cases y with
   | inl s'=>rw [Yh (h s _ e)];exact Ref.iter h n s' r hr
   | inr q=>rw [Z2 (h s _ e)];exact hr
def ZNV (s sep:ByteArray):Nat→Nat→Nat→List ByteArray
 | 0,f,_=>[s.extract f s.size]
 | m+1,f,i=>if i+sep.size≤s.size then (if sEq (s.extract i (i+sep.size)) sep=true then s.extract f i::ZNV s sep m (i+sep.size) (i+sep.size) else ZNV s sep m f (i+1)) else [s.extract f s.size]
theorem ZPb {σ ρ:Type} {s sep:ByteArray} (hsep:0<sep.size) (st:List ByteArray→Nat→Nat→σ) (g:List ByteArray→ρ) {body:σ→Option (σ ⊕ ρ)}
  (h1:∀row from_ i,from_≤i→i+sep.size≤s.size→row.length≤i→body (st row from_ i)=some (.inl (if sEq (s.extract i (i+sep.size)) sep=true then st (row++[s.extract from_ i]) (i+sep.size) (i+sep.size) else st row from_ (i+1))))
  (h2:∀row from_ i,from_≤i→i≤s.size→¬i+sep.size≤s.size→row.length≤i→body (st row from_ i)=some (.inr (g (row++[s.extract from_ s.size])))):
  iter body (st [] 0 0)=some (g (ZNV s sep s.size 0 0)):=by
 have key:∀m row from_ i,s.size - i≤m→from_≤i→i≤s.size→row.length≤i→iter body (st row from_ i)=some (g (row++ZNV s sep m from_ i)):=by
  intro m
  induction m with
  | zero=>
   intro row from_ i hm hf hi hr
   exact Z2 (h2 row from_ i hf hi (by omega) hr)
  | succ m ih=>
   intro row from_ i hm hf hi hr
   unfold ZNV
   by_cases hn:i+sep.size≤s.size
   ·rw [Yh (h1 row from_ i hf hn hr),if_pos hn]
    split
    ·rw [ih _ _ _ (by omega) (AF _) hn (by simp;omega),Ap,Aq]
    ·exact ih _ _ _ (by omega) (by omega) (by omega) (by omega)
   ·rw [if_neg hn]
    exact Z2 (h2 row from_ i hf hi hn hr)
 exact key s.size [] 0 0 (by omega) (AF _) (Nat.zero_le _) (AF _)
theorem ZOL {s sep:ByteArray} (hs:s.size≤1000) (h0:0<sep.size) (h1:sep.size≤10):Qx s sep=some (ZNV s sep s.size 0 0):=by
 unfold Qx
 rw [if_neg (by rw [ZO];intro e;rw [e] at h0;exact absurd h0 (by decide))]
 refine ZPb h0 (fun row f i=>(row,((f:Nat):Int),((i:Nat):Int))) (fun l=>l) ?_ ?_
 ·intro row f i hf hi hr
  have e:IntKind.i64.wrap (((i:Nat):Int)+((sep.size:Nat):Int))=((i+sep.size:Nat):Int):=by rw [YW (by omega) (by omega)];omega
  have e1:IntKind.i64.wrap (((i:Nat):Int)+1)=((i+1:Nat):Int):=by rw [YW (by omega) (by omega)];omega
  simp only[e,e1,A9]
  rw [if_pos (by simp;omega),Zh _ (by omega)]
  split
  ·rw [Zh _ (by omega),Zh _ (by omega)]
  ·rfl
 ·intro row f i hf hi hn hr
  have e:IntKind.i64.wrap (((i:Nat):Int)+((sep.size:Nat):Int))=((i+sep.size:Nat):Int):=by rw [YW (by omega) (by omega)];omega
  simp only[e,A9]
  rw [if_neg (by simp;omega),Zh _ (by omega),Zh _ (by omega)]
def ZNy (s sep:ByteArray):Option (List ByteArray):=if s.size≤1000∧0<sep.size∧sep.size≤10 then some (ZNV s sep s.size 0 0) else none
theorem ZNE (s sep:ByteArray):Ref (ZNy s sep) (Qx s sep):=fun r h=>by
 unfold ZNy at h
 split at h
 ·rename_i hc;rw [ZOL hc.1 hc.2.1 hc.2.2];exact h
 ·simp at h
def ZOc (p:Zv):Option Bool:=some (ZR p)
theorem ZOn (p:Zv):Ref (ZOc p) (YS p):=fun r h=>by rw [QK];exact h
def ZOA (x:Zt):Option Bool:=some (Yk x)
theorem ZOP (x:Zt):Ref (ZOA x) (Zcn x):=fun r h=>by rw [Zcv];exact h
def ZOj (s:ByteArray):Option (Int × Bool):=some (ZdG s)
theorem ZOw (s:ByteArray):Ref (ZOj s) (Qe s):=fun r h=>by rw [Zap];exact h
def ZOh (r:Zg):Option Bool:=if r.cond.length≤100∧r.thn.length≤100∧(∀x∈r.cond,x.pattern.args.length≤100)∧(∀a∈r.thn,a.pattern.args.length≤100) then some (YQ r) else none
theorem ZOH (r:Zg):Ref (ZOh r) (Zcu r):=fun x h=>by
 unfold ZOh at h
 split at h
 ·rename_i hc
  rw [Zgg r ⟨by omega,by omega,fun x mx=>by have:=hc.2.2.1 x mx;omega,fun a ma=>by have:=hc.2.2.2 a ma;omega⟩]
  exact h
 ·simp at h
noncomputable def ZOv (s_0:ByteArray):Option (ByteArray × (List ByteArray) × Bool):=
 (ZNy s_0 (⟨#[40]⟩)).bind fun b=>
 if (((b.length:Nat):Int) != 2)=true then
  some ((⟨#[]⟩),[],false)
 else
  chk (0≤1∧1<((b.length:Nat):Int)) <|
  (b[(A1 1)]?).bind fun a=>
  if (((a.size:Nat):Int)==0)=true then
   some ((⟨#[]⟩),[],false)
  else
   (sAt a (IntKind.i64.wrap (((a.size:Nat):Int) - 1))).bind fun c=>
   if (((c.toNat:Nat):Int) != 41)=true then
    some ((⟨#[]⟩),[],false)
   else
    chk (0≤(IntKind.i64.wrap (((a.size:Nat):Int) - 1))∧(IntKind.i64.wrap (((a.size:Nat):Int) - 1))≤((a.size:Nat):Int)) <|
    if (sEq (a.extract 0 (A1 (IntKind.i64.wrap (((a.size:Nat):Int) - 1)))) ⟨#[]⟩)=true then
     chk (0≤0∧0<((b.length:Nat):Int)) <|
     (b[(A1 0)]?).bind fun d=>
     some (d,[],true)
    else
     chk (0≤0∧0<((b.length:Nat):Int)) <|
     (b[(A1 0)]?).bind fun e=>
     (ZNy (a.extract 0 (A1 (IntKind.i64.wrap (((a.size:Nat):Int) - 1)))) (⟨#[44]⟩)).bind fun f=>
     some (e,f,true)
noncomputable def ZNz (s_0:ByteArray):Option (Zv × Bool):=
 (ZOv s_0).bind fun a=>
 if a.2.2=true then
  (ZOc ({ rel:=a.1,args:=a.2.1 }:Zv)).bind fun b=>
  if b=true then
   some (({ rel:=a.1,args:=a.2.1 }:Zv),true)
  else
   some (({ rel:=(⟨#[]⟩),args:=[] }:Zv),false)
 else
  some (({ rel:=(⟨#[]⟩),args:=[] }:Zv),false)
noncomputable def ZOJ (a:ByteArray):Option (Zt × Bool):=
 (fun body s=>ZcM body 5 s)
  (fun b=>
   if (decide (b≤5))=true then
    (Zgi b).bind fun j=>
    (ZNy a j).bind fun c=>
    if (((c.length:Nat):Int)==2)=true then
     chk (0≤0∧0<((c.length:Nat):Int)) <|
     (c[(A1 0)]?).bind fun d=>
     chk (0≤1∧1<((c.length:Nat):Int)) <|
     (c[(A1 1)]?).bind fun e=>
     (ZOA ({ kind:=b,pattern:=({ rel:=(⟨#[]⟩),args:=[] }:Zv),left:=d,right:=e }:Zt)).bind fun k=>
     if k=true then
      some (.inr (({ kind:=b,pattern:=({ rel:=(⟨#[]⟩),args:=[] }:Zv),left:=d,right:=e }:Zt),true))
     else
      some (.inl (IntKind.i64.wrap (b+1)))
    else
     some (.inl (IntKind.i64.wrap (b+1)))
   else
    if (decide (4<((a.size:Nat):Int)))=true then
     chk (0≤4∧4≤((a.size:Nat):Int)) <|
     if (sEq (a.extract 0 (A1 4)) ⟨#[110,111,116,32]⟩)=true then
      (ZNz (a.extract (A1 4) a.size)).bind fun f=>
      if f.2=true then
       some (.inr (({ kind:=2,pattern:=f.1,left:=(⟨#[]⟩),right:=(⟨#[]⟩) }:Zt),true))
      else
       some (.inr (({ kind:=0,pattern:=({ rel:=(⟨#[]⟩),args:=[] }:Zv),left:=(⟨#[]⟩),right:=(⟨#[]⟩) }:Zt),false))
     else
      (ZNz a).bind fun g=>
      if g.2=true then
       some (.inr (({ kind:=1,pattern:=g.1,left:=(⟨#[]⟩),right:=(⟨#[]⟩) }:Zt),true))
      else
       some (.inr (({ kind:=0,pattern:=({ rel:=(⟨#[]⟩),args:=[] }:Zv),left:=(⟨#[]⟩),right:=(⟨#[]⟩) }:Zt),false))
    else
     (ZNz a).bind fun i=>
     if i.2=true then
      some (.inr (({ kind:=1,pattern:=i.1,left:=(⟨#[]⟩),right:=(⟨#[]⟩) }:Zt),true))
     else
      some (.inr (({ kind:=0,pattern:=({ rel:=(⟨#[]⟩),args:=[] }:Zv),left:=(⟨#[]⟩),right:=(⟨#[]⟩) }:Zt),false)))
  3
noncomputable def ZOl (s_0:ByteArray):Option (Zz × Bool):=
 if (sEq s_0 ⟨#[115,116,111,112]⟩)=true then
  some (({ kind:=3,pattern:=({ rel:=(⟨#[]⟩),args:=[] }:Zv) }:Zz),true)
 else
  (ZNy s_0 (⟨#[32]⟩)).bind fun a=>
  if (((a.length:Nat):Int) != 2)=true then
   some (({ kind:=0,pattern:=({ rel:=(⟨#[]⟩),args:=[] }:Zv) }:Zz),false)
  else
   chk (0≤0∧0<((a.length:Nat):Int)) <|
   (a[(A1 0)]?).bind fun b=>
   if (sEq b ⟨#[97,100,100]⟩)=true then
    chk (0≤1∧1<((a.length:Nat):Int)) <|
    (a[(A1 1)]?).bind fun e=>
    (ZNz e).bind fun c=>
    some (({ kind:=1,pattern:=c.1 }:Zz),c.2)
   else
    if (sEq b ⟨#[100,114,111,112]⟩)=true then
     chk (0≤1∧1<((a.length:Nat):Int)) <|
     (a[(A1 1)]?).bind fun f=>
     (ZNz f).bind fun d=>
     some (({ kind:=2,pattern:=d.1 }:Zz),d.2)
    else
     some (({ kind:=0,pattern:=({ rel:=(⟨#[]⟩),args:=[] }:Zv) }:Zz),false)
noncomputable def ZOx (append_0:Zg) (String_1:ByteArray) (a_2:ByteArray):Option (Zg × Bool):=
 (ZNy String_1 (⟨#[32,38,32]⟩)).bind fun e=>
 forL (σ:=(List Zt))
  (fun (i24:Nat) (f:ByteArray) a=>
   (ZOJ f).bind fun c=>
   if c.2=true then
    chk (a.length+1≤1073741824) <|
    some (.inl (a++[c.1]))
   else
    some (.inr (({ name:=append_0.name,priority:=append_0.priority,cond:=a,thn:=[] }:Zg),false)))
  (fun a=>
   (ZNy a_2 (⟨#[32,38,32]⟩)).bind fun g=>
   forL (σ:=(List Zz))
    (fun (i37:Nat) (i:ByteArray) b=>
     (ZOl i).bind fun d=>
     if d.2=true then
      chk (b.length+1≤1073741824) <|
      some (.inl (b++[d.1]))
     else
      some (.inr (({ name:=append_0.name,priority:=append_0.priority,cond:=a,thn:=b }:Zg),false)))
    (fun b=>
     (ZOh ({ name:=append_0.name,priority:=append_0.priority,cond:=a,thn:=b }:Zg)).bind fun j=>
     some (({ name:=append_0.name,priority:=append_0.priority,cond:=a,thn:=b }:Zg),j))
    g 0 [])
  e 0 []
noncomputable def ZOS (s_0:ByteArray):Option (Zg × Bool):=
 (ZNy s_0 (⟨#[58,32]⟩)).bind fun a=>
 if (((a.length:Nat):Int) != 2)=true then
  some (({ name:=(⟨#[]⟩),priority:=0,cond:=[],thn:=[] }:Zg),false)
 else
  chk (0≤0∧0<((a.length:Nat):Int)) <|
  (a[(A1 0)]?).bind fun f=>
  (ZNy f (⟨#[32]⟩)).bind fun b=>
  chk (0≤1∧1<((a.length:Nat):Int)) <|
  (a[(A1 1)]?).bind fun g=>
  (ZNy g (⟨#[32,45,62,32]⟩)).bind fun c=>
  if (((b.length:Nat):Int) != 2)=true then
   some (({ name:=(⟨#[]⟩),priority:=0,cond:=[],thn:=[] }:Zg),false)
  else
   if (((c.length:Nat):Int) != 2)=true then
    some (({ name:=(⟨#[]⟩),priority:=0,cond:=[],thn:=[] }:Zg),false)
   else
    chk (1<((b.length:Nat):Int)) <|
    (b[(A1 1)]?).bind fun i=>
    (ZOj i).bind fun d=>
    if d.2=true then
     chk (0<((b.length:Nat):Int)) <|
     (b[(A1 0)]?).bind fun j=>
     chk (0<((c.length:Nat):Int)) <|
     (c[(A1 0)]?).bind fun k=>
     chk (1<((c.length:Nat):Int)) <|
     (c[(A1 1)]?).bind fun l=>
     (ZOx ({ name:=j,priority:=d.1,cond:=[],thn:=[] }:Zg) k l).bind fun e=>
     if e.2=true then
      some (e.1,true)
     else
      some (({ name:=(⟨#[]⟩),priority:=0,cond:=[],thn:=[] }:Zg),false)
    else
     some (({ name:=(⟨#[]⟩),priority:=0,cond:=[],thn:=[] }:Zg),false)
theorem ZOW (s:ByteArray):Ref (ZOv s) (ZeH s):=by
 unfold ZOv ZeH
 repeat' (first | with_reducible exact Ref.refl _ | exact ZNE _ _ | apply Ref.bind | apply Ref.ite | apply Ref.chk | intro _)
theorem ZOa (s:ByteArray):Ref (ZNz s) (Yl s):=by
 unfold ZNz Yl
 repeat' (first | with_reducible exact Ref.refl _ | exact ZOW _ | exact ZOn _ | apply Ref.bind | apply Ref.ite | intro _)
theorem ZO9 (s:ByteArray):Ref (ZOJ s) (Za1 s):=by
 unfold ZOJ Za1
 refine Ref.iter ?_ 5 3
 repeat' (first | with_reducible exact Ref.refl _ | exact ZNE _ _ | exact ZOa _ | exact ZOP _ | apply Ref.bind | apply Ref.ite | apply Ref.chk | intro _)
theorem ZOO (s:ByteArray):Ref (ZOl s) (ZaE s):=by
 unfold ZOl ZaE
 repeat' (first | with_reducible exact Ref.refl _ | exact ZNE _ _ | exact ZOa _ | apply Ref.bind | apply Ref.ite | apply Ref.chk | intro _)
theorem ZOX (r:Zg) (a b:ByteArray):Ref (ZOx r a b) (ZeJ r a b):=by
 unfold ZOx ZeJ
 refine Ref.bind (ZNE _ _) fun _=>Ref.forL (fun _ _ _=>?_) (fun _=>Ref.bind (ZNE _ _) fun _=>Ref.forL (fun _ _ _=>?_) (fun _=>?_) _ _ _) _ _ _
 ·repeat' (first | with_reducible exact Ref.refl _ | exact ZO9 _ | apply Ref.bind | apply Ref.ite | apply Ref.chk | intro _)
 ·repeat' (first | with_reducible exact Ref.refl _ | exact ZOO _ | apply Ref.bind | apply Ref.ite | apply Ref.chk | intro _)
 ·exact Ref.bind (ZOH _) fun _=>Ref.refl _
theorem ZPc (s:ByteArray):Ref (ZOS s) (QD s):=by
 unfold ZOS QD
 repeat' (first | with_reducible exact Ref.refl _ | exact ZNE _ _ | exact ZOw _ | exact ZOX _ _ _ | apply Ref.bind | apply Ref.ite | apply Ref.chk | intro _)
noncomputable def ZOF (s:ByteArray):Bool:=match ZOS s with | some (r,_)=>decide (1≤r.cond.length)&&decide (1≤r.thn.length) | none=>false
theorem ZO6 {s:ByteArray} (h:ZOF s=true):∃r ok,QD s=some (r,ok)∧1≤r.cond.length∧1≤r.thn.length:=by
 unfold ZOF at h
 split at h
 ·rename_i r ok e
  rw [A7,decide_eq_true_iff,decide_eq_true_iff] at h
  exact ⟨r,ok,ZPc s _ e,h⟩
 ·simp at h
theorem ZOY:([(⟨#[114,32,49,58,32,111,110,40,63,120,44,63,121,41,32,38,32,111,110,40,63,121,44,63,122,41,32,45,62,32,97,100,100,32,111,110,40,63,120,44,63,122,41]⟩),(⟨#[114,32,50,58,32,111,110,40,63,120,44,63,121,41,32,38,32,112,40,63,121,41,32,45,62,32,97,100,100,32,112,40,63,120,41]⟩),(⟨#[114,32,48,58,32,112,40,63,120,41,32,38,32,111,110,40,63,120,44,63,121,41,32,38,32,63,120,32,33,61,32,63,121,32,45,62,32,97,100,100,32,97,116,40,63,121,44,63,120,41]⟩),(⟨#[114,32,51,58,32,97,116,40,63,120,44,63,121,41,32,38,32,112,40,63,120,41,32,38,32,112,40,63,121,41,32,38,32,63,120,32,60,32,63,121,32,45,62,32,97,100,100,32,122,40,41]⟩),(⟨#[114,32,52,58,32,111,110,40,63,120,44,97,41,32,45,62,32,97,100,100,32,113,40,63,120,41,32,38,32,97,100,100,32,112,40,97,41]⟩),(⟨#[114,32,49,58,32,97,116,40,63,120,44,63,120,41,32,38,32,113,40,49,41,32,45,62,32,97,100,100,32,111,110,40,63,120,44,49,41]⟩),(⟨#[114,32,49,58,32,112,40,63,120,41,32,38,32,110,111,116,32,113,40,63,120,41,32,45,62,32,97,100,100,32,97,116,40,63,120,44,98,41]⟩),(⟨#[114,32,50,58,32,111,110,40,63,120,44,63,121,41,32,38,32,110,111,116,32,97,116,40,63,121,44,63,122,41,32,45,62,32,97,100,100,32,113,40,63,121,41]⟩),(⟨#[114,32,53,58,32,97,116,40,63,120,44,63,121,41,32,38,32,110,111,116,32,112,40,63,121,41,32,38,32,63,120,32,33,61,32,63,121,32,45,62,32,97,100,100,32,122,40,41]⟩),(⟨#[114,32,57,58,32,113,40,63,120,41,32,38,32,112,40,63,120,41,32,45,62,32,100,114,111,112,32,112,40,63,120,41]⟩),(⟨#[114,32,48,58,32,97,116,40,63,120,44,49,41,32,38,32,97,116,40,63,121,44,50,41,32,38,32,63,120,32,61,32,63,121,32,45,62,32,100,114,111,112,32,97,116,40,63,120,44,49,41,32,38,32,115,116,111,112]⟩),(⟨#[114,32,49,58,32,111,110,40,63,120,44,63,120,41,32,45,62,32,115,116,111,112]⟩),(⟨#[114,32,55,58,32,122,40,41,32,38,32,111,110,40,63,120,44,63,121,41,32,45,62,32,100,114,111,112,32,122,40,41,32,38,32,97,100,100,32,111,110,40,63,121,44,63,120,41]⟩)]:List ByteArray).all ZOF=true:=by kernel_rfl
theorem ZOC:∀s∈([(⟨#[114,32,49,58,32,111,110,40,63,120,44,63,121,41,32,38,32,111,110,40,63,121,44,63,122,41,32,45,62,32,97,100,100,32,111,110,40,63,120,44,63,122,41]⟩),(⟨#[114,32,50,58,32,111,110,40,63,120,44,63,121,41,32,38,32,112,40,63,121,41,32,45,62,32,97,100,100,32,112,40,63,120,41]⟩),(⟨#[114,32,48,58,32,112,40,63,120,41,32,38,32,111,110,40,63,120,44,63,121,41,32,38,32,63,120,32,33,61,32,63,121,32,45,62,32,97,100,100,32,97,116,40,63,121,44,63,120,41]⟩),(⟨#[114,32,51,58,32,97,116,40,63,120,44,63,121,41,32,38,32,112,40,63,120,41,32,38,32,112,40,63,121,41,32,38,32,63,120,32,60,32,63,121,32,45,62,32,97,100,100,32,122,40,41]⟩),(⟨#[114,32,52,58,32,111,110,40,63,120,44,97,41,32,45,62,32,97,100,100,32,113,40,63,120,41,32,38,32,97,100,100,32,112,40,97,41]⟩),(⟨#[114,32,49,58,32,97,116,40,63,120,44,63,120,41,32,38,32,113,40,49,41,32,45,62,32,97,100,100,32,111,110,40,63,120,44,49,41]⟩),(⟨#[114,32,49,58,32,112,40,63,120,41,32,38,32,110,111,116,32,113,40,63,120,41,32,45,62,32,97,100,100,32,97,116,40,63,120,44,98,41]⟩),(⟨#[114,32,50,58,32,111,110,40,63,120,44,63,121,41,32,38,32,110,111,116,32,97,116,40,63,121,44,63,122,41,32,45,62,32,97,100,100,32,113,40,63,121,41]⟩),(⟨#[114,32,53,58,32,97,116,40,63,120,44,63,121,41,32,38,32,110,111,116,32,112,40,63,121,41,32,38,32,63,120,32,33,61,32,63,121,32,45,62,32,97,100,100,32,122,40,41]⟩),(⟨#[114,32,57,58,32,113,40,63,120,41,32,38,32,112,40,63,120,41,32,45,62,32,100,114,111,112,32,112,40,63,120,41]⟩),(⟨#[114,32,48,58,32,97,116,40,63,120,44,49,41,32,38,32,97,116,40,63,121,44,50,41,32,38,32,63,120,32,61,32,63,121,32,45,62,32,100,114,111,112,32,97,116,40,63,120,44,49,41,32,38,32,115,116,111,112]⟩),(⟨#[114,32,49,58,32,111,110,40,63,120,44,63,120,41,32,45,62,32,115,116,111,112]⟩),(⟨#[114,32,55,58,32,122,40,41,32,38,32,111,110,40,63,120,44,63,121,41,32,45,62,32,100,114,111,112,32,122,40,41,32,38,32,97,100,100,32,111,110,40,63,121,44,63,120,41]⟩)]:List ByteArray),ZOF s=true:=fun s ms=>AN.1 ZOY s ms
structure RS (r:Zg):Prop where
 cl:r.cond.length≤200
 tl:r.thn.length≤200
 ca:∀x∈r.cond,x.pattern.args.length≤200
 ta:∀a∈r.thn,a.pattern.args.length≤200
theorem Zkr.rs {s:ByteArray} {r:Zg} (h:Zkr s r) (hs:s.size≤100):RS r:=⟨by have:=h.cl;omega,by have:=h.tl;omega,fun x mx=>by have:=(h.ca x mx).1;omega,fun x mx=>by have:=h.ta x mx;omega⟩
theorem RS.name {r:Zg} (h:RS r) (n:ByteArray) (p:Int):RS { name:=n,priority:=p,cond:=r.cond,thn:=r.thn }:=⟨h.cl,h.tl,h.ca,h.ta⟩
theorem RS.small {r:Zg} (h:RS r):QC r:=⟨by have:=h.cl;omega,by have:=h.tl;omega,fun x mx=>by have:=h.ca x mx;omega,fun x mx=>by have:=h.ta x mx;omega⟩
theorem RK.rs {b:Bool} {r:Zg} (h:RK b r):RS r:=by
 obtain ⟨s,h1,_,h3⟩:=h
 exact h3.rs h1
theorem ZO0 (L:List ByteArray) (N:Nat) (n:Int) (hN:L.length=N) (h0:0<n) (hn:n≤N) (hN2:N≤200) (hs:∀s∈L,s.size≤100) (hg:∀s∈L,ZOF s=true) {c:ZJ} (hc:Qu c):∃r c',((Xv c n).bind fun v1=>chk (0≤v1.1∧v1.1<((N:Nat):Int)) <| (L[(A1 v1.1)]?).bind fun x2=>(QD x2).bind fun v3=>some (v3.1,v1.2))=some (r,c')∧RS r∧1≤r.cond.length∧1≤r.thn.length∧Qu c':=by
 obtain ⟨x,c',e,hx,hx2,hc'⟩:=ZdR hc h0 (by omega)
 have hl:x.toNat<L.length:=by omega
 have ml:=AG hl
 obtain ⟨r,ok,er,hr⟩:=Zpk (s:=L[x.toNat]) (by have:=hs _ ml;omega)
 obtain ⟨r2,ok2,er2,q1,q2⟩:=ZO6 (hg _ ml)
 obtain ⟨rfl,rfl⟩:r=r2∧ok=ok2:=by
  have:=AU (er.symm.trans er2)
  exact ⟨congrArg Prod.fst this,congrArg Prod.snd this⟩
 refine ⟨r,c',?_,hr.rs (hs _ ml),q1,q2,hc'⟩
 rw [e,A0,Zh _ (by omega),A3 hl,A0,er]
 rfl
theorem ZNX {c:ZJ} (h:Qu c) {m:Int} (h0:0<m):∃r c',ZNn c m=some (r,c')∧RS r∧1≤r.cond.length∧1≤r.thn.length∧Qu c':=by
 unfold ZNn
 exact ZO0 _ 13 _ rfl (by split<;>omega) (by split<;>omega) (by omega) (by decide) ZOC h
theorem ZN7 {c:ZJ} (h:Qu c):∃x c',ZNB c=some (x,c')∧Qu c':=by
 unfold ZNB
 obtain ⟨b,c1,e1,h1⟩:=ZH1 h (n:=4) (by omega) (by omega)
 rw [e1,A0]
 split
 ·obtain ⟨x,c2,e2,h2⟩:=ZI9 h1
  exact ⟨x,c2,by rw [e2];rfl,h2⟩
 ·obtain ⟨x,c2,e2,_,h2⟩:=ZrL h1 (l:=[(⟨#[63,120]⟩),(⟨#[63,121]⟩),(⟨#[63,122]⟩)]) (by simp) (by simp)
  exact ⟨x,c2,by rw [e2];rfl,h2⟩
theorem ZNT {c:ZJ} (h:Qu c):∃p c',ZNs c=some (p,c')∧p.args.length≤2∧Qu c':=by
 unfold ZNs
 obtain ⟨r,n,c1,e,n0,n1,_,hc⟩:=ZJe h
 rw [e,A0]
 obtain ⟨row,c2,e2,h1,h2⟩:=ZIY (tm:=ZNB) (fun c hc=>ZN7 hc) (fun row c=>(({ rel:=r,args:=row }:Zv),c)) n0 (by omega) hc
 exact ⟨{ rel:=r,args:=row },c2,e2,by show row.length≤2;omega,h2⟩
theorem ZOz {c:ZJ} (h:Qu c):∃p c',ZNS c=some (p,c')∧p.args.length≤4∧Qu c':=by
 unfold ZNS
 obtain ⟨f,c1,e1,a1,h1⟩:=ZNT h
 obtain ⟨k,c2,e2,k0,k1,h2⟩:=ZdR h1 (n:=10) (by omega) (by omega)
 rw [e1,A0,e2,A0]
 split
 ·obtain ⟨w,c3,e3,h3⟩:=ZH8 h2
  exact ⟨{ rel:=w,args:=f.args },c3,by rw [e3];rfl,by show f.args.length≤4;omega,h3⟩
 ·split
  ·obtain ⟨w,c3,e3,h3⟩:=ZH8 h2
   exact ⟨{ rel:=f.rel,args:=f.args++[w] },c3,by rw [e3,A0,Zh _ (by show f.args.length+1≤_;omega)],by simp;omega,h3⟩
  ·split
   ·obtain ⟨w,c3,e3,w0,w1,h3⟩:=ZdR h2 (n:=5) (by omega) (by omega)
    refine ⟨_,c3,by rw [e3,A0,Zh _ (by omega)],?_,h3⟩
    simp
    omega
   ·exact ⟨f,c2,rfl,by omega,h2⟩
theorem ZOp {c:ZJ} (h:Qu c):∃x c',ZNJ c=some (x,c')∧x.pattern.args.length≤2∧Qu c':=by
 unfold ZNJ
 obtain ⟨k,c1,e1,k0,k1,h1⟩:=ZdR h (n:=5) (by omega) (by omega)
 rw [e1,A0]
 have pat:∀kd:Int,∃x c',((ZNs c1).bind fun v2=>some (({ kind:=kd,pattern:=v2.1,left:=(⟨#[]⟩),right:=(⟨#[]⟩) }:Zt),v2.2))=some (x,c')∧x.pattern.args.length≤2∧Qu c':=fun kd=>by
  obtain ⟨p,c2,e2,a,h2⟩:=ZNT h1
  exact ⟨{ kind:=kd,pattern:=p,left:=⟨#[]⟩,right:=⟨#[]⟩ },c2,by rw [e2];rfl,a,h2⟩
 split
 ·exact pat 1
 ·split
  ·exact pat 1
  ·split
   ·exact pat 2
   ·obtain ⟨x,c2,e2,h2⟩:=ZN7 h1
    obtain ⟨y,c3,e3,h3⟩:=ZN7 h2
    obtain ⟨k,c4,e4,_,h4⟩:=ZNA h3 (l:=[3,4,4,5]) (by simp) (by simp)
    refine ⟨{ kind:=k,pattern:={ rel:=⟨#[]⟩,args:=[] },left:=x,right:=y },c4,?_,by simp,h4⟩
    rw [e2,A0,e3,A0]
    unfold ZN4
    rw [e4];rfl
theorem ZO3 {c:ZJ} (h:Qu c):∃x c',ZN2 c=some (x,c')∧x.pattern.args.length≤4∧Qu c':=by
 unfold ZN2
 obtain ⟨x,c1,e1,a1,h1⟩:=ZOp h
 obtain ⟨k,c2,e2,k0,k1,h2⟩:=ZdR h1 (n:=12) (by omega) (by omega)
 rw [e1,A0,e2,A0]
 split
 ·obtain ⟨w,c3,e3,_,h3⟩:=ZNA h2 (l:=[0,1,3,5,6,(-1)]) (by simp) (by simp)
  exact ⟨{ kind:=w,pattern:=x.pattern,left:=x.left,right:=x.right },c3,by rw [e3];rfl,by show x.pattern.args.length≤4;omega,h3⟩
 ·split
  ·obtain ⟨w,c3,e3,h3⟩:=ZH8 h2
   exact ⟨{ kind:=x.kind,pattern:=x.pattern,left:=w,right:=x.right },c3,by rw [e3];rfl,by show x.pattern.args.length≤4;omega,h3⟩
  ·split
   ·obtain ⟨p,c3,e3,a,h3⟩:=ZOz h2
    exact ⟨{ kind:=x.kind,pattern:=p,left:=x.left,right:=x.right },c3,by rw [e3];rfl,a,h3⟩
   ·exact ⟨x,c2,rfl,by omega,h2⟩
def DrR (o:Option (Zg × ZJ)):Prop:=∃r c',o=some (r,c')∧RS r∧1≤r.cond.length∧1≤r.thn.length∧Qu c'
theorem ZO1 {R:List Zt} (hR:R.length≤3) (h1:1≤R.length) (ha:∀x∈R,x.pattern.args.length≤2) {T:List Zz} (hT:T.length≤2) (h2:1≤T.length) (hb:∀a∈T,a.pattern.args.length≤3) (nm:ByteArray) (pr:Int) {c:ZJ} (hc:Qu c) {σ:Type}:∃r c',((Zcu ({ name:=nm,priority:=pr,cond:=R,thn:=T }:Zg)).bind fun v32=>
        if v32=true then
         some (.inr (.inr (({ name:=nm,priority:=pr,cond:=R,thn:=T }:Zg),c)))
        else
         (ZNn c 99).bind fun v33=>
         some (.inr (.inr (v33.1,v33.2))))=some (.inr (.inr (r,c')):(List Int × Int × Int × List ByteArray × Int) ⊕ (σ ⊕ (Zg × ZJ)))∧RS r∧1≤r.cond.length∧1≤r.thn.length∧Qu c':=by
 have hs:RS ({ name:=nm,priority:=pr,cond:=R,thn:=T }:Zg):=⟨by show R.length≤200;omega,by show T.length≤200;omega,fun x mx=>by have:=ha x mx;omega,fun a ma=>by have:=hb a ma;omega⟩
 rw [Zgg _ hs.small,A0]
 split
 ·exact ⟨_,_,rfl,hs,h1,h2,hc⟩
 ·obtain ⟨r,c2,e2,q⟩:=ZNX hc (m:=99) (by omega)
  exact ⟨r,c2,by rw [e2];rfl,q⟩
theorem ZOy {c:ZJ} (h:Qu c):DrR (ZNG c):=by
 unfold ZNG
 obtain ⟨pr,c1,e1,_,_,h1⟩:=ZdR h (n:=4) (by omega) (by omega)
 obtain ⟨p0,c2,e2,a2,h2⟩:=ZNT h1
 obtain ⟨n,c3,e3,n0,n1,h3⟩:=ZdR h2 (n:=3) (by omega) (by omega)
 rw [e1,A0,e2,A0,e3,A0]
 have inner:∀(R:List Zt),R.length≤3→1≤R.length→(∀x∈R,x.pattern.args.length≤2)→∀(rel:ByteArray) (V:List ByteArray) (m k:Nat) (cc:ZJ) (row:List ByteArray),k+m=row.length→row.length≤3→Qu cc→∃r c',iter (σ:=(List Int) × Int × Int × (List ByteArray) × Int) (ρ:=(List Int × Int × Int × List Zt × Int) ⊕ (Zg × ZJ))
     (fun s=>
      match s with
      | (f_22,f_23,f_24,row_25,u_17)=>
      if (decide (u_17<((row_25.length:Nat):Int)))=true then
       chk (0≤u_17∧u_17<((row_25.length:Nat):Int)) <|
       (row_25[(A1 u_17)]?).bind fun x26=>
       (Zaz x26).bind fun v27=>
       if v27=true then
        (ZV V x26).bind fun v28=>
        if v28=true then
         some (.inl (f_22,f_23,f_24,row_25,(IntKind.i64.wrap (u_17+1))))
        else
         (ZGv ({ b:=f_22,i:=f_23,h:=f_24 }:ZJ)).bind fun v29=>
         some (.inl (v29.2.b,v29.2.i,v29.2.h,(List.set row_25 (A1 u_17) v29.1),(IntKind.i64.wrap (u_17+1))))
       else
        some (.inl (f_22,f_23,f_24,row_25,(IntKind.i64.wrap (u_17+1))))
      else
       (ZNq ({ b:=f_22,i:=f_23,h:=f_24 }:ZJ) [1,1,2]).bind fun v30=>
       (ZGu v30.2 6).bind fun v31=>
       if v31.1=true then
        (Zcu ({ name:=(⟨#[114]⟩),priority:=pr,cond:=R,thn:=[({ kind:=v30.1,pattern:=({ rel:=rel,args:=row_25 }:Zv) }:Zz),({ kind:=3,pattern:=({ rel:=(⟨#[]⟩),args:=[] }:Zv) }:Zz)] }:Zg)).bind fun v32=>
        if v32=true then
         some (.inr (.inr (({ name:=(⟨#[114]⟩),priority:=pr,cond:=R,thn:=[({ kind:=v30.1,pattern:=({ rel:=rel,args:=row_25 }:Zv) }:Zz),({ kind:=3,pattern:=({ rel:=(⟨#[]⟩),args:=[] }:Zv) }:Zz)] }:Zg),v31.2)))
        else
         (ZNn v31.2 99).bind fun v33=>
         some (.inr (.inr (v33.1,v33.2)))
       else
        (Zcu ({ name:=(⟨#[114]⟩),priority:=pr,cond:=R,thn:=[({ kind:=v30.1,pattern:=({ rel:=rel,args:=row_25 }:Zv) }:Zz)] }:Zg)).bind fun v34=>
        if v34=true then
         some (.inr (.inr (({ name:=(⟨#[114]⟩),priority:=pr,cond:=R,thn:=[({ kind:=v30.1,pattern:=({ rel:=rel,args:=row_25 }:Zv) }:Zz)] }:Zg),v31.2)))
        else
         (ZNn v31.2 99).bind fun v35=>
         some (.inr (.inr (v35.1,v35.2))))
     (cc.b,cc.i,cc.h,row,((k:Nat):Int))=some (.inr (r,c'))∧RS r∧1≤r.cond.length∧1≤r.thn.length∧Qu c':=by
  intro R hR hR1 ha rel V m
  induction m with
  | zero=>
   intro k cc row hk hl hcc
   obtain ⟨kd,d1,g1,_,hd1⟩:=ZNA hcc (l:=[1,1,2]) (by simp) (by simp)
   obtain ⟨o,d2,g2,hd2⟩:=ZH1 hd1 (n:=6) (by omega) (by omega)
   have fin:∀T:List Zz,T.length≤2→1≤T.length→(∀a∈T,a.pattern.args.length≤3)→_:=fun T t1 t2 t3=>ZO1 (σ:=List Int × Int × Int × List Zt × Int) hR hR1 ha (T:=T) t1 t2 t3 (⟨#[114]⟩) pr hd2
   cases o with
   | true=>
    obtain ⟨r,c',e,q⟩:=fin [({ kind:=kd,pattern:=({ rel:=rel,args:=row }:Zv) }:Zz),({ kind:=3,pattern:=({ rel:=(⟨#[]⟩),args:=[] }:Zv) }:Zz)] (by simp) (by simp) (by simp;omega)
    refine ⟨r,c',Z2 ?_,q⟩
    simp only
    rw [if_neg (by simp;omega),show ({ b:=cc.b,i:=cc.i,h:=cc.h }:ZJ)=cc from rfl,g1,A0,g2,A0,if_pos rfl]
    exact e
   | false=>
    obtain ⟨r,c',e,q⟩:=fin [({ kind:=kd,pattern:=({ rel:=rel,args:=row }:Zv) }:Zz)] (by simp) (by simp) (by simp;omega)
    refine ⟨r,c',Z2 ?_,q⟩
    simp only
    rw [if_neg (by simp;omega),show ({ b:=cc.b,i:=cc.i,h:=cc.h }:ZJ)=cc from rfl,g1,A0,g2,A0,if_neg (by simp)]
    exact e
  | succ m ih=>
   intro k cc row hk hl hcc
   have hkl:k<row.length:=by omega
   have hw:IntKind.i64.wrap (((k:Nat):Int)+1)=((k+1:Nat):Int):=by rw [YW (by omega) (by omega)];omega
   obtain ⟨a,d1,g1,hd1⟩:=ZI9 hcc
   by_cases hv:Ye row[k]=true
   ·by_cases ht:Yx V row[k]=true
    ·refine (Yh (s':=(cc.b,cc.i,cc.h,row,((k+1:Nat):Int))) ?_) ▸ ih (k+1) cc row (by omega) hl hcc
     simp only
     rw [if_pos (by simp;omega),Zh _ (by omega),A9,A3 hkl,A0,QW,A0,if_pos hv,YV,A0,if_pos ht,hw]
    ·refine (Yh (s':=(d1.b,d1.i,d1.h,row.set k a,((k+1:Nat):Int))) ?_) ▸ ih (k+1) d1 (row.set k a) (by simp;omega) (by simpa using hl) hd1
     simp only
     rw [if_pos (by simp;omega),Zh _ (by omega),A9,A3 hkl,A0,QW,A0,if_pos hv,YV,A0,if_neg ht,show ({ b:=cc.b,i:=cc.i,h:=cc.h }:ZJ)=cc from rfl,g1,A0,hw]
   ·refine (Yh (s':=(cc.b,cc.i,cc.h,row,((k+1:Nat):Int))) ?_) ▸ ih (k+1) cc row (by omega) hl hcc
    simp only
    rw [if_pos (by simp;omega),Zh _ (by omega),A9,A3 hkl,A0,QW,A0,if_neg hv,hw]
 have outer:∀{body:(List Int × Int × Int × List Zt × Int)→Option ((List Int × Int × Int × List Zt × Int) ⊕ (Zg × ZJ))},(∀(cc:ZJ) (R:List Zt) (k:Nat),Qu cc→∃x c',x.pattern.args.length≤2∧Qu c'∧(R.length≤3→k≤3→body (cc.b,cc.i,cc.h,R,((k+1:Nat):Int))=some (.inl (c'.b,c'.i,c'.h,R++[x],((k:Nat):Int)))))→(∀(cc:ZJ) (R:List Zt),Qu cc→R.length≤3→1≤R.length→(∀x∈R,x.pattern.args.length≤2)→∃r c',body (cc.b,cc.i,cc.h,R,0)=some (.inr (r,c'))∧RS r∧1≤r.cond.length∧1≤r.thn.length∧Qu c')→∀(k:Nat) (cc:ZJ) (R:List Zt),Qu cc→R.length+k≤3→1≤R.length→(∀x∈R,x.pattern.args.length≤2)→DrR (iter body (cc.b,cc.i,cc.h,R,((k:Nat):Int))):=by
  intro body hs he k
  induction k with
  | zero=>
   intro cc R hcc hl hl1 ha
   obtain ⟨r,c',e,q⟩:=he cc R hcc (by omega) hl1 ha
   exact ⟨r,c',Z2 e,q⟩
  | succ k ih=>
   intro cc R hcc hl hl1 ha
   obtain ⟨x,c',hx,hc',e⟩:=hs cc R k hcc
   rw [Yh (e (by omega) (by omega))]
   exact ih c' (R++[x]) hc' (by simp;omega) (by simp) fun y my=>by
    rcases A2.1 my with my | my
    ·exact ha y my
    ·simp at my;subst my;exact hx
 have hn:n=((n.toNat:Nat):Int):=by omega
 rw [hn]
 refine outer ?_ ?_ n.toNat c3 [{ kind:=1,pattern:=p0,left:=⟨#[]⟩,right:=⟨#[]⟩ }] h3 (by simp;omega) (by simp) (by simp;exact a2)
 ·intro cc R k hcc
  obtain ⟨x,c',e,hx,hc'⟩:=ZOp hcc
  refine ⟨x,c',hx,hc',fun hR hk3=>?_⟩
  have hw:IntKind.i64.wrap ((((k+1:Nat)):Int) - 1)=((k:Nat):Int):=by rw [YW (by omega) (by omega)];omega
  simp only
  rw [if_pos (decide_eq_true (by omega)),show ({ b:=cc.b,i:=cc.i,h:=cc.h }:ZJ)=cc from rfl,e,A0,Zh _ (by omega),hw]
 ·intro cc R hcc hR hR1 ha
  obtain ⟨p,c4,e4,a4,h4⟩:=ZNT hcc
  obtain ⟨r,c',e,q⟩:=inner R hR hR1 ha p.rel (YD ({ name:=(⟨#[114]⟩),priority:=pr,cond:=R,thn:=[] }:Zg) R.length) p.args.length 0 c4 p.args (by omega) (by omega) h4
  refine ⟨r,c',?_,q⟩
  simp only
  rw [if_neg (by simp),ZdY _ _ ⟨by show R.length≤_;omega,by simp,fun x mx=>by have:=ha x mx;omega,by simp⟩ (by show R.length≤4;omega),A0,A9,show ({ b:=cc.b,i:=cc.i,h:=cc.h }:ZJ)=cc from rfl,e4,A0]
  exact e
theorem ZOq {c:ZJ} (h:Qu c):DrR (ZNF c):=by
 unfold ZNF
 obtain ⟨b,c1,e1,h1⟩:=ZH1 h (n:=3) (by omega) (by omega)
 rw [e1,A0]
 split
 ·obtain ⟨r,c2,e2,q⟩:=ZOy h1
  exact ⟨r,c2,by rw [e2];rfl,q⟩
 ·obtain ⟨r,c2,e2,q⟩:=ZNX h1 (m:=99) (by omega)
  exact ⟨r,c2,by rw [e2];rfl,q⟩
theorem ZO8 {c:ZJ} (h:Qu c):∃r c',ZN1 c=some (r,c')∧r.cond.length≤201∧r.thn.length≤201∧(∀x∈r.cond,x.pattern.args.length≤200)∧(∀a∈r.thn,a.pattern.args.length≤200)∧Qu c':=by
 unfold ZN1
 obtain ⟨r,c1,e1,q,q1,q2,h1⟩:=ZOq h
 obtain ⟨k,c2,e2,k0,k1,h2⟩:=ZdR h1 (n:=14) (by omega) (by omega)
 have b1:=q.cl
 have b2:=q.tl
 rw [e1,A0,e2,A0]
 split
 ·obtain ⟨w,c3,e3,h3⟩:=ZH8 h2
  exact ⟨{ name:=w,priority:=r.priority,cond:=r.cond,thn:=r.thn },c3,by rw [e3];rfl,by show r.cond.length≤_;omega,by show r.thn.length≤_;omega,q.ca,q.ta,h3⟩
 split
 ·obtain ⟨w,c3,e3,_,h3⟩:=ZNA h2 (l:=[(-1),0,9,10]) (by simp) (by simp)
  exact ⟨{ name:=r.name,priority:=w,cond:=r.cond,thn:=r.thn },c3,by rw [e3];rfl,by show r.cond.length≤_;omega,by show r.thn.length≤_;omega,q.ca,q.ta,h3⟩
 split
 ·obtain ⟨x,c3,e3,ax,h3⟩:=ZO3 h2
  refine ⟨{ name:=r.name,priority:=r.priority,cond:=r.cond++[x],thn:=r.thn },c3,by rw [e3,A0,Zh _ (by show r.cond.length+1≤_;omega)],by simp;omega,by show r.thn.length≤_;omega,fun y my=>?_,q.ta,h3⟩
  rcases A2.1 my with my | my
  ·exact q.ca y my
  ·simp at my;subst my;omega
 split
 ·obtain ⟨kd,c3,e3,_,h3⟩:=ZNA h2 (l:=[0,1,2,3,4]) (by simp) (by simp)
  obtain ⟨p,c4,e4,ap,h4⟩:=ZOz h3
  refine ⟨{ name:=r.name,priority:=r.priority,cond:=r.cond,thn:=r.thn++[{ kind:=kd,pattern:=p }] },c4,by rw [e3,A0,e4,A0,Zh _ (by show r.thn.length+1≤_;omega)],by show r.cond.length≤_;omega,by simp;omega,q.ca,fun y my=>?_,h4⟩
  rcases A2.1 my with my | my
  ·exact q.ta y my
  ·simp at my;subst my;show p.args.length≤200;omega
 split
 ·exact ⟨{ name:=r.name,priority:=r.priority,cond:=r.cond.drop 1,thn:=r.thn },c2,by rw [Zh _ (by show 0≤1∧(1:Int)≤((r.cond.length:Nat):Int);omega)];rfl,by simp;omega,by show r.thn.length≤_;omega,fun y my=>q.ca y (AO my),q.ta,h2⟩
 split
 ·exact ⟨{ name:=r.name,priority:=r.priority,cond:=r.cond,thn:=r.thn.drop 1 },c2,by rw [Zh _ (by show 0≤1∧(1:Int)≤((r.thn.length:Nat):Int);omega)];rfl,by show r.cond.length≤_;omega,by simp;omega,q.ca,fun y my=>q.ta y (AO my),h2⟩
 split
 ·obtain ⟨w1,c3,e3,_,h3⟩:=ZrL h2 (l:=[(⟨#[63,102]⟩),(⟨#[63,97]⟩),(⟨#[63,103]⟩)]) (by simp) (by simp)
  obtain ⟨w2,c4,e4,_,h4⟩:=ZNA h3 (l:=[1,2]) (by simp) (by simp)
  obtain ⟨w3,c5,e5,_,h5⟩:=ZrL h4 (l:=[(⟨#[63,102]⟩),(⟨#[63,120]⟩)]) (by simp) (by simp)
  exact ⟨_,c5,by rw [e3,A0,e4,A0,e5,A0],by simp,by simp,by simp,by simp,h5⟩
 ·exact ⟨r,c2,rfl,by omega,by omega,q.ca,q.ta,h2⟩
structure RB (r:Zg):Prop where
 cl:r.cond.length≤201
 tl:r.thn.length≤201
 ca:∀x∈r.cond,x.pattern.args.length≤200
 ta:∀a∈r.thn,a.pattern.args.length≤200
theorem RS.rb {r:Zg} (h:RS r):RB r:=⟨by have:=h.cl;omega,by have:=h.tl;omega,h.ca,h.ta⟩
theorem ZO7 {R:List Zg} (hl:R.length≤100) (h:∀r∈R,RB r):Zbc R:=by
 refine ⟨fun r mr=>?_,?_⟩
 ·have q:=h r mr
  exact ⟨by have:=q.cl;omega,by have:=q.tl;omega,fun x mx=>by have:=q.ca x mx;omega,fun x mx=>by have:=q.ta x mx;omega⟩
 have:∀l:List Zg,(∀r∈l,r∈R)→(l.flatMap Yq).length≤201 * l.length:=by
  intro l
  induction l with
  | nil=>intro _;simp
  | cons r l ih=>
   intro hm
   have h1:=ih fun q mq=>hm q (by simp [mq])
   have h2:=ZlT r
   have h3:=(h r (hm r (by simp))).cl
   rw [List.flatMap_cons,AK,AY]
   omega
 have:=this R fun _ h=>h
 omega
theorem ZPa {c:ZJ} (h:Qu c) {m:Int} (h0:0≤m) (h7:m≤7):∃R c',ZN3 c m=some (R,c')∧R.length≤7∧(∀r∈R,RB r)∧Qu c':=by
 unfold ZN3
 have hw:IntKind.i64.wrap (m+1)=m+1:=YW (by omega) (by omega)
 rw [hw]
 obtain ⟨n,c1,e,n0,n1,hc⟩:=ZdR h (n:=m+1) (by omega) (by omega)
 rw [e,A0]
 have key:∀(k:Nat) (cc:ZJ) (row:List Zg),Qu cc→row.length+k≤7→(∀r∈row,RB r)→∃R c',iter (σ:=(List Int) × Int × Int × (List Zg) × Int)
  (fun s=>
   match s with
   | (f_4,f_5,f_6,row_7,n_8)=>
   if (decide (0<n_8))=true then
    (ZNF ({ b:=f_4,i:=f_5,h:=f_6 }:ZJ)).bind fun v9=>
    (X3 n_8).bind fun v10=>
    chk ((⟨#[114]⟩:ByteArray).size+v10.size≤9223372036854775807) <|
    chk (row_7.length+1≤1073741824) <|
    some (.inl (v9.2.b,v9.2.i,v9.2.h,(row_7++[({ name:=((⟨#[114]⟩:ByteArray)++v10),priority:=v9.1.priority,cond:=v9.1.cond,thn:=v9.1.thn }:Zg)]),(IntKind.i64.wrap (n_8 - 1))))
   else
    some (.inr (row_7,({ b:=f_4,i:=f_5,h:=f_6 }:ZJ))))
  (cc.b,cc.i,cc.h,row,((k:Nat):Int))=some (R,c')∧R.length≤7∧(∀r∈R,RB r)∧Qu c':=by
  intro k
  induction k with
  | zero=>
   intro cc row hcc hl hr
   exact ⟨row,cc,Z2 rfl,by omega,hr,hcc⟩
  | succ k ih=>
   intro cc row hcc hl hr
   obtain ⟨r,c2,e2,hrk,_,_,hc2⟩:=ZOq hcc
   have hpos:decide (0<(((k+1:Nat)):Int))=true:=decide_eq_true (by omega)
   have hw:IntKind.i64.wrap ((((k+1:Nat)):Int) - 1)=((k:Nat):Int):=by rw [YW (by omega) (by omega)];omega
   have hsz:(ofL (Lib.itoa ((k+1:Nat):Int))).size≤21:=ZtA ⟨by omega,by omega⟩
   refine (Yh (s':=(c2.b,c2.i,c2.h,row++[({ name:=((⟨#[114]⟩:ByteArray)++ofL (Lib.itoa ((k+1:Nat):Int))),priority:=r.priority,cond:=r.cond,thn:=r.thn }:Zg)],((k:Nat):Int))) ?_) ▸ ih c2 _ hc2 (by simp;omega) fun q mq=>?_
   ·simp only[hpos,if_true]
    rw [show ({ b:=cc.b,i:=cc.i,h:=cc.h }:ZJ)=cc from rfl,e2,A0,Zf5 ⟨by omega,by omega⟩,A0,Zh _ (by have:(⟨#[114]⟩:ByteArray).size=1:=rfl;omega),Zh _ (by omega),hw]
   ·rcases A2.1 mq with mq | mq
    ·exact hr q mq
    ·simp at mq;subst mq;exact (hrk.name _ _).rb
 have e5:n=((n.toNat:Nat):Int):=by omega
 have:=key n.toNat c1 [] hc (by simp;omega) (fun y hy=>by simp at hy)
 rw [←e5] at this
 exact this
theorem ZOZ {c:ZJ} (h:Qu c):∃R c',ZNM c=some (R,c')∧R.length≤20∧(∀r∈R,RB r)∧Qu c':=by
 unfold ZNM
 obtain ⟨R,c1,e1,r1,r2,h1⟩:=ZPa h (m:=3) (by omega) (by omega)
 obtain ⟨k,c2,e2,k0,k1,h2⟩:=ZdR h1 (n:=10) (by omega) (by omega)
 rw [e1,A0,e2,A0]
 split
 ·obtain ⟨r,c3,e3,q1,q2,q3,q4,h3⟩:=ZO8 h2
  refine ⟨R++[r],c3,by rw [e3,A0,Zh _ (by show R.length+1≤_;omega)],by simp;omega,fun y my=>?_,h3⟩
  rcases A2.1 my with my | my
  ·exact r2 y my
  ·simp at my;subst my;exact ⟨q1,q2,q3,q4⟩
 split
 ·obtain ⟨n,c3,e3,hn,h3⟩:=ZNA h2 (l:=[6,7]) (by simp) (by simp)
  rw [e3,A0]
  have n67:n≤7:=by simp at hn;omega
  have key:∀(m j:Nat) (cc:ZJ) (row:List Zg),20 - row.length≤m→j≤row.length→Qu cc→row.length≤20→(∀r∈row,RB r)→∃R c',iter (σ:=(List Int) × Int × Int × (List Zg) × Int)
    (fun s=>
     match s with
     | (f_7,f_8,f_9,row_10,i_11)=>
     if (decide (((row_10.length:Nat):Int)<n))=true then
      (ZNn ({ b:=f_7,i:=f_8,h:=f_9 }:ZJ) 6).bind fun v12=>
      (X3 i_11).bind fun v13=>
      chk ((⟨#[107]⟩:ByteArray).size+v13.size≤9223372036854775807) <|
      chk (row_10.length+1≤1073741824) <|
      some (.inl (v12.2.b,v12.2.i,v12.2.h,(row_10++[({ name:=((⟨#[107]⟩:ByteArray)++v13),priority:=v12.1.priority,cond:=v12.1.cond,thn:=v12.1.thn }:Zg)]),(IntKind.i64.wrap (i_11+1))))
     else
      some (.inr (row_10,({ b:=f_7,i:=f_8,h:=f_9 }:ZJ))))
    (cc.b,cc.i,cc.h,row,((j:Nat):Int))=some (R,c')∧R.length≤20∧(∀r∈R,RB r)∧Qu c':=by
   intro m
   induction m with
   | zero=>
    intro j cc row hm hj hcc hl hr
    refine ⟨row,cc,Z2 ?_,hl,hr,hcc⟩
    simp only
    rw [if_neg (by simp;omega)]
   | succ m ih=>
    intro j cc row hm hj hcc hl hr
    by_cases hlt:((row.length:Nat):Int)<n
    ·obtain ⟨r,c4,e4,hrs,_,_,h4⟩:=ZNX hcc (m:=6) (by omega)
     have hw:IntKind.i64.wrap (((j:Nat):Int)+1)=((j+1:Nat):Int):=by rw [YW (by omega) (by omega)];omega
     have hsz:(ofL (Lib.itoa ((j:Nat):Int))).size≤21:=ZtA ⟨by omega,by omega⟩
     refine (Yh (s':=(c4.b,c4.i,c4.h,row++[({ name:=((⟨#[107]⟩:ByteArray)++ofL (Lib.itoa ((j:Nat):Int))),priority:=r.priority,cond:=r.cond,thn:=r.thn }:Zg)],((j+1:Nat):Int))) ?_) ▸ ih (j+1) c4 _ (by simp;omega) (by simp;omega) h4 (by simp;omega) fun q mq=>?_
     ·simp only
      rw [if_pos (by simpa using hlt),show ({ b:=cc.b,i:=cc.i,h:=cc.h }:ZJ)=cc from rfl,e4,A0,Zf5 ⟨by omega,by omega⟩,A0,Zh _ (by have:(⟨#[107]⟩:ByteArray).size=1:=rfl;omega),Zh _ (by omega),hw]
     ·rcases A2.1 mq with mq | mq
      ·exact hr q mq
      ·simp at mq;subst mq;exact (hrs.name _ _).rb
    ·refine ⟨row,cc,Z2 ?_,hl,hr,hcc⟩
     simp only
     rw [if_neg (by simpa using hlt)]
  exact key 20 0 c3 R (by omega) (by omega) h3 (by omega) r2
 ·exact ⟨R,c2,rfl,by omega,r2,h2⟩
theorem ZOk {f:Zb}:∀{l:List Zb},f∉l→(Zd6 l f).length=l.length+1
 | [],_=>rfl
 | x::l,h=>by
  unfold Zd6
  split
  ·rw [AY,ZOk fun m=>h (by simp [m]),AY]
  ·split
   ·rename_i h0
    exact absurd ((ZcQ.eq x f).1 h0) fun e=>h (by simp [e])
   ·simp
def ZOf (k:Nat):Zb:={ rel:=⟨#[110]⟩,args:=[ofL (Lib.itoa ((k:Nat):Int))] }
theorem ZPe {a b:List UInt8} (h:ofL a=ofL b):a=b:=by
 have:=congrArg toL h
 simpa [toL,ofL] using this
theorem ZO4 {j k:Nat} (hj:j<25) (hk:k<25) (h:ZOf j=ZOf k):j=k:=by
 have h1:ofL (Lib.itoa ((j:Nat):Int))=ofL (Lib.itoa ((k:Nat):Int)):=by
  have:=congrArg Zb.args h
  simpa [ZOf] using this
 have h2:=ZPe h1
 rw [Lib.itoa_nonneg,Lib.itoa_nonneg] at h2
 have one:∀a b:Nat,a<200→b<200→AT a=AT b→a=b:=fun a b ha hb e=>by
  have:=congrArg UInt8.toNat e
  simp only[UInt8.toNat_ofNat'] at this
  omega
 by_cases a:j<10<;>by_cases b:k<10
 ·rw [Lib.decDigits_one a,Lib.decDigits_one b] at h2
  have:=one _ _ (by omega) (by omega) (Ag h2).1
  omega
 ·rw [Lib.decDigits_one a,Lib.decDigits_two b (by omega)] at h2
  simp at h2
 ·rw [Lib.decDigits_two a (by omega),Lib.decDigits_one b] at h2
  simp at h2
 ·rw [Lib.decDigits_two a (by omega),Lib.decDigits_two b (by omega)] at h2
  obtain ⟨e1,e2⟩:=Ag h2
  have q1:=one _ _ (by omega) (by omega) e1
  have q2:=one _ _ (by omega) (by omega) (Ag e2).1
  omega
theorem ZO5 {c:ZJ} (h:Qu c) {m:Int} (h0:0≤m) (h7:m≤7):∃l c',ZNZ c m=some (l,c')∧l.length≤7∧(∀f∈l,f.args.length≤2∧f.rel≠⟨#[110]⟩)∧Qu c':=by
 unfold ZNZ
 have hw:IntKind.i64.wrap (m+1)=m+1:=YW (by omega) (by omega)
 rw [hw]
 obtain ⟨n,c1,e,n0,n1,hc⟩:=ZdR h (n:=m+1) (by omega) (by omega)
 rw [e,A0]
 have key:∀(k:Nat) (cc:ZJ) (row:List Zb),Qu cc→row.length+k≤7→(∀f∈row,f.args.length≤2∧f.rel≠⟨#[110]⟩)→∃l c',iter (σ:=(List Int) × Int × Int × (List Zb) × Int)
  (fun s=>
   match s with
   | (f_4,f_5,f_6,row_7,n_8)=>
   if (decide (0<n_8))=true then
    (ZGF ({ b:=f_4,i:=f_5,h:=f_6 }:ZJ)).bind fun v9=>
    (YX row_7 v9.1).bind fun v10=>
    some (.inl (v9.2.b,v9.2.i,v9.2.h,v10,(IntKind.i64.wrap (n_8 - 1))))
   else
    some (.inr (row_7,({ b:=f_4,i:=f_5,h:=f_6 }:ZJ))))
  (cc.b,cc.i,cc.h,row,((k:Nat):Int))=some (l,c')∧l.length≤7∧(∀f∈l,f.args.length≤2∧f.rel≠⟨#[110]⟩)∧Qu c':=by
  intro k
  induction k with
  | zero=>
   intro cc row hcc hl hr
   exact ⟨row,cc,Z2 rfl,by omega,hr,hcc⟩
  | succ k ih=>
   intro cc row hcc hl hr
   obtain ⟨f,c2,e2,hf,hf2,hc2⟩:=ZI1 hcc
   have hpos:decide (0<(((k+1:Nat)):Int))=true:=decide_eq_true (by omega)
   have hw:IntKind.i64.wrap ((((k+1:Nat)):Int) - 1)=((k:Nat):Int):=by rw [YW (by omega) (by omega)];omega
   have hil:=Zmb f row
   refine (Yh (s':=(c2.b,c2.i,c2.h,Zd6 row f,((k:Nat):Int))) ?_) ▸ ih c2 _ hc2 (by omega) fun q mq=>?_
   ·simp only[hpos,if_true]
    rw [show ({ b:=cc.b,i:=cc.i,h:=cc.h }:ZJ)=cc from rfl,e2,A0,ZlP row f (by omega) (fun x mx=>by have:=(hr x mx).1;omega) (by omega),A0,hw]
   ·rcases QP.1 mq with rfl | mq
    ·exact ⟨hf,hf2⟩
    ·exact hr q mq
 have e5:n=((n.toNat:Nat):Int):=by omega
 have:=key n.toNat c1 [] hc (by simp;omega) (fun y hy=>by simp at hy)
 rw [←e5] at this
 exact this
theorem ZOV {c:ZJ} (h:Qu c):∃l c',ZNQ c=some (l,c')∧l.length≤50∧(∀f∈l,f.args.length≤4)∧Qu c':=by
 unfold ZNQ
 obtain ⟨l,c1,e1,l1,l2,h1⟩:=ZO5 h (m:=6) (by omega) (by omega)
 obtain ⟨k,c2,e2,k0,k1,h2⟩:=ZdR h1 (n:=8) (by omega) (by omega)
 rw [e1,A0,e2,A0]
 split
 ·obtain ⟨f,c3,e3,q,h3⟩:=ZIB h2
  refine ⟨l++[f],c3,by rw [e3,A0,Zh _ (by show l.length+1≤_;omega)],by simp;omega,fun y my=>?_,h3⟩
  rcases A2.1 my with my | my
  ·have:=(l2 y my).1;omega
  ·simp at my;subst my;exact q
 split
 ·have key:∀(m k:Nat) (row:List Zb),k+m=25→k≤row.length→row.length≤7+k→(∀f∈row,f.args.length≤4∧(f.rel≠⟨#[110]⟩∨∃j,j<k∧f=ZOf j))→∃l' c',iter (σ:=(List Zb) × Int)
    (fun s=>
     match s with
     | (row_6,i_7)=>
     if (decide (i_7<25))=true then
      (X3 i_7).bind fun v8=>
      (YX row_6 ({ rel:=(⟨#[110]⟩),args:=[v8] }:Zb)).bind fun v9=>
      some (.inl (v9,(IntKind.i64.wrap (i_7+1))))
     else
      (ZNq c2 [23,24,25]).bind fun v10=>
      chk (0≤v10.1∧v10.1≤((row_6.length:Nat):Int)) <|
      some (.inr ((List.drop 0 (List.take (A1 v10.1) row_6)),v10.2)))
    (row,((k:Nat):Int))=some (l',c')∧l'.length≤50∧(∀f∈l',f.args.length≤4)∧Qu c':=by
   intro m
   induction m with
   | zero=>
    intro k row hk h1 h3 hr
    obtain ⟨x,c3,e3,hx,h4⟩:=ZNA h2 (l:=[23,24,25]) (by simp) (by simp)
    have hx2:0≤x∧x≤25:=by simp at hx;omega
    refine ⟨(row.take x.toNat).drop 0,c3,Z2 ?_,by rw [List.drop_zero,List.length_take];omega,fun f mf=>(hr f (AZ (AO mf))).1,h4⟩
    simp only
    rw [if_neg (by simp;omega),e3,A0,Zh _ (by show 0≤x∧x≤_;omega)]
   | succ m ih=>
    intro k row hk h1 h3 hr
    have hw:IntKind.i64.wrap (((k:Nat):Int)+1)=((k+1:Nat):Int):=by rw [YW (by omega) (by omega)];omega
    have hnew:ZOf k∉row:=fun mk=>by
     rcases (hr _ mk).2 with hn | ⟨j,hj,e⟩
     ·exact hn rfl
     ·have:=ZO4 (by omega) (by omega) e;omega
    have hil:=ZOk hnew
    refine (Yh (s':=(Zd6 row (ZOf k),((k+1:Nat):Int))) ?_) ▸ ih (k+1) (Zd6 row (ZOf k)) (by omega) (by omega) (by omega) fun q mq=>?_
    ·simp only
     rw [if_pos (by simp;omega),Zf5 ⟨by omega,by omega⟩,A0,show ({ rel:=(⟨#[110]⟩),args:=[ofL (Lib.itoa ((k:Nat):Int))] }:Zb)=ZOf k from rfl,ZlP row (ZOf k) (by omega) (fun x mx=>by have:=(hr x mx).1;omega) (by simp [ZOf]),A0,hw]
    ·rcases QP.1 mq with rfl | mq
     ·exact ⟨by simp [ZOf],.inr ⟨k,by omega,rfl⟩⟩
     ·obtain ⟨a1,a2⟩:=hr q mq
      refine ⟨a1,?_⟩
      rcases a2 with a2 | ⟨j,hj,e⟩
      ·exact .inl a2
      ·exact .inr ⟨j,by omega,e⟩
  exact key 25 0 l rfl (by omega) (by omega) fun f mf=>⟨by have:=(l2 f mf).1;omega,.inl (l2 f mf).2⟩
 ·exact ⟨l,c2,rfl,by omega,fun f mf=>by have:=(l2 f mf).1;omega,h2⟩
structure DrB (R:List Zg) (l:List Zb):Prop where
 rl:R.length≤20
 r:∀r∈R,RB r
 ll:l.length≤50
 a:∀f∈l,f.args.length≤4
theorem ZOK {c:ZJ} (h:Qu c):∃R l c',ZNH c=some (R,l,c')∧DrB R l∧Qu c':=by
 unfold ZNH
 obtain ⟨R,c1,e1,r1,r2,h1⟩:=ZqN h true
 obtain ⟨l,c2,e2,b1,b2,h2⟩:=Zsf h1 (m:=5) (by omega) (by omega)
 obtain ⟨k,c3,e3,k0,k1,h3⟩:=ZdR h2 (n:=12) (by omega) (by omega)
 rw [e1,A0,e2,A0,e3,A0]
 have rb:∀r∈R,RB r:=fun r mr=>(r2 r mr).rs.rb
 have la:∀f∈l,f.args.length≤4:=fun f mf=>by have:=b2 f mf;omega
 split
 ·obtain ⟨Q,c4,e4,q1,q2,h4⟩:=ZOZ h3
  exact ⟨Q,l,c4,by rw [e4];rfl,⟨q1,q2,by omega,la⟩,h4⟩
 split
 ·obtain ⟨m,c4,e4,q1,q2,h4⟩:=ZOV h3
  exact ⟨R,m,c4,by rw [e4];rfl,⟨by omega,rb,q1,q2⟩,h4⟩
 ·exact ⟨R,l,c3,rfl,⟨by omega,rb,by omega,la⟩,h3⟩
theorem DrB.small {R:List Zg} {l:List Zb} (h:DrB R l):Zbc R:=ZO7 (by have:=h.rl;omega) h.r
theorem ZPd {R:List Zg} {base:List Zb} {x:List Zb × Bool} (h:x=([],false)∨(Z6 R&&R.all (Y4 R))=true∧Z3 base=true∧Res R base x):∀f∈x.1,f.args.length≤3:=by
 rcases h with rfl | ⟨_,_,hr⟩
 ·simp
 ·rcases hr with ⟨_,hg,_,_⟩ | ⟨_,e,_⟩
  ·exact fun f mf=>YY (hg.ok f mf)
  ·rw [e];simp
theorem ZOR {c:ZJ} (h:Qu c):∃R l f c',ZNI c=some (R,l,f,c')∧DrB R l∧f.args.length≤4∧Qu c':=by
 unfold ZNI
 obtain ⟨R,l,c1,e1,hD,h1⟩:=ZOK h
 obtain ⟨x,p1,p2,p3⟩:=Zij hD.small l (by have:=hD.ll;omega)
 have hx:=ZJq p3
 rw [e1]
 simp only[A0]
 rw [p1,A0]
 split
 ·rename_i hpos
  obtain ⟨o,c6,e6,h6⟩:=ZH1 h1 (n:=4) (by omega) (by omega)
  rw [e6,A0]
  split
  ·obtain ⟨f,c7,e7,q,h7⟩:=ZIB h6
   exact ⟨R,l,f,c7,by rw [e7];rfl,hD,q,h7⟩
  ·have hpos':0<x.1.length:=by simpa using hpos
   obtain ⟨i,c7,e7,i0,i1,h7⟩:=ZdR h6 (n:=((x.1.length:Nat):Int)) (by omega) (by omega)
   have hi:i.toNat<x.1.length:=by omega
   exact ⟨R,l,x.1[i.toNat],c7,by rw [e7,A0,Zh _ ⟨i0,i1⟩,A3 hi];rfl,hD,by have:=ZPd p3 _ (AG hi);omega,h7⟩
 ·obtain ⟨f,c7,e7,q,h7⟩:=ZIB h1
  exact ⟨R,l,f,c7,by rw [e7];rfl,hD,q,h7⟩
theorem ZNU (code:List Int) (h:code.length≤4096):∃R l f,ZNm code=some (R,l,f)∧DrB R l:=by
 unfold ZNm
 obtain ⟨c,e0,h0⟩:=ZvF code h
 obtain ⟨R,l,f,c1,e1,hD,_,h1⟩:=ZOR h0
 rw [e0,A0,e1]
 simp only[A0]
 split
 ·rename_i hpos
  obtain ⟨o,c6,e6,h6⟩:=ZH1 h1 (n:=4) (by omega) (by omega)
  rw [e6,A0]
  split
  ·exact ⟨R,l,f,rfl,hD⟩
  ·have hpos':0<l.length:=by simpa using hpos
   have hl:=hD.ll
   obtain ⟨i,c7,e7,i0,i1,h7⟩:=ZdR h6 (n:=((l.length:Nat):Int)) (by omega) (by omega)
   have hi:i.toNat<l.length:=by omega
   have ha:=hD.a _ (AG hi)
   exact ⟨R,l,l[i.toNat],by rw [e7,A0,show atI l i=some l[i.toNat] by unfold atI;rw [if_pos i0,A3 hi],A0,Xb _ (by omega)];rfl,hD⟩
 ·exact ⟨R,l,f,rfl,hD⟩
open Classical
theorem ZOs {l:List Zb} (hn:l.Nodup) {k:Nat} {f:Zb} (hk:l[k]?=some f):l.filter (fun x=>decide (x≠f))=l.eraseIdx k:=by
 obtain ⟨s1,s2⟩:=ZON hn hk
 obtain ⟨hj,ej⟩:=A6.1 hk
 rw [List.eraseIdx_eq_take_drop_succ]
 have e:l=l.take k++f::l.drop (k+1):=by
  rw [←ej,As,At]
 generalize l.take k=a at *
 generalize l.drop (k+1)=b at *
 subst e
 have one:∀q:List Zb,f∉q→q.filter (fun x=>decide (x≠f))=q:=fun q hq=>List.filter_eq_self.2 fun x mx=>decide_eq_true fun e=>hq (e ▸ mx)
 rw [List.filter_append,List.filter_cons,if_neg (by simp),one a fun m=>s2 (A2.2 (.inl m)),one b fun m=>s2 (A2.2 (.inr m))]
theorem ZNL (code:List Int):ZNp code=some true:=by
 unfold ZNp
 rw [Zwr,A0]
 split
 ·rfl
 rename_i hb
 obtain ⟨R,base,f,e1,hD⟩:=ZNU code (ZtJ hb)
 have hR:=hD.small
 have hbl:=hD.ll
 rw [e1]
 simp only[A0]
 obtain ⟨F,b,ok,g1,g2,h3⟩:=Zh9 hR base (by omega)
 obtain ⟨M,ok2,w1,w2,hM⟩:=ZNY hR base (by omega) f
 rw [w2]
 simp only[A0]
 rw [w1]
 simp only[A0]
 rw [if_pos (by simp)]
 cases ok2 with
 | false=>rfl
 | true=>
  rw [if_pos rfl]
  have hw:=w1
  unfold ZNo at hw
  rw [g2,A0,Zb5,A0] at hw
  rcases h3 with ⟨rfl,rfl,rfl⟩ | ⟨rfl,hG,rfl,h60⟩
  ·simp at hw
  ·simp only[if_true] at hw
   have hmem:f∈base:=by
    by_cases hn:f∈base
    ·exact hn
    ·rw [if_pos (by rw [decide_eq_true_iff,Zjv];exact hn)] at hw
     simp at hw
   obtain ⟨k,k1,k2⟩:=Q6 hmem
   have hkl:=(A6.1 k2).1
   have hnd:base.Nodup:=ZdT (ZcT hG.facts)
   obtain ⟨m1,m2⟩:=ZOe hR hG h60 hkl
   rw [ZFq hG.facts hmem]
   simp only[A0]
   rw [ZOs hnd k2,m2]
   simp only[A0,if_true]
   rw [if_neg (by rw [decide_eq_true_iff,Zjv];exact fun hn=>hn hmem),k1] at hw
   have hB:=Q4.of hG h60
   rw [ZOU hB,A0,Zvi (hB.drop _) hG.args rfl,A0] at hw
   obtain rfl:=(Prod.mk.inj (AU hw)).1
   rw [ZFl]
   rfl
end
section
open Go.RowKit
def ZL {α β:Type} (R:α→β→Prop):List α→List β→Prop
 | [],[]=>True
 | a::l,b::r=>R a b∧ZL R l r
 | _,_=>False
section
variable {α β:Type} {R R':α→β→Prop}
theorem ZL.len:∀{l:List α} {r:List β},ZL R l r→l.length=r.length
 | [],[],_=>rfl
 | _::_,_::_,h=>by simp [h.2.len]
 | [],_::_,h=>h.elim
 | _::_,[],h=>h.elim
theorem ZL.mono:∀{l:List α} {r:List β},ZL R l r→(∀a b,a∈l→R a b→R' a b)→ZL R' l r
 | [],[],_,_=>trivial
 | _::_,_::_,h,f=>⟨f _ _ (by simp) h.1,h.2.mono fun a b m=>f a b (by simp [m])⟩
 | [],_::_,h,_=>h.elim
 | _::_,[],h,_=>h.elim
theorem ZL.at:∀{l:List α} {r:List β} {i:Nat} {a:α},ZL R l r→l[i]?=some a→∃b,r[i]?=some b∧R a b
 | [],[],_,_,_,h=>by simp at h
 | _::_,b::_,0,_,h,e=>by simp at e;subst e;exact ⟨b,by simp,h.1⟩
 | _::_,_::_,i+1,a,h,e=>by
  obtain ⟨b,h1,h2⟩:=h.2.at (i:=i) (a:=a) (by simpa using e)
  exact ⟨b,by simpa using h1,h2⟩
 | [],_::_,_,_,h,_=>h.elim
 | _::_,[],_,_,h,_=>h.elim
theorem ZL.set:∀{l:List α} {r:List β} {i:Nat} {a:α} {b:β},ZL R l r→R a b→ZL R (l.set i a) (r.set i b)
 | [],[],_,_,_,_,_=>trivial
 | _::_,_::_,0,_,_,h,e=>⟨e,h.2⟩
 | _::_,_::_,_+1,_,_,h,e=>⟨h.1,h.2.set e⟩
 | [],_::_,_,_,_,h,_=>h.elim
 | _::_,[],_,_,_,h,_=>h.elim
theorem ZL.drop:∀{l:List α} {r:List β} (n:Nat),ZL R l r→ZL R (l.drop n) (r.drop n)
 | _,_,0,h=>by simpa using h
 | [],[],n+1,_=>by simp [ZL]
 | _::_,_::_,n+1,h=>by simpa using h.2.drop n
 | [],_::_,_+1,h=>h.elim
 | _::_,[],_+1,h=>h.elim
theorem ZL.take:∀{l:List α} {r:List β} (n:Nat),ZL R l r→ZL R (l.take n) (r.take n)
 | _,_,0,h=>by simp [ZL]
 | [],[],n+1,_=>by simp [ZL]
 | _::_,_::_,n+1,h=>by simpa using ⟨h.1,h.2.take n⟩
 | [],_::_,_+1,h=>h.elim
 | _::_,[],_+1,h=>h.elim
theorem ZL.append:∀{l l':List α} {r r':List β},ZL R l r→ZL R l' r'→ZL R (l++l') (r++r')
 | [],_,[],_,_,h=>h
 | _::_,_,_::_,_,h,h'=>⟨h.1,h.2.append h'⟩
 | [],_,_::_,_,h,_=>h.elim
 | _::_,_,[],_,h,_=>h.elim
end
class NW where
 B0:Nat
structure Gh where
 val:Nat→Value
 O:Nat→List Nat
 D:Nat→List Nat
 Z:Nat→Prop
def Gh.own (g:Gh) (b:Nat):Prop:=(∃k,b∈g.O k)∨g.Z b
def Gh.low (g:Gh) (b:Nat):Prop:=g.own b∨∃k,b∈g.D k
structure Qj (g g':Gh) (n:Nat):Prop where
 own:∀b,g'.own b→g.own b∨n≤b
 low:∀b,g'.low b→g.low b∨n≤b
structure Xo (g' g:Gh):Prop where
 own:∀b,g'.own b→g.own b
 low:∀b,g'.low b→g.low b
theorem Qj.refl (g:Gh) (n:Nat):Qj g g n:=⟨fun _ h=>.inl h,fun _ h=>.inl h⟩
theorem Xo.refl (g:Gh):Xo g g:=⟨fun _ h=>h,fun _ h=>h⟩
theorem Xo.trans {a b c:Gh} (h:Xo a b) (k:Xo b c):Xo a c:=⟨fun x hx=>k.own x (h.own x hx),fun x hx=>k.low x (h.low x hx)⟩
theorem Xo.grow {g' g:Gh} (h:Xo g' g) (n:Nat):Qj g g' n:=⟨fun x hx=>.inl (h.own x hx),fun x hx=>.inl (h.low x hx)⟩
theorem Xo.of {g' g:Gh} (h:∀b,g'.own b→g.own b) (k:∀j b,b∈g'.D j→∃i,b∈g.D i):Xo g' g:=⟨h,fun x hx=>hx.imp (h x) fun ⟨j,mj⟩=>k j x mj⟩
theorem Qj.of {g g':Gh} {n:Nat} (h:∀b,g'.own b→g.own b∨n≤b) (k:∀j b,b∈g'.D j→g.low b∨n≤b):Qj g g' n:=⟨h,fun x hx=>by
 rcases hx with hx | ⟨j,mj⟩
 ·exact (h x hx).imp (fun q=>.inl q) id
 ·exact k j x mj⟩
structure Zaa extends World where
 z:Nat→Prop
 x:Nat→Prop
 hv:Option Value
structure Bel (W:Zaa) (w:World):Prop where
 os:w.os=W.os
 tape:w.tape=W.tape
 output:w.output=W.output
 size:W.heap.size≤w.heap.size
 block:∀k,k<W.heap.size→¬W.x k→w.heap[k]?=W.heap[k]?
theorem Bel.trans {W:Zaa} {w w':World} (h:Bel W w) (k:Below w.heap.size w w'):Bel W w':=
 ⟨k.os.trans h.os,k.tape.trans h.tape,k.output.trans h.output,Ad h.size k.size,fun i hi hx=>(k.block i (Nat.lt_of_lt_of_le hi h.size)).trans (h.block i hi hx)⟩
def NR [NW] (g:Gh) (w:World) (x:CT) (v:Value):Prop:=
 ∃e m xs cs L,x=.sl e m xs∧0<m∧w.ownsV 0 e m v xs.length cs∧REs w m xs cs L∧(v.ownBlock.toList++L).Nodup∧∀b∈v.ownBlock.toList++L,¬g.low b∧NW.B0≤b∧∃cur t,w.heap[b]?=some (.cells cur t (0,0))
def AVR [NW] (g:Gh) (w:World):AV→Value→Prop
 | .c x,v=>∃L,RC w x v L∧∀b∈L,¬g.own b
 | .n x,v=>NR g w x v
 | .row k,v=>v=g.val k∧v.oneCell'=true
 | .nil _ _,v=>v=.slice none 0 0
 | .dead,v=>v.oneCell'=true
def PVR [NW] (g:Gh) (w:World):Bool→List AV→Value→Prop
 | true,cs,v=>∃vs:List Value,v=.agg vs.toArray∧ZL (AVR g w) cs vs
 | false,cs,v=>∃x,cs=[x]∧AVR g w x v
def SVR [NW] (g:Gh) (w:World):SV→Value→Prop
 | .any,_=>True
 | .und,v=>v=undef
 | .p a cs,v=>PVR g w a cs v
 | .tup xs,v=>∃vs:List Value,v=.tuple vs.toArray∧ZL (fun x u=>PVR g w x.1 x.2 u) xs vs
 | .bp k off,v=>∃b,g.val k=.pointer (some ⟨b,0,none⟩)∧v=.pointer (some ⟨b,off,none⟩)
 | .rp k m i off,v=>∃b o n c,g.val k=.slice (some ⟨b,o,none⟩) n c∧v=.pointer (some ⟨b,o+(i * m+off),none⟩)
 | .ep e off,v=>∃b lo cs L,v=.pointer (some ⟨b,lo+off,none⟩)∧Qw w b lo cs∧RCs w e cs L∧(∀x∈b::L,¬g.own x)∧b<w.heap.size
 | .fn f,v=>v=.func (.func f) #[] #[]
def ObR [NW] (g:Gh) (w:World) (k:Nat):Ob→Prop
 | .gone=>g.O k=[]∧g.D k=[]
 | .box t cs=>∃b vs,g.val k=.pointer (some ⟨b,0,none⟩)∧g.O k=[b]∧g.D k=[]∧w.heap[b]?=some (.cells vs.toArray t (0,0))∧ZL (AVR g w) cs vs
 | .row e m xs d=>0<m∧∃cs L,w.ownsV 0 e m (g.val k) xs.length cs∧REs w m xs cs L∧((d=2∧g.O k=(g.val k).ownBlock.toList∧g.D k=L)∨(d=1∧g.O k=(g.val k).ownBlock.toList∧g.D k=[]∧∀b∈L,¬g.own b)∨(d=0∧g.O k=[]∧g.D k=[]∧∀b∈(g.val k).ownBlock.toList++L,¬g.own b))
 | .map kk vk kv=>∃b es c,g.val k=.map (some b)∧g.O k=[b]∧g.D k=[]∧w.heap[b]?=some (.map es c)∧Zc7 es=kv∧Zix kk vk kv
def Xx (w:World) (o:Ob) (b:Nat):Prop:=
 match o with
 | .map _ _ _=>∃es c,w.heap[b]?=some (.map es c)
 | _=>∃cur e,w.heap[b]?=some (.cells cur e (0,0))
theorem Xx.lt {w:World} {o:Ob} {b:Nat} (h:Xx w o b):b<w.heap.size:=by
 unfold Xx at h
 split at h
 ·obtain ⟨_,_,h⟩:=h;exact (Ah.1 h).1
 ·obtain ⟨_,_,h⟩:=h;exact (Ah.1 h).1
theorem Xx.keep {w w':World} {o:Ob} {b:Nat} (h:Xx w o b) (e:w'.heap[b]?=w.heap[b]?):Xx w' o b:=by
 unfold Xx at h ⊢
 rw [e];exact h
def Zjf:Ob→Bool
 | .map _ _ _=>true
 | _=>false
theorem Xx.of {w:World} {o o':Ob} {b:Nat} (h:Xx w o b) (e:Zjf o'=Zjf o):Xx w o' b:=by
 cases o<;>cases o'<;>simp [Zjf] at e<;>exact h
structure HI [NW] (W:Zaa) (g:Gh) (ob:Nat→Ob) (w:World):Prop where
 below:Bel W w
 obs:∀k,ObR g w k (ob k)
 nodup:∀k,(g.O k++g.D k).Nodup
 apart:∀k j,k≠j→∀b∈g.O k++g.D k,b∉g.O j++g.D j
 plain:∀k,∀b∈g.O k++g.D k,(W.heap.size≤b∨W.x b)∧Xx w (ob k) b
 gz:g.Z=W.z
 zx:∀b,W.z b→b<W.heap.size∧¬W.x b
 nw:∀b,(W.heap.size≤b∨W.x b)→NW.B0≤b
def avU (U:Nat→Prop):AV→Prop
 | .row k=>U k
 | _=>True
def Qn (U:Nat→Prop) (cs:List AV):Prop:=∀x∈cs,avU U x
def svU (U:Nat→Prop):SV→Prop
 | .p _ cs=>Qn U cs
 | .tup xs=>∀x∈xs,Qn U x.2
 | .bp k _=>U k
 | .rp k _ _ _=>U k
 | _=>True
def obU (U:Nat→Prop):Ob→Prop
 | .box _ cs=>Qn U cs
 | _=>True
structure StU (U:Nat→Prop) (st:St):Prop where
 sl:∀t,svU U (st.sl t)
 ob:∀k,obU U (st.ob k)
 gone:∀k,¬U k→st.ob k=.gone
theorem HI.lt [NW] {W:Zaa} {g:Gh} {ob:Nat→Ob} {w:World} (h:HI W g ob w) (k:Nat):∀b∈g.O k++g.D k,b<w.heap.size:=by
 intro b m
 exact (h.plain k b m).2.lt
theorem HI.nz [NW] {W:Zaa} {g:Gh} {ob:Nat→Ob} {w:World} (h:HI W g ob w) {k b:Nat} (m:b∈g.O k++g.D k):¬g.Z b:=fun hz=>by
 rw [h.gz] at hz
 obtain ⟨h1,h2⟩:=h.zx b hz
 rcases (h.plain k b m).1 with h3 | h3
 ·omega
 ·exact h2 h3
section
variable {g g':Gh} {w w':World} {U:Nat→Prop}
theorem NR.move [NW] {x:CT} {v:Value} (h:NR g w x v)
  (hw:∀b,b<w.heap.size→¬g.own b→w'.heap[b]?=w.heap[b]?) (ho:Qj g g' w.heap.size):NR g' w' x v:=by
 obtain ⟨e,m,xs,cs,L,h1,h2,h3,h4,h5,h6⟩:=h
 have hlt:∀b∈v.ownBlock.toList++L,b<w.heap.size:=fun b mb=>by
  obtain ⟨_,_,_,_,q⟩:=h6 b mb
  exact (Ah.1 q).1
 have hs:∀b∈v.ownBlock.toList++L,w'.heap[b]?=w.heap[b]?:=fun b mb=>hw b (hlt b mb) fun o=>(h6 b mb).1 (.inl o)
 refine ⟨e,m,xs,cs,L,h1,h2,Zh7 h3 fun b mb=>hs b (by simp [mb]),h4.keep fun b mb=>hs b (by simp [mb]),h5,fun b mb=>⟨fun o=>?_,(h6 b mb).2.1,by rw [hs b mb];exact (h6 b mb).2.2⟩⟩
 rcases ho.low b o with o | o
 ·exact (h6 b mb).1 o
 ·have:=hlt b mb;omega
theorem AVR.move [NW] {x:AV} {v:Value} (h:AVR g w x v) (hx:avU U x) (hv:∀k,U k→g'.val k=g.val k)
  (hw:∀b,b<w.heap.size→¬g.own b→w'.heap[b]?=w.heap[b]?) (ho:Qj g g' w.heap.size):AVR g' w' x v:=by
 cases x with
 | c x=>
  obtain ⟨L,h1,h2⟩:=h
  have hlt:=h1.lt
  refine ⟨L,h1.keep fun b m=>hw b (hlt b m) (h2 b m),fun b m o=>?_⟩
  rcases ho.own b o with o | o
  ·exact h2 b m o
  ·have:=hlt b m;omega
 | n x=>exact NR.move h hw ho
 | row k=>exact ⟨h.1.trans (hv k hx).symm,h.2⟩
 | nil e m=>exact h
 | dead=>exact h
theorem AVRs.move [NW] {cs:List AV} {vs:List Value} (h:ZL (AVR g w) cs vs) (hx:Qn U cs) (hv:∀k,U k→g'.val k=g.val k)
  (hw:∀b,b<w.heap.size→¬g.own b→w'.heap[b]?=w.heap[b]?) (ho:Qj g g' w.heap.size):ZL (AVR g' w') cs vs:=
 h.mono fun a _ m r=>r.move (hx a m) hv hw ho
theorem PVR.move [NW] {a:Bool} {cs:List AV} {v:Value} (h:PVR g w a cs v) (hx:Qn U cs) (hv:∀k,U k→g'.val k=g.val k)
  (hw:∀b,b<w.heap.size→¬g.own b→w'.heap[b]?=w.heap[b]?) (ho:Qj g g' w.heap.size):PVR g' w' a cs v:=by
 cases a with
 | true=>obtain ⟨vs,h1,h2⟩:=h;exact ⟨vs,h1,AVRs.move h2 hx hv hw ho⟩
 | false=>obtain ⟨x,h1,h2⟩:=h;exact ⟨x,h1,h2.move (hx x (by simp [h1])) hv hw ho⟩
theorem SVR.move [NW] {s:SV} {v:Value} (h:SVR g w s v) (hx:svU U s) (hv:∀k,U k→g'.val k=g.val k)
  (hw:∀b,b<w.heap.size→¬g.own b→w'.heap[b]?=w.heap[b]?) (ho:Qj g g' w.heap.size) (hs:w.heap.size≤w'.heap.size):SVR g' w' s v:=by
 cases s with
 | any=>exact h
 | und=>exact h
 | p a cs=>exact PVR.move h hx hv hw ho
 | tup xs=>
  obtain ⟨vs,h1,h2⟩:=h
  exact ⟨vs,h1,h2.mono fun x _ m r=>r.move (hx x m) hv hw ho⟩
 | bp k off=>obtain ⟨b,h1,h2⟩:=h;exact ⟨b,(hv k hx).trans h1,h2⟩
 | rp k m i off=>obtain ⟨b,o,n,c,h1,h2⟩:=h;exact ⟨b,o,n,c,(hv k hx).trans h1,h2⟩
 | ep e off=>
  obtain ⟨b,lo,cs,L,h1,h2,h3,h4,h5⟩:=h
  have hlt:=h3.lt
  refine ⟨b,lo,cs,L,h1,fun j u hu=>?_,h3.keep fun x m=>hw x (hlt x m) (h4 x (by simp [m])),fun x m o=>?_,by omega⟩
  ·rw [←h2 j u hu];exact World.cell?_of_block (hw b h5 (h4 b (by simp)))
  ·rcases ho.own x o with o | o
   ·exact h4 x m o
   ·rcases AM.1 m with rfl | m
    ·omega
    ·have:=hlt x m;omega
 | fn f=>exact h
theorem HI.step [NW] {W:Zaa} {ob ob':Nat→Ob} (h:HI W g ob w) (T:Nat→Prop)
  (hbel:Bel W w') (hZ:g'.Z=g.Z)
  (hw:∀b,b<w.heap.size→(∀k,T k→b∉g.O k)→w'.heap[b]?=w.heap[b]?)
  (hk:∀k,¬T k→ob' k=ob k∧g'.val k=g.val k∧g'.O k=g.O k∧g'.D k=g.D k)
  (hobU:∀k,obU U (ob k)) (hv:∀k,U k→g'.val k=g.val k)
  (ho:Qj g g' w.heap.size)
  (hT:∀k,T k→ObR g' w' k (ob' k)∧(g'.O k++g'.D k).Nodup∧(∀b∈g'.O k++g'.D k,(W.heap.size≤b∨W.x b)∧Xx w' (ob' k) b)∧∀j,k≠j→∀b∈g'.O k++g'.D k,b∉g'.O j++g'.D j):
  HI W g' ob' w':=by
 have hw':∀b,b<w.heap.size→¬g.own b→w'.heap[b]?=w.heap[b]?:=fun b hb hn=>hw b hb fun k _ m=>hn (.inl ⟨k,m⟩)
 have hkeepF:∀k,¬T k→∀b∈g.O k++g.D k,w'.heap[b]?=w.heap[b]?:=fun k hk b m=>
  hw b (h.lt k b m) fun j hj mj=>h.apart j k (fun e=>hk (e ▸ hj)) b (by simp [mj]) m
 refine ⟨hbel,fun k=>?_,fun k=>?_,fun k j hkj b m=>?_,fun k b m=>?_,hZ.trans h.gz,h.zx,h.nw⟩
 ·by_cases hTk:T k
  ·exact (hT k hTk).1
  ·obtain ⟨e1,e2,e3,e4⟩:=hk k hTk
   have hob:=h.obs k
   have hF:=hkeepF k hTk
   have hU:=hobU k
   rw [e1]
   cases hok:ob k with
   | gone=>rw [hok] at hob;exact ⟨e3.trans hob.1,e4.trans hob.2⟩
   | box t cs=>
    rw [hok] at hob hU
    obtain ⟨b,vs,h1,h2,h3,h4,h5⟩:=hob
    exact ⟨b,vs,e2.trans h1,e3.trans h2,e4.trans h3,by rw [hF b (by simp [h2])];exact h4,AVRs.move h5 hU hv hw' ho⟩
   | map kk vk kv=>
    rw [hok] at hob
    obtain ⟨b,es,c,h1,h2,h3,h4,h5⟩:=hob
    exact ⟨b,es,c,e2.trans h1,e3.trans h2,e4.trans h3,by rw [hF b (by simp [h2])];exact h4,h5⟩
   | row e m xs d=>
    rw [hok] at hob
    obtain ⟨hm,cs,L,h1,h2,h4⟩:=hob
    have hltL:=h2.lt
    have hL:∀b∈L,w'.heap[b]?=w.heap[b]?:=fun b mb=>by
     rcases h4 with ⟨_,_,h4⟩ | ⟨_,_,_,h4⟩ | ⟨_,_,_,h4⟩
     ·exact hF b (by simp [h4,mb])
     ·exact hw' b (hltL b mb) (h4 b mb)
     ·exact hw' b (hltL b mb) (h4 b (by simp [mb]))
    have hOb:∀b∈(g.val k).ownBlock.toList,w'.heap[b]?=w.heap[b]?:=fun b mb=>by
     rcases h4 with ⟨_,h3,_⟩ | ⟨_,h3,_⟩ | ⟨_,_,_,h4⟩
     ·exact hF b (by simp [h3,mb])
     ·exact hF b (by simp [h3,mb])
     ·exact hw' b (Zr9 h1 b mb) (h4 b (by simp [mb]))
    refine ⟨hm,cs,L,by rw [e2];exact Zh7 h1 hOb,h2.keep hL,?_⟩
    rw [e2,e3,e4]
    have hno:∀b,b<w.heap.size→¬g.own b→¬g'.own b:=fun b hb hn o=>by
     rcases ho.own b o with o | o
     ·exact hn o
     ·omega
    rcases h4 with h4 | ⟨hd,h3,h4,h5⟩ | ⟨hd,h3,h4,h5⟩
    ·exact .inl h4
    ·exact .inr (.inl ⟨hd,h3,h4,fun b mb=>hno b (hltL b mb) (h5 b mb)⟩)
    ·refine .inr (.inr ⟨hd,h3,h4,fun b mb=>?_⟩)
     rcases A2.1 mb with m1 | m1
     ·exact hno b (Zr9 h1 b m1) (h5 b mb)
     ·exact hno b (hltL b m1) (h5 b mb)
 ·by_cases hTk:T k
  ·exact (hT k hTk).2.1
  ·obtain ⟨e1,e2,e3,e4⟩:=hk k hTk
   rw [e3,e4];exact h.nodup k
 ·by_cases hTk:T k
  ·exact (hT k hTk).2.2.2 j hkj b m
  ·by_cases hTj:T j
   ·exact fun mj=>(hT j hTj).2.2.2 k (fun e=>hkj e.symm) b mj m
   ·obtain ⟨_,_,e3,e4⟩:=hk k hTk
    obtain ⟨_,_,f3,f4⟩:=hk j hTj
    rw [e3,e4] at m
    rw [f3,f4]
    exact h.apart k j hkj b m
 ·by_cases hTk:T k
  ·exact (hT k hTk).2.2.1 b m
  ·obtain ⟨_,_,e3,e4⟩:=hk k hTk
   rw [e3,e4] at m
   obtain ⟨p1,p2⟩:=h.plain k b m
   obtain ⟨e1,_⟩:=hk k hTk
   exact ⟨p1,by rw [e1];exact p2.keep (hkeepF k hTk b m)⟩
end
structure Inv [NW] (W:Zaa) (U:Nat→Prop) (st:St) (a:Act) (w:World):Prop where
 ex:∃g,HI W g st.ob w∧∀t,SVR g w (st.sl t) (a.tmps.getD t undef)
 wf:StU U st
 defers:a.defers=[]
 hand:∀v,W.hv=some v→a.tmps.getD 0 undef=v
end
section
open Go.RowKit
def Zai:AV→Value→Bool
 | .c (.int k n),.int k' n'=>k==k'&&n==n'
 | .c (.bool b),.bool b'=>b==b'
 | .c (.str s),.string s'=>s.data.toList==s'.data.toList&&Z9 s
 | .nil _ m,.slice none 0 0=>Nat.blt 0 m
 | _,_=>false
def ZhA:TypeDesc→AV→Bool
 | .int k,.c (.int k' _)=>k==k'
 | .bool,.c (.bool _)=>true
 | .string,.c (.str _)=>true
 | _,_=>false
def ZqC:TypeDesc→Bool
 | .struct _=>true
 | .array _ _=>true
 | _=>false
def ZdO:PK→TypeDesc→Bool
 | .int k,.int k'=>k==k'
 | .str,.string=>true
 | .bool,.bool=>true
 | _,_=>false
def EqF (P:Program):List PK→List Field→Nat→Prop
 | [],[],_=>True
 | k :: ks, f :: fs, n => f.name ≠ "_" ∧ f.offset = n ∧ (∃ d, P.underlying f.type = some d ∧ ZdO k d = true) ∧ EqF P ks fs (n + 1)
 | _,_,_=>False
def TOk (P:Program) (t:TypeId):TI→Prop
 | .atom z=>∃d zv i,P.underlying t=some d∧ZhA d z=true∧P.info? t=some i∧i.zero=some zv∧i.size=1∧Zai z zv=true
 | .strct fs n z=>∃(fields:Array Field) (i:TypeInfo) (zvs:Array Value),P.underlying t=some (.struct fields)∧P.info? t=some i∧i.size=n∧i.zero=some (.agg zvs)∧ZL (fun a v=>Zai a v=true) z zvs.toList∧
   ZL (fun (fi:FI) (f:Field)=>f.offset=fi.off∧fi.size≠0∧∃j d,P.info? f.type=some j∧j.size=fi.size∧P.underlying f.type=some d∧ZqC d=fi.agg) fs fields.toList
 | .slice e m bytes z=>P.underlying t=some (.slice e)∧0<m∧bytes≤131072∧(∃(i:TypeInfo) (zv:Value),P.info? e=some i∧i.size=m∧i.bytes=bytes∧i.zero=some zv∧ZL (fun a v=>Zai a v=true) z zv.cells.toList∧z.length=m)∧
   ∃j:TypeInfo,P.info? t=some j∧j.size=1∧j.zero=some (.slice none 0 0)
 | .ifc=>∃ms,P.underlying t=some (.interface ms)
 | .map kk vk=>∃kt et dk dv i zv,P.underlying t=some (.map kt et)∧P.underlying kt=some dk∧ZdO kk dk=true∧P.underlying et=some dv∧ZdO vk dv=true∧P.info? et=some i∧i.zero=some zv∧Zai (Zes vk) zv=true
 | .eqs ks=>∃u,t=u+4000∧P.underlying u=some (.struct (P.fieldsOf u))∧P.stoodInHeld u=false∧P.eqGuardType P.depth u=false∧EqF P ks (P.fieldsOf u).toList 0
section
variable {P:Program} {w:World} {t:TypeId}
theorem ZqJ {i:TypeInfo} (h:P.info? t=some i):(typeInfo t).run P w=.ok i w:=by simp [typeInfo,program,Sem.run,h]
theorem Ys {d:TypeDesc} (h:P.underlying t=some d):(underlying t).run P w=.ok d w:=by simp [underlying,program,Sem.run,h]
theorem XF [NW] {i:TypeInfo} (h:P.info? t=some i):(sizeOf t).run P w=.ok i.size w:=by simp [sizeOf,ZqJ h]
theorem Zi3 [NW] {i:TypeInfo} {z:Value} (h:P.info? t=some i) (hz:i.zero=some z):(zeroValue t).run P w=.ok z w:=by simp [zeroValue,ZqJ h,hz]
theorem Zhc [NW] {d:TypeDesc} (h:P.underlying t=some d):(isAgg t).run P w=.ok (ZqC d) w:=by
 simp only[isAgg,Sem.run_bind,Ys h,Result.andThen_ok]
 cases d<;>rfl
theorem Zvv {d:TypeDesc} {z:AV} (h:ZhA d z=true):ZqC d=false:=by
 unfold ZhA at h
 split at h<;>first | rfl | simp at h
end
section
variable {g:Gh} {w:World}
theorem Zp8 {s:ByteArray} (h:Z9 s=true):s.size≤9223372036854775807:=by
 unfold Z9 at h
 have:=Nat.le_of_ble_eq_true h
 rw [Array.length_toList] at this
 exact this
theorem Ze6 [NW] {x:AV} {v:Value} (h:Zai x v=true):AVR g w x v:=by
 unfold Zai at h
 split at h
 ·simp only[A7,beq_iff_eq] at h
  exact ⟨[],⟨by rw [h.1,h.2],rfl⟩,by simp⟩
 ·simp only[beq_iff_eq] at h
  exact ⟨[],⟨by rw [h],rfl⟩,by simp⟩
 ·rename_i s s'
  simp only[A7,beq_iff_eq] at h
  have e:s=s':=by
   cases s;cases s'
   simpa using h.1
  exact ⟨[],⟨by rw [e],rfl,Zp8 h.2⟩,by simp⟩
 ·rfl
 ·simp at h
theorem AVR.one [NW] {x:AV} {v:Value} (h:AVR g w x v):v.oneCell'=true:=by
 cases x with
 | c x=>obtain ⟨L,h1,_⟩:=h;exact h1.one
 | n x=>
  obtain ⟨e,m,xs,cs,L,h1,h2,h3,_⟩:=h
  obtain ⟨A,c,hv,_⟩:=ZdC h3
  simp [hv,Value.oneCell']
 | row k=>exact h.2
 | nil e m=>simp [AVR] at h;simp [h,Value.oneCell']
 | dead=>exact h
theorem Zoc {v:Value} (h:v.oneCell'=true):v.cells=#[v]:=by
 cases v<;>simp [Value.oneCell'] at h<;>rfl
theorem PVR.cells [NW] {a:Bool} {cs:List AV} {v:Value} (h:PVR g w a cs v):∃vs:List Value,v.cells=vs.toArray∧ZL (AVR g w) cs vs:=by
 cases a with
 | true=>obtain ⟨vs,rfl,h2⟩:=h;exact ⟨vs,rfl,h2⟩
 | false=>obtain ⟨x,rfl,h2⟩:=h;exact ⟨[v],by rw [Zoc h2.one],⟨h2,trivial⟩⟩
theorem AVRs.one [NW] {cs:List AV} {vs:List Value} (h:ZL (AVR g w) cs vs):∀u∈vs,u.oneCell'=true:=by
 induction vs generalizing cs with
 | nil=>simp
 | cons v r ih=>
  cases cs with
  | nil=>exact h.elim
  | cons c cs=>
   intro u m
   rcases AM.1 m with rfl | m
   ·exact h.1.one
   ·exact ih h.2 u m
end
theorem ZsW (x y:ByteArray):(x.toList==y.toList)=decide (x=y):=by
 rw [Bool.eq_iff_iff]
 simp only[beq_iff_eq,decide_eq_true_eq]
 constructor
 ·intro h
  have h':x.data.toList=y.data.toList:=by rw [←Au,←Au];exact h
  cases x;cases y
  simpa using h'
 ·rintro rfl;rfl
end
section
open Go.RowKit
def Uk (U:Nat→Prop) (key:Nat):Nat→Prop:=fun k=>U k∨(key≤k∧k<key+16)
theorem avU.mono {U U':Nat→Prop} (h:∀k,U k→U' k) {x:AV} (hx:avU U x):avU U' x:=by cases x<;>first | exact h _ hx | trivial
theorem Qn.mono [NW] {U U':Nat→Prop} (h:∀k,U k→U' k) {x:List AV} (hx:Qn U x):Qn U' x:=fun y m=>(hx y m).mono h
theorem svU.mono [NW] {U U':Nat→Prop} (h:∀k,U k→U' k) {x:SV} (hx:svU U x):svU U' x:=by
 cases x<;>first | exact Qn.mono h hx | exact fun y m=>Qn.mono h (hx y m) | exact h _ hx | trivial
theorem obU.mono [NW] {U U':Nat→Prop} (h:∀k,U k→U' k) {x:Ob} (hx:obU U x):obU U' x:=by
 cases x<;>first | exact Qn.mono h hx | trivial
def Fin [NW] (P:Program) (W:Zaa) (U:Nat→Prop) (key:Nat) (st:St) (g:Gh) (w:World) (s:Sem Next) (r:SV × List (Nat × Ob)):Prop:=
 ∃g' cv w',(s.run P w=.ok (.value cv) w'∨(s.run P w=.ok .skip w'∧cv=undef))∧HI W g' (Zp st.ob r.2) w'∧SVR g' w' r.1 cv∧(∀x v,svU U x→SVR g w x v→SVR g' w' x v)∧
  svU (Uk U key) r.1∧(∀k,obU (Uk U key) (Zp st.ob r.2 k))∧∀k,¬Uk U key k→Zp st.ob r.2 k=.gone
section
variable {P:Program} {W:Zaa} {U:Nat→Prop} {key:Nat} {st:St} {g:Gh} {w:World} {a:Act} {tt:Nat→Option TI}
theorem Zaq [NW] {s:Sem Next} {v:SV} {cv:Value} (hI:HI W g st.ob w) (hU:StU U st) (hrun:s.run P w=.ok (.value cv) w) (hv:SVR g w v cv) (hu:svU U v):Fin P W U key st g w s (v,[]):=
 ⟨g,cv,w,.inl hrun,hI,hv,fun _ _ _ h=>h,hu.mono fun _=>.inl,fun k=>(hU.ob k).mono fun _=>.inl,fun k hk=>hU.gone k fun h=>hk (.inl h)⟩
theorem Xn (x:CT):svU U (.p false [.c x]):=fun y m=>by simp at m;subst m;trivial
theorem Zbv [NW] (k:IntKind) (n:Int):SVR g w (.p false [.c (.int k n)]) (.int k n):=⟨_,rfl,[],⟨rfl,rfl⟩,by simp⟩
theorem Zar [NW] (b:Bool):SVR g w (.p false [.c (.bool b)]) (.bool b):=⟨_,rfl,[],⟨rfl,rfl⟩,by simp⟩
theorem ZkU [NW] {s:ByteArray} (h:s.size≤9223372036854775807):SVR g w (.p false [.c (.str s)]) (.string s):=⟨_,rfl,[],⟨rfl,rfl,h⟩,by simp⟩
theorem Zbz [NW] {k:IntKind} {n:Int} {v:Value} (h:SVR g w (.p false [.c (.int k n)]) v):v=.int k n:=by
 obtain ⟨x,hx,h⟩:=h;simp at hx;subst hx;obtain ⟨L,h1,_⟩:=h;exact h1.1
theorem ZfE [NW] {b:Bool} {v:Value} (h:SVR g w (.p false [.c (.bool b)]) v):v=.bool b:=by
 obtain ⟨x,hx,h⟩:=h;simp at hx;subst hx;obtain ⟨L,h1,_⟩:=h;exact h1.1
theorem Zh1 [NW] {s:ByteArray} {v:Value} (h:SVR g w (.p false [.c (.str s)]) v):v=.string s∧s.size≤9223372036854775807:=by
 obtain ⟨x,hx,h⟩:=h;simp at hx;subst hx;obtain ⟨L,h1,_⟩:=h;exact ⟨h1.1,h1.2.2⟩
theorem ZDI [NW] {t:Nat} (htt:∀t i,tt t=some i→TOk P t i) (v:Value):SVR g w (cvT (tt t) v) v∧svU U (cvT (tt t) v):=by
 unfold cvT
 split
 ·exact ⟨Zbv _ _,Xn _⟩
 ·exact ⟨Zar _,Xn _⟩
 ·split
  ·rename_i h;exact ⟨ZkU (Zp8 h),Xn _⟩
  ·exact ⟨trivial,trivial⟩
 ·split
  ·exact ⟨⟨_,rfl,rfl⟩,fun y m=>by simp at m;subst m;trivial⟩
  ·exact ⟨trivial,trivial⟩
 ·exact ⟨trivial,trivial⟩
theorem Zkm [NW] (htt:∀t i,tt t=some i→TOk P t i) (hS:∀t,SVR g w (st.sl t) (a.tmps.getD t undef)) (hU:StU U st) (t:Nat) (x:Operand):
  SVR g w (st.ev tt t x) (a.eval x)∧svU U (st.ev tt t x):=by
 cases x with
 | tmp s=>exact ⟨hS s,hU.sl s⟩
 | const v=>exact ZDI htt v
 | global _=>exact ⟨trivial,trivial⟩
 | func f=>exact ⟨rfl,trivial⟩
set_option maxHeartbeats 1000000 in
theorem ZwR [NW] {op:BinOp} {t:Nat} {ox oy:Operand} {k k':IntKind} {n n':Int} {z:CT} (hk:k=k'∨op=.shl∨op=.shr) (hz:Zxw op k n n'=some z):
  ∃cv,(do eqGuard op t ox oy (.int k n) (.int k' n');binOp op t (.int k n) (.int k' n'):Sem Value).run P w=.ok cv w∧SVR g w (.p false [.c z]) cv:=by
 have hg:(eqGuard op t ox oy (.int k n) (.int k' n')).run P w=.ok () w:=by
  cases op<;>rfl
 simp only[Sem.run_bind,hg,Result.andThen_ok]
 cases op<;>simp only[Zxw,Zyw,ZlF,orI,Zw6,Ztc,ZCy,Ztw,Option.map_none,Option.map_some,A4,reduceCtorEq] at hz<;>(try subst hz)<;>
  (try (split at hz<;>simp only[A4,reduceCtorEq] at hz;subst hz))<;>
  simp only[reduceCtorEq,or_false,or_true] at hk<;>(try subst hk)<;>
  first
   | (refine ⟨_,?_,Zbv _ _⟩;simp [binOp,Op.intArith,Op.intDiv,Op.intBits,Op.shift, *];done)
   | (refine ⟨_,?_,Zar _⟩;simp [binOp,Op.intCmp];done)
set_option maxHeartbeats 1000000 in
theorem Zwy [NW] {op : BinOp} {t : Nat} {ox oy : Operand} {s s' : ByteArray} {z : CT} (hz : ZxE op s s' = some z) :
    ∃ cv, (do eqGuard op t ox oy (.string s) (.string s'); binOp op t (.string s) (.string s') : Sem Value).run P w = .ok cv w ∧ SVR g w (.p false [.c z]) cv := by
  have hg : (eqGuard op t ox oy (.string s) (.string s')).run P w = .ok () w := by
    cases op <;> rfl
  simp only[Sem.run_bind, hg, Result.andThen_ok]
  cases op <;> simp only[ZxE, A4, reduceCtorEq] at hz <;> (try subst hz) <;>
    first
      | (refine ⟨_, ?_, Zar _⟩; simp only[binOp, Op.stringOp, sLt, sEq, ← ZsW]; rfl)
      | (split at hz
         · rename_i hl
           simp only[A4] at hz
           subst hz
           refine ⟨_, ?_, ZkU (by rw [ByteArray.size_append]; exact hl)⟩
           have hl' : ¬ ((s.size + s'.size : Nat) : Int) > IntKind.i64.max := by
             have : IntKind.i64.max = 9223372036854775807 := by decide
             omega
           simp only[binOp, Op.stringOp, hl', if_false]
           rfl
         · simp at hz)
theorem Zqi [NW] {op:BinOp} {t:Nat} {ox oy:Operand} {b b':Bool} {r:Bool} (ht:P.underlying t=some .bool) (hop:(op=.eql∧r=(b==b'))∨(op=.neq∧r=!(b==b'))):
  (do eqGuard op t ox oy (.bool b) (.bool b');binOp op t (.bool b) (.bool b'):Sem Value).run P w=.ok (.bool r) w:=by
 have hg:(eqGuard op t ox oy (.bool b) (.bool b')).run P w=.ok () w:=by
  cases op<;>rfl
 have he:(Op.equal t (.bool b) (.bool b')).run P w=.ok (b==b') w:=by
  have key:∀d:Nat,(Op.equalIn (d+1) t (.bool b) (.bool b')).run P w=.ok (b==b') w:=fun d=>by
   rw [Op.equalIn]
   simp only[Sem.run_bind,Ys ht,Result.andThen_ok,Sem.run_pure]
  exact key 9999
 simp only[Sem.run_bind,hg,Result.andThen_ok]
 rcases hop with ⟨rfl,rfl⟩ | ⟨rfl,rfl⟩
 ·simp only[binOp,Sem.run_bind,he,Result.andThen_ok,Sem.run_pure]
 ·simp only[binOp,Sem.run_bind,he,Result.andThen_ok,Sem.run_pure]
theorem Zyj [NW] (htt:∀t i,tt t=some i→TOk P t i) {op:BinOp} {t:Nat} {ox oy:Operand} {x y v:SV} {vx vy:Value} (h:ZwS (tt t) op x y=some v) (hx:SVR g w x vx) (hy:SVR g w y vy):
  ∃cv,(do eqGuard op t ox oy vx vy;binOp op t vx vy:Sem Value).run P w=.ok cv w∧SVR g w v cv∧svU U v:=by
 unfold ZwS at h
 split at h
 ·have ex:=Zbz hx
  have ey:=Zbz hy
  subst ex ey
  split at h
  ·rename_i hk
   obtain ⟨z,hz,rfl⟩:=A5.1 h
   obtain ⟨cv,h1,h2⟩:=ZwR (P:=P) (g:=g) (w:=w) (t:=t) (ox:=ox) (oy:=oy) hk hz
   exact ⟨cv,h1,h2,Xn _⟩
  ·simp at h
 ·obtain ⟨ex,lx⟩:=Zh1 hx
  obtain ⟨ey,ly⟩:=Zh1 hy
  subst ex ey
  obtain ⟨z,hz,rfl⟩:=A5.1 h
  obtain ⟨cv,h1,h2⟩:=Zwy (P:=P) (g:=g) (w:=w) (t:=t) (ox:=ox) (oy:=oy) hz
  exact ⟨cv,h1,h2,Xn _⟩
 ·have ex:=ZfE hx
  have ey:=ZfE hy
  subst ex ey
  split at h
  ·rename_i hti
   simp only[A4] at h
   subst h
   obtain ⟨d,zv,i,h1,h2,_⟩:=htt t _ hti
   have hd:d=.bool:=by cases d<;>simp [ZhA] at h2;rfl
   subst hd
   exact ⟨_,Zqi h1 (.inl ⟨rfl,rfl⟩),Zar _,Xn _⟩
  ·rename_i hti
   simp only[A4] at h
   subst h
   obtain ⟨d,zv,i,h1,h2,_⟩:=htt t _ hti
   have hd:d=.bool:=by cases d<;>simp [ZhA] at h2;rfl
   subst hd
   exact ⟨_,Zqi h1 (.inr ⟨rfl,rfl⟩),Zar _,Xn _⟩
  ·simp at h
 ·simp at h
theorem Zoe {k:PK} {d:TypeDesc} (h:ZdO k d=true):ZqC d=false:=by
 unfold ZdO at h
 split at h<;>first | rfl | simp at h
theorem ZBr [NW] {k:PK} {x y:AV} {vx vy:Value} {b:Bool} {t:Nat} {d:TypeDesc} (h:eqC k x y=some b) (hd:P.underlying t=some d) (hk:ZdO k d=true) (hx:AVR g w x vx) (hy:AVR g w y vy) (n:Nat):(Op.equalIn (n+1) t vx vy).run P w=.ok b w:=by
 unfold eqC at h
 split at h
 ·split at h<;>simp only[A4,reduceCtorEq] at h
  rename_i kk;subst kk h
  obtain ⟨_,h1,_⟩:=hx;obtain ⟨_,h2,_⟩:=hy
  have e1:=h1.1;have e2:=h2.1;subst e1 e2
  cases d<;>simp [ZdO] at hk
  exact run_equalIn_int w n t _ _ _ _ hd
 ·simp only[A4] at h;subst h
  obtain ⟨_,h1,_⟩:=hx;obtain ⟨_,h2,_⟩:=hy
  have e1:=h1.1;have e2:=h2.1;subst e1 e2
  cases d<;>simp [ZdO] at hk
  rw [run_equalIn_string w n t _ _ hd,sEq,ZsW]
 ·simp only[A4] at h;subst h
  obtain ⟨_,h1,_⟩:=hx;obtain ⟨_,h2,_⟩:=hy
  have e1:=h1.1;have e2:=h2.1;subst e1 e2
  cases d<;>simp [ZdO] at hk
  exact run_equalIn_bool' w n t _ _ hd
 ·simp at h
theorem Zs1 [NW] (n:Nat) {X Y:Array Value}:∀{ks:List PK} {fs:List Field} {o:Nat} {xs ys:List AV} {vx vy:List Value} {b:Bool},ZmK ks xs ys=some b→EqF P ks fs o→ZL (AVR g w) xs vx→ZL (AVR g w) ys vy→(∀j v,vx[j]?=some v→X[o+j]?=some v)→(∀j v,vy[j]?=some v→Y[o+j]?=some v)→(Op.eqFields (n+1) X Y fs).run P w=.ok b w
 | [],[],_,[],[],_,_,b,h,_,_,_,_,_=>by simp [ZmK] at h;subst h;simp [Op.eqFields]
 | k::ks,f::fs,o,x::xs,y::ys,[],_,_,_,_,hx,_,_,_=>hx.elim
 | k::ks,f::fs,o,x::xs,y::ys,_::_,[],_,_,_,_,hy,_,_=>hy.elim
 | k::ks,f::fs,o,x::xs,y::ys,u::vx,v::vy,b,h,hf,hx,hy,hX,hY=>by
  simp only[ZmK] at h
  obtain ⟨b1,h1,h⟩:=AE.1 h
  obtain ⟨b2,h2,rfl⟩:=A5.1 h
  obtain ⟨f1,f2,⟨d,f3,f4⟩,f5⟩:=hf
  have e1:=ZBr h1 f3 f4 hx.1 hy.1 n
  have e2:=Zs1 n h2 f5 hx.2 hy.2 (fun j v hj=>by have:=hX (j+1) v (by simpa using hj);rwa [show o+(j+1)=o+1+j by omega] at this) (fun j v hj=>by have:=hY (j+1) v (by simpa using hj);rwa [show o+(j+1)=o+1+j by omega] at this)
  have p1:(part f.type X f.offset).run P w=.ok u w:=by
   have:=hX 0 u (by simp)
   simp only[part,Sem.run_bind,Zhc f3,Zoe f4,Result.andThen_ok]
   rw [f2];simp at this;simp [this]
  have p2:(part f.type Y f.offset).run P w=.ok v w:=by
   have:=hY 0 v (by simp)
   simp only[part,Sem.run_bind,Zhc f3,Zoe f4,Result.andThen_ok]
   rw [f2];simp at this;simp [this]
  simp only[Op.eqFields,f1,ne_eq,not_false_eq_true,if_true,Sem.run_bind,p1,p2,e1,Result.andThen_ok]
  cases b1
  ·simp
  ·simpa using e2
 | [],_::_,_,_,_,_,_,_,_,hf,_,_,_,_=>hf.elim
 | _::_,[],_,_,_,_,_,_,_,hf,_,_,_,_=>hf.elim
 | [],[],_,_::_,_,_,_,_,h,_,_,_,_,_=>by simp [ZmK] at h
 | [],[],_,[],_::_,_,_,_,h,_,_,_,_,_=>by simp [ZmK] at h
 | _::_,_::_,_,[],_,_,_,_,h,_,_,_,_,_=>by simp [ZmK] at h
 | _::_,_::_,_,_::_,[],_,_,_,h,_,_,_,_,_=>by simp [ZmK] at h
theorem ZrF {op:BinOp} {b:Bool} {v:SV} (h:Zq0 op b=some v):(op=.eql∧v=.p false [.c (.bool b)])∨(op=.neq∧v=.p false [.c (.bool (!b))]):=by
 unfold Zq0 at h
 split at h<;>simp only[A4,reduceCtorEq] at h<;>subst h
 ·exact .inl ⟨rfl,rfl⟩
 ·exact .inr ⟨rfl,rfl⟩
theorem ZBc [NW] (htt:∀t i,tt t=some i→TOk P t i) {op:BinOp} {t:Nat} {ox oy:Operand} {x y v:SV} {vx vy:Value} (h:ZwT (tt (t+4000)) op x y=some v) (hx:SVR g w x vx) (hy:SVR g w y vy):
  ∃cv,(do eqGuard op t ox oy vx vy;binOp op t vx vy:Sem Value).run P w=.ok cv w∧SVR g w v cv∧svU U v:=by
 unfold ZwT at h
 split at h
 ·obtain ⟨ks,hks,h'⟩:=AE.1 h
  obtain ⟨b,hb,h''⟩:=AE.1 h'
  have hti:tt (t+4000)=some (.eqs ks):=by
   unfold ZvL at hks
   split at hks<;>simp only[A4,reduceCtorEq] at hks
   rename_i hti
   rw [hti,hks]
  obtain ⟨u,e,h1,h2,h3,h4⟩:=htt _ _ hti
  have e:t=u:=Nat.add_right_cancel e
  subst e
  obtain ⟨us,rfl,hus⟩:=hx
  obtain ⟨vs,rfl,hvs⟩:=hy
  have hq:=Zs1 (X:=us.toArray) (Y:=vs.toArray) 9998 hb h4 hus hvs (fun j v hj=>by simpa using hj) (fun j v hj=>by simpa using hj)
  have hg:=run_eqGuard_agg (P:=P) w op t ox oy us.toArray vs.toArray h3
  rcases ZrF h'' with ⟨rfl,rfl⟩ | ⟨rfl,rfl⟩
  ·refine ⟨_,?_,Zar b,Xn _⟩
   simp only[Sem.run_bind,hg,Result.andThen_ok,run_eql_struct,run_equalIn_struct w 9999 t _ _ h1 h2,hq]
  ·refine ⟨_,?_,Zar (!b),Xn _⟩
   simp only[Sem.run_bind,hg,Result.andThen_ok,run_neq_struct,run_equalIn_struct w 9999 t _ _ h1 h2,hq]
 ·simp at h
theorem ZzK [NW] {b:Bool} {v:Value} (h:SVR g w (.p false [.c (.ifc b)]) v):(b=true∧v=.nilIface)∨(b=false∧∃t x,v=.iface t x):=by
 obtain ⟨x,hx,h⟩:=h;simp at hx;subst hx;obtain ⟨L,h1,_⟩:=h
 have h2:=h1.2.2
 cases b with
 | true=>exact .inl ⟨rfl,h2⟩
 | false=>exact .inr ⟨rfl,h2⟩
theorem ZwM [NW] (htt:∀t i,tt t=some i→TOk P t i) {op:BinOp} {t:Nat} {ox oy:Operand} {x y v:SV} {vx:Value} (h:Zwt tt t (ZjY oy) op x y=some v) (hx:SVR g w x vx) (hy:SVR g w y (a.eval oy)):
  ∃cv,(do eqGuard op t ox oy vx (a.eval oy);binOp op t vx (a.eval oy):Sem Value).run P w=.ok cv w∧SVR g w v cv∧svU U v:=by
 unfold Zwt at h
 split at h
 ·rename_i hn
  have ho:oy=.const .nilIface:=by
   cases oy with
   | const c=>cases c<;>first | rfl | (simp [ZjY,ZsC] at hn;done)
   | _=>simp [ZjY] at hn
  subst ho
  split at h
  rotate_left
  ·simp at h
  rename_i hif
  have hti:tt t=some .ifc:=by
   unfold Zwv at hif
   split at hif
   ·assumption
   ·simp at hif
  obtain ⟨ms,hms⟩:=htt _ _ hti
  unfold ZAJ at h
  split at h
  ·rename_i b
   have hb:=ZzK hx
   have hev:a.eval (.const .nilIface)=.nilIface:=rfl
   rw [hev]
   have hg:∀v:Value,(v=.nilIface∨∃t x,v=.iface t x)→(eqGuard op t ox (.const .nilIface) v .nilIface).run P w=.ok () w:=fun v hv=>by
    rcases hv with rfl | ⟨t',x',rfl⟩
    ·simp only[eqGuard]
     cases ox<;>cases op<;>rfl
    ·simp only[eqGuard]
     cases op<;>rfl
   have he:(Op.equal t vx .nilIface).run P w=.ok b w:=by
    show (Op.equalIn (9999+1) t _ _).run P w=_
    rw [Op.equalIn]
    rcases hb with ⟨rfl,rfl⟩ | ⟨rfl,t',x',rfl⟩
    ·simp only[Sem.run_bind,Ys hms,Result.andThen_ok,Sem.run_pure]
    ·simp only[Sem.run_bind,Ys hms,Result.andThen_ok,Sem.run_pure]
   have hg':=hg vx (hb.imp (fun h=>h.2) (fun h=>h.2))
   rcases ZrF h with ⟨rfl,rfl⟩ | ⟨rfl,rfl⟩
   ·refine ⟨_,?_,Zar b,Xn _⟩
    simp only[Sem.run_bind,hg',Result.andThen_ok]
    rcases hb with ⟨rfl,rfl⟩ | ⟨rfl,t',x',rfl⟩<;>simp only[binOp,Sem.run_bind,he,Result.andThen_ok,Sem.run_pure]
   ·refine ⟨_,?_,Zar (!b),Xn _⟩
    simp only[Sem.run_bind,hg',Result.andThen_ok]
    rcases hb with ⟨rfl,rfl⟩ | ⟨rfl,t',x',rfl⟩<;>simp only[binOp,Sem.run_bind,he,Result.andThen_ok,Sem.run_pure]
  ·simp at h
 ·split at h
  ·exact ZBc htt h hx hy
  ·exact Zyj htt h hx hy
theorem ZCP [NW] {op:UnOp} {x v:SV} {vx:Value} (h:unV op x=some v) (hx:SVR g w x vx):∃cv,(Op.unary op vx).run P w=.ok cv w∧SVR g w v cv∧svU U v:=by
 unfold unV at h
 split at h
 ·have ex:=ZfE hx
  subst ex
  split at h<;>simp at h
  subst h
  exact ⟨_,by simp [Op.unary],Zar _,Xn _⟩
 ·have ex:=Zbz hx
  subst ex
  split at h<;>simp at h
  subst h
  exact ⟨_,by simp [Op.unary,Op.intArith],Zbv _ _,Xn _⟩
 ·simp at h
end
end
section
open Go.RowKit
section
variable {P:Program} {W:Zaa} {U:Nat→Prop} {key:Nat} {st:St} {g:Gh} {w:World} {a:Act} {tt:Nat→Option TI}
theorem ZAr {t:Nat} {z:AV} (htt:∀t i,tt t=some i→TOk P t i) (h:tt t=some (.atom z)):∃d,P.underlying t=some d:=by
 obtain ⟨d,_,_,h,_⟩:=htt t _ h;exact ⟨d,h⟩
theorem ZqP {t:Nat} (htt:∀t i,tt t=some i→TOk P t i) (h:Zbm (tt t)=true):∃e,P.underlying t=some (.slice e):=by
 unfold Zbm at h
 split at h
 ·rename_i h1;exact ⟨_,(htt t _ h1).1⟩
 ·simp at h
theorem Zhb {t:Nat} (htt:∀t i,tt t=some i→TOk P t i) (h:Zcq (tt t)=true):P.underlying t=some .string:=by
 unfold Zcq at h
 split at h
 ·rename_i h1
  obtain ⟨d,zv,i,h2,h3,_⟩:=htt t _ h1
  have hd:d=.string:=by cases d<;>simp [ZhA] at h3;rfl
  rw [hd] at h2;exact h2
 ·simp at h
theorem Zxe [NW] (htt:∀t i,tt t=some i→TOk P t i) {s t:Nat} {x v:SV} {vx:Value} (h:ZpZ (tt s) (tt t) x=some v) (hx:SVR g w x vx):∃cv,(convert s t vx).run P w=.ok cv w∧SVR g w v cv∧svU U v:=by
 unfold ZpZ at h
 split at h
 ·have ex:=Zbz hx
  subst ex
  split at h
  ·rename_i h1 h2
   simp only[A4] at h
   subst h
   obtain ⟨d,zv,i,h3,h4,_⟩:=htt t _ h2
   have hd:∃k,d=.int k:=by cases d<;>simp [ZhA] at h4;exact ⟨_,rfl⟩
   obtain ⟨k,rfl⟩:=hd
   simp only[ZhA,beq_iff_eq] at h4
   subst h4
   obtain ⟨ds,hs⟩:=ZAr htt h1
   refine ⟨_,?_,Zbv _ _,Xn _⟩
   simp [convert,Ys hs,Ys h3,Conv.intToInt]
  ·simp at h
 ·simp at h
theorem Zgy [NW] {e m:Nat} {xs:List (List CT)} {v:Value} (h:SVR g w (.p false [.c (.sl e m xs)]) v):∃A cap cs L0 L1,v=.slice A xs.length cap∧xs.length≤cap∧cap≤maxLen∧0<m∧Sl w m A xs.length cs L0∧REs w m xs cs L1∧(∀b∈L0++L1,¬g.own b):=by
 obtain ⟨x,hx,h⟩:=h
 simp at hx
 subst hx
 obtain ⟨L,⟨A,cap,cs,L0,L1,h1,h2,h3,h4,h5,h6,h7⟩,ho⟩:=h
 exact ⟨A,cap,cs,L0,L1,h1,h2,h3,h5,h6,h7,fun b m=>ho b (h4 ▸ m)⟩
theorem Zfm [NW] {k:Nat} {v:Value} (h:SVR g w (.p false [.row k]) v):v=g.val k:=by
 obtain ⟨x,hx,h⟩:=h;simp at hx;subst hx;exact h.1
theorem Zsz [NW] {e m:Nat} {v:Value} (h:SVR g w (.p false [.nil e m]) v):v=.slice none 0 0:=by
 obtain ⟨x,hx,h⟩:=h;simp at hx;subst hx;exact h
theorem Zax {B e m n:Nat} {v:Value} {cs:List Value} (h:w.ownsV B e m v n cs):∃A cap,v=.slice A n cap:=by
 obtain ⟨A,c,hv,_⟩:=ZdC h
 exact ⟨A,c,hv⟩
theorem ZD0 [NW] {x:CT} {v:Value} (h:SVR g w (.p false [.n x]) v):NR g w x v:=by
 obtain ⟨y,hy,h⟩:=h;simp at hy;subst hy;exact h
theorem Zzd [NW] (htt:∀t i,tt t=some i→TOk P t i) (hI:HI W g st.ob w) {t:Nat} {ts:Array TypeId} {ty:TypeId} (hts:ts[0]?=some t) {x v:SV} {vx:Value} (h:ZmS st (tt t) x=some v) (hx:SVR g w x vx):
  ∃cv,(Builtin.len_ ts ty #[vx]).run P w=.ok cv w∧SVR g w v cv∧svU U v:=by
 have fin:∀(A:Option Addr) (n c:Nat),Zbm (tt t)=true→(Builtin.len_ ts ty #[.slice A n c]).run P w=.ok (.int .i64 n) w:=fun A n c hs=>by
  obtain ⟨e,he⟩:=ZqP htt hs
  simp [Builtin.len_,hts,Ys he,goInt]
 unfold ZmS at h
 split at h
 ·split at h<;>simp at h
  rename_i hs
  subst h
  obtain ⟨A,cap,_,_,_,rfl,_⟩:=Zgy hx
  exact ⟨_,fin _ _ _ hs,Zbv _ _,Xn _⟩
 ·split at h<;>simp at h
  rename_i hs
  subst h
  obtain ⟨_,_,_,_,_,h1,_,h3,_⟩:=ZD0 hx
  simp only[CT.sl.injEq] at h1
  obtain ⟨_,_,rfl⟩:=h1
  obtain ⟨A,cap,rfl⟩:=Zax h3
  exact ⟨_,fin _ _ _ hs,Zbv _ _,Xn _⟩
 ·split at h<;>simp at h
  rename_i hs
  subst h
  obtain ⟨rfl,_⟩:=Zh1 hx
  refine ⟨_,?_,Zbv _ _,Xn _⟩
  simp [Builtin.len_,hts,Ys (Zhb htt hs),goInt]
 ·split at h<;>simp at h
  rename_i hs
  subst h
  have:=Zsz hx
  subst this
  exact ⟨_,fin _ _ _ hs,Zbv _ _,Xn _⟩
 ·split at h
  ·rename_i k _ e m xs d hk
   split at h<;>simp at h
   rename_i hs
   subst h
   have hv:=Zfm hx
   subst hv
   have ho:=hI.obs k
   rw [hk] at ho
   obtain ⟨_,cs,L,h1,_⟩:=ho
   obtain ⟨A,cap,hv⟩:=Zax h1
   rw [hv]
   exact ⟨_,fin _ _ _ hs,Zbv _ _,Xn _⟩
  ·simp at h
 ·simp at h
theorem Zlg {f:Value→ByteArray→Sem (ForInStep ByteArray)} (hf:∀n s,f (.int .u8 n) s=pure (ForInStep.yield (s.push (AT n.toNat)))):∀(l:List Int) (s:ByteArray),(forIn (l.map fun n=>Value.int .u8 n) s f).run P w=.ok ⟨s.data++(l.map fun n=>AT n.toNat).toArray⟩ w
 | [],s=>by simp
 | n::l,s=>by
  have ih:=Zlg hf l (s.push (AT n.toNat))
  simp only[Ao,List.forIn_cons,hf,Sem.run_bind,Sem.run_pure,Result.andThen_ok,ih]
  congr 2
  apply Array.ext'
  simp [ByteArray.push]
theorem ZtK [NW] {b o cap:Nat} (l:List Int) (hc:∀j u,(l.map fun n=>Value.int .u8 n)[j]?=some u→w.cell? ⟨b,o+j,none⟩=some u):(Conv.bytesToString (.slice (some ⟨b,o,none⟩) l.length cap)).run P w=.ok (.string (Y5 l)) w:=by
 have h1:=run_loadCells_list (P:=P) w ⟨b,o,none⟩ (l.map fun n=>Value.int .u8 n) (fun j u hj=>by rw [Zdn];exact hc j u hj)
 rw [Ar] at h1
 unfold Conv.bytesToString
 simp only[Sem.run_bind,h1,Result.andThen_ok,←Array.forIn_toList]
 rw [Zlg (fun _ _=>rfl)]
 simp [Y5,ByteArray.empty,ByteArray.emptyWithCapacity]
 rfl
theorem Zmk {m:Nat}:∀{xs:List (List CT)} {l:List Int} {cs:List Value} {L:List Nat},Zew xs=some l→REs w m xs cs L→cs=l.map (fun n=>Value.int .u8 n)∧xs.length=l.length
 | [],_,_,_,h,⟨h1,_⟩=>by simp [Zew] at h;subst h h1;simp
 | x::r,l,_,_,h,⟨c1,c2,L1,L2,rfl,rfl,h3,h4⟩=>by
  unfold Zew at h
  split at h
  ·rename_i he;simp at he
  ·rename_i n r' he
   simp only[List.cons.injEq] at he
   obtain ⟨rfl,rfl⟩:=he
   obtain ⟨l',hl,rfl⟩:=A5.1 h
   obtain ⟨i1,i2⟩:=Zmk hl h4
   obtain ⟨v,cs',_,_,rfl,rfl,a1,a2⟩:=h3.1
   obtain ⟨rfl,_⟩:=a2
   rw [a1.1,i1]
   exact ⟨rfl,by simp [i2]⟩
  ·simp at h
theorem Zqe (l:List Int):(Y5 l).size=l.length:=by simp [Y5,ByteArray.size]
theorem Zwa [NW] (htt:∀t i,tt t=some i→TOk P t i) (hI:HI W g st.ob w) {s t:Nat} {x v:SV} {vx:Value} (hst:Zcq (tt t)=true) (hby:Zlz (Zo8 tt (tt s))=true) (h:ZhD st x=some v) (hx:SVR g w x vx):∃cv,(convert s t vx).run P w=.ok cv w∧SVR g w v cv∧svU U v:=by
 have ht:=Zhb htt hst
 have hs:∃e,P.underlying s=some (.slice e)∧P.underlying e=some (.int .u8):=by
  unfold Zo8 at hby
  split at hby
  ·rename_i e m b z hti
   have h1:=(htt _ _ hti).1
   unfold Zlz at hby
   split at hby
   ·rename_i hte
    obtain ⟨d,zv,i,h2,h3,_⟩:=htt _ _ hte
    cases d<;>simp [ZhA] at h3
    subst h3
    exact ⟨e,h1,h2⟩
   ·simp at hby
  ·simp [Zlz] at hby
 obtain ⟨e,hs,he⟩:=hs
 have go:∀A n c,(convert s t (.slice A n c)).run P w=(Conv.bytesToString (.slice A n c)).run P w:=fun A n c=>by
  unfold convert
  simp only[Sem.run_bind,Ys hs,Ys ht,Ys he,Result.andThen_ok]
 have fin:∀(A:Option Addr) (n cap:Nat) (cs:List Value) (L:List Nat) (xs:List (List CT)) (l:List Int) (m:Nat),n=xs.length→0<m→Zew xs=some l→REs w m xs cs L→n≤9223372036854775807→(n=0∨∃b o,A=some ⟨b,o,none⟩∧Qw w b o cs)→∃cv,(convert s t (.slice A n cap)).run P w=.ok cv w∧SVR g w (.p false [.c (.str (Y5 l))]) cv∧svU U (.p false [.c (.str (Y5 l))]):=by
  intro A n cap cs L xs l m hn hm hl hR hsz hA
  obtain ⟨i1,i2⟩:=Zmk hl hR
  have hsz':(Y5 l).size≤9223372036854775807:=by rw [Zqe];omega
  refine ⟨.string (Y5 l),?_,ZkU hsz',Xn _⟩
  rw [go]
  rcases hA with h0 | ⟨b,o,rfl,hc⟩
  ·have:l=[]:=AQ (by omega)
   subst this
   cases A with
   | none=>rfl
   | some a=>
    have h1:=run_loadCells_list (P:=P) w a [] (by simp)
    rw [h0]
    unfold Conv.bytesToString
    simp only[AS] at h1
    simp only[Sem.run_bind,h1,Result.andThen_ok]
    rfl
  ·rw [hn,i2]
   exact ZtK l fun j u hj=>hc j u (by rw [i1];exact hj)
 unfold ZhD at h
 split at h
 ·split at h
  ·rename_i k _ e' m xs d hk
   obtain ⟨l,hl,rfl⟩:=A5.1 h
   have hv:=Zfm hx
   have ho:=hI.obs k
   rw [hk] at ho
   obtain ⟨hm,cs,L,h1,h2,_⟩:=ho
   rw [hv]
   rcases h1.2 with ⟨h3,h4⟩ | ⟨b,o,cap,cur,h3,h4,h5,h6,h7,h8,h9⟩
   ·rw [h3]
    exact fin _ _ _ cs L xs l m (by omega) hm hl h2 (by omega) (.inl rfl)
   ·rw [h3]
    refine fin _ _ _ cs L xs l m rfl hm hl h2 (by unfold maxLen at h7;omega) (.inr ⟨b,o,rfl,fun j u hj=>?_⟩)
    exact Zi8 h1 h3 j u hj
  ·simp at h
 ·obtain ⟨l,hl,rfl⟩:=A5.1 h
  obtain ⟨A,cap,cs,L0,L1,rfl,h2,h3,h5,h6,h7,_⟩:=Zgy hx
  rename_i e' m' xs _
  refine fin _ _ _ cs L1 xs l _ rfl h5 hl h7 (by unfold maxLen at h3;omega) ?_
  rcases Nat.eq_zero_or_pos xs.length with h0 | h0
  ·exact .inl h0
  ·obtain ⟨b,off,h8,h9,hc⟩:=h6.at_ h0
   exact .inr ⟨b,off,h8,hc⟩
 ·simp at h
theorem Zvn [NW] (htt:∀t i,tt t=some i→TOk P t i) (hI:HI W g st.ob w) {s t:Nat} {x v:SV} {vx:Value} (h:ZgY tt st s t x=some v) (hx:SVR g w x vx):∃cv,(convert s t vx).run P w=.ok cv w∧SVR g w v cv∧svU U v:=by
 unfold ZgY at h
 split at h
 ·rename_i hc
  simp only[A7] at hc
  exact Zwa htt hI hc.1 hc.2 h hx
 ·exact Zxe htt h hx
theorem RCs.avr [NW] {e:List CT} {cs:List Value} {L:List Nat}:RCs w e cs L→(∀b∈L,¬g.own b)→ZL (AVR g w) (e.map .c) cs:=by
 induction e generalizing cs L with
 | nil=>intro h _;obtain ⟨rfl,rfl⟩:=h;trivial
 | cons x r ih=>
  rintro ⟨v,cs',L1,L2,rfl,rfl,h1,h2⟩ ho
  exact ⟨⟨L1,h1,fun b m=>ho b (by simp [m])⟩,ih h2 fun b m=>ho b (by simp [m])⟩
theorem Zmu (a:Bool) (e:List CT):Qn U (e.map AV.c):=fun y m=>by
 obtain ⟨x,_,rfl⟩:=AC.1 m;trivial
theorem Zpm [NW] (htt:∀t i,tt t=some i→TOk P t i) {t b lo off:Nat} {cs:List AV} {vs:List Value} {v:SV} (h:cut (tt t) cs off=some v) (hc:Qw w b lo vs) (hr:ZL (AVR g w) cs vs) (hu:Qn U cs):
  ∃cv,(Instr.loadAt t (.pointer (some ⟨b,lo+off,none⟩))).run P w=.ok cv w∧SVR g w v cv∧svU U v:=by
 have hlen:=hr.len
 have one:∀d,P.underlying t=some d→ZqC d=false→∀x,cs[off]?=some x→∃cv,(Instr.loadAt t (.pointer (some ⟨b,lo+off,none⟩))).run P w=.ok cv w∧SVR g w (.p false [x]) cv∧svU U (.p false [x]):=fun d hd ha x hx=>by
  obtain ⟨u,h1,h2⟩:=hr.at hx
  refine ⟨u,?_,⟨x,rfl,h2⟩,fun y m=>by simp at m;subst m;exact hu y (AB hx)⟩
  simp [Instr.loadAt,Instr.sureAddr,loadVar,Zhc hd,ha,load,Sem.run,hc off u h1]
 unfold cut at h
 split at h
 ·rename_i fs n z hti
  split at h<;>simp at h
  rename_i hn
  subst h
  obtain ⟨fields,i,zvs,h1,h2,h3,_⟩:=htt t _ hti
  refine ⟨.agg ((vs.drop off).take n).toArray,?_,⟨_,rfl,(hr.drop off).take n⟩,fun y m=>hu y (AO (AZ m))⟩
  have hl:((vs.drop off).take n).length=i.size:=by simp;omega
  have hload:=run_loadCells_list (P:=P) w ⟨b,lo+off,none⟩ ((vs.drop off).take n) (fun j u hj=>by
   rw [Zdn,AH]
   refine hc _ u ?_
   have hjn:j<n:=by
    have:=(A6.1 hj).1
    simp at this;omega
   rw [Av,if_pos hjn,Aw] at hj
   exact hj)
  rw [hl] at hload
  simp [Instr.loadAt,Instr.sureAddr,loadVar,Zhc h1,ZqC,XF h2,hload]
 ·simp at h
 ·rename_i i hti hne hns
  obtain ⟨x,hx,rfl⟩:=A5.1 h
  cases i with
  | atom z=>obtain ⟨d,zv,i,h1,h2,_⟩:=htt t _ hns;exact one d h1 (Zvv h2) x hx
  | strct fs n z=>exact absurd rfl (hti _ _ _)
  | slice e m b z=>exact one _ (htt t _ hns).1 rfl x hx
  | map kk vk=>
   obtain ⟨kt,et,_,_,_,_,h1,_⟩:=htt t _ hns
   exact one _ h1 rfl x hx
  | ifc=>obtain ⟨ms,h1⟩:=htt t _ hns;exact one _ h1 rfl x hx
  | eqs ks=>exact absurd rfl (hne _)
 ·simp at h
end
end
section
open Go.RowKit
section
variable {P:Program} {W:Zaa} {U:Nat→Prop} {key:Nat} {st:St} {g:Gh} {w:World} {a:Act} {tt:Nat→Option TI}
theorem HI.deep [NW] {ob:Nat→Ob} {k e m:Nat} {xs:List (List CT)} {d:Nat} (hI:HI W g ob w) (hk:ob k=.row e m xs d):0<m∧∃cs L,w.ownsV 0 e m (g.val k) xs.length cs∧REs w m xs cs L∧(∀b∈L,¬g.own b)∧((d=2∧g.O k=(g.val k).ownBlock.toList∧g.D k=L)∨(d=1∧g.O k=(g.val k).ownBlock.toList∧g.D k=[])∨(d=0∧g.O k=[]∧g.D k=[]∧∀b∈(g.val k).ownBlock.toList,¬g.own b)):=by
 have ho:=hI.obs k
 rw [hk] at ho
 obtain ⟨hm,cs,L,h1,h2,h4⟩:=ho
 refine ⟨hm,cs,L,h1,h2,?_,?_⟩
 ·rcases h4 with ⟨_,_,h4⟩ | ⟨_,_,_,h4⟩ | ⟨_,_,_,h4⟩
  ·rintro b mb (⟨j,mj⟩ | hz)
   ·by_cases hjk:j=k
    ·subst hjk
     have:=hI.nodup j
     rw [Ae] at this
     exact this.2.2 b mj b (h4 ▸ mb) rfl
    ·exact hI.apart j k hjk b (by simp [mj]) (by simp [h4,mb])
   ·exact hI.nz (k:=k) (by simp [h4,mb]) hz
  ·exact h4
  ·exact fun b mb=>h4 b (by simp [mb])
 ·rcases h4 with h4 | ⟨q1,q2,q3,_⟩ | ⟨q1,q2,q3,q4⟩
  ·exact .inl h4
  ·exact .inr (.inl ⟨q1,q2,q3⟩)
  ·exact .inr (.inr ⟨q1,q2,q3,fun b mb=>q4 b (by simp [mb])⟩)
theorem HI.deepO [NW] {ob:Nat→Ob} {k e m:Nat} {xs:List (List CT)} {d:Nat} (hI:HI W g ob w) (hk:ob k=.row e m xs d) (hd:¬d=0):0<m∧∃cs L,w.ownsV 0 e m (g.val k) xs.length cs∧REs w m xs cs L∧(∀b∈L,¬g.own b)∧g.O k=(g.val k).ownBlock.toList∧((d=2∧g.D k=L)∨(d=1∧g.D k=[])):=by
 obtain ⟨hm,cs,L,h1,h2,h3,h4⟩:=hI.deep hk
 refine ⟨hm,cs,L,h1,h2,h3,?_⟩
 rcases h4 with ⟨q1,q2,q3⟩ | ⟨q1,q2,q3⟩ | ⟨q1,_⟩
 ·exact ⟨q2,.inl ⟨q1,q3⟩⟩
 ·exact ⟨q2,.inr ⟨q1,q3⟩⟩
 ·exact absurd q1 hd
theorem REs.at {m:Nat}:∀{xs:List (List CT)} {cs:List Value} {L:List Nat} {i:Nat} {e:List CT},REs w m xs cs L→xs[i]?=some e→
  ∃c L',RCs w e c L'∧c.length=m∧(∀b∈L',b∈L)∧∀j u,c[j]?=some u→cs[i * m+j]?=some u
 | [],_,_,_,_,_,h=>by simp at h
 | x::r,_,_,0,e,⟨c1,c2,L1,L2,rfl,rfl,h3,h4⟩,h=>by
  simp at h;subst h
  exact ⟨c1,L1,h3.1,h3.2,fun b mb=>by simp [mb],fun j u hu=>by
   rw [Nat.zero_mul,AL,Ak (A6.1 hu).1];exact hu⟩
 | x::r,_,_,i+1,e,⟨c1,c2,L1,L2,rfl,rfl,h3,h4⟩,h=>by
  obtain ⟨c,L',a1,a2,a3,a4⟩:=REs.at h4 (i:=i) (e:=e) (by simpa using h)
  refine ⟨c,L',a1,a2,fun b mb=>by simp [a3 b mb],fun j u hu=>?_⟩
  have hl:=h3.2
  rw [List.getElem?_append_right (by rw [AP];omega)]
  rw [←a4 j u hu]
  congr 1
  rw [hl,AP];omega
theorem REs.len {m:Nat}:∀{xs:List (List CT)} {cs:List Value} {L:List Nat},REs w m xs cs L→cs.length=xs.length * m
 | [],_,_,h=>by simp [h.1]
 | x::r,_,_,⟨c1,c2,L1,L2,rfl,rfl,h3,h4⟩=>by simp [h3.2,REs.len h4,AP];omega
theorem ZBH [NW] (htt:∀t i,tt t=some i→TOk P t i) (hI:HI W g st.ob w) (hU:StU U st) {t e m bytes:Nat} {z:List AV} (hti:tt t=some (.slice e m bytes z)) {x i v:SV} {vx vi:Value} (h:Za9 st m x i=some v) (hx:SVR g w x vx) (hxu:svU U x) (hi:SVR g w i vi):
  ∃cv,(Instr.indexAt t vx vi).run P w=.ok cv w∧SVR g w v cv∧svU U v:=by
 obtain ⟨hu,hm,_,⟨ie,zv,hie,hsz,_⟩,_⟩:=htt t _ hti
 have run:∀(b o n c:Nat) (k:IntKind) (q:Int),0≤q→q<n→(Instr.indexAt t (.slice (some ⟨b,o,none⟩) n c) (.int k q)).run P w=.ok (.pointer (some ⟨b,o+q.toNat * m,none⟩)) w:=fun b o n c k q h0 h1=>by
  simp [Instr.indexAt,asIntOf,Ys hu,h0,h1,XF hie,hsz,Zdn]
 unfold Za9 at h
 split at h
 ·have ei:=Zbz hi
  subst ei
  split at h
  ·rename_i hq
   obtain ⟨x,hx1,rfl⟩:=A5.1 h
   obtain ⟨A,cap,cs,L0,L1,rfl,h2,h3,h5,h6,h7,ho⟩:=Zgy hx
   obtain ⟨h0,rfl⟩:=hq
   have hlt:=(A6.1 hx1).1
   obtain ⟨b,off,rfl,rfl,hc⟩:=h6.at_ (by omega)
   obtain ⟨c,L',a1,a2,a3,a4⟩:=h7.at hx1
   refine ⟨_,run b off _ _ _ _ h0 (by omega),⟨b,off+_,c,L',by rw [Nat.add_zero],fun j u hj=>?_,a1,fun y my=>?_,?_⟩,trivial⟩
   ·rw [AH];exact hc _ u (a4 j u hj)
   ·rcases AM.1 my with rfl | my
    ·exact ho _ (by simp)
    ·exact ho _ (by simp [a3 y my])
   ·exact h6.lt h5 b (by simp)
  ·simp at h
 ·rename_i k _ _
  have ei:=Zbz hi
  subst ei
  split at h
  ·rename_i e' m' xs d hk
   split at h
   ·rename_i hq
    obtain ⟨h0,h1,rfl⟩:=hq
    simp only[A4] at h
    subst h
    have hv:=Zfm hx
    subst hv
    obtain ⟨_,cs,L,o1,_⟩:=hI.deep hk
    rcases o1.2 with ⟨_,hn⟩ | ⟨b,o,cap,cur,hv,_⟩
    ·omega
    ·refine ⟨_,by rw [hv];exact run b o _ _ _ _ h0 h1,⟨b,o,_,_,hv,by simp⟩,by have:=hxu (.row k) (by simp);exact this⟩
   ·simp at h
  ·simp at h
 ·simp at h
theorem ZxJ [NW] (htt:∀t i,tt t=some i→TOk P t i) {t:Nat} {x i v:SV} {vx vi:Value} (h:Zl3 (tt t) x i=some v) (hx:SVR g w x vx) (hi:SVR g w i vi):
  ∃cv,(Instr.index t vx vi).run P w=.ok cv w∧SVR g w v cv∧svU U v:=by
 unfold Zl3 at h
 split at h
 ·have ei:=Zbz hi
  subst ei
  obtain ⟨rfl,_⟩:=Zh1 hx
  split at h
  ·rename_i hq
   obtain ⟨b,hb,rfl⟩:=A5.1 h
   refine ⟨_,?_,Zbv _ _,Xn _⟩
   simp [Instr.index,asIntOf,Ys (Zhb htt hq.2),hq.1,hb]
  ·simp at h
 ·simp at h
theorem ZsS [NW] {e:List CT} {v:Value} (h:SVR g w (.p false [.c (.pt e)]) v):∃b cs L,v=.pointer (some ⟨b,0,none⟩)∧b<w.heap.size∧Qw w b 0 cs∧RCs w e cs L∧∀x∈b::L,¬g.own x:=by
 obtain ⟨x,hx,h⟩:=h
 simp at hx
 subst hx
 obtain ⟨_,⟨b,cs,L,h1,h2,rfl,h4,h5⟩,ho⟩:=h
 exact ⟨b,cs,L,h1,h2,h4,h5,ho⟩
theorem ZsY [NW] (htt:∀t i,tt t=some i→TOk P t i) (hI:HI W g st.ob w) (hU:StU U st) {t:Nat} {x v:SV} {vx:Value} (h:Qt st (tt t) x=some v) (hx:SVR g w x vx):
  ∃cv,(Instr.loadAt t vx).run P w=.ok cv w∧SVR g w v cv∧svU U v:=by
 unfold Qt at h
 split at h
 ·rename_i k off
  split at h
  ·rename_i tb cs hk
   obtain ⟨b,h1,rfl⟩:=hx
   have ho:=hI.obs k
   rw [hk] at ho
   obtain ⟨b',vs,o1,o2,o3,o4,o5⟩:=ho
   have hb:b=b':=by rw [o1] at h1;simpa using h1.symm
   subst hb
   have hu:=hU.ob k
   rw [hk] at hu
   have hc:Qw w b 0 vs:=fun j u hj=>by
    rw [AL,cell_of_row w b j vs.toArray tb (0,0) o4];simpa using hj
   have:=Zpm (P:=P) htt h hc o5 hu
   simpa using this
  ·simp at h
 ·rename_i k m i off
  split at h
  ·rename_i e m' xs d hk
   obtain ⟨x,hx1,h'⟩:=AE.1 h
   obtain ⟨b,o,n,c,h1,rfl⟩:=hx
   obtain ⟨hm,cs,L,o1,o2,o3,_⟩:=hI.deep hk
   split at h'
   ·rename_i hmm
    subst hmm
    obtain ⟨c',L',a1,a2,a3,a4⟩:=o2.at hx1
    have hc:Qw w b (o+i * m) c':=fun j u hj=>by
     rw [AH]
     exact Zi8 o1 h1 (i * m+j) u (a4 j u hj)
    rw [←AH]
    exact Zpm htt h' hc (a1.avr fun y my=>o3 y (a3 y my)) (Zmu true _)
   ·simp at h'
  ·simp at h
 ·obtain ⟨b,lo,cs,L,rfl,h2,h3,h4,h5⟩:=hx
  exact Zpm htt h h2 (h3.avr fun y my=>h4 y (by simp [my])) (Zmu true _)
 ·obtain ⟨b,cs,L,rfl,h2,h3,h4,h5⟩:=ZsS hx
  have:=Zpm (P:=P) (U:=U) htt h h3 (h4.avr fun y my=>h5 y (by simp [my])) (Zmu true _)
  simpa using this
 ·simp at h
theorem Zzb [NW] {d:Nat} {x v:SV} {vx:Value} (h:ZjO d x=some v) (hx:SVR g w x vx) (hu:svU U x):∃b o,vx=.pointer (some ⟨b,o,none⟩)∧SVR g w v (.pointer (some ⟨b,o+d,none⟩))∧svU U v:=by
 unfold ZjO at h
 split at h<;>simp at h<;>subst h
 ·obtain ⟨b,h1,rfl⟩:=hx;exact ⟨b,_,rfl,⟨b,h1,rfl⟩,hu⟩
 ·obtain ⟨b,o,n,c,h1,rfl⟩:=hx;exact ⟨b,_,rfl,⟨b,o,n,c,h1,by simp only[AH]⟩,hu⟩
 ·obtain ⟨b,lo,cs,L,rfl,h⟩:=hx;exact ⟨b,_,rfl,⟨b,lo,cs,L,by rw [AH],h⟩,trivial⟩
 ·obtain ⟨b,cs,L,rfl,h2,h3,h4,h5⟩:=ZsS hx
  exact ⟨b,0,rfl,⟨b,0,cs,L,rfl,h3,h4,h5,h2⟩,trivial⟩
theorem ZBI [NW] (htt:∀t i,tt t=some i→TOk P t i) {t f n:Nat} {fs:List FI} {z:List AV} (hti:tt t=some (.strct fs n z)) {fi:FI} (hf:fs[f]?=some fi) {x v:SV} {vx:Value} (h:ZjO fi.off x=some v) (hx:SVR g w x vx) (hu:svU U x):
  ∃cv,(Instr.fieldAt t vx f).run P w=.ok cv w∧SVR g w v cv∧svU U v:=by
 obtain ⟨b,o,rfl,h1,h2⟩:=Zzb h hx hu
 obtain ⟨fields,i,zvs,u1,_,_,_,_,u2⟩:=htt t _ hti
 obtain ⟨fl,e1,e2,e3,j,d,e4,e5,_⟩:=u2.at hf
 have e1':fields[f]?=some fl:=by simpa using e1
 refine ⟨_,?_,h1,h2⟩
 simp [Instr.fieldAt,Ys u1,e1',Instr.sureAddr,fieldPlace,XF e4,e5,e3,Zdn,e2]
theorem ZzE [NW] (htt:∀t i,tt t=some i→TOk P t i) {t f n:Nat} {fs:List FI} {z:List AV} (hti:tt t=some (.strct fs n z)) {x v:SV} {vx:Value} (h:Zly fs f x=some v) (hx:SVR g w x vx) (hu:svU U x):
  ∃cv,(Instr.field t vx f).run P w=.ok cv w∧SVR g w v cv∧svU U v:=by
 unfold Zly at h
 split at h
 ·rename_i cs
  obtain ⟨fi,hf,h⟩:=AE.1 h
  obtain ⟨vs,rfl,hr⟩:=hx
  obtain ⟨fields,i,zvs,u1,_,_,_,_,u2⟩:=htt t _ hti
  obtain ⟨fl,e1,e2,e3,j,d,e4,e5,e6,e7⟩:=u2.at hf
  have e1':fields[f]?=some fl:=by simpa using e1
  have hlen:=hr.len
  split at h
  ·rename_i ha
   split at h<;>simp at h
   rename_i hn
   subst h
   refine ⟨.agg ((vs.drop fi.off).take fi.size).toArray,?_,⟨_,rfl,(hr.drop _).take _⟩,fun y m=>hu y (AO (AZ m))⟩
   simp [Instr.field,Ys u1,e1',asAgg,part,Zhc e6,e7,ha,XF e4,e5,e2]
  ·rename_i ha
   obtain ⟨y,hy,rfl⟩:=A5.1 h
   obtain ⟨u,b1,b2⟩:=hr.at hy
   refine ⟨u,?_,⟨y,rfl,b2⟩,fun z mz=>by simp at mz;subst mz;exact hu z (AB hy)⟩
   simp [Instr.field,Ys u1,e1',asAgg,part,Zhc e6,e7,ha,e2,b1]
 ·simp at h
theorem ZwN [NW] {c:Bool} {x y:SV} {vc vx vy:Value} (hc:SVR g w (.p false [.c (.bool c)]) vc) (hx:SVR g w x vx∧svU U x) (hy:SVR g w y vy∧svU U y):
  ∃cv,(do pure (Next.value (if ←asBool vc then vx else vy)):Sem Next).run P w=.ok (.value cv) w∧SVR g w (if c=true then x else y) cv∧svU U (if c=true then x else y):=by
 have:=ZfE hc
 subst this
 cases c
 ·exact ⟨vy,by simp [asBool],by simpa using hy.1,by simpa using hy.2⟩
 ·exact ⟨vx,by simp [asBool],by simpa using hx.1,by simpa using hx.2⟩
theorem Zy1 [NW] {i:Nat} {x v:SV} {vx:Value} (h:Zwp i x=some v) (hx:SVR g w x vx) (hu:svU U x):∃cv,(Instr.extract vx i).run P w=.ok cv w∧SVR g w v cv∧svU U v:=by
 unfold Zwp at h
 split at h
 ·obtain ⟨y,hy,rfl⟩:=A5.1 h
  obtain ⟨vs,rfl,hr⟩:=hx
  obtain ⟨u,b1,b2⟩:=hr.at hy
  exact ⟨u,by simp [Instr.extract,b1],b2,hu y (AB hy)⟩
 ·simp at h
theorem ZvD [NW] {lo:Bool} {x y v:SV} {vx vy:Value} {ts:Array TypeId} {ty:TypeId} (h:Zwm lo x y=some v) (hx:SVR g w x vx) (hy:SVR g w y vy):
  ∃cv,((if lo then Builtin.min_ ts ty #[vx,vy] else Builtin.max_ ts ty #[vx,vy]):Sem Value).run P w=.ok cv w∧SVR g w v cv∧svU U v:=by
 unfold Zwm at h
 split at h
 ·have ex:=Zbz hx
  have ey:=Zbz hy
  subst ex ey
  simp only[A4] at h
  subst h
  refine ⟨_,?_,Zbv _ _,Xn _⟩
  cases lo
  ·simp [Builtin.max_,Builtin.max2]
  ·simp [Builtin.min_,Builtin.min2]
 ·simp at h
end
end
section
open Go.RowKit
theorem ZfC {α:Type} (l:List α) (off:Nat) (vs:List α) (h:off+vs.length≤l.length):(splice l off vs).length=l.length:=by
 simp [splice];omega
theorem ZpP {α:Type} (l:List α) (n:Nat) (v:α) (r:List α) (h:n+(r.length+1)≤l.length):splice (l.set n v) (n+1) r=splice l n (v::r):=by
 unfold splice
 have e1:(l.set n v).take (n+1)=l.take n++[v]:=by
  rw [List.take_succ_eq_append_getElem (by simp;omega)]
  simp [List.take_set_of_le]
 have e2:(l.set n v).drop (n+1+r.length)=l.drop (n+(v::r).length):=by
  rw [List.drop_set_of_lt (by omega)]
  congr 1
  simp;omega
 rw [e1,e2];simp
theorem Zoa [NW] (off:Nat):∀(vs:List Value) (k:Nat) (cells:Array Value),off+k+vs.length≤cells.size→
  (vs.zipIdx k).foldl (fun (cs:Array Value) (p:Value × Nat)=>cs.setIfInBounds (off+p.2) p.1) cells=(splice cells.toList (off+k) vs).toArray
 | [],k,cells,h=>by simp [splice]
 | v::r,k,cells,h=>by
  rw [List.zipIdx_cons,Ac,Zoa off r (k+1) _ (by simp at h ⊢;omega)]
  have:=ZpP cells.toList (off+k) v r (by simpa using h)
  rw [←this]
  simp [AH]
theorem Zl2 [NW] (off:Nat) (v:Value) (vs:List Value) (hv:v.cells=vs.toArray) (cells:Array Value) (h:off+vs.length≤cells.size):
  v.cells.zipIdx.foldl (fun cs (c,j)=>cs.setIfInBounds (off+j) c) cells=(splice cells.toList off vs).toArray:=by
 have:=Zoa off vs 0 cells (by simpa using h)
 rw [hv,←Array.foldl_toList]
 simpa using this
section
variable {P:Program} {W:Zaa} {U:Nat→Prop} {key:Nat} {st:St} {g:Gh} {w:World} {a:Act} {tt:Nat→Option TI}
theorem ZL.splice {α β:Type} {R:α→β→Prop} {l vs:List α} {r us:List β} (h:ZL R l r) (h':ZL R vs us) (off:Nat):ZL R (splice l off vs) (splice r off us):=by
 unfold Go.Proofs.YtfehfkfdfmcgfaaGreatDoor.splice
 rw [h'.len]
 exact (h.take _).append (h'.append (h.drop _))
theorem Zkl {l vs:List AV} (h:Qn U l) (h':Qn U vs) (off:Nat):Qn U (splice l off vs):=by
 intro y m
 unfold splice at m
 rcases A2.1 m with m | m
 ·exact h y (AZ m)
 ·rcases A2.1 m with m | m
  ·exact h' y m
  ·exact h y (AO m)
theorem ZsQ [NW] {place:Nat→Option (Nat × Nat)} {fs:List FI} (hp:∀i fi,fs[i]?=some fi→place i=some (fi.off,fi.size)):
  ∀{parts:List (Nat × SV)} {ps:List (Nat × Value)} {cs cs':List AV} {vs:List Value},ZiY fs cs parts=some cs'→ZL (fun p q=>p.1=q.1∧SVR g w p.2 q.2∧svU U p.2) parts ps→ZL (AVR g w) cs vs→Qn U cs→
   ∃vs':List Value,Instr.fill place vs.toArray ps=some vs'.toArray∧ZL (AVR g w) cs' vs'∧Qn U cs'
 | [],[],cs,cs',vs,h,_,hr,hu=>by simp [ZiY] at h;subst h;exact ⟨vs,rfl,hr,hu⟩
 | [],_::_,_,_,_,_,h,_,_=>h.elim
 | _::_,[],_,_,_,_,h,_,_=>h.elim
 | (i,s)::r,(j,v)::ps,cs,cs',vs,h,⟨⟨e,hs,hsu⟩,hps⟩,hr,hu=>by
  simp only at e hs hsu
  subst e
  cases s with
  | p ag us=>
   simp only[ZiY] at h
   obtain ⟨f,hf,h⟩:=AE.1 h
   split at h
   ·rename_i hl
    obtain ⟨us',c1,c2⟩:=PVR.cells hs
    have hlen:=c2.len
    have hlen2:=hr.len
    obtain ⟨vs',d1,d2,d3⟩:=ZsQ hp h hps (hr.splice c2 f.off) (Zkl hu hsu f.off)
    refine ⟨vs',?_,d2,d3⟩
    have hcs:v.cells.size=us'.length:=by simp [c1]
    rw [Instr.fill,hp i f hf]
    simp only
    rw [if_neg (by simp [hcs];omega),Zl2 f.off v us' c1 _ (by simp;omega)]
    simpa using d1
   ·simp at h
  | _=>simp [ZiY] at h
theorem ZL.of_map {α β γ:Type} {R:β→γ→Prop} (f:α→β) (h:α→γ):∀{l:List α},(∀x∈l,R (f x) (h x))→ZL R (l.map f) (l.map h)
 | [],_=>trivial
 | x::l,hh=>⟨hh x (by simp),ZL.of_map f h fun y m=>hh y (by simp [m])⟩
theorem Zh6 [NW]:∀{z:List AV} {zvs:List Value},ZL (fun a v=>Zai a v=true) z zvs→ZL (AVR g w) z zvs∧Qn U z
 | [],[],_=>⟨trivial,fun _ m=>by simp at m⟩
 | x::z,v::zvs,h=>by
  obtain ⟨h1,h2⟩:=Zh6 (z:=z) (zvs:=zvs) h.2
  refine ⟨⟨Ze6 h.1,h1⟩,fun y m=>?_⟩
  rcases AM.1 m with rfl | m
  ·have:=h.1
   cases y<;>first | trivial | simp [Zai] at this
  ·exact h2 y m
 | [],_::_,h=>h.elim
 | _::_,[],h=>h.elim
theorem Znq:∀{fs:List FI} {fields:List Field},ZL (fun (fi:FI) (f:Field)=>f.offset=fi.off∧fi.size≠0∧∃j d,P.info? f.type=some j∧j.size=fi.size∧P.underlying f.type=some d∧ZqC d=fi.agg) fs fields→
  fields.mapM (fun f=>(P.info? f.type).map fun i=>(f.offset,i.size))=some (fs.map fun fi=>(fi.off,fi.size))
 | [],[],_=>rfl
 | fi::fs,f::fields,⟨⟨h1,_,j,d,h2,h3,_⟩,h⟩=>by
  simp [List.mapM_cons,h2,h3,h1,Znq h]
 | [],_::_,h=>h.elim
 | _::_,[],h=>h.elim
theorem Zww [NW] (htt:∀t i,tt t=some i→TOk P t i) (hS:∀t,SVR g w (st.sl t) (a.tmps.getD t undef)) (hU:StU U st) {t n:Nat} {fs:List FI} {z:List AV} (hti:tt t=some (.strct fs n z)) {parts:Array (Nat × Operand)} {cs:List AV} (h:ZiY fs z (parts.toList.map (ZfO tt st fs z))=some cs):
  ∃cv,(Instr.build t (parts.map fun (i,x)=>(i,a.eval x))).run P w=.ok cv w∧SVR g w (.p true cs) cv∧svU U (.p true cs):=by
 obtain ⟨fields,i,zvs,u1,u2,u3,u4,u5,u6⟩:=htt t _ hti
 obtain ⟨hz,hzu⟩:=Zh6 (g:=g) (w:=w) (U:=U) u5
 have hparts:ZL (fun (p:Nat × SV) (q:Nat × Value)=>p.1=q.1∧SVR g w p.2 q.2∧svU U p.2) (parts.toList.map (ZfO tt st fs z)) (parts.toList.map fun p=>(p.1,a.eval p.2)):=by
  refine ZL.of_map _ _ fun p _=>?_
  unfold ZfO
  split
  ·rename_i hc
   rw [hc]
   refine ⟨rfl,?_⟩
   dsimp only
   split
   ·exact ⟨⟨_,rfl,rfl⟩,fun y m=>by simp at m;subst m;trivial⟩
   ·exact ⟨trivial,trivial⟩
  ·have:=Zkm htt hS hU 0 p.2
   exact ⟨rfl,this⟩
 have hpl:∀(i:Nat) (fi:FI),fs[i]?=some fi→((fs.map fun (fi:FI)=>(fi.off,fi.size)).toArray[i]?)=some (fi.off,fi.size):=fun i fi hf=>by simp [hf]
 obtain ⟨vs',d1,d2,d3⟩:=ZsQ hpl h hparts hz hzu
 refine ⟨.agg vs'.toArray,run_build w t _ _ ?_,⟨vs',rfl,d2⟩,d3⟩
 unfold Program.built
 simp only[u1,u2,u4,Znq u6]
 have e:(parts.map fun (x:Nat × Operand)=>(x.1,a.eval x.2)).toList=parts.toList.map fun p=>(p.1,a.eval p.2):=by simp
 have e2:(parts.map fun x=>match x with | (i,x)=>(i,a.eval x))=parts.map fun (x:Nat × Operand)=>(x.1,a.eval x.2):=rfl
 rw [e2,e]
 exact d1
theorem Sl.sub {m n:Nat} {A:Option Addr} {cs:List Value} {L:List Nat} (h:Sl w m A n cs L) (l q cap:Nat) (hm:0<m) (hq:l+q≤n) (hcap:n≤cap):
  ∃A' L',A'=(if cap=l then A else A.map (·.add (l * m)))∧Sl w m A' q ((cs.drop (l * m)).take (q * m)) L'∧∀b∈L',b∈L:=by
 have hlen:=h.1
 have hlm:l * m+q * m≤n * m:=by rw [←AP];exact Nat.mul_le_mul_right m hq
 refine ⟨_,if q=0 then [] else L,rfl,⟨by simp;omega,?_⟩,fun b mb=>?_⟩
 ·by_cases hq0:q=0
  ·exact .inl ⟨hq0,by simp [hq0]⟩
  ·rcases h.2 with ⟨h0,_⟩ | ⟨_,b,off,rfl,rfl,hc⟩
   ·omega
   ·refine .inr ⟨by omega,b,off+l * m,by rw [if_neg (by omega)];simp [Zdn],by simp [hq0],fun j u hj=>?_⟩
    rw [AH]
    refine hc _ u ?_
    have hjq:j<q * m:=by
     have:=(A6.1 hj).1
     simp at this;omega
    rw [Av,if_pos hjq,Aw] at hj
    exact hj
 ·split at mb
  ·simp at mb
  ·exact mb
theorem REs.drop {m:Nat}:∀{xs:List (List CT)} {cs:List Value} {L:List Nat} (l:Nat),REs w m xs cs L→∃L',REs w m (xs.drop l) (cs.drop (l * m)) L'∧∀b∈L',b∈L
 | xs,cs,L,0,h=>⟨L,by simpa using h,fun _ mb=>mb⟩
 | [],cs,L,l+1,h=>⟨[],by obtain ⟨rfl,rfl⟩:=h;simp [REs],by simp⟩
 | x::r,_,_,l+1,⟨c1,c2,L1,L2,rfl,rfl,h3,h4⟩=>by
  obtain ⟨L',h5,h6⟩:=REs.drop l h4
  refine ⟨L',?_,fun b mb=>by simp [h6 b mb]⟩
  have e:(l+1) * m=c1.length+l * m:=by rw [h3.2,AP];omega
  have e2:(c1++c2).drop (c1.length+l * m)=c2.drop (l * m):=by
   rw [List.drop_append,List.drop_of_length_le (Nat.le_add_right _ _),List.nil_append,Nat.add_sub_cancel_left]
  rw [e,e2]
  simpa using h5
theorem REs.take {m:Nat}:∀{xs:List (List CT)} {cs:List Value} {L:List Nat} (l:Nat),REs w m xs cs L→∃L',REs w m (xs.take l) (cs.take (l * m)) L'∧∀b∈L',b∈L
 | xs,cs,L,0,h=>⟨[],by simp [REs],by simp⟩
 | [],cs,L,l+1,h=>⟨[],by obtain ⟨rfl,rfl⟩:=h;simp [REs],by simp⟩
 | x::r,_,_,l+1,⟨c1,c2,L1,L2,rfl,rfl,h3,h4⟩=>by
  obtain ⟨L',h5,h6⟩:=REs.take l h4
  refine ⟨L1++L',?_,fun b mb=>by
   rcases A2.1 mb with mb | mb
   ·simp [mb]
   ·simp [h6 b mb]⟩
  have e:(l+1) * m=c1.length+l * m:=by rw [h3.2,AP];omega
  rw [e,List.take_length_add_append]
  exact ⟨c1,_,L1,L',rfl,rfl,h3,h5⟩
theorem Zoh {k:IntKind} {i:Int} {y:Nat} {code:BoundsCode} (h0:0≤i) (h1:i≤y):(Instr.sliceBound (.int k i) y code).run P w=.ok i.toNat w:=by
 simp [Instr.sliceBound,asIntOf,h0,h1]
def ZlY [NW] (g:Gh) (w:World):Option SV→Option Value→Prop
 | none,none=>True
 | some s,some u=>SVR g w s u
 | _,_=>False
theorem Zin [NW] {lo hi:Option SV} {vlo vhi:Option Value} {len cap l h:Nat} {b:Bool} (hh:hiB len hi=some h) (hl:loB h lo=some l) (hlo:ZlY g w lo vlo) (hhi:ZlY g w hi vhi) (hc:len≤cap):
  (Instr.sliceBounds b len cap vlo vhi none).run P w=.ok (l,h,cap) w∧l≤h∧h≤len:=by
 have e1 : ((match vhi, (none : Option Value) with | some v, some _ => Instr.sliceBound v cap .slice3B | some v, none => Instr.sliceBound v cap (if b then .sliceAcap else .sliceAlen) | none, none => pure len | none, some _ => stuck "Slice: max without high") : Sem Nat).run P w = .ok h w ∧ h ≤ len := by
  unfold hiB at hh
  split at hh
  ·simp only[A4] at hh
   subst hh
   cases vhi with
   | none=>exact ⟨rfl,AF _⟩
   | some v=>exact hhi.elim
  ·split at hh<;>simp only[A4,reduceCtorEq] at hh
   rename_i hq
   subst hh
   cases vhi with
   | none=>exact hhi.elim
   | some v=>
    have e:=Zbz hhi
    subst e
    exact ⟨Zoh hq.1 (by omega),by omega⟩
  ·simp at hh
 have e2:((match vlo with | some v=>Instr.sliceBound v h .sliceB | none=>pure 0):Sem Nat).run P w=.ok l w∧l≤h:=by
  unfold loB at hl
  split at hl
  ·simp only[A4] at hl
   subst hl
   cases vlo with
   | none=>exact ⟨rfl,Nat.zero_le _⟩
   | some v=>exact hlo.elim
  ·split at hl<;>simp only[A4,reduceCtorEq] at hl
   rename_i hq
   subst hl
   cases vlo with
   | none=>exact hlo.elim
   | some v=>
    have e:=Zbz hlo
    subst e
    exact ⟨Zoh hq.1 hq.2,by omega⟩
  ·simp at hl
 refine ⟨?_,e2.2,e1.2⟩
 unfold Instr.sliceBounds
 simp only[Sem.run_bind,Sem.run_pure,Result.andThen_ok,Option.isSome_none,A8,if_false]
 have e1':=e1.1
 have e2':=e2.1
 cases vhi<;>cases vlo<;>simp_all
theorem Zqs [NW] (htt:∀t i,tt t=some i→TOk P t i) {t:Nat} {x v:SV} {lo hi:Option SV} {vx:Value} {vlo vhi:Option Value} (h:Zlx (tt t) lo hi x=some v) (hx:SVR g w x vx)
  (hlo:ZlY g w lo vlo) (hhi:ZlY g w hi vhi):∃cv,(Instr.sliceAt t vx vlo vhi none).run P w=.ok cv w∧SVR g w v cv∧svU U v:=by
 unfold Zlx at h
 split at h
 ·rename_i s
  split at h
  ·rename_i hstr
   have hu:=Zhb htt hstr
   obtain ⟨q,hq,h⟩:=AE.1 h
   obtain ⟨l,hl,rfl⟩:=A5.1 h
   obtain ⟨rfl,hs⟩:=Zh1 hx
   obtain ⟨b1,b2,b3⟩:=Zin (P:=P) (b:=false) hq hl hlo hhi (AF _)
   refine ⟨_,?_,ZkU (by rw [ByteArray.size_extract];omega),Xn _⟩
   simp [Instr.sliceAt,Ys hu,Instr.slice,b1]
  ·simp at h
 ·rename_i e m xs
  split at h
  ·rename_i hsz
   obtain ⟨q,hq,h⟩:=AE.1 h
   obtain ⟨l,hl,rfl⟩:=A5.1 h
   obtain ⟨A,cap,cs,L0,L1,rfl,h2,h3,h5,h6,h7,ho⟩:=Zgy hx
   obtain ⟨b1,b2,b3⟩:=Zin (P:=P) (b:=true) hq hl hlo hhi h2
   obtain ⟨e',b',z',hti⟩:∃e' b' z',tt t=some (.slice e' m b' z'):=by
    unfold ZjR at hsz
    split at hsz
    ·rename_i h1;subst hsz;exact ⟨_,_,_,h1⟩
    ·omega
   obtain ⟨hu,_,_,⟨ie,zv,hie,hsi,_⟩,_⟩:=htt t _ hti
   have fin:SVR g w (.p false [.c (.sl e m ((xs.take q).drop l))]) (.slice (if cap=l then A else A.map (·.add (l * m))) (q - l) (cap - l)):=by
    obtain ⟨A',L',rfl,s1,s2⟩:=h6.sub l (q - l) cap h5 (by omega) h2
    obtain ⟨M1,r1,r2⟩:=h7.take q
    obtain ⟨M2,r3,r4⟩:=r1.drop l
    have hlen:((xs.take q).drop l).length=q - l:=by simp;omega
    have e1:(cs.drop (l * m)).take ((q - l) * m)=(cs.take (q * m)).drop (l * m):=by
     rw [List.drop_take,Nat.sub_mul]
    rw [e1] at s1
    refine ⟨_,rfl,L'++M2,⟨_,_,_,L',M2,by rw [hlen],by rw [hlen];omega,by omega,rfl,h5,by rw [hlen];exact s1,r3⟩,fun b mb=>?_⟩
    rcases A2.1 mb with mb | mb
    ·exact ho b (by simp [s2 b mb])
    ·exact ho b (by simp [r2 b (r4 b mb)])
   refine ⟨_,?_,fin,Xn _⟩
   simp [Instr.sliceAt,Ys hu,Instr.slice,b1,XF hie,hsi]
  ·simp at h
 ·simp at h
end
end
section
open Go.RowKit
theorem ZD {α:Type} (f:Nat→α) (k:Nat) (v:α):upd f k v k=v:=by simp [upd]
theorem ZN {α:Type} (f:Nat→α) {k j:Nat} (v:α) (h:j≠k):upd f k v j=f j:=by simp [upd,h]
theorem YR (ob:Nat→Ob) (u v:List (Nat × Ob)):Zp ob (u++v)=Zp (Zp ob u) v:=by
 induction u generalizing ob with
 | nil=>rfl
 | cons p r ih=>exact ih _
theorem Zkb:∀(ks:List Nat) (ob:Nat→Ob) (k:Nat),Zp ob (Zay ks) k=if k∈ks then .gone else ob k
 | [],ob,k=>by simp [Zay,Zp]
 | x::ks,ob,k=>by
  have:Zay (x::ks)=(x,Ob.gone)::Zay ks:=rfl
  rw [this,Zp,Zkb ks]
  by_cases h1:k∈ks
  ·simp [h1]
  ·by_cases h2:k=x
   ·subst h2;simp [upd]
   ·simp [h1,h2,upd]
theorem ZaU [NW] (ks:List Nat) (ob:Nat→Ob) (key:Nat) (o:Ob) (k:Nat):Zp ob (Zay ks++[(key,o)]) k=if k=key then o else if k∈ks then .gone else ob k:=by
 rw [YR]
 simp only[Zp,upd,Zkb]
def Gh.turn (g:Gh) (ks:List Nat) (key:Nat) (v:Value) (O D:List Nat):Gh:=
 ⟨upd g.val key v,fun k=>if k=key then O else if k∈ks then [] else g.O k,fun k=>if k=key then D else if k∈ks then [] else g.D k,g.Z⟩
section
variable {P:Program} {W:Zaa} {U:Nat→Prop} {key:Nat} {st:St} {g:Gh} {w w':World} {a:Act} {tt:Nat→Option TI}
theorem ZeU {ks:List Nat} {v:Value} {O D:List Nat} {b:Nat} (h:(g.turn ks key v O D).own b):b∈O∨(∃k,k∉ks∧k≠key∧b∈g.O k)∨g.Z b:=by
 rcases h with ⟨k,hk⟩ | h
 ·simp only[Gh.turn] at hk
  split at hk
  ·exact .inl hk
  ·rename_i h1
   split at hk
   ·simp at hk
   ·rename_i h2;exact .inr (.inl ⟨k,h2,h1,hk⟩)
 ·exact .inr (.inr h)
theorem Zog {n:Nat} {ks:List Nat} {v:Value} {O D:List Nat} (hO:∀b∈O,(∃k∈ks,b∈g.O k)∨n≤b) (hD:∀b∈D,(∃k∈ks,b∈g.O k++g.D k)∨n≤b):Qj g (g.turn ks key v O D) n:=by
 refine .of (fun b hb=>?_) fun j b mb=>?_
 ·rcases ZeU hb with m | ⟨k,_,_,m⟩ | m
  ·rcases hO b m with ⟨k,_,m⟩ | m
   ·exact .inl (.inl ⟨k,m⟩)
   ·exact .inr m
  ·exact .inl (.inl ⟨k,m⟩)
  ·exact .inl (.inr m)
 ·simp only[Gh.turn] at mb
  split at mb
  ·refine (hD b mb).imp (fun ⟨k,_,mk⟩=>?_) id
   rcases A2.1 mk with m1 | m1
   ·exact .inl (.inl ⟨k,m1⟩)
   ·exact .inr ⟨k,m1⟩
  ·split at mb
   ·simp at mb
   ·exact .inl (.inr ⟨j,mb⟩)
theorem HI.turn [NW] {ob:Nat→Ob} (h:HI W g ob w) (hobU:∀k,obU U (ob k)) (hkey:¬U key) (ks:List Nat) (hks:∀k∈ks,U k)
  (hbel:Bel W w') (hsz:w.heap.size≤w'.heap.size) (hw:∀b,b<w.heap.size→(∀k∈ks,b∉g.O k)→w'.heap[b]?=w.heap[b]?)
  {v:Value} {O D:List Nat} {o:Ob} (hO:∀b∈O,(∃k∈ks,b∈g.O k)∨w.heap.size≤b) (hD:∀b∈D,(∃k∈ks,b∈g.O k++g.D k)∨w.heap.size≤b)
  (hnd:(O++D).Nodup) (hpl:∀b∈O++D,(W.heap.size≤b∨W.x b)∧Xx w' o b)
  (hob:Qj g (g.turn ks key v O D) w.heap.size→ObR (g.turn ks key v O D) w' key o):
  HI W (g.turn ks key v O D) (Zp ob (Zay ks++[(key,o)])) w'∧∀x u,svU U x→SVR g w x u→SVR (g.turn ks key v O D) w' x u:=by
 have hkk:key∉ks:=fun m=>hkey (hks key m)
 have hval:∀k,U k→(g.turn ks key v O D).val k=g.val k:=fun k hk=>ZN _ _ fun e=>hkey (e ▸ hk)
 have hown:Qj g (g.turn ks key v O D) w.heap.size:=Zog hO hD
 have hFnew:∀b∈O++D,(∃k∈ks,b∈g.O k++g.D k)∨w.heap.size≤b:=fun b m=>by
  rcases A2.1 m with m | m
  ·exact (hO b m).imp (fun ⟨k,h1,h2⟩=>⟨k,h1,by simp [h2]⟩) id
  ·exact hD b m
 refine ⟨h.step (fun k=>k=key∨k∈ks) hbel rfl (fun b hb hn=>hw b hb fun k hk=>hn k (.inr hk)) (fun k hk=>?_) hobU hval hown (fun k hk=>?_),fun x u hx hu=>hu.move hx hval (fun b hb hn=>hw b hb fun k _ m=>hn (.inl ⟨k,m⟩)) hown hsz⟩
 ·have h1:k≠key:=fun e=>hk (.inl e)
  have h2:k∉ks:=fun e=>hk (.inr e)
  rw [ZaU]
  simp [Gh.turn,h1,h2,upd]
 ·rw [ZaU]
  by_cases h1:k=key
  ·subst h1
   have eO:(g.turn ks k v O D).O k=O:=by simp [Gh.turn]
   have eD:(g.turn ks k v O D).D k=D:=by simp [Gh.turn]
   rw [if_pos rfl,eO,eD]
   refine ⟨hob hown,hnd,hpl,fun j hj b m mj=>?_⟩
   have hjk:¬j=k:=fun e=>hj e.symm
   by_cases h2:j∈ks
   ·simp [Gh.turn,hjk,h2] at mj
   ·have mj':b∈g.O j++g.D j:=by simpa [Gh.turn,hjk,h2] using mj
    rcases hFnew b m with ⟨q,q1,q2⟩ | q
    ·exact h.apart q j (fun e=>h2 (e ▸ q1)) b q2 mj'
    ·have:=h.lt j b mj';omega
  ·have h2:k∈ks:=hk.resolve_left h1
   have eO:(g.turn ks key v O D).O k=[]:=by simp [Gh.turn,h1,h2]
   have eD:(g.turn ks key v O D).D k=[]:=by simp [Gh.turn,h1,h2]
   rw [if_neg h1,if_pos h2,eO,eD]
   exact ⟨⟨eO,eD⟩,by simp,by simp,by simp⟩
theorem ZiV [NW] (hU:StU U st) (ks:List Nat) {o:Ob} (ho:obU (Uk U key) o):(∀k,obU (Uk U key) (Zp st.ob (Zay ks++[(key,o)]) k))∧∀k,¬Uk U key k→Zp st.ob (Zay ks++[(key,o)]) k=.gone:=by
 constructor
 ·intro k
  rw [ZaU]
  split
  ·exact ho
  ·split
   ·trivial
   ·exact (hU.ob k).mono fun _=>.inl
 ·intro k hk
  rw [ZaU,if_neg (fun e=>hk (.inr (by omega)))]
  split
  ·rfl
  ·exact hU.gone k fun h=>hk (.inl h)
theorem ZjX:Uk U key key:=.inr (by omega)
theorem ZuU [NW] (hI:HI W g st.ob w) (hU:StU U st) (hkey:¬U key) {t:TypeId} {cs:List AV} {vs:List Value} (hr:ZL (AVR g w) cs vs) (hu:Qn U cs) {s:Sem Next}
  (hrun:s.run P w=.ok (.value (.pointer (some ⟨w.heap.size,0,none⟩))) (w.alloc (.cells vs.toArray t))):Fin P W U key st g w s (.bp key 0,[(key,.box t cs)]):=by
 have hb:Below w.heap.size w (w.alloc (.cells vs.toArray t)):=(Below.refl _ _).alloc (AF _) _
 obtain ⟨h1,h2⟩:=hI.turn (key:=key) (U:=U) (w':=w.alloc (.cells vs.toArray t)) (v:=.pointer (some ⟨w.heap.size,0,none⟩)) (O:=[w.heap.size]) (D:=[]) (o:=.box t cs) hU.ob hkey [] (by simp)
  (hI.below.trans hb) hb.size (fun b hb' _=>hb.block b hb') (by simp) (by simp) (by simp) (fun b m=>by
   simp at m;subst m;exact ⟨.inl hI.below.size,_,_,heap_alloc_new w _⟩) (fun hown=>⟨w.heap.size,vs,by simp [Gh.turn,upd],by simp [Gh.turn],by simp [Gh.turn],heap_alloc_new w _,
    AVRs.move hr hu (fun k hk=>ZN _ _ fun e=>hkey (e ▸ hk)) (fun b hb' _=>hb.block b hb') hown⟩)
 have hwf:=ZiV (key:=key) (o:=.box t cs) hU [] (Qn.mono (fun _=>.inl) hu)
 exact ⟨_,_,_,.inl hrun,h1,⟨w.heap.size,by simp [Gh.turn,upd],rfl⟩,h2,ZjX,hwf.1,hwf.2⟩
theorem Zn4 (b:Nat) (cs cs':Array Value) (t:TypeId) (hb:w.heap[b]?=some (.cells cs t (0,0))):(w.setRow b cs').heap[b]?=some (.cells cs' t (0,0))∧(∀k,k≠b→(w.setRow b cs').heap[k]?=w.heap[k]?)∧(w.setRow b cs').heap.size=w.heap.size∧(w.setRow b cs').os=w.os∧(w.setRow b cs').tape=w.tape∧(w.setRow b cs').output=w.output:=by
 refine ⟨setRow_heap w b cs cs' t _ hb,fun k hk=>?_,?_,rfl,rfl,rfl⟩
 ·have hbk:¬b=k:=fun e=>hk e.symm
  simp [World.setRow,Array.getElem?_modify,hbk]
 ·simp [World.setRow]
theorem ZvT [NW] (htt:∀t i,tt t=some i→TOk P t i) (hI:HI W g st.ob w) (hU:StU U st) {t k off tb:Nat} {cs vs:List AV} {va vv:Value} {ag:Bool} (hk:st.ob k=.box tb cs) (hl:vs.length=Zik (tt t)) (ho:off+vs.length≤cs.length)
  (ha:SVR g w (.bp k off) va) (hv:SVR g w (.p ag vs) vv) (hvu:Qn U vs) (hpos:0<vs.length) {s:Sem Next} (hs:s=(do Instr.storeAt t va vv;pure .skip)):Fin P W U key st g w s (.und,[(k,.box tb (splice cs off vs))]):=by
 obtain ⟨b,h1,rfl⟩:=ha
 have hob:=hI.obs k
 rw [hk] at hob
 obtain ⟨b',us,o1,o2,o3,o4,o5⟩:=hob
 have hb:b=b':=by rw [o1] at h1;simpa using h1.symm
 subst hb
 have hlen:=o5.len
 obtain ⟨xs,c1,c2⟩:=PVR.cells hv
 have hxl:=c2.len
 have hcu:=hU.ob k
 rw [hk] at hcu
 obtain ⟨r1,r2,r3,r4,r5,r6⟩:=Zn4 b us.toArray (splice us off xs).toArray tb o4
 have hsize:(sizeOf t).run P w=.ok xs.length w:=by
  rw [←hxl,hl]
  unfold Zik at hl ⊢
  cases hti:tt t with
  | none=>rw [hti] at hl;simp at hl;simp [hl] at hpos
  | some i=>
   cases i with
   | atom z=>obtain ⟨d,zv,i,_,_,h3,_,h4,_⟩:=htt t _ hti;rw [XF h3,h4]
   | strct fs n z=>obtain ⟨_,i,_,_,h3,h4,_⟩:=htt t _ hti;rw [XF h3,h4]
   | slice e m b z=>obtain ⟨_,_,_,_,j,h3,h4,_⟩:=htt t _ hti;rw [XF h3,h4]
   | _=>rw [hti] at hl;simp at hl;simp [hl] at hpos
 have hst:=run_storeCells_at (P:=P) b off tb xs 0 us.toArray w o4 (by simp;omega) (AVRs.one c2)
 have hrun:s.run P w=.ok .skip (w.setRow b (splice us off xs).toArray):=by
  subst hs
  have e:(us.toArray.toList.take (off+0)++xs++us.toArray.toList.drop (off+0+xs.length)).toArray=(splice us off xs).toArray:=by simp [splice]
  rw [e] at hst
  simp [Instr.storeAt,Instr.sureAddr,storeVar,c1,hsize,hst]
 have hmv:∀b',b'<w.heap.size→¬g.own b'→(w.setRow b (splice us off xs).toArray).heap[b']?=w.heap[b']?:=fun b' _ hn=>r2 b' fun e=>hn (.inl ⟨k,by simp [o2,e]⟩)
 have hbW:W.heap.size≤b∨W.x b:=(hI.plain k b (by simp [o2])).1
 refine ⟨g,undef,_,.inr ⟨hrun,rfl⟩,?_,rfl,fun x u hx hu=>hu.move hx (fun _ _=>rfl) hmv (Qj.refl _ _) (by omega),trivial,fun q=>?_,fun q hq=>?_⟩
 ·refine hI.step (U:=U) (fun q=>q=k) ?_ rfl (fun b' _ hn=>r2 b' fun e=>hn k rfl (by simp [o2,e])) (fun q hq=>⟨ZN _ _ hq,rfl,rfl,rfl⟩) hU.ob (fun _ _=>rfl) (Qj.refl _ _) (fun q hq=>?_)
  ·exact ⟨r4.trans hI.below.os,r5.trans hI.below.tape,r6.trans hI.below.output,by have:=hI.below.size;omega,fun q hq hx=>by rw [r2 q (fun e=>by subst e;rcases hbW with h | h;omega;exact hx h)];exact hI.below.block q hq hx⟩
  ·subst hq
   refine ⟨?_,hI.nodup q,fun b' m=>?_,hI.apart q⟩
   ·simp only[Zp,ZD]
    exact ⟨b,_,o1,o2,o3,r1,(AVRs.move o5 hcu (fun _ _=>rfl) hmv (Qj.refl _ _)).splice (AVRs.move c2 hvu (fun _ _=>rfl) hmv (Qj.refl _ _)) off⟩
   ·simp [o2,o3] at m
    subst m
    refine ⟨hbW,?_⟩
    simp only[Zp,ZD]
    exact ⟨_,_,r1⟩
 ·simp only[Zp,upd]
  split
  ·exact Qn.mono (fun _=>.inl) (Zkl hcu hvu off)
  ·exact (hU.ob q).mono fun _=>.inl
 ·simp only[Zp,upd]
  split
  ·rename_i e;subst e
   exact absurd (hU.gone q fun h=>hq (.inl h)) (by simp [hk])
  ·exact hU.gone q fun h=>hq (.inl h)
end
end
end Go.Proofs.YtfehfkfdfmcgfaaGreatDoor
