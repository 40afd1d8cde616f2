/- Texts of this proof, joined: N14, S23, S25, S26, N1, N2, N3, N4, N5, S24, N15, N6, N7, N16, S27, D1, D2, D3, D4, N9, D5, D10, D6, D7, N18, N20, D12, D13, BInv, BRun, BOps1. What each holds is said at its theorems. -/
import Derived.Test.YtnacpkmpdlodoaaGreatDoorSoundQ1
import Derived.Test.YtnacpkmpdlodoaaGreatDoorSoundQ3
import Derived.Test.YtnacpkmpdlodoaaGreatDoorSoundQ2
import Derived.Laws.CopyRow
import Derived.Laws.OwnMore
import Derived.Laws.StructEq
open Array renaming getElem?_eq_some_iff→BC
open Bool renaming and_eq_true→AB
open ByteArray renaming size_extract→Aj
open Go.ByteArray renaming toList_eq→BS
open Int renaming toNat→A9,toNat_natCast→AD,le_refl→B9
open List renaming getElem?_eq_getElem→AA,mem_append→AC,mem_flatMap→AE,mem_of_getElem?→AI,getElem?_eq_some_iff→AK,getElem_mem→AP,length_append→AS,length_cons→AT,getElem?_eq_none→AU,mem_cons→AW,getElem?_cons_succ→AX,getElem?_cons_zero→AY,mem_map→AZ,replicate→Aa,eq_nil_of_length_eq_zero→Ab,dropLast_concat_getLast→Ac,mem_filterMap→Ad,mem_filter→Ae,all_eq_true→Ah,mem_of_mem_drop→Ak,length_take→Am,length_set→An,map_cons→Ap,range'→Aq,append_assoc→Aw,drop_zero→Ax,foldl_cons→Ay,getElem?_append_left→Az,getElem?_append_right→B3,mem_iff_getElem?→B4,length_map→B5,mem_of_mem_take→BB,length_singleton→BD,pairwise_iff_getElem→BF,append_of_mem→BG,append_nil→BH,singleton_append→BI,take_length→BJ,length_nil→BK,getElem?_map→BL,take_append_of_le_length→BM,map_flatMap→BN,take_append_drop→BP
open List.cons renaming inj→BA
open Nat renaming le_refl→AH,zero_add→AL,lt_trichotomy→BE,and_le_right→BO
open Option renaming bind_some→A0,map_eq_some_iff→AN,bind_eq_some_iff→AQ,map_some→As
open Option.some renaming injEq→AJ,inj→AM
open UInt8 renaming ofNat→BR
set_option linter.unusedSimpArgs false
set_option linter.unusedVariables false
set_option maxRecDepth 1000000
set_option maxHeartbeats 4000000
namespace Go.Proofs.YtnacpkmpdlodoaaGreatDoor
noncomputable section
theorem yO{p:Prop}(h:p:=by kernel_rfl):p:=h
theorem yP{α:Type}{a:Option α}{b c:α}(h:a=some b)(e:b=c:=by kernel_rfl):a=some c:=h.trans (congrArg some e)
section
open Classical
def ZaO {α:Type} (p:α->Bool):List α->Nat->Int
 | [],_=>-1
 |x::l,i=>if p x=true then (i:Int) else ZaO p l (i+1)
theorem ZiN {α:Type}{p:α->Bool}:∀{l:List α}{i:Nat},0<=ZaO p l i->∃j x,ZaO p l i=((i+j:Nat):Int)/\l[j]?=some x/\p x=true
 | [],_,h=>by simp [ZaO]at h
 |x::l,i,h=>by
  by_cases A:p x=true
  .exact ⟨0,x,by simp [ZaO,A],rfl,A⟩
  .rw [ZaO,if_neg A]at h ⊢;obtain ⟨j,y,D,C,B⟩:=ZiN h;exact ⟨j+1,y,by rw [D];omega,by simpa using C,B⟩
theorem Zlb {α:Type}{p:α->Bool}:∀{l:List α}{i:Nat},ZaO p l i=-1\/0<=ZaO p l i
 | [],_=>.inl rfl
 |x::l,i=>by
  by_cases A:p x=true
  .right;rw [ZaO,if_pos A];omega
  .rw [ZaO,if_neg A];exact Zlb
theorem ZfC {α σ:Type}{p:α->Bool}{s:σ}{body:Nat->α->σ->Option (σ ⊕ Int)}{fin:σ->Option Int}(B:fin s=some (-1)):∀{l:List α}{i:Nat},(∀i x,x∈l->body i x s=some (bif p x then .inr (i:Int) else .inl s))->forL body fin l i s=some (ZaO p l i)
 | [],_,_=>by rw [Zlm,B];rfl
 |x::l,i,h=>by
  have hx:=h i x yG;by_cases A:p x=true
  .rw [A]at hx;rw [Z5 hx,ZaO,if_pos A]
  .rw [Bool.not_eq_true]at A;rw [A]at hx;rw [ZO hx,ZaO,if_neg (by simp [A])];exact ZfC B (fun i y C=>h i y (by simp [C]))
/- the same as S22's for any row of the right length (its numbers may be any) -/
theorem ZvO {n:Nat}{row:List Int}(h:row.length=n) {y:Int}(A:0<=y) (B:y.toNat<n):atI row y=some (rdN row y):=by
 obtain ⟨v,hv⟩:∃v,row[y.toNat]?=some v:=⟨_,AA yE⟩
 unfold atI rdN;rw [if_pos A,hv];rfl
theorem Zy0 {ρ:Type}{n k:Nat}{row:List Int}(h:row.length=n) {l:List Int}(F:∀y∈l,0<=y/\y.toNat<n) {fin:Unit->Option ρ}{z:ρ}{body:Nat->Int->Unit->Option (Unit ⊕ ρ)}
  (G:∀i y u,body i y u=(atI row y).bind fun x=>if decide (x<0)=true then some (.inr z) else if decide ((k:Int)<=x)=true then some (.inr z) else some (.inl ())):forL body fin l 0 ()=if l.all (Zjl row k)=true then fin () else some z:=by
 rw [Yb (p:=Zjl row k) (r:=z)];intro i y E;obtain ⟨D,C⟩:=F y E;rw [G,ZvO h D C,A0];unfold Zjl;by_cases B:rdN row y<0
 .rw [if_pos (decide_eq_true B),decide_eq_false yE];rfl
 .rw [if_neg (by simpa using B)];by_cases A:(k:Int)<=rdN row y
  .rw [if_pos (decide_eq_true A),decide_eq_false yE];rfl
  .rw [if_neg (by simpa using A),decide_eq_true yE];rfl
theorem ZyJ {ρ:Type}{n:Nat}{row:List Int}(h:row.length=n) {l:List Int}(E:∀y∈l,0<=y/\y.toNat<n) {fin:Unit->Option ρ}{z:ρ}{body:Nat->Int->Unit->Option (Unit ⊕ ρ)}
  (F:∀i y u,body i y u=(atI row y).bind fun x=>if decide (0<=x)=true then some (.inr z) else some (.inl ())):forL body fin l 0 ()=if l.all (Zjh row)=true then fin () else some z:=by
 rw [Yb (p:=Zjh row) (r:=z)];intro i y D;obtain ⟨C,B⟩:=E y D;rw [F,ZvO h C B,A0];unfold Zjh;by_cases A:0<=rdN row y
 .rw [if_pos (decide_eq_true A),decide_eq_false yE];rfl
 .rw [if_neg (by simpa using A),decide_eq_true yE];rfl
theorem ZrX {n k:Nat}{row:List Int}(h:row.length=n) {l:List Int}(A:∀y∈l,0<=y/\y.toNat<n):Qm l row (k:Int)=some (l.all (Zjl row k)):=by
 unfold Qm;rw [Zy0 h A fun i y u=>rfl];cases l.all (Zjl row k)<;>rfl
theorem Zwk {n:Nat}{row:List Int}(h:row.length=n) {l:List Int}(A:∀y∈l,0<=y/\y.toNat<n):Zbf l row=some (l.all (Zjh row)):=by
 unfold Zbf;rw [ZyJ h A fun i y u=>rfl];cases l.all (Zjh row)<;>rfl
def Zub (b:Zl) (s:Int):List Int:=((b.reasons[s.toNat]?).map (·.inn)).getD []
def ZBt (b:Zl) (s:Int):Int:=((b.reasons[s.toNat]?).map (·.for_)).getD 0
def ZBn (b:Zl) (x:Int) (r:Zh):Bool:=decide (r.for_=x/\Zin (rdB b) (rdN (rdB b) x).toNat r)
def ZbP (b:Zl) (x:Int):Int:=if 0<=x/\x<b.nodes/\0<=rdN (rdB b) x then ZaO (ZBn b x) b.reasons 0 else -1
theorem Zf9 {b:Zl}{x:Int}(h:0<=ZbP b x):0<=x/\x<b.nodes/\0<=rdN (rdB b) x/\∃r,b.reasons[(ZbP b x).toNat]?=some r/\r.for_=x/\Zin (rdB b) (rdN (rdB b) x).toNat r:=by
 unfold ZbP at h ⊢;by_cases A:0<=x/\x<b.nodes/\0<=rdN (rdB b) x
 .rw [if_pos A]at h ⊢;obtain ⟨j,r,D,C,B⟩:=ZiN h;refine ⟨A.1,A.2.1,A.2.2,r,?_,of_decide_eq_true B⟩;rw [D];simpa using C
 .rw [if_neg A]at h;omega
theorem Zu6 {b:Zl}{x:Int}(h:0<=ZbP b x):∀y∈Zub b (ZbP b x),(rdN (rdB b) y).toNat<(rdN (rdB b) x).toNat:=by
 obtain ⟨_,_,D,r,C,_,B⟩:=Zf9 h;intro y A;unfold Zub at A;rw [C]at A;have:=B.1 y (by simpa using A);omega
theorem Zx1 {b:Zl}{x:Int}(h:0<=ZbP b x):ZBt b (ZbP b x)=x:=by
 obtain ⟨_,_,C,r,B,A,_⟩:=Zf9 h;unfold ZBt;rw [B];simpa using A
theorem Zvh {b:Zl}(h:Q4 b) {r:Zh}(A:r∈b.reasons) {x:Int}(B:0<=rdN (rdB b) x):Qm r.inn (rdB b) (rdN (rdB b) x)=some (r.inn.all (Zjl (rdB b) (rdN (rdB b) x).toNat)):=by
 have e:(((rdN (rdB b) x).toNat:Nat):Int)=rdN (rdB b) x:=by omega
 have:=ZrX (k:=(rdN (rdB b) x).toNat) h.rd (h.ok r A).2.1
 rwa [e]at this
theorem Zyl {b:Zl}(h:Q4 b) {r:Zh}(A:r∈b.reasons):Zbf r.outs (rdB b)=some (r.outs.all (Zjh (rdB b))):=Zwk h.rd (h.ok r A).2.2
def ZlN (b:Zl) (n:Nat) (x:Int) (l:List Int):Option (List Int):=ZgZ (ZbP b) (Zub b) n x l
theorem Zkr (b:Zl) (n:Nat) (x:Int) (l:List Int) (h:(rdN (rdB b) x).toNat<n):
  ∃r,ZlN b n x l=some r/\Zdb (ZbP b) (Zub b) (fun y=>(rdN (rdB b) y).toNat) ((rdN (rdB b) x).toNat+1) l r/\(0<=ZbP b x->ZbP b x∈r)/\(0<=ZbP b x->ZbP b x∉l->∃t,r=t++[ZbP b x]):=
 Zlq (back:=ZBt b) (fun _ A=>Zu6 A) (fun _ A=>Zx1 A) n x l h
theorem ZyI {b:Zl}{r:List Int}(C:r.Nodup) (h:∀s∈r,∃y,s=ZbP b y/\0<=ZbP b y):r.length<=b.reasons.length:=by
 have hs:∀s∈r,s∈(List.range b.reasons.length).map (fun i=>((i:Nat):Int)):=fun s hs=>by
  obtain ⟨y,D,B⟩:=h s hs
  obtain ⟨_,_,_,q,A,_⟩:=Zf9 B
  rw [<-D]at A B
  exact AZ.2 ⟨s.toNat,List.mem_range.2 (AK.1 A).1,yE⟩
 have:=ZgD C hs
 simpa using this
end
section
open Classical
theorem ZmR {ρ:Type}{l:List Int}(B:l.length<=1000) {fin:List Bool->Option ρ}{body:Nat->Int->List Bool->Option (List Bool ⊕ ρ)}(A:∀i x s,body i x s=chk (s.length+1<=1073741824) (some (.inl (s++[decide (0<=x)])))):forL body fin l 0 []=fin (l.map fun x=>decide (0<=x)):=by
 rw [Zlo (g:=fun x=>decide (0<=x))]
 .rfl
 .intro j x s _ hs;simp at hs;rw [A,Zj _ yE]
theorem Zy7 {b:Zl}(h:Q4 b):Zij b=some ((rdB b).map fun x=>decide (0<=x)):=by
 unfold Zij;have:=h.n1;rw [ZyN h,A0,ZmR (by rw [h.rd];omega) fun i x s=>rfl]
theorem ZuV {b:Zl}(h:Q4 b):ZeD b=some ((rdB b).map fun x=>decide (0<=x)):=by
 unfold ZeD;have:=h.n1;rw [ZhV h,A0,ZmR (by rw [h.rd];omega) fun i x s=>rfl]
theorem ZoC {ρ:Type}{fin:List Za->Option ρ}{body:Nat->Bool->List Za->Option (List Za ⊕ ρ)}{F:List Za}(D:∀f∈F,f.args.length<=1048576) (E:F.length<=1000)
  (C:∀i x s,body i x s=if x=true then (atI F (i:Int)).bind fun f=>(YZ f).bind fun g=>chk (s.length+1<=1073741824) (some (.inl (s++[g]))) else some (.inl s)):
  ∀(a:List Za) (l:List Int) (b acc:List Za),F=b++a->l.length=a.length->acc.length<=b.length->forL body fin (l.map fun x=>decide (0<=x)) b.length acc=fin (acc++XY a l)
 | [],[],b,acc,_,_,_=>by simp [forL,XY]
 | [],_::_,_,_,_,e,_=>by simp at e
 |_::_,[],_,_,_,e,_=>by simp at e
 |f::a,v::l,b,acc,e,el,ha=>by
  have B:F[b.length]?=some f:=by rw [e];simp
  have hlt:=(AK.1 B).1;have ih:=fun c G=>ZoC (fin:=fin) D E C a l (b++[f]) c (by rw [e];simp) (by simpa using el) G;simp only[AS,BD]at ih;rw [Ap];unfold XY;by_cases A:0<=v
  .rw [ZO (s':=acc++[f]) (by
    rw [C,if_pos (decide_eq_true A),Zar,B,A0,Xl _ (D f (AI B)),A0,Zj _ yE]),ih _ (by simp;omega),if_pos A]
   simp
  .rw [ZO (s':=acc) (by rw [C,if_neg (by simpa using A)]),ih _ yE,if_neg A]
theorem Zpu {ρ:Type}{fin:List Za->Option ρ}{body:Nat->Za->List Za->Option (List Za ⊕ ρ)}{L:List Bool}{N:Nat}(F:N<=1000) {z:List Za->ρ}
  (D:∀i x s,body i x s=if decide ((i:Int)<(L.length:Int))=true then chk (0<=(i:Int)/\(i:Int)<(L.length:Int)) ((L[i]?).bind fun v=>if v=true then (Xc x).bind fun g=>chk (s.length+1<=1073741824) (some (.inl (s++[g]))) else some (.inl s)) else some (.inr (z s))):
  ∀(a:List Za) (l:List Int) (b:List Bool) (acc:List Za),(∀f∈a,f.args.length<=1048576)->L=b++(l.map fun x=>decide (0<=x))->l.length=a.length->acc.length<=b.length->b.length+a.length<=N->forL body fin a b.length acc=fin (acc++XY a l)
 | [],[],b,acc,_,_,_,_,_=>by simp [forL,XY]
 | [],_::_,_,_,_,_,e,_,_=>by simp at e
 |_::_,[],_,_,_,_,e,_,_=>by simp at e
 |f::a,v::l,b,acc,hF,e,el,ha,hn=>by
  have C:L[b.length]?=some (decide (0<=v)):=by rw [e];simp
  have hlt:=(AK.1 C).1;have ih:=fun c G=>Zpu (fin:=fin) F D a l (b++[decide (0<=v)]) c (fun g E=>hF g (by simp [E])) (by rw [e];simp) (by simpa using el) G (by simp at hn ⊢;omega);simp only[AS,BD]at ih;simp only[AT]at hn;have B:∀s,body b.length f s=if 0<=v then chk (s.length+1<=1073741824) (some (.inl (s++[f]))) else some (.inl s):=fun s=>by
   rw [D,if_pos (decide_eq_true yE),Zj _ ⟨yE,yE⟩,C,A0];by_cases A:0<=v
   .rw [if_pos (decide_eq_true A),if_pos A,Y6 _ (hF f yG),A0]
   .rw [if_neg (by simpa using A),if_neg A]
  unfold XY;by_cases A:0<=v
  .rw [ZO (s':=acc++[f]) (by rw [B,if_pos A,Zj _ yE]),ih _ (by simp;omega),if_pos A];simp
  .rw [ZO (s':=acc) (by rw [B,if_neg A]),ih _ yE,if_neg A]
theorem Zmm {b:Zl}(h:Q4 b) {F:List Za}(A:∀f∈F,f.args.length<=1048576) (B:b.nodes=(F.length:Int)):Ze0 F b=some (XY F (rdB b)):=by
 have h1:=h.n1;have hr:=h.rd;unfold Ze0;rw [Zy7 h,A0];exact ZoC A yE (fun i x s=>rfl) F (rdB b) [] [] rfl yE (AH _)
theorem ZuT {b:Zl}(h:Q4 b) {F:List Za}(A:∀f∈F,f.args.length<=1048576) (B:b.nodes=(F.length:Int)):Zlh F b=some (XY F (rdB b)):=by
 have h1:=h.n1;have hr:=h.rd;unfold Zlh;rw [ZuV h,A0];exact Zpu (N:=F.length) yE (fun i x s=>rfl) F (rdB b) [] [] A rfl yE (AH _) yG
theorem Ya.args {R:List Zf}{base F:List Za}(h:Ya R base F):∀f∈F,f.args.length<=1048576:=fun f A=>by
 have:=Xh (h.good.ok f A);omega
structure ZEl (M:List Za):Prop where
 len:M.length<=24
 ok:∀f∈M,Yt f=true
theorem ZBM:ZEl []:=⟨yG,yG⟩
theorem Ya.few {R:List Zf}{base F:List Za}(h:Ya R base F) (l:List Int):ZEl (XY F l):=by
 have h1:=h.len;obtain ⟨C,B⟩:=ZqD (F:=F) (l:=l);exact ⟨yE,fun f A=>h.good.ok f (B f A)⟩
theorem Zs7 {R:List Zf}(C:XD R) (base:List Za) (a:base.length<=1048576):∃M B,QK R base=some (M,B)/\Za9 R base=some (M,B)/\ZEl M:=by
 obtain ⟨F,b,B,G,E,D⟩:=Zeo C base a;unfold QK Za9;rw [G,E];rcases D with ⟨rfl,rfl,rfl⟩|⟨rfl,A,rfl,c⟩
 .exact ⟨_,_,rfl,rfl,ZBM⟩
 .have hB:=Q4.of A c;refine ⟨_,true,?_,?_,A.few (rdB { nodes:=(F.length:Int),reasons:=Yg R F base })⟩
  .rw [A0,if_pos rfl,ZuT hB A.args rfl];rfl
  .rw [A0,if_pos rfl,Zmm hB A.args rfl];rfl
theorem Zz7 (l:List Int) (x:Int):Zd4 l x=some (ZvL l x):=ZmG l x
end
section
open Classical
theorem ZrV {b:Zl}(h:Q4 b) (x:Int):XE b x=some (ZbP b x):=by
 unfold XE ZbP;have h0:=h.n0;have h1:=h.n1;have a:=h.rd;rw [ZhV h,A0,Znc yE yE,Zej,A0];by_cases E:0<=x/\x<b.nodes
 .rw [if_pos (by simp;omega),Zj _ ⟨yE,yE⟩];have hg:=ZvO a E.1 yE;unfold atI at hg;rw [if_pos E.1]at hg;rw [hg,A0];by_cases G:rdN (rdB b) x<0
  .rw [if_pos (decide_eq_true G),if_neg yE]
  .rw [if_neg (by simpa using G),if_pos ⟨E.1,E.2,yE⟩];refine ZfC (s:=()) (fin:=fun _=>some (-1)) (p:=ZBn b x) rfl fun i r F=>?_;unfold ZBn;by_cases D:r.for_=x
   .rw [if_pos (by simpa using D),Zvh h F yE,A0];by_cases C:r.inn.all (Zjl (rdB b) (rdN (rdB b) x).toNat)=true
    .rw [if_pos C,Zyl h F,A0];by_cases B:r.outs.all (Zjh (rdB b))=true
     .rw [if_pos B,decide_eq_true (show r.for_=x/\_ from ⟨D,Zcp.1 ⟨C,B⟩⟩)];rfl
     .rw [if_neg B,decide_eq_false (fun A:r.for_=x/\_=>B (Zcp.2 A.2).2)];rfl
    .rw [if_neg C,decide_eq_false (fun A:r.for_=x/\_=>C (Zcp.2 A.2).1)];rfl
   .rw [if_neg (by simpa using D),decide_eq_false (fun A:r.for_=x/\_=>D A.1)];rfl
 .rw [if_neg (by simp;omega),if_neg yE]
end
section
open Classical
structure Zk9 (b:Zl) (l:List Int):Prop where
 nodup:l.Nodup
 sup:∀s∈l,∃y,s=ZbP b y/\0<=ZbP b y
theorem Zy9 (b:Zl):Zk9 b []:=⟨List.nodup_nil,yG⟩
theorem Zk9.len {b:Zl}(h:Q4 b) {l:List Int}(g:Zk9 b l):l.length<=60:=Nat.le_trans (ZyI g.nodup g.sup) h.len
theorem Zqv {b:Zl}(h:Q4 b) {sup:Int->Option Int}{d:List Int->Int->Option Bool}(hs:∀x,sup x=some (ZbP b x)) (J:∀l s,d l s=some (ZvL l s)):
  ∀(n:Nat) (x:Int) (l:List Int),(rdN (rdB b) x).toNat<n->Zk9 b l->∃r,ZfU sup d b n x l=some r/\ZlN b n x l=some r/\Zk9 b r
 |0,_,_,hx,_=>by omega
 |n+1,x,l,hx,hg=>by
  obtain ⟨r,A,L,S,R⟩:=Zkr b (n+1) x l hx;have P:Zk9 b r:=⟨L.nodup hg.nodup,fun s N=>(L.new s N).elim (hg.sup s) (fun ⟨y,a,c,_⟩=>⟨y,a,c⟩)⟩
  refine ⟨r,?_,A,P⟩;rw [ZfU,hs,A0];unfold ZlN at A;rw [ZgZ]at A;by_cases D:ZbP b x<0
  .rw [if_pos (decide_eq_true D)];rw [if_pos (.inl D)]at A;exact A
  .rw [if_neg (by simpa using D),J,A0];by_cases C:ZbP b x∈l
   .rw [if_pos (Zki.2 C)];rw [if_pos (.inr C)]at A;exact A
   .rw [if_neg (by rw [Zki];exact C)];rw [if_neg (fun a=>a.elim D C)]at A;have K:0<=ZbP b x:=by omega
    obtain ⟨_,_,_,q,I,_,_⟩:=Zf9 K;have hi:Zub b (ZbP b x)=q.inn:=by unfold Zub;rw [I];rfl
    have e:∀(B l:List Int),(∀y∈B,(rdN (rdB b) y).toNat<n)->Zk9 b l->∃t,goO (ZfU sup d b n) B l=some t/\goP (ZgZ (ZbP b) (Zub b) n) B l=some t/\Zk9 b t:=by
     intro B;induction B with
     |nil=>intro l _ g;exact ⟨l,rfl,rfl,g⟩
     |cons y B ih=>
      intro l H g;obtain ⟨u,u1,u2,u3⟩:=Zqv h hs J n y l (H y yG) g;obtain ⟨t,G,F,E⟩:=ih u (fun z O=>H z (by simp [O])) u3;unfold ZlN at u2;exact ⟨t,by rw [goO,u1,A0,G],by rw [goP,u2,A0,F],E⟩
    rw [I,A0];rw [hi]at A;obtain ⟨t,G,F,E⟩:=e q.inn l (fun y M=>by have:=Zu6 K y (by rw [hi];exact M);omega) hg;rw [F]at A;rw [G,A0,if_pos (by have:=E.len h;omega)];exact A
structure Zso (b:Zl) (x:Int) (l:List Int):Prop where
 good:Zk9 b l
 ord:Zr8 (ZbP b) (Zub b) l
 none:ZbP b x<0->l=[]
 last:0<=ZbP b x->∃t,l=t++[ZbP b x]
theorem Zyp {b:Zl}(h:Q4 b) {sup:Int->Option Int}{a:List Int->Int->Option Bool}(hs:∀x,sup x=some (ZbP b x)) (G:∀l s,a l s=some (ZvL l s)) (x:Int):
  ∃r,ZfU sup a b ((((rdB b)[x.toNat]?).getD 0).toNat+1) x []=some r/\ZlN b ((((rdB b)[x.toNat]?).getD 0).toNat+1) x []=some r/\Zso b x r:=by
 have B:(rdN (rdB b) x).toNat<(((rdB b)[x.toNat]?).getD 0).toNat+1:=by
  unfold rdN;cases (rdB b)[x.toNat]? with
  |none=>simp
  |some v=>simp
 obtain ⟨r,E,A,D⟩:=Zqv h hs G _ x [] B (Zy9 b);obtain ⟨r',C,J,K,I⟩:=Zkr b _ x [] B;obtain rfl:r=r':=by rw [A]at C;exact AM C
 refine ⟨r,E,A,D,J.ord (Zr8.nil _ _),fun F=>?_,fun H=>I H yG⟩;unfold ZlN at A;rw [ZgZ,if_pos (.inl F)]at A;exact (AM A).symm
theorem Zl8 {b:Zl}(h:Q4 b) (x:Int):∃l,XW b x=some l/\Zso b x l:=by
 obtain ⟨A,C,D,B⟩:=Zyp h (ZrV h) Zz7 x;refine ⟨A,?_,B⟩;unfold XW;rw [ZhV h,A0];exact C
end
section
open Classical
structure ZwH (n:Nat) (R:List Zh) (L:List Int) (s:Int) (row:List Int) (k:Nat):Prop where
 rin:RIn n row k
 low:∀x:Nat,0<=rdN row (x:Int)->lvN L x<s
 supp:∀x:Nat,0<=rdN row (x:Int)->∃r∈R,r.for_.toNat=x/\(∀y∈r.inn,0<=rdN row y/\rdN row y<rdN row (x:Int))/\∀y∈r.outs,rdN row y<0
 clos:∀r∈R,lvN L r.for_.toNat<s->(∀y∈r.inn,0<=rdN row y)->(∀y∈r.outs,rdN row y<0)->0<=rdN row r.for_
theorem Zrq (row:List Int) (y:Int):rdN row y=rdN row (y.toNat:Int):=by unfold rdN;rw [AD]
theorem ZzS {row l:List Int}{k:Nat}{y:Int}(B:y.toNat<row.length):rdN (ZdT row l (k:Int)) y=if ∃x∈l,x.toNat=y.toNat then (k:Int) else rdN row y:=by
 unfold rdN;rw [Zlu];by_cases A:∃x∈l,x.toNat=y.toNat
 .rw [if_pos ⟨A,B⟩,if_pos A];rfl
 .rw [if_neg fun h=>A h.1,if_neg A]
theorem ZCp {row:List Int}{y:Int}(A:¬y.toNat<row.length):rdN row y=-1:=by
 unfold rdN;rw [AU yE];rfl
structure Zyc (n:Nat) (R:List Zh) (L:List Int) (s:Int) (row:List Int) (k:Nat):Prop where
 rin:RIn n row k
 low:∀x:Nat,0<=rdN row (x:Int)->lvN L x<=s
 supp:∀x:Nat,0<=rdN row (x:Int)->∃r∈R,r.for_.toNat=x/\(∀y∈r.inn,0<=rdN row y/\rdN row y<rdN row (x:Int))/\∀y∈r.outs,rdN row y<0
 clos:∀r∈R,lvN L r.for_.toNat<s->(∀y∈r.inn,0<=rdN row y)->(∀y∈r.outs,rdN row y<0)->0<=rdN row r.for_
theorem RIn.lt {n:Nat}{row:List Int}{k:Nat}(h:RIn n row k) (y:Int) (B:0<=rdN row y):y.toNat<n/\rdN row y<(k:Int):=by
 by_cases A:y.toNat<n
 .obtain ⟨v,D,C⟩:=h.val y.toNat A;have e:rdN row y=v:=by unfold rdN;rw [D];rfl
  rw [e]at B ⊢;exact ⟨A,yE⟩
 .rw [ZCp (by rw [h.len];exact A)]at B;omega
theorem Zyc.next {n:Nat}{R:List Zh}{L:List Int}{s:Int}{row:List Int}{k:Nat}(E:∀r∈R,OkN n r) (F:Zjj R (lvN L)) (h:Zyc n R L s row k) (U:YV R L s row k≠[]):Zyc n R L s (ZdT row (YV R L s row k) (k:Int)) (k+1):=by
 have d:=(h.rin.next E U).1;have hlen:=h.rin.len;have a:∀y:Int,y.toNat<n->rdN (ZdT row (YV R L s row k) (k:Int)) y=if ∃x∈YV R L s row k,x.toNat=y.toNat then (k:Int) else rdN row y:=fun y hy=>ZzS yE;have f:∀y:Int,(∃x∈YV R L s row k,x.toNat=y.toNat)->lvN L y.toNat=s/\rdN row y<0:=fun y ⟨x,P,e⟩=>by
  obtain ⟨r,B,M,O,N,_⟩:=ZcP.1 P;rw [<-e];refine ⟨O,?_⟩;rw [Zrq row y,<-e,<-Zrq];exact N
 have H:∀y:Int,0<=rdN row y->rdN (ZdT row (YV R L s row k) (k:Int)) y=rdN row y:=fun y hy=>by
  have hl:=(h.rin.lt y hy).1;rw [a y hl,if_neg fun C=>by have:=(f y C).2;omega]
 have G:∀y:Int,y.toNat<n->lvN L y.toNat<s->rdN (ZdT row (YV R L s row k) (k:Int)) y=rdN row y:=fun y hl hy=>by
  rw [a y hl,if_neg fun C=>by have:=(f y C).1;omega]
 refine ⟨d,fun x C=>?_,fun x C=>?_,fun r B hs hi S=>?_⟩
 .have hl:=(d.lt _ C).1;rw [AD]at hl;rw [a _ (by simpa using hl)]at C;split at C
  .rename_i c;have:=(f (x:Int) c).1;rw [AD]at this;omega
  .exact h.low x C
 .have hl:=(d.lt _ C).1;rw [AD]at hl;by_cases c:∃y∈YV R L s row k,y.toNat=x
  .obtain ⟨y,A,e⟩:=c;obtain ⟨r,B,rfl,O,N,K,J⟩:=ZcP.1 A;have T:rdN (ZdT row (YV R L s row k) (k:Int)) (x:Int)=(k:Int):=by
    rw [a _ (by simpa using hl),if_pos ⟨r.for_,A,by simpa using e⟩]
   refine ⟨r,B,e,fun y b=>?_,fun y b=>?_⟩
   .obtain ⟨D,I⟩:=K y b;rw [H y D,T];exact ⟨D,I⟩
   .have hy:=(E r B).2.2 y b;have:=F.outs r B y b;rw [G y hy.2 yE];exact J y b
  .have e:rdN (ZdT row (YV R L s row k) (k:Int)) (x:Int)=rdN row (x:Int):=by
    rw [a _ (by simpa using hl),if_neg (by simpa using c)]
   rw [e]at C ⊢;obtain ⟨r,B,M,K,J⟩:=h.supp x C;refine ⟨r,B,M,fun y A=>?_,fun y A=>?_⟩
   .obtain ⟨D,I⟩:=K y A;rw [H y D];exact ⟨D,I⟩
   .have hy:=(E r B).2.2 y A;have h5:=F.outs r B y A;have h6:=h.low x C;rw [M]at h5;rw [G y hy.2 yE];exact J y A
 .have g:∀y∈r.inn,0<=rdN row y:=fun y A=>by
   have hy:=(E r B).2.1 y A;have h5:=F.inn r B y A;have:=hi y A
   rwa [G y hy.2 yE]at this
  have i:∀y∈r.outs,rdN row y<0:=fun y A=>by
   have hy:=(E r B).2.2 y A;have h5:=F.outs r B y A;have:=S y A
   rwa [G y hy.2 yE]at this
  have:=h.clos r B hs g i;rw [H _ this];exact this
theorem ZrD {n:Nat}{R:List Zh}{L:List Int}{s:Int}(B:∀r∈R,OkN n r) (C:Zjj R (lvN L)):∀(f:Nat) (row:List Int) (k:Nat),Zyc n R L s row k->ZfM row<=f->Zyc n R L s (Xg R L s f row k).1 (Xg R L s f row k).2
 |0,row,k,h,hf=>h
 |f+1,row,k,h,hf=>by
  unfold Xg;by_cases A:YV R L s row k=[]
  .rw [if_pos A];exact h
  .rw [if_neg A];exact ZrD B C f _ _ (h.next B C A) (by have:=(h.rin.next B A).2;omega)
theorem ZwH.level {n:Nat}{R:List Zh}{L:List Int}{s:Int}{row:List Int}{k:Nat}(F:∀r∈R,OkN n r) (H:Zjj R (lvN L)) (h:ZwH n R L s row k):ZwH n R L (s+1) (Xg R L s n row k).1 (Xg R L s n row k).2:=by
 have D:ZfM row<=n:=by have:=h.rin.few;omega
 have G:Zyc n R L s row k:=⟨h.rin,fun x A=>by have:=h.low x A;omega,h.supp,h.clos⟩
 have h1:=ZrD F H n row k G D;have h2:=(ZeF (L:=L) (s:=s) F n row k h.rin D).2;refine ⟨h1.rin,fun x A=>by have:=h1.low x A;omega,h1.supp,fun r C hs hi E=>?_⟩;by_cases e:lvN L r.for_.toNat=s
 .refine Classical.byContradiction fun I=>?_;have:r.for_∈YV R L s (Xg R L s n row k).1 (Xg R L s n row k).2:=ZcP.2 ⟨r,C,rfl,e,yE,fun y B=>⟨hi y B,(h1.rin.lt y (hi y B)).2⟩,E⟩;rw [h2]at this;simp at this
 .exact h1.clos r C yE hi E
theorem ZoZ {n:Nat}{R:List Zh}{L:List Int}(A:∀r∈R,OkN n r) (B:Zjj R (lvN L)):∀(d s:Nat) (st:List Int×Nat),ZwH n R L (s:Int) st.1 st.2->ZwH n R L ((s+d:Nat):Int) (X1 R L n (Aq s d) st).1 (X1 R L n (Aq s d) st).2
 |0,_,_,h=>h
 |d+1,s,st,h=>by
  have C:ZwH n R L ((s+1:Nat):Int) (Xg R L (s:Int) n st.1 st.2).1 (Xg R L (s:Int) n st.1 st.2).2:=by
   have:=h.level A B
   rwa [show (s:Int)+1=((s+1:Nat):Int) by omega]at this
  have:=ZoZ A B d (s+1) _ C
  rwa [show s+1+d=s+(d+1) by omega]at this
theorem Q4.end {b:Zl}(h:Q4 b):(∀x:Nat,0<=rdN (rdB b) (x:Int)->∃r∈b.reasons,r.for_.toNat=x/\(∀y∈r.inn,0<=rdN (rdB b) y/\rdN (rdB b) y<rdN (rdB b) (x:Int))/\∀y∈r.outs,rdN (rdB b) y<0)/\∀r∈b.reasons,(∀y∈r.inn,0<=rdN (rdB b) y)->(∀y∈r.outs,rdN (rdB b) y<0)->0<=rdN (rdB b) r.for_:=by
 obtain ⟨E,C⟩:=h.lv;have none:∀y:Int,rdN (Aa b.nodes.toNat (-1)) y=-1:=fun y=>by
  unfold rdN;by_cases D:y.toNat<b.nodes.toNat
  .simp [D]
  .rw [AU (by simp;omega)];rfl
 have a:ZwH b.nodes.toNat b.reasons (lvB b) ((0:Nat):Int) (Aa b.nodes.toNat (-1),0).1 (Aa b.nodes.toNat (-1),0).2:=⟨Zjd _,fun x B=>by rw [none]at B;omega,fun x B=>by rw [none]at B;omega,fun r A hs=>by have:=(C r.for_.toNat).1;omega⟩
 have hE:=ZoZ h.ok E.sol b.nodes.toNat 0 _ a;have e:rdB b=(X1 b.reasons (lvB b) b.nodes.toNat (Aq 0 b.nodes.toNat) (Aa b.nodes.toNat (-1),0)).1:=by unfold rdB;rw [List.range_eq_range']
 rw [<-e]at hE;refine ⟨hE.supp,fun r A=>hE.clos r A ?_⟩;have:=C r.for_.toNat;have:=(h.ok r A).1.2;omega
end
section
open Classical
theorem ZyF {M F:List Za}:∀n (l:List Zu),l.length=n->(∀x∈l,¬x.kind=2)->∀t∈ZD l F,(∀f∈t.facts,f∈M)->t∈ZD l M:=by
 intro n;induction n with
 |zero=>
  intro l h _ t A _;rw [Ab h]at A ⊢;exact A
 |succ n ih=>
  intro l h D;obtain ⟨p,x,rfl⟩:∃p x,l=p++[x]:=⟨l.dropLast,l.getLast (by intro e;simp [e]at h),(Ac _).symm⟩
  intro t A E;rw [Xx]at A ⊢;obtain ⟨s,I,A⟩:=AE.1 A;have hx:=D x yG;unfold ZbT at A;by_cases B:x.kind=1
  .rw [if_pos B]at A;obtain ⟨g,N,L⟩:=Ad.1 A;obtain ⟨b,H,rfl⟩:=AN.1 L;have hs:=ih p (by simpa using h) (fun y C=>D y (by simp [C])) s I fun f J=>E f (by simp [J]);refine AE.2 ⟨s,hs,?_⟩;unfold ZbT;rw [if_pos B];exact Ad.2 ⟨g,E g yG,by rw [H];rfl⟩
  .rw [if_neg B]at A;have K:∀G,Zbj x s.binding G=Zbj x s.binding F:=fun G=>by
    unfold Zbj;simp only[if_neg B,if_neg hx]
   split at A
   .rename_i H;simp at A;subst A;have hs:=ih p (by simpa using h) (fun y C=>D y (by simp [C])) t I E;refine AE.2 ⟨t,hs,?_⟩;unfold ZbT;rw [if_neg B,K,if_pos H];simp
   .simp at A
theorem Zzs {R:List Zf}{r:Zf}{M F:List Za}{t:Zw}(A:t∈ZD (QB r) F) (B:∀f∈t.facts,f∈M):t∈ZD (QB r) M:=ZyF _ (QB r) rfl Zq5 t A B
theorem Zxb {r:Zf}{F:List Za}{t:Zw}(A:t∈ZD (QB r) F):∀f∈t.facts,f∈F:=(QL F _ t A).sub
structure ZiM (R:List Zf) (base M:List Za):Prop where
 giv:∀f∈base,f∈M
 clos:∀r∈R,∀t∈ZD (QB r) M,(∀g∈Zli r t,g∉M)->∀a∈r.thn,Yn a t∈M
 supp:∃rank:Za->Nat,∀f∈M,f∈base\/∃r∈R,∃t∈ZD (QB r) M,∃a∈r.thn,Yn a t=f/\(∀g∈t.facts,rank g<rank f)/\∀g∈Zli r t,g∉M
theorem Zrv {f:Za}:∀{F:List Za}{l:List Int},l.length=F.length->(f∈XY F l↔∃i,F[i]?=some f/\0<=rdN l ((i:Nat):Int))
 | [],l,_=>by simp [XY]
 |g::F,[],h=>by simp at h
 |g::F,v::l,h=>by
  have ih:=Zrv (f:=f) (F:=F) (l:=l) (by simpa using h)
  have D:∀i:Nat,rdN (v::l) ((i+1:Nat):Int)=rdN l ((i:Nat):Int):=fun i=>by unfold rdN;rw [AD,AD];simp
  have E:rdN (v::l) ((0:Nat):Int)=v:=by unfold rdN;rfl
  have key:(∃i,(g::F)[i]?=some f/\0<=rdN (v::l) ((i:Nat):Int))↔(g=f/\0<=v)\/∃i,F[i]?=some f/\0<=rdN l ((i:Nat):Int):=by
   constructor
   .rintro ⟨i,B,A⟩
    cases i with
    |zero=>rw [E]at A;exact .inl ⟨by simpa using B,A⟩
    |succ i=>rw [D]at A;exact .inr ⟨i,by simpa using B,A⟩
   .rintro (⟨B,A⟩|⟨i,B,A⟩)
    .exact ⟨0,by simp [B],by rw [E];exact A⟩
    .exact ⟨i+1,by simpa using B,by rw [D];exact A⟩
  rw [key]
  unfold XY
  by_cases C:0<=v
  .rw [if_pos C,AW,ih]
   constructor
   .rintro (h|h)
    .exact .inl ⟨h.symm,C⟩
    .exact .inr h
   .rintro (⟨h,_⟩|h)
    .exact .inl h.symm
    .exact .inr h
  .rw [if_neg C,ih]
   constructor
   .exact .inr
   .rintro (⟨_,h⟩|h)
    .exact absurd h C
    .exact h
theorem Zrn {F:List Za}{f g:Za}(C:f∈F) (B:g∈F) (h:Yd F f=Yd F g):f=g:=by
 obtain ⟨i,G,D⟩:=Za6 C;obtain ⟨j,E,A⟩:=Za6 B;have:i=j:=by omega
 subst this;rw [D]at A;exact AM A
theorem Zy1 {F:List Za}(D:F.Nodup) {j:Nat}{f:Za}(h:F[j]?=some f):Yd F f=(j:Int):=by
 obtain ⟨k,I,H⟩:=Za6 (AI h);obtain ⟨C,G⟩:=AK.1 h;obtain ⟨B,E⟩:=AK.1 H;have:k=j:=by
  rcases BE k j with A|A|A
  .exact absurd (E.trans G.symm) (BF.1 D k j B C A)
  .exact A
  .exact absurd (G.trans E.symm) (BF.1 D j k C B A)
 rw [I,this]
theorem ZzE {F:List Za}(D:F.Nodup) {l:List Int}(C:l.length=F.length) {f:Za}:f∈XY F l↔f∈F/\0<=rdN l (Yd F f):=by
 rw [Zrv C]
 constructor
 .rintro ⟨i,A,B⟩
  exact ⟨AI A,by rw [Zy1 D A];exact B⟩
 .rintro ⟨A,B⟩
  obtain ⟨j,G,E⟩:=Za6 A
  exact ⟨j,E,by rw [<-G];exact B⟩
theorem Zyt {R:List Zf}{base F:List Za}(h:Ya R base F) {rs:List Zh}{c:List Za}(hB:Q4 { nodes:=(F.length:Int),reasons:=rs })
  (k:∀x,x∈rs↔(∃f∈c,x={ for_:=Yd F f,inn:=[],outs:=[] })\/∃r∈R,∃t∈ZD (QB r) F,∃a∈r.thn,x=Yy F r t a) (hg:∀f∈c,f∈F):ZiM R c (XY F (rdB { nodes:=(F.length:Int),reasons:=rs })):=by
 obtain ⟨e1,e2⟩:=hB.end;have hF:=Zkd h.good.asc;have hl:=hB.rd;generalize rdB { nodes:=(F.length:Int),reasons:=rs }=rd at e1 e2 hl
 simp only[AD]at hl;have hm:∀f,f∈XY F rd↔f∈F/\0<=rdN rd (Yd F f):=fun f=>ZzE hF hl;have d:∀f∈F,((Yd F f).toNat:Int)=Yd F f:=fun f mf=>by
  obtain ⟨j,h1,_⟩:=Za6 mf;omega
 refine ⟨fun f mf=>?_,fun r mr t mt m a ma=>?_,fun f=>(rdN rd (Yd F f)).toNat,fun f mf=>?_⟩
 .rw [hm];exact ⟨hg f mf,e2 _ ((k _).2 (.inl ⟨f,mf,rfl⟩)) yG yG⟩
 .have ht:∀g∈t.facts,g∈XY F rd:=Zxb mt;have l:t∈ZD (QB r) F:=Zzs (R:=R) mt fun g mg=>((hm g).1 (ht g mg)).1;have i:=h.closed r mr t l a ma;rw [hm];refine ⟨i,e2 _ ((k _).2 (.inr ⟨r,mr,t,l,a,ma,rfl⟩)) (fun y my=>?_) fun y my=>?_⟩
  .obtain ⟨g,mg,e,_⟩:=((Y4 F t.facts).2.1 y).1 my;rw [<-e];exact ((hm g).1 (ht g mg)).2
  .obtain ⟨g,mg,e,e0⟩:=((Y4 F (Zli r t)).2.1 y).1 my;have gF:g∈F:=by
    rcases ZgY F g with ⟨_,h2⟩|⟨j,_,h2⟩
    .omega
    .exact AI h2
   refine Classical.byContradiction fun hn=>m g mg ((hm g).2 ⟨gF,?_⟩);rw [e];omega
 .obtain ⟨fF,f0⟩:=(hm f).1 mf;obtain ⟨x,mx,ex,hi,ho⟩:=e1 (Yd F f).toNat (by rw [d f fF];exact f0);rw [d f fF]at hi;rcases (k x).1 mx with ⟨g,mg,rfl⟩|⟨r,mr,t,mt,a,ma,rfl⟩
  .left
   have:Yd F g=Yd F f:=by have:=d g (hg g mg);have:=d f fF;simp only at ex;omega
   rw [<-Zrn (hg g mg) fF this];exact mg
  .right
   have i:=h.closed r mr t mt a ma;have e:Yn a t=f:=Zrn i fF (by
    have h1:=d _ i;have h2:=d f fF;have ex':(Yd F (Yn a t)).toNat=(Yd F f).toNat:=ex;omega)
   have b:∀g∈t.facts,g∈XY F rd/\rdN rd (Yd F g)<rdN rd (Yd F f):=fun g mg=>by
    have gF:=Zxb mt g mg;obtain ⟨j,k1,_⟩:=Za6 gF;have my:Yd F g∈Zay F t.facts:=((Y4 F t.facts).2.1 _).2 ⟨g,mg,rfl,yE⟩;obtain ⟨k2,k3⟩:=hi _ my;exact ⟨(hm g).2 ⟨gF,k2⟩,k3⟩
   refine ⟨r,mr,t,Zzs (R:=R) mt fun g mg=>(b g mg).1,a,ma,e,fun g mg=>?_,fun g mg o=>?_⟩
   .have k2:=(b g mg).2;have k1:=((hm g).1 (b g mg).1).2;show (rdN rd (Yd F g)).toNat<(rdN rd (Yd F f)).toNat
    omega
   .obtain ⟨gF,g0⟩:=(hm g).1 o;obtain ⟨j,k1,_⟩:=Za6 gF;have my:Yd F g∈Zay F (Zli r t):=((Y4 F (Zli r t)).2.1 _).2 ⟨g,mg,rfl,yE⟩;have:=ho _ my;omega
theorem Zvv {R:List Zf}{base F:List Za}(h:Ya R base F) (a:(Yg R F base).length<=60):ZiM R base (XY F (rdB { nodes:=(F.length:Int),reasons:=Yg R F base })):=
 Zyt h (Q4.of h a) (fun _=>ZjS) h.good.inc
/- one model alone -/
end
section
open Classical
theorem Zjn {b:List Zx}(D:Ye b=true):∀{p f:List ByteArray},p.all YI=true->f.all Z2=true->p.length=f.length->(∀a∈p,Yu a=true->∃z,X3 b a=some z)->((Zci p f b).isSome=true↔ZbU p b=some f)
 | [],[],_,_,_,_=>by simp [Zci,ZbU]
 | [],_::_,_,_,h,_=>by simp at h
 |_::_,[],_,_,h,_=>by simp at h
 |a::p,w::f,hp,hf,hl,hv=>by
  simp only[List.all_cons,AB]at hp hf;have ih:=Zjn D (p:=p) (f:=f) hp.2 hf.2 (by simpa using hl) fun x B=>hv x (by simp [B]);obtain ⟨l,A,E⟩:=ZeZ hp.2 fun x B=>hv x (by simp [B]);by_cases ha:Z2 a=true
  .have d:Xn b a=some a:=by unfold Xn;rw [if_pos ha]
   simp only[Zci,ZbU,if_pos ha,d,A0];by_cases e:a=w
   .subst e;rw [if_pos rfl,ih,A];simp
   .rw [if_neg e,A];simp [e]
  .have c:Yu a=true:=by
    have:=hp.1;unfold YI at this;rw [Bool.or_eq_true]at this;exact this.resolve_left ha
   obtain ⟨z,C⟩:=hv a yG c;have d:Xn b a=some z:=by rw [ZgG c];exact C
   have F:Zhi b a w=if z=w then some b else none:=by
    unfold Zhi;rw [if_pos ⟨D,c,hf.1⟩,C]
   simp only[Zci,ZbU,if_neg ha,d,A0,F];by_cases e:z=w
   .subst e;rw [if_pos rfl,A0,ih,A];simp
   .rw [if_neg e,A];simp [e]
theorem Zo4 {p:Zo}{g:Za}{b:List Zx}(B:Z0 p=true) (C:Ye b=true) (D:∀a∈p.args,Yu a=true->∃z,X3 b a=some z) (E:Yt g=true):(ZaC p g b).isSome=true↔YW p b=some g:=by
 have c:=B;have d:=E;unfold Z0 at c;unfold Yt at d;simp only[AB]at c d;obtain ⟨l,F,f⟩:=ZeZ c.2 D;unfold YW;rw [if_pos ⟨B,C⟩,F];unfold ZaC;by_cases A:ZdG p g b=true
 .rw [if_pos A];unfold ZdG at A;simp only[AB,decide_eq_true_eq]at A;rw [Zjn C c.2 d.2 A.2 D,F];simp only[As,AJ];constructor
  .intro e;rw [e,A.1.2]
  .intro e;rw [<-e]
 .rw [if_neg A];simp only[Option.isSome_none,Bool.false_eq_true,As,AJ,false_iff];intro e;refine A ?_;unfold ZdG;simp only[AB,decide_eq_true_eq];exact ⟨⟨⟨⟨B,E⟩,C⟩,by rw [<-e]⟩,by rw [<-e];exact f.symm⟩
theorem ZsS {p:Zo}{b:List Zx}(A:Z0 p=true) (C:Ye b=true) (B:∀a∈p.args,Yu a=true->∃z,X3 b a=some z):∃i,YW p b=some i:=by
 have c:=A;unfold Z0 at c;simp only[AB]at c;obtain ⟨l,D,_⟩:=ZeZ c.2 B;unfold YW;rw [if_pos ⟨A,C⟩,D];exact ⟨_,rfl⟩
theorem Zn7 {b c:List Zx}(h:∀u z,X3 b u=some z->X3 c u=some z):∀{p l:List ByteArray},ZbU p b=some l->ZbU p c=some l
 | [],_,e=>e
 |a::p,l,e=>by
  simp only[ZbU]at e ⊢;obtain ⟨v,A,e⟩:=AQ.1 e;obtain ⟨q,D,rfl⟩:=AN.1 e;have:Xn c a=some v:=by
   unfold Xn at A ⊢;split at A
   .rename_i B;rw [if_pos B];exact A
   .rename_i B;rw [if_neg B];split at A
    .rename_i C;rw [if_pos C];exact h _ _ A
    .simp at A
  rw [this,A0,Zn7 h D];rfl
theorem ZnJ {p:Zo}{b c:List Zx}(A:Ye c=true) (h:∀u z,X3 b u=some z->X3 c u=some z) {i:Za}(e:YW p b=some i):YW p c=some i:=by
 unfold YW at e ⊢;split at e
 .rename_i B;rw [if_pos ⟨B.1,A⟩];obtain ⟨l,C,rfl⟩:=AN.1 e;rw [Zn7 h C];rfl
 .simp at e
theorem ZvZ {x:Zu}{b:List Zx}{M:List Za}(G:x.kind=2) (A:YC x=true) (B:Ye b=true) (C:∀a∈x.pattern.args,Yu a=true->∃z,X3 b a=some z) (H:∀f∈M,Yt f=true):Zbj x b M=true↔(XJ (YW x.pattern b)).1∉M:=by
 have D:Z0 x.pattern=true:=by
  unfold YC at A;rw [if_pos (.inr G)]at A;simp only[AB]at A;exact A.1.1
 obtain ⟨i,hi⟩:=ZsS D B C;have J:(XJ (YW x.pattern b)).1=i:=by rw [hi];rfl
 have I:¬x.kind=1:=by omega
 unfold Zbj;rw [if_pos ⟨A,B⟩,if_neg I,if_pos G,decide_eq_true_iff,J];unfold Zc5;rw [List.length_eq_zero_iff,List.filter_eq_nil_iff];constructor
 .intro h E;exact h i E ((Zo4 D B C (H i E)).2 hi)
 .intro h g F hs;have:=(Zo4 D B C (H g F)).1 hs;rw [hi]at this;exact h (by rw [AM this];exact F)
structure ZvF (l:List Zu):Prop where
 valid:∀x∈l,YC x=true
 bound:∀p x q,l=p++x::q->x.kind=2->∀a∈x.pattern.args,Yu a=true->a∈YR p
theorem ZuO {M:List Za}(hM:∀f∈M,Yt f=true):∀n (l:List Zu),l.length=n->ZvF l->∀t,t∈ZD l M↔t∈ZD (l.filter fun x=>x.kind != 2) M/\∀x∈l,x.kind=2->(XJ (YW x.pattern t.binding)).1∉M:=by
 intro n;induction n with
 |zero=>
  intro l h _ t;rw [Ab h];simp
 |succ n ih=>
  intro l h R t;obtain ⟨p,x,rfl⟩:∃p x,l=p++[x]:=⟨l.dropLast,l.getLast (by intro e;simp [e]at h),(Ac _).symm⟩
  have k:ZvF p:=⟨fun y B=>R.valid y (by simp [B]),fun q y s e=>R.bound q y (s++[x]) (by rw [e];simp)⟩
  have j:=ih p (by simpa using h) k;have o:∀s u:Zw,s∈ZD p M->Ye u.binding=true->(∀v z,X3 s.binding v=some z->X3 u.binding v=some z)->∀y∈p,y.kind=2->(XJ (YW y.pattern u.binding)).1=(XJ (YW y.pattern s.binding)).1:=fun s u E hu N y B D=>by
   obtain ⟨q,r,e⟩:=BG B;have U:Z0 y.pattern=true:=by
    have hc:=k.valid y B;unfold YC at hc;rw [if_pos (.inr D)]at hc;simp only[AB]at hc;exact hc.1.1
   have ho:=QL M p s E;obtain ⟨i,hi⟩:=ZsS U ho.bind fun a G J=>ho.vars a (by
    have:=k.bound q y r e D a G J;rw [e];unfold YR at this ⊢;rw [List.flatMap_append];exact AC.2 (.inl this))
   rw [hi,ZnJ hu N hi]
  rw [Xx,List.filter_append];by_cases P:x.kind=1
  .have O:[x].filter (fun x=>x.kind != 2)=[x]:=by simp [P]
   rw [O,Xx];have m:∀s u:Zw,s∈ZD p M->u∈ZbT x M s->((∀y∈p++[x],y.kind=2->(XJ (YW y.pattern u.binding)).1∉M)↔∀y∈p,y.kind=2->(XJ (YW y.pattern s.binding)).1∉M):=fun s u E mu=>by
    have hu:=mu;unfold ZbT at hu;rw [if_pos P]at hu;obtain ⟨g,mg,N⟩:=Ad.1 hu;obtain ⟨b,V,rfl⟩:=AN.1 N;obtain ⟨T,_,S⟩:=Zl9 V;have w:=o s { facts:=s.facts++[g],binding:=b } E T S;constructor
    .intro L y B D;rw [<-w y B D];exact L y (by simp [B]) D
    .intro L y B D;rcases AC.1 B with B|B
     .rw [w y B D];exact L y B D
     .simp at B;subst B;omega
   constructor
   .intro C;obtain ⟨s,E,C⟩:=AE.1 C;obtain ⟨I,H⟩:=(j s).1 E;exact ⟨AE.2 ⟨s,I,C⟩,(m s t E C).2 H⟩
   .rintro ⟨C,ha⟩;obtain ⟨s,E,C⟩:=AE.1 C;have hs:s∈ZD p M:=(j s).2 ⟨E,fun y B D=>?_⟩
    .exact AE.2 ⟨s,hs,C⟩
    .have hu:=C;unfold ZbT at hu;rw [if_pos P]at hu;obtain ⟨g,mg,N⟩:=Ad.1 hu;obtain ⟨b,V,e⟩:=AN.1 N;obtain ⟨T,_,S⟩:=Zl9 V;have U:Z0 y.pattern=true:=by
      have hc:=k.valid y B;unfold YC at hc;rw [if_pos (.inr D)]at hc;simp only[AB]at hc;exact hc.1.1
     obtain ⟨q,r,e2⟩:=BG B;have ho:=QL M _ s E;obtain ⟨i,hi⟩:=ZsS U ho.bind fun a G J=>ho.vars a (by
      have:=k.bound q y r e2 D a G J;rw [e2];unfold YR at this ⊢;obtain ⟨c,mc,hc⟩:=AE.1 this;by_cases A:c.kind=1
      .exact AE.2 ⟨c,Ae.2 ⟨by simp [mc],by simp [A]⟩,hc⟩
      .rw [if_neg A]at hc;simp at hc)
     have:=ha y (by simp [B]) D;rw [<-e,ZnJ T S hi]at this;rw [hi];exact this
  .by_cases F:x.kind=2
   .have O:[x].filter (fun x=>x.kind != 2)=[]:=by simp [F]
    rw [O,BH];have K:∀s,ZbT x M s=if Zbj x s.binding M=true then [s] else []:=fun s=>by unfold ZbT;rw [if_neg P]
    have W:∀s,s∈ZD p M->(Zbj x s.binding M=true↔(XJ (YW x.pattern s.binding)).1∉M):=fun s E=>by
     have ho:=QL M p s E;exact ZvZ F (R.valid x yG) ho.bind (fun a G J=>ho.vars a (R.bound p x [] yG F a G J)) hM
    constructor
    .intro C;obtain ⟨s,E,C⟩:=AE.1 C;rw [K]at C;split at C
     .rename_i L;simp at C;subst C;obtain ⟨I,H⟩:=(j t).1 E;refine ⟨I,fun y B D=>?_⟩;rcases AC.1 B with B|B
      .exact H y B D
      .simp at B;subst B;exact (W t E).1 L
     .simp at C
    .rintro ⟨C,ha⟩;have hs:t∈ZD p M:=(j t).2 ⟨C,fun y B D=>ha y (by simp [B]) D⟩;refine AE.2 ⟨t,hs,?_⟩;rw [K,if_pos ((W t hs).2 (ha x yG F))];simp
   .have O:[x].filter (fun x=>x.kind != 2)=[x]:=by simp [F]
    rw [O,Xx];have K:∀s,ZbT x M s=if Zbj x s.binding M=true then [s] else []:=fun s=>by unfold ZbT;rw [if_neg P]
    constructor
    .intro C;obtain ⟨s,E,C⟩:=AE.1 C;have d:=C;rw [K]at d;split at d
     .simp at d;subst d;obtain ⟨I,H⟩:=(j t).1 E;refine ⟨AE.2 ⟨t,I,C⟩,fun y B D=>?_⟩;rcases AC.1 B with B|B
      .exact H y B D
      .simp at B;subst B;exact absurd D F
     .simp at d
    .rintro ⟨C,ha⟩;obtain ⟨s,E,C⟩:=AE.1 C;have d:=C;rw [K]at d;split at d
     .simp at d;subst d;exact AE.2 ⟨t,(j t).2 ⟨E,fun y B D=>ha y (by simp [B]) D⟩,C⟩
     .simp at d
end
section
open Classical
theorem ZAf {r:Zf}(h:ZY r=true):ZvF r.cond:=by
 unfold ZY at h;simp only[AB]at h;obtain ⟨⟨A,G⟩,_⟩:=h;unfold YA at A;simp only[AB]at A;have hv:=A.1.1.2;refine ⟨fun x B=>?_,fun p x q e E a C ha=>?_⟩
 .obtain ⟨j,F,e⟩:=List.getElem_of_mem B;have:=Zi0 hv j x (by rw [AA F,e]);simp only[AB]at this;exact this.1.1
 .have:=Zi0 G p.length x (by rw [e];simp);unfold ZiO at this;rw [E]at this;simp only[AL,decide_true,Bool.not_true,Bool.false_or,Ah]at this;have D:a∈Y1 x:=by
   unfold Y1;rw [Z3];refine Ae.2 ⟨?_,ha⟩;unfold ZgT;simp [C]
  have h2:=Qi.1 (this a D);unfold YU at h2;rw [Z3,e]at h2;simpa using h2
theorem Zs5 {r:Zf}(h:ZY r=true) {M:List Za}(G:∀f∈M,Yt f=true) (t:Zw):t∈ZD r.cond M↔t∈ZD (QB r) M/\∀g∈Zli r t,g∉M:=by
 rw [ZuO G _ r.cond rfl (ZAf h)];refine and_congr_right fun _=>?_;unfold Zli;constructor
 .intro B g C;obtain ⟨x,A,rfl⟩:=AZ.1 C;obtain ⟨E,D⟩:=Ae.1 A;exact B x E (by simpa using D)
 .intro B x A F;exact B _ (AZ.2 ⟨x,Ae.2 ⟨A,by simp [F]⟩,rfl⟩)
theorem ZiM.closed {R:List Zf}{base M:List Za}(h:ZiM R base M) (D:∀r∈R,ZY r=true) (E:∀f∈M,Yt f=true):∀r∈R,∀t∈ZD r.cond M,∀a∈r.thn,Yn a t∈M:=fun r A t B a C=>by
 obtain ⟨G,F⟩:=(Zs5 (D r A) E t).1 B;exact h.clos r A t G F a C
/- without one of the given facts -/
end
section
open Classical
theorem Ztq {l:List Za}(C:l.length<=24) (ha:ZfX l) (hok:∀f∈l,Yt f=true):Z7 l=true:=by
 unfold Z7;rw [AB,decide_eq_true_iff];refine ⟨C,?_⟩;have key:∀(b a:List Za),l=a++b->Zav (ZeY l) b a.length=true:=by
  intro b;induction b with
  |nil=>intro a _;rfl
  |cons x b ih=>
   intro a e;simp only[Zav,AB];refine ⟨?_,by have:=ih (a++[x]) (by rw [e];simp);simpa using this⟩;unfold ZeY;rw [AB];refine ⟨hok x (by rw [e];simp),?_⟩;by_cases A:a.length=0
   .rw [if_pos A]
   .rw [if_neg A];obtain ⟨q,y,rfl⟩:∃q y,a=q++[y]:=⟨a.dropLast,a.getLast (by intro D;simp [D]at A),(Ac _).symm⟩
    have B:l[(q++[y]).length - 1]?=some y:=by rw [e];simp
    rw [B,decide_eq_true_iff];unfold ZfX at ha;rw [e,Aw,List.pairwise_append]at ha;have h2:=ha.2.1;rw [BI,List.pairwise_cons]at h2;exact h2.1 x yG
 exact key l [] rfl
theorem ZCB {a b:List Za}(h:a.Sublist b) (A:ZfX b):ZfX a:=List.Pairwise.sublist h A
theorem ZlJ:∀{F:List Za}{l:List Int},(XY F l).Sublist F
 | [],l=>by simp [XY]
 |f::F,[]=>by simp [XY]
 |f::F,v::l=>by
  unfold XY;split
  .exact ZlJ.cons_cons f
  .exact ZlJ.cons f
/- reasons, of the smaller set -/
def ZxB (F:List Za) (y:Int):Za:=match F[y.toNat]? with|some f=>f|none=>{ rel:=⟨#[]⟩,args:=[] }
end
section
open Classical
theorem ZfZ (r:Zf) (F:List Za) (B:Q6 r):ZeA r (r.cond.length:Int) F=some (if (YA r&&Z7 F)=true then ZD r.cond F else []):=by
 unfold ZeA;rw [Zh2 r B,A0];cases h1:YA r with
 |false=>rfl
 |true=>
  rw [if_pos rfl,ZfS F,A0];cases h2:Z7 F with
  |false=>rfl
  |true=>
   obtain ⟨a,b⟩:=Qk h2;have hc:=(ZaV h1).1;rw [if_pos rfl,if_neg yG,ZE,if_neg yG,Zj _ yE,AD,BJ,Ax,ZfI _ _ hc a (fun f A=>Xh (b f A))];rfl
theorem Zzb {α:Type}{p:Nat->α->Bool}{b:List α}(A:∀i x,p i x=true↔b[i]?=some x):∀(a:List α),a.length=b.length->(Zav p a 0=true↔a=b):=by
 intro a B;constructor
 .intro ha;apply List.ext_getElem?;intro i;by_cases hi:i<a.length
  .have hx:=AA hi;have:=Zi0 ha i _ hx;rw [AL,A]at this;rw [hx,this]
  .rw [AU yE,AU yE]
 .rintro rfl;have:∀(l c:List α),a=c++l->Zav p l c.length=true:=by
   intro l;induction l with
   |nil=>intro c _;rfl
   |cons x l ih=>
    intro c e;simp only[Zav,AB];refine ⟨(A _ _).2 (by rw [e];simp),?_⟩;have:=ih (c++[x]) (by rw [e];simp);simpa using this
  exact this a [] rfl
theorem Zcx (a b:List Za):ZdR a b=some (decide (a=b)):=by
 unfold ZdR;by_cases h:a.length=b.length
 .rw [if_neg (by simp;omega),XM (p:=fun i x=>decide (b[i]?=some x)) (r:=false)]
  .have:=Zzb (p:=fun i x=>decide (b[i]?=some x)) (b:=b) (fun i x=>by rw [decide_eq_true_iff]) a h;by_cases e:a=b
   .rw [if_pos (this.2 e),decide_eq_true e]
   .rw [if_neg fun C=>e (this.1 C),decide_eq_false e]
  .intro j x B;have hj:=(AK.1 B).1;have D:b[j]?=some b[j]:=AA yE;rw [AL,Zar,D,A0,Xj,A0];by_cases A:x=b[j]
   .rw [if_pos (decide_eq_true A),decide_eq_true (by rw [A])];rfl
   .rw [if_neg (by simpa using A),decide_eq_false fun e=>A (AM e).symm];rfl
 .rw [if_pos (by simp;omega),decide_eq_false (fun e=>h (by rw [e]))]
theorem ZoP (a b:List Za):Zfz a b=some (decide (a=b)):=Zcx a b
theorem Zke {α β ρ:Type}{q:α->Bool}{g:α->β}{z:β}:∀{l:List α}{i:Nat},∃x:β,(x=z\/∃a∈l,x=g a)/\∀(body:Nat->α->Unit->Option (Unit ⊕ β)),(∀j a,body j a ()=if q a=true then some (.inr (g a)) else some (.inl ()))->forL body (fun _=>some z) l i ()=some x
 | [],_=>⟨z,.inl rfl,fun body _=>rfl⟩
 |a::l,i=>by
  by_cases B:q a=true
  .exact ⟨g a,.inr ⟨a,yG,rfl⟩,fun body A=>Z5 (by rw [A,if_pos B])⟩
  .obtain ⟨x,E,D⟩:=Zke (ρ:=ρ) (q:=q) (g:=g) (z:=z) (l:=l) (i:=i+1);exact ⟨x,E.imp id fun ⟨b,C,e⟩=>⟨b,by simp [C],e⟩,fun body A=>(ZO (s':=()) (by rw [A,if_neg B])).trans (D body A)⟩
theorem Zwy {r:Zf}(C:Q6 r) (M L:List Za) (H:M.length<=24):∃t B,Qf r M L=some (t,B)/\ZeE r M L=some (t,B)/\t.binding.length<=6:=by
 have D:∀t∈(if (YA r&&Z7 M)=true then ZD r.cond M else []),t.binding.length<=6:=fun t A=>by
  split at A
  .exact QT (QL M _ t A).bind
  .simp at A
 unfold Qf ZeE;rw [ZfZ r M C,ZpG r M C yE,A0,A0];generalize (if (YA r&&Z7 M)=true then ZD r.cond M else [])=ts at D
 obtain ⟨x,G,E⟩:=Zke (ρ:=Unit) (q:=fun t:Zw=>decide (t.facts=L)) (g:=fun t=>(t,true)) (z:=(({ facts:=[],binding:=[] }:Zw),false)) (l:=ts) (i:=0);refine ⟨x.1,x.2,E _ fun j a=>?_,E _ fun j a=>?_,?_⟩
 .rw [Zcx,A0]
 .rw [ZoP,A0]
 .rcases G with rfl|⟨a,F,rfl⟩
  .simp
  .exact D a F
def Zm8 (l:List Zz) (u:Int):Za:=match l[u.toNat]? with|some s=>s.fact|none=>{ rel:=⟨#[]⟩,args:=[] }
def Zev (l:List Zz) (u:Int):Bool:=decide (0<=u/\u<(l.length:Int))
theorem Zv5 {l:List Zz}{u:Int}(h:Zev l u=true):∃s,atI l u=some s/\s.fact=Zm8 l u:=by
 unfold Zev at h;rw [decide_eq_true_iff]at h;have A:u.toNat<l.length:=by omega
 refine ⟨l[u.toNat],?_,?_⟩
 .unfold atI;rw [if_pos h.1,AA A]
 .unfold Zm8;rw [AA A]
theorem ZhP {ρ:Type}{p:Int->Bool}{g:Int->Za}{z:ρ}{fin:List Za->Option ρ}{body:Nat->Int->List Za->Option (List Za ⊕ ρ)}:∀{l:List Int}{i:Nat}{acc:List Za},(∀j u s,s.length+1<=acc.length+l.length->body j u s=if p u=true then some (.inl (s++[g u])) else some (.inr z))->forL body fin l i acc=if l.all p=true then fin (acc++l.map g) else some z
 | [],_,acc,_=>by simp [forL]
 |u::l,i,acc,h=>by
  have hx:=h i u acc yG;by_cases A:p u=true
  .rw [if_pos A]at hx;rw [ZO hx,ZhP (p:=p) (g:=g) (z:=z) fun j v s hs=>h j v s (by simp at hs ⊢;omega)];simp [A]
  .rw [if_neg A]at hx;rw [Z5 hx];simp [A]
def givesB (t:Zw) (f:Za) (a:Zy):Bool:=(XJ (YW a.pattern t.binding)).2&&decide ((XJ (YW a.pattern t.binding)).1=f)
theorem ZqZ (n:ByteArray):∀(l:List Zf) (i:Nat),∃z,forL (σ:=Unit) (ρ:=Int) (fun (B:Nat) (A:Zf) _=>if (sEq A.name n)=true then some (.inr (B:Int)) else some (.inl ())) (fun _=>some (-1)) l i ()=some z/\(z=-1\/∃j r,z=((i+j:Nat):Int)/\l[j]?=some r)
 | [],_=>⟨_,rfl,.inl rfl⟩
 |x::l,i=>by
  by_cases h:sEq x.name n=true
  .exact ⟨_,Z5 (by rw [if_pos h]),.inr ⟨0,x,yG,rfl⟩⟩
  .obtain ⟨z,e,C⟩:=ZqZ n l (i+1);refine ⟨z,(ZO (s':=()) (by rw [if_neg h])).trans e,C.imp id fun ⟨j,r,E,D⟩=>⟨j+1,r,by rw [E];congr 1;omega,by simpa using D⟩⟩
theorem ZAZ {R:List Zf}{n:ByteArray}(h:¬Zgw R n<0):∃r,atI R (Zgw R n)=some r/\r∈R:=by
 obtain ⟨z,e,A⟩:=ZqZ n R 0;have C:Qz R n=some z:=e;rw [Zao]at C;obtain rfl:=AM C;rcases A with A|⟨j,r,D,B⟩
 .omega
 .rw [AL]at D;rw [D,Zar];exact ⟨r,B,AI B⟩
theorem ZDg {a:List Zz}(C:a.length<=60) (u:Int) (acc:List Za) (ha:acc.length+1<=1073741824):((XV u 0 (IntKind.i64.wrap ((a.length:Int) - 1))).bind fun b=>if b=true then (atI a u).bind fun c=>chk (acc.length+1<=1073741824) (some (Sum.inl (acc++[c.fact]))) else some (Sum.inr false):Option (List Za ⊕ Bool))=if Zev a u=true then some (.inl (acc++[Zm8 a u])) else some (.inr false):=by
 rw [Znc yE yE,Zej,A0];by_cases A:Zev a u=true
 .obtain ⟨q,e,B⟩:=Zv5 A;rw [if_pos A,e,A0,B,Zj _ ha];unfold Zev at A;rw [decide_eq_true_iff]at A;rw [decide_eq_true A.1,decide_eq_true (show u<=(a.length:Int) - 1 by omega)];rfl
 .rw [if_neg A];unfold Zev at A;rw [decide_eq_true_iff]at A;rw [if_neg];simp only[AB,decide_eq_true_eq];omega
theorem Zyv {R:List Zf}(J:XD R) (base M:List Za) (K:M.length<=24) (b:List Zz) (F:b.length<=60) (s:Zz) (hs:s.uses.length<=1048576):∃v,ZbN R base M b s=some v/\Zf1 R base M b s=some v:=by
 unfold ZbN Zf1;by_cases D:sEq s.rule ⟨#[]⟩=true
 .rw [if_pos D,if_pos D];by_cases C:((s.uses.length:Int)==0)=true
  .rw [if_pos C,if_pos C,Zbn,Zaq];exact ⟨_,rfl,rfl⟩
  .rw [if_neg C,if_neg C];exact ⟨_,rfl,rfl⟩
 .rw [if_neg D,if_neg D,Zao,ZjM,A0,A0];by_cases B:Zgw R s.rule<0
  .rw [if_pos (decide_eq_true B),ZhP (p:=Zev b) (g:=Zm8 b) (z:=false) (l:=s.uses) (acc:=[])]
   .refine ⟨_,rfl,?_⟩;split
    .rw [if_pos (decide_eq_true B)]
    .rfl
   .intro j u acc ha;exact ZDg F u acc (by simp at ha;omega)
  .rw [if_neg (by simpa using B),ZhP (p:=Zev b) (g:=Zm8 b) (z:=false) (l:=s.uses) (acc:=[])]
   .rw [ZhP (p:=Zev b) (g:=Zm8 b) (z:=false) (l:=s.uses) (acc:=[])]
    .by_cases A:s.uses.all (Zev b)=true
     .rw [if_pos A,if_pos A,if_neg (by simpa using B)];obtain ⟨r,e,H⟩:=ZAZ B;obtain ⟨t,G,O,N,P⟩:=Zwy (J.s r H) M ([]++s.uses.map (Zm8 b)) K;rw [e,A0,A0,O,N,A0,A0];cases G with
      |false=>
       refine ⟨false,rfl,?_⟩;cases r.thn with
       |nil=>rfl
       |cons a l=>exact Z5 rfl
      |true=>
       simp only[if_true];rw [ZaJ (p:=givesB t s.fact) (r:=true),ZaJ (p:=givesB t s.fact) (r:=true)]
       .cases r.thn.any (givesB t s.fact) with
        |true=>exact ⟨_,rfl,rfl⟩
        |false=>exact ⟨_,rfl,rfl⟩
       .intro i a I;unfold givesB;rw [if_pos rfl,ZfJ _ _ yE,A0];cases (XJ (YW a.pattern t.binding)).2 with
        |false=>rfl
        |true=>
         rw [if_pos rfl,Zmt,A0];cases decide ((XJ (YW a.pattern t.binding)).1=s.fact)<;>rfl
       .intro i a I;unfold givesB;rw [Zbm,A0];cases (XJ (YW a.pattern t.binding)).2 with
        |false=>rfl
        |true=>
         rw [if_pos rfl,Xj,A0];cases decide ((XJ (YW a.pattern t.binding)).1=s.fact)<;>rfl
     .rw [if_neg A,if_neg A];exact ⟨_,rfl,rfl⟩
    .intro j u acc ha;exact ZDg F u acc (by simp at ha;omega)
   .intro j u acc ha;simp only[BK,AL]at ha;by_cases A:Zev b u=true
    .obtain ⟨q,e,L⟩:=Zv5 A;rw [if_pos A,e,A0,L,Zj _ yE];unfold Zev at A;rw [decide_eq_true_iff]at A;rw [if_neg (by simp;omega),if_neg (by simp;omega)]
    .rw [if_neg A];unfold Zev at A;rw [decide_eq_true_iff]at A;by_cases E:u<0
     .rw [if_pos (decide_eq_true E)]
     .rw [if_neg (by simpa using E),if_pos (decide_eq_true yE)]
theorem Zny {α:Type}:∀{l:List α}{i:Nat}{D C:Nat->α->Unit->Option (Unit ⊕ Bool)},(∀j x,l[j]?=some x->∃v:Bool,D (i+j) x ()=(if v=true then some (.inl ()) else some (.inr false))/\C (i+j) x ()=if v=true then some (.inl ()) else some (.inr false))->∃w,forL D (fun _=>some true) l i ()=some w/\forL C (fun _=>some true) l i ()=some w
 | [],_,_,_,_=>⟨true,rfl,rfl⟩
 |x::l,i,D,C,h=>by
  obtain ⟨v,B,A⟩:=h 0 x rfl;rw [Nat.add_zero]at B A;cases v with
  |false=>exact ⟨false,Z5 B,Z5 A⟩
  |true=>
   rw [ZO (s':=()) B,ZO (s':=()) A];exact Zny fun j y E=>by
    have:=h (j+1) y (by simpa using E)
    rwa [show i+(j+1)=i+1+j by omega]at this
theorem Zsc {R:List Zf}(B:XD R) (base:List Za) (b:base.length<=1048576) (a:List Zz) (hs:∀s∈a,s.uses.length<=1048576):∃v,Zgl R base a=some v/\QR R base a=some v:=by
 obtain ⟨M,C,I,H,G⟩:=Zs7 B base b;unfold Zgl QR;rw [I,H,A0,A0];cases C with
 |false=>exact ⟨_,rfl,rfl⟩
 |true=>
  simp only[if_true];by_cases F:60<a.length
  .rw [if_pos (by simp;omega),if_pos (by simp;omega)];exact ⟨_,rfl,rfl⟩
  .rw [if_neg (by simp;omega),if_neg (by simp;omega)];refine Zny fun j x A=>?_;have hj:=(AK.1 A).1;obtain ⟨v,E,D⟩:=Zyv B base M G.len (List.drop 0 (List.take j a)) (by simp;omega) x (hs x (AI A));refine ⟨v,?_,?_⟩
   .rw [AL,Zj _ ⟨yE,yE⟩,D,A0]
   .rw [AL,Zj _ ⟨yE,yE⟩,E,A0]
end
section
open Classical
theorem ZuK {β:Type}{P:Zh->β->Prop}:∀(c:List (Zh×β)) (s:List Zh×List β),(∀x∈c,P x.1 x.2)->s.2.length=s.1.length->(∀(k:Nat) (q:Zh) (o:β),s.1[k]?=some q->s.2[k]?=some o->P q o)->∀(k:Nat) (q:Zh) (o:β),(c.foldl XC s).1[k]?=some q->(c.foldl XC s).2[k]?=some o->P q o
 | [],s,_,_,h=>h
 |x::c,s,hc,hl,h=>by
  rw [Ay];refine ZuK c (XC s x) (fun y E=>hc y (by simp [E])) ?_ ?_
  .unfold XC;split
   .exact hl
   .simp [hl]
  .intro k q o A B;unfold XC at A B;split at A
   .rename_i D;rw [if_pos D]at B;exact h k q o A B
   .rename_i D;rw [if_neg D]at B;rcases BE k s.1.length with C|C|C
    .rw [Az C]at A;rw [Az yE]at B;exact h k q o A B
    .subst C;rw [B3 (AH _)]at A;rw [<-hl,B3 (AH _)]at B;simp at A B;subst A B;exact hc x yG
    .rw [AU (by simp;omega)]at A;simp at A
def ZBW {β:Type}(oF:Zf->Zw->β) (z:β) (R:List Zf) (base F:List Za) (q:Zh) (o:β):Prop:=
 (∃f∈base,q={ for_:=Yd F f,inn:=[],outs:=[] }/\o=z)\/∃r∈R,∃t∈ZD (QB r) F,∃a∈r.thn,q=Yy F r t a/\o=oF r t
theorem Zum {β:Type}(A:Zf->Zw->β) (z:β) (R:List Zf) (base F:List Za) (k:Nat) (q:Zh) (o:β) (C:(YP A F z R base).1[k]?=some q) (D:(YP A F z R base).2[k]?=some o):ZBW A z R base F q o:=by
 refine ZuK (P:=ZBW A z R base F) (R.flatMap (Zf7 A F)) (Zcv F base,base.map fun _=>z) ?_ (by simp [Zcv]) ?_ k q o C D
 .intro x B;obtain ⟨r,G,B⟩:=AE.1 B;obtain ⟨t,E,B⟩:=AE.1 B;obtain ⟨a,H,rfl⟩:=AZ.1 B;exact .inr ⟨r,G,t,E,a,H,rfl,rfl⟩
 .intro k q o C D;simp only[Zcv,BL,AN]at C D;obtain ⟨f,I,rfl⟩:=C;obtain ⟨_,_,rfl⟩:=D;exact .inl ⟨f,AI I,rfl,rfl⟩
def ZcD (out:List Zz) (x:Za):Int:=ZaO (fun s:Zz=>decide (s.fact=x)) out 0
theorem Zmd {α:Type}{p:α->Bool}:∀{l:List α}{i:Nat},ZaO p l i<0->∀x∈l,p x=false
 | [],_,_,x,A=>by simp at A
 |y::l,i,h,x,A=>by
  rw [ZaO]at h;by_cases B:p y=true
  .rw [if_pos B]at h;omega
  .rw [if_neg B]at h;rcases AW.1 A with rfl|A
   .simpa using B
   .exact Zmd h x A
theorem ZvD {out:List Zz}{x:Za}(h:∃s∈out,s.fact=x):Zev out (ZcD out x)=true/\Zm8 out (ZcD out x)=x:=by
 have E:0<=ZcD out x:=by
  rcases Zlb (p:=fun s:Zz=>decide (s.fact=x)) (l:=out) (i:=0) with e|e
  .exfalso;obtain ⟨s,B,hs⟩:=h;have:=Zmd (by rw [e];omega) s B;simp [hs]at this
  .exact e
 obtain ⟨j,s,D,A,C⟩:=ZiN E;have e:ZcD out x=(j:Int):=by unfold ZcD;rw [D,AL]
 have hj:=(AK.1 A).1;rw [e];refine ⟨?_,?_⟩
 .unfold Zev;rw [decide_eq_true_iff];omega
 .unfold Zm8;rw [AD,A];simpa using C
def mkS (F:List Za) (Q:List Zh) (O:List Yz) (out:List Zz) (k:Int):Zz:=
 { fact:=ZxB F (((Q[k.toNat]?).map (·.for_)).getD 0),rule:=((O[k.toNat]?).map (·.rule)).getD ⟨#[]⟩,uses:=(((O[k.toNat]?).map (·.facts)).getD []).map (ZcD out) }
def XB (F:List Za) (Q:List Zh) (O:List Yz) (l:List Int):List Zz:=l.foldl (fun out k=>out++[mkS F Q O out k]) []
theorem Zit (F:List Za) (Q:List Zh) (O:List Yz) (l:List Int) (k:Int):XB F Q O (l++[k])=XB F Q O l++[mkS F Q O (XB F Q O l) k]:=by
 unfold XB;rw [List.foldl_append];rfl
theorem Zps {α:Type}{P:List α->Prop}(B:P []) (h:∀p x,P p->P (p++[x])) (l:List α):P l:=by
 have:∀n (l:List α),l.length=n->P l:=by
  intro n;induction n with
  |zero=>intro l A;rw [Ab A];exact B
  |succ n ih=>
   intro l A;obtain ⟨p,x,rfl⟩:∃p x,l=p++[x]:=⟨l.dropLast,l.getLast (by intro e;simp [e]at A),(Ac _).symm⟩
   exact h p x (ih p (by simpa using A))
 exact this _ l rfl
theorem ZjU (F:List Za) (Q:List Zh) (O:List Yz) (l:List Int):(XB F Q O l).length=l.length:=
 Zps (P:=fun l=>(XB F Q O l).length=l.length) rfl (fun p x A=>by rw [Zit,AS,AS,A];rfl) l
theorem ZxX {F:List Za}{Q:List Zh}{O:List Yz}:∀{l:List Int}{i:Nat}{s:Zz},(XB F Q O l)[i]?=some s->∃p k q,l=p++k::q/\p.length=i/\s=mkS F Q O (XB F Q O p) k/\(XB F Q O l).take i=XB F Q O p:=by
 intro l;refine Zps (P:=fun l=>∀{i:Nat} {s:Zz},(XB F Q O l)[i]?=some s->∃p k q,l=p++k::q/\p.length=i/\s=mkS F Q O (XB F Q O p) k/\(XB F Q O l).take i=XB F Q O p) ?_ ?_ l
 .intro i s h;simp [XB]at h
 .intro p x B i s h;have hl:=ZjU F Q O p;rw [Zit]at h ⊢;by_cases hi:i<p.length
  .rw [Az yE]at h;obtain ⟨A,k,q,G,E,D,C⟩:=B h;refine ⟨A,k,q++[x],by rw [G];simp,E,D,?_⟩;rw [BM yE,C]
  .have a:i<(XB F Q O p++[mkS F Q O (XB F Q O p) x]).length:=(AK.1 h).1;have b:i=p.length:=by simp at a;omega
   subst b;rw [<-hl,B3 (AH _)]at h;simp at h;exact ⟨p,x,[],rfl,rfl,h.symm,by rw [<-hl,BM (AH _),BJ]⟩
section
variable {R:List Zf} {base F:List Za}
end
end
section
open Classical
theorem Ya.logical1 {R:List Zf}{base F:List Za}(h:Ya R base F):∀r∈R,ZY r=true:=fun r A=>(h.rule A).1
theorem Ya.factsM {R:List Zf}{base F:List Za}(h:Ya R base F) (l:List Int):Z7 (XY F l)=true:=
 Ztq (h.few l).len (ZCB ZlJ h.good.asc) (h.few l).ok
end
section
open Classical
theorem ZmC (n:ByteArray):∀(l:List Zf) (i:Nat),(∃z,forL (σ:=Unit) (ρ:=Int) (fun (G:Nat) (F:Zf) _=>if (sEq F.name n)=true then some (.inr (G:Int)) else some (.inl ())) (fun _=>some (-1)) l i ()=some z/\((z=-1/\∀r∈l,r.name≠n)\/∃j r,z=((i+j:Nat):Int)/\l[j]?=some r/\r.name=n/\∀k u,k<j->l[k]?=some u->u.name≠n))
 | [],i=>⟨-1,rfl,.inl ⟨rfl,yG⟩⟩
 |x::l,i=>by
  by_cases A:x.name=n
  .exact ⟨(i:Int),Z5 (by rw [if_pos (ZV.2 A)]),.inr ⟨0,x,yG,rfl,A,fun k u I=>by omega⟩⟩
  .obtain ⟨z,e,H⟩:=ZmC n l (i+1);refine ⟨z,(ZO (s':=()) (by rw [if_neg (by rw [ZV];exact A)])).trans e,?_⟩;rcases H with ⟨E,D⟩|⟨j,r,E,D,K,J⟩
   .refine .inl ⟨E,fun r B=>?_⟩;rcases AW.1 B with rfl|B
    .exact A
    .exact D r B
   .refine .inr ⟨j+1,r,by rw [E];congr 1;omega,by simpa using D,K,fun k u I C=>?_⟩;cases k with
    |zero=>simp at C;subst C;exact A
    |succ k=>exact J k u yE (by simpa using C)
theorem Zws (l:List Zf) (n:ByteArray):(Zgw l n=-1/\∀r∈l,r.name≠n)\/∃j r,Zgw l n=((j:Nat):Int)/\l[j]?=some r/\r.name=n/\∀k u,k<j->l[k]?=some u->u.name≠n:=by
 obtain ⟨z,e,B⟩:=ZmC n l 0
 have A:Qz l n=some z:=e
 rw [Zao]at A
 obtain rfl:=AM A
 simpa using B
end
section
open Classical
theorem ZBL {r:Zf}(h:YA r=true):r.name≠⟨#[]⟩:=by
 unfold YA at h;simp only[AB]at h;have hn:=h.1.1.1.1.1.1.1.1.1;unfold X0 at hn;rw [AB]at hn;have h1:=(Qe hn.1).1;intro e;rw [e]at h1;exact absurd h1 yF
def Zx4 (R:List Zf) (given M:List Za) (before:List Zz) (s:Zz):Prop:=
 (s.rule=⟨#[]⟩/\s.uses=[]/\s.fact∈given)\/∃r∈R,∃t∈ZD r.cond M,∃a∈r.thn,s.rule=r.name/\s.fact=Yn a t/\(∀u∈s.uses,Zev before u=true)/\s.uses.map (Zm8 before)=t.facts
end
section
open Classical
theorem Zpp (out:List Zz) (x:Za):ZdM out x=some (ZcD out x):=by
 unfold ZdM ZcD;refine ZfC (s:=()) (fin:=fun _=>some (-1)) (p:=fun s:Zz=>decide (s.fact=x)) rfl fun i s _=>?_;rw [Xj,A0];cases decide (s.fact=x)<;>rfl
theorem Zqd (out:List Zz) (x:Za):ZaZ out x=some (ZcD out x):=by
 unfold ZaZ ZcD;refine ZfC (s:=()) (fin:=fun _=>some (-1)) (p:=fun s:Zz=>decide (s.fact=x)) rfl fun i s _=>?_;rw [Zmt,A0];cases decide (s.fact=x)<;>rfl
def toI (c:Yc):Yz:={ rule:=c.rule,facts:=c.token.facts }
theorem Zt5 {β γ:Type}(g:β->γ):∀(c:List (Zh×β)) (s:List Zh×List β),((c.map fun p=>(p.1,g p.2)).foldl XC (s.1,s.2.map g))=((c.foldl XC s).1,(c.foldl XC s).2.map g)
 | [],_=>rfl
 |x::c,s=>by
  have e:XC (s.1,s.2.map g) (x.1,g x.2)=((XC s x).1,(XC s x).2.map g):=by
   unfold XC;by_cases h:x.1∈s.1
   .simp only[h,if_true]
   .simp only[h,if_false,List.map_append,Ap,List.map_nil]
  rw [Ap,Ay,Ay,e];exact Zt5 g c (XC s x)
theorem Zr4 (R:List Zf) (base F:List Za):(YP Zfg F noI R base).2=(YP Zk5 F noS R base).2.map toI:=by
 have h:=Zt5 toI (R.flatMap (Zf7 Zk5 F)) (Zcv F base,base.map fun _=>noS);have B:(R.flatMap (Zf7 Zk5 F)).map (fun p=>(p.1,toI p.2))=R.flatMap (Zf7 Zfg F):=by
  rw [BN];congr 1
  funext r
  rw [Zf7,Zf7,BN];congr 1
  funext t
  simp [Zoq,toI,Zk5,Zfg]
 have A:(base.map fun _=>noS).map toI=base.map fun _=>noI:=by
  rw [List.map_map];rfl
 rw [B,A]at h;unfold YP;rw [h]
section
variable {R:List Zf} {base F:List Za}
theorem Zu4 (H:Ya R base F) (a:(Yg R F base).length<=60) {x:Int}{l:List Int}(G:Zso { nodes:=(F.length:Int),reasons:=Yg R F base } x l) {k:Int}(E:k∈l):
  ∃c o,0<=k/\k.toNat<(Yg R F base).length/\(Yg R F base)[k.toNat]?=some c/\(YP Zfg F noI R base).2[k.toNat]?=some o/\ZBW Zfg noI R base F c o/\0<=c.for_/\c.for_.toNat<F.length:=by
 have hB:=Q4.of H a;obtain ⟨y,J,B⟩:=G.good.sup k E;obtain ⟨L,D,K,c,A,O,N⟩:=Zf9 B;rw [<-J]at A B;simp only at A D;obtain ⟨I,M⟩:=Zfo Zfg F noI R base;have b:k.toNat<(Yg R F base).length:=(AK.1 A).1;have C:(YP Zfg F noI R base).2[k.toNat]?=some _:=AA yE;exact ⟨c,_,B,b,A,C,Zum Zfg noI R base F k.toNat c _ (by rw [I];exact A) C,yE,yE⟩
theorem Znz (B:Ya R base F) {c:Zh}{o:Yz}(h:ZBW Zfg noI R base F c o):o.rule.size<=8/\o.facts.length<=4:=by
 rcases h with ⟨f,_,_,rfl⟩|⟨r,A,t,C,a,_,_,rfl⟩
 .exact ⟨yF,yF⟩
 .have h1:=(B.tokS A C).len;refine ⟨?_,by show t.facts.length<=4;omega⟩;have hl:=(B.rule A).1;unfold ZY at hl;simp only[AB]at hl;have hv:=hl.1.1;unfold YA at hv;simp only[AB]at hv;have hn:=hv.1.1.1.1.1.1.1.1.1;unfold X0 at hn;rw [AB]at hn;exact (Qe hn.1).2
theorem ZzF {O:List Yz}{Q:List Zh}{out:List Zz}{k:Int}{c:Zh}{o:Yz}(B:Q[k.toNat]?=some c) (A:O[k.toNat]?=some o):mkS F Q O out k={ fact:=ZxB F c.for_,rule:=o.rule,uses:=o.facts.map (ZcD out) }:=by unfold mkS;rw [B,A];rfl
theorem ZqW {y:Int}{f:Za}(h:F[y.toNat]?=some f):ZxB F y=f:=by unfold ZxB;rw [h]
end
theorem Zn5 {R:List Zf}{base F:List Za}(A:Ya R base F) (a:(Yg R F base).length<=60) {x:Int}{l:List Int}(B:Zso { nodes:=(F.length:Int),reasons:=Yg R F base } x l):(XB F (Yg R F base) (YP Zfg F noI R base).2 l).length<=60/\∀s∈XB F (Yg R F base) (YP Zfg F noI R base).2 l,Xv s<=80/\s.uses.length<=4:=by
 have hB:=Q4.of A a;refine ⟨by rw [ZjU];exact B.good.len hB,fun s C=>?_⟩;obtain ⟨i,hi⟩:=B4.1 C;obtain ⟨p,k,q,I,_,rfl,_⟩:=ZxX hi;obtain ⟨c,o,L,K,G,D,E,N,J⟩:=Zu4 A a B (k:=k) (by rw [I];simp);obtain ⟨M,H⟩:=Znz A E;obtain ⟨g,hg⟩:∃g,F[c.for_.toNat]?=some g:=⟨_,AA J⟩
 rw [ZzF G D,ZqW hg];have hgc:=ZrC (A.good.ok g (AI hg));have e:Xv { fact:=g,rule:=o.rule,uses:=o.facts.map (ZcD (XB F (Yg R F base) (YP Zfg F noI R base).2 p)) }=ZaK g+o.rule.size+(o.facts.map (ZcD (XB F (Yg R F base) (YP Zfg F noI R base).2 p))).length:=rfl;rw [B5]at e;refine ⟨by rw [e];omega,?_⟩;show (o.facts.map _).length<=4
 rw [B5];exact H
theorem Zuj (R:List Zf) (base:List Za):ZyY R base=Zbv R base/\QZ R base=XI R base:=⟨rfl,rfl⟩
theorem ZCJ {β:Type}{F:List Za}{g:List Zh×List β}(h:g.1.length<=60):ZpW F g=(F,{ nodes:=(F.length:Int),reasons:=g.1 },g.2,true):=by
 unfold ZpW;rw [if_neg yE]
end
theorem Zs2 (y:Int):0<=ZoB .i64 y 255/\ZoB .i64 y 255<=255:=by
 have e:ZoB .i64 y 255=(((BitVec.ofInt 64 y &&& BitVec.ofInt 64 255).toNat:Nat):Int):=by
  show IntKind.i64.wrap (((BitVec.ofInt 64 y &&& BitVec.ofInt 64 255).toNat:Nat):Int)=_
  have:=BO (n:=(BitVec.ofInt 64 y).toNat) (m:=(BitVec.ofInt 64 255).toNat);rw [BitVec.toNat_and];have A:(BitVec.ofInt 64 255).toNat=255:=by decide
  exact Yo yE yE
 have:=BO (n:=(BitVec.ofInt 64 y).toNat) (m:=(BitVec.ofInt 64 255).toNat);rw [e,BitVec.toNat_and];have A:(BitVec.ofInt 64 255).toNat=255:=by decide
 omega
structure ZK (c:Zi):Prop where
 i:0<=c.i
 b:c.b.length<=4096
theorem ZBb (a:List Int) (h:a.length<=4096):∃c,Zln a=some c/\ZK c:=by
 unfold Zln;have key:∀(l:List Int) (i:Nat) (s:Int),∃c,forL (fun (B:Nat) (A:Int) (d:Int)=>
   if (decide ((B:Int)<4000))=true then
    some (.inl (ZoB .i64 (IntKind.i64.wrap ((IntKind.i64.wrap ((IntKind.i64.wrap (d*167))+IntKind.i64.wrap A))+29)) 1073741823))
   else
    some (.inr ({ b:=a,i:=0,h:=d }:Zi))) (fun d=>some ({ b:=a,i:=0,h:=d }:Zi)) l i s=some c/\ZK c:=by
  intro l;induction l with
  |nil=>intro i s;exact ⟨_,rfl,B9 _,h⟩
  |cons x l ih=>
   intro i s;cases hd:decide ((i:Int)<4000) with
   |true=>
    obtain ⟨c,D,C⟩:=ih (i+1) (ZoB .i64 (IntKind.i64.wrap ((IntKind.i64.wrap ((IntKind.i64.wrap (s*167))+IntKind.i64.wrap x))+29)) 1073741823);exact ⟨c,by rw [ZO (by rw [hd,if_pos rfl])];exact D,C⟩
   |false=>exact ⟨_,by rw [Z5 (by rw [hd];rfl)],B9 _,h⟩
 exact key a 0 _
theorem ZyS {c:Zi}(h:ZK c):∃x c',ZdL c=some (x,c')/\0<=x/\x<=255/\ZK c':=by
 unfold ZdL;cases hd:decide (c.i<(c.b.length:Int)) with
 |true=>
  have B:c.i<(c.b.length:Int):=by simpa using hd
  have hi:=h.i;have hb:=h.b;have A:c.i.toNat<c.b.length:=by omega
  rw [if_pos rfl,show atI c.b c.i=some (c.b[c.i.toNat]) by unfold atI;rw [if_pos hi,AA A]];refine ⟨_,_,rfl,(Zs2 _).1,(Zs2 _).2,?_,hb⟩;show 0<=IntKind.i64.wrap (c.i+1)
  rw [Yo yE yE];omega
 |false=>
  rw [if_neg yG];exact ⟨_,_,rfl,(Zs2 _).1,(Zs2 _).2,h.i,h.b⟩
theorem Z1 {c:Zi}(h:ZK c) {n:Int}(C:0<n) (D:n<=256):∃x c',ZL c n=some (x,c')/\0<=x/\x<n/\ZK c':=by
 unfold ZL;obtain ⟨x,c',e,A,_,B⟩:=ZyS h;rw [if_neg (by simp;omega),if_pos (by simp;omega),e];refine ⟨Int.tmod x n,c',?_,Int.tmod_nonneg _ A,Int.tmod_lt_of_pos _ C,B⟩;show chk _ _=_
 rw [Zj _ yE]
theorem ZgC {c:Zi}(h:ZK c) {n:Int}(C:0<n) (B:n<=256):∃b c',ZaI c n=some (b,c')/\ZK c':=by
 obtain ⟨x,c',e,_,_,A⟩:=Z1 h C B;exact ⟨x==0,c',by unfold ZaI;rw [e];rfl,A⟩
theorem Zcq {c:Zi}(h:ZK c) {l:List Int}(F:0<l.length) (E:l.length<=256):∃x c',QE c l=some (x,c')/\x∈l/\ZK c':=by
 obtain ⟨x,c',e,B,A,D⟩:=Z1 h (n:=(l.length:Int)) yE yE;have C:x.toNat<l.length:=by omega
 refine ⟨l[x.toNat],c',?_,AP _,D⟩;unfold QE;rw [e];show (atI l x).bind _=_
 rw [show atI l x=some l[x.toNat] by unfold atI;rw [if_pos B,AA C]];rfl
def Qj (p s:ByteArray):Prop:=∃a b,a<=b/\b<=s.size/\p=s.extract a b
theorem Qj.size {p s:ByteArray}(h:Qj p s):p.size<=s.size:=by
 obtain ⟨a,b,B,A,rfl⟩:=h;rw [Aj];omega
theorem ZtG (s:ByteArray) (a b:Nat):toL (s.extract a b)=((toL s).drop a).take (b - a):=by
 unfold toL;rw [ByteArray.data_extract,Array.toList_extract,List.extract_eq_take_drop]
theorem Qj.infix {p s:ByteArray}(h:Qj p s):toL p <:+: toL s:=by
 obtain ⟨a,b,B,A,rfl⟩:=h;rw [ZtG];refine ⟨(toL s).take a,((toL s).drop a).drop (b - a),?_⟩;rw [Aw,BP,BP]
theorem Zwp {σ ρ:Type}{s sep:ByteArray}(F:0<sep.size) (st:List ByteArray->Nat->Nat->σ) (g:List ByteArray->ρ) {body:σ->Option (σ ⊕ ρ)}
  (I:∀row a i,a<=i->i+sep.size<=s.size->row.length<=i->body (st row a i)=some (.inl (if sEq (s.extract i (i+sep.size)) sep=true then st (row++[s.extract a i]) (i+sep.size) (i+sep.size) else st row a (i+1))))
  (G:∀row a i,a<=i->i<=s.size->¬i+sep.size<=s.size->row.length<=i->body (st row a i)=some (.inr (g (row++[s.extract a s.size])))):
  ∃l,iter body (st [] 0 0)=some (g l)/\l.length<=s.size+1/\∀p∈l,Qj p s:=by
 have key:∀m row a i,s.size - i<=m->a<=i->i<=s.size->row.length<=i->(∀p∈row,Qj p s)->∃l,iter body (st row a i)=some (g l)/\l.length<=s.size+1/\∀p∈l,Qj p s:=by
  intro m;induction m with
  |zero=>
   intro row a i H D hi E B;have C:¬i+sep.size<=s.size:=by omega
   refine ⟨_,ZU (G row a i D hi C E),by simp;omega,fun p A=>?_⟩;rcases AC.1 A with A|A
   .exact B p A
   .simp at A;subst A;exact ⟨a,s.size,yE,AH _,rfl⟩
  |succ m ih=>
   intro row a i H D hi E B;by_cases C:i+sep.size<=s.size
   .rw [Z6 (I row a i D C E)];split
    .refine ih _ _ _ yE (AH _) C (by simp;omega) fun p A=>?_;rcases AC.1 A with A|A
     .exact B p A
     .simp at A;subst A;exact ⟨a,i,D,hi,rfl⟩
    .exact ih _ _ _ yE yE yE yE B
   .refine ⟨_,ZU (G row a i D hi C E),by simp;omega,fun p A=>?_⟩;rcases AC.1 A with A|A
    .exact B p A
    .simp at A;subst A;exact ⟨a,s.size,yE,AH _,rfl⟩
 exact key s.size [] 0 0 yE (AH _) (Nat.zero_le _) (AH _) yG
theorem Qj.ext (s:ByteArray) {a b:Nat}(h:a<=b) (A:b<=s.size):Qj (s.extract a b) s:=⟨a,b,h,A,rfl⟩
theorem Qj.trans {p q s:ByteArray}(h:Qj p q) (k:Qj q s):Qj p s:=by
 obtain ⟨a,b,D,A,rfl⟩:=h;obtain ⟨c,d,C,B,rfl⟩:=k;rw [Aj]at A;refine ⟨c+a,c+b,yE,yE,?_⟩;rw [ByteArray.extract_extract];congr 1
 omega
theorem Ql {s sep:ByteArray}(hs:s.size<=1000) (A:0<sep.size) (F:sep.size<=10):∃l,Qd s sep=some l/\l.length<=s.size+1/\∀p∈l,Qj p s:=by
 unfold Qd;rw [if_neg (by rw [ZV];intro e;rw [e]at A;exact absurd A yF)];refine Zwp A (fun row f i=>(row,(f:Int),(i:Int))) (fun l=>l) ?_ ?_
 .intro row f i C hi B;have e:IntKind.i64.wrap ((i:Int)+(sep.size:Int))=((i+sep.size:Nat):Int):=by rw [Yo yE yE];omega
  have D:IntKind.i64.wrap ((i:Int)+1)=((i+1:Nat):Int):=by rw [Yo yE yE];omega
  simp only[e,D,AD];rw [if_pos (by simp;omega),Zj _ yE];split
  .rw [Zj _ yE,Zj _ yE]
  .rfl
 .intro row f i C hi E B;have e:IntKind.i64.wrap ((i:Int)+(sep.size:Int))=((i+sep.size:Nat):Int):=by rw [Yo yE yE];omega
  simp only[e,AD];rw [if_neg (by simp;omega),Zj _ yE,Zj _ yE]
theorem ZyA {α:Type}{l:List α}(h:¬((l.length:Int) != 2)=true):∃x y,l=[x,y]:=by
 have A:l.length=2:=by simp at h;omega
 match l,A with
 | [x,y],_=>exact ⟨x,y,rfl⟩
theorem Zwi {s:ByteArray}(hs:s.size<=1000):∃r a B,ZcN s=some (r,a,B)/\a.length<=s.size+1:=by
 unfold ZcN;obtain ⟨l,e,J,D⟩:=Ql (sep:=⟨#[40]⟩) hs yF yF;rw [e,A0];split
 .exact ⟨_,_,_,rfl,yG⟩
 rename_i F;obtain ⟨x,y,rfl⟩:=ZyA F;have c:(([x,y]:List ByteArray).length:Int)=2:=rfl;rw [Zj _ (by rw [c];decide)];simp only[show A9 1=1 from rfl,show A9 0=0 from rfl,AX,AY,A0];have hy:=(D y yG).size;split
 .exact ⟨_,_,_,rfl,yG⟩
 rename_i E;have C:y.size≠0:=fun e=>E (by rw [e];rfl);have H:IntKind.i64.wrap ((y.size:Int) - 1)=((y.size - 1:Nat):Int):=by rw [Yo yE yE];omega
 simp only[H];have A:∃b,sAt y ((y.size - 1:Nat):Int)=some b:=by
  unfold sAt;rw [if_pos yE,AD];exact ⟨y[y.size - 1]'yE,by rw [getElem?_pos]⟩
 obtain ⟨b,A⟩:=A;rw [A,A0];split
 .exact ⟨_,_,_,rfl,yG⟩
 rw [Zj _ yE,AD];split
 .rw [Zj _ yG];exact ⟨_,_,_,rfl,yG⟩
 .rw [Zj _ yG];have I:(y.extract 0 (y.size - 1)).size<=y.size:=by rw [Aj];omega
  obtain ⟨k,G,K,_⟩:=Ql (s:=y.extract 0 (y.size - 1)) (sep:=⟨#[44]⟩) yE yF yF;rw [G,A0];exact ⟨_,_,_,rfl,yE⟩
theorem Zhk {s:ByteArray}(hs:s.size<=1000):∃p A,Yx s=some (p,A)/\p.args.length<=s.size+1:=by
 unfold Yx;obtain ⟨r,a,A,e,ha⟩:=Zwi hs;rw [e,A0];cases A with
 |false=>exact ⟨_,_,rfl,yG⟩
 |true=>
  rw [if_pos rfl,QJ,A0];split
  .exact ⟨_,_,rfl,ha⟩
  .exact ⟨_,_,rfl,yG⟩
def ZlQ:ByteArray:=⟨#[110,111,116,32]⟩
theorem ZsO {s:ByteArray}(hs:s.size<=1000):∃x A,QS s=some (x,A)/\x.pattern.args.length<=s.size+1/\(x.kind=2->Qj ZlQ s):=by
 unfold QS;have F:∀k:Int,∃g,Zge k=some g/\0<g.size/\g.size<=10:=fun k=>by
  unfold Zge;split
  .exact ⟨_,rfl,yF,yF⟩
  .split
   .exact ⟨_,rfl,yF,yF⟩
   .exact ⟨_,rfl,yF,yF⟩
 have key:∀(body:Int->Option (Int ⊕ Zu×Bool)) (Q:Zu×Bool->Prop),(∀k:Nat,3<=k->k<=5->(∃r,body (k:Int)=some (.inr r)/\Q r)\/body (k:Int)=some (.inl ((k+1:Nat):Int)))->(∃r,body 6=some (.inr r)/\Q r)->∃r,iter body 3=some r/\Q r:=by
  intro body Q J E;have b:∀k:Nat,3<=k->k<=6->∃r,iter body (k:Int)=some r/\Q r:=by
   have K:∀m k:Nat,k+m=6->3<=k->∃r,iter body (k:Int)=some r/\Q r:=by
    intro m;induction m with
    |zero=>
     intro k D _;obtain rfl:k=6:=by omega
     obtain ⟨r,e,q⟩:=E;exact ⟨r,ZU e,q⟩
    |succ m ih=>
     intro k D B;rcases J k B yE with ⟨r,e,q⟩|e
     .exact ⟨r,ZU e,q⟩
     .rw [Z6 e];exact ih (k+1) yE yE
   exact fun k B U=>K (6 - k) k yE B
  exact b 3 yE yE
 have fin:∀body:Int->Option (Int ⊕ Zu×Bool),(∃r,iter body 3=some r/\(r.1.pattern.args.length<=s.size+1/\(r.1.kind=2->Qj ZlQ s)))->∃x A,iter body 3=some (x,A)/\x.pattern.args.length<=s.size+1/\(x.kind=2->Qj ZlQ s):=fun _ ⟨r,e,q⟩=>⟨r.1,r.2,e,q⟩
 refine fin _ (key _ (fun r=>r.1.pattern.args.length<=s.size+1/\(r.1.kind=2->Qj ZlQ s)) ?_ ?_)
 .intro k B V;rw [if_pos (by simp;omega)];obtain ⟨g,O,M,L⟩:=F (k:Int);obtain ⟨l,N,T,S⟩:=Ql hs M L;have P:IntKind.i64.wrap ((k:Int)+1)=((k+1:Nat):Int):=by rw [Yo yE yE];omega
  rw [O,A0,N,A0,P];split
  .rename_i E;obtain ⟨x,y,rfl⟩:=ZyA (l:=l) (by simp at E ⊢;omega);rw [Zj _ yG];simp only[show A9 1=1 from rfl,show A9 0=0 from rfl,AX,AY,A0];rw [Zj _ yG,ZbW,A0];split
   .exact .inl ⟨_,rfl,yG,fun h=>by simp only at h;omega⟩
   .exact .inr rfl
  .exact .inr rfl
 .rw [if_neg yF];have a:∀(t:ByteArray),t.size<=s.size->∀C:Int,(C=2->Qj ZlQ s)->∃r,((Yx t).bind fun v=>if v.2=true then some (Sum.inr (({ kind:=C,pattern:=v.1,left:=⟨#[]⟩,right:=⟨#[]⟩ }:Zu),true)) else some (.inr (({ kind:=0,pattern:=({ rel:=⟨#[]⟩,args:=[] }:Zo),left:=⟨#[]⟩,right:=⟨#[]⟩ }:Zu),false)))=some (Sum.inr r:Int ⊕ Zu×Bool)/\(r.1.pattern.args.length<=s.size+1/\(r.1.kind=2->Qj ZlQ s)):=fun t R C D=>by
   obtain ⟨p,A,e,ha⟩:=Zhk (s:=t) yE;rw [e,A0];cases A with
   |true=>exact ⟨_,rfl,by show p.args.length<=_;omega,D⟩
   |false=>exact ⟨_,rfl,yG,fun h=>by simp at h⟩
  split
  .rename_i I;have H:4<s.size:=by simp at I;omega
   rw [Zj _ yE];split
   .rename_i G;have c:=ZV.1 G;exact a _ (by rw [Aj];omega) 2 fun _=>by
     unfold ZlQ;rw [<-c];exact Qj.ext s yF (by show A9 4<=_;have:A9 4=4:=rfl;omega)
   .exact a s (AH _) 1 fun h=>by omega
  .exact a s (AH _) 1 fun h=>by omega
theorem ZtJ {s:ByteArray}(hs:s.size<=1000):∃a A,Q5 s=some (a,A)/\a.pattern.args.length<=s.size+1:=by
 unfold Q5;split
 .exact ⟨_,_,rfl,yG⟩
 obtain ⟨l,e,E,B⟩:=Ql (sep:=⟨#[32]⟩) hs yF yF;rw [e,A0];split
 .exact ⟨_,_,rfl,yG⟩
 rename_i C;obtain ⟨x,y,rfl⟩:=ZyA C;have hy:=(B y yG).size;obtain ⟨p,A,D,ha⟩:=Zhk (s:=y) yE;rw [Zj _ yG];simp only[show A9 1=1 from rfl,show A9 0=0 from rfl,AX,AY,A0,D];split
 .rw [Zj _ yG];exact ⟨_,_,rfl,by show p.args.length<=_;omega⟩
 .split
  .rw [Zj _ yG];exact ⟨_,_,rfl,by show p.args.length<=_;omega⟩
  .exact ⟨_,_,rfl,yG⟩
structure Zjr (s:ByteArray) (r:Zf):Prop where
 cl:r.cond.length<=s.size+1
 tl:r.thn.length<=s.size+1
 ca:∀x∈r.cond,x.pattern.args.length<=s.size+1/\(x.kind=2->Qj ZlQ s)
 ta:∀a∈r.thn,a.pattern.args.length<=s.size+1
theorem Zry {α ρ:Type}{s:ByteArray}{P:α->Prop}{g:ByteArray->Option (α×Bool)}{fin:List α->Option ρ}{z:List α->ρ}{Q:ρ->Prop}{l:List ByteArray}(I:l.length<=2000) (G:∀p∈l,Qj p s) (H:∀p,Qj p s->∃x B,g p=some (x,B)/\P x) (E:∀acc:List α,acc.length<=l.length->(∀x∈acc,P x)->Q (z acc)) (b:∀acc:List α,acc.length<=l.length->(∀x∈acc,P x)->∃r,fin acc=some r/\Q r):
  ∃r,forL (σ:=List α) (fun (i:Nat) (x:ByteArray) row=>(g x).bind fun v=>if v.2=true then chk (row.length+1<=1073741824) (some (.inl (row++[v.1]))) else some (.inr (z row))) fin l 0 []=some r/\Q r:=by
 have key:∀(m:List ByteArray) (i:Nat) (acc:List α),(∀p∈m,p∈l)->acc.length+m.length<=l.length->(∀x∈acc,P x)->∃r,forL (σ:=List α) (fun (i:Nat) (x:ByteArray) row=>(g x).bind fun v=>if v.2=true then chk (row.length+1<=1073741824) (some (.inl (row++[v.1]))) else some (.inr (z row))) fin m i acc=some r/\Q r:=by
  intro m;induction m with
  |nil=>intro i acc _ a ha;exact b acc (by simp at a;omega) ha
  |cons x m ih=>
   intro i acc C a ha;obtain ⟨y,B,e,F⟩:=H x (G x (C x yG));rw [AT]at a;cases B with
   |true=>
    rw [ZO (s':=acc++[y]) (by rw [e];exact Zj _ yE)];exact ih _ _ (fun p D=>C p (by simp [D])) (by simp;omega) fun q A=>by
     rcases AC.1 A with A|A
     .exact ha q A
     .simp at A;subst A;exact F
   |false=>exact ⟨_,Z5 (by rw [e];rfl),E acc yE ha⟩
 exact key l 0 [] (fun _ h=>h) yG yG
theorem ZwG {s a b:ByteArray}(hs:s.size<=1000) (ha:Qj a s) (I:Qj b s) (A:Zf):∃r D,ZcT A a b=some (r,D)/\Zjr s r:=by
 unfold ZcT;have ha':=ha.size;have hb':=I.size;obtain ⟨l,e,N,C⟩:=Ql (s:=a) (sep:=⟨#[32,38,32]⟩) yE yF yF;obtain ⟨k,M,O,K⟩:=Ql (s:=b) (sep:=⟨#[32,38,32]⟩) yE yF yF;rw [e,A0];obtain ⟨r,E,B⟩:=Zry (s:=s) (P:=fun x:Zu=>x.pattern.args.length<=s.size+1/\(x.kind=2->Qj ZlQ s)) (g:=QS) (fin:=fun d=>(Qd b (⟨#[32,38,32]⟩)).bind fun i=>
   forL (σ:=(List Zy))
    (fun (J:Nat) (j:ByteArray) c=>
     (Q5 j).bind fun f=>
     if f.2=true then
      chk (c.length+1<=1073741824) <|
      some (.inl (c++[f.1]))
     else
      some (.inr (({ name:=A.name,priority:=A.priority,cond:=d,thn:=c }:Zf),false)))
    (fun c=>
     (XU ({ name:=A.name,priority:=A.priority,cond:=d,thn:=c }:Zf)).bind fun m=>
     some (({ name:=A.name,priority:=A.priority,cond:=d,thn:=c }:Zf),m))
    i 0 []) (z:=fun d=>(({ name:=A.name,priority:=A.priority,cond:=d,thn:=[] }:Zf),false)) (Q:=fun r=>Zjr s r.1) (l:=l) yE (fun p H=>(C p H).trans ha) (fun p C=>by
    obtain ⟨x,D,e,E,B⟩:=ZsO (s:=p) (by have:=C.size;omega);exact ⟨x,D,e,by have:=C.size;omega,fun h=>(B h).trans C⟩) (fun acc E B=>⟨by show acc.length<=_;omega,yG,B,yG⟩) (fun acc E B=>by
    rw [M,A0];exact Zry (s:=s) (P:=fun x:Zy=>x.pattern.args.length<=s.size+1) (g:=Q5) (z:=fun c=>(({ name:=A.name,priority:=A.priority,cond:=acc,thn:=c }:Zf),false)) (Q:=fun r=>Zjr s r.1) (l:=k) yE (fun p H=>(K p H).trans I) (fun p C=>by
     obtain ⟨x,D,e,E⟩:=ZtJ (s:=p) (by have:=C.size;omega);exact ⟨x,D,e,by have:=C.size;omega⟩) (fun row L F=>⟨by show acc.length<=_;omega,by show row.length<=_;omega,B,F⟩) (fun row L F=>by
     rw [Zb9 _ ⟨by show acc.length<=_;omega,by show row.length<=_;omega,fun x G=>by have:=(B x G).1;omega,fun x G=>by have:=F x G;omega⟩,A0];exact ⟨_,rfl,by show acc.length<=_;omega,by show row.length<=_;omega,B,F⟩))
 exact ⟨r.1,r.2,E,B⟩
theorem Zgs (s:ByteArray):Zjr s { name:=⟨#[]⟩,priority:=0,cond:=[],thn:=[] }:=⟨yG,yG,yG,yG⟩
theorem Zls {s:ByteArray}(hs:s.size<=1000):∃r A,Y3 s=some (r,A)/\Zjr s r:=by
 unfold Y3;obtain ⟨l,e,P,B⟩:=Ql (sep:=⟨#[58,32]⟩) hs yF yF;rw [e,A0];split
 .exact ⟨_,_,rfl,Zgs s⟩
 rename_i K;obtain ⟨x,y,rfl⟩:=ZyA K;have hx:=B x yG;have hy:=B y yG;have hx':=hx.size;have hy':=hy.size;obtain ⟨m,M,O,H⟩:=Ql (s:=x) (sep:=⟨#[32]⟩) yE yF yF;obtain ⟨k,N,R,a⟩:=Ql (s:=y) (sep:=⟨#[32,45,62,32]⟩) yE yF yF;rw [Zj _ yG];simp only[show A9 1=1 from rfl,show A9 0=0 from rfl,AX,AY,A0,M];rw [Zj _ yG,N,A0];split
 .exact ⟨_,_,rfl,Zgs s⟩
 rename_i J;obtain ⟨D,C,rfl⟩:=ZyA J;split
 .exact ⟨_,_,rfl,Zgs s⟩
 rename_i I;obtain ⟨F,E,rfl⟩:=ZyA I;rw [Zj _ yG];simp only[AX,AY,A0,Zam];split
 .rw [Zj _ yG,Zj _ yG,Zj _ yG];obtain ⟨r,A,L,G⟩:=ZwG hs ((a F yG).trans hy) ((a E yG).trans hy) ({ name:=D,priority:=(Zd1 C).1,cond:=[],thn:=[] }:Zf);rw [L,A0];cases A with
  |true=>exact ⟨_,_,rfl,G⟩
  |false=>exact ⟨_,_,rfl,Zgs s⟩
 .exact ⟨_,_,rfl,Zgs s⟩
theorem Zdv {c:Zi}(h:ZK c) {l:List ByteArray}(F:0<l.length) (E:l.length<=256):∃x c',QD c l=some (x,c')/\x∈l/\ZK c':=by
 obtain ⟨x,c',e,B,A,D⟩:=Z1 h (n:=(l.length:Int)) yE yE;have C:x.toNat<l.length:=by omega
 refine ⟨l[x.toNat],c',?_,AP _,D⟩;unfold QD;rw [e];show (atI l x).bind _=_
 rw [show atI l x=some l[x.toNat] by unfold atI;rw [if_pos B,AA C]];rfl
def RK (nots:Bool) (r:Zf):Prop:=∃s:ByteArray,s.size<=100/\(nots=false->¬Qj ZlQ s)/\Zjr s r
theorem Zot (L:List ByteArray) (n:Int) (N:Nat) (M:N=L.length) (G:0<n) (K:n<=N) (hs:∀s∈L,s.size<=100) (O:N<=256) {c:Zi}(F:ZK c):∃s r c',((ZL c n).bind fun v1=>chk (0<=v1.1/\v1.1<(N:Int)) ((L[(A9 v1.1)]?).bind fun B=>(Y3 B).bind fun C=>some (C.1,v1.2)))=some (r,c')/\s∈L.take n.toNat/\s.size<=100/\Zjr s r/\ZK c':=by
 obtain ⟨x,c',e,J,D,a⟩:=Z1 F G yE;have A:x.toNat<L.length:=by omega
 obtain ⟨r,I,H,E⟩:=Zls (s:=L[x.toNat]) (by have:=hs _ (AP A);omega);refine ⟨L[x.toNat],r,c',?_,?_,hs _ (AP A),E,a⟩
 .rw [e,A0,Zj _ yE,AA A,A0,H];rfl
 .rw [List.mem_take_iff_getElem];exact ⟨x.toNat,yE,rfl⟩
theorem ZFn {s:ByteArray}(h:¬toL ZlQ <:+: toL s):¬Qj ZlQ s:=fun k=>h k.infix
theorem Zt0 {c:Zi}(h:ZK c) (a:Bool):∃r c',ZcW c a=some (r,c')/\RK a r/\ZK c':=by
 unfold ZcW;have fin:∀{L:List ByteArray} {n:Int} {o:Option (Zf×Zi)},(a=false->∀s∈L.take n.toNat,¬toL ZlQ <:+: toL s)->(∃s r c',o=some (r,c')/\s∈L.take n.toNat/\s.size<=100/\Zjr s r/\ZK c')->∃r c',o=some (r,c')/\RK a r/\ZK c':=fun A ⟨s,r,c',e,F,E,D,C⟩=>⟨r,c',e,⟨s,E,fun B=>ZFn (A B s F),D⟩,C⟩
 cases a with
 |true=>
  rw [if_pos rfl];exact fin (fun h=>by cases h) (Zot _ 11 11 rfl yE yE yF yE h)
 |false=>
  rw [if_neg yG];exact fin (fun _=>by decide) (Zot _ 7 11 rfl yE yE yF yE h)
theorem RK.name {a:Bool}{r:Zf}(h:RK a r) (n:ByteArray) (p:Int):RK a { name:=n,priority:=p,cond:=r.cond,thn:=r.thn }:=by
 obtain ⟨s,C,B,A⟩:=h;exact ⟨s,C,B,A.cl,A.tl,A.ca,A.ta⟩
theorem Zti {c:Zi}(h:ZK c) (a:Bool):∃R c',Zem c a=some (R,c')/\R.length<=3/\(∀r∈R,RK a r)/\ZK c':=by
 unfold Zem;obtain ⟨n,M,e,O,N,J⟩:=Z1 h (n:=4) yE yE;rw [e,A0];have key:∀(k:Nat) (A:Zi) (row:List Zf),ZK A->row.length+k<=3->(∀r∈row,RK a r)->∃R c',iter (σ:=(List Int)×Int×Int×(List Zf)×Int)
  (fun s=>
   match s with
   |(f_4,f_5,f_6,row_7,n_8)=>
   if (decide (0<n_8))=true then
    (ZcW ({ b:=f_4,i:=f_5,h:=f_6 }:Zi) a).bind fun B=>
    (YJ n_8).bind fun f=>
    chk ((⟨#[114]⟩:ByteArray).size+f.size<=9223372036854775807) <|
    chk (row_7.length+1<=1073741824) <|
    some (.inl (B.2.b,B.2.i,B.2.h,(row_7++[({ name:=((⟨#[114]⟩:ByteArray)++f),priority:=B.1.priority,cond:=B.1.cond,thn:=B.1.thn }:Zf)]),(IntKind.i64.wrap (n_8 - 1))))
   else
    some (.inr (row_7,({ b:=f_4,i:=f_5,h:=f_6 }:Zi))))
  (A.b,A.i,A.h,row,(k:Int))=some (R,c')/\R.length<=3/\(∀r∈R,RK a r)/\ZK c':=by
  intro k;induction k with
  |zero=>
   intro A row d I E;exact ⟨row,A,ZU rfl,yE,E,d⟩
  |succ k ih=>
   intro A row d I E;obtain ⟨r,D,L,j,l⟩:=Zt0 d a;have g:decide (0<(((k+1:Nat)):Int))=true:=decide_eq_true yE;have G:IntKind.i64.wrap ((((k+1:Nat)):Int) - 1)=(k:Int):=by rw [Yo yE yE];omega
   have H:(ofL (Lib.itoa ((k+1:Nat):Int))).size<=21:=Zl3 ⟨yE,yE⟩;refine (Z6 (s':=(D.b,D.i,D.h,row++[({ name:=((⟨#[114]⟩:ByteArray)++ofL (Lib.itoa ((k+1:Nat):Int))),priority:=r.priority,cond:=r.cond,thn:=r.thn }:Zf)],(k:Int))) ?_) ▸ ih D _ l (by simp;omega) fun q C=>?_
   .simp only[g,if_true];rw [show ({ b:=A.b,i:=A.i,h:=A.h }:Zi)=A from rfl,L,A0,Za3 ⟨yE,yE⟩,A0,Zj _ (by have:(⟨#[114]⟩:ByteArray).size=1:=rfl;omega),Zj _ yE,G]
   .rcases AC.1 C with C|C
    .exact E q C
    .simp at C;subst C;exact j.name _ _
 have K:n=(n.toNat:Int):=by omega
 have:=key n.toNat M [] J (by simp;omega) (fun y F=>by simp at F);rw [<-K]at this;exact this
theorem Zwo {c:Zi}(h:ZK c) {m:Int}(h0:0<=m) (h7:m<=7):∃l c',Zgd c m=some (l,c')/\l.length<=7/\(∀f∈l,f.args.length<=2)/\ZK c':=by
 unfold Zgd;have H:IntKind.i64.wrap (m+1)=m+1:=Yo yE yE;rw [H];obtain ⟨n,c1,e,n0,n1,W⟩:=Z1 h (n:=m+1) yE yE;rw [e,A0];have t:∀(row:List Za) (f:Za),row.length<=7->(∀f∈row,f.args.length<=2)->f.args.length<=2->∃g,YS row f=some g/\g.length<=row.length+1/\∀f∈g,f.args.length<=2:=fun row f T ha R=>⟨_,Zg7 row f yE (fun x I=>by have:=ha x I;omega) yE,Zkv f row,fun x I=>by
  rcases XR.1 I with rfl|I
  .exact R
  .exact ha x I⟩
 have key:∀(k:Nat) (F:Zi) (row:List Za),ZK F->row.length+k<=7->(∀f∈row,f.args.length<=2)->∃l c',iter (σ:=(List Int)×Int×Int×(List Za)×Int)
   (fun s=>
   match s with
   |(f_9,f_10,f_11,row_12,n_13)=>
   if (decide (0<n_13))=true then
    (QD ({ b:=f_9,i:=f_10,h:=f_11 }:Zi) ([(⟨#[97]⟩),(⟨#[98]⟩),(⟨#[49]⟩),(⟨#[50]⟩)])).bind fun o=>
    (QD o.2 ([(⟨#[97]⟩),(⟨#[98]⟩),(⟨#[49]⟩)])).bind fun p=>
    (ZL p.2 5).bind fun d=>
    if (d.1==0)=true then
     (YS row_12 ({ rel:=(⟨#[112]⟩),args:=[o.1] }:Za)).bind fun u=>
     some (.inl (d.2.b,d.2.i,d.2.h,u,(IntKind.i64.wrap (n_13 - 1))))
    else
     if (d.1==1)=true then
      (YS row_12 ({ rel:=(⟨#[97,116]⟩),args:=[o.1,p.1] }:Za)).bind fun w=>
      some (.inl (d.2.b,d.2.i,d.2.h,w,(IntKind.i64.wrap (n_13 - 1))))
     else
      if (d.1==2)=true then
       (YS row_12 ({ rel:=(⟨#[113]⟩),args:=[o.1] }:Za)).bind fun z=>
       some (.inl (d.2.b,d.2.i,d.2.h,z,(IntKind.i64.wrap (n_13 - 1))))
      else
       (YS row_12 ({ rel:=(⟨#[111,110]⟩),args:=[o.1,p.1] }:Za)).bind fun A=>
       some (.inl (d.2.b,d.2.i,d.2.h,A,(IntKind.i64.wrap (n_13 - 1))))
   else
    some (.inr (row_12,({ b:=f_9,i:=f_10,h:=f_11 }:Zi))))
   (F.b,F.i,F.h,row,(k:Int))=some (l,c')/\l.length<=7/\(∀f∈l,f.args.length<=2)/\ZK c':=by
  intro k;induction k with
  |zero=>
   intro F row q T P;exact ⟨row,F,ZU rfl,yE,P,q⟩
  |succ k ih=>
   intro F row q T P;obtain ⟨a,c2,N,_,B⟩:=Zdv q (l:=[(⟨#[97]⟩),(⟨#[98]⟩),(⟨#[49]⟩),(⟨#[50]⟩)]) yG yG;obtain ⟨b,c3,M,_,C⟩:=Zdv B (l:=[(⟨#[97]⟩),(⟨#[98]⟩),(⟨#[49]⟩)]) yG yG;obtain ⟨x,G,L,_,_,D⟩:=Z1 C (n:=5) yE yE;have j:decide (0<(((k+1:Nat)):Int))=true:=decide_eq_true yE;have H:IntKind.i64.wrap ((((k+1:Nat)):Int) - 1)=(k:Int):=by rw [Yo yE yE];omega
   have K:∀f:Za,f.args.length<=2->∀{body:(List Int)×Int×Int×(List Za)×Int->Option (((List Int)×Int×Int×(List Za)×Int) ⊕ (List Za×Zi))},(body (F.b,F.i,F.h,row,((k+1:Nat):Int))=(YS row f).bind fun v=>some (.inl (G.b,G.i,G.h,v,(k:Int))))->(∀(row:List Za),row.length+k<=7->(∀f∈row,f.args.length<=2)->∃l c',iter body (G.b,G.i,G.h,row,(k:Int))=some (l,c')/\l.length<=7/\(∀f∈l,f.args.length<=2)/\ZK c')->∃l c',iter body (F.b,F.i,F.h,row,((k+1:Nat):Int))=some (l,c')/\l.length<=7/\(∀f∈l,f.args.length<=2)/\ZK c':=fun f R body hb hi=>by
    obtain ⟨g,ep,V,E⟩:=t row f yE P R;rw [Z6 (hb.trans (by rw [ep];rfl))];exact hi g yE E
   have hi:=fun row=>ih G row D;by_cases J:x=0
   .refine K { rel:=(⟨#[112]⟩),args:=[a] } yG ?_ hi;simp only[j,if_true];rw [show ({ b:=F.b,i:=F.i,h:=F.h }:Zi)=F from rfl,N,A0,M,A0,L,A0,H,if_pos (by simp [J])]
   .by_cases O:x=1
    .refine K { rel:=(⟨#[97,116]⟩),args:=[a,b] } yG ?_ hi;simp only[j,if_true];rw [show ({ b:=F.b,i:=F.i,h:=F.h }:Zi)=F from rfl,N,A0,M,A0,L,A0,H,if_neg (by simp [J]),if_pos (by simp [O])]
    .by_cases S:x=2
     .refine K { rel:=(⟨#[113]⟩),args:=[a] } yG ?_ hi;simp only[j,if_true];rw [show ({ b:=F.b,i:=F.i,h:=F.h }:Zi)=F from rfl,N,A0,M,A0,L,A0,H,if_neg (by simp [J]),if_neg (by simp [O]),if_pos (by simp [S])]
     .refine K { rel:=(⟨#[111,110]⟩),args:=[a,b] } yG ?_ hi;simp only[j,if_true];rw [show ({ b:=F.b,i:=F.i,h:=F.h }:Zi)=F from rfl,N,A0,M,A0,L,A0,H,if_neg (by simp [J]),if_neg (by simp [O]),if_neg (by simp [S])]
 have e5:n=(n.toNat:Int):=by omega
 have:=key n.toNat c1 [] W (by simp;omega) (fun y U=>by simp at U);rw [<-e5]at this;exact this
section
open Classical
def ZFY (R:List Zf) (base M:List Za) (ok:Bool):Prop:=(ok=false/\M=[])\/(ok=true/\∃F,Ya R base F/\(Yg R F base).length<=60/\M=XY F (rdB { nodes:=(F.length:Int),reasons:=Yg R F base }))
theorem ZkZ {R:List Zf}(B:XD R) (base:List Za) (a:base.length<=1048576):∃M ok,QK R base=some (M,ok)/\Za9 R base=some (M,ok)/\ZFY R base M ok:=by
 obtain ⟨F,b,ok,E,D,C⟩:=Zeo B base a;unfold QK Za9;rw [E,D];rcases C with ⟨rfl,rfl,rfl⟩|⟨rfl,A,rfl,c⟩
 .exact ⟨_,_,rfl,rfl,.inl ⟨rfl,rfl⟩⟩
 .have hB:=Q4.of A c;refine ⟨_,true,?_,?_,.inr ⟨rfl,F,A,c,rfl⟩⟩
  .rw [A0,if_pos rfl,ZuT hB A.args rfl];rfl
  .rw [A0,if_pos rfl,Zmm hB A.args rfl];rfl
theorem Zx0 {l:List Za}{f:Za}:Yd l f<0↔f∉l:=by
 rcases ZgY l f with ⟨B,A⟩|⟨j,B,A⟩
 .exact ⟨fun _=>B,fun _=>by omega⟩
 .exact ⟨fun h=>by omega,fun h=>absurd (AI A) h⟩
theorem Zs4 {l:List Za}{f:Za}:0<=Yd l f↔f∈l:=by
 have:=Zx0 (l:=l) (f:=f);by_cases h:f∈l
 .exact ⟨fun _=>h,fun _=>Int.not_lt.1 fun A=>this.1 A h⟩
 .exact ⟨fun A=>absurd A (Int.not_le.2 (this.2 h)),fun B=>absurd B h⟩
end
section
open Classical
theorem Zor (l:List Za) (f:Za):Zjb l f=some (decide (f∈l)):=by
 unfold Zjb;rw [Zaq,A0];exact congrArg some (decide_eq_decide.2 Zs4)
theorem Zup (a b:List Za):Zga a b=some (a.all fun x=>decide (x∈b)):=by
 unfold Zga;rw [Yb (p:=fun x=>decide (x∈b)) (r:=false)]
 .cases a.all (fun x=>decide (x∈b))<;>rfl
 .intro i x _;rw [Zor,A0];by_cases h:x∈b
  .rw [decide_eq_true h];rfl
  .rw [decide_eq_false h];rfl
theorem Zsy {a b:List Za}(h:∀x∈a,x∈b):Zga a b=some true:=by
 rw [Zup];exact congrArg some (Ah.2 fun x A=>decide_eq_true (h x A))
theorem ZyK {a:List Int}(h:¬decide (4096<(a.length:Int))=true):a.length<=4096:=by
 simp at h;omega
theorem ZAL (a:List Int):Zxa a=some (decide (4096<(a.length:Int))):=rfl
end
section
open Classical
theorem ZxN {f:Za}:∀(l:List Zz),f∈Qv l↔∃s∈l,s.rule=⟨#[]⟩/\s.fact=f:=
 Zps (P:=fun l=>f∈Qv l↔∃s∈l,s.rule=⟨#[]⟩/\s.fact=f) (by simp [Qv]) fun p x D=>by
  rw [ZhQ];by_cases h:sEq x.rule ⟨#[]⟩=true
  .rw [if_pos h,XR,D];rw [ZV]at h;constructor
   .rintro (rfl|⟨s,A,B⟩)
    .exact ⟨x,yG,h,rfl⟩
    .exact ⟨s,by simp [A],B⟩
   .rintro ⟨s,A,B,C⟩;rcases AC.1 A with A|A
    .exact .inr ⟨s,A,B,C⟩
    .simp at A;subst A;exact .inl C.symm
  .rw [if_neg h,D];rw [ZV]at h;constructor
   .rintro ⟨s,A,B⟩;exact ⟨s,by simp [A],B⟩
   .rintro ⟨s,A,B,C⟩;rcases AC.1 A with A|A
    .exact ⟨s,A,B,C⟩
    .simp at A;subst A;exact absurd B h
end
section
open Classical
theorem Zl2 {c:Zi}(h:ZK c):∃x c',Zcw c=some (x,c')/\ZK c':=by
 unfold Zcw;obtain ⟨x,c',e,_,A⟩:=Zdv h (l:=[(⟨#[97]⟩),(⟨#[98]⟩),(⟨#[99]⟩),(⟨#[49]⟩),(⟨#[50]⟩)]) yG yG;exact ⟨x,c',by rw [e];rfl,A⟩
theorem Zec {c:Zi}(h:ZK c):∃x c',ZbB c=some (x,c')/\ZK c':=by
 unfold ZbB;have key:∀L:List ByteArray,0<L.length->L.length<=256->∃x c',((QD c L).bind fun v1=>some (v1.1,v1.2))=some (x,c')/\ZK c':=fun L C B=>by
  obtain ⟨x,c',e,_,A⟩:=Zdv h (l:=L) C B;exact ⟨x,c',by rw [e];rfl,A⟩
 exact key _ yG yG
theorem Zuo {c:Zi}(h:ZK c):∃r n c',Zi5 c=some (r,n,c')/\0<=n/\n<=2/\r≠⟨#[110]⟩/\ZK c':=by
 unfold Zi5;obtain ⟨x,c',e,J,I,G⟩:=Z1 h (n:=6) yE yE;have key:∀(A:List ByteArray) (B:List Int),A.length=6->B.length=6->(∀b∈B,0<=b/\b<=2)->(∀a∈A,a≠⟨#[110]⟩)->∃r n c',((ZL c 6).bind fun v1=>chk (0<=v1.1/\v1.1<((6:Nat):Int)) <| (A[(A9 v1.1)]?).bind fun F=>(B[(A9 v1.1)]?).bind fun E=>some (F,E,v1.2))=some (r,n,c')/\0<=n/\n<=2/\r≠⟨#[110]⟩/\ZK c':=fun A B L K H ha=>by
  have D:x.toNat<A.length:=by omega
  have C:x.toNat<B.length:=by omega
  have q3:=H _ (AP C);refine ⟨A[x.toNat],B[x.toNat],c',?_,q3.1,q3.2,ha _ (AP D),G⟩;rw [e,A0,Zj _ yE,AA D,A0,AA C,A0]
 exact key _ _ rfl rfl yF yF
theorem ZqB {ρ:Type}{tm:Zi->Option (ByteArray×Zi)}(F:∀c,ZK c->∃x c',tm c=some (x,c')/\ZK c') (g:List ByteArray->Zi->ρ) {n:Int}(K:0<=n) (J:n<=100) {c:Zi}(H:ZK c):∃row c',iter (σ:=(List Int)×Int×Int×(List ByteArray)×Int)
  (fun s=>
   match s with
   |(f_4,f_5,f_6,row_7,i_8)=>
   if (decide (i_8<n))=true then
    (tm ({ b:=f_4,i:=f_5,h:=f_6 }:Zi)).bind fun B=>
    chk (row_7.length+1<=1073741824) <|
    some (.inl (B.2.b,B.2.i,B.2.h,(row_7++[B.1]),(IntKind.i64.wrap (i_8+1))))
   else
    some (.inr (g row_7 ({ b:=f_4,i:=f_5,h:=f_6 }:Zi))))
  (c.b,c.i,c.h,[],0)=some (g row c')/\row.length<=n.toNat/\ZK c':=by
 have key:∀(m k:Nat) (A:Zi) (row:List ByteArray),((k+m:Nat):Int)=n->row.length=k->ZK A->∃d c',iter (σ:=(List Int)×Int×Int×(List ByteArray)×Int)
  (fun s=>
   match s with
   |(f_4,f_5,f_6,row_7,i_8)=>
   if (decide (i_8<n))=true then
    (tm ({ b:=f_4,i:=f_5,h:=f_6 }:Zi)).bind fun B=>
    chk (row_7.length+1<=1073741824) <|
    some (.inl (B.2.b,B.2.i,B.2.h,(row_7++[B.1]),(IntKind.i64.wrap (i_8+1))))
   else
    some (.inr (g row_7 ({ b:=f_4,i:=f_5,h:=f_6 }:Zi))))
  (A.b,A.i,A.h,row,(k:Int))=some (g d c')/\d.length<=n.toNat/\ZK c':=by
  intro m;induction m with
  |zero=>
   intro k A row G D e;refine ⟨row,A,ZU ?_,yE,e⟩;simp only;rw [if_neg (by simp;omega)]
  |succ m ih=>
   intro k A row G D e;obtain ⟨a,C,I,f⟩:=F A e;have E:IntKind.i64.wrap ((k:Int)+1)=((k+1:Nat):Int):=by rw [Yo yE yE];omega
   refine (Z6 (s':=(C.b,C.i,C.h,row++[a],((k+1:Nat):Int))) ?_) ▸ ih (k+1) C (row++[a]) yE (by simp [D]) f;simp only;rw [if_pos (by simp;omega),show ({ b:=A.b,i:=A.i,h:=A.h }:Zi)=A from rfl,I,A0,Zj _ yE,E]
 exact key n.toNat 0 c [] yE rfl H
theorem Zrm {c:Zi}(h:ZK c):∃f c',ZeL c=some (f,c')/\f.args.length<=2/\f.rel≠⟨#[110]⟩/\ZK c':=by
 unfold ZeL;obtain ⟨r,n,H,e,B,F,a,A⟩:=Zuo h;rw [e,A0];obtain ⟨row,E,D,G,C⟩:=ZqB (tm:=Zcw) (fun c A=>Zl2 A) (fun row c=>(({ rel:=r,args:=row }:Za),c)) B yE A;exact ⟨{ rel:=r,args:=row },E,D,by show row.length<=2;omega,a,C⟩
theorem Zk2 {c:Zi}(h:ZK c):∃f c',Zd7 c=some (f,c')/\f.args.length<=4/\ZK c':=by
 unfold Zd7;obtain ⟨f,M,G,N,_,E⟩:=Zrm h;obtain ⟨k,H,F,L,K,D⟩:=Z1 E (n:=10) yE yE;rw [G,A0,F,A0];split
 .obtain ⟨w,C,B,A⟩:=Zec D;exact ⟨{ rel:=w,args:=f.args },C,by rw [B];rfl,by show f.args.length<=4;omega,A⟩
 .split
  .obtain ⟨w,C,B,A⟩:=Zec D;exact ⟨{ rel:=f.rel,args:=f.args++[w] },C,by rw [B,A0,Zj _ (by show f.args.length+1<=_;omega)],by simp;omega,A⟩
  .split
   .obtain ⟨w,C,B,J,I,A⟩:=Z1 D (n:=5) yE yE;refine ⟨_,C,by rw [B,A0,Zj _ yE],?_,A⟩;simp;omega
   .exact ⟨f,H,rfl,yE,D⟩
theorem ZCn {R:List Zf}{base:List Za}{x:List Za×Bool}(h:x=([],false)\/(YK R&&R.all (Xm R))=true/\Z7 base=true/\Res R base x):x.1.length<=24:=by
 rcases h with rfl|⟨_,_,A⟩
 .simp
 .rcases A with ⟨_,_,B,_⟩|⟨_,e,_⟩
  .exact B
  .rw [e];simp
end
section
/- one computation is another one wherever it comes to an end -/
def Ref {α:Type}(a b:Option α):Prop:=∀r,a=some r->b=some r
theorem Ref.refl {α:Type}(a:Option α):Ref a a:=fun _ h=>h
theorem Ref.bind {α β:Type}{a b:Option α}{f g:α->Option β}(h:Ref a b) (k:∀x,Ref (f x) (g x)):Ref (a.bind f) (b.bind g):=fun r A=>by
 obtain ⟨x,C,B⟩:=AQ.1 A;rw [h x C,A0];exact k x r B
theorem Ref.ite {α:Type}{c:Prop}[Decidable c] {a b B A:Option α}(h:Ref a B) (k:Ref b A):Ref (if c then a else b) (if c then B else A):=by
 split
 .exact h
 .exact k
theorem Ref.chk {α:Type}{p:Prop}[Decidable p] {a b:Option α}(h:Ref a b):Ref (chk p a) (chk p b):=fun r A=>by
 unfold Go.Proofs.YtnacpkmpdlodoaaGreatDoor.chk at A ⊢;split at A
 .rename_i B;rw [if_pos B];exact h r A
 .simp at A
theorem Ref.forL {α σ ρ:Type}{body a:Nat->α->σ->Option (σ ⊕ ρ)}{fin b:σ->Option ρ}(h:∀i x s,Ref (body i x s) (a i x s)) (k:∀s,Ref (fin s) (b s)):∀(l:List α) (i:Nat) (s:σ),Ref (forL body fin l i s) (forL a b l i s)
 | [],_,s=>k s
 |x::l,i,s=>fun r A=>by
  cases e:body i x s with
  |none=>simp only[Go.Proofs.YtnacpkmpdlodoaaGreatDoor.forL,e]at A;simp at A
  |some y=>
   cases y with
   |inl s'=>
    rw [ZO e]at A;rw [ZO (h i x s _ e)];exact Ref.forL h k l (i+1) s' r A
   |inr q=>
    rw [Z5 e]at A;rw [Z5 (h i x s _ e)];exact A
theorem Ref.iter {σ ρ:Type}{body a:σ->Option (σ ⊕ ρ)}(h:∀s,Ref (body s) (a s)):∀(n:Nat) (s:σ),Ref (ZbX body n s) (iter a s)
 |0,_=>fun r A=>by simp [ZbX]at A
 |n+1,s=>fun r A=>by
  simp only[ZbX]at A;cases e:body s with
  |none=>rw [e]at A;simp at A
  |some y=>
   rw [e]at A;cases y with
   |inl s'=>rw [Z6 (h s _ e)];exact Ref.iter h n s' r A
   |inr q=>rw [ZU (h s _ e)];exact A
def ZjO (s sep:ByteArray):Nat->Nat->Nat->List ByteArray
 |0,f,_=>[s.extract f s.size]
 |m+1,f,i=>if i+sep.size<=s.size then (if sEq (s.extract i (i+sep.size)) sep=true then s.extract f i::ZjO s sep m (i+sep.size) (i+sep.size) else ZjO s sep m f (i+1)) else [s.extract f s.size]
theorem ZAM {σ ρ:Type}{s sep:ByteArray}(D:0<sep.size) (st:List ByteArray->Nat->Nat->σ) (g:List ByteArray->ρ) {body:σ->Option (σ ⊕ ρ)}
  (G:∀row a i,a<=i->i+sep.size<=s.size->row.length<=i->body (st row a i)=some (.inl (if sEq (s.extract i (i+sep.size)) sep=true then st (row++[s.extract a i]) (i+sep.size) (i+sep.size) else st row a (i+1))))
  (E:∀row a i,a<=i->i<=s.size->¬i+sep.size<=s.size->row.length<=i->body (st row a i)=some (.inr (g (row++[s.extract a s.size])))):
  iter body (st [] 0 0)=some (g (ZjO s sep s.size 0 0)):=by
 have key:∀m row a i,s.size - i<=m->a<=i->i<=s.size->row.length<=i->iter body (st row a i)=some (g (row++ZjO s sep m a i)):=by
  intro m;induction m with
  |zero=>
   intro row a i F C hi B;exact ZU (E row a i C hi yE B)
  |succ m ih=>
   intro row a i F C hi B;unfold ZjO;by_cases A:i+sep.size<=s.size
   .rw [Z6 (G row a i C A B),if_pos A];split
    .rw [ih _ _ _ yE (AH _) A (by simp;omega),Aw,BI]
    .exact ih _ _ _ yE yE yE yE
   .rw [if_neg A];exact ZU (E row a i C hi A B)
 exact key s.size [] 0 0 yE (AH _) (Nat.zero_le _) (AH _)
theorem ZvW {s sep:ByteArray}(hs:s.size<=1000) (A:0<sep.size) (F:sep.size<=10):Qd s sep=some (ZjO s sep s.size 0 0):=by
 unfold Qd;rw [if_neg (by rw [ZV];intro e;rw [e]at A;exact absurd A yF)];refine ZAM A (fun row f i=>(row,(f:Int),(i:Int))) (fun l=>l) ?_ ?_
 .intro row f i C hi B;have e:IntKind.i64.wrap ((i:Int)+(sep.size:Int))=((i+sep.size:Nat):Int):=by rw [Yo yE yE];omega
  have D:IntKind.i64.wrap ((i:Int)+1)=((i+1:Nat):Int):=by rw [Yo yE yE];omega
  simp only[e,D,AD];rw [if_pos (by simp;omega),Zj _ yE];split
  .rw [Zj _ yE,Zj _ yE]
  .rfl
 .intro row f i C hi E B;have e:IntKind.i64.wrap ((i:Int)+(sep.size:Int))=((i+sep.size:Nat):Int):=by rw [Yo yE yE];omega
  simp only[e,AD];rw [if_neg (by simp;omega),Zj _ yE,Zj _ yE]
def ZcI (s sep:ByteArray):Option (List ByteArray):=if s.size<=1000/\0<sep.size/\sep.size<=10 then some (ZjO s sep s.size 0 0) else none
theorem Zeb (s sep:ByteArray):Ref (ZcI s sep) (Qd s sep):=fun r h=>by
 unfold ZcI at h;split at h
 .rename_i A;rw [ZvW A.1 A.2.1 A.2.2];exact h
 .simp at h
def Zmz (p:Zo):Option Bool:=some (Z0 p)
theorem ZpU (p:Zo):Ref (Zmz p) (Y5 p):=fun r h=>by rw [QJ];exact h
def Zud (x:Zu):Option Bool:=some (YC x)
theorem ZwD (x:Zu):Ref (Zud x) (Zcg x):=fun r h=>by rw [ZbW];exact h
def Zo3 (s:ByteArray):Option (Int×Bool):=some (Zd1 s)
theorem ZrZ (s:ByteArray):Ref (Zo3 s) (Qw s):=fun r h=>by rw [Zam];exact h
def ZnR (r:Zf):Option Bool:=if r.cond.length<=100/\r.thn.length<=100/\(∀x∈r.cond,x.pattern.args.length<=100)/\(∀a∈r.thn,a.pattern.args.length<=100) then some (YA r) else none
theorem Zv2 (r:Zf):Ref (ZnR r) (XU r):=fun x h=>by
 unfold ZnR at h;split at h
 .rename_i A;rw [Zb9 r ⟨yE,yE,fun x B=>by have:=A.2.2.1 x B;omega,fun a C=>by have:=A.2.2.2 a C;omega⟩];exact h
 .simp at h
def ZsB (g:ByteArray):Option (ByteArray×(List ByteArray)×Bool):=
 (ZcI g (⟨#[40]⟩)).bind fun f=>if ((f.length:Int) != 2)=true then some ((⟨#[]⟩),[],false) else chk (0<=1/\1<(f.length:Int)) <|(f[(A9 1)]?).bind fun a=>if ((a.size:Int)==0)=true then some ((⟨#[]⟩),[],false) else (sAt a (IntKind.i64.wrap ((a.size:Int) - 1))).bind fun b=>if ((b.toNat:Int) != 41)=true then some ((⟨#[]⟩),[],false) else chk (0<=(IntKind.i64.wrap ((a.size:Int) - 1))/\(IntKind.i64.wrap ((a.size:Int) - 1))<=(a.size:Int)) <|if (sEq (a.extract 0 (A9 (IntKind.i64.wrap ((a.size:Int) - 1)))) ⟨#[]⟩)=true then chk (0<=0/\0<(f.length:Int)) <|(f[(A9 0)]?).bind fun c=>some (c,[],true) else chk (0<=0/\0<(f.length:Int)) <|(f[(A9 0)]?).bind fun d=>(ZcI (a.extract 0 (A9 (IntKind.i64.wrap ((a.size:Int) - 1)))) (⟨#[44]⟩)).bind fun e=>some (d,e,true)
def ZcY (c:ByteArray):Option (Zo×Bool):=
 (ZsB c).bind fun b=>if b.2.2=true then (Zmz ({ rel:=b.1,args:=b.2.1 }:Zo)).bind fun a=>if a=true then some (({ rel:=b.1,args:=b.2.1 }:Zo),true) else some (({ rel:=(⟨#[]⟩),args:=[] }:Zo),false) else some (({ rel:=(⟨#[]⟩),args:=[] }:Zo),false)
def Zv3 (a:ByteArray):Option (Zu×Bool):=
 (fun body s=>ZbX body 5 s) (fun b=>if (decide (b<=5))=true then (Zge b).bind fun j=>(ZcI a j).bind fun c=>if ((c.length:Int)==2)=true then chk (0<=0/\0<(c.length:Int)) <|(c[(A9 0)]?).bind fun d=>chk (0<=1/\1<(c.length:Int)) <|(c[(A9 1)]?).bind fun e=>(Zud ({ kind:=b,pattern:=({ rel:=(⟨#[]⟩),args:=[] }:Zo),left:=d,right:=e }:Zu)).bind fun k=>if k=true then some (.inr (({ kind:=b,pattern:=({ rel:=(⟨#[]⟩),args:=[] }:Zo),left:=d,right:=e }:Zu),true)) else some (.inl (IntKind.i64.wrap (b+1))) else some (.inl (IntKind.i64.wrap (b+1))) else if (decide (4<(a.size:Int)))=true then chk (0<=4/\4<=(a.size:Int)) <|if (sEq (a.extract 0 (A9 4)) ⟨#[110,111,116,32]⟩)=true then (ZcY (a.extract (A9 4) a.size)).bind fun f=>if f.2=true then
 some (.inr (({ kind:=2,pattern:=f.1,left:=(⟨#[]⟩),right:=(⟨#[]⟩) }:Zu),true)) else some (.inr (({ kind:=0,pattern:=({ rel:=(⟨#[]⟩),args:=[] }:Zo),left:=(⟨#[]⟩),right:=(⟨#[]⟩) }:Zu),false)) else (ZcY a).bind fun g=>if g.2=true then some (.inr (({ kind:=1,pattern:=g.1,left:=(⟨#[]⟩),right:=(⟨#[]⟩) }:Zu),true)) else some (.inr (({ kind:=0,pattern:=({ rel:=(⟨#[]⟩),args:=[] }:Zo),left:=(⟨#[]⟩),right:=(⟨#[]⟩) }:Zu),false)) else (ZcY a).bind fun i=>if i.2=true then some (.inr (({ kind:=1,pattern:=i.1,left:=(⟨#[]⟩),right:=(⟨#[]⟩) }:Zu),true)) else some (.inr (({ kind:=0,pattern:=({ rel:=(⟨#[]⟩),args:=[] }:Zo),left:=(⟨#[]⟩),right:=(⟨#[]⟩) }:Zu),false))) 3
def ZnU (g:ByteArray):Option (Zy×Bool):=
 if (sEq g ⟨#[115,116,111,112]⟩)=true then some (({ kind:=3,pattern:=({ rel:=(⟨#[]⟩),args:=[] }:Zo) }:Zy),true) else (ZcI g (⟨#[32]⟩)).bind fun f=>if ((f.length:Int) != 2)=true then some (({ kind:=0,pattern:=({ rel:=(⟨#[]⟩),args:=[] }:Zo) }:Zy),false) else chk (0<=0/\0<(f.length:Int)) <|(f[(A9 0)]?).bind fun a=>if (sEq a ⟨#[97,100,100]⟩)=true then chk (0<=1/\1<(f.length:Int)) <|(f[(A9 1)]?).bind fun d=>(ZcY d).bind fun b=>some (({ kind:=1,pattern:=b.1 }:Zy),b.2) else if (sEq a ⟨#[100,114,111,112]⟩)=true then chk (0<=1/\1<(f.length:Int)) <|(f[(A9 1)]?).bind fun e=>(ZcY e).bind fun c=>some (({ kind:=2,pattern:=c.1 }:Zy),c.2) else some (({ kind:=0,pattern:=({ rel:=(⟨#[]⟩),args:=[] }:Zo) }:Zy),false)
def Zsv (h:Zf) (j:ByteArray) (k:ByteArray):Option (Zf×Bool):=
 (ZcI j (⟨#[32,38,32]⟩)).bind fun l=>forL (σ:=(List Zu)) (fun (m:Nat) (e:ByteArray) a=>(Zv3 e).bind fun c=>if c.2=true then chk (a.length+1<=1073741824) <|some (.inl (a++[c.1])) else some (.inr (({ name:=h.name,priority:=h.priority,cond:=a,thn:=[] }:Zf),false))) (fun a=>(ZcI k (⟨#[32,38,32]⟩)).bind fun f=>forL (σ:=(List Zy)) (fun (n:Nat) (g:ByteArray) b=>(ZnU g).bind fun d=>if d.2=true then chk (b.length+1<=1073741824) <|some (.inl (b++[d.1])) else some (.inr (({ name:=h.name,priority:=h.priority,cond:=a,thn:=b }:Zf),false))) (fun b=>(ZnR ({ name:=h.name,priority:=h.priority,cond:=a,thn:=b }:Zf)).bind fun i=>some (({ name:=h.name,priority:=h.priority,cond:=a,thn:=b }:Zf),i)) f 0 []) l 0 []
def Zwc (l:ByteArray):Option (Zf×Bool):=
 (ZcI l (⟨#[58,32]⟩)).bind fun h=>if ((h.length:Int) != 2)=true then some (({ name:=(⟨#[]⟩),priority:=0,cond:=[],thn:=[] }:Zf),false) else chk (0<=0/\0<(h.length:Int)) <|(h[(A9 0)]?).bind fun e=>(ZcI e (⟨#[32]⟩)).bind fun a=>chk (0<=1/\1<(h.length:Int)) <|(h[(A9 1)]?).bind fun f=>(ZcI f (⟨#[32,45,62,32]⟩)).bind fun b=>if ((a.length:Int) != 2)=true then some (({ name:=(⟨#[]⟩),priority:=0,cond:=[],thn:=[] }:Zf),false) else if ((b.length:Int) != 2)=true then some (({ name:=(⟨#[]⟩),priority:=0,cond:=[],thn:=[] }:Zf),false) else chk (1<(a.length:Int)) <|(a[(A9 1)]?).bind fun g=>(Zo3 g).bind fun c=>if c.2=true then chk (0<(a.length:Int)) <|(a[(A9 0)]?).bind fun i=>chk (0<(b.length:Int)) <|(b[(A9 0)]?).bind fun j=>chk (1<(b.length:Int)) <|(b[(A9 1)]?).bind fun k=>
 (Zsv ({ name:=i,priority:=c.1,cond:=[],thn:=[] }:Zf) j k).bind fun d=>if d.2=true then some (d.1,true) else some (({ name:=(⟨#[]⟩),priority:=0,cond:=[],thn:=[] }:Zf),false) else some (({ name:=(⟨#[]⟩),priority:=0,cond:=[],thn:=[] }:Zf),false)
theorem ZxW (s:ByteArray):Ref (ZsB s) (ZcN s):=by
 unfold ZsB ZcN
 repeat' (first|with_reducible exact Ref.refl _|exact Zeb _ _|apply Ref.bind|apply Ref.ite|apply Ref.chk|intro _)
theorem Zmh (s:ByteArray):Ref (ZcY s) (Yx s):=by
 unfold ZcY Yx
 repeat' (first|with_reducible exact Ref.refl _|exact ZxW _|exact ZpU _|apply Ref.bind|apply Ref.ite|intro _)
theorem ZzY (s:ByteArray):Ref (Zv3 s) (QS s):=by
 unfold Zv3 QS;refine Ref.iter ?_ 5 3
 repeat' (first|with_reducible exact Ref.refl _|exact Zeb _ _|exact Zmh _|exact ZwD _|apply Ref.bind|apply Ref.ite|apply Ref.chk|intro _)
theorem Zwx (s:ByteArray):Ref (ZnU s) (Q5 s):=by
 unfold ZnU Q5
 repeat' (first|with_reducible exact Ref.refl _|exact Zeb _ _|exact Zmh _|apply Ref.bind|apply Ref.ite|apply Ref.chk|intro _)
theorem ZyV (r:Zf) (a b:ByteArray):Ref (Zsv r a b) (ZcT r a b):=by
 unfold Zsv ZcT;refine Ref.bind (Zeb _ _) fun _=>Ref.forL (fun _ _ _=>?_) (fun _=>Ref.bind (Zeb _ _) fun _=>Ref.forL (fun _ _ _=>?_) (fun _=>?_) _ _ _) _ _ _
 .repeat' (first|with_reducible exact Ref.refl _|exact ZzY _|apply Ref.bind|apply Ref.ite|apply Ref.chk|intro _)
 .repeat' (first|with_reducible exact Ref.refl _|exact Zwx _|apply Ref.bind|apply Ref.ite|apply Ref.chk|intro _)
 .exact Ref.bind (Zv2 _) fun _=>Ref.refl _
theorem ZAA (s:ByteArray):Ref (Zwc s) (Y3 s):=by
 unfold Zwc Y3
 repeat' (first|with_reducible exact Ref.refl _|exact Zeb _ _|exact ZrZ _|exact ZyV _ _ _|apply Ref.bind|apply Ref.ite|apply Ref.chk|intro _)
def ZtS (s:ByteArray):Bool:=match Zwc s with|some (r,_)=>decide (1<=r.cond.length)&&decide (1<=r.thn.length)|none=>false
theorem ZAq {s:ByteArray}(h:ZtS s=true):∃r A,Y3 s=some (r,A)/\1<=r.cond.length/\1<=r.thn.length:=by
 unfold ZtS at h;split at h
 .rename_i r A e;rw [AB,decide_eq_true_iff,decide_eq_true_iff]at h;exact ⟨r,A,ZAA s _ e,h⟩
 .simp at h
theorem ZyO:([(⟨#[114,32,49,58,32,111,110,40,63,120,44,63,121,41,32,38,32,111,110,40,63,121,44,63,122,41,32,45,62,32,97,100,100,32,111,110,40,63,120,44,63,122,41]⟩),(⟨#[114,32,50,58,32,111,110,40,63,120,44,63,121,41,32,38,32,112,40,63,121,41,32,45,62,32,97,100,100,32,112,40,63,120,41]⟩),(⟨#[114,32,48,58,32,112,40,63,120,41,32,38,32,111,110,40,63,120,44,63,121,41,32,38,32,63,120,32,33,61,32,63,121,32,45,62,32,97,100,100,32,97,116,40,63,121,44,63,120,41]⟩),(⟨#[114,32,51,58,32,97,116,40,63,120,44,63,121,41,32,38,32,112,40,63,120,41,32,38,32,112,40,63,121,41,32,38,32,63,120,32,60,32,63,121,32,45,62,32,97,100,100,32,122,40,41]⟩),(⟨#[114,32,52,58,32,111,110,40,63,120,44,97,41,32,45,62,32,97,100,100,32,113,40,63,120,41,32,38,32,97,100,100,32,112,40,97,41]⟩),(⟨#[114,32,49,58,32,97,116,40,63,120,44,63,120,41,32,38,32,113,40,49,41,32,45,62,32,97,100,100,32,111,110,40,63,120,44,49,41]⟩),(⟨#[114,32,49,58,32,112,40,63,120,41,32,38,32,110,111,116,32,113,40,63,120,41,32,45,62,32,97,100,100,32,97,116,40,63,120,44,98,41]⟩),(⟨#[114,32,50,58,32,111,110,40,63,120,44,63,121,41,32,38,32,110,111,116,32,97,116,40,63,121,44,63,122,41,32,45,62,32,97,100,100,32,113,40,63,121,41]⟩),(⟨#[114,32,53,58,32,97,116,40,63,120,44,63,121,41,32,38,32,110,111,116,32,112,40,63,121,41,32,38,32,63,120,32,33,61,32,63,121,32,45,62,32,97,100,100,32,122,40,41]⟩),(⟨#[114,32,57,58,32,113,40,63,120,41,32,38,32,112,40,63,120,41,32,45,62,32,100,114,111,112,32,112,40,63,120,41]⟩),(⟨#[114,32,48,58,32,97,116,40,63,120,44,49,41,32,38,32,97,116,40,63,121,44,50,41,32,38,32,63,120,32,61,32,63,121,32,45,62,32,100,114,111,112,32,97,116,40,63,120,44,49,41,32,38,32,115,116,111,112]⟩),(⟨#[114,32,49,58,32,111,110,40,63,120,44,63,120,41,32,45,62,32,115,116,111,112]⟩),(⟨#[114,32,55,58,32,122,40,41,32,38,32,111,110,40,63,120,44,63,121,41,32,45,62,32,100,114,111,112,32,122,40,41,32,38,32,97,100,100,32,111,110,40,63,121,44,63,120,41]⟩)]:List ByteArray).all ZtS=true:=yO
theorem Zug:∀s∈([(⟨#[114,32,49,58,32,111,110,40,63,120,44,63,121,41,32,38,32,111,110,40,63,121,44,63,122,41,32,45,62,32,97,100,100,32,111,110,40,63,120,44,63,122,41]⟩),(⟨#[114,32,50,58,32,111,110,40,63,120,44,63,121,41,32,38,32,112,40,63,121,41,32,45,62,32,97,100,100,32,112,40,63,120,41]⟩),(⟨#[114,32,48,58,32,112,40,63,120,41,32,38,32,111,110,40,63,120,44,63,121,41,32,38,32,63,120,32,33,61,32,63,121,32,45,62,32,97,100,100,32,97,116,40,63,121,44,63,120,41]⟩),(⟨#[114,32,51,58,32,97,116,40,63,120,44,63,121,41,32,38,32,112,40,63,120,41,32,38,32,112,40,63,121,41,32,38,32,63,120,32,60,32,63,121,32,45,62,32,97,100,100,32,122,40,41]⟩),(⟨#[114,32,52,58,32,111,110,40,63,120,44,97,41,32,45,62,32,97,100,100,32,113,40,63,120,41,32,38,32,97,100,100,32,112,40,97,41]⟩),(⟨#[114,32,49,58,32,97,116,40,63,120,44,63,120,41,32,38,32,113,40,49,41,32,45,62,32,97,100,100,32,111,110,40,63,120,44,49,41]⟩),(⟨#[114,32,49,58,32,112,40,63,120,41,32,38,32,110,111,116,32,113,40,63,120,41,32,45,62,32,97,100,100,32,97,116,40,63,120,44,98,41]⟩),(⟨#[114,32,50,58,32,111,110,40,63,120,44,63,121,41,32,38,32,110,111,116,32,97,116,40,63,121,44,63,122,41,32,45,62,32,97,100,100,32,113,40,63,121,41]⟩),(⟨#[114,32,53,58,32,97,116,40,63,120,44,63,121,41,32,38,32,110,111,116,32,112,40,63,121,41,32,38,32,63,120,32,33,61,32,63,121,32,45,62,32,97,100,100,32,122,40,41]⟩),(⟨#[114,32,57,58,32,113,40,63,120,41,32,38,32,112,40,63,120,41,32,45,62,32,100,114,111,112,32,112,40,63,120,41]⟩),(⟨#[114,32,48,58,32,97,116,40,63,120,44,49,41,32,38,32,97,116,40,63,121,44,50,41,32,38,32,63,120,32,61,32,63,121,32,45,62,32,100,114,111,112,32,97,116,40,63,120,44,49,41,32,38,32,115,116,111,112]⟩),(⟨#[114,32,49,58,32,111,110,40,63,120,44,63,120,41,32,45,62,32,115,116,111,112]⟩),(⟨#[114,32,55,58,32,122,40,41,32,38,32,111,110,40,63,120,44,63,121,41,32,45,62,32,100,114,111,112,32,122,40,41,32,38,32,97,100,100,32,111,110,40,63,121,44,63,120,41]⟩)]:List ByteArray),ZtS s=true:=fun s A=>Ah.1 ZyO s A
structure RS (r:Zf):Prop where
 cl:r.cond.length<=200
 tl:r.thn.length<=200
 ca:∀x∈r.cond,x.pattern.args.length<=200
 ta:∀a∈r.thn,a.pattern.args.length<=200
theorem Zjr.rs {s:ByteArray}{r:Zf}(h:Zjr s r) (hs:s.size<=100):RS r:=⟨by have:=h.cl;omega,by have:=h.tl;omega,fun x A=>by have:=(h.ca x A).1;omega,fun x A=>by have:=h.ta x A;omega⟩
theorem RS.name {r:Zf}(h:RS r) (n:ByteArray) (p:Int):RS { name:=n,priority:=p,cond:=r.cond,thn:=r.thn }:=⟨h.cl,h.tl,h.ca,h.ta⟩
theorem RS.small {r:Zf}(h:RS r):Q6 r:=⟨by have:=h.cl;omega,by have:=h.tl;omega,fun x A=>by have:=h.ca x A;omega,fun x A=>by have:=h.ta x A;omega⟩
theorem RK.rs {b:Bool}{r:Zf}(h:RK b r):RS r:=by
 obtain ⟨s,B,_,A⟩:=h;exact A.rs B
theorem Zx5 (L:List ByteArray) (N:Nat) (n:Int) (T:L.length=N) (P:0<n) (S:n<=N) (O:N<=200) (hs:∀s∈L,s.size<=100) (K:∀s∈L,ZtS s=true) {c:Zi}(M:ZK c):∃r c',((ZL c n).bind fun v1=>chk (0<=v1.1/\v1.1<(N:Int)) <| (L[(A9 v1.1)]?).bind fun C=>(Y3 C).bind fun D=>some (D.1,v1.2))=some (r,c')/\RS r/\1<=r.cond.length/\1<=r.thn.length/\ZK c':=by
 obtain ⟨x,c',e,R,I,a⟩:=Z1 M P yE;have A:x.toNat<L.length:=by omega
 have ml:=AP A;obtain ⟨r,H,B,J⟩:=Zls (s:=L[x.toNat]) (by have:=hs _ ml;omega);obtain ⟨E,b,d,G,F⟩:=ZAq (K _ ml);obtain ⟨rfl,rfl⟩:r=E/\H=b:=by
  have:=AM (B.symm.trans d);exact ⟨congrArg Prod.fst this,congrArg Prod.snd this⟩
 refine ⟨r,c',?_,J.rs (hs _ ml),G,F,a⟩;rw [e,A0,Zj _ yE,AA A,A0,B];rfl
theorem Zka {c:Zi}(h:ZK c) {m:Int}(A:0<m):∃r c',Qa c m=some (r,c')/\RS r/\1<=r.cond.length/\1<=r.thn.length/\ZK c':=by
 unfold Qa;exact Zx5 _ 13 _ rfl (by split<;>omega) (by split<;>omega) yE yF Zug h
theorem ZlX {c:Zi}(h:ZK c):∃x c',ZdF c=some (x,c')/\ZK c':=by
 unfold ZdF;obtain ⟨b,F,E,D⟩:=ZgC h (n:=4) yE yE;rw [E,A0];split
 .obtain ⟨x,C,B,A⟩:=Zl2 D;exact ⟨x,C,by rw [B];rfl,A⟩
 .obtain ⟨x,C,B,_,A⟩:=Zdv D (l:=[(⟨#[63,120]⟩),(⟨#[63,121]⟩),(⟨#[63,122]⟩)]) yG yG;exact ⟨x,C,by rw [B];rfl,A⟩
theorem ZiW {c:Zi}(h:ZK c):∃p c',Za2 c=some (p,c')/\p.args.length<=2/\ZK c':=by
 unfold Za2;obtain ⟨r,n,H,e,B,F,_,A⟩:=Zuo h;rw [e,A0];obtain ⟨row,E,D,G,C⟩:=ZqB (tm:=ZdF) (fun c A=>ZlX A) (fun row c=>(({ rel:=r,args:=row }:Zo),c)) B yE A;exact ⟨{ rel:=r,args:=row },E,D,by show row.length<=2;omega,C⟩
theorem ZuL {c:Zi}(h:ZK c):∃p c',ZiT c=some (p,c')/\p.args.length<=4/\ZK c':=by
 unfold ZiT;obtain ⟨f,M,G,N,E⟩:=ZiW h;obtain ⟨k,H,F,L,K,D⟩:=Z1 E (n:=10) yE yE;rw [G,A0,F,A0];split
 .obtain ⟨w,C,B,A⟩:=Zec D;exact ⟨{ rel:=w,args:=f.args },C,by rw [B];rfl,by show f.args.length<=4;omega,A⟩
 .split
  .obtain ⟨w,C,B,A⟩:=Zec D;exact ⟨{ rel:=f.rel,args:=f.args++[w] },C,by rw [B,A0,Zj _ (by show f.args.length+1<=_;omega)],by simp;omega,A⟩
  .split
   .obtain ⟨w,C,B,J,I,A⟩:=Z1 D (n:=5) yE yE;refine ⟨_,C,by rw [B,A0,Zj _ yE],?_,A⟩;simp;omega
   .exact ⟨f,H,rfl,yE,D⟩
theorem ZqM {c:Zi}(h:ZK c):∃x c',Zgk c=some (x,c')/\x.pattern.args.length<=2/\ZK c':=by
 unfold Zgk;obtain ⟨k,M,K,O,N,E⟩:=Z1 h (n:=5) yE yE;rw [K,A0];have b:∀A:Int,∃x c',((Za2 M).bind fun D=>some (({ kind:=A,pattern:=D.1,left:=(⟨#[]⟩),right:=(⟨#[]⟩) }:Zu),D.2))=some (x,c')/\x.pattern.args.length<=2/\ZK c':=fun A=>by
  obtain ⟨p,F,C,a,B⟩:=ZiW E;exact ⟨{ kind:=A,pattern:=p,left:=⟨#[]⟩,right:=⟨#[]⟩ },F,by rw [C];rfl,a,B⟩
 split
 .exact b 1
 .split
  .exact b 1
  .split
   .exact b 2
   .obtain ⟨x,F,C,B⟩:=ZlX E;obtain ⟨y,P,J,H⟩:=ZlX B;obtain ⟨k,L,I,_,G⟩:=Zcq H (l:=[3,4,4,5]) yG yG;refine ⟨{ kind:=k,pattern:={ rel:=⟨#[]⟩,args:=[] },left:=x,right:=y },L,?_,yG,G⟩;rw [C,A0,J,A0];unfold ZkL;rw [I];rfl
theorem ZAY {c:Zi}(h:ZK c):∃x c',Zlj c=some (x,c')/\x.pattern.args.length<=4/\ZK c':=by
 unfold Zlj;obtain ⟨x,K,G,L,E⟩:=ZqM h;obtain ⟨k,H,F,J,I,D⟩:=Z1 E (n:=12) yE yE;rw [G,A0,F,A0];split
 .obtain ⟨w,C,B,_,A⟩:=Zcq D (l:=[0,1,3,5,6,(-1)]) yG yG;exact ⟨{ kind:=w,pattern:=x.pattern,left:=x.left,right:=x.right },C,by rw [B];rfl,by show x.pattern.args.length<=4;omega,A⟩
 .split
  .obtain ⟨w,C,B,A⟩:=Zec D;exact ⟨{ kind:=x.kind,pattern:=x.pattern,left:=w,right:=x.right },C,by rw [B];rfl,by show x.pattern.args.length<=4;omega,A⟩
  .split
   .obtain ⟨p,C,B,a,A⟩:=ZuL D;exact ⟨{ kind:=x.kind,pattern:=p,left:=x.left,right:=x.right },C,by rw [B];rfl,a,A⟩
   .exact ⟨x,H,rfl,yE,D⟩
def DrR (o:Option (Zf×Zi)):Prop:=∃r c',o=some (r,c')/\RS r/\1<=r.cond.length/\1<=r.thn.length/\ZK c'
theorem ZBp {R:List Zu}(L:R.length<=3) (H:1<=R.length) (ha:∀x∈R,x.pattern.args.length<=2) {T:List Zy}(K:T.length<=2) (G:1<=T.length) (F:∀a∈T,a.pattern.args.length<=3) (B:ByteArray) (A:Int) {c:Zi}(C:ZK c) {σ:Type}:∃r c',((XU ({ name:=B,priority:=A,cond:=R,thn:=T }:Zf)).bind fun d=>
        if d=true then
         some (.inr (.inr (({ name:=B,priority:=A,cond:=R,thn:=T }:Zf),c)))
        else
         (Qa c 99).bind fun b=>
         some (.inr (.inr (b.1,b.2))))=some (.inr (.inr (r,c')):(List Int×Int×Int×List ByteArray×Int) ⊕ (σ ⊕ (Zf×Zi)))/\RS r/\1<=r.cond.length/\1<=r.thn.length/\ZK c':=by
 have hs:RS ({ name:=B,priority:=A,cond:=R,thn:=T }:Zf):=⟨by show R.length<=200;omega,by show T.length<=200;omega,fun x D=>by have:=ha x D;omega,fun a E=>by have:=F a E;omega⟩
 rw [Zb9 _ hs.small,A0];split
 .exact ⟨_,_,rfl,hs,H,G,C⟩
 .obtain ⟨r,J,I,q⟩:=Zka C (m:=99) yE;exact ⟨r,J,by rw [I];rfl,q⟩
theorem Zt2 {c:Zi} (h:ZK c):DrR (Zew c):=by
 unfold Zew;obtain ⟨M,c1,e1,_,_,h1⟩:=Z1 h (n:=4) (by omega) (by omega);obtain ⟨p0,c2,e2,a2,h2⟩:=ZiW h1;obtain ⟨n,c3,e3,n0,n1,h3⟩:=Z1 h2 (n:=3) (by omega) (by omega);rw [e1,A0,e2,A0,e3,A0];have H:∀(R:List Zu),R.length≤3→1≤R.length→(∀x∈R,x.pattern.args.length≤2)→∀(rel:ByteArray) (V:List ByteArray) (m k:Nat) (A:Zi) (row:List ByteArray),k+m=row.length→row.length≤3→ZK A→∃r c',iter (σ:=(List Int) × Int × Int × (List ByteArray) × Int) (ρ:=(List Int × Int × Int × List Zu × Int) ⊕ (Zf × Zi))
     (fun s=>
      match s with
      | (f_22,f_23,f_24,B,u_17)=>
      if (decide (u_17<(B.length:Int)))=true then
       chk (0≤u_17∧u_17<(B.length:Int)) <|
       (B[(A9 u_17)]?).bind fun P=>
       (Zas P).bind fun af=>
       if af=true then
        (Z4 V P).bind fun ae=>
        if ae=true then
         some (.inl (f_22,f_23,f_24,B,(IntKind.i64.wrap (u_17+1))))
        else
         (Zcw ({ b:=f_22,i:=f_23,h:=f_24 }:Zi)).bind fun F=>
         some (.inl (F.2.b,F.2.i,F.2.h,(List.set B (A9 u_17) F.1),(IntKind.i64.wrap (u_17+1))))
       else
        some (.inl (f_22,f_23,f_24,B,(IntKind.i64.wrap (u_17+1))))
      else
       (QE ({ b:=f_22,i:=f_23,h:=f_24 }:Zi) [1,1,2]).bind fun E=>
       (ZaI E.2 6).bind fun D=>
       if D.1=true then
        (XU ({ name:=(⟨#[114]⟩),priority:=M,cond:=R,thn:=[({ kind:=E.1,pattern:=({ rel:=rel,args:=B }:Zo) }:Zy),({ kind:=3,pattern:=({ rel:=(⟨#[]⟩),args:=[] }:Zo) }:Zy)] }:Zf)).bind fun ad=>
        if ad=true then
         some (.inr (.inr (({ name:=(⟨#[114]⟩),priority:=M,cond:=R,thn:=[({ kind:=E.1,pattern:=({ rel:=rel,args:=B }:Zo) }:Zy),({ kind:=3,pattern:=({ rel:=(⟨#[]⟩),args:=[] }:Zo) }:Zy)] }:Zf),D.2)))
        else
         (Qa D.2 99).bind fun U=>
         some (.inr (.inr (U.1,U.2)))
       else
        (XU ({ name:=(⟨#[114]⟩),priority:=M,cond:=R,thn:=[({ kind:=E.1,pattern:=({ rel:=rel,args:=B }:Zo) }:Zy)] }:Zf)).bind fun ac=>
        if ac=true then
         some (.inr (.inr (({ name:=(⟨#[114]⟩),priority:=M,cond:=R,thn:=[({ kind:=E.1,pattern:=({ rel:=rel,args:=B }:Zo) }:Zy)] }:Zf),D.2)))
        else
         (Qa D.2 99).bind fun S=>
         some (.inr (.inr (S.1,S.2))))
     (A.b,A.i,A.h,row,(k:Int))=some (.inr (r,c'))∧RS r∧1≤r.cond.length∧1≤r.thn.length∧ZK c':=by
  intro R hR L ha rel V m;induction m with
  | zero=>
   intro k A row hk O C;obtain ⟨kd,d1,g1,_,J⟩:=Zcq C (l:=[1,1,2]) (by simp) (by simp);obtain ⟨o,d2,g2,ag⟩:=ZgC J (n:=6) (by omega) (by omega);have fin:∀T:List Zy,T.length≤2→1≤T.length→(∀a∈T,a.pattern.args.length≤3)→_:=fun T t1 t2 t3=>ZBp (σ:=List Int × Int × Int × List Zu × Int) hR L ha (T:=T) t1 t2 t3 (⟨#[114]⟩) M ag;cases o with
   | true=>
    obtain ⟨r,c',e,q⟩:=fin [({ kind:=kd,pattern:=({ rel:=rel,args:=row }:Zo) }:Zy),({ kind:=3,pattern:=({ rel:=(⟨#[]⟩),args:=[] }:Zo) }:Zy)] (by simp) (by simp) (by simp;omega);refine ⟨r,c',ZU ?_,q⟩;simp only;rw [if_neg (by simp;omega),show ({ b:=A.b,i:=A.i,h:=A.h }:Zi)=A from rfl,g1,A0,g2,A0,if_pos rfl];exact e
   | false=>
    obtain ⟨r,c',e,q⟩:=fin [({ kind:=kd,pattern:=({ rel:=rel,args:=row }:Zo) }:Zy)] (by simp) (by simp) (by simp;omega);refine ⟨r,c',ZU ?_,q⟩;simp only;rw [if_neg (by simp;omega),show ({ b:=A.b,i:=A.i,h:=A.h }:Zi)=A from rfl,g1,A0,g2,A0,if_neg (by simp)];exact e
  | succ m ih=>
   intro k A row hk O C;have I:k<row.length:=by omega
   have W:IntKind.i64.wrap ((k:Int)+1)=((k+1:Nat):Int):=by rw [Yo (by omega) (by omega)];omega
   obtain ⟨a,d1,g1,J⟩:=Zl2 C;by_cases hv:Yu row[k]=true
   ·by_cases ht:YT V row[k]=true
    ·refine (Z6 (s':=(A.b,A.i,A.h,row,((k+1:Nat):Int))) ?_) ▸ ih (k+1) A row (by omega) O C
     simp only;rw [if_pos (by simp;omega),Zj _ (by omega),AD,AA I,A0,XO,A0,if_pos hv,YL,A0,if_pos ht,W]
    ·refine (Z6 (s':=(d1.b,d1.i,d1.h,row.set k a,((k+1:Nat):Int))) ?_) ▸ ih (k+1) d1 (row.set k a) (by simp;omega) (by simpa using O) J
     simp only;rw [if_pos (by simp;omega),Zj _ (by omega),AD,AA I,A0,XO,A0,if_pos hv,YL,A0,if_neg ht,show ({ b:=A.b,i:=A.i,h:=A.h }:Zi)=A from rfl,g1,A0,W]
   ·refine (Z6 (s':=(A.b,A.i,A.h,row,((k+1:Nat):Int))) ?_) ▸ ih (k+1) A row (by omega) O C
    simp only;rw [if_pos (by simp;omega),Zj _ (by omega),AD,AA I,A0,XO,A0,if_neg hv,W]
 have G:∀{body:(List Int × Int × Int × List Zu × Int)→Option ((List Int × Int × Int × List Zu × Int) ⊕ (Zf × Zi))},(∀(A:Zi) (R:List Zu) (k:Nat),ZK A→∃x c',x.pattern.args.length≤2∧ZK c'∧(R.length≤3→k≤3→body (A.b,A.i,A.h,R,((k+1:Nat):Int))=some (.inl (c'.b,c'.i,c'.h,R++[x],(k:Int)))))→(∀(A:Zi) (R:List Zu),ZK A→R.length≤3→1≤R.length→(∀x∈R,x.pattern.args.length≤2)→∃r c',body (A.b,A.i,A.h,R,0)=some (.inr (r,c'))∧RS r∧1≤r.cond.length∧1≤r.thn.length∧ZK c')→∀(k:Nat) (A:Zi) (R:List Zu),ZK A→R.length+k≤3→1≤R.length→(∀x∈R,x.pattern.args.length≤2)→DrR (iter body (A.b,A.i,A.h,R,(k:Int))):=by
  intro body hs he k;induction k with
  | zero=>
   intro A R C O aa ha;obtain ⟨r,c',e,q⟩:=he A R C (by omega) aa ha;exact ⟨r,c',ZU e,q⟩
  | succ k ih=>
   intro A R C O aa ha;obtain ⟨x,c',hx,K,e⟩:=hs A R k C;rw [Z6 (e (by omega) (by omega))];exact ih c' (R++[x]) K (by simp;omega) (by simp) fun y N=>by
    rcases AC.1 N with N | N
    ·exact ha y N
    ·simp at N;subst N;exact hx
 have hn:n=(n.toNat:Int):=by omega
 rw [hn];refine G ?_ ?_ n.toNat c3 [{ kind:=1,pattern:=p0,left:=⟨#[]⟩,right:=⟨#[]⟩ }] h3 (by simp;omega) (by simp) (by simp;exact a2)
 ·intro A R k C
  obtain ⟨x,c',e,hx,K⟩:=ZqM C;refine ⟨x,c',hx,K,fun hR ah=>?_⟩;have W:IntKind.i64.wrap ((((k+1:Nat)):Int) - 1)=(k:Int):=by rw [Yo (by omega) (by omega)];omega
  simp only;rw [if_pos (decide_eq_true (by omega)),show ({ b:=A.b,i:=A.i,h:=A.h }:Zi)=A from rfl,e,A0,Zj _ (by omega),W]
 ·intro A R C hR L ha
  obtain ⟨p,c4,e4,a4,h4⟩:=ZiW C;obtain ⟨r,c',e,q⟩:=H R hR L ha p.rel (YU ({ name:=(⟨#[114]⟩),priority:=M,cond:=R,thn:=[] }:Zf) R.length) p.args.length 0 c4 p.args (by omega) (by omega) h4;refine ⟨r,c',?_,q⟩;simp only;rw [if_neg (by simp),ZcC _ _ ⟨by show R.length≤_;omega,by simp,fun x mx=>by have:=ha x mx;omega,by simp⟩ (by show R.length≤4;omega),A0,AD,show ({ b:=A.b,i:=A.i,h:=A.h }:Zi)=A from rfl,e4,A0];exact e
theorem Zqj {c:Zi}(h:ZK c):DrR (ZeX c):=by
 unfold ZeX;obtain ⟨b,E,D,C⟩:=ZgC h (n:=3) yE yE;rw [D,A0];split
 .obtain ⟨r,B,A,q⟩:=Zt2 C;exact ⟨r,B,by rw [A];rfl,q⟩
 .obtain ⟨r,B,A,q⟩:=Zka C (m:=99) yE;exact ⟨r,B,by rw [A];rfl,q⟩
theorem ZzZ {c:Zi}(h:ZK c):∃r c',ZkU c=some (r,c')/\r.cond.length<=201/\r.thn.length<=201/\(∀x∈r.cond,x.pattern.args.length<=200)/\(∀a∈r.thn,a.pattern.args.length<=200)/\ZK c':=by
 unfold ZkU;obtain ⟨r,c1,O,q,V,U,L⟩:=Zqj h;obtain ⟨k,H,N,k0,W,D⟩:=Z1 L (n:=14) yE yE;have b1:=q.cl;have b2:=q.tl;rw [O,A0,N,A0];split
 .obtain ⟨w,E,C,B⟩:=Zec D;exact ⟨{ name:=w,priority:=r.priority,cond:=r.cond,thn:=r.thn },E,by rw [C];rfl,by show r.cond.length<=_;omega,by show r.thn.length<=_;omega,q.ca,q.ta,B⟩
 split
 .obtain ⟨w,E,C,_,B⟩:=Zcq D (l:=[(-1),0,9,10]) yG yG;exact ⟨{ name:=r.name,priority:=w,cond:=r.cond,thn:=r.thn },E,by rw [C];rfl,by show r.cond.length<=_;omega,by show r.thn.length<=_;omega,q.ca,q.ta,B⟩
 split
 .obtain ⟨x,E,C,ax,B⟩:=ZAY D;refine ⟨{ name:=r.name,priority:=r.priority,cond:=r.cond++[x],thn:=r.thn },E,by rw [C,A0,Zj _ (by show r.cond.length+1<=_;omega)],by simp;omega,by show r.thn.length<=_;omega,fun y A=>?_,q.ta,B⟩;rcases AC.1 A with A|A
  .exact q.ca y A
  .simp at A;subst A;omega
 split
 .obtain ⟨J,E,C,_,B⟩:=Zcq D (l:=[0,1,2,3,4]) yG yG;obtain ⟨p,I,G,ap,F⟩:=ZuL B;refine ⟨{ name:=r.name,priority:=r.priority,cond:=r.cond,thn:=r.thn++[{ kind:=J,pattern:=p }] },I,by rw [C,A0,G,A0,Zj _ (by show r.thn.length+1<=_;omega)],by show r.cond.length<=_;omega,by simp;omega,q.ca,fun y A=>?_,F⟩;rcases AC.1 A with A|A
  .exact q.ta y A
  .simp at A;subst A;show p.args.length<=200;omega
 split
 .exact ⟨{ name:=r.name,priority:=r.priority,cond:=r.cond.drop 1,thn:=r.thn },H,by rw [Zj _ (by show 0<=1/\(1:Int)<=(r.cond.length:Int);omega)];rfl,by simp;omega,by show r.thn.length<=_;omega,fun y A=>q.ca y (Ak A),q.ta,D⟩
 split
 .exact ⟨{ name:=r.name,priority:=r.priority,cond:=r.cond,thn:=r.thn.drop 1 },H,by rw [Zj _ (by show 0<=1/\(1:Int)<=(r.thn.length:Int);omega)];rfl,by show r.cond.length<=_;omega,by simp;omega,q.ca,fun y A=>q.ta y (Ak A),D⟩
 split
 .obtain ⟨T,E,C,_,B⟩:=Zdv D (l:=[(⟨#[63,102]⟩),(⟨#[63,97]⟩),(⟨#[63,103]⟩)]) yG yG;obtain ⟨S,I,G,_,F⟩:=Zcq B (l:=[1,2]) yG yG;obtain ⟨R,P,M,_,K⟩:=Zdv F (l:=[(⟨#[63,102]⟩),(⟨#[63,120]⟩)]) yG yG;exact ⟨_,P,by rw [C,A0,G,A0,M,A0],yG,yG,yG,yG,K⟩
 .exact ⟨r,H,rfl,yE,yE,q.ca,q.ta,D⟩
structure RB (r:Zf):Prop where
 cl:r.cond.length<=201
 tl:r.thn.length<=201
 ca:∀x∈r.cond,x.pattern.args.length<=200
 ta:∀a∈r.thn,a.pattern.args.length<=200
theorem RS.rb {r:Zf}(h:RS r):RB r:=⟨by have:=h.cl;omega,by have:=h.tl;omega,h.ca,h.ta⟩
theorem ZA8 {R:List Zf}(E:R.length<=100) (h:∀r∈R,RB r):XD R:=by
 refine ⟨fun r C=>?_,?_⟩
 .have q:=h r C;exact ⟨by have:=q.cl;omega,by have:=q.tl;omega,fun x A=>by have:=q.ca x A;omega,fun x A=>by have:=q.ta x A;omega⟩
 have:∀l:List Zf,(∀r∈l,r∈R)->(l.flatMap YO).length<=201*l.length:=by
  intro l;induction l with
  |nil=>intro _;simp
  |cons r l ih=>
   intro B;have h1:=ih fun q D=>B q (by simp [D]);have h2:=ZoU r;have h3:=(h r (B r yG)).cl;rw [List.flatMap_cons,AS,AT];omega
 have:=this R fun _ h=>h;omega
theorem Zz6 {c:Zi}(h:ZK c) {m:Int}(S:0<=m) (P:m<=7):∃R c',ZkG c m=some (R,c')/\R.length<=7/\(∀r∈R,RB r)/\ZK c':=by
 unfold ZkG;have E:IntKind.i64.wrap (m+1)=m+1:=Yo yE yE;rw [E];obtain ⟨n,M,e,O,N,J⟩:=Z1 h (n:=m+1) yE yE;rw [e,A0];have key:∀(k:Nat) (A:Zi) (row:List Zf),ZK A->row.length+k<=7->(∀r∈row,RB r)->∃R c',iter (σ:=(List Int)×Int×Int×(List Zf)×Int)
  (fun s=>
   match s with
   |(f_4,f_5,f_6,row_7,n_8)=>
   if (decide (0<n_8))=true then
    (ZeX ({ b:=f_4,i:=f_5,h:=f_6 }:Zi)).bind fun B=>
    (YJ n_8).bind fun d=>
    chk ((⟨#[114]⟩:ByteArray).size+d.size<=9223372036854775807) <|
    chk (row_7.length+1<=1073741824) <|
    some (.inl (B.2.b,B.2.i,B.2.h,(row_7++[({ name:=((⟨#[114]⟩:ByteArray)++d),priority:=B.1.priority,cond:=B.1.cond,thn:=B.1.thn }:Zf)]),(IntKind.i64.wrap (n_8 - 1))))
   else
    some (.inr (row_7,({ b:=f_4,i:=f_5,h:=f_6 }:Zi))))
  (A.b,A.i,A.h,row,(k:Int))=some (R,c')/\R.length<=7/\(∀r∈R,RB r)/\ZK c':=by
  intro k;induction k with
  |zero=>
   intro A row a I F;exact ⟨row,A,ZU rfl,yE,F,a⟩
  |succ k ih=>
   intro A row a I F;obtain ⟨r,D,L,g,_,_,j⟩:=Zqj a;have f:decide (0<(((k+1:Nat)):Int))=true:=decide_eq_true yE;have E:IntKind.i64.wrap ((((k+1:Nat)):Int) - 1)=(k:Int):=by rw [Yo yE yE];omega
   have H:(ofL (Lib.itoa ((k+1:Nat):Int))).size<=21:=Zl3 ⟨yE,yE⟩;refine (Z6 (s':=(D.b,D.i,D.h,row++[({ name:=((⟨#[114]⟩:ByteArray)++ofL (Lib.itoa ((k+1:Nat):Int))),priority:=r.priority,cond:=r.cond,thn:=r.thn }:Zf)],(k:Int))) ?_) ▸ ih D _ j (by simp;omega) fun q C=>?_
   .simp only[f,if_true];rw [show ({ b:=A.b,i:=A.i,h:=A.h }:Zi)=A from rfl,L,A0,Za3 ⟨yE,yE⟩,A0,Zj _ (by have:(⟨#[114]⟩:ByteArray).size=1:=rfl;omega),Zj _ yE,E]
   .rcases AC.1 C with C|C
    .exact F q C
    .simp at C;subst C;exact (g.name _ _).rb
 have K:n=(n.toNat:Int):=by omega
 have:=key n.toNat M [] J (by simp;omega) (fun y G=>by simp at G);rw [<-K]at this;exact this
theorem Zy4 {c:Zi}(h:ZK c):∃R c',Zir c=some (R,c')/\R.length<=20/\(∀r∈R,RB r)/\ZK c':=by
 unfold Zir;obtain ⟨R,c1,e1,r1,F,h1⟩:=Zz6 h (m:=3) yE yE;obtain ⟨k,c2,e2,k0,k1,I⟩:=Z1 h1 (n:=10) yE yE;rw [e1,A0,e2,A0];split
 .obtain ⟨r,K,J,O,N,M,L,H⟩:=ZzZ I;refine ⟨R++[r],K,by rw [J,A0,Zj _ (by show R.length+1<=_;omega)],by simp;omega,fun y B=>?_,H⟩;rcases AC.1 B with B|B
  .exact F y B
  .simp at B;subst B;exact ⟨O,N,M,L⟩
 split
 .obtain ⟨n,K,J,U,H⟩:=Zcq I (l:=[6,7]) yG yG;rw [J,A0];have P:n<=7:=by simp at U;omega
  have key:∀(m j:Nat) (A:Zi) (row:List Zf),20 - row.length<=m->j<=row.length->ZK A->row.length<=20->(∀r∈row,RB r)->∃R c',iter (σ:=(List Int)×Int×Int×(List Zf)×Int)
    (fun s=>
     match s with
     |(f_7,f_8,f_9,row_10,i_11)=>
     if (decide ((row_10.length:Int)<n))=true then
      (Qa ({ b:=f_7,i:=f_8,h:=f_9 }:Zi) 6).bind fun a=>
      (YJ i_11).bind fun e=>
      chk ((⟨#[107]⟩:ByteArray).size+e.size<=9223372036854775807) <|
      chk (row_10.length+1<=1073741824) <|
      some (.inl (a.2.b,a.2.i,a.2.h,(row_10++[({ name:=((⟨#[107]⟩:ByteArray)++e),priority:=a.1.priority,cond:=a.1.cond,thn:=a.1.thn }:Zf)]),(IntKind.i64.wrap (i_11+1))))
     else
      some (.inr (row_10,({ b:=f_7,i:=f_8,h:=f_9 }:Zi))))
    (A.b,A.i,A.h,row,(j:Int))=some (R,c')/\R.length<=20/\(∀r∈R,RB r)/\ZK c':=by
   intro m;induction m with
   |zero=>
    intro j A row V W d G D;refine ⟨row,A,ZU ?_,G,D,d⟩;simp only;rw [if_neg (by simp;omega)]
   |succ m ih=>
    intro j A row V W d G D;by_cases f:(row.length:Int)<n
    .obtain ⟨r,E,e4,g,_,_,h4⟩:=Zka d (m:=6) yE;have S:IntKind.i64.wrap ((j:Int)+1)=((j+1:Nat):Int):=by rw [Yo yE yE];omega
     have T:(ofL (Lib.itoa (j:Int))).size<=21:=Zl3 ⟨yE,yE⟩;refine (Z6 (s':=(E.b,E.i,E.h,row++[({ name:=((⟨#[107]⟩:ByteArray)++ofL (Lib.itoa (j:Int))),priority:=r.priority,cond:=r.cond,thn:=r.thn }:Zf)],((j+1:Nat):Int))) ?_) ▸ ih (j+1) E _ (by simp;omega) (by simp;omega) h4 (by simp;omega) fun q C=>?_
     .simp only;rw [if_pos (by simpa using f),show ({ b:=A.b,i:=A.i,h:=A.h }:Zi)=A from rfl,e4,A0,Za3 ⟨yE,yE⟩,A0,Zj _ (by have:(⟨#[107]⟩:ByteArray).size=1:=rfl;omega),Zj _ yE,S]
     .rcases AC.1 C with C|C
      .exact D q C
      .simp at C;subst C;exact (g.name _ _).rb
    .refine ⟨row,A,ZU ?_,G,D,d⟩;simp only;rw [if_neg (by simpa using f)]
  exact key 20 0 K R yE yE H yE F
 .exact ⟨R,c2,rfl,yE,F,I⟩
theorem ZoI {f:Za}:∀{l:List Za},f∉l->(Zbe l f).length=l.length+1
 | [],_=>rfl
 |x::l,h=>by
  unfold Zbe;split
  .rw [AT,ZoI fun m=>h (by simp [m]),AT]
  .split
   .rename_i A;exact absurd ((Zdl.eq x f).1 A) fun e=>h (by simp [e])
   .simp
def Zpo (k:Nat):Za:={ rel:=⟨#[110]⟩,args:=[ofL (Lib.itoa (k:Int))] }
theorem ZC8 {a b:List UInt8}(h:ofL a=ofL b):a=b:=by
 have:=congrArg toL h;simpa [toL,ofL]using this
theorem ZAS {j k:Nat}(F:j<25) (E:k<25) (h:Zpo j=Zpo k):j=k:=by
 have B:ofL (Lib.itoa (j:Int))=ofL (Lib.itoa (k:Int)):=by
  have:=congrArg Za.args h;simpa [Zpo]using this
 have h2:=ZC8 B;rw [Lib.itoa_nonneg,Lib.itoa_nonneg]at h2;have A:∀a b:Nat,a<200->b<200->BR a=BR b->a=b:=fun a b ha G e=>by
  have:=congrArg UInt8.toNat e;simp only[UInt8.toNat_ofNat']at this;omega
 by_cases a:j<10<;>by_cases b:k<10
 .rw [Lib.decDigits_one a,Lib.decDigits_one b]at h2;have:=A _ _ yE yE (BA h2).1;omega
 .rw [Lib.decDigits_one a,Lib.decDigits_two b yE]at h2;simp at h2
 .rw [Lib.decDigits_two a yE,Lib.decDigits_one b]at h2;simp at h2
 .rw [Lib.decDigits_two a yE,Lib.decDigits_two b yE]at h2;obtain ⟨D,C⟩:=BA h2;have q1:=A _ _ yE yE D;have q2:=A _ _ yE yE (BA C).1;omega
theorem ZA7 {c:Zi}(h:ZK c) {m:Int}(S:0<=m) (R:m<=7):∃l c',ZkA c m=some (l,c')/\l.length<=7/\(∀f∈l,f.args.length<=2/\f.rel≠⟨#[110]⟩)/\ZK c':=by
 unfold ZkA;have F:IntKind.i64.wrap (m+1)=m+1:=Yo yE yE;rw [F];obtain ⟨n,N,e,P,O,K⟩:=Z1 h (n:=m+1) yE yE;rw [e,A0];have key:∀(k:Nat) (A:Zi) (row:List Za),ZK A->row.length+k<=7->(∀f∈row,f.args.length<=2/\f.rel≠⟨#[110]⟩)->∃l c',iter (σ:=(List Int)×Int×Int×(List Za)×Int)
  (fun s=>
   match s with
   |(f_4,f_5,f_6,row_7,n_8)=>
   if (decide (0<n_8))=true then
    (ZeL ({ b:=f_4,i:=f_5,h:=f_6 }:Zi)).bind fun B=>
    (YS row_7 B.1).bind fun g=>
    some (.inl (B.2.b,B.2.i,B.2.h,g,(IntKind.i64.wrap (n_8 - 1))))
   else
    some (.inr (row_7,({ b:=f_4,i:=f_5,h:=f_6 }:Zi))))
  (A.b,A.i,A.h,row,(k:Int))=some (l,c')/\l.length<=7/\(∀f∈l,f.args.length<=2/\f.rel≠⟨#[110]⟩)/\ZK c':=by
  intro k;induction k with
  |zero=>
   intro A row a I C;exact ⟨row,A,ZU rfl,yE,C,a⟩
  |succ k ih=>
   intro A row a I C;obtain ⟨f,D,M,J,j,o⟩:=Zrm a;have d:decide (0<(((k+1:Nat)):Int))=true:=decide_eq_true yE;have F:IntKind.i64.wrap ((((k+1:Nat)):Int) - 1)=(k:Int):=by rw [Yo yE yE];omega
   have hil:=Zkv f row;refine (Z6 (s':=(D.b,D.i,D.h,Zbe row f,(k:Int))) ?_) ▸ ih D _ o yE fun q E=>?_
   .simp only[d,if_true];rw [show ({ b:=A.b,i:=A.i,h:=A.h }:Zi)=A from rfl,M,A0,Zg7 row f yE (fun x G=>by have:=(C x G).1;omega) yE,A0,F]
   .rcases XR.1 E with rfl|E
    .exact ⟨J,j⟩
    .exact C q E
 have L:n=(n.toNat:Int):=by omega
 have:=key n.toNat N [] K (by simp;omega) (fun y H=>by simp at H);rw [<-L]at this;exact this
theorem Zzm {c:Zi}(h:ZK c):∃l c',Zip c=some (l,c')/\l.length<=50/\(∀f∈l,f.args.length<=4)/\ZK c':=by
 unfold Zip;obtain ⟨l,c1,e1,l1,D,I⟩:=ZA7 h (m:=6) yE yE;obtain ⟨k,M,e2,k0,k1,H⟩:=Z1 I (n:=8) yE yE;rw [e1,A0,e2,A0];split
 .obtain ⟨f,K,J,q,G⟩:=Zk2 H;refine ⟨l++[f],K,by rw [J,A0,Zj _ (by show l.length+1<=_;omega)],by simp;omega,fun y A=>?_,G⟩;rcases AC.1 A with A|A
  .have:=(D y A).1;omega
  .simp at A;subst A;exact q
 split
 .have key:∀(m k:Nat) (row:List Za),k+m=25->k<=row.length->row.length<=7+k->(∀f∈row,f.args.length<=4/\(f.rel≠⟨#[110]⟩\/∃j,j<k/\f=Zpo j))->∃F c',iter (σ:=(List Za)×Int)
    (fun s=>
     match s with
     |(row_6,i_7)=>
     if (decide (i_7<25))=true then
      (YJ i_7).bind fun O=>
      (YS row_6 ({ rel:=(⟨#[110]⟩),args:=[O] }:Za)).bind fun N=>
      some (.inl (N,(IntKind.i64.wrap (i_7+1))))
     else
      (QE M [23,24,25]).bind fun a=>
      chk (0<=a.1/\a.1<=(row_6.length:Int)) <|
      some (.inr ((List.drop 0 (List.take (A9 a.1) row_6)),a.2)))
    (row,(k:Int))=some (F,c')/\F.length<=50/\(∀f∈F,f.args.length<=4)/\ZK c':=by
   intro m;induction m with
   |zero=>
    intro k row W I G C;obtain ⟨x,K,J,T,h4⟩:=Zcq H (l:=[23,24,25]) yG yG;have S:0<=x/\x<=25:=by simp at T;omega
    refine ⟨(row.take x.toNat).drop 0,K,ZU ?_,by rw [Ax,Am];omega,fun f B=>(C f (BB (Ak B))).1,h4⟩;simp only;rw [if_neg (by simp;omega),J,A0,Zj _ (by show 0<=x/\x<=_;omega)]
   |succ m ih=>
    intro k row W I G C;have U:IntKind.i64.wrap ((k:Int)+1)=((k+1:Nat):Int):=by rw [Yo yE yE];omega
    have b:Zpo k∉row:=fun R=>by
     rcases (C _ R).2 with V|⟨j,hj,e⟩
     .exact V rfl
     .have:=ZAS yE yE e;omega
    have hil:=ZoI b;refine (Z6 (s':=(Zbe row (Zpo k),((k+1:Nat):Int))) ?_) ▸ ih (k+1) (Zbe row (Zpo k)) yE yE yE fun q E=>?_
    .simp only;rw [if_pos (by simp;omega),Za3 ⟨yE,yE⟩,A0,show ({ rel:=(⟨#[110]⟩),args:=[ofL (Lib.itoa (k:Int))] }:Za)=Zpo k from rfl,Zg7 row (Zpo k) yE (fun x P=>by have:=(C x P).1;omega) (by simp [Zpo]),A0,U]
    .rcases XR.1 E with rfl|E
     .exact ⟨by simp [Zpo],.inr ⟨k,yE,rfl⟩⟩
     .obtain ⟨a1,L⟩:=C q E;refine ⟨a1,?_⟩;rcases L with L|⟨j,hj,e⟩
      .exact .inl L
      .exact .inr ⟨j,yE,e⟩
  exact key 25 0 l rfl yE yE fun f B=>⟨by have:=(D f B).1;omega,.inl (D f B).2⟩
 .exact ⟨l,M,rfl,yE,fun f B=>by have:=(D f B).1;omega,H⟩
structure DrB (R:List Zf) (l:List Za):Prop where
 rl:R.length<=20
 r:∀r∈R,RB r
 ll:l.length<=50
 a:∀f∈l,f.args.length<=4
theorem ZvR {c:Zi}(h:ZK c):∃R l c',ZgA c=some (R,l,c')/\DrB R l/\ZK c':=by
 unfold ZgA;obtain ⟨R,c1,O,T,H,L⟩:=Zti h true;obtain ⟨l,W,N,b1,S,K⟩:=Zwo L (m:=5) yE yE;obtain ⟨k,P,M,V,U,D⟩:=Z1 K (n:=12) yE yE;rw [O,A0,N,A0,M,A0];have rb:∀r∈R,RB r:=fun r I=>(H r I).rs.rb;have G:∀f∈l,f.args.length<=4:=fun f J=>by have:=S f J;omega
 split
 .obtain ⟨Q,F,E,B,A,C⟩:=Zy4 D;exact ⟨Q,l,F,by rw [E];rfl,⟨B,A,yE,G⟩,C⟩
 split
 .obtain ⟨m,F,E,B,A,C⟩:=Zzm D;exact ⟨R,m,F,by rw [E];rfl,⟨yE,rb,B,A⟩,C⟩
 .exact ⟨R,l,P,rfl,⟨yE,rb,yE,G⟩,D⟩
theorem DrB.small {R:List Zf}{l:List Za}(h:DrB R l):XD R:=ZA8 (by have:=h.rl;omega) h.r
theorem Zz2 {R:List Zf}{base:List Za}{x:List Za×Bool}(h:x=([],false)\/(YK R&&R.all (Xm R))=true/\Z7 base=true/\Res R base x):∀f∈x.1,f.args.length<=3:=by
 rcases h with rfl|⟨_,_,B⟩
 .simp
 .rcases B with ⟨_,C,_,_⟩|⟨_,e,_⟩
  .exact fun f A=>Xh (C.ok f A)
  .rw [e];simp
theorem Zwm {c:Zi}(h:ZK c):∃R l f c',Zei c=some (R,l,f,c')/\DrB R l/\f.args.length<=4/\ZK c':=by
 unfold Zei;obtain ⟨R,l,P,M,A,H⟩:=ZvR h;obtain ⟨x,I,N,F⟩:=ZeC A.small l (by have:=A.ll;omega);have hx:=ZCn F;rw [M];simp only[A0];rw [I,A0];split
 .rename_i a;obtain ⟨o,O,L,G⟩:=ZgC H (n:=4) yE yE;rw [L,A0];split
  .obtain ⟨f,D,C,q,B⟩:=Zk2 G;exact ⟨R,l,f,D,by rw [C];rfl,A,q,B⟩
  .have E:0<x.1.length:=by simpa using a
   obtain ⟨i,D,C,K,J,B⟩:=Z1 G (n:=(x.1.length:Int)) yE yE;have hi:i.toNat<x.1.length:=by omega
   exact ⟨R,l,x.1[i.toNat],D,by rw [C,A0,Zj _ ⟨K,J⟩,AA hi];rfl,A,by have:=Zz2 F _ (AP hi);omega,B⟩
 .obtain ⟨f,D,C,q,B⟩:=Zk2 H;exact ⟨R,l,f,D,by rw [C];rfl,A,q,B⟩
open Classical
end
section
open Classical
theorem ZnS {α:Type}{q:α->Bool}{z t:α}:∀{l:List α}{i:Nat}{body:Nat->α->Unit->Option (Unit ⊕ (α×Bool))},(∀j a,body j a ()=if q a=true then some (.inr (a,true)) else some (.inl ()))->forL body (fun _=>some (z,false)) l i ()=some (t,true)->t∈l/\q t=true
 | [],_,_,_,h=>by simp [forL]at h
 |a::l,i,body,hb,h=>by
  by_cases ha:q a=true
  .rw [Z5 (by rw [hb,if_pos ha])]at h;obtain rfl:a=t:=by simpa using h
   exact ⟨yG,ha⟩
  .rw [ZO (s':=()) (by rw [hb,if_neg ha])]at h;obtain ⟨B,A⟩:=ZnS hb h;exact ⟨by simp [B],A⟩
theorem ZtE {r:Zf}(B:Q6 r) {M l:List Za}{t:Zw}(h:Qf r M l=some (t,true)):t∈ZD r.cond M/\t.facts=l:=by
 unfold Qf at h;rw [ZfZ r M B,A0]at h;obtain ⟨A,C⟩:=ZnS (q:=fun u:Zw=>decide (u.facts=l)) (fun j a=>by rw [Zcx,A0]) h;refine ⟨?_,by simpa using C⟩;split at A
 .exact A
 .simp at A
theorem ZtZ {r:Zf}(B:Q6 r) (M l:List Za):∃t A,Qf r M l=some (t,A):=by
 unfold Qf;rw [ZfZ r M B,A0];obtain ⟨x,_,C⟩:=Zke (ρ:=Unit) (q:=fun u:Zw=>decide (u.facts=l)) (g:=fun u=>(u,true)) (z:=((({ facts:=[],binding:=[] }:Zw),false):Zw×Bool)) (l:=if (YA r&&Z7 M)=true then ZD r.cond M else []) (i:=0);exact ⟨x.1,x.2,C _ (fun j a=>by rw [Zcx,A0])⟩
theorem ZxU {R:List Zf}(G:XD R) {base M:List Za}{b:List Zz}{s:Zz}(hs:s.uses.length<=1048576) (h:ZbN R base M b s=some true):Zx4 R base M b s:=by
 unfold ZbN at h
 by_cases E:s.rule=⟨#[]⟩
 .rw [if_pos (by rw [E];rfl)]at h
  by_cases A:s.uses=[]
  .rw [if_pos (by rw [A];rfl)]at h
   obtain ⟨z,L,f⟩:=ZfP base s.fact
   rw [L,A0]at h
   refine .inl ⟨E,A,?_⟩
   refine Classical.byContradiction fun D=>?_
   have h0:=f.2 D
   have C:decide (0<=z)=true:=AM h
   rw [decide_eq_true_iff]at C
   omega
  .rw [if_neg]at h
   .simp at h
   .intro e
    apply A
    refine Ab ?_
    simp at e
    rw [e];rfl
 .rw [if_neg (by rw [ZV];exact E),Zao,A0]at h
  rcases Zws R s.rule with ⟨C,_⟩|⟨j,r,C,H,O,_⟩
  .rw [C,if_pos yF]at h
   simp at h
  .rw [C,if_neg yG,ZhP (p:=Zev b) (g:=Zm8 b) (z:=false) (l:=s.uses) (acc:=[])]at h
   .by_cases d:s.uses.all (Zev b)=true
    .rw [if_pos d,Zar,H,A0,List.nil_append]at h
     have mr:=AI H
     obtain ⟨t,I,F⟩:=ZtZ (G.s r mr) M (s.uses.map (Zm8 b))
     rw [F,A0]at h
     cases I with
     |false=>simp at h
     |true=>
      obtain ⟨J,N⟩:=ZtE (G.s r mr) F
      simp only[if_true]at h
      rw [ZaJ (p:=givesB t s.fact) (r:=true)]at h
      .by_cases ha:r.thn.any (givesB t s.fact)=true
       .obtain ⟨a,K,B⟩:=List.any_eq_true.1 ha
        refine .inr ⟨r,mr,t,J,a,K,O.symm,?_,Ah.1 d,N.symm⟩
        unfold givesB at B
        rw [AB,decide_eq_true_iff]at B
        unfold Yn
        have h4:=B.2
        cases hi:YW a.pattern t.binding with
        |none=>rw [hi]at B;simp [XJ]at B
        |some g=>rw [hi]at h4;simpa [XJ]using h4.symm
       .rw [if_neg ha]at h
        simp at h
      .intro i c S
       unfold givesB
       rw [Zbm,A0]
       cases (XJ (YW c.pattern t.binding)).2 with
       |false=>rfl
       |true=>
        rw [if_pos rfl,Xj,A0]
        cases decide ((XJ (YW c.pattern t.binding)).1=s.fact)<;>rfl
    .rw [if_neg d]at h
     simp at h
   .intro j u acc ha
    simp only[BK,AL]at ha
    by_cases A:Zev b u=true
    .obtain ⟨q,e,P⟩:=Zv5 A
     rw [if_pos A,e,A0,P,Zj _ yE]
     unfold Zev at A
     rw [decide_eq_true_iff]at A
     rw [if_neg (by simp;omega),if_neg (by simp;omega)]
    .rw [if_neg A]
     unfold Zev at A
     rw [decide_eq_true_iff]at A
     by_cases D:u<0
     .rw [if_pos (decide_eq_true D)]
     .rw [if_neg (by simpa using D),if_pos (decide_eq_true yE)]
theorem ZqN {α:Type}:∀{l:List α}{i:Nat}{body:Nat->α->Unit->Option (Unit ⊕ Bool)},(∀j x,body j x ()≠some (.inr true))->forL body (fun _=>some true) l i ()=some true->∀j x,l[j]?=some x->body (i+j) x ()=some (.inl ())
 | [],_,_,_,_,j,x,hx=>by simp at hx
 |y::l,i,body,hb,h,j,x,hx=>by
  have A:body i y ()=some (.inl ()):=by
   cases hh:body i y () with
   |none=>simp [forL,hh]at h
   |some v=>
    cases v with
    |inl u=>rfl
    |inr b=>
     rw [Z5 hh]at h;cases b with
     |false=>simp at h
     |true=>exact absurd hh (hb i y)
  rw [ZO (s':=()) A]at h;cases j with
  |zero=>simp at hx;subst hx;exact A
  |succ j=>
   have:=ZqN hb h j x (by simpa using hx)
   rwa [show i+1+j=i+(j+1) by omega]at this
theorem Zv8 {R:List Zf}(E:XD R) {b M:List Za}{B:Bool}(D:Za9 R b=some (M,B)) {a:List Zz}(hs:∀s∈a,s.uses.length<=1048576) (h:QR R b a=some true):B=true/\a.length<=60/\∀i s,a[i]?=some s->Zx4 R b M (a.take i) s:=by
 unfold QR at h;rw [D,A0]at h;cases B with
 |false=>simp at h
 |true=>
  simp only[if_true]at h;by_cases c:a.length<=60
  .rw [if_neg (by simp;omega)]at h;refine ⟨rfl,c,fun i s hi=>?_⟩;have hw:=ZqN (fun j x A=>by
    obtain ⟨_,A⟩:=Zs A;obtain ⟨v,_,A⟩:=AQ.1 A;cases v<;>simp at A) h i s hi
   rw [AL]at hw;obtain ⟨_,hw⟩:=Zs hw;obtain ⟨v,C,hw⟩:=AQ.1 hw;cases v with
   |false=>simp at hw
   |true=>
    rw [Ax]at C;exact ZxU E (hs s (AI hi)) C
  .rw [if_pos (by simp;omega)]at h;simp at h
theorem ZED {R:List Zf}{base M:List Za}(h:ZiM R base M) (F:∀r∈R,ZY r=true) (E:∀f∈M,Yt f=true) {b:List Zz}{s:Zz}(D:Zx4 R base M b s):s.fact∈M:=by
 rcases D with ⟨_,_,G⟩|⟨r,B,t,A,a,C,_,H,_⟩
 .exact h.giv _ G
 .rw [H];exact h.closed F E r B t A a C
end
section
def rank (n:List Bool) (i:Nat):Nat:=(n.take i).count true
section
variable {R:List Zf} {base M:List Za} {l:List Zz} {k:Nat}
end
end
section
open Classical
structure StB (l:List Zz):Prop where
 len:l.length<=120
 s:∀s∈l,s.fact.args.length<=1048576/\s.uses.length<=1000
theorem ZmL {F:List Za}{Q:List Zh}{O:List Yc}{O':List Yz}:∀{q p:List Int},(∀out k,k∈q->out.length<=p.length+q.length->Zmj F Q O out k=some (mkS F Q O' out k))->ZkX (Zmj F Q O) q (XB F Q O' p)=some (XB F Q O' (p++q))
 | [],p,_=>by rw [ZkX,BH]
 |k::q,p,h=>by
  rw [ZkX,h _ k yG (by rw [ZjU];omega),A0,<-Zit,ZmL (p:=p++[k]) fun out j A B=>h out j (by simp [A]) (by simp at B ⊢;omega)];simp
theorem ZtY {α β:Type}{g:α->Option β}{f:α->β}:∀{l:List α},(∀x∈l,g x=some (f x))->ZnQ g l=some (l.map f)
 | [],_=>rfl
 |x::l,h=>by rw [ZnQ,h x yG,A0,ZtY fun y A=>h y (by simp [A]),A0];rfl
theorem ZyT {R:List Zf}(N:XD R) (base:List Za) (d:base.length<=1048576) (f:Za):∃S,ZdC R base f=some S/\S.length<=60/\∀s∈S,Xv s<=80/\s.uses.length<=4:=by
 obtain ⟨_,D⟩:=Zuj R base;rcases ZmH N base d with ⟨_,A⟩|⟨F,B,_,A⟩
 .refine ⟨[],?_,yG,yG⟩;unfold ZdC;rw [D,A];rfl
 .obtain ⟨G,_⟩:=Zfo Zk5 F noS R base;by_cases a:(Yg R F base).length<=60
  .rw [ZCJ (by rw [G];exact a),G,<-D]at A;have hB:=Q4.of B a;obtain ⟨l,O,C⟩:=Zl8 hB (Yd F f);have hl60:=C.good.len hB;have b:=B.args;refine ⟨XB F (Yg R F base) (YP Zfg F noI R base).2 l,?_,?_⟩
   .unfold ZdC;rw [A,A0,if_pos rfl,Zaq,A0,O,A0,if_pos yE];refine (ZmL (p:=[]) fun out k K H=>?_).trans rfl;obtain ⟨c,o,L,U,J,E,M,T,P⟩:=Zu4 B a C K;obtain ⟨_,e⟩:=Znz B M;obtain ⟨g,hg⟩:∃g,F[c.for_.toNat]?=some g:=⟨_,AA P⟩
    obtain ⟨u,hu,i⟩:∃u,(YP Zk5 F noS R base).2[k.toNat]?=some u/\toI u=o:=by
     rw [Zr4,BL]at E;exact AN.1 E
    subst i;have I:u.token.facts.length<=4:=e;unfold Zmj;rw [if_pos L,J,A0,if_pos T,hg,A0,Y6 _ (b g (AI hg)),A0,hu,A0,if_pos yE,ZtY (f:=ZcD out) fun x _=>Zqd out x,A0,ZzF J E,ZqW hg];rfl
   .exact ⟨(Zn5 B a C).1,(Zn5 B a C).2⟩
  .refine ⟨[],?_,yG,yG⟩;unfold ZpW at A;rw [G,if_pos yE]at A;unfold ZdC;rw [D,A];rfl
theorem Zv7 {l:List Zz}(C:l.length<=1000) (h:∀s∈l,s.fact.args.length<=1048576/\s.uses.length<=1000):Zgt l=some l:=by
 unfold Zgt;rw [Zlo (g:=fun s:Zz=>s)]
 .simp
 .intro j x s A hs;obtain ⟨B,D⟩:=h x A;rw [Y6 _ B,A0,Zq0 _ yE,A0,Zj _ (by simp at hs;omega)]
theorem ZBj {c:Zi}(h:ZK c) {M:List Za}(K:M.length<=256) {f:Za}:∃g c',Zve M f c=some (g,c')/\ZK c':=by
 unfold Zve;by_cases B:0<M.length
 .rw [if_pos B];obtain ⟨o,I,G,A⟩:=ZgC h (n:=4) yE yE;rw [G,A0];cases o with
  |true=>exact ⟨f,I,rfl,A⟩
  |false=>
   rw [if_neg yG];obtain ⟨x,H,F,C,J,E⟩:=Z1 A (n:=(M.length:Int)) yE yE;have D:x.toNat<M.length:=by omega
   rw [F,A0,if_pos C,AA D];exact ⟨_,H,rfl,E⟩
 .rw [if_neg B];exact ⟨f,c,rfl,h⟩
theorem ZsP {l:List Zz}(C:∀s∈l,s.fact.args.length<=1048576/\s.uses.length<=1000) {n:Nat}{x:Zz}(B:x.fact.args.length<=1048576/\x.uses.length<=1000):∀s∈l.set n x,s.fact.args.length<=1048576/\s.uses.length<=1000:=fun s A=>by
 rcases List.mem_or_eq_of_mem_set A with h|h
 .exact C s h
 .rw [h];exact B
theorem ZCX {c:Zi}(h:ZK c) {S:List Zz}(N:S.length<=60) (G:∀s∈S,s.fact.args.length<=80/\s.uses.length<=4) {n:Nat}{st:Zz}(e:S[n]?=some st) (d:Int):∃T c',ZtQ S n st d c=some (T,c')/\StB T/\ZK c':=by
 have b:∀s∈S,s.fact.args.length<=1048576/\s.uses.length<=1000:=fun s B=>by have:=G s B;omega
 have hs0:=G st (AI e);unfold ZtQ;by_cases K:d=0
 .rw [if_pos K];obtain ⟨g,D,C,P,A⟩:=Zk2 h;rw [C,A0];exact ⟨_,D,rfl,⟨by rw [An];omega,ZsP b ⟨by show g.args.length<=_;omega,by show st.uses.length<=_;omega⟩⟩,A⟩
 rw [if_neg K];by_cases A:d=1
 .rw [if_pos A];obtain ⟨g,D,C,_,A⟩:=Zdv h (l:=[(⟨#[]⟩:ByteArray),⟨#[114,49]⟩,⟨#[114,50]⟩,⟨#[120]⟩]) yG yG;rw [C,A0];exact ⟨_,D,rfl,⟨by rw [An];omega,ZsP b ⟨by show st.fact.args.length<=_;omega,by show st.uses.length<=_;omega⟩⟩,A⟩
 rw [if_neg A];by_cases J:d=2
 .rw [if_pos J];obtain ⟨x,D,C,L,O,A⟩:=Z1 h (n:=(((S.length+1:Nat)):Int)) yE yE;rw [C,A0,if_pos ⟨L,by show x<=_;omega,yE⟩];refine ⟨_,D,rfl,⟨by rw [An];omega,ZsP b ⟨by show st.fact.args.length<=_;omega,?_⟩⟩,A⟩;show (st.uses++[_]).length<=_
  rw [AS];simp;omega
 rw [if_neg J];by_cases I:d=3
 .rw [if_pos I];exact ⟨_,c,rfl,⟨by rw [List.length_drop];omega,fun s B=>b s (Ak B)⟩,h⟩
 rw [if_neg I];by_cases H:d=4
 .rw [if_pos H];have F:n<S.length:=(AK.1 e).1;rw [Zv7 (by rw [Am];omega) (fun s B=>b s (BB B)),A0];obtain ⟨E,r,rfl⟩:∃E r,S=E::r:=by
   cases S with
   |nil=>simp at F
   |cons a r=>exact ⟨a,r,rfl⟩
  obtain ⟨g,D,C,M,A⟩:=Zcq h (l:=[59,60,61]) yG yG;have R:g=59\/g=60\/g=61:=by simpa using M
  rw [show ((E::r).take 1)[0]?=some E from rfl,A0,C,A0,if_pos ⟨by show 0<=g;omega,by show g.toNat<=_;simp at F ⊢;omega⟩];refine ⟨_,D,rfl,⟨by rw [Am];show min g.toNat _<=_;omega,fun s B=>?_⟩,A⟩;rcases AC.1 (BB B) with m|m
  .exact b s m
  .rw [List.eq_of_mem_replicate m];exact b E yG
 rw [if_neg H];exact ⟨S,c,rfl,⟨yE,b⟩,h⟩
theorem ZwJ {c:Zi}(h:ZK c):∃R l T c',Zee c=some (R,l,T,c')/\DrB R l/\StB T/\ZK c':=by
 unfold Zee;obtain ⟨R,l,f,c1,e1,A,_,V⟩:=Zwm h;have hll:=A.ll;obtain ⟨M,ok,I,m2,K⟩:=ZkZ A.small l yE;have e:M.length<=256:=by
  rcases K with ⟨_,rfl⟩|⟨_,F,L,N,rfl⟩
  .simp
  .have:=(Qk (L.factsM (rdB { nodes:=(F.length:Int),reasons:=Yg R F l }))).1;omega
 obtain ⟨g,c2,e2,C⟩:=ZBj V e (f:=f);obtain ⟨S,e3,i,G⟩:=ZyT A.small l yE g;rw [e1,A0];dsimp only;rw [I,A0];dsimp only;rw [e2,A0];dsimp only;rw [e3,A0];by_cases D:S.length=0
 .rw [if_pos D];exact ⟨R,l,[],c2,rfl,A,⟨yG,yG⟩,C⟩
 .rw [if_neg D];obtain ⟨x,c3,e4,E,x1,U⟩:=Z1 C (n:=(S.length:Int)) yE yE;have B:x.toNat<S.length:=by omega
  obtain ⟨d,c4,e5,_,_,P⟩:=Z1 U (n:=10) yE yE;have j:∀s∈S,s.fact.args.length<=80/\s.uses.length<=4:=fun s H=>by
   obtain ⟨a,b⟩:=G s H;unfold Xv ZaK Zkn at a;omega
  obtain ⟨T,c5,W,J,O⟩:=ZCX P i j (AA B) d;rw [e4,A0,if_pos ⟨E,yE⟩,AA B,A0];dsimp only;rw [e5,A0];dsimp only;rw [W,A0];exact ⟨R,l,T,c5,rfl,A,J,O⟩
theorem Zoh (a:List Int) (h:a.length<=4096):∃R l T,Zbr a=some (R,l,T)/\DrB R l/\StB T:=by
 unfold Zbr;obtain ⟨c,E,C⟩:=ZBb a h;obtain ⟨R,l,T,F,D,B,A,_⟩:=ZwJ C;rw [E,A0,D];exact ⟨R,l,T,rfl,B,A⟩
end
section
open Classical
section
variable {α σ ρ:Type} {body:Nat->α->σ->Option (σ ⊕ ρ)} {fin:σ->Option ρ}
theorem ZlG (I:Nat->σ->Prop) (Q:ρ->Prop):∀(l:List α) (i:Nat) (s:σ),I i s->(∀j x s,l[j]?=some x->I (i+j) s->∃s',body (i+j) x s=some (.inl s')/\I (i+j+1) s')->(∀s,I (i+l.length) s->∃r,fin s=some r/\Q r)->∃r,forL body fin l i s=some r/\Q r
 | [],i,s,h,_,hf=>hf s h
 |x::l,i,s,h,hs,hf=>by
  obtain ⟨s',e,C⟩:=hs 0 x s rfl h;rw [Nat.add_zero]at e;rw [ZO e];refine ZlG I Q l (i+1) s' C (fun j y t B A=>?_) (fun t A=>hf t ?_)
  .have:=hs (j+1) y t (by simpa using B) (by rw [show i+(j+1)=i+1+j by omega];exact A)
   rwa [show i+(j+1)=i+1+j by omega]at this
  .rw [AT,show i+(l.length+1)=i+1+l.length by omega];exact A
theorem ZyX {τ:Type}{body:Nat->α->σ->Option (σ ⊕ (τ ⊕ ρ))}{fin:σ->Option (τ ⊕ ρ)}(I:Nat->σ->Prop) (Q:τ->Prop) (l:List α) (s:σ) (h:I 0 s) (hs:∀j x s,l[j]?=some x->I j s->∃s',body j x s=some (.inl s')/\I (j+1) s') (C:∀s,I l.length s->∃t,fin s=some (.inl t)/\Q t):∃t,forL body fin l 0 s=some (.inl t)/\Q t:=by
 obtain ⟨r,e,t,rfl,q⟩:=ZlG (body:=body) (fin:=fin) I (fun r=>∃t,r=.inl t/\Q t) l 0 s h (fun j x s B A=>by rw [AL]at A ⊢;exact hs j x s B A) fun s A=>by
  obtain ⟨t,e,q⟩:=C s (by simpa using A);exact ⟨_,e,t,rfl,q⟩
 exact ⟨t,e,q⟩
end
theorem ZnN {R:List Zf}{base F:List Za}(B:Ya R base F) {r:Zf}(A:r∈R):r.name.size<=8/\r.name≠⟨#[]⟩:=by
 have hl:=(B.rule A).1;unfold ZY at hl;simp only[AB]at hl;have hv:=hl.1.1;refine ⟨?_,ZBL hv⟩;unfold YA at hv;simp only[AB]at hv;have hn:=hv.1.1.1.1.1.1.1.1.1;unfold X0 at hn;rw [AB]at hn;exact (Qe hn.1).2
theorem Zyg {R:List Zf}{base F M:List Za}(B:Ya R base F) (K:ZiM R base M) (G:Z7 M=true) {b:List Zz}(P:b.length<=60) {s:Zz}(E:Zx4 R base M b s):s.fact∈M/\Xv s<=80/\ZAO s:=by
 have c:=ZED K B.logical1 (Qk G).2 E;have hc:=ZrC ((Qk G).2 _ c);have e:Xv s=ZaK s.fact+s.rule.size+s.uses.length:=rfl;rcases E with ⟨C,H,_⟩|⟨r,D,t,I,a,O,C,_,N,L⟩
 .refine ⟨c,?_,⟨trivial,fun _ _=>trivial⟩,trivial,fun u A=>?_⟩
  .rw [e,C,H];show ZaK s.fact+0+0<=80
   omega
  .rw [H]at A;simp at A
 .have h8:=(ZnN B D).1;have hl:=(B.rule D).2.1;have htl:=(QL M _ t I).len;have J:s.uses.length=t.facts.length:=by rw [<-L,B5]
  refine ⟨c,?_,⟨trivial,fun _ _=>trivial⟩,trivial,fun u A=>?_⟩
  .rw [e,C];omega
  .have:=N u A;unfold Zev at this;rw [decide_eq_true_iff]at this;show -9223372036854775808<=u/\u<=9223372036854775807
   omega
structure ZCz (R:List Zf) (base M:List Za) (S:List Zz):Prop where
 len:S.length<=60
 fit:∀i s,S[i]?=some s->Zx4 R base M (S.take i) s
 small:∀s∈S,s.fact∈M/\Xv s<=80/\ZAO s
 given:∀f∈Qv S,f∈base
theorem ZCz.of {R:List Zf}{base F M:List Za}(C:Ya R base F) (G:ZiM R base M) (H:Z7 M=true) {S:List Zz}(a:S.length<=60) (B:∀i s,S[i]?=some s->Zx4 R base M (S.take i) s):ZCz R base M S where
 len:=a
 fit:=B
 small:=fun s A=>by
  obtain ⟨i,hi⟩:=B4.1 A;exact Zyg C G H (by rw [Am];omega) (B i s hi)
 given:=fun f E=>by
  obtain ⟨s,A,I,rfl⟩:=(ZxN S).1 E;obtain ⟨i,hi⟩:=B4.1 A;rcases B i s hi with ⟨_,_,h⟩|⟨r,D,_,_,_,_,h,_⟩
  .exact h
  .exact absurd (h.symm.trans I) (ZnN C D).2
theorem ZDA {R:List Zf}(D:XD R) {base:List Za}(H:base.length<=1048576) {S:List Zz}(hs:∀s∈S,s.uses.length<=1048576) (h:QR R base S=some true):∃M F,QK R base=some (M,true)/\Za9 R base=some (M,true)/\Ya R base F/\ZiM R base M/\Z7 M=true/\ZCz R base M S:=by
 obtain ⟨M,J,E,B,I⟩:=ZkZ D base H;obtain ⟨rfl,a,G⟩:=Zv8 D B hs h;rcases I with ⟨h,_⟩|⟨_,F,A,C,rfl⟩
 .exact absurd h yG
 .exact ⟨_,F,E,B,A,Zvv A C,A.factsM _,ZCz.of A (Zvv A C) (A.factsM _) a G⟩
theorem Zur {R:List Zf}{base:List Za}{S:List Zz}(h:QR R base S=some true) {s:Zz}(A:s∈S):Zik R base S s.fact=some true:=by
 have h1:=(ZvD (out:=S) (x:=s.fact) ⟨s,A,rfl⟩).1;unfold Zev at h1;rw [decide_eq_true_iff]at h1;unfold Zik;rw [Zpp,A0,if_pos (decide_eq_true h1.1),h];rfl
def ZBw (n:Nat) (row:List Int):Prop:=row.length=n/\∀(j:Nat) (v:Int),row[j]?=some v->0<=v/\v<=(j:Int)
theorem ZAR (S:List Zz) (h:S.length<=1000):∃d,Zf2 S=some d/\(d<=0\/d<(S.length:Int)):=by
 unfold Zf2;rw [Zj _ yE];refine ZlG (fun i s=>ZBw S.length s.1/\(s.2<=0\/s.2<(i:Int))) _ S 0 _ ⟨⟨yG,fun j v A=>?_⟩,.inl (B9 0)⟩ (fun i x s J E=>?_) (fun s E=>⟨s.2,rfl,by simpa using E.2⟩)
 .rw [List.getElem?_replicate]at A;split at A
  .have:=AM A;omega
  .simp at A
 .obtain ⟨row,I⟩:=s;obtain ⟨B,K⟩:=E;rw [AL]at K ⊢;have hi:i<S.length:=(AK.1 J).1;refine ZyX (fun _ row=>ZBw S.length row) _ x.uses row B (fun _ u row _ B=>?_) (fun row B=>?_)
  .obtain ⟨D,A⟩:=B;by_cases F:0<=u
   .by_cases H:u<(i:Int)
    .have G:u.toNat<row.length:=by omega
     have a:i<row.length:=by omega
     obtain ⟨O,N⟩:=A _ _ (AA G);obtain ⟨M,L⟩:=A _ _ (AA a);rw [if_pos (decide_eq_true F),if_pos (decide_eq_true H),Zj _ yE,AA a,A0,Zj _ yE,AA G,A0,Yo yE yE];refine ⟨_,rfl,by rw [An];exact D,fun j v C=>?_⟩;rw [List.getElem?_set]at C;split at C
     .rename_i e;subst e;have:=AM C;split at this<;>omega
     .exact A j v C
    .rw [if_pos (decide_eq_true F),if_neg (by simpa using H)];exact ⟨_,rfl,D,A⟩
   .rw [if_neg (by simpa using F)];exact ⟨_,rfl,D,A⟩
  .have a:i<row.length:=by rw [B.1];exact hi
   obtain ⟨M,L⟩:=B.2 _ _ (AA a);rw [Zj _ yE,AA a,A0];refine ⟨_,rfl,B,?_⟩;dsimp only;split<;>omega
theorem Zqe (a:List Int):ZiV a=some true:=by
 unfold ZiV;rw [ZAL,A0];split
 .rfl
 rename_i K;obtain ⟨R,base,S,N,D,L⟩:=Zoh a (ZyK K);have hll:=D.ll;have E:∀s∈S,s.uses.length<=1048576:=fun s H=>by have:=(L.s s H).2;omega
 obtain ⟨v,G,C⟩:=Zsc D.small base yE S E;rw [N];simp only[A0];rw [G,C];simp only[A0];rw [if_pos yG];cases v with
 |false=>rfl
 |true=>
  obtain ⟨M,F,I,O,V,T,U,A⟩:=ZDA D.small yE E C;rw [if_pos rfl,I];simp only[A0];rw [Yb (p:=fun _=>true) (r:=false) (fun i x B=>?_),if_pos yG,if_pos trivial]
  .have J:XK S<=1048576:=by
    have W:(S.map Xv).sum<=S.length*80:=ZsE fun x B=>(A.small x B).2.1;have h2:=A.len;unfold XK;omega
   rw [ZrQ J];simp only[A0];rw [Zsy A.given,A0,if_pos rfl];obtain ⟨d,e,P⟩:=ZAR S (by have:=A.len;omega);rw [e,A0];refine congrArg some (decide_eq_true ?_);split<;>omega
  .rw [Zor,A0,if_pos (decide_eq_true (A.small x B).1),Zur C B];rfl
end
section
open Go.RowKit
def ZW {α β:Type}(R:α->β->Prop):List α->List β->Prop
 | [],[]=>True
 |a::l,b::r=>R a b/\ZW R l r
 |_,_=>False
section
variable {α β:Type} {R R':α->β->Prop}
theorem ZW.len:∀{l:List α}{r:List β},ZW R l r->l.length=r.length
 | [],[],_=>rfl
 |_::_,_::_,h=>by simp [h.2.len]
 | [],_::_,h=>h.elim
 |_::_,[],h=>h.elim
theorem ZW.mono:∀{l:List α}{r:List β},ZW R l r->(∀a b,a∈l->R a b->R' a b)->ZW R' l r
 | [],[],_,_=>trivial
 |_::_,_::_,h,f=>⟨f _ _ yG h.1,h.2.mono fun a b m=>f a b (by simp [m])⟩
 | [],_::_,h,_=>h.elim
 |_::_,[],h,_=>h.elim
theorem ZW.at:∀{l:List α}{r:List β}{i:Nat}{a:α},ZW R l r->l[i]?=some a->∃b,r[i]?=some b/\R a b
 | [],[],_,_,_,h=>by simp at h
 |_::_,b::_,0,_,h,e=>by simp at e;subst e;exact ⟨b,yG,h.1⟩
 |_::_,_::_,i+1,a,h,e=>by
  obtain ⟨b,B,A⟩:=h.2.at (i:=i) (a:=a) (by simpa using e);exact ⟨b,by simpa using B,A⟩
 | [],_::_,_,_,h,_=>h.elim
 |_::_,[],_,_,h,_=>h.elim
theorem ZW.set:∀{l:List α}{r:List β}{i:Nat}{a:α}{b:β},ZW R l r->R a b->ZW R (l.set i a) (r.set i b)
 | [],[],_,_,_,_,_=>trivial
 |_::_,_::_,0,_,_,h,e=>⟨e,h.2⟩
 |_::_,_::_,_+1,_,_,h,e=>⟨h.1,h.2.set e⟩
 | [],_::_,_,_,_,h,_=>h.elim
 |_::_,[],_,_,_,h,_=>h.elim
theorem ZW.drop:∀{l:List α}{r:List β}(n:Nat),ZW R l r->ZW R (l.drop n) (r.drop n)
 |_,_,0,h=>by simpa using h
 | [],[],n+1,_=>by simp [ZW]
 |_::_,_::_,n+1,h=>by simpa using h.2.drop n
 | [],_::_,_+1,h=>h.elim
 |_::_,[],_+1,h=>h.elim
theorem ZW.take:∀{l:List α}{r:List β}(n:Nat),ZW R l r->ZW R (l.take n) (r.take n)
 |_,_,0,h=>by simp [ZW]
 | [],[],n+1,_=>by simp [ZW]
 |_::_,_::_,n+1,h=>by simpa using ⟨h.1,h.2.take n⟩
 | [],_::_,_+1,h=>h.elim
 |_::_,[],_+1,h=>h.elim
theorem ZW.append:∀{l B:List α}{r A:List β},ZW R l r->ZW R B A->ZW R (l++B) (r++A)
 | [],_,[],_,_,h=>h
 |_::_,_,_::_,_,h,h'=>⟨h.1,h.2.append h'⟩
 | [],_,_::_,_,h,_=>h.elim
 |_::_,_,[],_,h,_=>h.elim
end
class NW where
 B0:Nat
structure Gh where
 val:Nat->Value
 O:Nat->List Nat
 D:Nat->List Nat
 Z:Nat->Prop
def Gh.own (g:Gh) (b:Nat):Prop:=(∃k,b∈g.O k)\/g.Z b
def Gh.low (g:Gh) (b:Nat):Prop:=g.own b\/∃k,b∈g.D k
structure Zal (g g':Gh) (n:Nat):Prop where
 own:∀b,g'.own b->g.own b\/n<=b
 low:∀b,g'.low b->g.low b\/n<=b
structure X4 (g' g:Gh):Prop where
 own:∀b,g'.own b->g.own b
 low:∀b,g'.low b->g.low b
theorem Zal.refl (g:Gh) (n:Nat):Zal g g n:=⟨fun _ h=>.inl h,fun _ h=>.inl h⟩
theorem X4.refl (g:Gh):X4 g g:=⟨fun _ h=>h,fun _ h=>h⟩
theorem X4.trans {a b c:Gh}(h:X4 a b) (k:X4 b c):X4 a c:=⟨fun x A=>k.own x (h.own x A),fun x A=>k.low x (h.low x A)⟩
theorem X4.grow {B g:Gh}(h:X4 B g) (n:Nat):Zal g B n:=⟨fun x A=>.inl (h.own x A),fun x A=>.inl (h.low x A)⟩
theorem X4.of {A g:Gh}(h:∀b,A.own b->g.own b) (k:∀j b,b∈A.D j->∃i,b∈g.D i):X4 A g:=⟨h,fun x C=>C.imp (h x) fun ⟨j,B⟩=>k j x B⟩
theorem Zal.of {g B:Gh}{n:Nat}(h:∀b,B.own b->g.own b\/n<=b) (k:∀j b,b∈B.D j->g.low b\/n<=b):Zal g B n:=⟨h,fun x A=>by
 rcases A with A|⟨j,C⟩
 .exact (h x A).imp (fun q=>.inl q) id
 .exact k j x C⟩
structure Zbb extends World where
 z:Nat->Prop
 x:Nat->Prop
 hv:Option Value
structure Bel (W:Zbb) (w:World):Prop where
 os:w.os=W.os
 tape:w.tape=W.tape
 output:w.output=W.output
 size:W.heap.size<=w.heap.size
 block:∀k,k<W.heap.size->¬W.x k->w.heap[k]?=W.heap[k]?
theorem Bel.trans {W:Zbb}{w w':World}(h:Bel W w) (k:Below w.heap.size w w'):Bel W w':=
 ⟨k.os.trans h.os,k.tape.trans h.tape,k.output.trans h.output,Nat.le_trans h.size k.size,fun i hi A=>(k.block i (Nat.lt_of_lt_of_le hi h.size)).trans (h.block i hi A)⟩
def NR [NW] (g:Gh) (w:World) (x:CT) (v:Value):Prop:=
 ∃e m xs cs L,x=.sl e m xs/\0<m/\w.ownsV 0 e m v xs.length cs/\REs w m xs cs L/\(v.ownBlock.toList++L).Nodup/\∀b∈v.ownBlock.toList++L,¬g.low b/\NW.B0<=b/\∃cur t,w.heap[b]?=some (.cells cur t (0,0))
def AVR [NW] (g:Gh) (w:World):AV->Value->Prop
 |.c x,v=>∃L,RC w x v L/\∀b∈L,¬g.own b
 |.n x,v=>NR g w x v
 |.row k,v=>v=g.val k/\v.oneCell'=true
 |.nil _ _,v=>v=.slice none 0 0
 |.dead,v=>v.oneCell'=true
def PVR [NW] (g:Gh) (w:World):Bool->List AV->Value->Prop
 |true,cs,v=>∃vs:List Value,v=.agg vs.toArray/\ZW (AVR g w) cs vs
 |false,cs,v=>∃x,cs=[x]/\AVR g w x v
def SVR [NW] (g:Gh) (w:World):SV->Value->Prop
 |.any,_=>True
 |.und,v=>v=undef
 |.p a cs,v=>PVR g w a cs v
 |.tup xs,v=>∃vs:List Value,v=.tuple vs.toArray/\ZW (fun x u=>PVR g w x.1 x.2 u) xs vs
 |.bp k off,v=>∃b,g.val k=.pointer (some ⟨b,0,none⟩)/\v=.pointer (some ⟨b,off,none⟩)
 |.rp k m i off,v=>∃b o n c,g.val k=.slice (some ⟨b,o,none⟩) n c/\v=.pointer (some ⟨b,o+(i*m+off),none⟩)
 |.ep e off,v=>∃b lo cs L,v=.pointer (some ⟨b,lo+off,none⟩)/\ZbE w b lo cs/\RCs w e cs L/\(∀x∈b::L,¬g.own x)/\b<w.heap.size
 |.fn f,v=>v=.func (.func f) #[] #[]
def ObR [NW] (g:Gh) (w:World) (k:Nat):Ob->Prop
 |.gone=>g.O k=[]/\g.D k=[]
 |.box t cs=>∃b vs,g.val k=.pointer (some ⟨b,0,none⟩)/\g.O k=[b]/\g.D k=[]/\w.heap[b]?=some (.cells vs.toArray t (0,0))/\ZW (AVR g w) cs vs
 |.row e m xs d=>0<m/\∃cs L,w.ownsV 0 e m (g.val k) xs.length cs/\REs w m xs cs L/\((d=2/\g.O k=(g.val k).ownBlock.toList/\g.D k=L)\/(d=1/\g.O k=(g.val k).ownBlock.toList/\g.D k=[]/\∀b∈L,¬g.own b)\/(d=0/\g.O k=[]/\g.D k=[]/\∀b∈(g.val k).ownBlock.toList++L,¬g.own b))
 |.map kk vk kv=>∃b es c,g.val k=.map (some b)/\g.O k=[b]/\g.D k=[]/\w.heap[b]?=some (.map es c)/\Zfh es=kv/\Zlz kk vk kv
def Qp (w:World) (o:Ob) (b:Nat):Prop:=
 match o with |.map _ _ _=>∃es c,w.heap[b]?=some (.map es c) |_=>∃cur e,w.heap[b]?=some (.cells cur e (0,0))
theorem Qp.lt {w:World}{o:Ob}{b:Nat}(h:Qp w o b):b<w.heap.size:=by
 unfold Qp at h;split at h
 .obtain ⟨_,_,h⟩:=h;exact (BC.1 h).1
 .obtain ⟨_,_,h⟩:=h;exact (BC.1 h).1
theorem Qp.keep {w w':World}{o:Ob}{b:Nat}(h:Qp w o b) (e:w'.heap[b]?=w.heap[b]?):Qp w' o b:=by
 unfold Qp at h ⊢;rw [e];exact h
def Zk0:Ob->Bool
 |.map _ _ _=>true
 |_=>false
theorem Qp.of {w:World}{o o':Ob}{b:Nat}(h:Qp w o b) (e:Zk0 o'=Zk0 o):Qp w o' b:=by
 cases o<;>cases o'<;>simp [Zk0]at e<;>exact h
structure HI [NW] (W:Zbb) (g:Gh) (ob:Nat->Ob) (w:World):Prop where
 below:Bel W w
 obs:∀k,ObR g w k (ob k)
 nodup:∀k,(g.O k++g.D k).Nodup
 apart:∀k j,k≠j->∀b∈g.O k++g.D k,b∉g.O j++g.D j
 plain:∀k,∀b∈g.O k++g.D k,(W.heap.size<=b\/W.x b)/\Qp w (ob k) b
 gz:g.Z=W.z
 zx:∀b,W.z b->b<W.heap.size/\¬W.x b
 nw:∀b,(W.heap.size<=b\/W.x b)->NW.B0<=b
def avU (U:Nat->Prop):AV->Prop
 |.row k=>U k
 |_=>True
def Zag (U:Nat->Prop) (cs:List AV):Prop:=∀x∈cs,avU U x
def svU (U:Nat->Prop):SV->Prop
 |.p _ cs=>Zag U cs
 |.tup xs=>∀x∈xs,Zag U x.2
 |.bp k _=>U k
 |.rp k _ _ _=>U k
 |_=>True
def obU (U:Nat->Prop):Ob->Prop
 |.box _ cs=>Zag U cs
 |_=>True
structure StU (U:Nat->Prop) (st:St):Prop where
 sl:∀t,svU U (st.sl t)
 ob:∀k,obU U (st.ob k)
 gone:∀k,¬U k->st.ob k=.gone
theorem HI.lt [NW] {W:Zbb}{g:Gh}{ob:Nat->Ob}{w:World}(h:HI W g ob w) (k:Nat):∀b∈g.O k++g.D k,b<w.heap.size:=by
 intro b m;exact (h.plain k b m).2.lt
theorem HI.nz [NW] {W:Zbb}{g:Gh}{ob:Nat->Ob}{w:World}(h:HI W g ob w) {k b:Nat}(m:b∈g.O k++g.D k):¬g.Z b:=fun A=>by
 rw [h.gz]at A;obtain ⟨E,C⟩:=h.zx b A;rcases (h.plain k b m).1 with B|B
 .omega
 .exact C B
section
variable {g g':Gh} {w w':World} {U:Nat->Prop}
theorem NR.move [NW] {x:CT}{v:Value}(h:NR g w x v)
  (C:∀b,b<w.heap.size->¬g.own b->w'.heap[b]?=w.heap[b]?) (D:Zal g g' w.heap.size):NR g' w' x v:=by
 obtain ⟨e,m,xs,cs,L,I,H,G,F,E,B⟩:=h;have a:∀b∈v.ownBlock.toList++L,b<w.heap.size:=fun b A=>by
  obtain ⟨_,_,_,_,q⟩:=B b A;exact (BC.1 q).1
 have hs:∀b∈v.ownBlock.toList++L,w'.heap[b]?=w.heap[b]?:=fun b A=>C b (a b A) fun o=>(B b A).1 (.inl o);refine ⟨e,m,xs,cs,L,I,H,YG G fun b A=>hs b (by simp [A]),F.keep fun b A=>hs b (by simp [A]),E,fun b A=>⟨fun o=>?_,(B b A).2.1,by rw [hs b A];exact (B b A).2.2⟩⟩;rcases D.low b o with o|o
 .exact (B b A).1 o
 .have:=a b A;omega
theorem AVR.move [NW] {x:AV}{v:Value}(h:AVR g w x v) (E:avU U x) (F:∀k,U k->g'.val k=g.val k)
  (A:∀b,b<w.heap.size->¬g.own b->w'.heap[b]?=w.heap[b]?) (B:Zal g g' w.heap.size):AVR g' w' x v:=by
 cases x with
 |c x=>
  obtain ⟨L,D,C⟩:=h;have a:=D.lt;refine ⟨L,D.keep fun b m=>A b (a b m) (C b m),fun b m o=>?_⟩;rcases B.own b o with o|o
  .exact C b m o
  .have:=a b m;omega
 |n x=>exact NR.move h A B
 |row k=>exact ⟨h.1.trans (F k E).symm,h.2⟩
 |nil e m=>exact h
 |dead=>exact h
theorem AVRs.move [NW] {cs:List AV}{vs:List Value}(h:ZW (AVR g w) cs vs) (A:Zag U cs) (C:∀k,U k->g'.val k=g.val k)
  (B:∀b,b<w.heap.size->¬g.own b->w'.heap[b]?=w.heap[b]?) (D:Zal g g' w.heap.size):ZW (AVR g' w') cs vs:=
 h.mono fun a _ m r=>r.move (A a m) C B D
theorem PVR.move [NW] {a:Bool}{cs:List AV}{v:Value}(h:PVR g w a cs v) (C:Zag U cs) (E:∀k,U k->g'.val k=g.val k)
  (D:∀b,b<w.heap.size->¬g.own b->w'.heap[b]?=w.heap[b]?) (F:Zal g g' w.heap.size):PVR g' w' a cs v:=by
 cases a with
 |true=>obtain ⟨vs,A,B⟩:=h;exact ⟨vs,A,AVRs.move B C E D F⟩
 |false=>obtain ⟨x,A,B⟩:=h;exact ⟨x,A,B.move (C x (by simp [A])) E D F⟩
theorem SVR.move [NW] {s:SV}{v:Value}(h:SVR g w s v) (C:svU U s) (E:∀k,U k->g'.val k=g.val k)
  (D:∀b,b<w.heap.size->¬g.own b->w'.heap[b]?=w.heap[b]?) (F:Zal g g' w.heap.size) (hs:w.heap.size<=w'.heap.size):SVR g' w' s v:=by
 cases s with
 |any=>exact h
 |und=>exact h
 |p a cs=>exact PVR.move h C E D F
 |tup xs=>
  obtain ⟨vs,B,A⟩:=h;exact ⟨vs,B,A.mono fun x _ m r=>r.move (C x m) E D F⟩
 |bp k off=>obtain ⟨b,B,A⟩:=h;exact ⟨b,(E k C).trans B,A⟩
 |rp k m i off=>obtain ⟨b,o,n,c,B,A⟩:=h;exact ⟨b,o,n,c,(E k C).trans B,A⟩
 |ep e off=>
  obtain ⟨b,I,cs,L,B,A,H,G,K⟩:=h;have d:=H.lt;refine ⟨b,I,cs,L,B,fun j u J=>?_,H.keep fun x m=>D x (d x m) (G x (by simp [m])),fun x m o=>?_,yE⟩
  .rw [<-A j u J];exact World.cell?_of_block (D b K (G b yG))
  .rcases F.own x o with o|o
   .exact G x m o
   .rcases AW.1 m with rfl|m
    .omega
    .have:=d x m;omega
 |fn f=>exact h
theorem HI.step [NW] {W:Zbb}{ob ob':Nat->Ob}(h:HI W g ob w) (T:Nat->Prop)
  (v:Bel W w') (hZ:g'.Z=g.Z)
  (hw:∀b,b<w.heap.size->(∀k,T k->b∉g.O k)->w'.heap[b]?=w.heap[b]?)
  (H:∀k,¬T k->ob' k=ob k/\g'.val k=g.val k/\g'.O k=g.O k/\g'.D k=g.D k)
  (y:∀k,obU U (ob k)) (hv:∀k,U k->g'.val k=g.val k)
  (ho:Zal g g' w.heap.size)
  (M:∀k,T k->ObR g' w' k (ob' k)/\(g'.O k++g'.D k).Nodup/\(∀b∈g'.O k++g'.D k,(W.heap.size<=b\/W.x b)/\Qp w' (ob' k) b)/\∀j,k≠j->∀b∈g'.O k++g'.D k,b∉g'.O j++g'.D j):
  HI W g' ob' w':=by
 have p:∀b,b<w.heap.size->¬g.own b->w'.heap[b]?=w.heap[b]?:=fun b hb V=>hw b hb fun k _ m=>V (.inl ⟨k,m⟩);have i:∀k,¬T k->∀b∈g.O k++g.D k,w'.heap[b]?=w.heap[b]?:=fun k H b m=>
  hw b (h.lt k b m) fun j hj R=>h.apart j k (fun e=>H (e ▸ hj)) b (by simp [R]) m
 refine ⟨v,fun k=>?_,fun k=>?_,fun k j q b m=>?_,fun k b m=>?_,hZ.trans h.gz,h.zx,h.nw⟩
 .by_cases a:T k
  .exact (M k a).1
  .obtain ⟨P,N,G,F⟩:=H k a;have f:=h.obs k;have hF:=i k a;have hU:=y k;rw [P];cases hok:ob k with
   |gone=>rw [hok]at f;exact ⟨G.trans f.1,F.trans f.2⟩
   |box t cs=>
    rw [hok]at f hU;obtain ⟨b,vs,K,J,E,B,I⟩:=f;exact ⟨b,vs,N.trans K,G.trans J,F.trans E,by rw [hF b (by simp [J])];exact B,AVRs.move I hU hv p ho⟩
   |map kk vk kv=>
    rw [hok]at f;obtain ⟨b,es,c,K,J,E,B,I⟩:=f;exact ⟨b,es,c,N.trans K,G.trans J,F.trans E,by rw [hF b (by simp [J])];exact B,I⟩
   |row e m xs d=>
    rw [hok]at f;obtain ⟨hm,cs,L,K,J,B⟩:=f;have l:=J.lt;have hL:∀b∈L,w'.heap[b]?=w.heap[b]?:=fun b C=>by
     rcases B with ⟨_,_,B⟩|⟨_,_,_,B⟩|⟨_,_,_,B⟩
     .exact hF b (by simp [B,C])
     .exact p b (l b C) (B b C)
     .exact p b (l b C) (B b (by simp [C]))
    have A:∀b∈(g.val k).ownBlock.toList,w'.heap[b]?=w.heap[b]?:=fun b C=>by
     rcases B with ⟨_,E,_⟩|⟨_,E,_⟩|⟨_,_,_,B⟩
     .exact hF b (by simp [E,C])
     .exact hF b (by simp [E,C])
     .exact p b (Zj2 K b C) (B b (by simp [C]))
    refine ⟨hm,cs,L,by rw [N];exact YG K A,J.keep hL,?_⟩;rw [N,G,F];have u:∀b,b<w.heap.size->¬g.own b->¬g'.own b:=fun b hb V o=>by
     rcases ho.own b o with o|o
     .exact V o
     .omega
    rcases B with B|⟨hd,E,B,I⟩|⟨hd,E,B,I⟩
    .exact .inl B
    .exact .inr (.inl ⟨hd,E,B,fun b C=>u b (l b C) (I b C)⟩)
    .refine .inr (.inr ⟨hd,E,B,fun b C=>?_⟩);rcases AC.1 C with S|S
     .exact u b (Zj2 K b S) (I b C)
     .exact u b (l b S) (I b C)
 .by_cases a:T k
  .exact (M k a).2.1
  .obtain ⟨P,N,G,F⟩:=H k a;rw [G,F];exact h.nodup k
 .by_cases a:T k
  .exact (M k a).2.2.2 j q b m
  .by_cases z:T j
   .exact fun R=>(M j z).2.2.2 k (fun e=>q e.symm) b R m
   .obtain ⟨_,_,G,F⟩:=H k a;obtain ⟨_,_,f3,f4⟩:=H j z;rw [G,F]at m;rw [f3,f4];exact h.apart k j q b m
 .by_cases a:T k
  .exact (M k a).2.2.1 b m
  .obtain ⟨_,_,G,F⟩:=H k a;rw [G,F]at m;obtain ⟨p1,p2⟩:=h.plain k b m;obtain ⟨P,_⟩:=H k a;exact ⟨p1,by rw [P];exact p2.keep (i k a b m)⟩
end
structure Inv [NW] (W:Zbb) (U:Nat->Prop) (st:St) (a:Act) (w:World):Prop where
 ex:∃g,HI W g st.ob w/\∀t,SVR g w (st.sl t) (a.tmps.getD t undef)
 wf:StU U st
 defers:a.defers=[]
 hand:∀v,W.hv=some v->a.tmps.getD 0 undef=v
end
section
open Go.RowKit
def Zbk:AV->Value->Bool
 |.c (.int k n),.int k' n'=>k==k'&&n==n'
 |.c (.bool b),.bool b'=>b==b'
 |.c (.str s),.string s'=>s.data.toList==s'.data.toList&&ZB s
 |.nil _ m,.slice none 0 0=>Nat.blt 0 m
 |_,_=>false
def Zjv:TypeDesc->AV->Bool
 |.int k,.c (.int k' _)=>k==k'
 |.bool,.c (.bool _)=>true
 |.string,.c (.str _)=>true
 |_,_=>false
def ZuU:TypeDesc->Bool
 |.struct _=>true
 |.array _ _=>true
 |_=>false
def ZeU:PK->TypeDesc->Bool
 |.int k,.int k'=>k==k'
 |.str,.string=>true
 |.bool,.bool=>true
 |_,_=>false
def EqF (P:Program):List PK->List Field->Nat->Prop
 | [],[],_=>True
 | k :: ks, f :: fs, n => f.name ≠ "_" ∧ f.offset = n ∧ (∃ d, P.underlying f.type = some d ∧ ZeU k d = true) ∧ EqF P ks fs (n + 1)
 |_,_,_=>False
def TOk (P:Program) (t:TypeId):TI->Prop
 |.atom z=>∃d zv i,P.underlying t=some d/\Zjv d z=true/\P.info? t=some i/\i.zero=some zv/\i.size=1/\Zbk z zv=true
 |.strct fs n z=>∃(fields:Array Field) (i:TypeInfo) (zvs:Array Value),P.underlying t=some (.struct fields)/\P.info? t=some i/\i.size=n/\i.zero=some (.agg zvs)/\ZW (fun a v=>Zbk a v=true) z zvs.toList/\
   ZW (fun (fi:FI) (f:Field)=>f.offset=fi.off/\fi.size≠0/\∃j d,P.info? f.type=some j/\j.size=fi.size/\P.underlying f.type=some d/\ZuU d=fi.agg) fs fields.toList
 |.slice e m bytes z=>P.underlying t=some (.slice e)/\0<m/\bytes<=131072/\(∃(i:TypeInfo) (zv:Value),P.info? e=some i/\i.size=m/\i.bytes=bytes/\i.zero=some zv/\ZW (fun a v=>Zbk a v=true) z zv.cells.toList/\z.length=m)/\
   ∃j:TypeInfo,P.info? t=some j/\j.size=1/\j.zero=some (.slice none 0 0)
 |.ifc=>∃ms,P.underlying t=some (.interface ms)
 |.map kk vk=>∃kt et dk dv i zv,P.underlying t=some (.map kt et)/\P.underlying kt=some dk/\ZeU kk dk=true/\P.underlying et=some dv/\ZeU vk dv=true/\P.info? et=some i/\i.zero=some zv/\Zbk (ZfL vk) zv=true
 |.eqs ks=>∃u,t=u+4000/\P.underlying u=some (.struct (P.fieldsOf u))/\P.stoodInHeld u=false/\P.eqGuardType P.depth u=false/\EqF P ks (P.fieldsOf u).toList 0
section
variable {P:Program} {w:World} {t:TypeId}
theorem ZvA {i:TypeInfo}(h:P.info? t=some i):(typeInfo t).run P w=.ok i w:=by simp [typeInfo,program,Sem.run,h]
theorem YQ {d:TypeDesc}(h:P.underlying t=some d):(underlying t).run P w=.ok d w:=by simp [underlying,program,Sem.run,h]
theorem Qc [NW] {i:TypeInfo}(h:P.info? t=some i):(sizeOf t).run P w=.ok i.size w:=by simp [sizeOf,ZvA h]
theorem ZkF [NW] {i:TypeInfo}{z:Value}(h:P.info? t=some i) (A:i.zero=some z):(zeroValue t).run P w=.ok z w:=by simp [zeroValue,ZvA h,A]
theorem ZiS [NW] {d:TypeDesc}(h:P.underlying t=some d):(isAgg t).run P w=.ok (ZuU d) w:=by
 simp only[isAgg,Sem.run_bind,YQ h,Result.andThen_ok];cases d<;>rfl
theorem ZA0 {d:TypeDesc}{z:AV}(h:Zjv d z=true):ZuU d=false:=by
 unfold Zjv at h;split at h<;>first|rfl|simp at h
end
section
variable {g:Gh} {w:World}
theorem ZtR {s:ByteArray}(h:ZB s=true):s.size<=9223372036854775807:=by
 unfold ZB at h;have:=Nat.le_of_ble_eq_true h;rw [Array.length_toList]at this;exact this
theorem Zgc [NW] {x:AV}{v:Value}(h:Zbk x v=true):AVR g w x v:=by
 unfold Zbk at h;split at h
 .simp only[AB,beq_iff_eq]at h;exact ⟨[],⟨by rw [h.1,h.2],rfl⟩,yG⟩
 .simp only[beq_iff_eq]at h;exact ⟨[],⟨by rw [h],rfl⟩,yG⟩
 .rename_i s s';simp only[AB,beq_iff_eq]at h;have e:s=s':=by
   cases s;cases s';simpa using h.1
  exact ⟨[],⟨by rw [e],rfl,ZtR h.2⟩,yG⟩
 .rfl
 .simp at h
theorem AVR.one [NW] {x:AV}{v:Value}(h:AVR g w x v):v.oneCell'=true:=by
 cases x with
 |c x=>obtain ⟨L,B,_⟩:=h;exact B.one
 |n x=>
  obtain ⟨e,m,xs,cs,L,B,E,D,_⟩:=h;obtain ⟨A,c,C,_⟩:=YH D;simp [C,Value.oneCell']
 |row k=>exact h.2
 |nil e m=>simp [AVR]at h;simp [h,Value.oneCell']
 |dead=>exact h
theorem Zqm {v:Value}(h:v.oneCell'=true):v.cells=#[v]:=by
 cases v<;>simp [Value.oneCell']at h<;>rfl
theorem PVR.cells [NW] {a:Bool}{cs:List AV}{v:Value}(h:PVR g w a cs v):∃vs:List Value,v.cells=vs.toArray/\ZW (AVR g w) cs vs:=by
 cases a with
 |true=>obtain ⟨vs,rfl,A⟩:=h;exact ⟨vs,rfl,A⟩
 |false=>obtain ⟨x,rfl,A⟩:=h;exact ⟨[v],by rw [Zqm A.one],⟨A,trivial⟩⟩
theorem AVRs.one [NW] {cs:List AV}{vs:List Value}(h:ZW (AVR g w) cs vs):∀u∈vs,u.oneCell'=true:=by
 induction vs generalizing cs with
 |nil=>simp
 |cons v r ih=>
  cases cs with
  |nil=>exact h.elim
  |cons c cs=>
   intro u m;rcases AW.1 m with rfl|m
   .exact h.1.one
   .exact ih h.2 u m
end
theorem Zxx (x y:ByteArray):(x.toList==y.toList)=decide (x=y):=by
 rw [Bool.eq_iff_iff];simp only[beq_iff_eq,decide_eq_true_eq];constructor
 .intro h;have A:x.data.toList=y.data.toList:=by rw [<-BS,<-BS];exact h
  cases x;cases y;simpa using A
 .rintro rfl;rfl
end
section
open Go.RowKit
def Uk (U:Nat->Prop) (key:Nat):Nat->Prop:=fun k=>U k\/(key<=k/\k<key+16)
theorem avU.mono {U U':Nat->Prop}(h:∀k,U k->U' k) {x:AV}(A:avU U x):avU U' x:=by cases x<;>first|exact h _ A|trivial
theorem Zag.mono [NW] {U U':Nat->Prop}(h:∀k,U k->U' k) {x:List AV}(A:Zag U x):Zag U' x:=fun y m=>(A y m).mono h
theorem svU.mono [NW] {U U':Nat->Prop}(h:∀k,U k->U' k) {x:SV}(A:svU U x):svU U' x:=by
 cases x<;>first|exact Zag.mono h A|exact fun y m=>Zag.mono h (A y m)|exact h _ A|trivial
theorem obU.mono [NW] {U U':Nat->Prop}(h:∀k,U k->U' k) {x:Ob}(A:obU U x):obU U' x:=by
 cases x<;>first|exact Zag.mono h A|trivial
def Fin [NW] (P:Program) (W:Zbb) (U:Nat->Prop) (key:Nat) (st:St) (g:Gh) (w:World) (s:Sem Next) (r:SV×List (Nat×Ob)):Prop:=
 ∃g' cv w',(s.run P w=.ok (.value cv) w'\/(s.run P w=.ok .skip w'/\cv=undef))/\HI W g' (Zv st.ob r.2) w'/\SVR g' w' r.1 cv/\(∀x v,svU U x->SVR g w x v->SVR g' w' x v)/\ svU (Uk U key) r.1/\(∀k,obU (Uk U key) (Zv st.ob r.2 k))/\∀k,¬Uk U key k->Zv st.ob r.2 k=.gone
section
variable {P:Program} {W:Zbb} {U:Nat->Prop} {key:Nat} {st:St} {g:Gh} {w:World} {a:Act} {tt:Nat->Option TI}
theorem Zbw [NW] {s:Sem Next}{v:SV}{cv:Value}(E:HI W g st.ob w) (A:StU U st) (a:s.run P w=.ok (.value cv) w) (B:SVR g w v cv) (C:svU U v):Fin P W U key st g w s (v,[]):=
 ⟨g,cv,w,.inl a,E,B,fun _ _ _ h=>h,C.mono fun _=>.inl,fun k=>(A.ob k).mono fun _=>.inl,fun k D=>A.gone k fun h=>D (.inl h)⟩
theorem X5 (x:CT):svU U (.p false [.c x]):=fun y m=>by simp at m;subst m;trivial
theorem Zck [NW] (k:IntKind) (n:Int):SVR g w (.p false [.c (.int k n)]) (.int k n):=⟨_,rfl,[],⟨rfl,rfl⟩,yG⟩
theorem Zbp [NW] (b:Bool):SVR g w (.p false [.c (.bool b)]) (.bool b):=⟨_,rfl,[],⟨rfl,rfl⟩,yG⟩
theorem Zni [NW] {s:ByteArray}(h:s.size<=9223372036854775807):SVR g w (.p false [.c (.str s)]) (.string s):=⟨_,rfl,[],⟨rfl,rfl,h⟩,yG⟩
theorem Zcz [NW] {k:IntKind}{n:Int}{v:Value}(h:SVR g w (.p false [.c (.int k n)]) v):v=.int k n:=by
 obtain ⟨x,A,h⟩:=h;simp at A;subst A;obtain ⟨L,B,_⟩:=h;exact B.1
theorem ZgL [NW] {b:Bool}{v:Value}(h:SVR g w (.p false [.c (.bool b)]) v):v=.bool b:=by
 obtain ⟨x,A,h⟩:=h;simp at A;subst A;obtain ⟨L,B,_⟩:=h;exact B.1
theorem Zj0 [NW] {s:ByteArray}{v:Value}(h:SVR g w (.p false [.c (.str s)]) v):v=.string s/\s.size<=9223372036854775807:=by
 obtain ⟨x,A,h⟩:=h;simp at A;subst A;obtain ⟨L,B,_⟩:=h;exact ⟨B.1,B.2.2⟩
theorem ZIu [NW] {t:Nat}(A:∀t i,tt t=some i->TOk P t i) (v:Value):SVR g w (cvT (tt t) v) v/\svU U (cvT (tt t) v):=by
 unfold cvT;split
 .exact ⟨Zck _ _,X5 _⟩
 .exact ⟨Zbp _,X5 _⟩
 .split
  .rename_i h;exact ⟨Zni (ZtR h),X5 _⟩
  .exact ⟨trivial,trivial⟩
 .split
  .exact ⟨⟨_,rfl,rfl⟩,fun y m=>by simp at m;subst m;trivial⟩
  .exact ⟨trivial,trivial⟩
 .exact ⟨trivial,trivial⟩
theorem ZmP [NW] (A:∀t i,tt t=some i->TOk P t i) (C:∀t,SVR g w (st.sl t) (a.tmps.getD t undef)) (B:StU U st) (t:Nat) (x:Operand):
  SVR g w (st.ev tt t x) (a.eval x)/\svU U (st.ev tt t x):=by
 cases x with
 |tmp s=>exact ⟨C s,B.sl s⟩
 |const v=>exact ZIu A v
 |global _=>exact ⟨trivial,trivial⟩
 |func f=>exact ⟨rfl,trivial⟩
theorem ZBF [NW] {A:BinOp}{t:Nat}{ox oy:Operand}{k C:IntKind}{n n':Int}{z:CT}(D:k=C\/A=.shl\/A=.shr) (B:ZB3 A k n n'=some z):
  ∃cv,(do eqGuard A t ox oy (.int k n) (.int C n');binOp A t (.int k n) (.int C n'):Sem Value).run P w=.ok cv w/\SVR g w (.p false [.c z]) cv:=by
 have E:(eqGuard A t ox oy (.int k n) (.int C n')).run P w=.ok () w:=by
  cases A<;>rfl
 simp only[Sem.run_bind,E,Result.andThen_ok];cases A<;>simp only[ZB3,ZDu,ZoB,orI,ZCs,Zxl,ZGQ,Zzc,Option.map_none,As,AJ,reduceCtorEq]at B<;>(try subst B)<;>
  (try (split at B<;>simp only[AJ,reduceCtorEq]at B;subst B))<;>
  simp only[reduceCtorEq,or_false,or_true]at D<;>(try subst D)<;>
  first
   |(refine ⟨_,?_,Zck _ _⟩;simp [binOp,Op.intArith,Op.intDiv,Op.intBits,Op.shift, *];done)
   |(refine ⟨_,?_,Zbp _⟩;simp [binOp,Op.intCmp];done)
set_option maxHeartbeats 1000000 in
theorem ZCh [NW] {A : BinOp} {t : Nat} {ox oy : Operand} {s s' : ByteArray} {z : CT} (B : ZBQ A s s' = some z) :
    ∃ cv, (do eqGuard A t ox oy (.string s) (.string s'); binOp A t (.string s) (.string s') : Sem Value).run P w = .ok cv w ∧ SVR g w (.p false [.c z]) cv := by
  have E : (eqGuard A t ox oy (.string s) (.string s')).run P w = .ok () w := by
    cases A <;> rfl
  simp only[Sem.run_bind, E, Result.andThen_ok];cases A <;> simp only[ZBQ, AJ, reduceCtorEq] at B <;> (try subst B) <;>
    first
      | (refine ⟨_, ?_, Zbp _⟩; simp only[binOp, Op.stringOp, sLt, sEq, ← Zxx]; rfl)
      | (split at B
         · rename_i D
           simp only[AJ] at B;subst B;refine ⟨_, ?_, Zni (by rw [ByteArray.size_append]; exact D)⟩;have C : ¬ ((s.size + s'.size : Nat) : Int) > IntKind.i64.max := by
             have : IntKind.i64.max = 9223372036854775807 := by decide
             omega
           simp only[binOp, Op.stringOp, C, if_false];rfl
         · simp at B)
theorem ZtK [NW] {B:BinOp}{t:Nat}{ox oy:Operand}{b A:Bool}{r:Bool}(D:P.underlying t=some .bool) (a:(B=.eql/\r=(b==A))\/(B=.neq/\r=!(b==A))):
  (do eqGuard B t ox oy (.bool b) (.bool A);binOp B t (.bool b) (.bool A):Sem Value).run P w=.ok (.bool r) w:=by
 have E:(eqGuard B t ox oy (.bool b) (.bool A)).run P w=.ok () w:=by
  cases B<;>rfl
 have C:(Op.equal t (.bool b) (.bool A)).run P w=.ok (b==A) w:=by
  have key:∀d:Nat,(Op.equalIn (d+1) t (.bool b) (.bool A)).run P w=.ok (b==A) w:=fun d=>by
   rw [Op.equalIn];simp only[Sem.run_bind,YQ D,Result.andThen_ok,Sem.run_pure]
  exact key 9999
 simp only[Sem.run_bind,E,Result.andThen_ok];rcases a with ⟨rfl,rfl⟩|⟨rfl,rfl⟩
 .simp only[binOp,Sem.run_bind,C,Result.andThen_ok,Sem.run_pure]
 .simp only[binOp,Sem.run_bind,C,Result.andThen_ok,Sem.run_pure]
theorem ZEg [NW] (C:∀t i,tt t=some i->TOk P t i) {F:BinOp}{t:Nat}{ox oy:Operand}{x y v:SV}{E D:Value}(h:ZBZ (tt t) F x y=some v) (I:SVR g w x E) (H:SVR g w y D):
  ∃cv,(do eqGuard F t ox oy E D;binOp F t E D:Sem Value).run P w=.ok cv w/\SVR g w v cv/\svU U v:=by
 unfold ZBZ at h;split at h
 .have ex:=Zcz I;have ey:=Zcz H;subst ex ey;split at h
  .rename_i L;obtain ⟨z,G,rfl⟩:=AN.1 h;obtain ⟨cv,B,A⟩:=ZBF (P:=P) (g:=g) (w:=w) (t:=t) (ox:=ox) (oy:=oy) L G;exact ⟨cv,B,A,X5 _⟩
  .simp at h
 .obtain ⟨ex,N⟩:=Zj0 I;obtain ⟨ey,M⟩:=Zj0 H;subst ex ey;obtain ⟨z,G,rfl⟩:=AN.1 h;obtain ⟨cv,B,A⟩:=ZCh (P:=P) (g:=g) (w:=w) (t:=t) (ox:=ox) (oy:=oy) G;exact ⟨cv,B,A,X5 _⟩
 .have ex:=ZgL I;have ey:=ZgL H;subst ex ey;split at h
  .rename_i a;simp only[AJ]at h;subst h;obtain ⟨d,K,i,B,A,_⟩:=C t _ a;have J:d=.bool:=by cases d<;>simp [Zjv]at A;rfl
   subst J;exact ⟨_,ZtK B (.inl ⟨rfl,rfl⟩),Zbp _,X5 _⟩
  .rename_i a;simp only[AJ]at h;subst h;obtain ⟨d,K,i,B,A,_⟩:=C t _ a;have J:d=.bool:=by cases d<;>simp [Zjv]at A;rfl
   subst J;exact ⟨_,ZtK B (.inr ⟨rfl,rfl⟩),Zbp _,X5 _⟩
  .simp at h
 .simp at h
theorem Zq8 {k:PK}{d:TypeDesc}(h:ZeU k d=true):ZuU d=false:=by
 unfold ZeU at h;split at h<;>first|rfl|simp at h
theorem ZGI [NW] {k:PK}{x y:AV}{H G:Value}{b:Bool}{t:Nat}{d:TypeDesc}(h:eqC k x y=some b) (F:P.underlying t=some d) (E:ZeU k d=true) (D:AVR g w x H) (C:AVR g w y G) (n:Nat):(Op.equalIn (n+1) t H G).run P w=.ok b w:=by
 unfold eqC at h;split at h
 .split at h<;>simp only[AJ,reduceCtorEq]at h
  rename_i I;subst I h;obtain ⟨_,B,_⟩:=D;obtain ⟨_,A,_⟩:=C;have e1:=B.1;have e2:=A.1;subst e1 e2;cases d<;>simp [ZeU]at E
  exact run_equalIn_int w n t _ _ _ _ F
 .simp only[AJ]at h;subst h;obtain ⟨_,B,_⟩:=D;obtain ⟨_,A,_⟩:=C;have e1:=B.1;have e2:=A.1;subst e1 e2;cases d<;>simp [ZeU]at E
  rw [run_equalIn_string w n t _ _ F,sEq,Zxx]
 .simp only[AJ]at h;subst h;obtain ⟨_,B,_⟩:=D;obtain ⟨_,A,_⟩:=C;have e1:=B.1;have e2:=A.1;subst e1 e2;cases d<;>simp [ZeU]at E
  exact run_equalIn_bool' w n t _ _ F
 .simp at h
theorem ZwX [NW] (n:Nat) {X Y:Array Value}:∀{ks:List PK}{B:List Field}{o:Nat}{xs A:List AV}{D C:List Value}{b:Bool},ZpZ ks xs A=some b->EqF P ks B o->ZW (AVR g w) xs D->ZW (AVR g w) A C->(∀j v,D[j]?=some v->X[o+j]?=some v)->(∀j v,C[j]?=some v->Y[o+j]?=some v)->(Op.eqFields (n+1) X Y B).run P w=.ok b w
 | [],[],_,[],[],_,_,b,h,_,_,_,_,_=>by simp [ZpZ]at h;subst h;simp [Op.eqFields]
 |k::ks,f::B,o,x::xs,y::A,[],_,_,_,_,hx,_,_,_=>hx.elim
 |k::ks,f::B,o,x::xs,y::A,_::_,[],_,_,_,_,hy,_,_=>hy.elim
 |k::ks,f::B,o,x::xs,y::A,u::D,v::C,b,h,hf,hx,hy,hX,hY=>by
  simp only[ZpZ]at h;obtain ⟨O,L,h⟩:=AQ.1 h;obtain ⟨R,K,rfl⟩:=AN.1 h;obtain ⟨N,H,⟨d,G,F⟩,M⟩:=hf;have e1:=ZGI L G F hx.1 hy.1 n;have e2:=ZwX n K M hx.2 hy.2 (fun j v E=>by have:=hX (j+1) v (by simpa using E);rwa [show o+(j+1)=o+1+j by omega]at this) (fun j v E=>by have:=hY (j+1) v (by simpa using E);rwa [show o+(j+1)=o+1+j by omega]at this)
  have J:(part f.type X f.offset).run P w=.ok u w:=by
   have:=hX 0 u yG;simp only[part,Sem.run_bind,ZiS G,Zq8 F,Result.andThen_ok];rw [H];simp at this;simp [this]
  have I:(part f.type Y f.offset).run P w=.ok v w:=by
   have:=hY 0 v yG;simp only[part,Sem.run_bind,ZiS G,Zq8 F,Result.andThen_ok];rw [H];simp at this;simp [this]
  simp only[Op.eqFields,N,ne_eq,not_false_eq_true,if_true,Sem.run_bind,J,I,e1,Result.andThen_ok];cases O
  .simp
  .simpa using e2
 | [],_::_,_,_,_,_,_,_,_,hf,_,_,_,_=>hf.elim
 |_::_,[],_,_,_,_,_,_,_,hf,_,_,_,_=>hf.elim
 | [],[],_,_::_,_,_,_,_,h,_,_,_,_,_=>by simp [ZpZ]at h
 | [],[],_,[],_::_,_,_,_,h,_,_,_,_,_=>by simp [ZpZ]at h
 |_::_,_::_,_,[],_,_,_,_,h,_,_,_,_,_=>by simp [ZpZ]at h
 |_::_,_::_,_,_::_,[],_,_,_,h,_,_,_,_,_=>by simp [ZpZ]at h
theorem ZuM {A:BinOp}{b:Bool}{v:SV}(h:Ztd A b=some v):(A=.eql/\v=.p false [.c (.bool b)])\/(A=.neq/\v=.p false [.c (.bool (!b))]):=by
 unfold Ztd at h;split at h<;>simp only[AJ,reduceCtorEq]at h<;>subst h
 .exact .inl ⟨rfl,rfl⟩
 .exact .inr ⟨rfl,rfl⟩
theorem ZGi [NW] (D:∀t i,tt t=some i->TOk P t i) {A:BinOp}{t:Nat}{ox oy:Operand}{x y v:SV}{C B:Value}(h:ZBV (tt (t+4000)) A x y=some v) (J:SVR g w x C) (I:SVR g w y B):
  ∃cv,(do eqGuard A t ox oy C B;binOp A t C B:Sem Value).run P w=.ok cv w/\SVR g w v cv/\svU U v:=by
 unfold ZBV at h;split at h
 .obtain ⟨ks,a,N⟩:=AQ.1 h;obtain ⟨b,K,d⟩:=AQ.1 N;have c:tt (t+4000)=some (.eqs ks):=by
   unfold ZA2 at a;split at a<;>simp only[AJ,reduceCtorEq]at a
   rename_i c;rw [c,a]
  obtain ⟨u,e,H,G,M,L⟩:=D _ _ c;have e:t=u:=Nat.add_right_cancel e;subst e;obtain ⟨F,rfl,f⟩:=J;obtain ⟨vs,rfl,k⟩:=I;have hq:=ZwX (X:=F.toArray) (Y:=vs.toArray) 9998 K L f k (fun j v E=>by simpa using E) (fun j v E=>by simpa using E);have hg:=run_eqGuard_agg (P:=P) w A t ox oy F.toArray vs.toArray M;rcases ZuM d with ⟨rfl,rfl⟩|⟨rfl,rfl⟩
  .refine ⟨_,?_,Zbp b,X5 _⟩;simp only[Sem.run_bind,hg,Result.andThen_ok,run_eql_struct,run_equalIn_struct w 9999 t _ _ H G,hq]
  .refine ⟨_,?_,Zbp (!b),X5 _⟩;simp only[Sem.run_bind,hg,Result.andThen_ok,run_neq_struct,run_equalIn_struct w 9999 t _ _ H G,hq]
 .simp at h
theorem ZFB [NW] {b:Bool}{v:Value}(h:SVR g w (.p false [.c (.ifc b)]) v):(b=true/\v=.nilIface)\/(b=false/\∃t x,v=.iface t x):=by
 obtain ⟨x,A,h⟩:=h;simp at A;subst A;obtain ⟨L,B,_⟩:=h;have h2:=B.2.2;cases b with
 |true=>exact .inl ⟨rfl,h2⟩
 |false=>exact .inr ⟨rfl,h2⟩
theorem ZBR [NW] (A:∀t i,tt t=some i->TOk P t i) {B:BinOp}{t:Nat}{ox oy:Operand}{x y v:SV}{C:Value}(h:ZzV tt t (ZlU oy) B x y=some v) (F:SVR g w x C) (G:SVR g w y (a.eval oy)):
  ∃cv,(do eqGuard B t ox oy C (a.eval oy);binOp B t C (a.eval oy):Sem Value).run P w=.ok cv w/\SVR g w v cv/\svU U v:=by
 unfold ZzV at h;split at h
 .rename_i H;have K:oy=.const .nilIface:=by
   cases oy with
   |const c=>cases c<;>first|rfl|(simp [ZlU,ZvS]at H;done)
   |_=>simp [ZlU]at H
  subst K;split at h
  rotate_left
  .simp at h
  rename_i d;have j:tt t=some .ifc:=by
   unfold ZBB at d;split at d
   .assumption
   .simp at d
  obtain ⟨M,e⟩:=A _ _ j;unfold ZFe at h;split at h
  .rename_i b;have hb:=ZFB F;have k:a.eval (.const .nilIface)=.nilIface:=rfl;rw [k];have L:∀v:Value,(v=.nilIface\/∃t x,v=.iface t x)->(eqGuard B t ox (.const .nilIface) v .nilIface).run P w=.ok () w:=fun v J=>by
    rcases J with rfl|⟨E,D,rfl⟩
    .simp only[eqGuard];cases ox<;>cases B<;>rfl
    .simp only[eqGuard];cases B<;>rfl
   have I:(Op.equal t C .nilIface).run P w=.ok b w:=by
    show (Op.equalIn (9999+1) t _ _).run P w=_
    rw [Op.equalIn];rcases hb with ⟨rfl,rfl⟩|⟨rfl,E,D,rfl⟩
    .simp only[Sem.run_bind,YQ e,Result.andThen_ok,Sem.run_pure]
    .simp only[Sem.run_bind,YQ e,Result.andThen_ok,Sem.run_pure]
   have f:=L C (hb.imp (fun h=>h.2) (fun h=>h.2));rcases ZuM h with ⟨rfl,rfl⟩|⟨rfl,rfl⟩
   .refine ⟨_,?_,Zbp b,X5 _⟩;simp only[Sem.run_bind,f,Result.andThen_ok];rcases hb with ⟨rfl,rfl⟩|⟨rfl,E,D,rfl⟩<;>simp only[binOp,Sem.run_bind,I,Result.andThen_ok,Sem.run_pure]
   .refine ⟨_,?_,Zbp (!b),X5 _⟩;simp only[Sem.run_bind,f,Result.andThen_ok];rcases hb with ⟨rfl,rfl⟩|⟨rfl,E,D,rfl⟩<;>simp only[binOp,Sem.run_bind,I,Result.andThen_ok,Sem.run_pure]
  .simp at h
 .split at h
  .exact ZGi A h F G
  .exact ZEg A h F G
theorem ZID [NW] {B:UnOp}{x v:SV}{A:Value}(h:unV B x=some v) (C:SVR g w x A):∃cv,(Op.unary B A).run P w=.ok cv w/\SVR g w v cv/\svU U v:=by
 unfold unV at h;split at h
 .have ex:=ZgL C;subst ex;split at h<;>simp at h
  subst h;exact ⟨_,by simp [Op.unary],Zbp _,X5 _⟩
 .have ex:=Zcz C;subst ex;split at h<;>simp at h
  subst h;exact ⟨_,by simp [Op.unary,Op.intArith],Zck _ _,X5 _⟩
 .simp at h
end
end
end
end Go.Proofs.YtnacpkmpdlodoaaGreatDoor
