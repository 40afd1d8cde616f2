/- Parts of this proof, joined; what they hold is said at the theorems. -/
import Derived.Test.YtnacpkmpdlodoaaGreatDoorTrimmedQ1
import Derived.Test.YtnacpkmpdlodoaaGreatDoorTrimmedQ3
import Derived.Test.YtnacpkmpdlodoaaGreatDoorTrimmedQ2
open Bool renaming and_eq_true→AB,false_eq_true→BO
open ByteArray renaming size_extract→Az
open Int renaming toNat→AA,toNat_natCast→AC,tmod_nonneg→Ba,tmod_lt_of_pos→Bb
open List renaming getElem?_eq_getElem→A9,getElem?_eq_some_iff→AD,mem_flatMap→AH,mem_append→AI,mem_of_getElem?→AJ,getElem_mem→AN,length_append→AP,replicate→AQ,mem_map→AS,length_cons→AT,mem_filterMap→AU,getElem?_eq_none→AW,eq_nil_of_length_eq_zero→AX,dropLast_concat_getLast→AY,pairwise_iff_getElem→AZ,getElem?_cons_succ→Aa,getElem?_cons_zero→Ab,length_take→Ac,length_set→Ae,mem_cons→Ah,mem_filter→Am,all_eq_true→An,drop_zero→Ap,foldl_cons→Aq,getElem?_append_left→As,getElem?_append_right→Aw,take_append_of_le_length→Ax,mem_iff_getElem?→Ay,mem_of_mem_drop→B3,getElem?_set→B4,map_cons→B5,range'→B9,append_assoc→BA,take_length→BB,length_nil→BC,drop→BE,take→BF,length_map→BG,set→BH,mem_of_mem_take→BJ,getElem?_set_ne→BK,length_singleton→BL,append_of_mem→BP,append_nil→BR,singleton_append→BS,getElem?_map→BT,nil_append→BU,any_eq_true→BV,map_flatMap→BX,map_map→BY,take_append_drop→Bc,getElem?_set_self→Be,getElem?_replicate→Bf,take_add_one→Bg,map_congr_left→Bi
open List.cons renaming inj→BI
open Nat renaming le_refl→AE,zero_add→AK,lt_or_ge→Ad,lt_trichotomy→Aj,add_zero→BD,and_le_right→BZ
open Option renaming bind_some→A0,map_eq_some_iff→AM,bind_eq_some_iff→Ak,map_some→BM,getD_some→Bh
open Option.some renaming inj→AL,injEq→BN
open UInt8 renaming ofNat→Bd
set_option linter.unusedSimpArgs false
set_option linter.unusedVariables false
set_option maxRecDepth 1000000
set_option maxHeartbeats 4000000
namespace Go.Proofs.YtnacpkmpdlodoaaGreatDoor
open Go.IntKind
noncomputable section
theorem yO{p:Prop}(h:p:=by kernel_rfl):p:=h
theorem yP{α:Type}{a:Option α}{b c:α}(h:a=some b)(e:b=c:=by kernel_rfl):a=some c:=h.trans (congrArg some e)
section
open Classical
def ZaO{α:Type}(p:α->Bool):List α->Nat->Int
 | [],_=>-1
 |x::l,i=>if p x=true then (i:Int) else ZaO p l (i+1)
theorem ZiN{α:Type}{p:α->Bool}:∀{l:List α}{i:Nat},0<=ZaO p l i->∃j x,ZaO p l i=((i+j:Nat):Int)/\l[j]?=some x/\p x=true
 | [],_,h=>by simp [ZaO]at h
 |x::l,i,h=>by
  by_cases A:p x=true
  .exact ⟨0,x,by simp [ZaO,A],rfl,A⟩
  .rw [ZaO,yn A]at h ⊢;obtain ⟨j,y,D,C,B⟩:=ZiN h;exact ⟨j+1,y,by rw [D];omega,by simpa using C,B⟩
theorem ZfC{α σ:Type}{p:α->Bool}{s:σ}{body:Nat->α->σ->Option (σ ⊕ Int)}{fin:σ->Option Int}(B:fin s=some (-1)):∀{l:List α}{i:Nat},(∀i x,x∈l->body i x s=some (bif p x then .inr (i:Int) else .inl s))->forL body fin l i s=some (ZaO p l i)
 | [],_,_=>by rw [Zlm,B];rfl
 |x::l,i,h=>by
  have hx:=h i x yG;by_cases A:p x=true
  .rw [A]at hx;rw [Z5 hx,ZaO,yp A]
  .rw [Bool.not_eq_true]at A;rw [A]at hx;rw [ZO hx,ZaO,yn (by simp [A])];exact ZfC B (fun i y C=>h i y (by simp [C]))
theorem ZvO{n:Nat}{row:List Int}(h:row.length=n){y:Int}(A:0<=y)(B:y.toNat<n):atI row y=some (rdN row y):=by
 obtain ⟨v,hv⟩:∃v,row[y.toNat]?=some v:=⟨_,A9 yE⟩
 unfold atI rdN;rw [yp A,hv];rfl
theorem Zy0{ρ:Type}{n k:Nat}{row:List Int}(h:row.length=n){l:List Int}(F:∀y∈l,0<=y/\y.toNat<n){fin:Unit->Option ρ}{z:ρ}{body:Nat->Int->Unit->Option (Unit ⊕ ρ)}
  (G:∀i y u,body i y u=(atI row y).bind fun x=>if decide (x<0)=true then some (.inr z) else if decide ((k:Int)<=x)=true then some (.inr z) else some (.inl ())):forL body fin l 0 ()=if l.all (Zjl row k)=true then fin () else some z:=by
 rw [Yb (p:=Zjl row k) (r:=z)];intro i y E;obtain ⟨D,C⟩:=F y E;rw [G,ZvO h D C,A0];unfold Zjl;by_cases B:rdN row y<0
 .rw [yp (decide_eq_true B),decide_eq_false yE];rfl
 .rw [yn (by simpa using B)];by_cases A:(k:Int)<=rdN row y
  .rw [yp (decide_eq_true A),decide_eq_false yE];rfl
  .rw [yn (by simpa using A),decide_eq_true yE];rfl
theorem ZyJ{ρ:Type}{n:Nat}{row:List Int}(h:row.length=n){l:List Int}(E:∀y∈l,0<=y/\y.toNat<n){fin:Unit->Option ρ}{z:ρ}{body:Nat->Int->Unit->Option (Unit ⊕ ρ)}
  (F:∀i y u,body i y u=(atI row y).bind fun x=>if decide (0<=x)=true then some (.inr z) else some (.inl ())):forL body fin l 0 ()=if l.all (Zjh row)=true then fin () else some z:=by
 rw [Yb (p:=Zjh row) (r:=z)];intro i y D;obtain ⟨C,B⟩:=E y D;rw [F,ZvO h C B,A0];unfold Zjh;by_cases A:0<=rdN row y
 .rw [yp (decide_eq_true A),decide_eq_false yE];rfl
 .rw [yn (by simpa using A),decide_eq_true yE];rfl
theorem ZrX{n k:Nat}{row:List Int}(h:row.length=n){l:List Int}(A:∀y∈l,0<=y/\y.toNat<n):Qm l row (k:Int)=some (l.all (Zjl row k)):=by
 unfold Qm;rw [Zy0 h A fun i y u=>rfl];cases l.all (Zjl row k)<;>rfl
theorem Zwk{n:Nat}{row:List Int}(h:row.length=n){l:List Int}(A:∀y∈l,0<=y/\y.toNat<n):Zbf l row=some (l.all (Zjh row)):=by
 unfold Zbf;rw [ZyJ h A fun i y u=>rfl];cases l.all (Zjh row)<;>rfl
def Zub(b:Zl)(s:Int):List Int:=((b.reasons[s.toNat]?).map (·.inn)).getD []
def ZBt(b:Zl)(s:Int):Int:=((b.reasons[s.toNat]?).map (·.for_)).getD 0
def ZBn(b:Zl)(x:Int)(r:Zh):Bool:=decide (r.for_=x/\Zin (rdB b) (rdN (rdB b) x).toNat r)
def ZbP(b:Zl)(x:Int):Int:=if 0<=x/\x<b.nodes/\0<=rdN (rdB b) x then ZaO (ZBn b x) b.reasons 0 else -1
theorem Zf9{b:Zl}{x:Int}(h:0<=ZbP b x):0<=x/\x<b.nodes/\0<=rdN (rdB b) x/\∃r,b.reasons[(ZbP b x).toNat]?=some r/\r.for_=x/\Zin (rdB b) (rdN (rdB b) x).toNat r:=by
 unfold ZbP at h ⊢;by_cases A:0<=x/\x<b.nodes/\0<=rdN (rdB b) x
 .rw [yp A]at h ⊢;obtain ⟨j,r,D,C,B⟩:=ZiN h;refine ⟨A.1,A.2.1,A.2.2,r,?_,of_decide_eq_true B⟩;rw [D];simpa using C
 .rw [yn A]at h;omega
theorem Zu6{b:Zl}{x:Int}(h:0<=ZbP b x):∀y∈Zub b (ZbP b x),(rdN (rdB b) y).toNat<(rdN (rdB b) x).toNat:=by
 obtain ⟨_,_,D,r,C,_,B⟩:=Zf9 h;intro y A;unfold Zub at A;rw [C]at A;have:=B.1 y (by simpa using A);omega
theorem Zx1{b:Zl}{x:Int}(h:0<=ZbP b x):ZBt b (ZbP b x)=x:=by
 obtain ⟨_,_,C,r,B,A,_⟩:=Zf9 h;unfold ZBt;rw [B];simpa using A
theorem Zvh{b:Zl}(h:Q4 b){r:Zh}(A:r∈b.reasons){x:Int}(B:0<=rdN (rdB b) x):Qm r.inn (rdB b) (rdN (rdB b) x)=some (r.inn.all (Zjl (rdB b) (rdN (rdB b) x).toNat)):=by
 have e:(((rdN (rdB b) x).toNat:Nat):Int)=rdN (rdB b) x:=by omega
 have:=ZrX (k:=(rdN (rdB b) x).toNat) h.rd (h.ok r A).2.1
 rwa [e]at this
theorem Zyl{b:Zl}(h:Q4 b){r:Zh}(A:r∈b.reasons):Zbf r.outs (rdB b)=some (r.outs.all (Zjh (rdB b))):=Zwk h.rd (h.ok r A).2.2
def ZlN(b:Zl)(n:Nat)(x:Int)(l:List Int):Option (List Int):=ZgZ (ZbP b) (Zub b) n x l
theorem Zkr(b:Zl)(n:Nat)(x:Int)(l:List Int)(h:(rdN (rdB b) x).toNat<n):
  ∃r,ZlN b n x l=some r/\Zdb (ZbP b) (Zub b) (fun y=>(rdN (rdB b) y).toNat) ((rdN (rdB b) x).toNat+1) l r/\(0<=ZbP b x->ZbP b x∈r)/\(0<=ZbP b x->ZbP b x∉l->∃t,r=t++[ZbP b x]):=
 Zlq (back:=ZBt b) (fun _ A=>Zu6 A) (fun _ A=>Zx1 A) n x l h
theorem ZyI{b:Zl}{r:List Int}(C:r.Nodup)(h:∀s∈r,∃y,s=ZbP b y/\0<=ZbP b y):r.length<=b.reasons.length:=by
 have hs:∀s∈r,s∈(List.range b.reasons.length).map (fun i=>((i:Nat):Int)):=fun s hs=>by
  obtain ⟨y,D,B⟩:=h s hs
  obtain ⟨_,_,_,q,A,_⟩:=Zf9 B
  rw [<-D]at A B
  exact AS.2 ⟨s.toNat,List.mem_range.2 (AD.1 A).1,yE⟩
 have:=ZgD C hs
 simpa using this
end
section
open Classical
theorem ZmR{ρ:Type}{l:List Int}(B:l.length<=1000){fin:List Bool->Option ρ}{body:Nat->Int->List Bool->Option (List Bool ⊕ ρ)}(A:∀i x s,body i x s=chk (s.length+1<=1073741824) (some (.inl (s++[decide (0<=x)])))):forL body fin l 0 []=fin (l.map fun x=>decide (0<=x)):=by
 rw [Zlo (g:=fun x=>decide (0<=x))]
 .rfl
 .intro j x s _ hs;simp at hs;rw [A,Zj _ yE]
theorem Zy7{b:Zl}(h:Q4 b):Zij b=some ((rdB b).map fun x=>decide (0<=x)):=by
 unfold Zij;have:=h.n1;rw [ZyN h,A0,ZmR (by rw [h.rd];omega) fun i x s=>rfl]
theorem ZuV{b:Zl}(h:Q4 b):ZeD b=some ((rdB b).map fun x=>decide (0<=x)):=by
 unfold ZeD;have:=h.n1;rw [ZhV h,A0,ZmR (by rw [h.rd];omega) fun i x s=>rfl]
theorem ZoC{ρ:Type}{fin:List Za->Option ρ}{body:Nat->Bool->List Za->Option (List Za ⊕ ρ)}{F:List Za}(D:∀f∈F,f.args.length<=1048576)(E:F.length<=1000)
  (C:∀i x s,body i x s=if x=true then (atI F (i:Int)).bind fun f=>(YZ f).bind fun g=>chk (s.length+1<=1073741824) (some (.inl (s++[g]))) else some (.inl s)):
  ∀(a:List Za) (l:List Int) (b acc:List Za),F=b++a->l.length=a.length->acc.length<=b.length->forL body fin (l.map fun x=>decide (0<=x)) b.length acc=fin (acc++XY a l)
 | [],[],b,acc,_,_,_=>by simp [forL,XY]
 | [],_::_,_,_,_,e,_=>by simp at e
 |_::_,[],_,_,_,e,_=>by simp at e
 |f::a,v::l,b,acc,e,el,ha=>by
  have B:F[b.length]?=some f:=by rw [e];simp
  have hlt:=(AD.1 B).1;have ih:=fun c G=>ZoC (fin:=fin) D E C a l (b++[f]) c (by rw [e];simp) (by simpa using el) G;simp only[AP,BL]at ih;rw [B5];unfold XY;by_cases A:0<=v
  .rw [ZO (s':=acc++[f]) (by
    rw [C,yp (decide_eq_true A),Zar,B,A0,Xl _ (D f (AJ B)),A0,Zj _ yE]),ih _ (by simp;omega),yp A]
   simp
  .rw [ZO (s':=acc) (by rw [C,yn (by simpa using A)]),ih _ yE,yn A]
theorem Zpu{ρ:Type}{fin:List Za->Option ρ}{body:Nat->Za->List Za->Option (List Za ⊕ ρ)}{L:List Bool}{N:Nat}(F:N<=1000){z:List Za->ρ}
  (D:∀i x s,body i x s=if decide ((i:Int)<(L.length:Int))=true then chk (0<=(i:Int)/\(i:Int)<(L.length:Int)) ((L[i]?).bind fun v=>if v=true then (Xc x).bind fun g=>chk (s.length+1<=1073741824) (some (.inl (s++[g]))) else some (.inl s)) else some (.inr (z s))):
  ∀(a:List Za) (l:List Int) (b:List Bool) (acc:List Za),(∀f∈a,f.args.length<=1048576)->L=b++(l.map fun x=>decide (0<=x))->l.length=a.length->acc.length<=b.length->b.length+a.length<=N->forL body fin a b.length acc=fin (acc++XY a l)
 | [],[],b,acc,_,_,_,_,_=>by simp [forL,XY]
 | [],_::_,_,_,_,_,e,_,_=>by simp at e
 |_::_,[],_,_,_,_,e,_,_=>by simp at e
 |f::a,v::l,b,acc,hF,e,el,ha,hn=>by
  have C:L[b.length]?=some (decide (0<=v)):=by rw [e];simp
  have hlt:=(AD.1 C).1;have ih:=fun c G=>Zpu (fin:=fin) F D a l (b++[decide (0<=v)]) c (fun g E=>hF g (by simp [E])) (by rw [e];simp) (by simpa using el) G (by simp at hn ⊢;omega);simp only[AP,BL]at ih;simp only[AT]at hn;have B:∀s,body b.length f s=if 0<=v then chk (s.length+1<=1073741824) (some (.inl (s++[f]))) else some (.inl s):=fun s=>by
   rw [D,yp (decide_eq_true yE),Zj _ ⟨yE,yE⟩,C,A0];by_cases A:0<=v
   .rw [yp (decide_eq_true A),yp A,Y6 _ (hF f yG),A0]
   .rw [yn (by simpa using A),yn A]
  unfold XY;by_cases A:0<=v
  .rw [ZO (s':=acc++[f]) (by rw [B,yp A,Zj _ yE]),ih _ (by simp;omega),yp A];simp
  .rw [ZO (s':=acc) (by rw [B,yn A]),ih _ yE,yn A]
theorem Zmm{b:Zl}(h:Q4 b){F:List Za}(A:∀f∈F,f.args.length<=1048576)(B:b.nodes=(F.length:Int)):Ze0 F b=some (XY F (rdB b)):=by
 have h1:=h.n1;have hr:=h.rd;unfold Ze0;rw [Zy7 h,A0];exact ZoC A yE (fun i x s=>rfl) F (rdB b) [] [] rfl yE (AE _)
theorem ZuT{b:Zl}(h:Q4 b){F:List Za}(A:∀f∈F,f.args.length<=1048576)(B:b.nodes=(F.length:Int)):Zlh F b=some (XY F (rdB b)):=by
 have h1:=h.n1;have hr:=h.rd;unfold Zlh;rw [ZuV h,A0];exact Zpu (N:=F.length) yE (fun i x s=>rfl) F (rdB b) [] [] A rfl yE (AE _) yG
theorem Ya.args{R:List Zf}{base F:List Za}(h:Ya R base F):∀f∈F,f.args.length<=1048576:=fun f A=>by
 have:=Xh (h.good.ok f A);omega
structure ZEl (M:List Za):Prop where
 len:M.length<=24
 ok:∀f∈M,Yt f=true
theorem ZBM:ZEl []:=⟨yG,yG⟩
theorem Ya.few{R:List Zf}{base F:List Za}(h:Ya R base F)(l:List Int):ZEl (XY F l):=by
 have h1:=h.len;obtain ⟨C,B⟩:=ZqD (F:=F) (l:=l);exact ⟨yE,fun f A=>h.good.ok f (B f A)⟩
theorem Zs7{R:List Zf}(C:XD R)(base:List Za)(a:base.length<=1048576):∃M B,QK R base=some (M,B)/\Za9 R base=some (M,B)/\ZEl M:=by
 obtain ⟨F,b,B,G,E,D⟩:=Zeo C base a;unfold QK Za9;rw [G,E];rcases D with ⟨rfl,rfl,rfl⟩|⟨rfl,A,rfl,c⟩
 .exact ⟨_,_,rfl,rfl,ZBM⟩
 .have hB:=Q4.of A c;refine ⟨_,true,?_,?_,A.few (rdB { nodes:=(F.length:Int),reasons:=Yg R F base })⟩
  .rw [A0,yp rfl,ZuT hB A.args rfl];rfl
  .rw [A0,yp rfl,Zmm hB A.args rfl];rfl
theorem Zz7(l:List Int)(x:Int):Zd4 l x=some (ZvL l x):=ZmG l x
end
section
open Classical
theorem ZrV{b:Zl}(h:Q4 b)(x:Int):XE b x=some (ZbP b x):=by
 unfold XE ZbP;have h0:=h.n0;have h1:=h.n1;have a:=h.rd;rw [ZhV h,A0,Znc yE yE,Zej,A0];by_cases E:0<=x/\x<b.nodes
 .rw [yp (by simp;omega),Zj _ ⟨yE,yE⟩];have hg:=ZvO a E.1 yE;unfold atI at hg;rw [yp E.1]at hg;rw [hg,A0];by_cases G:rdN (rdB b) x<0
  .rw [yp (decide_eq_true G),yn yE]
  .rw [yn (by simpa using G),yp ⟨E.1,E.2,yE⟩];refine ZfC (s:=()) (fin:=fun _=>some (-1)) (p:=ZBn b x) rfl fun i r F=>?_;unfold ZBn;by_cases D:r.for_=x
   .rw [yp (by simpa using D),Zvh h F yE,A0];by_cases C:r.inn.all (Zjl (rdB b) (rdN (rdB b) x).toNat)=true
    .rw [yp C,Zyl h F,A0];by_cases B:r.outs.all (Zjh (rdB b))=true
     .rw [yp B,decide_eq_true (show r.for_=x/\_ from ⟨D,Zcp.1 ⟨C,B⟩⟩)];rfl
     .rw [yn B,decide_eq_false (fun A:r.for_=x/\_=>B (Zcp.2 A.2).2)];rfl
    .rw [yn C,decide_eq_false (fun A:r.for_=x/\_=>C (Zcp.2 A.2).1)];rfl
   .rw [yn (by simpa using D),decide_eq_false (fun A:r.for_=x/\_=>D A.1)];rfl
 .rw [yn (by simp;omega),yn yE]
end
section
open Classical
structure Zk9 (b:Zl) (l:List Int):Prop where
 nodup:l.Nodup
 sup:∀s∈l,∃y,s=ZbP b y/\0<=ZbP b y
theorem Zy9(b:Zl):Zk9 b []:=⟨List.nodup_nil,yG⟩
theorem Zk9.len{b:Zl}(h:Q4 b){l:List Int}(g:Zk9 b l):l.length<=60:=Nat.le_trans (ZyI g.nodup g.sup) h.len
theorem Zqv{b:Zl}(h:Q4 b){sup:Int->Option Int}{d:List Int->Int->Option Bool}(hs:∀x,sup x=some (ZbP b x))(J:∀l s,d l s=some (ZvL l s)):
  ∀(n:Nat) (x:Int) (l:List Int),(rdN (rdB b) x).toNat<n->Zk9 b l->∃r,ZfU sup d b n x l=some r/\ZlN b n x l=some r/\Zk9 b r
 |0,_,_,hx,_=>by omega
 |n+1,x,l,hx,hg=>by
  obtain ⟨r,A,L,S,R⟩:=Zkr b (n+1) x l hx;have P:Zk9 b r:=⟨L.nodup hg.nodup,fun s N=>(L.new s N).elim (hg.sup s) (fun ⟨y,a,c,_⟩=>⟨y,a,c⟩)⟩
  refine ⟨r,?_,A,P⟩;rw [ZfU,hs,A0];unfold ZlN at A;rw [ZgZ]at A;by_cases D:ZbP b x<0
  .rw [yp (decide_eq_true D)];rw [yp (.inl D)]at A;exact A
  .rw [yn (by simpa using D),J,A0];by_cases C:ZbP b x∈l
   .rw [yp (Zki.2 C)];rw [yp (.inr C)]at A;exact A
   .rw [yn (by rw [Zki];exact C)];rw [yn (fun a=>a.elim D C)]at A;have K:0<=ZbP b x:=by omega
    obtain ⟨_,_,_,q,I,_,_⟩:=Zf9 K;have hi:Zub b (ZbP b x)=q.inn:=by unfold Zub;rw [I];rfl
    have e:∀(B l:List Int),(∀y∈B,(rdN (rdB b) y).toNat<n)->Zk9 b l->∃t,goO (ZfU sup d b n) B l=some t/\goP (ZgZ (ZbP b) (Zub b) n) B l=some t/\Zk9 b t:=by
     intro B;induction B with
     |nil=>intro l _ g;exact ⟨l,rfl,rfl,g⟩
     |cons y B ih=>
      intro l H g;obtain ⟨u,u1,u2,u3⟩:=Zqv h hs J n y l (H y yG) g;obtain ⟨t,G,F,E⟩:=ih u (fun z O=>H z (by simp [O])) u3;unfold ZlN at u2;exact ⟨t,by rw [goO,u1,A0,G],by rw [goP,u2,A0,F],E⟩
    rw [I,A0];rw [hi]at A;obtain ⟨t,G,F,E⟩:=e q.inn l (fun y M=>by have:=Zu6 K y (by rw [hi];exact M);omega) hg;rw [F]at A;rw [G,A0,yp (by have:=E.len h;omega)];exact A
structure Zso (b:Zl) (x:Int) (l:List Int):Prop where
 good:Zk9 b l
 ord:Zr8 (ZbP b) (Zub b) l
 none:ZbP b x<0->l=[]
 last:0<=ZbP b x->∃t,l=t++[ZbP b x]
theorem Zyp{b:Zl}(h:Q4 b){sup:Int->Option Int}{a:List Int->Int->Option Bool}(hs:∀x,sup x=some (ZbP b x))(G:∀l s,a l s=some (ZvL l s))(x:Int):
  ∃r,ZfU sup a b ((((rdB b)[x.toNat]?).getD 0).toNat+1) x []=some r/\ZlN b ((((rdB b)[x.toNat]?).getD 0).toNat+1) x []=some r/\Zso b x r:=by
 have B:(rdN (rdB b) x).toNat<(((rdB b)[x.toNat]?).getD 0).toNat+1:=by
  unfold rdN;cases (rdB b)[x.toNat]? with
  |none=>simp
  |some v=>simp
 obtain ⟨r,E,A,D⟩:=Zqv h hs G _ x [] B (Zy9 b);obtain ⟨r',C,J,K,I⟩:=Zkr b _ x [] B;obtain rfl:r=r':=by rw [A]at C;exact AL C
 refine ⟨r,E,A,D,J.ord (Zr8.nil _ _),fun F=>?_,fun H=>I H yG⟩;unfold ZlN at A;rw [ZgZ,yp (.inl F)]at A;exact (AL A).symm
theorem Zl8{b:Zl}(h:Q4 b)(x:Int):∃l,XW b x=some l/\Zso b x l:=by
 obtain ⟨A,C,D,B⟩:=Zyp h (ZrV h) Zz7 x;refine ⟨A,?_,B⟩;unfold XW;rw [ZhV h,A0];exact C
end
section
open Classical
structure ZwH (n:Nat) (R:List Zh) (L:List Int) (s:Int) (row:List Int) (k:Nat):Prop where
 rin:RIn n row k
 low:∀x:Nat,0<=rdN row (x:Int)->lvN L x<s
 supp:∀x:Nat,0<=rdN row (x:Int)->∃r∈R,r.for_.toNat=x/\(∀y∈r.inn,0<=rdN row y/\rdN row y<rdN row (x:Int))/\∀y∈r.outs,rdN row y<0
 clos:∀r∈R,lvN L r.for_.toNat<s->(∀y∈r.inn,0<=rdN row y)->(∀y∈r.outs,rdN row y<0)->0<=rdN row r.for_
theorem Zrq(row:List Int)(y:Int):rdN row y=rdN row (y.toNat:Int):=by unfold rdN;rw [AC]
theorem ZzS{row l:List Int}{k:Nat}{y:Int}(B:y.toNat<row.length):rdN (ZdT row l (k:Int)) y=if ∃x∈l,x.toNat=y.toNat then (k:Int) else rdN row y:=by
 unfold rdN;rw [Zlu];by_cases A:∃x∈l,x.toNat=y.toNat
 .rw [yp ⟨A,B⟩,yp A];rfl
 .rw [yn fun h=>A h.1,yn A]
theorem ZCp{row:List Int}{y:Int}(A:¬y.toNat<row.length):rdN row y=-1:=by
 unfold rdN;rw [AW yE];rfl
structure Zyc (n:Nat) (R:List Zh) (L:List Int) (s:Int) (row:List Int) (k:Nat):Prop where
 rin:RIn n row k
 low:∀x:Nat,0<=rdN row (x:Int)->lvN L x<=s
 supp:∀x:Nat,0<=rdN row (x:Int)->∃r∈R,r.for_.toNat=x/\(∀y∈r.inn,0<=rdN row y/\rdN row y<rdN row (x:Int))/\∀y∈r.outs,rdN row y<0
 clos:∀r∈R,lvN L r.for_.toNat<s->(∀y∈r.inn,0<=rdN row y)->(∀y∈r.outs,rdN row y<0)->0<=rdN row r.for_
theorem RIn.lt{n:Nat}{row:List Int}{k:Nat}(h:RIn n row k)(y:Int)(B:0<=rdN row y):y.toNat<n/\rdN row y<(k:Int):=by
 by_cases A:y.toNat<n
 .obtain ⟨v,D,C⟩:=h.val y.toNat A;have e:rdN row y=v:=by unfold rdN;rw [D];rfl
  rw [e]at B ⊢;exact ⟨A,yE⟩
 .rw [ZCp (by rw [h.len];exact A)]at B;omega
theorem Zyc.next{n:Nat}{R:List Zh}{L:List Int}{s:Int}{row:List Int}{k:Nat}(E:∀r∈R,OkN n r)(F:Zjj R (lvN L))(h:Zyc n R L s row k)(U:YV R L s row k≠[]):Zyc n R L s (ZdT row (YV R L s row k) (k:Int)) (k+1):=by
 have d:=(h.rin.next E U).1;have hlen:=h.rin.len;have a:∀y:Int,y.toNat<n->rdN (ZdT row (YV R L s row k) (k:Int)) y=if ∃x∈YV R L s row k,x.toNat=y.toNat then (k:Int) else rdN row y:=fun y hy=>ZzS yE;have f:∀y:Int,(∃x∈YV R L s row k,x.toNat=y.toNat)->lvN L y.toNat=s/\rdN row y<0:=fun y ⟨x,P,e⟩=>by
  obtain ⟨r,B,M,O,N,_⟩:=ZcP.1 P;rw [<-e];refine ⟨O,?_⟩;rw [Zrq row y,<-e,<-Zrq];exact N
 have H:∀y:Int,0<=rdN row y->rdN (ZdT row (YV R L s row k) (k:Int)) y=rdN row y:=fun y hy=>by
  have hl:=(h.rin.lt y hy).1;rw [a y hl,yn fun C=>by have:=(f y C).2;omega]
 have G:∀y:Int,y.toNat<n->lvN L y.toNat<s->rdN (ZdT row (YV R L s row k) (k:Int)) y=rdN row y:=fun y hl hy=>by
  rw [a y hl,yn fun C=>by have:=(f y C).1;omega]
 refine ⟨d,fun x C=>?_,fun x C=>?_,fun r B hs hi S=>?_⟩
 .have hl:=(d.lt _ C).1;rw [AC]at hl;rw [a _ (by simpa using hl)]at C;split at C
  .rename_i c;have:=(f (x:Int) c).1;rw [AC]at this;omega
  .exact h.low x C
 .have hl:=(d.lt _ C).1;rw [AC]at hl;by_cases c:∃y∈YV R L s row k,y.toNat=x
  .obtain ⟨y,A,e⟩:=c;obtain ⟨r,B,rfl,O,N,K,J⟩:=ZcP.1 A;have T:rdN (ZdT row (YV R L s row k) (k:Int)) (x:Int)=(k:Int):=by
    rw [a _ (by simpa using hl),yp ⟨r.for_,A,by simpa using e⟩]
   refine ⟨r,B,e,fun y b=>?_,fun y b=>?_⟩
   .obtain ⟨D,I⟩:=K y b;rw [H y D,T];exact ⟨D,I⟩
   .have hy:=(E r B).2.2 y b;have:=F.outs r B y b;rw [G y hy.2 yE];exact J y b
  .have e:rdN (ZdT row (YV R L s row k) (k:Int)) (x:Int)=rdN row (x:Int):=by
    rw [a _ (by simpa using hl),yn (by simpa using c)]
   rw [e]at C ⊢;obtain ⟨r,B,M,K,J⟩:=h.supp x C;refine ⟨r,B,M,fun y A=>?_,fun y A=>?_⟩
   .obtain ⟨D,I⟩:=K y A;rw [H y D];exact ⟨D,I⟩
   .have hy:=(E r B).2.2 y A;have h5:=F.outs r B y A;have h6:=h.low x C;rw [M]at h5;rw [G y hy.2 yE];exact J y A
 .have g:∀y∈r.inn,0<=rdN row y:=fun y A=>by
   have hy:=(E r B).2.1 y A;have h5:=F.inn r B y A;have:=hi y A
   rwa [G y hy.2 yE]at this
  have i:∀y∈r.outs,rdN row y<0:=fun y A=>by
   have hy:=(E r B).2.2 y A;have h5:=F.outs r B y A;have:=S y A
   rwa [G y hy.2 yE]at this
  have:=h.clos r B hs g i;rw [H _ this];exact this
theorem ZrD{n:Nat}{R:List Zh}{L:List Int}{s:Int}(B:∀r∈R,OkN n r)(C:Zjj R (lvN L)):∀(f:Nat) (row:List Int) (k:Nat),Zyc n R L s row k->ZfM row<=f->Zyc n R L s (Xg R L s f row k).1 (Xg R L s f row k).2
 |0,row,k,h,hf=>h
 |f+1,row,k,h,hf=>by
  unfold Xg;by_cases A:YV R L s row k=[]
  .rw [yp A];exact h
  .rw [yn A];exact ZrD B C f _ _ (h.next B C A) (by have:=(h.rin.next B A).2;omega)
theorem ZwH.level{n:Nat}{R:List Zh}{L:List Int}{s:Int}{row:List Int}{k:Nat}(F:∀r∈R,OkN n r)(H:Zjj R (lvN L))(h:ZwH n R L s row k):ZwH n R L (s+1) (Xg R L s n row k).1 (Xg R L s n row k).2:=by
 have D:ZfM row<=n:=by have:=h.rin.few;omega
 have G:Zyc n R L s row k:=⟨h.rin,fun x A=>by have:=h.low x A;omega,h.supp,h.clos⟩
 have h1:=ZrD F H n row k G D;have h2:=(ZeF (L:=L) (s:=s) F n row k h.rin D).2;refine ⟨h1.rin,fun x A=>by have:=h1.low x A;omega,h1.supp,fun r C hs hi E=>?_⟩;by_cases e:lvN L r.for_.toNat=s
 .refine Classical.byContradiction fun I=>?_;have:r.for_∈YV R L s (Xg R L s n row k).1 (Xg R L s n row k).2:=ZcP.2 ⟨r,C,rfl,e,yE,fun y B=>⟨hi y B,(h1.rin.lt y (hi y B)).2⟩,E⟩;rw [h2]at this;simp at this
 .exact h1.clos r C yE hi E
theorem ZoZ{n:Nat}{R:List Zh}{L:List Int}(A:∀r∈R,OkN n r)(B:Zjj R (lvN L)):∀(d s:Nat) (st:List Int×Nat),ZwH n R L (s:Int) st.1 st.2->ZwH n R L ((s+d:Nat):Int) (X1 R L n (B9 s d) st).1 (X1 R L n (B9 s d) st).2
 |0,_,_,h=>h
 |d+1,s,st,h=>by
  have C:ZwH n R L ((s+1:Nat):Int) (Xg R L (s:Int) n st.1 st.2).1 (Xg R L (s:Int) n st.1 st.2).2:=by
   have:=h.level A B
   rwa [show (s:Int)+1=((s+1:Nat):Int) by omega]at this
  have:=ZoZ A B d (s+1) _ C
  rwa [show s+1+d=s+(d+1) by omega]at this
theorem Q4.end{b:Zl}(h:Q4 b):(∀x:Nat,0<=rdN (rdB b) (x:Int)->∃r∈b.reasons,r.for_.toNat=x/\(∀y∈r.inn,0<=rdN (rdB b) y/\rdN (rdB b) y<rdN (rdB b) (x:Int))/\∀y∈r.outs,rdN (rdB b) y<0)/\∀r∈b.reasons,(∀y∈r.inn,0<=rdN (rdB b) y)->(∀y∈r.outs,rdN (rdB b) y<0)->0<=rdN (rdB b) r.for_:=by
 obtain ⟨E,C⟩:=h.lv;have none:∀y:Int,rdN (AQ b.nodes.toNat (-1)) y=-1:=fun y=>by
  unfold rdN;by_cases D:y.toNat<b.nodes.toNat
  .simp [D]
  .rw [AW (by simp;omega)];rfl
 have a:ZwH b.nodes.toNat b.reasons (lvB b) ((0:Nat):Int) (AQ b.nodes.toNat (-1),0).1 (AQ b.nodes.toNat (-1),0).2:=⟨Zjd _,fun x B=>by rw [none]at B;omega,fun x B=>by rw [none]at B;omega,fun r A hs=>by have:=(C r.for_.toNat).1;omega⟩
 have hE:=ZoZ h.ok E.sol b.nodes.toNat 0 _ a;have e:rdB b=(X1 b.reasons (lvB b) b.nodes.toNat (B9 0 b.nodes.toNat) (AQ b.nodes.toNat (-1),0)).1:=by unfold rdB;rw [List.range_eq_range']
 rw [<-e]at hE;refine ⟨hE.supp,fun r A=>hE.clos r A ?_⟩;have:=C r.for_.toNat;have:=(h.ok r A).1.2;omega
end
section
open Classical
theorem ZyF{M F:List Za}:∀n (l:List Zu),l.length=n->(∀x∈l,¬x.kind=2)->∀t∈ZD l F,(∀f∈t.facts,f∈M)->t∈ZD l M:=by
 intro n;induction n with
 |zero=>
  intro l h _ t A _;rw [AX h]at A ⊢;exact A
 |succ n ih=>
  intro l h D;obtain ⟨p,x,rfl⟩:∃p x,l=p++[x]:=⟨l.dropLast,l.getLast (by intro e;simp [e]at h),(AY _).symm⟩
  intro t A E;rw [Xx]at A ⊢;obtain ⟨s,I,A⟩:=AH.1 A;have hx:=D x yG;unfold ZbT at A;by_cases B:x.kind=1
  .rw [yp B]at A;obtain ⟨g,N,L⟩:=AU.1 A;obtain ⟨b,H,rfl⟩:=AM.1 L;have hs:=ih p (by simpa using h) (fun y C=>D y (by simp [C])) s I fun f J=>E f (by simp [J]);refine AH.2 ⟨s,hs,?_⟩;unfold ZbT;rw [yp B];exact AU.2 ⟨g,E g yG,by rw [H];rfl⟩
  .rw [yn B]at A;have K:∀G,Zbj x s.binding G=Zbj x s.binding F:=fun G=>by
    unfold Zbj;simp only[yn B,yn hx]
   split at A
   .rename_i H;simp at A;subst A;have hs:=ih p (by simpa using h) (fun y C=>D y (by simp [C])) t I E;refine AH.2 ⟨t,hs,?_⟩;unfold ZbT;rw [yn B,K,yp H];simp
   .simp at A
theorem Zzs{R:List Zf}{r:Zf}{M F:List Za}{t:Zw}(A:t∈ZD (QB r) F)(B:∀f∈t.facts,f∈M):t∈ZD (QB r) M:=ZyF _ (QB r) rfl Zq5 t A B
theorem Zxb{r:Zf}{F:List Za}{t:Zw}(A:t∈ZD (QB r) F):∀f∈t.facts,f∈F:=(QL F _ t A).sub
structure ZiM (R:List Zf) (base M:List Za):Prop where
 giv:∀f∈base,f∈M
 clos:∀r∈R,∀t∈ZD (QB r) M,(∀g∈Zli r t,g∉M)->∀a∈r.thn,Yn a t∈M
 supp:∃rank:Za->Nat,∀f∈M,f∈base\/∃r∈R,∃t∈ZD (QB r) M,∃a∈r.thn,Yn a t=f/\(∀g∈t.facts,rank g<rank f)/\∀g∈Zli r t,g∉M
theorem Zrv{f:Za}:∀{F:List Za}{l:List Int},l.length=F.length->(f∈XY F l↔∃i,F[i]?=some f/\0<=rdN l ((i:Nat):Int))
 | [],l,_=>by simp [XY]
 |g::F,[],h=>by simp at h
 |g::F,v::l,h=>by
  have ih:=Zrv (f:=f) (F:=F) (l:=l) (by simpa using h)
  have D:∀i:Nat,rdN (v::l) ((i+1:Nat):Int)=rdN l ((i:Nat):Int):=fun i=>by unfold rdN;rw [AC,AC];simp
  have E:rdN (v::l) ((0:Nat):Int)=v:=by unfold rdN;rfl
  have key:(∃i,(g::F)[i]?=some f/\0<=rdN (v::l) ((i:Nat):Int))↔(g=f/\0<=v)\/∃i,F[i]?=some f/\0<=rdN l ((i:Nat):Int):=by
   constructor
   .rintro ⟨i,B,A⟩
    cases i with
    |zero=>rw [E]at A;exact .inl ⟨by simpa using B,A⟩
    |succ i=>rw [D]at A;exact .inr ⟨i,by simpa using B,A⟩
   .rintro (⟨B,A⟩|⟨i,B,A⟩)
    .exact ⟨0,by simp [B],by rw [E];exact A⟩
    .exact ⟨i+1,by simpa using B,by rw [D];exact A⟩
  rw [key]
  unfold XY
  by_cases C:0<=v
  .rw [yp C,Ah,ih]
   constructor
   .rintro (h|h)
    .exact .inl ⟨h.symm,C⟩
    .exact .inr h
   .rintro (⟨h,_⟩|h)
    .exact .inl h.symm
    .exact .inr h
  .rw [yn C,ih]
   constructor
   .exact .inr
   .rintro (⟨_,h⟩|h)
    .exact absurd h C
    .exact h
theorem Zrn{F:List Za}{f g:Za}(C:f∈F)(B:g∈F)(h:Yd F f=Yd F g):f=g:=by
 obtain ⟨i,G,D⟩:=Za6 C;obtain ⟨j,E,A⟩:=Za6 B;have:i=j:=by omega
 subst this;rw [D]at A;exact AL A
theorem Zy1{F:List Za}(D:F.Nodup){j:Nat}{f:Za}(h:F[j]?=some f):Yd F f=(j:Int):=by
 obtain ⟨k,I,H⟩:=Za6 (AJ h);obtain ⟨C,G⟩:=AD.1 h;obtain ⟨B,E⟩:=AD.1 H;have:k=j:=by
  rcases Aj k j with A|A|A
  .exact absurd (E.trans G.symm) (AZ.1 D k j B C A)
  .exact A
  .exact absurd (G.trans E.symm) (AZ.1 D j k C B A)
 rw [I,this]
theorem ZzE{F:List Za}(D:F.Nodup){l:List Int}(C:l.length=F.length){f:Za}:f∈XY F l↔f∈F/\0<=rdN l (Yd F f):=by
 rw [Zrv C]
 constructor
 .rintro ⟨i,A,B⟩
  exact ⟨AJ A,by rw [Zy1 D A];exact B⟩
 .rintro ⟨A,B⟩
  obtain ⟨j,G,E⟩:=Za6 A
  exact ⟨j,E,by rw [<-G];exact B⟩
theorem Zyt{R:List Zf}{base F:List Za}(h:Ya R base F){rs:List Zh}{c:List Za}(hB:Q4 { nodes:=(F.length:Int),reasons:=rs })
  (k:∀x,x∈rs↔(∃f∈c,x={ for_:=Yd F f,inn:=[],outs:=[] })\/∃r∈R,∃t∈ZD (QB r) F,∃a∈r.thn,x=Yy F r t a) (hg:∀f∈c,f∈F):ZiM R c (XY F (rdB { nodes:=(F.length:Int),reasons:=rs })):=by
 obtain ⟨e1,e2⟩:=hB.end;have hF:=Zkd h.good.asc;have hl:=hB.rd;generalize rdB { nodes:=(F.length:Int),reasons:=rs }=rd at e1 e2 hl
 simp only[AC]at hl;have hm:∀f,f∈XY F rd↔f∈F/\0<=rdN rd (Yd F f):=fun f=>ZzE hF hl;have d:∀f∈F,((Yd F f).toNat:Int)=Yd F f:=fun f mf=>by
  obtain ⟨j,h1,_⟩:=Za6 mf;omega
 refine ⟨fun f mf=>?_,fun r mr t mt m a ma=>?_,fun f=>(rdN rd (Yd F f)).toNat,fun f mf=>?_⟩
 .rw [hm];exact ⟨hg f mf,e2 _ ((k _).2 (.inl ⟨f,mf,rfl⟩)) yG yG⟩
 .have ht:∀g∈t.facts,g∈XY F rd:=Zxb mt;have l:t∈ZD (QB r) F:=Zzs (R:=R) mt fun g mg=>((hm g).1 (ht g mg)).1;have i:=h.closed r mr t l a ma;rw [hm];refine ⟨i,e2 _ ((k _).2 (.inr ⟨r,mr,t,l,a,ma,rfl⟩)) (fun y my=>?_) fun y my=>?_⟩
  .obtain ⟨g,mg,e,_⟩:=((Y4 F t.facts).2.1 y).1 my;rw [<-e];exact ((hm g).1 (ht g mg)).2
  .obtain ⟨g,mg,e,e0⟩:=((Y4 F (Zli r t)).2.1 y).1 my;have gF:g∈F:=by
    rcases ZgY F g with ⟨_,h2⟩|⟨j,_,h2⟩
    .omega
    .exact AJ h2
   refine Classical.byContradiction fun hn=>m g mg ((hm g).2 ⟨gF,?_⟩);rw [e];omega
 .obtain ⟨fF,f0⟩:=(hm f).1 mf;obtain ⟨x,mx,ex,hi,ho⟩:=e1 (Yd F f).toNat (by rw [d f fF];exact f0);rw [d f fF]at hi;rcases (k x).1 mx with ⟨g,mg,rfl⟩|⟨r,mr,t,mt,a,ma,rfl⟩
  .left
   have:Yd F g=Yd F f:=by have:=d g (hg g mg);have:=d f fF;simp only at ex;omega
   rw [<-Zrn (hg g mg) fF this];exact mg
  .right
   have i:=h.closed r mr t mt a ma;have e:Yn a t=f:=Zrn i fF (by
    have h1:=d _ i;have h2:=d f fF;have ex':(Yd F (Yn a t)).toNat=(Yd F f).toNat:=ex;omega)
   have b:∀g∈t.facts,g∈XY F rd/\rdN rd (Yd F g)<rdN rd (Yd F f):=fun g mg=>by
    have gF:=Zxb mt g mg;obtain ⟨j,k1,_⟩:=Za6 gF;have my:Yd F g∈Zay F t.facts:=((Y4 F t.facts).2.1 _).2 ⟨g,mg,rfl,yE⟩;obtain ⟨k2,k3⟩:=hi _ my;exact ⟨(hm g).2 ⟨gF,k2⟩,k3⟩
   refine ⟨r,mr,t,Zzs (R:=R) mt fun g mg=>(b g mg).1,a,ma,e,fun g mg=>?_,fun g mg o=>?_⟩
   .have k2:=(b g mg).2;have k1:=((hm g).1 (b g mg).1).2;show (rdN rd (Yd F g)).toNat<(rdN rd (Yd F f)).toNat
    omega
   .obtain ⟨gF,g0⟩:=(hm g).1 o;obtain ⟨j,k1,_⟩:=Za6 gF;have my:Yd F g∈Zay F (Zli r t):=((Y4 F (Zli r t)).2.1 _).2 ⟨g,mg,rfl,yE⟩;have:=ho _ my;omega
theorem Zvv{R:List Zf}{base F:List Za}(h:Ya R base F)(a:(Yg R F base).length<=60):ZiM R base (XY F (rdB { nodes:=(F.length:Int),reasons:=Yg R F base })):=
 Zyt h (Q4.of h a) (fun _=>ZjS) h.good.inc
end
section
open Classical
theorem Zjn{b:List Zx}(D:Ye b=true):∀{p f:List BYT},p.all YI=true->f.all Z2=true->p.length=f.length->(∀a∈p,Yu a=true->∃z,X3 b a=some z)->((Zci p f b).isSome=true↔ZbU p b=some f)
 | [],[],_,_,_,_=>by simp [Zci,ZbU]
 | [],_::_,_,_,h,_=>by simp at h
 |_::_,[],_,_,h,_=>by simp at h
 |a::p,w::f,hp,hf,hl,hv=>by
  simp only[List.all_cons,AB]at hp hf;have ih:=Zjn D (p:=p) (f:=f) hp.2 hf.2 (by simpa using hl) fun x B=>hv x (by simp [B]);obtain ⟨l,A,E⟩:=ZeZ hp.2 fun x B=>hv x (by simp [B]);by_cases ha:Z2 a=true
  .have d:Xn b a=some a:=by unfold Xn;rw [yp ha]
   simp only[Zci,ZbU,yp ha,d,A0];by_cases e:a=w
   .subst e;rw [yp rfl,ih,A];simp
   .rw [yn e,A];simp [e]
  .have c:Yu a=true:=by
    have:=hp.1;unfold YI at this;rw [Bool.or_eq_true]at this;exact this.resolve_left ha
   obtain ⟨z,C⟩:=hv a yG c;have d:Xn b a=some z:=by rw [ZgG c];exact C
   have F:Zhi b a w=if z=w then some b else none:=by
    unfold Zhi;rw [yp ⟨D,c,hf.1⟩,C]
   simp only[Zci,ZbU,yn ha,d,A0,F];by_cases e:z=w
   .subst e;rw [yp rfl,A0,ih,A];simp
   .rw [yn e,A];simp [e]
theorem Zo4{p:Zo}{g:Za}{b:List Zx}(B:Z0 p=true)(C:Ye b=true)(D:∀a∈p.args,Yu a=true->∃z,X3 b a=some z)(E:Yt g=true):(ZaC p g b).isSome=true↔YW p b=some g:=by
 have c:=B;have d:=E;unfold Z0 at c;unfold Yt at d;simp only[AB]at c d;obtain ⟨l,F,f⟩:=ZeZ c.2 D;unfold YW;rw [yp ⟨B,C⟩,F];unfold ZaC;by_cases A:ZdG p g b=true
 .rw [yp A];unfold ZdG at A;simp only[AB,decide_eq_true_eq]at A;rw [Zjn C c.2 d.2 A.2 D,F];simp only[BM,BN];constructor
  .intro e;rw [e,A.1.2]
  .intro e;rw [<-e]
 .rw [yn A];simp only[Option.isSome_none,BO,BM,BN,false_iff];intro e;refine A ?_;unfold ZdG;simp only[AB,decide_eq_true_eq];exact ⟨⟨⟨⟨B,E⟩,C⟩,by rw [<-e]⟩,by rw [<-e];exact f.symm⟩
theorem ZsS{p:Zo}{b:List Zx}(A:Z0 p=true)(C:Ye b=true)(B:∀a∈p.args,Yu a=true->∃z,X3 b a=some z):∃i,YW p b=some i:=by
 have c:=A;unfold Z0 at c;simp only[AB]at c;obtain ⟨l,D,_⟩:=ZeZ c.2 B;unfold YW;rw [yp ⟨A,C⟩,D];exact ⟨_,rfl⟩
theorem Zn7{b c:List Zx}(h:∀u z,X3 b u=some z->X3 c u=some z):∀{p l:List BYT},ZbU p b=some l->ZbU p c=some l
 | [],_,e=>e
 |a::p,l,e=>by
  simp only[ZbU]at e ⊢;obtain ⟨v,A,e⟩:=Ak.1 e;obtain ⟨q,D,rfl⟩:=AM.1 e;have:Xn c a=some v:=by
   unfold Xn at A ⊢;split at A
   .rename_i B;rw [yp B];exact A
   .rename_i B;rw [yn B];split at A
    .rename_i C;rw [yp C];exact h _ _ A
    .simp at A
  rw [this,A0,Zn7 h D];rfl
theorem ZnJ{p:Zo}{b c:List Zx}(A:Ye c=true)(h:∀u z,X3 b u=some z->X3 c u=some z){i:Za}(e:YW p b=some i):YW p c=some i:=by
 unfold YW at e ⊢;split at e
 .rename_i B;rw [yp ⟨B.1,A⟩];obtain ⟨l,C,rfl⟩:=AM.1 e;rw [Zn7 h C];rfl
 .simp at e
theorem ZvZ{x:Zu}{b:List Zx}{M:List Za}(G:x.kind=2)(A:YC x=true)(B:Ye b=true)(C:∀a∈x.pattern.args,Yu a=true->∃z,X3 b a=some z)(H:∀f∈M,Yt f=true):Zbj x b M=true↔(XJ (YW x.pattern b)).1∉M:=by
 have D:Z0 x.pattern=true:=by
  unfold YC at A;rw [yp (.inr G)]at A;simp only[AB]at A;exact A.1.1
 obtain ⟨i,hi⟩:=ZsS D B C;have J:(XJ (YW x.pattern b)).1=i:=by rw [hi];rfl
 have I:¬x.kind=1:=by omega
 unfold Zbj;rw [yp ⟨A,B⟩,yn I,yp G,decide_eq_true_iff,J];unfold Zc5;rw [List.length_eq_zero_iff,List.filter_eq_nil_iff];constructor
 .intro h E;exact h i E ((Zo4 D B C (H i E)).2 hi)
 .intro h g F hs;have:=(Zo4 D B C (H g F)).1 hs;rw [hi]at this;exact h (by rw [AL this];exact F)
structure ZvF (l:List Zu):Prop where
 valid:∀x∈l,YC x=true
 bound:∀p x q,l=p++x::q->x.kind=2->∀a∈x.pattern.args,Yu a=true->a∈YR p
theorem ZuO{M:List Za}(hM:∀f∈M,Yt f=true):∀n (l:List Zu),l.length=n->ZvF l->∀t,t∈ZD l M↔t∈ZD (l.filter fun x=>x.kind != 2) M/\∀x∈l,x.kind=2->(XJ (YW x.pattern t.binding)).1∉M:=by
 intro n;induction n with
 |zero=>
  intro l h _ t;rw [AX h];simp
 |succ n ih=>
  intro l h R t;obtain ⟨p,x,rfl⟩:∃p x,l=p++[x]:=⟨l.dropLast,l.getLast (by intro e;simp [e]at h),(AY _).symm⟩
  have k:ZvF p:=⟨fun y B=>R.valid y (by simp [B]),fun q y s e=>R.bound q y (s++[x]) (by rw [e];simp)⟩
  have j:=ih p (by simpa using h) k;have o:∀s u:Zw,s∈ZD p M->Ye u.binding=true->(∀v z,X3 s.binding v=some z->X3 u.binding v=some z)->∀y∈p,y.kind=2->(XJ (YW y.pattern u.binding)).1=(XJ (YW y.pattern s.binding)).1:=fun s u E hu N y B D=>by
   obtain ⟨q,r,e⟩:=BP B;have U:Z0 y.pattern=true:=by
    have hc:=k.valid y B;unfold YC at hc;rw [yp (.inr D)]at hc;simp only[AB]at hc;exact hc.1.1
   have ho:=QL M p s E;obtain ⟨i,hi⟩:=ZsS U ho.bind fun a G J=>ho.vars a (by
    have:=k.bound q y r e D a G J;rw [e];unfold YR at this ⊢;rw [List.flatMap_append];exact AI.2 (.inl this))
   rw [hi,ZnJ hu N hi]
  rw [Xx,List.filter_append];by_cases P:x.kind=1
  .have O:[x].filter (fun x=>x.kind != 2)=[x]:=by simp [P]
   rw [O,Xx];have m:∀s u:Zw,s∈ZD p M->u∈ZbT x M s->((∀y∈p++[x],y.kind=2->(XJ (YW y.pattern u.binding)).1∉M)↔∀y∈p,y.kind=2->(XJ (YW y.pattern s.binding)).1∉M):=fun s u E mu=>by
    have hu:=mu;unfold ZbT at hu;rw [yp P]at hu;obtain ⟨g,mg,N⟩:=AU.1 hu;obtain ⟨b,V,rfl⟩:=AM.1 N;obtain ⟨T,_,S⟩:=Zl9 V;have w:=o s { facts:=s.facts++[g],binding:=b } E T S;constructor
    .intro L y B D;rw [<-w y B D];exact L y (by simp [B]) D
    .intro L y B D;rcases AI.1 B with B|B
     .rw [w y B D];exact L y B D
     .simp at B;subst B;omega
   constructor
   .intro C;obtain ⟨s,E,C⟩:=AH.1 C;obtain ⟨I,H⟩:=(j s).1 E;exact ⟨AH.2 ⟨s,I,C⟩,(m s t E C).2 H⟩
   .rintro ⟨C,ha⟩;obtain ⟨s,E,C⟩:=AH.1 C;have hs:s∈ZD p M:=(j s).2 ⟨E,fun y B D=>?_⟩
    .exact AH.2 ⟨s,hs,C⟩
    .have hu:=C;unfold ZbT at hu;rw [yp P]at hu;obtain ⟨g,mg,N⟩:=AU.1 hu;obtain ⟨b,V,e⟩:=AM.1 N;obtain ⟨T,_,S⟩:=Zl9 V;have U:Z0 y.pattern=true:=by
      have hc:=k.valid y B;unfold YC at hc;rw [yp (.inr D)]at hc;simp only[AB]at hc;exact hc.1.1
     obtain ⟨q,r,e2⟩:=BP B;have ho:=QL M _ s E;obtain ⟨i,hi⟩:=ZsS U ho.bind fun a G J=>ho.vars a (by
      have:=k.bound q y r e2 D a G J;rw [e2];unfold YR at this ⊢;obtain ⟨c,mc,hc⟩:=AH.1 this;by_cases A:c.kind=1
      .exact AH.2 ⟨c,Am.2 ⟨by simp [mc],by simp [A]⟩,hc⟩
      .rw [yn A]at hc;simp at hc)
     have:=ha y (by simp [B]) D;rw [<-e,ZnJ T S hi]at this;rw [hi];exact this
  .by_cases F:x.kind=2
   .have O:[x].filter (fun x=>x.kind != 2)=[]:=by simp [F]
    rw [O,BR];have K:∀s,ZbT x M s=if Zbj x s.binding M=true then [s] else []:=fun s=>by unfold ZbT;rw [yn P]
    have W:∀s,s∈ZD p M->(Zbj x s.binding M=true↔(XJ (YW x.pattern s.binding)).1∉M):=fun s E=>by
     have ho:=QL M p s E;exact ZvZ F (R.valid x yG) ho.bind (fun a G J=>ho.vars a (R.bound p x [] yG F a G J)) hM
    constructor
    .intro C;obtain ⟨s,E,C⟩:=AH.1 C;rw [K]at C;split at C
     .rename_i L;simp at C;subst C;obtain ⟨I,H⟩:=(j t).1 E;refine ⟨I,fun y B D=>?_⟩;rcases AI.1 B with B|B
      .exact H y B D
      .simp at B;subst B;exact (W t E).1 L
     .simp at C
    .rintro ⟨C,ha⟩;have hs:t∈ZD p M:=(j t).2 ⟨C,fun y B D=>ha y (by simp [B]) D⟩;refine AH.2 ⟨t,hs,?_⟩;rw [K,yp ((W t hs).2 (ha x yG F))];simp
   .have O:[x].filter (fun x=>x.kind != 2)=[x]:=by simp [F]
    rw [O,Xx];have K:∀s,ZbT x M s=if Zbj x s.binding M=true then [s] else []:=fun s=>by unfold ZbT;rw [yn P]
    constructor
    .intro C;obtain ⟨s,E,C⟩:=AH.1 C;have d:=C;rw [K]at d;split at d
     .simp at d;subst d;obtain ⟨I,H⟩:=(j t).1 E;refine ⟨AH.2 ⟨t,I,C⟩,fun y B D=>?_⟩;rcases AI.1 B with B|B
      .exact H y B D
      .simp at B;subst B;exact absurd D F
     .simp at d
    .rintro ⟨C,ha⟩;obtain ⟨s,E,C⟩:=AH.1 C;have d:=C;rw [K]at d;split at d
     .simp at d;subst d;exact AH.2 ⟨t,(j t).2 ⟨E,fun y B D=>ha y (by simp [B]) D⟩,C⟩
     .simp at d
end
section
open Classical
theorem ZAf{r:Zf}(h:ZY r=true):ZvF r.cond:=by
 unfold ZY at h;simp only[AB]at h;obtain ⟨⟨A,G⟩,_⟩:=h;unfold YA at A;simp only[AB]at A;have hv:=A.1.1.2;refine ⟨fun x B=>?_,fun p x q e E a C ha=>?_⟩
 .obtain ⟨j,F,e⟩:=List.getElem_of_mem B;have:=Zi0 hv j x (by rw [A9 F,e]);simp only[AB]at this;exact this.1.1
 .have:=Zi0 G p.length x (by rw [e];simp);unfold ZiO at this;rw [E]at this;simp only[AK,decide_true,Bool.not_true,Bool.false_or,An]at this;have D:a∈Y1 x:=by
   unfold Y1;rw [Z3];refine Am.2 ⟨?_,ha⟩;unfold ZgT;simp [C]
  have h2:=Qi.1 (this a D);unfold YU at h2;rw [Z3,e]at h2;simpa using h2
theorem Zs5{r:Zf}(h:ZY r=true){M:List Za}(G:∀f∈M,Yt f=true)(t:Zw):t∈ZD r.cond M↔t∈ZD (QB r) M/\∀g∈Zli r t,g∉M:=by
 rw [ZuO G _ r.cond rfl (ZAf h)];refine and_congr_right fun _=>?_;unfold Zli;constructor
 .intro B g C;obtain ⟨x,A,rfl⟩:=AS.1 C;obtain ⟨E,D⟩:=Am.1 A;exact B x E (by simpa using D)
 .intro B x A F;exact B _ (AS.2 ⟨x,Am.2 ⟨A,by simp [F]⟩,rfl⟩)
theorem ZiM.closed{R:List Zf}{base M:List Za}(h:ZiM R base M)(D:∀r∈R,ZY r=true)(E:∀f∈M,Yt f=true):∀r∈R,∀t∈ZD r.cond M,∀a∈r.thn,Yn a t∈M:=fun r A t B a C=>by
 obtain ⟨G,F⟩:=(Zs5 (D r A) E t).1 B;exact h.clos r A t G F a C
end
section
open Classical
theorem Ztq{l:List Za}(C:l.length<=24)(ha:ZfX l)(hok:∀f∈l,Yt f=true):Z7 l=true:=by
 unfold Z7;rw [AB,decide_eq_true_iff];refine ⟨C,?_⟩;have key:∀(b a:List Za),l=a++b->Zav (ZeY l) b a.length=true:=by
  intro b;induction b with
  |nil=>intro a _;rfl
  |cons x b ih=>
   intro a e;simp only[Zav,AB];refine ⟨?_,by have:=ih (a++[x]) (by rw [e];simp);simpa using this⟩;unfold ZeY;rw [AB];refine ⟨hok x (by rw [e];simp),?_⟩;by_cases A:a.length=0
   .rw [yp A]
   .rw [yn A];obtain ⟨q,y,rfl⟩:∃q y,a=q++[y]:=⟨a.dropLast,a.getLast (by intro D;simp [D]at A),(AY _).symm⟩
    have B:l[(q++[y]).length - 1]?=some y:=by rw [e];simp
    rw [B,decide_eq_true_iff];unfold ZfX at ha;rw [e,BA,List.pairwise_append]at ha;have h2:=ha.2.1;rw [BS,List.pairwise_cons]at h2;exact h2.1 x yG
 exact key l [] rfl
theorem ZCB{a b:List Za}(h:a.Sublist b)(A:ZfX b):ZfX a:=List.Pairwise.sublist h A
theorem ZlJ:∀{F:List Za}{l:List Int},(XY F l).Sublist F
 | [],l=>by simp [XY]
 |f::F,[]=>by simp [XY]
 |f::F,v::l=>by
  unfold XY;split
  .exact ZlJ.cons_cons f
  .exact ZlJ.cons f
def ZxB(F:List Za)(y:Int):Za:=match F[y.toNat]? with|some f=>f|none=>{ rel:=⟨#[]⟩,args:=[] }
end
section
open Classical
theorem ZfZ(r:Zf)(F:List Za)(B:Q6 r):ZeA r (r.cond.length:Int) F=some (if (YA r&&Z7 F)=true then ZD r.cond F else []):=by
 unfold ZeA;rw [Zh2 r B,A0];cases h1:YA r with
 |false=>rfl
 |true=>
  rw [yp rfl,ZfS F,A0];cases h2:Z7 F with
  |false=>rfl
  |true=>
   obtain ⟨a,b⟩:=Qk h2;have hc:=(ZaV h1).1;rw [yp rfl,yn yG,ZE,yn yG,Zj _ yE,AC,BB,Ap,ZfI _ _ hc a (fun f A=>Xh (b f A))];rfl
theorem Zzb{α:Type}{p:Nat->α->Bool}{b:List α}(A:∀i x,p i x=true↔b[i]?=some x):∀(a:List α),a.length=b.length->(Zav p a 0=true↔a=b):=by
 intro a B;constructor
 .intro ha;apply List.ext_getElem?;intro i;by_cases hi:i<a.length
  .have hx:=A9 hi;have:=Zi0 ha i _ hx;rw [AK,A]at this;rw [hx,this]
  .rw [AW yE,AW yE]
 .rintro rfl;have:∀(l c:List α),a=c++l->Zav p l c.length=true:=by
   intro l;induction l with
   |nil=>intro c _;rfl
   |cons x l ih=>
    intro c e;simp only[Zav,AB];refine ⟨(A _ _).2 (by rw [e];simp),?_⟩;have:=ih (c++[x]) (by rw [e];simp);simpa using this
  exact this a [] rfl
theorem Zcx(a b:List Za):ZdR a b=some (decide (a=b)):=by
 unfold ZdR;by_cases h:a.length=b.length
 .rw [yn (by simp;omega),XM (p:=fun i x=>decide (b[i]?=some x)) (r:=false)]
  .have:=Zzb (p:=fun i x=>decide (b[i]?=some x)) (b:=b) (fun i x=>by rw [decide_eq_true_iff]) a h;by_cases e:a=b
   .rw [yp (this.2 e),decide_eq_true e]
   .rw [yn fun C=>e (this.1 C),decide_eq_false e]
  .intro j x B;have hj:=(AD.1 B).1;have D:b[j]?=some b[j]:=A9 yE;rw [AK,Zar,D,A0,Xj,A0];by_cases A:x=b[j]
   .rw [yp (decide_eq_true A),decide_eq_true (by rw [A])];rfl
   .rw [yn (by simpa using A),decide_eq_false fun e=>A (AL e).symm];rfl
 .rw [yp (by simp;omega),decide_eq_false (fun e=>h (by rw [e]))]
theorem ZoP(a b:List Za):Zfz a b=some (decide (a=b)):=Zcx a b
theorem Zke{α β ρ:Type}{q:α->Bool}{g:α->β}{z:β}:∀{l:List α}{i:Nat},∃x:β,(x=z\/∃a∈l,x=g a)/\∀(body:Nat->α->Unit->Option (Unit ⊕ β)),(∀j a,body j a ()=if q a=true then some (.inr (g a)) else some (.inl ()))->forL body (fun _=>some z) l i ()=some x
 | [],_=>⟨z,.inl rfl,fun body _=>rfl⟩
 |a::l,i=>by
  by_cases B:q a=true
  .exact ⟨g a,.inr ⟨a,yG,rfl⟩,fun body A=>Z5 (by rw [A,yp B])⟩
  .obtain ⟨x,E,D⟩:=Zke (ρ:=ρ) (q:=q) (g:=g) (z:=z) (l:=l) (i:=i+1);exact ⟨x,E.imp id fun ⟨b,C,e⟩=>⟨b,by simp [C],e⟩,fun body A=>(ZO (s':=()) (by rw [A,yn B])).trans (D body A)⟩
theorem Zwy{r:Zf}(C:Q6 r)(M L:List Za)(H:M.length<=24):∃t B,Qf r M L=some (t,B)/\ZeE r M L=some (t,B)/\t.binding.length<=6:=by
 have D:∀t∈(if (YA r&&Z7 M)=true then ZD r.cond M else []),t.binding.length<=6:=fun t A=>by
  split at A
  .exact QT (QL M _ t A).bind
  .simp at A
 unfold Qf ZeE;rw [ZfZ r M C,ZpG r M C yE,A0,A0];generalize (if (YA r&&Z7 M)=true then ZD r.cond M else [])=ts at D
 obtain ⟨x,G,E⟩:=Zke (ρ:=Unit) (q:=fun t:Zw=>decide (t.facts=L)) (g:=fun t=>(t,true)) (z:=(({ facts:=[],binding:=[] }:Zw),false)) (l:=ts) (i:=0);refine ⟨x.1,x.2,E _ fun j a=>?_,E _ fun j a=>?_,?_⟩
 .rw [Zcx,A0]
 .rw [ZoP,A0]
 .rcases G with rfl|⟨a,F,rfl⟩
  .simp
  .exact D a F
def Zm8(l:List Zz)(u:Int):Za:=match l[u.toNat]? with|some s=>s.fact|none=>{ rel:=⟨#[]⟩,args:=[] }
def Zev(l:List Zz)(u:Int):Bool:=decide (0<=u/\u<(l.length:Int))
theorem Zv5{l:List Zz}{u:Int}(h:Zev l u=true):∃s,atI l u=some s/\s.fact=Zm8 l u:=by
 unfold Zev at h;rw [decide_eq_true_iff]at h;have A:u.toNat<l.length:=by omega
 refine ⟨l[u.toNat],?_,?_⟩
 .unfold atI;rw [yp h.1,A9 A]
 .unfold Zm8;rw [A9 A]
theorem ZhP{ρ:Type}{p:Int->Bool}{g:Int->Za}{z:ρ}{fin:List Za->Option ρ}{body:Nat->Int->List Za->Option (List Za ⊕ ρ)}:∀{l:List Int}{i:Nat}{acc:List Za},(∀j u s,s.length+1<=acc.length+l.length->body j u s=if p u=true then some (.inl (s++[g u])) else some (.inr z))->forL body fin l i acc=if l.all p=true then fin (acc++l.map g) else some z
 | [],_,acc,_=>by simp [forL]
 |u::l,i,acc,h=>by
  have hx:=h i u acc yG;by_cases A:p u=true
  .rw [yp A]at hx;rw [ZO hx,ZhP (p:=p) (g:=g) (z:=z) fun j v s hs=>h j v s (by simp at hs ⊢;omega)];simp [A]
  .rw [yn A]at hx;rw [Z5 hx];simp [A]
def givesB(t:Zw)(f:Za)(a:Zy):Bool:=(XJ (YW a.pattern t.binding)).2&&decide ((XJ (YW a.pattern t.binding)).1=f)
theorem ZqZ(n:BYT):∀(l:List Zf) (i:Nat),∃z,forL (σ:=Unit) (ρ:=Int) (fun (B:Nat) (A:Zf) _=>if (sEq A.name n)=true then some (.inr (B:Int)) else some (.inl ())) (fun _=>some (-1)) l i ()=some z/\(z=-1\/∃j r,z=((i+j:Nat):Int)/\l[j]?=some r)
 | [],_=>⟨_,rfl,.inl rfl⟩
 |x::l,i=>by
  by_cases h:sEq x.name n=true
  .exact ⟨_,Z5 (by rw [yp h]),.inr ⟨0,x,yG,rfl⟩⟩
  .obtain ⟨z,e,C⟩:=ZqZ n l (i+1);refine ⟨z,(ZO (s':=()) (by rw [yn h])).trans e,C.imp id fun ⟨j,r,E,D⟩=>⟨j+1,r,by rw [E];congr 1;omega,by simpa using D⟩⟩
theorem ZAZ{R:List Zf}{n:BYT}(h:¬Zgw R n<0):∃r,atI R (Zgw R n)=some r/\r∈R:=by
 obtain ⟨z,e,A⟩:=ZqZ n R 0;have C:Qz R n=some z:=e;rw [Zao]at C;obtain rfl:=AL C;rcases A with A|⟨j,r,D,B⟩
 .omega
 .rw [AK]at D;rw [D,Zar];exact ⟨r,B,AJ B⟩
theorem ZDg{before:List Zz}(C:before.length<=60)(u:Int)(acc:List Za)(ha:acc.length+1<=1073741824):((XV u 0 (i64.wrap ((before.length:Int) - 1))).bind fun a=>if a=true then (atI before u).bind fun b=>chk (acc.length+1<=1073741824) (some (Sum.inl (acc++[b.fact]))) else some (Sum.inr false):Option (List Za ⊕ Bool))=if Zev before u=true then some (.inl (acc++[Zm8 before u])) else some (.inr false):=by
 rw [Znc yE yE,Zej,A0];by_cases A:Zev before u=true
 .obtain ⟨q,e,B⟩:=Zv5 A;rw [yp A,e,A0,B,Zj _ ha];unfold Zev at A;rw [decide_eq_true_iff]at A;rw [decide_eq_true A.1,decide_eq_true (show u<=(before.length:Int) - 1 by omega)];rfl
 .rw [yn A];unfold Zev at A;rw [decide_eq_true_iff]at A;rw [yn];simp only[AB,decide_eq_true_eq];omega
theorem Zyv{R:List Zf}(J:XD R)(base M:List Za)(K:M.length<=24)(before:List Zz)(F:before.length<=60)(s:Zz)(hs:s.uses.length<=1048576):∃v,ZbN R base M before s=some v/\Zf1 R base M before s=some v:=by
 unfold ZbN Zf1;by_cases D:sEq s.rule ⟨#[]⟩=true
 .rw [yp D,yp D];by_cases C:((s.uses.length:Int)==0)=true
  .rw [yp C,yp C,Zbn,Zaq];exact ⟨_,rfl,rfl⟩
  .rw [yn C,yn C];exact ⟨_,rfl,rfl⟩
 .rw [yn D,yn D,Zao,ZjM,A0,A0];by_cases B:Zgw R s.rule<0
  .rw [yp (decide_eq_true B),ZhP (p:=Zev before) (g:=Zm8 before) (z:=false) (l:=s.uses) (acc:=[])]
   .refine ⟨_,rfl,?_⟩;split
    .rw [yp (decide_eq_true B)]
    .rfl
   .intro j u acc ha;exact ZDg F u acc (by simp at ha;omega)
  .rw [yn (by simpa using B),ZhP (p:=Zev before) (g:=Zm8 before) (z:=false) (l:=s.uses) (acc:=[])]
   .rw [ZhP (p:=Zev before) (g:=Zm8 before) (z:=false) (l:=s.uses) (acc:=[])]
    .by_cases A:s.uses.all (Zev before)=true
     .rw [yp A,yp A,yn (by simpa using B)];obtain ⟨r,e,H⟩:=ZAZ B;obtain ⟨t,G,O,N,P⟩:=Zwy (J.s r H) M ([]++s.uses.map (Zm8 before)) K;rw [e,A0,A0,O,N,A0,A0];cases G with
      |false=>
       refine ⟨false,rfl,?_⟩;cases r.thn with
       |nil=>rfl
       |cons a l=>exact Z5 rfl
      |true=>
       simp only[if_true];rw [ZaJ (p:=givesB t s.fact) (r:=true),ZaJ (p:=givesB t s.fact) (r:=true)]
       .cases r.thn.any (givesB t s.fact) with
        |true=>exact ⟨_,rfl,rfl⟩
        |false=>exact ⟨_,rfl,rfl⟩
       .intro i a I;unfold givesB;rw [yp rfl,ZfJ _ _ yE,A0];cases (XJ (YW a.pattern t.binding)).2 with
        |false=>rfl
        |true=>
         rw [yp rfl,Zmt,A0];cases decide ((XJ (YW a.pattern t.binding)).1=s.fact)<;>rfl
       .intro i a I;unfold givesB;rw [Zbm,A0];cases (XJ (YW a.pattern t.binding)).2 with
        |false=>rfl
        |true=>
         rw [yp rfl,Xj,A0];cases decide ((XJ (YW a.pattern t.binding)).1=s.fact)<;>rfl
     .rw [yn A,yn A];exact ⟨_,rfl,rfl⟩
    .intro j u acc ha;exact ZDg F u acc (by simp at ha;omega)
   .intro j u acc ha;simp only[BC,AK]at ha;by_cases A:Zev before u=true
    .obtain ⟨q,e,L⟩:=Zv5 A;rw [yp A,e,A0,L,Zj _ yE];unfold Zev at A;rw [decide_eq_true_iff]at A;rw [yn (by simp;omega),yn (by simp;omega)]
    .rw [yn A];unfold Zev at A;rw [decide_eq_true_iff]at A;by_cases E:u<0
     .rw [yp (decide_eq_true E)]
     .rw [yn (by simpa using E),yp (decide_eq_true yE)]
theorem Zny{α:Type}:∀{l:List α}{i:Nat}{D C:Nat->α->Unit->Option (Unit ⊕ Bool)},(∀j x,l[j]?=some x->∃v:Bool,D (i+j) x ()=(if v=true then some (.inl ()) else some (.inr false))/\C (i+j) x ()=if v=true then some (.inl ()) else some (.inr false))->∃w,forL D (fun _=>some true) l i ()=some w/\forL C (fun _=>some true) l i ()=some w
 | [],_,_,_,_=>⟨true,rfl,rfl⟩
 |x::l,i,D,C,h=>by
  obtain ⟨v,B,A⟩:=h 0 x rfl;rw [BD]at B A;cases v with
  |false=>exact ⟨false,Z5 B,Z5 A⟩
  |true=>
   rw [ZO (s':=()) B,ZO (s':=()) A];exact Zny fun j y E=>by
    have:=h (j+1) y (by simpa using E)
    rwa [show i+(j+1)=i+1+j by omega]at this
theorem Zsc{R:List Zf}(B:XD R)(base:List Za)(b:base.length<=1048576)(a:List Zz)(hs:∀s∈a,s.uses.length<=1048576):∃v,Zgl R base a=some v/\QR R base a=some v:=by
 obtain ⟨M,C,I,H,G⟩:=Zs7 B base b;unfold Zgl QR;rw [I,H,A0,A0];cases C with
 |false=>exact ⟨_,rfl,rfl⟩
 |true=>
  simp only[if_true];by_cases F:60<a.length
  .rw [yp (by simp;omega),yp (by simp;omega)];exact ⟨_,rfl,rfl⟩
  .rw [yn (by simp;omega),yn (by simp;omega)];refine Zny fun j x A=>?_;have hj:=(AD.1 A).1;obtain ⟨v,E,D⟩:=Zyv B base M G.len (BE 0 (BF j a)) (by simp;omega) x (hs x (AJ A));refine ⟨v,?_,?_⟩
   .rw [AK,Zj _ ⟨yE,yE⟩,D,A0]
   .rw [AK,Zj _ ⟨yE,yE⟩,E,A0]
end
section
open Classical
theorem ZuK{β:Type}{P:Zh->β->Prop}:∀(c:List (Zh×β)) (s:List Zh×List β),(∀x∈c,P x.1 x.2)->s.2.length=s.1.length->(∀(k:Nat) (q:Zh) (o:β),s.1[k]?=some q->s.2[k]?=some o->P q o)->∀(k:Nat) (q:Zh) (o:β),(c.foldl XC s).1[k]?=some q->(c.foldl XC s).2[k]?=some o->P q o
 | [],s,_,_,h=>h
 |x::c,s,hc,hl,h=>by
  rw [Aq];refine ZuK c (XC s x) (fun y E=>hc y (by simp [E])) ?_ ?_
  .unfold XC;split
   .exact hl
   .simp [hl]
  .intro k q o A B;unfold XC at A B;split at A
   .rename_i D;rw [yp D]at B;exact h k q o A B
   .rename_i D;rw [yn D]at B;rcases Aj k s.1.length with C|C|C
    .rw [As C]at A;rw [As yE]at B;exact h k q o A B
    .subst C;rw [Aw (AE _)]at A;rw [<-hl,Aw (AE _)]at B;simp at A B;subst A B;exact hc x yG
    .rw [AW (by simp;omega)]at A;simp at A
def ZBW{β:Type}(oF:Zf->Zw->β)(z:β)(R:List Zf)(base F:List Za)(q:Zh)(o:β):Prop:=
 (∃f∈base,q={ for_:=Yd F f,inn:=[],outs:=[] }/\o=z)\/∃r∈R,∃t∈ZD (QB r) F,∃a∈r.thn,q=Yy F r t a/\o=oF r t
theorem Zum{β:Type}(A:Zf->Zw->β)(z:β)(R:List Zf)(base F:List Za)(k:Nat)(q:Zh)(o:β)(C:(YP A F z R base).1[k]?=some q)(D:(YP A F z R base).2[k]?=some o):ZBW A z R base F q o:=by
 refine ZuK (P:=ZBW A z R base F) (R.flatMap (Zf7 A F)) (Zcv F base,base.map fun _=>z) ?_ (by simp [Zcv]) ?_ k q o C D
 .intro x B;obtain ⟨r,G,B⟩:=AH.1 B;obtain ⟨t,E,B⟩:=AH.1 B;obtain ⟨a,H,rfl⟩:=AS.1 B;exact .inr ⟨r,G,t,E,a,H,rfl,rfl⟩
 .intro k q o C D;simp only[Zcv,BT,AM]at C D;obtain ⟨f,I,rfl⟩:=C;obtain ⟨_,_,rfl⟩:=D;exact .inl ⟨f,AJ I,rfl,rfl⟩
def ZcD(out:List Zz)(x:Za):Int:=ZaO (fun s:Zz=>decide (s.fact=x)) out 0
def mkS(F:List Za)(Q:List Zh)(O:List Yz)(out:List Zz)(k:Int):Zz:=
 { fact:=ZxB F (((Q[k.toNat]?).map (·.for_)).getD 0),rule:=((O[k.toNat]?).map (·.rule)).getD ⟨#[]⟩,uses:=(((O[k.toNat]?).map (·.facts)).getD []).map (ZcD out) }
def XB(F:List Za)(Q:List Zh)(O:List Yz)(l:List Int):List Zz:=l.foldl (fun out k=>out++[mkS F Q O out k]) []
theorem Zit(F:List Za)(Q:List Zh)(O:List Yz)(l:List Int)(k:Int):XB F Q O (l++[k])=XB F Q O l++[mkS F Q O (XB F Q O l) k]:=by
 unfold XB;rw [List.foldl_append];rfl
theorem Zps{α:Type}{P:List α->Prop}(B:P [])(h:∀p x,P p->P (p++[x]))(l:List α):P l:=by
 have:∀n (l:List α),l.length=n->P l:=by
  intro n;induction n with
  |zero=>intro l A;rw [AX A];exact B
  |succ n ih=>
   intro l A;obtain ⟨p,x,rfl⟩:∃p x,l=p++[x]:=⟨l.dropLast,l.getLast (by intro e;simp [e]at A),(AY _).symm⟩
   exact h p x (ih p (by simpa using A))
 exact this _ l rfl
theorem ZjU(F:List Za)(Q:List Zh)(O:List Yz)(l:List Int):(XB F Q O l).length=l.length:=
 Zps (P:=fun l=>(XB F Q O l).length=l.length) rfl (fun p x A=>by rw [Zit,AP,AP,A];rfl) l
theorem ZxX{F:List Za}{Q:List Zh}{O:List Yz}:∀{l:List Int}{i:Nat}{s:Zz},(XB F Q O l)[i]?=some s->∃p k q,l=p++k::q/\p.length=i/\s=mkS F Q O (XB F Q O p) k/\(XB F Q O l).take i=XB F Q O p:=by
 intro l;refine Zps (P:=fun l=>∀{i:Nat} {s:Zz},(XB F Q O l)[i]?=some s->∃p k q,l=p++k::q/\p.length=i/\s=mkS F Q O (XB F Q O p) k/\(XB F Q O l).take i=XB F Q O p) ?_ ?_ l
 .intro i s h;simp [XB]at h
 .intro p x B i s h;have hl:=ZjU F Q O p;rw [Zit]at h ⊢;by_cases hi:i<p.length
  .rw [As yE]at h;obtain ⟨A,k,q,G,E,D,C⟩:=B h;refine ⟨A,k,q++[x],by rw [G];simp,E,D,?_⟩;rw [Ax yE,C]
  .have a:i<(XB F Q O p++[mkS F Q O (XB F Q O p) x]).length:=(AD.1 h).1;have b:i=p.length:=by simp at a;omega
   subst b;rw [<-hl,Aw (AE _)]at h;simp at h;exact ⟨p,x,[],rfl,rfl,h.symm,by rw [<-hl,Ax (AE _),BB]⟩
section
variable {R:List Zf} {base F:List Za}
end
end
section
open Classical
theorem Ya.logical1{R:List Zf}{base F:List Za}(h:Ya R base F):∀r∈R,ZY r=true:=fun r A=>(h.rule A).1
theorem Ya.factsM{R:List Zf}{base F:List Za}(h:Ya R base F)(l:List Int):Z7 (XY F l)=true:=
 Ztq (h.few l).len (ZCB ZlJ h.good.asc) (h.few l).ok
end
section
open Classical
theorem ZmC(n:BYT):∀(l:List Zf) (i:Nat),(∃z,forL (σ:=Unit) (ρ:=Int) (fun (G:Nat) (F:Zf) _=>if (sEq F.name n)=true then some (.inr (G:Int)) else some (.inl ())) (fun _=>some (-1)) l i ()=some z/\((z=-1/\∀r∈l,r.name≠n)\/∃j r,z=((i+j:Nat):Int)/\l[j]?=some r/\r.name=n/\∀k u,k<j->l[k]?=some u->u.name≠n))
 | [],i=>⟨-1,rfl,.inl ⟨rfl,yG⟩⟩
 |x::l,i=>by
  by_cases A:x.name=n
  .exact ⟨(i:Int),Z5 (by rw [yp (ZV.2 A)]),.inr ⟨0,x,yG,rfl,A,fun k u I=>by omega⟩⟩
  .obtain ⟨z,e,H⟩:=ZmC n l (i+1);refine ⟨z,(ZO (s':=()) (by rw [yn (by rw [ZV];exact A)])).trans e,?_⟩;rcases H with ⟨E,D⟩|⟨j,r,E,D,K,J⟩
   .refine .inl ⟨E,fun r B=>?_⟩;rcases Ah.1 B with rfl|B
    .exact A
    .exact D r B
   .refine .inr ⟨j+1,r,by rw [E];congr 1;omega,by simpa using D,K,fun k u I C=>?_⟩;cases k with
    |zero=>simp at C;subst C;exact A
    |succ k=>exact J k u yE (by simpa using C)
theorem Zws(l:List Zf)(n:BYT):(Zgw l n=-1/\∀r∈l,r.name≠n)\/∃j r,Zgw l n=((j:Nat):Int)/\l[j]?=some r/\r.name=n/\∀k u,k<j->l[k]?=some u->u.name≠n:=by
 obtain ⟨z,e,B⟩:=ZmC n l 0
 have A:Qz l n=some z:=e
 rw [Zao]at A
 obtain rfl:=AL A
 simpa using B
theorem ZKE(R:List Zf):YK R=true↔R.length<=6/\(∀r∈R,YA r=true)/\R.Pairwise fun a b=>a.name≠b.name:=by
 unfold YK
 rw [AB,decide_eq_true_iff]
 refine and_congr_right fun _=>?_
 constructor
 .intro h
  have f:∀j r,R[j]?=some r->YA r=true/\Zgw R r.name=((j:Nat):Int):=fun j r B=>by
   have:=Zi0 h j r B
   unfold ZhL at this
   rw [AB,beq_iff_eq,AK]at this
   exact this
  refine ⟨fun r G=>?_,AZ.2 fun i j hi B K e=>?_⟩
  .obtain ⟨j,B⟩:=List.getElem?_of_mem G
   exact (f j r B).1
  .have h1:=(f i _ (A9 hi)).2
   have h2:=(f j _ (A9 B)).2
   rw [e]at h1
   omega
 .rintro ⟨h1,h2⟩
  have key:∀(d c:List Zf),R=c++d->Zav (ZhL R) d c.length=true:=by
   intro d
   induction d with
   |nil=>intro c _;rfl
   |cons x d ih=>
    intro c e
    simp only[Zav,AB]
    refine ⟨?_,by have:=ih (c++[x]) (by rw [e];simp);simpa using this⟩
    unfold ZhL
    rw [AB,beq_iff_eq]
    refine ⟨h1 x (by rw [e];simp),?_⟩
    have D:R[c.length]?=some x:=by rw [e];simp
    rcases Zws R x.name with ⟨_,C⟩|⟨j,r,J,C,I,H⟩
    .exact absurd rfl (C x (by rw [e];simp))
    .rw [J]
     congr 1
     rcases Aj j c.length with A|A|A
     .exfalso
      obtain ⟨F,M⟩:=AD.1 C
      obtain ⟨E,L⟩:=AD.1 D
      exact AZ.1 h2 j c.length F E A (by rw [M,L,I])
     .exact A
     .exact absurd rfl (H c.length x A D)
  exact key R [] rfl
end
section
open Classical
theorem ZKP{F:List Za}:∀n (l:List Zu),l.length=n->∀t∈ZD l F,∀u∈ZD l F,t.facts=u.facts->t=u:=by
 intro n;induction n with
 |zero=>
  intro l h t B u A _;rw [AX h]at B A;simp [ZD]at B A;rw [B,A]
 |succ n ih=>
  intro l h t B u A e;obtain ⟨p,x,rfl⟩:∃p x,l=p++[x]:=⟨l.dropLast,l.getLast (by intro e;simp [e]at h),(AY _).symm⟩
  have a:=ih p (by simpa using h);rw [Xx]at B A;obtain ⟨s,D,B⟩:=AH.1 B;obtain ⟨v,C,A⟩:=AH.1 A;unfold ZbT at B A;by_cases E:x.kind=1
  .rw [yp E]at B A;obtain ⟨f,_,J⟩:=AU.1 B;obtain ⟨g,_,I⟩:=AU.1 A;obtain ⟨b,K,rfl⟩:=AM.1 J;obtain ⟨c,G,rfl⟩:=AM.1 I;obtain ⟨L,H⟩:=List.append_inj' e rfl;simp only[List.cons.injEq,and_true]at H;subst H;obtain rfl:=a s D v C L;rw [K]at G;obtain rfl:=AL G;rfl
  .rw [yn E]at B A;split at B
   .split at A
    .simp only[List.mem_singleton]at B A;subst B A;exact a _ D _ C e
    .simp at A
   .simp at B
theorem ZKz{α β:Type}{q:α->Bool}{g:α->β}{z:β}{t:α}:∀{l:List α}{i:Nat}{body:Nat->α->Unit->Option (Unit ⊕ β)},t∈l->q t=true->(∀u∈l,q u=true->u=t)->(∀j a,body j a ()=if q a=true then some (.inr (g a)) else some (.inl ()))->forL body (fun _=>some z) l i ()=some (g t)
 | [],_,_,h,_,_,_=>by simp at h
 |a::l,i,body,h,hq,hu,hb=>by
  by_cases ha:q a=true
  .rw [Z5 (by rw [hb,yp ha]),hu a yG ha]
  .rw [ZO (s':=()) (by rw [hb,yn ha])];refine ZKz ?_ hq (fun u A=>hu u (by simp [A])) hb;rcases Ah.1 h with rfl|h
   .exact absurd hq ha
   .exact h
theorem ZKH{r:Zf}(E:Q6 r)(C:YA r=true){M:List Za}(F:Z7 M=true){t:Zw}(A:t∈ZD r.cond M):Qf r M t.facts=some (t,true):=by
 unfold Qf;rw [ZfZ r M E,A0,yp (by rw [C,F];rfl)];exact ZKz (q:=fun u:Zw=>decide (u.facts=t.facts)) (g:=fun u=>(u,true)) A yG (fun u B D=>ZKP _ r.cond rfl u B t A (of_decide_eq_true D)) (fun j a=>by rw [Zcx,A0])
theorem ZK8{R:List Zf}(h:YK R=true){r:Zf}(B:r∈R):∃j:Nat,Zgw R r.name=((j:Nat):Int)/\R[j]?=some r:=by
 obtain ⟨_,_,F⟩:=(ZKE R).1 h
 rcases Zws R r.name with ⟨_,A⟩|⟨j,u,G,A,C,_⟩
 .exact absurd rfl (A r B)
 .refine ⟨j,G,?_⟩
  obtain ⟨i,hi⟩:=Ay.1 B
  obtain ⟨b,E⟩:=AD.1 hi
  obtain ⟨c,D⟩:=AD.1 A
  have d:=AZ.1 F
  rcases Aj i j with a|rfl|a
  .exact absurd (by rw [E,D,C]) (d i j b c a)
  .exact hi
  .exact absurd (by rw [E,D,C]) (d j i c b a)
theorem ZBL{r:Zf}(h:YA r=true):r.name≠⟨#[]⟩:=by
 unfold YA at h;simp only[AB]at h;have hn:=h.1.1.1.1.1.1.1.1.1;unfold X0 at hn;rw [AB]at hn;have h1:=(Qe hn.1).1;intro e;rw [e]at h1;exact absurd h1 yF
theorem ZK6{a:Zy}{t:Zw}(h:Yt (Yn a t)=true):givesB t (Yn a t) a=true:=by
 unfold givesB Yn;unfold Yn at h;cases hi:YW a.pattern t.binding with
 |none=>rw [hi]at h;exact absurd h yF
 |some g=>simp [XJ]
def Zx4(R:List Zf)(given M:List Za)(before:List Zz)(s:Zz):Prop:=
 (s.rule=⟨#[]⟩/\s.uses=[]/\s.fact∈given)\/∃r∈R,∃t∈ZD r.cond M,∃a∈r.thn,s.rule=r.name/\s.fact=Yn a t/\(∀u∈s.uses,Zev before u=true)/\s.uses.map (Zm8 before)=t.facts
theorem ZK0{R:List Zf}(N:XD R)(L:YK R=true)(K:∀r∈R,ZY r=true){b M:List Za}(J:Z7 M=true){before:List Zz}(T:before.length<=60){s:Zz}(hs:s.uses.length<=1048576)(h:Zx4 R b M before s):ZbN R b M before s=some true:=by
 have d:=(Qk J).2;unfold ZbN;rcases h with ⟨C,F,E⟩|⟨r,B,t,G,a,H,C,F,E,O⟩
 .obtain ⟨j,D,_⟩:=Za6 E;rw [yp (by rw [C];rfl),yp (by rw [F];rfl),Zbn,D];simp
 .have hv:=(Zlx L).2 r B;obtain ⟨j,D,f⟩:=ZK8 L B;rw [yn (by rw [C,ZV];exact ZBL hv),Zao,A0,C,D,yn yG,ZhP (p:=Zev before) (g:=Zm8 before) (z:=false) (l:=s.uses) (acc:=[])]
  .rw [yp (An.2 E),Zar,f,A0,BU,O,ZKH (N.s r B) hv J G,A0];simp only[if_true];rw [ZaJ (p:=givesB t s.fact) (r:=true),yp (BV.2 ⟨a,H,by rw [F];exact ZK6 (Zw0 (K r B) ((Zs5 (K r B) d t).1 G).1 H)⟩)];intro i c S;unfold givesB;rw [Zbm,A0];cases (XJ (YW c.pattern t.binding)).2 with
   |false=>rfl
   |true=>
    rw [yp rfl,Xj,A0];cases decide ((XJ (YW c.pattern t.binding)).1=s.fact)<;>rfl
  .intro j u acc ha;simp only[BC,AK]at ha;by_cases A:Zev before u=true
   .obtain ⟨q,e,P⟩:=Zv5 A;rw [yp A,e,A0,P,Zj _ yE];unfold Zev at A;rw [decide_eq_true_iff]at A;rw [yn (by simp;omega),yn (by simp;omega)]
   .rw [yn A];unfold Zev at A;rw [decide_eq_true_iff]at A;by_cases I:u<0
    .rw [yp (decide_eq_true I)]
    .rw [yn (by simpa using I),yp (decide_eq_true yE)]
theorem ZKy{α:Type}:∀{l:List α}{i:Nat}{body:Nat->α->Unit->Option (Unit ⊕ Bool)},(∀j x,l[j]?=some x->body (i+j) x ()=some (.inl ()))->forL body (fun _=>some true) l i ()=some true
 | [],_,_,_=>rfl
 |x::l,i,body,h=>by
  have h0:=h 0 x rfl;rw [BD]at h0;rw [ZO (s':=()) h0];exact ZKy fun j y A=>by
   have:=h (j+1) y (by simpa using A)
   rwa [show i+(j+1)=i+1+j by omega]at this
theorem ZKL{R:List Zf}(C:XD R)(F:YK R=true)(E:∀r∈R,ZY r=true){b M:List Za}(D:Z7 M=true)(B:Za9 R b=some (M,true)){a:List Zz}(G:a.length<=60)(hs:∀s∈a,s.uses.length<=1048576)(h:∀i s,a[i]?=some s->Zx4 R b M (a.take i) s):QR R b a=some true:=by
 unfold QR;rw [B,A0];simp only[if_true];rw [yn (by simp;omega)];refine ZKy fun j x A=>?_;have hj:=(AD.1 A).1;rw [AK,Zj _ ⟨yE,yE⟩];have:=ZK0 C F E D (before:=BE 0 (BF j a)) (by simp;omega) (hs x (AJ A)) (by rw [Ap];exact h j x A);rw [this,A0];rfl
end
section
open Classical
theorem Zqd(a:List Zz)(x:Za):ZaZ a x=some (ZcD a x):=by
 unfold ZaZ ZcD;refine ZfC (s:=()) (fin:=fun _=>some (-1)) (p:=fun s:Zz=>decide (s.fact=x)) rfl fun i s _=>?_;rw [Zmt,A0];cases decide (s.fact=x)<;>rfl
def toI(c:Yc):Yz:={ rule:=c.rule,facts:=c.token.facts }
theorem Zt5{β γ:Type}(g:β->γ):∀(c:List (Zh×β)) (s:List Zh×List β),((c.map fun p=>(p.1,g p.2)).foldl XC (s.1,s.2.map g))=((c.foldl XC s).1,(c.foldl XC s).2.map g)
 | [],_=>rfl
 |x::c,s=>by
  have e:XC (s.1,s.2.map g) (x.1,g x.2)=((XC s x).1,(XC s x).2.map g):=by
   unfold XC;by_cases h:x.1∈s.1
   .simp only[h,if_true]
   .simp only[h,if_false,List.map_append,B5,List.map_nil]
  rw [B5,Aq,Aq,e];exact Zt5 g c (XC s x)
theorem Zr4(R:List Zf)(base F:List Za):(YP Zfg F noI R base).2=(YP Zk5 F noS R base).2.map toI:=by
 have h:=Zt5 toI (R.flatMap (Zf7 Zk5 F)) (Zcv F base,base.map fun _=>noS);have B:(R.flatMap (Zf7 Zk5 F)).map (fun p=>(p.1,toI p.2))=R.flatMap (Zf7 Zfg F):=by
  rw [BX];congr 1
  funext r
  rw [Zf7,Zf7,BX];congr 1
  funext t
  simp [Zoq,toI,Zk5,Zfg]
 have A:(base.map fun _=>noS).map toI=base.map fun _=>noI:=by
  rw [BY];rfl
 rw [B,A]at h;unfold YP;rw [h]
section
variable {R:List Zf} {base F:List Za}
theorem Zu4(H:Ya R base F)(a:(Yg R F base).length<=60){x:Int}{l:List Int}(G:Zso { nodes:=(F.length:Int),reasons:=Yg R F base } x l){k:Int}(E:k∈l):
  ∃c o,0<=k/\k.toNat<(Yg R F base).length/\(Yg R F base)[k.toNat]?=some c/\(YP Zfg F noI R base).2[k.toNat]?=some o/\ZBW Zfg noI R base F c o/\0<=c.for_/\c.for_.toNat<F.length:=by
 have hB:=Q4.of H a;obtain ⟨y,J,B⟩:=G.good.sup k E;obtain ⟨L,D,K,c,A,O,N⟩:=Zf9 B;rw [<-J]at A B;simp only at A D;obtain ⟨I,M⟩:=Zfo Zfg F noI R base;have b:k.toNat<(Yg R F base).length:=(AD.1 A).1;have C:(YP Zfg F noI R base).2[k.toNat]?=some _:=A9 yE;exact ⟨c,_,B,b,A,C,Zum Zfg noI R base F k.toNat c _ (by rw [I];exact A) C,yE,yE⟩
theorem Znz(B:Ya R base F){c:Zh}{o:Yz}(h:ZBW Zfg noI R base F c o):o.rule.size<=8/\o.facts.length<=4:=by
 rcases h with ⟨f,_,_,rfl⟩|⟨r,A,t,C,a,_,_,rfl⟩
 .exact ⟨yF,yF⟩
 .have h1:=(B.tokS A C).len;refine ⟨?_,by show t.facts.length<=4;omega⟩;have hl:=(B.rule A).1;unfold ZY at hl;simp only[AB]at hl;have hv:=hl.1.1;unfold YA at hv;simp only[AB]at hv;have hn:=hv.1.1.1.1.1.1.1.1.1;unfold X0 at hn;rw [AB]at hn;exact (Qe hn.1).2
theorem ZzF{O:List Yz}{Q:List Zh}{a:List Zz}{k:Int}{c:Zh}{o:Yz}(B:Q[k.toNat]?=some c)(A:O[k.toNat]?=some o):mkS F Q O a k={ fact:=ZxB F c.for_,rule:=o.rule,uses:=o.facts.map (ZcD a) }:=by unfold mkS;rw [B,A];rfl
theorem ZqW{y:Int}{f:Za}(h:F[y.toNat]?=some f):ZxB F y=f:=by unfold ZxB;rw [h]
end
theorem Zn5{R:List Zf}{base F:List Za}(A:Ya R base F)(a:(Yg R F base).length<=60){x:Int}{l:List Int}(B:Zso { nodes:=(F.length:Int),reasons:=Yg R F base } x l):(XB F (Yg R F base) (YP Zfg F noI R base).2 l).length<=60/\∀s∈XB F (Yg R F base) (YP Zfg F noI R base).2 l,Xv s<=80/\s.uses.length<=4:=by
 have hB:=Q4.of A a;refine ⟨by rw [ZjU];exact B.good.len hB,fun s C=>?_⟩;obtain ⟨i,hi⟩:=Ay.1 C;obtain ⟨p,k,q,I,_,rfl,_⟩:=ZxX hi;obtain ⟨c,o,L,K,G,D,E,N,J⟩:=Zu4 A a B (k:=k) (by rw [I];simp);obtain ⟨M,H⟩:=Znz A E;obtain ⟨g,hg⟩:∃g,F[c.for_.toNat]?=some g:=⟨_,A9 J⟩
 rw [ZzF G D,ZqW hg];have hgc:=ZrC (A.good.ok g (AJ hg));have e:Xv { fact:=g,rule:=o.rule,uses:=o.facts.map (ZcD (XB F (Yg R F base) (YP Zfg F noI R base).2 p)) }=ZaK g+o.rule.size+(o.facts.map (ZcD (XB F (Yg R F base) (YP Zfg F noI R base).2 p))).length:=rfl;rw [BG]at e;refine ⟨by rw [e];omega,?_⟩;show (o.facts.map _).length<=4
 rw [BG];exact H
theorem Zuj(R:List Zf)(base:List Za):ZyY R base=Zbv R base/\QZ R base=XI R base:=⟨rfl,rfl⟩
theorem ZCJ{β:Type}{F:List Za}{g:List Zh×List β}(h:g.1.length<=60):ZpW F g=(F,{ nodes:=(F.length:Int),reasons:=g.1 },g.2,true):=by
 unfold ZpW;rw [yn yE]
end
theorem Zs2(y:Int):0<=ZoB .i64 y 255/\ZoB .i64 y 255<=255:=by
 have e:ZoB .i64 y 255=(((BitVec.ofInt 64 y &&& BitVec.ofInt 64 255).toNat:Nat):Int):=by
  show i64.wrap (((BitVec.ofInt 64 y &&& BitVec.ofInt 64 255).toNat:Nat):Int)=_
  have:=BZ (n:=(BitVec.ofInt 64 y).toNat) (m:=(BitVec.ofInt 64 255).toNat);rw [BitVec.toNat_and];have A:(BitVec.ofInt 64 255).toNat=255:=by decide
  exact Yo yE yE
 have:=BZ (n:=(BitVec.ofInt 64 y).toNat) (m:=(BitVec.ofInt 64 255).toNat);rw [e,BitVec.toNat_and];have A:(BitVec.ofInt 64 255).toNat=255:=by decide
 omega
structure ZK (c:Zi):Prop where
 i:0<=c.i
 b:c.b.length<=4096
theorem ZBb(a:List Int)(h:a.length<=4096):∃c,Zln a=some c/\ZK c:=by
 unfold Zln;have key:∀(l:List Int) (i:Nat) (s:Int),∃c,forL (fun (B:Nat) (A:Int) (d:Int)=>
   if (decide ((B:Int)<4000))=true then
    some (.inl (ZoB .i64 (i64.wrap ((i64.wrap ((i64.wrap (d*167))+i64.wrap A))+29)) 1073741823))
   else
    some (.inr ({ b:=a,i:=0,h:=d }:Zi))) (fun d=>some ({ b:=a,i:=0,h:=d }:Zi)) l i s=some c/\ZK c:=by
  intro l;induction l with
  |nil=>intro i s;exact ⟨_,rfl,Int.le_refl _,h⟩
  |cons x l ih=>
   intro i s;cases hd:decide ((i:Int)<4000) with
   |true=>
    obtain ⟨c,D,C⟩:=ih (i+1) (ZoB .i64 (i64.wrap ((i64.wrap ((i64.wrap (s*167))+i64.wrap x))+29)) 1073741823);exact ⟨c,by rw [ZO (by rw [hd,yp rfl])];exact D,C⟩
   |false=>exact ⟨_,by rw [Z5 (by rw [hd];rfl)],Int.le_refl _,h⟩
 exact key a 0 _
theorem ZyS{c:Zi}(h:ZK c):∃x c',ZdL c=some (x,c')/\0<=x/\x<=255/\ZK c':=by
 unfold ZdL;cases hd:decide (c.i<(c.b.length:Int)) with
 |true=>
  have B:c.i<(c.b.length:Int):=by simpa using hd
  have hi:=h.i;have hb:=h.b;have A:c.i.toNat<c.b.length:=by omega
  rw [yp rfl,show atI c.b c.i=some (c.b[c.i.toNat]) by unfold atI;rw [yp hi,A9 A]];refine ⟨_,_,rfl,(Zs2 _).1,(Zs2 _).2,?_,hb⟩;show 0<=i64.wrap (c.i+1)
  rw [Yo yE yE];omega
 |false=>
  rw [yn yG];exact ⟨_,_,rfl,(Zs2 _).1,(Zs2 _).2,h.i,h.b⟩
theorem Z1{c:Zi}(h:ZK c){n:Int}(C:0<n)(D:n<=256):∃x c',ZL c n=some (x,c')/\0<=x/\x<n/\ZK c':=by
 unfold ZL;obtain ⟨x,c',e,A,_,B⟩:=ZyS h;rw [yn (by simp;omega),yp (by simp;omega),e];refine ⟨Int.tmod x n,c',?_,Ba _ A,Bb _ C,B⟩;show chk _ _=_
 rw [Zj _ yE]
theorem ZgC{c:Zi}(h:ZK c){n:Int}(C:0<n)(B:n<=256):∃b c',ZaI c n=some (b,c')/\ZK c':=by
 obtain ⟨x,c',e,_,_,A⟩:=Z1 h C B;exact ⟨x==0,c',by unfold ZaI;rw [e];rfl,A⟩
theorem Zcq{c:Zi}(h:ZK c){l:List Int}(F:0<l.length)(E:l.length<=256):∃x c',QE c l=some (x,c')/\x∈l/\ZK c':=by
 obtain ⟨x,c',e,B,A,D⟩:=Z1 h (n:=(l.length:Int)) yE yE;have C:x.toNat<l.length:=by omega
 refine ⟨l[x.toNat],c',?_,AN _,D⟩;unfold QE;rw [e];show (atI l x).bind _=_
 rw [show atI l x=some l[x.toNat] by unfold atI;rw [yp B,A9 C]];rfl
def Qj(p s:BYT):Prop:=∃a b,a<=b/\b<=s.size/\p=s.extract a b
theorem Qj.size{p s:BYT}(h:Qj p s):p.size<=s.size:=by
 obtain ⟨a,b,B,A,rfl⟩:=h;rw [Az];omega
theorem ZtG(s:BYT)(a b:Nat):toL (s.extract a b)=((toL s).drop a).take (b - a):=by
 unfold toL;rw [ByteArray.data_extract,Array.toList_extract,List.extract_eq_take_drop]
theorem Qj.infix{p s:BYT}(h:Qj p s):toL p <:+: toL s:=by
 obtain ⟨a,b,B,A,rfl⟩:=h;rw [ZtG];refine ⟨(toL s).take a,((toL s).drop a).drop (b - a),?_⟩;rw [BA,Bc,Bc]
theorem Zwp{σ ρ:Type}{s sep:BYT}(F:0<sep.size)(st:List BYT->Nat->Nat->σ)(g:List BYT->ρ){body:σ->Option (σ ⊕ ρ)}
  (I:∀row a i,a<=i->i+sep.size<=s.size->row.length<=i->body (st row a i)=some (.inl (if sEq (s.extract i (i+sep.size)) sep=true then st (row++[s.extract a i]) (i+sep.size) (i+sep.size) else st row a (i+1))))
  (G:∀row a i,a<=i->i<=s.size->¬i+sep.size<=s.size->row.length<=i->body (st row a i)=some (.inr (g (row++[s.extract a s.size])))):
  ∃l,iter body (st [] 0 0)=some (g l)/\l.length<=s.size+1/\∀p∈l,Qj p s:=by
 have key:∀m row a i,s.size - i<=m->a<=i->i<=s.size->row.length<=i->(∀p∈row,Qj p s)->∃l,iter body (st row a i)=some (g l)/\l.length<=s.size+1/\∀p∈l,Qj p s:=by
  intro m;induction m with
  |zero=>
   intro row a i H D hi E B;have C:¬i+sep.size<=s.size:=by omega
   refine ⟨_,ZU (G row a i D hi C E),by simp;omega,fun p A=>?_⟩;rcases AI.1 A with A|A
   .exact B p A
   .simp at A;subst A;exact ⟨a,s.size,yE,AE _,rfl⟩
  |succ m ih=>
   intro row a i H D hi E B;by_cases C:i+sep.size<=s.size
   .rw [Z6 (I row a i D C E)];split
    .refine ih _ _ _ yE (AE _) C (by simp;omega) fun p A=>?_;rcases AI.1 A with A|A
     .exact B p A
     .simp at A;subst A;exact ⟨a,i,D,hi,rfl⟩
    .exact ih _ _ _ yE yE yE yE B
   .refine ⟨_,ZU (G row a i D hi C E),by simp;omega,fun p A=>?_⟩;rcases AI.1 A with A|A
    .exact B p A
    .simp at A;subst A;exact ⟨a,s.size,yE,AE _,rfl⟩
 exact key s.size [] 0 0 yE (AE _) (Nat.zero_le _) (AE _) yG
theorem Qj.ext(s:BYT){a b:Nat}(h:a<=b)(A:b<=s.size):Qj (s.extract a b) s:=⟨a,b,h,A,rfl⟩
theorem Qj.trans{p q s:BYT}(h:Qj p q)(k:Qj q s):Qj p s:=by
 obtain ⟨a,b,D,A,rfl⟩:=h;obtain ⟨c,d,C,B,rfl⟩:=k;rw [Az]at A;refine ⟨c+a,c+b,yE,yE,?_⟩;rw [ByteArray.extract_extract];congr 1
 omega
theorem Ql{s sep:BYT}(hs:s.size<=1000)(A:0<sep.size)(F:sep.size<=10):∃l,Qd s sep=some l/\l.length<=s.size+1/\∀p∈l,Qj p s:=by
 unfold Qd;rw [yn (by rw [ZV];intro e;rw [e]at A;exact absurd A yF)];refine Zwp A (fun row f i=>(row,(f:Int),(i:Int))) (fun l=>l) ?_ ?_
 .intro row f i C hi B;have e:i64.wrap ((i:Int)+(sep.size:Int))=((i+sep.size:Nat):Int):=by rw [Yo yE yE];omega
  have D:i64.wrap ((i:Int)+1)=((i+1:Nat):Int):=by rw [Yo yE yE];omega
  simp only[e,D,AC];rw [yp (by simp;omega),Zj _ yE];split
  .rw [Zj _ yE,Zj _ yE]
  .rfl
 .intro row f i C hi E B;have e:i64.wrap ((i:Int)+(sep.size:Int))=((i+sep.size:Nat):Int):=by rw [Yo yE yE];omega
  simp only[e,AC];rw [yn (by simp;omega),Zj _ yE,Zj _ yE]
theorem ZyA{α:Type}{l:List α}(h:¬((l.length:Int) != 2)=true):∃x y,l=[x,y]:=by
 have A:l.length=2:=by simp at h;omega
 match l,A with
 | [x,y],_=>exact ⟨x,y,rfl⟩
theorem Zwi{s:BYT}(hs:s.size<=1000):∃r a B,ZcN s=some (r,a,B)/\a.length<=s.size+1:=by
 unfold ZcN;obtain ⟨l,e,J,D⟩:=Ql (sep:=⟨#[40]⟩) hs yF yF;rw [e,A0];split
 .exact ⟨_,_,_,rfl,yG⟩
 rename_i F;obtain ⟨x,y,rfl⟩:=ZyA F;have c:(([x,y]:List BYT).length:Int)=2:=rfl;rw [Zj _ (by rw [c];decide)];simp only[show AA 1=1 from rfl,show AA 0=0 from rfl,Aa,Ab,A0];have hy:=(D y yG).size;split
 .exact ⟨_,_,_,rfl,yG⟩
 rename_i E;have C:y.size≠0:=fun e=>E (by rw [e];rfl);have H:i64.wrap ((y.size:Int) - 1)=((y.size - 1:Nat):Int):=by rw [Yo yE yE];omega
 simp only[H];have A:∃b,sAt y ((y.size - 1:Nat):Int)=some b:=by
  unfold sAt;rw [yp yE,AC];exact ⟨y[y.size - 1]'yE,by rw [getElem?_pos]⟩
 obtain ⟨b,A⟩:=A;rw [A,A0];split
 .exact ⟨_,_,_,rfl,yG⟩
 rw [Zj _ yE,AC];split
 .rw [Zj _ yG];exact ⟨_,_,_,rfl,yG⟩
 .rw [Zj _ yG];have I:(y.extract 0 (y.size - 1)).size<=y.size:=by rw [Az];omega
  obtain ⟨k,G,K,_⟩:=Ql (s:=y.extract 0 (y.size - 1)) (sep:=⟨#[44]⟩) yE yF yF;rw [G,A0];exact ⟨_,_,_,rfl,yE⟩
theorem Zhk{s:BYT}(hs:s.size<=1000):∃p A,Yx s=some (p,A)/\p.args.length<=s.size+1:=by
 unfold Yx;obtain ⟨r,a,A,e,ha⟩:=Zwi hs;rw [e,A0];cases A with
 |false=>exact ⟨_,_,rfl,yG⟩
 |true=>
  rw [yp rfl,QJ,A0];split
  .exact ⟨_,_,rfl,ha⟩
  .exact ⟨_,_,rfl,yG⟩
def ZlQ:BYT:=⟨#[110,111,116,32]⟩
theorem ZsO{s:BYT}(hs:s.size<=1000):∃x A,QS s=some (x,A)/\x.pattern.args.length<=s.size+1/\(x.kind=2->Qj ZlQ s):=by
 unfold QS;have F:∀k:Int,∃g,Zge k=some g/\0<g.size/\g.size<=10:=fun k=>by
  unfold Zge;split
  .exact ⟨_,rfl,yF,yF⟩
  .split
   .exact ⟨_,rfl,yF,yF⟩
   .exact ⟨_,rfl,yF,yF⟩
 have key:∀(body:Int->Option (Int ⊕ Zu×Bool)) (Q:Zu×Bool->Prop),(∀k:Nat,3<=k->k<=5->(∃r,body (k:Int)=some (.inr r)/\Q r)\/body (k:Int)=some (.inl ((k+1:Nat):Int)))->(∃r,body 6=some (.inr r)/\Q r)->∃r,iter body 3=some r/\Q r:=by
  intro body Q J E;have b:∀k:Nat,3<=k->k<=6->∃r,iter body (k:Int)=some r/\Q r:=by
   have K:∀m k:Nat,k+m=6->3<=k->∃r,iter body (k:Int)=some r/\Q r:=by
    intro m;induction m with
    |zero=>
     intro k D _;obtain rfl:k=6:=by omega
     obtain ⟨r,e,q⟩:=E;exact ⟨r,ZU e,q⟩
    |succ m ih=>
     intro k D B;rcases J k B yE with ⟨r,e,q⟩|e
     .exact ⟨r,ZU e,q⟩
     .rw [Z6 e];exact ih (k+1) yE yE
   exact fun k B U=>K (6 - k) k yE B
  exact b 3 yE yE
 have fin:∀body:Int->Option (Int ⊕ Zu×Bool),(∃r,iter body 3=some r/\(r.1.pattern.args.length<=s.size+1/\(r.1.kind=2->Qj ZlQ s)))->∃x A,iter body 3=some (x,A)/\x.pattern.args.length<=s.size+1/\(x.kind=2->Qj ZlQ s):=fun _ ⟨r,e,q⟩=>⟨r.1,r.2,e,q⟩
 refine fin _ (key _ (fun r=>r.1.pattern.args.length<=s.size+1/\(r.1.kind=2->Qj ZlQ s)) ?_ ?_)
 .intro k B V;rw [yp (by simp;omega)];obtain ⟨g,O,M,L⟩:=F (k:Int);obtain ⟨l,N,T,S⟩:=Ql hs M L;have P:i64.wrap ((k:Int)+1)=((k+1:Nat):Int):=by rw [Yo yE yE];omega
  rw [O,A0,N,A0,P];split
  .rename_i E;obtain ⟨x,y,rfl⟩:=ZyA (l:=l) (by simp at E ⊢;omega);rw [Zj _ yG];simp only[show AA 1=1 from rfl,show AA 0=0 from rfl,Aa,Ab,A0];rw [Zj _ yG,ZbW,A0];split
   .exact .inl ⟨_,rfl,yG,fun h=>by simp only at h;omega⟩
   .exact .inr rfl
  .exact .inr rfl
 .rw [yn yF];have a:∀(t:BYT),t.size<=s.size->∀C:Int,(C=2->Qj ZlQ s)->∃r,((Yx t).bind fun v=>if v.2=true then some (Sum.inr (({ kind:=C,pattern:=v.1,left:=⟨#[]⟩,right:=⟨#[]⟩ }:Zu),true)) else some (.inr (({ kind:=0,pattern:=({ rel:=⟨#[]⟩,args:=[] }:Zo),left:=⟨#[]⟩,right:=⟨#[]⟩ }:Zu),false)))=some (Sum.inr r:Int ⊕ Zu×Bool)/\(r.1.pattern.args.length<=s.size+1/\(r.1.kind=2->Qj ZlQ s)):=fun t R C D=>by
   obtain ⟨p,A,e,ha⟩:=Zhk (s:=t) yE;rw [e,A0];cases A with
   |true=>exact ⟨_,rfl,by show p.args.length<=_;omega,D⟩
   |false=>exact ⟨_,rfl,yG,fun h=>by simp at h⟩
  split
  .rename_i I;have H:4<s.size:=by simp at I;omega
   rw [Zj _ yE];split
   .rename_i G;have c:=ZV.1 G;exact a _ (by rw [Az];omega) 2 fun _=>by
     unfold ZlQ;rw [<-c];exact Qj.ext s yF (by show AA 4<=_;have:AA 4=4:=rfl;omega)
   .exact a s (AE _) 1 fun h=>by omega
  .exact a s (AE _) 1 fun h=>by omega
theorem ZtJ{s:BYT}(hs:s.size<=1000):∃a A,Q5 s=some (a,A)/\a.pattern.args.length<=s.size+1:=by
 unfold Q5;split
 .exact ⟨_,_,rfl,yG⟩
 obtain ⟨l,e,E,B⟩:=Ql (sep:=⟨#[32]⟩) hs yF yF;rw [e,A0];split
 .exact ⟨_,_,rfl,yG⟩
 rename_i C;obtain ⟨x,y,rfl⟩:=ZyA C;have hy:=(B y yG).size;obtain ⟨p,A,D,ha⟩:=Zhk (s:=y) yE;rw [Zj _ yG];simp only[show AA 1=1 from rfl,show AA 0=0 from rfl,Aa,Ab,A0,D];split
 .rw [Zj _ yG];exact ⟨_,_,rfl,by show p.args.length<=_;omega⟩
 .split
  .rw [Zj _ yG];exact ⟨_,_,rfl,by show p.args.length<=_;omega⟩
  .exact ⟨_,_,rfl,yG⟩
structure Zjr (s:BYT) (r:Zf):Prop where
 cl:r.cond.length<=s.size+1
 tl:r.thn.length<=s.size+1
 ca:∀x∈r.cond,x.pattern.args.length<=s.size+1/\(x.kind=2->Qj ZlQ s)
 ta:∀a∈r.thn,a.pattern.args.length<=s.size+1
theorem Zry{α ρ:Type}{s:BYT}{P:α->Prop}{g:BYT->Option (α×Bool)}{fin:List α->Option ρ}{z:List α->ρ}{Q:ρ->Prop}{l:List BYT}(I:l.length<=2000)(G:∀p∈l,Qj p s)(H:∀p,Qj p s->∃x B,g p=some (x,B)/\P x)(E:∀acc:List α,acc.length<=l.length->(∀x∈acc,P x)->Q (z acc))(b:∀acc:List α,acc.length<=l.length->(∀x∈acc,P x)->∃r,fin acc=some r/\Q r):
  ∃r,forL (σ:=List α) (fun (i:Nat) (x:BYT) row=>(g x).bind fun v=>if v.2=true then chk (row.length+1<=1073741824) (some (.inl (row++[v.1]))) else some (.inr (z row))) fin l 0 []=some r/\Q r:=by
 have key:∀(m:List BYT) (i:Nat) (acc:List α),(∀p∈m,p∈l)->acc.length+m.length<=l.length->(∀x∈acc,P x)->∃r,forL (σ:=List α) (fun (i:Nat) (x:BYT) row=>(g x).bind fun v=>if v.2=true then chk (row.length+1<=1073741824) (some (.inl (row++[v.1]))) else some (.inr (z row))) fin m i acc=some r/\Q r:=by
  intro m;induction m with
  |nil=>intro i acc _ a ha;exact b acc (by simp at a;omega) ha
  |cons x m ih=>
   intro i acc C a ha;obtain ⟨y,B,e,F⟩:=H x (G x (C x yG));rw [AT]at a;cases B with
   |true=>
    rw [ZO (s':=acc++[y]) (by rw [e];exact Zj _ yE)];exact ih _ _ (fun p D=>C p (by simp [D])) (by simp;omega) fun q A=>by
     rcases AI.1 A with A|A
     .exact ha q A
     .simp at A;subst A;exact F
   |false=>exact ⟨_,Z5 (by rw [e];rfl),E acc yE ha⟩
 exact key l 0 [] (fun _ h=>h) yG yG
theorem ZwG{s a b:BYT}(hs:s.size<=1000)(ha:Qj a s)(I:Qj b s)(A:Zf):∃r D,ZcT A a b=some (r,D)/\Zjr s r:=by
 unfold ZcT;have ha':=ha.size;have hb':=I.size;obtain ⟨l,e,N,C⟩:=Ql (s:=a) (sep:=⟨#[32,38,32]⟩) yE yF yF;obtain ⟨k,M,O,K⟩:=Ql (s:=b) (sep:=⟨#[32,38,32]⟩) yE yF yF;rw [e,A0];obtain ⟨r,E,B⟩:=Zry (s:=s) (P:=fun x:Zu=>x.pattern.args.length<=s.size+1/\(x.kind=2->Qj ZlQ s)) (g:=QS) (fin:=fun d=>(Qd b (⟨#[32,38,32]⟩)).bind fun i=>
   forL (σ:=(List Zy))
    (fun (J:Nat) (j:BYT) c=>
     (Q5 j).bind fun f=>
     if f.2=true then
      chk (c.length+1<=1073741824) <|
      some (.inl (c++[f.1]))
     else
      some (.inr (({ name:=A.name,priority:=A.priority,cond:=d,thn:=c }:Zf),false)))
    (fun c=>
     (XU ({ name:=A.name,priority:=A.priority,cond:=d,thn:=c }:Zf)).bind fun m=>
     some (({ name:=A.name,priority:=A.priority,cond:=d,thn:=c }:Zf),m))
    i 0 []) (z:=fun d=>(({ name:=A.name,priority:=A.priority,cond:=d,thn:=[] }:Zf),false)) (Q:=fun r=>Zjr s r.1) (l:=l) yE (fun p H=>(C p H).trans ha) (fun p C=>by
    obtain ⟨x,D,e,E,B⟩:=ZsO (s:=p) (by have:=C.size;omega);exact ⟨x,D,e,by have:=C.size;omega,fun h=>(B h).trans C⟩) (fun acc E B=>⟨by show acc.length<=_;omega,yG,B,yG⟩) (fun acc E B=>by
    rw [M,A0];exact Zry (s:=s) (P:=fun x:Zy=>x.pattern.args.length<=s.size+1) (g:=Q5) (z:=fun c=>(({ name:=A.name,priority:=A.priority,cond:=acc,thn:=c }:Zf),false)) (Q:=fun r=>Zjr s r.1) (l:=k) yE (fun p H=>(K p H).trans I) (fun p C=>by
     obtain ⟨x,D,e,E⟩:=ZtJ (s:=p) (by have:=C.size;omega);exact ⟨x,D,e,by have:=C.size;omega⟩) (fun row L F=>⟨by show acc.length<=_;omega,by show row.length<=_;omega,B,F⟩) (fun row L F=>by
     rw [Zb9 _ ⟨by show acc.length<=_;omega,by show row.length<=_;omega,fun x G=>by have:=(B x G).1;omega,fun x G=>by have:=F x G;omega⟩,A0];exact ⟨_,rfl,by show acc.length<=_;omega,by show row.length<=_;omega,B,F⟩))
 exact ⟨r.1,r.2,E,B⟩
theorem Zgs(s:BYT):Zjr s { name:=⟨#[]⟩,priority:=0,cond:=[],thn:=[] }:=⟨yG,yG,yG,yG⟩
theorem Zls{s:BYT}(hs:s.size<=1000):∃r A,Y3 s=some (r,A)/\Zjr s r:=by
 unfold Y3;obtain ⟨l,e,P,B⟩:=Ql (sep:=⟨#[58,32]⟩) hs yF yF;rw [e,A0];split
 .exact ⟨_,_,rfl,Zgs s⟩
 rename_i K;obtain ⟨x,y,rfl⟩:=ZyA K;have hx:=B x yG;have hy:=B y yG;have hx':=hx.size;have hy':=hy.size;obtain ⟨m,M,O,H⟩:=Ql (s:=x) (sep:=⟨#[32]⟩) yE yF yF;obtain ⟨k,N,R,a⟩:=Ql (s:=y) (sep:=⟨#[32,45,62,32]⟩) yE yF yF;rw [Zj _ yG];simp only[show AA 1=1 from rfl,show AA 0=0 from rfl,Aa,Ab,A0,M];rw [Zj _ yG,N,A0];split
 .exact ⟨_,_,rfl,Zgs s⟩
 rename_i J;obtain ⟨D,C,rfl⟩:=ZyA J;split
 .exact ⟨_,_,rfl,Zgs s⟩
 rename_i I;obtain ⟨F,E,rfl⟩:=ZyA I;rw [Zj _ yG];simp only[Aa,Ab,A0,Zam];split
 .rw [Zj _ yG,Zj _ yG,Zj _ yG];obtain ⟨r,A,L,G⟩:=ZwG hs ((a F yG).trans hy) ((a E yG).trans hy) ({ name:=D,priority:=(Zd1 C).1,cond:=[],thn:=[] }:Zf);rw [L,A0];cases A with
  |true=>exact ⟨_,_,rfl,G⟩
  |false=>exact ⟨_,_,rfl,Zgs s⟩
 .exact ⟨_,_,rfl,Zgs s⟩
theorem Zdv{c:Zi}(h:ZK c){l:List BYT}(F:0<l.length)(E:l.length<=256):∃x c',QD c l=some (x,c')/\x∈l/\ZK c':=by
 obtain ⟨x,c',e,B,A,D⟩:=Z1 h (n:=(l.length:Int)) yE yE;have C:x.toNat<l.length:=by omega
 refine ⟨l[x.toNat],c',?_,AN _,D⟩;unfold QD;rw [e];show (atI l x).bind _=_
 rw [show atI l x=some l[x.toNat] by unfold atI;rw [yp B,A9 C]];rfl
def RK(nots:Bool)(r:Zf):Prop:=∃s:BYT,s.size<=100/\(nots=false->¬Qj ZlQ s)/\Zjr s r
theorem Zot(L:List BYT)(n:Int)(N:Nat)(M:N=L.length)(G:0<n)(K:n<=N)(hs:∀s∈L,s.size<=100)(O:N<=256){c:Zi}(F:ZK c):∃s r c',((ZL c n).bind fun v1=>chk (0<=v1.1/\v1.1<(N:Int)) ((L[(AA v1.1)]?).bind fun B=>(Y3 B).bind fun C=>some (C.1,v1.2)))=some (r,c')/\s∈L.take n.toNat/\s.size<=100/\Zjr s r/\ZK c':=by
 obtain ⟨x,c',e,J,D,a⟩:=Z1 F G yE;have A:x.toNat<L.length:=by omega
 obtain ⟨r,I,H,E⟩:=Zls (s:=L[x.toNat]) (by have:=hs _ (AN A);omega);refine ⟨L[x.toNat],r,c',?_,?_,hs _ (AN A),E,a⟩
 .rw [e,A0,Zj _ yE,A9 A,A0,H];rfl
 .rw [List.mem_take_iff_getElem];exact ⟨x.toNat,yE,rfl⟩
theorem ZFn{s:BYT}(h:¬toL ZlQ <:+: toL s):¬Qj ZlQ s:=fun k=>h k.infix
theorem Zt0{c:Zi}(h:ZK c)(a:Bool):∃r c',ZcW c a=some (r,c')/\RK a r/\ZK c':=by
 unfold ZcW;have fin:∀{L:List BYT} {n:Int} {o:Option (Zf×Zi)},(a=false->∀s∈L.take n.toNat,¬toL ZlQ <:+: toL s)->(∃s r c',o=some (r,c')/\s∈L.take n.toNat/\s.size<=100/\Zjr s r/\ZK c')->∃r c',o=some (r,c')/\RK a r/\ZK c':=fun A ⟨s,r,c',e,F,E,D,C⟩=>⟨r,c',e,⟨s,E,fun B=>ZFn (A B s F),D⟩,C⟩
 cases a with
 |true=>
  rw [yp rfl];exact fin (fun h=>by cases h) (Zot _ 11 11 rfl yE yE yF yE h)
 |false=>
  rw [yn yG];exact fin (fun _=>by decide) (Zot _ 7 11 rfl yE yE yF yE h)
theorem RK.name{a:Bool}{r:Zf}(h:RK a r)(n:BYT)(p:Int):RK a { name:=n,priority:=p,cond:=r.cond,thn:=r.thn }:=by
 obtain ⟨s,C,B,A⟩:=h;exact ⟨s,C,B,A.cl,A.tl,A.ca,A.ta⟩
theorem Zti{c:Zi}(h:ZK c)(a:Bool):∃R c',Zem c a=some (R,c')/\R.length<=3/\(∀r∈R,RK a r)/\ZK c':=by
 unfold Zem;obtain ⟨n,M,e,O,N,J⟩:=Z1 h (n:=4) yE yE;rw [e,A0];have key:∀(k:Nat) (A:Zi) (row:List Zf),ZK A->row.length+k<=3->(∀r∈row,RK a r)->∃R c',iter (σ:=(List Int)×Int×Int×(List Zf)×Int)
  (fun s=>
   match s with
   |(f_4,f_5,f_6,row_7,n_8)=>
   if (decide (0<n_8))=true then
    (ZcW ({ b:=f_4,i:=f_5,h:=f_6 }:Zi) a).bind fun B=>
    (YJ n_8).bind fun f=>
    chk ((⟨#[114]⟩:BYT).size+f.size<=9223372036854775807) <|
    chk (row_7.length+1<=1073741824) <|
    some (.inl (B.2.b,B.2.i,B.2.h,(row_7++[({ name:=((⟨#[114]⟩:BYT)++f),priority:=B.1.priority,cond:=B.1.cond,thn:=B.1.thn }:Zf)]),(i64.wrap (n_8 - 1))))
   else
    some (.inr (row_7,({ b:=f_4,i:=f_5,h:=f_6 }:Zi))))
  (A.b,A.i,A.h,row,(k:Int))=some (R,c')/\R.length<=3/\(∀r∈R,RK a r)/\ZK c':=by
  intro k;induction k with
  |zero=>
   intro A row d I E;exact ⟨row,A,ZU rfl,yE,E,d⟩
  |succ k ih=>
   intro A row d I E;obtain ⟨r,D,L,j,l⟩:=Zt0 d a;have g:decide (0<(((k+1:Nat)):Int))=true:=decide_eq_true yE;have G:i64.wrap ((((k+1:Nat)):Int) - 1)=(k:Int):=by rw [Yo yE yE];omega
   have H:(ofL (Lib.itoa ((k+1:Nat):Int))).size<=21:=Zl3 ⟨yE,yE⟩;refine (Z6 (s':=(D.b,D.i,D.h,row++[({ name:=((⟨#[114]⟩:BYT)++ofL (Lib.itoa ((k+1:Nat):Int))),priority:=r.priority,cond:=r.cond,thn:=r.thn }:Zf)],(k:Int))) ?_) ▸ ih D _ l (by simp;omega) fun q C=>?_
   .simp only[g,if_true];rw [show ({ b:=A.b,i:=A.i,h:=A.h }:Zi)=A from rfl,L,A0,Za3 ⟨yE,yE⟩,A0,Zj _ (by have:(⟨#[114]⟩:BYT).size=1:=rfl;omega),Zj _ yE,G]
   .rcases AI.1 C with C|C
    .exact E q C
    .simp at C;subst C;exact j.name _ _
 have K:n=(n.toNat:Int):=by omega
 have:=key n.toNat M [] J (by simp;omega) (fun y F=>by simp at F);rw [<-K]at this;exact this
theorem Zwo{c:Zi}(h:ZK c){m:Int}(h0:0<=m)(h7:m<=7):∃l c',Zgd c m=some (l,c')/\l.length<=7/\(∀f∈l,f.args.length<=2)/\ZK c':=by
 unfold Zgd;have H:i64.wrap (m+1)=m+1:=Yo yE yE;rw [H];obtain ⟨n,c1,e,n0,n1,W⟩:=Z1 h (n:=m+1) yE yE;rw [e,A0];have t:∀(row:List Za) (f:Za),row.length<=7->(∀f∈row,f.args.length<=2)->f.args.length<=2->∃g,YS row f=some g/\g.length<=row.length+1/\∀f∈g,f.args.length<=2:=fun row f T ha R=>⟨_,Zg7 row f yE (fun x I=>by have:=ha x I;omega) yE,Zkv f row,fun x I=>by
  rcases XR.1 I with rfl|I
  .exact R
  .exact ha x I⟩
 have key:∀(k:Nat) (F:Zi) (row:List Za),ZK F->row.length+k<=7->(∀f∈row,f.args.length<=2)->∃l c',iter (σ:=(List Int)×Int×Int×(List Za)×Int)
   (fun s=>
   match s with
   |(f_9,f_10,f_11,row_12,n_13)=>
   if (decide (0<n_13))=true then
    (QD ({ b:=f_9,i:=f_10,h:=f_11 }:Zi) ([(⟨#[97]⟩),(⟨#[98]⟩),(⟨#[49]⟩),(⟨#[50]⟩)])).bind fun o=>
    (QD o.2 ([(⟨#[97]⟩),(⟨#[98]⟩),(⟨#[49]⟩)])).bind fun p=>
    (ZL p.2 5).bind fun d=>
    if (d.1==0)=true then
     (YS row_12 ({ rel:=(⟨#[112]⟩),args:=[o.1] }:Za)).bind fun u=>
     some (.inl (d.2.b,d.2.i,d.2.h,u,(i64.wrap (n_13 - 1))))
    else
     if (d.1==1)=true then
      (YS row_12 ({ rel:=(⟨#[97,116]⟩),args:=[o.1,p.1] }:Za)).bind fun w=>
      some (.inl (d.2.b,d.2.i,d.2.h,w,(i64.wrap (n_13 - 1))))
     else
      if (d.1==2)=true then
       (YS row_12 ({ rel:=(⟨#[113]⟩),args:=[o.1] }:Za)).bind fun z=>
       some (.inl (d.2.b,d.2.i,d.2.h,z,(i64.wrap (n_13 - 1))))
      else
       (YS row_12 ({ rel:=(⟨#[111,110]⟩),args:=[o.1,p.1] }:Za)).bind fun A=>
       some (.inl (d.2.b,d.2.i,d.2.h,A,(i64.wrap (n_13 - 1))))
   else
    some (.inr (row_12,({ b:=f_9,i:=f_10,h:=f_11 }:Zi))))
   (F.b,F.i,F.h,row,(k:Int))=some (l,c')/\l.length<=7/\(∀f∈l,f.args.length<=2)/\ZK c':=by
  intro k;induction k with
  |zero=>
   intro F row q T P;exact ⟨row,F,ZU rfl,yE,P,q⟩
  |succ k ih=>
   intro F row q T P;obtain ⟨a,c2,N,_,B⟩:=Zdv q (l:=[(⟨#[97]⟩),(⟨#[98]⟩),(⟨#[49]⟩),(⟨#[50]⟩)]) yG yG;obtain ⟨b,c3,M,_,C⟩:=Zdv B (l:=[(⟨#[97]⟩),(⟨#[98]⟩),(⟨#[49]⟩)]) yG yG;obtain ⟨x,G,L,_,_,D⟩:=Z1 C (n:=5) yE yE;have j:decide (0<(((k+1:Nat)):Int))=true:=decide_eq_true yE;have H:i64.wrap ((((k+1:Nat)):Int) - 1)=(k:Int):=by rw [Yo yE yE];omega
   have K:∀f:Za,f.args.length<=2->∀{body:(List Int)×Int×Int×(List Za)×Int->Option (((List Int)×Int×Int×(List Za)×Int) ⊕ (List Za×Zi))},(body (F.b,F.i,F.h,row,((k+1:Nat):Int))=(YS row f).bind fun v=>some (.inl (G.b,G.i,G.h,v,(k:Int))))->(∀(row:List Za),row.length+k<=7->(∀f∈row,f.args.length<=2)->∃l c',iter body (G.b,G.i,G.h,row,(k:Int))=some (l,c')/\l.length<=7/\(∀f∈l,f.args.length<=2)/\ZK c')->∃l c',iter body (F.b,F.i,F.h,row,((k+1:Nat):Int))=some (l,c')/\l.length<=7/\(∀f∈l,f.args.length<=2)/\ZK c':=fun f R body hb hi=>by
    obtain ⟨g,ep,V,E⟩:=t row f yE P R;rw [Z6 (hb.trans (by rw [ep];rfl))];exact hi g yE E
   have hi:=fun row=>ih G row D;by_cases J:x=0
   .refine K { rel:=(⟨#[112]⟩),args:=[a] } yG ?_ hi;simp only[j,if_true];rw [show ({ b:=F.b,i:=F.i,h:=F.h }:Zi)=F from rfl,N,A0,M,A0,L,A0,H,yp (by simp [J])]
   .by_cases O:x=1
    .refine K { rel:=(⟨#[97,116]⟩),args:=[a,b] } yG ?_ hi;simp only[j,if_true];rw [show ({ b:=F.b,i:=F.i,h:=F.h }:Zi)=F from rfl,N,A0,M,A0,L,A0,H,yn (by simp [J]),yp (by simp [O])]
    .by_cases S:x=2
     .refine K { rel:=(⟨#[113]⟩),args:=[a] } yG ?_ hi;simp only[j,if_true];rw [show ({ b:=F.b,i:=F.i,h:=F.h }:Zi)=F from rfl,N,A0,M,A0,L,A0,H,yn (by simp [J]),yn (by simp [O]),yp (by simp [S])]
     .refine K { rel:=(⟨#[111,110]⟩),args:=[a,b] } yG ?_ hi;simp only[j,if_true];rw [show ({ b:=F.b,i:=F.i,h:=F.h }:Zi)=F from rfl,N,A0,M,A0,L,A0,H,yn (by simp [J]),yn (by simp [O]),yn (by simp [S])]
 have e5:n=(n.toNat:Int):=by omega
 have:=key n.toNat c1 [] W (by simp;omega) (fun y U=>by simp at U);rw [<-e5]at this;exact this
section
open Classical
def ZFY(R:List Zf)(base M:List Za)(ok:Bool):Prop:=(ok=false/\M=[])\/(ok=true/\∃F,Ya R base F/\(Yg R F base).length<=60/\M=XY F (rdB { nodes:=(F.length:Int),reasons:=Yg R F base }))
theorem ZkZ{R:List Zf}(B:XD R)(base:List Za)(a:base.length<=1048576):∃M ok,QK R base=some (M,ok)/\Za9 R base=some (M,ok)/\ZFY R base M ok:=by
 obtain ⟨F,b,ok,E,D,C⟩:=Zeo B base a;unfold QK Za9;rw [E,D];rcases C with ⟨rfl,rfl,rfl⟩|⟨rfl,A,rfl,c⟩
 .exact ⟨_,_,rfl,rfl,.inl ⟨rfl,rfl⟩⟩
 .have hB:=Q4.of A c;refine ⟨_,true,?_,?_,.inr ⟨rfl,F,A,c,rfl⟩⟩
  .rw [A0,yp rfl,ZuT hB A.args rfl];rfl
  .rw [A0,yp rfl,Zmm hB A.args rfl];rfl
end
section
open Classical
theorem ZyK{a:List Int}(h:¬decide (4096<(a.length:Int))=true):a.length<=4096:=by
 simp at h;omega
theorem ZAL(a:List Int):Zxa a=some (decide (4096<(a.length:Int))):=rfl
end
section
open Classical
theorem ZxN{f:Za}:∀(l:List Zz),f∈Qv l↔∃s∈l,s.rule=⟨#[]⟩/\s.fact=f:=
 Zps (P:=fun l=>f∈Qv l↔∃s∈l,s.rule=⟨#[]⟩/\s.fact=f) (by simp [Qv]) fun p x D=>by
  rw [ZhQ];by_cases h:sEq x.rule ⟨#[]⟩=true
  .rw [yp h,XR,D];rw [ZV]at h;constructor
   .rintro (rfl|⟨s,A,B⟩)
    .exact ⟨x,yG,h,rfl⟩
    .exact ⟨s,by simp [A],B⟩
   .rintro ⟨s,A,B,C⟩;rcases AI.1 A with A|A
    .exact .inr ⟨s,A,B,C⟩
    .simp at A;subst A;exact .inl C.symm
  .rw [yn h,D];rw [ZV]at h;constructor
   .rintro ⟨s,A,B⟩;exact ⟨s,by simp [A],B⟩
   .rintro ⟨s,A,B,C⟩;rcases AI.1 A with A|A
    .exact ⟨s,A,B,C⟩
    .simp at A;subst A;exact absurd B h
end
section
open Classical
theorem Zl2{c:Zi}(h:ZK c):∃x c',Zcw c=some (x,c')/\ZK c':=by
 unfold Zcw;obtain ⟨x,c',e,_,A⟩:=Zdv h (l:=[(⟨#[97]⟩),(⟨#[98]⟩),(⟨#[99]⟩),(⟨#[49]⟩),(⟨#[50]⟩)]) yG yG;exact ⟨x,c',by rw [e];rfl,A⟩
theorem Zec{c:Zi}(h:ZK c):∃x c',ZbB c=some (x,c')/\ZK c':=by
 unfold ZbB;have key:∀L:List BYT,0<L.length->L.length<=256->∃x c',((QD c L).bind fun v1=>some (v1.1,v1.2))=some (x,c')/\ZK c':=fun L C B=>by
  obtain ⟨x,c',e,_,A⟩:=Zdv h (l:=L) C B;exact ⟨x,c',by rw [e];rfl,A⟩
 exact key _ yG yG
theorem Zuo{c:Zi}(h:ZK c):∃r n c',Zi5 c=some (r,n,c')/\0<=n/\n<=2/\r≠⟨#[110]⟩/\ZK c':=by
 unfold Zi5;obtain ⟨x,c',e,J,I,G⟩:=Z1 h (n:=6) yE yE;have key:∀(A:List BYT) (B:List Int),A.length=6->B.length=6->(∀b∈B,0<=b/\b<=2)->(∀a∈A,a≠⟨#[110]⟩)->∃r n c',((ZL c 6).bind fun v1=>chk (0<=v1.1/\v1.1<((6:Nat):Int)) <| (A[(AA v1.1)]?).bind fun F=>(B[(AA v1.1)]?).bind fun E=>some (F,E,v1.2))=some (r,n,c')/\0<=n/\n<=2/\r≠⟨#[110]⟩/\ZK c':=fun A B L K H ha=>by
  have D:x.toNat<A.length:=by omega
  have C:x.toNat<B.length:=by omega
  have q3:=H _ (AN C);refine ⟨A[x.toNat],B[x.toNat],c',?_,q3.1,q3.2,ha _ (AN D),G⟩;rw [e,A0,Zj _ yE,A9 D,A0,A9 C,A0]
 exact key _ _ rfl rfl yF yF
theorem ZqB{ρ:Type}{tm:Zi->Option (BYT×Zi)}(F:∀c,ZK c->∃x c',tm c=some (x,c')/\ZK c')(g:List BYT->Zi->ρ){n:Int}(K:0<=n)(J:n<=100){c:Zi}(H:ZK c):∃row c',iter (σ:=(List Int)×Int×Int×(List BYT)×Int)
  (fun s=>
   match s with
   |(f_4,f_5,f_6,row_7,i_8)=>
   if (decide (i_8<n))=true then
    (tm ({ b:=f_4,i:=f_5,h:=f_6 }:Zi)).bind fun B=>
    chk (row_7.length+1<=1073741824) <|
    some (.inl (B.2.b,B.2.i,B.2.h,(row_7++[B.1]),(i64.wrap (i_8+1))))
   else
    some (.inr (g row_7 ({ b:=f_4,i:=f_5,h:=f_6 }:Zi))))
  (c.b,c.i,c.h,[],0)=some (g row c')/\row.length<=n.toNat/\ZK c':=by
 have key:∀(m k:Nat) (A:Zi) (row:List BYT),((k+m:Nat):Int)=n->row.length=k->ZK A->∃d c',iter (σ:=(List Int)×Int×Int×(List BYT)×Int)
  (fun s=>
   match s with
   |(f_4,f_5,f_6,row_7,i_8)=>
   if (decide (i_8<n))=true then
    (tm ({ b:=f_4,i:=f_5,h:=f_6 }:Zi)).bind fun B=>
    chk (row_7.length+1<=1073741824) <|
    some (.inl (B.2.b,B.2.i,B.2.h,(row_7++[B.1]),(i64.wrap (i_8+1))))
   else
    some (.inr (g row_7 ({ b:=f_4,i:=f_5,h:=f_6 }:Zi))))
  (A.b,A.i,A.h,row,(k:Int))=some (g d c')/\d.length<=n.toNat/\ZK c':=by
  intro m;induction m with
  |zero=>
   intro k A row G D e;refine ⟨row,A,ZU ?_,yE,e⟩;simp only;rw [yn (by simp;omega)]
  |succ m ih=>
   intro k A row G D e;obtain ⟨a,C,I,f⟩:=F A e;have E:i64.wrap ((k:Int)+1)=((k+1:Nat):Int):=by rw [Yo yE yE];omega
   refine (Z6 (s':=(C.b,C.i,C.h,row++[a],((k+1:Nat):Int))) ?_) ▸ ih (k+1) C (row++[a]) yE (by simp [D]) f;simp only;rw [yp (by simp;omega),show ({ b:=A.b,i:=A.i,h:=A.h }:Zi)=A from rfl,I,A0,Zj _ yE,E]
 exact key n.toNat 0 c [] yE rfl H
theorem Zrm{c:Zi}(h:ZK c):∃f c',ZeL c=some (f,c')/\f.args.length<=2/\f.rel≠⟨#[110]⟩/\ZK c':=by
 unfold ZeL;obtain ⟨r,n,H,e,B,F,a,A⟩:=Zuo h;rw [e,A0];obtain ⟨row,E,D,G,C⟩:=ZqB (tm:=Zcw) (fun c A=>Zl2 A) (fun row c=>(({ rel:=r,args:=row }:Za),c)) B yE A;exact ⟨{ rel:=r,args:=row },E,D,by show row.length<=2;omega,a,C⟩
theorem Zk2{c:Zi}(h:ZK c):∃f c',Zd7 c=some (f,c')/\f.args.length<=4/\ZK c':=by
 unfold Zd7;obtain ⟨f,M,G,N,_,E⟩:=Zrm h;obtain ⟨k,H,F,L,K,D⟩:=Z1 E (n:=10) yE yE;rw [G,A0,F,A0];split
 .obtain ⟨w,C,B,A⟩:=Zec D;exact ⟨{ rel:=w,args:=f.args },C,by rw [B];rfl,by show f.args.length<=4;omega,A⟩
 .split
  .obtain ⟨w,C,B,A⟩:=Zec D;exact ⟨{ rel:=f.rel,args:=f.args++[w] },C,by rw [B,A0,Zj _ (by show f.args.length+1<=_;omega)],by simp;omega,A⟩
  .split
   .obtain ⟨w,C,B,J,I,A⟩:=Z1 D (n:=5) yE yE;refine ⟨_,C,by rw [B,A0,Zj _ yE],?_,A⟩;simp;omega
   .exact ⟨f,H,rfl,yE,D⟩
theorem ZCn{R:List Zf}{base:List Za}{x:List Za×Bool}(h:x=([],false)\/(YK R&&R.all (Xm R))=true/\Z7 base=true/\Res R base x):x.1.length<=24:=by
 rcases h with rfl|⟨_,_,A⟩
 .simp
 .rcases A with ⟨_,_,B,_⟩|⟨_,e,_⟩
  .exact B
  .rw [e];simp
end
section
def Ref{α:Type}(a b:Option α):Prop:=∀r,a=some r->b=some r
theorem Ref.refl{α:Type}(a:Option α):Ref a a:=fun _ h=>h
theorem Ref.bind{α β:Type}{a b:Option α}{f g:α->Option β}(h:Ref a b)(k:∀x,Ref (f x) (g x)):Ref (a.bind f) (b.bind g):=fun r A=>by
 obtain ⟨x,C,B⟩:=Ak.1 A;rw [h x C,A0];exact k x r B
theorem Ref.ite{α:Type}{c:Prop}[Decidable c]{a b B A:Option α}(h:Ref a B)(k:Ref b A):Ref (if c then a else b) (if c then B else A):=by
 split
 .exact h
 .exact k
theorem Ref.chk{α:Type}{p:Prop}[Decidable p]{a b:Option α}(h:Ref a b):Ref (chk p a) (chk p b):=fun r A=>by
 unfold Go.Proofs.YtnacpkmpdlodoaaGreatDoor.chk at A ⊢;split at A
 .rename_i B;rw [yp B];exact h r A
 .simp at A
theorem Ref.forL{α σ ρ:Type}{body a:Nat->α->σ->Option (σ ⊕ ρ)}{fin b:σ->Option ρ}(h:∀i x s,Ref (body i x s) (a i x s))(k:∀s,Ref (fin s) (b s)):∀(l:List α) (i:Nat) (s:σ),Ref (forL body fin l i s) (forL a b l i s)
 | [],_,s=>k s
 |x::l,i,s=>fun r A=>by
  cases e:body i x s with
  |none=>simp only[Go.Proofs.YtnacpkmpdlodoaaGreatDoor.forL,e]at A;simp at A
  |some y=>
   cases y with
   |inl s'=>
    rw [ZO e]at A;rw [ZO (h i x s _ e)];exact Ref.forL h k l (i+1) s' r A
   |inr q=>
    rw [Z5 e]at A;rw [Z5 (h i x s _ e)];exact A
theorem Ref.iter{σ ρ:Type}{body a:σ->Option (σ ⊕ ρ)}(h:∀s,Ref (body s) (a s)):∀(n:Nat) (s:σ),Ref (ZbX body n s) (iter a s)
 |0,_=>fun r A=>by simp [ZbX]at A
 |n+1,s=>fun r A=>by
  simp only[ZbX]at A;cases e:body s with
  |none=>rw [e]at A;simp at A
  |some y=>
   rw [e]at A;cases y with
   |inl s'=>rw [Z6 (h s _ e)];exact Ref.iter h n s' r A
   |inr q=>rw [ZU (h s _ e)];exact A
def ZjO(s sep:BYT):Nat->Nat->Nat->List BYT
 |0,f,_=>[s.extract f s.size]
 |m+1,f,i=>if i+sep.size<=s.size then (if sEq (s.extract i (i+sep.size)) sep=true then s.extract f i::ZjO s sep m (i+sep.size) (i+sep.size) else ZjO s sep m f (i+1)) else [s.extract f s.size]
theorem ZAM{σ ρ:Type}{s sep:BYT}(D:0<sep.size)(st:List BYT->Nat->Nat->σ)(g:List BYT->ρ){body:σ->Option (σ ⊕ ρ)}
  (G:∀row a i,a<=i->i+sep.size<=s.size->row.length<=i->body (st row a i)=some (.inl (if sEq (s.extract i (i+sep.size)) sep=true then st (row++[s.extract a i]) (i+sep.size) (i+sep.size) else st row a (i+1))))
  (E:∀row a i,a<=i->i<=s.size->¬i+sep.size<=s.size->row.length<=i->body (st row a i)=some (.inr (g (row++[s.extract a s.size])))):
  iter body (st [] 0 0)=some (g (ZjO s sep s.size 0 0)):=by
 have key:∀m row a i,s.size - i<=m->a<=i->i<=s.size->row.length<=i->iter body (st row a i)=some (g (row++ZjO s sep m a i)):=by
  intro m;induction m with
  |zero=>
   intro row a i F C hi B;exact ZU (E row a i C hi yE B)
  |succ m ih=>
   intro row a i F C hi B;unfold ZjO;by_cases A:i+sep.size<=s.size
   .rw [Z6 (G row a i C A B),yp A];split
    .rw [ih _ _ _ yE (AE _) A (by simp;omega),BA,BS]
    .exact ih _ _ _ yE yE yE yE
   .rw [yn A];exact ZU (E row a i C hi A B)
 exact key s.size [] 0 0 yE (AE _) (Nat.zero_le _) (AE _)
theorem ZvW{s sep:BYT}(hs:s.size<=1000)(A:0<sep.size)(F:sep.size<=10):Qd s sep=some (ZjO s sep s.size 0 0):=by
 unfold Qd;rw [yn (by rw [ZV];intro e;rw [e]at A;exact absurd A yF)];refine ZAM A (fun row f i=>(row,(f:Int),(i:Int))) (fun l=>l) ?_ ?_
 .intro row f i C hi B;have e:i64.wrap ((i:Int)+(sep.size:Int))=((i+sep.size:Nat):Int):=by rw [Yo yE yE];omega
  have D:i64.wrap ((i:Int)+1)=((i+1:Nat):Int):=by rw [Yo yE yE];omega
  simp only[e,D,AC];rw [yp (by simp;omega),Zj _ yE];split
  .rw [Zj _ yE,Zj _ yE]
  .rfl
 .intro row f i C hi E B;have e:i64.wrap ((i:Int)+(sep.size:Int))=((i+sep.size:Nat):Int):=by rw [Yo yE yE];omega
  simp only[e,AC];rw [yn (by simp;omega),Zj _ yE,Zj _ yE]
def ZcI(s sep:BYT):Option (List BYT):=if s.size<=1000/\0<sep.size/\sep.size<=10 then some (ZjO s sep s.size 0 0) else none
theorem Zeb(s sep:BYT):Ref (ZcI s sep) (Qd s sep):=fun r h=>by
 unfold ZcI at h;split at h
 .rename_i A;rw [ZvW A.1 A.2.1 A.2.2];exact h
 .simp at h
def Zmz(p:Zo):Option Bool:=some (Z0 p)
theorem ZpU(p:Zo):Ref (Zmz p) (Y5 p):=fun r h=>by rw [QJ];exact h
def Zud(x:Zu):Option Bool:=some (YC x)
theorem ZwD(x:Zu):Ref (Zud x) (Zcg x):=fun r h=>by rw [ZbW];exact h
def Zo3(s:BYT):Option (Int×Bool):=some (Zd1 s)
theorem ZrZ(s:BYT):Ref (Zo3 s) (Qw s):=fun r h=>by rw [Zam];exact h
def ZnR(r:Zf):Option Bool:=if r.cond.length<=100/\r.thn.length<=100/\(∀x∈r.cond,x.pattern.args.length<=100)/\(∀a∈r.thn,a.pattern.args.length<=100) then some (YA r) else none
theorem Zv2(r:Zf):Ref (ZnR r) (XU r):=fun x h=>by
 unfold ZnR at h;split at h
 .rename_i A;rw [Zb9 r ⟨yE,yE,fun x B=>by have:=A.2.2.1 x B;omega,fun a C=>by have:=A.2.2.2 a C;omega⟩];exact h
 .simp at h
def ZsB(g:BYT):Option (BYT×(List BYT)×Bool):=
 (ZcI g (⟨#[40]⟩)).bind fun f=>if ((f.length:Int) != 2)=true then some ((⟨#[]⟩),[],false) else chk (0<=1/\1<(f.length:Int)) <|(f[(AA 1)]?).bind fun a=>if ((a.size:Int)==0)=true then some ((⟨#[]⟩),[],false) else (sAt a (i64.wrap ((a.size:Int) - 1))).bind fun b=>if ((b.toNat:Int) != 41)=true then some ((⟨#[]⟩),[],false) else chk (0<=(i64.wrap ((a.size:Int) - 1))/\(i64.wrap ((a.size:Int) - 1))<=(a.size:Int)) <|if (sEq (a.extract 0 (AA (i64.wrap ((a.size:Int) - 1)))) ⟨#[]⟩)=true then chk (0<=0/\0<(f.length:Int)) <|(f[(AA 0)]?).bind fun c=>some (c,[],true) else chk (0<=0/\0<(f.length:Int)) <|(f[(AA 0)]?).bind fun d=>(ZcI (a.extract 0 (AA (i64.wrap ((a.size:Int) - 1)))) (⟨#[44]⟩)).bind fun e=>some (d,e,true)
def ZcY(c:BYT):Option (Zo×Bool):=
 (ZsB c).bind fun b=>if b.2.2=true then (Zmz ({ rel:=b.1,args:=b.2.1 }:Zo)).bind fun a=>if a=true then some (({ rel:=b.1,args:=b.2.1 }:Zo),true) else some (({ rel:=(⟨#[]⟩),args:=[] }:Zo),false) else some (({ rel:=(⟨#[]⟩),args:=[] }:Zo),false)
def Zv3(a:BYT):Option (Zu×Bool):=
 (fun body s=>ZbX body 5 s) (fun b=>if (decide (b<=5))=true then (Zge b).bind fun j=>(ZcI a j).bind fun c=>if ((c.length:Int)==2)=true then chk (0<=0/\0<(c.length:Int)) <|(c[(AA 0)]?).bind fun d=>chk (0<=1/\1<(c.length:Int)) <|(c[(AA 1)]?).bind fun e=>(Zud ({ kind:=b,pattern:=({ rel:=(⟨#[]⟩),args:=[] }:Zo),left:=d,right:=e }:Zu)).bind fun k=>if k=true then some (.inr (({ kind:=b,pattern:=({ rel:=(⟨#[]⟩),args:=[] }:Zo),left:=d,right:=e }:Zu),true)) else some (.inl (i64.wrap (b+1))) else some (.inl (i64.wrap (b+1))) else if (decide (4<(a.size:Int)))=true then chk (0<=4/\4<=(a.size:Int)) <|if (sEq (a.extract 0 (AA 4)) ⟨#[110,111,116,32]⟩)=true then (ZcY (a.extract (AA 4) a.size)).bind fun f=>if f.2=true then some (.inr (({ kind:=2,pattern:=f.1,left:=(⟨#[]⟩),right:=(⟨#[]⟩) }:Zu),true)) else some (.inr (({ kind:=0,pattern:=({ rel:=(⟨#[]⟩),args:=[] }:Zo),left:=(⟨#[]⟩),right:=(⟨#[]⟩) }:Zu),false)) else (ZcY a).bind fun g=>if g.2=true then some (.inr (({ kind:=1,pattern:=g.1,left:=(⟨#[]⟩),right:=(⟨#[]⟩) }:Zu),true)) else some (.inr (({ kind:=0,pattern:=({ rel:=(⟨#[]⟩),args:=[] }:Zo),left:=(⟨#[]⟩),right:=(⟨#[]⟩) }:Zu),false)) else (ZcY a).bind fun i=>if i.2=true then some (.inr (({ kind:=1,pattern:=i.1,left:=(⟨#[]⟩),right:=(⟨#[]⟩) }:Zu),true)) else some (.inr (({ kind:=0,pattern:=({ rel:=(⟨#[]⟩),args:=[] }:Zo),left:=(⟨#[]⟩),right:=(⟨#[]⟩) }:Zu),false))) 3
def ZnU(g:BYT):Option (Zy×Bool):=
 if (sEq g ⟨#[115,116,111,112]⟩)=true then some (({ kind:=3,pattern:=({ rel:=(⟨#[]⟩),args:=[] }:Zo) }:Zy),true) else (ZcI g (⟨#[32]⟩)).bind fun f=>if ((f.length:Int) != 2)=true then some (({ kind:=0,pattern:=({ rel:=(⟨#[]⟩),args:=[] }:Zo) }:Zy),false) else chk (0<=0/\0<(f.length:Int)) <|(f[(AA 0)]?).bind fun a=>if (sEq a ⟨#[97,100,100]⟩)=true then chk (0<=1/\1<(f.length:Int)) <|(f[(AA 1)]?).bind fun d=>(ZcY d).bind fun b=>some (({ kind:=1,pattern:=b.1 }:Zy),b.2) else if (sEq a ⟨#[100,114,111,112]⟩)=true then chk (0<=1/\1<(f.length:Int)) <|(f[(AA 1)]?).bind fun e=>(ZcY e).bind fun c=>some (({ kind:=2,pattern:=c.1 }:Zy),c.2) else some (({ kind:=0,pattern:=({ rel:=(⟨#[]⟩),args:=[] }:Zo) }:Zy),false)
def Zsv(h:Zf)(j k:BYT):Option (Zf×Bool):=
 (ZcI j (⟨#[32,38,32]⟩)).bind fun l=>forL (σ:=(List Zu)) (fun (m:Nat) (e:BYT) a=>(Zv3 e).bind fun c=>if c.2=true then chk (a.length+1<=1073741824) <|some (.inl (a++[c.1])) else some (.inr (({ name:=h.name,priority:=h.priority,cond:=a,thn:=[] }:Zf),false))) (fun a=>(ZcI k (⟨#[32,38,32]⟩)).bind fun f=>forL (σ:=(List Zy)) (fun (n:Nat) (g:BYT) b=>(ZnU g).bind fun d=>if d.2=true then chk (b.length+1<=1073741824) <|some (.inl (b++[d.1])) else some (.inr (({ name:=h.name,priority:=h.priority,cond:=a,thn:=b }:Zf),false))) (fun b=>(ZnR ({ name:=h.name,priority:=h.priority,cond:=a,thn:=b }:Zf)).bind fun i=>some (({ name:=h.name,priority:=h.priority,cond:=a,thn:=b }:Zf),i)) f 0 []) l 0 []
def Zwc(l:BYT):Option (Zf×Bool):=
 (ZcI l (⟨#[58,32]⟩)).bind fun h=>if ((h.length:Int) != 2)=true then some (({ name:=(⟨#[]⟩),priority:=0,cond:=[],thn:=[] }:Zf),false) else chk (0<=0/\0<(h.length:Int)) <|(h[(AA 0)]?).bind fun e=>(ZcI e (⟨#[32]⟩)).bind fun a=>chk (0<=1/\1<(h.length:Int)) <|(h[(AA 1)]?).bind fun f=>(ZcI f (⟨#[32,45,62,32]⟩)).bind fun b=>if ((a.length:Int) != 2)=true then some (({ name:=(⟨#[]⟩),priority:=0,cond:=[],thn:=[] }:Zf),false) else if ((b.length:Int) != 2)=true then some (({ name:=(⟨#[]⟩),priority:=0,cond:=[],thn:=[] }:Zf),false) else chk (1<(a.length:Int)) <|(a[(AA 1)]?).bind fun g=>(Zo3 g).bind fun c=>if c.2=true then chk (0<(a.length:Int)) <|(a[(AA 0)]?).bind fun i=>chk (0<(b.length:Int)) <|(b[(AA 0)]?).bind fun j=>chk (1<(b.length:Int)) <|(b[(AA 1)]?).bind fun k=>(Zsv ({ name:=i,priority:=c.1,cond:=[],thn:=[] }:Zf) j k).bind fun d=>if d.2=true then some (d.1,true) else some (({ name:=(⟨#[]⟩),priority:=0,cond:=[],thn:=[] }:Zf),false) else some (({ name:=(⟨#[]⟩),priority:=0,cond:=[],thn:=[] }:Zf),false)
theorem ZxW(s:BYT):Ref (ZsB s) (ZcN s):=by
 unfold ZsB ZcN
 repeat' (first|with_reducible exact Ref.refl _|exact Zeb _ _|apply Ref.bind|apply Ref.ite|apply Ref.chk|intro _)
theorem Zmh(s:BYT):Ref (ZcY s) (Yx s):=by
 unfold ZcY Yx
 repeat' (first|with_reducible exact Ref.refl _|exact ZxW _|exact ZpU _|apply Ref.bind|apply Ref.ite|intro _)
theorem ZzY(s:BYT):Ref (Zv3 s) (QS s):=by
 unfold Zv3 QS;refine Ref.iter ?_ 5 3
 repeat' (first|with_reducible exact Ref.refl _|exact Zeb _ _|exact Zmh _|exact ZwD _|apply Ref.bind|apply Ref.ite|apply Ref.chk|intro _)
theorem Zwx(s:BYT):Ref (ZnU s) (Q5 s):=by
 unfold ZnU Q5
 repeat' (first|with_reducible exact Ref.refl _|exact Zeb _ _|exact Zmh _|apply Ref.bind|apply Ref.ite|apply Ref.chk|intro _)
theorem ZyV(r:Zf)(a b:BYT):Ref (Zsv r a b) (ZcT r a b):=by
 unfold Zsv ZcT;refine Ref.bind (Zeb _ _) fun _=>Ref.forL (fun _ _ _=>?_) (fun _=>Ref.bind (Zeb _ _) fun _=>Ref.forL (fun _ _ _=>?_) (fun _=>?_) _ _ _) _ _ _
 .repeat' (first|with_reducible exact Ref.refl _|exact ZzY _|apply Ref.bind|apply Ref.ite|apply Ref.chk|intro _)
 .repeat' (first|with_reducible exact Ref.refl _|exact Zwx _|apply Ref.bind|apply Ref.ite|apply Ref.chk|intro _)
 .exact Ref.bind (Zv2 _) fun _=>Ref.refl _
theorem ZAA(s:BYT):Ref (Zwc s) (Y3 s):=by
 unfold Zwc Y3
 repeat' (first|with_reducible exact Ref.refl _|exact Zeb _ _|exact ZrZ _|exact ZyV _ _ _|apply Ref.bind|apply Ref.ite|apply Ref.chk|intro _)
def ZtS(s:BYT):Bool:=match Zwc s with|some (r,_)=>decide (1<=r.cond.length)&&decide (1<=r.thn.length)|none=>false
theorem ZAq{s:BYT}(h:ZtS s=true):∃r A,Y3 s=some (r,A)/\1<=r.cond.length/\1<=r.thn.length:=by
 unfold ZtS at h;split at h
 .rename_i r A e;rw [AB,decide_eq_true_iff,decide_eq_true_iff]at h;exact ⟨r,A,ZAA s _ e,h⟩
 .simp at h
theorem ZyO:([(⟨#[114,32,49,58,32,111,110,40,63,120,44,63,121,41,32,38,32,111,110,40,63,121,44,63,122,41,32,45,62,32,97,100,100,32,111,110,40,63,120,44,63,122,41]⟩),(⟨#[114,32,50,58,32,111,110,40,63,120,44,63,121,41,32,38,32,112,40,63,121,41,32,45,62,32,97,100,100,32,112,40,63,120,41]⟩),(⟨#[114,32,48,58,32,112,40,63,120,41,32,38,32,111,110,40,63,120,44,63,121,41,32,38,32,63,120,32,33,61,32,63,121,32,45,62,32,97,100,100,32,97,116,40,63,121,44,63,120,41]⟩),(⟨#[114,32,51,58,32,97,116,40,63,120,44,63,121,41,32,38,32,112,40,63,120,41,32,38,32,112,40,63,121,41,32,38,32,63,120,32,60,32,63,121,32,45,62,32,97,100,100,32,122,40,41]⟩),(⟨#[114,32,52,58,32,111,110,40,63,120,44,97,41,32,45,62,32,97,100,100,32,113,40,63,120,41,32,38,32,97,100,100,32,112,40,97,41]⟩),(⟨#[114,32,49,58,32,97,116,40,63,120,44,63,120,41,32,38,32,113,40,49,41,32,45,62,32,97,100,100,32,111,110,40,63,120,44,49,41]⟩),(⟨#[114,32,49,58,32,112,40,63,120,41,32,38,32,110,111,116,32,113,40,63,120,41,32,45,62,32,97,100,100,32,97,116,40,63,120,44,98,41]⟩),(⟨#[114,32,50,58,32,111,110,40,63,120,44,63,121,41,32,38,32,110,111,116,32,97,116,40,63,121,44,63,122,41,32,45,62,32,97,100,100,32,113,40,63,121,41]⟩),(⟨#[114,32,53,58,32,97,116,40,63,120,44,63,121,41,32,38,32,110,111,116,32,112,40,63,121,41,32,38,32,63,120,32,33,61,32,63,121,32,45,62,32,97,100,100,32,122,40,41]⟩),(⟨#[114,32,57,58,32,113,40,63,120,41,32,38,32,112,40,63,120,41,32,45,62,32,100,114,111,112,32,112,40,63,120,41]⟩),(⟨#[114,32,48,58,32,97,116,40,63,120,44,49,41,32,38,32,97,116,40,63,121,44,50,41,32,38,32,63,120,32,61,32,63,121,32,45,62,32,100,114,111,112,32,97,116,40,63,120,44,49,41,32,38,32,115,116,111,112]⟩),(⟨#[114,32,49,58,32,111,110,40,63,120,44,63,120,41,32,45,62,32,115,116,111,112]⟩),(⟨#[114,32,55,58,32,122,40,41,32,38,32,111,110,40,63,120,44,63,121,41,32,45,62,32,100,114,111,112,32,122,40,41,32,38,32,97,100,100,32,111,110,40,63,121,44,63,120,41]⟩)]:List BYT).all ZtS=true:=yO
theorem Zug:∀s∈([(⟨#[114,32,49,58,32,111,110,40,63,120,44,63,121,41,32,38,32,111,110,40,63,121,44,63,122,41,32,45,62,32,97,100,100,32,111,110,40,63,120,44,63,122,41]⟩),(⟨#[114,32,50,58,32,111,110,40,63,120,44,63,121,41,32,38,32,112,40,63,121,41,32,45,62,32,97,100,100,32,112,40,63,120,41]⟩),(⟨#[114,32,48,58,32,112,40,63,120,41,32,38,32,111,110,40,63,120,44,63,121,41,32,38,32,63,120,32,33,61,32,63,121,32,45,62,32,97,100,100,32,97,116,40,63,121,44,63,120,41]⟩),(⟨#[114,32,51,58,32,97,116,40,63,120,44,63,121,41,32,38,32,112,40,63,120,41,32,38,32,112,40,63,121,41,32,38,32,63,120,32,60,32,63,121,32,45,62,32,97,100,100,32,122,40,41]⟩),(⟨#[114,32,52,58,32,111,110,40,63,120,44,97,41,32,45,62,32,97,100,100,32,113,40,63,120,41,32,38,32,97,100,100,32,112,40,97,41]⟩),(⟨#[114,32,49,58,32,97,116,40,63,120,44,63,120,41,32,38,32,113,40,49,41,32,45,62,32,97,100,100,32,111,110,40,63,120,44,49,41]⟩),(⟨#[114,32,49,58,32,112,40,63,120,41,32,38,32,110,111,116,32,113,40,63,120,41,32,45,62,32,97,100,100,32,97,116,40,63,120,44,98,41]⟩),(⟨#[114,32,50,58,32,111,110,40,63,120,44,63,121,41,32,38,32,110,111,116,32,97,116,40,63,121,44,63,122,41,32,45,62,32,97,100,100,32,113,40,63,121,41]⟩),(⟨#[114,32,53,58,32,97,116,40,63,120,44,63,121,41,32,38,32,110,111,116,32,112,40,63,121,41,32,38,32,63,120,32,33,61,32,63,121,32,45,62,32,97,100,100,32,122,40,41]⟩),(⟨#[114,32,57,58,32,113,40,63,120,41,32,38,32,112,40,63,120,41,32,45,62,32,100,114,111,112,32,112,40,63,120,41]⟩),(⟨#[114,32,48,58,32,97,116,40,63,120,44,49,41,32,38,32,97,116,40,63,121,44,50,41,32,38,32,63,120,32,61,32,63,121,32,45,62,32,100,114,111,112,32,97,116,40,63,120,44,49,41,32,38,32,115,116,111,112]⟩),(⟨#[114,32,49,58,32,111,110,40,63,120,44,63,120,41,32,45,62,32,115,116,111,112]⟩),(⟨#[114,32,55,58,32,122,40,41,32,38,32,111,110,40,63,120,44,63,121,41,32,45,62,32,100,114,111,112,32,122,40,41,32,38,32,97,100,100,32,111,110,40,63,121,44,63,120,41]⟩)]:List BYT),ZtS s=true:=fun s A=>An.1 ZyO s A
structure RS (r:Zf):Prop where
 cl:r.cond.length<=200
 tl:r.thn.length<=200
 ca:∀x∈r.cond,x.pattern.args.length<=200
 ta:∀a∈r.thn,a.pattern.args.length<=200
theorem Zjr.rs{s:BYT}{r:Zf}(h:Zjr s r)(hs:s.size<=100):RS r:=⟨by have:=h.cl;omega,by have:=h.tl;omega,fun x A=>by have:=(h.ca x A).1;omega,fun x A=>by have:=h.ta x A;omega⟩
theorem RS.name{r:Zf}(h:RS r)(n:BYT)(p:Int):RS { name:=n,priority:=p,cond:=r.cond,thn:=r.thn }:=⟨h.cl,h.tl,h.ca,h.ta⟩
theorem RS.small{r:Zf}(h:RS r):Q6 r:=⟨by have:=h.cl;omega,by have:=h.tl;omega,fun x A=>by have:=h.ca x A;omega,fun x A=>by have:=h.ta x A;omega⟩
theorem RK.rs{b:Bool}{r:Zf}(h:RK b r):RS r:=by
 obtain ⟨s,B,_,A⟩:=h;exact A.rs B
theorem Zx5(L:List BYT)(N:Nat)(n:Int)(T:L.length=N)(P:0<n)(S:n<=N)(O:N<=200)(hs:∀s∈L,s.size<=100)(K:∀s∈L,ZtS s=true){c:Zi}(M:ZK c):∃r c',((ZL c n).bind fun v1=>chk (0<=v1.1/\v1.1<(N:Int)) <| (L[(AA v1.1)]?).bind fun C=>(Y3 C).bind fun D=>some (D.1,v1.2))=some (r,c')/\RS r/\1<=r.cond.length/\1<=r.thn.length/\ZK c':=by
 obtain ⟨x,c',e,R,I,a⟩:=Z1 M P yE;have A:x.toNat<L.length:=by omega
 have ml:=AN A;obtain ⟨r,H,B,J⟩:=Zls (s:=L[x.toNat]) (by have:=hs _ ml;omega);obtain ⟨E,b,d,G,F⟩:=ZAq (K _ ml);obtain ⟨rfl,rfl⟩:r=E/\H=b:=by
  have:=AL (B.symm.trans d);exact ⟨congrArg Prod.fst this,congrArg Prod.snd this⟩
 refine ⟨r,c',?_,J.rs (hs _ ml),G,F,a⟩;rw [e,A0,Zj _ yE,A9 A,A0,B];rfl
theorem Zka{c:Zi}(h:ZK c){m:Int}(A:0<m):∃r c',Qa c m=some (r,c')/\RS r/\1<=r.cond.length/\1<=r.thn.length/\ZK c':=by
 unfold Qa;exact Zx5 _ 13 _ rfl (by split<;>omega) (by split<;>omega) yE yF Zug h
theorem ZlX{c:Zi}(h:ZK c):∃x c',ZdF c=some (x,c')/\ZK c':=by
 unfold ZdF;obtain ⟨b,F,E,D⟩:=ZgC h (n:=4) yE yE;rw [E,A0];split
 .obtain ⟨x,C,B,A⟩:=Zl2 D;exact ⟨x,C,by rw [B];rfl,A⟩
 .obtain ⟨x,C,B,_,A⟩:=Zdv D (l:=[(⟨#[63,120]⟩),(⟨#[63,121]⟩),(⟨#[63,122]⟩)]) yG yG;exact ⟨x,C,by rw [B];rfl,A⟩
theorem ZiW{c:Zi}(h:ZK c):∃p c',Za2 c=some (p,c')/\p.args.length<=2/\ZK c':=by
 unfold Za2;obtain ⟨r,n,H,e,B,F,_,A⟩:=Zuo h;rw [e,A0];obtain ⟨row,E,D,G,C⟩:=ZqB (tm:=ZdF) (fun c A=>ZlX A) (fun row c=>(({ rel:=r,args:=row }:Zo),c)) B yE A;exact ⟨{ rel:=r,args:=row },E,D,by show row.length<=2;omega,C⟩
theorem ZuL{c:Zi}(h:ZK c):∃p c',ZiT c=some (p,c')/\p.args.length<=4/\ZK c':=by
 unfold ZiT;obtain ⟨f,M,G,N,E⟩:=ZiW h;obtain ⟨k,H,F,L,K,D⟩:=Z1 E (n:=10) yE yE;rw [G,A0,F,A0];split
 .obtain ⟨w,C,B,A⟩:=Zec D;exact ⟨{ rel:=w,args:=f.args },C,by rw [B];rfl,by show f.args.length<=4;omega,A⟩
 .split
  .obtain ⟨w,C,B,A⟩:=Zec D;exact ⟨{ rel:=f.rel,args:=f.args++[w] },C,by rw [B,A0,Zj _ (by show f.args.length+1<=_;omega)],by simp;omega,A⟩
  .split
   .obtain ⟨w,C,B,J,I,A⟩:=Z1 D (n:=5) yE yE;refine ⟨_,C,by rw [B,A0,Zj _ yE],?_,A⟩;simp;omega
   .exact ⟨f,H,rfl,yE,D⟩
theorem ZqM{c:Zi}(h:ZK c):∃x c',Zgk c=some (x,c')/\x.pattern.args.length<=2/\ZK c':=by
 unfold Zgk;obtain ⟨k,M,K,O,N,E⟩:=Z1 h (n:=5) yE yE;rw [K,A0];have b:∀A:Int,∃x c',((Za2 M).bind fun D=>some (({ kind:=A,pattern:=D.1,left:=(⟨#[]⟩),right:=(⟨#[]⟩) }:Zu),D.2))=some (x,c')/\x.pattern.args.length<=2/\ZK c':=fun A=>by
  obtain ⟨p,F,C,a,B⟩:=ZiW E;exact ⟨{ kind:=A,pattern:=p,left:=⟨#[]⟩,right:=⟨#[]⟩ },F,by rw [C];rfl,a,B⟩
 split
 .exact b 1
 .split
  .exact b 1
  .split
   .exact b 2
   .obtain ⟨x,F,C,B⟩:=ZlX E;obtain ⟨y,P,J,H⟩:=ZlX B;obtain ⟨k,L,I,_,G⟩:=Zcq H (l:=[3,4,4,5]) yG yG;refine ⟨{ kind:=k,pattern:={ rel:=⟨#[]⟩,args:=[] },left:=x,right:=y },L,?_,yG,G⟩;rw [C,A0,J,A0];unfold ZkL;rw [I];rfl
theorem ZAY{c:Zi}(h:ZK c):∃x c',Zlj c=some (x,c')/\x.pattern.args.length<=4/\ZK c':=by
 unfold Zlj;obtain ⟨x,K,G,L,E⟩:=ZqM h;obtain ⟨k,H,F,J,I,D⟩:=Z1 E (n:=12) yE yE;rw [G,A0,F,A0];split
 .obtain ⟨w,C,B,_,A⟩:=Zcq D (l:=[0,1,3,5,6,(-1)]) yG yG;exact ⟨{ kind:=w,pattern:=x.pattern,left:=x.left,right:=x.right },C,by rw [B];rfl,by show x.pattern.args.length<=4;omega,A⟩
 .split
  .obtain ⟨w,C,B,A⟩:=Zec D;exact ⟨{ kind:=x.kind,pattern:=x.pattern,left:=w,right:=x.right },C,by rw [B];rfl,by show x.pattern.args.length<=4;omega,A⟩
  .split
   .obtain ⟨p,C,B,a,A⟩:=ZuL D;exact ⟨{ kind:=x.kind,pattern:=p,left:=x.left,right:=x.right },C,by rw [B];rfl,a,A⟩
   .exact ⟨x,H,rfl,yE,D⟩
def DrR(o:Option (Zf×Zi)):Prop:=∃r c',o=some (r,c')/\RS r/\1<=r.cond.length/\1<=r.thn.length/\ZK c'
theorem ZBp{R:List Zu}(L:R.length<=3)(H:1<=R.length)(ha:∀x∈R,x.pattern.args.length<=2){T:List Zy}(K:T.length<=2)(G:1<=T.length)(F:∀a∈T,a.pattern.args.length<=3)(B:BYT)(A:Int){c:Zi}(C:ZK c){σ:Type}:∃r c',((XU ({ name:=B,priority:=A,cond:=R,thn:=T }:Zf)).bind fun d=>
        if d=true then
         some (.inr (.inr (({ name:=B,priority:=A,cond:=R,thn:=T }:Zf),c)))
        else
         (Qa c 99).bind fun b=>
         some (.inr (.inr (b.1,b.2))))=some (.inr (.inr (r,c')):(List Int×Int×Int×List BYT×Int) ⊕ (σ ⊕ (Zf×Zi)))/\RS r/\1<=r.cond.length/\1<=r.thn.length/\ZK c':=by
 have hs:RS ({ name:=B,priority:=A,cond:=R,thn:=T }:Zf):=⟨by show R.length<=200;omega,by show T.length<=200;omega,fun x D=>by have:=ha x D;omega,fun a E=>by have:=F a E;omega⟩
 rw [Zb9 _ hs.small,A0];split
 .exact ⟨_,_,rfl,hs,H,G,C⟩
 .obtain ⟨r,J,I,q⟩:=Zka C (m:=99) yE;exact ⟨r,J,by rw [I];rfl,q⟩
theorem Zt2{c:Zi}(h:ZK c):DrR (Zew c):=by
 unfold Zew;obtain ⟨L,c1,e1,_,_,h1⟩:=Z1 h (n:=4) (by omega) (by omega);obtain ⟨p0,c2,e2,a2,h2⟩:=ZiW h1;obtain ⟨n,c3,e3,n0,n1,h3⟩:=Z1 h2 (n:=3) (by omega) (by omega);rw [e1,A0,e2,A0,e3,A0];have G:∀(R:List Zu),R.length≤3→1≤R.length→(∀x∈R,x.pattern.args.length≤2)→∀(rel:BYT) (V:List BYT) (m k:Nat) (A:Zi) (row:List BYT),k+m=row.length→row.length≤3→ZK A→∃r c',iter (σ:=(List Int) × Int × Int × (List BYT) × Int) (ρ:=(List Int × Int × Int × List Zu × Int) ⊕ (Zf × Zi))
     (fun s=>
      match s with
      | (f_22,f_23,f_24,row_25,u_17)=>
      if (decide (u_17<(row_25.length:Int)))=true then
       chk (0≤u_17∧u_17<(row_25.length:Int)) <|
       (row_25[(AA u_17)]?).bind fun O=>
       (Zas O).bind fun ae=>
       if ae=true then
        (Z4 V O).bind fun ad=>
        if ad=true then
         some (.inl (f_22,f_23,f_24,row_25,(i64.wrap (u_17+1))))
        else
         (Zcw ({ b:=f_22,i:=f_23,h:=f_24 }:Zi)).bind fun E=>
         some (.inl (E.2.b,E.2.i,E.2.h,(BH row_25 (AA u_17) E.1),(i64.wrap (u_17+1))))
       else
        some (.inl (f_22,f_23,f_24,row_25,(i64.wrap (u_17+1))))
      else
       (QE ({ b:=f_22,i:=f_23,h:=f_24 }:Zi) [1,1,2]).bind fun D=>
       (ZaI D.2 6).bind fun C=>
       if C.1=true then
        (XU ({ name:=(⟨#[114]⟩),priority:=L,cond:=R,thn:=[({ kind:=D.1,pattern:=({ rel:=rel,args:=row_25 }:Zo) }:Zy),({ kind:=3,pattern:=({ rel:=(⟨#[]⟩),args:=[] }:Zo) }:Zy)] }:Zf)).bind fun ac=>
        if ac=true then
         some (.inr (.inr (({ name:=(⟨#[114]⟩),priority:=L,cond:=R,thn:=[({ kind:=D.1,pattern:=({ rel:=rel,args:=row_25 }:Zo) }:Zy),({ kind:=3,pattern:=({ rel:=(⟨#[]⟩),args:=[] }:Zo) }:Zy)] }:Zf),C.2)))
        else
         (Qa C.2 99).bind fun S=>
         some (.inr (.inr (S.1,S.2)))
       else
        (XU ({ name:=(⟨#[114]⟩),priority:=L,cond:=R,thn:=[({ kind:=D.1,pattern:=({ rel:=rel,args:=row_25 }:Zo) }:Zy)] }:Zf)).bind fun aa=>
        if aa=true then
         some (.inr (.inr (({ name:=(⟨#[114]⟩),priority:=L,cond:=R,thn:=[({ kind:=D.1,pattern:=({ rel:=rel,args:=row_25 }:Zo) }:Zy)] }:Zf),C.2)))
        else
         (Qa C.2 99).bind fun P=>
         some (.inr (.inr (P.1,P.2))))
     (A.b,A.i,A.h,row,(k:Int))=some (.inr (r,c'))∧RS r∧1≤r.cond.length∧1≤r.thn.length∧ZK c':=by
  intro R hR K ha rel V m;induction m with
  | zero=>
   intro k A row hk N B;obtain ⟨kd,d1,g1,_,I⟩:=Zcq B (l:=[1,1,2]) (by simp) (by simp);obtain ⟨o,d2,g2,af⟩:=ZgC I (n:=6) (by omega) (by omega);have fin:∀T:List Zy,T.length≤2→1≤T.length→(∀a∈T,a.pattern.args.length≤3)→_:=fun T t1 t2 t3=>ZBp (σ:=List Int × Int × Int × List Zu × Int) hR K ha (T:=T) t1 t2 t3 (⟨#[114]⟩) L af;cases o with
   | true=>
    obtain ⟨r,c',e,q⟩:=fin [({ kind:=kd,pattern:=({ rel:=rel,args:=row }:Zo) }:Zy),({ kind:=3,pattern:=({ rel:=(⟨#[]⟩),args:=[] }:Zo) }:Zy)] (by simp) (by simp) (by simp;omega);refine ⟨r,c',ZU ?_,q⟩;simp only;rw [yn (by simp;omega),show ({ b:=A.b,i:=A.i,h:=A.h }:Zi)=A from rfl,g1,A0,g2,A0,yp rfl];exact e
   | false=>
    obtain ⟨r,c',e,q⟩:=fin [({ kind:=kd,pattern:=({ rel:=rel,args:=row }:Zo) }:Zy)] (by simp) (by simp) (by simp;omega);refine ⟨r,c',ZU ?_,q⟩;simp only;rw [yn (by simp;omega),show ({ b:=A.b,i:=A.i,h:=A.h }:Zi)=A from rfl,g1,A0,g2,A0,yn (by simp)];exact e
  | succ m ih=>
   intro k A row hk N B;have H:k<row.length:=by omega
   have U:i64.wrap ((k:Int)+1)=((k+1:Nat):Int):=by rw [Yo (by omega) (by omega)];omega
   obtain ⟨a,d1,g1,I⟩:=Zl2 B;by_cases hv:Yu row[k]=true
   ·by_cases ht:YT V row[k]=true
    ·refine (Z6 (s':=(A.b,A.i,A.h,row,((k+1:Nat):Int))) ?_) ▸ ih (k+1) A row (by omega) N B
     simp only;rw [yp (by simp;omega),Zj _ (by omega),AC,A9 H,A0,XO,A0,yp hv,YL,A0,yp ht,U]
    ·refine (Z6 (s':=(d1.b,d1.i,d1.h,row.set k a,((k+1:Nat):Int))) ?_) ▸ ih (k+1) d1 (row.set k a) (by simp;omega) (by simpa using N) I
     simp only;rw [yp (by simp;omega),Zj _ (by omega),AC,A9 H,A0,XO,A0,yp hv,YL,A0,yn ht,show ({ b:=A.b,i:=A.i,h:=A.h }:Zi)=A from rfl,g1,A0,U]
   ·refine (Z6 (s':=(A.b,A.i,A.h,row,((k+1:Nat):Int))) ?_) ▸ ih (k+1) A row (by omega) N B
    simp only;rw [yp (by simp;omega),Zj _ (by omega),AC,A9 H,A0,XO,A0,yn hv,U]
 have F:∀{body:(List Int × Int × Int × List Zu × Int)→Option ((List Int × Int × Int × List Zu × Int) ⊕ (Zf × Zi))},(∀(A:Zi) (R:List Zu) (k:Nat),ZK A→∃x c',x.pattern.args.length≤2∧ZK c'∧(R.length≤3→k≤3→body (A.b,A.i,A.h,R,((k+1:Nat):Int))=some (.inl (c'.b,c'.i,c'.h,R++[x],(k:Int)))))→(∀(A:Zi) (R:List Zu),ZK A→R.length≤3→1≤R.length→(∀x∈R,x.pattern.args.length≤2)→∃r c',body (A.b,A.i,A.h,R,0)=some (.inr (r,c'))∧RS r∧1≤r.cond.length∧1≤r.thn.length∧ZK c')→∀(k:Nat) (A:Zi) (R:List Zu),ZK A→R.length+k≤3→1≤R.length→(∀x∈R,x.pattern.args.length≤2)→DrR (iter body (A.b,A.i,A.h,R,(k:Int))):=by
  intro body hs he k;induction k with
  | zero=>
   intro A R B N W ha;obtain ⟨r,c',e,q⟩:=he A R B (by omega) W ha;exact ⟨r,c',ZU e,q⟩
  | succ k ih=>
   intro A R B N W ha;obtain ⟨x,c',hx,J,e⟩:=hs A R k B;rw [Z6 (e (by omega) (by omega))];exact ih c' (R++[x]) J (by simp;omega) (by simp) fun y M=>by
    rcases AI.1 M with M | M
    ·exact ha y M
    ·simp at M;subst M;exact hx
 have hn:n=(n.toNat:Int):=by omega
 rw [hn];refine F ?_ ?_ n.toNat c3 [{ kind:=1,pattern:=p0,left:=⟨#[]⟩,right:=⟨#[]⟩ }] h3 (by simp;omega) (by simp) (by simp;exact a2)
 ·intro A R k B
  obtain ⟨x,c',e,hx,J⟩:=ZqM B;refine ⟨x,c',hx,J,fun hR ag=>?_⟩;have U:i64.wrap ((((k+1:Nat)):Int) - 1)=(k:Int):=by rw [Yo (by omega) (by omega)];omega
  simp only;rw [yp (decide_eq_true (by omega)),show ({ b:=A.b,i:=A.i,h:=A.h }:Zi)=A from rfl,e,A0,Zj _ (by omega),U]
 ·intro A R B hR K ha
  obtain ⟨p,c4,e4,a4,h4⟩:=ZiW B;obtain ⟨r,c',e,q⟩:=G R hR K ha p.rel (YU ({ name:=(⟨#[114]⟩),priority:=L,cond:=R,thn:=[] }:Zf) R.length) p.args.length 0 c4 p.args (by omega) (by omega) h4;refine ⟨r,c',?_,q⟩;simp only;rw [yn (by simp),ZcC _ _ ⟨by show R.length≤_;omega,by simp,fun x mx=>by have:=ha x mx;omega,by simp⟩ (by show R.length≤4;omega),A0,AC,show ({ b:=A.b,i:=A.i,h:=A.h }:Zi)=A from rfl,e4,A0];exact e
theorem Zqj{c:Zi}(h:ZK c):DrR (ZeX c):=by
 unfold ZeX;obtain ⟨b,E,D,C⟩:=ZgC h (n:=3) yE yE;rw [D,A0];split
 .obtain ⟨r,B,A,q⟩:=Zt2 C;exact ⟨r,B,by rw [A];rfl,q⟩
 .obtain ⟨r,B,A,q⟩:=Zka C (m:=99) yE;exact ⟨r,B,by rw [A];rfl,q⟩
theorem ZzZ{c:Zi}(h:ZK c):∃r c',ZkU c=some (r,c')/\r.cond.length<=201/\r.thn.length<=201/\(∀x∈r.cond,x.pattern.args.length<=200)/\(∀a∈r.thn,a.pattern.args.length<=200)/\ZK c':=by
 unfold ZkU;obtain ⟨r,c1,O,q,V,U,L⟩:=Zqj h;obtain ⟨k,H,N,k0,W,D⟩:=Z1 L (n:=14) yE yE;have b1:=q.cl;have b2:=q.tl;rw [O,A0,N,A0];split
 .obtain ⟨w,E,C,B⟩:=Zec D;exact ⟨{ name:=w,priority:=r.priority,cond:=r.cond,thn:=r.thn },E,by rw [C];rfl,by show r.cond.length<=_;omega,by show r.thn.length<=_;omega,q.ca,q.ta,B⟩
 split
 .obtain ⟨w,E,C,_,B⟩:=Zcq D (l:=[(-1),0,9,10]) yG yG;exact ⟨{ name:=r.name,priority:=w,cond:=r.cond,thn:=r.thn },E,by rw [C];rfl,by show r.cond.length<=_;omega,by show r.thn.length<=_;omega,q.ca,q.ta,B⟩
 split
 .obtain ⟨x,E,C,ax,B⟩:=ZAY D;refine ⟨{ name:=r.name,priority:=r.priority,cond:=r.cond++[x],thn:=r.thn },E,by rw [C,A0,Zj _ (by show r.cond.length+1<=_;omega)],by simp;omega,by show r.thn.length<=_;omega,fun y A=>?_,q.ta,B⟩;rcases AI.1 A with A|A
  .exact q.ca y A
  .simp at A;subst A;omega
 split
 .obtain ⟨J,E,C,_,B⟩:=Zcq D (l:=[0,1,2,3,4]) yG yG;obtain ⟨p,I,G,ap,F⟩:=ZuL B;refine ⟨{ name:=r.name,priority:=r.priority,cond:=r.cond,thn:=r.thn++[{ kind:=J,pattern:=p }] },I,by rw [C,A0,G,A0,Zj _ (by show r.thn.length+1<=_;omega)],by show r.cond.length<=_;omega,by simp;omega,q.ca,fun y A=>?_,F⟩;rcases AI.1 A with A|A
  .exact q.ta y A
  .simp at A;subst A;show p.args.length<=200;omega
 split
 .exact ⟨{ name:=r.name,priority:=r.priority,cond:=r.cond.drop 1,thn:=r.thn },H,by rw [Zj _ (by show 0<=1/\(1:Int)<=(r.cond.length:Int);omega)];rfl,by simp;omega,by show r.thn.length<=_;omega,fun y A=>q.ca y (B3 A),q.ta,D⟩
 split
 .exact ⟨{ name:=r.name,priority:=r.priority,cond:=r.cond,thn:=r.thn.drop 1 },H,by rw [Zj _ (by show 0<=1/\(1:Int)<=(r.thn.length:Int);omega)];rfl,by show r.cond.length<=_;omega,by simp;omega,q.ca,fun y A=>q.ta y (B3 A),D⟩
 split
 .obtain ⟨T,E,C,_,B⟩:=Zdv D (l:=[(⟨#[63,102]⟩),(⟨#[63,97]⟩),(⟨#[63,103]⟩)]) yG yG;obtain ⟨S,I,G,_,F⟩:=Zcq B (l:=[1,2]) yG yG;obtain ⟨R,P,M,_,K⟩:=Zdv F (l:=[(⟨#[63,102]⟩),(⟨#[63,120]⟩)]) yG yG;exact ⟨_,P,by rw [C,A0,G,A0,M,A0],yG,yG,yG,yG,K⟩
 .exact ⟨r,H,rfl,yE,yE,q.ca,q.ta,D⟩
structure RB (r:Zf):Prop where
 cl:r.cond.length<=201
 tl:r.thn.length<=201
 ca:∀x∈r.cond,x.pattern.args.length<=200
 ta:∀a∈r.thn,a.pattern.args.length<=200
theorem RS.rb{r:Zf}(h:RS r):RB r:=⟨by have:=h.cl;omega,by have:=h.tl;omega,h.ca,h.ta⟩
theorem ZA8{R:List Zf}(E:R.length<=100)(h:∀r∈R,RB r):XD R:=by
 refine ⟨fun r C=>?_,?_⟩
 .have q:=h r C;exact ⟨by have:=q.cl;omega,by have:=q.tl;omega,fun x A=>by have:=q.ca x A;omega,fun x A=>by have:=q.ta x A;omega⟩
 have:∀l:List Zf,(∀r∈l,r∈R)->(l.flatMap YO).length<=201*l.length:=by
  intro l;induction l with
  |nil=>intro _;simp
  |cons r l ih=>
   intro B;have h1:=ih fun q D=>B q (by simp [D]);have h2:=ZoU r;have h3:=(h r (B r yG)).cl;rw [List.flatMap_cons,AP,AT];omega
 have:=this R fun _ h=>h;omega
theorem Zz6{c:Zi}(h:ZK c){m:Int}(S:0<=m)(P:m<=7):∃R c',ZkG c m=some (R,c')/\R.length<=7/\(∀r∈R,RB r)/\ZK c':=by
 unfold ZkG;have E:i64.wrap (m+1)=m+1:=Yo yE yE;rw [E];obtain ⟨n,M,e,O,N,J⟩:=Z1 h (n:=m+1) yE yE;rw [e,A0];have key:∀(k:Nat) (A:Zi) (row:List Zf),ZK A->row.length+k<=7->(∀r∈row,RB r)->∃R c',iter (σ:=(List Int)×Int×Int×(List Zf)×Int)
  (fun s=>
   match s with
   |(f_4,f_5,f_6,row_7,n_8)=>
   if (decide (0<n_8))=true then
    (ZeX ({ b:=f_4,i:=f_5,h:=f_6 }:Zi)).bind fun B=>
    (YJ n_8).bind fun d=>
    chk ((⟨#[114]⟩:BYT).size+d.size<=9223372036854775807) <|
    chk (row_7.length+1<=1073741824) <|
    some (.inl (B.2.b,B.2.i,B.2.h,(row_7++[({ name:=((⟨#[114]⟩:BYT)++d),priority:=B.1.priority,cond:=B.1.cond,thn:=B.1.thn }:Zf)]),(i64.wrap (n_8 - 1))))
   else
    some (.inr (row_7,({ b:=f_4,i:=f_5,h:=f_6 }:Zi))))
  (A.b,A.i,A.h,row,(k:Int))=some (R,c')/\R.length<=7/\(∀r∈R,RB r)/\ZK c':=by
  intro k;induction k with
  |zero=>
   intro A row a I F;exact ⟨row,A,ZU rfl,yE,F,a⟩
  |succ k ih=>
   intro A row a I F;obtain ⟨r,D,L,g,_,_,j⟩:=Zqj a;have f:decide (0<(((k+1:Nat)):Int))=true:=decide_eq_true yE;have E:i64.wrap ((((k+1:Nat)):Int) - 1)=(k:Int):=by rw [Yo yE yE];omega
   have H:(ofL (Lib.itoa ((k+1:Nat):Int))).size<=21:=Zl3 ⟨yE,yE⟩;refine (Z6 (s':=(D.b,D.i,D.h,row++[({ name:=((⟨#[114]⟩:BYT)++ofL (Lib.itoa ((k+1:Nat):Int))),priority:=r.priority,cond:=r.cond,thn:=r.thn }:Zf)],(k:Int))) ?_) ▸ ih D _ j (by simp;omega) fun q C=>?_
   .simp only[f,if_true];rw [show ({ b:=A.b,i:=A.i,h:=A.h }:Zi)=A from rfl,L,A0,Za3 ⟨yE,yE⟩,A0,Zj _ (by have:(⟨#[114]⟩:BYT).size=1:=rfl;omega),Zj _ yE,E]
   .rcases AI.1 C with C|C
    .exact F q C
    .simp at C;subst C;exact (g.name _ _).rb
 have K:n=(n.toNat:Int):=by omega
 have:=key n.toNat M [] J (by simp;omega) (fun y G=>by simp at G);rw [<-K]at this;exact this
theorem Zy4{c:Zi}(h:ZK c):∃R c',Zir c=some (R,c')/\R.length<=20/\(∀r∈R,RB r)/\ZK c':=by
 unfold Zir;obtain ⟨R,c1,e1,r1,F,h1⟩:=Zz6 h (m:=3) yE yE;obtain ⟨k,c2,e2,k0,k1,I⟩:=Z1 h1 (n:=10) yE yE;rw [e1,A0,e2,A0];split
 .obtain ⟨r,K,J,O,N,M,L,H⟩:=ZzZ I;refine ⟨R++[r],K,by rw [J,A0,Zj _ (by show R.length+1<=_;omega)],by simp;omega,fun y B=>?_,H⟩;rcases AI.1 B with B|B
  .exact F y B
  .simp at B;subst B;exact ⟨O,N,M,L⟩
 split
 .obtain ⟨n,K,J,U,H⟩:=Zcq I (l:=[6,7]) yG yG;rw [J,A0];have P:n<=7:=by simp at U;omega
  have key:∀(m j:Nat) (A:Zi) (row:List Zf),20 - row.length<=m->j<=row.length->ZK A->row.length<=20->(∀r∈row,RB r)->∃R c',iter (σ:=(List Int)×Int×Int×(List Zf)×Int)
    (fun s=>
     match s with
     |(f_7,f_8,f_9,row_10,i_11)=>
     if (decide ((row_10.length:Int)<n))=true then
      (Qa ({ b:=f_7,i:=f_8,h:=f_9 }:Zi) 6).bind fun a=>
      (YJ i_11).bind fun e=>
      chk ((⟨#[107]⟩:BYT).size+e.size<=9223372036854775807) <|
      chk (row_10.length+1<=1073741824) <|
      some (.inl (a.2.b,a.2.i,a.2.h,(row_10++[({ name:=((⟨#[107]⟩:BYT)++e),priority:=a.1.priority,cond:=a.1.cond,thn:=a.1.thn }:Zf)]),(i64.wrap (i_11+1))))
     else
      some (.inr (row_10,({ b:=f_7,i:=f_8,h:=f_9 }:Zi))))
    (A.b,A.i,A.h,row,(j:Int))=some (R,c')/\R.length<=20/\(∀r∈R,RB r)/\ZK c':=by
   intro m;induction m with
   |zero=>
    intro j A row V W d G D;refine ⟨row,A,ZU ?_,G,D,d⟩;simp only;rw [yn (by simp;omega)]
   |succ m ih=>
    intro j A row V W d G D;by_cases f:(row.length:Int)<n
    .obtain ⟨r,E,e4,g,_,_,h4⟩:=Zka d (m:=6) yE;have S:i64.wrap ((j:Int)+1)=((j+1:Nat):Int):=by rw [Yo yE yE];omega
     have T:(ofL (Lib.itoa (j:Int))).size<=21:=Zl3 ⟨yE,yE⟩;refine (Z6 (s':=(E.b,E.i,E.h,row++[({ name:=((⟨#[107]⟩:BYT)++ofL (Lib.itoa (j:Int))),priority:=r.priority,cond:=r.cond,thn:=r.thn }:Zf)],((j+1:Nat):Int))) ?_) ▸ ih (j+1) E _ (by simp;omega) (by simp;omega) h4 (by simp;omega) fun q C=>?_
     .simp only;rw [yp (by simpa using f),show ({ b:=A.b,i:=A.i,h:=A.h }:Zi)=A from rfl,e4,A0,Za3 ⟨yE,yE⟩,A0,Zj _ (by have:(⟨#[107]⟩:BYT).size=1:=rfl;omega),Zj _ yE,S]
     .rcases AI.1 C with C|C
      .exact D q C
      .simp at C;subst C;exact (g.name _ _).rb
    .refine ⟨row,A,ZU ?_,G,D,d⟩;simp only;rw [yn (by simpa using f)]
  exact key 20 0 K R yE yE H yE F
 .exact ⟨R,c2,rfl,yE,F,I⟩
theorem ZoI{f:Za}:∀{l:List Za},f∉l->(Zbe l f).length=l.length+1
 | [],_=>rfl
 |x::l,h=>by
  unfold Zbe;split
  .rw [AT,ZoI fun m=>h (by simp [m]),AT]
  .split
   .rename_i A;exact absurd ((Zdl.eq x f).1 A) fun e=>h (by simp [e])
   .simp
def Zpo(k:Nat):Za:={ rel:=⟨#[110]⟩,args:=[ofL (Lib.itoa (k:Int))] }
theorem ZC8{a b:List UInt8}(h:ofL a=ofL b):a=b:=by
 have:=congrArg toL h;simpa [toL,ofL]using this
theorem ZAS{j k:Nat}(F:j<25)(E:k<25)(h:Zpo j=Zpo k):j=k:=by
 have B:ofL (Lib.itoa (j:Int))=ofL (Lib.itoa (k:Int)):=by
  have:=congrArg Za.args h;simpa [Zpo]using this
 have h2:=ZC8 B;rw [Lib.itoa_nonneg,Lib.itoa_nonneg]at h2;have A:∀a b:Nat,a<200->b<200->Bd a=Bd b->a=b:=fun a b ha G e=>by
  have:=congrArg UInt8.toNat e;simp only[UInt8.toNat_ofNat']at this;omega
 by_cases a:j<10<;>by_cases b:k<10
 .rw [Lib.decDigits_one a,Lib.decDigits_one b]at h2;have:=A _ _ yE yE (BI h2).1;omega
 .rw [Lib.decDigits_one a,Lib.decDigits_two b yE]at h2;simp at h2
 .rw [Lib.decDigits_two a yE,Lib.decDigits_one b]at h2;simp at h2
 .rw [Lib.decDigits_two a yE,Lib.decDigits_two b yE]at h2;obtain ⟨D,C⟩:=BI h2;have q1:=A _ _ yE yE D;have q2:=A _ _ yE yE (BI C).1;omega
theorem ZA7{c:Zi}(h:ZK c){m:Int}(S:0<=m)(R:m<=7):∃l c',ZkA c m=some (l,c')/\l.length<=7/\(∀f∈l,f.args.length<=2/\f.rel≠⟨#[110]⟩)/\ZK c':=by
 unfold ZkA;have F:i64.wrap (m+1)=m+1:=Yo yE yE;rw [F];obtain ⟨n,N,e,P,O,K⟩:=Z1 h (n:=m+1) yE yE;rw [e,A0];have key:∀(k:Nat) (A:Zi) (row:List Za),ZK A->row.length+k<=7->(∀f∈row,f.args.length<=2/\f.rel≠⟨#[110]⟩)->∃l c',iter (σ:=(List Int)×Int×Int×(List Za)×Int)
  (fun s=>
   match s with
   |(f_4,f_5,f_6,row_7,n_8)=>
   if (decide (0<n_8))=true then
    (ZeL ({ b:=f_4,i:=f_5,h:=f_6 }:Zi)).bind fun B=>
    (YS row_7 B.1).bind fun g=>
    some (.inl (B.2.b,B.2.i,B.2.h,g,(i64.wrap (n_8 - 1))))
   else
    some (.inr (row_7,({ b:=f_4,i:=f_5,h:=f_6 }:Zi))))
  (A.b,A.i,A.h,row,(k:Int))=some (l,c')/\l.length<=7/\(∀f∈l,f.args.length<=2/\f.rel≠⟨#[110]⟩)/\ZK c':=by
  intro k;induction k with
  |zero=>
   intro A row a I C;exact ⟨row,A,ZU rfl,yE,C,a⟩
  |succ k ih=>
   intro A row a I C;obtain ⟨f,D,M,J,j,o⟩:=Zrm a;have d:decide (0<(((k+1:Nat)):Int))=true:=decide_eq_true yE;have F:i64.wrap ((((k+1:Nat)):Int) - 1)=(k:Int):=by rw [Yo yE yE];omega
   have hil:=Zkv f row;refine (Z6 (s':=(D.b,D.i,D.h,Zbe row f,(k:Int))) ?_) ▸ ih D _ o yE fun q E=>?_
   .simp only[d,if_true];rw [show ({ b:=A.b,i:=A.i,h:=A.h }:Zi)=A from rfl,M,A0,Zg7 row f yE (fun x G=>by have:=(C x G).1;omega) yE,A0,F]
   .rcases XR.1 E with rfl|E
    .exact ⟨J,j⟩
    .exact C q E
 have L:n=(n.toNat:Int):=by omega
 have:=key n.toNat N [] K (by simp;omega) (fun y H=>by simp at H);rw [<-L]at this;exact this
theorem Zzm{c:Zi}(h:ZK c):∃l c',Zip c=some (l,c')/\l.length<=50/\(∀f∈l,f.args.length<=4)/\ZK c':=by
 unfold Zip;obtain ⟨l,c1,e1,l1,D,I⟩:=ZA7 h (m:=6) yE yE;obtain ⟨k,M,e2,k0,k1,H⟩:=Z1 I (n:=8) yE yE;rw [e1,A0,e2,A0];split
 .obtain ⟨f,K,J,q,G⟩:=Zk2 H;refine ⟨l++[f],K,by rw [J,A0,Zj _ (by show l.length+1<=_;omega)],by simp;omega,fun y A=>?_,G⟩;rcases AI.1 A with A|A
  .have:=(D y A).1;omega
  .simp at A;subst A;exact q
 split
 .have key:∀(m k:Nat) (row:List Za),k+m=25->k<=row.length->row.length<=7+k->(∀f∈row,f.args.length<=4/\(f.rel≠⟨#[110]⟩\/∃j,j<k/\f=Zpo j))->∃F c',iter (σ:=(List Za)×Int)
    (fun s=>
     match s with
     |(row_6,i_7)=>
     if (decide (i_7<25))=true then
      (YJ i_7).bind fun O=>
      (YS row_6 ({ rel:=(⟨#[110]⟩),args:=[O] }:Za)).bind fun N=>
      some (.inl (N,(i64.wrap (i_7+1))))
     else
      (QE M [23,24,25]).bind fun a=>
      chk (0<=a.1/\a.1<=(row_6.length:Int)) <|
      some (.inr ((BE 0 (BF (AA a.1) row_6)),a.2)))
    (row,(k:Int))=some (F,c')/\F.length<=50/\(∀f∈F,f.args.length<=4)/\ZK c':=by
   intro m;induction m with
   |zero=>
    intro k row W I G C;obtain ⟨x,K,J,T,h4⟩:=Zcq H (l:=[23,24,25]) yG yG;have S:0<=x/\x<=25:=by simp at T;omega
    refine ⟨(row.take x.toNat).drop 0,K,ZU ?_,by rw [Ap,Ac];omega,fun f B=>(C f (BJ (B3 B))).1,h4⟩;simp only;rw [yn (by simp;omega),J,A0,Zj _ (by show 0<=x/\x<=_;omega)]
   |succ m ih=>
    intro k row W I G C;have U:i64.wrap ((k:Int)+1)=((k+1:Nat):Int):=by rw [Yo yE yE];omega
    have b:Zpo k∉row:=fun R=>by
     rcases (C _ R).2 with V|⟨j,hj,e⟩
     .exact V rfl
     .have:=ZAS yE yE e;omega
    have hil:=ZoI b;refine (Z6 (s':=(Zbe row (Zpo k),((k+1:Nat):Int))) ?_) ▸ ih (k+1) (Zbe row (Zpo k)) yE yE yE fun q E=>?_
    .simp only;rw [yp (by simp;omega),Za3 ⟨yE,yE⟩,A0,show ({ rel:=(⟨#[110]⟩),args:=[ofL (Lib.itoa (k:Int))] }:Za)=Zpo k from rfl,Zg7 row (Zpo k) yE (fun x P=>by have:=(C x P).1;omega) (by simp [Zpo]),A0,U]
    .rcases XR.1 E with rfl|E
     .exact ⟨by simp [Zpo],.inr ⟨k,yE,rfl⟩⟩
     .obtain ⟨a1,L⟩:=C q E;refine ⟨a1,?_⟩;rcases L with L|⟨j,hj,e⟩
      .exact .inl L
      .exact .inr ⟨j,yE,e⟩
  exact key 25 0 l rfl yE yE fun f B=>⟨by have:=(D f B).1;omega,.inl (D f B).2⟩
 .exact ⟨l,M,rfl,yE,fun f B=>by have:=(D f B).1;omega,H⟩
structure DrB (R:List Zf) (l:List Za):Prop where
 rl:R.length<=20
 r:∀r∈R,RB r
 ll:l.length<=50
 a:∀f∈l,f.args.length<=4
theorem ZvR{c:Zi}(h:ZK c):∃R l c',ZgA c=some (R,l,c')/\DrB R l/\ZK c':=by
 unfold ZgA;obtain ⟨R,c1,O,T,H,L⟩:=Zti h true;obtain ⟨l,W,N,b1,S,K⟩:=Zwo L (m:=5) yE yE;obtain ⟨k,P,M,V,U,D⟩:=Z1 K (n:=12) yE yE;rw [O,A0,N,A0,M,A0];have rb:∀r∈R,RB r:=fun r I=>(H r I).rs.rb;have G:∀f∈l,f.args.length<=4:=fun f J=>by have:=S f J;omega
 split
 .obtain ⟨Q,F,E,B,A,C⟩:=Zy4 D;exact ⟨Q,l,F,by rw [E];rfl,⟨B,A,yE,G⟩,C⟩
 split
 .obtain ⟨m,F,E,B,A,C⟩:=Zzm D;exact ⟨R,m,F,by rw [E];rfl,⟨yE,rb,B,A⟩,C⟩
 .exact ⟨R,l,P,rfl,⟨yE,rb,yE,G⟩,D⟩
theorem DrB.small{R:List Zf}{l:List Za}(h:DrB R l):XD R:=ZA8 (by have:=h.rl;omega) h.r
theorem Zz2{R:List Zf}{base:List Za}{x:List Za×Bool}(h:x=([],false)\/(YK R&&R.all (Xm R))=true/\Z7 base=true/\Res R base x):∀f∈x.1,f.args.length<=3:=by
 rcases h with rfl|⟨_,_,B⟩
 .simp
 .rcases B with ⟨_,C,_,_⟩|⟨_,e,_⟩
  .exact fun f A=>Xh (C.ok f A)
  .rw [e];simp
theorem Zwm{c:Zi}(h:ZK c):∃R l f c',Zei c=some (R,l,f,c')/\DrB R l/\f.args.length<=4/\ZK c':=by
 unfold Zei;obtain ⟨R,l,P,M,A,H⟩:=ZvR h;obtain ⟨x,I,N,F⟩:=ZeC A.small l (by have:=A.ll;omega);have hx:=ZCn F;rw [M];simp only[A0];rw [I,A0];split
 .rename_i a;obtain ⟨o,O,L,G⟩:=ZgC H (n:=4) yE yE;rw [L,A0];split
  .obtain ⟨f,D,C,q,B⟩:=Zk2 G;exact ⟨R,l,f,D,by rw [C];rfl,A,q,B⟩
  .have E:0<x.1.length:=by simpa using a
   obtain ⟨i,D,C,K,J,B⟩:=Z1 G (n:=(x.1.length:Int)) yE yE;have hi:i.toNat<x.1.length:=by omega
   exact ⟨R,l,x.1[i.toNat],D,by rw [C,A0,Zj _ ⟨K,J⟩,A9 hi];rfl,A,by have:=Zz2 F _ (AN hi);omega,B⟩
 .obtain ⟨f,D,C,q,B⟩:=Zk2 H;exact ⟨R,l,f,D,by rw [C];rfl,A,q,B⟩
open Classical
end
section
open Classical
theorem ZnS{α:Type}{q:α->Bool}{z t:α}:∀{l:List α}{i:Nat}{body:Nat->α->Unit->Option (Unit ⊕ (α×Bool))},(∀j a,body j a ()=if q a=true then some (.inr (a,true)) else some (.inl ()))->forL body (fun _=>some (z,false)) l i ()=some (t,true)->t∈l/\q t=true
 | [],_,_,_,h=>by simp [forL]at h
 |a::l,i,body,hb,h=>by
  by_cases ha:q a=true
  .rw [Z5 (by rw [hb,yp ha])]at h;obtain rfl:a=t:=by simpa using h
   exact ⟨yG,ha⟩
  .rw [ZO (s':=()) (by rw [hb,yn ha])]at h;obtain ⟨B,A⟩:=ZnS hb h;exact ⟨by simp [B],A⟩
theorem ZtE{r:Zf}(B:Q6 r){M l:List Za}{t:Zw}(h:Qf r M l=some (t,true)):t∈ZD r.cond M/\t.facts=l:=by
 unfold Qf at h;rw [ZfZ r M B,A0]at h;obtain ⟨A,C⟩:=ZnS (q:=fun u:Zw=>decide (u.facts=l)) (fun j a=>by rw [Zcx,A0]) h;refine ⟨?_,by simpa using C⟩;split at A
 .exact A
 .simp at A
theorem ZtZ{r:Zf}(B:Q6 r)(M l:List Za):∃t A,Qf r M l=some (t,A):=by
 unfold Qf;rw [ZfZ r M B,A0];obtain ⟨x,_,C⟩:=Zke (ρ:=Unit) (q:=fun u:Zw=>decide (u.facts=l)) (g:=fun u=>(u,true)) (z:=((({ facts:=[],binding:=[] }:Zw),false):Zw×Bool)) (l:=if (YA r&&Z7 M)=true then ZD r.cond M else []) (i:=0);exact ⟨x.1,x.2,C _ (fun j a=>by rw [Zcx,A0])⟩
theorem ZxU{R:List Zf}(G:XD R){base M:List Za}{before:List Zz}{s:Zz}(hs:s.uses.length<=1048576)(h:ZbN R base M before s=some true):Zx4 R base M before s:=by
 unfold ZbN at h
 by_cases E:s.rule=⟨#[]⟩
 .rw [yp (by rw [E];rfl)]at h
  by_cases A:s.uses=[]
  .rw [yp (by rw [A];rfl)]at h
   obtain ⟨z,L,d⟩:=ZfP base s.fact
   rw [L,A0]at h
   refine .inl ⟨E,A,?_⟩
   refine Classical.byContradiction fun D=>?_
   have h0:=d.2 D
   have C:decide (0<=z)=true:=AL h
   rw [decide_eq_true_iff]at C
   omega
  .rw [yn]at h
   .simp at h
   .intro e
    apply A
    refine AX ?_
    simp at e
    rw [e];rfl
 .rw [yn (by rw [ZV];exact E),Zao,A0]at h
  rcases Zws R s.rule with ⟨C,_⟩|⟨j,r,C,H,O,_⟩
  .rw [C,yp yF]at h
   simp at h
  .rw [C,yn yG,ZhP (p:=Zev before) (g:=Zm8 before) (z:=false) (l:=s.uses) (acc:=[])]at h
   .by_cases b:s.uses.all (Zev before)=true
    .rw [yp b,Zar,H,A0,BU]at h
     have mr:=AJ H
     obtain ⟨t,I,F⟩:=ZtZ (G.s r mr) M (s.uses.map (Zm8 before))
     rw [F,A0]at h
     cases I with
     |false=>simp at h
     |true=>
      obtain ⟨J,N⟩:=ZtE (G.s r mr) F
      simp only[if_true]at h
      rw [ZaJ (p:=givesB t s.fact) (r:=true)]at h
      .by_cases ha:r.thn.any (givesB t s.fact)=true
       .obtain ⟨a,K,B⟩:=BV.1 ha
        refine .inr ⟨r,mr,t,J,a,K,O.symm,?_,An.1 b,N.symm⟩
        unfold givesB at B
        rw [AB,decide_eq_true_iff]at B
        unfold Yn
        have h4:=B.2
        cases hi:YW a.pattern t.binding with
        |none=>rw [hi]at B;simp [XJ]at B
        |some g=>rw [hi]at h4;simpa [XJ]using h4.symm
       .rw [yn ha]at h
        simp at h
      .intro i c S
       unfold givesB
       rw [Zbm,A0]
       cases (XJ (YW c.pattern t.binding)).2 with
       |false=>rfl
       |true=>
        rw [yp rfl,Xj,A0]
        cases decide ((XJ (YW c.pattern t.binding)).1=s.fact)<;>rfl
    .rw [yn b]at h
     simp at h
   .intro j u acc ha
    simp only[BC,AK]at ha
    by_cases A:Zev before u=true
    .obtain ⟨q,e,P⟩:=Zv5 A
     rw [yp A,e,A0,P,Zj _ yE]
     unfold Zev at A
     rw [decide_eq_true_iff]at A
     rw [yn (by simp;omega),yn (by simp;omega)]
    .rw [yn A]
     unfold Zev at A
     rw [decide_eq_true_iff]at A
     by_cases D:u<0
     .rw [yp (decide_eq_true D)]
     .rw [yn (by simpa using D),yp (decide_eq_true yE)]
theorem ZqN{α:Type}:∀{l:List α}{i:Nat}{body:Nat->α->Unit->Option (Unit ⊕ Bool)},(∀j x,body j x ()≠some (.inr true))->forL body (fun _=>some true) l i ()=some true->∀j x,l[j]?=some x->body (i+j) x ()=some (.inl ())
 | [],_,_,_,_,j,x,hx=>by simp at hx
 |y::l,i,body,hb,h,j,x,hx=>by
  have A:body i y ()=some (.inl ()):=by
   cases hh:body i y () with
   |none=>simp [forL,hh]at h
   |some v=>
    cases v with
    |inl u=>rfl
    |inr b=>
     rw [Z5 hh]at h;cases b with
     |false=>simp at h
     |true=>exact absurd hh (hb i y)
  rw [ZO (s':=()) A]at h;cases j with
  |zero=>simp at hx;subst hx;exact A
  |succ j=>
   have:=ZqN hb h j x (by simpa using hx)
   rwa [show i+1+j=i+(j+1) by omega]at this
theorem Zv8{R:List Zf}(E:XD R){b M:List Za}{B:Bool}(D:Za9 R b=some (M,B)){a:List Zz}(hs:∀s∈a,s.uses.length<=1048576)(h:QR R b a=some true):B=true/\a.length<=60/\∀i s,a[i]?=some s->Zx4 R b M (a.take i) s:=by
 unfold QR at h;rw [D,A0]at h;cases B with
 |false=>simp at h
 |true=>
  simp only[if_true]at h;by_cases c:a.length<=60
  .rw [yn (by simp;omega)]at h;refine ⟨rfl,c,fun i s hi=>?_⟩;have hw:=ZqN (fun j x A=>by
    obtain ⟨_,A⟩:=Zs A;obtain ⟨v,_,A⟩:=Ak.1 A;cases v<;>simp at A) h i s hi
   rw [AK]at hw;obtain ⟨_,hw⟩:=Zs hw;obtain ⟨v,C,hw⟩:=Ak.1 hw;cases v with
   |false=>simp at hw
   |true=>
    rw [Ap]at C;exact ZxU E (hs s (AJ hi)) C
  .rw [yp (by simp;omega)]at h;simp at h
theorem ZED{R:List Zf}{base M:List Za}(h:ZiM R base M)(F:∀r∈R,ZY r=true)(E:∀f∈M,Yt f=true){before:List Zz}{s:Zz}(D:Zx4 R base M before s):s.fact∈M:=by
 rcases D with ⟨_,_,G⟩|⟨r,B,t,A,a,C,_,H,_⟩
 .exact h.giv _ G
 .rw [H];exact h.closed F E r B t A a C
end
section
def ZJM(i:Nat):List Int->List Bool->List Bool
 | [],n=>n
 |u::r,n=>ZJM i r (if 0<=u/\u<i then n.set u.toNat true else n)
def ZJQ(l:List Zz)(i:Nat):List Int:=(l[i]?.map (·.uses)).getD []
def ZJN(l:List Zz):Nat->List Bool->List Bool
 |0,n=>n
 |i+1,n=>ZJN l i (if (n[i]?).getD false then ZJM i (ZJQ l i) n else n)
def ZKC(l:List Zz)(k:Nat):List Bool:=(AQ l.length false).set k true
def ZJK(l:List Zz)(k:Nat):List Bool:=ZJN l (k+1) (ZKC l k)
theorem ZJV(i:Nat):∀A n,(ZJM i A n).length=n.length
 | [],_=>rfl
 |u::r,n=>by rw [ZJM,ZJV i r];split<;>simp
theorem ZJW(i:Nat):∀us n (j:Nat),i<=j->(ZJM i us n)[j]?=n[j]?
 | [],_,_,_=>rfl
 |u::r,n,j,hj=>by
  rw [ZJM,ZJW i r _ j hj];split
  .rename_i h;rw [BK yE]
  .rfl
theorem ZKZ{n:List Bool}{j m:Nat}(h:n[j]?=some true):(n.set m true)[j]?=some true:=by
 rw [B4];split
 .rename_i e;subst e;obtain ⟨A,B⟩:=AD.1 h;simp [A]
 .exact h
theorem ZJY(i:Nat):∀us n (j:Nat),n[j]?=some true->(ZJM i us n)[j]?=some true
 | [],_,_,h=>h
 |u::r,n,j,h=>by
  rw [ZJM];refine ZJY i r _ j ?_;split
  .exact ZKZ h
  .exact h
theorem ZKk(i:Nat):∀us n (u:Int),u∈us->0<=u->u<i->i<=n.length->(ZJM i us n)[u.toNat]?=some true
 |v::r,n,u,h,h0,h1,hl=>by
  rw [ZJM];rcases Ah.1 h with h|h
  .subst h;refine ZJY i r _ _ ?_;rw [yp ⟨h0,h1⟩,Be yE]
  .exact ZKk i r _ u h h0 h1 (by split<;>simp [hl])
theorem ZKu(l:List Zz):∀c n,(ZJN l c n).length=n.length
 |0,_=>rfl
 |c+1,n=>by
  rw [ZJN,ZKu l c];split
  .rw [ZJV]
  .rfl
theorem ZJ9(l:List Zz):∀c n (j:Nat),c<=j+1->(ZJN l c n)[j]?=n[j]?
 |0,_,_,_=>rfl
 |c+1,n,j,hj=>by
  rw [ZJN,ZJ9 l c _ j yE];split
  .exact ZJW c _ _ j yE
  .rfl
theorem ZJ5(l:List Zz):∀c n (j:Nat),n[j]?=some true->(ZJN l c n)[j]?=some true
 |0,_,_,h=>h
 |c+1,n,j,h=>by
  rw [ZJN];refine ZJ5 l c _ j ?_;split
  .exact ZJY c _ _ j h
  .exact h
theorem ZKd(l:List Zz):∀c n (i:Nat) (u:Int),i<c->c<=n.length->(ZJN l c n)[i]?=some true->u∈ZJQ l i->0<=u->u<i->(ZJN l c n)[u.toNat]?=some true
 |c+1,n,i,u,hi,hl,h,hu,h0,h1=>by
  rw [ZJN]at h ⊢;rcases Ad i c with a|a
  .refine ZKd l c _ i u a ?_ h hu h0 h1;split
   .rw [ZJV];omega
   .omega
  .have e:i=c:=by omega
   subst e;rw [ZJ9 l i _ i yE]at h;have A:n[i]?=some true:=by
    split at h
    .rwa [ZJW i _ _ i (AE _)]at h
    .exact h
   rw [A];refine ZJ5 l i _ _ ?_;exact ZKk i _ _ u hu h0 h1 yE
theorem ZKg(l:List Zz)(k j:Nat)(A:k<j):((ZJK l k)[j]?).getD false=false:=by
 rw [ZJK,ZJ9 l _ _ j yE,ZKC,BK yE,Bf];split<;>rfl
theorem ZJS(l:List Zz)(k:Nat):(ZJK l k).length=l.length:=by simp [ZJK,ZKu,ZKC]
theorem ZJZ(l:List Zz)(k i:Nat)(u:Int)(E:k<l.length)(h:(ZJK l k)[i]?=some true)(B:u∈ZJQ l i)(D:0<=u)(C:u<i):(ZJK l k)[u.toNat]?=some true:=by
 have hi:i<k+1:=by
  rcases Ad k i with A|A
  .have:=ZKg l k i A;rw [h]at this;simp at this
  .omega
 exact ZKd l (k+1) _ i u hi (by simp [ZKC];omega) h B D C
def rank(n:List Bool)(i:Nat):Nat:=(n.take i).count true
def ZJ2(n:List Bool)(i:Nat)(u:Int):Int:=if 0<=u/\u<i then (rank n u.toNat:Int) else u
def ZKj(n:List Bool)(i:Nat)(s:Zz):Zz:={ fact:=s.fact,rule:=s.rule,uses:=s.uses.map (ZJ2 n i) }
def ZJL(n:List Bool)(l:List Zz):Nat->List Zz
 |0=>[]
 |i+1=>if (n[i]?).getD false then (match l[i]? with|some s=>ZJL n l i++[ZKj n i s]|none=>ZJL n l i) else ZJL n l i
theorem ZJ0(n:List Bool)(i:Nat)(hi:i<n.length):rank n (i+1)=rank n i+if (n[i]?).getD false then 1 else 0:=by
 rw [rank,rank,Bg,List.count_append];rw [A9 hi];cases h:n[i]<;>simp [h]
theorem ZJO(n:List Bool)(l:List Zz):∀i,i<=l.length->n.length=l.length->(ZJL n l i).length=rank n i
 |0,_,_=>by simp [ZJL,rank]
 |i+1,hi,hn=>by
  rw [ZJ0 n i yE,ZJL,A9 (show i<l.length by omega)];split
  .rename_i h;simp [h,ZJO n l i yE hn]
  .rename_i h;simp [ZJO n l i yE hn]
theorem ZKa(l:List Zz)(k:Nat):∀i,k+1<=i->ZJL (ZJK l k) l i=ZJL (ZJK l k) l (k+1)
 |i+1,h=>by
  rcases Ad (k+1) (i+1) with A|A
  .rw [ZJL,ZKg l k i yE];simp only[BO,if_false];exact ZKa l k i yE
  .have:i=k:=by omega
   rw [this]
theorem ZKS(n:List Bool)(i:Nat):rank n i<=i:=by
 rw [rank];exact Nat.le_trans List.count_le_length (by simp;omega)
theorem ZKe(i:Nat):∀us n (j:Nat),(ZJM i us n)[j]?=some true->n[j]?=some true\/((j:Int)∈us/\j<i)
 | [],_,_,h=>.inl h
 |u::r,n,j,h=>by
  rw [ZJM]at h;rcases ZKe i r _ j h with h|⟨B,A⟩
  .split at h
   .rename_i C;rw [B4]at h;split at h
    .rename_i e;refine .inr ⟨?_,yE⟩;have:(j:Int)=u:=by omega
     rw [this];exact List.mem_cons_self ..
    .exact .inl h
   .exact .inl h
  .exact .inr ⟨List.mem_cons_of_mem _ B,A⟩
theorem ZKm(l:List Zz):∀c n (j:Nat),(ZJN l c n)[j]?=some true->n[j]?=some true\/∃i,i<c/\j<i/\(ZJN l c n)[i]?=some true/\(j:Int)∈ZJQ l i
 |0,_,_,h=>.inl h
 |c+1,n,j,h=>by
  rw [ZJN]at h;rcases ZKm l c _ j h with A|⟨i,A,C,E,D⟩
  .by_cases B:(n[c]?).getD false=true
   .rw [yp B]at A;rcases ZKe c _ _ j A with A|⟨A,C⟩
    .exact .inl A
    .refine .inr ⟨c,yE,C,?_,A⟩;rw [ZJN,yp B,ZJ9 l c _ c yE,ZJW c _ _ c (AE _)];cases hn:n[c]? with
     |none=>rw [hn]at B;simp at B
     |some b=>rw [hn]at B;simpa using B
   .rw [yn B]at A;exact .inl A
  .refine .inr ⟨i,yE,C,?_,D⟩;rw [ZJN];exact E
theorem ZKI{l:List Zz}{k j:Nat}(h:(ZJK l k)[j]?=some true):j=k\/∃i,i<=k/\j<i/\(ZJK l k)[i]?=some true/\(j:Int)∈ZJQ l i:=by
 rcases ZKm l (k+1) _ j h with h|⟨i,B,A⟩
 .unfold ZKC at h;rw [B4]at h;split at h
  .rename_i e;exact .inl e.symm
  .rw [Bf]at h;split at h<;>simp at h
 .exact .inr ⟨i,yE,A⟩
theorem ZJU{l:List Zz}{k:Nat}(A:k<l.length):(ZJK l k)[k]?=some true:=by
 unfold ZJK;refine ZJ5 l _ _ _ ?_;unfold ZKC;rw [Be (by simpa using A)]
theorem ZKW(n:List Bool){i j:Nat}(h:i<=j):rank n i<=rank n j:=by
 unfold rank;exact List.Sublist.count_le _ (List.take_prefix_take_left h).sublist
theorem ZKR{n:List Bool}{i j:Nat}(h:i<j)(hi:n[i]?=some true):rank n i<rank n j:=by
 have hl:=(AD.1 hi).1;have h1:=ZJ0 n i hl;rw [hi]at h1;have h2:=ZKW n (show i+1<=j by omega);simp at h1;omega
theorem ZJ1{n:List Bool}{l:List Zz}(B:n.length=l.length):∀{c i:Nat}{s:Zz},i<c->c<=l.length->n[i]?=some true->l[i]?=some s->(ZJL n l c)[rank n i]?=some (ZKj n i s)/\(ZJL n l c).take (rank n i)=ZJL n l i
 |c+1,i,s,hi,hc,h,hs=>by
  have b:=A9 (show c<l.length by omega);rcases Ad i c with a|a
  .obtain ⟨A,C⟩:=ZJ1 B a yE h hs;have d:=(AD.1 A).1;rw [ZJL,b];split
   .rw [As d,Ax yE];exact ⟨A,C⟩
   .exact ⟨A,C⟩
  .obtain rfl:i=c:=by omega
   have hl:=ZJO n l i yE B;rw [ZJL,h,hs];simp only[Bh,if_true];rw [<-hl,Aw (AE _),Ax (AE _),BB];exact ⟨yG,rfl⟩
theorem ZJ8{n:List Bool}{l:List Zz}(B:n.length=l.length):∀{c m:Nat},c<=l.length->m<(ZJL n l c).length->∃i s,i<c/\n[i]?=some true/\l[i]?=some s/\rank n i=m
 |0,m,_,h=>by simp [ZJL]at h
 |c+1,m,hc,h=>by
  have a:=A9 (show c<l.length by omega);have hl:=ZJO n l c yE B;rw [ZJL,a]at h;by_cases A:(n[c]?).getD false=true
  .rw [yp A,AP]at h;by_cases D:m<(ZJL n l c).length
   .obtain ⟨i,s,E,C⟩:=ZJ8 B yE D;exact ⟨i,s,yE,C⟩
   .refine ⟨c,_,yE,?_,a,?_⟩
    .cases hx:n[c]? with
     |none=>rw [hx]at A;simp at A
     |some b=>rw [hx]at A;simpa using A
    .simp at h;omega
  .rw [yn A]at h;obtain ⟨i,s,E,C⟩:=ZJ8 B yE h;exact ⟨i,s,yE,C⟩
section
variable {R:List Zf} {base M:List Za} {l:List Zz} {k:Nat}
theorem ZKU(S:k<l.length)(h:∀i s,l[i]?=some s->Zx4 R base M (l.take i) s):∀m x,(ZJL (ZJK l k) l (k+1))[m]?=some x->Zx4 R base M ((ZJL (ZJK l k) l (k+1)).take m) x:=by
 intro m x H;have hn:=ZJS l k;obtain ⟨i,s,V,K,C,J⟩:=ZJ8 hn (c:=k+1) yE (AD.1 H).1;obtain ⟨I,U⟩:=ZJ1 hn V yE K C;rw [<-J,U];rw [J,H]at I;obtain rfl:=AL I;have T:i<l.length:=(AD.1 C).1;have g:ZJQ l i=s.uses:=by unfold ZJQ;rw [C];rfl
 have key:∀u∈s.uses,Zev (l.take i) u=true->Zev (ZJL (ZJK l k) l i) (ZJ2 (ZJK l k) i u)=true/\Zm8 (ZJL (ZJK l k) l i) (ZJ2 (ZJK l k) i u)=Zm8 (l.take i) u:=by
  intro u E B;unfold Zev at B;rw [decide_eq_true_iff,Ac]at B;have d:u<(i:Int):=by omega
  have b:=ZJZ l k i u S K (by rw [g];exact E) B.1 d;have f:u.toNat<i:=by omega
  obtain ⟨z,hz⟩:∃z,l[u.toNat]?=some z:=⟨_,A9 yE⟩
  obtain ⟨L,g2⟩:=ZJ1 hn f yE b hz;have e:ZJ2 (ZJK l k) i u=((rank (ZJK l k) u.toNat:Nat):Int):=yp ⟨B.1,d⟩;rw [e];refine ⟨?_,?_⟩
  .unfold Zev;rw [decide_eq_true_iff];have:=(AD.1 L).1;omega
  .unfold Zm8;rw [AC,L,List.getElem?_take_of_lt f,hz];rfl
 rcases h i s C with ⟨G,F,D⟩|⟨r,O,t,N,a,P,G,F,D,W⟩
 .exact .inl ⟨G,by show s.uses.map _=[];rw [F];rfl,D⟩
 .refine .inr ⟨r,O,t,N,a,P,G,F,fun u E=>?_,?_⟩
  .obtain ⟨v,A,rfl⟩:=AS.1 (show u∈s.uses.map (ZJ2 (ZJK l k) i) from E);exact (key v A (D v A)).1
  .show (s.uses.map (ZJ2 (ZJK l k) i)).map _=_
   rw [<-W,BY];exact Bi fun v A=>(key v A (D v A)).2
theorem ZKs(A:k<l.length):0<(ZJL (ZJK l k) l (k+1)).length/\(ZJL (ZJK l k) l (k+1)).length<=k+1:=by
 have hn:=ZJS l k;rw [ZJO _ l (k+1) yE hn];have:=ZKR (show k<k+1 by omega) (ZJU A);exact ⟨yE,ZKS _ _⟩
theorem ZKX(A:k<l.length){s:Zz}(hs:l[k]?=some s):(ZJL (ZJK l k) l (k+1))[(ZJL (ZJK l k) l (k+1)).length - 1]?=some (ZKj (ZJK l k) k s):=by
 have hn:=ZJS l k;have h1:=(ZJ1 hn (show k<k+1 by omega) yE (ZJU A) hs).1;have h2:=ZJ0 (ZJK l k) k yE;rw [ZJU A]at h2;rw [ZJO _ l (k+1) yE hn,h2];simpa using h1
theorem ZK4(C:k<l.length)(m:Nat)(B:m<(ZJL (ZJK l k) l (k+1)).length):(ZJK (ZJL (ZJK l k) l (k+1)) ((ZJL (ZJK l k) l (k+1)).length - 1))[m]?=some true:=by
 have hn:=ZJS l k;obtain ⟨q,hq⟩:∃q,ZJL (ZJK l k) l (k+1)=q:=⟨_,rfl⟩
 have a:(ZJL (ZJK l k) l (k+1)).length=rank (ZJK l k) (k+1):=ZJO _ l (k+1) yE hn;have hpos:=(ZKs C).1;have b:rank (ZJK l k) (k+1)=rank (ZJK l k) k+1:=by
  have h2:=ZJ0 (ZJK l k) k yE;rw [ZJU C]at h2;simpa using h2
 have key:∀d i,i<=k->k - i=d->(ZJK l k)[i]?=some true->(ZJK q (q.length - 1))[rank (ZJK l k) i]?=some true:=by
  intro d;induction d using Nat.strongRecOn with
  |_ d ih=>
   intro i I J hi;rcases ZKI hi with rfl|⟨j,E,h2,D,A⟩
   .have e:q.length - 1=rank (ZJK l i) i:=by rw [<-hq,a,b];omega
    rw [e];exact ZJU (by rw [<-hq,a,b];omega)
   .have hj:=ih (k - j) yE j E rfl D;obtain ⟨s,hs⟩:∃s,l[j]?=some s:=⟨_,A9 yE⟩
    obtain ⟨F,_⟩:=ZJ1 hn (show j<k+1 by omega) yE D hs;rw [hq]at F;have G:(i:Int)∈s.uses:=by unfold ZJQ at A;rw [hs]at A;exact A
    have H:((rank (ZJK l k) i:Nat):Int)∈ZJQ q (rank (ZJK l k) j):=by
     unfold ZJQ;rw [F];show _∈s.uses.map (ZJ2 (ZJK l k) j)
     refine AS.2 ⟨(i:Int),G,?_⟩;unfold ZJ2;rw [yp ⟨yE,yE⟩,AC]
    have hlt:=ZKR h2 hi;have:=ZJZ q (q.length - 1) (rank (ZJK l k) j) _ (by rw [<-hq];omega) hj H yE yE
    rwa [AC]at this
 rw [hq]at B ⊢;obtain ⟨i,s,E,h2,_,A⟩:=ZJ8 hn (c:=k+1) (m:=m) yE (by rw [hq];exact B);rw [<-A];exact key (k - i) i yE rfl h2
end
theorem ZKJ{n:List Bool}:∀{i:Nat},i<=n.length->(∀j,j<i->n[j]?=some true)->rank n i=i
 |0,_,_=>by simp [rank]
 |i+1,hi,h=>by
  rw [ZJ0 n i yE,ZKJ yE (fun j A=>h j yE),h i yE];simp
theorem ZKK{n:List Bool}{i:Nat}(hi:i<=n.length)(h:∀j,j<i->n[j]?=some true)(s:Zz):ZKj n i s=s:=by
 have:s.uses.map (ZJ2 n i)=s.uses:=by
  rw [Bi (g:=fun u=>u)]
  .simp
  .intro u _;unfold ZJ2;split
   .rename_i A;rw [ZKJ yE (fun j B=>h j yE)];omega
   .rfl
 unfold ZKj;rw [this]
theorem ZKw{n:List Bool}{l:List Zz}(A:n.length=l.length)(h:∀j,j<l.length->n[j]?=some true):∀i,i<=l.length->ZJL n l i=l.take i
 |0,_=>by simp [ZJL]
 |i+1,hi=>by
  have hl:=A9 (show i<l.length by omega);rw [ZJL,h i yE,hl,ZKw A h i yE,Bg,hl];show l.take i++[ZKj n i l[i]]=_
  rw [ZKK yE (fun j B=>h j yE)];rfl
theorem ZKO{l:List Zz}{k:Nat}(A:k<l.length):ZJL (ZJK (ZJL (ZJK l k) l (k+1)) ((ZJL (ZJK l k) l (k+1)).length - 1)) (ZJL (ZJK l k) l (k+1)) ((ZJL (ZJK l k) l (k+1)).length - 1+1)=ZJL (ZJK l k) l (k+1):=by
 have h1:=(ZKs A).1;rw [ZKw (ZJS _ _) (fun j B=>ZK4 A j B) _ yE,List.take_of_length_le yE]
end
section
open Classical
structure StB (l:List Zz):Prop where
 len:l.length<=120
 s:∀s∈l,s.fact.args.length<=1048576/\s.uses.length<=1000
theorem ZmL{F:List Za}{Q:List Zh}{O:List Yc}{O':List Yz}:∀{q p:List Int},(∀a k,k∈q->a.length<=p.length+q.length->Zmj F Q O a k=some (mkS F Q O' a k))->ZkX (Zmj F Q O) q (XB F Q O' p)=some (XB F Q O' (p++q))
 | [],p,_=>by rw [ZkX,BR]
 |k::q,p,h=>by
  rw [ZkX,h _ k yG (by rw [ZjU];omega),A0,<-Zit,ZmL (p:=p++[k]) fun a j A B=>h a j (by simp [A]) (by simp at B ⊢;omega)];simp
theorem ZtY{α β:Type}{g:α->Option β}{f:α->β}:∀{l:List α},(∀x∈l,g x=some (f x))->ZnQ g l=some (l.map f)
 | [],_=>rfl
 |x::l,h=>by rw [ZnQ,h x yG,A0,ZtY fun y A=>h y (by simp [A]),A0];rfl
theorem ZyT{R:List Zf}(N:XD R)(base:List Za)(d:base.length<=1048576)(f:Za):∃S,ZdC R base f=some S/\S.length<=60/\∀s∈S,Xv s<=80/\s.uses.length<=4:=by
 obtain ⟨_,D⟩:=Zuj R base;rcases ZmH N base d with ⟨_,A⟩|⟨F,B,_,A⟩
 .refine ⟨[],?_,yG,yG⟩;unfold ZdC;rw [D,A];rfl
 .obtain ⟨G,_⟩:=Zfo Zk5 F noS R base;by_cases a:(Yg R F base).length<=60
  .rw [ZCJ (by rw [G];exact a),G,<-D]at A;have hB:=Q4.of B a;obtain ⟨l,O,C⟩:=Zl8 hB (Yd F f);have hl60:=C.good.len hB;have b:=B.args;refine ⟨XB F (Yg R F base) (YP Zfg F noI R base).2 l,?_,?_⟩
   .unfold ZdC;rw [A,A0,yp rfl,Zaq,A0,O,A0,yp yE];refine (ZmL (p:=[]) fun e k K H=>?_).trans rfl;obtain ⟨c,o,L,U,J,E,M,T,P⟩:=Zu4 B a C K;obtain ⟨_,i⟩:=Znz B M;obtain ⟨g,hg⟩:∃g,F[c.for_.toNat]?=some g:=⟨_,A9 P⟩
    obtain ⟨u,hu,j⟩:∃u,(YP Zk5 F noS R base).2[k.toNat]?=some u/\toI u=o:=by
     rw [Zr4,BT]at E;exact AM.1 E
    subst j;have I:u.token.facts.length<=4:=i;unfold Zmj;rw [yp L,J,A0,yp T,hg,A0,Y6 _ (b g (AJ hg)),A0,hu,A0,yp yE,ZtY (f:=ZcD e) fun x _=>Zqd e x,A0,ZzF J E,ZqW hg];rfl
   .exact ⟨(Zn5 B a C).1,(Zn5 B a C).2⟩
  .refine ⟨[],?_,yG,yG⟩;unfold ZpW at A;rw [G,yp yE]at A;unfold ZdC;rw [D,A];rfl
theorem Zv7{l:List Zz}(C:l.length<=1000)(h:∀s∈l,s.fact.args.length<=1048576/\s.uses.length<=1000):Zgt l=some l:=by
 unfold Zgt;rw [Zlo (g:=fun s:Zz=>s)]
 .simp
 .intro j x s A hs;obtain ⟨B,D⟩:=h x A;rw [Y6 _ B,A0,Zq0 _ yE,A0,Zj _ (by simp at hs;omega)]
theorem ZBj{c:Zi}(h:ZK c){M:List Za}(K:M.length<=256){f:Za}:∃g c',Zve M f c=some (g,c')/\ZK c':=by
 unfold Zve;by_cases B:0<M.length
 .rw [yp B];obtain ⟨o,I,G,A⟩:=ZgC h (n:=4) yE yE;rw [G,A0];cases o with
  |true=>exact ⟨f,I,rfl,A⟩
  |false=>
   rw [yn yG];obtain ⟨x,H,F,C,J,E⟩:=Z1 A (n:=(M.length:Int)) yE yE;have D:x.toNat<M.length:=by omega
   rw [F,A0,yp C,A9 D];exact ⟨_,H,rfl,E⟩
 .rw [yn B];exact ⟨f,c,rfl,h⟩
theorem ZsP{l:List Zz}(C:∀s∈l,s.fact.args.length<=1048576/\s.uses.length<=1000){n:Nat}{x:Zz}(B:x.fact.args.length<=1048576/\x.uses.length<=1000):∀s∈l.set n x,s.fact.args.length<=1048576/\s.uses.length<=1000:=fun s A=>by
 rcases List.mem_or_eq_of_mem_set A with h|h
 .exact C s h
 .rw [h];exact B
theorem ZCX{c:Zi}(h:ZK c){S:List Zz}(N:S.length<=60)(G:∀s∈S,s.fact.args.length<=80/\s.uses.length<=4){n:Nat}{st:Zz}(e:S[n]?=some st)(d:Int):∃T c',ZtQ S n st d c=some (T,c')/\StB T/\ZK c':=by
 have b:∀s∈S,s.fact.args.length<=1048576/\s.uses.length<=1000:=fun s B=>by have:=G s B;omega
 have hs0:=G st (AJ e);unfold ZtQ;by_cases K:d=0
 .rw [yp K];obtain ⟨g,D,C,P,A⟩:=Zk2 h;rw [C,A0];exact ⟨_,D,rfl,⟨by rw [Ae];omega,ZsP b ⟨by show g.args.length<=_;omega,by show st.uses.length<=_;omega⟩⟩,A⟩
 rw [yn K];by_cases A:d=1
 .rw [yp A];obtain ⟨g,D,C,_,A⟩:=Zdv h (l:=[(⟨#[]⟩:BYT),⟨#[114,49]⟩,⟨#[114,50]⟩,⟨#[120]⟩]) yG yG;rw [C,A0];exact ⟨_,D,rfl,⟨by rw [Ae];omega,ZsP b ⟨by show st.fact.args.length<=_;omega,by show st.uses.length<=_;omega⟩⟩,A⟩
 rw [yn A];by_cases J:d=2
 .rw [yp J];obtain ⟨x,D,C,L,O,A⟩:=Z1 h (n:=(((S.length+1:Nat)):Int)) yE yE;rw [C,A0,yp ⟨L,by show x<=_;omega,yE⟩];refine ⟨_,D,rfl,⟨by rw [Ae];omega,ZsP b ⟨by show st.fact.args.length<=_;omega,?_⟩⟩,A⟩;show (st.uses++[_]).length<=_
  rw [AP];simp;omega
 rw [yn J];by_cases I:d=3
 .rw [yp I];exact ⟨_,c,rfl,⟨by rw [List.length_drop];omega,fun s B=>b s (B3 B)⟩,h⟩
 rw [yn I];by_cases H:d=4
 .rw [yp H];have F:n<S.length:=(AD.1 e).1;rw [Zv7 (by rw [Ac];omega) (fun s B=>b s (BJ B)),A0];obtain ⟨E,r,rfl⟩:∃E r,S=E::r:=by
   cases S with
   |nil=>simp at F
   |cons a r=>exact ⟨a,r,rfl⟩
  obtain ⟨g,D,C,M,A⟩:=Zcq h (l:=[59,60,61]) yG yG;have R:g=59\/g=60\/g=61:=by simpa using M
  rw [show ((E::r).take 1)[0]?=some E from rfl,A0,C,A0,yp ⟨by show 0<=g;omega,by show g.toNat<=_;simp at F ⊢;omega⟩];refine ⟨_,D,rfl,⟨by rw [Ac];show min g.toNat _<=_;omega,fun s B=>?_⟩,A⟩;rcases AI.1 (BJ B) with m|m
  .exact b s m
  .rw [List.eq_of_mem_replicate m];exact b E yG
 rw [yn H];exact ⟨S,c,rfl,⟨yE,b⟩,h⟩
theorem ZwJ{c:Zi}(h:ZK c):∃R l T c',Zee c=some (R,l,T,c')/\DrB R l/\StB T/\ZK c':=by
 unfold Zee;obtain ⟨R,l,f,c1,e1,A,_,V⟩:=Zwm h;have hll:=A.ll;obtain ⟨M,ok,I,m2,K⟩:=ZkZ A.small l yE;have e:M.length<=256:=by
  rcases K with ⟨_,rfl⟩|⟨_,F,L,N,rfl⟩
  .simp
  .have:=(Qk (L.factsM (rdB { nodes:=(F.length:Int),reasons:=Yg R F l }))).1;omega
 obtain ⟨g,c2,e2,C⟩:=ZBj V e (f:=f);obtain ⟨S,e3,i,G⟩:=ZyT A.small l yE g;rw [e1,A0];dsimp only;rw [I,A0];dsimp only;rw [e2,A0];dsimp only;rw [e3,A0];by_cases D:S.length=0
 .rw [yp D];exact ⟨R,l,[],c2,rfl,A,⟨yG,yG⟩,C⟩
 .rw [yn D];obtain ⟨x,c3,e4,E,x1,U⟩:=Z1 C (n:=(S.length:Int)) yE yE;have B:x.toNat<S.length:=by omega
  obtain ⟨d,c4,e5,_,_,P⟩:=Z1 U (n:=10) yE yE;have j:∀s∈S,s.fact.args.length<=80/\s.uses.length<=4:=fun s H=>by
   obtain ⟨a,b⟩:=G s H;unfold Xv ZaK Zkn at a;omega
  obtain ⟨T,c5,W,J,O⟩:=ZCX P i j (A9 B) d;rw [e4,A0,yp ⟨E,yE⟩,A9 B,A0];dsimp only;rw [e5,A0];dsimp only;rw [W,A0];exact ⟨R,l,T,c5,rfl,A,J,O⟩
theorem Zoh(a:List Int)(h:a.length<=4096):∃R l T,Zbr a=some (R,l,T)/\DrB R l/\StB T:=by
 unfold Zbr;obtain ⟨c,E,C⟩:=ZBb a h;obtain ⟨R,l,T,F,D,B,A,_⟩:=ZwJ C;rw [E,A0,D];exact ⟨R,l,T,rfl,B,A⟩
end
section
open Classical
section
variable {α σ ρ:Type} {body:Nat->α->σ->Option (σ ⊕ ρ)} {fin:σ->Option ρ}
theorem ZlG(I:Nat->σ->Prop)(Q:ρ->Prop):∀(l:List α) (i:Nat) (s:σ),I i s->(∀j x s,l[j]?=some x->I (i+j) s->∃s',body (i+j) x s=some (.inl s')/\I (i+j+1) s')->(∀s,I (i+l.length) s->∃r,fin s=some r/\Q r)->∃r,forL body fin l i s=some r/\Q r
 | [],i,s,h,_,hf=>hf s h
 |x::l,i,s,h,hs,hf=>by
  obtain ⟨s',e,C⟩:=hs 0 x s rfl h;rw [BD]at e;rw [ZO e];refine ZlG I Q l (i+1) s' C (fun j y t B A=>?_) (fun t A=>hf t ?_)
  .have:=hs (j+1) y t (by simpa using B) (by rw [show i+(j+1)=i+1+j by omega];exact A)
   rwa [show i+(j+1)=i+1+j by omega]at this
  .rw [AT,show i+(l.length+1)=i+1+l.length by omega];exact A
theorem ZKV(I:Nat->σ->Prop){r:ρ}(l:List α)(s:σ)(h:I 0 s)(hs:∀j x s,l[j]?=some x->I j s->∃s',body j x s=some (.inl s')/\I (j+1) s')(C:∀s,I l.length s->fin s=some r):forL body fin l 0 s=some r:=by
 obtain ⟨_,e,rfl⟩:=ZlG (body:=body) (fin:=fin) I (fun x=>x=r) l 0 s h (fun j x s B A=>by rw [AK]at A ⊢;exact hs j x s B A) fun s A=>⟨r,C s (by simpa using A),rfl⟩
 exact e
end
theorem ZnN{R:List Zf}{base F:List Za}(B:Ya R base F){r:Zf}(A:r∈R):r.name.size<=8/\r.name≠⟨#[]⟩:=by
 have hl:=(B.rule A).1;unfold ZY at hl;simp only[AB]at hl;have hv:=hl.1.1;refine ⟨?_,ZBL hv⟩;unfold YA at hv;simp only[AB]at hv;have hn:=hv.1.1.1.1.1.1.1.1.1;unfold X0 at hn;rw [AB]at hn;exact (Qe hn.1).2
theorem Zyg{R:List Zf}{base F M:List Za}(B:Ya R base F)(K:ZiM R base M)(G:Z7 M=true){before:List Zz}(P:before.length<=60){s:Zz}(E:Zx4 R base M before s):s.fact∈M/\Xv s<=80/\ZAO s:=by
 have b:=ZED K B.logical1 (Qk G).2 E;have hc:=ZrC ((Qk G).2 _ b);have e:Xv s=ZaK s.fact+s.rule.size+s.uses.length:=rfl;rcases E with ⟨C,H,_⟩|⟨r,D,t,I,a,O,C,_,N,L⟩
 .refine ⟨b,?_,⟨trivial,fun _ _=>trivial⟩,trivial,fun u A=>?_⟩
  .rw [e,C,H];show ZaK s.fact+0+0<=80
   omega
  .rw [H]at A;simp at A
 .have h8:=(ZnN B D).1;have hl:=(B.rule D).2.1;have htl:=(QL M _ t I).len;have J:s.uses.length=t.facts.length:=by rw [<-L,BG]
  refine ⟨b,?_,⟨trivial,fun _ _=>trivial⟩,trivial,fun u A=>?_⟩
  .rw [e,C];omega
  .have:=N u A;unfold Zev at this;rw [decide_eq_true_iff]at this;show -9223372036854775808<=u/\u<=9223372036854775807
   omega
structure ZCz (R:List Zf) (base M:List Za) (S:List Zz):Prop where
 len:S.length<=60
 fit:∀i s,S[i]?=some s->Zx4 R base M (S.take i) s
 small:∀s∈S,s.fact∈M/\Xv s<=80/\ZAO s
 given:∀f∈Qv S,f∈base
theorem ZCz.of{R:List Zf}{base F M:List Za}(C:Ya R base F)(G:ZiM R base M)(H:Z7 M=true){S:List Zz}(a:S.length<=60)(B:∀i s,S[i]?=some s->Zx4 R base M (S.take i) s):ZCz R base M S where
 len:=a
 fit:=B
 small:=fun s A=>by
  obtain ⟨i,hi⟩:=Ay.1 A;exact Zyg C G H (by rw [Ac];omega) (B i s hi)
 given:=fun f E=>by
  obtain ⟨s,A,I,rfl⟩:=(ZxN S).1 E;obtain ⟨i,hi⟩:=Ay.1 A;rcases B i s hi with ⟨_,_,h⟩|⟨r,D,_,_,_,_,h,_⟩
  .exact h
  .exact absurd (h.symm.trans I) (ZnN C D).2
theorem ZDA{R:List Zf}(D:XD R){base:List Za}(H:base.length<=1048576){S:List Zz}(hs:∀s∈S,s.uses.length<=1048576)(h:QR R base S=some true):∃M F,QK R base=some (M,true)/\Za9 R base=some (M,true)/\Ya R base F/\ZiM R base M/\Z7 M=true/\ZCz R base M S:=by
 obtain ⟨M,J,E,B,I⟩:=ZkZ D base H;obtain ⟨rfl,a,G⟩:=Zv8 D B hs h;rcases I with ⟨h,_⟩|⟨_,F,A,C,rfl⟩
 .exact absurd h yG
 .exact ⟨_,F,E,B,A,Zvv A C,A.factsM _,ZCz.of A (Zvv A C) (A.factsM _) a G⟩
end
section
open Classical
theorem ZKB{α:Type}:∀(l:List α) (i:Nat),Zav (fun _ _=>true) l i=true
 | [],_=>rfl
 |x::l,i=>by simp [Zav,ZKB l]
theorem ZKA(c:Nat):∀(A:List Int) (row:List Bool),A.foldl (fun r (u:Int)=>if (r[c]?).getD false=true/\0<=u/\u<(c:Int) then r.set u.toNat true else r) row=if (row[c]?).getD false=true then ZJM c A row else row
 | [],row=>by simp [ZJM]
 |u::A,row=>by
  rw [Aq,ZKA c A];by_cases h:(row[c]?).getD false=true
  .by_cases B:0<=u/\u<(c:Int)
   .have e:(if (row[c]?).getD false=true/\0<=u/\u<(c:Int) then row.set u.toNat true else row)=row.set u.toNat true:=yp ⟨h,B⟩;rw [e,BK yE,yp h,yp h,ZJM,yp B]
   .have e:(if (row[c]?).getD false=true/\0<=u/\u<(c:Int) then row.set u.toNat true else row)=row:=yn fun x=>B x.2;rw [e,yp h,yp h,ZJM,yn B]
  .have e:(if (row[c]?).getD false=true/\0<=u/\u<(c:Int) then row.set u.toNat true else row)=row:=yn fun x=>h x.1;rw [e,yn h,yn h]
def ZLb(n:List Bool)(S:List Zz)(i:Nat)(x:List Int×List Zz):Prop:=x.1.length=S.length/\x.2=ZJL n S i/\∀j:Nat,j<i->n[j]?=some true->x.1[j]?=some ((rank n j:Nat):Int)
theorem ZJ7{S:List Zz}(U:S.length<=1000)(hs:∀s∈S,s.fact.args.length<=1048576/\s.uses.length<=1000)(k:Nat)(J:k<S.length):ZJP S (k:Int)=some (ZJL (ZJK S k) S (k+1)):=by
 unfold ZJP;rw [yn yG,yn (by simpa using J),Zj _ yE,Zj _ yE,AC,A9 (by simpa using J),A0];have hN:=ZKa S k S.length J;have w:=ZJS S k;have H:((AQ S.length false).set k true).length=S.length:=by simp
 have key:∀r:List Bool,r=ZJK S k->forL (σ:=(List Int)×(List Zz)) (ρ:=(List Bool×Int) ⊕ List Zz)
       (fun (b:Nat) (o:Zz) s=>
        match s with
        |(row_60,row_61)=>
        chk (0<=(b:Int)/\(b:Int)<(r.length:Int)) <|
        (r[b]?).bind fun y=>
        if y=true then
         chk ((b:Int)<(row_60.length:Int)) <|
         (row_60[b]?).bind fun aa=>
         (YZ o.fact).bind fun z=>
         forL (σ:=(List Int))
          (fun (ac:Nat) (d:Int) a=>
           if (decide (0<=d))=true then
            if (decide (d<(b:Int)))=true then
             chk (0<=d/\d<(row_60.length:Int)) <|
             ((BH row_60 b (row_61.length:Int))[(AA d)]?).bind fun A=>
             chk (a.length+1<=1073741824) <|
             some (.inl (a++[A]))
            else
             chk (a.length+1<=1073741824) <|
             some (.inl (a++[d]))
           else
            chk (a.length+1<=1073741824) <|
            some (.inl (a++[d])))
          (fun a=>
           chk (row_61.length+1<=1073741824) <|
           some (.inl ((BH row_60 b (row_61.length:Int)),(row_61++[({ fact:=z,rule:=o.rule,uses:=a }:Zz)]))))
          o.uses 0 []
        else
         some (.inl (row_60,row_61)))
       (fun s=>
        match s with
        |(row_60,row_61)=>
        some (.inr row_61))
       S 0 ((AQ S.length 0),[])=some (.inr (ZJL (ZJK S k) S (k+1))):=by
  rintro _ rfl;refine ZKV (fun i x=>ZLb (ZJK S k) S i x) S _ ⟨yG,rfl,fun j N=>absurd N yE⟩ (fun i x s hx O=>?_) (fun s O=>?_)
  .obtain ⟨row,B⟩:=s;obtain ⟨M,I,L⟩:=O;dsimp only at M I L ⊢;subst I;have hi:i<S.length:=(AD.1 hx).1;have C:i<(ZJK S k).length:=by omega
   have hb:=A9 C;have mx:=AJ hx;have ho:=ZJO (ZJK S k) S i yE w;have hrk:=ZKS (ZJK S k) i;have D:=hs x mx;rw [Zj _ yE,hb,A0];by_cases K:(ZJK S k)[i]=true
   .rw [K]at hb;rw [yp K,Zj _ yE,A9 (show i<row.length by omega),A0,Xl _ D.1,A0];have p:ZJQ S i=x.uses:=by unfold ZJQ;rw [hx];rfl
    have R:∀j:Nat,j<i+1->(ZJK S k)[j]?=some true->(row.set i (((ZJL (ZJK S k) S i).length:Nat):Int))[j]?=some ((rank (ZJK S k) j:Nat):Int):=fun j N l=>by
     rw [B4];split
     .rename_i e;subst e;rw [ho,yp yE]
     .exact L j yE l
    rw [Zlo (g:=ZJ2 (ZJK S k) i)]
    .rw [Zj _ yE];refine ⟨_,rfl,by rw [Ae];exact M,?_,R⟩;show _=ZJL (ZJK S k) S (i+1)
     rw [ZJL,hb,hx];rfl
    .intro j u s T U;have m:s.length+1<=1073741824:=by simp at U;omega
     unfold ZJ2;by_cases u0:0<=u
     .by_cases u1:u<(i:Int)
      .have q:=ZJZ S k i u J hb (by rw [p];exact T) u0 u1;rw [yp (decide_eq_true u0),yp (decide_eq_true u1),Zj _ yE,R _ yE q,A0,Zj _ m,yp ⟨u0,u1⟩]
      .rw [yp (decide_eq_true u0),yn (by simpa using u1),Zj _ m,yn (fun x=>u1 x.2)]
     .rw [yn (by simpa using u0),Zj _ m,yn (fun x=>u0 x.1)]
   .rw [yn K];have hf:(ZJK S k)[i]=false:=by simpa using K
    rw [hf]at hb;refine ⟨_,rfl,M,?_,fun j N l=>?_⟩
    .show _=ZJL (ZJK S k) S (i+1)
     rw [ZJL,hb];rfl
    .rcases Ad j i with h|h
     .exact L j h l
     .obtain rfl:j=i:=by omega
      rw [hb]at l;simp at l
  .obtain ⟨row,B⟩:=s;obtain ⟨_,I,_⟩:=O;dsimp only at I ⊢;rw [I,hN]
 have v:∀{body:List Bool×Int->Option ((List Bool×Int) ⊕ List Zz)} {t:List Zz} {c:Nat} {G:List Bool} {u:Int},G.length=S.length->c<=S.length->u=(c:Int) - 1->
   (∀(c:Nat) r,r.length=S.length->c<S.length->body (r,(c:Int))=some (.inl (if (r[c]?).getD false=true then ZJM c (ZJQ S c) r else r,(c:Int) - 1)))->
   (∀r,r=ZJN S c G->body (r,-1)=some (.inr t))->iter body (G,u)=some t:=by
  intro body t c;induction c with
  |zero=>
   intro G u _ _ hu _ P;have:u=-1:=by omega
   subst this;exact ZU (P G rfl)
  |succ c ih=>
   intro G u F V hu W P;have:u=(c:Int):=by omega
   subst this;rw [Z6 (W c G F yE)];refine ih ?_ yE rfl W P;split
   .rw [ZJV];exact F
   .exact F
 refine v (c:=k+1) H J yE (fun c r F V=>?_) (fun r F=>?_)
 .dsimp only;have hx:=A9 V;have p:ZJQ S c=S[c].uses:=by unfold ZJQ;rw [hx];rfl
  rw [yp yG,Zar,hx,A0,p];rw [Xf (f:=fun r (u:Int)=>if (r[c]?).getD false=true/\0<=u/\u<(c:Int) then r.set u.toNat true else r) (fun _ r=>r.length=S.length) F,ZKA,Yo yE yE];intro j u r T _ _ F;have E:c<r.length:=by omega
  have hb:=A9 E;rw [Zj _ yE,AC,hb,A0,Bh];by_cases H:r[c]=true
  .rw [yp H];by_cases u0:0<=u
   .by_cases u1:u<(c:Int)
    .rw [yp (decide_eq_true u0),yp (decide_eq_true u1),Zj _ yE,A9 (show u.toNat<r.length by omega),A0,yp ⟨H,u0,u1⟩];exact ⟨rfl,by rw [Ae];exact F⟩
    .rw [yp (decide_eq_true u0),yn (by simpa using u1),yn (fun x=>u1 x.2.2)];exact ⟨rfl,F⟩
   .rw [yn (by simpa using u0),yn (fun x=>u0 x.2.1)];exact ⟨rfl,F⟩
  .rw [yn H,yn (fun x=>H x.1)];exact ⟨rfl,F⟩
 .dsimp only;rw [yn yG];exact key r F
theorem ZKn(a:List Int)(m:∀x∈a,0<=x/\x<=255):ZJX a=some true:=by
 unfold ZJX;rw [ZAL,A0];split
 .rfl
 rename_i hb;obtain ⟨R,base,S,e1,C,D⟩:=Zoh a (ZyK hb);have hll:=C.ll;have H:∀s∈S,s.uses.length<=1048576:=fun s B=>by have:=(D.s s B).2;omega
 obtain ⟨v,N,G⟩:=Zsc C.small base yE S H;have o:∃v,ZK5 a 0=some v/\0<=v:=by
  unfold ZK5;cases a with
  |nil=>exact ⟨0,rfl,yE⟩
  |cons x l=>
   have hx:=m x yG;refine ⟨x,?_,hx.1⟩;rw [yn yG];show some (i64.wrap x)=some x
   rw [Yo yE yE]
 obtain ⟨z,ez,V⟩:=o;rw [e1];simp only[A0];rw [N,G];simp only[A0];rw [yp yG];by_cases K:S.length=0
 .rw [yp (by simpa using K)]
 rw [yn (by simpa using K)];cases v with
 |false=>rfl
 |true=>
  obtain ⟨M,F,m1,O,E,hS,I,J⟩:=ZDA C.small yE H G;rw [yp rfl,ez];simp only[A0];have e:(0:Int)<(S.length:Int):=by omega
  have q:=Ba (S.length:Int) V;have t:=Bb z e;obtain ⟨k,L⟩:=Int.eq_ofNat_of_zero_le q;rw [L]at t;have A:k<S.length:=by omega
  have hlen:=D.len;have t1:=ZJ7 yE D.s k A;obtain ⟨U,P⟩:=ZKs A;have b:=ZKU (R:=R) (base:=base) (M:=M) A J.fit;have hs:=A9 A;have c:=ZKX A hs;have f:=ZKO A;obtain ⟨T,eT⟩:∃T,ZJL (ZJK S k) S (k+1)=T:=⟨_,rfl⟩
  rw [eT]at t1 U P b c f;have h60:=J.len;have hB:=ZCz.of E hS I yE b;have g:∀s∈T,s.fact.args.length<=1048576/\s.uses.length<=1000:=fun s B=>by
   have:=(hB.small s B).2.1;unfold Xv ZaK Zkn at this;omega
  have t2:=ZJ7 (S:=T) yE g (T.length - 1) yE;rw [f]at t2;have d:=E.logical;rw [AB]at d;have p3:=ZKL C.small d.1 E.logical1 I O hB.len (fun s B=>by have:=(g s B).2;omega) b;have ew:i64.wrap ((T.length:Int) - 1)=((T.length - 1:Nat):Int):=by rw [Yo yE yE];omega
  have u:i64.wrap ((k:Int)+1)=((k+1:Nat):Int):=by rw [Yo yE yE];omega
  rw [Zj _ yE,L];show Option.bind (ZJP S (k:Int)) _=_
  rw [t1];simp only[A0];rw [ew,t2];simp only[A0];rw [yn (by rw [beq_iff_eq];omega),u,yn (by rw [decide_eq_true_iff];omega),yn yG,p3,A0,yp rfl,Zj _ yE,AC,c,A0];show Option.bind (atI S (k:Int)) _=_
  rw [Zar,hs,A0,Zfm,A0];have W:Zfk (ZKj (ZJK S k) k S[k]).fact S[k].fact=0:=(Zdl.eq _ _).2 rfl;rw [W,yn yG,XM (p:=fun _ _=>true) (r:=false) (fun i x hx=>?_),yp (ZKB _ _)];have j:=hB.small x (AJ hx);have hi:=(AD.1 hx).1;rw [AK,ZKf yE j.2.2,A0,Zj _ yE,hx,A0,ZKf yE j.2.2,A0,yp (ZV.2 rfl)];rfl
end
end
end Go.Proofs.YtnacpkmpdlodoaaGreatDoor
