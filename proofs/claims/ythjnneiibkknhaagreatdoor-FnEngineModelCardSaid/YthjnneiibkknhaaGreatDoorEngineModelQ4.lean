/- Texts of this proof, joined: S19, S20, N1, N2, S21, S22, S23, N5, N8, KE, D1, D2, D3, D4, N9, N7, D5, KF, BInv, BRun, BOps1, BOps2, BOps3, BOps4, BOps5. What each holds is said at its theorems. -/
import Derived.Test.YthjnneiibkknhaaGreatDoorEngineModelQ3
import Derived.Test.YthjnneiibkknhaaGreatDoorEngineModelQ1
import Derived.Test.YthjnneiibkknhaaGreatDoorEngineModelQ2
import Derived.Laws.CopyRow
import Derived.Laws.OwnMore
import Derived.Laws.StructEq
import Derived.Laws.Tables
open Array renaming getElem?_eq_some_iff→Aq
open Bool renaming false_eq_true→AD,and_eq_true→AH
open ByteArray renaming size_extract→AY
open Go.ByteArray renaming toList_eq→B7
open Int renaming toNat→AA,toNat_natCast→AC,le_refl→AI,le_trans→AQ
open List renaming replicate→A4,mem_append→A9,range'→AE,getElem?_eq_some_iff→AF,getElem?_eq_getElem→AG,mem_of_getElem?→AJ,foldl_cons→AK,mem_cons→AL,getElem?_eq_none→AP,pairwise_iff_getElem→AR,length_append→AS,length_cons→AT,length_map→AX,getElem?_cons_succ→AZ,getElem?_cons_zero→Aa,all_eq_true→Ab,eq_nil_of_length_eq_zero→Ac,getElem_of_mem→Ag,range→Ah,range_eq_range'→Ai,mem_flatMap→Aj,mem_filterMap→Ak,map_cons→Al,mem_map→Am,nodup_cons→An,getElem?_of_mem→Ao,getElem_mem→Ap,mem_of_mem_drop→As,mem_of_mem_take→At,countP_le_length→Au,set_set→Av,eq_nil_iff_forall_not_mem→Aw,getElem?_append_left→Ax,length_nil→Ay,any_eq_true→Az,length_singleton→B1,filter_eq_self→B3,take_append_drop→B5,getElem?_take→B8,getElem?_drop→B9
open List.Pairwise renaming nil→B6
open List.cons renaming injEq→B2
open Nat renaming le_refl→A5,add_assoc→AO,add_mul→AU,zero_add→AW,lt_trichotomy→Ae,and_le_right→B4
open Option renaming bind_some→A0,map_eq_some_iff→AB,bind_eq_some_iff→AN
open Option.some renaming injEq→A6,inj→Ad
open UInt8 renaming ofNat→Ar
set_option linter.unusedSimpArgs false
set_option linter.unusedVariables false
set_option maxRecDepth 1000000
set_option maxHeartbeats 4000000
namespace Go.Proofs.YthjnneiibkknhaaGreatDoor
noncomputable section
section
open Classical
theorem ZDh {P:Nat->Prop}:∀v,P v->∃v,P v/\∀u,P u->v<=u:=by
 intro v;induction v using Nat.strongRecOn with
 |ind v ih=>
  intro B;by_cases h:∃u,P u/\u<v
  .obtain ⟨u,c,A⟩:=h;exact ih u A c
  .exact ⟨v,B,λu c=>by
    by_cases A:u<v
    .exact absurd ⟨u,c,A⟩ h
    .omega⟩
theorem Zzq {n:Nat}{R:List Zg}(I:∀r∈R,OkN n r) {G:Nat->Int}(J:ZiD R G):∃L,Zbs n R L:=by
 have D:∀i:Nat,∃v:Nat,(∃t,ZiD R t/\(t i).toNat=v)/\∀u,(∃t,ZiD R t/\(t i).toNat=u)->v<=u:=λi=>ZDh _ ⟨G,J,rfl⟩;let m:Nat->Nat:=λi=>Classical.choose (D i)
 have H:∀i,∃t,ZiD R t/\(t i).toNat=m i:=λi=>(Classical.choose_spec (D i)).1;have E:∀i t,ZiD R t->((m i:Nat):Int)<=t i:=λi t c=>by
  have:=(Classical.choose_spec (D i)).2 _ ⟨t,c,rfl⟩;have:=c.pos i;show ((Classical.choose (D i):Nat):Int)<=t i
  omega
 let L:List Int:=(Ah n).map λi=>((m i:Nat):Int)
 have A:∀i,i<n->lvN L i=((m i:Nat):Int):=λi hi=>by
  have:L[i]?=some ((m i:Nat):Int):=by simp [L,hi]
  unfold lvN;rw [this];rfl
 have a:∀i,¬i<n->lvN L i=0:=λi hi=>by
  unfold lvN;rw [AP (by simp [L];omega)];rfl
 refine ⟨L,by simp [L],⟨λi=>?_,λr C y B=>?_,λr C y B=>?_⟩,λt c i=>?_⟩
 .by_cases hi:i<n
  .rw [A i hi];omega
  .rw [a i hi];exact AI _
 .obtain ⟨F,M,_⟩:=I r C;rw [A _ F.2,A _ (M y B).2];obtain ⟨t,c,e⟩:=H r.for_.toNat;have:=E y.toNat t c;have:=c.inn r C y B;have:=c.pos r.for_.toNat;omega
 .obtain ⟨F,_,K⟩:=I r C;rw [A _ F.2,A _ (K y B).2];obtain ⟨t,c,e⟩:=H r.for_.toNat;have:=E y.toNat t c;have:=c.outs r C y B;have:=c.pos r.for_.toNat;omega
 .by_cases hi:i<n
  .rw [A i hi];exact E i t c
  .rw [a i hi];exact c.pos i
theorem ZAD {n:Nat}{R:List Zg}(A:∀r∈R,OkN n r) (C:Zro R):∃L,Zbs n R L/\∀i,lvN L i<n\/lvN L i=0:=by
 obtain ⟨B,D⟩:=Zu2 A C;obtain ⟨L,c⟩:=Zzq A B;refine ⟨L,c,λi=>?_⟩;have:=c.least _ B i;have:=c.sol.pos i;rcases D i with h|h<;>omega
def Zdw (s:List Int×Bool) (r:Zg):List Int×Bool:=if lvN s.1 r.for_.toNat<ZjA s.1 r then (QC s.1 r,true) else s
theorem Zii {n:Nat}:∀{R:List Zg}{s:List Int×Bool},s.1.length=n->(∀r∈R,OkN n r)->(R.foldl Zdw s).1=Qm R s.1/\((R.foldl Zdw s).2=true↔s.2=true\/Qm R s.1≠s.1)
 | [],s,_,_=>by simp [Qm]
 |r::R,s,hl,hR=>by
  have a:∀q∈R,OkN n q:=λq C=>hR q (by simp [C]);rw [AK];show _/\(_↔s.2=true\/Qm R (QC s.1 r)≠s.1)
  by_cases c:lvN s.1 r.for_.toNat<ZjA s.1 r
  .have e:Zdw s r=(QC s.1 r,true):=if_pos c;rw [e];obtain ⟨B,A⟩:=Zii (R:=R) (s:=(QC s.1 r,true)) (by rw [ZdW];exact hl) a;refine ⟨B,iff_of_true (A.2 (.inl rfl)) (.inr λD=>?_)⟩;have h3:=Zb3 R (QC s.1 r) r.for_.toNat;rw [D]at h3;have:lvN (QC s.1 r) r.for_.toNat=ZjA s.1 r:=by
    unfold QC;rw [ZaX,if_pos ⟨rfl,by have:=(hR r yG).1.2;omega⟩]
   omega
  .have e:Zdw s r=s:=if_neg c;rw [e,Zn4 c];obtain ⟨B,A⟩:=Zii hl a;refine ⟨B.trans ?_,A⟩;show Qm R s.1=Qm R (QC s.1 r)
   rw [Zn4 c]
theorem ZlR {n:Nat}{R:List Zg}{L:List Int}(c:Zbs n R L):Qm R L=L:=
 Zf7 (Zf4 R L) λi _=>Int.le_antisymm (ZeQ c.sol (λ_ h=>h) (λ_=>AI _) i) (Zb3 R L i)
theorem ZpL {n:Nat}{L row:List Int}(c:row.length=n) (A:L.length=n) (h:ZjC n L row=0):row=L:=by
 refine Zf7 (c.trans A.symm) λi hi=>?_;unfold ZjC at h;rw [List.countP_eq_zero]at h;simpa using h i (List.mem_range.2 yE)
theorem Zwl (n:Nat) (L row:List Int):ZjC n L row<=n:=by
 have:=Au (p:=λi=>decide (¬lvN row i=lvN L i)) (l:=Ah n);rw [List.length_range]at this;exact this
theorem Ztl {σ ρ:Type}{n:Nat}{R:List Zg}{L:List Int}(B:Zbs n R L) (C:∀r∈R,OkN n r) (st:List Int->Bool->σ) (g:List Int->ρ) {body:σ->Option (σ ⊕ ρ)}
  (F:∀row,row.length=n->(∀i,0<=lvN row i/\lvN row i<=lvN L i)->body (st row true)=some (.inl (st (R.foldl Zdw (row,false)).1 (R.foldl Zdw (row,false)).2)))
  (I:∀row,body (st row false)=some (.inr (g row))):
  ∀k row,row.length=n->(∀i,0<=lvN row i/\lvN row i<=lvN L i)->ZjC n L row<=k->Ys body (st row true)=some (g L):=by
 have a:∀row,row.length=n->(∀i,0<=lvN row i/\lvN row i<=lvN L i)->Qm R row=row->Ys body (st row true)=some (g L):=λrow c A e=>by
  obtain ⟨E,D⟩:=Zii (s:=(row,false)) c C;have J:(R.foldl Zdw (row,false)).2=false:=by
   cases hb:(R.foldl Zdw (row,false)).2 with
   |false=>rfl
   |true=>
    rcases D.1 hb with h|h
    .simp at h
    .exact absurd e h
  rw [Yg (F row c A),J,E];have b:Zbs n R row:=Zyf c C (λi=>(A i).1) (λt G i=>AQ (A i).2 (B.least t G i)) e;show Ys body (st (Qm R row) false)=_
  rw [e,ZZ (I row),b.uniq B]
 intro k;induction k with
 |zero=>
  intro row c A H;have e:row=L:=ZpL c B.len yE;exact a row c A (by rw [e];exact ZlR B)
 |succ k ih=>
  intro row c A H;by_cases e:Qm R row=row
  .exact a row c A e
  .obtain ⟨E,D⟩:=Zii (s:=(row,false)) c C;rw [Yg (F row c A),D.2 (.inr e),E];refine ih _ (by rw [Zf4];exact c) (λi=>⟨AQ (A i).1 (Zb3 R row i),ZeQ B.sol (λ_ h=>h) (λi=>(A i).2) i⟩) ?_;rcases ZnQ B c C (λi=>(A i).1) (λi=>(A i).2) with h|h
   .exact absurd (by rw [ZpL c B.len h];exact ZlR B) e
   .show ZjC n L (Qm R row)<=k
    omega
/- the reference writes each greater level at once -/
theorem Zz3 {row:List Int}{f:Nat}(c:f<row.length):row.set f (lvN row f)=row:=Zf7 (by simp) λi _=>by
 rw [ZaX];split
 .rename_i h;rw [h.1]
 .rfl
theorem ZrV {row:List Int}{f:Nat}(c:f<row.length):∀(l:List Int) (v:Int),lvN row f<=v->l.foldl (λs y=>s.set f (mx (lvN s f) (lvN s y.toNat))) (row.set f v)=row.set f (l.foldl (λm y=>mx m (lvN row y.toNat)) v)
 | [],_,_=>rfl
 |y::l,v,hv=>by
  have B:lvN (row.set f v) f=v:=by rw [ZaX,if_pos ⟨rfl,c⟩]
  have A:mx v (lvN (row.set f v) y.toNat)=mx v (lvN row y.toNat):=by
   rw [ZaX];split
   .rename_i h;rw [h.1];unfold mx;split<;>split<;>omega
   .rfl
  rw [AK,AK,B,A,Av];exact ZrV c l _ (AQ hv (Zzt v _).1)
theorem Zuc {row:List Int}{f:Nat}(c:f<row.length):∀(l:List Int) (v:Int),(∀y∈l,y.toNat≠f)->l.foldl (λs y=>s.set f (mx (lvN s f) (lvN s y.toNat+1))) (row.set f v)=row.set f (l.foldl (λm y=>mx m (lvN row y.toNat+1)) v)
 | [],_,_=>rfl
 |y::l,v,hl=>by
  have C:lvN (row.set f v) f=v:=by rw [ZaX,if_pos ⟨rfl,c⟩]
  have B:lvN (row.set f v) y.toNat=lvN row y.toNat:=by
   rw [ZaX,if_neg λh=>hl y yG h.1]
  rw [AK,AK,C,B,Av];exact Zuc c l _ λz A=>hl z (by simp [A])
theorem Zvg {row:List Int}{r:Zg}(c:r.for_.toNat<row.length) (A:∀y∈r.outs,y.toNat≠r.for_.toNat):r.outs.foldl (λs y=>s.set r.for_.toNat (mx (lvN s r.for_.toNat) (lvN s y.toNat+1))) (r.inn.foldl (λs y=>s.set r.for_.toNat (mx (lvN s r.for_.toNat) (lvN s y.toNat))) row)=QC row r:=by
 have e:=ZrV c r.inn (lvN row r.for_.toNat) (AI _);rw [Zz3 c]at e;rw [e,Zuc c _ _ A];rfl
/- rounds -/
theorem ZsP {σ ρ:Type}{n top:Nat}{R:List Zg}{L:List Int}(C:∀r∈R,OkN n r) (st:List Int->Nat->Nat->σ) (g:List Int->ρ) {body:σ->Option (σ ⊕ ρ)}
  (H:∀row k s,RIn n row k->s<=top->YH R L (s:Int) row k≠[]->body (st row k s)=some (.inl (st (Zdu row (YH R L (s:Int) row k) (k:Int)) (k+1) s)))
  (E:∀row k s,RIn n row k->s<=top->YH R L (s:Int) row k=[]->body (st row k s)=some (.inl (st row k (s+1))))
  (G:∀row k,RIn n row k->body (st row k (top+1))=some (.inr (g row))):
  ∀d s row k,s+d=top+1->RIn n row k->Ys body (st row k s)=some (g (XS R L n (AE s d) (row,k)).1):=by
 have c:∀f s row k,s<=top->RIn n row k->Zfm row<=f->Ys body (st row k s)=Ys body (st (YY R L (s:Int) f row k).1 (YY R L (s:Int) f row k).2 (s+1)):=by
  intro f;induction f with
  |zero=>
   intro s row k hs A F;have B:YH R L (s:Int) row k=[]:=Classical.byContradiction λB=>by have:=(A.next C B).2;omega
   exact Yg (E row k s A hs B)
  |succ f ih=>
   intro s row k hs A F;unfold YY;by_cases B:YH R L (s:Int) row k=[]
   .rw [if_pos B];exact Yg (E row k s A hs B)
   .rw [if_neg B,Yg (H row k s A hs B)];obtain ⟨a,b⟩:=A.next C B
    exact ih s _ _ hs a yE
 intro d;induction d with
 |zero=>
  intro s row k hs A;obtain rfl:s=top+1:=by omega
  exact ZZ (G row k A)
 |succ d ih=>
  intro s row k hs A;have D:Zfm row<=n:=by have:=A.few;omega
  rw [c n s row k yE A D];exact ih (s+1) _ _ yE (Zeg C n row k A D).1
theorem Zll {row:List Int}{R:List Zg}{L:List Int}{s:Int}{k:Nat}{l:List Int}(h:∀x,x∈l↔x∈YH R L s row k):Zdu row l (k:Int)=Zdu row (YH R L s row k) (k:Int)/\(l=[]↔YH R L s row k=[]):=by
 refine ⟨ZuD λi=>?_,?_⟩
 .constructor
  .rintro ⟨x,c,e⟩;exact ⟨x,(h x).1 c,e⟩
  .rintro ⟨x,c,e⟩;exact ⟨x,(h x).2 c,e⟩
 .rw [Aw,Aw];exact forall_congr' λx=>not_congr (h x)
theorem ZvC {σ ρ:Type}{n:Nat}{R:List Zg}{L:List Int}{s:Int}(C:∀r∈R,OkN n r) (st:List Int->Nat->List Int->σ) (g:List Int->Nat->ρ) (B:List Int->Nat->List Int) (a:∀row k x,RIn n row k->(x∈B row k↔x∈YH R L s row k)) {body:σ->Option (σ ⊕ ρ)}
  (G:∀row k,RIn n row k->B row k≠[]->RIn n (Zdu row (B row k) (k:Int)) (k+1)->body (st row k (B row k))=some (.inl (st (Zdu row (B row k) (k:Int)) (k+1) (B (Zdu row (B row k) (k:Int)) (k+1)))))
  (D:∀row k,RIn n row k->body (st row k [])=some (.inr (g row k))):
  ∀f row k,RIn n row k->Zfm row<=f->Ys body (st row k (B row k))=some (g (YY R L s f row k).1 (YY R L s f row k).2):=by
 intro f;induction f with
 |zero=>
  intro row k A F;have c:YH R L s row k=[]:=Classical.byContradiction λc=>by have:=(A.next C c).2;omega
  rw [(Zll λx=>a row k x A).2.2 c,ZZ (D row k A)];rfl
 |succ f ih=>
  intro row k A F;unfold YY;by_cases c:YH R L s row k=[]
  .rw [if_pos c,(Zll λx=>a row k x A).2.2 c,ZZ (D row k A)]
  .obtain ⟨E,H⟩:=Zll λx=>a row k x A;rw [if_neg c,Yg (G row k A (λh=>c (H.1 h)) (by rw [E];exact (A.next C c).1)),E];exact ih _ _ (A.next C c).1 (by have:=(A.next C c).2;omega)
end
section
open Classical
structure Zcg (b:Zu):Prop where
 n0:0<=b.nodes
 n1:b.nodes<=24
 len:b.reasons.length<=60
 ok:∀r∈b.reasons,OkN b.nodes.toNat r
 up:∀r∈b.reasons,r.inn.Pairwise (·<·)/\r.outs.Pairwise (·<·)
 few:∀r∈b.reasons,r.inn.length<=4/\r.outs.length<=4
 strat:Zro b.reasons
theorem Zcg.of {R:List Zf}{base F:List Zd}(h:Yf R base F) (a:(YG R F base).length<=60):Zcg { nodes:=(F.length:Int),reasons:=YG R F base }:=by
 have:=h.len;exact ⟨by simp only;omega,by simp only;omega,a,λr c=>by simpa using ZwQ h r c,λr c=>(Ze4 h c).up,λr c=>ZqK h c,ZrC h⟩
theorem Zcg.valid {b:Zu}(h:Zcg b):Zgq b=true:=by
 unfold Zgq;have h0:=h.n0;have h1:=h.n1;simp only[AH,decide_eq_true_eq];refine ⟨h.n0,h.n1,h.len,Ab.2 λr A=>?_⟩;obtain ⟨⟨F,G⟩,E,D⟩:=h.ok r A;obtain ⟨C,B⟩:=h.up r A;unfold ZxA;simp only[AH,decide_eq_true_eq];exact ⟨F,yE,ZAC (λy c=>by have:=E y c;omega) C,ZAC (λy c=>by have:=D y c;omega) B⟩
theorem Zcg.small {b:Zu}(h:Zcg b):Zzk b:=λr c=>by have:=h.few r c;omega
def XM:List Zd->List Int->List Zd
 |f::F,v::l=>if 0<=v then f::XM F l else XM F l
 |_,_=>[]
theorem Zqz:∀{F:List Zd}{l:List Int},(XM F l).length<=F.length/\∀f∈XM F l,f∈F
 | [],l=>by simp [XM]
 |f::F,[]=>by simp [XM]
 |f::F,v::l=>by
  obtain ⟨B,A⟩:=Zqz (F:=F) (l:=l);unfold XM;split
  .refine ⟨by simp;omega,λg c=>?_⟩;rcases AL.1 c with rfl|c
   .simp
   .simp [A g c]
  .exact ⟨by simp;omega,λg c=>by simp [A g c]⟩
def lvB (b:Zu):List Int:=if h:∃L,Zbs b.nodes.toNat b.reasons L then Classical.choose h else []
def rdB (b:Zu):List Int:=(XS b.reasons (lvB b) b.nodes.toNat (Ah b.nodes.toNat) (A4 b.nodes.toNat (-1),0)).1
theorem Zcg.lv {b:Zu}(h:Zcg b):Zbs b.nodes.toNat b.reasons (lvB b)/\∀i,0<=lvN (lvB b) i/\(lvN (lvB b) i<b.nodes.toNat\/lvN (lvB b) i=0):=by
 obtain ⟨L,A,B⟩:=ZAD h.ok h.strat;have a:∃L,Zbs b.nodes.toNat b.reasons L:=⟨L,A⟩
 have e:lvB b=Classical.choose a:=dif_pos a;have c:Zbs b.nodes.toNat b.reasons (lvB b):=by rw [e];exact Classical.choose_spec a
 refine ⟨c,λi=>⟨c.sol.pos i,?_⟩⟩;rw [c.uniq A];exact B i
theorem Zip (n:Nat):RIn n (A4 n (-1)) 0:=⟨by simp,λi hi=>⟨-1,by simp [hi],.inl rfl⟩,by
 have:=Au (p:=λv:Int=>decide (v<0)) (l:=A4 n (-1));rw [List.length_replicate]at this;unfold Zfm;omega⟩
theorem Zcg.rd {b:Zu}(h:Zcg b):(rdB b).length=b.nodes.toNat:=(ZmY h.ok _ _ (Zip _)).len
end
section
open Classical
structure Zvv (n:Nat) (R:List Zg) (L:List Int) (s:Int) (row:List Int) (k:Nat):Prop where
 rin:RIn n row k
 low:∀x:Nat,0<=rdN row (x:Int)->lvN L x<s
 supp:∀x:Nat,0<=rdN row (x:Int)->∃r∈R,r.for_.toNat=x/\(∀y∈r.inn,0<=rdN row y/\rdN row y<rdN row (x:Int))/\∀y∈r.outs,rdN row y<0
 clos:∀r∈R,lvN L r.for_.toNat<s->(∀y∈r.inn,0<=rdN row y)->(∀y∈r.outs,rdN row y<0)->0<=rdN row r.for_
theorem ZpE (row:List Int) (y:Int):rdN row y=rdN row (y.toNat:Int):=by unfold rdN;rw [AC]
theorem ZzM {row l:List Int}{k:Nat}{y:Int}(A:y.toNat<row.length):rdN (Zdu row l (k:Int)) y=if ∃x∈l,x.toNat=y.toNat then (k:Int) else rdN row y:=by
 unfold rdN;rw [Zkd];by_cases c:∃x∈l,x.toNat=y.toNat
 .rw [if_pos ⟨c,A⟩,if_pos c];rfl
 .rw [if_neg λh=>c h.1,if_neg c]
theorem ZBr {row:List Int}{y:Int}(c:¬y.toNat<row.length):rdN row y=-1:=by
 unfold rdN;rw [AP yE];rfl
structure ZxU (n:Nat) (R:List Zg) (L:List Int) (s:Int) (row:List Int) (k:Nat):Prop where
 rin:RIn n row k
 low:∀x:Nat,0<=rdN row (x:Int)->lvN L x<=s
 supp:∀x:Nat,0<=rdN row (x:Int)->∃r∈R,r.for_.toNat=x/\(∀y∈r.inn,0<=rdN row y/\rdN row y<rdN row (x:Int))/\∀y∈r.outs,rdN row y<0
 clos:∀r∈R,lvN L r.for_.toNat<s->(∀y∈r.inn,0<=rdN row y)->(∀y∈r.outs,rdN row y<0)->0<=rdN row r.for_
theorem RIn.lt {n:Nat}{row:List Int}{k:Nat}(h:RIn n row k) (y:Int) (A:0<=rdN row y):y.toNat<n/\rdN row y<(k:Int):=by
 by_cases c:y.toNat<n
 .obtain ⟨v,C,B⟩:=h.val y.toNat c;have e:rdN row y=v:=by unfold rdN;rw [C];rfl
  rw [e]at A ⊢;exact ⟨c,yE⟩
 .rw [ZBr (by rw [h.len];exact c)]at A;omega
theorem ZxU.next {n:Nat}{R:List Zg}{L:List Int}{s:Int}{row:List Int}{k:Nat}(E:∀r∈R,OkN n r) (F:ZiD R (lvN L)) (h:ZxU n R L s row k) (U:YH R L s row k≠[]):ZxU n R L s (Zdu row (YH R L s row k) (k:Int)) (k+1):=by
 have d:=(h.rin.next E U).1;have hlen:=h.rin.len;have a:∀y:Int,y.toNat<n->rdN (Zdu row (YH R L s row k) (k:Int)) y=if ∃x∈YH R L s row k,x.toNat=y.toNat then (k:Int) else rdN row y:=λy hy=>ZzM yE;have f:∀y:Int,(∃x∈YH R L s row k,x.toNat=y.toNat)->lvN L y.toNat=s/\rdN row y<0:=λy ⟨x,P,e⟩=>by
  obtain ⟨r,B,M,O,N,_⟩:=ZcG.1 P;rw [<-e];refine ⟨O,?_⟩;rw [ZpE row y,<-e,<-ZpE];exact N
 have H:∀y:Int,0<=rdN row y->rdN (Zdu row (YH R L s row k) (k:Int)) y=rdN row y:=λy hy=>by
  have hl:=(h.rin.lt y hy).1;rw [a y hl,if_neg λC=>by have:=(f y C).2;omega]
 have G:∀y:Int,y.toNat<n->lvN L y.toNat<s->rdN (Zdu row (YH R L s row k) (k:Int)) y=rdN row y:=λy hl hy=>by
  rw [a y hl,if_neg λC=>by have:=(f y C).1;omega]
 refine ⟨d,λx C=>?_,λx C=>?_,λr B hs hi S=>?_⟩
 .have hl:=(d.lt _ C).1;rw [AC]at hl;rw [a _ (by simpa using hl)]at C;split at C
  .rename_i c;have:=(f (x:Int) c).1;rw [AC]at this;omega
  .exact h.low x C
 .have hl:=(d.lt _ C).1;rw [AC]at hl;by_cases c:∃y∈YH R L s row k,y.toNat=x
  .obtain ⟨y,A,e⟩:=c;obtain ⟨r,B,rfl,O,N,K,J⟩:=ZcG.1 A;have T:rdN (Zdu row (YH R L s row k) (k:Int)) (x:Int)=(k:Int):=by
    rw [a _ (by simpa using hl),if_pos ⟨r.for_,A,by simpa using e⟩]
   refine ⟨r,B,e,λy b=>?_,λy b=>?_⟩
   .obtain ⟨D,I⟩:=K y b;rw [H y D,T];exact ⟨D,I⟩
   .have hy:=(E r B).2.2 y b;have:=F.outs r B y b;rw [G y hy.2 yE];exact J y b
  .have e:rdN (Zdu row (YH R L s row k) (k:Int)) (x:Int)=rdN row (x:Int):=by
    rw [a _ (by simpa using hl),if_neg (by simpa using c)]
   rw [e]at C ⊢;obtain ⟨r,B,M,K,J⟩:=h.supp x C;refine ⟨r,B,M,λy A=>?_,λy A=>?_⟩
   .obtain ⟨D,I⟩:=K y A;rw [H y D];exact ⟨D,I⟩
   .have hy:=(E r B).2.2 y A;have h5:=F.outs r B y A;have h6:=h.low x C;rw [M]at h5;rw [G y hy.2 yE];exact J y A
 .have g:∀y∈r.inn,0<=rdN row y:=λy A=>by
   have hy:=(E r B).2.1 y A;have h5:=F.inn r B y A;have:=hi y A
   rwa [G y hy.2 yE]at this
  have i:∀y∈r.outs,rdN row y<0:=λy A=>by
   have hy:=(E r B).2.2 y A;have h5:=F.outs r B y A;have:=S y A
   rwa [G y hy.2 yE]at this
  have:=h.clos r B hs g i;rw [H _ this];exact this
theorem Zpj {n:Nat}{R:List Zg}{L:List Int}{s:Int}(A:∀r∈R,OkN n r) (B:ZiD R (lvN L)):∀(f:Nat) (row:List Int) (k:Nat),ZxU n R L s row k->Zfm row<=f->ZxU n R L s (YY R L s f row k).1 (YY R L s f row k).2
 |0,row,k,h,hf=>h
 |f+1,row,k,h,hf=>by
  unfold YY;by_cases c:YH R L s row k=[]
  .rw [if_pos c];exact h
  .rw [if_neg c];exact Zpj A B f _ _ (h.next A B c) (by have:=(h.rin.next A c).2;omega)
theorem Zvv.level {n:Nat}{R:List Zg}{L:List Int}{s:Int}{row:List Int}{k:Nat}(E:∀r∈R,OkN n r) (G:ZiD R (lvN L)) (h:Zvv n R L s row k):Zvv n R L (s+1) (YY R L s n row k).1 (YY R L s n row k).2:=by
 have C:Zfm row<=n:=by have:=h.rin.few;omega
 have F:ZxU n R L s row k:=⟨h.rin,λx c=>by have:=h.low x c;omega,h.supp,h.clos⟩
 have h1:=Zpj E G n row k F C;have h2:=(Zeg (L:=L) (s:=s) E n row k h.rin C).2;refine ⟨h1.rin,λx c=>by have:=h1.low x c;omega,h1.supp,λr B hs hi D=>?_⟩;by_cases e:lvN L r.for_.toNat=s
 .refine Classical.byContradiction λH=>?_;have:r.for_∈YH R L s (YY R L s n row k).1 (YY R L s n row k).2:=ZcG.2 ⟨r,B,rfl,e,yE,λy A=>⟨hi y A,(h1.rin.lt y (hi y A)).2⟩,D⟩;rw [h2]at this;simp at this
 .exact h1.clos r B yE hi D
theorem Zm4 {n:Nat}{R:List Zg}{L:List Int}(c:∀r∈R,OkN n r) (A:ZiD R (lvN L)):∀(d s:Nat) (st:List Int×Nat),Zvv n R L (s:Int) st.1 st.2->Zvv n R L ((s+d:Nat):Int) (XS R L n (AE s d) st).1 (XS R L n (AE s d) st).2
 |0,_,_,h=>h
 |d+1,s,st,h=>by
  have B:Zvv n R L ((s+1:Nat):Int) (YY R L (s:Int) n st.1 st.2).1 (YY R L (s:Int) n st.1 st.2).2:=by
   have:=h.level c A
   rwa [show (s:Int)+1=((s+1:Nat):Int) by omega]at this
  have:=Zm4 c A d (s+1) _ B
  rwa [show s+1+d=s+(d+1) by omega]at this
theorem Zcg.end {b:Zu}(h:Zcg b):(∀x:Nat,0<=rdN (rdB b) (x:Int)->∃r∈b.reasons,r.for_.toNat=x/\(∀y∈r.inn,0<=rdN (rdB b) y/\rdN (rdB b) y<rdN (rdB b) (x:Int))/\∀y∈r.outs,rdN (rdB b) y<0)/\∀r∈b.reasons,(∀y∈r.inn,0<=rdN (rdB b) y)->(∀y∈r.outs,rdN (rdB b) y<0)->0<=rdN (rdB b) r.for_:=by
 obtain ⟨D,B⟩:=h.lv;have none:∀y:Int,rdN (A4 b.nodes.toNat (-1)) y=-1:=λy=>by
  unfold rdN;by_cases C:y.toNat<b.nodes.toNat
  .simp [C]
  .rw [AP (by simp;omega)];rfl
 have a:Zvv b.nodes.toNat b.reasons (lvB b) ((0:Nat):Int) (A4 b.nodes.toNat (-1),0).1 (A4 b.nodes.toNat (-1),0).2:=⟨Zip _,λx A=>by rw [none]at A;omega,λx A=>by rw [none]at A;omega,λr c hs=>by have:=(B r.for_.toNat).1;omega⟩
 have hE:=Zm4 h.ok D.sol b.nodes.toNat 0 _ a;have e:rdB b=(XS b.reasons (lvB b) b.nodes.toNat (AE 0 b.nodes.toNat) (A4 b.nodes.toNat (-1),0)).1:=by unfold rdB;rw [Ai]
 rw [<-e]at hE;refine ⟨hE.supp,λr c=>hE.clos r c ?_⟩;have:=B r.for_.toNat;have:=(h.ok r c).1.2;omega
end
section
open Classical
theorem Zw8 {M F:List Zd}:∀n (l:List Zp),l.length=n->(∀x∈l,¬x.kind=2)->∀t∈Zy l F,(∀f∈t.facts,f∈M)->t∈Zy l M:=by
 intro n;induction n with
 |zero=>
  intro l h _ t c _;rw [Ac h]at c ⊢;exact c
 |succ n ih=>
  intro l h C;obtain ⟨p,x,rfl⟩:∃p x,l=p++[x]:=⟨l.dropLast,l.getLast (by intro e;simp [e]at h),(List.dropLast_concat_getLast _).symm⟩
  intro t c D;rw [ZaQ]at c ⊢;obtain ⟨s,H,c⟩:=Aj.1 c;have hx:=C x yG;unfold Zc1 at c;by_cases A:x.kind=1
  .rw [if_pos A]at c;obtain ⟨g,L,K⟩:=Ak.1 c;obtain ⟨b,E,rfl⟩:=AB.1 K;have hs:=ih p (by simpa using h) (λy B=>C y (by simp [B])) s H λf I=>D f (by simp [I]);refine Aj.2 ⟨s,hs,?_⟩;unfold Zc1;rw [if_pos A];exact Ak.2 ⟨g,D g yG,by rw [E];rfl⟩
  .rw [if_neg A]at c;have J:∀G,Zeu x s.binding G=Zeu x s.binding F:=λG=>by
    unfold Zeu;simp only[if_neg A,if_neg hx]
   split at c
   .rename_i E;simp at c;subst c;have hs:=ih p (by simpa using h) (λy B=>C y (by simp [B])) t H D;refine Aj.2 ⟨t,hs,?_⟩;unfold Zc1;rw [if_neg A,J,if_pos E];simp
   .simp at c
theorem ZAM {R:List Zf}{r:Zf}{M F:List Zd}{t:Zt}(c:t∈Zy (Qc r) F) (A:∀f∈t.facts,f∈M):t∈Zy (Qc r) M:=Zw8 _ (Qc r) rfl Zqe t c A
theorem Zwy {r:Zf}{F:List Zd}{t:Zt}(c:t∈Zy (Qc r) F):∀f∈t.facts,f∈F:=(XA F _ t c).sub
structure ZzI (R:List Zf) (base M:List Zd):Prop where
 giv:∀f∈base,f∈M
 clos:∀r∈R,∀t∈Zy (Qc r) M,(∀g∈ZkE r t,g∉M)->∀a∈r.thn,Yh a t∈M
 supp:∃rank:Zd->Nat,∀f∈M,f∈base\/∃r∈R,∃t∈Zy (Qc r) M,∃a∈r.thn,Yh a t=f/\(∀g∈t.facts,rank g<rank f)/\∀g∈ZkE r t,g∉M
theorem Zp3 {f:Zd}:∀{F:List Zd}{l:List Int},l.length=F.length->(f∈XM F l↔∃i,F[i]?=some f/\0<=rdN l ((i:Nat):Int))
 | [],l,_=>by simp [XM]
 |g::F,[],h=>by simp at h
 |g::F,v::l,h=>by
  have ih:=Zp3 (f:=f) (F:=F) (l:=l) (by simpa using h)
  have C:∀i:Nat,rdN (v::l) ((i+1:Nat):Int)=rdN l ((i:Nat):Int):=λi=>by unfold rdN;rw [AC,AC];simp
  have D:rdN (v::l) ((0:Nat):Int)=v:=by unfold rdN;rfl
  have key:(∃i,(g::F)[i]?=some f/\0<=rdN (v::l) ((i:Nat):Int))↔(g=f/\0<=v)\/∃i,F[i]?=some f/\0<=rdN l ((i:Nat):Int):=by
   constructor
   .rintro ⟨i,A,c⟩
    cases i with
    |zero=>rw [D]at c;exact .inl ⟨by simpa using A,c⟩
    |succ i=>rw [C]at c;exact .inr ⟨i,by simpa using A,c⟩
   .rintro (⟨A,c⟩|⟨i,A,c⟩)
    .exact ⟨0,by simp [A],by rw [D];exact c⟩
    .exact ⟨i+1,by simpa using A,by rw [C];exact c⟩
  rw [key]
  unfold XM
  by_cases B:0<=v
  .rw [if_pos B,AL,ih]
   constructor
   .rintro (h|h)
    .exact .inl ⟨h.symm,B⟩
    .exact .inr h
   .rintro (⟨h,_⟩|h)
    .exact .inl h.symm
    .exact .inr h
  .rw [if_neg B,ih]
   constructor
   .exact .inr
   .rintro (⟨_,h⟩|h)
    .exact absurd h B
    .exact h
theorem ZpG {F:List Zd}{f g:Zd}(B:f∈F) (A:g∈F) (h:Z0 F f=Z0 F g):f=g:=by
 obtain ⟨i,E,C⟩:=ZaW B;obtain ⟨j,D,c⟩:=ZaW A;have:i=j:=by omega
 subst this;rw [C]at c;exact Ad c
theorem Zx6 {F:List Zd}(C:F.Nodup) {j:Nat}{f:Zd}(h:F[j]?=some f):Z0 F f=(j:Int):=by
 obtain ⟨k,H,G⟩:=ZaW (AJ h);obtain ⟨B,E⟩:=AF.1 h;obtain ⟨A,D⟩:=AF.1 G;have:k=j:=by
  rcases Ae k j with c|c|c
  .exact absurd (D.trans E.symm) (AR.1 C k j A B c)
  .exact c
  .exact absurd (E.trans D.symm) (AR.1 C j k B A c)
 rw [H,this]
theorem ZzK {F:List Zd}(C:F.Nodup) {l:List Int}(B:l.length=F.length) {f:Zd}:f∈XM F l↔f∈F/\0<=rdN l (Z0 F f):=by
 rw [Zp3 B]
 constructor
 .rintro ⟨i,c,A⟩
  exact ⟨AJ c,by rw [Zx6 C c];exact A⟩
 .rintro ⟨c,A⟩
  obtain ⟨j,E,D⟩:=ZaW c
  exact ⟨j,D,by rw [<-E];exact A⟩
theorem Zxy {R:List Zf}{base F:List Zd}(h:Yf R base F) {rs:List Zg}{c:List Zd}(hB:Zcg { nodes:=(F.length:Int),reasons:=rs })
  (k:∀x,x∈rs↔(∃f∈c,x={ for_:=Z0 F f,inn:=[],outs:=[] })\/∃r∈R,∃t∈Zy (Qc r) F,∃a∈r.thn,x=Ym F r t a) (hg:∀f∈c,f∈F):ZzI R c (XM F (rdB { nodes:=(F.length:Int),reasons:=rs })):=by
 obtain ⟨e1,e2⟩:=hB.end;have hF:=Zcm h.good.asc;have hl:=hB.rd;generalize rdB { nodes:=(F.length:Int),reasons:=rs }=rd at e1 e2 hl
 simp only[AC]at hl;have hm:∀f,f∈XM F rd↔f∈F/\0<=rdN rd (Z0 F f):=λf=>ZzK hF hl;have d:∀f∈F,((Z0 F f).toNat:Int)=Z0 F f:=λf mf=>by
  obtain ⟨j,h1,_⟩:=ZaW mf;omega
 refine ⟨λf mf=>?_,λr mr t mt m a ma=>?_,λf=>(rdN rd (Z0 F f)).toNat,λf mf=>?_⟩
 .rw [hm];exact ⟨hg f mf,e2 _ ((k _).2 (.inl ⟨f,mf,rfl⟩)) yG yG⟩
 .have ht:∀g∈t.facts,g∈XM F rd:=Zwy mt;have l:t∈Zy (Qc r) F:=ZAM (R:=R) mt λg mg=>((hm g).1 (ht g mg)).1;have i:=h.closed r mr t l a ma;rw [hm];refine ⟨i,e2 _ ((k _).2 (.inr ⟨r,mr,t,l,a,ma,rfl⟩)) (λy my=>?_) λy my=>?_⟩
  .obtain ⟨g,mg,e,_⟩:=((YO F t.facts).2.1 y).1 my;rw [<-e];exact ((hm g).1 (ht g mg)).2
  .obtain ⟨g,mg,e,e0⟩:=((YO F (ZkE r t)).2.1 y).1 my;have gF:g∈F:=by
    rcases Zgt F g with ⟨_,h2⟩|⟨j,_,h2⟩
    .omega
    .exact AJ h2
   refine Classical.byContradiction λhn=>m g mg ((hm g).2 ⟨gF,?_⟩);rw [e];omega
 .obtain ⟨fF,f0⟩:=(hm f).1 mf;obtain ⟨x,mx,ex,hi,ho⟩:=e1 (Z0 F f).toNat (by rw [d f fF];exact f0);rw [d f fF]at hi;rcases (k x).1 mx with ⟨g,mg,rfl⟩|⟨r,mr,t,mt,a,ma,rfl⟩
  .left
   have:Z0 F g=Z0 F f:=by have:=d g (hg g mg);have:=d f fF;simp only at ex;omega
   rw [<-ZpG (hg g mg) fF this];exact mg
  .right
   have i:=h.closed r mr t mt a ma;have e:Yh a t=f:=ZpG i fF (by
    have h1:=d _ i;have h2:=d f fF;have ex':(Z0 F (Yh a t)).toNat=(Z0 F f).toNat:=ex;omega)
   have b:∀g∈t.facts,g∈XM F rd/\rdN rd (Z0 F g)<rdN rd (Z0 F f):=λg mg=>by
    have gF:=Zwy mt g mg;obtain ⟨j,k1,_⟩:=ZaW gF;have my:Z0 F g∈Zaw F t.facts:=((YO F t.facts).2.1 _).2 ⟨g,mg,rfl,yE⟩;obtain ⟨k2,k3⟩:=hi _ my;exact ⟨(hm g).2 ⟨gF,k2⟩,k3⟩
   refine ⟨r,mr,t,ZAM (R:=R) mt λg mg=>(b g mg).1,a,ma,e,λg mg=>?_,λg mg o=>?_⟩
   .have k2:=(b g mg).2;have k1:=((hm g).1 (b g mg).1).2;show (rdN rd (Z0 F g)).toNat<(rdN rd (Z0 F f)).toNat
    omega
   .obtain ⟨gF,g0⟩:=(hm g).1 o;obtain ⟨j,k1,_⟩:=ZaW gF;have my:Z0 F g∈Zaw F (ZkE r t):=((YO F (ZkE r t)).2.1 _).2 ⟨g,mg,rfl,yE⟩;have:=ho _ my;omega
theorem ZAy {R:List Zf}{base F:List Zd}(h:Yf R base F) (a:(YG R F base).length<=60):ZzI R base (XM F (rdB { nodes:=(F.length:Int),reasons:=YG R F base })):=
 Zxy h (Zcg.of h a) (λ_=>Zjt) h.good.inc
/- one model alone -/
end
section
open Classical
theorem ZiZ {row:List Int}{i:Nat}(h:i<row.length):row[i]?=some (lvN row i):=by
 unfold lvN;rw [AG h];rfl
theorem Zv6 {x:Int}(A:-1000000<=x) (c:x<=1000000):IntKind.i64.wrap x=x:=Y2 yE yE
theorem ZiI {k:Nat}(h:k<1000000000):IntKind.i64.wrap ((k:Int)+1)=((k+1:Nat):Int):=Zj (n:=k+1) yE yE
theorem Zys (l:List Int) (h:l.length<=1073741824):Zkb l=some l:=Zi _ h
/- what a node depends on -/
theorem Zqd {ρ:Type}{n:Nat}{R:List Zg}{x:Int}{l:List Int}{body:List Bool×List Int×Int->Option ((List Bool×List Int×Int) ⊕ ρ)}(g:List Bool×List Int->ρ)
  (E:∀s i y,QT n R x s->i<l.length->l[i]?=some y->(0<=y/\y.toNat<n)->body (s.1,s.2,(i:Int))=some (.inl ((Zft s y).1,(Zft s y).2,((i+1:Nat):Int))))
  (D:∀s,body (s.1,s.2,(l.length:Int))=some (.inr (g s))) (A:∀y∈l,(0<=y/\y.toNat<n)/\ZbQ R x y):
  ∀(b a:List Int) (s:List Bool×List Int),l=a++b->QT n R x s->Ys body (s.1,s.2,(a.length:Int))=some (g (b.foldl Zft s))
 | [],a,s,e,_=>by
  rw [List.append_nil]at e;subst e;exact ZZ (D s)
 |y::b,a,s,e,hI=>by
  have C:l[a.length]?=some y:=by rw [e];simp
  have B:y∈l:=AJ C;have c:=(AF.1 C).1;rw [Yg (E s a.length y hI c C (A y B).1)];have:=Zqd g E D A b (a++[y]) (Zft s y) (by rw [e];simp) (ZvS hI (A y B).1 (A y B).2).1;simpa using this
theorem ZoJ {b:Zu}(h:Zcg b) (x:Int):∃row,ZeA b x=some row/\row.length=b.nodes.toNat/\∀y:Int,0<=y->(row[y.toNat]?=some true↔ZbQ b.reasons x y):=by
 have h0:=h.n0;have h1:=h.n1;have hn:b.nodes.toNat<=24:=by omega
 unfold ZeA;rw [Zi _ ⟨h0,yE⟩];have k:QT b.nodes.toNat b.reasons x (A4 b.nodes.toNat false,[x]):=⟨yG,[],rfl,yG,λy _ E=>by
  by_cases T:y.toNat<b.nodes.toNat
  .simp [T]at E
  .rw [AP (by simp;omega)]at E;simp at E,by simp [ZwV,List.countP_replicate]⟩
 refine Zuy h.ok (λg d i=>(g,d,(i:Int))) (λr=>r) ?_ ?_ (b.nodes.toNat+1) _ _ 0 k yG yE (λj z hj=>by omega)
 .intro g d i z M hi I o;have D:=(AF.1 I).1;have S:decide ((i:Int)<(d.length:Int))=true:=decide_eq_true yE;simp only[S,if_true];rw [YZ (f:=ZhE z) (λ_ s=>QT b.nodes.toNat b.reasons x s/\Zhb (g,d) s) ⟨M,.refl _⟩]
  .rw [ZiI yE]
  .intro j r s G _ _ hs;obtain ⟨p,q⟩:=hs;obtain ⟨P,O,_⟩:=ZwF h.ok o p G;refine ⟨?_,P,q.trans O⟩;obtain ⟨a,c⟩:=s;obtain ⟨v,J⟩:=q.more;simp only at J;have w:c[i]?=some z:=by rw [J,Ax D];exact I
   have V:i<c.length:=(AF.1 w).1;simp only[AC];rw [Zi _ ⟨yE,yE⟩,w,A0];unfold ZhE;by_cases e:r.for_=z
   .obtain ⟨f1,f2⟩:=h.few r G;have H:(r.for_ != z)=false:=by simp [e]
    rw [if_pos e,H];simp only[AD,if_false];rw [Zys _ yE,A0,Zi _ yE];have hd:=ZyN h.ok o G e;refine Zqd (n:=b.nodes.toNat) (R:=b.reasons) (x:=x) (l:=r.inn++r.outs) (λs=>Sum.inl s) ?_ ?_ hd (r.inn++r.outs) [] (a,c) rfl p
    .intro s u y K A E B;have C:decide ((u:Int)<((r.inn.length+r.outs.length:Nat):Int))=true:=decide_eq_true (by rw [AS]at A;omega);simp only[C,if_true,AC];rw [AS]at A;rw [Zi _ ⟨yE,yE⟩,E,A0];have m:y.toNat<s.1.length:=by rw [K.len];exact B.2
     rw [Zi _ ⟨B.1,yE⟩,AG m,A0,ZiI yE];unfold Zft;obtain ⟨t,N,_,_,W⟩:=K.row;have L:s.2.length=t.length+1:=by rw [N];simp
     by_cases F:s.1[y.toNat]=true
     .rw [if_pos F,if_pos (by rw [AG m,F])]
     .rw [if_neg F,if_neg (by rw [AG m];simpa using F),Zi _ yE]
    .intro s;have U:decide ((((r.inn++r.outs).length:Nat):Int)<((r.inn.length+r.outs.length:Nat):Int))=false:=decide_eq_false (by rw [AS];omega);simp only[U,AD,if_false]
   .have H:(r.for_ != z)=true:=by simp [e]
    rw [if_neg e,H,if_pos rfl]
 .intro g d M;simp only[Zx,AD,if_false]
theorem ZgQ {b:Zu}(h:Zcg b):Qt b=some true:=by
 unfold Qt;have h60:=h.len;rw [Zn6 h.small yE,h.valid,A0,if_pos rfl,Z1 (p:=λ_=>true) (r:=true)]
 .simp
 .intro i r c;rw [Z1 (p:=λ_=>true) (r:=.inl ())]
  .simp
  .intro j y B;obtain ⟨D,C⟩:=h.strat r c y B;obtain ⟨row,e,H,F⟩:=ZoJ h y;obtain ⟨⟨A,I⟩,_,_⟩:=h.ok r c;have G:(y==r.for_)=false:=by simpa using D
   have a:r.for_.toNat<row.length:=by omega
   have E:row[r.for_.toNat]=false:=by
    cases hb:row[r.for_.toNat]with
    |false=>rfl
    |true=>exact absurd ((F r.for_ A).1 (by rw [AG a,hb])) C
   rw [G];simp only[AD,if_false];rw [e,A0,Zi _ ⟨A,yE⟩,AG a,A0,E];rfl
/- strata -/
theorem Zmo (n i:Nat):lvN (A4 n 0) i=0:=by
 unfold lvN;by_cases hi:i<n
 .simp [hi]
 .rw [AP (by simp;omega)];rfl
theorem ZtX {b:Zu}(h:Zcg b):ZeO b=some (lvB b):=by
 obtain ⟨J,I⟩:=h.lv;have h0:=h.n0;have h1:=h.n1;unfold ZeO;rw [ZgQ h,A0,if_pos rfl,Zi _ ⟨h0,yE⟩];generalize K:b.nodes.toNat=n at *
 have k:∀(body:List Int×Int->Option ((List Int×Int) ⊕ List Int)),(∀row (i:Nat),i<=n->row.length=n->(∀j,0<=lvN row j/\lvN row j<=lvN (lvB b) j)->body (row,(i:Int))=some (.inl (Qm b.reasons row,((i+1:Nat):Int))))->(∀row,body (row,((n+1:Nat):Int))=some (.inr row))->
   ∀d i row,i+d=n+1->row.length=n->(∀j,0<=lvN row j/\lvN row j<=lvN (lvB b) j)->Ys body (row,(i:Int))=some (Zvj b.reasons d row):=by
  intro body T S d;induction d with
  |zero=>
   intro i row hi E D;obtain rfl:i=n+1:=by omega
   exact ZZ (S row)
  |succ d ih=>
   intro i row hi E D;rw [Yg (T row i yE E D)];exact ih (i+1) _ yE (by rw [Zf4];exact E) λj=>⟨AQ (D j).1 (Zb3 b.reasons row j),ZeQ J.sol (λ_ h=>h) (λj=>(D j).2) j⟩
 rw [<-ZnJ J (by have:=h.ok;rw [K]at this;exact this) (n+1) (A4 n 0) yG (λj=>by rw [Zmo];exact AI _) (λj=>by rw [Zmo];exact (I j).1) (by have:=Zwl n (lvB b) (A4 n 0);omega)];refine k _ ?_ ?_ (n+1) 0 _ yE yG (λj=>by rw [Zmo];exact ⟨AI _,(I j).1⟩)
 .intro row i hi E D;have O:decide ((i:Int)<=b.nodes)=true:=decide_eq_true yE;simp only[O,if_true];rw [YZ (f:=QC) (λ_ s=>s.length=n/\∀j,0<=lvN s j/\lvN s j<=lvN (lvB b) j) ⟨E,D⟩]
  .rw [ZiI yE];rfl
  .intro j r s H _ _ hs;obtain ⟨c,g⟩:=hs;have l:=h.ok r H;rw [K]at l;obtain ⟨⟨M,U⟩,R,L⟩:=l;refine ⟨?_,by rw [ZdW];exact c,λj=>⟨AQ (g j).1 (Zhx s r j),Zn3 J.sol H (λj=>(g j).2) j⟩⟩;have a:∀y∈r.outs,y.toNat≠r.for_.toNat:=λy A e=>(h.strat r H y A).1 (by have:=L y A;omega);rw [YZ (f:=λu y=>u.set r.for_.toNat (mx (lvN u r.for_.toNat) (lvN u y.toNat))) (λ_ u=>u.length=n/\∀j,j≠r.for_.toNat->lvN u j=lvN s j) ⟨c,λ_ _=>rfl⟩]
   .rw [YZ (f:=λu y=>u.set r.for_.toNat (mx (lvN u r.for_.toNat) (lvN u y.toNat+1))) (λ_ u=>u.length=n/\∀j,j≠r.for_.toNat->lvN u j=lvN s j)]
    .rw [Zvg yE a]
    .have e:=ZrV (row:=s) (f:=r.for_.toNat) yE r.inn (lvN s r.for_.toNat) (AI _);rw [Zz3 yE]at e;rw [e];exact ⟨by simp [c],λj B=>by rw [ZaX,if_neg λF=>B F.1]⟩
    .intro j y u A _ _ C;obtain ⟨G,N⟩:=L y A;have hy:=a y A;have hyv:=C.2 y.toNat hy;have hb1:=g y.toNat;have hb2:=I y.toNat;refine ⟨?_,by simp [C.1],λj B=>by rw [ZaX,if_neg λF=>B F.1];exact C.2 j B⟩;rw [Zi _ ⟨M,yE⟩,ZiZ yE,A0,Zi _ ⟨G,yE⟩,ZiZ yE,A0,Zv6 yE yE];rfl
   .intro j y u A _ _ C;obtain ⟨G,N⟩:=R y A;refine ⟨?_,by simp [C.1],λj B=>by rw [ZaX,if_neg λF=>B F.1];exact C.2 j B⟩;rw [Zi _ ⟨M,yE⟩,ZiZ yE,A0,Zi _ ⟨G,yE⟩,ZiZ yE,A0];rfl
 .intro row;have P:decide (((n+1:Nat):Int)<=b.nodes)=false:=decide_eq_false yE;simp only[P,AD,if_false]
theorem Zw7 {b:Zu}(h:Zcg b):Zhh b=some (lvB b):=by
 obtain ⟨F,E⟩:=h.lv;have h0:=h.n0;have h1:=h.n1;unfold Zhh;rw [Zi _ ⟨h0,yE⟩];refine Ztl F h.ok (λrow m=>(row,m)) (λrow=>row) ?_ ?_ b.nodes.toNat _ yG (λj=>by rw [Zmo];exact ⟨AI _,(E j).1⟩) (Zwl _ _ _)
 .intro row H I;simp only[if_true];rw [YZ (f:=Zdw) (λ_ s=>s.1.length=b.nodes.toNat/\∀j,0<=lvN s.1 j/\lvN s.1 j<=lvN (lvB b) j) ⟨H,I⟩];intro j r s D _ _ hs;obtain ⟨c,a⟩:=hs;obtain ⟨⟨L,M⟩,K,J⟩:=h.ok r D;obtain ⟨row,m⟩:=s;simp only at c a;refine ⟨?_,?_⟩
  .dsimp only;rw [Zi _ ⟨L,yE⟩,ZiZ yE,A0];rw [Zeh (f:=λu y=>mx u (lvN row y.toNat)) λj y u C=>by
    obtain ⟨B,G⟩:=K y C;rw [Zi _ ⟨B,yE⟩,ZiZ yE,A0];rfl]
   rw [Zeh (f:=λu y=>mx u (lvN row y.toNat+1)) λj y u C=>by
    obtain ⟨B,G⟩:=J y C;have hb1:=a y.toNat;have hb2:=E y.toNat;rw [Zi _ ⟨B,yE⟩,ZiZ yE,A0,Zv6 yE yE];rfl]
   show (if decide (lvN row r.for_.toNat<ZjA row r)=true then some (Sum.inl (row.set r.for_.toNat (ZjA row r),true)) else some (Sum.inl (row,m)))=some (Sum.inl (Zdw (row,m) r))
   unfold Zdw;by_cases A:lvN row r.for_.toNat<ZjA row r
   .rw [if_pos (decide_eq_true A),if_pos A];rfl
   .rw [if_neg (by simpa using A),if_neg A]
  .unfold Zdw;by_cases A:lvN row r.for_.toNat<ZjA row r
   .rw [if_pos A];exact ⟨by rw [ZdW];exact c,λj=>⟨AQ (a j).1 (Zhx row r j),Zn3 F.sol D (λj=>(a j).2) j⟩⟩
   .rw [if_neg A];exact ⟨c,a⟩
 .intro row;rfl
end
section
open Classical
theorem Zwz {n k:Nat}{row:List Int}(h:RIn n row k) {y:Int}(B:0<=y) (c:y.toNat<n):atI row y=some (rdN row y)/\row[y.toNat]?=some (rdN row y):=by
 obtain ⟨v,A,_⟩:=h.val y.toNat c;have e:row[y.toNat]?=some (rdN row y):=by unfold rdN;rw [A];rfl
 refine ⟨?_,e⟩;unfold atI;rw [if_pos B,e]
def Zq4 (row:List Int) (k:Nat) (y:Int):Bool:=decide (0<=rdN row y/\rdN row y<(k:Int))
def ZqE (row:List Int) (y:Int):Bool:=decide (rdN row y<0)
theorem ZtK {ρ:Type}{n k:Nat}{row:List Int}(h:RIn n row k) {l:List Int}(E:∀y∈l,0<=y/\y.toNat<n) {fin:Unit->Option ρ}{z:ρ}{body:Nat->Int->Unit->Option (Unit ⊕ ρ)}
  (F:∀i y u,body i y u=(atI row y).bind λx=>if decide (x<0)=true then some (.inr z) else if decide ((k:Int)<=x)=true then some (.inr z) else some (.inl ())):Zm body fin l 0 ()=if l.all (Zq4 row k)=true then fin () else some z:=by
 rw [Z1 (p:=Zq4 row k) (r:=z)];intro i y D;obtain ⟨C,B⟩:=E y D;rw [F,(Zwz h C B).1,A0];unfold Zq4;by_cases A:rdN row y<0
 .rw [if_pos (decide_eq_true A),decide_eq_false yE];rfl
 .rw [if_neg (by simpa using A)];by_cases c:(k:Int)<=rdN row y
  .rw [if_pos (decide_eq_true c),decide_eq_false yE];rfl
  .rw [if_neg (by simpa using c),decide_eq_true yE];rfl
theorem ZsV {ρ:Type}{n k:Nat}{row:List Int}(h:RIn n row k) {l:List Int}(D:∀y∈l,0<=y/\y.toNat<n) {fin:Unit->Option ρ}{z:ρ}{body:Nat->Int->Unit->Option (Unit ⊕ ρ)}
  (E:∀i y u,body i y u=(atI row y).bind λx=>if decide (0<=x)=true then some (.inr z) else some (.inl ())):Zm body fin l 0 ()=if l.all (ZqE row)=true then fin () else some z:=by
 rw [Z1 (p:=ZqE row) (r:=z)];intro i y C;obtain ⟨B,A⟩:=D y C;rw [E,(Zwz h B A).1,A0];unfold ZqE;by_cases c:0<=rdN row y
 .rw [if_pos (decide_eq_true c),decide_eq_false yE];rfl
 .rw [if_neg (by simpa using c),decide_eq_true yE];rfl
theorem Zfu {row:List Int}{k:Nat}{r:Zg}:(r.inn.all (Zq4 row k)=true/\r.outs.all (ZqE row)=true)↔ZjZ row k r:=by
 simp only[Ab,Zq4,ZqE,decide_eq_true_eq];exact Iff.rfl
theorem ZqT {n k:Nat}{row:List Int}(h:RIn n row k) {r:Zg}(B:OkN n r):ZbD r row (k:Int)=some (decide (ZjZ row k r)):=by
 unfold ZbD;rw [ZtK h B.2.1 λi y u=>rfl,ZsV h B.2.2 λi y u=>rfl];by_cases A:r.inn.all (Zq4 row k)=true
 .rw [if_pos A];by_cases c:r.outs.all (ZqE row)=true
  .rw [if_pos c,decide_eq_true (Zfu.1 ⟨A,c⟩)]
  .rw [if_neg c,decide_eq_false λh=>c (Zfu.2 h).2]
 .rw [if_neg A,decide_eq_false λh=>A (Zfu.2 h).1]
theorem Zr1 {n k:Nat}{row:List Int}(h:RIn n row k) {l:List Int}(c:∀y∈l,0<=y/\y.toNat<n):Zdn l row (k:Int)=some (l.all (Zq4 row k)):=by
 unfold Zdn;rw [ZtK h c λi y u=>rfl];cases l.all (Zq4 row k)<;>rfl
theorem Zvf {n k:Nat}{row:List Int}(h:RIn n row k) {l:List Int}(c:∀y∈l,0<=y/\y.toNat<n):Zf6 l row=some (l.all (ZqE row)):=by
 unfold Zf6;rw [ZsV h c λi y u=>rfl];cases l.all (ZqE row)<;>rfl
/- the program's rounds -/
theorem ZzX {n:Nat}{L:List Int}{ρ:Type}{body:List Int×Int×Int->Option ((List Int×Int×Int) ⊕ ρ)}{r:ρ}(E:∀i,0<=lvN L i/\lvN L i<=(n:Int))
  (H:∀k row u,k<n->row.length=n->body (row,(k:Int),u)=some (.inl (row.set k (-1),((k+1:Nat):Int),mx u (lvN L k))))
  (G:∀u,0<=u->u<=(n:Int)->(∀i,i<n->lvN L i<=u)->body (A4 n (-1),(n:Int),u)=some (.inr r)):
  ∀m k row u,k+m=n->row.length=n->(∀i,i<k->row[i]?=some (-1))->0<=u->u<=(n:Int)->(∀i,i<k->lvN L i<=u)->Ys body (row,(k:Int),u)=some r:=by
 intro m;induction m with
 |zero=>
  intro k row u F C A D c B;obtain rfl:k=n:=by omega
  have:row=A4 k (-1):=by
   apply List.ext_getElem?;intro i;by_cases hi:i<k
   .rw [A i hi];simp [hi]
   .rw [AP yE,AP (by simp;omega)]
  rw [this];exact ZZ (G u D c B)
 |succ m ih=>
  intro k row u F C A D c B;rw [Yg (H k row u yE C)];have hx:=Zzt u (lvN L k);refine ih (k+1) _ _ yE (by simp [C]) (λi hi=>?_) yE (ZCN c (E k).2) λi hi=>?_
  .rw [List.getElem?_set];by_cases e:k=i
   .rw [if_pos e,if_pos yE]
   .rw [if_neg e];exact A i yE
  .by_cases e:i=k
   .rw [e];exact hx.2
   .exact AQ (B i yE) hx.1
theorem ZA6 {b:Zu}(h:Zcg b) {t:Nat}(A:∀i,i<b.nodes.toNat->lvN (lvB b) i<=(t:Int)):(XS b.reasons (lvB b) b.nodes.toNat (AE 0 (t+1)) (A4 b.nodes.toNat (-1),0)).1=rdB b:=by
 unfold rdB;rw [<-Ai,ZsO (a:=t+1) (b:=b.nodes.toNat)]
 .intro r c;have:=A r.for_.toNat (h.ok r c).1.2;omega
 .intro r c;have:=(h.lv.2 r.for_.toNat).2;have:=(h.ok r c).1.2;omega
theorem Zph {ρ:Type}{n k:Nat}{row:List Int}(C:row.length=n) {l:List Int}(B:∀x∈l,0<=x/\x.toNat<n) {fin:List Int->Option ρ}{body:Nat->Int->List Int->Option (List Int ⊕ ρ)}
  (D:∀i x s,body i x s=chk (0<=x/\x<(s.length:Int)) ((s[AA x]?).bind λ_=>some (.inl (List.set s (AA x) (k:Int))))):Zm body fin l 0 row=fin (Zdu row l (k:Int)):=by
 rw [YZ (f:=λs x=>s.set x.toNat (k:Int)) (λ_ s=>s.length=n) C]
 .rfl
 .intro j x s A _ _ hs;obtain ⟨c,E⟩:=B x A;refine ⟨?_,by simp [hs]⟩;rw [D,Zi _ ⟨c,yE⟩,AG (show x.toNat<s.length by omega),A0]
theorem ZqD {n:Nat}{R:List Zg}(B:∀r∈R,OkN n r) {L:List Int}{s:Int}{row:List Int}{k:Nat}:∀x∈YH R L s row k,0<=x/\x.toNat<n:=λx c=>by
 obtain ⟨r,A,rfl,_⟩:=ZcG.1 c;exact (B r A).1
theorem Zoa {b:Zu}(h:Zcg b) {ρ:Type}{row:List Int}{k s:Nat}(D:RIn b.nodes.toNat row k) {fin:List Int->Option ρ}{body:Nat->Zg->List Int->Option (List Int ⊕ ρ)}
  (G:∀i r a,body i r a=chk (0<=r.for_/\r.for_<(((lvB b).length:Nat):Int)) (((lvB b)[(AA r.for_)]?).bind λc=>
         if (c==(s:Int))=true then
          chk (r.for_<(row.length:Int)) <|
          (row[(AA r.for_)]?).bind λd=>
          if (decide (d<0))=true then
           (ZbD r row (k:Int)).bind λe=>
           if e=true then
            chk (a.length+1<=1073741824) <|
            some (.inl (a++[r.for_]))
           else
            some (.inl a)
          else
           some (.inl a)
         else
          some (.inl a))):Zm body fin b.reasons 0 []=fin (YH b.reasons (lvB b) (s:Int) row k):=by
 have hLl:=h.lv.1.len;have h60:=h.len;rw [YL (g:=λr=>if lvN (lvB b) r.for_.toNat=(s:Int)/\rdN row r.for_<0/\ZjZ row k r then some r.for_ else none)]
 .rfl
 .intro j r a F H;simp only[Ay,AW]at H;have f:=h.ok r F;obtain ⟨E,I⟩:=f.1;rw [G,Zi _ ⟨E,yE⟩,ZiZ yE,A0];by_cases C:lvN (lvB b) r.for_.toNat=(s:Int)
  .rw [if_pos (by simpa using C),Zi _ (by rw [D.len];omega),(Zwz D E I).2,A0];by_cases c2:rdN row r.for_<0
   .rw [if_pos (decide_eq_true c2),ZqT D f,A0];by_cases B:ZjZ row k r
    .rw [if_pos (decide_eq_true B),Zi _ yE,if_pos ⟨C,c2,B⟩];rfl
    .rw [if_neg (by simpa using B),if_neg λA=>B A.2.2];simp
   .rw [if_neg (by simpa using c2),if_neg λA=>c2 A.2.1];simp
  .rw [if_neg (by simpa using C),if_neg λA=>C A.1];simp
theorem Zxd {b:Zu}(h:Zcg b):Zg7 b=some (rdB b):=by
 obtain ⟨G,E⟩:=h.lv;have h0:=h.n0;have h1:=h.n1;have h60:=h.len;unfold Zg7;rw [Zw7 h,A0,Zi _ ⟨h0,yE⟩];have a:∀i,0<=lvN (lvB b) i/\lvN (lvB b) i<=(b.nodes.toNat:Int):=λi=>by have:=E i;omega
 refine ZzX (n:=b.nodes.toNat) (L:=lvB b) a ?_ ?_ b.nodes.toNat 0 _ 0 yE yG (λi hi=>by omega) (AI _) yE (λi hi=>by omega)
 .intro k row u K J;have B:decide ((k:Int)<(b.nodes.toNat:Int))=true:=decide_eq_true yE;simp only[B,if_true,AC];have:=G.len;rw [Zi _ ⟨yE,yE⟩,AG (show k<row.length by omega),A0,Zi _ yE,ZiZ yE,A0,ZiI yE];rfl
 .intro u I H D;simp only[Zx,AD,if_false];obtain ⟨t,rfl⟩:∃t:Nat,u=(t:Int):=⟨u.toNat,yE⟩
  rw [<-ZA6 h D];refine ZsP (top:=t) h.ok (λrow k s=>(row,(k:Int),(s:Int))) (λrow=>Sum.inr row) ?_ ?_ ?_ (t+1) 0 _ 0 yE (Zip _)
  .intro row k s A hs C;have B:decide ((s:Int)<=(t:Int))=true:=decide_eq_true yE;simp only[B,if_true];rw [Zoa h A λi r c=>rfl];have d:((((YH b.reasons (lvB b) (s:Int) row k).length:Nat):Int)==0)=false:=by
    have:(YH b.reasons (lvB b) (s:Int) row k).length≠0:=λe=>C (Ac e);simpa using this
   simp only[d,AD,if_false];rw [Zph A.len (ZqD h.ok) λi x s=>rfl,ZiI (by have:=A.few;omega)]
  .intro row k s A hs C;have B:decide ((s:Int)<=(t:Int))=true:=decide_eq_true yE;simp only[B,if_true];rw [Zoa h A λi r c=>rfl,C,ZiI yE];rfl
  .intro row k A;have F:decide (((t+1:Nat):Int)<=(t:Int))=false:=decide_eq_false yE;simp only[F,AD,if_false]
/- the reference's rounds -/
def ZkA (n:Nat) (R:List Zg) (L:List Int) (s:Int) (row:List Int) (k x:Nat):Option Int:=if lvN L x=s/\rdN row (x:Int)<0/\R.any (λr=>decide (r.for_=(x:Int)/\ZjZ row k r))=true then some (x:Int) else none
theorem Zqy {n:Nat}{R:List Zg}(F:∀r∈R,OkN n r) {L:List Int}{s:Int}{row:List Int}{k:Nat}{x:Int}:x∈(AE 0 n).filterMap (ZkA n R L s row k)↔x∈YH R L s row k:=by
 rw [ZcG,Ak];constructor
 .rintro ⟨i,I,hi⟩;unfold ZkA at hi;split at hi
  .rename_i E;obtain rfl:=Ad hi;obtain ⟨D,C,B⟩:=E;obtain ⟨r,c,A⟩:=Az.1 B;rw [decide_eq_true_iff]at A;exact ⟨r,c,A.1,by simpa using D,C,A.2⟩
  .simp at hi
 .rintro ⟨r,c,rfl,D,C,B⟩;obtain ⟨H,G⟩:=(F r c).1;have e:(r.for_.toNat:Int)=r.for_:=Int.toNat_of_nonneg H;refine ⟨r.for_.toNat,List.mem_range'.2 ⟨r.for_.toNat,G,yE⟩,?_⟩;unfold ZkA;rw [if_pos ⟨D,by rw [e];exact C,Az.2 ⟨r,c,by rw [decide_eq_true_iff,e];exact ⟨rfl,B⟩⟩⟩,e]
theorem ZlU {b:Zu}(h:Zcg b) {row:List Int}{k s:Nat}(F:RIn b.nodes.toNat row k):ZcF b (lvB b) (s:Int) row (k:Int)=some ((AE 0 b.nodes.toNat).filterMap (ZkA b.nodes.toNat b.reasons (lvB b) (s:Int) row k)):=by
 obtain ⟨N,U⟩:=h.lv;have h0:=h.n0;have h1:=h.n1;unfold ZcF;have c:∀(body:List Int×Int->Option ((List Int×Int) ⊕ List Int)) (G:Nat->Option Int),(∀a (i:Nat),i<b.nodes.toNat->a.length<=24->body (a,(i:Int))=some (.inl (a++(G i).toList,((i+1:Nat):Int))))->(∀a,body (a,(b.nodes.toNat:Int))=some (.inr a))->
   ∀d i a,i+d=b.nodes.toNat->a.length<=i->Ys body (a,(i:Int))=some (a++(AE i d).filterMap G):=by
  intro body G T S d;induction d with
  |zero=>
   intro i a hi J;obtain rfl:i=b.nodes.toNat:=by omega
   rw [ZZ (S a)];simp
  |succ d ih=>
   intro i a hi J;rw [Yg (T a i yE yE),ih (i+1) _ yE (by rw [AS];cases G i<;>simp<;>omega),List.range'_succ,List.filterMap_cons]
   cases G i<;>simp
 refine c _ (ZkA b.nodes.toNat b.reasons (lvB b) (s:Int) row k) ?_ ?_ b.nodes.toNat 0 [] yE yG
 .intro a i hi J;have L:decide ((i:Int)<b.nodes)=true:=decide_eq_true yE;have hLl:=N.len;have R:atI (lvB b) (i:Int)=some (lvN (lvB b) i):=by rw [Y3];exact ZiZ yE
  have e2:=(Zwz F (y:=(i:Int)) yE (by simpa using hi)).1;simp only[L,if_true];rw [R,A0,e2,ZiI yE];unfold ZkA;by_cases E:lvN (lvB b) i=(s:Int)
  .have I:(lvN (lvB b) i != (s:Int))=false:=by simp [E]
   simp only[I,AD,if_false,A0];by_cases c2:rdN row (i:Int)<0
   .have H:decide (0<=rdN row (i:Int))=false:=decide_eq_false yE;simp only[H,AD,if_false];rw [Zbf (p:=λr=>decide (r.for_=(i:Int)/\ZjZ row k r)) (r:=.inl (a++[(i:Int)],((i+1:Nat):Int)))]
    .by_cases B:b.reasons.any (λr=>decide (r.for_=(i:Int)/\ZjZ row k r))=true
     .rw [if_pos B,if_pos ⟨E,c2,B⟩];rfl
     .rw [if_neg B,if_neg λA=>B A.2.2];simp
    .intro j r K;obtain ⟨V,P,O⟩:=h.ok r K;by_cases B:r.for_=(i:Int)
     .rw [if_pos (by simpa using B),Zr1 F P,A0];by_cases D:r.inn.all (Zq4 row k)=true
      .rw [if_pos D,Zvf F O,A0];by_cases C:r.outs.all (ZqE row)=true
       .rw [if_pos C,Zi _ yE,decide_eq_true ⟨B,Zfu.1 ⟨D,C⟩⟩];rfl
       .rw [if_neg C,decide_eq_false λA=>C (Zfu.2 A.2).2];rfl
      .rw [if_neg D,decide_eq_false λA=>D (Zfu.2 A.2).1];rfl
     .rw [if_neg (by simpa using B),decide_eq_false λA=>B A.1];rfl
   .have H:decide (0<=rdN row (i:Int))=true:=decide_eq_true yE;simp only[H,if_true];rw [if_neg λA=>c2 A.2.1];simp
  .have I:(lvN (lvB b) i != (s:Int))=true:=by simp [E]
   simp only[I,if_true];rw [if_neg λA=>E A.1];simp
 .intro a;have M:decide ((b.nodes.toNat:Int)<b.nodes)=false:=decide_eq_false yE;simp only[M,AD,if_false]
theorem ZsN {b:Zu}(h:Zcg b):Zeo b=some (rdB b):=by
 have h0:=h.n0;have h1:=h.n1;unfold Zeo;rw [ZgQ h,A0,if_pos rfl,ZtX h,A0];have c:∀(body:List Int×Int->Option ((List Int×Int) ⊕ List Int)),(∀(i:Nat),i<b.nodes.toNat->body (A4 i (-1),(i:Int))=some (.inl (A4 i (-1)++[-1],((i+1:Nat):Int))))->body (A4 b.nodes.toNat (-1),(b.nodes.toNat:Int))=some (.inr (rdB b))->
   ∀d i,i+d=b.nodes.toNat->Ys body (A4 i (-1),(i:Int))=some (rdB b):=by
  intro body D C d;induction d with
  |zero=>
   intro i hi;obtain rfl:i=b.nodes.toNat:=by omega
   exact ZZ C
  |succ d ih=>
   intro i hi;rw [Yg (D i yE),<-ih (i+1) yE,List.replicate_succ']
 refine c _ ?_ ?_ b.nodes.toNat 0 yE
 .intro i hi;have B:decide ((i:Int)<b.nodes)=true:=decide_eq_true yE;simp only[B,if_true];rw [Zi _ (by simp;omega),ZiI yE]
 .have E:decide ((b.nodes.toNat:Int)<b.nodes)=false:=decide_eq_false yE;simp only[E,AD,if_false];have a:∀(body:List Int×Int×Int->Option ((List Int×Int×Int) ⊕ ((List Int×Int) ⊕ List Int))),(∀row (k s:Nat),RIn b.nodes.toNat row k->s<b.nodes.toNat->body (row,(k:Int),(s:Int))=some (.inl ((YY b.reasons (lvB b) (s:Int) b.nodes.toNat row k).1,(((YY b.reasons (lvB b) (s:Int) b.nodes.toNat row k).2:Nat):Int),((s+1:Nat):Int))))->(∀row (k:Nat),body (row,(k:Int),(b.nodes.toNat:Int))=some (.inr (.inr row)))->
    ∀d s row k,s+d=b.nodes.toNat->RIn b.nodes.toNat row k->Ys body (row,(k:Int),(s:Int))=some (.inr (XS b.reasons (lvB b) b.nodes.toNat (AE s d) (row,k)).1):=by
   intro body D C d;induction d with
   |zero=>
    intro s row k hs A;obtain rfl:s=b.nodes.toNat:=by omega
    exact ZZ (C row k)
   |succ d ih=>
    intro s row k hs A;rw [Yg (D row k s A yE)];exact ih (s+1) _ _ yE (Zeg h.ok b.nodes.toNat row k A (by have:=A.few;omega)).1
  have e:rdB b=(XS b.reasons (lvB b) b.nodes.toNat (AE 0 b.nodes.toNat) (A4 b.nodes.toNat (-1),0)).1:=by unfold rdB;rw [Ai]
  rw [e];refine a _ ?_ ?_ b.nodes.toNat 0 _ 0 yE (Zip _)
  .intro row k s A hs;have B:decide ((s:Int)<b.nodes)=true:=decide_eq_true yE;simp only[B,if_true];rw [ZlU h A,A0,ZiI yE];refine ZvC (s:=(s:Int)) h.ok (λrow k l=>(row,l,(k:Int))) (λrow k=>Sum.inl (row,(k:Int),((s+1:Nat):Int))) (λrow k=>(AE 0 b.nodes.toNat).filterMap (ZkA b.nodes.toNat b.reasons (lvB b) (s:Int) row k)) (λrow k x _=>Zqy h.ok) ?_ ?_ b.nodes.toNat row k A (by have:=A.few;omega)
   .intro row k A G H;have f:decide (0<((((AE 0 b.nodes.toNat).filterMap (ZkA b.nodes.toNat b.reasons (lvB b) (s:Int) row k)).length:Nat):Int))=true:=by
     have:((AE 0 b.nodes.toNat).filterMap (ZkA b.nodes.toNat b.reasons (lvB b) (s:Int) row k)).length≠0:=λe=>G (Ac e);exact decide_eq_true yE
    simp only[f,if_true];rw [Zph A.len (λx F=>ZqD h.ok x (Zqy h.ok |>.1 F)) λi x s=>rfl,ZiI (by have:=A.few;omega),ZlU h H,A0]
   .intro row k A;rfl
  .intro row k;simp only[E,AD,if_false]
end
section
open Classical
theorem ZlF {ρ:Type}{l:List Int}(A:l.length<=1000) {fin:List Bool->Option ρ}{body:Nat->Int->List Bool->Option (List Bool ⊕ ρ)}(c:∀i x s,body i x s=chk (s.length+1<=1073741824) (some (.inl (s++[decide (0<=x)])))):Zm body fin l 0 []=fin (l.map λx=>decide (0<=x)):=by
 rw [QB (g:=λx=>decide (0<=x))]
 .rfl
 .intro j x s _ hs;simp at hs;rw [c,Zi _ yE]
theorem Zyr {b:Zu}(h:Zcg b):Zh0 b=some ((rdB b).map λx=>decide (0<=x)):=by
 unfold Zh0;have:=h.n1;rw [Zxd h,A0,ZlF (by rw [h.rd];omega) λi x s=>rfl]
theorem Zso {b:Zu}(h:Zcg b):ZeN b=some ((rdB b).map λx=>decide (0<=x)):=by
 unfold ZeN;have:=h.n1;rw [ZsN h,A0,ZlF (by rw [h.rd];omega) λi x s=>rfl]
theorem Znn {ρ:Type}{fin:List Zd->Option ρ}{body:Nat->Bool->List Zd->Option (List Zd ⊕ ρ)}{F:List Zd}(D:∀f∈F,f.args.length<=1048576) (E:F.length<=1000)
  (C:∀i x s,body i x s=if x=true then (atI F (i:Int)).bind λf=>(Yd f).bind λg=>chk (s.length+1<=1073741824) (some (.inl (s++[g]))) else some (.inl s)):
  ∀(a:List Zd) (l:List Int) (b c:List Zd),F=b++a->l.length=a.length->c.length<=b.length->Zm body fin (l.map λx=>decide (0<=x)) b.length c=fin (c++XM a l)
 | [],[],b,c,_,_,_=>by simp [Zm,XM]
 | [],_::_,_,_,_,e,_=>by simp at e
 |_::_,[],_,_,_,e,_=>by simp at e
 |f::a,v::l,b,c,e,el,ha=>by
  have B:F[b.length]?=some f:=by rw [e];simp
  have hlt:=(AF.1 B).1;have ih:=λd G=>Znn (fin:=fin) D E C a l (b++[f]) d (by rw [e];simp) (by simpa using el) G;simp only[AS,B1]at ih;rw [Al];unfold XM;by_cases A:0<=v
  .rw [ZQ (s':=c++[f]) (by
    rw [C,if_pos (decide_eq_true A),Y3,B,A0,Z6 _ (D f (AJ B)),A0,Zi _ yE]),ih _ (by simp;omega),if_pos A]
   simp
  .rw [ZQ (s':=c) (by rw [C,if_neg (by simpa using A)]),ih _ yE,if_neg A]
theorem ZmI {ρ:Type}{fin:List Zd->Option ρ}{body:Nat->Zd->List Zd->Option (List Zd ⊕ ρ)}{L:List Bool}{N:Nat}(F:N<=1000) {z:List Zd->ρ}
  (D:∀i x s,body i x s=if decide ((i:Int)<(L.length:Int))=true then chk (0<=(i:Int)/\(i:Int)<(L.length:Int)) ((L[i]?).bind λv=>if v=true then (XB x).bind λg=>chk (s.length+1<=1073741824) (some (.inl (s++[g]))) else some (.inl s)) else some (.inr (z s))):
  ∀(a:List Zd) (l:List Int) (b:List Bool) (c:List Zd),(∀f∈a,f.args.length<=1048576)->L=b++(l.map λx=>decide (0<=x))->l.length=a.length->c.length<=b.length->b.length+a.length<=N->Zm body fin a b.length c=fin (c++XM a l)
 | [],[],b,c,_,_,_,_,_=>by simp [Zm,XM]
 | [],_::_,_,_,_,_,e,_,_=>by simp at e
 |_::_,[],_,_,_,_,e,_,_=>by simp at e
 |f::a,v::l,b,c,hF,e,el,ha,hn=>by
  have C:L[b.length]?=some (decide (0<=v)):=by rw [e];simp
  have hlt:=(AF.1 C).1;have ih:=λd G=>ZmI (fin:=fin) F D a l (b++[decide (0<=v)]) d (λg E=>hF g (by simp [E])) (by rw [e];simp) (by simpa using el) G (by simp at hn ⊢;omega);simp only[AS,B1]at ih;simp only[AT]at hn;have B:∀s,body b.length f s=if 0<=v then chk (s.length+1<=1073741824) (some (.inl (s++[f]))) else some (.inl s):=λs=>by
   rw [D,if_pos (decide_eq_true yE),Zi _ ⟨yE,yE⟩,C,A0];by_cases A:0<=v
   .rw [if_pos (decide_eq_true A),if_pos A,Xx _ (hF f yG),A0]
   .rw [if_neg (by simpa using A),if_neg A]
  unfold XM;by_cases A:0<=v
  .rw [ZQ (s':=c++[f]) (by rw [B,if_pos A,Zi _ yE]),ih _ (by simp;omega),if_pos A];simp
  .rw [ZQ (s':=c) (by rw [B,if_neg A]),ih _ yE,if_neg A]
theorem Zsp {b:Zu}(h:Zcg b) {F:List Zd}(c:∀f∈F,f.args.length<=1048576) (A:b.nodes=(F.length:Int)):Zd6 F b=some (XM F (rdB b)):=by
 have h1:=h.n1;have hr:=h.rd;unfold Zd6;rw [Zyr h,A0];exact Znn c yE (λi x s=>rfl) F (rdB b) [] [] rfl yE (A5 _)
theorem ZAp {b:Zu}(h:Zcg b) {F:List Zd}(c:∀f∈F,f.args.length<=1048576) (A:b.nodes=(F.length:Int)):ZkH F b=some (XM F (rdB b)):=by
 have h1:=h.n1;have hr:=h.rd;unfold ZkH;rw [Zso h,A0];exact ZmI (N:=F.length) yE (λi x s=>rfl) F (rdB b) [] [] c rfl yE (A5 _) yG
theorem Yf.args {R:List Zf}{base F:List Zd}(h:Yf R base F):∀f∈F,f.args.length<=1048576:=λf c=>by
 have:=YD (h.good.ok f c);omega
end
section
open Classical
theorem ZBv {a b:List Zd}(h:a.Sublist b) (c:ZgV b):ZgV a:=List.Pairwise.sublist h c
theorem Zk5:∀{F:List Zd}{l:List Int},(XM F l).Sublist F
 | [],l=>by simp [XM]
 |f::F,[]=>by simp [XM]
 |f::F,v::l=>by
  unfold XM;split
  .exact Zk5.cons_cons f
  .exact Zk5.cons f
/- reasons, of the smaller set -/
end
section
open Classical
def ZgN (R:List Zf):Prop:=∀r∈R,∀x∈r.cond,¬x.kind=2
theorem ZAA {R:List Zf}(B:ZgN R) {r:Zf}(A:r∈R) (t:Zt):ZkE r t=[]:=by
 unfold ZkE;have:r.cond.filter (λx=>x.kind==2)=[]:=List.filter_eq_nil_iff.2 λx c=>by simpa using B r A x c
 rw [this];rfl
theorem Zur {R:List Zf}(E:ZgN R) {base F:List Zd}(h:Yf R base F) (b:(YG R F base).length<=60):XM F (rdB { nodes:=(F.length:Int),reasons:=YG R F base })=F:=by
 have hM:=ZAy h b;have B:ZgV (XM F (rdB { nodes:=(F.length:Int),reasons:=YG R F base })):=ZBv Zk5 h.good.asc;refine ZhD B h.good.asc λf=>⟨λc=>Zqz.2 f c,λc=>h.good.low _ ⟨B,hM.giv,λr A t C a D=>hM.clos r A t C (by rw [ZAA E A];simp) a D⟩ f c⟩
end
section
open Classical
theorem Zpf {s:Zr}{g:Zd}(c:g≠s.fact):∀M:List Zr,Xl (Zfo s M) g=Xl M g
 | []=>if_neg λe=>c e.symm
 |x::l=>by
  simp only[Zfo];split
  .show (if s.fact=g then s.time else Xl (x::l) g)=_
   rw [if_neg λe=>c e.symm]
  .show (if x.fact=g then x.time else Xl (Zfo s l) g)=(if x.fact=g then x.time else Xl l g)
   rw [Zpf c l]
theorem Zyk {M:List Zr}(G:(M.map (·.time)).Nodup) {g g':Zd}(h:g∈M.map (·.fact)) (H:g'∈M.map (·.fact)) (e:Xl M g=Xl M g'):g=g':=by
 obtain ⟨x,F,J,L⟩:=Zit h;obtain ⟨y,E,I,K⟩:=Zit H;obtain ⟨i,hi,rfl⟩:=Ag F;obtain ⟨j,A,rfl⟩:=Ag E;have D:M[i].time=M[j].time:=by rw [<-L,<-K,e]
 have d:∀a b:Nat,(C:a<M.length)->(B:b<M.length)->a<b->M[a].time≠M[b].time:=λa b C B f=>by
  have:=AR.1 G a b (by simpa using C) (by simpa using B) f;simpa using this
 rcases Ae i j with c|rfl|c
 .exact absurd D (d i j hi A c)
 .rw [<-J,<-I]
 .exact absurd D.symm (d j i A hi c)
theorem Zsn {α β:Type}{f:α->β}{S:α->Prop}(A:∀a b,S a->S b->f a=f b->a=b):∀{l m:List α},(∀a∈l,S a)->(∀a∈m,S a)->l.map f=m.map f->l=m
 | [],[],_,_,_=>rfl
 | [],_::_,_,_,h=>by simp at h
 |_::_,[],_,_,h=>by simp at h
 |a::l,b::m,hl,hm,h=>by
  simp only[Al,B2]at h;rw [A a b (hl a yG) (hm b yG) h.1,Zsn A (λx c=>hl x (by simp [c])) (λx c=>hm x (by simp [c])) h.2]
theorem ZzU {l:List Zt}(h:Zm6 l) {t u:Zt}(B:t∈l) (A:u∈l) (e:t.facts=u.facts):t=u:=by
 obtain ⟨i,hi,rfl⟩:=Ag B;obtain ⟨j,c,rfl⟩:=Ag A;rcases Ae i j with a|rfl|a
 .exact absurd e (AR.1 h i j hi c a)
 .rfl
 .exact absurd e.symm (AR.1 h j i c hi a)
def Zch (e:Zo):Int×Bool×(List Zf)×(List Zr)×(List ZK)×(List Yp):=(e.clock,e.halted,e.rules,e.memory,e.fired,e.log)
def ZiB (n:ByteArray) (b:List Zs) (e:Zo) (a:Zw):Zo:=
 if a.kind=1 then if (XT (Xc a.pattern b)).1∈e.memory.map (·.fact) then e else if e.memory.length<24 then { rules:=e.rules,memory:=Zfo { fact:=(XT (Xc a.pattern b)).1,time:=e.clock+1 } e.memory,clock:=e.clock+1,fired:=e.fired,halted:=e.halted,log:=e.log++[{ kind:=4,rule:=n,fact:=(XT (Xc a.pattern b)).1 }] } else e else if a.kind=2 then if (XT (Xc a.pattern b)).1∈e.memory.map (·.fact) then { rules:=e.rules,memory:=e.memory.filter λy=>decide (y.fact≠(XT (Xc a.pattern b)).1),clock:=e.clock,fired:=e.fired,halted:=e.halted,log:=e.log++[{ kind:=5,rule:=n,fact:=(XT (Xc a.pattern b)).1 }] } else e else if a.kind=3 then { rules:=e.rules,memory:=e.memory,clock:=e.clock,fired:=e.fired,halted:=true,log:=e.log++[{ kind:=6,rule:=n,fact:={ rel:=⟨#[]⟩,args:=[] } }] } else e
theorem Zu8 (n:ByteArray) (b:List Zs) (e:Zo) (a:Zw):(ZiB n b e a).fired=e.fired:=by
 unfold ZiB
 repeat' split
 all_goals rfl
theorem Zi7 (n:ByteArray) (b:List Zs):∀(A:List Zw) (e:Zo),(A.foldl (ZiB n b) e).fired=e.fired
 | [],e=>rfl
 |a::A,e=>by rw [AK,Zi7 n b A,Zu8]
section
variable {R:List Zf} {c l f:Nat} {e:Zo}
theorem Zp8 {r:Zf}(c:YE r=true):Qa r.name=true:=by
 unfold YE at c;simp only[AH]at c;exact c.1.1.1.1.1.1.1.1.1
theorem ZEc {r:Zf}{F:List Zd}{t:Zt}(B:YE r=true) (I:Zi2 r.cond F t) {a:Zw}(E:a∈r.thn) (h:EB R c l f e):EB R (c+1) (l+1) f (ZiB r.name t.binding e a):=by
 have b:EB R (c+1) (l+1) f e:=h.more yE yE (A5 _);have hname:=Zp8 B;obtain ⟨K,G⟩:=h.m24;unfold ZiB;split
 .rename_i H;have hx:=Zpi B I E H;split
  .exact b
  .rename_i A;split
   .rename_i C;exact h.add hx A C (.inr rfl) (ZvV (.inl rfl) hname hx)
   .exact b
 .split
  .split
   .rename_i A;obtain ⟨y,D,J⟩:=Am.1 A;have hx:=(G y D).1;rw [J]at hx;exact (h.drop A (.inr rfl) (ZvV (.inr rfl) hname hx)).more yE (A5 _) (A5 _)
   .exact b
  .split
   .exact (h.write (.inr rfl) (ZwI (.inr rfl) hname) true).more yE (A5 _) (A5 _)
   .exact b
theorem Zqc {ρ:Type}{body:Nat->Zw->(Int×Bool×(List Zf)×(List Zr)×(List ZK)×(List Yp))->Option ((Int×Bool×(List Zf)×(List Zr)×(List ZK)×(List Yp)) ⊕ ρ)}{fin:(Int×Bool×(List Zf)×(List Zr)×(List ZK)×(List Yp))->Option ρ}{r:Zf}{F:List Zd}{t:Zt}(H:YE r=true) (G:Zi2 r.cond F t)
  (J:∀i a e,body i a (Zch e)=(Xi a.pattern t.binding).bind λv=>
   if (a.kind==1)=true then
    (Xg e.memory v.1).bind λg=>
    if g=true then some (.inl (Zch e)) else
    if (decide ((e.memory.length:Int)<24))=true then (Xp e v.1 4 r.name).bind λj=>some (.inl (Zch j)) else some (.inl (Zch e))
   else if (a.kind==2)=true then
    (Xg e.memory v.1).bind λk=>
    if k=true then (Xr e v.1 5 r.name).bind λm=>some (.inl (Zch m)) else some (.inl (Zch e))
   else if (a.kind==3)=true then (Yq { rules:=e.rules,memory:=e.memory,clock:=e.clock,fired:=e.fired,halted:=true,log:=e.log } 6 r.name { rel:=⟨#[]⟩,args:=[] }).bind λo=>some (.inl (Zch o)) else some (.inl (Zch e))):
  ∀(A:List Zw) (i:Nat) (c l:Nat) (e:Zo),(∀a∈A,a∈r.thn)->c+A.length<=190->l+A.length<=490->EB R c l f e->Zm body fin A i (Zch e)=fin (Zch (A.foldl (ZiB r.name t.binding) e))/\EB R (c+A.length) (l+A.length) f (A.foldl (ZiB r.name t.binding) e)
 | [],i,c,l,e,_,_,_,h=>⟨rfl,h⟩
 |a::A,i,c,l,e,hm,hc,hl,h=>by
  simp only[AT]at hc hl ⊢;obtain ⟨T,M⟩:=h.m24;have hck:=h.ck;have hll:=h.ll;have g2:=ZEc H G (hm a yG) h;have N:body i a (Zch e)=some (.inl (Zch (ZiB r.name t.binding e a))):=by
   rw [J,ZcK,A0];unfold ZiB;by_cases C:a.kind=1
   .have hx:=Zpi H G (hm a yG) C;have d:=YD hx;rw [if_pos (by simpa using C),if_pos C,ZcH,A0];by_cases B:(XT (Xc a.pattern t.binding)).1∈e.memory.map (·.fact)
    .rw [if_pos (decide_eq_true B),if_pos B]
    rw [if_neg (by rw [decide_eq_true_iff];exact B),if_neg B];by_cases I:e.memory.length<24
    .rw [if_pos (by simp;omega),if_pos I,Zzw e 4 _ yE yE yE yE,A0]
    .rw [if_neg (by simp;omega),if_neg I]
   rw [if_neg (by simpa using C),if_neg C];by_cases E:a.kind=2
   .rw [if_pos (by simpa using E),if_pos E,ZcH,A0];by_cases B:(XT (Xc a.pattern t.binding)).1∈e.memory.map (·.fact)
    .obtain ⟨y,K,S⟩:=Am.1 B;have d:=(M y K).2;rw [S]at d;rw [if_pos (decide_eq_true B),if_pos B,ZCl e 5 _ yE yE yE,A0]
    .rw [if_neg (by rw [decide_eq_true_iff];exact B),if_neg B]
   rw [if_neg (by simpa using E),if_neg E];by_cases D:a.kind=3
   .rw [if_pos (by simpa using D),if_pos D,ZjO _ _ _ yG (by show e.log.length<=_;omega),A0]
   .rw [if_neg (by simpa using D),if_neg D]
  obtain ⟨P,O⟩:=Zqc H G J A (i+1) (c+1) (l+1) (ZiB r.name t.binding e a) (λb L=>hm b (by simp [L])) yE yE g2;rw [AK];refine ⟨(ZQ N).trans P,?_⟩;rw [show c+(A.length+1)=c+1+A.length by omega,show l+(A.length+1)=l+1+A.length by omega];exact O
def Zsv (r:Zf) (ts:List Int) (e:Zo):Zo:={ rules:=e.rules,memory:=e.memory,clock:=e.clock,fired:=e.fired++[{ rule:=r.name,times:=ts }],halted:=e.halted,log:=e.log++[{ kind:=3,rule:=r.name,fact:={ rel:=⟨#[]⟩,args:=[] } }] }
theorem Zza {body:Nat->Zw->(Int×Bool×(List Zf)×(List Zr)×(List ZK)×(List Yp))->Option ((Int×Bool×(List Zf)×(List Zr)×(List ZK)×(List Yp)) ⊕ (Zo×Bool))}{fin:(Int×Bool×(List Zf)×(List Zr)×(List ZK)×(List Yp))->Option (Zo×Bool)}{r:Zf}{t:Zt}(C:YE r=true) (F:r∈R) (B:t∈Zy r.cond (e.memory.map (·.fact)))
  (J:∀i a e,body i a (Zch e)=(Xi a.pattern t.binding).bind λv=>
   if (a.kind==1)=true then
    (Xg e.memory v.1).bind λd=>
    if d=true then some (.inl (Zch e)) else
    if (decide ((e.memory.length:Int)<24))=true then (Xp e v.1 4 r.name).bind λg=>some (.inl (Zch g)) else some (.inl (Zch e))
   else if (a.kind==2)=true then
    (Xg e.memory v.1).bind λj=>
    if j=true then (Xr e v.1 5 r.name).bind λk=>some (.inl (Zch k)) else some (.inl (Zch e))
   else if (a.kind==3)=true then (Yq { rules:=e.rules,memory:=e.memory,clock:=e.clock,fired:=e.fired,halted:=true,log:=e.log } 6 r.name { rel:=⟨#[]⟩,args:=[] }).bind λm=>some (.inl (Zch m)) else some (.inl (Zch e)))
  (I:∀e,fin (Zch e)=some (e,true)) (H:EB R c (l+1) (f+1) (Zsv r (t.facts.map (Xl e.memory)) e)) (o:e.fired.length<40) (L:c<=150) (K:l<=400):∃A b,Zm body fin r.thn 0 (Zch (Zsv r (t.facts.map (Xl e.memory)) e))=some (A,b)/\(b=false/\A=e\/b=true/\e.fired.length<40/\EB R (c+2) (l+3) (f+1) A/\∃r∈R,∃t∈Zy r.cond (e.memory.map (·.fact)),A=r.thn.foldl (ZiB r.name t.binding) (Zsv r (t.facts.map (Xl e.memory)) e)):=by
 have hthn:=(Xv C).2;obtain ⟨E,D⟩:=Zqc (R:=R) (f:=f+1) (body:=body) (fin:=fin) C (XA _ _ t B) J r.thn 0 c (l+1) (Zsv r (t.facts.map (Xl e.memory)) e) (λa G=>G) yE yE H;exact ⟨_,true,E.trans (I _),.inr ⟨rfl,o,D.more yE yE (A5 _),r,F,t,B,rfl⟩⟩
theorem ZyK (h:EB R c l f e) (C:ZN R=true) (h3:R.length<=3) (I:∀r∈R,Xa r) (hc:c<=150) (hl:l<=400) (K:f<=40):∃D b,i_StepEngine e=some (D,b)/\(b=false/\D=e\/b=true/\e.fired.length<40/\EB R (c+2) (l+3) (f+1) D/\∃r∈R,∃t∈Zy r.cond (e.memory.map (·.fact)),D=r.thn.foldl (ZiB r.name t.binding) (Zsv r (t.facts.map (Xl e.memory)) e)):=by
 have d:=h.ru;subst d;obtain ⟨m1,m2⟩:=h.m24;have hck:=h.ck;have hll:=h.ll;have hfl:=h.fl;obtain ⟨L,V,l2,U,_⟩:=ZsY (R:=e.rules) (M:=e.memory) e.fired C h3 I (h.mem yE);unfold i_StepEngine;rw [h.copy C I yE yE,A0,h.isE C I yE yE yE,A0,if_pos rfl];by_cases J:e.halted=true
 .rw [if_pos J];exact ⟨e,false,rfl,.inl ⟨rfl,rfl⟩⟩
 rw [if_neg J,if_neg (by simp;omega)];by_cases v:e.fired.length<40
 rotate_left
 .rw [if_pos (by simp;omega)];exact ⟨e,false,rfl,.inl ⟨rfl,rfl⟩⟩
 rw [if_neg (by simp;omega),if_neg (by simp;omega),V,A0];cases L with
 |nil=>exact ⟨e,false,yG,.inl ⟨rfl,rfl⟩⟩
 |cons x L=>
  obtain ⟨⟨k,r,t,B,E,N,A,e3⟩,hn⟩:=U x yG;have mr:=AJ B;obtain ⟨G,m⟩:=Ziv C B;have o:=Xv G;have tk:=XA _ _ t E;have hname:=Zp8 G;have W:t.facts.length<=4:=by have:=tk.len;omega
  have H:x.mtch.binding=t.binding:=by rw [N];rfl
  have p:x.mtch.rule=r.name:=by rw [N];rfl
  have q:ZlX e { rule:=r.name,times:=x.times }=true:=by
   unfold ZlX;rw [decide_eq_true_iff];refine ⟨r,?_,?_,?_,λj u F=>?_⟩
   .simp only;rw [m];omega
   .simp only;rw [m,Y3,B]
   .simp only;rw [A,AX,ZBW E,ZvQ o.1]
   .simp only at F;rw [A,List.getElem?_map]at F;obtain ⟨g,hg,rfl⟩:=AB.1 F;obtain ⟨y,T,_,ey⟩:=Zit (tk.sub g (AJ hg));rw [ey];exact h.tb y T
  have w:¬∃z∈e.fired,Zik z { rule:=r.name,times:=x.times }:=λ⟨z,S,P,O⟩=>hn ⟨z,S,by rw [p];exact P,O⟩;have g1:=h.fire q w;have g2:EB e.rules c (l+1) (f+1) (Zsv r (t.facts.map (Xl e.memory)) e):=by
   have:=g1.write (rule:=r.name) (x:={ rel:=⟨#[]⟩,args:=[] }) (.inl rfl) (ZwI (.inl rfl) hname) e.halted;rw [A]at this;exact this
  rw [if_neg (by simp;omega),Zi _ yG,show (x::L)[AA 0]?=some x from rfl,A0,Zwo (by rw [A,AX];omega),A0,Zi _ yE,p,ZjO _ _ _ yG (by show e.log.length<=_;omega),A0,e3,Y3,B,A0,H];have hthn:=o.2;have key:=λbody fin H K=>Zza (body:=body) (fin:=fin) G mr E H K g2 v hc hl;rw [A];refine key _ _ ?_ ?_
  .exact λi a e=>rfl
  .exact λe=>rfl
def ZzW (R:List Zf) (M:List Zr) (y:ZK):Prop:=∃r∈R,∃t∈Zy r.cond (M.map (·.fact)),y.rule=r.name/\y.times=t.facts.map (Xl M)/\∀a∈r.thn,(XT (Xc a.pattern t.binding)).1∈M.map (·.fact)
theorem Zrf {M:List Zr}{s:Zr}(hs:s.fact∉M.map (·.fact)):(∀g∈M.map (·.fact),g∈(Zfo s M).map (·.fact))/\s.fact∈(Zfo s M).map (·.fact)/\∀g∈(Zfo s M).map (·.fact),g=s.fact\/g∈M.map (·.fact):=by
 rw [Zjh s M hs];exact ⟨λg c=>XI.2 (.inr c),XI.2 (.inl rfl),λg c=>XI.1 c⟩
theorem Zqs {M:List Zr}{s:Zr}(hs:s.fact∉M.map (·.fact)) {t:Zt}{r:Zf}(c:t∈Zy r.cond (M.map (·.fact))):t.facts.map (Xl (Zfo s M))=t.facts.map (Xl M):=
 List.map_congr_left λg A=>Zpf (λe=>hs (e ▸ (XA _ _ t c).sub g A)) M
theorem ZzW.ins (C:ZgN R) {M:List Zr}{y:ZK}(h:ZzW R M y) {s:Zr}(hs:s.fact∉M.map (·.fact)):ZzW R (Zfo s M) y:=by
 obtain ⟨r,A,t,c,F,E,D⟩:=h;have b:=(Zrf hs).1;exact ⟨r,A,t,Ze8 b (C r A) t c,F,by rw [E,Zqs hs c],λa B=>b _ (D a B)⟩
structure EM (R:List Zf) (F B:List Zd) (e:Zo):Prop where
 sub:∀g∈e.memory.map (·.fact),g∈F
 inc:∀g∈B,g∈e.memory.map (·.fact)
 fir:∀y∈e.fired,ZzW R e.memory y
theorem EM.put (G:ZgN R) {F B:List Zd}(h:EM R F B e) {x:Zd}(E:x∈F) (C:x∉e.memory.map (·.fact)) {e':Zo}(A:e'.memory=Zfo { fact:=x,time:=e.clock+1 } e.memory) (H:e'.fired=e.fired):EM R F (B++[x]) e':=by
 have hs:=Zrf (M:=e.memory) (s:={ fact:=x,time:=e.clock+1 }) C;refine ⟨λg c=>?_,λg c=>?_,λy D=>?_⟩
 .rw [A]at c;rcases hs.2.2 g c with rfl|c
  .exact E
  .exact h.sub g c
 .rw [A];rcases A9.1 c with c|c
  .exact hs.1 g (h.inc g c)
  .simp at c;subst c;exact hs.2.1
 .rw [A];exact (h.fir y (H ▸ D)).ins G C
structure EL (R:List Zf) (F B:List Zd) (old:List ZK) (r:Zf) (t:Zt) (ts:List Int) (p:List Zw) (e:Zo):Prop where
 sub:∀g∈e.memory.map (·.fact),g∈F
 inc:∀g∈B,g∈e.memory.map (·.fact)
 fir:∀y∈old,ZzW R e.memory y
 tk:t∈Zy r.cond (e.memory.map (·.fact))
 tm:ts=t.facts.map (Xl e.memory)
 dn:∀a∈p,(XT (Xc a.pattern t.binding)).1∈e.memory.map (·.fact)
 nd:(e.memory.map (·.fact)).Nodup
theorem EL.act (E:ZgN R) {F B:List Zd}(K:F.length<=24) {c:List ZK}{r:Zf}(I:r∈R) {t:Zt}{ts:List Int}{p:List Zw}(h:EL R F B c r t ts p e) {a:Zw}(J:a.kind=1) (G:(XT (Xc a.pattern t.binding)).1∈F):EL R F B c r t ts (p++[a]) (ZiB r.name t.binding e a):=by
 unfold ZiB;rw [if_pos J];split
 .rename_i q;refine ⟨h.sub,h.inc,h.fir,h.tk,h.tm,λb A=>?_,h.nd⟩;rcases A9.1 A with A|A
  .exact h.dn b A
  .simp at A;subst A;exact q
 .rename_i q;have d:e.memory.length<24:=by
   have:=ZdQ (l:=(XT (Xc a.pattern t.binding)).1::e.memory.map (·.fact)) (m:=F) (An.2 ⟨q,h.nd⟩) λx D=>by
    rcases AL.1 D with rfl|D
    .exact G
    .exact h.sub x D
   simp only[AT,AX]at this;omega
  rw [if_pos d];have hs:=Zrf (M:=e.memory) (s:={ fact:=(XT (Xc a.pattern t.binding)).1,time:=e.clock+1 }) q;have hp:=(Zk2 { fact:=(XT (Xc a.pattern t.binding)).1,time:=e.clock+1 } e.memory).map (·.fact);refine ⟨λg C=>?_,λg C=>hs.1 g (h.inc g C),λy H=>(h.fir y H).ins E q,Ze8 hs.1 (E r I) t h.tk,by rw [Zqs (M:=e.memory) q h.tk];exact h.tm,λb A=>?_,hp.nodup_iff.2 (An.2 ⟨q,h.nd⟩)⟩
  .rcases hs.2.2 g C with rfl|C
   .exact G
   .exact h.sub g C
  .rcases A9.1 A with A|A
   .exact hs.1 _ (h.dn b A)
   .simp at A;subst A;exact hs.2.1
theorem EL.acts (D:ZgN R) {F B:List Zd}(c:F.length<=24) {d:List ZK}{r:Zf}(C:r∈R) {t:Zt}{ts:List Int}:∀(A p:List Zw) (e:Zo),EL R F B d r t ts p e->(∀a∈A,a.kind=1/\(XT (Xc a.pattern t.binding)).1∈F)->EL R F B d r t ts (p++A) (A.foldl (ZiB r.name t.binding) e)
 | [],p,e,h,_=>by simpa using h
 |a::A,p,e,h,hA=>by
  rw [AK];have:=EL.acts D c C A (p++[a]) _ (h.act D c C (hA a yG).1 (hA a yG).2) λb E=>hA b (by simp [E]);simpa using this
theorem EM.step (E:ZgN R) {base F B:List Zd}(G:Yf R base F) (h:EM R F B e) (J:(e.memory.map (·.fact)).Nodup) {r:Zf}(C:r∈R) {t:Zt}(H:t∈Zy r.cond (e.memory.map (·.fact))):EM R F B (r.thn.foldl (ZiB r.name t.binding) (Zsv r (t.facts.map (Xl e.memory)) e)):=by
 have c:Qc r=r.cond:=by
  unfold Qc;exact B3.2 λx I=>by simpa using E r C x I
 have b:=(G.rule C).1;unfold Z3 at b;simp only[AH]at b;have K:EL R F B e.fired r t (t.facts.map (Xl e.memory)) [] (Zsv r (t.facts.map (Xl e.memory)) e):=⟨h.sub,h.inc,h.fir,H,rfl,yG,J⟩
 have hk:=K.acts E G.len C r.thn [] _ λa D=>⟨by have:=Ab.1 b.2 a D;simpa using this,G.closed r C t (by rw [c];exact Ze8 h.sub (E r C) t H) a D⟩
 refine ⟨hk.sub,hk.inc,λy A=>?_⟩;rw [Zi7]at A;rcases A9.1 (show y∈e.fired++[{ rule:=r.name,times:=t.facts.map (Xl e.memory) }] from A) with A|A
 .exact hk.fir y A
 .simp at A;subst A;exact ⟨r,C,t,hk.tk,rfl,hk.tm,λa D=>hk.dn a (by simpa using D)⟩
theorem EM.all (hm:ZgN R) (G:ZN R=true) {base F:List Zd}(H:Yf R base F) (h:EM R F base e) (E:EB R c l f e) (V:∀m∈Zlk R (e.memory.map (·.fact)),∃y∈e.fired,y.rule=m.rule/\y.times=m.facts.map (Xl e.memory)):e.memory.map (·.fact)=F:=by
 have d:=QP E.fa;have p:=λl=>ZqP (Zs6 d) l;refine ZhD d H.good.asc λg=>⟨h.sub g,λP=>H.good.low _ ⟨d,h.inc,λr B t A a T=>?_⟩ g P⟩
 have j:Qc r=r.cond:=by
  unfold Qc;exact B3.2 λx O=>by simpa using hm r B x O
 rw [j]at A;obtain ⟨y,N,M,L⟩:=V (mkM r t) (Zt5.2 ⟨r,B,t,A,rfl⟩);obtain ⟨r',q,C,o,K,J,I⟩:=h.fir y N;have u:r=r':=by
  obtain ⟨k,D⟩:=Ao B;obtain ⟨U,i⟩:=Ao q;have e1:=(Ziv G D).2;have e2:=(Ziv G i).2;have W:r.name=r'.name:=by rw [<-K,M];rfl
  rw [W,e2]at e1;have:U=k:=by omega
  subst this;rw [D]at i;exact Ad i
 subst u;have v:t.facts=C.facts:=Zsn (S:=λg=>g∈e.memory.map (·.fact)) (λa b ha w=>Zyk E.tn ha w) (XA _ _ t A).sub (XA _ _ C o).sub (by rw [<-J,L];rfl);have htt:=ZzU (p r.cond) A o v;subst htt;exact I a T
end
end
theorem Zrl (y:Int):0<=Zm8 .i64 y 255/\Zm8 .i64 y 255<=255:=by
 have e:Zm8 .i64 y 255=(((BitVec.ofInt 64 y &&& BitVec.ofInt 64 255).toNat:Nat):Int):=by
  show IntKind.i64.wrap (((BitVec.ofInt 64 y &&& BitVec.ofInt 64 255).toNat:Nat):Int)=_
  have:=B4 (n:=(BitVec.ofInt 64 y).toNat) (m:=(BitVec.ofInt 64 255).toNat);rw [BitVec.toNat_and];have c:(BitVec.ofInt 64 255).toNat=255:=by decide
  exact Y2 yE yE
 have:=B4 (n:=(BitVec.ofInt 64 y).toNat) (m:=(BitVec.ofInt 64 255).toNat);rw [e,BitVec.toNat_and];have c:(BitVec.ofInt 64 255).toNat=255:=by decide
 omega
structure Zae (c:l1CurD):Prop where
 i:0<=c.i
 b:c.b.length<=4096
theorem Zy0 (a:List Int) (h:a.length<=4096):∃c,Zj4 a=some c/\Zae c:=by
 unfold Zj4;have key:∀(l:List Int) (i:Nat) (s:Int),∃c,Zm (λ(B:Nat) (A:Int) (d:Int)=>
   if (decide ((B:Int)<4000))=true then
    some (.inl (Zm8 .i64 (IntKind.i64.wrap ((IntKind.i64.wrap ((IntKind.i64.wrap (d*167))+IntKind.i64.wrap A))+29)) 1073741823))
   else
    some (.inr ({ b:=a,i:=0,h:=d }:l1CurD))) (λd=>some ({ b:=a,i:=0,h:=d }:l1CurD)) l i s=some c/\Zae c:=by
  intro l;induction l with
  |nil=>intro i s;exact ⟨_,rfl,AI _,h⟩
  |cons x l ih=>
   intro i s;cases hd:decide ((i:Int)<4000) with
   |true=>
    obtain ⟨c,D,C⟩:=ih (i+1) (Zm8 .i64 (IntKind.i64.wrap ((IntKind.i64.wrap ((IntKind.i64.wrap (s*167))+IntKind.i64.wrap x))+29)) 1073741823);exact ⟨c,by rw [ZQ (by rw [hd,if_pos rfl])];exact D,C⟩
   |false=>exact ⟨_,by rw [Z4 (by rw [hd];rfl)],AI _,h⟩
 exact key a 0 _
theorem Zxn {c:l1CurD}(h:Zae c):∃x c',Zdk c=some (x,c')/\0<=x/\x<=255/\Zae c':=by
 unfold Zdk;cases hd:decide (c.i<(c.b.length:Int)) with
 |true=>
  have B:c.i<(c.b.length:Int):=by simpa using hd
  have hi:=h.i;have hb:=h.b;have A:c.i.toNat<c.b.length:=by omega
  rw [if_pos rfl,show atI c.b c.i=some (c.b[c.i.toNat]) by unfold atI;rw [if_pos hi,AG A]];refine ⟨_,_,rfl,(Zrl _).1,(Zrl _).2,?_,hb⟩;show 0<=IntKind.i64.wrap (c.i+1)
  rw [Y2 yE yE];omega
 |false=>
  rw [if_neg yG];exact ⟨_,_,rfl,(Zrl _).1,(Zrl _).2,h.i,h.b⟩
theorem Zet {c:l1CurD}(h:Zae c) {n:Int}(C:0<n) (D:n<=256):∃x c',XZ c n=some (x,c')/\0<=x/\x<n/\Zae c':=by
 unfold XZ;obtain ⟨x,c',e,A,_,B⟩:=Zxn h;rw [if_neg (by simp;omega),if_pos (by simp;omega),e];refine ⟨Int.tmod x n,c',?_,Int.tmod_nonneg _ A,Int.tmod_lt_of_pos _ C,B⟩;show chk _ _=_
 rw [Zi _ yE]
def X7 (p s:ByteArray):Prop:=∃a b,a<=b/\b<=s.size/\p=s.extract a b
theorem X7.size {p s:ByteArray}(h:X7 p s):p.size<=s.size:=by
 obtain ⟨a,b,A,c,rfl⟩:=h;rw [AY];omega
theorem Ztf (s:ByteArray) (a b:Nat):toL (s.extract a b)=((toL s).drop a).take (b - a):=by
 unfold toL;rw [ByteArray.data_extract,Array.toList_extract,List.extract_eq_take_drop]
theorem X7.infix {p s:ByteArray}(h:X7 p s):toL p <:+: toL s:=by
 obtain ⟨a,b,A,c,rfl⟩:=h;rw [Ztf];refine ⟨(toL s).take a,((toL s).drop a).drop (b - a),?_⟩;rw [List.append_assoc,B5,B5]
theorem ZuN {σ ρ:Type}{s sep:ByteArray}(E:0<sep.size) (st:List ByteArray->Nat->Nat->σ) (g:List ByteArray->ρ) {body:σ->Option (σ ⊕ ρ)}
  (H:∀row a i,a<=i->i+sep.size<=s.size->row.length<=i->body (st row a i)=some (.inl (if sEq (s.extract i (i+sep.size)) sep=true then st (row++[s.extract a i]) (i+sep.size) (i+sep.size) else st row a (i+1))))
  (F:∀row a i,a<=i->i<=s.size->¬i+sep.size<=s.size->row.length<=i->body (st row a i)=some (.inr (g (row++[s.extract a s.size])))):
  ∃l,Ys body (st [] 0 0)=some (g l)/\l.length<=s.size+1/\∀p∈l,X7 p s:=by
 have key:∀m row a i,s.size - i<=m->a<=i->i<=s.size->row.length<=i->(∀p∈row,X7 p s)->∃l,Ys body (st row a i)=some (g l)/\l.length<=s.size+1/\∀p∈l,X7 p s:=by
  intro m;induction m with
  |zero=>
   intro row a i G C hi D A;have B:¬i+sep.size<=s.size:=by omega
   refine ⟨_,ZZ (F row a i C hi B D),by simp;omega,λp c=>?_⟩;rcases A9.1 c with c|c
   .exact A p c
   .simp at c;subst c;exact ⟨a,s.size,yE,A5 _,rfl⟩
  |succ m ih=>
   intro row a i G C hi D A;by_cases B:i+sep.size<=s.size
   .rw [Yg (H row a i C B D)];split
    .refine ih _ _ _ yE (A5 _) B (by simp;omega) λp c=>?_;rcases A9.1 c with c|c
     .exact A p c
     .simp at c;subst c;exact ⟨a,i,C,hi,rfl⟩
    .exact ih _ _ _ yE yE yE yE A
   .refine ⟨_,ZZ (F row a i C hi B D),by simp;omega,λp c=>?_⟩;rcases A9.1 c with c|c
    .exact A p c
    .simp at c;subst c;exact ⟨a,s.size,yE,A5 _,rfl⟩
 exact key s.size [] 0 0 yE (A5 _) (Nat.zero_le _) (A5 _) yG
theorem X7.ext (s:ByteArray) {a b:Nat}(h:a<=b) (c:b<=s.size):X7 (s.extract a b) s:=⟨a,b,h,c,rfl⟩
theorem X7.trans {p q s:ByteArray}(h:X7 p q) (k:X7 q s):X7 p s:=by
 obtain ⟨a,b,D,A,rfl⟩:=h;obtain ⟨c,d,C,B,rfl⟩:=k;rw [AY]at A;refine ⟨c+a,c+b,yE,yE,?_⟩;rw [ByteArray.extract_extract];congr 1
 omega
theorem X4 {s sep:ByteArray}(hs:s.size<=1000) (c:0<sep.size) (E:sep.size<=10):∃l,Zaf s sep=some l/\l.length<=s.size+1/\∀p∈l,X7 p s:=by
 unfold Zaf;rw [if_neg (by rw [ZP];intro e;rw [e]at c;exact absurd c yF)];refine ZuN c (λrow f i=>(row,(f:Int),(i:Int))) (λl=>l) ?_ ?_
 .intro row f i B hi A;have e:IntKind.i64.wrap ((i:Int)+(sep.size:Int))=((i+sep.size:Nat):Int):=by rw [Y2 yE yE];omega
  have C:IntKind.i64.wrap ((i:Int)+1)=((i+1:Nat):Int):=by rw [Y2 yE yE];omega
  simp only[e,C,AC];rw [if_pos (by simp;omega),Zi _ yE];split
  .rw [Zi _ yE,Zi _ yE]
  .rfl
 .intro row f i B hi D A;have e:IntKind.i64.wrap ((i:Int)+(sep.size:Int))=((i+sep.size:Nat):Int):=by rw [Y2 yE yE];omega
  simp only[e,AC];rw [if_neg (by simp;omega),Zi _ yE,Zi _ yE]
theorem Zxf {α:Type}{l:List α}(h:¬((l.length:Int) != 2)=true):∃x y,l=[x,y]:=by
 have c:l.length=2:=by simp at h;omega
 match l,c with
 | [x,y],_=>exact ⟨x,y,rfl⟩
theorem ZuV {s:ByteArray}(hs:s.size<=1000):∃r a B,ZfK s=some (r,a,B)/\a.length<=s.size+1:=by
 unfold ZfK;obtain ⟨l,e,J,D⟩:=X4 (sep:=⟨#[40]⟩) hs yF yF;rw [e,A0];split
 .exact ⟨_,_,_,rfl,yG⟩
 rename_i F;obtain ⟨x,y,rfl⟩:=Zxf F;have c:(([x,y]:List ByteArray).length:Int)=2:=rfl;rw [Zi _ (by rw [c];decide)];simp only[show AA 1=1 from rfl,show AA 0=0 from rfl,AZ,Aa,A0];have hy:=(D y yG).size;split
 .exact ⟨_,_,_,rfl,yG⟩
 rename_i E;have C:y.size≠0:=λe=>E (by rw [e];rfl);have H:IntKind.i64.wrap ((y.size:Int) - 1)=((y.size - 1:Nat):Int):=by rw [Y2 yE yE];omega
 simp only[H];have A:∃b,sAt y ((y.size - 1:Nat):Int)=some b:=by
  unfold sAt;rw [if_pos yE,AC];exact ⟨y[y.size - 1]'yE,by rw [getElem?_pos]⟩
 obtain ⟨b,A⟩:=A;rw [A,A0];split
 .exact ⟨_,_,_,rfl,yG⟩
 rw [Zi _ yE,AC];split
 .rw [Zi _ yG];exact ⟨_,_,_,rfl,yG⟩
 .rw [Zi _ yG];have I:(y.extract 0 (y.size - 1)).size<=y.size:=by rw [AY];omega
  obtain ⟨k,G,K,_⟩:=X4 (s:=y.extract 0 (y.size - 1)) (sep:=⟨#[44]⟩) yE yF yF;rw [G,A0];exact ⟨_,_,_,rfl,yE⟩
theorem ZgP {s:ByteArray}(hs:s.size<=1000):∃p c,Yt s=some (p,c)/\p.args.length<=s.size+1:=by
 unfold Yt;obtain ⟨r,a,c,e,A⟩:=ZuV hs;rw [e,A0];cases c with
 |false=>exact ⟨_,_,rfl,yG⟩
 |true=>
  rw [if_pos rfl,ZaB,A0];split
  .exact ⟨_,_,rfl,A⟩
  .exact ⟨_,_,rfl,yG⟩
def Zlm:ByteArray:=⟨#[110,111,116,32]⟩
theorem Zrk {s:ByteArray}(hs:s.size<=1000):∃x A,ZbI s=some (x,A)/\x.pattern.args.length<=s.size+1/\(x.kind=2->X7 Zlm s):=by
 unfold ZbI;have F:∀k:Int,∃g,ZhC k=some g/\0<g.size/\g.size<=10:=λk=>by
  unfold ZhC;split
  .exact ⟨_,rfl,yF,yF⟩
  .split
   .exact ⟨_,rfl,yF,yF⟩
   .exact ⟨_,rfl,yF,yF⟩
 have key:∀(body:Int->Option (Int ⊕ Zp×Bool)) (Q:Zp×Bool->Prop),(∀k:Nat,3<=k->k<=5->(∃r,body (k:Int)=some (.inr r)/\Q r)\/body (k:Int)=some (.inl ((k+1:Nat):Int)))->(∃r,body 6=some (.inr r)/\Q r)->∃r,Ys body 3=some r/\Q r:=by
  intro body Q J E;have b:∀k:Nat,3<=k->k<=6->∃r,Ys body (k:Int)=some r/\Q r:=by
   have K:∀m k:Nat,k+m=6->3<=k->∃r,Ys body (k:Int)=some r/\Q r:=by
    intro m;induction m with
    |zero=>
     intro k D _;obtain rfl:k=6:=by omega
     obtain ⟨r,e,q⟩:=E;exact ⟨r,ZZ e,q⟩
    |succ m ih=>
     intro k D B;rcases J k B yE with ⟨r,e,q⟩|e
     .exact ⟨r,ZZ e,q⟩
     .rw [Yg e];exact ih (k+1) yE yE
   exact λk B V=>K (6 - k) k yE B
  exact b 3 yE yE
 have fin:∀body:Int->Option (Int ⊕ Zp×Bool),(∃r,Ys body 3=some r/\(r.1.pattern.args.length<=s.size+1/\(r.1.kind=2->X7 Zlm s)))->∃x A,Ys body 3=some (x,A)/\x.pattern.args.length<=s.size+1/\(x.kind=2->X7 Zlm s):=λ_ ⟨r,e,q⟩=>⟨r.1,r.2,e,q⟩
 refine fin _ (key _ (λr=>r.1.pattern.args.length<=s.size+1/\(r.1.kind=2->X7 Zlm s)) ?_ ?_)
 .intro k B W;rw [if_pos (by simp;omega)];obtain ⟨g,O,M,L⟩:=F (k:Int);obtain ⟨l,N,T,S⟩:=X4 hs M L;have P:IntKind.i64.wrap ((k:Int)+1)=((k+1:Nat):Int):=by rw [Y2 yE yE];omega
  rw [O,A0,N,A0,P];split
  .rename_i E;obtain ⟨x,y,rfl⟩:=Zxf (l:=l) (by simp at E ⊢;omega);rw [Zi _ yG];simp only[show AA 1=1 from rfl,show AA 0=0 from rfl,AZ,Aa,A0];rw [Zi _ yG,Zdm,A0];split
   .exact .inl ⟨_,rfl,yG,λh=>by simp only at h;omega⟩
   .exact .inr rfl
  .exact .inr rfl
 .rw [if_neg yF];have a:∀(t:ByteArray),t.size<=s.size->∀C:Int,(C=2->X7 Zlm s)->∃r,((Yt t).bind λv=>if v.2=true then some (Sum.inr (({ kind:=C,pattern:=v.1,left:=⟨#[]⟩,right:=⟨#[]⟩ }:Zp),true)) else some (.inr (({ kind:=0,pattern:=({ rel:=⟨#[]⟩,args:=[] }:Zv),left:=⟨#[]⟩,right:=⟨#[]⟩ }:Zp),false)))=some (Sum.inr r:Int ⊕ Zp×Bool)/\(r.1.pattern.args.length<=s.size+1/\(r.1.kind=2->X7 Zlm s)):=λt R C D=>by
   obtain ⟨p,A,e,U⟩:=ZgP (s:=t) yE;rw [e,A0];cases A with
   |true=>exact ⟨_,rfl,by show p.args.length<=_;omega,D⟩
   |false=>exact ⟨_,rfl,yG,λh=>by simp at h⟩
  split
  .rename_i I;have H:4<s.size:=by simp at I;omega
   rw [Zi _ yE];split
   .rename_i G;have c:=ZP.1 G;exact a _ (by rw [AY];omega) 2 λ_=>by
     unfold Zlm;rw [<-c];exact X7.ext s yF (by show AA 4<=_;have:AA 4=4:=rfl;omega)
   .exact a s (A5 _) 1 λh=>by omega
  .exact a s (A5 _) 1 λh=>by omega
theorem ZtY {s:ByteArray}(hs:s.size<=1000):∃a c,Zbu s=some (a,c)/\a.pattern.args.length<=s.size+1:=by
 unfold Zbu;split
 .exact ⟨_,_,rfl,yG⟩
 obtain ⟨l,e,D,A⟩:=X4 (sep:=⟨#[32]⟩) hs yF yF;rw [e,A0];split
 .exact ⟨_,_,rfl,yG⟩
 rename_i B;obtain ⟨x,y,rfl⟩:=Zxf B;have hy:=(A y yG).size;obtain ⟨p,c,C,E⟩:=ZgP (s:=y) yE;rw [Zi _ yG];simp only[show AA 1=1 from rfl,show AA 0=0 from rfl,AZ,Aa,A0,C];split
 .rw [Zi _ yG];exact ⟨_,_,rfl,by show p.args.length<=_;omega⟩
 .split
  .rw [Zi _ yG];exact ⟨_,_,rfl,by show p.args.length<=_;omega⟩
  .exact ⟨_,_,rfl,yG⟩
structure Zln (s:ByteArray) (r:Zf):Prop where
 cl:r.cond.length<=s.size+1
 tl:r.thn.length<=s.size+1
 ca:∀x∈r.cond,x.pattern.args.length<=s.size+1/\(x.kind=2->X7 Zlm s)
 ta:∀a∈r.thn,a.pattern.args.length<=s.size+1
theorem Zpp {α ρ:Type}{s:ByteArray}{P:α->Prop}{g:ByteArray->Option (α×Bool)}{fin:List α->Option ρ}{z:List α->ρ}{Q:ρ->Prop}{l:List ByteArray}(J:l.length<=2000) (H:∀p∈l,X7 p s) (I:∀p,X7 p s->∃x C,g p=some (x,C)/\P x) (F:∀a:List α,a.length<=l.length->(∀x∈a,P x)->Q (z a)) (c:∀a:List α,a.length<=l.length->(∀x∈a,P x)->∃r,fin a=some r/\Q r):
  ∃r,Zm (σ:=List α) (λ(i:Nat) (x:ByteArray) row=>(g x).bind λv=>if v.2=true then chk (row.length+1<=1073741824) (some (.inl (row++[v.1]))) else some (.inr (z row))) fin l 0 []=some r/\Q r:=by
 have key:∀(m:List ByteArray) (i:Nat) (a:List α),(∀p∈m,p∈l)->a.length+m.length<=l.length->(∀x∈a,P x)->∃r,Zm (σ:=List α) (λ(i:Nat) (x:ByteArray) row=>(g x).bind λv=>if v.2=true then chk (row.length+1<=1073741824) (some (.inl (row++[v.1]))) else some (.inr (z row))) fin m i a=some r/\Q r:=by
  intro m;induction m with
  |nil=>intro i a _ b B;exact c a (by simp at b;omega) B
  |cons x m ih=>
   intro i a D b B;obtain ⟨y,C,e,G⟩:=I x (H x (D x yG));rw [AT]at b;cases C with
   |true=>
    rw [ZQ (s':=a++[y]) (by rw [e];exact Zi _ yE)];exact ih _ _ (λp E=>D p (by simp [E])) (by simp;omega) λq A=>by
     rcases A9.1 A with A|A
     .exact B q A
     .simp at A;subst A;exact G
   |false=>exact ⟨_,Z4 (by rw [e];rfl),F a yE B⟩
 exact key l 0 [] (λ_ h=>h) yG yG
theorem ZuY {s a b:ByteArray}(hs:s.size<=1000) (J:X7 a s) (I:X7 b s) (A:Zf):∃r D,Zfz A a b=some (r,D)/\Zln s r:=by
 unfold Zfz;have ha':=J.size;have hb':=I.size;obtain ⟨l,e,O,C⟩:=X4 (s:=a) (sep:=⟨#[32,38,32]⟩) yE yF yF;obtain ⟨k,N,R,L⟩:=X4 (s:=b) (sep:=⟨#[32,38,32]⟩) yE yF yF;rw [e,A0];obtain ⟨r,E,B⟩:=Zpp (s:=s) (P:=λx:Zp=>x.pattern.args.length<=s.size+1/\(x.kind=2->X7 Zlm s)) (g:=ZbI) (fin:=λd=>(Zaf b (⟨#[32,38,32]⟩)).bind λj=>
   Zm (σ:=(List Zw))
    (λ(K:Nat) (m:ByteArray) c=>
     (Zbu m).bind λi=>
     if i.2=true then
      chk (c.length+1<=1073741824) <|
      some (.inl (c++[i.1]))
     else
      some (.inr (({ name:=A.name,priority:=A.priority,cond:=d,thn:=c }:Zf),false)))
    (λc=>
     (Zc3 ({ name:=A.name,priority:=A.priority,cond:=d,thn:=c }:Zf)).bind λo=>
     some (({ name:=A.name,priority:=A.priority,cond:=d,thn:=c }:Zf),o))
    j 0 []) (z:=λd=>(({ name:=A.name,priority:=A.priority,cond:=d,thn:=[] }:Zf),false)) (Q:=λr=>Zln s r.1) (l:=l) yE (λp H=>(C p H).trans J) (λp C=>by
    obtain ⟨x,D,e,E,B⟩:=Zrk (s:=p) (by have:=C.size;omega);exact ⟨x,D,e,by have:=C.size;omega,λh=>(B h).trans C⟩) (λf E B=>⟨by show f.length<=_;omega,yG,B,yG⟩) (λf E B=>by
    rw [N,A0];exact Zpp (s:=s) (P:=λx:Zw=>x.pattern.args.length<=s.size+1) (g:=Zbu) (z:=λc=>(({ name:=A.name,priority:=A.priority,cond:=f,thn:=c }:Zf),false)) (Q:=λr=>Zln s r.1) (l:=k) yE (λp H=>(L p H).trans I) (λp C=>by
     obtain ⟨x,D,e,E⟩:=ZtY (s:=p) (by have:=C.size;omega);exact ⟨x,D,e,by have:=C.size;omega⟩) (λrow M F=>⟨by show f.length<=_;omega,by show row.length<=_;omega,B,F⟩) (λrow M F=>by
     rw [ZhT _ ⟨by show f.length<=_;omega,by show row.length<=_;omega,λx G=>by have:=(B x G).1;omega,λx G=>by have:=F x G;omega⟩,A0];exact ⟨_,rfl,by show f.length<=_;omega,by show row.length<=_;omega,B,F⟩))
 exact ⟨r.1,r.2,E,B⟩
theorem Zfy (s:ByteArray):Zln s { name:=⟨#[]⟩,priority:=0,cond:=[],thn:=[] }:=⟨yG,yG,yG,yG⟩
theorem Zr3 {s:ByteArray}(hs:s.size<=1000):∃r c,Zat s=some (r,c)/\Zln s r:=by
 unfold Zat;obtain ⟨l,e,O,A⟩:=X4 (sep:=⟨#[58,32]⟩) hs yF yF;rw [e,A0];split
 .exact ⟨_,_,rfl,Zfy s⟩
 rename_i J;obtain ⟨x,y,rfl⟩:=Zxf J;have hx:=A x yG;have hy:=A y yG;have hx':=hx.size;have hy':=hy.size;obtain ⟨m,L,N,G⟩:=X4 (s:=x) (sep:=⟨#[32]⟩) yE yF yF;obtain ⟨k,M,P,a⟩:=X4 (s:=y) (sep:=⟨#[32,45,62,32]⟩) yE yF yF;rw [Zi _ yG];simp only[show AA 1=1 from rfl,show AA 0=0 from rfl,AZ,Aa,A0,L];rw [Zi _ yG,M,A0];split
 .exact ⟨_,_,rfl,Zfy s⟩
 rename_i I;obtain ⟨C,B,rfl⟩:=Zxf I;split
 .exact ⟨_,_,rfl,Zfy s⟩
 rename_i H;obtain ⟨E,D,rfl⟩:=Zxf H;rw [Zi _ yG];simp only[AZ,Aa,A0,Zbc];split
 .rw [Zi _ yG,Zi _ yG,Zi _ yG];obtain ⟨r,c,K,F⟩:=ZuY hs ((a E yG).trans hy) ((a D yG).trans hy) ({ name:=C,priority:=(Zd4 B).1,cond:=[],thn:=[] }:Zf);rw [K,A0];cases c with
  |true=>exact ⟨_,_,rfl,F⟩
  |false=>exact ⟨_,_,rfl,Zfy s⟩
 .exact ⟨_,_,rfl,Zfy s⟩
theorem ZtA {c:l1CurD}(h:Zae c) {l:List ByteArray}(F:0<l.length) (E:l.length<=256):∃x c',Zfd c l=some (x,c')/\x∈l/\Zae c':=by
 obtain ⟨x,c',e,B,A,D⟩:=Zet h (n:=(l.length:Int)) yE yE;have C:x.toNat<l.length:=by omega
 refine ⟨l[x.toNat],c',?_,Ap _,D⟩;unfold Zfd;rw [e];show (atI l x).bind _=_
 rw [show atI l x=some l[x.toNat] by unfold atI;rw [if_pos B,AG C]];rfl
def RK (nots:Bool) (r:Zf):Prop:=∃s:ByteArray,s.size<=100/\(nots=false->¬X7 Zlm s)/\Zln s r
theorem Zoh (L:List ByteArray) (n:Int) (N:Nat) (O:N=L.length) (H:0<n) (M:n<=N) (hs:∀s∈L,s.size<=100) (P:N<=256) {c:l1CurD}(G:Zae c):∃s r c',((XZ c n).bind λA=>chk (0<=A.1/\A.1<(N:Int)) ((L[(AA A.1)]?).bind λC=>(Zat C).bind λD=>some (D.1,A.2)))=some (r,c')/\s∈L.take n.toNat/\s.size<=100/\Zln s r/\Zae c':=by
 obtain ⟨x,c',e,K,E,a⟩:=Zet G H yE;have B:x.toNat<L.length:=by omega
 obtain ⟨r,J,I,F⟩:=Zr3 (s:=L[x.toNat]) (by have:=hs _ (Ap B);omega);refine ⟨L[x.toNat],r,c',?_,?_,hs _ (Ap B),F,a⟩
 .rw [e,A0,Zi _ yE,AG B,A0,I];rfl
 .rw [List.mem_take_iff_getElem];exact ⟨x.toNat,yE,rfl⟩
theorem ZDk {s:ByteArray}(h:¬toL Zlm <:+: toL s):¬X7 Zlm s:=λk=>h k.infix
theorem Zuh {c:l1CurD}(h:Zae c) (a:Bool):∃r c',Zcn c a=some (r,c')/\RK a r/\Zae c':=by
 unfold Zcn;have fin:∀{L:List ByteArray} {n:Int} {o:Option (Zf×l1CurD)},(a=false->∀s∈L.take n.toNat,¬toL Zlm <:+: toL s)->(∃s r c',o=some (r,c')/\s∈L.take n.toNat/\s.size<=100/\Zln s r/\Zae c')->∃r c',o=some (r,c')/\RK a r/\Zae c':=λA ⟨s,r,c',e,F,E,D,C⟩=>⟨r,c',e,⟨s,E,λB=>ZDk (A B s F),D⟩,C⟩
 cases a with
 |true=>
  rw [if_pos rfl];exact fin (λh=>by cases h) (Zoh _ 11 11 rfl yE yE yF yE h)
 |false=>
  rw [if_neg yG];exact fin (λ_=>by decide) (Zoh _ 7 11 rfl yE yE yF yE h)
theorem RK.name {a:Bool}{r:Zf}(h:RK a r) (n:ByteArray) (p:Int):RK a { name:=n,priority:=p,cond:=r.cond,thn:=r.thn }:=by
 obtain ⟨s,B,A,c⟩:=h;exact ⟨s,B,A,c.cl,c.tl,c.ca,c.ta⟩
theorem ZwS {a:Bool}{R:List Zf}(E:R.length<=100) (h:∀r∈R,RK a r):Zb2 R:=by
 have c:∀r∈R,Xa r/\r.cond.length<=101:=λr B=>by
  obtain ⟨s,h1,_,h3⟩:=h r B;have:=h3.cl;have:=h3.tl;exact ⟨⟨yE,yE,λx A=>by have:=(h3.ca x A).1;omega,λx A=>by have:=h3.ta x A;omega⟩,yE⟩
 refine ⟨λr B=>(c r B).1,?_⟩;have:∀l:List Zf,(∀r∈l,r∈R)->(l.flatMap Yu).length<=101*l.length:=by
  intro l;induction l with
  |nil=>intro _;simp
  |cons r l ih=>
   intro C;have h1:=ih λq D=>C q (by simp [D]);have h2:=ZmS r;have h3:=(c r (C r yG)).2;rw [List.flatMap_cons,AS,AT];omega
 have:=this R λ_ h=>h;omega
theorem ZAs {R:List Zf}(h:∀r∈R,RK false r):ZgN R:=λr A x c B=>by
 obtain ⟨s,_,D,C⟩:=h r A;exact D rfl ((C.ca x c).2 B)
theorem Ztk {c:l1CurD}(h:Zae c) (a:Bool):∃R c',s_l14Rules c a=some (R,c')/\R.length<=3/\(∀r∈R,RK a r)/\Zae c':=by
 unfold s_l14Rules;obtain ⟨n,L,e,N,M,I⟩:=Zet h (n:=4) yE yE;rw [e,A0];have key:∀(k:Nat) (A:l1CurD) (row:List Zf),Zae A->row.length+k<=3->(∀r∈row,RK a r)->∃R c',Ys (σ:=(List Int)×Int×Int×(List Zf)×Int)
  (λs=>
   match s with
   |(f_4,f_5,f_6,row_7,n_8)=>
   if (decide (0<n_8))=true then
    (Zcn ({ b:=f_4,i:=f_5,h:=f_6 }:l1CurD) a).bind λB=>
    (QJ n_8).bind λf=>
    chk ((⟨#[114]⟩:ByteArray).size+f.size<=9223372036854775807) <|
    chk (row_7.length+1<=1073741824) <|
    some (.inl (B.2.b,B.2.i,B.2.h,(row_7++[({ name:=((⟨#[114]⟩:ByteArray)++f),priority:=B.1.priority,cond:=B.1.cond,thn:=B.1.thn }:Zf)]),(IntKind.i64.wrap (n_8 - 1))))
   else
    some (.inr (row_7,({ b:=f_4,i:=f_5,h:=f_6 }:l1CurD))))
  (A.b,A.i,A.h,row,(k:Int))=some (R,c')/\R.length<=3/\(∀r∈R,RK a r)/\Zae c':=by
  intro k;induction k with
  |zero=>
   intro A row d H D;exact ⟨row,A,ZZ rfl,yE,D,d⟩
  |succ k ih=>
   intro A row d H D;obtain ⟨r,c2,K,j,l⟩:=Zuh d a;have g:decide (0<(((k+1:Nat)):Int))=true:=decide_eq_true yE;have F:IntKind.i64.wrap ((((k+1:Nat)):Int) - 1)=(k:Int):=by rw [Y2 yE yE];omega
   have G:(ofL (Lib.itoa ((k+1:Nat):Int))).size<=21:=Zx1 ⟨yE,yE⟩;refine (Yg (s':=(c2.b,c2.i,c2.h,row++[({ name:=((⟨#[114]⟩:ByteArray)++ofL (Lib.itoa ((k+1:Nat):Int))),priority:=r.priority,cond:=r.cond,thn:=r.thn }:Zf)],(k:Int))) ?_) ▸ ih c2 _ l (by simp;omega) λq C=>?_
   .simp only[g,if_true];rw [show ({ b:=A.b,i:=A.i,h:=A.h }:l1CurD)=A from rfl,K,A0,Zho ⟨yE,yE⟩,A0,Zi _ (by have:(⟨#[114]⟩:ByteArray).size=1:=rfl;omega),Zi _ yE,F]
   .rcases A9.1 C with C|C
    .exact D q C
    .simp at C;subst C;exact j.name _ _
 have J:n=(n.toNat:Int):=by omega
 have:=key n.toNat L [] I (by simp;omega) (λy E=>by simp at E);rw [<-J]at this;exact this
theorem Zvw {c:l1CurD}(h:Zae c) {m:Int}(h0:0<=m) (h7:m<=7):∃l c',ZfG c m=some (l,c')/\l.length<=7/\(∀f∈l,f.args.length<=2)/\Zae c':=by
 unfold ZfG;have H:IntKind.i64.wrap (m+1)=m+1:=Y2 yE yE;rw [H];obtain ⟨n,c1,e,n0,n1,hc⟩:=Zet h (n:=m+1) yE yE;rw [e,A0];have t:∀(row:List Zd) (f:Zd),row.length<=7->(∀f∈row,f.args.length<=2)->f.args.length<=2->∃g,Xe row f=some g/\g.length<=row.length+1/\∀f∈g,f.args.length<=2:=λrow f T U R=>⟨_,ZnH row f yE (λx I=>by have:=U x I;omega) yE,Zj6 f row,λx I=>by
  rcases XI.1 I with rfl|I
  .exact R
  .exact U x I⟩
 have key:∀(k:Nat) (F:l1CurD) (row:List Zd),Zae F->row.length+k<=7->(∀f∈row,f.args.length<=2)->∃l c',Ys (σ:=(List Int)×Int×Int×(List Zd)×Int)
   (λs=>
   match s with
   |(f_9,f_10,f_11,row_12,n_13)=>
   if (decide (0<n_13))=true then
    (Zfd ({ b:=f_9,i:=f_10,h:=f_11 }:l1CurD) ([(⟨#[97]⟩),(⟨#[98]⟩),(⟨#[49]⟩),(⟨#[50]⟩)])).bind λo=>
    (Zfd o.2 ([(⟨#[97]⟩),(⟨#[98]⟩),(⟨#[49]⟩)])).bind λp=>
    (XZ p.2 5).bind λd=>
    if (d.1==0)=true then
     (Xe row_12 ({ rel:=(⟨#[112]⟩),args:=[o.1] }:Zd)).bind λu=>
     some (.inl (d.2.b,d.2.i,d.2.h,u,(IntKind.i64.wrap (n_13 - 1))))
    else
     if (d.1==1)=true then
      (Xe row_12 ({ rel:=(⟨#[97,116]⟩),args:=[o.1,p.1] }:Zd)).bind λw=>
      some (.inl (d.2.b,d.2.i,d.2.h,w,(IntKind.i64.wrap (n_13 - 1))))
     else
      if (d.1==2)=true then
       (Xe row_12 ({ rel:=(⟨#[113]⟩),args:=[o.1] }:Zd)).bind λz=>
       some (.inl (d.2.b,d.2.i,d.2.h,z,(IntKind.i64.wrap (n_13 - 1))))
      else
       (Xe row_12 ({ rel:=(⟨#[111,110]⟩),args:=[o.1,p.1] }:Zd)).bind λA=>
       some (.inl (d.2.b,d.2.i,d.2.h,A,(IntKind.i64.wrap (n_13 - 1))))
   else
    some (.inr (row_12,({ b:=f_9,i:=f_10,h:=f_11 }:l1CurD))))
   (F.b,F.i,F.h,row,(k:Int))=some (l,c')/\l.length<=7/\(∀f∈l,f.args.length<=2)/\Zae c':=by
  intro k;induction k with
  |zero=>
   intro F row q T P;exact ⟨row,F,ZZ rfl,yE,P,q⟩
  |succ k ih=>
   intro F row q T P;obtain ⟨a,c2,N,_,B⟩:=ZtA q (l:=[(⟨#[97]⟩),(⟨#[98]⟩),(⟨#[49]⟩),(⟨#[50]⟩)]) yG yG;obtain ⟨b,c3,M,_,C⟩:=ZtA B (l:=[(⟨#[97]⟩),(⟨#[98]⟩),(⟨#[49]⟩)]) yG yG;obtain ⟨x,G,L,_,_,D⟩:=Zet C (n:=5) yE yE;have j:decide (0<(((k+1:Nat)):Int))=true:=decide_eq_true yE;have H:IntKind.i64.wrap ((((k+1:Nat)):Int) - 1)=(k:Int):=by rw [Y2 yE yE];omega
   have K:∀f:Zd,f.args.length<=2->∀{body:(List Int)×Int×Int×(List Zd)×Int->Option (((List Int)×Int×Int×(List Zd)×Int) ⊕ (List Zd×l1CurD))},(body (F.b,F.i,F.h,row,((k+1:Nat):Int))=(Xe row f).bind λv=>some (.inl (G.b,G.i,G.h,v,(k:Int))))->(∀(row:List Zd),row.length+k<=7->(∀f∈row,f.args.length<=2)->∃l c',Ys body (G.b,G.i,G.h,row,(k:Int))=some (l,c')/\l.length<=7/\(∀f∈l,f.args.length<=2)/\Zae c')->∃l c',Ys body (F.b,F.i,F.h,row,((k+1:Nat):Int))=some (l,c')/\l.length<=7/\(∀f∈l,f.args.length<=2)/\Zae c':=λf R body hb hi=>by
    obtain ⟨g,ep,W,E⟩:=t row f yE P R;rw [Yg (hb.trans (by rw [ep];rfl))];exact hi g yE E
   have hi:=λrow=>ih G row D;by_cases J:x=0
   .refine K { rel:=(⟨#[112]⟩),args:=[a] } yG ?_ hi;simp only[j,if_true];rw [show ({ b:=F.b,i:=F.i,h:=F.h }:l1CurD)=F from rfl,N,A0,M,A0,L,A0,H,if_pos (by simp [J])]
   .by_cases O:x=1
    .refine K { rel:=(⟨#[97,116]⟩),args:=[a,b] } yG ?_ hi;simp only[j,if_true];rw [show ({ b:=F.b,i:=F.i,h:=F.h }:l1CurD)=F from rfl,N,A0,M,A0,L,A0,H,if_neg (by simp [J]),if_pos (by simp [O])]
    .by_cases S:x=2
     .refine K { rel:=(⟨#[113]⟩),args:=[a] } yG ?_ hi;simp only[j,if_true];rw [show ({ b:=F.b,i:=F.i,h:=F.h }:l1CurD)=F from rfl,N,A0,M,A0,L,A0,H,if_neg (by simp [J]),if_neg (by simp [O]),if_pos (by simp [S])]
     .refine K { rel:=(⟨#[111,110]⟩),args:=[a,b] } yG ?_ hi;simp only[j,if_true];rw [show ({ b:=F.b,i:=F.i,h:=F.h }:l1CurD)=F from rfl,N,A0,M,A0,L,A0,H,if_neg (by simp [J]),if_neg (by simp [O]),if_neg (by simp [S])]
 have e5:n=(n.toNat:Int):=by omega
 have:=key n.toNat c1 [] hc (by simp;omega) (λy V=>by simp at V);rw [<-e5]at this;exact this
theorem Zl6 (a:List Int) (h:a.length<=4096):∃R base,s_DrawMonotone a=some (R,base)/\R.length<=3/\(∀r∈R,RK false r)/\base.length<=7/\∀f∈base,f.args.length<=2:=by
 obtain ⟨c,E,B⟩:=Zy0 a h;obtain ⟨R,H,D,r1,r2,A⟩:=Ztk B false;obtain ⟨base,c2,C,G,F,_⟩:=Zvw A (m:=5) yE yE;refine ⟨R,base,?_,r1,r2,G,F⟩;unfold s_DrawMonotone;rw [E,A0,D,A0,C];rfl
section
open Classical
def ZFE (R:List Zf) (base M:List Zd) (ok:Bool):Prop:=(ok=false/\M=[])\/(ok=true/\∃F,Yf R base F/\(YG R F base).length<=60/\M=XM F (rdB { nodes:=(F.length:Int),reasons:=YG R F base }))
theorem ZrW {R:List Zf}(B:Zb2 R) (base:List Zd) (a:base.length<=1048576):∃M ok,s_ModelOf R base=some (M,ok)/\i_ModelOf R base=some (M,ok)/\ZFE R base M ok:=by
 obtain ⟨F,b,ok,E,D,C⟩:=Zi5 B base a;unfold s_ModelOf i_ModelOf;rw [E,D];rcases C with ⟨rfl,rfl,rfl⟩|⟨rfl,A,rfl,c⟩
 .exact ⟨_,_,rfl,rfl,.inl ⟨rfl,rfl⟩⟩
 .have hB:=Zcg.of A c;refine ⟨_,true,?_,?_,.inr ⟨rfl,F,A,c,rfl⟩⟩
  .rw [A0,if_pos rfl,ZAp hB A.args rfl];rfl
  .rw [A0,if_pos rfl,Zsp hB A.args rfl];rfl
theorem Zx8 {l:List Zd}{f:Zd}:Z0 l f<0↔f∉l:=by
 rcases Zgt l f with ⟨A,c⟩|⟨j,A,c⟩
 .exact ⟨λ_=>A,λ_=>by omega⟩
 .exact ⟨λh=>by omega,λh=>absurd (AJ c) h⟩
theorem Zrr {l:List Zd}{f:Zd}:0<=Z0 l f↔f∈l:=by
 have:=Zx8 (l:=l) (f:=f);by_cases h:f∈l
 .exact ⟨λ_=>h,λ_=>Int.not_lt.1 λc=>this.1 c h⟩
 .exact ⟨λc=>absurd c (Int.not_le.2 (this.2 h)),λA=>absurd A h⟩
end
section
open Classical
theorem Zlr (n:ByteArray):∀(l:List Zf) (i:Nat),(∃z,Zm (σ:=Unit) (ρ:=Int) (λ(F:Nat) (E:Zf) _=>if (sEq E.name n)=true then some (.inr (F:Int)) else some (.inl ())) (λ_=>some (-1)) l i ()=some z/\((z=-1/\∀r∈l,r.name≠n)\/∃j r,z=((i+j:Nat):Int)/\l[j]?=some r/\r.name=n/\∀k u,k<j->l[k]?=some u->u.name≠n))
 | [],i=>⟨-1,rfl,.inl ⟨rfl,yG⟩⟩
 |x::l,i=>by
  by_cases c:x.name=n
  .exact ⟨(i:Int),Z4 (by rw [if_pos (ZP.2 c)]),.inr ⟨0,x,yG,rfl,c,λk u H=>by omega⟩⟩
  .obtain ⟨z,e,G⟩:=Zlr n l (i+1);refine ⟨z,(ZQ (s':=()) (by rw [if_neg (by rw [ZP];exact c)])).trans e,?_⟩;rcases G with ⟨D,C⟩|⟨j,r,D,C,J,I⟩
   .refine .inl ⟨D,λr A=>?_⟩;rcases AL.1 A with rfl|A
    .exact c
    .exact C r A
   .refine .inr ⟨j+1,r,by rw [D];congr 1;omega,by simpa using C,J,λk u H B=>?_⟩;cases k with
    |zero=>simp at B;subst B;exact c
    |succ k=>exact I k u yE (by simpa using B)
theorem ZvF (l:List Zf) (n:ByteArray):(Zda l n=-1/\∀r∈l,r.name≠n)\/∃j r,Zda l n=((j:Nat):Int)/\l[j]?=some r/\r.name=n/\∀k u,k<j->l[k]?=some u->u.name≠n:=by
 obtain ⟨z,e,A⟩:=Zlr n l 0
 have c:XG l n=some z:=e
 rw [Q9]at c
 obtain rfl:=Ad c
 simpa using A
theorem Zrj (R:List Zf):ZN R=true↔R.length<=6/\(∀r∈R,YE r=true)/\R.Pairwise λa b=>a.name≠b.name:=by
 unfold ZN
 rw [AH,decide_eq_true_iff]
 refine and_congr_right λ_=>?_
 constructor
 .intro h
  have f:∀j r,R[j]?=some r->YE r=true/\Zda R r.name=((j:Nat):Int):=λj r B=>by
   have:=Zij h j r B
   unfold Zdv at this
   rw [AH,beq_iff_eq,AW]at this
   exact this
  refine ⟨λr G=>?_,AR.2 λi j hi B K e=>?_⟩
  .obtain ⟨j,B⟩:=Ao G
   exact (f j r B).1
  .have h1:=(f i _ (AG hi)).2
   have h2:=(f j _ (AG B)).2
   rw [e]at h1
   omega
 .rintro ⟨h1,h2⟩
  have key:∀(d c:List Zf),R=c++d->QG (Zdv R) d c.length=true:=by
   intro d
   induction d with
   |nil=>intro c _;rfl
   |cons x d ih=>
    intro c e
    simp only[QG,AH]
    refine ⟨?_,by have:=ih (c++[x]) (by rw [e];simp);simpa using this⟩
    unfold Zdv
    rw [AH,beq_iff_eq]
    refine ⟨h1 x (by rw [e];simp),?_⟩
    have D:R[c.length]?=some x:=by rw [e];simp
    rcases ZvF R x.name with ⟨_,C⟩|⟨j,r,J,C,I,H⟩
    .exact absurd rfl (C x (by rw [e];simp))
    .rw [J]
     congr 1
     rcases Ae j c.length with A|A|A
     .exfalso
      obtain ⟨F,M⟩:=AF.1 C
      obtain ⟨E,L⟩:=AF.1 D
      exact AR.1 h2 j c.length F E A (by rw [M,L,I])
     .exact A
     .exact absurd rfl (H c.length x A D)
  exact key R [] rfl
end
section
open Classical
theorem ZuL (l:List Zd) (f:Zd):Zku l f=some (decide (f∈l)):=by
 unfold Zku;rw [ZcN,A0];exact congrArg some (decide_eq_decide.2 Zrr)
theorem Zti (a b:List Zd):ZeF a b=some (a.all λx=>decide (x∈b)):=by
 unfold ZeF;rw [Z1 (p:=λx=>decide (x∈b)) (r:=false)]
 .cases a.all (λx=>decide (x∈b))<;>rfl
 .intro i x _;rw [ZuL,A0];by_cases h:x∈b
  .rw [decide_eq_true h];rfl
  .rw [decide_eq_false h];rfl
theorem ZkC {a b:List Zd}(h:∀x∈a,x∈b):ZeF a b=some true:=by
 rw [Zti];exact congrArg some (Ab.2 λx c=>decide_eq_true (h x c))
theorem ZkW (l:List Zd):Zc2 l l=some true:=by
 unfold Zc2;rw [if_neg yG,Xf (p:=λ_ _=>true) (r:=false)]
 .have:∀(l:List Zd) (i:Nat),QG (λ_ _=>true) l i=true:=by
   intro l;induction l with
   |nil=>intro i;rfl
   |cons x l ih=>intro i;simp [QG,ih]
  rw [this];rfl
 .intro j x c;rw [Y3,AW,c,A0,ZsI,A0];simp
theorem Zw2 {a:List Int}(h:¬decide (4096<(a.length:Int))=true):a.length<=4096:=by
 simp at h;omega
theorem ZyY (a:List Int):ZwB a=some (decide (4096<(a.length:Int))):=rfl
end
section
open Classical
section
variable {R:List Zf} {c l f:Nat} {e:Zo}
theorem ZBN (h:EB R c l f e) (E:ZN R=true) (D:∀r∈R,Xa r) (M:c<=150) (K:l<=400) (L:f<=40) {x:Zd}(F:x.args.length<=1048576):∃C b,ZdU e x=some (C,b)/\EB R (c+1) (l+1) f C/\(C=e/\(Ya x=true->x∈e.memory.map (·.fact)\/24<=e.memory.length)\/Ya x=true/\x∉e.memory.map (·.fact)/\C.memory=Zfo { fact:=x,time:=e.clock+1 } e.memory/\C.fired=e.fired):=by
 obtain ⟨J,I⟩:=h.m24;have hck:=h.ck;have hll:=h.ll;have a:EB R (c+1) (l+1) f e:=h.more yE yE (A5 _);unfold ZdU;rw [h.copy E D yE yE,A0,h.isE E D yE yE yE,A0,if_pos rfl,QK,A0];by_cases A:Ya x=true
 rotate_left
 .rw [if_neg A];exact ⟨e,false,rfl,a,.inl ⟨rfl,λG=>absurd G A⟩⟩
 rw [if_pos A,ZcH,A0];by_cases B:x∈e.memory.map (·.fact)
 .rw [if_pos (decide_eq_true B)];exact ⟨e,false,rfl,a,.inl ⟨rfl,λ_=>.inl B⟩⟩
 rw [if_neg (by rw [decide_eq_true_iff];exact B)];by_cases H:24<=e.memory.length
 .rw [if_pos (by simp;omega)];exact ⟨e,false,rfl,a,.inl ⟨rfl,λ_=>.inr H⟩⟩
 rw [if_neg (by simp;omega),if_neg (by simp;omega),if_neg (by simp;omega),Zzw e 1 _ F yE yE yE,A0];exact ⟨_,true,rfl,h.add A B yE (.inl rfl) (ZBQ (.inl rfl) A),.inr ⟨A,B,rfl,rfl⟩⟩
theorem Zsx {ρ:Type}{Q:Prop}{F:List Zd}(K:ZN R=true) (J:∀r∈R,Xa r) (L:Q->ZgN R/\F.length<=24) {body:Nat->Zd->(Int×Bool×(List Zf)×(List Zr)×(List ZK)×(List Yp))->Option ((Int×Bool×(List Zf)×(List Zr)×(List ZK)×(List Yp)) ⊕ ρ)}{fin:(Int×Bool×(List Zf)×(List Zr)×(List ZK)×(List Yp))->Option ρ}
  (I:∀i x e,body i x (Zch e)=(ZdU e x).bind λv=>some (.inl (Zch v.1))):
  ∀(A a:List Zd) (i:Nat) (e:Zo),(∀x∈A,x.args.length<=1048576/\(Q->Ya x=true/\x∈F))->a.length+A.length<=20->EB R a.length a.length 0 e->(Q->EM R F a e)->∃C,Zm body fin A i (Zch e)=fin (Zch C)/\EB R (a++A).length (a++A).length 0 C/\(Q->EM R F (a++A) C)
 | [],a,i,e,_,_,h,hq=>⟨e,rfl,by simpa using h,by simpa using hq⟩
 |x::A,a,i,e,hA,hl,h,hq=>by
  simp only[AT]at hl;obtain ⟨P,O⟩:=hA x yG;obtain ⟨e1,b,g1,g2,g3⟩:=ZBN h K J yE yE yE P;have W:EB R (a++[x]).length (a++[x]).length 0 e1:=by simpa using g2
  have V:Q->EM R F (a++[x]) e1:=λq=>by
   obtain ⟨T,U⟩:=L q;obtain ⟨N,H⟩:=O q;have hE:=hq q;rcases g3 with ⟨rfl,d⟩|⟨_,G,c,f⟩
   .have E:x∈e1.memory.map (·.fact):=by
     rcases d N with E|M
     .exact E
     .refine Classical.byContradiction λG=>?_;have j:(e1.memory.map (·.fact)).Nodup:=Zcm (QP h.fa);have:=ZdQ (l:=x::e1.memory.map (·.fact)) (m:=F) (An.2 ⟨G,j⟩) λz D=>by
       rcases AL.1 D with rfl|D
       .exact H
       .exact hE.sub z D
      simp only[AT,AX]at this;omega
    refine ⟨hE.sub,λg B=>?_,hE.fir⟩;rcases A9.1 B with B|B
    .exact hE.inc g B
    .simp at B;subst B;exact E
   .exact hE.put T H G c f
  obtain ⟨C,f1,f2,f3⟩:=Zsx K J L I A (a++[x]) (i+1) e1 (λy S=>hA y (by simp [S])) (by simp;omega) W V;refine ⟨C,(ZQ (by rw [I,g1];rfl)).trans f1,by simpa using f2,by simpa using f3⟩
def ZEa (e:Zo) (k:Nat):Int×Bool×(List Zf)×(List Zr)×(List ZK)×(List Yp)×Int:=(e.clock,e.halted,e.rules,e.memory,e.fired,e.log,(k:Int))
theorem ZFr {Q:Prop}{base F:List Zd}(O:ZN R=true) (T:R.length<=3) (N:∀r∈R,Xa r) (P:Q->ZgN R/\Yf R base F) {body:(Int×Bool×(List Zf)×(List Zr)×(List ZK)×(List Yp)×Int)->Option ((Int×Bool×(List Zf)×(List Zr)×(List ZK)×(List Yp)×Int) ⊕ (Zo×Int))}
  (D:∀e k,body (ZEa e k)=if (decide ((k:Int)<60))=true then (i_StepEngine e).bind λv=>if v.2=true then some (.inl (v.1.clock,v.1.halted,v.1.rules,v.1.memory,v.1.fired,v.1.log,IntKind.i64.wrap ((k:Int)+1))) else some (.inr (e,(k:Int))) else some (.inr (e,(k:Int)))):
  ∀(m k:Nat) (e:Zo),k+m=60->e.fired.length<=40->EB R (20+2*e.fired.length) (20+3*e.fired.length) e.fired.length e->(Q->EM R F base e)->∃A z,Ys body (ZEa e k)=some (A,z)/\A.fired.length<=40/\EB R (20+2*A.fired.length) (20+3*A.fired.length) A.fired.length A/\(Q->EM R F base A):=by
 intro m;induction m with
 |zero=>
  intro k e M a h B;refine ⟨e,(k:Int),ZZ ?_,a,h,B⟩;rw [D,if_neg (by simp;omega)]
 |succ m ih=>
  intro k e M a h B;obtain ⟨C,b,G,V⟩:=ZyK h O T N yE yE yE;rcases V with ⟨rfl,rfl⟩|⟨rfl,L,U,r,I,t,H,E⟩
  .refine ⟨C,(k:Int),ZZ ?_,a,h,B⟩;rw [D,if_pos (decide_eq_true yE),G,A0,if_neg yG]
  .have c:C.fired.length=e.fired.length+1:=by
    rw [E,Zi7];show (e.fired++[_]).length=_
    simp
   have J:IntKind.i64.wrap ((k:Int)+1)=((k+1:Nat):Int):=by rw [Y2 yE yE];omega
   rw [Yg (s':=ZEa C (k+1)) (by rw [D,if_pos (decide_eq_true yE),G,A0,if_pos rfl,J];rfl)];refine ih (k+1) C yE yE (by rw [c];exact U.more yE yE yE) λq=>?_;obtain ⟨K,S⟩:=P q;rw [E];exact (B q).step K S (Zcm (QP h.fa)) I H
end
theorem EB.start {R:List Zf}:EB R 0 0 0 { rules:=R,memory:=[],clock:=0,fired:=[],halted:=false,log:=[] }:=
 ⟨rfl,ZhA yG yG B6,yG,yG,⟨AI _,yG⟩,yG,yG,yG,yG,yG⟩
theorem FnEngineModel_plain (f:List Int):w_FnEngineModel f=some true:=by
 unfold w_FnEngineModel;rw [ZyY,A0];split
 .rfl
 rename_i l;obtain ⟨R0,base,e1,hl,o,aa,v⟩:=Zl6 f (Zw2 l);have c:=ZwS yE o;have a:=ZAs o;obtain ⟨M,J,e2,e3,hM⟩:=ZrW c base yE;rw [e1];simp only[A0];rw [e3];simp only[A0];rw [e2];simp only[A0];rw [if_pos yG];obtain ⟨R,b⟩:∃R,R=if ZN R0=true then R0 else []:=⟨_,rfl⟩
 have I:ZN R=true:=by
  rw [b];split
  .assumption
  .exact (Zrj []).2 ⟨yG,yG,B6⟩
 have p:∀r∈R,r∈R0:=λr N=>by
  rw [b]at N;split at N
  .exact N
  .simp at N
 have U:R.length<=3:=by
  rw [b];split
  .exact hl
  .simp
 have P:∀r∈R,Xa r:=λr N=>c.s r (p r N);have w:Zdg R0=some ({ rules:=R,memory:=[],clock:=0,fired:=[],halted:=false,log:=[] },ZN R0):=by
  unfold Zdg;rw [ZcX c.s,A0];by_cases O:ZN R0=true
  .rw [if_pos O,Zkh R0 yE c.s,A0,b,if_pos O,O]
  .rw [if_neg O,b,if_neg O,Bool.eq_false_iff.2 O]
 rw [w];simp only[A0];obtain ⟨F,hF⟩:∃F:List Zd,J=true->Yf R0 base F/\M=F/\R=R0:=by
  rcases hM with ⟨rfl,rfl⟩|⟨rfl,F,T,y,d⟩
  .exact ⟨[],λh=>by simp at h⟩
  .refine ⟨F,λ_=>⟨T,d.trans (Zur a T y),?_⟩⟩;have:=T.logical;rw [AH]at this;rw [b,if_pos this.1]
 have S:J=true->ZgN R/\Yf R base F:=λh=>by
  obtain ⟨h1,h2,U⟩:=hF h;rw [U];exact ⟨a,h1⟩
 have key:=λbody fin V (hf:∀e,EB R base.length base.length 0 e->(J=true->EM R F base e)->fin (Zch e)=some true)=>show Zm body fin base 0 (Zch { rules:=R,memory:=[],clock:=0,fired:=[],halted:=false,log:=[] })=some true from by
  obtain ⟨e,f1,f2,f3⟩:=Zsx (ρ:=Bool) (Q:=J=true) (R:=R) (F:=F) I P (λq=>⟨(S q).1,(S q).2.len⟩) (body:=body) (fin:=fin) V base [] 0 _ (λx K=>⟨by have:=v x K;omega,λq=>⟨(Xs (S q).2.facts).2 x K,(S q).2.good.inc x K⟩⟩) (by simp;omega) EB.start (λ_=>⟨yG,yG,yG⟩);rw [f1];exact hf e f2 f3
 refine key _ _ ?_ ?_
 .exact λi x e=>rfl
 intro e h hE;have hfl:=h.fl;have A:e.fired.length=0:=by omega
 obtain ⟨H,z,g1,g2,g3,g4⟩:∃H z,i_RunEngine e 60=some (H,z)/\H.fired.length<=40/\EB R (20+2*H.fired.length) (20+3*H.fired.length) H.fired.length H/\(J=true->EM R F base H):=by
  unfold i_RunEngine;rw [h.copy I P yE yE,A0];have key:=λbody V=>ZFr (Q:=J=true) (base:=base) (F:=F) I U P S (body:=body) V 60 0 e yE yE (by rw [A];exact h.more yE yE yE) hE;refine key _ ?_;exact λe k=>rfl
 obtain ⟨m1,m2⟩:=g3.m24;have B:∀x∈H.memory,x.fact.args.length<=1048576:=λx K=>by have:=(m2 x K).2;omega
 show (i_RunEngine e 60).bind _=some true
 rw [g1];simp only[A0];rw [Zgu H.memory yE B];simp only[A0];cases J with
 |false=>rfl
 |true=>
  obtain ⟨T,d,C⟩:=hF rfl;have g:=g4 rfl;obtain ⟨j,D⟩:=S rfl;have E:ZN R0=true:=by rw [<-C];exact I
  rw [if_pos rfl,if_pos E,ZkC g.inc];simp only[A0,if_true];rw [ZkC (by rw [d];exact g.sub)];simp only[A0,if_true];obtain ⟨L,l1,l2,l3,l4⟩:=ZsY (R:=R) (M:=H.memory) H.fired I U P (g3.mem yE);have t:i_Conflicts H=some L:=by
   unfold i_Conflicts;rw [g3.isE I P yE yE yE,A0,if_pos rfl,g3.ru,l1];rfl
  have G:i_IsQuiet H=some ((L.length:Int)==0):=by
   unfold i_IsQuiet;rw [g3.isE I P yE yE yE,A0,if_pos rfl,t];rfl
  rw [G];simp only[A0];cases L with
  |cons x L=>
   rw [if_neg (by simp;omega)]
  |nil=>
   rw [if_pos yG];have u:=g.all j I D g3 λm W=>(l4 m W).resolve_left λ⟨x,K,_⟩=>by simp at K
   rw [u,d,ZkW];rfl
end
section
open Go.RowKit
def ZJ {α β:Type}(R:α->β->Prop):List α->List β->Prop
 | [],[]=>True
 |a::l,b::r=>R a b/\ZJ R l r
 |_,_=>False
section
variable {α β:Type} {R R':α->β->Prop}
theorem ZJ.len:∀{l:List α}{r:List β},ZJ R l r->l.length=r.length
 | [],[],_=>rfl
 |_::_,_::_,h=>by simp [h.2.len]
 | [],_::_,h=>h.elim
 |_::_,[],h=>h.elim
theorem ZJ.mono:∀{l:List α}{r:List β},ZJ R l r->(∀a b,a∈l->R a b->R' a b)->ZJ R' l r
 | [],[],_,_=>trivial
 |_::_,_::_,h,f=>⟨f _ _ yG h.1,h.2.mono λa b m=>f a b (by simp [m])⟩
 | [],_::_,h,_=>h.elim
 |_::_,[],h,_=>h.elim
theorem ZJ.at:∀{l:List α}{r:List β}{i:Nat}{a:α},ZJ R l r->l[i]?=some a->∃b,r[i]?=some b/\R a b
 | [],[],_,_,_,h=>by simp at h
 |_::_,b::_,0,_,h,e=>by simp at e;subst e;exact ⟨b,yG,h.1⟩
 |_::_,_::_,i+1,a,h,e=>by
  obtain ⟨b,A,c⟩:=h.2.at (i:=i) (a:=a) (by simpa using e);exact ⟨b,by simpa using A,c⟩
 | [],_::_,_,_,h,_=>h.elim
 |_::_,[],_,_,h,_=>h.elim
theorem ZJ.set:∀{l:List α}{r:List β}{i:Nat}{a:α}{b:β},ZJ R l r->R a b->ZJ R (l.set i a) (r.set i b)
 | [],[],_,_,_,_,_=>trivial
 |_::_,_::_,0,_,_,h,e=>⟨e,h.2⟩
 |_::_,_::_,_+1,_,_,h,e=>⟨h.1,h.2.set e⟩
 | [],_::_,_,_,_,h,_=>h.elim
 |_::_,[],_,_,_,h,_=>h.elim
theorem ZJ.drop:∀{l:List α}{r:List β}(n:Nat),ZJ R l r->ZJ R (l.drop n) (r.drop n)
 |_,_,0,h=>by simpa using h
 | [],[],n+1,_=>by simp [ZJ]
 |_::_,_::_,n+1,h=>by simpa using h.2.drop n
 | [],_::_,_+1,h=>h.elim
 |_::_,[],_+1,h=>h.elim
theorem ZJ.take:∀{l:List α}{r:List β}(n:Nat),ZJ R l r->ZJ R (l.take n) (r.take n)
 |_,_,0,h=>by simp [ZJ]
 | [],[],n+1,_=>by simp [ZJ]
 |_::_,_::_,n+1,h=>by simpa using ⟨h.1,h.2.take n⟩
 | [],_::_,_+1,h=>h.elim
 |_::_,[],_+1,h=>h.elim
theorem ZJ.append:∀{l A:List α}{r c:List β},ZJ R l r->ZJ R A c->ZJ R (l++A) (r++c)
 | [],_,[],_,_,h=>h
 |_::_,_,_::_,_,h,h'=>⟨h.1,h.2.append h'⟩
 | [],_,_::_,_,h,_=>h.elim
 |_::_,_,[],_,h,_=>h.elim
end
class NW where
 B0:Nat
structure Gh where
 val:Nat->Value
 O:Nat->List Nat
 D:Nat->List Nat
 Z:Nat->Prop
def Gh.own (g:Gh) (b:Nat):Prop:=(∃k,b∈g.O k)\/g.Z b
def Gh.low (g:Gh) (b:Nat):Prop:=g.own b\/∃k,b∈g.D k
structure Ql (g g':Gh) (n:Nat):Prop where
 own:∀b,g'.own b->g.own b\/n<=b
 low:∀b,g'.low b->g.low b\/n<=b
structure XV (g' g:Gh):Prop where
 own:∀b,g'.own b->g.own b
 low:∀b,g'.low b->g.low b
theorem Ql.refl (g:Gh) (n:Nat):Ql g g n:=⟨λ_ h=>.inl h,λ_ h=>.inl h⟩
theorem XV.refl (g:Gh):XV g g:=⟨λ_ h=>h,λ_ h=>h⟩
theorem XV.trans {a b c:Gh}(h:XV a b) (k:XV b c):XV a c:=⟨λx A=>k.own x (h.own x A),λx A=>k.low x (h.low x A)⟩
theorem XV.grow {A g:Gh}(h:XV A g) (n:Nat):Ql g A n:=⟨λx c=>.inl (h.own x c),λx c=>.inl (h.low x c)⟩
theorem XV.of {c g:Gh}(h:∀b,c.own b->g.own b) (k:∀j b,b∈c.D j->∃i,b∈g.D i):XV c g:=⟨h,λx B=>B.imp (h x) λ⟨j,A⟩=>k j x A⟩
theorem Ql.of {g A:Gh}{n:Nat}(h:∀b,A.own b->g.own b\/n<=b) (k:∀j b,b∈A.D j->g.low b\/n<=b):Ql g A n:=⟨h,λx c=>by
 rcases c with c|⟨j,B⟩
 .exact (h x c).imp (λq=>.inl q) id
 .exact k j x B⟩
structure Qq extends World where
 z:Nat->Prop
 x:Nat->Prop
 hv:Option Value
 y:Nat->Prop:=λ_=>False
structure Bel (W:Qq) (w:World):Prop where
 os:w.os=W.os
 tape:w.tape=W.tape
 output:w.output=W.output
 size:W.heap.size<=w.heap.size
 block:∀k,k<W.heap.size->¬W.x k->w.heap[k]?=W.heap[k]?
theorem Bel.trans {W:Qq}{w w':World}(h:Bel W w) (k:Below w.heap.size w w'):Bel W w':=
 ⟨k.os.trans h.os,k.tape.trans h.tape,k.output.trans h.output,Nat.le_trans h.size k.size,λi hi c=>(k.block i (Nat.lt_of_lt_of_le hi h.size)).trans (h.block i hi c)⟩
def NR [NW] (g:Gh) (w:World) (x:CT) (v:Value):Prop:=
 ∃e m xs cs L,x=.sl e m xs/\0<m/\w.ownsV 0 e m v xs.length cs/\REs w m xs cs L/\(v.ownBlock.toList++L).Nodup/\∀b∈v.ownBlock.toList++L,¬g.low b/\NW.B0<=b/\∃cur t,w.heap[b]?=some (.cells cur t (0,0))
def AVR [NW] (g:Gh) (w:World):AV->Value->Prop
 |.c x,v=>∃L,RC w x v L/\∀b∈L,¬g.own b
 |.n x,v=>NR g w x v
 |.row k,v=>v=g.val k/\v.oneCell'=true
 |.nil _ _,v=>v=.slice none 0 0
 |.dead,v=>v.oneCell'=true
def PVR [NW] (g:Gh) (w:World):Bool->List AV->Value->Prop
 |true,cs,v=>∃vs:List Value,v=.agg vs.toArray/\ZJ (AVR g w) cs vs
 |false,cs,v=>∃x,cs=[x]/\AVR g w x v
def SVR [NW] (g:Gh) (w:World):SV->Value->Prop
 |.any,_=>True
 |.und,v=>v=undef
 |.p a cs,v=>PVR g w a cs v
 |.tup xs,v=>∃vs:List Value,v=.tuple vs.toArray/\ZJ (λx u=>PVR g w x.1 x.2 u) xs vs
 |.bp k off,v=>∃b,g.val k=.pointer (some ⟨b,0,none⟩)/\v=.pointer (some ⟨b,off,none⟩)
 |.rp k m i off,v=>∃b o n c,g.val k=.slice (some ⟨b,o,none⟩) n c/\v=.pointer (some ⟨b,o+(i*m+off),none⟩)
 |.ep e off,v=>∃b lo cs L,v=.pointer (some ⟨b,lo+off,none⟩)/\Zbr w b lo cs/\RCs w e cs L/\(∀x∈b::L,¬g.own x)/\b<w.heap.size
 |.fn f,v=>v=.func (.func f) #[] #[]
def ObR [NW] (g:Gh) (w:World) (k:Nat):Ob->Prop
 |.gone=>g.O k=[]/\g.D k=[]
 |.box t cs=>∃b vs,g.val k=.pointer (some ⟨b,0,none⟩)/\g.O k=[b]/\g.D k=[]/\w.heap[b]?=some (.cells vs.toArray t (0,0))/\ZJ (AVR g w) cs vs
 |.row e m xs d=>0<m/\∃cs L,w.ownsV 0 e m (g.val k) xs.length cs/\REs w m xs cs L/\((d=2/\g.O k=(g.val k).ownBlock.toList/\g.D k=L)\/(d=1/\g.O k=(g.val k).ownBlock.toList/\g.D k=[]/\∀b∈L,¬g.own b)\/(d=0/\g.O k=[]/\g.D k=[]/\∀b∈(g.val k).ownBlock.toList++L,¬g.own b))
 |.map kk vk kv=>∃b es c,g.val k=.map (some b)/\g.O k=[b]/\g.D k=[]/\w.heap[b]?=some (.map es c)/\Zei es=kv/\Zj9 kk vk kv
def YT (w:World) (o:Ob) (b:Nat):Prop:=
 match o with
 |.map _ _ _=>∃es c,w.heap[b]?=some (.map es c)
 |_=>∃cur e,w.heap[b]?=some (.cells cur e (0,0))
theorem YT.lt {w:World}{o:Ob}{b:Nat}(h:YT w o b):b<w.heap.size:=by
 unfold YT at h;split at h
 .obtain ⟨_,_,h⟩:=h;exact (Aq.1 h).1
 .obtain ⟨_,_,h⟩:=h;exact (Aq.1 h).1
theorem YT.keep {w w':World}{o:Ob}{b:Nat}(h:YT w o b) (e:w'.heap[b]?=w.heap[b]?):YT w' o b:=by
 unfold YT at h ⊢;rw [e];exact h
def Zji:Ob->Bool
 |.map _ _ _=>true
 |_=>false
theorem YT.of {w:World}{o o':Ob}{b:Nat}(h:YT w o b) (e:Zji o'=Zji o):YT w o' b:=by
 cases o<;>cases o'<;>simp [Zji]at e<;>exact h
structure HI [NW] (W:Qq) (g:Gh) (ob:Nat->Ob) (w:World):Prop where
 below:Bel W w
 obs:∀k,ObR g w k (ob k)
 nodup:∀k,(g.O k++g.D k).Nodup
 apart:∀k j,k≠j->∀b∈g.O k++g.D k,b∉g.O j++g.D j
 plain:∀k,∀b∈g.O k++g.D k,(W.heap.size<=b\/W.x b\/W.y b)/\YT w (ob k) b
 gz:g.Z=W.z
 zx:∀b,W.z b->b<W.heap.size/\¬W.x b/\¬W.y b
 nw:∀b,(W.heap.size<=b\/W.x b\/W.y b)->NW.B0<=b
 oy:∀k,∀b∈g.O k,W.heap.size<=b\/W.x b
def avU (U:Nat->Prop):AV->Prop
 |.row k=>U k
 |_=>True
def XX (U:Nat->Prop) (cs:List AV):Prop:=∀x∈cs,avU U x
def svU (U:Nat->Prop):SV->Prop
 |.p _ cs=>XX U cs
 |.tup xs=>∀x∈xs,XX U x.2
 |.bp k _=>U k
 |.rp k _ _ _=>U k
 |_=>True
def obU (U:Nat->Prop):Ob->Prop
 |.box _ cs=>XX U cs
 |_=>True
structure StU (U:Nat->Prop) (st:St):Prop where
 sl:∀t,svU U (st.sl t)
 ob:∀k,obU U (st.ob k)
 gone:∀k,¬U k->st.ob k=.gone
theorem HI.lt [NW] {W:Qq}{g:Gh}{ob:Nat->Ob}{w:World}(h:HI W g ob w) (k:Nat):∀b∈g.O k++g.D k,b<w.heap.size:=by
 intro b m;exact (h.plain k b m).2.lt
theorem HI.nz [NW] {W:Qq}{g:Gh}{ob:Nat->Ob}{w:World}(h:HI W g ob w) {k b:Nat}(m:b∈g.O k++g.D k):¬g.Z b:=λA=>by
 rw [h.gz]at A;obtain ⟨C,B⟩:=h.zx b A;rcases (h.plain k b m).1 with c|c|c
 .omega
 .exact B.1 c
 .exact B.2 c
theorem HI.oyOf [NW] {W:Qq}{g c:Gh}{ob ob':Nat->Ob}{w w':World}(h:HI W g ob w) (B:∀b,c.own b->g.own b\/w.heap.size<=b)
  (A:∀k,∀b∈c.O k++c.D k,(W.heap.size<=b\/W.x b\/W.y b)/\YT w' (ob' k) b):∀k,∀b∈c.O k,W.heap.size<=b\/W.x b:=λk b m=>by
 rcases B b (.inl ⟨k,m⟩) with (⟨j,mj⟩|hz)|hn
 .exact h.oy j b mj
 .rw [h.gz]at hz;obtain ⟨F,E,C⟩:=h.zx b hz;rcases (A k b (by simp [m])).1 with q|q|q
  .omega
  .exact absurd q E
  .exact absurd q C
 .exact .inl (Nat.le_trans h.below.size hn)
section
variable {g g':Gh} {w w':World} {U:Nat->Prop}
theorem NR.move [NW] {x:CT}{v:Value}(h:NR g w x v)
  (B:∀b,b<w.heap.size->¬g.own b->w'.heap[b]?=w.heap[b]?) (C:Ql g g' w.heap.size):NR g' w' x v:=by
 obtain ⟨e,m,xs,cs,L,H,G,F,E,D,A⟩:=h;have a:∀b∈v.ownBlock.toList++L,b<w.heap.size:=λb c=>by
  obtain ⟨_,_,_,_,q⟩:=A b c;exact (Aq.1 q).1
 have hs:∀b∈v.ownBlock.toList++L,w'.heap[b]?=w.heap[b]?:=λb c=>B b (a b c) λo=>(A b c).1 (.inl o);refine ⟨e,m,xs,cs,L,H,G,XJ F λb c=>hs b (by simp [c]),E.keep λb c=>hs b (by simp [c]),D,λb c=>⟨λo=>?_,(A b c).2.1,by rw [hs b c];exact (A b c).2.2⟩⟩;rcases C.low b o with o|o
 .exact (A b c).1 o
 .have:=a b c;omega
theorem AVR.move [NW] {x:AV}{v:Value}(h:AVR g w x v) (E:avU U x) (F:∀k,U k->g'.val k=g.val k)
  (A:∀b,b<w.heap.size->¬g.own b->w'.heap[b]?=w.heap[b]?) (B:Ql g g' w.heap.size):AVR g' w' x v:=by
 cases x with
 |c x=>
  obtain ⟨L,D,C⟩:=h;have a:=D.lt;refine ⟨L,D.keep λb m=>A b (a b m) (C b m),λb m o=>?_⟩;rcases B.own b o with o|o
  .exact C b m o
  .have:=a b m;omega
 |n x=>exact NR.move h A B
 |row k=>exact ⟨h.1.trans (F k E).symm,h.2⟩
 |nil e m=>exact h
 |dead=>exact h
theorem AVRs.move [NW] {cs:List AV}{vs:List Value}(h:ZJ (AVR g w) cs vs) (c:XX U cs) (B:∀k,U k->g'.val k=g.val k)
  (A:∀b,b<w.heap.size->¬g.own b->w'.heap[b]?=w.heap[b]?) (C:Ql g g' w.heap.size):ZJ (AVR g' w') cs vs:=
 h.mono λa _ m r=>r.move (c a m) B A C
theorem PVR.move [NW] {a:Bool}{cs:List AV}{v:Value}(h:PVR g w a cs v) (B:XX U cs) (D:∀k,U k->g'.val k=g.val k)
  (C:∀b,b<w.heap.size->¬g.own b->w'.heap[b]?=w.heap[b]?) (E:Ql g g' w.heap.size):PVR g' w' a cs v:=by
 cases a with
 |true=>obtain ⟨vs,c,A⟩:=h;exact ⟨vs,c,AVRs.move A B D C E⟩
 |false=>obtain ⟨x,c,A⟩:=h;exact ⟨x,c,A.move (B x (by simp [c])) D C E⟩
theorem SVR.move [NW] {s:SV}{v:Value}(h:SVR g w s v) (C:svU U s) (E:∀k,U k->g'.val k=g.val k)
  (D:∀b,b<w.heap.size->¬g.own b->w'.heap[b]?=w.heap[b]?) (F:Ql g g' w.heap.size) (hs:w.heap.size<=w'.heap.size):SVR g' w' s v:=by
 cases s with
 |any=>exact h
 |und=>exact h
 |p a cs=>exact PVR.move h C E D F
 |tup xs=>
  obtain ⟨vs,B,A⟩:=h;exact ⟨vs,B,A.mono λx _ m r=>r.move (C x m) E D F⟩
 |bp k off=>obtain ⟨b,B,A⟩:=h;exact ⟨b,(E k C).trans B,A⟩
 |rp k m i off=>obtain ⟨b,o,n,c,B,A⟩:=h;exact ⟨b,o,n,c,(E k C).trans B,A⟩
 |ep e off=>
  obtain ⟨b,I,cs,L,B,A,H,G,K⟩:=h;have d:=H.lt;refine ⟨b,I,cs,L,B,λj u J=>?_,H.keep λx m=>D x (d x m) (G x (by simp [m])),λx m o=>?_,yE⟩
  .rw [<-A j u J];exact World.cell?_of_block (D b K (G b yG))
  .rcases F.own x o with o|o
   .exact G x m o
   .rcases AL.1 m with rfl|m
    .omega
    .have:=d x m;omega
 |fn f=>exact h
theorem HI.step [NW] {W:Qq}{ob ob':Nat->Ob}(h:HI W g ob w) (T:Nat->Prop)
  (v:Bel W w') (hZ:g'.Z=g.Z)
  (hw:∀b,b<w.heap.size->(∀k,T k->b∉g.O k)->w'.heap[b]?=w.heap[b]?)
  (I:∀k,¬T k->ob' k=ob k/\g'.val k=g.val k/\g'.O k=g.O k/\g'.D k=g.D k)
  (z:∀k,obU U (ob k)) (hv:∀k,U k->g'.val k=g.val k)
  (ho:Ql g g' w.heap.size)
  (N:∀k,T k->ObR g' w' k (ob' k)/\(g'.O k++g'.D k).Nodup/\(∀b∈g'.O k++g'.D k,(W.heap.size<=b\/W.x b\/W.y b)/\YT w' (ob' k) b)/\∀j,k≠j->∀b∈g'.O k++g'.D k,b∉g'.O j++g'.D j):
  HI W g' ob' w':=by
 have p:∀b,b<w.heap.size->¬g.own b->w'.heap[b]?=w.heap[b]?:=λb hb hn=>hw b hb λk _ m=>hn (.inl ⟨k,m⟩);have i:∀k,¬T k->∀b∈g.O k++g.D k,w'.heap[b]?=w.heap[b]?:=λk I b m=>
  hw b (h.lt k b m) λj hj S=>h.apart j k (λe=>I (e ▸ hj)) b (by simp [S]) m
 suffices hpl:(∀k,ObR g' w' k (ob' k))/\(∀k,(g'.O k++g'.D k).Nodup)/\(∀k j,k≠j->∀b∈g'.O k++g'.D k,b∉g'.O j++g'.D j)/\∀k,∀b∈g'.O k++g'.D k,(W.heap.size<=b\/W.x b\/W.y b)/\YT w' (ob' k) b from
  ⟨v,hpl.1,hpl.2.1,hpl.2.2.1,hpl.2.2.2,hZ.trans h.gz,h.zx,h.nw,h.oyOf ho.own hpl.2.2.2⟩
 refine ⟨λk=>?_,λk=>?_,λk j q b m=>?_,λk b m=>?_⟩
 .by_cases a:T k
  .exact (N k a).1
  .obtain ⟨R,P,H,G⟩:=I k a;have f:=h.obs k;have hF:=i k a;have hU:=z k;rw [R];cases hok:ob k with
   |gone=>rw [hok]at f;exact ⟨H.trans f.1,G.trans f.2⟩
   |box t cs=>
    rw [hok]at f hU;obtain ⟨b,vs,M,K,F,C,J⟩:=f;exact ⟨b,vs,P.trans M,H.trans K,G.trans F,by rw [hF b (by simp [K])];exact C,AVRs.move J hU hv p ho⟩
   |map kk vk kv=>
    rw [hok]at f;obtain ⟨b,es,c,M,K,F,C,J⟩:=f;exact ⟨b,es,c,P.trans M,H.trans K,G.trans F,by rw [hF b (by simp [K])];exact C,J⟩
   |row e m xs d=>
    rw [hok]at f;obtain ⟨hm,cs,L,M,K,C⟩:=f;have l:=K.lt;have hL:∀b∈L,w'.heap[b]?=w.heap[b]?:=λb E=>by
     rcases C with ⟨_,_,C⟩|⟨_,_,_,C⟩|⟨_,_,_,C⟩
     .exact hF b (by simp [C,E])
     .exact p b (l b E) (C b E)
     .exact p b (l b E) (C b (by simp [E]))
    have B:∀b∈(g.val k).ownBlock.toList,w'.heap[b]?=w.heap[b]?:=λb E=>by
     rcases C with ⟨_,F,_⟩|⟨_,F,_⟩|⟨_,_,_,C⟩
     .exact hF b (by simp [F,E])
     .exact hF b (by simp [F,E])
     .exact p b (ZjE M b E) (C b (by simp [E]))
    refine ⟨hm,cs,L,by rw [P];exact XJ M B,K.keep hL,?_⟩;rw [P,H,G];have u:∀b,b<w.heap.size->¬g.own b->¬g'.own b:=λb hb hn o=>by
     rcases ho.own b o with o|o
     .exact hn o
     .omega
    rcases C with C|⟨hd,F,C,J⟩|⟨hd,F,C,J⟩
    .exact .inl C
    .exact .inr (.inl ⟨hd,F,C,λb E=>u b (l b E) (J b E)⟩)
    .refine .inr (.inr ⟨hd,F,C,λb E=>?_⟩);rcases A9.1 E with V|V
     .exact u b (ZjE M b V) (J b E)
     .exact u b (l b V) (J b E)
 .by_cases a:T k
  .exact (N k a).2.1
  .obtain ⟨R,P,H,G⟩:=I k a;rw [H,G];exact h.nodup k
 .by_cases a:T k
  .exact (N k a).2.2.2 j q b m
  .by_cases A:T j
   .exact λS=>(N j A).2.2.2 k (λe=>q e.symm) b S m
   .obtain ⟨_,_,H,G⟩:=I k a;obtain ⟨_,_,f3,f4⟩:=I j A;rw [H,G]at m;rw [f3,f4];exact h.apart k j q b m
 .by_cases a:T k
  .exact (N k a).2.2.1 b m
  .obtain ⟨_,_,H,G⟩:=I k a;rw [H,G]at m;obtain ⟨p1,p2⟩:=h.plain k b m;obtain ⟨R,_⟩:=I k a;exact ⟨p1,by rw [R];exact p2.keep (i k a b m)⟩
end
structure Inv [NW] (W:Qq) (U:Nat->Prop) (st:St) (a:Act) (w:World):Prop where
 ex:∃g,HI W g st.ob w/\∀t,SVR g w (st.sl t) (a.tmps.getD t undef)
 wf:StU U st
 defers:a.defers=[]
 hand:∀v,W.hv=some v->a.tmps.getD 0 undef=v
end
section
open Go.RowKit
def Za4:AV->Value->Bool
 |.c (.int k n),.int k' n'=>k==k'&&n==n'
 |.c (.bool b),.bool b'=>b==b'
 |.c (.str s),.string s'=>s.data.toList==s'.data.toList&&Z9 s
 |.nil _ m,.slice none 0 0=>Nat.blt 0 m
 |_,_=>false
def ZiR:TypeDesc->AV->Bool
 |.int k,.c (.int k' _)=>k==k'
 |.bool,.c (.bool _)=>true
 |.string,.c (.str _)=>true
 |_,_=>false
def Zt2:TypeDesc->Bool
 |.struct _=>true
 |.array _ _=>true
 |_=>false
def Zes:PK->TypeDesc->Bool
 |.int k,.int k'=>k==k'
 |.str,.string=>true
 |.bool,.bool=>true
 |_,_=>false
def EqF (P:Program):List PK->List Field->Nat->Prop
 | [],[],_=>True
 | k :: ks, f :: fs, n => f.name ≠ "_" ∧ f.offset = n ∧ (∃ d, P.underlying f.type = some d ∧ Zes k d = true) ∧ EqF P ks fs (n + 1)
 |_,_,_=>False
def TOk (P:Program) (t:TypeId):TI->Prop
 |.atom z=>∃d zv i,P.underlying t=some d/\ZiR d z=true/\P.info? t=some i/\i.zero=some zv/\i.size=1/\Za4 z zv=true
 |.strct fs n z=>∃(fields:Array Field) (i:TypeInfo) (zvs:Array Value),P.underlying t=some (.struct fields)/\P.info? t=some i/\i.size=n/\i.zero=some (.agg zvs)/\ZJ (λa v=>Za4 a v=true) z zvs.toList/\
   ZJ (λ(fi:FI) (f:Field)=>f.offset=fi.off/\fi.size≠0/\∃j d,P.info? f.type=some j/\j.size=fi.size/\P.underlying f.type=some d/\Zt2 d=fi.agg) fs fields.toList
 |.slice e m bytes z=>P.underlying t=some (.slice e)/\0<m/\bytes<=131072/\(∃(i:TypeInfo) (zv:Value),P.info? e=some i/\i.size=m/\i.bytes=bytes/\i.zero=some zv/\ZJ (λa v=>Za4 a v=true) z zv.cells.toList/\z.length=m)/\
   ∃j:TypeInfo,P.info? t=some j/\j.size=1/\j.zero=some (.slice none 0 0)
 |.ifc=>∃ms,P.underlying t=some (.interface ms)
 |.map kk vk=>∃kt et dk dv i zv,P.underlying t=some (.map kt et)/\P.underlying kt=some dk/\Zes kk dk=true/\P.underlying et=some dv/\Zes vk dv=true/\P.info? et=some i/\i.zero=some zv/\Za4 (Zfj vk) zv=true
 |.eqs ks=>∃u,t=u+4000/\P.underlying u=some (.struct (P.fieldsOf u))/\P.stoodInHeld u=false/\P.eqGuardType P.depth u=false/\EqF P ks (P.fieldsOf u).toList 0
section
variable {P:Program} {w:World} {t:TypeId}
theorem Zs5 {i:TypeInfo}(h:P.info? t=some i):(typeInfo t).run P w=.ok i w:=by simp [typeInfo,program,Sem.run,h]
theorem Yz {d:TypeDesc}(h:P.underlying t=some d):(underlying t).run P w=.ok d w:=by simp [underlying,program,Sem.run,h]
theorem Y7 [NW] {i:TypeInfo}(h:P.info? t=some i):(sizeOf t).run P w=.ok i.size w:=by simp [sizeOf,Zs5 h]
theorem ZkD [NW] {i:TypeInfo}{z:Value}(h:P.info? t=some i) (c:i.zero=some z):(zeroValue t).run P w=.ok z w:=by simp [zeroValue,Zs5 h,c]
theorem Zih [NW] {d:TypeDesc}(h:P.underlying t=some d):(isAgg t).run P w=.ok (Zt2 d) w:=by
 simp only[isAgg,Sem.run_bind,Yz h,Result.andThen_ok];cases d<;>rfl
theorem ZAI {d:TypeDesc}{z:AV}(h:ZiR d z=true):Zt2 d=false:=by
 unfold ZiR at h;split at h<;>first|rfl|simp at h
end
section
variable {g:Gh} {w:World}
theorem ZtR {s:ByteArray}(h:Z9 s=true):s.size<=9223372036854775807:=by
 unfold Z9 at h;have:=Nat.le_of_ble_eq_true h;rw [Array.length_toList]at this;exact this
theorem Zf5 [NW] {x:AV}{v:Value}(h:Za4 x v=true):AVR g w x v:=by
 unfold Za4 at h;split at h
 .simp only[AH,beq_iff_eq]at h;exact ⟨[],⟨by rw [h.1,h.2],rfl⟩,yG⟩
 .simp only[beq_iff_eq]at h;exact ⟨[],⟨by rw [h],rfl⟩,yG⟩
 .rename_i s s';simp only[AH,beq_iff_eq]at h;have e:s=s':=by
   cases s;cases s';simpa using h.1
  exact ⟨[],⟨by rw [e],rfl,ZtR h.2⟩,yG⟩
 .rfl
 .simp at h
theorem AVR.one [NW] {x:AV}{v:Value}(h:AVR g w x v):v.oneCell'=true:=by
 cases x with
 |c x=>obtain ⟨L,B,_⟩:=h;exact B.one
 |n x=>
  obtain ⟨e,m,xs,cs,L,B,E,D,_⟩:=h;obtain ⟨A,c,C,_⟩:=XK D;simp [C,Value.oneCell']
 |row k=>exact h.2
 |nil e m=>simp [AVR]at h;simp [h,Value.oneCell']
 |dead=>exact h
theorem Zpk {v:Value}(h:v.oneCell'=true):v.cells=#[v]:=by
 cases v<;>simp [Value.oneCell']at h<;>rfl
theorem PVR.cells [NW] {a:Bool}{cs:List AV}{v:Value}(h:PVR g w a cs v):∃vs:List Value,v.cells=vs.toArray/\ZJ (AVR g w) cs vs:=by
 cases a with
 |true=>obtain ⟨vs,rfl,c⟩:=h;exact ⟨vs,rfl,c⟩
 |false=>obtain ⟨x,rfl,c⟩:=h;exact ⟨[v],by rw [Zpk c.one],⟨c,trivial⟩⟩
theorem AVRs.one [NW] {cs:List AV}{vs:List Value}(h:ZJ (AVR g w) cs vs):∀u∈vs,u.oneCell'=true:=by
 induction vs generalizing cs with
 |nil=>simp
 |cons v r ih=>
  cases cs with
  |nil=>exact h.elim
  |cons c cs=>
   intro u m;rcases AL.1 m with rfl|m
   .exact h.1.one
   .exact ih h.2 u m
end
theorem ZvY (x y:ByteArray):(x.toList==y.toList)=decide (x=y):=by
 rw [Bool.eq_iff_iff];simp only[beq_iff_eq,decide_eq_true_eq];constructor
 .intro h;have c:x.data.toList=y.data.toList:=by rw [<-B7,<-B7];exact h
  cases x;cases y;simpa using c
 .rintro rfl;rfl
end
section
open Go.RowKit
def Uk (U:Nat->Prop) (key:Nat):Nat->Prop:=λk=>U k\/(key<=k/\k<key+16)
theorem avU.mono {U U':Nat->Prop}(h:∀k,U k->U' k) {x:AV}(c:avU U x):avU U' x:=by cases x<;>first|exact h _ c|trivial
theorem XX.mono [NW] {U U':Nat->Prop}(h:∀k,U k->U' k) {x:List AV}(c:XX U x):XX U' x:=λy m=>(c y m).mono h
theorem svU.mono [NW] {U U':Nat->Prop}(h:∀k,U k->U' k) {x:SV}(c:svU U x):svU U' x:=by
 cases x<;>first|exact XX.mono h c|exact λy m=>XX.mono h (c y m)|exact h _ c|trivial
theorem obU.mono [NW] {U U':Nat->Prop}(h:∀k,U k->U' k) {x:Ob}(c:obU U x):obU U' x:=by
 cases x<;>first|exact XX.mono h c|trivial
def Fin [NW] (P:Program) (W:Qq) (U:Nat->Prop) (key:Nat) (st:St) (g:Gh) (w:World) (s:Sem Next) (r:SV×List (Nat×Ob)):Prop:=
 ∃g' cv w',(s.run P w=.ok (.value cv) w'\/(s.run P w=.ok .skip w'/\cv=undef))/\HI W g' (Zl st.ob r.2) w'/\SVR g' w' r.1 cv/\(∀x v,svU U x->SVR g w x v->SVR g' w' x v)/\ svU (Uk U key) r.1/\(∀k,obU (Uk U key) (Zl st.ob r.2 k))/\∀k,¬Uk U key k->Zl st.ob r.2 k=.gone
section
variable {P:Program} {W:Qq} {U:Nat->Prop} {key:Nat} {st:St} {g:Gh} {w:World} {a:Act} {tt:Nat->Option TI}
theorem Zbg [NW] {s:Sem Next}{v:SV}{cv:Value}(D:HI W g st.ob w) (c:StU U st) (a:s.run P w=.ok (.value cv) w) (A:SVR g w v cv) (B:svU U v):Fin P W U key st g w s (v,[]):=
 ⟨g,cv,w,.inl a,D,A,λ_ _ _ h=>h,B.mono λ_=>.inl,λk=>(c.ob k).mono λ_=>.inl,λk C=>c.gone k λh=>C (.inl h)⟩
theorem XW (x:CT):svU U (.p false [.c x]):=λy m=>by simp at m;subst m;trivial
theorem ZbW [NW] (k:IntKind) (n:Int):SVR g w (.p false [.c (.int k n)]) (.int k n):=⟨_,rfl,[],⟨rfl,rfl⟩,yG⟩
theorem Zbe [NW] (b:Bool):SVR g w (.p false [.c (.bool b)]) (.bool b):=⟨_,rfl,[],⟨rfl,rfl⟩,yG⟩
theorem Zmr [NW] {s:ByteArray}(h:s.size<=9223372036854775807):SVR g w (.p false [.c (.str s)]) (.string s):=⟨_,rfl,[],⟨rfl,rfl,h⟩,yG⟩
theorem Zb8 [NW] {k:IntKind}{n:Int}{v:Value}(h:SVR g w (.p false [.c (.int k n)]) v):v=.int k n:=by
 obtain ⟨x,A,h⟩:=h;simp at A;subst A;obtain ⟨L,B,_⟩:=h;exact B.1
theorem Zgj [NW] {b:Bool}{v:Value}(h:SVR g w (.p false [.c (.bool b)]) v):v=.bool b:=by
 obtain ⟨x,A,h⟩:=h;simp at A;subst A;obtain ⟨L,B,_⟩:=h;exact B.1
theorem Zjd [NW] {s:ByteArray}{v:Value}(h:SVR g w (.p false [.c (.str s)]) v):v=.string s/\s.size<=9223372036854775807:=by
 obtain ⟨x,A,h⟩:=h;simp at A;subst A;obtain ⟨L,B,_⟩:=h;exact ⟨B.1,B.2.2⟩
theorem ZIw [NW] {t:Nat}(c:∀t i,tt t=some i->TOk P t i) (v:Value):SVR g w (cvT (tt t) v) v/\svU U (cvT (tt t) v):=by
 unfold cvT;split
 .exact ⟨ZbW _ _,XW _⟩
 .exact ⟨Zbe _,XW _⟩
 .split
  .rename_i h;exact ⟨Zmr (ZtR h),XW _⟩
  .exact ⟨trivial,trivial⟩
 .split
  .exact ⟨⟨_,rfl,rfl⟩,λy m=>by simp at m;subst m;trivial⟩
  .exact ⟨trivial,trivial⟩
 .exact ⟨trivial,trivial⟩
theorem ZlQ [NW] (c:∀t i,tt t=some i->TOk P t i) (B:∀t,SVR g w (st.sl t) (a.tmps.getD t undef)) (A:StU U st) (t:Nat) (x:Operand):
  SVR g w (st.ev tt t x) (a.eval x)/\svU U (st.ev tt t x):=by
 cases x with
 |tmp s=>exact ⟨B s,A.sl s⟩
 |const v=>exact ZIw c v
 |global _=>exact ⟨trivial,trivial⟩
 |func f=>exact ⟨rfl,trivial⟩
theorem ZA4 [NW] {A:BinOp}{t:Nat}{ox oy:Operand}{k C:IntKind}{n n':Int}{z:CT}(D:k=C\/A=.shl\/A=.shr) (B:ZBe A k n n'=some z):
  ∃cv,(do eqGuard A t ox oy (.int k n) (.int C n');binOp A t (.int k n) (.int C n'):Sem Value).run P w=.ok cv w/\SVR g w (.p false [.c z]) cv:=by
 have E:(eqGuard A t ox oy (.int k n) (.int C n')).run P w=.ok () w:=by
  cases A<;>rfl
 simp only[Sem.run_bind,E,Result.andThen_ok];cases A<;>simp only[ZBe,ZEN,Zm8,orI,ZA9,ZwC,ZID,Zw1,Option.map_none,Option.map_some,A6,reduceCtorEq]at B<;>(try subst B)<;>
  (try (split at B<;>simp only[A6,reduceCtorEq]at B;subst B))<;>
  simp only[reduceCtorEq,or_false,or_true]at D<;>(try subst D)<;>
  first
   |(refine ⟨_,?_,ZbW _ _⟩;simp [binOp,Op.intArith,Op.intDiv,Op.intBits,Op.shift, *];done)
   |(refine ⟨_,?_,Zbe _⟩;simp [binOp,Op.intCmp];done)
set_option maxHeartbeats 1000000 in
theorem ZB8 [NW] {A : BinOp} {t : Nat} {ox oy : Operand} {s s' : ByteArray} {z : CT} (B : ZCj A s s' = some z) :
    ∃ cv, (do eqGuard A t ox oy (.string s) (.string s'); binOp A t (.string s) (.string s') : Sem Value).run P w = .ok cv w ∧ SVR g w (.p false [.c z]) cv := by
  have E : (eqGuard A t ox oy (.string s) (.string s')).run P w = .ok () w := by
    cases A <;> rfl
  simp only[Sem.run_bind, E, Result.andThen_ok];cases A <;> simp only[ZCj, A6, reduceCtorEq] at B <;> (try subst B) <;>
    first
      | (refine ⟨_, ?_, Zbe _⟩; simp only[binOp, Op.stringOp, sLt, sEq, ← ZvY]; rfl)
      | (split at B
         · rename_i D
           simp only[A6] at B;subst B;refine ⟨_, ?_, Zmr (by rw [ByteArray.size_append]; exact D)⟩;have C : ¬ ((s.size + s'.size : Nat) : Int) > IntKind.i64.max := by
             have : IntKind.i64.max = 9223372036854775807 := by decide
             omega
           simp only[binOp, Op.stringOp, C, if_false];rfl
         · simp at B)
theorem ZtV [NW] {A:BinOp}{t:Nat}{ox oy:Operand}{b c:Bool}{r:Bool}(C:P.underlying t=some .bool) (a:(A=.eql/\r=(b==c))\/(A=.neq/\r=!(b==c))):
  (do eqGuard A t ox oy (.bool b) (.bool c);binOp A t (.bool b) (.bool c):Sem Value).run P w=.ok (.bool r) w:=by
 have D:(eqGuard A t ox oy (.bool b) (.bool c)).run P w=.ok () w:=by
  cases A<;>rfl
 have B:(Op.equal t (.bool b) (.bool c)).run P w=.ok (b==c) w:=by
  have key:∀d:Nat,(Op.equalIn (d+1) t (.bool b) (.bool c)).run P w=.ok (b==c) w:=λd=>by
   rw [Op.equalIn];simp only[Sem.run_bind,Yz C,Result.andThen_ok,Sem.run_pure]
  exact key 9999
 simp only[Sem.run_bind,D,Result.andThen_ok];rcases a with ⟨rfl,rfl⟩|⟨rfl,rfl⟩
 .simp only[binOp,Sem.run_bind,B,Result.andThen_ok,Sem.run_pure]
 .simp only[binOp,Sem.run_bind,B,Result.andThen_ok,Sem.run_pure]
theorem ZD3 [NW] (B:∀t i,tt t=some i->TOk P t i) {E:BinOp}{t:Nat}{ox oy:Operand}{x y v:SV}{D C:Value}(h:ZBX (tt t) E x y=some v) (H:SVR g w x D) (G:SVR g w y C):
  ∃cv,(do eqGuard E t ox oy D C;binOp E t D C:Sem Value).run P w=.ok cv w/\SVR g w v cv/\svU U v:=by
 unfold ZBX at h;split at h
 .have ex:=Zb8 H;have ey:=Zb8 G;subst ex ey;split at h
  .rename_i K;obtain ⟨z,F,rfl⟩:=AB.1 h;obtain ⟨cv,A,c⟩:=ZA4 (P:=P) (g:=g) (w:=w) (t:=t) (ox:=ox) (oy:=oy) K F;exact ⟨cv,A,c,XW _⟩
  .simp at h
 .obtain ⟨ex,M⟩:=Zjd H;obtain ⟨ey,L⟩:=Zjd G;subst ex ey;obtain ⟨z,F,rfl⟩:=AB.1 h;obtain ⟨cv,A,c⟩:=ZB8 (P:=P) (g:=g) (w:=w) (t:=t) (ox:=ox) (oy:=oy) F;exact ⟨cv,A,c,XW _⟩
 .have ex:=Zgj H;have ey:=Zgj G;subst ex ey;split at h
  .rename_i a;simp only[A6]at h;subst h;obtain ⟨d,J,i,A,c,_⟩:=B t _ a;have I:d=.bool:=by cases d<;>simp [ZiR]at c;rfl
   subst I;exact ⟨_,ZtV A (.inl ⟨rfl,rfl⟩),Zbe _,XW _⟩
  .rename_i a;simp only[A6]at h;subst h;obtain ⟨d,J,i,A,c,_⟩:=B t _ a;have I:d=.bool:=by cases d<;>simp [ZiR]at c;rfl
   subst I;exact ⟨_,ZtV A (.inr ⟨rfl,rfl⟩),Zbe _,XW _⟩
  .simp at h
 .simp at h
theorem ZpP {k:PK}{d:TypeDesc}(h:Zes k d=true):Zt2 d=false:=by
 unfold Zes at h;split at h<;>first|rfl|simp at h
theorem ZDX [NW] {k:PK}{x y:AV}{G F:Value}{b:Bool}{t:Nat}{d:TypeDesc}(h:eqC k x y=some b) (E:P.underlying t=some d) (D:Zes k d=true) (C:AVR g w x G) (B:AVR g w y F) (n:Nat):(Op.equalIn (n+1) t G F).run P w=.ok b w:=by
 unfold eqC at h;split at h
 .split at h<;>simp only[A6,reduceCtorEq]at h
  rename_i H;subst H h;obtain ⟨_,A,_⟩:=C;obtain ⟨_,c,_⟩:=B;have e1:=A.1;have e2:=c.1;subst e1 e2;cases d<;>simp [Zes]at D
  exact run_equalIn_int w n t _ _ _ _ E
 .simp only[A6]at h;subst h;obtain ⟨_,A,_⟩:=C;obtain ⟨_,c,_⟩:=B;have e1:=A.1;have e2:=c.1;subst e1 e2;cases d<;>simp [Zes]at D
  rw [run_equalIn_string w n t _ _ E,sEq,ZvY]
 .simp only[A6]at h;subst h;obtain ⟨_,A,_⟩:=C;obtain ⟨_,c,_⟩:=B;have e1:=A.1;have e2:=c.1;subst e1 e2;cases d<;>simp [Zes]at D
  exact run_equalIn_bool' w n t _ _ E
 .simp at h
theorem Zv2 [NW] (n:Nat) {X Y:Array Value}:∀{ks:List PK}{A:List Field}{o:Nat}{xs c:List AV}{C B:List Value}{b:Bool},ZoY ks xs c=some b->EqF P ks A o->ZJ (AVR g w) xs C->ZJ (AVR g w) c B->(∀j v,C[j]?=some v->X[o+j]?=some v)->(∀j v,B[j]?=some v->Y[o+j]?=some v)->(Op.eqFields (n+1) X Y A).run P w=.ok b w
 | [],[],_,[],[],_,_,b,h,_,_,_,_,_=>by simp [ZoY]at h;subst h;simp [Op.eqFields]
 |k::ks,f::A,o,x::xs,y::c,[],_,_,_,_,hx,_,_,_=>hx.elim
 |k::ks,f::A,o,x::xs,y::c,_::_,[],_,_,_,_,hy,_,_=>hy.elim
 |k::ks,f::A,o,x::xs,y::c,u::C,v::B,b,h,hf,hx,hy,hX,hY=>by
  simp only[ZoY]at h;obtain ⟨N,K,h⟩:=AN.1 h;obtain ⟨O,J,rfl⟩:=AB.1 h;obtain ⟨M,G,⟨d,F,E⟩,L⟩:=hf;have e1:=ZDX K F E hx.1 hy.1 n;have e2:=Zv2 n J L hx.2 hy.2 (λj v D=>by have:=hX (j+1) v (by simpa using D);rwa [show o+(j+1)=o+1+j by omega]at this) (λj v D=>by have:=hY (j+1) v (by simpa using D);rwa [show o+(j+1)=o+1+j by omega]at this)
  have I:(part f.type X f.offset).run P w=.ok u w:=by
   have:=hX 0 u yG;simp only[part,Sem.run_bind,Zih F,ZpP E,Result.andThen_ok];rw [G];simp at this;simp [this]
  have H:(part f.type Y f.offset).run P w=.ok v w:=by
   have:=hY 0 v yG;simp only[part,Sem.run_bind,Zih F,ZpP E,Result.andThen_ok];rw [G];simp at this;simp [this]
  simp only[Op.eqFields,M,ne_eq,not_false_eq_true,if_true,Sem.run_bind,I,H,e1,Result.andThen_ok];cases N
  .simp
  .simpa using e2
 | [],_::_,_,_,_,_,_,_,_,hf,_,_,_,_=>hf.elim
 |_::_,[],_,_,_,_,_,_,_,hf,_,_,_,_=>hf.elim
 | [],[],_,_::_,_,_,_,_,h,_,_,_,_,_=>by simp [ZoY]at h
 | [],[],_,[],_::_,_,_,_,h,_,_,_,_,_=>by simp [ZoY]at h
 |_::_,_::_,_,[],_,_,_,_,h,_,_,_,_,_=>by simp [ZoY]at h
 |_::_,_::_,_,_::_,[],_,_,_,h,_,_,_,_,_=>by simp [ZoY]at h
theorem Zt4 {A:BinOp}{b:Bool}{v:SV}(h:Zsi A b=some v):(A=.eql/\v=.p false [.c (.bool b)])\/(A=.neq/\v=.p false [.c (.bool (!b))]):=by
 unfold Zsi at h;split at h<;>simp only[A6,reduceCtorEq]at h<;>subst h
 .exact .inl ⟨rfl,rfl⟩
 .exact .inr ⟨rfl,rfl⟩
theorem ZDq [NW] (D:∀t i,tt t=some i->TOk P t i) {A:BinOp}{t:Nat}{ox oy:Operand}{x y v:SV}{C B:Value}(h:ZCk (tt (t+4000)) A x y=some v) (J:SVR g w x C) (I:SVR g w y B):
  ∃cv,(do eqGuard A t ox oy C B;binOp A t C B:Sem Value).run P w=.ok cv w/\SVR g w v cv/\svU U v:=by
 unfold ZCk at h;split at h
 .obtain ⟨ks,a,N⟩:=AN.1 h;obtain ⟨b,K,d⟩:=AN.1 N;have c:tt (t+4000)=some (.eqs ks):=by
   unfold ZyR at a;split at a<;>simp only[A6,reduceCtorEq]at a
   rename_i c;rw [c,a]
  obtain ⟨u,e,H,G,M,L⟩:=D _ _ c;have e:t=u:=Nat.add_right_cancel e;subst e;obtain ⟨F,rfl,f⟩:=J;obtain ⟨vs,rfl,k⟩:=I;have hq:=Zv2 (X:=F.toArray) (Y:=vs.toArray) 9998 K L f k (λj v E=>by simpa using E) (λj v E=>by simpa using E);have hg:=run_eqGuard_agg (P:=P) w A t ox oy F.toArray vs.toArray M;rcases Zt4 d with ⟨rfl,rfl⟩|⟨rfl,rfl⟩
  .refine ⟨_,?_,Zbe b,XW _⟩;simp only[Sem.run_bind,hg,Result.andThen_ok,run_eql_struct,run_equalIn_struct w 9999 t _ _ H G,hq]
  .refine ⟨_,?_,Zbe (!b),XW _⟩;simp only[Sem.run_bind,hg,Result.andThen_ok,run_neq_struct,run_equalIn_struct w 9999 t _ _ H G,hq]
 .simp at h
theorem ZEw [NW] {b:Bool}{v:Value}(h:SVR g w (.p false [.c (.ifc b)]) v):(b=true/\v=.nilIface)\/(b=false/\∃t x,v=.iface t x):=by
 obtain ⟨x,A,h⟩:=h;simp at A;subst A;obtain ⟨L,B,_⟩:=h;have h2:=B.2.2;cases b with
 |true=>exact .inl ⟨rfl,h2⟩
 |false=>exact .inr ⟨rfl,h2⟩
theorem ZCH [NW] (A:∀t i,tt t=some i->TOk P t i) {B:BinOp}{t:Nat}{ox oy:Operand}{x y v:SV}{C:Value}(h:ZyE tt t (Zli oy) B x y=some v) (F:SVR g w x C) (G:SVR g w y (a.eval oy)):
  ∃cv,(do eqGuard B t ox oy C (a.eval oy);binOp B t C (a.eval oy):Sem Value).run P w=.ok cv w/\SVR g w v cv/\svU U v:=by
 unfold ZyE at h;split at h
 .rename_i H;have K:oy=.const .nilIface:=by
   cases oy with
   |const c=>cases c<;>first|rfl|(simp [Zli,Zu6]at H;done)
   |_=>simp [Zli]at H
  subst K;split at h
  rotate_left
  .simp at h
  rename_i d;have j:tt t=some .ifc:=by
   unfold ZAa at d;split at d
   .assumption
   .simp at d
  obtain ⟨M,e⟩:=A _ _ j;unfold ZEy at h;split at h
  .rename_i b;have hb:=ZEw F;have k:a.eval (.const .nilIface)=.nilIface:=rfl;rw [k];have L:∀v:Value,(v=.nilIface\/∃t x,v=.iface t x)->(eqGuard B t ox (.const .nilIface) v .nilIface).run P w=.ok () w:=λv J=>by
    rcases J with rfl|⟨E,D,rfl⟩
    .simp only[eqGuard];cases ox<;>cases B<;>rfl
    .simp only[eqGuard];cases B<;>rfl
   have I:(Op.equal t C .nilIface).run P w=.ok b w:=by
    show (Op.equalIn (9999+1) t _ _).run P w=_
    rw [Op.equalIn];rcases hb with ⟨rfl,rfl⟩|⟨rfl,E,D,rfl⟩
    .simp only[Sem.run_bind,Yz e,Result.andThen_ok,Sem.run_pure]
    .simp only[Sem.run_bind,Yz e,Result.andThen_ok,Sem.run_pure]
   have f:=L C (hb.imp (λh=>h.2) (λh=>h.2));rcases Zt4 h with ⟨rfl,rfl⟩|⟨rfl,rfl⟩
   .refine ⟨_,?_,Zbe b,XW _⟩;simp only[Sem.run_bind,f,Result.andThen_ok];rcases hb with ⟨rfl,rfl⟩|⟨rfl,E,D,rfl⟩<;>simp only[binOp,Sem.run_bind,I,Result.andThen_ok,Sem.run_pure]
   .refine ⟨_,?_,Zbe (!b),XW _⟩;simp only[Sem.run_bind,f,Result.andThen_ok];rcases hb with ⟨rfl,rfl⟩|⟨rfl,E,D,rfl⟩<;>simp only[binOp,Sem.run_bind,I,Result.andThen_ok,Sem.run_pure]
  .simp at h
 .split at h
  .exact ZDq A h F G
  .exact ZD3 A h F G
theorem ZIA [NW] {A:UnOp}{x v:SV}{c:Value}(h:unV A x=some v) (B:SVR g w x c):∃cv,(Op.unary A c).run P w=.ok cv w/\SVR g w v cv/\svU U v:=by
 unfold unV at h;split at h
 .have ex:=Zgj B;subst ex;split at h<;>simp at h
  subst h;exact ⟨_,by simp [Op.unary],Zbe _,XW _⟩
 .have ex:=Zb8 B;subst ex;split at h<;>simp at h
  subst h;exact ⟨_,by simp [Op.unary,Op.intArith],ZbW _ _,XW _⟩
 .simp at h
end
end
section
open Go.RowKit
section
variable {P:Program} {W:Qq} {U:Nat->Prop} {key:Nat} {st:St} {g:Gh} {w:World} {a:Act} {tt:Nat->Option TI}
theorem ZC9 {t:Nat}{z:AV}(c:∀t i,tt t=some i->TOk P t i) (h:tt t=some (.atom z)):∃d,P.underlying t=some d:=by
 obtain ⟨d,_,_,h,_⟩:=c t _ h;exact ⟨d,h⟩
theorem Zsq {t:Nat}(c:∀t i,tt t=some i->TOk P t i) (h:Zce (tt t)=true):∃e,P.underlying t=some (.slice e):=by
 unfold Zce at h;split at h
 .rename_i A;exact ⟨_,(c t _ A).1⟩
 .simp at h
theorem Zh8 {t:Nat}(c:∀t i,tt t=some i->TOk P t i) (h:Zde (tt t)=true):P.underlying t=some .string:=by
 unfold Zde at h;split at h
 .rename_i D;obtain ⟨d,E,i,A,C,_⟩:=c t _ D;have B:d=.string:=by cases d<;>simp [ZiR]at C;rfl
  rw [B]at A;exact A
 .simp at h
theorem ZCa [NW] (c:∀t i,tt t=some i->TOk P t i) {s t:Nat}{x v:SV}{B:Value}(h:Zsa (tt s) (tt t) x=some v) (C:SVR g w x B):∃cv,(convert s t B).run P w=.ok cv w/\SVR g w v cv/\svU U v:=by
 unfold Zsa at h;split at h
 .have ex:=Zb8 C;subst ex;split at h
  .rename_i G F;simp only[A6]at h;subst h;obtain ⟨d,H,i,E,A,_⟩:=c t _ F;have D:∃k,d=.int k:=by cases d<;>simp [ZiR]at A;exact ⟨_,rfl⟩
   obtain ⟨k,rfl⟩:=D;simp only[ZiR,beq_iff_eq]at A;subst A;obtain ⟨I,hs⟩:=ZC9 c G;refine ⟨_,?_,ZbW _ _,XW _⟩;simp [convert,Yz hs,Yz E,Conv.intToInt]
  .simp at h
 .simp at h
theorem Zhn [NW] {e m:Nat}{xs:List (List CT)}{v:Value}(h:SVR g w (.p false [.c (.sl e m xs)]) v):∃A cap cs L0 L1,v=.slice A xs.length cap/\xs.length<=cap/\cap<=maxLen/\0<m/\Sl w m A xs.length cs L0/\REs w m xs cs L1/\(∀b∈L0++L1,¬g.own b):=by
 obtain ⟨x,B,h⟩:=h;simp at B;subst B;obtain ⟨L,⟨A,cap,cs,L0,L1,J,I,H,G,F,E,D⟩,C⟩:=h;exact ⟨A,cap,cs,L0,L1,J,I,H,F,E,D,λb m=>C b (G ▸ m)⟩
theorem ZgB [NW] {k:Nat}{v:Value}(h:SVR g w (.p false [.row k]) v):v=g.val k:=by
 obtain ⟨x,c,h⟩:=h;simp at c;subst c;exact h.1
theorem Zve [NW] {e m:Nat}{v:Value}(h:SVR g w (.p false [.nil e m]) v):v=.slice none 0 0:=by
 obtain ⟨x,c,h⟩:=h;simp at c;subst c;exact h
theorem Zbi {B e m n:Nat}{v:Value}{cs:List Value}(h:w.ownsV B e m v n cs):∃A cap,v=.slice A n cap:=by
 obtain ⟨A,c,C,_⟩:=XK h;exact ⟨A,c,C⟩
theorem ZHs [NW] {x:CT}{v:Value}(h:SVR g w (.p false [.n x]) v):NR g w x v:=by
 obtain ⟨y,c,h⟩:=h;simp at c;subst c;exact h
theorem ZEj [NW] (C:∀t i,tt t=some i->TOk P t i) (H:HI W g st.ob w) {t:Nat}{ts:Array TypeId}{ty:TypeId}(a:ts[0]?=some t) {x v:SV}{E:Value}(h:ZoC st (tt t) x=some v) (B:SVR g w x E):
  ∃cv,(Builtin.len_ ts ty #[E]).run P w=.ok cv w/\SVR g w v cv/\svU U v:=by
 have fin:∀(A:Option Addr) (n c:Nat),Zce (tt t)=true->(Builtin.len_ ts ty #[.slice A n c]).run P w=.ok (.int .i64 n) w:=λA n c hs=>by
  obtain ⟨e,G⟩:=Zsq C hs;simp [Builtin.len_,a,Yz G,goInt]
 unfold ZoC at h;split at h
 .split at h<;>simp at h
  rename_i hs;subst h;obtain ⟨A,cap,_,_,_,rfl,_⟩:=Zhn B;exact ⟨_,fin _ _ _ hs,ZbW _ _,XW _⟩
 .split at h<;>simp at h
  rename_i hs;subst h;obtain ⟨_,_,_,_,_,D,_,I,_⟩:=ZHs B;simp only[CT.sl.injEq]at D;obtain ⟨_,_,rfl⟩:=D;obtain ⟨A,cap,rfl⟩:=Zbi I;exact ⟨_,fin _ _ _ hs,ZbW _ _,XW _⟩
 .split at h<;>simp at h
  rename_i hs;subst h;obtain ⟨rfl,_⟩:=Zjd B;refine ⟨_,?_,ZbW _ _,XW _⟩;simp [Builtin.len_,a,Yz (Zh8 C hs),goInt]
 .split at h<;>simp at h
  rename_i hs;subst h;have:=Zve B;subst this;exact ⟨_,fin _ _ _ hs,ZbW _ _,XW _⟩
 .split at h
  .rename_i k _ e m xs d F;split at h<;>simp at h
   rename_i hs;subst h;have hv:=ZgB B;subst hv;have ho:=H.obs k;rw [F]at ho;obtain ⟨_,cs,L,D,_⟩:=ho;obtain ⟨A,cap,hv⟩:=Zbi D;rw [hv];exact ⟨_,fin _ _ _ hs,ZbW _ _,XW _⟩
  .simp at h
 .simp at h
theorem Zn1 {f:Value->ByteArray->Sem (ForInStep ByteArray)}(c:∀n s,f (.int .u8 n) s=pure (ForInStep.yield (s.push (Ar n.toNat)))):∀(l:List Int) (s:ByteArray),(forIn (l.map λn=>Value.int .u8 n) s f).run P w=.ok ⟨s.data++(l.map λn=>Ar n.toNat).toArray⟩ w
 | [],s=>by simp
 |n::l,s=>by
  have ih:=Zn1 c l (s.push (Ar n.toNat));simp only[Al,List.forIn_cons,c,Sem.run_bind,Sem.run_pure,Result.andThen_ok,ih];congr 2
  apply Array.ext';simp [ByteArray.push]
theorem Zxz [NW] {b o cap:Nat}(l:List Int) (A:∀j u,(l.map λn=>Value.int .u8 n)[j]?=some u->w.cell? ⟨b,o+j,none⟩=some u):(Conv.bytesToString (.slice (some ⟨b,o,none⟩) l.length cap)).run P w=.ok (.string (Xn l)) w:=by
 have h1:=run_loadCells_list (P:=P) w ⟨b,o,none⟩ (l.map λn=>Value.int .u8 n) (λj u c=>by rw [Zdt];exact A j u c);rw [AX]at h1;unfold Conv.bytesToString;simp only[Sem.run_bind,h1,Result.andThen_ok,<-Array.forIn_toList];rw [Zn1 (λ_ _=>rfl)];simp [Xn,ByteArray.empty,ByteArray.emptyWithCapacity];rfl
theorem ZmC {m:Nat}:∀{xs:List (List CT)}{l:List Int}{cs:List Value}{L:List Nat},Zff xs=some l->REs w m xs cs L->cs=l.map (λn=>Value.int .u8 n)/\xs.length=l.length
 | [],_,_,_,h,⟨h1,_⟩=>by simp [Zff]at h;subst h h1;simp
 |x::r,l,_,_,h,⟨c1,c2,L1,L2,rfl,rfl,h3,h4⟩=>by
  unfold Zff at h;split at h
  .rename_i c;simp at c
  .rename_i n G c;simp only[B2]at c;obtain ⟨rfl,rfl⟩:=c;obtain ⟨H,C,rfl⟩:=AB.1 h;obtain ⟨B,A⟩:=ZmC C h4;obtain ⟨v,D,_,_,rfl,rfl,F,E⟩:=h3.1;obtain ⟨rfl,_⟩:=E;rw [F.1,B];exact ⟨rfl,by simp [A]⟩
  .simp at h
theorem Zsr (l:List Int):(Xn l).size=l.length:=by simp [Xn,ByteArray.size]
theorem Zy4 [NW] (E:∀t i,tt t=some i->TOk P t i) (hI:HI W g st.ob w) {s t:Nat}{x v:SV}{N:Value}(y:Zde (tt t)=true) (f:Zm2 (Zrd tt (tt s))=true) (h:ZiS st x=some v) (O:SVR g w x N):∃cv,(convert s t N).run P w=.ok cv w/\SVR g w v cv/\svU U v:=by
 have ht:=Zh8 E y;have hs:∃e,P.underlying s=some (.slice e)/\P.underlying e=some (.int .u8):=by
  unfold Zrd at f;split at f
  .rename_i e m b z B;have h1:=(E _ _ B).1;unfold Zm2 at f;split at f
   .rename_i C;obtain ⟨d,zv,i,G,D,_⟩:=E _ _ C;cases d<;>simp [ZiR]at D
    subst D;exact ⟨e,h1,G⟩
   .simp at f
  .simp [Zm2]at f
 obtain ⟨e,hs,he⟩:=hs;have go:∀A n c,(convert s t (.slice A n c)).run P w=(Conv.bytesToString (.slice A n c)).run P w:=λA n c=>by
  unfold convert;simp only[Sem.run_bind,Yz hs,Yz ht,Yz he,Result.andThen_ok]
 have fin:∀(A:Option Addr) (n cap:Nat) (cs:List Value) (L:List Nat) (xs:List (List CT)) (l:List Int) (m:Nat),n=xs.length->0<m->Zff xs=some l->REs w m xs cs L->n<=9223372036854775807->(n=0\/∃b o,A=some ⟨b,o,none⟩/\Zbr w b o cs)->∃cv,(convert s t (.slice A n cap)).run P w=.ok cv w/\SVR g w (.p false [.c (.str (Xn l))]) cv/\svU U (.p false [.c (.str (Xn l))]):=by
  intro A n cap cs L xs l m hn I F hR aa hA;obtain ⟨i1,V⟩:=ZmC F hR;have q:(Xn l).size<=9223372036854775807:=by rw [Zsr];omega
  refine ⟨.string (Xn l),?_,Zmr q,XW _⟩;rw [go];rcases hA with H|⟨b,o,rfl,K⟩
  .have:l=[]:=Ac yE;subst this;cases A with
   |none=>rfl
   |some a=>
    have h1:=run_loadCells_list (P:=P) w a [] yG;rw [H];unfold Conv.bytesToString;simp only[Ay]at h1;simp only[Sem.run_bind,h1,Result.andThen_ok];rfl
  .rw [hn,V];exact Zxz l λj u J=>K j u (by rw [i1];exact J)
 unfold ZiS at h;split at h
 .split at h
  .rename_i k _ e' m xs d hk;obtain ⟨l,F,rfl⟩:=AB.1 h;have hv:=ZgB O;have ho:=hI.obs k;rw [hk]at ho;obtain ⟨I,cs,L,h1,G,_⟩:=ho;rw [hv];rcases h1.2 with ⟨D,h4⟩|⟨b,o,cap,ac,D,h4,T,S,M,R,h9⟩
   .rw [D];exact fin _ _ _ cs L xs l m yE I F G yE (.inl rfl)
   .rw [D];refine fin _ _ _ cs L xs l m rfl I F G (by unfold maxLen at M;omega) (.inr ⟨b,o,rfl,λj u J=>?_⟩);exact Zhd h1 D j u J
  .simp at h
 .obtain ⟨l,F,rfl⟩:=AB.1 h;obtain ⟨A,cap,cs,L0,L1,rfl,G,D,T,S,M,_⟩:=Zhn O;rename_i e' m' xs _;refine fin _ _ _ cs L1 xs l _ rfl T F M (by unfold maxLen at D;omega) ?_;rcases Nat.eq_zero_or_pos xs.length with H|H
  .exact .inl H
  .obtain ⟨b,off,R,h9,K⟩:=S.at_ H;exact .inr ⟨b,off,R,K⟩
 .simp at h
theorem ZAo [NW] (c:∀t i,tt t=some i->TOk P t i) (D:HI W g st.ob w) {s t:Nat}{x v:SV}{B:Value}(h:Zhi tt st s t x=some v) (C:SVR g w x B):∃cv,(convert s t B).run P w=.ok cv w/\SVR g w v cv/\svU U v:=by
 unfold Zhi at h;split at h
 .rename_i A;simp only[AH]at A;exact Zy4 c D A.1 A.2 h C
 .exact ZCa c h C
theorem RCs.avr [NW] {e:List CT}{cs:List Value}{L:List Nat}:RCs w e cs L->(∀b∈L,¬g.own b)->ZJ (AVR g w) (e.map .c) cs:=by
 induction e generalizing cs L with
 |nil=>intro h _;obtain ⟨rfl,rfl⟩:=h;trivial
 |cons x r ih=>
  rintro ⟨v,D,L1,L2,rfl,rfl,C,B⟩ A;exact ⟨⟨L1,C,λb m=>A b (by simp [m])⟩,ih B λb m=>A b (by simp [m])⟩
theorem ZjF (a:Bool) (e:List CT):XX U (e.map AV.c):=λy m=>by
 obtain ⟨x,_,rfl⟩:=Am.1 m;trivial
theorem Zq5 [NW] (A:∀t i,tt t=some i->TOk P t i) {t b F off:Nat}{cs:List AV}{vs:List Value}{v:SV}(h:cut (tt t) cs off=some v) (K:Zbr w b F vs) (H:ZJ (AVR g w) cs vs) (J:XX U cs):
  ∃cv,(Instr.loadAt t (.pointer (some ⟨b,F+off,none⟩))).run P w=.ok cv w/\SVR g w v cv/\svU U v:=by
 have hlen:=H.len;have B:∀d,P.underlying t=some d->Zt2 d=false->∀x,cs[off]?=some x->∃cv,(Instr.loadAt t (.pointer (some ⟨b,F+off,none⟩))).run P w=.ok cv w/\SVR g w (.p false [x]) cv/\svU U (.p false [x]):=λd M N x D=>by
  obtain ⟨u,C,E⟩:=H.at D;refine ⟨u,?_,⟨x,rfl,E⟩,λy m=>by simp at m;subst m;exact J y (AJ D)⟩;simp [Instr.loadAt,Instr.sureAddr,loadVar,Zih M,N,load,Sem.run,K off u C]
 unfold cut at h;split at h
 .rename_i O n z f;split at h<;>simp at h
  rename_i V;subst h;obtain ⟨G,i,zvs,C,E,W,_⟩:=A t _ f;refine ⟨.agg ((vs.drop off).take n).toArray,?_,⟨_,rfl,(H.drop off).take n⟩,λy m=>J y (As (At m))⟩;have L:((vs.drop off).take n).length=i.size:=by simp;omega
  have a:=run_loadCells_list (P:=P) w ⟨b,F+off,none⟩ ((vs.drop off).take n) (λj u I=>by
   rw [Zdt,AO];refine K _ u ?_;have k:j<n:=by
    have:=(AF.1 I).1;simp at this;omega
   rw [B8,if_pos k,B9]at I;exact I)
  rw [L]at a;simp [Instr.loadAt,Instr.sureAddr,loadVar,Zih C,Zt2,Y7 E,a]
 .simp at h
 .rename_i i f l c;obtain ⟨x,D,rfl⟩:=AB.1 h;cases i with
  |atom z=>obtain ⟨d,R,i,C,E,_⟩:=A t _ c;exact B d C (ZAI E) x D
  |strct O n z=>exact absurd rfl (f _ _ _)
  |slice e m b z=>exact B _ (A t _ c).1 rfl x D
  |map kk vk=>
   obtain ⟨T,et,_,_,_,_,C,_⟩:=A t _ c;exact B _ C rfl x D
  |ifc=>obtain ⟨S,C⟩:=A t _ c;exact B _ C rfl x D
  |eqs ks=>exact absurd rfl (l _)
 .simp at h
end
end
section
open Go.RowKit
section
variable {P:Program} {W:Qq} {U:Nat->Prop} {key:Nat} {st:St} {g:Gh} {w:World} {a:Act} {tt:Nat->Option TI}
theorem HI.deep [NW] {ob:Nat->Ob}{k e m:Nat}{xs:List (List CT)}{d:Nat}(B:HI W g ob w) (K:ob k=.row e m xs d):0<m/\∃cs L,w.ownsV 0 e m (g.val k) xs.length cs/\REs w m xs cs L/\(∀b∈L,¬g.own b)/\((d=2/\g.O k=(g.val k).ownBlock.toList/\g.D k=L)\/(d=1/\g.O k=(g.val k).ownBlock.toList/\g.D k=[])\/(d=0/\g.O k=[]/\g.D k=[]/\∀b∈(g.val k).ownBlock.toList,¬g.own b)):=by
 have ho:=B.obs k;rw [K]at ho;obtain ⟨J,cs,L,N,M,c⟩:=ho;refine ⟨J,cs,L,N,M,?_,?_⟩
 .rcases c with ⟨_,_,c⟩|⟨_,_,_,c⟩|⟨_,_,_,c⟩
  .rintro b A (⟨j,G⟩|I)
   .by_cases a:j=k
    .subst a;have:=B.nodup j;rw [List.nodup_append]at this;exact this.2.2 b G b (c ▸ A) rfl
    .exact B.apart j k a b (by simp [G]) (by simp [c,A])
   .exact B.nz (k:=k) (by simp [c,A]) I
  .exact c
  .exact λb A=>c b (by simp [A])
 .rcases c with c|⟨F,E,C,_⟩|⟨F,E,C,H⟩
  .exact .inl c
  .exact .inr (.inl ⟨F,E,C⟩)
  .exact .inr (.inr ⟨F,E,C,λb A=>H b (by simp [A])⟩)
theorem HI.deepO [NW] {ob:Nat->Ob}{k e m:Nat}{xs:List (List CT)}{d:Nat}(G:HI W g ob w) (E:ob k=.row e m xs d) (F:¬d=0):0<m/\∃cs L,w.ownsV 0 e m (g.val k) xs.length cs/\REs w m xs cs L/\(∀b∈L,¬g.own b)/\g.O k=(g.val k).ownBlock.toList/\((d=2/\g.D k=L)\/(d=1/\g.D k=[])):=by
 obtain ⟨C,cs,L,K,J,I,H⟩:=G.deep E;refine ⟨C,cs,L,K,J,I,?_⟩;rcases H with ⟨c,B,A⟩|⟨c,B,A⟩|⟨c,_⟩
 .exact ⟨B,.inl ⟨c,A⟩⟩
 .exact ⟨B,.inr ⟨c,A⟩⟩
 .exact absurd c F
theorem REs.at {m:Nat}:∀{xs:List (List CT)}{cs:List Value}{L:List Nat}{i:Nat}{e:List CT},REs w m xs cs L->xs[i]?=some e->
  ∃c L',RCs w e c L'/\c.length=m/\(∀b∈L',b∈L)/\∀j u,c[j]?=some u->cs[i*m+j]?=some u
 | [],_,_,_,_,_,h=>by simp at h
 |x::r,_,_,0,e,⟨c1,c2,L1,L2,rfl,rfl,h3,h4⟩,h=>by
  simp at h;subst h;exact ⟨c1,L1,h3.1,h3.2,λb B=>by simp [B],λj u A=>by
   rw [Nat.zero_mul,AW,Ax (AF.1 A).1];exact A⟩
 |x::r,_,_,i+1,e,⟨c1,c2,L1,L2,rfl,rfl,h3,h4⟩,h=>by
  obtain ⟨c,L',F,E,D,C⟩:=REs.at h4 (i:=i) (e:=e) (by simpa using h);refine ⟨c,L',F,E,λb B=>by simp [D b B],λj u A=>?_⟩;have hl:=h3.2;rw [List.getElem?_append_right (by rw [AU];omega)];rw [<-C j u A];congr 1
  rw [hl,AU];omega
theorem REs.len {m:Nat}:∀{xs:List (List CT)}{cs:List Value}{L:List Nat},REs w m xs cs L->cs.length=xs.length*m
 | [],_,_,h=>by simp [h.1]
 |x::r,_,_,⟨c1,c2,L1,L2,rfl,rfl,h3,h4⟩=>by simp [h3.2,REs.len h4,AU];omega
theorem ZEB [NW] (G:∀t i,tt t=some i->TOk P t i) (hI:HI W g st.ob w) (hU:StU U st) {t e m a:Nat}{z:List AV}(p:tt t=some (.slice e m a z)) {x i v:SV}{J vi:Value}(h:Zac st m x i=some v) (K:SVR g w x J) (B:svU U x) (hi:SVR g w i vi):
  ∃cv,(Instr.indexAt t J vi).run P w=.ok cv w/\SVR g w v cv/\svU U v:=by
 obtain ⟨R,hm,_,⟨ie,zv,C,D,_⟩,_⟩:=G t _ p;have f:∀(b o n c:Nat) (k:IntKind) (q:Int),0<=q->q<n->(Instr.indexAt t (.slice (some ⟨b,o,none⟩) n c) (.int k q)).run P w=.ok (.pointer (some ⟨b,o+q.toNat*m,none⟩)) w:=λb o n c k q E I=>by
  simp [Instr.indexAt,asIntOf,Yz R,E,I,Y7 C,D,Zdt]
 unfold Zac at h;split at h
 .have ei:=Zb8 hi;subst ei;split at h
  .rename_i H;obtain ⟨x,l,rfl⟩:=AB.1 h;obtain ⟨A,cap,cs,L0,L1,rfl,h2,h3,h5,N,h7,M⟩:=Zhn K;obtain ⟨E,rfl⟩:=H;have hlt:=(AF.1 l).1;obtain ⟨b,off,rfl,rfl,V⟩:=N.at_ yE;obtain ⟨c,L',a1,a2,a3,a4⟩:=h7.at l;refine ⟨_,f b off _ _ _ _ E yE,⟨b,off+_,c,L',by rw [Nat.add_zero],λj u T=>?_,a1,λy F=>?_,?_⟩,trivial⟩
   .rw [AO];exact V _ u (a4 j u T)
   .rcases AL.1 F with rfl|F
    .exact M _ yG
    .exact M _ (by simp [a3 y F])
   .exact N.lt h5 b yG
  .simp at h
 .rename_i k _ _;have ei:=Zb8 hi;subst ei;split at h
  .rename_i e' m' xs d S;split at h
   .rename_i H;obtain ⟨E,I,rfl⟩:=H;simp only[A6]at h;subst h;have hv:=ZgB K;subst hv;obtain ⟨_,cs,L,O,_⟩:=hI.deep S;rcases O.2 with ⟨_,hn⟩|⟨b,o,cap,aa,hv,_⟩
    .omega
    .refine ⟨_,by rw [hv];exact f b o _ _ _ _ E I,⟨b,o,_,_,hv,yG⟩,by have:=B (.row k) yG;exact this⟩
   .simp at h
  .simp at h
 .simp at h
theorem ZBA [NW] (c:∀t i,tt t=some i->TOk P t i) {t:Nat}{x i v:SV}{A vi:Value}(h:ZmM (tt t) x i=some v) (C:SVR g w x A) (hi:SVR g w i vi):
  ∃cv,(Instr.index t A vi).run P w=.ok cv w/\SVR g w v cv/\svU U v:=by
 unfold ZmM at h;split at h
 .have ei:=Zb8 hi;subst ei;obtain ⟨rfl,_⟩:=Zjd C;split at h
  .rename_i B;obtain ⟨b,D,rfl⟩:=AB.1 h;refine ⟨_,?_,ZbW _ _,XW _⟩;simp [Instr.index,asIntOf,Yz (Zh8 c B.2),B.1,D]
  .simp at h
 .simp at h
theorem ZwJ [NW] {e:List CT}{v:Value}(h:SVR g w (.p false [.c (.pt e)]) v):∃b cs L,v=.pointer (some ⟨b,0,none⟩)/\b<w.heap.size/\Zbr w b 0 cs/\RCs w e cs L/\∀x∈b::L,¬g.own x:=by
 obtain ⟨x,A,h⟩:=h;simp at A;subst A;obtain ⟨_,⟨b,cs,L,F,E,rfl,D,C⟩,B⟩:=h;exact ⟨b,cs,L,F,E,D,C,B⟩
theorem Zwg [NW] (A:∀t i,tt t=some i->TOk P t i) (R:HI W g st.ob w) (hU:StU U st) {t:Nat}{x v:SV}{M:Value}(h:Qy st (tt t) x=some v) (C:SVR g w x M):
  ∃cv,(Instr.loadAt t M).run P w=.ok cv w/\SVR g w v cv/\svU U v:=by
 unfold Qy at h;split at h
 .rename_i k off;split at h
  .rename_i tb cs D;obtain ⟨b,E,rfl⟩:=C;have ho:=R.obs k;rw [D]at ho;obtain ⟨b',vs,F,O,N,o4,V⟩:=ho;have hb:b=b':=by rw [F]at E;simpa using E.symm
   subst hb;have hu:=hU.ob k;rw [D]at hu;have H:Zbr w b 0 vs:=λj u G=>by
    rw [AW,cell_of_row w b j vs.toArray tb (0,0) o4];simpa using G
   have:=Zq5 (P:=P) A h H V hu;simpa using this
  .simp at h
 .rename_i k m i off;split at h
  .rename_i e m' xs d D;obtain ⟨x,a,K⟩:=AN.1 h;obtain ⟨b,o,n,c,E,rfl⟩:=C;obtain ⟨hm,cs,L,F,O,N,_⟩:=R.deep D;split at K
   .rename_i f;subst f;obtain ⟨c',L',a1,a2,a3,a4⟩:=O.at a;have H:Zbr w b (o+i*m) c':=λj u G=>by
     rw [AO];exact Zhd F E (i*m+j) u (a4 j u G)
    rw [<-AO];exact Zq5 A K H (a1.avr λy B=>N y (a3 y B)) (ZjF true _)
   .simp at K
  .simp at h
 .obtain ⟨b,lo,cs,L,rfl,T,J,I,S⟩:=C;exact Zq5 A h T (J.avr λy B=>I y (by simp [B])) (ZjF true _)
 .obtain ⟨b,cs,L,rfl,T,J,I,S⟩:=ZwJ C;have:=Zq5 (P:=P) (U:=U) A h J (I.avr λy B=>S y (by simp [B])) (ZjF true _);simpa using this
 .simp at h
theorem ZEm [NW] {d:Nat}{x v:SV}{C:Value}(h:Zk6 d x=some v) (A:SVR g w x C) (D:svU U x):∃b o,C=.pointer (some ⟨b,o,none⟩)/\SVR g w v (.pointer (some ⟨b,o+d,none⟩))/\svU U v:=by
 unfold Zk6 at h;split at h<;>simp at h<;>subst h
 .obtain ⟨b,B,rfl⟩:=A;exact ⟨b,_,rfl,⟨b,B,rfl⟩,D⟩
 .obtain ⟨b,o,n,c,B,rfl⟩:=A;exact ⟨b,_,rfl,⟨b,o,n,c,B,by simp only[AO]⟩,D⟩
 .obtain ⟨b,E,cs,L,rfl,h⟩:=A;exact ⟨b,_,rfl,⟨b,E,cs,L,by rw [AO],h⟩,trivial⟩
 .obtain ⟨b,cs,L,rfl,I,H,G,F⟩:=ZwJ A;exact ⟨b,0,rfl,⟨b,0,cs,L,rfl,H,G,F,I⟩,trivial⟩
theorem ZFe [NW] (A:∀t i,tt t=some i->TOk P t i) {t f n:Nat}{C:List FI}{z:List AV}(c:tt t=some (.strct C n z)) {D:FI}(I:C[f]?=some D) {x v:SV}{B:Value}(h:Zk6 D.off x=some v) (G:SVR g w x B) (H:svU U x):
  ∃cv,(Instr.fieldAt t B f).run P w=.ok cv w/\SVR g w v cv/\svU U v:=by
 obtain ⟨b,o,rfl,K,J⟩:=ZEm h G H;obtain ⟨a,i,zvs,F,_,_,_,_,E⟩:=A t _ c;obtain ⟨fl,R,O,N,j,d,M,L,_⟩:=E.at I;have e:a[f]?=some fl:=by simpa using R
 refine ⟨_,?_,K,J⟩;simp [Instr.fieldAt,Yz F,e,Instr.sureAddr,fieldPlace,Y7 M,L,N,Zdt,O]
theorem ZFx [NW] (A:∀t i,tt t=some i->TOk P t i) {t f n:Nat}{I:List FI}{z:List AV}(c:tt t=some (.strct I n z)) {x v:SV}{D:Value}(h:Zol I f x=some v) (O:SVR g w x D) (H:svU U x):
  ∃cv,(Instr.field t D f).run P w=.ok cv w/\SVR g w v cv/\svU U v:=by
 unfold Zol at h;split at h
 .rename_i cs;obtain ⟨J,R,h⟩:=AN.1 h;obtain ⟨vs,rfl,B⟩:=O;obtain ⟨a,i,zvs,E,_,_,_,_,N⟩:=A t _ c;obtain ⟨fl,V,M,e3,j,d,T,S,L,K⟩:=N.at R;have b:a[f]?=some fl:=by simpa using V
  have hlen:=B.len;split at h
  .rename_i C;split at h<;>simp at h
   rename_i hn;subst h;refine ⟨.agg ((vs.drop J.off).take J.size).toArray,?_,⟨_,rfl,(B.drop _).take _⟩,λy m=>H y (As (At m))⟩;simp [Instr.field,Yz E,b,asAgg,part,Zih L,K,C,Y7 T,S,M]
  .rename_i C;obtain ⟨y,G,rfl⟩:=AB.1 h;obtain ⟨u,b1,W⟩:=B.at G;refine ⟨u,?_,⟨y,rfl,W⟩,λz F=>by simp at F;subst F;exact H z (AJ G)⟩;simp [Instr.field,Yz E,b,asAgg,part,Zih L,K,C,M,b1]
 .simp at h
theorem ZBS [NW] {c:Bool}{x y:SV}{C B A:Value}(F:SVR g w (.p false [.c (.bool c)]) C) (E:SVR g w x B/\svU U x) (D:SVR g w y A/\svU U y):
  ∃cv,(do pure (Next.value (if <-asBool C then B else A)):Sem Next).run P w=.ok (.value cv) w/\SVR g w (if c=true then x else y) cv/\svU U (if c=true then x else y):=by
 have:=Zgj F;subst this;cases c
 .exact ⟨A,by simp [asBool],by simpa using D.1,by simpa using D.2⟩
 .exact ⟨B,by simp [asBool],by simpa using E.1,by simpa using E.2⟩
theorem ZE9 [NW] {i:Nat}{x v:SV}{c:Value}(h:Zz9 i x=some v) (B:SVR g w x c) (C:svU U x):∃cv,(Instr.extract c i).run P w=.ok cv w/\SVR g w v cv/\svU U v:=by
 unfold Zz9 at h;split at h
 .obtain ⟨y,A,rfl⟩:=AB.1 h;obtain ⟨vs,rfl,D⟩:=B;obtain ⟨u,F,E⟩:=D.at A;exact ⟨u,by simp [Instr.extract,F],E,C y (AJ A)⟩
 .simp at h
theorem ZAE [NW] {B:Bool}{x y v:SV}{A c:Value}{ts:Array TypeId}{ty:TypeId}(h:Zy3 B x y=some v) (D:SVR g w x A) (C:SVR g w y c):
  ∃cv,((if B then Builtin.min_ ts ty #[A,c] else Builtin.max_ ts ty #[A,c]):Sem Value).run P w=.ok cv w/\SVR g w v cv/\svU U v:=by
 unfold Zy3 at h;split at h
 .have ex:=Zb8 D;have ey:=Zb8 C;subst ex ey;simp only[A6]at h;subst h;refine ⟨_,?_,ZbW _ _,XW _⟩;cases B
  .simp [Builtin.max_,Builtin.max2]
  .simp [Builtin.min_,Builtin.min2]
 .simp at h
end
end
section
open Go.RowKit
theorem ZaJ {α:Type}(l:List α) (off:Nat) (vs:List α) (h:off+vs.length<=l.length):(splice l off vs).length=l.length:=by
 simp [splice];omega
theorem Zt6 {α:Type}(l:List α) (n:Nat) (v:α) (r:List α) (h:n+(r.length+1)<=l.length):splice (l.set n v) (n+1) r=splice l n (v::r):=by
 unfold splice;have A:(l.set n v).take (n+1)=l.take n++[v]:=by
  rw [List.take_succ_eq_append_getElem (by simp;omega)];simp [List.take_set_of_le]
 have c:(l.set n v).drop (n+1+r.length)=l.drop (n+(v::r).length):=by
  rw [List.drop_set_of_lt yE];congr 1
  simp;omega
 rw [A,c];simp
theorem ZpZ [NW] (off:Nat):∀(vs:List Value) (k:Nat) (a:Array Value),off+k+vs.length<=a.size->
  (vs.zipIdx k).foldl (λ(cs:Array Value) (p:Value×Nat)=>cs.setIfInBounds (off+p.2) p.1) a=(splice a.toList (off+k) vs).toArray
 | [],k,a,h=>by simp [splice]
 |v::r,k,a,h=>by
  rw [List.zipIdx_cons,AK,ZpZ off r (k+1) _ (by simp at h ⊢;omega)];have:=Zt6 a.toList (off+k) v r (by simpa using h);rw [<-this];simp [AO]
theorem ZnO [NW] (off:Nat) (v:Value) (vs:List Value) (A:v.cells=vs.toArray) (a:Array Value) (h:off+vs.length<=a.size):
  v.cells.zipIdx.foldl (λcs (c,j)=>cs.setIfInBounds (off+j) c) a=(splice a.toList off vs).toArray:=by
 have:=ZpZ off vs 0 a (by simpa using h);rw [A,<-Array.foldl_toList];simpa using this
section
variable {P:Program} {W:Qq} {U:Nat->Prop} {key:Nat} {st:St} {g:Gh} {w:World} {a:Act} {tt:Nat->Option TI}
theorem ZJ.splice {α β:Type}{R:α->β->Prop}{l vs:List α}{r c:List β}(h:ZJ R l r) (A:ZJ R vs c) (off:Nat):ZJ R (splice l off vs) (splice r off c):=by
 unfold Go.Proofs.YthjnneiibkknhaaGreatDoor.splice;rw [A.len];exact (h.take _).append (A.append (h.drop _))
theorem Zlx {l vs:List AV}(h:XX U l) (c:XX U vs) (off:Nat):XX U (splice l off vs):=by
 intro y m;unfold splice at m;rcases A9.1 m with m|m
 .exact h y (At m)
 .rcases A9.1 m with m|m
  .exact c y m
  .exact h y (As m)
theorem ZvJ [NW] {a:Nat->Option (Nat×Nat)}{D:List FI}(C:∀i B,D[i]?=some B->a i=some (B.off,B.size)):
  ∀{b:List (Nat×SV)} {A:List (Nat×Value)} {cs c:List AV} {vs:List Value},Zkp D cs b=some c->ZJ (λp q=>p.1=q.1/\SVR g w p.2 q.2/\svU U p.2) b A->ZJ (AVR g w) cs vs->XX U cs->
   ∃d:List Value,Instr.fill a vs.toArray A=some d.toArray/\ZJ (AVR g w) c d/\XX U c
 | [],[],cs,c,vs,h,_,hr,hu=>by simp [Zkp]at h;subst h;exact ⟨vs,rfl,hr,hu⟩
 | [],_::_,_,_,_,_,h,_,_=>h.elim
 |_::_,[],_,_,_,_,h,_,_=>h.elim
 |(i,s)::r,(j,v)::A,cs,c,vs,h,⟨⟨e,hs,hsu⟩,hps⟩,hr,hu=>by
  simp only at e hs hsu;subst e;cases s with
  |p ag us=>
   simp only[Zkp]at h;obtain ⟨f,F,h⟩:=AN.1 h;split at h
   .rename_i J;obtain ⟨k,E,c2⟩:=PVR.cells hs;have hlen:=c2.len;have hlen2:=hr.len;obtain ⟨d,I,H,G⟩:=ZvJ C h hps (hr.splice c2 f.off) (Zlx hu hsu f.off);refine ⟨d,?_,H,G⟩;have l:v.cells.size=k.length:=by simp [E]
    rw [Instr.fill,C i f F];simp only;rw [if_neg (by simp [l];omega),ZnO f.off v k E _ (by simp;omega)];simpa using I
   .simp at h
  |_=>simp [Zkp]at h
theorem ZJ.of_map {α β γ:Type}{R:β->γ->Prop}(f:α->β) (h:α->γ):∀{l:List α},(∀x∈l,R (f x) (h x))->ZJ R (l.map f) (l.map h)
 | [],_=>trivial
 |x::l,hh=>⟨hh x yG,ZJ.of_map f h λy m=>hh y (by simp [m])⟩
theorem Zi6 [NW]:∀{z:List AV}{zvs:List Value},ZJ (λa v=>Za4 a v=true) z zvs->ZJ (AVR g w) z zvs/\XX U z
 | [],[],_=>⟨trivial,λ_ m=>by simp at m⟩
 |x::z,v::zvs,h=>by
  obtain ⟨A,c⟩:=Zi6 (z:=z) (zvs:=zvs) h.2;refine ⟨⟨Zf5 h.1,A⟩,λy m=>?_⟩;rcases AL.1 m with rfl|m
  .have:=h.1;cases y<;>first|trivial|simp [Za4]at this
  .exact c y m
 | [],_::_,h=>h.elim
 |_::_,[],h=>h.elim
theorem Zpx:∀{A:List FI}{a:List Field},ZJ (λ(c:FI) (f:Field)=>f.offset=c.off/\c.size≠0/\∃j d,P.info? f.type=some j/\j.size=c.size/\P.underlying f.type=some d/\Zt2 d=c.agg) A a->
  a.mapM (λf=>(P.info? f.type).map λi=>(f.offset,i.size))=some (A.map λc=>(c.off,c.size))
 | [],[],_=>rfl
 |c::A,f::a,⟨⟨h1,_,j,d,h2,h3,_⟩,h⟩=>by
  simp [List.mapM_cons,h2,h3,h1,Zpx h]
 | [],_::_,h=>h.elim
 |_::_,[],h=>h.elim
theorem ZyZ [NW] (C:∀t i,tt t=some i->TOk P t i) (N:∀t,SVR g w (st.sl t) (a.tmps.getD t undef)) (M:StU U st) {t n:Nat}{B:List FI}{z:List AV}(f:tt t=some (.strct B n z)) {b:Array (Nat×Operand)}{cs:List AV}(h:Zkp B z (b.toList.map (ZgO tt st B z))=some cs):
  ∃cv,(Instr.build t (b.map λ(i,x)=>(i,a.eval x))).run P w=.ok cv w/\SVR g w (.p true cs) cv/\svU U (.p true cs):=by
 obtain ⟨D,i,zvs,I,H,V,G,F,E⟩:=C t _ f;obtain ⟨J,j⟩:=Zi6 (g:=g) (w:=w) (U:=U) F;have c:ZJ (λ(p:Nat×SV) (q:Nat×Value)=>p.1=q.1/\SVR g w p.2 q.2/\svU U p.2) (b.toList.map (ZgO tt st B z)) (b.toList.map λp=>(p.1,a.eval p.2)):=by
  refine ZJ.of_map _ _ λp _=>?_;unfold ZgO;split
  .rename_i L;rw [L];refine ⟨rfl,?_⟩;dsimp only;split
   .exact ⟨⟨_,rfl,rfl⟩,λy m=>by simp at m;subst m;trivial⟩
   .exact ⟨trivial,trivial⟩
  .have:=ZlQ C N M 0 p.2;exact ⟨rfl,this⟩
 have k:∀(i:Nat) (A:FI),B[i]?=some A->((B.map λ(A:FI)=>(A.off,A.size)).toArray[i]?)=some (A.off,A.size):=λi A K=>by simp [K]
 obtain ⟨d,T,S,R⟩:=ZvJ k h c J j;refine ⟨.agg d.toArray,run_build w t _ _ ?_,⟨d,rfl,S⟩,R⟩;unfold Program.built;simp only[I,H,G,Zpx E];have e:(b.map λ(x:Nat×Operand)=>(x.1,a.eval x.2)).toList=b.toList.map λp=>(p.1,a.eval p.2):=by simp
 have O:(b.map λx=>match x with|(i,x)=>(i,a.eval x))=b.map λ(x:Nat×Operand)=>(x.1,a.eval x.2):=rfl;rw [O,e];exact T
theorem Sl.sub {m n:Nat}{A:Option Addr}{cs:List Value}{L:List Nat}(h:Sl w m A n cs L) (l q cap:Nat) (H:0<m) (E:l+q<=n) (D:n<=cap):
  ∃A' L',A'=(if cap=l then A else A.map (·.add (l*m)))/\Sl w m A' q ((cs.drop (l*m)).take (q*m)) L'/\∀b∈L',b∈L:=by
 have hlen:=h.1;have F:l*m+q*m<=n*m:=by rw [<-AU];exact Nat.mul_le_mul_right m E
 refine ⟨_,if q=0 then [] else L,rfl,⟨by simp;omega,?_⟩,λb B=>?_⟩
 .by_cases a:q=0
  .exact .inl ⟨a,by simp [a]⟩
  .rcases h.2 with ⟨I,_⟩|⟨_,b,off,rfl,rfl,G⟩
   .omega
   .refine .inr ⟨yE,b,off+l*m,by rw [if_neg yE];simp [Zdt],by simp [a],λj u C=>?_⟩;rw [AO];refine G _ u ?_;have c:j<q*m:=by
     have:=(AF.1 C).1;simp at this;omega
    rw [B8,if_pos c,B9]at C;exact C
 .split at B
  .simp at B
  .exact B
theorem REs.drop {m:Nat}:∀{xs:List (List CT)}{cs:List Value}{L:List Nat}(l:Nat),REs w m xs cs L->∃L',REs w m (xs.drop l) (cs.drop (l*m)) L'/\∀b∈L',b∈L
 |xs,cs,L,0,h=>⟨L,by simpa using h,λ_ c=>c⟩
 | [],cs,L,l+1,h=>⟨[],by obtain ⟨rfl,rfl⟩:=h;simp [REs],yG⟩
 |x::r,_,_,l+1,⟨c1,c2,L1,L2,rfl,rfl,h3,h4⟩=>by
  obtain ⟨L',B,A⟩:=REs.drop l h4;refine ⟨L',?_,λb c=>by simp [A b c]⟩;have e:(l+1)*m=c1.length+l*m:=by rw [h3.2,AU];omega
  have C:(c1++c2).drop (c1.length+l*m)=c2.drop (l*m):=by
   rw [List.drop_append,List.drop_of_length_le (Nat.le_add_right _ _),List.nil_append,Nat.add_sub_cancel_left]
  rw [e,C];simpa using B
theorem REs.take {m:Nat}:∀{xs:List (List CT)}{cs:List Value}{L:List Nat}(l:Nat),REs w m xs cs L->∃L',REs w m (xs.take l) (cs.take (l*m)) L'/\∀b∈L',b∈L
 |xs,cs,L,0,h=>⟨[],by simp [REs],yG⟩
 | [],cs,L,l+1,h=>⟨[],by obtain ⟨rfl,rfl⟩:=h;simp [REs],yG⟩
 |x::r,_,_,l+1,⟨c1,c2,L1,L2,rfl,rfl,h3,h4⟩=>by
  obtain ⟨L',B,A⟩:=REs.take l h4;refine ⟨L1++L',?_,λb c=>by
   rcases A9.1 c with c|c
   .simp [c]
   .simp [A b c]⟩
  have e:(l+1)*m=c1.length+l*m:=by rw [h3.2,AU];omega
  rw [e,List.take_length_add_append];exact ⟨c1,_,L1,L',rfl,rfl,h3,B⟩
theorem Zpm {k:IntKind}{i:Int}{y:Nat}{a:BoundsCode}(A:0<=i) (c:i<=y):(Instr.sliceBound (.int k i) y a).run P w=.ok i.toNat w:=by
 simp [Instr.sliceBound,asIntOf,A,c]
def Znm [NW] (g:Gh) (w:World):Option SV->Option Value->Prop
 |none,none=>True
 |some s,some u=>SVR g w s u
 |_,_=>False
theorem Zi9 [NW] {lo hi:Option SV}{vlo vhi:Option Value}{len cap l h:Nat}{b:Bool}(hh:hiB len hi=some h) (hl:loB h lo=some l) (hlo:Znm g w lo vlo) (hhi:Znm g w hi vhi) (hc:len<=cap):
  (Instr.sliceBounds b len cap vlo vhi none).run P w=.ok (l,h,cap) w/\l<=h/\h<=len:=by
 have e1 : ((match vhi, (none : Option Value) with | some v, some _ => Instr.sliceBound v cap .slice3B | some v, none => Instr.sliceBound v cap (if b then .sliceAcap else .sliceAlen) | none, none => pure len | none, some _ => stuck "Slice: max without high") : Sem Nat).run P w = .ok h w ∧ h ≤ len := by
  unfold hiB at hh
  split at hh
  .simp only[A6]at hh
   subst hh
   cases vhi with
   |none=>exact ⟨rfl,A5 _⟩
   |some v=>exact hhi.elim
  .split at hh<;>simp only[A6,reduceCtorEq]at hh
   rename_i hq
   subst hh
   cases vhi with
   |none=>exact hhi.elim
   |some v=>
    have e:=Zb8 hhi
    subst e
    exact ⟨Zpm hq.1 yE,yE⟩
  .simp at hh
 have e2:((match vlo with|some v=>Instr.sliceBound v h .sliceB|none=>pure 0):Sem Nat).run P w=.ok l w/\l<=h:=by
  unfold loB at hl
  split at hl
  .simp only[A6]at hl
   subst hl
   cases vlo with
   |none=>exact ⟨rfl,Nat.zero_le _⟩
   |some v=>exact hlo.elim
  .split at hl<;>simp only[A6,reduceCtorEq]at hl
   rename_i hq
   subst hl
   cases vlo with
   |none=>exact hlo.elim
   |some v=>
    have e:=Zb8 hlo
    subst e
    exact ⟨Zpm hq.1 hq.2,yE⟩
  .simp at hl
 refine ⟨?_,e2.2,e1.2⟩
 unfold Instr.sliceBounds
 simp only[Sem.run_bind,Sem.run_pure,Result.andThen_ok,Option.isSome_none,AD,if_false]
 have e1':=e1.1
 have e2':=e2.1
 cases vhi<;>cases vlo<;>simp_all
theorem Zui [NW] (C:∀t i,tt t=some i->TOk P t i) {t:Nat}{x v:SV}{J hi:Option SV}{H:Value}{vlo vhi:Option Value}(h:ZnY (tt t) J hi x=some v) (K:SVR g w x H)
  (f:Znm g w J vlo) (j:Znm g w hi vhi):∃cv,(Instr.sliceAt t H vlo vhi none).run P w=.ok cv w/\SVR g w v cv/\svU U v:=by
 unfold ZnY at h;split at h
 .rename_i s;split at h
  .rename_i k;have hu:=Zh8 C k;obtain ⟨q,D,h⟩:=AN.1 h;obtain ⟨l,E,rfl⟩:=AB.1 h;obtain ⟨rfl,hs⟩:=Zjd K;obtain ⟨F,b2,b3⟩:=Zi9 (P:=P) (b:=false) D E f j (A5 _);refine ⟨_,?_,Zmr (by rw [AY];omega),XW _⟩;simp [Instr.sliceAt,Yz hu,Instr.slice,F]
  .simp at h
 .rename_i e m xs;split at h
  .rename_i d;obtain ⟨q,D,h⟩:=AN.1 h;obtain ⟨l,E,rfl⟩:=AB.1 h;obtain ⟨A,cap,cs,L0,L1,rfl,N,h3,M,h6,W,L⟩:=Zhn K;obtain ⟨F,b2,b3⟩:=Zi9 (P:=P) (b:=true) D E f j N;obtain ⟨O,R,G,o⟩:∃O R G,tt t=some (.slice O m R G):=by
    unfold Zlj at d;split at d
    .rename_i h1;subst d;exact ⟨_,_,_,h1⟩
    .omega
   obtain ⟨hu,_,_,⟨ie,zv,u,y,_⟩,_⟩:=C t _ o;have fin:SVR g w (.p false [.c (.sl e m ((xs.take q).drop l))]) (.slice (if cap=l then A else A.map (·.add (l*m))) (q - l) (cap - l)):=by
    obtain ⟨A',L',rfl,I,S⟩:=h6.sub l (q - l) cap M yE N;obtain ⟨M1,r1,r2⟩:=W.take q;obtain ⟨M2,V,T⟩:=r1.drop l;have a:((xs.take q).drop l).length=q - l:=by simp;omega
    have e1:(cs.drop (l*m)).take ((q - l)*m)=(cs.take (q*m)).drop (l*m):=by
     rw [List.drop_take,Nat.sub_mul]
    rw [e1]at I;refine ⟨_,rfl,L'++M2,⟨_,_,_,L',M2,by rw [a],by rw [a];omega,yE,rfl,M,by rw [a];exact I,V⟩,λb B=>?_⟩;rcases A9.1 B with B|B
    .exact L b (by simp [S b B])
    .exact L b (by simp [r2 b (T b B)])
   refine ⟨_,?_,fin,XW _⟩;simp [Instr.sliceAt,Yz hu,Instr.slice,F,Y7 u,y]
  .simp at h
 .simp at h
end
end
section
open Go.RowKit
theorem ZG {α:Type}(f:Nat->α) (k:Nat) (v:α):upd f k v k=v:=by simp [upd]
theorem ZR {α:Type}(f:Nat->α) {k j:Nat}(v:α) (h:j≠k):upd f k v j=f j:=by simp [upd,h]
theorem Yj (ob:Nat->Ob) (u v:List (Nat×Ob)):Zl ob (u++v)=Zl (Zl ob u) v:=by
 induction u generalizing ob with
 |nil=>rfl
 |cons p r ih=>exact ih _
theorem ZeZ:∀(ks:List Nat) (ob:Nat->Ob) (k:Nat),Zl ob (Yk ks) k=if k∈ks then .gone else ob k
 | [],ob,k=>by simp [Yk,Zl]
 |x::ks,ob,k=>by
  have:Yk (x::ks)=(x,Ob.gone)::Yk ks:=rfl;rw [this,Zl,ZeZ ks];by_cases A:k∈ks
  .simp [A]
  .by_cases c:k=x
   .subst c;simp [upd]
   .simp [A,c,upd]
theorem ZaM [NW] (ks:List Nat) (ob:Nat->Ob) (key:Nat) (o:Ob) (k:Nat):Zl ob (Yk ks++[(key,o)]) k=if k=key then o else if k∈ks then .gone else ob k:=by
 rw [Yj];simp only[Zl,upd,ZeZ]
def Gh.turn (g:Gh) (ks:List Nat) (key:Nat) (v:Value) (O D:List Nat):Gh:=
 ⟨upd g.val key v,λk=>if k=key then O else if k∈ks then [] else g.O k,λk=>if k=key then D else if k∈ks then [] else g.D k,g.Z⟩
section
variable {P:Program} {W:Qq} {U:Nat->Prop} {key:Nat} {st:St} {g:Gh} {w w':World} {a:Act} {tt:Nat->Option TI}
theorem ZfN {ks:List Nat}{v:Value}{O D:List Nat}{b:Nat}(h:(g.turn ks key v O D).own b):b∈O\/(∃k,k∉ks/\k≠key/\b∈g.O k)\/g.Z b:=by
 rcases h with ⟨k,c⟩|h
 .simp only[Gh.turn]at c;split at c
  .exact .inl c
  .rename_i B;split at c
   .simp at c
   .rename_i A;exact .inr (.inl ⟨k,A,B,c⟩)
 .exact .inr (.inr h)
theorem ZqB {n:Nat}{ks:List Nat}{v:Value}{O D:List Nat}(E:∀b∈O,(∃k∈ks,b∈g.O k)\/n<=b) (F:∀b∈D,(∃k∈ks,b∈g.O k++g.D k)\/n<=b):Ql g (g.turn ks key v O D) n:=by
 refine .of (λb C=>?_) λj b c=>?_
 .rcases ZfN C with m|⟨k,_,_,m⟩|m
  .rcases E b m with ⟨k,_,m⟩|m
   .exact .inl (.inl ⟨k,m⟩)
   .exact .inr m
  .exact .inl (.inl ⟨k,m⟩)
  .exact .inl (.inr m)
 .simp only[Gh.turn]at c;split at c
  .refine (F b c).imp (λ⟨k,_,B⟩=>?_) id;rcases A9.1 B with A|A
   .exact .inl (.inl ⟨k,A⟩)
   .exact .inr ⟨k,A⟩
  .split at c
   .simp at c
   .exact .inl (.inr ⟨j,c⟩)
theorem HI.turn [NW] {ob:Nat->Ob}(h:HI W g ob w) (i:∀k,obU U (ob k)) (c:¬U key) (ks:List Nat) (z:∀k∈ks,U k)
  (l:Bel W w') (A:w.heap.size<=w'.heap.size) (N:∀b,b<w.heap.size->(∀k∈ks,b∉g.O k)->w'.heap[b]?=w.heap[b]?)
  {v:Value} {O D:List Nat} {o:Ob} (P:∀b∈O,(∃k∈ks,b∈g.O k)\/w.heap.size<=b) (R:∀b∈D,(∃k∈ks,b∈g.O k++g.D k)\/w.heap.size<=b)
  (B:(O++D).Nodup) (C:∀b∈O++D,(W.heap.size<=b\/W.x b\/W.y b)/\YT w' o b)
  (E:Ql g (g.turn ks key v O D) w.heap.size->ObR (g.turn ks key v O D) w' key o):
  HI W (g.turn ks key v O D) (Zl ob (Yk ks++[(key,o)])) w'/\∀x u,svU U x->SVR g w x u->SVR (g.turn ks key v O D) w' x u:=by
 have aa:key∉ks:=λm=>c (z key m);have d:∀k,U k->(g.turn ks key v O D).val k=g.val k:=λk H=>ZR _ _ λe=>c (e ▸ H);have a:Ql g (g.turn ks key v O D) w.heap.size:=ZqB P R;have f:∀b∈O++D,(∃k∈ks,b∈g.O k++g.D k)\/w.heap.size<=b:=λb m=>by
  rcases A9.1 m with m|m
  .exact (P b m).imp (λ⟨k,G,F⟩=>⟨k,G,by simp [F]⟩) id
  .exact R b m
 refine ⟨h.step (λk=>k=key\/k∈ks) l rfl (λb L K=>N b L λk H=>K k (.inr H)) (λk H=>?_) i d a (λk H=>?_),λx u V hu=>hu.move V d (λb L K=>N b L λk _ m=>K (.inl ⟨k,m⟩)) a A⟩
 .have G:k≠key:=λe=>H (.inl e);have F:k∉ks:=λe=>H (.inr e);rw [ZaM];simp [Gh.turn,G,F,upd]
 .rw [ZaM];by_cases G:k=key
  .subst G;have I:(g.turn ks k v O D).O k=O:=by simp [Gh.turn]
   have J:(g.turn ks k v O D).D k=D:=by simp [Gh.turn]
   rw [if_pos rfl,I,J];refine ⟨E a,B,C,λj hj b m M=>?_⟩;have p:¬j=k:=λe=>hj e.symm;by_cases F:j∈ks
   .simp [Gh.turn,p,F]at M
   .have t:b∈g.O j++g.D j:=by simpa [Gh.turn,p,F]using M
    rcases f b m with ⟨q,T,S⟩|q
    .exact h.apart q j (λe=>F (e ▸ T)) b S t
    .have:=h.lt j b t;omega
  .have F:k∈ks:=H.resolve_left G;have I:(g.turn ks key v O D).O k=[]:=by simp [Gh.turn,G,F]
   have J:(g.turn ks key v O D).D k=[]:=by simp [Gh.turn,G,F]
   rw [if_neg G,if_pos F,I,J];exact ⟨⟨I,J⟩,yG,yG,yG⟩
theorem Zkm [NW] (A:StU U st) (ks:List Nat) {o:Ob}(B:obU (Uk U key) o):(∀k,obU (Uk U key) (Zl st.ob (Yk ks++[(key,o)]) k))/\∀k,¬Uk U key k->Zl st.ob (Yk ks++[(key,o)]) k=.gone:=by
 constructor
 .intro k;rw [ZaM];split
  .exact B
  .split
   .trivial
   .exact (A.ob k).mono λ_=>.inl
 .intro k c;rw [ZaM,if_neg (λe=>c (.inr yE))];split
  .rfl
  .exact A.gone k λh=>c (.inl h)
theorem ZkT:Uk U key key:=.inr yE
theorem ZzP [NW] (B:HI W g st.ob w) (E:StU U st) (a:¬U key) {t:TypeId}{cs:List AV}{vs:List Value}(F:ZJ (AVR g w) cs vs) (C:XX U cs) {s:Sem Next}
  (d:s.run P w=.ok (.value (.pointer (some ⟨w.heap.size,0,none⟩))) (w.alloc (.cells vs.toArray t))):Fin P W U key st g w s (.bp key 0,[(key,.box t cs)]):=by
 have A:Below w.heap.size w (w.alloc (.cells vs.toArray t)):=(Below.refl _ _).alloc (A5 _) _;obtain ⟨I,H⟩:=B.turn (key:=key) (U:=U) (w':=w.alloc (.cells vs.toArray t)) (v:=.pointer (some ⟨w.heap.size,0,none⟩)) (O:=[w.heap.size]) (D:=[]) (o:=.box t cs) E.ob a [] yG
  (B.below.trans A) A.size (λb c _=>A.block b c) yG yG yG (λb m=>by
   simp at m;subst m;exact ⟨.inl B.below.size,_,_,heap_alloc_new w _⟩) (λf=>⟨w.heap.size,vs,by simp [Gh.turn,upd],by simp [Gh.turn],by simp [Gh.turn],heap_alloc_new w _,
    AVRs.move F C (λk G=>ZR _ _ λe=>a (e ▸ G)) (λb c _=>A.block b c) f⟩)
 have i:=Zkm (key:=key) (o:=.box t cs) E [] (XX.mono (λ_=>.inl) C);exact ⟨_,_,_,.inl d,I,⟨w.heap.size,by simp [Gh.turn,upd],rfl⟩,H,ZkT,i.1,i.2⟩
theorem Zk3 (b:Nat) (cs a:Array Value) (t:TypeId) (B:w.heap[b]?=some (.cells cs t (0,0))):(w.setRow b a).heap[b]?=some (.cells a t (0,0))/\(∀k,k≠b->(w.setRow b a).heap[k]?=w.heap[k]?)/\(w.setRow b a).heap.size=w.heap.size/\(w.setRow b a).os=w.os/\(w.setRow b a).tape=w.tape/\(w.setRow b a).output=w.output:=by
 refine ⟨setRow_heap w b cs a t _ B,λk A=>?_,?_,rfl,rfl,rfl⟩
 .have c:¬b=k:=λe=>A e.symm;simp [World.setRow,Array.getElem?_modify,c]
 .simp [World.setRow]
theorem Zzo [NW] (H:∀t i,tt t=some i->TOk P t i) (D:HI W g st.ob w) (J:StU U st) {t k off tb:Nat}{cs vs:List AV}{S R:Value}{ag:Bool}(O:st.ob k=.box tb cs) (G:vs.length=Zgb (tt t)) (ho:off+vs.length<=cs.length)
  (ha:SVR g w (.bp k off) S) (hv:SVR g w (.p ag vs) R) (o:XX U vs) (a:0<vs.length) {s:Sem Next} (hs:s=(do Instr.storeAt t S R;pure .skip)):Fin P W U key st g w s (.und,[(k,.box tb (splice cs off vs))]):=by
 obtain ⟨b,h1,rfl⟩:=ha;have v:=D.obs k;rw [O]at v;obtain ⟨b',E,o1,I,o3,V,T⟩:=v;have hb:b=b':=by rw [o1]at h1;simpa using h1.symm
 subst hb;have hlen:=T.len;obtain ⟨xs,c1,c2⟩:=PVR.cells hv;have C:=c2.len;have c:=J.ob k;rw [O]at c;obtain ⟨r1,r2,r3,r4,r5,r6⟩:=Zk3 b E.toArray (splice E off xs).toArray tb V;have f:(sizeOf t).run P w=.ok xs.length w:=by
  rw [<-C,G];unfold Zgb at G ⊢;cases hti:tt t with
  |none=>rw [hti]at G;simp at G;simp [G]at a
  |some i=>
   cases i with
   |atom z=>obtain ⟨d,zv,i,_,_,L,_,K,_⟩:=H t _ hti;rw [Y7 L,K]
   |strct fs n z=>obtain ⟨_,i,_,_,L,K,_⟩:=H t _ hti;rw [Y7 L,K]
   |slice e m b z=>obtain ⟨_,_,_,_,j,L,K,_⟩:=H t _ hti;rw [Y7 L,K]
   |_=>rw [hti]at G;simp at G;simp [G]at a
 have y:=run_storeCells_at (P:=P) b off tb xs 0 E.toArray w V (by simp;omega) (AVRs.one c2);have A:s.run P w=.ok .skip (w.setRow b (splice E off xs).toArray):=by
  subst hs;have e:(E.toArray.toList.take (off+0)++xs++E.toArray.toList.drop (off+0+xs.length)).toArray=(splice E off xs).toArray:=by simp [splice]
  rw [e]at y;simp [Instr.storeAt,Instr.sureAddr,storeVar,c1,f,y]
 have l:∀b',b'<w.heap.size->¬g.own b'->(w.setRow b (splice E off xs).toArray).heap[b']?=w.heap[b']?:=λb' _ N=>r2 b' λe=>N (.inl ⟨k,by simp [I,e]⟩);have B:W.heap.size<=b\/W.x b:=D.oy k b (by simp [I]);refine ⟨g,undef,_,.inr ⟨A,rfl⟩,?_,rfl,λx u M hu=>hu.move M (λ_ _=>rfl) l (Ql.refl _ _) yE,trivial,λq=>?_,λq F=>?_⟩
 .refine D.step (U:=U) (λq=>q=k) ?_ rfl (λb' _ N=>r2 b' λe=>N k rfl (by simp [I,e])) (λq F=>⟨ZR _ _ F,rfl,rfl,rfl⟩) J.ob (λ_ _=>rfl) (Ql.refl _ _) (λq F=>?_)
  .exact ⟨r4.trans D.below.os,r5.trans D.below.tape,r6.trans D.below.output,by have:=D.below.size;omega,λq F M=>by rw [r2 q (λe=>by subst e;rcases B with h|h;omega;exact M h)];exact D.below.block q F M⟩
  .subst F;refine ⟨?_,D.nodup q,λb' m=>?_,D.apart q⟩
   .simp only[Zl,ZG];exact ⟨b,_,o1,I,o3,r1,(AVRs.move T c (λ_ _=>rfl) l (Ql.refl _ _)).splice (AVRs.move c2 o (λ_ _=>rfl) l (Ql.refl _ _)) off⟩
   .simp [I,o3]at m;subst m;refine ⟨B.imp_right .inl,?_⟩;simp only[Zl,ZG];exact ⟨_,_,r1⟩
 .simp only[Zl,upd];split
  .exact XX.mono (λ_=>.inl) (Zlx c o off)
  .exact (J.ob q).mono λ_=>.inl
 .simp only[Zl,upd];split
  .rename_i e;subst e;exact absurd (J.gone q λh=>F (.inl h)) (by simp [O])
  .exact J.gone q λh=>F (.inl h)
end
end
end
end Go.Proofs.YthjnneiibkknhaaGreatDoor
