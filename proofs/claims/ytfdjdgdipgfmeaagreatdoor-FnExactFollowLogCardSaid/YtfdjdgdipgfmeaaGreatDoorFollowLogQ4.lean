/- Texts of this proof, joined: BOps6, BOps7, BOps8, BFrz, BOpsM, BOps9, BCall, BCall2, BReg. What each holds is said at its theorems. -/
import Derived.Test.YtfdjdgdipgfmeaaGreatDoorFollowLogQ3
import Derived.Great.BuildSlice
import Derived.MapKept
open Array renaming getD_eq_getD_getElem?→AY,ext'→Az,getElem?_eq_some_iff→BS,getElem?_setIfInBounds_ne→BV
open Bool renaming and_eq_true→Aa
open List renaming mem_append→A6,mem_cons→AC,mem_flatMap→AE,nodup_append→AF,nodup_cons→AL,mem_map→AM,nil_sublist→AN,flatMap_cons→AO,range'→AP,append_assoc→AQ,all_eq_true→AR,mem_range'_1→AS,singleton_append→AT,replicate→AU,cons_append→AX,eq_nil_of_length_eq_zero→AZ,take_succ_cons→Ac,drop_succ_cons→Ad,mem_singleton→Ah,flatMap_append→Ak,append_nil→Al,range'_succ→Am,take_left'→An,drop_append→Ao,drop_of_length_le→Aq,nil_append→As,drop_append_of_le_length→Au,take_append_drop→Aw,map_cons→Ay,mem_iff_getElem?→BB,length_cons→BC,replicate_succ→BD,flatten_cons→BE,map_append→BF,map_map→BG,all_cons→BI,sublist_append_right→BJ,take_zero→BK,getElem?_eq_some_iff→BM,size_toArray→BN,drop_take→BP,drop_drop→BR,map_nil→BT,length_eq_one_iff→BU
open List.Sublist renaming refl→AG,append→AH
open List.cons renaming injEq→Aj
open Nat renaming le_refl→AD,zero_le→AI,add_mul→AJ,le_trans→AK,lt_of_lt_of_le→AW,add_sub_cancel_left→Ae,zero_add→Ag,mul_le_mul_right→Ai,add_assoc→At,mul_le_mul→BH,le_add_right→BL
open Option renaming map_eq_some_iff→AA,bind_eq_some_iff→AB,map_some→Ar,bind_some→Ax
open Option.some renaming injEq→A0
open Prod.mk renaming injEq→A9
set_option linter.unusedSimpArgs false
set_option linter.unusedVariables false
set_option maxRecDepth 1000000
set_option maxHeartbeats 4000000
namespace Go.Proofs.YtfdjdgdipgfmeaaGreatDoor
open Go.IntKind
noncomputable section
section
open Go.RowKit
section
variable {P:Program} {W:ZbW} {U:Nat->Prop} {key:Nat} {st:St} {g:Gh} {w w':World} {a:Act} {tt:Nat->Option TI}
def Gh.F (g:Gh) (ks:List Nat):List Nat:=ks.flatMap fun k=>g.O k++g.D k
def FP (g:Gh) (ks:List Nat) (d:Nat) (L:List Nat):Prop:=(d=2->L.Sublist (g.F ks))/\d<=2/\0<d/\∀b∈L,¬g.own b\/∃k∈ks,b∈g.O k
theorem FP.nil:FP g [] 2 []:=⟨fun _=>by simp [Gh.F],yG⟩
theorem FP.append {ks a:List Nat}{d D:Nat}{L L':List Nat}(h:FP g ks d L) (A:FP g a D L'):FP g (ks++a) (Zb1 d D) (L++L'):=by
 have q1:=h.2.1;have q2:=A.2.1;have q3:=h.2.2.1;have q4:=A.2.2.1;refine ⟨fun E=>?_,by unfold Zb1;split<;>omega,by unfold Zb1;split<;>omega,fun b m=>?_⟩
 .have c:d=2/\D=2:=by unfold Zb1 at E;split at E<;>omega
  simp only[Gh.F,Ak];exact AH (h.1 c.1) (A.1 c.2)
 .rcases A6.1 m with m|m
  .exact (h.2.2.2 b m).imp id fun ⟨k,C,B⟩=>⟨k,by simp [C],B⟩
  .exact (A.2.2.2 b m).imp id fun ⟨k,C,B⟩=>⟨k,by simp [C],B⟩
theorem HI.nodupF [NW] {ob:Nat->Ob}(B:HI W g ob w):∀{ks:List Nat},ks.Nodup->(g.F ks).Nodup
 | [],_=>by simp [Gh.F]
 |k::ks,h=>by
  simp only[Gh.F,AO,AF];rw [AL]at h;refine ⟨AF.1 (B.nodup k),B.nodupF h.2,fun x C y A e=>?_⟩;subst e;obtain ⟨j,D,A⟩:=AE.1 A;exact B.apart k j (fun e=>h.1 (e ▸ D)) x C A
theorem ZgO {ks:List Nat}{b:Nat}(h:b∈g.F ks):∃k∈ks,b∈g.O k++g.D k:=by simpa [Gh.F]using h
theorem Sl.row {B e m n:Nat}{v:Value}{cs:List Value}(h:w.ownsV B e m v n cs):∃A cap L0,v=.slice A n cap/\n<=cap/\cap<=maxLen/\Sl w m A n cs L0/\L0.Sublist v.ownBlock.toList:=by
 obtain ⟨A,cap,rfl,E,D⟩:=Zbt h;obtain ⟨L0,C,_,F⟩:=Sl.of_ownV h;refine ⟨A,cap,L0,rfl,E,D,C,?_⟩;rcases C.2 with ⟨_,rfl⟩|⟨_,b,off,rfl,rfl,_⟩
 .exact AN _
 .simp [Value.ownBlock]
theorem NR.toC [NW] {x:CT}{v:Value}(h:NR g w x v):∃L,RC w x v L/\∀b∈L,¬g.own b:=by
 obtain ⟨e,m,xs,cs,L,rfl,M,K,J,N,I⟩:=h;obtain ⟨A,cap,L0,G,F,E,D,C⟩:=Sl.row K;refine ⟨L0++L,⟨A,cap,cs,L0,L,G,F,E,rfl,M,D,J⟩,fun b H o=>(I b ?_).1 (.inl o)⟩;rcases A6.1 H with B|B
 .simp [C.subset B]
 .simp [B]
theorem ZE0 [NW] (hI:HI W g st.ob w) {x:AV}{M:CT}{ks:List Nat}{d:Nat}{v:Value}(h:avT st x=some (M,ks,d)) (G:AVR g w x v) (hu:avU U x):∃L,RC w M v L/\FP g ks d L/\∀k∈ks,U k:=by
 cases x with
 |c y=>
  obtain ⟨L,C,D⟩:=G;cases y<;>simp only[avT,A0,A9]at h<;>obtain ⟨rfl,rfl,rfl⟩:=h
  .exact ⟨L,C,⟨fun _=>by rw [C.2];simp [Gh.F],yG,yG,fun b m=>.inl (D b m)⟩,yG⟩
  .exact ⟨L,C,⟨fun _=>by rw [C.2];simp [Gh.F],yG,yG,fun b m=>.inl (D b m)⟩,yG⟩
  .exact ⟨L,C,⟨fun _=>by rw [C.2.1];simp [Gh.F],yG,yG,fun b m=>.inl (D b m)⟩,yG⟩
  all_goals exact ⟨L,C,⟨fun e=>by simp at e,yG,yG,fun b m=>.inl (D b m)⟩,yG⟩
 |row k=>
  simp only[avT]at h;split at h
  .rename_i e m xs d' hk;obtain ⟨H,cs,L1,V,T,I,B⟩:=hI.deep hk;obtain ⟨A,cap,L0,S,R,P,N,E⟩:=Sl.row V;have a:RC w (.sl e m xs) v (L0++L1):=⟨A,cap,cs,L0,L1,by rw [G.1,S],R,P,rfl,H,N,T⟩
   split at h
   .rename_i f;simp only[A0,A9]at h;obtain ⟨rfl,rfl,rfl⟩:=h;refine ⟨L0++L1,a,⟨fun e=>by simp at e,yG,yG,fun b m=>.inl ?_⟩,yG⟩;rcases B with ⟨q,_⟩|⟨q,_⟩|⟨_,_,_,q⟩
    .omega
    .omega
    .rcases A6.1 m with m|m
     .exact q b (E.subset m)
     .exact I b m
   .rename_i f;simp only[A0,A9]at h;obtain ⟨rfl,rfl,rfl⟩:=h;have K:g.O k=(g.val k).ownBlock.toList:=by
     rcases B with ⟨_,q,_⟩|⟨_,q,_⟩|⟨q,_⟩
     .exact q
     .exact q
     .exact absurd q f
    refine ⟨L0++L1,a,⟨fun hd=>?_,?_,yE,fun b m=>?_⟩,fun q J=>by simp at J;subst J;exact hu⟩
    .rcases B with ⟨_,_,B⟩|⟨B,_⟩|⟨B,_⟩
     .simp only[Gh.F,AO,List.flatMap_nil,Al,K,B];exact AH E (AG _)
     .omega
     .omega
    .rcases B with ⟨B,_⟩|⟨B,_⟩|⟨B,_⟩<;>omega
    .rcases A6.1 m with m|m
     .exact .inr ⟨k,yG,by rw [K];exact E.subset m⟩
     .exact .inl (I b m)
  .simp at h
 |nil e m=>
  simp only[avT]at h;split at h
  .rename_i H;simp only[A0,A9]at h;obtain ⟨rfl,rfl,rfl⟩:=h;refine ⟨[],⟨none,0,[],[],[],G,yG,AI _,rfl,H,Sl.zero,rfl,rfl⟩,FP.nil,yG⟩
  .simp at h
 |n x=>simp [avT]at h
 |dead=>simp [avT]at h
theorem Zrz [NW] (A:HI W g st.ob w):∀{xs:List AV}{cts:List CT}{ks:List Nat}{d:Nat}{vs:List Value},Zd1 st xs=some (cts,ks,d)->ZN (AVR g w) xs vs->QK U xs->∃L,RCs w cts vs L/\FP g ks d L/\∀k∈ks,U k
 | [],_,_,_,[],h,_,_=>by
  simp only[Zd1,A0,A9]at h;obtain ⟨rfl,rfl,rfl⟩:=h;exact ⟨[],⟨rfl,rfl⟩,FP.nil,yG⟩
 | [],_,_,_,_::_,_,h,_=>h.elim
 |_::_,_,_,_,[],_,h,_=>h.elim
 |x::r,cts,ks,d,v::vs,h,hr,hu=>by
  simp only[Zd1]at h;obtain ⟨⟨O,K,N⟩,C,h⟩:=AB.1 h;obtain ⟨⟨c2,J,M⟩,B,h⟩:=AA.1 h;simp only[A9]at h;obtain ⟨rfl,rfl,rfl⟩:=h;obtain ⟨L1,I,H,G⟩:=ZE0 A C hr.1 (hu x yG);obtain ⟨L2,F,E,D⟩:=Zrz A B hr.2 (fun y m=>hu y (by simp [m]));exact ⟨L1++L2,⟨v,vs,L1,L2,rfl,rfl,I,F⟩,H.append E,fun k m=>(A6.1 m).elim (G k) (D k)⟩
theorem ZsU [NW] (C:HI W g st.ob w) {m:Nat}:∀{xs:List SV}{B:List (List CT)}{ks:List Nat}{d:Nat}{vs:List Value},Qf st m xs=some (B,ks,d)->ZN (fun s v=>SVR g w s v/\svU U s) xs vs->
  ∃(cs:List (List Value)) (L:List Nat),ZN (fun (c:List Value) (v:Value)=>v.cells=c.toArray/\c.length=m/\∀u∈c,u.oneCell'=true) cs vs/\REs w m B cs.flatten L/\FP g ks d L/\∀k∈ks,U k
 | [],_,_,_,[],h,_=>by
  simp only[Qf,A0,A9]at h;obtain ⟨rfl,rfl,rfl⟩:=h;exact ⟨[],[],trivial,⟨rfl,rfl⟩,FP.nil,yG⟩
 | [],_,_,_,_::_,_,h=>h.elim
 |_::_,_,_,_,[],_,h=>h.elim
 |s::r,B,ks,d,v::vs,h,⟨⟨hs,hsu⟩,hr⟩=>by
  cases s with
  |p ag us=>
   simp only[Qf]at h;split at h
   .rename_i F;obtain ⟨⟨c1,S,V⟩,H,h⟩:=AB.1 h;obtain ⟨⟨c2,R,T⟩,G,h⟩:=AA.1 h;simp only[A9]at h;obtain ⟨rfl,rfl,rfl⟩:=h;obtain ⟨a,D,A⟩:=PVR.cells hs;obtain ⟨L1,P,O,N⟩:=Zrz C H A hsu;obtain ⟨cs,L2,M,K,J,I⟩:=ZsU C G hr;have b:a.length=m:=by rw [<-A.len];exact F
    exact ⟨a::cs,L1++L2,⟨⟨D,b,AVRs.one A⟩,M⟩,⟨a,cs.flatten,L1,L2,yG,rfl,⟨P,b⟩,K⟩,O.append J,fun k E=>(A6.1 E).elim (N k) (I k)⟩
   .simp at h
  |_=>simp [Qf]at h
theorem Zts [NW] {m:Nat}:∀(cs:List (List Value)) (vs:List Value) (i:Nat) (a base:List Value),ZN (fun (c:List Value) (v:Value)=>v.cells=c.toArray/\c.length=m/\∀u∈c,u.oneCell'=true) cs vs->a.length=i*m->base.length=vs.length*m->
  Instr.fill (fun i=>some (i*m,m)) (a++base).toArray ((AP i vs.length).zip vs)=some (a++cs.flatten).toArray
 | [],[],i,a,base,_,_,hb=>by
  have:base=[]:=AZ (by simpa using hb);subst this;simp [Instr.fill]
 | [],_::_,_,_,_,h,_,_=>h.elim
 |_::_,[],_,_,_,h,_,_=>h.elim
 |c::cs,v::vs,i,a,base,⟨⟨h1,h2,_⟩,h⟩,hp,hb=>by
  have A:base.length=m+vs.length*m:=by rw [hb];simp [AJ];omega
  have b:v.cells.size=m:=by simp [h1,h2]
  simp only[BC,Am,List.zip_cons_cons,Instr.fill];rw [yn (by simp [b];omega),Zph (i*m) v c h1 _ (by simp;omega)];have e:splice (a++base).toArray.toList (i*m) c=(a++c)++base.drop m:=by
   unfold splice;simp only[<-hp];rw [An,Ao,Aq yE]
   .simp [h2]
   .rfl
  rw [e,Zts cs vs (i+1) (a++c) (base.drop m) h (by simp [hp,h2,AJ]) (by simp;omega)];simp
theorem Zxo [NW] (J:HI W g st.ob w) (hU:StU U st) (i:¬U key) {e m:Nat}(hm:0<m) {xs:List (List CT)}{ks:List Nat}{d:Nat}{L:List Nat}{cs:List Value}{v:Value}(f:w'.ownsV 0 e m v xs.length cs) (hv:v.ownBlock=some w.heap.size)
  (K:Below w.heap.size w w') (x:∃z e,w'.heap[w.heap.size]?=some (.cells z e (0,0))) (hr:REs w m xs cs L) (H:FP g ks d L) (B:∀k∈ks,U k) (j:∀k∈ks,∃e m xs d,st.ob k=.row e m xs d) (C:ks.Nodup) {s:Sem Next} (l:s.run P w=.ok (.value v) w'):
  Fin P W U key st g w s (.p false [.row key],YE ks++[(key,.row e m xs d)]):=by
 have c:=hr.lt;have hF:=J.nodupF C;have a:∀b∈(if d=2 then L else []),b∈L/\d=2:=fun b G=>by
  split at G
  .rename_i I;exact ⟨G,I⟩
  .simp at G
 obtain ⟨h1,h2⟩:=J.turn (key:=key) (U:=U) (w':=w') (v:=v) (O:=[w.heap.size]) (D:=if d=2 then L else []) (o:=.row e m xs d) hU.ob i ks B
  (J.below.trans K) K.size (fun b t _=>K.block b t) yG (fun b G=>by
   obtain ⟨N,R⟩:=a b G;exact .inl (ZgO ((H.1 R).subset N)))
  (by
   simp only[AT,AL];refine ⟨fun G=>?_,?_⟩
   .have:=c _ (a _ G).1;omega
   .split
    .rename_i I;exact hF.sublist (H.1 I)
    .simp)
  (fun b G=>by
   simp only[AT,AC]at G;rcases G with rfl|G
   .exact ⟨.inl J.below.size,x⟩
   .obtain ⟨N,R⟩:=a b G;obtain ⟨k,S,M⟩:=ZgO ((H.1 R).subset N);obtain ⟨p1,V⟩:=J.plain k b M;obtain ⟨_,_,_,_,E⟩:=j k S;rw [E]at V;exact ⟨p1,V.keep (K.block b (c b N))⟩)
  (fun _=>⟨hm,cs,L,by simpa [Gh.turn,upd]using f,hr.keep fun b G=>K.block b (c b G),by
   have q1:=H.2.1;have q2:=H.2.2.1;by_cases I:d=2
   .exact .inl ⟨I,by simp [Gh.turn,upd,hv],by simp [Gh.turn,I]⟩
   .refine .inr (.inl ⟨yE,by simp [Gh.turn,upd,hv],by simp [Gh.turn,I],fun b G ho=>?_⟩);have t:=c b G;rcases Zg7 ho with mo|⟨k,S,_,M⟩|hz
    .simp at mo;omega
    .rcases H.2.2.2 b G with T|⟨q,q1,q2⟩
     .exact T (.inl ⟨k,M⟩)
     .exact J.apart k q (fun e=>S (e ▸ q1)) b (by simp [M]) (by simp [q2])
    .rcases H.2.2.2 b G with T|⟨q,q1,q2⟩
     .exact T (.inr hz)
     .exact J.nz (k:=q) (by simp [q2]) hz⟩)
 have u:=Zlk (key:=key) (o:=.row e m xs d) hU ks trivial;refine ⟨_,_,_,.inl l,h1,⟨_,rfl,⟨by simp [Gh.turn,upd],?_⟩⟩,h2,fun y my=>by simp at my;subst my;exact Zmj,u.1,u.2⟩;obtain ⟨A,cap,F⟩:=Zgl f;simp [F,Value.oneCell']
theorem ZoP (st:St):∀(ks:List Nat) (ob:Nat->Ob) (k:Nat),Zl ob (ZT st ks) k=if k∈ks then Yy (st.ob k) else ob k
 | [],ob,k=>by simp [ZT,Zl]
 |j::r,ob,k=>by
  show Zl (upd ob j (Yy (st.ob j))) (ZT st r) k=_
  rw [ZoP st r];by_cases h:k∈r
  .simp [h]
  .by_cases A:k=j
   .subst A;simp [h,upd]
   .simp [h,A,upd]
theorem ZeJ [NW] (st:St) (ks:List Nat) (ob:Nat->Ob) (key:Nat) (o:Ob) (k:Nat):Zl ob (ZT st ks++[(key,o)]) k=if k=key then o else if k∈ks then Yy (st.ob k) else ob k:=by
 rw [YL];show upd (Zl ob (ZT st ks)) key o k=_
 by_cases h:k=key
 .simp [upd,h]
 .simp only[upd,h,if_false];exact ZoP st ks ob k
theorem ZAg {x:AV}{C:CT}{ks:List Nat}{d:Nat}(h:avT st x=some (C,ks,d)):∀k∈ks,∃e m xs d,st.ob k=.row e m xs d:=by
 intro k A;cases x with
 |c y=>cases y<;>simp only[avT,A0,A9]at h<;>(rw [<-h.2.1]at A;simp at A)
 |nil e m=>
  simp only[avT]at h;split at h<;>simp only[A0,A9,reduceCtorEq]at h
  rw [<-h.2.1]at A;simp at A
 |row j=>
  simp only[avT]at h;split at h
  .rename_i e m xs D B;split at h<;>simp only[A0,A9]at h
   .rw [<-h.2.1]at A;simp at A
   .rw [<-h.2.1]at A;simp at A;subst A;exact ⟨_,_,_,_,B⟩
  .simp at h
 |n x=>simp [avT]at h
 |dead=>simp [avT]at h
theorem Zq1 [NW]:∀{xs:List AV}{cts:List CT}{ks:List Nat}{d:Nat},Zd1 st xs=some (cts,ks,d)->∀k∈ks,∃e m xs d,st.ob k=.row e m xs d
 | [],_,_,_,h,k,A=>by simp only[Zd1,A0,A9]at h;rw [<-h.2.1]at A;simp at A
 |x::r,_,_,_,h,k,A=>by
  simp only[Zd1]at h;obtain ⟨⟨H,E,G⟩,C,h⟩:=AB.1 h;obtain ⟨⟨c2,D,F⟩,B,h⟩:=AA.1 h;simp only[A9]at h;rw [<-h.2.1]at A;rcases A6.1 A with A|A
  .exact ZAg C k A
  .exact Zq1 B k A
theorem Zm8 [NW] {m:Nat}:∀{xs:List SV}{D:List (List CT)}{ks:List Nat}{d:Nat},Qf st m xs=some (D,ks,d)->∀k∈ks,∃e m xs d,st.ob k=.row e m xs d
 | [],_,_,_,h,k,A=>by simp only[Qf,A0,A9]at h;rw [<-h.2.1]at A;simp at A
 |x::r,_,_,_,h,k,A=>by
  cases x with
  |p a cs=>
   simp only[Qf]at h;split at h
   .obtain ⟨⟨I,F,H⟩,C,h⟩:=AB.1 h;obtain ⟨⟨c2,E,G⟩,B,h⟩:=AA.1 h;simp only[A9]at h;rw [<-h.2.1]at A;rcases A6.1 A with A|A
    .exact Zq1 C k A
    .exact Zm8 B k A
   .simp at h
  |_=>simp [Qf]at h
theorem Zvf [NW] (V:HI W g st.ob w) (hU:StU U st) (t:¬U key) {e m:Nat}(hm:0<m) {xs:List (List CT)}{ks:List Nat}{d:Nat}{L:List Nat}{cs:List Value}{v:Value}(u:w'.ownsV 0 e m v xs.length cs) (hv:v.ownBlock=some w.heap.size)
  (hb:Below w.heap.size w w') (H:∃I e,w'.heap[w.heap.size]?=some (.cells I e (0,0))) (hr:REs w m xs cs L) (hf:FP g ks d L) (z:∀k∈ks,U k) (i:∀k∈ks,∃e m xs d,st.ob k=.row e m xs d) (J:ks.Nodup) {s:Sem Next} (B:s.run P w=.ok (.value v) w'):
  Fin P W U key st g w s (.p false [.row key],ZT st ks++[(key,.row e m xs d)]):=by
 have l:=hr.lt;have hF:=V.nodupF J;have c:∀b∈(if d=2 then L else []),b∈L/\d=2:=fun b S=>by
  split at S
  .rename_i hd;exact ⟨S,hd⟩
  .simp at S
 obtain ⟨h1,h2⟩:=V.turn (key:=key) (U:=U) (w':=w') (v:=v) (O:=[w.heap.size]) (D:=if d=2 then L else []) (o:=.row e m xs d) hU.ob t ks z
  (V.below.trans hb) hb.size (fun b C _=>hb.block b C) yG (fun b S=>by
   obtain ⟨T,m2⟩:=c b S;exact .inl (ZgO ((hf.1 m2).subset T)))
  (by
   simp only[AT,AL];refine ⟨fun S=>?_,?_⟩
   .have:=l _ (c _ S).1;omega
   .split
    .rename_i hd;exact hF.sublist (hf.1 hd)
    .simp)
  (fun b S=>by
   simp only[AT,AC]at S;rcases S with rfl|S
   .exact ⟨.inl V.below.size,H⟩
   .obtain ⟨T,m2⟩:=c b S;obtain ⟨k,k1,mk⟩:=ZgO ((hf.1 m2).subset T);obtain ⟨p1,p2⟩:=V.plain k b mk;obtain ⟨_,_,_,_,f⟩:=i k k1;rw [f]at p2;exact ⟨p1,p2.keep (hb.block b (l b T))⟩)
  (fun _=>⟨hm,cs,L,by simpa [Gh.turn,upd]using u,hr.keep fun b S=>hb.block b (l b S),by
   have q1:=hf.2.1;have q2:=hf.2.2.1;by_cases hd:d=2
   .exact .inl ⟨hd,by simp [Gh.turn,upd,hv],by simp [Gh.turn,hd]⟩
   .refine .inr (.inl ⟨yE,by simp [Gh.turn,upd,hv],by simp [Gh.turn,hd],fun b S ho=>?_⟩);have C:=l b S;rcases Zg7 ho with mo|⟨k,k1,_,mk⟩|hz
    .simp at mo;omega
    .rcases hf.2.2.2 b S with hn|⟨q,q1,q2⟩
     .exact hn (.inl ⟨k,mk⟩)
     .exact V.apart k q (fun e=>k1 (e ▸ q1)) b (by simp [mk]) (by simp [q2])
    .rcases hf.2.2.2 b S with hn|⟨q,q1,q2⟩
     .exact hn (.inr hz)
     .exact V.nz (k:=q) (by simp [q2]) hz⟩)
 have aa:∀k∈ks,k≠key:=fun k mk e=>t (e ▸ z k mk);have K:HI W (g.turn ks key v [w.heap.size] (if d=2 then L else [])) (Zl st.ob (ZT st ks++[(key,.row e m xs d)])) w':=by
  refine ⟨h1.below,fun k=>?_,h1.nodup,h1.apart,fun k b S=>?_,h1.gz,h1.zx,h1.nw,h1.oy⟩
  rotate_left
  .have hp:=h1.plain k b S;rw [ZbG]at hp;rw [ZeJ];by_cases hk:k=key
   .rw [yp hk]at hp ⊢;exact hp
   .rw [yn hk]at hp ⊢;by_cases a:k∈ks
    .rw [yp a]at hp ⊢;obtain ⟨e2,m2,M,d2,f⟩:=i k a;rw [f];exact hp
    .rw [yn a]at hp ⊢;exact hp
  have ho:=h1.obs k;rw [ZbG]at ho;rw [ZeJ];by_cases hk:k=key
  .rw [yp hk]at ho ⊢;exact ho
  .rw [yn hk]at ho ⊢;by_cases a:k∈ks
   .rw [yp a]at ho ⊢;obtain ⟨e2,m2,M,d2,f⟩:=i k a;obtain ⟨p1,N,L2,p2,p3,p4,p5⟩:=V.deep f;rw [f];have x:(g.turn ks key v [w.heap.size] (if d=2 then L else [])).val k=g.val k:=by simp [Gh.turn,upd,hk]
    have E:=p3.lt;have F:=ZkW p2;refine ⟨p1,N,L2,by rw [x];exact Zdy p2 fun b S=>hb.block b (F b S),p3.keep fun b S=>hb.block b (E b S),.inr (.inr ⟨rfl,ho.1,ho.2,fun b S G=>?_⟩)⟩;rw [x]at S;have ab:b<w.heap.size:=by
     rcases A6.1 S with T|T
     .exact F b T
     .exact E b T
    rcases Zg7 G with mo|⟨j,j1,_,mj⟩|hz
    .simp at mo;omega
    .rcases A6.1 S with T|T
     .rcases p5 with ⟨_,q1,_⟩|⟨_,q1,_⟩|⟨_,_,_,q⟩
      .exact V.apart j k (fun e=>j1 (e ▸ a)) b (by simp [mj]) (by simp [q1,T])
      .exact V.apart j k (fun e=>j1 (e ▸ a)) b (by simp [mj]) (by simp [q1,T])
      .exact q b T (.inl ⟨j,mj⟩)
     .exact p4 b T (.inl ⟨j,mj⟩)
    .rcases A6.1 S with T|T
     .rcases p5 with ⟨_,q1,_⟩|⟨_,q1,_⟩|⟨_,_,_,q⟩
      .exact V.nz (k:=k) (by simp [q1,T]) hz
      .exact V.nz (k:=k) (by simp [q1,T]) hz
      .exact q b T (.inr hz)
     .exact p4 b T (.inr hz)
   .rw [yn a]at ho ⊢;exact ho
 have Q:∀k,obU U (Yy (st.ob k)):=fun k=>by
  have:=hU.ob k;cases hk:st.ob k<;>simp only[Yy]<;>first|trivial|(rw [hk]at this;exact this)
 refine ⟨_,_,_,.inl B,K,⟨_,rfl,⟨by simp [Gh.turn,upd],?_⟩⟩,h2,fun y my=>by simp at my;subst my;exact Zmj,fun k=>?_,fun k hk=>?_⟩
 .obtain ⟨A,cap,R⟩:=Zgl u;simp [R,Value.oneCell']
 .rw [ZeJ];split
  .trivial
  .split
   .exact (Q k).mono fun _=>.inl
   .exact (hU.ob k).mono fun _=>.inl
 .rw [ZeJ,yn (fun e=>hk (.inr yE))];have e:=hU.gone k fun h=>hk (.inl h);split
  .rw [e];rfl
  .exact e
end
end
section
open Go.RowKit
section
variable {P:Program} {W:ZbW} {U:Nat->Prop} {key:Nat} {st:St} {g:Gh} {w w':World} {a:Act} {tt:Nat->Option TI}
theorem ZD2 [NW] (K:∀t i,tt t=some i->TOk P t i) (hI:HI W g st.ob w) (hS:∀t,SVR g w (st.sl t) (a.tmps.getD t undef)) (hU:StU U st) (q:¬U key) {t len e m l:Nat}{z:List AV}(H:tt t=some (.slice e m l z)) {b:Array (Nat×Operand)}{xs:List (List CT)}{ks:List Nat}{d:Nat}
  (h:Qf st m (b.toList.map fun p=>st.ev tt e p.2)=some (xs,ks,d)) (V:b.toList.map (·.1)=List.range len) (hl:len*m<=16777216) (I:ks.Nodup) {s:Sem Next} (hs:s=(do pure (.value (<-Instr.buildSlice t len (b.map fun (i,x)=>(i,a.eval x)))))):
  Fin P W U key st g w s (.p false [.row key],ZT st ks++[(key,.row e m xs d)]):=by
 obtain ⟨T,N,_,⟨S,M,y,o,ac,hz,ab,aa⟩,_⟩:=K t _ H;have A:ZN (fun s v=>SVR g w s v/\svU U s) (b.toList.map fun p=>st.ev tt e p.2) (b.toList.map fun p=>a.eval p.2):=ZN.of_map _ _ fun p _=>ZmW K hS hU e p.2;obtain ⟨cs,L,R,c2,c3,c4⟩:=ZsU hI h A;have f:b.toList.length=len:=by have:=congrArg List.length V;simpa using this
 have B:cs.length=len:=by rw [R.len];simpa using f
 have C:xs.length=len:=by
  have h1:=c2.len;have h2:cs.flatten.length=len*m:=by
   have:∀(cs:List (List Value)) (vs:List Value),ZN (fun (c:List Value) (v:Value)=>v.cells=c.toArray/\c.length=m/\∀u∈c,u.oneCell'=true) cs vs->cs.flatten.length=cs.length*m:=by
    intro cs;induction cs with
    |nil=>intro _ _;simp
    |cons c cs ih=>
     intro vs O;cases vs with
     |nil=>exact O.elim
     |cons v vs=>simp [ih vs O.2,O.1.2.1,AJ];omega
   rw [this cs _ R,B]
  rw [h2]at h1;exact (Nat.eq_of_mul_eq_mul_right N h1).symm
 have j:(b.map fun x=>match x with|(i,x)=>(i,a.eval x)).toList=(AP 0 (b.toList.map fun p=>a.eval p.2).length).zip (b.toList.map fun p=>a.eval p.2):=by
  have e1:(b.map fun x=>match x with|(i,x)=>(i,a.eval x)).toList=(b.toList.map (·.1)).zip (b.toList.map fun p=>a.eval p.2):=by
   rw [List.zip_map'];simp
  rw [e1,V,List.range_eq_range'];simp [f]
 have D:(Instr.buildSlice t len (b.map fun (i,x)=>(i,a.eval x))).run P w=.ok (.slice (some ⟨w.heap.size,0,none⟩) len len) (w.alloc (.cells cs.flatten.toArray e)):=by
  have k:∀base:List Value,base.length=len*m->Instr.fill (fun i=>some (i*m,m)) base.toArray (b.map fun x=>match x with|(i,x)=>(i,a.eval x)).toList=some cs.flatten.toArray:=fun base hb=>by
   rw [j];have:=Zts cs (b.toList.map fun p=>a.eval p.2) 0 [] base R yG (by simpa [f]using hb);simpa using this
  by_cases h0:len=0
  .subst h0;have E:cs=[]:=AZ B;subst E;have J:b=#[]:=by
    have:b.toList=[]:=AZ f;simpa using this
   subst J;simp [Instr.buildSlice,Xk T,X1 y,Instr.fill,newRow,Array.range_zero']
  .have F:¬len*S.size=0:=by
    rw [o];intro e;rcases Nat.mul_eq_zero.1 e with e|e<;>omega
   refine run_buildSlice w t e len _ _ S M T y hz (by rw [o];omega) F ?_;rw [o];have hb:=k ((Array.range (len*m)).map (M.cells[· % M.cells.size]!)).toList yG;rw [Array.toArray_toList]at hb;exact hb
 have G:=Zju <| World.ownsRow_lit (base:=0) (e:=e) (size:=m) w cs.flatten.toArray len (AI _) (by unfold maxLen;have:=Nat.le_mul_of_pos_right len N;omega) (by
  have h1:=c2.len;rw [C]at h1;simpa using h1)
 refine Zvf hI hU q N (v:=.slice (some ⟨w.heap.size,0,none⟩) len len) (cs:=cs.flatten) (w':=w.alloc (.cells cs.flatten.toArray e)) (by rw [C];simpa using G) rfl ((Below.refl _ _).alloc (AD _) _) ⟨_,_,heap_alloc_new w _⟩ c2 c3 c4 (Zm8 h) I ?_;subst hs;simp only[Sem.run_bind,D,Result.andThen_ok,Sem.run_pure]
theorem Zkb {m:Nat}{B:List CT}{A:List Value}(h:RCs w B A []) (C:A.length=m):∀n:Nat,REs w m (AU n B) (AU n A).flatten []
 |0=>by simp [REs]
 |n+1=>by
  rw [BD,BD,BE];exact ⟨A,_,[],[],rfl,rfl,⟨h,C⟩,Zkb h C n⟩
theorem Zrv [NW]:∀{z:List AV}{A:List Value}{B:List CT},Zno z=some B->ZN (fun a v=>Zb3 a v=true) z A->RCs w B A []
 | [],[],B,h,_=>by simp [Zno]at h;subst h;exact ⟨rfl,rfl⟩
 | [],_::_,_,_,h=>h.elim
 |_::_,[],_,_,h=>h.elim
 |.c x::z,v::A,B,h,hr=>by
  simp only[Zno]at h;obtain ⟨b,D,rfl⟩:=AA.1 h;have hx:=Zg8 (g:=⟨fun _=>undef,fun _=>[],fun _=>[],fun _=>False⟩) (w:=w) hr.1;obtain ⟨L,C,_⟩:=hx;have d:L=[]:=by
   have:=hr.1;cases x with
   |int k n=>exact C.2
   |bool b=>exact C.2
   |str s=>exact C.2.1
   |_=>simp [Zb3]at this
  subst d;exact ⟨v,A,[],[],rfl,rfl,C,Zrv D hr.2⟩
 |.nil e m::z,v::A,B,h,hr=>by
  simp only[Zno]at h;split at h
  .rename_i F;obtain ⟨b,D,rfl⟩:=AA.1 h;have E:v=.slice none 0 0:=Zg8 (g:=⟨fun _=>undef,fun _=>[],fun _=>[],fun _=>False⟩) (w:=w) hr.1;subst E;exact ⟨_,A,[],[],rfl,rfl,⟨none,0,[],[],[],rfl,yG,AI _,rfl,F,Sl.zero,rfl,rfl⟩,Zrv D hr.2⟩
  .simp at h
 |.row k::z,v::A,B,h,_=>by simp [Zno]at h
 |.n x::z,v::A,B,h,_=>by simp [Zno]at h
 |.dead::z,v::A,B,h,_=>by simp [Zno]at h
theorem Zqz (z:Array Value) (m:Nat) (B:z.size=m) (C:0<m):∀n:Nat,(madeCells z (n*m)).toList=(AU n z.toList).flatten
 |0=>by simp [madeCells]
 |n+1=>by
  have ih:=Zqz z m B C n;rw [List.replicate_succ',List.flatten_append,<-ih];simp only[madeCells,Array.toList_map,Array.toList_range,AJ,Nat.one_mul,List.range_add,BF,BG,BE,List.flatten_nil,Al];congr 1
  apply List.ext_getElem?;intro j;by_cases A:j<m
  .simp only[List.getElem?_map,List.getElem?_range A,Ar,Function.comp];have e:(n*m+j) % z.size=j:=by
    rw [B,Nat.add_comm,Nat.add_mul_mod_self_right,Nat.mod_eq_of_lt A]
   have a:j<z.size:=by omega
   simp [e,a]
  .have D:z.size<=j:=by omega
   simp [A,D]
theorem ZBu [NW] (F:∀t i,tt t=some i->TOk P t i) (V:HI W g st.ob w) (T:StU U st) (c:¬U key) {t e m a:Nat}{z:List AV}(k:tt t=some (.slice e m a z)) {n:Nat}{C:List CT}(M:Zno z=some C) (O:n<=1073741824) {s:Sem Next}
  (hs:s=(do pure (.value (<-Instr.makeSlice t (.int .i64 n) (.int .i64 n))))):Fin P W U key st g w s (.p false [.row key],[(key,.row e m (AU n C) 2)]):=by
 obtain ⟨N,G,I,⟨E,B,l,o,R,q,f,u⟩,_⟩:=F t _ k;have v:E.bytes*n<=281474976710656:=by
  have:=BH (show E.bytes<=131072 by omega) O;omega
 obtain ⟨w',L,D,K⟩:=run_make_full (P:=P) w 0 t e E B m N l q o .i64 .i64 n v (by unfold maxLen;omega) (AI _);have j:B.cells.size=m:=by rw [<-u,f.len];simp
 rw [Zqz B.cells m j G n]at D;have x:=Zkb (Zrv (w:=w) M f) (by simpa using j) n;have S:Below w.heap.size w w':=(Below.refl _ _).grown K (AD _) yG;have y:∃b e,w'.heap[w.heap.size]?=some (.cells b e (0,0)):=by
  rcases D.2 with ⟨A,_⟩|⟨g',J,b,A,_,H,_⟩
  .simp at A
  .simp at A;rw [<-A.1]at H;exact ⟨b,e,H⟩
 have:=Zxo (ks:=[]) (d:=2) V T c G (xs:=AU n C) (by simpa using Zju D) rfl S y x FP.nil yG yG yG (s:=s) (P:=P) (by subst hs;simp only[Sem.run_bind,L,Result.andThen_ok,Sem.run_pure]);simpa [YE]using this
theorem ZuC [NW] {t e:TypeId}{ty:TypeId}{C:TypeInfo}(D:P.underlying t=some (.slice e)) (a:P.info? e=some C) (A B:Option Addr) (n c c':Nat) (b:n<=c):
  (Builtin.append_ #[t,t] ty #[.slice A n c,.slice B 0 c']).run P w=.ok (.slice A n c) w:=by
 cases A<;>cases B<;>simp [Builtin.append_,Xk D,X1 a,Builtin.lenOf,Builtin.firstCells,loadCells,loadCellsFrom,storeCells,b]
theorem ZtR:∀{e:List CT}{cs:List Value}{L:List Nat},RCs w e cs L->e.all CT.flat=true->L=[]
 | [],_,_,h,_=>h.2
 |x::r,_,_,⟨v,cs',L1,L2,rfl,rfl,h1,h2⟩,hf=>by
  simp only[BI,Aa]at hf;have A:L1=[]:=by
   cases x with
   |int k n=>exact h1.2
   |bool b=>exact h1.2
   |str s=>exact h1.2.1
   |_=>simp [CT.flat]at hf
  rw [A,ZtR h2 hf.2];rfl
theorem ZlR [NW] {m:Nat}:∀{xs:List (List CT)}{cs:List Value}{L:List Nat},REs w m xs cs L->Zco xs=true->L=[]
 | [],_,_,h,_=>h.2
 |x::r,_,_,⟨c1,c2,L1,L2,rfl,rfl,h1,h2⟩,hf=>by
  simp only[Zco,BI,Aa]at hf;rw [ZtR h1.1 hf.1,ZlR h2 hf.2];rfl
theorem REs.append {m:Nat}:∀{xs A:List (List CT)}{B vs:List Value}{L M:List Nat},REs w m xs B L->REs w m A vs M->REs w m (xs++A) (B++vs) (L++M)
 | [],_,_,_,_,_,h,h'=>by obtain ⟨rfl,rfl⟩:=h;simpa using h'
 |_::_,_,_,_,_,_,⟨c1,c2,L1,L2,rfl,rfl,h3,h4⟩,h'=>⟨c1,c2++_,L1,L2++_,yG,yG,h3,h4.append h'⟩
theorem REs.one {m:Nat}:∀{xs:List (List CT)}{cs:List Value}{L:List Nat},REs w m xs cs L->∀u∈cs,u.oneCell'=true
 | [],_,_,h=>by simp [h.1]
 |_::_,_,_,⟨c1,c2,L1,L2,rfl,rfl,h3,h4⟩=>fun u A=>by
  rcases A6.1 A with A|A
  .exact h3.1.one u A
  .exact h4.one u A
theorem ZAt {a b:Nat}(h:Zb1 a b=2) (B:a<=2) (A:b<=2):a=2/\b=2:=by unfold Zb1 at h;split at h<;>omega
theorem ZqW {A:Bool}{xs:List (List CT)}(h:Zl8 A xs=2):Zco xs=true:=by unfold Zl8 at h;split at h<;>simp_all
theorem Zuk (A:Bool) (xs:List (List CT)):Zl8 A xs<=2:=by unfold Zl8;split<;>omega
theorem Zrf (A:Bool) (xs:List (List CT)):0<Zl8 A xs:=by unfold Zl8;split<;>omega
theorem HI.plainD [NW] {ob:Nat->Ob}(h:HI W g ob w) {k b:Nat}(m:b∈g.D k):(W.heap.size<=b\/W.x b\/W.y b)/\∃a e,w.heap[b]?=some (.cells a e (0,0)):=by
 have h1:=h.plain k b (by simp [m]);have h2:=h.obs k;cases hk:ob k with
 |map kk vk kv=>
  rw [hk]at h2;obtain ⟨_,_,_,_,_,A,_⟩:=h2;rw [A]at m;simp at m
 |_=>rw [hk]at h1;exact h1
theorem ZDU [NW] (M:HI W g st.ob w) {x:SV}{v:Value}{e m:Nat}{xs:List (List CT)}{ks:List Nat}{d:Nat}(h:ZhJ st x=some (xs,ks,d)) (a:Zpz st e m x=true) (C:SVR g w x v) (K:svU U x):
  ∃cs L,w.ownsV 0 e m v xs.length cs/\REs w m xs cs L/\(∀b∈L,¬g.own b)/\(d=2->L=ks.flatMap g.D)/\v.ownBlock.toList=ks.flatMap g.O/\(∀k∈ks,U k)/\d<=2/\0<d:=by
 unfold ZhJ at h;split at h
 .simp only[A0,A9]at h;obtain ⟨rfl,rfl,rfl⟩:=h;have:=Zv4 C;subst this;exact ⟨[],[],ZgR _ _ _ _,⟨rfl,rfl⟩,yG,yG,by simp [Value.ownBlock],yG,yG,yG⟩
 .rename_i k;split at h
  .rename_i S N F T E;split at h
   .simp at h
   rename_i c;simp only[A0,A9]at h;obtain ⟨rfl,rfl,rfl⟩:=h;simp only[Zpz,E,Aa,beq_iff_eq]at a;obtain ⟨rfl,rfl⟩:=a;have:=ZhR C;subst this;obtain ⟨P,cs,L,J,I,H,G,A⟩:=M.deepO E c;refine ⟨cs,L,J,I,H,fun R=>?_,by simp [G],fun q B=>by simp at B;subst B;exact K (.row q) yG,?_,yE⟩
   .rcases A with ⟨_,A⟩|⟨A,_⟩
    .simp [A]
    .omega
   .rcases A with ⟨A,_⟩|⟨A,_⟩<;>omega
  .simp at h
 .simp at h
theorem ZCJ [NW] (hI:HI W g st.ob w) {x:SV}{v:Value}{m:Nat}{xs:List (List CT)}{ks:List Nat}{d:Nat}{fl:Bool}(h:ZhD st fl x=some (xs,ks,d)) (a:ZmT st m x=true) (F:SVR g w x v) (T:svU U x):
  ∃A c cs L,v=.slice A xs.length c/\REs w m xs cs L/\(0<xs.length->∃b off,A=some ⟨b,off,none⟩/\Zal w b off cs)/\(∀b∈L,¬g.own b)/\(d=2->L.Sublist (ks.flatMap g.D))/\(∀k∈ks,U k)/\d<=2/\0<d:=by
 unfold ZhD at h;split at h
 .simp only[A0,A9]at h;obtain ⟨rfl,rfl,rfl⟩:=h;simp only[ZmT,beq_iff_eq]at a;subst a;obtain ⟨A,cap,cs,L0,L1,rfl,h2,h3,h5,h6,O,V⟩:=ZjE F;refine ⟨A,cap,cs,L1,rfl,O,fun G=>?_,fun b S=>V b (by simp [S]),fun C=>by rw [ZlR O (ZqW C)];simp,yG,Zuk _ _,Zrf _ _⟩;obtain ⟨b,off,I,_,H⟩:=h6.at_ G;exact ⟨b,off,I,H⟩
 .simp only[A0,A9]at h;obtain ⟨rfl,rfl,rfl⟩:=h;have:=Zv4 F;subst this;exact ⟨none,0,[],[],rfl,⟨rfl,rfl⟩,yG,yG,yG,yG,yG,yG⟩
 .rename_i k;split at h
  .rename_i e' m' f d' N;simp only[ZmT,N,beq_iff_eq]at a;subst a;have:=ZhR F;subst this;obtain ⟨hm,cs,L,R,E,K,B⟩:=hI.deep N;obtain ⟨A,cap,L0,J,s2,s3,P,s5⟩:=Sl.row R;have e:0<f.length->∃b off,A=some ⟨b,off,none⟩/\Zal w b off cs:=fun G=>by
    obtain ⟨b,off,I,_,H⟩:=P.at_ G;exact ⟨b,off,I,H⟩
   split at h
   .simp only[A0,A9]at h;obtain ⟨rfl,rfl,rfl⟩:=h;exact ⟨A,cap,cs,L,J,E,e,K,fun C=>by rw [ZlR E (ZqW C)];simp,yG,Zuk _ _,Zrf _ _⟩
   .rename_i aa;simp only[A0,A9]at h;obtain ⟨rfl,rfl,rfl⟩:=h;refine ⟨A,cap,cs,L,J,E,e,K,fun C=>?_,fun q M=>by simp at M;subst M;exact T (.row q) yG,?_,yE⟩
    .rcases B with ⟨_,_,B⟩|⟨B,_⟩|⟨B,_⟩
     .simp [B]
     .omega
     .omega
    .rcases B with ⟨B,_⟩|⟨B,_⟩|⟨B,_⟩<;>omega
  .simp at h
 .simp at h
theorem HI.nodupD [NW] {ob:Nat->Ob}(B:HI W g ob w):∀{ks:List Nat},ks.Nodup->(ks.flatMap g.D).Nodup
 | [],_=>by simp
 |k::ks,h=>by
  simp only[AO,AF];rw [AL]at h;refine ⟨(AF.1 (B.nodup k)).2.1,B.nodupD h.2,fun x C y A e=>?_⟩;subst e;obtain ⟨j,E,A⟩:=AE.1 A;exact B.apart k j (fun e=>h.1 (e ▸ E)) x (by simp [C]) (by simp [A])
theorem ZD8 [NW] (al:∀t i,tt t=some i->TOk P t i) (hI:HI W g st.ob w) (hU:StU U st) (I:¬U key) {t:Nat}{s x:SV}{vs vx:Value}{r:SV×List (Nat×Ob)}(h:ZpZ st key (tt t) s x=some r) (hs:SVR g w s vs/\svU U s) (hx:SVR g w x vx/\svU U x) {ty:TypeId}{q:Sem Next}
  (hq:q=(do pure (.value (<-Builtin.append_ #[t,t] ty #[vs,vx])))):Fin P W U key st g w q r:=by
 unfold ZpZ at h;split at h
 .rename_i e m p z V;obtain ⟨⟨xs,k1,d1⟩,h1,h⟩:=AB.1 h;obtain ⟨⟨ys,k2,d2⟩,h2,h⟩:=AB.1 h;split at h
  .rename_i hc;simp only[A0]at h;subst h;obtain ⟨X,Y,J,K⟩:=hc;simp only at J K;obtain ⟨hu,hm,L,⟨ie,zv,M,Z,aa,ab,ac,ad⟩,_⟩:=al t _ V;obtain ⟨cs,Lx,a1,a2,a3,a4,a5,a6,a7,a8⟩:=ZDU hI h1 X hs.1 hs.2;obtain ⟨A,c,a,Ly,b0,b1,b2,b3,b4,b5,b7,b8⟩:=ZCJ hI h2 Y hx.1 hx.2;subst b0;obtain ⟨A1,ao,ae,af,aq⟩:=Zbt a1;have N:a.length=ys.length*m:=b1.len;obtain ⟨v',w',r1,r2,r3,r4⟩:∃v' w',(Builtin.append_ #[t,t] ty #[vs,.slice A ys.length c]).run P w=.ok v' w'/\w'.ownsV 0 e m v' (xs.length+ys.length) (cs++a)/\w.grownBy w' vs.ownBlock/\(v'.ownBlock=vs.ownBlock\/v'.ownBlock=some w.heap.size):=by
    by_cases hy:ys.length=0
    .have ag:a=[]:=AZ (by rw [N,hy];simp);refine ⟨vs,w,?_,by rw [ag,hy,Al];exact a1,World.grownBy.refl _ _,.inl rfl⟩;rw [ae,hy];exact ZuC hu M A1 A _ _ _ af
    .obtain ⟨b,off,rfl,E⟩:=b2 yE;have B:(xs.length+ys.length)*p<=140737488355328:=by
      have:=BH K L;omega
     obtain ⟨v',w',q1,q2,q3,q5⟩:=Zh9 (P:=P) w 0 t ty e ie zv m p hu M ab Z aa (by rw [<-ad,ac.len];simp) hm vs xs.length cs a1 ⟨b,off,none⟩ ys.length c a N
      (fun j u hj=>by rw [Zea];exact E j u hj) b1.one (by unfold maxLen;omega) B (AI _)
     exact ⟨v',w',q1,q2,q3,q5⟩
   have C:∀b,¬g.own b->some b≠vs.ownBlock:=fun b hn e=>hn (by
    have:b∈vs.ownBlock.toList:=by simp [<-e]
    rw [a5]at this;obtain ⟨k,_,mk⟩:=AE.1 this;exact .inl ⟨k,mk⟩)
   have d:∀b∈Lx++Ly,w'.heap[b]?=w.heap[b]?:=fun b mb=>by
    rcases A6.1 mb with mb|mb
    .exact r3.block b (a2.lt b mb) (C b (a3 b mb))
    .exact r3.block b (b1.lt b mb) (C b (b3 b mb))
   have Q:REs w' m (xs++ys) (cs++a) (Lx++Ly):=(a2.keep fun b mb=>d b (by simp [mb])).append (b1.keep fun b mb=>d b (by simp [mb]));have l:∀b∈v'.ownBlock.toList,b∈k1.flatMap g.O\/b=w.heap.size:=fun b mb=>by
    rcases r4 with r4|r4
    .rw [r4,a5]at mb;exact .inl mb
    .rw [r4]at mb;simp at mb;exact .inr mb
   have f:(Zb1 d1 d2)=2->(Lx++Ly).Sublist ((k1++k2).flatMap g.D):=fun hd=>by
    have hd:=ZAt hd a7 b7;rw [Ak];exact AH (by rw [a4 hd.1];exact AG _) (b4 hd.2)
   have F:∀b∈(if (Zb1 d1 d2)=2 then Lx++Ly else []),b∈Lx++Ly/\(Zb1 d1 d2)=2:=fun b mb=>by
    split at mb
    .rename_i hd;exact ⟨mb,hd⟩
    .simp at mb
   have R:Bel W w':=by
    refine ⟨r3.os.trans hI.below.os,r3.tape.trans hI.below.tape,r3.output.trans hI.below.output,AK hI.below.size r3.size,fun b hb S=>?_⟩;rw [r3.block b (AW hb hI.below.size) fun e=>?_]
    .exact hI.below.block b hb S
    .have:b∈vs.ownBlock.toList:=by simp [<-e]
     rw [a5]at this;obtain ⟨k,_,mk⟩:=AE.1 this;rcases hI.oy k b mk with h|h
     .omega
     .exact S h
   obtain ⟨t1,t2⟩:=hI.turn (key:=key) (U:=U) (w':=w') (v:=v') (O:=v'.ownBlock.toList) (D:=if (Zb1 d1 d2)=2 then Lx++Ly else []) (o:=.row e m (xs++ys) (Zb1 d1 d2)) hU.ob I (k1++k2)
    (fun k mk=>(A6.1 mk).elim (a6 k) (b5 k)) R r3.size (fun b hb hn=>r3.block b hb fun e=>by
     have:b∈vs.ownBlock.toList:=by simp [<-e]
     rw [a5]at this;obtain ⟨k,hk,mk⟩:=AE.1 this;exact hn k (by simp [hk]) mk)
    (fun b mb=>by
     rcases l b mb with mb|rfl
     .obtain ⟨k,hk,mk⟩:=AE.1 mb;exact .inl ⟨k,by simp [hk],mk⟩
     .exact .inr (AD _))
    (fun b mb=>by
     obtain ⟨m1,m2⟩:=F b mb;obtain ⟨k,hk,mk⟩:=AE.1 ((f m2).subset m1);exact .inl ⟨k,hk,by simp [mk]⟩)
    (by
     rw [AF];refine ⟨by cases v'.ownBlock<;>simp,?_,fun b mb b' ah e=>?_⟩
     .split
      .rename_i hd;exact (hI.nodupD J).sublist (f hd)
      .simp
     .subst e;obtain ⟨m1,m2⟩:=F b ah;rcases l b mb with mb|rfl
      .obtain ⟨k,_,mk⟩:=AE.1 mb;rcases A6.1 m1 with m1|m1
       .exact a3 b m1 (.inl ⟨k,mk⟩)
       .exact b3 b m1 (.inl ⟨k,mk⟩)
      .rcases A6.1 m1 with m1|m1
       .have:=a2.lt _ m1;omega
       .have:=b1.lt _ m1;omega)
    (fun b mb=>by
     rcases A6.1 mb with mb|mb
     .have ai:W.heap.size<=b\/W.x b\/W.y b:=by
       rcases l b mb with mb|rfl
       .obtain ⟨k,_,mk⟩:=AE.1 mb;exact (hI.plain k b (by simp [mk])).1
       .exact .inl hI.below.size
      rcases r2.2 with ⟨h',_⟩|⟨g',o',ap,G,h',ar,hg,_⟩
      .simp [h',Value.ownBlock]at mb
      .simp [h',Value.ownBlock]at mb;subst mb;exact ⟨ai,G,e,hg⟩
     .obtain ⟨m1,m2⟩:=F b mb;obtain ⟨k,hk,mk⟩:=AE.1 ((f m2).subset m1);obtain ⟨p1,G,e',p2⟩:=hI.plainD mk;exact ⟨p1,G,e',by rw [d b m1];exact p2⟩)
    (fun am=>⟨hm,cs++a,Lx++Ly,by simpa [Gh.turn,upd]using r2,Q,by
     by_cases hd:Zb1 d1 d2=2
     .exact .inl ⟨hd,by simp [Gh.turn,upd],by simp [Gh.turn,hd]⟩
     .have aj:Zb1 d1 d2=1:=by unfold Zb1 at hd ⊢;split<;>simp_all<;>omega
      refine .inr (.inl ⟨aj,by simp [Gh.turn,upd],by simp [Gh.turn,hd],fun b mb ho=>?_⟩);have H:¬g.own b:=by
       rcases A6.1 mb with m1|m1
       .exact a3 b m1
       .exact b3 b m1
      rcases Zg7 ho with mo|⟨k,_,_,mk⟩|hz
      .rcases l b mo with mo|rfl
       .obtain ⟨k,_,mk⟩:=AE.1 mo;exact H (.inl ⟨k,mk⟩)
       .rcases A6.1 mb with m1|m1
        .have:=a2.lt _ m1;omega
        .have:=b1.lt _ m1;omega
      .exact H (.inl ⟨k,mk⟩)
      .exact H (.inr hz)⟩)
   have T:=Zlk (key:=key) (o:=.row e m (xs++ys) (Zb1 d1 d2)) hU (k1++k2) trivial;refine ⟨_,v',w',.inl (by subst hq;simp only[Sem.run_bind,r1,Result.andThen_ok,Sem.run_pure]),t1,⟨_,rfl,⟨by simp [Gh.turn,upd],?_⟩⟩,t2,fun y my=>by simp at my;subst my;exact Zmj,T.1,T.2⟩;obtain ⟨A2,an,ak⟩:=Zgl r2;simp [ak,Value.oneCell']
  .simp at h
 .simp at h
end
end
section
open Go.RowKit
section
variable {P:Program} {W:ZbW} {U:Nat->Prop} {key:Nat} {st:St} {g:Gh} {w w':World} {a:Act} {tt:Nat->Option TI}
theorem RCs.dropS:∀{x:List CT}{c:List Value}{L:List Nat}(n:Nat),RCs w x c L->∃L',RCs w (x.drop n) (c.drop n) L'/\L'.Sublist L
 |x,c,L,0,h=>⟨L,by simpa using h,AG _⟩
 | [],c,L,n+1,h=>⟨[],by obtain ⟨rfl,rfl⟩:=h;simp [RCs],AN _⟩
 |x::r,_,_,n+1,⟨v,cs',L1,L2,rfl,rfl,h1,h2⟩=>by
  obtain ⟨L',B,A⟩:=RCs.dropS n h2;exact ⟨L',by simpa using B,A.trans (BJ L1 L2)⟩
theorem RCs.spliceS [NW] {x:List CT}{c:List Value}{L:List Nat}{ys:List CT}{us:List Value}(h:RCs w x c L) (A:RCs w ys us []):∀(off:Nat),∃L',RCs w (splice x off ys) (splice c off us) L'/\L'.Sublist L:=by
 have D:us.length=ys.length:=A.len;intro off;induction off generalizing x c L with
 |zero=>
  obtain ⟨L',C,B⟩:=h.dropS (0+ys.length);refine ⟨[]++L',?_,B⟩;simp only[splice,BK,As,D];exact A.append C
 |succ off ih=>
  cases x with
  |nil=>
   obtain ⟨rfl,rfl⟩:=h;refine ⟨[],?_,AN _⟩;simpa [splice]using A
  |cons x r=>
   obtain ⟨v,a,L1,L2,rfl,rfl,F,E⟩:=h;obtain ⟨L',C,B⟩:=ih E;refine ⟨L1++L',?_,AH (AG _) B⟩;have H:splice (x::r) (off+1) ys=x::splice r off ys:=by
    simp only[splice,Ac,AX];rw [show off+1+ys.length=(off+ys.length)+1 by omega,Ad]
   have G:splice (v::a) (off+1) us=v::splice a off us:=by
    simp only[splice,Ac,AX];rw [show off+1+us.length=(off+us.length)+1 by omega,Ad]
   rw [H,G];exact ⟨v,_,L1,L',rfl,rfl,F,C⟩
theorem Zg1 {α:Type}(A c2:List α) (off:Nat) (us:List α):splice (A++c2) (A.length+off) us=A++splice c2 off us:=by
 simp only[splice];rw [List.take_length_add_append,At,Ao,Aq (BL _ _),Ae];simp
theorem Zce {α:Type}(B c2:List α) (off:Nat) (A:List α) (h:off+A.length<=B.length):splice (B++c2) off A=splice B off A++c2:=by
 simp only[splice];rw [List.take_append_of_le_length yE,Au h];simp
theorem REs.set [NW] {m:Nat}{D:List CT}{A:List Value}(E:RCs w D A []):∀{xs:List (List CT)}{cs:List Value}{L:List Nat}{i off:Nat}{x:List CT},REs w m xs cs L->xs[i]?=some x->off+A.length<=m->
  ∃L',REs w m (xs.set i (splice x off D)) (splice cs (i*m+off) A) L'/\L'.Sublist L
 | [],_,_,_,_,_,_,hx,_=>by simp at hx
 |e::r,_,_,0,off,x,⟨c1,c2,L1,L2,rfl,rfl,h3,h4⟩,hx,ho=>by
  simp at hx;subst hx;obtain ⟨L',C,B⟩:=h3.1.spliceS E off;refine ⟨L'++L2,?_,AH B (AG _)⟩;rw [Nat.zero_mul,Ag,Zce _ _ _ _ (by rw [h3.2];exact ho)];exact ⟨splice c1 off A,c2,L',L2,rfl,rfl,⟨C,by rw [Zbn _ _ _ (by rw [h3.2];exact ho)];exact h3.2⟩,h4⟩
 |e::r,_,_,i+1,off,x,⟨c1,c2,L1,L2,rfl,rfl,h3,h4⟩,hx,ho=>by
  obtain ⟨L',C,B⟩:=REs.set E h4 (i:=i) (off:=off) (x:=x) (by simpa using hx) ho;refine ⟨L1++L',?_,AH (AG _) B⟩;have e:(i+1)*m+off=c1.length+(i*m+off):=by rw [h3.2,AJ];omega
  rw [e,Zg1];exact ⟨c1,_,L1,L',rfl,rfl,h3,C⟩
theorem ZqS [NW]:∀{vs:List AV}{C:List CT}{A:List Value},Zhp vs=some C->ZN (AVR g w) vs A->RCs w C A []
 | [],_,[],h,_=>by simp [Zhp]at h;subst h;exact ⟨rfl,rfl⟩
 | [],_,_::_,_,h=>h.elim
 |_::_,_,[],_,h=>h.elim
 |x::vs,C,u::A,h,hr=>by
  simp only[Zhp]at h;obtain ⟨y,D,h⟩:=AB.1 h;obtain ⟨b,G,rfl⟩:=AA.1 h;have E:x=.c y/\y.flat=true:=by
   cases x with
   |c z=>cases z<;>simp [ZwR]at D<;>subst D<;>exact ⟨rfl,rfl⟩
   |_=>simp [ZwR]at D
  obtain ⟨rfl,F⟩:=E;obtain ⟨L,B,_⟩:=hr.1;have a:L=[]:=by
   cases y with
   |int k n=>exact B.2
   |bool b=>exact B.2
   |str s=>exact B.2.1
   |_=>simp [CT.flat]at F
  subst a;exact ⟨u,A,[],[],rfl,rfl,B,ZqS G hr.2⟩
theorem RCs.spliceG [NW] {x:List CT}{c:List Value}{L:List Nat}{ys:List CT}{us:List Value}{M:List Nat}(h:RCs w x c L) (B:RCs w ys us M):∀(off:Nat),∃A C,RCs w (splice x off ys) (splice c off us) (A++(M++C))/\(A++C).Sublist L:=by
 have F:us.length=ys.length:=B.len;intro off;induction off generalizing x c L with
 |zero=>
  obtain ⟨L',E,D⟩:=h.dropS (0+ys.length);refine ⟨[],L',?_,by simpa using D⟩;simp only[splice,BK,As,F];exact B.append E
 |succ off ih=>
  cases x with
  |nil=>
   obtain ⟨rfl,rfl⟩:=h;refine ⟨[],[],?_,AN _⟩;simpa [splice]using B
  |cons x r=>
   obtain ⟨v,a,L1,L2,rfl,rfl,H,G⟩:=h;obtain ⟨A,C,E,D⟩:=ih G;refine ⟨L1++A,C,?_,by rw [AQ];exact AH (AG _) D⟩;have J:splice (x::r) (off+1) ys=x::splice r off ys:=by
    simp only[splice,Ac,AX];rw [show off+1+ys.length=(off+ys.length)+1 by omega,Ad]
   have I:splice (v::a) (off+1) us=v::splice a off us:=by
    simp only[splice,Ac,AX];rw [show off+1+us.length=(off+us.length)+1 by omega,Ad]
   rw [J,I];exact ⟨v,_,L1,A++(M++C),rfl,by simp [AQ],H,E⟩
theorem REs.setG [NW] {m:Nat}{F:List CT}{B:List Value}{M:List Nat}(G:RCs w F B M):∀{xs:List (List CT)}{cs:List Value}{L:List Nat}{i off:Nat}{x:List CT},REs w m xs cs L->xs[i]?=some x->off+B.length<=m->
  ∃A C,REs w m (xs.set i (splice x off F)) (splice cs (i*m+off) B) (A++(M++C))/\(A++C).Sublist L
 | [],_,_,_,_,_,_,hx,_=>by simp at hx
 |e::r,_,_,0,off,x,⟨c1,c2,L1,L2,rfl,rfl,h3,h4⟩,hx,ho=>by
  simp at hx;subst hx;obtain ⟨A,C,E,D⟩:=h3.1.spliceG G off;refine ⟨A,C++L2,?_,by rw [<-AQ];exact AH D (AG _)⟩;rw [Nat.zero_mul,Ag,Zce _ _ _ _ (by rw [h3.2];exact ho)];exact ⟨splice c1 off B,c2,A++(M++C),L2,rfl,by simp [AQ],⟨E,by rw [Zbn _ _ _ (by rw [h3.2];exact ho)];exact h3.2⟩,h4⟩
 |e::r,_,_,i+1,off,x,⟨c1,c2,L1,L2,rfl,rfl,h3,h4⟩,hx,ho=>by
  obtain ⟨A,C,E,D⟩:=REs.setG G h4 (i:=i) (off:=off) (x:=x) (by simpa using hx) ho;refine ⟨L1++A,C,?_,by rw [AQ];exact AH (AG _) D⟩;have e:(i+1)*m+off=c1.length+(i*m+off):=by rw [h3.2,AJ];omega
  rw [e,Zg1];exact ⟨c1,_,L1,A++(M++C),rfl,by simp [AQ],h3,E⟩
theorem Zrj:∀{xs:List AV}{cts:List CT}{ks:List Nat}{d:Nat},Zd1 st xs=some (cts,ks,d)->∀k∈ks,∃e m xs d,st.ob k=.row e m xs d
 | [],_,_,_,h=>by
  simp only[Zd1,A0,A9]at h;obtain ⟨_,rfl,_⟩:=h;simp
 |x::r,cts,ks,d,h=>by
  simp only[Zd1]at h;obtain ⟨⟨K,D,J⟩,A,h⟩:=AB.1 h;obtain ⟨⟨c2,H,I⟩,F,h⟩:=AA.1 h;simp only[A9]at h;obtain ⟨_,rfl,_⟩:=h;have G:∀k∈D,∃e m xs d,st.ob k=.row e m xs d:=by
   cases x with
   |c y=>cases y<;>simp only[avT,A0,A9]at A<;>obtain ⟨_,rfl,_⟩:=A<;>simp
   |row k=>
    simp only[avT]at A;split at A
    .rename_i e m xs d E;split at A
     .simp only[A0,A9]at A;obtain ⟨_,rfl,_⟩:=A;simp
     .simp only[A0,A9]at A;obtain ⟨_,rfl,_⟩:=A;intro j B;simp only[Ah]at B;subst B;exact ⟨e,m,xs,d,E⟩
    .simp at A
   |nil e m=>
    simp only[avT]at A;split at A
    .simp only[A0,A9]at A;obtain ⟨_,rfl,_⟩:=A;simp
    .simp at A
   |n y=>simp [avT]at A
   |dead=>simp [avT]at A
  exact fun k C=>(A6.1 C).elim (G k) (Zrj F k)
theorem Zzo [NW] (af:∀t i,tt t=some i->TOk P t i) (hI:HI W g st.ob w) (hU:StU U st) {t k m i off e:Nat}{xs:List (List CT)}{d:Nat}{x ys:List CT}{vs:List AV}{va vv:Value}{ag:Bool}(hk:st.ob k=.row e m xs d) (S:¬d=0) (hx:xs[i]?=some x) (T:Zhp vs=some ys) (hl:vs.length=ZhE (tt t)) (ho:off+vs.length<=m)
  (ha:SVR g w (.rp k m i off) va) (hv:SVR g w (.p ag vs) vv) (l:0<vs.length) {s:Sem Next} (hs:s=(do Instr.storeAt t va vv;pure .skip)):Fin P W U key st g w s (.und,[(k,.row e m (xs.set i (splice x off ys)) d)]):=by
 obtain ⟨b,o,n,c,h1,rfl⟩:=ha;obtain ⟨hm,cs,L,o1,o2,o3,o4,o5⟩:=hI.deepO hk S;obtain ⟨us,c1,c2⟩:=PVR.cells hv;have V:=c2.len;have hi:i<xs.length:=(BM.1 hx).1;rcases o1.2 with ⟨_,hn⟩|⟨b',o',cap,a,y,X,hg,F,Y,aa,ab⟩
 .omega
 have ac:b=b'/\o=o':=by rw [y]at h1;simp at h1;exact ⟨h1.1.1.symm,h1.1.2.symm⟩
 obtain ⟨rfl,rfl⟩:=ac;have ai:i*m+off+us.length<=xs.length*m:=by
  have:=Ai m (show i+1<=xs.length by omega);rw [AJ]at this;omega
 have ah:xs.length*m<=cap*m:=Ai m F;have A:(sizeOf t).run P w=.ok us.length w:=by
  rw [<-V,hl];unfold ZhE at hl ⊢;cases hti:tt t with
  |none=>rw [hti]at hl;simp at hl;simp [hl]at l
  |some i=>
   cases i with
   |atom z=>obtain ⟨d,zv,i,_,_,h3,_,h4,_⟩:=af t _ hti;rw [X1 h3,h4]
   |strct fs n z=>obtain ⟨_,i,_,_,h3,h4,_⟩:=af t _ hti;rw [X1 h3,h4]
   |slice e m b z=>obtain ⟨_,_,_,_,j,h3,h4,_⟩:=af t _ hti;rw [X1 h3,h4]
   |_=>rw [hti]at hl;simp at hl;simp [hl]at l
 have G:=run_storeCells_at (P:=P) b (o+(i*m+off)) e us 0 a w hg yE (AVRs.one c2);obtain ⟨r1,r2,r3,r4,r5,r6⟩:=ZmE b a (splice a.toList (o+(i*m+off)) us).toArray e hg;have H:s.run P w=.ok .skip (w.setRow b (splice a.toList (o+(i*m+off)) us).toArray):=by
  subst hs;have e:(a.toList.take (o+(i*m+off)+0)++us++a.toList.drop (o+(i*m+off)+0+us.length)).toArray=(splice a.toList (o+(i*m+off)) us).toArray:=by simp [splice]
  rw [e]at G;simp [Instr.storeAt,Instr.sureAddr,storeVar,c1,A,G]
 have B:g.O k=[b]:=by rw [o4,y];rfl
 have I:∀b',b'<w.heap.size->¬g.own b'->(w.setRow b (splice a.toList (o+(i*m+off)) us).toArray).heap[b']?=w.heap[b']?:=fun b' _ hn=>r2 b' fun e=>hn (.inl ⟨k,by simp [B,e]⟩);obtain ⟨L',q1,q2⟩:=o2.set (ZqS T c2) hx (show off+us.length<=m by omega);have C:(w.setRow b (splice a.toList (o+(i*m+off)) us).toArray).ownsV 0 e m (g.val k) (xs.set i (splice x off ys)).length (splice cs (i*m+off) us):=by
  have J:cs.length=xs.length*m:=o1.1;refine ⟨by rw [Zbn _ _ _ yE,J];simp,.inr ⟨b,o,cap,_,by simpa using y,X,r1,by simpa using F,Y,by rw [BN,Zbn _ _ _ (show o+(i*m+off)+us.length<=a.toList.length by simp;omega)];simpa using aa,?_⟩⟩;have h0:((splice a.toList (o+(i*m+off)) us).toArray.toList).drop o=splice (a.toList.drop o) (i*m+off) us:=by
   show (splice a.toList (o+(i*m+off)) us).drop o=_
   unfold splice;have ad:o<=(a.toList.take (o+(i*m+off))).length:=by simp;omega
   rw [Au ad,BP,Ae,BR,At]
  rw [h0];have:a.toList.drop o=cs++(a.toList.drop o).drop (xs.length*m):=by rw [<-ab];exact (Aw _ _).symm
  rw [this,Zce _ _ _ _ yE];have e2:(xs.set i (splice x off ys)).length*m=(splice cs (i*m+off) us).length:=by rw [Zbn _ _ _ yE,J];simp
  rw [e2];exact An rfl
 have K:=o2.lt;have E:REs (w.setRow b (splice a.toList (o+(i*m+off)) us).toArray) m (xs.set i (splice x off ys)) (splice cs (i*m+off) us) L':=q1.keep fun b' mb=>I b' (K b' (q2.subset mb)) (o3 b' (q2.subset mb));let g':Gh:=⟨g.val,g.O,upd g.D k (if d=2 then L' else []),g.Z⟩
 have aj:∀b',g'.own b'↔g.own b':=fun b'=>Iff.rfl;have M:(∀b'∈g'.D k,b'∈g.D k)->Zai g g' w.heap.size:=fun hs=>.of (fun b' h=>.inl h) fun j b' mb=>by
  by_cases hj:j=k
  .subst hj;exact .inl (.inr ⟨j,hs b' mb⟩)
  .exact .inl (.inr ⟨j,by simpa [g',Z2 _ _ hj]using mb⟩)
 have f:∀b'∈g'.D k,b'∈g.D k:=fun b' mb=>by
  simp only[g',ZI]at mb;split at mb
  .rename_i hd;rcases o5 with ⟨_,o5⟩|⟨o5,_⟩
   .rw [o5];exact q2.subset mb
   .omega
  .simp at mb
 refine ⟨g',undef,_,.inr ⟨H,rfl⟩,?_,rfl,fun x u hx hu=>hu.move hx (fun _ _=>rfl) I (M f) yE,trivial,fun q=>?_,fun q hq=>?_⟩
 .refine hI.step (U:=U) (fun q=>q=k) ?_ rfl (fun b' _ hn=>r2 b' fun e=>hn k rfl (by simp [B,e])) (fun q hq=>⟨Z2 _ _ hq,rfl,rfl,Z2 _ _ hq⟩) hU.ob (fun _ _=>rfl) (M f) (fun q hq=>?_)
  .exact ⟨r4.trans hI.below.os,r5.trans hI.below.tape,r6.trans hI.below.output,by have:=hI.below.size;omega,fun q hq N=>by rw [r2 q (fun e=>by subst e;rcases hI.oy k q (by simp [B]) with h|h;omega;exact N h)];exact hI.below.block q hq N⟩
  .subst hq;have v:∀b'∈g'.O q++g'.D q,b'∈g.O q++g.D q:=fun b' mb=>by
    rcases A6.1 mb with mb|mb
    .exact A6.2 (.inl mb)
    .exact A6.2 (.inr (f b' mb))
   refine ⟨?_,?_,fun b' mb=>?_,fun j hj b' mb mj=>?_⟩
   .simp only[Zl,ZI];refine ⟨hm,_,L',C,E,?_⟩;rcases o5 with ⟨o5,_⟩|⟨o5,_⟩
    .exact .inl ⟨o5,o4,by simp [g',upd,o5]⟩
    .exact .inr (.inl ⟨o5,o4,by simp [g',upd,o5],fun b' mb=>o3 b' (q2.subset mb)⟩)
   .have hn:=hI.nodup q;refine hn.sublist (AH (AG _) ?_);simp only[g',ZI];split
    .rename_i hd;rcases o5 with ⟨_,o5⟩|⟨o5,_⟩
     .rw [o5];exact q2
     .omega
    .exact AN _
   .have hp:=hI.plain q b' (v b' mb);rw [hk]at hp;obtain ⟨p1,Q,e',p2⟩:=hp;refine ⟨p1,?_⟩;simp only[Zl,ZI];show ∃a e,_=_
    by_cases R:b'=b
    .subst R;exact ⟨_,_,r1⟩
    .exact ⟨Q,e',by rw [r2 b' R];exact p2⟩
   .have ae:b'∈g.O j++g.D j:=by
     rcases A6.1 mj with mj|mj
     .exact A6.2 (.inl mj)
     .simp only[g',Z2 _ _ (fun e:j=q=>hj e.symm)]at mj;exact A6.2 (.inr mj)
    exact hI.apart q j hj b' (v b' mb) ae
 .simp only[Zl,upd];split
  .trivial
  .exact (hU.ob q).mono fun _=>.inl
 .simp only[Zl,upd];split
  .rename_i e;subst e;exact absurd (hU.gone q fun h=>hq (.inl h)) (by simp [hk])
  .exact hU.gone q fun h=>hq (.inl h)
theorem ZxY [NW] (as:∀t i,tt t=some i->TOk P t i) (hI:HI W g st.ob w) (hU:StU U st) {t k m i off e:Nat}{xs:List (List CT)}{d:Nat}{x ys:List CT}{vs:List AV}{va vv:Value}{ag:Bool}(hk:st.ob k=.row e m xs d) (ar:¬d=0) (hx:xs[i]?=some x) {ks:List Nat}{dv:Nat}(ab:Zd1 st vs=some (ys,ks,dv)) (E:(k::ks).Nodup) (hl:vs.length=ZhE (tt t)) (ho:off+vs.length<=m)
  (au:QK U vs) (ha:SVR g w (.rp k m i off) va) (hv:SVR g w (.p ag vs) vv) (J:0<vs.length) {s:Sem Next} (hs:s=(do Instr.storeAt t va vv;pure .skip)):Fin P W U key st g w s (.und,YE ks++[(k,.row e m (xs.set i (splice x off ys)) (Zb1 d dv))]):=by
 obtain ⟨b,o,n,c,h1,rfl⟩:=ha;obtain ⟨hm,cs,L,o1,o2,o3,o4,o5⟩:=hI.deepO hk ar;obtain ⟨us,c1,c2⟩:=PVR.cells hv;have av:=c2.len;have hi:i<xs.length:=(BM.1 hx).1;rcases o1.2 with ⟨_,hn⟩|⟨b',o',cap,a,G,aw,hg,ac,ax,ay,az⟩
 .omega
 have a0:b=b'/\o=o':=by rw [G]at h1;simp at h1;exact ⟨h1.1.1.symm,h1.1.2.symm⟩
 obtain ⟨rfl,rfl⟩:=a0;have a9:i*m+off+us.length<=xs.length*m:=by
  have:=Ai m (show i+1<=xs.length by omega);rw [AJ]at this;omega
 have a8:xs.length*m<=cap*m:=Ai m ac;have K:(sizeOf t).run P w=.ok us.length w:=by
  rw [<-av,hl];unfold ZhE at hl ⊢;cases hti:tt t with
  |none=>rw [hti]at hl;simp at hl;simp [hl]at J
  |some i=>
   cases i with
   |atom z=>obtain ⟨d,zv,i,_,_,h3,_,h4,_⟩:=as t _ hti;rw [X1 h3,h4]
   |strct fs n z=>obtain ⟨_,i,_,_,h3,h4,_⟩:=as t _ hti;rw [X1 h3,h4]
   |slice e m b z=>obtain ⟨_,_,_,_,j,h3,h4,_⟩:=as t _ hti;rw [X1 h3,h4]
   |_=>rw [hti]at hl;simp at hl;simp [hl]at J
 have ad:=run_storeCells_at (P:=P) b (o+(i*m+off)) e us 0 a w hg yE (AVRs.one c2);obtain ⟨r1,r2,r3,r4,r5,r6⟩:=ZmE b a (splice a.toList (o+(i*m+off)) us).toArray e hg;have ae:s.run P w=.ok .skip (w.setRow b (splice a.toList (o+(i*m+off)) us).toArray):=by
  subst hs;have e:(a.toList.take (o+(i*m+off)+0)++us++a.toList.drop (o+(i*m+off)+0+us.length)).toArray=(splice a.toList (o+(i*m+off)) us).toArray:=by simp [splice]
  rw [e]at ad;simp [Instr.storeAt,Instr.sureAddr,storeVar,c1,K,ad]
 let x_:=x
 have B:g.O k=[b]:=by rw [o4,G];rfl
 have N:g.own b:=.inl ⟨k,by simp [B]⟩;obtain ⟨M,y1,y2,y3⟩:=Zrz hI ab c2 au;have af:=Zrj ab;obtain ⟨A,C,q1,q2⟩:=o2.setG y1 hx (show off+us.length<=m by omega);rw [AL]at E;have hdv:=y2.2.1;have hdv0:=y2.2.2.1;have ah:∀x∈g.F ks,∃j∈ks,x∈g.O j++g.D j:=fun x mx=>ZgO mx;have Q:b∉M:=fun mb=>by
  rcases y2.2.2.2 b mb with h|⟨j,hj,mj⟩
  .exact h N
  .exact hI.apart k j (fun e=>E.1 (e ▸ hj)) b (by simp [B]) (by simp [mj])
 have R:b∉L:=fun mb=>o3 b mb N;have l:∀x∈A++(M++C),x∈L\/x∈M:=fun x mx=>by
  simp only[A6]at mx;rcases mx with mx|mx|mx
  .exact .inl (q2.subset (by simp [mx]))
  .exact .inr mx
  .exact .inl (q2.subset (by simp [mx]))
 have S:(w.setRow b (splice a.toList (o+(i*m+off)) us).toArray).ownsV 0 e m (g.val k) (xs.set i (splice x off ys)).length (splice cs (i*m+off) us):=by
  have ai:cs.length=xs.length*m:=o1.1;refine ⟨by rw [Zbn _ _ _ yE,ai];simp,.inr ⟨b,o,cap,_,by simpa using G,aw,r1,by simpa using ac,ax,by rw [BN,Zbn _ _ _ (show o+(i*m+off)+us.length<=a.toList.length by simp;omega)];simpa using ay,?_⟩⟩;have h0:((splice a.toList (o+(i*m+off)) us).toArray.toList).drop o=splice (a.toList.drop o) (i*m+off) us:=by
   show (splice a.toList (o+(i*m+off)) us).drop o=_
   unfold splice;have a1:o<=(a.toList.take (o+(i*m+off))).length:=by simp;omega
   rw [Au a1,BP,Ae,BR,At]
  rw [h0];have:a.toList.drop o=cs++(a.toList.drop o).drop (xs.length*m):=by rw [<-az];exact (Aw _ _).symm
  rw [this,Zce _ _ _ _ yE];have e2:(xs.set i (splice x off ys)).length*m=(splice cs (i*m+off) us).length:=by rw [Zbn _ _ _ yE,ai];simp
  rw [e2];exact An rfl
 have T:REs (w.setRow b (splice a.toList (o+(i*m+off)) us).toArray) m (xs.set i (splice x off ys)) (splice cs (i*m+off) us) (A++(M++C)):=q1.keep fun b' mb=>r2 b' fun e=>by
  rcases l b' mb with h|h
  .exact R (e ▸ h)
  .exact Q (e ▸ h)
 let g':Gh:=⟨g.val,fun j=>if j∈ks then [] else g.O j,fun j=>if j=k then (if Zb1 d dv=2 then A++(M++C) else []) else if j∈ks then [] else g.D j,g.Z⟩
 have gK:∀j∈ks,g'.O j=[]/\g'.D j=[]:=fun j hj=>by
  have f:¬j=k:=fun e=>E.1 (e ▸ hj);exact ⟨yp hj,by simp only[g',yn f,yp hj]⟩
 have gk:g'.O k=[b]/\g'.D k=if Zb1 d dv=2 then A++(M++C) else []:=⟨by simp only[g',yn E.1,B],by simp only[g',if_true]⟩
 have gN:∀j,¬j=k->j∉ks->g'.O j=g.O j/\g'.D j=g.D j:=fun j h1 h2=>⟨yn h2,by simp only[g',yn h1,yn h2]⟩
 have V:∀x,g'.own x->g.own x:=fun x hx=>by
  rcases hx with ⟨j,mj⟩|hz
  .by_cases hj:j∈ks
   .rw [(gK j hj).1]at mj;simp at mj
   .exact .inl ⟨j,by simpa [g',hj]using mj⟩
  .exact .inr hz
 have aj:Zb1 d dv=2->d=2/\dv=2:=fun h=>by
  have hd:d<=2:=by rcases o5 with ⟨q,_⟩|⟨q,_⟩<;>omega
  unfold Zb1 at h;split at h<;>omega
 have H:∀x∈g'.D k,(∃j,x∈g.D j/\j=k)\/∃j∈ks,x∈g.O j++g.D j:=fun x mx=>by
  rw [gk.2]at mx;split at mx
  .rename_i hd;obtain ⟨e1,e2⟩:=aj hd;rcases l x mx with h|h
   .rcases o5 with ⟨_,o5⟩|⟨q,_⟩
    .exact .inl ⟨k,by rw [o5];exact h,rfl⟩
    .omega
   .exact .inr (ah x ((y2.1 e2).subset h))
  .simp at mx
 have ak:Zai g g' w.heap.size:=.of (fun x hx=>.inl (V x hx)) fun j x mj=>by
  by_cases hj:j=k
  .subst hj;rcases H x mj with ⟨i,mi,_⟩|⟨i,_,mi⟩
   .exact .inl (.inr ⟨i,mi⟩)
   .rcases A6.1 mi with mi|mi
    .exact .inl (.inl (.inl ⟨i,mi⟩))
    .exact .inl (.inr ⟨i,mi⟩)
  .by_cases f:j∈ks
   .rw [(gK j f).2]at mj;simp at mj
   .rw [(gN j hj f).2]at mj;exact .inl (.inr ⟨j,mj⟩)
 have a2:∀b',b'<w.heap.size->¬g.own b'->(w.setRow b (splice a.toList (o+(i*m+off)) us).toArray).heap[b']?=w.heap[b']?:=fun b' _ hn=>r2 b' fun e=>hn (e ▸ N);have a3:U k:=Classical.byContradiction fun h=>by have:=hU.gone k h;rw [hk]at this;simp at this
 have v:∀j,Zl st.ob (YE ks++[(k,.row e m (xs.set i (splice x off ys)) (Zb1 d dv))]) j=if j=k then .row e m (xs.set i (splice x off ys)) (Zb1 d dv) else if j∈ks then .gone else st.ob j:=fun j=>ZbG _ _ _ _ _;have al:∀x∈g'.D k,(W.heap.size<=x\/W.x x\/W.y x)/\Qb (w.setRow b (splice a.toList (o+(i*m+off)) us).toArray) (.row e m (xs.set i (splice x_ off ys)) (Zb1 d dv)) x:=fun x mx=>by
  have am:x≠b:=fun h=>by
   rw [gk.2]at mx;split at mx
   .rcases l x mx with q|q
    .exact R (h ▸ q)
    .exact Q (h ▸ q)
   .simp at mx
  rcases H x mx with ⟨j,mj,_⟩|⟨j,hj,mj⟩
  .exact ⟨(hI.plainD mj).1,Qb.keep (o:=.row e m (xs.set i (splice x_ off ys)) (Zb1 d dv)) (hI.plainD mj).2 (r2 x am)⟩
  .obtain ⟨p1,p2⟩:=hI.plain j x mj;obtain ⟨_,_,_,_,a4⟩:=af j hj;rw [a4]at p2;exact ⟨p1,Qb.keep (o:=.row e m (xs.set i (splice x_ off ys)) (Zb1 d dv)) p2 (r2 x am)⟩
 refine ⟨g',undef,_,.inr ⟨ae,rfl⟩,?_,rfl,fun x u hx hu=>hu.move hx (fun _ _=>rfl) a2 ak yE,trivial,fun q=>?_,fun q hq=>?_⟩
 .refine hI.step (U:=U) (fun q=>q=k\/q∈ks) ?_ rfl (fun b' _ hn=>r2 b' fun e=>hn k (.inl rfl) (by simp [B,e])) (fun q hq=>?_) hU.ob (fun _ _=>rfl) ak (fun q hq=>?_)
  .exact ⟨r4.trans hI.below.os,r5.trans hI.below.tape,r6.trans hI.below.output,by have:=hI.below.size;omega,fun q hq an=>by rw [r2 q (fun e=>by subst e;rcases hI.oy k q (by simp [B]) with h|h;omega;exact an h)];exact hI.below.block q hq an⟩
  .have h1:¬q=k:=fun e=>hq (.inl e);have h2:q∉ks:=fun e=>hq (.inr e);exact ⟨by rw [v,yn h1,yn h2],rfl,(gN q h1 h2).1,(gN q h1 h2).2⟩
  .by_cases X:q=k
   .subst X;rw [v,yp rfl];have a5:∀j,q≠j->∀x∈g'.O q++g'.D q,x∉g'.O j++g'.D j:=fun j hj x mx mj=>by
     by_cases f:j∈ks
     .rw [(gK j f).1,(gK j f).2]at mj;simp at mj
     .rw [(gN j (fun e=>hj e.symm) f).1,(gN j (fun e=>hj e.symm) f).2]at mj;rcases A6.1 mx with mx|mx
      .rw [gk.1]at mx;exact hI.apart q j hj x (by rw [B];simp at mx;simp [mx]) mj
      .rcases H x mx with ⟨i',mi,rfl⟩|⟨i',I,mi⟩
       .exact hI.apart i' j hj x (by simp [mi]) mj
       .exact hI.apart i' j (fun e=>f (e ▸ I)) x mi mj
    refine ⟨⟨hm,_,A++(M++C),S,T,?_⟩,?_,fun x mx=>?_,a5⟩
    .by_cases hd:Zb1 d dv=2
     .exact .inl ⟨hd,by rw [gk.1,G];rfl,by rw [gk.2,yp hd]⟩
     .have a6:Zb1 d dv=1:=by
       unfold Zb1 at hd ⊢;split
       .rename_i Y;rw [yp Y]at hd;rcases o5 with ⟨q,_⟩|⟨q,_⟩<;>omega
       .rename_i Y;rw [yn Y]at hd;omega
      refine .inr (.inl ⟨a6,by rw [gk.1,G];rfl,by rw [gk.2,yn hd],fun x mx aa=>?_⟩);rcases l x mx with h|h
      .exact o3 x h (V x aa)
      .rcases y2.2.2.2 x h with h|⟨j,hj,mj⟩
       .exact h (V x aa)
       .rcases aa with ⟨i',mi⟩|hz
        .by_cases I:i'∈ks
         .rw [(gK i' I).1]at mi;simp at mi
         .have a7:x∈g.O i':=by simpa [g',I]using mi
          exact hI.apart j i' (fun e=>I (e ▸ hj)) x (by simp [mj]) (by simp [a7])
        .exact hI.nz (k:=j) (by simp [mj]) hz
    .rw [gk.1,gk.2];simp only[AT,AL];refine ⟨fun mb=>?_,?_⟩
     .split at mb
      .rcases l b mb with h|h
       .exact R h
       .exact Q h
      .simp at mb
     .split
      .rename_i hd;obtain ⟨e1,e2⟩:=aj hd;have hL:L.Nodup:=by
        rcases o5 with ⟨_,o5⟩|⟨q',_⟩
        .have:=(AF.1 (hI.nodup q)).2.1;rw [o5]at this;exact this
        .omega
       have hM:M.Nodup:=(hI.nodupF E.2).sublist (y2.1 e2);have ao:∀x∈L,x∉M:=fun x h1 h2=>by
        obtain ⟨j,hj,mj⟩:=ah x ((y2.1 e2).subset h2);rcases o5 with ⟨_,o5⟩|⟨q',_⟩
        .exact hI.apart q j (fun e=>E.1 (e ▸ hj)) x (by rw [o5];simp [h1]) mj
        .omega
       have ap:=hL.sublist q2;rw [AF]at ap ⊢;obtain ⟨n1,n2,n3⟩:=ap;refine ⟨n1,AF.2 ⟨hM,n2,fun x h1 y h2 e=>ao y (q2.subset (by simp [h2])) (e ▸ h1)⟩,fun x h1 y h2 e=>?_⟩;rcases A6.1 h2 with h2|h2
       .exact ao x (q2.subset (by simp [h1])) (e ▸ h2)
       .exact n3 x h1 y h2 e
      .simp
    .rcases A6.1 mx with mx|mx
     .rw [gk.1]at mx;simp only[Ah]at mx;subst mx;exact ⟨(hI.plain q x (by simp [B])).1,_,_,r1⟩
     .exact al x mx
   .have aq:q∈ks:=hq.resolve_left X;obtain ⟨e2,e3⟩:=gK q aq;rw [v,yn X,yp aq,e2,e3];exact ⟨⟨e2,e3⟩,yG,yG,yG⟩
 .rw [v];split
  .trivial
  .split
   .trivial
   .exact (hU.ob q).mono fun _=>.inl
 .rw [v,yn (by rintro rfl;exact hq (.inl a3))];split
  .rfl
  .exact hU.gone q fun h=>hq (.inl h)
end
end
section
open Go.RowKit
section
variable {P:Program} {W:ZbW} {U:Nat->Prop} {key:Nat} {st:St} {g:Gh} {w w':World} {a:Act} {tt:Nat->Option TI}
theorem Zvg [NW] {α:Type}(f:Nat->α) (k:Nat):upd f k (f k)=f:=by
 funext j;by_cases A:j=k
 .subst A;rw [ZI]
 .rw [Z2 _ _ A]
theorem AVR.less [NW] {A:Gh}{x:AV}{v:Value}(h:AVR g w x v) (D:A.val=g.val) (B:QM A g):AVR A w x v:=by
 cases x with
 |c x=>obtain ⟨L,G,F⟩:=h;exact ⟨L,G,fun b C E=>F b C (B.own b E)⟩
 |n x=>exact NR.move h (fun _ _ _=>rfl) (B.grow _)
 |row k=>exact ⟨h.1.trans (by rw [D]),h.2⟩
 |nil e m=>exact h
 |dead=>exact h
theorem SVR.less [NW] {A:Gh}{x:SV}{v:Value}(h:SVR g w x v) (C:A.val=g.val) (D:QM A g):SVR A w x v:=
 h.move (U:=fun _=>True) (by (cases x<;>try trivial);(intro y B;cases y<;>trivial);(intro y B z E;cases z<;>trivial)) (fun k _=>by rw [C]) (fun _ _ _=>rfl) (D.grow _) (AD _)
theorem Zk7 [NW] {ob:Nat->Ob}(E:HI W g ob w) (k:Nat):∃A:Gh,HI W A (upd ob k (Yy (ob k))) w/\A.val=g.val/\QM A g/\((∃e m xs d,ob k=.row e m xs d)->∀b∈g.O k++g.D k,¬A.low b):=by
 cases hk:ob k with
 |gone=>exact ⟨g,by rw [show Yy Ob.gone=ob k from hk.symm,Zvg];exact E,rfl,QM.refl _,yG⟩
 |box t cs=>exact ⟨g,by rw [show Yy (Ob.box t cs)=ob k from hk.symm,Zvg];exact E,rfl,QM.refl _,yG⟩
 |map kk vk kv=>exact ⟨g,by rw [show Yy (Ob.map kk vk kv)=ob k from hk.symm,Zvg];exact E,rfl,QM.refl _,yG⟩
 |row e m xs d=>
  obtain ⟨hm,cs,L,o1,o2,o3,o5⟩:=E.deep hk;let A:Gh:=⟨g.val,upd g.O k [],upd g.D k [],g.Z⟩
  have H:∀j b,b∈A.O j->j≠k/\b∈g.O j:=fun j b B=>by
   by_cases C:j=k
   .subst C;simp [A,upd]at B
   .exact ⟨C,by simpa [A,upd,C]using B⟩
  have M:∀j b,b∈A.D j->j≠k/\b∈g.D j:=fun j b B=>by
   by_cases C:j=k
   .subst C;simp [A,upd]at B
   .exact ⟨C,by simpa [A,upd,C]using B⟩
  have l:∀j b,b∈A.O j++A.D j->j≠k/\b∈g.O j++g.D j:=fun j b B=>by
   rcases A6.1 B with I|I
   .exact ⟨(H j b I).1,by simp [(H j b I).2]⟩
   .exact ⟨(M j b I).1,by simp [(M j b I).2]⟩
  have a:∀b,A.own b->g.own b:=fun b G=>by
   rcases G with ⟨j,F⟩|J
   .exact .inl ⟨j,(H j b F).2⟩
   .exact .inr J
  have f:QM A g:=.of a fun j b B=>⟨j,(M j b B).2⟩
  have o:∀b∈(g.val k).ownBlock.toList,¬A.own b:=fun b B G=>by
   rcases o5 with ⟨_,q,_⟩|⟨_,q,_⟩|⟨_,_,_,q⟩
   .have K:b∈g.O k++g.D k:=by simp [q,B]
    rcases G with ⟨j,F⟩|J
    .exact E.apart k j (fun e=>(H j b F).1 e.symm) b K (by simp [(H j b F).2])
    .exact E.nz K J
   .have K:b∈g.O k++g.D k:=by simp [q,B]
    rcases G with ⟨j,F⟩|J
    .exact E.apart k j (fun e=>(H j b F).1 e.symm) b K (by simp [(H j b F).2])
    .exact E.nz K J
   .exact q b B (a b G)
  refine ⟨A,⟨E.below,fun j=>?_,fun j=>?_,fun i j p b B F=>?_,fun j b B=>?_,E.gz,E.zx,E.nw,fun j b B=>E.oy j b (H j b B).2⟩,rfl,f,fun _ b B G=>?_⟩
  rotate_right
  .rcases G with (⟨j,F⟩|J)|⟨j,F⟩
   .exact E.apart k j (fun e=>(H j b F).1 e.symm) b B (by simp [(H j b F).2])
   .exact E.nz B J
   .exact E.apart k j (fun e=>(M j b F).1 e.symm) b B (by simp [(M j b F).2])
  .by_cases C:j=k
   .subst C;rw [ZI];refine ⟨hm,cs,L,o1,o2,.inr (.inr ⟨rfl,by simp [A,upd],by simp [A,upd],fun b B=>?_⟩)⟩;rcases A6.1 B with I|I
    .exact o b I
    .exact fun G=>o3 b I (a b G)
   .rw [Z2 _ _ C];have ho:=E.obs j;cases hoj:ob j with
    |gone=>rw [hoj]at ho;exact ⟨by simpa [A,upd,C]using ho.1,by simpa [A,upd,C]using ho.2⟩
    |box t ds=>
     rw [hoj]at ho;obtain ⟨b,vs,h1,h2,V,U,h5⟩:=ho;exact ⟨b,vs,h1,by simpa [A,upd,C]using h2,by simpa [A,upd,C]using V,U,h5.mono fun x u _ hx=>AVR.less hx rfl f⟩
    |map kk vk kv=>
     rw [hoj]at ho;obtain ⟨b,es,c,h1,h2,V,U⟩:=ho;exact ⟨b,es,c,h1,by simpa [A,upd,C]using h2,by simpa [A,upd,C]using V,U⟩
    |row e' m' xs' d'=>
     rw [hoj]at ho;obtain ⟨v,y,L',p1,p2,T⟩:=ho;refine ⟨v,y,L',p1,p2,?_⟩;have e1:A.O j=g.O j:=by simp [A,upd,C]
     have e2:A.D j=g.D j:=by simp [A,upd,C]
     rw [e1,e2];rcases T with T|⟨S,R,P,N⟩|⟨S,R,P,N⟩
     .exact .inl T
     .exact .inr (.inl ⟨S,R,P,fun b B G=>N b B (a b G)⟩)
     .exact .inr (.inr ⟨S,R,P,fun b B G=>N b B (a b G)⟩)
  .by_cases C:j=k
   .subst C;simp [A,upd]
   .have:=E.nodup j;simpa [A,upd,C]using this
  .exact E.apart i j p b (l i b B).2 (l j b F).2
  .rw [Z2 _ _ (l j b B).1];exact E.plain j b (l j b B).2
theorem Zz2 [NW] {ob:Nat->Ob}(B:HI W g ob w) {k t:Nat}{cs:List AV}(hk:ob k=.box t cs):∃A:Gh,HI W A (upd ob k .gone) w/\A.val=g.val/\QM A g/\∃b vs,g.val k=.pointer (some ⟨b,0,none⟩)/\¬A.own b/\b<w.heap.size/\Zal w b 0 vs/\ZN (AVR g w) cs vs:=by
 have ho:=B.obs k;rw [hk]at ho;obtain ⟨b,vs,K,H,M,G,h5⟩:=ho;let A:Gh:=⟨g.val,upd g.O k [],upd g.D k [],g.Z⟩
 have F:∀j x,x∈A.O j++A.D j->j≠k/\x∈g.O j++g.D j:=fun j x C=>by
  by_cases hj:j=k
  .subst hj;simp [A,upd]at C
  .exact ⟨hj,by simpa [A,upd,hj]using C⟩
 have a:∀x,A.own x->g.own x/\x≠b:=fun x I=>by
  rcases I with ⟨j,L⟩|hz
  .have:=F j x (by simp [L]);refine ⟨.inl ⟨j,?_⟩,fun e=>?_⟩
   .have hj:=this.1;simpa [A,upd,hj]using L
   .subst e;exact B.apart j k this.1 x this.2 (by simp [H])
  .exact ⟨.inr hz,fun e=>by subst e;exact B.nz (k:=k) (by simp [H]) hz⟩
 have d:QM A g:=.of (fun x I=>(a x I).1) fun j b E=>⟨j,by
  have hj:=(F j b (by simp [E])).1;simpa [A,upd,hj]using E⟩
 refine ⟨A,⟨B.below,fun j=>?_,fun j=>?_,fun i j f x C L=>?_,fun j x C=>?_,B.gz,B.zx,B.nw,fun j x C=>by
  by_cases hj:j=k
  .subst hj;simp [A,upd]at C
  .exact B.oy j x (by simpa [A,upd,hj]using C)⟩,rfl,d,b,vs,K,fun J=>(a b J).2 rfl,(BS.1 G).1,fun j u hj=>?_,h5⟩
 .by_cases hj:j=k
  .subst hj;rw [ZI];exact ⟨by simp [A,upd],by simp [A,upd]⟩
  .rw [Z2 _ _ hj];have ho:=B.obs j;have P:A.O j=g.O j:=by simp [A,upd,hj]
   have N:A.D j=g.D j:=by simp [A,upd,hj]
   cases hoj:ob j with
   |gone=>rw [hoj]at ho;exact ⟨P.trans ho.1,N.trans ho.2⟩
   |box t ds=>
    rw [hoj]at ho;obtain ⟨b,vs,K,H,M,G,h5⟩:=ho;exact ⟨b,vs,K,P.trans H,N.trans M,G,h5.mono fun x u _ I=>AVR.less I rfl d⟩
   |map kk vk kv=>
    rw [hoj]at ho;obtain ⟨b,es,c,K,H,M,G⟩:=ho;exact ⟨b,es,c,K,P.trans H,N.trans M,G⟩
   |row e' m' xs' d'=>
    rw [hoj]at ho;obtain ⟨l,m,L',p1,p2,V⟩:=ho;refine ⟨l,m,L',p1,p2,?_⟩;rw [P,N];rcases V with V|⟨U,T,S,R⟩|⟨U,T,S,R⟩
    .exact .inl V
    .exact .inr (.inl ⟨U,T,S,fun b E J=>R b E (a b J).1⟩)
    .exact .inr (.inr ⟨U,T,S,fun b E J=>R b E (a b J).1⟩)
 .by_cases hj:j=k
  .subst hj;simp [A,upd]
  .have:=B.nodup j;simpa [A,upd,hj]using this
 .exact B.apart i j f x (F i x C).2 (F j x L).2
 .rw [Z2 _ _ (F j x C).1];exact B.plain j x (F j x C).2
 .rw [Ag,cell_of_row w b j vs.toArray t (0,0) G];simpa using hj
theorem Ztv [NW] {ob:Nat->Ob}(P:HI W g ob w) {k e m:Nat}{xs:List (List CT)}(O:ob k=.row e m xs 0):∃L,RC w (.sl e m xs) (g.val k) L/\∀b∈L,¬g.own b:=by
 obtain ⟨N,cs,L1,K,J,I,H⟩:=P.deep O;obtain ⟨A,cap,L0,G,F,E,D,C⟩:=Sl.row K;refine ⟨L0++L1,⟨A,cap,cs,L0,L1,G,F,E,rfl,N,D,J⟩,fun b M=>?_⟩;rcases A6.1 M with B|B
 .rcases H with ⟨q,_⟩|⟨q,_⟩|⟨_,_,_,q⟩
  .omega
  .omega
  .exact q b (C.subset B)
 .exact I b B
theorem REs.dropS {m:Nat}:∀{xs:List (List CT)}{cs:List Value}{L:List Nat}(l:Nat),REs w m xs cs L->∃L',REs w m (xs.drop l) (cs.drop (l*m)) L'/\L'.Sublist L
 |xs,cs,L,0,h=>⟨L,by simpa using h,AG _⟩
 | [],cs,L,l+1,h=>⟨[],by obtain ⟨rfl,rfl⟩:=h;simp [REs],AN _⟩
 |x::r,_,_,l+1,⟨c1,c2,L1,L2,rfl,rfl,h3,h4⟩=>by
  obtain ⟨L',B,A⟩:=REs.dropS l h4;refine ⟨L',?_,A.trans (BJ _ _)⟩;have e:(l+1)*m=c1.length+l*m:=by rw [h3.2,AJ];omega
  have C:(c1++c2).drop (c1.length+l*m)=c2.drop (l*m):=by
   rw [Ao,Aq (BL _ _),As,Ae]
  rw [e,C];simpa using B
theorem Zys [NW] (aa:∀t i,tt t=some i->TOk P t i) (S:HI W g st.ob w) (hU:StU U st) (c:¬U key) {t k e m d l:Nat}{xs:List (List CT)}(hk:st.ob k=.row e m xs d) (E:¬d=0) (a:ZmD (tt t)=m) {lo:Option SV}{vx:Value}{vlo:Option Value}(hl:loB xs.length lo=some l) (hx:SVR g w (.p false [.row k]) vx)
  (F:Zo1 g w lo vlo) {s:Sem Next} (hs:s=(do pure (.value (<-Instr.sliceAt t vx vlo none none)))):Fin P W U key st g w s (.p false [.row key],[(k,.gone),(key,.row e m (xs.drop l) d)]):=by
 obtain ⟨hm,cs,L,o1,o2,o3,o4,o5⟩:=S.deepO hk E;have hv:=ZhR hx;subst hv;obtain ⟨A,cap,hv,G,ac⟩:=Zbt o1;obtain ⟨b1,b2,_⟩:=ZkR (P:=P) (w:=w) (g:=g) (b:=true) (len:=xs.length) (cap:=cap) (h:=xs.length) (hi:=none) (vhi:=none) rfl hl F trivial G;obtain ⟨e',b',z',H⟩:∃e' b' z',tt t=some (.slice e' m b' z'):=by
  unfold ZmD at a;split at a
  .rename_i h1;subst a;exact ⟨_,_,_,h1⟩
  .omega
 obtain ⟨hu,_,_,⟨ie,zv,I,J,_⟩,_⟩:=aa t _ H;have V:g.O k=(Value.slice A xs.length cap).ownBlock.toList:=by rw [o4,hv]
 have f:=o1;rw [hv]at f;obtain ⟨t1,t2⟩:=Zvq (l:=l) f b2;generalize hw:(Value.slice (if cap=l then A else A.map (·.add (l*m))) (xs.length - l) (cap - l))=v' at t1 t2
 have u:s.run P w=.ok (.value v') w:=by
  subst hs;have:(Instr.sliceAt t (.slice A xs.length cap) vlo none none).run P w=.ok v' w:=by
   rw [<-hw];simp [Instr.sliceAt,Xk hu,Instr.slice,b1,X1 I,J]
  rw [hv];simp only[Sem.run_bind,this,Result.andThen_ok,Sem.run_pure]
 obtain ⟨M,r1,R⟩:=o2.dropS l;have K:U k:=Classical.byContradiction fun hn=>by have:=hU.gone _ hn;rw [hk]at this;simp at this
 have x:∀b∈(if d=2 then M else []),b∈g.D k:=fun b N=>by
  split at N
  .rename_i hd;rcases o5 with ⟨_,q⟩|⟨q,_⟩
   .rw [q];exact R.subset N
   .omega
  .simp at N
 have z:(xs.drop l).length=xs.length - l:=by simp
 obtain ⟨i1,i2⟩:=S.turn (key:=key) (U:=U) (w':=w) (v:=v') (O:=v'.ownBlock.toList) (D:=if d=2 then M else []) (o:=.row e m (xs.drop l) d) hU.ob c [k]
  (fun j T=>by simp at T;subst T;exact K) S.below (AD _) (fun b hb hn=>rfl)
  (fun b N=>.inl ⟨k,yG,by rw [V,<-t2];exact N⟩)
  (fun b N=>.inl ⟨k,yG,A6.2 (.inr (x b N))⟩)
  (by
   have hn:=S.nodup k;refine hn.sublist (AH (by rw [V,<-t2];exact AG _) ?_);split
   .rename_i hd;rcases o5 with ⟨_,q⟩|⟨q,_⟩
    .rw [q];exact R
    .omega
   .exact AN _)
  (fun b N=>by
   have B:b∈g.O k++g.D k:=by
    rcases A6.1 N with N|N
    .exact A6.2 (.inl (by rw [V,<-t2];exact N))
    .exact A6.2 (.inr (x b N))
   obtain ⟨p1,p2⟩:=S.plain k b B;exact ⟨p1,p2.of (by rw [hk];rfl)⟩)
  (fun ab=>⟨hm,cs.drop (l*m),M,by simp only[Gh.turn,ZI];rw [z];exact t1,r1,by
   rcases o5 with ⟨q,_⟩|⟨q,_⟩
   .exact .inl ⟨q,by simp [Gh.turn,ZI],by simp [Gh.turn,q]⟩
   .refine .inr (.inl ⟨q,by simp [Gh.turn,ZI],by simp [Gh.turn,q],fun b N ho=>?_⟩);rcases Zg7 ho with mo|⟨j,_,_,T⟩|hz
    .exact o3 b (R.subset N) (.inl ⟨k,by rw [V,<-t2];exact mo⟩)
    .exact o3 b (R.subset N) (.inl ⟨j,T⟩)
    .exact o3 b (R.subset N) (.inr hz)⟩)
 have C:=Zlk (key:=key) (o:=.row e m (xs.drop l) d) hU [k] trivial;refine ⟨_,v',w,.inl u,i1,⟨_,rfl,⟨by simp [Gh.turn,ZI],?_⟩⟩,i2,fun y my=>by simp at my;subst my;exact Zmj,C.1,C.2⟩;rw [<-hw];simp [Value.oneCell']
theorem Zw6 [NW] (G:∀t i,tt t=some i->TOk P t i) (T:HI W g st.ob w) (I:StU U st) (o:¬U key) {t:Nat}{x:SV}{r:SV×List (Nat×Ob)}{J hi:Option SV}{vx:Value}{vlo vhi:Option Value}(h:Zbf st key (tt t) J hi x=some r) (O:SVR g w x vx)
  (a:Zo1 g w J vlo) (b:Zo1 g w hi vhi) {s:Sem Next} (hs:s=(do pure (.value (<-Instr.sliceAt t vx vlo vhi none)))):Fin P W U key st g w s r:=by
 unfold Zbf at h;split at h
 .rename_i k;split at h
  rotate_left
  .simp at h
  split at h
  .rename_i e m xs d S;split at h
   .rename_i u;split at h
    .rename_i f;obtain ⟨l,R,rfl⟩:=AA.1 h;unfold mvS at f;split at f
     .have A:¬d=0:=fun e=>by subst e;simp at f
      cases vhi with
      |some _=>exact b.elim
      |none=>exact Zys G T I o S A u R O a hs
     .simp at f
    obtain ⟨q,hq,h⟩:=AB.1 h;obtain ⟨l,R,rfl⟩:=AA.1 h;obtain ⟨H,N,K,M,_⟩:=Zk7 T k;rw [S]at N;obtain ⟨L,t1,t2⟩:=Ztv N (ZI st.ob k (.row e m xs 0));have B:vx=H.val k:=by rw [K];exact ZhR O
    have C:SVR H w (.p false [.c (.sl e m xs)]) vx:=⟨_,rfl,L,B ▸ t1,t2⟩
    have D:Zo1 H w J vlo:=by
     cases J<;>cases vlo<;>simp only[Zo1]at a ⊢
     exact a.less K M
    have E:Zo1 H w hi vhi:=by
     cases hi<;>cases vhi<;>simp only[Zo1]at b ⊢
     exact b.less K M
    obtain ⟨cv,c1,c2,V⟩:=Zs9 (t:=t) (U:=U) (g:=H) (P:=P) (x:=.p false [.c (.sl e m xs)]) (v:=.p false [.c (.sl e m ((xs.take q).drop l))]) G (by simp only[ZoB,u,if_true,hq,R,Ax,Ar]) C D E;have F:U k:=Classical.byContradiction fun hn=>by have:=I.gone _ hn;rw [S]at this;simp at this
    refine ⟨H,cv,w,.inl (by rw [hs];simp only[Sem.run_bind,c1,Result.andThen_ok,Sem.run_pure]),N,c2,fun y v _ hy=>hy.less K M,V.mono fun _=>.inl,fun j=>?_,fun j hj=>?_⟩
    .show obU _ (upd st.ob k (.row e m xs 0) j)
     by_cases z:j=k
     .subst z;rw [ZI];trivial
     .rw [Z2 _ _ z];exact (I.ob j).mono fun _=>.inl
    .show upd st.ob k (.row e m xs 0) j=_
     rw [Z2 _ _ (show j≠k from fun e=>hj (.inl (e ▸ F)))];exact I.gone j fun h=>hj (.inl h)
   .simp at h
  .simp at h
 .obtain ⟨v,hv,rfl⟩:=AA.1 h;obtain ⟨cv,c1,c2,V⟩:=Zs9 (U:=U) G hv O a b;exact Zb7 T I (by rw [hs];simp only[Sem.run_bind,c1,Result.andThen_ok,Sem.run_pure]) c2 V
 .simp at h
end
end
section
open Go.RowKit Go.MapKept
theorem ZpD {A:PK}{d:TypeDesc}{k:Value}(B:Ze9 A d=true) (C:Zj7 A k):IsKey d k:=by
 cases A<;>cases d<;>simp [Ze9]at B<;>cases k<;>simp_all [Zj7,IsKey]
theorem ZwW {A:PK}{a b:Value}(C:Zj7 A a) (B:Zj7 A b):vEq a b=true↔a=b:=by
 cases A<;>cases a<;>simp [Zj7]at C<;>cases b<;>simp [Zj7]at B<;>simp_all [vEq,sEq]
theorem ZkB [NW] {B H:PK}{d:TypeDesc}{k:Value}(D:Ze9 B d=true) (A:Zj7 B k):∀(l:List MapEntry) (i:Nat),ZlO B H (l.map fun e=>(e.key,e.val))->
  (Instr.findNow d k l i=some none/\Zni (l.map fun e=>(e.key,e.val)) k=none/\∀v,Zg0 (l.map fun e=>(e.key,e.val)) k v=(l.map fun e=>(e.key,e.val))++[(k,v)])\/
  ∃j e,Instr.findNow d k l i=some (some (i+j,e.val))/\l[j]?=some e/\e.key=k/\Zni (l.map fun e=>(e.key,e.val)) k=some e.val/\Zj7 H e.val/\∀v,Zg0 (l.map fun e=>(e.key,e.val)) k v=(l.modify j fun e=>{ e with key:=k,val:=v }).map fun e=>(e.key,e.val)
 | [],i,_=>.inl ⟨rfl,rfl,fun _=>rfl⟩
 |e::l,i,h=>by
  have he:=h (e.key,e.val) yG;obtain ⟨r,C,b⟩:=sameNow_of_keys (ZpD D A) (ZpD D he.1);cases r with
  |true=>
   have c:=b.1 rfl;have I:vEq k e.key=true:=(ZwW A he.1).2 c;exact .inr ⟨0,e,by simp [Instr.findNow,C],rfl,c.symm,by simp [Zni,I],he.2,fun v=>by simp [Zg0,I]⟩
  |false=>
   have a:¬vEq k e.key=true:=fun q=>by have:=b.2 ((ZwW A he.1).1 q);cases this
   rcases ZkB D A l (i+1) (fun p m=>h p (by simp only[Ay,AC];exact .inr m)) with ⟨G,F,E⟩|⟨j,M,G,F,E,L,K,J⟩
   .exact .inl ⟨by simp [Instr.findNow,C,G],by simp [Zni,a,F],fun v=>by simp [Zg0,a,E]⟩
   .exact .inr ⟨j+1,M,by simp [Instr.findNow,C,G];omega,by simpa using F,E,by simp [Zni,a,L],K,fun v=>by simp [Zg0,a,J]⟩
section
variable {P:Program} {W:ZbW} {U:Nat->Prop} {key:Nat} {st:St} {g:Gh} {w w':World} {a:Act} {tt:Nat->Option TI}
theorem ZCX [NW] {A:PK}{v:Value}(h:Zj7 A v):AVR g w (avV v) v:=by
 cases A<;>cases v<;>simp [Zj7]at h<;>first|exact ⟨[],⟨rfl,rfl⟩,yG⟩|exact ⟨[],⟨rfl,rfl,h⟩,yG⟩
theorem ZF1 (v:Value):avU U (avV v):=by cases v<;>trivial
theorem ZsB [NW] {B:PK}{x:SV}{v k:Value}(h:ZxF B x=some k) (A:SVR g w x v):v=k/\Zj7 B k:=by
 unfold ZxF at h;split at h
 .split at h<;>simp only[A0,reduceCtorEq]at h
  rename_i e;subst e h;exact ⟨Zdl A,rfl⟩
 .simp only[A0]at h;subst h;exact ⟨(Zk4 A).1,(Zk4 A).2⟩
 .simp only[A0]at h;subst h;exact ⟨ZhT A,trivial⟩
 .simp at h
theorem ZnT (A:∀t i,tt t=some i->TOk P t i) {t:Nat}{C B:PK}(h:Zf6 C B (tt t)=true):TOk P t (.map C B):=by
 unfold Zf6 at h;split at h
 .rename_i a b c;simp only[Aa,decide_eq_true_eq]at h;rw [h.1,h.2]at c;exact A _ _ c
 .simp at h
theorem Zx2 [NW] {A:PK}{B:Value}(h:Zb3 (Zgw A) B=true):AVR g w (Zgw A) B/\avU U (Zgw A):=by
 refine ⟨Zg8 h,?_⟩;cases A<;>trivial
theorem ZtM [NW] (G:∀t i,tt t=some i->TOk P t i) {t:Nat}{F C:PK}{E:List (Value×Value)}{i v:SV}{vi:Value}{ok:Bool}{b c:Nat}{A:Array MapEntry}(hm:Zf6 F C (tt t)=true) (h:ZtV F C E i ok=some v) (hi:SVR g w i vi) (hb:w.heap[b]?=some (.map A c)) (m:ZfJ A=E) (o:ZlO F C E):
  ∃cv,(Instr.lookup t (.map (some b)) vi ok).run P w=.ok cv w/\SVR g w v cv/\svU U v:=by
 obtain ⟨N,et,dk,dv,aa,J,T,H,S,h4,h5,h6,h7,h8⟩:=ZnT G hm;unfold ZtV at h;obtain ⟨k,hk,rfl⟩:=AA.1 h;obtain ⟨rfl,d⟩:=ZsB hk hi;subst m;have hz:=Zx2 (g:=g) (w:=w) (U:=U) h8;have q:(zeroValue et).run P w=.ok J w:=ZlE h6 h7;have key:∃r:Option (Nat×Value),(Instr.findKey N vi A.toList).run P w=.ok r w/\(match r with|some p=>Zni (ZfJ A) vi=some p.2/\Zj7 C p.2|none=>Zni (ZfJ A) vi=none):=by
  rcases ZkB S d A.toList 0 o with ⟨I,V,_⟩|⟨j,e,I,V,f3,f4,f5,_⟩
  .exact ⟨none,run_findKey H I,V⟩
  .exact ⟨some _,run_findKey H I,f4,f5⟩
 obtain ⟨r,O,a⟩:=key;have f:(Instr.checkKey A.isEmpty 10000 N vi).run P w=.ok () w:=run_checkKey (P:=P) (w:=w) H (ZpD S d) A.isEmpty 9999;have R:(getObj b).run P w=.ok (.map A c) w:=by simp [getObj,Sem.run,hb]
 have l:∃D rb,(Instr.lookup t (.map (some b)) vi ok).run P w=.ok (if ok then .tuple #[D,.bool rb] else D) w/\AVR g w (ZcZ (ZfJ A) vi (Zgw C)) D/\avU U (ZcZ (ZfJ A) vi (Zgw C))/\ZgI (ZfJ A) vi=rb:=by
  cases r with
  |none=>
   simp only at a;refine ⟨J,false,?_,by simp only[ZcZ,a];exact hz.1,by simp only[ZcZ,a];exact hz.2,by simp [ZgI,a]⟩;unfold Instr.lookup;simp only[Sem.run_bind,Xk T,Result.andThen_ok,R,Sem.run_pure,f,O,q]
  |some p=>
   simp only at a;refine ⟨p.2,true,?_,by simp only[ZcZ,a.1];exact ZCX a.2,by simp only[ZcZ,a.1];exact ZF1 _,by simp [ZgI,a.1]⟩;unfold Instr.lookup;simp only[Sem.run_bind,Xk T,Result.andThen_ok,R,Sem.run_pure,f,O]
 obtain ⟨D,rb,q1,L,K,W⟩:=l;refine ⟨_,q1,?_,?_⟩
 .cases ok with
  |true=>exact ⟨[D,.bool rb],rfl,⟨_,rfl,L⟩,⟨_,rfl,[],⟨by rw [W],rfl⟩,yG⟩,trivial⟩
  |false=>exact ⟨_,rfl,L⟩
 .cases ok with
  |true=>
   intro y M;simp only[AC,List.not_mem_nil,or_false]at M;rcases M with rfl|rfl
   .intro z B;simp at B;subst B;exact K
   .intro z B;simp at B;subst B;trivial
  |false=>intro z B;simp at B;subst B;exact K
theorem ZAH [NW] (A:∀t i,tt t=some i->TOk P t i) (N:HI W g st.ob w) {t:Nat}{x i v:SV}{G vi:Value}{ok:Bool}(h:ZiS st (tt t) x i ok=some v) (B:SVR g w x G) (hi:SVR g w i vi):
  ∃cv,(Instr.lookup t G vi ok).run P w=.ok cv w/\SVR g w v cv/\svU U v:=by
 unfold ZiS at h;split at h
 .rename_i k;split at h
  .rename_i K I J M;split at h
   .rename_i C;have hv:=ZhR B;have ho:=N.obs k;rw [M]at ho;obtain ⟨b,R,c,O,_,_,F,E,D⟩:=ho;rw [hv,O];exact ZtM A C h hi F E D
   .simp at h
  .simp at h
 .rename_i K I J;split at h
  .rename_i C;obtain ⟨y,H,B⟩:=B;simp at H;subst H;obtain ⟨L,⟨b,R,c,rfl,F,E,D,_⟩,_⟩:=B;exact ZtM A C h hi F E D
  .simp at h
 .simp at h
theorem ZFF [NW] (I:∀t i,tt t=some i->TOk P t i) (B:HI W g st.ob w) (H:StU U st) (c:¬U key) {t:Nat}{r:SV×List (Nat×Ob)}(h:Zqy key (tt t)=some r) {s:Sem Next}(hs:s=(do pure (.value (<-Instr.makeMap t none)))):Fin P W U key st g w s r:=by
 unfold Zqy at h;split at h
 .rename_i G C J;simp only[A0]at h;subst h;have d:s.run P w=.ok (.value (.map (some w.heap.size))) (w.alloc (.map #[] 0)):=by
   subst hs;have M:(Instr.makeMap t none).run P w=.ok (.map (some w.heap.size)) (w.alloc (.map #[] 0)):=rfl;simp only[Sem.run_bind,M,Result.andThen_ok,Sem.run_pure]
  have A:Below w.heap.size w (w.alloc (.map #[] 0)):=(Below.refl _ _).alloc (AD _) _;have a:=heap_alloc_new w (.map #[] 0);obtain ⟨L,K⟩:=B.turn (key:=key) (U:=U) (w':=w.alloc (.map #[] 0)) (v:=.map (some w.heap.size)) (O:=[w.heap.size]) (D:=[]) (o:=.map G C []) H.ob c [] yG
   (B.below.trans A) A.size (fun b f _=>A.block b f) yG yG yG (fun b F=>by
    simp at F;subst F;exact ⟨.inl B.below.size,_,_,a⟩)
   (fun _=>⟨w.heap.size,#[],0,by simp [Gh.turn,upd],by simp [Gh.turn,upd],by simp [Gh.turn,upd],a,rfl,fun _ m=>by simp at m⟩)
  have e:=Zlk (key:=key) (o:=.map G C []) H [] trivial;exact ⟨_,_,_,.inl d,L,⟨_,rfl,⟨by simp [Gh.turn,upd],by simp [Value.oneCell']⟩⟩,K,fun y E=>by simp at E;subst E;exact Zmj,e.1,e.2⟩
 .simp at h
theorem ZA5 [NW] (G:∀t i,tt t=some i->TOk P t i) {t:Nat}{D C:PK}{A:List (Value×Value)}{k v:Value}{b c:Nat}{B:Array MapEntry}(T:Zf6 D C (tt t)=true) (E:Zj7 D k) (K:Zj7 C v) (M:w.heap[b]?=some (.map B c)) (x:ZfJ B=A) (d:ZlO D C A):
  ∃f c',(Instr.mapUpdate t (.map (some b)) k v).run P w=.ok () { w with heap:=w.heap.setIfInBounds b (.map f c') }/\ZfJ f=Zg0 A k v/\ZlO D C (Zg0 A k v):=by
 obtain ⟨R,et,dk,dv,S,zv,N,I,H,h4,h5,h6,h7,h8⟩:=ZnT G T;subst x;have g:(Instr.checkKey false 10000 R k).run P w=.ok () w:=run_checkKey (P:=P) (w:=w) I (ZpD H E) false 9999;have L:(getObj b).run P w=.ok (.map B c) w:=by simp [getObj,Sem.run,M]
 have l:∀o,(setObj b o).run P w=.ok () { w with heap:=w.heap.setIfInBounds b o }:=fun o=>by simp [setObj,Sem.run,M]
 have a:∀{A:List (Value×Value)},ZlO D C A->ZlO D C (Zg0 A k v):=fun {A}=>by
  induction A with
  |nil=>intro _ p m;simp [Zg0]at m;subst m;exact ⟨E,K⟩
  |cons q r ih=>
   intro h p m;simp only[Zg0]at m;split at m
   .rcases AC.1 m with rfl|m
    .exact ⟨E,K⟩
    .exact h p (by simp [m])
   .rcases AC.1 m with rfl|m
    .exact h p yG
    .exact ih (fun q O=>h q (by simp [O])) p m
 rcases ZkB H E B.toList 0 d with ⟨F,_,J⟩|⟨j,e,F,J,W,_,_,V⟩
 .refine ⟨B.push { key:=k,val:=v,born:=c },c+1,?_,?_,a d⟩
  .have hf:=run_findKey (P:=P) (w:=w) I F;unfold Instr.mapUpdate;simp only[Sem.run_bind,Xk N,Result.andThen_ok,L,g,hf,l]
  .rw [show Zg0 (ZfJ B) k v=_ from J v];simp [ZfJ]
 .rw [Ag]at F;have hf:=run_findKey (P:=P) (w:=w) I F;have U:B[j]?=some e:=by simpa using J
  have u:(Instr.keyThatStays k k).run P w=.ok k w:=run_keyThatStays (ZpD H E);refine ⟨B.modify j fun e=>{ e with key:=k,val:=v },c,?_,?_,a d⟩
  .unfold Instr.mapUpdate;simp only[Sem.run_bind,Xk N,Result.andThen_ok,L,g,hf,l,U,Ar,Option.getD_some,W,u]
  .rw [show Zg0 (ZfJ B) k v=_ from V v];simp [ZfJ]
theorem ZEu [NW] (K:∀t i,tt t=some i->TOk P t i) (C:HI W g st.ob w) (I:StU U st) {t:Nat}{x i v:SV}{u:List (Nat×Ob)}{M vi N:Value}(h:Zxb st (tt t) x i v=some u) (F:SVR g w x M) (hi:SVR g w i vi) (hv:SVR g w v N) {s:Sem Next}(hs:s=(do Instr.mapUpdate t M vi N;pure .skip)):Fin P W U key st g w s (.und,u):=by
 unfold Zxb at h;split at h
 .rename_i k;split at h
  .rename_i kk vk kv R;split at h
   .rename_i hm;obtain ⟨a,ha,h⟩:=AB.1 h;obtain ⟨D,o,rfl⟩:=AA.1 h;obtain ⟨rfl,p⟩:=ZsB ha hi;obtain ⟨rfl,y⟩:=ZsB o hv;have z:=ZhR F;have ho:=C.obs k;rw [R]at ho;obtain ⟨b,es,c,T,H,S,L,h5,h6⟩:=ho;obtain ⟨d,c',r1,r2,V⟩:=ZA5 (w:=w) K hm p y L h5 h6;have f:s.run P w=.ok .skip { w with heap:=w.heap.setIfInBounds b (.map d c') }:=by
     rw [hs,z,T];simp only[Sem.run_bind,r1,Result.andThen_ok,Sem.run_pure]
    obtain ⟨O,J⟩:=heap_set (o':=.map d c') L;have aa:b<w.heap.size:=(BS.1 L).1;have j:({ w with heap:=w.heap.setIfInBounds b (.map d c') }:World).heap.size=w.heap.size:=by simp
    have l:W.heap.size<=b\/W.x b:=C.oy k b (by simp [H]);have A:U k:=Classical.byContradiction fun G=>by have:=I.gone _ G;rw [R]at this;simp at this
    have B:∀D,D<w.heap.size->¬g.own D->({ w with heap:=w.heap.setIfInBounds b (.map d c') }:World).heap[D]?=w.heap[D]?:=fun D _ G=>J D fun e=>G (.inl ⟨k,by simp [H,e]⟩);refine ⟨g,undef,_,.inr ⟨f,rfl⟩,?_,rfl,fun x u F hu=>hu.move F (fun _ _=>rfl) B (Zai.refl _ _) (Nat.le_of_eq j.symm),trivial,fun q=>?_,fun q E=>?_⟩
    .refine C.step (U:=U) (fun q=>q=k) ?_ rfl (fun D _ G=>J D fun e=>G k rfl (by simp [H,e])) (fun q E=>⟨Z2 _ _ E,rfl,rfl,rfl⟩) I.ob (fun _ _=>rfl) (Zai.refl _ _) (fun q E=>?_)
     .exact ⟨C.below.os,C.below.tape,C.below.output,AK C.below.size (Nat.le_of_eq j.symm),fun q E F=>by
       show (w.heap.setIfInBounds b (.map d c'))[q]?=_
       rw [J q (fun e=>by subst e;rcases l with h|h;omega;exact F h)];exact C.below.block q E F⟩
     .subst E;refine ⟨?_,C.nodup q,fun D m=>?_,C.apart q⟩
      .simp only[Zl,ZI];exact ⟨b,d,c',T,H,S,O,r2,V⟩
      .simp [H,S]at m;subst m;refine ⟨l.imp_right .inl,?_⟩;simp only[Zl,ZI];exact ⟨_,_,O⟩
    .simp only[Zl,upd];split
     .trivial
     .exact (I.ob q).mono fun _=>.inl
    .simp only[Zl,upd];split
     .rename_i e;subst e;exact absurd (.inl A) E
     .exact I.gone q fun h=>E (.inl h)
   .simp at h
  .simp at h
 .simp at h
theorem ZwV [NW]:∀{cs:List AV}{l:List CT}{vs:List Value},Zli.zBox cs=some l->ZN (AVR g w) cs vs->∃L,RCs w l vs L/\∀b∈L,¬g.own b
 | [],l,[],h,_=>by simp [Zli.zBox]at h;subst h;exact ⟨[],⟨rfl,rfl⟩,yG⟩
 | [],_,_::_,_,h=>h.elim
 |_::_,_,[],_,h=>h.elim
 |x::r,l,v::vs,h,hr=>by
  cases x with
  |c x=>
   simp only[Zli.zBox]at h;obtain ⟨b,B,rfl⟩:=AA.1 h;obtain ⟨L,F,E⟩:=ZwV B hr.2;obtain ⟨L0,D,C⟩:=hr.1;refine ⟨L0++L,⟨v,vs,L0,L,rfl,rfl,D,F⟩,fun b A=>?_⟩;rcases A6.1 A with m|m
   .exact C b m
   .exact E b m
  |_=>simp [Zli.zBox]at h
theorem Zyd {x:SV}{r:CT×List (Nat×Ob)}(h:Zli st x=some r):(∀p∈r.2,p.2=Ob.gone/\∃t cs,st.ob p.1=.box t cs):=by
 unfold Zli at h;split at h
 .split at h
  .rename_i k _ t cs B;obtain ⟨l,_,rfl⟩:=AA.1 h;intro p A;simp at A;subst A;exact ⟨rfl,t,cs,B⟩
  .simp at h
 .simp only[A0]at h;subst h;intro p A;simp at A
 .simp at h
theorem ZBB [NW] {ob:Nat->Ob}(G:HI W g ob w) {x:SV}{r:CT×List (Nat×Ob)}{v:Value}(h:Zli st x=some r) (a:∀p∈r.2,ob p.1=st.ob p.1) (A:SVR g w x v):
  ∃B:Gh,HI W B (Zl ob r.2) w/\B.val=g.val/\QM B g/\∃L,RC w r.1 v L/\∀b∈L,¬B.own b:=by
 unfold Zli at h;split at h
 .rename_i k;split at h
  .rename_i t cs T;obtain ⟨l,S,rfl⟩:=AA.1 h;have c:ob k=.box t cs:=(a (k,.gone) yG).trans T;obtain ⟨B,R,P,E,b,vs,O,N,M,K,J⟩:=Zz2 G c;obtain ⟨L,I,H⟩:=ZwV S J;obtain ⟨b',D,rfl⟩:=A;rw [O]at D;simp at D;subst D;refine ⟨B,R,P,E,b::L,⟨b,vs,L,rfl,M,rfl,K,I⟩,fun x C=>?_⟩;rcases AC.1 C with rfl|C
   .exact N
   .exact fun A=>H x C (E.own x A)
  .simp at h
 .simp only[A0]at h;subst h;obtain ⟨y,F,A⟩:=A;simp at F;subst F;obtain ⟨L,V,U⟩:=A;exact ⟨g,G,rfl,QM.refl _,L,V,U⟩
 .simp at h
theorem Zur [NW]:∀{xs:List SV}{ob:Nat->Ob}{g:Gh}{r:List CT×List (Nat×Ob)}{vs:List Value},HI W g ob w->Zf9 st xs=some r->(r.2.map (·.1)).Nodup->(∀p∈r.2,ob p.1=st.ob p.1)->ZN (SVR g w) xs vs->
  ∃A:Gh,HI W A (Zl ob r.2) w/\A.val=g.val/\QM A g/\∃L,RCs w r.1 vs L/\∀b∈L,¬A.own b
 | [],ob,g,r,vs,hI,h,_,_,hr=>by
  simp [Zf9]at h;subst h;cases vs with
  |nil=>exact ⟨g,hI,rfl,QM.refl _,[],⟨rfl,rfl⟩,yG⟩
  |cons _ _=>exact hr.elim
 |x::xs,ob,g,r,[],hI,h,_,_,hr=>hr.elim
 |x::xs,ob,g,r,v::vs,hI,h,hn,hob,hr=>by
  simp only[Zf9]at h;obtain ⟨a,V,h⟩:=AB.1 h;obtain ⟨b,U,rfl⟩:=AA.1 h;simp only[BF,AF]at hn;obtain ⟨n1,H,G⟩:=hn;obtain ⟨A,T,F,E,L1,P,O⟩:=ZBB hI V (fun p m=>hob p (by simp [m])) hr.1;have c:∀p∈b.2,Zl ob a.2 p.1=st.ob p.1:=fun p C=>by
   have d:∀q∈a.2,q.1≠p.1:=fun q K=>G q.1 (AM.2 ⟨q,K,rfl⟩) p.1 (AM.2 ⟨p,C,rfl⟩);have:∀(u:List (Nat×Ob)) (ob:Nat->Ob),(∀q∈u,q.1≠p.1)->Zl ob u p.1=ob p.1:=by
    intro u;induction u with
    |nil=>intro ob _;rfl
    |cons q u ih=>intro ob h;rw [Zl,ih _ fun z I=>h z (by simp [I])];exact Z2 _ _ fun e=>h q yG e.symm
   rw [this _ _ d];exact hob p (by simp [C])
  have f:ZN (SVR A w) xs vs:=hr.2.mono fun x u _ B=>B.less F E;obtain ⟨g2,S,R,D,L2,N,M⟩:=Zur T U H c f;refine ⟨g2,?_,R.trans F,D.trans E,L1++L2,⟨v,vs,L1,L2,rfl,rfl,P,N⟩,fun x J=>?_⟩
  .rw [YL];exact S
  .rcases A6.1 J with m|m
   .exact fun B=>O x m (D.own x B)
   .exact M x m
theorem Zn3 [NW]:∀{xs:List SV}{r:List CT×List (Nat×Ob)},Zf9 st xs=some r->∀p∈r.2,p.2=Ob.gone/\∃t cs,st.ob p.1=.box t cs
 | [],r,h=>by simp [Zf9]at h;subst h;intro p m;simp at m
 |x::xs,r,h=>by
  simp only[Zf9]at h;obtain ⟨a,B,h⟩:=AB.1 h;obtain ⟨b,A,rfl⟩:=AA.1 h;intro p m;rcases A6.1 m with m|m
  .exact Zyd B p m
  .exact Zn3 A p m
theorem ZDX [NW] (K:HI W g st.ob w) (B:StU U st) {f:FuncId}{xs:List SV}{vs:List Value}{r:List CT×List (Nat×Ob)}(h:Zf9 st xs=some r) (J:(r.2.map (·.1)).Nodup) (I:ZN (SVR g w) xs vs) {s:Sem Next}(hs:s.run P w=.ok (.value (.func (.func f) #[] vs.toArray)) w):Fin P W U key st g w s (.p false [.c (.fn f r.1)],r.2):=by
 obtain ⟨M,G,F,E,L,D,C⟩:=Zur K h J (fun _ _=>rfl) I;have hg:=Zn3 h;have a:∀(u:List (Nat×Ob)) (ob:Nat->Ob) (k:Nat),(∀p∈u,p.2=Ob.gone)->Zl ob u k=ob k\/Zl ob u k=.gone:=by
  intro u;induction u with
  |nil=>intro ob k _;exact .inl rfl
  |cons q u ih=>
   intro ob k h;rw [Zl];rcases ih (upd ob q.1 q.2) k (fun p m=>h p (by simp [m])) with e|e
   .rw [e];by_cases A:k=q.1
    .right;rw [A,ZI];exact h q yG
    .left;exact Z2 _ _ A
   .exact .inr e
 refine ⟨M,_,w,.inl hs,G,⟨_,rfl,L,⟨vs,rfl,D⟩,C⟩,fun x u _ H=>H.less F E,QN _,fun k=>?_,fun k A=>?_⟩
 .rcases a r.2 st.ob k (fun p m=>(hg p m).1) with e|e
  .rw [e];exact (B.ob k).mono fun _=>.inl
  .rw [e];trivial
 .rcases a r.2 st.ob k (fun p m=>(hg p m).1) with e|e
  .rw [e];exact B.gone k fun h=>A (.inl h)
  .exact e
end
end
section
open Go.RowKit
section
variable {P:Program} {W:ZbW} {U:Nat->Prop} {key:Nat} {st:St} {g:Gh} {w w':World} {a:Act} {tt:Nat->Option TI}
theorem Zhd:∀(ts:List TypeId) (xs:List Operand),(ZlK ts xs).map (·.2)=xs
 |_,[]=>by cases ‹List TypeId›<;>rfl
 | [],x::xs=>by simp [ZlK,Zhd [] xs]
 |t::ts,x::xs=>by simp [ZlK,Zhd ts xs]
theorem Zyl [NW] (A:∀t i,tt t=some i->TOk P t i) {t:Nat}{z:List AV}(h:ZnW (tt t)=some z):∃zv vs,(zeroValue t).run P w=.ok zv w/\zv.cells=(vs:List Value).toArray/\ZN (AVR g w) z vs/\QK U z:=by
 unfold ZnW at h;split at h<;>simp only[A0,reduceCtorEq]at h<;>subst h<;>rename_i a
 .obtain ⟨d,zv,i,F,E,B,D,I,H⟩:=A t _ a;have G:AVR g w _ zv:=Zg8 H;exact ⟨zv,[zv],ZlE B D,by rw [ZqB G.one],⟨G,trivial⟩,fun y m=>by
   simp at m;subst m;cases y<;>first|trivial|simp [Zb3]at H⟩
 .obtain ⟨C,i,zvs,F,E,B,D,I,_⟩:=A t _ a;obtain ⟨K,J⟩:=ZkV (g:=g) (w:=w) (U:=U) I;exact ⟨.agg zvs,zvs.toList,ZlE E D,by simp [Value.cells],K,J⟩
 .obtain ⟨_,L,_,_,j,F,E,B⟩:=A t _ a;exact ⟨_,[.slice none 0 0],ZlE F B,rfl,⟨rfl,trivial⟩,fun y m=>by simp at m;subst m;trivial⟩
theorem Zrc [NW] (aa:∀t i,tt t=some i->TOk P t i) (o:Oper) {r:SV×List (Nat×Ob)}(V:opE tt key o st=some r) (hI:HI W g st.ob w) (hS:∀t,SVR g w (st.sl t) (a.tmps.getD t undef)) (hU:StU U st) (A:¬U key):
  Fin P W U key st g w (execOp a.eval o) r:=by
 have ev:=fun t x=>ZmW (P:=P) (a:=a) (g:=g) (w:=w) (U:=U) aa hS hU t x;have j:∀{v:Option SV} {s:Sem Value},Zct v=some r->execOp a.eval o=(do pure (.value (<-s)))->(∀u,v=some u->∃cv,s.run P w=.ok cv w/\SVR g w u cv/\svU U u)->Fin P W U key st g w (execOp a.eval o) r:=fun {v s} hp he hv=>by
  obtain ⟨u,hu,rfl⟩:=AA.1 hp;obtain ⟨cv,c1,c2,c3⟩:=hv u hu;exact Zb7 hI hU (by rw [he];simp only[Sem.run_bind,c1,Result.andThen_ok,Sem.run_pure]) c2 c3
 obtain ⟨ad,op,ty,ab,af,gd⟩:=o;cases op with
 |move x=>
  simp only[opE,A0]at V;subst V;exact Zb7 hI hU rfl (ev ty x).1 (ev ty x).2
 |assign x=>
  simp only[opE,A0]at V;subst V;exact Zb7 hI hU rfl (ev ty x).1 (ev ty x).2
 |pick c x y=>
  simp only[opE]at V;split at V
  .rename_i b hb;simp only[A0]at V;subst V;have hc:=(ev 0 c).1;rw [hb]at hc;obtain ⟨cv,c1,c2,c3⟩:=ZBx (P:=P) hc (ev ty x) (ev ty y);exact Zb7 hI hU c1 c2 c3
  .simp at V
 |alloc t=>
  simp only[opE]at V;obtain ⟨z,hz,rfl⟩:=AA.1 V;obtain ⟨zv,vs,h1,h2,h3,h4⟩:=Zyl (P:=P) (g:=g) (w:=w) (U:=U) aa hz;exact ZAx hI hU A h3 h4 (by simp [execOp,Instr.alloc,h1,newVar,newRow,h2])
 |box t x=>
  simp only[opE]at V;split at V
  .rename_i ag cs hx;simp only[A0]at V;subst V;have hv:=ev t x;rw [hx]at hv;obtain ⟨vs,h2,h3⟩:=PVR.cells hv.1;exact ZAx hI hU A h3 hv.2 (by simp [execOp,Instr.box,newVar,newRow,h2])
  .simp at V
 |build t G=>
  simp only[opE]at V;split at V
  .rename_i fs n z B;obtain ⟨cs,N,rfl⟩:=AA.1 V;obtain ⟨cv,c1,c2,c3⟩:=ZAd (P:=P) aa hS hU B N;exact Zb7 hI hU (by simp only[execOp,Sem.run_bind,c1,Result.andThen_ok,Sem.run_pure]) c2 c3
  .simp at V
 |buildSlice t len G=>
  simp only[opE]at V;split at V
  .rename_i e m E z B;obtain ⟨⟨xs,ks,d⟩,h1,V⟩:=AB.1 V;split at V
   .rename_i hc;simp only[A0]at V;subst V;exact ZD2 aa hI hS hU A B h1 hc.1 hc.2.1 hc.2.2.1 rfl
   .simp at V
  .simp at V
 |load t x=>exact j V rfl fun u hu=>Zwy aa hI hU hu (ev 0 x).1
 |store t x v=>
  simp only[opE]at V;obtain ⟨u,hu,rfl⟩:=AA.1 V;have hx:=ev 0 x;have hv:=ev t v;unfold Zhh at hu;split at hu
  .rename_i k off ag vs C p;rw [C]at hx;rw [p]at hv;split at hu
   .rename_i tb cs hk;split at hu
    .rename_i hc;simp only[A0]at hu;subst hu;exact ZAf aa hI hU hk hc.1 hc.2.2 hx.1 hv.1 hv.2 hc.2.1 rfl
    .simp at hu
   .simp at hu
  .rename_i k m i off ag vs C p;rw [C]at hx;rw [p]at hv;split at hu
   .rename_i e m' xs d hk;obtain ⟨y,hy,hu⟩:=AB.1 hu;cases hys:Zhp vs with
    |some ys=>
     rw [hys]at hu;simp only[ZnU]at hu;split at hu
     .rename_i hc;simp only[A0]at hu;subst hu;obtain ⟨rfl,H,I,J,O⟩:=hc;exact Zzo aa hI hU hk yE hy hys H J hx.1 hv.1 I rfl
     .simp at hu
    |none=>
     rw [hys]at hu;simp only[ZnU]at hu;obtain ⟨⟨zs,ks,dv⟩,Q,hu⟩:=AB.1 hu;split at hu
     .rename_i hc;simp only[A0]at hu;subst hu;obtain ⟨rfl,H,I,J,O,R⟩:=hc;exact ZxY aa hI hU hk yE hy Q R H J hv.2 hx.1 hv.1 I rfl
     .simp at hu
   .simp at hu
  .simp at hu
 |nilCheck x=>
  simp only[opE]at V;have hx:=ev 0 x;split at V<;>simp only[A0,reduceCtorEq]at V<;>subst V<;>rename_i he<;>rw [he]at hx
  .obtain ⟨b,_,hv⟩:=hx.1;exact Zb7 hI hU (cv:=a.eval x) (by simp [execOp,hv]) hx.1 hx.2
  .obtain ⟨b,_,_,_,hv⟩:=hx.1;exact Zb7 hI hU (cv:=a.eval x) (by simp [execOp,hv]) hx.1 hx.2
  .obtain ⟨b,_,_,_,hv,_⟩:=hx.1;exact Zb7 hI hU (cv:=a.eval x) (by simp [execOp,hv]) hx.1 hx.2
  .obtain ⟨b,_,_,hv,_⟩:=Zwi hx.1;exact Zb7 hI hU (cv:=a.eval x) (by simp [execOp,hv]) hx.1 hx.2
 |binOp op t x y t'=>exact j V rfl fun u hu=>ZAP aa hu (ev t x).1 (ev t y).1
 |unOp op t x=>exact j V rfl fun u hu=>ZGL hu (ev 0 x).1
 |convert s t x=>exact j V rfl fun u hu=>ZAz aa hI hu (ev 0 x).1
 |makeSlice t n c=>
  simp only[opE]at V;have hn:=(ev 0 n).1;have hc:=(ev 0 c).1;unfold Zte at V;split at V
  .rename_i n' c' C p;rw [C]at hn;rw [p]at hc;split at V
   .rename_i e m E z B;obtain ⟨ze,hz,V⟩:=AB.1 V;split at V
    .rename_i hq;simp only[A0]at V;subst V;obtain ⟨h0,rfl,h1⟩:=hq;have e1:=Zdl hn;have e2:=Zdl hc;obtain ⟨ac,rfl⟩:=Int.eq_ofNat_of_zero_le h0;simp only[Int.toNat_natCast];exact ZBu aa hI hU A B hz yE (by simp only[execOp,e1,e2])
    .simp at V
   .simp at V
  .simp at V
 |slice t x lo hi mx=>
  cases mx with
  |some _=>simp [opE]at V
  |none=>
   refine Zw6 (vlo:=lo.map a.eval) (vhi:=hi.map a.eval) aa hI hU A V (ev 0 x).1 ?_ ?_ rfl
   .cases lo with
    |none=>trivial
    |some y=>exact (ev 0 y).1
   .cases hi with
    |none=>trivial
    |some y=>exact (ev 0 y).1
 |fieldAddr t x f=>
  simp only[opE]at V;split at V
  .rename_i fs n z B;refine j V rfl fun u hu=>?_;obtain ⟨fi,hf,hu⟩:=AB.1 hu;exact ZFm aa B hf hu (ev 0 x).1 (ev 0 x).2
  .simp at V
 |field t x f=>
  simp only[opE]at V;split at V
  .rename_i fs n z B;exact j V rfl fun u hu=>ZEv aa B hu (ev 0 x).1 (ev 0 x).2
  .simp at V
 |indexAddr t x i=>
  simp only[opE]at V;split at V
  .rename_i e m E z B;exact j V rfl fun u hu=>ZC8 aa hI hU B hu (ev 0 x).1 (ev 0 x).2 (ev 0 i).1
  .simp at V
 |index t x i=>exact j V rfl fun u hu=>ZBd aa hu (ev 0 x).1 (ev 0 i).1
 |makeFunc fn first D=>
  cases fn with
  |func f=>
   simp only[opE]at V;split at V
   .rename_i h0;obtain ⟨q,hq,V⟩:=AB.1 V;split at V
    .rename_i hn;simp only[A0]at V;subst V;have hf:first=#[]:=by simpa using h0
     have L:ZN (SVR g w) (D.toList.map (st.ev tt 0)) (D.toList.map a.eval):=ZN.of_map _ _ fun x _=>(ev 0 x).1;refine ZDX hI hU hq hn L ?_;have e1:(D.toList.map a.eval).toArray=D.map a.eval:=by apply Az;simp
     rw [e1];simp [execOp,Instr.makeFunc,hf]
    .simp at V
   .simp at V
  |_=>simp [opE]at V
 |makeMap t S=>
  cases S with
  |none=>
   simp only[opE]at V;exact ZFF aa hI hU A V rfl
  |some _=>simp [opE]at V
 |lookup t x i ok=>exact j V rfl fun u hu=>ZAH aa hI hu (ev 0 x).1 (ev 0 i).1
 |mapUpdate t x i v=>
  simp only[opE]at V;obtain ⟨u,hu,rfl⟩:=AA.1 V;exact ZEu aa hI hU hu (ev 0 x).1 (ev 0 i).1 (ev 0 v).1 rfl
 |extract x i=>exact j V rfl fun u hu=>ZCz hu (ev 0 x).1 (ev 0 x).2
 |call c=>
  obtain ⟨F,args,ts⟩:=c;cases F with
  |builtin b=>
   simp only[opE]at V;have M:∀l:List TypeId,ts.toList=l->ts=l.toArray:=fun l h=>by rw [<-h]
   have T:∀v,evs tt st ts.toList args.toList=[v]->∃x,args=#[x]/\SVR g w v (a.eval x)/\svU U v:=fun v h=>by
    obtain ⟨args⟩:=args;generalize ts.toList=l at h
    cases args with
    |nil=>cases l<;>simp [evs,ZlK]at h
    |cons x xs=>
     cases xs with
     |nil=>
      refine ⟨x,rfl,?_⟩;cases l with
      |nil=>simp only[evs,ZlK,Ay,BT,Aj,and_true]at h;rw [<-h];exact ev _ _
      |cons t l=>cases l<;>(simp only[evs,ZlK,Ay,BT,Aj,and_true]at h;rw [<-h];exact ev _ _)
     |cons y ys=>cases l with
      |nil=>simp [evs,ZlK]at h
      |cons t l=>cases l<;>simp [evs,ZlK]at h
   have K:∀v u,evs tt st ts.toList args.toList=[v,u]->∃x y,args=#[x,y]/\(SVR g w v (a.eval x)/\svU U v)/\SVR g w u (a.eval y)/\svU U u:=fun v u h=>by
    obtain ⟨args⟩:=args;have h2:=congrArg List.length h;have h3:(evs tt st ts.toList args).length=args.length:=by
     have:=congrArg List.length (Zhd ts.toList args);simpa [evs]using this
    have h4:args.length=2:=by rw [<-h3];exact h2
    obtain ⟨x,y,rfl⟩:∃x y,args=[x,y]:=by
     match args,h4 with
     | [x,y],_=>exact ⟨x,y,rfl⟩
    refine ⟨x,y,rfl,?_⟩;have h5:∃t1 t2,evs tt st ts.toList [x,y]=[st.ev tt t1 x,st.ev tt t2 y]:=by
     generalize ts.toList=l
     cases l with
     |nil=>exact ⟨0,0,rfl⟩
     |cons t1 l=>cases l with
      |nil=>exact ⟨t1,0,rfl⟩
      |cons t2 l=>exact ⟨t1,t2,by cases l<;>rfl⟩
    obtain ⟨t1,t2,h5⟩:=h5;rw [h5]at h;simp only[Aj,and_true]at h;rw [<-h.1,<-h.2];exact ⟨ev _ _,ev _ _⟩
   unfold Zhv at V;split at V
   .rename_i t _ v C p;have e1:=M _ C;obtain ⟨x,rfl,hx,_⟩:=T _ p;exact j (s:=Builtin.len_ ts ty #[a.eval x]) V (by simp [execOp,resolve,invoke,builtin]) fun u hu=>ZEh aa hI (by simp [e1]) hu hx
   .rename_i t u v1 v2 C p;have e1:=M _ C;obtain ⟨x,y,rfl,hx,hy⟩:=K _ _ p;split at V
    .rename_i he;subst he;exact ZD8 aa hI hU A V hx hy (ty:=ty) (by simp [execOp,resolve,invoke,builtin,e1])
    .simp at V
   .rename_i v1 v2 p;obtain ⟨x,y,rfl,hx,hy⟩:=K _ _ p;refine j (s:=Builtin.max_ ts ty #[a.eval x,a.eval y]) V (by simp [execOp,resolve,invoke,builtin]) fun u hu=>?_;have:=ZyM (P:=P) (U:=U) (ts:=ts) (ty:=ty) hu hx.1 hy.1;simpa using this
   .rename_i v1 v2 p;obtain ⟨x,y,rfl,hx,hy⟩:=K _ _ p;refine j (s:=Builtin.min_ ts ty #[a.eval x,a.eval y]) V (by simp [execOp,resolve,invoke,builtin]) fun u hu=>?_;have:=ZyM (P:=P) (U:=U) (ts:=ts) (ty:=ty) hu hx.1 hy.1;simpa using this
   .simp at V
  |value f=>simp [opE]at V
  |invoke r m=>simp [opE]at V
 |_=>simp [opE]at V
end
end
section
open Go.RowKit
theorem Zfk {α β:Type}{f h:α->List β}:∀{l:List α},(∀x∈l,f x=h x)->l.flatMap f=l.flatMap h
 | [],_=>rfl
 |x::l,hh=>by rw [AO,AO,hh x yG,Zfk fun y m=>hh y (by simp [m])]
def Zj4 (w:World) (z:Nat->Prop) (x:Bool×List CT) (v:Value):Prop:=
 (x.1=true/\∃(vs:List Value) (L:List Nat),v=.agg vs.toArray/\RCs w x.2 vs L/\∀b∈L,¬z b)\/(x.1=false/\∃(ct:CT) (L:List Nat),x.2=[ct]/\RC w ct v L/\∀b∈L,¬z b)
def OC (w:World) (B:Nat) (n:Nat->Prop):Bool×CT->Value->List Nat->Prop
 |(false,.sl e m xs),v,F=>0<m/\∃cs L,w.ownsV B e m v xs.length cs/\REs w m xs cs L/\F=v.ownBlock.toList++L/\∀b∈v.ownBlock.toList,n b
 |(false,.int k i),v,F=>RC w (.int k i) v []/\F=[]
 |(false,.bool b),v,F=>RC w (.bool b) v []/\F=[]
 |(false,.str s),v,F=>RC w (.str s) v []/\F=[]
 |(false,.ifc b),v,F=>RC w (.ifc b) v []/\F=[]
 |(false,.any),v,F=>RC w .any v []/\F=[]
 |(false,.pt _),_,_=>False
 |(false,.fn _ _),_,_=>False
 |(false,.mp _ _ _),_,_=>False
 |(false,.nl _ _),_,_=>False
 |(true,x),v,F=>F=[]/\∃L,RC w x v L/\∀b∈L,¬n b
def OCs (w:World) (B:Nat) (n:Nat->Prop):List (Bool×CT)->List Value->List Nat->Prop
 | [],vs,F=>vs=[]/\F=[]
 |x::r,vs,F=>∃v vs' F1 F2,vs=v::vs'/\F=F1++F2/\OC w B n x v F1/\OCs w B n r vs' F2
def OP (w:World) (B:Nat) (n:Nat->Prop) (x:RT) (v:Value) (F:List Nat):Prop:=
 (x.1=true/\∃vs:List Value,v=.agg vs.toArray/\OCs w B n x.2 vs F)\/(x.1=false/\∃ct,x.2=[ct]/\OC w B n ct v F)
def OPs (w:World) (B:Nat) (n:Nat->Prop):List RT->List Value->List Nat->Prop
 | [],vs,F=>vs=[]/\F=[]
 |x::r,vs,F=>∃v vs' F1 F2,vs=v::vs'/\F=F1++F2/\OP w B n x v F1/\OPs w B n r vs' F2
def ZlC (w:World) (B:Nat) (n:Nat->Prop) (res:List RT) (v:Value):Prop:=
 ∃(vs:List Value) (F:List Nat),OPs w B n res vs F/\Own w B F/\v=(if h:vs.toArray.size=1 then vs.toArray[0] else .tuple vs.toArray)
def Zbe (P : Program) (f : FuncId) : Prop := ∃ fn, P.funcs[f]? = some fn ∧ (fn.name == "runtime.NumGoroutine") = false ∧ fn.body.isNone = false
def Zp (P:Program) (J:World->Prop) (f:FuncId) (args:List (Bool×List CT)) (res:List RT):Prop:=
 Zbe P f/\∀(w:World) (z:Nat->Prop) (vs:List Value),J w->(∀b,z b->b<w.heap.size)->ZN (Zj4 w z) args vs->Calls P f vs.toArray w fun e w'=>∃v n,e=.returned v/\ZlC w' w.heap.size n res v/\(∀b,z b->n b)/\Below w.heap.size w w'
def ZwB (w:World) (z:Nat->Prop) (q:Option Nat):Zpy->Value->Prop
 |.row e m xs,v=>Zco xs=true/\0<m/\v.ownBlock=q/\∃cs,w.ownsV 0 e m v xs.length cs/\REs w m xs cs []
 |.box t cs,v=>∃b vs L,q=some b/\v=.pointer (some ⟨b,0,none⟩)/\w.heap[b]?=some (.cells (vs:List Value).toArray t (0,0))/\RCs w cs vs L/\∀a∈L,¬z a
def inQ (z:Nat->Prop) (q:Option Nat) (a:Nat):Prop:=z a\/q=some a
structure ZGC (q:Option Nat) (w w':World):Prop where
 os:w'.os=w.os
 tape:w'.tape=w.tape
 output:w'.output=w.output
 size:w.heap.size<=w'.heap.size
 block:∀k,k<w.heap.size->¬q=some k->w'.heap[k]?=w.heap[k]?
def Zse (P:Program) (J:World->Prop) (JF:Nat->Prop) (f:FuncId) (h:Zpy) (args:List (Bool×List CT)) (res:List RT) (h':Zpy):Prop:=
 Zbe P f/\∀(w:World) (z:Nat->Prop) (q:Option Nat) (a:Value) (vs:List Value),J w->(∀b,q=some b->JF b)->(∀b,z b->b<w.heap.size/\¬q=some b)->ZwB w (inQ z q) q h a->ZN (Zj4 w (inQ z q)) args vs-> Calls P f (a::vs).toArray w fun e w'=>∃v n,e=.returned v/\ZlC w' w.heap.size n res v/\(∀b,inQ z q b->n b)/\ZwB w' n q h' a/\ZGC q w w'
def Zzf (b:Nat):NB->Value
 |.box _ _=>.pointer (some ⟨b,0,none⟩)
 |.map _ _ _=>.map (some b)
def nbR (w:World) (n:Nat->Prop) (b:Nat):NB->Prop
 |.box t cs=>∃us L,w.heap[b]?=some (.cells (us:List Value).toArray t (0,0))/\RCs w cs us L/\∀x∈L,¬n x
 |.map kk vk kv=>∃es c,w.heap[b]?=some (.map es c)/\ZfJ es=kv/\ZlO kk vk kv
def ZDk (P:Program) (J:World->Prop) (f:FuncId) (args:List (Bool×List CT)) (nb:NB):Prop:=
 Zbe P f/\∀(w:World) (z:Nat->Prop) (vs:List Value),J w->(∀b,z b->b<w.heap.size)->ZN (Zj4 w z) args vs-> Calls P f vs.toArray w fun e w'=>∃(b:Nat) (n:Nat->Prop),e=.returned (Zzf b nb)/\w.heap.size<=b/\nbR w' n b nb/\n b/\(∀x,z x->n x)/\Below w.heap.size w w'
structure ZwH (w:World) (n:Nat->Prop) (t:Nat) (cs:List (Bool×CT)) (v:Value) (b:Nat) (us us2:List Value) (F:List Nat):Prop where
 val:v=.pointer (some ⟨b,0,none⟩)
 cell:w.heap[b]?=some (.cells us.toArray t (0,0))
 ocs:OCs w 0 n cs (us++us2) F
 own:Own w 0 (b::F)
def GVr:Option (Bool×List (Bool×CT))->List Value->List Value->Prop
 |none,vs,us=>vs=[]/\us=[]
 |some (true,cs),vs,us=>vs=[.agg us.toArray]/\us.length=cs.length
 |some (false,cs),vs,us=>vs=us/\us.length=1/\cs.length=1
structure ZBG (q:Nat->Prop) (w w':World):Prop where
 os:w'.os=w.os
 tape:w'.tape=w.tape
 output:w'.output=w.output
 size:w.heap.size<=w'.heap.size
 block:∀k,k<w.heap.size->¬q k->w'.heap[k]?=w.heap[k]?
def ZhN (P:Program) (J:World->Prop) (JF:Nat->Prop) (f:FuncId) (t:Nat) (cs:List (Bool×CT)) (gv:Option (Bool×List (Bool×CT))) (args:List (Bool×List CT)) (res:List RT) (cs':List (Bool×CT)):Prop:=
 Zbe P f/\∀(w:World) (z q:Nat->Prop) (a:Value) (gs vs:List Value) (b:Nat) (us c:List Value) (F:List Nat),J w->q b->(∀x,q x->JF x/\x∈b::F)->(∀x,z x->x<w.heap.size/\¬q x/\x∉b::F)-> us.length=cs.length->GVr gv gs c->ZwH w (fun x=>z x\/q x) t (cs++gvC gv) a b us c F->ZN (Zj4 w fun x=>z x\/q x) args vs-> Calls P f (a::(gs++vs)).toArray w fun e w'=>∃v n us' F',e=.returned v/\ZlC w' w.heap.size n res v/\(∀x,z x->n x)/\n b/\(∀x,n x->z x\/q x\/w.heap.size<=x)/\ZwH w' n t cs' a b us' [] F'/\(∀x∈F',x∈F\/w.heap.size<=x)/\ZBG q w w'
def ZsC (P:Program) (J:World->Prop) (JF:Nat->Prop) (f:FuncId) (gv:Bool×List (Bool×CT)) (args:List (Bool×List CT)) (res:List RT):Prop:=
 Zbe P f/\∀(w:World) (z q:Nat->Prop) (gs vs us:List Value) (F:List Nat),J w->(∀x,q x->JF x/\x∈F)->(∀x,z x->x<w.heap.size/\¬q x/\x∉F)-> GVr (some gv) gs us->OCs w 0 (fun x=>z x\/q x) gv.2 us F->Own w 0 F->ZN (Zj4 w fun x=>z x\/q x) args vs-> Calls P f (gs++vs).toArray w fun e w'=>∃v n rvs F',e=.returned v/\OPs w' 0 n res rvs F'/\Own w' 0 F'/\v=(if h:rvs.toArray.size=1 then rvs.toArray[0] else .tuple rvs.toArray)/\(∀x,z x->n x)/\(∀x,n x->z x\/q x\/w.heap.size<=x)/\(∀x∈F',x∈F\/w.heap.size<=x)/\ZBG q w w'
def SC (P:Program) (J:World->Prop) (JF:Nat->Prop) (hd:FuncId->Nat):Ctx:=⟨Zp P J,Zse P J JF,hd,ZDk P J,ZhN P J JF,ZsC P J JF⟩
structure MOk (P:Program) (J:World->Prop) (JF:Nat->Prop) (W:ZbW) (tt:Nat->Option TI):Prop where
 tt:∀t i,tt t=some i->TOk P t i
 jb:∀w:World,Bel W w->J w
 jf:∀b,W.heap.size<=b->JF b
 xf:∀b,W.x b->JF b
section
variable {P:Program} {J:World->Prop} {W:ZbW} {U:Nat->Prop} {key:Nat} {st:St} {g:Gh} {w w':World} {a:Act} {tt:Nat->Option TI}
theorem MOk.at {JF:Nat->Prop}(h:MOk P J JF W tt) (A:Bel W w):J w:=h.jb _ A
def Zze (ob:Nat->Ob):AV->Prop
 |.row k=>∃e m xs,ob k=.row e m xs 0
 |_=>True
theorem Ztb [NW] (hI:HI W g st.ob w) {x:AV}{I:CT}{v:Value}(h:Zdr st x=some I) (B:AVR g w x v):∃L,RC w I v L/\(Zze st.ob x->∀b∈L,¬g.own b):=by
 cases x with
 |c y=>simp only[Zdr,A0]at h;subst h;obtain ⟨L,F,E⟩:=B;exact ⟨L,F,fun _=>E⟩
 |row k=>
  simp only[Zdr]at h;split at h
  .rename_i e m xs d H;simp only[A0]at h;subst h;obtain ⟨D,cs,L1,U,T,S,R⟩:=hI.deep H;obtain ⟨A,cap,L0,P,O,N,M,K⟩:=Sl.row U;refine ⟨L0++L1,⟨A,cap,cs,L0,L1,by rw [B.1,P],O,N,rfl,D,M,T⟩,?_⟩;rintro ⟨e',m',J,G⟩ b V;rw [H]at G;have hd:d=0:=by simp at G;exact G.2.2.2
   rcases A6.1 V with C|C
   .rcases R with ⟨q,_⟩|⟨q,_⟩|⟨_,_,_,q⟩
    .omega
    .omega
    .exact q b (K.subset C)
   .exact S b C
  .simp at h
 |nil e m=>
  simp only[Zdr]at h;split at h
  .rename_i D;simp only[A0]at h;subst h;exact ⟨[],⟨none,0,[],[],[],B,yG,AI _,rfl,D,Sl.zero,rfl,rfl⟩,yG⟩
  .simp at h
 |n y=>simp only[Zdr,A0]at h;subst h;obtain ⟨L,F,E⟩:=NR.toC B;exact ⟨L,F,fun _=>E⟩
 |dead=>simp [Zdr]at h
theorem Zmk [NW] (B:HI W g st.ob w):∀{xs:List AV}{cts:List CT}{vs:List Value},XF st xs=some cts->ZN (AVR g w) xs vs->∃L,RCs w cts vs L/\((∀x∈xs,Zze st.ob x)->∀b∈L,¬g.own b)
 | [],_,[],h,_=>by simp [XF]at h;subst h;exact ⟨[],⟨rfl,rfl⟩,yG⟩
 | [],_,_::_,_,h=>h.elim
 |_::_,_,[],_,h=>h.elim
 |x::r,cts,v::vs,h,hr=>by
  simp only[XF]at h;obtain ⟨K,F,h⟩:=AB.1 h;obtain ⟨c2,E,rfl⟩:=AA.1 h;obtain ⟨L1,J,H⟩:=Ztb B F hr.1;obtain ⟨L2,I,G⟩:=Zmk B E hr.2;refine ⟨L1++L2,⟨v,vs,L1,L2,rfl,rfl,J,I⟩,fun A b D=>?_⟩;rcases A6.1 D with m|m
  .exact H (A x yG) b m
  .exact G (fun y C=>A y (by simp [C])) b m
def Zxx (ob:Nat->Ob):SV->Prop
 |.p _ cs=>∀x∈cs,Zze ob x
 |_=>True
theorem ZAv [NW] (G:HI W g st.ob w) {x:SV}{r:Bool×List CT}{v:Value}(h:ZeG st x=some r) (F:SVR g w x v) {z:Nat->Prop}(C:(∀b,¬z b)\/(Zxx st.ob x/\∀b,z b->g.own b)):Zj4 w z r v:=by
 cases x with
 |p ag cs=>
  simp only[ZeG]at h;obtain ⟨l,A,rfl⟩:=AA.1 h;have H:∀{L:List Nat},((∀x∈cs,Zze st.ob x)->∀b∈L,¬g.own b)->∀b∈L,¬z b:=fun D b I=>by
   rcases C with C|⟨E,B⟩
   .exact C b
   .exact fun K=>D E b I (B b K)
  cases ag with
  |true=>
   obtain ⟨vs,rfl,B⟩:=F;obtain ⟨L,D,a⟩:=Zmk G A B;exact .inl ⟨rfl,vs,L,rfl,D,H a⟩
  |false=>
   obtain ⟨y,rfl,B⟩:=F;simp only[XF]at A;obtain ⟨M,E,A⟩:=AB.1 A;simp at A;subst A;obtain ⟨L1,O,N⟩:=Ztb G E B;exact .inr ⟨rfl,M,L1,rfl,O,H fun J=>N (J y yG)⟩
 |_=>simp [ZeG]at h
theorem ZcB [NW] (A:HI W g st.ob w) {z:Nat->Prop}:∀{xs:List SV}{l:List (Bool×List CT)}{vs:List Value},Z8 st xs=some l->ZN (SVR g w) xs vs->((∀b,¬z b)\/((∀x∈xs,Zxx st.ob x)/\∀b,z b->g.own b))->ZN (Zj4 w z) l vs
 | [],_,[],h,_,_=>by simp [Z8]at h;subst h;trivial
 | [],_,_::_,_,h,_=>h.elim
 |_::_,_,[],_,h,_=>h.elim
 |x::r,l,v::vs,h,hr,hz=>by
  simp only[Z8]at h;obtain ⟨E,D,h⟩:=AB.1 h;obtain ⟨c2,C,rfl⟩:=AA.1 h;exact ⟨ZAv A D hr.1 (hz.imp id fun q=>⟨q.1 x yG,q.2⟩),ZcB A C hr.2 (hz.imp id fun q=>⟨fun y B=>q.1 y (by simp [B]),q.2⟩)⟩
theorem ZAF {vs:List SV}{ob:Nat->Ob}(h:vs.all Zj2=true):∀x∈vs,Zxx ob x:=fun x B=>by
 have hx:=AR.1 h x B;cases x with
 |p ag cs=>
  intro y A;have hy:=AR.1 hx y A;cases y with
  |row k=>simp [Zd0]at hy
  |_=>trivial
 |_=>trivial
def CR (val:Nat->Value) (w:World) (n:Nat->Prop) (l:Bool) (lo hi:Nat):AV->Value->Prop
 |.row k,v=>lo<=k/\k<hi/\v=val k/\v.oneCell'=true
 |.c x,v=>∃L,RC w x v L/\∀b∈L,l=true/\¬n b
 |_,_=>False
structure ZsL (w:World) (B lo hi:Nat) (n:Nat->Prop) (up:List (Nat×Ob)) (F:List Nat) (val:Nat->Value) (O D:Nat->List Nat):Prop where
 le:lo<=hi
 at_:∀k,lo<=k->k<hi->∃e m xs cs,(∀ob,Zl ob up k=.row e m xs 2)/\0<m/\w.ownsV B e m (val k) xs.length cs/\REs w m xs cs (D k)/\O k=(val k).ownBlock.toList/\∀b∈O k,n b
 out:∀k,¬(lo<=k/\k<hi)->∀ob,Zl ob up k=ob k
 foot:F=(AP lo (hi - lo)).flatMap fun k=>O k++D k
theorem ZsL.join [NW] {B C c hi:Nat}{n:Nat->Prop}{K J:List (Nat×Ob)}{F1 F2:List Nat}{I H:Nat->Value}{O1 O2 D1 D2:Nat->List Nat}(E:ZsL w B C c n K F1 I O1 D1) (D:ZsL w B c hi n J F2 H O2 D2):
  ZsL w B C hi n (K++J) (F1++F2) (fun k=>if k<c then I k else H k) (fun k=>if k<c then O1 k else O2 k) (fun k=>if k<c then D1 k else D2 k):=by
 have hl:=E.le;have hr:=D.le;refine ⟨yE,fun k a b=>?_,fun k A ob=>?_,?_⟩
 .by_cases A:k<c
  .obtain ⟨e,m,xs,cs,G,F⟩:=E.at_ k a A;simp only[A,if_true];exact ⟨e,m,xs,cs,fun ob=>by rw [YL,D.out k yE];exact G ob,F⟩
  .obtain ⟨e,m,xs,cs,G,F⟩:=D.at_ k yE b;simp only[A,if_false];exact ⟨e,m,xs,cs,fun ob=>by rw [YL];exact G _,F⟩
 .rw [YL,D.out k yE,E.out k yE]
 .rw [E.foot,D.foot,show hi - C=(c - C)+(hi - c) by omega,<-List.range'_append_1,Ak,show C+(c - C)=c by omega];congr 1
  .refine Zfk fun k A=>?_;have:=(AS.1 A).2;simp [show k<c by omega]
  .refine Zfk fun k A=>?_;have:=(AS.1 A).1;simp [show ¬k<c by omega]
theorem CR.mono {f e:Nat->Value}{n:Nat->Prop}{l:Bool}{A hi g i:Nat}{x:AV}{v:Value}(h:CR f w n l A hi x v) (C:g<=A) (D:hi<=i) (B:∀k,A<=k->k<hi->e k=f k):CR e w n l g i x v:=by
 cases x with
 |row k=>obtain ⟨a,b,c,d⟩:=h;exact ⟨yE,yE,by rw [B k a b];exact c,d⟩
 |c x=>exact h
 |n _=>exact h.elim
 |nil _ _=>exact h.elim
 |dead=>exact h.elim
theorem QS [NW] {B:Nat}{n:Nat->Prop}{l:Bool}:∀{cts:List (Bool×CT)}{vs:List Value}{F:List Nat}(key:Nat),OCs w B n cts vs F->(ZdH cts=true->l=true)->∃c O D,ZsL w B key (ZE key cts).2.2 n (ZE key cts).2.1 F c O D/\ZN (CR c w n l key (ZE key cts).2.2) (ZE key cts).1 vs
 | [],vs,F,key,h,_=>by
  obtain ⟨rfl,rfl⟩:=h;exact ⟨fun _=>undef,fun _=>[],fun _=>[],⟨AD _,fun k a b=>by simp [ZE]at b;omega,fun _ _ _=>rfl,by simp [ZE]⟩,trivial⟩
 |(true,x)::r,_,_,key,⟨v,vs,F1,F2,rfl,rfl,C,h2⟩,hl=>by
  obtain ⟨rfl,L,S,R⟩:=C;obtain ⟨c,O,D,E,G⟩:=QS (l:=l) key h2 fun e=>hl (by simp [ZdH]);exact ⟨c,O,D,by simpa [ZE]using E,⟨⟨L,S,fun b K=>⟨hl (by simp [ZdH]),R b K⟩⟩,G⟩⟩
 |(false,.sl e m xs)::r,_,_,key,⟨v,vs,F1,F2,rfl,rfl,C,h2⟩,hl=>by
  obtain ⟨P,cs,L,H,J,rfl,I⟩:=C;obtain ⟨c,O,D,E,G⟩:=QS (l:=l) (key+1) h2 fun e=>hl (by simpa [ZdH]using e);have d:ZsL w B key (key+1) n [(key,.row e m xs 2)] (v.ownBlock.toList++L) (fun _=>v) (fun _=>v.ownBlock.toList) (fun _=>L):=
   ⟨yE,fun k a b=>⟨e,m,xs,cs,fun ob=>by simp [Zl,upd,show k=key by omega],P,H,J,rfl,I⟩,fun k T ob=>by simp [Zl,upd,show ¬k=key by omega],yG⟩
  refine ⟨_,_,_,d.join E,⟨?_,G.mono fun x u _ M=>M.mono yE (AD _) fun k a b=>by simp [show ¬k<key+1 by omega]⟩⟩;have hle:=E.le;obtain ⟨A,cap,N⟩:=Zgl H;exact ⟨AD _,by simp only[ZE];omega,yG,by simp [N,Value.oneCell']⟩
 |(false,.int k i)::r,_,_,key,⟨v,vs,F1,F2,rfl,rfl,C,h2⟩,hl=>by
  obtain ⟨C,rfl⟩:=C;obtain ⟨c,O,D,E,G⟩:=QS (l:=l) key h2 fun e=>hl (by simpa [ZdH]using e);exact ⟨c,O,D,by simpa [ZE]using E,⟨⟨[],C,yG⟩,G⟩⟩
 |(false,.bool k)::r,_,_,key,⟨v,vs,F1,F2,rfl,rfl,C,h2⟩,hl=>by
  obtain ⟨C,rfl⟩:=C;obtain ⟨c,O,D,E,G⟩:=QS (l:=l) key h2 fun e=>hl (by simpa [ZdH]using e);exact ⟨c,O,D,by simpa [ZE]using E,⟨⟨[],C,yG⟩,G⟩⟩
 |(false,.str s)::r,_,_,key,⟨v,vs,F1,F2,rfl,rfl,C,h2⟩,hl=>by
  obtain ⟨C,rfl⟩:=C;obtain ⟨c,O,D,E,G⟩:=QS (l:=l) key h2 fun e=>hl (by simpa [ZdH]using e);exact ⟨c,O,D,by simpa [ZE]using E,⟨⟨[],C,yG⟩,G⟩⟩
 |(false,.ifc s)::r,_,_,key,⟨v,vs,F1,F2,rfl,rfl,C,h2⟩,hl=>by
  obtain ⟨C,rfl⟩:=C;obtain ⟨c,O,D,E,G⟩:=QS (l:=l) key h2 fun e=>hl (by simpa [ZdH]using e);exact ⟨c,O,D,by simpa [ZE]using E,⟨⟨[],C,yG⟩,G⟩⟩
 |(false,.any)::r,_,_,key,⟨v,vs,F1,F2,rfl,rfl,C,h2⟩,hl=>by
  obtain ⟨C,rfl⟩:=C;obtain ⟨c,O,D,E,G⟩:=QS (l:=l) key h2 fun e=>hl (by simpa [ZdH]using e);exact ⟨c,O,D,by simpa [ZE]using E,⟨⟨[],C,yG⟩,G⟩⟩
 |(false,.pt _)::r,_,_,key,⟨v,vs,F1,F2,rfl,rfl,C,h2⟩,hl=>C.elim
 |(false,.fn _ _)::r,_,_,key,⟨v,vs,F1,F2,rfl,rfl,C,h2⟩,hl=>C.elim
 |(false,.mp _ _ _)::r,_,_,key,⟨v,vs,F1,F2,rfl,rfl,C,h2⟩,hl=>C.elim
 |(false,.nl _ _)::r,_,_,key,⟨v,vs,F1,F2,rfl,rfl,C,h2⟩,hl=>C.elim
def PR (val:Nat->Value) (w:World) (n:Nat->Prop) (l:Bool) (lo hi:Nat) (x:Bool×List AV) (v:Value):Prop:=
 (x.1=true/\∃vs:List Value,v=.agg vs.toArray/\ZN (CR val w n l lo hi) x.2 vs)\/(x.1=false/\∃y,x.2=[y]/\CR val w n l lo hi y v)
theorem PR.mono [NW] {d c:Nat->Value}{n:Nat->Prop}{l:Bool}{A hi e f:Nat}{x:Bool×List AV}{v:Value}(h:PR d w n l A hi x v) (F:e<=A) (G:hi<=f) (E:∀k,A<=k->k<hi->c k=d k):PR c w n l e f x v:=by
 rcases h with ⟨D,vs,C,B⟩|⟨D,y,C,B⟩
 .exact .inl ⟨D,vs,C,B.mono fun a b _ g=>g.mono F G E⟩
 .exact .inr ⟨D,y,C,B.mono F G E⟩
theorem ZjR [NW] {B:Nat}{n:Nat->Prop}{l:Bool}:∀{d:List RT}{vs:List Value}{F:List Nat}(key:Nat),OPs w B n d vs F->(ZeH d=true->l=true)->∃c O D,ZsL w B key (ZC key d).2.2 n (ZC key d).2.1 F c O D/\ZN (PR c w n l key (ZC key d).2.2) (ZC key d).1 vs
 | [],vs,F,key,h,_=>by
  obtain ⟨rfl,rfl⟩:=h;exact ⟨fun _=>undef,fun _=>[],fun _=>[],⟨AD _,fun k a b=>by simp [ZC]at b;omega,fun _ _ _=>rfl,by simp [ZC]⟩,trivial⟩
 |x::r,_,_,key,⟨v,vs,F1,F2,rfl,rfl,h1,h2⟩,hl=>by
  have f:ZdH x.2=true->l=true:=fun e=>hl (by simp [ZeH,e]);have j:ZeH r=true->l=true:=fun e=>hl (by simp [ZeH,e]);have E:∃c O D,ZsL w B key (ZE key x.2).2.2 n (ZE key x.2).2.1 F1 c O D/\PR c w n l key (ZE key x.2).2.2 (x.1,(ZE key x.2).1) v:=by
   rcases h1 with ⟨E,I,rfl,G⟩|⟨E,M,L,G⟩
   .obtain ⟨c,O,D,C,A⟩:=QS key G f;exact ⟨c,O,D,C,.inl ⟨E,I,rfl,A⟩⟩
   .obtain ⟨c,O,D,C,A⟩:=QS (cts:=x.2) (vs:=[v]) (F:=F1) key (by rw [L];exact ⟨v,[],F1,[],rfl,yG,G,rfl,rfl⟩) f;refine ⟨c,O,D,C,.inr ⟨E,?_⟩⟩;generalize (ZE key x.2).1=l at A
    cases l with
    |nil=>exact A.elim
    |cons y l=>
     cases l with
     |nil=>exact ⟨y,rfl,A.1⟩
     |cons _ _=>exact A.2.elim
  obtain ⟨c,O,D,C,K⟩:=E;obtain ⟨H,O2,D2,g,m⟩:=ZjR (ZE key x.2).2.2 h2 j;have i:=g.le;have o:=C.le;refine ⟨_,_,_,C.join g,⟨K.mono (AD _) i fun k a b=>by simp [b],m.mono fun y u _ J=>J.mono o (AD _) fun k a b=>by simp [show ¬k<(ZE key x.2).2.2 by omega]⟩⟩
theorem ZfA {n:Nat}{G:Nat->List Nat}:∀{A:Nat},((AP A n).flatMap G).Nodup->(∀k,A<=k->k<A+n->(G k).Nodup)/\∀k j,A<=k->k<A+n->A<=j->j<A+n->k≠j->∀b∈G k,b∉G j:=by
 induction n with
 |zero=>intro A _;exact ⟨fun k a b=>by omega,fun k j a b=>by omega⟩
 |succ n ih=>
  intro A h;rw [Am,AO,AF]at h;obtain ⟨I,H,D⟩:=h;obtain ⟨F,E⟩:=ih H;have c:∀k,A+1<=k->k<A+1+n->∀b∈G k,b∈(AP (A+1) n).flatMap G:=fun k a b x B=>AE.2 ⟨k,AS.2 ⟨a,b⟩,B⟩;refine ⟨fun k a b=>?_,fun k j a b L K d x B C=>?_⟩
  .by_cases e:k=A
   .subst e;exact I
   .exact F k yE yE
  .by_cases e:k=A
   .subst e;exact D x B x (c j yE yE x C) rfl
   .by_cases J:j=A
    .subst J;exact D x C x (c k yE yE x B) rfl
    .exact E k j yE yE yE yE d x B C
theorem ZjU [NW] {ob:Nat->Ob}(hI:HI W g ob w) (I:∀k,obU U (ob k)) (N:∀k,¬U k->ob k=.gone) (V:∀k,key<=k->k<key+16->¬U k) {d:List RT}{v:Value}{n:Nat->Prop}(hr:ZlC w' w.heap.size n d v) (hn:(ZC key d).2.2<=key+16)
  (H:Nat->Prop) (X:∀k,H k->U k) (p:Nat->Ob) (A:ZeH d=true->∀b,g.own b->n b)
  (Y:Bel W w') (ae:w.heap.size<=w'.heap.size) (hw:∀b,b<w.heap.size->(∀k,H k->b∉g.O k)->w'.heap[b]?=w.heap[b]?)
  (aa:∀k,H k->obU (Uk U key) (p k)) (hH:∀g':Gh,(∀b,g'.own b->g.own b\/((∃k,b∈g'.O k)/\w.heap.size<=b/\n b))->(∀k,H k->g'.val k=g.val k/\g'.O k=g.O k/\g'.D k=g.D k)->∀k,H k->ObR g' w' k (p k)/\∀b∈g.O k++g.D k,Qb w' (p k) b):
  ∃g',HI W g' (fun k=>Zl (fun j=>open Classical in if H j then p j else ob j) (ZC key d).2.1 k) w'/\SVR g' w' (ZaA (ZC key d).1) v/\(∀x u,svU U x->SVR g w x u->SVR g' w' x u)/\svU (Uk U key) (ZaA (ZC key d).1)/\
   (∀k,obU (Uk U key) (Zl (fun j=>open Classical in if H j then p j else ob j) (ZC key d).2.1 k))/\∀k,¬Uk U key k->Zl (fun j=>open Classical in if H j then p j else ob j) (ZC key d).2.1 k=.gone:=by
 classical
 obtain ⟨vs,F,h1,hF,hv⟩:=hr;obtain ⟨E,O,D,hB,hA⟩:=ZjR (l:=ZeH d) key h1 id;generalize (ZC key d).2.2=hi at *
 generalize (ZC key d).2.1=up at *
 generalize (ZC key d).1=xs at *
 have hle:=hB.le;let T:Nat->Prop:=fun k=>key<=k/\k<hi
 have ab:∀k,T k->¬U k:=fun k hk=>V k hk.1 (by have:=hk.2;omega);let g':Gh:=⟨fun k=>if key<=k/\k<hi then E k else g.val k,fun k=>if key<=k/\k<hi then O k else g.O k,fun k=>if key<=k/\k<hi then D k else g.D k,g.Z⟩
 have gT:∀k,T k->g'.val k=E k/\g'.O k=O k/\g'.D k=D k:=fun k hk=>⟨yp hk,yp hk,yp hk⟩
 have gN:∀k,¬T k->g'.val k=g.val k/\g'.O k=g.O k/\g'.D k=g.D k:=fun k hk=>⟨yn hk,yn hk,yn hk⟩
 have af:∀k,H k->¬T k:=fun k hk ht=>ab k ht (X k hk);have an:∀k,T k->∀b∈O k++D k,b∈F:=fun k hk b mb=>by
  rw [hB.foot];exact AE.2 ⟨k,AS.2 ⟨hk.1,by have:=hk.2;omega⟩,mb⟩
 have G:∀k,T k->∀b∈O k++D k,w.heap.size<=b:=fun k hk b mb=>hF.ge b (an k hk b mb);have ac:=ZfA (hB.foot ▸ hF.nodup);have J:∀k,U k->g'.val k=g.val k:=fun k hk=>(gN k fun h=>ab k h hk).1;have t:∀b,g'.own b->g.own b\/((∃k,b∈g'.O k)/\w.heap.size<=b/\n b):=fun b hb=>by
  rcases hb with ⟨k,mk⟩|hz
  .by_cases hk:T k
   .have P:=mk;rw [(gT k hk).2.1]at P;obtain ⟨e,m,ys,cs,_,_,_,_,_,p6⟩:=hB.at_ k hk.1 hk.2;exact .inr ⟨⟨k,mk⟩,G k hk b (by simp [P]),p6 b P⟩
   .rw [(gN k hk).2.1]at mk;exact .inl (.inl ⟨k,mk⟩)
  .exact .inl (.inr hz)
 have K:Zai g g' w.heap.size:=.of (fun b hb=>(t b hb).imp id fun h=>h.2.1) fun j b mb=>by
  by_cases hj:T j
  .rw [(gT j hj).2.2]at mb;exact .inr (G j hj b (by simp [mb]))
  .rw [(gN j hj).2.2]at mb;exact .inl (.inr ⟨j,mb⟩)
 have ag:∀b,b<w.heap.size->¬g.own b->w'.heap[b]?=w.heap[b]?:=fun b hb ah=>hw b hb fun k _ mk=>ah (.inl ⟨k,mk⟩);have Q:∀x u,svU U x->SVR g w x u->SVR g' w' x u:=fun x u hx hu=>hu.move hx J ag K ae;have B:∀k,¬T k->Zl (fun j=>if H j then p j else ob j) up k=if H k then p k else ob k:=fun k hk=>hB.out k hk _;have ai:HI W g' (Zl (fun j=>if H j then p j else ob j) up) w':=by
  refine hI.step (U:=U) (fun k=>T k\/H k) Y rfl (fun b aj hq=>hw b aj fun k hk=>hq k (.inr hk)) (fun k hk=>?_) I J K (fun k hk=>?_)
  .have k1:¬T k:=fun h=>hk (.inl h);have k2:¬H k:=fun h=>hk (.inr h);exact ⟨by rw [B k k1,yn k2],gN k k1⟩
  .by_cases a:T k
   .obtain ⟨e1,e2,e3⟩:=gT k a;obtain ⟨e,m,ys,cs,p1,p2,p3,p4,p5,_⟩:=hB.at_ k a.1 a.2;rw [p1,e2,e3];refine ⟨⟨p2,cs,D k,?_,p4,.inl ⟨rfl,by rw [e1,e2];exact p5,e3⟩⟩,ac.1 k a.1 (by have:=a.2;omega),fun b mb=>?_,fun j hj b mb mj=>?_⟩
    .rw [e1];exact Zk2 p3 (AI _)
    .exact ⟨.inl (AK hI.below.size (G k a b mb)),hF.plain b (an k a b mb)⟩
    .by_cases f:T j
     .rw [(gT j f).2.1,(gT j f).2.2]at mj;exact ac.2 k j a.1 (by have:=a.2;omega) f.1 (by have:=f.2;omega) hj b mb mj
     .rw [(gN j f).2.1,(gN j f).2.2]at mj;have:=hI.lt j b mj;have:=G k a b mb;omega
   .have C:H k:=hk.resolve_left a;obtain ⟨e1,e2,e3⟩:=gN k a;obtain ⟨q1,q2⟩:=hH g' t (fun j hj=>gN j (af j hj)) k C;rw [B k a,yp C,e2,e3];refine ⟨q1,hI.nodup k,fun b mb=>⟨(hI.plain k b mb).1,q2 b mb⟩,fun j hj b mb mj=>?_⟩;by_cases f:T j
    .rw [(gT j f).2.1,(gT j f).2.2]at mj;have:=hI.lt k b mb;have:=G j f b mj;omega
    .rw [(gN j f).2.1,(gN j f).2.2]at mj;exact hI.apart k j hj b mb mj
 have R:∀x u,CR E w' n (ZeH d) key hi x u->AVR g' w' x u/\avU (Uk U key) x:=fun x u h=>by
  cases x with
  |row k=>
   obtain ⟨c1,c2,c3,c4⟩:=h;exact ⟨⟨by rw [(gT k ⟨c1,c2⟩).1];exact c3,c4⟩,.inr ⟨c1,yE⟩⟩
  |c x=>
   obtain ⟨L,h1,h2⟩:=h;refine ⟨⟨L,h1,fun b mb o=>?_⟩,trivial⟩;rcases t b o with o|o
   .exact (h2 b mb).2 (A (h2 b mb).1 b o)
   .exact (h2 b mb).2 o.2.2
  |n _=>exact h.elim
  |nil _ _=>exact h.elim
  |dead=>exact h.elim
 have ad:∀(ys:List AV) (us:List Value),ZN (CR E w' n (ZeH d) key hi) ys us->ZN (AVR g' w') ys us/\QK (Uk U key) ys:=fun ys us h=>by
  induction ys generalizing us with
  |nil=>cases us with
   |nil=>exact ⟨trivial,fun _ m=>by simp at m⟩
   |cons _ _=>exact h.elim
  |cons y ys ih=>cases us with
   |nil=>exact h.elim
   |cons u us=>
    obtain ⟨i1,i2⟩:=ih us h.2;refine ⟨⟨(R y u h.1).1,i1⟩,fun z mz=>?_⟩;rcases AC.1 mz with rfl|mz
    .exact (R z u h.1).2
    .exact i2 z mz
 have S:∀(y:Bool×List AV) (u:Value),PR E w' n (ZeH d) key hi y u->PVR g' w' y.1 y.2 u/\QK (Uk U key) y.2:=fun y u h=>by
  rcases h with ⟨h1,us,rfl,h3⟩|⟨h1,z,h2,h3⟩
  .obtain ⟨i1,i2⟩:=ad _ _ h3;exact ⟨by rw [h1];exact ⟨us,rfl,i1⟩,i2⟩
  .obtain ⟨i1,i2⟩:=R z u h3;exact ⟨by rw [h1];exact ⟨z,h2,i1⟩,by rw [h2];intro q mq;simp at mq;subst mq;exact i2⟩
 have M:SVR g' w' (ZaA xs) v/\svU (Uk U key) (ZaA xs):=by
  have A:=hA.len;by_cases hl:xs.length=1
  .obtain ⟨x,rfl⟩:=BU.1 hl;cases vs with
   |nil=>simp at A
   |cons u us=>
    cases us with
    |cons _ _=>simp at A
    |nil=>
     have ak:v=u:=by rw [hv];rfl
     rw [ak];exact S x u hA.1
  .have al:¬vs.toArray.size=1:=by simp;omega
   rw [dif_neg al]at hv;have e:ZaA xs=.tup xs:=by
    cases xs with
    |nil=>rfl
    |cons x xs=>cases xs with
     |nil=>simp at hl
     |cons _ _=>rfl
   rw [e];refine ⟨⟨vs,hv,hA.mono fun y u _ h=>(S y u h).1⟩,fun y my=>?_⟩;obtain ⟨i,am⟩:=BB.1 my;obtain ⟨u,_,hu⟩:=hA.at am;exact (S y u hu).2
 refine ⟨g',ai,M.1,Q,M.2,fun k=>?_,fun k hk=>?_⟩
 .by_cases a:T k
  .obtain ⟨e,m,ys,cs,p1,_⟩:=hB.at_ k a.1 a.2;rw [p1];trivial
  .rw [B k a];split
   .rename_i C;exact aa k C
   .exact (I k).mono fun _=>.inl
 .have a:¬T k:=fun a=>hk (.inr ⟨a.1,by have:=a.2;omega⟩);have C:¬H k:=fun h=>hk (.inl (X k h));rw [B k a,yn C];exact N k fun h=>hk (.inl h)
theorem ZjI [NW] (st:St):∀(ks:List Nat) {g:Gh}{ob:Nat->Ob},HI W g ob w->(∀k,ob k=st.ob k\/ob k=Yy (st.ob k))->∃B:Gh,HI W B (Zl ob (ZT st ks)) w/\B.val=g.val/\QM B g/\∀k,Zl ob (ZT st ks) k=(if k∈ks then Yy (st.ob k) else ob k)
 | [],g,ob,hI,_=>⟨g,hI,rfl,QM.refl _,fun k=>by simp [ZT,Zl]⟩
 |k::r,g,ob,hI,hob=>by
  have b:Yy (ob k)=Yy (st.ob k):=by
   rcases hob k with h|h
   .rw [h]
   .rw [h];cases st.ob k<;>rfl
  obtain ⟨B,C,I,H,_⟩:=Zk7 hI k;rw [b]at C;have a:∀j,upd ob k (Yy (st.ob k)) j=st.ob j\/upd ob k (Yy (st.ob k)) j=Yy (st.ob j):=fun j=>by
   by_cases A:j=k
   .subst A;right;rw [ZI]
   .rw [Z2 _ _ A];exact hob j
  obtain ⟨g2,G,F,E,D⟩:=ZjI st r C a;refine ⟨g2,G,F.trans I,E.trans H,fun j=>?_⟩;show Zl (upd ob k (Yy (st.ob k))) (ZT st r) j=_
  rw [D j];by_cases A:j=k
  .subst A;simp [upd]
  .simp [A,upd]
theorem Zrb {st st':St}(h:∀k,st'.ob k=st.ob k\/st'.ob k=Yy (st.ob k)) (x:SV):ZeG st' x=ZeG st x:=by
 have B:∀y:AV,Zdr st' y=Zdr st y:=fun y=>by
  cases y with
  |row k=>
   simp only[Zdr];rcases h k with e|e
   .rw [e]
   .rw [e];cases st.ob k<;>rfl
  |_=>rfl
 have A:∀ys:List AV,XF st' ys=XF st ys:=fun ys=>by
  induction ys with
  |nil=>rfl
  |cons y ys ih=>simp only[XF,B,ih]
 cases x<;>simp [ZeG,A]
theorem ZdM [NW] {st st':St}(h:∀k,st'.ob k=st.ob k\/st'.ob k=Yy (st.ob k)):∀xs:List SV,Z8 st' xs=Z8 st xs
 | []=>rfl
 |x::r=>by simp only[Z8];rw [Zrb h x,ZdM h r]
theorem ZoY {k:Nat}:∀{cs:List AV},AV.row k∈cs->k∈ZkC cs
 | [],h=>by simp at h
 |x::r,h=>by
  rcases AC.1 h with rfl|h
  .simp [ZkC]
  .have:=ZoY h;cases x<;>simp [ZkC,this]
theorem Zpc [NW] {k:Nat}{a:Bool}{cs:List AV}:∀{vs:List SV},SV.p a cs∈vs->AV.row k∈cs->k∈ZR vs
 | [],h,_=>by simp at h
 |x::r,h,hk=>by
  rcases AC.1 h with rfl|h
  .simp [ZR,ZoY hk]
  .have:=Zpc h hk;cases x<;>simp [ZR,this]
end
end
section
open Go.RowKit
def Za3 (S:Ctx) (f:FuncId) (n key:Nat) (st:St) (vs:List SV) (v:SV) (u:List (Nat×Ob)):Prop:=
 match n with
 |0=>∃l res,Z8 st vs=some l/\S.r f l res/\(!ZeH res||vs.all Zj2)=true/\(ZC key res).2.2<=key+16/\v=ZaA (ZC key res).1/\u=(ZC key res).2.1
 |1=>∃a r k h l res h',vs=a::r/\Zhz st a=some (k,h)/\Z8 st r=some l/\S.h f h l res h'/\(ZR r).all (fun j=>j != k)=true/\(ZC key res).2.2<=key+16/\v=ZaA (ZC key res).1/\u=ZT st (ZR r)++((k,Zfp h')::(ZC key res).2.1)
 |3=>∃l nb,Z8 st vs=some l/\S.b f l nb/\v=ZGX key nb/\u=ZT st (ZR vs)++[(key,ZzM nb)]
 |4=>∃l res,Z8 st (vs.map nlS)=some l/\S.r f l res/\(!ZeH res||(vs.map nlS).all Zj2)=true/\(ZC key res).2.2<=key+16/\v=ZaA (ZC key res).1/\u=(ZC key res).2.1
 |5=>∃a r kh gh l res cs',vs=a::r/\Zez st a=some kh/\ZkJ st (r.take 0)=some gh/\Z8 st (r.drop 0)=some l/\S.o f kh.2.1 kh.2.2.1 gh.1 l res cs'/\(kh.2.2.2++gh.2).Nodup/\(ZR (r.drop 0)).all (Zjx (kh.2.2.2++gh.2))=true/\(ZC key res).2.2=key/\(ZE key cs').2.2<=key+16/\v=ZaA (ZC key res).1/\u=ZT st (ZR (r.drop 0))++(YE (kh.2.2.2++gh.2)++((kh.1,.box kh.2.1 (ZE key cs').1)::(ZE key cs').2.1))
 |6=>∃a r kh gh l res cs',vs=a::r/\Zez st a=some kh/\ZkJ st (r.take 1)=some gh/\Z8 st (r.drop 1)=some l/\S.o f kh.2.1 kh.2.2.1 gh.1 l res cs'/\(kh.2.2.2++gh.2).Nodup/\(ZR (r.drop 1)).all (Zjx (kh.2.2.2++gh.2))=true/\(ZC key res).2.2=key/\(ZE key cs').2.2<=key+16/\v=ZaA (ZC key res).1/\u=ZT st (ZR (r.drop 1))++(YE (kh.2.2.2++gh.2)++((kh.1,.box kh.2.1 (ZE key cs').1)::(ZE key cs').2.1))
 |7=>∃a r gv ks l res,vs=a::r/\ZkJ st [a]=some (some gv,ks)/\Z8 st r=some l/\S.g f gv l res/\ks.Nodup/\(ZR r).all (Zjx ks)=true/\(ZC key res).2.2<=key+16/\v=ZaA (ZC key res).1/\u=ZT st (ZR r)++(YE ks++(ZC key res).2.1)
 |_=>∃l res,Z8 st vs=some l/\S.r f l res/\(ZC key res).2.2<=key+16/\v=ZaA (ZC key res).1/\u=ZT st (ZR vs)++(ZC key res).2.1
theorem ZnL {S:Ctx}{f:FuncId}{n key:Nat}{d:Option Nat}{K:St->Prop}{st:St}{vs:List SV}:spK S f n key d K st vs↔∃v u,Za3 S f n key st vs v u/\K ((st.put d v).app u):=by
 rcases n with _|_|_|_|_|_|_|_|n
 .simp only[spK,Za3];constructor
  .intro h;unfold YM at h;split at h
   .rename_i l B;obtain ⟨a,C,E,D,A⟩:=h;exact ⟨_,_,⟨l,a,B,C,E,D,rfl,rfl⟩,A⟩
   .exact h.elim
  .rintro ⟨v,u,⟨l,a,B,C,E,D,rfl,rfl⟩,A⟩;rw [B];exact ⟨a,C,E,D,A⟩
 .simp only[spK,Za3];constructor
  .intro h;cases vs with
   |nil=>exact h.elim
   |cons H r=>
    simp only[ZwF]at h;unfold YM at h;split at h
    .rename_i L I;split at h
     .rename_i l B;obtain ⟨a,O,C,E,D,A⟩:=h;exact ⟨_,_,⟨H,r,L.1,L.2,l,a,O,rfl,I,B,C,E,D,rfl,rfl⟩,A⟩
     .exact h.elim
    .exact h.elim
  .rintro ⟨v,u,⟨H,r,k,R,l,a,O,rfl,I,B,C,E,D,rfl,rfl⟩,A⟩;simp only[ZwF,I,B,YM];exact ⟨a,O,C,E,D,A⟩
 .simp only[spK,Za3];constructor
  .intro h;unfold YM at h;split at h
   .rename_i l B;obtain ⟨a,C,D,A⟩:=h;exact ⟨_,_,⟨l,a,B,C,D,rfl,rfl⟩,A⟩
   .exact h.elim
  .rintro ⟨v,u,⟨l,a,B,C,D,rfl,rfl⟩,A⟩;rw [B];exact ⟨a,C,D,A⟩
 .simp only[spK,Za3];constructor
  .intro h;unfold YM at h;split at h
   .rename_i l B;obtain ⟨N,C,A⟩:=h;exact ⟨_,_,⟨l,N,B,C,rfl,rfl⟩,A⟩
   .exact h.elim
  .rintro ⟨v,u,⟨l,N,B,C,rfl,rfl⟩,A⟩;rw [B];exact ⟨N,C,A⟩
 .simp only[spK,Za3];constructor
  .intro h;unfold YM at h;split at h
   .rename_i l B;obtain ⟨a,C,E,D,A⟩:=h;exact ⟨_,_,⟨l,a,B,C,E,D,rfl,rfl⟩,A⟩
   .exact h.elim
  .rintro ⟨v,u,⟨l,a,B,C,E,D,rfl,rfl⟩,A⟩;rw [B];exact ⟨a,C,E,D,A⟩
 .simp only[spK,Za3];constructor
  .intro h;cases vs with
   |nil=>exact h.elim
   |cons H r=>
    simp only[ZmP]at h;unfold YM at h;split at h
    .rename_i L I;split at h
     .rename_i M J;split at h
      .rename_i l B;obtain ⟨a,b,C,E,D,A,G,F⟩:=h;exact ⟨_,_,⟨H,r,L,M,l,a,b,rfl,I,J,B,C,E,D,A,G,rfl,rfl⟩,F⟩
      .exact h.elim
     .exact h.elim
    .exact h.elim
  .rintro ⟨v,u,⟨H,r,L,M,l,a,b,rfl,I,J,B,C,E,D,A,G,rfl,rfl⟩,F⟩;simp only[ZmP,I,J,B,YM];exact ⟨a,b,C,E,D,A,G,F⟩
 .simp only[spK,Za3];constructor
  .intro h;cases vs with
   |nil=>exact h.elim
   |cons H r=>
    simp only[ZmP]at h;unfold YM at h;split at h
    .rename_i L I;split at h
     .rename_i M J;split at h
      .rename_i l B;obtain ⟨a,b,C,E,D,A,G,F⟩:=h;exact ⟨_,_,⟨H,r,L,M,l,a,b,rfl,I,J,B,C,E,D,A,G,rfl,rfl⟩,F⟩
      .exact h.elim
     .exact h.elim
    .exact h.elim
  .rintro ⟨v,u,⟨H,r,L,M,l,a,b,rfl,I,J,B,C,E,D,A,G,rfl,rfl⟩,F⟩;simp only[ZmP,I,J,B,YM];exact ⟨a,b,C,E,D,A,G,F⟩
 .simp only[spK,Za3];constructor
  .intro h;cases vs with
   |nil=>exact h.elim
   |cons H r=>
    simp only[ZwI]at h;unfold YM at h;split at h
    .rename_i M J;split at h
     .rename_i l B;obtain ⟨P,a,C,E,D,A,G,F⟩:=h;obtain ⟨T,g2⟩:=M;simp only at C E D A G F;subst C;exact ⟨_,_,⟨H,r,P,g2,l,a,rfl,J,B,E,D,A,G,rfl,rfl⟩,F⟩
     .exact h.elim
    .exact h.elim
  .rintro ⟨v,u,⟨H,r,P,ks,l,a,rfl,J,B,E,D,A,G,rfl,rfl⟩,F⟩;simp only[ZwI,J,B,YM];exact ⟨P,a,rfl,E,D,A,G,F⟩
 .simp only[spK,Za3];constructor
  .intro h;unfold YM at h;split at h
   .rename_i l B;obtain ⟨a,C,D,A⟩:=h;exact ⟨_,_,⟨l,a,B,C,D,rfl,rfl⟩,A⟩
   .exact h.elim
  .rintro ⟨v,u,⟨l,a,B,C,D,rfl,rfl⟩,A⟩;rw [B];exact ⟨a,C,D,A⟩
section
variable {P:Program} {J:World->Prop} {JF:Nat->Prop} {W:ZbW} {U:Nat->Prop} {key:Nat} {st:St} {g:Gh} {w w':World} {a:Act} {tt:Nat->Option TI} {hd:FuncId->Nat}
def Zv9 [NW] (W:ZbW) (U:Nat->Prop) (key:Nat) (st:St) (g:Gh) (w:World) (v:SV) (u:List (Nat×Ob)) (cv:Value) (w':World):Prop:=
 ∃g',HI W g' (Zl st.ob u) w'/\SVR g' w' v cv/\(∀x c,svU U x->SVR g w x c->SVR g' w' x c)/\svU (Uk U key) v/\(∀k,obU (Uk U key) (Zl st.ob u k))/\∀k,¬Uk U key k->Zl st.ob u k=.gone
theorem HI.ownlt [NW] {ob:Nat->Ob}(A:HI W g ob w) {b:Nat}(h:g.own b):b<w.heap.size:=by
 rcases h with ⟨k,C⟩|B
 .exact A.lt k b (by simp [C])
 .rw [A.gz]at B;exact AW (A.zx b B).1 A.below.size
theorem Zto {ks:List Nat}{ob:Nat->Ob}(a:∀k,obU U (st.ob k)) (h:∀k,ob k=(if k∈ks then Yy (st.ob k) else st.ob k)):∀k,obU U (ob k):=fun k=>by
 rw [h k];have:=a k;split
 .cases hk:st.ob k<;>simp only[Yy]<;>first|trivial|(rw [hk]at this;exact this)
 .exact this
theorem Zoi [NW] {vs:List SV}{l:List (Bool×List CT)}{st1:St}(h:∀k,st1.ob k=(if k∈ZR vs then Yy (st.ob k) else st.ob k)) (A:Z8 st vs=some l):∀x∈vs,Zxx st1.ob x:=by
 have key:∀(cs:List AV) (l:List CT),XF st cs=some l->(∀k,AV.row k∈cs->k∈ZR vs)->∀y∈cs,Zze st1.ob y:=by
  intro cs;induction cs with
  |nil=>intro l _ _ y B;simp at B
  |cons c cs ih=>
   intro l A G y B;simp only[XF]at A;obtain ⟨L,C,A⟩:=AB.1 A;obtain ⟨c2,E,_⟩:=AA.1 A;rcases AC.1 B with rfl|B
   .cases y with
    |row k=>
     simp only[Zdr]at C;split at C
     .rename_i e m xs d a;exact ⟨e,m,xs,by rw [h k,yp (G k yG),a];rfl⟩
     .simp at C
    |_=>trivial
   .exact ih c2 E (fun k D=>G k (by simp [D])) y B
 have all:∀(xs:List SV) (l:List (Bool×List CT)),Z8 st xs=some l->(∀x∈xs,x∈vs)->∀x∈xs,Zxx st1.ob x:=by
  intro xs;induction xs with
  |nil=>intro l _ _ x I;simp at I
  |cons x xs ih=>
   intro l A F y B;simp only[Z8]at A;obtain ⟨L,C,A⟩:=AB.1 A;obtain ⟨c2,E,_⟩:=AA.1 A;rcases AC.1 B with rfl|B
   .cases y with
    |p ag cs=>
     simp only[ZeG]at C;obtain ⟨J,K,_⟩:=AA.1 C;exact key cs J K (fun k D=>Zpc (F (.p ag cs) yG) D)
    |_=>trivial
   .exact ih c2 E (fun z H=>F z (by simp [H])) y B
 exact all vs l A (fun _ h=>h)
theorem ZGU {k:Nat}{inst:∀j,Decidable (j=k)}(ob:Nat->Ob) (o:Ob):(fun j=>@ite _ (j=k) (inst j) o (ob j))=upd ob k o:=by
 funext j
 simp only[upd];split<;>rfl
theorem Zmc [NW] (F:MOk P J JF W tt) {f:FuncId}{vs:List SV}{a:List Value}{v:SV}{u:List (Nat×Ob)}(h:Za3 (SC P J JF hd) f 0 key st vs v u) (B:HI W g st.ob w) (G:StU U st) (c:∀k,key<=k->k<key+16->¬U k) (j:ZN (SVR g w) vs a) (S:∀x∈vs,svU U x):
  Zbe P f/\Calls P f a.toArray w fun e w'=>∃cv,e=.returned cv/\Zv9 W U key st g w v u cv w':=by
 obtain ⟨l,o,O,hs,d,N,rfl,rfl⟩:=h;obtain ⟨T,R⟩:=hs;refine ⟨T,?_⟩;by_cases m:ZeH o=true
 .have p:∀x∈vs,Zxx st.ob x:=ZAF (by simpa [m]using d);refine (R w g.own a (F.at B.below) (fun b A=>B.ownlt A) (ZcB B O j (.inr ⟨p,fun _ h=>h⟩))).mono ?_;rintro e w' ⟨cv,n,rfl,K,M,A⟩;obtain ⟨L,E,t2,I,H,D,C⟩:=ZjU B G.ob G.gone c K N (fun _=>False) (fun _ h=>h.elim) (fun _=>.gone) (fun _ b A=>M b A) (B.below.trans A) A.size (fun b i _=>A.block b i) (fun _ h=>h.elim) (fun _ _ _ _ h=>h.elim);simp only[if_false]at E D C;exact ⟨cv,rfl,L,E,t2,I,H,D,C⟩
 .refine (R w (fun _=>False) a (F.at B.below) (fun b A=>A.elim) (ZcB B O j (.inl fun _ h=>h))).mono ?_;rintro e w' ⟨cv,n,rfl,K,M,A⟩;obtain ⟨L,E,t2,I,H,D,C⟩:=ZjU B G.ob G.gone c K N (fun _=>False) (fun _ h=>h.elim) (fun _=>.gone) (fun h=>absurd h m) (B.below.trans A) A.size (fun b i _=>A.block b i) (fun _ h=>h.elim) (fun _ _ _ _ h=>h.elim);simp only[if_false]at E D C;exact ⟨cv,rfl,L,E,t2,I,H,D,C⟩
theorem ZyA [NW] {x:AV}{v:Value}(h:AVR g w x v):AVR g w (nlA x) v:=by
 cases x with
 |nil e m=>exact ⟨[],⟨h,rfl⟩,yG⟩
 |_=>exact h
theorem Zv5 [NW]:∀{xs:List AV}{vs:List Value},ZN (AVR g w) xs vs->ZN (AVR g w) (xs.map nlA) vs
 | [],[],_=>trivial
 | [],_::_,h=>h.elim
 |_::_,[],h=>h.elim
 |_::_,_::_,h=>⟨ZyA h.1,Zv5 h.2⟩
theorem ZDN [NW] {x:SV}{v:Value}(h:SVR g w x v):SVR g w (nlS x) v:=by
 cases x with
 |p a cs=>
  cases a with
  |true=>obtain ⟨vs,B,A⟩:=h;exact ⟨vs,B,Zv5 A⟩
  |false=>obtain ⟨y,rfl,A⟩:=h;exact ⟨_,rfl,ZyA A⟩
 |_=>exact h
theorem Zwj [NW]:∀{xs:List SV}{vs:List Value},ZN (SVR g w) xs vs->ZN (SVR g w) (xs.map nlS) vs
 | [],[],_=>trivial
 | [],_::_,h=>h.elim
 |_::_,[],h=>h.elim
 |_::_,_::_,h=>⟨ZDN h.1,Zwj h.2⟩
theorem ZzO {x:SV}(h:svU U x):svU U (nlS x):=by
 cases x with
 |p a cs=>
  intro y B;obtain ⟨z,A,rfl⟩:=AM.1 B;have hz:=h z A;cases z<;>first|exact hz|trivial
 |_=>exact h
theorem Zz1 [NW] (R:HI W g st.ob w) {x:AV}{H:Bool×CT}{ks:List Nat}{v:Value}(h:ZgW st x=some (H,ks)) (A:AVR g w x v):OC w 0 g.own H v (g.F ks)/\∀k∈ks,∃e m xs,st.ob k=.row e m xs 2:=by
 cases x with
 |c y=>
  obtain ⟨L,B,S⟩:=A;cases y<;>simp only[ZgW,A0,A9,reduceCtorEq]at h<;>obtain ⟨rfl,rfl⟩:=h
  .exact ⟨⟨⟨B.1,rfl⟩,by simp [Gh.F]⟩,yG⟩
  .exact ⟨⟨⟨B.1,rfl⟩,by simp [Gh.F]⟩,yG⟩
  .exact ⟨⟨⟨B.1,rfl,B.2.2⟩,by simp [Gh.F]⟩,yG⟩
  .exact ⟨⟨by simp [Gh.F],L,B,S⟩,yG⟩
 |row k=>
  simp only[ZgW]at h;split at h
  .rename_i e m xs d G;split at h
   .rename_i P;subst P;simp only[A0,A9]at h;obtain ⟨rfl,rfl⟩:=h;have ho:=R.obs k;rw [G]at ho;obtain ⟨C,cs,L,M,K,J⟩:=ho;rcases J with ⟨_,D,I⟩|⟨q,_⟩|⟨q,_⟩
    .refine ⟨⟨C,cs,L,by rw [A.1];exact M,K,by simp [Gh.F,D,I,A.1],fun b N=>.inl ⟨k,by rw [D,<-A.1];exact N⟩⟩,fun j E=>?_⟩;simp only[Ah]at E;subst E;exact ⟨e,m,xs,G⟩
    .omega
    .omega
   .simp at h
  .simp at h
 |nil e m=>
  simp only[ZgW]at h;split at h
  .rename_i C;simp only[A0,A9]at h;obtain ⟨rfl,rfl⟩:=h;have O:v=.slice none 0 0:=A;subst O;exact ⟨⟨C,[],[],ZgR _ _ _ _,⟨rfl,rfl⟩,by simp [Gh.F,Value.ownBlock],by simp [Value.ownBlock]⟩,yG⟩
  .simp at h
 |n _=>simp [ZgW]at h
 |dead=>simp [ZgW]at h
theorem ZjM [NW] (A:HI W g st.ob w):∀{xs:List AV}{cts:List (Bool×CT)}{ks:List Nat}{vs:List Value},XB st xs=some (cts,ks)->ZN (AVR g w) xs vs->OCs w 0 g.own cts vs (g.F ks)/\∀k∈ks,∃e m xs,st.ob k=.row e m xs 2
 | [],_,_,[],h,_=>by simp [XB]at h;obtain ⟨rfl,rfl⟩:=h;exact ⟨⟨rfl,by simp [Gh.F]⟩,yG⟩
 | [],_,_,_::_,_,h=>h.elim
 |_::_,_,_,[],_,h=>h.elim
 |x::r,cts,ks,v::vs,h,hr=>by
  simp only[XB]at h;obtain ⟨⟨L,K⟩,D,h⟩:=AB.1 h;obtain ⟨⟨c2,J⟩,C,h⟩:=AA.1 h;simp only[A9]at h;obtain ⟨rfl,rfl⟩:=h;obtain ⟨I,H⟩:=Zz1 A D hr.1;obtain ⟨G,E⟩:=ZjM A C hr.2;exact ⟨⟨v,vs,_,_,rfl,by simp [Gh.F],I,G⟩,fun k B=>(A6.1 B).elim (H k) (E k)⟩
theorem OC.low {n m:Nat->Prop}{B:Nat}{x:Bool×CT}{v:Value}{F:List Nat}(h:OC w B n x v F) (K:∀b,m b->n b) (J:∀b∈F,n b->m b):OC w B m x v F:=by
 obtain ⟨l,c⟩:=x;cases l with
 |true=>obtain ⟨e,L,D,C⟩:=h;exact ⟨e,L,D,fun b A I=>C b A (K b I)⟩
 |false=>
  cases c with
  |sl e k xs=>
   obtain ⟨D,cs,L,C,H,E,G⟩:=h;exact ⟨D,cs,L,C,H,E,fun b A=>J b (by rw [E];simp only[A6];exact .inl A) (G b A)⟩
  |_=>exact h
theorem OCs.low {n m:Nat->Prop}{B:Nat}:∀{cts:List (Bool×CT)}{vs:List Value}{F:List Nat},OCs w B n cts vs F->(∀b,m b->n b)->(∀b∈F,n b->m b)->OCs w B m cts vs F
 | [],_,_,h,_,_=>h
 |_::_,_,_,⟨v,vs,F1,F2,e1,e2,h3,h4⟩,h1,h2=>⟨v,vs,F1,F2,e1,e2,h3.low h1 fun b A=>h2 b (by simp [e2,A]),h4.low h1 fun b A=>h2 b (by simp [e2,A])⟩
theorem Zi2 {st st':St}:∀{xs:List AV}{cts:List (Bool×CT)}{ks:List Nat},XB st xs=some (cts,ks)->(∀j∈ks,st'.ob j=st.ob j)->XB st' xs=some (cts,ks)
 | [],_,_,h,_=>h
 |x::r,cts,ks,h,hk=>by
  simp only[XB]at h ⊢;obtain ⟨⟨G,C⟩,A,h⟩:=AB.1 h;obtain ⟨⟨c2,H⟩,E,h⟩:=AA.1 h;simp only[A9]at h;obtain ⟨rfl,rfl⟩:=h;have F:ZgW st' x=some (G,C):=by
   cases x with
   |row k=>
    simp only[ZgW]at A ⊢;split at A
    .rename_i e m xs d a;split at A
     .rename_i D;simp only[A0,A9]at A;obtain ⟨rfl,rfl⟩:=A;rw [hk k yG,a];simp [D]
     .simp at A
    .simp at A
   |c y=>cases y<;>exact A
   |nil e m=>exact A
   |n _=>exact A
   |dead=>exact A
  rw [F,Zi2 E fun j B=>hk j (by simp [B])];rfl
theorem ZtW [NW] {a:Nat->Value}{n:Nat->Prop}{l:Bool}{D hi:Nat}{F:Gh}{V:Nat->Prop}{xs:List (Bool×List AV)}{vs:List Value}{v:Value}(E:ZN (PR a w' n l D hi) xs vs) (H:v=(if h:vs.toArray.size=1 then vs.toArray[0] else .tuple vs.toArray))
  (c:∀x u,CR a w' n l D hi x u->AVR F w' x u/\avU V x):SVR F w' (ZaA xs) v/\svU V (ZaA xs):=by
 have f:∀(ys:List AV) (A:List Value),ZN (CR a w' n l D hi) ys A->ZN (AVR F w') ys A/\QK V ys:=fun ys A h=>by
  induction ys generalizing A with
  |nil=>cases A with
   |nil=>exact ⟨trivial,fun _ m=>by simp at m⟩
   |cons _ _=>exact h.elim
  |cons y ys ih=>cases A with
   |nil=>exact h.elim
   |cons u A=>
    obtain ⟨C,B⟩:=ih A h.2;refine ⟨⟨(c y u h.1).1,C⟩,fun z G=>?_⟩;rcases AC.1 G with rfl|G
    .exact (c z u h.1).2
    .exact B z G
 have d:∀(y:Bool×List AV) (u:Value),PR a w' n l D hi y u->PVR F w' y.1 y.2 u/\QK V y.2:=fun y u h=>by
  rcases h with ⟨J,A,rfl,I⟩|⟨J,z,M,I⟩
  .obtain ⟨C,B⟩:=f _ _ I;exact ⟨by rw [J];exact ⟨A,rfl,C⟩,B⟩
  .obtain ⟨C,B⟩:=c z u I;exact ⟨by rw [J];exact ⟨z,M,C⟩,by rw [M];intro q K;simp at K;subst K;exact B⟩
 have b:=E.len;by_cases L:xs.length=1
 .obtain ⟨x,rfl⟩:=BU.1 L;cases vs with
  |nil=>simp at b
  |cons u A=>
   cases A with
   |cons _ _=>simp at b
   |nil=>
    have g:v=u:=by rw [H];rfl
    rw [g];exact d x u E.1
 .have j:¬vs.toArray.size=1:=by simp;omega
  rw [dif_neg j]at H;have e:ZaA xs=.tup xs:=by
   cases xs with
   |nil=>rfl
   |cons x xs=>cases xs with
    |nil=>simp at L
    |cons _ _=>rfl
  rw [e];refine ⟨⟨vs,H,E.mono fun y u _ h=>(d y u h).1⟩,fun y N=>?_⟩;obtain ⟨i,k⟩:=BB.1 N;obtain ⟨u,_,O⟩:=E.at k;exact (d y u O).2
theorem Zv2 {v:SV}{A:Nat×Nat×List (Bool×CT)×List Nat}(h:Zez st v=some A):∃ds,v=.bp A.1 0/\st.ob A.1=.box A.2.1 ds/\XB st ds=some (A.2.2.1,A.2.2.2)/\A.2.2.2.Nodup:=by
 unfold Zez at h;split at h
 .rename_i k;split at h
  .rename_i t ds C;obtain ⟨x,B,h⟩:=AB.1 h;split at h
   .rename_i a;simp only[A0]at h;subst h;exact ⟨ds,rfl,C,B,a⟩
   .simp at h
  .simp at h
 .simp at h
theorem Zkc {st:St}:∀{xs A:List AV}{D c2:List (Bool×CT)}{C B:List Nat},XB st xs=some (D,C)->XB st A=some (c2,B)->XB st (xs++A)=some (D++c2,C++B)
 | [],A,D,c2,C,B,h,h'=>by simp [XB]at h;obtain ⟨rfl,rfl⟩:=h;exact h'
 |x::r,A,D,c2,C,B,h,h'=>by
  simp only[XB,AX]at h ⊢;obtain ⟨⟨J,H⟩,F,h⟩:=AB.1 h;obtain ⟨⟨I,G⟩,E,h⟩:=AA.1 h;simp only[A9]at h;obtain ⟨rfl,rfl⟩:=h;rw [F,Zkc E h'];simp
theorem Zk0 {st:St}:∀{xs:List AV}{c:List (Bool×CT)}{k:List Nat},XB st xs=some (c,k)->xs.length=c.length
 | [],_,_,h=>by simp [XB]at h;simp [h.1]
 |x::r,_,_,h=>by
  simp only[XB]at h;obtain ⟨⟨F,C⟩,D,h⟩:=AB.1 h;obtain ⟨⟨E,B⟩,A,h⟩:=AA.1 h;simp only[A9]at h;obtain ⟨rfl,rfl⟩:=h;simp [Zk0 A]
theorem ZtA [NW] {vs:List SV}{b:List Value}{D:Option (Bool×List (Bool×CT))}{ks:List Nat}(h:ZkJ st vs=some (D,ks)) (A:ZN (SVR g w) vs b):∃ds,XB st ds=some (gvC D,ks)/\∃us,ZN (AVR g w) ds us/\GVr D b us:=by
 unfold ZkJ at h;split at h
 .simp only[A0,A9]at h;obtain ⟨rfl,rfl⟩:=h;cases b with
  |nil=>exact ⟨[],rfl,[],trivial,rfl,rfl⟩
  |cons _ _=>exact A.elim
 .rename_i a xs;obtain ⟨x,C,h⟩:=AA.1 h;simp only[A9]at h;obtain ⟨rfl,rfl⟩:=h;cases b with
  |nil=>exact A.elim
  |cons c cr=>
   cases cr with
   |cons _ _=>exact A.2.elim
   |nil=>
    have hl:=Zk0 C;cases a with
    |true=>
     obtain ⟨us,rfl,B⟩:=A.1;exact ⟨xs,C,us,B,rfl,by rw [<-B.len,hl]⟩
    |false=>
     obtain ⟨y,rfl,B⟩:=A.1;exact ⟨[y],C,[c],⟨B,trivial⟩,rfl,rfl,by rw [<-hl];rfl⟩
 .simp at h
theorem Zlj [NW] (co:MOk P J JF W tt) {f:FuncId}(N:Nat) {vs:List SV}{ah:List Value}{v:SV}{u:List (Nat×Ob)}(h:∃v0 r kh gh l Q B,vs=v0::r/\Zez st v0=some kh/\ZkJ st (r.take N)=some gh/\Z8 st (r.drop N)=some l/\ZhN P J JF f kh.2.1 kh.2.2.1 gh.1 l Q B/\(kh.2.2.2++gh.2).Nodup/\(ZR (r.drop N)).all (Zjx (kh.2.2.2++gh.2))=true/\(ZC key Q).2.2=key/\(ZE key B).2.2<=key+16/\v=ZaA (ZC key Q).1/\u=ZT st (ZR (r.drop N))++(YE (kh.2.2.2++gh.2)++((kh.1,.box kh.2.1 (ZE key B).1)::(ZE key B).2.1))) (hH:HI W g st.ob w) (hU:StU U st) (a2:∀k,key<=k->k<key+16->¬U k) (a3:ZN (SVR g w) vs ah) (_hvU:∀x∈vs,svU U x):
  Zbe P f/\Calls P f ah.toArray w fun e w'=>∃cv,e=.returned cv/\Zv9 W U key st g w v u cv w':=by
 classical
 obtain ⟨v0,r0,⟨k,t,cs,a4⟩,⟨gv,a5⟩,l,Q,B,rfl,hk,hg,hl,hs,a6,a7,bx,hn,rfl,rfl⟩:=h;obtain ⟨ds,rfl,X,ai,_⟩:=Zv2 hk;simp only at hs a7 X ai a6 ⊢;generalize cq:r0.drop N=r at *
 obtain ⟨hc,hC⟩:=hs;refine ⟨hc,?_⟩;cases ah with
 |nil=>exact a3.elim
 |cons c0 cr=>
 obtain ⟨bz,Y⟩:=a3;have b0:ZN (SVR g w) r (cr.drop N):=cq ▸ Y.drop N;obtain ⟨aj,b1,b2⟩:=ZtA hg (Y.take N);have hx:XB st (ds++aj)=some (cs++gvC gv,a4++a5):=Zkc ai b1;generalize cu:a4++a5=ks at *
 have b3:cr=cr.take N++cr.drop N:=(Aw _ _).symm;obtain ⟨g1,i1,i2,i3,i4⟩:=ZjI st (ZR r) hH (fun k=>.inl rfl);let st1:St:=⟨st.sl,Zl st.ob (ZT st (ZR r)),st.n⟩
 have K:∀k,st1.ob k=(if k∈ZR r then Yy (st.ob k) else st.ob k):=i4;have ak:∀k,st1.ob k=st.ob k\/st1.ob k=Yy (st.ob k):=fun k=>by
  rw [K k];split
  .exact .inr rfl
  .exact .inl rfl
 have b4:Z8 st1 r=some l:=by rw [ZdM ak];exact hl
 have a8:=Zoi (st1:=st1) K hl;have b5:∀j,st.ob j≠.gone->U j:=fun j hg=>Classical.byContradiction fun hn=>hg (hU.gone j hn);have R:∀j,obU U (st1.ob j):=Zto hU.ob K;have M:∀j,¬U j->st1.ob j=.gone:=fun j hj=>by
  have e:=hU.gone j hj;rcases ak j with h|h<;>rw [h,e]<;>rfl
 have a9:SVR g1 w (.bp k 0) c0:=bz.less i2 i3;have ba:ZN (SVR g1 w) r (cr.drop N):=b0.mono fun x c _ hx=>hx.less i2 i3;have b6:∀j∈ks,j∉ZR r:=fun j hj hm=>by
  have:=AR.1 a7 j hm;simp [Zjx,hj]at this
 have al:st1.ob k=.box t ds:=by
  rcases ak k with h|h
  .rw [h,X]
  .rw [h,X];rfl
 have b7:XB st1 (ds++aj)=some (cs++gvC gv,ks):=Zi2 hx fun j hj=>by rw [K j,yn (b6 j hj)]
 have ho:=i1.obs k;rw [show Zl st.ob (ZT st (ZR r)) k=.box t ds from al]at ho;obtain ⟨b,us,h1,h2,h3,h4,h5⟩:=ho;obtain ⟨b',h6,h7⟩:=a9;have b8:b'=b:=by rw [h6]at h1;simpa using h1
 subst b8;obtain ⟨am,b9,ca⟩:=b2;have bb:ZN (AVR g1 w) aj am:=b9.mono fun x c _ hx=>AVR.less hx i2 i3;obtain ⟨bc,G⟩:=ZjM (st:=st1) i1 b7 (h5.append bb);have bd:us.length=cs.length:=by rw [<-h5.len,Zk0 ai]
 have aa:k∉ks:=fun m=>by
  obtain ⟨e,m',xs,hr⟩:=G k m;rw [al]at hr;simp at hr
 have be:U k:=b5 k (by rw [X];simp);have ab:∀j∈ks,U j:=fun j hj=>Classical.byContradiction fun hn=>by
  obtain ⟨e,m',xs,hr⟩:=G j hj;rw [M j hn]at hr;simp at hr
 let F:=g1.F ks
 let q:Nat->Prop:=fun x=>g1.own x/\x∈b'::F
 let z:Nat->Prop:=fun x=>g1.own x/\x∉b'::F
 have S:(fun x=>z x\/q x)=g1.own:=funext fun x=>propext ⟨fun h=>h.elim And.left And.left,fun h=>by
  by_cases hm:x∈b'::F
  .exact .inr ⟨h,hm⟩
  .exact .inl ⟨h,hm⟩⟩
 have H:∀x∈F,∃j∈ks,x∈g1.O j++g1.D j:=fun x mx=>ZgO mx;have cb:b'∉F:=fun m=>by
  obtain ⟨j,hj,mj⟩:=H _ m;exact i1.apart k j (fun e=>aa (e ▸ hj)) b' (by simp [h2]) mj
 have d:∀x∈b'::F,(W.heap.size<=x\/W.x x\/W.y x)/\∃cc e,w.heap[x]?=some (.cells cc e (0,0)):=fun x mx=>by
  rcases AC.1 mx with rfl|mx
  .have:=i1.plain k x (by simp [h2]);rw [show Zl st.ob (ZT st (ZR r)) k=.box t ds from al]at this;exact this
  .obtain ⟨j,hj,mj⟩:=H x mx;obtain ⟨e,m',xs,hr⟩:=G j hj;have:=i1.plain j x mj;rw [show Zl st.ob (ZT st (ZR r)) j=.row e m' xs 2 from hr]at this;exact this
 have an:ZwH w (fun x=>z x\/q x) t (cs++gvC gv) c0 b' us am F:=⟨h7,h4,by rw [S];exact bc,⟨AL.2 ⟨cb,i1.nodupF a6⟩,fun _ _=>AI _,fun x mx=>(d x mx).2⟩⟩
 have ao:ZN (Zj4 w fun x=>z x\/q x) l (cr.drop N):=by rw [S];exact ZcB (st:=st1) i1 b4 ba (.inr ⟨a8,fun _ h=>h⟩)
 have cd:q b':=⟨.inl ⟨k,by simp [h2]⟩,yG⟩
 have bf:∀x,q x->x=b'\/∃j∈ks,x∈g1.O j:=fun x hx=>by
  rcases AC.1 hx.2 with h|mx
  .exact .inl h
  .obtain ⟨j,hj,mj⟩:=H x mx;rcases A6.1 mj with m1|m1
   .exact .inr ⟨j,hj,m1⟩
   .rcases hx.1 with ⟨j',bg⟩|hz
    .by_cases e:j=j'
     .subst e;exact absurd rfl ((AF.1 (i1.nodup j)).2.2 x bg x m1)
     .exact absurd (by simp [bg]:x∈g1.O j'++g1.D j') (i1.apart j j' e x mj)
    .exact absurd hz (i1.nz mj)
 have bh:∀x,q x->W.heap.size<=x\/W.x x:=fun x hx=>by
  rcases bf x hx with rfl|⟨j,_,mj⟩
  .exact i1.oy k x (by simp [h2])
  .exact i1.oy j x mj
 rw [b3];refine (hC w z q c0 (cr.take N) (cr.drop N) b' us am F (co.at hH.below) cd (fun x hx=>⟨(bh x hx).elim (co.jf x) (co.xf x),hx.2⟩) (fun x hx=>⟨i1.ownlt hx.1,fun h=>hx.2 h.2,hx.2⟩) bd ca an ao).mono ?_;rintro e w' ⟨cv,n,bi,F',rfl,hr,bj,ce,cf,T,ap,C⟩;have bk:Bel W w':=⟨C.os.trans hH.below.os,C.tape.trans hH.below.tape,C.output.trans hH.below.output,AK hH.below.size C.size,fun i hi hx=>by
  rw [C.block i (AW hi hH.below.size) fun cg=>?_]
  .exact hH.below.block i hi hx
  .rcases bh i cg with h|h
   .omega
   .exact hx h⟩
 obtain ⟨aq,O,D,hB,hA⟩:=QS (l:=true) key (by simpa using T.ocs) (fun _=>rfl);obtain ⟨cw,RF,bl,cy,ch⟩:=hr;obtain ⟨bm,O0,D0,cz,bn⟩:=ZjR (l:=true) key bl (fun _=>rfl);rw [bx]at bn;generalize (ZE key B).2.2=hi at *
 generalize (ZE key B).2.1=up at *
 generalize (ZE key B).1=I at *
 generalize (ZC key Q).1=rxs at *
 have hle:=hB.le;have ar:∀j,(key<=j/\j<hi)->¬U j:=fun j hj=>a2 j hj.1 yE;let g':Gh:=⟨fun j=>if key<=j/\j<hi then aq j else g1.val j,fun j=>if key<=j/\j<hi then O j else if j∈ks then [] else g1.O j,fun j=>if key<=j/\j<hi then D j else if j∈ks then [] else g1.D j,g1.Z⟩
 have gT:∀j,(key<=j/\j<hi)->g'.val j=aq j/\g'.O j=O j/\g'.D j=D j:=fun j hj=>⟨yp hj,yp hj,yp hj⟩
 have gK:∀j∈ks,g'.O j=[]/\g'.D j=[]:=fun j hj=>by
  have hn:¬(key<=j/\j<hi):=fun h=>ar j h (ab j hj);exact ⟨by simp only[g',yn hn,yp hj],by simp only[g',yn hn,yp hj]⟩
 have gV:∀j,¬(key<=j/\j<hi)->g'.val j=g1.val j:=fun j hj=>yn hj;have gN:∀j,¬(key<=j/\j<hi)->j∉ks->g'.O j=g1.O j/\g'.D j=g1.D j:=fun j hj hk=>⟨by simp only[g',yn hj,yn hk],by simp only[g',yn hj,yn hk]⟩
 have as:∀j,(key<=j/\j<hi)->∀x∈O j++D j,x∈F':=fun j hj x mx=>by
  rw [hB.foot];exact AE.2 ⟨j,AS.2 ⟨hj.1,yE⟩,mx⟩
 have ac:=(AL.1 T.own.nodup)
 have ad:=ZfA (hB.foot ▸ ac.2);have ae:∀j,U j->g'.val j=g1.val j:=fun j hj=>gV j fun h=>ar j h hj;have cx:¬(key<=k/\k<hi):=fun h=>ar k h be;have au:∀x∈F,g1.low x:=fun x mx=>by
  obtain ⟨j,_,mj⟩:=H x mx;rcases A6.1 mj with m1|m1
  .exact .inl (.inl ⟨j,m1⟩)
  .exact .inr ⟨j,m1⟩
 have bo:∀j,(key<=j/\j<hi)->∀x∈O j,n x:=fun j hj x mx=>by
  obtain ⟨_,_,_,_,_,_,_,_,_,p6⟩:=hB.at_ j hj.1 hj.2;exact p6 x mx
 have av:∀x,g'.own x->g1.own x\/w.heap.size<=x:=fun x hx=>by
  rcases hx with ⟨j,mj⟩|hz
  .by_cases hj:key<=j/\j<hi
   .rw [(gT j hj).2.1]at mj;rcases cf x (bo j hj x mj) with h|h|h
    .exact .inl h.1
    .exact .inl h.1
    .exact .inr h
   .by_cases a:j∈ks
    .rw [(gK j a).1]at mj;simp at mj
    .rw [(gN j hj a).1]at mj;exact .inl (.inl ⟨j,mj⟩)
  .exact .inl (.inr hz)
 have af:Zai g1 g' w.heap.size:=.of av fun j x mj=>by
  by_cases hj:key<=j/\j<hi
  .rw [(gT j hj).2.2]at mj;exact (ap x (as j hj x (by simp [mj]))).imp (au x) id
  .by_cases a:j∈ks
   .rw [(gK j a).2]at mj;simp at mj
   .rw [(gN j hj a).2]at mj;exact .inl (.inr ⟨j,mj⟩)
 have ci:∀x,x<w.heap.size->¬g1.own x->w'.heap[x]?=w.heap[x]?:=fun x hx cj=>C.block x hx fun hq=>cj hq.1;have aw:∀x c,svU U x->SVR g1 w x c->SVR g' w' x c:=fun x c hx hc=>hc.move hx ae ci af C.size;have V:∀x,g'.own x->n x:=fun x hx=>by
  rcases hx with ⟨j,mj⟩|hz
  .by_cases hj:key<=j/\j<hi
   .rw [(gT j hj).2.1]at mj;exact bo j hj x mj
   .by_cases a:j∈ks
    .rw [(gK j a).1]at mj;simp at mj
    .rw [(gN j hj a).1]at mj;by_cases e:j=k
     .subst e;rw [h2]at mj;simp only[Ah]at mj;rw [mj];exact ce
     .refine bj x ⟨.inl ⟨j,mj⟩,fun m=>?_⟩;rcases AC.1 m with rfl|m
      .exact i1.apart k j (fun h=>e h.symm) x (by simp [h2]) (by simp [mj])
      .obtain ⟨i,ax,mi⟩:=H x m;exact i1.apart i j (fun h=>a (h ▸ ax)) x mi (by simp [mj])
  .refine bj x ⟨.inr hz,fun m=>?_⟩;rcases AC.1 m with rfl|m
   .exact i1.nz (k:=k) (by simp [h2]) hz
   .obtain ⟨i,_,mi⟩:=H x m;exact i1.nz mi hz
 have bq:∀x c,CR aq w' n true key hi x c->AVR g' w' x c/\avU (Uk U key) x:=fun x c h=>by
  cases x with
  |row j=>
   obtain ⟨c1,c2,c3,c4⟩:=h;exact ⟨⟨by rw [(gT j ⟨c1,c2⟩).1];exact c3,c4⟩,.inr ⟨c1,yE⟩⟩
  |c y=>
   obtain ⟨L,h1,h2⟩:=h;exact ⟨⟨L,h1,fun x mx o=>(h2 x mx).2 (V x o)⟩,trivial⟩
  |n _=>exact h.elim
  |nil _ _=>exact h.elim
  |dead=>exact h.elim
 have br:∀x c,CR bm w' n true key key x c->AVR g' w' x c/\avU (Uk U key) x:=fun x c h=>by
  cases x with
  |row j=>obtain ⟨c1,c2,_⟩:=h;omega
  |c y=>
   obtain ⟨L,h1,h2⟩:=h;exact ⟨⟨L,h1,fun x mx o=>(h2 x mx).2 (V x o)⟩,trivial⟩
  |n _=>exact h.elim
  |nil _ _=>exact h.elim
  |dead=>exact h.elim
 obtain ⟨ay,az⟩:=ZtW bn ch br;have ag:ZN (AVR g' w') I bi/\QK (Uk U key) I:=⟨hA.mono fun x c _ h=>(bq x c h).1,fun x mx=>by
  obtain ⟨i,ax⟩:=BB.1 mx;obtain ⟨c,_,ct⟩:=hA.at ax;exact (bq x c ct).2⟩
 let cn:Nat->Ob:=upd (Zl st1.ob (YE ks)) k (.box t I)
 have a0:Zl st.ob (ZT st (ZR r)++(YE ks++((k,.box t I)::up)))=Zl cn up:=by rw [YL,YL];rfl
 have bs:∀j,cn j=if j=k then .box t I else if j∈ks then .gone else st1.ob j:=fun j=>by
  show upd (Zl st1.ob (YE ks)) k (.box t I) j=_
  unfold upd;split
  .rfl
  .exact Zgo ks st1.ob j
 have E:∀j,¬(key<=j/\j<hi)->Zl cn up j=if j=k then .box t I else if j∈ks then .gone else st1.ob j:=fun j hj=>by rw [hB.out j hj];exact bs j
 have bt:∀j,(key<=j/\j<hi)->b'∉O j++D j:=fun j hj m=>ac.1 (as j hj b' m);have ck:HI W g' (Zl cn up) w':=by
  refine i1.step (U:=U) (fun j=>(key<=j/\j<hi)\/j∈ks\/j=k) bk rfl (fun x hx hq=>C.block x hx fun bu=>?_) (fun j hj=>?_) R ae af (fun j hj=>?_)
  .rcases bf x bu with rfl|⟨j,hj,mj⟩
   .exact hq k (.inr (.inr rfl)) (by simp [h2])
   .exact hq j (.inr (.inl hj)) mj
  .have j1:¬(key<=j/\j<hi):=fun h=>hj (.inl h);have j2:j∉ks:=fun h=>hj (.inr (.inl h));have j3:¬j=k:=fun h=>hj (.inr (.inr h));exact ⟨by rw [E j j1,yn j3,yn j2],gV j j1,(gN j j1 j2).1,(gN j j1 j2).2⟩
  .by_cases hT:key<=j/\j<hi
   .obtain ⟨e1,e2,e3⟩:=gT j hT;obtain ⟨e,m,ys,bv,p1,p2,p3,p4,p5,_⟩:=hB.at_ j hT.1 hT.2;rw [p1,e2,e3];refine ⟨⟨p2,bv,D j,?_,p4,.inl ⟨rfl,by rw [e1,e2];exact p5,e3⟩⟩,ad.1 j hT.1 yE,fun x mx=>?_,fun i a1 x mx mi=>?_⟩
    .rw [e1];exact Zk2 p3 (AI _)
    .refine ⟨?_,T.own.plain x (by simp [as j hT x mx])⟩;rcases ap x (as j hT x mx) with h|h
     .exact (d x (by simp [h])).1
     .exact .inl (AK hH.below.size h)
    .by_cases p:key<=i/\i<hi
     .rw [(gT i p).2.1,(gT i p).2.2]at mi;exact ad.2 j i hT.1 yE p.1 yE a1 x mx mi
     .by_cases A:i∈ks
      .rw [(gK i A).1,(gK i A).2]at mi;simp at mi
      .rw [(gN i p A).1,(gN i p A).2]at mi;rcases ap x (as j hT x mx) with h|h
       .obtain ⟨i',cl,cm⟩:=H x h;exact i1.apart i' i (by rintro rfl;exact A cl) x cm mi
       .have:=i1.lt i x mi;omega
   .by_cases a:j∈ks
    .obtain ⟨e2,e3⟩:=gK j a;rw [E j hT,yn (fun h:j=k=>aa (h ▸ a)),yp a,e2,e3];exact ⟨⟨e2,e3⟩,yG,yG,yG⟩
    .obtain rfl:j=k:=by
      rcases hj with h|h|h
      .exact absurd h hT
      .exact absurd h a
      .exact h
     obtain ⟨e2,e3⟩:=gN j hT a;rw [E j hT,yp rfl,e2,e3,h2,h3];refine ⟨⟨b',bi,by rw [gV j hT];exact h1,by rw [e2,h2],by rw [e3,h3],T.cell,ag.1⟩,yG,fun x mx=>?_,fun i a1 x mx mi=>?_⟩
     .simp at mx;subst mx;exact ⟨(d x yG).1,_,_,T.cell⟩
     .simp at mx;subst mx;by_cases p:key<=i/\i<hi
      .rw [(gT i p).2.1,(gT i p).2.2]at mi;exact bt i p mi
      .by_cases A:i∈ks
       .rw [(gK i A).1,(gK i A).2]at mi;simp at mi
       .rw [(gN i p A).1,(gN i p A).2]at mi;exact i1.apart j i a1 x (by simp [h2]) mi
 refine ⟨cv,rfl,g',?_,ay,fun x c hx hc=>aw x c hx (hc.less i2 i3),az,fun j=>?_,fun j hj=>?_⟩
 .rw [a0];exact ck
 .rw [a0];by_cases hT:key<=j/\j<hi
  .obtain ⟨e,m,ys,bv,p1,_⟩:=hB.at_ j hT.1 hT.2;rw [p1];trivial
  .rw [E j hT];split
   .exact ag.2
   .split
    .trivial
    .exact (R j).mono fun _=>.inl
 .have hT:¬(key<=j/\j<hi):=fun h=>hj (.inr ⟨h.1,yE⟩);have a:j∉ks:=fun h=>hj (.inl (ab j h));have bw:¬j=k:=fun h=>hj (.inl (h ▸ be));rw [a0,E j hT,yn bw,yn a];exact M j fun h=>hj (.inl h)
theorem ZrK [NW] (bl:MOk P J JF W tt) {f:FuncId}{vs:List SV}{R:List Value}{v:SV}{u:List (Nat×Ob)}(h:Za3 (SC P J JF hd) f 7 key st vs v u) (hH:HI W g st.ob w) (hU:StU U st) (ag:∀k,key<=k->k<key+16->¬U k) (ah:ZN (SVR g w) vs R) (_hvU:∀x∈vs,svU U x):
  Zbe P f/\Calls P f R.toArray w fun e w'=>∃cv,e=.returned cv/\Zv9 W U key st g w v u cv w':=by
 classical
 obtain ⟨v0,r,gv,ks,l,S,rfl,hg,hl,hs,a0,a1,hn,rfl,rfl⟩:=h;obtain ⟨hc,hC⟩:=hs;refine ⟨hc,?_⟩;cases R with
 |nil=>exact ah.elim
 |cons c0 cr=>
 obtain ⟨a2,a3⟩:=ah;obtain ⟨ds,hx,us,a4,a5⟩:=ZtA hg (show ZN (SVR g w) [v0] [c0] from ⟨a2,trivial⟩);obtain ⟨g1,i1,i2,i3,i4⟩:=ZjI st (ZR r) hH (fun k=>.inl rfl);let st1:St:=⟨st.sl,Zl st.ob (ZT st (ZR r)),st.n⟩
 have p:∀k,st1.ob k=(if k∈ZR r then Yy (st.ob k) else st.ob k):=i4;have ai:∀k,st1.ob k=st.ob k\/st1.ob k=Yy (st.ob k):=fun k=>by
  rw [p k];split
  .exact .inr rfl
  .exact .inl rfl
 have a6:Z8 st1 r=some l:=by rw [ZdM ai];exact hl
 have aj:=Zoi (st1:=st1) p hl;have C:∀j,obU U (st1.ob j):=Zto hU.ob p;have t:∀j,¬U j->st1.ob j=.gone:=fun j hj=>by
  have e:=hU.gone j hj;rcases ai j with h|h<;>rw [h,e]<;>rfl
 have ak:ZN (SVR g1 w) r cr:=a3.mono fun x c _ hx=>hx.less i2 i3;have a7:∀j∈ks,j∉ZR r:=fun j hj hm=>by
  have:=AR.1 a1 j hm;simp [Zjx,hj]at this
 have a8:XB st1 ds=some (gv.2,ks):=Zi2 hx fun j hj=>by rw [p j,yn (a7 j hj)]
 have al:ZN (AVR g1 w) ds us:=a4.mono fun x c _ hx=>AVR.less hx i2 i3;obtain ⟨am,E⟩:=ZjM (st:=st1) i1 a8 al;have K:∀j∈ks,U j:=fun j hj=>Classical.byContradiction fun hn=>by
  obtain ⟨e,m',xs,hr⟩:=E j hj;rw [t j hn]at hr;simp at hr
 let F:=g1.F ks
 let q:Nat->Prop:=fun x=>g1.own x/\x∈F
 let z:Nat->Prop:=fun x=>g1.own x/\x∉F
 have G:(fun x=>z x\/q x)=g1.own:=funext fun x=>propext ⟨fun h=>h.elim And.left And.left,fun h=>by
  by_cases hm:x∈F
  .exact .inr ⟨h,hm⟩
  .exact .inl ⟨h,hm⟩⟩
 have B:∀x∈F,∃j∈ks,x∈g1.O j++g1.D j:=fun x mx=>ZgO mx;have b:∀x∈F,(W.heap.size<=x\/W.x x\/W.y x)/\∃a9 e,w.heap[x]?=some (.cells a9 e (0,0)):=fun x mx=>by
  obtain ⟨j,hj,mj⟩:=B x mx;obtain ⟨e,m',xs,hr⟩:=E j hj;have:=i1.plain j x mj;rw [show Zl st.ob (ZT st (ZR r)) j=.row e m' xs 2 from hr]at this;exact this
 have T:ZN (Zj4 w fun x=>z x\/q x) l cr:=by rw [G];exact ZcB (st:=st1) i1 a6 ak (.inr ⟨aj,fun _ h=>h⟩)
 have an:∀x,q x->∃j∈ks,x∈g1.O j:=fun x hx=>by
  obtain ⟨j,hj,mj⟩:=B x hx.2;rcases A6.1 mj with m1|m1
  .exact ⟨j,hj,m1⟩
  .rcases hx.1 with ⟨j',ao⟩|hz
   .by_cases e:j=j'
    .subst e;exact absurd rfl ((AF.1 (i1.nodup j)).2.2 x ao x m1)
    .exact absurd (by simp [ao]:x∈g1.O j'++g1.D j') (i1.apart j j' e x mj)
   .exact absurd hz (i1.nz mj)
 have ap:∀x,q x->W.heap.size<=x\/W.x x:=fun x hx=>by
  obtain ⟨j,_,mj⟩:=an x hx;exact i1.oy j x mj
 refine (hC w z q [c0] cr us F (bl.at hH.below) (fun x hx=>⟨(ap x hx).elim (bl.jf x) (bl.xf x),hx.2⟩) (fun x hx=>⟨i1.ownlt hx.1,fun h=>hx.2 h.2,hx.2⟩) a5 (by rw [G];exact am) ⟨i1.nodupF a0,fun _ _=>AI _,fun x mx=>(b x mx).2⟩ T).mono ?_;rintro e w' ⟨cv,n,bm,F',rfl,aq,ar,ba,au,bb,V,d⟩;have av:Bel W w':=⟨d.os.trans hH.below.os,d.tape.trans hH.below.tape,d.output.trans hH.below.output,AK hH.below.size d.size,fun i hi hx=>by
  rw [d.block i (AW hi hH.below.size) fun bc=>?_]
  .exact hH.below.block i hi hx
  .rcases ap i bc with h|h
   .omega
   .exact hx h⟩
 obtain ⟨X,O,D,hB,hA⟩:=ZjR (l:=true) key aq (fun _=>rfl);generalize (ZC key S).2.2=hi at *
 generalize (ZC key S).2.1=up at *
 generalize (ZC key S).1=rxs at *
 have hle:=hB.le;have aw:∀j,(key<=j/\j<hi)->¬U j:=fun j hj=>ag j hj.1 yE;let g':Gh:=⟨fun j=>if key<=j/\j<hi then X j else g1.val j,fun j=>if key<=j/\j<hi then O j else if j∈ks then [] else g1.O j,fun j=>if key<=j/\j<hi then D j else if j∈ks then [] else g1.D j,g1.Z⟩
 have gT:∀j,(key<=j/\j<hi)->g'.val j=X j/\g'.O j=O j/\g'.D j=D j:=fun j hj=>⟨yp hj,yp hj,yp hj⟩
 have gK:∀j∈ks,g'.O j=[]/\g'.D j=[]:=fun j hj=>by
  have hn:¬(key<=j/\j<hi):=fun h=>aw j h (K j hj);exact ⟨by simp only[g',yn hn,yp hj],by simp only[g',yn hn,yp hj]⟩
 have gV:∀j,¬(key<=j/\j<hi)->g'.val j=g1.val j:=fun j hj=>yn hj;have gN:∀j,¬(key<=j/\j<hi)->j∉ks->g'.O j=g1.O j/\g'.D j=g1.D j:=fun j hj hk=>⟨by simp only[g',yn hj,yn hk],by simp only[g',yn hj,yn hk]⟩
 have as:∀j,(key<=j/\j<hi)->∀x∈O j++D j,x∈F':=fun j hj x mx=>by
  rw [hB.foot];exact AE.2 ⟨j,AS.2 ⟨hj.1,yE⟩,mx⟩
 have M:=ZfA (hB.foot ▸ ar.nodup);have N:∀j,U j->g'.val j=g1.val j:=fun j hj=>gV j fun h=>aw j h hj;have Y:∀x∈F,g1.low x:=fun x mx=>by
  obtain ⟨j,_,mj⟩:=B x mx;rcases A6.1 mj with m1|m1
  .exact .inl (.inl ⟨j,m1⟩)
  .exact .inr ⟨j,m1⟩
 have ax:∀j,(key<=j/\j<hi)->∀x∈O j,n x:=fun j hj x mx=>by
  obtain ⟨_,_,_,_,_,_,_,_,_,p6⟩:=hB.at_ j hj.1 hj.2;exact p6 x mx
 have aa:∀x,g'.own x->g1.own x\/w.heap.size<=x:=fun x hx=>by
  rcases hx with ⟨j,mj⟩|hz
  .by_cases hj:key<=j/\j<hi
   .rw [(gT j hj).2.1]at mj;rcases bb x (ax j hj x mj) with h|h|h
    .exact .inl h.1
    .exact .inl h.1
    .exact .inr h
   .by_cases a:j∈ks
    .rw [(gK j a).1]at mj;simp at mj
    .rw [(gN j hj a).1]at mj;exact .inl (.inl ⟨j,mj⟩)
  .exact .inl (.inr hz)
 have Q:Zai g1 g' w.heap.size:=.of aa fun j x mj=>by
  by_cases hj:key<=j/\j<hi
  .rw [(gT j hj).2.2]at mj;exact (V x (as j hj x (by simp [mj]))).imp (Y x) id
  .by_cases a:j∈ks
   .rw [(gK j a).2]at mj;simp at mj
   .rw [(gN j hj a).2]at mj;exact .inl (.inr ⟨j,mj⟩)
 have bd:∀x,x<w.heap.size->¬g1.own x->w'.heap[x]?=w.heap[x]?:=fun x hx be=>d.block x hx fun hq=>be hq.1;have ab:∀x c,svU U x->SVR g1 w x c->SVR g' w' x c:=fun x c hx hc=>hc.move hx N bd Q d.size;have ac:∀x,g'.own x->n x:=fun x hx=>by
  rcases hx with ⟨j,mj⟩|hz
  .by_cases hj:key<=j/\j<hi
   .rw [(gT j hj).2.1]at mj;exact ax j hj x mj
   .by_cases a:j∈ks
    .rw [(gK j a).1]at mj;simp at mj
    .rw [(gN j hj a).1]at mj;refine au x ⟨.inl ⟨j,mj⟩,fun m=>?_⟩;obtain ⟨i,bf,mi⟩:=B x m;exact i1.apart i j (fun h=>a (h ▸ bf)) x mi (by simp [mj])
  .refine au x ⟨.inr hz,fun m=>?_⟩;obtain ⟨i,_,mi⟩:=B x m;exact i1.nz mi hz
 have bg:∀x c,CR X w' n true key hi x c->AVR g' w' x c/\avU (Uk U key) x:=fun x c h=>by
  cases x with
  |row j=>
   obtain ⟨c1,c2,c3,c4⟩:=h;exact ⟨⟨by rw [(gT j ⟨c1,c2⟩).1];exact c3,c4⟩,.inr ⟨c1,yE⟩⟩
  |c y=>
   obtain ⟨L,h1,h2⟩:=h;exact ⟨⟨L,h1,fun x mx o=>(h2 x mx).2 (ac x o)⟩,trivial⟩
  |n _=>exact h.elim
  |nil _ _=>exact h.elim
  |dead=>exact h.elim
 obtain ⟨ad,ae⟩:=ZtW hA ba bg;have af:Zl st.ob (ZT st (ZR r)++(YE ks++up))=Zl (Zl st1.ob (YE ks)) up:=by rw [YL,YL]
 have A:∀j,¬(key<=j/\j<hi)->Zl (Zl st1.ob (YE ks)) up j=if j∈ks then .gone else st1.ob j:=fun j hj=>by rw [hB.out j hj];exact Zgo ks st1.ob j
 have bh:HI W g' (Zl (Zl st1.ob (YE ks)) up) w':=by
  refine i1.step (U:=U) (fun j=>(key<=j/\j<hi)\/j∈ks) av rfl (fun x hx hq=>d.block x hx fun ay=>?_) (fun j hj=>?_) C N Q (fun j hj=>?_)
  .obtain ⟨j,hj,mj⟩:=an x ay;exact hq j (.inr hj) mj
  .have j1:¬(key<=j/\j<hi):=fun h=>hj (.inl h);have j2:j∉ks:=fun h=>hj (.inr h);exact ⟨by rw [A j j1,yn j2],gV j j1,(gN j j1 j2).1,(gN j j1 j2).2⟩
  .by_cases hT:key<=j/\j<hi
   .obtain ⟨e1,e2,e3⟩:=gT j hT;obtain ⟨e,m,ys,az,p1,p2,p3,p4,p5,_⟩:=hB.at_ j hT.1 hT.2;rw [p1,e2,e3];refine ⟨⟨p2,az,D j,?_,p4,.inl ⟨rfl,by rw [e1,e2];exact p5,e3⟩⟩,M.1 j hT.1 yE,fun x mx=>?_,fun i bi x mx mi=>?_⟩
    .rw [e1];exact Zk2 p3 (AI _)
    .refine ⟨?_,ar.plain x (as j hT x mx)⟩;rcases V x (as j hT x mx) with h|h
     .exact (b x h).1
     .exact .inl (AK hH.below.size h)
    .by_cases H:key<=i/\i<hi
     .rw [(gT i H).2.1,(gT i H).2.2]at mi;exact M.2 j i hT.1 yE H.1 yE bi x mx mi
     .by_cases I:i∈ks
      .rw [(gK i I).1,(gK i I).2]at mi;simp at mi
      .rw [(gN i H I).1,(gN i H I).2]at mi;rcases V x (as j hT x mx) with h|h
       .obtain ⟨i',bj,bk⟩:=B x h;exact i1.apart i' i (by rintro rfl;exact I bj) x bk mi
       .have:=i1.lt i x mi;omega
   .have a:j∈ks:=hj.resolve_left hT;obtain ⟨e2,e3⟩:=gK j a;rw [A j hT,yp a,e2,e3];exact ⟨⟨e2,e3⟩,yG,yG,yG⟩
 refine ⟨cv,rfl,g',?_,ad,fun x c hx hc=>ab x c hx (hc.less i2 i3),ae,fun j=>?_,fun j hj=>?_⟩
 .rw [af];exact bh
 .rw [af];by_cases hT:key<=j/\j<hi
  .obtain ⟨e,m,ys,az,p1,_⟩:=hB.at_ j hT.1 hT.2;rw [p1];trivial
  .rw [A j hT];split
   .trivial
   .exact (C j).mono fun _=>.inl
 .have hT:¬(key<=j/\j<hi):=fun h=>hj (.inr ⟨h.1,yE⟩);have a:j∉ks:=fun h=>hj (.inl (K j h));rw [af,A j hT,yn a];exact t j fun h=>hj (.inl h)
theorem ZiZ [NW] (as:MOk P J JF W tt) {f:FuncId}{n:Nat}{vs:List SV}{I:List Value}{v:SV}{u:List (Nat×Ob)}(h:Za3 (SC P J JF hd) f n key st vs v u) (hH:HI W g st.ob w) (hU:StU U st) (B:∀k,key<=k->k<key+16->¬U k) (E:ZN (SVR g w) vs I) (R:∀x∈vs,svU U x):
  Zbe P f/\Calls P f I.toArray w fun e w'=>∃cv,e=.returned cv/\Zv9 W U key st g w v u cv w':=by
 unfold Za3 at h;split at h
 .exact Zmc as (f:=f) (vs:=vs) h hH hU B E R
 .obtain ⟨v0,r,k,hh,l,N,h',rfl,hk,hl,hs,a0,hn,rfl,rfl⟩:=h;obtain ⟨hc,hC⟩:=hs;refine ⟨hc,?_⟩;cases I with
  |nil=>exact E.elim
  |cons c0 cr=>
  obtain ⟨a1,a2⟩:=E;obtain ⟨g1,i1,i2,i3,i4⟩:=ZjI st (ZR r) hH (fun k=>.inl rfl);let st1:St:=⟨st.sl,Zl st.ob (ZT st (ZR r)),st.n⟩
  have a:∀k,st1.ob k=(if k∈ZR r then Yy (st.ob k) else st.ob k):=i4;have F:∀k,st1.ob k=st.ob k\/st1.ob k=Yy (st.ob k):=fun k=>by
   rw [a k];split
   .exact .inr rfl
   .exact .inl rfl
  have S:Z8 st1 r=some l:=by rw [ZdM F];exact hl
  have G:=Zoi (st1:=st1) a hl;have a3:k∉ZR r:=fun hm=>by
   have:=AR.1 a0 k hm;simp at this
  have ap:st1.ob k=st.ob k:=by rw [a k,yn a3]
  have a4:st.ob k≠.gone->U k:=fun hg=>Classical.byContradiction fun hn=>hg (hU.gone k hn);have A:∀j,obU U (st1.ob j):=Zto hU.ob a;have z:∀j,¬U j->st1.ob j=.gone:=fun j hj=>by
   have e:=hU.gone j hj;rcases F j with h|h<;>rw [h,e]<;>rfl
  have ag:SVR g1 w v0 c0:=a1.less i2 i3;have aq:ZN (SVR g1 w) r cr:=a2.mono fun x c _ hx=>hx.less i2 i3;have aj:∃q:Option Nat,ZwB w (inQ (fun b=>g1.own b/\¬q=some b) q) q hh c0/\g1.O k=q.toList/\g1.D k=[]/\c0=g1.val k/\st.ob k≠.gone:=by
   unfold Zhz at hk;split at hk
   .rename_i k';split at hk
    .rename_i t cs K;split at hk
     .rename_i a5;obtain ⟨l',a6,e⟩:=AA.1 hk;simp only[A9]at e;obtain ⟨rfl,rfl⟩:=e;have ho:=i1.obs k';rw [show Zl st.ob (ZT st (ZR r)) k'=.box t cs from ap.trans K]at ho;obtain ⟨b,vs,h1,h2,h3,h4,h5⟩:=ho;obtain ⟨b',h6,h7⟩:=ag;have hb:b'=b:=by rw [h6]at h1;simpa using h1
      subst hb;have ar:XF st1 cs=some l':=by
       have:=Zrb F (.p true cs);simp only[ZeG,a6]at this;obtain ⟨x,hx,Q⟩:=AA.1 this;simp only[A9,true_and]at Q;rw [hx,Q]
      obtain ⟨L,hL,a7⟩:=Zmk (st:=st1) i1 ar h5;refine ⟨some b',⟨b',vs,L,rfl,h7,h4,hL,fun x mx hx=>?_⟩,by simp [h2],h3,by rw [h7,h6],by rw [K];simp⟩;refine a7 (fun y my=>?_) x mx ?_
      .have:=AR.1 a5 y my;cases y<;>simp [Zd0]at this<;>trivial
      .rcases hx with hx|hx
       .exact hx.1
       .simp only[A0]at hx;subst hx;exact .inl ⟨k',by simp [h2]⟩
     .simp at hk
    .simp at hk
   .rename_i k';split at hk
    .rename_i e m xs d K;split at hk
     .rename_i au;simp only[A0,A9]at hk;obtain ⟨rfl,rfl⟩:=hk;have ho:=i1.obs k';rw [show Zl st.ob (ZT st (ZR r)) k'=.row e m xs d from ap.trans K]at ho;obtain ⟨hm,cs,L,h1,h2,h3⟩:=ho;obtain rfl:=ZlR h2 au.2;obtain ⟨x,av,Q⟩:=ag;simp only[Aj,and_true]at av;subst av;rcases h3 with ⟨_,h3,h4⟩|⟨h3,_⟩|⟨h3,_⟩
      .exact ⟨(g1.val k').ownBlock,⟨au.2,hm,by rw [Q.1],cs,by rw [Q.1];exact h1,h2⟩,h3,h4,Q.1,by rw [K];simp⟩
      .omega
      .omega
     .simp at hk
    .simp at hk
   .simp at hk
  obtain ⟨q,a8,H,Y,ak,a9⟩:=aj;have al:=a4 a9;have ba:∀b,q=some b->g1.own b:=fun b hb=>.inl ⟨k,by simp [H,hb]⟩;have aw:∀b,g1.own b->inQ (fun b=>g1.own b/\¬q=some b) q b:=fun b hb=>by
   by_cases aa:q=some b
   .exact .inr aa
   .exact .inl ⟨hb,aa⟩
  have am:ZN (Zj4 w (inQ (fun b=>g1.own b/\¬q=some b) q)) l cr:=ZcB (st:=st1) i1 S aq (.inr ⟨G,fun b hb=>by
   rcases hb with hb|hb
   .exact hb.1
   .exact ba b hb⟩)
  have bb:∀b,q=some b->JF b:=fun b hb=>by
   rcases i1.oy k b (by simp [H,hb]) with h|h
   .exact as.jf b h
   .exact as.xf b h
  refine (hC w _ q c0 cr (as.at hH.below) bb (fun b hb=>⟨i1.ownlt hb.1,hb.2⟩) a8 am).mono ?_;rintro e w' ⟨cv,n,rfl,hr,hz,ab,M⟩;have C:Bel W w':=⟨M.os.trans hH.below.os,M.tape.trans hH.below.tape,M.output.trans hH.below.output,AK hH.below.size M.size,fun i hi hx=>by
   rw [M.block i (AW hi hH.below.size) fun bc=>?_]
   .exact hH.below.block i hi hx
   .rcases i1.oy k i (by simp [H,bc]) with h|h
    .omega
    .exact hx h⟩
  obtain ⟨g',t1,t2,t3,t4,t5,t6⟩:=ZjU i1 A z B hr hn (fun j=>j=k) (fun j hj=>by rw [hj];exact al) (fun _=>Zfp h') (fun _ b hb=>hz b (aw b hb)) C M.size
   (fun b hb bd=>M.block b hb fun aa=>bd k rfl (by simp [H,aa]))
   (fun j _=>by
    cases h' with
    |row e m xs=>trivial
    |box t cs=>intro y my;simp only[AM]at my;obtain ⟨x,_,rfl⟩:=my;trivial)
   (fun g' ho be j hj=>by
    subst hj;obtain ⟨e1,e2,e3⟩:=be j rfl;have an:∀b,¬n b->¬g'.own b:=fun b ac K=>by
     rcases ho b K with h|h
     .exact ac (hz b (aw b h))
     .exact ac h.2.2
    cases h' with
    |row e m xs=>
     obtain ⟨p1,p2,p3,cs,p4,p5⟩:=ab;refine ⟨⟨p2,cs,[],by rw [e1,<-ak];exact p4,p5,.inl ⟨rfl,by rw [e2,H,e1,<-ak,p3],by rw [e3,Y]⟩⟩,fun b mb=>?_⟩;rw [H,Y]at mb;simp at mb;rcases p4.2 with ⟨h0,_⟩|⟨gg,o,cap,bh,hv,_,bf,_⟩
     .rw [h0]at p3;simp [Value.ownBlock]at p3;rw [<-p3]at mb;simp at mb
     .rw [hv]at p3;simp only[Value.ownBlock]at p3;rw [mb]at p3;simp at p3;subst p3;exact ⟨_,_,bf⟩
    |box t cs=>
     obtain ⟨b,vs,L,p1,p2,p3,p4,p5⟩:=ab;refine ⟨⟨b,vs,by rw [e1,<-ak];exact p2,by rw [e2,H,p1];rfl,by rw [e3,Y],p3,p4.avr fun x mx=>an x (p5 x mx)⟩,fun x mx=>?_⟩;rw [H,Y,p1]at mx;simp at mx;subst mx;exact ⟨_,_,p3⟩)
  have T:Zl st.ob (ZT st (ZR r)++((k,Zfp h')::(ZC key N).2.1))=Zl (upd (Zl st.ob (ZT st (ZR r))) k (Zfp h')) (ZC key N).2.1:=by rw [YL];rfl
  have ao:=ZGU (k:=k) (inst:=fun j=>Classical.propDecidable (j=k)) (Zl st.ob (ZT st (ZR r))) (Zfp h');have ax:HI W g' (Zl (upd (Zl st.ob (ZT st (ZR r))) k (Zfp h')) (ZC key N).2.1) w':=ao ▸ t1;have ay:∀j,obU (Uk U key) (Zl (upd (Zl st.ob (ZT st (ZR r))) k (Zfp h')) (ZC key N).2.1 j):=ao ▸ t5;have az:∀j,¬Uk U key j->Zl (upd (Zl st.ob (ZT st (ZR r))) k (Zfp h')) (ZC key N).2.1 j=.gone:=ao ▸ t6;rw [<-T]at ax ay az;exact ⟨cv,rfl,g',ax,t2,fun x c hx hc=>t3 x c hx (hc.less i2 i3),t4,ay,az⟩
 .obtain ⟨l,nb,hl,hs,rfl,rfl⟩:=h;obtain ⟨hc,hC⟩:=hs;refine ⟨hc,?_⟩;obtain ⟨g1,i1,i2,i3,i4⟩:=ZjI st (ZR vs) hH (fun k=>.inl rfl);let st1:St:=⟨st.sl,Zl st.ob (ZT st (ZR vs)),st.n⟩
  have a:∀k,st1.ob k=(if k∈ZR vs then Yy (st.ob k) else st.ob k):=i4;have F:∀k,st1.ob k=st.ob k\/st1.ob k=Yy (st.ob k):=fun k=>by
   rw [a k];split
   .exact .inr rfl
   .exact .inl rfl
  have S:Z8 st1 vs=some l:=by rw [ZdM F];exact hl
  have G:=Zoi (st1:=st1) a hl;have A:∀j,obU U (st1.ob j):=Zto hU.ob a;have z:∀j,¬U j->st1.ob j=.gone:=fun j hj=>by
   have e:=hU.gone j hj;rcases F j with h|h<;>rw [h,e]<;>rfl
  have V:ZN (SVR g1 w) vs I:=E.mono fun x c _ hx=>hx.less i2 i3;refine (hC w g1.own I (as.at hH.below) (fun b hb=>i1.ownlt hb) (ZcB (st:=st1) i1 S V (.inr ⟨G,fun _ h=>h⟩))).mono ?_;rintro e w' ⟨b,n,rfl,hb,ad,ac,hz,C⟩;have al:¬U key:=B key (AD _) yE;let g':Gh:=⟨fun k=>if k=key then Zzf b nb else g1.val k,fun k=>if k=key then [b] else g1.O k,fun k=>if k=key then [] else g1.D k,g1.Z⟩
  have ah:∀k,U k->g'.val k=g1.val k:=fun k hk=>yn fun (e:k=key)=>al (e ▸ hk);have X:∀x,g'.own x->g1.own x\/x=b:=fun x hx=>by
   rcases hx with ⟨k,mk⟩|hx
   .simp only[g']at mk;split at mk
    .exact .inr (by simpa using mk)
    .exact .inl (.inl ⟨k,mk⟩)
   .exact .inl (.inr hx)
  have ai:Zai g1 g' w.heap.size:=.of (fun x hx=>(X x hx).imp id fun (e:x=b)=>by rw [e];exact hb) fun j x mx=>by
   simp only[g']at mx;split at mx
   .simp at mx
   .exact .inl (.inr ⟨j,mx⟩)
  have an:∀x,¬n x->¬g'.own x:=fun x mx hx=>mx (by
   rcases X x hx with h|h
   .exact hz x h
   .rw [h];exact ac)
  have T:Zl st.ob (ZT st (ZR vs)++[(key,ZzM nb)])=upd (Zl st.ob (ZT st (ZR vs))) key (ZzM nb):=by rw [YL];rfl
  have ae:g'.val key=Zzf b nb:=yp rfl;have af:Qb w' (ZzM nb) b:=by
   cases nb with
   |box t cs=>obtain ⟨us,L,p1,_⟩:=ad;exact ⟨_,_,p1⟩
   |map kk vk kv=>obtain ⟨es,c,p1,_⟩:=ad;exact ⟨_,_,p1⟩
  refine ⟨_,rfl,g',?_,?_,fun x c hx hc=>(hc.less i2 i3).move hx ah (fun b hb _=>C.block b hb) ai C.size,?_,fun k=>?_,fun k hk=>?_⟩
  .rw [T];refine i1.step (U:=U) (fun k=>k=key) (hH.below.trans C) rfl (fun b hb _=>C.block b hb) (fun k hk=>⟨Z2 _ _ hk,yn hk,yn hk,yn hk⟩) A ah ai (fun k hk=>?_);subst hk;have e1:g'.O k=[b]:=yp rfl;have e2:g'.D k=[]:=yp rfl;rw [ZI,e1,e2];refine ⟨?_,yG,fun x mx=>?_,fun j hj x mx mj=>?_⟩
   .cases nb with
    |box t cs=>obtain ⟨us,L,p1,p2,p3⟩:=ad;exact ⟨b,us,ae,e1,e2,p1,p2.avr fun x mx=>an x (p3 x mx)⟩
    |map kk vk kv=>obtain ⟨es,c,p1,p2⟩:=ad;exact ⟨b,es,c,ae,e1,e2,p1,p2⟩
   .simp at mx;subst mx;exact ⟨.inl (AK hH.below.size hb),af⟩
   .simp at mx;subst mx;have e3:g'.O j=g1.O j:=yn fun e=>hj e.symm;have e4:g'.D j=g1.D j:=yn fun e=>hj e.symm;rw [e3,e4]at mj;have:=i1.lt j x mj;omega
  .cases nb with
   |box t cs=>exact ⟨b,ae,rfl⟩
   |map kk vk kv=>exact ⟨.row key,rfl,ae.symm,rfl⟩
  .cases nb with
   |box t cs=>exact .inr ⟨AD _,yE⟩
   |map kk vk kv=>intro y my;simp at my;subst my;exact .inr ⟨AD _,yE⟩
  .rw [T];by_cases hk:k=key
   .subst hk;rw [ZI];cases nb with
    |box t cs=>intro y my;simp only[AM]at my;obtain ⟨x,_,rfl⟩:=my;trivial
    |map kk vk kv=>trivial
   .rw [Z2 _ _ hk];exact (A k).mono fun _=>.inl
  .have bg:¬k=key:=fun e=>hk (.inr ⟨yE,yE⟩);rw [T,Z2 _ _ bg];exact z k fun h=>hk (.inl h)
 .exact Zmc as (f:=f) (vs:=vs.map nlS) h hH hU B (Zwj E) (fun x hx=>by
   obtain ⟨y,my,rfl⟩:=AM.1 hx;exact ZzO (R y my))
 .exact Zlj as (f:=f) 0 (vs:=vs) h hH hU B E R
 .exact Zlj as (f:=f) 1 (vs:=vs) h hH hU B E R
 .exact ZrK as (f:=f) (vs:=vs) h hH hU B E R
 .obtain ⟨l,N,hl,hs,hn,rfl,rfl⟩:=h;obtain ⟨hc,hC⟩:=hs;refine ⟨hc,?_⟩;obtain ⟨g1,i1,i2,i3,i4⟩:=ZjI st (ZR vs) hH (fun k=>.inl rfl);let st1:St:=⟨st.sl,Zl st.ob (ZT st (ZR vs)),st.n⟩
  have a:∀k,st1.ob k=(if k∈ZR vs then Yy (st.ob k) else st.ob k):=i4;have F:∀k,st1.ob k=st.ob k\/st1.ob k=Yy (st.ob k):=fun k=>by
   rw [a k];split
   .exact .inr rfl
   .exact .inl rfl
  have S:Z8 st1 vs=some l:=by rw [ZdM F];exact hl
  have G:=Zoi (st1:=st1) a hl;have A:∀j,obU U (st1.ob j):=Zto hU.ob a;have z:∀j,¬U j->st1.ob j=.gone:=fun j hj=>by
   have e:=hU.gone j hj;rcases F j with h|h<;>rw [h,e]<;>rfl
  have V:ZN (SVR g1 w) vs I:=E.mono fun x c _ hx=>hx.less i2 i3;refine (hC w g1.own I (as.at hH.below) (fun b hb=>i1.ownlt hb) (ZcB (st:=st1) i1 S V (.inr ⟨G,fun _ h=>h⟩))).mono ?_;rintro e w' ⟨cv,n,rfl,hr,hz,hb⟩;obtain ⟨g',t1,t2,t3,t4,t5,t6⟩:=ZjU i1 A z B hr hn (fun _=>False) (fun _ h=>h.elim) (fun _=>.gone) (fun _ b hb=>hz b hb) (hH.below.trans hb) hb.size (fun b ab _=>hb.block b ab) (fun _ h=>h.elim) (fun _ _ _ _ h=>h.elim);simp only[if_false,<-YL]at t1 t5 t6;exact ⟨cv,rfl,g',t1,t2,fun x c hx hc=>t3 x c hx (hc.less i2 i3),t4,t5,t6⟩
end
end
section
open Go.RowKit
section
variable {P:Program} {J:World->Prop} {JF:Nat->Prop} {W:ZbW} {U:Nat->Prop} {key:Nat} {st:St} {w w':World} {a:Act} {tt:Nat->Option TI} {hs:FuncId->Nat} {Q:Exit->Act->World->Prop}
theorem Zd2 (a:Act) (d:Option Nat) (v:Value):(a.put d v).tmps.size=a.tmps.size:=by cases d<;>simp [Act.put]
theorem Zhf [NW] {g B:Gh}{d:Option Nat}{v:SV}{u:List (Nat×Ob)}{cv:Value}(G:∀t,SVR g w (st.sl t) (a.tmps.getD t undef)) (C:StU U st) (b:a.defers=[]) (E:∀v,W.hv=some v->a.tmps.getD 0 undef=v) (F:∀t,d=some t->t<a.tmps.size/\(W.hv=none\/t≠0))
  (K:HI W B (Zl st.ob u) w') (M:SVR B w' v cv) (J:∀x c,svU U x->SVR g w x c->SVR B w' x c) (L:svU (Uk U key) v) (I:∀k,obU (Uk U key) (Zl st.ob u k)) (H:∀k,¬Uk U key k->Zl st.ob u k=.gone):
  Inv W (Uk U key) ((st.put d v).app u) (a.put d cv) w':=by
 cases d with
 |none=>
  refine ⟨⟨B,K,fun t=>J _ _ (C.sl t) (G t)⟩,⟨fun t=>(C.sl t).mono fun _=>.inl,I,H⟩,b,E⟩
 |some d=>
  have f:=(F d rfl).1;refine ⟨⟨B,K,fun t=>?_⟩,⟨fun t=>?_,I,H⟩,b,fun u D=>?_⟩
  .show SVR B w' (upd st.sl d v t) ((a.tmps.setIfInBounds d cv).getD t undef)
   by_cases A:t=d
   .subst A;rw [ZI];simpa [AY,Array.getElem?_setIfInBounds,f]using M
   .rw [Z2 _ _ A];have:(a.tmps.setIfInBounds d cv).getD t undef=a.tmps.getD t undef:=by
     simp [AY,BV (fun e:d=t=>A e.symm)]
    rw [this];exact J _ _ (C.sl t) (G t)
  .show svU (Uk U key) (upd st.sl d v t)
   by_cases A:t=d
   .subst A;rw [ZI];exact L
   .rw [Z2 _ _ A];exact (C.sl t).mono fun _=>.inl
  .show (a.tmps.setIfInBounds d cv).getD 0 undef=u
   have i:d≠0:=by
    rcases (F d rfl).2 with h|h
    .rw [h]at D;simp at D
    .exact h
   rw [<-E u D];simp [AY,BV i]
theorem Zuq [NW] {g:Gh}{x:SV}{v:Value}{B:FuncId×List CT}(a:Zrs x=some B) (hs:SVR g w x v):∃cs:List Value,v=.func (.func B.1) #[] cs.toArray/\ZN (SVR g w) (B.2.map ZmJ) cs:=by
 unfold Zrs at a;split at a
 .rename_i f A;simp only[A0]at a;subst a;obtain ⟨y,C,hs⟩:=hs;simp at C;subst C;obtain ⟨L,⟨vs,F,E⟩,D⟩:=hs;refine ⟨vs,F,?_⟩;have:=E.avr (g:=g) D;have b:∀(A:List CT) (vs:List Value),ZN (AVR g w) (A.map AV.c) vs->ZN (SVR g w) (A.map ZmJ) vs:=by
   intro A;induction A with
   |nil=>intro vs h;cases vs with
    |nil=>trivial
    |cons _ _=>exact h.elim
   |cons e A ih=>intro vs h;cases vs with
    |nil=>exact h.elim
    |cons v vs=>exact ⟨⟨_,rfl,h.1⟩,ih vs h.2⟩
  exact b _ _ this
 .rename_i f;simp only[A0]at a;subst a;exact ⟨[],hs,trivial⟩
 .simp at a
theorem Zrd [NW] (htt:MOk P J JF W tt) {o:Oper}{K:St->Prop}(h:opS tt (SC P J JF hs) key o K st) (hI:Inv W U st a w) (hkey:∀k,key<=k->k<key+16->¬U k) (hd:∀t,o.dst=some t->t<a.tmps.size/\(W.hv=none\/t≠0)):
  o.wp P a w (fun a' w'=>∃st',Inv W (Uk U key) st' a' w'/\a'.tmps.size=a.tmps.size/\K st') Q:=by
 obtain ⟨⟨g,hH,hS⟩,hU,hdef,hh⟩:=hI
 have evals:∀(args:Array Operand) (ts:Array TypeId),ZN (SVR g w) (evs tt st ts.toList args.toList) (args.toList.map a.eval)/\∀x∈evs tt st ts.toList args.toList,svU U x:=fun args ts=>by
  have he:args.toList.map a.eval=(ZlK ts.toList args.toList).map fun p=>a.eval p.2:=by
   have:=congrArg (List.map a.eval) (Zhd ts.toList args.toList)
   rw [<-this,BG];rfl
  refine ⟨?_,fun x mx=>?_⟩
  .rw [he]
   exact ZN.of_map _ _ fun p _=>(ZmW htt.tt hS hU p.1 p.2).1
  .obtain ⟨p,_,rfl⟩:=AM.1 mx
   exact (ZmW htt.tt hS hU p.1 p.2).2
 have arm:∀(f:FuncId) (n:Nat) (vs:List SV) (cvs:List Value),spK (SC P J JF hs) f n key o.dst K st vs->ZN (SVR g w) vs cvs->(∀x∈vs,svU U x)->(Zbe P f->(execOp a.eval o).run P w=.ok (.enter f cvs.toArray) w)->
   o.wp P a w (fun a' w'=>∃st',Inv W (Uk U key) st' a' w'/\a'.tmps.size=a.tmps.size/\K st') Q:=fun f n vs cvs h hargs hargU hrun=>by
  obtain ⟨v,u,hr,hK⟩:=ZnL.1 h
  obtain ⟨hc,hcall⟩:=ZiZ htt hr hH hU hkey hargs hargU
  unfold Oper.wp
  rw [hrun hc,Oper.upon_enter]
  refine hcall.mono ?_
  rintro e w' ⟨cv,rfl,g',t1,t2,t3,t4,t5,t6⟩
  exact ⟨_,Zhf hS hU hdef hh hd t1 t2 t3 t4 t5 t6,Zd2 _ _ _,hK⟩
 unfold opS at h
 split at h
 .rename_i c hc
  obtain ⟨f,l1,l2⟩:=c
  have hop:∃args ts,o.op=.call ⟨.value (.func f),args,ts⟩/\l1=ts.toList/\l2=args.toList:=by
   unfold XE at hc
   split at hc
   .rename_i f' args ts he
    simp only[A0,A9]at hc
    obtain ⟨rfl,rfl,rfl⟩:=hc
    exact ⟨args,ts,he,rfl,rfl⟩
   .simp at hc
  obtain ⟨args,ts,hop,rfl,rfl⟩:=hop
  refine arm f _ _ _ h (evals args ts).1 (evals args ts).2 ?_
  rintro ⟨fn,f1,f2,f3⟩
  have f2' : ¬ fn.name = "runtime.NumGoroutine" := by simpa using f2
  have f3':¬fn.body=none:=fun e=>by rw [e]at f3;simp at f3
  have e1:(args.toList.map a.eval).toArray=args.map a.eval:=by
   apply Az
   simp
  rw [e1]
  simp [execOp,hop,resolve,Act.eval,Deferred.ofValue,invoke,callFunc,program,Sem.run,f1,f2',f3']
 .split at h
  .rename_i c hc
   obtain ⟨s,l1,l2⟩:=c
   have hop:∃args ts,o.op=.call ⟨.value (.tmp s),args,ts⟩/\l1=ts.toList/\l2=args.toList:=by
    unfold Qk at hc
    split at hc
    .rename_i s' args ts he
     simp only[A0,A9]at hc
     obtain ⟨rfl,rfl,rfl⟩:=hc
     exact ⟨args,ts,he,rfl,rfl⟩
    .simp at hc
   obtain ⟨args,ts,hop,rfl,rfl⟩:=hop
   unfold YM at h
   split at h
   .rename_i fc hfc
    obtain ⟨_,h⟩:=h
    have hval:=Zuq hfc (hS s)
    obtain ⟨cs,hv',hcs⟩:=hval
    have hv:a.eval (.tmp s)=.func (.func fc.1) #[] cs.toArray:=hv'
    refine arm fc.1 0 _ (args.toList.map a.eval++cs) h ((evals args ts).1.append hcs) (fun x mx=>?_) ?_
    .rcases A6.1 mx with m|m
     .exact (evals args ts).2 x m
     .obtain ⟨c,_,rfl⟩:=AM.1 m
      exact QN _
    .rintro ⟨fn,f1,f2,f3⟩
     have f2' : ¬ fn.name = "runtime.NumGoroutine" := by simpa using f2
     have f3':¬fn.body=none:=fun e=>by rw [e]at f3;simp at f3
     have e1:(args.toList.map a.eval++cs).toArray=args.map a.eval++cs.toArray:=by
      apply Az
      simp
     rw [e1]
     simp [execOp,hop,resolve,hv,Deferred.ofValue,invoke,callFunc,program,Sem.run,f1,f2',f3']
   .exact h.elim
  .unfold YM at h
   split at h
   .rename_i r hr
    obtain ⟨g',cv,w',hrun,t1,t2,t3,t4,t5,t6⟩:=Zrc (P:=P) (W:=W) (a:=a) htt.tt o hr hH hS hU (hkey key (AD _) yE)
    unfold Oper.wp
    rcases hrun with hrun|⟨hrun,rfl⟩
    .rw [hrun]
     exact ⟨_,Zhf hS hU hdef hh hd t1 t2 t3 t4 t5 t6,Zd2 _ _ _,h⟩
    .rw [hrun]
     exact ⟨_,Zhf hS hU hdef hh hd t1 t2 t3 t4 t5 t6,Zd2 _ _ _,h⟩
   .exact h.elim
theorem ZwC [NW] (F:Inv W U st a w) (d:Option Nat) (D:∀t,d=some t->t<a.tmps.size/\(W.hv=none\/t≠0)):Inv W (Uk U key) (st.put d .und) (a.put d undef) w:=by
 obtain ⟨⟨g,G,E⟩,A,b,C⟩:=F;exact Zhf (u:=[]) (key:=key) E A b C D G rfl (fun _ _ _ h=>h) trivial (fun k=>(A.ob k).mono fun _=>.inl) (fun k B=>A.gone k fun h=>B (.inl h))
theorem ZqZ [NW] (B:MOk P J JF W tt) {d:Array Oper}{i:Nat}{o:Oper}{K:St->Prop}(M:d[i]?=some o) (h:opG tt (SC P J JF hs) d.toList key o K st) (H:Inv W U st a w) (v:∀k,key<=k->k<key+16->¬U k) (F:∀t,o.dst=some t->t<a.tmps.size/\(W.hv=none\/t≠0)):
  wpOp P d Q i (fun L w'=>∃st',Inv W (Uk U key) st' L w'/\L.tmps.size=a.tmps.size/\K st') a w:=by
 have f:K (st.put o.dst .und)->∃st',Inv W (Uk U key) st' (a.put o.dst undef) w/\(a.put o.dst undef).tmps.size=a.tmps.size/\K st':=fun R=>⟨_,ZwC H _ F,Zd2 _ _ _,R⟩
 unfold wpOp;simp only[M];unfold opG Zb8 at h;cases hg:o.guard with
 |none=>
  rw [hg]at h;rw [yp (by simp [Region.wanted,hg])];exact .inl (Zrd B h H v F)
 |some jw=>
  obtain ⟨j,l⟩:=jw;rw [hg]at h;simp only at h;cases hj:(d.toList[j]?).bind (·.dst) with
  |none=>
   rw [hj]at h;have m:(d[j]?).bind (·.dst)=none:=by simpa using hj
   rw [yn (by simp [Region.wanted,hg,yielded,m])];exact f h
  |some t=>
   rw [hj]at h;have m:(d[j]?).bind (·.dst)=some t:=by simpa using hj
   obtain ⟨⟨g,S,I⟩,O,y,N⟩:=H;have u:=I t;simp only at h;unfold gK at h;split at h
   .rename_i G;have:∃b,st.sl t=.p false [.c (.bool b)]:=by
     unfold ZbE at G;split at G
     .rename_i b A;exact ⟨b,A⟩
     .simp at G
    obtain ⟨b,x⟩:=this;rw [x]at u h;have hv:=ZhT u;have C:yielded d a.tmps j=some b:=by
     unfold yielded;rw [m,Ax];have:a.tmps[t]?=some (.bool b):=by
      rw [AY]at hv;cases A:a.tmps[t]? with
      |none=>rw [A]at hv;simp [undef]at hv
      |some q=>rw [A]at hv;simpa using hv
     rw [this]
    by_cases D:(b==l)=true
    .rw [yp (show (Zak (.p false [.c (.bool b)])==l)=true from D)]at h;rw [yp (by simpa [Region.wanted,hg,C]using D)];exact .inl (Zrd B h ⟨⟨g,S,I⟩,O,y,N⟩ v F)
    .rw [yn (show ¬(Zak (.p false [.c (.bool b)])==l)=true from D)]at h;rw [yn (by simpa [Region.wanted,hg,C]using D)];exact f h
   .split at h
    .rename_i E;have x:st.sl t=.und:=by
      unfold Zux at E;split at E
      .rename_i A;exact A
      .simp at E
     rw [x]at u;have e:a.tmps.getD t undef=undef:=u;have C:yielded d a.tmps j=none:=by
      unfold yielded;rw [m,Ax];rw [AY]at e;cases A:a.tmps[t]? with
      |none=>rfl
      |some q=>rw [A]at e;simp at e;rw [e];rfl
     rw [yn (by simp [Region.wanted,hg,C])];exact f h
    .exact h.elim
theorem Zq5 [NW] (A:MOk P J JF W tt) {b:Array Oper}{N:Nat}(D:∀o∈b.toList,∀t,o.dst=some t->t<N/\(W.hv=none\/t≠0)) {K:St->Prop}:∀(r:List Oper) (i key:Nat) (U:Nat->Prop) (st:St) (a:Act) (w:World),b.toList.drop i=r->Yu tt (SC P J JF hs) b.toList key r K st->Inv W U st a w->(∀k,key<=k->¬U k)->a.tmps.size=N->
  (∀U' st' B w',Inv W U' st' B w'->(∀k,key+16*r.length<=k->¬U' k)->B.tmps.size=N->K st'->Q .normal B w')->wpOps P b Q (AP i r.length) a w
 | [],i,key,U,st,a,w,_,h,hI,hk,hs,hQ=>hQ U st a w hI (by simpa using hk) hs h
 |o::r,i,key,U,st,a,w,hr,h,hI,hk,hs,hQ=>by
  have hi:b.toList[i]?=some o:=by
   have:=congrArg (fun l=>l[0]?) hr;simpa using this
  have d:b.toList.drop (i+1)=r:=by
   have:=congrArg List.tail hr;simpa using this
  rw [BC,Am,wpOps_cons];refine wpOp_mono ?_ (ZqZ A (by simpa using hi) h hI (fun k a _=>hk k a) (fun t E=>by rw [hs];exact D o (List.mem_of_getElem? hi) t E));rintro B w' ⟨st',e,F,f⟩;refine Zq5 A D r (i+1) (key+16) _ st' B w' d f e (fun k c C=>?_) yE (fun U' g M w2 L I H G=>hQ U' g M w2 L (fun k c=>I k (by simp at c;omega)) H G);rcases C with C|C
  .exact hk k yE C
  .omega
end
end
end
end Go.Proofs.YtfdjdgdipgfmeaaGreatDoor
