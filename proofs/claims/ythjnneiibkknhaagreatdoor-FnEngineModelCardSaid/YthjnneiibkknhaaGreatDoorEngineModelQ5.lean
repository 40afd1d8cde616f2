/- Texts of this proof, joined: BOps6, BOps7, BOps8, BFrz, BOpsM, BOps9, BCall, BCall2, BReg. What each holds is said at its theorems. -/
import Derived.Test.YthjnneiibkknhaaGreatDoorEngineModelQ4
import Derived.Great.BuildSlice
import Derived.MapKept
open Array renaming getD_eq_getD_getElem?→AW,ext'→Av,getElem?_eq_some_iff→BD,getElem?_setIfInBounds_ne→BG
open Bool renaming and_eq_true→AY
open List renaming mem_append→A4,mem_cons→AA,mem_flatMap→AC,nodup_append→AF,nodup_cons→AI,mem_map→AJ,nil_sublist→AK,flatMap_cons→AN,range'→AO,append_assoc→AP,singleton_append→AQ,replicate→AR,cons_append→AS,all_eq_true→AT,mem_range'_1→AU,eq_nil_of_length_eq_zero→AX,take_succ_cons→Aa,drop_succ_cons→Ab,mem_singleton→Ae,flatMap_append→Ai,append_nil→Aj,range'_succ→Ak,take_left'→Al,drop_append→Am,drop_of_length_le→An,nil_append→Ap,drop_append_of_le_length→Ar,take_append_drop→As,map_cons→Au,mem_iff_getElem?→Aw,length_cons→Ax,replicate_succ→Ay,flatten_cons→Az,map_append→B1,map_map→B2,all_cons→B4,sublist_append_right→B5,take_zero→B6,getElem?_eq_some_iff→B8,size_toArray→B9,drop_take→BB,drop_drop→BC,map_nil→BE,length_eq_one_iff→BF
open List.Sublist renaming refl→AD,append→AE
open List.cons renaming injEq→Ah
open Nat renaming le_refl→AB,zero_le→AG,add_mul→AH,le_trans→AL,lt_of_lt_of_le→AZ,add_sub_cancel_left→Ac,zero_add→Ad,mul_le_mul_right→Ag,add_assoc→Aq,mul_le_mul→B3,le_add_right→B7
open Option renaming map_eq_some_iff→A6,bind_eq_some_iff→A9,map_some→Ao,bind_some→At
open Option.some renaming injEq→A0
open Prod.mk renaming injEq→A5
set_option linter.unusedSimpArgs false
set_option linter.unusedVariables false
set_option maxRecDepth 1000000
set_option maxHeartbeats 4000000
namespace Go.Proofs.YthjnneiibkknhaaGreatDoor
noncomputable section
section
open Go.RowKit
section
variable {P:Program} {W:Qq} {U:Nat->Prop} {key:Nat} {st:St} {g:Gh} {w w':World} {a:Act} {tt:Nat->Option TI}
def Gh.F (g:Gh) (ks:List Nat):List Nat:=ks.flatMap λk=>g.O k++g.D k
def FP (g:Gh) (ks:List Nat) (d:Nat) (L:List Nat):Prop:=(d=2->L.Sublist (g.F ks))/\d<=2/\0<d/\∀b∈L,¬g.own b\/∃k∈ks,b∈g.O k
theorem FP.nil:FP g [] 2 []:=⟨λ_=>by simp [Gh.F],yG⟩
theorem FP.append {ks a:List Nat}{d D:Nat}{L L':List Nat}(h:FP g ks d L) (A:FP g a D L'):FP g (ks++a) (Za3 d D) (L++L'):=by
 have q1:=h.2.1;have q2:=A.2.1;have q3:=h.2.2.1;have q4:=A.2.2.1;refine ⟨λE=>?_,by unfold Za3;split<;>omega,by unfold Za3;split<;>omega,λb m=>?_⟩
 .have c:d=2/\D=2:=by unfold Za3 at E;split at E<;>omega
  simp only[Gh.F,Ai];exact AE (h.1 c.1) (A.1 c.2)
 .rcases A4.1 m with m|m
  .exact (h.2.2.2 b m).imp id λ⟨k,C,B⟩=>⟨k,by simp [C],B⟩
  .exact (A.2.2.2 b m).imp id λ⟨k,C,B⟩=>⟨k,by simp [C],B⟩
theorem HI.nodupF [NW] {ob:Nat->Ob}(A:HI W g ob w):∀{ks:List Nat},ks.Nodup->(g.F ks).Nodup
 | [],_=>by simp [Gh.F]
 |k::ks,h=>by
  simp only[Gh.F,AN,AF];rw [AI]at h;refine ⟨AF.1 (A.nodup k),A.nodupF h.2,λx B y c e=>?_⟩;subst e;obtain ⟨j,C,c⟩:=AC.1 c;exact A.apart k j (λe=>h.1 (e ▸ C)) x B c
theorem ZfX {ks:List Nat}{b:Nat}(h:b∈g.F ks):∃k∈ks,b∈g.O k++g.D k:=by simpa [Gh.F]using h
theorem Sl.row {B e m n:Nat}{v:Value}{cs:List Value}(h:w.ownsV B e m v n cs):∃A cap L0,v=.slice A n cap/\n<=cap/\cap<=maxLen/\Sl w m A n cs L0/\L0.Sublist v.ownBlock.toList:=by
 obtain ⟨A,cap,rfl,D,C⟩:=XK h;obtain ⟨L0,c,_,E⟩:=Sl.of_ownV h;refine ⟨A,cap,L0,rfl,D,C,c,?_⟩;rcases c.2 with ⟨_,rfl⟩|⟨_,b,off,rfl,rfl,_⟩
 .exact AK _
 .simp [Value.ownBlock]
theorem NR.toC [NW] {x:CT}{v:Value}(h:NR g w x v):∃L,RC w x v L/\∀b∈L,¬g.own b:=by
 obtain ⟨e,m,xs,cs,L,rfl,K,J,I,M,H⟩:=h;obtain ⟨A,cap,L0,F,E,D,C,B⟩:=Sl.row J;refine ⟨L0++L,⟨A,cap,cs,L0,L,F,E,D,rfl,K,C,I⟩,λb G o=>(H b ?_).1 (.inl o)⟩;rcases A4.1 G with c|c
 .simp [B.subset c]
 .simp [c]
theorem ZC0 [NW] (hI:HI W g st.ob w) {x:AV}{M:CT}{ks:List Nat}{d:Nat}{v:Value}(h:avT st x=some (M,ks,d)) (G:AVR g w x v) (hu:avU U x):∃L,RC w M v L/\FP g ks d L/\∀k∈ks,U k:=by
 cases x with
 |c y=>
  obtain ⟨L,C,D⟩:=G;cases y<;>simp only[avT,A0,A5]at h<;>obtain ⟨rfl,rfl,rfl⟩:=h
  .exact ⟨L,C,⟨λ_=>by rw [C.2];simp [Gh.F],yG,yG,λb m=>.inl (D b m)⟩,yG⟩
  .exact ⟨L,C,⟨λ_=>by rw [C.2];simp [Gh.F],yG,yG,λb m=>.inl (D b m)⟩,yG⟩
  .exact ⟨L,C,⟨λ_=>by rw [C.2.1];simp [Gh.F],yG,yG,λb m=>.inl (D b m)⟩,yG⟩
  all_goals exact ⟨L,C,⟨λe=>by simp at e,yG,yG,λb m=>.inl (D b m)⟩,yG⟩
 |row k=>
  simp only[avT]at h;split at h
  .rename_i e m xs d' hk;obtain ⟨H,cs,L1,V,T,I,B⟩:=hI.deep hk;obtain ⟨A,cap,L0,S,R,P,N,E⟩:=Sl.row V;have a:RC w (.sl e m xs) v (L0++L1):=⟨A,cap,cs,L0,L1,by rw [G.1,S],R,P,rfl,H,N,T⟩
   split at h
   .rename_i f;simp only[A0,A5]at h;obtain ⟨rfl,rfl,rfl⟩:=h;refine ⟨L0++L1,a,⟨λe=>by simp at e,yG,yG,λb m=>.inl ?_⟩,yG⟩;rcases B with ⟨q,_⟩|⟨q,_⟩|⟨_,_,_,q⟩
    .omega
    .omega
    .rcases A4.1 m with m|m
     .exact q b (E.subset m)
     .exact I b m
   .rename_i f;simp only[A0,A5]at h;obtain ⟨rfl,rfl,rfl⟩:=h;have K:g.O k=(g.val k).ownBlock.toList:=by
     rcases B with ⟨_,q,_⟩|⟨_,q,_⟩|⟨q,_⟩
     .exact q
     .exact q
     .exact absurd q f
    refine ⟨L0++L1,a,⟨λhd=>?_,?_,yE,λb m=>?_⟩,λq J=>by simp at J;subst J;exact hu⟩
    .rcases B with ⟨_,_,B⟩|⟨B,_⟩|⟨B,_⟩
     .simp only[Gh.F,AN,List.flatMap_nil,Aj,K,B];exact AE E (AD _)
     .omega
     .omega
    .rcases B with ⟨B,_⟩|⟨B,_⟩|⟨B,_⟩<;>omega
    .rcases A4.1 m with m|m
     .exact .inr ⟨k,yG,by rw [K];exact E.subset m⟩
     .exact .inl (I b m)
  .simp at h
 |nil e m=>
  simp only[avT]at h;split at h
  .rename_i H;simp only[A0,A5]at h;obtain ⟨rfl,rfl,rfl⟩:=h;refine ⟨[],⟨none,0,[],[],[],G,yG,AG _,rfl,H,Sl.zero,rfl,rfl⟩,FP.nil,yG⟩
  .simp at h
 |n x=>simp [avT]at h
 |dead=>simp [avT]at h
theorem Zrp [NW] (c:HI W g st.ob w):∀{xs:List AV}{cts:List CT}{ks:List Nat}{d:Nat}{vs:List Value},Zdf st xs=some (cts,ks,d)->ZJ (AVR g w) xs vs->XX U xs->∃L,RCs w cts vs L/\FP g ks d L/\∀k∈ks,U k
 | [],_,_,_,[],h,_,_=>by
  simp only[Zdf,A0,A5]at h;obtain ⟨rfl,rfl,rfl⟩:=h;exact ⟨[],⟨rfl,rfl⟩,FP.nil,yG⟩
 | [],_,_,_,_::_,_,h,_=>h.elim
 |_::_,_,_,_,[],_,h,_=>h.elim
 |x::r,cts,ks,d,v::vs,h,hr,hu=>by
  simp only[Zdf]at h;obtain ⟨⟨N,J,M⟩,B,h⟩:=A9.1 h;obtain ⟨⟨c2,I,K⟩,A,h⟩:=A6.1 h;simp only[A5]at h;obtain ⟨rfl,rfl,rfl⟩:=h;obtain ⟨L1,H,G,F⟩:=ZC0 c B hr.1 (hu x yG);obtain ⟨L2,E,D,C⟩:=Zrp c A hr.2 (λy m=>hu y (by simp [m]));exact ⟨L1++L2,⟨v,vs,L1,L2,rfl,rfl,H,E⟩,G.append D,λk m=>(A4.1 m).elim (F k) (C k)⟩
theorem Ztd [NW] (C:HI W g st.ob w) {m:Nat}:∀{xs:List SV}{B:List (List CT)}{ks:List Nat}{d:Nat}{vs:List Value},Xj st m xs=some (B,ks,d)->ZJ (λs v=>SVR g w s v/\svU U s) xs vs->
  ∃(cs:List (List Value)) (L:List Nat),ZJ (λ(c:List Value) (v:Value)=>v.cells=c.toArray/\c.length=m/\∀u∈c,u.oneCell'=true) cs vs/\REs w m B cs.flatten L/\FP g ks d L/\∀k∈ks,U k
 | [],_,_,_,[],h,_=>by
  simp only[Xj,A0,A5]at h;obtain ⟨rfl,rfl,rfl⟩:=h;exact ⟨[],[],trivial,⟨rfl,rfl⟩,FP.nil,yG⟩
 | [],_,_,_,_::_,_,h=>h.elim
 |_::_,_,_,_,[],_,h=>h.elim
 |s::r,B,ks,d,v::vs,h,⟨⟨hs,hsu⟩,hr⟩=>by
  cases s with
  |p ag us=>
   simp only[Xj]at h;split at h
   .rename_i F;obtain ⟨⟨c1,S,V⟩,H,h⟩:=A9.1 h;obtain ⟨⟨c2,R,T⟩,G,h⟩:=A6.1 h;simp only[A5]at h;obtain ⟨rfl,rfl,rfl⟩:=h;obtain ⟨a,D,A⟩:=PVR.cells hs;obtain ⟨L1,P,O,N⟩:=Zrp C H A hsu;obtain ⟨cs,L2,M,K,J,I⟩:=Ztd C G hr;have b:a.length=m:=by rw [<-A.len];exact F
    exact ⟨a::cs,L1++L2,⟨⟨D,b,AVRs.one A⟩,M⟩,⟨a,cs.flatten,L1,L2,yG,rfl,⟨P,b⟩,K⟩,O.append J,λk E=>(A4.1 E).elim (N k) (I k)⟩
   .simp at h
  |_=>simp [Xj]at h
theorem Zsc [NW] {m:Nat}:∀(cs:List (List Value)) (vs:List Value) (i:Nat) (a base:List Value),ZJ (λ(c:List Value) (v:Value)=>v.cells=c.toArray/\c.length=m/\∀u∈c,u.oneCell'=true) cs vs->a.length=i*m->base.length=vs.length*m->
  Instr.fill (λi=>some (i*m,m)) (a++base).toArray ((AO i vs.length).zip vs)=some (a++cs.flatten).toArray
 | [],[],i,a,base,_,_,hb=>by
  have:base=[]:=AX (by simpa using hb);subst this;simp [Instr.fill]
 | [],_::_,_,_,_,h,_,_=>h.elim
 |_::_,[],_,_,_,h,_,_=>h.elim
 |c::cs,v::vs,i,a,base,⟨⟨h1,h2,_⟩,h⟩,hp,hb=>by
  have A:base.length=m+vs.length*m:=by rw [hb];simp [AH];omega
  have b:v.cells.size=m:=by simp [h1,h2]
  simp only[Ax,Ak,List.zip_cons_cons,Instr.fill];rw [if_neg (by simp [b];omega),ZnO (i*m) v c h1 _ (by simp;omega)];have e:splice (a++base).toArray.toList (i*m) c=(a++c)++base.drop m:=by
   unfold splice;simp only[<-hp];rw [Al,Am,An yE]
   .simp [h2]
   .rfl
  rw [e,Zsc cs vs (i+1) (a++c) (base.drop m) h (by simp [hp,h2,AH]) (by simp;omega)];simp
theorem Zxe [NW] (J:HI W g st.ob w) (hU:StU U st) (i:¬U key) {e m:Nat}(hm:0<m) {xs:List (List CT)}{ks:List Nat}{d:Nat}{L:List Nat}{cs:List Value}{v:Value}(f:w'.ownsV 0 e m v xs.length cs) (hv:v.ownBlock=some w.heap.size)
  (K:Below w.heap.size w w') (x:∃z e,w'.heap[w.heap.size]?=some (.cells z e (0,0))) (hr:REs w m xs cs L) (H:FP g ks d L) (B:∀k∈ks,U k) (j:∀k∈ks,∃e m xs d,st.ob k=.row e m xs d) (C:ks.Nodup) {s:Sem Next} (l:s.run P w=.ok (.value v) w'):
  Fin P W U key st g w s (.p false [.row key],Yk ks++[(key,.row e m xs d)]):=by
 have c:=hr.lt;have hF:=J.nodupF C;have a:∀b∈(if d=2 then L else []),b∈L/\d=2:=λb G=>by
  split at G
  .rename_i I;exact ⟨G,I⟩
  .simp at G
 obtain ⟨h1,h2⟩:=J.turn (key:=key) (U:=U) (w':=w') (v:=v) (O:=[w.heap.size]) (D:=if d=2 then L else []) (o:=.row e m xs d) hU.ob i ks B
  (J.below.trans K) K.size (λb t _=>K.block b t) yG (λb G=>by
   obtain ⟨N,R⟩:=a b G;exact .inl (ZfX ((H.1 R).subset N)))
  (by
   simp only[AQ,AI];refine ⟨λG=>?_,?_⟩
   .have:=c _ (a _ G).1;omega
   .split
    .rename_i I;exact hF.sublist (H.1 I)
    .simp)
  (λb G=>by
   simp only[AQ,AA]at G;rcases G with rfl|G
   .exact ⟨.inl J.below.size,x⟩
   .obtain ⟨N,R⟩:=a b G;obtain ⟨k,S,M⟩:=ZfX ((H.1 R).subset N);obtain ⟨p1,V⟩:=J.plain k b M;obtain ⟨_,_,_,_,E⟩:=j k S;rw [E]at V;exact ⟨p1,V.keep (K.block b (c b N))⟩)
  (λ_=>⟨hm,cs,L,by simpa [Gh.turn,upd]using f,hr.keep λb G=>K.block b (c b G),by
   have q1:=H.2.1;have q2:=H.2.2.1;by_cases I:d=2
   .exact .inl ⟨I,by simp [Gh.turn,upd,hv],by simp [Gh.turn,I]⟩
   .refine .inr (.inl ⟨yE,by simp [Gh.turn,upd,hv],by simp [Gh.turn,I],λb G ho=>?_⟩);have t:=c b G;rcases ZfN ho with mo|⟨k,S,_,M⟩|hz
    .simp at mo;omega
    .rcases H.2.2.2 b G with T|⟨q,q1,q2⟩
     .exact T (.inl ⟨k,M⟩)
     .exact J.apart k q (λe=>S (e ▸ q1)) b (by simp [M]) (by simp [q2])
    .rcases H.2.2.2 b G with T|⟨q,q1,q2⟩
     .exact T (.inr hz)
     .exact J.nz (k:=q) (by simp [q2]) hz⟩)
 have u:=Zkm (key:=key) (o:=.row e m xs d) hU ks trivial;refine ⟨_,_,_,.inl l,h1,⟨_,rfl,⟨by simp [Gh.turn,upd],?_⟩⟩,h2,λy my=>by simp at my;subst my;exact ZkT,u.1,u.2⟩;obtain ⟨A,cap,F⟩:=Zbi f;simp [F,Value.oneCell']
theorem Zoe (st:St):∀(ks:List Nat) (ob:Nat->Ob) (k:Nat),Zl ob (ZM st ks) k=if k∈ks then Ye (st.ob k) else ob k
 | [],ob,k=>by simp [ZM,Zl]
 |j::r,ob,k=>by
  show Zl (upd ob j (Ye (st.ob j))) (ZM st r) k=_
  rw [Zoe st r];by_cases h:k∈r
  .simp [h]
  .by_cases c:k=j
   .subst c;simp [h,upd]
   .simp [h,c,upd]
theorem ZdO [NW] (st:St) (ks:List Nat) (ob:Nat->Ob) (key:Nat) (o:Ob) (k:Nat):Zl ob (ZM st ks++[(key,o)]) k=if k=key then o else if k∈ks then Ye (st.ob k) else ob k:=by
 rw [Yj];show upd (Zl ob (ZM st ks)) key o k=_
 by_cases h:k=key
 .simp [upd,h]
 .simp only[upd,h,if_false];exact Zoe st ks ob k
theorem Zy1 {x:AV}{C:CT}{ks:List Nat}{d:Nat}(h:avT st x=some (C,ks,d)):∀k∈ks,∃e m xs d,st.ob k=.row e m xs d:=by
 intro k A;cases x with
 |c y=>cases y<;>simp only[avT,A0,A5]at h<;>(rw [<-h.2.1]at A;simp at A)
 |nil e m=>
  simp only[avT]at h;split at h<;>simp only[A0,A5,reduceCtorEq]at h
  rw [<-h.2.1]at A;simp at A
 |row j=>
  simp only[avT]at h;split at h
  .rename_i e m xs D B;split at h<;>simp only[A0,A5]at h
   .rw [<-h.2.1]at A;simp at A
   .rw [<-h.2.1]at A;simp at A;subst A;exact ⟨_,_,_,_,B⟩
  .simp at h
 |n x=>simp [avT]at h
 |dead=>simp [avT]at h
theorem ZpX [NW]:∀{xs:List AV}{cts:List CT}{ks:List Nat}{d:Nat},Zdf st xs=some (cts,ks,d)->∀k∈ks,∃e m xs d,st.ob k=.row e m xs d
 | [],_,_,_,h,k,c=>by simp only[Zdf,A0,A5]at h;rw [<-h.2.1]at c;simp at c
 |x::r,_,_,_,h,k,c=>by
  simp only[Zdf]at h;obtain ⟨⟨G,D,F⟩,B,h⟩:=A9.1 h;obtain ⟨⟨c2,C,E⟩,A,h⟩:=A6.1 h;simp only[A5]at h;rw [<-h.2.1]at c;rcases A4.1 c with c|c
  .exact Zy1 B k c
  .exact ZpX A k c
theorem ZlJ [NW] {m:Nat}:∀{xs:List SV}{C:List (List CT)}{ks:List Nat}{d:Nat},Xj st m xs=some (C,ks,d)->∀k∈ks,∃e m xs d,st.ob k=.row e m xs d
 | [],_,_,_,h,k,c=>by simp only[Xj,A0,A5]at h;rw [<-h.2.1]at c;simp at c
 |x::r,_,_,_,h,k,c=>by
  cases x with
  |p a cs=>
   simp only[Xj]at h;split at h
   .obtain ⟨⟨H,E,G⟩,B,h⟩:=A9.1 h;obtain ⟨⟨c2,D,F⟩,A,h⟩:=A6.1 h;simp only[A5]at h;rw [<-h.2.1]at c;rcases A4.1 c with c|c
    .exact ZpX B k c
    .exact ZlJ A k c
   .simp at h
  |_=>simp [Xj]at h
theorem ZuG [NW] (V:HI W g st.ob w) (hU:StU U st) (t:¬U key) {e m:Nat}(hm:0<m) {xs:List (List CT)}{ks:List Nat}{d:Nat}{L:List Nat}{cs:List Value}{v:Value}(u:w'.ownsV 0 e m v xs.length cs) (hv:v.ownBlock=some w.heap.size)
  (hb:Below w.heap.size w w') (H:∃I e,w'.heap[w.heap.size]?=some (.cells I e (0,0))) (hr:REs w m xs cs L) (hf:FP g ks d L) (z:∀k∈ks,U k) (i:∀k∈ks,∃e m xs d,st.ob k=.row e m xs d) (J:ks.Nodup) {s:Sem Next} (B:s.run P w=.ok (.value v) w'):
  Fin P W U key st g w s (.p false [.row key],ZM st ks++[(key,.row e m xs d)]):=by
 have l:=hr.lt;have hF:=V.nodupF J;have c:∀b∈(if d=2 then L else []),b∈L/\d=2:=λb S=>by
  split at S
  .rename_i hd;exact ⟨S,hd⟩
  .simp at S
 obtain ⟨h1,h2⟩:=V.turn (key:=key) (U:=U) (w':=w') (v:=v) (O:=[w.heap.size]) (D:=if d=2 then L else []) (o:=.row e m xs d) hU.ob t ks z
  (V.below.trans hb) hb.size (λb C _=>hb.block b C) yG (λb S=>by
   obtain ⟨T,m2⟩:=c b S;exact .inl (ZfX ((hf.1 m2).subset T)))
  (by
   simp only[AQ,AI];refine ⟨λS=>?_,?_⟩
   .have:=l _ (c _ S).1;omega
   .split
    .rename_i hd;exact hF.sublist (hf.1 hd)
    .simp)
  (λb S=>by
   simp only[AQ,AA]at S;rcases S with rfl|S
   .exact ⟨.inl V.below.size,H⟩
   .obtain ⟨T,m2⟩:=c b S;obtain ⟨k,k1,mk⟩:=ZfX ((hf.1 m2).subset T);obtain ⟨p1,p2⟩:=V.plain k b mk;obtain ⟨_,_,_,_,f⟩:=i k k1;rw [f]at p2;exact ⟨p1,p2.keep (hb.block b (l b T))⟩)
  (λ_=>⟨hm,cs,L,by simpa [Gh.turn,upd]using u,hr.keep λb S=>hb.block b (l b S),by
   have q1:=hf.2.1;have q2:=hf.2.2.1;by_cases hd:d=2
   .exact .inl ⟨hd,by simp [Gh.turn,upd,hv],by simp [Gh.turn,hd]⟩
   .refine .inr (.inl ⟨yE,by simp [Gh.turn,upd,hv],by simp [Gh.turn,hd],λb S ho=>?_⟩);have C:=l b S;rcases ZfN ho with mo|⟨k,k1,_,mk⟩|hz
    .simp at mo;omega
    .rcases hf.2.2.2 b S with hn|⟨q,q1,q2⟩
     .exact hn (.inl ⟨k,mk⟩)
     .exact V.apart k q (λe=>k1 (e ▸ q1)) b (by simp [mk]) (by simp [q2])
    .rcases hf.2.2.2 b S with hn|⟨q,q1,q2⟩
     .exact hn (.inr hz)
     .exact V.nz (k:=q) (by simp [q2]) hz⟩)
 have aa:∀k∈ks,k≠key:=λk mk e=>t (e ▸ z k mk);have K:HI W (g.turn ks key v [w.heap.size] (if d=2 then L else [])) (Zl st.ob (ZM st ks++[(key,.row e m xs d)])) w':=by
  refine ⟨h1.below,λk=>?_,h1.nodup,h1.apart,λk b S=>?_,h1.gz,h1.zx,h1.nw,h1.oy⟩
  rotate_left
  .have hp:=h1.plain k b S;rw [ZaM]at hp;rw [ZdO];by_cases hk:k=key
   .rw [if_pos hk]at hp ⊢;exact hp
   .rw [if_neg hk]at hp ⊢;by_cases a:k∈ks
    .rw [if_pos a]at hp ⊢;obtain ⟨e2,m2,M,d2,f⟩:=i k a;rw [f];exact hp
    .rw [if_neg a]at hp ⊢;exact hp
  have ho:=h1.obs k;rw [ZaM]at ho;rw [ZdO];by_cases hk:k=key
  .rw [if_pos hk]at ho ⊢;exact ho
  .rw [if_neg hk]at ho ⊢;by_cases a:k∈ks
   .rw [if_pos a]at ho ⊢;obtain ⟨e2,m2,M,d2,f⟩:=i k a;obtain ⟨p1,N,L2,p2,p3,p4,p5⟩:=V.deep f;rw [f];have x:(g.turn ks key v [w.heap.size] (if d=2 then L else [])).val k=g.val k:=by simp [Gh.turn,upd,hk]
    have E:=p3.lt;have F:=ZjE p2;refine ⟨p1,N,L2,by rw [x];exact XJ p2 λb S=>hb.block b (F b S),p3.keep λb S=>hb.block b (E b S),.inr (.inr ⟨rfl,ho.1,ho.2,λb S G=>?_⟩)⟩;rw [x]at S;have ac:b<w.heap.size:=by
     rcases A4.1 S with T|T
     .exact F b T
     .exact E b T
    rcases ZfN G with mo|⟨j,j1,_,mj⟩|hz
    .simp at mo;omega
    .rcases A4.1 S with T|T
     .rcases p5 with ⟨_,q1,_⟩|⟨_,q1,_⟩|⟨_,_,_,q⟩
      .exact V.apart j k (λe=>j1 (e ▸ a)) b (by simp [mj]) (by simp [q1,T])
      .exact V.apart j k (λe=>j1 (e ▸ a)) b (by simp [mj]) (by simp [q1,T])
      .exact q b T (.inl ⟨j,mj⟩)
     .exact p4 b T (.inl ⟨j,mj⟩)
    .rcases A4.1 S with T|T
     .rcases p5 with ⟨_,q1,_⟩|⟨_,q1,_⟩|⟨_,_,_,q⟩
      .exact V.nz (k:=k) (by simp [q1,T]) hz
      .exact V.nz (k:=k) (by simp [q1,T]) hz
      .exact q b T (.inr hz)
     .exact p4 b T (.inr hz)
   .rw [if_neg a]at ho ⊢;exact ho
 have Q:∀k,obU U (Ye (st.ob k)):=λk=>by
  have:=hU.ob k;cases hk:st.ob k<;>simp only[Ye]<;>first|trivial|(rw [hk]at this;exact this)
 refine ⟨_,_,_,.inl B,K,⟨_,rfl,⟨by simp [Gh.turn,upd],?_⟩⟩,h2,λy my=>by simp at my;subst my;exact ZkT,λk=>?_,λk hk=>?_⟩
 .obtain ⟨A,cap,R⟩:=Zbi u;simp [R,Value.oneCell']
 .rw [ZdO];split
  .trivial
  .split
   .exact (Q k).mono λ_=>.inl
   .exact (hU.ob k).mono λ_=>.inl
 .rw [ZdO,if_neg (λe=>hk (.inr yE))];have e:=hU.gone k λh=>hk (.inl h);split
  .rw [e];rfl
  .exact e
end
end
section
open Go.RowKit
section
variable {P:Program} {W:Qq} {U:Nat->Prop} {key:Nat} {st:St} {g:Gh} {w w':World} {a:Act} {tt:Nat->Option TI}
theorem ZE1 [NW] (K:∀t i,tt t=some i->TOk P t i) (hI:HI W g st.ob w) (hS:∀t,SVR g w (st.sl t) (a.tmps.getD t undef)) (hU:StU U st) (q:¬U key) {t len e m l:Nat}{z:List AV}(H:tt t=some (.slice e m l z)) {b:Array (Nat×Operand)}{xs:List (List CT)}{ks:List Nat}{d:Nat}
  (h:Xj st m (b.toList.map λp=>st.ev tt e p.2)=some (xs,ks,d)) (V:b.toList.map (·.1)=List.range len) (hl:len*m<=16777216) (I:ks.Nodup) {s:Sem Next} (hs:s=(do pure (.value (<-Instr.buildSlice t len (b.map λ(i,x)=>(i,a.eval x)))))):
  Fin P W U key st g w s (.p false [.row key],ZM st ks++[(key,.row e m xs d)]):=by
 obtain ⟨T,N,_,⟨S,M,y,o,ad,hz,ac,aa⟩,_⟩:=K t _ H;have A:ZJ (λs v=>SVR g w s v/\svU U s) (b.toList.map λp=>st.ev tt e p.2) (b.toList.map λp=>a.eval p.2):=ZJ.of_map _ _ λp _=>ZlQ K hS hU e p.2;obtain ⟨cs,L,R,c2,c3,c4⟩:=Ztd hI h A;have f:b.toList.length=len:=by have:=congrArg List.length V;simpa using this
 have B:cs.length=len:=by rw [R.len];simpa using f
 have C:xs.length=len:=by
  have h1:=c2.len;have h2:cs.flatten.length=len*m:=by
   have:∀(cs:List (List Value)) (vs:List Value),ZJ (λ(c:List Value) (v:Value)=>v.cells=c.toArray/\c.length=m/\∀u∈c,u.oneCell'=true) cs vs->cs.flatten.length=cs.length*m:=by
    intro cs;induction cs with
    |nil=>intro _ _;simp
    |cons c cs ih=>
     intro vs O;cases vs with
     |nil=>exact O.elim
     |cons v vs=>simp [ih vs O.2,O.1.2.1,AH];omega
   rw [this cs _ R,B]
  rw [h2]at h1;exact (Nat.eq_of_mul_eq_mul_right N h1).symm
 have j:(b.map λx=>match x with|(i,x)=>(i,a.eval x)).toList=(AO 0 (b.toList.map λp=>a.eval p.2).length).zip (b.toList.map λp=>a.eval p.2):=by
  have e1:(b.map λx=>match x with|(i,x)=>(i,a.eval x)).toList=(b.toList.map (·.1)).zip (b.toList.map λp=>a.eval p.2):=by
   rw [List.zip_map'];simp
  rw [e1,V,List.range_eq_range'];simp [f]
 have D:(Instr.buildSlice t len (b.map λ(i,x)=>(i,a.eval x))).run P w=.ok (.slice (some ⟨w.heap.size,0,none⟩) len len) (w.alloc (.cells cs.flatten.toArray e)):=by
  have k:∀base:List Value,base.length=len*m->Instr.fill (λi=>some (i*m,m)) base.toArray (b.map λx=>match x with|(i,x)=>(i,a.eval x)).toList=some cs.flatten.toArray:=λbase hb=>by
   rw [j];have:=Zsc cs (b.toList.map λp=>a.eval p.2) 0 [] base R yG (by simpa [f]using hb);simpa using this
  by_cases h0:len=0
  .subst h0;have E:cs=[]:=AX B;subst E;have J:b=#[]:=by
    have:b.toList=[]:=AX f;simpa using this
   subst J;simp [Instr.buildSlice,Yz T,Y7 y,Instr.fill,newRow,Array.range_zero']
  .have F:¬len*S.size=0:=by
    rw [o];intro e;rcases Nat.mul_eq_zero.1 e with e|e<;>omega
   refine run_buildSlice w t e len _ _ S M T y hz (by rw [o];omega) F ?_;rw [o];have hb:=k ((Array.range (len*m)).map (M.cells[· % M.cells.size]!)).toList yG;rw [Array.toArray_toList]at hb;exact hb
 have G:=ZjM <| World.ownsRow_lit (base:=0) (e:=e) (size:=m) w cs.flatten.toArray len (AG _) (by unfold maxLen;have:=Nat.le_mul_of_pos_right len N;omega) (by
  have h1:=c2.len;rw [C]at h1;simpa using h1)
 refine ZuG hI hU q N (v:=.slice (some ⟨w.heap.size,0,none⟩) len len) (cs:=cs.flatten) (w':=w.alloc (.cells cs.flatten.toArray e)) (by rw [C];simpa using G) rfl ((Below.refl _ _).alloc (AB _) _) ⟨_,_,heap_alloc_new w _⟩ c2 c3 c4 (ZlJ h) I ?_;subst hs;simp only[Sem.run_bind,D,Result.andThen_ok,Sem.run_pure]
theorem ZiO {m:Nat}{A:List CT}{c:List Value}(h:RCs w A c []) (B:c.length=m):∀n:Nat,REs w m (AR n A) (AR n c).flatten []
 |0=>by simp [REs]
 |n+1=>by
  rw [Ay,Ay,Az];exact ⟨c,_,[],[],rfl,rfl,⟨h,B⟩,ZiO h B n⟩
theorem ZrE [NW]:∀{z:List AV}{A:List Value}{B:List CT},Zl7 z=some B->ZJ (λa v=>Za4 a v=true) z A->RCs w B A []
 | [],[],B,h,_=>by simp [Zl7]at h;subst h;exact ⟨rfl,rfl⟩
 | [],_::_,_,_,h=>h.elim
 |_::_,[],_,_,h=>h.elim
 |.c x::z,v::A,B,h,hr=>by
  simp only[Zl7]at h;obtain ⟨b,D,rfl⟩:=A6.1 h;have hx:=Zf5 (g:=⟨λ_=>undef,λ_=>[],λ_=>[],λ_=>False⟩) (w:=w) hr.1;obtain ⟨L,C,_⟩:=hx;have d:L=[]:=by
   have:=hr.1;cases x with
   |int k n=>exact C.2
   |bool b=>exact C.2
   |str s=>exact C.2.1
   |_=>simp [Za4]at this
  subst d;exact ⟨v,A,[],[],rfl,rfl,C,ZrE D hr.2⟩
 |.nil e m::z,v::A,B,h,hr=>by
  simp only[Zl7]at h;split at h
  .rename_i F;obtain ⟨b,D,rfl⟩:=A6.1 h;have E:v=.slice none 0 0:=Zf5 (g:=⟨λ_=>undef,λ_=>[],λ_=>[],λ_=>False⟩) (w:=w) hr.1;subst E;exact ⟨_,A,[],[],rfl,rfl,⟨none,0,[],[],[],rfl,yG,AG _,rfl,F,Sl.zero,rfl,rfl⟩,ZrE D hr.2⟩
  .simp at h
 |.row k::z,v::A,B,h,_=>by simp [Zl7]at h
 |.n x::z,v::A,B,h,_=>by simp [Zl7]at h
 |.dead::z,v::A,B,h,_=>by simp [Zl7]at h
theorem Zqv (z:Array Value) (m:Nat) (A:z.size=m) (B:0<m):∀n:Nat,(madeCells z (n*m)).toList=(AR n z.toList).flatten
 |0=>by simp [madeCells]
 |n+1=>by
  have ih:=Zqv z m A B n;rw [List.replicate_succ',List.flatten_append,<-ih];simp only[madeCells,Array.toList_map,Array.toList_range,AH,Nat.one_mul,List.range_add,B1,B2,Az,List.flatten_nil,Aj];congr 1
  apply List.ext_getElem?;intro j;by_cases c:j<m
  .simp only[List.getElem?_map,List.getElem?_range c,Ao,Function.comp];have e:(n*m+j) % z.size=j:=by
    rw [A,Nat.add_comm,Nat.add_mul_mod_self_right,Nat.mod_eq_of_lt c]
   have a:j<z.size:=by omega
   simp [e,a]
  .have C:z.size<=j:=by omega
   simp [c,C]
theorem ZCG [NW] (E:∀t i,tt t=some i->TOk P t i) (S:HI W g st.ob w) (R:StU U st) (c:¬U key) {t e m a:Nat}{z:List AV}(k:tt t=some (.slice e m a z)) {n:Nat}{C:List CT}(K:Zl7 z=some C) (M:n<=1073741824) {s:Sem Next}
  (hs:s=(do pure (.value (<-Instr.makeSlice t (.int .i64 n) (.int .i64 n))))):Fin P W U key st g w s (.p false [.row key],[(key,.row e m (AR n C) 2)]):=by
 obtain ⟨L,F,H,⟨D,B,l,o,N,q,f,u⟩,_⟩:=E t _ k;have v:D.bytes*n<=281474976710656:=by
  have:=B3 (show D.bytes<=131072 by omega) M;omega
 obtain ⟨w',r1,r2,J⟩:=run_make_full (P:=P) w 0 t e D B m L l q o .i64 .i64 n v (by unfold maxLen;omega) (AG _);have j:B.cells.size=m:=by rw [<-u,f.len];simp
 rw [Zqv B.cells m j F n]at r2;have x:=ZiO (ZrE (w:=w) K f) (by simpa using j) n;have O:Below w.heap.size w w':=(Below.refl _ _).grown J (AB _) yG;have y:∃b e,w'.heap[w.heap.size]?=some (.cells b e (0,0)):=by
  rcases r2.2 with ⟨A,_⟩|⟨T,I,b,A,_,G,_⟩
  .simp at A
  .simp at A;rw [<-A.1]at G;exact ⟨b,e,G⟩
 have:=Zxe (ks:=[]) (d:=2) S R c F (xs:=AR n C) (by simpa using ZjM r2) rfl O y x FP.nil yG yG yG (s:=s) (P:=P) (by subst hs;simp only[Sem.run_bind,r1,Result.andThen_ok,Sem.run_pure]);simpa [Yk]using this
theorem Zsg [NW] {t e:TypeId}{ty:TypeId}{C:TypeInfo}(D:P.underlying t=some (.slice e)) (a:P.info? e=some C) (A B:Option Addr) (n c E:Nat) (b:n<=c):
  (Builtin.append_ #[t,t] ty #[.slice A n c,.slice B 0 E]).run P w=.ok (.slice A n c) w:=by
 cases A<;>cases B<;>simp [Builtin.append_,Yz D,Y7 a,Builtin.lenOf,Builtin.firstCells,loadCells,loadCellsFrom,storeCells,b]
theorem ZtG:∀{e:List CT}{cs:List Value}{L:List Nat},RCs w e cs L->e.all CT.flat=true->L=[]
 | [],_,_,h,_=>h.2
 |x::r,_,_,⟨v,cs',L1,L2,rfl,rfl,h1,h2⟩,hf=>by
  simp only[B4,AY]at hf;have c:L1=[]:=by
   cases x with
   |int k n=>exact h1.2
   |bool b=>exact h1.2
   |str s=>exact h1.2.1
   |_=>simp [CT.flat]at hf
  rw [c,ZtG h2 hf.2];rfl
theorem ZhH [NW] {m:Nat}:∀{xs:List (List CT)}{cs:List Value}{L:List Nat},REs w m xs cs L->Zby xs=true->L=[]
 | [],_,_,h,_=>h.2
 |x::r,_,_,⟨c1,c2,L1,L2,rfl,rfl,h1,h2⟩,hf=>by
  simp only[Zby,B4,AY]at hf;rw [ZtG h1.1 hf.1,ZhH h2 hf.2];rfl
theorem REs.append {m:Nat}:∀{xs c:List (List CT)}{A vs:List Value}{L M:List Nat},REs w m xs A L->REs w m c vs M->REs w m (xs++c) (A++vs) (L++M)
 | [],_,_,_,_,_,h,h'=>by obtain ⟨rfl,rfl⟩:=h;simpa using h'
 |_::_,_,_,_,_,_,⟨c1,c2,L1,L2,rfl,rfl,h3,h4⟩,h'=>⟨c1,c2++_,L1,L2++_,yG,yG,h3,h4.append h'⟩
theorem REs.one {m:Nat}:∀{xs:List (List CT)}{cs:List Value}{L:List Nat},REs w m xs cs L->∀u∈cs,u.oneCell'=true
 | [],_,_,h=>by simp [h.1]
 |_::_,_,_,⟨c1,c2,L1,L2,rfl,rfl,h3,h4⟩=>λu c=>by
  rcases A4.1 c with c|c
  .exact h3.1.one u c
  .exact h4.one u c
theorem ZzB {a b:Nat}(h:Za3 a b=2) (A:a<=2) (c:b<=2):a=2/\b=2:=by unfold Za3 at h;split at h<;>omega
theorem Zqx {c:Bool}{xs:List (List CT)}(h:ZjY c xs=2):Zby xs=true:=by unfold ZjY at h;split at h<;>simp_all
theorem Zt3 (c:Bool) (xs:List (List CT)):ZjY c xs<=2:=by unfold ZjY;split<;>omega
theorem Zqa (c:Bool) (xs:List (List CT)):0<ZjY c xs:=by unfold ZjY;split<;>omega
theorem HI.plainD [NW] {ob:Nat->Ob}(h:HI W g ob w) {k b:Nat}(m:b∈g.D k):(W.heap.size<=b\/W.x b\/W.y b)/\∃a e,w.heap[b]?=some (.cells a e (0,0)):=by
 have h1:=h.plain k b (by simp [m]);have h2:=h.obs k;cases hk:ob k with
 |map kk vk kv=>
  rw [hk]at h2;obtain ⟨_,_,_,_,_,c,_⟩:=h2;rw [c]at m;simp at m
 |_=>rw [hk]at h1;exact h1
theorem ZDo [NW] (M:HI W g st.ob w) {x:SV}{v:Value}{e m:Nat}{xs:List (List CT)}{ks:List Nat}{d:Nat}(h:Zgf st x=some (xs,ks,d)) (a:Zm3 st e m x=true) (C:SVR g w x v) (K:svU U x):
  ∃cs L,w.ownsV 0 e m v xs.length cs/\REs w m xs cs L/\(∀b∈L,¬g.own b)/\(d=2->L=ks.flatMap g.D)/\v.ownBlock.toList=ks.flatMap g.O/\(∀k∈ks,U k)/\d<=2/\0<d:=by
 unfold Zgf at h;split at h
 .simp only[A0,A5]at h;obtain ⟨rfl,rfl,rfl⟩:=h;have:=Zve C;subst this;exact ⟨[],[],ZfE _ _ _ _,⟨rfl,rfl⟩,yG,yG,by simp [Value.ownBlock],yG,yG,yG⟩
 .rename_i k;split at h
  .rename_i S N F T E;split at h
   .simp at h
   rename_i c;simp only[A0,A5]at h;obtain ⟨rfl,rfl,rfl⟩:=h;simp only[Zm3,E,AY,beq_iff_eq]at a;obtain ⟨rfl,rfl⟩:=a;have:=ZgB C;subst this;obtain ⟨P,cs,L,J,I,H,G,A⟩:=M.deepO E c;refine ⟨cs,L,J,I,H,λR=>?_,by simp [G],λq B=>by simp at B;subst B;exact K (.row q) yG,?_,yE⟩
   .rcases A with ⟨_,A⟩|⟨A,_⟩
    .simp [A]
    .omega
   .rcases A with ⟨A,_⟩|⟨A,_⟩<;>omega
  .simp at h
 .simp at h
theorem ZEP [NW] (hI:HI W g st.ob w) {x:SV}{v:Value}{m:Nat}{xs:List (List CT)}{ks:List Nat}{d:Nat}{fl:Bool}(h:Zgk st fl x=some (xs,ks,d)) (a:ZlC st m x=true) (F:SVR g w x v) (T:svU U x):
  ∃A c cs L,v=.slice A xs.length c/\REs w m xs cs L/\(0<xs.length->∃b off,A=some ⟨b,off,none⟩/\Zbr w b off cs)/\(∀b∈L,¬g.own b)/\(d=2->L.Sublist (ks.flatMap g.D))/\(∀k∈ks,U k)/\d<=2/\0<d:=by
 unfold Zgk at h;split at h
 .simp only[A0,A5]at h;obtain ⟨rfl,rfl,rfl⟩:=h;simp only[ZlC,beq_iff_eq]at a;subst a;obtain ⟨A,cap,cs,L0,L1,rfl,h2,h3,h5,h6,O,V⟩:=Zhn F;refine ⟨A,cap,cs,L1,rfl,O,λG=>?_,λb S=>V b (by simp [S]),λC=>by rw [ZhH O (Zqx C)];simp,yG,Zt3 _ _,Zqa _ _⟩;obtain ⟨b,off,I,_,H⟩:=h6.at_ G;exact ⟨b,off,I,H⟩
 .simp only[A0,A5]at h;obtain ⟨rfl,rfl,rfl⟩:=h;have:=Zve F;subst this;exact ⟨none,0,[],[],rfl,⟨rfl,rfl⟩,yG,yG,yG,yG,yG,yG⟩
 .rename_i k;split at h
  .rename_i e' m' f d' N;simp only[ZlC,N,beq_iff_eq]at a;subst a;have:=ZgB F;subst this;obtain ⟨hm,cs,L,R,E,K,B⟩:=hI.deep N;obtain ⟨A,cap,L0,J,s2,s3,P,s5⟩:=Sl.row R;have e:0<f.length->∃b off,A=some ⟨b,off,none⟩/\Zbr w b off cs:=λG=>by
    obtain ⟨b,off,I,_,H⟩:=P.at_ G;exact ⟨b,off,I,H⟩
   split at h
   .simp only[A0,A5]at h;obtain ⟨rfl,rfl,rfl⟩:=h;exact ⟨A,cap,cs,L,J,E,e,K,λC=>by rw [ZhH E (Zqx C)];simp,yG,Zt3 _ _,Zqa _ _⟩
   .rename_i aa;simp only[A0,A5]at h;obtain ⟨rfl,rfl,rfl⟩:=h;refine ⟨A,cap,cs,L,J,E,e,K,λC=>?_,λq M=>by simp at M;subst M;exact T (.row q) yG,?_,yE⟩
    .rcases B with ⟨_,_,B⟩|⟨B,_⟩|⟨B,_⟩
     .simp [B]
     .omega
     .omega
    .rcases B with ⟨B,_⟩|⟨B,_⟩|⟨B,_⟩<;>omega
  .simp at h
 .simp at h
theorem HI.nodupD [NW] {ob:Nat->Ob}(A:HI W g ob w):∀{ks:List Nat},ks.Nodup->(ks.flatMap g.D).Nodup
 | [],_=>by simp
 |k::ks,h=>by
  simp only[AN,AF];rw [AI]at h;refine ⟨(AF.1 (A.nodup k)).2.1,A.nodupD h.2,λx B y c e=>?_⟩;subst e;obtain ⟨j,C,c⟩:=AC.1 c;exact A.apart k j (λe=>h.1 (e ▸ C)) x (by simp [B]) (by simp [c])
theorem ZCZ [NW] (al:∀t i,tt t=some i->TOk P t i) (hI:HI W g st.ob w) (hU:StU U st) (I:¬U key) {t:Nat}{s x:SV}{vs vx:Value}{r:SV×List (Nat×Ob)}(h:ZoS st key (tt t) s x=some r) (hs:SVR g w s vs/\svU U s) (hx:SVR g w x vx/\svU U x) {ty:TypeId}{q:Sem Next}
  (hq:q=(do pure (.value (<-Builtin.append_ #[t,t] ty #[vs,vx])))):Fin P W U key st g w q r:=by
 unfold ZoS at h;split at h
 .rename_i e m p z V;obtain ⟨⟨xs,k1,d1⟩,h1,h⟩:=A9.1 h;obtain ⟨⟨ys,k2,d2⟩,h2,h⟩:=A9.1 h;split at h
  .rename_i hc;simp only[A0]at h;subst h;obtain ⟨X,Y,J,K⟩:=hc;simp only at J K;obtain ⟨hu,hm,L,⟨ie,zv,M,Z,aa,ab,ac,ad⟩,_⟩:=al t _ V;obtain ⟨cs,Lx,a1,a2,a3,a4,a5,a6,a7,a8⟩:=ZDo hI h1 X hs.1 hs.2;obtain ⟨A,c,a,Ly,b0,b1,b2,b3,b4,b5,b7,b8⟩:=ZEP hI h2 Y hx.1 hx.2;subst b0;obtain ⟨A1,ao,ae,af,aq⟩:=XK a1;have N:a.length=ys.length*m:=b1.len;obtain ⟨v',w',r1,r2,r3,r4⟩:∃v' w',(Builtin.append_ #[t,t] ty #[vs,.slice A ys.length c]).run P w=.ok v' w'/\w'.ownsV 0 e m v' (xs.length+ys.length) (cs++a)/\w.grownBy w' vs.ownBlock/\(v'.ownBlock=vs.ownBlock\/v'.ownBlock=some w.heap.size):=by
    by_cases hy:ys.length=0
    .have ag:a=[]:=AX (by rw [N,hy];simp);refine ⟨vs,w,?_,by rw [ag,hy,Aj];exact a1,World.grownBy.refl _ _,.inl rfl⟩;rw [ae,hy];exact Zsg hu M A1 A _ _ _ af
    .obtain ⟨b,off,rfl,E⟩:=b2 yE;have B:(xs.length+ys.length)*p<=140737488355328:=by
      have:=B3 K L;omega
     obtain ⟨v',w',q1,q2,q3,q5⟩:=ZgJ (P:=P) w 0 t ty e ie zv m p hu M ab Z aa (by rw [<-ad,ac.len];simp) hm vs xs.length cs a1 ⟨b,off,none⟩ ys.length c a N
      (λj u hj=>by rw [Zdt];exact E j u hj) b1.one (by unfold maxLen;omega) B (AG _)
     exact ⟨v',w',q1,q2,q3,q5⟩
   have C:∀b,¬g.own b->some b≠vs.ownBlock:=λb hn e=>hn (by
    have:b∈vs.ownBlock.toList:=by simp [<-e]
    rw [a5]at this;obtain ⟨k,_,mk⟩:=AC.1 this;exact .inl ⟨k,mk⟩)
   have d:∀b∈Lx++Ly,w'.heap[b]?=w.heap[b]?:=λb mb=>by
    rcases A4.1 mb with mb|mb
    .exact r3.block b (a2.lt b mb) (C b (a3 b mb))
    .exact r3.block b (b1.lt b mb) (C b (b3 b mb))
   have Q:REs w' m (xs++ys) (cs++a) (Lx++Ly):=(a2.keep λb mb=>d b (by simp [mb])).append (b1.keep λb mb=>d b (by simp [mb]));have l:∀b∈v'.ownBlock.toList,b∈k1.flatMap g.O\/b=w.heap.size:=λb mb=>by
    rcases r4 with r4|r4
    .rw [r4,a5]at mb;exact .inl mb
    .rw [r4]at mb;simp at mb;exact .inr mb
   have f:(Za3 d1 d2)=2->(Lx++Ly).Sublist ((k1++k2).flatMap g.D):=λhd=>by
    have hd:=ZzB hd a7 b7;rw [Ai];exact AE (by rw [a4 hd.1];exact AD _) (b4 hd.2)
   have F:∀b∈(if (Za3 d1 d2)=2 then Lx++Ly else []),b∈Lx++Ly/\(Za3 d1 d2)=2:=λb mb=>by
    split at mb
    .rename_i hd;exact ⟨mb,hd⟩
    .simp at mb
   have R:Bel W w':=by
    refine ⟨r3.os.trans hI.below.os,r3.tape.trans hI.below.tape,r3.output.trans hI.below.output,AL hI.below.size r3.size,λb hb S=>?_⟩;rw [r3.block b (AZ hb hI.below.size) λe=>?_]
    .exact hI.below.block b hb S
    .have:b∈vs.ownBlock.toList:=by simp [<-e]
     rw [a5]at this;obtain ⟨k,_,mk⟩:=AC.1 this;rcases hI.oy k b mk with h|h
     .omega
     .exact S h
   obtain ⟨t1,t2⟩:=hI.turn (key:=key) (U:=U) (w':=w') (v:=v') (O:=v'.ownBlock.toList) (D:=if (Za3 d1 d2)=2 then Lx++Ly else []) (o:=.row e m (xs++ys) (Za3 d1 d2)) hU.ob I (k1++k2)
    (λk mk=>(A4.1 mk).elim (a6 k) (b5 k)) R r3.size (λb hb hn=>r3.block b hb λe=>by
     have:b∈vs.ownBlock.toList:=by simp [<-e]
     rw [a5]at this;obtain ⟨k,hk,mk⟩:=AC.1 this;exact hn k (by simp [hk]) mk)
    (λb mb=>by
     rcases l b mb with mb|rfl
     .obtain ⟨k,hk,mk⟩:=AC.1 mb;exact .inl ⟨k,by simp [hk],mk⟩
     .exact .inr (AB _))
    (λb mb=>by
     obtain ⟨m1,m2⟩:=F b mb;obtain ⟨k,hk,mk⟩:=AC.1 ((f m2).subset m1);exact .inl ⟨k,hk,by simp [mk]⟩)
    (by
     rw [AF];refine ⟨by cases v'.ownBlock<;>simp,?_,λb mb b' ah e=>?_⟩
     .split
      .rename_i hd;exact (hI.nodupD J).sublist (f hd)
      .simp
     .subst e;obtain ⟨m1,m2⟩:=F b ah;rcases l b mb with mb|rfl
      .obtain ⟨k,_,mk⟩:=AC.1 mb;rcases A4.1 m1 with m1|m1
       .exact a3 b m1 (.inl ⟨k,mk⟩)
       .exact b3 b m1 (.inl ⟨k,mk⟩)
      .rcases A4.1 m1 with m1|m1
       .have:=a2.lt _ m1;omega
       .have:=b1.lt _ m1;omega)
    (λb mb=>by
     rcases A4.1 mb with mb|mb
     .have ai:W.heap.size<=b\/W.x b\/W.y b:=by
       rcases l b mb with mb|rfl
       .obtain ⟨k,_,mk⟩:=AC.1 mb;exact (hI.plain k b (by simp [mk])).1
       .exact .inl hI.below.size
      rcases r2.2 with ⟨h',_⟩|⟨g',o',ap,G,h',ar,hg,_⟩
      .simp [h',Value.ownBlock]at mb
      .simp [h',Value.ownBlock]at mb;subst mb;exact ⟨ai,G,e,hg⟩
     .obtain ⟨m1,m2⟩:=F b mb;obtain ⟨k,hk,mk⟩:=AC.1 ((f m2).subset m1);obtain ⟨p1,G,e',p2⟩:=hI.plainD mk;exact ⟨p1,G,e',by rw [d b m1];exact p2⟩)
    (λam=>⟨hm,cs++a,Lx++Ly,by simpa [Gh.turn,upd]using r2,Q,by
     by_cases hd:Za3 d1 d2=2
     .exact .inl ⟨hd,by simp [Gh.turn,upd],by simp [Gh.turn,hd]⟩
     .have aj:Za3 d1 d2=1:=by unfold Za3 at hd ⊢;split<;>simp_all<;>omega
      refine .inr (.inl ⟨aj,by simp [Gh.turn,upd],by simp [Gh.turn,hd],λb mb ho=>?_⟩);have H:¬g.own b:=by
       rcases A4.1 mb with m1|m1
       .exact a3 b m1
       .exact b3 b m1
      rcases ZfN ho with mo|⟨k,_,_,mk⟩|hz
      .rcases l b mo with mo|rfl
       .obtain ⟨k,_,mk⟩:=AC.1 mo;exact H (.inl ⟨k,mk⟩)
       .rcases A4.1 mb with m1|m1
        .have:=a2.lt _ m1;omega
        .have:=b1.lt _ m1;omega
      .exact H (.inl ⟨k,mk⟩)
      .exact H (.inr hz)⟩)
   have T:=Zkm (key:=key) (o:=.row e m (xs++ys) (Za3 d1 d2)) hU (k1++k2) trivial;refine ⟨_,v',w',.inl (by subst hq;simp only[Sem.run_bind,r1,Result.andThen_ok,Sem.run_pure]),t1,⟨_,rfl,⟨by simp [Gh.turn,upd],?_⟩⟩,t2,λy my=>by simp at my;subst my;exact ZkT,T.1,T.2⟩;obtain ⟨A2,an,ak⟩:=Zbi r2;simp [ak,Value.oneCell']
  .simp at h
 .simp at h
end
end
section
open Go.RowKit
section
variable {P:Program} {W:Qq} {U:Nat->Prop} {key:Nat} {st:St} {g:Gh} {w w':World} {a:Act} {tt:Nat->Option TI}
theorem RCs.dropS:∀{x:List CT}{c:List Value}{L:List Nat}(n:Nat),RCs w x c L->∃L',RCs w (x.drop n) (c.drop n) L'/\L'.Sublist L
 |x,c,L,0,h=>⟨L,by simpa using h,AD _⟩
 | [],c,L,n+1,h=>⟨[],by obtain ⟨rfl,rfl⟩:=h;simp [RCs],AK _⟩
 |x::r,_,_,n+1,⟨v,cs',L1,L2,rfl,rfl,h1,h2⟩=>by
  obtain ⟨L',B,A⟩:=RCs.dropS n h2;exact ⟨L',by simpa using B,A.trans (B5 L1 L2)⟩
theorem RCs.spliceS [NW] {x:List CT}{c:List Value}{L:List Nat}{ys:List CT}{us:List Value}(h:RCs w x c L) (A:RCs w ys us []):∀(off:Nat),∃L',RCs w (splice x off ys) (splice c off us) L'/\L'.Sublist L:=by
 have D:us.length=ys.length:=A.len;intro off;induction off generalizing x c L with
 |zero=>
  obtain ⟨L',C,B⟩:=h.dropS (0+ys.length);refine ⟨[]++L',?_,B⟩;simp only[splice,B6,Ap,D];exact A.append C
 |succ off ih=>
  cases x with
  |nil=>
   obtain ⟨rfl,rfl⟩:=h;refine ⟨[],?_,AK _⟩;simpa [splice]using A
  |cons x r=>
   obtain ⟨v,a,L1,L2,rfl,rfl,F,E⟩:=h;obtain ⟨L',C,B⟩:=ih E;refine ⟨L1++L',?_,AE (AD _) B⟩;have H:splice (x::r) (off+1) ys=x::splice r off ys:=by
    simp only[splice,Aa,AS];rw [show off+1+ys.length=(off+ys.length)+1 by omega,Ab]
   have G:splice (v::a) (off+1) us=v::splice a off us:=by
    simp only[splice,Aa,AS];rw [show off+1+us.length=(off+us.length)+1 by omega,Ab]
   rw [H,G];exact ⟨v,_,L1,L',rfl,rfl,F,C⟩
theorem Zfw {α:Type}(c c2:List α) (off:Nat) (us:List α):splice (c++c2) (c.length+off) us=c++splice c2 off us:=by
 simp only[splice];rw [List.take_length_add_append,Aq,Am,An (B7 _ _),Ac];simp
theorem Zbk {α:Type}(A c2:List α) (off:Nat) (c:List α) (h:off+c.length<=A.length):splice (A++c2) off c=splice A off c++c2:=by
 simp only[splice];rw [List.take_append_of_le_length yE,Ar h];simp
theorem REs.set [NW] {m:Nat}{C:List CT}{c:List Value}(D:RCs w C c []):∀{xs:List (List CT)}{cs:List Value}{L:List Nat}{i off:Nat}{x:List CT},REs w m xs cs L->xs[i]?=some x->off+c.length<=m->
  ∃L',REs w m (xs.set i (splice x off C)) (splice cs (i*m+off) c) L'/\L'.Sublist L
 | [],_,_,_,_,_,_,hx,_=>by simp at hx
 |e::r,_,_,0,off,x,⟨c1,c2,L1,L2,rfl,rfl,h3,h4⟩,hx,ho=>by
  simp at hx;subst hx;obtain ⟨L',B,A⟩:=h3.1.spliceS D off;refine ⟨L'++L2,?_,AE A (AD _)⟩;rw [Nat.zero_mul,Ad,Zbk _ _ _ _ (by rw [h3.2];exact ho)];exact ⟨splice c1 off c,c2,L',L2,rfl,rfl,⟨B,by rw [ZaJ _ _ _ (by rw [h3.2];exact ho)];exact h3.2⟩,h4⟩
 |e::r,_,_,i+1,off,x,⟨c1,c2,L1,L2,rfl,rfl,h3,h4⟩,hx,ho=>by
  obtain ⟨L',B,A⟩:=REs.set D h4 (i:=i) (off:=off) (x:=x) (by simpa using hx) ho;refine ⟨L1++L',?_,AE (AD _) A⟩;have e:(i+1)*m+off=c1.length+(i*m+off):=by rw [h3.2,AH];omega
  rw [e,Zfw];exact ⟨c1,_,L1,L',rfl,rfl,h3,B⟩
theorem Zqw [NW]:∀{vs:List AV}{C:List CT}{A:List Value},Zga vs=some C->ZJ (AVR g w) vs A->RCs w C A []
 | [],_,[],h,_=>by simp [Zga]at h;subst h;exact ⟨rfl,rfl⟩
 | [],_,_::_,_,h=>h.elim
 |_::_,_,[],_,h=>h.elim
 |x::vs,C,u::A,h,hr=>by
  simp only[Zga]at h;obtain ⟨y,D,h⟩:=A9.1 h;obtain ⟨b,G,rfl⟩:=A6.1 h;have E:x=.c y/\y.flat=true:=by
   cases x with
   |c z=>cases z<;>simp [Zv1]at D<;>subst D<;>exact ⟨rfl,rfl⟩
   |_=>simp [Zv1]at D
  obtain ⟨rfl,F⟩:=E;obtain ⟨L,B,_⟩:=hr.1;have a:L=[]:=by
   cases y with
   |int k n=>exact B.2
   |bool b=>exact B.2
   |str s=>exact B.2.1
   |_=>simp [CT.flat]at F
  subst a;exact ⟨u,A,[],[],rfl,rfl,B,Zqw G hr.2⟩
theorem RCs.spliceG [NW] {x:List CT}{c:List Value}{L:List Nat}{ys:List CT}{us:List Value}{M:List Nat}(h:RCs w x c L) (B:RCs w ys us M):∀(off:Nat),∃A C,RCs w (splice x off ys) (splice c off us) (A++(M++C))/\(A++C).Sublist L:=by
 have F:us.length=ys.length:=B.len;intro off;induction off generalizing x c L with
 |zero=>
  obtain ⟨L',E,D⟩:=h.dropS (0+ys.length);refine ⟨[],L',?_,by simpa using D⟩;simp only[splice,B6,Ap,F];exact B.append E
 |succ off ih=>
  cases x with
  |nil=>
   obtain ⟨rfl,rfl⟩:=h;refine ⟨[],[],?_,AK _⟩;simpa [splice]using B
  |cons x r=>
   obtain ⟨v,a,L1,L2,rfl,rfl,H,G⟩:=h;obtain ⟨A,C,E,D⟩:=ih G;refine ⟨L1++A,C,?_,by rw [AP];exact AE (AD _) D⟩;have J:splice (x::r) (off+1) ys=x::splice r off ys:=by
    simp only[splice,Aa,AS];rw [show off+1+ys.length=(off+ys.length)+1 by omega,Ab]
   have I:splice (v::a) (off+1) us=v::splice a off us:=by
    simp only[splice,Aa,AS];rw [show off+1+us.length=(off+us.length)+1 by omega,Ab]
   rw [J,I];exact ⟨v,_,L1,A++(M++C),rfl,by simp [AP],H,E⟩
theorem REs.setG [NW] {m:Nat}{E:List CT}{c:List Value}{M:List Nat}(F:RCs w E c M):∀{xs:List (List CT)}{cs:List Value}{L:List Nat}{i off:Nat}{x:List CT},REs w m xs cs L->xs[i]?=some x->off+c.length<=m->
  ∃A C,REs w m (xs.set i (splice x off E)) (splice cs (i*m+off) c) (A++(M++C))/\(A++C).Sublist L
 | [],_,_,_,_,_,_,hx,_=>by simp at hx
 |e::r,_,_,0,off,x,⟨c1,c2,L1,L2,rfl,rfl,h3,h4⟩,hx,ho=>by
  simp at hx;subst hx;obtain ⟨A,C,D,B⟩:=h3.1.spliceG F off;refine ⟨A,C++L2,?_,by rw [<-AP];exact AE B (AD _)⟩;rw [Nat.zero_mul,Ad,Zbk _ _ _ _ (by rw [h3.2];exact ho)];exact ⟨splice c1 off c,c2,A++(M++C),L2,rfl,by simp [AP],⟨D,by rw [ZaJ _ _ _ (by rw [h3.2];exact ho)];exact h3.2⟩,h4⟩
 |e::r,_,_,i+1,off,x,⟨c1,c2,L1,L2,rfl,rfl,h3,h4⟩,hx,ho=>by
  obtain ⟨A,C,D,B⟩:=REs.setG F h4 (i:=i) (off:=off) (x:=x) (by simpa using hx) ho;refine ⟨L1++A,C,?_,by rw [AP];exact AE (AD _) B⟩;have e:(i+1)*m+off=c1.length+(i*m+off):=by rw [h3.2,AH];omega
  rw [e,Zfw];exact ⟨c1,_,L1,A++(M++C),rfl,by simp [AP],h3,D⟩
theorem ZpQ:∀{xs:List AV}{cts:List CT}{ks:List Nat}{d:Nat},Zdf st xs=some (cts,ks,d)->∀k∈ks,∃e m xs d,st.ob k=.row e m xs d
 | [],_,_,_,h=>by
  simp only[Zdf,A0,A5]at h;obtain ⟨_,rfl,_⟩:=h;simp
 |x::r,cts,ks,d,h=>by
  simp only[Zdf]at h;obtain ⟨⟨K,D,J⟩,A,h⟩:=A9.1 h;obtain ⟨⟨c2,H,I⟩,F,h⟩:=A6.1 h;simp only[A5]at h;obtain ⟨_,rfl,_⟩:=h;have G:∀k∈D,∃e m xs d,st.ob k=.row e m xs d:=by
   cases x with
   |c y=>cases y<;>simp only[avT,A0,A5]at A<;>obtain ⟨_,rfl,_⟩:=A<;>simp
   |row k=>
    simp only[avT]at A;split at A
    .rename_i e m xs d E;split at A
     .simp only[A0,A5]at A;obtain ⟨_,rfl,_⟩:=A;simp
     .simp only[A0,A5]at A;obtain ⟨_,rfl,_⟩:=A;intro j B;simp only[Ae]at B;subst B;exact ⟨e,m,xs,d,E⟩
    .simp at A
   |nil e m=>
    simp only[avT]at A;split at A
    .simp only[A0,A5]at A;obtain ⟨_,rfl,_⟩:=A;simp
    .simp at A
   |n y=>simp [avT]at A
   |dead=>simp [avT]at A
  exact λk C=>(A4.1 C).elim (G k) (ZpQ F k)
theorem Zzf [NW] (af:∀t i,tt t=some i->TOk P t i) (hI:HI W g st.ob w) (hU:StU U st) {t k m i off e:Nat}{xs:List (List CT)}{d:Nat}{x ys:List CT}{vs:List AV}{va vv:Value}{ag:Bool}(hk:st.ob k=.row e m xs d) (S:¬d=0) (hx:xs[i]?=some x) (T:Zga vs=some ys) (hl:vs.length=Zgb (tt t)) (ho:off+vs.length<=m)
  (ha:SVR g w (.rp k m i off) va) (hv:SVR g w (.p ag vs) vv) (l:0<vs.length) {s:Sem Next} (hs:s=(do Instr.storeAt t va vv;pure .skip)):Fin P W U key st g w s (.und,[(k,.row e m (xs.set i (splice x off ys)) d)]):=by
 obtain ⟨b,o,n,c,h1,rfl⟩:=ha;obtain ⟨hm,cs,L,o1,o2,o3,o4,o5⟩:=hI.deepO hk S;obtain ⟨us,c1,c2⟩:=PVR.cells hv;have V:=c2.len;have hi:i<xs.length:=(B8.1 hx).1;rcases o1.2 with ⟨_,hn⟩|⟨b',o',cap,a,y,X,hg,F,Y,aa,ab⟩
 .omega
 have ac:b=b'/\o=o':=by rw [y]at h1;simp at h1;exact ⟨h1.1.1.symm,h1.1.2.symm⟩
 obtain ⟨rfl,rfl⟩:=ac;have ai:i*m+off+us.length<=xs.length*m:=by
  have:=Ag m (show i+1<=xs.length by omega);rw [AH]at this;omega
 have ah:xs.length*m<=cap*m:=Ag m F;have A:(sizeOf t).run P w=.ok us.length w:=by
  rw [<-V,hl];unfold Zgb at hl ⊢;cases hti:tt t with
  |none=>rw [hti]at hl;simp at hl;simp [hl]at l
  |some i=>
   cases i with
   |atom z=>obtain ⟨d,zv,i,_,_,h3,_,h4,_⟩:=af t _ hti;rw [Y7 h3,h4]
   |strct fs n z=>obtain ⟨_,i,_,_,h3,h4,_⟩:=af t _ hti;rw [Y7 h3,h4]
   |slice e m b z=>obtain ⟨_,_,_,_,j,h3,h4,_⟩:=af t _ hti;rw [Y7 h3,h4]
   |_=>rw [hti]at hl;simp at hl;simp [hl]at l
 have G:=run_storeCells_at (P:=P) b (o+(i*m+off)) e us 0 a w hg yE (AVRs.one c2);obtain ⟨r1,r2,r3,r4,r5,r6⟩:=Zk3 b a (splice a.toList (o+(i*m+off)) us).toArray e hg;have H:s.run P w=.ok .skip (w.setRow b (splice a.toList (o+(i*m+off)) us).toArray):=by
  subst hs;have e:(a.toList.take (o+(i*m+off)+0)++us++a.toList.drop (o+(i*m+off)+0+us.length)).toArray=(splice a.toList (o+(i*m+off)) us).toArray:=by simp [splice]
  rw [e]at G;simp [Instr.storeAt,Instr.sureAddr,storeVar,c1,A,G]
 have B:g.O k=[b]:=by rw [o4,y];rfl
 have I:∀b',b'<w.heap.size->¬g.own b'->(w.setRow b (splice a.toList (o+(i*m+off)) us).toArray).heap[b']?=w.heap[b']?:=λb' _ hn=>r2 b' λe=>hn (.inl ⟨k,by simp [B,e]⟩);obtain ⟨L',q1,q2⟩:=o2.set (Zqw T c2) hx (show off+us.length<=m by omega);have C:(w.setRow b (splice a.toList (o+(i*m+off)) us).toArray).ownsV 0 e m (g.val k) (xs.set i (splice x off ys)).length (splice cs (i*m+off) us):=by
  have J:cs.length=xs.length*m:=o1.1;refine ⟨by rw [ZaJ _ _ _ yE,J];simp,.inr ⟨b,o,cap,_,by simpa using y,X,r1,by simpa using F,Y,by rw [B9,ZaJ _ _ _ (show o+(i*m+off)+us.length<=a.toList.length by simp;omega)];simpa using aa,?_⟩⟩;have h0:((splice a.toList (o+(i*m+off)) us).toArray.toList).drop o=splice (a.toList.drop o) (i*m+off) us:=by
   show (splice a.toList (o+(i*m+off)) us).drop o=_
   unfold splice;have ad:o<=(a.toList.take (o+(i*m+off))).length:=by simp;omega
   rw [Ar ad,BB,Ac,BC,Aq]
  rw [h0];have:a.toList.drop o=cs++(a.toList.drop o).drop (xs.length*m):=by rw [<-ab];exact (As _ _).symm
  rw [this,Zbk _ _ _ _ yE];have e2:(xs.set i (splice x off ys)).length*m=(splice cs (i*m+off) us).length:=by rw [ZaJ _ _ _ yE,J];simp
  rw [e2];exact Al rfl
 have K:=o2.lt;have E:REs (w.setRow b (splice a.toList (o+(i*m+off)) us).toArray) m (xs.set i (splice x off ys)) (splice cs (i*m+off) us) L':=q1.keep λb' mb=>I b' (K b' (q2.subset mb)) (o3 b' (q2.subset mb));let g':Gh:=⟨g.val,g.O,upd g.D k (if d=2 then L' else []),g.Z⟩
 have aj:∀b',g'.own b'↔g.own b':=λb'=>Iff.rfl;have M:(∀b'∈g'.D k,b'∈g.D k)->Ql g g' w.heap.size:=λhs=>.of (λb' h=>.inl h) λj b' mb=>by
  by_cases hj:j=k
  .subst hj;exact .inl (.inr ⟨j,hs b' mb⟩)
  .exact .inl (.inr ⟨j,by simpa [g',ZR _ _ hj]using mb⟩)
 have f:∀b'∈g'.D k,b'∈g.D k:=λb' mb=>by
  simp only[g',ZG]at mb;split at mb
  .rename_i hd;rcases o5 with ⟨_,o5⟩|⟨o5,_⟩
   .rw [o5];exact q2.subset mb
   .omega
  .simp at mb
 refine ⟨g',undef,_,.inr ⟨H,rfl⟩,?_,rfl,λx u hx hu=>hu.move hx (λ_ _=>rfl) I (M f) yE,trivial,λq=>?_,λq hq=>?_⟩
 .refine hI.step (U:=U) (λq=>q=k) ?_ rfl (λb' _ hn=>r2 b' λe=>hn k rfl (by simp [B,e])) (λq hq=>⟨ZR _ _ hq,rfl,rfl,ZR _ _ hq⟩) hU.ob (λ_ _=>rfl) (M f) (λq hq=>?_)
  .exact ⟨r4.trans hI.below.os,r5.trans hI.below.tape,r6.trans hI.below.output,by have:=hI.below.size;omega,λq hq N=>by rw [r2 q (λe=>by subst e;rcases hI.oy k q (by simp [B]) with h|h;omega;exact N h)];exact hI.below.block q hq N⟩
  .subst hq;have v:∀b'∈g'.O q++g'.D q,b'∈g.O q++g.D q:=λb' mb=>by
    rcases A4.1 mb with mb|mb
    .exact A4.2 (.inl mb)
    .exact A4.2 (.inr (f b' mb))
   refine ⟨?_,?_,λb' mb=>?_,λj hj b' mb mj=>?_⟩
   .simp only[Zl,ZG];refine ⟨hm,_,L',C,E,?_⟩;rcases o5 with ⟨o5,_⟩|⟨o5,_⟩
    .exact .inl ⟨o5,o4,by simp [g',upd,o5]⟩
    .exact .inr (.inl ⟨o5,o4,by simp [g',upd,o5],λb' mb=>o3 b' (q2.subset mb)⟩)
   .have hn:=hI.nodup q;refine hn.sublist (AE (AD _) ?_);simp only[g',ZG];split
    .rename_i hd;rcases o5 with ⟨_,o5⟩|⟨o5,_⟩
     .rw [o5];exact q2
     .omega
    .exact AK _
   .have hp:=hI.plain q b' (v b' mb);rw [hk]at hp;obtain ⟨p1,Q,e',p2⟩:=hp;refine ⟨p1,?_⟩;simp only[Zl,ZG];show ∃a e,_=_
    by_cases R:b'=b
    .subst R;exact ⟨_,_,r1⟩
    .exact ⟨Q,e',by rw [r2 b' R];exact p2⟩
   .have ae:b'∈g.O j++g.D j:=by
     rcases A4.1 mj with mj|mj
     .exact A4.2 (.inl mj)
     .simp only[g',ZR _ _ (λe:j=q=>hj e.symm)]at mj;exact A4.2 (.inr mj)
    exact hI.apart q j hj b' (v b' mb) ae
 .simp only[Zl,upd];split
  .trivial
  .exact (hU.ob q).mono λ_=>.inl
 .simp only[Zl,upd];split
  .rename_i e;subst e;exact absurd (hU.gone q λh=>hq (.inl h)) (by simp [hk])
  .exact hU.gone q λh=>hq (.inl h)
theorem Zyg [NW] (as:∀t i,tt t=some i->TOk P t i) (hI:HI W g st.ob w) (hU:StU U st) {t k m i off e:Nat}{xs:List (List CT)}{d:Nat}{x ys:List CT}{vs:List AV}{va vv:Value}{ag:Bool}(hk:st.ob k=.row e m xs d) (ar:¬d=0) (hx:xs[i]?=some x) {ks:List Nat}{dv:Nat}(ab:Zdf st vs=some (ys,ks,dv)) (E:(k::ks).Nodup) (hl:vs.length=Zgb (tt t)) (ho:off+vs.length<=m)
  (au:XX U vs) (ha:SVR g w (.rp k m i off) va) (hv:SVR g w (.p ag vs) vv) (J:0<vs.length) {s:Sem Next} (hs:s=(do Instr.storeAt t va vv;pure .skip)):Fin P W U key st g w s (.und,Yk ks++[(k,.row e m (xs.set i (splice x off ys)) (Za3 d dv))]):=by
 obtain ⟨b,o,n,c,h1,rfl⟩:=ha;obtain ⟨hm,cs,L,o1,o2,o3,o4,o5⟩:=hI.deepO hk ar;obtain ⟨us,c1,c2⟩:=PVR.cells hv;have av:=c2.len;have hi:i<xs.length:=(B8.1 hx).1;rcases o1.2 with ⟨_,hn⟩|⟨b',o',cap,a,G,aw,hg,ac,ax,ay,az⟩
 .omega
 have a0:b=b'/\o=o':=by rw [G]at h1;simp at h1;exact ⟨h1.1.1.symm,h1.1.2.symm⟩
 obtain ⟨rfl,rfl⟩:=a0;have a9:i*m+off+us.length<=xs.length*m:=by
  have:=Ag m (show i+1<=xs.length by omega);rw [AH]at this;omega
 have a8:xs.length*m<=cap*m:=Ag m ac;have K:(sizeOf t).run P w=.ok us.length w:=by
  rw [<-av,hl];unfold Zgb at hl ⊢;cases hti:tt t with
  |none=>rw [hti]at hl;simp at hl;simp [hl]at J
  |some i=>
   cases i with
   |atom z=>obtain ⟨d,zv,i,_,_,h3,_,h4,_⟩:=as t _ hti;rw [Y7 h3,h4]
   |strct fs n z=>obtain ⟨_,i,_,_,h3,h4,_⟩:=as t _ hti;rw [Y7 h3,h4]
   |slice e m b z=>obtain ⟨_,_,_,_,j,h3,h4,_⟩:=as t _ hti;rw [Y7 h3,h4]
   |_=>rw [hti]at hl;simp at hl;simp [hl]at J
 have ad:=run_storeCells_at (P:=P) b (o+(i*m+off)) e us 0 a w hg yE (AVRs.one c2);obtain ⟨r1,r2,r3,r4,r5,r6⟩:=Zk3 b a (splice a.toList (o+(i*m+off)) us).toArray e hg;have ae:s.run P w=.ok .skip (w.setRow b (splice a.toList (o+(i*m+off)) us).toArray):=by
  subst hs;have e:(a.toList.take (o+(i*m+off)+0)++us++a.toList.drop (o+(i*m+off)+0+us.length)).toArray=(splice a.toList (o+(i*m+off)) us).toArray:=by simp [splice]
  rw [e]at ad;simp [Instr.storeAt,Instr.sureAddr,storeVar,c1,K,ad]
 let x_:=x
 have B:g.O k=[b]:=by rw [o4,G];rfl
 have N:g.own b:=.inl ⟨k,by simp [B]⟩;obtain ⟨M,y1,y2,y3⟩:=Zrp hI ab c2 au;have af:=ZpQ ab;obtain ⟨A,C,q1,q2⟩:=o2.setG y1 hx (show off+us.length<=m by omega);rw [AI]at E;have hdv:=y2.2.1;have hdv0:=y2.2.2.1;have ah:∀x∈g.F ks,∃j∈ks,x∈g.O j++g.D j:=λx mx=>ZfX mx;have Q:b∉M:=λmb=>by
  rcases y2.2.2.2 b mb with h|⟨j,hj,mj⟩
  .exact h N
  .exact hI.apart k j (λe=>E.1 (e ▸ hj)) b (by simp [B]) (by simp [mj])
 have R:b∉L:=λmb=>o3 b mb N;have l:∀x∈A++(M++C),x∈L\/x∈M:=λx mx=>by
  simp only[A4]at mx;rcases mx with mx|mx|mx
  .exact .inl (q2.subset (by simp [mx]))
  .exact .inr mx
  .exact .inl (q2.subset (by simp [mx]))
 have S:(w.setRow b (splice a.toList (o+(i*m+off)) us).toArray).ownsV 0 e m (g.val k) (xs.set i (splice x off ys)).length (splice cs (i*m+off) us):=by
  have ai:cs.length=xs.length*m:=o1.1;refine ⟨by rw [ZaJ _ _ _ yE,ai];simp,.inr ⟨b,o,cap,_,by simpa using G,aw,r1,by simpa using ac,ax,by rw [B9,ZaJ _ _ _ (show o+(i*m+off)+us.length<=a.toList.length by simp;omega)];simpa using ay,?_⟩⟩;have h0:((splice a.toList (o+(i*m+off)) us).toArray.toList).drop o=splice (a.toList.drop o) (i*m+off) us:=by
   show (splice a.toList (o+(i*m+off)) us).drop o=_
   unfold splice;have a1:o<=(a.toList.take (o+(i*m+off))).length:=by simp;omega
   rw [Ar a1,BB,Ac,BC,Aq]
  rw [h0];have:a.toList.drop o=cs++(a.toList.drop o).drop (xs.length*m):=by rw [<-az];exact (As _ _).symm
  rw [this,Zbk _ _ _ _ yE];have e2:(xs.set i (splice x off ys)).length*m=(splice cs (i*m+off) us).length:=by rw [ZaJ _ _ _ yE,ai];simp
  rw [e2];exact Al rfl
 have T:REs (w.setRow b (splice a.toList (o+(i*m+off)) us).toArray) m (xs.set i (splice x off ys)) (splice cs (i*m+off) us) (A++(M++C)):=q1.keep λb' mb=>r2 b' λe=>by
  rcases l b' mb with h|h
  .exact R (e ▸ h)
  .exact Q (e ▸ h)
 let g':Gh:=⟨g.val,λj=>if j∈ks then [] else g.O j,λj=>if j=k then (if Za3 d dv=2 then A++(M++C) else []) else if j∈ks then [] else g.D j,g.Z⟩
 have gK:∀j∈ks,g'.O j=[]/\g'.D j=[]:=λj hj=>by
  have f:¬j=k:=λe=>E.1 (e ▸ hj);exact ⟨if_pos hj,by simp only[g',if_neg f,if_pos hj]⟩
 have gk:g'.O k=[b]/\g'.D k=if Za3 d dv=2 then A++(M++C) else []:=⟨by simp only[g',if_neg E.1,B],by simp only[g',if_true]⟩
 have gN:∀j,¬j=k->j∉ks->g'.O j=g.O j/\g'.D j=g.D j:=λj h1 h2=>⟨if_neg h2,by simp only[g',if_neg h1,if_neg h2]⟩
 have V:∀x,g'.own x->g.own x:=λx hx=>by
  rcases hx with ⟨j,mj⟩|hz
  .by_cases hj:j∈ks
   .rw [(gK j hj).1]at mj;simp at mj
   .exact .inl ⟨j,by simpa [g',hj]using mj⟩
  .exact .inr hz
 have aj:Za3 d dv=2->d=2/\dv=2:=λh=>by
  have hd:d<=2:=by rcases o5 with ⟨q,_⟩|⟨q,_⟩<;>omega
  unfold Za3 at h;split at h<;>omega
 have H:∀x∈g'.D k,(∃j,x∈g.D j/\j=k)\/∃j∈ks,x∈g.O j++g.D j:=λx mx=>by
  rw [gk.2]at mx;split at mx
  .rename_i hd;obtain ⟨e1,e2⟩:=aj hd;rcases l x mx with h|h
   .rcases o5 with ⟨_,o5⟩|⟨q,_⟩
    .exact .inl ⟨k,by rw [o5];exact h,rfl⟩
    .omega
   .exact .inr (ah x ((y2.1 e2).subset h))
  .simp at mx
 have ak:Ql g g' w.heap.size:=.of (λx hx=>.inl (V x hx)) λj x mj=>by
  by_cases hj:j=k
  .subst hj;rcases H x mj with ⟨i,mi,_⟩|⟨i,_,mi⟩
   .exact .inl (.inr ⟨i,mi⟩)
   .rcases A4.1 mi with mi|mi
    .exact .inl (.inl (.inl ⟨i,mi⟩))
    .exact .inl (.inr ⟨i,mi⟩)
  .by_cases f:j∈ks
   .rw [(gK j f).2]at mj;simp at mj
   .rw [(gN j hj f).2]at mj;exact .inl (.inr ⟨j,mj⟩)
 have a2:∀b',b'<w.heap.size->¬g.own b'->(w.setRow b (splice a.toList (o+(i*m+off)) us).toArray).heap[b']?=w.heap[b']?:=λb' _ hn=>r2 b' λe=>hn (e ▸ N);have a3:U k:=Classical.byContradiction λh=>by have:=hU.gone k h;rw [hk]at this;simp at this
 have v:∀j,Zl st.ob (Yk ks++[(k,.row e m (xs.set i (splice x off ys)) (Za3 d dv))]) j=if j=k then .row e m (xs.set i (splice x off ys)) (Za3 d dv) else if j∈ks then .gone else st.ob j:=λj=>ZaM _ _ _ _ _;have al:∀x∈g'.D k,(W.heap.size<=x\/W.x x\/W.y x)/\YT (w.setRow b (splice a.toList (o+(i*m+off)) us).toArray) (.row e m (xs.set i (splice x_ off ys)) (Za3 d dv)) x:=λx mx=>by
  have am:x≠b:=λh=>by
   rw [gk.2]at mx;split at mx
   .rcases l x mx with q|q
    .exact R (h ▸ q)
    .exact Q (h ▸ q)
   .simp at mx
  rcases H x mx with ⟨j,mj,_⟩|⟨j,hj,mj⟩
  .exact ⟨(hI.plainD mj).1,YT.keep (o:=.row e m (xs.set i (splice x_ off ys)) (Za3 d dv)) (hI.plainD mj).2 (r2 x am)⟩
  .obtain ⟨p1,p2⟩:=hI.plain j x mj;obtain ⟨_,_,_,_,a4⟩:=af j hj;rw [a4]at p2;exact ⟨p1,YT.keep (o:=.row e m (xs.set i (splice x_ off ys)) (Za3 d dv)) p2 (r2 x am)⟩
 refine ⟨g',undef,_,.inr ⟨ae,rfl⟩,?_,rfl,λx u hx hu=>hu.move hx (λ_ _=>rfl) a2 ak yE,trivial,λq=>?_,λq hq=>?_⟩
 .refine hI.step (U:=U) (λq=>q=k\/q∈ks) ?_ rfl (λb' _ hn=>r2 b' λe=>hn k (.inl rfl) (by simp [B,e])) (λq hq=>?_) hU.ob (λ_ _=>rfl) ak (λq hq=>?_)
  .exact ⟨r4.trans hI.below.os,r5.trans hI.below.tape,r6.trans hI.below.output,by have:=hI.below.size;omega,λq hq an=>by rw [r2 q (λe=>by subst e;rcases hI.oy k q (by simp [B]) with h|h;omega;exact an h)];exact hI.below.block q hq an⟩
  .have h1:¬q=k:=λe=>hq (.inl e);have h2:q∉ks:=λe=>hq (.inr e);exact ⟨by rw [v,if_neg h1,if_neg h2],rfl,(gN q h1 h2).1,(gN q h1 h2).2⟩
  .by_cases X:q=k
   .subst X;rw [v,if_pos rfl];have a5:∀j,q≠j->∀x∈g'.O q++g'.D q,x∉g'.O j++g'.D j:=λj hj x mx mj=>by
     by_cases f:j∈ks
     .rw [(gK j f).1,(gK j f).2]at mj;simp at mj
     .rw [(gN j (λe=>hj e.symm) f).1,(gN j (λe=>hj e.symm) f).2]at mj;rcases A4.1 mx with mx|mx
      .rw [gk.1]at mx;exact hI.apart q j hj x (by rw [B];simp at mx;simp [mx]) mj
      .rcases H x mx with ⟨i',mi,rfl⟩|⟨i',I,mi⟩
       .exact hI.apart i' j hj x (by simp [mi]) mj
       .exact hI.apart i' j (λe=>f (e ▸ I)) x mi mj
    refine ⟨⟨hm,_,A++(M++C),S,T,?_⟩,?_,λx mx=>?_,a5⟩
    .by_cases hd:Za3 d dv=2
     .exact .inl ⟨hd,by rw [gk.1,G];rfl,by rw [gk.2,if_pos hd]⟩
     .have a6:Za3 d dv=1:=by
       unfold Za3 at hd ⊢;split
       .rename_i Y;rw [if_pos Y]at hd;rcases o5 with ⟨q,_⟩|⟨q,_⟩<;>omega
       .rename_i Y;rw [if_neg Y]at hd;omega
      refine .inr (.inl ⟨a6,by rw [gk.1,G];rfl,by rw [gk.2,if_neg hd],λx mx aa=>?_⟩);rcases l x mx with h|h
      .exact o3 x h (V x aa)
      .rcases y2.2.2.2 x h with h|⟨j,hj,mj⟩
       .exact h (V x aa)
       .rcases aa with ⟨i',mi⟩|hz
        .by_cases I:i'∈ks
         .rw [(gK i' I).1]at mi;simp at mi
         .have a7:x∈g.O i':=by simpa [g',I]using mi
          exact hI.apart j i' (λe=>I (e ▸ hj)) x (by simp [mj]) (by simp [a7])
        .exact hI.nz (k:=j) (by simp [mj]) hz
    .rw [gk.1,gk.2];simp only[AQ,AI];refine ⟨λmb=>?_,?_⟩
     .split at mb
      .rcases l b mb with h|h
       .exact R h
       .exact Q h
      .simp at mb
     .split
      .rename_i hd;obtain ⟨e1,e2⟩:=aj hd;have hL:L.Nodup:=by
        rcases o5 with ⟨_,o5⟩|⟨q',_⟩
        .have:=(AF.1 (hI.nodup q)).2.1;rw [o5]at this;exact this
        .omega
       have hM:M.Nodup:=(hI.nodupF E.2).sublist (y2.1 e2);have ao:∀x∈L,x∉M:=λx h1 h2=>by
        obtain ⟨j,hj,mj⟩:=ah x ((y2.1 e2).subset h2);rcases o5 with ⟨_,o5⟩|⟨q',_⟩
        .exact hI.apart q j (λe=>E.1 (e ▸ hj)) x (by rw [o5];simp [h1]) mj
        .omega
       have ap:=hL.sublist q2;rw [AF]at ap ⊢;obtain ⟨n1,n2,n3⟩:=ap;refine ⟨n1,AF.2 ⟨hM,n2,λx h1 y h2 e=>ao y (q2.subset (by simp [h2])) (e ▸ h1)⟩,λx h1 y h2 e=>?_⟩;rcases A4.1 h2 with h2|h2
       .exact ao x (q2.subset (by simp [h1])) (e ▸ h2)
       .exact n3 x h1 y h2 e
      .simp
    .rcases A4.1 mx with mx|mx
     .rw [gk.1]at mx;simp only[Ae]at mx;subst mx;exact ⟨(hI.plain q x (by simp [B])).1,_,_,r1⟩
     .exact al x mx
   .have aq:q∈ks:=hq.resolve_left X;obtain ⟨e2,e3⟩:=gK q aq;rw [v,if_neg X,if_pos aq,e2,e3];exact ⟨⟨e2,e3⟩,yG,yG,yG⟩
 .rw [v];split
  .trivial
  .split
   .trivial
   .exact (hU.ob q).mono λ_=>.inl
 .rw [v,if_neg (by rintro rfl;exact hq (.inl a3))];split
  .rfl
  .exact hU.gone q λh=>hq (.inl h)
end
end
section
open Go.RowKit
section
variable {P:Program} {W:Qq} {U:Nat->Prop} {key:Nat} {st:St} {g:Gh} {w w':World} {a:Act} {tt:Nat->Option TI}
theorem Zuv [NW] {α:Type}(f:Nat->α) (k:Nat):upd f k (f k)=f:=by
 funext j;by_cases c:j=k
 .subst c;rw [ZG]
 .rw [ZR _ _ c]
theorem AVR.less [NW] {A:Gh}{x:AV}{v:Value}(h:AVR g w x v) (D:A.val=g.val) (B:XV A g):AVR A w x v:=by
 cases x with
 |c x=>obtain ⟨L,G,F⟩:=h;exact ⟨L,G,λb C E=>F b C (B.own b E)⟩
 |n x=>exact NR.move h (λ_ _ _=>rfl) (B.grow _)
 |row k=>exact ⟨h.1.trans (by rw [D]),h.2⟩
 |nil e m=>exact h
 |dead=>exact h
theorem SVR.less [NW] {c:Gh}{x:SV}{v:Value}(h:SVR g w x v) (B:c.val=g.val) (C:XV c g):SVR c w x v:=
 h.move (U:=λ_=>True) (by (cases x<;>try trivial);(intro y A;cases y<;>trivial);(intro y A z D;cases z<;>trivial)) (λk _=>by rw [B]) (λ_ _ _=>rfl) (C.grow _) (AB _)
theorem ZjS [NW] {ob:Nat->Ob}(E:HI W g ob w) (k:Nat):∃A:Gh,HI W A (upd ob k (Ye (ob k))) w/\A.val=g.val/\XV A g/\((∃e m xs d,ob k=.row e m xs d)->∀b∈g.O k++g.D k,¬A.low b):=by
 cases hk:ob k with
 |gone=>exact ⟨g,by rw [show Ye Ob.gone=ob k from hk.symm,Zuv];exact E,rfl,XV.refl _,yG⟩
 |box t cs=>exact ⟨g,by rw [show Ye (Ob.box t cs)=ob k from hk.symm,Zuv];exact E,rfl,XV.refl _,yG⟩
 |map kk vk kv=>exact ⟨g,by rw [show Ye (Ob.map kk vk kv)=ob k from hk.symm,Zuv];exact E,rfl,XV.refl _,yG⟩
 |row e m xs d=>
  obtain ⟨hm,cs,L,o1,o2,o3,o5⟩:=E.deep hk;let A:Gh:=⟨g.val,upd g.O k [],upd g.D k [],g.Z⟩
  have H:∀j b,b∈A.O j->j≠k/\b∈g.O j:=λj b B=>by
   by_cases C:j=k
   .subst C;simp [A,upd]at B
   .exact ⟨C,by simpa [A,upd,C]using B⟩
  have M:∀j b,b∈A.D j->j≠k/\b∈g.D j:=λj b B=>by
   by_cases C:j=k
   .subst C;simp [A,upd]at B
   .exact ⟨C,by simpa [A,upd,C]using B⟩
  have l:∀j b,b∈A.O j++A.D j->j≠k/\b∈g.O j++g.D j:=λj b B=>by
   rcases A4.1 B with I|I
   .exact ⟨(H j b I).1,by simp [(H j b I).2]⟩
   .exact ⟨(M j b I).1,by simp [(M j b I).2]⟩
  have a:∀b,A.own b->g.own b:=λb G=>by
   rcases G with ⟨j,F⟩|J
   .exact .inl ⟨j,(H j b F).2⟩
   .exact .inr J
  have f:XV A g:=.of a λj b B=>⟨j,(M j b B).2⟩
  have o:∀b∈(g.val k).ownBlock.toList,¬A.own b:=λb B G=>by
   rcases o5 with ⟨_,q,_⟩|⟨_,q,_⟩|⟨_,_,_,q⟩
   .have K:b∈g.O k++g.D k:=by simp [q,B]
    rcases G with ⟨j,F⟩|J
    .exact E.apart k j (λe=>(H j b F).1 e.symm) b K (by simp [(H j b F).2])
    .exact E.nz K J
   .have K:b∈g.O k++g.D k:=by simp [q,B]
    rcases G with ⟨j,F⟩|J
    .exact E.apart k j (λe=>(H j b F).1 e.symm) b K (by simp [(H j b F).2])
    .exact E.nz K J
   .exact q b B (a b G)
  refine ⟨A,⟨E.below,λj=>?_,λj=>?_,λi j p b B F=>?_,λj b B=>?_,E.gz,E.zx,E.nw,λj b B=>E.oy j b (H j b B).2⟩,rfl,f,λ_ b B G=>?_⟩
  rotate_right
  .rcases G with (⟨j,F⟩|J)|⟨j,F⟩
   .exact E.apart k j (λe=>(H j b F).1 e.symm) b B (by simp [(H j b F).2])
   .exact E.nz B J
   .exact E.apart k j (λe=>(M j b F).1 e.symm) b B (by simp [(M j b F).2])
  .by_cases C:j=k
   .subst C;rw [ZG];refine ⟨hm,cs,L,o1,o2,.inr (.inr ⟨rfl,by simp [A,upd],by simp [A,upd],λb B=>?_⟩)⟩;rcases A4.1 B with I|I
    .exact o b I
    .exact λG=>o3 b I (a b G)
   .rw [ZR _ _ C];have ho:=E.obs j;cases hoj:ob j with
    |gone=>rw [hoj]at ho;exact ⟨by simpa [A,upd,C]using ho.1,by simpa [A,upd,C]using ho.2⟩
    |box t ds=>
     rw [hoj]at ho;obtain ⟨b,vs,h1,h2,V,U,h5⟩:=ho;exact ⟨b,vs,h1,by simpa [A,upd,C]using h2,by simpa [A,upd,C]using V,U,h5.mono λx u _ hx=>AVR.less hx rfl f⟩
    |map kk vk kv=>
     rw [hoj]at ho;obtain ⟨b,es,c,h1,h2,V,U⟩:=ho;exact ⟨b,es,c,h1,by simpa [A,upd,C]using h2,by simpa [A,upd,C]using V,U⟩
    |row e' m' xs' d'=>
     rw [hoj]at ho;obtain ⟨v,y,L',p1,p2,T⟩:=ho;refine ⟨v,y,L',p1,p2,?_⟩;have e1:A.O j=g.O j:=by simp [A,upd,C]
     have e2:A.D j=g.D j:=by simp [A,upd,C]
     rw [e1,e2];rcases T with T|⟨S,R,P,N⟩|⟨S,R,P,N⟩
     .exact .inl T
     .exact .inr (.inl ⟨S,R,P,λb B G=>N b B (a b G)⟩)
     .exact .inr (.inr ⟨S,R,P,λb B G=>N b B (a b G)⟩)
  .by_cases C:j=k
   .subst C;simp [A,upd]
   .have:=E.nodup j;simpa [A,upd,C]using this
  .exact E.apart i j p b (l i b B).2 (l j b F).2
  .rw [ZR _ _ (l j b B).1];exact E.plain j b (l j b B).2
theorem Zy7 [NW] {ob:Nat->Ob}(B:HI W g ob w) {k t:Nat}{cs:List AV}(hk:ob k=.box t cs):∃A:Gh,HI W A (upd ob k .gone) w/\A.val=g.val/\XV A g/\∃b vs,g.val k=.pointer (some ⟨b,0,none⟩)/\¬A.own b/\b<w.heap.size/\Zbr w b 0 vs/\ZJ (AVR g w) cs vs:=by
 have ho:=B.obs k;rw [hk]at ho;obtain ⟨b,vs,K,H,M,G,h5⟩:=ho;let A:Gh:=⟨g.val,upd g.O k [],upd g.D k [],g.Z⟩
 have F:∀j x,x∈A.O j++A.D j->j≠k/\x∈g.O j++g.D j:=λj x C=>by
  by_cases hj:j=k
  .subst hj;simp [A,upd]at C
  .exact ⟨hj,by simpa [A,upd,hj]using C⟩
 have a:∀x,A.own x->g.own x/\x≠b:=λx I=>by
  rcases I with ⟨j,L⟩|hz
  .have:=F j x (by simp [L]);refine ⟨.inl ⟨j,?_⟩,λe=>?_⟩
   .have hj:=this.1;simpa [A,upd,hj]using L
   .subst e;exact B.apart j k this.1 x this.2 (by simp [H])
  .exact ⟨.inr hz,λe=>by subst e;exact B.nz (k:=k) (by simp [H]) hz⟩
 have d:XV A g:=.of (λx I=>(a x I).1) λj b E=>⟨j,by
  have hj:=(F j b (by simp [E])).1;simpa [A,upd,hj]using E⟩
 refine ⟨A,⟨B.below,λj=>?_,λj=>?_,λi j f x C L=>?_,λj x C=>?_,B.gz,B.zx,B.nw,λj x C=>by
  by_cases hj:j=k
  .subst hj;simp [A,upd]at C
  .exact B.oy j x (by simpa [A,upd,hj]using C)⟩,rfl,d,b,vs,K,λJ=>(a b J).2 rfl,(BD.1 G).1,λj u hj=>?_,h5⟩
 .by_cases hj:j=k
  .subst hj;rw [ZG];exact ⟨by simp [A,upd],by simp [A,upd]⟩
  .rw [ZR _ _ hj];have ho:=B.obs j;have P:A.O j=g.O j:=by simp [A,upd,hj]
   have N:A.D j=g.D j:=by simp [A,upd,hj]
   cases hoj:ob j with
   |gone=>rw [hoj]at ho;exact ⟨P.trans ho.1,N.trans ho.2⟩
   |box t ds=>
    rw [hoj]at ho;obtain ⟨b,vs,K,H,M,G,h5⟩:=ho;exact ⟨b,vs,K,P.trans H,N.trans M,G,h5.mono λx u _ I=>AVR.less I rfl d⟩
   |map kk vk kv=>
    rw [hoj]at ho;obtain ⟨b,es,c,K,H,M,G⟩:=ho;exact ⟨b,es,c,K,P.trans H,N.trans M,G⟩
   |row e' m' xs' d'=>
    rw [hoj]at ho;obtain ⟨l,m,L',p1,p2,V⟩:=ho;refine ⟨l,m,L',p1,p2,?_⟩;rw [P,N];rcases V with V|⟨U,T,S,R⟩|⟨U,T,S,R⟩
    .exact .inl V
    .exact .inr (.inl ⟨U,T,S,λb E J=>R b E (a b J).1⟩)
    .exact .inr (.inr ⟨U,T,S,λb E J=>R b E (a b J).1⟩)
 .by_cases hj:j=k
  .subst hj;simp [A,upd]
  .have:=B.nodup j;simpa [A,upd,hj]using this
 .exact B.apart i j f x (F i x C).2 (F j x L).2
 .rw [ZR _ _ (F j x C).1];exact B.plain j x (F j x C).2
 .rw [Ad,cell_of_row w b j vs.toArray t (0,0) G];simpa using hj
theorem ZsF [NW] {ob:Nat->Ob}(O:HI W g ob w) {k e m:Nat}{xs:List (List CT)}(N:ob k=.row e m xs 0):∃L,RC w (.sl e m xs) (g.val k) L/\∀b∈L,¬g.own b:=by
 obtain ⟨M,cs,L1,J,I,H,G⟩:=O.deep N;obtain ⟨A,cap,L0,F,E,D,C,B⟩:=Sl.row J;refine ⟨L0++L1,⟨A,cap,cs,L0,L1,F,E,D,rfl,M,C,I⟩,λb K=>?_⟩;rcases A4.1 K with c|c
 .rcases G with ⟨q,_⟩|⟨q,_⟩|⟨_,_,_,q⟩
  .omega
  .omega
  .exact q b (B.subset c)
 .exact H b c
theorem REs.dropS {m:Nat}:∀{xs:List (List CT)}{cs:List Value}{L:List Nat}(l:Nat),REs w m xs cs L->∃L',REs w m (xs.drop l) (cs.drop (l*m)) L'/\L'.Sublist L
 |xs,cs,L,0,h=>⟨L,by simpa using h,AD _⟩
 | [],cs,L,l+1,h=>⟨[],by obtain ⟨rfl,rfl⟩:=h;simp [REs],AK _⟩
 |x::r,_,_,l+1,⟨c1,c2,L1,L2,rfl,rfl,h3,h4⟩=>by
  obtain ⟨L',A,c⟩:=REs.dropS l h4;refine ⟨L',?_,c.trans (B5 _ _)⟩;have e:(l+1)*m=c1.length+l*m:=by rw [h3.2,AH];omega
  have B:(c1++c2).drop (c1.length+l*m)=c2.drop (l*m):=by
   rw [Am,An (B7 _ _),Ap,Ac]
  rw [e,B];simpa using A
theorem Zzl [NW] (aa:∀t i,tt t=some i->TOk P t i) (R:HI W g st.ob w) (hU:StU U st) (c:¬U key) {t k e m d l:Nat}{xs:List (List CT)}(hk:st.ob k=.row e m xs d) (E:¬d=0) (a:Zlj (tt t)=m) {lo:Option SV}{vx:Value}{vlo:Option Value}(hl:loB xs.length lo=some l) (hx:SVR g w (.p false [.row k]) vx)
  (F:Znm g w lo vlo) {s:Sem Next} (hs:s=(do pure (.value (<-Instr.sliceAt t vx vlo none none)))):Fin P W U key st g w s (.p false [.row key],[(k,.gone),(key,.row e m (xs.drop l) d)]):=by
 obtain ⟨hm,cs,L,o1,o2,o3,o4,V⟩:=R.deepO hk E;have hv:=ZgB hx;subst hv;obtain ⟨A,cap,hv,G,ad⟩:=XK o1;obtain ⟨b1,b2,_⟩:=Zi9 (P:=P) (w:=w) (g:=g) (b:=true) (len:=xs.length) (cap:=cap) (h:=xs.length) (hi:=none) (vhi:=none) rfl hl F trivial G;obtain ⟨e',b',z',H⟩:∃e' b' z',tt t=some (.slice e' m b' z'):=by
  unfold Zlj at a;split at a
  .rename_i h1;subst a;exact ⟨_,_,_,h1⟩
  .omega
 obtain ⟨hu,_,_,⟨ie,zv,I,J,_⟩,_⟩:=aa t _ H;have T:g.O k=(Value.slice A xs.length cap).ownBlock.toList:=by rw [o4,hv]
 have f:=o1;rw [hv]at f;obtain ⟨t1,t2⟩:=Zuw (l:=l) f b2;generalize hw:(Value.slice (if cap=l then A else A.map (·.add (l*m))) (xs.length - l) (cap - l))=v' at t1 t2
 have u:s.run P w=.ok (.value v') w:=by
  subst hs;have:(Instr.sliceAt t (.slice A xs.length cap) vlo none none).run P w=.ok v' w:=by
   rw [<-hw];simp [Instr.sliceAt,Yz hu,Instr.slice,b1,Y7 I,J]
  rw [hv];simp only[Sem.run_bind,this,Result.andThen_ok,Sem.run_pure]
 obtain ⟨M,r1,r2⟩:=o2.dropS l;have K:U k:=Classical.byContradiction λhn=>by have:=hU.gone _ hn;rw [hk]at this;simp at this
 have x:∀b∈(if d=2 then M else []),b∈g.D k:=λb N=>by
  split at N
  .rename_i hd;rcases V with ⟨_,q⟩|⟨q,_⟩
   .rw [q];exact r2.subset N
   .omega
  .simp at N
 have z:(xs.drop l).length=xs.length - l:=by simp
 obtain ⟨i1,i2⟩:=R.turn (key:=key) (U:=U) (w':=w) (v:=v') (O:=v'.ownBlock.toList) (D:=if d=2 then M else []) (o:=.row e m (xs.drop l) d) hU.ob c [k]
  (λj S=>by simp at S;subst S;exact K) R.below (AB _) (λb hb hn=>rfl)
  (λb N=>.inl ⟨k,yG,by rw [T,<-t2];exact N⟩)
  (λb N=>.inl ⟨k,yG,A4.2 (.inr (x b N))⟩)
  (by
   have hn:=R.nodup k;refine hn.sublist (AE (by rw [T,<-t2];exact AD _) ?_);split
   .rename_i hd;rcases V with ⟨_,q⟩|⟨q,_⟩
    .rw [q];exact r2
    .omega
   .exact AK _)
  (λb N=>by
   have B:b∈g.O k++g.D k:=by
    rcases A4.1 N with N|N
    .exact A4.2 (.inl (by rw [T,<-t2];exact N))
    .exact A4.2 (.inr (x b N))
   obtain ⟨p1,p2⟩:=R.plain k b B;exact ⟨p1,p2.of (by rw [hk];rfl)⟩)
  (λac=>⟨hm,cs.drop (l*m),M,by simp only[Gh.turn,ZG];rw [z];exact t1,r1,by
   rcases V with ⟨q,_⟩|⟨q,_⟩
   .exact .inl ⟨q,by simp [Gh.turn,ZG],by simp [Gh.turn,q]⟩
   .refine .inr (.inl ⟨q,by simp [Gh.turn,ZG],by simp [Gh.turn,q],λb N ho=>?_⟩);rcases ZfN ho with mo|⟨j,_,_,S⟩|hz
    .exact o3 b (r2.subset N) (.inl ⟨k,by rw [T,<-t2];exact mo⟩)
    .exact o3 b (r2.subset N) (.inl ⟨j,S⟩)
    .exact o3 b (r2.subset N) (.inr hz)⟩)
 have C:=Zkm (key:=key) (o:=.row e m (xs.drop l) d) hU [k] trivial;refine ⟨_,v',w,.inl u,i1,⟨_,rfl,⟨by simp [Gh.turn,ZG],?_⟩⟩,i2,λy my=>by simp at my;subst my;exact ZkT,C.1,C.2⟩;rw [<-hw];simp [Value.oneCell']
theorem ZwO [NW] (G:∀t i,tt t=some i->TOk P t i) (T:HI W g st.ob w) (I:StU U st) (o:¬U key) {t:Nat}{x:SV}{r:SV×List (Nat×Ob)}{J hi:Option SV}{vx:Value}{vlo vhi:Option Value}(h:Zay st key (tt t) J hi x=some r) (O:SVR g w x vx)
  (a:Znm g w J vlo) (b:Znm g w hi vhi) {s:Sem Next} (hs:s=(do pure (.value (<-Instr.sliceAt t vx vlo vhi none)))):Fin P W U key st g w s r:=by
 unfold Zay at h;split at h
 .rename_i k;split at h
  rotate_left
  .simp at h
  split at h
  .rename_i e m xs d S;split at h
   .rename_i u;split at h
    .rename_i f;obtain ⟨l,R,rfl⟩:=A6.1 h;unfold mvS at f;split at f
     .have A:¬d=0:=λe=>by subst e;simp at f
      cases vhi with
      |some _=>exact b.elim
      |none=>exact Zzl G T I o S A u R O a hs
     .simp at f
    obtain ⟨q,hq,h⟩:=A9.1 h;obtain ⟨l,R,rfl⟩:=A6.1 h;obtain ⟨H,N,K,M,_⟩:=ZjS T k;rw [S]at N;obtain ⟨L,t1,t2⟩:=ZsF N (ZG st.ob k (.row e m xs 0));have B:vx=H.val k:=by rw [K];exact ZgB O
    have C:SVR H w (.p false [.c (.sl e m xs)]) vx:=⟨_,rfl,L,B ▸ t1,t2⟩
    have D:Znm H w J vlo:=by
     cases J<;>cases vlo<;>simp only[Znm]at a ⊢
     exact a.less K M
    have E:Znm H w hi vhi:=by
     cases hi<;>cases vhi<;>simp only[Znm]at b ⊢
     exact b.less K M
    obtain ⟨cv,c1,c2,V⟩:=Zui (t:=t) (U:=U) (g:=H) (P:=P) (x:=.p false [.c (.sl e m xs)]) (v:=.p false [.c (.sl e m ((xs.take q).drop l))]) G (by simp only[ZnY,u,if_true,hq,R,At,Ao]) C D E;have F:U k:=Classical.byContradiction λhn=>by have:=I.gone _ hn;rw [S]at this;simp at this
    refine ⟨H,cv,w,.inl (by rw [hs];simp only[Sem.run_bind,c1,Result.andThen_ok,Sem.run_pure]),N,c2,λy v _ hy=>hy.less K M,V.mono λ_=>.inl,λj=>?_,λj hj=>?_⟩
    .show obU _ (upd st.ob k (.row e m xs 0) j)
     by_cases z:j=k
     .subst z;rw [ZG];trivial
     .rw [ZR _ _ z];exact (I.ob j).mono λ_=>.inl
    .show upd st.ob k (.row e m xs 0) j=_
     rw [ZR _ _ (show j≠k from λe=>hj (.inl (e ▸ F)))];exact I.gone j λh=>hj (.inl h)
   .simp at h
  .simp at h
 .obtain ⟨v,hv,rfl⟩:=A6.1 h;obtain ⟨cv,c1,c2,V⟩:=Zui (U:=U) G hv O a b;exact Zbg T I (by rw [hs];simp only[Sem.run_bind,c1,Result.andThen_ok,Sem.run_pure]) c2 V
 .simp at h
end
end
section
open Go.RowKit Go.MapKept
theorem Zmy {c:PK}{d:TypeDesc}{k:Value}(A:Zes c d=true) (B:ZiE c k):IsKey d k:=by
 cases c<;>cases d<;>simp [Zes]at A<;>cases k<;>simp_all [ZiE,IsKey]
theorem Zwu {c:PK}{a b:Value}(B:ZiE c a) (A:ZiE c b):vEq a b=true↔a=b:=by
 cases c<;>cases a<;>simp [ZiE]at B<;>cases b<;>simp [ZiE]at A<;>simp_all [vEq,sEq]
theorem Zjc [NW] {B H:PK}{d:TypeDesc}{k:Value}(D:Zes B d=true) (A:ZiE B k):∀(l:List MapEntry) (i:Nat),Zj9 B H (l.map λe=>(e.key,e.val))->
  (Instr.findNow d k l i=some none/\Zmg (l.map λe=>(e.key,e.val)) k=none/\∀v,ZfU (l.map λe=>(e.key,e.val)) k v=(l.map λe=>(e.key,e.val))++[(k,v)])\/
  ∃j e,Instr.findNow d k l i=some (some (i+j,e.val))/\l[j]?=some e/\e.key=k/\Zmg (l.map λe=>(e.key,e.val)) k=some e.val/\ZiE H e.val/\∀v,ZfU (l.map λe=>(e.key,e.val)) k v=(l.modify j λe=>{ e with key:=k,val:=v }).map λe=>(e.key,e.val)
 | [],i,_=>.inl ⟨rfl,rfl,λ_=>rfl⟩
 |e::l,i,h=>by
  have he:=h (e.key,e.val) yG;obtain ⟨r,C,b⟩:=sameNow_of_keys (Zmy D A) (Zmy D he.1);cases r with
  |true=>
   have c:=b.1 rfl;have I:vEq k e.key=true:=(Zwu A he.1).2 c;exact .inr ⟨0,e,by simp [Instr.findNow,C],rfl,c.symm,by simp [Zmg,I],he.2,λv=>by simp [ZfU,I]⟩
  |false=>
   have a:¬vEq k e.key=true:=λq=>by have:=b.2 ((Zwu A he.1).1 q);cases this
   rcases Zjc D A l (i+1) (λp m=>h p (by simp only[Au,AA];exact .inr m)) with ⟨G,F,E⟩|⟨j,M,G,F,E,L,K,J⟩
   .exact .inl ⟨by simp [Instr.findNow,C,G],by simp [Zmg,a,F],λv=>by simp [ZfU,a,E]⟩
   .exact .inr ⟨j+1,M,by simp [Instr.findNow,C,G];omega,by simpa using F,E,by simp [Zmg,a,L],K,λv=>by simp [ZfU,a,J]⟩
section
variable {P:Program} {W:Qq} {U:Nat->Prop} {key:Nat} {st:St} {g:Gh} {w w':World} {a:Act} {tt:Nat->Option TI}
theorem ZDZ [NW] {c:PK}{v:Value}(h:ZiE c v):AVR g w (avV v) v:=by
 cases c<;>cases v<;>simp [ZiE]at h<;>first|exact ⟨[],⟨rfl,rfl⟩,yG⟩|exact ⟨[],⟨rfl,rfl,h⟩,yG⟩
theorem ZHX (v:Value):avU U (avV v):=by cases v<;>trivial
theorem ZqG [NW] {A:PK}{x:SV}{v k:Value}(h:ZwW A x=some k) (c:SVR g w x v):v=k/\ZiE A k:=by
 unfold ZwW at h;split at h
 .split at h<;>simp only[A0,reduceCtorEq]at h
  rename_i e;subst e h;exact ⟨Zb8 c,rfl⟩
 .simp only[A0]at h;subst h;exact ⟨(Zjd c).1,(Zjd c).2⟩
 .simp only[A0]at h;subst h;exact ⟨Zgj c,trivial⟩
 .simp at h
theorem Zm0 (A:∀t i,tt t=some i->TOk P t i) {t:Nat}{C B:PK}(h:Ze1 C B (tt t)=true):TOk P t (.map C B):=by
 unfold Ze1 at h;split at h
 .rename_i a b c;simp only[AY,decide_eq_true_eq]at h;rw [h.1,h.2]at c;exact A _ _ c
 .simp at h
theorem Zxr [NW] {c:PK}{A:Value}(h:Za4 (Zfj c) A=true):AVR g w (Zfj c) A/\avU U (Zfj c):=by
 refine ⟨Zf5 h,?_⟩;cases c<;>trivial
theorem Zta [NW] (G:∀t i,tt t=some i->TOk P t i) {t:Nat}{F C:PK}{E:List (Value×Value)}{i v:SV}{vi:Value}{ok:Bool}{b c:Nat}{A:Array MapEntry}(hm:Ze1 F C (tt t)=true) (h:ZsW F C E i ok=some v) (hi:SVR g w i vi) (hb:w.heap[b]?=some (.map A c)) (m:Zei A=E) (o:Zj9 F C E):
  ∃cv,(Instr.lookup t (.map (some b)) vi ok).run P w=.ok cv w/\SVR g w v cv/\svU U v:=by
 obtain ⟨N,et,dk,dv,aa,J,T,H,S,h4,h5,h6,h7,h8⟩:=Zm0 G hm;unfold ZsW at h;obtain ⟨k,hk,rfl⟩:=A6.1 h;obtain ⟨rfl,d⟩:=ZqG hk hi;subst m;have hz:=Zxr (g:=g) (w:=w) (U:=U) h8;have q:(zeroValue et).run P w=.ok J w:=ZkD h6 h7;have key:∃r:Option (Nat×Value),(Instr.findKey N vi A.toList).run P w=.ok r w/\(match r with|some p=>Zmg (Zei A) vi=some p.2/\ZiE C p.2|none=>Zmg (Zei A) vi=none):=by
  rcases Zjc S d A.toList 0 o with ⟨I,V,_⟩|⟨j,e,I,V,f3,f4,f5,_⟩
  .exact ⟨none,run_findKey H I,V⟩
  .exact ⟨some _,run_findKey H I,f4,f5⟩
 obtain ⟨r,O,a⟩:=key;have f:(Instr.checkKey A.isEmpty 10000 N vi).run P w=.ok () w:=run_checkKey (P:=P) (w:=w) H (Zmy S d) A.isEmpty 9999;have R:(getObj b).run P w=.ok (.map A c) w:=by simp [getObj,Sem.run,hb]
 have l:∃D rb,(Instr.lookup t (.map (some b)) vi ok).run P w=.ok (if ok then .tuple #[D,.bool rb] else D) w/\AVR g w (ZbV (Zei A) vi (Zfj C)) D/\avU U (ZbV (Zei A) vi (Zfj C))/\Zfr (Zei A) vi=rb:=by
  cases r with
  |none=>
   simp only at a;refine ⟨J,false,?_,by simp only[ZbV,a];exact hz.1,by simp only[ZbV,a];exact hz.2,by simp [Zfr,a]⟩;unfold Instr.lookup;simp only[Sem.run_bind,Yz T,Result.andThen_ok,R,Sem.run_pure,f,O,q]
  |some p=>
   simp only at a;refine ⟨p.2,true,?_,by simp only[ZbV,a.1];exact ZDZ a.2,by simp only[ZbV,a.1];exact ZHX _,by simp [Zfr,a.1]⟩;unfold Instr.lookup;simp only[Sem.run_bind,Yz T,Result.andThen_ok,R,Sem.run_pure,f,O]
 obtain ⟨D,rb,q1,L,K,W⟩:=l;refine ⟨_,q1,?_,?_⟩
 .cases ok with
  |true=>exact ⟨[D,.bool rb],rfl,⟨_,rfl,L⟩,⟨_,rfl,[],⟨by rw [W],rfl⟩,yG⟩,trivial⟩
  |false=>exact ⟨_,rfl,L⟩
 .cases ok with
  |true=>
   intro y M;simp only[AA,List.not_mem_nil,or_false]at M;rcases M with rfl|rfl
   .intro z B;simp at B;subst B;exact K
   .intro z B;simp at B;subst B;trivial
  |false=>intro z B;simp at B;subst B;exact K
theorem ZCp [NW] (A:∀t i,tt t=some i->TOk P t i) (N:HI W g st.ob w) {t:Nat}{x i v:SV}{G vi:Value}{ok:Bool}(h:ZhZ st (tt t) x i ok=some v) (B:SVR g w x G) (hi:SVR g w i vi):
  ∃cv,(Instr.lookup t G vi ok).run P w=.ok cv w/\SVR g w v cv/\svU U v:=by
 unfold ZhZ at h;split at h
 .rename_i k;split at h
  .rename_i K I J M;split at h
   .rename_i C;have hv:=ZgB B;have ho:=N.obs k;rw [M]at ho;obtain ⟨b,R,c,O,_,_,F,E,D⟩:=ho;rw [hv,O];exact Zta A C h hi F E D
   .simp at h
  .simp at h
 .rename_i K I J;split at h
  .rename_i C;obtain ⟨y,H,B⟩:=B;simp at H;subst H;obtain ⟨L,⟨b,R,c,rfl,F,E,D,_⟩,_⟩:=B;exact Zta A C h hi F E D
  .simp at h
 .simp at h
theorem ZFN [NW] (I:∀t i,tt t=some i->TOk P t i) (B:HI W g st.ob w) (H:StU U st) (c:¬U key) {t:Nat}{r:SV×List (Nat×Ob)}(h:Zqh key (tt t)=some r) {s:Sem Next}(hs:s=(do pure (.value (<-Instr.makeMap t none)))):Fin P W U key st g w s r:=by
 unfold Zqh at h;split at h
 .rename_i G C J;simp only[A0]at h;subst h;have d:s.run P w=.ok (.value (.map (some w.heap.size))) (w.alloc (.map #[] 0)):=by
   subst hs;have M:(Instr.makeMap t none).run P w=.ok (.map (some w.heap.size)) (w.alloc (.map #[] 0)):=rfl;simp only[Sem.run_bind,M,Result.andThen_ok,Sem.run_pure]
  have A:Below w.heap.size w (w.alloc (.map #[] 0)):=(Below.refl _ _).alloc (AB _) _;have a:=heap_alloc_new w (.map #[] 0);obtain ⟨L,K⟩:=B.turn (key:=key) (U:=U) (w':=w.alloc (.map #[] 0)) (v:=.map (some w.heap.size)) (O:=[w.heap.size]) (D:=[]) (o:=.map G C []) H.ob c [] yG
   (B.below.trans A) A.size (λb f _=>A.block b f) yG yG yG (λb F=>by
    simp at F;subst F;exact ⟨.inl B.below.size,_,_,a⟩)
   (λ_=>⟨w.heap.size,#[],0,by simp [Gh.turn,upd],by simp [Gh.turn,upd],by simp [Gh.turn,upd],a,rfl,λ_ m=>by simp at m⟩)
  have e:=Zkm (key:=key) (o:=.map G C []) H [] trivial;exact ⟨_,_,_,.inl d,L,⟨_,rfl,⟨by simp [Gh.turn,upd],by simp [Value.oneCell']⟩⟩,K,λy E=>by simp at E;subst E;exact ZkT,e.1,e.2⟩
 .simp at h
theorem ZBo [NW] (G:∀t i,tt t=some i->TOk P t i) {t:Nat}{D C:PK}{A:List (Value×Value)}{k v:Value}{b c:Nat}{B:Array MapEntry}(T:Ze1 D C (tt t)=true) (E:ZiE D k) (K:ZiE C v) (M:w.heap[b]?=some (.map B c)) (x:Zei B=A) (d:Zj9 D C A):
  ∃f c',(Instr.mapUpdate t (.map (some b)) k v).run P w=.ok () { w with heap:=w.heap.setIfInBounds b (.map f c') }/\Zei f=ZfU A k v/\Zj9 D C (ZfU A k v):=by
 obtain ⟨R,et,dk,dv,S,zv,N,I,H,h4,h5,h6,h7,h8⟩:=Zm0 G T;subst x;have g:(Instr.checkKey false 10000 R k).run P w=.ok () w:=run_checkKey (P:=P) (w:=w) I (Zmy H E) false 9999;have L:(getObj b).run P w=.ok (.map B c) w:=by simp [getObj,Sem.run,M]
 have l:∀o,(setObj b o).run P w=.ok () { w with heap:=w.heap.setIfInBounds b o }:=λo=>by simp [setObj,Sem.run,M]
 have a:∀{A:List (Value×Value)},Zj9 D C A->Zj9 D C (ZfU A k v):=λ{A}=>by
  induction A with
  |nil=>intro _ p m;simp [ZfU]at m;subst m;exact ⟨E,K⟩
  |cons q r ih=>
   intro h p m;simp only[ZfU]at m;split at m
   .rcases AA.1 m with rfl|m
    .exact ⟨E,K⟩
    .exact h p (by simp [m])
   .rcases AA.1 m with rfl|m
    .exact h p yG
    .exact ih (λq O=>h q (by simp [O])) p m
 rcases Zjc H E B.toList 0 d with ⟨F,_,J⟩|⟨j,e,F,J,W,_,_,V⟩
 .refine ⟨B.push { key:=k,val:=v,born:=c },c+1,?_,?_,a d⟩
  .have hf:=run_findKey (P:=P) (w:=w) I F;unfold Instr.mapUpdate;simp only[Sem.run_bind,Yz N,Result.andThen_ok,L,g,hf,l]
  .rw [show ZfU (Zei B) k v=_ from J v];simp [Zei]
 .rw [Ad]at F;have hf:=run_findKey (P:=P) (w:=w) I F;have U:B[j]?=some e:=by simpa using J
  have u:(Instr.keyThatStays k k).run P w=.ok k w:=run_keyThatStays (Zmy H E);refine ⟨B.modify j λe=>{ e with key:=k,val:=v },c,?_,?_,a d⟩
  .unfold Instr.mapUpdate;simp only[Sem.run_bind,Yz N,Result.andThen_ok,L,g,hf,l,U,Ao,Option.getD_some,W,u]
  .rw [show ZfU (Zei B) k v=_ from V v];simp [Zei]
theorem ZD1 [NW] (L:∀t i,tt t=some i->TOk P t i) (C:HI W g st.ob w) (J:StU U st) {t:Nat}{x i v:SV}{u:List (Nat×Ob)}{N vi O:Value}(h:Zxv st (tt t) x i v=some u) (F:SVR g w x N) (hi:SVR g w i vi) (hv:SVR g w v O) {s:Sem Next}(hs:s=(do Instr.mapUpdate t N vi O;pure .skip)):Fin P W U key st g w s (.und,u):=by
 unfold Zxv at h;split at h
 .rename_i k;split at h
  .rename_i kk vk kv S;split at h
   .rename_i hm;obtain ⟨a,ha,h⟩:=A9.1 h;obtain ⟨D,o,rfl⟩:=A6.1 h;obtain ⟨rfl,p⟩:=ZqG ha hi;obtain ⟨rfl,y⟩:=ZqG o hv;have z:=ZgB F;have ho:=C.obs k;rw [S]at ho;obtain ⟨b,es,c,V,I,T,M,h5,h6⟩:=ho;obtain ⟨d,G,r1,r2,r3⟩:=ZBo (w:=w) L hm p y M h5 h6;have f:s.run P w=.ok .skip { w with heap:=w.heap.setIfInBounds b (.map d G) }:=by
     rw [hs,z,V];simp only[Sem.run_bind,r1,Result.andThen_ok,Sem.run_pure]
    obtain ⟨R,K⟩:=heap_set (o':=.map d G) M;have aa:b<w.heap.size:=(BD.1 M).1;have j:({ w with heap:=w.heap.setIfInBounds b (.map d G) }:World).heap.size=w.heap.size:=by simp
    have l:W.heap.size<=b\/W.x b:=C.oy k b (by simp [I]);have A:U k:=Classical.byContradiction λH=>by have:=J.gone _ H;rw [S]at this;simp at this
    have B:∀D,D<w.heap.size->¬g.own D->({ w with heap:=w.heap.setIfInBounds b (.map d G) }:World).heap[D]?=w.heap[D]?:=λD _ H=>K D λe=>H (.inl ⟨k,by simp [I,e]⟩);refine ⟨g,undef,_,.inr ⟨f,rfl⟩,?_,rfl,λx u F hu=>hu.move F (λ_ _=>rfl) B (Ql.refl _ _) (Nat.le_of_eq j.symm),trivial,λq=>?_,λq E=>?_⟩
    .refine C.step (U:=U) (λq=>q=k) ?_ rfl (λD _ H=>K D λe=>H k rfl (by simp [I,e])) (λq E=>⟨ZR _ _ E,rfl,rfl,rfl⟩) J.ob (λ_ _=>rfl) (Ql.refl _ _) (λq E=>?_)
     .exact ⟨C.below.os,C.below.tape,C.below.output,AL C.below.size (Nat.le_of_eq j.symm),λq E F=>by
       show (w.heap.setIfInBounds b (.map d G))[q]?=_
       rw [K q (λe=>by subst e;rcases l with h|h;omega;exact F h)];exact C.below.block q E F⟩
     .subst E;refine ⟨?_,C.nodup q,λD m=>?_,C.apart q⟩
      .simp only[Zl,ZG];exact ⟨b,d,G,V,I,T,R,r2,r3⟩
      .simp [I,T]at m;subst m;refine ⟨l.imp_right .inl,?_⟩;simp only[Zl,ZG];exact ⟨_,_,R⟩
    .simp only[Zl,upd];split
     .trivial
     .exact (J.ob q).mono λ_=>.inl
    .simp only[Zl,upd];split
     .rename_i e;subst e;exact absurd (.inl A) E
     .exact J.gone q λh=>E (.inl h)
   .simp at h
  .simp at h
 .simp at h
theorem ZwA [NW]:∀{cs:List AV}{l:List CT}{vs:List Value},Zkv.zBox cs=some l->ZJ (AVR g w) cs vs->∃L,RCs w l vs L/\∀b∈L,¬g.own b
 | [],l,[],h,_=>by simp [Zkv.zBox]at h;subst h;exact ⟨[],⟨rfl,rfl⟩,yG⟩
 | [],_,_::_,_,h=>h.elim
 |_::_,_,[],_,h=>h.elim
 |x::r,l,v::vs,h,hr=>by
  cases x with
  |c x=>
   simp only[Zkv.zBox]at h;obtain ⟨b,B,rfl⟩:=A6.1 h;obtain ⟨L,F,E⟩:=ZwA B hr.2;obtain ⟨L0,D,C⟩:=hr.1;refine ⟨L0++L,⟨v,vs,L0,L,rfl,rfl,D,F⟩,λb A=>?_⟩;rcases A4.1 A with m|m
   .exact C b m
   .exact E b m
  |_=>simp [Zkv.zBox]at h
theorem Zxp {x:SV}{r:CT×List (Nat×Ob)}(h:Zkv st x=some r):(∀p∈r.2,p.2=Ob.gone/\∃t cs,st.ob p.1=.box t cs):=by
 unfold Zkv at h;split at h
 .split at h
  .rename_i k _ t cs A;obtain ⟨l,_,rfl⟩:=A6.1 h;intro p c;simp at c;subst c;exact ⟨rfl,t,cs,A⟩
  .simp at h
 .simp only[A0]at h;subst h;intro p c;simp at c
 .simp at h
theorem ZBB [NW] {ob:Nat->Ob}(G:HI W g ob w) {x:SV}{r:CT×List (Nat×Ob)}{v:Value}(h:Zkv st x=some r) (a:∀p∈r.2,ob p.1=st.ob p.1) (A:SVR g w x v):
  ∃B:Gh,HI W B (Zl ob r.2) w/\B.val=g.val/\XV B g/\∃L,RC w r.1 v L/\∀b∈L,¬B.own b:=by
 unfold Zkv at h;split at h
 .rename_i k;split at h
  .rename_i t cs T;obtain ⟨l,S,rfl⟩:=A6.1 h;have c:ob k=.box t cs:=(a (k,.gone) yG).trans T;obtain ⟨B,R,P,E,b,vs,O,N,M,K,J⟩:=Zy7 G c;obtain ⟨L,I,H⟩:=ZwA S J;obtain ⟨b',D,rfl⟩:=A;rw [O]at D;simp at D;subst D;refine ⟨B,R,P,E,b::L,⟨b,vs,L,rfl,M,rfl,K,I⟩,λx C=>?_⟩;rcases AA.1 C with rfl|C
   .exact N
   .exact λA=>H x C (E.own x A)
  .simp at h
 .simp only[A0]at h;subst h;obtain ⟨y,F,A⟩:=A;simp at F;subst F;obtain ⟨L,V,U⟩:=A;exact ⟨g,G,rfl,XV.refl _,L,V,U⟩
 .simp at h
theorem Zse [NW]:∀{xs:List SV}{ob:Nat->Ob}{g:Gh}{r:List CT×List (Nat×Ob)}{vs:List Value},HI W g ob w->Ze3 st xs=some r->(r.2.map (·.1)).Nodup->(∀p∈r.2,ob p.1=st.ob p.1)->ZJ (SVR g w) xs vs->
  ∃A:Gh,HI W A (Zl ob r.2) w/\A.val=g.val/\XV A g/\∃L,RCs w r.1 vs L/\∀b∈L,¬A.own b
 | [],ob,g,r,vs,hI,h,_,_,hr=>by
  simp [Ze3]at h;subst h;cases vs with
  |nil=>exact ⟨g,hI,rfl,XV.refl _,[],⟨rfl,rfl⟩,yG⟩
  |cons _ _=>exact hr.elim
 |x::xs,ob,g,r,[],hI,h,_,_,hr=>hr.elim
 |x::xs,ob,g,r,v::vs,hI,h,hn,hob,hr=>by
  simp only[Ze3]at h;obtain ⟨a,V,h⟩:=A9.1 h;obtain ⟨b,U,rfl⟩:=A6.1 h;simp only[B1,AF]at hn;obtain ⟨n1,H,G⟩:=hn;obtain ⟨A,T,F,E,L1,P,O⟩:=ZBB hI V (λp m=>hob p (by simp [m])) hr.1;have c:∀p∈b.2,Zl ob a.2 p.1=st.ob p.1:=λp C=>by
   have d:∀q∈a.2,q.1≠p.1:=λq K=>G q.1 (AJ.2 ⟨q,K,rfl⟩) p.1 (AJ.2 ⟨p,C,rfl⟩);have:∀(u:List (Nat×Ob)) (ob:Nat->Ob),(∀q∈u,q.1≠p.1)->Zl ob u p.1=ob p.1:=by
    intro u;induction u with
    |nil=>intro ob _;rfl
    |cons q u ih=>intro ob h;rw [Zl,ih _ λz I=>h z (by simp [I])];exact ZR _ _ λe=>h q yG e.symm
   rw [this _ _ d];exact hob p (by simp [C])
  have f:ZJ (SVR A w) xs vs:=hr.2.mono λx u _ B=>B.less F E;obtain ⟨g2,S,R,D,L2,N,M⟩:=Zse T U H c f;refine ⟨g2,?_,R.trans F,D.trans E,L1++L2,⟨v,vs,L1,L2,rfl,rfl,P,N⟩,λx J=>?_⟩
  .rw [Yj];exact S
  .rcases A4.1 J with m|m
   .exact λB=>O x m (D.own x B)
   .exact M x m
theorem Zna [NW]:∀{xs:List SV}{r:List CT×List (Nat×Ob)},Ze3 st xs=some r->∀p∈r.2,p.2=Ob.gone/\∃t cs,st.ob p.1=.box t cs
 | [],r,h=>by simp [Ze3]at h;subst h;intro p m;simp at m
 |x::xs,r,h=>by
  simp only[Ze3]at h;obtain ⟨a,A,h⟩:=A9.1 h;obtain ⟨b,c,rfl⟩:=A6.1 h;intro p m;rcases A4.1 m with m|m
  .exact Zxp A p m
  .exact Zna c p m
theorem ZEl [NW] (K:HI W g st.ob w) (B:StU U st) {f:FuncId}{xs:List SV}{vs:List Value}{r:List CT×List (Nat×Ob)}(h:Ze3 st xs=some r) (J:(r.2.map (·.1)).Nodup) (I:ZJ (SVR g w) xs vs) {s:Sem Next}(hs:s.run P w=.ok (.value (.func (.func f) #[] vs.toArray)) w):Fin P W U key st g w s (.p false [.c (.fn f r.1)],r.2):=by
 obtain ⟨M,G,F,E,L,D,C⟩:=Zse K h J (λ_ _=>rfl) I;have hg:=Zna h;have a:∀(u:List (Nat×Ob)) (ob:Nat->Ob) (k:Nat),(∀p∈u,p.2=Ob.gone)->Zl ob u k=ob k\/Zl ob u k=.gone:=by
  intro u;induction u with
  |nil=>intro ob k _;exact .inl rfl
  |cons q u ih=>
   intro ob k h;rw [Zl];rcases ih (upd ob q.1 q.2) k (λp m=>h p (by simp [m])) with e|e
   .rw [e];by_cases A:k=q.1
    .right;rw [A,ZG];exact h q yG
    .left;exact ZR _ _ A
   .exact .inr e
 refine ⟨M,_,w,.inl hs,G,⟨_,rfl,L,⟨vs,rfl,D⟩,C⟩,λx u _ H=>H.less F E,XW _,λk=>?_,λk A=>?_⟩
 .rcases a r.2 st.ob k (λp m=>(hg p m).1) with e|e
  .rw [e];exact (B.ob k).mono λ_=>.inl
  .rw [e];trivial
 .rcases a r.2 st.ob k (λp m=>(hg p m).1) with e|e
  .rw [e];exact B.gone k λh=>A (.inl h)
  .exact e
end
end
section
open Go.RowKit
section
variable {P:Program} {W:Qq} {U:Nat->Prop} {key:Nat} {st:St} {g:Gh} {w w':World} {a:Act} {tt:Nat->Option TI}
theorem ZfY:∀(ts:List TypeId) (xs:List Operand),(Zkz ts xs).map (·.2)=xs
 |_,[]=>by cases ‹List TypeId›<;>rfl
 | [],x::xs=>by simp [Zkz,ZfY [] xs]
 |t::ts,x::xs=>by simp [Zkz,ZfY ts xs]
theorem Zyc [NW] (c:∀t i,tt t=some i->TOk P t i) {t:Nat}{z:List AV}(h:Znt (tt t)=some z):∃zv vs,(zeroValue t).run P w=.ok zv w/\zv.cells=(vs:List Value).toArray/\ZJ (AVR g w) z vs/\XX U z:=by
 unfold Znt at h;split at h<;>simp only[A0,reduceCtorEq]at h<;>subst h<;>rename_i a
 .obtain ⟨d,zv,i,E,D,A,C,H,G⟩:=c t _ a;have F:AVR g w _ zv:=Zf5 G;exact ⟨zv,[zv],ZkD A C,by rw [Zpk F.one],⟨F,trivial⟩,λy m=>by
   simp at m;subst m;cases y<;>first|trivial|simp [Za4]at G⟩
 .obtain ⟨B,i,zvs,E,D,A,C,H,_⟩:=c t _ a;obtain ⟨J,I⟩:=Zi6 (g:=g) (w:=w) (U:=U) H;exact ⟨.agg zvs,zvs.toList,ZkD D C,by simp [Value.cells],J,I⟩
 .obtain ⟨_,K,_,_,j,E,D,A⟩:=c t _ a;exact ⟨_,[.slice none 0 0],ZkD E A,rfl,⟨rfl,trivial⟩,λy m=>by simp at m;subst m;trivial⟩
theorem ZpF [NW] (aa:∀t i,tt t=some i->TOk P t i) (o:Oper) {r:SV×List (Nat×Ob)}(T:opE tt key o st=some r) (hI:HI W g st.ob w) (hS:∀t,SVR g w (st.sl t) (a.tmps.getD t undef)) (hU:StU U st) (A:¬U key):
  Fin P W U key st g w (execOp a.eval o) r:=by
 have ev:=λt x=>ZlQ (P:=P) (a:=a) (g:=g) (w:=w) (U:=U) aa hS hU t x;have j:∀{v:Option SV} {s:Sem Value},ZbM v=some r->execOp a.eval o=(do pure (.value (<-s)))->(∀u,v=some u->∃cv,s.run P w=.ok cv w/\SVR g w u cv/\svU U u)->Fin P W U key st g w (execOp a.eval o) r:=λ{v s} hp he hv=>by
  obtain ⟨u,V,rfl⟩:=A6.1 hp;obtain ⟨cv,c1,c2,c3⟩:=hv u V;exact Zbg hI hU (by rw [he];simp only[Sem.run_bind,c1,Result.andThen_ok,Sem.run_pure]) c2 c3
 obtain ⟨ah,op,ty,ad,af,gd⟩:=o;cases op with
 |move x=>
  simp only[opE,A0]at T;subst T;exact Zbg hI hU rfl (ev ty x).1 (ev ty x).2
 |assign x=>
  simp only[opE,A0]at T;subst T;exact Zbg hI hU rfl (ev ty x).1 (ev ty x).2
 |pick c x y=>
  simp only[opE]at T;split at T
  .rename_i b hb;simp only[A0]at T;subst T;have hc:=(ev 0 c).1;rw [hb]at hc;obtain ⟨cv,c1,c2,c3⟩:=ZBS (P:=P) hc (ev ty x) (ev ty y);exact Zbg hI hU c1 c2 c3
  .simp at T
 |alloc t=>
  simp only[opE]at T;obtain ⟨z,hz,rfl⟩:=A6.1 T;obtain ⟨zv,vs,h1,h2,h3,h4⟩:=Zyc (P:=P) (g:=g) (w:=w) (U:=U) aa hz;exact ZzP hI hU A h3 h4 (by simp [execOp,Instr.alloc,h1,newVar,newRow,h2])
 |box t x=>
  simp only[opE]at T;split at T
  .rename_i ag cs hx;simp only[A0]at T;subst T;have hv:=ev t x;rw [hx]at hv;obtain ⟨vs,h2,h3⟩:=PVR.cells hv.1;exact ZzP hI hU A h3 hv.2 (by simp [execOp,Instr.box,newVar,newRow,h2])
  .simp at T
 |build t G=>
  simp only[opE]at T;split at T
  .rename_i fs n z B;obtain ⟨cs,N,rfl⟩:=A6.1 T;obtain ⟨cv,c1,c2,c3⟩:=ZyZ (P:=P) aa hS hU B N;exact Zbg hI hU (by simp only[execOp,Sem.run_bind,c1,Result.andThen_ok,Sem.run_pure]) c2 c3
  .simp at T
 |buildSlice t len G=>
  simp only[opE]at T;split at T
  .rename_i e m E z B;obtain ⟨⟨xs,ks,d⟩,h1,T⟩:=A9.1 T;split at T
   .rename_i hc;simp only[A0]at T;subst T;exact ZE1 aa hI hS hU A B h1 hc.1 hc.2.1 hc.2.2.1 rfl
   .simp at T
  .simp at T
 |load t x=>exact j T rfl λu V=>Zwg aa hI hU V (ev 0 x).1
 |store t x v=>
  simp only[opE]at T;obtain ⟨u,V,rfl⟩:=A6.1 T;have hx:=ev 0 x;have hv:=ev t v;unfold Zgv at V;split at V
  .rename_i k off ag vs C p;rw [C]at hx;rw [p]at hv;split at V
   .rename_i tb cs hk;split at V
    .rename_i hc;simp only[A0]at V;subst V;exact Zzo aa hI hU hk hc.1 hc.2.2 hx.1 hv.1 hv.2 hc.2.1 rfl
    .simp at V
   .simp at V
  .rename_i k m i off ag vs C p;rw [C]at hx;rw [p]at hv;split at V
   .rename_i e m' xs d hk;obtain ⟨y,hy,V⟩:=A9.1 V;cases hys:Zga vs with
    |some ys=>
     rw [hys]at V;simp only[ZnI]at V;split at V
     .rename_i hc;simp only[A0]at V;subst V;obtain ⟨rfl,H,I,J,O⟩:=hc;exact Zzf aa hI hU hk yE hy hys H J hx.1 hv.1 I rfl
     .simp at V
    |none=>
     rw [hys]at V;simp only[ZnI]at V;obtain ⟨⟨zs,ks,dv⟩,Q,V⟩:=A9.1 V;split at V
     .rename_i hc;simp only[A0]at V;subst V;obtain ⟨rfl,H,I,J,O,R⟩:=hc;exact Zyg aa hI hU hk yE hy Q R H J hv.2 hx.1 hv.1 I rfl
     .simp at V
   .simp at V
  .simp at V
 |nilCheck x=>
  simp only[opE]at T;have hx:=ev 0 x;split at T<;>simp only[A0,reduceCtorEq]at T<;>subst T<;>rename_i he<;>rw [he]at hx
  .obtain ⟨b,_,hv⟩:=hx.1;exact Zbg hI hU (cv:=a.eval x) (by simp [execOp,hv]) hx.1 hx.2
  .obtain ⟨b,_,_,_,hv⟩:=hx.1;exact Zbg hI hU (cv:=a.eval x) (by simp [execOp,hv]) hx.1 hx.2
  .obtain ⟨b,_,_,_,hv,_⟩:=hx.1;exact Zbg hI hU (cv:=a.eval x) (by simp [execOp,hv]) hx.1 hx.2
  .obtain ⟨b,_,_,hv,_⟩:=ZwJ hx.1;exact Zbg hI hU (cv:=a.eval x) (by simp [execOp,hv]) hx.1 hx.2
 |binOp op t x y t'=>exact j T rfl λu V=>ZCH aa V (ev t x).1 (ev t y).1
 |unOp op t x=>exact j T rfl λu V=>ZIA V (ev 0 x).1
 |convert s t x=>exact j T rfl λu V=>ZAo aa hI V (ev 0 x).1
 |makeSlice t n c=>
  simp only[opE]at T;have hn:=(ev 0 n).1;have hc:=(ev 0 c).1;unfold ZsX at T;split at T
  .rename_i n' c' C p;rw [C]at hn;rw [p]at hc;split at T
   .rename_i e m E z B;obtain ⟨ze,hz,T⟩:=A9.1 T;split at T
    .rename_i hq;simp only[A0]at T;subst T;obtain ⟨h0,rfl,h1⟩:=hq;have e1:=Zb8 hn;have e2:=Zb8 hc;obtain ⟨ae,rfl⟩:=Int.eq_ofNat_of_zero_le h0;simp only[Int.toNat_natCast];exact ZCG aa hI hU A B hz yE (by simp only[execOp,e1,e2])
    .simp at T
   .simp at T
  .simp at T
 |slice t x lo hi mx=>
  cases mx with
  |some _=>simp [opE]at T
  |none=>
   refine ZwO (vlo:=lo.map a.eval) (vhi:=hi.map a.eval) aa hI hU A T (ev 0 x).1 ?_ ?_ rfl
   .cases lo with
    |none=>trivial
    |some y=>exact (ev 0 y).1
   .cases hi with
    |none=>trivial
    |some y=>exact (ev 0 y).1
 |fieldAddr t x f=>
  simp only[opE]at T;split at T
  .rename_i fs n z B;refine j T rfl λu V=>?_;obtain ⟨fi,hf,V⟩:=A9.1 V;exact ZFe aa B hf V (ev 0 x).1 (ev 0 x).2
  .simp at T
 |field t x f=>
  simp only[opE]at T;split at T
  .rename_i fs n z B;exact j T rfl λu V=>ZFx aa B V (ev 0 x).1 (ev 0 x).2
  .simp at T
 |indexAddr t x i=>
  simp only[opE]at T;split at T
  .rename_i e m E z B;exact j T rfl λu V=>ZEB aa hI hU B V (ev 0 x).1 (ev 0 x).2 (ev 0 i).1
  .simp at T
 |index t x i=>exact j T rfl λu V=>ZBA aa V (ev 0 x).1 (ev 0 i).1
 |makeFunc fn first D=>
  cases fn with
  |func f=>
   simp only[opE]at T;split at T
   .rename_i h0;obtain ⟨q,hq,T⟩:=A9.1 T;split at T
    .rename_i hn;simp only[A0]at T;subst T;have hf:first=#[]:=by simpa using h0
     have L:ZJ (SVR g w) (D.toList.map (st.ev tt 0)) (D.toList.map a.eval):=ZJ.of_map _ _ λx _=>(ev 0 x).1;refine ZEl hI hU hq hn L ?_;have e1:(D.toList.map a.eval).toArray=D.map a.eval:=by apply Av;simp
     rw [e1];simp [execOp,Instr.makeFunc,hf]
    .simp at T
   .simp at T
  |_=>simp [opE]at T
 |makeMap t S=>
  cases S with
  |none=>
   simp only[opE]at T;exact ZFN aa hI hU A T rfl
  |some _=>simp [opE]at T
 |lookup t x i ok=>exact j T rfl λu V=>ZCp aa hI V (ev 0 x).1 (ev 0 i).1
 |mapUpdate t x i v=>
  simp only[opE]at T;obtain ⟨u,V,rfl⟩:=A6.1 T;exact ZD1 aa hI hU V (ev 0 x).1 (ev 0 i).1 (ev 0 v).1 rfl
 |extract x i=>exact j T rfl λu V=>ZE9 V (ev 0 x).1 (ev 0 x).2
 |call c=>
  obtain ⟨F,args,ts⟩:=c;cases F with
  |builtin b=>
   simp only[opE]at T;have M:∀l:List TypeId,ts.toList=l->ts=l.toArray:=λl h=>by rw [<-h]
   have ac:∀v,evs tt st ts.toList args.toList=[v]->∃x,args=#[x]/\SVR g w v (a.eval x)/\svU U v:=λv h=>by
    obtain ⟨args⟩:=args;generalize ts.toList=l at h
    cases args with
    |nil=>cases l<;>simp [evs,Zkz]at h
    |cons x xs=>
     cases xs with
     |nil=>
      refine ⟨x,rfl,?_⟩;cases l with
      |nil=>simp only[evs,Zkz,Au,BE,Ah,and_true]at h;rw [<-h];exact ev _ _
      |cons t l=>cases l<;>(simp only[evs,Zkz,Au,BE,Ah,and_true]at h;rw [<-h];exact ev _ _)
     |cons y ys=>cases l with
      |nil=>simp [evs,Zkz]at h
      |cons t l=>cases l<;>simp [evs,Zkz]at h
   have K:∀v u,evs tt st ts.toList args.toList=[v,u]->∃x y,args=#[x,y]/\(SVR g w v (a.eval x)/\svU U v)/\SVR g w u (a.eval y)/\svU U u:=λv u h=>by
    obtain ⟨args⟩:=args;have h2:=congrArg List.length h;have h3:(evs tt st ts.toList args).length=args.length:=by
     have:=congrArg List.length (ZfY ts.toList args);simpa [evs]using this
    have h4:args.length=2:=by rw [<-h3];exact h2
    obtain ⟨x,y,rfl⟩:∃x y,args=[x,y]:=by
     match args,h4 with
     | [x,y],_=>exact ⟨x,y,rfl⟩
    refine ⟨x,y,rfl,?_⟩;have h5:∃t1 t2,evs tt st ts.toList [x,y]=[st.ev tt t1 x,st.ev tt t2 y]:=by
     generalize ts.toList=l
     cases l with
     |nil=>exact ⟨0,0,rfl⟩
     |cons t1 l=>cases l with
      |nil=>exact ⟨t1,0,rfl⟩
      |cons t2 l=>exact ⟨t1,t2,by cases l<;>rfl⟩
    obtain ⟨t1,t2,h5⟩:=h5;rw [h5]at h;simp only[Ah,and_true]at h;rw [<-h.1,<-h.2];exact ⟨ev _ _,ev _ _⟩
   unfold ZgG at T;split at T
   .rename_i t _ v C p;have e1:=M _ C;obtain ⟨x,rfl,hx,_⟩:=ac _ p;exact j (s:=Builtin.len_ ts ty #[a.eval x]) T (by simp [execOp,resolve,invoke,builtin]) λu V=>ZEj aa hI (by simp [e1]) V hx
   .rename_i t u v1 v2 C p;have e1:=M _ C;obtain ⟨x,y,rfl,hx,hy⟩:=K _ _ p;split at T
    .rename_i he;subst he;exact ZCZ aa hI hU A T hx hy (ty:=ty) (by simp [execOp,resolve,invoke,builtin,e1])
    .simp at T
   .rename_i v1 v2 p;obtain ⟨x,y,rfl,hx,hy⟩:=K _ _ p;refine j (s:=Builtin.max_ ts ty #[a.eval x,a.eval y]) T (by simp [execOp,resolve,invoke,builtin]) λu V=>?_;have:=ZAE (P:=P) (U:=U) (ts:=ts) (ty:=ty) V hx.1 hy.1;simpa using this
   .rename_i v1 v2 p;obtain ⟨x,y,rfl,hx,hy⟩:=K _ _ p;refine j (s:=Builtin.min_ ts ty #[a.eval x,a.eval y]) T (by simp [execOp,resolve,invoke,builtin]) λu V=>?_;have:=ZAE (P:=P) (U:=U) (ts:=ts) (ty:=ty) V hx.1 hy.1;simpa using this
   .simp at T
  |value f=>simp [opE]at T
  |invoke r m=>simp [opE]at T
 |_=>simp [opE]at T
end
end
section
open Go.RowKit
theorem ZeD {α β:Type}{f h:α->List β}:∀{l:List α},(∀x∈l,f x=h x)->l.flatMap f=l.flatMap h
 | [],_=>rfl
 |x::l,hh=>by rw [AN,AN,hh x yG,ZeD λy m=>hh y (by simp [m])]
def Zhk (w:World) (z:Nat->Prop) (x:Bool×List CT) (v:Value):Prop:=
 (x.1=true/\∃(vs:List Value) (L:List Nat),v=.agg vs.toArray/\RCs w x.2 vs L/\∀b∈L,¬z b)\/(x.1=false/\∃(ct:CT) (L:List Nat),x.2=[ct]/\RC w ct v L/\∀b∈L,¬z b)
def OC (w:World) (B:Nat) (n:Nat->Prop):Bool×CT->Value->List Nat->Prop
 |(false,.sl e m xs),v,F=>0<m/\∃cs L,w.ownsV B e m v xs.length cs/\REs w m xs cs L/\F=v.ownBlock.toList++L/\∀b∈v.ownBlock.toList,n b
 |(false,.int k i),v,F=>RC w (.int k i) v []/\F=[]
 |(false,.bool b),v,F=>RC w (.bool b) v []/\F=[]
 |(false,.str s),v,F=>RC w (.str s) v []/\F=[]
 |(false,.ifc b),v,F=>RC w (.ifc b) v []/\F=[]
 |(false,.any),v,F=>RC w .any v []/\F=[]
 |(false,.pt _),_,_=>False
 |(false,.fn _ _),_,_=>False
 |(false,.mp _ _ _),_,_=>False
 |(false,.nl _ _),_,_=>False
 |(true,x),v,F=>F=[]/\∃L,RC w x v L/\∀b∈L,¬n b
def OCs (w:World) (B:Nat) (n:Nat->Prop):List (Bool×CT)->List Value->List Nat->Prop
 | [],vs,F=>vs=[]/\F=[]
 |x::r,vs,F=>∃v vs' F1 F2,vs=v::vs'/\F=F1++F2/\OC w B n x v F1/\OCs w B n r vs' F2
def OP (w:World) (B:Nat) (n:Nat->Prop) (x:RT) (v:Value) (F:List Nat):Prop:=
 (x.1=true/\∃vs:List Value,v=.agg vs.toArray/\OCs w B n x.2 vs F)\/(x.1=false/\∃ct,x.2=[ct]/\OC w B n ct v F)
def OPs (w:World) (B:Nat) (n:Nat->Prop):List RT->List Value->List Nat->Prop
 | [],vs,F=>vs=[]/\F=[]
 |x::r,vs,F=>∃v vs' F1 F2,vs=v::vs'/\F=F1++F2/\OP w B n x v F1/\OPs w B n r vs' F2
def Zhg (w:World) (B:Nat) (n:Nat->Prop) (res:List RT) (v:Value):Prop:=
 ∃(vs:List Value) (F:List Nat),OPs w B n res vs F/\Own w B F/\v=(if h:vs.toArray.size=1 then vs.toArray[0] else .tuple vs.toArray)
def ZaG (P : Program) (f : FuncId) : Prop := ∃ fn, P.funcs[f]? = some fn ∧ (fn.name == "runtime.NumGoroutine") = false ∧ fn.body.isNone = false
def Sound (P:Program) (J:World->Prop) (f:FuncId) (args:List (Bool×List CT)) (res:List RT):Prop:=
 ZaG P f/\∀(w:World) (z:Nat->Prop) (vs:List Value),J w->(∀b,z b->b<w.heap.size)->ZJ (Zhk w z) args vs->Calls P f vs.toArray w λe w'=>∃v n,e=.returned v/\Zhg w' w.heap.size n res v/\(∀b,z b->n b)/\Below w.heap.size w w'
def ZpU (w:World) (z:Nat->Prop) (q:Option Nat):Zhs->Value->Prop
 |.row e m xs,v=>Zby xs=true/\0<m/\v.ownBlock=q/\∃cs,w.ownsV 0 e m v xs.length cs/\REs w m xs cs []
 |.box t cs,v=>∃b vs L,q=some b/\v=.pointer (some ⟨b,0,none⟩)/\w.heap[b]?=some (.cells (vs:List Value).toArray t (0,0))/\RCs w cs vs L/\∀a∈L,¬z a
def inQ (z:Nat->Prop) (q:Option Nat) (a:Nat):Prop:=z a\/q=some a
structure ZFC (q:Option Nat) (w w':World):Prop where
 os:w'.os=w.os
 tape:w'.tape=w.tape
 output:w'.output=w.output
 size:w.heap.size<=w'.heap.size
 block:∀k,k<w.heap.size->¬q=some k->w'.heap[k]?=w.heap[k]?
def SoundH (P:Program) (J:World->Prop) (JF:Nat->Prop) (f:FuncId) (h:Zhs) (args:List (Bool×List CT)) (res:List RT) (h':Zhs):Prop:=
 ZaG P f/\∀(w:World) (z:Nat->Prop) (q:Option Nat) (a:Value) (vs:List Value),J w->(∀b,q=some b->JF b)->(∀b,z b->b<w.heap.size/\¬q=some b)->ZpU w (inQ z q) q h a->ZJ (Zhk w (inQ z q)) args vs-> Calls P f (a::vs).toArray w λe w'=>∃v n,e=.returned v/\Zhg w' w.heap.size n res v/\(∀b,inQ z q b->n b)/\ZpU w' n q h' a/\ZFC q w w'
def Zpn (b:Nat):NB->Value
 |.box _ _=>.pointer (some ⟨b,0,none⟩)
 |.map _ _ _=>.map (some b)
def nbR (w:World) (n:Nat->Prop) (b:Nat):NB->Prop
 |.box t cs=>∃us L,w.heap[b]?=some (.cells (us:List Value).toArray t (0,0))/\RCs w cs us L/\∀x∈L,¬n x
 |.map kk vk kv=>∃es c,w.heap[b]?=some (.map es c)/\Zei es=kv/\Zj9 kk vk kv
def ZmA (P:Program) (J:World->Prop) (f:FuncId) (args:List (Bool×List CT)) (nb:NB):Prop:=
 ZaG P f/\∀(w:World) (z:Nat->Prop) (vs:List Value),J w->(∀b,z b->b<w.heap.size)->ZJ (Zhk w z) args vs-> Calls P f vs.toArray w λe w'=>∃(b:Nat) (n:Nat->Prop),e=.returned (Zpn b nb)/\w.heap.size<=b/\nbR w' n b nb/\n b/\(∀x,z x->n x)/\Below w.heap.size w w'
structure ZpJ (w:World) (n:Nat->Prop) (t:Nat) (cs:List (Bool×CT)) (v:Value) (b:Nat) (us us2:List Value) (F:List Nat):Prop where
 val:v=.pointer (some ⟨b,0,none⟩)
 cell:w.heap[b]?=some (.cells us.toArray t (0,0))
 ocs:OCs w 0 n cs (us++us2) F
 own:Own w 0 (b::F)
def GVr:Option (Bool×List (Bool×CT))->List Value->List Value->Prop
 |none,vs,us=>vs=[]/\us=[]
 |some (true,cs),vs,us=>vs=[.agg us.toArray]/\us.length=cs.length
 |some (false,cs),vs,us=>vs=us/\us.length=1/\cs.length=1
structure ZuJ (q:Nat->Prop) (w w':World):Prop where
 os:w'.os=w.os
 tape:w'.tape=w.tape
 output:w'.output=w.output
 size:w.heap.size<=w'.heap.size
 block:∀k,k<w.heap.size->¬q k->w'.heap[k]?=w.heap[k]?
def Zgo (P:Program) (J:World->Prop) (JF:Nat->Prop) (f:FuncId) (t:Nat) (cs:List (Bool×CT)) (gv:Option (Bool×List (Bool×CT))) (args:List (Bool×List CT)) (res:List RT) (cs':List (Bool×CT)):Prop:=
 ZaG P f/\∀(w:World) (z q:Nat->Prop) (a:Value) (gs vs:List Value) (b:Nat) (us c:List Value) (F:List Nat),J w->q b->(∀x,q x->JF x/\x∈b::F)->(∀x,z x->x<w.heap.size/\¬q x/\x∉b::F)-> us.length=cs.length->GVr gv gs c->ZpJ w (λx=>z x\/q x) t (cs++gvC gv) a b us c F->ZJ (Zhk w λx=>z x\/q x) args vs-> Calls P f (a::(gs++vs)).toArray w λe w'=>∃v n us' F',e=.returned v/\Zhg w' w.heap.size n res v/\(∀x,z x->n x)/\n b/\(∀x,n x->z x\/q x\/w.heap.size<=x)/\ZpJ w' n t cs' a b us' [] F'/\(∀x∈F',x∈F\/w.heap.size<=x)/\ZuJ q w w'
def ZFm (P:Program) (J:World->Prop) (JF:Nat->Prop) (f:FuncId) (gv:Bool×List (Bool×CT)) (args:List (Bool×List CT)) (res:List RT):Prop:=
 ZaG P f/\∀(w:World) (z q:Nat->Prop) (gs vs us:List Value) (F:List Nat),J w->(∀x,q x->JF x/\x∈F)->(∀x,z x->x<w.heap.size/\¬q x/\x∉F)-> GVr (some gv) gs us->OCs w 0 (λx=>z x\/q x) gv.2 us F->Own w 0 F->ZJ (Zhk w λx=>z x\/q x) args vs-> Calls P f (gs++vs).toArray w λe w'=>∃v n rvs F',e=.returned v/\OPs w' 0 n res rvs F'/\Own w' 0 F'/\v=(if h:rvs.toArray.size=1 then rvs.toArray[0] else .tuple rvs.toArray)/\(∀x,z x->n x)/\(∀x,n x->z x\/q x\/w.heap.size<=x)/\(∀x∈F',x∈F\/w.heap.size<=x)/\ZuJ q w w'
def SC (P:Program) (J:World->Prop) (JF:Nat->Prop) (hd:FuncId->Nat):Ctx:=⟨Sound P J,SoundH P J JF,hd,ZmA P J,Zgo P J JF,ZFm P J JF⟩
structure MOk (P:Program) (J:World->Prop) (JF:Nat->Prop) (W:Qq) (tt:Nat->Option TI):Prop where
 tt:∀t i,tt t=some i->TOk P t i
 jb:∀w:World,Bel W w->J w
 jf:∀b,W.heap.size<=b->JF b
 xf:∀b,W.x b->JF b
section
variable {P:Program} {J:World->Prop} {W:Qq} {U:Nat->Prop} {key:Nat} {st:St} {g:Gh} {w w':World} {a:Act} {tt:Nat->Option TI}
theorem MOk.at {JF:Nat->Prop}(h:MOk P J JF W tt) (c:Bel W w):J w:=h.jb _ c
def ZzL (ob:Nat->Ob):AV->Prop
 |.row k=>∃e m xs,ob k=.row e m xs 0
 |_=>True
theorem Zsh [NW] (hI:HI W g st.ob w) {x:AV}{I:CT}{v:Value}(h:Zck st x=some I) (B:AVR g w x v):∃L,RC w I v L/\(ZzL st.ob x->∀b∈L,¬g.own b):=by
 cases x with
 |c y=>simp only[Zck,A0]at h;subst h;obtain ⟨L,F,E⟩:=B;exact ⟨L,F,λ_=>E⟩
 |row k=>
  simp only[Zck]at h;split at h
  .rename_i e m xs d H;simp only[A0]at h;subst h;obtain ⟨D,cs,L1,U,T,S,R⟩:=hI.deep H;obtain ⟨A,cap,L0,P,O,N,M,K⟩:=Sl.row U;refine ⟨L0++L1,⟨A,cap,cs,L0,L1,by rw [B.1,P],O,N,rfl,D,M,T⟩,?_⟩;rintro ⟨e',m',J,G⟩ b V;rw [H]at G;have hd:d=0:=by simp at G;exact G.2.2.2
   rcases A4.1 V with C|C
   .rcases R with ⟨q,_⟩|⟨q,_⟩|⟨_,_,_,q⟩
    .omega
    .omega
    .exact q b (K.subset C)
   .exact S b C
  .simp at h
 |nil e m=>
  simp only[Zck]at h;split at h
  .rename_i D;simp only[A0]at h;subst h;exact ⟨[],⟨none,0,[],[],[],B,yG,AG _,rfl,D,Sl.zero,rfl,rfl⟩,yG⟩
  .simp at h
 |n y=>simp only[Zck,A0]at h;subst h;obtain ⟨L,F,E⟩:=NR.toC B;exact ⟨L,F,λ_=>E⟩
 |dead=>simp [Zck]at h
theorem ZfB [NW] (A:HI W g st.ob w):∀{xs:List AV}{cts:List CT}{vs:List Value},YQ st xs=some cts->ZJ (AVR g w) xs vs->∃L,RCs w cts vs L/\((∀x∈xs,ZzL st.ob x)->∀b∈L,¬g.own b)
 | [],_,[],h,_=>by simp [YQ]at h;subst h;exact ⟨[],⟨rfl,rfl⟩,yG⟩
 | [],_,_::_,_,h=>h.elim
 |_::_,_,[],_,h=>h.elim
 |x::r,cts,v::vs,h,hr=>by
  simp only[YQ]at h;obtain ⟨J,E,h⟩:=A9.1 h;obtain ⟨c2,D,rfl⟩:=A6.1 h;obtain ⟨L1,I,G⟩:=Zsh A E hr.1;obtain ⟨L2,H,F⟩:=ZfB A D hr.2;refine ⟨L1++L2,⟨v,vs,L1,L2,rfl,rfl,I,H⟩,λc b C=>?_⟩;rcases A4.1 C with m|m
  .exact G (c x yG) b m
  .exact F (λy B=>c y (by simp [B])) b m
def Zyo (ob:Nat->Ob):SV->Prop
 |.p _ cs=>∀x∈cs,ZzL ob x
 |_=>True
theorem ZyD [NW] (F:HI W g st.ob w) {x:SV}{r:Bool×List CT}{v:Value}(h:ZdE st x=some r) (E:SVR g w x v) {z:Nat->Prop}(B:(∀b,¬z b)\/(Zyo st.ob x/\∀b,z b->g.own b)):Zhk w z r v:=by
 cases x with
 |p ag cs=>
  simp only[ZdE]at h;obtain ⟨l,c,rfl⟩:=A6.1 h;have G:∀{L:List Nat},((∀x∈cs,ZzL st.ob x)->∀b∈L,¬g.own b)->∀b∈L,¬z b:=λC b H=>by
   rcases B with B|⟨D,A⟩
   .exact B b
   .exact λJ=>C D b H (A b J)
  cases ag with
  |true=>
   obtain ⟨vs,rfl,A⟩:=E;obtain ⟨L,C,a⟩:=ZfB F c A;exact .inl ⟨rfl,vs,L,rfl,C,G a⟩
  |false=>
   obtain ⟨y,rfl,A⟩:=E;simp only[YQ]at c;obtain ⟨K,D,c⟩:=A9.1 c;simp at c;subst c;obtain ⟨L1,N,M⟩:=Zsh F D A;exact .inr ⟨rfl,K,L1,rfl,N,G λI=>M (I y yG)⟩
 |_=>simp [ZdE]at h
theorem ZbN [NW] (c:HI W g st.ob w) {z:Nat->Prop}:∀{xs:List SV}{l:List (Bool×List CT)}{vs:List Value},ZT st xs=some l->ZJ (SVR g w) xs vs->((∀b,¬z b)\/((∀x∈xs,Zyo st.ob x)/\∀b,z b->g.own b))->ZJ (Zhk w z) l vs
 | [],_,[],h,_,_=>by simp [ZT]at h;subst h;trivial
 | [],_,_::_,_,h,_=>h.elim
 |_::_,_,[],_,h,_=>h.elim
 |x::r,l,v::vs,h,hr,hz=>by
  simp only[ZT]at h;obtain ⟨D,C,h⟩:=A9.1 h;obtain ⟨c2,B,rfl⟩:=A6.1 h;exact ⟨ZyD c C hr.1 (hz.imp id λq=>⟨q.1 x yG,q.2⟩),ZbN c B hr.2 (hz.imp id λq=>⟨λy A=>q.1 y (by simp [A]),q.2⟩)⟩
theorem ZBi {vs:List SV}{ob:Nat->Ob}(h:vs.all Zia=true):∀x∈vs,Zyo ob x:=λx A=>by
 have hx:=AT.1 h x A;cases x with
 |p ag cs=>
  intro y c;have hy:=AT.1 hx y c;cases y with
  |row k=>simp [Zbp]at hy
  |_=>trivial
 |_=>trivial
def CR (val:Nat->Value) (w:World) (n:Nat->Prop) (l:Bool) (lo hi:Nat):AV->Value->Prop
 |.row k,v=>lo<=k/\k<hi/\v=val k/\v.oneCell'=true
 |.c x,v=>∃L,RC w x v L/\∀b∈L,l=true/\¬n b
 |_,_=>False
structure Zth (w:World) (B lo hi:Nat) (n:Nat->Prop) (up:List (Nat×Ob)) (F:List Nat) (val:Nat->Value) (O D:Nat->List Nat):Prop where
 le:lo<=hi
 at_:∀k,lo<=k->k<hi->∃e m xs cs,(∀ob,Zl ob up k=.row e m xs 2)/\0<m/\w.ownsV B e m (val k) xs.length cs/\REs w m xs cs (D k)/\O k=(val k).ownBlock.toList/\∀b∈O k,n b
 out:∀k,¬(lo<=k/\k<hi)->∀ob,Zl ob up k=ob k
 foot:F=(AO lo (hi - lo)).flatMap λk=>O k++D k
theorem Zth.join [NW] {B C c hi:Nat}{n:Nat->Prop}{K J:List (Nat×Ob)}{F1 F2:List Nat}{I H:Nat->Value}{O1 O2 D1 D2:Nat->List Nat}(E:Zth w B C c n K F1 I O1 D1) (D:Zth w B c hi n J F2 H O2 D2):
  Zth w B C hi n (K++J) (F1++F2) (λk=>if k<c then I k else H k) (λk=>if k<c then O1 k else O2 k) (λk=>if k<c then D1 k else D2 k):=by
 have hl:=E.le;have hr:=D.le;refine ⟨yE,λk a b=>?_,λk A ob=>?_,?_⟩
 .by_cases A:k<c
  .obtain ⟨e,m,xs,cs,G,F⟩:=E.at_ k a A;simp only[A,if_true];exact ⟨e,m,xs,cs,λob=>by rw [Yj,D.out k yE];exact G ob,F⟩
  .obtain ⟨e,m,xs,cs,G,F⟩:=D.at_ k yE b;simp only[A,if_false];exact ⟨e,m,xs,cs,λob=>by rw [Yj];exact G _,F⟩
 .rw [Yj,D.out k yE,E.out k yE]
 .rw [E.foot,D.foot,show hi - C=(c - C)+(hi - c) by omega,<-List.range'_append_1,Ai,show C+(c - C)=c by omega];congr 1
  .refine ZeD λk A=>?_;have:=(AU.1 A).2;simp [show k<c by omega]
  .refine ZeD λk A=>?_;have:=(AU.1 A).1;simp [show ¬k<c by omega]
theorem CR.mono {f e:Nat->Value}{n:Nat->Prop}{l:Bool}{A hi g i:Nat}{x:AV}{v:Value}(h:CR f w n l A hi x v) (C:g<=A) (D:hi<=i) (B:∀k,A<=k->k<hi->e k=f k):CR e w n l g i x v:=by
 cases x with
 |row k=>obtain ⟨a,b,c,d⟩:=h;exact ⟨yE,yE,by rw [B k a b];exact c,d⟩
 |c x=>exact h
 |n _=>exact h.elim
 |nil _ _=>exact h.elim
 |dead=>exact h.elim
theorem Qx [NW] {B:Nat}{n:Nat->Prop}{l:Bool}:∀{cts:List (Bool×CT)}{vs:List Value}{F:List Nat}(key:Nat),OCs w B n cts vs F->(ZcD cts=true->l=true)->∃c O D,Zth w B key (ZI key cts).2.2 n (ZI key cts).2.1 F c O D/\ZJ (CR c w n l key (ZI key cts).2.2) (ZI key cts).1 vs
 | [],vs,F,key,h,_=>by
  obtain ⟨rfl,rfl⟩:=h;exact ⟨λ_=>undef,λ_=>[],λ_=>[],⟨AB _,λk a b=>by simp [ZI]at b;omega,λ_ _ _=>rfl,by simp [ZI]⟩,trivial⟩
 |(true,x)::r,_,_,key,⟨v,vs,F1,F2,rfl,rfl,C,h2⟩,hl=>by
  obtain ⟨rfl,L,S,R⟩:=C;obtain ⟨c,O,D,E,G⟩:=Qx (l:=l) key h2 λe=>hl (by simp [ZcD]);exact ⟨c,O,D,by simpa [ZI]using E,⟨⟨L,S,λb K=>⟨hl (by simp [ZcD]),R b K⟩⟩,G⟩⟩
 |(false,.sl e m xs)::r,_,_,key,⟨v,vs,F1,F2,rfl,rfl,C,h2⟩,hl=>by
  obtain ⟨P,cs,L,H,J,rfl,I⟩:=C;obtain ⟨c,O,D,E,G⟩:=Qx (l:=l) (key+1) h2 λe=>hl (by simpa [ZcD]using e);have d:Zth w B key (key+1) n [(key,.row e m xs 2)] (v.ownBlock.toList++L) (λ_=>v) (λ_=>v.ownBlock.toList) (λ_=>L):=
   ⟨yE,λk a b=>⟨e,m,xs,cs,λob=>by simp [Zl,upd,show k=key by omega],P,H,J,rfl,I⟩,λk T ob=>by simp [Zl,upd,show ¬k=key by omega],yG⟩
  refine ⟨_,_,_,d.join E,⟨?_,G.mono λx u _ M=>M.mono yE (AB _) λk a b=>by simp [show ¬k<key+1 by omega]⟩⟩;have hle:=E.le;obtain ⟨A,cap,N⟩:=Zbi H;exact ⟨AB _,by simp only[ZI];omega,yG,by simp [N,Value.oneCell']⟩
 |(false,.int k i)::r,_,_,key,⟨v,vs,F1,F2,rfl,rfl,C,h2⟩,hl=>by
  obtain ⟨C,rfl⟩:=C;obtain ⟨c,O,D,E,G⟩:=Qx (l:=l) key h2 λe=>hl (by simpa [ZcD]using e);exact ⟨c,O,D,by simpa [ZI]using E,⟨⟨[],C,yG⟩,G⟩⟩
 |(false,.bool k)::r,_,_,key,⟨v,vs,F1,F2,rfl,rfl,C,h2⟩,hl=>by
  obtain ⟨C,rfl⟩:=C;obtain ⟨c,O,D,E,G⟩:=Qx (l:=l) key h2 λe=>hl (by simpa [ZcD]using e);exact ⟨c,O,D,by simpa [ZI]using E,⟨⟨[],C,yG⟩,G⟩⟩
 |(false,.str s)::r,_,_,key,⟨v,vs,F1,F2,rfl,rfl,C,h2⟩,hl=>by
  obtain ⟨C,rfl⟩:=C;obtain ⟨c,O,D,E,G⟩:=Qx (l:=l) key h2 λe=>hl (by simpa [ZcD]using e);exact ⟨c,O,D,by simpa [ZI]using E,⟨⟨[],C,yG⟩,G⟩⟩
 |(false,.ifc s)::r,_,_,key,⟨v,vs,F1,F2,rfl,rfl,C,h2⟩,hl=>by
  obtain ⟨C,rfl⟩:=C;obtain ⟨c,O,D,E,G⟩:=Qx (l:=l) key h2 λe=>hl (by simpa [ZcD]using e);exact ⟨c,O,D,by simpa [ZI]using E,⟨⟨[],C,yG⟩,G⟩⟩
 |(false,.any)::r,_,_,key,⟨v,vs,F1,F2,rfl,rfl,C,h2⟩,hl=>by
  obtain ⟨C,rfl⟩:=C;obtain ⟨c,O,D,E,G⟩:=Qx (l:=l) key h2 λe=>hl (by simpa [ZcD]using e);exact ⟨c,O,D,by simpa [ZI]using E,⟨⟨[],C,yG⟩,G⟩⟩
 |(false,.pt _)::r,_,_,key,⟨v,vs,F1,F2,rfl,rfl,C,h2⟩,hl=>C.elim
 |(false,.fn _ _)::r,_,_,key,⟨v,vs,F1,F2,rfl,rfl,C,h2⟩,hl=>C.elim
 |(false,.mp _ _ _)::r,_,_,key,⟨v,vs,F1,F2,rfl,rfl,C,h2⟩,hl=>C.elim
 |(false,.nl _ _)::r,_,_,key,⟨v,vs,F1,F2,rfl,rfl,C,h2⟩,hl=>C.elim
def PR (val:Nat->Value) (w:World) (n:Nat->Prop) (l:Bool) (lo hi:Nat) (x:Bool×List AV) (v:Value):Prop:=
 (x.1=true/\∃vs:List Value,v=.agg vs.toArray/\ZJ (CR val w n l lo hi) x.2 vs)\/(x.1=false/\∃y,x.2=[y]/\CR val w n l lo hi y v)
theorem PR.mono [NW] {d c:Nat->Value}{n:Nat->Prop}{l:Bool}{A hi e f:Nat}{x:Bool×List AV}{v:Value}(h:PR d w n l A hi x v) (F:e<=A) (G:hi<=f) (E:∀k,A<=k->k<hi->c k=d k):PR c w n l e f x v:=by
 rcases h with ⟨D,vs,C,B⟩|⟨D,y,C,B⟩
 .exact .inl ⟨D,vs,C,B.mono λa b _ g=>g.mono F G E⟩
 .exact .inr ⟨D,y,C,B.mono F G E⟩
theorem Zig [NW] {B:Nat}{n:Nat->Prop}{l:Bool}:∀{d:List RT}{vs:List Value}{F:List Nat}(key:Nat),OPs w B n d vs F->(ZdD d=true->l=true)->∃c O D,Zth w B key (ZD key d).2.2 n (ZD key d).2.1 F c O D/\ZJ (PR c w n l key (ZD key d).2.2) (ZD key d).1 vs
 | [],vs,F,key,h,_=>by
  obtain ⟨rfl,rfl⟩:=h;exact ⟨λ_=>undef,λ_=>[],λ_=>[],⟨AB _,λk a b=>by simp [ZD]at b;omega,λ_ _ _=>rfl,by simp [ZD]⟩,trivial⟩
 |x::r,_,_,key,⟨v,vs,F1,F2,rfl,rfl,h1,h2⟩,hl=>by
  have f:ZcD x.2=true->l=true:=λe=>hl (by simp [ZdD,e]);have j:ZdD r=true->l=true:=λe=>hl (by simp [ZdD,e]);have E:∃c O D,Zth w B key (ZI key x.2).2.2 n (ZI key x.2).2.1 F1 c O D/\PR c w n l key (ZI key x.2).2.2 (x.1,(ZI key x.2).1) v:=by
   rcases h1 with ⟨E,I,rfl,G⟩|⟨E,M,L,G⟩
   .obtain ⟨c,O,D,C,A⟩:=Qx key G f;exact ⟨c,O,D,C,.inl ⟨E,I,rfl,A⟩⟩
   .obtain ⟨c,O,D,C,A⟩:=Qx (cts:=x.2) (vs:=[v]) (F:=F1) key (by rw [L];exact ⟨v,[],F1,[],rfl,yG,G,rfl,rfl⟩) f;refine ⟨c,O,D,C,.inr ⟨E,?_⟩⟩;generalize (ZI key x.2).1=l at A
    cases l with
    |nil=>exact A.elim
    |cons y l=>
     cases l with
     |nil=>exact ⟨y,rfl,A.1⟩
     |cons _ _=>exact A.2.elim
  obtain ⟨c,O,D,C,K⟩:=E;obtain ⟨H,O2,D2,g,m⟩:=Zig (ZI key x.2).2.2 h2 j;have i:=g.le;have o:=C.le;refine ⟨_,_,_,C.join g,⟨K.mono (AB _) i λk a b=>by simp [b],m.mono λy u _ J=>J.mono o (AB _) λk a b=>by simp [show ¬k<(ZI key x.2).2.2 by omega]⟩⟩
theorem Zgg {n:Nat}{G:Nat->List Nat}:∀{A:Nat},((AO A n).flatMap G).Nodup->(∀k,A<=k->k<A+n->(G k).Nodup)/\∀k j,A<=k->k<A+n->A<=j->j<A+n->k≠j->∀b∈G k,b∉G j:=by
 induction n with
 |zero=>intro A _;exact ⟨λk a b=>by omega,λk j a b=>by omega⟩
 |succ n ih=>
  intro A h;rw [Ak,AN,AF]at h;obtain ⟨I,H,D⟩:=h;obtain ⟨F,E⟩:=ih H;have c:∀k,A+1<=k->k<A+1+n->∀b∈G k,b∈(AO (A+1) n).flatMap G:=λk a b x B=>AC.2 ⟨k,AU.2 ⟨a,b⟩,B⟩;refine ⟨λk a b=>?_,λk j a b L K d x B C=>?_⟩
  .by_cases e:k=A
   .subst e;exact I
   .exact F k yE yE
  .by_cases e:k=A
   .subst e;exact D x B x (c j yE yE x C) rfl
   .by_cases J:j=A
    .subst J;exact D x C x (c k yE yE x B) rfl
    .exact E k j yE yE yE yE d x B C
theorem Zid [NW] {ob:Nat->Ob}(hI:HI W g ob w) (I:∀k,obU U (ob k)) (N:∀k,¬U k->ob k=.gone) (V:∀k,key<=k->k<key+16->¬U k) {d:List RT}{v:Value}{n:Nat->Prop}(hr:Zhg w' w.heap.size n d v) (hn:(ZD key d).2.2<=key+16)
  (H:Nat->Prop) (X:∀k,H k->U k) (p:Nat->Ob) (A:ZdD d=true->∀b,g.own b->n b)
  (Y:Bel W w') (ae:w.heap.size<=w'.heap.size) (hw:∀b,b<w.heap.size->(∀k,H k->b∉g.O k)->w'.heap[b]?=w.heap[b]?)
  (aa:∀k,H k->obU (Uk U key) (p k)) (hH:∀g':Gh,(∀b,g'.own b->g.own b\/((∃k,b∈g'.O k)/\w.heap.size<=b/\n b))->(∀k,H k->g'.val k=g.val k/\g'.O k=g.O k/\g'.D k=g.D k)->∀k,H k->ObR g' w' k (p k)/\∀b∈g.O k++g.D k,YT w' (p k) b):
  ∃g',HI W g' (λk=>Zl (λj=>open Classical in if H j then p j else ob j) (ZD key d).2.1 k) w'/\SVR g' w' (QH (ZD key d).1) v/\(∀x u,svU U x->SVR g w x u->SVR g' w' x u)/\svU (Uk U key) (QH (ZD key d).1)/\
   (∀k,obU (Uk U key) (Zl (λj=>open Classical in if H j then p j else ob j) (ZD key d).2.1 k))/\∀k,¬Uk U key k->Zl (λj=>open Classical in if H j then p j else ob j) (ZD key d).2.1 k=.gone:=by
 classical
 obtain ⟨vs,F,h1,hF,hv⟩:=hr;obtain ⟨E,O,D,hB,hA⟩:=Zig (l:=ZdD d) key h1 id;generalize (ZD key d).2.2=hi at *
 generalize (ZD key d).2.1=up at *
 generalize (ZD key d).1=xs at *
 have hle:=hB.le;let T:Nat->Prop:=λk=>key<=k/\k<hi
 have ab:∀k,T k->¬U k:=λk hk=>V k hk.1 (by have:=hk.2;omega);let g':Gh:=⟨λk=>if key<=k/\k<hi then E k else g.val k,λk=>if key<=k/\k<hi then O k else g.O k,λk=>if key<=k/\k<hi then D k else g.D k,g.Z⟩
 have gT:∀k,T k->g'.val k=E k/\g'.O k=O k/\g'.D k=D k:=λk hk=>⟨if_pos hk,if_pos hk,if_pos hk⟩
 have gN:∀k,¬T k->g'.val k=g.val k/\g'.O k=g.O k/\g'.D k=g.D k:=λk hk=>⟨if_neg hk,if_neg hk,if_neg hk⟩
 have af:∀k,H k->¬T k:=λk hk ht=>ab k ht (X k hk);have an:∀k,T k->∀b∈O k++D k,b∈F:=λk hk b mb=>by
  rw [hB.foot];exact AC.2 ⟨k,AU.2 ⟨hk.1,by have:=hk.2;omega⟩,mb⟩
 have G:∀k,T k->∀b∈O k++D k,w.heap.size<=b:=λk hk b mb=>hF.ge b (an k hk b mb);have ac:=Zgg (hB.foot ▸ hF.nodup);have J:∀k,U k->g'.val k=g.val k:=λk hk=>(gN k λh=>ab k h hk).1;have t:∀b,g'.own b->g.own b\/((∃k,b∈g'.O k)/\w.heap.size<=b/\n b):=λb hb=>by
  rcases hb with ⟨k,mk⟩|hz
  .by_cases hk:T k
   .have P:=mk;rw [(gT k hk).2.1]at P;obtain ⟨e,m,ys,cs,_,_,_,_,_,p6⟩:=hB.at_ k hk.1 hk.2;exact .inr ⟨⟨k,mk⟩,G k hk b (by simp [P]),p6 b P⟩
   .rw [(gN k hk).2.1]at mk;exact .inl (.inl ⟨k,mk⟩)
  .exact .inl (.inr hz)
 have K:Ql g g' w.heap.size:=.of (λb hb=>(t b hb).imp id λh=>h.2.1) λj b mb=>by
  by_cases hj:T j
  .rw [(gT j hj).2.2]at mb;exact .inr (G j hj b (by simp [mb]))
  .rw [(gN j hj).2.2]at mb;exact .inl (.inr ⟨j,mb⟩)
 have ag:∀b,b<w.heap.size->¬g.own b->w'.heap[b]?=w.heap[b]?:=λb hb ah=>hw b hb λk _ mk=>ah (.inl ⟨k,mk⟩);have Q:∀x u,svU U x->SVR g w x u->SVR g' w' x u:=λx u hx hu=>hu.move hx J ag K ae;have B:∀k,¬T k->Zl (λj=>if H j then p j else ob j) up k=if H k then p k else ob k:=λk hk=>hB.out k hk _;have ai:HI W g' (Zl (λj=>if H j then p j else ob j) up) w':=by
  refine hI.step (U:=U) (λk=>T k\/H k) Y rfl (λb aj hq=>hw b aj λk hk=>hq k (.inr hk)) (λk hk=>?_) I J K (λk hk=>?_)
  .have k1:¬T k:=λh=>hk (.inl h);have k2:¬H k:=λh=>hk (.inr h);exact ⟨by rw [B k k1,if_neg k2],gN k k1⟩
  .by_cases a:T k
   .obtain ⟨e1,e2,e3⟩:=gT k a;obtain ⟨e,m,ys,cs,p1,p2,p3,p4,p5,_⟩:=hB.at_ k a.1 a.2;rw [p1,e2,e3];refine ⟨⟨p2,cs,D k,?_,p4,.inl ⟨rfl,by rw [e1,e2];exact p5,e3⟩⟩,ac.1 k a.1 (by have:=a.2;omega),λb mb=>?_,λj hj b mb mj=>?_⟩
    .rw [e1];exact Zjy p3 (AG _)
    .exact ⟨.inl (AL hI.below.size (G k a b mb)),hF.plain b (an k a b mb)⟩
    .by_cases f:T j
     .rw [(gT j f).2.1,(gT j f).2.2]at mj;exact ac.2 k j a.1 (by have:=a.2;omega) f.1 (by have:=f.2;omega) hj b mb mj
     .rw [(gN j f).2.1,(gN j f).2.2]at mj;have:=hI.lt j b mj;have:=G k a b mb;omega
   .have C:H k:=hk.resolve_left a;obtain ⟨e1,e2,e3⟩:=gN k a;obtain ⟨q1,q2⟩:=hH g' t (λj hj=>gN j (af j hj)) k C;rw [B k a,if_pos C,e2,e3];refine ⟨q1,hI.nodup k,λb mb=>⟨(hI.plain k b mb).1,q2 b mb⟩,λj hj b mb mj=>?_⟩;by_cases f:T j
    .rw [(gT j f).2.1,(gT j f).2.2]at mj;have:=hI.lt k b mb;have:=G j f b mj;omega
    .rw [(gN j f).2.1,(gN j f).2.2]at mj;exact hI.apart k j hj b mb mj
 have R:∀x u,CR E w' n (ZdD d) key hi x u->AVR g' w' x u/\avU (Uk U key) x:=λx u h=>by
  cases x with
  |row k=>
   obtain ⟨c1,c2,c3,c4⟩:=h;exact ⟨⟨by rw [(gT k ⟨c1,c2⟩).1];exact c3,c4⟩,.inr ⟨c1,yE⟩⟩
  |c x=>
   obtain ⟨L,h1,h2⟩:=h;refine ⟨⟨L,h1,λb mb o=>?_⟩,trivial⟩;rcases t b o with o|o
   .exact (h2 b mb).2 (A (h2 b mb).1 b o)
   .exact (h2 b mb).2 o.2.2
  |n _=>exact h.elim
  |nil _ _=>exact h.elim
  |dead=>exact h.elim
 have ad:∀(ys:List AV) (us:List Value),ZJ (CR E w' n (ZdD d) key hi) ys us->ZJ (AVR g' w') ys us/\XX (Uk U key) ys:=λys us h=>by
  induction ys generalizing us with
  |nil=>cases us with
   |nil=>exact ⟨trivial,λ_ m=>by simp at m⟩
   |cons _ _=>exact h.elim
  |cons y ys ih=>cases us with
   |nil=>exact h.elim
   |cons u us=>
    obtain ⟨i1,i2⟩:=ih us h.2;refine ⟨⟨(R y u h.1).1,i1⟩,λz mz=>?_⟩;rcases AA.1 mz with rfl|mz
    .exact (R z u h.1).2
    .exact i2 z mz
 have S:∀(y:Bool×List AV) (u:Value),PR E w' n (ZdD d) key hi y u->PVR g' w' y.1 y.2 u/\XX (Uk U key) y.2:=λy u h=>by
  rcases h with ⟨h1,us,rfl,h3⟩|⟨h1,z,h2,h3⟩
  .obtain ⟨i1,i2⟩:=ad _ _ h3;exact ⟨by rw [h1];exact ⟨us,rfl,i1⟩,i2⟩
  .obtain ⟨i1,i2⟩:=R z u h3;exact ⟨by rw [h1];exact ⟨z,h2,i1⟩,by rw [h2];intro q mq;simp at mq;subst mq;exact i2⟩
 have M:SVR g' w' (QH xs) v/\svU (Uk U key) (QH xs):=by
  have A:=hA.len;by_cases hl:xs.length=1
  .obtain ⟨x,rfl⟩:=BF.1 hl;cases vs with
   |nil=>simp at A
   |cons u us=>
    cases us with
    |cons _ _=>simp at A
    |nil=>
     have ak:v=u:=by rw [hv];rfl
     rw [ak];exact S x u hA.1
  .have al:¬vs.toArray.size=1:=by simp;omega
   rw [dif_neg al]at hv;have e:QH xs=.tup xs:=by
    cases xs with
    |nil=>rfl
    |cons x xs=>cases xs with
     |nil=>simp at hl
     |cons _ _=>rfl
   rw [e];refine ⟨⟨vs,hv,hA.mono λy u _ h=>(S y u h).1⟩,λy my=>?_⟩;obtain ⟨i,am⟩:=Aw.1 my;obtain ⟨u,_,hu⟩:=hA.at am;exact (S y u hu).2
 refine ⟨g',ai,M.1,Q,M.2,λk=>?_,λk hk=>?_⟩
 .by_cases a:T k
  .obtain ⟨e,m,ys,cs,p1,_⟩:=hB.at_ k a.1 a.2;rw [p1];trivial
  .rw [B k a];split
   .rename_i C;exact aa k C
   .exact (I k).mono λ_=>.inl
 .have a:¬T k:=λa=>hk (.inr ⟨a.1,by have:=a.2;omega⟩);have C:¬H k:=λh=>hk (.inl (X k h));rw [B k a,if_neg C];exact N k λh=>hk (.inl h)
theorem Zh6 [NW] (st:St):∀(ks:List Nat) {g:Gh}{ob:Nat->Ob},HI W g ob w->(∀k,ob k=st.ob k\/ob k=Ye (st.ob k))->∃A:Gh,HI W A (Zl ob (ZM st ks)) w/\A.val=g.val/\XV A g/\∀k,Zl ob (ZM st ks) k=(if k∈ks then Ye (st.ob k) else ob k)
 | [],g,ob,hI,_=>⟨g,hI,rfl,XV.refl _,λk=>by simp [ZM,Zl]⟩
 |k::r,g,ob,hI,hob=>by
  have b:Ye (ob k)=Ye (st.ob k):=by
   rcases hob k with h|h
   .rw [h]
   .rw [h];cases st.ob k<;>rfl
  obtain ⟨A,B,H,G,_⟩:=ZjS hI k;rw [b]at B;have a:∀j,upd ob k (Ye (st.ob k)) j=st.ob j\/upd ob k (Ye (st.ob k)) j=Ye (st.ob j):=λj=>by
   by_cases c:j=k
   .subst c;right;rw [ZG]
   .rw [ZR _ _ c];exact hob j
  obtain ⟨I,F,E,D,C⟩:=Zh6 st r B a;refine ⟨I,F,E.trans H,D.trans G,λj=>?_⟩;show Zl (upd ob k (Ye (st.ob k))) (ZM st r) j=_
  rw [C j];by_cases c:j=k
  .subst c;simp [upd]
  .simp [c,upd]
theorem Zpy {st st':St}(h:∀k,st'.ob k=st.ob k\/st'.ob k=Ye (st.ob k)) (x:SV):ZdE st' x=ZdE st x:=by
 have A:∀y:AV,Zck st' y=Zck st y:=λy=>by
  cases y with
  |row k=>
   simp only[Zck];rcases h k with e|e
   .rw [e]
   .rw [e];cases st.ob k<;>rfl
  |_=>rfl
 have c:∀ys:List AV,YQ st' ys=YQ st ys:=λys=>by
  induction ys with
  |nil=>rfl
  |cons y ys ih=>simp only[YQ,A,ih]
 cases x<;>simp [ZdE,c]
theorem ZcE [NW] {st st':St}(h:∀k,st'.ob k=st.ob k\/st'.ob k=Ye (st.ob k)):∀xs:List SV,ZT st' xs=ZT st xs
 | []=>rfl
 |x::r=>by simp only[ZT];rw [Zpy h x,ZcE h r]
theorem ZnG {k:Nat}:∀{cs:List AV},AV.row k∈cs->k∈Zi8 cs
 | [],h=>by simp at h
 |x::r,h=>by
  rcases AA.1 h with rfl|h
  .simp [Zi8]
  .have:=ZnG h;cases x<;>simp [Zi8,this]
theorem ZmB [NW] {k:Nat}{a:Bool}{cs:List AV}:∀{vs:List SV},SV.p a cs∈vs->AV.row k∈cs->k∈ZL vs
 | [],h,_=>by simp at h
 |x::r,h,hk=>by
  rcases AA.1 h with rfl|h
  .simp [ZL,ZnG hk]
  .have:=ZmB h hk;cases x<;>simp [ZL,this]
end
end
section
open Go.RowKit
def Zag (S:Ctx) (f:FuncId) (n key:Nat) (st:St) (vs:List SV) (v:SV) (u:List (Nat×Ob)):Prop:=
 match n with
 |0=>∃l res,ZT st vs=some l/\S.r f l res/\(!ZdD res||vs.all Zia)=true/\(ZD key res).2.2<=key+16/\v=QH (ZD key res).1/\u=(ZD key res).2.1
 |1=>∃a r k h l res h',vs=a::r/\Zgy st a=some (k,h)/\ZT st r=some l/\S.h f h l res h'/\(ZL r).all (λj=>j != k)=true/\(ZD key res).2.2<=key+16/\v=QH (ZD key res).1/\u=ZM st (ZL r)++((k,XY h')::(ZD key res).2.1)
 |3=>∃l nb,ZT st vs=some l/\S.b f l nb/\v=ZHx key nb/\u=ZM st (ZL vs)++[(key,Zz4 nb)]
 |4=>∃l res,ZT st (vs.map nlS)=some l/\S.r f l res/\(!ZdD res||(vs.map nlS).all Zia)=true/\(ZD key res).2.2<=key+16/\v=QH (ZD key res).1/\u=(ZD key res).2.1
 |5=>∃a r kh gh l res cs',vs=a::r/\ZdA st a=some kh/\Zjz st (r.take 0)=some gh/\ZT st (r.drop 0)=some l/\S.o f kh.2.1 kh.2.2.1 gh.1 l res cs'/\(kh.2.2.2++gh.2).Nodup/\(ZL (r.drop 0)).all (ZiY (kh.2.2.2++gh.2))=true/\(ZD key res).2.2=key/\(ZI key cs').2.2<=key+16/\v=QH (ZD key res).1/\u=ZM st (ZL (r.drop 0))++(Yk (kh.2.2.2++gh.2)++((kh.1,.box kh.2.1 (ZI key cs').1)::(ZI key cs').2.1))
 |_=>∃l res,ZT st vs=some l/\S.r f l res/\(ZD key res).2.2<=key+16/\v=QH (ZD key res).1/\u=ZM st (ZL vs)++(ZD key res).2.1
theorem Zml {S:Ctx}{f:FuncId}{n key:Nat}{d:Option Nat}{K:St->Prop}{st:St}{vs:List SV}:spK S f n key d K st vs↔∃v u,Zag S f n key st vs v u/\K ((st.put d v).app u):=by
 rcases n with _|_|_|_|_|_|n
 .simp only[spK,Zag];constructor
  .intro h;unfold Yi at h;split at h
   .rename_i l c;obtain ⟨a,B,D,C,A⟩:=h;exact ⟨_,_,⟨l,a,c,B,D,C,rfl,rfl⟩,A⟩
   .exact h.elim
  .rintro ⟨v,u,⟨l,a,c,B,D,C,rfl,rfl⟩,A⟩;rw [c];exact ⟨a,B,D,C,A⟩
 .simp only[spK,Zag];constructor
  .intro h;cases vs with
   |nil=>exact h.elim
   |cons F r=>
    simp only[ZvL]at h;unfold Yi at h;split at h
    .rename_i G E;split at h
     .rename_i l c;obtain ⟨a,M,B,D,C,A⟩:=h;exact ⟨_,_,⟨F,r,G.1,G.2,l,a,M,rfl,E,c,B,D,C,rfl,rfl⟩,A⟩
     .exact h.elim
    .exact h.elim
  .rintro ⟨v,u,⟨F,r,k,O,l,a,M,rfl,E,c,B,D,C,rfl,rfl⟩,A⟩;simp only[ZvL,E,c,Yi];exact ⟨a,M,B,D,C,A⟩
 .simp only[spK,Zag];constructor
  .intro h;unfold Yi at h;split at h
   .rename_i l c;obtain ⟨a,B,C,A⟩:=h;exact ⟨_,_,⟨l,a,c,B,C,rfl,rfl⟩,A⟩
   .exact h.elim
  .rintro ⟨v,u,⟨l,a,c,B,C,rfl,rfl⟩,A⟩;rw [c];exact ⟨a,B,C,A⟩
 .simp only[spK,Zag];constructor
  .intro h;unfold Yi at h;split at h
   .rename_i l c;obtain ⟨H,B,A⟩:=h;exact ⟨_,_,⟨l,H,c,B,rfl,rfl⟩,A⟩
   .exact h.elim
  .rintro ⟨v,u,⟨l,H,c,B,rfl,rfl⟩,A⟩;rw [c];exact ⟨H,B,A⟩
 .simp only[spK,Zag];constructor
  .intro h;unfold Yi at h;split at h
   .rename_i l c;obtain ⟨a,B,D,C,A⟩:=h;exact ⟨_,_,⟨l,a,c,B,D,C,rfl,rfl⟩,A⟩
   .exact h.elim
  .rintro ⟨v,u,⟨l,a,c,B,D,C,rfl,rfl⟩,A⟩;rw [c];exact ⟨a,B,D,C,A⟩
 .simp only[spK,Zag];constructor
  .intro h;cases vs with
   |nil=>exact h.elim
   |cons F r=>
    simp only[ZlD]at h;unfold Yi at h;split at h
    .rename_i G E;split at h
     .rename_i N I;split at h
      .rename_i l c;obtain ⟨a,b,B,D,C,A,L,J⟩:=h;exact ⟨_,_,⟨F,r,G,N,l,a,b,rfl,E,I,c,B,D,C,A,L,rfl,rfl⟩,J⟩
      .exact h.elim
     .exact h.elim
    .exact h.elim
  .rintro ⟨v,u,⟨F,r,G,N,l,a,b,rfl,E,I,c,B,D,C,A,L,rfl,rfl⟩,J⟩;simp only[ZlD,E,I,c,Yi];exact ⟨a,b,B,D,C,A,L,J⟩
 .simp only[spK,Zag];constructor
  .intro h;unfold Yi at h;split at h
   .rename_i l c;obtain ⟨a,B,C,A⟩:=h;exact ⟨_,_,⟨l,a,c,B,C,rfl,rfl⟩,A⟩
   .exact h.elim
  .rintro ⟨v,u,⟨l,a,c,B,C,rfl,rfl⟩,A⟩;rw [c];exact ⟨a,B,C,A⟩
section
variable {P:Program} {J:World->Prop} {JF:Nat->Prop} {W:Qq} {U:Nat->Prop} {key:Nat} {st:St} {g:Gh} {w w':World} {a:Act} {tt:Nat->Option TI} {hd:FuncId->Nat}
def Zv5 [NW] (W:Qq) (U:Nat->Prop) (key:Nat) (st:St) (g:Gh) (w:World) (v:SV) (u:List (Nat×Ob)) (cv:Value) (w':World):Prop:=
 ∃g',HI W g' (Zl st.ob u) w'/\SVR g' w' v cv/\(∀x c,svU U x->SVR g w x c->SVR g' w' x c)/\svU (Uk U key) v/\(∀k,obU (Uk U key) (Zl st.ob u k))/\∀k,¬Uk U key k->Zl st.ob u k=.gone
theorem HI.ownlt [NW] {ob:Nat->Ob}(c:HI W g ob w) {b:Nat}(h:g.own b):b<w.heap.size:=by
 rcases h with ⟨k,B⟩|A
 .exact c.lt k b (by simp [B])
 .rw [c.gz]at A;exact AZ (c.zx b A).1 c.below.size
theorem Zty {ks:List Nat}{ob:Nat->Ob}(a:∀k,obU U (st.ob k)) (h:∀k,ob k=(if k∈ks then Ye (st.ob k) else st.ob k)):∀k,obU U (ob k):=λk=>by
 rw [h k];have:=a k;split
 .cases hk:st.ob k<;>simp only[Ye]<;>first|trivial|(rw [hk]at this;exact this)
 .exact this
theorem Znh [NW] {vs:List SV}{l:List (Bool×List CT)}{st1:St}(h:∀k,st1.ob k=(if k∈ZL vs then Ye (st.ob k) else st.ob k)) (A:ZT st vs=some l):∀x∈vs,Zyo st1.ob x:=by
 have key:∀(cs:List AV) (l:List CT),YQ st cs=some l->(∀k,AV.row k∈cs->k∈ZL vs)->∀y∈cs,ZzL st1.ob y:=by
  intro cs;induction cs with
  |nil=>intro l _ _ y B;simp at B
  |cons c cs ih=>
   intro l A G y B;simp only[YQ]at A;obtain ⟨L,C,A⟩:=A9.1 A;obtain ⟨c2,E,_⟩:=A6.1 A;rcases AA.1 B with rfl|B
   .cases y with
    |row k=>
     simp only[Zck]at C;split at C
     .rename_i e m xs d a;exact ⟨e,m,xs,by rw [h k,if_pos (G k yG),a];rfl⟩
     .simp at C
    |_=>trivial
   .exact ih c2 E (λk D=>G k (by simp [D])) y B
 have all:∀(xs:List SV) (l:List (Bool×List CT)),ZT st xs=some l->(∀x∈xs,x∈vs)->∀x∈xs,Zyo st1.ob x:=by
  intro xs;induction xs with
  |nil=>intro l _ _ x I;simp at I
  |cons x xs ih=>
   intro l A F y B;simp only[ZT]at A;obtain ⟨L,C,A⟩:=A9.1 A;obtain ⟨c2,E,_⟩:=A6.1 A;rcases AA.1 B with rfl|B
   .cases y with
    |p ag cs=>
     simp only[ZdE]at C;obtain ⟨J,K,_⟩:=A6.1 C;exact key cs J K (λk D=>ZmB (F (.p ag cs) yG) D)
    |_=>trivial
   .exact ih c2 E (λz H=>F z (by simp [H])) y B
 exact all vs l A (λ_ h=>h)
theorem ZGL {k:Nat}{inst:∀j,Decidable (j=k)}(ob:Nat->Ob) (o:Ob):(λj=>@ite _ (j=k) (inst j) o (ob j))=upd ob k o:=by
 funext j
 simp only[upd];split<;>rfl
theorem ZjX [NW] (F:MOk P J JF W tt) {f:FuncId}{vs:List SV}{a:List Value}{v:SV}{u:List (Nat×Ob)}(h:Zag (SC P J JF hd) f 0 key st vs v u) (B:HI W g st.ob w) (G:StU U st) (c:∀k,key<=k->k<key+16->¬U k) (j:ZJ (SVR g w) vs a) (S:∀x∈vs,svU U x):
  ZaG P f/\Calls P f a.toArray w λe w'=>∃cv,e=.returned cv/\Zv5 W U key st g w v u cv w':=by
 obtain ⟨l,o,O,hs,d,N,rfl,rfl⟩:=h;obtain ⟨T,R⟩:=hs;refine ⟨T,?_⟩;by_cases m:ZdD o=true
 .have p:∀x∈vs,Zyo st.ob x:=ZBi (by simpa [m]using d);refine (R w g.own a (F.at B.below) (λb A=>B.ownlt A) (ZbN B O j (.inr ⟨p,λ_ h=>h⟩))).mono ?_;rintro e w' ⟨cv,n,rfl,K,M,A⟩;obtain ⟨L,E,t2,I,H,D,C⟩:=Zid B G.ob G.gone c K N (λ_=>False) (λ_ h=>h.elim) (λ_=>.gone) (λ_ b A=>M b A) (B.below.trans A) A.size (λb i _=>A.block b i) (λ_ h=>h.elim) (λ_ _ _ _ h=>h.elim);simp only[if_false]at E D C;exact ⟨cv,rfl,L,E,t2,I,H,D,C⟩
 .refine (R w (λ_=>False) a (F.at B.below) (λb A=>A.elim) (ZbN B O j (.inl λ_ h=>h))).mono ?_;rintro e w' ⟨cv,n,rfl,K,M,A⟩;obtain ⟨L,E,t2,I,H,D,C⟩:=Zid B G.ob G.gone c K N (λ_=>False) (λ_ h=>h.elim) (λ_=>.gone) (λh=>absurd h m) (B.below.trans A) A.size (λb i _=>A.block b i) (λ_ h=>h.elim) (λ_ _ _ _ h=>h.elim);simp only[if_false]at E D C;exact ⟨cv,rfl,L,E,t2,I,H,D,C⟩
theorem Zzb [NW] {x:AV}{v:Value}(h:AVR g w x v):AVR g w (nlA x) v:=by
 cases x with
 |nil e m=>exact ⟨[],⟨h,rfl⟩,yG⟩
 |_=>exact h
theorem Zwd [NW]:∀{xs:List AV}{vs:List Value},ZJ (AVR g w) xs vs->ZJ (AVR g w) (xs.map nlA) vs
 | [],[],_=>trivial
 | [],_::_,h=>h.elim
 |_::_,[],h=>h.elim
 |_::_,_::_,h=>⟨Zzb h.1,Zwd h.2⟩
theorem ZDw [NW] {x:SV}{v:Value}(h:SVR g w x v):SVR g w (nlS x) v:=by
 cases x with
 |p a cs=>
  cases a with
  |true=>obtain ⟨vs,A,c⟩:=h;exact ⟨vs,A,Zwd c⟩
  |false=>obtain ⟨y,rfl,c⟩:=h;exact ⟨_,rfl,Zzb c⟩
 |_=>exact h
theorem Zwx [NW]:∀{xs:List SV}{vs:List Value},ZJ (SVR g w) xs vs->ZJ (SVR g w) (xs.map nlS) vs
 | [],[],_=>trivial
 | [],_::_,h=>h.elim
 |_::_,[],h=>h.elim
 |_::_,_::_,h=>⟨ZDw h.1,Zwx h.2⟩
theorem ZyQ {x:SV}(h:svU U x):svU U (nlS x):=by
 cases x with
 |p a cs=>
  intro y A;obtain ⟨z,c,rfl⟩:=AJ.1 A;have hz:=h z c;cases z<;>first|exact hz|trivial
 |_=>exact h
theorem ZAN [NW] (R:HI W g st.ob w) {x:AV}{H:Bool×CT}{ks:List Nat}{v:Value}(h:ZfV st x=some (H,ks)) (A:AVR g w x v):OC w 0 g.own H v (g.F ks)/\∀k∈ks,∃e m xs,st.ob k=.row e m xs 2:=by
 cases x with
 |c y=>
  obtain ⟨L,B,S⟩:=A;cases y<;>simp only[ZfV,A0,A5,reduceCtorEq]at h<;>obtain ⟨rfl,rfl⟩:=h
  .exact ⟨⟨⟨B.1,rfl⟩,by simp [Gh.F]⟩,yG⟩
  .exact ⟨⟨⟨B.1,rfl⟩,by simp [Gh.F]⟩,yG⟩
  .exact ⟨⟨⟨B.1,rfl,B.2.2⟩,by simp [Gh.F]⟩,yG⟩
  .exact ⟨⟨by simp [Gh.F],L,B,S⟩,yG⟩
 |row k=>
  simp only[ZfV]at h;split at h
  .rename_i e m xs d G;split at h
   .rename_i P;subst P;simp only[A0,A5]at h;obtain ⟨rfl,rfl⟩:=h;have ho:=R.obs k;rw [G]at ho;obtain ⟨C,cs,L,M,K,J⟩:=ho;rcases J with ⟨_,D,I⟩|⟨q,_⟩|⟨q,_⟩
    .refine ⟨⟨C,cs,L,by rw [A.1];exact M,K,by simp [Gh.F,D,I,A.1],λb N=>.inl ⟨k,by rw [D,<-A.1];exact N⟩⟩,λj E=>?_⟩;simp only[Ae]at E;subst E;exact ⟨e,m,xs,G⟩
    .omega
    .omega
   .simp at h
  .simp at h
 |nil e m=>
  simp only[ZfV]at h;split at h
  .rename_i C;simp only[A0,A5]at h;obtain ⟨rfl,rfl⟩:=h;have O:v=.slice none 0 0:=A;subst O;exact ⟨⟨C,[],[],ZfE _ _ _ _,⟨rfl,rfl⟩,by simp [Gh.F,Value.ownBlock],by simp [Value.ownBlock]⟩,yG⟩
  .simp at h
 |n _=>simp [ZfV]at h
 |dead=>simp [ZfV]at h
theorem Ziq [NW] (c:HI W g st.ob w):∀{xs:List AV}{cts:List (Bool×CT)}{ks:List Nat}{vs:List Value},YJ st xs=some (cts,ks)->ZJ (AVR g w) xs vs->OCs w 0 g.own cts vs (g.F ks)/\∀k∈ks,∃e m xs,st.ob k=.row e m xs 2
 | [],_,_,[],h,_=>by simp [YJ]at h;obtain ⟨rfl,rfl⟩:=h;exact ⟨⟨rfl,by simp [Gh.F]⟩,yG⟩
 | [],_,_,_::_,_,h=>h.elim
 |_::_,_,_,[],_,h=>h.elim
 |x::r,cts,ks,v::vs,h,hr=>by
  simp only[YJ]at h;obtain ⟨⟨K,J⟩,C,h⟩:=A9.1 h;obtain ⟨⟨c2,I⟩,B,h⟩:=A6.1 h;simp only[A5]at h;obtain ⟨rfl,rfl⟩:=h;obtain ⟨H,G⟩:=ZAN c C hr.1;obtain ⟨E,D⟩:=Ziq c B hr.2;exact ⟨⟨v,vs,_,_,rfl,by simp [Gh.F],H,E⟩,λk A=>(A4.1 A).elim (G k) (D k)⟩
theorem OC.low {n m:Nat->Prop}{B:Nat}{x:Bool×CT}{v:Value}{F:List Nat}(h:OC w B n x v F) (K:∀b,m b->n b) (J:∀b∈F,n b->m b):OC w B m x v F:=by
 obtain ⟨l,c⟩:=x;cases l with
 |true=>obtain ⟨e,L,D,C⟩:=h;exact ⟨e,L,D,λb A I=>C b A (K b I)⟩
 |false=>
  cases c with
  |sl e k xs=>
   obtain ⟨D,cs,L,C,H,E,G⟩:=h;exact ⟨D,cs,L,C,H,E,λb A=>J b (by rw [E];simp only[A4];exact .inl A) (G b A)⟩
  |_=>exact h
theorem OCs.low {n m:Nat->Prop}{B:Nat}:∀{cts:List (Bool×CT)}{vs:List Value}{F:List Nat},OCs w B n cts vs F->(∀b,m b->n b)->(∀b∈F,n b->m b)->OCs w B m cts vs F
 | [],_,_,h,_,_=>h
 |_::_,_,_,⟨v,vs,F1,F2,e1,e2,h3,h4⟩,h1,h2=>⟨v,vs,F1,F2,e1,e2,h3.low h1 λb c=>h2 b (by simp [e2,c]),h4.low h1 λb c=>h2 b (by simp [e2,c])⟩
theorem Zhy {st st':St}:∀{xs:List AV}{cts:List (Bool×CT)}{ks:List Nat},YJ st xs=some (cts,ks)->(∀j∈ks,st'.ob j=st.ob j)->YJ st' xs=some (cts,ks)
 | [],_,_,h,_=>h
 |x::r,cts,ks,h,hk=>by
  simp only[YJ]at h ⊢;obtain ⟨⟨G,C⟩,A,h⟩:=A9.1 h;obtain ⟨⟨c2,H⟩,E,h⟩:=A6.1 h;simp only[A5]at h;obtain ⟨rfl,rfl⟩:=h;have F:ZfV st' x=some (G,C):=by
   cases x with
   |row k=>
    simp only[ZfV]at A ⊢;split at A
    .rename_i e m xs d a;split at A
     .rename_i D;simp only[A0,A5]at A;obtain ⟨rfl,rfl⟩:=A;rw [hk k yG,a];simp [D]
     .simp at A
    .simp at A
   |c y=>cases y<;>exact A
   |nil e m=>exact A
   |n _=>exact A
   |dead=>exact A
  rw [F,Zhy E λj B=>hk j (by simp [B])];rfl
theorem Zt8 [NW] {a:Nat->Value}{n:Nat->Prop}{l:Bool}{D hi:Nat}{F:Gh}{V:Nat->Prop}{xs:List (Bool×List AV)}{vs:List Value}{v:Value}(E:ZJ (PR a w' n l D hi) xs vs) (H:v=(if h:vs.toArray.size=1 then vs.toArray[0] else .tuple vs.toArray))
  (c:∀x u,CR a w' n l D hi x u->AVR F w' x u/\avU V x):SVR F w' (QH xs) v/\svU V (QH xs):=by
 have f:∀(ys:List AV) (A:List Value),ZJ (CR a w' n l D hi) ys A->ZJ (AVR F w') ys A/\XX V ys:=λys A h=>by
  induction ys generalizing A with
  |nil=>cases A with
   |nil=>exact ⟨trivial,λ_ m=>by simp at m⟩
   |cons _ _=>exact h.elim
  |cons y ys ih=>cases A with
   |nil=>exact h.elim
   |cons u A=>
    obtain ⟨C,B⟩:=ih A h.2;refine ⟨⟨(c y u h.1).1,C⟩,λz G=>?_⟩;rcases AA.1 G with rfl|G
    .exact (c z u h.1).2
    .exact B z G
 have d:∀(y:Bool×List AV) (u:Value),PR a w' n l D hi y u->PVR F w' y.1 y.2 u/\XX V y.2:=λy u h=>by
  rcases h with ⟨J,A,rfl,I⟩|⟨J,z,M,I⟩
  .obtain ⟨C,B⟩:=f _ _ I;exact ⟨by rw [J];exact ⟨A,rfl,C⟩,B⟩
  .obtain ⟨C,B⟩:=c z u I;exact ⟨by rw [J];exact ⟨z,M,C⟩,by rw [M];intro q K;simp at K;subst K;exact B⟩
 have b:=E.len;by_cases L:xs.length=1
 .obtain ⟨x,rfl⟩:=BF.1 L;cases vs with
  |nil=>simp at b
  |cons u A=>
   cases A with
   |cons _ _=>simp at b
   |nil=>
    have g:v=u:=by rw [H];rfl
    rw [g];exact d x u E.1
 .have j:¬vs.toArray.size=1:=by simp;omega
  rw [dif_neg j]at H;have e:QH xs=.tup xs:=by
   cases xs with
   |nil=>rfl
   |cons x xs=>cases xs with
    |nil=>simp at L
    |cons _ _=>rfl
  rw [e];refine ⟨⟨vs,H,E.mono λy u _ h=>(d y u h).1⟩,λy N=>?_⟩;obtain ⟨i,k⟩:=Aw.1 N;obtain ⟨u,_,O⟩:=E.at k;exact (d y u O).2
theorem Zva {v:SV}{c:Nat×Nat×List (Bool×CT)×List Nat}(h:ZdA st v=some c):∃A,v=.bp c.1 0/\st.ob c.1=.box c.2.1 A/\YJ st A=some (c.2.2.1,c.2.2.2)/\c.2.2.2.Nodup:=by
 unfold ZdA at h;split at h
 .rename_i k;split at h
  .rename_i t A C;obtain ⟨x,B,h⟩:=A9.1 h;split at h
   .rename_i a;simp only[A0]at h;subst h;exact ⟨A,rfl,C,B,a⟩
   .simp at h
  .simp at h
 .simp at h
theorem ZiK {st:St}:∀{xs c:List AV}{C c2:List (Bool×CT)}{B A:List Nat},YJ st xs=some (C,B)->YJ st c=some (c2,A)->YJ st (xs++c)=some (C++c2,B++A)
 | [],c,C,c2,B,A,h,h'=>by simp [YJ]at h;obtain ⟨rfl,rfl⟩:=h;exact h'
 |x::r,c,C,c2,B,A,h,h'=>by
  simp only[YJ,AS]at h ⊢;obtain ⟨⟨I,G⟩,E,h⟩:=A9.1 h;obtain ⟨⟨H,F⟩,D,h⟩:=A6.1 h;simp only[A5]at h;obtain ⟨rfl,rfl⟩:=h;rw [E,ZiK D h'];simp
theorem Zjl {st:St}:∀{xs:List AV}{c:List (Bool×CT)}{k:List Nat},YJ st xs=some (c,k)->xs.length=c.length
 | [],_,_,h=>by simp [YJ]at h;simp [h.1]
 |x::r,_,_,h=>by
  simp only[YJ]at h;obtain ⟨⟨F,C⟩,D,h⟩:=A9.1 h;obtain ⟨⟨E,B⟩,A,h⟩:=A6.1 h;simp only[A5]at h;obtain ⟨rfl,rfl⟩:=h;simp [Zjl A]
theorem Zsw [NW] {vs:List SV}{b:List Value}{D:Option (Bool×List (Bool×CT))}{ks:List Nat}(h:Zjz st vs=some (D,ks)) (A:ZJ (SVR g w) vs b):∃E,YJ st E=some (gvC D,ks)/\∃us,ZJ (AVR g w) E us/\GVr D b us:=by
 unfold Zjz at h;split at h
 .simp only[A0,A5]at h;obtain ⟨rfl,rfl⟩:=h;cases b with
  |nil=>exact ⟨[],rfl,[],trivial,rfl,rfl⟩
  |cons _ _=>exact A.elim
 .rename_i a xs;obtain ⟨x,C,h⟩:=A6.1 h;simp only[A5]at h;obtain ⟨rfl,rfl⟩:=h;cases b with
  |nil=>exact A.elim
  |cons c cr=>
   cases cr with
   |cons _ _=>exact A.2.elim
   |nil=>
    have hl:=Zjl C;cases a with
    |true=>
     obtain ⟨us,rfl,B⟩:=A.1;exact ⟨xs,C,us,B,rfl,by rw [<-B.len,hl]⟩
    |false=>
     obtain ⟨y,rfl,B⟩:=A.1;exact ⟨[y],C,[c],⟨B,trivial⟩,rfl,rfl,by rw [<-hl];rfl⟩
 .simp at h
theorem ZjN [NW] (cp:MOk P J JF W tt) {f:FuncId}(N:Nat) {vs:List SV}{ah:List Value}{v:SV}{u:List (Nat×Ob)}(h:∃v0 r kh gh l Q B,vs=v0::r/\ZdA st v0=some kh/\Zjz st (r.take N)=some gh/\ZT st (r.drop N)=some l/\Zgo P J JF f kh.2.1 kh.2.2.1 gh.1 l Q B/\(kh.2.2.2++gh.2).Nodup/\(ZL (r.drop N)).all (ZiY (kh.2.2.2++gh.2))=true/\(ZD key Q).2.2=key/\(ZI key B).2.2<=key+16/\v=QH (ZD key Q).1/\u=ZM st (ZL (r.drop N))++(Yk (kh.2.2.2++gh.2)++((kh.1,.box kh.2.1 (ZI key B).1)::(ZI key B).2.1))) (hH:HI W g st.ob w) (hU:StU U st) (a2:∀k,key<=k->k<key+16->¬U k) (a3:ZJ (SVR g w) vs ah) (_hvU:∀x∈vs,svU U x):
  ZaG P f/\Calls P f ah.toArray w λe w'=>∃cv,e=.returned cv/\Zv5 W U key st g w v u cv w':=by
 classical
 obtain ⟨v0,r0,⟨k,t,cs,a4⟩,⟨gv,a5⟩,l,Q,B,rfl,hk,hg,hl,hs,a6,a7,bx,hn,rfl,rfl⟩:=h;obtain ⟨ds,rfl,X,ai,_⟩:=Zva hk;simp only at hs a7 X ai a6 ⊢;generalize cq:r0.drop N=r at *
 obtain ⟨hc,hC⟩:=hs;refine ⟨hc,?_⟩;cases ah with
 |nil=>exact a3.elim
 |cons c0 cr=>
 obtain ⟨bz,Y⟩:=a3;have b0:ZJ (SVR g w) r (cr.drop N):=cq ▸ Y.drop N;obtain ⟨aj,b1,b2⟩:=Zsw hg (Y.take N);have hx:YJ st (ds++aj)=some (cs++gvC gv,a4++a5):=ZiK ai b1;generalize ct:a4++a5=ks at *
 have b3:cr=cr.take N++cr.drop N:=(As _ _).symm;obtain ⟨g1,i1,i2,i3,i4⟩:=Zh6 st (ZL r) hH (λk=>.inl rfl);let st1:St:=⟨st.sl,Zl st.ob (ZM st (ZL r)),st.n⟩
 have K:∀k,st1.ob k=(if k∈ZL r then Ye (st.ob k) else st.ob k):=i4;have ak:∀k,st1.ob k=st.ob k\/st1.ob k=Ye (st.ob k):=λk=>by
  rw [K k];split
  .exact .inr rfl
  .exact .inl rfl
 have b4:ZT st1 r=some l:=by rw [ZcE ak];exact hl
 have a8:=Znh (st1:=st1) K hl;have b5:∀j,st.ob j≠.gone->U j:=λj hg=>Classical.byContradiction λhn=>hg (hU.gone j hn);have R:∀j,obU U (st1.ob j):=Zty hU.ob K;have M:∀j,¬U j->st1.ob j=.gone:=λj hj=>by
  have e:=hU.gone j hj;rcases ak j with h|h<;>rw [h,e]<;>rfl
 have a9:SVR g1 w (.bp k 0) c0:=bz.less i2 i3;have ba:ZJ (SVR g1 w) r (cr.drop N):=b0.mono λx c _ hx=>hx.less i2 i3;have b6:∀j∈ks,j∉ZL r:=λj hj hm=>by
  have:=AT.1 a7 j hm;simp [ZiY,hj]at this
 have al:st1.ob k=.box t ds:=by
  rcases ak k with h|h
  .rw [h,X]
  .rw [h,X];rfl
 have b7:YJ st1 (ds++aj)=some (cs++gvC gv,ks):=Zhy hx λj hj=>by rw [K j,if_neg (b6 j hj)]
 have ho:=i1.obs k;rw [show Zl st.ob (ZM st (ZL r)) k=.box t ds from al]at ho;obtain ⟨b,us,h1,h2,h3,h4,h5⟩:=ho;obtain ⟨b',h6,h7⟩:=a9;have b8:b'=b:=by rw [h6]at h1;simpa using h1
 subst b8;obtain ⟨am,b9,ca⟩:=b2;have bb:ZJ (AVR g1 w) aj am:=b9.mono λx c _ hx=>AVR.less hx i2 i3;obtain ⟨bc,G⟩:=Ziq (st:=st1) i1 b7 (h5.append bb);have bd:us.length=cs.length:=by rw [<-h5.len,Zjl ai]
 have aa:k∉ks:=λm=>by
  obtain ⟨e,m',xs,hr⟩:=G k m;rw [al]at hr;simp at hr
 have be:U k:=b5 k (by rw [X];simp);have ab:∀j∈ks,U j:=λj hj=>Classical.byContradiction λhn=>by
  obtain ⟨e,m',xs,hr⟩:=G j hj;rw [M j hn]at hr;simp at hr
 let F:=g1.F ks
 let q:Nat->Prop:=λx=>g1.own x/\x∈b'::F
 let z:Nat->Prop:=λx=>g1.own x/\x∉b'::F
 have S:(λx=>z x\/q x)=g1.own:=funext λx=>propext ⟨λh=>h.elim And.left And.left,λh=>by
  by_cases hm:x∈b'::F
  .exact .inr ⟨h,hm⟩
  .exact .inl ⟨h,hm⟩⟩
 have H:∀x∈F,∃j∈ks,x∈g1.O j++g1.D j:=λx mx=>ZfX mx;have cb:b'∉F:=λm=>by
  obtain ⟨j,hj,mj⟩:=H _ m;exact i1.apart k j (λe=>aa (e ▸ hj)) b' (by simp [h2]) mj
 have d:∀x∈b'::F,(W.heap.size<=x\/W.x x\/W.y x)/\∃cc e,w.heap[x]?=some (.cells cc e (0,0)):=λx mx=>by
  rcases AA.1 mx with rfl|mx
  .have:=i1.plain k x (by simp [h2]);rw [show Zl st.ob (ZM st (ZL r)) k=.box t ds from al]at this;exact this
  .obtain ⟨j,hj,mj⟩:=H x mx;obtain ⟨e,m',xs,hr⟩:=G j hj;have:=i1.plain j x mj;rw [show Zl st.ob (ZM st (ZL r)) j=.row e m' xs 2 from hr]at this;exact this
 have an:ZpJ w (λx=>z x\/q x) t (cs++gvC gv) c0 b' us am F:=⟨h7,h4,by rw [S];exact bc,⟨AI.2 ⟨cb,i1.nodupF a6⟩,λ_ _=>AG _,λx mx=>(d x mx).2⟩⟩
 have ao:ZJ (Zhk w λx=>z x\/q x) l (cr.drop N):=by rw [S];exact ZbN (st:=st1) i1 b4 ba (.inr ⟨a8,λ_ h=>h⟩)
 have cd:q b':=⟨.inl ⟨k,by simp [h2]⟩,yG⟩
 have bf:∀x,q x->x=b'\/∃j∈ks,x∈g1.O j:=λx hx=>by
  rcases AA.1 hx.2 with h|mx
  .exact .inl h
  .obtain ⟨j,hj,mj⟩:=H x mx;rcases A4.1 mj with m1|m1
   .exact .inr ⟨j,hj,m1⟩
   .rcases hx.1 with ⟨j',bg⟩|hz
    .by_cases e:j=j'
     .subst e;exact absurd rfl ((AF.1 (i1.nodup j)).2.2 x bg x m1)
     .exact absurd (by simp [bg]:x∈g1.O j'++g1.D j') (i1.apart j j' e x mj)
    .exact absurd hz (i1.nz mj)
 have bh:∀x,q x->W.heap.size<=x\/W.x x:=λx hx=>by
  rcases bf x hx with rfl|⟨j,_,mj⟩
  .exact i1.oy k x (by simp [h2])
  .exact i1.oy j x mj
 rw [b3];refine (hC w z q c0 (cr.take N) (cr.drop N) b' us am F (cp.at hH.below) cd (λx hx=>⟨(bh x hx).elim (cp.jf x) (cp.xf x),hx.2⟩) (λx hx=>⟨i1.ownlt hx.1,λh=>hx.2 h.2,hx.2⟩) bd ca an ao).mono ?_;rintro e w' ⟨cv,n,bi,F',rfl,hr,bj,ce,cf,T,ap,C⟩;have bk:Bel W w':=⟨C.os.trans hH.below.os,C.tape.trans hH.below.tape,C.output.trans hH.below.output,AL hH.below.size C.size,λi hi hx=>by
  rw [C.block i (AZ hi hH.below.size) λcg=>?_]
  .exact hH.below.block i hi hx
  .rcases bh i cg with h|h
   .omega
   .exact hx h⟩
 obtain ⟨aq,O,D,hB,hA⟩:=Qx (l:=true) key (by simpa using T.ocs) (λ_=>rfl);obtain ⟨cu,RF,bl,cx,ch⟩:=hr;obtain ⟨bm,O0,D0,cy,bn⟩:=Zig (l:=true) key bl (λ_=>rfl);rw [bx]at bn;generalize (ZI key B).2.2=hi at *
 generalize (ZI key B).2.1=up at *
 generalize (ZI key B).1=I at *
 generalize (ZD key Q).1=rxs at *
 have hle:=hB.le;have ar:∀j,(key<=j/\j<hi)->¬U j:=λj hj=>a2 j hj.1 yE;let g':Gh:=⟨λj=>if key<=j/\j<hi then aq j else g1.val j,λj=>if key<=j/\j<hi then O j else if j∈ks then [] else g1.O j,λj=>if key<=j/\j<hi then D j else if j∈ks then [] else g1.D j,g1.Z⟩
 have gT:∀j,(key<=j/\j<hi)->g'.val j=aq j/\g'.O j=O j/\g'.D j=D j:=λj hj=>⟨if_pos hj,if_pos hj,if_pos hj⟩
 have gK:∀j∈ks,g'.O j=[]/\g'.D j=[]:=λj hj=>by
  have hn:¬(key<=j/\j<hi):=λh=>ar j h (ab j hj);exact ⟨by simp only[g',if_neg hn,if_pos hj],by simp only[g',if_neg hn,if_pos hj]⟩
 have gV:∀j,¬(key<=j/\j<hi)->g'.val j=g1.val j:=λj hj=>if_neg hj;have gN:∀j,¬(key<=j/\j<hi)->j∉ks->g'.O j=g1.O j/\g'.D j=g1.D j:=λj hj hk=>⟨by simp only[g',if_neg hj,if_neg hk],by simp only[g',if_neg hj,if_neg hk]⟩
 have as:∀j,(key<=j/\j<hi)->∀x∈O j++D j,x∈F':=λj hj x mx=>by
  rw [hB.foot];exact AC.2 ⟨j,AU.2 ⟨hj.1,yE⟩,mx⟩
 have ac:=(AI.1 T.own.nodup)
 have ad:=Zgg (hB.foot ▸ ac.2);have ae:∀j,U j->g'.val j=g1.val j:=λj hj=>gV j λh=>ar j h hj;have cw:¬(key<=k/\k<hi):=λh=>ar k h be;have au:∀x∈F,g1.low x:=λx mx=>by
  obtain ⟨j,_,mj⟩:=H x mx;rcases A4.1 mj with m1|m1
  .exact .inl (.inl ⟨j,m1⟩)
  .exact .inr ⟨j,m1⟩
 have bo:∀j,(key<=j/\j<hi)->∀x∈O j,n x:=λj hj x mx=>by
  obtain ⟨_,_,_,_,_,_,_,_,_,p6⟩:=hB.at_ j hj.1 hj.2;exact p6 x mx
 have av:∀x,g'.own x->g1.own x\/w.heap.size<=x:=λx hx=>by
  rcases hx with ⟨j,mj⟩|hz
  .by_cases hj:key<=j/\j<hi
   .rw [(gT j hj).2.1]at mj;rcases cf x (bo j hj x mj) with h|h|h
    .exact .inl h.1
    .exact .inl h.1
    .exact .inr h
   .by_cases a:j∈ks
    .rw [(gK j a).1]at mj;simp at mj
    .rw [(gN j hj a).1]at mj;exact .inl (.inl ⟨j,mj⟩)
  .exact .inl (.inr hz)
 have af:Ql g1 g' w.heap.size:=.of av λj x mj=>by
  by_cases hj:key<=j/\j<hi
  .rw [(gT j hj).2.2]at mj;exact (ap x (as j hj x (by simp [mj]))).imp (au x) id
  .by_cases a:j∈ks
   .rw [(gK j a).2]at mj;simp at mj
   .rw [(gN j hj a).2]at mj;exact .inl (.inr ⟨j,mj⟩)
 have ci:∀x,x<w.heap.size->¬g1.own x->w'.heap[x]?=w.heap[x]?:=λx hx cj=>C.block x hx λhq=>cj hq.1;have aw:∀x c,svU U x->SVR g1 w x c->SVR g' w' x c:=λx c hx hc=>hc.move hx ae ci af C.size;have V:∀x,g'.own x->n x:=λx hx=>by
  rcases hx with ⟨j,mj⟩|hz
  .by_cases hj:key<=j/\j<hi
   .rw [(gT j hj).2.1]at mj;exact bo j hj x mj
   .by_cases a:j∈ks
    .rw [(gK j a).1]at mj;simp at mj
    .rw [(gN j hj a).1]at mj;by_cases e:j=k
     .subst e;rw [h2]at mj;simp only[Ae]at mj;rw [mj];exact ce
     .refine bj x ⟨.inl ⟨j,mj⟩,λm=>?_⟩;rcases AA.1 m with rfl|m
      .exact i1.apart k j (λh=>e h.symm) x (by simp [h2]) (by simp [mj])
      .obtain ⟨i,ax,mi⟩:=H x m;exact i1.apart i j (λh=>a (h ▸ ax)) x mi (by simp [mj])
  .refine bj x ⟨.inr hz,λm=>?_⟩;rcases AA.1 m with rfl|m
   .exact i1.nz (k:=k) (by simp [h2]) hz
   .obtain ⟨i,_,mi⟩:=H x m;exact i1.nz mi hz
 have bq:∀x c,CR aq w' n true key hi x c->AVR g' w' x c/\avU (Uk U key) x:=λx c h=>by
  cases x with
  |row j=>
   obtain ⟨c1,c2,c3,c4⟩:=h;exact ⟨⟨by rw [(gT j ⟨c1,c2⟩).1];exact c3,c4⟩,.inr ⟨c1,yE⟩⟩
  |c y=>
   obtain ⟨L,h1,h2⟩:=h;exact ⟨⟨L,h1,λx mx o=>(h2 x mx).2 (V x o)⟩,trivial⟩
  |n _=>exact h.elim
  |nil _ _=>exact h.elim
  |dead=>exact h.elim
 have br:∀x c,CR bm w' n true key key x c->AVR g' w' x c/\avU (Uk U key) x:=λx c h=>by
  cases x with
  |row j=>obtain ⟨c1,c2,_⟩:=h;omega
  |c y=>
   obtain ⟨L,h1,h2⟩:=h;exact ⟨⟨L,h1,λx mx o=>(h2 x mx).2 (V x o)⟩,trivial⟩
  |n _=>exact h.elim
  |nil _ _=>exact h.elim
  |dead=>exact h.elim
 obtain ⟨ay,az⟩:=Zt8 bn ch br;have ag:ZJ (AVR g' w') I bi/\XX (Uk U key) I:=⟨hA.mono λx c _ h=>(bq x c h).1,λx mx=>by
  obtain ⟨i,ax⟩:=Aw.1 mx;obtain ⟨c,_,ck⟩:=hA.at ax;exact (bq x c ck).2⟩
 let co:Nat->Ob:=upd (Zl st1.ob (Yk ks)) k (.box t I)
 have a0:Zl st.ob (ZM st (ZL r)++(Yk ks++((k,.box t I)::up)))=Zl co up:=by rw [Yj,Yj];rfl
 have bs:∀j,co j=if j=k then .box t I else if j∈ks then .gone else st1.ob j:=λj=>by
  show upd (Zl st1.ob (Yk ks)) k (.box t I) j=_
  unfold upd;split
  .rfl
  .exact ZeZ ks st1.ob j
 have E:∀j,¬(key<=j/\j<hi)->Zl co up j=if j=k then .box t I else if j∈ks then .gone else st1.ob j:=λj hj=>by rw [hB.out j hj];exact bs j
 have bt:∀j,(key<=j/\j<hi)->b'∉O j++D j:=λj hj m=>ac.1 (as j hj b' m);have cl:HI W g' (Zl co up) w':=by
  refine i1.step (U:=U) (λj=>(key<=j/\j<hi)\/j∈ks\/j=k) bk rfl (λx hx hq=>C.block x hx λbu=>?_) (λj hj=>?_) R ae af (λj hj=>?_)
  .rcases bf x bu with rfl|⟨j,hj,mj⟩
   .exact hq k (.inr (.inr rfl)) (by simp [h2])
   .exact hq j (.inr (.inl hj)) mj
  .have j1:¬(key<=j/\j<hi):=λh=>hj (.inl h);have j2:j∉ks:=λh=>hj (.inr (.inl h));have j3:¬j=k:=λh=>hj (.inr (.inr h));exact ⟨by rw [E j j1,if_neg j3,if_neg j2],gV j j1,(gN j j1 j2).1,(gN j j1 j2).2⟩
  .by_cases hT:key<=j/\j<hi
   .obtain ⟨e1,e2,e3⟩:=gT j hT;obtain ⟨e,m,ys,bv,p1,p2,p3,p4,p5,_⟩:=hB.at_ j hT.1 hT.2;rw [p1,e2,e3];refine ⟨⟨p2,bv,D j,?_,p4,.inl ⟨rfl,by rw [e1,e2];exact p5,e3⟩⟩,ad.1 j hT.1 yE,λx mx=>?_,λi a1 x mx mi=>?_⟩
    .rw [e1];exact Zjy p3 (AG _)
    .refine ⟨?_,T.own.plain x (by simp [as j hT x mx])⟩;rcases ap x (as j hT x mx) with h|h
     .exact (d x (by simp [h])).1
     .exact .inl (AL hH.below.size h)
    .by_cases p:key<=i/\i<hi
     .rw [(gT i p).2.1,(gT i p).2.2]at mi;exact ad.2 j i hT.1 yE p.1 yE a1 x mx mi
     .by_cases A:i∈ks
      .rw [(gK i A).1,(gK i A).2]at mi;simp at mi
      .rw [(gN i p A).1,(gN i p A).2]at mi;rcases ap x (as j hT x mx) with h|h
       .obtain ⟨i',cm,cn⟩:=H x h;exact i1.apart i' i (by rintro rfl;exact A cm) x cn mi
       .have:=i1.lt i x mi;omega
   .by_cases a:j∈ks
    .obtain ⟨e2,e3⟩:=gK j a;rw [E j hT,if_neg (λh:j=k=>aa (h ▸ a)),if_pos a,e2,e3];exact ⟨⟨e2,e3⟩,yG,yG,yG⟩
    .obtain rfl:j=k:=by
      rcases hj with h|h|h
      .exact absurd h hT
      .exact absurd h a
      .exact h
     obtain ⟨e2,e3⟩:=gN j hT a;rw [E j hT,if_pos rfl,e2,e3,h2,h3];refine ⟨⟨b',bi,by rw [gV j hT];exact h1,by rw [e2,h2],by rw [e3,h3],T.cell,ag.1⟩,yG,λx mx=>?_,λi a1 x mx mi=>?_⟩
     .simp at mx;subst mx;exact ⟨(d x yG).1,_,_,T.cell⟩
     .simp at mx;subst mx;by_cases p:key<=i/\i<hi
      .rw [(gT i p).2.1,(gT i p).2.2]at mi;exact bt i p mi
      .by_cases A:i∈ks
       .rw [(gK i A).1,(gK i A).2]at mi;simp at mi
       .rw [(gN i p A).1,(gN i p A).2]at mi;exact i1.apart j i a1 x (by simp [h2]) mi
 refine ⟨cv,rfl,g',?_,ay,λx c hx hc=>aw x c hx (hc.less i2 i3),az,λj=>?_,λj hj=>?_⟩
 .rw [a0];exact cl
 .rw [a0];by_cases hT:key<=j/\j<hi
  .obtain ⟨e,m,ys,bv,p1,_⟩:=hB.at_ j hT.1 hT.2;rw [p1];trivial
  .rw [E j hT];split
   .exact ag.2
   .split
    .trivial
    .exact (R j).mono λ_=>.inl
 .have hT:¬(key<=j/\j<hi):=λh=>hj (.inr ⟨h.1,yE⟩);have a:j∉ks:=λh=>hj (.inl (ab j h));have bw:¬j=k:=λh=>hj (.inl (h ▸ be));rw [a0,E j hT,if_neg bw,if_neg a];exact M j λh=>hj (.inl h)
theorem Zha [NW] (as:MOk P J JF W tt) {f:FuncId}{n:Nat}{vs:List SV}{H:List Value}{v:SV}{u:List (Nat×Ob)}(h:Zag (SC P J JF hd) f n key st vs v u) (hH:HI W g st.ob w) (hU:StU U st) (B:∀k,key<=k->k<key+16->¬U k) (I:ZJ (SVR g w) vs H) (ai:∀x∈vs,svU U x):
  ZaG P f/\Calls P f H.toArray w λe w'=>∃cv,e=.returned cv/\Zv5 W U key st g w v u cv w':=by
 unfold Zag at h;split at h
 .exact ZjX as (f:=f) (vs:=vs) h hH hU B I ai
 .obtain ⟨v0,r,k,hh,l,N,h',rfl,hk,hl,hs,a0,hn,rfl,rfl⟩:=h;obtain ⟨hc,hC⟩:=hs;refine ⟨hc,?_⟩;cases H with
  |nil=>exact I.elim
  |cons c0 cr=>
  obtain ⟨a1,a2⟩:=I;obtain ⟨g1,i1,i2,i3,i4⟩:=Zh6 st (ZL r) hH (λk=>.inl rfl);let st1:St:=⟨st.sl,Zl st.ob (ZM st (ZL r)),st.n⟩
  have a:∀k,st1.ob k=(if k∈ZL r then Ye (st.ob k) else st.ob k):=i4;have E:∀k,st1.ob k=st.ob k\/st1.ob k=Ye (st.ob k):=λk=>by
   rw [a k];split
   .exact .inr rfl
   .exact .inl rfl
  have R:ZT st1 r=some l:=by rw [ZcE E];exact hl
  have F:=Znh (st1:=st1) a hl;have a3:k∉ZL r:=λhm=>by
   have:=AT.1 a0 k hm;simp at this
  have ap:st1.ob k=st.ob k:=by rw [a k,if_neg a3]
  have a4:st.ob k≠.gone->U k:=λhg=>Classical.byContradiction λhn=>hg (hU.gone k hn);have A:∀j,obU U (st1.ob j):=Zty hU.ob a;have z:∀j,¬U j->st1.ob j=.gone:=λj hj=>by
   have e:=hU.gone j hj;rcases E j with h|h<;>rw [h,e]<;>rfl
  have af:SVR g1 w v0 c0:=a1.less i2 i3;have aq:ZJ (SVR g1 w) r cr:=a2.mono λx c _ hx=>hx.less i2 i3;have aj:∃q:Option Nat,ZpU w (inQ (λb=>g1.own b/\¬q=some b) q) q hh c0/\g1.O k=q.toList/\g1.D k=[]/\c0=g1.val k/\st.ob k≠.gone:=by
   unfold Zgy at hk;split at hk
   .rename_i k';split at hk
    .rename_i t cs K;split at hk
     .rename_i a5;obtain ⟨l',a6,e⟩:=A6.1 hk;simp only[A5]at e;obtain ⟨rfl,rfl⟩:=e;have ho:=i1.obs k';rw [show Zl st.ob (ZM st (ZL r)) k'=.box t cs from ap.trans K]at ho;obtain ⟨b,vs,h1,h2,h3,h4,h5⟩:=ho;obtain ⟨b',h6,h7⟩:=af;have hb:b'=b:=by rw [h6]at h1;simpa using h1
      subst hb;have ar:YQ st1 cs=some l':=by
       have:=Zpy E (.p true cs);simp only[ZdE,a6]at this;obtain ⟨x,hx,Q⟩:=A6.1 this;simp only[A5,true_and]at Q;rw [hx,Q]
      obtain ⟨L,hL,a7⟩:=ZfB (st:=st1) i1 ar h5;refine ⟨some b',⟨b',vs,L,rfl,h7,h4,hL,λx mx hx=>?_⟩,by simp [h2],h3,by rw [h7,h6],by rw [K];simp⟩;refine a7 (λy my=>?_) x mx ?_
      .have:=AT.1 a5 y my;cases y<;>simp [Zbp]at this<;>trivial
      .rcases hx with hx|hx
       .exact hx.1
       .simp only[A0]at hx;subst hx;exact .inl ⟨k',by simp [h2]⟩
     .simp at hk
    .simp at hk
   .rename_i k';split at hk
    .rename_i e m xs d K;split at hk
     .rename_i au;simp only[A0,A5]at hk;obtain ⟨rfl,rfl⟩:=hk;have ho:=i1.obs k';rw [show Zl st.ob (ZM st (ZL r)) k'=.row e m xs d from ap.trans K]at ho;obtain ⟨hm,cs,L,h1,h2,h3⟩:=ho;obtain rfl:=ZhH h2 au.2;obtain ⟨x,av,Q⟩:=af;simp only[Ah,and_true]at av;subst av;rcases h3 with ⟨_,h3,h4⟩|⟨h3,_⟩|⟨h3,_⟩
      .exact ⟨(g1.val k').ownBlock,⟨au.2,hm,by rw [Q.1],cs,by rw [Q.1];exact h1,h2⟩,h3,h4,Q.1,by rw [K];simp⟩
      .omega
      .omega
     .simp at hk
    .simp at hk
   .simp at hk
  obtain ⟨q,a8,G,X,ak,a9⟩:=aj;have al:=a4 a9;have ba:∀b,q=some b->g1.own b:=λb hb=>.inl ⟨k,by simp [G,hb]⟩;have aw:∀b,g1.own b->inQ (λb=>g1.own b/\¬q=some b) q b:=λb hb=>by
   by_cases Y:q=some b
   .exact .inr Y
   .exact .inl ⟨hb,Y⟩
  have am:ZJ (Zhk w (inQ (λb=>g1.own b/\¬q=some b) q)) l cr:=ZbN (st:=st1) i1 R aq (.inr ⟨F,λb hb=>by
   rcases hb with hb|hb
   .exact hb.1
   .exact ba b hb⟩)
  have bb:∀b,q=some b->JF b:=λb hb=>by
   rcases i1.oy k b (by simp [G,hb]) with h|h
   .exact as.jf b h
   .exact as.xf b h
  refine (hC w _ q c0 cr (as.at hH.below) bb (λb hb=>⟨i1.ownlt hb.1,hb.2⟩) a8 am).mono ?_;rintro e w' ⟨cv,n,rfl,hr,hz,aa,M⟩;have C:Bel W w':=⟨M.os.trans hH.below.os,M.tape.trans hH.below.tape,M.output.trans hH.below.output,AL hH.below.size M.size,λi hi hx=>by
   rw [M.block i (AZ hi hH.below.size) λbc=>?_]
   .exact hH.below.block i hi hx
   .rcases i1.oy k i (by simp [G,bc]) with h|h
    .omega
    .exact hx h⟩
  obtain ⟨g',t1,t2,t3,t4,t5,t6⟩:=Zid i1 A z B hr hn (λj=>j=k) (λj hj=>by rw [hj];exact al) (λ_=>XY h') (λ_ b hb=>hz b (aw b hb)) C M.size
   (λb hb bd=>M.block b hb λY=>bd k rfl (by simp [G,Y]))
   (λj _=>by
    cases h' with
    |row e m xs=>trivial
    |box t cs=>intro y my;simp only[AJ]at my;obtain ⟨x,_,rfl⟩:=my;trivial)
   (λg' ho be j hj=>by
    subst hj;obtain ⟨e1,e2,e3⟩:=be j rfl;have an:∀b,¬n b->¬g'.own b:=λb ab K=>by
     rcases ho b K with h|h
     .exact ab (hz b (aw b h))
     .exact ab h.2.2
    cases h' with
    |row e m xs=>
     obtain ⟨p1,p2,p3,cs,p4,p5⟩:=aa;refine ⟨⟨p2,cs,[],by rw [e1,<-ak];exact p4,p5,.inl ⟨rfl,by rw [e2,G,e1,<-ak,p3],by rw [e3,X]⟩⟩,λb mb=>?_⟩;rw [G,X]at mb;simp at mb;rcases p4.2 with ⟨h0,_⟩|⟨gg,o,cap,bh,hv,_,bf,_⟩
     .rw [h0]at p3;simp [Value.ownBlock]at p3;rw [<-p3]at mb;simp at mb
     .rw [hv]at p3;simp only[Value.ownBlock]at p3;rw [mb]at p3;simp at p3;subst p3;exact ⟨_,_,bf⟩
    |box t cs=>
     obtain ⟨b,vs,L,p1,p2,p3,p4,p5⟩:=aa;refine ⟨⟨b,vs,by rw [e1,<-ak];exact p2,by rw [e2,G,p1];rfl,by rw [e3,X],p3,p4.avr λx mx=>an x (p5 x mx)⟩,λx mx=>?_⟩;rw [G,X,p1]at mx;simp at mx;subst mx;exact ⟨_,_,p3⟩)
  have S:Zl st.ob (ZM st (ZL r)++((k,XY h')::(ZD key N).2.1))=Zl (upd (Zl st.ob (ZM st (ZL r))) k (XY h')) (ZD key N).2.1:=by rw [Yj];rfl
  have ao:=ZGL (k:=k) (inst:=λj=>Classical.propDecidable (j=k)) (Zl st.ob (ZM st (ZL r))) (XY h');have ax:HI W g' (Zl (upd (Zl st.ob (ZM st (ZL r))) k (XY h')) (ZD key N).2.1) w':=ao ▸ t1;have ay:∀j,obU (Uk U key) (Zl (upd (Zl st.ob (ZM st (ZL r))) k (XY h')) (ZD key N).2.1 j):=ao ▸ t5;have az:∀j,¬Uk U key j->Zl (upd (Zl st.ob (ZM st (ZL r))) k (XY h')) (ZD key N).2.1 j=.gone:=ao ▸ t6;rw [<-S]at ax ay az;exact ⟨cv,rfl,g',ax,t2,λx c hx hc=>t3 x c hx (hc.less i2 i3),t4,ay,az⟩
 .obtain ⟨l,nb,hl,hs,rfl,rfl⟩:=h;obtain ⟨hc,hC⟩:=hs;refine ⟨hc,?_⟩;obtain ⟨g1,i1,i2,i3,i4⟩:=Zh6 st (ZL vs) hH (λk=>.inl rfl);let st1:St:=⟨st.sl,Zl st.ob (ZM st (ZL vs)),st.n⟩
  have a:∀k,st1.ob k=(if k∈ZL vs then Ye (st.ob k) else st.ob k):=i4;have E:∀k,st1.ob k=st.ob k\/st1.ob k=Ye (st.ob k):=λk=>by
   rw [a k];split
   .exact .inr rfl
   .exact .inl rfl
  have R:ZT st1 vs=some l:=by rw [ZcE E];exact hl
  have F:=Znh (st1:=st1) a hl;have A:∀j,obU U (st1.ob j):=Zty hU.ob a;have z:∀j,¬U j->st1.ob j=.gone:=λj hj=>by
   have e:=hU.gone j hj;rcases E j with h|h<;>rw [h,e]<;>rfl
  have T:ZJ (SVR g1 w) vs H:=I.mono λx c _ hx=>hx.less i2 i3;refine (hC w g1.own H (as.at hH.below) (λb hb=>i1.ownlt hb) (ZbN (st:=st1) i1 R T (.inr ⟨F,λ_ h=>h⟩))).mono ?_;rintro e w' ⟨b,n,rfl,hb,ac,ab,hz,C⟩;have al:¬U key:=B key (AB _) yE;let g':Gh:=⟨λk=>if k=key then Zpn b nb else g1.val k,λk=>if k=key then [b] else g1.O k,λk=>if k=key then [] else g1.D k,g1.Z⟩
  have ag:∀k,U k->g'.val k=g1.val k:=λk hk=>if_neg λ(e:k=key)=>al (e ▸ hk);have V:∀x,g'.own x->g1.own x\/x=b:=λx hx=>by
   rcases hx with ⟨k,mk⟩|hx
   .simp only[g']at mk;split at mk
    .exact .inr (by simpa using mk)
    .exact .inl (.inl ⟨k,mk⟩)
   .exact .inl (.inr hx)
  have ah:Ql g1 g' w.heap.size:=.of (λx hx=>(V x hx).imp id λ(e:x=b)=>by rw [e];exact hb) λj x mx=>by
   simp only[g']at mx;split at mx
   .simp at mx
   .exact .inl (.inr ⟨j,mx⟩)
  have an:∀x,¬n x->¬g'.own x:=λx mx hx=>mx (by
   rcases V x hx with h|h
   .exact hz x h
   .rw [h];exact ab)
  have S:Zl st.ob (ZM st (ZL vs)++[(key,Zz4 nb)])=upd (Zl st.ob (ZM st (ZL vs))) key (Zz4 nb):=by rw [Yj];rfl
  have ad:g'.val key=Zpn b nb:=if_pos rfl;have ae:YT w' (Zz4 nb) b:=by
   cases nb with
   |box t cs=>obtain ⟨us,L,p1,_⟩:=ac;exact ⟨_,_,p1⟩
   |map kk vk kv=>obtain ⟨es,c,p1,_⟩:=ac;exact ⟨_,_,p1⟩
  refine ⟨_,rfl,g',?_,?_,λx c hx hc=>(hc.less i2 i3).move hx ag (λb hb _=>C.block b hb) ah C.size,?_,λk=>?_,λk hk=>?_⟩
  .rw [S];refine i1.step (U:=U) (λk=>k=key) (hH.below.trans C) rfl (λb hb _=>C.block b hb) (λk hk=>⟨ZR _ _ hk,if_neg hk,if_neg hk,if_neg hk⟩) A ag ah (λk hk=>?_);subst hk;have e1:g'.O k=[b]:=if_pos rfl;have e2:g'.D k=[]:=if_pos rfl;rw [ZG,e1,e2];refine ⟨?_,yG,λx mx=>?_,λj hj x mx mj=>?_⟩
   .cases nb with
    |box t cs=>obtain ⟨us,L,p1,p2,p3⟩:=ac;exact ⟨b,us,ad,e1,e2,p1,p2.avr λx mx=>an x (p3 x mx)⟩
    |map kk vk kv=>obtain ⟨es,c,p1,p2⟩:=ac;exact ⟨b,es,c,ad,e1,e2,p1,p2⟩
   .simp at mx;subst mx;exact ⟨.inl (AL hH.below.size hb),ae⟩
   .simp at mx;subst mx;have e3:g'.O j=g1.O j:=if_neg λe=>hj e.symm;have e4:g'.D j=g1.D j:=if_neg λe=>hj e.symm;rw [e3,e4]at mj;have:=i1.lt j x mj;omega
  .cases nb with
   |box t cs=>exact ⟨b,ad,rfl⟩
   |map kk vk kv=>exact ⟨.row key,rfl,ad.symm,rfl⟩
  .cases nb with
   |box t cs=>exact .inr ⟨AB _,yE⟩
   |map kk vk kv=>intro y my;simp at my;subst my;exact .inr ⟨AB _,yE⟩
  .rw [S];by_cases hk:k=key
   .subst hk;rw [ZG];cases nb with
    |box t cs=>intro y my;simp only[AJ]at my;obtain ⟨x,_,rfl⟩:=my;trivial
    |map kk vk kv=>trivial
   .rw [ZR _ _ hk];exact (A k).mono λ_=>.inl
  .have bg:¬k=key:=λe=>hk (.inr ⟨yE,yE⟩);rw [S,ZR _ _ bg];exact z k λh=>hk (.inl h)
 .exact ZjX as (f:=f) (vs:=vs.map nlS) h hH hU B (Zwx I) (λx hx=>by
   obtain ⟨y,my,rfl⟩:=AJ.1 hx;exact ZyQ (ai y my))
 .exact ZjN as (f:=f) 0 (vs:=vs) h hH hU B I ai
 .obtain ⟨l,N,hl,hs,hn,rfl,rfl⟩:=h;obtain ⟨hc,hC⟩:=hs;refine ⟨hc,?_⟩;obtain ⟨g1,i1,i2,i3,i4⟩:=Zh6 st (ZL vs) hH (λk=>.inl rfl);let st1:St:=⟨st.sl,Zl st.ob (ZM st (ZL vs)),st.n⟩
  have a:∀k,st1.ob k=(if k∈ZL vs then Ye (st.ob k) else st.ob k):=i4;have E:∀k,st1.ob k=st.ob k\/st1.ob k=Ye (st.ob k):=λk=>by
   rw [a k];split
   .exact .inr rfl
   .exact .inl rfl
  have R:ZT st1 vs=some l:=by rw [ZcE E];exact hl
  have F:=Znh (st1:=st1) a hl;have A:∀j,obU U (st1.ob j):=Zty hU.ob a;have z:∀j,¬U j->st1.ob j=.gone:=λj hj=>by
   have e:=hU.gone j hj;rcases E j with h|h<;>rw [h,e]<;>rfl
  have T:ZJ (SVR g1 w) vs H:=I.mono λx c _ hx=>hx.less i2 i3;refine (hC w g1.own H (as.at hH.below) (λb hb=>i1.ownlt hb) (ZbN (st:=st1) i1 R T (.inr ⟨F,λ_ h=>h⟩))).mono ?_;rintro e w' ⟨cv,n,rfl,hr,hz,hb⟩;obtain ⟨g',t1,t2,t3,t4,t5,t6⟩:=Zid i1 A z B hr hn (λ_=>False) (λ_ h=>h.elim) (λ_=>.gone) (λ_ b hb=>hz b hb) (hH.below.trans hb) hb.size (λb aa _=>hb.block b aa) (λ_ h=>h.elim) (λ_ _ _ _ h=>h.elim);simp only[if_false,<-Yj]at t1 t5 t6;exact ⟨cv,rfl,g',t1,t2,λx c hx hc=>t3 x c hx (hc.less i2 i3),t4,t5,t6⟩
end
end
section
open Go.RowKit
section
variable {P:Program} {J:World->Prop} {JF:Nat->Prop} {W:Qq} {U:Nat->Prop} {key:Nat} {st:St} {w w':World} {a:Act} {tt:Nat->Option TI} {hs:FuncId->Nat} {Q:Exit->Act->World->Prop}
theorem Zdc (a:Act) (d:Option Nat) (v:Value):(a.put d v).tmps.size=a.tmps.size:=by cases d<;>simp [Act.put]
theorem Zgc [NW] {g B:Gh}{d:Option Nat}{v:SV}{u:List (Nat×Ob)}{cv:Value}(G:∀t,SVR g w (st.sl t) (a.tmps.getD t undef)) (C:StU U st) (b:a.defers=[]) (E:∀v,W.hv=some v->a.tmps.getD 0 undef=v) (F:∀t,d=some t->t<a.tmps.size/\(W.hv=none\/t≠0))
  (K:HI W B (Zl st.ob u) w') (M:SVR B w' v cv) (J:∀x c,svU U x->SVR g w x c->SVR B w' x c) (L:svU (Uk U key) v) (I:∀k,obU (Uk U key) (Zl st.ob u k)) (H:∀k,¬Uk U key k->Zl st.ob u k=.gone):
  Inv W (Uk U key) ((st.put d v).app u) (a.put d cv) w':=by
 cases d with
 |none=>
  refine ⟨⟨B,K,λt=>J _ _ (C.sl t) (G t)⟩,⟨λt=>(C.sl t).mono λ_=>.inl,I,H⟩,b,E⟩
 |some d=>
  have f:=(F d rfl).1;refine ⟨⟨B,K,λt=>?_⟩,⟨λt=>?_,I,H⟩,b,λu D=>?_⟩
  .show SVR B w' (upd st.sl d v t) ((a.tmps.setIfInBounds d cv).getD t undef)
   by_cases A:t=d
   .subst A;rw [ZG];simpa [AW,Array.getElem?_setIfInBounds,f]using M
   .rw [ZR _ _ A];have:(a.tmps.setIfInBounds d cv).getD t undef=a.tmps.getD t undef:=by
     simp [AW,BG (λe:d=t=>A e.symm)]
    rw [this];exact J _ _ (C.sl t) (G t)
  .show svU (Uk U key) (upd st.sl d v t)
   by_cases A:t=d
   .subst A;rw [ZG];exact L
   .rw [ZR _ _ A];exact (C.sl t).mono λ_=>.inl
  .show (a.tmps.setIfInBounds d cv).getD 0 undef=u
   have i:d≠0:=by
    rcases (F d rfl).2 with h|h
    .rw [h]at D;simp at D
    .exact h
   rw [<-E u D];simp [AW,BG i]
theorem Zug [NW] {g:Gh}{x:SV}{v:Value}{B:FuncId×List CT}(a:ZpD x=some B) (hs:SVR g w x v):∃cs:List Value,v=.func (.func B.1) #[] cs.toArray/\ZJ (SVR g w) (B.2.map ZlN) cs:=by
 unfold ZpD at a;split at a
 .rename_i f A;simp only[A0]at a;subst a;obtain ⟨y,C,hs⟩:=hs;simp at C;subst C;obtain ⟨L,⟨vs,F,E⟩,D⟩:=hs;refine ⟨vs,F,?_⟩;have:=E.avr (g:=g) D;have b:∀(A:List CT) (vs:List Value),ZJ (AVR g w) (A.map AV.c) vs->ZJ (SVR g w) (A.map ZlN) vs:=by
   intro A;induction A with
   |nil=>intro vs h;cases vs with
    |nil=>trivial
    |cons _ _=>exact h.elim
   |cons e A ih=>intro vs h;cases vs with
    |nil=>exact h.elim
    |cons v vs=>exact ⟨⟨_,rfl,h.1⟩,ih vs h.2⟩
  exact b _ _ this
 .rename_i f;simp only[A0]at a;subst a;exact ⟨[],hs,trivial⟩
 .simp at a
theorem Zqo [NW] (htt:MOk P J JF W tt) {o:Oper}{K:St->Prop}(h:opS tt (SC P J JF hs) key o K st) (hI:Inv W U st a w) (hkey:∀k,key<=k->k<key+16->¬U k) (hd:∀t,o.dst=some t->t<a.tmps.size/\(W.hv=none\/t≠0)):
  o.wp P a w (λa' w'=>∃st',Inv W (Uk U key) st' a' w'/\a'.tmps.size=a.tmps.size/\K st') Q:=by
 obtain ⟨⟨g,hH,hS⟩,hU,hdef,hh⟩:=hI
 have evals:∀(args:Array Operand) (ts:Array TypeId),ZJ (SVR g w) (evs tt st ts.toList args.toList) (args.toList.map a.eval)/\∀x∈evs tt st ts.toList args.toList,svU U x:=λargs ts=>by
  have he:args.toList.map a.eval=(Zkz ts.toList args.toList).map λp=>a.eval p.2:=by
   have:=congrArg (List.map a.eval) (ZfY ts.toList args.toList)
   rw [<-this,B2];rfl
  refine ⟨?_,λx mx=>?_⟩
  .rw [he]
   exact ZJ.of_map _ _ λp _=>(ZlQ htt.tt hS hU p.1 p.2).1
  .obtain ⟨p,_,rfl⟩:=AJ.1 mx
   exact (ZlQ htt.tt hS hU p.1 p.2).2
 have arm:∀(f:FuncId) (n:Nat) (vs:List SV) (cvs:List Value),spK (SC P J JF hs) f n key o.dst K st vs->ZJ (SVR g w) vs cvs->(∀x∈vs,svU U x)->(ZaG P f->(execOp a.eval o).run P w=.ok (.enter f cvs.toArray) w)->
   o.wp P a w (λa' w'=>∃st',Inv W (Uk U key) st' a' w'/\a'.tmps.size=a.tmps.size/\K st') Q:=λf n vs cvs h hargs hargU hrun=>by
  obtain ⟨v,u,hr,hK⟩:=Zml.1 h
  obtain ⟨hc,hcall⟩:=Zha htt hr hH hU hkey hargs hargU
  unfold Oper.wp
  rw [hrun hc,Oper.upon_enter]
  refine hcall.mono ?_
  rintro e w' ⟨cv,rfl,g',t1,t2,t3,t4,t5,t6⟩
  exact ⟨_,Zgc hS hU hdef hh hd t1 t2 t3 t4 t5 t6,Zdc _ _ _,hK⟩
 unfold opS at h
 split at h
 .rename_i c hc
  obtain ⟨f,l1,l2⟩:=c
  have hop:∃args ts,o.op=.call ⟨.value (.func f),args,ts⟩/\l1=ts.toList/\l2=args.toList:=by
   unfold YS at hc
   split at hc
   .rename_i f' args ts he
    simp only[A0,A5]at hc
    obtain ⟨rfl,rfl,rfl⟩:=hc
    exact ⟨args,ts,he,rfl,rfl⟩
   .simp at hc
  obtain ⟨args,ts,hop,rfl,rfl⟩:=hop
  refine arm f _ _ _ h (evals args ts).1 (evals args ts).2 ?_
  rintro ⟨fn,f1,f2,f3⟩
  have f2' : ¬ fn.name = "runtime.NumGoroutine" := by simpa using f2
  have f3':¬fn.body=none:=λe=>by rw [e]at f3;simp at f3
  have e1:(args.toList.map a.eval).toArray=args.map a.eval:=by
   apply Av
   simp
  rw [e1]
  simp [execOp,hop,resolve,Act.eval,Deferred.ofValue,invoke,callFunc,program,Sem.run,f1,f2',f3']
 .split at h
  .rename_i c hc
   obtain ⟨s,l1,l2⟩:=c
   have hop:∃args ts,o.op=.call ⟨.value (.tmp s),args,ts⟩/\l1=ts.toList/\l2=args.toList:=by
    unfold Xm at hc
    split at hc
    .rename_i s' args ts he
     simp only[A0,A5]at hc
     obtain ⟨rfl,rfl,rfl⟩:=hc
     exact ⟨args,ts,he,rfl,rfl⟩
    .simp at hc
   obtain ⟨args,ts,hop,rfl,rfl⟩:=hop
   unfold Yi at h
   split at h
   .rename_i fc hfc
    obtain ⟨_,h⟩:=h
    have hval:=Zug hfc (hS s)
    obtain ⟨cs,hv',hcs⟩:=hval
    have hv:a.eval (.tmp s)=.func (.func fc.1) #[] cs.toArray:=hv'
    refine arm fc.1 0 _ (args.toList.map a.eval++cs) h ((evals args ts).1.append hcs) (λx mx=>?_) ?_
    .rcases A4.1 mx with m|m
     .exact (evals args ts).2 x m
     .obtain ⟨c,_,rfl⟩:=AJ.1 m
      exact XW _
    .rintro ⟨fn,f1,f2,f3⟩
     have f2' : ¬ fn.name = "runtime.NumGoroutine" := by simpa using f2
     have f3':¬fn.body=none:=λe=>by rw [e]at f3;simp at f3
     have e1:(args.toList.map a.eval++cs).toArray=args.map a.eval++cs.toArray:=by
      apply Av
      simp
     rw [e1]
     simp [execOp,hop,resolve,hv,Deferred.ofValue,invoke,callFunc,program,Sem.run,f1,f2',f3']
   .exact h.elim
  .unfold Yi at h
   split at h
   .rename_i r hr
    obtain ⟨g',cv,w',hrun,t1,t2,t3,t4,t5,t6⟩:=ZpF (P:=P) (W:=W) (a:=a) htt.tt o hr hH hS hU (hkey key (AB _) yE)
    unfold Oper.wp
    rcases hrun with hrun|⟨hrun,rfl⟩
    .rw [hrun]
     exact ⟨_,Zgc hS hU hdef hh hd t1 t2 t3 t4 t5 t6,Zdc _ _ _,h⟩
    .rw [hrun]
     exact ⟨_,Zgc hS hU hdef hh hd t1 t2 t3 t4 t5 t6,Zdc _ _ _,h⟩
   .exact h.elim
theorem ZvM [NW] (E:Inv W U st a w) (d:Option Nat) (C:∀t,d=some t->t<a.tmps.size/\(W.hv=none\/t≠0)):Inv W (Uk U key) (st.put d .und) (a.put d undef) w:=by
 obtain ⟨⟨g,F,D⟩,c,b,B⟩:=E;exact Zgc (u:=[]) (key:=key) D c b B C F rfl (λ_ _ _ h=>h) trivial (λk=>(c.ob k).mono λ_=>.inl) (λk A=>c.gone k λh=>A (.inl h))
theorem ZpC [NW] (B:MOk P J JF W tt) {d:Array Oper}{i:Nat}{o:Oper}{K:St->Prop}(M:d[i]?=some o) (h:opG tt (SC P J JF hs) d.toList key o K st) (H:Inv W U st a w) (u:∀k,key<=k->k<key+16->¬U k) (F:∀t,o.dst=some t->t<a.tmps.size/\(W.hv=none\/t≠0)):
  wpOp P d Q i (λL w'=>∃st',Inv W (Uk U key) st' L w'/\L.tmps.size=a.tmps.size/\K st') a w:=by
 have skip:K (st.put o.dst .und)->∃st',Inv W (Uk U key) st' (a.put o.dst undef) w/\(a.put o.dst undef).tmps.size=a.tmps.size/\K st':=λR=>⟨_,ZvM H _ F,Zdc _ _ _,R⟩
 unfold wpOp;simp only[M];unfold opG Za8 at h;cases hg:o.guard with
 |none=>
  rw [hg]at h;rw [if_pos (by simp [Region.wanted,hg])];exact .inl (Zqo B h H u F)
 |some jw=>
  obtain ⟨j,f⟩:=jw;rw [hg]at h;simp only at h;cases hj:(d.toList[j]?).bind (·.dst) with
  |none=>
   rw [hj]at h;have l:(d[j]?).bind (·.dst)=none:=by simpa using hj
   rw [if_neg (by simp [Region.wanted,hg,yielded,l])];exact skip h
  |some t=>
   rw [hj]at h;have l:(d[j]?).bind (·.dst)=some t:=by simpa using hj
   obtain ⟨⟨g,S,I⟩,O,x,N⟩:=H;have m:=I t;simp only at h;unfold gK at h;split at h
   .rename_i G;have:∃b,st.sl t=.p false [.c (.bool b)]:=by
     unfold Zao at G;split at G
     .rename_i b A;exact ⟨b,A⟩
     .simp at G
    obtain ⟨b,v⟩:=this;rw [v]at m h;have hv:=Zgj m;have C:yielded d a.tmps j=some b:=by
     unfold yielded;rw [l,At];have:a.tmps[t]?=some (.bool b):=by
      rw [AW]at hv;cases A:a.tmps[t]? with
      |none=>rw [A]at hv;simp [undef]at hv
      |some q=>rw [A]at hv;simpa using hv
     rw [this]
    by_cases D:(b==f)=true
    .rw [if_pos (show (Qo (.p false [.c (.bool b)])==f)=true from D)]at h;rw [if_pos (by simpa [Region.wanted,hg,C]using D)];exact .inl (Zqo B h ⟨⟨g,S,I⟩,O,x,N⟩ u F)
    .rw [if_neg (show ¬(Qo (.p false [.c (.bool b)])==f)=true from D)]at h;rw [if_neg (by simpa [Region.wanted,hg,C]using D)];exact skip h
   .split at h
    .rename_i E;have v:st.sl t=.und:=by
      unfold ZsG at E;split at E
      .rename_i A;exact A
      .simp at E
     rw [v]at m;have e:a.tmps.getD t undef=undef:=m;have C:yielded d a.tmps j=none:=by
      unfold yielded;rw [l,At];rw [AW]at e;cases A:a.tmps[t]? with
      |none=>rfl
      |some q=>rw [A]at e;simp at e;rw [e];rfl
     rw [if_neg (by simp [Region.wanted,hg,C])];exact skip h
    .exact h.elim
theorem ZpB [NW] (A:MOk P J JF W tt) {b:Array Oper}{N:Nat}(D:∀o∈b.toList,∀t,o.dst=some t->t<N/\(W.hv=none\/t≠0)) {K:St->Prop}:∀(r:List Oper) (i key:Nat) (U:Nat->Prop) (st:St) (a:Act) (w:World),b.toList.drop i=r->Z8 tt (SC P J JF hs) b.toList key r K st->Inv W U st a w->(∀k,key<=k->¬U k)->a.tmps.size=N->
  (∀U' st' B w',Inv W U' st' B w'->(∀k,key+16*r.length<=k->¬U' k)->B.tmps.size=N->K st'->Q .normal B w')->wpOps P b Q (AO i r.length) a w
 | [],i,key,U,st,a,w,_,h,hI,hk,hs,hQ=>hQ U st a w hI (by simpa using hk) hs h
 |o::r,i,key,U,st,a,w,hr,h,hI,hk,hs,hQ=>by
  have hi:b.toList[i]?=some o:=by
   have:=congrArg (λl=>l[0]?) hr;simpa using this
  have d:b.toList.drop (i+1)=r:=by
   have:=congrArg List.tail hr;simpa using this
  rw [Ax,Ak,wpOps_cons];refine wpOp_mono ?_ (ZpC A (by simpa using hi) h hI (λk a _=>hk k a) (λt F=>by rw [hs];exact D o (List.mem_of_getElem? hi) t F));rintro B w' ⟨st',e,G,f⟩;refine ZpB A D r (i+1) (key+16) _ st' B w' d f e (λk c C=>?_) yE (λU' g O E M L I H=>hQ U' g O E M (λk c=>L k (by simp at c;omega)) I H);rcases C with C|C
  .exact hk k yE C
  .omega
end
end
end
end Go.Proofs.YthjnneiibkknhaaGreatDoor
