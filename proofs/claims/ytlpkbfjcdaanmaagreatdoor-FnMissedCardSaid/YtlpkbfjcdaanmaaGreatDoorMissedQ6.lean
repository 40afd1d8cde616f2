/- A part of the proof; no conditions. -/
import Derived.Test.YtlpkbfjcdaanmaaGreatDoorMissedQ5
import Derived.Orders
open Array renaming getD_eq_getD_getElem?→AA,getElem?_setIfInBounds_ne→AQ,ext'→AS,getElem?_setIfInBounds→AY,getElem?_eq_some_iff→Ab
open Bool renaming and_eq_true→AB,or_eq_true→AH
open List renaming mem_map→A4,mem_append→A8,mem_cons→A9,all_eq_true→AD,getElem?_eq_some_iff→AE,range'→AJ,map_congr_left→AL,not_mem_nil→AM,nodup_cons→AN,mem_range'_1→AO,nodup_append→AP,range→AR,flatMap_cons→AT,range'_succ→AU,mem_flatMap→AW,mem_of_getElem?→AZ,cons_append→Aa,set_getElem_self→Ac,mem_or_eq_of_mem_set→Ad,map_cons→Ae,map_nil→Af,map_map→Ah,length_cons→Aj,mem_filterMap→Ak,getElem_mem→Am,range_eq_range'→Aq
open List.cons renaming injEq→AI
open Nat renaming le_refl→A7,le_of_ble_eq_true→AC,le_trans→AX,lt_of_lt_of_le→Ag
open Option renaming map_eq_some_iff→A3,bind_eq_some_iff→A5,map_none→AF,map_some→AG,bind_some→AK,getD_some→Al
open Option.some renaming injEq→A0
open Prod.mk renaming injEq→A6
set_option linter.unusedSimpArgs false
set_option linter.unusedVariables false
set_option maxRecDepth 1000000
set_option maxHeartbeats 4000000
namespace Go.Proofs.YtlpkbfjcdaanmaaGreatDoor
section
open Go.RowKit
section
variable {P:Program} {W:ZaK} {U:Nat->Prop} {key:Nat} {st:St} {g:Gh} {w w':World} {a:Act} {tt:Nat->Option TI}
theorem Zfx:∀(ts:List TypeId) (xs:List Operand),(ZjB ts xs).map (·.2)=xs
 |_,[]=>by cases ‹List TypeId›<;>rfl
 | [],x::xs=>by simp [ZjB,Zfx [] xs]
 |t::ts,x::xs=>by simp [ZjB,Zfx ts xs]
theorem Zv4 [NW] (htt:∀t i,tt t=some i->TOk P t i) {t:Nat}{z:List AV}(h:Zns (tt t)=some z):∃zv vs,(zeroValue t).run P w=.ok zv w/\zv.cells=(vs:List Value).toArray/\ZM (AVR g w) z vs/\QW U z:=by
 unfold Zns at h;split at h<;>simp only[A0,reduceCtorEq]at h<;>subst h<;>rename_i a
 .obtain ⟨d,zv,i,h1,h2,h3,h4,h5,h6⟩:=htt t _ a;have hr:AVR g w _ zv:=ZfU h6;exact ⟨zv,[zv],Zko h3 h4,by rw [ZpZ hr.one],⟨hr,trivial⟩,fun y m=>by
   simp at m;subst m;cases y<;>first|trivial|simp [ZaM]at h6⟩
 .obtain ⟨fields,i,zvs,h1,h2,h3,h4,h5,_⟩:=htt t _ a;obtain ⟨q1,q2⟩:=Zi5 (g:=g) (w:=w) (U:=U) h5;exact ⟨.agg zvs,zvs.toList,Zko h2 h4,by simp [Value.cells],q1,q2⟩
 .obtain ⟨_,hm,_,_,j,h1,h2,h3⟩:=htt t _ a;exact ⟨_,[.slice none 0 0],Zko h1 h3,rfl,⟨rfl,trivial⟩,fun y m=>by simp at m;subst m;trivial⟩
theorem ZpA [NW] (htt:∀t i,tt t=some i->TOk P t i) (o:Oper) {r:SV×List (Nat×Ob)}(hr:opE tt key o st=some r) (hI:HI W g st.ob w) (hS:∀t,SVR g w (st.sl t) (a.tmps.getD t undef)) (hU:StU U st) (A:¬U key):
  Fin P W U key st g w (execOp a.eval o) r:=by
 have ev:=fun t x=>Zlm (P:=P) (a:=a) (g:=g) (w:=w) (U:=U) htt hS hU t x;have j:∀{v:Option SV} {s:Sem Value},Zbo v=some r->execOp a.eval o=(do pure (.value (<-s)))->(∀u,v=some u->∃cv,s.run P w=.ok cv w/\SVR g w u cv/\svU U u)->Fin P W U key st g w (execOp a.eval o) r:=fun {v s} hp he hv=>by
  obtain ⟨u,hu,rfl⟩:=A3.1 hp;obtain ⟨cv,c1,c2,c3⟩:=hv u hu;exact ZaW hI hU (by rw [he];simp only[Sem.run_bind,c1,Result.andThen_ok,Sem.run_pure]) c2 c3
 obtain ⟨dst,op,ty,pos,af,gd⟩:=o;cases op with
 |move x=>
  simp only[opE,A0]at hr;subst hr;exact ZaW hI hU rfl (ev ty x).1 (ev ty x).2
 |assign x=>
  simp only[opE,A0]at hr;subst hr;exact ZaW hI hU rfl (ev ty x).1 (ev ty x).2
 |pick c x y=>
  simp only[opE]at hr;split at hr
  .rename_i b hb;simp only[A0]at hr;subst hr;have hc:=(ev 0 c).1;rw [hb]at hc;obtain ⟨cv,c1,c2,c3⟩:=Zze (P:=P) hc (ev ty x) (ev ty y);exact ZaW hI hU c1 c2 c3
  .simp at hr
 |alloc t=>
  simp only[opE]at hr;obtain ⟨z,hz,rfl⟩:=A3.1 hr;obtain ⟨zv,vs,h1,h2,h3,h4⟩:=Zv4 (P:=P) (g:=g) (w:=w) (U:=U) htt hz;exact Zxt hI hU A h3 h4 (by simp [execOp,Instr.alloc,h1,newVar,newRow,h2])
 |box t x=>
  simp only[opE]at hr;split at hr
  .rename_i ag cs hx;simp only[A0]at hr;subst hr;have hv:=ev t x;rw [hx]at hv;obtain ⟨vs,h2,h3⟩:=PVR.cells hv.1;exact Zxt hI hU A h3 hv.2 (by simp [execOp,Instr.box,newVar,newRow,h2])
  .simp at hr
 |build t G=>
  simp only[opE]at hr;split at hr
  .rename_i fs n z B;obtain ⟨cs,K,rfl⟩:=A3.1 hr;obtain ⟨cv,c1,c2,c3⟩:=ZxN (P:=P) htt hS hU B K;exact ZaW hI hU (by simp only[execOp,Sem.run_bind,c1,Result.andThen_ok,Sem.run_pure]) c2 c3
  .simp at hr
 |buildSlice t len G=>
  simp only[opE]at hr;split at hr
  .rename_i e m E z B;obtain ⟨⟨xs,ks,d⟩,h1,hr⟩:=A5.1 hr;split at hr
   .rename_i hc;simp only[A0]at hr;subst hr;exact ZAc htt hI hS hU A B h1 hc.1 hc.2.1 hc.2.2.1 rfl
   .simp at hr
  .simp at hr
 |load t x=>exact j hr rfl fun u hu=>Zu6 htt hI hU hu (ev 0 x).1
 |store t x v=>
  simp only[opE]at hr;obtain ⟨u,hu,rfl⟩:=A3.1 hr;have hx:=ev 0 x;have hv:=ev t v;unfold Zng at hu;split at hu
  .rename_i k off ag vs C p;rw [C]at hx;rw [p]at hv;split at hu
   .rename_i tb cs hk;split at hu
    .rename_i hc;simp only[A0]at hu;subst hu;exact Zwv htt hI hU hk hc.1 hc.2.2 hx.1 hv.1 hv.2 hc.2.1 rfl
    .simp at hu
   .simp at hu
  .rename_i k m i off ag vs C p;rw [C]at hx;rw [p]at hv;split at hu
   .rename_i e m' xs d hk;obtain ⟨y,hy,hu⟩:=A5.1 hu;obtain ⟨ys,L,hu⟩:=A5.1 hu;split at hu
    .rename_i hc;simp only[A0]at hu;subst hu;obtain ⟨rfl,M,N,O,hc4⟩:=hc;exact Zw2 htt hI hU hk yE hy L M O hx.1 hv.1 N rfl
    .simp at hu
   .simp at hu
  .simp at hu
 |nilCheck x=>
  simp only[opE]at hr;have hx:=ev 0 x;split at hr<;>simp only[A0,reduceCtorEq]at hr<;>subst hr<;>rename_i he<;>rw [he]at hx
  .obtain ⟨b,_,hv⟩:=hx.1;exact ZaW hI hU (cv:=a.eval x) (by simp [execOp,hv]) hx.1 hx.2
  .obtain ⟨b,_,_,_,hv⟩:=hx.1;exact ZaW hI hU (cv:=a.eval x) (by simp [execOp,hv]) hx.1 hx.2
  .obtain ⟨b,_,_,_,hv,_⟩:=hx.1;exact ZaW hI hU (cv:=a.eval x) (by simp [execOp,hv]) hx.1 hx.2
  .obtain ⟨b,_,_,hv,_⟩:=Zu3 hx.1;exact ZaW hI hU (cv:=a.eval x) (by simp [execOp,hv]) hx.1 hx.2
 |binOp op t x y t'=>exact j hr rfl fun u hu=>ZyV htt hu (ev t x).1 (ev t y).1
 |unOp op t x=>exact j hr rfl fun u hu=>ZE3 hu (ev 0 x).1
 |convert s t x=>exact j hr rfl fun u hu=>Zwr htt hI hu (ev 0 x).1
 |makeSlice t n c=>
  simp only[opE]at hr;have hn:=(ev 0 n).1;have hc:=(ev 0 c).1;unfold Zso at hr;split at hr
  .rename_i n' c' C p;rw [C]at hn;rw [p]at hc;split at hr
   .rename_i e m E z B;obtain ⟨ze,hz,hr⟩:=A5.1 hr;split at hr
    .rename_i hq;simp only[A0]at hr;subst hr;obtain ⟨h0,rfl,h1⟩:=hq;have e1:=ZbZ hn;have e2:=ZbZ hc;obtain ⟨n'',rfl⟩:=Int.eq_ofNat_of_zero_le h0;simp only[Int.toNat_natCast];exact ZyG htt hI hU A B hz yE (by simp only[execOp,e1,e2])
    .simp at hr
   .simp at hr
  .simp at hr
 |slice t x lo hi mx=>
  cases mx with
  |some _=>simp [opE]at hr
  |none=>
   refine Zvd (vlo:=lo.map a.eval) (vhi:=hi.map a.eval) htt hI hU A hr (ev 0 x).1 ?_ ?_ rfl
   .cases lo with
    |none=>trivial
    |some y=>exact (ev 0 y).1
   .cases hi with
    |none=>trivial
    |some y=>exact (ev 0 y).1
 |fieldAddr t x f=>
  simp only[opE]at hr;split at hr
  .rename_i fs n z B;refine j hr rfl fun u hu=>?_;obtain ⟨fi,hf,hu⟩:=A5.1 hu;exact ZCv htt B hf hu (ev 0 x).1 (ev 0 x).2
  .simp at hr
 |field t x f=>
  simp only[opE]at hr;split at hr
  .rename_i fs n z B;exact j hr rfl fun u hu=>ZzX htt B hu (ev 0 x).1 (ev 0 x).2
  .simp at hr
 |indexAddr t x i=>
  simp only[opE]at hr;split at hr
  .rename_i e m E z B;exact j hr rfl fun u hu=>ZC1 htt hI hU B hu (ev 0 x).1 (ev 0 x).2 (ev 0 i).1
  .simp at hr
 |index t x i=>exact j hr rfl fun u hu=>Zzt htt hu (ev 0 x).1 (ev 0 i).1
 |makeFunc fn first D=>
  cases fn with
  |func f=>
   simp only[opE]at hr;split at hr
   .rename_i h0;obtain ⟨q,hq,hr⟩:=A5.1 hr;split at hr
    .rename_i hn;simp only[A0]at hr;subst hr;have hf:first=#[]:=by simpa using h0
     have I:ZM (SVR g w) (D.toList.map (st.ev tt 0)) (D.toList.map a.eval):=ZM.of_map _ _ fun x _=>(ev 0 x).1;refine ZzL hI hU hq hn I ?_;have e1:(D.toList.map a.eval).toArray=D.map a.eval:=by apply AS;simp
     rw [e1];simp [execOp,Instr.makeFunc,hf]
    .simp at hr
   .simp at hr
  |_=>simp [opE]at hr
 |makeMap t Q=>
  cases Q with
  |none=>
   simp only[opE]at hr;exact ZEk htt hI hU A hr rfl
  |some _=>simp [opE]at hr
 |lookup t x i ok=>exact j hr rfl fun u hu=>ZyR htt hI hu (ev 0 x).1 (ev 0 i).1
 |mapUpdate t x i v=>
  simp only[opE]at hr;obtain ⟨u,hu,rfl⟩:=A3.1 hr;exact ZAG htt hI hU hu (ev 0 x).1 (ev 0 i).1 (ev 0 v).1 rfl
 |extract x i=>exact j hr rfl fun u hu=>ZBc hu (ev 0 x).1 (ev 0 x).2
 |call c=>
  obtain ⟨F,args,ts⟩:=c;cases F with
  |builtin b=>
   simp only[opE]at hr;have J:∀l:List TypeId,ts.toList=l->ts=l.toArray:=fun l h=>by rw [<-h]
   have one:∀v,evs tt st ts.toList args.toList=[v]->∃x,args=#[x]/\SVR g w v (a.eval x)/\svU U v:=fun v h=>by
    obtain ⟨args⟩:=args;generalize ts.toList=l at h
    cases args with
    |nil=>cases l<;>simp [evs,ZjB]at h
    |cons x xs=>
     cases xs with
     |nil=>
      refine ⟨x,rfl,?_⟩;cases l with
      |nil=>simp only[evs,ZjB,Ae,Af,AI,and_true]at h;rw [<-h];exact ev _ _
      |cons t l=>cases l<;>(simp only[evs,ZjB,Ae,Af,AI,and_true]at h;rw [<-h];exact ev _ _)
     |cons y ys=>cases l with
      |nil=>simp [evs,ZjB]at h
      |cons t l=>cases l<;>simp [evs,ZjB]at h
   have H:∀v u,evs tt st ts.toList args.toList=[v,u]->∃x y,args=#[x,y]/\(SVR g w v (a.eval x)/\svU U v)/\SVR g w u (a.eval y)/\svU U u:=fun v u h=>by
    obtain ⟨args⟩:=args;have h2:=congrArg List.length h;have h3:(evs tt st ts.toList args).length=args.length:=by
     have:=congrArg List.length (Zfx ts.toList args);simpa [evs]using this
    have h4:args.length=2:=by rw [<-h3];exact h2
    obtain ⟨x,y,rfl⟩:∃x y,args=[x,y]:=by
     match args,h4 with
     | [x,y],_=>exact ⟨x,y,rfl⟩
    refine ⟨x,y,rfl,?_⟩;have h5:∃t1 t2,evs tt st ts.toList [x,y]=[st.ev tt t1 x,st.ev tt t2 y]:=by
     generalize ts.toList=l
     cases l with
     |nil=>exact ⟨0,0,rfl⟩
     |cons t1 l=>cases l with
      |nil=>exact ⟨t1,0,rfl⟩
      |cons t2 l=>exact ⟨t1,t2,by cases l<;>rfl⟩
    obtain ⟨t1,t2,h5⟩:=h5;rw [h5]at h;simp only[AI,and_true]at h;rw [<-h.1,<-h.2];exact ⟨ev _ _,ev _ _⟩
   unfold Zf7 at hr;split at hr
   .rename_i t _ v C p;have e1:=J _ C;obtain ⟨x,rfl,hx,_⟩:=one _ p;exact j (s:=Builtin.len_ ts ty #[a.eval x]) hr (by simp [execOp,resolve,invoke,builtin]) fun u hu=>ZC0 htt hI (by simp [e1]) hu hx
   .rename_i t u v1 v2 C p;have e1:=J _ C;obtain ⟨x,y,rfl,hx,hy⟩:=H _ _ p;split at hr
    .rename_i he;subst he;exact ZzT htt hI hU A hr hx hy (ty:=ty) (by simp [execOp,resolve,invoke,builtin,e1])
    .simp at hr
   .rename_i v1 v2 p;obtain ⟨x,y,rfl,hx,hy⟩:=H _ _ p;refine j (s:=Builtin.max_ ts ty #[a.eval x,a.eval y]) hr (by simp [execOp,resolve,invoke,builtin]) fun u hu=>?_;have:=ZxK (P:=P) (U:=U) (ts:=ts) (ty:=ty) hu hx.1 hy.1;simpa using this
   .rename_i v1 v2 p;obtain ⟨x,y,rfl,hx,hy⟩:=H _ _ p;refine j (s:=Builtin.min_ ts ty #[a.eval x,a.eval y]) hr (by simp [execOp,resolve,invoke,builtin]) fun u hu=>?_;have:=ZxK (P:=P) (U:=U) (ts:=ts) (ty:=ty) hu hx.1 hy.1;simpa using this
   .simp at hr
  |value f=>simp [opE]at hr
  |invoke r m=>simp [opE]at hr
 |_=>simp [opE]at hr
end
end
section
open Go.RowKit
theorem Zev {α β:Type}{f h:α->List β}:∀{l:List α},(∀x∈l,f x=h x)->l.flatMap f=l.flatMap h
 | [],_=>rfl
 |x::l,hh=>by rw [AT,AT,hh x yG,Zev fun y m=>hh y (by simp [m])]
def ZnX (w:World) (z:Nat->Prop) (x:Bool×List CT) (v:Value):Prop:=
 (x.1=true/\∃(vs:List Value) (L:List Nat),v=.agg vs.toArray/\RCs w x.2 vs L/\∀b∈L,¬z b)\/(x.1=false/\∃(ct:CT) (L:List Nat),x.2=[ct]/\RC w ct v L/\∀b∈L,¬z b)
def OC (w:World) (B:Nat) (n:Nat->Prop):Bool×CT->Value->List Nat->Prop
 |(false,.sl e m xs),v,F=>0<m/\∃cs L,w.ownsV B e m v xs.length cs/\REs w m xs cs L/\F=v.ownBlock.toList++L/\∀b∈v.ownBlock.toList,n b
 |(false,.int k i),v,F=>RC w (.int k i) v []/\F=[]
 |(false,.bool b),v,F=>RC w (.bool b) v []/\F=[]
 |(false,.str s),v,F=>RC w (.str s) v []/\F=[]
 |(false,.ifc b),v,F=>RC w (.ifc b) v []/\F=[]
 |(false,.any),v,F=>RC w .any v []/\F=[]
 |(false,.pt _),_,_=>False
 |(false,.fn _ _),_,_=>False
 |(false,.mp _ _ _),_,_=>False
 |(false,.nl _ _),_,_=>False
 |(true,x),v,F=>F=[]/\∃L,RC w x v L/\∀b∈L,¬n b
def OCs (w:World) (B:Nat) (n:Nat->Prop):List (Bool×CT)->List Value->List Nat->Prop
 | [],vs,F=>vs=[]/\F=[]
 |x::r,vs,F=>∃v vs' F1 F2,vs=v::vs'/\F=F1++F2/\OC w B n x v F1/\OCs w B n r vs' F2
def OP (w:World) (B:Nat) (n:Nat->Prop) (x:RT) (v:Value) (F:List Nat):Prop:=
 (x.1=true/\∃vs:List Value,v=.agg vs.toArray/\OCs w B n x.2 vs F)\/(x.1=false/\∃ct,x.2=[ct]/\OC w B n ct v F)
def OPs (w:World) (B:Nat) (n:Nat->Prop):List RT->List Value->List Nat->Prop
 | [],vs,F=>vs=[]/\F=[]
 |x::r,vs,F=>∃v vs' F1 F2,vs=v::vs'/\F=F1++F2/\OP w B n x v F1/\OPs w B n r vs' F2
def ZkF (w:World) (B:Nat) (n:Nat->Prop) (res:List RT) (v:Value):Prop:=
 ∃(vs:List Value) (F:List Nat),OPs w B n res vs F/\Own w B F/\v=(if h:vs.toArray.size=1 then vs.toArray[0] else .tuple vs.toArray)
def Zez (P:Program) (f:FuncId):Prop:=∃ fn, P.funcs[f]?=some fn ∧ (fn.name == "runtime.NumGoroutine")=false ∧ fn.body.isNone=false
def Sound (P:Program) (J:World->Prop) (f:FuncId) (args:List (Bool×List CT)) (res:List RT):Prop:=
 Zez P f/\∀(w:World) (z:Nat->Prop) (vs:List Value),J w->(∀b,z b->b<w.heap.size)->ZM (ZnX w z) args vs->Calls P f vs.toArray w fun e w'=>∃v n,e=.returned v/\ZkF w' w.heap.size n res v/\(∀b,z b->n b)/\Below w.heap.size w w'
def ZuY (w:World) (z:Nat->Prop) (q:Option Nat):Zme->Value->Prop
 |.row e m xs,v=>ZaN xs=true/\0<m/\v.ownBlock=q/\∃cs,w.ownsV 0 e m v xs.length cs/\REs w m xs cs []
 |.box t cs,v=>∃b vs L,q=some b/\v=.pointer (some ⟨b,0,none⟩)/\w.heap[b]?=some (.cells (vs:List Value).toArray t (0,0))/\RCs w cs vs L/\∀a∈L,¬z a
def inQ (z:Nat->Prop) (q:Option Nat) (a:Nat):Prop:=z a\/q=some a
structure ZF7 (q:Option Nat) (w w':World):Prop where
 os:w'.os=w.os
 tape:w'.tape=w.tape
 output:w'.output=w.output
 size:w.heap.size<=w'.heap.size
 block:∀k,k<w.heap.size->¬q=some k->w'.heap[k]?=w.heap[k]?
def Zkx (P:Program) (J:World->Prop) (JF:Nat->Prop) (f:FuncId) (h:Zme) (args:List (Bool×List CT)) (res:List RT) (h':Zme):Prop:=
 Zez P f/\∀(w:World) (z:Nat->Prop) (q:Option Nat) (a:Value) (vs:List Value),J w->(∀b,q=some b->JF b)->(∀b,z b->b<w.heap.size/\¬q=some b)->ZuY w (inQ z q) q h a->ZM (ZnX w (inQ z q)) args vs->
  Calls P f (a::vs).toArray w fun e w'=>∃v n,e=.returned v/\ZkF w' w.heap.size n res v/\(∀b,inQ z q b->n b)/\ZuY w' n q h' a/\ZF7 q w w'
def ZpM (b:Nat):NB->Value
 |.box _ _=>.pointer (some ⟨b,0,none⟩)
 |.map _ _ _=>.map (some b)
def nbR (w:World) (n:Nat->Prop) (b:Nat):NB->Prop
 |.box t cs=>∃us L,w.heap[b]?=some (.cells (us:List Value).toArray t (0,0))/\RCs w cs us L/\∀x∈L,¬n x
 |.map kk vk kv=>∃es c,w.heap[b]?=some (.map es c)/\ZdP es=kv/\Zjp kk vk kv
def ZqL (P:Program) (J:World->Prop) (f:FuncId) (args:List (Bool×List CT)) (nb:NB):Prop:=
 Zez P f/\∀(w:World) (z:Nat->Prop) (vs:List Value),J w->(∀b,z b->b<w.heap.size)->ZM (ZnX w z) args vs->
  Calls P f vs.toArray w fun e w'=>∃(b:Nat) (n:Nat->Prop),e=.returned (ZpM b nb)/\w.heap.size<=b/\nbR w' n b nb/\n b/\(∀x,z x->n x)/\Below w.heap.size w w'
def SC (P:Program) (J:World->Prop) (JF:Nat->Prop) (hd:FuncId->Nat):Ctx:=⟨Sound P J,Zkx P J JF,hd,ZqL P J⟩
structure MOk (P:Program) (J:World->Prop) (JF:Nat->Prop) (W:ZaK) (tt:Nat->Option TI):Prop where
 tt:∀t i,tt t=some i->TOk P t i
 jb:∀w:World,Bel W w->J w
 jf:∀b,W.heap.size<=b->JF b
 xf:∀b,W.x b->JF b
section
variable {P:Program} {J:World->Prop} {W:ZaK} {U:Nat->Prop} {key:Nat} {st:St} {g:Gh} {w w':World} {a:Act} {tt:Nat->Option TI}
theorem MOk.at {JF:Nat->Prop}(h:MOk P J JF W tt) (hb:Bel W w):J w:=h.jb _ hb
def Zxe (ob:Nat->Ob):AV->Prop
 |.row k=>∃e m xs,ob k=.row e m xs 0
 |_=>True
theorem ZrS [NW] (hI:HI W g st.ob w) {x:AV}{ct:CT}{v:Value}(h:Zb9 st x=some ct) (hx:AVR g w x v):∃L,RC w ct v L/\(Zxe st.ob x->∀b∈L,¬g.own b):=by
 cases x with
 |c y=>simp only[Zb9,A0]at h;subst h;obtain ⟨L,h1,h2⟩:=hx;exact ⟨L,h1,fun _=>h2⟩
 |row k=>
  simp only[Zb9]at h;split at h
  .rename_i e m xs d hk;simp only[A0]at h;subst h;obtain ⟨hm,cs,L1,o1,o2,o3,o5⟩:=hI.deep hk;obtain ⟨A,cap,L0,s1,s2,s3,s4,s5⟩:=Sl.row o1;refine ⟨L0++L1,⟨A,cap,cs,L0,L1,by rw [hx.1,s1],s2,s3,rfl,hm,s4,o2⟩,?_⟩;rintro ⟨e',m',xs',h0⟩ b mb;rw [hk]at h0;have hd:d=0:=by simp at h0;exact h0.2.2.2
   rcases A8.1 mb with m1|m1
   .rcases o5 with ⟨q,_⟩|⟨q,_⟩|⟨_,_,_,q⟩
    .omega
    .omega
    .exact q b (s5.subset m1)
   .exact o3 b m1
  .simp at h
 |nil e m=>
  simp only[Zb9]at h;split at h
  .rename_i hm;simp only[A0]at h;subst h;exact ⟨[],⟨none,0,[],[],[],hx,yG,Nat.zero_le _,rfl,hm,Sl.zero,rfl,rfl⟩,yG⟩
  .simp at h
 |n y=>simp only[Zb9,A0]at h;subst h;obtain ⟨L,h1,h2⟩:=NR.toC hx;exact ⟨L,h1,fun _=>h2⟩
 |dead=>simp [Zb9]at h
theorem Zh1 [NW] (hI:HI W g st.ob w):∀{xs:List AV}{cts:List CT}{vs:List Value},Y0 st xs=some cts->ZM (AVR g w) xs vs->∃L,RCs w cts vs L/\((∀x∈xs,Zxe st.ob x)->∀b∈L,¬g.own b)
 | [],_,[],h,_=>by simp [Y0]at h;subst h;exact ⟨[],⟨rfl,rfl⟩,yG⟩
 | [],_,_::_,_,h=>h.elim
 |_::_,_,[],_,h=>h.elim
 |x::r,cts,v::vs,h,hr=>by
  simp only[Y0]at h;obtain ⟨c1,h1,h⟩:=A5.1 h;obtain ⟨c2,h2,rfl⟩:=A3.1 h;obtain ⟨L1,a1,b1⟩:=ZrS hI h1 hr.1;obtain ⟨L2,a2,b2⟩:=Zh1 hI h2 hr.2;refine ⟨L1++L2,⟨v,vs,L1,L2,rfl,rfl,a1,a2⟩,fun ho b mb=>?_⟩;rcases A8.1 mb with m|m
  .exact b1 (ho x yG) b m
  .exact b2 (fun y my=>ho y (by simp [my])) b m
def ZvA (ob:Nat->Ob):SV->Prop
 |.p _ cs=>∀x∈cs,Zxe ob x
 |_=>True
theorem ZwR [NW] (hI:HI W g st.ob w) {x:SV}{r:Bool×List CT}{v:Value}(h:Zdh st x=some r) (hx:SVR g w x v) {z:Nat->Prop}(hz:(∀b,¬z b)\/(ZvA st.ob x/\∀b,z b->g.own b)):ZnX w z r v:=by
 cases x with
 |p ag cs=>
  simp only[Zdh]at h;obtain ⟨l,hl,rfl⟩:=A3.1 h;have av:∀{L:List Nat},((∀x∈cs,Zxe st.ob x)->∀b∈L,¬g.own b)->∀b∈L,¬z b:=fun hL b mb=>by
   rcases hz with hz|⟨h1,h2⟩
   .exact hz b
   .exact fun hb=>hL h1 b mb (h2 b hb)
  cases ag with
  |true=>
   obtain ⟨vs,rfl,h2⟩:=hx;obtain ⟨L,hL,a⟩:=Zh1 hI hl h2;exact .inl ⟨rfl,vs,L,rfl,hL,av a⟩
  |false=>
   obtain ⟨y,rfl,h2⟩:=hx;simp only[Y0]at hl;obtain ⟨c1,h1,hl⟩:=A5.1 hl;simp at hl;subst hl;obtain ⟨L1,a1,b1⟩:=ZrS hI h1 h2;exact .inr ⟨rfl,c1,L1,rfl,a1,av fun ho=>b1 (ho y yG)⟩
 |_=>simp [Zdh]at h
theorem ZdC [NW] (hI:HI W g st.ob w) {z:Nat->Prop}:∀{xs:List SV}{l:List (Bool×List CT)}{vs:List Value},Z1 st xs=some l->ZM (SVR g w) xs vs->((∀b,¬z b)\/((∀x∈xs,ZvA st.ob x)/\∀b,z b->g.own b))->ZM (ZnX w z) l vs
 | [],_,[],h,_,_=>by simp [Z1]at h;subst h;trivial
 | [],_,_::_,_,h,_=>h.elim
 |_::_,_,[],_,h,_=>h.elim
 |x::r,l,v::vs,h,hr,hz=>by
  simp only[Z1]at h;obtain ⟨c1,h1,h⟩:=A5.1 h;obtain ⟨c2,h2,rfl⟩:=A3.1 h;exact ⟨ZwR hI h1 hr.1 (hz.imp id fun q=>⟨q.1 x yG,q.2⟩),ZdC hI h2 hr.2 (hz.imp id fun q=>⟨fun y my=>q.1 y (by simp [my]),q.2⟩)⟩
theorem Zy9 {vs:List SV}{ob:Nat->Ob}(h:vs.all Zia=true):∀x∈vs,ZvA ob x:=fun x mx=>by
 have hx:=AD.1 h x mx;cases x with
 |p ag cs=>
  intro y my;have hy:=AD.1 hx y my;cases y with
  |row k=>simp [ZbX]at hy
  |_=>trivial
 |_=>trivial
def CR (val:Nat->Value) (w:World) (n:Nat->Prop) (l:Bool) (lo hi:Nat):AV->Value->Prop
 |.row k,v=>lo<=k/\k<hi/\v=val k/\v.oneCell'=true
 |.c x,v=>∃L,RC w x v L/\∀b∈L,l=true/\¬n b
 |_,_=>False
structure ZrX (w:World) (B lo hi:Nat) (n:Nat->Prop) (up:List (Nat×Ob)) (F:List Nat) (val:Nat->Value) (O D:Nat->List Nat):Prop where
 le:lo<=hi
 at_:∀k,lo<=k->k<hi->∃e m xs cs,(∀ob,Zn ob up k=.row e m xs 2)/\0<m/\w.ownsV B e m (val k) xs.length cs/\REs w m xs cs (D k)/\O k=(val k).ownBlock.toList/\∀b∈O k,n b
 out:∀k,¬(lo<=k/\k<hi)->∀ob,Zn ob up k=ob k
 foot:F=(AJ lo (hi-lo)).flatMap fun k=>O k++D k
theorem ZrX.join [NW] {B lo c hi:Nat}{n:Nat->Prop}{u1 u2:List (Nat×Ob)}{F1 F2:List Nat}{v1 v2:Nat->Value}{O1 O2 D1 D2:Nat->List Nat}(h1:ZrX w B lo c n u1 F1 v1 O1 D1) (h2:ZrX w B c hi n u2 F2 v2 O2 D2):
  ZrX w B lo hi n (u1++u2) (F1++F2) (fun k=>if k<c then v1 k else v2 k) (fun k=>if k<c then O1 k else O2 k) (fun k=>if k<c then D1 k else D2 k):=by
 have hl:=h1.le;have hr:=h2.le;refine ⟨yE,fun k a b=>?_,fun k hk ob=>?_,?_⟩
 .by_cases hk:k<c
  .obtain ⟨e,m,xs,cs,p1,p2⟩:=h1.at_ k a hk;simp only[hk,if_true];exact ⟨e,m,xs,cs,fun ob=>by rw [Xa,h2.out k yE];exact p1 ob,p2⟩
  .obtain ⟨e,m,xs,cs,p1,p2⟩:=h2.at_ k yE b;simp only[hk,if_false];exact ⟨e,m,xs,cs,fun ob=>by rw [Xa];exact p1 _,p2⟩
 .rw [Xa,h2.out k yE,h1.out k yE]
 .rw [h1.foot,h2.foot,show hi-lo=(c-lo)+(hi-c) by omega,<-List.range'_append_1,List.flatMap_append,show lo+(c-lo)=c by omega];congr 1
  .refine Zev fun k hk=>?_;have:=(AO.1 hk).2;simp [show k<c by omega]
  .refine Zev fun k hk=>?_;have:=(AO.1 hk).1;simp [show ¬k<c by omega]
theorem CR.mono {f e:Nat->Value}{n:Nat->Prop}{l:Bool}{lo hi g i:Nat}{x:AV}{v:Value}(h:CR f w n l lo hi x v) (hl:g<=lo) (hh:hi<=i) (hv:∀k,lo<=k->k<hi->e k=f k):CR e w n l g i x v:=by
 cases x with
 |row k=>obtain ⟨a,b,c,d⟩:=h;exact ⟨yE,yE,by rw [hv k a b];exact c,d⟩
 |c x=>exact h
 |n _=>exact h.elim
 |nil _ _=>exact h.elim
 |dead=>exact h.elim
theorem ZaG [NW] {B:Nat}{n:Nat->Prop}{l:Bool}:∀{cts:List (Bool×CT)}{vs:List Value}{F:List Nat}(key:Nat),OCs w B n cts vs F->(Zcr cts=true->l=true)->∃c O D,ZrX w B key (Ya key cts).2.2 n (Ya key cts).2.1 F c O D/\ZM (CR c w n l key (Ya key cts).2.2) (Ya key cts).1 vs
 | [],vs,F,key,h,_=>by
  obtain ⟨rfl,rfl⟩:=h;exact ⟨fun _=>undef,fun _=>[],fun _=>[],⟨A7 _,fun k a b=>by simp [Ya]at b;omega,fun _ _ _=>rfl,by simp [Ya]⟩,trivial⟩
 |(true,x)::r,_,_,key,⟨v,vs,F1,F2,rfl,rfl,h1,h2⟩,hl=>by
  obtain ⟨rfl,L,h3,h4⟩:=h1;obtain ⟨c,O,D,hb,hr⟩:=ZaG (l:=l) key h2 fun e=>hl (by simp [Zcr]);exact ⟨c,O,D,by simpa [Ya]using hb,⟨⟨L,h3,fun b mb=>⟨hl (by simp [Zcr]),h4 b mb⟩⟩,hr⟩⟩
 |(false,.sl e m xs)::r,_,_,key,⟨v,vs,F1,F2,rfl,rfl,h1,h2⟩,hl=>by
  obtain ⟨hm,cs,L,o1,o2,rfl,o3⟩:=h1;obtain ⟨c,O,D,hb,hr⟩:=ZaG (l:=l) (key+1) h2 fun e=>hl (by simpa [Zcr]using e);have d:ZrX w B key (key+1) n [(key,.row e m xs 2)] (v.ownBlock.toList++L) (fun _=>v) (fun _=>v.ownBlock.toList) (fun _=>L):=
   ⟨yE,fun k a b=>⟨e,m,xs,cs,fun ob=>by simp [Zn,upd,show k=key by omega],hm,o1,o2,rfl,o3⟩,fun k hk ob=>by simp [Zn,upd,show ¬k=key by omega],yG⟩
  refine ⟨_,_,_,d.join hb,⟨?_,hr.mono fun x u _ hx=>hx.mono yE (A7 _) fun k a b=>by simp [show ¬k<key+1 by omega]⟩⟩;have hle:=hb.le;obtain ⟨A,cap,hv⟩:=Zdl o1;exact ⟨A7 _,by simp only[Ya];omega,yG,by simp [hv,Value.oneCell']⟩
 |(false,.int k i)::r,_,_,key,⟨v,vs,F1,F2,rfl,rfl,h1,h2⟩,hl=>by
  obtain ⟨h1,rfl⟩:=h1;obtain ⟨c,O,D,hb,hr⟩:=ZaG (l:=l) key h2 fun e=>hl (by simpa [Zcr]using e);exact ⟨c,O,D,by simpa [Ya]using hb,⟨⟨[],h1,yG⟩,hr⟩⟩
 |(false,.bool k)::r,_,_,key,⟨v,vs,F1,F2,rfl,rfl,h1,h2⟩,hl=>by
  obtain ⟨h1,rfl⟩:=h1;obtain ⟨c,O,D,hb,hr⟩:=ZaG (l:=l) key h2 fun e=>hl (by simpa [Zcr]using e);exact ⟨c,O,D,by simpa [Ya]using hb,⟨⟨[],h1,yG⟩,hr⟩⟩
 |(false,.str s)::r,_,_,key,⟨v,vs,F1,F2,rfl,rfl,h1,h2⟩,hl=>by
  obtain ⟨h1,rfl⟩:=h1;obtain ⟨c,O,D,hb,hr⟩:=ZaG (l:=l) key h2 fun e=>hl (by simpa [Zcr]using e);exact ⟨c,O,D,by simpa [Ya]using hb,⟨⟨[],h1,yG⟩,hr⟩⟩
 |(false,.ifc s)::r,_,_,key,⟨v,vs,F1,F2,rfl,rfl,h1,h2⟩,hl=>by
  obtain ⟨h1,rfl⟩:=h1;obtain ⟨c,O,D,hb,hr⟩:=ZaG (l:=l) key h2 fun e=>hl (by simpa [Zcr]using e);exact ⟨c,O,D,by simpa [Ya]using hb,⟨⟨[],h1,yG⟩,hr⟩⟩
 |(false,.any)::r,_,_,key,⟨v,vs,F1,F2,rfl,rfl,h1,h2⟩,hl=>by
  obtain ⟨h1,rfl⟩:=h1;obtain ⟨c,O,D,hb,hr⟩:=ZaG (l:=l) key h2 fun e=>hl (by simpa [Zcr]using e);exact ⟨c,O,D,by simpa [Ya]using hb,⟨⟨[],h1,yG⟩,hr⟩⟩
 |(false,.pt _)::r,_,_,key,⟨v,vs,F1,F2,rfl,rfl,h1,h2⟩,hl=>h1.elim
 |(false,.fn _ _)::r,_,_,key,⟨v,vs,F1,F2,rfl,rfl,h1,h2⟩,hl=>h1.elim
 |(false,.mp _ _ _)::r,_,_,key,⟨v,vs,F1,F2,rfl,rfl,h1,h2⟩,hl=>h1.elim
 |(false,.nl _ _)::r,_,_,key,⟨v,vs,F1,F2,rfl,rfl,h1,h2⟩,hl=>h1.elim
def PR (val:Nat->Value) (w:World) (n:Nat->Prop) (l:Bool) (lo hi:Nat) (x:Bool×List AV) (v:Value):Prop:=
 (x.1=true/\∃vs:List Value,v=.agg vs.toArray/\ZM (CR val w n l lo hi) x.2 vs)\/(x.1=false/\∃y,x.2=[y]/\CR val w n l lo hi y v)
theorem PR.mono [NW] {d c:Nat->Value}{n:Nat->Prop}{l:Bool}{lo hi e f:Nat}{x:Bool×List AV}{v:Value}(h:PR d w n l lo hi x v) (hl:e<=lo) (hh:hi<=f) (hv:∀k,lo<=k->k<hi->c k=d k):PR c w n l e f x v:=by
 rcases h with ⟨h1,vs,h2,h3⟩|⟨h1,y,h2,h3⟩
 .exact .inl ⟨h1,vs,h2,h3.mono fun a b _ g=>g.mono hl hh hv⟩
 .exact .inr ⟨h1,y,h2,h3.mono hl hh hv⟩
theorem Zpq [NW] {B:Nat}{n:Nat->Prop}{l:Bool}:∀{d:List RT}{vs:List Value}{F:List Nat}(key:Nat),OPs w B n d vs F->(Zdi d=true->l=true)->∃c O D,ZrX w B key (ZK key d).2.2 n (ZK key d).2.1 F c O D/\ZM (PR c w n l key (ZK key d).2.2) (ZK key d).1 vs
 | [],vs,F,key,h,_=>by
  obtain ⟨rfl,rfl⟩:=h;exact ⟨fun _=>undef,fun _=>[],fun _=>[],⟨A7 _,fun k a b=>by simp [ZK]at b;omega,fun _ _ _=>rfl,by simp [ZK]⟩,trivial⟩
 |x::r,_,_,key,⟨v,vs,F1,F2,rfl,rfl,h1,h2⟩,hl=>by
  have f:Zcr x.2=true->l=true:=fun e=>hl (by simp [Zdi,e]);have j:Zdi r=true->l=true:=fun e=>hl (by simp [Zdi,e]);have hx:∃c O D,ZrX w B key (Ya key x.2).2.2 n (Ya key x.2).2.1 F1 c O D/\PR c w n l key (Ya key x.2).2.2 (x.1,(Ya key x.2).1) v:=by
   rcases h1 with ⟨hx,us,rfl,hc⟩|⟨hx,ct,he,hc⟩
   .obtain ⟨c,O,D,hb,hr⟩:=ZaG key hc f;exact ⟨c,O,D,hb,.inl ⟨hx,us,rfl,hr⟩⟩
   .obtain ⟨c,O,D,hb,hr⟩:=ZaG (cts:=x.2) (vs:=[v]) (F:=F1) key (by rw [he];exact ⟨v,[],F1,[],rfl,yG,hc,rfl,rfl⟩) f;refine ⟨c,O,D,hb,.inr ⟨hx,?_⟩⟩;generalize (Ya key x.2).1=l at hr
    cases l with
    |nil=>exact hr.elim
    |cons y l=>
     cases l with
     |nil=>exact ⟨y,rfl,hr.1⟩
     |cons _ _=>exact hr.2.elim
  obtain ⟨c,O,D,hb,hp⟩:=hx;obtain ⟨val2,O2,D2,g,m⟩:=Zpq (Ya key x.2).2.2 h2 j;have i:=g.le;have o:=hb.le;refine ⟨_,_,_,hb.join g,⟨hp.mono (A7 _) i fun k a b=>by simp [b],m.mono fun y u _ hy=>hy.mono o (A7 _) fun k a b=>by simp [show ¬k<(Ya key x.2).2.2 by omega]⟩⟩
theorem ZtO {n:Nat}{G:Nat->List Nat}:∀{lo:Nat},((AJ lo n).flatMap G).Nodup->(∀k,lo<=k->k<lo+n->(G k).Nodup)/\∀k j,lo<=k->k<lo+n->lo<=j->j<lo+n->k≠j->∀b∈G k,b∉G j:=by
 induction n with
 |zero=>intro lo _;exact ⟨fun k a b=>by omega,fun k j a b=>by omega⟩
 |succ n ih=>
  intro lo h;rw [AU,AT,AP]at h;obtain ⟨h1,h2,h3⟩:=h;obtain ⟨i1,i2⟩:=ih h2;have c:∀k,lo+1<=k->k<lo+1+n->∀b∈G k,b∈(AJ (lo+1) n).flatMap G:=fun k a b x mx=>AW.2 ⟨k,AO.2 ⟨a,b⟩,mx⟩;refine ⟨fun k a b=>?_,fun k j a b a' b' d x mx mj=>?_⟩
  .by_cases e:k=lo
   .subst e;exact h1
   .exact i1 k yE yE
  .by_cases e:k=lo
   .subst e;exact h3 x mx x (c j yE yE x mj) rfl
   .by_cases e':j=lo
    .subst e';exact h3 x mj x (c k yE yE x mx) rfl
    .exact i2 k j yE yE yE yE d x mx mj
theorem ZhR [NW] {ob:Nat->Ob}(hI:HI W g ob w) (J:∀k,obU U (ob k)) (P:∀k,¬U k->ob k=.gone) (X:∀k,key<=k->k<key+16->¬U k) {d:List RT}{v:Value}{n:Nat->Prop}(hr:ZkF w' w.heap.size n d v) (hn:(ZK key d).2.2<=key+16)
  (H:Nat->Prop) (Y:∀k,H k->U k) (p:Nat->Ob) (A:Zdi d=true->∀b,g.own b->n b)
  (aa:Bel W w') (af:w.heap.size<=w'.heap.size) (hw:∀b,b<w.heap.size->(∀k,H k->b∉g.O k)->w'.heap[b]?=w.heap[b]?)
  (ab:∀k,H k->obU (Uk U key) (p k)) (hH:∀g':Gh,(∀b,g'.own b->g.own b\/((∃k,b∈g'.O k)/\w.heap.size<=b/\n b))->(∀k,H k->g'.val k=g.val k/\g'.O k=g.O k/\g'.D k=g.D k)->∀k,H k->ObR g' w' k (p k)/\∀b∈g.O k++g.D k,Qf w' (p k) b):
  ∃g',HI W g' (fun k=>Zn (fun j=>open Classical in if H j then p j else ob j) (ZK key d).2.1 k) w'/\SVR g' w' (Zdg (ZK key d).1) v/\(∀x u,svU U x->SVR g w x u->SVR g' w' x u)/\svU (Uk U key) (Zdg (ZK key d).1)/\
   (∀k,obU (Uk U key) (Zn (fun j=>open Classical in if H j then p j else ob j) (ZK key d).2.1 k))/\∀k,¬Uk U key k->Zn (fun j=>open Classical in if H j then p j else ob j) (ZK key d).2.1 k=.gone:=by
 classical
 obtain ⟨vs,F,h1,hF,hv⟩:=hr;obtain ⟨E,O,D,hB,hA⟩:=Zpq (l:=Zdi d) key h1 id;generalize (ZK key d).2.2=hi at *
 generalize (ZK key d).2.1=up at *
 generalize (ZK key d).1=xs at *
 have hle:=hB.le;let T:Nat->Prop:=fun k=>key<=k/\k<hi
 have ac:∀k,T k->¬U k:=fun k hk=>X k hk.1 (by have:=hk.2;omega);let g':Gh:=⟨fun k=>if key<=k/\k<hi then E k else g.val k,fun k=>if key<=k/\k<hi then O k else g.O k,fun k=>if key<=k/\k<hi then D k else g.D k,g.Z⟩
 have gT:∀k,T k->g'.val k=E k/\g'.O k=O k/\g'.D k=D k:=fun k hk=>⟨if_pos hk,if_pos hk,if_pos hk⟩
 have gN:∀k,¬T k->g'.val k=g.val k/\g'.O k=g.O k/\g'.D k=g.D k:=fun k hk=>⟨if_neg hk,if_neg hk,if_neg hk⟩
 have ag:∀k,H k->¬T k:=fun k hk ht=>ac k ht (Y k hk);have G:∀k,T k->∀b∈O k++D k,b∈F:=fun k hk b mb=>by
  rw [hB.foot];exact AW.2 ⟨k,AO.2 ⟨hk.1,by have:=hk.2;omega⟩,mb⟩
 have I:∀k,T k->∀b∈O k++D k,w.heap.size<=b:=fun k hk b mb=>hF.ge b (G k hk b mb);have ad:=ZtO (hB.foot ▸ hF.nodup);have K:∀k,U k->g'.val k=g.val k:=fun k hk=>(gN k fun h=>ac k h hk).1;have t:∀b,g'.own b->g.own b\/((∃k,b∈g'.O k)/\w.heap.size<=b/\n b):=fun b hb=>by
  rcases hb with ⟨k,mk⟩|hz
  .by_cases hk:T k
   .have Q:=mk;rw [(gT k hk).2.1]at Q;obtain ⟨e,m,ys,cs,_,_,_,_,_,p6⟩:=hB.at_ k hk.1 hk.2;exact .inr ⟨⟨k,mk⟩,I k hk b (by simp [Q]),p6 b Q⟩
   .rw [(gN k hk).2.1]at mk;exact .inl (.inl ⟨k,mk⟩)
  .exact .inl (.inr hz)
 have M:QU g g' w.heap.size:=.of (fun b hb=>(t b hb).imp id fun h=>h.2.1) fun j b mb=>by
  by_cases hj:T j
  .rw [(gT j hj).2.2]at mb;exact .inr (I j hj b (by simp [mb]))
  .rw [(gN j hj).2.2]at mb;exact .inl (.inr ⟨j,mb⟩)
 have ah:∀b,b<w.heap.size->¬g.own b->w'.heap[b]?=w.heap[b]?:=fun b hb ai=>hw b hb fun k _ mk=>ai (.inl ⟨k,mk⟩);have R:∀x u,svU U x->SVR g w x u->SVR g' w' x u:=fun x u hx hu=>hu.move hx K ah M af;have B:∀k,¬T k->Zn (fun j=>if H j then p j else ob j) up k=if H k then p k else ob k:=fun k hk=>hB.out k hk _;have aj:HI W g' (Zn (fun j=>if H j then p j else ob j) up) w':=by
  refine hI.step (U:=U) (fun k=>T k\/H k) aa rfl (fun b ak hq=>hw b ak fun k hk=>hq k (.inr hk)) (fun k hk=>?_) J K M (fun k hk=>?_)
  .have k1:¬T k:=fun h=>hk (.inl h);have k2:¬H k:=fun h=>hk (.inr h);exact ⟨by rw [B k k1,if_neg k2],gN k k1⟩
  .by_cases a:T k
   .obtain ⟨e1,e2,e3⟩:=gT k a;obtain ⟨e,m,ys,cs,p1,p2,p3,p4,p5,_⟩:=hB.at_ k a.1 a.2;rw [p1,e2,e3];refine ⟨⟨p2,cs,D k,?_,p4,.inl ⟨rfl,by rw [e1,e2];exact p5,e3⟩⟩,ad.1 k a.1 (by have:=a.2;omega),fun b mb=>?_,fun j hj b mb mj=>?_⟩
    .rw [e1];exact ZtJ p3 (Nat.zero_le _)
    .exact ⟨.inl (AX hI.below.size (I k a b mb)),hF.plain b (G k a b mb)⟩
    .by_cases f:T j
     .rw [(gT j f).2.1,(gT j f).2.2]at mj;exact ad.2 k j a.1 (by have:=a.2;omega) f.1 (by have:=f.2;omega) hj b mb mj
     .rw [(gN j f).2.1,(gN j f).2.2]at mj;have:=hI.lt j b mj;have:=I k a b mb;omega
   .have C:H k:=hk.resolve_left a;obtain ⟨e1,e2,e3⟩:=gN k a;obtain ⟨q1,q2⟩:=hH g' t (fun j hj=>gN j (ag j hj)) k C;rw [B k a,if_pos C,e2,e3];refine ⟨q1,hI.nodup k,fun b mb=>⟨(hI.plain k b mb).1,q2 b mb⟩,fun j hj b mb mj=>?_⟩;by_cases f:T j
    .rw [(gT j f).2.1,(gT j f).2.2]at mj;have:=hI.lt k b mb;have:=I j f b mj;omega
    .rw [(gN j f).2.1,(gN j f).2.2]at mj;exact hI.apart k j hj b mb mj
 have S:∀x u,CR E w' n (Zdi d) key hi x u->AVR g' w' x u/\avU (Uk U key) x:=fun x u h=>by
  cases x with
  |row k=>
   obtain ⟨c1,c2,c3,c4⟩:=h;exact ⟨⟨by rw [(gT k ⟨c1,c2⟩).1];exact c3,c4⟩,.inr ⟨c1,yE⟩⟩
  |c x=>
   obtain ⟨L,h1,h2⟩:=h;refine ⟨⟨L,h1,fun b mb o=>?_⟩,trivial⟩;rcases t b o with o|o
   .exact (h2 b mb).2 (A (h2 b mb).1 b o)
   .exact (h2 b mb).2 o.2.2
  |n _=>exact h.elim
  |nil _ _=>exact h.elim
  |dead=>exact h.elim
 have ae:∀(ys:List AV) (us:List Value),ZM (CR E w' n (Zdi d) key hi) ys us->ZM (AVR g' w') ys us/\QW (Uk U key) ys:=fun ys us h=>by
  induction ys generalizing us with
  |nil=>cases us with
   |nil=>exact ⟨trivial,fun _ m=>by simp at m⟩
   |cons _ _=>exact h.elim
  |cons y ys ih=>cases us with
   |nil=>exact h.elim
   |cons u us=>
    obtain ⟨i1,i2⟩:=ih us h.2;refine ⟨⟨(S y u h.1).1,i1⟩,fun z mz=>?_⟩;rcases A9.1 mz with rfl|mz
    .exact (S z u h.1).2
    .exact i2 z mz
 have V:∀(y:Bool×List AV) (u:Value),PR E w' n (Zdi d) key hi y u->PVR g' w' y.1 y.2 u/\QW (Uk U key) y.2:=fun y u h=>by
  rcases h with ⟨h1,us,rfl,h3⟩|⟨h1,z,h2,h3⟩
  .obtain ⟨i1,i2⟩:=ae _ _ h3;exact ⟨by rw [h1];exact ⟨us,rfl,i1⟩,i2⟩
  .obtain ⟨i1,i2⟩:=S z u h3;exact ⟨by rw [h1];exact ⟨z,h2,i1⟩,by rw [h2];intro q mq;simp at mq;subst mq;exact i2⟩
 have N:SVR g' w' (Zdg xs) v/\svU (Uk U key) (Zdg xs):=by
  have A:=hA.len;by_cases hl:xs.length=1
  .obtain ⟨x,rfl⟩:=List.length_eq_one_iff.1 hl;cases vs with
   |nil=>simp at A
   |cons u us=>
    cases us with
    |cons _ _=>simp at A
    |nil=>
     have al:v=u:=by rw [hv];rfl
     rw [al];exact V x u hA.1
  .have am:¬vs.toArray.size=1:=by simp;omega
   rw [dif_neg am]at hv;have e:Zdg xs=.tup xs:=by
    cases xs with
    |nil=>rfl
    |cons x xs=>cases xs with
     |nil=>simp at hl
     |cons _ _=>rfl
   rw [e];refine ⟨⟨vs,hv,hA.mono fun y u _ h=>(V y u h).1⟩,fun y my=>?_⟩;obtain ⟨i,an⟩:=List.mem_iff_getElem?.1 my;obtain ⟨u,_,hu⟩:=hA.at an;exact (V y u hu).2
 refine ⟨g',aj,N.1,R,N.2,fun k=>?_,fun k hk=>?_⟩
 .by_cases a:T k
  .obtain ⟨e,m,ys,cs,p1,_⟩:=hB.at_ k a.1 a.2;rw [p1];trivial
  .rw [B k a];split
   .rename_i C;exact ab k C
   .exact (J k).mono fun _=>.inl
 .have a:¬T k:=fun a=>hk (.inr ⟨a.1,by have:=a.2;omega⟩);have C:¬H k:=fun h=>hk (.inl (Y k h));rw [B k a,if_neg C];exact P k fun h=>hk (.inl h)
theorem Zl2 [NW] (st:St):∀(ks:List Nat) {g:Gh}{ob:Nat->Ob},HI W g ob w->(∀k,ob k=st.ob k\/ob k=Yc (st.ob k))->∃g1:Gh,HI W g1 (Zn ob (ZU st ks)) w/\g1.val=g.val/\XJ g1 g/\∀k,Zn ob (ZU st ks) k=(if k∈ks then Yc (st.ob k) else ob k)
 | [],g,ob,hI,_=>⟨g,hI,rfl,XJ.refl _,fun k=>by simp [ZU,Zn]⟩
 |k::r,g,ob,hI,hob=>by
  have b:Yc (ob k)=Yc (st.ob k):=by
   rcases hob k with h|h
   .rw [h]
   .rw [h];cases st.ob k<;>rfl
  obtain ⟨g1,h1,h2,h3,_⟩:=Zju hI k;rw [b]at h1;have a:∀j,upd ob k (Yc (st.ob k)) j=st.ob j\/upd ob k (Yc (st.ob k)) j=Yc (st.ob j):=fun j=>by
   by_cases hj:j=k
   .subst hj;right;rw [ZF]
   .rw [ZP _ _ hj];exact hob j
  obtain ⟨g2,i1,i2,i3,i4⟩:=Zl2 st r h1 a;refine ⟨g2,i1,i2.trans h2,i3.trans h3,fun j=>?_⟩;show Zn (upd ob k (Yc (st.ob k))) (ZU st r) j=_
  rw [i4 j];by_cases hj:j=k
  .subst hj;simp [upd]
  .simp [hj,upd]
theorem Zpc {st st':St}(h:∀k,st'.ob k=st.ob k\/st'.ob k=Yc (st.ob k)) (x:SV):Zdh st' x=Zdh st x:=by
 have h1:∀y:AV,Zb9 st' y=Zb9 st y:=fun y=>by
  cases y with
  |row k=>
   simp only[Zb9];rcases h k with e|e
   .rw [e]
   .rw [e];cases st.ob k<;>rfl
  |_=>rfl
 have h2:∀ys:List AV,Y0 st' ys=Y0 st ys:=fun ys=>by
  induction ys with
  |nil=>rfl
  |cons y ys ih=>simp only[Y0,h1,ih]
 cases x<;>simp [Zdh,h2]
theorem Zgp [NW] {st st':St}(h:∀k,st'.ob k=st.ob k\/st'.ob k=Yc (st.ob k)):∀xs:List SV,Z1 st' xs=Z1 st xs
 | []=>rfl
 |x::r=>by simp only[Z1];rw [Zpc h x,Zgp h r]
theorem Znf {k:Nat}:∀{cs:List AV},AV.row k∈cs->k∈ZiP cs
 | [],h=>by simp at h
 |x::r,h=>by
  rcases A9.1 h with rfl|h
  .simp [ZiP]
  .have:=Znf h;cases x<;>simp [ZiP,this]
theorem ZnI [NW] {k:Nat}{a:Bool}{cs:List AV}:∀{vs:List SV},SV.p a cs∈vs->AV.row k∈cs->k∈Yb vs
 | [],h,_=>by simp at h
 |x::r,h,hk=>by
  rcases A9.1 h with rfl|h
  .simp [Yb,Znf hk]
  .have:=ZnI h hk;cases x<;>simp [Yb,this]
end
end
section
open Go.RowKit
def Zbs (S:Ctx) (f:FuncId) (n key:Nat) (st:St) (vs:List SV) (v:SV) (u:List (Nat×Ob)):Prop:=
 match n with
 |0=>∃l res,Z1 st vs=some l/\S.r f l res/\(!Zdi res||vs.all Zia)=true/\(ZK key res).2.2<=key+16/\v=Zdg (ZK key res).1/\u=(ZK key res).2.1
 |1=>∃a r k h l res h',vs=a::r/\Zf1 st a=some (k,h)/\Z1 st r=some l/\S.h f h l res h'/\(Yb r).all (fun j=>j != k)=true/\(ZK key res).2.2<=key+16/\v=Zdg (ZK key res).1/\u=ZU st (Yb r)++((k,Zef h')::(ZK key res).2.1)
 |3=>∃l nb,Z1 st vs=some l/\S.b f l nb/\v=ZEY key nb/\u=ZU st (Yb vs)++[(key,ZxU nb)]
 |4=>∃l res,Z1 st (vs.map nlS)=some l/\S.r f l res/\(!Zdi res||(vs.map nlS).all Zia)=true/\(ZK key res).2.2<=key+16/\v=Zdg (ZK key res).1/\u=(ZK key res).2.1
 |_=>∃l res,Z1 st vs=some l/\S.r f l res/\(ZK key res).2.2<=key+16/\v=Zdg (ZK key res).1/\u=ZU st (Yb vs)++(ZK key res).2.1
theorem ZlZ {S:Ctx}{f:FuncId}{n key:Nat}{d:Option Nat}{K:St->Prop}{st:St}{vs:List SV}:spK S f n key d K st vs↔∃v u,Zbs S f n key st vs v u/\K ((st.put d v).app u):=by
 rcases n with _|_|_|_|_|n
 .simp only[spK,Zbs];constructor
  .intro h;unfold YZ at h;split at h
   .rename_i l hl;obtain ⟨a,h1,h2,h3,h4⟩:=h;exact ⟨_,_,⟨l,a,hl,h1,h2,h3,rfl,rfl⟩,h4⟩
   .exact h.elim
  .rintro ⟨v,u,⟨l,a,hl,h1,h2,h3,rfl,rfl⟩,h4⟩;rw [hl];exact ⟨a,h1,h2,h3,h4⟩
 .simp only[spK,Zbs];constructor
  .intro h;cases vs with
   |nil=>exact h.elim
   |cons v0 r=>
    simp only[ZuJ]at h;unfold YZ at h;split at h
    .rename_i kh hk;split at h
     .rename_i l hl;obtain ⟨a,h',h1,h2,h3,h4⟩:=h;exact ⟨_,_,⟨v0,r,kh.1,kh.2,l,a,h',rfl,hk,hl,h1,h2,h3,rfl,rfl⟩,h4⟩
     .exact h.elim
    .exact h.elim
  .rintro ⟨v,u,⟨v0,r,k,hh,l,a,h',rfl,hk,hl,h1,h2,h3,rfl,rfl⟩,h4⟩;simp only[ZuJ,hk,hl,YZ];exact ⟨a,h',h1,h2,h3,h4⟩
 .simp only[spK,Zbs];constructor
  .intro h;unfold YZ at h;split at h
   .rename_i l hl;obtain ⟨a,h1,h3,h4⟩:=h;exact ⟨_,_,⟨l,a,hl,h1,h3,rfl,rfl⟩,h4⟩
   .exact h.elim
  .rintro ⟨v,u,⟨l,a,hl,h1,h3,rfl,rfl⟩,h4⟩;rw [hl];exact ⟨a,h1,h3,h4⟩
 .simp only[spK,Zbs];constructor
  .intro h;unfold YZ at h;split at h
   .rename_i l hl;obtain ⟨nb,h1,h4⟩:=h;exact ⟨_,_,⟨l,nb,hl,h1,rfl,rfl⟩,h4⟩
   .exact h.elim
  .rintro ⟨v,u,⟨l,nb,hl,h1,rfl,rfl⟩,h4⟩;rw [hl];exact ⟨nb,h1,h4⟩
 .simp only[spK,Zbs];constructor
  .intro h;unfold YZ at h;split at h
   .rename_i l hl;obtain ⟨a,h1,h2,h3,h4⟩:=h;exact ⟨_,_,⟨l,a,hl,h1,h2,h3,rfl,rfl⟩,h4⟩
   .exact h.elim
  .rintro ⟨v,u,⟨l,a,hl,h1,h2,h3,rfl,rfl⟩,h4⟩;rw [hl];exact ⟨a,h1,h2,h3,h4⟩
 .simp only[spK,Zbs];constructor
  .intro h;unfold YZ at h;split at h
   .rename_i l hl;obtain ⟨a,h1,h3,h4⟩:=h;exact ⟨_,_,⟨l,a,hl,h1,h3,rfl,rfl⟩,h4⟩
   .exact h.elim
  .rintro ⟨v,u,⟨l,a,hl,h1,h3,rfl,rfl⟩,h4⟩;rw [hl];exact ⟨a,h1,h3,h4⟩
section
variable {P:Program} {J:World->Prop} {JF:Nat->Prop} {W:ZaK} {U:Nat->Prop} {key:Nat} {st:St} {g:Gh} {w w':World} {a:Act} {tt:Nat->Option TI} {hd:FuncId->Nat}
def ZzD [NW] (W:ZaK) (U:Nat->Prop) (key:Nat) (st:St) (g:Gh) (w:World) (v:SV) (u:List (Nat×Ob)) (cv:Value) (w':World):Prop:=
 ∃g',HI W g' (Zn st.ob u) w'/\SVR g' w' v cv/\(∀x c,svU U x->SVR g w x c->SVR g' w' x c)/\svU (Uk U key) v/\(∀k,obU (Uk U key) (Zn st.ob u k))/\∀k,¬Uk U key k->Zn st.ob u k=.gone
theorem HI.ownlt [NW] {ob:Nat->Ob}(hI:HI W g ob w) {b:Nat}(h:g.own b):b<w.heap.size:=by
 rcases h with ⟨k,mk⟩|hz
 .exact hI.lt k b (by simp [mk])
 .rw [hI.gz]at hz;exact Ag (hI.zx b hz).1 hI.below.size
theorem Zxa {ks:List Nat}{ob:Nat->Ob}(a:∀k,obU U (st.ob k)) (h:∀k,ob k=(if k∈ks then Yc (st.ob k) else st.ob k)):∀k,obU U (ob k):=fun k=>by
 rw [h k];have:=a k;split
 .cases hk:st.ob k<;>simp only[Yc]<;>first|trivial|(rw [hk]at this;exact this)
 .exact this
theorem ZtE [NW] {vs:List SV}{l:List (Bool×List CT)}{st1:St}(h:∀k,st1.ob k=(if k∈Yb vs then Yc (st.ob k) else st.ob k)) (hl:Z1 st vs=some l):∀x∈vs,ZvA st1.ob x:=by
 have key:∀(cs:List AV) (l:List CT),Y0 st cs=some l->(∀k,AV.row k∈cs->k∈Yb vs)->∀y∈cs,Zxe st1.ob y:=by
  intro cs;induction cs with
  |nil=>intro l _ _ y my;simp at my
  |cons c cs ih=>
   intro l hl hk y my;simp only[Y0]at hl;obtain ⟨c1,h1,hl⟩:=A5.1 hl;obtain ⟨c2,h2,_⟩:=A3.1 hl;rcases A9.1 my with rfl|my
   .cases y with
    |row k=>
     simp only[Zb9]at h1;split at h1
     .rename_i e m xs d a;exact ⟨e,m,xs,by rw [h k,if_pos (hk k yG),a];rfl⟩
     .simp at h1
    |_=>trivial
   .exact ih c2 h2 (fun k mk=>hk k (by simp [mk])) y my
 have all:∀(xs:List SV) (l:List (Bool×List CT)),Z1 st xs=some l->(∀x∈xs,x∈vs)->∀x∈xs,ZvA st1.ob x:=by
  intro xs;induction xs with
  |nil=>intro l _ _ x mx;simp at mx
  |cons x xs ih=>
   intro l hl hm y my;simp only[Z1]at hl;obtain ⟨c1,h1,hl⟩:=A5.1 hl;obtain ⟨c2,h2,_⟩:=A3.1 hl;rcases A9.1 my with rfl|my
   .cases y with
    |p ag cs=>
     simp only[Zdh]at h1;obtain ⟨l1,h3,_⟩:=A3.1 h1;exact key cs l1 h3 (fun k mk=>ZnI (hm (.p ag cs) yG) mk)
    |_=>trivial
   .exact ih c2 h2 (fun z mz=>hm z (by simp [mz])) y my
 exact all vs l hl (fun _ h=>h)
theorem ZEO {k:Nat}{inst:∀j,Decidable (j=k)}(ob:Nat->Ob) (o:Ob):(fun j=>@ite _ (j=k) (inst j) o (ob j))=upd ob k o:=by
 funext j
 simp only[upd];split<;>rfl
theorem Zjs [NW] (htt:MOk P J JF W tt) {f:FuncId}{vs:List SV}{a:List Value}{v:SV}{u:List (Nat×Ob)}(h:Zbs (SC P J JF hd) f 0 key st vs v u) (hH:HI W g st.ob w) (hU:StU U st) (c:∀k,key<=k->k<key+16->¬U k) (j:ZM (SVR g w) vs a) (hvU:∀x∈vs,svU U x):
  Zez P f/\Calls P f a.toArray w fun e w'=>∃cv,e=.returned cv/\ZzD W U key st g w v u cv w':=by
 obtain ⟨l,o,hl,hs,d,hn,rfl,rfl⟩:=h;obtain ⟨hc,hC⟩:=hs;refine ⟨hc,?_⟩;by_cases m:Zdi o=true
 .have p:∀x∈vs,ZvA st.ob x:=Zy9 (by simpa [m]using d);refine (hC w g.own a (htt.at hH.below) (fun b hb=>hH.ownlt hb) (ZdC hH hl j (.inr ⟨p,fun _ h=>h⟩))).mono ?_;rintro e w' ⟨cv,n,rfl,hr,hz,hb⟩;obtain ⟨g',t1,t2,t3,t4,t5,t6⟩:=ZhR hH hU.ob hU.gone c hr hn (fun _=>False) (fun _ h=>h.elim) (fun _=>.gone) (fun _ b hb=>hz b hb) (hH.below.trans hb) hb.size (fun b i _=>hb.block b i) (fun _ h=>h.elim) (fun _ _ _ _ h=>h.elim);simp only[if_false]at t1 t5 t6;exact ⟨cv,rfl,g',t1,t2,t3,t4,t5,t6⟩
 .refine (hC w (fun _=>False) a (htt.at hH.below) (fun b hb=>hb.elim) (ZdC hH hl j (.inl fun _ h=>h))).mono ?_;rintro e w' ⟨cv,n,rfl,hr,hz,hb⟩;obtain ⟨g',t1,t2,t3,t4,t5,t6⟩:=ZhR hH hU.ob hU.gone c hr hn (fun _=>False) (fun _ h=>h.elim) (fun _=>.gone) (fun h=>absurd h m) (hH.below.trans hb) hb.size (fun b i _=>hb.block b i) (fun _ h=>h.elim) (fun _ _ _ _ h=>h.elim);simp only[if_false]at t1 t5 t6;exact ⟨cv,rfl,g',t1,t2,t3,t4,t5,t6⟩
theorem ZxI [NW] {x:AV}{v:Value}(h:AVR g w x v):AVR g w (nlA x) v:=by
 cases x with
 |nil e m=>exact ⟨[],⟨h,rfl⟩,yG⟩
 |_=>exact h
theorem ZuP [NW]:∀{xs:List AV}{vs:List Value},ZM (AVR g w) xs vs->ZM (AVR g w) (xs.map nlA) vs
 | [],[],_=>trivial
 | [],_::_,h=>h.elim
 |_::_,[],h=>h.elim
 |_::_,_::_,h=>⟨ZxI h.1,ZuP h.2⟩
theorem ZCH [NW] {x:SV}{v:Value}(h:SVR g w x v):SVR g w (nlS x) v:=by
 cases x with
 |p a cs=>
  cases a with
  |true=>obtain ⟨vs,h1,h2⟩:=h;exact ⟨vs,h1,ZuP h2⟩
  |false=>obtain ⟨y,rfl,h2⟩:=h;exact ⟨_,rfl,ZxI h2⟩
 |_=>exact h
theorem ZuM [NW]:∀{xs:List SV}{vs:List Value},ZM (SVR g w) xs vs->ZM (SVR g w) (xs.map nlS) vs
 | [],[],_=>trivial
 | [],_::_,h=>h.elim
 |_::_,[],h=>h.elim
 |_::_,_::_,h=>⟨ZCH h.1,ZuM h.2⟩
theorem Zwx {x:SV}(h:svU U x):svU U (nlS x):=by
 cases x with
 |p a cs=>
  intro y my;obtain ⟨z,mz,rfl⟩:=A4.1 my;have hz:=h z mz;cases z<;>first|exact hz|trivial
 |_=>exact h
theorem Zg1 [NW] (htt:MOk P J JF W tt) {f:FuncId}{n:Nat}{vs:List SV}{H:List Value}{v:SV}{u:List (Nat×Ob)}(h:Zbs (SC P J JF hd) f n key st vs v u) (hH:HI W g st.ob w) (hU:StU U st) (E:∀k,key<=k->k<key+16->¬U k) (M:ZM (SVR g w) vs H) (ao:∀x∈vs,svU U x):
  Zez P f/\Calls P f H.toArray w fun e w'=>∃cv,e=.returned cv/\ZzD W U key st g w v u cv w':=by
 unfold Zbs at h;split at h
 .exact Zjs htt (f:=f) (vs:=vs) h hH hU E M ao
 .obtain ⟨v0,r,k,hh,l,N,h',rfl,hk,hl,hs,a0,hn,rfl,rfl⟩:=h;obtain ⟨hc,hC⟩:=hs;refine ⟨hc,?_⟩;cases H with
  |nil=>exact M.elim
  |cons c0 cr=>
  obtain ⟨a1,a2⟩:=M;obtain ⟨g1,i1,i2,i3,i4⟩:=Zl2 st (Yb r) hH (fun k=>.inl rfl);let st1:St:=⟨st.sl,Zn st.ob (ZU st (Yb r)),st.n⟩
  have a:∀k,st1.ob k=(if k∈Yb r then Yc (st.ob k) else st.ob k):=i4;have C:∀k,st1.ob k=st.ob k\/st1.ob k=Yc (st.ob k):=fun k=>by
   rw [a k];split
   .exact .inr rfl
   .exact .inl rfl
  have R:Z1 st1 r=some l:=by rw [Zgp C];exact hl
  have F:=ZtE (st1:=st1) a hl;have a3:k∉Yb r:=fun hm=>by
   have:=AD.1 a0 k hm;simp at this
  have ap:st1.ob k=st.ob k:=by rw [a k,if_neg a3]
  have a4:st.ob k≠.gone->U k:=fun hg=>Classical.byContradiction fun hn=>hg (hU.gone k hn);have A:∀j,obU U (st1.ob j):=Zxa hU.ob a;have z:∀j,¬U j->st1.ob j=.gone:=fun j hj=>by
   have e:=hU.gone j hj;rcases C j with h|h<;>rw [h,e]<;>rfl
  have af:SVR g1 w v0 c0:=a1.less i2 i3;have aq:ZM (SVR g1 w) r cr:=a2.mono fun x c _ hx=>hx.less i2 i3;have ai:∃q:Option Nat,ZuY w (inQ (fun b=>g1.own b/\¬q=some b) q) q hh c0/\g1.O k=q.toList/\g1.D k=[]/\c0=g1.val k/\st.ob k≠.gone:=by
   unfold Zf1 at hk;split at hk
   .rename_i k';split at hk
    .rename_i t cs I;split at hk
     .rename_i a5;obtain ⟨l',a6,e⟩:=A3.1 hk;simp only[A6]at e;obtain ⟨rfl,rfl⟩:=e;have ho:=i1.obs k';rw [show Zn st.ob (ZU st (Yb r)) k'=.box t cs from ap.trans I]at ho;obtain ⟨b,vs,h1,h2,h3,h4,h5⟩:=ho;obtain ⟨b',h6,h7⟩:=af;have hb:b'=b:=by rw [h6]at h1;simpa using h1
      subst hb;have ar:Y0 st1 cs=some l':=by
       have:=Zpc C (.p true cs);simp only[Zdh,a6]at this;obtain ⟨x,hx,Q⟩:=A3.1 this;simp only[A6,true_and]at Q;rw [hx,Q]
      obtain ⟨L,hL,a7⟩:=Zh1 (st:=st1) i1 ar h5;refine ⟨some b',⟨b',vs,L,rfl,h7,h4,hL,fun x mx hx=>?_⟩,by simp [h2],h3,by rw [h7,h6],by rw [I];simp⟩;refine a7 (fun y my=>?_) x mx ?_
      .have:=AD.1 a5 y my;cases y<;>simp [ZbX]at this<;>trivial
      .rcases hx with hx|hx
       .exact hx.1
       .simp only[A0]at hx;subst hx;exact .inl ⟨k',by simp [h2]⟩
     .simp at hk
    .simp at hk
   .rename_i k';split at hk
    .rename_i e m xs d I;split at hk
     .rename_i au;simp only[A0,A6]at hk;obtain ⟨rfl,rfl⟩:=hk;have ho:=i1.obs k';rw [show Zn st.ob (ZU st (Yb r)) k'=.row e m xs d from ap.trans I]at ho;obtain ⟨hm,cs,L,h1,h2,h3⟩:=ho;obtain rfl:=Zkj h2 au.2;obtain ⟨x,av,Q⟩:=af;simp only[AI,and_true]at av;subst av;rcases h3 with ⟨_,h3,h4⟩|⟨h3,_⟩|⟨h3,_⟩
      .exact ⟨(g1.val k').ownBlock,⟨au.2,hm,by rw [Q.1],cs,by rw [Q.1];exact h1,h2⟩,h3,h4,Q.1,by rw [I];simp⟩
      .omega
      .omega
     .simp at hk
    .simp at hk
   .simp at hk
  obtain ⟨q,a8,G,X,aj,a9⟩:=ai;have ak:=a4 a9;have ba:∀b,q=some b->g1.own b:=fun b hb=>.inl ⟨k,by simp [G,hb]⟩;have aw:∀b,g1.own b->inQ (fun b=>g1.own b/\¬q=some b) q b:=fun b hb=>by
   by_cases Y:q=some b
   .exact .inr Y
   .exact .inl ⟨hb,Y⟩
  have al:ZM (ZnX w (inQ (fun b=>g1.own b/\¬q=some b) q)) l cr:=ZdC (st:=st1) i1 R aq (.inr ⟨F,fun b hb=>by
   rcases hb with hb|hb
   .exact hb.1
   .exact ba b hb⟩)
  have bb:∀b,q=some b->JF b:=fun b hb=>by
   rcases (i1.plain k b (by simp [G,hb])).1 with h|h
   .exact htt.jf b h
   .exact htt.xf b h
  refine (hC w _ q c0 cr (htt.at hH.below) bb (fun b hb=>⟨i1.ownlt hb.1,hb.2⟩) a8 al).mono ?_;rintro e w' ⟨cv,n,rfl,hr,hz,aa,K⟩;have B:Bel W w':=⟨K.os.trans hH.below.os,K.tape.trans hH.below.tape,K.output.trans hH.below.output,AX hH.below.size K.size,fun i hi hx=>by
   rw [K.block i (Ag hi hH.below.size) fun bc=>?_]
   .exact hH.below.block i hi hx
   .rcases (i1.plain k i (by simp [G,bc])).1 with h|h
    .omega
    .exact hx h⟩
  obtain ⟨g',t1,t2,t3,t4,t5,t6⟩:=ZhR i1 A z E hr hn (fun j=>j=k) (fun j hj=>by rw [hj];exact ak) (fun _=>Zef h') (fun _ b hb=>hz b (aw b hb)) B K.size
   (fun b hb bd=>K.block b hb fun Y=>bd k rfl (by simp [G,Y]))
   (fun j _=>by
    cases h' with
    |row e m xs=>trivial
    |box t cs=>intro y my;simp only[A4]at my;obtain ⟨x,_,rfl⟩:=my;trivial)
   (fun g' ho be j hj=>by
    subst hj;obtain ⟨e1,e2,e3⟩:=be j rfl;have am:∀b,¬n b->¬g'.own b:=fun b ab I=>by
     rcases ho b I with h|h
     .exact ab (hz b (aw b h))
     .exact ab h.2.2
    cases h' with
    |row e m xs=>
     obtain ⟨p1,p2,p3,cs,p4,p5⟩:=aa;refine ⟨⟨p2,cs,[],by rw [e1,<-aj];exact p4,p5,.inl ⟨rfl,by rw [e2,G,e1,<-aj,p3],by rw [e3,X]⟩⟩,fun b mb=>?_⟩;rw [G,X]at mb;simp at mb;rcases p4.2 with ⟨h0,_⟩|⟨gg,o,cap,cur,hv,_,bf,_⟩
     .rw [h0]at p3;simp [Value.ownBlock]at p3;rw [<-p3]at mb;simp at mb
     .rw [hv]at p3;simp only[Value.ownBlock]at p3;rw [mb]at p3;simp at p3;subst p3;exact ⟨_,_,bf⟩
    |box t cs=>
     obtain ⟨b,vs,L,p1,p2,p3,p4,p5⟩:=aa;refine ⟨⟨b,vs,by rw [e1,<-aj];exact p2,by rw [e2,G,p1];rfl,by rw [e3,X],p3,p4.avr fun x mx=>am x (p5 x mx)⟩,fun x mx=>?_⟩;rw [G,X,p1]at mx;simp at mx;subst mx;exact ⟨_,_,p3⟩)
  have S:Zn st.ob (ZU st (Yb r)++((k,Zef h')::(ZK key N).2.1))=Zn (upd (Zn st.ob (ZU st (Yb r))) k (Zef h')) (ZK key N).2.1:=by rw [Xa];rfl
  have an:=ZEO (k:=k) (inst:=fun j=>Classical.propDecidable (j=k)) (Zn st.ob (ZU st (Yb r))) (Zef h');have ax:HI W g' (Zn (upd (Zn st.ob (ZU st (Yb r))) k (Zef h')) (ZK key N).2.1) w':=an ▸ t1;have ay:∀j,obU (Uk U key) (Zn (upd (Zn st.ob (ZU st (Yb r))) k (Zef h')) (ZK key N).2.1 j):=an ▸ t5;have az:∀j,¬Uk U key j->Zn (upd (Zn st.ob (ZU st (Yb r))) k (Zef h')) (ZK key N).2.1 j=.gone:=an ▸ t6;rw [<-S]at ax ay az;exact ⟨cv,rfl,g',ax,t2,fun x c hx hc=>t3 x c hx (hc.less i2 i3),t4,ay,az⟩
 .obtain ⟨l,nb,hl,hs,rfl,rfl⟩:=h;obtain ⟨hc,hC⟩:=hs;refine ⟨hc,?_⟩;obtain ⟨g1,i1,i2,i3,i4⟩:=Zl2 st (Yb vs) hH (fun k=>.inl rfl);let st1:St:=⟨st.sl,Zn st.ob (ZU st (Yb vs)),st.n⟩
  have a:∀k,st1.ob k=(if k∈Yb vs then Yc (st.ob k) else st.ob k):=i4;have C:∀k,st1.ob k=st.ob k\/st1.ob k=Yc (st.ob k):=fun k=>by
   rw [a k];split
   .exact .inr rfl
   .exact .inl rfl
  have R:Z1 st1 vs=some l:=by rw [Zgp C];exact hl
  have F:=ZtE (st1:=st1) a hl;have A:∀j,obU U (st1.ob j):=Zxa hU.ob a;have z:∀j,¬U j->st1.ob j=.gone:=fun j hj=>by
   have e:=hU.gone j hj;rcases C j with h|h<;>rw [h,e]<;>rfl
  have T:ZM (SVR g1 w) vs H:=M.mono fun x c _ hx=>hx.less i2 i3;refine (hC w g1.own H (htt.at hH.below) (fun b hb=>i1.ownlt hb) (ZdC (st:=st1) i1 R T (.inr ⟨F,fun _ h=>h⟩))).mono ?_;rintro e w' ⟨b,n,rfl,hb,ac,ab,hz,B⟩;have ak:¬U key:=E key (A7 _) yE;let g':Gh:=⟨fun k=>if k=key then ZpM b nb else g1.val k,fun k=>if k=key then [b] else g1.O k,fun k=>if k=key then [] else g1.D k,g1.Z⟩
  have ag:∀k,U k->g'.val k=g1.val k:=fun k hk=>if_neg fun (e:k=key)=>ak (e ▸ hk);have V:∀x,g'.own x->g1.own x\/x=b:=fun x hx=>by
   rcases hx with ⟨k,mk⟩|hx
   .simp only[g']at mk;split at mk
    .exact .inr (by simpa using mk)
    .exact .inl (.inl ⟨k,mk⟩)
   .exact .inl (.inr hx)
  have ah:QU g1 g' w.heap.size:=.of (fun x hx=>(V x hx).imp id fun (e:x=b)=>by rw [e];exact hb) fun j x mx=>by
   simp only[g']at mx;split at mx
   .simp at mx
   .exact .inl (.inr ⟨j,mx⟩)
  have am:∀x,¬n x->¬g'.own x:=fun x mx hx=>mx (by
   rcases V x hx with h|h
   .exact hz x h
   .rw [h];exact ab)
  have S:Zn st.ob (ZU st (Yb vs)++[(key,ZxU nb)])=upd (Zn st.ob (ZU st (Yb vs))) key (ZxU nb):=by rw [Xa];rfl
  have ad:g'.val key=ZpM b nb:=if_pos rfl;have ae:Qf w' (ZxU nb) b:=by
   cases nb with
   |box t cs=>obtain ⟨us,L,p1,_⟩:=ac;exact ⟨_,_,p1⟩
   |map kk vk kv=>obtain ⟨es,c,p1,_⟩:=ac;exact ⟨_,_,p1⟩
  refine ⟨_,rfl,g',?_,?_,fun x c hx hc=>(hc.less i2 i3).move hx ag (fun b hb _=>B.block b hb) ah B.size,?_,fun k=>?_,fun k hk=>?_⟩
  .rw [S];refine i1.step (U:=U) (fun k=>k=key) (hH.below.trans B) rfl (fun b hb _=>B.block b hb) (fun k hk=>⟨ZP _ _ hk,if_neg hk,if_neg hk,if_neg hk⟩) A ag ah (fun k hk=>?_);subst hk;have e1:g'.O k=[b]:=if_pos rfl;have e2:g'.D k=[]:=if_pos rfl;rw [ZF,e1,e2];refine ⟨?_,yG,fun x mx=>?_,fun j hj x mx mj=>?_⟩
   .cases nb with
    |box t cs=>obtain ⟨us,L,p1,p2,p3⟩:=ac;exact ⟨b,us,ad,e1,e2,p1,p2.avr fun x mx=>am x (p3 x mx)⟩
    |map kk vk kv=>obtain ⟨es,c,p1,p2⟩:=ac;exact ⟨b,es,c,ad,e1,e2,p1,p2⟩
   .simp at mx;subst mx;exact ⟨.inl (AX hH.below.size hb),ae⟩
   .simp at mx;subst mx;have e3:g'.O j=g1.O j:=if_neg fun e=>hj e.symm;have e4:g'.D j=g1.D j:=if_neg fun e=>hj e.symm;rw [e3,e4]at mj;have:=i1.lt j x mj;omega
  .cases nb with
   |box t cs=>exact ⟨b,ad,rfl⟩
   |map kk vk kv=>exact ⟨.row key,rfl,ad.symm,rfl⟩
  .cases nb with
   |box t cs=>exact .inr ⟨A7 _,yE⟩
   |map kk vk kv=>intro y my;simp at my;subst my;exact .inr ⟨A7 _,yE⟩
  .rw [S];by_cases hk:k=key
   .subst hk;rw [ZF];cases nb with
    |box t cs=>intro y my;simp only[A4]at my;obtain ⟨x,_,rfl⟩:=my;trivial
    |map kk vk kv=>trivial
   .rw [ZP _ _ hk];exact (A k).mono fun _=>.inl
  .have bg:¬k=key:=fun e=>hk (.inr ⟨yE,yE⟩);rw [S,ZP _ _ bg];exact z k fun h=>hk (.inl h)
 .exact Zjs htt (f:=f) (vs:=vs.map nlS) h hH hU E (ZuM M) (fun x hx=>by
   obtain ⟨y,my,rfl⟩:=A4.1 hx;exact Zwx (ao y my))
 .obtain ⟨l,N,hl,hs,hn,rfl,rfl⟩:=h;obtain ⟨hc,hC⟩:=hs;refine ⟨hc,?_⟩;obtain ⟨g1,i1,i2,i3,i4⟩:=Zl2 st (Yb vs) hH (fun k=>.inl rfl);let st1:St:=⟨st.sl,Zn st.ob (ZU st (Yb vs)),st.n⟩
  have a:∀k,st1.ob k=(if k∈Yb vs then Yc (st.ob k) else st.ob k):=i4;have C:∀k,st1.ob k=st.ob k\/st1.ob k=Yc (st.ob k):=fun k=>by
   rw [a k];split
   .exact .inr rfl
   .exact .inl rfl
  have R:Z1 st1 vs=some l:=by rw [Zgp C];exact hl
  have F:=ZtE (st1:=st1) a hl;have A:∀j,obU U (st1.ob j):=Zxa hU.ob a;have z:∀j,¬U j->st1.ob j=.gone:=fun j hj=>by
   have e:=hU.gone j hj;rcases C j with h|h<;>rw [h,e]<;>rfl
  have T:ZM (SVR g1 w) vs H:=M.mono fun x c _ hx=>hx.less i2 i3;refine (hC w g1.own H (htt.at hH.below) (fun b hb=>i1.ownlt hb) (ZdC (st:=st1) i1 R T (.inr ⟨F,fun _ h=>h⟩))).mono ?_;rintro e w' ⟨cv,n,rfl,hr,hz,hb⟩;obtain ⟨g',t1,t2,t3,t4,t5,t6⟩:=ZhR i1 A z E hr hn (fun _=>False) (fun _ h=>h.elim) (fun _=>.gone) (fun _ b hb=>hz b hb) (hH.below.trans hb) hb.size (fun b aa _=>hb.block b aa) (fun _ h=>h.elim) (fun _ _ _ _ h=>h.elim);simp only[if_false,<-Xa]at t1 t5 t6;exact ⟨cv,rfl,g',t1,t2,fun x c hx hc=>t3 x c hx (hc.less i2 i3),t4,t5,t6⟩
end
end
section
open Go.RowKit
section
variable {P:Program} {J:World->Prop} {JF:Nat->Prop} {W:ZaK} {U:Nat->Prop} {key:Nat} {st:St} {w w':World} {a:Act} {tt:Nat->Option TI} {hs:FuncId->Nat} {Q:Exit->Act->World->Prop}
theorem Zc4 (a:Act) (d:Option Nat) (v:Value):(a.put d v).tmps.size=a.tmps.size:=by cases d<;>simp [Act.put]
theorem Zf5 [NW] {g g':Gh}{d:Option Nat}{v:SV}{u:List (Nat×Ob)}{cv:Value}(hS:∀t,SVR g w (st.sl t) (a.tmps.getD t undef)) (hU:StU U st) (b:a.defers=[]) (hh:∀v,W.hv=some v->a.tmps.getD 0 undef=v) (hd:∀t,d=some t->t<a.tmps.size/\(W.hv=none\/t≠0))
  (h1:HI W g' (Zn st.ob u) w') (h2:SVR g' w' v cv) (h3:∀x c,svU U x->SVR g w x c->SVR g' w' x c) (h4:svU (Uk U key) v) (h5:∀k,obU (Uk U key) (Zn st.ob u k)) (h6:∀k,¬Uk U key k->Zn st.ob u k=.gone):
  Inv W (Uk U key) ((st.put d v).app u) (a.put d cv) w':=by
 cases d with
 |none=>
  refine ⟨⟨g',h1,fun t=>h3 _ _ (hU.sl t) (hS t)⟩,⟨fun t=>(hU.sl t).mono fun _=>.inl,h5,h6⟩,b,hh⟩
 |some d=>
  have f:=(hd d rfl).1;refine ⟨⟨g',h1,fun t=>?_⟩,⟨fun t=>?_,h5,h6⟩,b,fun u hu=>?_⟩
  .show SVR g' w' (upd st.sl d v t) ((a.tmps.setIfInBounds d cv).getD t undef)
   by_cases ht:t=d
   .subst ht;rw [ZF];simpa [AA,AY,f]using h2
   .rw [ZP _ _ ht];have:(a.tmps.setIfInBounds d cv).getD t undef=a.tmps.getD t undef:=by
     simp [AA,AQ (fun e:d=t=>ht e.symm)]
    rw [this];exact h3 _ _ (hU.sl t) (hS t)
  .show svU (Uk U key) (upd st.sl d v t)
   by_cases ht:t=d
   .subst ht;rw [ZF];exact h4
   .rw [ZP _ _ ht];exact (hU.sl t).mono fun _=>.inl
  .show (a.tmps.setIfInBounds d cv).getD 0 undef=u
   have i:d≠0:=by
    rcases (hd d rfl).2 with h|h
    .rw [h]at hu;simp at hu
    .exact h
   rw [<-hh u hu];simp [AA,AQ i]
theorem Zs6 [NW] {g:Gh}{x:SV}{v:Value}{fc:FuncId×List CT}(a:Zo2 x=some fc) (hs:SVR g w x v):∃cs:List Value,v=.func (.func fc.1) #[] cs.toArray/\ZM (SVR g w) (fc.2.map Zk9) cs:=by
 unfold Zo2 at a;split at a
 .rename_i f es;simp only[A0]at a;subst a;obtain ⟨y,hy,hs⟩:=hs;simp at hy;subst hy;obtain ⟨L,⟨vs,h1,h2⟩,h3⟩:=hs;refine ⟨vs,h1,?_⟩;have:=h2.avr (g:=g) h3;have b:∀(es:List CT) (vs:List Value),ZM (AVR g w) (es.map AV.c) vs->ZM (SVR g w) (es.map Zk9) vs:=by
   intro es;induction es with
   |nil=>intro vs h;cases vs with
    |nil=>trivial
    |cons _ _=>exact h.elim
   |cons e es ih=>intro vs h;cases vs with
    |nil=>exact h.elim
    |cons v vs=>exact ⟨⟨_,rfl,h.1⟩,ih vs h.2⟩
  exact b _ _ this
 .rename_i f;simp only[A0]at a;subst a;exact ⟨[],hs,trivial⟩
 .simp at a
theorem ZpG [NW] (htt:MOk P J JF W tt) {o:Oper}{K:St->Prop}(h:opS tt (SC P J JF hs) key o K st) (hI:Inv W U st a w) (hkey:∀k,key<=k->k<key+16->¬U k) (hd:∀t,o.dst=some t->t<a.tmps.size/\(W.hv=none\/t≠0)):
  o.wp P a w (fun a' w'=>∃st',Inv W (Uk U key) st' a' w'/\a'.tmps.size=a.tmps.size/\K st') Q:=by
 obtain ⟨⟨g,hH,hS⟩,hU,hdef,hh⟩:=hI
 have evals:∀(args:Array Operand) (ts:Array TypeId),ZM (SVR g w) (evs tt st ts.toList args.toList) (args.toList.map a.eval)/\∀x∈evs tt st ts.toList args.toList,svU U x:=fun args ts=>by
  have he:args.toList.map a.eval=(ZjB ts.toList args.toList).map fun p=>a.eval p.2:=by
   have:=congrArg (List.map a.eval) (Zfx ts.toList args.toList)
   rw [<-this,Ah];rfl
  refine ⟨?_,fun x mx=>?_⟩
  .rw [he]
   exact ZM.of_map _ _ fun p _=>(Zlm htt.tt hS hU p.1 p.2).1
  .obtain ⟨p,_,rfl⟩:=A4.1 mx
   exact (Zlm htt.tt hS hU p.1 p.2).2
 have arm:∀(f:FuncId) (n:Nat) (vs:List SV) (cvs:List Value),spK (SC P J JF hs) f n key o.dst K st vs->ZM (SVR g w) vs cvs->(∀x∈vs,svU U x)->(Zez P f->(execOp a.eval o).run P w=.ok (.enter f cvs.toArray) w)->
   o.wp P a w (fun a' w'=>∃st',Inv W (Uk U key) st' a' w'/\a'.tmps.size=a.tmps.size/\K st') Q:=fun f n vs cvs h hargs hargU hrun=>by
  obtain ⟨v,u,hr,hK⟩:=ZlZ.1 h
  obtain ⟨hc,hcall⟩:=Zg1 htt hr hH hU hkey hargs hargU
  unfold Oper.wp
  rw [hrun hc,Oper.upon_enter]
  refine hcall.mono ?_
  rintro e w' ⟨cv,rfl,g',t1,t2,t3,t4,t5,t6⟩
  exact ⟨_,Zf5 hS hU hdef hh hd t1 t2 t3 t4 t5 t6,Zc4 _ _ _,hK⟩
 unfold opS at h
 split at h
 .rename_i c hc
  obtain ⟨f,l1,l2⟩:=c
  have hop:∃args ts,o.op=.call ⟨.value (.func f),args,ts⟩/\l1=ts.toList/\l2=args.toList:=by
   unfold Y7 at hc
   split at hc
   .rename_i f' args ts he
    simp only[A0,A6]at hc
    obtain ⟨rfl,rfl,rfl⟩:=hc
    exact ⟨args,ts,he,rfl,rfl⟩
   .simp at hc
  obtain ⟨args,ts,hop,rfl,rfl⟩:=hop
  refine arm f _ _ _ h (evals args ts).1 (evals args ts).2 ?_
  rintro ⟨fn,f1,f2,f3⟩
  have f2':¬ fn.name = "runtime.NumGoroutine" := by simpa using f2
  have f3':¬fn.body=none:=fun e=>by rw [e]at f3;simp at f3
  have e1:(args.toList.map a.eval).toArray=args.map a.eval:=by
   apply AS
   simp
  rw [e1]
  simp [execOp,hop,resolve,Act.eval,Deferred.ofValue,invoke,callFunc,program,Sem.run,f1,f2',f3']
 .split at h
  .rename_i c hc
   obtain ⟨s,l1,l2⟩:=c
   have hop:∃args ts,o.op=.call ⟨.value (.tmp s),args,ts⟩/\l1=ts.toList/\l2=args.toList:=by
    unfold Xl at hc
    split at hc
    .rename_i s' args ts he
     simp only[A0,A6]at hc
     obtain ⟨rfl,rfl,rfl⟩:=hc
     exact ⟨args,ts,he,rfl,rfl⟩
    .simp at hc
   obtain ⟨args,ts,hop,rfl,rfl⟩:=hop
   unfold YZ at h
   split at h
   .rename_i fc hfc
    obtain ⟨_,h⟩:=h
    have hval:=Zs6 hfc (hS s)
    obtain ⟨cs,hv',hcs⟩:=hval
    have hv:a.eval (.tmp s)=.func (.func fc.1) #[] cs.toArray:=hv'
    refine arm fc.1 0 _ (args.toList.map a.eval++cs) h ((evals args ts).1.append hcs) (fun x mx=>?_) ?_
    .rcases A8.1 mx with m|m
     .exact (evals args ts).2 x m
     .obtain ⟨c,_,rfl⟩:=A4.1 m
      exact XK _
    .rintro ⟨fn,f1,f2,f3⟩
     have f2':¬ fn.name = "runtime.NumGoroutine" := by simpa using f2
     have f3':¬fn.body=none:=fun e=>by rw [e]at f3;simp at f3
     have e1:(args.toList.map a.eval++cs).toArray=args.map a.eval++cs.toArray:=by
      apply AS
      simp
     rw [e1]
     simp [execOp,hop,resolve,hv,Deferred.ofValue,invoke,callFunc,program,Sem.run,f1,f2',f3']
   .exact h.elim
  .unfold YZ at h
   split at h
   .rename_i r hr
    obtain ⟨g',cv,w',hrun,t1,t2,t3,t4,t5,t6⟩:=ZpA (P:=P) (W:=W) (a:=a) htt.tt o hr hH hS hU (hkey key (A7 _) yE)
    unfold Oper.wp
    rcases hrun with hrun|⟨hrun,rfl⟩
    .rw [hrun]
     exact ⟨_,Zf5 hS hU hdef hh hd t1 t2 t3 t4 t5 t6,Zc4 _ _ _,h⟩
    .rw [hrun]
     exact ⟨_,Zf5 hS hU hdef hh hd t1 t2 t3 t4 t5 t6,Zc4 _ _ _,h⟩
   .exact h.elim
theorem ZuR [NW] (hI:Inv W U st a w) (d:Option Nat) (hd:∀t,d=some t->t<a.tmps.size/\(W.hv=none\/t≠0)):Inv W (Uk U key) (st.put d .und) (a.put d undef) w:=by
 obtain ⟨⟨g,hH,hS⟩,hU,b,hh⟩:=hI;exact Zf5 (u:=[]) (key:=key) hS hU b hh hd hH rfl (fun _ _ _ h=>h) trivial (fun k=>(hU.ob k).mono fun _=>.inl) (fun k hk=>hU.gone k fun h=>hk (.inl h))
theorem Zpd [NW] (htt:MOk P J JF W tt) {d:Array Oper}{i:Nat}{o:Oper}{K:St->Prop}(ho:d[i]?=some o) (h:opG tt (SC P J JF hs) d.toList key o K st) (hI:Inv W U st a w) (v:∀k,key<=k->k<key+16->¬U k) (hd:∀t,o.dst=some t->t<a.tmps.size/\(W.hv=none\/t≠0)):
  wpOp P d Q i (fun a' w'=>∃st',Inv W (Uk U key) st' a' w'/\a'.tmps.size=a.tmps.size/\K st') a w:=by
 have f:K (st.put o.dst .und)->∃st',Inv W (Uk U key) st' (a.put o.dst undef) w/\(a.put o.dst undef).tmps.size=a.tmps.size/\K st':=fun hK=>⟨_,ZuR hI _ hd,Zc4 _ _ _,hK⟩
 unfold wpOp;simp only[ho];unfold opG ZaO at h;cases hg:o.guard with
 |none=>
  rw [hg]at h;rw [if_pos (by simp [Region.wanted,hg])];exact .inl (ZpG htt h hI v hd)
 |some jw=>
  obtain ⟨j,l⟩:=jw;rw [hg]at h;simp only at h;cases hj:(d.toList[j]?).bind (·.dst) with
  |none=>
   rw [hj]at h;have m:(d[j]?).bind (·.dst)=none:=by simpa using hj
   rw [if_neg (by simp [Region.wanted,hg,yielded,m])];exact f h
  |some t=>
   rw [hj]at h;have m:(d[j]?).bind (·.dst)=some t:=by simpa using hj
   obtain ⟨⟨g,hH,hS⟩,hU,y,hh⟩:=hI;have u:=hS t;simp only at h;unfold gK at h;split at h
   .rename_i hb;have:∃b,st.sl t=.p false [.c (.bool b)]:=by
     unfold Zav at hb;split at hb
     .rename_i b he;exact ⟨b,he⟩
     .simp at hb
    obtain ⟨b,x⟩:=this;rw [x]at u h;have hv:=Zgr u;have hy:yielded d a.tmps j=some b:=by
     unfold yielded;rw [m,AK];have:a.tmps[t]?=some (.bool b):=by
      rw [AA]at hv;cases he:a.tmps[t]? with
      |none=>rw [he]at hv;simp [undef]at hv
      |some q=>rw [he]at hv;simpa using hv
     rw [this]
    by_cases hw:(b==l)=true
    .rw [if_pos (show (Qg (.p false [.c (.bool b)])==l)=true from hw)]at h;rw [if_pos (by simpa [Region.wanted,hg,hy]using hw)];exact .inl (ZpG htt h ⟨⟨g,hH,hS⟩,hU,y,hh⟩ v hd)
    .rw [if_neg (show ¬(Qg (.p false [.c (.bool b)])==l)=true from hw)]at h;rw [if_neg (by simpa [Region.wanted,hg,hy]using hw)];exact f h
   .split at h
    .rename_i hu;have x:st.sl t=.und:=by
      unfold ZrT at hu;split at hu
      .rename_i he;exact he
      .simp at hu
     rw [x]at u;have e:a.tmps.getD t undef=undef:=u;have hy:yielded d a.tmps j=none:=by
      unfold yielded;rw [m,AK];rw [AA]at e;cases he:a.tmps[t]? with
      |none=>rfl
      |some q=>rw [he]at e;simp at e;rw [e];rfl
     rw [if_neg (by simp [Region.wanted,hg,hy])];exact f h
    .exact h.elim
theorem ZoZ [NW] (htt:MOk P J JF W tt) {b:Array Oper}{N:Nat}(hN:∀o∈b.toList,∀t,o.dst=some t->t<N/\(W.hv=none\/t≠0)) {K:St->Prop}:∀(r:List Oper) (i key:Nat) (U:Nat->Prop) (st:St) (a:Act) (w:World),b.toList.drop i=r->Z7 tt (SC P J JF hs) b.toList key r K st->Inv W U st a w->(∀k,key<=k->¬U k)->a.tmps.size=N->
  (∀U' st' a' w',Inv W U' st' a' w'->(∀k,key+16*r.length<=k->¬U' k)->a'.tmps.size=N->K st'->Q .normal a' w')->wpOps P b Q (AJ i r.length) a w
 | [],i,key,U,st,a,w,_,h,hI,hk,hs,hQ=>hQ U st a w hI (by simpa using hk) hs h
 |o::r,i,key,U,st,a,w,hr,h,hI,hk,hs,hQ=>by
  have hi:b.toList[i]?=some o:=by
   have:=congrArg (fun l=>l[0]?) hr;simpa using this
  have d:b.toList.drop (i+1)=r:=by
   have:=congrArg List.tail hr;simpa using this
  rw [Aj,AU,wpOps_cons];refine wpOp_mono ?_ (Zpd htt (by simpa using hi) h hI (fun k a _=>hk k a) (fun t ht=>by rw [hs];exact hN o (AZ hi) t ht));rintro a' w' ⟨st',e,hs',f⟩;refine ZoZ htt hN r (i+1) (key+16) _ st' a' w' d f e (fun k c hU=>?_) yE (fun U' g a2 w2 h1 h2 h3 h4=>hQ U' g a2 w2 h1 (fun k c=>h2 k (by simp at c;omega)) h3 h4);rcases hU with hU|hU
  .exact hk k yE hU
  .omega
end
end
section
open Go.RowKit
def Zxr:Option TI->Bool
 |some (.slice _ _ _ z)=>z.all Zkq
 |_=>false
def cls (tt:Nat->Option TI) (hs:FuncId->Nat):Op->Nat
 |.move _=>0
 |.assign _=>0
 |.pick _ _ _=>0
 |.build _ _=>0
 |.nilCheck _=>0
 |.binOp _ _ _ _ _=>0
 |.unOp _ _ _=>0
 |.convert _ t _=>if ZcV (tt t)=true then 1 else 0
 |.slice t _ lo hi _=>if ZcV (tt t)=true then 0 else if lo.isSome&&hi.isNone then 4 else 3
 |.fieldAddr _ _ _=>0
 |.field _ _ _=>0
 |.index _ _ _=>0
 |.extract _ _=>0
 |.alloc _=>1
 |.box _ _=>1
 |.load _ _=>1
 |.makeMap _ _=>1
 |.lookup _ _ _ _=>1
 |.makeSlice _ _ _=>1
 |.indexAddr _ _ _=>1
 |.buildSlice t _ ps=>if ps.size=0\/Zxr (tt t)=true then 2 else 3
 |.call ⟨.builtin .len,_,_⟩=>1
 |.call ⟨.builtin .max,_,_⟩=>0
 |.call ⟨.builtin .min,_,_⟩=>0
 |.call ⟨.value (.func f),_,_⟩=>if hs f=0\/hs f=4 then 1 else 4
 |_=>4
section
variable {P:Program} {W:ZaK} {U:Nat->Prop} {key:Nat} {st st':St} {w w':World} {a:Act} {tt:Nat->Option TI} {S:Ctx} {Q:Exit->Act->World->Prop}
def Za0 (tt:Nat->Option TI) (S:Ctx) (key:Nat) (o:Oper) (st:St) (v:SV) (u:List (Nat×Ob)):Prop:=
 match Y7 o.op with
 |some c=>Zbs S c.1 (S.hd c.1) key st (evs tt st c.2.1 c.2.2) v u
 |none=>match Xl o.op with
  |some c=>∃fc,Zo2 (st.sl c.1)=some fc/\S.hd fc.1=0/\Zbs S fc.1 0 key st (evs tt st c.2.1 c.2.2++fc.2.map Zk9) v u
  |none=>opE tt key o st=some (v,u)
def opR (tt:Nat->Option TI) (S:Ctx) (all:List Oper) (key:Nat) (o:Oper) (st:St) (v:SV) (u:List (Nat×Ob)):Prop:=
 match ZaO all o with
 |none=>Za0 tt S key o st v u
 |some (none,_)=>v=.und/\u=[]
 |some (some t,want)=>gK (st.sl t) want (Za0 tt S key o st v u) (v=.und/\u=[])
theorem ZuA [NW] {o:Oper}{K:St->Prop}:opS tt S key o K st↔∃v u,Za0 tt S key o st v u/\K ((st.put o.dst v).app u):=by
 cases hc:Y7 o.op with
 |some c=>
  simp only[opS,Za0,hc];exact ZlZ
 |none=>
  simp only[opS,Za0,hc];cases hd:Xl o.op with
  |some c=>
   simp only;constructor
   .intro h;unfold YZ at h;split at h
    .rename_i fc a;obtain ⟨h0,h⟩:=h;obtain ⟨v,u,h1,h2⟩:=ZlZ.1 h;exact ⟨v,u,⟨fc,a,h0,h1⟩,h2⟩
    .exact h.elim
   .rintro ⟨v,u,⟨fc,a,h0,h1⟩,h2⟩;rw [a];exact ⟨h0,ZlZ.2 ⟨v,u,h1,h2⟩⟩
  |none=>
   simp only;constructor
   .intro h;unfold YZ at h;split at h
    .rename_i r hr;exact ⟨r.1,r.2,hr,h⟩
    .exact h.elim
   .rintro ⟨v,u,h1,h2⟩;rw [h1];exact h2
theorem ZhZ [NW] {all:List Oper}{o:Oper}{K:St->Prop}:opG tt S all key o K st↔∃v u,opR tt S all key o st v u/\K ((st.put o.dst v).app u):=by
 have a:K (st.put o.dst .und)↔∃v u,(v=SV.und/\u=[])/\K ((st.put o.dst v).app u):=by
  constructor
  .intro h;exact ⟨.und,[],⟨rfl,rfl⟩,h⟩
  .rintro ⟨v,u,⟨rfl,rfl⟩,h⟩;exact h
 cases hg:ZaO all o with
 |none=>simp only[opG,opR,hg];exact ZuA
 |some q=>
  obtain ⟨q,b⟩:=q;cases q with
  |none=>simp only[opG,opR,hg];exact a
  |some t=>
   simp only[opG,opR,hg,gK];by_cases h1:Zav (st.sl t)=true
   .by_cases h2:(Qg (st.sl t)==b)=true
    .simp only[h1,h2,if_true];exact ZuA
    .simp only[h1,h2,if_true,if_false];exact a
   .by_cases h2:ZrT (st.sl t)=true
    .simp only[h1,h2,if_true,if_false];exact a
    .simp only[h1,h2,if_false];simp
theorem ZdI [NW] {ts:List TypeId}{xs:List Operand}(h:∀x∈xs,∀t,st.ev tt t x=st'.ev tt t x):evs tt st ts xs=evs tt st' ts xs:=by
 unfold evs;refine AL fun p hp=>h p.2 ?_ p.1;rw [<-Zfx ts xs];exact A4.2 ⟨p,hp,rfl⟩
def Wk (st st':St) (U:Nat->Prop):Prop:=∀k,U k->st'.ob k=st.ob k\/st'.ob k=Yc (st.ob k)
theorem Wk.of (h:∀k,U k->st.ob k=st'.ob k):Wk st st' U:=fun k hk=>.inl (h k hk).symm
theorem ZhB (a:Wk st st' U):∀{xs:List AV},QW U xs->Y0 st xs=Y0 st' xs
 | [],_=>rfl
 |x::r,h=>by
  have hx:Zb9 st x=Zb9 st' x:=by
   cases x with
   |row k=>
    simp only[Zb9];rcases a k (h (.row k) yG) with e|e
    .rw [e]
    .rw [e];cases st.ob k<;>rfl
   |_=>rfl
  have hr:=ZhB a (xs:=r) (fun y m=>h y (by simp [m]));simp only[Y0,hx,hr]
theorem ZeZ [NW] (a:Wk st st' U):∀{xs:List SV},(∀x∈xs,svU U x)->Z1 st xs=Z1 st' xs
 | [],_=>rfl
 |x::r,h=>by
  have hx:Zdh st x=Zdh st' x:=by
   cases x with
   |p ag cs=>simp only[Zdh,ZhB a (h (.p ag cs) yG)]
   |_=>rfl
  have hr:=ZeZ a (xs:=r) (fun y m=>h y (by simp [m]));simp only[Z1,hx,hr]
theorem ZtS (a:Wk st st' U) {t:Option TI}{x:SV}(hx:svU U x):QZ st t x=QZ st' t x:=by
 cases x with
 |bp k off=>
  simp only[QZ];rcases a k hx with e|e
  .rw [e]
  .rw [e];cases st.ob k<;>rfl
 |rp k m i off=>
  simp only[QZ];rcases a k hx with e|e
  .rw [e]
  .rw [e];cases st.ob k<;>rfl
 |p ag cs=>cases ag with
  |true=>rfl
  |false=>cases cs with
   |nil=>rfl
   |cons y r=>cases r<;>cases y<;>first|rfl|(rename_i z;cases z<;>rfl)|(rename_i z _ _;cases z<;>rfl)
 |_=>rfl
theorem Zvo (a:Wk st st' U) {t:Option TI}{x:SV}(hx:svU U x):Zn4 st t x=Zn4 st' t x:=by
 unfold Zn4;split<;>try rfl
 rename_i k;rcases a k (hx (.row k) yG) with e|e
 .rw [e]
 .rw [e];cases st.ob k<;>rfl
theorem Zp6 (a:Wk st st' U) {m:Nat}{x i:SV}(hx:svU U x):ZbC st m x i=ZbC st' m x i:=by
 unfold ZbC;split<;>try rfl
 rename_i k _ _;rcases a k (hx (.row k) yG) with e|e
 .rw [e]
 .rw [e];cases st.ob k<;>rfl
theorem Zvt (a:st.ob=st'.ob) (x:SV):ZjZ st x=ZjZ st' x:=by
 unfold ZjZ;rw [a]
theorem ZnJ [NW] (a:st.ob=st'.ob):∀xs:List SV,ZeM st xs=ZeM st' xs
 | []=>rfl
 |x::r=>by simp only[ZeM,Zvt a x,ZnJ a r]
theorem ZtR (a:Wk st st' U) {t:Option TI}{x i:SV}{ok:Bool}(hx:svU U x):Zhf st t x i ok=Zhf st' t x i ok:=by
 unfold Zhf;split<;>try rfl
 rename_i k;rcases a k (hx (.row k) yG) with e|e
 .rw [e]
 .rw [e];cases st.ob k<;>rfl
theorem ZtL (a:Wk st st' U) {x:SV}(hx:svU U x):ZiG st x=ZiG st' x:=by
 unfold ZiG;split<;>try rfl
 rename_i k;rcases a k (hx (.row k) yG) with e|e
 .rw [e]
 .rw [e];cases st.ob k<;>rfl
theorem ZtM [NW] (a:Wk st st' U) {s t:Nat}{x:SV}(hx:svU U x):ZgN tt st s t x=ZgN tt st' s t x:=by
 unfold ZgN;rw [ZtL a hx]
def Mk (st st':St) (U:Nat->Prop):Prop:=∀k,U k->st'.ob k=st.ob k\/st'.ob k=.gone
theorem Zk8 (c:Mk st st' U):∀{xs:List AV}{r:List CT},QW U xs->Y0 st' xs=some r->Y0 st xs=some r
 | [],_,_,h=>h
 |x::xs,r,hu,h=>by
  simp only[Y0]at h ⊢;obtain ⟨a,h1,h⟩:=A5.1 h;obtain ⟨b,h2,rfl⟩:=A3.1 h;have hx:Zb9 st x=some a:=by
   cases x with
   |row k=>
    simp only[Zb9]at h1 ⊢;rcases c k (hu (.row k) yG) with e|e
    .rwa [e]at h1
    .rw [e]at h1;simp at h1
   |_=>exact h1
  rw [hx,AK,Zk8 c (fun y m=>hu y (by simp [m])) h2];rfl
theorem ZhD [NW] (c:Mk st st' U):∀{xs:List SV}{r:List (Bool×List CT)},(∀x∈xs,svU U x)->Z1 st' xs=some r->Z1 st xs=some r
 | [],_,_,h=>h
 |x::xs,r,hu,h=>by
  simp only[Z1]at h ⊢;obtain ⟨a,h1,h⟩:=A5.1 h;obtain ⟨b,h2,rfl⟩:=A3.1 h;have hx:Zdh st x=some a:=by
   cases x with
   |p ag cs=>
    simp only[Zdh]at h1 ⊢;obtain ⟨l,h3,rfl⟩:=A3.1 h1;rw [Zk8 c (hu (.p ag cs) yG) h3];rfl
   |_=>exact h1
  rw [hx,AK,ZhD c (fun y m=>hu y (by simp [m])) h2];rfl
theorem Ztk (a:Mk st st' U) {t:Option TI}{x r:SV}(hx:svU U x) (h:QZ st' t x=some r):QZ st t x=some r:=by
 cases x with
 |bp k off=>
  simp only[QZ]at h ⊢;rcases a k hx with e|e
  .rwa [e]at h
  .rw [e]at h;simp at h
 |rp k m i off=>
  simp only[QZ]at h ⊢;rcases a k hx with e|e
  .rwa [e]at h
  .rw [e]at h;simp at h
 |p ag cs=>cases ag with
  |true=>exact h
  |false=>cases cs with
   |nil=>exact h
   |cons y r=>cases r<;>cases y<;>first|exact h|(rename_i z;cases z<;>exact h)|(rename_i z _ _;cases z<;>exact h)
 |_=>exact h
theorem Zvg (a:Mk st st' U) {t:Option TI}{x r:SV}(hx:svU U x) (h:Zn4 st' t x=some r):Zn4 st t x=some r:=by
 unfold Zn4 at h ⊢;split at h<;>try exact h
 rename_i k;rcases a k (hx (.row k) yG) with e|e
 .rwa [e]at h
 .rw [e]at h;simp at h
theorem ZqW (a:Mk st st' U) {m:Nat}{x i r:SV}(hx:svU U x) (h:ZbC st' m x i=some r):ZbC st m x i=some r:=by
 unfold ZbC at h ⊢;split at h<;>try exact h
 rename_i k _ _;rcases a k (hx (.row k) yG) with e|e
 .rwa [e]at h
 .rw [e]at h;simp at h
theorem Zti (a:Mk st st' U) {t:Option TI}{x i r:SV}{ok:Bool}(hx:svU U x) (h:Zhf st' t x i ok=some r):Zhf st t x i ok=some r:=by
 unfold Zhf at h ⊢;split at h<;>try exact h
 rename_i k;rcases a k (hx (.row k) yG) with e|e
 .rwa [e]at h
 .rw [e]at h;simp at h
theorem ZtG (a:Mk st st' U) {x r:SV}(hx:svU U x) (h:ZiG st' x=some r):ZiG st x=some r:=by
 unfold ZiG at h ⊢;split at h<;>try exact h
 rename_i k;rcases a k (hx (.row k) yG) with e|e
 .rwa [e]at h
 .rw [e]at h;simp at h
theorem ZpQ [NW] {o:Oper}{sl a:Nat->SV}{ob:Nat->Ob}{n n':Nat}(hl:∀x∈o.op.operands,∀t,St.ev tt ⟨sl,ob,n⟩ t x=St.ev tt ⟨a,ob,n'⟩ t x):opE tt key o ⟨sl,ob,n⟩=opE tt key o ⟨a,ob,n'⟩:=by
 obtain ⟨dst,op,ty,pos,af,gd⟩:=o;cases op with
 |build t d=>
  have hp:∀fs z,d.toList.map (ZgA tt ⟨sl,ob,n⟩ fs z)=d.toList.map (ZgA tt ⟨a,ob,n'⟩ fs z):=fun fs z=>AL fun p hp=>by
   have:=hl p.2 (by simp [Op.operands];exact ⟨p.1,by simpa using hp⟩) 0;unfold ZgA;split
   .rfl
   .rw [this]
  simp only[opE,hp]
 |buildSlice t len d=>
  have hp:∀e,(d.toList.map fun p=>St.ev tt ⟨sl,ob,n⟩ e p.2)=d.toList.map fun p=>St.ev tt ⟨a,ob,n'⟩ e p.2:=fun e=>AL fun p hp=>hl p.2 (by simp [Op.operands];exact ⟨p.1,by simpa using hp⟩) e;have he:∀m l,Xi ⟨sl,ob,n⟩ m l=Xi ⟨a,ob,n'⟩ m l:=fun m l=>by
   have h1:∀x,avT ⟨sl,ob,n⟩ x=avT ⟨a,ob,n'⟩ x:=fun x=>by cases x<;>rfl
   have h2:∀xs,ZgE ⟨sl,ob,n⟩ xs=ZgE ⟨a,ob,n'⟩ xs:=fun xs=>by
    induction xs with
    |nil=>rfl
    |cons x xs ih=>simp only[ZgE,h1,ih]
   induction l with
   |nil=>rfl
   |cons x xs ih=>cases x<;>simp only[Xi,h2,ih]
  have hz:∀ks,ZU ⟨sl,ob,n⟩ ks=ZU ⟨a,ob,n'⟩ ks:=fun ks=>by
   induction ks with
   |nil=>rfl
   |cons k r ih=>simp only[ZU,ih]
  simp only[opE,hp,he,hz]
 |slice t x lo hi mx=>
  simp only[Op.operands]at hl;cases mx with
  |some _=>rfl
  |none=>
   have hx:=fun t=>hl x yG t;cases lo with
   |none=>cases hi with
    |none=>simp only[opE,hx,AF];rfl
    |some h=>have hh:=fun t=>hl h yG t;simp only[opE,hx,hh,AF,AG];rfl
   |some l=>
    have q:=fun t=>hl l yG t;cases hi with
    |none=>simp only[opE,hx,q,AF,AG];rfl
    |some h=>have hh:=fun t=>hl h yG t;simp only[opE,hx,q,hh,AG];rfl
 |call c=>
  obtain ⟨g,args,ts⟩:=c;cases g with
  |builtin b=>
   have:=ZdI (tt:=tt) (st:=⟨sl,ob,n⟩) (st':=⟨a,ob,n'⟩) (ts:=ts.toList) (xs:=args.toList) (fun x m t=>hl x (by simp [Op.operands,Call.operands];simpa using m) t);simp only[opE,this];unfold Zf7;split<;>rfl
  |value f=>rfl
  |invoke r m=>rfl
 |move x=>have:=fun t=>hl x (by simp [Op.operands]) t;simp only[opE,this]
 |assign x=>have:=fun t=>hl x (by simp [Op.operands]) t;simp only[opE,this]
 |pick c x y=>have h1:=fun t=>hl c (by simp [Op.operands]) t;have h2:=fun t=>hl x (by simp [Op.operands]) t;have h3:=fun t=>hl y (by simp [Op.operands]) t;simp only[opE,h1,h2,h3]
 |alloc t=>rfl
 |box t x=>have:=fun t=>hl x (by simp [Op.operands]) t;simp only[opE,this]
 |load t x=>have:=fun t=>hl x (by simp [Op.operands]) t;simp only[opE,this];rfl
 |store t x v=>have h1:=fun t=>hl x (by simp [Op.operands]) t;have h2:=fun t=>hl v (by simp [Op.operands]) t;simp only[opE,h1,h2];rfl
 |nilCheck x=>have:=fun t=>hl x (by simp [Op.operands]) t;simp only[opE,this]
 |binOp op t x y t'=>have h1:=fun t=>hl x (by simp [Op.operands]) t;have h2:=fun t=>hl y (by simp [Op.operands]) t;simp only[opE,h1,h2]
 |unOp op t x=>have:=fun t=>hl x (by simp [Op.operands]) t;simp only[opE,this]
 |convert s t x=>have:=fun t=>hl x (by simp [Op.operands]) t;simp only[opE,this];rfl
 |makeFunc fn first j=>
  cases fn with
  |func f=>
   have hc:j.toList.map (St.ev tt ⟨sl,ob,n⟩ 0)=j.toList.map (St.ev tt ⟨a,ob,n'⟩ 0):=AL fun x hx=>hl x (by simp [Op.operands];exact .inr (by simpa using hx)) 0;simp only[opE,hc,ZnJ (st:=⟨sl,ob,n⟩) (st':=⟨a,ob,n'⟩) rfl]
  |_=>rfl
 |makeMap t r=>cases r<;>rfl
 |lookup t x i ok=>have h1:=fun t=>hl x (by simp [Op.operands]) t;have h2:=fun t=>hl i (by simp [Op.operands]) t;simp only[opE,h1,h2];rfl
 |mapUpdate t x i v=>have h1:=fun t=>hl x (by simp [Op.operands]) t;have h2:=fun t=>hl i (by simp [Op.operands]) t;have h3:=fun t=>hl v (by simp [Op.operands]) t;simp only[opE,h1,h2,h3];rfl
 |makeSlice t x y=>have h1:=fun t=>hl x (by simp [Op.operands]) t;have h2:=fun t=>hl y (by simp [Op.operands]) t;simp only[opE,h1,h2]
 |fieldAddr t x f=>have:=fun t=>hl x (by simp [Op.operands]) t;simp only[opE,this]
 |field t x f=>have:=fun t=>hl x (by simp [Op.operands]) t;simp only[opE,this]
 |indexAddr t x y=>have h1:=fun t=>hl x (by simp [Op.operands]) t;have h2:=fun t=>hl y (by simp [Op.operands]) t;simp only[opE,h1,h2];rfl
 |index t x y=>have h1:=fun t=>hl x (by simp [Op.operands]) t;have h2:=fun t=>hl y (by simp [Op.operands]) t;simp only[opE,h1,h2]
 |extract x i=>have:=fun t=>hl x (by simp [Op.operands]) t;simp only[opE,this]
 |_=>rfl
theorem ZuI (sl:Nat->SV) (ob ob':Nat->Ob) (n n' t:Nat) (x:Operand):St.ev tt ⟨sl,ob,n⟩ t x=St.ev tt ⟨sl,ob',n'⟩ t x:=by cases x<;>rfl
theorem ZxV {st st':St}(h:∀k,U k->st.ob k=st'.ob k) {x:AV}(hx:avU U x):avT st x=avT st' x:=by
 cases x with
 |row k=>simp only[avT];rw [h k hx]
 |c x=>cases x<;>rfl
 |nil e m=>rfl
 |n x=>rfl
 |dead=>rfl
theorem ZpD [NW] {st st':St}(h:∀k,U k->st.ob k=st'.ob k):∀{xs:List AV},QW U xs->ZgE st xs=ZgE st' xs
 | [],_=>rfl
 |x::r,hx=>by simp only[ZgE];rw [ZxV h (hx x yG),ZpD h fun y m=>hx y (by simp [m])]
theorem Zlf [NW] {st st':St}{m:Nat}(h:∀k,U k->st.ob k=st'.ob k):∀{xs:List SV},(∀v∈xs,svU U v)->Xi st m xs=Xi st' m xs
 | [],_=>rfl
 |.p a cs::r,hx=>by
  simp only[Xi];rw [ZpD h (hx (.p a cs) yG),Zlf h fun v mv=>hx v (by simp [mv])]
 |.any::r,_=>rfl
 |.und::r,_=>rfl
 |.tup _::r,_=>rfl
 |.bp _ _::r,_=>rfl
 |.rp _ _ _ _::r,_=>rfl
 |.ep _ _::r,_=>rfl
 |.fn _::r,_=>rfl
theorem Zwh {x:AV}{ct:CT}{ks:List Nat}{d:Nat}(h:avT st x=some (ct,ks,d)) (hx:avU U x):∀k∈ks,U k:=by
 intro k mk;cases x with
 |c y=>cases y<;>simp only[avT,A0,A6]at h<;>(rw [<-h.2.1]at mk;simp at mk)
 |nil e m=>
  simp only[avT]at h;split at h<;>simp only[A0,A6,reduceCtorEq]at h
  rw [<-h.2.1]at mk;simp at mk
 |row j=>
  simp only[avT]at h;split at h
  .split at h<;>simp only[A0,A6]at h
   .rw [<-h.2.1]at mk;simp at mk
   .rw [<-h.2.1]at mk;simp at mk;subst mk;exact hx
  .simp at h
 |n x=>simp [avT]at h
 |dead=>simp [avT]at h
theorem ZnY [NW]:∀{xs:List AV}{cts:List CT}{ks:List Nat}{d:Nat},ZgE st xs=some (cts,ks,d)->QW U xs->∀k∈ks,U k
 | [],_,_,_,h,_,k,mk=>by simp only[ZgE,A0,A6]at h;rw [<-h.2.1]at mk;simp at mk
 |x::r,_,_,_,h,hu,k,mk=>by
  simp only[ZgE]at h;obtain ⟨⟨c1,k1,d1⟩,h1,h⟩:=A5.1 h;obtain ⟨⟨c2,k2,d2⟩,h2,h⟩:=A3.1 h;simp only[A6]at h;rw [<-h.2.1]at mk;rcases A8.1 mk with mk|mk
  .exact Zwh h1 (hu x yG) k mk
  .exact ZnY h2 (fun y my=>hu y (by simp [my])) k mk
theorem ZfY [NW] {m:Nat}:∀{xs:List SV}{es:List (List CT)}{ks:List Nat}{d:Nat},Xi st m xs=some (es,ks,d)->(∀v∈xs,svU U v)->∀k∈ks,U k
 | [],_,_,_,h,_,k,mk=>by simp only[Xi,A0,A6]at h;rw [<-h.2.1]at mk;simp at mk
 |x::r,_,_,_,h,hu,k,mk=>by
  cases x with
  |p a cs=>
   simp only[Xi]at h;split at h
   .obtain ⟨⟨c1,k1,d1⟩,h1,h⟩:=A5.1 h;obtain ⟨⟨c2,k2,d2⟩,h2,h⟩:=A3.1 h;simp only[A6]at h;rw [<-h.2.1]at mk;rcases A8.1 mk with mk|mk
    .exact ZnY h1 (hu (.p a cs) yG) k mk
    .exact ZfY h2 (fun v mv=>hu v (by simp [mv])) k mk
   .simp at h
  |_=>simp [Xi]at h
theorem Zrs {st st':St}{ks:List Nat}(h:∀k∈ks,st.ob k=st'.ob k):ZU st ks=ZU st' ks:=by
 induction ks with
 |nil=>rfl
 |cons k r ih=>simp only[ZU,h k yG,ih fun j mj=>h j (by simp [mj])]
theorem ZmG {ks:List Nat}{p:Nat×Ob}(h:p∈ZU st ks):p.1∈ks/\p.2=Yc (st.ob p.1):=by
 induction ks with
 |nil=>simp [ZU]at h
 |cons k r ih=>
  simp only[ZU,A9]at h;rcases h with rfl|h
  .exact ⟨yG,rfl⟩
  .exact ⟨by simp [(ih h).1],(ih h).2⟩
theorem Zl0 [NW] {hs:FuncId->Nat}{o:Oper}{sl:Nat->SV}{ob ob':Nat->Ob}{n n':Nat}(h:cls tt hs o.op=0\/(cls tt hs o.op<=3/\(∀k,U k->ob k=ob' k)/\∀t x,svU U (St.ev tt ⟨sl,ob,n⟩ t x))\/(cls tt hs o.op<=1/\Wk ⟨sl,ob,n⟩ ⟨sl,ob',n'⟩ U/\∀t x,svU U (St.ev tt ⟨sl,ob,n⟩ t x))):opE tt key o ⟨sl,ob,n⟩=opE tt key o ⟨sl,ob',n'⟩:=by
 have he:=fun t x=>ZuI (tt:=tt) sl ob ob' n n' t x;have q:cls tt hs o.op<=3:=by rcases h with h|h|h<;>omega
 have j:cls tt hs o.op=0\/(Wk ⟨sl,ob,n⟩ ⟨sl,ob',n'⟩ U/\∀t x,svU U (St.ev tt ⟨sl,ob',n'⟩ t x)):=by
  rcases h with h|h|h
  .exact .inl h
  .exact .inr ⟨fun k hk=>.inl (h.2.1 k hk).symm,fun t x=>he t x ▸ h.2.2 t x⟩
  .exact .inr ⟨h.2.1,fun t x=>he t x ▸ h.2.2 t x⟩
 obtain ⟨dst,op,ty,pos,af,gd⟩:=o;cases op with
 |build t d=>
  have hp:∀fs z,d.toList.map (ZgA tt ⟨sl,ob,n⟩ fs z)=d.toList.map (ZgA tt ⟨sl,ob',n'⟩ fs z):=fun fs z=>AL fun p hp=>by
   unfold ZgA;split
   .rfl
   .rw [he]
  simp only[opE,hp]
 |buildSlice t len d=>
  have hc:2<=cls tt hs (.buildSlice t len d):=by simp only[cls];split<;>omega
  have h':(∀k,U k->ob k=ob' k)/\∀t x,svU U (St.ev tt ⟨sl,ob,n⟩ t x):=by
   rcases h with h|h|h
   .simp only at h;omega
   .exact h.2
   .simp only at h;omega
  obtain ⟨h1,h2⟩:=h';simp only[opE,he];split
  .rename_i e m _ z _;have hu:∀v∈d.toList.map (fun p=>St.ev tt ⟨sl,ob',n'⟩ e p.2),svU U v:=fun v mv=>by obtain ⟨p,_,rfl⟩:=A4.1 mv;rw [<-he];exact h2 _ _
   rw [Zlf (U:=U) (st:=⟨sl,ob,n⟩) (st':=⟨sl,ob',n'⟩) h1 hu];cases hel:Xi ⟨sl,ob',n'⟩ m (d.toList.map fun p=>St.ev tt ⟨sl,ob',n'⟩ e p.2) with
   |none=>rfl
   |some a=>
    have hk:=ZfY (U:=U) hel hu;have:=Zrs (st:=⟨sl,ob,n⟩) (st':=⟨sl,ob',n'⟩) (ks:=a.2.1) (fun k mk=>h1 k (hk k mk));simp only[AK,this]
  .rfl
 |load t x=>
  obtain ⟨h1,h2⟩:=j.resolve_left (by simp [cls]);simp only[opE,he];rw [ZtS (U:=U) (st:=⟨sl,ob,n⟩) (st':=⟨sl,ob',n'⟩) h1 (h2 0 x)]
 |indexAddr t x y=>
  obtain ⟨h1,h2⟩:=j.resolve_left (by simp [cls]);simp only[opE,he];split
  .rw [Zp6 (U:=U) (st:=⟨sl,ob,n⟩) (st':=⟨sl,ob',n'⟩) h1 (h2 0 x)]
  .rfl
 |call c=>
  obtain ⟨u,args,ts⟩:=c;cases u with
  |builtin b=>
   have A:evs tt ⟨sl,ob,n⟩ ts.toList args.toList=evs tt ⟨sl,ob',n'⟩ ts.toList args.toList:=ZdI fun x _ t=>he t x;simp only[opE,A];unfold Zf7;split
   .rename_i t _ v he1 B;obtain ⟨h1,h2⟩:=j.resolve_left (by simp [cls]);have hu:svU U v:=by
     have hm:v∈evs tt ⟨sl,ob',n'⟩ ts.toList args.toList:=by simp [B]
     obtain ⟨p,_,rfl⟩:=A4.1 hm;exact h2 _ _
    rw [Zvo (U:=U) (st:=⟨sl,ob,n⟩) (st':=⟨sl,ob',n'⟩) h1 hu]
   .simp [cls]at q
   .rfl
   .rfl
   .rfl
  |value f=>rfl
  |invoke r m=>rfl
 |store t x v=>simp [cls]at q
 |makeFunc fn first caps=>simp [cls]at q
 |mapUpdate t x i v=>simp [cls]at q
 |makeMap t r=>cases r<;>rfl
 |lookup t x i ok=>
  obtain ⟨h1,h2⟩:=j.resolve_left (by simp [cls]);simp only[opE,he];rw [ZtR (U:=U) (st:=⟨sl,ob,n⟩) (st':=⟨sl,ob',n'⟩) h1 (h2 0 x)]
 |convert s t x=>
  simp only[opE,he];by_cases w:ZcV (tt t)=true
  .obtain ⟨h1,h2⟩:=j.resolve_left (by simp [cls,w]);rw [ZtM (U:=U) (st:=⟨sl,ob,n⟩) (st':=⟨sl,ob',n'⟩) h1 (h2 0 x)]
  .have e:∀st:St,ZgN tt st s t (St.ev tt ⟨sl,ob',n'⟩ 0 x)=ZrI (tt s) (tt t) (St.ev tt ⟨sl,ob',n'⟩ 0 x):=fun st=>by
    unfold ZgN;rw [if_neg (by simp [w])]
   rw [e,e]
 |slice t x lo hi mx=>
  cases mx with
  |some _=>rfl
  |none=>
   by_cases g:ZcV (tt t)=true
   .have C:Zb4 (tt t)=false:=by
     unfold ZcV at g;split at g
     .rename_i e;rw [e];rfl
     .simp at g
    have hu:∀l h v,Zaf ⟨sl,ob,n⟩ key (tt t) l h v=Zaf ⟨sl,ob',n'⟩ key (tt t) l h v:=fun l h v=>by
     unfold Zaf;split
     .simp [C]
     .rfl
     .rfl
    cases lo<;>cases hi<;>simp only[opE,he,AF,AG,hu]
   .have hc:2<cls tt hs (.slice t x lo hi none):=by simp only[cls];rw [if_neg g];split<;>omega
    have h':(∀k,U k->ob k=ob' k)/\∀t x,svU U (St.ev tt ⟨sl,ob,n⟩ t x):=by
     rcases h with h|h|h
     .simp only at h;omega
     .exact h.2
     .simp only at h;omega
    obtain ⟨h1,h2⟩:=h';have hu:∀l h v,svU U v->Zaf ⟨sl,ob,n⟩ key (tt t) l h v=Zaf ⟨sl,ob',n'⟩ key (tt t) l h v:=fun l h v hv=>by
     unfold Zaf;split
     .rename_i k;have hk:U k:=hv (.row k) yG;simp only[h1 k hk]
     .rfl
     .rfl
    simp only[opE,he];exact hu _ _ _ (he 0 x ▸ h2 0 x)
 |_=>first|rfl|simp only[opE,he]
theorem Zew {x y:Option SV}{r:SV×List (Nat×Ob)}(h:∀v,x=some v->y=some v) (hx:Zbo x=some r):Zbo y=some r:=by
 obtain ⟨v,h1,rfl⟩:=A3.1 hx;rw [h v h1];rfl
theorem Zxu [NW] {hs:FuncId->Nat}{o:Oper}{sl:Nat->SV}{ob ob':Nat->Ob}{n n':Nat}{r:SV×List (Nat×Ob)}(hc:cls tt hs o.op<=1) (a:Mk ⟨sl,ob,n⟩ ⟨sl,ob',n'⟩ U) (hu:∀t x,svU U (St.ev tt ⟨sl,ob,n⟩ t x)) (h:opE tt key o ⟨sl,ob',n'⟩=some r):opE tt key o ⟨sl,ob,n⟩=some r:=by
 have he:=fun t x=>ZuI (tt:=tt) sl ob ob' n n' t x;by_cases h0:cls tt hs o.op=0
 .rw [Zl0 (U:=U) (n':=n') (ob':=ob') (.inl h0)];exact h
 obtain ⟨dst,op,ty,pos,af,gd⟩:=o;cases op with
 |load t x=>
  simp only[opE,he]at h ⊢;exact Zew (fun v hv=>Ztk a (he 0 x ▸ hu 0 x) hv) h
 |indexAddr t x y=>
  simp only[opE,he]at h ⊢;split at h
  .exact Zew (fun v hv=>ZqW a (he 0 x ▸ hu 0 x) hv) h
  .simp at h
 |lookup t x i ok=>
  simp only[opE,he]at h ⊢;exact Zew (fun v hv=>Zti a (he 0 x ▸ hu 0 x) hv) h
 |convert s t x=>
  simp only[opE,he]at h ⊢;refine Zew (fun v hv=>?_) h;unfold ZgN at hv ⊢;split at hv
  .rename_i hb;rw [if_pos hb];exact ZtG a (he 0 x ▸ hu 0 x) hv
  .rename_i hb;rw [if_neg hb];exact hv
 |call c=>
  obtain ⟨d,args,ts⟩:=c;cases d with
  |builtin b=>
   have e:evs tt ⟨sl,ob,n⟩ ts.toList args.toList=evs tt ⟨sl,ob',n'⟩ ts.toList args.toList:=ZdI fun x _ t=>he t x;simp only[opE,e]at h ⊢;unfold Zf7 at h ⊢;split at h
   .rename_i t _ v he1 g;have j:svU U v:=by
     have hm:v∈evs tt ⟨sl,ob',n'⟩ ts.toList args.toList:=by simp [g]
     obtain ⟨p,_,rfl⟩:=A4.1 hm;rw [<-he];exact hu _ _
    exact Zew (fun w hw=>Zvg a j hw) h
   .simp [cls]at hc
   .exact h
   .exact h
   .exact h
  |value f=>exact h
  |invoke r m=>exact h
 |slice t x lo hi mx=>simp only[cls]at hc h0;split at hc<;>rename_i hq<;>simp [hq]at h0<;>(split at hc<;>omega)
 |buildSlice t len parts=>simp only[cls]at hc;split at hc<;>omega
 |store t x v=>simp [cls]at hc
 |makeFunc fn first caps=>simp [cls]at hc
 |mapUpdate t x i v=>simp [cls]at hc
 |makeMap t r=>cases r<;>exact h
 |_=>first|exact h|(simp only[opE,he]at h ⊢;exact h)
theorem YX:∀(cts:List (Bool×CT)) (key:Nat),key<=(Ya key cts).2.2/\∀p∈(Ya key cts).2.1,key<=p.1/\p.1<(Ya key cts).2.2
 | [],key=>by simp [Ya]
 |(true,x)::r,key=>YX r key
 |(false,ct)::r,key=>by
  cases ct with
  |sl e m xs=>
   obtain ⟨h1,h2⟩:=YX r (key+1);refine ⟨by simp only[Ya];omega,fun p hp=>?_⟩;simp only[Ya,A9]at hp ⊢;rcases hp with rfl|hp
   .exact ⟨A7 _,by simp only;omega⟩
   .have:=h2 p hp;omega
  |int k n=>exact YX r key
  |bool b=>exact YX r key
  |str s=>exact YX r key
  |ifc s=>exact YX r key
  |any=>exact YX r key
  |nl a b=>exact YX r key
  |pt s=>exact YX r key
  |fn f s=>exact YX r key
  |mp a b s=>exact YX r key
theorem Zht [NW]:∀(a:List RT) (key:Nat),key<=(ZK key a).2.2/\∀p∈(ZK key a).2.1,key<=p.1/\p.1<(ZK key a).2.2
 | [],key=>by simp [ZK]
 |x::r,key=>by
  obtain ⟨h1,h2⟩:=YX x.2 key;obtain ⟨h3,h4⟩:=Zht r (Ya key x.2).2.2;refine ⟨by simp only[ZK];omega,fun p hp=>?_⟩;simp only[ZK,A8]at hp ⊢;rcases hp with hp|hp
  .have:=h2 p hp;omega
  .have:=h4 p hp;omega
theorem Xf {v:Option SV}{r:SV×List (Nat×Ob)}(h:Zbo v=some r):r.2=[]:=by
 obtain ⟨u,_,rfl⟩:=A3.1 h;rfl
theorem Zxj [NW] {hs:FuncId->Nat}{o:Oper}{r:SV×List (Nat×Ob)}(hU:∀t x,svU U (st.ev tt t x)) (h:opE tt key o st=some r):(cls tt hs o.op=0->r.2=[])/\(cls tt hs o.op<=2->∀p∈r.2,key<=p.1/\p.1<key+16)/\(cls tt hs o.op<=3->∀p∈r.2,(key<=p.1/\p.1<key+16)\/(U p.1/\p.2=Yc (st.ob p.1))):=by
 have nil:r.2=[]->(cls tt hs o.op=0->r.2=[])/\(cls tt hs o.op<=2->∀p∈r.2,key<=p.1/\p.1<key+16)/\(cls tt hs o.op<=3->∀p∈r.2,(key<=p.1/\p.1<key+16)\/(U p.1/\p.2=Yc (st.ob p.1))):=fun e=>⟨fun _=>e,fun _ p hp=>by simp [e]at hp,fun _ p hp=>by simp [e]at hp⟩
 obtain ⟨dst,op,ty,pos,af,gd⟩:=o;cases op with
 |move x=>simp only[opE,A0]at h;exact nil (by rw [<-h])
 |assign x=>simp only[opE,A0]at h;exact nil (by rw [<-h])
 |pick c x y=>
  simp only[opE]at h;split at h
  .simp only[A0]at h;exact nil (by rw [<-h])
  .simp at h
 |alloc t=>
  simp only[opE]at h;obtain ⟨z,_,rfl⟩:=A3.1 h;exact ⟨fun e=>by simp [cls]at e,fun _ p hp=>by simp at hp;subst hp;simp,fun _ p hp=>by simp at hp;subst hp;simp⟩
 |box t x=>
  simp only[opE]at h;split at h
  .simp only[A0]at h;subst h;exact ⟨fun e=>by simp [cls]at e,fun _ p hp=>by simp at hp;subst hp;simp,fun _ p hp=>by simp at hp;subst hp;simp⟩
  .simp at h
 |build t a=>
  simp only[opE]at h;split at h
  .obtain ⟨cs,_,rfl⟩:=A3.1 h;exact nil rfl
  .simp at h
 |buildSlice t len a=>
  simp only[opE]at h;split at h
  .obtain ⟨⟨xs,ks,d⟩,h1,h⟩:=A5.1 h;split at h
   .simp only[A0]at h;subst h;rename_i e0 _ _ z q l;have hu:∀v∈a.toList.map (fun p=>st.ev tt e0 p.2),svU U v:=fun v mv=>by obtain ⟨p,_,rfl⟩:=A4.1 mv;exact hU _ _
    have hk:=ZfY (U:=U) h1 hu;refine ⟨fun e=>by simp only[cls]at e;split at e<;>simp at e,fun e p hp=>?_,fun e p hp=>?_⟩
    .by_cases hs:a.size=0
     .have:a=#[]:=by simpa using hs
      subst this;simp [Xi]at h1;obtain ⟨_,rfl,_⟩:=h1;simp [ZU]at hp;subst hp;simp
     .by_cases hf:Zxr (tt t)=true
      .have hz:z.all Zkq=true:=by rw [q]at hf;exact hf
       have u:ks=[]:=by
        have h3:=l.2.2.2;rw [hz]at h3;simpa using h3
       subst u;simp [ZU]at hp;subst hp;simp
      .simp [cls,hs,hf]at e
    .rcases A8.1 hp with hp|hp
     .obtain ⟨p1,p2⟩:=ZmG hp;exact .inr ⟨hk _ p1,p2⟩
     .simp at hp;subst hp;simp
   .simp at h
  .simp at h
 |load t x=>exact nil (Xf h)
 |store t x v=>exact ⟨fun e=>by simp [cls]at e,fun e=>by simp [cls]at e,fun e=>by simp [cls]at e⟩
 |makeFunc fn first caps=>exact ⟨fun e=>by simp [cls]at e,fun e=>by simp [cls]at e,fun e=>by simp [cls]at e⟩
 |mapUpdate t x i v=>exact ⟨fun e=>by simp [cls]at e,fun e=>by simp [cls]at e,fun e=>by simp [cls]at e⟩
 |lookup t x i ok=>exact nil (Xf h)
 |makeMap t r=>
  cases r with
  |none=>
   simp only[opE,Zo7]at h;split at h
   .simp only[A0]at h;subst h;exact ⟨fun e=>by simp [cls]at e,fun _ p hp=>by simp at hp;subst hp;simp,fun _ p hp=>by simp at hp;subst hp;simp⟩
   .simp at h
  |some _=>simp [opE]at h
 |nilCheck x=>
  simp only[opE]at h;split at h<;>simp only[A0,reduceCtorEq]at h<;>exact nil (by rw [<-h])
 |binOp op t x y t'=>exact nil (Xf h)
 |unOp op t x=>exact nil (Xf h)
 |convert s t x=>exact nil (Xf h)
 |makeSlice t n c=>
  simp only[opE,Zso]at h;split at h
  .split at h
   .obtain ⟨ze,_,h⟩:=A5.1 h;split at h
    .simp only[A0]at h;subst h;exact ⟨fun e=>by simp [cls]at e,fun _ p hp=>by simp at hp;subst hp;simp,fun _ p hp=>by simp at hp;subst hp;simp⟩
    .simp at h
   .simp at h
  .simp at h
 |slice t x lo hi mx=>
  cases mx with
  |some _=>simp [opE]at h
  |none=>
   by_cases g:ZcV (tt t)=true
   .have w:Zb4 (tt t)=false:=by
     unfold ZcV at g;split at g
     .rename_i e;rw [e];rfl
     .simp at g
    refine nil ?_;simp only[opE,Zaf]at h;split at h
    .simp [w]at h
    .obtain ⟨v,_,rfl⟩:=A3.1 h;rfl
    .simp at h
   .have hc:3<=cls tt hs (.slice t x lo hi none):=by simp only[cls];rw [if_neg g];split<;>omega
    refine ⟨fun e=>by simp only at e;omega,fun e=>by simp only at e;omega,fun e p hp=>?_⟩;have A:∀d,mvS d (lo.map (st.ev tt 0)) (hi.map (st.ev tt 0))=false:=fun d=>by
     cases lo with
     |none=>rfl
     |some _=>cases hi with
      |none=>simp [cls,g]at e
      |some _=>rfl
    simp only[opE,Zaf]at h;split at h
    .rename_i k hv;have hk:U k:=by
      have:=hU 0 x;rw [hv]at this;exact this (.row k) yG
     split at h
     .split at h
      .rename_i B;split at h
       .rw [A,if_neg yG]at h;obtain ⟨_,_,h⟩:=A5.1 h;obtain ⟨_,_,rfl⟩:=A3.1 h;simp at hp;subst hp;exact .inr ⟨hk,by rw [B];rfl⟩
       .simp at h
      .simp at h
     .simp at h
    .obtain ⟨v,_,rfl⟩:=A3.1 h;simp at hp
    .simp at h
 |fieldAddr t x f=>
  simp only[opE]at h;split at h
  .exact nil (Xf h)
  .simp at h
 |field t x f=>
  simp only[opE]at h;split at h
  .exact nil (Xf h)
  .simp at h
 |indexAddr t x i=>
  simp only[opE]at h;split at h
  .exact nil (Xf h)
  .simp at h
 |index t x i=>exact nil (Xf h)
 |extract x i=>exact nil (Xf h)
 |call c=>
  obtain ⟨j,args,ts⟩:=c;cases j with
  |builtin b=>
   simp only[opE,Zf7]at h;split at h
   .exact nil (Xf h)
   .exact ⟨fun e=>by simp [cls]at e,fun e=>by simp [cls]at e,fun e=>by simp [cls]at e⟩
   .exact nil (Xf h)
   .exact nil (Xf h)
   .simp at h
  |value f=>simp [opE]at h
  |invoke r m=>simp [opE]at h
 |_=>simp [opE]at h
theorem Zbe {hs:FuncId->Nat}{o:Op}{c:FuncId×List TypeId×List Operand}(h:Y7 o=some c):cls tt hs o=if hs c.1=0\/hs c.1=4 then 1 else 4:=by
 unfold Y7 at h;split at h
 .simp only[A0]at h;rw [<-h];rfl
 .simp at h
theorem ZnS {o:Op}{c:Nat×List TypeId×List Operand}(h:Xl o=some c):∃args ts,o=.call ⟨.value (.tmp c.1),args,ts⟩/\c.2.1=ts.toList/\c.2.2=args.toList:=by
 unfold Xl at h;split at h
 .rename_i s args ts;simp only[A0]at h;rw [<-h];exact ⟨args,ts,rfl,rfl,rfl⟩
 .simp at h
theorem Zhj [NW] {hs:FuncId->Nat}{o:Op}{c:Nat×List TypeId×List Operand}(h:Xl o=some c):cls tt hs o=4:=by
 obtain ⟨args,ts,rfl,_⟩:=ZnS h;rfl
theorem Zmt [NW] (hU:∀t x,svU U (st.ev tt t x)) {all:List Oper}{o:Oper}{v:SV}{u:List (Nat×Ob)}(h:opR tt S all key o st v u):(cls tt S.hd o.op=0->u=[])/\(cls tt S.hd o.op<=2->∀p∈u,key<=p.1/\p.1<key+16)/\(cls tt S.hd o.op<=3->∀p∈u,(key<=p.1/\p.1<key+16)\/(U p.1/\p.2=Yc (st.ob p.1))):=by
 have nil:u=[]->(cls tt S.hd o.op=0->u=[])/\(cls tt S.hd o.op<=2->∀p∈u,key<=p.1/\p.1<key+16)/\(cls tt S.hd o.op<=3->∀p∈u,(key<=p.1/\p.1<key+16)\/(U p.1/\p.2=Yc (st.ob p.1))):=fun e=>⟨fun _=>e,fun _ p hp=>by simp [e]at hp,fun _ p hp=>by simp [e]at hp⟩
 have b:Za0 tt S key o st v u->(cls tt S.hd o.op=0->u=[])/\(cls tt S.hd o.op<=2->∀p∈u,key<=p.1/\p.1<key+16)/\(cls tt S.hd o.op<=3->∀p∈u,(key<=p.1/\p.1<key+16)\/(U p.1/\p.2=Yc (st.ob p.1))):=fun h=>by
  unfold Za0 at h;split at h
  .rename_i c hc;by_cases h0:S.hd c.1=0\/S.hd c.1=4
   .have h':∃a,(ZK key a).2.2<=key+16/\u=(ZK key a).2.1:=by
     rcases h0 with h0|h0
     .rw [h0]at h;obtain ⟨l,a,_,_,_,h3,_,e⟩:=h;exact ⟨a,h3,e⟩
     .rw [h0]at h;obtain ⟨l,a,_,_,_,h3,_,e⟩:=h;exact ⟨a,h3,e⟩
    obtain ⟨a,h3,rfl⟩:=h';have hp:∀p∈(ZK key a).2.1,key<=p.1/\p.1<key+16:=fun p hp=>by
     have:=(Zht a key).2 p hp;omega
    exact ⟨fun e=>by rw [Zbe hc,if_pos h0]at e;simp at e,fun _=>hp,fun _ p m=>.inl (hp p m)⟩
   .refine ⟨fun e=>by rw [Zbe hc,if_neg h0]at e;simp at e,fun e=>by rw [Zbe hc,if_neg h0]at e;simp at e,fun e=>by rw [Zbe hc,if_neg h0]at e;simp at e⟩
  .split at h
   .rename_i c hc;have h4:=Zhj (tt:=tt) (hs:=S.hd) hc;exact ⟨fun e=>by rw [h4]at e;simp at e,fun e=>by rw [h4]at e;simp at e,fun e=>by rw [h4]at e;simp at e⟩
   .exact Zxj hU h
 unfold opR at h;split at h
 .exact b h
 .exact nil h.2
 .unfold gK at h;split at h
  .split at h
   .exact b h
   .exact nil h.2
  .split at h
   .exact nil h.2
   .exact h.elim
theorem ZhW (h:st.ob=st'.ob):∀ks:List Nat,ZU st ks=ZU st' ks
 | []=>rfl
 |k::r=>by simp only[ZU,ZhW h r,h]
theorem ZFH (s:SV):svU (fun _=>True) s:=by
 cases s<;>first|trivial|(intro y my;cases y<;>trivial)|(intro y my z mz;cases z<;>trivial)
theorem Zvl [NW] (h:st.ob=st'.ob) (v:SV):Zf1 st v=Zf1 st' v:=by
 have ha:∀cs,Y0 st cs=Y0 st' cs:=fun cs=>ZhB (U:=fun _=>True) (fun k _=>.inl (by rw [h])) (fun x _=>by cases x<;>trivial)
 unfold Zf1;split
 .rw [h];split
  .rw [ha]
  .rfl
 .rw [h]
 .rfl
theorem Zm8 [NW] (h:st.ob=st'.ob) {f:FuncId}{n:Nat}{vs:List SV}{v:SV}{u:List (Nat×Ob)}:Zbs S f n key st vs v u↔Zbs S f n key st' vs v u:=by
 have hs:∀xs,Z1 st xs=Z1 st' xs:=fun xs=>ZeZ (U:=fun _=>True) (fun k _=>.inl (by rw [h])) (fun x _=>ZFH x);unfold Zbs;split
 .simp only[hs]
 .simp only[hs,Zvl h,ZhW h]
 .simp only[hs,ZhW h]
 .simp only[hs]
 .simp only[hs,ZhW h]
theorem Zwe [NW] {o:Oper}{v:SV}{u:List (Nat×Ob)}(hl:∀x∈o.op.operands,∀t,st.ev tt t x=st'.ev tt t x)
  (a:cls tt S.hd o.op=0\/st.ob=st'.ob\/(∀t x,svU U (st.ev tt t x))/\((cls tt S.hd o.op<=3/\∀k,U k->st.ob k=st'.ob k)\/(cls tt S.hd o.op<=1/\Wk st st' U))):Za0 tt S key o st v u↔Za0 tt S key o st' v u:=by
 cases hc:Y7 o.op with
 |some c=>
  simp only[Za0,hc];have l:∃args ts,o.op=.call ⟨.value (.func c.1),args,ts⟩/\c.2.1=ts.toList/\c.2.2=args.toList:=by
   unfold Y7 at hc;split at hc
   .rename_i f args ts he;simp only[A0]at hc;rw [<-hc];exact ⟨args,ts,he,rfl,rfl⟩
   .simp at hc
  obtain ⟨args,ts,ho,e1,e2⟩:=l;have d:evs tt st c.2.1 c.2.2=evs tt st' c.2.1 c.2.2:=ZdI fun x m t=>hl x (by rw [ho];rw [e2]at m;simp [Op.operands,Call.operands];exact .inr (by simpa using m)) t;rw [<-d];rcases a with e|a|⟨hu,a⟩
  .rw [Zbe hc]at e;split at e<;>simp at e
  .exact Zm8 a
  .have g:cls tt S.hd o.op<=3:=by rcases a with h|h<;>omega
   have j:Wk st st' U:=by
    rcases a with h|h
    .exact .of h.2
    .exact h.2
   have h0:S.hd c.1=0\/S.hd c.1=4:=by
    rw [Zbe hc]at g;split at g
    .assumption
    .simp at g
   have b:∀x∈evs tt st c.2.1 c.2.2,svU U x:=fun x hx=>by
    obtain ⟨p,_,rfl⟩:=A4.1 hx;exact hu _ _
   rcases h0 with h0|h0
   .have i:Z1 st (evs tt st c.2.1 c.2.2)=Z1 st' (evs tt st c.2.1 c.2.2):=ZeZ (U:=U) j b;rw [h0];simp only[Zbs,i]
   .have i:Z1 st ((evs tt st c.2.1 c.2.2).map nlS)=Z1 st' ((evs tt st c.2.1 c.2.2).map nlS):=ZeZ (U:=U) j (fun x hx=>by
     obtain ⟨y,my,rfl⟩:=A4.1 hx;exact Zwx (b y my))
    rw [h0];simp only[Zbs,i]
 |none=>
  simp only[Za0,hc];have:opE tt key o st=opE tt key o st':=by
   obtain ⟨sl,ob,n⟩:=st;obtain ⟨q,ob',n'⟩:=st';have s1:opE tt key o ⟨q,ob',n'⟩=opE tt key o ⟨sl,ob',n⟩:=ZpQ fun x m t=>by
    rw [<-hl x m t];exact ZuI _ _ _ _ _ _ _
   rw [s1];rcases a with hc|a|⟨hu,⟨hc,a⟩|⟨hc,a⟩⟩
   .exact Zl0 (U:=U) (.inl hc)
   .simp only at a;subst a;rfl
   .exact Zl0 (U:=U) (.inr (.inl ⟨hc,a,hu⟩))
   .exact Zl0 (U:=U) (.inr (.inr ⟨hc,a,hu⟩))
  cases hd:Xl o.op with
  |none=>simp only[this]
  |some c=>
   simp only;obtain ⟨args,ts,ho,e1,e2⟩:=ZnS hd;have d:evs tt st c.2.1 c.2.2=evs tt st' c.2.1 c.2.2:=ZdI fun x m t=>hl x (by rw [ho];rw [e2]at m;simp [Op.operands,Call.operands];exact .inr (by simpa using m)) t;have w:st.sl c.1=st'.sl c.1:=hl (.tmp c.1) (by rw [ho];simp [Op.operands,Call.operands]) 0;have h4:=Zhj (tt:=tt) (hs:=S.hd) hd;rcases a with h0|h0|⟨_,⟨h0,_⟩|⟨h0,_⟩⟩
   .omega
   .rw [d,w];constructor
    .rintro ⟨fc,f1,f2,f3⟩;exact ⟨fc,f1,f2,(Zm8 h0).1 f3⟩
    .rintro ⟨fc,f1,f2,f3⟩;exact ⟨fc,f1,f2,(Zm8 h0).2 f3⟩
   .omega
   .omega
theorem ZcO [NW] {a:Array Oper}{o:Oper}{v:SV}{u:List (Nat×Ob)}(hl:∀s∈o.looksAt a,st.sl s=st'.sl s)
  (b:cls tt S.hd o.op=0\/st.ob=st'.ob\/(∀t x,svU U (st.ev tt t x))/\((cls tt S.hd o.op<=3/\∀k,U k->st.ob k=st'.ob k)\/(cls tt S.hd o.op<=1/\Wk st st' U))):opR tt S a.toList key o st v u↔opR tt S a.toList key o st' v u:=by
 have c:∀x∈o.op.operands,∀t,st.ev tt t x=st'.ev tt t x:=fun x m t=>by
  cases x with
  |tmp s=>exact hl s (by
    unfold Oper.looksAt;refine A8.2 (.inl (Ak.2 ⟨.tmp s,by simpa using m,rfl⟩)))
  |_=>rfl
 have h1:=Zwe (S:=S) (key:=key) (v:=v) (u:=u) c b;unfold opR;cases hg:ZaO a.toList o with
 |none=>exact h1
 |some q=>
  obtain ⟨q,want⟩:=q;cases q with
  |none=>rfl
  |some t=>
   have ht:st.sl t=st'.sl t:=hl t (by
    unfold ZaO at hg;split at hg
    .simp at hg
    .rename_i g d;simp only[A0,A6]at hg;unfold Oper.looksAt;refine A8.2 (.inr ?_);rw [d];have:(a[g.1]?).bind (·.dst)=some t:=by simpa using hg.1
     simp [this])
   simp only[gK,ht,h1]
theorem ZEL [NW] (hU:StU U st) (t:Nat) (x:Operand):svU U (st.ev tt t x):=by
 cases x with
 |tmp s=>exact hU.sl s
 |const v=>
  show svU U (cvT (tt t) v)
  unfold cvT;split
  .exact XK _
  .exact XK _
  .split
   .exact XK _
   .trivial
  .split
   .intro y m;simp at m;subst m;trivial
   .trivial
  .trivial
 |global _=>trivial
 |func _=>trivial
theorem X6 [NW]:∀{u:List (Nat×Ob)}{ob:Nat->Ob}{k:Nat},(∀p∈u,p.1≠k)->Zn ob u k=ob k
 | [],_,_,_=>rfl
 |p::r,ob,k,h=>by
  rw [Zn,X6 fun q m=>h q (by simp [m])];exact ZP _ _ fun e=>h p yG e.symm
theorem ZkJ [NW]:∀{u:List (Nat×Ob)}{ob ob':Nat->Ob}{k:Nat},(∃p∈u,p.1=k)->Zn ob u k=Zn ob' u k
 | [],_,_,_,h=>by simp at h
 |p::r,ob,ob',k,h=>by
  rw [Zn,Zn];by_cases hr:∃q∈r,q.1=k
  .exact ZkJ hr
  .have hn:∀q∈r,q.1≠k:=fun q m e=>hr ⟨q,m,e⟩;rw [X6 hn,X6 hn];obtain ⟨q,mq,e⟩:=h;rcases A9.1 mq with rfl|mq
   .rw [<-e,ZF,ZF]
   .exact absurd e (hn q mq)
theorem Zr5 [NW] {u1 u2:List (Nat×Ob)}{ob:Nat->Ob}(h:∀p∈u1,∀q∈u2,p.1≠q.1):Zn (Zn ob u1) u2=Zn (Zn ob u2) u1:=by
 funext k
 by_cases h1:∃p∈u1,p.1=k
 .obtain ⟨p,mp,rfl⟩:=h1;rw [X6 fun q mq e=>h p mp q mq e.symm];exact ZkJ ⟨p,mp,rfl⟩
 .have hn:∀q∈u1,q.1≠k:=fun q m e=>h1 ⟨q,m,e⟩;rw [X6 (ob:=Zn ob u2) hn];by_cases h2:∃p∈u2,p.1=k
  .exact ZkJ h2
  .have a:∀q∈u2,q.1≠k:=fun q m e=>h2 ⟨q,m,e⟩;rw [X6 a,X6 a,X6 hn]
theorem ZcR [NW] (st:St) (d:Option Nat) (v:SV) (s:Nat) (h:∀t,d=some t->s≠t):(st.put d v).sl s=st.sl s:=by
 cases d with
 |none=>rfl
 |some t=>exact ZP _ _ (h t rfl)
theorem Zau (st:St) (d:Option Nat) (v:SV):(st.put d v).ob=st.ob:=by cases d<;>rfl
theorem Zr3 (st:St) (d:Option Nat) (v:SV):(st.put d v).n=st.n:=by cases d<;>rfl
theorem Zo8 (st:St) (d e:Option Nat) (v u:SV) (h:∀t,d=some t->e≠some t):((st.put d v).put e u).sl=((st.put e u).put d v).sl:=by
 cases d with
 |none=>rfl
 |some t=>cases e with
  |none=>rfl
  |some s=>
   have a:t≠s:=fun e=>h t rfl (e ▸ rfl);funext k
   show upd (upd st.sl t v) s u k=upd (upd st.sl s u) t v k
   unfold upd;by_cases h1:k=s
   .by_cases h2:k=t
    .exact absurd (h2.symm.trans h1) a
    .have b:¬s=t:=fun e=>a e.symm;simp [h1,b]
   .simp [h1]
def Zvh (tt:Nat->Option TI):Op->Bool
 |.slice t _ (some _) none none=>!ZcV (tt t)
 |.call ⟨.builtin .append,_,_⟩=>true
 |_=>false
theorem Zh2 [NW] {a:Array Oper}{o:Oper}{v:SV}{u:List (Nat×Ob)}(hl:∀s∈o.looksAt a,st.sl s=st'.sl s) (h1:Za0 tt S key o st' v u->Za0 tt S key o st v u) (h:opR tt S a.toList key o st' v u):opR tt S a.toList key o st v u:=by
 unfold opR at h ⊢;cases hg:ZaO a.toList o with
 |none=>rw [hg]at h;exact h1 h
 |some q=>
  obtain ⟨q,want⟩:=q;rw [hg]at h;cases q with
  |none=>exact h
  |some t=>
   have ht:st.sl t=st'.sl t:=hl t (by
    unfold ZaO at hg;split at hg
    .simp at hg
    .rename_i g c;simp only[A0,A6]at hg;unfold Oper.looksAt;refine A8.2 (.inr ?_);rw [c];have:(a[g.1]?).bind (·.dst)=some t:=by simpa using hg.1
     simp [this])
   simp only[gK,ht]at h ⊢;split at h
   .rename_i hb;rw [if_pos hb];split at h
    .rename_i b;rw [if_pos b];exact h1 h
    .rename_i b;rw [if_neg b];exact h
   .rename_i hb;rw [if_neg hb];exact h
theorem ZcU {a:Array Oper}{o:Oper}(hl:∀s∈o.looksAt a,st.sl s=st'.sl s):∀x∈o.op.operands,∀t,st.ev tt t x=st'.ev tt t x:=fun x m t=>by
 cases x with
 |tmp s=>exact hl s (by
   unfold Oper.looksAt;refine A8.2 (.inl (Ak.2 ⟨.tmp s,by simpa using m,rfl⟩)))
 |_=>rfl
theorem Zva [NW] {o:Oper}{v:SV}{u:List (Nat×Ob)}(hl:∀x∈o.op.operands,∀t,st.ev tt t x=st'.ev tt t x) (a:cls tt S.hd o.op<=1) (hu:∀t x,svU U (st.ev tt t x)) (d:Mk st st' U) (h:Za0 tt S key o st' v u):Za0 tt S key o st v u:=by
 cases hc:Y7 o.op with
 |some c=>
  simp only[Za0,hc]at h ⊢;have g:∃args ts,o.op=.call ⟨.value (.func c.1),args,ts⟩/\c.2.1=ts.toList/\c.2.2=args.toList:=by
   unfold Y7 at hc;split at hc
   .rename_i f args ts he;simp only[A0]at hc;rw [<-hc];exact ⟨args,ts,he,rfl,rfl⟩
   .simp at hc
  obtain ⟨args,ts,ho,e1,e2⟩:=g;have i:evs tt st c.2.1 c.2.2=evs tt st' c.2.1 c.2.2:=ZdI fun x m t=>hl x (by rw [ho];rw [e2]at m;simp [Op.operands,Call.operands];exact .inr (by simpa using m)) t;rw [<-i]at h;have h0:S.hd c.1=0\/S.hd c.1=4:=by
   rw [Zbe hc]at a;split at a
   .assumption
   .simp at a
  have b:∀x∈evs tt st c.2.1 c.2.2,svU U x:=fun x hx=>by
   obtain ⟨p,_,rfl⟩:=A4.1 hx;exact hu _ _
  rcases h0 with h0|h0
  .rw [h0]at h ⊢;simp only[Zbs]at h ⊢;obtain ⟨al,e,h1,h2⟩:=h;exact ⟨al,e,ZhD d b h1,h2⟩
  .rw [h0]at h ⊢;simp only[Zbs]at h ⊢;obtain ⟨al,e,h1,h2⟩:=h;exact ⟨al,e,ZhD d (fun x hx=>by
    obtain ⟨y,my,rfl⟩:=A4.1 hx;exact Zwx (b y my)) h1,h2⟩
 |none=>
  simp only[Za0,hc]at h ⊢;cases hd:Xl o.op with
  |some c=>have h4:=Zhj (tt:=tt) (hs:=S.hd) hd;omega
  |none=>
   rw [hd]at h;simp only at h ⊢;obtain ⟨sl,ob,n⟩:=st;obtain ⟨j,ob',n'⟩:=st';have s1:opE tt key o ⟨j,ob',n'⟩=opE tt key o ⟨sl,ob',n⟩:=ZpQ fun x m t=>by
    rw [<-hl x m t];exact ZuI _ _ _ _ _ _ _
   rw [s1]at h;exact Zxu a d hu h
theorem ZzI {o:Op}(h:Zvh tt o=true):(∃t x lo,o=.slice t x (some lo) none none/\ZcV (tt t)=false)\/∃args ts,o=.call ⟨.builtin .append,args,ts⟩:=by
 unfold Zvh at h;split at h
 .exact .inl ⟨_,_,_,rfl,by simpa using h⟩
 .exact .inr ⟨_,_,rfl⟩
 .simp at h
theorem Zw8 [NW] {s:SV}{a:List (List CT)×List Nat×Nat}(hs:svU U s) (h:Zgk st s=some a):∀k∈a.2.1,U k:=by
 unfold Zgk at h;split at h
 .simp only[A0]at h;rw [<-h];simp
 .split at h
  .split at h
   .simp at h
   .simp only[A0]at h;rw [<-h];intro k hk;simp only[A9,AM,or_false]at hk;subst hk;exact hs (.row _) yG
  .simp at h
 .simp at h
theorem ZwM [NW] {fl:Bool}{s:SV}{a:List (List CT)×List Nat×Nat}(hs:svU U s) (h:Zgh st fl s=some a):∀k∈a.2.1,U k:=by
 unfold Zgh at h;split at h
 .simp only[A0]at h;rw [<-h];simp
 .simp only[A0]at h;rw [<-h];simp
 .split at h
  .split at h
   .simp only[A0]at h;rw [<-h];simp
   .simp only[A0]at h;rw [<-h];intro k hk;simp only[A9,AM,or_false]at hk;subst hk;exact hs (.row _) yG
  .simp at h
 .simp at h
theorem Zv3 [NW] {t:Option TI}{s x:SV}(hs:svU U s) (hx:svU U x) (a:∀k,U k->st.ob k=st'.ob k):Zor st key t s x=Zor st' key t s x:=by
 have e1:Zgk st s=Zgk st' s:=by
  unfold Zgk;split
  .rfl
  .rename_i k;rw [a k (hs (.row k) yG)]
  .rfl
 have e2:∀fl,Zgh st fl x=Zgh st' fl x:=fun fl=>by
  unfold Zgh;split
  .rfl
  .rfl
  .rename_i k;rw [a k (hx (.row k) yG)]
  .rfl
 have e3:∀e m,Zmi st e m s=Zmi st' e m s:=fun e m=>by
  unfold Zmi;split
  .rename_i k;rw [a k (hs (.row k) yG)]
  .rfl
  .rfl
 have e4:∀m,Zk2 st m x=Zk2 st' m x:=fun m=>by
  unfold Zk2;split
  .rename_i k;rw [a k (hx (.row k) yG)]
  .rfl
  .rfl
  .rfl
 unfold Zor;split
 .simp only[e1,e2,e3,e4]
 .rfl
theorem ZuD {ts:List TypeId}{vs:List SV}{r:SV×List (Nat×Ob)}(h:Zf7 tt st key .append ts vs=some r):∃t s x,ts=[t,t]/\vs=[s,x]/\Zor st key (tt t) s x=some r:=by
 match ts,vs,h with
 | [t,u],[s,x],h=>
  simp only[Zf7]at h;split at h
  .rename_i e;subst e;exact ⟨t,s,x,rfl,rfl,h⟩
  .simp at h
 | [],_,h=>simp [Zf7]at h
 | [_],_,h=>simp [Zf7]at h
 |_::_::_::_,_,h=>simp [Zf7]at h
 | [_,_],[],h=>simp [Zf7]at h
 | [_,_],[_],h=>simp [Zf7]at h
 | [_,_],_::_::_::_,h=>simp [Zf7]at h
theorem ZzA [NW] {o:Oper}{v:SV}{u:List (Nat×Ob)}(hm:Zvh tt o.op=true) (hU:∀t x,svU U (st.ev tt t x)) (h:Za0 tt S key o st v u):(∀p∈u,(key<=p.1/\p.1<key+16)\/(U p.1/\(p.2=st.ob p.1\/p.2=.gone))):=by
 obtain ⟨g,op,ty,i,af,gd⟩:=o;obtain ⟨t,x,lo,ho,hs⟩|⟨args,ts,ho⟩:=ZzI hm
 rotate_left
 .simp only at ho;subst ho;have h':Zf7 tt st key .append ts.toList (evs tt st ts.toList args.toList)=some (v,u):=h;obtain ⟨t,s,x,_,he,h'⟩:=ZuD h';have c:svU U s/\svU U x:=by
   have d:∀y∈evs tt st ts.toList args.toList,svU U y:=fun y my=>by
    obtain ⟨p,_,rfl⟩:=A4.1 my;exact hU _ _
   exact ⟨d s (by rw [he];simp),d x (by rw [he];simp)⟩
  unfold Zor at h';split at h'
  .obtain ⟨a,h1,h'⟩:=A5.1 h';obtain ⟨b,h2,h'⟩:=A5.1 h';split at h'
   .simp only[A0,A6]at h';rw [<-h'.2];intro p hp;rcases A8.1 hp with hp|hp
    .obtain ⟨k,mk,rfl⟩:=A4.1 hp;refine .inr ⟨?_,.inr rfl⟩;rcases A8.1 mk with mk|mk
     .exact Zw8 c.1 h1 k mk
     .exact ZwM c.2 h2 k mk
    .simp only[A9,AM,or_false]at hp;subst hp;exact .inl ⟨A7 _,by simp only;omega⟩
   .simp at h'
  .simp at h'
 simp only at ho;subst ho;have h':opE tt key ⟨g,.slice t x (some lo) none none,ty,i,af,gd⟩ st=some (v,u):=h;simp only[opE,Zaf,AG,AF]at h';intro p hp;split at h'
 .rename_i k hv;have hk:U k:=by
   have:=hU 0 x;rw [hv]at this;exact this (.row k) yG
  split at h'
  .split at h'
   .rename_i j;split at h'
    .split at h'
     .obtain ⟨l,_,e⟩:=A3.1 h';simp only[A6]at e;rw [<-e.2]at hp;simp only[A9,AM,or_false]at hp;rcases hp with rfl|rfl
      .exact .inr ⟨hk,.inr rfl⟩
      .exact .inl ⟨A7 _,by simp only;omega⟩
     .rename_i f;obtain ⟨_,_,h'⟩:=A5.1 h';obtain ⟨_,_,e⟩:=A3.1 h';simp only[A6]at e;rw [<-e.2]at hp;simp only[A9,AM,or_false]at hp;subst hp;refine .inr ⟨hk,.inl ?_⟩;simp only[mvS]at f;split at f
      .rename_i hd;rw [j,hd]
      .simp at f
    .simp at h'
   .simp at h'
  .simp at h'
 .obtain ⟨_,_,e⟩:=A3.1 h';simp only[A6]at e;rw [<-e.2]at hp;simp at hp
 .simp at h'
theorem ZyD [NW] {o:Oper}{v:SV}{u:List (Nat×Ob)}(hm:Zvh tt o.op=true) (hl:∀x∈o.op.operands,∀t,st.ev tt t x=st'.ev tt t x) (hU:∀t x,svU U (st'.ev tt t x)) (b:∀k,U k->st.ob k=st'.ob k) (h:Za0 tt S key o st' v u):Za0 tt S key o st v u:=by
 obtain ⟨c,op,ty,d,af,gd⟩:=o;obtain ⟨t,x,lo,ho,hs⟩|⟨args,ts,ho⟩:=ZzI hm
 rotate_left
 .simp only at ho;subst ho;have h':Zf7 tt st' key .append ts.toList (evs tt st' ts.toList args.toList)=some (v,u):=h;show Zf7 tt st key .append ts.toList (evs tt st ts.toList args.toList)=some (v,u)
  have e:evs tt st ts.toList args.toList=evs tt st' ts.toList args.toList:=ZdI fun x m t=>hl x (by simpa [Op.operands,Call.operands]using m) t;have a:∀y∈evs tt st' ts.toList args.toList,svU U y:=fun y my=>by
   obtain ⟨p,_,rfl⟩:=A4.1 my;exact hU _ _
  obtain ⟨t,s,x,et,he,h'⟩:=ZuD h';rw [e,he,et];rw [he]at a;show (if t=t then Zor st key (tt t) s x else none)=_
  rw [if_pos rfl,Zv3 (a s yG) (a x yG) b,h']
 simp only at ho;subst ho;have h':opE tt key ⟨c,.slice t x (some lo) none none,ty,d,af,gd⟩ st'=some (v,u):=h;show opE tt key ⟨c,.slice t x (some lo) none none,ty,d,af,gd⟩ st=some (v,u)
 have e1:=hl x (by simp [Op.operands]) 0;have e2:=hl lo (by simp [Op.operands]) 0;simp only[opE,AG,AF,e1,e2]at h' ⊢;rw [<-h'];have hx:=hU 0 x;unfold Zaf;split
 .rename_i k hv;rw [hv]at hx;have hk:U k:=hx (.row k) yG;simp only[b k hk]
 .rfl
 .rfl
theorem ZdA [NW] {a:List Oper}{o:Oper}{v:SV}{u:List (Nat×Ob)}{C:Prop}(h:opR tt S a key o st v u) (h1:Za0 tt S key o st v u->C) (h2:u=[]->C):C:=by
 unfold opR at h;split at h
 .exact h1 h
 .exact h2 h.2
 .unfold gK at h;split at h
  .split at h
   .exact h1 h
   .exact h2 h.2
  .split at h
   .exact h2 h.2
   .exact h.elim
def ZuF (tt:Nat->Option TI) (hs:FuncId->Nat) (x y:Op):Bool:=cls tt hs x==0||cls tt hs y==0||(Nat.ble (cls tt hs x) 2&&Nat.ble (cls tt hs y) 2)||(Nat.ble (cls tt hs x) 1&&Nat.ble (cls tt hs y) 3)||(Nat.ble (cls tt hs x) 3&&Nat.ble (cls tt hs y) 1)||(Zvh tt x&&Nat.ble (cls tt hs y) 1)
theorem comm [NW] {c:Array Oper}{oi oj:Oper}{ki kj:Nat}{vi vj:SV}{ui uj:List (Nat×Ob)}(G:oi.apart c oj=true) (hc:ZuF tt S.hd oi.op oj.op=true) (hU:StU U st) (m:∀k,ki<=k->k<ki+16->¬U k) (j:∀k,kj<=k->k<kj+16->¬U k) (hdis:ki+16<=kj\/kj+16<=ki)
  (h:opR tt S c.toList ki oi st vi ui) (h':opR tt S c.toList kj oj ((st.put oi.dst vi).app ui) vj uj):
  opR tt S c.toList kj oj st vj uj/\opR tt S c.toList ki oi ((st.put oj.dst vj).app uj) vi ui/\((((st.put oi.dst vi).app ui).put oj.dst vj).app uj)=((((st.put oj.dst vj).app uj).put oi.dst vi).app ui):=by
 obtain ⟨a1,a2,a3⟩:=Oper.apart_spec G;have b:∀t x,svU U (st.ev tt t x):=fun t x=>ZEL hU t x;obtain ⟨i1,i2,i3⟩:=Zmt (U:=U) b h;have l:(∀p∈ui,∀q∈uj,p.1≠q.1)->((((st.put oi.dst vi).app ui).put oj.dst vj).app uj)=((((st.put oj.dst vj).app uj).put oi.dst vi).app ui):=fun H=>by
  have o:((((st.put oi.dst vi).app ui).put oj.dst vj).app uj).sl=((((st.put oj.dst vj).app uj).put oi.dst vi).app ui).sl:=by
   have e1:∀(s:St) (u:List (Nat×Ob)) (d:Option Nat) (v:SV),((s.app u).put d v).sl=(s.put d v).sl:=fun s u d v=>by cases d<;>rfl
   show (((st.put oi.dst vi).app ui).put oj.dst vj).sl=(((st.put oj.dst vj).app uj).put oi.dst vi).sl
   rw [e1,e1];exact Zo8 st _ _ _ _ fun t ht=>a2 t ht
  have i:((((st.put oi.dst vi).app ui).put oj.dst vj).app uj).ob=((((st.put oj.dst vj).app uj).put oi.dst vi).app ui).ob:=by
   show Zn (((st.put oi.dst vi).app ui).put oj.dst vj).ob uj=Zn (((st.put oj.dst vj).app uj).put oi.dst vi).ob ui
   rw [Zau,Zau];show Zn (Zn (st.put oi.dst vi).ob ui) uj=Zn (Zn (st.put oj.dst vj).ob uj) ui
   rw [Zau,Zau];exact Zr5 H
  have hn:((((st.put oi.dst vi).app ui).put oj.dst vj).app uj).n=((((st.put oj.dst vj).app uj).put oi.dst vi).app ui).n:=by
   show (((st.put oi.dst vi).app ui).put oj.dst vj).n=(((st.put oj.dst vj).app uj).put oi.dst vi).n
   rw [Zr3,Zr3];show (st.put oi.dst vi).n=(st.put oj.dst vj).n
   rw [Zr3,Zr3]
  generalize ((((st.put oi.dst vi).app ui).put oj.dst vj).app uj)=s1 at o i hn ⊢
  generalize ((((st.put oj.dst vj).app uj).put oi.dst vi).app ui)=s2 at o i hn ⊢
  cases s1;cases s2;simp only at o i hn;subst o i hn;rfl
 by_cases A:Zvh tt oi.op=true/\cls tt S.hd oj.op<=1
 .obtain ⟨hm,hj⟩:=A;have B:∀p∈ui,(ki<=p.1/\p.1<ki+16)\/(U p.1/\(p.2=st.ob p.1\/p.2=.gone)):=ZdA h (fun h=>ZzA hm b h) fun e p hp=>by rw [e]at hp;simp at hp
  have I:Mk st ((st.put oi.dst vi).app ui) U:=fun k hk=>by
   show Zn (st.put oi.dst vi).ob ui k=st.ob k\/Zn (st.put oi.dst vi).ob ui k=.gone
   rw [Zau];have z:∀(u:List (Nat×Ob)) (ob:Nat->Ob),(∀p∈u,(ki<=p.1/\p.1<ki+16)\/(U p.1/\(p.2=st.ob p.1\/p.2=.gone)))->(ob k=st.ob k\/ob k=.gone)->(Zn ob u k=st.ob k\/Zn ob u k=.gone):=by
    intro u;induction u with
    |nil=>intro ob _ h;exact h
    |cons p u ih=>
     intro ob hp h;refine ih _ (fun x mx=>hp x (by simp [mx])) ?_;by_cases g:k=p.1
     .rcases hp p yG with h1|h1
      .exact absurd (g ▸ hk) (m p.1 h1.1 h1.2)
      .rw [g,ZF];exact h1.2
     .rw [ZP _ _ g];exact h
   exact z ui st.ob B (.inl rfl)
  have C:∀s∈oj.looksAt c,st.sl s=((st.put oi.dst vi).app ui).sl s:=fun s ms=>(ZcR st oi.dst vi s fun t ht e=>a1 t ht (e ▸ ms)).symm;have hA:opR tt S c.toList kj oj st vj uj:=Zh2 C (Zva (ZcU C) hj b I) h';obtain ⟨_,j2,_⟩:=Zmt (U:=U) b hA;have D:∀s∈oi.looksAt c,((st.put oj.dst vj).app uj).sl s=st.sl s:=fun s ms=>ZcR st oj.dst vj s fun t ht e=>a3 t ht (e ▸ ms);have J:∀k,U k->((st.put oj.dst vj).app uj).ob k=st.ob k:=fun k hk=>by
   show Zn (st.put oj.dst vj).ob uj k=st.ob k
   rw [Zau];exact X6 fun p mp e=>j p.1 (j2 yE p mp).1 (j2 yE p mp).2 (e ▸ hk)
  refine ⟨hA,Zh2 D (ZyD hm (ZcU D) b J) h,l fun p mp q mq e=>?_⟩;have h2:=j2 yE q mq;rcases B p mp with h1|h1
  .omega
  .exact j q.1 h2.1 h2.2 (e ▸ h1.1)
 have a:cls tt S.hd oi.op=0\/cls tt S.hd oj.op=0\/(cls tt S.hd oi.op<=2/\cls tt S.hd oj.op<=2)\/(cls tt S.hd oi.op<=1/\cls tt S.hd oj.op<=3)\/(cls tt S.hd oi.op<=3/\cls tt S.hd oj.op<=1):=by
  unfold ZuF at hc;simp only[AH,beq_iff_eq,AB]at hc;rcases hc with ((((hc|hc)|hc)|hc)|hc)|hc
  .exact .inl hc
  .exact .inr (.inl hc)
  .exact .inr (.inr (.inl ⟨AC hc.1,AC hc.2⟩))
  .exact .inr (.inr (.inr (.inl ⟨AC hc.1,AC hc.2⟩)))
  .exact .inr (.inr (.inr (.inr ⟨AC hc.1,AC hc.2⟩)))
  .exact absurd ⟨hc.1,AC hc.2⟩ A
 have f:∀{u:List (Nat×Ob)} {q:Nat},(∀p∈u,q<=p.1/\p.1<q+16)->(∀k,q<=k->k<q+16->¬U k)->∀k,U k->st.ob k=Zn st.ob u k:=fun hu hq k hk=>(X6 fun p mp e=>hq p.1 (hu p mp).1 (hu p mp).2 (e ▸ hk)).symm;have y:∀{u:List (Nat×Ob)} {q:Nat},(∀p∈u,(q<=p.1/\p.1<q+16)\/(U p.1/\p.2=Yc (st.ob p.1)))->(∀k,q<=k->k<q+16->¬U k)->∀k,U k->Zn st.ob u k=st.ob k\/Zn st.ob u k=Yc (st.ob k):=fun {u q} hu hq k hk=>by
  have z:∀(u:List (Nat×Ob)) (ob:Nat->Ob),(∀p∈u,(q<=p.1/\p.1<q+16)\/(U p.1/\p.2=Yc (st.ob p.1)))->(ob k=st.ob k\/ob k=Yc (st.ob k))->(Zn ob u k=st.ob k\/Zn ob u k=Yc (st.ob k)):=by
   intro u;induction u with
   |nil=>intro ob _ h;exact h
   |cons p u ih=>
    intro ob hp h;refine ih _ (fun x mx=>hp x (by simp [mx])) ?_;by_cases g:k=p.1
    .rcases hp p yG with h1|h1
     .exact absurd (g ▸ hk) (hq p.1 h1.1 h1.2)
     .right;rw [g,ZF];exact h1.2
    .rw [ZP _ _ g];exact h
  exact z u st.ob hu (.inl rfl)
 have hA:opR tt S c.toList kj oj st vj uj:=by
  refine (ZcO (U:=U) (st:=st) (st':=(st.put oi.dst vi).app ui) (fun s ms=>(ZcR st oi.dst vi s fun t ht e=>a1 t ht (e ▸ ms)).symm) ?_).2 h';show cls tt S.hd oj.op=0\/st.ob=Zn (st.put oi.dst vi).ob ui\/_/\((cls tt S.hd oj.op<=3/\∀k,U k->st.ob k=Zn (st.put oi.dst vi).ob ui k)\/(cls tt S.hd oj.op<=1/\∀k,U k->Zn (st.put oi.dst vi).ob ui k=st.ob k\/Zn (st.put oi.dst vi).ob ui k=Yc (st.ob k)))
  rw [Zau];rcases a with a|a|⟨c1,c2⟩|⟨c1,c2⟩|⟨c1,c2⟩
  .right;left;rw [i1 a];rfl
  .left;exact a
  .right;right;exact ⟨b,.inl ⟨yE,f (i2 c1) m⟩⟩
  .right;right;exact ⟨b,.inl ⟨c2,f (i2 yE) m⟩⟩
  .right;right;exact ⟨b,.inr ⟨c2,y (i3 c1) m⟩⟩
 obtain ⟨E,w,F⟩:=Zmt (U:=U) b hA;refine ⟨hA,?_,?_⟩
 .refine (ZcO (U:=U) (st:=st) (st':=(st.put oj.dst vj).app uj) (fun s ms=>(ZcR st oj.dst vj s fun t ht e=>a3 t ht (e ▸ ms)).symm) ?_).1 h;show cls tt S.hd oi.op=0\/st.ob=Zn (st.put oj.dst vj).ob uj\/_/\((cls tt S.hd oi.op<=3/\∀k,U k->st.ob k=Zn (st.put oj.dst vj).ob uj k)\/(cls tt S.hd oi.op<=1/\∀k,U k->Zn (st.put oj.dst vj).ob uj k=st.ob k\/Zn (st.put oj.dst vj).ob uj k=Yc (st.ob k)))
  rw [Zau];rcases a with a|a|⟨c1,c2⟩|⟨c1,c2⟩|⟨c1,c2⟩
  .left;exact a
  .right;left;rw [E a];rfl
  .right;right;exact ⟨b,.inl ⟨yE,f (w c2) j⟩⟩
  .right;right;exact ⟨b,.inr ⟨c1,y (F c2) j⟩⟩
  .right;right;exact ⟨b,.inl ⟨c1,f (w yE) j⟩⟩
 .rcases a with a|a|⟨c1,c2⟩|⟨c1,c2⟩|⟨c1,c2⟩
  .exact l fun p mp=>by rw [i1 a]at mp;simp at mp
  .exact l fun p mp q mq=>by rw [E a]at mq;simp at mq
  .refine l fun p mp q mq e=>?_;have:=i2 c1 p mp;have:=w c2 q mq;omega
  .refine l fun p mp q mq e=>?_;have h1:=i2 yE p mp;rcases F c2 q mq with h2|h2
   .omega
   .exact m p.1 h1.1 h1.2 (e ▸ h2.1)
  .refine l fun p mp q mq e=>?_;have h1:=w yE q mq;rcases i3 c1 p mp with h2|h2
   .omega
   .exact j q.1 h1.1 h1.2 (e ▸ h2.1)
/- a load and a call into which something is handed: what is handed in stands at the key 0, the load looks elsewhere -/
def ZsB:Op->Bool
 |.load _ _=>true
 |_=>false
def ZvU (hs:FuncId->Nat) (o:Op):Bool:=match Y7 o with
 |some c=>hs c.1==1
 |none=>false
def Zo9:Op->Bool
 |.slice _ _ _ _ none=>true
 |_=>false
def Zvj (tt:Nat->Option TI) (hs:FuncId->Nat) (b:Bool) (x y:Op):Bool:=ZuF tt hs x y||(b&&((ZsB x&&ZvU hs y)||(ZvU hs x&&ZsB y)||Zo9 x||Zo9 y))
theorem Zr0 {o:Op}{c:FuncId×List TypeId×List Operand}(h:Y7 o=some c):∃args ts,o=.call ⟨.value (.func c.1),args,ts⟩/\c.2.2=args.toList:=by
 unfold Y7 at h;split at h
 .rename_i f args ts;simp only[A0]at h;rw [<-h];exact ⟨args,ts,rfl,rfl⟩
 .simp at h
theorem Zst {o:Op}(h:∀x∈o.operands,∀t,st.ev tt t x=st'.ev tt t x):stk tt S o st=stk tt S o st':=by
 unfold stk;split
 .rename_i t x;rw [h x (by simp [Op.operands])]
 .rename_i t x _ _ _;rw [h x (by simp [Op.operands])]
 .split
  .rename_i c hc;obtain ⟨args,ts,ho,e⟩:=Zr0 hc;unfold hdC;split
   .cases hh:c.2.2.head? with
    |none=>rfl
    |some x=>
     have mx:x∈args.toList:=by rw [<-e];exact List.mem_of_mem_head? hh
     simp only;rw [h x (by rw [ho];simp [Op.operands,Call.operands];exact .inr (by simpa using mx))]
   .rfl
  .rfl
theorem ZgS [NW] {a:Array Oper}{oi oj:Oper}{vi vj:SV}{ui uj:List (Nat×Ob)}(b:oi.apart a oj=true):stk tt S oj.op st=stk tt S oj.op ((st.put oi.dst vi).app ui)/\stk tt S oi.op ((st.put oj.dst vj).app uj)=stk tt S oi.op st:=by
 obtain ⟨a1,a2,a3⟩:=Oper.apart_spec b;exact ⟨Zst (ZcU fun s ms=>(ZcR st oi.dst vi s fun t ht e=>a1 t ht (e ▸ ms)).symm),Zst (ZcU fun s ms=>ZcR st oj.dst vj s fun t ht e=>a3 t ht (e ▸ ms))⟩
theorem ZpK [NW] {o:Oper}{v:SV}{u:List (Nat×Ob)}(ho:ZvU S.hd o.op=true) (hs:stk tt S o.op st=true) (h:Za0 tt S key o st v u):∀p∈u,p.1=0\/(key<=p.1/\p.1<key+16)\/p.2=Yc (st.ob p.1):=by
 unfold ZvU at ho;split at ho
 rotate_left
 .simp at ho
 rename_i c hc;have h1:S.hd c.1=1:=by simpa using ho
 unfold Za0 at h;rw [hc]at h;simp only[h1,Zbs]at h;obtain ⟨v0,r,k,hh,l,b,h',hv,hk,hl,hs',hne,hn,rfl,rfl⟩:=h;have h2:hdC tt 1 c.2.2.head? st=true:=by
  have e:stk tt S o.op st=hdC tt (S.hd c.1) c.2.2.head? st:=by
   unfold stk;split
   .rename_i hq;rw [hq]at hc;simp [Y7]at hc
   .rename_i hq;rw [hq]at hc;simp [Y7]at hc
   .rw [hc]
  rw [<-h1,<-e];exact hs
 have d:∃off,v0=.bp 0 off:=by
  unfold hdC at h2;simp only at h2;cases hx:c.2.2 with
  |nil=>rw [hx]at h2;simp at h2
  |cons x xs=>
   rw [hx]at h2 hv;simp only[List.head?_cons]at h2;have e0:∀ts:List TypeId,∃t q,evs tt st ts (x::xs)=st.ev tt t x::q:=fun ts=>by cases ts<;>exact ⟨_,_,rfl⟩
   obtain ⟨t,q,e0⟩:=e0 c.2.1;rw [e0]at hv;simp only[AI]at hv;have hb:hdB (st.ev tt 0 x)=true:=h2;have ht:∀t',hdB (st.ev tt t' x)=true->∃off,st.ev tt t x=.bp 0 off:=fun t' hb=>by
    cases x with
    |tmp s=>
     have a:hdB (st.sl s)=true:=hb;unfold hdB at a;split at a
     .rename_i k' off e;exact ⟨off,by show st.sl s=_;rw [e,of_decide_eq_true a]⟩
     .simp at a
    |const u=>
     exfalso;have a:hdB (cvT (tt t') u)=true:=hb;unfold cvT at a;split at a<;>first|(simp [hdB]at a;done)|(split at a<;>simp [hdB]at a)
    |func f=>simp [St.ev,hdB]at hb
    |global g=>simp [St.ev,hdB]at hb
   obtain ⟨off,e⟩:=ht 0 hb;exact ⟨off,by rw [<-hv.1,e]⟩
 obtain ⟨off,rfl⟩:=d;have i:k=0:=by
  unfold Zf1 at hk;split at hk
  .rename_i k' e;simp only[SV.bp.injEq]at e;obtain ⟨rfl,rfl⟩:=e;split at hk
   .rename_i t cs hb;split at hk
    .obtain ⟨_,_,e⟩:=A3.1 hk;simp only[A6]at e;exact e.1.symm
    .simp at hk
   .simp at hk
  .rename_i e;simp at e
  .simp at hk
 subst i;intro p mp;rcases A8.1 mp with mp|mp
 .exact .inr (.inr (ZmG mp).2)
 .rcases A9.1 mp with rfl|mp
  .exact .inl rfl
  .have:=(Zht b key).2 p mp;exact .inr (.inl yE)
theorem Zpb [NW] {o:Oper}{v:SV}{u:List (Nat×Ob)}(ho:ZsB o.op=true) (hl:∀x∈o.op.operands,∀t,st.ev tt t x=st'.ev tt t x) (hs:stk tt S o.op st=true) (hU:∀t x,svU U (st.ev tt t x)) (c:∀k,U k->k≠0->st'.ob k=st.ob k\/st'.ob k=Yc (st.ob k)):Za0 tt S key o st v u↔Za0 tt S key o st' v u:=by
 obtain ⟨dst,op,ty,pos,af,gd⟩:=o;unfold ZsB at ho;simp only at ho;split at ho
 rotate_left
 .simp at ho
 rename_i t x;have e1:=hl x (by simp [Op.operands]) 0;have hx:=hU 0 x;have a:ldB (st.ev tt 0 x)=true:=hs;have key:QZ st (tt t) (st.ev tt 0 x)=QZ st' (tt t) (st'.ev tt 0 x):=by
  rw [<-e1];unfold QZ;split
  .rename_i k off hv;rw [hv]at hx a;have b:k≠0:=fun e=>by subst e;simp [ldB]at a
   rcases c k hx b with h|h
   .rw [h]
   .rw [h];cases st.ob k<;>rfl
  .rename_i k m i off hv;rw [hv]at hx a;have b:k≠0:=fun e=>by subst e;simp [ldB]at a
   rcases c k hx b with h|h
   .rw [h]
   .rw [h];cases st.ob k<;>rfl
  .rfl
  .rfl
  .rfl
 show opE tt _ _ st=some (v,u)↔opE tt _ _ st'=some (v,u)
 simp only[opE,key]
theorem ZxF [NW] {a:List Oper}{o:Oper}{v:SV}{u:List (Nat×Ob)}(ho:ZsB o.op=true) (h:opR tt S a key o st v u):u=[]:=by
 refine ZdA h (fun h=>?_) id;obtain ⟨b,op,ty,c,af,gd⟩:=o;unfold ZsB at ho;simp only at ho;split at ho
 .have h':opE tt key ⟨b,.load _ _,ty,c,af,gd⟩ st=some (v,u):=h;exact Xf h'
 .simp at ho
theorem ZuZ {a:Array Oper}{o:Oper}{v:SV}{u:List (Nat×Ob)}(hl:∀s∈o.looksAt a,st.sl s=st'.sl s) (h1:Za0 tt S key o st v u↔Za0 tt S key o st' v u) [NW]:opR tt S a.toList key o st v u↔opR tt S a.toList key o st' v u:=⟨Zh2 (fun s ms=>(hl s ms).symm) h1.1,Zh2 hl h1.2⟩
theorem Zl5 [NW] {o:Oper}{v:SV}{u:List (Nat×Ob)}(ho:Zo9 o.op=true) (hs:stk tt S o.op st=true) (h:Za0 tt S key o st v u):u=[]/\∀{st':St},(∀x∈o.op.operands,∀t,st.ev tt t x=st'.ev tt t x)->Za0 tt S key o st' v u:=by
 obtain ⟨b,op,ty,c,af,gd⟩:=o;unfold Zo9 at ho;simp only at ho;split at ho
 rotate_left
 .simp at ho
 rename_i t x lo hi;have a:slB (st.ev tt 0 x)=true:=hs;have h':opE tt key ⟨b,.slice t x lo hi none,ty,c,af,gd⟩ st=some (v,u):=h;unfold slB at a;split at a
 rotate_left
 .simp at a
 rename_i y hy;constructor
 .simp only[opE]at h';rw [hy]at h';simp only[Zaf]at h';obtain ⟨_,_,e⟩:=A3.1 h';simp only[A6]at e;exact e.2.symm
 .intro st' hl;show opE tt key ⟨b,.slice t x lo hi none,ty,c,af,gd⟩ st'=some (v,u)
  have e1:=hl x (by simp [Op.operands]) 0;have e2:lo.map (st.ev tt 0)=lo.map (st'.ev tt 0):=by
   cases lo with
   |none=>rfl
   |some l=>exact congrArg some (hl l (by simp [Op.operands]) 0)
  have e3:hi.map (st.ev tt 0)=hi.map (st'.ev tt 0):=by
   cases hi with
   |none=>rfl
   |some l=>exact congrArg some (hl l (by simp [Op.operands]) 0)
  rw [<-h'];simp only[opE,<-e1,<-e2,<-e3,hy,Zaf]
theorem ZFh [NW] {b:Bool}{f:Array Oper}{oi oj:Oper}{ki kj:Nat}{vi vj:SV}{ui uj:List (Nat×Ob)}(j:oi.apart f oj=true) (hc:Zvj tt S.hd b oi.op oj.op=true) (hU:StU U st) (C:∀k,ki<=k->k<ki+16->¬U k) (D:∀k,kj<=k->k<kj+16->¬U k) (E:ki+16<=kj\/kj+16<=ki)
  (B:b=true->stk tt S oi.op st=true) (l:b=true->stk tt S oj.op ((st.put oi.dst vi).app ui)=true) (h:opR tt S f.toList ki oi st vi ui) (h':opR tt S f.toList kj oj ((st.put oi.dst vi).app ui) vj uj):
  opR tt S f.toList kj oj st vj uj/\opR tt S f.toList ki oi ((st.put oj.dst vj).app uj) vi ui/\((((st.put oi.dst vi).app ui).put oj.dst vj).app uj)=((((st.put oj.dst vj).app uj).put oi.dst vi).app ui):=by
 by_cases hok:ZuF tt S.hd oi.op oj.op=true
 .exact comm j hok hU C D E h h'
 have hb:b=true/\(((ZsB oi.op=true/\ZvU S.hd oj.op=true)\/(ZvU S.hd oi.op=true/\ZsB oj.op=true))\/Zo9 oi.op=true\/Zo9 oj.op=true):=by
  unfold Zvj at hc
  rw [AH]at hc
  have:=hc.resolve_left hok
  simp only[AB,AH]at this
  obtain ⟨q1,q2⟩:=this
  exact ⟨q1,by rcases q2 with (q|q)|q;exact .inl q;exact .inr (.inl q);exact .inr (.inr q)⟩
 obtain ⟨hb,hc⟩:=hb
 obtain ⟨a1,a2,a3⟩:=Oper.apart_spec j
 have F:∀t x,svU U (st.ev tt t x):=fun t x=>ZEL hU t x
 have g:∀s∈oj.looksAt f,st.sl s=((st.put oi.dst vi).app ui).sl s:=fun s ms=>(ZcR st oi.dst vi s fun t ht e=>a1 t ht (e ▸ ms)).symm
 have i:∀s∈oi.looksAt f,st.sl s=((st.put oj.dst vj).app uj).sl s:=fun s ms=>(ZcR st oj.dst vj s fun t ht e=>a3 t ht (e ▸ ms)).symm
 have c:(((st.put oi.dst vi).put oj.dst vj)).sl=(((st.put oj.dst vj).put oi.dst vi)).sl:=Zo8 st _ _ _ _ fun t ht=>a2 t ht
 have e1:∀(s:St) (u:List (Nat×Ob)) (d:Option Nat) (v:SV),((s.app u).put d v)=((s.put d v).app u):=fun s u d v=>by cases d<;>rfl
 have y:ui=[]\/uj=[]->((((st.put oi.dst vi).app ui).put oj.dst vj).app uj)=((((st.put oj.dst vj).app uj).put oi.dst vi).app ui):=fun hn=>by
  rw [e1,e1]
  have hs:((st.put oi.dst vi).put oj.dst vj)=((st.put oj.dst vj).put oi.dst vi):=by
   have h2:((st.put oi.dst vi).put oj.dst vj).ob=((st.put oj.dst vj).put oi.dst vi).ob:=by simp only[Zau]
   have h3:((st.put oi.dst vi).put oj.dst vj).n=((st.put oj.dst vj).put oi.dst vi).n:=by simp only[Zr3]
   generalize ((st.put oi.dst vi).put oj.dst vj)=s1 at c h2 h3
   generalize ((st.put oj.dst vj).put oi.dst vi)=s2 at c h2 h3
   cases s1;cases s2
   simp only at c h2 h3
   subst c h2 h3
   rfl
  rw [hs]
  rcases hn with rfl|rfl<;>rfl
 rcases hc with hc|o|o
 rotate_left
 ·-- the first is a slice that is only read
  have hs:=B hb
  have hn:ui=[]:=ZdA h (fun h=>(Zl5 o hs h).1) id
  subst hn
  have hA:opR tt S f.toList kj oj st vj uj:=(ZcO (U:=U) g (.inr (.inl (by show st.ob=(st.put oi.dst vi).ob;rw [Zau])))).2 h'
  refine ⟨hA,Zh2 (fun s ms=>(i s ms).symm) (fun h=>(Zl5 o hs h).2 (ZcU i)) h,y (.inl rfl)⟩
 ·-- the second is one
  have hs:=(ZgS (tt:=tt) (S:=S) (st:=st) (vi:=vi) (ui:=ui) (vj:=vj) (uj:=uj) j).1.trans (l hb)
  have hn:uj=[]:=ZdA h' (fun h=>(Zl5 o (l hb) h).1) id
  subst hn
  have hA:opR tt S f.toList kj oj st vj []:=Zh2 g (fun h=>(Zl5 o (l hb) h).2 (fun x m t=>(ZcU g x m t).symm)) h'
  refine ⟨hA,?_,y (.inr rfl)⟩
  exact (ZcO (U:=U) i (.inr (.inl (by show st.ob=(st.put oj.dst vj).ob;rw [Zau])))).1 h
 have A:∀{u:List (Nat×Ob)} {q:Nat},(∀p∈u,p.1=0\/(q<=p.1/\p.1<q+16)\/p.2=Yc (st.ob p.1))->(∀k,q<=k->k<q+16->¬U k)->∀k,U k->k≠0->Zn st.ob u k=st.ob k\/Zn st.ob u k=Yc (st.ob k):=fun {u q} hu hq k hk w=>by
  have J:∀(u:List (Nat×Ob)) (ob:Nat->Ob),(∀p∈u,p.1=0\/(q<=p.1/\p.1<q+16)\/p.2=Yc (st.ob p.1))->(ob k=st.ob k\/ob k=Yc (st.ob k))->(Zn ob u k=st.ob k\/Zn ob u k=Yc (st.ob k)):=by
   intro u
   induction u with
   |nil=>intro ob _ h;exact h
   |cons p u ih=>
    intro ob hp h
    refine ih _ (fun x mx=>hp x (by simp [mx])) ?_
    by_cases z:k=p.1
    .rcases hp p yG with h1|h1|h1
     .exact absurd (z.trans h1) w
     .exact absurd (z ▸ hk) (hq p.1 h1.1 h1.2)
     .right;rw [z,ZF];exact h1
    .rw [ZP _ _ z];exact h
  exact J u st.ob hu (.inl rfl)
 rcases hc with ⟨l1,l2⟩|⟨l1,l2⟩
 .have G:=ZxF l1 h
  have H:st.ob=((st.put oi.dst vi).app ui).ob:=by
   subst G
   show st.ob=(st.put oi.dst vi).ob
   rw [Zau]
  have hA:=(ZcO (U:=U) g (.inr (.inl H))).2 h'
  have hs:=(ZgS (tt:=tt) (S:=S) (st:=st) (vi:=vi) (ui:=ui) (vj:=vj) (uj:=uj) j).1.trans (l hb)
  refine ⟨hA,?_,y (.inl G)⟩
  refine ZdA hA (fun hx=>?_) (fun e=>?_)
  .refine (ZuZ i (Zpb (U:=U) l1 (ZcU i) (B hb) F fun k hk w=>?_)).1 h
   show Zn (st.put oj.dst vj).ob uj k=_\/Zn (st.put oj.dst vj).ob uj k=_
   rw [Zau]
   exact A (ZpK l2 hs hx) D k hk w
  .refine (ZcO (U:=U) i (.inr (.inl ?_))).1 h
   subst e
   show st.ob=(st.put oj.dst vj).ob
   rw [Zau]
 .have I:=ZxF l2 h'
  have hs:=(ZgS (tt:=tt) (S:=S) (st:=st) (vi:=vi) (ui:=ui) (vj:=vj) (uj:=uj) j).1.trans (l hb)
  have hA:opR tt S f.toList kj oj st vj uj:=by
   refine ZdA h (fun hx=>?_) (fun e=>?_)
   .refine (ZuZ g (Zpb (U:=U) l2 (ZcU g) hs F fun k hk w=>?_)).2 h'
    show Zn (st.put oi.dst vi).ob ui k=_\/Zn (st.put oi.dst vi).ob ui k=_
    rw [Zau]
    exact A (ZpK l1 (B hb) hx) C k hk w
   .refine (ZcO (U:=U) g (.inr (.inl ?_))).2 h'
    subst e
    show st.ob=(st.put oi.dst vi).ob
    rw [Zau]
  refine ⟨hA,(ZcO (U:=U) i (.inr (.inl ?_))).1 h,y (.inr I)⟩
  subst I
  show st.ob=(st.put oj.dst vj).ob
  rw [Zau]
end
end
section
open Go.RowKit
section
variable {P:Program} {J:World->Prop} {JF:Nat->Prop} {W:ZaK} {U:Nat->Prop} {key:Nat} {st st':St} {w w':World} {a:Act} {tt:Nat->Option TI} {hds:FuncId->Nat} {Q:Exit->Act->World->Prop}
def ZwX [NW] (W:ZaK) (N:Nat) (U:Nat->Prop) (st:St):Prop:=∃a w,Inv W U st a w/\a.tmps.size=N
theorem Zws [NW] (htt:MOk P J JF W tt) {N:Nat}{all:List Oper}{o:Oper}{v:SV}{u:List (Nat×Ob)}(h:opR tt (SC P J JF hds) all key o st v u) (hR:ZwX W N U st) (d:∀k,key<=k->k<key+16->¬U k) (hd:∀t,o.dst=some t->t<N/\(W.hv=none\/t≠0)):
  ZwX W N (Uk U key) ((st.put o.dst v).app u):=by
 obtain ⟨a,w,hI,hN⟩:=hR;have i:∀t,o.dst=some t->t<a.tmps.size/\(W.hv=none\/t≠0):=fun t ht=>hN ▸ hd t ht;have j:v=.und/\u=[]->ZwX W N (Uk U key) ((st.put o.dst v).app u):=fun ⟨e1,e2⟩=>by
  subst e1 e2;exact ⟨_,w,ZuR hI _ i,by rw [Zc4];exact hN⟩
 have l:Za0 tt (SC P J JF hds) key o st v u->ZwX W N (Uk U key) ((st.put o.dst v).app u):=fun h=>by
  obtain ⟨⟨g,hH,hS⟩,hU,f,hh⟩:=hI;have evals:∀(ts:List TypeId) (args:List Operand),ZM (SVR g w) (evs tt st ts args) (args.map a.eval)/\∀x∈evs tt st ts args,svU U x:=fun ts args=>by
   have he:args.map a.eval=(ZjB ts args).map fun p=>a.eval p.2:=by
    have:=congrArg (List.map a.eval) (Zfx ts args);rw [<-this,Ah];rfl
   refine ⟨?_,fun x mx=>?_⟩
   .rw [he];exact ZM.of_map _ _ fun p _=>(Zlm htt.tt hS hU p.1 p.2).1
   .obtain ⟨p,_,rfl⟩:=A4.1 mx;exact (Zlm htt.tt hS hU p.1 p.2).2
  cases hc:Y7 o.op with
  |some c=>
   simp only[Za0,hc]at h;obtain ⟨_,b⟩:=Zg1 htt h hH hU d (evals c.2.1 c.2.2).1 (evals c.2.1 c.2.2).2;obtain ⟨e,w',fr,⟨rv,_,g',t1,t2,t3,t4,t5,t6⟩,_⟩:=b [];exact ⟨_,_,Zf5 hS hU f hh i t1 t2 t3 t4 t5 t6,by rw [Zc4];exact hN⟩
  |none=>
   simp only[Za0,hc]at h;cases hd2:Xl o.op with
   |some c=>
    rw [hd2]at h;simp only at h;obtain ⟨fc,h1,_,h⟩:=h;obtain ⟨cs,_,q⟩:=Zs6 h1 (hS c.1);obtain ⟨_,b⟩:=Zg1 htt h hH hU d ((evals c.2.1 c.2.2).1.append q) (fun x mx=>by
     rcases A8.1 mx with m|m
     .exact (evals c.2.1 c.2.2).2 x m
     .obtain ⟨c,_,rfl⟩:=A4.1 m;exact XK _)
    obtain ⟨e,w',fr,⟨rv,_,g',t1,t2,t3,t4,t5,t6⟩,_⟩:=b [];exact ⟨_,_,Zf5 hS hU f hh i t1 t2 t3 t4 t5 t6,by rw [Zc4];exact hN⟩
   |none=>
    rw [hd2]at h;simp only at h;obtain ⟨g',cv,w',_,t1,t2,t3,t4,t5,t6⟩:=ZpA (P:=P) (W:=W) (a:=a) htt.tt o h hH hS hU (d key (A7 _) yE);exact ⟨_,_,Zf5 hS hU f hh i t1 t2 t3 t4 t5 t6,by rw [Zc4];exact hN⟩
 unfold opR at h;split at h
 .exact l h
 .exact j h
 .unfold gK at h;split at h
  .split at h
   .exact l h
   .exact j h
  .split at h
   .exact j h
   .exact h.elim
theorem ZhO {S:Ctx}{b:Bool}{all:List Oper}{base i:Nat}{r:List Nat}{K:St->Prop}{o:Oper}(ho:all[i]?=some o):Zf3 tt S b all base (i::r) K st=ifB b (stk tt S o.op st) (opG tt S all (base+16*i) o (Zf3 tt S b all base r K) st):=by simp only[Zf3,ho]
theorem ZuG [NW] {S:Ctx}{all:List Oper}{base:Nat}{K:St->Prop}:∀(r:List Oper) (i:Nat) (st:St),all.drop i=r->Z7 tt S all (base+16*i) r K st->Zf3 tt S false all base (AJ i r.length) K st
 | [],_,_,_,h=>h
 |o::r,i,st,hr,h=>by
  have hi:all[i]?=some o:=by
   have:=congrArg (fun l=>l[0]?) hr;simpa using this
  have a:all.drop (i+1)=r:=by
   have:=congrArg List.tail hr;simpa using this
  rw [Aj,AU,ZhO hi];obtain ⟨v,u,h1,h2⟩:=ZhZ.1 h;refine ZhZ.2 ⟨v,u,h1,ZuG r (i+1) _ a ?_⟩;rw [show base+16*(i+1)=base+16*i+16 by omega];exact h2
theorem Zqz {b c:Bool}{P:Prop}:ifB b c P↔(b=true->c=true)/\P:=by
 cases b<;>simp [ifB]
theorem ZES [NW] (htt:MOk P J JF W tt) {b:Bool}{f:Array Oper}{N base i:Nat}{o:Oper}(ho:f.toList[i]?=some o) (hN:∀o∈f.toList,∀t,o.dst=some t->t<N/\(W.hv=none\/t≠0)) {K:St->Prop}{R2:List Nat}:∀(R1:List Nat) (U:Nat->Prop) (st:St),(R1++i::R2).Nodup->
  (∀j∈R1,∃oj,f.toList[j]?=some oj/\oj.apart f o=true/\Zvj tt hds b oj.op o.op=true)->(∀j∈R1++i::R2,∀k,base+16*j<=k->k<base+16*j+16->¬U k)->ZwX W N U st->
  Zf3 tt (SC P J JF hds) b f.toList base (R1++i::R2) K st->(b=true->stk tt (SC P J JF hds) o.op st=true)/\opG tt (SC P J JF hds) f.toList (base+16*i) o (Zf3 tt (SC P J JF hds) b f.toList base (R1++R2) K) st:=by
 intro R1;induction R1 with
 |nil=>
  intro U st _ _ _ _ h;rw [List.nil_append,ZhO ho]at h;exact Zqz.1 h
 |cons j R1 ih=>
  intro U st l g hk hR h;obtain ⟨oj,hj,m,u⟩:=g j yG;rw [Aa,ZhO hj]at h;obtain ⟨sj,h⟩:=Zqz.1 h;obtain ⟨vj,uj,h1,h2⟩:=ZhZ.1 h;have p:=hk j yG;have v:=hk i yG;rw [Aa,AN]at l;have hij:i≠j:=fun e=>l.1 (by simp [e]);have w:=Zws htt h1 hR p (hN oj (AZ hj));obtain ⟨si,h3⟩:=ih (Uk U (base+16*j)) _ l.2 (fun q mq=>g q (by simp [mq])) (fun q mq k a b hU=>by
   rcases hU with hU|⟨c,d⟩
   .exact hk q (by simp;simp at mq;exact .inr mq) k a b hU
   .have:q=j:=by omega
    subst this;exact l.1 mq) w h2
  obtain ⟨vi,ui,h4,h5⟩:=ZhZ.1 h3;obtain ⟨_,_,x,_⟩:=hR;obtain ⟨c1,c2,c3⟩:=ZFh (tt:=tt) (S:=SC P J JF hds) (b:=b) m u x.wf p v yE sj si h1 h4;have e1:=(ZgS (tt:=tt) (S:=SC P J JF hds) (st:=st) (vi:=vj) (ui:=uj) (vj:=vi) (uj:=ui) m).1;have e2:=(ZgS (tt:=tt) (S:=SC P J JF hds) (st:=st) (vi:=vj) (ui:=uj) (vj:=vi) (uj:=ui) m).2;refine ⟨fun hb=>e1.trans (si hb),ZhZ.2 ⟨vi,ui,c1,?_⟩⟩;rw [Aa,ZhO hj];exact Zqz.2 ⟨fun hb=>e2.trans (sj hb),ZhZ.2 ⟨vj,uj,c2,c3 ▸ h5⟩⟩
def anc (ops:Array Oper):Nat->Nat->List Nat
 |0,_=>[]
 |n+1,j=>match ops[j]? with
  |some o=>(o.after.toList.filter (Region.binds .any)).flatMap fun e=>e.on::anc ops n e.on
  |none=>[]
def Zpg (tt:Nat->Option TI) (hds:FuncId->Nat) (b:Bool) (ops:Array Oper) (i j:Nat):Bool:=!Nat.beq i j&&match ops[i]?,ops[j]? with
 |some oi,some oj=>(oi.after.toList.all fun e=>!Region.binds .any e||!Nat.beq e.on j)&&((anc ops ops.size j).contains i||(oi.apart ops oj&&Zvj tt hds b oi.op oj.op))
 |_,_=>true
def Zku (tt:Nat->Option TI) (hds:FuncId->Nat) (b:Bool) (ops:Array Oper):List Nat->Bool
 | []=>true
 |i::r=>r.all (Zpg tt hds b ops i)&&Zku tt hds b ops r
def elB (ops:Array Oper) (j:Nat):Bool:=match ops[j]? with
 |some oj=>oj.after.toList.all fun e=>!Region.binds .any e||(Nat.blt e.on ops.size&&!Nat.beq e.on j)
 |none=>true
def ZBa (ops:Array Oper):Bool:=(AR ops.size).all (elB ops)
def ZtF (tt:Nat->Option TI) (hds:FuncId->Nat) (ops:Array Oper):Bool:=Zku tt hds false ops (AR ops.size)&&ZBa ops
def Zuy (tt:Nat->Option TI) (hds:FuncId->Nat) (b:Bool) (ops:Array Oper) (l:List Nat):Bool:=Zku tt hds b ops l&&ZBa ops&&Nat.ble l.length ops.size&&l.all (Nat.blt · ops.size)&&(AR ops.size).all l.contains
theorem ZrD {a:Array Oper}(h:ZBa a=true) (j:Nat):elB a j=true:=by
 rcases Nat.lt_or_ge j a.size with hj|hj
 .exact AD.1 h j (by simpa using hj)
 .unfold elB;rw [Array.getElem?_eq_none hj]
theorem ZpU {b:Bool}{a:Array Oper}:∀{l:List Nat},Zku tt hds b a l=true->l.Pairwise fun i j=>Zpg tt hds b a i j=true
 | [],_=>List.Pairwise.nil
 |i::r,h=>by
  simp only[Zku,AB,AD]at h;exact List.Pairwise.cons h.1 (ZpU h.2)
theorem ZtW {i j:Nat}(h:(!Nat.beq i j)=true):i≠j:=fun e=>by subst e;simp at h
theorem ZmE {b:Bool}{a:Array Oper}{i j:Nat}{oi oj:Oper}(h:Zpg tt hds b a i j=true) (hi:a[i]?=some oi) (hj:a[j]?=some oj):(∀e∈oi.after,Region.binds .any e=true->e.on≠j)/\(i∈anc a a.size j\/(oi.apart a oj=true/\Zvj tt hds b oi.op oj.op=true)):=by
 simp only[Zpg,hi,hj,AB,AD,AH]at h;refine ⟨fun e me hb=>?_,h.2.2.imp (fun h=>by simpa using h) fun h=>h⟩;have h1:=h.2.1 e (by simpa using me);rw [hb]at h1;exact ZtW (h1.resolve_left yG)
theorem Zmk {b:Array Oper}{a:Array Bool}(c:∀i o,b[i]?=some o->a.getD i false=true->∀e∈o.after,Region.binds .any e=true->a.getD e.on false=true):
  ∀(n j:Nat) (o:Oper),b[j]?=some o->(∀e∈o.after,Region.binds .any e=true->a.getD e.on false=true)->∀i∈anc b n j,a.getD i false=true
 |0,j,o,_,_,i,mi=>by simp [anc]at mi
 |n+1,j,o,ho,he,i,mi=>by
  simp only[anc,ho,AW,List.mem_filter]at mi;obtain ⟨e,⟨me,hb⟩,mi⟩:=mi;have hl:=he e (by simpa using me) hb;rcases A9.1 mi with rfl|mi
  .exact hl
  .cases ho':b[e.on]? with
   |none=>cases n<;>simp [anc,ho']at mi
   |some o'=>exact Zmk c n e.on o' ho' (fun e' d f=>c e.on o' ho' hl e' d f) i mi
theorem Zvz [NW] (htt:MOk P J JF W tt) {b:Bool}{g:Array Oper}{N base:Nat}(hN:∀o∈g.toList,∀t,o.dst=some t->t<N/\(W.hv=none\/t≠0)) (hE:∀j,elB g j=true) {K:St->Prop}
  (hQ:∀U' st' a' w',Inv W U' st' a' w'->(∀k,base+16*g.size<=k->¬U' k)->a'.tmps.size=N->K st'->Q .normal a' w'):
  ∀(p:Nat) (R:List Nat) (f:Array Bool) (U:Nat->Prop) (st:St) (a:Act) (w:World),R.length<=p->R.Pairwise (fun i j=>Zpg tt hds b g i j=true)->f.size=g.size->(∀i,i∈R↔(i<g.size/\f.getD i true=false))->
   (∀i o,g[i]?=some o->f.getD i false=true->∀e∈o.after,Region.binds .any e=true->f.getD e.on false=true)->
   Zf3 tt (SC P J JF hds) b g.toList base R K st->Inv W U st a w->(∀j∈R,∀k,base+16*j<=k->k<base+16*j+16->¬U k)->(∀k,base+16*g.size<=k->¬U k)->a.tmps.size=N->wpAny P .any g Q p f a w:=by
 have L:∀j oj,g[j]?=some oj->∀e∈oj.after,Region.binds .any e=true->e.on<g.size/\e.on≠j:=fun j oj hj e me hb=>by
  have h1:=hE j;simp only[elB,hj,AD,AH,AB]at h1;have h2:=h1 e (by simpa using me);rw [hb]at h2;have h3:=h2.resolve_left yG;exact ⟨AC h3.1,ZtW h3.2⟩
 intro p;induction p with
 |zero=>
  intro R f U st a w B _ y l _ h hI _ hU hs;have hR:R=[]:=List.eq_nil_of_length_eq_zero yE;subst hR;refine ⟨?_,hQ U st a w hI hU hs h⟩;rw [List.eq_nil_iff_forall_not_mem];intro i mi;obtain ⟨h1,o,h2,_⟩:=mem_ready.1 mi;exact absurd ((l i).2 ⟨(Ab.1 h2).1,h1⟩) yG
 |succ p ih=>
  intro R f U st a w B z y l F h hI hk hU hs;refine ⟨fun hr=>?_,fun i mi=>?_⟩
  .cases R with
   |nil=>exact hQ U st a w hI hU hs h
   |cons r0 R=>
    exfalso;obtain ⟨m1,m2⟩:=(l r0).1 yG;have:r0∈Region.ready .any g f:=mem_ready.2 ⟨m2,g[r0],by simp [m1],fun e me hb=>by
     have x:=L r0 g[r0] (by simp [m1]) e me hb;by_cases hl:f.getD e.on true=false
     .have mR:=(l e.on).2 ⟨x.1,hl⟩;rcases A9.1 mR with e1|mR
      .exact absurd e1 x.2
      .exact absurd rfl ((ZmE ((List.pairwise_cons.1 z).1 _ mR) (oi:=g[r0]) (oj:=g[e.on]'x.1) (by simp [m1]) (by simp [x.1])).1 e me hb)
     .have G:e.on<f.size:=by omega
      simp only[AA,G,getElem?_pos,Al,Bool.not_eq_false]at hl ⊢;exact hl⟩
    rw [hr]at this;simp at this
  .obtain ⟨i1,o,i2,i3⟩:=mem_ready.1 mi;have C:i<g.size:=(Ab.1 i2).1;have M:i∈R:=(l i).2 ⟨C,i1⟩;obtain ⟨R1,R2,rfl⟩:=List.append_of_mem M;have A:(R1++i::R2).Nodup:=z.imp fun h=>by
    simp only[Zpg,AB]at h;exact ZtW h.1
   have ho:g.toList[i]?=some o:=by simpa using i2
   have H:=Zmk F g.size i o i2 i3;have D:∀j∈R1,∃oj,g.toList[j]?=some oj/\oj.apart g o=true/\Zvj tt hds b oj.op o.op=true:=fun j mj=>by
    obtain ⟨j1,j2⟩:=(l j).1 (by simp [mj]);have O:=(List.pairwise_append.1 z).2.2 j mj i yG;have hj:g[j]?=some g[j]:=by simp [j1]
    refine ⟨g[j],by simp [j1],(ZmE O hj i2).2.resolve_left fun ma=>?_⟩;have:=H j ma;have x:j<f.size:=by omega
    simp only[AA,x,getElem?_pos,Al]at this j2;rw [this]at j2;simp at j2
   have S:=(ZES htt ho hN R1 U st A D hk ⟨a,w,hI,hs⟩ h).2;refine wpOp_mono ?_ (Zpd htt i2 S hI (hk i yG) (fun t ht=>by rw [hs];exact hN o (AZ ho) t ht));rintro a' w' ⟨st',T,hs',V⟩;have I:∀q,(f.setIfInBounds i true).getD q true=if q=i then true else f.getD q true:=fun q=>by
    by_cases e:q=i
    .subst e;simp [AA,AY,y,C]
    .simp [AA,AQ (fun e':i=q=>e e'.symm),e]
   have E:∀q,(f.setIfInBounds i true).getD q false=if q=i then true else f.getD q false:=fun q=>by
    by_cases e:q=i
    .subst e;simp [AA,AY,y,C]
    .simp [AA,AQ (fun e':i=q=>e e'.symm),e]
   have v:i∉R1++R2:=by
    rw [AP]at A;intro m;rcases A8.1 m with m|m
    .exact A.2.2 i m i yG rfl
    .exact (AN.1 A.2.1).1 m
   refine ih (R1++R2) _ (Uk U (base+16*i)) st' a' w' (by simp at B ⊢;omega) (z.sublist (List.Sublist.append (List.Sublist.refl _) (List.sublist_cons_self i R2))) (by simp [y]) (fun q=>?_) (fun q oq hq hl e me hb=>?_) V T (fun q mq k c d u=>?_) (fun k X u=>?_) yE
   .rw [I q];by_cases e:q=i
    .subst e;simp only[if_true,Bool.true_eq_false,and_false,iff_false];exact v
    .rw [if_neg e,<-l q];simp [e]
   .rw [E]at hl ⊢;by_cases e1:e.on=i
    .simp [e1]
    .rw [if_neg e1];by_cases e2:q=i
     .subst e2;rw [i2]at hq;simp only[A0]at hq;subst hq;exact i3 e me hb
     .rw [if_neg e2]at hl;exact F q oq hq hl e me hb
   .have Y:q∈R1++i::R2:=by simp at mq ⊢;rcases mq with mq|mq<;>simp [mq]
    rcases u with u|⟨c',d'⟩
    .exact hk q Y k c d u
    .have:q=i:=by omega
     subst this;exact v mq
   .rcases u with u|⟨c',d'⟩
    .exact hU k X u
    .omega
end
end
section
open Go.RowKit
theorem Zux:∀{ρ:List Nat}{k i j:Nat},ZqU ρ k i=some j->i<=j/\ρ[j-i]?=some k
 | [],_,_,_,h=>by simp [ZqU]at h
 |x::r,k,i,j,h=>by
  simp only[ZqU]at h;split at h
  .rename_i e;simp only[A0]at h;subst h e;exact ⟨A7 _,yG⟩
  .obtain ⟨h1,h2⟩:=Zux h;refine ⟨yE,?_⟩;rw [show j-i=(j-(i+1))+1 by omega];simpa using h2
theorem ZdG [NW] {ρ:List Nat}{k j:Nat}(h:ZqU ρ k 0=some j):ρ[j]?=some k:=by simpa using (Zux h).2
theorem ZpJ {α:Type}:∀{l:List α},l.Nodup->∀{i j:Nat}(hi:i<l.length) (hj:j<l.length),l[i]=l[j]->i=j
 | [],_,_,_,hi,_,_=>by simp at hi
 |x::l,h,0,0,_,_,_=>rfl
 |x::l,h,0,j+1,_,hj,e=>by
  rw [AN]at h;exact absurd (by simp at e;rw [e];exact Am _) h.1
 |x::l,h,i+1,0,hi,_,e=>by
  rw [AN]at h;exact absurd (by simp at e;rw [<-e];exact Am _) h.1
 |x::l,h,i+1,j+1,hi,hj,e=>by
  rw [AN]at h;have:=ZpJ h.2 (i:=i) (j:=j) (by simpa using hi) (by simpa using hj) (by simpa using e);omega
section
variable {P:Program} {J:World->Prop} {JF:Nat->Prop} {W:ZaK} {U:Nat->Prop} {st st':St} {w w':World} {a:Act} {tt:Nat->Option TI} {S:Ctx}
theorem Zz9 [NW] {g g':Gh}{ρ:List Nat}(hv:∀j k,ρ[j]?=some k->g'.val j=g.val k) (ho:XJ g' g) {x:AV}{v:Value}(h:AVR g w x v):AVR g' w (rAV ρ x) v:=by
 cases x with
 |c x=>obtain ⟨L,h1,h2⟩:=h;exact ⟨L,h1,fun b m o=>h2 b m (ho.own b o)⟩
 |n x=>exact NR.move h (fun _ _ _=>rfl) (ho.grow _)
 |row k=>
  simp only[rAV];split
  .rename_i j hj;exact ⟨by rw [hv j k (ZdG hj)];exact h.1,h.2⟩
  .exact h.2
 |nil e m=>exact h
 |dead=>exact h
theorem ZM.map_left {α β γ:Type}{R:α->γ->Prop}{R':β->γ->Prop}(f:α->β) (h:∀a c,R a c->R' (f a) c):∀{l:List α}{r:List γ},ZM R l r->ZM R' (l.map f) r
 | [],[],_=>trivial
 |_::_,_::_,hh=>⟨h _ _ hh.1,hh.2.map_left f h⟩
 | [],_::_,h=>h.elim
 |_::_,[],h=>h.elim
theorem ZwC [NW] (ρ:List Nat) (x:AV):avU (fun j=>j<ρ.length) (rAV ρ x):=by
 cases x with
 |row k=>
  simp only[rAV];split
  .rename_i j hj;exact (AE.1 (ZdG hj)).1
  .trivial
 |_=>trivial
theorem Zuv [NW] (hI:Inv W U st a w) {ρ:List Nat}(hρ:ρ.Nodup):Inv W (fun j=>j<ρ.length) (st.ren ρ) a w:=by
 obtain ⟨⟨g,hH,hS⟩,hU,B,hh⟩:=hI;let g':Gh:=⟨fun j=>match ρ[j]? with|some k=>g.val k|none=>undef,fun j=>match ρ[j]? with|some k=>g.O k|none=>[],fun j=>match ρ[j]? with|some k=>g.D k|none=>[],g.Z⟩
 have gs:∀j k,ρ[j]?=some k->g'.val j=g.val k/\g'.O j=g.O k/\g'.D j=g.D k:=fun j k h=>by simp [g',h]
 have gn:∀j,ρ[j]?=none->g'.O j=[]/\g'.D j=[]:=fun j h=>by simp [g',h]
 have ho:∀b,g'.own b->g.own b:=fun b hb=>by
  rcases hb with ⟨j,mj⟩|hz
  .cases h:ρ[j]? with
   |none=>rw [(gn j h).1]at mj;simp at mj
   |some k=>rw [(gs j k h).2.1]at mj;exact .inl ⟨k,mj⟩
  .exact .inr hz
 have A:XJ g' g:=.of ho fun j b mb=>by
  cases h:ρ[j]? with
  |none=>rw [(gn j h).2]at mb;simp at mb
  |some k=>rw [(gs j k h).2.2]at mb;exact ⟨k,mb⟩
 have C:∀x v,AVR g w x v->AVR g' w (rAV ρ x) v:=fun x v h=>Zz9 (fun j k F=>(gs j k F).1) A h;have u:∀xs vs,ZM (AVR g w) xs vs->ZM (AVR g' w) (xs.map (rAV ρ)) vs:=fun xs vs h=>h.map_left _ C;have E:∀ag cs v,PVR g w ag cs v->PVR g' w ag (cs.map (rAV ρ)) v:=fun ag cs v h=>by
  cases ag with
  |true=>obtain ⟨vs,h1,h2⟩:=h;exact ⟨vs,h1,u _ _ h2⟩
  |false=>obtain ⟨x,rfl,h2⟩:=h;exact ⟨_,rfl,C _ _ h2⟩
 refine ⟨⟨g',⟨hH.below,fun j=>?_,fun j=>?_,fun j i G b mb=>?_,fun j b mb=>?_,hH.gz,hH.zx,hH.nw⟩,fun t=>?_⟩,⟨fun t=>?_,fun j=>?_,fun j hj=>?_⟩,B,hh⟩
 .show ObR g' w j (match ρ[j]? with|some k=>rOb ρ (st.ob k)|none=>.gone)
  cases h:ρ[j]? with
  |none=>exact gn j h
  |some k=>
   obtain ⟨e1,e2,e3⟩:=gs j k h;have l:=hH.obs k;show ObR g' w j (rOb ρ (st.ob k))
   cases hok:st.ob k with
   |gone=>rw [hok]at l;exact ⟨e2.trans l.1,e3.trans l.2⟩
   |box t cs=>
    rw [hok]at l;obtain ⟨b,vs,h1,h2,h3,h4,h5⟩:=l;exact ⟨b,vs,e1.trans h1,e2.trans h2,e3.trans h3,h4,u _ _ h5⟩
   |map kk vk kv=>
    rw [hok]at l;obtain ⟨b,es,c,h1,h2,h3,h4⟩:=l;exact ⟨b,es,c,e1.trans h1,e2.trans h2,e3.trans h3,h4⟩
   |row e m xs d=>
    rw [hok]at l;obtain ⟨hm,cs,L,h1,h2,h4⟩:=l;refine ⟨hm,cs,L,by rw [e1];exact h1,h2,?_⟩;rw [e1,e2,e3];rcases h4 with h4|⟨hd,h3,h4,h5⟩|⟨hd,h3,h4,h5⟩
    .exact .inl h4
    .exact .inr (.inl ⟨hd,h3,h4,fun b mb o=>h5 b mb (ho b o)⟩)
    .exact .inr (.inr ⟨hd,h3,h4,fun b mb o=>h5 b mb (ho b o)⟩)
 .cases h:ρ[j]? with
  |none=>rw [(gn j h).1,(gn j h).2];simp
  |some k=>rw [(gs j k h).2.1,(gs j k h).2.2];exact hH.nodup k
 .cases h:ρ[j]? with
  |none=>rw [(gn j h).1,(gn j h).2]at mb;simp at mb
  |some k=>
   rw [(gs j k h).2.1,(gs j k h).2.2]at mb;cases h':ρ[i]? with
   |none=>rw [(gn i h').1,(gn i h').2];simp
   |some q=>
    rw [(gs i q h').2.1,(gs i q h').2.2];refine hH.apart k q (fun e=>G ?_) b mb;subst e;obtain ⟨l1,e1⟩:=AE.1 h;obtain ⟨l2,e2⟩:=AE.1 h';exact ZpJ hρ l1 l2 (e1.trans e2.symm)
 .cases h:ρ[j]? with
  |none=>rw [(gn j h).1,(gn j h).2]at mb;simp at mb
  |some k=>
   rw [(gs j k h).2.1,(gs j k h).2.2]at mb;refine ⟨(hH.plain k b mb).1,(hH.plain k b mb).2.of ?_⟩;show ZkR (match ρ[j]? with|some k=>rOb ρ (st.ob k)|none=>.gone)=_
   rw [h];show ZkR (rOb ρ (st.ob k))=_
   cases st.ob k<;>rfl
 .have hs:=hS t;show SVR g' w (rSV ρ (st.sl t)) _
  cases hsl:st.sl t with
  |any=>trivial
  |und=>rw [hsl]at hs;exact hs
  |p ag cs=>rw [hsl]at hs;exact E _ _ _ hs
  |tup xs=>
   rw [hsl]at hs;obtain ⟨vs,h1,h2⟩:=hs;exact ⟨vs,h1,h2.map_left (fun x:Bool×List AV=>(x.1,x.2.map (rAV ρ))) fun x v h=>E x.1 x.2 v h⟩
  |bp k off=>
   rw [hsl]at hs;simp only[rSV];split
   .rename_i j hj;obtain ⟨b,h1,h2⟩:=hs;exact ⟨b,((gs j k (ZdG hj)).1).trans h1,h2⟩
   .trivial
  |rp k m i off=>
   rw [hsl]at hs;simp only[rSV];split
   .rename_i j hj;obtain ⟨b,o,n,c,h1,h2⟩:=hs;exact ⟨b,o,n,c,((gs j k (ZdG hj)).1).trans h1,h2⟩
   .trivial
  |ep e off=>
   rw [hsl]at hs;obtain ⟨b,lo,cs,L,h1,h2,h3,h4,h5⟩:=hs;exact ⟨b,lo,cs,L,h1,h2,h3,fun x m o=>h4 x m (ho x o),h5⟩
  |fn f=>rw [hsl]at hs;exact hs
 .show svU _ (rSV ρ (st.sl t))
  cases st.sl t with
  |p ag cs=>intro y my;obtain ⟨x,_,rfl⟩:=A4.1 my;exact ZwC ρ x
  |tup xs=>
   intro y my;obtain ⟨x,_,rfl⟩:=A4.1 my;intro z mz;obtain ⟨q,_,rfl⟩:=A4.1 mz;exact ZwC ρ q
  |bp k off=>
   simp only[rSV];split
   .rename_i j hj;exact (AE.1 (ZdG hj)).1
   .trivial
  |rp k m i off=>
   simp only[rSV];split
   .rename_i j hj;exact (AE.1 (ZdG hj)).1
   .trivial
  |_=>trivial
 .show obU _ (match ρ[j]? with|some k=>rOb ρ (st.ob k)|none=>.gone)
  split
  .rename_i k _;cases st.ob k with
   |box t cs=>intro y my;obtain ⟨x,_,rfl⟩:=A4.1 my;exact ZwC ρ x
   |_=>trivial
  .trivial
 .show (match ρ[j]? with|some k=>rOb ρ (st.ob k)|none=>.gone)=.gone
  have:ρ[j]?=none:=List.getElem?_eq_none yE;rw [this]
theorem ZyI [NW] {g:Gh}{ob:Nat->Ob}(hI:HI W g ob w) {k e m d d':Nat}{xs:List (List CT)}(hk:ob k=.row e m xs d) (hd:d'<d):∃g1:Gh,HI W g1 (upd ob k (.row e m xs d')) w/\g1.val=g.val/\XJ g1 g:=by
 by_cases h0:d'=0
 .obtain ⟨g1,h1,h2,h3,_⟩:=Zju hI k;rw [hk]at h1;exact ⟨g1,by rw [h0];exact h1,h2,h3⟩
 .have ho:=hI.obs k;rw [hk]at ho;obtain ⟨hm,cs,L,o1,o2,o3⟩:=ho;have h2:d=2/\g.O k=(g.val k).ownBlock.toList/\g.D k=L:=by
   rcases o3 with o3|⟨q,_⟩|⟨q,_⟩
   .exact o3
   .omega
   .omega
  obtain ⟨rfl,q1,q2⟩:=h2;obtain rfl:d'=1:=by omega
  let g1:Gh:=⟨g.val,g.O,upd g.D k [],g.Z⟩
  have hown:∀b,g1.own b↔g.own b:=fun b=>Iff.rfl;have l:XJ g1 g:=.of (fun b hb=>hb) fun j b mb=>by
   by_cases hj:j=k
   .subst hj;simp [g1,upd]at mb
   .exact ⟨j,by simpa [g1,upd,hj]using mb⟩
  have f:∀j b,b∈g1.O j++g1.D j->b∈g.O j++g.D j:=fun j b mb=>by
   by_cases hj:j=k
   .subst hj;simp [g1,upd]at mb;simp [mb]
   .simpa [g1,upd,hj]using mb
  refine ⟨g1,⟨hI.below,fun j=>?_,fun j=>?_,fun i j o b mb mj=>hI.apart i j o b (f i b mb) (f j b mj),fun j b mb=>⟨(hI.plain j b (f j b mb)).1,(hI.plain j b (f j b mb)).2.of (by
   by_cases hj:j=k
   .subst hj;rw [ZF,hk];rfl
   .rw [ZP _ _ hj])⟩,hI.gz,hI.zx,hI.nw⟩,rfl,l⟩
  .by_cases hj:j=k
   .subst hj;rw [ZF];refine ⟨hm,cs,L,o1,o2,.inr (.inl ⟨rfl,q1,by simp [g1,upd],fun b mb hb=>?_⟩)⟩;have mk:b∈g.D j:=by rw [q2];exact mb
    rcases hb with ⟨i,mi⟩|hz
    .by_cases o:i=j
     .subst o;have:=hI.nodup i;rw [AP]at this;exact this.2.2 b mi b mk rfl
     .exact hI.apart i j o b (by simp;exact .inl mi) (by simp [mk])
    .exact hI.nz (k:=j) (b:=b) (by simp [mk]) hz
   .rw [ZP _ _ hj];have a:=hI.obs j;cases hh:ob j with
    |gone=>rw [hh]at a;exact ⟨a.1,by simpa [g1,upd,hj]using a.2⟩
    |box t ds=>
     rw [hh]at a;obtain ⟨b,vs,h1,h2,h3,h4,h5⟩:=a;exact ⟨b,vs,h1,h2,by simpa [g1,upd,hj]using h3,h4,h5.mono fun x u _ hx=>AVR.less hx rfl l⟩
    |map kk vk kv=>
     rw [hh]at a;obtain ⟨b,es,c,h1,h2,h3,h4⟩:=a;exact ⟨b,es,c,h1,h2,by simpa [g1,upd,hj]using h3,h4⟩
    |row e' m' xs' d2=>
     rw [hh]at a;obtain ⟨p,v,L',p1,p2,p3⟩:=a;refine ⟨p,v,L',p1,p2,?_⟩;have e2:g1.D j=g.D j:=by simp [g1,upd,hj]
     rw [e2];exact p3
  .by_cases hj:j=k
   .subst hj;have:=hI.nodup j;rw [AP]at this;simpa [g1,upd]using this.1
   .have:=hI.nodup j;simpa [g1,upd,hj]using this
theorem Zyf [NW] (m:Bool×Nat×Nat) (hI:Inv W U st a w) (hk:∀k,st.n<=k->¬U k):∃U',Inv W U' (st.mat m) a w/\∀k,(st.mat m).n<=k->¬U' k:=by
 have A:∃U',Inv W U' st a w/\∀k,st.n<=k->¬U' k:=⟨U,hI,hk⟩
 have S:¬U st.n:=hk st.n (A7 _);have N:∀k,st.n+1<=k->¬(U k\/k=st.n):=fun k l h=>by
  rcases h with h|h
  .exact hk k yE h
  .omega
 have T:∀(e q:Nat),0<q->∀g,HI W g st.ob w->∃g',HI W g' (upd st.ob st.n (.row e q [] 2)) w/\(∀x u,svU U x->SVR g w x u->SVR g' w x u)/\g'.val st.n=.slice none 0 0/\(∀x u,avU U x->AVR g w x u->AVR g' w x u):=fun e q hq g hH=>by
  obtain ⟨t1,t2⟩:=hH.turn (key:=st.n) (U:=U) (w':=w) (v:=.slice none 0 0) (O:=[]) (D:=[]) (o:=.row e q [] 2) hI.wf.ob S [] yG hH.below (A7 _) (fun _ _ _=>rfl) yG yG yG yG
   (fun _=>⟨hq,[],[],by simpa [Gh.turn,upd]using ZfF _ _ _ _,⟨rfl,rfl⟩,.inl ⟨rfl,by simp [Gh.turn,upd,Value.ownBlock],by simp [Gh.turn]⟩⟩)
  refine ⟨_,t1,t2,by simp [Gh.turn,upd],fun x u hx hu=>hu.move hx (fun k l=>ZP _ _ fun e=>S (e ▸ l)) (fun _ _ _=>rfl) (ZpN yG yG)⟩
 have up:∀k,U k->(U k\/k=st.n):=fun _ h=>.inl h;obtain ⟨⟨g,hH,hS⟩,hU,B,hh⟩:=hI;have P:∀k e q xs d,st.ob k=.row e q xs d->∃g1:Gh,HI W g1 (upd st.ob k (.row e q xs 0)) w/\g1.val=g.val/\XJ g1 g/\U k/\∀v,AVR g w (.row k) v->AVR g1 w (.c (.sl e q xs)) v:=fun k e q xs d f=>by
  obtain ⟨g1,i1,i2,i3,_⟩:=Zju hH k;rw [f]at i1;obtain ⟨L,t1,t2⟩:=Zs5 i1 (ZF st.ob k (.row e q xs 0));exact ⟨g1,i1,i2,i3,Classical.byContradiction fun hn=>by have:=hU.gone _ hn;rw [f]at this;simp at this,fun v hv=>⟨L,by rw [hv.1,<-i2];exact t1,t2⟩⟩
 have Q:∀{gg:Gh} {cs:List AV} {vs:List Value} {j:Nat} {y:AV} {v:Value},ZM (AVR gg w) cs vs->vs[j]?=some v->AVR gg w y v->ZM (AVR gg w) (cs.set j y) vs:=fun {gg cs vs j y v} h1 h2 h3=>by
  have:=h1.set (i:=j) h3;obtain ⟨hl,he⟩:=AE.1 h2;rw [<-he,Ac hl]at this;exact this
 have R:∀{gg:Gh} {ag:Bool} {cs:List AV} {v:Value} {j:Nat} {x y:AV},PVR gg w ag cs v->cs[j]?=some x->(∀u,AVR gg w x u->AVR gg w y u)->PVR gg w ag (cs.set j y) v:=fun {gg ag cs v j x y} h1 h2 h3=>by
  cases ag with
  |true=>
   obtain ⟨vs,rfl,h4⟩:=h1;obtain ⟨u,u1,u2⟩:=h4.at h2;exact ⟨vs,rfl,Q h4 u1 (h3 u u2)⟩
  |false=>
   obtain ⟨z,rfl,h4⟩:=h1;cases j with
   |zero=>simp at h2;subst h2;exact ⟨y,rfl,h3 v h4⟩
   |succ j=>simp at h2
 have K:∀{V:Nat->Prop} {cs:List AV} {j:Nat} {y:AV},QW V cs->avU V y->QW V (cs.set j y):=fun {V cs j y} h1 h2 z mz=>by
  rcases Ad mz with mz|mz
  .exact h1 z mz
  .subst mz;exact h2
 unfold St.mat;split
 .split
  .rename_i ag cs X;have G:QW U cs:=by have:=hU.sl m.2.1;rw [X]at this;exact this
   have hs:=hS m.2.1;rw [X]at hs;split
   .rename_i e q H;split
    .rename_i hq;obtain ⟨g',t1,t2,t3,t4⟩:=T e q hq g hH;refine ⟨fun k=>U k\/k=st.n,⟨⟨g',t1,fun t=>?_⟩,⟨fun t=>?_,fun k=>?_,fun k l=>?_⟩,B,hh⟩,N⟩
     .show SVR g' w (upd st.sl m.2.1 (.p ag (cs.set m.2.2 (.row st.n))) t) _
      by_cases ht:t=m.2.1
      .subst ht;rw [ZF];have h1:PVR g' w ag cs (a.tmps.getD m.2.1 undef):=t2 (.p ag cs) _ G hs;refine R h1 H fun u hu=>?_;have Z:u=.slice none 0 0:=hu;rw [Z];exact ⟨t3.symm,rfl⟩
      .rw [ZP _ _ ht];exact t2 _ _ (hU.sl t) (hS t)
     .show svU _ (upd st.sl m.2.1 (.p ag (cs.set m.2.2 (.row st.n))) t)
      by_cases ht:t=m.2.1
      .subst ht;rw [ZF];exact K (G.mono up) (.inr rfl)
      .rw [ZP _ _ ht];exact (hU.sl t).mono up
     .show obU _ (upd st.ob st.n _ k)
      by_cases l:k=st.n
      .subst l;rw [ZF];trivial
      .rw [ZP _ _ l];exact (hU.ob k).mono up
     .show upd st.ob st.n _ k=_
      rw [ZP _ _ fun e=>l (.inr e)];exact hU.gone k fun h=>l (.inl h)
    .exact A
   .rename_i k H;split
    .rename_i e q xs d f;obtain ⟨g1,i1,i2,i3,C,i4⟩:=P k e q xs d f;refine ⟨U,⟨⟨g1,i1,fun t=>?_⟩,⟨fun t=>?_,fun j=>?_,fun j hj=>?_⟩,B,hh⟩,hk⟩
     .show SVR g1 w (upd st.sl m.2.1 (.p ag (cs.set m.2.2 (.c (.sl e q xs)))) t) _
      by_cases ht:t=m.2.1
      .subst ht;rw [ZF];have h1:PVR g1 w ag cs (a.tmps.getD m.2.1 undef):=(show SVR g w (.p ag cs) _ from hs).less i2 i3;exact R h1 H fun u hu=>i4 u ⟨hu.1.trans (by rw [i2]),hu.2⟩
      .rw [ZP _ _ ht];exact (hS t).less i2 i3
     .show svU _ (upd st.sl m.2.1 (.p ag (cs.set m.2.2 (.c (.sl e q xs)))) t)
      by_cases ht:t=m.2.1
      .subst ht;rw [ZF];exact K G trivial
      .rw [ZP _ _ ht];exact hU.sl t
     .show obU U (upd st.ob k (.row e q xs 0) j)
      by_cases h1:j=k
      .subst h1;rw [ZF];trivial
      .rw [ZP _ _ h1];exact hU.ob j
     .show upd st.ob k (.row e q xs 0) j=_
      rw [ZP _ _ (show j≠k from fun e'=>hj (e' ▸ C))];exact hU.gone j hj
    .exact A
   .exact A
  .exact A
 .split
  .rename_i ty cs f;split
   .rename_i e q H;split
    .rename_i hq;obtain ⟨g',t1,t2,t3,t4⟩:=T e q hq g hH;have C:U m.2.1:=Classical.byContradiction fun hn=>by have:=hU.gone _ hn;rw [f]at this;simp at this
     have E:m.2.1≠st.n:=fun e=>S (e ▸ C);have G:QW U cs:=by have:=hU.ob m.2.1;rw [f]at this;exact this
     have F:=t1.obs m.2.1;rw [ZP _ _ E,f]at F;obtain ⟨b,vs,b1,b2,b3,b4,b5⟩:=F;obtain ⟨u,u1,u2⟩:=b5.at H;have Y:u=.slice none 0 0:=u2;have aa:vs.set m.2.2 u=vs:=by
      obtain ⟨hl,he⟩:=AE.1 u1;rw [<-he];exact Ac hl
     have I:ObR g' w m.2.1 (.box ty (cs.set m.2.2 (.row st.n))):=by
      refine ⟨b,vs,b1,b2,b3,b4,?_⟩;have:=b5.set (i:=m.2.2) (a:=AV.row st.n) (b:=u) ⟨by rw [Y,t3],by rw [Y];rfl⟩;rw [aa]at this;exact this
     have J:∀k,(upd (upd st.ob m.2.1 (.box ty (cs.set m.2.2 (.row st.n)))) st.n (.row e q [] 2)) k=if k=m.2.1 then .box ty (cs.set m.2.2 (.row st.n)) else (upd st.ob st.n (.row e q [] 2)) k:=fun k=>by
      by_cases h1:k=st.n
      .have h2:¬k=m.2.1:=fun e'=>E (e'.symm.trans h1);have h3:¬st.n=m.2.1:=fun e'=>E e'.symm;simp [upd,h1,h3]
      .by_cases h2:k=m.2.1
       .simp [upd,h2,E]
       .simp [upd,h1,h2]
     refine ⟨fun k=>U k\/k=st.n,⟨⟨g',⟨t1.below,fun k=>?_,t1.nodup,t1.apart,fun k b mb=>⟨(t1.plain k b mb).1,(t1.plain k b mb).2.of (by
       show ZkR ((upd (upd st.ob m.2.1 (.box ty (cs.set m.2.2 (.row st.n)))) st.n (.row e q [] 2)) k)=_
       rw [J k];split
       .rename_i h1;subst h1;rw [ZP _ _ E,f];rfl
       .rfl)⟩,t1.gz,t1.zx,t1.nw⟩,fun t=>t2 _ _ (hU.sl t) (hS t)⟩,⟨fun t=>(hU.sl t).mono up,fun k=>?_,fun k l=>?_⟩,B,hh⟩,N⟩
     .show ObR g' w k ((upd (upd st.ob m.2.1 (.box ty (cs.set m.2.2 (.row st.n)))) st.n (.row e q [] 2)) k)
      rw [J k];split
      .rename_i h1;subst h1;exact I
      .exact t1.obs k
     .show obU _ ((upd (upd st.ob m.2.1 (.box ty (cs.set m.2.2 (.row st.n)))) st.n (.row e q [] 2)) k)
      rw [J k];split
      .intro y my;rcases Ad my with my|my
       .exact (G y my).mono up
       .subst my;exact .inr rfl
      .by_cases h1:k=st.n
       .subst h1;rw [ZF];trivial
       .rw [ZP _ _ h1];exact (hU.ob k).mono up
     .show (upd (upd st.ob m.2.1 (.box ty (cs.set m.2.2 (.row st.n)))) st.n (.row e q [] 2)) k=_
      rw [J k,if_neg (show ¬k=m.2.1 from fun e'=>l (.inl (e' ▸ C))),ZP _ _ (show k≠st.n from fun e'=>l (.inr e'))];exact hU.gone k fun h=>l (.inl h)
    .exact A
   .rename_i k H;split
    .rename_i e q xs d M;obtain ⟨g1,i1,i2,i3,C,i4⟩:=P k e q xs d M;have ab:U m.2.1:=Classical.byContradiction fun hn=>by have:=hU.gone _ hn;rw [f]at this;simp at this
     have E:k≠m.2.1:=fun e'=>by rw [e',f]at M;simp at M
     have G:QW U cs:=by have:=hU.ob m.2.1;rw [f]at this;exact this
     have F:=i1.obs m.2.1;rw [ZP _ _ (fun e'=>E e'.symm),f]at F;obtain ⟨b,vs,b1,b2,b3,b4,b5⟩:=F;obtain ⟨u,u1,u2⟩:=b5.at H;have I:ObR g1 w m.2.1 (.box ty (cs.set m.2.2 (.c (.sl e q xs)))):=⟨b,vs,b1,b2,b3,b4,Q b5 u1 (i4 u ⟨u2.1.trans (by rw [i2]),u2.2⟩)⟩
     refine ⟨U,⟨⟨g1,⟨i1.below,fun j=>?_,i1.nodup,i1.apart,fun j b mb=>⟨(i1.plain j b mb).1,(i1.plain j b mb).2.of (by
       show ZkR (upd (upd st.ob k (.row e q xs 0)) m.2.1 (.box ty (cs.set m.2.2 (.c (.sl e q xs)))) j)=_
       by_cases h1:j=m.2.1
       .subst h1;rw [ZF,ZP _ _ (fun e'=>E e'.symm),f];rfl
       .rw [ZP _ _ h1])⟩,i1.gz,i1.zx,i1.nw⟩,fun t=>(hS t).less i2 i3⟩,⟨hU.sl,fun j=>?_,fun j hj=>?_⟩,B,hh⟩,hk⟩
     .show ObR g1 w j (upd (upd st.ob k (.row e q xs 0)) m.2.1 (.box ty (cs.set m.2.2 (.c (.sl e q xs)))) j)
      by_cases h1:j=m.2.1
      .subst h1;rw [ZF];exact I
      .rw [ZP _ _ h1];exact i1.obs j
     .show obU U (upd (upd st.ob k (.row e q xs 0)) m.2.1 (.box ty (cs.set m.2.2 (.c (.sl e q xs)))) j)
      by_cases h1:j=m.2.1
      .subst h1;rw [ZF];exact K G trivial
      .rw [ZP _ _ h1];by_cases h2:j=k
       .subst h2;rw [ZF];trivial
       .rw [ZP _ _ h2];exact hU.ob j
     .show upd (upd st.ob k (.row e q xs 0)) m.2.1 (.box ty (cs.set m.2.2 (.c (.sl e q xs)))) j=_
      rw [ZP _ _ (show j≠m.2.1 from fun e'=>hj (e' ▸ ab)),ZP _ _ (show j≠k from fun e'=>hj (e' ▸ C))];exact hU.gone j hj
    .exact A
   .exact A
  .rename_i e q xs d f;split
   .rename_i ac;have C:U m.2.1:=Classical.byContradiction fun hn=>by have:=hU.gone _ hn;rw [f]at this;simp at this
    obtain ⟨g1,t1,t2,t3⟩:=ZyI hH f ac;refine ⟨U,⟨⟨g1,t1,fun t=>(hS t).less t2 t3⟩,⟨hU.sl,fun k=>?_,fun k l=>?_⟩,B,hh⟩,hk⟩
    .show obU U (upd st.ob m.2.1 (.row e q xs m.2.2) k)
     by_cases h1:k=m.2.1
     .subst h1;rw [ZF];trivial
     .rw [ZP _ _ h1];exact hU.ob k
    .show upd st.ob m.2.1 (.row e q xs m.2.2) k=_
     rw [ZP _ _ (show k≠m.2.1 from fun e'=>l (e' ▸ C))];exact hU.gone k l
   .exact A
  .exact A
theorem Zxi [NW] (m:Bool×Nat×Nat) (hI:Inv W U st a w) (hk:∀k,st.n<=k->¬U k):∃U',Inv W U' (st.matN m) a w/\∀k,(st.matN m).n<=k->¬U' k:=by
 have c:∃U',Inv W U' st a w/\∀k,st.n<=k->¬U' k:=⟨U,hI,hk⟩
 obtain ⟨⟨g,hH,hS⟩,hU,o,hh⟩:=hI;unfold St.matN;split
 .rename_i ag cs x;have A:QW U cs:=by have:=hU.sl m.2.1;rw [x]at this;exact this
  have hs:=hS m.2.1;rw [x]at hs;split
  .rename_i k f;split
   .rename_i e q xs d l;split
    .rename_i hd;subst hd;obtain ⟨g1,i1,i2,i3,i5⟩:=Zju hH k;rw [l]at i1;obtain ⟨hm,B,L,o1,o2,o3,o5⟩:=hH.deep l;have i4:∀v,AVR g w (.row k) v->AVR g1 w (.n (.sl e q xs)) v:=fun v hv=>by
      rcases o5 with ⟨_,q1,q2⟩|⟨q1,_⟩|⟨q1,_⟩
      .have hN:=hH.nodup k;have hP:=hH.plain k;have hF:=i5 ⟨_,_,_,_,l⟩;rw [q1,q2]at hN hP hF;rw [l]at hP;refine ⟨e,q,xs,B,L,rfl,hm,by rw [hv.1];exact o1,o2,by rw [hv.1];exact hN,fun b mb=>?_⟩;rw [hv.1]at mb;exact ⟨hF b mb,hH.nw b (hP b mb).1,(hP b mb).2⟩
      .omega
      .omega
     have C:U k:=Classical.byContradiction fun hn=>by have:=hU.gone _ hn;rw [l]at this;simp at this
     refine ⟨U,⟨⟨g1,i1,fun t=>?_⟩,⟨fun t=>?_,fun j=>?_,fun j hj=>?_⟩,o,hh⟩,hk⟩
     .show SVR g1 w (upd st.sl m.2.1 (.p ag (cs.set (m.2.2-4096) (.n (.sl e q xs)))) t) _
      by_cases ht:t=m.2.1
      .subst ht;rw [ZF];have h0:PVR g w ag cs (a.tmps.getD m.2.1 undef):=hs;have h1:PVR g1 w ag cs (a.tmps.getD m.2.1 undef):=(show SVR g w (.p ag cs) _ from hs).less i2 i3;cases ag with
       |true=>
        obtain ⟨vs,e1,h4⟩:=h0;obtain ⟨D,y,E⟩:=h1;have ev:vs=D:=by rw [e1]at y;simpa using y
        subst ev;obtain ⟨u,u1,u2⟩:=h4.at f;refine ⟨vs,e1,?_⟩;have:=E.set (i:=m.2.2-4096) (i4 u u2);obtain ⟨hl,he⟩:=AE.1 u1;rw [<-he,Ac hl]at this;exact this
       |false=>
        obtain ⟨z,rfl,h4⟩:=h0;cases hj:m.2.2-4096 with
        |zero=>rw [hj]at f;simp at f;subst f;exact ⟨_,rfl,i4 _ h4⟩
        |succ j=>rw [hj]at f;simp at f
      .rw [ZP _ _ ht];exact (hS t).less i2 i3
     .show svU U (upd st.sl m.2.1 (.p ag (cs.set (m.2.2-4096) (.n (.sl e q xs)))) t)
      by_cases ht:t=m.2.1
      .subst ht;rw [ZF];intro z mz;rcases Ad mz with mz|mz
       .exact A z mz
       .subst mz;trivial
      .rw [ZP _ _ ht];exact hU.sl t
     .show obU U (upd st.ob k (.row e q xs 0) j)
      by_cases h1:j=k
      .subst h1;rw [ZF];trivial
      .rw [ZP _ _ h1];exact hU.ob j
     .show upd st.ob k (.row e q xs 0) j=_
      rw [ZP _ _ (show j≠k from fun e'=>hj (e' ▸ C))];exact hU.gone j hj
    .exact c
   .exact c
  .exact c
 .exact c
theorem Znp [NW]:∀(ms:List (Bool×Nat×Nat)) {U:Nat->Prop}{st:St},Inv W U st a w->(∀k,st.n<=k->¬U k)->∃U',Inv W U' (st.mats ms) a w
 | [],U,st,hI,_=>⟨U,hI⟩
 |m::r,U,st,hI,hk=>by
  simp only[St.mats];split
  .obtain ⟨U',h1,h2⟩:=Zxi m hI hk;exact Znp r h1 h2
  .obtain ⟨U',h1,h2⟩:=Zyf m hI hk;exact Znp r h1 h2
theorem least {p:Nat->Prop}(h:∃n,p n):∃n,p n/\∀m,m<n->¬p m:=by
 obtain ⟨n,hn⟩:=h;induction n using Nat.strongRecOn with
 |_ n ih=>
  by_cases hm:∃m,m<n/\p m
  .obtain ⟨m,h1,h2⟩:=hm;exact ih m h1 h2
  .exact ⟨n,hn,fun m h1 h2=>hm ⟨m,h1,h2⟩⟩
theorem ZvN [NW] {c:Code}{Q:Exit->Act->World->Prop}(J:Nat->Act->World->Prop) (n:Nat) (h₀:J n a w) (b:∀n a w,J n a w->c.wp P (Exit.then (fun a' w'=>∃m,m<n/\J m a' w') Q) a w):(Code.loop c).wp P Q a w:=by
 classical
 let μ:Act->World->Nat:=fun a w=>if h:∃n,J n a w then Classical.choose (least h) else 0
 have hμ:∀a w (h:∃n,J n a w),J (μ a w) a w/\∀m,m<μ a w->¬J m a w:=fun a w h=>by
  simp only[μ,dif_pos h];exact Classical.choose_spec (least h)
 refine wp_loop (fun a w=>∃n,J n a w) μ ⟨n,h₀⟩ fun a w h=>?_;refine wp_mono (b (μ a w) a w (hμ a w h).1) fun e a' w' he=>?_;cases e with
 |normal=>
  obtain ⟨m,h1,h2⟩:=he;refine ⟨⟨m,h2⟩,?_⟩;have h3:=hμ a' w' ⟨m,h2⟩;rcases Nat.lt_or_ge m (μ a' w') with h4|h4
  .exact absurd h2 (h3.2 m h4)
  .omega
 |_=>exact he
mutual
theorem RC.deep {w:World}:∀{x:CT}{v:Value}{L:List Nat},RC w x v L->ctD x
 |.int _ _,_,_,_=>trivial
 |.bool _,_,_,_=>trivial
 |.str _,_,_,h=>h.2.2
 |.sl _ _ _,_,_,⟨A,cap,cs,L0,L1,h1,h2,h3,h4,h5,h6,h7⟩=>⟨by unfold maxLen at h3;omega,h7.deep⟩
 |.pt _,_,_,⟨_,_,_,_,_,_,_,h⟩=>h.deep
 |.fn _ _,_,_,⟨_,_,h⟩=>h.deep
 |.mp _ _ _,_,_,_=>trivial
 |.ifc _,_,_,_=>trivial
 |.any,_,_,_=>trivial
 |.nl _ _,_,_,_=>trivial
theorem RCs.deep {w:World}:∀{x:List CT}{v:List Value}{L:List Nat},RCs w x v L->ctsD x
 | [],_,_,_=>trivial
 |_::_,_,_,⟨v,cs,L1,L2,h1,h2,h3,h4⟩=>⟨h3.deep,h4.deep⟩
theorem REs.deep {w:World}{m:Nat}:∀{x:List (List CT)}{v:List Value}{L:List Nat},REs w m x v L->essD x
 | [],_,_,_=>trivial
 |_::_,_,_,⟨c1,c2,L1,L2,h1,h2,h3,h4⟩=>⟨h3.1.deep,h4.deep⟩
end
theorem AVR.deep [NW] {g:Gh}{w:World}:∀{x:AV}{v:Value},AVR g w x v->avD x
 |.c _,_,⟨_,h,_⟩=>h.deep
 |.n _,_,h=>by obtain ⟨_,h1,_⟩:=NR.toC h;exact h1.deep
 |.row _,_,_=>trivial
 |.nil _ _,_,_=>trivial
 |.dead,_,_=>trivial
theorem AVRs.deep [NW] {g:Gh}{w:World}:∀{x:List AV}{v:List Value},ZM (AVR g w) x v->ZwH x
 | [],[],_=>trivial
 |_::_,_::_,h=>⟨h.1.deep,AVRs.deep h.2⟩
 | [],_::_,h=>h.elim
 |_::_,[],h=>h.elim
theorem Inv.deep [NW] (hI:Inv W U st a w):WF st:=by
 obtain ⟨⟨g,hH,hS⟩,hU,hdef,hh⟩:=hI;refine ⟨fun t b cs ht=>?_,fun k t cs hk=>?_,fun k e m xs d hk=>?_⟩
 .have h:=hS t;rw [ht]at h;cases b with
  |true=>obtain ⟨vs,_,h2⟩:=h;exact AVRs.deep h2
  |false=>obtain ⟨x,rfl,h2⟩:=h;exact ⟨h2.deep,trivial⟩
 .have h:=hH.obs k;rw [hk]at h;obtain ⟨b,vs,_,_,_,_,h2⟩:=h;exact AVRs.deep h2
 .have h:=hH.obs k;rw [hk]at h;obtain ⟨_,cs,L,h1,h2,_⟩:=h;refine ⟨?_,h2.deep⟩;rcases h1.2 with ⟨_,h3⟩|⟨_,_,cap,_,_,_,_,h3,h4,_⟩
  .omega
  .unfold maxLen at h4;omega
def ZCS:Ex->Exit
 |.normal=>.normal
 |.exit id=>.exit id
 |.ret=>.ret
def X7 (od:OD) (tt:Nat->Option TI) (hs:FuncId->Nat) (a:Bool) (N:Nat):Code->Bool
 |.skip=>true
 |.region id ops d=>(ops.toList.all fun o=>match o.dst with|some t=>Nat.blt t N&&(!a||Nat.blt 0 t)|none=>true)&&(match od id with|none=>!d||ZtF tt hs ops|some l=>d&&Zuy tt hs l.2 ops l.1)
 |.seq x y=>X7 od tt hs a N x&&X7 od tt hs a N y
 |.cond _ x y=>X7 od tt hs a N x&&X7 od tt hs a N y
 |.block _ x=>X7 od tt hs a N x
 |.loop x=>X7 od tt hs a N x
 |.exit _=>true
 |.ret=>true
 |_=>false
theorem ZaD [NW] {od:OD}(htt:MOk P J JF W tt) (hmix:P.follows .mixedOrders=true) {hds:FuncId->Nat}{k0:Bool}(u:W.hv=none\/k0=true) {N:Nat}:∀(c:Code),X7 od tt hds k0 N c=true->∀(Qs:Ex->St->Prop) (Q:Exit->Act->World->Prop),
  (∀ex U' st' a' w',Inv W U' st' a' w'->(∀k,st'.n<=k->¬U' k)->a'.tmps.size=N->Qs ex st'->Q (ZCS ex) a' w')->
  ∀U st a w,Inv W U st a w->(∀k,st.n<=k->¬U k)->a.tmps.size=N->swp tt (SC P J JF hds) od c Qs st->c.wp P Q a w
 |.skip,_,Qs,Q,hQ,U,st,a,w,hI,hk,hs,h=>wp_skip (hQ .normal U st a w hI hk hs h)
 |.exit id,_,Qs,Q,hQ,U,st,a,w,hI,hk,hs,h=>wp_exit (hQ (.exit id) U st a w hI hk hs h)
 |.ret,_,Qs,Q,hQ,U,st,a,w,hI,hk,hs,h=>wp_ret (hQ .ret U st a w hI hk hs h)
 |.region id f d,hok,Qs,Q,hQ,U,st,a,w,hI,hk,hs,h=>by
  simp only[X7,AB,AD]at hok;have hN:∀o∈f.toList,∀t,o.dst=some t->t<N/\(W.hv=none\/t≠0):=fun o mo t ht=>by
   have:=hok.1 o mo;rw [ht]at this;simp only[AB,AH]at this;refine ⟨AC this.1,u.imp (fun h=>h) fun h=>?_⟩;rcases this.2 with h2|h2
   .rw [h]at h2;simp at h2
   .have h3:0<t:=AC h2;exact Nat.ne_of_gt h3
  have z:∀U' st' a' w',Inv W U' st' a' w'->(∀k,st.n+16*f.toList.length<=k->¬U' k)->a'.tmps.size=N->Zqd (st.n+16*f.toList.length) (Qs .normal) st'->Q .normal a' w':=fun U' st' a' w' h1 h2 h3 h4=>
   hQ .normal U' {st' with n:=st.n+16*f.toList.length} a' w' ⟨h1.ex,⟨h1.wf.sl,h1.wf.ob,h1.wf.gone⟩,h1.defers,h1.hand⟩ h2 h3 h4
  have A:Inv W U st a {w with drawn:=w.drawn+1}:=by
   obtain ⟨⟨g,hH,hS⟩,hU,D,hh⟩:=hI;have hw:∀b,b<w.heap.size->¬g.own b->({w with drawn:=w.drawn+1}:World).heap[b]?=w.heap[b]?:=fun _ _ _=>rfl;refine ⟨⟨g,hH.step (U:=U) (fun _=>False) ⟨hH.below.os,hH.below.tape,hH.below.output,hH.below.size,hH.below.block⟩ rfl (fun _ _ _=>rfl) (fun _ _=>⟨rfl,rfl,rfl,rfl⟩) hU.ob (fun _ _=>rfl) (QU.refl _ _) (fun _ h=>h.elim),fun t=>?_⟩,hU,D,hh⟩;exact (hS t).move (hU.sl t) (fun _ _=>rfl) hw (QU.refl _ _) (A7 _)
  have v:∀(b:Bool) (R:List Nat),Zku tt hds b f R=true->(∀j,elB f j=true)->R.length<=f.size->(∀i,i∈R↔i<f.size)->Zf3 tt (SC P J JF hds) b f.toList st.n R (Zqd (st.n+16*f.toList.length) (Qs .normal)) st->(Code.region id f true).wp P Q a w:=fun b R h1 h2 h3 h4 h5=>by
   refine wp_region_any hmix ?_;refine Zvz (base:=st.n) htt hN h2 (fun U' st' a' w' h1 h2 h3 h4=>z U' st' a' w' h1 (by simpa using h2) h3 h4) f.size R (Array.replicate f.size false) U st a _ h3 (ZpU h1) yG (fun i=>?_) (fun i o ho hl=>?_) h5 A (fun j _ k B _=>hk k yE) (fun k B=>hk k yE) hs
   .rw [h4];constructor
    .intro hi;exact ⟨hi,by simp [AA,hi]⟩
    .exact fun hi=>hi.1
   .exfalso;have hi:i<f.size:=(Ab.1 ho).1;simp [AA,hi]at hl
  cases ho:od id with
  |none=>
   have q:=hok.2;simp only[ho]at q;simp only[swp,ho,Zvi]at h;have h':Z7 tt (SC P J JF hds) f.toList st.n f.toList (Zqd (st.n+16*f.toList.length) (Qs .normal)) st:=h;cases d with
   |false=>
    refine wp_region ?_;have:=ZoZ (Q:=Q) htt hN f.toList 0 st.n U st a w yG h' hI hk hs z;rw [Aq];simpa using this
   |true=>
    have m:ZtF tt hds f=true:=by simpa using q
    simp only[ZtF,AB]at m;have h2:=ZuG (tt:=tt) (S:=SC P J JF hds) (all:=f.toList) (base:=st.n) (K:=Zqd (st.n+16*f.toList.length) (Qs .normal)) f.toList 0 st yG (by simpa using h');rw [<-Aq]at h2;exact v false (AR f.size) m.1 (ZrD m.2) yG yG (by simpa using h2)
  |some l=>
   have q:=hok.2;simp only[ho,AB]at q;simp only[swp,ho,Zvi]at h;obtain ⟨rfl,m⟩:=q;simp only[Zuy,AB]at m;exact v l.2 l.1 m.1.1.1.1 (ZrD m.1.1.1.2) (AC m.1.1.2) (fun i=>⟨fun mi=>AC (AD.1 m.1.2 i mi),fun hi=>by simpa using AD.1 m.2 i (by simpa using hi)⟩) h
 |.seq x y,hok,Qs,Q,hQ,U,st,a,w,hI,hk,hs,h=>by
  simp only[X7,AB]at hok;refine wp_seq (ZaD htt hmix u x hok.1 (ZgR (swp tt (SC P J JF hds) od y Qs) Qs) _ ?_ U st a w hI hk hs h);intro ex U' st' a' w' h1 h2 h3 h4;cases ex with
  |normal=>exact ZaD htt hmix u y hok.2 Qs Q hQ U' st' a' w' h1 h2 h3 h4
  |exit id=>exact hQ (.exit id) U' st' a' w' h1 h2 h3 h4
  |ret=>exact hQ .ret U' st' a' w' h1 h2 h3 h4
 |.cond c x y,hok,Qs,Q,hQ,U,st,a,w,hI,hk,hs,h=>by
  simp only[X7,AB]at hok;simp only[swp,ZpB]at h;split at h
  .rename_i hb;obtain ⟨b,C⟩:∃b,st.ev tt 0 c=.p false [.c (.bool b)]:=by
    unfold Zav at hb;split at hb
    .rename_i b he;exact ⟨b,he⟩
    .simp at hb
   obtain ⟨g,hH,hS⟩:=hI.ex;have hv:=(Zlm (P:=P) htt.tt hS hI.wf 0 c).1;rw [C]at hv;have F:=Zgr hv;refine wp_cond F ?_;cases b with
   |true=>rw [if_pos (by rw [C];rfl)]at h;exact ZaD htt hmix u x hok.1 Qs Q hQ U st a w hI hk hs h
   |false=>rw [if_neg (by rw [C];simp [Qg])]at h;exact ZaD htt hmix u y hok.2 Qs Q hQ U st a w hI hk hs h
  .exact h.elim
 |.block id x,hok,Qs,Q,hQ,U,st,a,w,hI,hk,hs,h=>by
  refine wp_block (ZaD htt hmix u x hok (Zhd id Qs) _ ?_ U st a w hI hk hs h);intro ex U' st' a' w' h1 h2 h3 h4;cases ex with
  |normal=>exact hQ .normal U' st' a' w' h1 h2 h3 h4
  |exit j=>
   show Exit.inBlock id Q (.exit j) a' w'
   simp only[Zhd]at h4;simp only[Exit.inBlock];split
   .rename_i e;rw [if_pos e]at h4;exact hQ .normal U' st' a' w' h1 h2 h3 h4
   .rename_i e;rw [if_neg e]at h4;exact hQ (.exit j) U' st' a' w' h1 h2 h3 h4
  |ret=>exact hQ .ret U' st' a' w' h1 h2 h3 h4
 |.loop x,hok,Qs,Q,hQ,U,st,a,w,hI,hk,hs,h=>by
  obtain ⟨n,hn⟩:=h;refine ZvN (fun n a w=>∃U st,Inv W U st a w/\(∀k,st.n<=k->¬U k)/\a.tmps.size=N/\Zlo (swp tt (SC P J JF hds) od x) Qs n st) n ⟨U,st,hI,hk,hs,hn⟩ ?_;rintro n a w ⟨U,st,hI,hk,hs,hn⟩;cases n with
  |zero=>exact hn.elim
  |succ n=>
   obtain ⟨ms,ρ,hρ,hb⟩:=hn;obtain ⟨U2,E⟩:=Znp ms hI hk;refine ZaD htt hmix u x hok (ZgR (Zlo (swp tt (SC P J JF hds) od x) Qs n) Qs) _ ?_ _ ((st.mats ms).ren ρ) a w (Zuv E hρ) (fun k B hU=>by simp only[St.ren]at B;omega) hs (hb (Zuv E hρ).deep);intro ex U' st' a' w' h1 h2 h3 h4;cases ex with
   |normal=>exact ⟨n,yE,U',st',h1,h2,h3,h4⟩
   |exit id=>exact hQ (.exit id) U' st' a' w' h1 h2 h3 h4
   |ret=>exact hQ .ret U' st' a' w' h1 h2 h3 h4
 |.rangeFunc _ _ _ _,hok,_,_,_,_,_,_,_,_,_,_,_=>by simp [X7]at hok
 |.scope _,hok,_,_,_,_,_,_,_,_,_,_,_=>by simp [X7]at hok
 |.label _,hok,_,_,_,_,_,_,_,_,_,_,_=>by simp [X7]at hok
 |.goto _,hok,_,_,_,_,_,_,_,_,_,_,_=>by simp [X7]at hok
 |.refuse _,hok,_,_,_,_,_,_,_,_,_,_,_=>by simp [X7]at hok
end
end
end Go.Proofs.YtlpkbfjcdaanmaaGreatDoor
