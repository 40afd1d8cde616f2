/- Texts of this proof, joined: BCall, BCall2, BReg, BDraw, BAny, BSound. What each holds is said at its theorems. -/
import Derived.Test.YtfehfkfdfmcgfaaGreatDoorRelevantQ4
import Derived.Orders
set_option linter.unusedSimpArgs false
set_option linter.unusedVariables false
open Array renaming getD_eq_getD_getElem?→A8,getElem?_setIfInBounds_ne→AN,getElem?_setIfInBounds→AT,getElem?_eq_some_iff→AX
open Bool renaming and_eq_true→A9,or_eq_true→AF
open List renaming mem_map→A2,mem_append→A5,mem_cons→A6,all_eq_true→AB,getElem?_eq_some_iff→AC,range'→AG,map_congr_left→AI,not_mem_nil→AJ,nodup_cons→AK,mem_range'_1→AL,nodup_append→AM,range→AO,flatMap_cons→AP,range'_succ→AQ,mem_flatMap→AR,mem_of_getElem?→AU,cons_append→AW,set_getElem_self→AY,mem_or_eq_of_mem_set→AZ,map_map→Ac,length_cons→Ad,mem_filterMap→Ae,getElem_mem→Ag,range_eq_range'→Ah
open List.cons renaming injEq→Ab
open Nat renaming le_refl→A4,le_of_ble_eq_true→AA,le_trans→AS,lt_of_lt_of_le→Aa
open Option renaming map_eq_some_iff→A1,bind_eq_some_iff→A7,map_none→AD,map_some→AE,bind_some→AH,getD_some→Af
open Option.some renaming injEq→A0
open Prod.mk renaming injEq→A3
namespace Go.Proofs.YtfehfkfdfmcgfaaGreatDoor
section
open Go.RowKit
theorem Zdb {α β:Type} {f h:α→List β}:∀{l:List α},(∀x∈l,f x=h x)→l.flatMap f=l.flatMap h
 | [],_=>rfl
 | x::l,hh=>by rw [AP,AP,hh x (by simp),Zdb fun y m=>hh y (by simp [m])]
def ZkB (w:World) (z:Nat→Prop) (x:Bool × List CT) (v:Value):Prop:=
 (x.1=true∧∃(vs:List Value) (L:List Nat),v=.agg vs.toArray∧RCs w x.2 vs L∧∀b∈L,¬z b)∨(x.1=false∧∃(ct:CT) (L:List Nat),x.2=[ct]∧RC w ct v L∧∀b∈L,¬z b)
def OC (w:World) (B:Nat) (n:Nat→Prop):Bool × CT→Value→List Nat→Prop
 | (false,.sl e m xs),v,F=>0<m∧∃cs L,w.ownsV B e m v xs.length cs∧REs w m xs cs L∧F=v.ownBlock.toList++L∧∀b∈v.ownBlock.toList,n b
 | (false,.int k i),v,F=>RC w (.int k i) v []∧F=[]
 | (false,.bool b),v,F=>RC w (.bool b) v []∧F=[]
 | (false,.str s),v,F=>RC w (.str s) v []∧F=[]
 | (false,.ifc b),v,F=>RC w (.ifc b) v []∧F=[]
 | (false,.any),v,F=>RC w .any v []∧F=[]
 | (false,.pt _),_,_=>False
 | (false,.fn _ _),_,_=>False
 | (false,.mp _ _ _),_,_=>False
 | (false,.nl _ _),_,_=>False
 | (true,x),v,F=>F=[]∧∃L,RC w x v L∧∀b∈L,¬n b
def OCs (w:World) (B:Nat) (n:Nat→Prop):List (Bool × CT)→List Value→List Nat→Prop
 | [],vs,F=>vs=[]∧F=[]
 | x::r,vs,F=>∃v vs' F1 F2,vs=v::vs'∧F=F1++F2∧OC w B n x v F1∧OCs w B n r vs' F2
def OP (w:World) (B:Nat) (n:Nat→Prop) (x:RT) (v:Value) (F:List Nat):Prop:=
 (x.1=true∧∃vs:List Value,v=.agg vs.toArray∧OCs w B n x.2 vs F)∨(x.1=false∧∃ct,x.2=[ct]∧OC w B n ct v F)
def OPs (w:World) (B:Nat) (n:Nat→Prop):List RT→List Value→List Nat→Prop
 | [],vs,F=>vs=[]∧F=[]
 | x::r,vs,F=>∃v vs' F1 F2,vs=v::vs'∧F=F1++F2∧OP w B n x v F1∧OPs w B n r vs' F2
def ZjD (w:World) (B:Nat) (n:Nat→Prop) (res:List RT) (v:Value):Prop:=
 ∃(vs:List Value) (F:List Nat),OPs w B n res vs F∧Own w B F∧v=(if h:vs.toArray.size=1 then vs.toArray[0] else .tuple vs.toArray)
def ZdV (P : Program) (f : FuncId) : Prop := ∃ fn, P.funcs[f]? = some fn ∧ (fn.name == "runtime.NumGoroutine") = false ∧ fn.body.isNone = false
def Zk (P:Program) (J:World→Prop) (f:FuncId) (args:List (Bool × List CT)) (res:List RT):Prop:=
 ZdV P f∧∀(w:World) (z:Nat→Prop) (vs:List Value),J w→(∀b,z b→b<w.heap.size)→ZL (ZkB w z) args vs→Calls P f vs.toArray w fun e w'=>∃v n,e=.returned v∧ZjD w' w.heap.size n res v∧(∀b,z b→n b)∧Below w.heap.size w w'
def ZnA (w:World) (z:Nat→Prop) (q:Option Nat):ZgU→Value→Prop
 | .row e m xs,v=>ZaN xs=true∧0<m∧v.ownBlock=q∧∃cs,w.ownsV 0 e m v xs.length cs∧REs w m xs cs []
 | .box t cs,v=>∃b vs L,q=some b∧v=.pointer (some ⟨b,0,none⟩)∧w.heap[b]?=some (.cells (vs:List Value).toArray t (0,0))∧RCs w cs vs L∧∀a∈L,¬z a
def inQ (z:Nat→Prop) (q:Option Nat) (a:Nat):Prop:=z a∨q=some a
structure Zzh (q:Option Nat) (w w':World):Prop where
 os:w'.os=w.os
 tape:w'.tape=w.tape
 output:w'.output=w.output
 size:w.heap.size≤w'.heap.size
 block:∀k,k<w.heap.size→¬q=some k→w'.heap[k]?=w.heap[k]?
def Zbx (P:Program) (J:World→Prop) (JF:Nat→Prop) (f:FuncId) (h:ZgU) (args:List (Bool × List CT)) (res:List RT) (h':ZgU):Prop:=
 ZdV P f∧∀(w:World) (z:Nat→Prop) (q:Option Nat) (v0:Value) (vs:List Value),J w→(∀b,q=some b→JF b)→(∀b,z b→b<w.heap.size∧¬q=some b)→ZnA w (inQ z q) q h v0→ZL (ZkB w (inQ z q)) args vs→
  Calls P f (v0::vs).toArray w fun e w'=>∃v n,e=.returned v∧ZjD w' w.heap.size n res v∧(∀b,inQ z q b→n b)∧ZnA w' n q h' v0∧Zzh q w w'
def Zol (b:Nat):NB→Value
 | .box _ _=>.pointer (some ⟨b,0,none⟩)
 | .map _ _ _=>.map (some b)
def nbR (w:World) (n:Nat→Prop) (b:Nat):NB→Prop
 | .box t cs=>∃us L,w.heap[b]?=some (.cells (us:List Value).toArray t (0,0))∧RCs w cs us L∧∀x∈L,¬n x
 | .map kk vk kv=>∃es c,w.heap[b]?=some (.map es c)∧Zc7 es=kv∧Zix kk vk kv
def Zmx (P:Program) (J:World→Prop) (f:FuncId) (args:List (Bool × List CT)) (nb:NB):Prop:=
 ZdV P f∧∀(w:World) (z:Nat→Prop) (vs:List Value),J w→(∀b,z b→b<w.heap.size)→ZL (ZkB w z) args vs→
  Calls P f vs.toArray w fun e w'=>∃(b:Nat) (n:Nat→Prop),e=.returned (Zol b nb)∧w.heap.size≤b∧nbR w' n b nb∧n b∧(∀x,z x→n x)∧Below w.heap.size w w'
def SC (P:Program) (J:World→Prop) (JF:Nat→Prop) (hd:FuncId→Nat):Ctx:=⟨Zk P J,Zbx P J JF,hd,Zmx P J⟩
structure MOk (P:Program) (J:World→Prop) (JF:Nat→Prop) (W:Zaa) (tt:Nat→Option TI):Prop where
 tt:∀t i,tt t=some i→TOk P t i
 jb:∀w:World,Bel W w→J w
 jf:∀b,W.heap.size≤b→JF b
 xf:∀b,W.x b→JF b
section
variable {P:Program} {J:World→Prop} {W:Zaa} {U:Nat→Prop} {key:Nat} {st:St} {g:Gh} {w w':World} {a:Act} {tt:Nat→Option TI}
theorem MOk.at {JF:Nat→Prop} (h:MOk P J JF W tt) (hb:Bel W w):J w:=h.jb _ hb
def ZvW (ob:Nat→Ob):AV→Prop
 | .row k=>∃e m xs,ob k=.row e m xs 0
 | _=>True
theorem ZpW [NW] (hI:HI W g st.ob w) {x:AV} {ct:CT} {v:Value} (h:ZbE st x=some ct) (hx:AVR g w x v):∃L,RC w ct v L∧(ZvW st.ob x→∀b∈L,¬g.own b):=by
 cases x with
 | c y=>simp only[ZbE,A0] at h;subst h;obtain ⟨L,h1,h2⟩:=hx;exact ⟨L,h1,fun _=>h2⟩
 | row k=>
  simp only[ZbE] at h
  split at h
  ·rename_i e m xs d hk
   simp only[A0] at h;subst h
   obtain ⟨hm,cs,L1,o1,o2,o3,o5⟩:=hI.deep hk
   obtain ⟨A,cap,L0,s1,s2,s3,s4,s5⟩:=Sl.row o1
   refine ⟨L0++L1,⟨A,cap,cs,L0,L1,by rw [hx.1,s1],s2,s3,rfl,hm,s4,o2⟩,?_⟩
   rintro ⟨e',m',xs',h0⟩ b mb
   rw [hk] at h0
   have hd:d=0:=by simp at h0;exact h0.2.2.2
   rcases A5.1 mb with m1 | m1
   ·rcases o5 with ⟨q,_⟩ | ⟨q,_⟩ | ⟨_,_,_,q⟩
    ·omega
    ·omega
    ·exact q b (s5.subset m1)
   ·exact o3 b m1
  ·simp at h
 | nil e m=>
  simp only[ZbE] at h
  split at h
  ·rename_i hm
   simp only[A0] at h;subst h
   exact ⟨[],⟨none,0,[],[],[],hx,by simp,Nat.zero_le _,rfl,hm,Sl.zero,rfl,rfl⟩,by simp⟩
  ·simp at h
 | n y=>simp only[ZbE,A0] at h;subst h;obtain ⟨L,h1,h2⟩:=NR.toC hx;exact ⟨L,h1,fun _=>h2⟩
 | dead=>simp [ZbE] at h
theorem ZeF [NW] (hI:HI W g st.ob w):∀{xs:List AV} {cts:List CT} {vs:List Value},YG st xs=some cts→ZL (AVR g w) xs vs→∃L,RCs w cts vs L∧((∀x∈xs,ZvW st.ob x)→∀b∈L,¬g.own b)
 | [],_,[],h,_=>by simp [YG] at h;subst h;exact ⟨[],⟨rfl,rfl⟩,by simp⟩
 | [],_,_::_,_,h=>h.elim
 | _::_,_,[],_,h=>h.elim
 | x::r,cts,v::vs,h,hr=>by
  simp only[YG] at h
  obtain ⟨c1,h1,h⟩:=A7.1 h
  obtain ⟨c2,h2,rfl⟩:=A1.1 h
  obtain ⟨L1,a1,b1⟩:=ZpW hI h1 hr.1
  obtain ⟨L2,a2,b2⟩:=ZeF hI h2 hr.2
  refine ⟨L1++L2,⟨v,vs,L1,L2,rfl,rfl,a1,a2⟩,fun ho b mb=>?_⟩
  rcases A5.1 mb with m | m
  ·exact b1 (ho x (by simp)) b m
  ·exact b2 (fun y my=>ho y (by simp [my])) b m
def ZtR (ob:Nat→Ob):SV→Prop
 | .p _ cs=>∀x∈cs,ZvW ob x
 | _=>True
theorem Zwd [NW] (hI:HI W g st.ob w) {x:SV} {r:Bool × List CT} {v:Value} (h:ZcN st x=some r) (hx:SVR g w x v) {z:Nat→Prop} (hz:(∀b,¬z b)∨(ZtR st.ob x∧∀b,z b→g.own b)):ZkB w z r v:=by
 cases x with
 | p ag cs=>
  simp only[ZcN] at h
  obtain ⟨l,hl,rfl⟩:=A1.1 h
  have av:∀{L:List Nat},((∀x∈cs,ZvW st.ob x)→∀b∈L,¬g.own b)→∀b∈L,¬z b:=fun hL b mb=>by
   rcases hz with hz | ⟨h1,h2⟩
   ·exact hz b
   ·exact fun hb=>hL h1 b mb (h2 b hb)
  cases ag with
  | true=>
   obtain ⟨vs,rfl,h2⟩:=hx
   obtain ⟨L,hL,hL2⟩:=ZeF hI hl h2
   exact .inl ⟨rfl,vs,L,rfl,hL,av hL2⟩
  | false=>
   obtain ⟨y,rfl,h2⟩:=hx
   simp only[YG] at hl
   obtain ⟨c1,h1,hl⟩:=A7.1 hl
   simp at hl;subst hl
   obtain ⟨L1,a1,b1⟩:=ZpW hI h1 h2
   exact .inr ⟨rfl,c1,L1,rfl,a1,av fun ho=>b1 (ho y (by simp))⟩
 | _=>simp [ZcN] at h
theorem Zc2 [NW] (hI:HI W g st.ob w) {z:Nat→Prop}:∀{xs:List SV} {l:List (Bool × List CT)} {vs:List Value},Z1 st xs=some l→ZL (SVR g w) xs vs→((∀b,¬z b)∨((∀x∈xs,ZtR st.ob x)∧∀b,z b→g.own b))→ZL (ZkB w z) l vs
 | [],_,[],h,_,_=>by simp [Z1] at h;subst h;trivial
 | [],_,_::_,_,h,_=>h.elim
 | _::_,_,[],_,h,_=>h.elim
 | x::r,l,v::vs,h,hr,hz=>by
  simp only[Z1] at h
  obtain ⟨c1,h1,h⟩:=A7.1 h
  obtain ⟨c2,h2,rfl⟩:=A1.1 h
  exact ⟨Zwd hI h1 hr.1 (hz.imp id fun q=>⟨q.1 x (by simp),q.2⟩),Zc2 hI h2 hr.2 (hz.imp id fun q=>⟨fun y my=>q.1 y (by simp [my]),q.2⟩)⟩
theorem Zxf {vs:List SV} {ob:Nat→Ob} (h:vs.all Zha=true):∀x∈vs,ZtR ob x:=fun x mx=>by
 have hx:=AB.1 h x mx
 cases x with
 | p ag cs=>
  intro y my
  have hy:=AB.1 hx y my
  cases y with
  | row k=>simp [Zaw] at hy
  | _=>trivial
 | _=>trivial
def CR (val:Nat→Value) (w:World) (n:Nat→Prop) (l:Bool) (lo hi:Nat):AV→Value→Prop
 | .row k,v=>lo≤k∧k<hi∧v=val k∧v.oneCell'=true
 | .c x,v=>∃L,RC w x v L∧∀b∈L,l=true∧¬n b
 | _,_=>False
structure Zrw (w:World) (B lo hi:Nat) (n:Nat→Prop) (up:List (Nat × Ob)) (F:List Nat) (val:Nat→Value) (O D:Nat→List Nat):Prop where
 le:lo≤hi
 at_:∀k,lo≤k→k<hi→∃e m xs cs,(∀ob,Zp ob up k=.row e m xs 2)∧0<m∧w.ownsV B e m (val k) xs.length cs∧REs w m xs cs (D k)∧O k=(val k).ownBlock.toList∧∀b∈O k,n b
 out:∀k,¬(lo≤k∧k<hi)→∀ob,Zp ob up k=ob k
 foot:F=(AG lo (hi - lo)).flatMap fun k=>O k++D k
theorem Zrw.join [NW] {B lo mid hi:Nat} {n:Nat→Prop} {u1 u2:List (Nat × Ob)} {F1 F2:List Nat} {v1 v2:Nat→Value} {O1 O2 D1 D2:Nat→List Nat} (h1:Zrw w B lo mid n u1 F1 v1 O1 D1) (h2:Zrw w B mid hi n u2 F2 v2 O2 D2):
  Zrw w B lo hi n (u1++u2) (F1++F2) (fun k=>if k<mid then v1 k else v2 k) (fun k=>if k<mid then O1 k else O2 k) (fun k=>if k<mid then D1 k else D2 k):=by
 have hl:=h1.le
 have hr:=h2.le
 refine ⟨by omega,fun k a b=>?_,fun k hk ob=>?_,?_⟩
 ·by_cases hk:k<mid
  ·obtain ⟨e,m,xs,cs,p1,p2⟩:=h1.at_ k a hk
   simp only[hk,if_true]
   exact ⟨e,m,xs,cs,fun ob=>by rw [YR,h2.out k (by omega)];exact p1 ob,p2⟩
  ·obtain ⟨e,m,xs,cs,p1,p2⟩:=h2.at_ k (by omega) b
   simp only[hk,if_false]
   exact ⟨e,m,xs,cs,fun ob=>by rw [YR];exact p1 _,p2⟩
 ·rw [YR,h2.out k (by omega),h1.out k (by omega)]
 ·rw [h1.foot,h2.foot,show hi - lo=(mid - lo)+(hi - mid) by omega,←List.range'_append_1,List.flatMap_append,show lo+(mid - lo)=mid by omega]
  congr 1
  ·refine Zdb fun k hk=>?_
   have:=(AL.1 hk).2
   simp [show k<mid by omega]
  ·refine Zdb fun k hk=>?_
   have:=(AL.1 hk).1
   simp [show ¬k<mid by omega]
theorem CR.mono {val val':Nat→Value} {n:Nat→Prop} {l:Bool} {lo hi lo' hi':Nat} {x:AV} {v:Value} (h:CR val w n l lo hi x v) (hl:lo'≤lo) (hh:hi≤hi') (hv:∀k,lo≤k→k<hi→val' k=val k):CR val' w n l lo' hi' x v:=by
 cases x with
 | row k=>obtain ⟨a,b,c,d⟩:=h;exact ⟨by omega,by omega,by rw [hv k a b];exact c,d⟩
 | c x=>exact h
 | n _=>exact h.elim
 | nil _ _=>exact h.elim
 | dead=>exact h.elim
theorem Zaf [NW] {B:Nat} {n:Nat→Prop} {l:Bool}:∀{cts:List (Bool × CT)} {vs:List Value} {F:List Nat} (key:Nat),OCs w B n cts vs F→(ZbU cts=true→l=true)→∃val O D,Zrw w B key (Ya key cts).2.2 n (Ya key cts).2.1 F val O D∧ZL (CR val w n l key (Ya key cts).2.2) (Ya key cts).1 vs
 | [],vs,F,key,h,_=>by
  obtain ⟨rfl,rfl⟩:=h
  exact ⟨fun _=>undef,fun _=>[],fun _=>[],⟨A4 _,fun k a b=>by simp [Ya] at b;omega,fun _ _ _=>rfl,by simp [Ya]⟩,trivial⟩
 | (true,x)::r,_,_,key,⟨v,vs,F1,F2,rfl,rfl,h1,h2⟩,hl=>by
  obtain ⟨rfl,L,h3,h4⟩:=h1
  obtain ⟨val,O,D,hb,hr⟩:=Zaf (l:=l) key h2 fun e=>hl (by simp [ZbU])
  exact ⟨val,O,D,by simpa [Ya] using hb,⟨⟨L,h3,fun b mb=>⟨hl (by simp [ZbU]),h4 b mb⟩⟩,hr⟩⟩
 | (false,.sl e m xs)::r,_,_,key,⟨v,vs,F1,F2,rfl,rfl,h1,h2⟩,hl=>by
  obtain ⟨hm,cs,L,o1,o2,rfl,o3⟩:=h1
  obtain ⟨val,O,D,hb,hr⟩:=Zaf (l:=l) (key+1) h2 fun e=>hl (by simpa [ZbU] using e)
  have hone:Zrw w B key (key+1) n [(key,.row e m xs 2)] (v.ownBlock.toList++L) (fun _=>v) (fun _=>v.ownBlock.toList) (fun _=>L):=
   ⟨by omega,fun k a b=>⟨e,m,xs,cs,fun ob=>by simp [Zp,upd,show k=key by omega],hm,o1,o2,rfl,o3⟩,fun k hk ob=>by simp [Zp,upd,show ¬k=key by omega],by simp⟩
  refine ⟨_,_,_,hone.join hb,⟨?_,hr.mono fun x u _ hx=>hx.mono (by omega) (A4 _) fun k a b=>by simp [show ¬k<key+1 by omega]⟩⟩
  have hle:=hb.le
  obtain ⟨A,cap,hv⟩:=Zax o1
  exact ⟨A4 _,by simp only[Ya];omega,by simp,by simp [hv,Value.oneCell']⟩
 | (false,.int k i)::r,_,_,key,⟨v,vs,F1,F2,rfl,rfl,h1,h2⟩,hl=>by
  obtain ⟨h1,rfl⟩:=h1
  obtain ⟨val,O,D,hb,hr⟩:=Zaf (l:=l) key h2 fun e=>hl (by simpa [ZbU] using e)
  exact ⟨val,O,D,by simpa [Ya] using hb,⟨⟨[],h1,by simp⟩,hr⟩⟩
 | (false,.bool k)::r,_,_,key,⟨v,vs,F1,F2,rfl,rfl,h1,h2⟩,hl=>by
  obtain ⟨h1,rfl⟩:=h1
  obtain ⟨val,O,D,hb,hr⟩:=Zaf (l:=l) key h2 fun e=>hl (by simpa [ZbU] using e)
  exact ⟨val,O,D,by simpa [Ya] using hb,⟨⟨[],h1,by simp⟩,hr⟩⟩
 | (false,.str s)::r,_,_,key,⟨v,vs,F1,F2,rfl,rfl,h1,h2⟩,hl=>by
  obtain ⟨h1,rfl⟩:=h1
  obtain ⟨val,O,D,hb,hr⟩:=Zaf (l:=l) key h2 fun e=>hl (by simpa [ZbU] using e)
  exact ⟨val,O,D,by simpa [Ya] using hb,⟨⟨[],h1,by simp⟩,hr⟩⟩
 | (false,.ifc s)::r,_,_,key,⟨v,vs,F1,F2,rfl,rfl,h1,h2⟩,hl=>by
  obtain ⟨h1,rfl⟩:=h1
  obtain ⟨val,O,D,hb,hr⟩:=Zaf (l:=l) key h2 fun e=>hl (by simpa [ZbU] using e)
  exact ⟨val,O,D,by simpa [Ya] using hb,⟨⟨[],h1,by simp⟩,hr⟩⟩
 | (false,.any)::r,_,_,key,⟨v,vs,F1,F2,rfl,rfl,h1,h2⟩,hl=>by
  obtain ⟨h1,rfl⟩:=h1
  obtain ⟨val,O,D,hb,hr⟩:=Zaf (l:=l) key h2 fun e=>hl (by simpa [ZbU] using e)
  exact ⟨val,O,D,by simpa [Ya] using hb,⟨⟨[],h1,by simp⟩,hr⟩⟩
 | (false,.pt _)::r,_,_,key,⟨v,vs,F1,F2,rfl,rfl,h1,h2⟩,hl=>h1.elim
 | (false,.fn _ _)::r,_,_,key,⟨v,vs,F1,F2,rfl,rfl,h1,h2⟩,hl=>h1.elim
 | (false,.mp _ _ _)::r,_,_,key,⟨v,vs,F1,F2,rfl,rfl,h1,h2⟩,hl=>h1.elim
 | (false,.nl _ _)::r,_,_,key,⟨v,vs,F1,F2,rfl,rfl,h1,h2⟩,hl=>h1.elim
def PR (val:Nat→Value) (w:World) (n:Nat→Prop) (l:Bool) (lo hi:Nat) (x:Bool × List AV) (v:Value):Prop:=
 (x.1=true∧∃vs:List Value,v=.agg vs.toArray∧ZL (CR val w n l lo hi) x.2 vs)∨(x.1=false∧∃y,x.2=[y]∧CR val w n l lo hi y v)
theorem PR.mono [NW] {val val':Nat→Value} {n:Nat→Prop} {l:Bool} {lo hi lo' hi':Nat} {x:Bool × List AV} {v:Value} (h:PR val w n l lo hi x v) (hl:lo'≤lo) (hh:hi≤hi') (hv:∀k,lo≤k→k<hi→val' k=val k):PR val' w n l lo' hi' x v:=by
 rcases h with ⟨h1,vs,h2,h3⟩ | ⟨h1,y,h2,h3⟩
 ·exact .inl ⟨h1,vs,h2,h3.mono fun a b _ hab=>hab.mono hl hh hv⟩
 ·exact .inr ⟨h1,y,h2,h3.mono hl hh hv⟩
theorem ZoB [NW] {B:Nat} {n:Nat→Prop} {l:Bool}:∀{res:List RT} {vs:List Value} {F:List Nat} (key:Nat),OPs w B n res vs F→(ZcK res=true→l=true)→∃val O D,Zrw w B key (ZH key res).2.2 n (ZH key res).2.1 F val O D∧ZL (PR val w n l key (ZH key res).2.2) (ZH key res).1 vs
 | [],vs,F,key,h,_=>by
  obtain ⟨rfl,rfl⟩:=h
  exact ⟨fun _=>undef,fun _=>[],fun _=>[],⟨A4 _,fun k a b=>by simp [ZH] at b;omega,fun _ _ _=>rfl,by simp [ZH]⟩,trivial⟩
 | x::r,_,_,key,⟨v,vs,F1,F2,rfl,rfl,h1,h2⟩,hl=>by
  have hl1:ZbU x.2=true→l=true:=fun e=>hl (by simp [ZcK,e])
  have hl2:ZcK r=true→l=true:=fun e=>hl (by simp [ZcK,e])
  have hx:∃val O D,Zrw w B key (Ya key x.2).2.2 n (Ya key x.2).2.1 F1 val O D∧PR val w n l key (Ya key x.2).2.2 (x.1,(Ya key x.2).1) v:=by
   rcases h1 with ⟨hx,us,rfl,hc⟩ | ⟨hx,ct,he,hc⟩
   ·obtain ⟨val,O,D,hb,hr⟩:=Zaf key hc hl1
    exact ⟨val,O,D,hb,.inl ⟨hx,us,rfl,hr⟩⟩
   ·obtain ⟨val,O,D,hb,hr⟩:=Zaf (cts:=x.2) (vs:=[v]) (F:=F1) key (by rw [he];exact ⟨v,[],F1,[],rfl,by simp,hc,rfl,rfl⟩) hl1
    refine ⟨val,O,D,hb,.inr ⟨hx,?_⟩⟩
    generalize (Ya key x.2).1=l at hr
    cases l with
    | nil=>exact hr.elim
    | cons y l=>
     cases l with
     | nil=>exact ⟨y,rfl,hr.1⟩
     | cons _ _=>exact hr.2.elim
  obtain ⟨val,O,D,hb,hp⟩:=hx
  obtain ⟨val2,O2,D2,hb2,hr2⟩:=ZoB (Ya key x.2).2.2 h2 hl2
  have hle2:=hb2.le
  have hle:=hb.le
  refine ⟨_,_,_,hb.join hb2,⟨hp.mono (A4 _) hle2 fun k a b=>by simp [b],hr2.mono fun y u _ hy=>hy.mono hle (A4 _) fun k a b=>by simp [show ¬k<(Ya key x.2).2.2 by omega]⟩⟩
theorem Zr0 {n:Nat} {G:Nat→List Nat}:∀{lo:Nat},((AG lo n).flatMap G).Nodup→(∀k,lo≤k→k<lo+n→(G k).Nodup)∧∀k j,lo≤k→k<lo+n→lo≤j→j<lo+n→k≠j→∀b∈G k,b∉G j:=by
 induction n with
 | zero=>intro lo _;exact ⟨fun k a b=>by omega,fun k j a b=>by omega⟩
 | succ n ih=>
  intro lo h
  rw [AQ,AP,AM] at h
  obtain ⟨h1,h2,h3⟩:=h
  obtain ⟨i1,i2⟩:=ih h2
  have mem:∀k,lo+1≤k→k<lo+1+n→∀b∈G k,b∈(AG (lo+1) n).flatMap G:=fun k a b x mx=>AR.2 ⟨k,AL.2 ⟨a,b⟩,mx⟩
  refine ⟨fun k a b=>?_,fun k j a b a' b' hkj x mx mj=>?_⟩
  ·by_cases e:k=lo
   ·subst e;exact h1
   ·exact i1 k (by omega) (by omega)
  ·by_cases e:k=lo
   ·subst e
    exact h3 x mx x (mem j (by omega) (by omega) x mj) rfl
   ·by_cases e':j=lo
    ·subst e'
     exact h3 x mj x (mem k (by omega) (by omega) x mx) rfl
    ·exact i2 k j (by omega) (by omega) (by omega) (by omega) hkj x mx mj
theorem Zht [NW] {ob:Nat→Ob} (hI:HI W g ob w) (hobU:∀k,obU U (ob k)) (hgone:∀k,¬U k→ob k=.gone) (hkey:∀k,key≤k→k<key+16→¬U k) {res:List RT} {v:Value} {n:Nat→Prop} (hr:ZjD w' w.heap.size n res v) (hn:(ZH key res).2.2≤key+16)
  (H:Nat→Prop) (hHU:∀k,H k→U k) (obH:Nat→Ob) (hlen:ZcK res=true→∀b,g.own b→n b)
  (hbel:Bel W w') (hsz:w.heap.size≤w'.heap.size) (hw:∀b,b<w.heap.size→(∀k,H k→b∉g.O k)→w'.heap[b]?=w.heap[b]?)
  (hobH:∀k,H k→obU (Uk U key) (obH k)) (hH:∀g':Gh,(∀b,g'.own b→g.own b∨((∃k,b∈g'.O k)∧w.heap.size≤b∧n b))→(∀k,H k→g'.val k=g.val k∧g'.O k=g.O k∧g'.D k=g.D k)→∀k,H k→ObR g' w' k (obH k)∧∀b∈g.O k++g.D k,Xx w' (obH k) b):
  ∃g',HI W g' (fun k=>Zp (fun j=>open Classical in if H j then obH j else ob j) (ZH key res).2.1 k) w'∧SVR g' w' (ZcL (ZH key res).1) v∧(∀x u,svU U x→SVR g w x u→SVR g' w' x u)∧svU (Uk U key) (ZcL (ZH key res).1)∧
   (∀k,obU (Uk U key) (Zp (fun j=>open Classical in if H j then obH j else ob j) (ZH key res).2.1 k))∧∀k,¬Uk U key k→Zp (fun j=>open Classical in if H j then obH j else ob j) (ZH key res).2.1 k=.gone:=by
 classical
 obtain ⟨vs,F,h1,hF,hv⟩:=hr
 obtain ⟨val,O,D,hB,hA⟩:=ZoB (l:=ZcK res) key h1 id
 generalize (ZH key res).2.2=hi at *
 generalize (ZH key res).2.1=up at *
 generalize (ZH key res).1=xs at *
 have hle:=hB.le
 let T:Nat→Prop:=fun k=>key≤k∧k<hi
 have hTU:∀k,T k→¬U k:=fun k hk=>hkey k hk.1 (by have:=hk.2;omega)
 let g':Gh:=⟨fun k=>if key≤k∧k<hi then val k else g.val k,fun k=>if key≤k∧k<hi then O k else g.O k,fun k=>if key≤k∧k<hi then D k else g.D k,g.Z⟩
 have gT:∀k,T k→g'.val k=val k∧g'.O k=O k∧g'.D k=D k:=fun k hk=>⟨if_pos hk,if_pos hk,if_pos hk⟩
 have gN:∀k,¬T k→g'.val k=g.val k∧g'.O k=g.O k∧g'.D k=g.D k:=fun k hk=>⟨if_neg hk,if_neg hk,if_neg hk⟩
 have hTH:∀k,H k→¬T k:=fun k hk ht=>hTU k ht (hHU k hk)
 have hmemF:∀k,T k→∀b∈O k++D k,b∈F:=fun k hk b mb=>by
  rw [hB.foot]
  exact AR.2 ⟨k,AL.2 ⟨hk.1,by have:=hk.2;omega⟩,mb⟩
 have hge:∀k,T k→∀b∈O k++D k,w.heap.size≤b:=fun k hk b mb=>hF.ge b (hmemF k hk b mb)
 have hnd:=Zr0 (hB.foot ▸ hF.nodup)
 have hval:∀k,U k→g'.val k=g.val k:=fun k hk=>(gN k fun h=>hTU k h hk).1
 have hown2:∀b,g'.own b→g.own b∨((∃k,b∈g'.O k)∧w.heap.size≤b∧n b):=fun b hb=>by
  rcases hb with ⟨k,mk⟩ | hz
  ·by_cases hk:T k
   ·have mk':=mk
    rw [(gT k hk).2.1] at mk'
    obtain ⟨e,m,ys,cs,_,_,_,_,_,p6⟩:=hB.at_ k hk.1 hk.2
    exact .inr ⟨⟨k,mk⟩,hge k hk b (by simp [mk']),p6 b mk'⟩
   ·rw [(gN k hk).2.1] at mk;exact .inl (.inl ⟨k,mk⟩)
  ·exact .inl (.inr hz)
 have hown:Qj g g' w.heap.size:=.of (fun b hb=>(hown2 b hb).imp id fun h=>h.2.1) fun j b mb=>by
  by_cases hj:T j
  ·rw [(gT j hj).2.2] at mb
   exact .inr (hge j hj b (by simp [mb]))
  ·rw [(gN j hj).2.2] at mb;exact .inl (.inr ⟨j,mb⟩)
 have hw':∀b,b<w.heap.size→¬g.own b→w'.heap[b]?=w.heap[b]?:=fun b hb hnb=>hw b hb fun k _ mk=>hnb (.inl ⟨k,mk⟩)
 have hmove:∀x u,svU U x→SVR g w x u→SVR g' w' x u:=fun x u hx hu=>hu.move hx hval hw' hown hsz
 have hout:∀k,¬T k→Zp (fun j=>if H j then obH j else ob j) up k=if H k then obH k else ob k:=fun k hk=>hB.out k hk _
 have hHI:HI W g' (Zp (fun j=>if H j then obH j else ob j) up) w':=by
  refine hI.step (U:=U) (fun k=>T k∨H k) hbel rfl (fun b hb' hq=>hw b hb' fun k hk=>hq k (.inr hk)) (fun k hk=>?_) hobU hval hown (fun k hk=>?_)
  ·have k1:¬T k:=fun h=>hk (.inl h)
   have k2:¬H k:=fun h=>hk (.inr h)
   exact ⟨by rw [hout k k1,if_neg k2],gN k k1⟩
  ·by_cases hTk:T k
   ·obtain ⟨e1,e2,e3⟩:=gT k hTk
    obtain ⟨e,m,ys,cs,p1,p2,p3,p4,p5,_⟩:=hB.at_ k hTk.1 hTk.2
    rw [p1,e2,e3]
    refine ⟨⟨p2,cs,D k,?_,p4,.inl ⟨rfl,by rw [e1,e2];exact p5,e3⟩⟩,hnd.1 k hTk.1 (by have:=hTk.2;omega),fun b mb=>?_,fun j hj b mb mj=>?_⟩
    ·rw [e1];exact ZrV p3 (Nat.zero_le _)
    ·exact ⟨.inl (AS hI.below.size (hge k hTk b mb)),hF.plain b (hmemF k hTk b mb)⟩
    ·by_cases hTj:T j
     ·rw [(gT j hTj).2.1,(gT j hTj).2.2] at mj
      exact hnd.2 k j hTk.1 (by have:=hTk.2;omega) hTj.1 (by have:=hTj.2;omega) hj b mb mj
     ·rw [(gN j hTj).2.1,(gN j hTj).2.2] at mj
      have:=hI.lt j b mj
      have:=hge k hTk b mb
      omega
   ·have hHk:H k:=hk.resolve_left hTk
    obtain ⟨e1,e2,e3⟩:=gN k hTk
    obtain ⟨q1,q2⟩:=hH g' hown2 (fun j hj=>gN j (hTH j hj)) k hHk
    rw [hout k hTk,if_pos hHk,e2,e3]
    refine ⟨q1,hI.nodup k,fun b mb=>⟨(hI.plain k b mb).1,q2 b mb⟩,fun j hj b mb mj=>?_⟩
    by_cases hTj:T j
    ·rw [(gT j hTj).2.1,(gT j hTj).2.2] at mj
     have:=hI.lt k b mb
     have:=hge j hTj b mj
     omega
    ·rw [(gN j hTj).2.1,(gN j hTj).2.2] at mj
     exact hI.apart k j hj b mb mj
 have hAV:∀x u,CR val w' n (ZcK res) key hi x u→AVR g' w' x u∧avU (Uk U key) x:=fun x u h=>by
  cases x with
  | row k=>
   obtain ⟨c1,c2,c3,c4⟩:=h
   exact ⟨⟨by rw [(gT k ⟨c1,c2⟩).1];exact c3,c4⟩,.inr ⟨c1,by omega⟩⟩
  | c x=>
   obtain ⟨L,h1,h2⟩:=h
   refine ⟨⟨L,h1,fun b mb o=>?_⟩,trivial⟩
   rcases hown2 b o with o | o
   ·exact (h2 b mb).2 (hlen (h2 b mb).1 b o)
   ·exact (h2 b mb).2 o.2.2
  | n _=>exact h.elim
  | nil _ _=>exact h.elim
  | dead=>exact h.elim
 have hAVs:∀(ys:List AV) (us:List Value),ZL (CR val w' n (ZcK res) key hi) ys us→ZL (AVR g' w') ys us∧Qn (Uk U key) ys:=fun ys us h=>by
  induction ys generalizing us with
  | nil=>cases us with
   | nil=>exact ⟨trivial,fun _ m=>by simp at m⟩
   | cons _ _=>exact h.elim
  | cons y ys ih=>cases us with
   | nil=>exact h.elim
   | cons u us=>
    obtain ⟨i1,i2⟩:=ih us h.2
    refine ⟨⟨(hAV y u h.1).1,i1⟩,fun z mz=>?_⟩
    rcases A6.1 mz with rfl | mz
    ·exact (hAV z u h.1).2
    ·exact i2 z mz
 have hPV:∀(y:Bool × List AV) (u:Value),PR val w' n (ZcK res) key hi y u→PVR g' w' y.1 y.2 u∧Qn (Uk U key) y.2:=fun y u h=>by
  rcases h with ⟨h1,us,rfl,h3⟩ | ⟨h1,z,h2,h3⟩
  ·obtain ⟨i1,i2⟩:=hAVs _ _ h3
   exact ⟨by rw [h1];exact ⟨us,rfl,i1⟩,i2⟩
  ·obtain ⟨i1,i2⟩:=hAV z u h3
   exact ⟨by rw [h1];exact ⟨z,h2,i1⟩,by rw [h2];intro q mq;simp at mq;subst mq;exact i2⟩
 have hres:SVR g' w' (ZcL xs) v∧svU (Uk U key) (ZcL xs):=by
  have hlen:=hA.len
  by_cases hl:xs.length=1
  ·obtain ⟨x,rfl⟩:=List.length_eq_one_iff.1 hl
   cases vs with
   | nil=>simp at hlen
   | cons u us=>
    cases us with
    | cons _ _=>simp at hlen
    | nil=>
     have hvu:v=u:=by rw [hv];rfl
     rw [hvu]
     exact hPV x u hA.1
  ·have hvs:¬vs.toArray.size=1:=by simp;omega
   rw [dif_neg hvs] at hv
   have e:ZcL xs=.tup xs:=by
    cases xs with
    | nil=>rfl
    | cons x xs=>cases xs with
     | nil=>simp at hl
     | cons _ _=>rfl
   rw [e]
   refine ⟨⟨vs,hv,hA.mono fun y u _ h=>(hPV y u h).1⟩,fun y my=>?_⟩
   obtain ⟨i,hi'⟩:=List.mem_iff_getElem?.1 my
   obtain ⟨u,_,hu⟩:=hA.at hi'
   exact (hPV y u hu).2
 refine ⟨g',hHI,hres.1,hmove,hres.2,fun k=>?_,fun k hk=>?_⟩
 ·by_cases hTk:T k
  ·obtain ⟨e,m,ys,cs,p1,_⟩:=hB.at_ k hTk.1 hTk.2
   rw [p1];trivial
  ·rw [hout k hTk]
   split
   ·rename_i hHk;exact hobH k hHk
   ·exact (hobU k).mono fun _=>.inl
 ·have hTk:¬T k:=fun hTk=>hk (.inr ⟨hTk.1,by have:=hTk.2;omega⟩)
  have hHk:¬H k:=fun h=>hk (.inl (hHU k h))
  rw [hout k hTk,if_neg hHk]
  exact hgone k fun h=>hk (.inl h)
theorem ZkS [NW] (st:St):∀(ks:List Nat) {g:Gh} {ob:Nat→Ob},HI W g ob w→(∀k,ob k=st.ob k∨ob k=Yd (st.ob k))→∃g1:Gh,HI W g1 (Zp ob (ZS st ks)) w∧g1.val=g.val∧Xo g1 g∧∀k,Zp ob (ZS st ks) k=(if k∈ks then Yd (st.ob k) else ob k)
 | [],g,ob,hI,_=>⟨g,hI,rfl,Xo.refl _,fun k=>by simp [ZS,Zp]⟩
 | k::r,g,ob,hI,hob=>by
  have hfk:Yd (ob k)=Yd (st.ob k):=by
   rcases hob k with h | h
   ·rw [h]
   ·rw [h];cases st.ob k<;>rfl
  obtain ⟨g1,h1,h2,h3,_⟩:=ZiI hI k
  rw [hfk] at h1
  have hob':∀j,upd ob k (Yd (st.ob k)) j=st.ob j∨upd ob k (Yd (st.ob k)) j=Yd (st.ob j):=fun j=>by
   by_cases hj:j=k
   ·subst hj;right;rw [ZD]
   ·rw [ZN _ _ hj];exact hob j
  obtain ⟨g2,i1,i2,i3,i4⟩:=ZkS st r h1 hob'
  refine ⟨g2,i1,i2.trans h2,i3.trans h3,fun j=>?_⟩
  show Zp (upd ob k (Yd (st.ob k))) (ZS st r) j=_
  rw [i4 j]
  by_cases hj:j=k
  ·subst hj;simp [upd]
  ·simp [hj,upd]
theorem Zn1 {st st':St} (h:∀k,st'.ob k=st.ob k∨st'.ob k=Yd (st.ob k)) (x:SV):ZcN st' x=ZcN st x:=by
 have h1:∀y:AV,ZbE st' y=ZbE st y:=fun y=>by
  cases y with
  | row k=>
   simp only[ZbE]
   rcases h k with e | e
   ·rw [e]
   ·rw [e];cases st.ob k<;>rfl
  | _=>rfl
 have h2:∀ys:List AV,YG st' ys=YG st ys:=fun ys=>by
  induction ys with
  | nil=>rfl
  | cons y ys ih=>simp only[YG,h1,ih]
 cases x<;>simp [ZcN,h2]
theorem Zfl [NW] {st st':St} (h:∀k,st'.ob k=st.ob k∨st'.ob k=Yd (st.ob k)):∀xs:List SV,Z1 st' xs=Z1 st xs
 | []=>rfl
 | x::r=>by simp only[Z1];rw [Zn1 h x,Zfl h r]
theorem ZmG {k:Nat}:∀{cs:List AV},AV.row k∈cs→k∈Zip cs
 | [],h=>by simp at h
 | x::r,h=>by
  rcases A6.1 h with rfl | h
  ·simp [Zip]
  ·have:=ZmG h
   cases x<;>simp [Zip,this]
theorem ZmB [NW] {k:Nat} {a:Bool} {cs:List AV}:∀{vs:List SV},SV.p a cs∈vs→AV.row k∈cs→k∈Z7 vs
 | [],h,_=>by simp at h
 | x::r,h,hk=>by
  rcases A6.1 h with rfl | h
  ·simp [Z7,ZmG hk]
  ·have:=ZmB h hk
   cases x<;>simp [Z7,this]
end
end
section
open Go.RowKit
def ZaW (S:Ctx) (f:FuncId) (n key:Nat) (st:St) (vs:List SV) (v:SV) (u:List (Nat × Ob)):Prop:=
 match n with
 | 0=>∃l res,Z1 st vs=some l∧S.r f l res∧(!ZcK res||vs.all Zha)=true∧(ZH key res).2.2≤key+16∧v=ZcL (ZH key res).1∧u=(ZH key res).2.1
 | 1=>∃v0 r k h l res h',vs=v0::r∧ZfF st v0=some (k,h)∧Z1 st r=some l∧S.h f h l res h'∧(Z7 r).all (fun j=>j != k)=true∧(ZH key res).2.2≤key+16∧v=ZcL (ZH key res).1∧u=ZS st (Z7 r)++((k,Xp h')::(ZH key res).2.1)
 | 3=>∃l nb,Z1 st vs=some l∧S.b f l nb∧v=ZCB key nb∧u=ZS st (Z7 vs)++[(key,Zu7 nb)]
 | 4=>∃l res,Z1 st (vs.map nlS)=some l∧S.r f l res∧(!ZcK res||(vs.map nlS).all Zha)=true∧(ZH key res).2.2≤key+16∧v=ZcL (ZH key res).1∧u=(ZH key res).2.1
 | _=>∃l res,Z1 st vs=some l∧S.r f l res∧(ZH key res).2.2≤key+16∧v=ZcL (ZH key res).1∧u=ZS st (Z7 vs)++(ZH key res).2.1
theorem ZkQ {S:Ctx} {f:FuncId} {n key:Nat} {d:Option Nat} {K:St→Prop} {st:St} {vs:List SV}:spK S f n key d K st vs↔∃v u,ZaW S f n key st vs v u∧K ((st.put d v).app u):=by
 rcases n with _ | _ | _ | _ | _ | n
 ·simp only[spK,ZaW]
  constructor
  ·intro h
   unfold YH at h
   split at h
   ·rename_i l hl
    obtain ⟨res,h1,h2,h3,h4⟩:=h
    exact ⟨_,_,⟨l,res,hl,h1,h2,h3,rfl,rfl⟩,h4⟩
   ·exact h.elim
  ·rintro ⟨v,u,⟨l,res,hl,h1,h2,h3,rfl,rfl⟩,h4⟩
   rw [hl]
   exact ⟨res,h1,h2,h3,h4⟩
 ·simp only[spK,ZaW]
  constructor
  ·intro h
   cases vs with
   | nil=>exact h.elim
   | cons v0 r=>
    simp only[Zs8] at h
    unfold YH at h
    split at h
    ·rename_i kh hk
     split at h
     ·rename_i l hl
      obtain ⟨res,h',h1,h2,h3,h4⟩:=h
      exact ⟨_,_,⟨v0,r,kh.1,kh.2,l,res,h',rfl,hk,hl,h1,h2,h3,rfl,rfl⟩,h4⟩
     ·exact h.elim
    ·exact h.elim
  ·rintro ⟨v,u,⟨v0,r,k,hh,l,res,h',rfl,hk,hl,h1,h2,h3,rfl,rfl⟩,h4⟩
   simp only[Zs8,hk,hl,YH]
   exact ⟨res,h',h1,h2,h3,h4⟩
 ·simp only[spK,ZaW]
  constructor
  ·intro h
   unfold YH at h
   split at h
   ·rename_i l hl
    obtain ⟨res,h1,h3,h4⟩:=h
    exact ⟨_,_,⟨l,res,hl,h1,h3,rfl,rfl⟩,h4⟩
   ·exact h.elim
  ·rintro ⟨v,u,⟨l,res,hl,h1,h3,rfl,rfl⟩,h4⟩
   rw [hl]
   exact ⟨res,h1,h3,h4⟩
 ·simp only[spK,ZaW]
  constructor
  ·intro h
   unfold YH at h
   split at h
   ·rename_i l hl
    obtain ⟨nb,h1,h4⟩:=h
    exact ⟨_,_,⟨l,nb,hl,h1,rfl,rfl⟩,h4⟩
   ·exact h.elim
  ·rintro ⟨v,u,⟨l,nb,hl,h1,rfl,rfl⟩,h4⟩
   rw [hl]
   exact ⟨nb,h1,h4⟩
 ·simp only[spK,ZaW]
  constructor
  ·intro h
   unfold YH at h
   split at h
   ·rename_i l hl
    obtain ⟨res,h1,h2,h3,h4⟩:=h
    exact ⟨_,_,⟨l,res,hl,h1,h2,h3,rfl,rfl⟩,h4⟩
   ·exact h.elim
  ·rintro ⟨v,u,⟨l,res,hl,h1,h2,h3,rfl,rfl⟩,h4⟩
   rw [hl]
   exact ⟨res,h1,h2,h3,h4⟩
 ·simp only[spK,ZaW]
  constructor
  ·intro h
   unfold YH at h
   split at h
   ·rename_i l hl
    obtain ⟨res,h1,h3,h4⟩:=h
    exact ⟨_,_,⟨l,res,hl,h1,h3,rfl,rfl⟩,h4⟩
   ·exact h.elim
  ·rintro ⟨v,u,⟨l,res,hl,h1,h3,rfl,rfl⟩,h4⟩
   rw [hl]
   exact ⟨res,h1,h3,h4⟩
section
variable {P:Program} {J:World→Prop} {JF:Nat→Prop} {W:Zaa} {U:Nat→Prop} {key:Nat} {st:St} {g:Gh} {w w':World} {a:Act} {tt:Nat→Option TI} {hd:FuncId→Nat}
def ZxW [NW] (W:Zaa) (U:Nat→Prop) (key:Nat) (st:St) (g:Gh) (w:World) (v:SV) (u:List (Nat × Ob)) (cv:Value) (w':World):Prop:=
 ∃g',HI W g' (Zp st.ob u) w'∧SVR g' w' v cv∧(∀x c,svU U x→SVR g w x c→SVR g' w' x c)∧svU (Uk U key) v∧(∀k,obU (Uk U key) (Zp st.ob u k))∧∀k,¬Uk U key k→Zp st.ob u k=.gone
theorem HI.ownlt [NW] {ob:Nat→Ob} (hI:HI W g ob w) {b:Nat} (h:g.own b):b<w.heap.size:=by
 rcases h with ⟨k,mk⟩ | hz
 ·exact hI.lt k b (by simp [mk])
 ·rw [hI.gz] at hz
  exact Aa (hI.zx b hz).1 hI.below.size
theorem Zwe {ks:List Nat} {ob:Nat→Ob} (hobU:∀k,obU U (st.ob k)) (h:∀k,ob k=(if k∈ks then Yd (st.ob k) else st.ob k)):∀k,obU U (ob k):=fun k=>by
 rw [h k]
 have:=hobU k
 split
 ·cases hk:st.ob k<;>simp only[Yd]<;>first | trivial | (rw [hk] at this;exact this)
 ·exact this
theorem ZrZ [NW] {vs:List SV} {l:List (Bool × List CT)} {st1:St} (h:∀k,st1.ob k=(if k∈Z7 vs then Yd (st.ob k) else st.ob k)) (hl:Z1 st vs=some l):∀x∈vs,ZtR st1.ob x:=by
 have key:∀(cs:List AV) (l:List CT),YG st cs=some l→(∀k,AV.row k∈cs→k∈Z7 vs)→∀y∈cs,ZvW st1.ob y:=by
  intro cs
  induction cs with
  | nil=>intro l _ _ y my;simp at my
  | cons c cs ih=>
   intro l hl hk y my
   simp only[YG] at hl
   obtain ⟨c1,h1,hl⟩:=A7.1 hl
   obtain ⟨c2,h2,_⟩:=A1.1 hl
   rcases A6.1 my with rfl | my
   ·cases y with
    | row k=>
     simp only[ZbE] at h1
     split at h1
     ·rename_i e m xs d hob
      exact ⟨e,m,xs,by rw [h k,if_pos (hk k (by simp)),hob];rfl⟩
     ·simp at h1
    | _=>trivial
   ·exact ih c2 h2 (fun k mk=>hk k (by simp [mk])) y my
 have all:∀(xs:List SV) (l:List (Bool × List CT)),Z1 st xs=some l→(∀x∈xs,x∈vs)→∀x∈xs,ZtR st1.ob x:=by
  intro xs
  induction xs with
  | nil=>intro l _ _ x mx;simp at mx
  | cons x xs ih=>
   intro l hl hm y my
   simp only[Z1] at hl
   obtain ⟨c1,h1,hl⟩:=A7.1 hl
   obtain ⟨c2,h2,_⟩:=A1.1 hl
   rcases A6.1 my with rfl | my
   ·cases y with
    | p ag cs=>
     simp only[ZcN] at h1
     obtain ⟨l1,h3,_⟩:=A1.1 h1
     exact key cs l1 h3 (fun k mk=>ZmB (hm (.p ag cs) (by simp)) mk)
    | _=>trivial
   ·exact ih c2 h2 (fun z mz=>hm z (by simp [mz])) y my
 exact all vs l hl (fun _ h=>h)
theorem ZDR {k:Nat} {inst:∀j,Decidable (j=k)} (ob:Nat→Ob) (o:Ob):(fun j=>@ite _ (j=k) (inst j) o (ob j))=upd ob k o:=by
 funext j
 simp only[upd]
 split<;>rfl
theorem ZiB [NW] (htt:MOk P J JF W tt) {f:FuncId} {vs:List SV} {cvs:List Value} {v:SV} {u:List (Nat × Ob)} (h:ZaW (SC P J JF hd) f 0 key st vs v u) (hH:HI W g st.ob w) (hU:StU U st) (hkey:∀k,key≤k→k<key+16→¬U k) (hvs:ZL (SVR g w) vs cvs) (hvU:∀x∈vs,svU U x):
  ZdV P f∧Calls P f cvs.toArray w fun e w'=>∃cv,e=.returned cv∧ZxW W U key st g w v u cv w':=by
 obtain ⟨l,res,hl,hs,hlend,hn,rfl,rfl⟩:=h
 obtain ⟨hc,hC⟩:=hs
 refine ⟨hc,?_⟩
 by_cases hle:ZcK res=true
 ·have hno:∀x∈vs,ZtR st.ob x:=Zxf (by simpa [hle] using hlend)
  refine (hC w g.own cvs (htt.at hH.below) (fun b hb=>hH.ownlt hb) (Zc2 hH hl hvs (.inr ⟨hno,fun _ h=>h⟩))).mono ?_
  rintro e w' ⟨cv,n,rfl,hr,hz,hb⟩
  obtain ⟨g',t1,t2,t3,t4,t5,t6⟩:=Zht hH hU.ob hU.gone hkey hr hn (fun _=>False) (fun _ h=>h.elim) (fun _=>.gone) (fun _ b hb=>hz b hb) (hH.below.trans hb) hb.size (fun b hb' _=>hb.block b hb') (fun _ h=>h.elim) (fun _ _ _ _ h=>h.elim)
  simp only[if_false] at t1 t5 t6
  exact ⟨cv,rfl,g',t1,t2,t3,t4,t5,t6⟩
 ·refine (hC w (fun _=>False) cvs (htt.at hH.below) (fun b hb=>hb.elim) (Zc2 hH hl hvs (.inl fun _ h=>h))).mono ?_
  rintro e w' ⟨cv,n,rfl,hr,hz,hb⟩
  obtain ⟨g',t1,t2,t3,t4,t5,t6⟩:=Zht hH hU.ob hU.gone hkey hr hn (fun _=>False) (fun _ h=>h.elim) (fun _=>.gone) (fun h=>absurd h hle) (hH.below.trans hb) hb.size (fun b hb' _=>hb.block b hb') (fun _ h=>h.elim) (fun _ _ _ _ h=>h.elim)
  simp only[if_false] at t1 t5 t6
  exact ⟨cv,rfl,g',t1,t2,t3,t4,t5,t6⟩
theorem Zu0 [NW] {x:AV} {v:Value} (h:AVR g w x v):AVR g w (nlA x) v:=by
 cases x with
 | nil e m=>exact ⟨[],⟨h,rfl⟩,by simp⟩
 | _=>exact h
theorem Zs4 [NW]:∀{xs:List AV} {vs:List Value},ZL (AVR g w) xs vs→ZL (AVR g w) (xs.map nlA) vs
 | [],[],_=>trivial
 | [],_::_,h=>h.elim
 | _::_,[],h=>h.elim
 | _::_,_::_,h=>⟨Zu0 h.1,Zs4 h.2⟩
theorem ZBt [NW] {x:SV} {v:Value} (h:SVR g w x v):SVR g w (nlS x) v:=by
 cases x with
 | p a cs=>
  cases a with
  | true=>obtain ⟨vs,h1,h2⟩:=h;exact ⟨vs,h1,Zs4 h2⟩
  | false=>obtain ⟨y,rfl,h2⟩:=h;exact ⟨_,rfl,Zu0 h2⟩
 | _=>exact h
theorem ZsP [NW]:∀{xs:List SV} {vs:List Value},ZL (SVR g w) xs vs→ZL (SVR g w) (xs.map nlS) vs
 | [],[],_=>trivial
 | [],_::_,h=>h.elim
 | _::_,[],h=>h.elim
 | _::_,_::_,h=>⟨ZBt h.1,ZsP h.2⟩
theorem ZuN {x:SV} (h:svU U x):svU U (nlS x):=by
 cases x with
 | p a cs=>
  intro y my
  obtain ⟨z,mz,rfl⟩:=A2.1 my
  have hz:=h z mz
  cases z<;>first | exact hz | trivial
 | _=>exact h
theorem Zg5 [NW] (htt:MOk P J JF W tt) {f:FuncId} {n:Nat} {vs:List SV} {cvs:List Value} {v:SV} {u:List (Nat × Ob)} (h:ZaW (SC P J JF hd) f n key st vs v u) (hH:HI W g st.ob w) (hU:StU U st) (hkey:∀k,key≤k→k<key+16→¬U k) (hvs:ZL (SVR g w) vs cvs) (hvU:∀x∈vs,svU U x):
  ZdV P f∧Calls P f cvs.toArray w fun e w'=>∃cv,e=.returned cv∧ZxW W U key st g w v u cv w':=by
 unfold ZaW at h
 split at h
 ·exact ZiB htt (f:=f) (vs:=vs) h hH hU hkey hvs hvU
 ·obtain ⟨v0,r,k,hh,l,res,h',rfl,hk,hl,hs,hne,hn,rfl,rfl⟩:=h
  obtain ⟨hc,hC⟩:=hs
  refine ⟨hc,?_⟩
  cases cvs with
  | nil=>exact hvs.elim
  | cons c0 cr=>
  obtain ⟨hv0,hvr⟩:=hvs
  obtain ⟨g1,i1,i2,i3,i4⟩:=ZkS st (Z7 r) hH (fun k=>.inl rfl)
  let st1:St:=⟨st.sl,Zp st.ob (ZS st (Z7 r)),st.n⟩
  have hob1:∀k,st1.ob k=(if k∈Z7 r then Yd (st.ob k) else st.ob k):=i4
  have hfr:∀k,st1.ob k=st.ob k∨st1.ob k=Yd (st.ob k):=fun k=>by
   rw [hob1 k];split
   ·exact .inr rfl
   ·exact .inl rfl
  have hl1:Z1 st1 r=some l:=by rw [Zfl hfr];exact hl
  have hok1:=ZrZ (st1:=st1) hob1 hl
  have hkr:k∉Z7 r:=fun hm=>by
   have:=AB.1 hne k hm
   simp at this
  have hk1:st1.ob k=st.ob k:=by rw [hob1 k,if_neg hkr]
  have hUk:st.ob k≠.gone→U k:=fun hg=>Classical.byContradiction fun hn=>hg (hU.gone k hn)
  have hobU1:∀j,obU U (st1.ob j):=Zwe hU.ob hob1
  have hgone1:∀j,¬U j→st1.ob j=.gone:=fun j hj=>by
   have e:=hU.gone j hj
   rcases hfr j with h | h<;>rw [h,e]<;>rfl
  have hv0':SVR g1 w v0 c0:=hv0.less i2 i3
  have hvr':ZL (SVR g1 w) r cr:=hvr.mono fun x c _ hx=>hx.less i2 i3
  have hhand:∃q:Option Nat,ZnA w (inQ (fun b=>g1.own b∧¬q=some b) q) q hh c0∧g1.O k=q.toList∧g1.D k=[]∧c0=g1.val k∧st.ob k≠.gone:=by
   unfold ZfF at hk
   split at hk
   ·rename_i k'
    split at hk
    ·rename_i t cs hob
     split at hk
     ·rename_i hnr
      obtain ⟨l',hl',e⟩:=A1.1 hk
      simp only[A3] at e
      obtain ⟨rfl,rfl⟩:=e
      have ho:=i1.obs k'
      rw [show Zp st.ob (ZS st (Z7 r)) k'=.box t cs from hk1.trans hob] at ho
      obtain ⟨b,vs,h1,h2,h3,h4,h5⟩:=ho
      obtain ⟨b',h6,h7⟩:=hv0'
      have hb:b'=b:=by rw [h6] at h1;simpa using h1
      subst hb
      have hl1':YG st1 cs=some l':=by
       have:=Zn1 hfr (.p true cs)
       simp only[ZcN,hl'] at this
       obtain ⟨x,hx,hx2⟩:=A1.1 this
       simp only[A3,true_and] at hx2
       rw [hx,hx2]
      obtain ⟨L,hL,hL2⟩:=ZeF (st:=st1) i1 hl1' h5
      refine ⟨some b',⟨b',vs,L,rfl,h7,h4,hL,fun x mx hx=>?_⟩,by simp [h2],h3,by rw [h7,h6],by rw [hob];simp⟩
      refine hL2 (fun y my=>?_) x mx ?_
      ·have:=AB.1 hnr y my
       cases y<;>simp [Zaw] at this<;>trivial
      ·rcases hx with hx | hx
       ·exact hx.1
       ·simp only[A0] at hx
        subst hx
        exact .inl ⟨k',by simp [h2]⟩
     ·simp at hk
    ·simp at hk
   ·rename_i k'
    split at hk
    ·rename_i e m xs d hob
     split at hk
     ·rename_i hd2
      simp only[A0,A3] at hk
      obtain ⟨rfl,rfl⟩:=hk
      have ho:=i1.obs k'
      rw [show Zp st.ob (ZS st (Z7 r)) k'=.row e m xs d from hk1.trans hob] at ho
      obtain ⟨hm,cs,L,h1,h2,h3⟩:=ho
      obtain rfl:=Zf1 h2 hd2.2
      obtain ⟨x,hx1,hx2⟩:=hv0'
      simp only[Ab,and_true] at hx1
      subst hx1
      rcases h3 with ⟨_,h3,h4⟩ | ⟨h3,_⟩ | ⟨h3,_⟩
      ·exact ⟨(g1.val k').ownBlock,⟨hd2.2,hm,by rw [hx2.1],cs,by rw [hx2.1];exact h1,h2⟩,h3,h4,hx2.1,by rw [hob];simp⟩
      ·omega
      ·omega
     ·simp at hk
    ·simp at hk
   ·simp at hk
  obtain ⟨q,hq1,hq2,hq3,hq4,hq5⟩:=hhand
  have hkU:=hUk hq5
  have hqo:∀b,q=some b→g1.own b:=fun b hb=>.inl ⟨k,by simp [hq2,hb]⟩
  have hin:∀b,g1.own b→inQ (fun b=>g1.own b∧¬q=some b) q b:=fun b hb=>by
   by_cases hqb:q=some b
   ·exact .inr hqb
   ·exact .inl ⟨hb,hqb⟩
  have hargs:ZL (ZkB w (inQ (fun b=>g1.own b∧¬q=some b) q)) l cr:=Zc2 (st:=st1) i1 hl1 hvr' (.inr ⟨hok1,fun b hb=>by
   rcases hb with hb | hb
   ·exact hb.1
   ·exact hqo b hb⟩)
  have hqf:∀b,q=some b→JF b:=fun b hb=>by
   rcases (i1.plain k b (by simp [hq2,hb])).1 with h | h
   ·exact htt.jf b h
   ·exact htt.xf b h
  refine (hC w _ q c0 cr (htt.at hH.below) hqf (fun b hb=>⟨i1.ownlt hb.1,hb.2⟩) hq1 hargs).mono ?_
  rintro e w' ⟨cv,n,rfl,hr,hz,hb',hbq⟩
  have hbel:Bel W w':=⟨hbq.os.trans hH.below.os,hbq.tape.trans hH.below.tape,hbq.output.trans hH.below.output,AS hH.below.size hbq.size,fun i hi hx=>by
   rw [hbq.block i (Aa hi hH.below.size) fun hqi=>?_]
   ·exact hH.below.block i hi hx
   ·rcases (i1.plain k i (by simp [hq2,hqi])).1 with h | h
    ·omega
    ·exact hx h⟩
  obtain ⟨g',t1,t2,t3,t4,t5,t6⟩:=Zht i1 hobU1 hgone1 hkey hr hn (fun j=>j=k) (fun j hj=>by rw [hj];exact hkU) (fun _=>Xp h') (fun _ b hb=>hz b (hin b hb)) hbel hbq.size
   (fun b hb hk'=>hbq.block b hb fun hqb=>hk' k rfl (by simp [hq2,hqb]))
   (fun j _=>by
    cases h' with
    | row e m xs=>trivial
    | box t cs=>intro y my;simp only[A2] at my;obtain ⟨x,_,rfl⟩:=my;trivial)
   (fun g' ho hg' j hj=>by
    subst hj
    obtain ⟨e1,e2,e3⟩:=hg' j rfl
    have hno:∀b,¬n b→¬g'.own b:=fun b hnb hob=>by
     rcases ho b hob with h | h
     ·exact hnb (hz b (hin b h))
     ·exact hnb h.2.2
    cases h' with
    | row e m xs=>
     obtain ⟨p1,p2,p3,cs,p4,p5⟩:=hb'
     refine ⟨⟨p2,cs,[],by rw [e1,←hq4];exact p4,p5,.inl ⟨rfl,by rw [e2,hq2,e1,←hq4,p3],by rw [e3,hq3]⟩⟩,fun b mb=>?_⟩
     rw [hq2,hq3] at mb
     simp at mb
     rcases p4.2 with ⟨h0,_⟩ | ⟨gg,o,cap,cur,hv,_,hcc,_⟩
     ·rw [h0] at p3;simp [Value.ownBlock] at p3;rw [←p3] at mb;simp at mb
     ·rw [hv] at p3;simp only[Value.ownBlock] at p3;rw [mb] at p3;simp at p3;subst p3;exact ⟨_,_,hcc⟩
    | box t cs=>
     obtain ⟨b,vs,L,p1,p2,p3,p4,p5⟩:=hb'
     refine ⟨⟨b,vs,by rw [e1,←hq4];exact p2,by rw [e2,hq2,p1];rfl,by rw [e3,hq3],p3,p4.avr fun x mx=>hno x (p5 x mx)⟩,fun x mx=>?_⟩
     rw [hq2,hq3,p1] at mx
     simp at mx
     subst mx
     exact ⟨_,_,p3⟩)
  have hup:Zp st.ob (ZS st (Z7 r)++((k,Xp h')::(ZH key res).2.1))=Zp (upd (Zp st.ob (ZS st (Z7 r))) k (Xp h')) (ZH key res).2.1:=by rw [YR];rfl
  have hif:=ZDR (k:=k) (inst:=fun j=>Classical.propDecidable (j=k)) (Zp st.ob (ZS st (Z7 r))) (Xp h')
  have t1':HI W g' (Zp (upd (Zp st.ob (ZS st (Z7 r))) k (Xp h')) (ZH key res).2.1) w':=hif ▸ t1
  have t5':∀j,obU (Uk U key) (Zp (upd (Zp st.ob (ZS st (Z7 r))) k (Xp h')) (ZH key res).2.1 j):=hif ▸ t5
  have t6':∀j,¬Uk U key j→Zp (upd (Zp st.ob (ZS st (Z7 r))) k (Xp h')) (ZH key res).2.1 j=.gone:=hif ▸ t6
  rw [←hup] at t1' t5' t6'
  exact ⟨cv,rfl,g',t1',t2,fun x c hx hc=>t3 x c hx (hc.less i2 i3),t4,t5',t6'⟩
 ·obtain ⟨l,nb,hl,hs,rfl,rfl⟩:=h
  obtain ⟨hc,hC⟩:=hs
  refine ⟨hc,?_⟩
  obtain ⟨g1,i1,i2,i3,i4⟩:=ZkS st (Z7 vs) hH (fun k=>.inl rfl)
  let st1:St:=⟨st.sl,Zp st.ob (ZS st (Z7 vs)),st.n⟩
  have hob1:∀k,st1.ob k=(if k∈Z7 vs then Yd (st.ob k) else st.ob k):=i4
  have hfr:∀k,st1.ob k=st.ob k∨st1.ob k=Yd (st.ob k):=fun k=>by
   rw [hob1 k];split
   ·exact .inr rfl
   ·exact .inl rfl
  have hl1:Z1 st1 vs=some l:=by rw [Zfl hfr];exact hl
  have hok1:=ZrZ (st1:=st1) hob1 hl
  have hobU1:∀j,obU U (st1.ob j):=Zwe hU.ob hob1
  have hgone1:∀j,¬U j→st1.ob j=.gone:=fun j hj=>by
   have e:=hU.gone j hj
   rcases hfr j with h | h<;>rw [h,e]<;>rfl
  have hvs':ZL (SVR g1 w) vs cvs:=hvs.mono fun x c _ hx=>hx.less i2 i3
  refine (hC w g1.own cvs (htt.at hH.below) (fun b hb=>i1.ownlt hb) (Zc2 (st:=st1) i1 hl1 hvs' (.inr ⟨hok1,fun _ h=>h⟩))).mono ?_
  rintro e w' ⟨b,n,rfl,hb,hnR,hnb,hz,hbel⟩
  have hkU:¬U key:=hkey key (A4 _) (by omega)
  let g':Gh:=⟨fun k=>if k=key then Zol b nb else g1.val k,fun k=>if k=key then [b] else g1.O k,fun k=>if k=key then [] else g1.D k,g1.Z⟩
  have hval:∀k,U k→g'.val k=g1.val k:=fun k hk=>if_neg fun (e:k=key)=>hkU (e ▸ hk)
  have hown2:∀x,g'.own x→g1.own x∨x=b:=fun x hx=>by
   rcases hx with ⟨k,mk⟩ | hx
   ·simp only[g'] at mk
    split at mk
    ·exact .inr (by simpa using mk)
    ·exact .inl (.inl ⟨k,mk⟩)
   ·exact .inl (.inr hx)
  have hown:Qj g1 g' w.heap.size:=.of (fun x hx=>(hown2 x hx).imp id fun (e:x=b)=>by rw [e];exact hb) fun j x mx=>by
   simp only[g'] at mx
   split at mx
   ·simp at mx
   ·exact .inl (.inr ⟨j,mx⟩)
  have hno:∀x,¬n x→¬g'.own x:=fun x mx hx=>mx (by
   rcases hown2 x hx with h | h
   ·exact hz x h
   ·rw [h];exact hnb)
  have hup:Zp st.ob (ZS st (Z7 vs)++[(key,Zu7 nb)])=upd (Zp st.ob (ZS st (Z7 vs))) key (Zu7 nb):=by rw [YR];rfl
  have hvk:g'.val key=Zol b nb:=if_pos rfl
  have hplain:Xx w' (Zu7 nb) b:=by
   cases nb with
   | box t cs=>obtain ⟨us,L,p1,_⟩:=hnR;exact ⟨_,_,p1⟩
   | map kk vk kv=>obtain ⟨es,c,p1,_⟩:=hnR;exact ⟨_,_,p1⟩
  refine ⟨_,rfl,g',?_,?_,fun x c hx hc=>(hc.less i2 i3).move hx hval (fun b hb _=>hbel.block b hb) hown hbel.size,?_,fun k=>?_,fun k hk=>?_⟩
  ·rw [hup]
   refine i1.step (U:=U) (fun k=>k=key) (hH.below.trans hbel) rfl (fun b hb _=>hbel.block b hb) (fun k hk=>⟨ZN _ _ hk,if_neg hk,if_neg hk,if_neg hk⟩) hobU1 hval hown (fun k hk=>?_)
   subst hk
   have e1:g'.O k=[b]:=if_pos rfl
   have e2:g'.D k=[]:=if_pos rfl
   rw [ZD,e1,e2]
   refine ⟨?_,by simp,fun x mx=>?_,fun j hj x mx mj=>?_⟩
   ·cases nb with
    | box t cs=>obtain ⟨us,L,p1,p2,p3⟩:=hnR;exact ⟨b,us,hvk,e1,e2,p1,p2.avr fun x mx=>hno x (p3 x mx)⟩
    | map kk vk kv=>obtain ⟨es,c,p1,p2⟩:=hnR;exact ⟨b,es,c,hvk,e1,e2,p1,p2⟩
   ·simp at mx;subst mx;exact ⟨.inl (AS hH.below.size hb),hplain⟩
   ·simp at mx;subst mx
    have e3:g'.O j=g1.O j:=if_neg fun e=>hj e.symm
    have e4:g'.D j=g1.D j:=if_neg fun e=>hj e.symm
    rw [e3,e4] at mj
    have:=i1.lt j x mj
    omega
  ·cases nb with
   | box t cs=>exact ⟨b,hvk,rfl⟩
   | map kk vk kv=>exact ⟨.row key,rfl,hvk.symm,rfl⟩
  ·cases nb with
   | box t cs=>exact .inr ⟨A4 _,by omega⟩
   | map kk vk kv=>intro y my;simp at my;subst my;exact .inr ⟨A4 _,by omega⟩
  ·rw [hup]
   by_cases hk:k=key
   ·subst hk;rw [ZD]
    cases nb with
    | box t cs=>intro y my;simp only[A2] at my;obtain ⟨x,_,rfl⟩:=my;trivial
    | map kk vk kv=>trivial
   ·rw [ZN _ _ hk];exact (hobU1 k).mono fun _=>.inl
  ·have hk2:¬k=key:=fun e=>hk (.inr ⟨by omega,by omega⟩)
   rw [hup,ZN _ _ hk2]
   exact hgone1 k fun h=>hk (.inl h)
 ·exact ZiB htt (f:=f) (vs:=vs.map nlS) h hH hU hkey (ZsP hvs) (fun x hx=>by
   obtain ⟨y,my,rfl⟩:=A2.1 hx
   exact ZuN (hvU y my))
 ·obtain ⟨l,res,hl,hs,hn,rfl,rfl⟩:=h
  obtain ⟨hc,hC⟩:=hs
  refine ⟨hc,?_⟩
  obtain ⟨g1,i1,i2,i3,i4⟩:=ZkS st (Z7 vs) hH (fun k=>.inl rfl)
  let st1:St:=⟨st.sl,Zp st.ob (ZS st (Z7 vs)),st.n⟩
  have hob1:∀k,st1.ob k=(if k∈Z7 vs then Yd (st.ob k) else st.ob k):=i4
  have hfr:∀k,st1.ob k=st.ob k∨st1.ob k=Yd (st.ob k):=fun k=>by
   rw [hob1 k];split
   ·exact .inr rfl
   ·exact .inl rfl
  have hl1:Z1 st1 vs=some l:=by rw [Zfl hfr];exact hl
  have hok1:=ZrZ (st1:=st1) hob1 hl
  have hobU1:∀j,obU U (st1.ob j):=Zwe hU.ob hob1
  have hgone1:∀j,¬U j→st1.ob j=.gone:=fun j hj=>by
   have e:=hU.gone j hj
   rcases hfr j with h | h<;>rw [h,e]<;>rfl
  have hvs':ZL (SVR g1 w) vs cvs:=hvs.mono fun x c _ hx=>hx.less i2 i3
  refine (hC w g1.own cvs (htt.at hH.below) (fun b hb=>i1.ownlt hb) (Zc2 (st:=st1) i1 hl1 hvs' (.inr ⟨hok1,fun _ h=>h⟩))).mono ?_
  rintro e w' ⟨cv,n,rfl,hr,hz,hb⟩
  obtain ⟨g',t1,t2,t3,t4,t5,t6⟩:=Zht i1 hobU1 hgone1 hkey hr hn (fun _=>False) (fun _ h=>h.elim) (fun _=>.gone) (fun _ b hb=>hz b hb) (hH.below.trans hb) hb.size (fun b hb' _=>hb.block b hb') (fun _ h=>h.elim) (fun _ _ _ _ h=>h.elim)
  simp only[if_false,←YR] at t1 t5 t6
  exact ⟨cv,rfl,g',t1,t2,fun x c hx hc=>t3 x c hx (hc.less i2 i3),t4,t5,t6⟩
end
end
section
open Go.RowKit
section
variable {P:Program} {J:World→Prop} {JF:Nat→Prop} {W:Zaa} {U:Nat→Prop} {key:Nat} {st:St} {w w':World} {a:Act} {tt:Nat→Option TI} {hs:FuncId→Nat} {Q:Exit→Act→World→Prop}
theorem Zcg (a:Act) (d:Option Nat) (v:Value):(a.put d v).tmps.size=a.tmps.size:=by cases d<;>simp [Act.put]
theorem Zfs [NW] {g g':Gh} {d:Option Nat} {v:SV} {u:List (Nat × Ob)} {cv:Value} (hS:∀t,SVR g w (st.sl t) (a.tmps.getD t undef)) (hU:StU U st) (hdef:a.defers=[]) (hh:∀v,W.hv=some v→a.tmps.getD 0 undef=v) (hd:∀t,d=some t→t<a.tmps.size∧(W.hv=none∨t≠0))
  (h1:HI W g' (Zp st.ob u) w') (h2:SVR g' w' v cv) (h3:∀x c,svU U x→SVR g w x c→SVR g' w' x c) (h4:svU (Uk U key) v) (h5:∀k,obU (Uk U key) (Zp st.ob u k)) (h6:∀k,¬Uk U key k→Zp st.ob u k=.gone):
  Inv W (Uk U key) ((st.put d v).app u) (a.put d cv) w':=by
 cases d with
 | none=>
  refine ⟨⟨g',h1,fun t=>h3 _ _ (hU.sl t) (hS t)⟩,⟨fun t=>(hU.sl t).mono fun _=>.inl,h5,h6⟩,hdef,hh⟩
 | some d=>
  have hd':=(hd d rfl).1
  refine ⟨⟨g',h1,fun t=>?_⟩,⟨fun t=>?_,h5,h6⟩,hdef,fun u hu=>?_⟩
  ·show SVR g' w' (upd st.sl d v t) ((a.tmps.setIfInBounds d cv).getD t undef)
   by_cases ht:t=d
   ·subst ht
    rw [ZD]
    simpa [A8,AT,hd'] using h2
   ·rw [ZN _ _ ht]
    have:(a.tmps.setIfInBounds d cv).getD t undef=a.tmps.getD t undef:=by
     simp [A8,AN (fun e:d=t=>ht e.symm)]
    rw [this]
    exact h3 _ _ (hU.sl t) (hS t)
  ·show svU (Uk U key) (upd st.sl d v t)
   by_cases ht:t=d
   ·subst ht;rw [ZD];exact h4
   ·rw [ZN _ _ ht];exact (hU.sl t).mono fun _=>.inl
  ·show (a.tmps.setIfInBounds d cv).getD 0 undef=u
   have hne:d≠0:=by
    rcases (hd d rfl).2 with h | h
    ·rw [h] at hu;simp at hu
    ·exact h
   rw [←hh u hu]
   simp [A8,AN hne]
theorem Zqx [NW] {g:Gh} {x:SV} {v:Value} {fc:FuncId × List CT} (hfc:Zok x=some fc) (hs:SVR g w x v):∃cs:List Value,v=.func (.func fc.1) #[] cs.toArray∧ZL (SVR g w) (fc.2.map Zkw) cs:=by
 unfold Zok at hfc
 split at hfc
 ·rename_i f es
  simp only[A0] at hfc
  subst hfc
  obtain ⟨y,hy,hs⟩:=hs
  simp at hy;subst hy
  obtain ⟨L,⟨vs,h1,h2⟩,h3⟩:=hs
  refine ⟨vs,h1,?_⟩
  have:=h2.avr (g:=g) h3
  have conv:∀(es:List CT) (vs:List Value),ZL (AVR g w) (es.map AV.c) vs→ZL (SVR g w) (es.map Zkw) vs:=by
   intro es
   induction es with
   | nil=>intro vs h;cases vs with
    | nil=>trivial
    | cons _ _=>exact h.elim
   | cons e es ih=>intro vs h;cases vs with
    | nil=>exact h.elim
    | cons v vs=>exact ⟨⟨_,rfl,h.1⟩,ih vs h.2⟩
  exact conv _ _ this
 ·rename_i f
  simp only[A0] at hfc
  subst hfc
  exact ⟨[],hs,trivial⟩
 ·simp at hfc
theorem Zom [NW] (htt:MOk P J JF W tt) {o:Oper} {K:St→Prop} (h:opS tt (SC P J JF hs) key o K st) (hI:Inv W U st a w) (hkey:∀k,key≤k→k<key+16→¬U k) (hd:∀t,o.dst=some t→t<a.tmps.size∧(W.hv=none∨t≠0)):
  o.wp P a w (fun a' w'=>∃st',Inv W (Uk U key) st' a' w'∧a'.tmps.size=a.tmps.size∧K st') Q:=by
 obtain ⟨⟨g,hH,hS⟩,hU,hdef,hh⟩:=hI
 have evals:∀(args:Array Operand) (ts:Array TypeId),ZL (SVR g w) (evs tt st ts.toList args.toList) (args.toList.map a.eval)∧∀x∈evs tt st ts.toList args.toList,svU U x:=fun args ts=>by
  have he:args.toList.map a.eval=(Zje ts.toList args.toList).map fun p=>a.eval p.2:=by
   have:=congrArg (List.map a.eval) (ZeZ ts.toList args.toList)
   rw [←this,Ac];rfl
  refine ⟨?_,fun x mx=>?_⟩
  ·rw [he]
   exact ZL.of_map _ _ fun p _=>(Zkm htt.tt hS hU p.1 p.2).1
  ·obtain ⟨p,_,rfl⟩:=A2.1 mx
   exact (Zkm htt.tt hS hU p.1 p.2).2
 have arm:∀(f:FuncId) (n:Nat) (vs:List SV) (cvs:List Value),spK (SC P J JF hs) f n key o.dst K st vs→ZL (SVR g w) vs cvs→(∀x∈vs,svU U x)→(ZdV P f→(execOp a.eval o).run P w=.ok (.enter f cvs.toArray) w)→
   o.wp P a w (fun a' w'=>∃st',Inv W (Uk U key) st' a' w'∧a'.tmps.size=a.tmps.size∧K st') Q:=fun f n vs cvs h hargs hargU hrun=>by
  obtain ⟨v,u,hr,hK⟩:=ZkQ.1 h
  obtain ⟨hc,hcall⟩:=Zg5 htt hr hH hU hkey hargs hargU
  unfold Oper.wp
  rw [hrun hc,Oper.upon_enter]
  refine hcall.mono ?_
  rintro e w' ⟨cv,rfl,g',t1,t2,t3,t4,t5,t6⟩
  exact ⟨_,Zfs hS hU hdef hh hd t1 t2 t3 t4 t5 t6,Zcg _ _ _,hK⟩
 unfold opS at h
 split at h
 ·rename_i c hc
  obtain ⟨f,l1,l2⟩:=c
  have hop:∃args ts,o.op=.call ⟨.value (.func f),args,ts⟩∧l1=ts.toList∧l2=args.toList:=by
   unfold Y1 at hc
   split at hc
   ·rename_i f' args ts he
    simp only[A0,A3] at hc
    obtain ⟨rfl,rfl,rfl⟩:=hc
    exact ⟨args,ts,he,rfl,rfl⟩
   ·simp at hc
  obtain ⟨args,ts,hop,rfl,rfl⟩:=hop
  refine arm f _ _ _ h (evals args ts).1 (evals args ts).2 ?_
  rintro ⟨fn,f1,f2,f3⟩
  have f2' : ¬ fn.name = "runtime.NumGoroutine" := by simpa using f2
  have f3':¬fn.body=none:=fun e=>by rw [e] at f3;simp at f3
  have e1:(args.toList.map a.eval).toArray=args.map a.eval:=by
   apply Array.ext'
   simp
  rw [e1]
  simp [execOp,hop,resolve,Act.eval,Deferred.ofValue,invoke,callFunc,program,Sem.run,f1,f2',f3']
 ·split at h
  ·rename_i c hc
   obtain ⟨s,l1,l2⟩:=c
   have hop:∃args ts,o.op=.call ⟨.value (.tmp s),args,ts⟩∧l1=ts.toList∧l2=args.toList:=by
    unfold Y7 at hc
    split at hc
    ·rename_i s' args ts he
     simp only[A0,A3] at hc
     obtain ⟨rfl,rfl,rfl⟩:=hc
     exact ⟨args,ts,he,rfl,rfl⟩
    ·simp at hc
   obtain ⟨args,ts,hop,rfl,rfl⟩:=hop
   unfold YH at h
   split at h
   ·rename_i fc hfc
    obtain ⟨_,h⟩:=h
    have hval:=Zqx hfc (hS s)
    obtain ⟨cs,hv',hcs⟩:=hval
    have hv:a.eval (.tmp s)=.func (.func fc.1) #[] cs.toArray:=hv'
    refine arm fc.1 0 _ (args.toList.map a.eval++cs) h ((evals args ts).1.append hcs) (fun x mx=>?_) ?_
    ·rcases A5.1 mx with m | m
     ·exact (evals args ts).2 x m
     ·obtain ⟨c,_,rfl⟩:=A2.1 m
      exact Xn _
    ·rintro ⟨fn,f1,f2,f3⟩
     have f2' : ¬ fn.name = "runtime.NumGoroutine" := by simpa using f2
     have f3':¬fn.body=none:=fun e=>by rw [e] at f3;simp at f3
     have e1:(args.toList.map a.eval++cs).toArray=args.map a.eval++cs.toArray:=by
      apply Array.ext'
      simp
     rw [e1]
     simp [execOp,hop,resolve,hv,Deferred.ofValue,invoke,callFunc,program,Sem.run,f1,f2',f3']
   ·exact h.elim
  ·unfold YH at h
   split at h
   ·rename_i r hr
    obtain ⟨g',cv,w',hrun,t1,t2,t3,t4,t5,t6⟩:=ZnT (P:=P) (W:=W) (a:=a) htt.tt o hr hH hS hU (hkey key (A4 _) (by omega))
    unfold Oper.wp
    rcases hrun with hrun | ⟨hrun,rfl⟩
    ·rw [hrun]
     exact ⟨_,Zfs hS hU hdef hh hd t1 t2 t3 t4 t5 t6,Zcg _ _ _,h⟩
    ·rw [hrun]
     exact ⟨_,Zfs hS hU hdef hh hd t1 t2 t3 t4 t5 t6,Zcg _ _ _,h⟩
   ·exact h.elim
theorem ZsZ [NW] (hI:Inv W U st a w) (d:Option Nat) (hd:∀t,d=some t→t<a.tmps.size∧(W.hv=none∨t≠0)):Inv W (Uk U key) (st.put d .und) (a.put d undef) w:=by
 obtain ⟨⟨g,hH,hS⟩,hU,hdef,hh⟩:=hI
 exact Zfs (u:=[]) (key:=key) hS hU hdef hh hd hH rfl (fun _ _ _ h=>h) trivial (fun k=>(hU.ob k).mono fun _=>.inl) (fun k hk=>hU.gone k fun h=>hk (.inl h))
theorem ZnI [NW] (htt:MOk P J JF W tt) {ops:Array Oper} {i:Nat} {o:Oper} {K:St→Prop} (ho:ops[i]?=some o) (h:opG tt (SC P J JF hs) ops.toList key o K st) (hI:Inv W U st a w) (hkey:∀k,key≤k→k<key+16→¬U k) (hd:∀t,o.dst=some t→t<a.tmps.size∧(W.hv=none∨t≠0)):
  wpOp P ops Q i (fun a' w'=>∃st',Inv W (Uk U key) st' a' w'∧a'.tmps.size=a.tmps.size∧K st') a w:=by
 have skip:K (st.put o.dst .und)→∃st',Inv W (Uk U key) st' (a.put o.dst undef) w∧(a.put o.dst undef).tmps.size=a.tmps.size∧K st':=fun hK=>⟨_,ZsZ hI _ hd,Zcg _ _ _,hK⟩
 unfold wpOp
 simp only[ho]
 unfold opG Zao at h
 cases hg:o.guard with
 | none=>
  rw [hg] at h
  rw [if_pos (by simp [Region.wanted,hg])]
  exact .inl (Zom htt h hI hkey hd)
 | some jw=>
  obtain ⟨j,want⟩:=jw
  rw [hg] at h
  simp only at h
  cases hj:(ops.toList[j]?).bind (·.dst) with
  | none=>
   rw [hj] at h
   have hj':(ops[j]?).bind (·.dst)=none:=by simpa using hj
   rw [if_neg (by simp [Region.wanted,hg,yielded,hj'])]
   exact skip h
  | some t=>
   rw [hj] at h
   have hj':(ops[j]?).bind (·.dst)=some t:=by simpa using hj
   obtain ⟨⟨g,hH,hS⟩,hU,hdef,hh⟩:=hI
   have hst:=hS t
   simp only at h
   unfold gK at h
   split at h
   ·rename_i hb
    have:∃b,st.sl t=.p false [.c (.bool b)]:=by
     unfold QJ at hb
     split at hb
     ·rename_i b he;exact ⟨b,he⟩
     ·simp at hb
    obtain ⟨b,hb'⟩:=this
    rw [hb'] at hst h
    have hv:=ZfE hst
    have hy:yielded ops a.tmps j=some b:=by
     unfold yielded
     rw [hj',AH]
     have:a.tmps[t]?=some (.bool b):=by
      rw [A8] at hv
      cases he:a.tmps[t]? with
      | none=>rw [he] at hv;simp [undef] at hv
      | some q=>rw [he] at hv;simpa using hv
     rw [this]
    by_cases hw:(b==want)=true
    ·rw [if_pos (show (XN (.p false [.c (.bool b)])==want)=true from hw)] at h
     rw [if_pos (by simpa [Region.wanted,hg,hy] using hw)]
     exact .inl (Zom htt h ⟨⟨g,hH,hS⟩,hU,hdef,hh⟩ hkey hd)
    ·rw [if_neg (show ¬(XN (.p false [.c (.bool b)])==want)=true from hw)] at h
     rw [if_neg (by simpa [Region.wanted,hg,hy] using hw)]
     exact skip h
   ·split at h
    ·rename_i hu
     have hb':st.sl t=.und:=by
      unfold Zq4 at hu
      split at hu
      ·rename_i he;exact he
      ·simp at hu
     rw [hb'] at hst
     have hst':a.tmps.getD t undef=undef:=hst
     have hy:yielded ops a.tmps j=none:=by
      unfold yielded
      rw [hj',AH]
      rw [A8] at hst'
      cases he:a.tmps[t]? with
      | none=>rfl
      | some q=>rw [he] at hst';simp at hst';rw [hst'];rfl
     rw [if_neg (by simp [Region.wanted,hg,hy])]
     exact skip h
    ·exact h.elim
theorem ZnK [NW] (htt:MOk P J JF W tt) {ops:Array Oper} {N:Nat} (hN:∀o∈ops.toList,∀t,o.dst=some t→t<N∧(W.hv=none∨t≠0)) {K:St→Prop}:∀(r:List Oper) (i key:Nat) (U:Nat→Prop) (st:St) (a:Act) (w:World),ops.toList.drop i=r→Z5 tt (SC P J JF hs) ops.toList key r K st→Inv W U st a w→(∀k,key≤k→¬U k)→a.tmps.size=N→
  (∀U' st' a' w',Inv W U' st' a' w'→(∀k,key+16 * r.length≤k→¬U' k)→a'.tmps.size=N→K st'→Q .normal a' w')→wpOps P ops Q (AG i r.length) a w
 | [],i,key,U,st,a,w,_,h,hI,hk,hs,hQ=>hQ U st a w hI (by simpa using hk) hs h
 | o::r,i,key,U,st,a,w,hr,h,hI,hk,hs,hQ=>by
  have hi:ops.toList[i]?=some o:=by
   have:=congrArg (fun l=>l[0]?) hr
   simpa using this
  have hr':ops.toList.drop (i+1)=r:=by
   have:=congrArg List.tail hr
   simpa using this
  rw [Ad,AQ,wpOps_cons]
  refine wpOp_mono ?_ (ZnI htt (by simpa using hi) h hI (fun k a _=>hk k a) (fun t ht=>by rw [hs];exact hN o (AU hi) t ht))
  rintro a' w' ⟨st',hI',hs',hK'⟩
  refine ZnK htt hN r (i+1) (key+16) _ st' a' w' hr' hK' hI' (fun k hk' hU=>?_) (by omega) (fun U' st2 a2 w2 h1 h2 h3 h4=>hQ U' st2 a2 w2 h1 (fun k hk'=>h2 k (by simp at hk';omega)) h3 h4)
  rcases hU with hU | hU
  ·exact hk k (by omega) hU
  ·omega
end
end
section
open Go.RowKit
def ZuK:Option TI→Bool
 | some (.slice _ _ _ z)=>z.all ZjP
 | _=>false
def cls (tt:Nat→Option TI) (hs:FuncId→Nat):Op→Nat
 | .move _=>0
 | .assign _=>0
 | .pick _ _ _=>0
 | .build _ _=>0
 | .nilCheck _=>0
 | .binOp _ _ _ _ _=>0
 | .unOp _ _ _=>0
 | .convert _ t _=>if Zcq (tt t)=true then 1 else 0
 | .slice t _ lo hi _=>if Zcq (tt t)=true then 0 else if lo.isSome&&hi.isNone then 4 else 3
 | .fieldAddr _ _ _=>0
 | .field _ _ _=>0
 | .index _ _ _=>0
 | .extract _ _=>0
 | .alloc _=>1
 | .box _ _=>1
 | .load _ _=>1
 | .makeMap _ _=>1
 | .lookup _ _ _ _=>1
 | .makeSlice _ _ _=>1
 | .indexAddr _ _ _=>1
 | .buildSlice t _ ps=>if ps.size=0∨ZuK (tt t)=true then 2 else 3
 | .call ⟨.builtin .len,_,_⟩=>1
 | .call ⟨.builtin .max,_,_⟩=>0
 | .call ⟨.builtin .min,_,_⟩=>0
 | .call ⟨.value (.func f),_,_⟩=>if hs f=0∨hs f=4 then 1 else 4
 | _=>4
section
variable {P:Program} {W:Zaa} {U:Nat→Prop} {key:Nat} {st st':St} {w w':World} {a:Act} {tt:Nat→Option TI} {S:Ctx} {Q:Exit→Act→World→Prop}
def Za8 (tt:Nat→Option TI) (S:Ctx) (key:Nat) (o:Oper) (st:St) (v:SV) (u:List (Nat × Ob)):Prop:=
 match Y1 o.op with
 | some c=>ZaW S c.1 (S.hd c.1) key st (evs tt st c.2.1 c.2.2) v u
 | none=>match Y7 o.op with
  | some c=>∃fc,Zok (st.sl c.1)=some fc∧S.hd fc.1=0∧ZaW S fc.1 0 key st (evs tt st c.2.1 c.2.2++fc.2.map Zkw) v u
  | none=>opE tt key o st=some (v,u)
def opR (tt:Nat→Option TI) (S:Ctx) (all:List Oper) (key:Nat) (o:Oper) (st:St) (v:SV) (u:List (Nat × Ob)):Prop:=
 match Zao all o with
 | none=>Za8 tt S key o st v u
 | some (none,_)=>v=.und∧u=[]
 | some (some t,want)=>gK (st.sl t) want (Za8 tt S key o st v u) (v=.und∧u=[])
theorem Ztq [NW] {o:Oper} {K:St→Prop}:opS tt S key o K st↔∃v u,Za8 tt S key o st v u∧K ((st.put o.dst v).app u):=by
 cases hc:Y1 o.op with
 | some c=>
  simp only[opS,Za8,hc]
  exact ZkQ
 | none=>
  simp only[opS,Za8,hc]
  cases hd:Y7 o.op with
  | some c=>
   simp only
   constructor
   ·intro h
    unfold YH at h
    split at h
    ·rename_i fc hfc
     obtain ⟨h0,h⟩:=h
     obtain ⟨v,u,h1,h2⟩:=ZkQ.1 h
     exact ⟨v,u,⟨fc,hfc,h0,h1⟩,h2⟩
    ·exact h.elim
   ·rintro ⟨v,u,⟨fc,hfc,h0,h1⟩,h2⟩
    rw [hfc]
    exact ⟨h0,ZkQ.2 ⟨v,u,h1,h2⟩⟩
  | none=>
   simp only
   constructor
   ·intro h
    unfold YH at h
    split at h
    ·rename_i r hr
     exact ⟨r.1,r.2,hr,h⟩
    ·exact h.elim
   ·rintro ⟨v,u,h1,h2⟩
    rw [h1]
    exact h2
theorem Zhe [NW] {all:List Oper} {o:Oper} {K:St→Prop}:opG tt S all key o K st↔∃v u,opR tt S all key o st v u∧K ((st.put o.dst v).app u):=by
 have skip:K (st.put o.dst .und)↔∃v u,(v=SV.und∧u=[])∧K ((st.put o.dst v).app u):=by
  constructor
  ·intro h;exact ⟨.und,[],⟨rfl,rfl⟩,h⟩
  ·rintro ⟨v,u,⟨rfl,rfl⟩,h⟩;exact h
 cases hg:Zao all o with
 | none=>simp only[opG,opR,hg];exact Ztq
 | some q=>
  obtain ⟨q,want⟩:=q
  cases q with
  | none=>simp only[opG,opR,hg];exact skip
  | some t=>
   simp only[opG,opR,hg,gK]
   by_cases h1:QJ (st.sl t)=true
   ·by_cases h2:(XN (st.sl t)==want)=true
    ·simp only[h1,h2,if_true];exact Ztq
    ·simp only[h1,h2,if_true,if_false];exact skip
   ·by_cases h2:Zq4 (st.sl t)=true
    ·simp only[h1,h2,if_true,if_false];exact skip
    ·simp only[h1,h2,if_false];simp
theorem ZeW [NW] {ts:List TypeId} {xs:List Operand} (h:∀x∈xs,∀t,st.ev tt t x=st'.ev tt t x):evs tt st ts xs=evs tt st' ts xs:=by
 unfold evs
 refine AI fun p hp=>h p.2 ?_ p.1
 rw [←ZeZ ts xs]
 exact A2.2 ⟨p,hp,rfl⟩
def Wk (st st':St) (U:Nat→Prop):Prop:=∀k,U k→st'.ob k=st.ob k∨st'.ob k=Yd (st.ob k)
theorem Wk.of (h:∀k,U k→st.ob k=st'.ob k):Wk st st' U:=fun k hk=>.inl (h k hk).symm
theorem ZgR (hob:Wk st st' U):∀{xs:List AV},Qn U xs→YG st xs=YG st' xs
 | [],_=>rfl
 | x::r,h=>by
  have hx:ZbE st x=ZbE st' x:=by
   cases x with
   | row k=>
    simp only[ZbE]
    rcases hob k (h (.row k) (by simp)) with e | e
    ·rw [e]
    ·rw [e];cases st.ob k<;>rfl
   | _=>rfl
  have hr:=ZgR hob (xs:=r) (fun y m=>h y (by simp [m]))
  simp only[YG,hx,hr]
theorem Zeg [NW] (hob:Wk st st' U):∀{xs:List SV},(∀x∈xs,svU U x)→Z1 st xs=Z1 st' xs
 | [],_=>rfl
 | x::r,h=>by
  have hx:ZcN st x=ZcN st' x:=by
   cases x with
   | p ag cs=>simp only[ZcN,ZgR hob (h (.p ag cs) (by simp))]
   | _=>rfl
  have hr:=Zeg hob (xs:=r) (fun y m=>h y (by simp [m]))
  simp only[Z1,hx,hr]
theorem Zsb (hob:Wk st st' U) {t:Option TI} {x:SV} (hx:svU U x):Qt st t x=Qt st' t x:=by
 cases x with
 | bp k off=>
  simp only[Qt]
  rcases hob k hx with e | e
  ·rw [e]
  ·rw [e];cases st.ob k<;>rfl
 | rp k m i off=>
  simp only[Qt]
  rcases hob k hx with e | e
  ·rw [e]
  ·rw [e];cases st.ob k<;>rfl
 | p ag cs=>cases ag with
  | true=>rfl
  | false=>cases cs with
   | nil=>rfl
   | cons y r=>cases r<;>cases y<;>first | rfl | (rename_i z;cases z<;>rfl) | (rename_i z _ _;cases z<;>rfl)
 | _=>rfl
theorem ZtD (hob:Wk st st' U) {t:Option TI} {x:SV} (hx:svU U x):ZmS st t x=ZmS st' t x:=by
 unfold ZmS
 split<;>try rfl
 rename_i k
 rcases hob k (hx (.row k) (by simp)) with e | e
 ·rw [e]
 ·rw [e];cases st.ob k<;>rfl
theorem ZoW (hob:Wk st st' U) {m:Nat} {x i:SV} (hx:svU U x):Za9 st m x i=Za9 st' m x i:=by
 unfold Za9
 split<;>try rfl
 rename_i k _ _
 rcases hob k (hx (.row k) (by simp)) with e | e
 ·rw [e]
 ·rw [e];cases st.ob k<;>rfl
theorem Zuv (hob:st.ob=st'.ob) (x:SV):ZiQ st x=ZiQ st' x:=by
 unfold ZiQ
 rw [hob]
theorem Zmd [NW] (hob:st.ob=st'.ob):∀xs:List SV,Zel st xs=Zel st' xs
 | []=>rfl
 | x::r=>by simp only[Zel,Zuv hob x,Zmd hob r]
theorem Zsw (hob:Wk st st' U) {t:Option TI} {x i:SV} {ok:Bool} (hx:svU U x):Zgf st t x i ok=Zgf st' t x i ok:=by
 unfold Zgf
 split<;>try rfl
 rename_i k
 rcases hob k (hx (.row k) (by simp)) with e | e
 ·rw [e]
 ·rw [e];cases st.ob k<;>rfl
theorem Zsu (hob:Wk st st' U) {x:SV} (hx:svU U x):ZhD st x=ZhD st' x:=by
 unfold ZhD
 split<;>try rfl
 rename_i k
 rcases hob k (hx (.row k) (by simp)) with e | e
 ·rw [e]
 ·rw [e];cases st.ob k<;>rfl
theorem Zr2 [NW] (hob:Wk st st' U) {s t:Nat} {x:SV} (hx:svU U x):ZgY tt st s t x=ZgY tt st' s t x:=by
 unfold ZgY
 rw [Zsu hob hx]
def Mk (st st':St) (U:Nat→Prop):Prop:=∀k,U k→st'.ob k=st.ob k∨st'.ob k=.gone
theorem Zku (hob:Mk st st' U):∀{xs:List AV} {r:List CT},Qn U xs→YG st' xs=some r→YG st xs=some r
 | [],_,_,h=>h
 | x::xs,r,hu,h=>by
  simp only[YG] at h ⊢
  obtain ⟨a,h1,h⟩:=A7.1 h
  obtain ⟨b,h2,rfl⟩:=A1.1 h
  have hx:ZbE st x=some a:=by
   cases x with
   | row k=>
    simp only[ZbE] at h1 ⊢
    rcases hob k (hu (.row k) (by simp)) with e | e
    ·rwa [e] at h1
    ·rw [e] at h1;simp at h1
   | _=>exact h1
  rw [hx,AH,Zku hob (fun y m=>hu y (by simp [m])) h2]
  rfl
theorem Zgs [NW] (hob:Mk st st' U):∀{xs:List SV} {r:List (Bool × List CT)},(∀x∈xs,svU U x)→Z1 st' xs=some r→Z1 st xs=some r
 | [],_,_,h=>h
 | x::xs,r,hu,h=>by
  simp only[Z1] at h ⊢
  obtain ⟨a,h1,h⟩:=A7.1 h
  obtain ⟨b,h2,rfl⟩:=A1.1 h
  have hx:ZcN st x=some a:=by
   cases x with
   | p ag cs=>
    simp only[ZcN] at h1 ⊢
    obtain ⟨l,h3,rfl⟩:=A1.1 h1
    rw [Zku hob (hu (.p ag cs) (by simp)) h3]
    rfl
   | _=>exact h1
  rw [hx,AH,Zgs hob (fun y m=>hu y (by simp [m])) h2]
  rfl
theorem Zsp (hob:Mk st st' U) {t:Option TI} {x r:SV} (hx:svU U x) (h:Qt st' t x=some r):Qt st t x=some r:=by
 cases x with
 | bp k off=>
  simp only[Qt] at h ⊢
  rcases hob k hx with e | e
  ·rwa [e] at h
  ·rw [e] at h;simp at h
 | rp k m i off=>
  simp only[Qt] at h ⊢
  rcases hob k hx with e | e
  ·rwa [e] at h
  ·rw [e] at h;simp at h
 | p ag cs=>cases ag with
  | true=>exact h
  | false=>cases cs with
   | nil=>exact h
   | cons y r=>cases r<;>cases y<;>first | exact h | (rename_i z;cases z<;>exact h) | (rename_i z _ _;cases z<;>exact h)
 | _=>exact h
theorem Zus (hob:Mk st st' U) {t:Option TI} {x r:SV} (hx:svU U x) (h:ZmS st' t x=some r):ZmS st t x=some r:=by
 unfold ZmS at h ⊢
 split at h<;>try exact h
 rename_i k
 rcases hob k (hx (.row k) (by simp)) with e | e
 ·rwa [e] at h
 ·rw [e] at h;simp at h
theorem Zps (hob:Mk st st' U) {m:Nat} {x i r:SV} (hx:svU U x) (h:Za9 st' m x i=some r):Za9 st m x i=some r:=by
 unfold Za9 at h ⊢
 split at h<;>try exact h
 rename_i k _ _
 rcases hob k (hx (.row k) (by simp)) with e | e
 ·rwa [e] at h
 ·rw [e] at h;simp at h
theorem Zsv (hob:Mk st st' U) {t:Option TI} {x i r:SV} {ok:Bool} (hx:svU U x) (h:Zgf st' t x i ok=some r):Zgf st t x i ok=some r:=by
 unfold Zgf at h ⊢
 split at h<;>try exact h
 rename_i k
 rcases hob k (hx (.row k) (by simp)) with e | e
 ·rwa [e] at h
 ·rw [e] at h;simp at h
theorem ZrT (hob:Mk st st' U) {x r:SV} (hx:svU U x) (h:ZhD st' x=some r):ZhD st x=some r:=by
 unfold ZhD at h ⊢
 split at h<;>try exact h
 rename_i k
 rcases hob k (hx (.row k) (by simp)) with e | e
 ·rwa [e] at h
 ·rw [e] at h;simp at h
theorem Znw [NW] {o:Oper} {sl sl':Nat→SV} {ob:Nat→Ob} {n n':Nat} (hl:∀x∈o.op.operands,∀t,St.ev tt ⟨sl,ob,n⟩ t x=St.ev tt ⟨sl',ob,n'⟩ t x):opE tt key o ⟨sl,ob,n⟩=opE tt key o ⟨sl',ob,n'⟩:=by
 obtain ⟨dst,op,ty,pos,af,gd⟩:=o
 cases op with
 | build t parts=>
  have hp:∀fs z,parts.toList.map (ZfO tt ⟨sl,ob,n⟩ fs z)=parts.toList.map (ZfO tt ⟨sl',ob,n'⟩ fs z):=fun fs z=>AI fun p hp=>by
   have:=hl p.2 (by simp [Op.operands];exact ⟨p.1,by simpa using hp⟩) 0
   unfold ZfO
   split
   ·rfl
   ·rw [this]
  simp only[opE,hp]
 | buildSlice t len parts=>
  have hp:∀e,(parts.toList.map fun p=>St.ev tt ⟨sl,ob,n⟩ e p.2)=parts.toList.map fun p=>St.ev tt ⟨sl',ob,n'⟩ e p.2:=fun e=>AI fun p hp=>hl p.2 (by simp [Op.operands];exact ⟨p.1,by simpa using hp⟩) e
  have he:∀m l,Y0 ⟨sl,ob,n⟩ m l=Y0 ⟨sl',ob,n'⟩ m l:=fun m l=>by
   have h1:∀x,avT ⟨sl,ob,n⟩ x=avT ⟨sl',ob,n'⟩ x:=fun x=>by cases x<;>rfl
   have h2:∀xs,ZfY ⟨sl,ob,n⟩ xs=ZfY ⟨sl',ob,n'⟩ xs:=fun xs=>by
    induction xs with
    | nil=>rfl
    | cons x xs ih=>simp only[ZfY,h1,ih]
   induction l with
   | nil=>rfl
   | cons x xs ih=>cases x<;>simp only[Y0,h2,ih]
  have hz:∀ks,ZS ⟨sl,ob,n⟩ ks=ZS ⟨sl',ob,n'⟩ ks:=fun ks=>by
   induction ks with
   | nil=>rfl
   | cons k r ih=>simp only[ZS,ih]
  simp only[opE,hp,he,hz]
 | slice t x lo hi mx=>
  simp only[Op.operands] at hl
  cases mx with
  | some _=>rfl
  | none=>
   have hx:=fun t=>hl x (by simp) t
   cases lo with
   | none=>cases hi with
    | none=>simp only[opE,hx,AD];rfl
    | some h=>have hh:=fun t=>hl h (by simp) t;simp only[opE,hx,hh,AD,AE];rfl
   | some l=>
    have hlo:=fun t=>hl l (by simp) t
    cases hi with
    | none=>simp only[opE,hx,hlo,AD,AE];rfl
    | some h=>have hh:=fun t=>hl h (by simp) t;simp only[opE,hx,hlo,hh,AE];rfl
 | call c=>
  obtain ⟨callee,args,ts⟩:=c
  cases callee with
  | builtin b=>
   have:=ZeW (tt:=tt) (st:=⟨sl,ob,n⟩) (st':=⟨sl',ob,n'⟩) (ts:=ts.toList) (xs:=args.toList) (fun x m t=>hl x (by simp [Op.operands,Call.operands];simpa using m) t)
   simp only[opE,this]
   unfold Zp6
   split<;>rfl
  | value f=>rfl
  | invoke r m=>rfl
 | move x=>have:=fun t=>hl x (by simp [Op.operands]) t;simp only[opE,this]
 | assign x=>have:=fun t=>hl x (by simp [Op.operands]) t;simp only[opE,this]
 | pick c x y=>have h1:=fun t=>hl c (by simp [Op.operands]) t;have h2:=fun t=>hl x (by simp [Op.operands]) t;have h3:=fun t=>hl y (by simp [Op.operands]) t;simp only[opE,h1,h2,h3]
 | alloc t=>rfl
 | box t x=>have:=fun t=>hl x (by simp [Op.operands]) t;simp only[opE,this]
 | load t x=>have:=fun t=>hl x (by simp [Op.operands]) t;simp only[opE,this];rfl
 | store t x v=>have h1:=fun t=>hl x (by simp [Op.operands]) t;have h2:=fun t=>hl v (by simp [Op.operands]) t;simp only[opE,h1,h2];rfl
 | nilCheck x=>have:=fun t=>hl x (by simp [Op.operands]) t;simp only[opE,this]
 | binOp op t x y t'=>have h1:=fun t=>hl x (by simp [Op.operands]) t;have h2:=fun t=>hl y (by simp [Op.operands]) t;simp only[opE,h1,h2]
 | unOp op t x=>have:=fun t=>hl x (by simp [Op.operands]) t;simp only[opE,this]
 | convert s t x=>have:=fun t=>hl x (by simp [Op.operands]) t;simp only[opE,this];rfl
 | makeFunc fn first caps=>
  cases fn with
  | func f=>
   have hc:caps.toList.map (St.ev tt ⟨sl,ob,n⟩ 0)=caps.toList.map (St.ev tt ⟨sl',ob,n'⟩ 0):=AI fun x hx=>hl x (by simp [Op.operands];exact .inr (by simpa using hx)) 0
   simp only[opE,hc,Zmd (st:=⟨sl,ob,n⟩) (st':=⟨sl',ob,n'⟩) rfl]
  | _=>rfl
 | makeMap t r=>cases r<;>rfl
 | lookup t x i ok=>have h1:=fun t=>hl x (by simp [Op.operands]) t;have h2:=fun t=>hl i (by simp [Op.operands]) t;simp only[opE,h1,h2];rfl
 | mapUpdate t x i v=>have h1:=fun t=>hl x (by simp [Op.operands]) t;have h2:=fun t=>hl i (by simp [Op.operands]) t;have h3:=fun t=>hl v (by simp [Op.operands]) t;simp only[opE,h1,h2,h3];rfl
 | makeSlice t x y=>have h1:=fun t=>hl x (by simp [Op.operands]) t;have h2:=fun t=>hl y (by simp [Op.operands]) t;simp only[opE,h1,h2]
 | fieldAddr t x f=>have:=fun t=>hl x (by simp [Op.operands]) t;simp only[opE,this]
 | field t x f=>have:=fun t=>hl x (by simp [Op.operands]) t;simp only[opE,this]
 | indexAddr t x y=>have h1:=fun t=>hl x (by simp [Op.operands]) t;have h2:=fun t=>hl y (by simp [Op.operands]) t;simp only[opE,h1,h2];rfl
 | index t x y=>have h1:=fun t=>hl x (by simp [Op.operands]) t;have h2:=fun t=>hl y (by simp [Op.operands]) t;simp only[opE,h1,h2]
 | extract x i=>have:=fun t=>hl x (by simp [Op.operands]) t;simp only[opE,this]
 | _=>rfl
theorem Ztl (sl:Nat→SV) (ob ob':Nat→Ob) (n n' t:Nat) (x:Operand):St.ev tt ⟨sl,ob,n⟩ t x=St.ev tt ⟨sl,ob',n'⟩ t x:=by cases x<;>rfl
theorem ZvN {st st':St} (h:∀k,U k→st.ob k=st'.ob k) {x:AV} (hx:avU U x):avT st x=avT st' x:=by
 cases x with
 | row k=>simp only[avT];rw [h k hx]
 | c x=>cases x<;>rfl
 | nil e m=>rfl
 | n x=>rfl
 | dead=>rfl
theorem ZnN [NW] {st st':St} (h:∀k,U k→st.ob k=st'.ob k):∀{xs:List AV},Qn U xs→ZfY st xs=ZfY st' xs
 | [],_=>rfl
 | x::r,hx=>by simp only[ZfY];rw [ZvN h (hx x (by simp)),ZnN h fun y m=>hx y (by simp [m])]
theorem Zks [NW] {st st':St} {m:Nat} (h:∀k,U k→st.ob k=st'.ob k):∀{xs:List SV},(∀v∈xs,svU U v)→Y0 st m xs=Y0 st' m xs
 | [],_=>rfl
 | .p a cs::r,hx=>by
  simp only[Y0]
  rw [ZnN h (hx (.p a cs) (by simp)),Zks h fun v mv=>hx v (by simp [mv])]
 | .any::r,_=>rfl
 | .und::r,_=>rfl
 | .tup _::r,_=>rfl
 | .bp _ _::r,_=>rfl
 | .rp _ _ _ _::r,_=>rfl
 | .ep _ _::r,_=>rfl
 | .fn _::r,_=>rfl
theorem Zt7 {x:AV} {ct:CT} {ks:List Nat} {d:Nat} (h:avT st x=some (ct,ks,d)) (hx:avU U x):∀k∈ks,U k:=by
 intro k mk
 cases x with
 | c y=>cases y<;>simp only[avT,A0,A3] at h<;>(rw [←h.2.1] at mk;simp at mk)
 | nil e m=>
  simp only[avT] at h
  split at h<;>simp only[A0,A3,reduceCtorEq] at h
  rw [←h.2.1] at mk;simp at mk
 | row j=>
  simp only[avT] at h
  split at h
  ·split at h<;>simp only[A0,A3] at h
   ·rw [←h.2.1] at mk;simp at mk
   ·rw [←h.2.1] at mk;simp at mk;subst mk;exact hx
  ·simp at h
 | n x=>simp [avT] at h
 | dead=>simp [avT] at h
theorem Zld [NW]:∀{xs:List AV} {cts:List CT} {ks:List Nat} {d:Nat},ZfY st xs=some (cts,ks,d)→Qn U xs→∀k∈ks,U k
 | [],_,_,_,h,_,k,mk=>by simp only[ZfY,A0,A3] at h;rw [←h.2.1] at mk;simp at mk
 | x::r,_,_,_,h,hu,k,mk=>by
  simp only[ZfY] at h
  obtain ⟨⟨c1,k1,d1⟩,h1,h⟩:=A7.1 h
  obtain ⟨⟨c2,k2,d2⟩,h2,h⟩:=A1.1 h
  simp only[A3] at h
  rw [←h.2.1] at mk
  rcases A5.1 mk with mk | mk
  ·exact Zt7 h1 (hu x (by simp)) k mk
  ·exact Zld h2 (fun y my=>hu y (by simp [my])) k mk
theorem Zfw [NW] {m:Nat}:∀{xs:List SV} {es:List (List CT)} {ks:List Nat} {d:Nat},Y0 st m xs=some (es,ks,d)→(∀v∈xs,svU U v)→∀k∈ks,U k
 | [],_,_,_,h,_,k,mk=>by simp only[Y0,A0,A3] at h;rw [←h.2.1] at mk;simp at mk
 | x::r,_,_,_,h,hu,k,mk=>by
  cases x with
  | p a cs=>
   simp only[Y0] at h
   split at h
   ·obtain ⟨⟨c1,k1,d1⟩,h1,h⟩:=A7.1 h
    obtain ⟨⟨c2,k2,d2⟩,h2,h⟩:=A1.1 h
    simp only[A3] at h
    rw [←h.2.1] at mk
    rcases A5.1 mk with mk | mk
    ·exact Zld h1 (hu (.p a cs) (by simp)) k mk
    ·exact Zfw h2 (fun v mv=>hu v (by simp [mv])) k mk
   ·simp at h
  | _=>simp [Y0] at h
theorem ZpT {st st':St} {ks:List Nat} (h:∀k∈ks,st.ob k=st'.ob k):ZS st ks=ZS st' ks:=by
 induction ks with
 | nil=>rfl
 | cons k r ih=>simp only[ZS,h k (by simp),ih fun j mj=>h j (by simp [mj])]
theorem Zl1 {ks:List Nat} {p:Nat × Ob} (h:p∈ZS st ks):p.1∈ks∧p.2=Yd (st.ob p.1):=by
 induction ks with
 | nil=>simp [ZS] at h
 | cons k r ih=>
  simp only[ZS,A6] at h
  rcases h with rfl | h
  ·exact ⟨by simp,rfl⟩
  ·exact ⟨by simp [(ih h).1],(ih h).2⟩
theorem ZkR [NW] {hs:FuncId→Nat} {o:Oper} {sl:Nat→SV} {ob ob':Nat→Ob} {n n':Nat} (h:cls tt hs o.op=0∨(cls tt hs o.op≤3∧(∀k,U k→ob k=ob' k)∧∀t x,svU U (St.ev tt ⟨sl,ob,n⟩ t x))∨(cls tt hs o.op≤1∧Wk ⟨sl,ob,n⟩ ⟨sl,ob',n'⟩ U∧∀t x,svU U (St.ev tt ⟨sl,ob,n⟩ t x))):opE tt key o ⟨sl,ob,n⟩=opE tt key o ⟨sl,ob',n'⟩:=by
 have he:=fun t x=>Ztl (tt:=tt) sl ob ob' n n' t x
 have hle:cls tt hs o.op≤3:=by rcases h with h | h | h<;>omega
 have hwk:cls tt hs o.op=0∨(Wk ⟨sl,ob,n⟩ ⟨sl,ob',n'⟩ U∧∀t x,svU U (St.ev tt ⟨sl,ob',n'⟩ t x)):=by
  rcases h with h | h | h
  ·exact .inl h
  ·exact .inr ⟨fun k hk=>.inl (h.2.1 k hk).symm,fun t x=>he t x ▸ h.2.2 t x⟩
  ·exact .inr ⟨h.2.1,fun t x=>he t x ▸ h.2.2 t x⟩
 obtain ⟨dst,op,ty,pos,af,gd⟩:=o
 cases op with
 | build t parts=>
  have hp:∀fs z,parts.toList.map (ZfO tt ⟨sl,ob,n⟩ fs z)=parts.toList.map (ZfO tt ⟨sl,ob',n'⟩ fs z):=fun fs z=>AI fun p hp=>by
   unfold ZfO
   split
   ·rfl
   ·rw [he]
  simp only[opE,hp]
 | buildSlice t len parts=>
  have hc:2≤cls tt hs (.buildSlice t len parts):=by simp only[cls];split<;>omega
  have h':(∀k,U k→ob k=ob' k)∧∀t x,svU U (St.ev tt ⟨sl,ob,n⟩ t x):=by
   rcases h with h | h | h
   ·simp only at h;omega
   ·exact h.2
   ·simp only at h;omega
  obtain ⟨h1,h2⟩:=h'
  simp only[opE,he]
  split
  ·rename_i e m _ z _
   have hu:∀v∈parts.toList.map (fun p=>St.ev tt ⟨sl,ob',n'⟩ e p.2),svU U v:=fun v mv=>by obtain ⟨p,_,rfl⟩:=A2.1 mv;rw [←he];exact h2 _ _
   rw [Zks (U:=U) (st:=⟨sl,ob,n⟩) (st':=⟨sl,ob',n'⟩) h1 hu]
   cases hel:Y0 ⟨sl,ob',n'⟩ m (parts.toList.map fun p=>St.ev tt ⟨sl,ob',n'⟩ e p.2) with
   | none=>rfl
   | some a=>
    have hk:=Zfw (U:=U) hel hu
    have:=ZpT (st:=⟨sl,ob,n⟩) (st':=⟨sl,ob',n'⟩) (ks:=a.2.1) (fun k mk=>h1 k (hk k mk))
    simp only[AH,this]
  ·rfl
 | load t x=>
  obtain ⟨h1,h2⟩:=hwk.resolve_left (by simp [cls])
  simp only[opE,he]
  rw [Zsb (U:=U) (st:=⟨sl,ob,n⟩) (st':=⟨sl,ob',n'⟩) h1 (h2 0 x)]
 | indexAddr t x y=>
  obtain ⟨h1,h2⟩:=hwk.resolve_left (by simp [cls])
  simp only[opE,he]
  split
  ·rw [ZoW (U:=U) (st:=⟨sl,ob,n⟩) (st':=⟨sl,ob',n'⟩) h1 (h2 0 x)]
  ·rfl
 | call c=>
  obtain ⟨callee,args,ts⟩:=c
  cases callee with
  | builtin b=>
   have hev:evs tt ⟨sl,ob,n⟩ ts.toList args.toList=evs tt ⟨sl,ob',n'⟩ ts.toList args.toList:=ZeW fun x _ t=>he t x
   simp only[opE,hev]
   unfold Zp6
   split
   ·rename_i t _ v he1 he2
    obtain ⟨h1,h2⟩:=hwk.resolve_left (by simp [cls])
    have hu:svU U v:=by
     have hm:v∈evs tt ⟨sl,ob',n'⟩ ts.toList args.toList:=by simp [he2]
     obtain ⟨p,_,rfl⟩:=A2.1 hm
     exact h2 _ _
    rw [ZtD (U:=U) (st:=⟨sl,ob,n⟩) (st':=⟨sl,ob',n'⟩) h1 hu]
   ·simp [cls] at hle
   ·rfl
   ·rfl
   ·rfl
  | value f=>rfl
  | invoke r m=>rfl
 | store t x v=>simp [cls] at hle
 | makeFunc fn first caps=>simp [cls] at hle
 | mapUpdate t x i v=>simp [cls] at hle
 | makeMap t r=>cases r<;>rfl
 | lookup t x i ok=>
  obtain ⟨h1,h2⟩:=hwk.resolve_left (by simp [cls])
  simp only[opE,he]
  rw [Zsw (U:=U) (st:=⟨sl,ob,n⟩) (st':=⟨sl,ob',n'⟩) h1 (h2 0 x)]
 | convert s t x=>
  simp only[opE,he]
  by_cases hst:Zcq (tt t)=true
  ·obtain ⟨h1,h2⟩:=hwk.resolve_left (by simp [cls,hst])
   rw [Zr2 (U:=U) (st:=⟨sl,ob,n⟩) (st':=⟨sl,ob',n'⟩) h1 (h2 0 x)]
  ·have e:∀st:St,ZgY tt st s t (St.ev tt ⟨sl,ob',n'⟩ 0 x)=ZpZ (tt s) (tt t) (St.ev tt ⟨sl,ob',n'⟩ 0 x):=fun st=>by
    unfold ZgY
    rw [if_neg (by simp [hst])]
   rw [e,e]
 | slice t x lo hi mx=>
  cases mx with
  | some _=>rfl
  | none=>
   by_cases hstr:Zcq (tt t)=true
   ·have hns:Zbm (tt t)=false:=by
     unfold Zcq at hstr
     split at hstr
     ·rename_i e;rw [e];rfl
     ·simp at hstr
    have hu:∀l h v,ZaK ⟨sl,ob,n⟩ key (tt t) l h v=ZaK ⟨sl,ob',n'⟩ key (tt t) l h v:=fun l h v=>by
     unfold ZaK
     split
     ·simp [hns]
     ·rfl
     ·rfl
    cases lo<;>cases hi<;>simp only[opE,he,AD,AE,hu]
   ·have hc:2<cls tt hs (.slice t x lo hi none):=by simp only[cls];rw [if_neg hstr];split<;>omega
    have h':(∀k,U k→ob k=ob' k)∧∀t x,svU U (St.ev tt ⟨sl,ob,n⟩ t x):=by
     rcases h with h | h | h
     ·simp only at h;omega
     ·exact h.2
     ·simp only at h;omega
    obtain ⟨h1,h2⟩:=h'
    have hu:∀l h v,svU U v→ZaK ⟨sl,ob,n⟩ key (tt t) l h v=ZaK ⟨sl,ob',n'⟩ key (tt t) l h v:=fun l h v hv=>by
     unfold ZaK
     split
     ·rename_i k
      have hk:U k:=hv (.row k) (by simp)
      simp only[h1 k hk]
     ·rfl
     ·rfl
    simp only[opE,he]
    exact hu _ _ _ (he 0 x ▸ h2 0 x)
 | _=>first | rfl | simp only[opE,he]
theorem ZdE {x y:Option SV} {r:SV × List (Nat × Ob)} (h:∀v,x=some v→y=some v) (hx:ZaZ x=some r):ZaZ y=some r:=by
 obtain ⟨v,h1,rfl⟩:=A1.1 hx
 rw [h v h1]
 rfl
theorem Zv1 [NW] {hs:FuncId→Nat} {o:Oper} {sl:Nat→SV} {ob ob':Nat→Ob} {n n':Nat} {r:SV × List (Nat × Ob)} (hc:cls tt hs o.op≤1) (hob:Mk ⟨sl,ob,n⟩ ⟨sl,ob',n'⟩ U) (hu:∀t x,svU U (St.ev tt ⟨sl,ob,n⟩ t x)) (h:opE tt key o ⟨sl,ob',n'⟩=some r):opE tt key o ⟨sl,ob,n⟩=some r:=by
 have he:=fun t x=>Ztl (tt:=tt) sl ob ob' n n' t x
 by_cases h0:cls tt hs o.op=0
 ·rw [ZkR (U:=U) (n':=n') (ob':=ob') (.inl h0)];exact h
 obtain ⟨dst,op,ty,pos,af,gd⟩:=o
 cases op with
 | load t x=>
  simp only[opE,he] at h ⊢
  exact ZdE (fun v hv=>Zsp hob (he 0 x ▸ hu 0 x) hv) h
 | indexAddr t x y=>
  simp only[opE,he] at h ⊢
  split at h
  ·exact ZdE (fun v hv=>Zps hob (he 0 x ▸ hu 0 x) hv) h
  ·simp at h
 | lookup t x i ok=>
  simp only[opE,he] at h ⊢
  exact ZdE (fun v hv=>Zsv hob (he 0 x ▸ hu 0 x) hv) h
 | convert s t x=>
  simp only[opE,he] at h ⊢
  refine ZdE (fun v hv=>?_) h
  unfold ZgY at hv ⊢
  split at hv
  ·rename_i hb
   rw [if_pos hb]
   exact ZrT hob (he 0 x ▸ hu 0 x) hv
  ·rename_i hb
   rw [if_neg hb]
   exact hv
 | call c=>
  obtain ⟨callee,args,ts⟩:=c
  cases callee with
  | builtin b=>
   have hev:evs tt ⟨sl,ob,n⟩ ts.toList args.toList=evs tt ⟨sl,ob',n'⟩ ts.toList args.toList:=ZeW fun x _ t=>he t x
   simp only[opE,hev] at h ⊢
   unfold Zp6 at h ⊢
   split at h
   ·rename_i t _ v he1 he2
    have hu':svU U v:=by
     have hm:v∈evs tt ⟨sl,ob',n'⟩ ts.toList args.toList:=by simp [he2]
     obtain ⟨p,_,rfl⟩:=A2.1 hm
     rw [←he];exact hu _ _
    exact ZdE (fun w hw=>Zus hob hu' hw) h
   ·simp [cls] at hc
   ·exact h
   ·exact h
   ·exact h
  | value f=>exact h
  | invoke r m=>exact h
 | slice t x lo hi mx=>simp only[cls] at hc h0;split at hc<;>rename_i hq<;>simp [hq] at h0<;>(split at hc<;>omega)
 | buildSlice t len parts=>simp only[cls] at hc;split at hc<;>omega
 | store t x v=>simp [cls] at hc
 | makeFunc fn first caps=>simp [cls] at hc
 | mapUpdate t x i v=>simp [cls] at hc
 | makeMap t r=>cases r<;>exact h
 | _=>first | exact h | (simp only[opE,he] at h ⊢;exact h)
theorem YF:∀(cts:List (Bool × CT)) (key:Nat),key≤(Ya key cts).2.2∧∀p∈(Ya key cts).2.1,key≤p.1∧p.1<(Ya key cts).2.2
 | [],key=>by simp [Ya]
 | (true,x)::r,key=>YF r key
 | (false,ct)::r,key=>by
  cases ct with
  | sl e m xs=>
   obtain ⟨h1,h2⟩:=YF r (key+1)
   refine ⟨by simp only[Ya];omega,fun p hp=>?_⟩
   simp only[Ya,A6] at hp ⊢
   rcases hp with rfl | hp
   ·exact ⟨A4 _,by simp only;omega⟩
   ·have:=h2 p hp;omega
  | int k n=>exact YF r key
  | bool b=>exact YF r key
  | str s=>exact YF r key
  | ifc s=>exact YF r key
  | any=>exact YF r key
  | nl a b=>exact YF r key
  | pt s=>exact YF r key
  | fn f s=>exact YF r key
  | mp a b s=>exact YF r key
theorem ZgH [NW]:∀(res:List RT) (key:Nat),key≤(ZH key res).2.2∧∀p∈(ZH key res).2.1,key≤p.1∧p.1<(ZH key res).2.2
 | [],key=>by simp [ZH]
 | x::r,key=>by
  obtain ⟨h1,h2⟩:=YF x.2 key
  obtain ⟨h3,h4⟩:=ZgH r (Ya key x.2).2.2
  refine ⟨by simp only[ZH];omega,fun p hp=>?_⟩
  simp only[ZH,A5] at hp ⊢
  rcases hp with hp | hp
  ·have:=h2 p hp;omega
  ·have:=h4 p hp;omega
theorem YZ {v:Option SV} {r:SV × List (Nat × Ob)} (h:ZaZ v=some r):r.2=[]:=by
 obtain ⟨u,_,rfl⟩:=A1.1 h;rfl
theorem Zvf [NW] {hs:FuncId→Nat} {o:Oper} {r:SV × List (Nat × Ob)} (hU:∀t x,svU U (st.ev tt t x)) (h:opE tt key o st=some r):(cls tt hs o.op=0→r.2=[])∧(cls tt hs o.op≤2→∀p∈r.2,key≤p.1∧p.1<key+16)∧(cls tt hs o.op≤3→∀p∈r.2,(key≤p.1∧p.1<key+16)∨(U p.1∧p.2=Yd (st.ob p.1))):=by
 have nil:r.2=[]→(cls tt hs o.op=0→r.2=[])∧(cls tt hs o.op≤2→∀p∈r.2,key≤p.1∧p.1<key+16)∧(cls tt hs o.op≤3→∀p∈r.2,(key≤p.1∧p.1<key+16)∨(U p.1∧p.2=Yd (st.ob p.1))):=fun e=>⟨fun _=>e,fun _ p hp=>by simp [e] at hp,fun _ p hp=>by simp [e] at hp⟩
 obtain ⟨dst,op,ty,pos,af,gd⟩:=o
 cases op with
 | move x=>simp only[opE,A0] at h;exact nil (by rw [←h])
 | assign x=>simp only[opE,A0] at h;exact nil (by rw [←h])
 | pick c x y=>
  simp only[opE] at h
  split at h
  ·simp only[A0] at h;exact nil (by rw [←h])
  ·simp at h
 | alloc t=>
  simp only[opE] at h
  obtain ⟨z,_,rfl⟩:=A1.1 h
  exact ⟨fun e=>by simp [cls] at e,fun _ p hp=>by simp at hp;subst hp;simp,fun _ p hp=>by simp at hp;subst hp;simp⟩
 | box t x=>
  simp only[opE] at h
  split at h
  ·simp only[A0] at h
   subst h
   exact ⟨fun e=>by simp [cls] at e,fun _ p hp=>by simp at hp;subst hp;simp,fun _ p hp=>by simp at hp;subst hp;simp⟩
  ·simp at h
 | build t parts=>
  simp only[opE] at h
  split at h
  ·obtain ⟨cs,_,rfl⟩:=A1.1 h;exact nil rfl
  ·simp at h
 | buildSlice t len parts=>
  simp only[opE] at h
  split at h
  ·obtain ⟨⟨xs,ks,d⟩,h1,h⟩:=A7.1 h
   split at h
   ·simp only[A0] at h
    subst h
    rename_i e0 _ _ z hti hcond
    have hu:∀v∈parts.toList.map (fun p=>st.ev tt e0 p.2),svU U v:=fun v mv=>by obtain ⟨p,_,rfl⟩:=A2.1 mv;exact hU _ _
    have hk:=Zfw (U:=U) h1 hu
    refine ⟨fun e=>by simp only[cls] at e;split at e<;>simp at e,fun e p hp=>?_,fun e p hp=>?_⟩
    ·by_cases hs:parts.size=0
     ·have:parts=#[]:=by simpa using hs
      subst this
      simp [Y0] at h1
      obtain ⟨_,rfl,_⟩:=h1
      simp [ZS] at hp;subst hp;simp
     ·by_cases hf:ZuK (tt t)=true
      ·have hz:z.all ZjP=true:=by rw [hti] at hf;exact hf
       have hks:ks=[]:=by
        have h3:=hcond.2.2.2
        rw [hz] at h3
        simpa using h3
       subst hks
       simp [ZS] at hp;subst hp;simp
      ·simp [cls,hs,hf] at e
    ·rcases A5.1 hp with hp | hp
     ·obtain ⟨p1,p2⟩:=Zl1 hp
      exact .inr ⟨hk _ p1,p2⟩
     ·simp at hp;subst hp;simp
   ·simp at h
  ·simp at h
 | load t x=>exact nil (YZ h)
 | store t x v=>exact ⟨fun e=>by simp [cls] at e,fun e=>by simp [cls] at e,fun e=>by simp [cls] at e⟩
 | makeFunc fn first caps=>exact ⟨fun e=>by simp [cls] at e,fun e=>by simp [cls] at e,fun e=>by simp [cls] at e⟩
 | mapUpdate t x i v=>exact ⟨fun e=>by simp [cls] at e,fun e=>by simp [cls] at e,fun e=>by simp [cls] at e⟩
 | lookup t x i ok=>exact nil (YZ h)
 | makeMap t r=>
  cases r with
  | none=>
   simp only[opE,ZnF] at h
   split at h
   ·simp only[A0] at h
    subst h
    exact ⟨fun e=>by simp [cls] at e,fun _ p hp=>by simp at hp;subst hp;simp,fun _ p hp=>by simp at hp;subst hp;simp⟩
   ·simp at h
  | some _=>simp [opE] at h
 | nilCheck x=>
  simp only[opE] at h
  split at h<;>simp only[A0,reduceCtorEq] at h<;>exact nil (by rw [←h])
 | binOp op t x y t'=>exact nil (YZ h)
 | unOp op t x=>exact nil (YZ h)
 | convert s t x=>exact nil (YZ h)
 | makeSlice t n c=>
  simp only[opE,Zqt] at h
  split at h
  ·split at h
   ·obtain ⟨ze,_,h⟩:=A7.1 h
    split at h
    ·simp only[A0] at h
     subst h
     exact ⟨fun e=>by simp [cls] at e,fun _ p hp=>by simp at hp;subst hp;simp,fun _ p hp=>by simp at hp;subst hp;simp⟩
    ·simp at h
   ·simp at h
  ·simp at h
 | slice t x lo hi mx=>
  cases mx with
  | some _=>simp [opE] at h
  | none=>
   by_cases hstr:Zcq (tt t)=true
   ·have hns:Zbm (tt t)=false:=by
     unfold Zcq at hstr
     split at hstr
     ·rename_i e;rw [e];rfl
     ·simp at hstr
    refine nil ?_
    simp only[opE,ZaK] at h
    split at h
    ·simp [hns] at h
    ·obtain ⟨v,_,rfl⟩:=A1.1 h;rfl
    ·simp at h
   ·have hc:3≤cls tt hs (.slice t x lo hi none):=by simp only[cls];rw [if_neg hstr];split<;>omega
    refine ⟨fun e=>by simp only at e;omega,fun e=>by simp only at e;omega,fun e p hp=>?_⟩
    have hmv:∀d,mvS d (lo.map (st.ev tt 0)) (hi.map (st.ev tt 0))=false:=fun d=>by
     cases lo with
     | none=>rfl
     | some _=>cases hi with
      | none=>simp [cls,hstr] at e
      | some _=>rfl
    simp only[opE,ZaK] at h
    split at h
    ·rename_i k hv
     have hk:U k:=by
      have:=hU 0 x
      rw [hv] at this
      exact this (.row k) (by simp)
     split at h
     ·split at h
      ·rename_i hob
       split at h
       ·rw [hmv,if_neg (by simp)] at h
        obtain ⟨_,_,h⟩:=A7.1 h
        obtain ⟨_,_,rfl⟩:=A1.1 h
        simp at hp
        subst hp
        exact .inr ⟨hk,by rw [hob];rfl⟩
       ·simp at h
      ·simp at h
     ·simp at h
    ·obtain ⟨v,_,rfl⟩:=A1.1 h
     simp at hp
    ·simp at h
 | fieldAddr t x f=>
  simp only[opE] at h
  split at h
  ·exact nil (YZ h)
  ·simp at h
 | field t x f=>
  simp only[opE] at h
  split at h
  ·exact nil (YZ h)
  ·simp at h
 | indexAddr t x i=>
  simp only[opE] at h
  split at h
  ·exact nil (YZ h)
  ·simp at h
 | index t x i=>exact nil (YZ h)
 | extract x i=>exact nil (YZ h)
 | call c=>
  obtain ⟨callee,args,ts⟩:=c
  cases callee with
  | builtin b=>
   simp only[opE,Zp6] at h
   split at h
   ·exact nil (YZ h)
   ·exact ⟨fun e=>by simp [cls] at e,fun e=>by simp [cls] at e,fun e=>by simp [cls] at e⟩
   ·exact nil (YZ h)
   ·exact nil (YZ h)
   ·simp at h
  | value f=>simp [opE] at h
  | invoke r m=>simp [opE] at h
 | _=>simp [opE] at h
theorem ZaG {hs:FuncId→Nat} {o:Op} {c:FuncId × List TypeId × List Operand} (h:Y1 o=some c):cls tt hs o=if hs c.1=0∨hs c.1=4 then 1 else 4:=by
 unfold Y1 at h
 split at h
 ·simp only[A0] at h;rw [←h];rfl
 ·simp at h
theorem Zlo {o:Op} {c:Nat × List TypeId × List Operand} (h:Y7 o=some c):∃args ts,o=.call ⟨.value (.tmp c.1),args,ts⟩∧c.2.1=ts.toList∧c.2.2=args.toList:=by
 unfold Y7 at h
 split at h
 ·rename_i s args ts
  simp only[A0] at h
  rw [←h]
  exact ⟨args,ts,rfl,rfl,rfl⟩
 ·simp at h
theorem ZgP [NW] {hs:FuncId→Nat} {o:Op} {c:Nat × List TypeId × List Operand} (h:Y7 o=some c):cls tt hs o=4:=by
 obtain ⟨args,ts,rfl,_⟩:=Zlo h
 rfl
theorem Zlb [NW] (hU:∀t x,svU U (st.ev tt t x)) {all:List Oper} {o:Oper} {v:SV} {u:List (Nat × Ob)} (h:opR tt S all key o st v u):(cls tt S.hd o.op=0→u=[])∧(cls tt S.hd o.op≤2→∀p∈u,key≤p.1∧p.1<key+16)∧(cls tt S.hd o.op≤3→∀p∈u,(key≤p.1∧p.1<key+16)∨(U p.1∧p.2=Yd (st.ob p.1))):=by
 have nil:u=[]→(cls tt S.hd o.op=0→u=[])∧(cls tt S.hd o.op≤2→∀p∈u,key≤p.1∧p.1<key+16)∧(cls tt S.hd o.op≤3→∀p∈u,(key≤p.1∧p.1<key+16)∨(U p.1∧p.2=Yd (st.ob p.1))):=fun e=>⟨fun _=>e,fun _ p hp=>by simp [e] at hp,fun _ p hp=>by simp [e] at hp⟩
 have hRS:Za8 tt S key o st v u→(cls tt S.hd o.op=0→u=[])∧(cls tt S.hd o.op≤2→∀p∈u,key≤p.1∧p.1<key+16)∧(cls tt S.hd o.op≤3→∀p∈u,(key≤p.1∧p.1<key+16)∨(U p.1∧p.2=Yd (st.ob p.1))):=fun h=>by
  unfold Za8 at h
  split at h
  ·rename_i c hc
   by_cases h0:S.hd c.1=0∨S.hd c.1=4
   ·have h':∃res,(ZH key res).2.2≤key+16∧u=(ZH key res).2.1:=by
     rcases h0 with h0 | h0
     ·rw [h0] at h
      obtain ⟨l,res,_,_,_,h3,_,e⟩:=h
      exact ⟨res,h3,e⟩
     ·rw [h0] at h
      obtain ⟨l,res,_,_,_,h3,_,e⟩:=h
      exact ⟨res,h3,e⟩
    obtain ⟨res,h3,rfl⟩:=h'
    have hp:∀p∈(ZH key res).2.1,key≤p.1∧p.1<key+16:=fun p hp=>by
     have:=(ZgH res key).2 p hp
     omega
    exact ⟨fun e=>by rw [ZaG hc,if_pos h0] at e;simp at e,fun _=>hp,fun _ p m=>.inl (hp p m)⟩
   ·refine ⟨fun e=>by rw [ZaG hc,if_neg h0] at e;simp at e,fun e=>by rw [ZaG hc,if_neg h0] at e;simp at e,fun e=>by rw [ZaG hc,if_neg h0] at e;simp at e⟩
  ·split at h
   ·rename_i c hc
    have h4:=ZgP (tt:=tt) (hs:=S.hd) hc
    exact ⟨fun e=>by rw [h4] at e;simp at e,fun e=>by rw [h4] at e;simp at e,fun e=>by rw [h4] at e;simp at e⟩
   ·exact Zvf hU h
 unfold opR at h
 split at h
 ·exact hRS h
 ·exact nil h.2
 ·unfold gK at h
  split at h
  ·split at h
   ·exact hRS h
   ·exact nil h.2
  ·split at h
   ·exact nil h.2
   ·exact h.elim
theorem Zhq (h:st.ob=st'.ob):∀ks:List Nat,ZS st ks=ZS st' ks
 | []=>rfl
 | k::r=>by simp only[ZS,Zhq h r,h]
theorem ZC5 (s:SV):svU (fun _=>True) s:=by
 cases s<;>first | trivial | (intro y my;cases y<;>trivial) | (intro y my z mz;cases z<;>trivial)
theorem Zux [NW] (h:st.ob=st'.ob) (v:SV):ZfF st v=ZfF st' v:=by
 have ha:∀cs,YG st cs=YG st' cs:=fun cs=>ZgR (U:=fun _=>True) (fun k _=>.inl (by rw [h])) (fun x _=>by cases x<;>trivial)
 unfold ZfF
 split
 ·rw [h]
  split
  ·rw [ha]
  ·rfl
 ·rw [h]
 ·rfl
theorem ZlD [NW] (h:st.ob=st'.ob) {f:FuncId} {n:Nat} {vs:List SV} {v:SV} {u:List (Nat × Ob)}:ZaW S f n key st vs v u↔ZaW S f n key st' vs v u:=by
 have hs:∀xs,Z1 st xs=Z1 st' xs:=fun xs=>Zeg (U:=fun _=>True) (fun k _=>.inl (by rw [h])) (fun x _=>ZC5 x)
 unfold ZaW
 split
 ·simp only[hs]
 ·simp only[hs,Zux h,Zhq h]
 ·simp only[hs,Zhq h]
 ·simp only[hs]
 ·simp only[hs,Zhq h]
theorem Zuj [NW] {o:Oper} {v:SV} {u:List (Nat × Ob)} (hl:∀x∈o.op.operands,∀t,st.ev tt t x=st'.ev tt t x)
  (hob:cls tt S.hd o.op=0∨st.ob=st'.ob∨(∀t x,svU U (st.ev tt t x))∧((cls tt S.hd o.op≤3∧∀k,U k→st.ob k=st'.ob k)∨(cls tt S.hd o.op≤1∧Wk st st' U))):Za8 tt S key o st v u↔Za8 tt S key o st' v u:=by
 cases hc:Y1 o.op with
 | some c=>
  simp only[Za8,hc]
  have hop:∃args ts,o.op=.call ⟨.value (.func c.1),args,ts⟩∧c.2.1=ts.toList∧c.2.2=args.toList:=by
   unfold Y1 at hc
   split at hc
   ·rename_i f args ts he
    simp only[A0] at hc
    rw [←hc]
    exact ⟨args,ts,he,rfl,rfl⟩
   ·simp at hc
  obtain ⟨args,ts,ho,e1,e2⟩:=hop
  have hev:evs tt st c.2.1 c.2.2=evs tt st' c.2.1 c.2.2:=ZeW fun x m t=>hl x (by rw [ho];rw [e2] at m;simp [Op.operands,Call.operands];exact .inr (by simpa using m)) t
  rw [←hev]
  rcases hob with hc0 | hob | ⟨hu,hob⟩
  ·rw [ZaG hc] at hc0
   split at hc0<;>simp at hc0
  ·exact ZlD hob
  ·have hc1:cls tt S.hd o.op≤3:=by rcases hob with h | h<;>omega
   have hwk:Wk st st' U:=by
    rcases hob with h | h
    ·exact .of h.2
    ·exact h.2
   have h0:S.hd c.1=0∨S.hd c.1=4:=by
    rw [ZaG hc] at hc1
    split at hc1
    ·assumption
    ·simp at hc1
   have hev0:∀x∈evs tt st c.2.1 c.2.2,svU U x:=fun x hx=>by
    obtain ⟨p,_,rfl⟩:=A2.1 hx
    exact hu _ _
   rcases h0 with h0 | h0
   ·have hsv:Z1 st (evs tt st c.2.1 c.2.2)=Z1 st' (evs tt st c.2.1 c.2.2):=Zeg (U:=U) hwk hev0
    rw [h0]
    simp only[ZaW,hsv]
   ·have hsv:Z1 st ((evs tt st c.2.1 c.2.2).map nlS)=Z1 st' ((evs tt st c.2.1 c.2.2).map nlS):=Zeg (U:=U) hwk (fun x hx=>by
     obtain ⟨y,my,rfl⟩:=A2.1 hx
     exact ZuN (hev0 y my))
    rw [h0]
    simp only[ZaW,hsv]
 | none=>
  simp only[Za8,hc]
  have:opE tt key o st=opE tt key o st':=by
   obtain ⟨sl,ob,n⟩:=st
   obtain ⟨sl',ob',n'⟩:=st'
   have s1:opE tt key o ⟨sl',ob',n'⟩=opE tt key o ⟨sl,ob',n⟩:=Znw fun x m t=>by
    rw [←hl x m t];exact Ztl _ _ _ _ _ _ _
   rw [s1]
   rcases hob with hc | hob | ⟨hu,⟨hc,hob⟩ | ⟨hc,hob⟩⟩
   ·exact ZkR (U:=U) (.inl hc)
   ·simp only at hob;subst hob;rfl
   ·exact ZkR (U:=U) (.inr (.inl ⟨hc,hob,hu⟩))
   ·exact ZkR (U:=U) (.inr (.inr ⟨hc,hob,hu⟩))
  cases hd:Y7 o.op with
  | none=>simp only[this]
  | some c=>
   simp only
   obtain ⟨args,ts,ho,e1,e2⟩:=Zlo hd
   have hev:evs tt st c.2.1 c.2.2=evs tt st' c.2.1 c.2.2:=ZeW fun x m t=>hl x (by rw [ho];rw [e2] at m;simp [Op.operands,Call.operands];exact .inr (by simpa using m)) t
   have hsl:st.sl c.1=st'.sl c.1:=hl (.tmp c.1) (by rw [ho];simp [Op.operands,Call.operands]) 0
   have h4:=ZgP (tt:=tt) (hs:=S.hd) hd
   rcases hob with h0 | h0 | ⟨_,⟨h0,_⟩ | ⟨h0,_⟩⟩
   ·omega
   ·rw [hev,hsl]
    constructor
    ·rintro ⟨fc,f1,f2,f3⟩;exact ⟨fc,f1,f2,(ZlD h0).1 f3⟩
    ·rintro ⟨fc,f1,f2,f3⟩;exact ⟨fc,f1,f2,(ZlD h0).2 f3⟩
   ·omega
   ·omega
theorem ZeT [NW] {ops:Array Oper} {o:Oper} {v:SV} {u:List (Nat × Ob)} (hl:∀s∈o.looksAt ops,st.sl s=st'.sl s)
  (hob:cls tt S.hd o.op=0∨st.ob=st'.ob∨(∀t x,svU U (st.ev tt t x))∧((cls tt S.hd o.op≤3∧∀k,U k→st.ob k=st'.ob k)∨(cls tt S.hd o.op≤1∧Wk st st' U))):opR tt S ops.toList key o st v u↔opR tt S ops.toList key o st' v u:=by
 have hl':∀x∈o.op.operands,∀t,st.ev tt t x=st'.ev tt t x:=fun x m t=>by
  cases x with
  | tmp s=>exact hl s (by
    unfold Oper.looksAt
    refine A5.2 (.inl (Ae.2 ⟨.tmp s,by simpa using m,rfl⟩)))
  | _=>rfl
 have h1:=Zuj (S:=S) (key:=key) (v:=v) (u:=u) hl' hob
 unfold opR
 cases hg:Zao ops.toList o with
 | none=>exact h1
 | some q=>
  obtain ⟨q,want⟩:=q
  cases q with
  | none=>rfl
  | some t=>
   have ht:st.sl t=st'.sl t:=hl t (by
    unfold Zao at hg
    split at hg
    ·simp at hg
    ·rename_i g hgd
     simp only[A0,A3] at hg
     unfold Oper.looksAt
     refine A5.2 (.inr ?_)
     rw [hgd]
     have:(ops[g.1]?).bind (·.dst)=some t:=by simpa using hg.1
     simp [this])
   simp only[gK,ht,h1]
theorem ZDW [NW] (hU:StU U st) (t:Nat) (x:Operand):svU U (st.ev tt t x):=by
 cases x with
 | tmp s=>exact hU.sl s
 | const v=>
  show svU U (cvT (tt t) v)
  unfold cvT
  split
  ·exact Xn _
  ·exact Xn _
  ·split
   ·exact Xn _
   ·trivial
  ·split
   ·intro y m;simp at m;subst m;trivial
   ·trivial
  ·trivial
 | global _=>trivial
 | func _=>trivial
theorem XI [NW]:∀{u:List (Nat × Ob)} {ob:Nat→Ob} {k:Nat},(∀p∈u,p.1≠k)→Zp ob u k=ob k
 | [],_,_,_=>rfl
 | p::r,ob,k,h=>by
  rw [Zp,XI fun q m=>h q (by simp [m])]
  exact ZN _ _ fun e=>h p (by simp) e.symm
theorem ZjL [NW]:∀{u:List (Nat × Ob)} {ob ob':Nat→Ob} {k:Nat},(∃p∈u,p.1=k)→Zp ob u k=Zp ob' u k
 | [],_,_,_,h=>by simp at h
 | p::r,ob,ob',k,h=>by
  rw [Zp,Zp]
  by_cases hr:∃q∈r,q.1=k
  ·exact ZjL hr
  ·have hn:∀q∈r,q.1≠k:=fun q m e=>hr ⟨q,m,e⟩
   rw [XI hn,XI hn]
   obtain ⟨q,mq,e⟩:=h
   rcases A6.1 mq with rfl | mq
   ·rw [←e,ZD,ZD]
   ·exact absurd e (hn q mq)
theorem ZqX [NW] {u1 u2:List (Nat × Ob)} {ob:Nat→Ob} (h:∀p∈u1,∀q∈u2,p.1≠q.1):Zp (Zp ob u1) u2=Zp (Zp ob u2) u1:=by
 funext k
 by_cases h1:∃p∈u1,p.1=k
 ·obtain ⟨p,mp,rfl⟩:=h1
  rw [XI fun q mq e=>h p mp q mq e.symm]
  exact ZjL ⟨p,mp,rfl⟩
 ·have hn:∀q∈u1,q.1≠k:=fun q m e=>h1 ⟨q,m,e⟩
  rw [XI (ob:=Zp ob u2) hn]
  by_cases h2:∃p∈u2,p.1=k
  ·exact ZjL h2
  ·have hn2:∀q∈u2,q.1≠k:=fun q m e=>h2 ⟨q,m,e⟩
   rw [XI hn2,XI hn2,XI hn]
theorem Zck [NW] (st:St) (d:Option Nat) (v:SV) (s:Nat) (h:∀t,d=some t→s≠t):(st.put d v).sl s=st.sl s:=by
 cases d with
 | none=>rfl
 | some t=>exact ZN _ _ (h t rfl)
theorem ZaM (st:St) (d:Option Nat) (v:SV):(st.put d v).ob=st.ob:=by cases d<;>rfl
theorem ZrI (st:St) (d:Option Nat) (v:SV):(st.put d v).n=st.n:=by cases d<;>rfl
theorem Zov (st:St) (d e:Option Nat) (v u:SV) (h:∀t,d=some t→e≠some t):((st.put d v).put e u).sl=((st.put e u).put d v).sl:=by
 cases d with
 | none=>rfl
 | some t=>cases e with
  | none=>rfl
  | some s=>
   have hne:t≠s:=fun e=>h t rfl (e ▸ rfl)
   funext k
   show upd (upd st.sl t v) s u k=upd (upd st.sl s u) t v k
   unfold upd
   by_cases h1:k=s
   ·by_cases h2:k=t
    ·exact absurd (h2.symm.trans h1) hne
    ·have hst:¬s=t:=fun e=>hne e.symm
     simp [h1,hst]
   ·simp [h1]
def Zt4 (tt:Nat→Option TI):Op→Bool
 | .slice t _ (some _) none none=>!Zcq (tt t)
 | .call ⟨.builtin .append,_,_⟩=>true
 | _=>false
theorem ZkV [NW] {ops:Array Oper} {o:Oper} {v:SV} {u:List (Nat × Ob)} (hl:∀s∈o.looksAt ops,st.sl s=st'.sl s) (h1:Za8 tt S key o st' v u→Za8 tt S key o st v u) (h:opR tt S ops.toList key o st' v u):opR tt S ops.toList key o st v u:=by
 unfold opR at h ⊢
 cases hg:Zao ops.toList o with
 | none=>rw [hg] at h;exact h1 h
 | some q=>
  obtain ⟨q,want⟩:=q
  rw [hg] at h
  cases q with
  | none=>exact h
  | some t=>
   have ht:st.sl t=st'.sl t:=hl t (by
    unfold Zao at hg
    split at hg
    ·simp at hg
    ·rename_i g hgd
     simp only[A0,A3] at hg
     unfold Oper.looksAt
     refine A5.2 (.inr ?_)
     rw [hgd]
     have:(ops[g.1]?).bind (·.dst)=some t:=by simpa using hg.1
     simp [this])
   simp only[gK,ht] at h ⊢
   split at h
   ·rename_i hb
    rw [if_pos hb]
    split at h
    ·rename_i hb2;rw [if_pos hb2];exact h1 h
    ·rename_i hb2;rw [if_neg hb2];exact h
   ·rename_i hb
    rw [if_neg hb]
    exact h
theorem ZeO {ops:Array Oper} {o:Oper} (hl:∀s∈o.looksAt ops,st.sl s=st'.sl s):∀x∈o.op.operands,∀t,st.ev tt t x=st'.ev tt t x:=fun x m t=>by
 cases x with
 | tmp s=>exact hl s (by
   unfold Oper.looksAt
   refine A5.2 (.inl (Ae.2 ⟨.tmp s,by simpa using m,rfl⟩)))
 | _=>rfl
theorem ZtW [NW] {o:Oper} {v:SV} {u:List (Nat × Ob)} (hl:∀x∈o.op.operands,∀t,st.ev tt t x=st'.ev tt t x) (hc1:cls tt S.hd o.op≤1) (hu:∀t x,svU U (st.ev tt t x)) (hob:Mk st st' U) (h:Za8 tt S key o st' v u):Za8 tt S key o st v u:=by
 cases hc:Y1 o.op with
 | some c=>
  simp only[Za8,hc] at h ⊢
  have hop:∃args ts,o.op=.call ⟨.value (.func c.1),args,ts⟩∧c.2.1=ts.toList∧c.2.2=args.toList:=by
   unfold Y1 at hc
   split at hc
   ·rename_i f args ts he
    simp only[A0] at hc
    rw [←hc]
    exact ⟨args,ts,he,rfl,rfl⟩
   ·simp at hc
  obtain ⟨args,ts,ho,e1,e2⟩:=hop
  have hev:evs tt st c.2.1 c.2.2=evs tt st' c.2.1 c.2.2:=ZeW fun x m t=>hl x (by rw [ho];rw [e2] at m;simp [Op.operands,Call.operands];exact .inr (by simpa using m)) t
  rw [←hev] at h
  have h0:S.hd c.1=0∨S.hd c.1=4:=by
   rw [ZaG hc] at hc1
   split at hc1
   ·assumption
   ·simp at hc1
  have hev0:∀x∈evs tt st c.2.1 c.2.2,svU U x:=fun x hx=>by
   obtain ⟨p,_,rfl⟩:=A2.1 hx
   exact hu _ _
  rcases h0 with h0 | h0
  ·rw [h0] at h ⊢
   simp only[ZaW] at h ⊢
   obtain ⟨al,res,h1,h2⟩:=h
   exact ⟨al,res,Zgs hob hev0 h1,h2⟩
  ·rw [h0] at h ⊢
   simp only[ZaW] at h ⊢
   obtain ⟨al,res,h1,h2⟩:=h
   exact ⟨al,res,Zgs hob (fun x hx=>by
    obtain ⟨y,my,rfl⟩:=A2.1 hx
    exact ZuN (hev0 y my)) h1,h2⟩
 | none=>
  simp only[Za8,hc] at h ⊢
  cases hd:Y7 o.op with
  | some c=>have h4:=ZgP (tt:=tt) (hs:=S.hd) hd;omega
  | none=>
   rw [hd] at h
   simp only at h ⊢
   obtain ⟨sl,ob,n⟩:=st
   obtain ⟨sl',ob',n'⟩:=st'
   have s1:opE tt key o ⟨sl',ob',n'⟩=opE tt key o ⟨sl,ob',n⟩:=Znw fun x m t=>by
    rw [←hl x m t];exact Ztl _ _ _ _ _ _ _
   rw [s1] at h
   exact Zv1 hc1 hob hu h
theorem ZxY {o:Op} (h:Zt4 tt o=true):(∃t x lo,o=.slice t x (some lo) none none∧Zcq (tt t)=false)∨∃args ts,o=.call ⟨.builtin .append,args,ts⟩:=by
 unfold Zt4 at h
 split at h
 ·exact .inl ⟨_,_,_,rfl,by simpa using h⟩
 ·exact .inr ⟨_,_,rfl⟩
 ·simp at h
theorem ZNf [NW] {s:SV} {a:List (List CT) × List Nat × Nat} (hs:svU U s) (h:ZoV st s=some a):∀k∈a.2.1,U k:=by
 unfold ZoV at h
 split at h
 ·simp only[A0] at h;rw [←h];simp
 ·split at h
  ·split at h
   ·simp at h
   ·simp only[A0] at h
    rw [←h]
    intro k hk
    simp only[A6,AJ,or_false] at hk
    subst hk
    exact hs (.row _) (by simp)
  ·simp at h
 ·simp at h
theorem ZNh [NW] {fl:Bool} {s:SV} {a:List (List CT) × List Nat × Nat} (hs:svU U s) (h:Zpd st fl s=some a):∀k∈a.2.1,U k:=by
 unfold Zpd at h
 split at h
 ·simp only[A0] at h;rw [←h];simp
 ·simp only[A0] at h;rw [←h];simp
 ·split at h
  ·split at h
   ·simp only[A0] at h;rw [←h];simp
   ·simp only[A0] at h
    rw [←h]
    intro k hk
    simp only[A6,AJ,or_false] at hk
    subst hk
    exact hs (.row _) (by simp)
  ·simp at h
 ·simp at h
theorem ZNe [NW] {t:Option TI} {s x:SV} (hs:svU U s) (hx:svU U x) (hob:∀k,U k→st.ob k=st'.ob k):ZxI st key t s x=ZxI st' key t s x:=by
 have e1:ZoV st s=ZoV st' s:=by
  unfold ZoV
  split
  ·rfl
  ·rename_i k
   rw [hob k (hs (.row k) (by simp))]
  ·rfl
 have e2:∀fl,Zpd st fl x=Zpd st' fl x:=fun fl=>by
  unfold Zpd
  split
  ·rfl
  ·rfl
  ·rename_i k
   rw [hob k (hx (.row k) (by simp))]
  ·rfl
 have e3:∀e m,Zs2 st e m s=Zs2 st' e m s:=fun e m=>by
  unfold Zs2
  split
  ·rename_i k
   rw [hob k (hs (.row k) (by simp))]
  ·rfl
  ·rfl
 have e4:∀m,ZqI st m x=ZqI st' m x:=fun m=>by
  unfold ZqI
  split
  ·rename_i k
   rw [hob k (hx (.row k) (by simp))]
  ·rfl
  ·rfl
  ·rfl
 unfold ZxI
 split
 ·simp only[e1,e2,e3,e4]
 ·rfl
theorem ZNc {ts:List TypeId} {vs:List SV} {r:SV × List (Nat × Ob)} (h:Zp6 tt st key .append ts vs=some r):∃t s x,ts=[t,t]∧vs=[s,x]∧ZxI st key (tt t) s x=some r:=by
 match ts,vs,h with
 | [t,u],[s,x],h=>
  simp only[Zp6] at h
  split at h
  ·rename_i e;subst e;exact ⟨t,s,x,rfl,rfl,h⟩
  ·simp at h
 | [],_,h=>simp [Zp6] at h
 | [_],_,h=>simp [Zp6] at h
 | _::_::_::_,_,h=>simp [Zp6] at h
 | [_,_],[],h=>simp [Zp6] at h
 | [_,_],[_],h=>simp [Zp6] at h
 | [_,_],_::_::_::_,h=>simp [Zp6] at h
theorem Zxr [NW] {o:Oper} {v:SV} {u:List (Nat × Ob)} (hm:Zt4 tt o.op=true) (hU:∀t x,svU U (st.ev tt t x)) (h:Za8 tt S key o st v u):(∀p∈u,(key≤p.1∧p.1<key+16)∨(U p.1∧(p.2=st.ob p.1∨p.2=.gone))):=by
 obtain ⟨dst,op,ty,pos,af,gd⟩:=o
 obtain ⟨t,x,lo,ho,hs⟩ | ⟨args,ts,ho⟩:=ZxY hm
 rotate_left
 ·simp only at ho
  subst ho
  have h':Zp6 tt st key .append ts.toList (evs tt st ts.toList args.toList)=some (v,u):=h
  obtain ⟨t,s,x,_,he,h'⟩:=ZNc h'
  have hmem:svU U s∧svU U x:=by
   have hall:∀y∈evs tt st ts.toList args.toList,svU U y:=fun y my=>by
    obtain ⟨p,_,rfl⟩:=A2.1 my
    exact hU _ _
   exact ⟨hall s (by rw [he];simp),hall x (by rw [he];simp)⟩
  unfold ZxI at h'
  split at h'
  ·obtain ⟨a,h1,h'⟩:=A7.1 h'
   obtain ⟨b,h2,h'⟩:=A7.1 h'
   split at h'
   ·simp only[A0,A3] at h'
    rw [←h'.2]
    intro p hp
    rcases A5.1 hp with hp | hp
    ·obtain ⟨k,mk,rfl⟩:=A2.1 hp
     refine .inr ⟨?_,.inr rfl⟩
     rcases A5.1 mk with mk | mk
     ·exact ZNf hmem.1 h1 k mk
     ·exact ZNh hmem.2 h2 k mk
    ·simp only[A6,AJ,or_false] at hp
     subst hp
     exact .inl ⟨A4 _,by simp only;omega⟩
   ·simp at h'
  ·simp at h'
 simp only at ho
 subst ho
 have h':opE tt key ⟨dst,.slice t x (some lo) none none,ty,pos,af,gd⟩ st=some (v,u):=h
 simp only[opE,ZaK,AE,AD] at h'
 intro p hp
 split at h'
 ·rename_i k hv
  have hk:U k:=by
   have:=hU 0 x
   rw [hv] at this
   exact this (.row k) (by simp)
  split at h'
  ·split at h'
   ·rename_i hob
    split at h'
    ·split at h'
     ·obtain ⟨l,_,e⟩:=A1.1 h'
      simp only[A3] at e
      rw [←e.2] at hp
      simp only[A6,AJ,or_false] at hp
      rcases hp with rfl | rfl
      ·exact .inr ⟨hk,.inr rfl⟩
      ·exact .inl ⟨A4 _,by simp only;omega⟩
     ·rename_i hmv
      obtain ⟨_,_,h'⟩:=A7.1 h'
      obtain ⟨_,_,e⟩:=A1.1 h'
      simp only[A3] at e
      rw [←e.2] at hp
      simp only[A6,AJ,or_false] at hp
      subst hp
      refine .inr ⟨hk,.inl ?_⟩
      simp only[mvS] at hmv
      split at hmv
      ·rename_i hd;rw [hob,hd]
      ·simp at hmv
    ·simp at h'
   ·simp at h'
  ·simp at h'
 ·obtain ⟨_,_,e⟩:=A1.1 h'
  simp only[A3] at e
  rw [←e.2] at hp
  simp at hp
 ·simp at h'
theorem ZxQ [NW] {o:Oper} {v:SV} {u:List (Nat × Ob)} (hm:Zt4 tt o.op=true) (hl:∀x∈o.op.operands,∀t,st.ev tt t x=st'.ev tt t x) (hU:∀t x,svU U (st'.ev tt t x)) (hob:∀k,U k→st.ob k=st'.ob k) (h:Za8 tt S key o st' v u):Za8 tt S key o st v u:=by
 obtain ⟨dst,op,ty,pos,af,gd⟩:=o
 obtain ⟨t,x,lo,ho,hs⟩ | ⟨args,ts,ho⟩:=ZxY hm
 rotate_left
 ·simp only at ho
  subst ho
  have h':Zp6 tt st' key .append ts.toList (evs tt st' ts.toList args.toList)=some (v,u):=h
  show Zp6 tt st key .append ts.toList (evs tt st ts.toList args.toList)=some (v,u)
  have hev:evs tt st ts.toList args.toList=evs tt st' ts.toList args.toList:=ZeW fun x m t=>hl x (by simpa [Op.operands,Call.operands] using m) t
  have hall:∀y∈evs tt st' ts.toList args.toList,svU U y:=fun y my=>by
   obtain ⟨p,_,rfl⟩:=A2.1 my
   exact hU _ _
  obtain ⟨t,s,x,et,he,h'⟩:=ZNc h'
  rw [hev,he,et]
  rw [he] at hall
  show (if t=t then ZxI st key (tt t) s x else none)=_
  rw [if_pos rfl,ZNe (hall s (by simp)) (hall x (by simp)) hob,h']
 simp only at ho
 subst ho
 have h':opE tt key ⟨dst,.slice t x (some lo) none none,ty,pos,af,gd⟩ st'=some (v,u):=h
 show opE tt key ⟨dst,.slice t x (some lo) none none,ty,pos,af,gd⟩ st=some (v,u)
 have e1:=hl x (by simp [Op.operands]) 0
 have e2:=hl lo (by simp [Op.operands]) 0
 simp only[opE,AE,AD,e1,e2] at h' ⊢
 rw [←h']
 have hx:=hU 0 x
 unfold ZaK
 split
 ·rename_i k hv
  rw [hv] at hx
  have hk:U k:=hx (.row k) (by simp)
  simp only[hob k hk]
 ·rfl
 ·rfl
theorem Zhd [NW] {ops:List Oper} {o:Oper} {v:SV} {u:List (Nat × Ob)} {C:Prop} (h:opR tt S ops key o st v u) (h1:Za8 tt S key o st v u→C) (h2:u=[]→C):C:=by
 unfold opR at h
 split at h
 ·exact h1 h
 ·exact h2 h.2
 ·unfold gK at h
  split at h
  ·split at h
   ·exact h1 h
   ·exact h2 h.2
  ·split at h
   ·exact h2 h.2
   ·exact h.elim
def Ztj (tt:Nat→Option TI) (hs:FuncId→Nat) (x y:Op):Bool:=cls tt hs x==0||cls tt hs y==0||(Nat.ble (cls tt hs x) 2&&Nat.ble (cls tt hs y) 2)||(Nat.ble (cls tt hs x) 1&&Nat.ble (cls tt hs y) 3)||(Nat.ble (cls tt hs x) 3&&Nat.ble (cls tt hs y) 1)||(Zt4 tt x&&Nat.ble (cls tt hs y) 1)
theorem comm [NW] {ops:Array Oper} {oi oj:Oper} {ki kj:Nat} {vi vj:SV} {ui uj:List (Nat × Ob)} (hap:oi.apart ops oj=true) (hc:Ztj tt S.hd oi.op oj.op=true) (hU:StU U st) (hki:∀k,ki≤k→k<ki+16→¬U k) (hkj:∀k,kj≤k→k<kj+16→¬U k) (hdis:ki+16≤kj∨kj+16≤ki)
  (h:opR tt S ops.toList ki oi st vi ui) (h':opR tt S ops.toList kj oj ((st.put oi.dst vi).app ui) vj uj):
  opR tt S ops.toList kj oj st vj uj∧opR tt S ops.toList ki oi ((st.put oj.dst vj).app uj) vi ui∧((((st.put oi.dst vi).app ui).put oj.dst vj).app uj)=((((st.put oj.dst vj).app uj).put oi.dst vi).app ui):=by
 obtain ⟨a1,a2,a3⟩:=Oper.apart_spec hap
 have hev:∀t x,svU U (st.ev tt t x):=fun t x=>ZDW hU t x
 obtain ⟨i1,i2,i3⟩:=Zlb (U:=U) hev h
 have eqs:(∀p∈ui,∀q∈uj,p.1≠q.1)→((((st.put oi.dst vi).app ui).put oj.dst vj).app uj)=((((st.put oj.dst vj).app uj).put oi.dst vi).app ui):=fun hne=>by
  have hsl:((((st.put oi.dst vi).app ui).put oj.dst vj).app uj).sl=((((st.put oj.dst vj).app uj).put oi.dst vi).app ui).sl:=by
   have e1:∀(s:St) (u:List (Nat × Ob)) (d:Option Nat) (v:SV),((s.app u).put d v).sl=(s.put d v).sl:=fun s u d v=>by cases d<;>rfl
   show (((st.put oi.dst vi).app ui).put oj.dst vj).sl=(((st.put oj.dst vj).app uj).put oi.dst vi).sl
   rw [e1,e1]
   exact Zov st _ _ _ _ fun t ht=>a2 t ht
  have hobs:((((st.put oi.dst vi).app ui).put oj.dst vj).app uj).ob=((((st.put oj.dst vj).app uj).put oi.dst vi).app ui).ob:=by
   show Zp (((st.put oi.dst vi).app ui).put oj.dst vj).ob uj=Zp (((st.put oj.dst vj).app uj).put oi.dst vi).ob ui
   rw [ZaM,ZaM]
   show Zp (Zp (st.put oi.dst vi).ob ui) uj=Zp (Zp (st.put oj.dst vj).ob uj) ui
   rw [ZaM,ZaM]
   exact ZqX hne
  have hn:((((st.put oi.dst vi).app ui).put oj.dst vj).app uj).n=((((st.put oj.dst vj).app uj).put oi.dst vi).app ui).n:=by
   show (((st.put oi.dst vi).app ui).put oj.dst vj).n=(((st.put oj.dst vj).app uj).put oi.dst vi).n
   rw [ZrI,ZrI]
   show (st.put oi.dst vi).n=(st.put oj.dst vj).n
   rw [ZrI,ZrI]
  generalize ((((st.put oi.dst vi).app ui).put oj.dst vj).app uj)=s1 at hsl hobs hn ⊢
  generalize ((((st.put oj.dst vj).app uj).put oi.dst vi).app ui)=s2 at hsl hobs hn ⊢
  cases s1;cases s2
  simp only at hsl hobs hn
  subst hsl hobs hn
  rfl
 by_cases hmv:Zt4 tt oi.op=true∧cls tt S.hd oj.op≤1
 ·obtain ⟨hm,hj⟩:=hmv
  have hui:∀p∈ui,(ki≤p.1∧p.1<ki+16)∨(U p.1∧(p.2=st.ob p.1∨p.2=.gone)):=Zhd h (fun h=>Zxr hm hev h) fun e p hp=>by rw [e] at hp;simp at hp
  have hmk:Mk st ((st.put oi.dst vi).app ui) U:=fun k hk=>by
   show Zp (st.put oi.dst vi).ob ui k=st.ob k∨Zp (st.put oi.dst vi).ob ui k=.gone
   rw [ZaM]
   have gen:∀(u:List (Nat × Ob)) (ob:Nat→Ob),(∀p∈u,(ki≤p.1∧p.1<ki+16)∨(U p.1∧(p.2=st.ob p.1∨p.2=.gone)))→(ob k=st.ob k∨ob k=.gone)→(Zp ob u k=st.ob k∨Zp ob u k=.gone):=by
    intro u
    induction u with
    | nil=>intro ob _ h;exact h
    | cons p u ih=>
     intro ob hp h
     refine ih _ (fun x mx=>hp x (by simp [mx])) ?_
     by_cases hpk:k=p.1
     ·rcases hp p (by simp) with h1 | h1
      ·exact absurd (hpk ▸ hk) (hki p.1 h1.1 h1.2)
      ·rw [hpk,ZD];exact h1.2
     ·rw [ZN _ _ hpk];exact h
   exact gen ui st.ob hui (.inl rfl)
  have hlj:∀s∈oj.looksAt ops,st.sl s=((st.put oi.dst vi).app ui).sl s:=fun s ms=>(Zck st oi.dst vi s fun t ht e=>a1 t ht (e ▸ ms)).symm
  have hA:opR tt S ops.toList kj oj st vj uj:=ZkV hlj (ZtW (ZeO hlj) hj hev hmk) h'
  obtain ⟨_,j2,_⟩:=Zlb (U:=U) hev hA
  have hlk:∀s∈oi.looksAt ops,((st.put oj.dst vj).app uj).sl s=st.sl s:=fun s ms=>Zck st oj.dst vj s fun t ht e=>a3 t ht (e ▸ ms)
  have hag:∀k,U k→((st.put oj.dst vj).app uj).ob k=st.ob k:=fun k hk=>by
   show Zp (st.put oj.dst vj).ob uj k=st.ob k
   rw [ZaM]
   exact XI fun p mp e=>hkj p.1 (j2 (by omega) p mp).1 (j2 (by omega) p mp).2 (e ▸ hk)
  refine ⟨hA,ZkV hlk (ZxQ hm (ZeO hlk) hev hag) h,eqs fun p mp q mq e=>?_⟩
  have h2:=j2 (by omega) q mq
  rcases hui p mp with h1 | h1
  ·omega
  ·exact hkj q.1 h2.1 h2.2 (e ▸ h1.1)
 have hcl:cls tt S.hd oi.op=0∨cls tt S.hd oj.op=0∨(cls tt S.hd oi.op≤2∧cls tt S.hd oj.op≤2)∨(cls tt S.hd oi.op≤1∧cls tt S.hd oj.op≤3)∨(cls tt S.hd oi.op≤3∧cls tt S.hd oj.op≤1):=by
  unfold Ztj at hc
  simp only[AF,beq_iff_eq,A9] at hc
  rcases hc with ((((hc | hc) | hc) | hc) | hc) | hc
  ·exact .inl hc
  ·exact .inr (.inl hc)
  ·exact .inr (.inr (.inl ⟨AA hc.1,AA hc.2⟩))
  ·exact .inr (.inr (.inr (.inl ⟨AA hc.1,AA hc.2⟩)))
  ·exact .inr (.inr (.inr (.inr ⟨AA hc.1,AA hc.2⟩)))
  ·exact absurd ⟨hc.1,AA hc.2⟩ hmv
 have agree:∀{u:List (Nat × Ob)} {q:Nat},(∀p∈u,q≤p.1∧p.1<q+16)→(∀k,q≤k→k<q+16→¬U k)→∀k,U k→st.ob k=Zp st.ob u k:=fun hu hq k hk=>(XI fun p mp e=>hq p.1 (hu p mp).1 (hu p mp).2 (e ▸ hk)).symm
 have weak:∀{u:List (Nat × Ob)} {q:Nat},(∀p∈u,(q≤p.1∧p.1<q+16)∨(U p.1∧p.2=Yd (st.ob p.1)))→(∀k,q≤k→k<q+16→¬U k)→∀k,U k→Zp st.ob u k=st.ob k∨Zp st.ob u k=Yd (st.ob k):=fun {u q} hu hq k hk=>by
  have gen:∀(u:List (Nat × Ob)) (ob:Nat→Ob),(∀p∈u,(q≤p.1∧p.1<q+16)∨(U p.1∧p.2=Yd (st.ob p.1)))→(ob k=st.ob k∨ob k=Yd (st.ob k))→(Zp ob u k=st.ob k∨Zp ob u k=Yd (st.ob k)):=by
   intro u
   induction u with
   | nil=>intro ob _ h;exact h
   | cons p u ih=>
    intro ob hp h
    refine ih _ (fun x mx=>hp x (by simp [mx])) ?_
    by_cases hpk:k=p.1
    ·rcases hp p (by simp) with h1 | h1
     ·exact absurd (hpk ▸ hk) (hq p.1 h1.1 h1.2)
     ·right;rw [hpk,ZD];exact h1.2
    ·rw [ZN _ _ hpk];exact h
  exact gen u st.ob hu (.inl rfl)
 have hA:opR tt S ops.toList kj oj st vj uj:=by
  refine (ZeT (U:=U) (st:=st) (st':=(st.put oi.dst vi).app ui) (fun s ms=>(Zck st oi.dst vi s fun t ht e=>a1 t ht (e ▸ ms)).symm) ?_).2 h'
  show cls tt S.hd oj.op=0∨st.ob=Zp (st.put oi.dst vi).ob ui∨_∧((cls tt S.hd oj.op≤3∧∀k,U k→st.ob k=Zp (st.put oi.dst vi).ob ui k)∨(cls tt S.hd oj.op≤1∧∀k,U k→Zp (st.put oi.dst vi).ob ui k=st.ob k∨Zp (st.put oi.dst vi).ob ui k=Yd (st.ob k)))
  rw [ZaM]
  rcases hcl with hcl | hcl | ⟨c1,c2⟩ | ⟨c1,c2⟩ | ⟨c1,c2⟩
  ·right;left;rw [i1 hcl];rfl
  ·left;exact hcl
  ·right;right;exact ⟨hev,.inl ⟨by omega,agree (i2 c1) hki⟩⟩
  ·right;right;exact ⟨hev,.inl ⟨c2,agree (i2 (by omega)) hki⟩⟩
  ·right;right;exact ⟨hev,.inr ⟨c2,weak (i3 c1) hki⟩⟩
 obtain ⟨j1',j2',j3'⟩:=Zlb (U:=U) hev hA
 refine ⟨hA,?_,?_⟩
 ·refine (ZeT (U:=U) (st:=st) (st':=(st.put oj.dst vj).app uj) (fun s ms=>(Zck st oj.dst vj s fun t ht e=>a3 t ht (e ▸ ms)).symm) ?_).1 h
  show cls tt S.hd oi.op=0∨st.ob=Zp (st.put oj.dst vj).ob uj∨_∧((cls tt S.hd oi.op≤3∧∀k,U k→st.ob k=Zp (st.put oj.dst vj).ob uj k)∨(cls tt S.hd oi.op≤1∧∀k,U k→Zp (st.put oj.dst vj).ob uj k=st.ob k∨Zp (st.put oj.dst vj).ob uj k=Yd (st.ob k)))
  rw [ZaM]
  rcases hcl with hcl | hcl | ⟨c1,c2⟩ | ⟨c1,c2⟩ | ⟨c1,c2⟩
  ·left;exact hcl
  ·right;left;rw [j1' hcl];rfl
  ·right;right;exact ⟨hev,.inl ⟨by omega,agree (j2' c2) hkj⟩⟩
  ·right;right;exact ⟨hev,.inr ⟨c1,weak (j3' c2) hkj⟩⟩
  ·right;right;exact ⟨hev,.inl ⟨c1,agree (j2' (by omega)) hkj⟩⟩
 ·rcases hcl with hcl | hcl | ⟨c1,c2⟩ | ⟨c1,c2⟩ | ⟨c1,c2⟩
  ·exact eqs fun p mp=>by rw [i1 hcl] at mp;simp at mp
  ·exact eqs fun p mp q mq=>by rw [j1' hcl] at mq;simp at mq
  ·refine eqs fun p mp q mq e=>?_
   have:=i2 c1 p mp
   have:=j2' c2 q mq
   omega
  ·refine eqs fun p mp q mq e=>?_
   have h1:=i2 (by omega) p mp
   rcases j3' c2 q mq with h2 | h2
   ·omega
   ·exact hki p.1 h1.1 h1.2 (e ▸ h2.1)
  ·refine eqs fun p mp q mq e=>?_
   have h1:=j2' (by omega) q mq
   rcases i3 c1 p mp with h2 | h2
   ·omega
   ·exact hkj q.1 h1.1 h1.2 (e ▸ h2.1)
/- a load and a call into which something is handed: what is handed in stands at the key 0, the load looks elsewhere -/
def Zrv:Op→Bool
 | .load _ _=>true
 | _=>false
def ZuD (hs:FuncId→Nat) (o:Op):Bool:=match Y1 o with
 | some c=>hs c.1==1
 | none=>false
def ZM6:Op→Bool
 | .slice _ _ _ _ none=>true
 | _=>false
def Zuz (tt:Nat→Option TI) (hs:FuncId→Nat) (b:Bool) (x y:Op):Bool:=Ztj tt hs x y||(b&&((Zrv x&&ZuD hs y)||(ZuD hs x&&Zrv y)||ZM6 x||ZM6 y))
theorem ZNa {o:Op} {c:FuncId × List TypeId × List Operand} (h:Y1 o=some c):∃args ts,o=.call ⟨.value (.func c.1),args,ts⟩∧c.2.2=args.toList:=by
 unfold Y1 at h
 split at h
 ·rename_i f args ts
  simp only[A0] at h
  rw [←h]
  exact ⟨args,ts,rfl,rfl⟩
 ·simp at h
theorem ZrK {o:Op} (h:∀x∈o.operands,∀t,st.ev tt t x=st'.ev tt t x):stk tt S o st=stk tt S o st':=by
 unfold stk
 split
 ·rename_i t x
  rw [h x (by simp [Op.operands])]
 ·rename_i t x _ _ _
  rw [h x (by simp [Op.operands])]
 ·split
  ·rename_i c hc
   obtain ⟨args,ts,ho,e⟩:=ZNa hc
   unfold hdC
   split
   ·cases hh:c.2.2.head? with
    | none=>rfl
    | some x=>
     have mx:x∈args.toList:=by rw [←e];exact List.mem_of_mem_head? hh
     simp only
     rw [h x (by rw [ho];simp [Op.operands,Call.operands];exact .inr (by simpa using mx))]
   ·rfl
  ·rfl
theorem Zjp [NW] {ops:Array Oper} {oi oj:Oper} {vi vj:SV} {ui uj:List (Nat × Ob)} (hap:oi.apart ops oj=true):stk tt S oj.op st=stk tt S oj.op ((st.put oi.dst vi).app ui)∧stk tt S oi.op ((st.put oj.dst vj).app uj)=stk tt S oi.op st:=by
 obtain ⟨a1,a2,a3⟩:=Oper.apart_spec hap
 exact ⟨ZrK (ZeO fun s ms=>(Zck st oi.dst vi s fun t ht e=>a1 t ht (e ▸ ms)).symm),ZrK (ZeO fun s ms=>Zck st oj.dst vj s fun t ht e=>a3 t ht (e ▸ ms))⟩
theorem Zow [NW] {o:Oper} {v:SV} {u:List (Nat × Ob)} (ho:ZuD S.hd o.op=true) (hs:stk tt S o.op st=true) (h:Za8 tt S key o st v u):∀p∈u,p.1=0∨(key≤p.1∧p.1<key+16)∨p.2=Yd (st.ob p.1):=by
 unfold ZuD at ho
 split at ho
 rotate_left
 ·simp at ho
 rename_i c hc
 have h1:S.hd c.1=1:=by simpa using ho
 unfold Za8 at h
 rw [hc] at h
 simp only[h1,ZaW] at h
 obtain ⟨v0,r,k,hh,l,res,h',hv,hk,hl,hs',hne,hn,rfl,rfl⟩:=h
 have h2:hdC tt 1 c.2.2.head? st=true:=by
  have e:stk tt S o.op st=hdC tt (S.hd c.1) c.2.2.head? st:=by
   unfold stk
   split
   ·rename_i hq;rw [hq] at hc;simp [Y1] at hc
   ·rename_i hq;rw [hq] at hc;simp [Y1] at hc
   ·rw [hc]
  rw [←h1,←e];exact hs
 have hv0:∃off,v0=.bp 0 off:=by
  unfold hdC at h2
  simp only at h2
  cases hx:c.2.2 with
  | nil=>rw [hx] at h2;simp at h2
  | cons x xs=>
   rw [hx] at h2 hv
   simp only[List.head?_cons] at h2
   have e0:∀ts:List TypeId,∃t q,evs tt st ts (x::xs)=st.ev tt t x::q:=fun ts=>by cases ts<;>exact ⟨_,_,rfl⟩
   obtain ⟨t,q,e0⟩:=e0 c.2.1
   rw [e0] at hv
   simp only[Ab] at hv
   have hb:hdB (st.ev tt 0 x)=true:=h2
   have ht:∀t',hdB (st.ev tt t' x)=true→∃off,st.ev tt t x=.bp 0 off:=fun t' hb=>by
    cases x with
    | tmp s=>
     have hb':hdB (st.sl s)=true:=hb
     unfold hdB at hb'
     split at hb'
     ·rename_i k' off e;exact ⟨off,by show st.sl s=_;rw [e,of_decide_eq_true hb']⟩
     ·simp at hb'
    | const u=>
     exfalso
     have hb':hdB (cvT (tt t') u)=true:=hb
     unfold cvT at hb'
     split at hb'<;>first | (simp [hdB] at hb';done) | (split at hb'<;>simp [hdB] at hb')
    | func f=>simp [St.ev,hdB] at hb
    | global g=>simp [St.ev,hdB] at hb
   obtain ⟨off,e⟩:=ht 0 hb
   exact ⟨off,by rw [←hv.1,e]⟩
 obtain ⟨off,rfl⟩:=hv0
 have hkk:k=0:=by
  unfold ZfF at hk
  split at hk
  ·rename_i k' e
   simp only[SV.bp.injEq] at e
   obtain ⟨rfl,rfl⟩:=e
   split at hk
   ·rename_i t cs hb
    split at hk
    ·obtain ⟨_,_,e⟩:=A1.1 hk
     simp only[A3] at e
     exact e.1.symm
    ·simp at hk
   ·simp at hk
  ·rename_i e;simp at e
  ·simp at hk
 subst hkk
 intro p mp
 rcases A5.1 mp with mp | mp
 ·exact .inr (.inr (Zl1 mp).2)
 ·rcases A6.1 mp with rfl | mp
  ·exact .inl rfl
  ·have:=(ZgH res key).2 p mp
   exact .inr (.inl (by omega))
theorem ZnV [NW] {o:Oper} {v:SV} {u:List (Nat × Ob)} (ho:Zrv o.op=true) (hl:∀x∈o.op.operands,∀t,st.ev tt t x=st'.ev tt t x) (hs:stk tt S o.op st=true) (hU:∀t x,svU U (st.ev tt t x)) (hob:∀k,U k→k≠0→st'.ob k=st.ob k∨st'.ob k=Yd (st.ob k)):Za8 tt S key o st v u↔Za8 tt S key o st' v u:=by
 obtain ⟨dst,op,ty,pos,af,gd⟩:=o
 unfold Zrv at ho
 simp only at ho
 split at ho
 rotate_left
 ·simp at ho
 rename_i t x
 have e1:=hl x (by simp [Op.operands]) 0
 have hx:=hU 0 x
 have hs':ldB (st.ev tt 0 x)=true:=hs
 have key:Qt st (tt t) (st.ev tt 0 x)=Qt st' (tt t) (st'.ev tt 0 x):=by
  rw [←e1]
  unfold Qt
  split
  ·rename_i k off hv
   rw [hv] at hx hs'
   have hk0:k≠0:=fun e=>by subst e;simp [ldB] at hs'
   rcases hob k hx hk0 with h | h
   ·rw [h]
   ·rw [h]
    cases st.ob k<;>rfl
  ·rename_i k m i off hv
   rw [hv] at hx hs'
   have hk0:k≠0:=fun e=>by subst e;simp [ldB] at hs'
   rcases hob k hx hk0 with h | h
   ·rw [h]
   ·rw [h]
    cases st.ob k<;>rfl
  ·rfl
  ·rfl
  ·rfl
 show opE tt _ _ st=some (v,u)↔opE tt _ _ st'=some (v,u)
 simp only[opE,key]
theorem ZvZ [NW] {ops:List Oper} {o:Oper} {v:SV} {u:List (Nat × Ob)} (ho:Zrv o.op=true) (h:opR tt S ops key o st v u):u=[]:=by
 refine Zhd h (fun h=>?_) id
 obtain ⟨dst,op,ty,pos,af,gd⟩:=o
 unfold Zrv at ho
 simp only at ho
 split at ho
 ·have h':opE tt key ⟨dst,.load _ _,ty,pos,af,gd⟩ st=some (v,u):=h
  exact YZ h'
 ·simp at ho
theorem Ztn {ops:Array Oper} {o:Oper} {v:SV} {u:List (Nat × Ob)} (hl:∀s∈o.looksAt ops,st.sl s=st'.sl s) (h1:Za8 tt S key o st v u↔Za8 tt S key o st' v u) [NW]:opR tt S ops.toList key o st v u↔opR tt S ops.toList key o st' v u:=⟨ZkV (fun s ms=>(hl s ms).symm) h1.1,ZkV hl h1.2⟩
theorem ZMW [NW] {o:Oper} {v:SV} {u:List (Nat × Ob)} (ho:ZM6 o.op=true) (hs:stk tt S o.op st=true) (h:Za8 tt S key o st v u):u=[]∧∀{st':St},(∀x∈o.op.operands,∀t,st.ev tt t x=st'.ev tt t x)→Za8 tt S key o st' v u:=by
 obtain ⟨dst,op,ty,pos,af,gd⟩:=o
 unfold ZM6 at ho
 simp only at ho
 split at ho
 rotate_left
 ·simp at ho
 rename_i t x lo hi
 have hs':slB (st.ev tt 0 x)=true:=hs
 have h':opE tt key ⟨dst,.slice t x lo hi none,ty,pos,af,gd⟩ st=some (v,u):=h
 unfold slB at hs'
 split at hs'
 rotate_left
 ·simp at hs'
 rename_i y hy
 constructor
 ·simp only[opE] at h'
  rw [hy] at h'
  simp only[ZaK] at h'
  obtain ⟨_,_,e⟩:=A1.1 h'
  simp only[A3] at e
  exact e.2.symm
 ·intro st' hl
  show opE tt key ⟨dst,.slice t x lo hi none,ty,pos,af,gd⟩ st'=some (v,u)
  have e1:=hl x (by simp [Op.operands]) 0
  have e2:lo.map (st.ev tt 0)=lo.map (st'.ev tt 0):=by
   cases lo with
   | none=>rfl
   | some l=>exact congrArg some (hl l (by simp [Op.operands]) 0)
  have e3:hi.map (st.ev tt 0)=hi.map (st'.ev tt 0):=by
   cases hi with
   | none=>rfl
   | some l=>exact congrArg some (hl l (by simp [Op.operands]) 0)
  rw [←h']
  simp only[opE,←e1,←e2,←e3,hy,ZaK]
theorem ZDP [NW] {b:Bool} {ops:Array Oper} {oi oj:Oper} {ki kj:Nat} {vi vj:SV} {ui uj:List (Nat × Ob)} (hap:oi.apart ops oj=true) (hc:Zuz tt S.hd b oi.op oj.op=true) (hU:StU U st) (hki:∀k,ki≤k→k<ki+16→¬U k) (hkj:∀k,kj≤k→k<kj+16→¬U k) (hdis:ki+16≤kj∨kj+16≤ki)
  (hsi:b=true→stk tt S oi.op st=true) (hsj:b=true→stk tt S oj.op ((st.put oi.dst vi).app ui)=true) (h:opR tt S ops.toList ki oi st vi ui) (h':opR tt S ops.toList kj oj ((st.put oi.dst vi).app ui) vj uj):
  opR tt S ops.toList kj oj st vj uj∧opR tt S ops.toList ki oi ((st.put oj.dst vj).app uj) vi ui∧((((st.put oi.dst vi).app ui).put oj.dst vj).app uj)=((((st.put oj.dst vj).app uj).put oi.dst vi).app ui):=by
 by_cases hok:Ztj tt S.hd oi.op oj.op=true
 ·exact comm hap hok hU hki hkj hdis h h'
 have hb:b=true∧(((Zrv oi.op=true∧ZuD S.hd oj.op=true)∨(ZuD S.hd oi.op=true∧Zrv oj.op=true))∨ZM6 oi.op=true∨ZM6 oj.op=true):=by
  unfold Zuz at hc
  rw [AF] at hc
  have:=hc.resolve_left hok
  simp only[A9,AF] at this
  obtain ⟨q1,q2⟩:=this
  exact ⟨q1,by rcases q2 with (q | q) | q;exact .inl q;exact .inr (.inl q);exact .inr (.inr q)⟩
 obtain ⟨hb,hc⟩:=hb
 obtain ⟨a1,a2,a3⟩:=Oper.apart_spec hap
 have hev:∀t x,svU U (st.ev tt t x):=fun t x=>ZDW hU t x
 have hlj:∀s∈oj.looksAt ops,st.sl s=((st.put oi.dst vi).app ui).sl s:=fun s ms=>(Zck st oi.dst vi s fun t ht e=>a1 t ht (e ▸ ms)).symm
 have hli:∀s∈oi.looksAt ops,st.sl s=((st.put oj.dst vj).app uj).sl s:=fun s ms=>(Zck st oj.dst vj s fun t ht e=>a3 t ht (e ▸ ms)).symm
 have hslots:(((st.put oi.dst vi).put oj.dst vj)).sl=(((st.put oj.dst vj).put oi.dst vi)).sl:=Zov st _ _ _ _ fun t ht=>a2 t ht
 have e1:∀(s:St) (u:List (Nat × Ob)) (d:Option Nat) (v:SV),((s.app u).put d v)=((s.put d v).app u):=fun s u d v=>by cases d<;>rfl
 have eqs:ui=[]∨uj=[]→((((st.put oi.dst vi).app ui).put oj.dst vj).app uj)=((((st.put oj.dst vj).app uj).put oi.dst vi).app ui):=fun hn=>by
  rw [e1,e1]
  have hs:((st.put oi.dst vi).put oj.dst vj)=((st.put oj.dst vj).put oi.dst vi):=by
   have h2:((st.put oi.dst vi).put oj.dst vj).ob=((st.put oj.dst vj).put oi.dst vi).ob:=by simp only[ZaM]
   have h3:((st.put oi.dst vi).put oj.dst vj).n=((st.put oj.dst vj).put oi.dst vi).n:=by simp only[ZrI]
   generalize ((st.put oi.dst vi).put oj.dst vj)=s1 at hslots h2 h3
   generalize ((st.put oj.dst vj).put oi.dst vi)=s2 at hslots h2 h3
   cases s1;cases s2
   simp only at hslots h2 h3
   subst hslots h2 h3
   rfl
  rw [hs]
  rcases hn with rfl | rfl<;>rfl
 rcases hc with hc | hsl | hsl
 rotate_left
 ·-- the first is a slice that is only read
  have hs:=hsi hb
  have hn:ui=[]:=Zhd h (fun h=>(ZMW hsl hs h).1) id
  subst hn
  have hA:opR tt S ops.toList kj oj st vj uj:=(ZeT (U:=U) hlj (.inr (.inl (by show st.ob=(st.put oi.dst vi).ob;rw [ZaM])))).2 h'
  refine ⟨hA,ZkV (fun s ms=>(hli s ms).symm) (fun h=>(ZMW hsl hs h).2 (ZeO hli)) h,eqs (.inl rfl)⟩
 ·-- the second is one
  have hs:=(Zjp (tt:=tt) (S:=S) (st:=st) (vi:=vi) (ui:=ui) (vj:=vj) (uj:=uj) hap).1.trans (hsj hb)
  have hn:uj=[]:=Zhd h' (fun h=>(ZMW hsl (hsj hb) h).1) id
  subst hn
  have hA:opR tt S ops.toList kj oj st vj []:=ZkV hlj (fun h=>(ZMW hsl (hsj hb) h).2 (fun x m t=>(ZeO hlj x m t).symm)) h'
  refine ⟨hA,?_,eqs (.inr rfl)⟩
  exact (ZeT (U:=U) hli (.inr (.inl (by show st.ob=(st.put oj.dst vj).ob;rw [ZaM])))).1 h
 have box0:∀{u:List (Nat × Ob)} {q:Nat},(∀p∈u,p.1=0∨(q≤p.1∧p.1<q+16)∨p.2=Yd (st.ob p.1))→(∀k,q≤k→k<q+16→¬U k)→∀k,U k→k≠0→Zp st.ob u k=st.ob k∨Zp st.ob u k=Yd (st.ob k):=fun {u q} hu hq k hk hk0=>by
  have gen:∀(u:List (Nat × Ob)) (ob:Nat→Ob),(∀p∈u,p.1=0∨(q≤p.1∧p.1<q+16)∨p.2=Yd (st.ob p.1))→(ob k=st.ob k∨ob k=Yd (st.ob k))→(Zp ob u k=st.ob k∨Zp ob u k=Yd (st.ob k)):=by
   intro u
   induction u with
   | nil=>intro ob _ h;exact h
   | cons p u ih=>
    intro ob hp h
    refine ih _ (fun x mx=>hp x (by simp [mx])) ?_
    by_cases hpk:k=p.1
    ·rcases hp p (by simp) with h1 | h1 | h1
     ·exact absurd (hpk.trans h1) hk0
     ·exact absurd (hpk ▸ hk) (hq p.1 h1.1 h1.2)
     ·right;rw [hpk,ZD];exact h1
    ·rw [ZN _ _ hpk];exact h
  exact gen u st.ob hu (.inl rfl)
 rcases hc with ⟨l1,l2⟩ | ⟨l1,l2⟩
 ·have hui:=ZvZ l1 h
  have hob1:st.ob=((st.put oi.dst vi).app ui).ob:=by
   subst hui
   show st.ob=(st.put oi.dst vi).ob
   rw [ZaM]
  have hA:=(ZeT (U:=U) hlj (.inr (.inl hob1))).2 h'
  have hs:=(Zjp (tt:=tt) (S:=S) (st:=st) (vi:=vi) (ui:=ui) (vj:=vj) (uj:=uj) hap).1.trans (hsj hb)
  refine ⟨hA,?_,eqs (.inl hui)⟩
  refine Zhd hA (fun hx=>?_) (fun e=>?_)
  ·refine (Ztn hli (ZnV (U:=U) l1 (ZeO hli) (hsi hb) hev fun k hk hk0=>?_)).1 h
   show Zp (st.put oj.dst vj).ob uj k=_∨Zp (st.put oj.dst vj).ob uj k=_
   rw [ZaM]
   exact box0 (Zow l2 hs hx) hkj k hk hk0
  ·refine (ZeT (U:=U) hli (.inr (.inl ?_))).1 h
   subst e
   show st.ob=(st.put oj.dst vj).ob
   rw [ZaM]
 ·have huj:=ZvZ l2 h'
  have hs:=(Zjp (tt:=tt) (S:=S) (st:=st) (vi:=vi) (ui:=ui) (vj:=vj) (uj:=uj) hap).1.trans (hsj hb)
  have hA:opR tt S ops.toList kj oj st vj uj:=by
   refine Zhd h (fun hx=>?_) (fun e=>?_)
   ·refine (Ztn hlj (ZnV (U:=U) l2 (ZeO hlj) hs hev fun k hk hk0=>?_)).2 h'
    show Zp (st.put oi.dst vi).ob ui k=_∨Zp (st.put oi.dst vi).ob ui k=_
    rw [ZaM]
    exact box0 (Zow l1 (hsi hb) hx) hki k hk hk0
   ·refine (ZeT (U:=U) hlj (.inr (.inl ?_))).2 h'
    subst e
    show st.ob=(st.put oi.dst vi).ob
    rw [ZaM]
  refine ⟨hA,(ZeT (U:=U) hli (.inr (.inl ?_))).1 h,eqs (.inr huj)⟩
  subst huj
  show st.ob=(st.put oj.dst vj).ob
  rw [ZaM]
end
end
section
open Go.RowKit
section
variable {P:Program} {J:World→Prop} {JF:Nat→Prop} {W:Zaa} {U:Nat→Prop} {key:Nat} {st st':St} {w w':World} {a:Act} {tt:Nat→Option TI} {hds:FuncId→Nat} {Q:Exit→Act→World→Prop}
def ZuS [NW] (W:Zaa) (N:Nat) (U:Nat→Prop) (st:St):Prop:=∃a w,Inv W U st a w∧a.tmps.size=N
theorem Zwu [NW] (htt:MOk P J JF W tt) {N:Nat} {all:List Oper} {o:Oper} {v:SV} {u:List (Nat × Ob)} (h:opR tt (SC P J JF hds) all key o st v u) (hR:ZuS W N U st) (hkey:∀k,key≤k→k<key+16→¬U k) (hd:∀t,o.dst=some t→t<N∧(W.hv=none∨t≠0)):
  ZuS W N (Uk U key) ((st.put o.dst v).app u):=by
 obtain ⟨a,w,hI,hN⟩:=hR
 have hd':∀t,o.dst=some t→t<a.tmps.size∧(W.hv=none∨t≠0):=fun t ht=>hN ▸ hd t ht
 have und:v=.und∧u=[]→ZuS W N (Uk U key) ((st.put o.dst v).app u):=fun ⟨e1,e2⟩=>by
  subst e1 e2
  exact ⟨_,w,ZsZ hI _ hd',by rw [Zcg];exact hN⟩
 have run:Za8 tt (SC P J JF hds) key o st v u→ZuS W N (Uk U key) ((st.put o.dst v).app u):=fun h=>by
  obtain ⟨⟨g,hH,hS⟩,hU,hdef,hh⟩:=hI
  have evals:∀(ts:List TypeId) (args:List Operand),ZL (SVR g w) (evs tt st ts args) (args.map a.eval)∧∀x∈evs tt st ts args,svU U x:=fun ts args=>by
   have he:args.map a.eval=(Zje ts args).map fun p=>a.eval p.2:=by
    have:=congrArg (List.map a.eval) (ZeZ ts args)
    rw [←this,Ac];rfl
   refine ⟨?_,fun x mx=>?_⟩
   ·rw [he]
    exact ZL.of_map _ _ fun p _=>(Zkm htt.tt hS hU p.1 p.2).1
   ·obtain ⟨p,_,rfl⟩:=A2.1 mx
    exact (Zkm htt.tt hS hU p.1 p.2).2
  cases hc:Y1 o.op with
  | some c=>
   simp only[Za8,hc] at h
   obtain ⟨_,hcall⟩:=Zg5 htt h hH hU hkey (evals c.2.1 c.2.2).1 (evals c.2.1 c.2.2).2
   obtain ⟨e,w',fr,⟨rv,_,g',t1,t2,t3,t4,t5,t6⟩,_⟩:=hcall []
   exact ⟨_,_,Zfs hS hU hdef hh hd' t1 t2 t3 t4 t5 t6,by rw [Zcg];exact hN⟩
  | none=>
   simp only[Za8,hc] at h
   cases hd2:Y7 o.op with
   | some c=>
    rw [hd2] at h
    simp only at h
    obtain ⟨fc,h1,_,h⟩:=h
    obtain ⟨cs,_,hcs⟩:=Zqx h1 (hS c.1)
    obtain ⟨_,hcall⟩:=Zg5 htt h hH hU hkey ((evals c.2.1 c.2.2).1.append hcs) (fun x mx=>by
     rcases A5.1 mx with m | m
     ·exact (evals c.2.1 c.2.2).2 x m
     ·obtain ⟨c,_,rfl⟩:=A2.1 m
      exact Xn _)
    obtain ⟨e,w',fr,⟨rv,_,g',t1,t2,t3,t4,t5,t6⟩,_⟩:=hcall []
    exact ⟨_,_,Zfs hS hU hdef hh hd' t1 t2 t3 t4 t5 t6,by rw [Zcg];exact hN⟩
   | none=>
    rw [hd2] at h
    simp only at h
    obtain ⟨g',cv,w',_,t1,t2,t3,t4,t5,t6⟩:=ZnT (P:=P) (W:=W) (a:=a) htt.tt o h hH hS hU (hkey key (A4 _) (by omega))
    exact ⟨_,_,Zfs hS hU hdef hh hd' t1 t2 t3 t4 t5 t6,by rw [Zcg];exact hN⟩
 unfold opR at h
 split at h
 ·exact run h
 ·exact und h
 ·unfold gK at h
  split at h
  ·split at h
   ·exact run h
   ·exact und h
  ·split at h
   ·exact und h
   ·exact h.elim
theorem Zg8 {S:Ctx} {b:Bool} {all:List Oper} {base i:Nat} {r:List Nat} {K:St→Prop} {o:Oper} (ho:all[i]?=some o):Zff tt S b all base (i::r) K st=ifB b (stk tt S o.op st) (opG tt S all (base+16 * i) o (Zff tt S b all base r K) st):=by simp only[Zff,ho]
theorem Ztd [NW] {S:Ctx} {all:List Oper} {base:Nat} {K:St→Prop}:∀(r:List Oper) (i:Nat) (st:St),all.drop i=r→Z5 tt S all (base+16 * i) r K st→Zff tt S false all base (AG i r.length) K st
 | [],_,_,_,h=>h
 | o::r,i,st,hr,h=>by
  have hi:all[i]?=some o:=by
   have:=congrArg (fun l=>l[0]?) hr
   simpa using this
  have hr':all.drop (i+1)=r:=by
   have:=congrArg List.tail hr
   simpa using this
  rw [Ad,AQ,Zg8 hi]
  obtain ⟨v,u,h1,h2⟩:=Zhe.1 h
  refine Zhe.2 ⟨v,u,h1,Ztd r (i+1) _ hr' ?_⟩
  rw [show base+16 * (i+1)=base+16 * i+16 by omega]
  exact h2
theorem Zo2 {b c:Bool} {P:Prop}:ifB b c P↔(b=true→c=true)∧P:=by
 cases b<;>simp [ifB]
theorem ZDq [NW] (htt:MOk P J JF W tt) {b:Bool} {ops:Array Oper} {N base i:Nat} {o:Oper} (ho:ops.toList[i]?=some o) (hN:∀o∈ops.toList,∀t,o.dst=some t→t<N∧(W.hv=none∨t≠0)) {K:St→Prop} {R2:List Nat}:∀(R1:List Nat) (U:Nat→Prop) (st:St),(R1++i::R2).Nodup→
  (∀j∈R1,∃oj,ops.toList[j]?=some oj∧oj.apart ops o=true∧Zuz tt hds b oj.op o.op=true)→(∀j∈R1++i::R2,∀k,base+16 * j≤k→k<base+16 * j+16→¬U k)→ZuS W N U st→
  Zff tt (SC P J JF hds) b ops.toList base (R1++i::R2) K st→(b=true→stk tt (SC P J JF hds) o.op st=true)∧opG tt (SC P J JF hds) ops.toList (base+16 * i) o (Zff tt (SC P J JF hds) b ops.toList base (R1++R2) K) st:=by
 intro R1
 induction R1 with
 | nil=>
  intro U st _ _ _ _ h
  rw [List.nil_append,Zg8 ho] at h
  exact Zo2.1 h
 | cons j R1 ih=>
  intro U st hnd hcomp hk hR h
  obtain ⟨oj,hj,hap,hcl⟩:=hcomp j (by simp)
  rw [AW,Zg8 hj] at h
  obtain ⟨sj,h⟩:=Zo2.1 h
  obtain ⟨vj,uj,h1,h2⟩:=Zhe.1 h
  have hkj:=hk j (by simp)
  have hki:=hk i (by simp)
  rw [AW,AK] at hnd
  have hij:i≠j:=fun e=>hnd.1 (by simp [e])
  have hR1:=Zwu htt h1 hR hkj (hN oj (AU hj))
  obtain ⟨si,h3⟩:=ih (Uk U (base+16 * j)) _ hnd.2 (fun q mq=>hcomp q (by simp [mq])) (fun q mq k a b hU=>by
   rcases hU with hU | ⟨c,d⟩
   ·exact hk q (by simp;simp at mq;exact .inr mq) k a b hU
   ·have:q=j:=by omega
    subst this
    exact hnd.1 mq) hR1 h2
  obtain ⟨vi,ui,h4,h5⟩:=Zhe.1 h3
  obtain ⟨_,_,hIn,_⟩:=hR
  obtain ⟨c1,c2,c3⟩:=ZDP (tt:=tt) (S:=SC P J JF hds) (b:=b) hap hcl hIn.wf hkj hki (by omega) sj si h1 h4
  have e1:=(Zjp (tt:=tt) (S:=SC P J JF hds) (st:=st) (vi:=vj) (ui:=uj) (vj:=vi) (uj:=ui) hap).1
  have e2:=(Zjp (tt:=tt) (S:=SC P J JF hds) (st:=st) (vi:=vj) (ui:=uj) (vj:=vi) (uj:=ui) hap).2
  refine ⟨fun hb=>e1.trans (si hb),Zhe.2 ⟨vi,ui,c1,?_⟩⟩
  rw [AW,Zg8 hj]
  exact Zo2.2 ⟨fun hb=>e2.trans (sj hb),Zhe.2 ⟨vj,uj,c2,c3 ▸ h5⟩⟩
def anc (ops:Array Oper):Nat→Nat→List Nat
 | 0,_=>[]
 | n+1,j=>match ops[j]? with
  | some o=>(o.after.toList.filter (Region.binds .any)).flatMap fun e=>e.on::anc ops n e.on
  | none=>[]
def Zon (tt:Nat→Option TI) (hds:FuncId→Nat) (b:Bool) (ops:Array Oper) (i j:Nat):Bool:=!Nat.beq i j&&match ops[i]?,ops[j]? with
 | some oi,some oj=>(oi.after.toList.all fun e=>!Region.binds .any e||!Nat.beq e.on j)&&((anc ops ops.size j).contains i||(oi.apart ops oj&&Zuz tt hds b oi.op oj.op))
 | _,_=>true
def ZjU (tt:Nat→Option TI) (hds:FuncId→Nat) (b:Bool) (ops:Array Oper):List Nat→Bool
 | []=>true
 | i::r=>r.all (Zon tt hds b ops i)&&ZjU tt hds b ops r
def elB (ops:Array Oper) (j:Nat):Bool:=match ops[j]? with
 | some oj=>oj.after.toList.all fun e=>!Region.binds .any e||(Nat.blt e.on ops.size&&!Nat.beq e.on j)
 | none=>true
def Zx5 (ops:Array Oper):Bool:=(AO ops.size).all (elB ops)
def ZsK (tt:Nat→Option TI) (hds:FuncId→Nat) (ops:Array Oper):Bool:=ZjU tt hds false ops (AO ops.size)&&Zx5 ops
def Ztr (tt:Nat→Option TI) (hds:FuncId→Nat) (b:Bool) (ops:Array Oper) (l:List Nat):Bool:=ZjU tt hds b ops l&&Zx5 ops&&Nat.ble l.length ops.size&&l.all (Nat.blt · ops.size)&&(AO ops.size).all l.contains
theorem Zrx {ops:Array Oper} (h:Zx5 ops=true) (j:Nat):elB ops j=true:=by
 rcases Nat.lt_or_ge j ops.size with hj | hj
 ·exact AB.1 h j (by simpa using hj)
 ·unfold elB
  rw [Array.getElem?_eq_none hj]
theorem Znr {b:Bool} {ops:Array Oper}:∀{l:List Nat},ZjU tt hds b ops l=true→l.Pairwise fun i j=>Zon tt hds b ops i j=true
 | [],_=>List.Pairwise.nil
 | i::r,h=>by
  simp only[ZjU,A9,AB] at h
  exact List.Pairwise.cons h.1 (Znr h.2)
theorem ZsG {i j:Nat} (h:(!Nat.beq i j)=true):i≠j:=fun e=>by subst e;simp at h
theorem Zlq {b:Bool} {ops:Array Oper} {i j:Nat} {oi oj:Oper} (h:Zon tt hds b ops i j=true) (hi:ops[i]?=some oi) (hj:ops[j]?=some oj):(∀e∈oi.after,Region.binds .any e=true→e.on≠j)∧(i∈anc ops ops.size j∨(oi.apart ops oj=true∧Zuz tt hds b oi.op oj.op=true)):=by
 simp only[Zon,hi,hj,A9,AB,AF] at h
 refine ⟨fun e me hb=>?_,h.2.2.imp (fun h=>by simpa using h) fun h=>h⟩
 have h1:=h.2.1 e (by simpa using me)
 rw [hb] at h1
 exact ZsG (h1.resolve_left (by simp))
theorem Zli {ops:Array Oper} {listed:Array Bool} (hcl:∀i o,ops[i]?=some o→listed.getD i false=true→∀e∈o.after,Region.binds .any e=true→listed.getD e.on false=true):
  ∀(n j:Nat) (o:Oper),ops[j]?=some o→(∀e∈o.after,Region.binds .any e=true→listed.getD e.on false=true)→∀i∈anc ops n j,listed.getD i false=true
 | 0,j,o,_,_,i,mi=>by simp [anc] at mi
 | n+1,j,o,ho,he,i,mi=>by
  simp only[anc,ho,AR,List.mem_filter] at mi
  obtain ⟨e,⟨me,hb⟩,mi⟩:=mi
  have hl:=he e (by simpa using me) hb
  rcases A6.1 mi with rfl | mi
  ·exact hl
  ·cases ho':ops[e.on]? with
   | none=>cases n<;>simp [anc,ho'] at mi
   | some o'=>exact Zli hcl n e.on o' ho' (fun e' me' hb'=>hcl e.on o' ho' hl e' me' hb') i mi
theorem Zt9 [NW] (htt:MOk P J JF W tt) {b:Bool} {ops:Array Oper} {N base:Nat} (hN:∀o∈ops.toList,∀t,o.dst=some t→t<N∧(W.hv=none∨t≠0)) (hE:∀j,elB ops j=true) {K:St→Prop}
  (hQ:∀U' st' a' w',Inv W U' st' a' w'→(∀k,base+16 * ops.size≤k→¬U' k)→a'.tmps.size=N→K st'→Q .normal a' w'):
  ∀(fuel:Nat) (R:List Nat) (listed:Array Bool) (U:Nat→Prop) (st:St) (a:Act) (w:World),R.length≤fuel→R.Pairwise (fun i j=>Zon tt hds b ops i j=true)→listed.size=ops.size→(∀i,i∈R↔(i<ops.size∧listed.getD i true=false))→
   (∀i o,ops[i]?=some o→listed.getD i false=true→∀e∈o.after,Region.binds .any e=true→listed.getD e.on false=true)→
   Zff tt (SC P J JF hds) b ops.toList base R K st→Inv W U st a w→(∀j∈R,∀k,base+16 * j≤k→k<base+16 * j+16→¬U k)→(∀k,base+16 * ops.size≤k→¬U k)→a.tmps.size=N→wpAny P .any ops Q fuel listed a w:=by
 have hE':∀j oj,ops[j]?=some oj→∀e∈oj.after,Region.binds .any e=true→e.on<ops.size∧e.on≠j:=fun j oj hj e me hb=>by
  have h1:=hE j
  simp only[elB,hj,AB,AF,A9] at h1
  have h2:=h1 e (by simpa using me)
  rw [hb] at h2
  have h3:=h2.resolve_left (by simp)
  exact ⟨AA h3.1,ZsG h3.2⟩
 intro fuel
 induction fuel with
 | zero=>
  intro R listed U st a w hlen _ hsz hmem _ h hI _ hU hs
  have hR:R=[]:=List.eq_nil_of_length_eq_zero (by omega)
  subst hR
  refine ⟨?_,hQ U st a w hI hU hs h⟩
  rw [List.eq_nil_iff_forall_not_mem]
  intro i mi
  obtain ⟨h1,o,h2,_⟩:=mem_ready.1 mi
  exact absurd ((hmem i).2 ⟨(AX.1 h2).1,h1⟩) (by simp)
 | succ fuel ih=>
  intro R listed U st a w hlen hso hsz hmem hcl h hI hk hU hs
  refine ⟨fun hr=>?_,fun i mi=>?_⟩
  ·cases R with
   | nil=>exact hQ U st a w hI hU hs h
   | cons r0 R=>
    exfalso
    obtain ⟨m1,m2⟩:=(hmem r0).1 (by simp)
    have:r0∈Region.ready .any ops listed:=mem_ready.2 ⟨m2,ops[r0],by simp [m1],fun e me hb=>by
     have hlt:=hE' r0 ops[r0] (by simp [m1]) e me hb
     by_cases hl:listed.getD e.on true=false
     ·have mR:=(hmem e.on).2 ⟨hlt.1,hl⟩
      rcases A6.1 mR with e1 | mR
      ·exact absurd e1 hlt.2
      ·exact absurd rfl ((Zlq ((List.pairwise_cons.1 hso).1 _ mR) (oi:=ops[r0]) (oj:=ops[e.on]'hlt.1) (by simp [m1]) (by simp [hlt.1])).1 e me hb)
     ·have hlt2:e.on<listed.size:=by omega
      simp only[A8,hlt2,getElem?_pos,Af,Bool.not_eq_false] at hl ⊢
      exact hl⟩
    rw [hr] at this
    simp at this
  ·obtain ⟨i1,o,i2,i3⟩:=mem_ready.1 mi
   have hin:i<ops.size:=(AX.1 i2).1
   have miR:i∈R:=(hmem i).2 ⟨hin,i1⟩
   obtain ⟨R1,R2,rfl⟩:=List.append_of_mem miR
   have hnd:(R1++i::R2).Nodup:=hso.imp fun h=>by
    simp only[Zon,A9] at h
    exact ZsG h.1
   have ho:ops.toList[i]?=some o:=by simpa using i2
   have hanc:=Zli hcl ops.size i o i2 i3
   have hcomp:∀j∈R1,∃oj,ops.toList[j]?=some oj∧oj.apart ops o=true∧Zuz tt hds b oj.op o.op=true:=fun j mj=>by
    obtain ⟨j1,j2⟩:=(hmem j).1 (by simp [mj])
    have hji:=(List.pairwise_append.1 hso).2.2 j mj i (by simp)
    have hj:ops[j]?=some ops[j]:=by simp [j1]
    refine ⟨ops[j],by simp [j1],(Zlq hji hj i2).2.resolve_left fun ma=>?_⟩
    have:=hanc j ma
    have hlt:j<listed.size:=by omega
    simp only[A8,hlt,getElem?_pos,Af] at this j2
    rw [this] at j2;simp at j2
   have hfr:=(ZDq htt ho hN R1 U st hnd hcomp hk ⟨a,w,hI,hs⟩ h).2
   refine wpOp_mono ?_ (ZnI htt i2 hfr hI (hk i (by simp)) (fun t ht=>by rw [hs];exact hN o (AU ho) t ht))
   rintro a' w' ⟨st',hI',hs',hK'⟩
   have hset:∀q,(listed.setIfInBounds i true).getD q true=if q=i then true else listed.getD q true:=fun q=>by
    by_cases e:q=i
    ·subst e;simp [A8,AT,hsz,hin]
    ·simp [A8,AN (fun e':i=q=>e e'.symm),e]
   have hset':∀q,(listed.setIfInBounds i true).getD q false=if q=i then true else listed.getD q false:=fun q=>by
    by_cases e:q=i
    ·subst e;simp [A8,AT,hsz,hin]
    ·simp [A8,AN (fun e':i=q=>e e'.symm),e]
   have hnotin:i∉R1++R2:=by
    rw [AM] at hnd
    intro m
    rcases A5.1 m with m | m
    ·exact hnd.2.2 i m i (by simp) rfl
    ·exact (AK.1 hnd.2.1).1 m
   refine ih (R1++R2) _ (Uk U (base+16 * i)) st' a' w' (by simp at hlen ⊢;omega) (hso.sublist (List.Sublist.append (List.Sublist.refl _) (List.sublist_cons_self i R2))) (by simp [hsz]) (fun q=>?_) (fun q oq hq hl e me hb=>?_) hK' hI' (fun q mq k c d hU'=>?_) (fun k hk' hU'=>?_) (by omega)
   ·rw [hset q]
    by_cases e:q=i
    ·subst e;simp only[if_true,Bool.true_eq_false,and_false,iff_false];exact hnotin
    ·rw [if_neg e,←hmem q];simp [e]
   ·rw [hset'] at hl ⊢
    by_cases e1:e.on=i
    ·simp [e1]
    ·rw [if_neg e1]
     by_cases e2:q=i
     ·subst e2
      rw [i2] at hq
      simp only[A0] at hq
      subst hq
      exact i3 e me hb
     ·rw [if_neg e2] at hl
      exact hcl q oq hq hl e me hb
   ·have mq':q∈R1++i::R2:=by simp at mq ⊢;rcases mq with mq | mq<;>simp [mq]
    rcases hU' with hU' | ⟨c',d'⟩
    ·exact hk q mq' k c d hU'
    ·have:q=i:=by omega
     subst this
     exact hnotin mq
   ·rcases hU' with hU' | ⟨c',d'⟩
    ·exact hU k hk' hU'
    ·omega
end
end
section
open Go.RowKit
theorem Ztm:∀{ρ:List Nat} {k i j:Nat},Zo1 ρ k i=some j→i≤j∧ρ[j - i]?=some k
 | [],_,_,_,h=>by simp [Zo1] at h
 | x::r,k,i,j,h=>by
  simp only[Zo1] at h
  split at h
  ·rename_i e
   simp only[A0] at h
   subst h e
   exact ⟨A4 _,by simp⟩
  ·obtain ⟨h1,h2⟩:=Ztm h
   refine ⟨by omega,?_⟩
   rw [show j - i=(j - (i+1))+1 by omega]
   simpa using h2
theorem Zc3 [NW] {ρ:List Nat} {k j:Nat} (h:Zo1 ρ k 0=some j):ρ[j]?=some k:=by simpa using (Ztm h).2
theorem Zns {α:Type}:∀{l:List α},l.Nodup→∀{i j:Nat} (hi:i<l.length) (hj:j<l.length),l[i]=l[j]→i=j
 | [],_,_,_,hi,_,_=>by simp at hi
 | x::l,h,0,0,_,_,_=>rfl
 | x::l,h,0,j+1,_,hj,e=>by
  rw [AK] at h
  exact absurd (by simp at e;rw [e];exact Ag _) h.1
 | x::l,h,i+1,0,hi,_,e=>by
  rw [AK] at h
  exact absurd (by simp at e;rw [←e];exact Ag _) h.1
 | x::l,h,i+1,j+1,hi,hj,e=>by
  rw [AK] at h
  have:=Zns h.2 (i:=i) (j:=j) (by simpa using hi) (by simpa using hj) (by simpa using e)
  omega
section
variable {P:Program} {J:World→Prop} {JF:Nat→Prop} {W:Zaa} {U:Nat→Prop} {st st':St} {w w':World} {a:Act} {tt:Nat→Option TI} {S:Ctx}
theorem Zzq [NW] {g g':Gh} {ρ:List Nat} (hv:∀j k,ρ[j]?=some k→g'.val j=g.val k) (ho:Xo g' g) {x:AV} {v:Value} (h:AVR g w x v):AVR g' w (rAV ρ x) v:=by
 cases x with
 | c x=>obtain ⟨L,h1,h2⟩:=h;exact ⟨L,h1,fun b m o=>h2 b m (ho.own b o)⟩
 | n x=>exact NR.move h (fun _ _ _=>rfl) (ho.grow _)
 | row k=>
  simp only[rAV]
  split
  ·rename_i j hj
   exact ⟨by rw [hv j k (Zc3 hj)];exact h.1,h.2⟩
  ·exact h.2
 | nil e m=>exact h
 | dead=>exact h
theorem ZL.map_left {α β γ:Type} {R:α→γ→Prop} {R':β→γ→Prop} (f:α→β) (h:∀a c,R a c→R' (f a) c):∀{l:List α} {r:List γ},ZL R l r→ZL R' (l.map f) r
 | [],[],_=>trivial
 | _::_,_::_,hh=>⟨h _ _ hh.1,hh.2.map_left f h⟩
 | [],_::_,h=>h.elim
 | _::_,[],h=>h.elim
theorem ZuL [NW] (ρ:List Nat) (x:AV):avU (fun j=>j<ρ.length) (rAV ρ x):=by
 cases x with
 | row k=>
  simp only[rAV]
  split
  ·rename_i j hj
   exact (AC.1 (Zc3 hj)).1
  ·trivial
 | _=>trivial
theorem Zs7 [NW] (hI:Inv W U st a w) {ρ:List Nat} (hρ:ρ.Nodup):Inv W (fun j=>j<ρ.length) (st.ren ρ) a w:=by
 obtain ⟨⟨g,hH,hS⟩,hU,hdef,hh⟩:=hI
 let g':Gh:=⟨fun j=>match ρ[j]? with | some k=>g.val k | none=>undef,fun j=>match ρ[j]? with | some k=>g.O k | none=>[],fun j=>match ρ[j]? with | some k=>g.D k | none=>[],g.Z⟩
 have gs:∀j k,ρ[j]?=some k→g'.val j=g.val k∧g'.O j=g.O k∧g'.D j=g.D k:=fun j k h=>by simp [g',h]
 have gn:∀j,ρ[j]?=none→g'.O j=[]∧g'.D j=[]:=fun j h=>by simp [g',h]
 have ho:∀b,g'.own b→g.own b:=fun b hb=>by
  rcases hb with ⟨j,mj⟩ | hz
  ·cases h:ρ[j]? with
   | none=>rw [(gn j h).1] at mj;simp at mj
   | some k=>rw [(gs j k h).2.1] at mj;exact .inl ⟨k,mj⟩
  ·exact .inr hz
 have hless:Xo g' g:=.of ho fun j b mb=>by
  cases h:ρ[j]? with
  | none=>rw [(gn j h).2] at mb;simp at mb
  | some k=>rw [(gs j k h).2.2] at mb;exact ⟨k,mb⟩
 have hAV:∀x v,AVR g w x v→AVR g' w (rAV ρ x) v:=fun x v h=>Zzq (fun j k hjk=>(gs j k hjk).1) hless h
 have hAVs:∀xs vs,ZL (AVR g w) xs vs→ZL (AVR g' w) (xs.map (rAV ρ)) vs:=fun xs vs h=>h.map_left _ hAV
 have hPV:∀ag cs v,PVR g w ag cs v→PVR g' w ag (cs.map (rAV ρ)) v:=fun ag cs v h=>by
  cases ag with
  | true=>obtain ⟨vs,h1,h2⟩:=h;exact ⟨vs,h1,hAVs _ _ h2⟩
  | false=>obtain ⟨x,rfl,h2⟩:=h;exact ⟨_,rfl,hAV _ _ h2⟩
 refine ⟨⟨g',⟨hH.below,fun j=>?_,fun j=>?_,fun j i hji b mb=>?_,fun j b mb=>?_,hH.gz,hH.zx,hH.nw⟩,fun t=>?_⟩,⟨fun t=>?_,fun j=>?_,fun j hj=>?_⟩,hdef,hh⟩
 ·show ObR g' w j (match ρ[j]? with | some k=>rOb ρ (st.ob k) | none=>.gone)
  cases h:ρ[j]? with
  | none=>exact gn j h
  | some k=>
   obtain ⟨e1,e2,e3⟩:=gs j k h
   have hob:=hH.obs k
   show ObR g' w j (rOb ρ (st.ob k))
   cases hok:st.ob k with
   | gone=>rw [hok] at hob;exact ⟨e2.trans hob.1,e3.trans hob.2⟩
   | box t cs=>
    rw [hok] at hob
    obtain ⟨b,vs,h1,h2,h3,h4,h5⟩:=hob
    exact ⟨b,vs,e1.trans h1,e2.trans h2,e3.trans h3,h4,hAVs _ _ h5⟩
   | map kk vk kv=>
    rw [hok] at hob
    obtain ⟨b,es,c,h1,h2,h3,h4⟩:=hob
    exact ⟨b,es,c,e1.trans h1,e2.trans h2,e3.trans h3,h4⟩
   | row e m xs d=>
    rw [hok] at hob
    obtain ⟨hm,cs,L,h1,h2,h4⟩:=hob
    refine ⟨hm,cs,L,by rw [e1];exact h1,h2,?_⟩
    rw [e1,e2,e3]
    rcases h4 with h4 | ⟨hd,h3,h4,h5⟩ | ⟨hd,h3,h4,h5⟩
    ·exact .inl h4
    ·exact .inr (.inl ⟨hd,h3,h4,fun b mb o=>h5 b mb (ho b o)⟩)
    ·exact .inr (.inr ⟨hd,h3,h4,fun b mb o=>h5 b mb (ho b o)⟩)
 ·cases h:ρ[j]? with
  | none=>rw [(gn j h).1,(gn j h).2];simp
  | some k=>rw [(gs j k h).2.1,(gs j k h).2.2];exact hH.nodup k
 ·cases h:ρ[j]? with
  | none=>rw [(gn j h).1,(gn j h).2] at mb;simp at mb
  | some k=>
   rw [(gs j k h).2.1,(gs j k h).2.2] at mb
   cases h':ρ[i]? with
   | none=>rw [(gn i h').1,(gn i h').2];simp
   | some q=>
    rw [(gs i q h').2.1,(gs i q h').2.2]
    refine hH.apart k q (fun e=>hji ?_) b mb
    subst e
    obtain ⟨l1,e1⟩:=AC.1 h
    obtain ⟨l2,e2⟩:=AC.1 h'
    exact Zns hρ l1 l2 (e1.trans e2.symm)
 ·cases h:ρ[j]? with
  | none=>rw [(gn j h).1,(gn j h).2] at mb;simp at mb
  | some k=>
   rw [(gs j k h).2.1,(gs j k h).2.2] at mb
   refine ⟨(hH.plain k b mb).1,(hH.plain k b mb).2.of ?_⟩
   show Zjf (match ρ[j]? with | some k=>rOb ρ (st.ob k) | none=>.gone)=_
   rw [h]
   show Zjf (rOb ρ (st.ob k))=_
   cases st.ob k<;>rfl
 ·have hs:=hS t
  show SVR g' w (rSV ρ (st.sl t)) _
  cases hsl:st.sl t with
  | any=>trivial
  | und=>rw [hsl] at hs;exact hs
  | p ag cs=>rw [hsl] at hs;exact hPV _ _ _ hs
  | tup xs=>
   rw [hsl] at hs
   obtain ⟨vs,h1,h2⟩:=hs
   exact ⟨vs,h1,h2.map_left (fun x:Bool × List AV=>(x.1,x.2.map (rAV ρ))) fun x v h=>hPV x.1 x.2 v h⟩
  | bp k off=>
   rw [hsl] at hs
   simp only[rSV]
   split
   ·rename_i j hj
    obtain ⟨b,h1,h2⟩:=hs
    exact ⟨b,((gs j k (Zc3 hj)).1).trans h1,h2⟩
   ·trivial
  | rp k m i off=>
   rw [hsl] at hs
   simp only[rSV]
   split
   ·rename_i j hj
    obtain ⟨b,o,n,c,h1,h2⟩:=hs
    exact ⟨b,o,n,c,((gs j k (Zc3 hj)).1).trans h1,h2⟩
   ·trivial
  | ep e off=>
   rw [hsl] at hs
   obtain ⟨b,lo,cs,L,h1,h2,h3,h4,h5⟩:=hs
   exact ⟨b,lo,cs,L,h1,h2,h3,fun x m o=>h4 x m (ho x o),h5⟩
  | fn f=>rw [hsl] at hs;exact hs
 ·show svU _ (rSV ρ (st.sl t))
  cases st.sl t with
  | p ag cs=>intro y my;obtain ⟨x,_,rfl⟩:=A2.1 my;exact ZuL ρ x
  | tup xs=>
   intro y my
   obtain ⟨x,_,rfl⟩:=A2.1 my
   intro z mz
   obtain ⟨q,_,rfl⟩:=A2.1 mz
   exact ZuL ρ q
  | bp k off=>
   simp only[rSV]
   split
   ·rename_i j hj;exact (AC.1 (Zc3 hj)).1
   ·trivial
  | rp k m i off=>
   simp only[rSV]
   split
   ·rename_i j hj;exact (AC.1 (Zc3 hj)).1
   ·trivial
  | _=>trivial
 ·show obU _ (match ρ[j]? with | some k=>rOb ρ (st.ob k) | none=>.gone)
  split
  ·rename_i k _
   cases st.ob k with
   | box t cs=>intro y my;obtain ⟨x,_,rfl⟩:=A2.1 my;exact ZuL ρ x
   | _=>trivial
  ·trivial
 ·show (match ρ[j]? with | some k=>rOb ρ (st.ob k) | none=>.gone)=.gone
  have:ρ[j]?=none:=List.getElem?_eq_none (by omega)
  rw [this]
theorem Zxu [NW] {g:Gh} {ob:Nat→Ob} (hI:HI W g ob w) {k e m d d':Nat} {xs:List (List CT)} (hk:ob k=.row e m xs d) (hd:d'<d):∃g1:Gh,HI W g1 (upd ob k (.row e m xs d')) w∧g1.val=g.val∧Xo g1 g:=by
 by_cases h0:d'=0
 ·obtain ⟨g1,h1,h2,h3,_⟩:=ZiI hI k
  rw [hk] at h1
  exact ⟨g1,by rw [h0];exact h1,h2,h3⟩
 ·have ho:=hI.obs k
  rw [hk] at ho
  obtain ⟨hm,cs,L,o1,o2,o3⟩:=ho
  have h2:d=2∧g.O k=(g.val k).ownBlock.toList∧g.D k=L:=by
   rcases o3 with o3 | ⟨q,_⟩ | ⟨q,_⟩
   ·exact o3
   ·omega
   ·omega
  obtain ⟨rfl,q1,q2⟩:=h2
  obtain rfl:d'=1:=by omega
  let g1:Gh:=⟨g.val,g.O,upd g.D k [],g.Z⟩
  have hown:∀b,g1.own b↔g.own b:=fun b=>Iff.rfl
  have hless:Xo g1 g:=.of (fun b hb=>hb) fun j b mb=>by
   by_cases hj:j=k
   ·subst hj;simp [g1,upd] at mb
   ·exact ⟨j,by simpa [g1,upd,hj] using mb⟩
  have hsub:∀j b,b∈g1.O j++g1.D j→b∈g.O j++g.D j:=fun j b mb=>by
   by_cases hj:j=k
   ·subst hj;simp [g1,upd] at mb;simp [mb]
   ·simpa [g1,upd,hj] using mb
  refine ⟨g1,⟨hI.below,fun j=>?_,fun j=>?_,fun i j hij b mb mj=>hI.apart i j hij b (hsub i b mb) (hsub j b mj),fun j b mb=>⟨(hI.plain j b (hsub j b mb)).1,(hI.plain j b (hsub j b mb)).2.of (by
   by_cases hj:j=k
   ·subst hj;rw [ZD,hk];rfl
   ·rw [ZN _ _ hj])⟩,hI.gz,hI.zx,hI.nw⟩,rfl,hless⟩
  ·by_cases hj:j=k
   ·subst hj
    rw [ZD]
    refine ⟨hm,cs,L,o1,o2,.inr (.inl ⟨rfl,q1,by simp [g1,upd],fun b mb hb=>?_⟩)⟩
    have mk:b∈g.D j:=by rw [q2];exact mb
    rcases hb with ⟨i,mi⟩ | hz
    ·by_cases hij:i=j
     ·subst hij
      have:=hI.nodup i
      rw [AM] at this
      exact this.2.2 b mi b mk rfl
     ·exact hI.apart i j hij b (by simp;exact .inl mi) (by simp [mk])
    ·exact hI.nz (k:=j) (b:=b) (by simp [mk]) hz
   ·rw [ZN _ _ hj]
    have hoj:=hI.obs j
    cases hh:ob j with
    | gone=>rw [hh] at hoj;exact ⟨hoj.1,by simpa [g1,upd,hj] using hoj.2⟩
    | box t ds=>
     rw [hh] at hoj
     obtain ⟨b,vs,h1,h2,h3,h4,h5⟩:=hoj
     exact ⟨b,vs,h1,h2,by simpa [g1,upd,hj] using h3,h4,h5.mono fun x u _ hx=>AVR.less hx rfl hless⟩
    | map kk vk kv=>
     rw [hh] at hoj
     obtain ⟨b,es,c,h1,h2,h3,h4⟩:=hoj
     exact ⟨b,es,c,h1,h2,by simpa [g1,upd,hj] using h3,h4⟩
    | row e' m' xs' d2=>
     rw [hh] at hoj
     obtain ⟨hm',cs',L',p1,p2,p3⟩:=hoj
     refine ⟨hm',cs',L',p1,p2,?_⟩
     have e2:g1.D j=g.D j:=by simp [g1,upd,hj]
     rw [e2]
     exact p3
  ·by_cases hj:j=k
   ·subst hj
    have:=hI.nodup j
    rw [AM] at this
    simpa [g1,upd] using this.1
   ·have:=hI.nodup j
    simpa [g1,upd,hj] using this
theorem Zxn [NW] (m:Bool × Nat × Nat) (hI:Inv W U st a w) (hk:∀k,st.n≤k→¬U k):∃U',Inv W U' (st.mat m) a w∧∀k,(st.mat m).n≤k→¬U' k:=by
 have same:∃U',Inv W U' st a w∧∀k,st.n≤k→¬U' k:=⟨U,hI,hk⟩
 have hk0:¬U st.n:=hk st.n (A4 _)
 have hU'n:∀k,st.n+1≤k→¬(U k∨k=st.n):=fun k hk' h=>by
  rcases h with h | h
  ·exact hk k (by omega) h
  ·omega
 have new:∀(e q:Nat),0<q→∀g,HI W g st.ob w→∃g',HI W g' (upd st.ob st.n (.row e q [] 2)) w∧(∀x u,svU U x→SVR g w x u→SVR g' w x u)∧g'.val st.n=.slice none 0 0∧(∀x u,avU U x→AVR g w x u→AVR g' w x u):=fun e q hq g hH=>by
  obtain ⟨t1,t2⟩:=hH.turn (key:=st.n) (U:=U) (w':=w) (v:=.slice none 0 0) (O:=[]) (D:=[]) (o:=.row e q [] 2) hI.wf.ob hk0 [] (by simp) hH.below (A4 _) (fun _ _ _=>rfl) (by simp) (by simp) (by simp) (by simp)
   (fun _=>⟨hq,[],[],by simpa [Gh.turn,upd] using ZjM _ _ _ _,⟨rfl,rfl⟩,.inl ⟨rfl,by simp [Gh.turn,upd,Value.ownBlock],by simp [Gh.turn]⟩⟩)
  refine ⟨_,t1,t2,by simp [Gh.turn,upd],fun x u hx hu=>hu.move hx (fun k hk'=>ZN _ _ fun e=>hk0 (e ▸ hk')) (fun _ _ _=>rfl) (Zog (by simp) (by simp))⟩
 have up:∀k,U k→(U k∨k=st.n):=fun _ h=>.inl h
 obtain ⟨⟨g,hH,hS⟩,hU,hdef,hh⟩:=hI
 have tree:∀k e q xs d,st.ob k=.row e q xs d→∃g1:Gh,HI W g1 (upd st.ob k (.row e q xs 0)) w∧g1.val=g.val∧Xo g1 g∧U k∧∀v,AVR g w (.row k) v→AVR g1 w (.c (.sl e q xs)) v:=fun k e q xs d hob=>by
  obtain ⟨g1,i1,i2,i3,_⟩:=ZiI hH k
  rw [hob] at i1
  obtain ⟨L,t1,t2⟩:=Zqj i1 (ZD st.ob k (.row e q xs 0))
  exact ⟨g1,i1,i2,i3,Classical.byContradiction fun hn=>by have:=hU.gone _ hn;rw [hob] at this;simp at this,fun v hv=>⟨L,by rw [hv.1,←i2];exact t1,t2⟩⟩
 have sets:∀{gg:Gh} {cs:List AV} {vs:List Value} {j:Nat} {y:AV} {v:Value},ZL (AVR gg w) cs vs→vs[j]?=some v→AVR gg w y v→ZL (AVR gg w) (cs.set j y) vs:=fun {gg cs vs j y v} h1 h2 h3=>by
  have:=h1.set (i:=j) h3
  obtain ⟨hl,he⟩:=AC.1 h2
  rw [←he,AY hl] at this
  exact this
 have pset:∀{gg:Gh} {ag:Bool} {cs:List AV} {v:Value} {j:Nat} {x y:AV},PVR gg w ag cs v→cs[j]?=some x→(∀u,AVR gg w x u→AVR gg w y u)→PVR gg w ag (cs.set j y) v:=fun {gg ag cs v j x y} h1 h2 h3=>by
  cases ag with
  | true=>
   obtain ⟨vs,rfl,h4⟩:=h1
   obtain ⟨u,u1,u2⟩:=h4.at h2
   exact ⟨vs,rfl,sets h4 u1 (h3 u u2)⟩
  | false=>
   obtain ⟨z,rfl,h4⟩:=h1
   cases j with
   | zero=>simp at h2;subst h2;exact ⟨y,rfl,h3 v h4⟩
   | succ j=>simp at h2
 have uset:∀{V:Nat→Prop} {cs:List AV} {j:Nat} {y:AV},Qn V cs→avU V y→Qn V (cs.set j y):=fun {V cs j y} h1 h2 z mz=>by
  rcases AZ mz with mz | mz
  ·exact h1 z mz
  ·subst mz;exact h2
 unfold St.mat
 split
 ·split
  ·rename_i ag cs hsl
   have hcu:Qn U cs:=by have:=hU.sl m.2.1;rw [hsl] at this;exact this
   have hs:=hS m.2.1
   rw [hsl] at hs
   split
   ·rename_i e q hcs
    split
    ·rename_i hq
     obtain ⟨g',t1,t2,t3,t4⟩:=new e q hq g hH
     refine ⟨fun k=>U k∨k=st.n,⟨⟨g',t1,fun t=>?_⟩,⟨fun t=>?_,fun k=>?_,fun k hk'=>?_⟩,hdef,hh⟩,hU'n⟩
     ·show SVR g' w (upd st.sl m.2.1 (.p ag (cs.set m.2.2 (.row st.n))) t) _
      by_cases ht:t=m.2.1
      ·subst ht
       rw [ZD]
       have h1:PVR g' w ag cs (a.tmps.getD m.2.1 undef):=t2 (.p ag cs) _ hcu hs
       refine pset h1 hcs fun u hu=>?_
       have hu':u=.slice none 0 0:=hu
       rw [hu']
       exact ⟨t3.symm,rfl⟩
      ·rw [ZN _ _ ht];exact t2 _ _ (hU.sl t) (hS t)
     ·show svU _ (upd st.sl m.2.1 (.p ag (cs.set m.2.2 (.row st.n))) t)
      by_cases ht:t=m.2.1
      ·subst ht;rw [ZD];exact uset (hcu.mono up) (.inr rfl)
      ·rw [ZN _ _ ht];exact (hU.sl t).mono up
     ·show obU _ (upd st.ob st.n _ k)
      by_cases hk':k=st.n
      ·subst hk';rw [ZD];trivial
      ·rw [ZN _ _ hk'];exact (hU.ob k).mono up
     ·show upd st.ob st.n _ k=_
      rw [ZN _ _ fun e=>hk' (.inr e)];exact hU.gone k fun h=>hk' (.inl h)
    ·exact same
   ·rename_i k hcs
    split
    ·rename_i e q xs d hob
     obtain ⟨g1,i1,i2,i3,hUk,i4⟩:=tree k e q xs d hob
     refine ⟨U,⟨⟨g1,i1,fun t=>?_⟩,⟨fun t=>?_,fun j=>?_,fun j hj=>?_⟩,hdef,hh⟩,hk⟩
     ·show SVR g1 w (upd st.sl m.2.1 (.p ag (cs.set m.2.2 (.c (.sl e q xs)))) t) _
      by_cases ht:t=m.2.1
      ·subst ht
       rw [ZD]
       have h1:PVR g1 w ag cs (a.tmps.getD m.2.1 undef):=(show SVR g w (.p ag cs) _ from hs).less i2 i3
       exact pset h1 hcs fun u hu=>i4 u ⟨hu.1.trans (by rw [i2]),hu.2⟩
      ·rw [ZN _ _ ht];exact (hS t).less i2 i3
     ·show svU _ (upd st.sl m.2.1 (.p ag (cs.set m.2.2 (.c (.sl e q xs)))) t)
      by_cases ht:t=m.2.1
      ·subst ht;rw [ZD];exact uset hcu trivial
      ·rw [ZN _ _ ht];exact hU.sl t
     ·show obU U (upd st.ob k (.row e q xs 0) j)
      by_cases h1:j=k
      ·subst h1;rw [ZD];trivial
      ·rw [ZN _ _ h1];exact hU.ob j
     ·show upd st.ob k (.row e q xs 0) j=_
      rw [ZN _ _ (show j≠k from fun e'=>hj (e' ▸ hUk))];exact hU.gone j hj
    ·exact same
   ·exact same
  ·exact same
 ·split
  ·rename_i ty cs hob
   split
   ·rename_i e q hcs
    split
    ·rename_i hq
     obtain ⟨g',t1,t2,t3,t4⟩:=new e q hq g hH
     have hUk:U m.2.1:=Classical.byContradiction fun hn=>by have:=hU.gone _ hn;rw [hob] at this;simp at this
     have hne:m.2.1≠st.n:=fun e=>hk0 (e ▸ hUk)
     have hcu:Qn U cs:=by have:=hU.ob m.2.1;rw [hob] at this;exact this
     have hbox:=t1.obs m.2.1
     rw [ZN _ _ hne,hob] at hbox
     obtain ⟨b,vs,b1,b2,b3,b4,b5⟩:=hbox
     obtain ⟨u,u1,u2⟩:=b5.at hcs
     have u2':u=.slice none 0 0:=u2
     have hvs:vs.set m.2.2 u=vs:=by
      obtain ⟨hl,he⟩:=AC.1 u1
      rw [←he];exact AY hl
     have hbox':ObR g' w m.2.1 (.box ty (cs.set m.2.2 (.row st.n))):=by
      refine ⟨b,vs,b1,b2,b3,b4,?_⟩
      have:=b5.set (i:=m.2.2) (a:=AV.row st.n) (b:=u) ⟨by rw [u2',t3],by rw [u2'];rfl⟩
      rw [hvs] at this
      exact this
     have hob':∀k,(upd (upd st.ob m.2.1 (.box ty (cs.set m.2.2 (.row st.n)))) st.n (.row e q [] 2)) k=if k=m.2.1 then .box ty (cs.set m.2.2 (.row st.n)) else (upd st.ob st.n (.row e q [] 2)) k:=fun k=>by
      by_cases h1:k=st.n
      ·have h2:¬k=m.2.1:=fun e'=>hne (e'.symm.trans h1)
       have h3:¬st.n=m.2.1:=fun e'=>hne e'.symm
       simp [upd,h1,h3]
      ·by_cases h2:k=m.2.1
       ·simp [upd,h2,hne]
       ·simp [upd,h1,h2]
     refine ⟨fun k=>U k∨k=st.n,⟨⟨g',⟨t1.below,fun k=>?_,t1.nodup,t1.apart,fun k b mb=>⟨(t1.plain k b mb).1,(t1.plain k b mb).2.of (by
       show Zjf ((upd (upd st.ob m.2.1 (.box ty (cs.set m.2.2 (.row st.n)))) st.n (.row e q [] 2)) k)=_
       rw [hob' k]
       split
       ·rename_i h1;subst h1;rw [ZN _ _ hne,hob];rfl
       ·rfl)⟩,t1.gz,t1.zx,t1.nw⟩,fun t=>t2 _ _ (hU.sl t) (hS t)⟩,⟨fun t=>(hU.sl t).mono up,fun k=>?_,fun k hk'=>?_⟩,hdef,hh⟩,hU'n⟩
     ·show ObR g' w k ((upd (upd st.ob m.2.1 (.box ty (cs.set m.2.2 (.row st.n)))) st.n (.row e q [] 2)) k)
      rw [hob' k]
      split
      ·rename_i h1;subst h1;exact hbox'
      ·exact t1.obs k
     ·show obU _ ((upd (upd st.ob m.2.1 (.box ty (cs.set m.2.2 (.row st.n)))) st.n (.row e q [] 2)) k)
      rw [hob' k]
      split
      ·intro y my
       rcases AZ my with my | my
       ·exact (hcu y my).mono up
       ·subst my;exact .inr rfl
      ·by_cases h1:k=st.n
       ·subst h1;rw [ZD];trivial
       ·rw [ZN _ _ h1];exact (hU.ob k).mono up
     ·show (upd (upd st.ob m.2.1 (.box ty (cs.set m.2.2 (.row st.n)))) st.n (.row e q [] 2)) k=_
      rw [hob' k,if_neg (show ¬k=m.2.1 from fun e'=>hk' (.inl (e' ▸ hUk))),ZN _ _ (show k≠st.n from fun e'=>hk' (.inr e'))]
      exact hU.gone k fun h=>hk' (.inl h)
    ·exact same
   ·rename_i k hcs
    split
    ·rename_i e q xs d hob2
     obtain ⟨g1,i1,i2,i3,hUk,i4⟩:=tree k e q xs d hob2
     have hUm:U m.2.1:=Classical.byContradiction fun hn=>by have:=hU.gone _ hn;rw [hob] at this;simp at this
     have hne:k≠m.2.1:=fun e'=>by rw [e',hob] at hob2;simp at hob2
     have hcu:Qn U cs:=by have:=hU.ob m.2.1;rw [hob] at this;exact this
     have hbox:=i1.obs m.2.1
     rw [ZN _ _ (fun e'=>hne e'.symm),hob] at hbox
     obtain ⟨b,vs,b1,b2,b3,b4,b5⟩:=hbox
     obtain ⟨u,u1,u2⟩:=b5.at hcs
     have hbox':ObR g1 w m.2.1 (.box ty (cs.set m.2.2 (.c (.sl e q xs)))):=⟨b,vs,b1,b2,b3,b4,sets b5 u1 (i4 u ⟨u2.1.trans (by rw [i2]),u2.2⟩)⟩
     refine ⟨U,⟨⟨g1,⟨i1.below,fun j=>?_,i1.nodup,i1.apart,fun j b mb=>⟨(i1.plain j b mb).1,(i1.plain j b mb).2.of (by
       show Zjf (upd (upd st.ob k (.row e q xs 0)) m.2.1 (.box ty (cs.set m.2.2 (.c (.sl e q xs)))) j)=_
       by_cases h1:j=m.2.1
       ·subst h1;rw [ZD,ZN _ _ (fun e'=>hne e'.symm),hob];rfl
       ·rw [ZN _ _ h1])⟩,i1.gz,i1.zx,i1.nw⟩,fun t=>(hS t).less i2 i3⟩,⟨hU.sl,fun j=>?_,fun j hj=>?_⟩,hdef,hh⟩,hk⟩
     ·show ObR g1 w j (upd (upd st.ob k (.row e q xs 0)) m.2.1 (.box ty (cs.set m.2.2 (.c (.sl e q xs)))) j)
      by_cases h1:j=m.2.1
      ·subst h1;rw [ZD];exact hbox'
      ·rw [ZN _ _ h1];exact i1.obs j
     ·show obU U (upd (upd st.ob k (.row e q xs 0)) m.2.1 (.box ty (cs.set m.2.2 (.c (.sl e q xs)))) j)
      by_cases h1:j=m.2.1
      ·subst h1;rw [ZD];exact uset hcu trivial
      ·rw [ZN _ _ h1]
       by_cases h2:j=k
       ·subst h2;rw [ZD];trivial
       ·rw [ZN _ _ h2];exact hU.ob j
     ·show upd (upd st.ob k (.row e q xs 0)) m.2.1 (.box ty (cs.set m.2.2 (.c (.sl e q xs)))) j=_
      rw [ZN _ _ (show j≠m.2.1 from fun e'=>hj (e' ▸ hUm)),ZN _ _ (show j≠k from fun e'=>hj (e' ▸ hUk))];exact hU.gone j hj
    ·exact same
   ·exact same
  ·rename_i e q xs d hob
   split
   ·rename_i hlt
    have hUk:U m.2.1:=Classical.byContradiction fun hn=>by have:=hU.gone _ hn;rw [hob] at this;simp at this
    obtain ⟨g1,t1,t2,t3⟩:=Zxu hH hob hlt
    refine ⟨U,⟨⟨g1,t1,fun t=>(hS t).less t2 t3⟩,⟨hU.sl,fun k=>?_,fun k hk'=>?_⟩,hdef,hh⟩,hk⟩
    ·show obU U (upd st.ob m.2.1 (.row e q xs m.2.2) k)
     by_cases h1:k=m.2.1
     ·subst h1;rw [ZD];trivial
     ·rw [ZN _ _ h1];exact hU.ob k
    ·show upd st.ob m.2.1 (.row e q xs m.2.2) k=_
     rw [ZN _ _ (show k≠m.2.1 from fun e'=>hk' (e' ▸ hUk))];exact hU.gone k hk'
   ·exact same
  ·exact same
theorem ZuR [NW] (m:Bool × Nat × Nat) (hI:Inv W U st a w) (hk:∀k,st.n≤k→¬U k):∃U',Inv W U' (st.matN m) a w∧∀k,(st.matN m).n≤k→¬U' k:=by
 have same:∃U',Inv W U' st a w∧∀k,st.n≤k→¬U' k:=⟨U,hI,hk⟩
 obtain ⟨⟨g,hH,hS⟩,hU,hdef,hh⟩:=hI
 unfold St.matN
 split
 ·rename_i ag cs hsl
  have hcu:Qn U cs:=by have:=hU.sl m.2.1;rw [hsl] at this;exact this
  have hs:=hS m.2.1
  rw [hsl] at hs
  split
  ·rename_i k hcs
   split
   ·rename_i e q xs d hob
    split
    ·rename_i hd
     subst hd
     obtain ⟨g1,i1,i2,i3,i5⟩:=ZiI hH k
     rw [hob] at i1
     obtain ⟨hm,cs0,L,o1,o2,o3,o5⟩:=hH.deep hob
     have i4:∀v,AVR g w (.row k) v→AVR g1 w (.n (.sl e q xs)) v:=fun v hv=>by
      rcases o5 with ⟨_,q1,q2⟩ | ⟨q1,_⟩ | ⟨q1,_⟩
      ·have hN:=hH.nodup k
       have hP:=hH.plain k
       have hF:=i5 ⟨_,_,_,_,hob⟩
       rw [q1,q2] at hN hP hF
       rw [hob] at hP
       refine ⟨e,q,xs,cs0,L,rfl,hm,by rw [hv.1];exact o1,o2,by rw [hv.1];exact hN,fun b mb=>?_⟩
       rw [hv.1] at mb
       exact ⟨hF b mb,hH.nw b (hP b mb).1,(hP b mb).2⟩
      ·omega
      ·omega
     have hUk:U k:=Classical.byContradiction fun hn=>by have:=hU.gone _ hn;rw [hob] at this;simp at this
     refine ⟨U,⟨⟨g1,i1,fun t=>?_⟩,⟨fun t=>?_,fun j=>?_,fun j hj=>?_⟩,hdef,hh⟩,hk⟩
     ·show SVR g1 w (upd st.sl m.2.1 (.p ag (cs.set (m.2.2 - 4096) (.n (.sl e q xs)))) t) _
      by_cases ht:t=m.2.1
      ·subst ht
       rw [ZD]
       have h0:PVR g w ag cs (a.tmps.getD m.2.1 undef):=hs
       have h1:PVR g1 w ag cs (a.tmps.getD m.2.1 undef):=(show SVR g w (.p ag cs) _ from hs).less i2 i3
       cases ag with
       | true=>
        obtain ⟨vs,e1,h4⟩:=h0
        obtain ⟨vs',e1',h4'⟩:=h1
        have ev:vs=vs':=by rw [e1] at e1';simpa using e1'
        subst ev
        obtain ⟨u,u1,u2⟩:=h4.at hcs
        refine ⟨vs,e1,?_⟩
        have:=h4'.set (i:=m.2.2 - 4096) (i4 u u2)
        obtain ⟨hl,he⟩:=AC.1 u1
        rw [←he,AY hl] at this
        exact this
       | false=>
        obtain ⟨z,rfl,h4⟩:=h0
        cases hj:m.2.2 - 4096 with
        | zero=>rw [hj] at hcs;simp at hcs;subst hcs;exact ⟨_,rfl,i4 _ h4⟩
        | succ j=>rw [hj] at hcs;simp at hcs
      ·rw [ZN _ _ ht];exact (hS t).less i2 i3
     ·show svU U (upd st.sl m.2.1 (.p ag (cs.set (m.2.2 - 4096) (.n (.sl e q xs)))) t)
      by_cases ht:t=m.2.1
      ·subst ht;rw [ZD]
       intro z mz
       rcases AZ mz with mz | mz
       ·exact hcu z mz
       ·subst mz;trivial
      ·rw [ZN _ _ ht];exact hU.sl t
     ·show obU U (upd st.ob k (.row e q xs 0) j)
      by_cases h1:j=k
      ·subst h1;rw [ZD];trivial
      ·rw [ZN _ _ h1];exact hU.ob j
     ·show upd st.ob k (.row e q xs 0) j=_
      rw [ZN _ _ (show j≠k from fun e'=>hj (e' ▸ hUk))];exact hU.gone j hj
    ·exact same
   ·exact same
  ·exact same
 ·exact same
theorem ZkX [NW]:∀(ms:List (Bool × Nat × Nat)) {U:Nat→Prop} {st:St},Inv W U st a w→(∀k,st.n≤k→¬U k)→∃U',Inv W U' (st.mats ms) a w
 | [],U,st,hI,_=>⟨U,hI⟩
 | m::r,U,st,hI,hk=>by
  simp only[St.mats]
  split
  ·obtain ⟨U',h1,h2⟩:=ZuR m hI hk
   exact ZkX r h1 h2
  ·obtain ⟨U',h1,h2⟩:=Zxn m hI hk
   exact ZkX r h1 h2
theorem least {p:Nat→Prop} (h:∃n,p n):∃n,p n∧∀m,m<n→¬p m:=by
 obtain ⟨n,hn⟩:=h
 induction n using Nat.strongRecOn with
 | _ n ih=>
  by_cases hm:∃m,m<n∧p m
  ·obtain ⟨m,h1,h2⟩:=hm;exact ih m h1 h2
  ·exact ⟨n,hn,fun m h1 h2=>hm ⟨m,h1,h2⟩⟩
theorem ZuB [NW] {c:Code} {Q:Exit→Act→World→Prop} (J:Nat→Act→World→Prop) (n:Nat) (h₀:J n a w) (round:∀n a w,J n a w→c.wp P (Exit.then (fun a' w'=>∃m,m<n∧J m a' w') Q) a w):(Code.loop c).wp P Q a w:=by
 classical
 let μ:Act→World→Nat:=fun a w=>if h:∃n,J n a w then Classical.choose (least h) else 0
 have hμ:∀a w (h:∃n,J n a w),J (μ a w) a w∧∀m,m<μ a w→¬J m a w:=fun a w h=>by
  simp only[μ,dif_pos h]
  exact Classical.choose_spec (least h)
 refine wp_loop (fun a w=>∃n,J n a w) μ ⟨n,h₀⟩ fun a w h=>?_
 refine wp_mono (round (μ a w) a w (hμ a w h).1) fun e a' w' he=>?_
 cases e with
 | normal=>
  obtain ⟨m,h1,h2⟩:=he
  refine ⟨⟨m,h2⟩,?_⟩
  have h3:=hμ a' w' ⟨m,h2⟩
  rcases Nat.lt_or_ge m (μ a' w') with h4 | h4
  ·exact absurd h2 (h3.2 m h4)
  ·omega
 | _=>exact he
mutual
theorem RC.deep {w:World}:∀{x:CT} {v:Value} {L:List Nat},RC w x v L→ctD x
 | .int _ _,_,_,_=>trivial
 | .bool _,_,_,_=>trivial
 | .str _,_,_,h=>h.2.2
 | .sl _ _ _,_,_,⟨A,cap,cs,L0,L1,h1,h2,h3,h4,h5,h6,h7⟩=>⟨by unfold maxLen at h3;omega,h7.deep⟩
 | .pt _,_,_,⟨_,_,_,_,_,_,_,h⟩=>h.deep
 | .fn _ _,_,_,⟨_,_,h⟩=>h.deep
 | .mp _ _ _,_,_,_=>trivial
 | .ifc _,_,_,_=>trivial
 | .any,_,_,_=>trivial
 | .nl _ _,_,_,_=>trivial
theorem RCs.deep {w:World}:∀{x:List CT} {v:List Value} {L:List Nat},RCs w x v L→ctsD x
 | [],_,_,_=>trivial
 | _::_,_,_,⟨v,cs,L1,L2,h1,h2,h3,h4⟩=>⟨h3.deep,h4.deep⟩
theorem REs.deep {w:World} {m:Nat}:∀{x:List (List CT)} {v:List Value} {L:List Nat},REs w m x v L→essD x
 | [],_,_,_=>trivial
 | _::_,_,_,⟨c1,c2,L1,L2,h1,h2,h3,h4⟩=>⟨h3.1.deep,h4.deep⟩
end
theorem AVR.deep [NW] {g:Gh} {w:World}:∀{x:AV} {v:Value},AVR g w x v→avD x
 | .c _,_,⟨_,h,_⟩=>h.deep
 | .n _,_,h=>by obtain ⟨_,h1,_⟩:=NR.toC h;exact h1.deep
 | .row _,_,_=>trivial
 | .nil _ _,_,_=>trivial
 | .dead,_,_=>trivial
theorem AVRs.deep [NW] {g:Gh} {w:World}:∀{x:List AV} {v:List Value},ZL (AVR g w) x v→ZvU x
 | [],[],_=>trivial
 | _::_,_::_,h=>⟨h.1.deep,AVRs.deep h.2⟩
 | [],_::_,h=>h.elim
 | _::_,[],h=>h.elim
theorem Inv.deep [NW] (hI:Inv W U st a w):WF st:=by
 obtain ⟨⟨g,hH,hS⟩,hU,hdef,hh⟩:=hI
 refine ⟨fun t b cs ht=>?_,fun k t cs hk=>?_,fun k e m xs d hk=>?_⟩
 ·have h:=hS t
  rw [ht] at h
  cases b with
  | true=>obtain ⟨vs,_,h2⟩:=h;exact AVRs.deep h2
  | false=>obtain ⟨x,rfl,h2⟩:=h;exact ⟨h2.deep,trivial⟩
 ·have h:=hH.obs k
  rw [hk] at h
  obtain ⟨b,vs,_,_,_,_,h2⟩:=h
  exact AVRs.deep h2
 ·have h:=hH.obs k
  rw [hk] at h
  obtain ⟨_,cs,L,h1,h2,_⟩:=h
  refine ⟨?_,h2.deep⟩
  rcases h1.2 with ⟨_,h3⟩ | ⟨_,_,cap,_,_,_,_,h3,h4,_⟩
  ·omega
  ·unfold maxLen at h4;omega
def ZyC:Ex→Exit
 | .normal=>.normal
 | .exit id=>.exit id
 | .ret=>.ret
def Xh (od:OD) (tt:Nat→Option TI) (hs:FuncId→Nat) (k0:Bool) (N:Nat):Code→Bool
 | .skip=>true
 | .region id ops d=>(ops.toList.all fun o=>match o.dst with | some t=>Nat.blt t N&&(!k0||Nat.blt 0 t) | none=>true)&&(match od id with | none=>!d||ZsK tt hs ops | some l=>d&&Ztr tt hs l.2 ops l.1)
 | .seq x y=>Xh od tt hs k0 N x&&Xh od tt hs k0 N y
 | .cond _ x y=>Xh od tt hs k0 N x&&Xh od tt hs k0 N y
 | .block _ x=>Xh od tt hs k0 N x
 | .loop x=>Xh od tt hs k0 N x
 | .exit _=>true
 | .ret=>true
 | _=>false
theorem Qo [NW] {od:OD} (htt:MOk P J JF W tt) (hmix:P.follows .mixedOrders=true) {hds:FuncId→Nat} {k0:Bool} (hk0:W.hv=none∨k0=true) {N:Nat}:∀(c:Code),Xh od tt hds k0 N c=true→∀(Qs:Ex→St→Prop) (Q:Exit→Act→World→Prop),
  (∀ex U' st' a' w',Inv W U' st' a' w'→(∀k,st'.n≤k→¬U' k)→a'.tmps.size=N→Qs ex st'→Q (ZyC ex) a' w')→
  ∀U st a w,Inv W U st a w→(∀k,st.n≤k→¬U k)→a.tmps.size=N→swp tt (SC P J JF hds) od c Qs st→c.wp P Q a w
 | .skip,_,Qs,Q,hQ,U,st,a,w,hI,hk,hs,h=>wp_skip (hQ .normal U st a w hI hk hs h)
 | .exit id,_,Qs,Q,hQ,U,st,a,w,hI,hk,hs,h=>wp_exit (hQ (.exit id) U st a w hI hk hs h)
 | .ret,_,Qs,Q,hQ,U,st,a,w,hI,hk,hs,h=>wp_ret (hQ .ret U st a w hI hk hs h)
 | .region id ops d,hok,Qs,Q,hQ,U,st,a,w,hI,hk,hs,h=>by
  simp only[Xh,A9,AB] at hok
  have hN:∀o∈ops.toList,∀t,o.dst=some t→t<N∧(W.hv=none∨t≠0):=fun o mo t ht=>by
   have:=hok.1 o mo
   rw [ht] at this
   simp only[A9,AF] at this
   refine ⟨AA this.1,hk0.imp (fun h=>h) fun h=>?_⟩
   rcases this.2 with h2 | h2
   ·rw [h] at h2;simp at h2
   ·have h3:0<t:=AA h2
    exact Nat.ne_of_gt h3
  have hend:∀U' st' a' w',Inv W U' st' a' w'→(∀k,st.n+16 * ops.toList.length≤k→¬U' k)→a'.tmps.size=N→Zo3 (st.n+16 * ops.toList.length) (Qs .normal) st'→Q .normal a' w':=fun U' st' a' w' h1 h2 h3 h4=>
   hQ .normal U' { st' with n:=st.n+16 * ops.toList.length } a' w' ⟨h1.ex,⟨h1.wf.sl,h1.wf.ob,h1.wf.gone⟩,h1.defers,h1.hand⟩ h2 h3 h4
  have hdraw:Inv W U st a { w with drawn:=w.drawn+1 }:=by
   obtain ⟨⟨g,hH,hS⟩,hU,hdef,hh⟩:=hI
   have hw:∀b,b<w.heap.size→¬g.own b→({ w with drawn:=w.drawn+1 }:World).heap[b]?=w.heap[b]?:=fun _ _ _=>rfl
   refine ⟨⟨g,hH.step (U:=U) (fun _=>False) ⟨hH.below.os,hH.below.tape,hH.below.output,hH.below.size,hH.below.block⟩ rfl (fun _ _ _=>rfl) (fun _ _=>⟨rfl,rfl,rfl,rfl⟩) hU.ob (fun _ _=>rfl) (Qj.refl _ _) (fun _ h=>h.elim),fun t=>?_⟩,hU,hdef,hh⟩
   exact (hS t).move (hU.sl t) (fun _ _=>rfl) hw (Qj.refl _ _) (A4 _)
  have open_:∀(b:Bool) (R:List Nat),ZjU tt hds b ops R=true→(∀j,elB ops j=true)→R.length≤ops.size→(∀i,i∈R↔i<ops.size)→Zff tt (SC P J JF hds) b ops.toList st.n R (Zo3 (st.n+16 * ops.toList.length) (Qs .normal)) st→(Code.region id ops true).wp P Q a w:=fun b R h1 h2 h3 h4 h5=>by
   refine wp_region_any hmix ?_
   refine Zt9 (base:=st.n) htt hN h2 (fun U' st' a' w' h1 h2 h3 h4=>hend U' st' a' w' h1 (by simpa using h2) h3 h4) ops.size R (Array.replicate ops.size false) U st a _ h3 (Znr h1) (by simp) (fun i=>?_) (fun i o ho hl=>?_) h5 hdraw (fun j _ k hk' _=>hk k (by omega)) (fun k hk'=>hk k (by omega)) hs
   ·rw [h4]
    constructor
    ·intro hi;exact ⟨hi,by simp [A8,hi]⟩
    ·exact fun hi=>hi.1
   ·exfalso
    have hi:i<ops.size:=(AX.1 ho).1
    simp [A8,hi] at hl
  cases ho:od id with
  | none=>
   have hok2:=hok.2
   simp only[ho] at hok2
   simp only[swp,ho,ZtY] at h
   have h':Z5 tt (SC P J JF hds) ops.toList st.n ops.toList (Zo3 (st.n+16 * ops.toList.length) (Qs .normal)) st:=h
   cases d with
   | false=>
    refine wp_region ?_
    have:=ZnK (Q:=Q) htt hN ops.toList 0 st.n U st a w (by simp) h' hI hk hs hend
    rw [Ah]
    simpa using this
   | true=>
    have hdr:ZsK tt hds ops=true:=by simpa using hok2
    simp only[ZsK,A9] at hdr
    have h2:=Ztd (tt:=tt) (S:=SC P J JF hds) (all:=ops.toList) (base:=st.n) (K:=Zo3 (st.n+16 * ops.toList.length) (Qs .normal)) ops.toList 0 st (by simp) (by simpa using h')
    rw [←Ah] at h2
    exact open_ false (AO ops.size) hdr.1 (Zrx hdr.2) (by simp) (by simp) (by simpa using h2)
  | some l=>
   have hok2:=hok.2
   simp only[ho,A9] at hok2
   simp only[swp,ho,ZtY] at h
   obtain ⟨rfl,hdr⟩:=hok2
   simp only[Ztr,A9] at hdr
   exact open_ l.2 l.1 hdr.1.1.1.1 (Zrx hdr.1.1.1.2) (AA hdr.1.1.2) (fun i=>⟨fun mi=>AA (AB.1 hdr.1.2 i mi),fun hi=>by simpa using AB.1 hdr.2 i (by simpa using hi)⟩) h
 | .seq x y,hok,Qs,Q,hQ,U,st,a,w,hI,hk,hs,h=>by
  simp only[Xh,A9] at hok
  refine wp_seq (Qo htt hmix hk0 x hok.1 (Zgh (swp tt (SC P J JF hds) od y Qs) Qs) _ ?_ U st a w hI hk hs h)
  intro ex U' st' a' w' h1 h2 h3 h4
  cases ex with
  | normal=>exact Qo htt hmix hk0 y hok.2 Qs Q hQ U' st' a' w' h1 h2 h3 h4
  | exit id=>exact hQ (.exit id) U' st' a' w' h1 h2 h3 h4
  | ret=>exact hQ .ret U' st' a' w' h1 h2 h3 h4
 | .cond c x y,hok,Qs,Q,hQ,U,st,a,w,hI,hk,hs,h=>by
  simp only[Xh,A9] at hok
  simp only[swp,ZnY] at h
  split at h
  ·rename_i hb
   obtain ⟨b,hb'⟩:∃b,st.ev tt 0 c=.p false [.c (.bool b)]:=by
    unfold QJ at hb
    split at hb
    ·rename_i b he;exact ⟨b,he⟩
    ·simp at hb
   obtain ⟨g,hH,hS⟩:=hI.ex
   have hv:=(Zkm (P:=P) htt.tt hS hI.wf 0 c).1
   rw [hb'] at hv
   have hv':=ZfE hv
   refine wp_cond hv' ?_
   cases b with
   | true=>rw [if_pos (by rw [hb'];rfl)] at h;exact Qo htt hmix hk0 x hok.1 Qs Q hQ U st a w hI hk hs h
   | false=>rw [if_neg (by rw [hb'];simp [XN])] at h;exact Qo htt hmix hk0 y hok.2 Qs Q hQ U st a w hI hk hs h
  ·exact h.elim
 | .block id x,hok,Qs,Q,hQ,U,st,a,w,hI,hk,hs,h=>by
  refine wp_block (Qo htt hmix hk0 x hok (Zge id Qs) _ ?_ U st a w hI hk hs h)
  intro ex U' st' a' w' h1 h2 h3 h4
  cases ex with
  | normal=>exact hQ .normal U' st' a' w' h1 h2 h3 h4
  | exit j=>
   show Exit.inBlock id Q (.exit j) a' w'
   simp only[Zge] at h4
   simp only[Exit.inBlock]
   split
   ·rename_i e;rw [if_pos e] at h4;exact hQ .normal U' st' a' w' h1 h2 h3 h4
   ·rename_i e;rw [if_neg e] at h4;exact hQ (.exit j) U' st' a' w' h1 h2 h3 h4
  | ret=>exact hQ .ret U' st' a' w' h1 h2 h3 h4
 | .loop x,hok,Qs,Q,hQ,U,st,a,w,hI,hk,hs,h=>by
  obtain ⟨n,hn⟩:=h
  refine ZuB (fun n a w=>∃U st,Inv W U st a w∧(∀k,st.n≤k→¬U k)∧a.tmps.size=N∧Zkc (swp tt (SC P J JF hds) od x) Qs n st) n ⟨U,st,hI,hk,hs,hn⟩ ?_
  rintro n a w ⟨U,st,hI,hk,hs,hn⟩
  cases n with
  | zero=>exact hn.elim
  | succ n=>
   obtain ⟨ms,ρ,hρ,hb⟩:=hn
   obtain ⟨U2,hI2⟩:=ZkX ms hI hk
   refine Qo htt hmix hk0 x hok (Zgh (Zkc (swp tt (SC P J JF hds) od x) Qs n) Qs) _ ?_ _ ((st.mats ms).ren ρ) a w (Zs7 hI2 hρ) (fun k hk' hU=>by simp only[St.ren] at hk';omega) hs (hb (Zs7 hI2 hρ).deep)
   intro ex U' st' a' w' h1 h2 h3 h4
   cases ex with
   | normal=>exact ⟨n,by omega,U',st',h1,h2,h3,h4⟩
   | exit id=>exact hQ (.exit id) U' st' a' w' h1 h2 h3 h4
   | ret=>exact hQ .ret U' st' a' w' h1 h2 h3 h4
 | .rangeFunc _ _ _ _,hok,_,_,_,_,_,_,_,_,_,_,_=>by simp [Xh] at hok
 | .scope _,hok,_,_,_,_,_,_,_,_,_,_,_=>by simp [Xh] at hok
 | .label _,hok,_,_,_,_,_,_,_,_,_,_,_=>by simp [Xh] at hok
 | .goto _,hok,_,_,_,_,_,_,_,_,_,_,_=>by simp [Xh] at hok
 | .refuse _,hok,_,_,_,_,_,_,_,_,_,_,_=>by simp [Xh] at hok
end
end
end Go.Proofs.YtfehfkfdfmcgfaaGreatDoor
