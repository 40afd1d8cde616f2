/- Texts of this proof, joined: BOps7, BOps8, BFrz, BOpsM, BOps9, BCall, BCall2, BReg, BDraw, BAny. What each holds is said at its theorems. -/
import Derived.Test.YtekbmedphidcgaaGreatDoorGivenEnoughQ4
import Derived.MapKept
import Derived.Orders
open Array renaming getD_eq_getD_getElem?→AB,getElem?_eq_some_iff→Aa,getElem?_setIfInBounds_ne→Ac,ext'→Am,getElem?_setIfInBounds→Aq
open Bool renaming and_eq_true→AC,or_eq_true→AW
open List renaming mem_append→A4,mem_map→A7,mem_cons→A8,mem_flatMap→AA,all_eq_true→AF,range'→AI,nodup_append→AK,not_mem_nil→AM,replicate→AP,nil_sublist→AR,cons_append→AS,map_congr_left→AU,range→AX,eq_nil_of_length_eq_zero→AY,flatMap_cons→AZ,mem_range'_1→Ab,map_map→Ad,nodup_cons→Ae,nil_append→Ag,map_cons→Ak,range'_succ→Ap,mem_of_getElem?→Ar,replicate_succ→As,flatten_cons→At,map_append→Au,append_nil→Aw,all_cons→Ay,flatMap_append→Az,sublist_append_right→B2,take_succ_cons→B3,drop_succ_cons→B4,drop_append→B6,drop_of_length_le→B7,drop_append_of_le_length→B9,map_nil→BB,length_cons→BC,mem_filterMap→BE
open List.Sublist renaming refl→AE,append→AH
open List.cons renaming injEq→AT
open Nat renaming le_refl→A9,le_of_ble_eq_true→AG,zero_le→AJ,add_mul→AO,le_trans→AQ,lt_of_lt_of_le→Af,add_sub_cancel_left→Ah,zero_add→Aj,mul_le_mul→Ax,add_assoc→B5,le_add_right→B8,mul_le_mul_right→BA
open Option renaming map_eq_some_iff→A3,bind_eq_some_iff→A5,map_some→AD,bind_some→AL,map_none→AN,getD_some→Al
open Option.some renaming injEq→A0
open Prod.mk renaming injEq→A6
set_option linter.unusedSimpArgs false
set_option linter.unusedVariables false
set_option maxRecDepth 1000000
set_option maxHeartbeats 4000000
namespace Go.Proofs.YtekbmedphidcgaaGreatDoor
section
open Go.RowKit
section
variable {P:Program} {W:QK} {U:Nat→Prop} {key:Nat} {st:St} {g:Gh} {w w':World} {a:Act} {tt:Nat→Option TI}
theorem Zwb [NW] (htt:∀t i,tt t=some i→TOk P t i) (hI:HI W g st.ob w) (hS:∀t,SVR g w (st.sl t) (a.tmps.getD t undef)) (hU:StU U st) (hkey:¬U key) {t len e m bytes:Nat} {z:List AV} (hti:tt t=some (.slice e m bytes z)) {parts:Array (Nat × Operand)} {xs:List (List CT)} {ks:List Nat} {d:Nat}
  (h:YL st m (parts.toList.map fun p=>st.ev tt e p.2)=some (xs,ks,d)) (hr:parts.toList.map (·.1)=AX len) (hl:len * m≤16777216) (hnd:ks.Nodup) {s:Sem Next} (hs:s=(do pure (.value (←Instr.buildSlice t len (parts.map fun (i,x)=>(i,a.eval x)))))):
  Fin P W U key st g w s (.p false [.row key],ZO st ks++[(key,.row e m xs d)]):=by
 obtain ⟨hu,hm,_,⟨ie,zv,hie,hsz,hby,hz,hzc,hzl⟩,_⟩:=htt t _ hti
 have hall:ZH (fun s v=>SVR g w s v∧svU U s) (parts.toList.map fun p=>st.ev tt e p.2) (parts.toList.map fun p=>a.eval p.2):=ZH.of_map _ _ fun p _=>Zi6 htt hS hU e p.2
 obtain ⟨cs,L,c1,c2,c3,c4⟩:=ZoK hI h hall
 have hlen:parts.toList.length=len:=by have:=congrArg List.length hr;simpa using this
 have hcl:cs.length=len:=by rw [c1.len];simpa using hlen
 have hxl:xs.length=len:=by
  have h1:=c2.len
  have h2:cs.flatten.length=len * m:=by
   have:∀(cs:List (List Value)) (vs:List Value),ZH (fun (c:List Value) (v:Value)=>v.cells=c.toArray∧c.length=m∧∀u∈c,u.oneCell'=true) cs vs→cs.flatten.length=cs.length * m:=by
    intro cs
    induction cs with
    | nil=>intro _ _;simp
    | cons c cs ih=>
     intro vs hh
     cases vs with
     | nil=>exact hh.elim
     | cons v vs=>simp [ih vs hh.2,hh.1.2.1,AO];omega
   rw [this cs _ c1,hcl]
  rw [h2] at h1
  exact (Nat.eq_of_mul_eq_mul_right hm h1).symm
 have hparts:(parts.map fun x=>match x with | (i,x)=>(i,a.eval x)).toList=(AI 0 (parts.toList.map fun p=>a.eval p.2).length).zip (parts.toList.map fun p=>a.eval p.2):=by
  have e1:(parts.map fun x=>match x with | (i,x)=>(i,a.eval x)).toList=(parts.toList.map (·.1)).zip (parts.toList.map fun p=>a.eval p.2):=by
   rw [List.zip_map'];simp
  rw [e1,hr,List.range_eq_range']
  simp [hlen]
 have hrun:(Instr.buildSlice t len (parts.map fun (i,x)=>(i,a.eval x))).run P w=.ok (.slice (some ⟨w.heap.size,0,none⟩) len len) (w.alloc (.cells cs.flatten.toArray e)):=by
  have hcells:∀base:List Value,base.length=len * m→Instr.fill (fun i=>some (i * m,m)) base.toArray (parts.map fun x=>match x with | (i,x)=>(i,a.eval x)).toList=some cs.flatten.toArray:=fun base hb=>by
   rw [hparts]
   have:=Zoo cs (parts.toList.map fun p=>a.eval p.2) 0 [] base c1 (by simp) (by simpa [hlen] using hb)
   simpa using this
  by_cases h0:len=0
  ·subst h0
   have hcs0:cs=[]:=AY hcl
   subst hcs0
   have hp0:parts=#[]:=by
    have:parts.toList=[]:=AY hlen
    simpa using this
   subst hp0
   simp [Instr.buildSlice,Yh hu,Xp hie,Instr.fill,newRow,Array.range_zero']
  ·have hpos:¬len * ie.size=0:=by
    rw [hsz];intro e;rcases Nat.mul_eq_zero.1 e with e | e<;>omega
   refine run_buildSlice w t e len _ _ ie zv hu hie hz (by rw [hsz];omega) hpos ?_
   rw [hsz]
   have hb:=hcells ((Array.range (len * m)).map (zv.cells[· % zv.cells.size]!)).toList (by simp)
   rw [Array.toArray_toList] at hb
   exact hb
 have hown:=Zht <| World.ownsRow_lit (base:=0) (e:=e) (size:=m) w cs.flatten.toArray len (AJ _) (by unfold maxLen;have:=Nat.le_mul_of_pos_right len hm;omega) (by
  have h1:=c2.len
  rw [hxl] at h1
  simpa using h1)
 refine Zqb hI hU hkey hm (v:=.slice (some ⟨w.heap.size,0,none⟩) len len) (cs:=cs.flatten) (w':=w.alloc (.cells cs.flatten.toArray e)) (by rw [hxl];simpa using hown) rfl ((Below.refl _ _).alloc (A9 _) _) ⟨_,_,heap_alloc_new w _⟩ c2 c3 c4 (Zjb h) hnd ?_
 subst hs
 simp only[Sem.run_bind,hrun,Result.andThen_ok,Sem.run_pure]
theorem ZgF {m:Nat} {ze:List CT} {zc:List Value} (h:RCs w ze zc []) (hl:zc.length=m):∀n:Nat,REs w m (AP n ze) (AP n zc).flatten []
 | 0=>by simp [REs]
 | n+1=>by
  rw [As,As,At]
  exact ⟨zc,_,[],[],rfl,rfl,⟨h,hl⟩,ZgF h hl n⟩
theorem Znr [NW]:∀{z:List AV} {zs:List Value} {ze:List CT},Zjt z=some ze→ZH (fun a v=>QV a v=true) z zs→RCs w ze zs []
 | [],[],ze,h,_=>by simp [Zjt] at h;subst h;exact ⟨rfl,rfl⟩
 | [],_::_,_,_,h=>h.elim
 | _::_,[],_,_,h=>h.elim
 | .c x::z,v::zs,ze,h,hr=>by
  simp only[Zjt] at h
  obtain ⟨b,h1,rfl⟩:=A3.1 h
  have hx:=Zep (g:=⟨fun _=>undef,fun _=>[],fun _=>[],fun _=>False⟩) (w:=w) hr.1
  obtain ⟨L,hL,_⟩:=hx
  have d:L=[]:=by
   have:=hr.1
   cases x with
   | int k n=>exact hL.2
   | bool b=>exact hL.2
   | str s=>exact hL.2.1
   | _=>simp [QV] at this
  subst d
  exact ⟨v,zs,[],[],rfl,rfl,hL,Znr h1 hr.2⟩
 | .nil e m::z,v::zs,ze,h,hr=>by
  simp only[Zjt] at h
  split at h
  ·rename_i hm
   obtain ⟨b,h1,rfl⟩:=A3.1 h
   have hv:v=.slice none 0 0:=Zep (g:=⟨fun _=>undef,fun _=>[],fun _=>[],fun _=>False⟩) (w:=w) hr.1
   subst hv
   exact ⟨_,zs,[],[],rfl,rfl,⟨none,0,[],[],[],rfl,yG,AJ _,rfl,hm,Sl.zero,rfl,rfl⟩,Znr h1 hr.2⟩
  ·simp at h
 | .row k::z,v::zs,ze,h,_=>by simp [Zjt] at h
 | .n x::z,v::zs,ze,h,_=>by simp [Zjt] at h
 | .dead::z,v::zs,ze,h,_=>by simp [Zjt] at h
theorem ZmO (z:Array Value) (m:Nat) (hz:z.size=m) (hm:0<m):∀n:Nat,(madeCells z (n * m)).toList=(AP n z.toList).flatten
 | 0=>by simp [madeCells]
 | n+1=>by
  have ih:=ZmO z m hz hm n
  rw [List.replicate_succ',List.flatten_append,←ih]
  simp only[madeCells,Array.toList_map,Array.toList_range,AO,Nat.one_mul,List.range_add,Au,Ad,At,List.flatten_nil,Aw]
  congr 1
  apply List.ext_getElem?
  intro j
  by_cases hj:j<m
  ·simp only[List.getElem?_map,List.getElem?_range hj,AD,Function.comp]
   have e:(n * m+j) % z.size=j:=by
    rw [hz,Nat.add_comm,Nat.add_mul_mod_self_right,Nat.mod_eq_of_lt hj]
   have a:j<z.size:=by omega
   simp [e,a]
  ·have h1:z.size≤j:=by omega
   simp [hj,h1]
theorem ZvA [NW] (htt:∀t i,tt t=some i→TOk P t i) (hI:HI W g st.ob w) (hU:StU U st) (c:¬U key) {t e m a:Nat} {z:List AV} (k:tt t=some (.slice e m a z)) {n:Nat} {ze:List CT} (hz:Zjt z=some ze) (hn:n≤1073741824) {s:Sem Next}
  (hs:s=(do pure (.value (←Instr.makeSlice t (.int .i64 n) (.int .i64 n))))):Fin P W U key st g w s (.p false [.row key],[(key,.row e m (AP n ze) 2)]):=by
 obtain ⟨hu,hm,hby0,⟨ie,zv,l,o,hby,q,f,u⟩,_⟩:=htt t _ k
 have v:ie.bytes * n≤281474976710656:=by
  have:=Ax (show ie.bytes≤131072 by omega) hn
  omega
 obtain ⟨w',r1,r2,r3⟩:=run_make_full (P:=P) w 0 t e ie zv m hu l q o .i64 .i64 n v (by unfold maxLen;omega) (AJ _)
 have j:zv.cells.size=m:=by rw [←u,f.len];simp
 rw [ZmO zv.cells m j hm n] at r2
 have x:=ZgF (Znr (w:=w) hz f) (by simpa using j) n
 have hb:Below w.heap.size w w':=(Below.refl _ _).grown r3 (A9 _) yG
 have y:∃b e,w'.heap[w.heap.size]?=some (.cells b e (0,0)):=by
  rcases r2.2 with ⟨h',_⟩ | ⟨g',cap',b,h',_,hg,_⟩
  ·simp at h'
  ·simp at h'
   rw [←h'.1] at hg
   exact ⟨b,e,hg⟩
 have:=Zsf (ks:=[]) (d:=2) hI hU c hm (xs:=AP n ze) (by simpa using Zht r2) rfl hb y x FP.nil yG yG yG (s:=s) (P:=P) (by subst hs;simp only[Sem.run_bind,r1,Result.andThen_ok,Sem.run_pure])
 simpa [Zaf] using this
theorem Zpm [NW] {t e:TypeId} {ty:TypeId} {ie:TypeInfo} (hu:P.underlying t=some (.slice e)) (a:P.info? e=some ie) (A B:Option Addr) (n c c':Nat) (b:n≤c):
  (Builtin.append_ #[t,t] ty #[.slice A n c,.slice B 0 c']).run P w=.ok (.slice A n c) w:=by
 cases A<;>cases B<;>simp [Builtin.append_,Yh hu,Xp a,Builtin.lenOf,Builtin.firstCells,loadCells,loadCellsFrom,storeCells,b]
theorem ZpL:∀{e:List CT} {cs:List Value} {L:List Nat},RCs w e cs L→e.all CT.flat=true→L=[]
 | [],_,_,h,_=>h.2
 | x::r,_,_,⟨v,cs',L1,L2,rfl,rfl,h1,h2⟩,hf=>by
  simp only[Ay,AC] at hf
  have e1:L1=[]:=by
   cases x with
   | int k n=>exact h1.2
   | bool b=>exact h1.2
   | str s=>exact h1.2.1
   | _=>simp [CT.flat] at hf
  rw [e1,ZpL h2 hf.2];rfl
theorem ZfO [NW] {m:Nat}:∀{xs:List (List CT)} {cs:List Value} {L:List Nat},REs w m xs cs L→Zal xs=true→L=[]
 | [],_,_,h,_=>h.2
 | x::r,_,_,⟨c1,c2,L1,L2,rfl,rfl,h1,h2⟩,hf=>by
  simp only[Zal,Ay,AC] at hf
  rw [ZpL h1.1 hf.1,ZfO h2 hf.2];rfl
theorem REs.append {m:Nat}:∀{xs ys:List (List CT)} {us vs:List Value} {L M:List Nat},REs w m xs us L→REs w m ys vs M→REs w m (xs++ys) (us++vs) (L++M)
 | [],_,_,_,_,_,h,h'=>by obtain ⟨rfl,rfl⟩:=h;simpa using h'
 | _::_,_,_,_,_,_,⟨c1,c2,L1,L2,rfl,rfl,h3,h4⟩,h'=>⟨c1,c2++_,L1,L2++_,yG,yG,h3,h4.append h'⟩
theorem REs.one {m:Nat}:∀{xs:List (List CT)} {cs:List Value} {L:List Nat},REs w m xs cs L→∀u∈cs,u.oneCell'=true
 | [],_,_,h=>by simp [h.1]
 | _::_,_,_,⟨c1,c2,L1,L2,rfl,rfl,h3,h4⟩=>fun u mu=>by
  rcases A4.1 mu with mu | mu
  ·exact h3.1.one u mu
  ·exact h4.one u mu
theorem Zt4 {a b:Nat} (h:Zex a b=2) (ha:a≤2) (hb:b≤2):a=2∧b=2:=by unfold Zex at h;split at h<;>omega
theorem Zmg {fl:Bool} {xs:List (List CT)} (h:ZhM fl xs=2):Zal xs=true:=by unfold ZhM at h;split at h<;>simp_all
theorem ZoH (fl:Bool) (xs:List (List CT)):ZhM fl xs≤2:=by unfold ZhM;split<;>omega
theorem ZmQ (fl:Bool) (xs:List (List CT)):0<ZhM fl xs:=by unfold ZhM;split<;>omega
theorem HI.plainD [NW] {ob:Nat→Ob} (h:HI W g ob w) {k b:Nat} (m:b∈g.D k):(W.heap.size≤b∨W.x b)∧∃a e,w.heap[b]?=some (.cells a e (0,0)):=by
 have h1:=h.plain k b (by simp [m])
 have h2:=h.obs k
 cases hk:ob k with
 | map kk vk kv=>
  rw [hk] at h2
  obtain ⟨_,_,_,_,_,h3,_⟩:=h2
  rw [h3] at m;simp at m
 | _=>rw [hk] at h1;exact h1
theorem Zw8 [NW] (hI:HI W g st.ob w) {x:SV} {v:Value} {e m:Nat} {xs:List (List CT)} {ks:List Nat} {d:Nat} (h:ZeO st x=some (xs,ks,d)) (a:Zj6 st e m x=true) (hx:SVR g w x v) (hu:svU U x):
  ∃cs L,w.ownsV 0 e m v xs.length cs∧REs w m xs cs L∧(∀b∈L,¬g.own b)∧(d=2→L=ks.flatMap g.D)∧v.ownBlock.toList=ks.flatMap g.O∧(∀k∈ks,U k)∧d≤2∧0<d:=by
 unfold ZeO at h
 split at h
 ·simp only[A0,A6] at h
  obtain ⟨rfl,rfl,rfl⟩:=h
  have:=ZqE hx
  subst this
  exact ⟨[],[],ZiJ _ _ _ _,⟨rfl,rfl⟩,yG,yG,by simp [Value.ownBlock],yG,yG,yG⟩
 ·rename_i k
  split at h
  ·rename_i e' m' xs' d' hk
   split at h
   ·simp at h
   rename_i c
   simp only[A0,A6] at h
   obtain ⟨rfl,rfl,rfl⟩:=h
   simp only[Zj6,hk,AC,beq_iff_eq] at a
   obtain ⟨rfl,rfl⟩:=a
   have:=ZeK hx
   subst this
   obtain ⟨hm,cs,L,o1,o2,o3,o4,o5⟩:=hI.deepO hk c
   refine ⟨cs,L,o1,o2,o3,fun hd=>?_,by simp [o4],fun q mq=>by simp at mq;subst mq;exact hu (.row q) yG,?_,yE⟩
   ·rcases o5 with ⟨_,o5⟩ | ⟨o5,_⟩
    ·simp [o5]
    ·omega
   ·rcases o5 with ⟨o5,_⟩ | ⟨o5,_⟩<;>omega
  ·simp at h
 ·simp at h
theorem Zww [NW] (hI:HI W g st.ob w) {x:SV} {v:Value} {m:Nat} {xs:List (List CT)} {ks:List Nat} {d:Nat} {fl:Bool} (h:ZeU st fl x=some (xs,ks,d)) (a:Zi4 st m x=true) (hx:SVR g w x v) (hu:svU U x):
  ∃A c cs L,v=.slice A xs.length c∧REs w m xs cs L∧(0<xs.length→∃b off,A=some ⟨b,off,none⟩∧Q9 w b off cs)∧(∀b∈L,¬g.own b)∧(d=2→L.Sublist (ks.flatMap g.D))∧(∀k∈ks,U k)∧d≤2∧0<d:=by
 unfold ZeU at h
 split at h
 ·simp only[A0,A6] at h
  obtain ⟨rfl,rfl,rfl⟩:=h
  simp only[Zi4,beq_iff_eq] at a
  subst a
  obtain ⟨A,cap,cs,L0,L1,rfl,h2,h3,h5,h6,h7,ho⟩:=Zf5 hx
  refine ⟨A,cap,cs,L1,rfl,h7,fun hp=>?_,fun b mb=>ho b (by simp [mb]),fun hd=>by rw [ZfO h7 (Zmg hd)];simp,yG,ZoH _ _,ZmQ _ _⟩
  obtain ⟨b,off,h8,_,h9⟩:=h6.at_ hp
  exact ⟨b,off,h8,h9⟩
 ·simp only[A0,A6] at h
  obtain ⟨rfl,rfl,rfl⟩:=h
  have:=ZqE hx
  subst this
  exact ⟨none,0,[],[],rfl,⟨rfl,rfl⟩,yG,yG,yG,yG,yG,yG⟩
 ·rename_i k
  split at h
  ·rename_i e' m' f d' hk
   simp only[Zi4,hk,beq_iff_eq] at a
   subst a
   have:=ZeK hx
   subst this
   obtain ⟨hm,cs,L,o1,o2,o3,o5⟩:=hI.deep hk
   obtain ⟨A,cap,L0,s1,s2,s3,s4,s5⟩:=Sl.row o1
   have e:0<f.length→∃b off,A=some ⟨b,off,none⟩∧Q9 w b off cs:=fun hp=>by
    obtain ⟨b,off,h8,_,h9⟩:=s4.at_ hp
    exact ⟨b,off,h8,h9⟩
   split at h
   ·simp only[A0,A6] at h
    obtain ⟨rfl,rfl,rfl⟩:=h
    exact ⟨A,cap,cs,L,s1,o2,e,o3,fun hd=>by rw [ZfO o2 (Zmg hd)];simp,yG,ZoH _ _,ZmQ _ _⟩
   ·rename_i hd0
    simp only[A0,A6] at h
    obtain ⟨rfl,rfl,rfl⟩:=h
    refine ⟨A,cap,cs,L,s1,o2,e,o3,fun hd=>?_,fun q mq=>by simp at mq;subst mq;exact hu (.row q) yG,?_,yE⟩
    ·rcases o5 with ⟨_,_,o5⟩ | ⟨o5,_⟩ | ⟨o5,_⟩
     ·simp [o5]
     ·omega
     ·omega
    ·rcases o5 with ⟨o5,_⟩ | ⟨o5,_⟩ | ⟨o5,_⟩<;>omega
  ·simp at h
 ·simp at h
theorem HI.nodupD [NW] {ob:Nat→Ob} (hI:HI W g ob w):∀{ks:List Nat},ks.Nodup→(ks.flatMap g.D).Nodup
 | [],_=>by simp
 | k::ks,h=>by
  simp only[AZ,AK]
  rw [Ae] at h
  refine ⟨(AK.1 (hI.nodup k)).2.1,hI.nodupD h.2,fun x hx y hy e=>?_⟩
  subst e
  obtain ⟨j,hj,hy⟩:=AA.1 hy
  exact hI.apart k j (fun e=>h.1 (e ▸ hj)) x (by simp [hx]) (by simp [hy])
theorem Zx5 [NW] (htt:∀t i,tt t=some i→TOk P t i) (hI:HI W g st.ob w) (hU:StU U st) (I:¬U key) {t:Nat} {s x:SV} {vs vx:Value} {r:SV × List (Nat × Ob)} (h:Zl2 st key (tt t) s x=some r) (hs:SVR g w s vs∧svU U s) (hx:SVR g w x vx∧svU U x) {ty:TypeId} {q:Sem Next}
  (hq:q=(do pure (.value (←Builtin.append_ #[t,t] ty #[vs,vx])))):Fin P W U key st g w q r:=by
 unfold Zl2 at h
 split at h
 ·rename_i e m p z V
  obtain ⟨⟨xs,k1,d1⟩,h1,h⟩:=A5.1 h
  obtain ⟨⟨ys,k2,d2⟩,h2,h⟩:=A5.1 h
  split at h
  ·rename_i hc
   simp only[A0] at h
   subst h
   obtain ⟨X,Y,J,K⟩:=hc
   simp only at J K
   obtain ⟨hu,hm,L,⟨ie,zv,M,Z,aa,ab,ac,ad⟩,_⟩:=htt t _ V
   obtain ⟨cs,Lx,a1,a2,a3,a4,a5,a6,a7,a8⟩:=Zw8 hI h1 X hs.1 hs.2
   obtain ⟨A,c,a,Ly,b0,b1,b2,b3,b4,b5,b7,b8⟩:=Zww hI h2 Y hx.1 hx.2
   subst b0
   obtain ⟨A1,cap1,ae,af,hv3⟩:=ZcS a1
   have N:a.length=ys.length * m:=b1.len
   obtain ⟨v',w',r1,r2,r3,r4⟩:∃v' w',(Builtin.append_ #[t,t] ty #[vs,.slice A ys.length c]).run P w=.ok v' w'∧w'.ownsV 0 e m v' (xs.length+ys.length) (cs++a)∧w.grownBy w' vs.ownBlock∧(v'.ownBlock=vs.ownBlock∨v'.ownBlock=some w.heap.size):=by
    by_cases hy:ys.length=0
    ·have ag:a=[]:=AY (by rw [N,hy];simp)
     refine ⟨vs,w,?_,by rw [ag,hy,Aw];exact a1,World.grownBy.refl _ _,.inl rfl⟩
     rw [ae,hy]
     exact Zpm hu M A1 A _ _ _ af
    ·obtain ⟨b,off,rfl,E⟩:=b2 yE
     have B:(xs.length+ys.length) * p≤140737488355328:=by
      have:=Ax K L
      omega
     obtain ⟨v',w',q1,q2,q3,q5⟩:=Zjx (P:=P) w 0 t ty e ie zv m p hu M ab Z aa (by rw [←ad,ac.len];simp) hm vs xs.length cs a1 ⟨b,off,none⟩ ys.length c a N
      (fun j u hj=>by rw [ZcD];exact E j u hj) b1.one (by unfold maxLen;omega) B (AJ _)
     exact ⟨v',w',q1,q2,q3,q5⟩
   have C:∀b,¬g.own b→some b≠vs.ownBlock:=fun b hn e=>hn (by
    have:b∈vs.ownBlock.toList:=by simp [←e]
    rw [a5] at this
    obtain ⟨k,_,mk⟩:=AA.1 this
    exact .inl ⟨k,mk⟩)
   have d:∀b∈Lx++Ly,w'.heap[b]?=w.heap[b]?:=fun b mb=>by
    rcases A4.1 mb with mb | mb
    ·exact r3.block b (a2.lt b mb) (C b (a3 b mb))
    ·exact r3.block b (b1.lt b mb) (C b (b3 b mb))
   have Q:REs w' m (xs++ys) (cs++a) (Lx++Ly):=(a2.keep fun b mb=>d b (by simp [mb])).append (b1.keep fun b mb=>d b (by simp [mb]))
   have l:∀b∈v'.ownBlock.toList,b∈k1.flatMap g.O∨b=w.heap.size:=fun b mb=>by
    rcases r4 with r4 | r4
    ·rw [r4,a5] at mb;exact .inl mb
    ·rw [r4] at mb;simp at mb;exact .inr mb
   have f:(Zex d1 d2)=2→(Lx++Ly).Sublist ((k1++k2).flatMap g.D):=fun hd=>by
    have hd:=Zt4 hd a7 b7
    rw [Az]
    exact AH (by rw [a4 hd.1];exact AE _) (b4 hd.2)
   have F:∀b∈(if (Zex d1 d2)=2 then Lx++Ly else []),b∈Lx++Ly∧(Zex d1 d2)=2:=fun b mb=>by
    split at mb
    ·rename_i hd;exact ⟨mb,hd⟩
    ·simp at mb
   have R:Bel W w':=by
    refine ⟨r3.os.trans hI.below.os,r3.tape.trans hI.below.tape,r3.output.trans hI.below.output,AQ hI.below.size r3.size,fun b hb S=>?_⟩
    rw [r3.block b (Af hb hI.below.size) fun e=>?_]
    ·exact hI.below.block b hb S
    ·have:b∈vs.ownBlock.toList:=by simp [←e]
     rw [a5] at this
     obtain ⟨k,_,mk⟩:=AA.1 this
     rcases (hI.plain k b (by simp [mk])).1 with h | h
     ·omega
     ·exact S h
   obtain ⟨t1,t2⟩:=hI.turn (key:=key) (U:=U) (w':=w') (v:=v') (O:=v'.ownBlock.toList) (D:=if (Zex d1 d2)=2 then Lx++Ly else []) (o:=.row e m (xs++ys) (Zex d1 d2)) hU.ob I (k1++k2)
    (fun k mk=>(A4.1 mk).elim (a6 k) (b5 k)) R r3.size (fun b hb hn=>r3.block b hb fun e=>by
     have:b∈vs.ownBlock.toList:=by simp [←e]
     rw [a5] at this
     obtain ⟨k,hk,mk⟩:=AA.1 this
     exact hn k (by simp [hk]) mk)
    (fun b mb=>by
     rcases l b mb with mb | rfl
     ·obtain ⟨k,hk,mk⟩:=AA.1 mb
      exact .inl ⟨k,by simp [hk],mk⟩
     ·exact .inr (A9 _))
    (fun b mb=>by
     obtain ⟨m1,m2⟩:=F b mb
     obtain ⟨k,hk,mk⟩:=AA.1 ((f m2).subset m1)
     exact .inl ⟨k,hk,by simp [mk]⟩)
    (by
     rw [AK]
     refine ⟨by cases v'.ownBlock<;>simp,?_,fun b mb b' ah e=>?_⟩
     ·split
      ·rename_i hd;exact (hI.nodupD J).sublist (f hd)
      ·simp
     ·subst e
      obtain ⟨m1,m2⟩:=F b ah
      rcases l b mb with mb | rfl
      ·obtain ⟨k,_,mk⟩:=AA.1 mb
       rcases A4.1 m1 with m1 | m1
       ·exact a3 b m1 (.inl ⟨k,mk⟩)
       ·exact b3 b m1 (.inl ⟨k,mk⟩)
      ·rcases A4.1 m1 with m1 | m1
       ·have:=a2.lt _ m1;omega
       ·have:=b1.lt _ m1;omega)
    (fun b mb=>by
     rcases A4.1 mb with mb | mb
     ·have ai:W.heap.size≤b∨W.x b:=by
       rcases l b mb with mb | rfl
       ·obtain ⟨k,_,mk⟩:=AA.1 mb
        exact (hI.plain k b (by simp [mk])).1
       ·exact .inl hI.below.size
      rcases r2.2 with ⟨h',_⟩ | ⟨g',o',cap',G,h',hg0,hg,_⟩
      ·simp [h',Value.ownBlock] at mb
      ·simp [h',Value.ownBlock] at mb
       subst mb
       exact ⟨ai,G,e,hg⟩
     ·obtain ⟨m1,m2⟩:=F b mb
      obtain ⟨k,hk,mk⟩:=AA.1 ((f m2).subset m1)
      obtain ⟨p1,G,e',p2⟩:=hI.plainD mk
      exact ⟨p1,G,e',by rw [d b m1];exact p2⟩)
    (fun hown=>⟨hm,cs++a,Lx++Ly,by simpa [Gh.turn,upd] using r2,Q,by
     by_cases hd:Zex d1 d2=2
     ·exact .inl ⟨hd,by simp [Gh.turn,upd],by simp [Gh.turn,hd]⟩
     ·have aj:Zex d1 d2=1:=by unfold Zex at hd ⊢;split<;>simp_all<;>omega
      refine .inr (.inl ⟨aj,by simp [Gh.turn,upd],by simp [Gh.turn,hd],fun b mb ho=>?_⟩)
      have H:¬g.own b:=by
       rcases A4.1 mb with m1 | m1
       ·exact a3 b m1
       ·exact b3 b m1
      rcases ZdX ho with mo | ⟨k,_,_,mk⟩ | hz
      ·rcases l b mo with mo | rfl
       ·obtain ⟨k,_,mk⟩:=AA.1 mo
        exact H (.inl ⟨k,mk⟩)
       ·rcases A4.1 mb with m1 | m1
        ·have:=a2.lt _ m1;omega
        ·have:=b1.lt _ m1;omega
      ·exact H (.inl ⟨k,mk⟩)
      ·exact H (.inr hz)⟩)
   have T:=Zh7 (key:=key) (o:=.row e m (xs++ys) (Zex d1 d2)) hU (k1++k2) trivial
   refine ⟨_,v',w',.inl (by subst hq;simp only[Sem.run_bind,r1,Result.andThen_ok,Sem.run_pure]),t1,⟨_,rfl,⟨by simp [Gh.turn,upd],?_⟩⟩,t2,fun y my=>by simp at my;subst my;exact Zij,T.1,T.2⟩
   obtain ⟨A2,cap2,ak⟩:=Q8 r2
   simp [ak,Value.oneCell']
  ·simp at h
 ·simp at h
end
end
section
open Go.RowKit
section
variable {P:Program} {W:QK} {U:Nat→Prop} {key:Nat} {st:St} {g:Gh} {w w':World} {a:Act} {tt:Nat→Option TI}
theorem RCs.dropS:∀{x:List CT} {c:List Value} {L:List Nat} (n:Nat),RCs w x c L→∃L',RCs w (x.drop n) (c.drop n) L'∧L'.Sublist L
 | x,c,L,0,h=>⟨L,by simpa using h,AE _⟩
 | [],c,L,n+1,h=>⟨[],by obtain ⟨rfl,rfl⟩:=h;simp [RCs],AR _⟩
 | x::r,_,_,n+1,⟨v,cs',L1,L2,rfl,rfl,h1,h2⟩=>by
  obtain ⟨L',a1,a2⟩:=RCs.dropS n h2
  exact ⟨L',by simpa using a1,a2.trans (B2 L1 L2)⟩
theorem RCs.spliceS [NW] {x:List CT} {c:List Value} {L:List Nat} {ys:List CT} {us:List Value} (h:RCs w x c L) (h':RCs w ys us []):∀(off:Nat),∃L',RCs w (splice x off ys) (splice c off us) L'∧L'.Sublist L:=by
 have hl:us.length=ys.length:=h'.len
 intro off
 induction off generalizing x c L with
 | zero=>
  obtain ⟨L',a1,a2⟩:=h.dropS (0+ys.length)
  refine ⟨[]++L',?_,a2⟩
  simp only[splice,List.take_zero,Ag,hl]
  exact h'.append a1
 | succ off ih=>
  cases x with
  | nil=>
   obtain ⟨rfl,rfl⟩:=h
   refine ⟨[],?_,AR _⟩
   simpa [splice] using h'
  | cons x r=>
   obtain ⟨v,a,L1,L2,rfl,rfl,h1,h2⟩:=h
   obtain ⟨L',a1,a2⟩:=ih h2
   refine ⟨L1++L',?_,AH (AE _) a2⟩
   have e1:splice (x::r) (off+1) ys=x::splice r off ys:=by
    simp only[splice,B3,AS]
    rw [show off+1+ys.length=(off+ys.length)+1 by omega,B4]
   have e2:splice (v::a) (off+1) us=v::splice a off us:=by
    simp only[splice,B3,AS]
    rw [show off+1+us.length=(off+us.length)+1 by omega,B4]
   rw [e1,e2]
   exact ⟨v,_,L1,L',rfl,rfl,h1,a1⟩
theorem ZiC {α:Type} (c1 c2:List α) (off:Nat) (us:List α):splice (c1++c2) (c1.length+off) us=c1++splice c2 off us:=by
 simp only[splice]
 rw [List.take_length_add_append,B5,B6,B7 (B8 _ _),Ah]
 simp
theorem Ze2 {α:Type} (c1 c2:List α) (off:Nat) (us:List α) (h:off+us.length≤c1.length):splice (c1++c2) off us=splice c1 off us++c2:=by
 simp only[splice]
 rw [List.take_append_of_le_length yE,B9 h]
 simp
theorem REs.set [NW] {m:Nat} {ys:List CT} {us:List Value} (h':RCs w ys us []):∀{xs:List (List CT)} {cs:List Value} {L:List Nat} {i off:Nat} {x:List CT},REs w m xs cs L→xs[i]?=some x→off+us.length≤m→
  ∃L',REs w m (xs.set i (splice x off ys)) (splice cs (i * m+off) us) L'∧L'.Sublist L
 | [],_,_,_,_,_,_,hx,_=>by simp at hx
 | e::r,_,_,0,off,x,⟨c1,c2,L1,L2,rfl,rfl,h3,h4⟩,hx,ho=>by
  simp at hx;subst hx
  obtain ⟨L',a1,a2⟩:=h3.1.spliceS h' off
  refine ⟨L'++L2,?_,AH a2 (AE _)⟩
  rw [Nat.zero_mul,Aj,Ze2 _ _ _ _ (by rw [h3.2];exact ho)]
  exact ⟨splice c1 off us,c2,L',L2,rfl,rfl,⟨a1,by rw [ZeJ _ _ _ (by rw [h3.2];exact ho)];exact h3.2⟩,h4⟩
 | e::r,_,_,i+1,off,x,⟨c1,c2,L1,L2,rfl,rfl,h3,h4⟩,hx,ho=>by
  obtain ⟨L',a1,a2⟩:=REs.set h' h4 (i:=i) (off:=off) (x:=x) (by simpa using hx) ho
  refine ⟨L1++L',?_,AH (AE _) a2⟩
  have e:(i+1) * m+off=c1.length+(i * m+off):=by rw [h3.2,AO];omega
  rw [e,ZiC]
  exact ⟨c1,_,L1,L',rfl,rfl,h3,a1⟩
theorem ZmG [NW]:∀{vs:List AV} {ys:List CT} {us:List Value},Zg8 vs=some ys→ZH (AVR g w) vs us→RCs w ys us []
 | [],_,[],h,_=>by simp [Zg8] at h;subst h;exact ⟨rfl,rfl⟩
 | [],_,_::_,_,h=>h.elim
 | _::_,_,[],_,h=>h.elim
 | x::vs,ys,u::us,h,hr=>by
  simp only[Zg8] at h
  obtain ⟨y,h1,h⟩:=A5.1 h
  obtain ⟨b,h2,rfl⟩:=A3.1 h
  have hx:x=.c y∧y.flat=true:=by
   cases x with
   | c z=>cases z<;>simp [Zq6] at h1<;>subst h1<;>exact ⟨rfl,rfl⟩
   | _=>simp [Zq6] at h1
  obtain ⟨rfl,hf⟩:=hx
  obtain ⟨L,hL,_⟩:=hr.1
  have a:L=[]:=by
   cases y with
   | int k n=>exact hL.2
   | bool b=>exact hL.2
   | str s=>exact hL.2.1
   | _=>simp [CT.flat] at hf
  subst a
  exact ⟨u,us,[],[],rfl,rfl,hL,ZmG h2 hr.2⟩
theorem ZsL [NW] (htt:∀t i,tt t=some i→TOk P t i) (hI:HI W g st.ob w) (hU:StU U st) {t k m i off e:Nat} {xs:List (List CT)} {d:Nat} {x ys:List CT} {vs:List AV} {va vv:Value} {ag:Bool} (hk:st.ob k=.row e m xs d) (hd0:¬d=0) (hx:xs[i]?=some x) (hys:Zg8 vs=some ys) (hl:vs.length=Zhl (tt t)) (ho:off+vs.length≤m)
  (ha:SVR g w (.rp k m i off) va) (hv:SVR g w (.p ag vs) vv) (hpos:0<vs.length) {s:Sem Next} (hs:s=(do Instr.storeAt t va vv;pure .skip)):Fin P W U key st g w s (.und,[(k,.row e m (xs.set i (splice x off ys)) d)]):=by
 obtain ⟨b,o,n,c,h1,rfl⟩:=ha
 obtain ⟨hm,cs,L,o1,o2,o3,o4,o5⟩:=hI.deepO hk hd0
 obtain ⟨us,c1,c2⟩:=PVR.cells hv
 have hxl:=c2.len
 have hi:i<xs.length:=(List.getElem?_eq_some_iff.1 hx).1
 rcases o1.2 with ⟨_,hn⟩ | ⟨b',o',cap,cur,hv',hbW,hg,hnc,hcm,hcs,htk⟩
 ·omega
 have hbb:b=b'∧o=o':=by rw [hv'] at h1;simp at h1;exact ⟨h1.1.1.symm,h1.1.2.symm⟩
 obtain ⟨rfl,rfl⟩:=hbb
 have hlt:i * m+off+us.length≤xs.length * m:=by
  have:=BA m (show i+1≤xs.length by omega)
  rw [AO] at this
  omega
 have hcap:xs.length * m≤cap * m:=BA m hnc
 have hsize:(sizeOf t).run P w=.ok us.length w:=by
  rw [←hxl,hl]
  unfold Zhl at hl ⊢
  cases hti:tt t with
  | none=>rw [hti] at hl;simp at hl;simp [hl] at hpos
  | some i=>
   cases i with
   | atom z=>obtain ⟨d,zv,i,_,_,h3,_,h4,_⟩:=htt t _ hti;rw [Xp h3,h4]
   | strct fs n z=>obtain ⟨_,i,_,_,h3,h4,_⟩:=htt t _ hti;rw [Xp h3,h4]
   | slice e m b z=>obtain ⟨_,_,_,_,j,h3,h4,_⟩:=htt t _ hti;rw [Xp h3,h4]
   | _=>rw [hti] at hl;simp at hl;simp [hl] at hpos
 have hst:=run_storeCells_at (P:=P) b (o+(i * m+off)) e us 0 cur w hg (by omega) (AVRs.one c2)
 obtain ⟨r1,r2,r3,r4,r5,r6⟩:=Zmq b cur (splice cur.toList (o+(i * m+off)) us).toArray e hg
 have hrun:s.run P w=.ok .skip (w.setRow b (splice cur.toList (o+(i * m+off)) us).toArray):=by
  subst hs
  have e:(cur.toList.take (o+(i * m+off)+0)++us++cur.toList.drop (o+(i * m+off)+0+us.length)).toArray=(splice cur.toList (o+(i * m+off)) us).toArray:=by simp [splice]
  rw [e] at hst
  simp [Instr.storeAt,Instr.sureAddr,storeVar,c1,hsize,hst]
 have hOk:g.O k=[b]:=by rw [o4,hv'];rfl
 have hmv:∀b',b'<w.heap.size→¬g.own b'→(w.setRow b (splice cur.toList (o+(i * m+off)) us).toArray).heap[b']?=w.heap[b']?:=fun b' _ hn=>r2 b' fun e=>hn (.inl ⟨k,by simp [hOk,e]⟩)
 obtain ⟨L',q1,q2⟩:=o2.set (ZmG hys c2) hx (show off+us.length≤m by omega)
 have hown':(w.setRow b (splice cur.toList (o+(i * m+off)) us).toArray).ownsV 0 e m (g.val k) (xs.set i (splice x off ys)).length (splice cs (i * m+off) us):=by
  have hcl:cs.length=xs.length * m:=o1.1
  refine ⟨by rw [ZeJ _ _ _ (by omega),hcl];simp,.inr ⟨b,o,cap,_,by simpa using hv',hbW,r1,by simpa using hnc,hcm,by rw [List.size_toArray,ZeJ _ _ _ (show o+(i * m+off)+us.length≤cur.toList.length by simp;omega)];simpa using hcs,?_⟩⟩
  have h0:((splice cur.toList (o+(i * m+off)) us).toArray.toList).drop o=splice (cur.toList.drop o) (i * m+off) us:=by
   show (splice cur.toList (o+(i * m+off)) us).drop o=_
   unfold splice
   have hto:o≤(cur.toList.take (o+(i * m+off))).length:=by simp;omega
   rw [B9 hto,List.drop_take,Ah,List.drop_drop,B5]
  rw [h0]
  have:cur.toList.drop o=cs++(cur.toList.drop o).drop (xs.length * m):=by rw [←htk];exact (List.take_append_drop _ _).symm
  rw [this,Ze2 _ _ _ _ (by omega)]
  have e2:(xs.set i (splice x off ys)).length * m=(splice cs (i * m+off) us).length:=by rw [ZeJ _ _ _ (by omega),hcl];simp
  rw [e2]
  exact List.take_left' rfl
 have hltL:=o2.lt
 have hREs':REs (w.setRow b (splice cur.toList (o+(i * m+off)) us).toArray) m (xs.set i (splice x off ys)) (splice cs (i * m+off) us) L':=q1.keep fun b' mb=>hmv b' (hltL b' (q2.subset mb)) (o3 b' (q2.subset mb))
 let g':Gh:=⟨g.val,g.O,upd g.D k (if d=2 then L' else []),g.Z⟩
 have hgo:∀b',g'.own b'↔g.own b':=fun b'=>Iff.rfl
 have hgr:(∀b'∈g'.D k,b'∈g.D k)→X7 g g' w.heap.size:=fun hs=>.of (fun b' h=>.inl h) fun j b' mb=>by
  by_cases hj:j=k
  ·subst hj;exact .inl (.inr ⟨j,hs b' mb⟩)
  ·exact .inl (.inr ⟨j,by simpa [g',ZI _ _ hj] using mb⟩)
 have hDsub:∀b'∈g'.D k,b'∈g.D k:=fun b' mb=>by
  simp only[g',Zy] at mb
  split at mb
  ·rename_i hd
   rcases o5 with ⟨_,o5⟩ | ⟨o5,_⟩
   ·rw [o5];exact q2.subset mb
   ·omega
  ·simp at mb
 refine ⟨g',undef,_,.inr ⟨hrun,rfl⟩,?_,rfl,fun x u hx hu=>hu.move hx (fun _ _=>rfl) hmv (hgr hDsub) (by omega),trivial,fun q=>?_,fun q hq=>?_⟩
 ·refine hI.step (U:=U) (fun q=>q=k) ?_ rfl (fun b' _ hn=>r2 b' fun e=>hn k rfl (by simp [hOk,e])) (fun q hq=>⟨ZI _ _ hq,rfl,rfl,ZI _ _ hq⟩) hU.ob (fun _ _=>rfl) (hgr hDsub) (fun q hq=>?_)
  ·exact ⟨r4.trans hI.below.os,r5.trans hI.below.tape,r6.trans hI.below.output,by have:=hI.below.size;omega,fun q hq hx'=>by rw [r2 q (fun e=>by subst e;rcases (hI.plain k q (by simp [hOk])).1 with h | h;omega;exact hx' h)];exact hI.below.block q hq hx'⟩
  ·subst hq
   have hmem:∀b'∈g'.O q++g'.D q,b'∈g.O q++g.D q:=fun b' mb=>by
    rcases A4.1 mb with mb | mb
    ·exact A4.2 (.inl mb)
    ·exact A4.2 (.inr (hDsub b' mb))
   refine ⟨?_,?_,fun b' mb=>?_,fun j hj b' mb mj=>?_⟩
   ·simp only[Zk,Zy]
    refine ⟨hm,_,L',hown',hREs',?_⟩
    rcases o5 with ⟨o5,_⟩ | ⟨o5,_⟩
    ·exact .inl ⟨o5,o4,by simp [g',upd,o5]⟩
    ·exact .inr (.inl ⟨o5,o4,by simp [g',upd,o5],fun b' mb=>o3 b' (q2.subset mb)⟩)
   ·have hn:=hI.nodup q
    refine hn.sublist (AH (AE _) ?_)
    simp only[g',Zy]
    split
    ·rename_i hd
     rcases o5 with ⟨_,o5⟩ | ⟨o5,_⟩
     ·rw [o5];exact q2
     ·omega
    ·exact AR _
   ·have hp:=hI.plain q b' (hmem b' mb)
    rw [hk] at hp
    obtain ⟨p1,cur',e',p2⟩:=hp
    refine ⟨p1,?_⟩
    simp only[Zk,Zy]
    show ∃cur e,_=_
    by_cases hb':b'=b
    ·subst hb';exact ⟨_,_,r1⟩
    ·exact ⟨cur',e',by rw [r2 b' hb'];exact p2⟩
   ·have mj':b'∈g.O j++g.D j:=by
     rcases A4.1 mj with mj | mj
     ·exact A4.2 (.inl mj)
     ·simp only[g',ZI _ _ (fun e:j=q=>hj e.symm)] at mj;exact A4.2 (.inr mj)
    exact hI.apart q j hj b' (hmem b' mb) mj'
 ·simp only[Zk,upd]
  split
  ·trivial
  ·exact (hU.ob q).mono fun _=>.inl
 ·simp only[Zk,upd]
  split
  ·rename_i e;subst e
   exact absurd (hU.gone q fun h=>hq (.inl h)) (by simp [hk])
  ·exact hU.gone q fun h=>hq (.inl h)
end
end
section
open Go.RowKit
section
variable {P:Program} {W:QK} {U:Nat→Prop} {key:Nat} {st:St} {g:Gh} {w w':World} {a:Act} {tt:Nat→Option TI}
theorem Zqt [NW] {α:Type} (f:Nat→α) (k:Nat):upd f k (f k)=f:=by
 funext j;by_cases hj:j=k
 ·subst hj;rw [Zy]
 ·rw [ZI _ _ hj]
theorem AVR.less [NW] {g1:Gh} {x:AV} {v:Value} (h:AVR g w x v) (hv:g1.val=g.val) (ho:Y7 g1 g):AVR g1 w x v:=by
 cases x with
 | c x=>obtain ⟨L,h1,h2⟩:=h;exact ⟨L,h1,fun b mb hb=>h2 b mb (ho.own b hb)⟩
 | n x=>exact NR.move h (fun _ _ _=>rfl) (ho.grow _)
 | row k=>exact ⟨h.1.trans (by rw [hv]),h.2⟩
 | nil e m=>exact h
 | dead=>exact h
theorem SVR.less [NW] {g1:Gh} {x:SV} {v:Value} (h:SVR g w x v) (hv:g1.val=g.val) (ho:Y7 g1 g):SVR g1 w x v:=
 h.move (U:=fun _=>True) (by (cases x<;>try trivial);(intro y my;cases y<;>trivial);(intro y my z mz;cases z<;>trivial)) (fun k _=>by rw [hv]) (fun _ _ _=>rfl) (ho.grow _) (A9 _)
theorem ZhF [NW] {ob:Nat→Ob} (hI:HI W g ob w) (k:Nat):∃g1:Gh,HI W g1 (upd ob k (Z4 (ob k))) w∧g1.val=g.val∧Y7 g1 g∧((∃e m xs d,ob k=.row e m xs d)→∀b∈g.O k++g.D k,¬g1.low b):=by
 cases hk:ob k with
 | gone=>exact ⟨g,by rw [show Z4 Ob.gone=ob k from hk.symm,Zqt];exact hI,rfl,Y7.refl _,by simp⟩
 | box t cs=>exact ⟨g,by rw [show Z4 (Ob.box t cs)=ob k from hk.symm,Zqt];exact hI,rfl,Y7.refl _,by simp⟩
 | map kk vk kv=>exact ⟨g,by rw [show Z4 (Ob.map kk vk kv)=ob k from hk.symm,Zqt];exact hI,rfl,Y7.refl _,by simp⟩
 | row e m xs d=>
  obtain ⟨hm,cs,L,o1,o2,o3,o5⟩:=hI.deep hk
  let g1:Gh:=⟨g.val,upd g.O k [],upd g.D k [],g.Z⟩
  have hO:∀j b,b∈g1.O j→j≠k∧b∈g.O j:=fun j b mb=>by
   by_cases hj:j=k
   ·subst hj;simp [g1,upd] at mb
   ·exact ⟨hj,by simpa [g1,upd,hj] using mb⟩
  have hD:∀j b,b∈g1.D j→j≠k∧b∈g.D j:=fun j b mb=>by
   by_cases hj:j=k
   ·subst hj;simp [g1,upd] at mb
   ·exact ⟨hj,by simpa [g1,upd,hj] using mb⟩
  have hOD:∀j b,b∈g1.O j++g1.D j→j≠k∧b∈g.O j++g.D j:=fun j b mb=>by
   rcases A4.1 mb with m1 | m1
   ·exact ⟨(hO j b m1).1,by simp [(hO j b m1).2]⟩
   ·exact ⟨(hD j b m1).1,by simp [(hD j b m1).2]⟩
  have hown:∀b,g1.own b→g.own b:=fun b hb=>by
   rcases hb with ⟨j,mj⟩ | hz
   ·exact .inl ⟨j,(hO j b mj).2⟩
   ·exact .inr hz
  have hless:Y7 g1 g:=.of hown fun j b mb=>⟨j,(hD j b mb).2⟩
  have hnot:∀b∈(g.val k).ownBlock.toList,¬g1.own b:=fun b mb hb=>by
   rcases o5 with ⟨_,q,_⟩ | ⟨_,q,_⟩ | ⟨_,_,_,q⟩
   ·have mk:b∈g.O k++g.D k:=by simp [q,mb]
    rcases hb with ⟨j,mj⟩ | hz
    ·exact hI.apart k j (fun e=>(hO j b mj).1 e.symm) b mk (by simp [(hO j b mj).2])
    ·exact hI.nz mk hz
   ·have mk:b∈g.O k++g.D k:=by simp [q,mb]
    rcases hb with ⟨j,mj⟩ | hz
    ·exact hI.apart k j (fun e=>(hO j b mj).1 e.symm) b mk (by simp [(hO j b mj).2])
    ·exact hI.nz mk hz
   ·exact q b mb (hown b hb)
  refine ⟨g1,⟨hI.below,fun j=>?_,fun j=>?_,fun i j hij b mb mj=>?_,fun j b mb=>?_,hI.gz,hI.zx,hI.nw⟩,rfl,hless,fun _ b mb hb=>?_⟩
  rotate_right
  ·rcases hb with (⟨j,mj⟩ | hz) | ⟨j,mj⟩
   ·exact hI.apart k j (fun e=>(hO j b mj).1 e.symm) b mb (by simp [(hO j b mj).2])
   ·exact hI.nz mb hz
   ·exact hI.apart k j (fun e=>(hD j b mj).1 e.symm) b mb (by simp [(hD j b mj).2])
  ·by_cases hj:j=k
   ·subst hj
    rw [Zy]
    refine ⟨hm,cs,L,o1,o2,.inr (.inr ⟨rfl,by simp [g1,upd],by simp [g1,upd],fun b mb=>?_⟩)⟩
    rcases A4.1 mb with m1 | m1
    ·exact hnot b m1
    ·exact fun hb=>o3 b m1 (hown b hb)
   ·rw [ZI _ _ hj]
    have ho:=hI.obs j
    cases hoj:ob j with
    | gone=>rw [hoj] at ho;exact ⟨by simpa [g1,upd,hj] using ho.1,by simpa [g1,upd,hj] using ho.2⟩
    | box t ds=>
     rw [hoj] at ho
     obtain ⟨b,vs,h1,h2,h3,h4,h5⟩:=ho
     exact ⟨b,vs,h1,by simpa [g1,upd,hj] using h2,by simpa [g1,upd,hj] using h3,h4,h5.mono fun x u _ hx=>AVR.less hx rfl hless⟩
    | map kk vk kv=>
     rw [hoj] at ho
     obtain ⟨b,es,c,h1,h2,h3,h4⟩:=ho
     exact ⟨b,es,c,h1,by simpa [g1,upd,hj] using h2,by simpa [g1,upd,hj] using h3,h4⟩
    | row e' m' xs' d'=>
     rw [hoj] at ho
     obtain ⟨hm',cs',L',p1,p2,p3⟩:=ho
     refine ⟨hm',cs',L',p1,p2,?_⟩
     have e1:g1.O j=g.O j:=by simp [g1,upd,hj]
     have e2:g1.D j=g.D j:=by simp [g1,upd,hj]
     rw [e1,e2]
     rcases p3 with p3 | ⟨q1,q2,q3,q4⟩ | ⟨q1,q2,q3,q4⟩
     ·exact .inl p3
     ·exact .inr (.inl ⟨q1,q2,q3,fun b mb hb=>q4 b mb (hown b hb)⟩)
     ·exact .inr (.inr ⟨q1,q2,q3,fun b mb hb=>q4 b mb (hown b hb)⟩)
  ·by_cases hj:j=k
   ·subst hj;simp [g1,upd]
   ·have:=hI.nodup j;simpa [g1,upd,hj] using this
  ·exact hI.apart i j hij b (hOD i b mb).2 (hOD j b mj).2
  ·rw [ZI _ _ (hOD j b mb).1];exact hI.plain j b (hOD j b mb).2
theorem Zuq [NW] {ob:Nat→Ob} (hI:HI W g ob w) {k t:Nat} {cs:List AV} (hk:ob k=.box t cs):∃g1:Gh,HI W g1 (upd ob k .gone) w∧g1.val=g.val∧Y7 g1 g∧∃b vs,g.val k=.pointer (some ⟨b,0,none⟩)∧¬g1.own b∧b<w.heap.size∧Q9 w b 0 vs∧ZH (AVR g w) cs vs:=by
 have ho:=hI.obs k
 rw [hk] at ho
 obtain ⟨b,vs,h1,h2,h3,h4,h5⟩:=ho
 let g1:Gh:=⟨g.val,upd g.O k [],upd g.D k [],g.Z⟩
 have hO:∀j x,x∈g1.O j++g1.D j→j≠k∧x∈g.O j++g.D j:=fun j x mx=>by
  by_cases hj:j=k
  ·subst hj;simp [g1,upd] at mx
  ·exact ⟨hj,by simpa [g1,upd,hj] using mx⟩
 have a:∀x,g1.own x→g.own x∧x≠b:=fun x hx=>by
  rcases hx with ⟨j,mj⟩ | hz
  ·have:=hO j x (by simp [mj])
   refine ⟨.inl ⟨j,?_⟩,fun e=>?_⟩
   ·have hj:=this.1
    simpa [g1,upd,hj] using mj
   ·subst e
    exact hI.apart j k this.1 x this.2 (by simp [h2])
  ·exact ⟨.inr hz,fun e=>by subst e;exact hI.nz (k:=k) (by simp [h2]) hz⟩
 have d:Y7 g1 g:=.of (fun x hx=>(a x hx).1) fun j b mb=>⟨j,by
  have hj:=(hO j b (by simp [mb])).1
  simpa [g1,upd,hj] using mb⟩
 refine ⟨g1,⟨hI.below,fun j=>?_,fun j=>?_,fun i j f x mx mj=>?_,fun j x mx=>?_,hI.gz,hI.zx,hI.nw⟩,rfl,d,b,vs,h1,fun hb=>(a b hb).2 rfl,(Aa.1 h4).1,fun j u hj=>?_,h5⟩
 ·by_cases hj:j=k
  ·subst hj;rw [Zy];exact ⟨by simp [g1,upd],by simp [g1,upd]⟩
  ·rw [ZI _ _ hj]
   have ho:=hI.obs j
   have e1:g1.O j=g.O j:=by simp [g1,upd,hj]
   have e2:g1.D j=g.D j:=by simp [g1,upd,hj]
   cases hoj:ob j with
   | gone=>rw [hoj] at ho;exact ⟨e1.trans ho.1,e2.trans ho.2⟩
   | box t ds=>
    rw [hoj] at ho
    obtain ⟨b,vs,h1,h2,h3,h4,h5⟩:=ho
    exact ⟨b,vs,h1,e1.trans h2,e2.trans h3,h4,h5.mono fun x u _ hx=>AVR.less hx rfl d⟩
   | map kk vk kv=>
    rw [hoj] at ho
    obtain ⟨b,es,c,h1,h2,h3,h4⟩:=ho
    exact ⟨b,es,c,h1,e1.trans h2,e2.trans h3,h4⟩
   | row e' m' xs' d'=>
    rw [hoj] at ho
    obtain ⟨l,m,L',p1,p2,p3⟩:=ho
    refine ⟨l,m,L',p1,p2,?_⟩
    rw [e1,e2]
    rcases p3 with p3 | ⟨q1,q2,q3,q4⟩ | ⟨q1,q2,q3,q4⟩
    ·exact .inl p3
    ·exact .inr (.inl ⟨q1,q2,q3,fun b mb hb=>q4 b mb (a b hb).1⟩)
    ·exact .inr (.inr ⟨q1,q2,q3,fun b mb hb=>q4 b mb (a b hb).1⟩)
 ·by_cases hj:j=k
  ·subst hj;simp [g1,upd]
  ·have:=hI.nodup j;simpa [g1,upd,hj] using this
 ·exact hI.apart i j f x (hO i x mx).2 (hO j x mj).2
 ·rw [ZI _ _ (hO j x mx).1];exact hI.plain j x (hO j x mx).2
 ·rw [Aj,cell_of_row w b j vs.toArray t (0,0) h4];simpa using hj
theorem ZoZ [NW] {ob:Nat→Ob} (hI:HI W g ob w) {k e m:Nat} {xs:List (List CT)} (hk:ob k=.row e m xs 0):∃L,RC w (.sl e m xs) (g.val k) L∧∀b∈L,¬g.own b:=by
 obtain ⟨hm,cs,L1,o1,o2,o3,o5⟩:=hI.deep hk
 obtain ⟨A,cap,L0,s1,s2,s3,s4,s5⟩:=Sl.row o1
 refine ⟨L0++L1,⟨A,cap,cs,L0,L1,s1,s2,s3,rfl,hm,s4,o2⟩,fun b mb=>?_⟩
 rcases A4.1 mb with m1 | m1
 ·rcases o5 with ⟨q,_⟩ | ⟨q,_⟩ | ⟨_,_,_,q⟩
  ·omega
  ·omega
  ·exact q b (s5.subset m1)
 ·exact o3 b m1
theorem REs.dropS {m:Nat}:∀{xs:List (List CT)} {cs:List Value} {L:List Nat} (l:Nat),REs w m xs cs L→∃L',REs w m (xs.drop l) (cs.drop (l * m)) L'∧L'.Sublist L
 | xs,cs,L,0,h=>⟨L,by simpa using h,AE _⟩
 | [],cs,L,l+1,h=>⟨[],by obtain ⟨rfl,rfl⟩:=h;simp [REs],AR _⟩
 | x::r,_,_,l+1,⟨c1,c2,L1,L2,rfl,rfl,h3,h4⟩=>by
  obtain ⟨L',h5,h6⟩:=REs.dropS l h4
  refine ⟨L',?_,h6.trans (B2 _ _)⟩
  have e:(l+1) * m=c1.length+l * m:=by rw [h3.2,AO];omega
  have e2:(c1++c2).drop (c1.length+l * m)=c2.drop (l * m):=by
   rw [B6,B7 (B8 _ _),Ag,Ah]
  rw [e,e2]
  simpa using h5
theorem Zth [NW] (htt:∀t i,tt t=some i→TOk P t i) (hI:HI W g st.ob w) (hU:StU U st) (c:¬U key) {t k e m d l:Nat} {xs:List (List CT)} (hk:st.ob k=.row e m xs d) (E:¬d=0) (a:ZiK (tt t)=m) {lo:Option SV} {vx:Value} {vlo:Option Value} (hl:loB xs.length lo=some l) (hx:SVR g w (.p false [.row k]) vx)
  (F:Zkq g w lo vlo) {s:Sem Next} (hs:s=(do pure (.value (←Instr.sliceAt t vx vlo none none)))):Fin P W U key st g w s (.p false [.row key],[(k,.gone),(key,.row e m (xs.drop l) d)]):=by
 obtain ⟨hm,cs,L,o1,o2,o3,o4,o5⟩:=hI.deepO hk E
 have hv:=ZeK hx
 subst hv
 obtain ⟨A,cap,hv,G,hcm⟩:=ZcS o1
 obtain ⟨b1,b2,_⟩:=Zho (P:=P) (w:=w) (g:=g) (b:=true) (len:=xs.length) (cap:=cap) (h:=xs.length) (hi:=none) (vhi:=none) rfl hl F trivial G
 obtain ⟨e',b',z',H⟩:∃e' b' z',tt t=some (.slice e' m b' z'):=by
  unfold ZiK at a
  split at a
  ·rename_i h1;subst a;exact ⟨_,_,_,h1⟩
  ·omega
 obtain ⟨hu,_,_,⟨ie,zv,I,J,_⟩,_⟩:=htt t _ H
 have hO:g.O k=(Value.slice A xs.length cap).ownBlock.toList:=by rw [o4,hv]
 have f:=o1
 rw [hv] at f
 obtain ⟨t1,t2⟩:=Zqw (l:=l) f b2
 generalize hw:(Value.slice (if cap=l then A else A.map (·.add (l * m))) (xs.length - l) (cap - l))=v' at t1 t2
 have u:s.run P w=.ok (.value v') w:=by
  subst hs
  have:(Instr.sliceAt t (.slice A xs.length cap) vlo none none).run P w=.ok v' w:=by
   rw [←hw]
   simp [Instr.sliceAt,Yh hu,Instr.slice,b1,Xp I,J]
  rw [hv]
  simp only[Sem.run_bind,this,Result.andThen_ok,Sem.run_pure]
 obtain ⟨M,r1,r2⟩:=o2.dropS l
 have K:U k:=Classical.byContradiction fun hn=>by have:=hU.gone _ hn;rw [hk] at this;simp at this
 have x:∀b∈(if d=2 then M else []),b∈g.D k:=fun b mb=>by
  split at mb
  ·rename_i hd
   rcases o5 with ⟨_,q⟩ | ⟨q,_⟩
   ·rw [q];exact r2.subset mb
   ·omega
  ·simp at mb
 have z:(xs.drop l).length=xs.length - l:=by simp
 obtain ⟨i1,i2⟩:=hI.turn (key:=key) (U:=U) (w':=w) (v:=v') (O:=v'.ownBlock.toList) (D:=if d=2 then M else []) (o:=.row e m (xs.drop l) d) hU.ob c [k]
  (fun j mj=>by simp at mj;subst mj;exact K) hI.below (A9 _) (fun b hb hn=>rfl)
  (fun b mb=>.inl ⟨k,yG,by rw [hO,←t2];exact mb⟩)
  (fun b mb=>.inl ⟨k,yG,A4.2 (.inr (x b mb))⟩)
  (by
   have hn:=hI.nodup k
   refine hn.sublist (AH (by rw [hO,←t2];exact AE _) ?_)
   split
   ·rename_i hd
    rcases o5 with ⟨_,q⟩ | ⟨q,_⟩
    ·rw [q];exact r2
    ·omega
   ·exact AR _)
  (fun b mb=>by
   have B:b∈g.O k++g.D k:=by
    rcases A4.1 mb with mb | mb
    ·exact A4.2 (.inl (by rw [hO,←t2];exact mb))
    ·exact A4.2 (.inr (x b mb))
   obtain ⟨p1,p2⟩:=hI.plain k b B
   exact ⟨p1,p2.of (by rw [hk];rfl)⟩)
  (fun hown=>⟨hm,cs.drop (l * m),M,by simp only[Gh.turn,Zy];rw [z];exact t1,r1,by
   rcases o5 with ⟨q,_⟩ | ⟨q,_⟩
   ·exact .inl ⟨q,by simp [Gh.turn,Zy],by simp [Gh.turn,q]⟩
   ·refine .inr (.inl ⟨q,by simp [Gh.turn,Zy],by simp [Gh.turn,q],fun b mb ho=>?_⟩)
    rcases ZdX ho with mo | ⟨j,_,_,mj⟩ | hz
    ·exact o3 b (r2.subset mb) (.inl ⟨k,by rw [hO,←t2];exact mo⟩)
    ·exact o3 b (r2.subset mb) (.inl ⟨j,mj⟩)
    ·exact o3 b (r2.subset mb) (.inr hz)⟩)
 have C:=Zh7 (key:=key) (o:=.row e m (xs.drop l) d) hU [k] trivial
 refine ⟨_,v',w,.inl u,i1,⟨_,rfl,⟨by simp [Gh.turn,Zy],?_⟩⟩,i2,fun y my=>by simp at my;subst my;exact Zij,C.1,C.2⟩
 rw [←hw]
 simp [Value.oneCell']
theorem Zso [NW] (htt:∀t i,tt t=some i→TOk P t i) (hI:HI W g st.ob w) (hU:StU U st) (o:¬U key) {t:Nat} {x:SV} {r:SV × List (Nat × Ob)} {lo hi:Option SV} {vx:Value} {vlo vhi:Option Value} (h:Qi st key (tt t) lo hi x=some r) (hx:SVR g w x vx)
  (a:Zkq g w lo vlo) (b:Zkq g w hi vhi) {s:Sem Next} (hs:s=(do pure (.value (←Instr.sliceAt t vx vlo vhi none)))):Fin P W U key st g w s r:=by
 unfold Qi at h
 split at h
 ·rename_i k
  split at h
  rotate_left
  ·simp at h
  split at h
  ·rename_i e m xs d hk
   split at h
   ·rename_i u
    split at h
    ·rename_i f
     obtain ⟨l,hl,rfl⟩:=A3.1 h
     unfold mvS at f
     split at f
     ·have A:¬d=0:=fun e=>by subst e;simp at f
      cases vhi with
      | some _=>exact b.elim
      | none=>exact Zth htt hI hU o hk A u hl hx a hs
     ·simp at f
    obtain ⟨q,hq,h⟩:=A5.1 h
    obtain ⟨l,hl,rfl⟩:=A3.1 h
    obtain ⟨g1,i1,i2,i3,_⟩:=ZhF hI k
    rw [hk] at i1
    obtain ⟨L,t1,t2⟩:=ZoZ i1 (Zy st.ob k (.row e m xs 0))
    have B:vx=g1.val k:=by rw [i2];exact ZeK hx
    have C:SVR g1 w (.p false [.c (.sl e m xs)]) vx:=⟨_,rfl,L,B ▸ t1,t2⟩
    have D:Zkq g1 w lo vlo:=by
     cases lo<;>cases vlo<;>simp only[Zkq] at a ⊢
     exact a.less i2 i3
    have E:Zkq g1 w hi vhi:=by
     cases hi<;>cases vhi<;>simp only[Zkq] at b ⊢
     exact b.less i2 i3
    obtain ⟨cv,c1,c2,c3⟩:=Zor (t:=t) (U:=U) (g:=g1) (P:=P) (x:=.p false [.c (.sl e m xs)]) (v:=.p false [.c (.sl e m ((xs.take q).drop l))]) htt (by simp only[ZkW,u,if_true,hq,hl,AL,AD]) C D E
    have F:U k:=Classical.byContradiction fun hn=>by have:=hU.gone _ hn;rw [hk] at this;simp at this
    refine ⟨g1,cv,w,.inl (by rw [hs];simp only[Sem.run_bind,c1,Result.andThen_ok,Sem.run_pure]),i1,c2,fun y v _ hy=>hy.less i2 i3,c3.mono fun _=>.inl,fun j=>?_,fun j hj=>?_⟩
    ·show obU _ (upd st.ob k (.row e m xs 0) j)
     by_cases z:j=k
     ·subst z;rw [Zy];trivial
     ·rw [ZI _ _ z];exact (hU.ob j).mono fun _=>.inl
    ·show upd st.ob k (.row e m xs 0) j=_
     rw [ZI _ _ (show j≠k from fun e=>hj (.inl (e ▸ F)))];exact hU.gone j fun h=>hj (.inl h)
   ·simp at h
  ·simp at h
 ·obtain ⟨v,hv,rfl⟩:=A3.1 h
  obtain ⟨cv,c1,c2,c3⟩:=Zor (U:=U) htt hv hx a b
  exact QY hI hU (by rw [hs];simp only[Sem.run_bind,c1,Result.andThen_ok,Sem.run_pure]) c2 c3
 ·simp at h
end
end
section
open Go.RowKit Go.MapKept
theorem Zlo {kk:PK} {d:TypeDesc} {k:Value} (hd:Zc4 kk d=true) (hk:Zgw kk k):IsKey d k:=by
 cases kk<;>cases d<;>simp [Zc4] at hd<;>cases k<;>simp_all [Zgw,IsKey]
theorem Zrf {kk:PK} {a b:Value} (ha:Zgw kk a) (hb:Zgw kk b):vEq a b=true↔a=b:=by
 cases kk<;>cases a<;>simp [Zgw] at ha<;>cases b<;>simp [Zgw] at hb<;>simp_all [vEq,sEq]
theorem Zg1 [NW] {kk vk:PK} {d:TypeDesc} {k:Value} (hd:Zc4 kk d=true) (hk:Zgw kk k):∀(l:List MapEntry) (i:Nat),Zib kk vk (l.map fun e=>(e.key,e.val))→
  (Instr.findNow d k l i=some none∧Zjs (l.map fun e=>(e.key,e.val)) k=none∧∀v,Zd6 (l.map fun e=>(e.key,e.val)) k v=(l.map fun e=>(e.key,e.val))++[(k,v)])∨
  ∃j e,Instr.findNow d k l i=some (some (i+j,e.val))∧l[j]?=some e∧e.key=k∧Zjs (l.map fun e=>(e.key,e.val)) k=some e.val∧Zgw vk e.val∧∀v,Zd6 (l.map fun e=>(e.key,e.val)) k v=(l.modify j fun e=>{ e with key:=k,val:=v }).map fun e=>(e.key,e.val)
 | [],i,_=>.inl ⟨rfl,rfl,fun _=>rfl⟩
 | e::l,i,h=>by
  have he:=h (e.key,e.val) yG
  obtain ⟨r,hr,b⟩:=sameNow_of_keys (Zlo hd hk) (Zlo hd he.1)
  cases r with
  | true=>
   have c:=b.1 rfl
   have hv:vEq k e.key=true:=(Zrf hk he.1).2 c
   exact .inr ⟨0,e,by simp [Instr.findNow,hr],rfl,c.symm,by simp [Zjs,hv],he.2,fun v=>by simp [Zd6,hv]⟩
  | false=>
   have a:¬vEq k e.key=true:=fun q=>by have:=b.2 ((Zrf hk he.1).1 q);cases this
   rcases Zg1 hd hk l (i+1) (fun p m=>h p (by simp only[Ak,A8];exact .inr m)) with ⟨h1,h2,h3⟩ | ⟨j,e',h1,h2,h3,h4,h5,h6⟩
   ·exact .inl ⟨by simp [Instr.findNow,hr,h1],by simp [Zjs,a,h2],fun v=>by simp [Zd6,a,h3]⟩
   ·exact .inr ⟨j+1,e',by simp [Instr.findNow,hr,h1];omega,by simpa using h2,h3,by simp [Zjs,a,h4],h5,fun v=>by simp [Zd6,a,h6]⟩
section
variable {P:Program} {W:QK} {U:Nat→Prop} {key:Nat} {st:St} {g:Gh} {w w':World} {a:Act} {tt:Nat→Option TI}
theorem Zx2 [NW] {vk:PK} {v:Value} (h:Zgw vk v):AVR g w (avV v) v:=by
 cases vk<;>cases v<;>simp [Zgw] at h<;>first | exact ⟨[],⟨rfl,rfl⟩,by simp⟩ | exact ⟨[],⟨rfl,rfl,h⟩,by simp⟩
theorem ZAC (v:Value):avU U (avV v):=by cases v<;>trivial
theorem Znk [NW] {kk:PK} {x:SV} {v k:Value} (h:Zrz kk x=some k) (hx:SVR g w x v):v=k∧Zgw kk k:=by
 unfold Zrz at h
 split at h
 ·split at h<;>simp only[A0,reduceCtorEq] at h
  rename_i e;subst e h
  exact ⟨Za1 hx,rfl⟩
 ·simp only[A0] at h;subst h
  exact ⟨(Zhm hx).1,(Zhm hx).2⟩
 ·simp only[A0] at h;subst h
  exact ⟨ZeW hx,trivial⟩
 ·simp at h
theorem Zks (htt:∀t i,tt t=some i→TOk P t i) {t:Nat} {kk vk:PK} (h:ZdE kk vk (tt t)=true):TOk P t (.map kk vk):=by
 unfold ZdE at h
 split at h
 ·rename_i a b c
  simp only[AC,decide_eq_true_eq] at h
  rw [h.1,h.2] at c
  exact htt _ _ c
 ·simp at h
theorem ZrT [NW] {vk:PK} {zv:Value} (h:QV (ZdG vk) zv=true):AVR g w (ZdG vk) zv∧avU U (ZdG vk):=by
 refine ⟨Zep h,?_⟩
 cases vk<;>trivial
theorem ZpQ [NW] (htt:∀t i,tt t=some i→TOk P t i) {t:Nat} {kk vk:PK} {kv:List (Value × Value)} {i v:SV} {vi:Value} {ok:Bool} {b c:Nat} {es:Array MapEntry} (hm:ZdE kk vk (tt t)=true) (h:ZpB kk vk kv i ok=some v) (hi:SVR g w i vi) (hb:w.heap[b]?=some (.map es c)) (m:Zc2 es=kv) (o:Zib kk vk kv):
  ∃cv,(Instr.lookup t (.map (some b)) vi ok).run P w=.ok cv w∧SVR g w v cv∧svU U v:=by
 obtain ⟨kt,et,dk,dv,inf,zv,h1,h2,h3,h4,h5,h6,h7,h8⟩:=Zks htt hm
 unfold ZpB at h
 obtain ⟨k,hk,rfl⟩:=A3.1 h
 obtain ⟨rfl,d⟩:=Znk hk hi
 subst m
 have hz:=ZrT (g:=g) (w:=w) (U:=U) h8
 have q:(zeroValue et).run P w=.ok zv w:=Zhp h6 h7
 have key:∃r:Option (Nat × Value),(Instr.findKey kt vi es.toList).run P w=.ok r w∧(match r with | some p=>Zjs (Zc2 es) vi=some p.2∧Zgw vk p.2 | none=>Zjs (Zc2 es) vi=none):=by
  rcases Zg1 h3 d es.toList 0 o with ⟨f1,f2,_⟩ | ⟨j,e,f1,f2,f3,f4,f5,_⟩
  ·exact ⟨none,run_findKey h2 f1,f2⟩
  ·exact ⟨some _,run_findKey h2 f1,f4,f5⟩
 obtain ⟨r,hr,a⟩:=key
 have f:(Instr.checkKey es.isEmpty 10000 kt vi).run P w=.ok () w:=run_checkKey (P:=P) (w:=w) h2 (Zlo h3 d) es.isEmpty 9999
 have hg:(getObj b).run P w=.ok (.map es c) w:=by simp [getObj,Sem.run,hb]
 have l:∃rv rb,(Instr.lookup t (.map (some b)) vi ok).run P w=.ok (if ok then .tuple #[rv,.bool rb] else rv) w∧AVR g w (ZaV (Zc2 es) vi (ZdG vk)) rv∧avU U (ZaV (Zc2 es) vi (ZdG vk))∧ZdR (Zc2 es) vi=rb:=by
  cases r with
  | none=>
   simp only at a
   refine ⟨zv,false,?_,by simp only[ZaV,a];exact hz.1,by simp only[ZaV,a];exact hz.2,by simp [ZdR,a]⟩
   unfold Instr.lookup
   simp only[Sem.run_bind,Yh h1,Result.andThen_ok,hg,Sem.run_pure,f,hr,q]
  | some p=>
   simp only at a
   refine ⟨p.2,true,?_,by simp only[ZaV,a.1];exact Zx2 a.2,by simp only[ZaV,a.1];exact ZAC _,by simp [ZdR,a.1]⟩
   unfold Instr.lookup
   simp only[Sem.run_bind,Yh h1,Result.andThen_ok,hg,Sem.run_pure,f,hr]
 obtain ⟨rv,rb,q1,q2,q3,q4⟩:=l
 refine ⟨_,q1,?_,?_⟩
 ·cases ok with
  | true=>exact ⟨[rv,.bool rb],rfl,⟨_,rfl,q2⟩,⟨_,rfl,[],⟨by rw [q4],rfl⟩,yG⟩,trivial⟩
  | false=>exact ⟨_,rfl,q2⟩
 ·cases ok with
  | true=>
   intro y my
   simp only[A8,AM,or_false] at my
   rcases my with rfl | rfl
   ·intro z mz;simp at mz;subst mz;exact q3
   ·intro z mz;simp at mz;subst mz;trivial
  | false=>intro z mz;simp at mz;subst mz;exact q3
theorem ZuJ [NW] (htt:∀t i,tt t=some i→TOk P t i) (hI:HI W g st.ob w) {t:Nat} {x i v:SV} {vx vi:Value} {ok:Bool} (h:Zfb st (tt t) x i ok=some v) (hx:SVR g w x vx) (hi:SVR g w i vi):
  ∃cv,(Instr.lookup t vx vi ok).run P w=.ok cv w∧SVR g w v cv∧svU U v:=by
 unfold Zfb at h
 split at h
 ·rename_i k
  split at h
  ·rename_i kk vk kv hk
   split at h
   ·rename_i hm
    have hv:=ZeK hx
    have ho:=hI.obs k
    rw [hk] at ho
    obtain ⟨b,es,c,h1,_,_,h4,h5,h6⟩:=ho
    rw [hv,h1]
    exact ZpQ htt hm h hi h4 h5 h6
   ·simp at h
  ·simp at h
 ·rename_i kk vk kv
  split at h
  ·rename_i hm
   obtain ⟨y,hy,hx⟩:=hx
   simp at hy;subst hy
   obtain ⟨L,⟨b,es,c,rfl,h4,h5,h6,_⟩,_⟩:=hx
   exact ZpQ htt hm h hi h4 h5 h6
  ·simp at h
 ·simp at h
theorem ZwM [NW] (htt:∀t i,tt t=some i→TOk P t i) (hI:HI W g st.ob w) (hU:StU U st) (c:¬U key) {t:Nat} {r:SV × List (Nat × Ob)} (h:Zl6 key (tt t)=some r) {s:Sem Next} (hs:s=(do pure (.value (←Instr.makeMap t none)))):Fin P W U key st g w s r:=by
 unfold Zl6 at h
 split at h
 ·rename_i kk vk hti
  simp only[A0] at h;subst h
  have d:s.run P w=.ok (.value (.map (some w.heap.size))) (w.alloc (.map #[] 0)):=by
   subst hs
   have h0:(Instr.makeMap t none).run P w=.ok (.map (some w.heap.size)) (w.alloc (.map #[] 0)):=rfl
   simp only[Sem.run_bind,h0,Result.andThen_ok,Sem.run_pure]
  have hb:Below w.heap.size w (w.alloc (.map #[] 0)):=(Below.refl _ _).alloc (A9 _) _
  have a:=heap_alloc_new w (.map #[] 0)
  obtain ⟨h1,h2⟩:=hI.turn (key:=key) (U:=U) (w':=w.alloc (.map #[] 0)) (v:=.map (some w.heap.size)) (O:=[w.heap.size]) (D:=[]) (o:=.map kk vk []) hU.ob c [] yG
   (hI.below.trans hb) hb.size (fun b f _=>hb.block b f) yG yG yG (fun b mb=>by
    simp at mb;subst mb
    exact ⟨.inl hI.below.size,_,_,a⟩)
   (fun _=>⟨w.heap.size,#[],0,by simp [Gh.turn,upd],by simp [Gh.turn,upd],by simp [Gh.turn,upd],a,rfl,fun _ m=>by simp at m⟩)
  have e:=Zh7 (key:=key) (o:=.map kk vk []) hU [] trivial
  exact ⟨_,_,_,.inl d,h1,⟨_,rfl,⟨by simp [Gh.turn,upd],by simp [Value.oneCell']⟩⟩,h2,fun y my=>by simp at my;subst my;exact Zij,e.1,e.2⟩
 ·simp at h
theorem Zvp [NW] (htt:∀t i,tt t=some i→TOk P t i) {t:Nat} {kk vk:PK} {kv:List (Value × Value)} {k v:Value} {b c:Nat} {es:Array MapEntry} (hm:ZdE kk vk (tt t)=true) (hk:Zgw kk k) (hv:Zgw vk v) (hb:w.heap[b]?=some (.map es c)) (x:Zc2 es=kv) (d:Zib kk vk kv):
  ∃f c',(Instr.mapUpdate t (.map (some b)) k v).run P w=.ok () { w with heap:=w.heap.setIfInBounds b (.map f c') }∧Zc2 f=Zd6 kv k v∧Zib kk vk (Zd6 kv k v):=by
 obtain ⟨kt,et,dk,dv,inf,zv,h1,h2,h3,h4,h5,h6,h7,h8⟩:=Zks htt hm
 subst x
 have g:(Instr.checkKey false 10000 kt k).run P w=.ok () w:=run_checkKey (P:=P) (w:=w) h2 (Zlo h3 hk) false 9999
 have hg:(getObj b).run P w=.ok (.map es c) w:=by simp [getObj,Sem.run,hb]
 have l:∀o,(setObj b o).run P w=.ok () { w with heap:=w.heap.setIfInBounds b o }:=fun o=>by simp [setObj,Sem.run,hb]
 have a:∀{kv:List (Value × Value)},Zib kk vk kv→Zib kk vk (Zd6 kv k v):=fun {kv}=>by
  induction kv with
  | nil=>intro _ p m;simp [Zd6] at m;subst m;exact ⟨hk,hv⟩
  | cons q r ih=>
   intro h p m
   simp only[Zd6] at m
   split at m
   ·rcases A8.1 m with rfl | m
    ·exact ⟨hk,hv⟩
    ·exact h p (by simp [m])
   ·rcases A8.1 m with rfl | m
    ·exact h p yG
    ·exact ih (fun q mq=>h q (by simp [mq])) p m
 rcases Zg1 h3 hk es.toList 0 d with ⟨f1,_,f2⟩ | ⟨j,e,f1,f2,f3,_,_,f4⟩
 ·refine ⟨es.push { key:=k,val:=v,born:=c },c+1,?_,?_,a d⟩
  ·have hf:=run_findKey (P:=P) (w:=w) h2 f1
   unfold Instr.mapUpdate
   simp only[Sem.run_bind,Yh h1,Result.andThen_ok,hg,g,hf,l]
  ·rw [show Zd6 (Zc2 es) k v=_ from f2 v];simp [Zc2]
 ·rw [Aj] at f1
  have hf:=run_findKey (P:=P) (w:=w) h2 f1
  have hj:es[j]?=some e:=by simpa using f2
  have u:(Instr.keyThatStays k k).run P w=.ok k w:=run_keyThatStays (Zlo h3 hk)
  refine ⟨es.modify j fun e=>{ e with key:=k,val:=v },c,?_,?_,a d⟩
  ·unfold Instr.mapUpdate
   simp only[Sem.run_bind,Yh h1,Result.andThen_ok,hg,g,hf,l,hj,AD,Al,f3,u]
  ·rw [show Zd6 (Zc2 es) k v=_ from f4 v];simp [Zc2]
theorem ZxO [NW] (htt:∀t i,tt t=some i→TOk P t i) (hI:HI W g st.ob w) (hU:StU U st) {t:Nat} {x i v:SV} {u:List (Nat × Ob)} {vx vi vv:Value} (h:Zsw st (tt t) x i v=some u) (hx:SVR g w x vx) (hi:SVR g w i vi) (hv:SVR g w v vv) {s:Sem Next} (hs:s=(do Instr.mapUpdate t vx vi vv;pure .skip)):Fin P W U key st g w s (.und,u):=by
 unfold Zsw at h
 split at h
 ·rename_i k
  split at h
  ·rename_i kk vk kv hk
   split at h
   ·rename_i hm
    obtain ⟨a,ha,h⟩:=A5.1 h
    obtain ⟨b',o,rfl⟩:=A3.1 h
    obtain ⟨rfl,p⟩:=Znk ha hi
    obtain ⟨rfl,y⟩:=Znk o hv
    have z:=ZeK hx
    have ho:=hI.obs k
    rw [hk] at ho
    obtain ⟨b,es,c,h1,h2,h3,h4,h5,h6⟩:=ho
    obtain ⟨d,c',r1,r2,r3⟩:=Zvp (w:=w) htt hm p y h4 h5 h6
    have f:s.run P w=.ok .skip { w with heap:=w.heap.setIfInBounds b (.map d c') }:=by
     rw [hs,z,h1];simp only[Sem.run_bind,r1,Result.andThen_ok,Sem.run_pure]
    obtain ⟨q1,q2⟩:=heap_set (o':=.map d c') h4
    have hlt:b<w.heap.size:=(Aa.1 h4).1
    have j:({ w with heap:=w.heap.setIfInBounds b (.map d c') }:World).heap.size=w.heap.size:=by simp
    have l:W.heap.size≤b∨W.x b:=(hI.plain k b (by simp [h2])).1
    have A:U k:=Classical.byContradiction fun hn=>by have:=hU.gone _ hn;rw [hk] at this;simp at this
    have B:∀b',b'<w.heap.size→¬g.own b'→({ w with heap:=w.heap.setIfInBounds b (.map d c') }:World).heap[b']?=w.heap[b']?:=fun b' _ hn=>q2 b' fun e=>hn (.inl ⟨k,by simp [h2,e]⟩)
    refine ⟨g,undef,_,.inr ⟨f,rfl⟩,?_,rfl,fun x u hx hu=>hu.move hx (fun _ _=>rfl) B (X7.refl _ _) (Nat.le_of_eq j.symm),trivial,fun q=>?_,fun q hq=>?_⟩
    ·refine hI.step (U:=U) (fun q=>q=k) ?_ rfl (fun b' _ hn=>q2 b' fun e=>hn k rfl (by simp [h2,e])) (fun q hq=>⟨ZI _ _ hq,rfl,rfl,rfl⟩) hU.ob (fun _ _=>rfl) (X7.refl _ _) (fun q hq=>?_)
     ·exact ⟨hI.below.os,hI.below.tape,hI.below.output,AQ hI.below.size (Nat.le_of_eq j.symm),fun q hq hx=>by
       show (w.heap.setIfInBounds b (.map d c'))[q]?=_
       rw [q2 q (fun e=>by subst e;rcases l with h | h;omega;exact hx h)];exact hI.below.block q hq hx⟩
     ·subst hq
      refine ⟨?_,hI.nodup q,fun b' m=>?_,hI.apart q⟩
      ·simp only[Zk,Zy]
       exact ⟨b,d,c',h1,h2,h3,q1,r2,r3⟩
      ·simp [h2,h3] at m
       subst m
       refine ⟨l,?_⟩
       simp only[Zk,Zy]
       exact ⟨_,_,q1⟩
    ·simp only[Zk,upd]
     split
     ·trivial
     ·exact (hU.ob q).mono fun _=>.inl
    ·simp only[Zk,upd]
     split
     ·rename_i e;subst e;exact absurd (.inl A) hq
     ·exact hU.gone q fun h=>hq (.inl h)
   ·simp at h
  ·simp at h
 ·simp at h
theorem Zre [NW]:∀{cs:List AV} {l:List CT} {vs:List Value},Zhy.zBox cs=some l→ZH (AVR g w) cs vs→∃L,RCs w l vs L∧∀b∈L,¬g.own b
 | [],l,[],h,_=>by simp [Zhy.zBox] at h;subst h;exact ⟨[],⟨rfl,rfl⟩,yG⟩
 | [],_,_::_,_,h=>h.elim
 | _::_,_,[],_,h=>h.elim
 | x::r,l,v::vs,h,hr=>by
  cases x with
  | c x=>
   simp only[Zhy.zBox] at h
   obtain ⟨b,hb,rfl⟩:=A3.1 h
   obtain ⟨L,h1,h2⟩:=Zre hb hr.2
   obtain ⟨L0,h3,h4⟩:=hr.1
   refine ⟨L0++L,⟨v,vs,L0,L,rfl,rfl,h3,h1⟩,fun b mb=>?_⟩
   rcases A4.1 mb with m | m
   ·exact h4 b m
   ·exact h2 b m
  | _=>simp [Zhy.zBox] at h
theorem Zsz {x:SV} {r:CT × List (Nat × Ob)} (h:Zhy st x=some r):(∀p∈r.2,p.2=Ob.gone∧∃t cs,st.ob p.1=.box t cs):=by
 unfold Zhy at h
 split at h
 ·split at h
  ·rename_i k _ t cs hk
   obtain ⟨l,_,rfl⟩:=A3.1 h
   intro p mp;simp at mp;subst mp
   exact ⟨rfl,t,cs,hk⟩
  ·simp at h
 ·simp only[A0] at h;subst h;intro p mp;simp at mp
 ·simp at h
theorem Zvl [NW] {ob:Nat→Ob} (hI:HI W g ob w) {x:SV} {r:CT × List (Nat × Ob)} {v:Value} (h:Zhy st x=some r) (a:∀p∈r.2,ob p.1=st.ob p.1) (hx:SVR g w x v):
  ∃g1:Gh,HI W g1 (Zk ob r.2) w∧g1.val=g.val∧Y7 g1 g∧∃L,RC w r.1 v L∧∀b∈L,¬g1.own b:=by
 unfold Zhy at h
 split at h
 ·rename_i k
  split at h
  ·rename_i t cs hk
   obtain ⟨l,hl,rfl⟩:=A3.1 h
   have c:ob k=.box t cs:=(a (k,.gone) yG).trans hk
   obtain ⟨g1,i1,i2,i3,b,vs,j1,j2,j3,j4,j5⟩:=Zuq hI c
   obtain ⟨L,l1,l2⟩:=Zre hl j5
   obtain ⟨b',e1,rfl⟩:=hx
   rw [j1] at e1
   simp at e1
   subst e1
   refine ⟨g1,i1,i2,i3,b::L,⟨b,vs,L,rfl,j3,rfl,j4,l1⟩,fun x mx=>?_⟩
   rcases A8.1 mx with rfl | mx
   ·exact j2
   ·exact fun hx=>l2 x mx (i3.own x hx)
  ·simp at h
 ·simp only[A0] at h;subst h
  obtain ⟨y,hy,hx⟩:=hx
  simp at hy;subst hy
  obtain ⟨L,h1,h2⟩:=hx
  exact ⟨g,hI,rfl,Y7.refl _,L,h1,h2⟩
 ·simp at h
theorem Zo7 [NW]:∀{xs:List SV} {ob:Nat→Ob} {g:Gh} {r:List CT × List (Nat × Ob)} {vs:List Value},HI W g ob w→ZdD st xs=some r→(r.2.map (·.1)).Nodup→(∀p∈r.2,ob p.1=st.ob p.1)→ZH (SVR g w) xs vs→
  ∃g1:Gh,HI W g1 (Zk ob r.2) w∧g1.val=g.val∧Y7 g1 g∧∃L,RCs w r.1 vs L∧∀b∈L,¬g1.own b
 | [],ob,g,r,vs,hI,h,_,_,hr=>by
  simp [ZdD] at h;subst h
  cases vs with
  | nil=>exact ⟨g,hI,rfl,Y7.refl _,[],⟨rfl,rfl⟩,by simp⟩
  | cons _ _=>exact hr.elim
 | x::xs,ob,g,r,[],hI,h,_,_,hr=>hr.elim
 | x::xs,ob,g,r,v::vs,hI,h,hn,hob,hr=>by
  simp only[ZdD] at h
  obtain ⟨a,ha,h⟩:=A5.1 h
  obtain ⟨b,hb,rfl⟩:=A3.1 h
  simp only[Au,AK] at hn
  obtain ⟨n1,n2,n3⟩:=hn
  obtain ⟨g1,i1,i2,i3,L1,l1,l2⟩:=Zvl hI ha (fun p m=>hob p (by simp [m])) hr.1
  have hob2:∀p∈b.2,Zk ob a.2 p.1=st.ob p.1:=fun p mp=>by
   have hne:∀q∈a.2,q.1≠p.1:=fun q mq=>n3 q.1 (A7.2 ⟨q,mq,rfl⟩) p.1 (A7.2 ⟨p,mp,rfl⟩)
   have:∀(u:List (Nat × Ob)) (ob:Nat→Ob),(∀q∈u,q.1≠p.1)→Zk ob u p.1=ob p.1:=by
    intro u
    induction u with
    | nil=>intro ob _;rfl
    | cons q u ih=>intro ob h;rw [Zk,ih _ fun z mz=>h z (by simp [mz])];exact ZI _ _ fun e=>h q (by simp) e.symm
   rw [this _ _ hne]
   exact hob p (by simp [mp])
  have hr2:ZH (SVR g1 w) xs vs:=hr.2.mono fun x u _ hx=>hx.less i2 i3
  obtain ⟨g2,k1,k2,k3,L2,m1,m2⟩:=Zo7 i1 hb n2 hob2 hr2
  refine ⟨g2,?_,k2.trans i2,k3.trans i3,L1++L2,⟨v,vs,L1,L2,rfl,rfl,l1,m1⟩,fun x mx=>?_⟩
  ·rw [Yy];exact k1
  ·rcases A4.1 mx with m | m
   ·exact fun hx=>l2 x m (k3.own x hx)
   ·exact m2 x m
theorem Zk5 [NW]:∀{xs:List SV} {r:List CT × List (Nat × Ob)},ZdD st xs=some r→∀p∈r.2,p.2=Ob.gone∧∃t cs,st.ob p.1=.box t cs
 | [],r,h=>by simp [ZdD] at h;subst h;intro p m;simp at m
 | x::xs,r,h=>by
  simp only[ZdD] at h
  obtain ⟨a,ha,h⟩:=A5.1 h
  obtain ⟨b,hb,rfl⟩:=A3.1 h
  intro p m
  rcases A4.1 m with m | m
  ·exact Zsz ha p m
  ·exact Zk5 hb p m
theorem ZzB [NW] (hI:HI W g st.ob w) (hU:StU U st) {f:FuncId} {xs:List SV} {vs:List Value} {r:List CT × List (Nat × Ob)} (h:ZdD st xs=some r) (hn:(r.2.map (·.1)).Nodup) (hr:ZH (SVR g w) xs vs) {s:Sem Next} (hs:s.run P w=.ok (.value (.func (.func f) #[] vs.toArray)) w):Fin P W U key st g w s (.p false [.c (.fn f r.1)],r.2):=by
 obtain ⟨g1,i1,i2,i3,L,l1,l2⟩:=Zo7 hI h hn (fun _ _=>rfl) hr
 have hg:=Zk5 h
 have a:∀(u:List (Nat × Ob)) (ob:Nat→Ob) (k:Nat),(∀p∈u,p.2=Ob.gone)→Zk ob u k=ob k∨Zk ob u k=.gone:=by
  intro u
  induction u with
  | nil=>intro ob k _;exact .inl rfl
  | cons q u ih=>
   intro ob k h
   rw [Zk]
   rcases ih (upd ob q.1 q.2) k (fun p m=>h p (by simp [m])) with e | e
   ·rw [e]
    by_cases hk:k=q.1
    ·right;rw [hk,Zy];exact h q yG
    ·left;exact ZI _ _ hk
   ·exact .inr e
 refine ⟨g1,_,w,.inl hs,i1,⟨_,rfl,L,⟨vs,rfl,l1⟩,l2⟩,fun x u _ hx=>hx.less i2 i3,Y8 _,fun k=>?_,fun k hk=>?_⟩
 ·rcases a r.2 st.ob k (fun p m=>(hg p m).1) with e | e
  ·rw [e];exact (hU.ob k).mono fun _=>.inl
  ·rw [e];trivial
 ·rcases a r.2 st.ob k (fun p m=>(hg p m).1) with e | e
  ·rw [e];exact hU.gone k fun h=>hk (.inl h)
  ·exact e
end
end
section
open Go.RowKit
section
variable {P:Program} {W:QK} {U:Nat→Prop} {key:Nat} {st:St} {g:Gh} {w w':World} {a:Act} {tt:Nat→Option TI}
theorem Zed:∀(ts:List TypeId) (xs:List Operand),(ZhJ ts xs).map (·.2)=xs
 | _,[]=>by cases ‹List TypeId›<;>rfl
 | [],x::xs=>by simp [ZhJ,Zed [] xs]
 | t::ts,x::xs=>by simp [ZhJ,Zed ts xs]
theorem Zsj [NW] (htt:∀t i,tt t=some i→TOk P t i) {t:Nat} {z:List AV} (h:Zj8 (tt t)=some z):∃zv vs,(zeroValue t).run P w=.ok zv w∧zv.cells=(vs:List Value).toArray∧ZH (AVR g w) z vs∧X6 U z:=by
 unfold Zj8 at h
 split at h<;>simp only[A0,reduceCtorEq] at h<;>subst h<;>rename_i hti
 ·obtain ⟨d,zv,i,h1,h2,h3,h4,h5,h6⟩:=htt t _ hti
  have hr:AVR g w _ zv:=Zep h6
  exact ⟨zv,[zv],Zhp h3 h4,by rw [ZmH hr.one],⟨hr,trivial⟩,fun y m=>by
   simp at m;subst m
   cases y<;>first | trivial | simp [QV] at h6⟩
 ·obtain ⟨fields,i,zvs,h1,h2,h3,h4,h5,_⟩:=htt t _ hti
  obtain ⟨q1,q2⟩:=Zhc (g:=g) (w:=w) (U:=U) h5
  exact ⟨.agg zvs,zvs.toList,Zhp h2 h4,by simp [Value.cells],q1,q2⟩
 ·obtain ⟨_,hm,_,_,j,h1,h2,h3⟩:=htt t _ hti
  exact ⟨_,[.slice none 0 0],Zhp h1 h3,rfl,⟨rfl,trivial⟩,fun y m=>by simp at m;subst m;trivial⟩
set_option maxHeartbeats 1000000 in
theorem ZmA [NW] (htt:∀t i,tt t=some i→TOk P t i) (o:Oper) {r:SV × List (Nat × Ob)} (hr:opE tt key o st=some r) (hI:HI W g st.ob w) (hS:∀t,SVR g w (st.sl t) (a.tmps.getD t undef)) (hU:StU U st) (hkey:¬U key):
  Fin P W U key st g w (execOp a.eval o) r:=by
 have ev:=fun t x=>Zi6 (P:=P) (a:=a) (g:=g) (w:=w) (U:=U) htt hS hU t x
 have pur:∀{v:Option SV} {s:Sem Value},Zay v=some r→execOp a.eval o=(do pure (.value (←s)))→(∀u,v=some u→∃cv,s.run P w=.ok cv w∧SVR g w u cv∧svU U u)→Fin P W U key st g w (execOp a.eval o) r:=fun {v s} hp he hv=>by
  obtain ⟨u,hu,rfl⟩:=A3.1 hp
  obtain ⟨cv,c1,c2,c3⟩:=hv u hu
  exact QY hI hU (by rw [he];simp only[Sem.run_bind,c1,Result.andThen_ok,Sem.run_pure]) c2 c3
 obtain ⟨dst,op,ty,pos,af,gd⟩:=o
 cases op with
 | move x=>
  simp only[opE,A0] at hr;subst hr
  exact QY hI hU rfl (ev ty x).1 (ev ty x).2
 | assign x=>
  simp only[opE,A0] at hr;subst hr
  exact QY hI hU rfl (ev ty x).1 (ev ty x).2
 | pick c x y=>
  simp only[opE] at hr
  split at hr
  ·rename_i b hb
   simp only[A0] at hr;subst hr
   have hc:=(ev 0 c).1
   rw [hb] at hc
   obtain ⟨cv,c1,c2,c3⟩:=Zvs (P:=P) hc (ev ty x) (ev ty y)
   exact QY hI hU c1 c2 c3
  ·simp at hr
 | alloc t=>
  simp only[opE] at hr
  obtain ⟨z,hz,rfl⟩:=A3.1 hr
  obtain ⟨zv,vs,h1,h2,h3,h4⟩:=Zsj (P:=P) (g:=g) (w:=w) (U:=U) htt hz
  exact ZtI hI hU hkey h3 h4 (by simp [execOp,Instr.alloc,h1,newVar,newRow,h2])
 | box t x=>
  simp only[opE] at hr
  split at hr
  ·rename_i ag cs hx
   simp only[A0] at hr;subst hr
   have hv:=ev t x
   rw [hx] at hv
   obtain ⟨vs,h2,h3⟩:=PVR.cells hv.1
   exact ZtI hI hU hkey h3 hv.2 (by simp [execOp,Instr.box,newVar,newRow,h2])
  ·simp at hr
 | build t parts=>
  simp only[opE] at hr
  split at hr
  ·rename_i fs n z hti
   obtain ⟨cs,hcs,rfl⟩:=A3.1 hr
   obtain ⟨cv,c1,c2,c3⟩:=Zud (P:=P) htt hS hU hti hcs
   exact QY hI hU (by simp only[execOp,Sem.run_bind,c1,Result.andThen_ok,Sem.run_pure]) c2 c3
  ·simp at hr
 | buildSlice t len parts=>
  simp only[opE] at hr
  split at hr
  ·rename_i e m bytes z hti
   obtain ⟨⟨xs,ks,d⟩,h1,hr⟩:=A5.1 hr
   split at hr
   ·rename_i hc
    simp only[A0] at hr;subst hr
    exact Zwb htt hI hS hU hkey hti h1 hc.1 hc.2.1 hc.2.2.1 rfl
   ·simp at hr
  ·simp at hr
 | load t x=>exact pur hr rfl fun u hu=>Zq2 htt hI hU hu (ev 0 x).1
 | store t x v=>
  simp only[opE] at hr
  obtain ⟨u,hu,rfl⟩:=A3.1 hr
  have hx:=ev 0 x
  have hv:=ev t v
  unfold Zk4 at hu
  split at hu
  ·rename_i k off ag vs he1 he2
   rw [he1] at hx
   rw [he2] at hv
   split at hu
   ·rename_i tb cs hk
    split at hu
    ·rename_i hc
     simp only[A0] at hu;subst hu
     exact ZtA htt hI hU hk hc.1 hc.2.2 hx.1 hv.1 hv.2 hc.2.1 rfl
    ·simp at hu
   ·simp at hu
  ·rename_i k m i off ag vs he1 he2
   rw [he1] at hx
   rw [he2] at hv
   split at hu
   ·rename_i e m' xs d hk
    obtain ⟨y,hy,hu⟩:=A5.1 hu
    obtain ⟨ys,hys,hu⟩:=A5.1 hu
    split at hu
    ·rename_i hc
     simp only[A0] at hu;subst hu
     obtain ⟨rfl,hc1,hc2,hc3,hc4⟩:=hc
     exact ZsL htt hI hU hk (by omega) hy hys hc1 hc3 hx.1 hv.1 hc2 rfl
    ·simp at hu
   ·simp at hu
  ·simp at hu
 | nilCheck x=>
  simp only[opE] at hr
  have hx:=ev 0 x
  split at hr<;>simp only[A0,reduceCtorEq] at hr<;>subst hr<;>rename_i he<;>rw [he] at hx
  ·obtain ⟨b,_,hv⟩:=hx.1
   exact QY hI hU (cv:=a.eval x) (by simp [execOp,hv]) hx.1 hx.2
  ·obtain ⟨b,_,_,_,hv⟩:=hx.1
   exact QY hI hU (cv:=a.eval x) (by simp [execOp,hv]) hx.1 hx.2
  ·obtain ⟨b,_,_,_,hv,_⟩:=hx.1
   exact QY hI hU (cv:=a.eval x) (by simp [execOp,hv]) hx.1 hx.2
  ·obtain ⟨b,_,_,hv,_⟩:=ZqT hx.1
   exact QY hI hU (cv:=a.eval x) (by simp [execOp,hv]) hx.1 hx.2
 | binOp op t x y t'=>exact pur hr rfl fun u hu=>ZuQ htt hu (ev t x).1 (ev t y).1
 | unOp op t x=>exact pur hr rfl fun u hu=>ZBh hu (ev 0 x).1
 | convert s t x=>exact pur hr rfl fun u hu=>Zs1 htt hI hu (ev 0 x).1
 | makeSlice t n c=>
  simp only[opE] at hr
  have hn:=(ev 0 n).1
  have hc:=(ev 0 c).1
  unfold ZpS at hr
  split at hr
  ·rename_i n' c' he1 he2
   rw [he1] at hn
   rw [he2] at hc
   split at hr
   ·rename_i e m bytes z hti
    obtain ⟨ze,hz,hr⟩:=A5.1 hr
    split at hr
    ·rename_i hq
     simp only[A0] at hr;subst hr
     obtain ⟨h0,rfl,h1⟩:=hq
     have e1:=Za1 hn
     have e2:=Za1 hc
     obtain ⟨n'',rfl⟩:=Int.eq_ofNat_of_zero_le h0
     simp only[Int.toNat_natCast]
     exact ZvA htt hI hU hkey hti hz (by omega) (by simp only[execOp,e1,e2])
    ·simp at hr
   ·simp at hr
  ·simp at hr
 | slice t x lo hi mx=>
  cases mx with
  | some _=>simp [opE] at hr
  | none=>
   refine Zso (vlo:=lo.map a.eval) (vhi:=hi.map a.eval) htt hI hU hkey hr (ev 0 x).1 ?_ ?_ rfl
   ·cases lo with
    | none=>trivial
    | some y=>exact (ev 0 y).1
   ·cases hi with
    | none=>trivial
    | some y=>exact (ev 0 y).1
 | fieldAddr t x f=>
  simp only[opE] at hr
  split at hr
  ·rename_i fs n z hti
   refine pur hr rfl fun u hu=>?_
   obtain ⟨fi,hf,hu⟩:=A5.1 hu
   exact Zy0 htt hti hf hu (ev 0 x).1 (ev 0 x).2
  ·simp at hr
 | field t x f=>
  simp only[opE] at hr
  split at hr
  ·rename_i fs n z hti
   exact pur hr rfl fun u hu=>Zx1 htt hti hu (ev 0 x).1 (ev 0 x).2
  ·simp at hr
 | indexAddr t x i=>
  simp only[opE] at hr
  split at hr
  ·rename_i e m bytes z hti
   exact pur hr rfl fun u hu=>ZAb htt hI hU hti hu (ev 0 x).1 (ev 0 x).2 (ev 0 i).1
  ·simp at hr
 | index t x i=>exact pur hr rfl fun u hu=>ZvI htt hu (ev 0 x).1 (ev 0 i).1
 | makeFunc fn first caps=>
  cases fn with
  | func f=>
   simp only[opE] at hr
   split at hr
   ·rename_i h0
    obtain ⟨q,hq,hr⟩:=A5.1 hr
    split at hr
    ·rename_i hn
     simp only[A0] at hr;subst hr
     have hf:first=#[]:=by simpa using h0
     have hall:ZH (SVR g w) (caps.toList.map (st.ev tt 0)) (caps.toList.map a.eval):=ZH.of_map _ _ fun x _=>(ev 0 x).1
     refine ZzB hI hU hq hn hall ?_
     have e1:(caps.toList.map a.eval).toArray=caps.map a.eval:=by apply Am;simp
     rw [e1]
     simp [execOp,Instr.makeFunc,hf]
    ·simp at hr
   ·simp at hr
  | _=>simp [opE] at hr
 | makeMap t res=>
  cases res with
  | none=>
   simp only[opE] at hr
   exact ZwM htt hI hU hkey hr rfl
  | some _=>simp [opE] at hr
 | lookup t x i ok=>exact pur hr rfl fun u hu=>ZuJ htt hI hu (ev 0 x).1 (ev 0 i).1
 | mapUpdate t x i v=>
  simp only[opE] at hr
  obtain ⟨u,hu,rfl⟩:=A3.1 hr
  exact ZxO htt hI hU hu (ev 0 x).1 (ev 0 i).1 (ev 0 v).1 rfl
 | extract x i=>exact pur hr rfl fun u hu=>Zwy hu (ev 0 x).1 (ev 0 x).2
 | call c=>
  obtain ⟨callee,args,ts⟩:=c
  cases callee with
  | builtin b=>
   simp only[opE] at hr
   have hts:∀l:List TypeId,ts.toList=l→ts=l.toArray:=fun l h=>by rw [←h]
   have one:∀v,evs tt st ts.toList args.toList=[v]→∃x,args=#[x]∧SVR g w v (a.eval x)∧svU U v:=fun v h=>by
    obtain ⟨args⟩:=args
    generalize ts.toList=l at h
    cases args with
    | nil=>cases l<;>simp [evs,ZhJ] at h
    | cons x xs=>
     cases xs with
     | nil=>
      refine ⟨x,rfl,?_⟩
      cases l with
      | nil=>simp only[evs,ZhJ,Ak,BB,AT,and_true] at h;rw [←h];exact ev _ _
      | cons t l=>cases l<;>(simp only[evs,ZhJ,Ak,BB,AT,and_true] at h;rw [←h];exact ev _ _)
     | cons y ys=>cases l with
      | nil=>simp [evs,ZhJ] at h
      | cons t l=>cases l<;>simp [evs,ZhJ] at h
   have two:∀v u,evs tt st ts.toList args.toList=[v,u]→∃x y,args=#[x,y]∧(SVR g w v (a.eval x)∧svU U v)∧SVR g w u (a.eval y)∧svU U u:=fun v u h=>by
    obtain ⟨args⟩:=args
    have h2:=congrArg List.length h
    have h3:(evs tt st ts.toList args).length=args.length:=by
     have:=congrArg List.length (Zed ts.toList args)
     simpa [evs] using this
    have h4:args.length=2:=by rw [←h3];exact h2
    obtain ⟨x,y,rfl⟩:∃x y,args=[x,y]:=by
     match args,h4 with
     | [x,y],_=>exact ⟨x,y,rfl⟩
    refine ⟨x,y,rfl,?_⟩
    have h5:∃t1 t2,evs tt st ts.toList [x,y]=[st.ev tt t1 x,st.ev tt t2 y]:=by
     generalize ts.toList=l
     cases l with
     | nil=>exact ⟨0,0,rfl⟩
     | cons t1 l=>cases l with
      | nil=>exact ⟨t1,0,rfl⟩
      | cons t2 l=>exact ⟨t1,t2,by cases l<;>rfl⟩
    obtain ⟨t1,t2,h5⟩:=h5
    rw [h5] at h
    simp only[AT,and_true] at h
    rw [←h.1,←h.2]
    exact ⟨ev _ _,ev _ _⟩
   unfold Zet at hr
   split at hr
   ·rename_i t _ v he1 he2
    have e1:=hts _ he1
    obtain ⟨x,rfl,hx,_⟩:=one _ he2
    exact pur (s:=Builtin.len_ ts ty #[a.eval x]) hr (by simp [execOp,resolve,invoke,builtin]) fun u hu=>Zxg htt hI (by simp [e1]) hu hx
   ·rename_i t u v1 v2 he1 he2
    have e1:=hts _ he1
    obtain ⟨x,y,rfl,hx,hy⟩:=two _ _ he2
    split at hr
    ·rename_i he
     subst he
     exact Zx5 htt hI hU hkey hr hx hy (ty:=ty) (by simp [execOp,resolve,invoke,builtin,e1])
    ·simp at hr
   ·rename_i v1 v2 he2
    obtain ⟨x,y,rfl,hx,hy⟩:=two _ _ he2
    refine pur (s:=Builtin.max_ ts ty #[a.eval x,a.eval y]) hr (by simp [execOp,resolve,invoke,builtin]) fun u hu=>?_
    have:=Zs6 (P:=P) (U:=U) (ts:=ts) (ty:=ty) hu hx.1 hy.1
    simpa using this
   ·rename_i v1 v2 he2
    obtain ⟨x,y,rfl,hx,hy⟩:=two _ _ he2
    refine pur (s:=Builtin.min_ ts ty #[a.eval x,a.eval y]) hr (by simp [execOp,resolve,invoke,builtin]) fun u hu=>?_
    have:=Zs6 (P:=P) (U:=U) (ts:=ts) (ty:=ty) hu hx.1 hy.1
    simpa using this
   ·simp at hr
  | value f=>simp [opE] at hr
  | invoke r m=>simp [opE] at hr
 | _=>simp [opE] at hr
end
end
section
open Go.RowKit
theorem ZcL {α β:Type} {f h:α→List β}:∀{l:List α},(∀x∈l,f x=h x)→l.flatMap f=l.flatMap h
 | [],_=>rfl
 | x::l,hh=>by rw [AZ,AZ,hh x yG,ZcL fun y m=>hh y (by simp [m])]
def Zjv (w:World) (z:Nat→Prop) (x:Bool × List CT) (v:Value):Prop:=
 (x.1=true∧∃(vs:List Value) (L:List Nat),v=.agg vs.toArray∧RCs w x.2 vs L∧∀b∈L,¬z b)∨(x.1=false∧∃(ct:CT) (L:List Nat),x.2=[ct]∧RC w ct v L∧∀b∈L,¬z b)
def OC (w:World) (B:Nat) (n:Nat→Prop):Bool × CT→Value→List Nat→Prop
 | (false,.sl e m xs),v,F=>0<m∧∃cs L,w.ownsV B e m v xs.length cs∧REs w m xs cs L∧F=v.ownBlock.toList++L∧∀b∈v.ownBlock.toList,n b
 | (false,.int k i),v,F=>RC w (.int k i) v []∧F=[]
 | (false,.bool b),v,F=>RC w (.bool b) v []∧F=[]
 | (false,.str s),v,F=>RC w (.str s) v []∧F=[]
 | (false,.ifc b),v,F=>RC w (.ifc b) v []∧F=[]
 | (false,.any),v,F=>RC w .any v []∧F=[]
 | (false,.pt _),_,_=>False
 | (false,.fn _ _),_,_=>False
 | (false,.mp _ _ _),_,_=>False
 | (false,.nl _ _),_,_=>False
 | (true,x),v,F=>F=[]∧∃L,RC w x v L∧∀b∈L,¬n b
def OCs (w:World) (B:Nat) (n:Nat→Prop):List (Bool × CT)→List Value→List Nat→Prop
 | [],vs,F=>vs=[]∧F=[]
 | x::r,vs,F=>∃v vs' F1 F2,vs=v::vs'∧F=F1++F2∧OC w B n x v F1∧OCs w B n r vs' F2
def OP (w:World) (B:Nat) (n:Nat→Prop) (x:RT) (v:Value) (F:List Nat):Prop:=
 (x.1=true∧∃vs:List Value,v=.agg vs.toArray∧OCs w B n x.2 vs F)∨(x.1=false∧∃ct,x.2=[ct]∧OC w B n ct v F)
def OPs (w:World) (B:Nat) (n:Nat→Prop):List RT→List Value→List Nat→Prop
 | [],vs,F=>vs=[]∧F=[]
 | x::r,vs,F=>∃v vs' F1 F2,vs=v::vs'∧F=F1++F2∧OP w B n x v F1∧OPs w B n r vs' F2
def Ziy (w:World) (B:Nat) (n:Nat→Prop) (res:List RT) (v:Value):Prop:=
 ∃(vs:List Value) (F:List Nat),OPs w B n res vs F∧Own w B F∧v=(if h:vs.toArray.size=1 then vs.toArray[0] else .tuple vs.toArray)
def ZcX (P : Program) (f : FuncId) : Prop := ∃ fn, P.funcs[f]? = some fn ∧ (fn.name == "runtime.NumGoroutine") = false ∧ fn.body.isNone = false
def Zl (P:Program) (J:World→Prop) (f:FuncId) (args:List (Bool × List CT)) (res:List RT):Prop:=
 ZcX P f∧∀(w:World) (z:Nat→Prop) (vs:List Value),J w→(∀b,z b→b<w.heap.size)→ZH (Zjv w z) args vs→Calls P f vs.toArray w fun e w'=>∃v n,e=.returned v∧Ziy w' w.heap.size n res v∧(∀b,z b→n b)∧Below w.heap.size w w'
def Zme (w:World) (z:Nat→Prop) (q:Option Nat):Zf7→Value→Prop
 | .row e m xs,v=>Zal xs=true∧0<m∧v.ownBlock=q∧∃cs,w.ownsV 0 e m v xs.length cs∧REs w m xs cs []
 | .box t cs,v=>∃b vs L,q=some b∧v=.pointer (some ⟨b,0,none⟩)∧w.heap[b]?=some (.cells (vs:List Value).toArray t (0,0))∧RCs w cs vs L∧∀a∈L,¬z a
def inQ (z:Nat→Prop) (q:Option Nat) (a:Nat):Prop:=z a∨q=some a
structure Zyq (q:Option Nat) (w w':World):Prop where
 os:w'.os=w.os
 tape:w'.tape=w.tape
 output:w'.output=w.output
 size:w.heap.size≤w'.heap.size
 block:∀k,k<w.heap.size→¬q=some k→w'.heap[k]?=w.heap[k]?
def ZaU (P:Program) (J:World→Prop) (JF:Nat→Prop) (f:FuncId) (h:Zf7) (args:List (Bool × List CT)) (res:List RT) (h':Zf7):Prop:=
 ZcX P f∧∀(w:World) (z:Nat→Prop) (q:Option Nat) (v0:Value) (vs:List Value),J w→(∀b,q=some b→JF b)→(∀b,z b→b<w.heap.size∧¬q=some b)→Zme w (inQ z q) q h v0→ZH (Zjv w (inQ z q)) args vs→
  Calls P f (v0::vs).toArray w fun e w'=>∃v n,e=.returned v∧Ziy w' w.heap.size n res v∧(∀b,inQ z q b→n b)∧Zme w' n q h' v0∧Zyq q w w'
def Zmc (b:Nat):NB→Value
 | .box _ _=>.pointer (some ⟨b,0,none⟩)
 | .map _ _ _=>.map (some b)
def nbR (w:World) (n:Nat→Prop) (b:Nat):NB→Prop
 | .box t cs=>∃us L,w.heap[b]?=some (.cells (us:List Value).toArray t (0,0))∧RCs w cs us L∧∀x∈L,¬n x
 | .map kk vk kv=>∃es c,w.heap[b]?=some (.map es c)∧Zc2 es=kv∧Zib kk vk kv
def Zj3 (P:Program) (J:World→Prop) (f:FuncId) (args:List (Bool × List CT)) (nb:NB):Prop:=
 ZcX P f∧∀(w:World) (z:Nat→Prop) (vs:List Value),J w→(∀b,z b→b<w.heap.size)→ZH (Zjv w z) args vs→
  Calls P f vs.toArray w fun e w'=>∃(b:Nat) (n:Nat→Prop),e=.returned (Zmc b nb)∧w.heap.size≤b∧nbR w' n b nb∧n b∧(∀x,z x→n x)∧Below w.heap.size w w'
def SC (P:Program) (J:World→Prop) (JF:Nat→Prop) (hd:FuncId→Nat):Ctx:=⟨Zl P J,ZaU P J JF,hd,Zj3 P J⟩
structure MOk (P:Program) (J:World→Prop) (JF:Nat→Prop) (W:QK) (tt:Nat→Option TI):Prop where
 tt:∀t i,tt t=some i→TOk P t i
 jb:∀w:World,Bel W w→J w
 jf:∀b,W.heap.size≤b→JF b
 xf:∀b,W.x b→JF b
section
variable {P:Program} {J:World→Prop} {W:QK} {U:Nat→Prop} {key:Nat} {st:St} {g:Gh} {w w':World} {a:Act} {tt:Nat→Option TI}
theorem MOk.at {JF:Nat→Prop} (h:MOk P J JF W tt) (hb:Bel W w):J w:=h.jb _ hb
def Zuh (ob:Nat→Ob):AV→Prop
 | .row k=>∃e m xs,ob k=.row e m xs 0
 | _=>True
theorem ZpN [NW] (hI:HI W g st.ob w) {x:AV} {ct:CT} {v:Value} (h:Zbc st x=some ct) (hx:AVR g w x v):∃L,RC w ct v L∧(Zuh st.ob x→∀b∈L,¬g.own b):=by
 cases x with
 | c y=>simp only[Zbc,A0] at h;subst h;obtain ⟨L,h1,h2⟩:=hx;exact ⟨L,h1,fun _=>h2⟩
 | row k=>
  simp only[Zbc] at h
  split at h
  ·rename_i e m xs d hk
   simp only[A0] at h;subst h
   obtain ⟨hm,cs,L1,o1,o2,o3,o5⟩:=hI.deep hk
   obtain ⟨A,cap,L0,s1,s2,s3,s4,s5⟩:=Sl.row o1
   refine ⟨L0++L1,⟨A,cap,cs,L0,L1,by rw [hx.1,s1],s2,s3,rfl,hm,s4,o2⟩,?_⟩
   rintro ⟨e',m',xs',h0⟩ b mb
   rw [hk] at h0
   have hd:d=0:=by simp at h0;exact h0.2.2.2
   rcases A4.1 mb with m1 | m1
   ·rcases o5 with ⟨q,_⟩ | ⟨q,_⟩ | ⟨_,_,_,q⟩
    ·omega
    ·omega
    ·exact q b (s5.subset m1)
   ·exact o3 b m1
  ·simp at h
 | nil e m=>
  simp only[Zbc] at h
  split at h
  ·rename_i hm
   simp only[A0] at h;subst h
   exact ⟨[],⟨none,0,[],[],[],hx,yG,AJ _,rfl,hm,Sl.zero,rfl,rfl⟩,yG⟩
  ·simp at h
 | n y=>simp only[Zbc,A0] at h;subst h;obtain ⟨L,h1,h2⟩:=NR.toC hx;exact ⟨L,h1,fun _=>h2⟩
 | dead=>simp [Zbc] at h
theorem Zei [NW] (hI:HI W g st.ob w):∀{xs:List AV} {cts:List CT} {vs:List Value},Yq st xs=some cts→ZH (AVR g w) xs vs→∃L,RCs w cts vs L∧((∀x∈xs,Zuh st.ob x)→∀b∈L,¬g.own b)
 | [],_,[],h,_=>by simp [Yq] at h;subst h;exact ⟨[],⟨rfl,rfl⟩,yG⟩
 | [],_,_::_,_,h=>h.elim
 | _::_,_,[],_,h=>h.elim
 | x::r,cts,v::vs,h,hr=>by
  simp only[Yq] at h
  obtain ⟨c1,h1,h⟩:=A5.1 h
  obtain ⟨c2,h2,rfl⟩:=A3.1 h
  obtain ⟨L1,a1,b1⟩:=ZpN hI h1 hr.1
  obtain ⟨L2,a2,b2⟩:=Zei hI h2 hr.2
  refine ⟨L1++L2,⟨v,vs,L1,L2,rfl,rfl,a1,a2⟩,fun ho b mb=>?_⟩
  rcases A4.1 mb with m | m
  ·exact b1 (ho x yG) b m
  ·exact b2 (fun y my=>ho y (by simp [my])) b m
def Zsy (ob:Nat→Ob):SV→Prop
 | .p _ cs=>∀x∈cs,Zuh ob x
 | _=>True
theorem Ztp [NW] (hI:HI W g st.ob w) {x:SV} {r:Bool × List CT} {v:Value} (h:Zcd st x=some r) (hx:SVR g w x v) {z:Nat→Prop} (hz:(∀b,¬z b)∨(Zsy st.ob x∧∀b,z b→g.own b)):Zjv w z r v:=by
 cases x with
 | p ag cs=>
  simp only[Zcd] at h
  obtain ⟨l,hl,rfl⟩:=A3.1 h
  have av:∀{L:List Nat},((∀x∈cs,Zuh st.ob x)→∀b∈L,¬g.own b)→∀b∈L,¬z b:=fun hL b mb=>by
   rcases hz with hz | ⟨h1,h2⟩
   ·exact hz b
   ·exact fun hb=>hL h1 b mb (h2 b hb)
  cases ag with
  | true=>
   obtain ⟨vs,rfl,h2⟩:=hx
   obtain ⟨L,hL,a⟩:=Zei hI hl h2
   exact .inl ⟨rfl,vs,L,rfl,hL,av a⟩
  | false=>
   obtain ⟨y,rfl,h2⟩:=hx
   simp only[Yq] at hl
   obtain ⟨c1,h1,hl⟩:=A5.1 hl
   simp at hl;subst hl
   obtain ⟨L1,a1,b1⟩:=ZpN hI h1 h2
   exact .inr ⟨rfl,c1,L1,rfl,a1,av fun ho=>b1 (ho y yG)⟩
 | _=>simp [Zcd] at h
theorem Zcq [NW] (hI:HI W g st.ob w) {z:Nat→Prop}:∀{xs:List SV} {l:List (Bool × List CT)} {vs:List Value},ZT st xs=some l→ZH (SVR g w) xs vs→((∀b,¬z b)∨((∀x∈xs,Zsy st.ob x)∧∀b,z b→g.own b))→ZH (Zjv w z) l vs
 | [],_,[],h,_,_=>by simp [ZT] at h;subst h;trivial
 | [],_,_::_,_,h,_=>h.elim
 | _::_,_,[],_,h,_=>h.elim
 | x::r,l,v::vs,h,hr,hz=>by
  simp only[ZT] at h
  obtain ⟨c1,h1,h⟩:=A5.1 h
  obtain ⟨c2,h2,rfl⟩:=A3.1 h
  exact ⟨Ztp hI h1 hr.1 (hz.imp id fun q=>⟨q.1 x yG,q.2⟩),Zcq hI h2 hr.2 (hz.imp id fun q=>⟨fun y my=>q.1 y (by simp [my]),q.2⟩)⟩
theorem Zuw {vs:List SV} {ob:Nat→Ob} (h:vs.all Zgk=true):∀x∈vs,Zsy ob x:=fun x mx=>by
 have hx:=AF.1 h x mx
 cases x with
 | p ag cs=>
  intro y my
  have hy:=AF.1 hx y my
  cases y with
  | row k=>simp [Zaa] at hy
  | _=>trivial
 | _=>trivial
def CR (val:Nat→Value) (w:World) (n:Nat→Prop) (l:Bool) (lo hi:Nat):AV→Value→Prop
 | .row k,v=>lo≤k∧k<hi∧v=val k∧v.oneCell'=true
 | .c x,v=>∃L,RC w x v L∧∀b∈L,l=true∧¬n b
 | _,_=>False
structure Zoe (w:World) (B lo hi:Nat) (n:Nat→Prop) (up:List (Nat × Ob)) (F:List Nat) (val:Nat→Value) (O D:Nat→List Nat):Prop where
 le:lo≤hi
 at_:∀k,lo≤k→k<hi→∃e m xs cs,(∀ob,Zk ob up k=.row e m xs 2)∧0<m∧w.ownsV B e m (val k) xs.length cs∧REs w m xs cs (D k)∧O k=(val k).ownBlock.toList∧∀b∈O k,n b
 out:∀k,¬(lo≤k∧k<hi)→∀ob,Zk ob up k=ob k
 foot:F=(AI lo (hi - lo)).flatMap fun k=>O k++D k
theorem Zoe.join [NW] {B lo c hi:Nat} {n:Nat→Prop} {u1 u2:List (Nat × Ob)} {F1 F2:List Nat} {v1 v2:Nat→Value} {O1 O2 D1 D2:Nat→List Nat} (h1:Zoe w B lo c n u1 F1 v1 O1 D1) (h2:Zoe w B c hi n u2 F2 v2 O2 D2):
  Zoe w B lo hi n (u1++u2) (F1++F2) (fun k=>if k<c then v1 k else v2 k) (fun k=>if k<c then O1 k else O2 k) (fun k=>if k<c then D1 k else D2 k):=by
 have hl:=h1.le
 have hr:=h2.le
 refine ⟨yE,fun k a b=>?_,fun k hk ob=>?_,?_⟩
 ·by_cases hk:k<c
  ·obtain ⟨e,m,xs,cs,p1,p2⟩:=h1.at_ k a hk
   simp only[hk,if_true]
   exact ⟨e,m,xs,cs,fun ob=>by rw [Yy,h2.out k yE];exact p1 ob,p2⟩
  ·obtain ⟨e,m,xs,cs,p1,p2⟩:=h2.at_ k yE b
   simp only[hk,if_false]
   exact ⟨e,m,xs,cs,fun ob=>by rw [Yy];exact p1 _,p2⟩
 ·rw [Yy,h2.out k yE,h1.out k yE]
 ·rw [h1.foot,h2.foot,show hi - lo=(c - lo)+(hi - c) by omega,←List.range'_append_1,Az,show lo+(c - lo)=c by omega]
  congr 1
  ·refine ZcL fun k hk=>?_
   have:=(Ab.1 hk).2
   simp [show k<c by omega]
  ·refine ZcL fun k hk=>?_
   have:=(Ab.1 hk).1
   simp [show ¬k<c by omega]
theorem CR.mono {f e:Nat→Value} {n:Nat→Prop} {l:Bool} {lo hi g i:Nat} {x:AV} {v:Value} (h:CR f w n l lo hi x v) (hl:g≤lo) (hh:hi≤i) (hv:∀k,lo≤k→k<hi→e k=f k):CR e w n l g i x v:=by
 cases x with
 | row k=>obtain ⟨a,b,c,d⟩:=h;exact ⟨yE,yE,by rw [hv k a b];exact c,d⟩
 | c x=>exact h
 | n _=>exact h.elim
 | nil _ _=>exact h.elim
 | dead=>exact h.elim
theorem QR [NW] {B:Nat} {n:Nat→Prop} {l:Bool}:∀{cts:List (Bool × CT)} {vs:List Value} {F:List Nat} (key:Nat),OCs w B n cts vs F→(Zbk cts=true→l=true)→∃c O D,Zoe w B key (Z3 key cts).2.2 n (Z3 key cts).2.1 F c O D∧ZH (CR c w n l key (Z3 key cts).2.2) (Z3 key cts).1 vs
 | [],vs,F,key,h,_=>by
  obtain ⟨rfl,rfl⟩:=h
  exact ⟨fun _=>undef,fun _=>[],fun _=>[],⟨A9 _,fun k a b=>by simp [Z3] at b;omega,fun _ _ _=>rfl,by simp [Z3]⟩,trivial⟩
 | (true,x)::r,_,_,key,⟨v,vs,F1,F2,rfl,rfl,h1,h2⟩,hl=>by
  obtain ⟨rfl,L,h3,h4⟩:=h1
  obtain ⟨c,O,D,hb,hr⟩:=QR (l:=l) key h2 fun e=>hl (by simp [Zbk])
  exact ⟨c,O,D,by simpa [Z3] using hb,⟨⟨L,h3,fun b mb=>⟨hl (by simp [Zbk]),h4 b mb⟩⟩,hr⟩⟩
 | (false,.sl e m xs)::r,_,_,key,⟨v,vs,F1,F2,rfl,rfl,h1,h2⟩,hl=>by
  obtain ⟨hm,cs,L,o1,o2,rfl,o3⟩:=h1
  obtain ⟨c,O,D,hb,hr⟩:=QR (l:=l) (key+1) h2 fun e=>hl (by simpa [Zbk] using e)
  have d:Zoe w B key (key+1) n [(key,.row e m xs 2)] (v.ownBlock.toList++L) (fun _=>v) (fun _=>v.ownBlock.toList) (fun _=>L):=
   ⟨yE,fun k a b=>⟨e,m,xs,cs,fun ob=>by simp [Zk,upd,show k=key by omega],hm,o1,o2,rfl,o3⟩,fun k hk ob=>by simp [Zk,upd,show ¬k=key by omega],yG⟩
  refine ⟨_,_,_,d.join hb,⟨?_,hr.mono fun x u _ hx=>hx.mono yE (A9 _) fun k a b=>by simp [show ¬k<key+1 by omega]⟩⟩
  have hle:=hb.le
  obtain ⟨A,cap,hv⟩:=Q8 o1
  exact ⟨A9 _,by simp only[Z3];omega,yG,by simp [hv,Value.oneCell']⟩
 | (false,.int k i)::r,_,_,key,⟨v,vs,F1,F2,rfl,rfl,h1,h2⟩,hl=>by
  obtain ⟨h1,rfl⟩:=h1
  obtain ⟨c,O,D,hb,hr⟩:=QR (l:=l) key h2 fun e=>hl (by simpa [Zbk] using e)
  exact ⟨c,O,D,by simpa [Z3] using hb,⟨⟨[],h1,yG⟩,hr⟩⟩
 | (false,.bool k)::r,_,_,key,⟨v,vs,F1,F2,rfl,rfl,h1,h2⟩,hl=>by
  obtain ⟨h1,rfl⟩:=h1
  obtain ⟨c,O,D,hb,hr⟩:=QR (l:=l) key h2 fun e=>hl (by simpa [Zbk] using e)
  exact ⟨c,O,D,by simpa [Z3] using hb,⟨⟨[],h1,yG⟩,hr⟩⟩
 | (false,.str s)::r,_,_,key,⟨v,vs,F1,F2,rfl,rfl,h1,h2⟩,hl=>by
  obtain ⟨h1,rfl⟩:=h1
  obtain ⟨c,O,D,hb,hr⟩:=QR (l:=l) key h2 fun e=>hl (by simpa [Zbk] using e)
  exact ⟨c,O,D,by simpa [Z3] using hb,⟨⟨[],h1,yG⟩,hr⟩⟩
 | (false,.ifc s)::r,_,_,key,⟨v,vs,F1,F2,rfl,rfl,h1,h2⟩,hl=>by
  obtain ⟨h1,rfl⟩:=h1
  obtain ⟨c,O,D,hb,hr⟩:=QR (l:=l) key h2 fun e=>hl (by simpa [Zbk] using e)
  exact ⟨c,O,D,by simpa [Z3] using hb,⟨⟨[],h1,yG⟩,hr⟩⟩
 | (false,.any)::r,_,_,key,⟨v,vs,F1,F2,rfl,rfl,h1,h2⟩,hl=>by
  obtain ⟨h1,rfl⟩:=h1
  obtain ⟨c,O,D,hb,hr⟩:=QR (l:=l) key h2 fun e=>hl (by simpa [Zbk] using e)
  exact ⟨c,O,D,by simpa [Z3] using hb,⟨⟨[],h1,yG⟩,hr⟩⟩
 | (false,.pt _)::r,_,_,key,⟨v,vs,F1,F2,rfl,rfl,h1,h2⟩,hl=>h1.elim
 | (false,.fn _ _)::r,_,_,key,⟨v,vs,F1,F2,rfl,rfl,h1,h2⟩,hl=>h1.elim
 | (false,.mp _ _ _)::r,_,_,key,⟨v,vs,F1,F2,rfl,rfl,h1,h2⟩,hl=>h1.elim
 | (false,.nl _ _)::r,_,_,key,⟨v,vs,F1,F2,rfl,rfl,h1,h2⟩,hl=>h1.elim
def PR (val:Nat→Value) (w:World) (n:Nat→Prop) (l:Bool) (lo hi:Nat) (x:Bool × List AV) (v:Value):Prop:=
 (x.1=true∧∃vs:List Value,v=.agg vs.toArray∧ZH (CR val w n l lo hi) x.2 vs)∨(x.1=false∧∃y,x.2=[y]∧CR val w n l lo hi y v)
theorem PR.mono [NW] {d c:Nat→Value} {n:Nat→Prop} {l:Bool} {lo hi e f:Nat} {x:Bool × List AV} {v:Value} (h:PR d w n l lo hi x v) (hl:e≤lo) (hh:hi≤f) (hv:∀k,lo≤k→k<hi→c k=d k):PR c w n l e f x v:=by
 rcases h with ⟨h1,vs,h2,h3⟩ | ⟨h1,y,h2,h3⟩
 ·exact .inl ⟨h1,vs,h2,h3.mono fun a b _ g=>g.mono hl hh hv⟩
 ·exact .inr ⟨h1,y,h2,h3.mono hl hh hv⟩
theorem Zl4 [NW] {B:Nat} {n:Nat→Prop} {l:Bool}:∀{res:List RT} {vs:List Value} {F:List Nat} (key:Nat),OPs w B n res vs F→(Zcg res=true→l=true)→∃val O D,Zoe w B key (ZE key res).2.2 n (ZE key res).2.1 F val O D∧ZH (PR val w n l key (ZE key res).2.2) (ZE key res).1 vs
 | [],vs,F,key,h,_=>by
  obtain ⟨rfl,rfl⟩:=h
  exact ⟨fun _=>undef,fun _=>[],fun _=>[],⟨A9 _,fun k a b=>by simp [ZE] at b;omega,fun _ _ _=>rfl,by simp [ZE]⟩,trivial⟩
 | x::r,_,_,key,⟨v,vs,F1,F2,rfl,rfl,h1,h2⟩,hl=>by
  have hl1:Zbk x.2=true→l=true:=fun e=>hl (by simp [Zcg,e])
  have hl2:Zcg r=true→l=true:=fun e=>hl (by simp [Zcg,e])
  have hx:∃val O D,Zoe w B key (Z3 key x.2).2.2 n (Z3 key x.2).2.1 F1 val O D∧PR val w n l key (Z3 key x.2).2.2 (x.1,(Z3 key x.2).1) v:=by
   rcases h1 with ⟨hx,us,rfl,hc⟩ | ⟨hx,ct,he,hc⟩
   ·obtain ⟨val,O,D,hb,hr⟩:=QR key hc hl1
    exact ⟨val,O,D,hb,.inl ⟨hx,us,rfl,hr⟩⟩
   ·obtain ⟨val,O,D,hb,hr⟩:=QR (cts:=x.2) (vs:=[v]) (F:=F1) key (by rw [he];exact ⟨v,[],F1,[],rfl,by simp,hc,rfl,rfl⟩) hl1
    refine ⟨val,O,D,hb,.inr ⟨hx,?_⟩⟩
    generalize (Z3 key x.2).1=l at hr
    cases l with
    | nil=>exact hr.elim
    | cons y l=>
     cases l with
     | nil=>exact ⟨y,rfl,hr.1⟩
     | cons _ _=>exact hr.2.elim
  obtain ⟨val,O,D,hb,hp⟩:=hx
  obtain ⟨val2,O2,D2,hb2,hr2⟩:=Zl4 (Z3 key x.2).2.2 h2 hl2
  have hle2:=hb2.le
  have hle:=hb.le
  refine ⟨_,_,_,hb.join hb2,⟨hp.mono (A9 _) hle2 fun k a b=>by simp [b],hr2.mono fun y u _ hy=>hy.mono hle (A9 _) fun k a b=>by simp [show ¬k<(Z3 key x.2).2.2 by omega]⟩⟩
theorem ZpZ {n:Nat} {G:Nat→List Nat}:∀{lo:Nat},((AI lo n).flatMap G).Nodup→(∀k,lo≤k→k<lo+n→(G k).Nodup)∧∀k j,lo≤k→k<lo+n→lo≤j→j<lo+n→k≠j→∀b∈G k,b∉G j:=by
 induction n with
 | zero=>intro lo _;exact ⟨fun k a b=>by omega,fun k j a b=>by omega⟩
 | succ n ih=>
  intro lo h
  rw [Ap,AZ,AK] at h
  obtain ⟨h1,h2,h3⟩:=h
  obtain ⟨i1,i2⟩:=ih h2
  have c:∀k,lo+1≤k→k<lo+1+n→∀b∈G k,b∈(AI (lo+1) n).flatMap G:=fun k a b x mx=>AA.2 ⟨k,Ab.2 ⟨a,b⟩,mx⟩
  refine ⟨fun k a b=>?_,fun k j a b a' b' d x mx mj=>?_⟩
  ·by_cases e:k=lo
   ·subst e;exact h1
   ·exact i1 k yE yE
  ·by_cases e:k=lo
   ·subst e
    exact h3 x mx x (c j yE yE x mj) rfl
   ·by_cases e':j=lo
    ·subst e'
     exact h3 x mj x (c k yE yE x mx) rfl
    ·exact i2 k j yE yE yE yE d x mx mj
theorem Zgi [NW] {ob:Nat→Ob} (hI:HI W g ob w) (hobU:∀k,obU U (ob k)) (hgone:∀k,¬U k→ob k=.gone) (hkey:∀k,key≤k→k<key+16→¬U k) {res:List RT} {v:Value} {n:Nat→Prop} (hr:Ziy w' w.heap.size n res v) (hn:(ZE key res).2.2≤key+16)
  (H:Nat→Prop) (hHU:∀k,H k→U k) (obH:Nat→Ob) (hlen:Zcg res=true→∀b,g.own b→n b)
  (hbel:Bel W w') (hsz:w.heap.size≤w'.heap.size) (hw:∀b,b<w.heap.size→(∀k,H k→b∉g.O k)→w'.heap[b]?=w.heap[b]?)
  (hobH:∀k,H k→obU (Uk U key) (obH k)) (hH:∀g':Gh,(∀b,g'.own b→g.own b∨((∃k,b∈g'.O k)∧w.heap.size≤b∧n b))→(∀k,H k→g'.val k=g.val k∧g'.O k=g.O k∧g'.D k=g.D k)→∀k,H k→ObR g' w' k (obH k)∧∀b∈g.O k++g.D k,Xk w' (obH k) b):
  ∃g',HI W g' (fun k=>Zk (fun j=>open Classical in if H j then obH j else ob j) (ZE key res).2.1 k) w'∧SVR g' w' (Zcf (ZE key res).1) v∧(∀x u,svU U x→SVR g w x u→SVR g' w' x u)∧svU (Uk U key) (Zcf (ZE key res).1)∧
   (∀k,obU (Uk U key) (Zk (fun j=>open Classical in if H j then obH j else ob j) (ZE key res).2.1 k))∧∀k,¬Uk U key k→Zk (fun j=>open Classical in if H j then obH j else ob j) (ZE key res).2.1 k=.gone:=by
 classical
 obtain ⟨vs,F,h1,hF,hv⟩:=hr
 obtain ⟨val,O,D,hB,hA⟩:=Zl4 (l:=Zcg res) key h1 id
 generalize (ZE key res).2.2=hi at *
 generalize (ZE key res).2.1=up at *
 generalize (ZE key res).1=xs at *
 have hle:=hB.le
 let T:Nat→Prop:=fun k=>key≤k∧k<hi
 have hTU:∀k,T k→¬U k:=fun k hk=>hkey k hk.1 (by have:=hk.2;omega)
 let g':Gh:=⟨fun k=>if key≤k∧k<hi then val k else g.val k,fun k=>if key≤k∧k<hi then O k else g.O k,fun k=>if key≤k∧k<hi then D k else g.D k,g.Z⟩
 have gT:∀k,T k→g'.val k=val k∧g'.O k=O k∧g'.D k=D k:=fun k hk=>⟨if_pos hk,if_pos hk,if_pos hk⟩
 have gN:∀k,¬T k→g'.val k=g.val k∧g'.O k=g.O k∧g'.D k=g.D k:=fun k hk=>⟨if_neg hk,if_neg hk,if_neg hk⟩
 have hTH:∀k,H k→¬T k:=fun k hk ht=>hTU k ht (hHU k hk)
 have hmemF:∀k,T k→∀b∈O k++D k,b∈F:=fun k hk b mb=>by
  rw [hB.foot]
  exact AA.2 ⟨k,Ab.2 ⟨hk.1,by have:=hk.2;omega⟩,mb⟩
 have hge:∀k,T k→∀b∈O k++D k,w.heap.size≤b:=fun k hk b mb=>hF.ge b (hmemF k hk b mb)
 have hnd:=ZpZ (hB.foot ▸ hF.nodup)
 have hval:∀k,U k→g'.val k=g.val k:=fun k hk=>(gN k fun h=>hTU k h hk).1
 have hown2:∀b,g'.own b→g.own b∨((∃k,b∈g'.O k)∧w.heap.size≤b∧n b):=fun b hb=>by
  rcases hb with ⟨k,mk⟩ | hz
  ·by_cases hk:T k
   ·have mk':=mk
    rw [(gT k hk).2.1] at mk'
    obtain ⟨e,m,ys,cs,_,_,_,_,_,p6⟩:=hB.at_ k hk.1 hk.2
    exact .inr ⟨⟨k,mk⟩,hge k hk b (by simp [mk']),p6 b mk'⟩
   ·rw [(gN k hk).2.1] at mk;exact .inl (.inl ⟨k,mk⟩)
  ·exact .inl (.inr hz)
 have hown:X7 g g' w.heap.size:=.of (fun b hb=>(hown2 b hb).imp id fun h=>h.2.1) fun j b mb=>by
  by_cases hj:T j
  ·rw [(gT j hj).2.2] at mb
   exact .inr (hge j hj b (by simp [mb]))
  ·rw [(gN j hj).2.2] at mb;exact .inl (.inr ⟨j,mb⟩)
 have hw':∀b,b<w.heap.size→¬g.own b→w'.heap[b]?=w.heap[b]?:=fun b hb hnb=>hw b hb fun k _ mk=>hnb (.inl ⟨k,mk⟩)
 have hmove:∀x u,svU U x→SVR g w x u→SVR g' w' x u:=fun x u hx hu=>hu.move hx hval hw' hown hsz
 have hout:∀k,¬T k→Zk (fun j=>if H j then obH j else ob j) up k=if H k then obH k else ob k:=fun k hk=>hB.out k hk _
 have hHI:HI W g' (Zk (fun j=>if H j then obH j else ob j) up) w':=by
  refine hI.step (U:=U) (fun k=>T k∨H k) hbel rfl (fun b hb' hq=>hw b hb' fun k hk=>hq k (.inr hk)) (fun k hk=>?_) hobU hval hown (fun k hk=>?_)
  ·have k1:¬T k:=fun h=>hk (.inl h)
   have k2:¬H k:=fun h=>hk (.inr h)
   exact ⟨by rw [hout k k1,if_neg k2],gN k k1⟩
  ·by_cases hTk:T k
   ·obtain ⟨e1,e2,e3⟩:=gT k hTk
    obtain ⟨e,m,ys,cs,p1,p2,p3,p4,p5,_⟩:=hB.at_ k hTk.1 hTk.2
    rw [p1,e2,e3]
    refine ⟨⟨p2,cs,D k,?_,p4,.inl ⟨rfl,by rw [e1,e2];exact p5,e3⟩⟩,hnd.1 k hTk.1 (by have:=hTk.2;omega),fun b mb=>?_,fun j hj b mb mj=>?_⟩
    ·rw [e1];exact ZqH p3 (AJ _)
    ·exact ⟨.inl (AQ hI.below.size (hge k hTk b mb)),hF.plain b (hmemF k hTk b mb)⟩
    ·by_cases hTj:T j
     ·rw [(gT j hTj).2.1,(gT j hTj).2.2] at mj
      exact hnd.2 k j hTk.1 (by have:=hTk.2;omega) hTj.1 (by have:=hTj.2;omega) hj b mb mj
     ·rw [(gN j hTj).2.1,(gN j hTj).2.2] at mj
      have:=hI.lt j b mj
      have:=hge k hTk b mb
      omega
   ·have hHk:H k:=hk.resolve_left hTk
    obtain ⟨e1,e2,e3⟩:=gN k hTk
    obtain ⟨q1,q2⟩:=hH g' hown2 (fun j hj=>gN j (hTH j hj)) k hHk
    rw [hout k hTk,if_pos hHk,e2,e3]
    refine ⟨q1,hI.nodup k,fun b mb=>⟨(hI.plain k b mb).1,q2 b mb⟩,fun j hj b mb mj=>?_⟩
    by_cases hTj:T j
    ·rw [(gT j hTj).2.1,(gT j hTj).2.2] at mj
     have:=hI.lt k b mb
     have:=hge j hTj b mj
     omega
    ·rw [(gN j hTj).2.1,(gN j hTj).2.2] at mj
     exact hI.apart k j hj b mb mj
 have hAV:∀x u,CR val w' n (Zcg res) key hi x u→AVR g' w' x u∧avU (Uk U key) x:=fun x u h=>by
  cases x with
  | row k=>
   obtain ⟨c1,c2,c3,c4⟩:=h
   exact ⟨⟨by rw [(gT k ⟨c1,c2⟩).1];exact c3,c4⟩,.inr ⟨c1,by omega⟩⟩
  | c x=>
   obtain ⟨L,h1,h2⟩:=h
   refine ⟨⟨L,h1,fun b mb o=>?_⟩,trivial⟩
   rcases hown2 b o with o | o
   ·exact (h2 b mb).2 (hlen (h2 b mb).1 b o)
   ·exact (h2 b mb).2 o.2.2
  | n _=>exact h.elim
  | nil _ _=>exact h.elim
  | dead=>exact h.elim
 have hAVs:∀(ys:List AV) (us:List Value),ZH (CR val w' n (Zcg res) key hi) ys us→ZH (AVR g' w') ys us∧X6 (Uk U key) ys:=fun ys us h=>by
  induction ys generalizing us with
  | nil=>cases us with
   | nil=>exact ⟨trivial,fun _ m=>by simp at m⟩
   | cons _ _=>exact h.elim
  | cons y ys ih=>cases us with
   | nil=>exact h.elim
   | cons u us=>
    obtain ⟨i1,i2⟩:=ih us h.2
    refine ⟨⟨(hAV y u h.1).1,i1⟩,fun z mz=>?_⟩
    rcases A8.1 mz with rfl | mz
    ·exact (hAV z u h.1).2
    ·exact i2 z mz
 have hPV:∀(y:Bool × List AV) (u:Value),PR val w' n (Zcg res) key hi y u→PVR g' w' y.1 y.2 u∧X6 (Uk U key) y.2:=fun y u h=>by
  rcases h with ⟨h1,us,rfl,h3⟩ | ⟨h1,z,h2,h3⟩
  ·obtain ⟨i1,i2⟩:=hAVs _ _ h3
   exact ⟨by rw [h1];exact ⟨us,rfl,i1⟩,i2⟩
  ·obtain ⟨i1,i2⟩:=hAV z u h3
   exact ⟨by rw [h1];exact ⟨z,h2,i1⟩,by rw [h2];intro q mq;simp at mq;subst mq;exact i2⟩
 have hres:SVR g' w' (Zcf xs) v∧svU (Uk U key) (Zcf xs):=by
  have hlen:=hA.len
  by_cases hl:xs.length=1
  ·obtain ⟨x,rfl⟩:=List.length_eq_one_iff.1 hl
   cases vs with
   | nil=>simp at hlen
   | cons u us=>
    cases us with
    | cons _ _=>simp at hlen
    | nil=>
     have hvu:v=u:=by rw [hv];rfl
     rw [hvu]
     exact hPV x u hA.1
  ·have hvs:¬vs.toArray.size=1:=by simp;omega
   rw [dif_neg hvs] at hv
   have e:Zcf xs=.tup xs:=by
    cases xs with
    | nil=>rfl
    | cons x xs=>cases xs with
     | nil=>simp at hl
     | cons _ _=>rfl
   rw [e]
   refine ⟨⟨vs,hv,hA.mono fun y u _ h=>(hPV y u h).1⟩,fun y my=>?_⟩
   obtain ⟨i,hi'⟩:=List.mem_iff_getElem?.1 my
   obtain ⟨u,_,hu⟩:=hA.at hi'
   exact (hPV y u hu).2
 refine ⟨g',hHI,hres.1,hmove,hres.2,fun k=>?_,fun k hk=>?_⟩
 ·by_cases hTk:T k
  ·obtain ⟨e,m,ys,cs,p1,_⟩:=hB.at_ k hTk.1 hTk.2
   rw [p1];trivial
  ·rw [hout k hTk]
   split
   ·rename_i hHk;exact hobH k hHk
   ·exact (hobU k).mono fun _=>.inl
 ·have hTk:¬T k:=fun hTk=>hk (.inr ⟨hTk.1,by have:=hTk.2;omega⟩)
  have hHk:¬H k:=fun h=>hk (.inl (hHU k h))
  rw [hout k hTk,if_neg hHk]
  exact hgone k fun h=>hk (.inl h)
theorem ZjB [NW] (st:St):∀(ks:List Nat) {g:Gh} {ob:Nat→Ob},HI W g ob w→(∀k,ob k=st.ob k∨ob k=Z4 (st.ob k))→∃g1:Gh,HI W g1 (Zk ob (ZO st ks)) w∧g1.val=g.val∧Y7 g1 g∧∀k,Zk ob (ZO st ks) k=(if k∈ks then Z4 (st.ob k) else ob k)
 | [],g,ob,hI,_=>⟨g,hI,rfl,Y7.refl _,fun k=>by simp [ZO,Zk]⟩
 | k::r,g,ob,hI,hob=>by
  have b:Z4 (ob k)=Z4 (st.ob k):=by
   rcases hob k with h | h
   ·rw [h]
   ·rw [h];cases st.ob k<;>rfl
  obtain ⟨g1,h1,h2,h3,_⟩:=ZhF hI k
  rw [b] at h1
  have a:∀j,upd ob k (Z4 (st.ob k)) j=st.ob j∨upd ob k (Z4 (st.ob k)) j=Z4 (st.ob j):=fun j=>by
   by_cases hj:j=k
   ·subst hj;right;rw [Zy]
   ·rw [ZI _ _ hj];exact hob j
  obtain ⟨g2,i1,i2,i3,i4⟩:=ZjB st r h1 a
  refine ⟨g2,i1,i2.trans h2,i3.trans h3,fun j=>?_⟩
  show Zk (upd ob k (Z4 (st.ob k))) (ZO st r) j=_
  rw [i4 j]
  by_cases hj:j=k
  ·subst hj;simp [upd]
  ·simp [hj,upd]
theorem Zmh {st st':St} (h:∀k,st'.ob k=st.ob k∨st'.ob k=Z4 (st.ob k)) (x:SV):Zcd st' x=Zcd st x:=by
 have h1:∀y:AV,Zbc st' y=Zbc st y:=fun y=>by
  cases y with
  | row k=>
   simp only[Zbc]
   rcases h k with e | e
   ·rw [e]
   ·rw [e];cases st.ob k<;>rfl
  | _=>rfl
 have h2:∀ys:List AV,Yq st' ys=Yq st ys:=fun ys=>by
  induction ys with
  | nil=>rfl
  | cons y ys ih=>simp only[Yq,h1,ih]
 cases x<;>simp [Zcd,h2]
theorem ZeL [NW] {st st':St} (h:∀k,st'.ob k=st.ob k∨st'.ob k=Z4 (st.ob k)):∀xs:List SV,ZT st' xs=ZT st xs
 | []=>rfl
 | x::r=>by simp only[ZT];rw [Zmh h x,ZeL h r]
theorem Zk1 {k:Nat}:∀{cs:List AV},AV.row k∈cs→k∈Zhn cs
 | [],h=>by simp at h
 | x::r,h=>by
  rcases A8.1 h with rfl | h
  ·simp [Zhn]
  ·have:=Zk1 h
   cases x<;>simp [Zhn,this]
theorem Zku [NW] {k:Nat} {a:Bool} {cs:List AV}:∀{vs:List SV},SV.p a cs∈vs→AV.row k∈cs→k∈Z1 vs
 | [],h,_=>by simp at h
 | x::r,h,hk=>by
  rcases A8.1 h with rfl | h
  ·simp [Z1,Zk1 hk]
  ·have:=Zku h hk
   cases x<;>simp [Z1,this]
end
end
section
open Go.RowKit
def Zaz (S:Ctx) (f:FuncId) (n key:Nat) (st:St) (vs:List SV) (v:SV) (u:List (Nat × Ob)):Prop:=
 match n with
 | 0=>∃l res,ZT st vs=some l∧S.r f l res∧(!Zcg res||vs.all Zgk)=true∧(ZE key res).2.2≤key+16∧v=Zcf (ZE key res).1∧u=(ZE key res).2.1
 | 1=>∃v0 r k h l res h',vs=v0::r∧ZeF st v0=some (k,h)∧ZT st r=some l∧S.h f h l res h'∧(Z1 r).all (fun j=>j != k)=true∧(ZE key res).2.2≤key+16∧v=Zcf (ZE key res).1∧u=ZO st (Z1 r)++((k,Y9 h')::(ZE key res).2.1)
 | 3=>∃l nb,ZT st vs=some l∧S.b f l nb∧v=ZAz key nb∧u=ZO st (Z1 vs)++[(key,Zub nb)]
 | 4=>∃l res,ZT st (vs.map nlS)=some l∧S.r f l res∧(!Zcg res||(vs.map nlS).all Zgk)=true∧(ZE key res).2.2≤key+16∧v=Zcf (ZE key res).1∧u=(ZE key res).2.1
 | _=>∃l res,ZT st vs=some l∧S.r f l res∧(ZE key res).2.2≤key+16∧v=Zcf (ZE key res).1∧u=ZO st (Z1 vs)++(ZE key res).2.1
theorem ZjD {S:Ctx} {f:FuncId} {n key:Nat} {d:Option Nat} {K:St→Prop} {st:St} {vs:List SV}:spK S f n key d K st vs↔∃v u,Zaz S f n key st vs v u∧K ((st.put d v).app u):=by
 rcases n with _ | _ | _ | _ | _ | n
 ·simp only[spK,Zaz]
  constructor
  ·intro h
   unfold Yp at h
   split at h
   ·rename_i l hl
    obtain ⟨a,h1,h2,h3,h4⟩:=h
    exact ⟨_,_,⟨l,a,hl,h1,h2,h3,rfl,rfl⟩,h4⟩
   ·exact h.elim
  ·rintro ⟨v,u,⟨l,a,hl,h1,h2,h3,rfl,rfl⟩,h4⟩
   rw [hl]
   exact ⟨a,h1,h2,h3,h4⟩
 ·simp only[spK,Zaz]
  constructor
  ·intro h
   cases vs with
   | nil=>exact h.elim
   | cons v0 r=>
    simp only[Zro] at h
    unfold Yp at h
    split at h
    ·rename_i kh hk
     split at h
     ·rename_i l hl
      obtain ⟨a,h',h1,h2,h3,h4⟩:=h
      exact ⟨_,_,⟨v0,r,kh.1,kh.2,l,a,h',rfl,hk,hl,h1,h2,h3,rfl,rfl⟩,h4⟩
     ·exact h.elim
    ·exact h.elim
  ·rintro ⟨v,u,⟨v0,r,k,hh,l,a,h',rfl,hk,hl,h1,h2,h3,rfl,rfl⟩,h4⟩
   simp only[Zro,hk,hl,Yp]
   exact ⟨a,h',h1,h2,h3,h4⟩
 ·simp only[spK,Zaz]
  constructor
  ·intro h
   unfold Yp at h
   split at h
   ·rename_i l hl
    obtain ⟨a,h1,h3,h4⟩:=h
    exact ⟨_,_,⟨l,a,hl,h1,h3,rfl,rfl⟩,h4⟩
   ·exact h.elim
  ·rintro ⟨v,u,⟨l,a,hl,h1,h3,rfl,rfl⟩,h4⟩
   rw [hl]
   exact ⟨a,h1,h3,h4⟩
 ·simp only[spK,Zaz]
  constructor
  ·intro h
   unfold Yp at h
   split at h
   ·rename_i l hl
    obtain ⟨nb,h1,h4⟩:=h
    exact ⟨_,_,⟨l,nb,hl,h1,rfl,rfl⟩,h4⟩
   ·exact h.elim
  ·rintro ⟨v,u,⟨l,nb,hl,h1,rfl,rfl⟩,h4⟩
   rw [hl]
   exact ⟨nb,h1,h4⟩
 ·simp only[spK,Zaz]
  constructor
  ·intro h
   unfold Yp at h
   split at h
   ·rename_i l hl
    obtain ⟨a,h1,h2,h3,h4⟩:=h
    exact ⟨_,_,⟨l,a,hl,h1,h2,h3,rfl,rfl⟩,h4⟩
   ·exact h.elim
  ·rintro ⟨v,u,⟨l,a,hl,h1,h2,h3,rfl,rfl⟩,h4⟩
   rw [hl]
   exact ⟨a,h1,h2,h3,h4⟩
 ·simp only[spK,Zaz]
  constructor
  ·intro h
   unfold Yp at h
   split at h
   ·rename_i l hl
    obtain ⟨a,h1,h3,h4⟩:=h
    exact ⟨_,_,⟨l,a,hl,h1,h3,rfl,rfl⟩,h4⟩
   ·exact h.elim
  ·rintro ⟨v,u,⟨l,a,hl,h1,h3,rfl,rfl⟩,h4⟩
   rw [hl]
   exact ⟨a,h1,h3,h4⟩
section
variable {P:Program} {J:World→Prop} {JF:Nat→Prop} {W:QK} {U:Nat→Prop} {key:Nat} {st:St} {g:Gh} {w w':World} {a:Act} {tt:Nat→Option TI} {hd:FuncId→Nat}
def ZvZ [NW] (W:QK) (U:Nat→Prop) (key:Nat) (st:St) (g:Gh) (w:World) (v:SV) (u:List (Nat × Ob)) (cv:Value) (w':World):Prop:=
 ∃g',HI W g' (Zk st.ob u) w'∧SVR g' w' v cv∧(∀x c,svU U x→SVR g w x c→SVR g' w' x c)∧svU (Uk U key) v∧(∀k,obU (Uk U key) (Zk st.ob u k))∧∀k,¬Uk U key k→Zk st.ob u k=.gone
theorem HI.ownlt [NW] {ob:Nat→Ob} (hI:HI W g ob w) {b:Nat} (h:g.own b):b<w.heap.size:=by
 rcases h with ⟨k,mk⟩ | hz
 ·exact hI.lt k b (by simp [mk])
 ·rw [hI.gz] at hz
  exact Af (hI.zx b hz).1 hI.below.size
theorem Ztg {ks:List Nat} {ob:Nat→Ob} (a:∀k,obU U (st.ob k)) (h:∀k,ob k=(if k∈ks then Z4 (st.ob k) else st.ob k)):∀k,obU U (ob k):=fun k=>by
 rw [h k]
 have:=a k
 split
 ·cases hk:st.ob k<;>simp only[Z4]<;>first | trivial | (rw [hk] at this;exact this)
 ·exact this
theorem ZqL [NW] {vs:List SV} {l:List (Bool × List CT)} {st1:St} (h:∀k,st1.ob k=(if k∈Z1 vs then Z4 (st.ob k) else st.ob k)) (hl:ZT st vs=some l):∀x∈vs,Zsy st1.ob x:=by
 have key:∀(cs:List AV) (l:List CT),Yq st cs=some l→(∀k,AV.row k∈cs→k∈Z1 vs)→∀y∈cs,Zuh st1.ob y:=by
  intro cs
  induction cs with
  | nil=>intro l _ _ y my;simp at my
  | cons c cs ih=>
   intro l hl hk y my
   simp only[Yq] at hl
   obtain ⟨c1,h1,hl⟩:=A5.1 hl
   obtain ⟨c2,h2,_⟩:=A3.1 hl
   rcases A8.1 my with rfl | my
   ·cases y with
    | row k=>
     simp only[Zbc] at h1
     split at h1
     ·rename_i e m xs d hob
      exact ⟨e,m,xs,by rw [h k,if_pos (hk k (by simp)),hob];rfl⟩
     ·simp at h1
    | _=>trivial
   ·exact ih c2 h2 (fun k mk=>hk k (by simp [mk])) y my
 have all:∀(xs:List SV) (l:List (Bool × List CT)),ZT st xs=some l→(∀x∈xs,x∈vs)→∀x∈xs,Zsy st1.ob x:=by
  intro xs
  induction xs with
  | nil=>intro l _ _ x mx;simp at mx
  | cons x xs ih=>
   intro l hl hm y my
   simp only[ZT] at hl
   obtain ⟨c1,h1,hl⟩:=A5.1 hl
   obtain ⟨c2,h2,_⟩:=A3.1 hl
   rcases A8.1 my with rfl | my
   ·cases y with
    | p ag cs=>
     simp only[Zcd] at h1
     obtain ⟨l1,h3,_⟩:=A3.1 h1
     exact key cs l1 h3 (fun k mk=>Zku (hm (.p ag cs) (by simp)) mk)
    | _=>trivial
   ·exact ih c2 h2 (fun z mz=>hm z (by simp [mz])) y my
 exact all vs l hl (fun _ h=>h)
theorem ZBI {k:Nat} {inst:∀j,Decidable (j=k)} (ob:Nat→Ob) (o:Ob):(fun j=>@ite _ (j=k) (inst j) o (ob j))=upd ob k o:=by
 funext j
 simp only[upd]
 split<;>rfl
theorem ZhH [NW] (htt:MOk P J JF W tt) {f:FuncId} {vs:List SV} {a:List Value} {v:SV} {u:List (Nat × Ob)} (h:Zaz (SC P J JF hd) f 0 key st vs v u) (hH:HI W g st.ob w) (hU:StU U st) (c:∀k,key≤k→k<key+16→¬U k) (j:ZH (SVR g w) vs a) (hvU:∀x∈vs,svU U x):
  ZcX P f∧Calls P f a.toArray w fun e w'=>∃cv,e=.returned cv∧ZvZ W U key st g w v u cv w':=by
 obtain ⟨l,o,hl,hs,d,hn,rfl,rfl⟩:=h
 obtain ⟨hc,hC⟩:=hs
 refine ⟨hc,?_⟩
 by_cases m:Zcg o=true
 ·have p:∀x∈vs,Zsy st.ob x:=Zuw (by simpa [m] using d)
  refine (hC w g.own a (htt.at hH.below) (fun b hb=>hH.ownlt hb) (Zcq hH hl j (.inr ⟨p,fun _ h=>h⟩))).mono ?_
  rintro e w' ⟨cv,n,rfl,hr,hz,hb⟩
  obtain ⟨g',t1,t2,t3,t4,t5,t6⟩:=Zgi hH hU.ob hU.gone c hr hn (fun _=>False) (fun _ h=>h.elim) (fun _=>.gone) (fun _ b hb=>hz b hb) (hH.below.trans hb) hb.size (fun b i _=>hb.block b i) (fun _ h=>h.elim) (fun _ _ _ _ h=>h.elim)
  simp only[if_false] at t1 t5 t6
  exact ⟨cv,rfl,g',t1,t2,t3,t4,t5,t6⟩
 ·refine (hC w (fun _=>False) a (htt.at hH.below) (fun b hb=>hb.elim) (Zcq hH hl j (.inl fun _ h=>h))).mono ?_
  rintro e w' ⟨cv,n,rfl,hr,hz,hb⟩
  obtain ⟨g',t1,t2,t3,t4,t5,t6⟩:=Zgi hH hU.ob hU.gone c hr hn (fun _=>False) (fun _ h=>h.elim) (fun _=>.gone) (fun h=>absurd h m) (hH.below.trans hb) hb.size (fun b i _=>hb.block b i) (fun _ h=>h.elim) (fun _ _ _ _ h=>h.elim)
  simp only[if_false] at t1 t5 t6
  exact ⟨cv,rfl,g',t1,t2,t3,t4,t5,t6⟩
theorem Zuj [NW] {x:AV} {v:Value} (h:AVR g w x v):AVR g w (nlA x) v:=by
 cases x with
 | nil e m=>exact ⟨[],⟨h,rfl⟩,yG⟩
 | _=>exact h
theorem Zrd [NW]:∀{xs:List AV} {vs:List Value},ZH (AVR g w) xs vs→ZH (AVR g w) (xs.map nlA) vs
 | [],[],_=>trivial
 | [],_::_,h=>h.elim
 | _::_,[],h=>h.elim
 | _::_,_::_,h=>⟨Zuj h.1,Zrd h.2⟩
theorem Zzy [NW] {x:SV} {v:Value} (h:SVR g w x v):SVR g w (nlS x) v:=by
 cases x with
 | p a cs=>
  cases a with
  | true=>obtain ⟨vs,h1,h2⟩:=h;exact ⟨vs,h1,Zrd h2⟩
  | false=>obtain ⟨y,rfl,h2⟩:=h;exact ⟨_,rfl,Zuj h2⟩
 | _=>exact h
theorem Zrj [NW]:∀{xs:List SV} {vs:List Value},ZH (SVR g w) xs vs→ZH (SVR g w) (xs.map nlS) vs
 | [],[],_=>trivial
 | [],_::_,h=>h.elim
 | _::_,[],h=>h.elim
 | _::_,_::_,h=>⟨Zzy h.1,Zrj h.2⟩
theorem ZtO {x:SV} (h:svU U x):svU U (nlS x):=by
 cases x with
 | p a cs=>
  intro y my
  obtain ⟨z,mz,rfl⟩:=A7.1 my
  have hz:=h z mz
  cases z<;>first | exact hz | trivial
 | _=>exact h
theorem Zfw [NW] (htt:MOk P J JF W tt) {f:FuncId} {n:Nat} {vs:List SV} {cvs:List Value} {v:SV} {u:List (Nat × Ob)} (h:Zaz (SC P J JF hd) f n key st vs v u) (hH:HI W g st.ob w) (hU:StU U st) (hkey:∀k,key≤k→k<key+16→¬U k) (hvs:ZH (SVR g w) vs cvs) (hvU:∀x∈vs,svU U x):
  ZcX P f∧Calls P f cvs.toArray w fun e w'=>∃cv,e=.returned cv∧ZvZ W U key st g w v u cv w':=by
 unfold Zaz at h
 split at h
 ·exact ZhH htt (f:=f) (vs:=vs) h hH hU hkey hvs hvU
 ·obtain ⟨v0,r,k,hh,l,res,h',rfl,hk,hl,hs,hne,hn,rfl,rfl⟩:=h
  obtain ⟨hc,hC⟩:=hs
  refine ⟨hc,?_⟩
  cases cvs with
  | nil=>exact hvs.elim
  | cons c0 cr=>
  obtain ⟨hv0,hvr⟩:=hvs
  obtain ⟨g1,i1,i2,i3,i4⟩:=ZjB st (Z1 r) hH (fun k=>.inl rfl)
  let st1:St:=⟨st.sl,Zk st.ob (ZO st (Z1 r)),st.n⟩
  have hob1:∀k,st1.ob k=(if k∈Z1 r then Z4 (st.ob k) else st.ob k):=i4
  have hfr:∀k,st1.ob k=st.ob k∨st1.ob k=Z4 (st.ob k):=fun k=>by
   rw [hob1 k];split
   ·exact .inr rfl
   ·exact .inl rfl
  have hl1:ZT st1 r=some l:=by rw [ZeL hfr];exact hl
  have hok1:=ZqL (st1:=st1) hob1 hl
  have hkr:k∉Z1 r:=fun hm=>by
   have:=AF.1 hne k hm
   simp at this
  have hk1:st1.ob k=st.ob k:=by rw [hob1 k,if_neg hkr]
  have hUk:st.ob k≠.gone→U k:=fun hg=>Classical.byContradiction fun hn=>hg (hU.gone k hn)
  have hobU1:∀j,obU U (st1.ob j):=Ztg hU.ob hob1
  have hgone1:∀j,¬U j→st1.ob j=.gone:=fun j hj=>by
   have e:=hU.gone j hj
   rcases hfr j with h | h<;>rw [h,e]<;>rfl
  have hv0':SVR g1 w v0 c0:=hv0.less i2 i3
  have hvr':ZH (SVR g1 w) r cr:=hvr.mono fun x c _ hx=>hx.less i2 i3
  have hhand:∃q:Option Nat,Zme w (inQ (fun b=>g1.own b∧¬q=some b) q) q hh c0∧g1.O k=q.toList∧g1.D k=[]∧c0=g1.val k∧st.ob k≠.gone:=by
   unfold ZeF at hk
   split at hk
   ·rename_i k'
    split at hk
    ·rename_i t cs hob
     split at hk
     ·rename_i hnr
      obtain ⟨l',hl',e⟩:=A3.1 hk
      simp only[A6] at e
      obtain ⟨rfl,rfl⟩:=e
      have ho:=i1.obs k'
      rw [show Zk st.ob (ZO st (Z1 r)) k'=.box t cs from hk1.trans hob] at ho
      obtain ⟨b,vs,h1,h2,h3,h4,h5⟩:=ho
      obtain ⟨b',h6,h7⟩:=hv0'
      have hb:b'=b:=by rw [h6] at h1;simpa using h1
      subst hb
      have hl1':Yq st1 cs=some l':=by
       have:=Zmh hfr (.p true cs)
       simp only[Zcd,hl'] at this
       obtain ⟨x,hx,hx2⟩:=A3.1 this
       simp only[A6,true_and] at hx2
       rw [hx,hx2]
      obtain ⟨L,hL,hL2⟩:=Zei (st:=st1) i1 hl1' h5
      refine ⟨some b',⟨b',vs,L,rfl,h7,h4,hL,fun x mx hx=>?_⟩,by simp [h2],h3,by rw [h7,h6],by rw [hob];simp⟩
      refine hL2 (fun y my=>?_) x mx ?_
      ·have:=AF.1 hnr y my
       cases y<;>simp [Zaa] at this<;>trivial
      ·rcases hx with hx | hx
       ·exact hx.1
       ·simp only[A0] at hx
        subst hx
        exact .inl ⟨k',by simp [h2]⟩
     ·simp at hk
    ·simp at hk
   ·rename_i k'
    split at hk
    ·rename_i e m xs d hob
     split at hk
     ·rename_i hd2
      simp only[A0,A6] at hk
      obtain ⟨rfl,rfl⟩:=hk
      have ho:=i1.obs k'
      rw [show Zk st.ob (ZO st (Z1 r)) k'=.row e m xs d from hk1.trans hob] at ho
      obtain ⟨hm,cs,L,h1,h2,h3⟩:=ho
      obtain rfl:=ZfO h2 hd2.2
      obtain ⟨x,hx1,hx2⟩:=hv0'
      simp only[AT,and_true] at hx1
      subst hx1
      rcases h3 with ⟨_,h3,h4⟩ | ⟨h3,_⟩ | ⟨h3,_⟩
      ·exact ⟨(g1.val k').ownBlock,⟨hd2.2,hm,by rw [hx2.1],cs,by rw [hx2.1];exact h1,h2⟩,h3,h4,hx2.1,by rw [hob];simp⟩
      ·omega
      ·omega
     ·simp at hk
    ·simp at hk
   ·simp at hk
  obtain ⟨q,hq1,hq2,hq3,hq4,hq5⟩:=hhand
  have hkU:=hUk hq5
  have hqo:∀b,q=some b→g1.own b:=fun b hb=>.inl ⟨k,by simp [hq2,hb]⟩
  have hin:∀b,g1.own b→inQ (fun b=>g1.own b∧¬q=some b) q b:=fun b hb=>by
   by_cases hqb:q=some b
   ·exact .inr hqb
   ·exact .inl ⟨hb,hqb⟩
  have hargs:ZH (Zjv w (inQ (fun b=>g1.own b∧¬q=some b) q)) l cr:=Zcq (st:=st1) i1 hl1 hvr' (.inr ⟨hok1,fun b hb=>by
   rcases hb with hb | hb
   ·exact hb.1
   ·exact hqo b hb⟩)
  have hqf:∀b,q=some b→JF b:=fun b hb=>by
   rcases (i1.plain k b (by simp [hq2,hb])).1 with h | h
   ·exact htt.jf b h
   ·exact htt.xf b h
  refine (hC w _ q c0 cr (htt.at hH.below) hqf (fun b hb=>⟨i1.ownlt hb.1,hb.2⟩) hq1 hargs).mono ?_
  rintro e w' ⟨cv,n,rfl,hr,hz,hb',hbq⟩
  have hbel:Bel W w':=⟨hbq.os.trans hH.below.os,hbq.tape.trans hH.below.tape,hbq.output.trans hH.below.output,AQ hH.below.size hbq.size,fun i hi hx=>by
   rw [hbq.block i (Af hi hH.below.size) fun hqi=>?_]
   ·exact hH.below.block i hi hx
   ·rcases (i1.plain k i (by simp [hq2,hqi])).1 with h | h
    ·omega
    ·exact hx h⟩
  obtain ⟨g',t1,t2,t3,t4,t5,t6⟩:=Zgi i1 hobU1 hgone1 hkey hr hn (fun j=>j=k) (fun j hj=>by rw [hj];exact hkU) (fun _=>Y9 h') (fun _ b hb=>hz b (hin b hb)) hbel hbq.size
   (fun b hb hk'=>hbq.block b hb fun hqb=>hk' k rfl (by simp [hq2,hqb]))
   (fun j _=>by
    cases h' with
    | row e m xs=>trivial
    | box t cs=>intro y my;simp only[A7] at my;obtain ⟨x,_,rfl⟩:=my;trivial)
   (fun g' ho hg' j hj=>by
    subst hj
    obtain ⟨e1,e2,e3⟩:=hg' j rfl
    have hno:∀b,¬n b→¬g'.own b:=fun b hnb hob=>by
     rcases ho b hob with h | h
     ·exact hnb (hz b (hin b h))
     ·exact hnb h.2.2
    cases h' with
    | row e m xs=>
     obtain ⟨p1,p2,p3,cs,p4,p5⟩:=hb'
     refine ⟨⟨p2,cs,[],by rw [e1,←hq4];exact p4,p5,.inl ⟨rfl,by rw [e2,hq2,e1,←hq4,p3],by rw [e3,hq3]⟩⟩,fun b mb=>?_⟩
     rw [hq2,hq3] at mb
     simp at mb
     rcases p4.2 with ⟨h0,_⟩ | ⟨gg,o,cap,cur,hv,_,hcc,_⟩
     ·rw [h0] at p3;simp [Value.ownBlock] at p3;rw [←p3] at mb;simp at mb
     ·rw [hv] at p3;simp only[Value.ownBlock] at p3;rw [mb] at p3;simp at p3;subst p3;exact ⟨_,_,hcc⟩
    | box t cs=>
     obtain ⟨b,vs,L,p1,p2,p3,p4,p5⟩:=hb'
     refine ⟨⟨b,vs,by rw [e1,←hq4];exact p2,by rw [e2,hq2,p1];rfl,by rw [e3,hq3],p3,p4.avr fun x mx=>hno x (p5 x mx)⟩,fun x mx=>?_⟩
     rw [hq2,hq3,p1] at mx
     simp at mx
     subst mx
     exact ⟨_,_,p3⟩)
  have hup:Zk st.ob (ZO st (Z1 r)++((k,Y9 h')::(ZE key res).2.1))=Zk (upd (Zk st.ob (ZO st (Z1 r))) k (Y9 h')) (ZE key res).2.1:=by rw [Yy];rfl
  have hif:=ZBI (k:=k) (inst:=fun j=>Classical.propDecidable (j=k)) (Zk st.ob (ZO st (Z1 r))) (Y9 h')
  have t1':HI W g' (Zk (upd (Zk st.ob (ZO st (Z1 r))) k (Y9 h')) (ZE key res).2.1) w':=hif ▸ t1
  have t5':∀j,obU (Uk U key) (Zk (upd (Zk st.ob (ZO st (Z1 r))) k (Y9 h')) (ZE key res).2.1 j):=hif ▸ t5
  have t6':∀j,¬Uk U key j→Zk (upd (Zk st.ob (ZO st (Z1 r))) k (Y9 h')) (ZE key res).2.1 j=.gone:=hif ▸ t6
  rw [←hup] at t1' t5' t6'
  exact ⟨cv,rfl,g',t1',t2,fun x c hx hc=>t3 x c hx (hc.less i2 i3),t4,t5',t6'⟩
 ·obtain ⟨l,nb,hl,hs,rfl,rfl⟩:=h
  obtain ⟨hc,hC⟩:=hs
  refine ⟨hc,?_⟩
  obtain ⟨g1,i1,i2,i3,i4⟩:=ZjB st (Z1 vs) hH (fun k=>.inl rfl)
  let st1:St:=⟨st.sl,Zk st.ob (ZO st (Z1 vs)),st.n⟩
  have hob1:∀k,st1.ob k=(if k∈Z1 vs then Z4 (st.ob k) else st.ob k):=i4
  have hfr:∀k,st1.ob k=st.ob k∨st1.ob k=Z4 (st.ob k):=fun k=>by
   rw [hob1 k];split
   ·exact .inr rfl
   ·exact .inl rfl
  have hl1:ZT st1 vs=some l:=by rw [ZeL hfr];exact hl
  have hok1:=ZqL (st1:=st1) hob1 hl
  have hobU1:∀j,obU U (st1.ob j):=Ztg hU.ob hob1
  have hgone1:∀j,¬U j→st1.ob j=.gone:=fun j hj=>by
   have e:=hU.gone j hj
   rcases hfr j with h | h<;>rw [h,e]<;>rfl
  have hvs':ZH (SVR g1 w) vs cvs:=hvs.mono fun x c _ hx=>hx.less i2 i3
  refine (hC w g1.own cvs (htt.at hH.below) (fun b hb=>i1.ownlt hb) (Zcq (st:=st1) i1 hl1 hvs' (.inr ⟨hok1,fun _ h=>h⟩))).mono ?_
  rintro e w' ⟨b,n,rfl,hb,hnR,hnb,hz,hbel⟩
  have hkU:¬U key:=hkey key (A9 _) (by omega)
  let g':Gh:=⟨fun k=>if k=key then Zmc b nb else g1.val k,fun k=>if k=key then [b] else g1.O k,fun k=>if k=key then [] else g1.D k,g1.Z⟩
  have hval:∀k,U k→g'.val k=g1.val k:=fun k hk=>if_neg fun (e:k=key)=>hkU (e ▸ hk)
  have hown2:∀x,g'.own x→g1.own x∨x=b:=fun x hx=>by
   rcases hx with ⟨k,mk⟩ | hx
   ·simp only[g'] at mk
    split at mk
    ·exact .inr (by simpa using mk)
    ·exact .inl (.inl ⟨k,mk⟩)
   ·exact .inl (.inr hx)
  have hown:X7 g1 g' w.heap.size:=.of (fun x hx=>(hown2 x hx).imp id fun (e:x=b)=>by rw [e];exact hb) fun j x mx=>by
   simp only[g'] at mx
   split at mx
   ·simp at mx
   ·exact .inl (.inr ⟨j,mx⟩)
  have hno:∀x,¬n x→¬g'.own x:=fun x mx hx=>mx (by
   rcases hown2 x hx with h | h
   ·exact hz x h
   ·rw [h];exact hnb)
  have hup:Zk st.ob (ZO st (Z1 vs)++[(key,Zub nb)])=upd (Zk st.ob (ZO st (Z1 vs))) key (Zub nb):=by rw [Yy];rfl
  have hvk:g'.val key=Zmc b nb:=if_pos rfl
  have hplain:Xk w' (Zub nb) b:=by
   cases nb with
   | box t cs=>obtain ⟨us,L,p1,_⟩:=hnR;exact ⟨_,_,p1⟩
   | map kk vk kv=>obtain ⟨es,c,p1,_⟩:=hnR;exact ⟨_,_,p1⟩
  refine ⟨_,rfl,g',?_,?_,fun x c hx hc=>(hc.less i2 i3).move hx hval (fun b hb _=>hbel.block b hb) hown hbel.size,?_,fun k=>?_,fun k hk=>?_⟩
  ·rw [hup]
   refine i1.step (U:=U) (fun k=>k=key) (hH.below.trans hbel) rfl (fun b hb _=>hbel.block b hb) (fun k hk=>⟨ZI _ _ hk,if_neg hk,if_neg hk,if_neg hk⟩) hobU1 hval hown (fun k hk=>?_)
   subst hk
   have e1:g'.O k=[b]:=if_pos rfl
   have e2:g'.D k=[]:=if_pos rfl
   rw [Zy,e1,e2]
   refine ⟨?_,by simp,fun x mx=>?_,fun j hj x mx mj=>?_⟩
   ·cases nb with
    | box t cs=>obtain ⟨us,L,p1,p2,p3⟩:=hnR;exact ⟨b,us,hvk,e1,e2,p1,p2.avr fun x mx=>hno x (p3 x mx)⟩
    | map kk vk kv=>obtain ⟨es,c,p1,p2⟩:=hnR;exact ⟨b,es,c,hvk,e1,e2,p1,p2⟩
   ·simp at mx;subst mx;exact ⟨.inl (AQ hH.below.size hb),hplain⟩
   ·simp at mx;subst mx
    have e3:g'.O j=g1.O j:=if_neg fun e=>hj e.symm
    have e4:g'.D j=g1.D j:=if_neg fun e=>hj e.symm
    rw [e3,e4] at mj
    have:=i1.lt j x mj
    omega
  ·cases nb with
   | box t cs=>exact ⟨b,hvk,rfl⟩
   | map kk vk kv=>exact ⟨.row key,rfl,hvk.symm,rfl⟩
  ·cases nb with
   | box t cs=>exact .inr ⟨A9 _,by omega⟩
   | map kk vk kv=>intro y my;simp at my;subst my;exact .inr ⟨A9 _,by omega⟩
  ·rw [hup]
   by_cases hk:k=key
   ·subst hk;rw [Zy]
    cases nb with
    | box t cs=>intro y my;simp only[A7] at my;obtain ⟨x,_,rfl⟩:=my;trivial
    | map kk vk kv=>trivial
   ·rw [ZI _ _ hk];exact (hobU1 k).mono fun _=>.inl
  ·have hk2:¬k=key:=fun e=>hk (.inr ⟨by omega,by omega⟩)
   rw [hup,ZI _ _ hk2]
   exact hgone1 k fun h=>hk (.inl h)
 ·exact ZhH htt (f:=f) (vs:=vs.map nlS) h hH hU hkey (Zrj hvs) (fun x hx=>by
   obtain ⟨y,my,rfl⟩:=A7.1 hx
   exact ZtO (hvU y my))
 ·obtain ⟨l,res,hl,hs,hn,rfl,rfl⟩:=h
  obtain ⟨hc,hC⟩:=hs
  refine ⟨hc,?_⟩
  obtain ⟨g1,i1,i2,i3,i4⟩:=ZjB st (Z1 vs) hH (fun k=>.inl rfl)
  let st1:St:=⟨st.sl,Zk st.ob (ZO st (Z1 vs)),st.n⟩
  have hob1:∀k,st1.ob k=(if k∈Z1 vs then Z4 (st.ob k) else st.ob k):=i4
  have hfr:∀k,st1.ob k=st.ob k∨st1.ob k=Z4 (st.ob k):=fun k=>by
   rw [hob1 k];split
   ·exact .inr rfl
   ·exact .inl rfl
  have hl1:ZT st1 vs=some l:=by rw [ZeL hfr];exact hl
  have hok1:=ZqL (st1:=st1) hob1 hl
  have hobU1:∀j,obU U (st1.ob j):=Ztg hU.ob hob1
  have hgone1:∀j,¬U j→st1.ob j=.gone:=fun j hj=>by
   have e:=hU.gone j hj
   rcases hfr j with h | h<;>rw [h,e]<;>rfl
  have hvs':ZH (SVR g1 w) vs cvs:=hvs.mono fun x c _ hx=>hx.less i2 i3
  refine (hC w g1.own cvs (htt.at hH.below) (fun b hb=>i1.ownlt hb) (Zcq (st:=st1) i1 hl1 hvs' (.inr ⟨hok1,fun _ h=>h⟩))).mono ?_
  rintro e w' ⟨cv,n,rfl,hr,hz,hb⟩
  obtain ⟨g',t1,t2,t3,t4,t5,t6⟩:=Zgi i1 hobU1 hgone1 hkey hr hn (fun _=>False) (fun _ h=>h.elim) (fun _=>.gone) (fun _ b hb=>hz b hb) (hH.below.trans hb) hb.size (fun b hb' _=>hb.block b hb') (fun _ h=>h.elim) (fun _ _ _ _ h=>h.elim)
  simp only[if_false,←Yy] at t1 t5 t6
  exact ⟨cv,rfl,g',t1,t2,fun x c hx hc=>t3 x c hx (hc.less i2 i3),t4,t5,t6⟩
end
end
section
open Go.RowKit
section
variable {P:Program} {J:World→Prop} {JF:Nat→Prop} {W:QK} {U:Nat→Prop} {key:Nat} {st:St} {w w':World} {a:Act} {tt:Nat→Option TI} {hs:FuncId→Nat} {Q:Exit→Act→World→Prop}
theorem Zb2 (a:Act) (d:Option Nat) (v:Value):(a.put d v).tmps.size=a.tmps.size:=by cases d<;>simp [Act.put]
theorem ZeE [NW] {g g':Gh} {d:Option Nat} {v:SV} {u:List (Nat × Ob)} {cv:Value} (hS:∀t,SVR g w (st.sl t) (a.tmps.getD t undef)) (hU:StU U st) (b:a.defers=[]) (hh:∀v,W.hv=some v→a.tmps.getD 0 undef=v) (hd:∀t,d=some t→t<a.tmps.size∧(W.hv=none∨t≠0))
  (h1:HI W g' (Zk st.ob u) w') (h2:SVR g' w' v cv) (h3:∀x c,svU U x→SVR g w x c→SVR g' w' x c) (h4:svU (Uk U key) v) (h5:∀k,obU (Uk U key) (Zk st.ob u k)) (h6:∀k,¬Uk U key k→Zk st.ob u k=.gone):
  Inv W (Uk U key) ((st.put d v).app u) (a.put d cv) w':=by
 cases d with
 | none=>
  refine ⟨⟨g',h1,fun t=>h3 _ _ (hU.sl t) (hS t)⟩,⟨fun t=>(hU.sl t).mono fun _=>.inl,h5,h6⟩,b,hh⟩
 | some d=>
  have f:=(hd d rfl).1
  refine ⟨⟨g',h1,fun t=>?_⟩,⟨fun t=>?_,h5,h6⟩,b,fun u hu=>?_⟩
  ·show SVR g' w' (upd st.sl d v t) ((a.tmps.setIfInBounds d cv).getD t undef)
   by_cases ht:t=d
   ·subst ht
    rw [Zy]
    simpa [AB,Aq,f] using h2
   ·rw [ZI _ _ ht]
    have:(a.tmps.setIfInBounds d cv).getD t undef=a.tmps.getD t undef:=by
     simp [AB,Ac (fun e:d=t=>ht e.symm)]
    rw [this]
    exact h3 _ _ (hU.sl t) (hS t)
  ·show svU (Uk U key) (upd st.sl d v t)
   by_cases ht:t=d
   ·subst ht;rw [Zy];exact h4
   ·rw [ZI _ _ ht];exact (hU.sl t).mono fun _=>.inl
  ·show (a.tmps.setIfInBounds d cv).getD 0 undef=u
   have i:d≠0:=by
    rcases (hd d rfl).2 with h | h
    ·rw [h] at hu;simp at hu
    ·exact h
   rw [←hh u hu]
   simp [AB,Ac i]
theorem Zof [NW] {g:Gh} {x:SV} {v:Value} {fc:FuncId × List CT} (hfc:ZmF x=some fc) (hs:SVR g w x v):∃cs:List Value,v=.func (.func fc.1) #[] cs.toArray∧ZH (SVR g w) (fc.2.map Zi8) cs:=by
 unfold ZmF at hfc
 split at hfc
 ·rename_i f es
  simp only[A0] at hfc
  subst hfc
  obtain ⟨y,hy,hs⟩:=hs
  simp at hy;subst hy
  obtain ⟨L,⟨vs,h1,h2⟩,h3⟩:=hs
  refine ⟨vs,h1,?_⟩
  have:=h2.avr (g:=g) h3
  have conv:∀(es:List CT) (vs:List Value),ZH (AVR g w) (es.map AV.c) vs→ZH (SVR g w) (es.map Zi8) vs:=by
   intro es
   induction es with
   | nil=>intro vs h;cases vs with
    | nil=>trivial
    | cons _ _=>exact h.elim
   | cons e es ih=>intro vs h;cases vs with
    | nil=>exact h.elim
    | cons v vs=>exact ⟨⟨_,rfl,h.1⟩,ih vs h.2⟩
  exact conv _ _ this
 ·rename_i f
  simp only[A0] at hfc
  subst hfc
  exact ⟨[],hs,trivial⟩
 ·simp at hfc
theorem ZmU [NW] (htt:MOk P J JF W tt) {o:Oper} {K:St→Prop} (h:opS tt (SC P J JF hs) key o K st) (hI:Inv W U st a w) (hkey:∀k,key≤k→k<key+16→¬U k) (hd:∀t,o.dst=some t→t<a.tmps.size∧(W.hv=none∨t≠0)):
  o.wp P a w (fun a' w'=>∃st',Inv W (Uk U key) st' a' w'∧a'.tmps.size=a.tmps.size∧K st') Q:=by
 obtain ⟨⟨g,hH,hS⟩,hU,hdef,hh⟩:=hI
 have evals:∀(args:Array Operand) (ts:Array TypeId),ZH (SVR g w) (evs tt st ts.toList args.toList) (args.toList.map a.eval)∧∀x∈evs tt st ts.toList args.toList,svU U x:=fun args ts=>by
  have he:args.toList.map a.eval=(ZhJ ts.toList args.toList).map fun p=>a.eval p.2:=by
   have:=congrArg (List.map a.eval) (Zed ts.toList args.toList)
   rw [←this,Ad];rfl
  refine ⟨?_,fun x mx=>?_⟩
  ·rw [he]
   exact ZH.of_map _ _ fun p _=>(Zi6 htt.tt hS hU p.1 p.2).1
  ·obtain ⟨p,_,rfl⟩:=A7.1 mx
   exact (Zi6 htt.tt hS hU p.1 p.2).2
 have arm:∀(f:FuncId) (n:Nat) (vs:List SV) (cvs:List Value),spK (SC P J JF hs) f n key o.dst K st vs→ZH (SVR g w) vs cvs→(∀x∈vs,svU U x)→(ZcX P f→(execOp a.eval o).run P w=.ok (.enter f cvs.toArray) w)→
   o.wp P a w (fun a' w'=>∃st',Inv W (Uk U key) st' a' w'∧a'.tmps.size=a.tmps.size∧K st') Q:=fun f n vs cvs h hargs hargU hrun=>by
  obtain ⟨v,u,hr,hK⟩:=ZjD.1 h
  obtain ⟨hc,hcall⟩:=Zfw htt hr hH hU hkey hargs hargU
  unfold Oper.wp
  rw [hrun hc,Oper.upon_enter]
  refine hcall.mono ?_
  rintro e w' ⟨cv,rfl,g',t1,t2,t3,t4,t5,t6⟩
  exact ⟨_,ZeE hS hU hdef hh hd t1 t2 t3 t4 t5 t6,Zb2 _ _ _,hK⟩
 unfold opS at h
 split at h
 ·rename_i c hc
  obtain ⟨f,l1,l2⟩:=c
  have hop:∃args ts,o.op=.call ⟨.value (.func f),args,ts⟩∧l1=ts.toList∧l2=args.toList:=by
   unfold Yx at hc
   split at hc
   ·rename_i f' args ts he
    simp only[A0,A6] at hc
    obtain ⟨rfl,rfl,rfl⟩:=hc
    exact ⟨args,ts,he,rfl,rfl⟩
   ·simp at hc
  obtain ⟨args,ts,hop,rfl,rfl⟩:=hop
  refine arm f _ _ _ h (evals args ts).1 (evals args ts).2 ?_
  rintro ⟨fn,f1,f2,f3⟩
  have f2' : ¬ fn.name = "runtime.NumGoroutine" := by simpa using f2
  have f3':¬fn.body=none:=fun e=>by rw [e] at f3;simp at f3
  have e1:(args.toList.map a.eval).toArray=args.map a.eval:=by
   apply Am
   simp
  rw [e1]
  simp [execOp,hop,resolve,Act.eval,Deferred.ofValue,invoke,callFunc,program,Sem.run,f1,f2',f3']
 ·split at h
  ·rename_i c hc
   obtain ⟨s,l1,l2⟩:=c
   have hop:∃args ts,o.op=.call ⟨.value (.tmp s),args,ts⟩∧l1=ts.toList∧l2=args.toList:=by
    unfold YP at hc
    split at hc
    ·rename_i s' args ts he
     simp only[A0,A6] at hc
     obtain ⟨rfl,rfl,rfl⟩:=hc
     exact ⟨args,ts,he,rfl,rfl⟩
    ·simp at hc
   obtain ⟨args,ts,hop,rfl,rfl⟩:=hop
   unfold Yp at h
   split at h
   ·rename_i fc hfc
    obtain ⟨_,h⟩:=h
    have hval:=Zof hfc (hS s)
    obtain ⟨cs,hv',hcs⟩:=hval
    have hv:a.eval (.tmp s)=.func (.func fc.1) #[] cs.toArray:=hv'
    refine arm fc.1 0 _ (args.toList.map a.eval++cs) h ((evals args ts).1.append hcs) (fun x mx=>?_) ?_
    ·rcases A4.1 mx with m | m
     ·exact (evals args ts).2 x m
     ·obtain ⟨c,_,rfl⟩:=A7.1 m
      exact Y8 _
    ·rintro ⟨fn,f1,f2,f3⟩
     have f2' : ¬ fn.name = "runtime.NumGoroutine" := by simpa using f2
     have f3':¬fn.body=none:=fun e=>by rw [e] at f3;simp at f3
     have e1:(args.toList.map a.eval++cs).toArray=args.map a.eval++cs.toArray:=by
      apply Am
      simp
     rw [e1]
     simp [execOp,hop,resolve,hv,Deferred.ofValue,invoke,callFunc,program,Sem.run,f1,f2',f3']
   ·exact h.elim
  ·unfold Yp at h
   split at h
   ·rename_i r hr
    obtain ⟨g',cv,w',hrun,t1,t2,t3,t4,t5,t6⟩:=ZmA (P:=P) (W:=W) (a:=a) htt.tt o hr hH hS hU (hkey key (A9 _) yE)
    unfold Oper.wp
    rcases hrun with hrun | ⟨hrun,rfl⟩
    ·rw [hrun]
     exact ⟨_,ZeE hS hU hdef hh hd t1 t2 t3 t4 t5 t6,Zb2 _ _ _,h⟩
    ·rw [hrun]
     exact ⟨_,ZeE hS hU hdef hh hd t1 t2 t3 t4 t5 t6,Zb2 _ _ _,h⟩
   ·exact h.elim
theorem ZqU [NW] (hI:Inv W U st a w) (d:Option Nat) (hd:∀t,d=some t→t<a.tmps.size∧(W.hv=none∨t≠0)):Inv W (Uk U key) (st.put d .und) (a.put d undef) w:=by
 obtain ⟨⟨g,hH,hS⟩,hU,b,hh⟩:=hI
 exact ZeE (u:=[]) (key:=key) hS hU b hh hd hH rfl (fun _ _ _ h=>h) trivial (fun k=>(hU.ob k).mono fun _=>.inl) (fun k hk=>hU.gone k fun h=>hk (.inl h))
theorem ZmK [NW] (htt:MOk P J JF W tt) {d:Array Oper} {i:Nat} {o:Oper} {K:St→Prop} (ho:d[i]?=some o) (h:opG tt (SC P J JF hs) d.toList key o K st) (hI:Inv W U st a w) (v:∀k,key≤k→k<key+16→¬U k) (hd:∀t,o.dst=some t→t<a.tmps.size∧(W.hv=none∨t≠0)):
  wpOp P d Q i (fun a' w'=>∃st',Inv W (Uk U key) st' a' w'∧a'.tmps.size=a.tmps.size∧K st') a w:=by
 have f:K (st.put o.dst .und)→∃st',Inv W (Uk U key) st' (a.put o.dst undef) w∧(a.put o.dst undef).tmps.size=a.tmps.size∧K st':=fun hK=>⟨_,ZqU hI _ hd,Zb2 _ _ _,hK⟩
 unfold wpOp
 simp only[ho]
 unfold opG QX at h
 cases hg:o.guard with
 | none=>
  rw [hg] at h
  rw [if_pos (by simp [Region.wanted,hg])]
  exact .inl (ZmU htt h hI v hd)
 | some jw=>
  obtain ⟨j,l⟩:=jw
  rw [hg] at h
  simp only at h
  cases hj:(d.toList[j]?).bind (·.dst) with
  | none=>
   rw [hj] at h
   have m:(d[j]?).bind (·.dst)=none:=by simpa using hj
   rw [if_neg (by simp [Region.wanted,hg,yielded,m])]
   exact f h
  | some t=>
   rw [hj] at h
   have m:(d[j]?).bind (·.dst)=some t:=by simpa using hj
   obtain ⟨⟨g,hH,hS⟩,hU,y,hh⟩:=hI
   have u:=hS t
   simp only at h
   unfold gK at h
   split at h
   ·rename_i hb
    have:∃b,st.sl t=.p false [.c (.bool b)]:=by
     unfold QJ at hb
     split at hb
     ·rename_i b he;exact ⟨b,he⟩
     ·simp at hb
    obtain ⟨b,x⟩:=this
    rw [x] at u h
    have hv:=ZeW u
    have hy:yielded d a.tmps j=some b:=by
     unfold yielded
     rw [m,AL]
     have:a.tmps[t]?=some (.bool b):=by
      rw [AB] at hv
      cases he:a.tmps[t]? with
      | none=>rw [he] at hv;simp [undef] at hv
      | some q=>rw [he] at hv;simpa using hv
     rw [this]
    by_cases hw:(b==l)=true
    ·rw [if_pos (show (XB (.p false [.c (.bool b)])==l)=true from hw)] at h
     rw [if_pos (by simpa [Region.wanted,hg,hy] using hw)]
     exact .inl (ZmU htt h ⟨⟨g,hH,hS⟩,hU,y,hh⟩ v hd)
    ·rw [if_neg (show ¬(XB (.p false [.c (.bool b)])==l)=true from hw)] at h
     rw [if_neg (by simpa [Region.wanted,hg,hy] using hw)]
     exact f h
   ·split at h
    ·rename_i hu
     have x:st.sl t=.und:=by
      unfold Zpw at hu
      split at hu
      ·rename_i he;exact he
      ·simp at hu
     rw [x] at u
     have e:a.tmps.getD t undef=undef:=u
     have hy:yielded d a.tmps j=none:=by
      unfold yielded
      rw [m,AL]
      rw [AB] at e
      cases he:a.tmps[t]? with
      | none=>rfl
      | some q=>rw [he] at e;simp at e;rw [e];rfl
     rw [if_neg (by simp [Region.wanted,hg,hy])]
     exact f h
    ·exact h.elim
theorem Zl8 [NW] (htt:MOk P J JF W tt) {b:Array Oper} {N:Nat} (hN:∀o∈b.toList,∀t,o.dst=some t→t<N∧(W.hv=none∨t≠0)) {K:St→Prop}:∀(r:List Oper) (i key:Nat) (U:Nat→Prop) (st:St) (a:Act) (w:World),b.toList.drop i=r→ZY tt (SC P J JF hs) b.toList key r K st→Inv W U st a w→(∀k,key≤k→¬U k)→a.tmps.size=N→
  (∀U' st' a' w',Inv W U' st' a' w'→(∀k,key+16 * r.length≤k→¬U' k)→a'.tmps.size=N→K st'→Q .normal a' w')→wpOps P b Q (AI i r.length) a w
 | [],i,key,U,st,a,w,_,h,hI,hk,hs,hQ=>hQ U st a w hI (by simpa using hk) hs h
 | o::r,i,key,U,st,a,w,hr,h,hI,hk,hs,hQ=>by
  have hi:b.toList[i]?=some o:=by
   have:=congrArg (fun l=>l[0]?) hr
   simpa using this
  have d:b.toList.drop (i+1)=r:=by
   have:=congrArg List.tail hr
   simpa using this
  rw [BC,Ap,wpOps_cons]
  refine wpOp_mono ?_ (ZmK htt (by simpa using hi) h hI (fun k a _=>hk k a) (fun t ht=>by rw [hs];exact hN o (Ar hi) t ht))
  rintro a' w' ⟨st',e,hs',f⟩
  refine Zl8 htt hN r (i+1) (key+16) _ st' a' w' d f e (fun k c hU=>?_) yE (fun U' g a2 w2 h1 h2 h3 h4=>hQ U' g a2 w2 h1 (fun k c=>h2 k (by simp at c;omega)) h3 h4)
  rcases hU with hU | hU
  ·exact hk k yE hU
  ·omega
end
end
section
open Go.RowKit
def Ztk:Option TI→Bool
 | some (.slice _ _ _ z)=>z.all ZiM
 | _=>false
def cls (tt:Nat→Option TI) (hs:FuncId→Nat):Op→Nat
 | .move _=>0
 | .assign _=>0
 | .pick _ _ _=>0
 | .build _ _=>0
 | .nilCheck _=>0
 | .binOp _ _ _ _ _=>0
 | .unOp _ _ _=>0
 | .convert _ t _=>if ZbY (tt t)=true then 1 else 0
 | .slice t _ lo hi _=>if ZbY (tt t)=true then 0 else if lo.isSome&&hi.isNone then 4 else 3
 | .fieldAddr _ _ _=>0
 | .field _ _ _=>0
 | .index _ _ _=>0
 | .extract _ _=>0
 | .alloc _=>1
 | .box _ _=>1
 | .load _ _=>1
 | .makeMap _ _=>1
 | .lookup _ _ _ _=>1
 | .makeSlice _ _ _=>1
 | .indexAddr _ _ _=>1
 | .buildSlice t _ ps=>if ps.size=0∨Ztk (tt t)=true then 2 else 3
 | .call ⟨.builtin .len,_,_⟩=>1
 | .call ⟨.builtin .max,_,_⟩=>0
 | .call ⟨.builtin .min,_,_⟩=>0
 | .call ⟨.value (.func f),_,_⟩=>if hs f=0∨hs f=4 then 1 else 4
 | _=>4
section
variable {P:Program} {W:QK} {U:Nat→Prop} {key:Nat} {st st':St} {w w':World} {a:Act} {tt:Nat→Option TI} {S:Ctx} {Q:Exit→Act→World→Prop}
def Q5 (tt:Nat→Option TI) (S:Ctx) (key:Nat) (o:Oper) (st:St) (v:SV) (u:List (Nat × Ob)):Prop:=
 match Yx o.op with
 | some c=>Zaz S c.1 (S.hd c.1) key st (evs tt st c.2.1 c.2.2) v u
 | none=>match YP o.op with
  | some c=>∃fc,ZmF (st.sl c.1)=some fc∧S.hd fc.1=0∧Zaz S fc.1 0 key st (evs tt st c.2.1 c.2.2++fc.2.map Zi8) v u
  | none=>opE tt key o st=some (v,u)
def opR (tt:Nat→Option TI) (S:Ctx) (all:List Oper) (key:Nat) (o:Oper) (st:St) (v:SV) (u:List (Nat × Ob)):Prop:=
 match QX all o with
 | none=>Q5 tt S key o st v u
 | some (none,_)=>v=.und∧u=[]
 | some (some t,want)=>gK (st.sl t) want (Q5 tt S key o st v u) (v=.und∧u=[])
theorem Zrl [NW] {o:Oper} {K:St→Prop}:opS tt S key o K st↔∃v u,Q5 tt S key o st v u∧K ((st.put o.dst v).app u):=by
 cases hc:Yx o.op with
 | some c=>
  simp only[opS,Q5,hc]
  exact ZjD
 | none=>
  simp only[opS,Q5,hc]
  cases hd:YP o.op with
  | some c=>
   simp only
   constructor
   ·intro h
    unfold Yp at h
    split at h
    ·rename_i fc a
     obtain ⟨h0,h⟩:=h
     obtain ⟨v,u,h1,h2⟩:=ZjD.1 h
     exact ⟨v,u,⟨fc,a,h0,h1⟩,h2⟩
    ·exact h.elim
   ·rintro ⟨v,u,⟨fc,a,h0,h1⟩,h2⟩
    rw [a]
    exact ⟨h0,ZjD.2 ⟨v,u,h1,h2⟩⟩
  | none=>
   simp only
   constructor
   ·intro h
    unfold Yp at h
    split at h
    ·rename_i r hr
     exact ⟨r.1,r.2,hr,h⟩
    ·exact h.elim
   ·rintro ⟨v,u,h1,h2⟩
    rw [h1]
    exact h2
theorem Zgn [NW] {all:List Oper} {o:Oper} {K:St→Prop}:opG tt S all key o K st↔∃v u,opR tt S all key o st v u∧K ((st.put o.dst v).app u):=by
 have a:K (st.put o.dst .und)↔∃v u,(v=SV.und∧u=[])∧K ((st.put o.dst v).app u):=by
  constructor
  ·intro h;exact ⟨.und,[],⟨rfl,rfl⟩,h⟩
  ·rintro ⟨v,u,⟨rfl,rfl⟩,h⟩;exact h
 cases hg:QX all o with
 | none=>simp only[opG,opR,hg];exact Zrl
 | some q=>
  obtain ⟨q,b⟩:=q
  cases q with
  | none=>simp only[opG,opR,hg];exact a
  | some t=>
   simp only[opG,opR,hg,gK]
   by_cases h1:QJ (st.sl t)=true
   ·by_cases h2:(XB (st.sl t)==b)=true
    ·simp only[h1,h2,if_true];exact Zrl
    ·simp only[h1,h2,if_true,if_false];exact a
   ·by_cases h2:Zpw (st.sl t)=true
    ·simp only[h1,h2,if_true,if_false];exact a
    ·simp only[h1,h2,if_false];simp
theorem Zcy [NW] {ts:List TypeId} {xs:List Operand} (h:∀x∈xs,∀t,st.ev tt t x=st'.ev tt t x):evs tt st ts xs=evs tt st' ts xs:=by
 unfold evs
 refine AU fun p hp=>h p.2 ?_ p.1
 rw [←Zed ts xs]
 exact A7.2 ⟨p,hp,rfl⟩
def Wk (st st':St) (U:Nat→Prop):Prop:=∀k,U k→st'.ob k=st.ob k∨st'.ob k=Z4 (st.ob k)
theorem Wk.of (h:∀k,U k→st.ob k=st'.ob k):Wk st st' U:=fun k hk=>.inl (h k hk).symm
theorem ZfC (a:Wk st st' U):∀{xs:List AV},X6 U xs→Yq st xs=Yq st' xs
 | [],_=>rfl
 | x::r,h=>by
  have hx:Zbc st x=Zbc st' x:=by
   cases x with
   | row k=>
    simp only[Zbc]
    rcases a k (h (.row k) yG) with e | e
    ·rw [e]
    ·rw [e];cases st.ob k<;>rfl
   | _=>rfl
  have hr:=ZfC a (xs:=r) (fun y m=>h y (by simp [m]))
  simp only[Yq,hx,hr]
theorem Zdv [NW] (a:Wk st st' U):∀{xs:List SV},(∀x∈xs,svU U x)→ZT st xs=ZT st' xs
 | [],_=>rfl
 | x::r,h=>by
  have hx:Zcd st x=Zcd st' x:=by
   cases x with
   | p ag cs=>simp only[Zcd,ZfC a (h (.p ag cs) yG)]
   | _=>rfl
  have hr:=Zdv a (xs:=r) (fun y m=>h y (by simp [m]))
  simp only[ZT,hx,hr]
theorem Zp7 (hob:Wk st st' U) {t:Option TI} {x:SV} (hx:svU U x):Qa st t x=Qa st' t x:=by
 cases x with
 | bp k off=>
  simp only[Qa]
  rcases hob k hx with e | e
  ·rw [e]
  ·rw [e];cases st.ob k<;>rfl
 | rp k m i off=>
  simp only[Qa]
  rcases hob k hx with e | e
  ·rw [e]
  ·rw [e];cases st.ob k<;>rfl
 | p ag cs=>cases ag with
  | true=>rfl
  | false=>cases cs with
   | nil=>rfl
   | cons y r=>cases r<;>cases y<;>first | rfl | (rename_i z;cases z<;>rfl) | (rename_i z _ _;cases z<;>rfl)
 | _=>rfl
theorem Zsd (a:Wk st st' U) {t:Option TI} {x:SV} (hx:svU U x):ZlW st t x=ZlW st' t x:=by
 unfold ZlW
 split<;>try rfl
 rename_i k
 rcases a k (hx (.row k) yG) with e | e
 ·rw [e]
 ·rw [e];cases st.ob k<;>rfl
theorem Zn2 (a:Wk st st' U) {m:Nat} {x i:SV} (hx:svU U x):Za9 st m x i=Za9 st' m x i:=by
 unfold Za9
 split<;>try rfl
 rename_i k _ _
 rcases a k (hx (.row k) yG) with e | e
 ·rw [e]
 ·rw [e];cases st.ob k<;>rfl
theorem Zsg (a:st.ob=st'.ob) (x:SV):Zhy st x=Zhy st' x:=by
 unfold Zhy
 rw [a]
theorem ZkP [NW] (a:st.ob=st'.ob):∀xs:List SV,ZdD st xs=ZdD st' xs
 | []=>rfl
 | x::r=>by simp only[ZdD,Zsg a x,ZkP a r]
theorem Zqi (a:Wk st st' U) {t:Option TI} {x i:SV} {ok:Bool} (hx:svU U x):Zfb st t x i ok=Zfb st' t x i ok:=by
 unfold Zfb
 split<;>try rfl
 rename_i k
 rcases a k (hx (.row k) yG) with e | e
 ·rw [e]
 ·rw [e];cases st.ob k<;>rfl
theorem ZqC (a:Wk st st' U) {x:SV} (hx:svU U x):ZgV st x=ZgV st' x:=by
 unfold ZgV
 split<;>try rfl
 rename_i k
 rcases a k (hx (.row k) yG) with e | e
 ·rw [e]
 ·rw [e];cases st.ob k<;>rfl
theorem Zqp [NW] (a:Wk st st' U) {s t:Nat} {x:SV} (hx:svU U x):ZfG tt st s t x=ZfG tt st' s t x:=by
 unfold ZfG
 rw [ZqC a hx]
def Mk (st st':St) (U:Nat→Prop):Prop:=∀k,U k→st'.ob k=st.ob k∨st'.ob k=.gone
theorem Zja (c:Mk st st' U):∀{xs:List AV} {r:List CT},X6 U xs→Yq st' xs=some r→Yq st xs=some r
 | [],_,_,h=>h
 | x::xs,r,hu,h=>by
  simp only[Yq] at h ⊢
  obtain ⟨a,h1,h⟩:=A5.1 h
  obtain ⟨b,h2,rfl⟩:=A3.1 h
  have hx:Zbc st x=some a:=by
   cases x with
   | row k=>
    simp only[Zbc] at h1 ⊢
    rcases c k (hu (.row k) yG) with e | e
    ·rwa [e] at h1
    ·rw [e] at h1;simp at h1
   | _=>exact h1
  rw [hx,AL,Zja c (fun y m=>hu y (by simp [m])) h2]
  rfl
theorem Zfx [NW] (c:Mk st st' U):∀{xs:List SV} {r:List (Bool × List CT)},(∀x∈xs,svU U x)→ZT st' xs=some r→ZT st xs=some r
 | [],_,_,h=>h
 | x::xs,r,hu,h=>by
  simp only[ZT] at h ⊢
  obtain ⟨a,h1,h⟩:=A5.1 h
  obtain ⟨b,h2,rfl⟩:=A3.1 h
  have hx:Zcd st x=some a:=by
   cases x with
   | p ag cs=>
    simp only[Zcd] at h1 ⊢
    obtain ⟨l,h3,rfl⟩:=A3.1 h1
    rw [Zja c (hu (.p ag cs) yG) h3]
    rfl
   | _=>exact h1
  rw [hx,AL,Zfx c (fun y m=>hu y (by simp [m])) h2]
  rfl
theorem Zqx (hob:Mk st st' U) {t:Option TI} {x r:SV} (hx:svU U x) (h:Qa st' t x=some r):Qa st t x=some r:=by
 cases x with
 | bp k off=>
  simp only[Qa] at h ⊢
  rcases hob k hx with e | e
  ·rwa [e] at h
  ·rw [e] at h;simp at h
 | rp k m i off=>
  simp only[Qa] at h ⊢
  rcases hob k hx with e | e
  ·rwa [e] at h
  ·rw [e] at h;simp at h
 | p ag cs=>cases ag with
  | true=>exact h
  | false=>cases cs with
   | nil=>exact h
   | cons y r=>cases r<;>cases y<;>first | exact h | (rename_i z;cases z<;>exact h) | (rename_i z _ _;cases z<;>exact h)
 | _=>exact h
theorem Zsk (a:Mk st st' U) {t:Option TI} {x r:SV} (hx:svU U x) (h:ZlW st' t x=some r):ZlW st t x=some r:=by
 unfold ZlW at h ⊢
 split at h<;>try exact h
 rename_i k
 rcases a k (hx (.row k) yG) with e | e
 ·rwa [e] at h
 ·rw [e] at h;simp at h
theorem Znv (a:Mk st st' U) {m:Nat} {x i r:SV} (hx:svU U x) (h:Za9 st' m x i=some r):Za9 st m x i=some r:=by
 unfold Za9 at h ⊢
 split at h<;>try exact h
 rename_i k _ _
 rcases a k (hx (.row k) yG) with e | e
 ·rwa [e] at h
 ·rw [e] at h;simp at h
theorem Zp4 (a:Mk st st' U) {t:Option TI} {x i r:SV} {ok:Bool} (hx:svU U x) (h:Zfb st' t x i ok=some r):Zfb st t x i ok=some r:=by
 unfold Zfb at h ⊢
 split at h<;>try exact h
 rename_i k
 rcases a k (hx (.row k) yG) with e | e
 ·rwa [e] at h
 ·rw [e] at h;simp at h
theorem ZqG (a:Mk st st' U) {x r:SV} (hx:svU U x) (h:ZgV st' x=some r):ZgV st x=some r:=by
 unfold ZgV at h ⊢
 split at h<;>try exact h
 rename_i k
 rcases a k (hx (.row k) yG) with e | e
 ·rwa [e] at h
 ·rw [e] at h;simp at h
theorem Zm0 [NW] {o:Oper} {sl sl':Nat→SV} {ob:Nat→Ob} {n n':Nat} (hl:∀x∈o.op.operands,∀t,St.ev tt ⟨sl,ob,n⟩ t x=St.ev tt ⟨sl',ob,n'⟩ t x):opE tt key o ⟨sl,ob,n⟩=opE tt key o ⟨sl',ob,n'⟩:=by
 obtain ⟨dst,op,ty,pos,af,gd⟩:=o
 cases op with
 | build t parts=>
  have hp:∀fs z,parts.toList.map (Ze5 tt ⟨sl,ob,n⟩ fs z)=parts.toList.map (Ze5 tt ⟨sl',ob,n'⟩ fs z):=fun fs z=>AU fun p hp=>by
   have:=hl p.2 (by simp [Op.operands];exact ⟨p.1,by simpa using hp⟩) 0
   unfold Ze5
   split
   ·rfl
   ·rw [this]
  simp only[opE,hp]
 | buildSlice t len parts=>
  have hp:∀e,(parts.toList.map fun p=>St.ev tt ⟨sl,ob,n⟩ e p.2)=parts.toList.map fun p=>St.ev tt ⟨sl',ob,n'⟩ e p.2:=fun e=>AU fun p hp=>hl p.2 (by simp [Op.operands];exact ⟨p.1,by simpa using hp⟩) e
  have he:∀m l,YL ⟨sl,ob,n⟩ m l=YL ⟨sl',ob,n'⟩ m l:=fun m l=>by
   have h1:∀x,avT ⟨sl,ob,n⟩ x=avT ⟨sl',ob,n'⟩ x:=fun x=>by cases x<;>rfl
   have h2:∀xs,Ze6 ⟨sl,ob,n⟩ xs=Ze6 ⟨sl',ob,n'⟩ xs:=fun xs=>by
    induction xs with
    | nil=>rfl
    | cons x xs ih=>simp only[Ze6,h1,ih]
   induction l with
   | nil=>rfl
   | cons x xs ih=>cases x<;>simp only[YL,h2,ih]
  have hz:∀ks,ZO ⟨sl,ob,n⟩ ks=ZO ⟨sl',ob,n'⟩ ks:=fun ks=>by
   induction ks with
   | nil=>rfl
   | cons k r ih=>simp only[ZO,ih]
  simp only[opE,hp,he,hz]
 | slice t x lo hi mx=>
  simp only[Op.operands] at hl
  cases mx with
  | some _=>rfl
  | none=>
   have hx:=fun t=>hl x (by simp) t
   cases lo with
   | none=>cases hi with
    | none=>simp only[opE,hx,AN];rfl
    | some h=>have hh:=fun t=>hl h (by simp) t;simp only[opE,hx,hh,AN,AD];rfl
   | some l=>
    have hlo:=fun t=>hl l (by simp) t
    cases hi with
    | none=>simp only[opE,hx,hlo,AN,AD];rfl
    | some h=>have hh:=fun t=>hl h (by simp) t;simp only[opE,hx,hlo,hh,AD];rfl
 | call c=>
  obtain ⟨callee,args,ts⟩:=c
  cases callee with
  | builtin b=>
   have:=Zcy (tt:=tt) (st:=⟨sl,ob,n⟩) (st':=⟨sl',ob,n'⟩) (ts:=ts.toList) (xs:=args.toList) (fun x m t=>hl x (by simp [Op.operands,Call.operands];simpa using m) t)
   simp only[opE,this]
   unfold Zet
   split<;>rfl
  | value f=>rfl
  | invoke r m=>rfl
 | move x=>have:=fun t=>hl x (by simp [Op.operands]) t;simp only[opE,this]
 | assign x=>have:=fun t=>hl x (by simp [Op.operands]) t;simp only[opE,this]
 | pick c x y=>have h1:=fun t=>hl c (by simp [Op.operands]) t;have h2:=fun t=>hl x (by simp [Op.operands]) t;have h3:=fun t=>hl y (by simp [Op.operands]) t;simp only[opE,h1,h2,h3]
 | alloc t=>rfl
 | box t x=>have:=fun t=>hl x (by simp [Op.operands]) t;simp only[opE,this]
 | load t x=>have:=fun t=>hl x (by simp [Op.operands]) t;simp only[opE,this];rfl
 | store t x v=>have h1:=fun t=>hl x (by simp [Op.operands]) t;have h2:=fun t=>hl v (by simp [Op.operands]) t;simp only[opE,h1,h2];rfl
 | nilCheck x=>have:=fun t=>hl x (by simp [Op.operands]) t;simp only[opE,this]
 | binOp op t x y t'=>have h1:=fun t=>hl x (by simp [Op.operands]) t;have h2:=fun t=>hl y (by simp [Op.operands]) t;simp only[opE,h1,h2]
 | unOp op t x=>have:=fun t=>hl x (by simp [Op.operands]) t;simp only[opE,this]
 | convert s t x=>have:=fun t=>hl x (by simp [Op.operands]) t;simp only[opE,this];rfl
 | makeFunc fn first caps=>
  cases fn with
  | func f=>
   have hc:caps.toList.map (St.ev tt ⟨sl,ob,n⟩ 0)=caps.toList.map (St.ev tt ⟨sl',ob,n'⟩ 0):=AU fun x hx=>hl x (by simp [Op.operands];exact .inr (by simpa using hx)) 0
   simp only[opE,hc,ZkP (st:=⟨sl,ob,n⟩) (st':=⟨sl',ob,n'⟩) rfl]
  | _=>rfl
 | makeMap t r=>cases r<;>rfl
 | lookup t x i ok=>have h1:=fun t=>hl x (by simp [Op.operands]) t;have h2:=fun t=>hl i (by simp [Op.operands]) t;simp only[opE,h1,h2];rfl
 | mapUpdate t x i v=>have h1:=fun t=>hl x (by simp [Op.operands]) t;have h2:=fun t=>hl i (by simp [Op.operands]) t;have h3:=fun t=>hl v (by simp [Op.operands]) t;simp only[opE,h1,h2,h3];rfl
 | makeSlice t x y=>have h1:=fun t=>hl x (by simp [Op.operands]) t;have h2:=fun t=>hl y (by simp [Op.operands]) t;simp only[opE,h1,h2]
 | fieldAddr t x f=>have:=fun t=>hl x (by simp [Op.operands]) t;simp only[opE,this]
 | field t x f=>have:=fun t=>hl x (by simp [Op.operands]) t;simp only[opE,this]
 | indexAddr t x y=>have h1:=fun t=>hl x (by simp [Op.operands]) t;have h2:=fun t=>hl y (by simp [Op.operands]) t;simp only[opE,h1,h2];rfl
 | index t x y=>have h1:=fun t=>hl x (by simp [Op.operands]) t;have h2:=fun t=>hl y (by simp [Op.operands]) t;simp only[opE,h1,h2]
 | extract x i=>have:=fun t=>hl x (by simp [Op.operands]) t;simp only[opE,this]
 | _=>rfl
theorem Zq5 (sl:Nat→SV) (ob ob':Nat→Ob) (n n' t:Nat) (x:Operand):St.ev tt ⟨sl,ob,n⟩ t x=St.ev tt ⟨sl,ob',n'⟩ t x:=by cases x<;>rfl
theorem ZtQ {st st':St} (h:∀k,U k→st.ob k=st'.ob k) {x:AV} (hx:avU U x):avT st x=avT st' x:=by
 cases x with
 | row k=>simp only[avT];rw [h k hx]
 | c x=>cases x<;>rfl
 | nil e m=>rfl
 | n x=>rfl
 | dead=>rfl
theorem ZmZ [NW] {st st':St} (h:∀k,U k→st.ob k=st'.ob k):∀{xs:List AV},X6 U xs→Ze6 st xs=Ze6 st' xs
 | [],_=>rfl
 | x::r,hx=>by simp only[Ze6];rw [ZtQ h (hx x yG),ZmZ h fun y m=>hx y (by simp [m])]
theorem ZiQ [NW] {st st':St} {m:Nat} (h:∀k,U k→st.ob k=st'.ob k):∀{xs:List SV},(∀v∈xs,svU U v)→YL st m xs=YL st' m xs
 | [],_=>rfl
 | .p a cs::r,hx=>by
  simp only[YL]
  rw [ZmZ h (hx (.p a cs) yG),ZiQ h fun v mv=>hx v (by simp [mv])]
 | .any::r,_=>rfl
 | .und::r,_=>rfl
 | .tup _::r,_=>rfl
 | .bp _ _::r,_=>rfl
 | .rp _ _ _ _::r,_=>rfl
 | .ep _ _::r,_=>rfl
 | .fn _::r,_=>rfl
theorem ZrR {x:AV} {ct:CT} {ks:List Nat} {d:Nat} (h:avT st x=some (ct,ks,d)) (hx:avU U x):∀k∈ks,U k:=by
 intro k mk
 cases x with
 | c y=>cases y<;>simp only[avT,A0,A6] at h<;>(rw [←h.2.1] at mk;simp at mk)
 | nil e m=>
  simp only[avT] at h
  split at h<;>simp only[A0,A6,reduceCtorEq] at h
  rw [←h.2.1] at mk;simp at mk
 | row j=>
  simp only[avT] at h
  split at h
  ·split at h<;>simp only[A0,A6] at h
   ·rw [←h.2.1] at mk;simp at mk
   ·rw [←h.2.1] at mk;simp at mk;subst mk;exact hx
  ·simp at h
 | n x=>simp [avT] at h
 | dead=>simp [avT] at h
theorem ZkM [NW]:∀{xs:List AV} {cts:List CT} {ks:List Nat} {d:Nat},Ze6 st xs=some (cts,ks,d)→X6 U xs→∀k∈ks,U k
 | [],_,_,_,h,_,k,mk=>by simp only[Ze6,A0,A6] at h;rw [←h.2.1] at mk;simp at mk
 | x::r,_,_,_,h,hu,k,mk=>by
  simp only[Ze6] at h
  obtain ⟨⟨c1,k1,d1⟩,h1,h⟩:=A5.1 h
  obtain ⟨⟨c2,k2,d2⟩,h2,h⟩:=A3.1 h
  simp only[A6] at h
  rw [←h.2.1] at mk
  rcases A4.1 mk with mk | mk
  ·exact ZrR h1 (hu x yG) k mk
  ·exact ZkM h2 (fun y my=>hu y (by simp [my])) k mk
theorem ZeS [NW] {m:Nat}:∀{xs:List SV} {es:List (List CT)} {ks:List Nat} {d:Nat},YL st m xs=some (es,ks,d)→(∀v∈xs,svU U v)→∀k∈ks,U k
 | [],_,_,_,h,_,k,mk=>by simp only[YL,A0,A6] at h;rw [←h.2.1] at mk;simp at mk
 | x::r,_,_,_,h,hu,k,mk=>by
  cases x with
  | p a cs=>
   simp only[YL] at h
   split at h
   ·obtain ⟨⟨c1,k1,d1⟩,h1,h⟩:=A5.1 h
    obtain ⟨⟨c2,k2,d2⟩,h2,h⟩:=A3.1 h
    simp only[A6] at h
    rw [←h.2.1] at mk
    rcases A4.1 mk with mk | mk
    ·exact ZkM h1 (hu (.p a cs) yG) k mk
    ·exact ZeS h2 (fun v mv=>hu v (by simp [mv])) k mk
   ·simp at h
  | _=>simp [YL] at h
theorem ZpM {st st':St} {ks:List Nat} (h:∀k∈ks,st.ob k=st'.ob k):ZO st ks=ZO st' ks:=by
 induction ks with
 | nil=>rfl
 | cons k r ih=>simp only[ZO,h k yG,ih fun j mj=>h j (by simp [mj])]
theorem ZjV {ks:List Nat} {p:Nat × Ob} (h:p∈ZO st ks):p.1∈ks∧p.2=Z4 (st.ob p.1):=by
 induction ks with
 | nil=>simp [ZO] at h
 | cons k r ih=>
  simp only[ZO,A8] at h
  rcases h with rfl | h
  ·exact ⟨yG,rfl⟩
  ·exact ⟨by simp [(ih h).1],(ih h).2⟩
theorem ZjE [NW] {hs:FuncId→Nat} {o:Oper} {sl:Nat→SV} {ob ob':Nat→Ob} {n n':Nat} (h:cls tt hs o.op=0∨(cls tt hs o.op≤3∧(∀k,U k→ob k=ob' k)∧∀t x,svU U (St.ev tt ⟨sl,ob,n⟩ t x))∨(cls tt hs o.op≤1∧Wk ⟨sl,ob,n⟩ ⟨sl,ob',n'⟩ U∧∀t x,svU U (St.ev tt ⟨sl,ob,n⟩ t x))):opE tt key o ⟨sl,ob,n⟩=opE tt key o ⟨sl,ob',n'⟩:=by
 have he:=fun t x=>Zq5 (tt:=tt) sl ob ob' n n' t x
 have hle:cls tt hs o.op≤3:=by rcases h with h | h | h<;>omega
 have hwk:cls tt hs o.op=0∨(Wk ⟨sl,ob,n⟩ ⟨sl,ob',n'⟩ U∧∀t x,svU U (St.ev tt ⟨sl,ob',n'⟩ t x)):=by
  rcases h with h | h | h
  ·exact .inl h
  ·exact .inr ⟨fun k hk=>.inl (h.2.1 k hk).symm,fun t x=>he t x ▸ h.2.2 t x⟩
  ·exact .inr ⟨h.2.1,fun t x=>he t x ▸ h.2.2 t x⟩
 obtain ⟨dst,op,ty,pos,af,gd⟩:=o
 cases op with
 | build t parts=>
  have hp:∀fs z,parts.toList.map (Ze5 tt ⟨sl,ob,n⟩ fs z)=parts.toList.map (Ze5 tt ⟨sl,ob',n'⟩ fs z):=fun fs z=>AU fun p hp=>by
   unfold Ze5
   split
   ·rfl
   ·rw [he]
  simp only[opE,hp]
 | buildSlice t len parts=>
  have hc:2≤cls tt hs (.buildSlice t len parts):=by simp only[cls];split<;>omega
  have h':(∀k,U k→ob k=ob' k)∧∀t x,svU U (St.ev tt ⟨sl,ob,n⟩ t x):=by
   rcases h with h | h | h
   ·simp only at h;omega
   ·exact h.2
   ·simp only at h;omega
  obtain ⟨h1,h2⟩:=h'
  simp only[opE,he]
  split
  ·rename_i e m _ z _
   have hu:∀v∈parts.toList.map (fun p=>St.ev tt ⟨sl,ob',n'⟩ e p.2),svU U v:=fun v mv=>by obtain ⟨p,_,rfl⟩:=A7.1 mv;rw [←he];exact h2 _ _
   rw [ZiQ (U:=U) (st:=⟨sl,ob,n⟩) (st':=⟨sl,ob',n'⟩) h1 hu]
   cases hel:YL ⟨sl,ob',n'⟩ m (parts.toList.map fun p=>St.ev tt ⟨sl,ob',n'⟩ e p.2) with
   | none=>rfl
   | some a=>
    have hk:=ZeS (U:=U) hel hu
    have:=ZpM (st:=⟨sl,ob,n⟩) (st':=⟨sl,ob',n'⟩) (ks:=a.2.1) (fun k mk=>h1 k (hk k mk))
    simp only[AL,this]
  ·rfl
 | load t x=>
  obtain ⟨h1,h2⟩:=hwk.resolve_left (by simp [cls])
  simp only[opE,he]
  rw [Zp7 (U:=U) (st:=⟨sl,ob,n⟩) (st':=⟨sl,ob',n'⟩) h1 (h2 0 x)]
 | indexAddr t x y=>
  obtain ⟨h1,h2⟩:=hwk.resolve_left (by simp [cls])
  simp only[opE,he]
  split
  ·rw [Zn2 (U:=U) (st:=⟨sl,ob,n⟩) (st':=⟨sl,ob',n'⟩) h1 (h2 0 x)]
  ·rfl
 | call c=>
  obtain ⟨callee,args,ts⟩:=c
  cases callee with
  | builtin b=>
   have hev:evs tt ⟨sl,ob,n⟩ ts.toList args.toList=evs tt ⟨sl,ob',n'⟩ ts.toList args.toList:=Zcy fun x _ t=>he t x
   simp only[opE,hev]
   unfold Zet
   split
   ·rename_i t _ v he1 he2
    obtain ⟨h1,h2⟩:=hwk.resolve_left (by simp [cls])
    have hu:svU U v:=by
     have hm:v∈evs tt ⟨sl,ob',n'⟩ ts.toList args.toList:=by simp [he2]
     obtain ⟨p,_,rfl⟩:=A7.1 hm
     exact h2 _ _
    rw [Zsd (U:=U) (st:=⟨sl,ob,n⟩) (st':=⟨sl,ob',n'⟩) h1 hu]
   ·simp [cls] at hle
   ·rfl
   ·rfl
   ·rfl
  | value f=>rfl
  | invoke r m=>rfl
 | store t x v=>simp [cls] at hle
 | makeFunc fn first caps=>simp [cls] at hle
 | mapUpdate t x i v=>simp [cls] at hle
 | makeMap t r=>cases r<;>rfl
 | lookup t x i ok=>
  obtain ⟨h1,h2⟩:=hwk.resolve_left (by simp [cls])
  simp only[opE,he]
  rw [Zqi (U:=U) (st:=⟨sl,ob,n⟩) (st':=⟨sl,ob',n'⟩) h1 (h2 0 x)]
 | convert s t x=>
  simp only[opE,he]
  by_cases hst:ZbY (tt t)=true
  ·obtain ⟨h1,h2⟩:=hwk.resolve_left (by simp [cls,hst])
   rw [Zqp (U:=U) (st:=⟨sl,ob,n⟩) (st':=⟨sl,ob',n'⟩) h1 (h2 0 x)]
  ·have e:∀st:St,ZfG tt st s t (St.ev tt ⟨sl,ob',n'⟩ 0 x)=ZoY (tt s) (tt t) (St.ev tt ⟨sl,ob',n'⟩ 0 x):=fun st=>by
    unfold ZfG
    rw [if_neg (by simp [hst])]
   rw [e,e]
 | slice t x lo hi mx=>
  cases mx with
  | some _=>rfl
  | none=>
   by_cases hstr:ZbY (tt t)=true
   ·have hns:Za2 (tt t)=false:=by
     unfold ZbY at hstr
     split at hstr
     ·rename_i e;rw [e];rfl
     ·simp at hstr
    have hu:∀l h v,Qi ⟨sl,ob,n⟩ key (tt t) l h v=Qi ⟨sl,ob',n'⟩ key (tt t) l h v:=fun l h v=>by
     unfold Qi
     split
     ·simp [hns]
     ·rfl
     ·rfl
    cases lo<;>cases hi<;>simp only[opE,he,AN,AD,hu]
   ·have hc:2<cls tt hs (.slice t x lo hi none):=by simp only[cls];rw [if_neg hstr];split<;>omega
    have h':(∀k,U k→ob k=ob' k)∧∀t x,svU U (St.ev tt ⟨sl,ob,n⟩ t x):=by
     rcases h with h | h | h
     ·simp only at h;omega
     ·exact h.2
     ·simp only at h;omega
    obtain ⟨h1,h2⟩:=h'
    have hu:∀l h v,svU U v→Qi ⟨sl,ob,n⟩ key (tt t) l h v=Qi ⟨sl,ob',n'⟩ key (tt t) l h v:=fun l h v hv=>by
     unfold Qi
     split
     ·rename_i k
      have hk:U k:=hv (.row k) (by simp)
      simp only[h1 k hk]
     ·rfl
     ·rfl
    simp only[opE,he]
    exact hu _ _ _ (he 0 x ▸ h2 0 x)
 | _=>first | rfl | simp only[opE,he]
theorem Zdk {x y:Option SV} {r:SV × List (Nat × Ob)} (h:∀v,x=some v→y=some v) (hx:Zay x=some r):Zay y=some r:=by
 obtain ⟨v,h1,rfl⟩:=A3.1 hx
 rw [h v h1]
 rfl
theorem ZsV [NW] {hs:FuncId→Nat} {o:Oper} {sl:Nat→SV} {ob ob':Nat→Ob} {n n':Nat} {r:SV × List (Nat × Ob)} (hc:cls tt hs o.op≤1) (hob:Mk ⟨sl,ob,n⟩ ⟨sl,ob',n'⟩ U) (hu:∀t x,svU U (St.ev tt ⟨sl,ob,n⟩ t x)) (h:opE tt key o ⟨sl,ob',n'⟩=some r):opE tt key o ⟨sl,ob,n⟩=some r:=by
 have he:=fun t x=>Zq5 (tt:=tt) sl ob ob' n n' t x
 by_cases h0:cls tt hs o.op=0
 ·rw [ZjE (U:=U) (n':=n') (ob':=ob') (.inl h0)];exact h
 obtain ⟨dst,op,ty,pos,af,gd⟩:=o
 cases op with
 | load t x=>
  simp only[opE,he] at h ⊢
  exact Zdk (fun v hv=>Zqx hob (he 0 x ▸ hu 0 x) hv) h
 | indexAddr t x y=>
  simp only[opE,he] at h ⊢
  split at h
  ·exact Zdk (fun v hv=>Znv hob (he 0 x ▸ hu 0 x) hv) h
  ·simp at h
 | lookup t x i ok=>
  simp only[opE,he] at h ⊢
  exact Zdk (fun v hv=>Zp4 hob (he 0 x ▸ hu 0 x) hv) h
 | convert s t x=>
  simp only[opE,he] at h ⊢
  refine Zdk (fun v hv=>?_) h
  unfold ZfG at hv ⊢
  split at hv
  ·rename_i hb
   rw [if_pos hb]
   exact ZqG hob (he 0 x ▸ hu 0 x) hv
  ·rename_i hb
   rw [if_neg hb]
   exact hv
 | call c=>
  obtain ⟨callee,args,ts⟩:=c
  cases callee with
  | builtin b=>
   have hev:evs tt ⟨sl,ob,n⟩ ts.toList args.toList=evs tt ⟨sl,ob',n'⟩ ts.toList args.toList:=Zcy fun x _ t=>he t x
   simp only[opE,hev] at h ⊢
   unfold Zet at h ⊢
   split at h
   ·rename_i t _ v he1 he2
    have hu':svU U v:=by
     have hm:v∈evs tt ⟨sl,ob',n'⟩ ts.toList args.toList:=by simp [he2]
     obtain ⟨p,_,rfl⟩:=A7.1 hm
     rw [←he];exact hu _ _
    exact Zdk (fun w hw=>Zsk hob hu' hw) h
   ·simp [cls] at hc
   ·exact h
   ·exact h
   ·exact h
  | value f=>exact h
  | invoke r m=>exact h
 | slice t x lo hi mx=>simp only[cls] at hc h0;split at hc<;>rename_i hq<;>simp [hq] at h0<;>(split at hc<;>omega)
 | buildSlice t len parts=>simp only[cls] at hc;split at hc<;>omega
 | store t x v=>simp [cls] at hc
 | makeFunc fn first caps=>simp [cls] at hc
 | mapUpdate t x i v=>simp [cls] at hc
 | makeMap t r=>cases r<;>exact h
 | _=>first | exact h | (simp only[opE,he] at h ⊢;exact h)
theorem Yo:∀(cts:List (Bool × CT)) (key:Nat),key≤(Z3 key cts).2.2∧∀p∈(Z3 key cts).2.1,key≤p.1∧p.1<(Z3 key cts).2.2
 | [],key=>by simp [Z3]
 | (true,x)::r,key=>Yo r key
 | (false,ct)::r,key=>by
  cases ct with
  | sl e m xs=>
   obtain ⟨h1,h2⟩:=Yo r (key+1)
   refine ⟨by simp only[Z3];omega,fun p hp=>?_⟩
   simp only[Z3,A8] at hp ⊢
   rcases hp with rfl | hp
   ·exact ⟨A9 _,by simp only;omega⟩
   ·have:=h2 p hp;omega
  | int k n=>exact Yo r key
  | bool b=>exact Yo r key
  | str s=>exact Yo r key
  | ifc s=>exact Yo r key
  | any=>exact Yo r key
  | nl a b=>exact Yo r key
  | pt s=>exact Yo r key
  | fn f s=>exact Yo r key
  | mp a b s=>exact Yo r key
theorem ZfE [NW]:∀(a:List RT) (key:Nat),key≤(ZE key a).2.2∧∀p∈(ZE key a).2.1,key≤p.1∧p.1<(ZE key a).2.2
 | [],key=>by simp [ZE]
 | x::r,key=>by
  obtain ⟨h1,h2⟩:=Yo x.2 key
  obtain ⟨h3,h4⟩:=ZfE r (Z3 key x.2).2.2
  refine ⟨by simp only[ZE];omega,fun p hp=>?_⟩
  simp only[ZE,A4] at hp ⊢
  rcases hp with hp | hp
  ·have:=h2 p hp;omega
  ·have:=h4 p hp;omega
theorem YK {v:Option SV} {r:SV × List (Nat × Ob)} (h:Zay v=some r):r.2=[]:=by
 obtain ⟨u,_,rfl⟩:=A3.1 h;rfl
theorem Ztm [NW] {hs:FuncId→Nat} {o:Oper} {r:SV × List (Nat × Ob)} (hU:∀t x,svU U (st.ev tt t x)) (h:opE tt key o st=some r):(cls tt hs o.op=0→r.2=[])∧(cls tt hs o.op≤2→∀p∈r.2,key≤p.1∧p.1<key+16)∧(cls tt hs o.op≤3→∀p∈r.2,(key≤p.1∧p.1<key+16)∨(U p.1∧p.2=Z4 (st.ob p.1))):=by
 have a:r.2=[]→(cls tt hs o.op=0→r.2=[])∧(cls tt hs o.op≤2→∀p∈r.2,key≤p.1∧p.1<key+16)∧(cls tt hs o.op≤3→∀p∈r.2,(key≤p.1∧p.1<key+16)∨(U p.1∧p.2=Z4 (st.ob p.1))):=fun e=>⟨fun _=>e,fun _ p hp=>by simp [e] at hp,fun _ p hp=>by simp [e] at hp⟩
 obtain ⟨dst,op,ty,pos,af,gd⟩:=o
 cases op with
 | move x=>simp only[opE,A0] at h;exact a (by rw [←h])
 | assign x=>simp only[opE,A0] at h;exact a (by rw [←h])
 | pick c x y=>
  simp only[opE] at h
  split at h
  ·simp only[A0] at h;exact a (by rw [←h])
  ·simp at h
 | alloc t=>
  simp only[opE] at h
  obtain ⟨z,_,rfl⟩:=A3.1 h
  exact ⟨fun e=>by simp [cls] at e,fun _ p hp=>by simp at hp;subst hp;simp,fun _ p hp=>by simp at hp;subst hp;simp⟩
 | box t x=>
  simp only[opE] at h
  split at h
  ·simp only[A0] at h
   subst h
   exact ⟨fun e=>by simp [cls] at e,fun _ p hp=>by simp at hp;subst hp;simp,fun _ p hp=>by simp at hp;subst hp;simp⟩
  ·simp at h
 | build t g=>
  simp only[opE] at h
  split at h
  ·obtain ⟨cs,_,rfl⟩:=A3.1 h;exact a rfl
  ·simp at h
 | buildSlice t len g=>
  simp only[opE] at h
  split at h
  ·obtain ⟨⟨xs,ks,d⟩,h1,h⟩:=A5.1 h
   split at h
   ·simp only[A0] at h
    subst h
    rename_i e0 _ _ z u q
    have hu:∀v∈g.toList.map (fun p=>st.ev tt e0 p.2),svU U v:=fun v mv=>by obtain ⟨p,_,rfl⟩:=A7.1 mv;exact hU _ _
    have hk:=ZeS (U:=U) h1 hu
    refine ⟨fun e=>by simp only[cls] at e;split at e<;>simp at e,fun e p hp=>?_,fun e p hp=>?_⟩
    ·by_cases hs:g.size=0
     ·have:g=#[]:=by simpa using hs
      subst this
      simp [YL] at h1
      obtain ⟨_,rfl,_⟩:=h1
      simp [ZO] at hp;subst hp;simp
     ·by_cases hf:Ztk (tt t)=true
      ·have hz:z.all ZiM=true:=by rw [u] at hf;exact hf
       have w:ks=[]:=by
        have h3:=q.2.2.2
        rw [hz] at h3
        simpa using h3
       subst w
       simp [ZO] at hp;subst hp;simp
      ·simp [cls,hs,hf] at e
    ·rcases A4.1 hp with hp | hp
     ·obtain ⟨p1,p2⟩:=ZjV hp
      exact .inr ⟨hk _ p1,p2⟩
     ·simp at hp;subst hp;simp
   ·simp at h
  ·simp at h
 | load t x=>exact a (YK h)
 | store t x v=>exact ⟨fun e=>by simp [cls] at e,fun e=>by simp [cls] at e,fun e=>by simp [cls] at e⟩
 | makeFunc fn first caps=>exact ⟨fun e=>by simp [cls] at e,fun e=>by simp [cls] at e,fun e=>by simp [cls] at e⟩
 | mapUpdate t x i v=>exact ⟨fun e=>by simp [cls] at e,fun e=>by simp [cls] at e,fun e=>by simp [cls] at e⟩
 | lookup t x i ok=>exact a (YK h)
 | makeMap t r=>
  cases r with
  | none=>
   simp only[opE,Zl6] at h
   split at h
   ·simp only[A0] at h
    subst h
    exact ⟨fun e=>by simp [cls] at e,fun _ p hp=>by simp at hp;subst hp;simp,fun _ p hp=>by simp at hp;subst hp;simp⟩
   ·simp at h
  | some _=>simp [opE] at h
 | nilCheck x=>
  simp only[opE] at h
  split at h<;>simp only[A0,reduceCtorEq] at h<;>exact a (by rw [←h])
 | binOp op t x y t'=>exact a (YK h)
 | unOp op t x=>exact a (YK h)
 | convert s t x=>exact a (YK h)
 | makeSlice t n c=>
  simp only[opE,ZpS] at h
  split at h
  ·split at h
   ·obtain ⟨ze,_,h⟩:=A5.1 h
    split at h
    ·simp only[A0] at h
     subst h
     exact ⟨fun e=>by simp [cls] at e,fun _ p hp=>by simp at hp;subst hp;simp,fun _ p hp=>by simp at hp;subst hp;simp⟩
    ·simp at h
   ·simp at h
  ·simp at h
 | slice t x lo hi mx=>
  cases mx with
  | some _=>simp [opE] at h
  | none=>
   by_cases j:ZbY (tt t)=true
   ·have A:Za2 (tt t)=false:=by
     unfold ZbY at j
     split at j
     ·rename_i e;rw [e];rfl
     ·simp at j
    refine a ?_
    simp only[opE,Qi] at h
    split at h
    ·simp [A] at h
    ·obtain ⟨v,_,rfl⟩:=A3.1 h;rfl
    ·simp at h
   ·have hc:3≤cls tt hs (.slice t x lo hi none):=by simp only[cls];rw [if_neg j];split<;>omega
    refine ⟨fun e=>by simp only at e;omega,fun e=>by simp only at e;omega,fun e p hp=>?_⟩
    have B:∀d,mvS d (lo.map (st.ev tt 0)) (hi.map (st.ev tt 0))=false:=fun d=>by
     cases lo with
     | none=>rfl
     | some _=>cases hi with
      | none=>simp [cls,j] at e
      | some _=>rfl
    simp only[opE,Qi] at h
    split at h
    ·rename_i k hv
     have hk:U k:=by
      have:=hU 0 x
      rw [hv] at this
      exact this (.row k) yG
     split at h
     ·split at h
      ·rename_i C
       split at h
       ·rw [B,if_neg yG] at h
        obtain ⟨_,_,h⟩:=A5.1 h
        obtain ⟨_,_,rfl⟩:=A3.1 h
        simp at hp
        subst hp
        exact .inr ⟨hk,by rw [C];rfl⟩
       ·simp at h
      ·simp at h
     ·simp at h
    ·obtain ⟨v,_,rfl⟩:=A3.1 h
     simp at hp
    ·simp at h
 | fieldAddr t x f=>
  simp only[opE] at h
  split at h
  ·exact a (YK h)
  ·simp at h
 | field t x f=>
  simp only[opE] at h
  split at h
  ·exact a (YK h)
  ·simp at h
 | indexAddr t x i=>
  simp only[opE] at h
  split at h
  ·exact a (YK h)
  ·simp at h
 | index t x i=>exact a (YK h)
 | extract x i=>exact a (YK h)
 | call c=>
  obtain ⟨l,args,ts⟩:=c
  cases l with
  | builtin b=>
   simp only[opE,Zet] at h
   split at h
   ·exact a (YK h)
   ·exact ⟨fun e=>by simp [cls] at e,fun e=>by simp [cls] at e,fun e=>by simp [cls] at e⟩
   ·exact a (YK h)
   ·exact a (YK h)
   ·simp at h
  | value f=>simp [opE] at h
  | invoke r m=>simp [opE] at h
 | _=>simp [opE] at h
theorem Zaj {hs:FuncId→Nat} {o:Op} {c:FuncId × List TypeId × List Operand} (h:Yx o=some c):cls tt hs o=if hs c.1=0∨hs c.1=4 then 1 else 4:=by
 unfold Yx at h
 split at h
 ·simp only[A0] at h;rw [←h];rfl
 ·simp at h
theorem ZjF {o:Op} {c:Nat × List TypeId × List Operand} (h:YP o=some c):∃args ts,o=.call ⟨.value (.tmp c.1),args,ts⟩∧c.2.1=ts.toList∧c.2.2=args.toList:=by
 unfold YP at h
 split at h
 ·rename_i s args ts
  simp only[A0] at h
  rw [←h]
  exact ⟨args,ts,rfl,rfl,rfl⟩
 ·simp at h
theorem Zfg [NW] {hs:FuncId→Nat} {o:Op} {c:Nat × List TypeId × List Operand} (h:YP o=some c):cls tt hs o=4:=by
 obtain ⟨args,ts,rfl,_⟩:=ZjF h
 rfl
theorem Zk0 [NW] (hU:∀t x,svU U (st.ev tt t x)) {all:List Oper} {o:Oper} {v:SV} {u:List (Nat × Ob)} (h:opR tt S all key o st v u):(cls tt S.hd o.op=0→u=[])∧(cls tt S.hd o.op≤2→∀p∈u,key≤p.1∧p.1<key+16)∧(cls tt S.hd o.op≤3→∀p∈u,(key≤p.1∧p.1<key+16)∨(U p.1∧p.2=Z4 (st.ob p.1))):=by
 have b:u=[]→(cls tt S.hd o.op=0→u=[])∧(cls tt S.hd o.op≤2→∀p∈u,key≤p.1∧p.1<key+16)∧(cls tt S.hd o.op≤3→∀p∈u,(key≤p.1∧p.1<key+16)∨(U p.1∧p.2=Z4 (st.ob p.1))):=fun e=>⟨fun _=>e,fun _ p hp=>by simp [e] at hp,fun _ p hp=>by simp [e] at hp⟩
 have d:Q5 tt S key o st v u→(cls tt S.hd o.op=0→u=[])∧(cls tt S.hd o.op≤2→∀p∈u,key≤p.1∧p.1<key+16)∧(cls tt S.hd o.op≤3→∀p∈u,(key≤p.1∧p.1<key+16)∨(U p.1∧p.2=Z4 (st.ob p.1))):=fun h=>by
  unfold Q5 at h
  split at h
  ·rename_i c hc
   by_cases h0:S.hd c.1=0∨S.hd c.1=4
   ·have h':∃a,(ZE key a).2.2≤key+16∧u=(ZE key a).2.1:=by
     rcases h0 with h0 | h0
     ·rw [h0] at h
      obtain ⟨l,a,_,_,_,h3,_,e⟩:=h
      exact ⟨a,h3,e⟩
     ·rw [h0] at h
      obtain ⟨l,a,_,_,_,h3,_,e⟩:=h
      exact ⟨a,h3,e⟩
    obtain ⟨a,h3,rfl⟩:=h'
    have hp:∀p∈(ZE key a).2.1,key≤p.1∧p.1<key+16:=fun p hp=>by
     have:=(ZfE a key).2 p hp
     omega
    exact ⟨fun e=>by rw [Zaj hc,if_pos h0] at e;simp at e,fun _=>hp,fun _ p m=>.inl (hp p m)⟩
   ·refine ⟨fun e=>by rw [Zaj hc,if_neg h0] at e;simp at e,fun e=>by rw [Zaj hc,if_neg h0] at e;simp at e,fun e=>by rw [Zaj hc,if_neg h0] at e;simp at e⟩
  ·split at h
   ·rename_i c hc
    have h4:=Zfg (tt:=tt) (hs:=S.hd) hc
    exact ⟨fun e=>by rw [h4] at e;simp at e,fun e=>by rw [h4] at e;simp at e,fun e=>by rw [h4] at e;simp at e⟩
   ·exact Ztm hU h
 unfold opR at h
 split at h
 ·exact d h
 ·exact b h.2
 ·unfold gK at h
  split at h
  ·split at h
   ·exact d h
   ·exact b h.2
  ·split at h
   ·exact b h.2
   ·exact h.elim
theorem Zgh (h:st.ob=st'.ob):∀ks:List Nat,ZO st ks=ZO st' ks
 | []=>rfl
 | k::r=>by simp only[ZO,Zgh h r,h]
theorem ZB3 (s:SV):svU (fun _=>True) s:=by
 cases s<;>first | trivial | (intro y my;cases y<;>trivial) | (intro y my z mz;cases z<;>trivial)
theorem ZrQ [NW] (h:st.ob=st'.ob) (v:SV):ZeF st v=ZeF st' v:=by
 have ha:∀cs,Yq st cs=Yq st' cs:=fun cs=>ZfC (U:=fun _=>True) (fun k _=>.inl (by rw [h])) (fun x _=>by cases x<;>trivial)
 unfold ZeF
 split
 ·rw [h]
  split
  ·rw [ha]
  ·rfl
 ·rw [h]
 ·rfl
theorem Zj2 [NW] (h:st.ob=st'.ob) {f:FuncId} {n:Nat} {vs:List SV} {v:SV} {u:List (Nat × Ob)}:Zaz S f n key st vs v u↔Zaz S f n key st' vs v u:=by
 have hs:∀xs,ZT st xs=ZT st' xs:=fun xs=>Zdv (U:=fun _=>True) (fun k _=>.inl (by rw [h])) (fun x _=>ZB3 x)
 unfold Zaz
 split
 ·simp only[hs]
 ·simp only[hs,ZrQ h,Zgh h]
 ·simp only[hs,Zgh h]
 ·simp only[hs]
 ·simp only[hs,Zgh h]
theorem ZrK [NW] {o:Oper} {v:SV} {u:List (Nat × Ob)} (hl:∀x∈o.op.operands,∀t,st.ev tt t x=st'.ev tt t x)
  (a:cls tt S.hd o.op=0∨st.ob=st'.ob∨(∀t x,svU U (st.ev tt t x))∧((cls tt S.hd o.op≤3∧∀k,U k→st.ob k=st'.ob k)∨(cls tt S.hd o.op≤1∧Wk st st' U))):Q5 tt S key o st v u↔Q5 tt S key o st' v u:=by
 cases hc:Yx o.op with
 | some c=>
  simp only[Q5,hc]
  have l:∃args ts,o.op=.call ⟨.value (.func c.1),args,ts⟩∧c.2.1=ts.toList∧c.2.2=args.toList:=by
   unfold Yx at hc
   split at hc
   ·rename_i f args ts he
    simp only[A0] at hc
    rw [←hc]
    exact ⟨args,ts,he,rfl,rfl⟩
   ·simp at hc
  obtain ⟨args,ts,ho,e1,e2⟩:=l
  have d:evs tt st c.2.1 c.2.2=evs tt st' c.2.1 c.2.2:=Zcy fun x m t=>hl x (by rw [ho];rw [e2] at m;simp [Op.operands,Call.operands];exact .inr (by simpa using m)) t
  rw [←d]
  rcases a with e | a | ⟨hu,a⟩
  ·rw [Zaj hc] at e
   split at e<;>simp at e
  ·exact Zj2 a
  ·have g:cls tt S.hd o.op≤3:=by rcases a with h | h<;>omega
   have j:Wk st st' U:=by
    rcases a with h | h
    ·exact .of h.2
    ·exact h.2
   have h0:S.hd c.1=0∨S.hd c.1=4:=by
    rw [Zaj hc] at g
    split at g
    ·assumption
    ·simp at g
   have b:∀x∈evs tt st c.2.1 c.2.2,svU U x:=fun x hx=>by
    obtain ⟨p,_,rfl⟩:=A7.1 hx
    exact hu _ _
   rcases h0 with h0 | h0
   ·have i:ZT st (evs tt st c.2.1 c.2.2)=ZT st' (evs tt st c.2.1 c.2.2):=Zdv (U:=U) j b
    rw [h0]
    simp only[Zaz,i]
   ·have i:ZT st ((evs tt st c.2.1 c.2.2).map nlS)=ZT st' ((evs tt st c.2.1 c.2.2).map nlS):=Zdv (U:=U) j (fun x hx=>by
     obtain ⟨y,my,rfl⟩:=A7.1 hx
     exact ZtO (b y my))
    rw [h0]
    simp only[Zaz,i]
 | none=>
  simp only[Q5,hc]
  have:opE tt key o st=opE tt key o st':=by
   obtain ⟨sl,ob,n⟩:=st
   obtain ⟨q,ob',n'⟩:=st'
   have s1:opE tt key o ⟨q,ob',n'⟩=opE tt key o ⟨sl,ob',n⟩:=Zm0 fun x m t=>by
    rw [←hl x m t];exact Zq5 _ _ _ _ _ _ _
   rw [s1]
   rcases a with hc | a | ⟨hu,⟨hc,a⟩ | ⟨hc,a⟩⟩
   ·exact ZjE (U:=U) (.inl hc)
   ·simp only at a;subst a;rfl
   ·exact ZjE (U:=U) (.inr (.inl ⟨hc,a,hu⟩))
   ·exact ZjE (U:=U) (.inr (.inr ⟨hc,a,hu⟩))
  cases hd:YP o.op with
  | none=>simp only[this]
  | some c=>
   simp only
   obtain ⟨args,ts,ho,e1,e2⟩:=ZjF hd
   have d:evs tt st c.2.1 c.2.2=evs tt st' c.2.1 c.2.2:=Zcy fun x m t=>hl x (by rw [ho];rw [e2] at m;simp [Op.operands,Call.operands];exact .inr (by simpa using m)) t
   have w:st.sl c.1=st'.sl c.1:=hl (.tmp c.1) (by rw [ho];simp [Op.operands,Call.operands]) 0
   have h4:=Zfg (tt:=tt) (hs:=S.hd) hd
   rcases a with h0 | h0 | ⟨_,⟨h0,_⟩ | ⟨h0,_⟩⟩
   ·omega
   ·rw [d,w]
    constructor
    ·rintro ⟨fc,f1,f2,f3⟩;exact ⟨fc,f1,f2,(Zj2 h0).1 f3⟩
    ·rintro ⟨fc,f1,f2,f3⟩;exact ⟨fc,f1,f2,(Zj2 h0).2 f3⟩
   ·omega
   ·omega
theorem Zb3 [NW] {a:Array Oper} {o:Oper} {v:SV} {u:List (Nat × Ob)} (hl:∀s∈o.looksAt a,st.sl s=st'.sl s)
  (b:cls tt S.hd o.op=0∨st.ob=st'.ob∨(∀t x,svU U (st.ev tt t x))∧((cls tt S.hd o.op≤3∧∀k,U k→st.ob k=st'.ob k)∨(cls tt S.hd o.op≤1∧Wk st st' U))):opR tt S a.toList key o st v u↔opR tt S a.toList key o st' v u:=by
 have c:∀x∈o.op.operands,∀t,st.ev tt t x=st'.ev tt t x:=fun x m t=>by
  cases x with
  | tmp s=>exact hl s (by
    unfold Oper.looksAt
    refine A4.2 (.inl (BE.2 ⟨.tmp s,by simpa using m,rfl⟩)))
  | _=>rfl
 have h1:=ZrK (S:=S) (key:=key) (v:=v) (u:=u) c b
 unfold opR
 cases hg:QX a.toList o with
 | none=>exact h1
 | some q=>
  obtain ⟨q,want⟩:=q
  cases q with
  | none=>rfl
  | some t=>
   have ht:st.sl t=st'.sl t:=hl t (by
    unfold QX at hg
    split at hg
    ·simp at hg
    ·rename_i g d
     simp only[A0,A6] at hg
     unfold Oper.looksAt
     refine A4.2 (.inr ?_)
     rw [d]
     have:(a[g.1]?).bind (·.dst)=some t:=by simpa using hg.1
     simp [this])
   simp only[gK,ht,h1]
theorem ZAM [NW] (hU:StU U st) (t:Nat) (x:Operand):svU U (st.ev tt t x):=by
 cases x with
 | tmp s=>exact hU.sl s
 | const v=>
  show svU U (cvT (tt t) v)
  unfold cvT
  split
  ·exact Y8 _
  ·exact Y8 _
  ·split
   ·exact Y8 _
   ·trivial
  ·split
   ·intro y m;simp at m;subst m;trivial
   ·trivial
  ·trivial
 | global _=>trivial
 | func _=>trivial
theorem Xy [NW]:∀{u:List (Nat × Ob)} {ob:Nat→Ob} {k:Nat},(∀p∈u,p.1≠k)→Zk ob u k=ob k
 | [],_,_,_=>rfl
 | p::r,ob,k,h=>by
  rw [Zk,Xy fun q m=>h q (by simp [m])]
  exact ZI _ _ fun e=>h p yG e.symm
theorem Ziw [NW]:∀{u:List (Nat × Ob)} {ob ob':Nat→Ob} {k:Nat},(∃p∈u,p.1=k)→Zk ob u k=Zk ob' u k
 | [],_,_,_,h=>by simp at h
 | p::r,ob,ob',k,h=>by
  rw [Zk,Zk]
  by_cases hr:∃q∈r,q.1=k
  ·exact Ziw hr
  ·have hn:∀q∈r,q.1≠k:=fun q m e=>hr ⟨q,m,e⟩
   rw [Xy hn,Xy hn]
   obtain ⟨q,mq,e⟩:=h
   rcases A8.1 mq with rfl | mq
   ·rw [←e,Zy,Zy]
   ·exact absurd e (hn q mq)
theorem Zpo [NW] {u1 u2:List (Nat × Ob)} {ob:Nat→Ob} (h:∀p∈u1,∀q∈u2,p.1≠q.1):Zk (Zk ob u1) u2=Zk (Zk ob u2) u1:=by
 funext k
 by_cases h1:∃p∈u1,p.1=k
 ·obtain ⟨p,mp,rfl⟩:=h1
  rw [Xy fun q mq e=>h p mp q mq e.symm]
  exact Ziw ⟨p,mp,rfl⟩
 ·have hn:∀q∈u1,q.1≠k:=fun q m e=>h1 ⟨q,m,e⟩
  rw [Xy (ob:=Zk ob u2) hn]
  by_cases h2:∃p∈u2,p.1=k
  ·exact Ziw h2
  ·have a:∀q∈u2,q.1≠k:=fun q m e=>h2 ⟨q,m,e⟩
   rw [Xy a,Xy a,Xy hn]
theorem ZbS [NW] (st:St) (d:Option Nat) (v:SV) (s:Nat) (h:∀t,d=some t→s≠t):(st.put d v).sl s=st.sl s:=by
 cases d with
 | none=>rfl
 | some t=>exact ZI _ _ (h t rfl)
theorem QG (st:St) (d:Option Nat) (v:SV):(st.put d v).ob=st.ob:=by cases d<;>rfl
theorem ZoF (st:St) (d:Option Nat) (v:SV):(st.put d v).n=st.n:=by cases d<;>rfl
theorem ZmW (st:St) (d e:Option Nat) (v u:SV) (h:∀t,d=some t→e≠some t):((st.put d v).put e u).sl=((st.put e u).put d v).sl:=by
 cases d with
 | none=>rfl
 | some t=>cases e with
  | none=>rfl
  | some s=>
   have a:t≠s:=fun e=>h t rfl (e ▸ rfl)
   funext k
   show upd (upd st.sl t v) s u k=upd (upd st.sl s u) t v k
   unfold upd
   by_cases h1:k=s
   ·by_cases h2:k=t
    ·exact absurd (h2.symm.trans h1) a
    ·have b:¬s=t:=fun e=>a e.symm
     simp [h1,b]
   ·simp [h1]
def ZrG (tt:Nat→Option TI):Op→Bool
 | .slice t _ (some _) none none=>!ZbY (tt t)
 | .call ⟨.builtin .append,_,_⟩=>true
 | _=>false
theorem Zgo [NW] {a:Array Oper} {o:Oper} {v:SV} {u:List (Nat × Ob)} (hl:∀s∈o.looksAt a,st.sl s=st'.sl s) (h1:Q5 tt S key o st' v u→Q5 tt S key o st v u) (h:opR tt S a.toList key o st' v u):opR tt S a.toList key o st v u:=by
 unfold opR at h ⊢
 cases hg:QX a.toList o with
 | none=>rw [hg] at h;exact h1 h
 | some q=>
  obtain ⟨q,want⟩:=q
  rw [hg] at h
  cases q with
  | none=>exact h
  | some t=>
   have ht:st.sl t=st'.sl t:=hl t (by
    unfold QX at hg
    split at hg
    ·simp at hg
    ·rename_i g c
     simp only[A0,A6] at hg
     unfold Oper.looksAt
     refine A4.2 (.inr ?_)
     rw [c]
     have:(a[g.1]?).bind (·.dst)=some t:=by simpa using hg.1
     simp [this])
   simp only[gK,ht] at h ⊢
   split at h
   ·rename_i hb
    rw [if_pos hb]
    split at h
    ·rename_i b;rw [if_pos b];exact h1 h
    ·rename_i b;rw [if_neg b];exact h
   ·rename_i hb
    rw [if_neg hb]
    exact h
theorem ZbN {a:Array Oper} {o:Oper} (hl:∀s∈o.looksAt a,st.sl s=st'.sl s):∀x∈o.op.operands,∀t,st.ev tt t x=st'.ev tt t x:=fun x m t=>by
 cases x with
 | tmp s=>exact hl s (by
   unfold Oper.looksAt
   refine A4.2 (.inl (BE.2 ⟨.tmp s,by simpa using m,rfl⟩)))
 | _=>rfl
theorem ZrC [NW] {o:Oper} {v:SV} {u:List (Nat × Ob)} (hl:∀x∈o.op.operands,∀t,st.ev tt t x=st'.ev tt t x) (a:cls tt S.hd o.op≤1) (hu:∀t x,svU U (st.ev tt t x)) (d:Mk st st' U) (h:Q5 tt S key o st' v u):Q5 tt S key o st v u:=by
 cases hc:Yx o.op with
 | some c=>
  simp only[Q5,hc] at h ⊢
  have g:∃args ts,o.op=.call ⟨.value (.func c.1),args,ts⟩∧c.2.1=ts.toList∧c.2.2=args.toList:=by
   unfold Yx at hc
   split at hc
   ·rename_i f args ts he
    simp only[A0] at hc
    rw [←hc]
    exact ⟨args,ts,he,rfl,rfl⟩
   ·simp at hc
  obtain ⟨args,ts,ho,e1,e2⟩:=g
  have i:evs tt st c.2.1 c.2.2=evs tt st' c.2.1 c.2.2:=Zcy fun x m t=>hl x (by rw [ho];rw [e2] at m;simp [Op.operands,Call.operands];exact .inr (by simpa using m)) t
  rw [←i] at h
  have h0:S.hd c.1=0∨S.hd c.1=4:=by
   rw [Zaj hc] at a
   split at a
   ·assumption
   ·simp at a
  have b:∀x∈evs tt st c.2.1 c.2.2,svU U x:=fun x hx=>by
   obtain ⟨p,_,rfl⟩:=A7.1 hx
   exact hu _ _
  rcases h0 with h0 | h0
  ·rw [h0] at h ⊢
   simp only[Zaz] at h ⊢
   obtain ⟨al,e,h1,h2⟩:=h
   exact ⟨al,e,Zfx d b h1,h2⟩
  ·rw [h0] at h ⊢
   simp only[Zaz] at h ⊢
   obtain ⟨al,e,h1,h2⟩:=h
   exact ⟨al,e,Zfx d (fun x hx=>by
    obtain ⟨y,my,rfl⟩:=A7.1 hx
    exact ZtO (b y my)) h1,h2⟩
 | none=>
  simp only[Q5,hc] at h ⊢
  cases hd:YP o.op with
  | some c=>have h4:=Zfg (tt:=tt) (hs:=S.hd) hd;omega
  | none=>
   rw [hd] at h
   simp only at h ⊢
   obtain ⟨sl,ob,n⟩:=st
   obtain ⟨j,ob',n'⟩:=st'
   have s1:opE tt key o ⟨j,ob',n'⟩=opE tt key o ⟨sl,ob',n⟩:=Zm0 fun x m t=>by
    rw [←hl x m t];exact Zq5 _ _ _ _ _ _ _
   rw [s1] at h
   exact ZsV a d hu h
theorem ZvX {o:Op} (h:ZrG tt o=true):(∃t x lo,o=.slice t x (some lo) none none∧ZbY (tt t)=false)∨∃args ts,o=.call ⟨.builtin .append,args,ts⟩:=by
 unfold ZrG at h
 split at h
 ·exact .inl ⟨_,_,_,rfl,by simpa using h⟩
 ·exact .inr ⟨_,_,rfl⟩
 ·simp at h
theorem ZtK [NW] {s:SV} {a:List (List CT) × List Nat × Nat} (hs:svU U s) (h:ZeO st s=some a):∀k∈a.2.1,U k:=by
 unfold ZeO at h
 split at h
 ·simp only[A0] at h;rw [←h];simp
 ·split at h
  ·split at h
   ·simp at h
   ·simp only[A0] at h
    rw [←h]
    intro k hk
    simp only[A8,AM,or_false] at hk
    subst hk
    exact hs (.row _) yG
  ·simp at h
 ·simp at h
theorem Zun [NW] {fl:Bool} {s:SV} {a:List (List CT) × List Nat × Nat} (hs:svU U s) (h:ZeU st fl s=some a):∀k∈a.2.1,U k:=by
 unfold ZeU at h
 split at h
 ·simp only[A0] at h;rw [←h];simp
 ·simp only[A0] at h;rw [←h];simp
 ·split at h
  ·split at h
   ·simp only[A0] at h;rw [←h];simp
   ·simp only[A0] at h
    rw [←h]
    intro k hk
    simp only[A8,AM,or_false] at hk
    subst hk
    exact hs (.row _) yG
  ·simp at h
 ·simp at h
theorem Zrx [NW] {t:Option TI} {s x:SV} (hs:svU U s) (hx:svU U x) (a:∀k,U k→st.ob k=st'.ob k):Zl2 st key t s x=Zl2 st' key t s x:=by
 have e1:ZeO st s=ZeO st' s:=by
  unfold ZeO
  split
  ·rfl
  ·rename_i k
   rw [a k (hs (.row k) yG)]
  ·rfl
 have e2:∀fl,ZeU st fl x=ZeU st' fl x:=fun fl=>by
  unfold ZeU
  split
  ·rfl
  ·rfl
  ·rename_i k
   rw [a k (hx (.row k) yG)]
  ·rfl
 have e3:∀e m,Zj6 st e m s=Zj6 st' e m s:=fun e m=>by
  unfold Zj6
  split
  ·rename_i k
   rw [a k (hs (.row k) yG)]
  ·rfl
  ·rfl
 have e4:∀m,Zi4 st m x=Zi4 st' m x:=fun m=>by
  unfold Zi4
  split
  ·rename_i k
   rw [a k (hx (.row k) yG)]
  ·rfl
  ·rfl
  ·rfl
 unfold Zl2
 split
 ·simp only[e1,e2,e3,e4]
 ·rfl
theorem Zq0 {ts:List TypeId} {vs:List SV} {r:SV × List (Nat × Ob)} (h:Zet tt st key .append ts vs=some r):∃t s x,ts=[t,t]∧vs=[s,x]∧Zl2 st key (tt t) s x=some r:=by
 match ts,vs,h with
 | [t,u],[s,x],h=>
  simp only[Zet] at h
  split at h
  ·rename_i e;subst e;exact ⟨t,s,x,rfl,rfl,h⟩
  ·simp at h
 | [],_,h=>simp [Zet] at h
 | [_],_,h=>simp [Zet] at h
 | _::_::_::_,_,h=>simp [Zet] at h
 | [_,_],[],h=>simp [Zet] at h
 | [_,_],[_],h=>simp [Zet] at h
 | [_,_],_::_::_::_,h=>simp [Zet] at h
theorem Zu2 [NW] {o:Oper} {v:SV} {u:List (Nat × Ob)} (hm:ZrG tt o.op=true) (hU:∀t x,svU U (st.ev tt t x)) (h:Q5 tt S key o st v u):(∀p∈u,(key≤p.1∧p.1<key+16)∨(U p.1∧(p.2=st.ob p.1∨p.2=.gone))):=by
 obtain ⟨g,op,ty,i,af,gd⟩:=o
 obtain ⟨t,x,lo,ho,hs⟩ | ⟨args,ts,ho⟩:=ZvX hm
 rotate_left
 ·simp only at ho
  subst ho
  have h':Zet tt st key .append ts.toList (evs tt st ts.toList args.toList)=some (v,u):=h
  obtain ⟨t,s,x,_,he,h'⟩:=Zq0 h'
  have c:svU U s∧svU U x:=by
   have d:∀y∈evs tt st ts.toList args.toList,svU U y:=fun y my=>by
    obtain ⟨p,_,rfl⟩:=A7.1 my
    exact hU _ _
   exact ⟨d s (by rw [he];simp),d x (by rw [he];simp)⟩
  unfold Zl2 at h'
  split at h'
  ·obtain ⟨a,h1,h'⟩:=A5.1 h'
   obtain ⟨b,h2,h'⟩:=A5.1 h'
   split at h'
   ·simp only[A0,A6] at h'
    rw [←h'.2]
    intro p hp
    rcases A4.1 hp with hp | hp
    ·obtain ⟨k,mk,rfl⟩:=A7.1 hp
     refine .inr ⟨?_,.inr rfl⟩
     rcases A4.1 mk with mk | mk
     ·exact ZtK c.1 h1 k mk
     ·exact Zun c.2 h2 k mk
    ·simp only[A8,AM,or_false] at hp
     subst hp
     exact .inl ⟨A9 _,by simp only;omega⟩
   ·simp at h'
  ·simp at h'
 simp only at ho
 subst ho
 have h':opE tt key ⟨g,.slice t x (some lo) none none,ty,i,af,gd⟩ st=some (v,u):=h
 simp only[opE,Qi,AD,AN] at h'
 intro p hp
 split at h'
 ·rename_i k hv
  have hk:U k:=by
   have:=hU 0 x
   rw [hv] at this
   exact this (.row k) yG
  split at h'
  ·split at h'
   ·rename_i j
    split at h'
    ·split at h'
     ·obtain ⟨l,_,e⟩:=A3.1 h'
      simp only[A6] at e
      rw [←e.2] at hp
      simp only[A8,AM,or_false] at hp
      rcases hp with rfl | rfl
      ·exact .inr ⟨hk,.inr rfl⟩
      ·exact .inl ⟨A9 _,by simp only;omega⟩
     ·rename_i f
      obtain ⟨_,_,h'⟩:=A5.1 h'
      obtain ⟨_,_,e⟩:=A3.1 h'
      simp only[A6] at e
      rw [←e.2] at hp
      simp only[A8,AM,or_false] at hp
      subst hp
      refine .inr ⟨hk,.inl ?_⟩
      simp only[mvS] at f
      split at f
      ·rename_i hd;rw [j,hd]
      ·simp at f
    ·simp at h'
   ·simp at h'
  ·simp at h'
 ·obtain ⟨_,_,e⟩:=A3.1 h'
  simp only[A6] at e
  rw [←e.2] at hp
  simp at hp
 ·simp at h'
theorem ZvP [NW] {o:Oper} {v:SV} {u:List (Nat × Ob)} (hm:ZrG tt o.op=true) (hl:∀x∈o.op.operands,∀t,st.ev tt t x=st'.ev tt t x) (hU:∀t x,svU U (st'.ev tt t x)) (b:∀k,U k→st.ob k=st'.ob k) (h:Q5 tt S key o st' v u):Q5 tt S key o st v u:=by
 obtain ⟨c,op,ty,d,af,gd⟩:=o
 obtain ⟨t,x,lo,ho,hs⟩ | ⟨args,ts,ho⟩:=ZvX hm
 rotate_left
 ·simp only at ho
  subst ho
  have h':Zet tt st' key .append ts.toList (evs tt st' ts.toList args.toList)=some (v,u):=h
  show Zet tt st key .append ts.toList (evs tt st ts.toList args.toList)=some (v,u)
  have e:evs tt st ts.toList args.toList=evs tt st' ts.toList args.toList:=Zcy fun x m t=>hl x (by simpa [Op.operands,Call.operands] using m) t
  have a:∀y∈evs tt st' ts.toList args.toList,svU U y:=fun y my=>by
   obtain ⟨p,_,rfl⟩:=A7.1 my
   exact hU _ _
  obtain ⟨t,s,x,et,he,h'⟩:=Zq0 h'
  rw [e,he,et]
  rw [he] at a
  show (if t=t then Zl2 st key (tt t) s x else none)=_
  rw [if_pos rfl,Zrx (a s yG) (a x yG) b,h']
 simp only at ho
 subst ho
 have h':opE tt key ⟨c,.slice t x (some lo) none none,ty,d,af,gd⟩ st'=some (v,u):=h
 show opE tt key ⟨c,.slice t x (some lo) none none,ty,d,af,gd⟩ st=some (v,u)
 have e1:=hl x (by simp [Op.operands]) 0
 have e2:=hl lo (by simp [Op.operands]) 0
 simp only[opE,AD,AN,e1,e2] at h' ⊢
 rw [←h']
 have hx:=hU 0 x
 unfold Qi
 split
 ·rename_i k hv
  rw [hv] at hx
  have hk:U k:=hx (.row k) yG
  simp only[b k hk]
 ·rfl
 ·rfl
theorem Zct [NW] {a:List Oper} {o:Oper} {v:SV} {u:List (Nat × Ob)} {C:Prop} (h:opR tt S a key o st v u) (h1:Q5 tt S key o st v u→C) (h2:u=[]→C):C:=by
 unfold opR at h
 split at h
 ·exact h1 h
 ·exact h2 h.2
 ·unfold gK at h
  split at h
  ·split at h
   ·exact h1 h
   ·exact h2 h.2
  ·split at h
   ·exact h2 h.2
   ·exact h.elim
def Zq3 (tt:Nat→Option TI) (hs:FuncId→Nat) (x y:Op):Bool:=cls tt hs x==0||cls tt hs y==0||(Nat.ble (cls tt hs x) 2&&Nat.ble (cls tt hs y) 2)||(Nat.ble (cls tt hs x) 1&&Nat.ble (cls tt hs y) 3)||(Nat.ble (cls tt hs x) 3&&Nat.ble (cls tt hs y) 1)||(ZrG tt x&&Nat.ble (cls tt hs y) 1)
theorem comm [NW] {ops:Array Oper} {oi oj:Oper} {ki kj:Nat} {vi vj:SV} {ui uj:List (Nat × Ob)} (hap:oi.apart ops oj=true) (hc:Zq3 tt S.hd oi.op oj.op=true) (hU:StU U st) (hki:∀k,ki≤k→k<ki+16→¬U k) (hkj:∀k,kj≤k→k<kj+16→¬U k) (hdis:ki+16≤kj∨kj+16≤ki)
  (h:opR tt S ops.toList ki oi st vi ui) (h':opR tt S ops.toList kj oj ((st.put oi.dst vi).app ui) vj uj):
  opR tt S ops.toList kj oj st vj uj∧opR tt S ops.toList ki oi ((st.put oj.dst vj).app uj) vi ui∧((((st.put oi.dst vi).app ui).put oj.dst vj).app uj)=((((st.put oj.dst vj).app uj).put oi.dst vi).app ui):=by
 obtain ⟨a1,a2,a3⟩:=Oper.apart_spec hap
 have hev:∀t x,svU U (st.ev tt t x):=fun t x=>ZAM hU t x
 obtain ⟨i1,i2,i3⟩:=Zk0 (U:=U) hev h
 have eqs:(∀p∈ui,∀q∈uj,p.1≠q.1)→((((st.put oi.dst vi).app ui).put oj.dst vj).app uj)=((((st.put oj.dst vj).app uj).put oi.dst vi).app ui):=fun hne=>by
  have hsl:((((st.put oi.dst vi).app ui).put oj.dst vj).app uj).sl=((((st.put oj.dst vj).app uj).put oi.dst vi).app ui).sl:=by
   have e1:∀(s:St) (u:List (Nat × Ob)) (d:Option Nat) (v:SV),((s.app u).put d v).sl=(s.put d v).sl:=fun s u d v=>by cases d<;>rfl
   show (((st.put oi.dst vi).app ui).put oj.dst vj).sl=(((st.put oj.dst vj).app uj).put oi.dst vi).sl
   rw [e1,e1]
   exact ZmW st _ _ _ _ fun t ht=>a2 t ht
  have hobs:((((st.put oi.dst vi).app ui).put oj.dst vj).app uj).ob=((((st.put oj.dst vj).app uj).put oi.dst vi).app ui).ob:=by
   show Zk (((st.put oi.dst vi).app ui).put oj.dst vj).ob uj=Zk (((st.put oj.dst vj).app uj).put oi.dst vi).ob ui
   rw [QG,QG]
   show Zk (Zk (st.put oi.dst vi).ob ui) uj=Zk (Zk (st.put oj.dst vj).ob uj) ui
   rw [QG,QG]
   exact Zpo hne
  have hn:((((st.put oi.dst vi).app ui).put oj.dst vj).app uj).n=((((st.put oj.dst vj).app uj).put oi.dst vi).app ui).n:=by
   show (((st.put oi.dst vi).app ui).put oj.dst vj).n=(((st.put oj.dst vj).app uj).put oi.dst vi).n
   rw [ZoF,ZoF]
   show (st.put oi.dst vi).n=(st.put oj.dst vj).n
   rw [ZoF,ZoF]
  generalize ((((st.put oi.dst vi).app ui).put oj.dst vj).app uj)=s1 at hsl hobs hn ⊢
  generalize ((((st.put oj.dst vj).app uj).put oi.dst vi).app ui)=s2 at hsl hobs hn ⊢
  cases s1;cases s2
  simp only at hsl hobs hn
  subst hsl hobs hn
  rfl
 by_cases hmv:ZrG tt oi.op=true∧cls tt S.hd oj.op≤1
 ·obtain ⟨hm,hj⟩:=hmv
  have hui:∀p∈ui,(ki≤p.1∧p.1<ki+16)∨(U p.1∧(p.2=st.ob p.1∨p.2=.gone)):=Zct h (fun h=>Zu2 hm hev h) fun e p hp=>by rw [e] at hp;simp at hp
  have hmk:Mk st ((st.put oi.dst vi).app ui) U:=fun k hk=>by
   show Zk (st.put oi.dst vi).ob ui k=st.ob k∨Zk (st.put oi.dst vi).ob ui k=.gone
   rw [QG]
   have gen:∀(u:List (Nat × Ob)) (ob:Nat→Ob),(∀p∈u,(ki≤p.1∧p.1<ki+16)∨(U p.1∧(p.2=st.ob p.1∨p.2=.gone)))→(ob k=st.ob k∨ob k=.gone)→(Zk ob u k=st.ob k∨Zk ob u k=.gone):=by
    intro u
    induction u with
    | nil=>intro ob _ h;exact h
    | cons p u ih=>
     intro ob hp h
     refine ih _ (fun x mx=>hp x (by simp [mx])) ?_
     by_cases hpk:k=p.1
     ·rcases hp p (by simp) with h1 | h1
      ·exact absurd (hpk ▸ hk) (hki p.1 h1.1 h1.2)
      ·rw [hpk,Zy];exact h1.2
     ·rw [ZI _ _ hpk];exact h
   exact gen ui st.ob hui (.inl rfl)
  have hlj:∀s∈oj.looksAt ops,st.sl s=((st.put oi.dst vi).app ui).sl s:=fun s ms=>(ZbS st oi.dst vi s fun t ht e=>a1 t ht (e ▸ ms)).symm
  have hA:opR tt S ops.toList kj oj st vj uj:=Zgo hlj (ZrC (ZbN hlj) hj hev hmk) h'
  obtain ⟨_,j2,_⟩:=Zk0 (U:=U) hev hA
  have hlk:∀s∈oi.looksAt ops,((st.put oj.dst vj).app uj).sl s=st.sl s:=fun s ms=>ZbS st oj.dst vj s fun t ht e=>a3 t ht (e ▸ ms)
  have hag:∀k,U k→((st.put oj.dst vj).app uj).ob k=st.ob k:=fun k hk=>by
   show Zk (st.put oj.dst vj).ob uj k=st.ob k
   rw [QG]
   exact Xy fun p mp e=>hkj p.1 (j2 (by omega) p mp).1 (j2 (by omega) p mp).2 (e ▸ hk)
  refine ⟨hA,Zgo hlk (ZvP hm (ZbN hlk) hev hag) h,eqs fun p mp q mq e=>?_⟩
  have h2:=j2 (by omega) q mq
  rcases hui p mp with h1 | h1
  ·omega
  ·exact hkj q.1 h2.1 h2.2 (e ▸ h1.1)
 have hcl:cls tt S.hd oi.op=0∨cls tt S.hd oj.op=0∨(cls tt S.hd oi.op≤2∧cls tt S.hd oj.op≤2)∨(cls tt S.hd oi.op≤1∧cls tt S.hd oj.op≤3)∨(cls tt S.hd oi.op≤3∧cls tt S.hd oj.op≤1):=by
  unfold Zq3 at hc
  simp only[AW,beq_iff_eq,AC] at hc
  rcases hc with ((((hc | hc) | hc) | hc) | hc) | hc
  ·exact .inl hc
  ·exact .inr (.inl hc)
  ·exact .inr (.inr (.inl ⟨AG hc.1,AG hc.2⟩))
  ·exact .inr (.inr (.inr (.inl ⟨AG hc.1,AG hc.2⟩)))
  ·exact .inr (.inr (.inr (.inr ⟨AG hc.1,AG hc.2⟩)))
  ·exact absurd ⟨hc.1,AG hc.2⟩ hmv
 have agree:∀{u:List (Nat × Ob)} {q:Nat},(∀p∈u,q≤p.1∧p.1<q+16)→(∀k,q≤k→k<q+16→¬U k)→∀k,U k→st.ob k=Zk st.ob u k:=fun hu hq k hk=>(Xy fun p mp e=>hq p.1 (hu p mp).1 (hu p mp).2 (e ▸ hk)).symm
 have weak:∀{u:List (Nat × Ob)} {q:Nat},(∀p∈u,(q≤p.1∧p.1<q+16)∨(U p.1∧p.2=Z4 (st.ob p.1)))→(∀k,q≤k→k<q+16→¬U k)→∀k,U k→Zk st.ob u k=st.ob k∨Zk st.ob u k=Z4 (st.ob k):=fun {u q} hu hq k hk=>by
  have gen:∀(u:List (Nat × Ob)) (ob:Nat→Ob),(∀p∈u,(q≤p.1∧p.1<q+16)∨(U p.1∧p.2=Z4 (st.ob p.1)))→(ob k=st.ob k∨ob k=Z4 (st.ob k))→(Zk ob u k=st.ob k∨Zk ob u k=Z4 (st.ob k)):=by
   intro u
   induction u with
   | nil=>intro ob _ h;exact h
   | cons p u ih=>
    intro ob hp h
    refine ih _ (fun x mx=>hp x (by simp [mx])) ?_
    by_cases hpk:k=p.1
    ·rcases hp p (by simp) with h1 | h1
     ·exact absurd (hpk ▸ hk) (hq p.1 h1.1 h1.2)
     ·right;rw [hpk,Zy];exact h1.2
    ·rw [ZI _ _ hpk];exact h
  exact gen u st.ob hu (.inl rfl)
 have hA:opR tt S ops.toList kj oj st vj uj:=by
  refine (Zb3 (U:=U) (st:=st) (st':=(st.put oi.dst vi).app ui) (fun s ms=>(ZbS st oi.dst vi s fun t ht e=>a1 t ht (e ▸ ms)).symm) ?_).2 h'
  show cls tt S.hd oj.op=0∨st.ob=Zk (st.put oi.dst vi).ob ui∨_∧((cls tt S.hd oj.op≤3∧∀k,U k→st.ob k=Zk (st.put oi.dst vi).ob ui k)∨(cls tt S.hd oj.op≤1∧∀k,U k→Zk (st.put oi.dst vi).ob ui k=st.ob k∨Zk (st.put oi.dst vi).ob ui k=Z4 (st.ob k)))
  rw [QG]
  rcases hcl with hcl | hcl | ⟨c1,c2⟩ | ⟨c1,c2⟩ | ⟨c1,c2⟩
  ·right;left;rw [i1 hcl];rfl
  ·left;exact hcl
  ·right;right;exact ⟨hev,.inl ⟨by omega,agree (i2 c1) hki⟩⟩
  ·right;right;exact ⟨hev,.inl ⟨c2,agree (i2 (by omega)) hki⟩⟩
  ·right;right;exact ⟨hev,.inr ⟨c2,weak (i3 c1) hki⟩⟩
 obtain ⟨j1',j2',j3'⟩:=Zk0 (U:=U) hev hA
 refine ⟨hA,?_,?_⟩
 ·refine (Zb3 (U:=U) (st:=st) (st':=(st.put oj.dst vj).app uj) (fun s ms=>(ZbS st oj.dst vj s fun t ht e=>a3 t ht (e ▸ ms)).symm) ?_).1 h
  show cls tt S.hd oi.op=0∨st.ob=Zk (st.put oj.dst vj).ob uj∨_∧((cls tt S.hd oi.op≤3∧∀k,U k→st.ob k=Zk (st.put oj.dst vj).ob uj k)∨(cls tt S.hd oi.op≤1∧∀k,U k→Zk (st.put oj.dst vj).ob uj k=st.ob k∨Zk (st.put oj.dst vj).ob uj k=Z4 (st.ob k)))
  rw [QG]
  rcases hcl with hcl | hcl | ⟨c1,c2⟩ | ⟨c1,c2⟩ | ⟨c1,c2⟩
  ·left;exact hcl
  ·right;left;rw [j1' hcl];rfl
  ·right;right;exact ⟨hev,.inl ⟨by omega,agree (j2' c2) hkj⟩⟩
  ·right;right;exact ⟨hev,.inr ⟨c1,weak (j3' c2) hkj⟩⟩
  ·right;right;exact ⟨hev,.inl ⟨c1,agree (j2' (by omega)) hkj⟩⟩
 ·rcases hcl with hcl | hcl | ⟨c1,c2⟩ | ⟨c1,c2⟩ | ⟨c1,c2⟩
  ·exact eqs fun p mp=>by rw [i1 hcl] at mp;simp at mp
  ·exact eqs fun p mp q mq=>by rw [j1' hcl] at mq;simp at mq
  ·refine eqs fun p mp q mq e=>?_
   have:=i2 c1 p mp
   have:=j2' c2 q mq
   omega
  ·refine eqs fun p mp q mq e=>?_
   have h1:=i2 (by omega) p mp
   rcases j3' c2 q mq with h2 | h2
   ·omega
   ·exact hki p.1 h1.1 h1.2 (e ▸ h2.1)
  ·refine eqs fun p mp q mq e=>?_
   have h1:=j2' (by omega) q mq
   rcases i3 c1 p mp with h2 | h2
   ·omega
   ·exact hkj q.1 h1.1 h1.2 (e ▸ h2.1)
/- a load and a call into which something is handed: what is handed in stands at the key 0, the load looks elsewhere -/
def ZoO:Op→Bool
 | .load _ _=>true
 | _=>false
def ZrP (hs:FuncId→Nat) (o:Op):Bool:=match Yx o with
 | some c=>hs c.1==1
 | none=>false
def Zm2:Op→Bool
 | .slice _ _ _ _ none=>true
 | _=>false
def ZrN (tt:Nat→Option TI) (hs:FuncId→Nat) (b:Bool) (x y:Op):Bool:=Zq3 tt hs x y||(b&&((ZoO x&&ZrP hs y)||(ZrP hs x&&ZoO y)||Zm2 x||Zm2 y))
theorem ZpJ {o:Op} {c:FuncId × List TypeId × List Operand} (h:Yx o=some c):∃args ts,o=.call ⟨.value (.func c.1),args,ts⟩∧c.2.2=args.toList:=by
 unfold Yx at h
 split at h
 ·rename_i f args ts
  simp only[A0] at h
  rw [←h]
  exact ⟨args,ts,rfl,rfl⟩
 ·simp at h
theorem ZpX {o:Op} (h:∀x∈o.operands,∀t,st.ev tt t x=st'.ev tt t x):stk tt S o st=stk tt S o st':=by
 unfold stk
 split
 ·rename_i t x
  rw [h x (by simp [Op.operands])]
 ·rename_i t x _ _ _
  rw [h x (by simp [Op.operands])]
 ·split
  ·rename_i c hc
   obtain ⟨args,ts,ho,e⟩:=ZpJ hc
   unfold hdC
   split
   ·cases hh:c.2.2.head? with
    | none=>rfl
    | some x=>
     have mx:x∈args.toList:=by rw [←e];exact List.mem_of_mem_head? hh
     simp only
     rw [h x (by rw [ho];simp [Op.operands,Call.operands];exact .inr (by simpa using mx))]
   ·rfl
  ·rfl
theorem Zfp [NW] {a:Array Oper} {oi oj:Oper} {vi vj:SV} {ui uj:List (Nat × Ob)} (b:oi.apart a oj=true):stk tt S oj.op st=stk tt S oj.op ((st.put oi.dst vi).app ui)∧stk tt S oi.op ((st.put oj.dst vj).app uj)=stk tt S oi.op st:=by
 obtain ⟨a1,a2,a3⟩:=Oper.apart_spec b
 exact ⟨ZpX (ZbN fun s ms=>(ZbS st oi.dst vi s fun t ht e=>a1 t ht (e ▸ ms)).symm),ZpX (ZbN fun s ms=>ZbS st oj.dst vj s fun t ht e=>a3 t ht (e ▸ ms))⟩
theorem ZmY [NW] {o:Oper} {v:SV} {u:List (Nat × Ob)} (ho:ZrP S.hd o.op=true) (hs:stk tt S o.op st=true) (h:Q5 tt S key o st v u):∀p∈u,p.1=0∨(key≤p.1∧p.1<key+16)∨p.2=Z4 (st.ob p.1):=by
 unfold ZrP at ho
 split at ho
 rotate_left
 ·simp at ho
 rename_i c hc
 have h1:S.hd c.1=1:=by simpa using ho
 unfold Q5 at h
 rw [hc] at h
 simp only[h1,Zaz] at h
 obtain ⟨v0,r,k,hh,l,res,h',hv,hk,hl,hs',hne,hn,rfl,rfl⟩:=h
 have h2:hdC tt 1 c.2.2.head? st=true:=by
  have e:stk tt S o.op st=hdC tt (S.hd c.1) c.2.2.head? st:=by
   unfold stk
   split
   ·rename_i hq;rw [hq] at hc;simp [Yx] at hc
   ·rename_i hq;rw [hq] at hc;simp [Yx] at hc
   ·rw [hc]
  rw [←h1,←e];exact hs
 have hv0:∃off,v0=.bp 0 off:=by
  unfold hdC at h2
  simp only at h2
  cases hx:c.2.2 with
  | nil=>rw [hx] at h2;simp at h2
  | cons x xs=>
   rw [hx] at h2 hv
   simp only[List.head?_cons] at h2
   have e0:∀ts:List TypeId,∃t q,evs tt st ts (x::xs)=st.ev tt t x::q:=fun ts=>by cases ts<;>exact ⟨_,_,rfl⟩
   obtain ⟨t,q,e0⟩:=e0 c.2.1
   rw [e0] at hv
   simp only[AT] at hv
   have hb:hdB (st.ev tt 0 x)=true:=h2
   have ht:∀t',hdB (st.ev tt t' x)=true→∃off,st.ev tt t x=.bp 0 off:=fun t' hb=>by
    cases x with
    | tmp s=>
     have hb':hdB (st.sl s)=true:=hb
     unfold hdB at hb'
     split at hb'
     ·rename_i k' off e;exact ⟨off,by show st.sl s=_;rw [e,of_decide_eq_true hb']⟩
     ·simp at hb'
    | const u=>
     exfalso
     have hb':hdB (cvT (tt t') u)=true:=hb
     unfold cvT at hb'
     split at hb'<;>first | (simp [hdB] at hb';done) | (split at hb'<;>simp [hdB] at hb')
    | func f=>simp [St.ev,hdB] at hb
    | global g=>simp [St.ev,hdB] at hb
   obtain ⟨off,e⟩:=ht 0 hb
   exact ⟨off,by rw [←hv.1,e]⟩
 obtain ⟨off,rfl⟩:=hv0
 have hkk:k=0:=by
  unfold ZeF at hk
  split at hk
  ·rename_i k' e
   simp only[SV.bp.injEq] at e
   obtain ⟨rfl,rfl⟩:=e
   split at hk
   ·rename_i t cs hb
    split at hk
    ·obtain ⟨_,_,e⟩:=A3.1 hk
     simp only[A6] at e
     exact e.1.symm
    ·simp at hk
   ·simp at hk
  ·rename_i e;simp at e
  ·simp at hk
 subst hkk
 intro p mp
 rcases A4.1 mp with mp | mp
 ·exact .inr (.inr (ZjV mp).2)
 ·rcases A8.1 mp with rfl | mp
  ·exact .inl rfl
  ·have:=(ZfE res key).2 p mp
   exact .inr (.inl (by omega))
theorem ZmM [NW] {o:Oper} {v:SV} {u:List (Nat × Ob)} (ho:ZoO o.op=true) (hl:∀x∈o.op.operands,∀t,st.ev tt t x=st'.ev tt t x) (hs:stk tt S o.op st=true) (hU:∀t x,svU U (st.ev tt t x)) (c:∀k,U k→k≠0→st'.ob k=st.ob k∨st'.ob k=Z4 (st.ob k)):Q5 tt S key o st v u↔Q5 tt S key o st' v u:=by
 obtain ⟨dst,op,ty,pos,af,gd⟩:=o
 unfold ZoO at ho
 simp only at ho
 split at ho
 rotate_left
 ·simp at ho
 rename_i t x
 have e1:=hl x (by simp [Op.operands]) 0
 have hx:=hU 0 x
 have a:ldB (st.ev tt 0 x)=true:=hs
 have key:Qa st (tt t) (st.ev tt 0 x)=Qa st' (tt t) (st'.ev tt 0 x):=by
  rw [←e1]
  unfold Qa
  split
  ·rename_i k off hv
   rw [hv] at hx a
   have b:k≠0:=fun e=>by subst e;simp [ldB] at a
   rcases c k hx b with h | h
   ·rw [h]
   ·rw [h]
    cases st.ob k<;>rfl
  ·rename_i k m i off hv
   rw [hv] at hx a
   have b:k≠0:=fun e=>by subst e;simp [ldB] at a
   rcases c k hx b with h | h
   ·rw [h]
   ·rw [h]
    cases st.ob k<;>rfl
  ·rfl
  ·rfl
  ·rfl
 show opE tt _ _ st=some (v,u)↔opE tt _ _ st'=some (v,u)
 simp only[opE,key]
theorem Zup [NW] {a:List Oper} {o:Oper} {v:SV} {u:List (Nat × Ob)} (ho:ZoO o.op=true) (h:opR tt S a key o st v u):u=[]:=by
 refine Zct h (fun h=>?_) id
 obtain ⟨b,op,ty,c,af,gd⟩:=o
 unfold ZoO at ho
 simp only at ho
 split at ho
 ·have h':opE tt key ⟨b,.load _ _,ty,c,af,gd⟩ st=some (v,u):=h
  exact YK h'
 ·simp at ho
theorem Zrm {a:Array Oper} {o:Oper} {v:SV} {u:List (Nat × Ob)} (hl:∀s∈o.looksAt a,st.sl s=st'.sl s) (h1:Q5 tt S key o st v u↔Q5 tt S key o st' v u) [NW]:opR tt S a.toList key o st v u↔opR tt S a.toList key o st' v u:=⟨Zgo (fun s ms=>(hl s ms).symm) h1.1,Zgo hl h1.2⟩
theorem ZjA [NW] {o:Oper} {v:SV} {u:List (Nat × Ob)} (ho:Zm2 o.op=true) (hs:stk tt S o.op st=true) (h:Q5 tt S key o st v u):u=[]∧∀{st':St},(∀x∈o.op.operands,∀t,st.ev tt t x=st'.ev tt t x)→Q5 tt S key o st' v u:=by
 obtain ⟨b,op,ty,c,af,gd⟩:=o
 unfold Zm2 at ho
 simp only at ho
 split at ho
 rotate_left
 ·simp at ho
 rename_i t x lo hi
 have a:slB (st.ev tt 0 x)=true:=hs
 have h':opE tt key ⟨b,.slice t x lo hi none,ty,c,af,gd⟩ st=some (v,u):=h
 unfold slB at a
 split at a
 rotate_left
 ·simp at a
 rename_i y hy
 constructor
 ·simp only[opE] at h'
  rw [hy] at h'
  simp only[Qi] at h'
  obtain ⟨_,_,e⟩:=A3.1 h'
  simp only[A6] at e
  exact e.2.symm
 ·intro st' hl
  show opE tt key ⟨b,.slice t x lo hi none,ty,c,af,gd⟩ st'=some (v,u)
  have e1:=hl x (by simp [Op.operands]) 0
  have e2:lo.map (st.ev tt 0)=lo.map (st'.ev tt 0):=by
   cases lo with
   | none=>rfl
   | some l=>exact congrArg some (hl l (by simp [Op.operands]) 0)
  have e3:hi.map (st.ev tt 0)=hi.map (st'.ev tt 0):=by
   cases hi with
   | none=>rfl
   | some l=>exact congrArg some (hl l (by simp [Op.operands]) 0)
  rw [←h']
  simp only[opE,←e1,←e2,←e3,hy,Qi]
theorem ZAS [NW] {b:Bool} {f:Array Oper} {oi oj:Oper} {ki kj:Nat} {vi vj:SV} {ui uj:List (Nat × Ob)} (j:oi.apart f oj=true) (hc:ZrN tt S.hd b oi.op oj.op=true) (hU:StU U st) (C:∀k,ki≤k→k<ki+16→¬U k) (D:∀k,kj≤k→k<kj+16→¬U k) (E:ki+16≤kj∨kj+16≤ki)
  (B:b=true→stk tt S oi.op st=true) (l:b=true→stk tt S oj.op ((st.put oi.dst vi).app ui)=true) (h:opR tt S f.toList ki oi st vi ui) (h':opR tt S f.toList kj oj ((st.put oi.dst vi).app ui) vj uj):
  opR tt S f.toList kj oj st vj uj∧opR tt S f.toList ki oi ((st.put oj.dst vj).app uj) vi ui∧((((st.put oi.dst vi).app ui).put oj.dst vj).app uj)=((((st.put oj.dst vj).app uj).put oi.dst vi).app ui):=by
 by_cases F:Zq3 tt S.hd oi.op oj.op=true
 ·exact comm j F hU C D E h h'
 have hb:b=true∧(((ZoO oi.op=true∧ZrP S.hd oj.op=true)∨(ZrP S.hd oi.op=true∧ZoO oj.op=true))∨Zm2 oi.op=true∨Zm2 oj.op=true):=by
  unfold ZrN at hc
  rw [AW] at hc
  have:=hc.resolve_left F
  simp only[AC,AW] at this
  obtain ⟨q1,q2⟩:=this
  exact ⟨q1,by rcases q2 with (q | q) | q;exact .inl q;exact .inr (.inl q);exact .inr (.inr q)⟩
 obtain ⟨hb,hc⟩:=hb
 obtain ⟨a1,a2,a3⟩:=Oper.apart_spec j
 have G:∀t x,svU U (st.ev tt t x):=fun t x=>ZAM hU t x
 have g:∀s∈oj.looksAt f,st.sl s=((st.put oi.dst vi).app ui).sl s:=fun s ms=>(ZbS st oi.dst vi s fun t ht e=>a1 t ht (e ▸ ms)).symm
 have i:∀s∈oi.looksAt f,st.sl s=((st.put oj.dst vj).app uj).sl s:=fun s ms=>(ZbS st oj.dst vj s fun t ht e=>a3 t ht (e ▸ ms)).symm
 have c:(((st.put oi.dst vi).put oj.dst vj)).sl=(((st.put oj.dst vj).put oi.dst vi)).sl:=ZmW st _ _ _ _ fun t ht=>a2 t ht
 have e1:∀(s:St) (u:List (Nat × Ob)) (d:Option Nat) (v:SV),((s.app u).put d v)=((s.put d v).app u):=fun s u d v=>by cases d<;>rfl
 have y:ui=[]∨uj=[]→((((st.put oi.dst vi).app ui).put oj.dst vj).app uj)=((((st.put oj.dst vj).app uj).put oi.dst vi).app ui):=fun hn=>by
  rw [e1,e1]
  have hs:((st.put oi.dst vi).put oj.dst vj)=((st.put oj.dst vj).put oi.dst vi):=by
   have h2:((st.put oi.dst vi).put oj.dst vj).ob=((st.put oj.dst vj).put oi.dst vi).ob:=by simp only[QG]
   have h3:((st.put oi.dst vi).put oj.dst vj).n=((st.put oj.dst vj).put oi.dst vi).n:=by simp only[ZoF]
   generalize ((st.put oi.dst vi).put oj.dst vj)=s1 at c h2 h3
   generalize ((st.put oj.dst vj).put oi.dst vi)=s2 at c h2 h3
   cases s1;cases s2
   simp only at c h2 h3
   subst c h2 h3
   rfl
  rw [hs]
  rcases hn with rfl | rfl<;>rfl
 rcases hc with hc | o | o
 rotate_left
 ·-- the first is a slice that is only read
  have hs:=B hb
  have hn:ui=[]:=Zct h (fun h=>(ZjA o hs h).1) id
  subst hn
  have hA:opR tt S f.toList kj oj st vj uj:=(Zb3 (U:=U) g (.inr (.inl (by show st.ob=(st.put oi.dst vi).ob;rw [QG])))).2 h'
  refine ⟨hA,Zgo (fun s ms=>(i s ms).symm) (fun h=>(ZjA o hs h).2 (ZbN i)) h,y (.inl rfl)⟩
 ·-- the second is one
  have hs:=(Zfp (tt:=tt) (S:=S) (st:=st) (vi:=vi) (ui:=ui) (vj:=vj) (uj:=uj) j).1.trans (l hb)
  have hn:uj=[]:=Zct h' (fun h=>(ZjA o (l hb) h).1) id
  subst hn
  have hA:opR tt S f.toList kj oj st vj []:=Zgo g (fun h=>(ZjA o (l hb) h).2 (fun x m t=>(ZbN g x m t).symm)) h'
  refine ⟨hA,?_,y (.inr rfl)⟩
  exact (Zb3 (U:=U) i (.inr (.inl (by show st.ob=(st.put oj.dst vj).ob;rw [QG])))).1 h
 have A:∀{u:List (Nat × Ob)} {q:Nat},(∀p∈u,p.1=0∨(q≤p.1∧p.1<q+16)∨p.2=Z4 (st.ob p.1))→(∀k,q≤k→k<q+16→¬U k)→∀k,U k→k≠0→Zk st.ob u k=st.ob k∨Zk st.ob u k=Z4 (st.ob k):=fun {u q} hu hq k hk w=>by
  have K:∀(u:List (Nat × Ob)) (ob:Nat→Ob),(∀p∈u,p.1=0∨(q≤p.1∧p.1<q+16)∨p.2=Z4 (st.ob p.1))→(ob k=st.ob k∨ob k=Z4 (st.ob k))→(Zk ob u k=st.ob k∨Zk ob u k=Z4 (st.ob k)):=by
   intro u
   induction u with
   | nil=>intro ob _ h;exact h
   | cons p u ih=>
    intro ob hp h
    refine ih _ (fun x mx=>hp x (by simp [mx])) ?_
    by_cases z:k=p.1
    ·rcases hp p yG with h1 | h1 | h1
     ·exact absurd (z.trans h1) w
     ·exact absurd (z ▸ hk) (hq p.1 h1.1 h1.2)
     ·right;rw [z,Zy];exact h1
    ·rw [ZI _ _ z];exact h
  exact K u st.ob hu (.inl rfl)
 rcases hc with ⟨l1,l2⟩ | ⟨l1,l2⟩
 ·have H:=Zup l1 h
  have I:st.ob=((st.put oi.dst vi).app ui).ob:=by
   subst H
   show st.ob=(st.put oi.dst vi).ob
   rw [QG]
  have hA:=(Zb3 (U:=U) g (.inr (.inl I))).2 h'
  have hs:=(Zfp (tt:=tt) (S:=S) (st:=st) (vi:=vi) (ui:=ui) (vj:=vj) (uj:=uj) j).1.trans (l hb)
  refine ⟨hA,?_,y (.inl H)⟩
  refine Zct hA (fun hx=>?_) (fun e=>?_)
  ·refine (Zrm i (ZmM (U:=U) l1 (ZbN i) (B hb) G fun k hk w=>?_)).1 h
   show Zk (st.put oj.dst vj).ob uj k=_∨Zk (st.put oj.dst vj).ob uj k=_
   rw [QG]
   exact A (ZmY l2 hs hx) D k hk w
  ·refine (Zb3 (U:=U) i (.inr (.inl ?_))).1 h
   subst e
   show st.ob=(st.put oj.dst vj).ob
   rw [QG]
 ·have J:=Zup l2 h'
  have hs:=(Zfp (tt:=tt) (S:=S) (st:=st) (vi:=vi) (ui:=ui) (vj:=vj) (uj:=uj) j).1.trans (l hb)
  have hA:opR tt S f.toList kj oj st vj uj:=by
   refine Zct h (fun hx=>?_) (fun e=>?_)
   ·refine (Zrm g (ZmM (U:=U) l2 (ZbN g) hs G fun k hk w=>?_)).2 h'
    show Zk (st.put oi.dst vi).ob ui k=_∨Zk (st.put oi.dst vi).ob ui k=_
    rw [QG]
    exact A (ZmY l1 (B hb) hx) C k hk w
   ·refine (Zb3 (U:=U) g (.inr (.inl ?_))).2 h'
    subst e
    show st.ob=(st.put oi.dst vi).ob
    rw [QG]
  refine ⟨hA,(Zb3 (U:=U) i (.inr (.inl ?_))).1 h,y (.inr J)⟩
  subst J
  show st.ob=(st.put oj.dst vj).ob
  rw [QG]
end
end
section
open Go.RowKit
section
variable {P:Program} {J:World→Prop} {JF:Nat→Prop} {W:QK} {U:Nat→Prop} {key:Nat} {st st':St} {w w':World} {a:Act} {tt:Nat→Option TI} {hds:FuncId→Nat} {Q:Exit→Act→World→Prop}
def ZsX [NW] (W:QK) (N:Nat) (U:Nat→Prop) (st:St):Prop:=∃a w,Inv W U st a w∧a.tmps.size=N
theorem Zs5 [NW] (htt:MOk P J JF W tt) {N:Nat} {all:List Oper} {o:Oper} {v:SV} {u:List (Nat × Ob)} (h:opR tt (SC P J JF hds) all key o st v u) (hR:ZsX W N U st) (f:∀k,key≤k→k<key+16→¬U k) (hd:∀t,o.dst=some t→t<N∧(W.hv=none∨t≠0)):
  ZsX W N (Uk U key) ((st.put o.dst v).app u):=by
 obtain ⟨a,w,hI,hN⟩:=hR
 have j:∀t,o.dst=some t→t<a.tmps.size∧(W.hv=none∨t≠0):=fun t ht=>hN ▸ hd t ht
 have l:v=.und∧u=[]→ZsX W N (Uk U key) ((st.put o.dst v).app u):=fun ⟨e1,e2⟩=>by
  subst e1 e2
  exact ⟨_,w,ZqU hI _ j,by rw [Zb2];exact hN⟩
 have q:Q5 tt (SC P J JF hds) key o st v u→ZsX W N (Uk U key) ((st.put o.dst v).app u):=fun h=>by
  obtain ⟨⟨g,hH,hS⟩,hU,i,hh⟩:=hI
  have b:∀(ts:List TypeId) (args:List Operand),ZH (SVR g w) (evs tt st ts args) (args.map a.eval)∧∀x∈evs tt st ts args,svU U x:=fun ts args=>by
   have he:args.map a.eval=(ZhJ ts args).map fun p=>a.eval p.2:=by
    have:=congrArg (List.map a.eval) (Zed ts args)
    rw [←this,Ad];rfl
   refine ⟨?_,fun x mx=>?_⟩
   ·rw [he]
    exact ZH.of_map _ _ fun p _=>(Zi6 htt.tt hS hU p.1 p.2).1
   ·obtain ⟨p,_,rfl⟩:=A7.1 mx
    exact (Zi6 htt.tt hS hU p.1 p.2).2
  cases hc:Yx o.op with
  | some c=>
   simp only[Q5,hc] at h
   obtain ⟨_,d⟩:=Zfw htt h hH hU f (b c.2.1 c.2.2).1 (b c.2.1 c.2.2).2
   obtain ⟨e,w',fr,⟨rv,_,g',t1,t2,t3,t4,t5,t6⟩,_⟩:=d []
   exact ⟨_,_,ZeE hS hU i hh j t1 t2 t3 t4 t5 t6,by rw [Zb2];exact hN⟩
  | none=>
   simp only[Q5,hc] at h
   cases hd2:YP o.op with
   | some c=>
    rw [hd2] at h
    simp only at h
    obtain ⟨fc,h1,_,h⟩:=h
    obtain ⟨cs,_,y⟩:=Zof h1 (hS c.1)
    obtain ⟨_,d⟩:=Zfw htt h hH hU f ((b c.2.1 c.2.2).1.append y) (fun x mx=>by
     rcases A4.1 mx with m | m
     ·exact (b c.2.1 c.2.2).2 x m
     ·obtain ⟨c,_,rfl⟩:=A7.1 m
      exact Y8 _)
    obtain ⟨e,w',fr,⟨rv,_,g',t1,t2,t3,t4,t5,t6⟩,_⟩:=d []
    exact ⟨_,_,ZeE hS hU i hh j t1 t2 t3 t4 t5 t6,by rw [Zb2];exact hN⟩
   | none=>
    rw [hd2] at h
    simp only at h
    obtain ⟨g',cv,w',_,t1,t2,t3,t4,t5,t6⟩:=ZmA (P:=P) (W:=W) (a:=a) htt.tt o h hH hS hU (f key (A9 _) yE)
    exact ⟨_,_,ZeE hS hU i hh j t1 t2 t3 t4 t5 t6,by rw [Zb2];exact hN⟩
 unfold opR at h
 split at h
 ·exact q h
 ·exact l h
 ·unfold gK at h
  split at h
  ·split at h
   ·exact q h
   ·exact l h
  ·split at h
   ·exact l h
   ·exact h.elim
theorem Zgu {S:Ctx} {b:Bool} {all:List Oper} {base i:Nat} {r:List Nat} {K:St→Prop} {o:Oper} (ho:all[i]?=some o):ZeD tt S b all base (i::r) K st=ifB b (stk tt S o.op st) (opG tt S all (base+16 * i) o (ZeD tt S b all base r K) st):=by simp only[ZeD,ho]
theorem ZqY [NW] {S:Ctx} {all:List Oper} {base:Nat} {K:St→Prop}:∀(r:List Oper) (i:Nat) (st:St),all.drop i=r→ZY tt S all (base+16 * i) r K st→ZeD tt S false all base (AI i r.length) K st
 | [],_,_,_,h=>h
 | o::r,i,st,hr,h=>by
  have hi:all[i]?=some o:=by
   have:=congrArg (fun l=>l[0]?) hr
   simpa using this
  have a:all.drop (i+1)=r:=by
   have:=congrArg List.tail hr
   simpa using this
  rw [BC,Ap,Zgu hi]
  obtain ⟨v,u,h1,h2⟩:=Zgn.1 h
  refine Zgn.2 ⟨v,u,h1,ZqY r (i+1) _ a ?_⟩
  rw [show base+16 * (i+1)=base+16 * i+16 by omega]
  exact h2
theorem Znp {b c:Bool} {P:Prop}:ifB b c P↔(b=true→c=true)∧P:=by
 cases b<;>simp [ifB]
theorem ZBq [NW] (htt:MOk P J JF W tt) {b:Bool} {f:Array Oper} {N base i:Nat} {o:Oper} (ho:f.toList[i]?=some o) (hN:∀o∈f.toList,∀t,o.dst=some t→t<N∧(W.hv=none∨t≠0)) {K:St→Prop} {R2:List Nat}:∀(R1:List Nat) (U:Nat→Prop) (st:St),(R1++i::R2).Nodup→
  (∀j∈R1,∃oj,f.toList[j]?=some oj∧oj.apart f o=true∧ZrN tt hds b oj.op o.op=true)→(∀j∈R1++i::R2,∀k,base+16 * j≤k→k<base+16 * j+16→¬U k)→ZsX W N U st→
  ZeD tt (SC P J JF hds) b f.toList base (R1++i::R2) K st→(b=true→stk tt (SC P J JF hds) o.op st=true)∧opG tt (SC P J JF hds) f.toList (base+16 * i) o (ZeD tt (SC P J JF hds) b f.toList base (R1++R2) K) st:=by
 intro R1
 induction R1 with
 | nil=>
  intro U st _ _ _ _ h
  rw [Ag,Zgu ho] at h
  exact Znp.1 h
 | cons j R1 ih=>
  intro U st l g hk hR h
  obtain ⟨oj,hj,m,u⟩:=g j yG
  rw [AS,Zgu hj] at h
  obtain ⟨sj,h⟩:=Znp.1 h
  obtain ⟨vj,uj,h1,h2⟩:=Zgn.1 h
  have p:=hk j yG
  have v:=hk i yG
  rw [AS,Ae] at l
  have hij:i≠j:=fun e=>l.1 (by simp [e])
  have w:=Zs5 htt h1 hR p (hN oj (Ar hj))
  obtain ⟨si,h3⟩:=ih (Uk U (base+16 * j)) _ l.2 (fun q mq=>g q (by simp [mq])) (fun q mq k a b hU=>by
   rcases hU with hU | ⟨c,d⟩
   ·exact hk q (by simp;simp at mq;exact .inr mq) k a b hU
   ·have:q=j:=by omega
    subst this
    exact l.1 mq) w h2
  obtain ⟨vi,ui,h4,h5⟩:=Zgn.1 h3
  obtain ⟨_,_,x,_⟩:=hR
  obtain ⟨c1,c2,c3⟩:=ZAS (tt:=tt) (S:=SC P J JF hds) (b:=b) m u x.wf p v yE sj si h1 h4
  have e1:=(Zfp (tt:=tt) (S:=SC P J JF hds) (st:=st) (vi:=vj) (ui:=uj) (vj:=vi) (uj:=ui) m).1
  have e2:=(Zfp (tt:=tt) (S:=SC P J JF hds) (st:=st) (vi:=vj) (ui:=uj) (vj:=vi) (uj:=ui) m).2
  refine ⟨fun hb=>e1.trans (si hb),Zgn.2 ⟨vi,ui,c1,?_⟩⟩
  rw [AS,Zgu hj]
  exact Znp.2 ⟨fun hb=>e2.trans (sj hb),Zgn.2 ⟨vj,uj,c2,c3 ▸ h5⟩⟩
def anc (ops:Array Oper):Nat→Nat→List Nat
 | 0,_=>[]
 | n+1,j=>match ops[j]? with
  | some o=>(o.after.toList.filter (Region.binds .any)).flatMap fun e=>e.on::anc ops n e.on
  | none=>[]
def Zmf (tt:Nat→Option TI) (hds:FuncId→Nat) (b:Bool) (ops:Array Oper) (i j:Nat):Bool:=!Nat.beq i j&&match ops[i]?,ops[j]? with
 | some oi,some oj=>(oi.after.toList.all fun e=>!Region.binds .any e||!Nat.beq e.on j)&&((anc ops ops.size j).contains i||(oi.apart ops oj&&ZrN tt hds b oi.op oj.op))
 | _,_=>true
def Zix (tt:Nat→Option TI) (hds:FuncId→Nat) (b:Bool) (ops:Array Oper):List Nat→Bool
 | []=>true
 | i::r=>r.all (Zmf tt hds b ops i)&&Zix tt hds b ops r
def elB (ops:Array Oper) (j:Nat):Bool:=match ops[j]? with
 | some oj=>oj.after.toList.all fun e=>!Region.binds .any e||(Nat.blt e.on ops.size&&!Nat.beq e.on j)
 | none=>true
def Zwg (ops:Array Oper):Bool:=(AX ops.size).all (elB ops)
def Zql (tt:Nat→Option TI) (hds:FuncId→Nat) (ops:Array Oper):Bool:=Zix tt hds false ops (AX ops.size)&&Zwg ops
def Zru (tt:Nat→Option TI) (hds:FuncId→Nat) (b:Bool) (ops:Array Oper) (l:List Nat):Bool:=Zix tt hds b ops l&&Zwg ops&&Nat.ble l.length ops.size&&l.all (Nat.blt · ops.size)&&(AX ops.size).all l.contains
theorem ZpI {a:Array Oper} (h:Zwg a=true) (j:Nat):elB a j=true:=by
 rcases Nat.lt_or_ge j a.size with hj | hj
 ·exact AF.1 h j (by simpa using hj)
 ·unfold elB
  rw [Array.getElem?_eq_none hj]
theorem ZmE {b:Bool} {a:Array Oper}:∀{l:List Nat},Zix tt hds b a l=true→l.Pairwise fun i j=>Zmf tt hds b a i j=true
 | [],_=>List.Pairwise.nil
 | i::r,h=>by
  simp only[Zix,AC,AF] at h
  exact List.Pairwise.cons h.1 (ZmE h.2)
theorem ZqD {i j:Nat} (h:(!Nat.beq i j)=true):i≠j:=fun e=>by subst e;simp at h
theorem ZjI {b:Bool} {a:Array Oper} {i j:Nat} {oi oj:Oper} (h:Zmf tt hds b a i j=true) (hi:a[i]?=some oi) (hj:a[j]?=some oj):(∀e∈oi.after,Region.binds .any e=true→e.on≠j)∧(i∈anc a a.size j∨(oi.apart a oj=true∧ZrN tt hds b oi.op oj.op=true)):=by
 simp only[Zmf,hi,hj,AC,AF,AW] at h
 refine ⟨fun e me hb=>?_,h.2.2.imp (fun h=>by simpa using h) fun h=>h⟩
 have h1:=h.2.1 e (by simpa using me)
 rw [hb] at h1
 exact ZqD (h1.resolve_left yG)
theorem Zlf {b:Array Oper} {a:Array Bool} (c:∀i o,b[i]?=some o→a.getD i false=true→∀e∈o.after,Region.binds .any e=true→a.getD e.on false=true):
  ∀(n j:Nat) (o:Oper),b[j]?=some o→(∀e∈o.after,Region.binds .any e=true→a.getD e.on false=true)→∀i∈anc b n j,a.getD i false=true
 | 0,j,o,_,_,i,mi=>by simp [anc] at mi
 | n+1,j,o,ho,he,i,mi=>by
  simp only[anc,ho,AA,List.mem_filter] at mi
  obtain ⟨e,⟨me,hb⟩,mi⟩:=mi
  have hl:=he e (by simpa using me) hb
  rcases A8.1 mi with rfl | mi
  ·exact hl
  ·cases ho':b[e.on]? with
   | none=>cases n<;>simp [anc,ho'] at mi
   | some o'=>exact Zlf c n e.on o' ho' (fun e' d f=>c e.on o' ho' hl e' d f) i mi
theorem ZrL [NW] (htt:MOk P J JF W tt) {b:Bool} {g:Array Oper} {N base:Nat} (hN:∀o∈g.toList,∀t,o.dst=some t→t<N∧(W.hv=none∨t≠0)) (hE:∀j,elB g j=true) {K:St→Prop}
  (hQ:∀U' st' a' w',Inv W U' st' a' w'→(∀k,base+16 * g.size≤k→¬U' k)→a'.tmps.size=N→K st'→Q .normal a' w'):
  ∀(p:Nat) (R:List Nat) (f:Array Bool) (U:Nat→Prop) (st:St) (a:Act) (w:World),R.length≤p→R.Pairwise (fun i j=>Zmf tt hds b g i j=true)→f.size=g.size→(∀i,i∈R↔(i<g.size∧f.getD i true=false))→
   (∀i o,g[i]?=some o→f.getD i false=true→∀e∈o.after,Region.binds .any e=true→f.getD e.on false=true)→
   ZeD tt (SC P J JF hds) b g.toList base R K st→Inv W U st a w→(∀j∈R,∀k,base+16 * j≤k→k<base+16 * j+16→¬U k)→(∀k,base+16 * g.size≤k→¬U k)→a.tmps.size=N→wpAny P .any g Q p f a w:=by
 have L:∀j oj,g[j]?=some oj→∀e∈oj.after,Region.binds .any e=true→e.on<g.size∧e.on≠j:=fun j oj hj e me hb=>by
  have h1:=hE j
  simp only[elB,hj,AF,AW,AC] at h1
  have h2:=h1 e (by simpa using me)
  rw [hb] at h2
  have h3:=h2.resolve_left yG
  exact ⟨AG h3.1,ZqD h3.2⟩
 intro p
 induction p with
 | zero=>
  intro R f U st a w B _ y l _ h hI _ hU hs
  have hR:R=[]:=AY yE
  subst hR
  refine ⟨?_,hQ U st a w hI hU hs h⟩
  rw [List.eq_nil_iff_forall_not_mem]
  intro i mi
  obtain ⟨h1,o,h2,_⟩:=mem_ready.1 mi
  exact absurd ((l i).2 ⟨(Aa.1 h2).1,h1⟩) yG
 | succ p ih=>
  intro R f U st a w B z y l F h hI hk hU hs
  refine ⟨fun hr=>?_,fun i mi=>?_⟩
  ·cases R with
   | nil=>exact hQ U st a w hI hU hs h
   | cons r0 R=>
    exfalso
    obtain ⟨m1,m2⟩:=(l r0).1 yG
    have:r0∈Region.ready .any g f:=mem_ready.2 ⟨m2,g[r0],by simp [m1],fun e me hb=>by
     have x:=L r0 g[r0] (by simp [m1]) e me hb
     by_cases hl:f.getD e.on true=false
     ·have mR:=(l e.on).2 ⟨x.1,hl⟩
      rcases A8.1 mR with e1 | mR
      ·exact absurd e1 x.2
      ·exact absurd rfl ((ZjI ((List.pairwise_cons.1 z).1 _ mR) (oi:=g[r0]) (oj:=g[e.on]'x.1) (by simp [m1]) (by simp [x.1])).1 e me hb)
     ·have G:e.on<f.size:=by omega
      simp only[AB,G,getElem?_pos,Al,Bool.not_eq_false] at hl ⊢
      exact hl⟩
    rw [hr] at this
    simp at this
  ·obtain ⟨i1,o,i2,i3⟩:=mem_ready.1 mi
   have C:i<g.size:=(Aa.1 i2).1
   have M:i∈R:=(l i).2 ⟨C,i1⟩
   obtain ⟨R1,R2,rfl⟩:=List.append_of_mem M
   have A:(R1++i::R2).Nodup:=z.imp fun h=>by
    simp only[Zmf,AC] at h
    exact ZqD h.1
   have ho:g.toList[i]?=some o:=by simpa using i2
   have H:=Zlf F g.size i o i2 i3
   have D:∀j∈R1,∃oj,g.toList[j]?=some oj∧oj.apart g o=true∧ZrN tt hds b oj.op o.op=true:=fun j mj=>by
    obtain ⟨j1,j2⟩:=(l j).1 (by simp [mj])
    have O:=(List.pairwise_append.1 z).2.2 j mj i yG
    have hj:g[j]?=some g[j]:=by simp [j1]
    refine ⟨g[j],by simp [j1],(ZjI O hj i2).2.resolve_left fun ma=>?_⟩
    have:=H j ma
    have x:j<f.size:=by omega
    simp only[AB,x,getElem?_pos,Al] at this j2
    rw [this] at j2;simp at j2
   have S:=(ZBq htt ho hN R1 U st A D hk ⟨a,w,hI,hs⟩ h).2
   refine wpOp_mono ?_ (ZmK htt i2 S hI (hk i yG) (fun t ht=>by rw [hs];exact hN o (Ar ho) t ht))
   rintro a' w' ⟨st',T,hs',V⟩
   have I:∀q,(f.setIfInBounds i true).getD q true=if q=i then true else f.getD q true:=fun q=>by
    by_cases e:q=i
    ·subst e;simp [AB,Aq,y,C]
    ·simp [AB,Ac (fun e':i=q=>e e'.symm),e]
   have E:∀q,(f.setIfInBounds i true).getD q false=if q=i then true else f.getD q false:=fun q=>by
    by_cases e:q=i
    ·subst e;simp [AB,Aq,y,C]
    ·simp [AB,Ac (fun e':i=q=>e e'.symm),e]
   have v:i∉R1++R2:=by
    rw [AK] at A
    intro m
    rcases A4.1 m with m | m
    ·exact A.2.2 i m i yG rfl
    ·exact (Ae.1 A.2.1).1 m
   refine ih (R1++R2) _ (Uk U (base+16 * i)) st' a' w' (by simp at B ⊢;omega) (z.sublist (AH (AE _) (List.sublist_cons_self i R2))) (by simp [y]) (fun q=>?_) (fun q oq hq hl e me hb=>?_) V T (fun q mq k c d u=>?_) (fun k X u=>?_) yE
   ·rw [I q]
    by_cases e:q=i
    ·subst e;simp only[if_true,Bool.true_eq_false,and_false,iff_false];exact v
    ·rw [if_neg e,←l q];simp [e]
   ·rw [E] at hl ⊢
    by_cases e1:e.on=i
    ·simp [e1]
    ·rw [if_neg e1]
     by_cases e2:q=i
     ·subst e2
      rw [i2] at hq
      simp only[A0] at hq
      subst hq
      exact i3 e me hb
     ·rw [if_neg e2] at hl
      exact F q oq hq hl e me hb
   ·have Y:q∈R1++i::R2:=by simp at mq ⊢;rcases mq with mq | mq<;>simp [mq]
    rcases u with u | ⟨c',d'⟩
    ·exact hk q Y k c d u
    ·have:q=i:=by omega
     subst this
     exact v mq
   ·rcases u with u | ⟨c',d'⟩
    ·exact hU k X u
    ·omega
end
end
end Go.Proofs.YtekbmedphidcgaaGreatDoor
