/- Texts of this proof, joined: BOps7, BOps8, BFrz, BOpsM, BOps9, BCall, BCall2, BReg, BDraw, BAny, BSound. What each holds is said at its theorems. -/
import Derived.Test.YtojnhepgnbhaaaaGreatDoorWithdrawFactQ3
import Derived.MapKept
import Derived.Orders
set_option linter.unusedSimpArgs false
set_option linter.unusedVariables false
namespace Go.Proofs.YtojnhepgnbhaaaaGreatDoor
open Go.RowKit
section
variable {P:Program} {W:Q8} {U:Nat→Prop} {key:Nat} {st:St} {g:Gh} {w w':World} {a:Act} {tt:Nat→Option TI}
theorem Zxd [NW] (htt:∀t i,tt t=some i→TOk P t i) (hI:HI W g st.ob w) (hS:∀t,SVR g w (st.sl t) (a.tmps.getD t undef)) (hU:StU U st) (hkey:¬U key) {t len e m bytes:Nat} {z:List AV} (hti:tt t=some (.slice e m bytes z)) {parts:Array (Nat × Operand)} {xs:List (List CT)} {ks:List Nat} {d:Nat}
  (h:Y1 st m (parts.toList.map fun p=>st.ev tt e p.2)=some (xs,ks,d)) (hr:parts.toList.map (·.1)=List.range len) (hl:len * m≤16777216) (hnd:ks.Nodup) {s:Sem Next} (hs:s=(do pure (.value (←Instr.buildSlice t len (parts.map fun (i,x)=>(i,a.eval x)))))):
  Fin P W U key st g w s (.p false [.row key],ZP st ks++[(key,.row e m xs d)]):=by
 obtain ⟨hu,hm,_,⟨ie,zv,hie,hsz,hby,hz,hzc,hzl⟩,_⟩:=htt t _ hti
 have hall:ZH (fun s v=>SVR g w s v∧svU U s) (parts.toList.map fun p=>st.ev tt e p.2) (parts.toList.map fun p=>a.eval p.2):=ZH.of_map _ _ fun p _=>Zjj htt hS hU e p.2
 obtain ⟨cs,L,c1,c2,c3,c4⟩:=Zoj hI h hall
 have hlen:parts.toList.length=len:=by have:=congrArg List.length hr;simpa using this
 have hcl:cs.length=len:=by rw [c1.len];simpa using hlen
 have hxl:xs.length=len:=by
  have h1:=c2.len
  have h2:cs.flatten.length=len * m:=by
   have:∀(cs:List (List Value)) (vs:List Value),ZH (fun (c:List Value) (v:Value)=>v.cells=c.toArray∧c.length=m∧∀u∈c,u.oneCell'=true) cs vs→cs.flatten.length=cs.length * m:=by
    intro cs
    induction cs with
    | nil=>intro _ _;simp
    | cons c cs ih=>
     intro vs hh
     cases vs with
     | nil=>exact hh.elim
     | cons v vs=>simp [ih vs hh.2,hh.1.2.1,Nat.add_mul];omega
   rw [this cs _ c1,hcl]
  rw [h2] at h1
  exact (Nat.eq_of_mul_eq_mul_right hm h1).symm
 have hparts:(parts.map fun x=>match x with | (i,x)=>(i,a.eval x)).toList=(List.range' 0 (parts.toList.map fun p=>a.eval p.2).length).zip (parts.toList.map fun p=>a.eval p.2):=by
  have e1:(parts.map fun x=>match x with | (i,x)=>(i,a.eval x)).toList=(parts.toList.map (·.1)).zip (parts.toList.map fun p=>a.eval p.2):=by
   rw [List.zip_map'];simp
  rw [e1,hr,List.range_eq_range']
  simp [hlen]
 have hrun:(Instr.buildSlice t len (parts.map fun (i,x)=>(i,a.eval x))).run P w=.ok (.slice (some ⟨w.heap.size,0,none⟩) len len) (w.alloc (.cells cs.flatten.toArray e)):=by
  have hcells:∀base:List Value,base.length=len * m→Instr.fill (fun i=>some (i * m,m)) base.toArray (parts.map fun x=>match x with | (i,x)=>(i,a.eval x)).toList=some cs.flatten.toArray:=fun base hb=>by
   rw [hparts]
   have:=Zo2 cs (parts.toList.map fun p=>a.eval p.2) 0 [] base c1 (by simp) (by simpa [hlen] using hb)
   simpa using this
  by_cases h0:len=0
  ·subst h0
   have hcs0:cs=[]:=List.eq_nil_of_length_eq_zero hcl
   subst hcs0
   have hp0:parts=#[]:=by
    have:parts.toList=[]:=List.eq_nil_of_length_eq_zero hlen
    simpa using this
   subst hp0
   simp [Instr.buildSlice,Yw hu,XH hie,Instr.fill,newRow,Array.range_zero']
  ·have hpos:¬len * ie.size=0:=by
    rw [hsz];intro e;rcases Nat.mul_eq_zero.1 e with e | e<;>omega
   refine run_buildSlice w t e len _ _ ie zv hu hie hz (by rw [hsz];omega) hpos ?_
   rw [hsz]
   have hb:=hcells ((Array.range (len * m)).map (zv.cells[· % zv.cells.size]!)).toList (by simp)
   rw [Array.toArray_toList] at hb
   exact hb
 have hown:=Zfj <| World.ownsRow_lit (base:=0) (e:=e) (size:=m) w cs.flatten.toArray len (Nat.zero_le _) (by unfold maxLen;have:=Nat.le_mul_of_pos_right len hm;omega) (by
  have h1:=c2.len
  rw [hxl] at h1
  simpa using h1)
 refine Zp7 hI hU hkey hm (v:=.slice (some ⟨w.heap.size,0,none⟩) len len) (cs:=cs.flatten) (w':=w.alloc (.cells cs.flatten.toArray e)) (by rw [hxl];simpa using hown) rfl ((Below.refl _ _).alloc (Nat.le_refl _) _) ⟨_,_,heap_alloc_new w _⟩ c2 c3 c4 (Zjg h) hnd ?_
 subst hs
 simp only [Sem.run_bind,hrun,Result.andThen_ok,Sem.run_pure]
theorem ZgB {m:Nat} {ze:List CT} {zc:List Value} (h:RCs w ze zc []) (hl:zc.length=m):∀n:Nat,REs w m (List.replicate n ze) (List.replicate n zc).flatten []
 | 0=>by simp [REs]
 | n+1=>by
  rw [List.replicate_succ,List.replicate_succ,List.flatten_cons]
  exact ⟨zc,_,[],[],rfl,rfl,⟨h,hl⟩,ZgB h hl n⟩
theorem Zna [NW]:∀{z:List AV} {zs:List Value} {ze:List CT},ZjO z=some ze→ZH (fun a v=>Q7 a v=true) z zs→RCs w ze zs []
 | [],[],ze,h,_=>by simp [ZjO] at h;subst h;exact ⟨rfl,rfl⟩
 | [],_::_,_,_,h=>h.elim
 | _::_,[],_,_,h=>h.elim
 | .c x::z,v::zs,ze,h,hr=>by
  simp only [ZjO] at h
  obtain ⟨b,h1,rfl⟩:=Option.map_eq_some_iff.1 h
  have hx:=Zex (g:=⟨fun _=>undef,fun _=>[],fun _=>[],fun _=>False⟩) (w:=w) hr.1
  obtain ⟨L,hL,_⟩:=hx
  have hL0:L=[]:=by
   have:=hr.1
   cases x with
   | int k n=>exact hL.2
   | bool b=>exact hL.2
   | str s=>exact hL.2.1
   | _=>simp [Q7] at this
  subst hL0
  exact ⟨v,zs,[],[],rfl,rfl,hL,Zna h1 hr.2⟩
 | .nil e m::z,v::zs,ze,h,hr=>by
  simp only [ZjO] at h
  split at h
  ·rename_i hm
   obtain ⟨b,h1,rfl⟩:=Option.map_eq_some_iff.1 h
   have hv:v=.slice none 0 0:=Zex (g:=⟨fun _=>undef,fun _=>[],fun _=>[],fun _=>False⟩) (w:=w) hr.1
   subst hv
   exact ⟨_,zs,[],[],rfl,rfl,⟨none,0,[],[],[],rfl,by simp,Nat.zero_le _,rfl,hm,Sl.zero,rfl,rfl⟩,Zna h1 hr.2⟩
  ·simp at h
 | .row k::z,v::zs,ze,h,_=>by simp [ZjO] at h
 | .n x::z,v::zs,ze,h,_=>by simp [ZjO] at h
 | .dead::z,v::zs,ze,h,_=>by simp [ZjO] at h
theorem ZmM (z:Array Value) (m:Nat) (hz:z.size=m) (hm:0<m):∀n:Nat,(madeCells z (n * m)).toList=(List.replicate n z.toList).flatten
 | 0=>by simp [madeCells]
 | n+1=>by
  have ih:=ZmM z m hz hm n
  rw [List.replicate_succ',List.flatten_append,←ih]
  simp only [madeCells,Array.toList_map,Array.toList_range,Nat.add_mul,Nat.one_mul,List.range_add,List.map_append,List.map_map,List.flatten_cons,List.flatten_nil,List.append_nil]
  congr 1
  apply List.ext_getElem?
  intro j
  by_cases hj:j<m
  ·simp only [List.getElem?_map,List.getElem?_range hj,Option.map_some,Function.comp]
   have e:(n * m+j) % z.size=j:=by
    rw [hz,Nat.add_comm,Nat.add_mul_mod_self_right,Nat.mod_eq_of_lt hj]
   have hjz:j<z.size:=by omega
   simp [e,hjz]
  ·have h1:z.size≤j:=by omega
   simp [hj,h1]
theorem ZtE [NW] (htt:∀t i,tt t=some i→TOk P t i) (hI:HI W g st.ob w) (hU:StU U st) (hkey:¬U key) {t e m bytes:Nat} {z:List AV} (hti:tt t=some (.slice e m bytes z)) {n:Nat} {ze:List CT} (hz:ZjO z=some ze) (hn:n≤1073741824) {s:Sem Next}
  (hs:s=(do pure (.value (←Instr.makeSlice t (.int .i64 n) (.int .i64 n))))):Fin P W U key st g w s (.p false [.row key],[(key,.row e m (List.replicate n ze) 2)]):=by
 obtain ⟨hu,hm,hby0,⟨ie,zv,hie,hsz,hby,hzz,hzc,hzl⟩,_⟩:=htt t _ hti
 have hb':ie.bytes * n≤281474976710656:=by
  have:=Nat.mul_le_mul (show ie.bytes≤131072 by omega) hn
  omega
 obtain ⟨w',r1,r2,r3⟩:=run_make_full (P:=P) w 0 t e ie zv m hu hie hzz hsz .i64 .i64 n hb' (by unfold maxLen;omega) (Nat.zero_le _)
 have hzs:zv.cells.size=m:=by rw [←hzl,hzc.len];simp
 rw [ZmM zv.cells m hzs hm n] at r2
 have hre:=ZgB (Zna (w:=w) hz hzc) (by simpa using hzs) n
 have hb:Below w.heap.size w w':=(Below.refl _ _).grown r3 (Nat.le_refl _) (by simp)
 have hpl:∃cur e,w'.heap[w.heap.size]?=some (.cells cur e (0,0)):=by
  rcases r2.2 with ⟨h',_⟩ | ⟨g',cap',cur,h',_,hg,_⟩
  ·simp at h'
  ·simp at h'
   rw [←h'.1] at hg
   exact ⟨cur,e,hg⟩
 have:=ZrJ (ks:=[]) (d:=2) hI hU hkey hm (xs:=List.replicate n ze) (by simpa using Zfj r2) rfl hb hpl hre FP.nil (by simp) (by simp) (by simp) (s:=s) (P:=P) (by subst hs;simp only [Sem.run_bind,r1,Result.andThen_ok,Sem.run_pure])
 simpa [Zam] using this
theorem Zox [NW] {t e:TypeId} {ty:TypeId} {ie:TypeInfo} (hu:P.underlying t=some (.slice e)) (hie:P.info? e=some ie) (A B:Option Addr) (n c c':Nat) (hnc:n≤c):
  (Builtin.append_ #[t,t] ty #[.slice A n c,.slice B 0 c']).run P w=.ok (.slice A n c) w:=by
 cases A<;>cases B<;>simp [Builtin.append_,Yw hu,XH hie,Builtin.lenOf,Builtin.firstCells,loadCells,loadCellsFrom,storeCells,hnc]
theorem Zod:∀{e:List CT} {cs:List Value} {L:List Nat},RCs w e cs L→e.all CT.flat=true→L=[]
 | [],_,_,h,_=>h.2
 | x::r,_,_,⟨v,cs',L1,L2,rfl,rfl,h1,h2⟩,hf=>by
  simp only [List.all_cons,Bool.and_eq_true] at hf
  have e1:L1=[]:=by
   cases x with
   | int k n=>exact h1.2
   | bool b=>exact h1.2
   | str s=>exact h1.2.1
   | _=>simp [CT.flat] at hf
  rw [e1,Zod h2 hf.2];rfl
theorem ZhX [NW] {m:Nat}:∀{xs:List (List CT)} {cs:List Value} {L:List Nat},REs w m xs cs L→Zaz xs=true→L=[]
 | [],_,_,h,_=>h.2
 | x::r,_,_,⟨c1,c2,L1,L2,rfl,rfl,h1,h2⟩,hf=>by
  simp only [Zaz,List.all_cons,Bool.and_eq_true] at hf
  rw [Zod h1.1 hf.1,ZhX h2 hf.2];rfl
theorem REs.append {m:Nat}:∀{xs ys:List (List CT)} {us vs:List Value} {L M:List Nat},REs w m xs us L→REs w m ys vs M→REs w m (xs++ys) (us++vs) (L++M)
 | [],_,_,_,_,_,h,h'=>by obtain ⟨rfl,rfl⟩:=h;simpa using h'
 | _::_,_,_,_,_,_,⟨c1,c2,L1,L2,rfl,rfl,h3,h4⟩,h'=>⟨c1,c2++_,L1,L2++_,by simp,by simp,h3,h4.append h'⟩
theorem REs.one {m:Nat}:∀{xs:List (List CT)} {cs:List Value} {L:List Nat},REs w m xs cs L→∀u∈cs,u.oneCell'=true
 | [],_,_,h=>by simp [h.1]
 | _::_,_,_,⟨c1,c2,L1,L2,rfl,rfl,h3,h4⟩=>fun u mu=>by
  rcases List.mem_append.1 mu with mu | mu
  ·exact h3.1.one u mu
  ·exact h4.one u mu
theorem Zsy {a b:Nat} (h:ZeK a b=2) (ha:a≤2) (hb:b≤2):a=2∧b=2:=by unfold ZeK at h;split at h<;>omega
theorem ZmL {fl:Bool} {xs:List (List CT)} (h:ZhV fl xs=2):Zaz xs=true:=by unfold ZhV at h;split at h<;>simp_all
theorem Zo4 (fl:Bool) (xs:List (List CT)):ZhV fl xs≤2:=by unfold ZhV;split<;>omega
theorem Zm2 (fl:Bool) (xs:List (List CT)):0<ZhV fl xs:=by unfold ZhV;split<;>omega
theorem HI.plainD [NW] {ob:Nat→Ob} (h:HI W g ob w) {k b:Nat} (m:b∈g.D k):(W.heap.size≤b∨W.x b)∧∃cur e,w.heap[b]?=some (.cells cur e (0,0)):=by
 have h1:=h.plain k b (by simp [m])
 have h2:=h.obs k
 cases hk:ob k with
 | map kk vk kv=>
  rw [hk] at h2
  obtain ⟨_,_,_,_,_,h3,_⟩:=h2
  rw [h3] at m;simp at m
 | _=>rw [hk] at h1;exact h1
theorem Zwv [NW] (hI:HI W g st.ob w) {x:SV} {v:Value} {e m:Nat} {xs:List (List CT)} {ks:List Nat} {d:Nat} (h:Zne st x=some (xs,ks,d)) (hok:ZqQ st e m x=true) (hx:SVR g w x v) (hu:svU U x):
  ∃cs L,w.ownsV 0 e m v xs.length cs∧REs w m xs cs L∧(∀b∈L,¬g.own b)∧(d=2→L=ks.flatMap g.D)∧v.ownBlock.toList=ks.flatMap g.O∧(∀k∈ks,U k)∧d≤2∧0<d:=by
 unfold Zne at h
 split at h
 ·simp only [Option.some.injEq,Prod.mk.injEq] at h
  obtain ⟨rfl,rfl,rfl⟩:=h
  have:=Zqi hx
  subst this
  exact ⟨[],[],ZiI _ _ _ _,⟨rfl,rfl⟩,by simp,by simp,by simp [Value.ownBlock],by simp,by simp,by simp⟩
 ·rename_i k
  split at h
  ·rename_i e' m' xs' d' hk
   split at h
   ·simp at h
   rename_i hd0
   simp only [Option.some.injEq,Prod.mk.injEq] at h
   obtain ⟨rfl,rfl,rfl⟩:=h
   simp only [ZqQ,hk,Bool.and_eq_true,beq_iff_eq] at hok
   obtain ⟨rfl,rfl⟩:=hok
   have:=ZeY hx
   subst this
   obtain ⟨hm,cs,L,o1,o2,o3,o4,o5⟩:=hI.deepO hk hd0
   refine ⟨cs,L,o1,o2,o3,fun hd=>?_,by simp [o4],fun q mq=>by simp at mq;subst mq;exact hu (.row q) (by simp),?_,by omega⟩
   ·rcases o5 with ⟨_,o5⟩ | ⟨o5,_⟩
    ·simp [o5]
    ·omega
   ·rcases o5 with ⟨o5,_⟩ | ⟨o5,_⟩<;>omega
  ·simp at h
 ·simp at h
theorem ZxI [NW] (hI:HI W g st.ob w) {x:SV} {v:Value} {m:Nat} {xs:List (List CT)} {ks:List Nat} {d:Nat} {fl:Bool} (h:ZnG st fl x=some (xs,ks,d)) (hok:Zpm st m x=true) (hx:SVR g w x v) (hu:svU U x):
  ∃A c cs L,v=.slice A xs.length c∧REs w m xs cs L∧(0<xs.length→∃b off,A=some ⟨b,off,none⟩∧XX w b off cs)∧(∀b∈L,¬g.own b)∧(d=2→L.Sublist (ks.flatMap g.D))∧(∀k∈ks,U k)∧d≤2∧0<d:=by
 unfold ZnG at h
 split at h
 ·simp only [Option.some.injEq,Prod.mk.injEq] at h
  obtain ⟨rfl,rfl,rfl⟩:=h
  simp only [Zpm,beq_iff_eq] at hok
  subst hok
  obtain ⟨A,cap,cs,L0,L1,rfl,h2,h3,h5,h6,h7,ho⟩:=Zfz hx
  refine ⟨A,cap,cs,L1,rfl,h7,fun hp=>?_,fun b mb=>ho b (by simp [mb]),fun hd=>by rw [ZhX h7 (ZmL hd)];simp,by simp,Zo4 _ _,Zm2 _ _⟩
  obtain ⟨b,off,h8,_,h9⟩:=h6.at_ hp
  exact ⟨b,off,h8,h9⟩
 ·simp only [Option.some.injEq,Prod.mk.injEq] at h
  obtain ⟨rfl,rfl,rfl⟩:=h
  have:=Zqi hx
  subst this
  exact ⟨none,0,[],[],rfl,⟨rfl,rfl⟩,by simp,by simp,by simp,by simp,by simp,by simp⟩
 ·rename_i k
  split at h
  ·rename_i e' m' xs' d' hk
   simp only [Zpm,hk,beq_iff_eq] at hok
   subst hok
   have:=ZeY hx
   subst this
   obtain ⟨hm,cs,L,o1,o2,o3,o5⟩:=hI.deep hk
   obtain ⟨A,cap,L0,s1,s2,s3,s4,s5⟩:=Sl.row o1
   have hat:0<xs'.length→∃b off,A=some ⟨b,off,none⟩∧XX w b off cs:=fun hp=>by
    obtain ⟨b,off,h8,_,h9⟩:=s4.at_ hp
    exact ⟨b,off,h8,h9⟩
   split at h
   ·simp only [Option.some.injEq,Prod.mk.injEq] at h
    obtain ⟨rfl,rfl,rfl⟩:=h
    exact ⟨A,cap,cs,L,s1,o2,hat,o3,fun hd=>by rw [ZhX o2 (ZmL hd)];simp,by simp,Zo4 _ _,Zm2 _ _⟩
   ·rename_i hd0
    simp only [Option.some.injEq,Prod.mk.injEq] at h
    obtain ⟨rfl,rfl,rfl⟩:=h
    refine ⟨A,cap,cs,L,s1,o2,hat,o3,fun hd=>?_,fun q mq=>by simp at mq;subst mq;exact hu (.row q) (by simp),?_,by omega⟩
    ·rcases o5 with ⟨_,_,o5⟩ | ⟨o5,_⟩ | ⟨o5,_⟩
     ·simp [o5]
     ·omega
     ·omega
    ·rcases o5 with ⟨o5,_⟩ | ⟨o5,_⟩ | ⟨o5,_⟩<;>omega
  ·simp at h
 ·simp at h
theorem HI.nodupD [NW] {ob:Nat→Ob} (hI:HI W g ob w):∀{ks:List Nat},ks.Nodup→(ks.flatMap g.D).Nodup
 | [],_=>by simp
 | k::ks,h=>by
  simp only [List.flatMap_cons,List.nodup_append]
  rw [List.nodup_cons] at h
  refine ⟨(List.nodup_append.1 (hI.nodup k)).2.1,hI.nodupD h.2,fun x hx y hy e=>?_⟩
  subst e
  obtain ⟨j,hj,hy⟩:=List.mem_flatMap.1 hy
  exact hI.apart k j (fun e=>h.1 (e ▸ hj)) x (by simp [hx]) (by simp [hy])
theorem ZxN [NW] (htt:∀t i,tt t=some i→TOk P t i) (hI:HI W g st.ob w) (hU:StU U st) (hkey:¬U key) {t:Nat} {s x:SV} {vs vx:Value} {r:SV × List (Nat × Ob)} (h:ZtI st key (tt t) s x=some r) (hs:SVR g w s vs∧svU U s) (hx:SVR g w x vx∧svU U x) {ty:TypeId} {q:Sem Next}
  (hq:q=(do pure (.value (←Builtin.append_ #[t,t] ty #[vs,vx])))):Fin P W U key st g w q r:=by
 unfold ZtI at h
 split at h
 ·rename_i e m bytes z hti
  obtain ⟨⟨xs,k1,d1⟩,h1,h⟩:=Option.bind_eq_some_iff.1 h
  obtain ⟨⟨ys,k2,d2⟩,h2,h⟩:=Option.bind_eq_some_iff.1 h
  split at h
  ·rename_i hc
   simp only [Option.some.injEq] at h
   subst h
   obtain ⟨hc1,hc2,hc3,hc4⟩:=hc
   simp only at hc3 hc4
   obtain ⟨hu,hm,hby0,⟨ie,zv,hie,hsz,hby,hzz,hzc,hzl⟩,_⟩:=htt t _ hti
   obtain ⟨cs,Lx,a1,a2,a3,a4,a5,a6,a7,a8⟩:=Zwv hI h1 hc1 hs.1 hs.2
   obtain ⟨A,c,news,Ly,b0,b1,b2,b3,b4,b5,b7,b8⟩:=ZxI hI h2 hc2 hx.1 hx.2
   subst b0
   obtain ⟨A1,cap1,hv1,hv2,hv3⟩:=Zar a1
   have hnl:news.length=ys.length * m:=b1.len
   obtain ⟨v',w',r1,r2,r3,r4⟩:∃v' w',(Builtin.append_ #[t,t] ty #[vs,.slice A ys.length c]).run P w=.ok v' w'∧w'.ownsV 0 e m v' (xs.length+ys.length) (cs++news)∧w.grownBy w' vs.ownBlock∧(v'.ownBlock=vs.ownBlock∨v'.ownBlock=some w.heap.size):=by
    by_cases hy:ys.length=0
    ·have hn0:news=[]:=List.eq_nil_of_length_eq_zero (by rw [hnl,hy];simp)
     refine ⟨vs,w,?_,by rw [hn0,hy,List.append_nil];exact a1,World.grownBy.refl _ _,.inl rfl⟩
     rw [hv1,hy]
     exact Zox hu hie A1 A _ _ _ hv2
    ·obtain ⟨b,off,rfl,hcell⟩:=b2 (by omega)
     have hbytes:(xs.length+ys.length) * bytes≤140737488355328:=by
      have:=Nat.mul_le_mul hc4 hby0
      omega
     obtain ⟨v',w',q1,q2,q3,q5⟩:=ZjH (P:=P) w 0 t ty e ie zv m bytes hu hie hzz hsz hby (by rw [←hzl,hzc.len];simp) hm vs xs.length cs a1 ⟨b,off,none⟩ ys.length c news hnl
      (fun j u hj=>by rw [ZcL];exact hcell j u hj) b1.one (by unfold maxLen;omega) hbytes (Nat.zero_le _)
     exact ⟨v',w',q1,q2,q3,q5⟩
   have hnot:∀b,¬g.own b→some b≠vs.ownBlock:=fun b hn e=>hn (by
    have:b∈vs.ownBlock.toList:=by simp [←e]
    rw [a5] at this
    obtain ⟨k,_,mk⟩:=List.mem_flatMap.1 this
    exact .inl ⟨k,mk⟩)
   have hkeepL:∀b∈Lx++Ly,w'.heap[b]?=w.heap[b]?:=fun b mb=>by
    rcases List.mem_append.1 mb with mb | mb
    ·exact r3.block b (a2.lt b mb) (hnot b (a3 b mb))
    ·exact r3.block b (b1.lt b mb) (hnot b (b3 b mb))
   have hREs:REs w' m (xs++ys) (cs++news) (Lx++Ly):=(a2.keep fun b mb=>hkeepL b (by simp [mb])).append (b1.keep fun b mb=>hkeepL b (by simp [mb]))
   have hOwn:∀b∈v'.ownBlock.toList,b∈k1.flatMap g.O∨b=w.heap.size:=fun b mb=>by
    rcases r4 with r4 | r4
    ·rw [r4,a5] at mb;exact .inl mb
    ·rw [r4] at mb;simp at mb;exact .inr mb
   have hDsub:(ZeK d1 d2)=2→(Lx++Ly).Sublist ((k1++k2).flatMap g.D):=fun hd=>by
    have hd:=Zsy hd a7 b7
    rw [List.flatMap_append]
    exact List.Sublist.append (by rw [a4 hd.1];exact List.Sublist.refl _) (b4 hd.2)
   have hDm:∀b∈(if (ZeK d1 d2)=2 then Lx++Ly else []),b∈Lx++Ly∧(ZeK d1 d2)=2:=fun b mb=>by
    split at mb
    ·rename_i hd;exact ⟨mb,hd⟩
    ·simp at mb
   have hbel:Bel W w':=by
    refine ⟨r3.os.trans hI.below.os,r3.tape.trans hI.below.tape,r3.output.trans hI.below.output,Nat.le_trans hI.below.size r3.size,fun b hb hx'=>?_⟩
    rw [r3.block b (Nat.lt_of_lt_of_le hb hI.below.size) fun e=>?_]
    ·exact hI.below.block b hb hx'
    ·have:b∈vs.ownBlock.toList:=by simp [←e]
     rw [a5] at this
     obtain ⟨k,_,mk⟩:=List.mem_flatMap.1 this
     rcases (hI.plain k b (by simp [mk])).1 with h | h
     ·omega
     ·exact hx' h
   obtain ⟨t1,t2⟩:=hI.turn (key:=key) (U:=U) (w':=w') (v:=v') (O:=v'.ownBlock.toList) (D:=if (ZeK d1 d2)=2 then Lx++Ly else []) (o:=.row e m (xs++ys) (ZeK d1 d2)) hU.ob hkey (k1++k2)
    (fun k mk=>(List.mem_append.1 mk).elim (a6 k) (b5 k)) hbel r3.size (fun b hb hn=>r3.block b hb fun e=>by
     have:b∈vs.ownBlock.toList:=by simp [←e]
     rw [a5] at this
     obtain ⟨k,hk,mk⟩:=List.mem_flatMap.1 this
     exact hn k (by simp [hk]) mk)
    (fun b mb=>by
     rcases hOwn b mb with mb | rfl
     ·obtain ⟨k,hk,mk⟩:=List.mem_flatMap.1 mb
      exact .inl ⟨k,by simp [hk],mk⟩
     ·exact .inr (Nat.le_refl _))
    (fun b mb=>by
     obtain ⟨m1,m2⟩:=hDm b mb
     obtain ⟨k,hk,mk⟩:=List.mem_flatMap.1 ((hDsub m2).subset m1)
     exact .inl ⟨k,hk,by simp [mk]⟩)
    (by
     rw [List.nodup_append]
     refine ⟨by cases v'.ownBlock<;>simp,?_,fun b mb b' mb' e=>?_⟩
     ·split
      ·rename_i hd;exact (hI.nodupD hc3).sublist (hDsub hd)
      ·simp
     ·subst e
      obtain ⟨m1,m2⟩:=hDm b mb'
      rcases hOwn b mb with mb | rfl
      ·obtain ⟨k,_,mk⟩:=List.mem_flatMap.1 mb
       rcases List.mem_append.1 m1 with m1 | m1
       ·exact a3 b m1 (.inl ⟨k,mk⟩)
       ·exact b3 b m1 (.inl ⟨k,mk⟩)
      ·rcases List.mem_append.1 m1 with m1 | m1
       ·have:=a2.lt _ m1;omega
       ·have:=b1.lt _ m1;omega)
    (fun b mb=>by
     rcases List.mem_append.1 mb with mb | mb
     ·have hpl:W.heap.size≤b∨W.x b:=by
       rcases hOwn b mb with mb | rfl
       ·obtain ⟨k,_,mk⟩:=List.mem_flatMap.1 mb
        exact (hI.plain k b (by simp [mk])).1
       ·exact .inl hI.below.size
      rcases r2.2 with ⟨h',_⟩ | ⟨g',o',cap',cur,h',hg0,hg,_⟩
      ·simp [h',Value.ownBlock] at mb
      ·simp [h',Value.ownBlock] at mb
       subst mb
       exact ⟨hpl,cur,e,hg⟩
     ·obtain ⟨m1,m2⟩:=hDm b mb
      obtain ⟨k,hk,mk⟩:=List.mem_flatMap.1 ((hDsub m2).subset m1)
      obtain ⟨p1,cur,e',p2⟩:=hI.plainD mk
      exact ⟨p1,cur,e',by rw [hkeepL b m1];exact p2⟩)
    (fun hown=>⟨hm,cs++news,Lx++Ly,by simpa [Gh.turn,upd] using r2,hREs,by
     by_cases hd:ZeK d1 d2=2
     ·exact .inl ⟨hd,by simp [Gh.turn,upd],by simp [Gh.turn,hd]⟩
     ·have hd1:ZeK d1 d2=1:=by unfold ZeK at hd ⊢;split<;>simp_all<;>omega
      refine .inr (.inl ⟨hd1,by simp [Gh.turn,upd],by simp [Gh.turn,hd],fun b mb ho=>?_⟩)
      have hnb:¬g.own b:=by
       rcases List.mem_append.1 mb with m1 | m1
       ·exact a3 b m1
       ·exact b3 b m1
      rcases Zel ho with mo | ⟨k,_,_,mk⟩ | hz
      ·rcases hOwn b mo with mo | rfl
       ·obtain ⟨k,_,mk⟩:=List.mem_flatMap.1 mo
        exact hnb (.inl ⟨k,mk⟩)
       ·rcases List.mem_append.1 mb with m1 | m1
        ·have:=a2.lt _ m1;omega
        ·have:=b1.lt _ m1;omega
      ·exact hnb (.inl ⟨k,mk⟩)
      ·exact hnb (.inr hz)⟩)
   have hwf:=Zhr (key:=key) (o:=.row e m (xs++ys) (ZeK d1 d2)) hU (k1++k2) trivial
   refine ⟨_,v',w',.inl (by subst hq;simp only [Sem.run_bind,r1,Result.andThen_ok,Sem.run_pure]),t1,⟨_,rfl,⟨by simp [Gh.turn,upd],?_⟩⟩,t2,fun y my=>by simp at my;subst my;exact Ziw,hwf.1,hwf.2⟩
   obtain ⟨A2,cap2,hv'⟩:=Zct r2
   simp [hv',Value.oneCell']
  ·simp at h
 ·simp at h
end
end Go.Proofs.YtojnhepgnbhaaaaGreatDoor
namespace Go.Proofs.YtojnhepgnbhaaaaGreatDoor
open Go.RowKit
section
variable {P:Program} {W:Q8} {U:Nat→Prop} {key:Nat} {st:St} {g:Gh} {w w':World} {a:Act} {tt:Nat→Option TI}
theorem RCs.dropS:∀{x:List CT} {c:List Value} {L:List Nat} (n:Nat),RCs w x c L→∃L',RCs w (x.drop n) (c.drop n) L'∧L'.Sublist L
 | x,c,L,0,h=>⟨L,by simpa using h,List.Sublist.refl _⟩
 | [],c,L,n+1,h=>⟨[],by obtain ⟨rfl,rfl⟩:=h;simp [RCs],List.nil_sublist _⟩
 | x::r,_,_,n+1,⟨v,cs',L1,L2,rfl,rfl,h1,h2⟩=>by
  obtain ⟨L',a1,a2⟩:=RCs.dropS n h2
  exact ⟨L',by simpa using a1,a2.trans (List.sublist_append_right L1 L2)⟩
theorem RCs.spliceS [NW] {x:List CT} {c:List Value} {L:List Nat} {ys:List CT} {us:List Value} (h:RCs w x c L) (h':RCs w ys us []):∀(off:Nat),∃L',RCs w (splice x off ys) (splice c off us) L'∧L'.Sublist L:=by
 have hl:us.length=ys.length:=h'.len
 intro off
 induction off generalizing x c L with
 | zero=>
  obtain ⟨L',a1,a2⟩:=h.dropS (0+ys.length)
  refine ⟨[]++L',?_,a2⟩
  simp only [splice,List.take_zero,List.nil_append,hl]
  exact h'.append a1
 | succ off ih=>
  cases x with
  | nil=>
   obtain ⟨rfl,rfl⟩:=h
   refine ⟨[],?_,List.nil_sublist _⟩
   simpa [splice] using h'
  | cons x r=>
   obtain ⟨v,cs',L1,L2,rfl,rfl,h1,h2⟩:=h
   obtain ⟨L',a1,a2⟩:=ih h2
   refine ⟨L1++L',?_,List.Sublist.append (List.Sublist.refl _) a2⟩
   have e1:splice (x::r) (off+1) ys=x::splice r off ys:=by
    simp only [splice,List.take_succ_cons,List.cons_append]
    rw [show off+1+ys.length=(off+ys.length)+1 by omega,List.drop_succ_cons]
   have e2:splice (v::cs') (off+1) us=v::splice cs' off us:=by
    simp only [splice,List.take_succ_cons,List.cons_append]
    rw [show off+1+us.length=(off+us.length)+1 by omega,List.drop_succ_cons]
   rw [e1,e2]
   exact ⟨v,_,L1,L',rfl,rfl,h1,a1⟩
theorem ZiL {α:Type} (c1 c2:List α) (off:Nat) (us:List α):splice (c1++c2) (c1.length+off) us=c1++splice c2 off us:=by
 simp only [splice]
 rw [List.take_length_add_append,Nat.add_assoc,List.drop_append,List.drop_of_length_le (Nat.le_add_right _ _),Nat.add_sub_cancel_left]
 simp
theorem Ze5 {α:Type} (c1 c2:List α) (off:Nat) (us:List α) (h:off+us.length≤c1.length):splice (c1++c2) off us=splice c1 off us++c2:=by
 simp only [splice]
 rw [List.take_append_of_le_length (by omega),List.drop_append_of_le_length h]
 simp
theorem REs.set [NW] {m:Nat} {ys:List CT} {us:List Value} (h':RCs w ys us []):∀{xs:List (List CT)} {cs:List Value} {L:List Nat} {i off:Nat} {x:List CT},REs w m xs cs L→xs[i]?=some x→off+us.length≤m→
  ∃L',REs w m (xs.set i (splice x off ys)) (splice cs (i * m+off) us) L'∧L'.Sublist L
 | [],_,_,_,_,_,_,hx,_=>by simp at hx
 | e::r,_,_,0,off,x,⟨c1,c2,L1,L2,rfl,rfl,h3,h4⟩,hx,ho=>by
  simp at hx;subst hx
  obtain ⟨L',a1,a2⟩:=h3.1.spliceS h' off
  refine ⟨L'++L2,?_,List.Sublist.append a2 (List.Sublist.refl _)⟩
  rw [Nat.zero_mul,Nat.zero_add,Ze5 _ _ _ _ (by rw [h3.2];exact ho)]
  exact ⟨splice c1 off us,c2,L',L2,rfl,rfl,⟨a1,by rw [ZeW _ _ _ (by rw [h3.2];exact ho)];exact h3.2⟩,h4⟩
 | e::r,_,_,i+1,off,x,⟨c1,c2,L1,L2,rfl,rfl,h3,h4⟩,hx,ho=>by
  obtain ⟨L',a1,a2⟩:=REs.set h' h4 (i:=i) (off:=off) (x:=x) (by simpa using hx) ho
  refine ⟨L1++L',?_,List.Sublist.append (List.Sublist.refl _) a2⟩
  have e:(i+1) * m+off=c1.length+(i * m+off):=by rw [h3.2,Nat.add_mul];omega
  rw [e,ZiL]
  exact ⟨c1,_,L1,L',rfl,rfl,h3,a1⟩
theorem Zme [NW]:∀{vs:List AV} {ys:List CT} {us:List Value},Zg7 vs=some ys→ZH (AVR g w) vs us→RCs w ys us []
 | [],_,[],h,_=>by simp [Zg7] at h;subst h;exact ⟨rfl,rfl⟩
 | [],_,_::_,_,h=>h.elim
 | _::_,_,[],_,h=>h.elim
 | x::vs,ys,u::us,h,hr=>by
  simp only [Zg7] at h
  obtain ⟨y,h1,h⟩:=Option.bind_eq_some_iff.1 h
  obtain ⟨b,h2,rfl⟩:=Option.map_eq_some_iff.1 h
  have hx:x=.c y∧y.flat=true:=by
   cases x with
   | c z=>cases z<;>simp [Zqx] at h1<;>subst h1<;>exact ⟨rfl,rfl⟩
   | _=>simp [Zqx] at h1
  obtain ⟨rfl,hf⟩:=hx
  obtain ⟨L,hL,_⟩:=hr.1
  have hL0:L=[]:=by
   cases y with
   | int k n=>exact hL.2
   | bool b=>exact hL.2
   | str s=>exact hL.2.1
   | _=>simp [CT.flat] at hf
  subst hL0
  exact ⟨u,us,[],[],rfl,rfl,hL,Zme h2 hr.2⟩
theorem Zr4 [NW] (htt:∀t i,tt t=some i→TOk P t i) (hI:HI W g st.ob w) (hU:StU U st) {t k m i off e:Nat} {xs:List (List CT)} {d:Nat} {x ys:List CT} {vs:List AV} {va vv:Value} {ag:Bool} (hk:st.ob k=.row e m xs d) (hd0:¬d=0) (hx:xs[i]?=some x) (hys:Zg7 vs=some ys) (hl:vs.length=Zhf (tt t)) (ho:off+vs.length≤m)
  (ha:SVR g w (.rp k m i off) va) (hv:SVR g w (.p ag vs) vv) (hpos:0<vs.length) {s:Sem Next} (hs:s=(do Instr.storeAt t va vv;pure .skip)):Fin P W U key st g w s (.und,[(k,.row e m (xs.set i (splice x off ys)) d)]):=by
 obtain ⟨b,o,n,c,h1,rfl⟩:=ha
 obtain ⟨hm,cs,L,o1,o2,o3,o4,o5⟩:=hI.deepO hk hd0
 obtain ⟨us,c1,c2⟩:=PVR.cells hv
 have hxl:=c2.len
 have hi:i<xs.length:=(List.getElem?_eq_some_iff.1 hx).1
 rcases o1.2 with ⟨_,hn⟩ | ⟨b',o',cap,cur,hv',hbW,hg,hnc,hcm,hcs,htk⟩
 ·omega
 have hbb:b=b'∧o=o':=by rw [hv'] at h1;simp at h1;exact ⟨h1.1.1.symm,h1.1.2.symm⟩
 obtain ⟨rfl,rfl⟩:=hbb
 have hlt:i * m+off+us.length≤xs.length * m:=by
  have:=Nat.mul_le_mul_right m (show i+1≤xs.length by omega)
  rw [Nat.add_mul] at this
  omega
 have hcap:xs.length * m≤cap * m:=Nat.mul_le_mul_right m hnc
 have hsize:(sizeOf t).run P w=.ok us.length w:=by
  rw [←hxl,hl]
  unfold Zhf at hl ⊢
  cases hti:tt t with
  | none=>rw [hti] at hl;simp at hl;simp [hl] at hpos
  | some i=>
   cases i with
   | atom z=>obtain ⟨d,zv,i,_,_,h3,_,h4,_⟩:=htt t _ hti;rw [XH h3,h4]
   | strct fs n z=>obtain ⟨_,i,_,_,h3,h4,_⟩:=htt t _ hti;rw [XH h3,h4]
   | slice e m b z=>obtain ⟨_,_,_,_,j,h3,h4,_⟩:=htt t _ hti;rw [XH h3,h4]
   | _=>rw [hti] at hl;simp at hl;simp [hl] at hpos
 have hst:=run_storeCells_at (P:=P) b (o+(i * m+off)) e us 0 cur w hg (by omega) (AVRs.one c2)
 obtain ⟨r1,r2,r3,r4,r5,r6⟩:=ZmD b cur (splice cur.toList (o+(i * m+off)) us).toArray e hg
 have hrun:s.run P w=.ok .skip (w.setRow b (splice cur.toList (o+(i * m+off)) us).toArray):=by
  subst hs
  have e:(cur.toList.take (o+(i * m+off)+0)++us++cur.toList.drop (o+(i * m+off)+0+us.length)).toArray=(splice cur.toList (o+(i * m+off)) us).toArray:=by simp [splice]
  rw [e] at hst
  simp [Instr.storeAt,Instr.sureAddr,storeVar,c1,hsize,hst]
 have hOk:g.O k=[b]:=by rw [o4,hv'];rfl
 have hmv:∀b',b'<w.heap.size→¬g.own b'→(w.setRow b (splice cur.toList (o+(i * m+off)) us).toArray).heap[b']?=w.heap[b']?:=fun b' _ hn=>r2 b' fun e=>hn (.inl ⟨k,by simp [hOk,e]⟩)
 obtain ⟨L',q1,q2⟩:=o2.set (Zme hys c2) hx (show off+us.length≤m by omega)
 have hown':(w.setRow b (splice cur.toList (o+(i * m+off)) us).toArray).ownsV 0 e m (g.val k) (xs.set i (splice x off ys)).length (splice cs (i * m+off) us):=by
  have hcl:cs.length=xs.length * m:=o1.1
  refine ⟨by rw [ZeW _ _ _ (by omega),hcl];simp,.inr ⟨b,o,cap,_,by simpa using hv',hbW,r1,by simpa using hnc,hcm,by rw [List.size_toArray,ZeW _ _ _ (show o+(i * m+off)+us.length≤cur.toList.length by simp;omega)];simpa using hcs,?_⟩⟩
  have h0:((splice cur.toList (o+(i * m+off)) us).toArray.toList).drop o=splice (cur.toList.drop o) (i * m+off) us:=by
   show (splice cur.toList (o+(i * m+off)) us).drop o=_
   unfold splice
   have hto:o≤(cur.toList.take (o+(i * m+off))).length:=by simp;omega
   rw [List.drop_append_of_le_length hto,List.drop_take,Nat.add_sub_cancel_left,List.drop_drop,Nat.add_assoc]
  rw [h0]
  have:cur.toList.drop o=cs++(cur.toList.drop o).drop (xs.length * m):=by rw [←htk];exact (List.take_append_drop _ _).symm
  rw [this,Ze5 _ _ _ _ (by omega)]
  have e2:(xs.set i (splice x off ys)).length * m=(splice cs (i * m+off) us).length:=by rw [ZeW _ _ _ (by omega),hcl];simp
  rw [e2]
  exact List.take_left' rfl
 have hltL:=o2.lt
 have hREs':REs (w.setRow b (splice cur.toList (o+(i * m+off)) us).toArray) m (xs.set i (splice x off ys)) (splice cs (i * m+off) us) L':=q1.keep fun b' mb=>hmv b' (hltL b' (q2.subset mb)) (o3 b' (q2.subset mb))
 let g':Gh:=⟨g.val,g.O,upd g.D k (if d=2 then L' else []),g.Z⟩
 have hgo:∀b',g'.own b'↔g.own b':=fun b'=>Iff.rfl
 have hgr:(∀b'∈g'.D k,b'∈g.D k)→Qt g g' w.heap.size:=fun hs=>.of (fun b' h=>.inl h) fun j b' mb=>by
  by_cases hj:j=k
  ·subst hj;exact .inl (.inr ⟨j,hs b' mb⟩)
  ·exact .inl (.inr ⟨j,by simpa [g',ZI _ _ hj] using mb⟩)
 have hDsub:∀b'∈g'.D k,b'∈g.D k:=fun b' mb=>by
  simp only [g',Zw] at mb
  split at mb
  ·rename_i hd
   rcases o5 with ⟨_,o5⟩ | ⟨o5,_⟩
   ·rw [o5];exact q2.subset mb
   ·omega
  ·simp at mb
 refine ⟨g',undef,_,.inr ⟨hrun,rfl⟩,?_,rfl,fun x u hx hu=>hu.move hx (fun _ _=>rfl) hmv (hgr hDsub) (by omega),trivial,fun q=>?_,fun q hq=>?_⟩
 ·refine hI.step (U:=U) (fun q=>q=k) ?_ rfl (fun b' _ hn=>r2 b' fun e=>hn k rfl (by simp [hOk,e])) (fun q hq=>⟨ZI _ _ hq,rfl,rfl,ZI _ _ hq⟩) hU.ob (fun _ _=>rfl) (hgr hDsub) (fun q hq=>?_)
  ·exact ⟨r4.trans hI.below.os,r5.trans hI.below.tape,r6.trans hI.below.output,by have:=hI.below.size;omega,fun q hq hx'=>by rw [r2 q (fun e=>by subst e;rcases (hI.plain k q (by simp [hOk])).1 with h | h;omega;exact hx' h)];exact hI.below.block q hq hx'⟩
  ·subst hq
   have hmem:∀b'∈g'.O q++g'.D q,b'∈g.O q++g.D q:=fun b' mb=>by
    rcases List.mem_append.1 mb with mb | mb
    ·exact List.mem_append.2 (.inl mb)
    ·exact List.mem_append.2 (.inr (hDsub b' mb))
   refine ⟨?_,?_,fun b' mb=>?_,fun j hj b' mb mj=>?_⟩
   ·simp only [Zk,Zw]
    refine ⟨hm,_,L',hown',hREs',?_⟩
    rcases o5 with ⟨o5,_⟩ | ⟨o5,_⟩
    ·exact .inl ⟨o5,o4,by simp [g',upd,o5]⟩
    ·exact .inr (.inl ⟨o5,o4,by simp [g',upd,o5],fun b' mb=>o3 b' (q2.subset mb)⟩)
   ·have hn:=hI.nodup q
    refine hn.sublist (List.Sublist.append (List.Sublist.refl _) ?_)
    simp only [g',Zw]
    split
    ·rename_i hd
     rcases o5 with ⟨_,o5⟩ | ⟨o5,_⟩
     ·rw [o5];exact q2
     ·omega
    ·exact List.nil_sublist _
   ·have hp:=hI.plain q b' (hmem b' mb)
    rw [hk] at hp
    obtain ⟨p1,cur',e',p2⟩:=hp
    refine ⟨p1,?_⟩
    simp only [Zk,Zw]
    show ∃cur e,_=_
    by_cases hb':b'=b
    ·subst hb';exact ⟨_,_,r1⟩
    ·exact ⟨cur',e',by rw [r2 b' hb'];exact p2⟩
   ·have mj':b'∈g.O j++g.D j:=by
     rcases List.mem_append.1 mj with mj | mj
     ·exact List.mem_append.2 (.inl mj)
     ·simp only [g',ZI _ _ (fun e:j=q=>hj e.symm)] at mj;exact List.mem_append.2 (.inr mj)
    exact hI.apart q j hj b' (hmem b' mb) mj'
 ·simp only [Zk,upd]
  split
  ·trivial
  ·exact (hU.ob q).mono fun _=>.inl
 ·simp only [Zk,upd]
  split
  ·rename_i e;subst e
   exact absurd (hU.gone q fun h=>hq (.inl h)) (by simp [hk])
  ·exact hU.gone q fun h=>hq (.inl h)
end
end Go.Proofs.YtojnhepgnbhaaaaGreatDoor
namespace Go.Proofs.YtojnhepgnbhaaaaGreatDoor
open Go.RowKit
section
variable {P:Program} {W:Q8} {U:Nat→Prop} {key:Nat} {st:St} {g:Gh} {w w':World} {a:Act} {tt:Nat→Option TI}
theorem ZpE [NW] {α:Type} (f:Nat→α) (k:Nat):upd f k (f k)=f:=by
 funext j;by_cases hj:j=k
 ·subst hj;rw [Zw]
 ·rw [ZI _ _ hj]
theorem AVR.less [NW] {g1:Gh} {x:AV} {v:Value} (h:AVR g w x v) (hv:g1.val=g.val) (ho:Xs g1 g):AVR g1 w x v:=by
 cases x with
 | c x=>obtain ⟨L,h1,h2⟩:=h;exact ⟨L,h1,fun b mb hb=>h2 b mb (ho.own b hb)⟩
 | n x=>exact NR.move h (fun _ _ _=>rfl) (ho.grow _)
 | row k=>exact ⟨h.1.trans (by rw [hv]),h.2⟩
 | nil e m=>exact h
 | dead=>exact h
theorem SVR.less [NW] {g1:Gh} {x:SV} {v:Value} (h:SVR g w x v) (hv:g1.val=g.val) (ho:Xs g1 g):SVR g1 w x v:=
 h.move (U:=fun _=>True) (by (cases x<;>try trivial);(intro y my;cases y<;>trivial);(intro y my z mz;cases z<;>trivial)) (fun k _=>by rw [hv]) (fun _ _ _=>rfl) (ho.grow _) (Nat.le_refl _)
theorem ZhP [NW] {ob:Nat→Ob} (hI:HI W g ob w) (k:Nat):∃g1:Gh,HI W g1 (upd ob k (Ym (ob k))) w∧g1.val=g.val∧Xs g1 g∧((∃e m xs d,ob k=.row e m xs d)→∀b∈g.O k++g.D k,¬g1.low b):=by
 cases hk:ob k with
 | gone=>exact ⟨g,by rw [show Ym Ob.gone=ob k from hk.symm,ZpE];exact hI,rfl,Xs.refl _,by simp⟩
 | box t cs=>exact ⟨g,by rw [show Ym (Ob.box t cs)=ob k from hk.symm,ZpE];exact hI,rfl,Xs.refl _,by simp⟩
 | map kk vk kv=>exact ⟨g,by rw [show Ym (Ob.map kk vk kv)=ob k from hk.symm,ZpE];exact hI,rfl,Xs.refl _,by simp⟩
 | row e m xs d=>
  obtain ⟨hm,cs,L,o1,o2,o3,o5⟩:=hI.deep hk
  let g1:Gh:=⟨g.val,upd g.O k [],upd g.D k [],g.Z⟩
  have hO:∀j b,b∈g1.O j→j≠k∧b∈g.O j:=fun j b mb=>by
   by_cases hj:j=k
   ·subst hj;simp [g1,upd] at mb
   ·exact ⟨hj,by simpa [g1,upd,hj] using mb⟩
  have hD:∀j b,b∈g1.D j→j≠k∧b∈g.D j:=fun j b mb=>by
   by_cases hj:j=k
   ·subst hj;simp [g1,upd] at mb
   ·exact ⟨hj,by simpa [g1,upd,hj] using mb⟩
  have hOD:∀j b,b∈g1.O j++g1.D j→j≠k∧b∈g.O j++g.D j:=fun j b mb=>by
   rcases List.mem_append.1 mb with m1 | m1
   ·exact ⟨(hO j b m1).1,by simp [(hO j b m1).2]⟩
   ·exact ⟨(hD j b m1).1,by simp [(hD j b m1).2]⟩
  have hown:∀b,g1.own b→g.own b:=fun b hb=>by
   rcases hb with ⟨j,mj⟩ | hz
   ·exact .inl ⟨j,(hO j b mj).2⟩
   ·exact .inr hz
  have hless:Xs g1 g:=.of hown fun j b mb=>⟨j,(hD j b mb).2⟩
  have hnot:∀b∈(g.val k).ownBlock.toList,¬g1.own b:=fun b mb hb=>by
   rcases o5 with ⟨_,q,_⟩ | ⟨_,q,_⟩ | ⟨_,_,_,q⟩
   ·have mk:b∈g.O k++g.D k:=by simp [q,mb]
    rcases hb with ⟨j,mj⟩ | hz
    ·exact hI.apart k j (fun e=>(hO j b mj).1 e.symm) b mk (by simp [(hO j b mj).2])
    ·exact hI.nz mk hz
   ·have mk:b∈g.O k++g.D k:=by simp [q,mb]
    rcases hb with ⟨j,mj⟩ | hz
    ·exact hI.apart k j (fun e=>(hO j b mj).1 e.symm) b mk (by simp [(hO j b mj).2])
    ·exact hI.nz mk hz
   ·exact q b mb (hown b hb)
  refine ⟨g1,⟨hI.below,fun j=>?_,fun j=>?_,fun i j hij b mb mj=>?_,fun j b mb=>?_,hI.gz,hI.zx,hI.nw⟩,rfl,hless,fun _ b mb hb=>?_⟩
  rotate_right
  ·rcases hb with (⟨j,mj⟩ | hz) | ⟨j,mj⟩
   ·exact hI.apart k j (fun e=>(hO j b mj).1 e.symm) b mb (by simp [(hO j b mj).2])
   ·exact hI.nz mb hz
   ·exact hI.apart k j (fun e=>(hD j b mj).1 e.symm) b mb (by simp [(hD j b mj).2])
  ·by_cases hj:j=k
   ·subst hj
    rw [Zw]
    refine ⟨hm,cs,L,o1,o2,.inr (.inr ⟨rfl,by simp [g1,upd],by simp [g1,upd],fun b mb=>?_⟩)⟩
    rcases List.mem_append.1 mb with m1 | m1
    ·exact hnot b m1
    ·exact fun hb=>o3 b m1 (hown b hb)
   ·rw [ZI _ _ hj]
    have ho:=hI.obs j
    cases hoj:ob j with
    | gone=>rw [hoj] at ho;exact ⟨by simpa [g1,upd,hj] using ho.1,by simpa [g1,upd,hj] using ho.2⟩
    | box t ds=>
     rw [hoj] at ho
     obtain ⟨b,vs,h1,h2,h3,h4,h5⟩:=ho
     exact ⟨b,vs,h1,by simpa [g1,upd,hj] using h2,by simpa [g1,upd,hj] using h3,h4,h5.mono fun x u _ hx=>AVR.less hx rfl hless⟩
    | map kk vk kv=>
     rw [hoj] at ho
     obtain ⟨b,es,c,h1,h2,h3,h4⟩:=ho
     exact ⟨b,es,c,h1,by simpa [g1,upd,hj] using h2,by simpa [g1,upd,hj] using h3,h4⟩
    | row e' m' xs' d'=>
     rw [hoj] at ho
     obtain ⟨hm',cs',L',p1,p2,p3⟩:=ho
     refine ⟨hm',cs',L',p1,p2,?_⟩
     have e1:g1.O j=g.O j:=by simp [g1,upd,hj]
     have e2:g1.D j=g.D j:=by simp [g1,upd,hj]
     rw [e1,e2]
     rcases p3 with p3 | ⟨q1,q2,q3,q4⟩ | ⟨q1,q2,q3,q4⟩
     ·exact .inl p3
     ·exact .inr (.inl ⟨q1,q2,q3,fun b mb hb=>q4 b mb (hown b hb)⟩)
     ·exact .inr (.inr ⟨q1,q2,q3,fun b mb hb=>q4 b mb (hown b hb)⟩)
  ·by_cases hj:j=k
   ·subst hj;simp [g1,upd]
   ·have:=hI.nodup j;simpa [g1,upd,hj] using this
  ·exact hI.apart i j hij b (hOD i b mb).2 (hOD j b mj).2
  ·rw [ZI _ _ (hOD j b mb).1];exact hI.plain j b (hOD j b mb).2
theorem Zs0 [NW] {ob:Nat→Ob} (hI:HI W g ob w) {k t:Nat} {cs:List AV} (hk:ob k=.box t cs):∃g1:Gh,HI W g1 (upd ob k .gone) w∧g1.val=g.val∧Xs g1 g∧∃b vs,g.val k=.pointer (some ⟨b,0,none⟩)∧¬g1.own b∧b<w.heap.size∧XX w b 0 vs∧ZH (AVR g w) cs vs:=by
 have ho:=hI.obs k
 rw [hk] at ho
 obtain ⟨b,vs,h1,h2,h3,h4,h5⟩:=ho
 let g1:Gh:=⟨g.val,upd g.O k [],upd g.D k [],g.Z⟩
 have hO:∀j x,x∈g1.O j++g1.D j→j≠k∧x∈g.O j++g.D j:=fun j x mx=>by
  by_cases hj:j=k
  ·subst hj;simp [g1,upd] at mx
  ·exact ⟨hj,by simpa [g1,upd,hj] using mx⟩
 have hown:∀x,g1.own x→g.own x∧x≠b:=fun x hx=>by
  rcases hx with ⟨j,mj⟩ | hz
  ·have:=hO j x (by simp [mj])
   refine ⟨.inl ⟨j,?_⟩,fun e=>?_⟩
   ·have hj:=this.1
    simpa [g1,upd,hj] using mj
   ·subst e
    exact hI.apart j k this.1 x this.2 (by simp [h2])
  ·exact ⟨.inr hz,fun e=>by subst e;exact hI.nz (k:=k) (by simp [h2]) hz⟩
 have hless:Xs g1 g:=.of (fun x hx=>(hown x hx).1) fun j b mb=>⟨j,by
  have hj:=(hO j b (by simp [mb])).1
  simpa [g1,upd,hj] using mb⟩
 refine ⟨g1,⟨hI.below,fun j=>?_,fun j=>?_,fun i j hij x mx mj=>?_,fun j x mx=>?_,hI.gz,hI.zx,hI.nw⟩,rfl,hless,b,vs,h1,fun hb=>(hown b hb).2 rfl,(Array.getElem?_eq_some_iff.1 h4).1,fun j u hj=>?_,h5⟩
 ·by_cases hj:j=k
  ·subst hj;rw [Zw];exact ⟨by simp [g1,upd],by simp [g1,upd]⟩
  ·rw [ZI _ _ hj]
   have ho:=hI.obs j
   have e1:g1.O j=g.O j:=by simp [g1,upd,hj]
   have e2:g1.D j=g.D j:=by simp [g1,upd,hj]
   cases hoj:ob j with
   | gone=>rw [hoj] at ho;exact ⟨e1.trans ho.1,e2.trans ho.2⟩
   | box t ds=>
    rw [hoj] at ho
    obtain ⟨b,vs,h1,h2,h3,h4,h5⟩:=ho
    exact ⟨b,vs,h1,e1.trans h2,e2.trans h3,h4,h5.mono fun x u _ hx=>AVR.less hx rfl hless⟩
   | map kk vk kv=>
    rw [hoj] at ho
    obtain ⟨b,es,c,h1,h2,h3,h4⟩:=ho
    exact ⟨b,es,c,h1,e1.trans h2,e2.trans h3,h4⟩
   | row e' m' xs' d'=>
    rw [hoj] at ho
    obtain ⟨hm',cs',L',p1,p2,p3⟩:=ho
    refine ⟨hm',cs',L',p1,p2,?_⟩
    rw [e1,e2]
    rcases p3 with p3 | ⟨q1,q2,q3,q4⟩ | ⟨q1,q2,q3,q4⟩
    ·exact .inl p3
    ·exact .inr (.inl ⟨q1,q2,q3,fun b mb hb=>q4 b mb (hown b hb).1⟩)
    ·exact .inr (.inr ⟨q1,q2,q3,fun b mb hb=>q4 b mb (hown b hb).1⟩)
 ·by_cases hj:j=k
  ·subst hj;simp [g1,upd]
  ·have:=hI.nodup j;simpa [g1,upd,hj] using this
 ·exact hI.apart i j hij x (hO i x mx).2 (hO j x mj).2
 ·rw [ZI _ _ (hO j x mx).1];exact hI.plain j x (hO j x mx).2
 ·rw [Nat.zero_add,cell_of_row w b j vs.toArray t (0,0) h4];simpa using hj
theorem Zpy [NW] {ob:Nat→Ob} (hI:HI W g ob w) {k e m:Nat} {xs:List (List CT)} (hk:ob k=.row e m xs 0):∃L,RC w (.sl e m xs) (g.val k) L∧∀b∈L,¬g.own b:=by
 obtain ⟨hm,cs,L1,o1,o2,o3,o5⟩:=hI.deep hk
 obtain ⟨A,cap,L0,s1,s2,s3,s4,s5⟩:=Sl.row o1
 refine ⟨L0++L1,⟨A,cap,cs,L0,L1,s1,s2,s3,rfl,hm,s4,o2⟩,fun b mb=>?_⟩
 rcases List.mem_append.1 mb with m1 | m1
 ·rcases o5 with ⟨q,_⟩ | ⟨q,_⟩ | ⟨_,_,_,q⟩
  ·omega
  ·omega
  ·exact q b (s5.subset m1)
 ·exact o3 b m1
theorem REs.dropS {m:Nat}:∀{xs:List (List CT)} {cs:List Value} {L:List Nat} (l:Nat),REs w m xs cs L→∃L',REs w m (xs.drop l) (cs.drop (l * m)) L'∧L'.Sublist L
 | xs,cs,L,0,h=>⟨L,by simpa using h,List.Sublist.refl _⟩
 | [],cs,L,l+1,h=>⟨[],by obtain ⟨rfl,rfl⟩:=h;simp [REs],List.nil_sublist _⟩
 | x::r,_,_,l+1,⟨c1,c2,L1,L2,rfl,rfl,h3,h4⟩=>by
  obtain ⟨L',h5,h6⟩:=REs.dropS l h4
  refine ⟨L',?_,h6.trans (List.sublist_append_right _ _)⟩
  have e:(l+1) * m=c1.length+l * m:=by rw [h3.2,Nat.add_mul];omega
  have e2:(c1++c2).drop (c1.length+l * m)=c2.drop (l * m):=by
   rw [List.drop_append,List.drop_of_length_le (Nat.le_add_right _ _),List.nil_append,Nat.add_sub_cancel_left]
  rw [e,e2]
  simpa using h5
theorem ZsH [NW] (htt:∀t i,tt t=some i→TOk P t i) (hI:HI W g st.ob w) (hU:StU U st) (hkey:¬U key) {t k e m d l:Nat} {xs:List (List CT)} (hk:st.ob k=.row e m xs d) (hd0:¬d=0) (hsz:Zix (tt t)=m) {lo:Option SV} {vx:Value} {vlo:Option Value} (hl:loB xs.length lo=some l) (hx:SVR g w (.p false [.row k]) vx)
  (hlo:Zk5 g w lo vlo) {s:Sem Next} (hs:s=(do pure (.value (←Instr.sliceAt t vx vlo none none)))):Fin P W U key st g w s (.p false [.row key],[(k,.gone),(key,.row e m (xs.drop l) d)]):=by
 obtain ⟨hm,cs,L,o1,o2,o3,o4,o5⟩:=hI.deepO hk hd0
 have hv:=ZeY hx
 subst hv
 obtain ⟨A,cap,hv,hnc,hcm⟩:=Zar o1
 obtain ⟨b1,b2,_⟩:=Zhj (P:=P) (w:=w) (g:=g) (b:=true) (len:=xs.length) (cap:=cap) (h:=xs.length) (hi:=none) (vhi:=none) rfl hl hlo trivial hnc
 obtain ⟨e',b',z',hti⟩:∃e' b' z',tt t=some (.slice e' m b' z'):=by
  unfold Zix at hsz
  split at hsz
  ·rename_i h1;subst hsz;exact ⟨_,_,_,h1⟩
  ·omega
 obtain ⟨hu,_,_,⟨ie,zv,hie,hsi,_⟩,_⟩:=htt t _ hti
 have hO:g.O k=(Value.slice A xs.length cap).ownBlock.toList:=by rw [o4,hv]
 have o1':=o1
 rw [hv] at o1'
 obtain ⟨t1,t2⟩:=ZpM (l:=l) o1' b2
 generalize hw:(Value.slice (if cap=l then A else A.map (·.add (l * m))) (xs.length - l) (cap - l))=v' at t1 t2
 have hrun:s.run P w=.ok (.value v') w:=by
  subst hs
  have:(Instr.sliceAt t (.slice A xs.length cap) vlo none none).run P w=.ok v' w:=by
   rw [←hw]
   simp [Instr.sliceAt,Yw hu,Instr.slice,b1,XH hie,hsi]
  rw [hv]
  simp only [Sem.run_bind,this,Result.andThen_ok,Sem.run_pure]
 obtain ⟨M,r1,r2⟩:=o2.dropS l
 have hUk:U k:=Classical.byContradiction fun hn=>by have:=hU.gone _ hn;rw [hk] at this;simp at this
 have hDm:∀b∈(if d=2 then M else []),b∈g.D k:=fun b mb=>by
  split at mb
  ·rename_i hd
   rcases o5 with ⟨_,q⟩ | ⟨q,_⟩
   ·rw [q];exact r2.subset mb
   ·omega
  ·simp at mb
 have hlen:(xs.drop l).length=xs.length - l:=by simp
 obtain ⟨i1,i2⟩:=hI.turn (key:=key) (U:=U) (w':=w) (v:=v') (O:=v'.ownBlock.toList) (D:=if d=2 then M else []) (o:=.row e m (xs.drop l) d) hU.ob hkey [k]
  (fun j mj=>by simp at mj;subst mj;exact hUk) hI.below (Nat.le_refl _) (fun b hb hn=>rfl)
  (fun b mb=>.inl ⟨k,by simp,by rw [hO,←t2];exact mb⟩)
  (fun b mb=>.inl ⟨k,by simp,List.mem_append.2 (.inr (hDm b mb))⟩)
  (by
   have hn:=hI.nodup k
   refine hn.sublist (List.Sublist.append (by rw [hO,←t2];exact List.Sublist.refl _) ?_)
   split
   ·rename_i hd
    rcases o5 with ⟨_,q⟩ | ⟨q,_⟩
    ·rw [q];exact r2
    ·omega
   ·exact List.nil_sublist _)
  (fun b mb=>by
   have hmem:b∈g.O k++g.D k:=by
    rcases List.mem_append.1 mb with mb | mb
    ·exact List.mem_append.2 (.inl (by rw [hO,←t2];exact mb))
    ·exact List.mem_append.2 (.inr (hDm b mb))
   obtain ⟨p1,p2⟩:=hI.plain k b hmem
   exact ⟨p1,p2.of (by rw [hk];rfl)⟩)
  (fun hown=>⟨hm,cs.drop (l * m),M,by simp only [Gh.turn,Zw];rw [hlen];exact t1,r1,by
   rcases o5 with ⟨q,_⟩ | ⟨q,_⟩
   ·exact .inl ⟨q,by simp [Gh.turn,Zw],by simp [Gh.turn,q]⟩
   ·refine .inr (.inl ⟨q,by simp [Gh.turn,Zw],by simp [Gh.turn,q],fun b mb ho=>?_⟩)
    rcases Zel ho with mo | ⟨j,_,_,mj⟩ | hz
    ·exact o3 b (r2.subset mb) (.inl ⟨k,by rw [hO,←t2];exact mo⟩)
    ·exact o3 b (r2.subset mb) (.inl ⟨j,mj⟩)
    ·exact o3 b (r2.subset mb) (.inr hz)⟩)
 have hwf:=Zhr (key:=key) (o:=.row e m (xs.drop l) d) hU [k] trivial
 refine ⟨_,v',w,.inl hrun,i1,⟨_,rfl,⟨by simp [Gh.turn,Zw],?_⟩⟩,i2,fun y my=>by simp at my;subst my;exact Ziw,hwf.1,hwf.2⟩
 rw [←hw]
 simp [Value.oneCell']
theorem Zrh [NW] (htt:∀t i,tt t=some i→TOk P t i) (hI:HI W g st.ob w) (hU:StU U st) (hkey:¬U key) {t:Nat} {x:SV} {r:SV × List (Nat × Ob)} {lo hi:Option SV} {vx:Value} {vlo vhi:Option Value} (h:Zbu st key (tt t) lo hi x=some r) (hx:SVR g w x vx)
  (hlo:Zk5 g w lo vlo) (hhi:Zk5 g w hi vhi) {s:Sem Next} (hs:s=(do pure (.value (←Instr.sliceAt t vx vlo vhi none)))):Fin P W U key st g w s r:=by
 unfold Zbu at h
 split at h
 ·rename_i k
  split at h
  rotate_left
  ·simp at h
  split at h
  ·rename_i e m xs d hk
   split at h
   ·rename_i hsz
    split at h
    ·rename_i hmv
     obtain ⟨l,hl,rfl⟩:=Option.map_eq_some_iff.1 h
     unfold mvS at hmv
     split at hmv
     ·have hd0:¬d=0:=fun e=>by subst e;simp at hmv
      cases vhi with
      | some _=>exact hhi.elim
      | none=>exact ZsH htt hI hU hkey hk hd0 hsz hl hx hlo hs
     ·simp at hmv
    obtain ⟨q,hq,h⟩:=Option.bind_eq_some_iff.1 h
    obtain ⟨l,hl,rfl⟩:=Option.map_eq_some_iff.1 h
    obtain ⟨g1,i1,i2,i3,_⟩:=ZhP hI k
    rw [hk] at i1
    obtain ⟨L,t1,t2⟩:=Zpy i1 (Zw st.ob k (.row e m xs 0))
    have hvx:vx=g1.val k:=by rw [i2];exact ZeY hx
    have hx1:SVR g1 w (.p false [.c (.sl e m xs)]) vx:=⟨_,rfl,L,hvx ▸ t1,t2⟩
    have lo1:Zk5 g1 w lo vlo:=by
     cases lo<;>cases vlo<;>simp only [Zk5] at hlo ⊢
     exact hlo.less i2 i3
    have hi1:Zk5 g1 w hi vhi:=by
     cases hi<;>cases vhi<;>simp only [Zk5] at hhi ⊢
     exact hhi.less i2 i3
    obtain ⟨cv,c1,c2,c3⟩:=Zpx (t:=t) (U:=U) (g:=g1) (P:=P) (x:=.p false [.c (.sl e m xs)]) (v:=.p false [.c (.sl e m ((xs.take q).drop l))]) htt (by simp only [Zlm,hsz,if_true,hq,hl,Option.bind_some,Option.map_some]) hx1 lo1 hi1
    have hUk:U k:=Classical.byContradiction fun hn=>by have:=hU.gone _ hn;rw [hk] at this;simp at this
    refine ⟨g1,cv,w,.inl (by rw [hs];simp only [Sem.run_bind,c1,Result.andThen_ok,Sem.run_pure]),i1,c2,fun y v _ hy=>hy.less i2 i3,c3.mono fun _=>.inl,fun j=>?_,fun j hj=>?_⟩
    ·show obU _ (upd st.ob k (.row e m xs 0) j)
     by_cases hjk:j=k
     ·subst hjk;rw [Zw];trivial
     ·rw [ZI _ _ hjk];exact (hU.ob j).mono fun _=>.inl
    ·show upd st.ob k (.row e m xs 0) j=_
     rw [ZI _ _ (show j≠k from fun e=>hj (.inl (e ▸ hUk)))];exact hU.gone j fun h=>hj (.inl h)
   ·simp at h
  ·simp at h
 ·obtain ⟨v,hv,rfl⟩:=Option.map_eq_some_iff.1 h
  obtain ⟨cv,c1,c2,c3⟩:=Zpx (U:=U) htt hv hx hlo hhi
  exact Zah hI hU (by rw [hs];simp only [Sem.run_bind,c1,Result.andThen_ok,Sem.run_pure]) c2 c3
 ·simp at h
end
end Go.Proofs.YtojnhepgnbhaaaaGreatDoor
namespace Go.Proofs.YtojnhepgnbhaaaaGreatDoor
open Go.RowKit Go.MapKept
theorem Zj5 {kk:PK} {d:TypeDesc} {k:Value} (hd:Zdk kk d=true) (hk:Zgs kk k):IsKey d k:=by
 cases kk<;>cases d<;>simp [Zdk] at hd<;>cases k<;>simp_all [Zgs,IsKey]
theorem Zqn {kk:PK} {a b:Value} (ha:Zgs kk a) (hb:Zgs kk b):vEq a b=true↔a=b:=by
 cases kk<;>cases a<;>simp [Zgs] at ha<;>cases b<;>simp [Zgs] at hb<;>simp_all [vEq,sEq]
theorem Zhg [NW] {kk vk:PK} {d:TypeDesc} {k:Value} (hd:Zdk kk d=true) (hk:Zgs kk k):∀(l:List MapEntry) (i:Nat),Zie kk vk (l.map fun e=>(e.key,e.val))→
  (Instr.findNow d k l i=some none∧Zjz (l.map fun e=>(e.key,e.val)) k=none∧∀v,Zew (l.map fun e=>(e.key,e.val)) k v=(l.map fun e=>(e.key,e.val))++[(k,v)])∨
  ∃j e,Instr.findNow d k l i=some (some (i+j,e.val))∧l[j]?=some e∧e.key=k∧Zjz (l.map fun e=>(e.key,e.val)) k=some e.val∧Zgs vk e.val∧∀v,Zew (l.map fun e=>(e.key,e.val)) k v=(l.modify j fun e=>{ e with key:=k,val:=v }).map fun e=>(e.key,e.val)
 | [],i,_=>.inl ⟨rfl,rfl,fun _=>rfl⟩
 | e::l,i,h=>by
  have he:=h (e.key,e.val) (by simp)
  obtain ⟨r,hr,hiff⟩:=sameNow_of_keys (Zj5 hd hk) (Zj5 hd he.1)
  cases r with
  | true=>
   have hek:=hiff.1 rfl
   have hv:vEq k e.key=true:=(Zqn hk he.1).2 hek
   exact .inr ⟨0,e,by simp [Instr.findNow,hr],rfl,hek.symm,by simp [Zjz,hv],he.2,fun v=>by simp [Zew,hv]⟩
  | false=>
   have hne:¬vEq k e.key=true:=fun q=>by have:=hiff.2 ((Zqn hk he.1).1 q);cases this
   rcases Zhg hd hk l (i+1) (fun p m=>h p (by simp only [List.map_cons,List.mem_cons];exact .inr m)) with ⟨h1,h2,h3⟩ | ⟨j,e',h1,h2,h3,h4,h5,h6⟩
   ·exact .inl ⟨by simp [Instr.findNow,hr,h1],by simp [Zjz,hne,h2],fun v=>by simp [Zew,hne,h3]⟩
   ·exact .inr ⟨j+1,e',by simp [Instr.findNow,hr,h1];omega,by simpa using h2,h3,by simp [Zjz,hne,h4],h5,fun v=>by simp [Zew,hne,h6]⟩
section
variable {P:Program} {W:Q8} {U:Nat→Prop} {key:Nat} {st:St} {g:Gh} {w w':World} {a:Act} {tt:Nat→Option TI}
theorem Zwq [NW] {vk:PK} {v:Value} (h:Zgs vk v):AVR g w (avV v) v:=by
 cases vk<;>cases v<;>simp [Zgs] at h<;>first | exact ⟨[],⟨rfl,rfl⟩,by simp⟩ | exact ⟨[],⟨rfl,rfl,h⟩,by simp⟩
theorem ZyL (v:Value):avU U (avV v):=by cases v<;>trivial
theorem Znz [NW] {kk:PK} {x:SV} {v k:Value} (h:Zrr kk x=some k) (hx:SVR g w x v):v=k∧Zgs kk k:=by
 unfold Zrr at h
 split at h
 ·split at h<;>simp only [Option.some.injEq,reduceCtorEq] at h
  rename_i e;subst e h
  exact ⟨Zbd hx,rfl⟩
 ·simp only [Option.some.injEq] at h;subst h
  exact ⟨(Zhl hx).1,(Zhl hx).2⟩
 ·simp only [Option.some.injEq] at h;subst h
  exact ⟨ZeZ hx,trivial⟩
 ·simp at h
theorem Zln (htt:∀t i,tt t=some i→TOk P t i) {t:Nat} {kk vk:PK} (h:ZdD kk vk (tt t)=true):TOk P t (.map kk vk):=by
 unfold ZdD at h
 split at h
 ·rename_i a b hti
  simp only [Bool.and_eq_true,decide_eq_true_eq] at h
  rw [h.1,h.2] at hti
  exact htt _ _ hti
 ·simp at h
theorem ZrE [NW] {vk:PK} {zv:Value} (h:Q7 (ZdT vk) zv=true):AVR g w (ZdT vk) zv∧avU U (ZdT vk):=by
 refine ⟨Zex h,?_⟩
 cases vk<;>trivial
theorem Zof [NW] (htt:∀t i,tt t=some i→TOk P t i) {t:Nat} {kk vk:PK} {kv:List (Value × Value)} {i v:SV} {vi:Value} {ok:Bool} {b c:Nat} {es:Array MapEntry} (hm:ZdD kk vk (tt t)=true) (h:Zn5 kk vk kv i ok=some v) (hi:SVR g w i vi) (hb:w.heap[b]?=some (.map es c)) (hes:Zc3 es=kv) (hok:Zie kk vk kv):
  ∃cv,(Instr.lookup t (.map (some b)) vi ok).run P w=.ok cv w∧SVR g w v cv∧svU U v:=by
 obtain ⟨kt,et,dk,dv,inf,zv,h1,h2,h3,h4,h5,h6,h7,h8⟩:=Zln htt hm
 unfold Zn5 at h
 obtain ⟨k,hk,rfl⟩:=Option.map_eq_some_iff.1 h
 obtain ⟨rfl,hkk⟩:=Znz hk hi
 subst hes
 have hz:=ZrE (g:=g) (w:=w) (U:=U) h8
 have hze:(zeroValue et).run P w=.ok zv w:=Zij h6 h7
 have key:∃r:Option (Nat × Value),(Instr.findKey kt vi es.toList).run P w=.ok r w∧(match r with | some p=>Zjz (Zc3 es) vi=some p.2∧Zgs vk p.2 | none=>Zjz (Zc3 es) vi=none):=by
  rcases Zhg h3 hkk es.toList 0 hok with ⟨f1,f2,_⟩ | ⟨j,e,f1,f2,f3,f4,f5,_⟩
  ·exact ⟨none,run_findKey h2 f1,f2⟩
  ·exact ⟨some _,run_findKey h2 f1,f4,f5⟩
 obtain ⟨r,hr,hr2⟩:=key
 have hck:(Instr.checkKey es.isEmpty 10000 kt vi).run P w=.ok () w:=run_checkKey (P:=P) (w:=w) h2 (Zj5 h3 hkk) es.isEmpty 9999
 have hg:(getObj b).run P w=.ok (.map es c) w:=by simp [getObj,Sem.run,hb]
 have hfin:∃rv rb,(Instr.lookup t (.map (some b)) vi ok).run P w=.ok (if ok then .tuple #[rv,.bool rb] else rv) w∧AVR g w (Zbi (Zc3 es) vi (ZdT vk)) rv∧avU U (Zbi (Zc3 es) vi (ZdT vk))∧ZdR (Zc3 es) vi=rb:=by
  cases r with
  | none=>
   simp only at hr2
   refine ⟨zv,false,?_,by simp only [Zbi,hr2];exact hz.1,by simp only [Zbi,hr2];exact hz.2,by simp [ZdR,hr2]⟩
   unfold Instr.lookup
   simp only [Sem.run_bind,Yw h1,Result.andThen_ok,hg,Sem.run_pure,hck,hr,hze]
  | some p=>
   simp only at hr2
   refine ⟨p.2,true,?_,by simp only [Zbi,hr2.1];exact Zwq hr2.2,by simp only [Zbi,hr2.1];exact ZyL _,by simp [ZdR,hr2.1]⟩
   unfold Instr.lookup
   simp only [Sem.run_bind,Yw h1,Result.andThen_ok,hg,Sem.run_pure,hck,hr]
 obtain ⟨rv,rb,q1,q2,q3,q4⟩:=hfin
 refine ⟨_,q1,?_,?_⟩
 ·cases ok with
  | true=>exact ⟨[rv,.bool rb],rfl,⟨_,rfl,q2⟩,⟨_,rfl,[],⟨by rw [q4],rfl⟩,by simp⟩,trivial⟩
  | false=>exact ⟨_,rfl,q2⟩
 ·cases ok with
  | true=>
   intro y my
   simp only [List.mem_cons,List.not_mem_nil,or_false] at my
   rcases my with rfl | rfl
   ·intro z mz;simp at mz;subst mz;exact q3
   ·intro z mz;simp at mz;subst mz;trivial
  | false=>intro z mz;simp at mz;subst mz;exact q3
theorem ZtJ [NW] (htt:∀t i,tt t=some i→TOk P t i) (hI:HI W g st.ob w) {t:Nat} {x i v:SV} {vx vi:Value} {ok:Bool} (h:Zjf st (tt t) x i ok=some v) (hx:SVR g w x vx) (hi:SVR g w i vi):
  ∃cv,(Instr.lookup t vx vi ok).run P w=.ok cv w∧SVR g w v cv∧svU U v:=by
 unfold Zjf at h
 split at h
 ·rename_i k
  split at h
  ·rename_i kk vk kv hk
   split at h
   ·rename_i hm
    have hv:=ZeY hx
    have ho:=hI.obs k
    rw [hk] at ho
    obtain ⟨b,es,c,h1,_,_,h4,h5,h6⟩:=ho
    rw [hv,h1]
    exact Zof htt hm h hi h4 h5 h6
   ·simp at h
  ·simp at h
 ·rename_i kk vk kv
  split at h
  ·rename_i hm
   obtain ⟨y,hy,hx⟩:=hx
   simp at hy;subst hy
   obtain ⟨L,⟨b,es,c,rfl,h4,h5,h6,_⟩,_⟩:=hx
   exact Zof htt hm h hi h4 h5 h6
  ·simp at h
 ·simp at h
theorem Zxn [NW] (htt:∀t i,tt t=some i→TOk P t i) (hI:HI W g st.ob w) (hU:StU U st) (hkey:¬U key) {t:Nat} {r:SV × List (Nat × Ob)} (h:ZmB key (tt t)=some r) {s:Sem Next} (hs:s=(do pure (.value (←Instr.makeMap t none)))):Fin P W U key st g w s r:=by
 unfold ZmB at h
 split at h
 ·rename_i kk vk hti
  simp only [Option.some.injEq] at h;subst h
  have hrun:s.run P w=.ok (.value (.map (some w.heap.size))) (w.alloc (.map #[] 0)):=by
   subst hs
   have h0:(Instr.makeMap t none).run P w=.ok (.map (some w.heap.size)) (w.alloc (.map #[] 0)):=rfl
   simp only [Sem.run_bind,h0,Result.andThen_ok,Sem.run_pure]
  have hb:Below w.heap.size w (w.alloc (.map #[] 0)):=(Below.refl _ _).alloc (Nat.le_refl _) _
  have hnew:=heap_alloc_new w (.map #[] 0)
  obtain ⟨h1,h2⟩:=hI.turn (key:=key) (U:=U) (w':=w.alloc (.map #[] 0)) (v:=.map (some w.heap.size)) (O:=[w.heap.size]) (D:=[]) (o:=.map kk vk []) hU.ob hkey [] (by simp)
   (hI.below.trans hb) hb.size (fun b hb' _=>hb.block b hb') (by simp) (by simp) (by simp) (fun b mb=>by
    simp at mb;subst mb
    exact ⟨.inl hI.below.size,_,_,hnew⟩)
   (fun _=>⟨w.heap.size,#[],0,by simp [Gh.turn,upd],by simp [Gh.turn,upd],by simp [Gh.turn,upd],hnew,rfl,fun _ m=>by simp at m⟩)
  have hwf:=Zhr (key:=key) (o:=.map kk vk []) hU [] trivial
  exact ⟨_,_,_,.inl hrun,h1,⟨_,rfl,⟨by simp [Gh.turn,upd],by simp [Value.oneCell']⟩⟩,h2,fun y my=>by simp at my;subst my;exact Ziw,hwf.1,hwf.2⟩
 ·simp at h
theorem ZtQ [NW] (htt:∀t i,tt t=some i→TOk P t i) {t:Nat} {kk vk:PK} {kv:List (Value × Value)} {k v:Value} {b c:Nat} {es:Array MapEntry} (hm:ZdD kk vk (tt t)=true) (hk:Zgs kk k) (hv:Zgs vk v) (hb:w.heap[b]?=some (.map es c)) (hes:Zc3 es=kv) (hok:Zie kk vk kv):
  ∃es' c',(Instr.mapUpdate t (.map (some b)) k v).run P w=.ok () { w with heap:=w.heap.setIfInBounds b (.map es' c') }∧Zc3 es'=Zew kv k v∧Zie kk vk (Zew kv k v):=by
 obtain ⟨kt,et,dk,dv,inf,zv,h1,h2,h3,h4,h5,h6,h7,h8⟩:=Zln htt hm
 subst hes
 have hck:(Instr.checkKey false 10000 kt k).run P w=.ok () w:=run_checkKey (P:=P) (w:=w) h2 (Zj5 h3 hk) false 9999
 have hg:(getObj b).run P w=.ok (.map es c) w:=by simp [getObj,Sem.run,hb]
 have hst:∀o,(setObj b o).run P w=.ok () { w with heap:=w.heap.setIfInBounds b o }:=fun o=>by simp [setObj,Sem.run,hb]
 have hput:∀{kv:List (Value × Value)},Zie kk vk kv→Zie kk vk (Zew kv k v):=fun {kv}=>by
  induction kv with
  | nil=>intro _ p m;simp [Zew] at m;subst m;exact ⟨hk,hv⟩
  | cons q r ih=>
   intro h p m
   simp only [Zew] at m
   split at m
   ·rcases List.mem_cons.1 m with rfl | m
    ·exact ⟨hk,hv⟩
    ·exact h p (by simp [m])
   ·rcases List.mem_cons.1 m with rfl | m
    ·exact h p (by simp)
    ·exact ih (fun q mq=>h q (by simp [mq])) p m
 rcases Zhg h3 hk es.toList 0 hok with ⟨f1,_,f2⟩ | ⟨j,e,f1,f2,f3,_,_,f4⟩
 ·refine ⟨es.push { key:=k,val:=v,born:=c },c+1,?_,?_,hput hok⟩
  ·have hf:=run_findKey (P:=P) (w:=w) h2 f1
   unfold Instr.mapUpdate
   simp only [Sem.run_bind,Yw h1,Result.andThen_ok,hg,hck,hf,hst]
  ·rw [show Zew (Zc3 es) k v=_ from f2 v];simp [Zc3]
 ·rw [Nat.zero_add] at f1
  have hf:=run_findKey (P:=P) (w:=w) h2 f1
  have hj:es[j]?=some e:=by simpa using f2
  have hkey:(Instr.keyThatStays k k).run P w=.ok k w:=run_keyThatStays (Zj5 h3 hk)
  refine ⟨es.modify j fun e=>{ e with key:=k,val:=v },c,?_,?_,hput hok⟩
  ·unfold Instr.mapUpdate
   simp only [Sem.run_bind,Yw h1,Result.andThen_ok,hg,hck,hf,hst,hj,Option.map_some,Option.getD_some,f3,hkey]
  ·rw [show Zew (Zc3 es) k v=_ from f4 v];simp [Zc3]
theorem ZvE [NW] (htt:∀t i,tt t=some i→TOk P t i) (hI:HI W g st.ob w) (hU:StU U st) {t:Nat} {x i v:SV} {u:List (Nat × Ob)} {vx vi vv:Value} (h:Zrp st (tt t) x i v=some u) (hx:SVR g w x vx) (hi:SVR g w i vi) (hv:SVR g w v vv) {s:Sem Next} (hs:s=(do Instr.mapUpdate t vx vi vv;pure .skip)):Fin P W U key st g w s (.und,u):=by
 unfold Zrp at h
 split at h
 ·rename_i k
  split at h
  ·rename_i kk vk kv hk
   split at h
   ·rename_i hm
    obtain ⟨a,ha,h⟩:=Option.bind_eq_some_iff.1 h
    obtain ⟨b',hb',rfl⟩:=Option.map_eq_some_iff.1 h
    obtain ⟨rfl,hka⟩:=Znz ha hi
    obtain ⟨rfl,hkb⟩:=Znz hb' hv
    have hvx:=ZeY hx
    have ho:=hI.obs k
    rw [hk] at ho
    obtain ⟨b,es,c,h1,h2,h3,h4,h5,h6⟩:=ho
    obtain ⟨es',c',r1,r2,r3⟩:=ZtQ (w:=w) htt hm hka hkb h4 h5 h6
    have hrun:s.run P w=.ok .skip { w with heap:=w.heap.setIfInBounds b (.map es' c') }:=by
     rw [hs,hvx,h1];simp only [Sem.run_bind,r1,Result.andThen_ok,Sem.run_pure]
    obtain ⟨q1,q2⟩:=heap_set (o':=.map es' c') h4
    have hlt:b<w.heap.size:=(Array.getElem?_eq_some_iff.1 h4).1
    have hsz:({ w with heap:=w.heap.setIfInBounds b (.map es' c') }:World).heap.size=w.heap.size:=by simp
    have hbW:W.heap.size≤b∨W.x b:=(hI.plain k b (by simp [h2])).1
    have hUk:U k:=Classical.byContradiction fun hn=>by have:=hU.gone _ hn;rw [hk] at this;simp at this
    have hmv:∀b',b'<w.heap.size→¬g.own b'→({ w with heap:=w.heap.setIfInBounds b (.map es' c') }:World).heap[b']?=w.heap[b']?:=fun b' _ hn=>q2 b' fun e=>hn (.inl ⟨k,by simp [h2,e]⟩)
    refine ⟨g,undef,_,.inr ⟨hrun,rfl⟩,?_,rfl,fun x u hx hu=>hu.move hx (fun _ _=>rfl) hmv (Qt.refl _ _) (Nat.le_of_eq hsz.symm),trivial,fun q=>?_,fun q hq=>?_⟩
    ·refine hI.step (U:=U) (fun q=>q=k) ?_ rfl (fun b' _ hn=>q2 b' fun e=>hn k rfl (by simp [h2,e])) (fun q hq=>⟨ZI _ _ hq,rfl,rfl,rfl⟩) hU.ob (fun _ _=>rfl) (Qt.refl _ _) (fun q hq=>?_)
     ·exact ⟨hI.below.os,hI.below.tape,hI.below.output,Nat.le_trans hI.below.size (Nat.le_of_eq hsz.symm),fun q hq hx=>by
       show (w.heap.setIfInBounds b (.map es' c'))[q]?=_
       rw [q2 q (fun e=>by subst e;rcases hbW with h | h;omega;exact hx h)];exact hI.below.block q hq hx⟩
     ·subst hq
      refine ⟨?_,hI.nodup q,fun b' m=>?_,hI.apart q⟩
      ·simp only [Zk,Zw]
       exact ⟨b,es',c',h1,h2,h3,q1,r2,r3⟩
      ·simp [h2,h3] at m
       subst m
       refine ⟨hbW,?_⟩
       simp only [Zk,Zw]
       exact ⟨_,_,q1⟩
    ·simp only [Zk,upd]
     split
     ·trivial
     ·exact (hU.ob q).mono fun _=>.inl
    ·simp only [Zk,upd]
     split
     ·rename_i e;subst e;exact absurd (.inl hUk) hq
     ·exact hU.gone q fun h=>hq (.inl h)
   ·simp at h
  ·simp at h
 ·simp at h
theorem ZqJ [NW]:∀{cs:List AV} {l:List CT} {vs:List Value},Zh2.zBox cs=some l→ZH (AVR g w) cs vs→∃L,RCs w l vs L∧∀b∈L,¬g.own b
 | [],l,[],h,_=>by simp [Zh2.zBox] at h;subst h;exact ⟨[],⟨rfl,rfl⟩,by simp⟩
 | [],_,_::_,_,h=>h.elim
 | _::_,_,[],_,h=>h.elim
 | x::r,l,v::vs,h,hr=>by
  cases x with
  | c x=>
   simp only [Zh2.zBox] at h
   obtain ⟨b,hb,rfl⟩:=Option.map_eq_some_iff.1 h
   obtain ⟨L,h1,h2⟩:=ZqJ hb hr.2
   obtain ⟨L0,h3,h4⟩:=hr.1
   refine ⟨L0++L,⟨v,vs,L0,L,rfl,rfl,h3,h1⟩,fun b mb=>?_⟩
   rcases List.mem_append.1 mb with m | m
   ·exact h4 b m
   ·exact h2 b m
  | _=>simp [Zh2.zBox] at h
theorem Zrd {x:SV} {r:CT × List (Nat × Ob)} (h:Zh2 st x=some r):(∀p∈r.2,p.2=Ob.gone∧∃t cs,st.ob p.1=.box t cs):=by
 unfold Zh2 at h
 split at h
 ·split at h
  ·rename_i k _ t cs hk
   obtain ⟨l,_,rfl⟩:=Option.map_eq_some_iff.1 h
   intro p mp;simp at mp;subst mp
   exact ⟨rfl,t,cs,hk⟩
  ·simp at h
 ·simp only [Option.some.injEq] at h;subst h;intro p mp;simp at mp
 ·simp at h
theorem Ztq [NW] {ob:Nat→Ob} (hI:HI W g ob w) {x:SV} {r:CT × List (Nat × Ob)} {v:Value} (h:Zh2 st x=some r) (hob:∀p∈r.2,ob p.1=st.ob p.1) (hx:SVR g w x v):
  ∃g1:Gh,HI W g1 (Zk ob r.2) w∧g1.val=g.val∧Xs g1 g∧∃L,RC w r.1 v L∧∀b∈L,¬g1.own b:=by
 unfold Zh2 at h
 split at h
 ·rename_i k
  split at h
  ·rename_i t cs hk
   obtain ⟨l,hl,rfl⟩:=Option.map_eq_some_iff.1 h
   have hk':ob k=.box t cs:=(hob (k,.gone) (by simp)).trans hk
   obtain ⟨g1,i1,i2,i3,b,vs,j1,j2,j3,j4,j5⟩:=Zs0 hI hk'
   obtain ⟨L,l1,l2⟩:=ZqJ hl j5
   obtain ⟨b',e1,rfl⟩:=hx
   rw [j1] at e1
   simp at e1
   subst e1
   refine ⟨g1,i1,i2,i3,b::L,⟨b,vs,L,rfl,j3,rfl,j4,l1⟩,fun x mx=>?_⟩
   rcases List.mem_cons.1 mx with rfl | mx
   ·exact j2
   ·exact fun hx=>l2 x mx (i3.own x hx)
  ·simp at h
 ·simp only [Option.some.injEq] at h;subst h
  obtain ⟨y,hy,hx⟩:=hx
  simp at hy;subst hy
  obtain ⟨L,h1,h2⟩:=hx
  exact ⟨g,hI,rfl,Xs.refl _,L,h1,h2⟩
 ·simp at h
theorem Zpa [NW]:∀{xs:List SV} {ob:Nat→Ob} {g:Gh} {r:List CT × List (Nat × Ob)} {vs:List Value},HI W g ob w→ZdM st xs=some r→(r.2.map (·.1)).Nodup→(∀p∈r.2,ob p.1=st.ob p.1)→ZH (SVR g w) xs vs→
  ∃g1:Gh,HI W g1 (Zk ob r.2) w∧g1.val=g.val∧Xs g1 g∧∃L,RCs w r.1 vs L∧∀b∈L,¬g1.own b
 | [],ob,g,r,vs,hI,h,_,_,hr=>by
  simp [ZdM] at h;subst h
  cases vs with
  | nil=>exact ⟨g,hI,rfl,Xs.refl _,[],⟨rfl,rfl⟩,by simp⟩
  | cons _ _=>exact hr.elim
 | x::xs,ob,g,r,[],hI,h,_,_,hr=>hr.elim
 | x::xs,ob,g,r,v::vs,hI,h,hn,hob,hr=>by
  simp only [ZdM] at h
  obtain ⟨a,ha,h⟩:=Option.bind_eq_some_iff.1 h
  obtain ⟨b,hb,rfl⟩:=Option.map_eq_some_iff.1 h
  simp only [List.map_append,List.nodup_append] at hn
  obtain ⟨n1,n2,n3⟩:=hn
  obtain ⟨g1,i1,i2,i3,L1,l1,l2⟩:=Ztq hI ha (fun p m=>hob p (by simp [m])) hr.1
  have hob2:∀p∈b.2,Zk ob a.2 p.1=st.ob p.1:=fun p mp=>by
   have hne:∀q∈a.2,q.1≠p.1:=fun q mq=>n3 q.1 (List.mem_map.2 ⟨q,mq,rfl⟩) p.1 (List.mem_map.2 ⟨p,mp,rfl⟩)
   have:∀(u:List (Nat × Ob)) (ob:Nat→Ob),(∀q∈u,q.1≠p.1)→Zk ob u p.1=ob p.1:=by
    intro u
    induction u with
    | nil=>intro ob _;rfl
    | cons q u ih=>intro ob h;rw [Zk,ih _ fun z mz=>h z (by simp [mz])];exact ZI _ _ fun e=>h q (by simp) e.symm
   rw [this _ _ hne]
   exact hob p (by simp [mp])
  have hr2:ZH (SVR g1 w) xs vs:=hr.2.mono fun x u _ hx=>hx.less i2 i3
  obtain ⟨g2,k1,k2,k3,L2,m1,m2⟩:=Zpa i1 hb n2 hob2 hr2
  refine ⟨g2,?_,k2.trans i2,k3.trans i3,L1++L2,⟨v,vs,L1,L2,rfl,rfl,l1,m1⟩,fun x mx=>?_⟩
  ·rw [YR];exact k1
  ·rcases List.mem_append.1 mx with m | m
   ·exact fun hx=>l2 x m (k3.own x hx)
   ·exact m2 x m
theorem ZkN [NW]:∀{xs:List SV} {r:List CT × List (Nat × Ob)},ZdM st xs=some r→∀p∈r.2,p.2=Ob.gone∧∃t cs,st.ob p.1=.box t cs
 | [],r,h=>by simp [ZdM] at h;subst h;intro p m;simp at m
 | x::xs,r,h=>by
  simp only [ZdM] at h
  obtain ⟨a,ha,h⟩:=Option.bind_eq_some_iff.1 h
  obtain ⟨b,hb,rfl⟩:=Option.map_eq_some_iff.1 h
  intro p m
  rcases List.mem_append.1 m with m | m
  ·exact Zrd ha p m
  ·exact ZkN hb p m
theorem Zu0 [NW] (hI:HI W g st.ob w) (hU:StU U st) {f:FuncId} {xs:List SV} {vs:List Value} {r:List CT × List (Nat × Ob)} (h:ZdM st xs=some r) (hn:(r.2.map (·.1)).Nodup) (hr:ZH (SVR g w) xs vs) {s:Sem Next} (hs:s.run P w=.ok (.value (.func (.func f) #[] vs.toArray)) w):Fin P W U key st g w s (.p false [.c (.fn f r.1)],r.2):=by
 obtain ⟨g1,i1,i2,i3,L,l1,l2⟩:=Zpa hI h hn (fun _ _=>rfl) hr
 have hg:=ZkN h
 have hall:∀(u:List (Nat × Ob)) (ob:Nat→Ob) (k:Nat),(∀p∈u,p.2=Ob.gone)→Zk ob u k=ob k∨Zk ob u k=.gone:=by
  intro u
  induction u with
  | nil=>intro ob k _;exact .inl rfl
  | cons q u ih=>
   intro ob k h
   rw [Zk]
   rcases ih (upd ob q.1 q.2) k (fun p m=>h p (by simp [m])) with e | e
   ·rw [e]
    by_cases hk:k=q.1
    ·right;rw [hk,Zw];exact h q (by simp)
    ·left;exact ZI _ _ hk
   ·exact .inr e
 refine ⟨g1,_,w,.inl hs,i1,⟨_,rfl,L,⟨vs,rfl,l1⟩,l2⟩,fun x u _ hx=>hx.less i2 i3,Xt _,fun k=>?_,fun k hk=>?_⟩
 ·rcases hall r.2 st.ob k (fun p m=>(hg p m).1) with e | e
  ·rw [e];exact (hU.ob k).mono fun _=>.inl
  ·rw [e];trivial
 ·rcases hall r.2 st.ob k (fun p m=>(hg p m).1) with e | e
  ·rw [e];exact hU.gone k fun h=>hk (.inl h)
  ·exact e
end
end Go.Proofs.YtojnhepgnbhaaaaGreatDoor
namespace Go.Proofs.YtojnhepgnbhaaaaGreatDoor
open Go.RowKit
section
variable {P:Program} {W:Q8} {U:Nat→Prop} {key:Nat} {st:St} {g:Gh} {w w':World} {a:Act} {tt:Nat→Option TI}
theorem Zet:∀(ts:List TypeId) (xs:List Operand),(ZhK ts xs).map (·.2)=xs
 | _,[]=>by cases ‹List TypeId›<;>rfl
 | [],x::xs=>by simp [ZhK,Zet [] xs]
 | t::ts,x::xs=>by simp [ZhK,Zet ts xs]
theorem Zry [NW] (htt:∀t i,tt t=some i→TOk P t i) {t:Nat} {z:List AV} (h:Zlo (tt t)=some z):∃zv vs,(zeroValue t).run P w=.ok zv w∧zv.cells=(vs:List Value).toArray∧ZH (AVR g w) z vs∧Qz U z:=by
 unfold Zlo at h
 split at h<;>simp only [Option.some.injEq,reduceCtorEq] at h<;>subst h<;>rename_i hti
 ·obtain ⟨d,zv,i,h1,h2,h3,h4,h5,h6⟩:=htt t _ hti
  have hr:AVR g w _ zv:=Zex h6
  exact ⟨zv,[zv],Zij h3 h4,by rw [Zmu hr.one],⟨hr,trivial⟩,fun y m=>by
   simp at m;subst m
   cases y<;>first | trivial | simp [Q7] at h6⟩
 ·obtain ⟨fields,i,zvs,h1,h2,h3,h4,h5,_⟩:=htt t _ hti
  obtain ⟨q1,q2⟩:=Zg8 (g:=g) (w:=w) (U:=U) h5
  exact ⟨.agg zvs,zvs.toList,Zij h2 h4,by simp [Value.cells],q1,q2⟩
 ·obtain ⟨_,hm,_,_,j,h1,h2,h3⟩:=htt t _ hti
  exact ⟨_,[.slice none 0 0],Zij h1 h3,rfl,⟨rfl,trivial⟩,fun y m=>by simp at m;subst m;trivial⟩
set_option maxHeartbeats 1000000 in
theorem Zms [NW] (htt:∀t i,tt t=some i→TOk P t i) (o:Oper) {r:SV × List (Nat × Ob)} (hr:opE tt key o st=some r) (hI:HI W g st.ob w) (hS:∀t,SVR g w (st.sl t) (a.tmps.getD t undef)) (hU:StU U st) (hkey:¬U key):
  Fin P W U key st g w (execOp a.eval o) r:=by
 have ev:=fun t x=>Zjj (P:=P) (a:=a) (g:=g) (w:=w) (U:=U) htt hS hU t x
 have pur:∀{v:Option SV} {s:Sem Value},Zbn v=some r→execOp a.eval o=(do pure (.value (←s)))→(∀u,v=some u→∃cv,s.run P w=.ok cv w∧SVR g w u cv∧svU U u)→Fin P W U key st g w (execOp a.eval o) r:=fun {v s} hp he hv=>by
  obtain ⟨u,hu,rfl⟩:=Option.map_eq_some_iff.1 hp
  obtain ⟨cv,c1,c2,c3⟩:=hv u hu
  exact Zah hI hU (by rw [he];simp only [Sem.run_bind,c1,Result.andThen_ok,Sem.run_pure]) c2 c3
 obtain ⟨dst,op,ty,pos,af,gd⟩:=o
 cases op with
 | move x=>
  simp only [opE,Option.some.injEq] at hr;subst hr
  exact Zah hI hU rfl (ev ty x).1 (ev ty x).2
 | assign x=>
  simp only [opE,Option.some.injEq] at hr;subst hr
  exact Zah hI hU rfl (ev ty x).1 (ev ty x).2
 | pick c x y=>
  simp only [opE] at hr
  split at hr
  ·rename_i b hb
   simp only [Option.some.injEq] at hr;subst hr
   have hc:=(ev 0 c).1
   rw [hb] at hc
   obtain ⟨cv,c1,c2,c3⟩:=Zt2 (P:=P) hc (ev ty x) (ev ty y)
   exact Zah hI hU c1 c2 c3
  ·simp at hr
 | alloc t=>
  simp only [opE] at hr
  obtain ⟨z,hz,rfl⟩:=Option.map_eq_some_iff.1 hr
  obtain ⟨zv,vs,h1,h2,h3,h4⟩:=Zry (P:=P) (g:=g) (w:=w) (U:=U) htt hz
  exact Zte hI hU hkey h3 h4 (by simp [execOp,Instr.alloc,h1,newVar,newRow,h2])
 | box t x=>
  simp only [opE] at hr
  split at hr
  ·rename_i ag cs hx
   simp only [Option.some.injEq] at hr;subst hr
   have hv:=ev t x
   rw [hx] at hv
   obtain ⟨vs,h2,h3⟩:=PVR.cells hv.1
   exact Zte hI hU hkey h3 hv.2 (by simp [execOp,Instr.box,newVar,newRow,h2])
  ·simp at hr
 | build t parts=>
  simp only [opE] at hr
  split at hr
  ·rename_i fs n z hti
   obtain ⟨cs,hcs,rfl⟩:=Option.map_eq_some_iff.1 hr
   obtain ⟨cv,c1,c2,c3⟩:=ZrX (P:=P) htt hS hU hti hcs
   exact Zah hI hU (by simp only [execOp,Sem.run_bind,c1,Result.andThen_ok,Sem.run_pure]) c2 c3
  ·simp at hr
 | buildSlice t len parts=>
  simp only [opE] at hr
  split at hr
  ·rename_i e m bytes z hti
   obtain ⟨⟨xs,ks,d⟩,h1,hr⟩:=Option.bind_eq_some_iff.1 hr
   split at hr
   ·rename_i hc
    simp only [Option.some.injEq] at hr;subst hr
    exact Zxd htt hI hS hU hkey hti h1 hc.1 hc.2.1 hc.2.2.1 rfl
   ·simp at hr
  ·simp at hr
 | load t x=>exact pur hr rfl fun u hu=>ZqM htt hI hU hu (ev 0 x).1
 | store t x v=>
  simp only [opE] at hr
  obtain ⟨u,hu,rfl⟩:=Option.map_eq_some_iff.1 hr
  have hx:=ev 0 x
  have hv:=ev t v
  unfold ZkJ at hu
  split at hu
  ·rename_i k off ag vs he1 he2
   rw [he1] at hx
   rw [he2] at hv
   split at hu
   ·rename_i tb cs hk
    split at hu
    ·rename_i hc
     simp only [Option.some.injEq] at hu;subst hu
     exact Zsm htt hI hU hk hc.1 hc.2.2 hx.1 hv.1 hv.2 hc.2.1 rfl
    ·simp at hu
   ·simp at hu
  ·rename_i k m i off ag vs he1 he2
   rw [he1] at hx
   rw [he2] at hv
   split at hu
   ·rename_i e m' xs d hk
    obtain ⟨y,hy,hu⟩:=Option.bind_eq_some_iff.1 hu
    obtain ⟨ys,hys,hu⟩:=Option.bind_eq_some_iff.1 hu
    split at hu
    ·rename_i hc
     simp only [Option.some.injEq] at hu;subst hu
     obtain ⟨rfl,hc1,hc2,hc3,hc4⟩:=hc
     exact Zr4 htt hI hU hk (by omega) hy hys hc1 hc3 hx.1 hv.1 hc2 rfl
    ·simp at hu
   ·simp at hu
  ·simp at hu
 | nilCheck x=>
  simp only [opE] at hr
  have hx:=ev 0 x
  split at hr<;>simp only [Option.some.injEq,reduceCtorEq] at hr<;>subst hr<;>rename_i he<;>rw [he] at hx
  ·obtain ⟨b,_,hv⟩:=hx.1
   exact Zah hI hU (cv:=a.eval x) (by simp [execOp,hv]) hx.1 hx.2
  ·obtain ⟨b,_,_,_,hv⟩:=hx.1
   exact Zah hI hU (cv:=a.eval x) (by simp [execOp,hv]) hx.1 hx.2
  ·obtain ⟨b,_,_,_,hv,_⟩:=hx.1
   exact Zah hI hU (cv:=a.eval x) (by simp [execOp,hv]) hx.1 hx.2
  ·obtain ⟨b,_,_,hv,_⟩:=Zqv hx.1
   exact Zah hI hU (cv:=a.eval x) (by simp [execOp,hv]) hx.1 hx.2
 | binOp op t x y t'=>exact pur hr rfl fun u hu=>ZtV htt hu (ev t x).1 (ev t y).1
 | unOp op t x=>exact pur hr rfl fun u hu=>ZxX hu (ev 0 x).1
 | convert s t x=>exact pur hr rfl fun u hu=>Zs7 htt hI hu (ev 0 x).1
 | makeSlice t n c=>
  simp only [opE] at hr
  have hn:=(ev 0 n).1
  have hc:=(ev 0 c).1
  unfold ZoS at hr
  split at hr
  ·rename_i n' c' he1 he2
   rw [he1] at hn
   rw [he2] at hc
   split at hr
   ·rename_i e m bytes z hti
    obtain ⟨ze,hz,hr⟩:=Option.bind_eq_some_iff.1 hr
    split at hr
    ·rename_i hq
     simp only [Option.some.injEq] at hr;subst hr
     obtain ⟨h0,rfl,h1⟩:=hq
     have e1:=Zbd hn
     have e2:=Zbd hc
     obtain ⟨n'',rfl⟩:=Int.eq_ofNat_of_zero_le h0
     simp only [Int.toNat_natCast]
     exact ZtE htt hI hU hkey hti hz (by omega) (by simp only [execOp,e1,e2])
    ·simp at hr
   ·simp at hr
  ·simp at hr
 | slice t x lo hi mx=>
  cases mx with
  | some _=>simp [opE] at hr
  | none=>
   refine Zrh (vlo:=lo.map a.eval) (vhi:=hi.map a.eval) htt hI hU hkey hr (ev 0 x).1 ?_ ?_ rfl
   ·cases lo with
    | none=>trivial
    | some y=>exact (ev 0 y).1
   ·cases hi with
    | none=>trivial
    | some y=>exact (ev 0 y).1
 | fieldAddr t x f=>
  simp only [opE] at hr
  split at hr
  ·rename_i fs n z hti
   refine pur hr rfl fun u hu=>?_
   obtain ⟨fi,hf,hu⟩:=Option.bind_eq_some_iff.1 hu
   exact ZwU htt hti hf hu (ev 0 x).1 (ev 0 x).2
  ·simp at hr
 | field t x f=>
  simp only [opE] at hr
  split at hr
  ·rename_i fs n z hti
   exact pur hr rfl fun u hu=>Zwb htt hti hu (ev 0 x).1 (ev 0 x).2
  ·simp at hr
 | indexAddr t x i=>
  simp only [opE] at hr
  split at hr
  ·rename_i e m bytes z hti
   exact pur hr rfl fun u hu=>Zwt htt hI hU hti hu (ev 0 x).1 (ev 0 x).2 (ev 0 i).1
  ·simp at hr
 | index t x i=>exact pur hr rfl fun u hu=>Zum htt hu (ev 0 x).1 (ev 0 i).1
 | makeFunc fn first caps=>
  cases fn with
  | func f=>
   simp only [opE] at hr
   split at hr
   ·rename_i h0
    obtain ⟨q,hq,hr⟩:=Option.bind_eq_some_iff.1 hr
    split at hr
    ·rename_i hn
     simp only [Option.some.injEq] at hr;subst hr
     have hf:first=#[]:=by simpa using h0
     have hall:ZH (SVR g w) (caps.toList.map (st.ev tt 0)) (caps.toList.map a.eval):=ZH.of_map _ _ fun x _=>(ev 0 x).1
     refine Zu0 hI hU hq hn hall ?_
     have e1:(caps.toList.map a.eval).toArray=caps.map a.eval:=by apply Array.ext';simp
     rw [e1]
     simp [execOp,Instr.makeFunc,hf]
    ·simp at hr
   ·simp at hr
  | _=>simp [opE] at hr
 | makeMap t res=>
  cases res with
  | none=>
   simp only [opE] at hr
   exact Zxn htt hI hU hkey hr rfl
  | some _=>simp [opE] at hr
 | lookup t x i ok=>exact pur hr rfl fun u hu=>ZtJ htt hI hu (ev 0 x).1 (ev 0 i).1
 | mapUpdate t x i v=>
  simp only [opE] at hr
  obtain ⟨u,hu,rfl⟩:=Option.map_eq_some_iff.1 hr
  exact ZvE htt hI hU hu (ev 0 x).1 (ev 0 i).1 (ev 0 v).1 rfl
 | extract x i=>exact pur hr rfl fun u hu=>Zv2 hu (ev 0 x).1 (ev 0 x).2
 | call c=>
  obtain ⟨callee,args,ts⟩:=c
  cases callee with
  | builtin b=>
   simp only [opE] at hr
   have hts:∀l:List TypeId,ts.toList=l→ts=l.toArray:=fun l h=>by rw [←h]
   have one:∀v,evs tt st ts.toList args.toList=[v]→∃x,args=#[x]∧SVR g w v (a.eval x)∧svU U v:=fun v h=>by
    obtain ⟨args⟩:=args
    generalize ts.toList=l at h
    cases args with
    | nil=>cases l<;>simp [evs,ZhK] at h
    | cons x xs=>
     cases xs with
     | nil=>
      refine ⟨x,rfl,?_⟩
      cases l with
      | nil=>simp only [evs,ZhK,List.map_cons,List.map_nil,List.cons.injEq,and_true] at h;rw [←h];exact ev _ _
      | cons t l=>cases l<;>(simp only [evs,ZhK,List.map_cons,List.map_nil,List.cons.injEq,and_true] at h;rw [←h];exact ev _ _)
     | cons y ys=>cases l with
      | nil=>simp [evs,ZhK] at h
      | cons t l=>cases l<;>simp [evs,ZhK] at h
   have two:∀v u,evs tt st ts.toList args.toList=[v,u]→∃x y,args=#[x,y]∧(SVR g w v (a.eval x)∧svU U v)∧SVR g w u (a.eval y)∧svU U u:=fun v u h=>by
    obtain ⟨args⟩:=args
    have h2:=congrArg List.length h
    have h3:(evs tt st ts.toList args).length=args.length:=by
     have:=congrArg List.length (Zet ts.toList args)
     simpa [evs] using this
    have h4:args.length=2:=by rw [←h3];exact h2
    obtain ⟨x,y,rfl⟩:∃x y,args=[x,y]:=by
     match args,h4 with
     | [x,y],_=>exact ⟨x,y,rfl⟩
    refine ⟨x,y,rfl,?_⟩
    have h5:∃t1 t2,evs tt st ts.toList [x,y]=[st.ev tt t1 x,st.ev tt t2 y]:=by
     generalize ts.toList=l
     cases l with
     | nil=>exact ⟨0,0,rfl⟩
     | cons t1 l=>cases l with
      | nil=>exact ⟨t1,0,rfl⟩
      | cons t2 l=>exact ⟨t1,t2,by cases l<;>rfl⟩
    obtain ⟨t1,t2,h5⟩:=h5
    rw [h5] at h
    simp only [List.cons.injEq,and_true] at h
    rw [←h.1,←h.2]
    exact ⟨ev _ _,ev _ _⟩
   unfold Zqb at hr
   split at hr
   ·rename_i t _ v he1 he2
    have e1:=hts _ he1
    obtain ⟨x,rfl,hx,_⟩:=one _ he2
    exact pur (s:=Builtin.len_ ts ty #[a.eval x]) hr (by simp [execOp,resolve,invoke,builtin]) fun u hu=>ZuK htt hI (by simp [e1]) hu hx
   ·rename_i t u v1 v2 he1 he2
    have e1:=hts _ he1
    obtain ⟨x,y,rfl,hx,hy⟩:=two _ _ he2
    split at hr
    ·rename_i he
     subst he
     exact ZxN htt hI hU hkey hr hx hy (ty:=ty) (by simp [execOp,resolve,invoke,builtin,e1])
    ·simp at hr
   ·rename_i v1 v2 he2
    obtain ⟨x,y,rfl,hx,hy⟩:=two _ _ he2
    refine pur (s:=Builtin.max_ ts ty #[a.eval x,a.eval y]) hr (by simp [execOp,resolve,invoke,builtin]) fun u hu=>?_
    have:=ZsY (P:=P) (U:=U) (ts:=ts) (ty:=ty) hu hx.1 hy.1
    simpa using this
   ·rename_i v1 v2 he2
    obtain ⟨x,y,rfl,hx,hy⟩:=two _ _ he2
    refine pur (s:=Builtin.min_ ts ty #[a.eval x,a.eval y]) hr (by simp [execOp,resolve,invoke,builtin]) fun u hu=>?_
    have:=ZsY (P:=P) (U:=U) (ts:=ts) (ty:=ty) hu hx.1 hy.1
    simpa using this
   ·simp at hr
  | value f=>simp [opE] at hr
  | invoke r m=>simp [opE] at hr
 | _=>simp [opE] at hr
end
end Go.Proofs.YtojnhepgnbhaaaaGreatDoor
namespace Go.Proofs.YtojnhepgnbhaaaaGreatDoor
open Go.RowKit
theorem ZcJ {α β:Type} {f h:α→List β}:∀{l:List α},(∀x∈l,f x=h x)→l.flatMap f=l.flatMap h
 | [],_=>rfl
 | x::l,hh=>by rw [List.flatMap_cons,List.flatMap_cons,hh x (by simp),ZcJ fun y m=>hh y (by simp [m])]
def Zkk (w:World) (z:Nat→Prop) (x:Bool × List CT) (v:Value):Prop:=
 (x.1=true∧∃(vs:List Value) (L:List Nat),v=.agg vs.toArray∧RCs w x.2 vs L∧∀b∈L,¬z b)∨(x.1=false∧∃(ct:CT) (L:List Nat),x.2=[ct]∧RC w ct v L∧∀b∈L,¬z b)
def OC (w:World) (B:Nat) (n:Nat→Prop):Bool × CT→Value→List Nat→Prop
 | (false,.sl e m xs),v,F=>0<m∧∃cs L,w.ownsV B e m v xs.length cs∧REs w m xs cs L∧F=v.ownBlock.toList++L∧∀b∈v.ownBlock.toList,n b
 | (false,.int k i),v,F=>RC w (.int k i) v []∧F=[]
 | (false,.bool b),v,F=>RC w (.bool b) v []∧F=[]
 | (false,.str s),v,F=>RC w (.str s) v []∧F=[]
 | (false,.ifc b),v,F=>RC w (.ifc b) v []∧F=[]
 | (false,.any),v,F=>RC w .any v []∧F=[]
 | (false,.pt _),_,_=>False
 | (false,.fn _ _),_,_=>False
 | (false,.mp _ _ _),_,_=>False
 | (true,x),v,F=>F=[]∧∃L,RC w x v L∧∀b∈L,¬n b
def OCs (w:World) (B:Nat) (n:Nat→Prop):List (Bool × CT)→List Value→List Nat→Prop
 | [],vs,F=>vs=[]∧F=[]
 | x::r,vs,F=>∃v vs' F1 F2,vs=v::vs'∧F=F1++F2∧OC w B n x v F1∧OCs w B n r vs' F2
def OP (w:World) (B:Nat) (n:Nat→Prop) (x:RT) (v:Value) (F:List Nat):Prop:=
 (x.1=true∧∃vs:List Value,v=.agg vs.toArray∧OCs w B n x.2 vs F)∨(x.1=false∧∃ct,x.2=[ct]∧OC w B n ct v F)
def OPs (w:World) (B:Nat) (n:Nat→Prop):List RT→List Value→List Nat→Prop
 | [],vs,F=>vs=[]∧F=[]
 | x::r,vs,F=>∃v vs' F1 F2,vs=v::vs'∧F=F1++F2∧OP w B n x v F1∧OPs w B n r vs' F2
def Zma (w:World) (B:Nat) (n:Nat→Prop) (res:List RT) (v:Value):Prop:=
 ∃(vs:List Value) (F:List Nat),OPs w B n res vs F∧Own w B F∧v=(if h:vs.toArray.size=1 then vs.toArray[0] else .tuple vs.toArray)
def Zej (P : Program) (f : FuncId) : Prop := ∃ fn, P.funcs[f]? = some fn ∧ (fn.name == "runtime.NumGoroutine") = false ∧ fn.body.isNone = false
def Zn (P:Program) (J:World→Prop) (f:FuncId) (args:List (Bool × List CT)) (res:List RT):Prop:=
 Zej P f∧∀(w:World) (z:Nat→Prop) (vs:List Value),J w→(∀b,z b→b<w.heap.size)→ZH (Zkk w z) args vs→Calls P f vs.toArray w fun e w'=>∃v n,e=.returned v∧Zma w' w.heap.size n res v∧(∀b,z b→n b)∧Below w.heap.size w w'
def ZqG (w:World) (z:Nat→Prop) (q:Option Nat):Zli→Value→Prop
 | .row e m xs,v=>Zaz xs=true∧0<m∧v.ownBlock=q∧∃cs,w.ownsV 0 e m v xs.length cs∧REs w m xs cs []
 | .box t cs,v=>∃b vs L,q=some b∧v=.pointer (some ⟨b,0,none⟩)∧w.heap[b]?=some (.cells (vs:List Value).toArray t (0,0))∧RCs w cs vs L∧∀a∈L,¬z a
def inQ (z:Nat→Prop) (q:Option Nat) (a:Nat):Prop:=z a∨q=some a
structure ZyD (q:Option Nat) (w w':World):Prop where
 os:w'.os=w.os
 tape:w'.tape=w.tape
 output:w'.output=w.output
 size:w.heap.size≤w'.heap.size
 block:∀k,k<w.heap.size→¬q=some k→w'.heap[k]?=w.heap[k]?
def ZiM (P:Program) (J:World→Prop) (JF:Nat→Prop) (f:FuncId) (h:Zli) (args:List (Bool × List CT)) (res:List RT) (h':Zli):Prop:=
 Zej P f∧∀(w:World) (z:Nat→Prop) (q:Option Nat) (v0:Value) (vs:List Value),J w→(∀b,q=some b→JF b)→(∀b,z b→b<w.heap.size∧¬q=some b)→ZqG w (inQ z q) q h v0→ZH (Zkk w (inQ z q)) args vs→
  Calls P f (v0::vs).toArray w fun e w'=>∃v n,e=.returned v∧Zma w' w.heap.size n res v∧(∀b,inQ z q b→n b)∧ZqG w' n q h' v0∧ZyD q w w'
def Zm0 (b:Nat):NB→Value
 | .box _ _=>.pointer (some ⟨b,0,none⟩)
 | .map _ _ _=>.map (some b)
def nbR (w:World) (n:Nat→Prop) (b:Nat):NB→Prop
 | .box t cs=>∃us L,w.heap[b]?=some (.cells (us:List Value).toArray t (0,0))∧RCs w cs us L∧∀x∈L,¬n x
 | .map kk vk kv=>∃es c,w.heap[b]?=some (.map es c)∧Zc3 es=kv∧Zie kk vk kv
def ZnF (P:Program) (J:World→Prop) (f:FuncId) (args:List (Bool × List CT)) (nb:NB):Prop:=
 Zej P f∧∀(w:World) (z:Nat→Prop) (vs:List Value),J w→(∀b,z b→b<w.heap.size)→ZH (Zkk w z) args vs→
  Calls P f vs.toArray w fun e w'=>∃(b:Nat) (n:Nat→Prop),e=.returned (Zm0 b nb)∧w.heap.size≤b∧nbR w' n b nb∧n b∧(∀x,z x→n x)∧Below w.heap.size w w'
def SC (P:Program) (J:World→Prop) (JF:Nat→Prop) (hd:FuncId→Nat):Ctx:=⟨Zn P J,ZiM P J JF,hd,ZnF P J⟩
structure MOk (P:Program) (J:World→Prop) (JF:Nat→Prop) (W:Q8) (tt:Nat→Option TI):Prop where
 tt:∀t i,tt t=some i→TOk P t i
 jb:∀w:World,Bel W w→J w
 jf:∀b,W.heap.size≤b→JF b
 xf:∀b,W.x b→JF b
section
variable {P:Program} {J:World→Prop} {W:Q8} {U:Nat→Prop} {key:Nat} {st:St} {g:Gh} {w w':World} {a:Act} {tt:Nat→Option TI}
theorem MOk.at {JF:Nat→Prop} (h:MOk P J JF W tt) (hb:Bel W w):J w:=h.jb _ hb
def Zso (ob:Nat→Ob):AV→Prop
 | .row k=>∃e m xs,ob k=.row e m xs 0
 | _=>True
theorem ZoL [NW] (hI:HI W g st.ob w) {x:AV} {ct:CT} {v:Value} (h:Zch st x=some ct) (hx:AVR g w x v):∃L,RC w ct v L∧(Zso st.ob x→∀b∈L,¬g.own b):=by
 cases x with
 | c y=>simp only [Zch,Option.some.injEq] at h;subst h;obtain ⟨L,h1,h2⟩:=hx;exact ⟨L,h1,fun _=>h2⟩
 | row k=>
  simp only [Zch] at h
  split at h
  ·rename_i e m xs d hk
   simp only [Option.some.injEq] at h;subst h
   obtain ⟨hm,cs,L1,o1,o2,o3,o5⟩:=hI.deep hk
   obtain ⟨A,cap,L0,s1,s2,s3,s4,s5⟩:=Sl.row o1
   refine ⟨L0++L1,⟨A,cap,cs,L0,L1,by rw [hx.1,s1],s2,s3,rfl,hm,s4,o2⟩,?_⟩
   rintro ⟨e',m',xs',h0⟩ b mb
   rw [hk] at h0
   have hd:d=0:=by simp at h0;exact h0.2.2.2
   rcases List.mem_append.1 mb with m1 | m1
   ·rcases o5 with ⟨q,_⟩ | ⟨q,_⟩ | ⟨_,_,_,q⟩
    ·omega
    ·omega
    ·exact q b (s5.subset m1)
   ·exact o3 b m1
  ·simp at h
 | nil e m=>
  simp only [Zch] at h
  split at h
  ·rename_i hm
   simp only [Option.some.injEq] at h;subst h
   exact ⟨[],⟨none,0,[],[],[],hx,by simp,Nat.zero_le _,rfl,hm,Sl.zero,rfl,rfl⟩,by simp⟩
  ·simp at h
 | n y=>simp only [Zch,Option.some.injEq] at h;subst h;obtain ⟨L,h1,h2⟩:=NR.toC hx;exact ⟨L,h1,fun _=>h2⟩
 | dead=>simp [Zch] at h
theorem Zf9 [NW] (hI:HI W g st.ob w):∀{xs:List AV} {cts:List CT} {vs:List Value},Y2 st xs=some cts→ZH (AVR g w) xs vs→∃L,RCs w cts vs L∧((∀x∈xs,Zso st.ob x)→∀b∈L,¬g.own b)
 | [],_,[],h,_=>by simp [Y2] at h;subst h;exact ⟨[],⟨rfl,rfl⟩,by simp⟩
 | [],_,_::_,_,h=>h.elim
 | _::_,_,[],_,h=>h.elim
 | x::r,cts,v::vs,h,hr=>by
  simp only [Y2] at h
  obtain ⟨c1,h1,h⟩:=Option.bind_eq_some_iff.1 h
  obtain ⟨c2,h2,rfl⟩:=Option.map_eq_some_iff.1 h
  obtain ⟨L1,a1,b1⟩:=ZoL hI h1 hr.1
  obtain ⟨L2,a2,b2⟩:=Zf9 hI h2 hr.2
  refine ⟨L1++L2,⟨v,vs,L1,L2,rfl,rfl,a1,a2⟩,fun ho b mb=>?_⟩
  rcases List.mem_append.1 mb with m | m
  ·exact b1 (ho x (by simp)) b m
  ·exact b2 (fun y my=>ho y (by simp [my])) b m
def Zq2 (ob:Nat→Ob):SV→Prop
 | .p _ cs=>∀x∈cs,Zso ob x
 | _=>True
theorem Zse [NW] (hI:HI W g st.ob w) {x:SV} {r:Bool × List CT} {v:Value} (h:ZdH st x=some r) (hx:SVR g w x v) {z:Nat→Prop} (hz:(∀b,¬z b)∨(Zq2 st.ob x∧∀b,z b→g.own b)):Zkk w z r v:=by
 cases x with
 | p ag cs=>
  simp only [ZdH] at h
  obtain ⟨l,hl,rfl⟩:=Option.map_eq_some_iff.1 h
  have av:∀{L:List Nat},((∀x∈cs,Zso st.ob x)→∀b∈L,¬g.own b)→∀b∈L,¬z b:=fun hL b mb=>by
   rcases hz with hz | ⟨h1,h2⟩
   ·exact hz b
   ·exact fun hb=>hL h1 b mb (h2 b hb)
  cases ag with
  | true=>
   obtain ⟨vs,rfl,h2⟩:=hx
   obtain ⟨L,hL,hL2⟩:=Zf9 hI hl h2
   exact .inl ⟨rfl,vs,L,rfl,hL,av hL2⟩
  | false=>
   obtain ⟨y,rfl,h2⟩:=hx
   simp only [Y2] at hl
   obtain ⟨c1,h1,hl⟩:=Option.bind_eq_some_iff.1 hl
   simp at hl;subst hl
   obtain ⟨L1,a1,b1⟩:=ZoL hI h1 h2
   exact .inr ⟨rfl,c1,L1,rfl,a1,av fun ho=>b1 (ho y (by simp))⟩
 | _=>simp [ZdH] at h
theorem Zcz [NW] (hI:HI W g st.ob w) {z:Nat→Prop}:∀{xs:List SV} {l:List (Bool × List CT)} {vs:List Value},Yc st xs=some l→ZH (SVR g w) xs vs→((∀b,¬z b)∨((∀x∈xs,Zq2 st.ob x)∧∀b,z b→g.own b))→ZH (Zkk w z) l vs
 | [],_,[],h,_,_=>by simp [Yc] at h;subst h;trivial
 | [],_,_::_,_,h,_=>h.elim
 | _::_,_,[],_,h,_=>h.elim
 | x::r,l,v::vs,h,hr,hz=>by
  simp only [Yc] at h
  obtain ⟨c1,h1,h⟩:=Option.bind_eq_some_iff.1 h
  obtain ⟨c2,h2,rfl⟩:=Option.map_eq_some_iff.1 h
  exact ⟨Zse hI h1 hr.1 (hz.imp id fun q=>⟨q.1 x (by simp),q.2⟩),Zcz hI h2 hr.2 (hz.imp id fun q=>⟨fun y my=>q.1 y (by simp [my]),q.2⟩)⟩
theorem Ztp {vs:List SV} {ob:Nat→Ob} (h:vs.all Zik=true):∀x∈vs,Zq2 ob x:=fun x mx=>by
 have hx:=List.all_eq_true.1 h x mx
 cases x with
 | p ag cs=>
  intro y my
  have hy:=List.all_eq_true.1 hx y my
  cases y with
  | row k=>simp [ZaX] at hy
  | _=>trivial
 | _=>trivial
def CR (val:Nat→Value) (w:World) (n:Nat→Prop) (l:Bool) (lo hi:Nat):AV→Value→Prop
 | .row k,v=>lo≤k∧k<hi∧v=val k∧v.oneCell'=true
 | .c x,v=>∃L,RC w x v L∧∀b∈L,l=true∧¬n b
 | _,_=>False
structure Zpr (w:World) (B lo hi:Nat) (n:Nat→Prop) (up:List (Nat × Ob)) (F:List Nat) (val:Nat→Value) (O D:Nat→List Nat):Prop where
 le:lo≤hi
 at_:∀k,lo≤k→k<hi→∃e m xs cs,(∀ob,Zk ob up k=.row e m xs 2)∧0<m∧w.ownsV B e m (val k) xs.length cs∧REs w m xs cs (D k)∧O k=(val k).ownBlock.toList∧∀b∈O k,n b
 out:∀k,¬(lo≤k∧k<hi)→∀ob,Zk ob up k=ob k
 foot:F=(List.range' lo (hi - lo)).flatMap fun k=>O k++D k
theorem Zpr.join [NW] {B lo mid hi:Nat} {n:Nat→Prop} {u1 u2:List (Nat × Ob)} {F1 F2:List Nat} {v1 v2:Nat→Value} {O1 O2 D1 D2:Nat→List Nat} (h1:Zpr w B lo mid n u1 F1 v1 O1 D1) (h2:Zpr w B mid hi n u2 F2 v2 O2 D2):
  Zpr w B lo hi n (u1++u2) (F1++F2) (fun k=>if k<mid then v1 k else v2 k) (fun k=>if k<mid then O1 k else O2 k) (fun k=>if k<mid then D1 k else D2 k):=by
 have hl:=h1.le
 have hr:=h2.le
 refine ⟨by omega,fun k a b=>?_,fun k hk ob=>?_,?_⟩
 ·by_cases hk:k<mid
  ·obtain ⟨e,m,xs,cs,p1,p2⟩:=h1.at_ k a hk
   simp only [hk,if_true]
   exact ⟨e,m,xs,cs,fun ob=>by rw [YR,h2.out k (by omega)];exact p1 ob,p2⟩
  ·obtain ⟨e,m,xs,cs,p1,p2⟩:=h2.at_ k (by omega) b
   simp only [hk,if_false]
   exact ⟨e,m,xs,cs,fun ob=>by rw [YR];exact p1 _,p2⟩
 ·rw [YR,h2.out k (by omega),h1.out k (by omega)]
 ·rw [h1.foot,h2.foot,show hi - lo=(mid - lo)+(hi - mid) by omega,←List.range'_append_1,List.flatMap_append,show lo+(mid - lo)=mid by omega]
  congr 1
  ·refine ZcJ fun k hk=>?_
   have:=(List.mem_range'_1.1 hk).2
   simp [show k<mid by omega]
  ·refine ZcJ fun k hk=>?_
   have:=(List.mem_range'_1.1 hk).1
   simp [show ¬k<mid by omega]
theorem CR.mono {val val':Nat→Value} {n:Nat→Prop} {l:Bool} {lo hi lo' hi':Nat} {x:AV} {v:Value} (h:CR val w n l lo hi x v) (hl:lo'≤lo) (hh:hi≤hi') (hv:∀k,lo≤k→k<hi→val' k=val k):CR val' w n l lo' hi' x v:=by
 cases x with
 | row k=>obtain ⟨a,b,c,d⟩:=h;exact ⟨by omega,by omega,by rw [hv k a b];exact c,d⟩
 | c x=>exact h
 | n _=>exact h.elim
 | nil _ _=>exact h.elim
 | dead=>exact h.elim
theorem Q3 [NW] {B:Nat} {n:Nat→Prop} {l:Bool}:∀{cts:List (Bool × CT)} {vs:List Value} {F:List Nat} (key:Nat),OCs w B n cts vs F→(Zbs cts=true→l=true)→∃val O D,Zpr w B key (Z8 key cts).2.2 n (Z8 key cts).2.1 F val O D∧ZH (CR val w n l key (Z8 key cts).2.2) (Z8 key cts).1 vs
 | [],vs,F,key,h,_=>by
  obtain ⟨rfl,rfl⟩:=h
  exact ⟨fun _=>undef,fun _=>[],fun _=>[],⟨Nat.le_refl _,fun k a b=>by simp [Z8] at b;omega,fun _ _ _=>rfl,by simp [Z8]⟩,trivial⟩
 | (true,x)::r,_,_,key,⟨v,vs,F1,F2,rfl,rfl,h1,h2⟩,hl=>by
  obtain ⟨rfl,L,h3,h4⟩:=h1
  obtain ⟨val,O,D,hb,hr⟩:=Q3 (l:=l) key h2 fun e=>hl (by simp [Zbs])
  exact ⟨val,O,D,by simpa [Z8] using hb,⟨⟨L,h3,fun b mb=>⟨hl (by simp [Zbs]),h4 b mb⟩⟩,hr⟩⟩
 | (false,.sl e m xs)::r,_,_,key,⟨v,vs,F1,F2,rfl,rfl,h1,h2⟩,hl=>by
  obtain ⟨hm,cs,L,o1,o2,rfl,o3⟩:=h1
  obtain ⟨val,O,D,hb,hr⟩:=Q3 (l:=l) (key+1) h2 fun e=>hl (by simpa [Zbs] using e)
  have hone:Zpr w B key (key+1) n [(key,.row e m xs 2)] (v.ownBlock.toList++L) (fun _=>v) (fun _=>v.ownBlock.toList) (fun _=>L):=
   ⟨by omega,fun k a b=>⟨e,m,xs,cs,fun ob=>by simp [Zk,upd,show k=key by omega],hm,o1,o2,rfl,o3⟩,fun k hk ob=>by simp [Zk,upd,show ¬k=key by omega],by simp⟩
  refine ⟨_,_,_,hone.join hb,⟨?_,hr.mono fun x u _ hx=>hx.mono (by omega) (Nat.le_refl _) fun k a b=>by simp [show ¬k<key+1 by omega]⟩⟩
  have hle:=hb.le
  obtain ⟨A,cap,hv⟩:=Zct o1
  exact ⟨Nat.le_refl _,by simp only [Z8];omega,by simp,by simp [hv,Value.oneCell']⟩
 | (false,.int k i)::r,_,_,key,⟨v,vs,F1,F2,rfl,rfl,h1,h2⟩,hl=>by
  obtain ⟨h1,rfl⟩:=h1
  obtain ⟨val,O,D,hb,hr⟩:=Q3 (l:=l) key h2 fun e=>hl (by simpa [Zbs] using e)
  exact ⟨val,O,D,by simpa [Z8] using hb,⟨⟨[],h1,by simp⟩,hr⟩⟩
 | (false,.bool k)::r,_,_,key,⟨v,vs,F1,F2,rfl,rfl,h1,h2⟩,hl=>by
  obtain ⟨h1,rfl⟩:=h1
  obtain ⟨val,O,D,hb,hr⟩:=Q3 (l:=l) key h2 fun e=>hl (by simpa [Zbs] using e)
  exact ⟨val,O,D,by simpa [Z8] using hb,⟨⟨[],h1,by simp⟩,hr⟩⟩
 | (false,.str s)::r,_,_,key,⟨v,vs,F1,F2,rfl,rfl,h1,h2⟩,hl=>by
  obtain ⟨h1,rfl⟩:=h1
  obtain ⟨val,O,D,hb,hr⟩:=Q3 (l:=l) key h2 fun e=>hl (by simpa [Zbs] using e)
  exact ⟨val,O,D,by simpa [Z8] using hb,⟨⟨[],h1,by simp⟩,hr⟩⟩
 | (false,.ifc s)::r,_,_,key,⟨v,vs,F1,F2,rfl,rfl,h1,h2⟩,hl=>by
  obtain ⟨h1,rfl⟩:=h1
  obtain ⟨val,O,D,hb,hr⟩:=Q3 (l:=l) key h2 fun e=>hl (by simpa [Zbs] using e)
  exact ⟨val,O,D,by simpa [Z8] using hb,⟨⟨[],h1,by simp⟩,hr⟩⟩
 | (false,.any)::r,_,_,key,⟨v,vs,F1,F2,rfl,rfl,h1,h2⟩,hl=>by
  obtain ⟨h1,rfl⟩:=h1
  obtain ⟨val,O,D,hb,hr⟩:=Q3 (l:=l) key h2 fun e=>hl (by simpa [Zbs] using e)
  exact ⟨val,O,D,by simpa [Z8] using hb,⟨⟨[],h1,by simp⟩,hr⟩⟩
 | (false,.pt _)::r,_,_,key,⟨v,vs,F1,F2,rfl,rfl,h1,h2⟩,hl=>h1.elim
 | (false,.fn _ _)::r,_,_,key,⟨v,vs,F1,F2,rfl,rfl,h1,h2⟩,hl=>h1.elim
 | (false,.mp _ _ _)::r,_,_,key,⟨v,vs,F1,F2,rfl,rfl,h1,h2⟩,hl=>h1.elim
def PR (val:Nat→Value) (w:World) (n:Nat→Prop) (l:Bool) (lo hi:Nat) (x:Bool × List AV) (v:Value):Prop:=
 (x.1=true∧∃vs:List Value,v=.agg vs.toArray∧ZH (CR val w n l lo hi) x.2 vs)∨(x.1=false∧∃y,x.2=[y]∧CR val w n l lo hi y v)
theorem PR.mono [NW] {val val':Nat→Value} {n:Nat→Prop} {l:Bool} {lo hi lo' hi':Nat} {x:Bool × List AV} {v:Value} (h:PR val w n l lo hi x v) (hl:lo'≤lo) (hh:hi≤hi') (hv:∀k,lo≤k→k<hi→val' k=val k):PR val' w n l lo' hi' x v:=by
 rcases h with ⟨h1,vs,h2,h3⟩ | ⟨h1,y,h2,h3⟩
 ·exact .inl ⟨h1,vs,h2,h3.mono fun a b _ hab=>hab.mono hl hh hv⟩
 ·exact .inr ⟨h1,y,h2,h3.mono hl hh hv⟩
theorem ZmF [NW] {B:Nat} {n:Nat→Prop} {l:Bool}:∀{res:List RT} {vs:List Value} {F:List Nat} (key:Nat),OPs w B n res vs F→(Zc6 res=true→l=true)→∃val O D,Zpr w B key (ZD key res).2.2 n (ZD key res).2.1 F val O D∧ZH (PR val w n l key (ZD key res).2.2) (ZD key res).1 vs
 | [],vs,F,key,h,_=>by
  obtain ⟨rfl,rfl⟩:=h
  exact ⟨fun _=>undef,fun _=>[],fun _=>[],⟨Nat.le_refl _,fun k a b=>by simp [ZD] at b;omega,fun _ _ _=>rfl,by simp [ZD]⟩,trivial⟩
 | x::r,_,_,key,⟨v,vs,F1,F2,rfl,rfl,h1,h2⟩,hl=>by
  have hl1:Zbs x.2=true→l=true:=fun e=>hl (by simp [Zc6,e])
  have hl2:Zc6 r=true→l=true:=fun e=>hl (by simp [Zc6,e])
  have hx:∃val O D,Zpr w B key (Z8 key x.2).2.2 n (Z8 key x.2).2.1 F1 val O D∧PR val w n l key (Z8 key x.2).2.2 (x.1,(Z8 key x.2).1) v:=by
   rcases h1 with ⟨hx,us,rfl,hc⟩ | ⟨hx,ct,he,hc⟩
   ·obtain ⟨val,O,D,hb,hr⟩:=Q3 key hc hl1
    exact ⟨val,O,D,hb,.inl ⟨hx,us,rfl,hr⟩⟩
   ·obtain ⟨val,O,D,hb,hr⟩:=Q3 (cts:=x.2) (vs:=[v]) (F:=F1) key (by rw [he];exact ⟨v,[],F1,[],rfl,by simp,hc,rfl,rfl⟩) hl1
    refine ⟨val,O,D,hb,.inr ⟨hx,?_⟩⟩
    generalize (Z8 key x.2).1=l at hr
    cases l with
    | nil=>exact hr.elim
    | cons y l=>
     cases l with
     | nil=>exact ⟨y,rfl,hr.1⟩
     | cons _ _=>exact hr.2.elim
  obtain ⟨val,O,D,hb,hp⟩:=hx
  obtain ⟨val2,O2,D2,hb2,hr2⟩:=ZmF (Z8 key x.2).2.2 h2 hl2
  have hle2:=hb2.le
  have hle:=hb.le
  refine ⟨_,_,_,hb.join hb2,⟨hp.mono (Nat.le_refl _) hle2 fun k a b=>by simp [b],hr2.mono fun y u _ hy=>hy.mono hle (Nat.le_refl _) fun k a b=>by simp [show ¬k<(Z8 key x.2).2.2 by omega]⟩⟩
theorem Zqg {n:Nat} {G:Nat→List Nat}:∀{lo:Nat},((List.range' lo n).flatMap G).Nodup→(∀k,lo≤k→k<lo+n→(G k).Nodup)∧∀k j,lo≤k→k<lo+n→lo≤j→j<lo+n→k≠j→∀b∈G k,b∉G j:=by
 induction n with
 | zero=>intro lo _;exact ⟨fun k a b=>by omega,fun k j a b=>by omega⟩
 | succ n ih=>
  intro lo h
  rw [List.range'_succ,List.flatMap_cons,List.nodup_append] at h
  obtain ⟨h1,h2,h3⟩:=h
  obtain ⟨i1,i2⟩:=ih h2
  have mem:∀k,lo+1≤k→k<lo+1+n→∀b∈G k,b∈(List.range' (lo+1) n).flatMap G:=fun k a b x mx=>List.mem_flatMap.2 ⟨k,List.mem_range'_1.2 ⟨a,b⟩,mx⟩
  refine ⟨fun k a b=>?_,fun k j a b a' b' hkj x mx mj=>?_⟩
  ·by_cases e:k=lo
   ·subst e;exact h1
   ·exact i1 k (by omega) (by omega)
  ·by_cases e:k=lo
   ·subst e
    exact h3 x mx x (mem j (by omega) (by omega) x mj) rfl
   ·by_cases e':j=lo
    ·subst e'
     exact h3 x mj x (mem k (by omega) (by omega) x mx) rfl
    ·exact i2 k j (by omega) (by omega) (by omega) (by omega) hkj x mx mj
theorem Zgc [NW] {ob:Nat→Ob} (hI:HI W g ob w) (hobU:∀k,obU U (ob k)) (hgone:∀k,¬U k→ob k=.gone) (hkey:∀k,key≤k→k<key+16→¬U k) {res:List RT} {v:Value} {n:Nat→Prop} (hr:Zma w' w.heap.size n res v) (hn:(ZD key res).2.2≤key+16)
  (H:Nat→Prop) (hHU:∀k,H k→U k) (obH:Nat→Ob) (hlen:Zc6 res=true→∀b,g.own b→n b)
  (hbel:Bel W w') (hsz:w.heap.size≤w'.heap.size) (hw:∀b,b<w.heap.size→(∀k,H k→b∉g.O k)→w'.heap[b]?=w.heap[b]?)
  (hobH:∀k,H k→obU (Uk U key) (obH k)) (hH:∀g':Gh,(∀b,g'.own b→g.own b∨((∃k,b∈g'.O k)∧w.heap.size≤b∧n b))→(∀k,H k→g'.val k=g.val k∧g'.O k=g.O k∧g'.D k=g.D k)→∀k,H k→ObR g' w' k (obH k)∧∀b∈g.O k++g.D k,XZ w' (obH k) b):
  ∃g',HI W g' (fun k=>Zk (fun j=>open Classical in if H j then obH j else ob j) (ZD key res).2.1 k) w'∧SVR g' w' (Zdo (ZD key res).1) v∧(∀x u,svU U x→SVR g w x u→SVR g' w' x u)∧svU (Uk U key) (Zdo (ZD key res).1)∧
   (∀k,obU (Uk U key) (Zk (fun j=>open Classical in if H j then obH j else ob j) (ZD key res).2.1 k))∧∀k,¬Uk U key k→Zk (fun j=>open Classical in if H j then obH j else ob j) (ZD key res).2.1 k=.gone:=by
 classical
 obtain ⟨vs,F,h1,hF,hv⟩:=hr
 obtain ⟨val,O,D,hB,hA⟩:=ZmF (l:=Zc6 res) key h1 id
 generalize (ZD key res).2.2=hi at *
 generalize (ZD key res).2.1=up at *
 generalize (ZD key res).1=xs at *
 have hle:=hB.le
 let T:Nat→Prop:=fun k=>key≤k∧k<hi
 have hTU:∀k,T k→¬U k:=fun k hk=>hkey k hk.1 (by have:=hk.2;omega)
 let g':Gh:=⟨fun k=>if key≤k∧k<hi then val k else g.val k,fun k=>if key≤k∧k<hi then O k else g.O k,fun k=>if key≤k∧k<hi then D k else g.D k,g.Z⟩
 have gT:∀k,T k→g'.val k=val k∧g'.O k=O k∧g'.D k=D k:=fun k hk=>⟨if_pos hk,if_pos hk,if_pos hk⟩
 have gN:∀k,¬T k→g'.val k=g.val k∧g'.O k=g.O k∧g'.D k=g.D k:=fun k hk=>⟨if_neg hk,if_neg hk,if_neg hk⟩
 have hTH:∀k,H k→¬T k:=fun k hk ht=>hTU k ht (hHU k hk)
 have hmemF:∀k,T k→∀b∈O k++D k,b∈F:=fun k hk b mb=>by
  rw [hB.foot]
  exact List.mem_flatMap.2 ⟨k,List.mem_range'_1.2 ⟨hk.1,by have:=hk.2;omega⟩,mb⟩
 have hge:∀k,T k→∀b∈O k++D k,w.heap.size≤b:=fun k hk b mb=>hF.ge b (hmemF k hk b mb)
 have hnd:=Zqg (hB.foot ▸ hF.nodup)
 have hval:∀k,U k→g'.val k=g.val k:=fun k hk=>(gN k fun h=>hTU k h hk).1
 have hown2:∀b,g'.own b→g.own b∨((∃k,b∈g'.O k)∧w.heap.size≤b∧n b):=fun b hb=>by
  rcases hb with ⟨k,mk⟩ | hz
  ·by_cases hk:T k
   ·have mk':=mk
    rw [(gT k hk).2.1] at mk'
    obtain ⟨e,m,ys,cs,_,_,_,_,_,p6⟩:=hB.at_ k hk.1 hk.2
    exact .inr ⟨⟨k,mk⟩,hge k hk b (by simp [mk']),p6 b mk'⟩
   ·rw [(gN k hk).2.1] at mk;exact .inl (.inl ⟨k,mk⟩)
  ·exact .inl (.inr hz)
 have hown:Qt g g' w.heap.size:=.of (fun b hb=>(hown2 b hb).imp id fun h=>h.2.1) fun j b mb=>by
  by_cases hj:T j
  ·rw [(gT j hj).2.2] at mb
   exact .inr (hge j hj b (by simp [mb]))
  ·rw [(gN j hj).2.2] at mb;exact .inl (.inr ⟨j,mb⟩)
 have hw':∀b,b<w.heap.size→¬g.own b→w'.heap[b]?=w.heap[b]?:=fun b hb hnb=>hw b hb fun k _ mk=>hnb (.inl ⟨k,mk⟩)
 have hmove:∀x u,svU U x→SVR g w x u→SVR g' w' x u:=fun x u hx hu=>hu.move hx hval hw' hown hsz
 have hout:∀k,¬T k→Zk (fun j=>if H j then obH j else ob j) up k=if H k then obH k else ob k:=fun k hk=>hB.out k hk _
 have hHI:HI W g' (Zk (fun j=>if H j then obH j else ob j) up) w':=by
  refine hI.step (U:=U) (fun k=>T k∨H k) hbel rfl (fun b hb' hq=>hw b hb' fun k hk=>hq k (.inr hk)) (fun k hk=>?_) hobU hval hown (fun k hk=>?_)
  ·have k1:¬T k:=fun h=>hk (.inl h)
   have k2:¬H k:=fun h=>hk (.inr h)
   exact ⟨by rw [hout k k1,if_neg k2],gN k k1⟩
  ·by_cases hTk:T k
   ·obtain ⟨e1,e2,e3⟩:=gT k hTk
    obtain ⟨e,m,ys,cs,p1,p2,p3,p4,p5,_⟩:=hB.at_ k hTk.1 hTk.2
    rw [p1,e2,e3]
    refine ⟨⟨p2,cs,D k,?_,p4,.inl ⟨rfl,by rw [e1,e2];exact p5,e3⟩⟩,hnd.1 k hTk.1 (by have:=hTk.2;omega),fun b mb=>?_,fun j hj b mb mj=>?_⟩
    ·rw [e1];exact Zpz p3 (Nat.zero_le _)
    ·exact ⟨.inl (Nat.le_trans hI.below.size (hge k hTk b mb)),hF.plain b (hmemF k hTk b mb)⟩
    ·by_cases hTj:T j
     ·rw [(gT j hTj).2.1,(gT j hTj).2.2] at mj
      exact hnd.2 k j hTk.1 (by have:=hTk.2;omega) hTj.1 (by have:=hTj.2;omega) hj b mb mj
     ·rw [(gN j hTj).2.1,(gN j hTj).2.2] at mj
      have:=hI.lt j b mj
      have:=hge k hTk b mb
      omega
   ·have hHk:H k:=hk.resolve_left hTk
    obtain ⟨e1,e2,e3⟩:=gN k hTk
    obtain ⟨q1,q2⟩:=hH g' hown2 (fun j hj=>gN j (hTH j hj)) k hHk
    rw [hout k hTk,if_pos hHk,e2,e3]
    refine ⟨q1,hI.nodup k,fun b mb=>⟨(hI.plain k b mb).1,q2 b mb⟩,fun j hj b mb mj=>?_⟩
    by_cases hTj:T j
    ·rw [(gT j hTj).2.1,(gT j hTj).2.2] at mj
     have:=hI.lt k b mb
     have:=hge j hTj b mj
     omega
    ·rw [(gN j hTj).2.1,(gN j hTj).2.2] at mj
     exact hI.apart k j hj b mb mj
 have hAV:∀x u,CR val w' n (Zc6 res) key hi x u→AVR g' w' x u∧avU (Uk U key) x:=fun x u h=>by
  cases x with
  | row k=>
   obtain ⟨c1,c2,c3,c4⟩:=h
   exact ⟨⟨by rw [(gT k ⟨c1,c2⟩).1];exact c3,c4⟩,.inr ⟨c1,by omega⟩⟩
  | c x=>
   obtain ⟨L,h1,h2⟩:=h
   refine ⟨⟨L,h1,fun b mb o=>?_⟩,trivial⟩
   rcases hown2 b o with o | o
   ·exact (h2 b mb).2 (hlen (h2 b mb).1 b o)
   ·exact (h2 b mb).2 o.2.2
  | n _=>exact h.elim
  | nil _ _=>exact h.elim
  | dead=>exact h.elim
 have hAVs:∀(ys:List AV) (us:List Value),ZH (CR val w' n (Zc6 res) key hi) ys us→ZH (AVR g' w') ys us∧Qz (Uk U key) ys:=fun ys us h=>by
  induction ys generalizing us with
  | nil=>cases us with
   | nil=>exact ⟨trivial,fun _ m=>by simp at m⟩
   | cons _ _=>exact h.elim
  | cons y ys ih=>cases us with
   | nil=>exact h.elim
   | cons u us=>
    obtain ⟨i1,i2⟩:=ih us h.2
    refine ⟨⟨(hAV y u h.1).1,i1⟩,fun z mz=>?_⟩
    rcases List.mem_cons.1 mz with rfl | mz
    ·exact (hAV z u h.1).2
    ·exact i2 z mz
 have hPV:∀(y:Bool × List AV) (u:Value),PR val w' n (Zc6 res) key hi y u→PVR g' w' y.1 y.2 u∧Qz (Uk U key) y.2:=fun y u h=>by
  rcases h with ⟨h1,us,rfl,h3⟩ | ⟨h1,z,h2,h3⟩
  ·obtain ⟨i1,i2⟩:=hAVs _ _ h3
   exact ⟨by rw [h1];exact ⟨us,rfl,i1⟩,i2⟩
  ·obtain ⟨i1,i2⟩:=hAV z u h3
   exact ⟨by rw [h1];exact ⟨z,h2,i1⟩,by rw [h2];intro q mq;simp at mq;subst mq;exact i2⟩
 have hres:SVR g' w' (Zdo xs) v∧svU (Uk U key) (Zdo xs):=by
  have hlen:=hA.len
  by_cases hl:xs.length=1
  ·obtain ⟨x,rfl⟩:=List.length_eq_one_iff.1 hl
   cases vs with
   | nil=>simp at hlen
   | cons u us=>
    cases us with
    | cons _ _=>simp at hlen
    | nil=>
     have hvu:v=u:=by rw [hv];rfl
     rw [hvu]
     exact hPV x u hA.1
  ·have hvs:¬vs.toArray.size=1:=by simp;omega
   rw [dif_neg hvs] at hv
   have e:Zdo xs=.tup xs:=by
    cases xs with
    | nil=>rfl
    | cons x xs=>cases xs with
     | nil=>simp at hl
     | cons _ _=>rfl
   rw [e]
   refine ⟨⟨vs,hv,hA.mono fun y u _ h=>(hPV y u h).1⟩,fun y my=>?_⟩
   obtain ⟨i,hi'⟩:=List.mem_iff_getElem?.1 my
   obtain ⟨u,_,hu⟩:=hA.at hi'
   exact (hPV y u hu).2
 refine ⟨g',hHI,hres.1,hmove,hres.2,fun k=>?_,fun k hk=>?_⟩
 ·by_cases hTk:T k
  ·obtain ⟨e,m,ys,cs,p1,_⟩:=hB.at_ k hTk.1 hTk.2
   rw [p1];trivial
  ·rw [hout k hTk]
   split
   ·rename_i hHk;exact hobH k hHk
   ·exact (hobU k).mono fun _=>.inl
 ·have hTk:¬T k:=fun hTk=>hk (.inr ⟨hTk.1,by have:=hTk.2;omega⟩)
  have hHk:¬H k:=fun h=>hk (.inl (hHU k h))
  rw [hout k hTk,if_neg hHk]
  exact hgone k fun h=>hk (.inl h)
theorem ZjS [NW] (st:St):∀(ks:List Nat) {g:Gh} {ob:Nat→Ob},HI W g ob w→(∀k,ob k=st.ob k∨ob k=Ym (st.ob k))→∃g1:Gh,HI W g1 (Zk ob (ZP st ks)) w∧g1.val=g.val∧Xs g1 g∧∀k,Zk ob (ZP st ks) k=(if k∈ks then Ym (st.ob k) else ob k)
 | [],g,ob,hI,_=>⟨g,hI,rfl,Xs.refl _,fun k=>by simp [ZP,Zk]⟩
 | k::r,g,ob,hI,hob=>by
  have hfk:Ym (ob k)=Ym (st.ob k):=by
   rcases hob k with h | h
   ·rw [h]
   ·rw [h];cases st.ob k<;>rfl
  obtain ⟨g1,h1,h2,h3,_⟩:=ZhP hI k
  rw [hfk] at h1
  have hob':∀j,upd ob k (Ym (st.ob k)) j=st.ob j∨upd ob k (Ym (st.ob k)) j=Ym (st.ob j):=fun j=>by
   by_cases hj:j=k
   ·subst hj;right;rw [Zw]
   ·rw [ZI _ _ hj];exact hob j
  obtain ⟨g2,i1,i2,i3,i4⟩:=ZjS st r h1 hob'
  refine ⟨g2,i1,i2.trans h2,i3.trans h3,fun j=>?_⟩
  show Zk (upd ob k (Ym (st.ob k))) (ZP st r) j=_
  rw [i4 j]
  by_cases hj:j=k
  ·subst hj;simp [upd]
  ·simp [hj,upd]
theorem ZmZ {st st':St} (h:∀k,st'.ob k=st.ob k∨st'.ob k=Ym (st.ob k)) (x:SV):ZdH st' x=ZdH st x:=by
 have h1:∀y:AV,Zch st' y=Zch st y:=fun y=>by
  cases y with
  | row k=>
   simp only [Zch]
   rcases h k with e | e
   ·rw [e]
   ·rw [e];cases st.ob k<;>rfl
  | _=>rfl
 have h2:∀ys:List AV,Y2 st' ys=Y2 st ys:=fun ys=>by
  induction ys with
  | nil=>rfl
  | cons y ys ih=>simp only [Y2,h1,ih]
 cases x<;>simp [ZdH,h2]
theorem ZeR [NW] {st st':St} (h:∀k,st'.ob k=st.ob k∨st'.ob k=Ym (st.ob k)):∀xs:List SV,Yc st' xs=Yc st xs
 | []=>rfl
 | x::r=>by simp only [Yc];rw [ZmZ h x,ZeR h r]
theorem Zlr {k:Nat}:∀{cs:List AV},AV.row k∈cs→k∈Zg1 cs
 | [],h=>by simp at h
 | x::r,h=>by
  rcases List.mem_cons.1 h with rfl | h
  ·simp [Zg1]
  ·have:=Zlr h
   cases x<;>simp [Zg1,this]
theorem Zlk [NW] {k:Nat} {a:Bool} {cs:List AV}:∀{vs:List SV},SV.p a cs∈vs→AV.row k∈cs→k∈Z4 vs
 | [],h,_=>by simp at h
 | x::r,h,hk=>by
  rcases List.mem_cons.1 h with rfl | h
  ·simp [Z4,Zlr hk]
  ·have:=Zlk h hk
   cases x<;>simp [Z4,this]
end
end Go.Proofs.YtojnhepgnbhaaaaGreatDoor
namespace Go.Proofs.YtojnhepgnbhaaaaGreatDoor
open Go.RowKit
def ZdC (S:Ctx) (f:FuncId) (n key:Nat) (st:St) (vs:List SV) (v:SV) (u:List (Nat × Ob)):Prop:=
 match n with
 | 0=>∃l res,Yc st vs=some l∧S.r f l res∧(!Zc6 res||vs.all Zik)=true∧(ZD key res).2.2≤key+16∧v=Zdo (ZD key res).1∧u=(ZD key res).2.1
 | 1=>∃v0 r k h l res h',vs=v0::r∧ZfR st v0=some (k,h)∧Yc st r=some l∧S.h f h l res h'∧(Z4 r).all (fun j=>j != k)=true∧(ZD key res).2.2≤key+16∧v=Zdo (ZD key res).1∧u=ZP st (Z4 r)++((k,Zdn h')::(ZD key res).2.1)
 | 3=>∃l nb,Yc st vs=some l∧S.b f l nb∧v=Zx1 key nb∧u=ZP st (Z4 vs)++[(key,Zsb nb)]
 | _=>∃l res,Yc st vs=some l∧S.r f l res∧(ZD key res).2.2≤key+16∧v=Zdo (ZD key res).1∧u=ZP st (Z4 vs)++(ZD key res).2.1
theorem ZjR {S:Ctx} {f:FuncId} {n key:Nat} {d:Option Nat} {K:St→Prop} {st:St} {vs:List SV}:spK S f n key d K st vs↔∃v u,ZdC S f n key st vs v u∧K ((st.put d v).app u):=by
 rcases n with _ | _ | _ | _ | n
 ·simp only [spK,ZdC]
  constructor
  ·intro h
   unfold YS at h
   split at h
   ·rename_i l hl
    obtain ⟨res,h1,h2,h3,h4⟩:=h
    exact ⟨_,_,⟨l,res,hl,h1,h2,h3,rfl,rfl⟩,h4⟩
   ·exact h.elim
  ·rintro ⟨v,u,⟨l,res,hl,h1,h2,h3,rfl,rfl⟩,h4⟩
   rw [hl]
   exact ⟨res,h1,h2,h3,h4⟩
 ·simp only [spK,ZdC]
  constructor
  ·intro h
   cases vs with
   | nil=>exact h.elim
   | cons v0 r=>
    simp only [Zqz] at h
    unfold YS at h
    split at h
    ·rename_i kh hk
     split at h
     ·rename_i l hl
      obtain ⟨res,h',h1,h2,h3,h4⟩:=h
      exact ⟨_,_,⟨v0,r,kh.1,kh.2,l,res,h',rfl,hk,hl,h1,h2,h3,rfl,rfl⟩,h4⟩
     ·exact h.elim
    ·exact h.elim
  ·rintro ⟨v,u,⟨v0,r,k,hh,l,res,h',rfl,hk,hl,h1,h2,h3,rfl,rfl⟩,h4⟩
   simp only [Zqz,hk,hl,YS]
   exact ⟨res,h',h1,h2,h3,h4⟩
 ·simp only [spK,ZdC]
  constructor
  ·intro h
   unfold YS at h
   split at h
   ·rename_i l hl
    obtain ⟨res,h1,h3,h4⟩:=h
    exact ⟨_,_,⟨l,res,hl,h1,h3,rfl,rfl⟩,h4⟩
   ·exact h.elim
  ·rintro ⟨v,u,⟨l,res,hl,h1,h3,rfl,rfl⟩,h4⟩
   rw [hl]
   exact ⟨res,h1,h3,h4⟩
 ·simp only [spK,ZdC]
  constructor
  ·intro h
   unfold YS at h
   split at h
   ·rename_i l hl
    obtain ⟨nb,h1,h4⟩:=h
    exact ⟨_,_,⟨l,nb,hl,h1,rfl,rfl⟩,h4⟩
   ·exact h.elim
  ·rintro ⟨v,u,⟨l,nb,hl,h1,rfl,rfl⟩,h4⟩
   rw [hl]
   exact ⟨nb,h1,h4⟩
 ·simp only [spK,ZdC]
  constructor
  ·intro h
   unfold YS at h
   split at h
   ·rename_i l hl
    obtain ⟨res,h1,h3,h4⟩:=h
    exact ⟨_,_,⟨l,res,hl,h1,h3,rfl,rfl⟩,h4⟩
   ·exact h.elim
  ·rintro ⟨v,u,⟨l,res,hl,h1,h3,rfl,rfl⟩,h4⟩
   rw [hl]
   exact ⟨res,h1,h3,h4⟩
section
variable {P:Program} {J:World→Prop} {JF:Nat→Prop} {W:Q8} {U:Nat→Prop} {key:Nat} {st:St} {g:Gh} {w w':World} {a:Act} {tt:Nat→Option TI} {hd:FuncId→Nat}
def Zy9 [NW] (W:Q8) (U:Nat→Prop) (key:Nat) (st:St) (g:Gh) (w:World) (v:SV) (u:List (Nat × Ob)) (cv:Value) (w':World):Prop:=
 ∃g',HI W g' (Zk st.ob u) w'∧SVR g' w' v cv∧(∀x c,svU U x→SVR g w x c→SVR g' w' x c)∧svU (Uk U key) v∧(∀k,obU (Uk U key) (Zk st.ob u k))∧∀k,¬Uk U key k→Zk st.ob u k=.gone
theorem HI.ownlt [NW] {ob:Nat→Ob} (hI:HI W g ob w) {b:Nat} (h:g.own b):b<w.heap.size:=by
 rcases h with ⟨k,mk⟩ | hz
 ·exact hI.lt k b (by simp [mk])
 ·rw [hI.gz] at hz
  exact Nat.lt_of_lt_of_le (hI.zx b hz).1 hI.below.size
theorem Zr2 {ks:List Nat} {ob:Nat→Ob} (hobU:∀k,obU U (st.ob k)) (h:∀k,ob k=(if k∈ks then Ym (st.ob k) else st.ob k)):∀k,obU U (ob k):=fun k=>by
 rw [h k]
 have:=hobU k
 split
 ·cases hk:st.ob k<;>simp only [Ym]<;>first | trivial | (rw [hk] at this;exact this)
 ·exact this
theorem ZpU [NW] {vs:List SV} {l:List (Bool × List CT)} {st1:St} (h:∀k,st1.ob k=(if k∈Z4 vs then Ym (st.ob k) else st.ob k)) (hl:Yc st vs=some l):∀x∈vs,Zq2 st1.ob x:=by
 have key:∀(cs:List AV) (l:List CT),Y2 st cs=some l→(∀k,AV.row k∈cs→k∈Z4 vs)→∀y∈cs,Zso st1.ob y:=by
  intro cs
  induction cs with
  | nil=>intro l _ _ y my;simp at my
  | cons c cs ih=>
   intro l hl hk y my
   simp only [Y2] at hl
   obtain ⟨c1,h1,hl⟩:=Option.bind_eq_some_iff.1 hl
   obtain ⟨c2,h2,_⟩:=Option.map_eq_some_iff.1 hl
   rcases List.mem_cons.1 my with rfl | my
   ·cases y with
    | row k=>
     simp only [Zch] at h1
     split at h1
     ·rename_i e m xs d hob
      exact ⟨e,m,xs,by rw [h k,if_pos (hk k (by simp)),hob];rfl⟩
     ·simp at h1
    | _=>trivial
   ·exact ih c2 h2 (fun k mk=>hk k (by simp [mk])) y my
 have all:∀(xs:List SV) (l:List (Bool × List CT)),Yc st xs=some l→(∀x∈xs,x∈vs)→∀x∈xs,Zq2 st1.ob x:=by
  intro xs
  induction xs with
  | nil=>intro l _ _ x mx;simp at mx
  | cons x xs ih=>
   intro l hl hm y my
   simp only [Yc] at hl
   obtain ⟨c1,h1,hl⟩:=Option.bind_eq_some_iff.1 hl
   obtain ⟨c2,h2,_⟩:=Option.map_eq_some_iff.1 hl
   rcases List.mem_cons.1 my with rfl | my
   ·cases y with
    | p ag cs=>
     simp only [ZdH] at h1
     obtain ⟨l1,h3,_⟩:=Option.map_eq_some_iff.1 h1
     exact key cs l1 h3 (fun k mk=>Zlk (hm (.p ag cs) (by simp)) mk)
    | _=>trivial
   ·exact ih c2 h2 (fun z mz=>hm z (by simp [mz])) y my
 exact all vs l hl (fun _ h=>h)
theorem Zyv {k:Nat} {inst:∀j,Decidable (j=k)} (ob:Nat→Ob) (o:Ob):(fun j=>@ite _ (j=k) (inst j) o (ob j))=upd ob k o:=by
 funext j
 simp only [upd]
 split<;>rfl
theorem ZfU [NW] (htt:MOk P J JF W tt) {f:FuncId} {n:Nat} {vs:List SV} {cvs:List Value} {v:SV} {u:List (Nat × Ob)} (h:ZdC (SC P J JF hd) f n key st vs v u) (hH:HI W g st.ob w) (hU:StU U st) (hkey:∀k,key≤k→k<key+16→¬U k) (hvs:ZH (SVR g w) vs cvs) (hvU:∀x∈vs,svU U x):
  Zej P f∧Calls P f cvs.toArray w fun e w'=>∃cv,e=.returned cv∧Zy9 W U key st g w v u cv w':=by
 unfold ZdC at h
 split at h
 ·obtain ⟨l,res,hl,hs,hlend,hn,rfl,rfl⟩:=h
  obtain ⟨hc,hC⟩:=hs
  refine ⟨hc,?_⟩
  by_cases hle:Zc6 res=true
  ·have hno:∀x∈vs,Zq2 st.ob x:=Ztp (by simpa [hle] using hlend)
   refine (hC w g.own cvs (htt.at hH.below) (fun b hb=>hH.ownlt hb) (Zcz hH hl hvs (.inr ⟨hno,fun _ h=>h⟩))).mono ?_
   rintro e w' ⟨cv,n,rfl,hr,hz,hb⟩
   obtain ⟨g',t1,t2,t3,t4,t5,t6⟩:=Zgc hH hU.ob hU.gone hkey hr hn (fun _=>False) (fun _ h=>h.elim) (fun _=>.gone) (fun _ b hb=>hz b hb) (hH.below.trans hb) hb.size (fun b hb' _=>hb.block b hb') (fun _ h=>h.elim) (fun _ _ _ _ h=>h.elim)
   simp only [if_false] at t1 t5 t6
   exact ⟨cv,rfl,g',t1,t2,t3,t4,t5,t6⟩
  ·refine (hC w (fun _=>False) cvs (htt.at hH.below) (fun b hb=>hb.elim) (Zcz hH hl hvs (.inl fun _ h=>h))).mono ?_
   rintro e w' ⟨cv,n,rfl,hr,hz,hb⟩
   obtain ⟨g',t1,t2,t3,t4,t5,t6⟩:=Zgc hH hU.ob hU.gone hkey hr hn (fun _=>False) (fun _ h=>h.elim) (fun _=>.gone) (fun h=>absurd h hle) (hH.below.trans hb) hb.size (fun b hb' _=>hb.block b hb') (fun _ h=>h.elim) (fun _ _ _ _ h=>h.elim)
   simp only [if_false] at t1 t5 t6
   exact ⟨cv,rfl,g',t1,t2,t3,t4,t5,t6⟩
 ·obtain ⟨v0,r,k,hh,l,res,h',rfl,hk,hl,hs,hne,hn,rfl,rfl⟩:=h
  obtain ⟨hc,hC⟩:=hs
  refine ⟨hc,?_⟩
  cases cvs with
  | nil=>exact hvs.elim
  | cons c0 cr=>
  obtain ⟨hv0,hvr⟩:=hvs
  obtain ⟨g1,i1,i2,i3,i4⟩:=ZjS st (Z4 r) hH (fun k=>.inl rfl)
  let st1:St:=⟨st.sl,Zk st.ob (ZP st (Z4 r)),st.n⟩
  have hob1:∀k,st1.ob k=(if k∈Z4 r then Ym (st.ob k) else st.ob k):=i4
  have hfr:∀k,st1.ob k=st.ob k∨st1.ob k=Ym (st.ob k):=fun k=>by
   rw [hob1 k];split
   ·exact .inr rfl
   ·exact .inl rfl
  have hl1:Yc st1 r=some l:=by rw [ZeR hfr];exact hl
  have hok1:=ZpU (st1:=st1) hob1 hl
  have hkr:k∉Z4 r:=fun hm=>by
   have:=List.all_eq_true.1 hne k hm
   simp at this
  have hk1:st1.ob k=st.ob k:=by rw [hob1 k,if_neg hkr]
  have hUk:st.ob k≠.gone→U k:=fun hg=>Classical.byContradiction fun hn=>hg (hU.gone k hn)
  have hobU1:∀j,obU U (st1.ob j):=Zr2 hU.ob hob1
  have hgone1:∀j,¬U j→st1.ob j=.gone:=fun j hj=>by
   have e:=hU.gone j hj
   rcases hfr j with h | h<;>rw [h,e]<;>rfl
  have hv0':SVR g1 w v0 c0:=hv0.less i2 i3
  have hvr':ZH (SVR g1 w) r cr:=hvr.mono fun x c _ hx=>hx.less i2 i3
  have hhand:∃q:Option Nat,ZqG w (inQ (fun b=>g1.own b∧¬q=some b) q) q hh c0∧g1.O k=q.toList∧g1.D k=[]∧c0=g1.val k∧st.ob k≠.gone:=by
   unfold ZfR at hk
   split at hk
   ·rename_i k'
    split at hk
    ·rename_i t cs hob
     split at hk
     ·rename_i hnr
      obtain ⟨l',hl',e⟩:=Option.map_eq_some_iff.1 hk
      simp only [Prod.mk.injEq] at e
      obtain ⟨rfl,rfl⟩:=e
      have ho:=i1.obs k'
      rw [show Zk st.ob (ZP st (Z4 r)) k'=.box t cs from hk1.trans hob] at ho
      obtain ⟨b,vs,h1,h2,h3,h4,h5⟩:=ho
      obtain ⟨b',h6,h7⟩:=hv0'
      have hb:b'=b:=by rw [h6] at h1;simpa using h1
      subst hb
      have hl1':Y2 st1 cs=some l':=by
       have:=ZmZ hfr (.p true cs)
       simp only [ZdH,hl'] at this
       obtain ⟨x,hx,hx2⟩:=Option.map_eq_some_iff.1 this
       simp only [Prod.mk.injEq,true_and] at hx2
       rw [hx,hx2]
      obtain ⟨L,hL,hL2⟩:=Zf9 (st:=st1) i1 hl1' h5
      refine ⟨some b',⟨b',vs,L,rfl,h7,h4,hL,fun x mx hx=>?_⟩,by simp [h2],h3,by rw [h7,h6],by rw [hob];simp⟩
      refine hL2 (fun y my=>?_) x mx ?_
      ·have:=List.all_eq_true.1 hnr y my
       cases y<;>simp [ZaX] at this<;>trivial
      ·rcases hx with hx | hx
       ·exact hx.1
       ·simp only [Option.some.injEq] at hx
        subst hx
        exact .inl ⟨k',by simp [h2]⟩
     ·simp at hk
    ·simp at hk
   ·rename_i k'
    split at hk
    ·rename_i e m xs d hob
     split at hk
     ·rename_i hd2
      simp only [Option.some.injEq,Prod.mk.injEq] at hk
      obtain ⟨rfl,rfl⟩:=hk
      have ho:=i1.obs k'
      rw [show Zk st.ob (ZP st (Z4 r)) k'=.row e m xs d from hk1.trans hob] at ho
      obtain ⟨hm,cs,L,h1,h2,h3⟩:=ho
      obtain rfl:=ZhX h2 hd2.2
      obtain ⟨x,hx1,hx2⟩:=hv0'
      simp only [List.cons.injEq,and_true] at hx1
      subst hx1
      rcases h3 with ⟨_,h3,h4⟩ | ⟨h3,_⟩ | ⟨h3,_⟩
      ·exact ⟨(g1.val k').ownBlock,⟨hd2.2,hm,by rw [hx2.1],cs,by rw [hx2.1];exact h1,h2⟩,h3,h4,hx2.1,by rw [hob];simp⟩
      ·omega
      ·omega
     ·simp at hk
    ·simp at hk
   ·simp at hk
  obtain ⟨q,hq1,hq2,hq3,hq4,hq5⟩:=hhand
  have hkU:=hUk hq5
  have hqo:∀b,q=some b→g1.own b:=fun b hb=>.inl ⟨k,by simp [hq2,hb]⟩
  have hin:∀b,g1.own b→inQ (fun b=>g1.own b∧¬q=some b) q b:=fun b hb=>by
   by_cases hqb:q=some b
   ·exact .inr hqb
   ·exact .inl ⟨hb,hqb⟩
  have hargs:ZH (Zkk w (inQ (fun b=>g1.own b∧¬q=some b) q)) l cr:=Zcz (st:=st1) i1 hl1 hvr' (.inr ⟨hok1,fun b hb=>by
   rcases hb with hb | hb
   ·exact hb.1
   ·exact hqo b hb⟩)
  have hqf:∀b,q=some b→JF b:=fun b hb=>by
   rcases (i1.plain k b (by simp [hq2,hb])).1 with h | h
   ·exact htt.jf b h
   ·exact htt.xf b h
  refine (hC w _ q c0 cr (htt.at hH.below) hqf (fun b hb=>⟨i1.ownlt hb.1,hb.2⟩) hq1 hargs).mono ?_
  rintro e w' ⟨cv,n,rfl,hr,hz,hb',hbq⟩
  have hbel:Bel W w':=⟨hbq.os.trans hH.below.os,hbq.tape.trans hH.below.tape,hbq.output.trans hH.below.output,Nat.le_trans hH.below.size hbq.size,fun i hi hx=>by
   rw [hbq.block i (Nat.lt_of_lt_of_le hi hH.below.size) fun hqi=>?_]
   ·exact hH.below.block i hi hx
   ·rcases (i1.plain k i (by simp [hq2,hqi])).1 with h | h
    ·omega
    ·exact hx h⟩
  obtain ⟨g',t1,t2,t3,t4,t5,t6⟩:=Zgc i1 hobU1 hgone1 hkey hr hn (fun j=>j=k) (fun j hj=>by rw [hj];exact hkU) (fun _=>Zdn h') (fun _ b hb=>hz b (hin b hb)) hbel hbq.size
   (fun b hb hk'=>hbq.block b hb fun hqb=>hk' k rfl (by simp [hq2,hqb]))
   (fun j _=>by
    cases h' with
    | row e m xs=>trivial
    | box t cs=>intro y my;simp only [List.mem_map] at my;obtain ⟨x,_,rfl⟩:=my;trivial)
   (fun g' ho hg' j hj=>by
    subst hj
    obtain ⟨e1,e2,e3⟩:=hg' j rfl
    have hno:∀b,¬n b→¬g'.own b:=fun b hnb hob=>by
     rcases ho b hob with h | h
     ·exact hnb (hz b (hin b h))
     ·exact hnb h.2.2
    cases h' with
    | row e m xs=>
     obtain ⟨p1,p2,p3,cs,p4,p5⟩:=hb'
     refine ⟨⟨p2,cs,[],by rw [e1,←hq4];exact p4,p5,.inl ⟨rfl,by rw [e2,hq2,e1,←hq4,p3],by rw [e3,hq3]⟩⟩,fun b mb=>?_⟩
     rw [hq2,hq3] at mb
     simp at mb
     rcases p4.2 with ⟨h0,_⟩ | ⟨gg,o,cap,cur,hv,_,hcc,_⟩
     ·rw [h0] at p3;simp [Value.ownBlock] at p3;rw [←p3] at mb;simp at mb
     ·rw [hv] at p3;simp only [Value.ownBlock] at p3;rw [mb] at p3;simp at p3;subst p3;exact ⟨_,_,hcc⟩
    | box t cs=>
     obtain ⟨b,vs,L,p1,p2,p3,p4,p5⟩:=hb'
     refine ⟨⟨b,vs,by rw [e1,←hq4];exact p2,by rw [e2,hq2,p1];rfl,by rw [e3,hq3],p3,p4.avr fun x mx=>hno x (p5 x mx)⟩,fun x mx=>?_⟩
     rw [hq2,hq3,p1] at mx
     simp at mx
     subst mx
     exact ⟨_,_,p3⟩)
  have hup:Zk st.ob (ZP st (Z4 r)++((k,Zdn h')::(ZD key res).2.1))=Zk (upd (Zk st.ob (ZP st (Z4 r))) k (Zdn h')) (ZD key res).2.1:=by rw [YR];rfl
  have hif:=Zyv (k:=k) (inst:=fun j=>Classical.propDecidable (j=k)) (Zk st.ob (ZP st (Z4 r))) (Zdn h')
  have t1':HI W g' (Zk (upd (Zk st.ob (ZP st (Z4 r))) k (Zdn h')) (ZD key res).2.1) w':=hif ▸ t1
  have t5':∀j,obU (Uk U key) (Zk (upd (Zk st.ob (ZP st (Z4 r))) k (Zdn h')) (ZD key res).2.1 j):=hif ▸ t5
  have t6':∀j,¬Uk U key j→Zk (upd (Zk st.ob (ZP st (Z4 r))) k (Zdn h')) (ZD key res).2.1 j=.gone:=hif ▸ t6
  rw [←hup] at t1' t5' t6'
  exact ⟨cv,rfl,g',t1',t2,fun x c hx hc=>t3 x c hx (hc.less i2 i3),t4,t5',t6'⟩
 ·obtain ⟨l,nb,hl,hs,rfl,rfl⟩:=h
  obtain ⟨hc,hC⟩:=hs
  refine ⟨hc,?_⟩
  obtain ⟨g1,i1,i2,i3,i4⟩:=ZjS st (Z4 vs) hH (fun k=>.inl rfl)
  let st1:St:=⟨st.sl,Zk st.ob (ZP st (Z4 vs)),st.n⟩
  have hob1:∀k,st1.ob k=(if k∈Z4 vs then Ym (st.ob k) else st.ob k):=i4
  have hfr:∀k,st1.ob k=st.ob k∨st1.ob k=Ym (st.ob k):=fun k=>by
   rw [hob1 k];split
   ·exact .inr rfl
   ·exact .inl rfl
  have hl1:Yc st1 vs=some l:=by rw [ZeR hfr];exact hl
  have hok1:=ZpU (st1:=st1) hob1 hl
  have hobU1:∀j,obU U (st1.ob j):=Zr2 hU.ob hob1
  have hgone1:∀j,¬U j→st1.ob j=.gone:=fun j hj=>by
   have e:=hU.gone j hj
   rcases hfr j with h | h<;>rw [h,e]<;>rfl
  have hvs':ZH (SVR g1 w) vs cvs:=hvs.mono fun x c _ hx=>hx.less i2 i3
  refine (hC w g1.own cvs (htt.at hH.below) (fun b hb=>i1.ownlt hb) (Zcz (st:=st1) i1 hl1 hvs' (.inr ⟨hok1,fun _ h=>h⟩))).mono ?_
  rintro e w' ⟨b,n,rfl,hb,hnR,hnb,hz,hbel⟩
  have hkU:¬U key:=hkey key (Nat.le_refl _) (by omega)
  let g':Gh:=⟨fun k=>if k=key then Zm0 b nb else g1.val k,fun k=>if k=key then [b] else g1.O k,fun k=>if k=key then [] else g1.D k,g1.Z⟩
  have hval:∀k,U k→g'.val k=g1.val k:=fun k hk=>if_neg fun (e:k=key)=>hkU (e ▸ hk)
  have hown2:∀x,g'.own x→g1.own x∨x=b:=fun x hx=>by
   rcases hx with ⟨k,mk⟩ | hx
   ·simp only [g'] at mk
    split at mk
    ·exact .inr (by simpa using mk)
    ·exact .inl (.inl ⟨k,mk⟩)
   ·exact .inl (.inr hx)
  have hown:Qt g1 g' w.heap.size:=.of (fun x hx=>(hown2 x hx).imp id fun (e:x=b)=>by rw [e];exact hb) fun j x mx=>by
   simp only [g'] at mx
   split at mx
   ·simp at mx
   ·exact .inl (.inr ⟨j,mx⟩)
  have hno:∀x,¬n x→¬g'.own x:=fun x mx hx=>mx (by
   rcases hown2 x hx with h | h
   ·exact hz x h
   ·rw [h];exact hnb)
  have hup:Zk st.ob (ZP st (Z4 vs)++[(key,Zsb nb)])=upd (Zk st.ob (ZP st (Z4 vs))) key (Zsb nb):=by rw [YR];rfl
  have hvk:g'.val key=Zm0 b nb:=if_pos rfl
  have hplain:XZ w' (Zsb nb) b:=by
   cases nb with
   | box t cs=>obtain ⟨us,L,p1,_⟩:=hnR;exact ⟨_,_,p1⟩
   | map kk vk kv=>obtain ⟨es,c,p1,_⟩:=hnR;exact ⟨_,_,p1⟩
  refine ⟨_,rfl,g',?_,?_,fun x c hx hc=>(hc.less i2 i3).move hx hval (fun b hb _=>hbel.block b hb) hown hbel.size,?_,fun k=>?_,fun k hk=>?_⟩
  ·rw [hup]
   refine i1.step (U:=U) (fun k=>k=key) (hH.below.trans hbel) rfl (fun b hb _=>hbel.block b hb) (fun k hk=>⟨ZI _ _ hk,if_neg hk,if_neg hk,if_neg hk⟩) hobU1 hval hown (fun k hk=>?_)
   subst hk
   have e1:g'.O k=[b]:=if_pos rfl
   have e2:g'.D k=[]:=if_pos rfl
   rw [Zw,e1,e2]
   refine ⟨?_,by simp,fun x mx=>?_,fun j hj x mx mj=>?_⟩
   ·cases nb with
    | box t cs=>obtain ⟨us,L,p1,p2,p3⟩:=hnR;exact ⟨b,us,hvk,e1,e2,p1,p2.avr fun x mx=>hno x (p3 x mx)⟩
    | map kk vk kv=>obtain ⟨es,c,p1,p2⟩:=hnR;exact ⟨b,es,c,hvk,e1,e2,p1,p2⟩
   ·simp at mx;subst mx;exact ⟨.inl (Nat.le_trans hH.below.size hb),hplain⟩
   ·simp at mx;subst mx
    have e3:g'.O j=g1.O j:=if_neg fun e=>hj e.symm
    have e4:g'.D j=g1.D j:=if_neg fun e=>hj e.symm
    rw [e3,e4] at mj
    have:=i1.lt j x mj
    omega
  ·cases nb with
   | box t cs=>exact ⟨b,hvk,rfl⟩
   | map kk vk kv=>exact ⟨.row key,rfl,hvk.symm,rfl⟩
  ·cases nb with
   | box t cs=>exact .inr ⟨Nat.le_refl _,by omega⟩
   | map kk vk kv=>intro y my;simp at my;subst my;exact .inr ⟨Nat.le_refl _,by omega⟩
  ·rw [hup]
   by_cases hk:k=key
   ·subst hk;rw [Zw]
    cases nb with
    | box t cs=>intro y my;simp only [List.mem_map] at my;obtain ⟨x,_,rfl⟩:=my;trivial
    | map kk vk kv=>trivial
   ·rw [ZI _ _ hk];exact (hobU1 k).mono fun _=>.inl
  ·have hk2:¬k=key:=fun e=>hk (.inr ⟨by omega,by omega⟩)
   rw [hup,ZI _ _ hk2]
   exact hgone1 k fun h=>hk (.inl h)
 ·obtain ⟨l,res,hl,hs,hn,rfl,rfl⟩:=h
  obtain ⟨hc,hC⟩:=hs
  refine ⟨hc,?_⟩
  obtain ⟨g1,i1,i2,i3,i4⟩:=ZjS st (Z4 vs) hH (fun k=>.inl rfl)
  let st1:St:=⟨st.sl,Zk st.ob (ZP st (Z4 vs)),st.n⟩
  have hob1:∀k,st1.ob k=(if k∈Z4 vs then Ym (st.ob k) else st.ob k):=i4
  have hfr:∀k,st1.ob k=st.ob k∨st1.ob k=Ym (st.ob k):=fun k=>by
   rw [hob1 k];split
   ·exact .inr rfl
   ·exact .inl rfl
  have hl1:Yc st1 vs=some l:=by rw [ZeR hfr];exact hl
  have hok1:=ZpU (st1:=st1) hob1 hl
  have hobU1:∀j,obU U (st1.ob j):=Zr2 hU.ob hob1
  have hgone1:∀j,¬U j→st1.ob j=.gone:=fun j hj=>by
   have e:=hU.gone j hj
   rcases hfr j with h | h<;>rw [h,e]<;>rfl
  have hvs':ZH (SVR g1 w) vs cvs:=hvs.mono fun x c _ hx=>hx.less i2 i3
  refine (hC w g1.own cvs (htt.at hH.below) (fun b hb=>i1.ownlt hb) (Zcz (st:=st1) i1 hl1 hvs' (.inr ⟨hok1,fun _ h=>h⟩))).mono ?_
  rintro e w' ⟨cv,n,rfl,hr,hz,hb⟩
  obtain ⟨g',t1,t2,t3,t4,t5,t6⟩:=Zgc i1 hobU1 hgone1 hkey hr hn (fun _=>False) (fun _ h=>h.elim) (fun _=>.gone) (fun _ b hb=>hz b hb) (hH.below.trans hb) hb.size (fun b hb' _=>hb.block b hb') (fun _ h=>h.elim) (fun _ _ _ _ h=>h.elim)
  simp only [if_false,←YR] at t1 t5 t6
  exact ⟨cv,rfl,g',t1,t2,fun x c hx hc=>t3 x c hx (hc.less i2 i3),t4,t5,t6⟩
end
end Go.Proofs.YtojnhepgnbhaaaaGreatDoor
namespace Go.Proofs.YtojnhepgnbhaaaaGreatDoor
open Go.RowKit
section
variable {P:Program} {J:World→Prop} {JF:Nat→Prop} {W:Q8} {U:Nat→Prop} {key:Nat} {st:St} {w w':World} {a:Act} {tt:Nat→Option TI} {hs:FuncId→Nat} {Q:Exit→Act→World→Prop}
theorem Zb2 (a:Act) (d:Option Nat) (v:Value):(a.put d v).tmps.size=a.tmps.size:=by cases d<;>simp [Act.put]
theorem ZeJ [NW] {g g':Gh} {d:Option Nat} {v:SV} {u:List (Nat × Ob)} {cv:Value} (hS:∀t,SVR g w (st.sl t) (a.tmps.getD t undef)) (hU:StU U st) (hdef:a.defers=[]) (hh:∀v,W.hv=some v→a.tmps.getD 0 undef=v) (hd:∀t,d=some t→t<a.tmps.size∧(W.hv=none∨t≠0))
  (h1:HI W g' (Zk st.ob u) w') (h2:SVR g' w' v cv) (h3:∀x c,svU U x→SVR g w x c→SVR g' w' x c) (h4:svU (Uk U key) v) (h5:∀k,obU (Uk U key) (Zk st.ob u k)) (h6:∀k,¬Uk U key k→Zk st.ob u k=.gone):
  Inv W (Uk U key) ((st.put d v).app u) (a.put d cv) w':=by
 cases d with
 | none=>
  refine ⟨⟨g',h1,fun t=>h3 _ _ (hU.sl t) (hS t)⟩,⟨fun t=>(hU.sl t).mono fun _=>.inl,h5,h6⟩,hdef,hh⟩
 | some d=>
  have hd':=(hd d rfl).1
  refine ⟨⟨g',h1,fun t=>?_⟩,⟨fun t=>?_,h5,h6⟩,hdef,fun u hu=>?_⟩
  ·show SVR g' w' (upd st.sl d v t) ((a.tmps.setIfInBounds d cv).getD t undef)
   by_cases ht:t=d
   ·subst ht
    rw [Zw]
    simpa [Array.getD_eq_getD_getElem?,Array.getElem?_setIfInBounds,hd'] using h2
   ·rw [ZI _ _ ht]
    have:(a.tmps.setIfInBounds d cv).getD t undef=a.tmps.getD t undef:=by
     simp [Array.getD_eq_getD_getElem?,Array.getElem?_setIfInBounds_ne (fun e:d=t=>ht e.symm)]
    rw [this]
    exact h3 _ _ (hU.sl t) (hS t)
  ·show svU (Uk U key) (upd st.sl d v t)
   by_cases ht:t=d
   ·subst ht;rw [Zw];exact h4
   ·rw [ZI _ _ ht];exact (hU.sl t).mono fun _=>.inl
  ·show (a.tmps.setIfInBounds d cv).getD 0 undef=u
   have hne:d≠0:=by
    rcases (hd d rfl).2 with h | h
    ·rw [h] at hu;simp at hu
    ·exact h
   rw [←hh u hu]
   simp [Array.getD_eq_getD_getElem?,Array.getElem?_setIfInBounds_ne hne]
theorem Zn4 [NW] {g:Gh} {x:SV} {v:Value} {fc:FuncId × List CT} (hfc:Zmz x=some fc) (hs:SVR g w x v):∃cs:List Value,v=.func (.func fc.1) #[] cs.toArray∧ZH (SVR g w) (fc.2.map Zjq) cs:=by
 unfold Zmz at hfc
 split at hfc
 ·rename_i f es
  simp only [Option.some.injEq] at hfc
  subst hfc
  obtain ⟨y,hy,hs⟩:=hs
  simp at hy;subst hy
  obtain ⟨L,⟨vs,h1,h2⟩,h3⟩:=hs
  refine ⟨vs,h1,?_⟩
  have:=h2.avr (g:=g) h3
  have conv:∀(es:List CT) (vs:List Value),ZH (AVR g w) (es.map AV.c) vs→ZH (SVR g w) (es.map Zjq) vs:=by
   intro es
   induction es with
   | nil=>intro vs h;cases vs with
    | nil=>trivial
    | cons _ _=>exact h.elim
   | cons e es ih=>intro vs h;cases vs with
    | nil=>exact h.elim
    | cons v vs=>exact ⟨⟨_,rfl,h.1⟩,ih vs h.2⟩
  exact conv _ _ this
 ·rename_i f
  simp only [Option.some.injEq] at hfc
  subst hfc
  exact ⟨[],hs,trivial⟩
 ·simp at hfc
theorem Zmh [NW] (htt:MOk P J JF W tt) {o:Oper} {K:St→Prop} (h:opS tt (SC P J JF hs) key o K st) (hI:Inv W U st a w) (hkey:∀k,key≤k→k<key+16→¬U k) (hd:∀t,o.dst=some t→t<a.tmps.size∧(W.hv=none∨t≠0)):
  o.wp P a w (fun a' w'=>∃st',Inv W (Uk U key) st' a' w'∧a'.tmps.size=a.tmps.size∧K st') Q:=by
 obtain ⟨⟨g,hH,hS⟩,hU,hdef,hh⟩:=hI
 have evals:∀(args:Array Operand) (ts:Array TypeId),ZH (SVR g w) (evs tt st ts.toList args.toList) (args.toList.map a.eval)∧∀x∈evs tt st ts.toList args.toList,svU U x:=fun args ts=>by
  have he:args.toList.map a.eval=(ZhK ts.toList args.toList).map fun p=>a.eval p.2:=by
   have:=congrArg (List.map a.eval) (Zet ts.toList args.toList)
   rw [←this,List.map_map];rfl
  refine ⟨?_,fun x mx=>?_⟩
  ·rw [he]
   exact ZH.of_map _ _ fun p _=>(Zjj htt.tt hS hU p.1 p.2).1
  ·obtain ⟨p,_,rfl⟩:=List.mem_map.1 mx
   exact (Zjj htt.tt hS hU p.1 p.2).2
 have arm:∀(f:FuncId) (n:Nat) (vs:List SV) (cvs:List Value),spK (SC P J JF hs) f n key o.dst K st vs→ZH (SVR g w) vs cvs→(∀x∈vs,svU U x)→(Zej P f→(execOp a.eval o).run P w=.ok (.enter f cvs.toArray) w)→
   o.wp P a w (fun a' w'=>∃st',Inv W (Uk U key) st' a' w'∧a'.tmps.size=a.tmps.size∧K st') Q:=fun f n vs cvs h hargs hargU hrun=>by
  obtain ⟨v,u,hr,hK⟩:=ZjR.1 h
  obtain ⟨hc,hcall⟩:=ZfU htt hr hH hU hkey hargs hargU
  unfold Oper.wp
  rw [hrun hc,Oper.upon_enter]
  refine hcall.mono ?_
  rintro e w' ⟨cv,rfl,g',t1,t2,t3,t4,t5,t6⟩
  exact ⟨_,ZeJ hS hU hdef hh hd t1 t2 t3 t4 t5 t6,Zb2 _ _ _,hK⟩
 unfold opS at h
 split at h
 ·rename_i c hc
  obtain ⟨f,l1,l2⟩:=c
  have hop:∃args ts,o.op=.call ⟨.value (.func f),args,ts⟩∧l1=ts.toList∧l2=args.toList:=by
   unfold Qw at hc
   split at hc
   ·rename_i f' args ts he
    simp only [Option.some.injEq,Prod.mk.injEq] at hc
    obtain ⟨rfl,rfl,rfl⟩:=hc
    exact ⟨args,ts,he,rfl,rfl⟩
   ·simp at hc
  obtain ⟨args,ts,hop,rfl,rfl⟩:=hop
  refine arm f _ _ _ h (evals args ts).1 (evals args ts).2 ?_
  rintro ⟨fn,f1,f2,f3⟩
  have f2' : ¬ fn.name = "runtime.NumGoroutine" := by simpa using f2
  have f3':¬fn.body=none:=fun e=>by rw [e] at f3;simp at f3
  have e1:(args.toList.map a.eval).toArray=args.map a.eval:=by
   apply Array.ext'
   simp
  rw [e1]
  simp [execOp,hop,resolve,Act.eval,Deferred.ofValue,invoke,callFunc,program,Sem.run,f1,f2',f3']
 ·split at h
  ·rename_i c hc
   obtain ⟨s,l1,l2⟩:=c
   have hop:∃args ts,o.op=.call ⟨.value (.tmp s),args,ts⟩∧l1=ts.toList∧l2=args.toList:=by
    unfold Xr at hc
    split at hc
    ·rename_i s' args ts he
     simp only [Option.some.injEq,Prod.mk.injEq] at hc
     obtain ⟨rfl,rfl,rfl⟩:=hc
     exact ⟨args,ts,he,rfl,rfl⟩
    ·simp at hc
   obtain ⟨args,ts,hop,rfl,rfl⟩:=hop
   unfold YS at h
   split at h
   ·rename_i fc hfc
    obtain ⟨_,h⟩:=h
    have hval:=Zn4 hfc (hS s)
    obtain ⟨cs,hv',hcs⟩:=hval
    have hv:a.eval (.tmp s)=.func (.func fc.1) #[] cs.toArray:=hv'
    refine arm fc.1 0 _ (args.toList.map a.eval++cs) h ((evals args ts).1.append hcs) (fun x mx=>?_) ?_
    ·rcases List.mem_append.1 mx with m | m
     ·exact (evals args ts).2 x m
     ·obtain ⟨c,_,rfl⟩:=List.mem_map.1 m
      exact Xt _
    ·rintro ⟨fn,f1,f2,f3⟩
     have f2' : ¬ fn.name = "runtime.NumGoroutine" := by simpa using f2
     have f3':¬fn.body=none:=fun e=>by rw [e] at f3;simp at f3
     have e1:(args.toList.map a.eval++cs).toArray=args.map a.eval++cs.toArray:=by
      apply Array.ext'
      simp
     rw [e1]
     simp [execOp,hop,resolve,hv,Deferred.ofValue,invoke,callFunc,program,Sem.run,f1,f2',f3']
   ·exact h.elim
  ·unfold YS at h
   split at h
   ·rename_i r hr
    obtain ⟨g',cv,w',hrun,t1,t2,t3,t4,t5,t6⟩:=Zms (P:=P) (W:=W) (a:=a) htt.tt o hr hH hS hU (hkey key (Nat.le_refl _) (by omega))
    unfold Oper.wp
    rcases hrun with hrun | ⟨hrun,rfl⟩
    ·rw [hrun]
     exact ⟨_,ZeJ hS hU hdef hh hd t1 t2 t3 t4 t5 t6,Zb2 _ _ _,h⟩
    ·rw [hrun]
     exact ⟨_,ZeJ hS hU hdef hh hd t1 t2 t3 t4 t5 t6,Zb2 _ _ _,h⟩
   ·exact h.elim
theorem Zqt [NW] (hI:Inv W U st a w) (d:Option Nat) (hd:∀t,d=some t→t<a.tmps.size∧(W.hv=none∨t≠0)):Inv W (Uk U key) (st.put d .und) (a.put d undef) w:=by
 obtain ⟨⟨g,hH,hS⟩,hU,hdef,hh⟩:=hI
 exact ZeJ (u:=[]) (key:=key) hS hU hdef hh hd hH rfl (fun _ _ _ h=>h) trivial (fun k=>(hU.ob k).mono fun _=>.inl) (fun k hk=>hU.gone k fun h=>hk (.inl h))
theorem Zmk [NW] (htt:MOk P J JF W tt) {ops:Array Oper} {i:Nat} {o:Oper} {K:St→Prop} (ho:ops[i]?=some o) (h:opG tt (SC P J JF hs) ops.toList key o K st) (hI:Inv W U st a w) (hkey:∀k,key≤k→k<key+16→¬U k) (hd:∀t,o.dst=some t→t<a.tmps.size∧(W.hv=none∨t≠0)):
  wpOp P ops Q i (fun a' w'=>∃st',Inv W (Uk U key) st' a' w'∧a'.tmps.size=a.tmps.size∧K st') a w:=by
 have skip:K (st.put o.dst .und)→∃st',Inv W (Uk U key) st' (a.put o.dst undef) w∧(a.put o.dst undef).tmps.size=a.tmps.size∧K st':=fun hK=>⟨_,Zqt hI _ hd,Zb2 _ _ _,hK⟩
 unfold wpOp
 simp only [ho]
 unfold opG Zbk at h
 cases hg:o.guard with
 | none=>
  rw [hg] at h
  rw [if_pos (by simp [Region.wanted,hg])]
  exact .inl (Zmh htt h hI hkey hd)
 | some jw=>
  obtain ⟨j,want⟩:=jw
  rw [hg] at h
  simp only at h
  cases hj:(ops.toList[j]?).bind (·.dst) with
  | none=>
   rw [hj] at h
   have hj':(ops[j]?).bind (·.dst)=none:=by simpa using hj
   rw [if_neg (by simp [Region.wanted,hg,yielded,hj'])]
   exact skip h
  | some t=>
   rw [hj] at h
   have hj':(ops[j]?).bind (·.dst)=some t:=by simpa using hj
   obtain ⟨⟨g,hH,hS⟩,hU,hdef,hh⟩:=hI
   have hst:=hS t
   simp only at h
   unfold gK at h
   split at h
   ·rename_i hb
    have:∃b,st.sl t=.p false [.c (.bool b)]:=by
     unfold QO at hb
     split at hb
     ·rename_i b he;exact ⟨b,he⟩
     ·simp at hb
    obtain ⟨b,hb'⟩:=this
    rw [hb'] at hst h
    have hv:=ZeZ hst
    have hy:yielded ops a.tmps j=some b:=by
     unfold yielded
     rw [hj',Option.bind_some]
     have:a.tmps[t]?=some (.bool b):=by
      rw [Array.getD_eq_getD_getElem?] at hv
      cases he:a.tmps[t]? with
      | none=>rw [he] at hv;simp [undef] at hv
      | some q=>rw [he] at hv;simpa using hv
     rw [this]
    by_cases hw:(b==want)=true
    ·rw [if_pos (show (X0 (.p false [.c (.bool b)])==want)=true from hw)] at h
     rw [if_pos (by simpa [Region.wanted,hg,hy] using hw)]
     exact .inl (Zmh htt h ⟨⟨g,hH,hS⟩,hU,hdef,hh⟩ hkey hd)
    ·rw [if_neg (show ¬(X0 (.p false [.c (.bool b)])==want)=true from hw)] at h
     rw [if_neg (by simpa [Region.wanted,hg,hy] using hw)]
     exact skip h
   ·split at h
    ·rename_i hu
     have hb':st.sl t=.und:=by
      unfold ZoV at hu
      split at hu
      ·rename_i he;exact he
      ·simp at hu
     rw [hb'] at hst
     have hst':a.tmps.getD t undef=undef:=hst
     have hy:yielded ops a.tmps j=none:=by
      unfold yielded
      rw [hj',Option.bind_some]
      rw [Array.getD_eq_getD_getElem?] at hst'
      cases he:a.tmps[t]? with
      | none=>rfl
      | some q=>rw [he] at hst';simp at hst';rw [hst'];rfl
     rw [if_neg (by simp [Region.wanted,hg,hy])]
     exact skip h
    ·exact h.elim
theorem Zm1 [NW] (htt:MOk P J JF W tt) {ops:Array Oper} {N:Nat} (hN:∀o∈ops.toList,∀t,o.dst=some t→t<N∧(W.hv=none∨t≠0)) {K:St→Prop}:∀(r:List Oper) (i key:Nat) (U:Nat→Prop) (st:St) (a:Act) (w:World),ops.toList.drop i=r→Z3 tt (SC P J JF hs) ops.toList key r K st→Inv W U st a w→(∀k,key≤k→¬U k)→a.tmps.size=N→
  (∀U' st' a' w',Inv W U' st' a' w'→(∀k,key+16 * r.length≤k→¬U' k)→a'.tmps.size=N→K st'→Q .normal a' w')→wpOps P ops Q (List.range' i r.length) a w
 | [],i,key,U,st,a,w,_,h,hI,hk,hs,hQ=>hQ U st a w hI (by simpa using hk) hs h
 | o::r,i,key,U,st,a,w,hr,h,hI,hk,hs,hQ=>by
  have hi:ops.toList[i]?=some o:=by
   have:=congrArg (fun l=>l[0]?) hr
   simpa using this
  have hr':ops.toList.drop (i+1)=r:=by
   have:=congrArg List.tail hr
   simpa using this
  rw [List.length_cons,List.range'_succ,wpOps_cons]
  refine wpOp_mono ?_ (Zmk htt (by simpa using hi) h hI (fun k a _=>hk k a) (fun t ht=>by rw [hs];exact hN o (List.mem_of_getElem? hi) t ht))
  rintro a' w' ⟨st',hI',hs',hK'⟩
  refine Zm1 htt hN r (i+1) (key+16) _ st' a' w' hr' hK' hI' (fun k hk' hU=>?_) (by omega) (fun U' st2 a2 w2 h1 h2 h3 h4=>hQ U' st2 a2 w2 h1 (fun k hk'=>h2 k (by simp at hk';omega)) h3 h4)
  rcases hU with hU | hU
  ·exact hk k (by omega) hU
  ·omega
end
end Go.Proofs.YtojnhepgnbhaaaaGreatDoor
namespace Go.Proofs.YtojnhepgnbhaaaaGreatDoor
open Go.RowKit
def Zsj:Option TI→Bool
 | some (.slice _ _ _ z)=>z.all ZiB
 | _=>false
def cls (tt:Nat→Option TI) (hs:FuncId→Nat):Op→Nat
 | .move _=>0
 | .assign _=>0
 | .pick _ _ _=>0
 | .build _ _=>0
 | .nilCheck _=>0
 | .binOp _ _ _ _ _=>0
 | .unOp _ _ _=>0
 | .convert _ t _=>if ZcI (tt t)=true then 1 else 0
 | .slice t _ lo hi _=>if ZcI (tt t)=true then 0 else if lo.isSome&&hi.isNone then 4 else 3
 | .fieldAddr _ _ _=>0
 | .field _ _ _=>0
 | .index _ _ _=>0
 | .extract _ _=>0
 | .alloc _=>1
 | .box _ _=>1
 | .load _ _=>1
 | .makeMap _ _=>1
 | .lookup _ _ _ _=>1
 | .makeSlice _ _ _=>1
 | .indexAddr _ _ _=>1
 | .buildSlice t _ ps=>if ps.size=0∨Zsj (tt t)=true then 2 else 3
 | .call ⟨.builtin .len,_,_⟩=>1
 | .call ⟨.builtin .max,_,_⟩=>0
 | .call ⟨.builtin .min,_,_⟩=>0
 | .call ⟨.value (.func f),_,_⟩=>if hs f=0 then 1 else 4
 | _=>4
section
variable {P:Program} {W:Q8} {U:Nat→Prop} {key:Nat} {st st':St} {w w':World} {a:Act} {tt:Nat→Option TI} {S:Ctx} {Q:Exit→Act→World→Prop}
def ZhN (tt:Nat→Option TI) (S:Ctx) (key:Nat) (o:Oper) (st:St) (v:SV) (u:List (Nat × Ob)):Prop:=
 match Qw o.op with
 | some c=>ZdC S c.1 (S.hd c.1) key st (evs tt st c.2.1 c.2.2) v u
 | none=>match Xr o.op with
  | some c=>∃fc,Zmz (st.sl c.1)=some fc∧S.hd fc.1=0∧ZdC S fc.1 0 key st (evs tt st c.2.1 c.2.2++fc.2.map Zjq) v u
  | none=>opE tt key o st=some (v,u)
def opR (tt:Nat→Option TI) (S:Ctx) (all:List Oper) (key:Nat) (o:Oper) (st:St) (v:SV) (u:List (Nat × Ob)):Prop:=
 match Zbk all o with
 | none=>ZhN tt S key o st v u
 | some (none,_)=>v=.und∧u=[]
 | some (some t,want)=>gK (st.sl t) want (ZhN tt S key o st v u) (v=.und∧u=[])
theorem ZqH [NW] {o:Oper} {K:St→Prop}:opS tt S key o K st↔∃v u,ZhN tt S key o st v u∧K ((st.put o.dst v).app u):=by
 cases hc:Qw o.op with
 | some c=>
  simp only [opS,ZhN,hc]
  exact ZjR
 | none=>
  simp only [opS,ZhN,hc]
  cases hd:Xr o.op with
  | some c=>
   simp only
   constructor
   ·intro h
    unfold YS at h
    split at h
    ·rename_i fc hfc
     obtain ⟨h0,h⟩:=h
     obtain ⟨v,u,h1,h2⟩:=ZjR.1 h
     exact ⟨v,u,⟨fc,hfc,h0,h1⟩,h2⟩
    ·exact h.elim
   ·rintro ⟨v,u,⟨fc,hfc,h0,h1⟩,h2⟩
    rw [hfc]
    exact ⟨h0,ZjR.2 ⟨v,u,h1,h2⟩⟩
  | none=>
   simp only
   constructor
   ·intro h
    unfold YS at h
    split at h
    ·rename_i r hr
     exact ⟨r.1,r.2,hr,h⟩
    ·exact h.elim
   ·rintro ⟨v,u,h1,h2⟩
    rw [h1]
    exact h2
theorem Zgg [NW] {all:List Oper} {o:Oper} {K:St→Prop}:opG tt S all key o K st↔∃v u,opR tt S all key o st v u∧K ((st.put o.dst v).app u):=by
 have skip:K (st.put o.dst .und)↔∃v u,(v=SV.und∧u=[])∧K ((st.put o.dst v).app u):=by
  constructor
  ·intro h;exact ⟨.und,[],⟨rfl,rfl⟩,h⟩
  ·rintro ⟨v,u,⟨rfl,rfl⟩,h⟩;exact h
 cases hg:Zbk all o with
 | none=>simp only [opG,opR,hg];exact ZqH
 | some q=>
  obtain ⟨q,want⟩:=q
  cases q with
  | none=>simp only [opG,opR,hg];exact skip
  | some t=>
   simp only [opG,opR,hg,gK]
   by_cases h1:QO (st.sl t)=true
   ·by_cases h2:(X0 (st.sl t)==want)=true
    ·simp only [h1,h2,if_true];exact ZqH
    ·simp only [h1,h2,if_true,if_false];exact skip
   ·by_cases h2:ZoV (st.sl t)=true
    ·simp only [h1,h2,if_true,if_false];exact skip
    ·simp only [h1,h2,if_false];simp
theorem ZhW [NW] {ts:List TypeId} {xs:List Operand} (h:∀x∈xs,∀t,st.ev tt t x=st'.ev tt t x):evs tt st ts xs=evs tt st' ts xs:=by
 unfold evs
 refine List.map_congr_left fun p hp=>h p.2 ?_ p.1
 rw [←Zet ts xs]
 exact List.mem_map.2 ⟨p,hp,rfl⟩
def Wk (st st':St) (U:Nat→Prop):Prop:=∀k,U k→st'.ob k=st.ob k∨st'.ob k=Ym (st.ob k)
theorem Wk.of (h:∀k,U k→st.ob k=st'.ob k):Wk st st' U:=fun k hk=>.inl (h k hk).symm
theorem Zf5 (hob:Wk st st' U):∀{xs:List AV},Qz U xs→Y2 st xs=Y2 st' xs
 | [],_=>rfl
 | x::r,h=>by
  have hx:Zch st x=Zch st' x:=by
   cases x with
   | row k=>
    simp only [Zch]
    rcases hob k (h (.row k) (by simp)) with e | e
    ·rw [e]
    ·rw [e];cases st.ob k<;>rfl
   | _=>rfl
  have hr:=Zf5 hob (xs:=r) (fun y m=>h y (by simp [m]))
  simp only [Y2,hx,hr]
theorem Zfu [NW] (hob:Wk st st' U):∀{xs:List SV},(∀x∈xs,svU U x)→Yc st xs=Yc st' xs
 | [],_=>rfl
 | x::r,h=>by
  have hx:ZdH st x=ZdH st' x:=by
   cases x with
   | p ag cs=>simp only [ZdH,Zf5 hob (h (.p ag cs) (by simp))]
   | _=>rfl
  have hr:=Zfu hob (xs:=r) (fun y m=>h y (by simp [m]))
  simp only [Yc,hx,hr]
theorem ZpG (hob:Wk st st' U) {t:Option TI} {x:SV} (hx:svU U x):ZbW st t x=ZbW st' t x:=by
 cases x with
 | bp k off=>
  simp only [ZbW]
  rcases hob k hx with e | e
  ·rw [e]
  ·rw [e];cases st.ob k<;>rfl
 | rp k m i off=>
  simp only [ZbW]
  rcases hob k hx with e | e
  ·rw [e]
  ·rw [e];cases st.ob k<;>rfl
 | p ag cs=>cases ag with
  | true=>rfl
  | false=>cases cs with
   | nil=>rfl
   | cons y r=>cases r<;>cases y<;>first | rfl | (rename_i z;cases z<;>rfl) | (rename_i z _ _;cases z<;>rfl)
 | _=>rfl
theorem ZqY (hob:Wk st st' U) {t:Option TI} {x:SV} (hx:svU U x):Zqd st t x=Zqd st' t x:=by
 unfold Zqd
 split<;>try rfl
 rename_i k
 rcases hob k (hx (.row k) (by simp)) with e | e
 ·rw [e]
 ·rw [e];cases st.ob k<;>rfl
theorem Znc (hob:Wk st st' U) {m:Nat} {x i:SV} (hx:svU U x):ZdJ st m x i=ZdJ st' m x i:=by
 unfold ZdJ
 split<;>try rfl
 rename_i k _ _
 rcases hob k (hx (.row k) (by simp)) with e | e
 ·rw [e]
 ·rw [e];cases st.ob k<;>rfl
theorem ZrP (hob:st.ob=st'.ob) (x:SV):Zh2 st x=Zh2 st' x:=by
 unfold Zh2
 rw [hob]
theorem Zk0 [NW] (hob:st.ob=st'.ob):∀xs:List SV,ZdM st xs=ZdM st' xs
 | []=>rfl
 | x::r=>by simp only [ZdM,ZrP hob x,Zk0 hob r]
theorem Zp3 (hob:Wk st st' U) {t:Option TI} {x i:SV} {ok:Bool} (hx:svU U x):Zjf st t x i ok=Zjf st' t x i ok:=by
 unfold Zjf
 split<;>try rfl
 rename_i k
 rcases hob k (hx (.row k) (by simp)) with e | e
 ·rw [e]
 ·rw [e];cases st.ob k<;>rfl
theorem ZpD (hob:Wk st st' U) {x:SV} (hx:svU U x):ZkR st x=ZkR st' x:=by
 unfold ZkR
 split<;>try rfl
 rename_i k
 rcases hob k (hx (.row k) (by simp)) with e | e
 ·rw [e]
 ·rw [e];cases st.ob k<;>rfl
theorem ZpH [NW] (hob:Wk st st' U) {s t:Nat} {x:SV} (hx:svU U x):Zgv tt st s t x=Zgv tt st' s t x:=by
 unfold Zgv
 rw [ZpD hob hx]
theorem Zrq [NW] {o:Oper} {sl sl':Nat→SV} {ob:Nat→Ob} {n n':Nat} (hl:∀x∈o.op.operands,∀t,St.ev tt ⟨sl,ob,n⟩ t x=St.ev tt ⟨sl',ob,n'⟩ t x):opE tt key o ⟨sl,ob,n⟩=opE tt key o ⟨sl',ob,n'⟩:=by
 obtain ⟨dst,op,ty,pos,af,gd⟩:=o
 cases op with
 | build t parts=>
  have hp:∀fs z,parts.toList.map (Zfa tt ⟨sl,ob,n⟩ fs z)=parts.toList.map (Zfa tt ⟨sl',ob,n'⟩ fs z):=fun fs z=>List.map_congr_left fun p hp=>by
   have:=hl p.2 (by simp [Op.operands];exact ⟨p.1,by simpa using hp⟩) 0
   unfold Zfa
   split
   ·rfl
   ·rw [this]
  simp only [opE,hp]
 | buildSlice t len parts=>
  have hp:∀e,(parts.toList.map fun p=>St.ev tt ⟨sl,ob,n⟩ e p.2)=parts.toList.map fun p=>St.ev tt ⟨sl',ob,n'⟩ e p.2:=fun e=>List.map_congr_left fun p hp=>hl p.2 (by simp [Op.operands];exact ⟨p.1,by simpa using hp⟩) e
  have he:∀m l,Y1 ⟨sl,ob,n⟩ m l=Y1 ⟨sl',ob,n'⟩ m l:=fun m l=>by
   have h1:∀x,avT ⟨sl,ob,n⟩ x=avT ⟨sl',ob,n'⟩ x:=fun x=>by cases x<;>rfl
   have h2:∀xs,Zfb ⟨sl,ob,n⟩ xs=Zfb ⟨sl',ob,n'⟩ xs:=fun xs=>by
    induction xs with
    | nil=>rfl
    | cons x xs ih=>simp only [Zfb,h1,ih]
   induction l with
   | nil=>rfl
   | cons x xs ih=>cases x<;>simp only [Y1,h2,ih]
  have hz:∀ks,ZP ⟨sl,ob,n⟩ ks=ZP ⟨sl',ob,n'⟩ ks:=fun ks=>by
   induction ks with
   | nil=>rfl
   | cons k r ih=>simp only [ZP,ih]
  simp only [opE,hp,he,hz]
 | slice t x lo hi mx=>
  simp only [Op.operands] at hl
  cases mx with
  | some _=>rfl
  | none=>
   have hx:=fun t=>hl x (by simp) t
   cases lo with
   | none=>cases hi with
    | none=>simp only [opE,hx,Option.map_none];rfl
    | some h=>have hh:=fun t=>hl h (by simp) t;simp only [opE,hx,hh,Option.map_none,Option.map_some];rfl
   | some l=>
    have hlo:=fun t=>hl l (by simp) t
    cases hi with
    | none=>simp only [opE,hx,hlo,Option.map_none,Option.map_some];rfl
    | some h=>have hh:=fun t=>hl h (by simp) t;simp only [opE,hx,hlo,hh,Option.map_some];rfl
 | call c=>
  obtain ⟨callee,args,ts⟩:=c
  cases callee with
  | builtin b=>
   have:=ZhW (tt:=tt) (st:=⟨sl,ob,n⟩) (st':=⟨sl',ob,n'⟩) (ts:=ts.toList) (xs:=args.toList) (fun x m t=>hl x (by simp [Op.operands,Call.operands];simpa using m) t)
   simp only [opE,this]
   unfold Zqb
   split<;>rfl
  | value f=>rfl
  | invoke r m=>rfl
 | move x=>have:=fun t=>hl x (by simp [Op.operands]) t;simp only [opE,this]
 | assign x=>have:=fun t=>hl x (by simp [Op.operands]) t;simp only [opE,this]
 | pick c x y=>have h1:=fun t=>hl c (by simp [Op.operands]) t;have h2:=fun t=>hl x (by simp [Op.operands]) t;have h3:=fun t=>hl y (by simp [Op.operands]) t;simp only [opE,h1,h2,h3]
 | alloc t=>rfl
 | box t x=>have:=fun t=>hl x (by simp [Op.operands]) t;simp only [opE,this]
 | load t x=>have:=fun t=>hl x (by simp [Op.operands]) t;simp only [opE,this];rfl
 | store t x v=>have h1:=fun t=>hl x (by simp [Op.operands]) t;have h2:=fun t=>hl v (by simp [Op.operands]) t;simp only [opE,h1,h2];rfl
 | nilCheck x=>have:=fun t=>hl x (by simp [Op.operands]) t;simp only [opE,this]
 | binOp op t x y t'=>have h1:=fun t=>hl x (by simp [Op.operands]) t;have h2:=fun t=>hl y (by simp [Op.operands]) t;simp only [opE,h1,h2]
 | unOp op t x=>have:=fun t=>hl x (by simp [Op.operands]) t;simp only [opE,this]
 | convert s t x=>have:=fun t=>hl x (by simp [Op.operands]) t;simp only [opE,this];rfl
 | makeFunc fn first caps=>
  cases fn with
  | func f=>
   have hc:caps.toList.map (St.ev tt ⟨sl,ob,n⟩ 0)=caps.toList.map (St.ev tt ⟨sl',ob,n'⟩ 0):=List.map_congr_left fun x hx=>hl x (by simp [Op.operands];exact .inr (by simpa using hx)) 0
   simp only [opE,hc,Zk0 (st:=⟨sl,ob,n⟩) (st':=⟨sl',ob,n'⟩) rfl]
  | _=>rfl
 | makeMap t r=>cases r<;>rfl
 | lookup t x i ok=>have h1:=fun t=>hl x (by simp [Op.operands]) t;have h2:=fun t=>hl i (by simp [Op.operands]) t;simp only [opE,h1,h2];rfl
 | mapUpdate t x i v=>have h1:=fun t=>hl x (by simp [Op.operands]) t;have h2:=fun t=>hl i (by simp [Op.operands]) t;have h3:=fun t=>hl v (by simp [Op.operands]) t;simp only [opE,h1,h2,h3];rfl
 | makeSlice t x y=>have h1:=fun t=>hl x (by simp [Op.operands]) t;have h2:=fun t=>hl y (by simp [Op.operands]) t;simp only [opE,h1,h2]
 | fieldAddr t x f=>have:=fun t=>hl x (by simp [Op.operands]) t;simp only [opE,this]
 | field t x f=>have:=fun t=>hl x (by simp [Op.operands]) t;simp only [opE,this]
 | indexAddr t x y=>have h1:=fun t=>hl x (by simp [Op.operands]) t;have h2:=fun t=>hl y (by simp [Op.operands]) t;simp only [opE,h1,h2];rfl
 | index t x y=>have h1:=fun t=>hl x (by simp [Op.operands]) t;have h2:=fun t=>hl y (by simp [Op.operands]) t;simp only [opE,h1,h2]
 | extract x i=>have:=fun t=>hl x (by simp [Op.operands]) t;simp only [opE,this]
 | _=>rfl
theorem Zux (sl:Nat→SV) (ob ob':Nat→Ob) (n n' t:Nat) (x:Operand):St.ev tt ⟨sl,ob,n⟩ t x=St.ev tt ⟨sl,ob',n'⟩ t x:=by cases x<;>rfl
theorem Zsk {st st':St} (h:∀k,U k→st.ob k=st'.ob k) {x:AV} (hx:avU U x):avT st x=avT st' x:=by
 cases x with
 | row k=>simp only [avT];rw [h k hx]
 | c x=>cases x<;>rfl
 | nil e m=>rfl
 | n x=>rfl
 | dead=>rfl
theorem ZmH [NW] {st st':St} (h:∀k,U k→st.ob k=st'.ob k):∀{xs:List AV},Qz U xs→Zfb st xs=Zfb st' xs
 | [],_=>rfl
 | x::r,hx=>by simp only [Zfb];rw [Zsk h (hx x (by simp)),ZmH h fun y m=>hx y (by simp [m])]
theorem Zjr [NW] {st st':St} {m:Nat} (h:∀k,U k→st.ob k=st'.ob k):∀{xs:List SV},(∀v∈xs,svU U v)→Y1 st m xs=Y1 st' m xs
 | [],_=>rfl
 | .p a cs::r,hx=>by
  simp only [Y1]
  rw [ZmH h (hx (.p a cs) (by simp)),Zjr h fun v mv=>hx v (by simp [mv])]
 | .any::r,_=>rfl
 | .und::r,_=>rfl
 | .tup _::r,_=>rfl
 | .bp _ _::r,_=>rfl
 | .rp _ _ _ _::r,_=>rfl
 | .ep _ _::r,_=>rfl
 | .fn _::r,_=>rfl
theorem ZrK {x:AV} {ct:CT} {ks:List Nat} {d:Nat} (h:avT st x=some (ct,ks,d)) (hx:avU U x):∀k∈ks,U k:=by
 intro k mk
 cases x with
 | c y=>cases y<;>simp only [avT,Option.some.injEq,Prod.mk.injEq] at h<;>(rw [←h.2.1] at mk;simp at mk)
 | nil e m=>
  simp only [avT] at h
  split at h<;>simp only [Option.some.injEq,Prod.mk.injEq,reduceCtorEq] at h
  rw [←h.2.1] at mk;simp at mk
 | row j=>
  simp only [avT] at h
  split at h
  ·split at h<;>simp only [Option.some.injEq,Prod.mk.injEq] at h
   ·rw [←h.2.1] at mk;simp at mk
   ·rw [←h.2.1] at mk;simp at mk;subst mk;exact hx
  ·simp at h
 | n x=>simp [avT] at h
 | dead=>simp [avT] at h
theorem Zlg [NW]:∀{xs:List AV} {cts:List CT} {ks:List Nat} {d:Nat},Zfb st xs=some (cts,ks,d)→Qz U xs→∀k∈ks,U k
 | [],_,_,_,h,_,k,mk=>by simp only [Zfb,Option.some.injEq,Prod.mk.injEq] at h;rw [←h.2.1] at mk;simp at mk
 | x::r,_,_,_,h,hu,k,mk=>by
  simp only [Zfb] at h
  obtain ⟨⟨c1,k1,d1⟩,h1,h⟩:=Option.bind_eq_some_iff.1 h
  obtain ⟨⟨c2,k2,d2⟩,h2,h⟩:=Option.map_eq_some_iff.1 h
  simp only [Prod.mk.injEq] at h
  rw [←h.2.1] at mk
  rcases List.mem_append.1 mk with mk | mk
  ·exact ZrK h1 (hu x (by simp)) k mk
  ·exact Zlg h2 (fun y my=>hu y (by simp [my])) k mk
theorem ZeU [NW] {m:Nat}:∀{xs:List SV} {es:List (List CT)} {ks:List Nat} {d:Nat},Y1 st m xs=some (es,ks,d)→(∀v∈xs,svU U v)→∀k∈ks,U k
 | [],_,_,_,h,_,k,mk=>by simp only [Y1,Option.some.injEq,Prod.mk.injEq] at h;rw [←h.2.1] at mk;simp at mk
 | x::r,_,_,_,h,hu,k,mk=>by
  cases x with
  | p a cs=>
   simp only [Y1] at h
   split at h
   ·obtain ⟨⟨c1,k1,d1⟩,h1,h⟩:=Option.bind_eq_some_iff.1 h
    obtain ⟨⟨c2,k2,d2⟩,h2,h⟩:=Option.map_eq_some_iff.1 h
    simp only [Prod.mk.injEq] at h
    rw [←h.2.1] at mk
    rcases List.mem_append.1 mk with mk | mk
    ·exact Zlg h1 (hu (.p a cs) (by simp)) k mk
    ·exact ZeU h2 (fun v mv=>hu v (by simp [mv])) k mk
   ·simp at h
  | _=>simp [Y1] at h
theorem ZoA {st st':St} {ks:List Nat} (h:∀k∈ks,st.ob k=st'.ob k):ZP st ks=ZP st' ks:=by
 induction ks with
 | nil=>rfl
 | cons k r ih=>simp only [ZP,h k (by simp),ih fun j mj=>h j (by simp [mj])]
theorem Zp8 {ks:List Nat} {p:Nat × Ob} (h:p∈ZP st ks):p.1∈ks∧p.2=Ym (st.ob p.1):=by
 induction ks with
 | nil=>simp [ZP] at h
 | cons k r ih=>
  simp only [ZP,List.mem_cons] at h
  rcases h with rfl | h
  ·exact ⟨by simp,rfl⟩
  ·exact ⟨by simp [(ih h).1],(ih h).2⟩
theorem Znf [NW] {hs:FuncId→Nat} {o:Oper} {sl:Nat→SV} {ob ob':Nat→Ob} {n n':Nat} (h:cls tt hs o.op=0∨(cls tt hs o.op≤3∧(∀k,U k→ob k=ob' k)∧∀t x,svU U (St.ev tt ⟨sl,ob,n⟩ t x))∨(cls tt hs o.op≤1∧Wk ⟨sl,ob,n⟩ ⟨sl,ob',n'⟩ U∧∀t x,svU U (St.ev tt ⟨sl,ob,n⟩ t x))):opE tt key o ⟨sl,ob,n⟩=opE tt key o ⟨sl,ob',n'⟩:=by
 have he:=fun t x=>Zux (tt:=tt) sl ob ob' n n' t x
 have hle:cls tt hs o.op≤3:=by rcases h with h | h | h<;>omega
 have hwk:cls tt hs o.op=0∨(Wk ⟨sl,ob,n⟩ ⟨sl,ob',n'⟩ U∧∀t x,svU U (St.ev tt ⟨sl,ob',n'⟩ t x)):=by
  rcases h with h | h | h
  ·exact .inl h
  ·exact .inr ⟨fun k hk=>.inl (h.2.1 k hk).symm,fun t x=>he t x ▸ h.2.2 t x⟩
  ·exact .inr ⟨h.2.1,fun t x=>he t x ▸ h.2.2 t x⟩
 obtain ⟨dst,op,ty,pos,af,gd⟩:=o
 cases op with
 | build t parts=>
  have hp:∀fs z,parts.toList.map (Zfa tt ⟨sl,ob,n⟩ fs z)=parts.toList.map (Zfa tt ⟨sl,ob',n'⟩ fs z):=fun fs z=>List.map_congr_left fun p hp=>by
   unfold Zfa
   split
   ·rfl
   ·rw [he]
  simp only [opE,hp]
 | buildSlice t len parts=>
  have hc:2≤cls tt hs (.buildSlice t len parts):=by simp only [cls];split<;>omega
  have h':(∀k,U k→ob k=ob' k)∧∀t x,svU U (St.ev tt ⟨sl,ob,n⟩ t x):=by
   rcases h with h | h | h
   ·simp only at h;omega
   ·exact h.2
   ·simp only at h;omega
  obtain ⟨h1,h2⟩:=h'
  simp only [opE,he]
  split
  ·rename_i e m _ z _
   have hu:∀v∈parts.toList.map (fun p=>St.ev tt ⟨sl,ob',n'⟩ e p.2),svU U v:=fun v mv=>by obtain ⟨p,_,rfl⟩:=List.mem_map.1 mv;rw [←he];exact h2 _ _
   rw [Zjr (U:=U) (st:=⟨sl,ob,n⟩) (st':=⟨sl,ob',n'⟩) h1 hu]
   cases hel:Y1 ⟨sl,ob',n'⟩ m (parts.toList.map fun p=>St.ev tt ⟨sl,ob',n'⟩ e p.2) with
   | none=>rfl
   | some a=>
    have hk:=ZeU (U:=U) hel hu
    have:=ZoA (st:=⟨sl,ob,n⟩) (st':=⟨sl,ob',n'⟩) (ks:=a.2.1) (fun k mk=>h1 k (hk k mk))
    simp only [Option.bind_some,this]
  ·rfl
 | load t x=>
  obtain ⟨h1,h2⟩:=hwk.resolve_left (by simp [cls])
  simp only [opE,he]
  rw [ZpG (U:=U) (st:=⟨sl,ob,n⟩) (st':=⟨sl,ob',n'⟩) h1 (h2 0 x)]
 | indexAddr t x y=>
  obtain ⟨h1,h2⟩:=hwk.resolve_left (by simp [cls])
  simp only [opE,he]
  split
  ·rw [Znc (U:=U) (st:=⟨sl,ob,n⟩) (st':=⟨sl,ob',n'⟩) h1 (h2 0 x)]
  ·rfl
 | call c=>
  obtain ⟨callee,args,ts⟩:=c
  cases callee with
  | builtin b=>
   have hev:evs tt ⟨sl,ob,n⟩ ts.toList args.toList=evs tt ⟨sl,ob',n'⟩ ts.toList args.toList:=ZhW fun x _ t=>he t x
   simp only [opE,hev]
   unfold Zqb
   split
   ·rename_i t _ v he1 he2
    obtain ⟨h1,h2⟩:=hwk.resolve_left (by simp [cls])
    have hu:svU U v:=by
     have hm:v∈evs tt ⟨sl,ob',n'⟩ ts.toList args.toList:=by simp [he2]
     obtain ⟨p,_,rfl⟩:=List.mem_map.1 hm
     exact h2 _ _
    rw [ZqY (U:=U) (st:=⟨sl,ob,n⟩) (st':=⟨sl,ob',n'⟩) h1 hu]
   ·simp [cls] at hle
   ·rfl
   ·rfl
   ·rfl
  | value f=>rfl
  | invoke r m=>rfl
 | store t x v=>simp [cls] at hle
 | makeFunc fn first caps=>simp [cls] at hle
 | mapUpdate t x i v=>simp [cls] at hle
 | makeMap t r=>cases r<;>rfl
 | lookup t x i ok=>
  obtain ⟨h1,h2⟩:=hwk.resolve_left (by simp [cls])
  simp only [opE,he]
  rw [Zp3 (U:=U) (st:=⟨sl,ob,n⟩) (st':=⟨sl,ob',n'⟩) h1 (h2 0 x)]
 | convert s t x=>
  simp only [opE,he]
  by_cases hst:ZcI (tt t)=true
  ·obtain ⟨h1,h2⟩:=hwk.resolve_left (by simp [cls,hst])
   rw [ZpH (U:=U) (st:=⟨sl,ob,n⟩) (st':=⟨sl,ob',n'⟩) h1 (h2 0 x)]
  ·have e:∀st:St,Zgv tt st s t (St.ev tt ⟨sl,ob',n'⟩ 0 x)=ZoT (tt s) (tt t) (St.ev tt ⟨sl,ob',n'⟩ 0 x):=fun st=>by
    unfold Zgv
    rw [if_neg (by simp [hst])]
   rw [e,e]
 | slice t x lo hi mx=>
  cases mx with
  | some _=>rfl
  | none=>
   by_cases hstr:ZcI (tt t)=true
   ·have hns:ZaZ (tt t)=false:=by
     unfold ZcI at hstr
     split at hstr
     ·rename_i e;rw [e];rfl
     ·simp at hstr
    have hu:∀l h v,Zbu ⟨sl,ob,n⟩ key (tt t) l h v=Zbu ⟨sl,ob',n'⟩ key (tt t) l h v:=fun l h v=>by
     unfold Zbu
     split
     ·simp [hns]
     ·rfl
     ·rfl
    cases lo<;>cases hi<;>simp only [opE,he,Option.map_none,Option.map_some,hu]
   ·have hc:2<cls tt hs (.slice t x lo hi none):=by simp only [cls];rw [if_neg hstr];split<;>omega
    have h':(∀k,U k→ob k=ob' k)∧∀t x,svU U (St.ev tt ⟨sl,ob,n⟩ t x):=by
     rcases h with h | h | h
     ·simp only at h;omega
     ·exact h.2
     ·simp only at h;omega
    obtain ⟨h1,h2⟩:=h'
    have hu:∀l h v,svU U v→Zbu ⟨sl,ob,n⟩ key (tt t) l h v=Zbu ⟨sl,ob',n'⟩ key (tt t) l h v:=fun l h v hv=>by
     unfold Zbu
     split
     ·rename_i k
      have hk:U k:=hv (.row k) (by simp)
      simp only [h1 k hk]
     ·rfl
     ·rfl
    simp only [opE,he]
    exact hu _ _ _ (he 0 x ▸ h2 0 x)
 | _=>first | rfl | simp only [opE,he]
theorem YX:∀(cts:List (Bool × CT)) (key:Nat),key≤(Z8 key cts).2.2∧∀p∈(Z8 key cts).2.1,key≤p.1∧p.1<(Z8 key cts).2.2
 | [],key=>by simp [Z8]
 | (true,x)::r,key=>YX r key
 | (false,ct)::r,key=>by
  cases ct with
  | sl e m xs=>
   obtain ⟨h1,h2⟩:=YX r (key+1)
   refine ⟨by simp only [Z8];omega,fun p hp=>?_⟩
   simp only [Z8,List.mem_cons] at hp ⊢
   rcases hp with rfl | hp
   ·exact ⟨Nat.le_refl _,by simp only;omega⟩
   ·have:=h2 p hp;omega
  | int k n=>exact YX r key
  | bool b=>exact YX r key
  | str s=>exact YX r key
  | ifc s=>exact YX r key
  | any=>exact YX r key
  | pt s=>exact YX r key
  | fn f s=>exact YX r key
  | mp a b s=>exact YX r key
theorem Zi1 [NW]:∀(res:List RT) (key:Nat),key≤(ZD key res).2.2∧∀p∈(ZD key res).2.1,key≤p.1∧p.1<(ZD key res).2.2
 | [],key=>by simp [ZD]
 | x::r,key=>by
  obtain ⟨h1,h2⟩:=YX x.2 key
  obtain ⟨h3,h4⟩:=Zi1 r (Z8 key x.2).2.2
  refine ⟨by simp only [ZD];omega,fun p hp=>?_⟩
  simp only [ZD,List.mem_append] at hp ⊢
  rcases hp with hp | hp
  ·have:=h2 p hp;omega
  ·have:=h4 p hp;omega
theorem Xg {v:Option SV} {r:SV × List (Nat × Ob)} (h:Zbn v=some r):r.2=[]:=by
 obtain ⟨u,_,rfl⟩:=Option.map_eq_some_iff.1 h;rfl
theorem ZsV [NW] {hs:FuncId→Nat} {o:Oper} {r:SV × List (Nat × Ob)} (hU:∀t x,svU U (st.ev tt t x)) (h:opE tt key o st=some r):(cls tt hs o.op=0→r.2=[])∧(cls tt hs o.op≤2→∀p∈r.2,key≤p.1∧p.1<key+16)∧(cls tt hs o.op≤3→∀p∈r.2,(key≤p.1∧p.1<key+16)∨(U p.1∧p.2=Ym (st.ob p.1))):=by
 have nil:r.2=[]→(cls tt hs o.op=0→r.2=[])∧(cls tt hs o.op≤2→∀p∈r.2,key≤p.1∧p.1<key+16)∧(cls tt hs o.op≤3→∀p∈r.2,(key≤p.1∧p.1<key+16)∨(U p.1∧p.2=Ym (st.ob p.1))):=fun e=>⟨fun _=>e,fun _ p hp=>by simp [e] at hp,fun _ p hp=>by simp [e] at hp⟩
 obtain ⟨dst,op,ty,pos,af,gd⟩:=o
 cases op with
 | move x=>simp only [opE,Option.some.injEq] at h;exact nil (by rw [←h])
 | assign x=>simp only [opE,Option.some.injEq] at h;exact nil (by rw [←h])
 | pick c x y=>
  simp only [opE] at h
  split at h
  ·simp only [Option.some.injEq] at h;exact nil (by rw [←h])
  ·simp at h
 | alloc t=>
  simp only [opE] at h
  obtain ⟨z,_,rfl⟩:=Option.map_eq_some_iff.1 h
  exact ⟨fun e=>by simp [cls] at e,fun _ p hp=>by simp at hp;subst hp;simp,fun _ p hp=>by simp at hp;subst hp;simp⟩
 | box t x=>
  simp only [opE] at h
  split at h
  ·simp only [Option.some.injEq] at h
   subst h
   exact ⟨fun e=>by simp [cls] at e,fun _ p hp=>by simp at hp;subst hp;simp,fun _ p hp=>by simp at hp;subst hp;simp⟩
  ·simp at h
 | build t parts=>
  simp only [opE] at h
  split at h
  ·obtain ⟨cs,_,rfl⟩:=Option.map_eq_some_iff.1 h;exact nil rfl
  ·simp at h
 | buildSlice t len parts=>
  simp only [opE] at h
  split at h
  ·obtain ⟨⟨xs,ks,d⟩,h1,h⟩:=Option.bind_eq_some_iff.1 h
   split at h
   ·simp only [Option.some.injEq] at h
    subst h
    rename_i e0 _ _ z hti hcond
    have hu:∀v∈parts.toList.map (fun p=>st.ev tt e0 p.2),svU U v:=fun v mv=>by obtain ⟨p,_,rfl⟩:=List.mem_map.1 mv;exact hU _ _
    have hk:=ZeU (U:=U) h1 hu
    refine ⟨fun e=>by simp only [cls] at e;split at e<;>simp at e,fun e p hp=>?_,fun e p hp=>?_⟩
    ·by_cases hs:parts.size=0
     ·have:parts=#[]:=by simpa using hs
      subst this
      simp [Y1] at h1
      obtain ⟨_,rfl,_⟩:=h1
      simp [ZP] at hp;subst hp;simp
     ·by_cases hf:Zsj (tt t)=true
      ·have hz:z.all ZiB=true:=by rw [hti] at hf;exact hf
       have hks:ks=[]:=by
        have h3:=hcond.2.2.2
        rw [hz] at h3
        simpa using h3
       subst hks
       simp [ZP] at hp;subst hp;simp
      ·simp [cls,hs,hf] at e
    ·rcases List.mem_append.1 hp with hp | hp
     ·obtain ⟨p1,p2⟩:=Zp8 hp
      exact .inr ⟨hk _ p1,p2⟩
     ·simp at hp;subst hp;simp
   ·simp at h
  ·simp at h
 | load t x=>exact nil (Xg h)
 | store t x v=>exact ⟨fun e=>by simp [cls] at e,fun e=>by simp [cls] at e,fun e=>by simp [cls] at e⟩
 | makeFunc fn first caps=>exact ⟨fun e=>by simp [cls] at e,fun e=>by simp [cls] at e,fun e=>by simp [cls] at e⟩
 | mapUpdate t x i v=>exact ⟨fun e=>by simp [cls] at e,fun e=>by simp [cls] at e,fun e=>by simp [cls] at e⟩
 | lookup t x i ok=>exact nil (Xg h)
 | makeMap t r=>
  cases r with
  | none=>
   simp only [opE,ZmB] at h
   split at h
   ·simp only [Option.some.injEq] at h
    subst h
    exact ⟨fun e=>by simp [cls] at e,fun _ p hp=>by simp at hp;subst hp;simp,fun _ p hp=>by simp at hp;subst hp;simp⟩
   ·simp at h
  | some _=>simp [opE] at h
 | nilCheck x=>
  simp only [opE] at h
  split at h<;>simp only [Option.some.injEq,reduceCtorEq] at h<;>exact nil (by rw [←h])
 | binOp op t x y t'=>exact nil (Xg h)
 | unOp op t x=>exact nil (Xg h)
 | convert s t x=>exact nil (Xg h)
 | makeSlice t n c=>
  simp only [opE,ZoS] at h
  split at h
  ·split at h
   ·obtain ⟨ze,_,h⟩:=Option.bind_eq_some_iff.1 h
    split at h
    ·simp only [Option.some.injEq] at h
     subst h
     exact ⟨fun e=>by simp [cls] at e,fun _ p hp=>by simp at hp;subst hp;simp,fun _ p hp=>by simp at hp;subst hp;simp⟩
    ·simp at h
   ·simp at h
  ·simp at h
 | slice t x lo hi mx=>
  cases mx with
  | some _=>simp [opE] at h
  | none=>
   by_cases hstr:ZcI (tt t)=true
   ·have hns:ZaZ (tt t)=false:=by
     unfold ZcI at hstr
     split at hstr
     ·rename_i e;rw [e];rfl
     ·simp at hstr
    refine nil ?_
    simp only [opE,Zbu] at h
    split at h
    ·simp [hns] at h
    ·obtain ⟨v,_,rfl⟩:=Option.map_eq_some_iff.1 h;rfl
    ·simp at h
   ·have hc:3≤cls tt hs (.slice t x lo hi none):=by simp only [cls];rw [if_neg hstr];split<;>omega
    refine ⟨fun e=>by simp only at e;omega,fun e=>by simp only at e;omega,fun e p hp=>?_⟩
    have hmv:∀d,mvS d (lo.map (st.ev tt 0)) (hi.map (st.ev tt 0))=false:=fun d=>by
     cases lo with
     | none=>rfl
     | some _=>cases hi with
      | none=>simp [cls,hstr] at e
      | some _=>rfl
    simp only [opE,Zbu] at h
    split at h
    ·rename_i k hv
     have hk:U k:=by
      have:=hU 0 x
      rw [hv] at this
      exact this (.row k) (by simp)
     split at h
     ·split at h
      ·rename_i hob
       split at h
       ·rw [hmv,if_neg (by simp)] at h
        obtain ⟨_,_,h⟩:=Option.bind_eq_some_iff.1 h
        obtain ⟨_,_,rfl⟩:=Option.map_eq_some_iff.1 h
        simp at hp
        subst hp
        exact .inr ⟨hk,by rw [hob];rfl⟩
       ·simp at h
      ·simp at h
     ·simp at h
    ·obtain ⟨v,_,rfl⟩:=Option.map_eq_some_iff.1 h
     simp at hp
    ·simp at h
 | fieldAddr t x f=>
  simp only [opE] at h
  split at h
  ·exact nil (Xg h)
  ·simp at h
 | field t x f=>
  simp only [opE] at h
  split at h
  ·exact nil (Xg h)
  ·simp at h
 | indexAddr t x i=>
  simp only [opE] at h
  split at h
  ·exact nil (Xg h)
  ·simp at h
 | index t x i=>exact nil (Xg h)
 | extract x i=>exact nil (Xg h)
 | call c=>
  obtain ⟨callee,args,ts⟩:=c
  cases callee with
  | builtin b=>
   simp only [opE,Zqb] at h
   split at h
   ·exact nil (Xg h)
   ·exact ⟨fun e=>by simp [cls] at e,fun e=>by simp [cls] at e,fun e=>by simp [cls] at e⟩
   ·exact nil (Xg h)
   ·exact nil (Xg h)
   ·simp at h
  | value f=>simp [opE] at h
  | invoke r m=>simp [opE] at h
 | _=>simp [opE] at h
theorem Zby {hs:FuncId→Nat} {o:Op} {c:FuncId × List TypeId × List Operand} (h:Qw o=some c):cls tt hs o=if hs c.1=0 then 1 else 4:=by
 unfold Qw at h
 split at h
 ·simp only [Option.some.injEq] at h;rw [←h];rfl
 ·simp at h
theorem Zke {o:Op} {c:Nat × List TypeId × List Operand} (h:Xr o=some c):∃args ts,o=.call ⟨.value (.tmp c.1),args,ts⟩∧c.2.1=ts.toList∧c.2.2=args.toList:=by
 unfold Xr at h
 split at h
 ·rename_i s args ts
  simp only [Option.some.injEq] at h
  rw [←h]
  exact ⟨args,ts,rfl,rfl,rfl⟩
 ·simp at h
theorem Zi9 [NW] {hs:FuncId→Nat} {o:Op} {c:Nat × List TypeId × List Operand} (h:Xr o=some c):cls tt hs o=4:=by
 obtain ⟨args,ts,rfl,_⟩:=Zke h
 rfl
theorem Zpg [NW] (hU:∀t x,svU U (st.ev tt t x)) {all:List Oper} {o:Oper} {v:SV} {u:List (Nat × Ob)} (h:opR tt S all key o st v u):(cls tt S.hd o.op=0→u=[])∧(cls tt S.hd o.op≤2→∀p∈u,key≤p.1∧p.1<key+16)∧(cls tt S.hd o.op≤3→∀p∈u,(key≤p.1∧p.1<key+16)∨(U p.1∧p.2=Ym (st.ob p.1))):=by
 have nil:u=[]→(cls tt S.hd o.op=0→u=[])∧(cls tt S.hd o.op≤2→∀p∈u,key≤p.1∧p.1<key+16)∧(cls tt S.hd o.op≤3→∀p∈u,(key≤p.1∧p.1<key+16)∨(U p.1∧p.2=Ym (st.ob p.1))):=fun e=>⟨fun _=>e,fun _ p hp=>by simp [e] at hp,fun _ p hp=>by simp [e] at hp⟩
 have hRS:ZhN tt S key o st v u→(cls tt S.hd o.op=0→u=[])∧(cls tt S.hd o.op≤2→∀p∈u,key≤p.1∧p.1<key+16)∧(cls tt S.hd o.op≤3→∀p∈u,(key≤p.1∧p.1<key+16)∨(U p.1∧p.2=Ym (st.ob p.1))):=fun h=>by
  unfold ZhN at h
  split at h
  ·rename_i c hc
   by_cases h0:S.hd c.1=0
   ·rw [h0] at h
    obtain ⟨l,res,_,_,_,h3,_,rfl⟩:=h
    have hp:∀p∈(ZD key res).2.1,key≤p.1∧p.1<key+16:=fun p hp=>by
     have:=(Zi1 res key).2 p hp
     omega
    exact ⟨fun e=>by rw [Zby hc,if_pos h0] at e;simp at e,fun _=>hp,fun _ p m=>.inl (hp p m)⟩
   ·refine ⟨fun e=>by rw [Zby hc,if_neg h0] at e;simp at e,fun e=>by rw [Zby hc,if_neg h0] at e;simp at e,fun e=>by rw [Zby hc,if_neg h0] at e;simp at e⟩
  ·split at h
   ·rename_i c hc
    have h4:=Zi9 (tt:=tt) (hs:=S.hd) hc
    exact ⟨fun e=>by rw [h4] at e;simp at e,fun e=>by rw [h4] at e;simp at e,fun e=>by rw [h4] at e;simp at e⟩
   ·exact ZsV hU h
 unfold opR at h
 split at h
 ·exact hRS h
 ·exact nil h.2
 ·unfold gK at h
  split at h
  ·split at h
   ·exact hRS h
   ·exact nil h.2
  ·split at h
   ·exact nil h.2
   ·exact h.elim
theorem Zgb (h:st.ob=st'.ob):∀ks:List Nat,ZP st ks=ZP st' ks
 | []=>rfl
 | k::r=>by simp only [ZP,Zgb h r,h]
theorem ZyG (s:SV):svU (fun _=>True) s:=by
 cases s<;>first | trivial | (intro y my;cases y<;>trivial) | (intro y my z mz;cases z<;>trivial)
theorem Zq7 [NW] (h:st.ob=st'.ob) (v:SV):ZfR st v=ZfR st' v:=by
 have ha:∀cs,Y2 st cs=Y2 st' cs:=fun cs=>Zf5 (U:=fun _=>True) (fun k _=>.inl (by rw [h])) (fun x _=>by cases x<;>trivial)
 unfold ZfR
 split
 ·rw [h]
  split
  ·rw [ha]
  ·rfl
 ·rw [h]
 ·rfl
theorem Zkz [NW] (h:st.ob=st'.ob) {f:FuncId} {n:Nat} {vs:List SV} {v:SV} {u:List (Nat × Ob)}:ZdC S f n key st vs v u↔ZdC S f n key st' vs v u:=by
 have hs:∀xs,Yc st xs=Yc st' xs:=fun xs=>Zfu (U:=fun _=>True) (fun k _=>.inl (by rw [h])) (fun x _=>ZyG x)
 unfold ZdC
 split
 ·simp only [hs]
 ·simp only [hs,Zq7 h,Zgb h]
 ·simp only [hs,Zgb h]
 ·simp only [hs,Zgb h]
theorem Zq0 [NW] {o:Oper} {v:SV} {u:List (Nat × Ob)} (hl:∀x∈o.op.operands,∀t,st.ev tt t x=st'.ev tt t x)
  (hob:cls tt S.hd o.op=0∨st.ob=st'.ob∨(∀t x,svU U (st.ev tt t x))∧((cls tt S.hd o.op≤3∧∀k,U k→st.ob k=st'.ob k)∨(cls tt S.hd o.op≤1∧Wk st st' U))):ZhN tt S key o st v u↔ZhN tt S key o st' v u:=by
 cases hc:Qw o.op with
 | some c=>
  simp only [ZhN,hc]
  have hop:∃args ts,o.op=.call ⟨.value (.func c.1),args,ts⟩∧c.2.1=ts.toList∧c.2.2=args.toList:=by
   unfold Qw at hc
   split at hc
   ·rename_i f args ts he
    simp only [Option.some.injEq] at hc
    rw [←hc]
    exact ⟨args,ts,he,rfl,rfl⟩
   ·simp at hc
  obtain ⟨args,ts,ho,e1,e2⟩:=hop
  have hev:evs tt st c.2.1 c.2.2=evs tt st' c.2.1 c.2.2:=ZhW fun x m t=>hl x (by rw [ho];rw [e2] at m;simp [Op.operands,Call.operands];exact .inr (by simpa using m)) t
  rw [←hev]
  rcases hob with hc0 | hob | ⟨hu,hob⟩
  ·rw [Zby hc] at hc0
   split at hc0<;>simp at hc0
  ·exact Zkz hob
  ·have hc1:cls tt S.hd o.op≤3:=by rcases hob with h | h<;>omega
   have hwk:Wk st st' U:=by
    rcases hob with h | h
    ·exact .of h.2
    ·exact h.2
   have h0:S.hd c.1=0:=by
    rw [Zby hc] at hc1
    split at hc1
    ·assumption
    ·simp at hc1
   have hsv:Yc st (evs tt st c.2.1 c.2.2)=Yc st' (evs tt st c.2.1 c.2.2):=Zfu (U:=U) hwk (fun x hx=>by
     obtain ⟨p,_,rfl⟩:=List.mem_map.1 hx
     exact hu _ _)
   rw [h0]
   simp only [ZdC,hsv]
 | none=>
  simp only [ZhN,hc]
  have:opE tt key o st=opE tt key o st':=by
   obtain ⟨sl,ob,n⟩:=st
   obtain ⟨sl',ob',n'⟩:=st'
   have s1:opE tt key o ⟨sl',ob',n'⟩=opE tt key o ⟨sl,ob',n⟩:=Zrq fun x m t=>by
    rw [←hl x m t];exact Zux _ _ _ _ _ _ _
   rw [s1]
   rcases hob with hc | hob | ⟨hu,⟨hc,hob⟩ | ⟨hc,hob⟩⟩
   ·exact Znf (U:=U) (.inl hc)
   ·simp only at hob;subst hob;rfl
   ·exact Znf (U:=U) (.inr (.inl ⟨hc,hob,hu⟩))
   ·exact Znf (U:=U) (.inr (.inr ⟨hc,hob,hu⟩))
  cases hd:Xr o.op with
  | none=>simp only [this]
  | some c=>
   simp only
   obtain ⟨args,ts,ho,e1,e2⟩:=Zke hd
   have hev:evs tt st c.2.1 c.2.2=evs tt st' c.2.1 c.2.2:=ZhW fun x m t=>hl x (by rw [ho];rw [e2] at m;simp [Op.operands,Call.operands];exact .inr (by simpa using m)) t
   have hsl:st.sl c.1=st'.sl c.1:=hl (.tmp c.1) (by rw [ho];simp [Op.operands,Call.operands]) 0
   have h4:=Zi9 (tt:=tt) (hs:=S.hd) hd
   rcases hob with h0 | h0 | ⟨_,⟨h0,_⟩ | ⟨h0,_⟩⟩
   ·omega
   ·rw [hev,hsl]
    constructor
    ·rintro ⟨fc,f1,f2,f3⟩;exact ⟨fc,f1,f2,(Zkz h0).1 f3⟩
    ·rintro ⟨fc,f1,f2,f3⟩;exact ⟨fc,f1,f2,(Zkz h0).2 f3⟩
   ·omega
   ·omega
theorem ZoQ [NW] {ops:Array Oper} {o:Oper} {v:SV} {u:List (Nat × Ob)} (hl:∀s∈o.looksAt ops,st.sl s=st'.sl s)
  (hob:cls tt S.hd o.op=0∨st.ob=st'.ob∨(∀t x,svU U (st.ev tt t x))∧((cls tt S.hd o.op≤3∧∀k,U k→st.ob k=st'.ob k)∨(cls tt S.hd o.op≤1∧Wk st st' U))):opR tt S ops.toList key o st v u↔opR tt S ops.toList key o st' v u:=by
 have hl':∀x∈o.op.operands,∀t,st.ev tt t x=st'.ev tt t x:=fun x m t=>by
  cases x with
  | tmp s=>exact hl s (by
    unfold Oper.looksAt
    refine List.mem_append.2 (.inl (List.mem_filterMap.2 ⟨.tmp s,by simpa using m,rfl⟩)))
  | _=>rfl
 have h1:=Zq0 (S:=S) (key:=key) (v:=v) (u:=u) hl' hob
 unfold opR
 cases hg:Zbk ops.toList o with
 | none=>exact h1
 | some q=>
  obtain ⟨q,want⟩:=q
  cases q with
  | none=>rfl
  | some t=>
   have ht:st.sl t=st'.sl t:=hl t (by
    unfold Zbk at hg
    split at hg
    ·simp at hg
    ·rename_i g hgd
     simp only [Option.some.injEq,Prod.mk.injEq] at hg
     unfold Oper.looksAt
     refine List.mem_append.2 (.inr ?_)
     rw [hgd]
     have:(ops[g.1]?).bind (·.dst)=some t:=by simpa using hg.1
     simp [this])
   simp only [gK,ht,h1]
theorem ZzX [NW] (hU:StU U st) (t:Nat) (x:Operand):svU U (st.ev tt t x):=by
 cases x with
 | tmp s=>exact hU.sl s
 | const v=>
  show svU U (cvT (tt t) v)
  unfold cvT
  split
  ·exact Xt _
  ·exact Xt _
  ·split
   ·exact Xt _
   ·trivial
  ·split
   ·intro y m;simp at m;subst m;trivial
   ·trivial
  ·trivial
 | global _=>trivial
 | func _=>trivial
theorem Qo [NW]:∀{u:List (Nat × Ob)} {ob:Nat→Ob} {k:Nat},(∀p∈u,p.1≠k)→Zk ob u k=ob k
 | [],_,_,_=>rfl
 | p::r,ob,k,h=>by
  rw [Zk,Qo fun q m=>h q (by simp [m])]
  exact ZI _ _ fun e=>h p (by simp) e.symm
theorem ZiJ [NW]:∀{u:List (Nat × Ob)} {ob ob':Nat→Ob} {k:Nat},(∃p∈u,p.1=k)→Zk ob u k=Zk ob' u k
 | [],_,_,_,h=>by simp at h
 | p::r,ob,ob',k,h=>by
  rw [Zk,Zk]
  by_cases hr:∃q∈r,q.1=k
  ·exact ZiJ hr
  ·have hn:∀q∈r,q.1≠k:=fun q m e=>hr ⟨q,m,e⟩
   rw [Qo hn,Qo hn]
   obtain ⟨q,mq,e⟩:=h
   rcases List.mem_cons.1 mq with rfl | mq
   ·rw [←e,Zw,Zw]
   ·exact absurd e (hn q mq)
theorem Zfv [NW] {u1 u2:List (Nat × Ob)} {ob:Nat→Ob} (h:∀p∈u1,∀q∈u2,p.1≠q.1):Zk (Zk ob u1) u2=Zk (Zk ob u2) u1:=by
 funext k
 by_cases h1:∃p∈u1,p.1=k
 ·obtain ⟨p,mp,rfl⟩:=h1
  rw [Qo fun q mq e=>h p mp q mq e.symm]
  exact ZiJ ⟨p,mp,rfl⟩
 ·have hn:∀q∈u1,q.1≠k:=fun q m e=>h1 ⟨q,m,e⟩
  rw [Qo (ob:=Zk ob u2) hn]
  by_cases h2:∃p∈u2,p.1=k
  ·exact ZiJ h2
  ·have hn2:∀q∈u2,q.1≠k:=fun q m e=>h2 ⟨q,m,e⟩
   rw [Qo hn2,Qo hn2,Qo hn]
theorem ZoD [NW] (st:St) (d:Option Nat) (v:SV) (s:Nat) (h:∀t,d=some t→s≠t):(st.put d v).sl s=st.sl s:=by
 cases d with
 | none=>rfl
 | some t=>exact ZI _ _ (h t rfl)
theorem ZiO (st:St) (d:Option Nat) (v:SV):(st.put d v).ob=st.ob:=by cases d<;>rfl
theorem Zqw (st:St) (d:Option Nat) (v:SV):(st.put d v).n=st.n:=by cases d<;>rfl
theorem Zrk (st:St) (d e:Option Nat) (v u:SV) (h:∀t,d=some t→e≠some t):((st.put d v).put e u).sl=((st.put e u).put d v).sl:=by
 cases d with
 | none=>rfl
 | some t=>cases e with
  | none=>rfl
  | some s=>
   have hne:t≠s:=fun e=>h t rfl (e ▸ rfl)
   funext k
   show upd (upd st.sl t v) s u k=upd (upd st.sl s u) t v k
   unfold upd
   by_cases h1:k=s
   ·by_cases h2:k=t
    ·exact absurd (h2.symm.trans h1) hne
    ·have hst:¬s=t:=fun e=>hne e.symm
     simp [h1,hst]
   ·simp [h1]
def Zmr (tt:Nat→Option TI) (hs:FuncId→Nat) (x y:Op):Bool:=cls tt hs x==0||cls tt hs y==0||(Nat.ble (cls tt hs x) 2&&Nat.ble (cls tt hs y) 2)||(Nat.ble (cls tt hs x) 1&&Nat.ble (cls tt hs y) 3)||(Nat.ble (cls tt hs x) 3&&Nat.ble (cls tt hs y) 1)
theorem comm [NW] {ops:Array Oper} {oi oj:Oper} {ki kj:Nat} {vi vj:SV} {ui uj:List (Nat × Ob)} (hap:oi.apart ops oj=true) (hc:Zmr tt S.hd oi.op oj.op=true) (hU:StU U st) (hki:∀k,ki≤k→k<ki+16→¬U k) (hkj:∀k,kj≤k→k<kj+16→¬U k) (hdis:ki+16≤kj∨kj+16≤ki)
  (h:opR tt S ops.toList ki oi st vi ui) (h':opR tt S ops.toList kj oj ((st.put oi.dst vi).app ui) vj uj):
  opR tt S ops.toList kj oj st vj uj∧opR tt S ops.toList ki oi ((st.put oj.dst vj).app uj) vi ui∧((((st.put oi.dst vi).app ui).put oj.dst vj).app uj)=((((st.put oj.dst vj).app uj).put oi.dst vi).app ui):=by
 obtain ⟨a1,a2,a3⟩:=Oper.apart_spec hap
 have hev:∀t x,svU U (st.ev tt t x):=fun t x=>ZzX hU t x
 obtain ⟨i1,i2,i3⟩:=Zpg (U:=U) hev h
 have hcl:cls tt S.hd oi.op=0∨cls tt S.hd oj.op=0∨(cls tt S.hd oi.op≤2∧cls tt S.hd oj.op≤2)∨(cls tt S.hd oi.op≤1∧cls tt S.hd oj.op≤3)∨(cls tt S.hd oi.op≤3∧cls tt S.hd oj.op≤1):=by
  unfold Zmr at hc
  simp only [Bool.or_eq_true,beq_iff_eq,Bool.and_eq_true] at hc
  rcases hc with (((hc | hc) | hc) | hc) | hc
  ·exact .inl hc
  ·exact .inr (.inl hc)
  ·exact .inr (.inr (.inl ⟨Nat.le_of_ble_eq_true hc.1,Nat.le_of_ble_eq_true hc.2⟩))
  ·exact .inr (.inr (.inr (.inl ⟨Nat.le_of_ble_eq_true hc.1,Nat.le_of_ble_eq_true hc.2⟩)))
  ·exact .inr (.inr (.inr (.inr ⟨Nat.le_of_ble_eq_true hc.1,Nat.le_of_ble_eq_true hc.2⟩)))
 have agree:∀{u:List (Nat × Ob)} {q:Nat},(∀p∈u,q≤p.1∧p.1<q+16)→(∀k,q≤k→k<q+16→¬U k)→∀k,U k→st.ob k=Zk st.ob u k:=fun hu hq k hk=>(Qo fun p mp e=>hq p.1 (hu p mp).1 (hu p mp).2 (e ▸ hk)).symm
 have weak:∀{u:List (Nat × Ob)} {q:Nat},(∀p∈u,(q≤p.1∧p.1<q+16)∨(U p.1∧p.2=Ym (st.ob p.1)))→(∀k,q≤k→k<q+16→¬U k)→∀k,U k→Zk st.ob u k=st.ob k∨Zk st.ob u k=Ym (st.ob k):=fun {u q} hu hq k hk=>by
  have gen:∀(u:List (Nat × Ob)) (ob:Nat→Ob),(∀p∈u,(q≤p.1∧p.1<q+16)∨(U p.1∧p.2=Ym (st.ob p.1)))→(ob k=st.ob k∨ob k=Ym (st.ob k))→(Zk ob u k=st.ob k∨Zk ob u k=Ym (st.ob k)):=by
   intro u
   induction u with
   | nil=>intro ob _ h;exact h
   | cons p u ih=>
    intro ob hp h
    refine ih _ (fun x mx=>hp x (by simp [mx])) ?_
    by_cases hpk:k=p.1
    ·rcases hp p (by simp) with h1 | h1
     ·exact absurd (hpk ▸ hk) (hq p.1 h1.1 h1.2)
     ·right;rw [hpk,Zw];exact h1.2
    ·rw [ZI _ _ hpk];exact h
  exact gen u st.ob hu (.inl rfl)
 have hA:opR tt S ops.toList kj oj st vj uj:=by
  refine (ZoQ (U:=U) (st:=st) (st':=(st.put oi.dst vi).app ui) (fun s ms=>(ZoD st oi.dst vi s fun t ht e=>a1 t ht (e ▸ ms)).symm) ?_).2 h'
  show cls tt S.hd oj.op=0∨st.ob=Zk (st.put oi.dst vi).ob ui∨_∧((cls tt S.hd oj.op≤3∧∀k,U k→st.ob k=Zk (st.put oi.dst vi).ob ui k)∨(cls tt S.hd oj.op≤1∧∀k,U k→Zk (st.put oi.dst vi).ob ui k=st.ob k∨Zk (st.put oi.dst vi).ob ui k=Ym (st.ob k)))
  rw [ZiO]
  rcases hcl with hcl | hcl | ⟨c1,c2⟩ | ⟨c1,c2⟩ | ⟨c1,c2⟩
  ·right;left;rw [i1 hcl];rfl
  ·left;exact hcl
  ·right;right;exact ⟨hev,.inl ⟨by omega,agree (i2 c1) hki⟩⟩
  ·right;right;exact ⟨hev,.inl ⟨c2,agree (i2 (by omega)) hki⟩⟩
  ·right;right;exact ⟨hev,.inr ⟨c2,weak (i3 c1) hki⟩⟩
 obtain ⟨j1',j2',j3'⟩:=Zpg (U:=U) hev hA
 refine ⟨hA,?_,?_⟩
 ·refine (ZoQ (U:=U) (st:=st) (st':=(st.put oj.dst vj).app uj) (fun s ms=>(ZoD st oj.dst vj s fun t ht e=>a3 t ht (e ▸ ms)).symm) ?_).1 h
  show cls tt S.hd oi.op=0∨st.ob=Zk (st.put oj.dst vj).ob uj∨_∧((cls tt S.hd oi.op≤3∧∀k,U k→st.ob k=Zk (st.put oj.dst vj).ob uj k)∨(cls tt S.hd oi.op≤1∧∀k,U k→Zk (st.put oj.dst vj).ob uj k=st.ob k∨Zk (st.put oj.dst vj).ob uj k=Ym (st.ob k)))
  rw [ZiO]
  rcases hcl with hcl | hcl | ⟨c1,c2⟩ | ⟨c1,c2⟩ | ⟨c1,c2⟩
  ·left;exact hcl
  ·right;left;rw [j1' hcl];rfl
  ·right;right;exact ⟨hev,.inl ⟨by omega,agree (j2' c2) hkj⟩⟩
  ·right;right;exact ⟨hev,.inr ⟨c1,weak (j3' c2) hkj⟩⟩
  ·right;right;exact ⟨hev,.inl ⟨c1,agree (j2' (by omega)) hkj⟩⟩
 ·have hsl:((((st.put oi.dst vi).app ui).put oj.dst vj).app uj).sl=((((st.put oj.dst vj).app uj).put oi.dst vi).app ui).sl:=by
   have e1:∀(s:St) (u:List (Nat × Ob)) (d:Option Nat) (v:SV),((s.app u).put d v).sl=(s.put d v).sl:=fun s u d v=>by cases d<;>rfl
   show (((st.put oi.dst vi).app ui).put oj.dst vj).sl=(((st.put oj.dst vj).app uj).put oi.dst vi).sl
   rw [e1,e1]
   exact Zrk st _ _ _ _ fun t ht=>a2 t ht
  have hobs:((((st.put oi.dst vi).app ui).put oj.dst vj).app uj).ob=((((st.put oj.dst vj).app uj).put oi.dst vi).app ui).ob:=by
   show Zk (((st.put oi.dst vi).app ui).put oj.dst vj).ob uj=Zk (((st.put oj.dst vj).app uj).put oi.dst vi).ob ui
   rw [ZiO,ZiO]
   show Zk (Zk (st.put oi.dst vi).ob ui) uj=Zk (Zk (st.put oj.dst vj).ob uj) ui
   rw [ZiO,ZiO]
   rcases hcl with hcl | hcl | ⟨c1,c2⟩ | ⟨c1,c2⟩ | ⟨c1,c2⟩
   ·rw [i1 hcl];rfl
   ·rw [j1' hcl];rfl
   ·refine Zfv fun p mp q mq e=>?_
    have:=i2 c1 p mp
    have:=j2' c2 q mq
    omega
   ·refine Zfv fun p mp q mq e=>?_
    have h1:=i2 (by omega) p mp
    rcases j3' c2 q mq with h2 | h2
    ·omega
    ·exact hki p.1 h1.1 h1.2 (e ▸ h2.1)
   ·refine Zfv fun p mp q mq e=>?_
    have h1:=j2' (by omega) q mq
    rcases i3 c1 p mp with h2 | h2
    ·omega
    ·exact hkj q.1 h1.1 h1.2 (e ▸ h2.1)
  have hn:((((st.put oi.dst vi).app ui).put oj.dst vj).app uj).n=((((st.put oj.dst vj).app uj).put oi.dst vi).app ui).n:=by
   show (((st.put oi.dst vi).app ui).put oj.dst vj).n=(((st.put oj.dst vj).app uj).put oi.dst vi).n
   rw [Zqw,Zqw]
   show (st.put oi.dst vi).n=(st.put oj.dst vj).n
   rw [Zqw,Zqw]
  generalize ((((st.put oi.dst vi).app ui).put oj.dst vj).app uj)=s1 at hsl hobs hn ⊢
  generalize ((((st.put oj.dst vj).app uj).put oi.dst vi).app ui)=s2 at hsl hobs hn ⊢
  cases s1;cases s2
  simp only at hsl hobs hn
  subst hsl hobs hn
  rfl
end
end Go.Proofs.YtojnhepgnbhaaaaGreatDoor
namespace Go.Proofs.YtojnhepgnbhaaaaGreatDoor
open Go.RowKit
section
variable {P:Program} {J:World→Prop} {JF:Nat→Prop} {W:Q8} {U:Nat→Prop} {key:Nat} {st st':St} {w w':World} {a:Act} {tt:Nat→Option TI} {hds:FuncId→Nat} {Q:Exit→Act→World→Prop}
def Zr3 [NW] (W:Q8) (N:Nat) (U:Nat→Prop) (st:St):Prop:=∃a w,Inv W U st a w∧a.tmps.size=N
theorem ZrY [NW] (htt:MOk P J JF W tt) {N:Nat} {all:List Oper} {o:Oper} {v:SV} {u:List (Nat × Ob)} (h:opR tt (SC P J JF hds) all key o st v u) (hR:Zr3 W N U st) (hkey:∀k,key≤k→k<key+16→¬U k) (hd:∀t,o.dst=some t→t<N∧(W.hv=none∨t≠0)):
  Zr3 W N (Uk U key) ((st.put o.dst v).app u):=by
 obtain ⟨a,w,hI,hN⟩:=hR
 have hd':∀t,o.dst=some t→t<a.tmps.size∧(W.hv=none∨t≠0):=fun t ht=>hN ▸ hd t ht
 have und:v=.und∧u=[]→Zr3 W N (Uk U key) ((st.put o.dst v).app u):=fun ⟨e1,e2⟩=>by
  subst e1 e2
  exact ⟨_,w,Zqt hI _ hd',by rw [Zb2];exact hN⟩
 have run:ZhN tt (SC P J JF hds) key o st v u→Zr3 W N (Uk U key) ((st.put o.dst v).app u):=fun h=>by
  obtain ⟨⟨g,hH,hS⟩,hU,hdef,hh⟩:=hI
  have evals:∀(ts:List TypeId) (args:List Operand),ZH (SVR g w) (evs tt st ts args) (args.map a.eval)∧∀x∈evs tt st ts args,svU U x:=fun ts args=>by
   have he:args.map a.eval=(ZhK ts args).map fun p=>a.eval p.2:=by
    have:=congrArg (List.map a.eval) (Zet ts args)
    rw [←this,List.map_map];rfl
   refine ⟨?_,fun x mx=>?_⟩
   ·rw [he]
    exact ZH.of_map _ _ fun p _=>(Zjj htt.tt hS hU p.1 p.2).1
   ·obtain ⟨p,_,rfl⟩:=List.mem_map.1 mx
    exact (Zjj htt.tt hS hU p.1 p.2).2
  cases hc:Qw o.op with
  | some c=>
   simp only [ZhN,hc] at h
   obtain ⟨_,hcall⟩:=ZfU htt h hH hU hkey (evals c.2.1 c.2.2).1 (evals c.2.1 c.2.2).2
   obtain ⟨e,w',fr,⟨rv,_,g',t1,t2,t3,t4,t5,t6⟩,_⟩:=hcall []
   exact ⟨_,_,ZeJ hS hU hdef hh hd' t1 t2 t3 t4 t5 t6,by rw [Zb2];exact hN⟩
  | none=>
   simp only [ZhN,hc] at h
   cases hd2:Xr o.op with
   | some c=>
    rw [hd2] at h
    simp only at h
    obtain ⟨fc,h1,_,h⟩:=h
    obtain ⟨cs,_,hcs⟩:=Zn4 h1 (hS c.1)
    obtain ⟨_,hcall⟩:=ZfU htt h hH hU hkey ((evals c.2.1 c.2.2).1.append hcs) (fun x mx=>by
     rcases List.mem_append.1 mx with m | m
     ·exact (evals c.2.1 c.2.2).2 x m
     ·obtain ⟨c,_,rfl⟩:=List.mem_map.1 m
      exact Xt _)
    obtain ⟨e,w',fr,⟨rv,_,g',t1,t2,t3,t4,t5,t6⟩,_⟩:=hcall []
    exact ⟨_,_,ZeJ hS hU hdef hh hd' t1 t2 t3 t4 t5 t6,by rw [Zb2];exact hN⟩
   | none=>
    rw [hd2] at h
    simp only at h
    obtain ⟨g',cv,w',_,t1,t2,t3,t4,t5,t6⟩:=Zms (P:=P) (W:=W) (a:=a) htt.tt o h hH hS hU (hkey key (Nat.le_refl _) (by omega))
    exact ⟨_,_,ZeJ hS hU hdef hh hd' t1 t2 t3 t4 t5 t6,by rw [Zb2];exact hN⟩
 unfold opR at h
 split at h
 ·exact run h
 ·exact und h
 ·unfold gK at h
  split at h
  ·split at h
   ·exact run h
   ·exact und h
  ·split at h
   ·exact und h
   ·exact h.elim
def Znr (tt:Nat→Option TI) (S:Ctx) (all:List Oper) (base:Nat):List Nat→(St→Prop)→St→Prop
 | [],K,st=>K st
 | i::r,K,st=>match all[i]? with
  | some o=>opG tt S all (base+16 * i) o (Znr tt S all base r K) st
  | none=>Znr tt S all base r K st
theorem Zga {S:Ctx} {all:List Oper} {base i:Nat} {r:List Nat} {K:St→Prop} {o:Oper} (ho:all[i]?=some o):Znr tt S all base (i::r) K st=opG tt S all (base+16 * i) o (Znr tt S all base r K) st:=by simp only [Znr,ho]
theorem ZqV [NW] {S:Ctx} {all:List Oper} {base:Nat} {K:St→Prop}:∀(r:List Oper) (i:Nat) (st:St),all.drop i=r→Z3 tt S all (base+16 * i) r K st→Znr tt S all base (List.range' i r.length) K st
 | [],_,_,_,h=>h
 | o::r,i,st,hr,h=>by
  have hi:all[i]?=some o:=by
   have:=congrArg (fun l=>l[0]?) hr
   simpa using this
  have hr':all.drop (i+1)=r:=by
   have:=congrArg List.tail hr
   simpa using this
  rw [List.length_cons,List.range'_succ,Zga hi]
  obtain ⟨v,u,h1,h2⟩:=Zgg.1 h
  refine Zgg.2 ⟨v,u,h1,ZqV r (i+1) _ hr' ?_⟩
  rw [show base+16 * (i+1)=base+16 * i+16 by omega]
  exact h2
theorem Zuy [NW] (htt:MOk P J JF W tt) {ops:Array Oper} {N base i:Nat} {o:Oper} (ho:ops.toList[i]?=some o) (hN:∀o∈ops.toList,∀t,o.dst=some t→t<N∧(W.hv=none∨t≠0)) {K:St→Prop} {R2:List Nat}:∀(R1:List Nat) (U:Nat→Prop) (st:St),(R1++i::R2).Nodup→
  (∀j∈R1,∃oj,ops.toList[j]?=some oj∧oj.apart ops o=true∧Zmr tt hds oj.op o.op=true)→(∀j∈R1++i::R2,∀k,base+16 * j≤k→k<base+16 * j+16→¬U k)→Zr3 W N U st→
  Znr tt (SC P J JF hds) ops.toList base (R1++i::R2) K st→opG tt (SC P J JF hds) ops.toList (base+16 * i) o (Znr tt (SC P J JF hds) ops.toList base (R1++R2) K) st
 | [],U,st,_,_,_,_,h=>by rw [List.nil_append,Zga ho] at h;exact h
 | j::R1,U,st,hnd,hcomp,hk,hR,h=>by
  obtain ⟨oj,hj,hap,hcl⟩:=hcomp j (by simp)
  rw [List.cons_append,Zga hj] at h
  obtain ⟨vj,uj,h1,h2⟩:=Zgg.1 h
  have hkj:=hk j (by simp)
  have hki:=hk i (by simp)
  rw [List.cons_append,List.nodup_cons] at hnd
  have hij:i≠j:=fun e=>hnd.1 (by simp [e])
  have hR1:=ZrY htt h1 hR hkj (hN oj (List.mem_of_getElem? hj))
  have h3:=Zuy htt ho hN R1 (Uk U (base+16 * j)) _ hnd.2 (fun q mq=>hcomp q (by simp [mq])) (fun q mq k a b hU=>by
   rcases hU with hU | ⟨c,d⟩
   ·exact hk q (by simp;simp at mq;exact .inr mq) k a b hU
   ·have:q=j:=by omega
    subst this
    exact hnd.1 mq) hR1 h2
  obtain ⟨vi,ui,h4,h5⟩:=Zgg.1 h3
  obtain ⟨_,_,hIn,_⟩:=hR
  obtain ⟨c1,c2,c3⟩:=comm hap hcl hIn.wf hkj hki (by omega) h1 h4
  refine Zgg.2 ⟨vi,ui,c1,?_⟩
  rw [List.cons_append,Zga hj]
  exact Zgg.2 ⟨vj,uj,c2,c3 ▸ h5⟩
def anc (ops:Array Oper):Nat→Nat→List Nat
 | 0,_=>[]
 | n+1,j=>match ops[j]? with
  | some o=>(o.after.toList.filter (Region.binds .any)).flatMap fun e=>e.on::anc ops n e.on
  | none=>[]
def ZpS (tt:Nat→Option TI) (hds:FuncId→Nat) (ops:Array Oper):Bool:=
 (List.range ops.size).all fun j=>match ops[j]? with
  | some oj=>(oj.after.toList.all fun e=>!Region.binds .any e||Nat.blt e.on j)&&
   (List.range j).all fun i=>(anc ops ops.size j).contains i||match ops[i]? with
    | some oi=>oi.apart ops oj&&Zmr tt hds oi.op oj.op
    | none=>true
  | none=>true
theorem Zk9 {ops:Array Oper} {listed:Array Bool} (hcl:∀i o,ops[i]?=some o→listed.getD i false=true→∀e∈o.after,Region.binds .any e=true→listed.getD e.on false=true):
  ∀(n j:Nat) (o:Oper),ops[j]?=some o→(∀e∈o.after,Region.binds .any e=true→listed.getD e.on false=true)→∀i∈anc ops n j,listed.getD i false=true
 | 0,j,o,_,_,i,mi=>by simp [anc] at mi
 | n+1,j,o,ho,he,i,mi=>by
  simp only [anc,ho,List.mem_flatMap,List.mem_filter] at mi
  obtain ⟨e,⟨me,hb⟩,mi⟩:=mi
  have hl:=he e (by simpa using me) hb
  rcases List.mem_cons.1 mi with rfl | mi
  ·exact hl
  ·cases ho':ops[e.on]? with
   | none=>cases n<;>simp [anc,ho'] at mi
   | some o'=>exact Zk9 hcl n e.on o' ho' (fun e' me' hb'=>hcl e.on o' ho' hl e' me' hb') i mi
theorem ZrQ [NW] (htt:MOk P J JF W tt) {ops:Array Oper} {N base:Nat} (hN:∀o∈ops.toList,∀t,o.dst=some t→t<N∧(W.hv=none∨t≠0)) (hok:ZpS tt hds ops=true) {K:St→Prop}
  (hQ:∀U' st' a' w',Inv W U' st' a' w'→(∀k,base+16 * ops.size≤k→¬U' k)→a'.tmps.size=N→K st'→Q .normal a' w'):
  ∀(fuel:Nat) (R:List Nat) (listed:Array Bool) (U:Nat→Prop) (st:St) (a:Act) (w:World),R.length≤fuel→R.Pairwise (·<·)→listed.size=ops.size→(∀i,i∈R↔(i<ops.size∧listed.getD i true=false))→
   (∀i o,ops[i]?=some o→listed.getD i false=true→∀e∈o.after,Region.binds .any e=true→listed.getD e.on false=true)→
   Znr tt (SC P J JF hds) ops.toList base R K st→Inv W U st a w→(∀j∈R,∀k,base+16 * j≤k→k<base+16 * j+16→¬U k)→(∀k,base+16 * ops.size≤k→¬U k)→a.tmps.size=N→wpAny P .any ops Q fuel listed a w:=by
 have hall:∀j oj,ops[j]?=some oj→(∀e∈oj.after,Region.binds .any e=true→e.on<j)∧∀i oi,i<j→ops[i]?=some oi→i∉anc ops ops.size j→oi.apart ops oj=true∧Zmr tt hds oi.op oj.op=true:=fun j oj hj=>by
  have hjn:j<ops.size:=(Array.getElem?_eq_some_iff.1 hj).1
  have h1:=List.all_eq_true.1 hok j (by simpa using hjn)
  simp only [hj,Bool.and_eq_true,List.all_eq_true] at h1
  refine ⟨fun e me hb=>?_,fun i oi hij hi hn=>?_⟩
  ·have:=h1.1 e (by simpa using me)
   simp only [hb,Bool.not_true,Bool.false_or] at this
   exact Nat.le_of_ble_eq_true this
  ·have:=h1.2 i (by simpa using hij)
   simp only [hi,Bool.or_eq_true,Bool.and_eq_true] at this
   rcases this with this | this
   ·exact absurd (by simpa using this) hn
   ·exact this
 intro fuel
 induction fuel with
 | zero=>
  intro R listed U st a w hlen _ hsz hmem _ h hI _ hU hs
  have hR:R=[]:=List.eq_nil_of_length_eq_zero (by omega)
  subst hR
  refine ⟨?_,hQ U st a w hI hU hs h⟩
  rw [List.eq_nil_iff_forall_not_mem]
  intro i mi
  obtain ⟨h1,o,h2,_⟩:=mem_ready.1 mi
  exact absurd ((hmem i).2 ⟨(Array.getElem?_eq_some_iff.1 h2).1,h1⟩) (by simp)
 | succ fuel ih=>
  intro R listed U st a w hlen hso hsz hmem hcl h hI hk hU hs
  refine ⟨fun hr=>?_,fun i mi=>?_⟩
  ·cases R with
   | nil=>exact hQ U st a w hI hU hs h
   | cons r0 R=>
    exfalso
    obtain ⟨m1,m2⟩:=(hmem r0).1 (by simp)
    have:r0∈Region.ready .any ops listed:=mem_ready.2 ⟨m2,ops[r0],by simp [m1],fun e me hb=>by
     have hlt:=(hall r0 ops[r0] (by simp [m1])).1 e me hb
     by_cases hl:listed.getD e.on true=false
     ·have mR:=(hmem e.on).2 ⟨by omega,hl⟩
      rcases List.mem_cons.1 mR with e1 | mR
      ·omega
      ·have:=(List.pairwise_cons.1 hso).1 _ mR;omega
     ·have hlt2:e.on<listed.size:=by omega
      simp only [Array.getD_eq_getD_getElem?,hlt2,getElem?_pos,Option.getD_some,Bool.not_eq_false] at hl ⊢
      exact hl⟩
    rw [hr] at this
    simp at this
  ·obtain ⟨i1,o,i2,i3⟩:=mem_ready.1 mi
   have hin:i<ops.size:=(Array.getElem?_eq_some_iff.1 i2).1
   have miR:i∈R:=(hmem i).2 ⟨hin,i1⟩
   obtain ⟨R1,R2,rfl⟩:=List.append_of_mem miR
   have hnd:(R1++i::R2).Nodup:=hso.imp fun h=>Nat.ne_of_lt h
   have ho:ops.toList[i]?=some o:=by simpa using i2
   have hanc:=Zk9 hcl ops.size i o i2 i3
   have hcomp:∀j∈R1,∃oj,ops.toList[j]?=some oj∧oj.apart ops o=true∧Zmr tt hds oj.op o.op=true:=fun j mj=>by
    obtain ⟨j1,j2⟩:=(hmem j).1 (by simp [mj])
    have hji:j<i:=(List.pairwise_append.1 hso).2.2 j mj i (by simp)
    have hj:ops[j]?=some ops[j]:=by simp [j1]
    refine ⟨ops[j],by simp [j1],(hall i o i2).2 j _ hji hj fun ma=>?_⟩
    have:=hanc j ma
    have hlt:j<listed.size:=by omega
    simp only [Array.getD_eq_getD_getElem?,hlt,getElem?_pos,Option.getD_some] at this j2
    rw [this] at j2;simp at j2
   have hfr:=Zuy htt ho hN R1 U st hnd hcomp hk ⟨a,w,hI,hs⟩ h
   refine wpOp_mono ?_ (Zmk htt i2 hfr hI (hk i (by simp)) (fun t ht=>by rw [hs];exact hN o (List.mem_of_getElem? ho) t ht))
   rintro a' w' ⟨st',hI',hs',hK'⟩
   have hset:∀q,(listed.setIfInBounds i true).getD q true=if q=i then true else listed.getD q true:=fun q=>by
    by_cases e:q=i
    ·subst e;simp [Array.getD_eq_getD_getElem?,Array.getElem?_setIfInBounds,hsz,hin]
    ·simp [Array.getD_eq_getD_getElem?,Array.getElem?_setIfInBounds_ne (fun e':i=q=>e e'.symm),e]
   have hset':∀q,(listed.setIfInBounds i true).getD q false=if q=i then true else listed.getD q false:=fun q=>by
    by_cases e:q=i
    ·subst e;simp [Array.getD_eq_getD_getElem?,Array.getElem?_setIfInBounds,hsz,hin]
    ·simp [Array.getD_eq_getD_getElem?,Array.getElem?_setIfInBounds_ne (fun e':i=q=>e e'.symm),e]
   have hnotin:i∉R1++R2:=by
    rw [List.nodup_append] at hnd
    intro m
    rcases List.mem_append.1 m with m | m
    ·exact hnd.2.2 i m i (by simp) rfl
    ·exact (List.nodup_cons.1 hnd.2.1).1 m
   refine ih (R1++R2) _ (Uk U (base+16 * i)) st' a' w' (by simp at hlen ⊢;omega) (hso.sublist (List.Sublist.append (List.Sublist.refl _) (List.sublist_cons_self i R2))) (by simp [hsz]) (fun q=>?_) (fun q oq hq hl e me hb=>?_) hK' hI' (fun q mq k c d hU'=>?_) (fun k hk' hU'=>?_) (by omega)
   ·rw [hset q]
    by_cases e:q=i
    ·subst e;simp only [if_true,Bool.true_eq_false,and_false,iff_false];exact hnotin
    ·rw [if_neg e,←hmem q];simp [e]
   ·rw [hset'] at hl ⊢
    by_cases e1:e.on=i
    ·simp [e1]
    ·rw [if_neg e1]
     by_cases e2:q=i
     ·subst e2
      rw [i2] at hq
      simp only [Option.some.injEq] at hq
      subst hq
      exact i3 e me hb
     ·rw [if_neg e2] at hl
      exact hcl q oq hq hl e me hb
   ·have mq':q∈R1++i::R2:=by simp at mq ⊢;rcases mq with mq | mq<;>simp [mq]
    rcases hU' with hU' | ⟨c',d'⟩
    ·exact hk q mq' k c d hU'
    ·have:q=i:=by omega
     subst this
     exact hnotin mq
   ·rcases hU' with hU' | ⟨c',d'⟩
    ·exact hU k hk' hU'
    ·omega
end
end Go.Proofs.YtojnhepgnbhaaaaGreatDoor
namespace Go.Proofs.YtojnhepgnbhaaaaGreatDoor
open Go.RowKit
theorem ZqB:∀{ρ:List Nat} {k i j:Nat},ZnN ρ k i=some j→i≤j∧ρ[j - i]?=some k
 | [],_,_,_,h=>by simp [ZnN] at h
 | x::r,k,i,j,h=>by
  simp only [ZnN] at h
  split at h
  ·rename_i e
   simp only [Option.some.injEq] at h
   subst h e
   exact ⟨Nat.le_refl _,by simp⟩
  ·obtain ⟨h1,h2⟩:=ZqB h
   refine ⟨by omega,?_⟩
   rw [show j - i=(j - (i+1))+1 by omega]
   simpa using h2
theorem Zcv [NW] {ρ:List Nat} {k j:Nat} (h:ZnN ρ k 0=some j):ρ[j]?=some k:=by simpa using (ZqB h).2
theorem ZmR {α:Type}:∀{l:List α},l.Nodup→∀{i j:Nat} (hi:i<l.length) (hj:j<l.length),l[i]=l[j]→i=j
 | [],_,_,_,hi,_,_=>by simp at hi
 | x::l,h,0,0,_,_,_=>rfl
 | x::l,h,0,j+1,_,hj,e=>by
  rw [List.nodup_cons] at h
  exact absurd (by simp at e;rw [e];exact List.getElem_mem _) h.1
 | x::l,h,i+1,0,hi,_,e=>by
  rw [List.nodup_cons] at h
  exact absurd (by simp at e;rw [←e];exact List.getElem_mem _) h.1
 | x::l,h,i+1,j+1,hi,hj,e=>by
  rw [List.nodup_cons] at h
  have:=ZmR h.2 (i:=i) (j:=j) (by simpa using hi) (by simpa using hj) (by simpa using e)
  omega
section
variable {P:Program} {J:World→Prop} {JF:Nat→Prop} {W:Q8} {U:Nat→Prop} {st st':St} {w w':World} {a:Act} {tt:Nat→Option TI} {S:Ctx}
theorem Zwz [NW] {g g':Gh} {ρ:List Nat} (hv:∀j k,ρ[j]?=some k→g'.val j=g.val k) (ho:Xs g' g) {x:AV} {v:Value} (h:AVR g w x v):AVR g' w (rAV ρ x) v:=by
 cases x with
 | c x=>obtain ⟨L,h1,h2⟩:=h;exact ⟨L,h1,fun b m o=>h2 b m (ho.own b o)⟩
 | n x=>exact NR.move h (fun _ _ _=>rfl) (ho.grow _)
 | row k=>
  simp only [rAV]
  split
  ·rename_i j hj
   exact ⟨by rw [hv j k (Zcv hj)];exact h.1,h.2⟩
  ·exact h.2
 | nil e m=>exact h
 | dead=>exact h
theorem ZH.map_left {α β γ:Type} {R:α→γ→Prop} {R':β→γ→Prop} (f:α→β) (h:∀a c,R a c→R' (f a) c):∀{l:List α} {r:List γ},ZH R l r→ZH R' (l.map f) r
 | [],[],_=>trivial
 | _::_,_::_,hh=>⟨h _ _ hh.1,hh.2.map_left f h⟩
 | [],_::_,h=>h.elim
 | _::_,[],h=>h.elim
theorem ZsJ [NW] (ρ:List Nat) (x:AV):avU (fun j=>j<ρ.length) (rAV ρ x):=by
 cases x with
 | row k=>
  simp only [rAV]
  split
  ·rename_i j hj
   exact (List.getElem?_eq_some_iff.1 (Zcv hj)).1
  ·trivial
 | _=>trivial
theorem ZqD [NW] (hI:Inv W U st a w) {ρ:List Nat} (hρ:ρ.Nodup):Inv W (fun j=>j<ρ.length) (st.ren ρ) a w:=by
 obtain ⟨⟨g,hH,hS⟩,hU,hdef,hh⟩:=hI
 let g':Gh:=⟨fun j=>match ρ[j]? with | some k=>g.val k | none=>undef,fun j=>match ρ[j]? with | some k=>g.O k | none=>[],fun j=>match ρ[j]? with | some k=>g.D k | none=>[],g.Z⟩
 have gs:∀j k,ρ[j]?=some k→g'.val j=g.val k∧g'.O j=g.O k∧g'.D j=g.D k:=fun j k h=>by simp [g',h]
 have gn:∀j,ρ[j]?=none→g'.O j=[]∧g'.D j=[]:=fun j h=>by simp [g',h]
 have ho:∀b,g'.own b→g.own b:=fun b hb=>by
  rcases hb with ⟨j,mj⟩ | hz
  ·cases h:ρ[j]? with
   | none=>rw [(gn j h).1] at mj;simp at mj
   | some k=>rw [(gs j k h).2.1] at mj;exact .inl ⟨k,mj⟩
  ·exact .inr hz
 have hless:Xs g' g:=.of ho fun j b mb=>by
  cases h:ρ[j]? with
  | none=>rw [(gn j h).2] at mb;simp at mb
  | some k=>rw [(gs j k h).2.2] at mb;exact ⟨k,mb⟩
 have hAV:∀x v,AVR g w x v→AVR g' w (rAV ρ x) v:=fun x v h=>Zwz (fun j k hjk=>(gs j k hjk).1) hless h
 have hAVs:∀xs vs,ZH (AVR g w) xs vs→ZH (AVR g' w) (xs.map (rAV ρ)) vs:=fun xs vs h=>h.map_left _ hAV
 have hPV:∀ag cs v,PVR g w ag cs v→PVR g' w ag (cs.map (rAV ρ)) v:=fun ag cs v h=>by
  cases ag with
  | true=>obtain ⟨vs,h1,h2⟩:=h;exact ⟨vs,h1,hAVs _ _ h2⟩
  | false=>obtain ⟨x,rfl,h2⟩:=h;exact ⟨_,rfl,hAV _ _ h2⟩
 refine ⟨⟨g',⟨hH.below,fun j=>?_,fun j=>?_,fun j i hji b mb=>?_,fun j b mb=>?_,hH.gz,hH.zx,hH.nw⟩,fun t=>?_⟩,⟨fun t=>?_,fun j=>?_,fun j hj=>?_⟩,hdef,hh⟩
 ·show ObR g' w j (match ρ[j]? with | some k=>rOb ρ (st.ob k) | none=>.gone)
  cases h:ρ[j]? with
  | none=>exact gn j h
  | some k=>
   obtain ⟨e1,e2,e3⟩:=gs j k h
   have hob:=hH.obs k
   show ObR g' w j (rOb ρ (st.ob k))
   cases hok:st.ob k with
   | gone=>rw [hok] at hob;exact ⟨e2.trans hob.1,e3.trans hob.2⟩
   | box t cs=>
    rw [hok] at hob
    obtain ⟨b,vs,h1,h2,h3,h4,h5⟩:=hob
    exact ⟨b,vs,e1.trans h1,e2.trans h2,e3.trans h3,h4,hAVs _ _ h5⟩
   | map kk vk kv=>
    rw [hok] at hob
    obtain ⟨b,es,c,h1,h2,h3,h4⟩:=hob
    exact ⟨b,es,c,e1.trans h1,e2.trans h2,e3.trans h3,h4⟩
   | row e m xs d=>
    rw [hok] at hob
    obtain ⟨hm,cs,L,h1,h2,h4⟩:=hob
    refine ⟨hm,cs,L,by rw [e1];exact h1,h2,?_⟩
    rw [e1,e2,e3]
    rcases h4 with h4 | ⟨hd,h3,h4,h5⟩ | ⟨hd,h3,h4,h5⟩
    ·exact .inl h4
    ·exact .inr (.inl ⟨hd,h3,h4,fun b mb o=>h5 b mb (ho b o)⟩)
    ·exact .inr (.inr ⟨hd,h3,h4,fun b mb o=>h5 b mb (ho b o)⟩)
 ·cases h:ρ[j]? with
  | none=>rw [(gn j h).1,(gn j h).2];simp
  | some k=>rw [(gs j k h).2.1,(gs j k h).2.2];exact hH.nodup k
 ·cases h:ρ[j]? with
  | none=>rw [(gn j h).1,(gn j h).2] at mb;simp at mb
  | some k=>
   rw [(gs j k h).2.1,(gs j k h).2.2] at mb
   cases h':ρ[i]? with
   | none=>rw [(gn i h').1,(gn i h').2];simp
   | some q=>
    rw [(gs i q h').2.1,(gs i q h').2.2]
    refine hH.apart k q (fun e=>hji ?_) b mb
    subst e
    obtain ⟨l1,e1⟩:=List.getElem?_eq_some_iff.1 h
    obtain ⟨l2,e2⟩:=List.getElem?_eq_some_iff.1 h'
    exact ZmR hρ l1 l2 (e1.trans e2.symm)
 ·cases h:ρ[j]? with
  | none=>rw [(gn j h).1,(gn j h).2] at mb;simp at mb
  | some k=>
   rw [(gs j k h).2.1,(gs j k h).2.2] at mb
   refine ⟨(hH.plain k b mb).1,(hH.plain k b mb).2.of ?_⟩
   show Zis (match ρ[j]? with | some k=>rOb ρ (st.ob k) | none=>.gone)=_
   rw [h]
   show Zis (rOb ρ (st.ob k))=_
   cases st.ob k<;>rfl
 ·have hs:=hS t
  show SVR g' w (rSV ρ (st.sl t)) _
  cases hsl:st.sl t with
  | any=>trivial
  | und=>rw [hsl] at hs;exact hs
  | p ag cs=>rw [hsl] at hs;exact hPV _ _ _ hs
  | tup xs=>
   rw [hsl] at hs
   obtain ⟨vs,h1,h2⟩:=hs
   exact ⟨vs,h1,h2.map_left (fun x:Bool × List AV=>(x.1,x.2.map (rAV ρ))) fun x v h=>hPV x.1 x.2 v h⟩
  | bp k off=>
   rw [hsl] at hs
   simp only [rSV]
   split
   ·rename_i j hj
    obtain ⟨b,h1,h2⟩:=hs
    exact ⟨b,((gs j k (Zcv hj)).1).trans h1,h2⟩
   ·trivial
  | rp k m i off=>
   rw [hsl] at hs
   simp only [rSV]
   split
   ·rename_i j hj
    obtain ⟨b,o,n,c,h1,h2⟩:=hs
    exact ⟨b,o,n,c,((gs j k (Zcv hj)).1).trans h1,h2⟩
   ·trivial
  | ep e off=>
   rw [hsl] at hs
   obtain ⟨b,lo,cs,L,h1,h2,h3,h4,h5⟩:=hs
   exact ⟨b,lo,cs,L,h1,h2,h3,fun x m o=>h4 x m (ho x o),h5⟩
  | fn f=>rw [hsl] at hs;exact hs
 ·show svU _ (rSV ρ (st.sl t))
  cases st.sl t with
  | p ag cs=>intro y my;obtain ⟨x,_,rfl⟩:=List.mem_map.1 my;exact ZsJ ρ x
  | tup xs=>
   intro y my
   obtain ⟨x,_,rfl⟩:=List.mem_map.1 my
   intro z mz
   obtain ⟨q,_,rfl⟩:=List.mem_map.1 mz
   exact ZsJ ρ q
  | bp k off=>
   simp only [rSV]
   split
   ·rename_i j hj;exact (List.getElem?_eq_some_iff.1 (Zcv hj)).1
   ·trivial
  | rp k m i off=>
   simp only [rSV]
   split
   ·rename_i j hj;exact (List.getElem?_eq_some_iff.1 (Zcv hj)).1
   ·trivial
  | _=>trivial
 ·show obU _ (match ρ[j]? with | some k=>rOb ρ (st.ob k) | none=>.gone)
  split
  ·rename_i k _
   cases st.ob k with
   | box t cs=>intro y my;obtain ⟨x,_,rfl⟩:=List.mem_map.1 my;exact ZsJ ρ x
   | _=>trivial
  ·trivial
 ·show (match ρ[j]? with | some k=>rOb ρ (st.ob k) | none=>.gone)=.gone
  have:ρ[j]?=none:=List.getElem?_eq_none (by omega)
  rw [this]
theorem Zuf [NW] {g:Gh} {ob:Nat→Ob} (hI:HI W g ob w) {k e m d d':Nat} {xs:List (List CT)} (hk:ob k=.row e m xs d) (hd:d'<d):∃g1:Gh,HI W g1 (upd ob k (.row e m xs d')) w∧g1.val=g.val∧Xs g1 g:=by
 by_cases h0:d'=0
 ·obtain ⟨g1,h1,h2,h3,_⟩:=ZhP hI k
  rw [hk] at h1
  exact ⟨g1,by rw [h0];exact h1,h2,h3⟩
 ·have ho:=hI.obs k
  rw [hk] at ho
  obtain ⟨hm,cs,L,o1,o2,o3⟩:=ho
  have h2:d=2∧g.O k=(g.val k).ownBlock.toList∧g.D k=L:=by
   rcases o3 with o3 | ⟨q,_⟩ | ⟨q,_⟩
   ·exact o3
   ·omega
   ·omega
  obtain ⟨rfl,q1,q2⟩:=h2
  obtain rfl:d'=1:=by omega
  let g1:Gh:=⟨g.val,g.O,upd g.D k [],g.Z⟩
  have hown:∀b,g1.own b↔g.own b:=fun b=>Iff.rfl
  have hless:Xs g1 g:=.of (fun b hb=>hb) fun j b mb=>by
   by_cases hj:j=k
   ·subst hj;simp [g1,upd] at mb
   ·exact ⟨j,by simpa [g1,upd,hj] using mb⟩
  have hsub:∀j b,b∈g1.O j++g1.D j→b∈g.O j++g.D j:=fun j b mb=>by
   by_cases hj:j=k
   ·subst hj;simp [g1,upd] at mb;simp [mb]
   ·simpa [g1,upd,hj] using mb
  refine ⟨g1,⟨hI.below,fun j=>?_,fun j=>?_,fun i j hij b mb mj=>hI.apart i j hij b (hsub i b mb) (hsub j b mj),fun j b mb=>⟨(hI.plain j b (hsub j b mb)).1,(hI.plain j b (hsub j b mb)).2.of (by
   by_cases hj:j=k
   ·subst hj;rw [Zw,hk];rfl
   ·rw [ZI _ _ hj])⟩,hI.gz,hI.zx,hI.nw⟩,rfl,hless⟩
  ·by_cases hj:j=k
   ·subst hj
    rw [Zw]
    refine ⟨hm,cs,L,o1,o2,.inr (.inl ⟨rfl,q1,by simp [g1,upd],fun b mb hb=>?_⟩)⟩
    have mk:b∈g.D j:=by rw [q2];exact mb
    rcases hb with ⟨i,mi⟩ | hz
    ·by_cases hij:i=j
     ·subst hij
      have:=hI.nodup i
      rw [List.nodup_append] at this
      exact this.2.2 b mi b mk rfl
     ·exact hI.apart i j hij b (by simp;exact .inl mi) (by simp [mk])
    ·exact hI.nz (k:=j) (b:=b) (by simp [mk]) hz
   ·rw [ZI _ _ hj]
    have hoj:=hI.obs j
    cases hh:ob j with
    | gone=>rw [hh] at hoj;exact ⟨hoj.1,by simpa [g1,upd,hj] using hoj.2⟩
    | box t ds=>
     rw [hh] at hoj
     obtain ⟨b,vs,h1,h2,h3,h4,h5⟩:=hoj
     exact ⟨b,vs,h1,h2,by simpa [g1,upd,hj] using h3,h4,h5.mono fun x u _ hx=>AVR.less hx rfl hless⟩
    | map kk vk kv=>
     rw [hh] at hoj
     obtain ⟨b,es,c,h1,h2,h3,h4⟩:=hoj
     exact ⟨b,es,c,h1,h2,by simpa [g1,upd,hj] using h3,h4⟩
    | row e' m' xs' d2=>
     rw [hh] at hoj
     obtain ⟨hm',cs',L',p1,p2,p3⟩:=hoj
     refine ⟨hm',cs',L',p1,p2,?_⟩
     have e2:g1.D j=g.D j:=by simp [g1,upd,hj]
     rw [e2]
     exact p3
  ·by_cases hj:j=k
   ·subst hj
    have:=hI.nodup j
    rw [List.nodup_append] at this
    simpa [g1,upd] using this.1
   ·have:=hI.nodup j
    simpa [g1,upd,hj] using this
theorem Zue [NW] (m:Bool × Nat × Nat) (hI:Inv W U st a w) (hk:∀k,st.n≤k→¬U k):∃U',Inv W U' (st.mat m) a w∧∀k,(st.mat m).n≤k→¬U' k:=by
 have same:∃U',Inv W U' st a w∧∀k,st.n≤k→¬U' k:=⟨U,hI,hk⟩
 have hk0:¬U st.n:=hk st.n (Nat.le_refl _)
 have hU'n:∀k,st.n+1≤k→¬(U k∨k=st.n):=fun k hk' h=>by
  rcases h with h | h
  ·exact hk k (by omega) h
  ·omega
 have new:∀(e q:Nat),0<q→∀g,HI W g st.ob w→∃g',HI W g' (upd st.ob st.n (.row e q [] 2)) w∧(∀x u,svU U x→SVR g w x u→SVR g' w x u)∧g'.val st.n=.slice none 0 0∧(∀x u,avU U x→AVR g w x u→AVR g' w x u):=fun e q hq g hH=>by
  obtain ⟨t1,t2⟩:=hH.turn (key:=st.n) (U:=U) (w':=w) (v:=.slice none 0 0) (O:=[]) (D:=[]) (o:=.row e q [] 2) hI.wf.ob hk0 [] (by simp) hH.below (Nat.le_refl _) (fun _ _ _=>rfl) (by simp) (by simp) (by simp) (by simp)
   (fun _=>⟨hq,[],[],by simpa [Gh.turn,upd] using ZiI _ _ _ _,⟨rfl,rfl⟩,.inl ⟨rfl,by simp [Gh.turn,upd,Value.ownBlock],by simp [Gh.turn]⟩⟩)
  refine ⟨_,t1,t2,by simp [Gh.turn,upd],fun x u hx hu=>hu.move hx (fun k hk'=>ZI _ _ fun e=>hk0 (e ▸ hk')) (fun _ _ _=>rfl) (ZmC (by simp) (by simp))⟩
 have up:∀k,U k→(U k∨k=st.n):=fun _ h=>.inl h
 obtain ⟨⟨g,hH,hS⟩,hU,hdef,hh⟩:=hI
 have tree:∀k e q xs d,st.ob k=.row e q xs d→∃g1:Gh,HI W g1 (upd st.ob k (.row e q xs 0)) w∧g1.val=g.val∧Xs g1 g∧U k∧∀v,AVR g w (.row k) v→AVR g1 w (.c (.sl e q xs)) v:=fun k e q xs d hob=>by
  obtain ⟨g1,i1,i2,i3,_⟩:=ZhP hH k
  rw [hob] at i1
  obtain ⟨L,t1,t2⟩:=Zpy i1 (Zw st.ob k (.row e q xs 0))
  exact ⟨g1,i1,i2,i3,Classical.byContradiction fun hn=>by have:=hU.gone _ hn;rw [hob] at this;simp at this,fun v hv=>⟨L,by rw [hv.1,←i2];exact t1,t2⟩⟩
 have sets:∀{gg:Gh} {cs:List AV} {vs:List Value} {j:Nat} {y:AV} {v:Value},ZH (AVR gg w) cs vs→vs[j]?=some v→AVR gg w y v→ZH (AVR gg w) (cs.set j y) vs:=fun {gg cs vs j y v} h1 h2 h3=>by
  have:=h1.set (i:=j) h3
  obtain ⟨hl,he⟩:=List.getElem?_eq_some_iff.1 h2
  rw [←he,List.set_getElem_self hl] at this
  exact this
 have pset:∀{gg:Gh} {ag:Bool} {cs:List AV} {v:Value} {j:Nat} {x y:AV},PVR gg w ag cs v→cs[j]?=some x→(∀u,AVR gg w x u→AVR gg w y u)→PVR gg w ag (cs.set j y) v:=fun {gg ag cs v j x y} h1 h2 h3=>by
  cases ag with
  | true=>
   obtain ⟨vs,rfl,h4⟩:=h1
   obtain ⟨u,u1,u2⟩:=h4.at h2
   exact ⟨vs,rfl,sets h4 u1 (h3 u u2)⟩
  | false=>
   obtain ⟨z,rfl,h4⟩:=h1
   cases j with
   | zero=>simp at h2;subst h2;exact ⟨y,rfl,h3 v h4⟩
   | succ j=>simp at h2
 have uset:∀{V:Nat→Prop} {cs:List AV} {j:Nat} {y:AV},Qz V cs→avU V y→Qz V (cs.set j y):=fun {V cs j y} h1 h2 z mz=>by
  rcases List.mem_or_eq_of_mem_set mz with mz | mz
  ·exact h1 z mz
  ·subst mz;exact h2
 unfold St.mat
 split
 ·split
  ·rename_i ag cs hsl
   have hcu:Qz U cs:=by have:=hU.sl m.2.1;rw [hsl] at this;exact this
   have hs:=hS m.2.1
   rw [hsl] at hs
   split
   ·rename_i e q hcs
    split
    ·rename_i hq
     obtain ⟨g',t1,t2,t3,t4⟩:=new e q hq g hH
     refine ⟨fun k=>U k∨k=st.n,⟨⟨g',t1,fun t=>?_⟩,⟨fun t=>?_,fun k=>?_,fun k hk'=>?_⟩,hdef,hh⟩,hU'n⟩
     ·show SVR g' w (upd st.sl m.2.1 (.p ag (cs.set m.2.2 (.row st.n))) t) _
      by_cases ht:t=m.2.1
      ·subst ht
       rw [Zw]
       have h1:PVR g' w ag cs (a.tmps.getD m.2.1 undef):=t2 (.p ag cs) _ hcu hs
       refine pset h1 hcs fun u hu=>?_
       have hu':u=.slice none 0 0:=hu
       rw [hu']
       exact ⟨t3.symm,rfl⟩
      ·rw [ZI _ _ ht];exact t2 _ _ (hU.sl t) (hS t)
     ·show svU _ (upd st.sl m.2.1 (.p ag (cs.set m.2.2 (.row st.n))) t)
      by_cases ht:t=m.2.1
      ·subst ht;rw [Zw];exact uset (hcu.mono up) (.inr rfl)
      ·rw [ZI _ _ ht];exact (hU.sl t).mono up
     ·show obU _ (upd st.ob st.n _ k)
      by_cases hk':k=st.n
      ·subst hk';rw [Zw];trivial
      ·rw [ZI _ _ hk'];exact (hU.ob k).mono up
     ·show upd st.ob st.n _ k=_
      rw [ZI _ _ fun e=>hk' (.inr e)];exact hU.gone k fun h=>hk' (.inl h)
    ·exact same
   ·rename_i k hcs
    split
    ·rename_i e q xs d hob
     obtain ⟨g1,i1,i2,i3,hUk,i4⟩:=tree k e q xs d hob
     refine ⟨U,⟨⟨g1,i1,fun t=>?_⟩,⟨fun t=>?_,fun j=>?_,fun j hj=>?_⟩,hdef,hh⟩,hk⟩
     ·show SVR g1 w (upd st.sl m.2.1 (.p ag (cs.set m.2.2 (.c (.sl e q xs)))) t) _
      by_cases ht:t=m.2.1
      ·subst ht
       rw [Zw]
       have h1:PVR g1 w ag cs (a.tmps.getD m.2.1 undef):=(show SVR g w (.p ag cs) _ from hs).less i2 i3
       exact pset h1 hcs fun u hu=>i4 u ⟨hu.1.trans (by rw [i2]),hu.2⟩
      ·rw [ZI _ _ ht];exact (hS t).less i2 i3
     ·show svU _ (upd st.sl m.2.1 (.p ag (cs.set m.2.2 (.c (.sl e q xs)))) t)
      by_cases ht:t=m.2.1
      ·subst ht;rw [Zw];exact uset hcu trivial
      ·rw [ZI _ _ ht];exact hU.sl t
     ·show obU U (upd st.ob k (.row e q xs 0) j)
      by_cases h1:j=k
      ·subst h1;rw [Zw];trivial
      ·rw [ZI _ _ h1];exact hU.ob j
     ·show upd st.ob k (.row e q xs 0) j=_
      rw [ZI _ _ (show j≠k from fun e'=>hj (e' ▸ hUk))];exact hU.gone j hj
    ·exact same
   ·exact same
  ·exact same
 ·split
  ·rename_i ty cs hob
   split
   ·rename_i e q hcs
    split
    ·rename_i hq
     obtain ⟨g',t1,t2,t3,t4⟩:=new e q hq g hH
     have hUk:U m.2.1:=Classical.byContradiction fun hn=>by have:=hU.gone _ hn;rw [hob] at this;simp at this
     have hne:m.2.1≠st.n:=fun e=>hk0 (e ▸ hUk)
     have hcu:Qz U cs:=by have:=hU.ob m.2.1;rw [hob] at this;exact this
     have hbox:=t1.obs m.2.1
     rw [ZI _ _ hne,hob] at hbox
     obtain ⟨b,vs,b1,b2,b3,b4,b5⟩:=hbox
     obtain ⟨u,u1,u2⟩:=b5.at hcs
     have u2':u=.slice none 0 0:=u2
     have hvs:vs.set m.2.2 u=vs:=by
      obtain ⟨hl,he⟩:=List.getElem?_eq_some_iff.1 u1
      rw [←he];exact List.set_getElem_self hl
     have hbox':ObR g' w m.2.1 (.box ty (cs.set m.2.2 (.row st.n))):=by
      refine ⟨b,vs,b1,b2,b3,b4,?_⟩
      have:=b5.set (i:=m.2.2) (a:=AV.row st.n) (b:=u) ⟨by rw [u2',t3],by rw [u2'];rfl⟩
      rw [hvs] at this
      exact this
     have hob':∀k,(upd (upd st.ob m.2.1 (.box ty (cs.set m.2.2 (.row st.n)))) st.n (.row e q [] 2)) k=if k=m.2.1 then .box ty (cs.set m.2.2 (.row st.n)) else (upd st.ob st.n (.row e q [] 2)) k:=fun k=>by
      by_cases h1:k=st.n
      ·have h2:¬k=m.2.1:=fun e'=>hne (e'.symm.trans h1)
       have h3:¬st.n=m.2.1:=fun e'=>hne e'.symm
       simp [upd,h1,h3]
      ·by_cases h2:k=m.2.1
       ·simp [upd,h2,hne]
       ·simp [upd,h1,h2]
     refine ⟨fun k=>U k∨k=st.n,⟨⟨g',⟨t1.below,fun k=>?_,t1.nodup,t1.apart,fun k b mb=>⟨(t1.plain k b mb).1,(t1.plain k b mb).2.of (by
       show Zis ((upd (upd st.ob m.2.1 (.box ty (cs.set m.2.2 (.row st.n)))) st.n (.row e q [] 2)) k)=_
       rw [hob' k]
       split
       ·rename_i h1;subst h1;rw [ZI _ _ hne,hob];rfl
       ·rfl)⟩,t1.gz,t1.zx,t1.nw⟩,fun t=>t2 _ _ (hU.sl t) (hS t)⟩,⟨fun t=>(hU.sl t).mono up,fun k=>?_,fun k hk'=>?_⟩,hdef,hh⟩,hU'n⟩
     ·show ObR g' w k ((upd (upd st.ob m.2.1 (.box ty (cs.set m.2.2 (.row st.n)))) st.n (.row e q [] 2)) k)
      rw [hob' k]
      split
      ·rename_i h1;subst h1;exact hbox'
      ·exact t1.obs k
     ·show obU _ ((upd (upd st.ob m.2.1 (.box ty (cs.set m.2.2 (.row st.n)))) st.n (.row e q [] 2)) k)
      rw [hob' k]
      split
      ·intro y my
       rcases List.mem_or_eq_of_mem_set my with my | my
       ·exact (hcu y my).mono up
       ·subst my;exact .inr rfl
      ·by_cases h1:k=st.n
       ·subst h1;rw [Zw];trivial
       ·rw [ZI _ _ h1];exact (hU.ob k).mono up
     ·show (upd (upd st.ob m.2.1 (.box ty (cs.set m.2.2 (.row st.n)))) st.n (.row e q [] 2)) k=_
      rw [hob' k,if_neg (show ¬k=m.2.1 from fun e'=>hk' (.inl (e' ▸ hUk))),ZI _ _ (show k≠st.n from fun e'=>hk' (.inr e'))]
      exact hU.gone k fun h=>hk' (.inl h)
    ·exact same
   ·rename_i k hcs
    split
    ·rename_i e q xs d hob2
     obtain ⟨g1,i1,i2,i3,hUk,i4⟩:=tree k e q xs d hob2
     have hUm:U m.2.1:=Classical.byContradiction fun hn=>by have:=hU.gone _ hn;rw [hob] at this;simp at this
     have hne:k≠m.2.1:=fun e'=>by rw [e',hob] at hob2;simp at hob2
     have hcu:Qz U cs:=by have:=hU.ob m.2.1;rw [hob] at this;exact this
     have hbox:=i1.obs m.2.1
     rw [ZI _ _ (fun e'=>hne e'.symm),hob] at hbox
     obtain ⟨b,vs,b1,b2,b3,b4,b5⟩:=hbox
     obtain ⟨u,u1,u2⟩:=b5.at hcs
     have hbox':ObR g1 w m.2.1 (.box ty (cs.set m.2.2 (.c (.sl e q xs)))):=⟨b,vs,b1,b2,b3,b4,sets b5 u1 (i4 u ⟨u2.1.trans (by rw [i2]),u2.2⟩)⟩
     refine ⟨U,⟨⟨g1,⟨i1.below,fun j=>?_,i1.nodup,i1.apart,fun j b mb=>⟨(i1.plain j b mb).1,(i1.plain j b mb).2.of (by
       show Zis (upd (upd st.ob k (.row e q xs 0)) m.2.1 (.box ty (cs.set m.2.2 (.c (.sl e q xs)))) j)=_
       by_cases h1:j=m.2.1
       ·subst h1;rw [Zw,ZI _ _ (fun e'=>hne e'.symm),hob];rfl
       ·rw [ZI _ _ h1])⟩,i1.gz,i1.zx,i1.nw⟩,fun t=>(hS t).less i2 i3⟩,⟨hU.sl,fun j=>?_,fun j hj=>?_⟩,hdef,hh⟩,hk⟩
     ·show ObR g1 w j (upd (upd st.ob k (.row e q xs 0)) m.2.1 (.box ty (cs.set m.2.2 (.c (.sl e q xs)))) j)
      by_cases h1:j=m.2.1
      ·subst h1;rw [Zw];exact hbox'
      ·rw [ZI _ _ h1];exact i1.obs j
     ·show obU U (upd (upd st.ob k (.row e q xs 0)) m.2.1 (.box ty (cs.set m.2.2 (.c (.sl e q xs)))) j)
      by_cases h1:j=m.2.1
      ·subst h1;rw [Zw];exact uset hcu trivial
      ·rw [ZI _ _ h1]
       by_cases h2:j=k
       ·subst h2;rw [Zw];trivial
       ·rw [ZI _ _ h2];exact hU.ob j
     ·show upd (upd st.ob k (.row e q xs 0)) m.2.1 (.box ty (cs.set m.2.2 (.c (.sl e q xs)))) j=_
      rw [ZI _ _ (show j≠m.2.1 from fun e'=>hj (e' ▸ hUm)),ZI _ _ (show j≠k from fun e'=>hj (e' ▸ hUk))];exact hU.gone j hj
    ·exact same
   ·exact same
  ·rename_i e q xs d hob
   split
   ·rename_i hlt
    have hUk:U m.2.1:=Classical.byContradiction fun hn=>by have:=hU.gone _ hn;rw [hob] at this;simp at this
    obtain ⟨g1,t1,t2,t3⟩:=Zuf hH hob hlt
    refine ⟨U,⟨⟨g1,t1,fun t=>(hS t).less t2 t3⟩,⟨hU.sl,fun k=>?_,fun k hk'=>?_⟩,hdef,hh⟩,hk⟩
    ·show obU U (upd st.ob m.2.1 (.row e q xs m.2.2) k)
     by_cases h1:k=m.2.1
     ·subst h1;rw [Zw];trivial
     ·rw [ZI _ _ h1];exact hU.ob k
    ·show upd st.ob m.2.1 (.row e q xs m.2.2) k=_
     rw [ZI _ _ (show k≠m.2.1 from fun e'=>hk' (e' ▸ hUk))];exact hU.gone k hk'
   ·exact same
  ·exact same
theorem Zsv [NW] (m:Bool × Nat × Nat) (hI:Inv W U st a w) (hk:∀k,st.n≤k→¬U k):∃U',Inv W U' (st.matN m) a w∧∀k,(st.matN m).n≤k→¬U' k:=by
 have same:∃U',Inv W U' st a w∧∀k,st.n≤k→¬U' k:=⟨U,hI,hk⟩
 obtain ⟨⟨g,hH,hS⟩,hU,hdef,hh⟩:=hI
 unfold St.matN
 split
 ·rename_i ag cs hsl
  have hcu:Qz U cs:=by have:=hU.sl m.2.1;rw [hsl] at this;exact this
  have hs:=hS m.2.1
  rw [hsl] at hs
  split
  ·rename_i k hcs
   split
   ·rename_i e q xs d hob
    split
    ·rename_i hd
     subst hd
     obtain ⟨g1,i1,i2,i3,i5⟩:=ZhP hH k
     rw [hob] at i1
     obtain ⟨hm,cs0,L,o1,o2,o3,o5⟩:=hH.deep hob
     have i4:∀v,AVR g w (.row k) v→AVR g1 w (.n (.sl e q xs)) v:=fun v hv=>by
      rcases o5 with ⟨_,q1,q2⟩ | ⟨q1,_⟩ | ⟨q1,_⟩
      ·have hN:=hH.nodup k
       have hP:=hH.plain k
       have hF:=i5 ⟨_,_,_,_,hob⟩
       rw [q1,q2] at hN hP hF
       rw [hob] at hP
       refine ⟨e,q,xs,cs0,L,rfl,hm,by rw [hv.1];exact o1,o2,by rw [hv.1];exact hN,fun b mb=>?_⟩
       rw [hv.1] at mb
       exact ⟨hF b mb,hH.nw b (hP b mb).1,(hP b mb).2⟩
      ·omega
      ·omega
     have hUk:U k:=Classical.byContradiction fun hn=>by have:=hU.gone _ hn;rw [hob] at this;simp at this
     refine ⟨U,⟨⟨g1,i1,fun t=>?_⟩,⟨fun t=>?_,fun j=>?_,fun j hj=>?_⟩,hdef,hh⟩,hk⟩
     ·show SVR g1 w (upd st.sl m.2.1 (.p ag (cs.set (m.2.2 - 4096) (.n (.sl e q xs)))) t) _
      by_cases ht:t=m.2.1
      ·subst ht
       rw [Zw]
       have h0:PVR g w ag cs (a.tmps.getD m.2.1 undef):=hs
       have h1:PVR g1 w ag cs (a.tmps.getD m.2.1 undef):=(show SVR g w (.p ag cs) _ from hs).less i2 i3
       cases ag with
       | true=>
        obtain ⟨vs,e1,h4⟩:=h0
        obtain ⟨vs',e1',h4'⟩:=h1
        have ev:vs=vs':=by rw [e1] at e1';simpa using e1'
        subst ev
        obtain ⟨u,u1,u2⟩:=h4.at hcs
        refine ⟨vs,e1,?_⟩
        have:=h4'.set (i:=m.2.2 - 4096) (i4 u u2)
        obtain ⟨hl,he⟩:=List.getElem?_eq_some_iff.1 u1
        rw [←he,List.set_getElem_self hl] at this
        exact this
       | false=>
        obtain ⟨z,rfl,h4⟩:=h0
        cases hj:m.2.2 - 4096 with
        | zero=>rw [hj] at hcs;simp at hcs;subst hcs;exact ⟨_,rfl,i4 _ h4⟩
        | succ j=>rw [hj] at hcs;simp at hcs
      ·rw [ZI _ _ ht];exact (hS t).less i2 i3
     ·show svU U (upd st.sl m.2.1 (.p ag (cs.set (m.2.2 - 4096) (.n (.sl e q xs)))) t)
      by_cases ht:t=m.2.1
      ·subst ht;rw [Zw]
       intro z mz
       rcases List.mem_or_eq_of_mem_set mz with mz | mz
       ·exact hcu z mz
       ·subst mz;trivial
      ·rw [ZI _ _ ht];exact hU.sl t
     ·show obU U (upd st.ob k (.row e q xs 0) j)
      by_cases h1:j=k
      ·subst h1;rw [Zw];trivial
      ·rw [ZI _ _ h1];exact hU.ob j
     ·show upd st.ob k (.row e q xs 0) j=_
      rw [ZI _ _ (show j≠k from fun e'=>hj (e' ▸ hUk))];exact hU.gone j hj
    ·exact same
   ·exact same
  ·exact same
 ·exact same
theorem Zle [NW]:∀(ms:List (Bool × Nat × Nat)) {U:Nat→Prop} {st:St},Inv W U st a w→(∀k,st.n≤k→¬U k)→∃U',Inv W U' (st.mats ms) a w
 | [],U,st,hI,_=>⟨U,hI⟩
 | m::r,U,st,hI,hk=>by
  simp only [St.mats]
  split
  ·obtain ⟨U',h1,h2⟩:=Zsv m hI hk
   exact Zle r h1 h2
  ·obtain ⟨U',h1,h2⟩:=Zue m hI hk
   exact Zle r h1 h2
theorem least {p:Nat→Prop} (h:∃n,p n):∃n,p n∧∀m,m<n→¬p m:=by
 obtain ⟨n,hn⟩:=h
 induction n using Nat.strongRecOn with
 | _ n ih=>
  by_cases hm:∃m,m<n∧p m
  ·obtain ⟨m,h1,h2⟩:=hm;exact ih m h1 h2
  ·exact ⟨n,hn,fun m h1 h2=>hm ⟨m,h1,h2⟩⟩
theorem ZrN [NW] {c:Code} {Q:Exit→Act→World→Prop} (J:Nat→Act→World→Prop) (n:Nat) (h₀:J n a w) (round:∀n a w,J n a w→c.wp P (Exit.then (fun a' w'=>∃m,m<n∧J m a' w') Q) a w):(Code.loop c).wp P Q a w:=by
 classical
 let μ:Act→World→Nat:=fun a w=>if h:∃n,J n a w then Classical.choose (least h) else 0
 have hμ:∀a w (h:∃n,J n a w),J (μ a w) a w∧∀m,m<μ a w→¬J m a w:=fun a w h=>by
  simp only [μ,dif_pos h]
  exact Classical.choose_spec (least h)
 refine wp_loop (fun a w=>∃n,J n a w) μ ⟨n,h₀⟩ fun a w h=>?_
 refine wp_mono (round (μ a w) a w (hμ a w h).1) fun e a' w' he=>?_
 cases e with
 | normal=>
  obtain ⟨m,h1,h2⟩:=he
  refine ⟨⟨m,h2⟩,?_⟩
  have h3:=hμ a' w' ⟨m,h2⟩
  rcases Nat.lt_or_ge m (μ a' w') with h4 | h4
  ·exact absurd h2 (h3.2 m h4)
  ·omega
 | _=>exact he
mutual
theorem RC.deep {w:World}:∀{x:CT} {v:Value} {L:List Nat},RC w x v L→ctD x
 | .int _ _,_,_,_=>trivial
 | .bool _,_,_,_=>trivial
 | .str _,_,_,h=>h.2.2
 | .sl _ _ _,_,_,⟨A,cap,cs,L0,L1,h1,h2,h3,h4,h5,h6,h7⟩=>⟨by unfold maxLen at h3;omega,h7.deep⟩
 | .pt _,_,_,⟨_,_,_,_,_,_,_,h⟩=>h.deep
 | .fn _ _,_,_,⟨_,_,h⟩=>h.deep
 | .mp _ _ _,_,_,_=>trivial
 | .ifc _,_,_,_=>trivial
 | .any,_,_,_=>trivial
theorem RCs.deep {w:World}:∀{x:List CT} {v:List Value} {L:List Nat},RCs w x v L→ctsD x
 | [],_,_,_=>trivial
 | _::_,_,_,⟨v,cs,L1,L2,h1,h2,h3,h4⟩=>⟨h3.deep,h4.deep⟩
theorem REs.deep {w:World} {m:Nat}:∀{x:List (List CT)} {v:List Value} {L:List Nat},REs w m x v L→essD x
 | [],_,_,_=>trivial
 | _::_,_,_,⟨c1,c2,L1,L2,h1,h2,h3,h4⟩=>⟨h3.1.deep,h4.deep⟩
end
theorem AVR.deep [NW] {g:Gh} {w:World}:∀{x:AV} {v:Value},AVR g w x v→avD x
 | .c _,_,⟨_,h,_⟩=>h.deep
 | .n _,_,h=>by obtain ⟨_,h1,_⟩:=NR.toC h;exact h1.deep
 | .row _,_,_=>trivial
 | .nil _ _,_,_=>trivial
 | .dead,_,_=>trivial
theorem AVRs.deep [NW] {g:Gh} {w:World}:∀{x:List AV} {v:List Value},ZH (AVR g w) x v→Zsw x
 | [],[],_=>trivial
 | _::_,_::_,h=>⟨h.1.deep,AVRs.deep h.2⟩
 | [],_::_,h=>h.elim
 | _::_,[],h=>h.elim
theorem Inv.deep [NW] (hI:Inv W U st a w):WF st:=by
 obtain ⟨⟨g,hH,hS⟩,hU,hdef,hh⟩:=hI
 refine ⟨fun t b cs ht=>?_,fun k t cs hk=>?_,fun k e m xs d hk=>?_⟩
 ·have h:=hS t
  rw [ht] at h
  cases b with
  | true=>obtain ⟨vs,_,h2⟩:=h;exact AVRs.deep h2
  | false=>obtain ⟨x,rfl,h2⟩:=h;exact ⟨h2.deep,trivial⟩
 ·have h:=hH.obs k
  rw [hk] at h
  obtain ⟨b,vs,_,_,_,_,h2⟩:=h
  exact AVRs.deep h2
 ·have h:=hH.obs k
  rw [hk] at h
  obtain ⟨_,cs,L,h1,h2,_⟩:=h
  refine ⟨?_,h2.deep⟩
  rcases h1.2 with ⟨_,h3⟩ | ⟨_,_,cap,_,_,_,_,h3,h4,_⟩
  ·omega
  ·unfold maxLen at h4;omega
def Zxc:Ex→Exit
 | .normal=>.normal
 | .exit id=>.exit id
 | .ret=>.ret
def XT (tt:Nat→Option TI) (hs:FuncId→Nat) (k0:Bool) (N:Nat):Code→Bool
 | .skip=>true
 | .region _ ops d=>(ops.toList.all fun o=>match o.dst with | some t=>Nat.blt t N&&(!k0||Nat.blt 0 t) | none=>true)&&(!d||ZpS tt hs ops)
 | .seq x y=>XT tt hs k0 N x&&XT tt hs k0 N y
 | .cond _ x y=>XT tt hs k0 N x&&XT tt hs k0 N y
 | .block _ x=>XT tt hs k0 N x
 | .loop x=>XT tt hs k0 N x
 | .exit _=>true
 | .ret=>true
 | _=>false
theorem Q4 [NW] (htt:MOk P J JF W tt) (hmix:P.follows .mixedOrders=true) {hds:FuncId→Nat} {k0:Bool} (hk0:W.hv=none∨k0=true) {N:Nat}:∀(c:Code),XT tt hds k0 N c=true→∀(Qs:Ex→St→Prop) (Q:Exit→Act→World→Prop),
  (∀ex U' st' a' w',Inv W U' st' a' w'→(∀k,st'.n≤k→¬U' k)→a'.tmps.size=N→Qs ex st'→Q (Zxc ex) a' w')→
  ∀U st a w,Inv W U st a w→(∀k,st.n≤k→¬U k)→a.tmps.size=N→swp tt (SC P J JF hds) c Qs st→c.wp P Q a w
 | .skip,_,Qs,Q,hQ,U,st,a,w,hI,hk,hs,h=>wp_skip (hQ .normal U st a w hI hk hs h)
 | .exit id,_,Qs,Q,hQ,U,st,a,w,hI,hk,hs,h=>wp_exit (hQ (.exit id) U st a w hI hk hs h)
 | .ret,_,Qs,Q,hQ,U,st,a,w,hI,hk,hs,h=>wp_ret (hQ .ret U st a w hI hk hs h)
 | .region id ops d,hok,Qs,Q,hQ,U,st,a,w,hI,hk,hs,h=>by
  simp only [XT,Bool.and_eq_true,List.all_eq_true] at hok
  have hN:∀o∈ops.toList,∀t,o.dst=some t→t<N∧(W.hv=none∨t≠0):=fun o mo t ht=>by
   have:=hok.1 o mo
   rw [ht] at this
   simp only [Bool.and_eq_true,Bool.or_eq_true] at this
   refine ⟨Nat.le_of_ble_eq_true this.1,hk0.imp (fun h=>h) fun h=>?_⟩
   rcases this.2 with h2 | h2
   ·rw [h] at h2;simp at h2
   ·have h3:0<t:=Nat.le_of_ble_eq_true h2
    exact Nat.ne_of_gt h3
  have hend:∀U' st' a' w',Inv W U' st' a' w'→(∀k,st.n+16 * ops.toList.length≤k→¬U' k)→a'.tmps.size=N→Zrw (st.n+16 * ops.toList.length) (Qs .normal) st'→Q .normal a' w':=fun U' st' a' w' h1 h2 h3 h4=>
   hQ .normal U' { st' with n:=st.n+16 * ops.toList.length } a' w' ⟨h1.ex,⟨h1.wf.sl,h1.wf.ob,h1.wf.gone⟩,h1.defers,h1.hand⟩ h2 h3 h4
  have h':Z3 tt (SC P J JF hds) ops.toList st.n ops.toList (Zrw (st.n+16 * ops.toList.length) (Qs .normal)) st:=h
  cases d with
  | false=>
   refine wp_region ?_
   have:=Zm1 (Q:=Q) htt hN ops.toList 0 st.n U st a w (by simp) h' hI hk hs hend
   rw [List.range_eq_range']
   simpa using this
  | true=>
   have hdr:ZpS tt hds ops=true:=by simpa using hok.2
   refine wp_region_any hmix ?_
   have h2:=ZqV (tt:=tt) (S:=SC P J JF hds) (all:=ops.toList) (base:=st.n) (K:=Zrw (st.n+16 * ops.toList.length) (Qs .normal)) ops.toList 0 st (by simp) (by simpa using h')
   rw [←List.range_eq_range'] at h2
   have hI':Inv W U st a { w with drawn:=w.drawn+1 }:=by
    obtain ⟨⟨g,hH,hS⟩,hU,hdef,hh⟩:=hI
    have hw:∀b,b<w.heap.size→¬g.own b→({ w with drawn:=w.drawn+1 }:World).heap[b]?=w.heap[b]?:=fun _ _ _=>rfl
    refine ⟨⟨g,hH.step (U:=U) (fun _=>False) ⟨hH.below.os,hH.below.tape,hH.below.output,hH.below.size,hH.below.block⟩ rfl (fun _ _ _=>rfl) (fun _ _=>⟨rfl,rfl,rfl,rfl⟩) hU.ob (fun _ _=>rfl) (Qt.refl _ _) (fun _ h=>h.elim),fun t=>?_⟩,hU,hdef,hh⟩
    exact (hS t).move (hU.sl t) (fun _ _=>rfl) hw (Qt.refl _ _) (Nat.le_refl _)
   refine ZrQ (base:=st.n) htt hN hdr (fun U' st' a' w' h1 h2 h3 h4=>hend U' st' a' w' h1 (by simpa using h2) h3 h4) ops.size (List.range ops.toList.length) (Array.replicate ops.size false) U st a _ (by simp) (List.pairwise_lt_range) (by simp) (fun i=>?_) (fun i o ho hl=>?_) h2 hI' (fun j _ k hk' _=>hk k (by omega)) (fun k hk'=>hk k (by omega)) hs
   ·simp only [List.mem_range,Array.length_toList]
    constructor
    ·intro hi;exact ⟨hi,by simp [Array.getD_eq_getD_getElem?,hi]⟩
    ·exact fun hi=>hi.1
   ·exfalso
    have hi:i<ops.size:=(Array.getElem?_eq_some_iff.1 ho).1
    simp [Array.getD_eq_getD_getElem?,hi] at hl
 | .seq x y,hok,Qs,Q,hQ,U,st,a,w,hI,hk,hs,h=>by
  simp only [XT,Bool.and_eq_true] at hok
  refine wp_seq (Q4 htt hmix hk0 x hok.1 (Zfq (swp tt (SC P J JF hds) y Qs) Qs) _ ?_ U st a w hI hk hs h)
  intro ex U' st' a' w' h1 h2 h3 h4
  cases ex with
  | normal=>exact Q4 htt hmix hk0 y hok.2 Qs Q hQ U' st' a' w' h1 h2 h3 h4
  | exit id=>exact hQ (.exit id) U' st' a' w' h1 h2 h3 h4
  | ret=>exact hQ .ret U' st' a' w' h1 h2 h3 h4
 | .cond c x y,hok,Qs,Q,hQ,U,st,a,w,hI,hk,hs,h=>by
  simp only [XT,Bool.and_eq_true] at hok
  simp only [swp,Zmj] at h
  split at h
  ·rename_i hb
   obtain ⟨b,hb'⟩:∃b,st.ev tt 0 c=.p false [.c (.bool b)]:=by
    unfold QO at hb
    split at hb
    ·rename_i b he;exact ⟨b,he⟩
    ·simp at hb
   obtain ⟨g,hH,hS⟩:=hI.ex
   have hv:=(Zjj (P:=P) htt.tt hS hI.wf 0 c).1
   rw [hb'] at hv
   have hv':=ZeZ hv
   refine wp_cond hv' ?_
   cases b with
   | true=>rw [if_pos (by rw [hb'];rfl)] at h;exact Q4 htt hmix hk0 x hok.1 Qs Q hQ U st a w hI hk hs h
   | false=>rw [if_neg (by rw [hb'];simp [X0])] at h;exact Q4 htt hmix hk0 y hok.2 Qs Q hQ U st a w hI hk hs h
  ·exact h.elim
 | .block id x,hok,Qs,Q,hQ,U,st,a,w,hI,hk,hs,h=>by
  refine wp_block (Q4 htt hmix hk0 x hok (ZfP id Qs) _ ?_ U st a w hI hk hs h)
  intro ex U' st' a' w' h1 h2 h3 h4
  cases ex with
  | normal=>exact hQ .normal U' st' a' w' h1 h2 h3 h4
  | exit j=>
   show Exit.inBlock id Q (.exit j) a' w'
   simp only [ZfP] at h4
   simp only [Exit.inBlock]
   split
   ·rename_i e;rw [if_pos e] at h4;exact hQ .normal U' st' a' w' h1 h2 h3 h4
   ·rename_i e;rw [if_neg e] at h4;exact hQ (.exit j) U' st' a' w' h1 h2 h3 h4
  | ret=>exact hQ .ret U' st' a' w' h1 h2 h3 h4
 | .loop x,hok,Qs,Q,hQ,U,st,a,w,hI,hk,hs,h=>by
  obtain ⟨n,hn⟩:=h
  refine ZrN (fun n a w=>∃U st,Inv W U st a w∧(∀k,st.n≤k→¬U k)∧a.tmps.size=N∧ZiX (swp tt (SC P J JF hds) x) Qs n st) n ⟨U,st,hI,hk,hs,hn⟩ ?_
  rintro n a w ⟨U,st,hI,hk,hs,hn⟩
  cases n with
  | zero=>exact hn.elim
  | succ n=>
   obtain ⟨ms,ρ,hρ,hb⟩:=hn
   obtain ⟨U2,hI2⟩:=Zle ms hI hk
   refine Q4 htt hmix hk0 x hok (Zfq (ZiX (swp tt (SC P J JF hds) x) Qs n) Qs) _ ?_ _ ((st.mats ms).ren ρ) a w (ZqD hI2 hρ) (fun k hk' hU=>by simp only [St.ren] at hk';omega) hs (hb (ZqD hI2 hρ).deep)
   intro ex U' st' a' w' h1 h2 h3 h4
   cases ex with
   | normal=>exact ⟨n,by omega,U',st',h1,h2,h3,h4⟩
   | exit id=>exact hQ (.exit id) U' st' a' w' h1 h2 h3 h4
   | ret=>exact hQ .ret U' st' a' w' h1 h2 h3 h4
 | .rangeFunc _ _ _ _,hok,_,_,_,_,_,_,_,_,_,_,_=>by simp [XT] at hok
 | .scope _,hok,_,_,_,_,_,_,_,_,_,_,_=>by simp [XT] at hok
 | .label _,hok,_,_,_,_,_,_,_,_,_,_,_=>by simp [XT] at hok
 | .goto _,hok,_,_,_,_,_,_,_,_,_,_,_=>by simp [XT] at hok
 | .refuse _,hok,_,_,_,_,_,_,_,_,_,_,_=>by simp [XT] at hok
end
end Go.Proofs.YtojnhepgnbhaaaaGreatDoor
