/- Texts of this proof, joined: Opens, LaidS. What each holds is said at its theorems. -/
import Derived.Test.YtlpkbfjcdaanmaaGreatDoorProg
import Derived.Test.YtlpkbfjcdaanmaaGreatDoorAskModelQ3
import Derived.Test.YtlpkbfjcdaanmaaGreatDoorAskModelQ8
import Derived.Lib.LaidTab
import Derived.Test.YtlpkbfjcdaanmaaGreatDoorAskModelQ6
open List renaming take→A0,drop→A3,getElem?_eq_getElem→A4,getElem?_eq_none→A6
open Option renaming map_eq_some_iff→A5
open Option.some renaming inj→A9
open Go.Proofs.Tryz
set_option linter.unusedSimpArgs false
set_option linter.unusedVariables false
set_option maxRecDepth 1000000
set_option maxHeartbeats 4000000
namespace Go.Proofs.YtlpkbfjcdaanmaaGreatDoor
section
open Go.RowKit
theorem Zvm:ZjE prog 48 Z8 Zua:=by
 intro H c w base a b fuel cs x h
 obtain ⟨xs,n,_,_,d,e,hf⟩:=DataW.trod_struct underlying48 h
 have hl:cs.length=2:=d.trans yO
 have hx:xs.length=2:=e
 match cs,hl with
 | [a0,a1],_=>
  have f0:DataW.trod c prog w base a b n 9 [a0]=some (xs[0]'yE):=by
   have this:DataW.trod c prog w base a b n 9 (A0 (prog.cellsOf 9) (A3 0 [a0,a1]))=_:=(hf 0 _ rfl).trans (A4 (show 0<xs.length by omega))
   rw [show prog.cellsOf 9=1 by kernel_rfl] at this
   exact this
  have f1:DataW.trod c prog w base a b n 46 [a1]=some (xs[1]'yE):=by
   have this:DataW.trod c prog w base a b n 46 (A0 (prog.cellsOf 46) (A3 1 [a0,a1]))=_:=(hf 1 _ rfl).trans (A4 (show 1<xs.length by omega))
   rw [show prog.cellsOf 46=1 by kernel_rfl] at this
   exact this
  obtain ⟨d0,M0,r0,w0⟩:=(QQ underlying9) f0
  obtain ⟨e0,_,t0⟩:=r0
  cases e0
  obtain ⟨d1,M1,r1,w1⟩:=(Zal underlying46 yO (QQ underlying9)) f1
  obtain ⟨A1,c1,e1,n1,m1,s1⟩:=r1
  cases e1
  exact ⟨⟨d0,d1⟩,_,⟨A1,c1,M1,rfl,rfl,t0,n1,m1,s1⟩,⟨w0,w1⟩⟩
theorem ZjY:ZjE prog 101 Qq ZkT:=by
 intro H c w base a b fuel cs x h
 obtain ⟨xs,n,_,_,d,e,hf⟩:=DataW.trod_struct underlying101 h
 have hl:cs.length=2:=d.trans yO
 have hx:xs.length=2:=e
 match cs,hl with
 | [a0,a1],_=>
  have f0:DataW.trod c prog w base a b n 9 [a0]=some (xs[0]'yE):=by
   have this:DataW.trod c prog w base a b n 9 (A0 (prog.cellsOf 9) (A3 0 [a0,a1]))=_:=(hf 0 _ rfl).trans (A4 (show 0<xs.length by omega))
   rw [show prog.cellsOf 9=1 by kernel_rfl] at this
   exact this
  have f1:DataW.trod c prog w base a b n 46 [a1]=some (xs[1]'yE):=by
   have this:DataW.trod c prog w base a b n 46 (A0 (prog.cellsOf 46) (A3 1 [a0,a1]))=_:=(hf 1 _ rfl).trans (A4 (show 1<xs.length by omega))
   rw [show prog.cellsOf 46=1 by kernel_rfl] at this
   exact this
  obtain ⟨d0,M0,r0,w0⟩:=(QQ underlying9) f0
  obtain ⟨e0,_,t0⟩:=r0
  cases e0
  obtain ⟨d1,M1,r1,w1⟩:=(Zal underlying46 yO (QQ underlying9)) f1
  obtain ⟨A1,c1,e1,n1,m1,s1⟩:=r1
  cases e1
  exact ⟨⟨d0,d1⟩,_,⟨A1,c1,M1,rfl,rfl,t0,n1,m1,s1⟩,⟨w0,w1⟩⟩
theorem ZpY:ZjE prog 103 YL Zp7:=by
 intro H c w base a b fuel cs x h
 obtain ⟨xs,n,_,_,d,e,hf⟩:=DataW.trod_struct underlying103 h
 have hl:cs.length=5:=d.trans yO
 have hx:xs.length=4:=e
 match cs,hl with
 | [a0,a1,a2,a3,a4],_=>
  have f0:DataW.trod c prog w base a b n 3 [a0]=some (xs[0]'yE):=by
   have this:DataW.trod c prog w base a b n 3 (A0 (prog.cellsOf 3) (A3 0 [a0,a1,a2,a3,a4]))=_:=(hf 0 _ rfl).trans (A4 (show 0<xs.length by omega))
   rw [show prog.cellsOf 3=1 by kernel_rfl] at this
   exact this
  have f1:DataW.trod c prog w base a b n 101 [a1,a2]=some (xs[1]'yE):=by
   have this:DataW.trod c prog w base a b n 101 (A0 (prog.cellsOf 101) (A3 1 [a0,a1,a2,a3,a4]))=_:=(hf 1 _ rfl).trans (A4 (show 1<xs.length by omega))
   rw [show prog.cellsOf 101=2 by kernel_rfl] at this
   exact this
  have f2:DataW.trod c prog w base a b n 9 [a3]=some (xs[2]'yE):=by
   have this:DataW.trod c prog w base a b n 9 (A0 (prog.cellsOf 9) (A3 3 [a0,a1,a2,a3,a4]))=_:=(hf 2 _ rfl).trans (A4 (show 2<xs.length by omega))
   rw [show prog.cellsOf 9=1 by kernel_rfl] at this
   exact this
  have f3:DataW.trod c prog w base a b n 9 [a4]=some (xs[3]'yE):=by
   have this:DataW.trod c prog w base a b n 9 (A0 (prog.cellsOf 9) (A3 4 [a0,a1,a2,a3,a4]))=_:=(hf 3 _ rfl).trans (A4 (show 3<xs.length by omega))
   rw [show prog.cellsOf 9=1 by kernel_rfl] at this
   exact this
  obtain ⟨d0,M0,r0,w0⟩:=(ZkD underlying3) f0
  obtain ⟨e0,_⟩:=r0
  cases e0
  obtain ⟨d1,M1,r1,w1⟩:=ZjY f1
  obtain ⟨A1,c1,N1,e1,g1,t0,n1,m1,s1⟩:=r1
  cases e1
  subst g1
  obtain ⟨d2,M2,r2,w2⟩:=(QQ underlying9) f2
  obtain ⟨e2,_,t1⟩:=r2
  cases e2
  obtain ⟨d3,M3,r3,w3⟩:=(QQ underlying9) f3
  obtain ⟨e3,_,t2⟩:=r3
  cases e3
  exact ⟨⟨d0,d1,d2,d3⟩,_,⟨A1,c1,M1,rfl,rfl,t0,t1,t2,n1,m1,s1⟩,⟨w0,w1,w2,w3⟩⟩
theorem ZsR:ZjE prog 206 Yp ZrH:=by
 intro H c w base a b fuel cs x h
 obtain ⟨xs,n,_,_,d,e,hf⟩:=DataW.trod_struct underlying206 h
 have hl:cs.length=3:=d.trans yO
 have hx:xs.length=2:=e
 match cs,hl with
 | [a0,a1,a2],_=>
  have f0:DataW.trod c prog w base a b n 3 [a0]=some (xs[0]'yE):=by
   have this:DataW.trod c prog w base a b n 3 (A0 (prog.cellsOf 3) (A3 0 [a0,a1,a2]))=_:=(hf 0 _ rfl).trans (A4 (show 0<xs.length by omega))
   rw [show prog.cellsOf 3=1 by kernel_rfl] at this
   exact this
  have f1:DataW.trod c prog w base a b n 101 [a1,a2]=some (xs[1]'yE):=by
   have this:DataW.trod c prog w base a b n 101 (A0 (prog.cellsOf 101) (A3 1 [a0,a1,a2]))=_:=(hf 1 _ rfl).trans (A4 (show 1<xs.length by omega))
   rw [show prog.cellsOf 101=2 by kernel_rfl] at this
   exact this
  obtain ⟨d0,M0,r0,w0⟩:=(ZkD underlying3) f0
  obtain ⟨e0,_⟩:=r0
  cases e0
  obtain ⟨d1,M1,r1,w1⟩:=ZjY f1
  obtain ⟨A1,c1,N1,e1,g1,t0,n1,m1,s1⟩:=r1
  cases e1
  subst g1
  exact ⟨⟨d0,d1⟩,_,⟨A1,c1,M1,rfl,rfl,t0,n1,m1,s1⟩,⟨w0,w1⟩⟩
theorem Zwb:ZjE prog 99 XW ZtX:=by
 intro H c w base a b fuel cs x h
 obtain ⟨xs,n,_,_,d,e,hf⟩:=DataW.trod_struct underlying99 h
 have hl:cs.length=4:=d.trans yO
 have hx:xs.length=4:=e
 match cs,hl with
 | [a0,a1,a2,a3],_=>
  have f0:DataW.trod c prog w base a b n 9 [a0]=some (xs[0]'yE):=by
   have this:DataW.trod c prog w base a b n 9 (A0 (prog.cellsOf 9) (A3 0 [a0,a1,a2,a3]))=_:=(hf 0 _ rfl).trans (A4 (show 0<xs.length by omega))
   rw [show prog.cellsOf 9=1 by kernel_rfl] at this
   exact this
  have f1:DataW.trod c prog w base a b n 3 [a1]=some (xs[1]'yE):=by
   have this:DataW.trod c prog w base a b n 3 (A0 (prog.cellsOf 3) (A3 1 [a0,a1,a2,a3]))=_:=(hf 1 _ rfl).trans (A4 (show 1<xs.length by omega))
   rw [show prog.cellsOf 3=1 by kernel_rfl] at this
   exact this
  have f2:DataW.trod c prog w base a b n 24 [a2]=some (xs[2]'yE):=by
   have this:DataW.trod c prog w base a b n 24 (A0 (prog.cellsOf 24) (A3 2 [a0,a1,a2,a3]))=_:=(hf 2 _ rfl).trans (A4 (show 2<xs.length by omega))
   rw [show prog.cellsOf 24=1 by kernel_rfl] at this
   exact this
  have f3:DataW.trod c prog w base a b n 97 [a3]=some (xs[3]'yE):=by
   have this:DataW.trod c prog w base a b n 97 (A0 (prog.cellsOf 97) (A3 3 [a0,a1,a2,a3]))=_:=(hf 3 _ rfl).trans (A4 (show 3<xs.length by omega))
   rw [show prog.cellsOf 97=1 by kernel_rfl] at this
   exact this
  obtain ⟨d0,M0,r0,w0⟩:=(QQ underlying9) f0
  obtain ⟨e0,_,t0⟩:=r0
  cases e0
  obtain ⟨d1,M1,r1,w1⟩:=(ZkD underlying3) f1
  obtain ⟨e1,_⟩:=r1
  cases e1
  obtain ⟨d2,M2,r2,w2⟩:=(Zal underlying24 yO ZpY) f2
  obtain ⟨A1,c1,e2,n1,m1,s1⟩:=r2
  cases e2
  obtain ⟨d3,M3,r3,w3⟩:=(Zal underlying97 yO ZsR) f3
  obtain ⟨A2,c2,e3,n2,m2,s2⟩:=r3
  cases e3
  exact ⟨⟨d0,d1,d2,d3⟩,_,⟨A1,c1,M2,A2,c2,M3,rfl,rfl,t0,n1,m1,s1,n2,m2,s2⟩,⟨w0,w1,w2,w3⟩⟩
end
section
open Go.Lib
theorem ZoN {H:Type} {f:TypeId × Value→H} {P:Program} {w:World} {base:Nat} {sp:Nat→Bool} {c:Bool} {a:Nat} {t e:TypeId} {n:Nat} {cs:List Value} {ss:List (List UInt8)} {p:List MemPlace}
  (ht:P.underlying t=some (.array n e)) (he:P.underlying e=some .string) (g:P.cellsOf e=1) (j:P.cellsOf t=n)
  (h:DataW.trod f P w base sp c a t cs=some (.agg (ss.map fun s=>.lit (.string s)),p)):cs=ss.map fun s=>Value.string (ofL s):=by
 cases a with
 | zero=>simp [DataW.trod] at h
 | succ a=>
  simp only[DataW.trod,ht,g,j,Nat.mul_one] at h
  split at h
  ·rename_i hl
   obtain ⟨xs,hm,hx⟩:=A5.1 h
   have d:xs.map (·.1)=ss.map fun s=>(DataW.lit (.string s):DataW H):=by
    have:=congrArg Prod.fst hx
    simpa using this
   have hxl:xs.length=n:=by simpa using mapM_length hm
   have hzl:ss.length=n:=by
    have:=congrArg List.length d
    simp at this
    omega
   apply List.ext_getElem?
   intro i
   by_cases hi:i<n
   ·obtain ⟨b,hb,hf⟩:=mapM_at hm i i (by simp [hi])
    obtain ⟨s,hc,rfl,_⟩:=DataW.trod_string he hf
    have h1:cs[i]?=some (.string s):=by
     have:=congrArg (·[0]?) hc
     simpa [List.getElem?_take,List.getElem?_drop] using this
    have h2:(xs.map (·.1))[i]?=some (DataW.lit (.string s.data.toList):DataW H):=by simp [hb]
    rw [d] at h2
    simp only[List.getElem?_map,A5,DataW.lit.injEq,Lit.string.injEq] at h2
    obtain ⟨s',k,rfl⟩:=h2
    have e:ofL s.data.toList=s:=by unfold ofL;simp
    simp [h1,k,e]
   ·rw [A6 yE,A6 (by simp;omega)]
  ·cases h
theorem ZqK {P:Program} {W:World} {a:String} {ss:List (List UInt8)} {b:List (String × DataW Unit)} {g:Nat} {t e:TypeId} {n:Nat}
  (hg:P.globalNamed a=some g) (d:(P.globals[g]?).map (·.type)=some t) (ht:P.underlying t=some (.array n e)) (he:P.underlying e=some .string) (f:P.cellsOf e=1) (i:P.cellsOf t=n)
  (h:laidMet P ((a,.agg (ss.map fun s=>.lit (.string s)))::b) W):W.var? P a=some (ss.map fun s=>Value.string (ofL s)).toArray:=by
 obtain ⟨ps,⟨g',t',cs,fuel,p,q,j,k,c,hd,_,_⟩,_⟩:=h
 obtain rfl:=A9 (hg.symm.trans j)
 obtain rfl:=A9 (d.symm.trans k)
 rw [c,←ZoN ht he f i hd]
end
end Go.Proofs.YtlpkbfjcdaanmaaGreatDoor
