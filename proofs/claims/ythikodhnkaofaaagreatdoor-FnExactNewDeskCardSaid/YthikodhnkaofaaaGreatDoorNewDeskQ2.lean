/- Texts of this proof, joined: Mark, Held. What each holds is said at its theorems. -/
import Derived.Test.YthikodhnkaofaaaGreatDoorProg
import Derived.Test.YthikodhnkaofaaaGreatDoorNewDeskQ1
import Derived.Outline
import Derived.WalkSpells
import Derived.StillTailTactics
import Derived.Deep.RegionHeld3
set_option linter.unusedSimpArgs false
set_option linter.unusedVariables false
open Int renaming le_trans→AF
open List renaming drop_eq_getElem_cons→AA,mem_append→AC,drop_of_length_le→AE,set_append_right→AH,set_cons_zero→AI,mem_cons→AJ,append_nil→AK,getElem_append_right→AL
open Nat renaming add_zero→A0,lt_of_lt_of_le→AB,zero_le→AD,lt_irrefl→AG,le_refl→AM,mul_one→AN
open Go.Proofs.Tryz
namespace Go.Proofs.YthikodhnkaofaaaGreatDoor
section
open Go.RowKit
theorem ZMc {w w1:World} {g:Nat} {t:TypeId} {cs:Array Value} {M:List Nat} (h:Blk w g t cs) (ho:ZLq M w w1) (hg:g∉M):Blk w1 g t cs:=(ho.block g h.lt hg).trans h
set_option maxHeartbeats 1600000 in
theorem ZLX (A:Option Addr) (n c:Nat) (ds:List ByteArray) (L:List Nat) (base:Nat) (k:Int) (w:World) (hn:n=ds.length) (hk0:1≤k) (hk1:Qs k ds≤4611686018427387904) (h:Got (ZQ ZsX) base [.slice A n c] ds L w):
  Calls prog 74 #[.slice A n c,.int .i64 k] w fun e w'=>e=.returned (.int .i64 (Qs k ds))∧Got (ZQ ZsX) base [.slice A n c] (ZLp k ds) L w'∧ZLq L w w':=by
 have H:=Lib.hid h
 have HN:=Lib.hid hn
 have hk1':k+n≤4611686018427387904:=by simp only[Qs] at hk1;omega
 clear h hn hk1
 go_enter func74,ntmps74
 go_wp2
 go_loopw [1,5] (fun q j wr=>∃(i:Nat) (kk:Int) (D:List ByteArray),i≤n∧j=.int .i64 i∧q=.int .i64 kk∧1≤kk∧kk+(n - i:Nat)≤4611686018427387904∧Hid (kk=k+i∧D.length=i∧D++ZLp kk (ds.drop i)=ZLp k ds)∧Hid (Got (ZQ ZsX) base [.slice A n c] (D++ds.drop i) L wr)∧Hid (ZLq L w wr)) (fun _ j _=>n - (intOf j).toNat)
 case atStart=>exact ⟨0,k,[],AD _,rfl,rfl,hk0,by omega,⟨by omega,rfl,rfl⟩,H.out,ZLq.refl _ _⟩
 case round=>
  obtain ⟨i,kk,D,hi,rfl,rfl,h1,h2,HD,HG,HO⟩:=hrel
  by_cases hlt:i<n
  ·have hil:i<ds.length:=by have:=HN.out;omega
   obtain ⟨hkk,hDl,hDm⟩:=HD.out
   have hcl:i<(D++ds.drop i).length:=by simp;omega
   obtain ⟨b,off,cs,Lk,rfl,hbL,hLk,hown,hrep,hcells,hput⟩:=HG.out.focus hcl
   obtain ⟨rfl,hlk,_⟩:=hrep
   have HEl:=Lib.hid (ZMk.start (m:=1) hcells rfl hown)
   have hnext:Hid (ds.drop i=ds[i]::ds.drop (i+1)):=AA _
   have HPut:=Lib.hid hput
   have HOwn:=Lib.hid hown
   have HLk:=Lib.hid hLk
   have HLe:=Lib.hid hlk
   have HDn:Hid (kk+1=k+(i+1:Nat)∧(D++[mTx kk]).length=i+1∧(D++[mTx kk])++ZLp (kk+1) (ds.drop (i+1))=ZLp k ds):=by
    refine ⟨by omega,by simp [hDl],?_⟩
    rw [←hDm,hnext.out];simp [ZLp]
   have hset:Hid ((D++ds.drop i).set i (mTx kk)=(D++[mTx kk])++ds.drop (i+1)):=by
    rw [Hid,AH _ _ (by omega),show i - D.length=0 by omega,hnext.out,AI];simp
   clear hput hown hLk hcells hkk hDl hDm hlk
   simp only[show ZsX.size=1 from rfl,AN] at HEl HPut
   go_wp2_with (go_at_call 71;refine (ZLf _ _ (by omega) (by omega)).mono ?_;rintro e w1 ⟨rfl,hb1⟩;have E1:=Lib.hid (HEl.out.later hb1);have q1:=E1.out.at (j:=0) rfl;have z1:=E1.out.frozen (off+i);clear hb1;simp only[A0] at q1)
   have E2:=Lib.hid (E1.out.set 0 (by omega) (.string (mTx kk)))
   have hO2:=Lib.hid (ZLD HOwn.out E2.out.plain E2.out.only (by rw [HLe.out];simp))
   have HGn:=Lib.hid (HPut.out _ _ (mTx kk) E2.out.only E2.out.cells E2.out.rest (by rw [HLe.out];exact ⟨rfl,rfl,ZLW _ (by omega)⟩) hO2.out)
   have HOn:=Lib.hid (HO.out.trans (E2.out.only.mono (fun y m=>by rcases AJ.1 m with rfl | m;exact hbL;exact HLk.out y m)))
   rw [hset.out] at HGn
   simp only[A0] at HGn HOn
   clear E2 hO2 HPut
   go_wp2_with fail
   go_roundw
   case rel=>exact ⟨i+1,kk+1,_,by omega,by go_num,rfl,by omega,by omega,HDn,HGn,HOn⟩
   case measure=>simp [intOf];omega
  ·obtain rfl:i=n:=by omega
   have hf:Hid (Qs k ds=kk∧D=ZLp k ds):=by
    obtain ⟨h1,h2,h3⟩:=HD.out
    have e:ds.drop i=[]:=AE (by have:=HN.out;omega)
    rw [e] at h3
    simp [ZLp] at h3
    exact ⟨by have:=HN.out;simp only[Qs];omega,h3⟩
   have e:Hid (ds.drop i=[]):=AE (by have:=HN.out;omega)
   rw [e.out,AK] at HG
   go_wp2
   go_ret
   exact ⟨ZL2 hf.out.1.symm,by rw [←hf.out.2];exact HG.out,HO.out⟩
set_option maxHeartbeats 1600000 in
theorem ZNH (A:Option Addr) (n c:Nat) (ds:List Int) (L:List Nat) (base:Nat) (k:Int) (w:World) (hn:n=ds.length) (hk0:1≤k) (hk1:ZLg k ds≤4611686018427387904) (h:Got (ZQ Zj7) base [.slice A n c] ds L w):
  Calls prog 38 #[.slice A n c,.int .i64 k] w fun e w'=>e=.returned (.int .i64 (ZLg k ds))∧Got (ZQ Zj7) base [.slice A n c] (ZLY k ds) L w'∧ZLq L w w':=by
 have H:=Lib.hid h
 have HN:=Lib.hid hn
 have hk1':k+n≤4611686018427387904:=by simp only[ZLg] at hk1;omega
 clear h hn hk1
 go_enter func38,ntmps38
 go_wp2
 go_loopw [1,5] (fun q j wr=>∃(i:Nat) (kk:Int) (D:List Int),i≤n∧j=.int .i64 i∧q=.int .i64 kk∧1≤kk∧kk+(n - i:Nat)≤4611686018427387904∧Hid (kk=k+i∧D.length=i∧D++ZLY kk (ds.drop i)=ZLY k ds)∧Hid (Got (ZQ Zj7) base [.slice A n c] (D++ds.drop i) L wr)∧Hid (ZLq L w wr)) (fun _ j _=>n - (intOf j).toNat)
 case atStart=>exact ⟨0,k,[],AD _,rfl,rfl,hk0,by omega,⟨by omega,rfl,rfl⟩,H.out,ZLq.refl _ _⟩
 case round=>
  obtain ⟨i,kk,D,hi,rfl,rfl,h1,h2,HD,HG,HO⟩:=hrel
  by_cases hlt:i<n
  ·have hil:i<ds.length:=by have:=HN.out;omega
   obtain ⟨hkk,hDl,hDm⟩:=HD.out
   have hcl:i<(D++ds.drop i).length:=by simp;omega
   obtain ⟨b,off,cs,Lk,rfl,hbL,hLk,hown,hrep,hcells,hput⟩:=HG.out.focus hcl
   obtain ⟨rfl,hlk⟩:=hrep
   have HEl:=Lib.hid (ZMk.start (m:=1) hcells rfl hown)
   have hnext:Hid (ds.drop i=ds[i]::ds.drop (i+1)):=AA _
   have HPut:=Lib.hid hput
   have HOwn:=Lib.hid hown
   have HLk:=Lib.hid hLk
   have HLe:=Lib.hid hlk
   have HDn:Hid (kk+1=k+(i+1:Nat)∧(D++[kk]).length=i+1∧(D++[kk])++ZLY (kk+1) (ds.drop (i+1))=ZLY k ds):=by
    refine ⟨by omega,by simp [hDl],?_⟩
    rw [←hDm,hnext.out];simp [ZLY]
   have hset:Hid ((D++ds.drop i).set i (kk)=(D++[kk])++ds.drop (i+1)):=by
    rw [Hid,AH _ _ (by omega),show i - D.length=0 by omega,hnext.out,AI];simp
   clear hput hown hLk hcells hkk hDl hDm hlk
   simp only[show Zj7.size=1 from rfl,AN] at HEl HPut
   have q1:=HEl.out.at (j:=0) rfl
   have z1:=HEl.out.frozen (off+i)
   simp only[A0] at q1
   go_wp2_with fail
   have E2:=Lib.hid (HEl.out.set 0 (by omega) (.int .i64 kk))
   have hO2:=Lib.hid (ZLD HOwn.out E2.out.plain E2.out.only (by rw [HLe.out];simp))
   have HGn:=Lib.hid (HPut.out _ _ (kk) E2.out.only E2.out.cells E2.out.rest (by rw [HLe.out];exact ⟨rfl,rfl⟩) hO2.out)
   have HOn:=Lib.hid (HO.out.trans (E2.out.only.mono (fun y m=>by rcases AJ.1 m with rfl | m;exact hbL;exact HLk.out y m)))
   rw [hset.out] at HGn
   simp only[A0] at HGn HOn
   clear E2 hO2 HPut
   go_wp2_with fail
   go_roundw
   case rel=>exact ⟨i+1,kk+1,_,by omega,by go_num,rfl,by omega,by omega,HDn,HGn,HOn⟩
   case measure=>simp [intOf];omega
  ·obtain rfl:i=n:=by omega
   have hf:Hid (ZLg k ds=kk∧D=ZLY k ds):=by
    obtain ⟨h1,h2,h3⟩:=HD.out
    have e:ds.drop i=[]:=AE (by have:=HN.out;omega)
    rw [e] at h3
    simp [ZLY] at h3
    exact ⟨by have:=HN.out;simp only[ZLg];omega,h3⟩
   have e:Hid (ds.drop i=[]):=AE (by have:=HN.out;omega)
   rw [e.out,AK] at HG
   go_wp2
   go_ret
   exact ⟨ZL2 hf.out.1.symm,by rw [←hf.out.2];exact HG.out,HO.out⟩
set_option maxRecDepth 100000 in
set_option maxHeartbeats 4000000 in
theorem ZMO (A:Option Addr) (n c:Nat) (ds:List Za) (L:List Nat) (base:Nat) (k:Int) (w:World) (hn:n=ds.length) (hm:n≤9223372036854775807) (hk0:1≤k) (hk1:ZLl k ds≤4611686018427387904) (h:Got (ZQ Yf) base [.slice A n c] ds L w):
  Calls prog 41 #[.slice A n c,.int .i64 k] w fun e w'=>e=.returned (.int .i64 (ZLl k ds))∧Got (ZQ Yf) base [.slice A n c] (ZLK k ds) L w'∧ZLq L w w':=by
 have H:=Lib.hid h
 have HN:=Lib.hid hn
 have HK:=Lib.hid hk1
 clear h hn hk1
 go_enter func41,ntmps41
 go_wp2
 go_loopw [1,5] (fun q j wr=>∃(i:Nat) (kk:Int) (D:List Za),i≤n∧j=.int .i64 i∧q=.int .i64 kk∧1≤kk∧Hid (ZLl kk (ds.drop i)=ZLl k ds∧D.length=i∧D++ZLK kk (ds.drop i)=ZLK k ds)∧Hid (Got (ZQ Yf) base [.slice A n c] (D++ds.drop i) L wr)∧Hid (ZLq L w wr)) (fun _ j _=>n - (intOf j).toNat)
 case atStart=>exact ⟨0,k,[],AD _,rfl,rfl,hk0,⟨rfl,rfl,rfl⟩,H.out,ZLq.refl _ _⟩
 case round=>
  obtain ⟨i,kk,D,hi,rfl,rfl,h1,HD,HG,HO⟩:=hrel
  by_cases hlt:i<n
  ·have hil:i<ds.length:=by have:=HN.out;omega
   obtain ⟨hkk,hDl,hDm⟩:=HD.out
   have hcl:i<(D++ds.drop i).length:=by simp;omega
   obtain ⟨b,off,cs,Lk,rfl,hbL,hLk,hown,hrep,hcells,hput⟩:=HG.out.focus hcl
   have hnext:Hid (ds.drop i=ds[i]::ds.drop (i+1)):=AA _
   have hxi:(D++ds.drop i)[i]=ds[i]:=by
    rw [AL (by omega)];simp [hDl]
   rw [hxi] at hrep
   clear hxi
   generalize ds[i]=x at hrep hnext
   have hnb:Hid (ZLL kk x≤4611686018427387904):=by
    have:=ZLT (ZLL kk x) (ds.drop (i+1))
    rw [hnext.out] at hkk
    have hk:=HK.out
    rw [←hkk] at hk
    exact AF this hk
   have hnb1:=hnb.out
   have hnb2:=ZM7 kk x
   unfold ZLL at hnb1 hnb2
   have HDn:Hid (ZLl (ZLL kk x) (ds.drop (i+1))=ZLl k ds∧(D++[ZM8 kk x]).length=i+1∧(D++[ZM8 kk x])++ZLK (ZLL kk x) (ds.drop (i+1))=ZLK k ds):=by
    refine ⟨by rw [←hkk,hnext.out];rfl,by simp [hDl],?_⟩
    rw [←hDm,hnext.out];simp [ZLK]
   have hset:Hid ((D++ds.drop i).set i (ZM8 kk x)=(D++[ZM8 kk x])++ds.drop (i+1)):=by
    rw [Hid,AH _ _ (by omega),show i - D.length=0 by omega,hnext.out,AI];simp
   obtain ⟨A1,c1,L1,rfl,hLL,t0,n1,m1,s1⟩:=hrep
   unfold maxLen at m1
   subst Lk
   have HEl:=Lib.hid (ZMk.start (m:=2) hcells rfl hown)
   have hbn:=Lib.hid hown.head
   have G1:Hid (Got (ZQ ZsX) base [.slice A1 x.args.length c1] x.args L1 wr):=⟨⟨A1,c1,rfl,n1,(by unfold maxLen;omega),s1⟩,hown.tail⟩
   have bn1:Hid (b∉L1):=fun m=>hown.head (by simp [m])
   have sb1:Hid (∀y∈L1,y∈L1):=fun y m=>by simp [m]
   clear s1
   have HPut:=Lib.hid hput
   have HOwn:=Lib.hid hown
   have HLk:=Lib.hid hLk
   clear hput hown hLk hcells hkk hDl hDm
   simp only[show Yf.size=2 from rfl] at HEl HPut
   have q0:=HEl.out.at (j:=0) rfl
   have z0:=HEl.out.frozen (off+i * 2)
   have q1:=HEl.out.at (j:=1) rfl
   have z1:=HEl.out.frozen (off+i * 2+1)
   simp only[A0] at q0
   have gm0:(0:Int)≤0:=by omega
   have mono_x_args:=ZLj (kk+1) x.args
   go_wp2_with fail
   refine (ZLf _ _ (by omega) (by omega)).mono ?_
   rintro e w1 ⟨rfl,hb1⟩
   have HEl:=Lib.hid (HEl.out.later hb1)
   have G1:=Lib.hid (G1.out.later hb1)
   clear hb1
   clear q0 z0 q1 z1
   have q0:=HEl.out.at (j:=0) rfl
   have z0:=HEl.out.frozen (off+i * 2)
   have q1:=HEl.out.at (j:=1) rfl
   have z1:=HEl.out.frozen (off+i * 2+1)
   simp only[A0] at q0
   go_wp2_with fail
   have G1:=Lib.hid (G1.out.setFar (p:=⟨b,off+i * 2+0,none⟩) bn1.out (.string (mTx (kk))))
   refine (ZLX A1 _ c1 x.args L1 base _ _ rfl (by omega) (by omega) G1.out).mono ?_
   rintro e w2 ⟨rfl,g2,on2⟩
   have HEl:=Lib.hid ((HEl.out.set 0 (by omega) (.string (mTx (kk)))).marked on2 sb1.out bn1.out)
   have G1:=Lib.hid g2
   clear g2 on2
   clear q0 z0 q1 z1
   have q0:=HEl.out.at (j:=0) rfl
   have z0:=HEl.out.frozen (off+i * 2)
   have q1:=HEl.out.at (j:=1) rfl
   have z1:=HEl.out.frozen (off+i * 2+1)
   simp only[A0] at q0
   obtain ⟨nn1,mm1,ss1⟩:=ZeR G1.out.rep
   have hO2:=Lib.hid (ZLD HOwn.out HEl.out.plain HEl.out.only (fun y m=>by (try simp only[AC] at m)<;>(exact G1.out.own.plain y m)))
   have HGn:=Lib.hid (HPut.out _ _ (ZM8 kk x) HEl.out.only HEl.out.cells HEl.out.rest ⟨A1,c1,L1,by simp [ZM8,ZLt],rfl,ZLW _ (by omega),nn1,mm1,ss1⟩ hO2.out)
   have HOn:=Lib.hid (HO.out.trans (HEl.out.only.mono (fun y m=>by rcases AJ.1 m with rfl | m;exact hbL;exact HLk.out y m)))
   rw [hset.out] at HGn
   try simp only[A0] at HGn HOn
   clear HEl hO2 HPut G1 nn1 mm1 ss1
   go_wp2_with fail
   go_roundw
   case rel=>exact ⟨i+1,ZLL kk x,_,by omega,by go_num,rfl,by unfold ZLL;omega,HDn,HGn,HOn⟩
   case measure=>simp [intOf];omega
  ·obtain rfl:i=n:=by omega
   have e:Hid (ds.drop i=[]):=AE (by have:=HN.out;omega)
   have hf:Hid (ZLl k ds=kk∧D=ZLK k ds):=by
    obtain ⟨h1,h2,h3⟩:=HD.out
    rw [e.out] at h3 h1
    simp [ZLK] at h3
    exact ⟨h1.symm,h3⟩
   rw [e.out,AK] at HG
   go_wp2
   go_ret
   exact ⟨ZL2 hf.out.1.symm,by rw [←hf.out.2];exact HG.out,HO.out⟩
set_option maxRecDepth 100000 in
set_option maxHeartbeats 4000000 in
theorem ZOV (A:Option Addr) (n c:Nat) (ds:List Zx) (L:List Nat) (base:Nat) (k:Int) (w:World) (hn:n=ds.length) (hm:n≤9223372036854775807) (hk0:1≤k) (hk1:ZLE k ds≤4611686018427387904) (h:Got (ZQ ZDh) base [.slice A n c] ds L w):
  Calls prog 118 #[.slice A n c,.int .i64 k] w fun e w'=>e=.returned (.int .i64 (ZLE k ds))∧Got (ZQ ZDh) base [.slice A n c] (ZL1 k ds) L w'∧ZLq L w w':=by
 have H:=Lib.hid h
 have HN:=Lib.hid hn
 have HK:=Lib.hid hk1
 clear h hn hk1
 go_enter func118,ntmps118
 go_wp2
 go_loopw [1,5] (fun q j wr=>∃(i:Nat) (kk:Int) (D:List Zx),i≤n∧j=.int .i64 i∧q=.int .i64 kk∧1≤kk∧Hid (ZLE kk (ds.drop i)=ZLE k ds∧D.length=i∧D++ZL1 kk (ds.drop i)=ZL1 k ds)∧Hid (Got (ZQ ZDh) base [.slice A n c] (D++ds.drop i) L wr)∧Hid (ZLq L w wr)) (fun _ j _=>n - (intOf j).toNat)
 case atStart=>exact ⟨0,k,[],AD _,rfl,rfl,hk0,⟨rfl,rfl,rfl⟩,H.out,ZLq.refl _ _⟩
 case round=>
  obtain ⟨i,kk,D,hi,rfl,rfl,h1,HD,HG,HO⟩:=hrel
  by_cases hlt:i<n
  ·have hil:i<ds.length:=by have:=HN.out;omega
   obtain ⟨hkk,hDl,hDm⟩:=HD.out
   have hcl:i<(D++ds.drop i).length:=by simp;omega
   obtain ⟨b,off,cs,Lk,rfl,hbL,hLk,hown,hrep,hcells,hput⟩:=HG.out.focus hcl
   have hnext:Hid (ds.drop i=ds[i]::ds.drop (i+1)):=AA _
   have hxi:(D++ds.drop i)[i]=ds[i]:=by
    rw [AL (by omega)];simp [hDl]
   rw [hxi] at hrep
   clear hxi
   generalize ds[i]=x at hrep hnext
   have hnb:Hid (ZLN kk x≤4611686018427387904):=by
    have:=ZMr (ZLN kk x) (ds.drop (i+1))
    rw [hnext.out] at hkk
    have hk:=HK.out
    rw [←hkk] at hk
    exact AF this hk
   have hnb1:=hnb.out
   have hnb2:=ZNd kk x
   unfold ZLN at hnb1 hnb2
   have HDn:Hid (ZLE (ZLN kk x) (ds.drop (i+1))=ZLE k ds∧(D++[ZNx kk x]).length=i+1∧(D++[ZNx kk x])++ZL1 (ZLN kk x) (ds.drop (i+1))=ZL1 k ds):=by
    refine ⟨by rw [←hkk,hnext.out];rfl,by simp [hDl],?_⟩
    rw [←hDm,hnext.out];simp [ZL1]
   have hset:Hid ((D++ds.drop i).set i (ZNx kk x)=(D++[ZNx kk x])++ds.drop (i+1)):=by
    rw [Hid,AH _ _ (by omega),show i - D.length=0 by omega,hnext.out,AI];simp
   obtain ⟨rfl,hLL,t0,t1⟩:=hrep
   subst hLL
   have HEl:=Lib.hid (ZMk.start (m:=2) hcells rfl hown)
   have hbn:=Lib.hid hown.head
   have HPut:=Lib.hid hput
   have HOwn:=Lib.hid hown
   have HLk:=Lib.hid hLk
   clear hput hown hLk hcells hkk hDl hDm
   simp only[show ZDh.size=2 from rfl] at HEl HPut
   have q0:=HEl.out.at (j:=0) rfl
   have z0:=HEl.out.frozen (off+i * 2)
   have q1:=HEl.out.at (j:=1) rfl
   have z1:=HEl.out.frozen (off+i * 2+1)
   simp only[A0] at q0
   have gm0:(0:Int)≤0:=by omega
   go_wp2_with fail
   refine (ZLf _ _ (by omega) (by omega)).mono ?_
   rintro e w1 ⟨rfl,hb1⟩
   have HEl:=Lib.hid (HEl.out.later hb1)
   clear hb1
   clear q0 z0 q1 z1
   have q0:=HEl.out.at (j:=0) rfl
   have z0:=HEl.out.frozen (off+i * 2)
   have q1:=HEl.out.at (j:=1) rfl
   have z1:=HEl.out.frozen (off+i * 2+1)
   simp only[A0] at q0
   go_wp2_with fail
   refine (ZLf _ _ (by omega) (by omega)).mono ?_
   rintro e w2 ⟨rfl,hb2⟩
   have HEl:=Lib.hid ((HEl.out.set 0 (by omega) (.string (mTx (kk)))).later hb2)
   clear hb2
   clear q0 z0 q1 z1
   have q0:=HEl.out.at (j:=0) rfl
   have z0:=HEl.out.frozen (off+i * 2)
   have q1:=HEl.out.at (j:=1) rfl
   have z1:=HEl.out.frozen (off+i * 2+1)
   simp only[A0] at q0
   have HEl:=Lib.hid (HEl.out.set 1 (by omega) (.string (mTx (kk+1))))
   have hO2:=Lib.hid (ZLD HOwn.out HEl.out.plain HEl.out.only (fun y m=>by (try simp only[AC,List.not_mem_nil] at m)<;>(exact m.elim)))
   have HGn:=Lib.hid (HPut.out _ _ (ZNx kk x) HEl.out.only HEl.out.cells HEl.out.rest ⟨by simp [ZNx],rfl,ZLW _ (by omega),ZLW _ (by omega)⟩ hO2.out)
   have HOn:=Lib.hid (HO.out.trans (HEl.out.only.mono (fun y m=>by rcases AJ.1 m with rfl | m;exact hbL;exact HLk.out y m)))
   rw [hset.out] at HGn
   try simp only[A0] at HGn HOn
   clear HEl hO2 HPut
   go_wp2_with fail
   go_roundw
   case rel=>exact ⟨i+1,ZLN kk x,_,by omega,by go_num,rfl,by unfold ZLN;omega,HDn,HGn,HOn⟩
   case measure=>simp [intOf];omega
  ·obtain rfl:i=n:=by omega
   have e:Hid (ds.drop i=[]):=AE (by have:=HN.out;omega)
   have hf:Hid (ZLE k ds=kk∧D=ZL1 k ds):=by
    obtain ⟨h1,h2,h3⟩:=HD.out
    rw [e.out] at h3 h1
    simp [ZL1] at h3
    exact ⟨h1.symm,h3⟩
   rw [e.out,AK] at HG
   go_wp2
   go_ret
   exact ⟨ZL2 hf.out.1.symm,by rw [←hf.out.2];exact HG.out,HO.out⟩
set_option maxRecDepth 100000 in
set_option maxHeartbeats 4000000 in
theorem ZOO (A:Option Addr) (n c:Nat) (ds:List Zu) (L:List Nat) (base:Nat) (k:Int) (w:World) (hn:n=ds.length) (hm:n≤9223372036854775807) (hk0:1≤k) (hk1:ZLo k ds≤4611686018427387904) (h:Got (ZQ ZC9) base [.slice A n c] ds L w):
  Calls prog 72 #[.slice A n c,.int .i64 k] w fun e w'=>e=.returned (.int .i64 (ZLo k ds))∧Got (ZQ ZC9) base [.slice A n c] (ZL0 k ds) L w'∧ZLq L w w':=by
 have H:=Lib.hid h
 have HN:=Lib.hid hn
 have HK:=Lib.hid hk1
 clear h hn hk1
 go_enter func72,ntmps72
 go_wp2
 go_loopw [1,5] (fun q j wr=>∃(i:Nat) (kk:Int) (D:List Zu),i≤n∧j=.int .i64 i∧q=.int .i64 kk∧1≤kk∧Hid (ZLo kk (ds.drop i)=ZLo k ds∧D.length=i∧D++ZL0 kk (ds.drop i)=ZL0 k ds)∧Hid (Got (ZQ ZC9) base [.slice A n c] (D++ds.drop i) L wr)∧Hid (ZLq L w wr)) (fun _ j _=>n - (intOf j).toNat)
 case atStart=>exact ⟨0,k,[],AD _,rfl,rfl,hk0,⟨rfl,rfl,rfl⟩,H.out,ZLq.refl _ _⟩
 case round=>
  obtain ⟨i,kk,D,hi,rfl,rfl,h1,HD,HG,HO⟩:=hrel
  by_cases hlt:i<n
  ·have hil:i<ds.length:=by have:=HN.out;omega
   obtain ⟨hkk,hDl,hDm⟩:=HD.out
   have hcl:i<(D++ds.drop i).length:=by simp;omega
   obtain ⟨b,off,cs,Lk,rfl,hbL,hLk,hown,hrep,hcells,hput⟩:=HG.out.focus hcl
   have hnext:Hid (ds.drop i=ds[i]::ds.drop (i+1)):=AA _
   have hxi:(D++ds.drop i)[i]=ds[i]:=by
    rw [AL (by omega)];simp [hDl]
   rw [hxi] at hrep
   clear hxi
   generalize ds[i]=x at hrep hnext
   have hnb:Hid (ZLO kk x≤4611686018427387904):=by
    have:=ZMt (ZLO kk x) (ds.drop (i+1))
    rw [hnext.out] at hkk
    have hk:=HK.out
    rw [←hkk] at hk
    exact AF this hk
   have hnb1:=hnb.out
   have hnb2:=ZNf kk x
   unfold ZLO at hnb1 hnb2
   have HDn:Hid (ZLo (ZLO kk x) (ds.drop (i+1))=ZLo k ds∧(D++[ZNh kk x]).length=i+1∧(D++[ZNh kk x])++ZL0 (ZLO kk x) (ds.drop (i+1))=ZL0 k ds):=by
    refine ⟨by rw [←hkk,hnext.out];rfl,by simp [hDl],?_⟩
    rw [←hDm,hnext.out];simp [ZL0]
   have hset:Hid ((D++ds.drop i).set i (ZNh kk x)=(D++[ZNh kk x])++ds.drop (i+1)):=by
    rw [Hid,AH _ _ (by omega),show i - D.length=0 by omega,hnext.out,AI];simp
   obtain ⟨A1,c1,L1,rfl,hLL,t0,t1,t2,n1,m1,s1⟩:=hrep
   unfold maxLen at m1
   subst Lk
   have HEl:=Lib.hid (ZMk.start (m:=5) hcells rfl hown)
   have hbn:=Lib.hid hown.head
   have G1:Hid (Got (ZQ ZsX) base [.slice A1 x.pattern.args.length c1] x.pattern.args L1 wr):=⟨⟨A1,c1,rfl,n1,(by unfold maxLen;omega),s1⟩,hown.tail⟩
   have bn1:Hid (b∉L1):=fun m=>hown.head (by simp [m])
   have sb1:Hid (∀y∈L1,y∈L1):=fun y m=>by simp [m]
   clear s1
   have HPut:=Lib.hid hput
   have HOwn:=Lib.hid hown
   have HLk:=Lib.hid hLk
   clear hput hown hLk hcells hkk hDl hDm
   simp only[show ZC9.size=5 from rfl] at HEl HPut
   have q0:=HEl.out.at (j:=0) rfl
   have z0:=HEl.out.frozen (off+i * 5)
   have q1:=HEl.out.at (j:=1) rfl
   have z1:=HEl.out.frozen (off+i * 5+1)
   have q2:=HEl.out.at (j:=2) rfl
   have z2:=HEl.out.frozen (off+i * 5+2)
   have q3:=HEl.out.at (j:=3) rfl
   have z3:=HEl.out.frozen (off+i * 5+3)
   have q4:=HEl.out.at (j:=4) rfl
   have z4:=HEl.out.frozen (off+i * 5+4)
   simp only[A0] at q0
   have gm0:(0:Int)≤0:=by omega
   have mono_x_pattern_args:=ZLj (kk+1+1) x.pattern.args
   go_wp2_with fail
   refine (ZLf _ _ (by omega) (by omega)).mono ?_
   rintro e w1 ⟨rfl,hb1⟩
   have HEl:=Lib.hid ((HEl.out.set 0 (by omega) (.int .i64 (kk))).later hb1)
   have G1:=Lib.hid ((G1.out.setFar (p:=⟨b,off+i * 5+0,none⟩) bn1.out (.int .i64 (kk))).later hb1)
   clear hb1
   clear q0 z0 q1 z1 q2 z2 q3 z3 q4 z4
   have q0:=HEl.out.at (j:=0) rfl
   have z0:=HEl.out.frozen (off+i * 5)
   have q1:=HEl.out.at (j:=1) rfl
   have z1:=HEl.out.frozen (off+i * 5+1)
   have q2:=HEl.out.at (j:=2) rfl
   have z2:=HEl.out.frozen (off+i * 5+2)
   have q3:=HEl.out.at (j:=3) rfl
   have z3:=HEl.out.frozen (off+i * 5+3)
   have q4:=HEl.out.at (j:=4) rfl
   have z4:=HEl.out.frozen (off+i * 5+4)
   simp only[A0] at q0
   go_wp2_with fail
   have G1:=Lib.hid (G1.out.setFar (p:=⟨b,off+i * 5+1,none⟩) bn1.out (.string (mTx (kk+1))))
   refine (ZLX A1 _ c1 x.pattern.args L1 base _ _ rfl (by omega) (by omega) G1.out).mono ?_
   rintro e w2 ⟨rfl,g2,on2⟩
   have HEl:=Lib.hid ((HEl.out.set 1 (by omega) (.string (mTx (kk+1)))).marked on2 sb1.out bn1.out)
   have G1:=Lib.hid g2
   clear g2 on2
   clear q0 z0 q1 z1 q2 z2 q3 z3 q4 z4
   have q0:=HEl.out.at (j:=0) rfl
   have z0:=HEl.out.frozen (off+i * 5)
   have q1:=HEl.out.at (j:=1) rfl
   have z1:=HEl.out.frozen (off+i * 5+1)
   have q2:=HEl.out.at (j:=2) rfl
   have z2:=HEl.out.frozen (off+i * 5+2)
   have q3:=HEl.out.at (j:=3) rfl
   have z3:=HEl.out.frozen (off+i * 5+3)
   have q4:=HEl.out.at (j:=4) rfl
   have z4:=HEl.out.frozen (off+i * 5+4)
   simp only[A0] at q0
   go_wp2_with fail
   refine (ZLf _ _ (by omega) (by omega)).mono ?_
   rintro e w3 ⟨rfl,hb3⟩
   have HEl:=Lib.hid (HEl.out.later hb3)
   have G1:=Lib.hid (G1.out.later hb3)
   clear hb3
   clear q0 z0 q1 z1 q2 z2 q3 z3 q4 z4
   have q0:=HEl.out.at (j:=0) rfl
   have z0:=HEl.out.frozen (off+i * 5)
   have q1:=HEl.out.at (j:=1) rfl
   have z1:=HEl.out.frozen (off+i * 5+1)
   have q2:=HEl.out.at (j:=2) rfl
   have z2:=HEl.out.frozen (off+i * 5+2)
   have q3:=HEl.out.at (j:=3) rfl
   have z3:=HEl.out.frozen (off+i * 5+3)
   have q4:=HEl.out.at (j:=4) rfl
   have z4:=HEl.out.frozen (off+i * 5+4)
   simp only[A0] at q0
   go_wp2_with fail
   refine (ZLf _ _ (by omega) (by omega)).mono ?_
   rintro e w4 ⟨rfl,hb4⟩
   have HEl:=Lib.hid ((HEl.out.set 3 (by omega) (.string (mTx (Qs (kk+1+1) x.pattern.args)))).later hb4)
   have G1:=Lib.hid ((G1.out.setFar (p:=⟨b,off+i * 5+3,none⟩) bn1.out (.string (mTx (Qs (kk+1+1) x.pattern.args)))).later hb4)
   clear hb4
   clear q0 z0 q1 z1 q2 z2 q3 z3 q4 z4
   have q0:=HEl.out.at (j:=0) rfl
   have z0:=HEl.out.frozen (off+i * 5)
   have q1:=HEl.out.at (j:=1) rfl
   have z1:=HEl.out.frozen (off+i * 5+1)
   have q2:=HEl.out.at (j:=2) rfl
   have z2:=HEl.out.frozen (off+i * 5+2)
   have q3:=HEl.out.at (j:=3) rfl
   have z3:=HEl.out.frozen (off+i * 5+3)
   have q4:=HEl.out.at (j:=4) rfl
   have z4:=HEl.out.frozen (off+i * 5+4)
   simp only[A0] at q0
   have HEl:=Lib.hid (HEl.out.set 4 (by omega) (.string (mTx (Qs (kk+1+1) x.pattern.args+1))))
   have G1:=Lib.hid (G1.out.setFar (p:=⟨b,off+i * 5+4,none⟩) bn1.out (.string (mTx (Qs (kk+1+1) x.pattern.args+1))))
   obtain ⟨nn1,mm1,ss1⟩:=ZeR G1.out.rep
   have hO2:=Lib.hid (ZLD HOwn.out HEl.out.plain HEl.out.only (fun y m=>by (try simp only[AC] at m)<;>(exact G1.out.own.plain y m)))
   have HGn:=Lib.hid (HPut.out _ _ (ZNh kk x) HEl.out.only HEl.out.cells HEl.out.rest ⟨A1,c1,L1,by simp [ZNh,ZLt],rfl,ZLW _ (by omega),ZLW _ (by omega),ZLW _ (by omega),nn1,mm1,ss1⟩ hO2.out)
   have HOn:=Lib.hid (HO.out.trans (HEl.out.only.mono (fun y m=>by rcases AJ.1 m with rfl | m;exact hbL;exact HLk.out y m)))
   rw [hset.out] at HGn
   try simp only[A0] at HGn HOn
   clear HEl hO2 HPut G1 nn1 mm1 ss1
   go_wp2_with fail
   go_roundw
   case rel=>exact ⟨i+1,ZLO kk x,_,by omega,by go_num,rfl,by unfold ZLO;omega,HDn,HGn,HOn⟩
   case measure=>simp [intOf];omega
  ·obtain rfl:i=n:=by omega
   have e:Hid (ds.drop i=[]):=AE (by have:=HN.out;omega)
   have hf:Hid (ZLo k ds=kk∧D=ZL0 k ds):=by
    obtain ⟨h1,h2,h3⟩:=HD.out
    rw [e.out] at h3 h1
    simp [ZL0] at h3
    exact ⟨h1.symm,h3⟩
   rw [e.out,AK] at HG
   go_wp2
   go_ret
   exact ⟨ZL2 hf.out.1.symm,by rw [←hf.out.2];exact HG.out,HO.out⟩
set_option maxRecDepth 100000 in
set_option maxHeartbeats 4000000 in
theorem ZOc (A:Option Addr) (n c:Nat) (ds:List Zy) (L:List Nat) (base:Nat) (k:Int) (w:World) (hn:n=ds.length) (hm:n≤9223372036854775807) (hk0:1≤k) (hk1:ZLn k ds≤4611686018427387904) (h:Got (ZQ ZxH) base [.slice A n c] ds L w):
  Calls prog 73 #[.slice A n c,.int .i64 k] w fun e w'=>e=.returned (.int .i64 (ZLn k ds))∧Got (ZQ ZxH) base [.slice A n c] (ZLJ k ds) L w'∧ZLq L w w':=by
 have H:=Lib.hid h
 have HN:=Lib.hid hn
 have HK:=Lib.hid hk1
 clear h hn hk1
 go_enter func73,ntmps73
 go_wp2
 go_loopw [1,5] (fun q j wr=>∃(i:Nat) (kk:Int) (D:List Zy),i≤n∧j=.int .i64 i∧q=.int .i64 kk∧1≤kk∧Hid (ZLn kk (ds.drop i)=ZLn k ds∧D.length=i∧D++ZLJ kk (ds.drop i)=ZLJ k ds)∧Hid (Got (ZQ ZxH) base [.slice A n c] (D++ds.drop i) L wr)∧Hid (ZLq L w wr)) (fun _ j _=>n - (intOf j).toNat)
 case atStart=>exact ⟨0,k,[],AD _,rfl,rfl,hk0,⟨rfl,rfl,rfl⟩,H.out,ZLq.refl _ _⟩
 case round=>
  obtain ⟨i,kk,D,hi,rfl,rfl,h1,HD,HG,HO⟩:=hrel
  by_cases hlt:i<n
  ·have hil:i<ds.length:=by have:=HN.out;omega
   obtain ⟨hkk,hDl,hDm⟩:=HD.out
   have hcl:i<(D++ds.drop i).length:=by simp;omega
   obtain ⟨b,off,cs,Lk,rfl,hbL,hLk,hown,hrep,hcells,hput⟩:=HG.out.focus hcl
   have hnext:Hid (ds.drop i=ds[i]::ds.drop (i+1)):=AA _
   have hxi:(D++ds.drop i)[i]=ds[i]:=by
    rw [AL (by omega)];simp [hDl]
   rw [hxi] at hrep
   clear hxi
   generalize ds[i]=x at hrep hnext
   have hnb:Hid (ZLu kk x≤4611686018427387904):=by
    have:=ZMf (ZLu kk x) (ds.drop (i+1))
    rw [hnext.out] at hkk
    have hk:=HK.out
    rw [←hkk] at hk
    exact AF this hk
   have hnb1:=hnb.out
   have hnb2:=ZMP kk x
   unfold ZLu at hnb1 hnb2
   have HDn:Hid (ZLn (ZLu kk x) (ds.drop (i+1))=ZLn k ds∧(D++[ZMy kk x]).length=i+1∧(D++[ZMy kk x])++ZLJ (ZLu kk x) (ds.drop (i+1))=ZLJ k ds):=by
    refine ⟨by rw [←hkk,hnext.out];rfl,by simp [hDl],?_⟩
    rw [←hDm,hnext.out];simp [ZLJ]
   have hset:Hid ((D++ds.drop i).set i (ZMy kk x)=(D++[ZMy kk x])++ds.drop (i+1)):=by
    rw [Hid,AH _ _ (by omega),show i - D.length=0 by omega,hnext.out,AI];simp
   obtain ⟨A1,c1,L1,rfl,hLL,t0,n1,m1,s1⟩:=hrep
   unfold maxLen at m1
   subst Lk
   have HEl:=Lib.hid (ZMk.start (m:=3) hcells rfl hown)
   have hbn:=Lib.hid hown.head
   have G1:Hid (Got (ZQ ZsX) base [.slice A1 x.pattern.args.length c1] x.pattern.args L1 wr):=⟨⟨A1,c1,rfl,n1,(by unfold maxLen;omega),s1⟩,hown.tail⟩
   have bn1:Hid (b∉L1):=fun m=>hown.head (by simp [m])
   have sb1:Hid (∀y∈L1,y∈L1):=fun y m=>by simp [m]
   clear s1
   have HPut:=Lib.hid hput
   have HOwn:=Lib.hid hown
   have HLk:=Lib.hid hLk
   clear hput hown hLk hcells hkk hDl hDm
   simp only[show ZxH.size=3 from rfl] at HEl HPut
   have q0:=HEl.out.at (j:=0) rfl
   have z0:=HEl.out.frozen (off+i * 3)
   have q1:=HEl.out.at (j:=1) rfl
   have z1:=HEl.out.frozen (off+i * 3+1)
   have q2:=HEl.out.at (j:=2) rfl
   have z2:=HEl.out.frozen (off+i * 3+2)
   simp only[A0] at q0
   have gm0:(0:Int)≤0:=by omega
   have mono_x_pattern_args:=ZLj (kk+1+1) x.pattern.args
   go_wp2_with fail
   refine (ZLf _ _ (by omega) (by omega)).mono ?_
   rintro e w1 ⟨rfl,hb1⟩
   have HEl:=Lib.hid ((HEl.out.set 0 (by omega) (.int .i64 (kk))).later hb1)
   have G1:=Lib.hid ((G1.out.setFar (p:=⟨b,off+i * 3+0,none⟩) bn1.out (.int .i64 (kk))).later hb1)
   clear hb1
   clear q0 z0 q1 z1 q2 z2
   have q0:=HEl.out.at (j:=0) rfl
   have z0:=HEl.out.frozen (off+i * 3)
   have q1:=HEl.out.at (j:=1) rfl
   have z1:=HEl.out.frozen (off+i * 3+1)
   have q2:=HEl.out.at (j:=2) rfl
   have z2:=HEl.out.frozen (off+i * 3+2)
   simp only[A0] at q0
   go_wp2_with fail
   have G1:=Lib.hid (G1.out.setFar (p:=⟨b,off+i * 3+1,none⟩) bn1.out (.string (mTx (kk+1))))
   refine (ZLX A1 _ c1 x.pattern.args L1 base _ _ rfl (by omega) (by omega) G1.out).mono ?_
   rintro e w2 ⟨rfl,g2,on2⟩
   have HEl:=Lib.hid ((HEl.out.set 1 (by omega) (.string (mTx (kk+1)))).marked on2 sb1.out bn1.out)
   have G1:=Lib.hid g2
   clear g2 on2
   clear q0 z0 q1 z1 q2 z2
   have q0:=HEl.out.at (j:=0) rfl
   have z0:=HEl.out.frozen (off+i * 3)
   have q1:=HEl.out.at (j:=1) rfl
   have z1:=HEl.out.frozen (off+i * 3+1)
   have q2:=HEl.out.at (j:=2) rfl
   have z2:=HEl.out.frozen (off+i * 3+2)
   simp only[A0] at q0
   obtain ⟨nn1,mm1,ss1⟩:=ZeR G1.out.rep
   have hO2:=Lib.hid (ZLD HOwn.out HEl.out.plain HEl.out.only (fun y m=>by (try simp only[AC] at m)<;>(exact G1.out.own.plain y m)))
   have HGn:=Lib.hid (HPut.out _ _ (ZMy kk x) HEl.out.only HEl.out.cells HEl.out.rest ⟨A1,c1,L1,by simp [ZMy,ZLt],rfl,ZLW _ (by omega),nn1,mm1,ss1⟩ hO2.out)
   have HOn:=Lib.hid (HO.out.trans (HEl.out.only.mono (fun y m=>by rcases AJ.1 m with rfl | m;exact hbL;exact HLk.out y m)))
   rw [hset.out] at HGn
   try simp only[A0] at HGn HOn
   clear HEl hO2 HPut G1 nn1 mm1 ss1
   go_wp2_with fail
   go_roundw
   case rel=>exact ⟨i+1,ZLu kk x,_,by omega,by go_num,rfl,by unfold ZLu;omega,HDn,HGn,HOn⟩
   case measure=>simp [intOf];omega
  ·obtain rfl:i=n:=by omega
   have e:Hid (ds.drop i=[]):=AE (by have:=HN.out;omega)
   have hf:Hid (ZLn k ds=kk∧D=ZLJ k ds):=by
    obtain ⟨h1,h2,h3⟩:=HD.out
    rw [e.out] at h3 h1
    simp [ZLJ] at h3
    exact ⟨h1.symm,h3⟩
   rw [e.out,AK] at HG
   go_wp2
   go_ret
   exact ⟨ZL2 hf.out.1.symm,by rw [←hf.out.2];exact HG.out,HO.out⟩
set_option maxRecDepth 100000 in
set_option maxHeartbeats 4000000 in
theorem ZNt (A:Option Addr) (n c:Nat) (ds:List Zf) (L:List Nat) (base:Nat) (k:Int) (w:World) (hn:n=ds.length) (hm:n≤9223372036854775807) (hk0:1≤k) (hk1:ZLc k ds≤4611686018427387904) (h:Got (ZQ Zby) base [.slice A n c] ds L w):
  Calls prog 34 #[.slice A n c,.int .i64 k] w fun e w'=>e=.returned (.int .i64 (ZLc k ds))∧Got (ZQ Zby) base [.slice A n c] (ZLy k ds) L w'∧ZLq L w w':=by
 have H:=Lib.hid h
 have HN:=Lib.hid hn
 have HK:=Lib.hid hk1
 clear h hn hk1
 go_enter func34,ntmps34
 go_wp2
 go_loopw [1,5] (fun q j wr=>∃(i:Nat) (kk:Int) (D:List Zf),i≤n∧j=.int .i64 i∧q=.int .i64 kk∧1≤kk∧Hid (ZLc kk (ds.drop i)=ZLc k ds∧D.length=i∧D++ZLy kk (ds.drop i)=ZLy k ds)∧Hid (Got (ZQ Zby) base [.slice A n c] (D++ds.drop i) L wr)∧Hid (ZLq L w wr)) (fun _ j _=>n - (intOf j).toNat)
 case atStart=>exact ⟨0,k,[],AD _,rfl,rfl,hk0,⟨rfl,rfl,rfl⟩,H.out,ZLq.refl _ _⟩
 case round=>
  obtain ⟨i,kk,D,hi,rfl,rfl,h1,HD,HG,HO⟩:=hrel
  by_cases hlt:i<n
  ·have hil:i<ds.length:=by have:=HN.out;omega
   obtain ⟨hkk,hDl,hDm⟩:=HD.out
   have hcl:i<(D++ds.drop i).length:=by simp;omega
   obtain ⟨b,off,cs,Lk,rfl,hbL,hLk,hown,hrep,hcells,hput⟩:=HG.out.focus hcl
   have hnext:Hid (ds.drop i=ds[i]::ds.drop (i+1)):=AA _
   have hxi:(D++ds.drop i)[i]=ds[i]:=by
    rw [AL (by omega)];simp [hDl]
   rw [hxi] at hrep
   clear hxi
   generalize ds[i]=x at hrep hnext
   have hnb:Hid (ZLP kk x≤4611686018427387904):=by
    have:=ZMa (ZLP kk x) (ds.drop (i+1))
    rw [hnext.out] at hkk
    have hk:=HK.out
    rw [←hkk] at hk
    exact AF this hk
   have hnb1:=hnb.out
   have hnb2:=ZNe kk x
   unfold ZLP at hnb1 hnb2
   have HDn:Hid (ZLc (ZLP kk x) (ds.drop (i+1))=ZLc k ds∧(D++[ZM5 kk x]).length=i+1∧(D++[ZM5 kk x])++ZLy (ZLP kk x) (ds.drop (i+1))=ZLy k ds):=by
    refine ⟨by rw [←hkk,hnext.out];rfl,by simp [hDl],?_⟩
    rw [←hDm,hnext.out];simp [ZLy]
   have hset:Hid ((D++ds.drop i).set i (ZM5 kk x)=(D++[ZM5 kk x])++ds.drop (i+1)):=by
    rw [Hid,AH _ _ (by omega),show i - D.length=0 by omega,hnext.out,AI];simp
   obtain ⟨A1,c1,L1,A2,c2,L2,rfl,hLL,t0,n1,m1,s1,n2,m2,s2⟩:=hrep
   unfold maxLen at m1 m2
   subst hLL
   have HEl:=Lib.hid (ZMk.start (m:=4) hcells rfl hown)
   have hbn:=Lib.hid hown.head
   have G1:Hid (Got (ZQ ZC9) base [.slice A1 x.cond.length c1] x.cond L1 wr):=⟨⟨A1,c1,rfl,n1,(by unfold maxLen;omega),s1⟩,hown.tail.left⟩
   have bn1:Hid (b∉L1):=fun m=>hown.head (by simp [m])
   have sb1:Hid (∀y∈L1,y∈L1++L2):=fun y m=>by simp [m]
   have ap1_2:Hid (∀y∈L1,y∉L2):=fun y m m'=>hown.tail.apart y m (by simp [m'])
   have ap2_1:Hid (∀y∈L2,y∉L1):=fun y m m'=>ap1_2.out y m' m
   have G2:Hid (Got (ZQ ZxH) base [.slice A2 x.thn.length c2] x.thn L2 wr):=⟨⟨A2,c2,rfl,n2,(by unfold maxLen;omega),s2⟩,hown.tail.right⟩
   have bn2:Hid (b∉L2):=fun m=>hown.head (by simp [m])
   have sb2:Hid (∀y∈L2,y∈L1++L2):=fun y m=>by simp [m]
   clear s1
   clear s2
   have HPut:=Lib.hid hput
   have HOwn:=Lib.hid hown
   have HLk:=Lib.hid hLk
   clear hput hown hLk hcells hkk hDl hDm
   simp only[show Zby.size=4 from rfl] at HEl HPut
   have q0:=HEl.out.at (j:=0) rfl
   have z0:=HEl.out.frozen (off+i * 4)
   have q1:=HEl.out.at (j:=1) rfl
   have z1:=HEl.out.frozen (off+i * 4+1)
   have q2:=HEl.out.at (j:=2) rfl
   have z2:=HEl.out.frozen (off+i * 4+2)
   have q3:=HEl.out.at (j:=3) rfl
   have z3:=HEl.out.frozen (off+i * 4+3)
   simp only[A0] at q0
   have gm0:(0:Int)≤0:=by omega
   have mono_x_cond:=ZMt (kk+1+1) x.cond
   have mono_x_thn:=ZMf (ZLo (kk+1+1) x.cond) x.thn
   go_wp2_with fail
   refine (ZLf _ _ (by omega) (by omega)).mono ?_
   rintro e w1 ⟨rfl,hb1⟩
   have HEl:=Lib.hid (HEl.out.later hb1)
   have G1:=Lib.hid (G1.out.later hb1)
   have G2:=Lib.hid (G2.out.later hb1)
   clear hb1
   clear q0 z0 q1 z1 q2 z2 q3 z3
   have q0:=HEl.out.at (j:=0) rfl
   have z0:=HEl.out.frozen (off+i * 4)
   have q1:=HEl.out.at (j:=1) rfl
   have z1:=HEl.out.frozen (off+i * 4+1)
   have q2:=HEl.out.at (j:=2) rfl
   have z2:=HEl.out.frozen (off+i * 4+2)
   have q3:=HEl.out.at (j:=3) rfl
   have z3:=HEl.out.frozen (off+i * 4+3)
   simp only[A0] at q0
   go_wp2_with fail
   have G1:=Lib.hid ((G1.out.setFar (p:=⟨b,off+i * 4+0,none⟩) bn1.out (.string (mTx (kk)))).setFar (p:=⟨b,off+i * 4+1,none⟩) bn1.out (.int .i64 (kk+1)))
   refine (ZOO A1 _ c1 x.cond L1 base _ _ rfl (by omega) (by omega) (by omega) G1.out).mono ?_
   rintro e w2 ⟨rfl,g2,on2⟩
   have HEl:=Lib.hid (((HEl.out.set 0 (by omega) (.string (mTx (kk)))).set 1 (by omega) (.int .i64 (kk+1))).marked on2 sb1.out bn1.out)
   have G1:=Lib.hid g2
   have G2:=Lib.hid (((G2.out.setFar (p:=⟨b,off+i * 4+0,none⟩) bn2.out (.string (mTx (kk)))).setFar (p:=⟨b,off+i * 4+1,none⟩) bn2.out (.int .i64 (kk+1))).only on2 ap2_1.out)
   clear g2 on2
   clear q0 z0 q1 z1 q2 z2 q3 z3
   have q0:=HEl.out.at (j:=0) rfl
   have z0:=HEl.out.frozen (off+i * 4)
   have q1:=HEl.out.at (j:=1) rfl
   have z1:=HEl.out.frozen (off+i * 4+1)
   have q2:=HEl.out.at (j:=2) rfl
   have z2:=HEl.out.frozen (off+i * 4+2)
   have q3:=HEl.out.at (j:=3) rfl
   have z3:=HEl.out.frozen (off+i * 4+3)
   simp only[A0] at q0
   go_wp2_with fail
   refine (ZOc A2 _ c2 x.thn L2 base _ _ rfl (by omega) (by omega) (by omega) G2.out).mono ?_
   rintro e w3 ⟨rfl,g3,on3⟩
   have HEl:=Lib.hid (HEl.out.marked on3 sb2.out bn2.out)
   have G1:=Lib.hid (G1.out.only on3 ap1_2.out)
   have G2:=Lib.hid g3
   clear g3 on3
   clear q0 z0 q1 z1 q2 z2 q3 z3
   have q0:=HEl.out.at (j:=0) rfl
   have z0:=HEl.out.frozen (off+i * 4)
   have q1:=HEl.out.at (j:=1) rfl
   have z1:=HEl.out.frozen (off+i * 4+1)
   have q2:=HEl.out.at (j:=2) rfl
   have z2:=HEl.out.frozen (off+i * 4+2)
   have q3:=HEl.out.at (j:=3) rfl
   have z3:=HEl.out.frozen (off+i * 4+3)
   simp only[A0] at q0
   obtain ⟨nn1,mm1,ss1⟩:=ZeR G1.out.rep
   obtain ⟨nn2,mm2,ss2⟩:=ZeR G2.out.rep
   have hO2:=Lib.hid (ZLD HOwn.out HEl.out.plain HEl.out.only (fun y m=>by (try simp only[AC] at m)<;>(rcases m with m | m<;>first | exact G1.out.own.plain y m | exact G2.out.own.plain y m)))
   have HGn:=Lib.hid (HPut.out _ _ (ZM5 kk x) HEl.out.only HEl.out.cells HEl.out.rest ⟨A1,c1,L1,A2,c2,L2,by simp [ZM5,ZNm,ZMM],rfl,ZLW _ (by omega),nn1,mm1,ss1,nn2,mm2,ss2⟩ hO2.out)
   have HOn:=Lib.hid (HO.out.trans (HEl.out.only.mono (fun y m=>by rcases AJ.1 m with rfl | m;exact hbL;exact HLk.out y m)))
   rw [hset.out] at HGn
   try simp only[A0] at HGn HOn
   clear HEl hO2 HPut G1 G2 nn1 nn2 mm1 mm2 ss1 ss2
   go_wp2_with fail
   go_roundw
   case rel=>exact ⟨i+1,ZLP kk x,_,by omega,by go_num,rfl,by unfold ZLP;omega,HDn,HGn,HOn⟩
   case measure=>simp [intOf];omega
  ·obtain rfl:i=n:=by omega
   have e:Hid (ds.drop i=[]):=AE (by have:=HN.out;omega)
   have hf:Hid (ZLc k ds=kk∧D=ZLy k ds):=by
    obtain ⟨h1,h2,h3⟩:=HD.out
    rw [e.out] at h3 h1
    simp [ZLy] at h3
    exact ⟨h1.symm,h3⟩
   rw [e.out,AK] at HG
   go_wp2
   go_ret
   exact ⟨ZL2 hf.out.1.symm,by rw [←hf.out.2];exact HG.out,HO.out⟩
set_option maxRecDepth 100000 in
set_option maxHeartbeats 4000000 in
theorem ZOm (A:Option Addr) (n c:Nat) (ds:List Zw) (L:List Nat) (base:Nat) (k:Int) (w:World) (hn:n=ds.length) (hm:n≤9223372036854775807) (hk0:1≤k) (hk1:ZLr k ds≤4611686018427387904) (h:Got (ZQ ZlR) base [.slice A n c] ds L w):
  Calls prog 75 #[.slice A n c,.int .i64 k] w fun e w'=>e=.returned (.int .i64 (ZLr k ds))∧Got (ZQ ZlR) base [.slice A n c] (ZLU k ds) L w'∧ZLq L w w':=by
 have H:=Lib.hid h
 have HN:=Lib.hid hn
 have HK:=Lib.hid hk1
 clear h hn hk1
 go_enter func75,ntmps75
 go_wp2
 go_loopw [1,5] (fun q j wr=>∃(i:Nat) (kk:Int) (D:List Zw),i≤n∧j=.int .i64 i∧q=.int .i64 kk∧1≤kk∧Hid (ZLr kk (ds.drop i)=ZLr k ds∧D.length=i∧D++ZLU kk (ds.drop i)=ZLU k ds)∧Hid (Got (ZQ ZlR) base [.slice A n c] (D++ds.drop i) L wr)∧Hid (ZLq L w wr)) (fun _ j _=>n - (intOf j).toNat)
 case atStart=>exact ⟨0,k,[],AD _,rfl,rfl,hk0,⟨rfl,rfl,rfl⟩,H.out,ZLq.refl _ _⟩
 case round=>
  obtain ⟨i,kk,D,hi,rfl,rfl,h1,HD,HG,HO⟩:=hrel
  by_cases hlt:i<n
  ·have hil:i<ds.length:=by have:=HN.out;omega
   obtain ⟨hkk,hDl,hDm⟩:=HD.out
   have hcl:i<(D++ds.drop i).length:=by simp;omega
   obtain ⟨b,off,cs,Lk,rfl,hbL,hLk,hown,hrep,hcells,hput⟩:=HG.out.focus hcl
   have hnext:Hid (ds.drop i=ds[i]::ds.drop (i+1)):=AA _
   have hxi:(D++ds.drop i)[i]=ds[i]:=by
    rw [AL (by omega)];simp [hDl]
   rw [hxi] at hrep
   clear hxi
   generalize ds[i]=x at hrep hnext
   have hnb:Hid (ZLA kk x≤4611686018427387904):=by
    have:=ZMo (ZLA kk x) (ds.drop (i+1))
    rw [hnext.out] at hkk
    have hk:=HK.out
    rw [←hkk] at hk
    exact AF this hk
   have hnb1:=hnb.out
   have hnb2:=ZM1 kk x
   unfold ZLA at hnb1 hnb2
   have HDn:Hid (ZLr (ZLA kk x) (ds.drop (i+1))=ZLr k ds∧(D++[ZMD kk x]).length=i+1∧(D++[ZMD kk x])++ZLU (ZLA kk x) (ds.drop (i+1))=ZLU k ds):=by
    refine ⟨by rw [←hkk,hnext.out];rfl,by simp [hDl],?_⟩
    rw [←hDm,hnext.out];simp [ZLU]
   have hset:Hid ((D++ds.drop i).set i (ZMD kk x)=(D++[ZMD kk x])++ds.drop (i+1)):=by
    rw [Hid,AH _ _ (by omega),show i - D.length=0 by omega,hnext.out,AI];simp
   obtain ⟨A1,c1,L1,A2,c2,L2,rfl,hLL,n1,m1,s1,n2,m2,s2⟩:=hrep
   unfold maxLen at m1 m2
   subst hLL
   have HEl:=Lib.hid (ZMk.start (m:=2) hcells rfl hown)
   have hbn:=Lib.hid hown.head
   have G1:Hid (Got (ZQ Yf) base [.slice A1 x.facts.length c1] x.facts L1 wr):=⟨⟨A1,c1,rfl,n1,(by unfold maxLen;omega),s1⟩,hown.tail.left⟩
   have bn1:Hid (b∉L1):=fun m=>hown.head (by simp [m])
   have sb1:Hid (∀y∈L1,y∈L1++L2):=fun y m=>by simp [m]
   have ap1_2:Hid (∀y∈L1,y∉L2):=fun y m m'=>hown.tail.apart y m (by simp [m'])
   have ap2_1:Hid (∀y∈L2,y∉L1):=fun y m m'=>ap1_2.out y m' m
   have G2:Hid (Got (ZQ ZDh) base [.slice A2 x.binding.length c2] x.binding L2 wr):=⟨⟨A2,c2,rfl,n2,(by unfold maxLen;omega),s2⟩,hown.tail.right⟩
   have bn2:Hid (b∉L2):=fun m=>hown.head (by simp [m])
   have sb2:Hid (∀y∈L2,y∈L1++L2):=fun y m=>by simp [m]
   clear s1
   clear s2
   have HPut:=Lib.hid hput
   have HOwn:=Lib.hid hown
   have HLk:=Lib.hid hLk
   clear hput hown hLk hcells hkk hDl hDm
   simp only[show ZlR.size=2 from rfl] at HEl HPut
   have q0:=HEl.out.at (j:=0) rfl
   have z0:=HEl.out.frozen (off+i * 2)
   have q1:=HEl.out.at (j:=1) rfl
   have z1:=HEl.out.frozen (off+i * 2+1)
   simp only[A0] at q0
   have gm0:(0:Int)≤0:=by omega
   have mono_x_facts:=ZLT (kk) x.facts
   have mono_x_binding:=ZMr (ZLl (kk) x.facts) x.binding
   go_wp2_with fail
   refine (ZMO A1 _ c1 x.facts L1 base _ _ rfl (by omega) (by omega) (by omega) G1.out).mono ?_
   rintro e w1 ⟨rfl,g1,on1⟩
   have HEl:=Lib.hid (HEl.out.marked on1 sb1.out bn1.out)
   have G1:=Lib.hid g1
   have G2:=Lib.hid (G2.out.only on1 ap2_1.out)
   clear g1 on1
   clear q0 z0 q1 z1
   have q0:=HEl.out.at (j:=0) rfl
   have z0:=HEl.out.frozen (off+i * 2)
   have q1:=HEl.out.at (j:=1) rfl
   have z1:=HEl.out.frozen (off+i * 2+1)
   simp only[A0] at q0
   go_wp2_with fail
   refine (ZOV A2 _ c2 x.binding L2 base _ _ rfl (by omega) (by omega) (by omega) G2.out).mono ?_
   rintro e w2 ⟨rfl,g2,on2⟩
   have HEl:=Lib.hid (HEl.out.marked on2 sb2.out bn2.out)
   have G1:=Lib.hid (G1.out.only on2 ap1_2.out)
   have G2:=Lib.hid g2
   clear g2 on2
   clear q0 z0 q1 z1
   have q0:=HEl.out.at (j:=0) rfl
   have z0:=HEl.out.frozen (off+i * 2)
   have q1:=HEl.out.at (j:=1) rfl
   have z1:=HEl.out.frozen (off+i * 2+1)
   simp only[A0] at q0
   obtain ⟨nn1,mm1,ss1⟩:=ZeR G1.out.rep
   obtain ⟨nn2,mm2,ss2⟩:=ZeR G2.out.rep
   have hO2:=Lib.hid (ZLD HOwn.out HEl.out.plain HEl.out.only (fun y m=>by (try simp only[AC] at m)<;>(rcases m with m | m<;>first | exact G1.out.own.plain y m | exact G2.out.own.plain y m)))
   have HGn:=Lib.hid (HPut.out _ _ (ZMD kk x) HEl.out.only HEl.out.cells HEl.out.rest ⟨A1,c1,L1,A2,c2,L2,by simp [ZMD,ZMd,ZM9],rfl,nn1,mm1,ss1,nn2,mm2,ss2⟩ hO2.out)
   have HOn:=Lib.hid (HO.out.trans (HEl.out.only.mono (fun y m=>by rcases AJ.1 m with rfl | m;exact hbL;exact HLk.out y m)))
   rw [hset.out] at HGn
   try simp only[A0] at HGn HOn
   clear HEl hO2 HPut G1 G2 nn1 nn2 mm1 mm2 ss1 ss2
   go_wp2_with fail
   go_roundw
   case rel=>exact ⟨i+1,ZLA kk x,_,by omega,by go_num,rfl,by unfold ZLA;omega,HDn,HGn,HOn⟩
   case measure=>simp [intOf];omega
  ·obtain rfl:i=n:=by omega
   have e:Hid (ds.drop i=[]):=AE (by have:=HN.out;omega)
   have hf:Hid (ZLr k ds=kk∧D=ZLU k ds):=by
    obtain ⟨h1,h2,h3⟩:=HD.out
    rw [e.out] at h3 h1
    simp [ZLU] at h3
    exact ⟨h1.symm,h3⟩
   rw [e.out,AK] at HG
   go_wp2
   go_ret
   exact ⟨ZL2 hf.out.1.symm,by rw [←hf.out.2];exact HG.out,HO.out⟩
set_option maxRecDepth 100000 in
set_option maxHeartbeats 4000000 in
theorem ZOA (A:Option Addr) (n c:Nat) (ds:List ZL4) (L:List Nat) (base:Nat) (k:Int) (w:World) (hn:n=ds.length) (hm:n≤9223372036854775807) (hk0:1≤k) (hk1:ZLe k ds≤4611686018427387904) (h:Got (ZQ ZL7) base [.slice A n c] ds L w):
  Calls prog 39 #[.slice A n c,.int .i64 k] w fun e w'=>e=.returned (.int .i64 (ZLe k ds))∧Got (ZQ ZL7) base [.slice A n c] (ZLI k ds) L w'∧ZLq L w w':=by
 have H:=Lib.hid h
 have HN:=Lib.hid hn
 have HK:=Lib.hid hk1
 clear h hn hk1
 go_enter func39,ntmps39
 go_wp2
 go_loopw [1,5] (fun q j wr=>∃(i:Nat) (kk:Int) (D:List ZL4),i≤n∧j=.int .i64 i∧q=.int .i64 kk∧1≤kk∧Hid (ZLe kk (ds.drop i)=ZLe k ds∧D.length=i∧D++ZLI kk (ds.drop i)=ZLI k ds)∧Hid (Got (ZQ ZL7) base [.slice A n c] (D++ds.drop i) L wr)∧Hid (ZLq L w wr)) (fun _ j _=>n - (intOf j).toNat)
 case atStart=>exact ⟨0,k,[],AD _,rfl,rfl,hk0,⟨rfl,rfl,rfl⟩,H.out,ZLq.refl _ _⟩
 case round=>
  obtain ⟨i,kk,D,hi,rfl,rfl,h1,HD,HG,HO⟩:=hrel
  by_cases hlt:i<n
  ·have hil:i<ds.length:=by have:=HN.out;omega
   obtain ⟨hkk,hDl,hDm⟩:=HD.out
   have hcl:i<(D++ds.drop i).length:=by simp;omega
   obtain ⟨b,off,cs,Lk,rfl,hbL,hLk,hown,hrep,hcells,hput⟩:=HG.out.focus hcl
   have hnext:Hid (ds.drop i=ds[i]::ds.drop (i+1)):=AA _
   have hxi:(D++ds.drop i)[i]=ds[i]:=by
    rw [AL (by omega)];simp [hDl]
   rw [hxi] at hrep
   clear hxi
   generalize ds[i]=x at hrep hnext
   have hnb:Hid (ZLz kk x≤4611686018427387904):=by
    have:=ZMm (ZLz kk x) (ds.drop (i+1))
    rw [hnext.out] at hkk
    have hk:=HK.out
    rw [←hkk] at hk
    exact AF this hk
   have hnb1:=hnb.out
   have hnb2:=ZM0 kk x
   unfold ZLz at hnb1 hnb2
   have HDn:Hid (ZLe (ZLz kk x) (ds.drop (i+1))=ZLe k ds∧(D++[ZMF kk x]).length=i+1∧(D++[ZMF kk x])++ZLI (ZLz kk x) (ds.drop (i+1))=ZLI k ds):=by
    refine ⟨by rw [←hkk,hnext.out];rfl,by simp [hDl],?_⟩
    rw [←hDm,hnext.out];simp [ZLI]
   have hset:Hid ((D++ds.drop i).set i (ZMF kk x)=(D++[ZMF kk x])++ds.drop (i+1)):=by
    rw [Hid,AH _ _ (by omega),show i - D.length=0 by omega,hnext.out,AI];simp
   obtain ⟨A1,c1,L1,A2,c2,L2,rfl,hLL,t0,n1,m1,s1,n2,m2,s2⟩:=hrep
   unfold maxLen at m1 m2
   subst hLL
   have HEl:=Lib.hid (ZMk.start (m:=3) hcells rfl hown)
   have hbn:=Lib.hid hown.head
   have G1:Hid (Got (ZQ ZsX) base [.slice A1 x.shape.args.length c1] x.shape.args L1 wr):=⟨⟨A1,c1,rfl,n1,(by unfold maxLen;omega),s1⟩,hown.tail.left⟩
   have bn1:Hid (b∉L1):=fun m=>hown.head (by simp [m])
   have sb1:Hid (∀y∈L1,y∈L1++L2):=fun y m=>by simp [m]
   have ap1_2:Hid (∀y∈L1,y∉L2):=fun y m m'=>hown.tail.apart y m (by simp [m'])
   have ap2_1:Hid (∀y∈L2,y∉L1):=fun y m m'=>ap1_2.out y m' m
   have G2:Hid (Got (ZQ Yf) base [.slice A2 x.facts.length c2] x.facts L2 wr):=⟨⟨A2,c2,rfl,n2,(by unfold maxLen;omega),s2⟩,hown.tail.right⟩
   have bn2:Hid (b∉L2):=fun m=>hown.head (by simp [m])
   have sb2:Hid (∀y∈L2,y∈L1++L2):=fun y m=>by simp [m]
   clear s1
   clear s2
   have HPut:=Lib.hid hput
   have HOwn:=Lib.hid hown
   have HLk:=Lib.hid hLk
   clear hput hown hLk hcells hkk hDl hDm
   simp only[show ZL7.size=3 from rfl] at HEl HPut
   have q0:=HEl.out.at (j:=0) rfl
   have z0:=HEl.out.frozen (off+i * 3)
   have q1:=HEl.out.at (j:=1) rfl
   have z1:=HEl.out.frozen (off+i * 3+1)
   have q2:=HEl.out.at (j:=2) rfl
   have z2:=HEl.out.frozen (off+i * 3+2)
   simp only[A0] at q0
   have gm0:(0:Int)≤0:=by omega
   have mono_x_shape_args:=ZLj (kk+1) x.shape.args
   have mono_x_facts:=ZLT (Qs (kk+1) x.shape.args) x.facts
   go_wp2_with fail
   refine (ZLf _ _ (by omega) (by omega)).mono ?_
   rintro e w1 ⟨rfl,hb1⟩
   have HEl:=Lib.hid (HEl.out.later hb1)
   have G1:=Lib.hid (G1.out.later hb1)
   have G2:=Lib.hid (G2.out.later hb1)
   clear hb1
   clear q0 z0 q1 z1 q2 z2
   have q0:=HEl.out.at (j:=0) rfl
   have z0:=HEl.out.frozen (off+i * 3)
   have q1:=HEl.out.at (j:=1) rfl
   have z1:=HEl.out.frozen (off+i * 3+1)
   have q2:=HEl.out.at (j:=2) rfl
   have z2:=HEl.out.frozen (off+i * 3+2)
   simp only[A0] at q0
   go_wp2_with fail
   have G1:=Lib.hid (G1.out.setFar (p:=⟨b,off+i * 3+0,none⟩) bn1.out (.string (mTx (kk))))
   refine (ZLX A1 _ c1 x.shape.args L1 base _ _ rfl (by omega) (by omega) G1.out).mono ?_
   rintro e w2 ⟨rfl,g2,on2⟩
   have HEl:=Lib.hid ((HEl.out.set 0 (by omega) (.string (mTx (kk)))).marked on2 sb1.out bn1.out)
   have G1:=Lib.hid g2
   have G2:=Lib.hid ((G2.out.setFar (p:=⟨b,off+i * 3+0,none⟩) bn2.out (.string (mTx (kk)))).only on2 ap2_1.out)
   clear g2 on2
   clear q0 z0 q1 z1 q2 z2
   have q0:=HEl.out.at (j:=0) rfl
   have z0:=HEl.out.frozen (off+i * 3)
   have q1:=HEl.out.at (j:=1) rfl
   have z1:=HEl.out.frozen (off+i * 3+1)
   have q2:=HEl.out.at (j:=2) rfl
   have z2:=HEl.out.frozen (off+i * 3+2)
   simp only[A0] at q0
   go_wp2_with fail
   refine (ZMO A2 _ c2 x.facts L2 base _ _ rfl (by omega) (by omega) (by omega) G2.out).mono ?_
   rintro e w3 ⟨rfl,g3,on3⟩
   have HEl:=Lib.hid (HEl.out.marked on3 sb2.out bn2.out)
   have G1:=Lib.hid (G1.out.only on3 ap1_2.out)
   have G2:=Lib.hid g3
   clear g3 on3
   clear q0 z0 q1 z1 q2 z2
   have q0:=HEl.out.at (j:=0) rfl
   have z0:=HEl.out.frozen (off+i * 3)
   have q1:=HEl.out.at (j:=1) rfl
   have z1:=HEl.out.frozen (off+i * 3+1)
   have q2:=HEl.out.at (j:=2) rfl
   have z2:=HEl.out.frozen (off+i * 3+2)
   simp only[A0] at q0
   obtain ⟨nn1,mm1,ss1⟩:=ZeR G1.out.rep
   obtain ⟨nn2,mm2,ss2⟩:=ZeR G2.out.rep
   have hO2:=Lib.hid (ZLD HOwn.out HEl.out.plain HEl.out.only (fun y m=>by (try simp only[AC] at m)<;>(rcases m with m | m<;>first | exact G1.out.own.plain y m | exact G2.out.own.plain y m)))
   have HGn:=Lib.hid (HPut.out _ _ (ZMF kk x) HEl.out.only HEl.out.cells HEl.out.rest ⟨A1,c1,L1,A2,c2,L2,by simp [ZMF,ZLt,ZMd],rfl,ZLW _ (by omega),nn1,mm1,ss1,nn2,mm2,ss2⟩ hO2.out)
   have HOn:=Lib.hid (HO.out.trans (HEl.out.only.mono (fun y m=>by rcases AJ.1 m with rfl | m;exact hbL;exact HLk.out y m)))
   rw [hset.out] at HGn
   try simp only[A0] at HGn HOn
   clear HEl hO2 HPut G1 G2 nn1 nn2 mm1 mm2 ss1 ss2
   go_wp2_with fail
   go_roundw
   case rel=>exact ⟨i+1,ZLz kk x,_,by omega,by go_num,rfl,by unfold ZLz;omega,HDn,HGn,HOn⟩
   case measure=>simp [intOf];omega
  ·obtain rfl:i=n:=by omega
   have e:Hid (ds.drop i=[]):=AE (by have:=HN.out;omega)
   have hf:Hid (ZLe k ds=kk∧D=ZLI k ds):=by
    obtain ⟨h1,h2,h3⟩:=HD.out
    rw [e.out] at h3 h1
    simp [ZLI] at h3
    exact ⟨h1.symm,h3⟩
   rw [e.out,AK] at HG
   go_wp2
   go_ret
   exact ⟨ZL2 hf.out.1.symm,by rw [←hf.out.2];exact HG.out,HO.out⟩
set_option maxRecDepth 100000 in
set_option maxHeartbeats 4000000 in
theorem ZOI (A:Option Addr) (n c:Nat) (ds:List ZMe) (L:List Nat) (base:Nat) (k:Int) (w:World) (hn:n=ds.length) (hm:n≤9223372036854775807) (hk0:1≤k) (hk1:ZLk k ds≤4611686018427387904) (h:Got (ZQ ZMg) base [.slice A n c] ds L w):
  Calls prog 40 #[.slice A n c,.int .i64 k] w fun e w'=>e=.returned (.int .i64 (ZLk k ds))∧Got (ZQ ZMg) base [.slice A n c] (ZLR k ds) L w'∧ZLq L w w':=by
 have H:=Lib.hid h
 have HN:=Lib.hid hn
 have HK:=Lib.hid hk1
 clear h hn hk1
 go_enter func40,ntmps40
 go_wp2
 go_loopw [1,5] (fun q j wr=>∃(i:Nat) (kk:Int) (D:List ZMe),i≤n∧j=.int .i64 i∧q=.int .i64 kk∧1≤kk∧Hid (ZLk kk (ds.drop i)=ZLk k ds∧D.length=i∧D++ZLR kk (ds.drop i)=ZLR k ds)∧Hid (Got (ZQ ZMg) base [.slice A n c] (D++ds.drop i) L wr)∧Hid (ZLq L w wr)) (fun _ j _=>n - (intOf j).toNat)
 case atStart=>exact ⟨0,k,[],AD _,rfl,rfl,hk0,⟨rfl,rfl,rfl⟩,H.out,ZLq.refl _ _⟩
 case round=>
  obtain ⟨i,kk,D,hi,rfl,rfl,h1,HD,HG,HO⟩:=hrel
  by_cases hlt:i<n
  ·have hil:i<ds.length:=by have:=HN.out;omega
   obtain ⟨hkk,hDl,hDm⟩:=HD.out
   have hcl:i<(D++ds.drop i).length:=by simp;omega
   obtain ⟨b,off,cs,Lk,rfl,hbL,hLk,hown,hrep,hcells,hput⟩:=HG.out.focus hcl
   have hnext:Hid (ds.drop i=ds[i]::ds.drop (i+1)):=AA _
   have hxi:(D++ds.drop i)[i]=ds[i]:=by
    rw [AL (by omega)];simp [hDl]
   rw [hxi] at hrep
   clear hxi
   generalize ds[i]=x at hrep hnext
   have hnb:Hid (ZLM kk x≤4611686018427387904):=by
    have:=ZMs (ZLM kk x) (ds.drop (i+1))
    rw [hnext.out] at hkk
    have hk:=HK.out
    rw [←hkk] at hk
    exact AF this hk
   have hnb1:=hnb.out
   have hnb2:=ZNi kk x
   unfold ZLM at hnb1 hnb2
   have HDn:Hid (ZLk (ZLM kk x) (ds.drop (i+1))=ZLk k ds∧(D++[ZMZ kk x]).length=i+1∧(D++[ZMZ kk x])++ZLR (ZLM kk x) (ds.drop (i+1))=ZLR k ds):=by
    refine ⟨by rw [←hkk,hnext.out];rfl,by simp [hDl],?_⟩
    rw [←hDm,hnext.out];simp [ZLR]
   have hset:Hid ((D++ds.drop i).set i (ZMZ kk x)=(D++[ZMZ kk x])++ds.drop (i+1)):=by
    rw [Hid,AH _ _ (by omega),show i - D.length=0 by omega,hnext.out,AI];simp
   obtain ⟨A1,c1,L1,A2,c2,L2,rfl,hLL,t0,t1,t2,n1,m1,s1,n2,m2,s2⟩:=hrep
   unfold maxLen at m1 m2
   subst hLL
   have HEl:=Lib.hid (ZMk.start (m:=8) hcells rfl hown)
   have hbn:=Lib.hid hown.head
   have G1:Hid (Got (ZQ ZsX) base [.slice A1 x.cond.pattern.args.length c1] x.cond.pattern.args L1 wr):=⟨⟨A1,c1,rfl,n1,(by unfold maxLen;omega),s1⟩,hown.tail.left⟩
   have bn1:Hid (b∉L1):=fun m=>hown.head (by simp [m])
   have sb1:Hid (∀y∈L1,y∈L1++L2):=fun y m=>by simp [m]
   have ap1_2:Hid (∀y∈L1,y∉L2):=fun y m m'=>hown.tail.apart y m (by simp [m'])
   have ap2_1:Hid (∀y∈L2,y∉L1):=fun y m m'=>ap1_2.out y m' m
   have G2:Hid (Got (ZQ ZlR) base [.slice A2 x.tokens.length c2] x.tokens L2 wr):=⟨⟨A2,c2,rfl,n2,(by unfold maxLen;omega),s2⟩,hown.tail.right⟩
   have bn2:Hid (b∉L2):=fun m=>hown.head (by simp [m])
   have sb2:Hid (∀y∈L2,y∈L1++L2):=fun y m=>by simp [m]
   clear s1
   clear s2
   have HPut:=Lib.hid hput
   have HOwn:=Lib.hid hown
   have HLk:=Lib.hid hLk
   clear hput hown hLk hcells hkk hDl hDm
   simp only[show ZMg.size=8 from rfl] at HEl HPut
   have q0:=HEl.out.at (j:=0) rfl
   have z0:=HEl.out.frozen (off+i * 8)
   have q1:=HEl.out.at (j:=1) rfl
   have z1:=HEl.out.frozen (off+i * 8+1)
   have q2:=HEl.out.at (j:=2) rfl
   have z2:=HEl.out.frozen (off+i * 8+2)
   have q3:=HEl.out.at (j:=3) rfl
   have z3:=HEl.out.frozen (off+i * 8+3)
   have q4:=HEl.out.at (j:=4) rfl
   have z4:=HEl.out.frozen (off+i * 8+4)
   have q5:=HEl.out.at (j:=5) rfl
   have z5:=HEl.out.frozen (off+i * 8+5)
   have q6:=HEl.out.at (j:=6) rfl
   have z6:=HEl.out.frozen (off+i * 8+6)
   have q7:=HEl.out.at (j:=7) rfl
   have z7:=HEl.out.frozen (off+i * 8+7)
   simp only[A0] at q0
   have gm0:(0:Int)≤0:=by omega
   have mono_x_cond_pattern_args:=ZLj (kk+1+1+1) x.cond.pattern.args
   have mono_x_tokens:=ZMo (Qs (kk+1+1+1) x.cond.pattern.args+1+1+1) x.tokens
   go_wp2_with fail
   refine (ZLf _ _ (by omega) (by omega)).mono ?_
   rintro e w1 ⟨rfl,hb1⟩
   have HEl:=Lib.hid (((HEl.out.set 0 (by omega) (.int .i64 (kk))).set 1 (by omega) (.int .i64 (kk+1))).later hb1)
   have G1:=Lib.hid (((G1.out.setFar (p:=⟨b,off+i * 8+0,none⟩) bn1.out (.int .i64 (kk))).setFar (p:=⟨b,off+i * 8+1,none⟩) bn1.out (.int .i64 (kk+1))).later hb1)
   have G2:=Lib.hid (((G2.out.setFar (p:=⟨b,off+i * 8+0,none⟩) bn2.out (.int .i64 (kk))).setFar (p:=⟨b,off+i * 8+1,none⟩) bn2.out (.int .i64 (kk+1))).later hb1)
   clear hb1
   clear q0 z0 q1 z1 q2 z2 q3 z3 q4 z4 q5 z5 q6 z6 q7 z7
   have q0:=HEl.out.at (j:=0) rfl
   have z0:=HEl.out.frozen (off+i * 8)
   have q1:=HEl.out.at (j:=1) rfl
   have z1:=HEl.out.frozen (off+i * 8+1)
   have q2:=HEl.out.at (j:=2) rfl
   have z2:=HEl.out.frozen (off+i * 8+2)
   have q3:=HEl.out.at (j:=3) rfl
   have z3:=HEl.out.frozen (off+i * 8+3)
   have q4:=HEl.out.at (j:=4) rfl
   have z4:=HEl.out.frozen (off+i * 8+4)
   have q5:=HEl.out.at (j:=5) rfl
   have z5:=HEl.out.frozen (off+i * 8+5)
   have q6:=HEl.out.at (j:=6) rfl
   have z6:=HEl.out.frozen (off+i * 8+6)
   have q7:=HEl.out.at (j:=7) rfl
   have z7:=HEl.out.frozen (off+i * 8+7)
   simp only[A0] at q0
   go_wp2_with fail
   have G1:=Lib.hid (G1.out.setFar (p:=⟨b,off+i * 8+2,none⟩) bn1.out (.string (mTx (kk+1+1))))
   refine (ZLX A1 _ c1 x.cond.pattern.args L1 base _ _ rfl (by omega) (by omega) G1.out).mono ?_
   rintro e w2 ⟨rfl,g2,on2⟩
   have HEl:=Lib.hid ((HEl.out.set 2 (by omega) (.string (mTx (kk+1+1)))).marked on2 sb1.out bn1.out)
   have G1:=Lib.hid g2
   have G2:=Lib.hid ((G2.out.setFar (p:=⟨b,off+i * 8+2,none⟩) bn2.out (.string (mTx (kk+1+1)))).only on2 ap2_1.out)
   clear g2 on2
   clear q0 z0 q1 z1 q2 z2 q3 z3 q4 z4 q5 z5 q6 z6 q7 z7
   have q0:=HEl.out.at (j:=0) rfl
   have z0:=HEl.out.frozen (off+i * 8)
   have q1:=HEl.out.at (j:=1) rfl
   have z1:=HEl.out.frozen (off+i * 8+1)
   have q2:=HEl.out.at (j:=2) rfl
   have z2:=HEl.out.frozen (off+i * 8+2)
   have q3:=HEl.out.at (j:=3) rfl
   have z3:=HEl.out.frozen (off+i * 8+3)
   have q4:=HEl.out.at (j:=4) rfl
   have z4:=HEl.out.frozen (off+i * 8+4)
   have q5:=HEl.out.at (j:=5) rfl
   have z5:=HEl.out.frozen (off+i * 8+5)
   have q6:=HEl.out.at (j:=6) rfl
   have z6:=HEl.out.frozen (off+i * 8+6)
   have q7:=HEl.out.at (j:=7) rfl
   have z7:=HEl.out.frozen (off+i * 8+7)
   simp only[A0] at q0
   go_wp2_with fail
   refine (ZLf _ _ (by omega) (by omega)).mono ?_
   rintro e w3 ⟨rfl,hb3⟩
   have HEl:=Lib.hid (HEl.out.later hb3)
   have G1:=Lib.hid (G1.out.later hb3)
   have G2:=Lib.hid (G2.out.later hb3)
   clear hb3
   clear q0 z0 q1 z1 q2 z2 q3 z3 q4 z4 q5 z5 q6 z6 q7 z7
   have q0:=HEl.out.at (j:=0) rfl
   have z0:=HEl.out.frozen (off+i * 8)
   have q1:=HEl.out.at (j:=1) rfl
   have z1:=HEl.out.frozen (off+i * 8+1)
   have q2:=HEl.out.at (j:=2) rfl
   have z2:=HEl.out.frozen (off+i * 8+2)
   have q3:=HEl.out.at (j:=3) rfl
   have z3:=HEl.out.frozen (off+i * 8+3)
   have q4:=HEl.out.at (j:=4) rfl
   have z4:=HEl.out.frozen (off+i * 8+4)
   have q5:=HEl.out.at (j:=5) rfl
   have z5:=HEl.out.frozen (off+i * 8+5)
   have q6:=HEl.out.at (j:=6) rfl
   have z6:=HEl.out.frozen (off+i * 8+6)
   have q7:=HEl.out.at (j:=7) rfl
   have z7:=HEl.out.frozen (off+i * 8+7)
   simp only[A0] at q0
   go_wp2_with fail
   refine (ZLf _ _ (by omega) (by omega)).mono ?_
   rintro e w4 ⟨rfl,hb4⟩
   have HEl:=Lib.hid ((HEl.out.set 4 (by omega) (.string (mTx (Qs (kk+1+1+1) x.cond.pattern.args)))).later hb4)
   have G1:=Lib.hid ((G1.out.setFar (p:=⟨b,off+i * 8+4,none⟩) bn1.out (.string (mTx (Qs (kk+1+1+1) x.cond.pattern.args)))).later hb4)
   have G2:=Lib.hid ((G2.out.setFar (p:=⟨b,off+i * 8+4,none⟩) bn2.out (.string (mTx (Qs (kk+1+1+1) x.cond.pattern.args)))).later hb4)
   clear hb4
   clear q0 z0 q1 z1 q2 z2 q3 z3 q4 z4 q5 z5 q6 z6 q7 z7
   have q0:=HEl.out.at (j:=0) rfl
   have z0:=HEl.out.frozen (off+i * 8)
   have q1:=HEl.out.at (j:=1) rfl
   have z1:=HEl.out.frozen (off+i * 8+1)
   have q2:=HEl.out.at (j:=2) rfl
   have z2:=HEl.out.frozen (off+i * 8+2)
   have q3:=HEl.out.at (j:=3) rfl
   have z3:=HEl.out.frozen (off+i * 8+3)
   have q4:=HEl.out.at (j:=4) rfl
   have z4:=HEl.out.frozen (off+i * 8+4)
   have q5:=HEl.out.at (j:=5) rfl
   have z5:=HEl.out.frozen (off+i * 8+5)
   have q6:=HEl.out.at (j:=6) rfl
   have z6:=HEl.out.frozen (off+i * 8+6)
   have q7:=HEl.out.at (j:=7) rfl
   have z7:=HEl.out.frozen (off+i * 8+7)
   simp only[A0] at q0
   go_wp2_with fail
   have G2:=Lib.hid ((G2.out.setFar (p:=⟨b,off+i * 8+5,none⟩) bn2.out (.string (mTx (Qs (kk+1+1+1) x.cond.pattern.args+1)))).setFar (p:=⟨b,off+i * 8+6,none⟩) bn2.out (.int .i64 (Qs (kk+1+1+1) x.cond.pattern.args+1+1)))
   refine (ZOm A2 _ c2 x.tokens L2 base _ _ rfl (by omega) (by omega) (by omega) G2.out).mono ?_
   rintro e w5 ⟨rfl,g5,on5⟩
   have HEl:=Lib.hid (((HEl.out.set 5 (by omega) (.string (mTx (Qs (kk+1+1+1) x.cond.pattern.args+1)))).set 6 (by omega) (.int .i64 (Qs (kk+1+1+1) x.cond.pattern.args+1+1))).marked on5 sb2.out bn2.out)
   have G1:=Lib.hid (((G1.out.setFar (p:=⟨b,off+i * 8+5,none⟩) bn1.out (.string (mTx (Qs (kk+1+1+1) x.cond.pattern.args+1)))).setFar (p:=⟨b,off+i * 8+6,none⟩) bn1.out (.int .i64 (Qs (kk+1+1+1) x.cond.pattern.args+1+1))).only on5 ap1_2.out)
   have G2:=Lib.hid g5
   clear g5 on5
   clear q0 z0 q1 z1 q2 z2 q3 z3 q4 z4 q5 z5 q6 z6 q7 z7
   have q0:=HEl.out.at (j:=0) rfl
   have z0:=HEl.out.frozen (off+i * 8)
   have q1:=HEl.out.at (j:=1) rfl
   have z1:=HEl.out.frozen (off+i * 8+1)
   have q2:=HEl.out.at (j:=2) rfl
   have z2:=HEl.out.frozen (off+i * 8+2)
   have q3:=HEl.out.at (j:=3) rfl
   have z3:=HEl.out.frozen (off+i * 8+3)
   have q4:=HEl.out.at (j:=4) rfl
   have z4:=HEl.out.frozen (off+i * 8+4)
   have q5:=HEl.out.at (j:=5) rfl
   have z5:=HEl.out.frozen (off+i * 8+5)
   have q6:=HEl.out.at (j:=6) rfl
   have z6:=HEl.out.frozen (off+i * 8+6)
   have q7:=HEl.out.at (j:=7) rfl
   have z7:=HEl.out.frozen (off+i * 8+7)
   simp only[A0] at q0
   obtain ⟨nn1,mm1,ss1⟩:=ZeR G1.out.rep
   obtain ⟨nn2,mm2,ss2⟩:=ZeR G2.out.rep
   have hO2:=Lib.hid (ZLD HOwn.out HEl.out.plain HEl.out.only (fun y m=>by (try simp only[AC] at m)<;>(rcases m with m | m<;>first | exact G1.out.own.plain y m | exact G2.out.own.plain y m)))
   have HGn:=Lib.hid (HPut.out _ _ (ZMZ kk x) HEl.out.only HEl.out.cells HEl.out.rest ⟨A1,c1,L1,A2,c2,L2,by simp [ZMZ,ZLt,ZMW],rfl,ZLW _ (by omega),ZLW _ (by omega),ZLW _ (by omega),nn1,mm1,ss1,nn2,mm2,ss2⟩ hO2.out)
   have HOn:=Lib.hid (HO.out.trans (HEl.out.only.mono (fun y m=>by rcases AJ.1 m with rfl | m;exact hbL;exact HLk.out y m)))
   rw [hset.out] at HGn
   try simp only[A0] at HGn HOn
   clear HEl hO2 HPut G1 G2 nn1 nn2 mm1 mm2 ss1 ss2
   go_wp2_with fail
   go_roundw
   case rel=>exact ⟨i+1,ZLM kk x,_,by omega,by go_num,rfl,by unfold ZLM;omega,HDn,HGn,HOn⟩
   case measure=>simp [intOf];omega
  ·obtain rfl:i=n:=by omega
   have e:Hid (ds.drop i=[]):=AE (by have:=HN.out;omega)
   have hf:Hid (ZLk k ds=kk∧D=ZLR k ds):=by
    obtain ⟨h1,h2,h3⟩:=HD.out
    rw [e.out] at h3 h1
    simp [ZLR] at h3
    exact ⟨h1.symm,h3⟩
   rw [e.out,AK] at HG
   go_wp2
   go_ret
   exact ⟨ZL2 hf.out.1.symm,by rw [←hf.out.2];exact HG.out,HO.out⟩
def ZNE (k:Int) (x:ZMb):ZMb:=⟨ZLy (k) x.rules,ZLY (ZLc (k) x.rules) x.ends,ZLI (ZLg (ZLc (k) x.rules) x.ends) x.alphas,ZLR (ZLe (ZLg (ZLc (k) x.rules) x.ends) x.alphas) x.nodes,ZLK (ZLk (ZLe (ZLg (ZLc (k) x.rules) x.ends) x.alphas) x.nodes) x.facts,x.tries⟩
def ZLQ (k:Int) (x:ZMb):Int:=ZLl (ZLk (ZLe (ZLg (ZLc (k) x.rules) x.ends) x.alphas) x.nodes) x.facts
theorem ZMz (k:Int) (x:ZMb):k≤ZLQ k x:=by
 unfold ZLQ
 have:=ZMa (k) x.rules
 have:=ZMp (ZLc (k) x.rules) x.ends
 have:=ZMm (ZLg (ZLc (k) x.rules) x.ends) x.alphas
 have:=ZMs (ZLe (ZLg (ZLc (k) x.rules) x.ends) x.alphas) x.nodes
 have:=ZLT (ZLk (ZLe (ZLg (ZLc (k) x.rules) x.ends) x.alphas) x.nodes) x.facts
 omega
theorem ZOd (k:Int) (x:ZMb):ZLQ k x≤k+16 * ZNc x:=by
 unfold ZLQ
 have:=ZNN (k) x.rules
 have:=ZN1 (ZLc (k) x.rules) x.ends
 have:=ZOH (ZLg (ZLc (k) x.rules) x.ends) x.alphas
 have:=ZPc (ZLe (ZLg (ZLc (k) x.rules) x.ends) x.alphas) x.nodes
 have:=ZMV (ZLk (ZLe (ZLg (ZLc (k) x.rules) x.ends) x.alphas) x.nodes) x.facts
 simp only[ZNc]
 omega
set_option maxHeartbeats 1600000 in
theorem ZOx (x:ZMb) (A1:Option Addr) (c1:Nat) (L1:List Nat) (A2:Option Addr) (c2:Nat) (L2:List Nat) (A3:Option Addr) (c3:Nat) (L3:List Nat) (A4:Option Addr) (c4:Nat) (L4:List Nat) (A5:Option Addr) (c5:Nat) (L5:List Nat) (base:Nat) (k:Int) (w:World) (hk0:1≤k) (hk1:ZLQ k x≤4611686018427387904) (l1:x.rules.length≤9223372036854775807) (l2:x.ends.length≤9223372036854775807) (l3:x.alphas.length≤9223372036854775807) (l4:x.nodes.length≤9223372036854775807) (l5:x.facts.length≤9223372036854775807) (g1:Got (ZQ Zby) base [.slice A1 x.rules.length c1] (x.rules) L1 w) (g2:Got (ZQ Zj7) base [.slice A2 x.ends.length c2] (x.ends) L2 w) (g3:Got (ZQ ZL7) base [.slice A3 x.alphas.length c3] (x.alphas) L3 w) (g4:Got (ZQ ZMg) base [.slice A4 x.nodes.length c4] (x.nodes) L4 w) (g5:Got (ZQ Yf) base [.slice A5 x.facts.length c5] (x.facts) L5 w) (p1_2:∀y∈L1,y∉L2) (p1_3:∀y∈L1,y∉L3) (p1_4:∀y∈L1,y∉L4) (p1_5:∀y∈L1,y∉L5) (p2_3:∀y∈L2,y∉L3) (p2_4:∀y∈L2,y∉L4) (p2_5:∀y∈L2,y∉L5) (p3_4:∀y∈L3,y∉L4) (p3_5:∀y∈L3,y∉L5) (p4_5:∀y∈L4,y∉L5):
  Calls prog 16 #[.agg #[.slice A1 x.rules.length c1,.slice A2 x.ends.length c2,.slice A3 x.alphas.length c3,.slice A4 x.nodes.length c4,.slice A5 x.facts.length c5,.int .i64 x.tries],.int .i64 k] w fun e w'=>e=.returned (.int .i64 (ZLQ k x))∧Got (ZQ Zby) base [.slice A1 x.rules.length c1] (ZLy (k) x.rules) L1 w'∧Got (ZQ Zj7) base [.slice A2 x.ends.length c2] (ZLY (ZLc (k) x.rules) x.ends) L2 w'∧Got (ZQ ZL7) base [.slice A3 x.alphas.length c3] (ZLI (ZLg (ZLc (k) x.rules) x.ends) x.alphas) L3 w'∧Got (ZQ ZMg) base [.slice A4 x.nodes.length c4] (ZLR (ZLe (ZLg (ZLc (k) x.rules) x.ends) x.alphas) x.nodes) L4 w'∧Got (ZQ Yf) base [.slice A5 x.facts.length c5] (ZLK (ZLk (ZLe (ZLg (ZLc (k) x.rules) x.ends) x.alphas) x.nodes) x.facts) L5 w'∧ZLq (L1++(L2++(L3++(L4++L5)))) w w':=by
 have bn1:Hid (w.heap.size∉L1):=fun m=>AG _ (g1.lt _ m)
 have bn2:Hid (w.heap.size∉L2):=fun m=>AG _ (g2.lt _ m)
 have bn3:Hid (w.heap.size∉L3):=fun m=>AG _ (g3.lt _ m)
 have bn4:Hid (w.heap.size∉L4):=fun m=>AG _ (g4.lt _ m)
 have bn5:Hid (w.heap.size∉L5):=fun m=>AG _ (g5.lt _ m)
 have G1:=Lib.hid (g1.alloc (.cells #[.slice A1 x.rules.length c1,.slice A2 x.ends.length c2,.slice A3 x.alphas.length c3,.slice A4 x.nodes.length c4,.slice A5 x.facts.length c5,.int .i64 x.tries] 33))
 have G2:=Lib.hid (g2.alloc (.cells #[.slice A1 x.rules.length c1,.slice A2 x.ends.length c2,.slice A3 x.alphas.length c3,.slice A4 x.nodes.length c4,.slice A5 x.facts.length c5,.int .i64 x.tries] 33))
 have G3:=Lib.hid (g3.alloc (.cells #[.slice A1 x.rules.length c1,.slice A2 x.ends.length c2,.slice A3 x.alphas.length c3,.slice A4 x.nodes.length c4,.slice A5 x.facts.length c5,.int .i64 x.tries] 33))
 have G4:=Lib.hid (g4.alloc (.cells #[.slice A1 x.rules.length c1,.slice A2 x.ends.length c2,.slice A3 x.alphas.length c3,.slice A4 x.nodes.length c4,.slice A5 x.facts.length c5,.int .i64 x.tries] 33))
 have G5:=Lib.hid (g5.alloc (.cells #[.slice A1 x.rules.length c1,.slice A2 x.ends.length c2,.slice A3 x.alphas.length c3,.slice A4 x.nodes.length c4,.slice A5 x.facts.length c5,.int .i64 x.tries] 33))
 have ap1_2:=Lib.hid p1_2
 have ap2_1:Hid (∀y∈L2,y∉L1):=fun y m m'=>p1_2 y m' m
 have ap1_3:=Lib.hid p1_3
 have ap3_1:Hid (∀y∈L3,y∉L1):=fun y m m'=>p1_3 y m' m
 have ap1_4:=Lib.hid p1_4
 have ap4_1:Hid (∀y∈L4,y∉L1):=fun y m m'=>p1_4 y m' m
 have ap1_5:=Lib.hid p1_5
 have ap5_1:Hid (∀y∈L5,y∉L1):=fun y m m'=>p1_5 y m' m
 have ap2_3:=Lib.hid p2_3
 have ap3_2:Hid (∀y∈L3,y∉L2):=fun y m m'=>p2_3 y m' m
 have ap2_4:=Lib.hid p2_4
 have ap4_2:Hid (∀y∈L4,y∉L2):=fun y m m'=>p2_4 y m' m
 have ap2_5:=Lib.hid p2_5
 have ap5_2:Hid (∀y∈L5,y∉L2):=fun y m m'=>p2_5 y m' m
 have ap3_4:=Lib.hid p3_4
 have ap4_3:Hid (∀y∈L4,y∉L3):=fun y m m'=>p3_4 y m' m
 have ap3_5:=Lib.hid p3_5
 have ap5_3:Hid (∀y∈L5,y∉L3):=fun y m m'=>p3_5 y m' m
 have ap4_5:=Lib.hid p4_5
 have ap5_4:Hid (∀y∈L5,y∉L4):=fun y m m'=>p4_5 y m' m
 have K0:Hid (Blk (w.alloc (.cells #[.slice A1 x.rules.length c1,.slice A2 x.ends.length c2,.slice A3 x.alphas.length c3,.slice A4 x.nodes.length c4,.slice A5 x.facts.length c5,.int .i64 x.tries] 33)) w.heap.size 33 #[.slice A1 x.rules.length c1,.slice A2 x.ends.length c2,.slice A3 x.alphas.length c3,.slice A4 x.nodes.length c4,.slice A5 x.facts.length c5,.int .i64 x.tries]):=Blk.new _ _ _
 have O0:Hid (ZLq (L1++(L2++(L3++(L4++L5)))) w (w.alloc (.cells #[.slice A1 x.rules.length c1,.slice A2 x.ends.length c2,.slice A3 x.alphas.length c3,.slice A4 x.nodes.length c4,.slice A5 x.facts.length c5,.int .i64 x.tries] 33))):=ZLq.of_below ((Below.refl _ _).alloc (AM _) _) _
 clear g1 g2 g3 g4 g5 p1_2 p1_3 p1_4 p1_5 p2_3 p2_4 p2_5 p3_4 p3_5 p4_5
 unfold ZLQ at hk1
 have:=ZMa (k) x.rules
 have:=ZMp (ZLc (k) x.rules) x.ends
 have:=ZMm (ZLg (ZLc (k) x.rules) x.ends) x.alphas
 have:=ZMs (ZLe (ZLg (ZLc (k) x.rules) x.ends) x.alphas) x.nodes
 have:=ZLT (ZLk (ZLe (ZLg (ZLc (k) x.rules) x.ends) x.alphas) x.nodes) x.facts
 go_enter func16,ntmps16
 go_wp2_with fail
 refine (ZNt A1 _ c1 x.rules L1 base _ _ rfl (by omega) (by omega) (by omega) G1.out).mono ?_
 rintro e w1 ⟨rfl,h1,on1⟩
 have G1:=Lib.hid h1
 have G2:=Lib.hid (G2.out.only on1 ap2_1.out)
 have G3:=Lib.hid (G3.out.only on1 ap3_1.out)
 have G4:=Lib.hid (G4.out.only on1 ap4_1.out)
 have G5:=Lib.hid (G5.out.only on1 ap5_1.out)
 have K1:=Lib.hid (ZMc K0.out on1 bn1.out)
 have f0:=K1.out.at (i:=0) rfl
 have f1:=K1.out.at (i:=1) rfl
 have f2:=K1.out.at (i:=2) rfl
 have f3:=K1.out.at (i:=3) rfl
 have f4:=K1.out.at (i:=4) rfl
 have f5:=K1.out.at (i:=5) rfl
 have O1:Hid (ZLq (L1++(L2++(L3++(L4++L5)))) w w1):=O0.out.trans (on1.mono (fun y m=>by first | exact m | (simp [m];done) | (simp only[AC] at m ⊢;(repeat' (refine Or.elim m (fun m=>?_) (fun m=>?_)))<;>simp [m])))
 clear on1 h1
 go_wp2_with fail
 refine (ZNH A2 _ c2 x.ends L2 base _ _ rfl (by omega) (by omega) G2.out).mono ?_
 rintro e w2 ⟨rfl,h2,on2⟩
 have G1:=Lib.hid (G1.out.only on2 ap1_2.out)
 have G2:=Lib.hid h2
 have G3:=Lib.hid (G3.out.only on2 ap3_2.out)
 have G4:=Lib.hid (G4.out.only on2 ap4_2.out)
 have G5:=Lib.hid (G5.out.only on2 ap5_2.out)
 have K2:=Lib.hid (ZMc K1.out on2 bn2.out)
 clear f0 f1 f2 f3 f4 f5
 have f0:=K2.out.at (i:=0) rfl
 have f1:=K2.out.at (i:=1) rfl
 have f2:=K2.out.at (i:=2) rfl
 have f3:=K2.out.at (i:=3) rfl
 have f4:=K2.out.at (i:=4) rfl
 have f5:=K2.out.at (i:=5) rfl
 have O2:Hid (ZLq (L1++(L2++(L3++(L4++L5)))) w w2):=O1.out.trans (on2.mono (fun y m=>by first | exact m | (simp [m];done) | (simp only[AC] at m ⊢;(repeat' (refine Or.elim m (fun m=>?_) (fun m=>?_)))<;>simp [m])))
 clear on2 h2
 go_wp2_with fail
 refine (ZOA A3 _ c3 x.alphas L3 base _ _ rfl (by omega) (by omega) (by omega) G3.out).mono ?_
 rintro e w3 ⟨rfl,h3,on3⟩
 have G1:=Lib.hid (G1.out.only on3 ap1_3.out)
 have G2:=Lib.hid (G2.out.only on3 ap2_3.out)
 have G3:=Lib.hid h3
 have G4:=Lib.hid (G4.out.only on3 ap4_3.out)
 have G5:=Lib.hid (G5.out.only on3 ap5_3.out)
 have K3:=Lib.hid (ZMc K2.out on3 bn3.out)
 clear f0 f1 f2 f3 f4 f5
 have f0:=K3.out.at (i:=0) rfl
 have f1:=K3.out.at (i:=1) rfl
 have f2:=K3.out.at (i:=2) rfl
 have f3:=K3.out.at (i:=3) rfl
 have f4:=K3.out.at (i:=4) rfl
 have f5:=K3.out.at (i:=5) rfl
 have O3:Hid (ZLq (L1++(L2++(L3++(L4++L5)))) w w3):=O2.out.trans (on3.mono (fun y m=>by first | exact m | (simp [m];done) | (simp only[AC] at m ⊢;(repeat' (refine Or.elim m (fun m=>?_) (fun m=>?_)))<;>simp [m])))
 clear on3 h3
 go_wp2_with fail
 refine (ZOI A4 _ c4 x.nodes L4 base _ _ rfl (by omega) (by omega) (by omega) G4.out).mono ?_
 rintro e w4 ⟨rfl,h4,on4⟩
 have G1:=Lib.hid (G1.out.only on4 ap1_4.out)
 have G2:=Lib.hid (G2.out.only on4 ap2_4.out)
 have G3:=Lib.hid (G3.out.only on4 ap3_4.out)
 have G4:=Lib.hid h4
 have G5:=Lib.hid (G5.out.only on4 ap5_4.out)
 have K4:=Lib.hid (ZMc K3.out on4 bn4.out)
 clear f0 f1 f2 f3 f4 f5
 have f0:=K4.out.at (i:=0) rfl
 have f1:=K4.out.at (i:=1) rfl
 have f2:=K4.out.at (i:=2) rfl
 have f3:=K4.out.at (i:=3) rfl
 have f4:=K4.out.at (i:=4) rfl
 have f5:=K4.out.at (i:=5) rfl
 have O4:Hid (ZLq (L1++(L2++(L3++(L4++L5)))) w w4):=O3.out.trans (on4.mono (fun y m=>by first | exact m | (simp [m];done) | (simp only[AC] at m ⊢;(repeat' (refine Or.elim m (fun m=>?_) (fun m=>?_)))<;>simp [m])))
 clear on4 h4
 go_wp2_with fail
 refine (ZMO A5 _ c5 x.facts L5 base _ _ rfl (by omega) (by omega) (by omega) G5.out).mono ?_
 rintro e w5 ⟨rfl,h5,on5⟩
 have G1:=Lib.hid (G1.out.only on5 ap1_5.out)
 have G2:=Lib.hid (G2.out.only on5 ap2_5.out)
 have G3:=Lib.hid (G3.out.only on5 ap3_5.out)
 have G4:=Lib.hid (G4.out.only on5 ap4_5.out)
 have G5:=Lib.hid h5
 have K5:=Lib.hid (ZMc K4.out on5 bn5.out)
 clear f0 f1 f2 f3 f4 f5
 have f0:=K5.out.at (i:=0) rfl
 have f1:=K5.out.at (i:=1) rfl
 have f2:=K5.out.at (i:=2) rfl
 have f3:=K5.out.at (i:=3) rfl
 have f4:=K5.out.at (i:=4) rfl
 have f5:=K5.out.at (i:=5) rfl
 have O5:Hid (ZLq (L1++(L2++(L3++(L4++L5)))) w w5):=O4.out.trans (on5.mono (fun y m=>by first | exact m | (simp [m];done) | (simp only[AC] at m ⊢;(repeat' (refine Or.elim m (fun m=>?_) (fun m=>?_)))<;>simp [m])))
 clear on5 h5
 go_wp2_with fail
 go_ret
 exact ⟨ZL2 rfl,G1.out,G2.out,G3.out,G4.out,G5.out,O5.out⟩
set_option maxRecDepth 100000 in
set_option maxHeartbeats 4000000 in
theorem ZOt (A:Option Addr) (n c:Nat) (ds:List ZL5) (L:List Nat) (base:Nat) (k:Int) (w:World) (hn:n=ds.length) (hm:n≤9223372036854775807) (hk0:1≤k) (hk1:ZLd k ds≤4611686018427387904) (h:Got (ZQ ZL8) base [.slice A n c] ds L w):
  Calls prog 35 #[.slice A n c,.int .i64 k] w fun e w'=>e=.returned (.int .i64 (ZLd k ds))∧Got (ZQ ZL8) base [.slice A n c] (ZLH k ds) L w'∧ZLq L w w':=by
 have H:=Lib.hid h
 have HN:=Lib.hid hn
 have HK:=Lib.hid hk1
 clear h hn hk1
 go_enter func35,ntmps35
 go_wp2
 go_loopw [1,5] (fun q j wr=>∃(i:Nat) (kk:Int) (D:List ZL5),i≤n∧j=.int .i64 i∧q=.int .i64 kk∧1≤kk∧Hid (ZLd kk (ds.drop i)=ZLd k ds∧D.length=i∧D++ZLH kk (ds.drop i)=ZLH k ds)∧Hid (Got (ZQ ZL8) base [.slice A n c] (D++ds.drop i) L wr)∧Hid (ZLq L w wr)) (fun _ j _=>n - (intOf j).toNat)
 case atStart=>exact ⟨0,k,[],AD _,rfl,rfl,hk0,⟨rfl,rfl,rfl⟩,H.out,ZLq.refl _ _⟩
 case round=>
  obtain ⟨i,kk,D,hi,rfl,rfl,h1,HD,HG,HO⟩:=hrel
  by_cases hlt:i<n
  ·have hil:i<ds.length:=by have:=HN.out;omega
   obtain ⟨hkk,hDl,hDm⟩:=HD.out
   have hcl:i<(D++ds.drop i).length:=by simp;omega
   obtain ⟨b,off,cs,Lk,rfl,hbL,hLk,hown,hrep,hcells,hput⟩:=HG.out.focus hcl
   have hnext:Hid (ds.drop i=ds[i]::ds.drop (i+1)):=AA _
   have hxi:(D++ds.drop i)[i]=ds[i]:=by
    rw [AL (by omega)];simp [hDl]
   rw [hxi] at hrep
   clear hxi
   generalize ds[i]=x at hrep hnext
   have hnb:Hid (ZLB kk x≤4611686018427387904):=by
    have:=ZMl (ZLB kk x) (ds.drop (i+1))
    rw [hnext.out] at hkk
    have hk:=HK.out
    rw [←hkk] at hk
    exact AF this hk
   have hnb1:=hnb.out
   have hnb2:=ZM3 kk x
   unfold ZLB at hnb1 hnb2
   have HDn:Hid (ZLd (ZLB kk x) (ds.drop (i+1))=ZLd k ds∧(D++[ZML kk x]).length=i+1∧(D++[ZML kk x])++ZLH (ZLB kk x) (ds.drop (i+1))=ZLH k ds):=by
    refine ⟨by rw [←hkk,hnext.out];rfl,by simp [hDl],?_⟩
    rw [←hDm,hnext.out];simp [ZLH]
   have hset:Hid ((D++ds.drop i).set i (ZML kk x)=(D++[ZML kk x])++ds.drop (i+1)):=by
    rw [Hid,AH _ _ (by omega),show i - D.length=0 by omega,hnext.out,AI];simp
   obtain ⟨A1,c1,L1,rfl,hLL,t0,n1,m1,s1⟩:=hrep
   unfold maxLen at m1
   subst Lk
   have HEl:=Lib.hid (ZMk.start (m:=3) hcells rfl hown)
   have hbn:=Lib.hid hown.head
   have G1:Hid (Got (ZQ ZsX) base [.slice A1 x.fact.args.length c1] x.fact.args L1 wr):=⟨⟨A1,c1,rfl,n1,(by unfold maxLen;omega),s1⟩,hown.tail⟩
   have bn1:Hid (b∉L1):=fun m=>hown.head (by simp [m])
   have sb1:Hid (∀y∈L1,y∈L1):=fun y m=>by simp [m]
   clear s1
   have HPut:=Lib.hid hput
   have HOwn:=Lib.hid hown
   have HLk:=Lib.hid hLk
   clear hput hown hLk hcells hkk hDl hDm
   simp only[show ZL8.size=3 from rfl] at HEl HPut
   have q0:=HEl.out.at (j:=0) rfl
   have z0:=HEl.out.frozen (off+i * 3)
   have q1:=HEl.out.at (j:=1) rfl
   have z1:=HEl.out.frozen (off+i * 3+1)
   have q2:=HEl.out.at (j:=2) rfl
   have z2:=HEl.out.frozen (off+i * 3+2)
   simp only[A0] at q0
   have gm0:(0:Int)≤0:=by omega
   have mono_x_fact_args:=ZLj (kk+1) x.fact.args
   go_wp2_with fail
   refine (ZLf _ _ (by omega) (by omega)).mono ?_
   rintro e w1 ⟨rfl,hb1⟩
   have HEl:=Lib.hid (HEl.out.later hb1)
   have G1:=Lib.hid (G1.out.later hb1)
   clear hb1
   clear q0 z0 q1 z1 q2 z2
   have q0:=HEl.out.at (j:=0) rfl
   have z0:=HEl.out.frozen (off+i * 3)
   have q1:=HEl.out.at (j:=1) rfl
   have z1:=HEl.out.frozen (off+i * 3+1)
   have q2:=HEl.out.at (j:=2) rfl
   have z2:=HEl.out.frozen (off+i * 3+2)
   simp only[A0] at q0
   go_wp2_with fail
   have G1:=Lib.hid (G1.out.setFar (p:=⟨b,off+i * 3+0,none⟩) bn1.out (.string (mTx (kk))))
   refine (ZLX A1 _ c1 x.fact.args L1 base _ _ rfl (by omega) (by omega) G1.out).mono ?_
   rintro e w2 ⟨rfl,g2,on2⟩
   have HEl:=Lib.hid ((HEl.out.set 0 (by omega) (.string (mTx (kk)))).marked on2 sb1.out bn1.out)
   have G1:=Lib.hid g2
   clear g2 on2
   clear q0 z0 q1 z1 q2 z2
   have q0:=HEl.out.at (j:=0) rfl
   have z0:=HEl.out.frozen (off+i * 3)
   have q1:=HEl.out.at (j:=1) rfl
   have z1:=HEl.out.frozen (off+i * 3+1)
   have q2:=HEl.out.at (j:=2) rfl
   have z2:=HEl.out.frozen (off+i * 3+2)
   simp only[A0] at q0
   have HEl:=Lib.hid (HEl.out.set 2 (by omega) (.int .i64 (Qs (kk+1) x.fact.args)))
   have G1:=Lib.hid (G1.out.setFar (p:=⟨b,off+i * 3+2,none⟩) bn1.out (.int .i64 (Qs (kk+1) x.fact.args)))
   obtain ⟨nn1,mm1,ss1⟩:=ZeR G1.out.rep
   have hO2:=Lib.hid (ZLD HOwn.out HEl.out.plain HEl.out.only (fun y m=>by (try simp only[AC] at m)<;>(exact G1.out.own.plain y m)))
   have HGn:=Lib.hid (HPut.out _ _ (ZML kk x) HEl.out.only HEl.out.cells HEl.out.rest ⟨A1,c1,L1,by simp [ZML,ZLt],rfl,ZLW _ (by omega),nn1,mm1,ss1⟩ hO2.out)
   have HOn:=Lib.hid (HO.out.trans (HEl.out.only.mono (fun y m=>by rcases AJ.1 m with rfl | m;exact hbL;exact HLk.out y m)))
   rw [hset.out] at HGn
   try simp only[A0] at HGn HOn
   clear HEl hO2 HPut G1 nn1 mm1 ss1
   go_wp2_with fail
   go_roundw
   case rel=>exact ⟨i+1,ZLB kk x,_,by omega,by go_num,rfl,by unfold ZLB;omega,HDn,HGn,HOn⟩
   case measure=>simp [intOf];omega
  ·obtain rfl:i=n:=by omega
   have e:Hid (ds.drop i=[]):=AE (by have:=HN.out;omega)
   have hf:Hid (ZLd k ds=kk∧D=ZLH k ds):=by
    obtain ⟨h1,h2,h3⟩:=HD.out
    rw [e.out] at h3 h1
    simp [ZLH] at h3
    exact ⟨h1.symm,h3⟩
   rw [e.out,AK] at HG
   go_wp2
   go_ret
   exact ⟨ZL2 hf.out.1.symm,by rw [←hf.out.2];exact HG.out,HO.out⟩
set_option maxRecDepth 100000 in
set_option maxHeartbeats 4000000 in
theorem ZOe (A:Option Addr) (n c:Nat) (ds:List ZLS) (L:List Nat) (base:Nat) (k:Int) (w:World) (hn:n=ds.length) (hm:n≤9223372036854775807) (hk0:1≤k) (hk1:ZLi k ds≤4611686018427387904) (h:Got (ZQ ZLV) base [.slice A n c] ds L w):
  Calls prog 36 #[.slice A n c,.int .i64 k] w fun e w'=>e=.returned (.int .i64 (ZLi k ds))∧Got (ZQ ZLV) base [.slice A n c] (ZLw k ds) L w'∧ZLq L w w':=by
 have H:=Lib.hid h
 have HN:=Lib.hid hn
 have HK:=Lib.hid hk1
 clear h hn hk1
 go_enter func36,ntmps36
 go_wp2
 go_loopw [1,5] (fun q j wr=>∃(i:Nat) (kk:Int) (D:List ZLS),i≤n∧j=.int .i64 i∧q=.int .i64 kk∧1≤kk∧Hid (ZLi kk (ds.drop i)=ZLi k ds∧D.length=i∧D++ZLw kk (ds.drop i)=ZLw k ds)∧Hid (Got (ZQ ZLV) base [.slice A n c] (D++ds.drop i) L wr)∧Hid (ZLq L w wr)) (fun _ j _=>n - (intOf j).toNat)
 case atStart=>exact ⟨0,k,[],AD _,rfl,rfl,hk0,⟨rfl,rfl,rfl⟩,H.out,ZLq.refl _ _⟩
 case round=>
  obtain ⟨i,kk,D,hi,rfl,rfl,h1,HD,HG,HO⟩:=hrel
  by_cases hlt:i<n
  ·have hil:i<ds.length:=by have:=HN.out;omega
   obtain ⟨hkk,hDl,hDm⟩:=HD.out
   have hcl:i<(D++ds.drop i).length:=by simp;omega
   obtain ⟨b,off,cs,Lk,rfl,hbL,hLk,hown,hrep,hcells,hput⟩:=HG.out.focus hcl
   have hnext:Hid (ds.drop i=ds[i]::ds.drop (i+1)):=AA _
   have hxi:(D++ds.drop i)[i]=ds[i]:=by
    rw [AL (by omega)];simp [hDl]
   rw [hxi] at hrep
   clear hxi
   generalize ds[i]=x at hrep hnext
   have hnb:Hid (ZLs kk x≤4611686018427387904):=by
    have:=ZMi (ZLs kk x) (ds.drop (i+1))
    rw [hnext.out] at hkk
    have hk:=HK.out
    rw [←hkk] at hk
    exact AF this hk
   have hnb1:=hnb.out
   have hnb2:=ZMS kk x
   unfold ZLs at hnb1 hnb2
   have HDn:Hid (ZLi (ZLs kk x) (ds.drop (i+1))=ZLi k ds∧(D++[ZMx kk x]).length=i+1∧(D++[ZMx kk x])++ZLw (ZLs kk x) (ds.drop (i+1))=ZLw k ds):=by
    refine ⟨by rw [←hkk,hnext.out];rfl,by simp [hDl],?_⟩
    rw [←hDm,hnext.out];simp [ZLw]
   have hset:Hid ((D++ds.drop i).set i (ZMx kk x)=(D++[ZMx kk x])++ds.drop (i+1)):=by
    rw [Hid,AH _ _ (by omega),show i - D.length=0 by omega,hnext.out,AI];simp
   obtain ⟨A1,c1,L1,rfl,hLL,t0,n1,m1,s1⟩:=hrep
   unfold maxLen at m1
   subst Lk
   have HEl:=Lib.hid (ZMk.start (m:=2) hcells rfl hown)
   have hbn:=Lib.hid hown.head
   have G1:Hid (Got (ZQ Zj7) base [.slice A1 x.times.length c1] x.times L1 wr):=⟨⟨A1,c1,rfl,n1,(by unfold maxLen;omega),s1⟩,hown.tail⟩
   have bn1:Hid (b∉L1):=fun m=>hown.head (by simp [m])
   have sb1:Hid (∀y∈L1,y∈L1):=fun y m=>by simp [m]
   clear s1
   have HPut:=Lib.hid hput
   have HOwn:=Lib.hid hown
   have HLk:=Lib.hid hLk
   clear hput hown hLk hcells hkk hDl hDm
   simp only[show ZLV.size=2 from rfl] at HEl HPut
   have q0:=HEl.out.at (j:=0) rfl
   have z0:=HEl.out.frozen (off+i * 2)
   have q1:=HEl.out.at (j:=1) rfl
   have z1:=HEl.out.frozen (off+i * 2+1)
   simp only[A0] at q0
   have gm0:(0:Int)≤0:=by omega
   have mono_x_times:=ZMp (kk+1) x.times
   go_wp2_with fail
   refine (ZLf _ _ (by omega) (by omega)).mono ?_
   rintro e w1 ⟨rfl,hb1⟩
   have HEl:=Lib.hid (HEl.out.later hb1)
   have G1:=Lib.hid (G1.out.later hb1)
   clear hb1
   clear q0 z0 q1 z1
   have q0:=HEl.out.at (j:=0) rfl
   have z0:=HEl.out.frozen (off+i * 2)
   have q1:=HEl.out.at (j:=1) rfl
   have z1:=HEl.out.frozen (off+i * 2+1)
   simp only[A0] at q0
   go_wp2_with fail
   have G1:=Lib.hid (G1.out.setFar (p:=⟨b,off+i * 2+0,none⟩) bn1.out (.string (mTx (kk))))
   refine (ZNH A1 _ c1 x.times L1 base _ _ rfl (by omega) (by omega) G1.out).mono ?_
   rintro e w2 ⟨rfl,g2,on2⟩
   have HEl:=Lib.hid ((HEl.out.set 0 (by omega) (.string (mTx (kk)))).marked on2 sb1.out bn1.out)
   have G1:=Lib.hid g2
   clear g2 on2
   clear q0 z0 q1 z1
   have q0:=HEl.out.at (j:=0) rfl
   have z0:=HEl.out.frozen (off+i * 2)
   have q1:=HEl.out.at (j:=1) rfl
   have z1:=HEl.out.frozen (off+i * 2+1)
   simp only[A0] at q0
   obtain ⟨nn1,mm1,ss1⟩:=ZeR G1.out.rep
   have hO2:=Lib.hid (ZLD HOwn.out HEl.out.plain HEl.out.only (fun y m=>by (try simp only[AC] at m)<;>(exact G1.out.own.plain y m)))
   have HGn:=Lib.hid (HPut.out _ _ (ZMx kk x) HEl.out.only HEl.out.cells HEl.out.rest ⟨A1,c1,L1,by simp [ZMx,ZMu],rfl,ZLW _ (by omega),nn1,mm1,ss1⟩ hO2.out)
   have HOn:=Lib.hid (HO.out.trans (HEl.out.only.mono (fun y m=>by rcases AJ.1 m with rfl | m;exact hbL;exact HLk.out y m)))
   rw [hset.out] at HGn
   try simp only[A0] at HGn HOn
   clear HEl hO2 HPut G1 nn1 mm1 ss1
   go_wp2_with fail
   go_roundw
   case rel=>exact ⟨i+1,ZLs kk x,_,by omega,by go_num,rfl,by unfold ZLs;omega,HDn,HGn,HOn⟩
   case measure=>simp [intOf];omega
  ·obtain rfl:i=n:=by omega
   have e:Hid (ds.drop i=[]):=AE (by have:=HN.out;omega)
   have hf:Hid (ZLi k ds=kk∧D=ZLw k ds):=by
    obtain ⟨h1,h2,h3⟩:=HD.out
    rw [e.out] at h3 h1
    simp [ZLw] at h3
    exact ⟨h1.symm,h3⟩
   rw [e.out,AK] at HG
   go_wp2
   go_ret
   exact ⟨ZL2 hf.out.1.symm,by rw [←hf.out.2];exact HG.out,HO.out⟩
set_option maxRecDepth 100000 in
set_option maxHeartbeats 4000000 in
theorem ZOu (A:Option Addr) (n c:Nat) (ds:List ZL6) (L:List Nat) (base:Nat) (k:Int) (w:World) (hn:n=ds.length) (hm:n≤9223372036854775807) (hk0:1≤k) (hk1:ZLv k ds≤4611686018427387904) (h:Got (ZQ ZL9) base [.slice A n c] ds L w):
  Calls prog 37 #[.slice A n c,.int .i64 k] w fun e w'=>e=.returned (.int .i64 (ZLv k ds))∧Got (ZQ ZL9) base [.slice A n c] (ZLG k ds) L w'∧ZLq L w w':=by
 have H:=Lib.hid h
 have HN:=Lib.hid hn
 have HK:=Lib.hid hk1
 clear h hn hk1
 go_enter func37,ntmps37
 go_wp2
 go_loopw [1,5] (fun q j wr=>∃(i:Nat) (kk:Int) (D:List ZL6),i≤n∧j=.int .i64 i∧q=.int .i64 kk∧1≤kk∧Hid (ZLv kk (ds.drop i)=ZLv k ds∧D.length=i∧D++ZLG kk (ds.drop i)=ZLG k ds)∧Hid (Got (ZQ ZL9) base [.slice A n c] (D++ds.drop i) L wr)∧Hid (ZLq L w wr)) (fun _ j _=>n - (intOf j).toNat)
 case atStart=>exact ⟨0,k,[],AD _,rfl,rfl,hk0,⟨rfl,rfl,rfl⟩,H.out,ZLq.refl _ _⟩
 case round=>
  obtain ⟨i,kk,D,hi,rfl,rfl,h1,HD,HG,HO⟩:=hrel
  by_cases hlt:i<n
  ·have hil:i<ds.length:=by have:=HN.out;omega
   obtain ⟨hkk,hDl,hDm⟩:=HD.out
   have hcl:i<(D++ds.drop i).length:=by simp;omega
   obtain ⟨b,off,cs,Lk,rfl,hbL,hLk,hown,hrep,hcells,hput⟩:=HG.out.focus hcl
   have hnext:Hid (ds.drop i=ds[i]::ds.drop (i+1)):=AA _
   have hxi:(D++ds.drop i)[i]=ds[i]:=by
    rw [AL (by omega)];simp [hDl]
   rw [hxi] at hrep
   clear hxi
   generalize ds[i]=x at hrep hnext
   have hnb:Hid (ZLF kk x≤4611686018427387904):=by
    have:=ZMn (ZLF kk x) (ds.drop (i+1))
    rw [hnext.out] at hkk
    have hk:=HK.out
    rw [←hkk] at hk
    exact AF this hk
   have hnb1:=hnb.out
   have hnb2:=ZM2 kk x
   unfold ZLF at hnb1 hnb2
   have HDn:Hid (ZLv (ZLF kk x) (ds.drop (i+1))=ZLv k ds∧(D++[ZMJ kk x]).length=i+1∧(D++[ZMJ kk x])++ZLG (ZLF kk x) (ds.drop (i+1))=ZLG k ds):=by
    refine ⟨by rw [←hkk,hnext.out];rfl,by simp [hDl],?_⟩
    rw [←hDm,hnext.out];simp [ZLG]
   have hset:Hid ((D++ds.drop i).set i (ZMJ kk x)=(D++[ZMJ kk x])++ds.drop (i+1)):=by
    rw [Hid,AH _ _ (by omega),show i - D.length=0 by omega,hnext.out,AI];simp
   obtain ⟨A1,c1,L1,rfl,hLL,t0,t1,n1,m1,s1⟩:=hrep
   unfold maxLen at m1
   subst Lk
   have HEl:=Lib.hid (ZMk.start (m:=4) hcells rfl hown)
   have hbn:=Lib.hid hown.head
   have G1:Hid (Got (ZQ ZsX) base [.slice A1 x.fact.args.length c1] x.fact.args L1 wr):=⟨⟨A1,c1,rfl,n1,(by unfold maxLen;omega),s1⟩,hown.tail⟩
   have bn1:Hid (b∉L1):=fun m=>hown.head (by simp [m])
   have sb1:Hid (∀y∈L1,y∈L1):=fun y m=>by simp [m]
   clear s1
   have HPut:=Lib.hid hput
   have HOwn:=Lib.hid hown
   have HLk:=Lib.hid hLk
   clear hput hown hLk hcells hkk hDl hDm
   simp only[show ZL9.size=4 from rfl] at HEl HPut
   have q0:=HEl.out.at (j:=0) rfl
   have z0:=HEl.out.frozen (off+i * 4)
   have q1:=HEl.out.at (j:=1) rfl
   have z1:=HEl.out.frozen (off+i * 4+1)
   have q2:=HEl.out.at (j:=2) rfl
   have z2:=HEl.out.frozen (off+i * 4+2)
   have q3:=HEl.out.at (j:=3) rfl
   have z3:=HEl.out.frozen (off+i * 4+3)
   simp only[A0] at q0
   have gm0:(0:Int)≤0:=by omega
   have mono_x_fact_args:=ZLj (kk+1+1+1) x.fact.args
   go_wp2_with fail
   refine (ZLf _ _ (by omega) (by omega)).mono ?_
   rintro e w1 ⟨rfl,hb1⟩
   have HEl:=Lib.hid ((HEl.out.set 0 (by omega) (.int .i64 (kk))).later hb1)
   have G1:=Lib.hid ((G1.out.setFar (p:=⟨b,off+i * 4+0,none⟩) bn1.out (.int .i64 (kk))).later hb1)
   clear hb1
   clear q0 z0 q1 z1 q2 z2 q3 z3
   have q0:=HEl.out.at (j:=0) rfl
   have z0:=HEl.out.frozen (off+i * 4)
   have q1:=HEl.out.at (j:=1) rfl
   have z1:=HEl.out.frozen (off+i * 4+1)
   have q2:=HEl.out.at (j:=2) rfl
   have z2:=HEl.out.frozen (off+i * 4+2)
   have q3:=HEl.out.at (j:=3) rfl
   have z3:=HEl.out.frozen (off+i * 4+3)
   simp only[A0] at q0
   go_wp2_with fail
   refine (ZLf _ _ (by omega) (by omega)).mono ?_
   rintro e w2 ⟨rfl,hb2⟩
   have HEl:=Lib.hid ((HEl.out.set 1 (by omega) (.string (mTx (kk+1)))).later hb2)
   have G1:=Lib.hid ((G1.out.setFar (p:=⟨b,off+i * 4+1,none⟩) bn1.out (.string (mTx (kk+1)))).later hb2)
   clear hb2
   clear q0 z0 q1 z1 q2 z2 q3 z3
   have q0:=HEl.out.at (j:=0) rfl
   have z0:=HEl.out.frozen (off+i * 4)
   have q1:=HEl.out.at (j:=1) rfl
   have z1:=HEl.out.frozen (off+i * 4+1)
   have q2:=HEl.out.at (j:=2) rfl
   have z2:=HEl.out.frozen (off+i * 4+2)
   have q3:=HEl.out.at (j:=3) rfl
   have z3:=HEl.out.frozen (off+i * 4+3)
   simp only[A0] at q0
   go_wp2_with fail
   have G1:=Lib.hid (G1.out.setFar (p:=⟨b,off+i * 4+2,none⟩) bn1.out (.string (mTx (kk+1+1))))
   refine (ZLX A1 _ c1 x.fact.args L1 base _ _ rfl (by omega) (by omega) G1.out).mono ?_
   rintro e w3 ⟨rfl,g3,on3⟩
   have HEl:=Lib.hid ((HEl.out.set 2 (by omega) (.string (mTx (kk+1+1)))).marked on3 sb1.out bn1.out)
   have G1:=Lib.hid g3
   clear g3 on3
   clear q0 z0 q1 z1 q2 z2 q3 z3
   have q0:=HEl.out.at (j:=0) rfl
   have z0:=HEl.out.frozen (off+i * 4)
   have q1:=HEl.out.at (j:=1) rfl
   have z1:=HEl.out.frozen (off+i * 4+1)
   have q2:=HEl.out.at (j:=2) rfl
   have z2:=HEl.out.frozen (off+i * 4+2)
   have q3:=HEl.out.at (j:=3) rfl
   have z3:=HEl.out.frozen (off+i * 4+3)
   simp only[A0] at q0
   obtain ⟨nn1,mm1,ss1⟩:=ZeR G1.out.rep
   have hO2:=Lib.hid (ZLD HOwn.out HEl.out.plain HEl.out.only (fun y m=>by (try simp only[AC] at m)<;>(exact G1.out.own.plain y m)))
   have HGn:=Lib.hid (HPut.out _ _ (ZMJ kk x) HEl.out.only HEl.out.cells HEl.out.rest ⟨A1,c1,L1,by simp [ZMJ,ZLt],rfl,ZLW _ (by omega),ZLW _ (by omega),nn1,mm1,ss1⟩ hO2.out)
   have HOn:=Lib.hid (HO.out.trans (HEl.out.only.mono (fun y m=>by rcases AJ.1 m with rfl | m;exact hbL;exact HLk.out y m)))
   rw [hset.out] at HGn
   try simp only[A0] at HGn HOn
   clear HEl hO2 HPut G1 nn1 mm1 ss1
   go_wp2_with fail
   go_roundw
   case rel=>exact ⟨i+1,ZLF kk x,_,by omega,by go_num,rfl,by unfold ZLF;omega,HDn,HGn,HOn⟩
   case measure=>simp [intOf];omega
  ·obtain rfl:i=n:=by omega
   have e:Hid (ds.drop i=[]):=AE (by have:=HN.out;omega)
   have hf:Hid (ZLv k ds=kk∧D=ZLG k ds):=by
    obtain ⟨h1,h2,h3⟩:=HD.out
    rw [e.out] at h3 h1
    simp [ZLG] at h3
    exact ⟨h1.symm,h3⟩
   rw [e.out,AK] at HG
   go_wp2
   go_ret
   exact ⟨ZL2 hf.out.1.symm,by rw [←hf.out.2];exact HG.out,HO.out⟩
def ZNW (k:Int) (x:ZMj):ZMj:=⟨ZLy (k) x.rules,ZLH (ZLc (k) x.rules) x.memory,x.clock,ZLw (ZLd (ZLc (k) x.rules) x.memory) x.fired,x.halted,ZLG (ZLi (ZLd (ZLc (k) x.rules) x.memory) x.fired) x.log⟩
def ZLh (k:Int) (x:ZMj):Int:=ZLv (ZLi (ZLd (ZLc (k) x.rules) x.memory) x.fired) x.log
theorem ZMG (k:Int) (x:ZMj):k≤ZLh k x:=by
 unfold ZLh
 have:=ZMa (k) x.rules
 have:=ZMl (ZLc (k) x.rules) x.memory
 have:=ZMi (ZLd (ZLc (k) x.rules) x.memory) x.fired
 have:=ZMn (ZLi (ZLd (ZLc (k) x.rules) x.memory) x.fired) x.log
 omega
theorem ZOv (k:Int) (x:ZMj):ZLh k x≤k+16 * ZNB x:=by
 unfold ZLh
 have:=ZNN (k) x.rules
 have:=ZOT (ZLc (k) x.rules) x.memory
 have:=ZOn (ZLd (ZLc (k) x.rules) x.memory) x.fired
 have:=ZOJ (ZLi (ZLd (ZLc (k) x.rules) x.memory) x.fired) x.log
 simp only[ZNB]
 omega
set_option maxHeartbeats 1600000 in
theorem ZOF (x:ZMj) (A1:Option Addr) (c1:Nat) (L1:List Nat) (A2:Option Addr) (c2:Nat) (L2:List Nat) (A3:Option Addr) (c3:Nat) (L3:List Nat) (A4:Option Addr) (c4:Nat) (L4:List Nat) (base:Nat) (k:Int) (w:World) (hk0:1≤k) (hk1:ZLh k x≤4611686018427387904) (l1:x.rules.length≤9223372036854775807) (l2:x.memory.length≤9223372036854775807) (l3:x.fired.length≤9223372036854775807) (l4:x.log.length≤9223372036854775807) (g1:Got (ZQ Zby) base [.slice A1 x.rules.length c1] (x.rules) L1 w) (g2:Got (ZQ ZL8) base [.slice A2 x.memory.length c2] (x.memory) L2 w) (g3:Got (ZQ ZLV) base [.slice A3 x.fired.length c3] (x.fired) L3 w) (g4:Got (ZQ ZL9) base [.slice A4 x.log.length c4] (x.log) L4 w) (p1_2:∀y∈L1,y∉L2) (p1_3:∀y∈L1,y∉L3) (p1_4:∀y∈L1,y∉L4) (p2_3:∀y∈L2,y∉L3) (p2_4:∀y∈L2,y∉L4) (p3_4:∀y∈L3,y∉L4):
  Calls prog 15 #[.agg #[.slice A1 x.rules.length c1,.slice A2 x.memory.length c2,.int .i64 x.clock,.slice A3 x.fired.length c3,.bool x.halted,.slice A4 x.log.length c4],.int .i64 k] w fun e w'=>e=.returned (.int .i64 (ZLh k x))∧Got (ZQ Zby) base [.slice A1 x.rules.length c1] (ZLy (k) x.rules) L1 w'∧Got (ZQ ZL8) base [.slice A2 x.memory.length c2] (ZLH (ZLc (k) x.rules) x.memory) L2 w'∧Got (ZQ ZLV) base [.slice A3 x.fired.length c3] (ZLw (ZLd (ZLc (k) x.rules) x.memory) x.fired) L3 w'∧Got (ZQ ZL9) base [.slice A4 x.log.length c4] (ZLG (ZLi (ZLd (ZLc (k) x.rules) x.memory) x.fired) x.log) L4 w'∧ZLq (L1++(L2++(L3++L4))) w w':=by
 have bn1:Hid (w.heap.size∉L1):=fun m=>AG _ (g1.lt _ m)
 have bn2:Hid (w.heap.size∉L2):=fun m=>AG _ (g2.lt _ m)
 have bn3:Hid (w.heap.size∉L3):=fun m=>AG _ (g3.lt _ m)
 have bn4:Hid (w.heap.size∉L4):=fun m=>AG _ (g4.lt _ m)
 have G1:=Lib.hid (g1.alloc (.cells #[.slice A1 x.rules.length c1,.slice A2 x.memory.length c2,.int .i64 x.clock,.slice A3 x.fired.length c3,.bool x.halted,.slice A4 x.log.length c4] 27))
 have G2:=Lib.hid (g2.alloc (.cells #[.slice A1 x.rules.length c1,.slice A2 x.memory.length c2,.int .i64 x.clock,.slice A3 x.fired.length c3,.bool x.halted,.slice A4 x.log.length c4] 27))
 have G3:=Lib.hid (g3.alloc (.cells #[.slice A1 x.rules.length c1,.slice A2 x.memory.length c2,.int .i64 x.clock,.slice A3 x.fired.length c3,.bool x.halted,.slice A4 x.log.length c4] 27))
 have G4:=Lib.hid (g4.alloc (.cells #[.slice A1 x.rules.length c1,.slice A2 x.memory.length c2,.int .i64 x.clock,.slice A3 x.fired.length c3,.bool x.halted,.slice A4 x.log.length c4] 27))
 have ap1_2:=Lib.hid p1_2
 have ap2_1:Hid (∀y∈L2,y∉L1):=fun y m m'=>p1_2 y m' m
 have ap1_3:=Lib.hid p1_3
 have ap3_1:Hid (∀y∈L3,y∉L1):=fun y m m'=>p1_3 y m' m
 have ap1_4:=Lib.hid p1_4
 have ap4_1:Hid (∀y∈L4,y∉L1):=fun y m m'=>p1_4 y m' m
 have ap2_3:=Lib.hid p2_3
 have ap3_2:Hid (∀y∈L3,y∉L2):=fun y m m'=>p2_3 y m' m
 have ap2_4:=Lib.hid p2_4
 have ap4_2:Hid (∀y∈L4,y∉L2):=fun y m m'=>p2_4 y m' m
 have ap3_4:=Lib.hid p3_4
 have ap4_3:Hid (∀y∈L4,y∉L3):=fun y m m'=>p3_4 y m' m
 have K0:Hid (Blk (w.alloc (.cells #[.slice A1 x.rules.length c1,.slice A2 x.memory.length c2,.int .i64 x.clock,.slice A3 x.fired.length c3,.bool x.halted,.slice A4 x.log.length c4] 27)) w.heap.size 27 #[.slice A1 x.rules.length c1,.slice A2 x.memory.length c2,.int .i64 x.clock,.slice A3 x.fired.length c3,.bool x.halted,.slice A4 x.log.length c4]):=Blk.new _ _ _
 have O0:Hid (ZLq (L1++(L2++(L3++L4))) w (w.alloc (.cells #[.slice A1 x.rules.length c1,.slice A2 x.memory.length c2,.int .i64 x.clock,.slice A3 x.fired.length c3,.bool x.halted,.slice A4 x.log.length c4] 27))):=ZLq.of_below ((Below.refl _ _).alloc (AM _) _) _
 clear g1 g2 g3 g4 p1_2 p1_3 p1_4 p2_3 p2_4 p3_4
 unfold ZLh at hk1
 have:=ZMa (k) x.rules
 have:=ZMl (ZLc (k) x.rules) x.memory
 have:=ZMi (ZLd (ZLc (k) x.rules) x.memory) x.fired
 have:=ZMn (ZLi (ZLd (ZLc (k) x.rules) x.memory) x.fired) x.log
 go_enter func15,ntmps15
 go_wp2_with fail
 refine (ZNt A1 _ c1 x.rules L1 base _ _ rfl (by omega) (by omega) (by omega) G1.out).mono ?_
 rintro e w1 ⟨rfl,h1,on1⟩
 have G1:=Lib.hid h1
 have G2:=Lib.hid (G2.out.only on1 ap2_1.out)
 have G3:=Lib.hid (G3.out.only on1 ap3_1.out)
 have G4:=Lib.hid (G4.out.only on1 ap4_1.out)
 have K1:=Lib.hid (ZMc K0.out on1 bn1.out)
 have f0:=K1.out.at (i:=0) rfl
 have f1:=K1.out.at (i:=1) rfl
 have f2:=K1.out.at (i:=2) rfl
 have f3:=K1.out.at (i:=3) rfl
 have f4:=K1.out.at (i:=4) rfl
 have f5:=K1.out.at (i:=5) rfl
 have O1:Hid (ZLq (L1++(L2++(L3++L4))) w w1):=O0.out.trans (on1.mono (fun y m=>by first | exact m | (simp [m];done) | (simp only[AC] at m ⊢;(repeat' (refine Or.elim m (fun m=>?_) (fun m=>?_)))<;>simp [m])))
 clear on1 h1
 go_wp2_with fail
 refine (ZOt A2 _ c2 x.memory L2 base _ _ rfl (by omega) (by omega) (by omega) G2.out).mono ?_
 rintro e w2 ⟨rfl,h2,on2⟩
 have G1:=Lib.hid (G1.out.only on2 ap1_2.out)
 have G2:=Lib.hid h2
 have G3:=Lib.hid (G3.out.only on2 ap3_2.out)
 have G4:=Lib.hid (G4.out.only on2 ap4_2.out)
 have K2:=Lib.hid (ZMc K1.out on2 bn2.out)
 clear f0 f1 f2 f3 f4 f5
 have f0:=K2.out.at (i:=0) rfl
 have f1:=K2.out.at (i:=1) rfl
 have f2:=K2.out.at (i:=2) rfl
 have f3:=K2.out.at (i:=3) rfl
 have f4:=K2.out.at (i:=4) rfl
 have f5:=K2.out.at (i:=5) rfl
 have O2:Hid (ZLq (L1++(L2++(L3++L4))) w w2):=O1.out.trans (on2.mono (fun y m=>by first | exact m | (simp [m];done) | (simp only[AC] at m ⊢;(repeat' (refine Or.elim m (fun m=>?_) (fun m=>?_)))<;>simp [m])))
 clear on2 h2
 go_wp2_with fail
 refine (ZOe A3 _ c3 x.fired L3 base _ _ rfl (by omega) (by omega) (by omega) G3.out).mono ?_
 rintro e w3 ⟨rfl,h3,on3⟩
 have G1:=Lib.hid (G1.out.only on3 ap1_3.out)
 have G2:=Lib.hid (G2.out.only on3 ap2_3.out)
 have G3:=Lib.hid h3
 have G4:=Lib.hid (G4.out.only on3 ap4_3.out)
 have K3:=Lib.hid (ZMc K2.out on3 bn3.out)
 clear f0 f1 f2 f3 f4 f5
 have f0:=K3.out.at (i:=0) rfl
 have f1:=K3.out.at (i:=1) rfl
 have f2:=K3.out.at (i:=2) rfl
 have f3:=K3.out.at (i:=3) rfl
 have f4:=K3.out.at (i:=4) rfl
 have f5:=K3.out.at (i:=5) rfl
 have O3:Hid (ZLq (L1++(L2++(L3++L4))) w w3):=O2.out.trans (on3.mono (fun y m=>by first | exact m | (simp [m];done) | (simp only[AC] at m ⊢;(repeat' (refine Or.elim m (fun m=>?_) (fun m=>?_)))<;>simp [m])))
 clear on3 h3
 go_wp2_with fail
 refine (ZOu A4 _ c4 x.log L4 base _ _ rfl (by omega) (by omega) (by omega) G4.out).mono ?_
 rintro e w4 ⟨rfl,h4,on4⟩
 have G1:=Lib.hid (G1.out.only on4 ap1_4.out)
 have G2:=Lib.hid (G2.out.only on4 ap2_4.out)
 have G3:=Lib.hid (G3.out.only on4 ap3_4.out)
 have G4:=Lib.hid h4
 have K4:=Lib.hid (ZMc K3.out on4 bn4.out)
 clear f0 f1 f2 f3 f4 f5
 have f0:=K4.out.at (i:=0) rfl
 have f1:=K4.out.at (i:=1) rfl
 have f2:=K4.out.at (i:=2) rfl
 have f3:=K4.out.at (i:=3) rfl
 have f4:=K4.out.at (i:=4) rfl
 have f5:=K4.out.at (i:=5) rfl
 have O4:Hid (ZLq (L1++(L2++(L3++L4))) w w4):=O3.out.trans (on4.mono (fun y m=>by first | exact m | (simp [m];done) | (simp only[AC] at m ⊢;(repeat' (refine Or.elim m (fun m=>?_) (fun m=>?_)))<;>simp [m])))
 clear on4 h4
 go_wp2_with fail
 go_ret
 exact ⟨ZL2 rfl,G1.out,G2.out,G3.out,G4.out,O4.out⟩
def ZOh (k:Int) (x:ZMq):ZMq:=⟨ZNW (k) x.engine,ZNE (ZLh (k) x.engine) x.network⟩
def ZLC (k:Int) (x:ZMq):Int:=ZLQ (ZLh (k) x.engine) x.network
theorem ZPi (k:Int) (x:ZMq):k≤ZLC k x:=by
 unfold ZLC
 have:=ZMG (k) x.engine
 have:=ZMz (ZLh (k) x.engine) x.network
 omega
theorem ZPh (k:Int) (x:ZMq):ZLC k x≤k+16 * ZOk x:=by
 unfold ZLC
 have:=ZOv (k) x.engine
 have:=ZOd (ZLh (k) x.engine) x.network
 simp only[ZOk]
 omega
set_option maxHeartbeats 1600000 in
theorem ZPt (x:ZMq) (A1:Option Addr) (c1:Nat) (L1:List Nat) (A2:Option Addr) (c2:Nat) (L2:List Nat) (A3:Option Addr) (c3:Nat) (L3:List Nat) (A4:Option Addr) (c4:Nat) (L4:List Nat) (A5:Option Addr) (c5:Nat) (L5:List Nat) (A6:Option Addr) (c6:Nat) (L6:List Nat) (A7:Option Addr) (c7:Nat) (L7:List Nat) (A8:Option Addr) (c8:Nat) (L8:List Nat) (A9:Option Addr) (c9:Nat) (L9:List Nat) (base:Nat) (k:Int) (w:World) (hk0:1≤k) (hk1:ZLC k x≤4611686018427387904) (l1:x.engine.rules.length≤9223372036854775807) (l2:x.engine.memory.length≤9223372036854775807) (l3:x.engine.fired.length≤9223372036854775807) (l4:x.engine.log.length≤9223372036854775807) (l5:x.network.rules.length≤9223372036854775807) (l6:x.network.ends.length≤9223372036854775807) (l7:x.network.alphas.length≤9223372036854775807) (l8:x.network.nodes.length≤9223372036854775807) (l9:x.network.facts.length≤9223372036854775807) (g1:Got (ZQ Zby) base [.slice A1 x.engine.rules.length c1] (x.engine.rules) L1 w) (g2:Got (ZQ ZL8) base [.slice A2 x.engine.memory.length c2] (x.engine.memory) L2 w) (g3:Got (ZQ ZLV) base [.slice A3 x.engine.fired.length c3] (x.engine.fired) L3 w) (g4:Got (ZQ ZL9) base [.slice A4 x.engine.log.length c4] (x.engine.log) L4 w) (g5:Got (ZQ Zby) base [.slice A5 x.network.rules.length c5] (x.network.rules) L5 w) (g6:Got (ZQ Zj7) base [.slice A6 x.network.ends.length c6] (x.network.ends) L6 w) (g7:Got (ZQ ZL7) base [.slice A7 x.network.alphas.length c7] (x.network.alphas) L7 w) (g8:Got (ZQ ZMg) base [.slice A8 x.network.nodes.length c8] (x.network.nodes) L8 w) (g9:Got (ZQ Yf) base [.slice A9 x.network.facts.length c9] (x.network.facts) L9 w) (p1_2:∀y∈L1,y∉L2) (p1_3:∀y∈L1,y∉L3) (p1_4:∀y∈L1,y∉L4) (p1_5:∀y∈L1,y∉L5) (p1_6:∀y∈L1,y∉L6) (p1_7:∀y∈L1,y∉L7) (p1_8:∀y∈L1,y∉L8) (p1_9:∀y∈L1,y∉L9) (p2_3:∀y∈L2,y∉L3) (p2_4:∀y∈L2,y∉L4) (p2_5:∀y∈L2,y∉L5) (p2_6:∀y∈L2,y∉L6) (p2_7:∀y∈L2,y∉L7) (p2_8:∀y∈L2,y∉L8) (p2_9:∀y∈L2,y∉L9) (p3_4:∀y∈L3,y∉L4) (p3_5:∀y∈L3,y∉L5) (p3_6:∀y∈L3,y∉L6) (p3_7:∀y∈L3,y∉L7) (p3_8:∀y∈L3,y∉L8) (p3_9:∀y∈L3,y∉L9) (p4_5:∀y∈L4,y∉L5) (p4_6:∀y∈L4,y∉L6) (p4_7:∀y∈L4,y∉L7) (p4_8:∀y∈L4,y∉L8) (p4_9:∀y∈L4,y∉L9) (p5_6:∀y∈L5,y∉L6) (p5_7:∀y∈L5,y∉L7) (p5_8:∀y∈L5,y∉L8) (p5_9:∀y∈L5,y∉L9) (p6_7:∀y∈L6,y∉L7) (p6_8:∀y∈L6,y∉L8) (p6_9:∀y∈L6,y∉L9) (p7_8:∀y∈L7,y∉L8) (p7_9:∀y∈L7,y∉L9) (p8_9:∀y∈L8,y∉L9):
  Calls prog 7 #[.agg #[.slice A1 x.engine.rules.length c1,.slice A2 x.engine.memory.length c2,.int .i64 x.engine.clock,.slice A3 x.engine.fired.length c3,.bool x.engine.halted,.slice A4 x.engine.log.length c4,.slice A5 x.network.rules.length c5,.slice A6 x.network.ends.length c6,.slice A7 x.network.alphas.length c7,.slice A8 x.network.nodes.length c8,.slice A9 x.network.facts.length c9,.int .i64 x.network.tries],.int .i64 k] w fun e w'=>e=.returned (.int .i64 (ZLC k x))∧Got (ZQ Zby) base [.slice A1 x.engine.rules.length c1] (ZLy (k) x.engine.rules) L1 w'∧Got (ZQ ZL8) base [.slice A2 x.engine.memory.length c2] (ZLH (ZLc (k) x.engine.rules) x.engine.memory) L2 w'∧Got (ZQ ZLV) base [.slice A3 x.engine.fired.length c3] (ZLw (ZLd (ZLc (k) x.engine.rules) x.engine.memory) x.engine.fired) L3 w'∧Got (ZQ ZL9) base [.slice A4 x.engine.log.length c4] (ZLG (ZLi (ZLd (ZLc (k) x.engine.rules) x.engine.memory) x.engine.fired) x.engine.log) L4 w'∧Got (ZQ Zby) base [.slice A5 x.network.rules.length c5] (ZLy (ZLh (k) x.engine) x.network.rules) L5 w'∧Got (ZQ Zj7) base [.slice A6 x.network.ends.length c6] (ZLY (ZLc (ZLh (k) x.engine) x.network.rules) x.network.ends) L6 w'∧Got (ZQ ZL7) base [.slice A7 x.network.alphas.length c7] (ZLI (ZLg (ZLc (ZLh (k) x.engine) x.network.rules) x.network.ends) x.network.alphas) L7 w'∧Got (ZQ ZMg) base [.slice A8 x.network.nodes.length c8] (ZLR (ZLe (ZLg (ZLc (ZLh (k) x.engine) x.network.rules) x.network.ends) x.network.alphas) x.network.nodes) L8 w'∧Got (ZQ Yf) base [.slice A9 x.network.facts.length c9] (ZLK (ZLk (ZLe (ZLg (ZLc (ZLh (k) x.engine) x.network.rules) x.network.ends) x.network.alphas) x.network.nodes) x.network.facts) L9 w'∧ZLq (L1++(L2++(L3++(L4++(L5++(L6++(L7++(L8++L9)))))))) w w':=by
 have bn1:Hid (w.heap.size∉L1):=fun m=>AG _ (g1.lt _ m)
 have bn2:Hid (w.heap.size∉L2):=fun m=>AG _ (g2.lt _ m)
 have bn3:Hid (w.heap.size∉L3):=fun m=>AG _ (g3.lt _ m)
 have bn4:Hid (w.heap.size∉L4):=fun m=>AG _ (g4.lt _ m)
 have bn5:Hid (w.heap.size∉L5):=fun m=>AG _ (g5.lt _ m)
 have bn6:Hid (w.heap.size∉L6):=fun m=>AG _ (g6.lt _ m)
 have bn7:Hid (w.heap.size∉L7):=fun m=>AG _ (g7.lt _ m)
 have bn8:Hid (w.heap.size∉L8):=fun m=>AG _ (g8.lt _ m)
 have bn9:Hid (w.heap.size∉L9):=fun m=>AG _ (g9.lt _ m)
 have G1:=Lib.hid (g1.alloc (.cells #[.slice A1 x.engine.rules.length c1,.slice A2 x.engine.memory.length c2,.int .i64 x.engine.clock,.slice A3 x.engine.fired.length c3,.bool x.engine.halted,.slice A4 x.engine.log.length c4,.slice A5 x.network.rules.length c5,.slice A6 x.network.ends.length c6,.slice A7 x.network.alphas.length c7,.slice A8 x.network.nodes.length c8,.slice A9 x.network.facts.length c9,.int .i64 x.network.tries] 35))
 have G2:=Lib.hid (g2.alloc (.cells #[.slice A1 x.engine.rules.length c1,.slice A2 x.engine.memory.length c2,.int .i64 x.engine.clock,.slice A3 x.engine.fired.length c3,.bool x.engine.halted,.slice A4 x.engine.log.length c4,.slice A5 x.network.rules.length c5,.slice A6 x.network.ends.length c6,.slice A7 x.network.alphas.length c7,.slice A8 x.network.nodes.length c8,.slice A9 x.network.facts.length c9,.int .i64 x.network.tries] 35))
 have G3:=Lib.hid (g3.alloc (.cells #[.slice A1 x.engine.rules.length c1,.slice A2 x.engine.memory.length c2,.int .i64 x.engine.clock,.slice A3 x.engine.fired.length c3,.bool x.engine.halted,.slice A4 x.engine.log.length c4,.slice A5 x.network.rules.length c5,.slice A6 x.network.ends.length c6,.slice A7 x.network.alphas.length c7,.slice A8 x.network.nodes.length c8,.slice A9 x.network.facts.length c9,.int .i64 x.network.tries] 35))
 have G4:=Lib.hid (g4.alloc (.cells #[.slice A1 x.engine.rules.length c1,.slice A2 x.engine.memory.length c2,.int .i64 x.engine.clock,.slice A3 x.engine.fired.length c3,.bool x.engine.halted,.slice A4 x.engine.log.length c4,.slice A5 x.network.rules.length c5,.slice A6 x.network.ends.length c6,.slice A7 x.network.alphas.length c7,.slice A8 x.network.nodes.length c8,.slice A9 x.network.facts.length c9,.int .i64 x.network.tries] 35))
 have G5:=Lib.hid (g5.alloc (.cells #[.slice A1 x.engine.rules.length c1,.slice A2 x.engine.memory.length c2,.int .i64 x.engine.clock,.slice A3 x.engine.fired.length c3,.bool x.engine.halted,.slice A4 x.engine.log.length c4,.slice A5 x.network.rules.length c5,.slice A6 x.network.ends.length c6,.slice A7 x.network.alphas.length c7,.slice A8 x.network.nodes.length c8,.slice A9 x.network.facts.length c9,.int .i64 x.network.tries] 35))
 have G6:=Lib.hid (g6.alloc (.cells #[.slice A1 x.engine.rules.length c1,.slice A2 x.engine.memory.length c2,.int .i64 x.engine.clock,.slice A3 x.engine.fired.length c3,.bool x.engine.halted,.slice A4 x.engine.log.length c4,.slice A5 x.network.rules.length c5,.slice A6 x.network.ends.length c6,.slice A7 x.network.alphas.length c7,.slice A8 x.network.nodes.length c8,.slice A9 x.network.facts.length c9,.int .i64 x.network.tries] 35))
 have G7:=Lib.hid (g7.alloc (.cells #[.slice A1 x.engine.rules.length c1,.slice A2 x.engine.memory.length c2,.int .i64 x.engine.clock,.slice A3 x.engine.fired.length c3,.bool x.engine.halted,.slice A4 x.engine.log.length c4,.slice A5 x.network.rules.length c5,.slice A6 x.network.ends.length c6,.slice A7 x.network.alphas.length c7,.slice A8 x.network.nodes.length c8,.slice A9 x.network.facts.length c9,.int .i64 x.network.tries] 35))
 have G8:=Lib.hid (g8.alloc (.cells #[.slice A1 x.engine.rules.length c1,.slice A2 x.engine.memory.length c2,.int .i64 x.engine.clock,.slice A3 x.engine.fired.length c3,.bool x.engine.halted,.slice A4 x.engine.log.length c4,.slice A5 x.network.rules.length c5,.slice A6 x.network.ends.length c6,.slice A7 x.network.alphas.length c7,.slice A8 x.network.nodes.length c8,.slice A9 x.network.facts.length c9,.int .i64 x.network.tries] 35))
 have G9:=Lib.hid (g9.alloc (.cells #[.slice A1 x.engine.rules.length c1,.slice A2 x.engine.memory.length c2,.int .i64 x.engine.clock,.slice A3 x.engine.fired.length c3,.bool x.engine.halted,.slice A4 x.engine.log.length c4,.slice A5 x.network.rules.length c5,.slice A6 x.network.ends.length c6,.slice A7 x.network.alphas.length c7,.slice A8 x.network.nodes.length c8,.slice A9 x.network.facts.length c9,.int .i64 x.network.tries] 35))
 have ap1_2:=Lib.hid p1_2
 have ap2_1:Hid (∀y∈L2,y∉L1):=fun y m m'=>p1_2 y m' m
 have ap1_3:=Lib.hid p1_3
 have ap3_1:Hid (∀y∈L3,y∉L1):=fun y m m'=>p1_3 y m' m
 have ap1_4:=Lib.hid p1_4
 have ap4_1:Hid (∀y∈L4,y∉L1):=fun y m m'=>p1_4 y m' m
 have ap1_5:=Lib.hid p1_5
 have ap5_1:Hid (∀y∈L5,y∉L1):=fun y m m'=>p1_5 y m' m
 have ap1_6:=Lib.hid p1_6
 have ap6_1:Hid (∀y∈L6,y∉L1):=fun y m m'=>p1_6 y m' m
 have ap1_7:=Lib.hid p1_7
 have ap7_1:Hid (∀y∈L7,y∉L1):=fun y m m'=>p1_7 y m' m
 have ap1_8:=Lib.hid p1_8
 have ap8_1:Hid (∀y∈L8,y∉L1):=fun y m m'=>p1_8 y m' m
 have ap1_9:=Lib.hid p1_9
 have ap9_1:Hid (∀y∈L9,y∉L1):=fun y m m'=>p1_9 y m' m
 have ap2_3:=Lib.hid p2_3
 have ap3_2:Hid (∀y∈L3,y∉L2):=fun y m m'=>p2_3 y m' m
 have ap2_4:=Lib.hid p2_4
 have ap4_2:Hid (∀y∈L4,y∉L2):=fun y m m'=>p2_4 y m' m
 have ap2_5:=Lib.hid p2_5
 have ap5_2:Hid (∀y∈L5,y∉L2):=fun y m m'=>p2_5 y m' m
 have ap2_6:=Lib.hid p2_6
 have ap6_2:Hid (∀y∈L6,y∉L2):=fun y m m'=>p2_6 y m' m
 have ap2_7:=Lib.hid p2_7
 have ap7_2:Hid (∀y∈L7,y∉L2):=fun y m m'=>p2_7 y m' m
 have ap2_8:=Lib.hid p2_8
 have ap8_2:Hid (∀y∈L8,y∉L2):=fun y m m'=>p2_8 y m' m
 have ap2_9:=Lib.hid p2_9
 have ap9_2:Hid (∀y∈L9,y∉L2):=fun y m m'=>p2_9 y m' m
 have ap3_4:=Lib.hid p3_4
 have ap4_3:Hid (∀y∈L4,y∉L3):=fun y m m'=>p3_4 y m' m
 have ap3_5:=Lib.hid p3_5
 have ap5_3:Hid (∀y∈L5,y∉L3):=fun y m m'=>p3_5 y m' m
 have ap3_6:=Lib.hid p3_6
 have ap6_3:Hid (∀y∈L6,y∉L3):=fun y m m'=>p3_6 y m' m
 have ap3_7:=Lib.hid p3_7
 have ap7_3:Hid (∀y∈L7,y∉L3):=fun y m m'=>p3_7 y m' m
 have ap3_8:=Lib.hid p3_8
 have ap8_3:Hid (∀y∈L8,y∉L3):=fun y m m'=>p3_8 y m' m
 have ap3_9:=Lib.hid p3_9
 have ap9_3:Hid (∀y∈L9,y∉L3):=fun y m m'=>p3_9 y m' m
 have ap4_5:=Lib.hid p4_5
 have ap5_4:Hid (∀y∈L5,y∉L4):=fun y m m'=>p4_5 y m' m
 have ap4_6:=Lib.hid p4_6
 have ap6_4:Hid (∀y∈L6,y∉L4):=fun y m m'=>p4_6 y m' m
 have ap4_7:=Lib.hid p4_7
 have ap7_4:Hid (∀y∈L7,y∉L4):=fun y m m'=>p4_7 y m' m
 have ap4_8:=Lib.hid p4_8
 have ap8_4:Hid (∀y∈L8,y∉L4):=fun y m m'=>p4_8 y m' m
 have ap4_9:=Lib.hid p4_9
 have ap9_4:Hid (∀y∈L9,y∉L4):=fun y m m'=>p4_9 y m' m
 have ap5_6:=Lib.hid p5_6
 have ap6_5:Hid (∀y∈L6,y∉L5):=fun y m m'=>p5_6 y m' m
 have ap5_7:=Lib.hid p5_7
 have ap7_5:Hid (∀y∈L7,y∉L5):=fun y m m'=>p5_7 y m' m
 have ap5_8:=Lib.hid p5_8
 have ap8_5:Hid (∀y∈L8,y∉L5):=fun y m m'=>p5_8 y m' m
 have ap5_9:=Lib.hid p5_9
 have ap9_5:Hid (∀y∈L9,y∉L5):=fun y m m'=>p5_9 y m' m
 have ap6_7:=Lib.hid p6_7
 have ap7_6:Hid (∀y∈L7,y∉L6):=fun y m m'=>p6_7 y m' m
 have ap6_8:=Lib.hid p6_8
 have ap8_6:Hid (∀y∈L8,y∉L6):=fun y m m'=>p6_8 y m' m
 have ap6_9:=Lib.hid p6_9
 have ap9_6:Hid (∀y∈L9,y∉L6):=fun y m m'=>p6_9 y m' m
 have ap7_8:=Lib.hid p7_8
 have ap8_7:Hid (∀y∈L8,y∉L7):=fun y m m'=>p7_8 y m' m
 have ap7_9:=Lib.hid p7_9
 have ap9_7:Hid (∀y∈L9,y∉L7):=fun y m m'=>p7_9 y m' m
 have ap8_9:=Lib.hid p8_9
 have ap9_8:Hid (∀y∈L9,y∉L8):=fun y m m'=>p8_9 y m' m
 have K0:Hid (Blk (w.alloc (.cells #[.slice A1 x.engine.rules.length c1,.slice A2 x.engine.memory.length c2,.int .i64 x.engine.clock,.slice A3 x.engine.fired.length c3,.bool x.engine.halted,.slice A4 x.engine.log.length c4,.slice A5 x.network.rules.length c5,.slice A6 x.network.ends.length c6,.slice A7 x.network.alphas.length c7,.slice A8 x.network.nodes.length c8,.slice A9 x.network.facts.length c9,.int .i64 x.network.tries] 35)) w.heap.size 35 #[.slice A1 x.engine.rules.length c1,.slice A2 x.engine.memory.length c2,.int .i64 x.engine.clock,.slice A3 x.engine.fired.length c3,.bool x.engine.halted,.slice A4 x.engine.log.length c4,.slice A5 x.network.rules.length c5,.slice A6 x.network.ends.length c6,.slice A7 x.network.alphas.length c7,.slice A8 x.network.nodes.length c8,.slice A9 x.network.facts.length c9,.int .i64 x.network.tries]):=Blk.new _ _ _
 have O0:Hid (ZLq (L1++(L2++(L3++(L4++(L5++(L6++(L7++(L8++L9)))))))) w (w.alloc (.cells #[.slice A1 x.engine.rules.length c1,.slice A2 x.engine.memory.length c2,.int .i64 x.engine.clock,.slice A3 x.engine.fired.length c3,.bool x.engine.halted,.slice A4 x.engine.log.length c4,.slice A5 x.network.rules.length c5,.slice A6 x.network.ends.length c6,.slice A7 x.network.alphas.length c7,.slice A8 x.network.nodes.length c8,.slice A9 x.network.facts.length c9,.int .i64 x.network.tries] 35))):=ZLq.of_below ((Below.refl _ _).alloc (AM _) _) _
 clear g1 g2 g3 g4 g5 g6 g7 g8 g9 p1_2 p1_3 p1_4 p1_5 p1_6 p1_7 p1_8 p1_9 p2_3 p2_4 p2_5 p2_6 p2_7 p2_8 p2_9 p3_4 p3_5 p3_6 p3_7 p3_8 p3_9 p4_5 p4_6 p4_7 p4_8 p4_9 p5_6 p5_7 p5_8 p5_9 p6_7 p6_8 p6_9 p7_8 p7_9 p8_9
 unfold ZLC at hk1
 have:=ZMG (k) x.engine
 have:=ZMz (ZLh (k) x.engine) x.network
 go_enter func7,ntmps7
 go_wp2_with fail
 refine (ZOF x.engine A1 c1 L1 A2 c2 L2 A3 c3 L3 A4 c4 L4 base _ _ (by omega) (by omega) l1 l2 l3 l4 G1.out G2.out G3.out G4.out ap1_2.out ap1_3.out ap1_4.out ap2_3.out ap2_4.out ap3_4.out).mono ?_
 rintro e w1 ⟨rfl,h1,h2,h3,h4,on1⟩
 have G1:=Lib.hid h1
 have G2:=Lib.hid h2
 have G3:=Lib.hid h3
 have G4:=Lib.hid h4
 have G5:=Lib.hid (G5.out.only on1 (fun y m m'=>by simp only[AC] at m';rcases m' with m' | m' | m' | m'<;>first | exact ap5_1.out y m m' | exact ap5_2.out y m m' | exact ap5_3.out y m m' | exact ap5_4.out y m m'))
 have G6:=Lib.hid (G6.out.only on1 (fun y m m'=>by simp only[AC] at m';rcases m' with m' | m' | m' | m'<;>first | exact ap6_1.out y m m' | exact ap6_2.out y m m' | exact ap6_3.out y m m' | exact ap6_4.out y m m'))
 have G7:=Lib.hid (G7.out.only on1 (fun y m m'=>by simp only[AC] at m';rcases m' with m' | m' | m' | m'<;>first | exact ap7_1.out y m m' | exact ap7_2.out y m m' | exact ap7_3.out y m m' | exact ap7_4.out y m m'))
 have G8:=Lib.hid (G8.out.only on1 (fun y m m'=>by simp only[AC] at m';rcases m' with m' | m' | m' | m'<;>first | exact ap8_1.out y m m' | exact ap8_2.out y m m' | exact ap8_3.out y m m' | exact ap8_4.out y m m'))
 have G9:=Lib.hid (G9.out.only on1 (fun y m m'=>by simp only[AC] at m';rcases m' with m' | m' | m' | m'<;>first | exact ap9_1.out y m m' | exact ap9_2.out y m m' | exact ap9_3.out y m m' | exact ap9_4.out y m m'))
 have K1:=Lib.hid (ZMc K0.out on1 (fun m'=>by simp only[AC] at m';rcases m' with m' | m' | m' | m'<;>first | exact bn1.out m' | exact bn2.out m' | exact bn3.out m' | exact bn4.out m'))
 have f0:=K1.out.at (i:=0) rfl
 have f1:=K1.out.at (i:=1) rfl
 have f2:=K1.out.at (i:=2) rfl
 have f3:=K1.out.at (i:=3) rfl
 have f4:=K1.out.at (i:=4) rfl
 have f5:=K1.out.at (i:=5) rfl
 have f6:=K1.out.at (i:=6) rfl
 have f7:=K1.out.at (i:=7) rfl
 have f8:=K1.out.at (i:=8) rfl
 have f9:=K1.out.at (i:=9) rfl
 have f10:=K1.out.at (i:=10) rfl
 have f11:=K1.out.at (i:=11) rfl
 have O1:Hid (ZLq (L1++(L2++(L3++(L4++(L5++(L6++(L7++(L8++L9)))))))) w w1):=O0.out.trans (on1.mono (fun y m=>by first | exact m | (simp [m];done) | (simp only[AC] at m ⊢;(repeat' (refine Or.elim m (fun m=>?_) (fun m=>?_)))<;>simp [m])))
 clear on1 h1 h2 h3 h4
 go_wp2_with fail
 refine (ZOx x.network A5 c5 L5 A6 c6 L6 A7 c7 L7 A8 c8 L8 A9 c9 L9 base _ _ (by omega) (by omega) l5 l6 l7 l8 l9 G5.out G6.out G7.out G8.out G9.out ap5_6.out ap5_7.out ap5_8.out ap5_9.out ap6_7.out ap6_8.out ap6_9.out ap7_8.out ap7_9.out ap8_9.out).mono ?_
 rintro e w2 ⟨rfl,h5,h6,h7,h8,h9,on2⟩
 have G1:=Lib.hid (G1.out.only on2 (fun y m m'=>by simp only[AC] at m';rcases m' with m' | m' | m' | m' | m'<;>first | exact ap1_5.out y m m' | exact ap1_6.out y m m' | exact ap1_7.out y m m' | exact ap1_8.out y m m' | exact ap1_9.out y m m'))
 have G2:=Lib.hid (G2.out.only on2 (fun y m m'=>by simp only[AC] at m';rcases m' with m' | m' | m' | m' | m'<;>first | exact ap2_5.out y m m' | exact ap2_6.out y m m' | exact ap2_7.out y m m' | exact ap2_8.out y m m' | exact ap2_9.out y m m'))
 have G3:=Lib.hid (G3.out.only on2 (fun y m m'=>by simp only[AC] at m';rcases m' with m' | m' | m' | m' | m'<;>first | exact ap3_5.out y m m' | exact ap3_6.out y m m' | exact ap3_7.out y m m' | exact ap3_8.out y m m' | exact ap3_9.out y m m'))
 have G4:=Lib.hid (G4.out.only on2 (fun y m m'=>by simp only[AC] at m';rcases m' with m' | m' | m' | m' | m'<;>first | exact ap4_5.out y m m' | exact ap4_6.out y m m' | exact ap4_7.out y m m' | exact ap4_8.out y m m' | exact ap4_9.out y m m'))
 have G5:=Lib.hid h5
 have G6:=Lib.hid h6
 have G7:=Lib.hid h7
 have G8:=Lib.hid h8
 have G9:=Lib.hid h9
 have K2:=Lib.hid (ZMc K1.out on2 (fun m'=>by simp only[AC] at m';rcases m' with m' | m' | m' | m' | m'<;>first | exact bn5.out m' | exact bn6.out m' | exact bn7.out m' | exact bn8.out m' | exact bn9.out m'))
 clear f0 f1 f2 f3 f4 f5 f6 f7 f8 f9 f10 f11
 have f0:=K2.out.at (i:=0) rfl
 have f1:=K2.out.at (i:=1) rfl
 have f2:=K2.out.at (i:=2) rfl
 have f3:=K2.out.at (i:=3) rfl
 have f4:=K2.out.at (i:=4) rfl
 have f5:=K2.out.at (i:=5) rfl
 have f6:=K2.out.at (i:=6) rfl
 have f7:=K2.out.at (i:=7) rfl
 have f8:=K2.out.at (i:=8) rfl
 have f9:=K2.out.at (i:=9) rfl
 have f10:=K2.out.at (i:=10) rfl
 have f11:=K2.out.at (i:=11) rfl
 have O2:Hid (ZLq (L1++(L2++(L3++(L4++(L5++(L6++(L7++(L8++L9)))))))) w w2):=O1.out.trans (on2.mono (fun y m=>by first | exact m | (simp [m];done) | (simp only[AC] at m ⊢;(repeat' (refine Or.elim m (fun m=>?_) (fun m=>?_)))<;>simp [m])))
 clear on2 h5 h6 h7 h8 h9
 go_wp2_with fail
 go_ret
 exact ⟨ZL2 rfl,G1.out,G2.out,G3.out,G4.out,G5.out,G6.out,G7.out,G8.out,G9.out,O2.out⟩
theorem ZO8 (cs:List Value) (x:ZMq) (L:List Nat) (base:Nat) (k:Int) (w:World) (hk0:1≤k) (hk1:ZLC k x≤4611686018427387904) (h:Got ZNR base cs x L w):
  Calls prog 7 #[.agg cs.toArray,.int .i64 k] w fun e w'=>e=.returned (.int .i64 (ZLC k x))∧Got ZNR base cs (ZOh k x) L w'∧ZLq L w w':=by
 obtain ⟨hrep,ho⟩:=h
 obtain ⟨A1,c1,L1,A2,c2,L2,A3,c3,L3,A4,c4,L4,A5,c5,L5,A6,c6,L6,A7,c7,L7,A8,c8,L8,A9,c9,L9,rfl,hLL,n1,m1,s1,n2,m2,s2,n3,m3,s3,n4,m4,s4,n5,m5,s5,n6,m6,s6,n7,m7,s7,n8,m8,s8,n9,m9,s9⟩:=hrep
 subst L
 refine (ZPt x A1 c1 L1 A2 c2 L2 A3 c3 L3 A4 c4 L4 A5 c5 L5 A6 c6 L6 A7 c7 L7 A8 c8 L8 A9 c9 L9 base k w hk0 hk1 (by unfold maxLen at m1;omega) (by unfold maxLen at m2;omega) (by unfold maxLen at m3;omega) (by unfold maxLen at m4;omega) (by unfold maxLen at m5;omega) (by unfold maxLen at m6;omega) (by unfold maxLen at m7;omega) (by unfold maxLen at m8;omega) (by unfold maxLen at m9;omega) ⟨⟨A1,c1,rfl,n1,m1,s1⟩,ho.left⟩ ⟨⟨A2,c2,rfl,n2,m2,s2⟩,ho.right.left⟩ ⟨⟨A3,c3,rfl,n3,m3,s3⟩,ho.right.right.left⟩ ⟨⟨A4,c4,rfl,n4,m4,s4⟩,ho.right.right.right.left⟩ ⟨⟨A5,c5,rfl,n5,m5,s5⟩,ho.right.right.right.right.left⟩ ⟨⟨A6,c6,rfl,n6,m6,s6⟩,ho.right.right.right.right.right.left⟩ ⟨⟨A7,c7,rfl,n7,m7,s7⟩,ho.right.right.right.right.right.right.left⟩ ⟨⟨A8,c8,rfl,n8,m8,s8⟩,ho.right.right.right.right.right.right.right.left⟩ ⟨⟨A9,c9,rfl,n9,m9,s9⟩,ho.right.right.right.right.right.right.right.right⟩ (fun y m m'=>ho.apart y m (by simp [m'])) (fun y m m'=>ho.apart y m (by simp [m'])) (fun y m m'=>ho.apart y m (by simp [m'])) (fun y m m'=>ho.apart y m (by simp [m'])) (fun y m m'=>ho.apart y m (by simp [m'])) (fun y m m'=>ho.apart y m (by simp [m'])) (fun y m m'=>ho.apart y m (by simp [m'])) (fun y m m'=>ho.apart y m (by simp [m'])) (fun y m m'=>ho.right.apart y m (by simp [m'])) (fun y m m'=>ho.right.apart y m (by simp [m'])) (fun y m m'=>ho.right.apart y m (by simp [m'])) (fun y m m'=>ho.right.apart y m (by simp [m'])) (fun y m m'=>ho.right.apart y m (by simp [m'])) (fun y m m'=>ho.right.apart y m (by simp [m'])) (fun y m m'=>ho.right.apart y m (by simp [m'])) (fun y m m'=>ho.right.right.apart y m (by simp [m'])) (fun y m m'=>ho.right.right.apart y m (by simp [m'])) (fun y m m'=>ho.right.right.apart y m (by simp [m'])) (fun y m m'=>ho.right.right.apart y m (by simp [m'])) (fun y m m'=>ho.right.right.apart y m (by simp [m'])) (fun y m m'=>ho.right.right.apart y m (by simp [m'])) (fun y m m'=>ho.right.right.right.apart y m (by simp [m'])) (fun y m m'=>ho.right.right.right.apart y m (by simp [m'])) (fun y m m'=>ho.right.right.right.apart y m (by simp [m'])) (fun y m m'=>ho.right.right.right.apart y m (by simp [m'])) (fun y m m'=>ho.right.right.right.apart y m (by simp [m'])) (fun y m m'=>ho.right.right.right.right.apart y m (by simp [m'])) (fun y m m'=>ho.right.right.right.right.apart y m (by simp [m'])) (fun y m m'=>ho.right.right.right.right.apart y m (by simp [m'])) (fun y m m'=>ho.right.right.right.right.apart y m (by simp [m'])) (fun y m m'=>ho.right.right.right.right.right.apart y m (by simp [m'])) (fun y m m'=>ho.right.right.right.right.right.apart y m (by simp [m'])) (fun y m m'=>ho.right.right.right.right.right.apart y m (by simp [m'])) (fun y m m'=>ho.right.right.right.right.right.right.apart y m (by simp [m'])) (fun y m m'=>ho.right.right.right.right.right.right.apart y m (by simp [m'])) (fun y m m'=>ho.right.right.right.right.right.right.right.apart y m (by simp [m']))).mono ?_
 rintro e w' ⟨rfl,g1,g2,g3,g4,g5,g6,g7,g8,g9,on⟩
 obtain ⟨nn1,mm1,ss1⟩:=ZeR g1.rep
 obtain ⟨nn2,mm2,ss2⟩:=ZeR g2.rep
 obtain ⟨nn3,mm3,ss3⟩:=ZeR g3.rep
 obtain ⟨nn4,mm4,ss4⟩:=ZeR g4.rep
 obtain ⟨nn5,mm5,ss5⟩:=ZeR g5.rep
 obtain ⟨nn6,mm6,ss6⟩:=ZeR g6.rep
 obtain ⟨nn7,mm7,ss7⟩:=ZeR g7.rep
 obtain ⟨nn8,mm8,ss8⟩:=ZeR g8.rep
 obtain ⟨nn9,mm9,ss9⟩:=ZeR g9.rep
 refine ⟨rfl,⟨⟨A1,c1,L1,A2,c2,L2,A3,c3,L3,A4,c4,L4,A5,c5,L5,A6,c6,L6,A7,c7,L7,A8,c8,L8,A9,c9,L9,by simp [ZOh,ZNW,ZNE,ZMw,ZMB,ZMv,ZMC,ZMu,ZME,ZMH,ZMd],rfl,nn1,mm1,ss1,nn2,mm2,ss2,nn3,mm3,ss3,nn4,mm4,ss4,nn5,mm5,ss5,nn6,mm6,ss6,nn7,mm7,ss7,nn8,mm8,ss8,nn9,mm9,ss9⟩,ho.nodup,ho.ge,fun y m=>?_⟩,on⟩
 try simp only[AC] at m
 rcases m with m | m | m | m | m | m | m | m | m
 ·exact g1.own.plain y m
 ·exact g2.own.plain y m
 ·exact g3.own.plain y m
 ·exact g4.own.plain y m
 ·exact g5.own.plain y m
 ·exact g6.own.plain y m
 ·exact g7.own.plain y m
 ·exact g8.own.plain y m
 ·exact g9.own.plain y m
end
section
open Go.RowKit
theorem ZLm {w w1:World} {B:Nat} (h:Below w.drew.heap.size w.drew w1) (hB:B≤w.heap.size):Below B w w1:=⟨h.os,h.tape,h.output,h.size,fun k hk=>h.block k (AB hk hB)⟩
set_option maxHeartbeats 1600000 in
theorem ZLZ (A:Option Addr) (n c:Nat) (ds:List ByteArray) (L:List Nat) (k:Int) (w:World) (hn:n=ds.length) (hk0:1≤k) (hk1:Qs k ds≤4611686018427387904) (h:Sli ZsX w A (ZLp k ds) L):
  Calls prog 78 #[.slice A n c,.int .i64 k] w fun e w'=>e=.returned (.int .i64 (Qs k ds))∧Below w.heap.size w w':=by
 have H:=Lib.hid h
 have HN:=Lib.hid hn
 have hk1':k+n≤4611686018427387904:=by simp only[Qs] at hk1;omega
 clear h hn hk1
 go_enter func78,ntmps78
 go_wp2
 go_loopw [1,5] (fun q j wr=>∃(i:Nat) (kk:Int),i≤n∧j=.int .i64 i∧q=.int .i64 kk∧1≤kk∧kk+(n - i:Nat)≤4611686018427387904∧Hid (kk=k+i∧(ZLp k ds).drop i=ZLp kk (ds.drop i))∧Hid (Below w.heap.size w wr)) (fun _ j _=>n - (intOf j).toNat)
 case atStart=>exact ⟨0,k,AD _,rfl,rfl,hk0,by omega,⟨by omega,rfl⟩,Below.refl _ _⟩
 case round=>
  obtain ⟨i,kk,hi,rfl,rfl,h1,h2,HD,HB⟩:=hrel
  by_cases hlt:i<n
  ·have hil:i<ds.length:=by have:=HN.out;omega
   obtain ⟨hkk,hdr⟩:=HD.out
   have hml:i<(ZLp k ds).length:=by rw [ZLt];exact hil
   obtain ⟨b,off,cs,Lk,rfl,hbL,_,hrep,hc⟩:=H.out.at_ hml
   have hdr2:=hdr
   rw [AA hml,AA hil,ZLp] at hdr2
   injection hdr2 with e1 e2
   rw [e1] at hrep
   obtain ⟨rfl,_,_⟩:=hrep
   have hbl:b<w.heap.size:=H.out.lt b hbL
   have hbr:b<wr.heap.size:=AB hbl HB.out.size
   have q0:=(HB.out.cell (p:=⟨b,off+(i * ZsX.size+0),none⟩) hbl).trans (hc 0 _ rfl)
   simp only[show ZsX.size=1 from rfl,AN,A0] at q0
   have HDn:Hid (kk+1=k+(i+1:Nat)∧(ZLp k ds).drop (i+1)=ZLp (kk+1) (ds.drop (i+1))):=⟨by omega,e2⟩
   clear hc hkk hdr e1 e2
   have i0:(0:Int)≤i:=by omega
   have i1:(i:Int)<n:=by omega
   go_wp2_with fail
   go_region_held3 (fun w'=>w'.cell? ⟨b,off+i,none⟩=some (.string (mTx kk))) (first | go_keep | exact (hb1.cell (p:=⟨b,off+i,none⟩) hbr).trans q0) (first | (go_at_call 71;refine (ZLf _ _ (by omega) (by omega)).mono ?_;rintro e w1 ⟨rfl,hb1⟩))
   have HBn:=Lib.hid (HB.out.trans (ZLm hb1 HB.out.size))
   clear hb1
   go_wp2_with fail
   go_roundw
   case rel=>exact ⟨i+1,kk+1,by omega,by go_num,rfl,by omega,by omega,HDn,HBn⟩
   case measure=>simp [intOf];omega
  ·obtain rfl:i=n:=by omega
   have hf:Hid (Qs k ds=kk):=by
    obtain ⟨h1,_⟩:=HD.out
    have:=HN.out;rw [Hid];simp only[Qs];omega
   go_wp2
   go_ret
   exact ⟨ZL2 hf.out.symm,HB.out⟩
set_option maxHeartbeats 1600000 in
theorem ZNM (A:Option Addr) (n c:Nat) (ds:List Int) (L:List Nat) (k:Int) (w:World) (hn:n=ds.length) (hk0:1≤k) (hk1:ZLg k ds≤4611686018427387904) (h:Sli Zj7 w A (ZLY k ds) L):
  Calls prog 46 #[.slice A n c,.int .i64 k] w fun e w'=>e=.returned (.int .i64 (ZLg k ds))∧Below w.heap.size w w':=by
 have H:=Lib.hid h
 have HN:=Lib.hid hn
 have hk1':k+n≤4611686018427387904:=by simp only[ZLg] at hk1;omega
 clear h hn hk1
 go_enter func46,ntmps46
 go_wp2
 go_loopw [1,5] (fun q j wr=>∃(i:Nat) (kk:Int),i≤n∧j=.int .i64 i∧q=.int .i64 kk∧1≤kk∧kk+(n - i:Nat)≤4611686018427387904∧Hid (kk=k+i∧(ZLY k ds).drop i=ZLY kk (ds.drop i))∧Hid (Below w.heap.size w wr)) (fun _ j _=>n - (intOf j).toNat)
 case atStart=>exact ⟨0,k,AD _,rfl,rfl,hk0,by omega,⟨by omega,rfl⟩,Below.refl _ _⟩
 case round=>
  obtain ⟨i,kk,hi,rfl,rfl,h1,h2,HD,HB⟩:=hrel
  by_cases hlt:i<n
  ·have hil:i<ds.length:=by have:=HN.out;omega
   obtain ⟨hkk,hdr⟩:=HD.out
   have hml:i<(ZLY k ds).length:=by rw [ZMu];exact hil
   obtain ⟨b,off,cs,Lk,rfl,hbL,_,hrep,hc⟩:=H.out.at_ hml
   have hdr2:=hdr
   rw [AA hml,AA hil,ZLY] at hdr2
   injection hdr2 with e1 e2
   rw [e1] at hrep
   obtain ⟨rfl,_⟩:=hrep
   have hbl:b<w.heap.size:=H.out.lt b hbL
   have hbr:b<wr.heap.size:=AB hbl HB.out.size
   have q0:=(HB.out.cell (p:=⟨b,off+(i * Zj7.size+0),none⟩) hbl).trans (hc 0 _ rfl)
   simp only[show Zj7.size=1 from rfl,AN,A0] at q0
   have HDn:Hid (kk+1=k+(i+1:Nat)∧(ZLY k ds).drop (i+1)=ZLY (kk+1) (ds.drop (i+1))):=⟨by omega,e2⟩
   clear hc hkk hdr e1 e2
   have i0:(0:Int)≤i:=by omega
   have i1:(i:Int)<n:=by omega
   have hne:((kk:Int) != kk)=false:=by simp
   go_wp2_with fail
   have HBn:=HB
   go_roundw
   case rel=>exact ⟨i+1,kk+1,by omega,by go_num,rfl,by omega,by omega,HDn,HBn⟩
   case measure=>simp [intOf];omega
  ·obtain rfl:i=n:=by omega
   have hf:Hid (ZLg k ds=kk):=by
    obtain ⟨h1,_⟩:=HD.out
    have:=HN.out;rw [Hid];simp only[ZLg];omega
   go_wp2
   go_ret
   exact ⟨ZL2 hf.out.symm,HB.out⟩
set_option maxRecDepth 100000 in
set_option maxHeartbeats 4000000 in
theorem ZMQ (A:Option Addr) (n c:Nat) (ds:List Za) (L:List Nat) (k:Int) (w:World) (hn:n=ds.length) (hm:n≤9223372036854775807) (hk0:1≤k) (hk1:ZLl k ds≤4611686018427387904) (h:Sli Yf w A (ZLK k ds) L):
  Calls prog 49 #[.slice A n c,.int .i64 k] w fun e w'=>e=.returned (.int .i64 (ZLl k ds))∧Below w.heap.size w w':=by
 have H:=Lib.hid h
 have HN:=Lib.hid hn
 have HK:=Lib.hid hk1
 clear h hn hk1
 go_enter func49,ntmps49
 go_wp2
 go_loopw [1,5] (fun q j wr=>∃(i:Nat) (kk:Int),i≤n∧j=.int .i64 i∧q=.int .i64 kk∧1≤kk∧Hid (ZLl kk (ds.drop i)=ZLl k ds∧(ZLK k ds).drop i=ZLK kk (ds.drop i))∧Hid (Below w.heap.size w wr)) (fun _ j _=>n - (intOf j).toNat)
 case atStart=>exact ⟨0,k,AD _,rfl,rfl,hk0,⟨rfl,rfl⟩,Below.refl _ _⟩
 case round=>
  obtain ⟨i,kk,hi,rfl,rfl,h1,HD,HB⟩:=hrel
  by_cases hlt:i<n
  ·have hil:i<ds.length:=by have:=HN.out;omega
   obtain ⟨hkk,hdr⟩:=HD.out
   have hml:i<(ZLK k ds).length:=by rw [ZMd];exact hil
   obtain ⟨b,off,cs,Lk,rfl,hbL,hLk,hrep,hc⟩:=H.out.at_ hml
   rw [AA hml,AA hil,ZLK] at hdr
   injection hdr with e1 e2
   rw [e1] at hrep
   clear e1
   have hnext:ds.drop i=ds[i]::ds.drop (i+1):=AA _
   rw [hnext] at hkk
   clear hnext
   generalize ds[i]=x at hrep hkk e2
   have hnb:Hid (ZLL kk x≤4611686018427387904):=by
    have:=ZLT (ZLL kk x) (ds.drop (i+1))
    have hk:=HK.out
    rw [←hkk] at hk
    exact AF this hk
   have hnb1:=hnb.out
   have hnb2:=ZM7 kk x
   unfold ZLL at hnb1 hnb2
   have HDn:Hid (ZLl (ZLL kk x) (ds.drop (i+1))=ZLl k ds∧(ZLK k ds).drop (i+1)=ZLK (ZLL kk x) (ds.drop (i+1))):=⟨hkk,e2⟩
   have hbl:b<w.heap.size:=H.out.lt b hbL
   clear hkk e2
   obtain ⟨A1,c1,L1,rfl,hLL,t0,n1,m1,s1⟩:=hrep
   have S1:=Lib.hid s1
   have lL1:Hid (∀y∈L1,y<w.heap.size):=fun y m=>H.out.lt y (hLk y (by rw [hLL];simp [m]))
   have ll1:(ZM8 kk x).args.length=x.args.length:=ZLt _ _
   clear s1
   have Q0:=Lib.hid (hc 0 _ rfl)
   have Q1:=Lib.hid (hc 1 _ rfl)
   unfold maxLen at m1
   rw [ll1] at Q1 n1
   clear hc ll1
   have i0:(0:Int)≤i:=by omega
   have i1:(i:Int)<n:=by omega
   have mono_x_args:=ZLj (kk+1) x.args
   have q0:wr.cell? ⟨b,off+i * 2,none⟩=some (.string (mTx (kk))):=(HB.out.cell (p:=⟨b,off+(i * 2+0),none⟩) hbl).trans Q0.out
   have q1:wr.cell? ⟨b,off+i * 2+1,none⟩=some (.slice A1 x.args.length c1):=(HB.out.cell (p:=⟨b,off+(i * 2+1),none⟩) hbl).trans Q1.out
   have hbr:b<wr.heap.size:=AB hbl HB.out.size
   go_wp2_with fail
   go_region_held3 (fun w'=>w'.cell? ⟨b,off+i * 2,none⟩=some (.string (mTx (kk)))) (first | go_keep | exact (hb1.cell (p:=⟨b,off+i * 2,none⟩) hbr).trans q0) (first | (go_at_call 71;refine (ZLf _ _ (by omega) (by omega)).mono ?_;rintro e w1 ⟨rfl,hb1⟩))
   have HB:=Lib.hid (HB.out.trans (ZLm hb1 HB.out.size))
   clear hb1
   clear q0 q1
   have q0:w1.cell? ⟨b,off+i * 2,none⟩=some (.string (mTx (kk))):=(HB.out.cell (p:=⟨b,off+(i * 2+0),none⟩) hbl).trans Q0.out
   have q1:w1.cell? ⟨b,off+i * 2+1,none⟩=some (.slice A1 x.args.length c1):=(HB.out.cell (p:=⟨b,off+(i * 2+1),none⟩) hbl).trans Q1.out
   replace hbr:b<w1.heap.size:=AB hbl HB.out.size
   go_wp2_with fail
   refine (ZLZ A1 _ c1 x.args L1 _ _ rfl (by omega) (by omega) (S1.out.keep (Qu HB.out lL1.out))).mono ?_
   rintro e w2 ⟨rfl,hb2⟩
   have HB:=Lib.hid (HB.out.trans (hb2.mono HB.out.size))
   clear hb2
   clear q0 q1
   have q0:w2.cell? ⟨b,off+i * 2,none⟩=some (.string (mTx (kk))):=(HB.out.cell (p:=⟨b,off+(i * 2+0),none⟩) hbl).trans Q0.out
   have q1:w2.cell? ⟨b,off+i * 2+1,none⟩=some (.slice A1 x.args.length c1):=(HB.out.cell (p:=⟨b,off+(i * 2+1),none⟩) hbl).trans Q1.out
   replace hbr:b<w2.heap.size:=AB hbl HB.out.size
   have ge2:¬(Qs (kk+1) x.args<0):=by omega
   go_wp2_with fail
   go_roundw
   case rel=>exact ⟨i+1,ZLL kk x,by omega,by go_num,rfl,by unfold ZLL;omega,HDn,HB⟩
   case measure=>simp [intOf];omega
  ·obtain rfl:i=n:=by omega
   have hf:Hid (ZLl k ds=kk):=by
    obtain ⟨h1,_⟩:=HD.out
    rw [Hid,←h1,AE (by have:=HN.out;omega)];rfl
   go_wp2
   go_ret
   exact ⟨ZL2 hf.out.symm,HB.out⟩
set_option maxRecDepth 100000 in
set_option maxHeartbeats 4000000 in
theorem ZOL (A:Option Addr) (n c:Nat) (ds:List Zx) (L:List Nat) (k:Int) (w:World) (hn:n=ds.length) (hm:n≤9223372036854775807) (hk0:1≤k) (hk1:ZLE k ds≤4611686018427387904) (h:Sli ZDh w A (ZL1 k ds) L):
  Calls prog 119 #[.slice A n c,.int .i64 k] w fun e w'=>e=.returned (.int .i64 (ZLE k ds))∧Below w.heap.size w w':=by
 have H:=Lib.hid h
 have HN:=Lib.hid hn
 have HK:=Lib.hid hk1
 clear h hn hk1
 go_enter func119,ntmps119
 go_wp2
 go_loopw [1,5] (fun q j wr=>∃(i:Nat) (kk:Int),i≤n∧j=.int .i64 i∧q=.int .i64 kk∧1≤kk∧Hid (ZLE kk (ds.drop i)=ZLE k ds∧(ZL1 k ds).drop i=ZL1 kk (ds.drop i))∧Hid (Below w.heap.size w wr)) (fun _ j _=>n - (intOf j).toNat)
 case atStart=>exact ⟨0,k,AD _,rfl,rfl,hk0,⟨rfl,rfl⟩,Below.refl _ _⟩
 case round=>
  obtain ⟨i,kk,hi,rfl,rfl,h1,HD,HB⟩:=hrel
  by_cases hlt:i<n
  ·have hil:i<ds.length:=by have:=HN.out;omega
   obtain ⟨hkk,hdr⟩:=HD.out
   have hml:i<(ZL1 k ds).length:=by rw [ZM9];exact hil
   obtain ⟨b,off,cs,Lk,rfl,hbL,hLk,hrep,hc⟩:=H.out.at_ hml
   rw [AA hml,AA hil,ZL1] at hdr
   injection hdr with e1 e2
   rw [e1] at hrep
   clear e1
   have hnext:ds.drop i=ds[i]::ds.drop (i+1):=AA _
   rw [hnext] at hkk
   clear hnext
   generalize ds[i]=x at hrep hkk e2
   have hnb:Hid (ZLN kk x≤4611686018427387904):=by
    have:=ZMr (ZLN kk x) (ds.drop (i+1))
    have hk:=HK.out
    rw [←hkk] at hk
    exact AF this hk
   have hnb1:=hnb.out
   have hnb2:=ZNd kk x
   unfold ZLN at hnb1 hnb2
   have HDn:Hid (ZLE (ZLN kk x) (ds.drop (i+1))=ZLE k ds∧(ZL1 k ds).drop (i+1)=ZL1 (ZLN kk x) (ds.drop (i+1))):=⟨hkk,e2⟩
   have hbl:b<w.heap.size:=H.out.lt b hbL
   clear hkk e2
   obtain ⟨rfl,hLL,t0,t1⟩:=hrep
   have Q0:=Lib.hid (hc 0 _ rfl)
   have Q1:=Lib.hid (hc 1 _ rfl)
   clear hc
   have i0:(0:Int)≤i:=by omega
   have i1:(i:Int)<n:=by omega
   have q0:wr.cell? ⟨b,off+i * 2,none⟩=some (.string (mTx (kk))):=(HB.out.cell (p:=⟨b,off+(i * 2+0),none⟩) hbl).trans Q0.out
   have q1:wr.cell? ⟨b,off+i * 2+1,none⟩=some (.string (mTx (kk+1))):=(HB.out.cell (p:=⟨b,off+(i * 2+1),none⟩) hbl).trans Q1.out
   have hbr:b<wr.heap.size:=AB hbl HB.out.size
   go_wp2_with fail
   go_region_held3 (fun w'=>w'.cell? ⟨b,off+i * 2,none⟩=some (.string (mTx (kk)))) (first | go_keep | exact (hb1.cell (p:=⟨b,off+i * 2,none⟩) hbr).trans q0) (first | (go_at_call 71;refine (ZLf _ _ (by omega) (by omega)).mono ?_;rintro e w1 ⟨rfl,hb1⟩))
   have HB:=Lib.hid (HB.out.trans (ZLm hb1 HB.out.size))
   clear hb1
   clear q0 q1
   have q0:w1.cell? ⟨b,off+i * 2,none⟩=some (.string (mTx (kk))):=(HB.out.cell (p:=⟨b,off+(i * 2+0),none⟩) hbl).trans Q0.out
   have q1:w1.cell? ⟨b,off+i * 2+1,none⟩=some (.string (mTx (kk+1))):=(HB.out.cell (p:=⟨b,off+(i * 2+1),none⟩) hbl).trans Q1.out
   replace hbr:b<w1.heap.size:=AB hbl HB.out.size
   go_wp2_with fail
   go_region_held3 (fun w'=>w'.cell? ⟨b,off+i * 2+1,none⟩=some (.string (mTx (kk+1)))) (first | go_keep | exact (hb2.cell (p:=⟨b,off+i * 2+1,none⟩) hbr).trans q1) (first | (go_at_call 71;refine (ZLf _ _ (by omega) (by omega)).mono ?_;rintro e w2 ⟨rfl,hb2⟩))
   have HB:=Lib.hid (HB.out.trans (ZLm hb2 HB.out.size))
   clear hb2
   clear q0 q1
   have q0:w2.cell? ⟨b,off+i * 2,none⟩=some (.string (mTx (kk))):=(HB.out.cell (p:=⟨b,off+(i * 2+0),none⟩) hbl).trans Q0.out
   have q1:w2.cell? ⟨b,off+i * 2+1,none⟩=some (.string (mTx (kk+1))):=(HB.out.cell (p:=⟨b,off+(i * 2+1),none⟩) hbl).trans Q1.out
   replace hbr:b<w2.heap.size:=AB hbl HB.out.size
   go_wp2_with fail
   go_roundw
   case rel=>exact ⟨i+1,ZLN kk x,by omega,by go_num,rfl,by unfold ZLN;omega,HDn,HB⟩
   case measure=>simp [intOf];omega
  ·obtain rfl:i=n:=by omega
   have hf:Hid (ZLE k ds=kk):=by
    obtain ⟨h1,_⟩:=HD.out
    rw [Hid,←h1,AE (by have:=HN.out;omega)];rfl
   go_wp2
   go_ret
   exact ⟨ZL2 hf.out.symm,HB.out⟩
set_option maxRecDepth 100000 in
set_option maxHeartbeats 4000000 in
theorem ZOR (A:Option Addr) (n c:Nat) (ds:List Zu) (L:List Nat) (k:Int) (w:World) (hn:n=ds.length) (hm:n≤9223372036854775807) (hk0:1≤k) (hk1:ZLo k ds≤4611686018427387904) (h:Sli ZC9 w A (ZL0 k ds) L):
  Calls prog 76 #[.slice A n c,.int .i64 k] w fun e w'=>e=.returned (.int .i64 (ZLo k ds))∧Below w.heap.size w w':=by
 have H:=Lib.hid h
 have HN:=Lib.hid hn
 have HK:=Lib.hid hk1
 clear h hn hk1
 go_enter func76,ntmps76
 go_wp2
 go_loopw [1,5] (fun q j wr=>∃(i:Nat) (kk:Int),i≤n∧j=.int .i64 i∧q=.int .i64 kk∧1≤kk∧Hid (ZLo kk (ds.drop i)=ZLo k ds∧(ZL0 k ds).drop i=ZL0 kk (ds.drop i))∧Hid (Below w.heap.size w wr)) (fun _ j _=>n - (intOf j).toNat)
 case atStart=>exact ⟨0,k,AD _,rfl,rfl,hk0,⟨rfl,rfl⟩,Below.refl _ _⟩
 case round=>
  obtain ⟨i,kk,hi,rfl,rfl,h1,HD,HB⟩:=hrel
  by_cases hlt:i<n
  ·have hil:i<ds.length:=by have:=HN.out;omega
   obtain ⟨hkk,hdr⟩:=HD.out
   have hml:i<(ZL0 k ds).length:=by rw [ZNm];exact hil
   obtain ⟨b,off,cs,Lk,rfl,hbL,hLk,hrep,hc⟩:=H.out.at_ hml
   rw [AA hml,AA hil,ZL0] at hdr
   injection hdr with e1 e2
   rw [e1] at hrep
   clear e1
   have hnext:ds.drop i=ds[i]::ds.drop (i+1):=AA _
   rw [hnext] at hkk
   clear hnext
   generalize ds[i]=x at hrep hkk e2
   have hnb:Hid (ZLO kk x≤4611686018427387904):=by
    have:=ZMt (ZLO kk x) (ds.drop (i+1))
    have hk:=HK.out
    rw [←hkk] at hk
    exact AF this hk
   have hnb1:=hnb.out
   have hnb2:=ZNf kk x
   unfold ZLO at hnb1 hnb2
   have HDn:Hid (ZLo (ZLO kk x) (ds.drop (i+1))=ZLo k ds∧(ZL0 k ds).drop (i+1)=ZL0 (ZLO kk x) (ds.drop (i+1))):=⟨hkk,e2⟩
   have hbl:b<w.heap.size:=H.out.lt b hbL
   clear hkk e2
   obtain ⟨A1,c1,L1,rfl,hLL,t0,t1,t2,n1,m1,s1⟩:=hrep
   have S1:=Lib.hid s1
   have lL1:Hid (∀y∈L1,y<w.heap.size):=fun y m=>H.out.lt y (hLk y (by rw [hLL];simp [m]))
   have ll1:(ZNh kk x).pattern.args.length=x.pattern.args.length:=ZLt _ _
   clear s1
   have Q0:=Lib.hid (hc 0 _ rfl)
   have Q1:=Lib.hid (hc 1 _ rfl)
   have Q2:=Lib.hid (hc 2 _ rfl)
   have Q3:=Lib.hid (hc 3 _ rfl)
   have Q4:=Lib.hid (hc 4 _ rfl)
   unfold maxLen at m1
   rw [ll1] at Q2 n1
   clear hc ll1
   have i0:(0:Int)≤i:=by omega
   have i1:(i:Int)<n:=by omega
   have mono_x_pattern_args:=ZLj (kk+1+1) x.pattern.args
   have q0:wr.cell? ⟨b,off+i * 5,none⟩=some (.int .i64 (kk)):=(HB.out.cell (p:=⟨b,off+(i * 5+0),none⟩) hbl).trans Q0.out
   have q1:wr.cell? ⟨b,off+i * 5+1,none⟩=some (.string (mTx (kk+1))):=(HB.out.cell (p:=⟨b,off+(i * 5+1),none⟩) hbl).trans Q1.out
   have q2:wr.cell? ⟨b,off+i * 5+2,none⟩=some (.slice A1 x.pattern.args.length c1):=(HB.out.cell (p:=⟨b,off+(i * 5+2),none⟩) hbl).trans Q2.out
   have q3:wr.cell? ⟨b,off+i * 5+3,none⟩=some (.string (mTx (Qs (kk+1+1) x.pattern.args))):=(HB.out.cell (p:=⟨b,off+(i * 5+3),none⟩) hbl).trans Q3.out
   have q4:wr.cell? ⟨b,off+i * 5+4,none⟩=some (.string (mTx (Qs (kk+1+1) x.pattern.args+1))):=(HB.out.cell (p:=⟨b,off+(i * 5+4),none⟩) hbl).trans Q4.out
   have hbr:b<wr.heap.size:=AB hbl HB.out.size
   go_wp2_with fail
   go_region_held3 (fun w'=>w'.cell? ⟨b,off+i * 5+1,none⟩=some (.string (mTx (kk+1)))) (first | go_keep | exact (hb1.cell (p:=⟨b,off+i * 5+1,none⟩) hbr).trans q1) (first | (go_at_call 71;refine (ZLf _ _ (by omega) (by omega)).mono ?_;rintro e w1 ⟨rfl,hb1⟩))
   have HB:=Lib.hid (HB.out.trans (ZLm hb1 HB.out.size))
   clear hb1
   clear q0 q1 q2 q3 q4
   have q0:w1.cell? ⟨b,off+i * 5,none⟩=some (.int .i64 (kk)):=(HB.out.cell (p:=⟨b,off+(i * 5+0),none⟩) hbl).trans Q0.out
   have q1:w1.cell? ⟨b,off+i * 5+1,none⟩=some (.string (mTx (kk+1))):=(HB.out.cell (p:=⟨b,off+(i * 5+1),none⟩) hbl).trans Q1.out
   have q2:w1.cell? ⟨b,off+i * 5+2,none⟩=some (.slice A1 x.pattern.args.length c1):=(HB.out.cell (p:=⟨b,off+(i * 5+2),none⟩) hbl).trans Q2.out
   have q3:w1.cell? ⟨b,off+i * 5+3,none⟩=some (.string (mTx (Qs (kk+1+1) x.pattern.args))):=(HB.out.cell (p:=⟨b,off+(i * 5+3),none⟩) hbl).trans Q3.out
   have q4:w1.cell? ⟨b,off+i * 5+4,none⟩=some (.string (mTx (Qs (kk+1+1) x.pattern.args+1))):=(HB.out.cell (p:=⟨b,off+(i * 5+4),none⟩) hbl).trans Q4.out
   replace hbr:b<w1.heap.size:=AB hbl HB.out.size
   go_wp2_with fail
   refine (ZLZ A1 _ c1 x.pattern.args L1 _ _ rfl (by omega) (by omega) (S1.out.keep (Qu HB.out lL1.out))).mono ?_
   rintro e w2 ⟨rfl,hb2⟩
   have HB:=Lib.hid (HB.out.trans (hb2.mono HB.out.size))
   clear hb2
   clear q0 q1 q2 q3 q4
   have q0:w2.cell? ⟨b,off+i * 5,none⟩=some (.int .i64 (kk)):=(HB.out.cell (p:=⟨b,off+(i * 5+0),none⟩) hbl).trans Q0.out
   have q1:w2.cell? ⟨b,off+i * 5+1,none⟩=some (.string (mTx (kk+1))):=(HB.out.cell (p:=⟨b,off+(i * 5+1),none⟩) hbl).trans Q1.out
   have q2:w2.cell? ⟨b,off+i * 5+2,none⟩=some (.slice A1 x.pattern.args.length c1):=(HB.out.cell (p:=⟨b,off+(i * 5+2),none⟩) hbl).trans Q2.out
   have q3:w2.cell? ⟨b,off+i * 5+3,none⟩=some (.string (mTx (Qs (kk+1+1) x.pattern.args))):=(HB.out.cell (p:=⟨b,off+(i * 5+3),none⟩) hbl).trans Q3.out
   have q4:w2.cell? ⟨b,off+i * 5+4,none⟩=some (.string (mTx (Qs (kk+1+1) x.pattern.args+1))):=(HB.out.cell (p:=⟨b,off+(i * 5+4),none⟩) hbl).trans Q4.out
   replace hbr:b<w2.heap.size:=AB hbl HB.out.size
   have ge2:¬(Qs (kk+1+1) x.pattern.args<0):=by omega
   go_wp2_with fail
   go_region_held3 (fun w'=>w'.cell? ⟨b,off+i * 5+3,none⟩=some (.string (mTx (Qs (kk+1+1) x.pattern.args)))) (first | go_keep | exact (hb3.cell (p:=⟨b,off+i * 5+3,none⟩) hbr).trans q3) (first | (go_at_call 71;refine (ZLf _ _ (by omega) (by omega)).mono ?_;rintro e w3 ⟨rfl,hb3⟩))
   have HB:=Lib.hid (HB.out.trans (ZLm hb3 HB.out.size))
   clear hb3
   clear q0 q1 q2 q3 q4
   have q0:w3.cell? ⟨b,off+i * 5,none⟩=some (.int .i64 (kk)):=(HB.out.cell (p:=⟨b,off+(i * 5+0),none⟩) hbl).trans Q0.out
   have q1:w3.cell? ⟨b,off+i * 5+1,none⟩=some (.string (mTx (kk+1))):=(HB.out.cell (p:=⟨b,off+(i * 5+1),none⟩) hbl).trans Q1.out
   have q2:w3.cell? ⟨b,off+i * 5+2,none⟩=some (.slice A1 x.pattern.args.length c1):=(HB.out.cell (p:=⟨b,off+(i * 5+2),none⟩) hbl).trans Q2.out
   have q3:w3.cell? ⟨b,off+i * 5+3,none⟩=some (.string (mTx (Qs (kk+1+1) x.pattern.args))):=(HB.out.cell (p:=⟨b,off+(i * 5+3),none⟩) hbl).trans Q3.out
   have q4:w3.cell? ⟨b,off+i * 5+4,none⟩=some (.string (mTx (Qs (kk+1+1) x.pattern.args+1))):=(HB.out.cell (p:=⟨b,off+(i * 5+4),none⟩) hbl).trans Q4.out
   replace hbr:b<w3.heap.size:=AB hbl HB.out.size
   go_wp2_with fail
   go_region_held3 (fun w'=>w'.cell? ⟨b,off+i * 5+4,none⟩=some (.string (mTx (Qs (kk+1+1) x.pattern.args+1)))) (first | go_keep | exact (hb4.cell (p:=⟨b,off+i * 5+4,none⟩) hbr).trans q4) (first | (go_at_call 71;refine (ZLf _ _ (by omega) (by omega)).mono ?_;rintro e w4 ⟨rfl,hb4⟩))
   have HB:=Lib.hid (HB.out.trans (ZLm hb4 HB.out.size))
   clear hb4
   clear q0 q1 q2 q3 q4
   have q0:w4.cell? ⟨b,off+i * 5,none⟩=some (.int .i64 (kk)):=(HB.out.cell (p:=⟨b,off+(i * 5+0),none⟩) hbl).trans Q0.out
   have q1:w4.cell? ⟨b,off+i * 5+1,none⟩=some (.string (mTx (kk+1))):=(HB.out.cell (p:=⟨b,off+(i * 5+1),none⟩) hbl).trans Q1.out
   have q2:w4.cell? ⟨b,off+i * 5+2,none⟩=some (.slice A1 x.pattern.args.length c1):=(HB.out.cell (p:=⟨b,off+(i * 5+2),none⟩) hbl).trans Q2.out
   have q3:w4.cell? ⟨b,off+i * 5+3,none⟩=some (.string (mTx (Qs (kk+1+1) x.pattern.args))):=(HB.out.cell (p:=⟨b,off+(i * 5+3),none⟩) hbl).trans Q3.out
   have q4:w4.cell? ⟨b,off+i * 5+4,none⟩=some (.string (mTx (Qs (kk+1+1) x.pattern.args+1))):=(HB.out.cell (p:=⟨b,off+(i * 5+4),none⟩) hbl).trans Q4.out
   replace hbr:b<w4.heap.size:=AB hbl HB.out.size
   go_wp2_with fail
   go_roundw
   case rel=>exact ⟨i+1,ZLO kk x,by omega,by go_num,rfl,by unfold ZLO;omega,HDn,HB⟩
   case measure=>simp [intOf];omega
  ·obtain rfl:i=n:=by omega
   have hf:Hid (ZLo k ds=kk):=by
    obtain ⟨h1,_⟩:=HD.out
    rw [Hid,←h1,AE (by have:=HN.out;omega)];rfl
   go_wp2
   go_ret
   exact ⟨ZL2 hf.out.symm,HB.out⟩
set_option maxRecDepth 100000 in
set_option maxHeartbeats 4000000 in
theorem ZOg (A:Option Addr) (n c:Nat) (ds:List Zy) (L:List Nat) (k:Int) (w:World) (hn:n=ds.length) (hm:n≤9223372036854775807) (hk0:1≤k) (hk1:ZLn k ds≤4611686018427387904) (h:Sli ZxH w A (ZLJ k ds) L):
  Calls prog 77 #[.slice A n c,.int .i64 k] w fun e w'=>e=.returned (.int .i64 (ZLn k ds))∧Below w.heap.size w w':=by
 have H:=Lib.hid h
 have HN:=Lib.hid hn
 have HK:=Lib.hid hk1
 clear h hn hk1
 go_enter func77,ntmps77
 go_wp2
 go_loopw [1,5] (fun q j wr=>∃(i:Nat) (kk:Int),i≤n∧j=.int .i64 i∧q=.int .i64 kk∧1≤kk∧Hid (ZLn kk (ds.drop i)=ZLn k ds∧(ZLJ k ds).drop i=ZLJ kk (ds.drop i))∧Hid (Below w.heap.size w wr)) (fun _ j _=>n - (intOf j).toNat)
 case atStart=>exact ⟨0,k,AD _,rfl,rfl,hk0,⟨rfl,rfl⟩,Below.refl _ _⟩
 case round=>
  obtain ⟨i,kk,hi,rfl,rfl,h1,HD,HB⟩:=hrel
  by_cases hlt:i<n
  ·have hil:i<ds.length:=by have:=HN.out;omega
   obtain ⟨hkk,hdr⟩:=HD.out
   have hml:i<(ZLJ k ds).length:=by rw [ZMM];exact hil
   obtain ⟨b,off,cs,Lk,rfl,hbL,hLk,hrep,hc⟩:=H.out.at_ hml
   rw [AA hml,AA hil,ZLJ] at hdr
   injection hdr with e1 e2
   rw [e1] at hrep
   clear e1
   have hnext:ds.drop i=ds[i]::ds.drop (i+1):=AA _
   rw [hnext] at hkk
   clear hnext
   generalize ds[i]=x at hrep hkk e2
   have hnb:Hid (ZLu kk x≤4611686018427387904):=by
    have:=ZMf (ZLu kk x) (ds.drop (i+1))
    have hk:=HK.out
    rw [←hkk] at hk
    exact AF this hk
   have hnb1:=hnb.out
   have hnb2:=ZMP kk x
   unfold ZLu at hnb1 hnb2
   have HDn:Hid (ZLn (ZLu kk x) (ds.drop (i+1))=ZLn k ds∧(ZLJ k ds).drop (i+1)=ZLJ (ZLu kk x) (ds.drop (i+1))):=⟨hkk,e2⟩
   have hbl:b<w.heap.size:=H.out.lt b hbL
   clear hkk e2
   obtain ⟨A1,c1,L1,rfl,hLL,t0,n1,m1,s1⟩:=hrep
   have S1:=Lib.hid s1
   have lL1:Hid (∀y∈L1,y<w.heap.size):=fun y m=>H.out.lt y (hLk y (by rw [hLL];simp [m]))
   have ll1:(ZMy kk x).pattern.args.length=x.pattern.args.length:=ZLt _ _
   clear s1
   have Q0:=Lib.hid (hc 0 _ rfl)
   have Q1:=Lib.hid (hc 1 _ rfl)
   have Q2:=Lib.hid (hc 2 _ rfl)
   unfold maxLen at m1
   rw [ll1] at Q2 n1
   clear hc ll1
   have i0:(0:Int)≤i:=by omega
   have i1:(i:Int)<n:=by omega
   have mono_x_pattern_args:=ZLj (kk+1+1) x.pattern.args
   have q0:wr.cell? ⟨b,off+i * 3,none⟩=some (.int .i64 (kk)):=(HB.out.cell (p:=⟨b,off+(i * 3+0),none⟩) hbl).trans Q0.out
   have q1:wr.cell? ⟨b,off+i * 3+1,none⟩=some (.string (mTx (kk+1))):=(HB.out.cell (p:=⟨b,off+(i * 3+1),none⟩) hbl).trans Q1.out
   have q2:wr.cell? ⟨b,off+i * 3+2,none⟩=some (.slice A1 x.pattern.args.length c1):=(HB.out.cell (p:=⟨b,off+(i * 3+2),none⟩) hbl).trans Q2.out
   have hbr:b<wr.heap.size:=AB hbl HB.out.size
   go_wp2_with fail
   go_region_held3 (fun w'=>w'.cell? ⟨b,off+i * 3+1,none⟩=some (.string (mTx (kk+1)))) (first | go_keep | exact (hb1.cell (p:=⟨b,off+i * 3+1,none⟩) hbr).trans q1) (first | (go_at_call 71;refine (ZLf _ _ (by omega) (by omega)).mono ?_;rintro e w1 ⟨rfl,hb1⟩))
   have HB:=Lib.hid (HB.out.trans (ZLm hb1 HB.out.size))
   clear hb1
   clear q0 q1 q2
   have q0:w1.cell? ⟨b,off+i * 3,none⟩=some (.int .i64 (kk)):=(HB.out.cell (p:=⟨b,off+(i * 3+0),none⟩) hbl).trans Q0.out
   have q1:w1.cell? ⟨b,off+i * 3+1,none⟩=some (.string (mTx (kk+1))):=(HB.out.cell (p:=⟨b,off+(i * 3+1),none⟩) hbl).trans Q1.out
   have q2:w1.cell? ⟨b,off+i * 3+2,none⟩=some (.slice A1 x.pattern.args.length c1):=(HB.out.cell (p:=⟨b,off+(i * 3+2),none⟩) hbl).trans Q2.out
   replace hbr:b<w1.heap.size:=AB hbl HB.out.size
   go_wp2_with fail
   refine (ZLZ A1 _ c1 x.pattern.args L1 _ _ rfl (by omega) (by omega) (S1.out.keep (Qu HB.out lL1.out))).mono ?_
   rintro e w2 ⟨rfl,hb2⟩
   have HB:=Lib.hid (HB.out.trans (hb2.mono HB.out.size))
   clear hb2
   clear q0 q1 q2
   have q0:w2.cell? ⟨b,off+i * 3,none⟩=some (.int .i64 (kk)):=(HB.out.cell (p:=⟨b,off+(i * 3+0),none⟩) hbl).trans Q0.out
   have q1:w2.cell? ⟨b,off+i * 3+1,none⟩=some (.string (mTx (kk+1))):=(HB.out.cell (p:=⟨b,off+(i * 3+1),none⟩) hbl).trans Q1.out
   have q2:w2.cell? ⟨b,off+i * 3+2,none⟩=some (.slice A1 x.pattern.args.length c1):=(HB.out.cell (p:=⟨b,off+(i * 3+2),none⟩) hbl).trans Q2.out
   replace hbr:b<w2.heap.size:=AB hbl HB.out.size
   have ge2:¬(Qs (kk+1+1) x.pattern.args<0):=by omega
   go_wp2_with fail
   go_roundw
   case rel=>exact ⟨i+1,ZLu kk x,by omega,by go_num,rfl,by unfold ZLu;omega,HDn,HB⟩
   case measure=>simp [intOf];omega
  ·obtain rfl:i=n:=by omega
   have hf:Hid (ZLn k ds=kk):=by
    obtain ⟨h1,_⟩:=HD.out
    rw [Hid,←h1,AE (by have:=HN.out;omega)];rfl
   go_wp2
   go_ret
   exact ⟨ZL2 hf.out.symm,HB.out⟩
set_option maxRecDepth 100000 in
set_option maxHeartbeats 4000000 in
theorem ZNw (A:Option Addr) (n c:Nat) (ds:List Zf) (L:List Nat) (k:Int) (w:World) (hn:n=ds.length) (hm:n≤9223372036854775807) (hk0:1≤k) (hk1:ZLc k ds≤4611686018427387904) (h:Sli Zby w A (ZLy k ds) L):
  Calls prog 42 #[.slice A n c,.int .i64 k] w fun e w'=>e=.returned (.int .i64 (ZLc k ds))∧Below w.heap.size w w':=by
 have H:=Lib.hid h
 have HN:=Lib.hid hn
 have HK:=Lib.hid hk1
 clear h hn hk1
 go_enter func42,ntmps42
 go_wp2
 go_loopw [1,5] (fun q j wr=>∃(i:Nat) (kk:Int),i≤n∧j=.int .i64 i∧q=.int .i64 kk∧1≤kk∧Hid (ZLc kk (ds.drop i)=ZLc k ds∧(ZLy k ds).drop i=ZLy kk (ds.drop i))∧Hid (Below w.heap.size w wr)) (fun _ j _=>n - (intOf j).toNat)
 case atStart=>exact ⟨0,k,AD _,rfl,rfl,hk0,⟨rfl,rfl⟩,Below.refl _ _⟩
 case round=>
  obtain ⟨i,kk,hi,rfl,rfl,h1,HD,HB⟩:=hrel
  by_cases hlt:i<n
  ·have hil:i<ds.length:=by have:=HN.out;omega
   obtain ⟨hkk,hdr⟩:=HD.out
   have hml:i<(ZLy k ds).length:=by rw [ZMw];exact hil
   obtain ⟨b,off,cs,Lk,rfl,hbL,hLk,hrep,hc⟩:=H.out.at_ hml
   rw [AA hml,AA hil,ZLy] at hdr
   injection hdr with e1 e2
   rw [e1] at hrep
   clear e1
   have hnext:ds.drop i=ds[i]::ds.drop (i+1):=AA _
   rw [hnext] at hkk
   clear hnext
   generalize ds[i]=x at hrep hkk e2
   have hnb:Hid (ZLP kk x≤4611686018427387904):=by
    have:=ZMa (ZLP kk x) (ds.drop (i+1))
    have hk:=HK.out
    rw [←hkk] at hk
    exact AF this hk
   have hnb1:=hnb.out
   have hnb2:=ZNe kk x
   unfold ZLP at hnb1 hnb2
   have HDn:Hid (ZLc (ZLP kk x) (ds.drop (i+1))=ZLc k ds∧(ZLy k ds).drop (i+1)=ZLy (ZLP kk x) (ds.drop (i+1))):=⟨hkk,e2⟩
   have hbl:b<w.heap.size:=H.out.lt b hbL
   clear hkk e2
   obtain ⟨A1,c1,L1,A2,c2,L2,rfl,hLL,t0,n1,m1,s1,n2,m2,s2⟩:=hrep
   have S1:=Lib.hid s1
   have lL1:Hid (∀y∈L1,y<w.heap.size):=fun y m=>H.out.lt y (hLk y (by rw [hLL];simp [m]))
   have ll1:(ZM5 kk x).cond.length=x.cond.length:=ZNm _ _
   clear s1
   have S2:=Lib.hid s2
   have lL2:Hid (∀y∈L2,y<w.heap.size):=fun y m=>H.out.lt y (hLk y (by rw [hLL];simp [m]))
   have ll2:(ZM5 kk x).thn.length=x.thn.length:=ZMM _ _
   clear s2
   have Q0:=Lib.hid (hc 0 _ rfl)
   have Q1:=Lib.hid (hc 1 _ rfl)
   have Q2:=Lib.hid (hc 2 _ rfl)
   have Q3:=Lib.hid (hc 3 _ rfl)
   unfold maxLen at m1 m2
   rw [ll1] at Q2 n1
   rw [ll2] at Q3 n2
   clear hc ll1 ll2
   have i0:(0:Int)≤i:=by omega
   have i1:(i:Int)<n:=by omega
   have mono_x_cond:=ZMt (kk+1+1) x.cond
   have mono_x_thn:=ZMf (ZLo (kk+1+1) x.cond) x.thn
   have q0:wr.cell? ⟨b,off+i * 4,none⟩=some (.string (mTx (kk))):=(HB.out.cell (p:=⟨b,off+(i * 4+0),none⟩) hbl).trans Q0.out
   have q1:wr.cell? ⟨b,off+i * 4+1,none⟩=some (.int .i64 (kk+1)):=(HB.out.cell (p:=⟨b,off+(i * 4+1),none⟩) hbl).trans Q1.out
   have q2:wr.cell? ⟨b,off+i * 4+2,none⟩=some (.slice A1 x.cond.length c1):=(HB.out.cell (p:=⟨b,off+(i * 4+2),none⟩) hbl).trans Q2.out
   have q3:wr.cell? ⟨b,off+i * 4+3,none⟩=some (.slice A2 x.thn.length c2):=(HB.out.cell (p:=⟨b,off+(i * 4+3),none⟩) hbl).trans Q3.out
   have hbr:b<wr.heap.size:=AB hbl HB.out.size
   go_wp2_with fail
   go_region_held3 (fun w'=>w'.cell? ⟨b,off+i * 4,none⟩=some (.string (mTx (kk)))) (first | go_keep | exact (hb1.cell (p:=⟨b,off+i * 4,none⟩) hbr).trans q0) (first | (go_at_call 71;refine (ZLf _ _ (by omega) (by omega)).mono ?_;rintro e w1 ⟨rfl,hb1⟩))
   have HB:=Lib.hid (HB.out.trans (ZLm hb1 HB.out.size))
   clear hb1
   clear q0 q1 q2 q3
   have q0:w1.cell? ⟨b,off+i * 4,none⟩=some (.string (mTx (kk))):=(HB.out.cell (p:=⟨b,off+(i * 4+0),none⟩) hbl).trans Q0.out
   have q1:w1.cell? ⟨b,off+i * 4+1,none⟩=some (.int .i64 (kk+1)):=(HB.out.cell (p:=⟨b,off+(i * 4+1),none⟩) hbl).trans Q1.out
   have q2:w1.cell? ⟨b,off+i * 4+2,none⟩=some (.slice A1 x.cond.length c1):=(HB.out.cell (p:=⟨b,off+(i * 4+2),none⟩) hbl).trans Q2.out
   have q3:w1.cell? ⟨b,off+i * 4+3,none⟩=some (.slice A2 x.thn.length c2):=(HB.out.cell (p:=⟨b,off+(i * 4+3),none⟩) hbl).trans Q3.out
   replace hbr:b<w1.heap.size:=AB hbl HB.out.size
   go_wp2_with fail
   refine (ZOR A1 _ c1 x.cond L1 _ _ rfl (by omega) (by omega) (by omega) (S1.out.keep (Qu HB.out lL1.out))).mono ?_
   rintro e w2 ⟨rfl,hb2⟩
   have HB:=Lib.hid (HB.out.trans (hb2.mono HB.out.size))
   clear hb2
   clear q0 q1 q2 q3
   have q0:w2.cell? ⟨b,off+i * 4,none⟩=some (.string (mTx (kk))):=(HB.out.cell (p:=⟨b,off+(i * 4+0),none⟩) hbl).trans Q0.out
   have q1:w2.cell? ⟨b,off+i * 4+1,none⟩=some (.int .i64 (kk+1)):=(HB.out.cell (p:=⟨b,off+(i * 4+1),none⟩) hbl).trans Q1.out
   have q2:w2.cell? ⟨b,off+i * 4+2,none⟩=some (.slice A1 x.cond.length c1):=(HB.out.cell (p:=⟨b,off+(i * 4+2),none⟩) hbl).trans Q2.out
   have q3:w2.cell? ⟨b,off+i * 4+3,none⟩=some (.slice A2 x.thn.length c2):=(HB.out.cell (p:=⟨b,off+(i * 4+3),none⟩) hbl).trans Q3.out
   replace hbr:b<w2.heap.size:=AB hbl HB.out.size
   have ge2:¬(ZLo (kk+1+1) x.cond<0):=by omega
   go_wp2_with fail
   refine (ZOg A2 _ c2 x.thn L2 _ _ rfl (by omega) (by omega) (by omega) (S2.out.keep (Qu HB.out lL2.out))).mono ?_
   rintro e w3 ⟨rfl,hb3⟩
   have HB:=Lib.hid (HB.out.trans (hb3.mono HB.out.size))
   clear hb3
   clear q0 q1 q2 q3
   have q0:w3.cell? ⟨b,off+i * 4,none⟩=some (.string (mTx (kk))):=(HB.out.cell (p:=⟨b,off+(i * 4+0),none⟩) hbl).trans Q0.out
   have q1:w3.cell? ⟨b,off+i * 4+1,none⟩=some (.int .i64 (kk+1)):=(HB.out.cell (p:=⟨b,off+(i * 4+1),none⟩) hbl).trans Q1.out
   have q2:w3.cell? ⟨b,off+i * 4+2,none⟩=some (.slice A1 x.cond.length c1):=(HB.out.cell (p:=⟨b,off+(i * 4+2),none⟩) hbl).trans Q2.out
   have q3:w3.cell? ⟨b,off+i * 4+3,none⟩=some (.slice A2 x.thn.length c2):=(HB.out.cell (p:=⟨b,off+(i * 4+3),none⟩) hbl).trans Q3.out
   replace hbr:b<w3.heap.size:=AB hbl HB.out.size
   have ge3:¬(ZLn (ZLo (kk+1+1) x.cond) x.thn<0):=by omega
   go_wp2_with fail
   go_roundw
   case rel=>exact ⟨i+1,ZLP kk x,by omega,by go_num,rfl,by unfold ZLP;omega,HDn,HB⟩
   case measure=>simp [intOf];omega
  ·obtain rfl:i=n:=by omega
   have hf:Hid (ZLc k ds=kk):=by
    obtain ⟨h1,_⟩:=HD.out
    rw [Hid,←h1,AE (by have:=HN.out;omega)];rfl
   go_wp2
   go_ret
   exact ⟨ZL2 hf.out.symm,HB.out⟩
set_option maxRecDepth 100000 in
set_option maxHeartbeats 4000000 in
theorem ZOD (A:Option Addr) (n c:Nat) (ds:List Zw) (L:List Nat) (k:Int) (w:World) (hn:n=ds.length) (hm:n≤9223372036854775807) (hk0:1≤k) (hk1:ZLr k ds≤4611686018427387904) (h:Sli ZlR w A (ZLU k ds) L):
  Calls prog 79 #[.slice A n c,.int .i64 k] w fun e w'=>e=.returned (.int .i64 (ZLr k ds))∧Below w.heap.size w w':=by
 have H:=Lib.hid h
 have HN:=Lib.hid hn
 have HK:=Lib.hid hk1
 clear h hn hk1
 go_enter func79,ntmps79
 go_wp2
 go_loopw [1,5] (fun q j wr=>∃(i:Nat) (kk:Int),i≤n∧j=.int .i64 i∧q=.int .i64 kk∧1≤kk∧Hid (ZLr kk (ds.drop i)=ZLr k ds∧(ZLU k ds).drop i=ZLU kk (ds.drop i))∧Hid (Below w.heap.size w wr)) (fun _ j _=>n - (intOf j).toNat)
 case atStart=>exact ⟨0,k,AD _,rfl,rfl,hk0,⟨rfl,rfl⟩,Below.refl _ _⟩
 case round=>
  obtain ⟨i,kk,hi,rfl,rfl,h1,HD,HB⟩:=hrel
  by_cases hlt:i<n
  ·have hil:i<ds.length:=by have:=HN.out;omega
   obtain ⟨hkk,hdr⟩:=HD.out
   have hml:i<(ZLU k ds).length:=by rw [ZMW];exact hil
   obtain ⟨b,off,cs,Lk,rfl,hbL,hLk,hrep,hc⟩:=H.out.at_ hml
   rw [AA hml,AA hil,ZLU] at hdr
   injection hdr with e1 e2
   rw [e1] at hrep
   clear e1
   have hnext:ds.drop i=ds[i]::ds.drop (i+1):=AA _
   rw [hnext] at hkk
   clear hnext
   generalize ds[i]=x at hrep hkk e2
   have hnb:Hid (ZLA kk x≤4611686018427387904):=by
    have:=ZMo (ZLA kk x) (ds.drop (i+1))
    have hk:=HK.out
    rw [←hkk] at hk
    exact AF this hk
   have hnb1:=hnb.out
   have hnb2:=ZM1 kk x
   unfold ZLA at hnb1 hnb2
   have HDn:Hid (ZLr (ZLA kk x) (ds.drop (i+1))=ZLr k ds∧(ZLU k ds).drop (i+1)=ZLU (ZLA kk x) (ds.drop (i+1))):=⟨hkk,e2⟩
   have hbl:b<w.heap.size:=H.out.lt b hbL
   clear hkk e2
   obtain ⟨A1,c1,L1,A2,c2,L2,rfl,hLL,n1,m1,s1,n2,m2,s2⟩:=hrep
   have S1:=Lib.hid s1
   have lL1:Hid (∀y∈L1,y<w.heap.size):=fun y m=>H.out.lt y (hLk y (by rw [hLL];simp [m]))
   have ll1:(ZMD kk x).facts.length=x.facts.length:=ZMd _ _
   clear s1
   have S2:=Lib.hid s2
   have lL2:Hid (∀y∈L2,y<w.heap.size):=fun y m=>H.out.lt y (hLk y (by rw [hLL];simp [m]))
   have ll2:(ZMD kk x).binding.length=x.binding.length:=ZM9 _ _
   clear s2
   have Q0:=Lib.hid (hc 0 _ rfl)
   have Q1:=Lib.hid (hc 1 _ rfl)
   unfold maxLen at m1 m2
   rw [ll1] at Q0 n1
   rw [ll2] at Q1 n2
   clear hc ll1 ll2
   have i0:(0:Int)≤i:=by omega
   have i1:(i:Int)<n:=by omega
   have mono_x_facts:=ZLT (kk) x.facts
   have mono_x_binding:=ZMr (ZLl (kk) x.facts) x.binding
   have q0:wr.cell? ⟨b,off+i * 2,none⟩=some (.slice A1 x.facts.length c1):=(HB.out.cell (p:=⟨b,off+(i * 2+0),none⟩) hbl).trans Q0.out
   have q1:wr.cell? ⟨b,off+i * 2+1,none⟩=some (.slice A2 x.binding.length c2):=(HB.out.cell (p:=⟨b,off+(i * 2+1),none⟩) hbl).trans Q1.out
   have hbr:b<wr.heap.size:=AB hbl HB.out.size
   go_wp2_with fail
   refine (ZMQ A1 _ c1 x.facts L1 _ _ rfl (by omega) (by omega) (by omega) (S1.out.keep (Qu HB.out lL1.out))).mono ?_
   rintro e w1 ⟨rfl,hb1⟩
   have HB:=Lib.hid (HB.out.trans (hb1.mono HB.out.size))
   clear hb1
   clear q0 q1
   have q0:w1.cell? ⟨b,off+i * 2,none⟩=some (.slice A1 x.facts.length c1):=(HB.out.cell (p:=⟨b,off+(i * 2+0),none⟩) hbl).trans Q0.out
   have q1:w1.cell? ⟨b,off+i * 2+1,none⟩=some (.slice A2 x.binding.length c2):=(HB.out.cell (p:=⟨b,off+(i * 2+1),none⟩) hbl).trans Q1.out
   replace hbr:b<w1.heap.size:=AB hbl HB.out.size
   have ge1:¬(ZLl (kk) x.facts<0):=by omega
   go_wp2_with fail
   refine (ZOL A2 _ c2 x.binding L2 _ _ rfl (by omega) (by omega) (by omega) (S2.out.keep (Qu HB.out lL2.out))).mono ?_
   rintro e w2 ⟨rfl,hb2⟩
   have HB:=Lib.hid (HB.out.trans (hb2.mono HB.out.size))
   clear hb2
   clear q0 q1
   have q0:w2.cell? ⟨b,off+i * 2,none⟩=some (.slice A1 x.facts.length c1):=(HB.out.cell (p:=⟨b,off+(i * 2+0),none⟩) hbl).trans Q0.out
   have q1:w2.cell? ⟨b,off+i * 2+1,none⟩=some (.slice A2 x.binding.length c2):=(HB.out.cell (p:=⟨b,off+(i * 2+1),none⟩) hbl).trans Q1.out
   replace hbr:b<w2.heap.size:=AB hbl HB.out.size
   have ge2:¬(ZLE (ZLl (kk) x.facts) x.binding<0):=by omega
   go_wp2_with fail
   go_roundw
   case rel=>exact ⟨i+1,ZLA kk x,by omega,by go_num,rfl,by unfold ZLA;omega,HDn,HB⟩
   case measure=>simp [intOf];omega
  ·obtain rfl:i=n:=by omega
   have hf:Hid (ZLr k ds=kk):=by
    obtain ⟨h1,_⟩:=HD.out
    rw [Hid,←h1,AE (by have:=HN.out;omega)];rfl
   go_wp2
   go_ret
   exact ⟨ZL2 hf.out.symm,HB.out⟩
set_option maxRecDepth 100000 in
set_option maxHeartbeats 4000000 in
theorem ZOB (A:Option Addr) (n c:Nat) (ds:List ZL4) (L:List Nat) (k:Int) (w:World) (hn:n=ds.length) (hm:n≤9223372036854775807) (hk0:1≤k) (hk1:ZLe k ds≤4611686018427387904) (h:Sli ZL7 w A (ZLI k ds) L):
  Calls prog 47 #[.slice A n c,.int .i64 k] w fun e w'=>e=.returned (.int .i64 (ZLe k ds))∧Below w.heap.size w w':=by
 have H:=Lib.hid h
 have HN:=Lib.hid hn
 have HK:=Lib.hid hk1
 clear h hn hk1
 go_enter func47,ntmps47
 go_wp2
 go_loopw [1,5] (fun q j wr=>∃(i:Nat) (kk:Int),i≤n∧j=.int .i64 i∧q=.int .i64 kk∧1≤kk∧Hid (ZLe kk (ds.drop i)=ZLe k ds∧(ZLI k ds).drop i=ZLI kk (ds.drop i))∧Hid (Below w.heap.size w wr)) (fun _ j _=>n - (intOf j).toNat)
 case atStart=>exact ⟨0,k,AD _,rfl,rfl,hk0,⟨rfl,rfl⟩,Below.refl _ _⟩
 case round=>
  obtain ⟨i,kk,hi,rfl,rfl,h1,HD,HB⟩:=hrel
  by_cases hlt:i<n
  ·have hil:i<ds.length:=by have:=HN.out;omega
   obtain ⟨hkk,hdr⟩:=HD.out
   have hml:i<(ZLI k ds).length:=by rw [ZME];exact hil
   obtain ⟨b,off,cs,Lk,rfl,hbL,hLk,hrep,hc⟩:=H.out.at_ hml
   rw [AA hml,AA hil,ZLI] at hdr
   injection hdr with e1 e2
   rw [e1] at hrep
   clear e1
   have hnext:ds.drop i=ds[i]::ds.drop (i+1):=AA _
   rw [hnext] at hkk
   clear hnext
   generalize ds[i]=x at hrep hkk e2
   have hnb:Hid (ZLz kk x≤4611686018427387904):=by
    have:=ZMm (ZLz kk x) (ds.drop (i+1))
    have hk:=HK.out
    rw [←hkk] at hk
    exact AF this hk
   have hnb1:=hnb.out
   have hnb2:=ZM0 kk x
   unfold ZLz at hnb1 hnb2
   have HDn:Hid (ZLe (ZLz kk x) (ds.drop (i+1))=ZLe k ds∧(ZLI k ds).drop (i+1)=ZLI (ZLz kk x) (ds.drop (i+1))):=⟨hkk,e2⟩
   have hbl:b<w.heap.size:=H.out.lt b hbL
   clear hkk e2
   obtain ⟨A1,c1,L1,A2,c2,L2,rfl,hLL,t0,n1,m1,s1,n2,m2,s2⟩:=hrep
   have S1:=Lib.hid s1
   have lL1:Hid (∀y∈L1,y<w.heap.size):=fun y m=>H.out.lt y (hLk y (by rw [hLL];simp [m]))
   have ll1:(ZMF kk x).shape.args.length=x.shape.args.length:=ZLt _ _
   clear s1
   have S2:=Lib.hid s2
   have lL2:Hid (∀y∈L2,y<w.heap.size):=fun y m=>H.out.lt y (hLk y (by rw [hLL];simp [m]))
   have ll2:(ZMF kk x).facts.length=x.facts.length:=ZMd _ _
   clear s2
   have Q0:=Lib.hid (hc 0 _ rfl)
   have Q1:=Lib.hid (hc 1 _ rfl)
   have Q2:=Lib.hid (hc 2 _ rfl)
   unfold maxLen at m1 m2
   rw [ll1] at Q1 n1
   rw [ll2] at Q2 n2
   clear hc ll1 ll2
   have i0:(0:Int)≤i:=by omega
   have i1:(i:Int)<n:=by omega
   have mono_x_shape_args:=ZLj (kk+1) x.shape.args
   have mono_x_facts:=ZLT (Qs (kk+1) x.shape.args) x.facts
   have q0:wr.cell? ⟨b,off+i * 3,none⟩=some (.string (mTx (kk))):=(HB.out.cell (p:=⟨b,off+(i * 3+0),none⟩) hbl).trans Q0.out
   have q1:wr.cell? ⟨b,off+i * 3+1,none⟩=some (.slice A1 x.shape.args.length c1):=(HB.out.cell (p:=⟨b,off+(i * 3+1),none⟩) hbl).trans Q1.out
   have q2:wr.cell? ⟨b,off+i * 3+2,none⟩=some (.slice A2 x.facts.length c2):=(HB.out.cell (p:=⟨b,off+(i * 3+2),none⟩) hbl).trans Q2.out
   have hbr:b<wr.heap.size:=AB hbl HB.out.size
   go_wp2_with fail
   go_region_held3 (fun w'=>w'.cell? ⟨b,off+i * 3,none⟩=some (.string (mTx (kk)))) (first | go_keep | exact (hb1.cell (p:=⟨b,off+i * 3,none⟩) hbr).trans q0) (first | (go_at_call 71;refine (ZLf _ _ (by omega) (by omega)).mono ?_;rintro e w1 ⟨rfl,hb1⟩))
   have HB:=Lib.hid (HB.out.trans (ZLm hb1 HB.out.size))
   clear hb1
   clear q0 q1 q2
   have q0:w1.cell? ⟨b,off+i * 3,none⟩=some (.string (mTx (kk))):=(HB.out.cell (p:=⟨b,off+(i * 3+0),none⟩) hbl).trans Q0.out
   have q1:w1.cell? ⟨b,off+i * 3+1,none⟩=some (.slice A1 x.shape.args.length c1):=(HB.out.cell (p:=⟨b,off+(i * 3+1),none⟩) hbl).trans Q1.out
   have q2:w1.cell? ⟨b,off+i * 3+2,none⟩=some (.slice A2 x.facts.length c2):=(HB.out.cell (p:=⟨b,off+(i * 3+2),none⟩) hbl).trans Q2.out
   replace hbr:b<w1.heap.size:=AB hbl HB.out.size
   go_wp2_with fail
   refine (ZLZ A1 _ c1 x.shape.args L1 _ _ rfl (by omega) (by omega) (S1.out.keep (Qu HB.out lL1.out))).mono ?_
   rintro e w2 ⟨rfl,hb2⟩
   have HB:=Lib.hid (HB.out.trans (hb2.mono HB.out.size))
   clear hb2
   clear q0 q1 q2
   have q0:w2.cell? ⟨b,off+i * 3,none⟩=some (.string (mTx (kk))):=(HB.out.cell (p:=⟨b,off+(i * 3+0),none⟩) hbl).trans Q0.out
   have q1:w2.cell? ⟨b,off+i * 3+1,none⟩=some (.slice A1 x.shape.args.length c1):=(HB.out.cell (p:=⟨b,off+(i * 3+1),none⟩) hbl).trans Q1.out
   have q2:w2.cell? ⟨b,off+i * 3+2,none⟩=some (.slice A2 x.facts.length c2):=(HB.out.cell (p:=⟨b,off+(i * 3+2),none⟩) hbl).trans Q2.out
   replace hbr:b<w2.heap.size:=AB hbl HB.out.size
   have ge2:¬(Qs (kk+1) x.shape.args<0):=by omega
   go_wp2_with fail
   refine (ZMQ A2 _ c2 x.facts L2 _ _ rfl (by omega) (by omega) (by omega) (S2.out.keep (Qu HB.out lL2.out))).mono ?_
   rintro e w3 ⟨rfl,hb3⟩
   have HB:=Lib.hid (HB.out.trans (hb3.mono HB.out.size))
   clear hb3
   clear q0 q1 q2
   have q0:w3.cell? ⟨b,off+i * 3,none⟩=some (.string (mTx (kk))):=(HB.out.cell (p:=⟨b,off+(i * 3+0),none⟩) hbl).trans Q0.out
   have q1:w3.cell? ⟨b,off+i * 3+1,none⟩=some (.slice A1 x.shape.args.length c1):=(HB.out.cell (p:=⟨b,off+(i * 3+1),none⟩) hbl).trans Q1.out
   have q2:w3.cell? ⟨b,off+i * 3+2,none⟩=some (.slice A2 x.facts.length c2):=(HB.out.cell (p:=⟨b,off+(i * 3+2),none⟩) hbl).trans Q2.out
   replace hbr:b<w3.heap.size:=AB hbl HB.out.size
   have ge3:¬(ZLl (Qs (kk+1) x.shape.args) x.facts<0):=by omega
   go_wp2_with fail
   go_roundw
   case rel=>exact ⟨i+1,ZLz kk x,by omega,by go_num,rfl,by unfold ZLz;omega,HDn,HB⟩
   case measure=>simp [intOf];omega
  ·obtain rfl:i=n:=by omega
   have hf:Hid (ZLe k ds=kk):=by
    obtain ⟨h1,_⟩:=HD.out
    rw [Hid,←h1,AE (by have:=HN.out;omega)];rfl
   go_wp2
   go_ret
   exact ⟨ZL2 hf.out.symm,HB.out⟩
set_option maxRecDepth 100000 in
set_option maxHeartbeats 4000000 in
theorem ZOK (A:Option Addr) (n c:Nat) (ds:List ZMe) (L:List Nat) (k:Int) (w:World) (hn:n=ds.length) (hm:n≤9223372036854775807) (hk0:1≤k) (hk1:ZLk k ds≤4611686018427387904) (h:Sli ZMg w A (ZLR k ds) L):
  Calls prog 48 #[.slice A n c,.int .i64 k] w fun e w'=>e=.returned (.int .i64 (ZLk k ds))∧Below w.heap.size w w':=by
 have H:=Lib.hid h
 have HN:=Lib.hid hn
 have HK:=Lib.hid hk1
 clear h hn hk1
 go_enter func48,ntmps48
 go_wp2
 go_loopw [1,5] (fun q j wr=>∃(i:Nat) (kk:Int),i≤n∧j=.int .i64 i∧q=.int .i64 kk∧1≤kk∧Hid (ZLk kk (ds.drop i)=ZLk k ds∧(ZLR k ds).drop i=ZLR kk (ds.drop i))∧Hid (Below w.heap.size w wr)) (fun _ j _=>n - (intOf j).toNat)
 case atStart=>exact ⟨0,k,AD _,rfl,rfl,hk0,⟨rfl,rfl⟩,Below.refl _ _⟩
 case round=>
  obtain ⟨i,kk,hi,rfl,rfl,h1,HD,HB⟩:=hrel
  by_cases hlt:i<n
  ·have hil:i<ds.length:=by have:=HN.out;omega
   obtain ⟨hkk,hdr⟩:=HD.out
   have hml:i<(ZLR k ds).length:=by rw [ZMH];exact hil
   obtain ⟨b,off,cs,Lk,rfl,hbL,hLk,hrep,hc⟩:=H.out.at_ hml
   rw [AA hml,AA hil,ZLR] at hdr
   injection hdr with e1 e2
   rw [e1] at hrep
   clear e1
   have hnext:ds.drop i=ds[i]::ds.drop (i+1):=AA _
   rw [hnext] at hkk
   clear hnext
   generalize ds[i]=x at hrep hkk e2
   have hnb:Hid (ZLM kk x≤4611686018427387904):=by
    have:=ZMs (ZLM kk x) (ds.drop (i+1))
    have hk:=HK.out
    rw [←hkk] at hk
    exact AF this hk
   have hnb1:=hnb.out
   have hnb2:=ZNi kk x
   unfold ZLM at hnb1 hnb2
   have HDn:Hid (ZLk (ZLM kk x) (ds.drop (i+1))=ZLk k ds∧(ZLR k ds).drop (i+1)=ZLR (ZLM kk x) (ds.drop (i+1))):=⟨hkk,e2⟩
   have hbl:b<w.heap.size:=H.out.lt b hbL
   clear hkk e2
   obtain ⟨A1,c1,L1,A2,c2,L2,rfl,hLL,t0,t1,t2,n1,m1,s1,n2,m2,s2⟩:=hrep
   have S1:=Lib.hid s1
   have lL1:Hid (∀y∈L1,y<w.heap.size):=fun y m=>H.out.lt y (hLk y (by rw [hLL];simp [m]))
   have ll1:(ZMZ kk x).cond.pattern.args.length=x.cond.pattern.args.length:=ZLt _ _
   clear s1
   have S2:=Lib.hid s2
   have lL2:Hid (∀y∈L2,y<w.heap.size):=fun y m=>H.out.lt y (hLk y (by rw [hLL];simp [m]))
   have ll2:(ZMZ kk x).tokens.length=x.tokens.length:=ZMW _ _
   clear s2
   have Q0:=Lib.hid (hc 0 _ rfl)
   have Q1:=Lib.hid (hc 1 _ rfl)
   have Q2:=Lib.hid (hc 2 _ rfl)
   have Q3:=Lib.hid (hc 3 _ rfl)
   have Q4:=Lib.hid (hc 4 _ rfl)
   have Q5:=Lib.hid (hc 5 _ rfl)
   have Q6:=Lib.hid (hc 6 _ rfl)
   have Q7:=Lib.hid (hc 7 _ rfl)
   unfold maxLen at m1 m2
   rw [ll1] at Q3 n1
   rw [ll2] at Q7 n2
   clear hc ll1 ll2
   have i0:(0:Int)≤i:=by omega
   have i1:(i:Int)<n:=by omega
   have mono_x_cond_pattern_args:=ZLj (kk+1+1+1) x.cond.pattern.args
   have mono_x_tokens:=ZMo (Qs (kk+1+1+1) x.cond.pattern.args+1+1+1) x.tokens
   have q0:wr.cell? ⟨b,off+i * 8,none⟩=some (.int .i64 (kk)):=(HB.out.cell (p:=⟨b,off+(i * 8+0),none⟩) hbl).trans Q0.out
   have q1:wr.cell? ⟨b,off+i * 8+1,none⟩=some (.int .i64 (kk+1)):=(HB.out.cell (p:=⟨b,off+(i * 8+1),none⟩) hbl).trans Q1.out
   have q2:wr.cell? ⟨b,off+i * 8+2,none⟩=some (.string (mTx (kk+1+1))):=(HB.out.cell (p:=⟨b,off+(i * 8+2),none⟩) hbl).trans Q2.out
   have q3:wr.cell? ⟨b,off+i * 8+3,none⟩=some (.slice A1 x.cond.pattern.args.length c1):=(HB.out.cell (p:=⟨b,off+(i * 8+3),none⟩) hbl).trans Q3.out
   have q4:wr.cell? ⟨b,off+i * 8+4,none⟩=some (.string (mTx (Qs (kk+1+1+1) x.cond.pattern.args))):=(HB.out.cell (p:=⟨b,off+(i * 8+4),none⟩) hbl).trans Q4.out
   have q5:wr.cell? ⟨b,off+i * 8+5,none⟩=some (.string (mTx (Qs (kk+1+1+1) x.cond.pattern.args+1))):=(HB.out.cell (p:=⟨b,off+(i * 8+5),none⟩) hbl).trans Q5.out
   have q6:wr.cell? ⟨b,off+i * 8+6,none⟩=some (.int .i64 (Qs (kk+1+1+1) x.cond.pattern.args+1+1)):=(HB.out.cell (p:=⟨b,off+(i * 8+6),none⟩) hbl).trans Q6.out
   have q7:wr.cell? ⟨b,off+i * 8+7,none⟩=some (.slice A2 x.tokens.length c2):=(HB.out.cell (p:=⟨b,off+(i * 8+7),none⟩) hbl).trans Q7.out
   have hbr:b<wr.heap.size:=AB hbl HB.out.size
   go_wp2_with fail
   go_region_held3 (fun w'=>w'.cell? ⟨b,off+i * 8+2,none⟩=some (.string (mTx (kk+1+1)))) (first | go_keep | exact (hb1.cell (p:=⟨b,off+i * 8+2,none⟩) hbr).trans q2) (first | (go_at_call 71;refine (ZLf _ _ (by omega) (by omega)).mono ?_;rintro e w1 ⟨rfl,hb1⟩))
   have HB:=Lib.hid (HB.out.trans (ZLm hb1 HB.out.size))
   clear hb1
   clear q0 q1 q2 q3 q4 q5 q6 q7
   have q0:w1.cell? ⟨b,off+i * 8,none⟩=some (.int .i64 (kk)):=(HB.out.cell (p:=⟨b,off+(i * 8+0),none⟩) hbl).trans Q0.out
   have q1:w1.cell? ⟨b,off+i * 8+1,none⟩=some (.int .i64 (kk+1)):=(HB.out.cell (p:=⟨b,off+(i * 8+1),none⟩) hbl).trans Q1.out
   have q2:w1.cell? ⟨b,off+i * 8+2,none⟩=some (.string (mTx (kk+1+1))):=(HB.out.cell (p:=⟨b,off+(i * 8+2),none⟩) hbl).trans Q2.out
   have q3:w1.cell? ⟨b,off+i * 8+3,none⟩=some (.slice A1 x.cond.pattern.args.length c1):=(HB.out.cell (p:=⟨b,off+(i * 8+3),none⟩) hbl).trans Q3.out
   have q4:w1.cell? ⟨b,off+i * 8+4,none⟩=some (.string (mTx (Qs (kk+1+1+1) x.cond.pattern.args))):=(HB.out.cell (p:=⟨b,off+(i * 8+4),none⟩) hbl).trans Q4.out
   have q5:w1.cell? ⟨b,off+i * 8+5,none⟩=some (.string (mTx (Qs (kk+1+1+1) x.cond.pattern.args+1))):=(HB.out.cell (p:=⟨b,off+(i * 8+5),none⟩) hbl).trans Q5.out
   have q6:w1.cell? ⟨b,off+i * 8+6,none⟩=some (.int .i64 (Qs (kk+1+1+1) x.cond.pattern.args+1+1)):=(HB.out.cell (p:=⟨b,off+(i * 8+6),none⟩) hbl).trans Q6.out
   have q7:w1.cell? ⟨b,off+i * 8+7,none⟩=some (.slice A2 x.tokens.length c2):=(HB.out.cell (p:=⟨b,off+(i * 8+7),none⟩) hbl).trans Q7.out
   replace hbr:b<w1.heap.size:=AB hbl HB.out.size
   go_wp2_with fail
   refine (ZLZ A1 _ c1 x.cond.pattern.args L1 _ _ rfl (by omega) (by omega) (S1.out.keep (Qu HB.out lL1.out))).mono ?_
   rintro e w2 ⟨rfl,hb2⟩
   have HB:=Lib.hid (HB.out.trans (hb2.mono HB.out.size))
   clear hb2
   clear q0 q1 q2 q3 q4 q5 q6 q7
   have q0:w2.cell? ⟨b,off+i * 8,none⟩=some (.int .i64 (kk)):=(HB.out.cell (p:=⟨b,off+(i * 8+0),none⟩) hbl).trans Q0.out
   have q1:w2.cell? ⟨b,off+i * 8+1,none⟩=some (.int .i64 (kk+1)):=(HB.out.cell (p:=⟨b,off+(i * 8+1),none⟩) hbl).trans Q1.out
   have q2:w2.cell? ⟨b,off+i * 8+2,none⟩=some (.string (mTx (kk+1+1))):=(HB.out.cell (p:=⟨b,off+(i * 8+2),none⟩) hbl).trans Q2.out
   have q3:w2.cell? ⟨b,off+i * 8+3,none⟩=some (.slice A1 x.cond.pattern.args.length c1):=(HB.out.cell (p:=⟨b,off+(i * 8+3),none⟩) hbl).trans Q3.out
   have q4:w2.cell? ⟨b,off+i * 8+4,none⟩=some (.string (mTx (Qs (kk+1+1+1) x.cond.pattern.args))):=(HB.out.cell (p:=⟨b,off+(i * 8+4),none⟩) hbl).trans Q4.out
   have q5:w2.cell? ⟨b,off+i * 8+5,none⟩=some (.string (mTx (Qs (kk+1+1+1) x.cond.pattern.args+1))):=(HB.out.cell (p:=⟨b,off+(i * 8+5),none⟩) hbl).trans Q5.out
   have q6:w2.cell? ⟨b,off+i * 8+6,none⟩=some (.int .i64 (Qs (kk+1+1+1) x.cond.pattern.args+1+1)):=(HB.out.cell (p:=⟨b,off+(i * 8+6),none⟩) hbl).trans Q6.out
   have q7:w2.cell? ⟨b,off+i * 8+7,none⟩=some (.slice A2 x.tokens.length c2):=(HB.out.cell (p:=⟨b,off+(i * 8+7),none⟩) hbl).trans Q7.out
   replace hbr:b<w2.heap.size:=AB hbl HB.out.size
   have ge2:¬(Qs (kk+1+1+1) x.cond.pattern.args<0):=by omega
   go_wp2_with fail
   go_region_held3 (fun w'=>w'.cell? ⟨b,off+i * 8+4,none⟩=some (.string (mTx (Qs (kk+1+1+1) x.cond.pattern.args)))) (first | go_keep | exact (hb3.cell (p:=⟨b,off+i * 8+4,none⟩) hbr).trans q4) (first | (go_at_call 71;refine (ZLf _ _ (by omega) (by omega)).mono ?_;rintro e w3 ⟨rfl,hb3⟩))
   have HB:=Lib.hid (HB.out.trans (ZLm hb3 HB.out.size))
   clear hb3
   clear q0 q1 q2 q3 q4 q5 q6 q7
   have q0:w3.cell? ⟨b,off+i * 8,none⟩=some (.int .i64 (kk)):=(HB.out.cell (p:=⟨b,off+(i * 8+0),none⟩) hbl).trans Q0.out
   have q1:w3.cell? ⟨b,off+i * 8+1,none⟩=some (.int .i64 (kk+1)):=(HB.out.cell (p:=⟨b,off+(i * 8+1),none⟩) hbl).trans Q1.out
   have q2:w3.cell? ⟨b,off+i * 8+2,none⟩=some (.string (mTx (kk+1+1))):=(HB.out.cell (p:=⟨b,off+(i * 8+2),none⟩) hbl).trans Q2.out
   have q3:w3.cell? ⟨b,off+i * 8+3,none⟩=some (.slice A1 x.cond.pattern.args.length c1):=(HB.out.cell (p:=⟨b,off+(i * 8+3),none⟩) hbl).trans Q3.out
   have q4:w3.cell? ⟨b,off+i * 8+4,none⟩=some (.string (mTx (Qs (kk+1+1+1) x.cond.pattern.args))):=(HB.out.cell (p:=⟨b,off+(i * 8+4),none⟩) hbl).trans Q4.out
   have q5:w3.cell? ⟨b,off+i * 8+5,none⟩=some (.string (mTx (Qs (kk+1+1+1) x.cond.pattern.args+1))):=(HB.out.cell (p:=⟨b,off+(i * 8+5),none⟩) hbl).trans Q5.out
   have q6:w3.cell? ⟨b,off+i * 8+6,none⟩=some (.int .i64 (Qs (kk+1+1+1) x.cond.pattern.args+1+1)):=(HB.out.cell (p:=⟨b,off+(i * 8+6),none⟩) hbl).trans Q6.out
   have q7:w3.cell? ⟨b,off+i * 8+7,none⟩=some (.slice A2 x.tokens.length c2):=(HB.out.cell (p:=⟨b,off+(i * 8+7),none⟩) hbl).trans Q7.out
   replace hbr:b<w3.heap.size:=AB hbl HB.out.size
   go_wp2_with fail
   go_region_held3 (fun w'=>w'.cell? ⟨b,off+i * 8+5,none⟩=some (.string (mTx (Qs (kk+1+1+1) x.cond.pattern.args+1)))) (first | go_keep | exact (hb4.cell (p:=⟨b,off+i * 8+5,none⟩) hbr).trans q5) (first | (go_at_call 71;refine (ZLf _ _ (by omega) (by omega)).mono ?_;rintro e w4 ⟨rfl,hb4⟩))
   have HB:=Lib.hid (HB.out.trans (ZLm hb4 HB.out.size))
   clear hb4
   clear q0 q1 q2 q3 q4 q5 q6 q7
   have q0:w4.cell? ⟨b,off+i * 8,none⟩=some (.int .i64 (kk)):=(HB.out.cell (p:=⟨b,off+(i * 8+0),none⟩) hbl).trans Q0.out
   have q1:w4.cell? ⟨b,off+i * 8+1,none⟩=some (.int .i64 (kk+1)):=(HB.out.cell (p:=⟨b,off+(i * 8+1),none⟩) hbl).trans Q1.out
   have q2:w4.cell? ⟨b,off+i * 8+2,none⟩=some (.string (mTx (kk+1+1))):=(HB.out.cell (p:=⟨b,off+(i * 8+2),none⟩) hbl).trans Q2.out
   have q3:w4.cell? ⟨b,off+i * 8+3,none⟩=some (.slice A1 x.cond.pattern.args.length c1):=(HB.out.cell (p:=⟨b,off+(i * 8+3),none⟩) hbl).trans Q3.out
   have q4:w4.cell? ⟨b,off+i * 8+4,none⟩=some (.string (mTx (Qs (kk+1+1+1) x.cond.pattern.args))):=(HB.out.cell (p:=⟨b,off+(i * 8+4),none⟩) hbl).trans Q4.out
   have q5:w4.cell? ⟨b,off+i * 8+5,none⟩=some (.string (mTx (Qs (kk+1+1+1) x.cond.pattern.args+1))):=(HB.out.cell (p:=⟨b,off+(i * 8+5),none⟩) hbl).trans Q5.out
   have q6:w4.cell? ⟨b,off+i * 8+6,none⟩=some (.int .i64 (Qs (kk+1+1+1) x.cond.pattern.args+1+1)):=(HB.out.cell (p:=⟨b,off+(i * 8+6),none⟩) hbl).trans Q6.out
   have q7:w4.cell? ⟨b,off+i * 8+7,none⟩=some (.slice A2 x.tokens.length c2):=(HB.out.cell (p:=⟨b,off+(i * 8+7),none⟩) hbl).trans Q7.out
   replace hbr:b<w4.heap.size:=AB hbl HB.out.size
   go_wp2_with fail
   refine (ZOD A2 _ c2 x.tokens L2 _ _ rfl (by omega) (by omega) (by omega) (S2.out.keep (Qu HB.out lL2.out))).mono ?_
   rintro e w5 ⟨rfl,hb5⟩
   have HB:=Lib.hid (HB.out.trans (hb5.mono HB.out.size))
   clear hb5
   clear q0 q1 q2 q3 q4 q5 q6 q7
   have q0:w5.cell? ⟨b,off+i * 8,none⟩=some (.int .i64 (kk)):=(HB.out.cell (p:=⟨b,off+(i * 8+0),none⟩) hbl).trans Q0.out
   have q1:w5.cell? ⟨b,off+i * 8+1,none⟩=some (.int .i64 (kk+1)):=(HB.out.cell (p:=⟨b,off+(i * 8+1),none⟩) hbl).trans Q1.out
   have q2:w5.cell? ⟨b,off+i * 8+2,none⟩=some (.string (mTx (kk+1+1))):=(HB.out.cell (p:=⟨b,off+(i * 8+2),none⟩) hbl).trans Q2.out
   have q3:w5.cell? ⟨b,off+i * 8+3,none⟩=some (.slice A1 x.cond.pattern.args.length c1):=(HB.out.cell (p:=⟨b,off+(i * 8+3),none⟩) hbl).trans Q3.out
   have q4:w5.cell? ⟨b,off+i * 8+4,none⟩=some (.string (mTx (Qs (kk+1+1+1) x.cond.pattern.args))):=(HB.out.cell (p:=⟨b,off+(i * 8+4),none⟩) hbl).trans Q4.out
   have q5:w5.cell? ⟨b,off+i * 8+5,none⟩=some (.string (mTx (Qs (kk+1+1+1) x.cond.pattern.args+1))):=(HB.out.cell (p:=⟨b,off+(i * 8+5),none⟩) hbl).trans Q5.out
   have q6:w5.cell? ⟨b,off+i * 8+6,none⟩=some (.int .i64 (Qs (kk+1+1+1) x.cond.pattern.args+1+1)):=(HB.out.cell (p:=⟨b,off+(i * 8+6),none⟩) hbl).trans Q6.out
   have q7:w5.cell? ⟨b,off+i * 8+7,none⟩=some (.slice A2 x.tokens.length c2):=(HB.out.cell (p:=⟨b,off+(i * 8+7),none⟩) hbl).trans Q7.out
   replace hbr:b<w5.heap.size:=AB hbl HB.out.size
   have ge5:¬(ZLr (Qs (kk+1+1+1) x.cond.pattern.args+1+1+1) x.tokens<0):=by omega
   go_wp2_with fail
   go_roundw
   case rel=>exact ⟨i+1,ZLM kk x,by omega,by go_num,rfl,by unfold ZLM;omega,HDn,HB⟩
   case measure=>simp [intOf];omega
  ·obtain rfl:i=n:=by omega
   have hf:Hid (ZLk k ds=kk):=by
    obtain ⟨h1,_⟩:=HD.out
    rw [Hid,←h1,AE (by have:=HN.out;omega)];rfl
   go_wp2
   go_ret
   exact ⟨ZL2 hf.out.symm,HB.out⟩
set_option maxHeartbeats 1600000 in
theorem ZOr (x:ZMb) (A1:Option Addr) (c1:Nat) (L1:List Nat) (A2:Option Addr) (c2:Nat) (L2:List Nat) (A3:Option Addr) (c3:Nat) (L3:List Nat) (A4:Option Addr) (c4:Nat) (L4:List Nat) (A5:Option Addr) (c5:Nat) (L5:List Nat) (k:Int) (w:World) (hk0:1≤k) (hk1:ZLQ k x≤4611686018427387904) (l1:x.rules.length≤9223372036854775807) (l2:x.ends.length≤9223372036854775807) (l3:x.alphas.length≤9223372036854775807) (l4:x.nodes.length≤9223372036854775807) (l5:x.facts.length≤9223372036854775807) (s1:Sli Zby w A1 (ZLy (k) x.rules) L1) (s2:Sli Zj7 w A2 (ZLY (ZLc (k) x.rules) x.ends) L2) (s3:Sli ZL7 w A3 (ZLI (ZLg (ZLc (k) x.rules) x.ends) x.alphas) L3) (s4:Sli ZMg w A4 (ZLR (ZLe (ZLg (ZLc (k) x.rules) x.ends) x.alphas) x.nodes) L4) (s5:Sli Yf w A5 (ZLK (ZLk (ZLe (ZLg (ZLc (k) x.rules) x.ends) x.alphas) x.nodes) x.facts) L5):
  Calls prog 18 #[.agg #[.slice A1 x.rules.length c1,.slice A2 x.ends.length c2,.slice A3 x.alphas.length c3,.slice A4 x.nodes.length c4,.slice A5 x.facts.length c5,.int .i64 x.tries],.int .i64 k] w fun e w'=>e=.returned (.int .i64 (ZLQ k x))∧Below w.heap.size w w':=by
 have B0:Hid (Below w.heap.size w (w.alloc (.cells #[.slice A1 x.rules.length c1,.slice A2 x.ends.length c2,.slice A3 x.alphas.length c3,.slice A4 x.nodes.length c4,.slice A5 x.facts.length c5,.int .i64 x.tries] 33))):=(Below.refl _ _).alloc (AM _) _
 have S1:=Lib.hid s1
 have S2:=Lib.hid s2
 have S3:=Lib.hid s3
 have S4:=Lib.hid s4
 have S5:=Lib.hid s5
 have K0:Hid (Blk (w.alloc (.cells #[.slice A1 x.rules.length c1,.slice A2 x.ends.length c2,.slice A3 x.alphas.length c3,.slice A4 x.nodes.length c4,.slice A5 x.facts.length c5,.int .i64 x.tries] 33)) w.heap.size 33 #[.slice A1 x.rules.length c1,.slice A2 x.ends.length c2,.slice A3 x.alphas.length c3,.slice A4 x.nodes.length c4,.slice A5 x.facts.length c5,.int .i64 x.tries]):=Blk.new _ _ _
 clear s1 s2 s3 s4 s5
 unfold ZLQ at hk1
 have:=ZMa (k) x.rules
 have:=ZMp (ZLc (k) x.rules) x.ends
 have:=ZMm (ZLg (ZLc (k) x.rules) x.ends) x.alphas
 have:=ZMs (ZLe (ZLg (ZLc (k) x.rules) x.ends) x.alphas) x.nodes
 have:=ZLT (ZLk (ZLe (ZLg (ZLc (k) x.rules) x.ends) x.alphas) x.nodes) x.facts
 go_enter func18,ntmps18
 go_wp2_with fail
 refine (ZNw A1 _ c1 x.rules L1 _ _ rfl (by omega) (by omega) (by omega) (S1.out.below B0.out)).mono ?_
 rintro e w1 ⟨rfl,hb1⟩
 have K1:=Lib.hid (K0.out.later hb1)
 have B1:=Lib.hid (B0.out.trans (hb1.mono B0.out.size))
 have f0:=K1.out.at (i:=0) rfl
 have f1:=K1.out.at (i:=1) rfl
 have f2:=K1.out.at (i:=2) rfl
 have f3:=K1.out.at (i:=3) rfl
 have f4:=K1.out.at (i:=4) rfl
 have f5:=K1.out.at (i:=5) rfl
 have ge1:¬(ZLc (k) x.rules<0):=by omega
 clear hb1
 go_wp2_with fail
 refine (ZNM A2 _ c2 x.ends L2 _ _ rfl (by omega) (by omega) (S2.out.below B1.out)).mono ?_
 rintro e w2 ⟨rfl,hb2⟩
 have K2:=Lib.hid (K1.out.later hb2)
 have B2:=Lib.hid (B1.out.trans (hb2.mono B1.out.size))
 clear f0 f1 f2 f3 f4 f5
 have f0:=K2.out.at (i:=0) rfl
 have f1:=K2.out.at (i:=1) rfl
 have f2:=K2.out.at (i:=2) rfl
 have f3:=K2.out.at (i:=3) rfl
 have f4:=K2.out.at (i:=4) rfl
 have f5:=K2.out.at (i:=5) rfl
 have ge2:¬(ZLg (ZLc (k) x.rules) x.ends<0):=by omega
 clear hb2
 go_wp2_with fail
 refine (ZOB A3 _ c3 x.alphas L3 _ _ rfl (by omega) (by omega) (by omega) (S3.out.below B2.out)).mono ?_
 rintro e w3 ⟨rfl,hb3⟩
 have K3:=Lib.hid (K2.out.later hb3)
 have B3:=Lib.hid (B2.out.trans (hb3.mono B2.out.size))
 clear f0 f1 f2 f3 f4 f5
 have f0:=K3.out.at (i:=0) rfl
 have f1:=K3.out.at (i:=1) rfl
 have f2:=K3.out.at (i:=2) rfl
 have f3:=K3.out.at (i:=3) rfl
 have f4:=K3.out.at (i:=4) rfl
 have f5:=K3.out.at (i:=5) rfl
 have ge3:¬(ZLe (ZLg (ZLc (k) x.rules) x.ends) x.alphas<0):=by omega
 clear hb3
 go_wp2_with fail
 refine (ZOK A4 _ c4 x.nodes L4 _ _ rfl (by omega) (by omega) (by omega) (S4.out.below B3.out)).mono ?_
 rintro e w4 ⟨rfl,hb4⟩
 have K4:=Lib.hid (K3.out.later hb4)
 have B4:=Lib.hid (B3.out.trans (hb4.mono B3.out.size))
 clear f0 f1 f2 f3 f4 f5
 have f0:=K4.out.at (i:=0) rfl
 have f1:=K4.out.at (i:=1) rfl
 have f2:=K4.out.at (i:=2) rfl
 have f3:=K4.out.at (i:=3) rfl
 have f4:=K4.out.at (i:=4) rfl
 have f5:=K4.out.at (i:=5) rfl
 have ge4:¬(ZLk (ZLe (ZLg (ZLc (k) x.rules) x.ends) x.alphas) x.nodes<0):=by omega
 clear hb4
 go_wp2_with fail
 refine (ZMQ A5 _ c5 x.facts L5 _ _ rfl (by omega) (by omega) (by omega) (S5.out.below B4.out)).mono ?_
 rintro e w5 ⟨rfl,hb5⟩
 have K5:=Lib.hid (K4.out.later hb5)
 have B5:=Lib.hid (B4.out.trans (hb5.mono B4.out.size))
 clear f0 f1 f2 f3 f4 f5
 have f0:=K5.out.at (i:=0) rfl
 have f1:=K5.out.at (i:=1) rfl
 have f2:=K5.out.at (i:=2) rfl
 have f3:=K5.out.at (i:=3) rfl
 have f4:=K5.out.at (i:=4) rfl
 have f5:=K5.out.at (i:=5) rfl
 have ge5:¬(ZLl (ZLk (ZLe (ZLg (ZLc (k) x.rules) x.ends) x.alphas) x.nodes) x.facts<0):=by omega
 clear hb5
 go_wp2_with fail
 go_ret
 exact ⟨ZL2 rfl,B5.out⟩
set_option maxRecDepth 100000 in
set_option maxHeartbeats 4000000 in
theorem ZOo (A:Option Addr) (n c:Nat) (ds:List ZL5) (L:List Nat) (k:Int) (w:World) (hn:n=ds.length) (hm:n≤9223372036854775807) (hk0:1≤k) (hk1:ZLd k ds≤4611686018427387904) (h:Sli ZL8 w A (ZLH k ds) L):
  Calls prog 43 #[.slice A n c,.int .i64 k] w fun e w'=>e=.returned (.int .i64 (ZLd k ds))∧Below w.heap.size w w':=by
 have H:=Lib.hid h
 have HN:=Lib.hid hn
 have HK:=Lib.hid hk1
 clear h hn hk1
 go_enter func43,ntmps43
 go_wp2
 go_loopw [1,5] (fun q j wr=>∃(i:Nat) (kk:Int),i≤n∧j=.int .i64 i∧q=.int .i64 kk∧1≤kk∧Hid (ZLd kk (ds.drop i)=ZLd k ds∧(ZLH k ds).drop i=ZLH kk (ds.drop i))∧Hid (Below w.heap.size w wr)) (fun _ j _=>n - (intOf j).toNat)
 case atStart=>exact ⟨0,k,AD _,rfl,rfl,hk0,⟨rfl,rfl⟩,Below.refl _ _⟩
 case round=>
  obtain ⟨i,kk,hi,rfl,rfl,h1,HD,HB⟩:=hrel
  by_cases hlt:i<n
  ·have hil:i<ds.length:=by have:=HN.out;omega
   obtain ⟨hkk,hdr⟩:=HD.out
   have hml:i<(ZLH k ds).length:=by rw [ZMB];exact hil
   obtain ⟨b,off,cs,Lk,rfl,hbL,hLk,hrep,hc⟩:=H.out.at_ hml
   rw [AA hml,AA hil,ZLH] at hdr
   injection hdr with e1 e2
   rw [e1] at hrep
   clear e1
   have hnext:ds.drop i=ds[i]::ds.drop (i+1):=AA _
   rw [hnext] at hkk
   clear hnext
   generalize ds[i]=x at hrep hkk e2
   have hnb:Hid (ZLB kk x≤4611686018427387904):=by
    have:=ZMl (ZLB kk x) (ds.drop (i+1))
    have hk:=HK.out
    rw [←hkk] at hk
    exact AF this hk
   have hnb1:=hnb.out
   have hnb2:=ZM3 kk x
   unfold ZLB at hnb1 hnb2
   have HDn:Hid (ZLd (ZLB kk x) (ds.drop (i+1))=ZLd k ds∧(ZLH k ds).drop (i+1)=ZLH (ZLB kk x) (ds.drop (i+1))):=⟨hkk,e2⟩
   have hbl:b<w.heap.size:=H.out.lt b hbL
   clear hkk e2
   obtain ⟨A1,c1,L1,rfl,hLL,t0,n1,m1,s1⟩:=hrep
   have S1:=Lib.hid s1
   have lL1:Hid (∀y∈L1,y<w.heap.size):=fun y m=>H.out.lt y (hLk y (by rw [hLL];simp [m]))
   have ll1:(ZML kk x).fact.args.length=x.fact.args.length:=ZLt _ _
   clear s1
   have Q0:=Lib.hid (hc 0 _ rfl)
   have Q1:=Lib.hid (hc 1 _ rfl)
   have Q2:=Lib.hid (hc 2 _ rfl)
   unfold maxLen at m1
   rw [ll1] at Q1 n1
   clear hc ll1
   have i0:(0:Int)≤i:=by omega
   have i1:(i:Int)<n:=by omega
   have mono_x_fact_args:=ZLj (kk+1) x.fact.args
   have q0:wr.cell? ⟨b,off+i * 3,none⟩=some (.string (mTx (kk))):=(HB.out.cell (p:=⟨b,off+(i * 3+0),none⟩) hbl).trans Q0.out
   have q1:wr.cell? ⟨b,off+i * 3+1,none⟩=some (.slice A1 x.fact.args.length c1):=(HB.out.cell (p:=⟨b,off+(i * 3+1),none⟩) hbl).trans Q1.out
   have q2:wr.cell? ⟨b,off+i * 3+2,none⟩=some (.int .i64 (Qs (kk+1) x.fact.args)):=(HB.out.cell (p:=⟨b,off+(i * 3+2),none⟩) hbl).trans Q2.out
   have hbr:b<wr.heap.size:=AB hbl HB.out.size
   go_wp2_with fail
   go_region_held3 (fun w'=>w'.cell? ⟨b,off+i * 3,none⟩=some (.string (mTx (kk)))) (first | go_keep | exact (hb1.cell (p:=⟨b,off+i * 3,none⟩) hbr).trans q0) (first | (go_at_call 71;refine (ZLf _ _ (by omega) (by omega)).mono ?_;rintro e w1 ⟨rfl,hb1⟩))
   have HB:=Lib.hid (HB.out.trans (ZLm hb1 HB.out.size))
   clear hb1
   clear q0 q1 q2
   have q0:w1.cell? ⟨b,off+i * 3,none⟩=some (.string (mTx (kk))):=(HB.out.cell (p:=⟨b,off+(i * 3+0),none⟩) hbl).trans Q0.out
   have q1:w1.cell? ⟨b,off+i * 3+1,none⟩=some (.slice A1 x.fact.args.length c1):=(HB.out.cell (p:=⟨b,off+(i * 3+1),none⟩) hbl).trans Q1.out
   have q2:w1.cell? ⟨b,off+i * 3+2,none⟩=some (.int .i64 (Qs (kk+1) x.fact.args)):=(HB.out.cell (p:=⟨b,off+(i * 3+2),none⟩) hbl).trans Q2.out
   replace hbr:b<w1.heap.size:=AB hbl HB.out.size
   go_wp2_with fail
   refine (ZLZ A1 _ c1 x.fact.args L1 _ _ rfl (by omega) (by omega) (S1.out.keep (Qu HB.out lL1.out))).mono ?_
   rintro e w2 ⟨rfl,hb2⟩
   have HB:=Lib.hid (HB.out.trans (hb2.mono HB.out.size))
   clear hb2
   clear q0 q1 q2
   have q0:w2.cell? ⟨b,off+i * 3,none⟩=some (.string (mTx (kk))):=(HB.out.cell (p:=⟨b,off+(i * 3+0),none⟩) hbl).trans Q0.out
   have q1:w2.cell? ⟨b,off+i * 3+1,none⟩=some (.slice A1 x.fact.args.length c1):=(HB.out.cell (p:=⟨b,off+(i * 3+1),none⟩) hbl).trans Q1.out
   have q2:w2.cell? ⟨b,off+i * 3+2,none⟩=some (.int .i64 (Qs (kk+1) x.fact.args)):=(HB.out.cell (p:=⟨b,off+(i * 3+2),none⟩) hbl).trans Q2.out
   replace hbr:b<w2.heap.size:=AB hbl HB.out.size
   have ge2:¬(Qs (kk+1) x.fact.args<0):=by omega
   go_wp2_with fail
   go_roundw
   case rel=>exact ⟨i+1,ZLB kk x,by omega,by go_num,rfl,by unfold ZLB;omega,HDn,HB⟩
   case measure=>simp [intOf];omega
  ·obtain rfl:i=n:=by omega
   have hf:Hid (ZLd k ds=kk):=by
    obtain ⟨h1,_⟩:=HD.out
    rw [Hid,←h1,AE (by have:=HN.out;omega)];rfl
   go_wp2
   go_ret
   exact ⟨ZL2 hf.out.symm,HB.out⟩
set_option maxRecDepth 100000 in
set_option maxHeartbeats 4000000 in
theorem ZOf (A:Option Addr) (n c:Nat) (ds:List ZLS) (L:List Nat) (k:Int) (w:World) (hn:n=ds.length) (hm:n≤9223372036854775807) (hk0:1≤k) (hk1:ZLi k ds≤4611686018427387904) (h:Sli ZLV w A (ZLw k ds) L):
  Calls prog 44 #[.slice A n c,.int .i64 k] w fun e w'=>e=.returned (.int .i64 (ZLi k ds))∧Below w.heap.size w w':=by
 have H:=Lib.hid h
 have HN:=Lib.hid hn
 have HK:=Lib.hid hk1
 clear h hn hk1
 go_enter func44,ntmps44
 go_wp2
 go_loopw [1,5] (fun q j wr=>∃(i:Nat) (kk:Int),i≤n∧j=.int .i64 i∧q=.int .i64 kk∧1≤kk∧Hid (ZLi kk (ds.drop i)=ZLi k ds∧(ZLw k ds).drop i=ZLw kk (ds.drop i))∧Hid (Below w.heap.size w wr)) (fun _ j _=>n - (intOf j).toNat)
 case atStart=>exact ⟨0,k,AD _,rfl,rfl,hk0,⟨rfl,rfl⟩,Below.refl _ _⟩
 case round=>
  obtain ⟨i,kk,hi,rfl,rfl,h1,HD,HB⟩:=hrel
  by_cases hlt:i<n
  ·have hil:i<ds.length:=by have:=HN.out;omega
   obtain ⟨hkk,hdr⟩:=HD.out
   have hml:i<(ZLw k ds).length:=by rw [ZMv];exact hil
   obtain ⟨b,off,cs,Lk,rfl,hbL,hLk,hrep,hc⟩:=H.out.at_ hml
   rw [AA hml,AA hil,ZLw] at hdr
   injection hdr with e1 e2
   rw [e1] at hrep
   clear e1
   have hnext:ds.drop i=ds[i]::ds.drop (i+1):=AA _
   rw [hnext] at hkk
   clear hnext
   generalize ds[i]=x at hrep hkk e2
   have hnb:Hid (ZLs kk x≤4611686018427387904):=by
    have:=ZMi (ZLs kk x) (ds.drop (i+1))
    have hk:=HK.out
    rw [←hkk] at hk
    exact AF this hk
   have hnb1:=hnb.out
   have hnb2:=ZMS kk x
   unfold ZLs at hnb1 hnb2
   have HDn:Hid (ZLi (ZLs kk x) (ds.drop (i+1))=ZLi k ds∧(ZLw k ds).drop (i+1)=ZLw (ZLs kk x) (ds.drop (i+1))):=⟨hkk,e2⟩
   have hbl:b<w.heap.size:=H.out.lt b hbL
   clear hkk e2
   obtain ⟨A1,c1,L1,rfl,hLL,t0,n1,m1,s1⟩:=hrep
   have S1:=Lib.hid s1
   have lL1:Hid (∀y∈L1,y<w.heap.size):=fun y m=>H.out.lt y (hLk y (by rw [hLL];simp [m]))
   have ll1:(ZMx kk x).times.length=x.times.length:=ZMu _ _
   clear s1
   have Q0:=Lib.hid (hc 0 _ rfl)
   have Q1:=Lib.hid (hc 1 _ rfl)
   unfold maxLen at m1
   rw [ll1] at Q1 n1
   clear hc ll1
   have i0:(0:Int)≤i:=by omega
   have i1:(i:Int)<n:=by omega
   have mono_x_times:=ZMp (kk+1) x.times
   have q0:wr.cell? ⟨b,off+i * 2,none⟩=some (.string (mTx (kk))):=(HB.out.cell (p:=⟨b,off+(i * 2+0),none⟩) hbl).trans Q0.out
   have q1:wr.cell? ⟨b,off+i * 2+1,none⟩=some (.slice A1 x.times.length c1):=(HB.out.cell (p:=⟨b,off+(i * 2+1),none⟩) hbl).trans Q1.out
   have hbr:b<wr.heap.size:=AB hbl HB.out.size
   go_wp2_with fail
   go_region_held3 (fun w'=>w'.cell? ⟨b,off+i * 2,none⟩=some (.string (mTx (kk)))) (first | go_keep | exact (hb1.cell (p:=⟨b,off+i * 2,none⟩) hbr).trans q0) (first | (go_at_call 71;refine (ZLf _ _ (by omega) (by omega)).mono ?_;rintro e w1 ⟨rfl,hb1⟩))
   have HB:=Lib.hid (HB.out.trans (ZLm hb1 HB.out.size))
   clear hb1
   clear q0 q1
   have q0:w1.cell? ⟨b,off+i * 2,none⟩=some (.string (mTx (kk))):=(HB.out.cell (p:=⟨b,off+(i * 2+0),none⟩) hbl).trans Q0.out
   have q1:w1.cell? ⟨b,off+i * 2+1,none⟩=some (.slice A1 x.times.length c1):=(HB.out.cell (p:=⟨b,off+(i * 2+1),none⟩) hbl).trans Q1.out
   replace hbr:b<w1.heap.size:=AB hbl HB.out.size
   go_wp2_with fail
   refine (ZNM A1 _ c1 x.times L1 _ _ rfl (by omega) (by omega) (S1.out.keep (Qu HB.out lL1.out))).mono ?_
   rintro e w2 ⟨rfl,hb2⟩
   have HB:=Lib.hid (HB.out.trans (hb2.mono HB.out.size))
   clear hb2
   clear q0 q1
   have q0:w2.cell? ⟨b,off+i * 2,none⟩=some (.string (mTx (kk))):=(HB.out.cell (p:=⟨b,off+(i * 2+0),none⟩) hbl).trans Q0.out
   have q1:w2.cell? ⟨b,off+i * 2+1,none⟩=some (.slice A1 x.times.length c1):=(HB.out.cell (p:=⟨b,off+(i * 2+1),none⟩) hbl).trans Q1.out
   replace hbr:b<w2.heap.size:=AB hbl HB.out.size
   have ge2:¬(ZLg (kk+1) x.times<0):=by omega
   go_wp2_with fail
   go_roundw
   case rel=>exact ⟨i+1,ZLs kk x,by omega,by go_num,rfl,by unfold ZLs;omega,HDn,HB⟩
   case measure=>simp [intOf];omega
  ·obtain rfl:i=n:=by omega
   have hf:Hid (ZLi k ds=kk):=by
    obtain ⟨h1,_⟩:=HD.out
    rw [Hid,←h1,AE (by have:=HN.out;omega)];rfl
   go_wp2
   go_ret
   exact ⟨ZL2 hf.out.symm,HB.out⟩
set_option maxRecDepth 100000 in
set_option maxHeartbeats 4000000 in
theorem ZOw (A:Option Addr) (n c:Nat) (ds:List ZL6) (L:List Nat) (k:Int) (w:World) (hn:n=ds.length) (hm:n≤9223372036854775807) (hk0:1≤k) (hk1:ZLv k ds≤4611686018427387904) (h:Sli ZL9 w A (ZLG k ds) L):
  Calls prog 45 #[.slice A n c,.int .i64 k] w fun e w'=>e=.returned (.int .i64 (ZLv k ds))∧Below w.heap.size w w':=by
 have H:=Lib.hid h
 have HN:=Lib.hid hn
 have HK:=Lib.hid hk1
 clear h hn hk1
 go_enter func45,ntmps45
 go_wp2
 go_loopw [1,5] (fun q j wr=>∃(i:Nat) (kk:Int),i≤n∧j=.int .i64 i∧q=.int .i64 kk∧1≤kk∧Hid (ZLv kk (ds.drop i)=ZLv k ds∧(ZLG k ds).drop i=ZLG kk (ds.drop i))∧Hid (Below w.heap.size w wr)) (fun _ j _=>n - (intOf j).toNat)
 case atStart=>exact ⟨0,k,AD _,rfl,rfl,hk0,⟨rfl,rfl⟩,Below.refl _ _⟩
 case round=>
  obtain ⟨i,kk,hi,rfl,rfl,h1,HD,HB⟩:=hrel
  by_cases hlt:i<n
  ·have hil:i<ds.length:=by have:=HN.out;omega
   obtain ⟨hkk,hdr⟩:=HD.out
   have hml:i<(ZLG k ds).length:=by rw [ZMC];exact hil
   obtain ⟨b,off,cs,Lk,rfl,hbL,hLk,hrep,hc⟩:=H.out.at_ hml
   rw [AA hml,AA hil,ZLG] at hdr
   injection hdr with e1 e2
   rw [e1] at hrep
   clear e1
   have hnext:ds.drop i=ds[i]::ds.drop (i+1):=AA _
   rw [hnext] at hkk
   clear hnext
   generalize ds[i]=x at hrep hkk e2
   have hnb:Hid (ZLF kk x≤4611686018427387904):=by
    have:=ZMn (ZLF kk x) (ds.drop (i+1))
    have hk:=HK.out
    rw [←hkk] at hk
    exact AF this hk
   have hnb1:=hnb.out
   have hnb2:=ZM2 kk x
   unfold ZLF at hnb1 hnb2
   have HDn:Hid (ZLv (ZLF kk x) (ds.drop (i+1))=ZLv k ds∧(ZLG k ds).drop (i+1)=ZLG (ZLF kk x) (ds.drop (i+1))):=⟨hkk,e2⟩
   have hbl:b<w.heap.size:=H.out.lt b hbL
   clear hkk e2
   obtain ⟨A1,c1,L1,rfl,hLL,t0,t1,n1,m1,s1⟩:=hrep
   have S1:=Lib.hid s1
   have lL1:Hid (∀y∈L1,y<w.heap.size):=fun y m=>H.out.lt y (hLk y (by rw [hLL];simp [m]))
   have ll1:(ZMJ kk x).fact.args.length=x.fact.args.length:=ZLt _ _
   clear s1
   have Q0:=Lib.hid (hc 0 _ rfl)
   have Q1:=Lib.hid (hc 1 _ rfl)
   have Q2:=Lib.hid (hc 2 _ rfl)
   have Q3:=Lib.hid (hc 3 _ rfl)
   unfold maxLen at m1
   rw [ll1] at Q3 n1
   clear hc ll1
   have i0:(0:Int)≤i:=by omega
   have i1:(i:Int)<n:=by omega
   have mono_x_fact_args:=ZLj (kk+1+1+1) x.fact.args
   have q0:wr.cell? ⟨b,off+i * 4,none⟩=some (.int .i64 (kk)):=(HB.out.cell (p:=⟨b,off+(i * 4+0),none⟩) hbl).trans Q0.out
   have q1:wr.cell? ⟨b,off+i * 4+1,none⟩=some (.string (mTx (kk+1))):=(HB.out.cell (p:=⟨b,off+(i * 4+1),none⟩) hbl).trans Q1.out
   have q2:wr.cell? ⟨b,off+i * 4+2,none⟩=some (.string (mTx (kk+1+1))):=(HB.out.cell (p:=⟨b,off+(i * 4+2),none⟩) hbl).trans Q2.out
   have q3:wr.cell? ⟨b,off+i * 4+3,none⟩=some (.slice A1 x.fact.args.length c1):=(HB.out.cell (p:=⟨b,off+(i * 4+3),none⟩) hbl).trans Q3.out
   have hbr:b<wr.heap.size:=AB hbl HB.out.size
   go_wp2_with fail
   go_region_held3 (fun w'=>w'.cell? ⟨b,off+i * 4+1,none⟩=some (.string (mTx (kk+1)))) (first | go_keep | exact (hb1.cell (p:=⟨b,off+i * 4+1,none⟩) hbr).trans q1) (first | (go_at_call 71;refine (ZLf _ _ (by omega) (by omega)).mono ?_;rintro e w1 ⟨rfl,hb1⟩))
   have HB:=Lib.hid (HB.out.trans (ZLm hb1 HB.out.size))
   clear hb1
   clear q0 q1 q2 q3
   have q0:w1.cell? ⟨b,off+i * 4,none⟩=some (.int .i64 (kk)):=(HB.out.cell (p:=⟨b,off+(i * 4+0),none⟩) hbl).trans Q0.out
   have q1:w1.cell? ⟨b,off+i * 4+1,none⟩=some (.string (mTx (kk+1))):=(HB.out.cell (p:=⟨b,off+(i * 4+1),none⟩) hbl).trans Q1.out
   have q2:w1.cell? ⟨b,off+i * 4+2,none⟩=some (.string (mTx (kk+1+1))):=(HB.out.cell (p:=⟨b,off+(i * 4+2),none⟩) hbl).trans Q2.out
   have q3:w1.cell? ⟨b,off+i * 4+3,none⟩=some (.slice A1 x.fact.args.length c1):=(HB.out.cell (p:=⟨b,off+(i * 4+3),none⟩) hbl).trans Q3.out
   replace hbr:b<w1.heap.size:=AB hbl HB.out.size
   go_wp2_with fail
   go_region_held3 (fun w'=>w'.cell? ⟨b,off+i * 4+2,none⟩=some (.string (mTx (kk+1+1)))) (first | go_keep | exact (hb2.cell (p:=⟨b,off+i * 4+2,none⟩) hbr).trans q2) (first | (go_at_call 71;refine (ZLf _ _ (by omega) (by omega)).mono ?_;rintro e w2 ⟨rfl,hb2⟩))
   have HB:=Lib.hid (HB.out.trans (ZLm hb2 HB.out.size))
   clear hb2
   clear q0 q1 q2 q3
   have q0:w2.cell? ⟨b,off+i * 4,none⟩=some (.int .i64 (kk)):=(HB.out.cell (p:=⟨b,off+(i * 4+0),none⟩) hbl).trans Q0.out
   have q1:w2.cell? ⟨b,off+i * 4+1,none⟩=some (.string (mTx (kk+1))):=(HB.out.cell (p:=⟨b,off+(i * 4+1),none⟩) hbl).trans Q1.out
   have q2:w2.cell? ⟨b,off+i * 4+2,none⟩=some (.string (mTx (kk+1+1))):=(HB.out.cell (p:=⟨b,off+(i * 4+2),none⟩) hbl).trans Q2.out
   have q3:w2.cell? ⟨b,off+i * 4+3,none⟩=some (.slice A1 x.fact.args.length c1):=(HB.out.cell (p:=⟨b,off+(i * 4+3),none⟩) hbl).trans Q3.out
   replace hbr:b<w2.heap.size:=AB hbl HB.out.size
   go_wp2_with fail
   refine (ZLZ A1 _ c1 x.fact.args L1 _ _ rfl (by omega) (by omega) (S1.out.keep (Qu HB.out lL1.out))).mono ?_
   rintro e w3 ⟨rfl,hb3⟩
   have HB:=Lib.hid (HB.out.trans (hb3.mono HB.out.size))
   clear hb3
   clear q0 q1 q2 q3
   have q0:w3.cell? ⟨b,off+i * 4,none⟩=some (.int .i64 (kk)):=(HB.out.cell (p:=⟨b,off+(i * 4+0),none⟩) hbl).trans Q0.out
   have q1:w3.cell? ⟨b,off+i * 4+1,none⟩=some (.string (mTx (kk+1))):=(HB.out.cell (p:=⟨b,off+(i * 4+1),none⟩) hbl).trans Q1.out
   have q2:w3.cell? ⟨b,off+i * 4+2,none⟩=some (.string (mTx (kk+1+1))):=(HB.out.cell (p:=⟨b,off+(i * 4+2),none⟩) hbl).trans Q2.out
   have q3:w3.cell? ⟨b,off+i * 4+3,none⟩=some (.slice A1 x.fact.args.length c1):=(HB.out.cell (p:=⟨b,off+(i * 4+3),none⟩) hbl).trans Q3.out
   replace hbr:b<w3.heap.size:=AB hbl HB.out.size
   have ge3:¬(Qs (kk+1+1+1) x.fact.args<0):=by omega
   go_wp2_with fail
   go_roundw
   case rel=>exact ⟨i+1,ZLF kk x,by omega,by go_num,rfl,by unfold ZLF;omega,HDn,HB⟩
   case measure=>simp [intOf];omega
  ·obtain rfl:i=n:=by omega
   have hf:Hid (ZLv k ds=kk):=by
    obtain ⟨h1,_⟩:=HD.out
    rw [Hid,←h1,AE (by have:=HN.out;omega)];rfl
   go_wp2
   go_ret
   exact ⟨ZL2 hf.out.symm,HB.out⟩
set_option maxHeartbeats 1600000 in
theorem ZOQ (x:ZMj) (A1:Option Addr) (c1:Nat) (L1:List Nat) (A2:Option Addr) (c2:Nat) (L2:List Nat) (A3:Option Addr) (c3:Nat) (L3:List Nat) (A4:Option Addr) (c4:Nat) (L4:List Nat) (k:Int) (w:World) (hk0:1≤k) (hk1:ZLh k x≤4611686018427387904) (l1:x.rules.length≤9223372036854775807) (l2:x.memory.length≤9223372036854775807) (l3:x.fired.length≤9223372036854775807) (l4:x.log.length≤9223372036854775807) (s1:Sli Zby w A1 (ZLy (k) x.rules) L1) (s2:Sli ZL8 w A2 (ZLH (ZLc (k) x.rules) x.memory) L2) (s3:Sli ZLV w A3 (ZLw (ZLd (ZLc (k) x.rules) x.memory) x.fired) L3) (s4:Sli ZL9 w A4 (ZLG (ZLi (ZLd (ZLc (k) x.rules) x.memory) x.fired) x.log) L4):
  Calls prog 17 #[.agg #[.slice A1 x.rules.length c1,.slice A2 x.memory.length c2,.int .i64 x.clock,.slice A3 x.fired.length c3,.bool x.halted,.slice A4 x.log.length c4],.int .i64 k] w fun e w'=>e=.returned (.int .i64 (ZLh k x))∧Below w.heap.size w w':=by
 have B0:Hid (Below w.heap.size w (w.alloc (.cells #[.slice A1 x.rules.length c1,.slice A2 x.memory.length c2,.int .i64 x.clock,.slice A3 x.fired.length c3,.bool x.halted,.slice A4 x.log.length c4] 27))):=(Below.refl _ _).alloc (AM _) _
 have S1:=Lib.hid s1
 have S2:=Lib.hid s2
 have S3:=Lib.hid s3
 have S4:=Lib.hid s4
 have K0:Hid (Blk (w.alloc (.cells #[.slice A1 x.rules.length c1,.slice A2 x.memory.length c2,.int .i64 x.clock,.slice A3 x.fired.length c3,.bool x.halted,.slice A4 x.log.length c4] 27)) w.heap.size 27 #[.slice A1 x.rules.length c1,.slice A2 x.memory.length c2,.int .i64 x.clock,.slice A3 x.fired.length c3,.bool x.halted,.slice A4 x.log.length c4]):=Blk.new _ _ _
 clear s1 s2 s3 s4
 unfold ZLh at hk1
 have:=ZMa (k) x.rules
 have:=ZMl (ZLc (k) x.rules) x.memory
 have:=ZMi (ZLd (ZLc (k) x.rules) x.memory) x.fired
 have:=ZMn (ZLi (ZLd (ZLc (k) x.rules) x.memory) x.fired) x.log
 go_enter func17,ntmps17
 go_wp2_with fail
 refine (ZNw A1 _ c1 x.rules L1 _ _ rfl (by omega) (by omega) (by omega) (S1.out.below B0.out)).mono ?_
 rintro e w1 ⟨rfl,hb1⟩
 have K1:=Lib.hid (K0.out.later hb1)
 have B1:=Lib.hid (B0.out.trans (hb1.mono B0.out.size))
 have f0:=K1.out.at (i:=0) rfl
 have f1:=K1.out.at (i:=1) rfl
 have f2:=K1.out.at (i:=2) rfl
 have f3:=K1.out.at (i:=3) rfl
 have f4:=K1.out.at (i:=4) rfl
 have f5:=K1.out.at (i:=5) rfl
 have ge1:¬(ZLc (k) x.rules<0):=by omega
 clear hb1
 go_wp2_with fail
 refine (ZOo A2 _ c2 x.memory L2 _ _ rfl (by omega) (by omega) (by omega) (S2.out.below B1.out)).mono ?_
 rintro e w2 ⟨rfl,hb2⟩
 have K2:=Lib.hid (K1.out.later hb2)
 have B2:=Lib.hid (B1.out.trans (hb2.mono B1.out.size))
 clear f0 f1 f2 f3 f4 f5
 have f0:=K2.out.at (i:=0) rfl
 have f1:=K2.out.at (i:=1) rfl
 have f2:=K2.out.at (i:=2) rfl
 have f3:=K2.out.at (i:=3) rfl
 have f4:=K2.out.at (i:=4) rfl
 have f5:=K2.out.at (i:=5) rfl
 have ge2:¬(ZLd (ZLc (k) x.rules) x.memory<0):=by omega
 clear hb2
 go_wp2_with fail
 refine (ZOf A3 _ c3 x.fired L3 _ _ rfl (by omega) (by omega) (by omega) (S3.out.below B2.out)).mono ?_
 rintro e w3 ⟨rfl,hb3⟩
 have K3:=Lib.hid (K2.out.later hb3)
 have B3:=Lib.hid (B2.out.trans (hb3.mono B2.out.size))
 clear f0 f1 f2 f3 f4 f5
 have f0:=K3.out.at (i:=0) rfl
 have f1:=K3.out.at (i:=1) rfl
 have f2:=K3.out.at (i:=2) rfl
 have f3:=K3.out.at (i:=3) rfl
 have f4:=K3.out.at (i:=4) rfl
 have f5:=K3.out.at (i:=5) rfl
 have ge3:¬(ZLi (ZLd (ZLc (k) x.rules) x.memory) x.fired<0):=by omega
 clear hb3
 go_wp2_with fail
 refine (ZOw A4 _ c4 x.log L4 _ _ rfl (by omega) (by omega) (by omega) (S4.out.below B3.out)).mono ?_
 rintro e w4 ⟨rfl,hb4⟩
 have K4:=Lib.hid (K3.out.later hb4)
 have B4:=Lib.hid (B3.out.trans (hb4.mono B3.out.size))
 clear f0 f1 f2 f3 f4 f5
 have f0:=K4.out.at (i:=0) rfl
 have f1:=K4.out.at (i:=1) rfl
 have f2:=K4.out.at (i:=2) rfl
 have f3:=K4.out.at (i:=3) rfl
 have f4:=K4.out.at (i:=4) rfl
 have f5:=K4.out.at (i:=5) rfl
 have ge4:¬(ZLv (ZLi (ZLd (ZLc (k) x.rules) x.memory) x.fired) x.log<0):=by omega
 clear hb4
 go_wp2_with fail
 go_ret
 exact ⟨ZL2 rfl,B4.out⟩
set_option maxHeartbeats 1600000 in
theorem ZPx (x:ZMq) (A1:Option Addr) (c1:Nat) (L1:List Nat) (A2:Option Addr) (c2:Nat) (L2:List Nat) (A3:Option Addr) (c3:Nat) (L3:List Nat) (A4:Option Addr) (c4:Nat) (L4:List Nat) (A5:Option Addr) (c5:Nat) (L5:List Nat) (A6:Option Addr) (c6:Nat) (L6:List Nat) (A7:Option Addr) (c7:Nat) (L7:List Nat) (A8:Option Addr) (c8:Nat) (L8:List Nat) (A9:Option Addr) (c9:Nat) (L9:List Nat) (k:Int) (w:World) (hk0:1≤k) (hk1:ZLC k x≤4611686018427387904) (l1:x.engine.rules.length≤9223372036854775807) (l2:x.engine.memory.length≤9223372036854775807) (l3:x.engine.fired.length≤9223372036854775807) (l4:x.engine.log.length≤9223372036854775807) (l5:x.network.rules.length≤9223372036854775807) (l6:x.network.ends.length≤9223372036854775807) (l7:x.network.alphas.length≤9223372036854775807) (l8:x.network.nodes.length≤9223372036854775807) (l9:x.network.facts.length≤9223372036854775807) (s1:Sli Zby w A1 (ZLy (k) x.engine.rules) L1) (s2:Sli ZL8 w A2 (ZLH (ZLc (k) x.engine.rules) x.engine.memory) L2) (s3:Sli ZLV w A3 (ZLw (ZLd (ZLc (k) x.engine.rules) x.engine.memory) x.engine.fired) L3) (s4:Sli ZL9 w A4 (ZLG (ZLi (ZLd (ZLc (k) x.engine.rules) x.engine.memory) x.engine.fired) x.engine.log) L4) (s5:Sli Zby w A5 (ZLy (ZLh (k) x.engine) x.network.rules) L5) (s6:Sli Zj7 w A6 (ZLY (ZLc (ZLh (k) x.engine) x.network.rules) x.network.ends) L6) (s7:Sli ZL7 w A7 (ZLI (ZLg (ZLc (ZLh (k) x.engine) x.network.rules) x.network.ends) x.network.alphas) L7) (s8:Sli ZMg w A8 (ZLR (ZLe (ZLg (ZLc (ZLh (k) x.engine) x.network.rules) x.network.ends) x.network.alphas) x.network.nodes) L8) (s9:Sli Yf w A9 (ZLK (ZLk (ZLe (ZLg (ZLc (ZLh (k) x.engine) x.network.rules) x.network.ends) x.network.alphas) x.network.nodes) x.network.facts) L9):
  Calls prog 8 #[.agg #[.slice A1 x.engine.rules.length c1,.slice A2 x.engine.memory.length c2,.int .i64 x.engine.clock,.slice A3 x.engine.fired.length c3,.bool x.engine.halted,.slice A4 x.engine.log.length c4,.slice A5 x.network.rules.length c5,.slice A6 x.network.ends.length c6,.slice A7 x.network.alphas.length c7,.slice A8 x.network.nodes.length c8,.slice A9 x.network.facts.length c9,.int .i64 x.network.tries],.int .i64 k] w fun e w'=>e=.returned (.int .i64 (ZLC k x))∧Below w.heap.size w w':=by
 have B0:Hid (Below w.heap.size w (w.alloc (.cells #[.slice A1 x.engine.rules.length c1,.slice A2 x.engine.memory.length c2,.int .i64 x.engine.clock,.slice A3 x.engine.fired.length c3,.bool x.engine.halted,.slice A4 x.engine.log.length c4,.slice A5 x.network.rules.length c5,.slice A6 x.network.ends.length c6,.slice A7 x.network.alphas.length c7,.slice A8 x.network.nodes.length c8,.slice A9 x.network.facts.length c9,.int .i64 x.network.tries] 35))):=(Below.refl _ _).alloc (AM _) _
 have S1:=Lib.hid s1
 have S2:=Lib.hid s2
 have S3:=Lib.hid s3
 have S4:=Lib.hid s4
 have S5:=Lib.hid s5
 have S6:=Lib.hid s6
 have S7:=Lib.hid s7
 have S8:=Lib.hid s8
 have S9:=Lib.hid s9
 have K0:Hid (Blk (w.alloc (.cells #[.slice A1 x.engine.rules.length c1,.slice A2 x.engine.memory.length c2,.int .i64 x.engine.clock,.slice A3 x.engine.fired.length c3,.bool x.engine.halted,.slice A4 x.engine.log.length c4,.slice A5 x.network.rules.length c5,.slice A6 x.network.ends.length c6,.slice A7 x.network.alphas.length c7,.slice A8 x.network.nodes.length c8,.slice A9 x.network.facts.length c9,.int .i64 x.network.tries] 35)) w.heap.size 35 #[.slice A1 x.engine.rules.length c1,.slice A2 x.engine.memory.length c2,.int .i64 x.engine.clock,.slice A3 x.engine.fired.length c3,.bool x.engine.halted,.slice A4 x.engine.log.length c4,.slice A5 x.network.rules.length c5,.slice A6 x.network.ends.length c6,.slice A7 x.network.alphas.length c7,.slice A8 x.network.nodes.length c8,.slice A9 x.network.facts.length c9,.int .i64 x.network.tries]):=Blk.new _ _ _
 clear s1 s2 s3 s4 s5 s6 s7 s8 s9
 unfold ZLC at hk1
 have:=ZMG (k) x.engine
 have:=ZMz (ZLh (k) x.engine) x.network
 go_enter func8,ntmps8
 go_wp2_with fail
 refine (ZOQ x.engine A1 c1 L1 A2 c2 L2 A3 c3 L3 A4 c4 L4 _ _ (by omega) (by omega) l1 l2 l3 l4 (S1.out.below B0.out) (S2.out.below B0.out) (S3.out.below B0.out) (S4.out.below B0.out)).mono ?_
 rintro e w1 ⟨rfl,hb1⟩
 have K1:=Lib.hid (K0.out.later hb1)
 have B1:=Lib.hid (B0.out.trans (hb1.mono B0.out.size))
 have f0:=K1.out.at (i:=0) rfl
 have f1:=K1.out.at (i:=1) rfl
 have f2:=K1.out.at (i:=2) rfl
 have f3:=K1.out.at (i:=3) rfl
 have f4:=K1.out.at (i:=4) rfl
 have f5:=K1.out.at (i:=5) rfl
 have f6:=K1.out.at (i:=6) rfl
 have f7:=K1.out.at (i:=7) rfl
 have f8:=K1.out.at (i:=8) rfl
 have f9:=K1.out.at (i:=9) rfl
 have f10:=K1.out.at (i:=10) rfl
 have f11:=K1.out.at (i:=11) rfl
 have ge1:¬(ZLh (k) x.engine<0):=by omega
 clear hb1
 go_wp2_with fail
 refine (ZOr x.network A5 c5 L5 A6 c6 L6 A7 c7 L7 A8 c8 L8 A9 c9 L9 _ _ (by omega) (by omega) l5 l6 l7 l8 l9 (S5.out.below B1.out) (S6.out.below B1.out) (S7.out.below B1.out) (S8.out.below B1.out) (S9.out.below B1.out)).mono ?_
 rintro e w2 ⟨rfl,hb2⟩
 have K2:=Lib.hid (K1.out.later hb2)
 have B2:=Lib.hid (B1.out.trans (hb2.mono B1.out.size))
 clear f0 f1 f2 f3 f4 f5 f6 f7 f8 f9 f10 f11
 have f0:=K2.out.at (i:=0) rfl
 have f1:=K2.out.at (i:=1) rfl
 have f2:=K2.out.at (i:=2) rfl
 have f3:=K2.out.at (i:=3) rfl
 have f4:=K2.out.at (i:=4) rfl
 have f5:=K2.out.at (i:=5) rfl
 have f6:=K2.out.at (i:=6) rfl
 have f7:=K2.out.at (i:=7) rfl
 have f8:=K2.out.at (i:=8) rfl
 have f9:=K2.out.at (i:=9) rfl
 have f10:=K2.out.at (i:=10) rfl
 have f11:=K2.out.at (i:=11) rfl
 have ge2:¬(ZLQ (ZLh (k) x.engine) x.network<0):=by omega
 clear hb2
 go_wp2_with fail
 go_ret
 exact ⟨ZL2 rfl,B2.out⟩
theorem ZNJ (cs:List Value) (x:ZMq) (L:List Nat) (k:Int) (w:World) (hk0:1≤k) (hk1:ZLC k x≤4611686018427387904) (h:ZNR.rep w cs (ZOh k x) L):
  Calls prog 8 #[.agg cs.toArray,.int .i64 k] w fun e w'=>e=.returned (.int .i64 (ZLC k x))∧Below w.heap.size w w':=by
 obtain ⟨A1,c1,L1,A2,c2,L2,A3,c3,L3,A4,c4,L4,A5,c5,L5,A6,c6,L6,A7,c7,L7,A8,c8,L8,A9,c9,L9,rfl,hLL,n1,m1,s1,n2,m2,s2,n3,m3,s3,n4,m4,s4,n5,m5,s5,n6,m6,s6,n7,m7,s7,n8,m8,s8,n9,m9,s9⟩:=h
 subst L
 have ll1:(ZLy (k) x.engine.rules).length=x.engine.rules.length:=ZMw _ _
 have ll2:(ZLH (ZLc (k) x.engine.rules) x.engine.memory).length=x.engine.memory.length:=ZMB _ _
 have ll3:(ZLw (ZLd (ZLc (k) x.engine.rules) x.engine.memory) x.engine.fired).length=x.engine.fired.length:=ZMv _ _
 have ll4:(ZLG (ZLi (ZLd (ZLc (k) x.engine.rules) x.engine.memory) x.engine.fired) x.engine.log).length=x.engine.log.length:=ZMC _ _
 have ll5:(ZLy (ZLh (k) x.engine) x.network.rules).length=x.network.rules.length:=ZMw _ _
 have ll6:(ZLY (ZLc (ZLh (k) x.engine) x.network.rules) x.network.ends).length=x.network.ends.length:=ZMu _ _
 have ll7:(ZLI (ZLg (ZLc (ZLh (k) x.engine) x.network.rules) x.network.ends) x.network.alphas).length=x.network.alphas.length:=ZME _ _
 have ll8:(ZLR (ZLe (ZLg (ZLc (ZLh (k) x.engine) x.network.rules) x.network.ends) x.network.alphas) x.network.nodes).length=x.network.nodes.length:=ZMH _ _
 have ll9:(ZLK (ZLk (ZLe (ZLg (ZLc (ZLh (k) x.engine) x.network.rules) x.network.ends) x.network.alphas) x.network.nodes) x.network.facts).length=x.network.facts.length:=ZMd _ _
 simp only[ZOh,ZNW,ZNE,ZMw,ZMB,ZMv,ZMC,ZMu,ZME,ZMH,ZMd] at *
 exact ZPx x A1 c1 L1 A2 c2 L2 A3 c3 L3 A4 c4 L4 A5 c5 L5 A6 c6 L6 A7 c7 L7 A8 c8 L8 A9 c9 L9 k w hk0 hk1 (by unfold maxLen at *;omega) (by unfold maxLen at *;omega) (by unfold maxLen at *;omega) (by unfold maxLen at *;omega) (by unfold maxLen at *;omega) (by unfold maxLen at *;omega) (by unfold maxLen at *;omega) (by unfold maxLen at *;omega) (by unfold maxLen at *;omega) s1 s2 s3 s4 s5 s6 s7 s8 s9
end
end Go.Proofs.YthikodhnkaofaaaGreatDoor
