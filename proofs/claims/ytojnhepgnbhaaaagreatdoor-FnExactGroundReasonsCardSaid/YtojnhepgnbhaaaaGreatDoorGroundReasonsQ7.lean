/- Texts of this proof, joined: Mark, Held, Open, ExactGroundReasons, Opens. What each holds is said at its theorems. -/
import Derived.Test.YtojnhepgnbhaaaaGreatDoorProg
import Derived.Test.YtojnhepgnbhaaaaGreatDoorGroundReasonsQ6
import Derived.Outline
import Derived.WalkSpells
import Derived.StillTailTactics
import Derived.Deep.RegionHeld3
import Derived.Test.YtojnhepgnbhaaaaGreatDoorGroundReasonsQ1
import Derived.Deep.Slices
import Derived.ChangeArms
import Derived.ProofKit
import Derived.Test.YtojnhepgnbhaaaaGreatDoorGroundReasonsQ3
set_option linter.unusedSimpArgs false
set_option linter.unusedVariables false
namespace Go.Proofs.YtojnhepgnbhaaaaGreatDoor
open Go.RowKit
theorem Zba {w w1:World} {g:Nat} {t:TypeId} {cs:Array Value} {M:List Nat} (h:Blk w g t cs) (ho:YF M w w1) (hg:g∉M):Blk w1 g t cs:=(ho.block g h.lt hg).trans h
set_option maxHeartbeats 1600000 in
theorem Zcd (A:Option Addr) (n c:Nat) (ds:List ByteArray) (L:List Nat) (base:Nat) (k:Int) (w:World) (hn:n=ds.length) (hk0:1≤k) (hk1:ZG k ds≤4611686018427387904) (h:Got (ZY Zbm) base [.slice A n c] ds L w):
  Calls Tryz.prog 53 #[.slice A n c,.int .i64 k] w fun e w'=>e=.returned (.int .i64 (ZG k ds))∧Got (ZY Zbm) base [.slice A n c] (Ya k ds) L w'∧YF L w w':=by
 have H:=Lib.hid h
 have HN:=Lib.hid hn
 have hk1':k+n≤4611686018427387904:=by simp only [ZG] at hk1;omega
 clear h hn hk1
 go_enter Tryz.func53,Tryz.ntmps53
 go_wp2
 go_loopw [1,5] (fun q j wr=>∃(i:Nat) (kk:Int) (D:List ByteArray),i≤n∧j=.int .i64 i∧q=.int .i64 kk∧1≤kk∧kk+(n - i:Nat)≤4611686018427387904∧Hid (kk=k+i∧D.length=i∧D++Ya kk (ds.drop i)=Ya k ds)∧Hid (Got (ZY Zbm) base [.slice A n c] (D++ds.drop i) L wr)∧Hid (YF L w wr)) (fun _ j _=>n - (intOf j).toNat)
 case atStart=>exact ⟨0,k,[],Nat.zero_le _,rfl,rfl,hk0,by omega,⟨by omega,rfl,rfl⟩,H.out,YF.refl _ _⟩
 case round=>
  obtain ⟨i,kk,D,hi,rfl,rfl,h1,h2,HD,HG,HO⟩:=hrel
  by_cases hlt:i<n
  ·have hil:i<ds.length:=by have:=HN.out;omega
   obtain ⟨hkk,hDl,hDm⟩:=HD.out
   have hcl:i<(D++ds.drop i).length:=by simp;omega
   obtain ⟨b,off,cs,Lk,rfl,hbL,hLk,hown,hrep,hcells,hput⟩:=HG.out.focus hcl
   obtain ⟨rfl,hlk,_⟩:=hrep
   have HEl:=Lib.hid (ZbD.start (m:=1) hcells rfl hown)
   have hnext:Hid (ds.drop i=ds[i]::ds.drop (i+1)):=List.drop_eq_getElem_cons _
   have HPut:=Lib.hid hput
   have HOwn:=Lib.hid hown
   have HLk:=Lib.hid hLk
   have HLe:=Lib.hid hlk
   have HDn:Hid (kk+1=k+(i+1:Nat)∧(D++[mTx kk]).length=i+1∧(D++[mTx kk])++Ya (kk+1) (ds.drop (i+1))=Ya k ds):=by
    refine ⟨by omega,by simp [hDl],?_⟩
    rw [←hDm,hnext.out];simp [Ya]
   have hset:Hid ((D++ds.drop i).set i (mTx kk)=(D++[mTx kk])++ds.drop (i+1)):=by
    rw [Hid,List.set_append_right _ _ (by omega),show i - D.length=0 by omega,hnext.out,List.set_cons_zero];simp
   clear hput hown hLk hcells hkk hDl hDm hlk
   simp only [show Zbm.size=1 from rfl,Nat.mul_one] at HEl HPut
   go_wp2_with (go_at_call 50;refine (Y7 _ _ (by omega) (by omega)).mono ?_;rintro e w1 ⟨rfl,hb1⟩;have E1:=Lib.hid (HEl.out.later hb1);have q1:=E1.out.at (j:=0) rfl;have z1:=E1.out.frozen (off+i);clear hb1;simp only [Nat.add_zero] at q1)
   have E2:=Lib.hid (E1.out.set 0 (by omega) (.string (mTx kk)))
   have hO2:=Lib.hid (XO HOwn.out E2.out.plain E2.out.only (by rw [HLe.out];simp))
   have HGn:=Lib.hid (HPut.out _ _ (mTx kk) E2.out.only E2.out.cells E2.out.rest (by rw [HLe.out];exact ⟨rfl,rfl,ZcS _ (by omega)⟩) hO2.out)
   have HOn:=Lib.hid (HO.out.trans (E2.out.only.mono (fun y m=>by rcases List.mem_cons.1 m with rfl | m;exact hbL;exact HLk.out y m)))
   rw [hset.out] at HGn
   simp only [Nat.add_zero] at HGn HOn
   clear E2 hO2 HPut
   go_wp2_with fail
   go_roundw
   case rel=>exact ⟨i+1,kk+1,_,by omega,by go_num,rfl,by omega,by omega,HDn,HGn,HOn⟩
   case measure=>simp [intOf];omega
  ·obtain rfl:i=n:=by omega
   have hf:Hid (ZG k ds=kk∧D=Ya k ds):=by
    obtain ⟨h1,h2,h3⟩:=HD.out
    have e:ds.drop i=[]:=List.drop_of_length_le (by have:=HN.out;omega)
    rw [e] at h3
    simp [Ya] at h3
    exact ⟨by have:=HN.out;simp only [ZG];omega,h3⟩
   have e:Hid (ds.drop i=[]):=List.drop_of_length_le (by have:=HN.out;omega)
   rw [e.out,List.append_nil] at HG
   go_wp2
   go_ret
   exact ⟨Yo hf.out.1.symm,by rw [←hf.out.2];exact HG.out,HO.out⟩
set_option maxHeartbeats 1600000 in
theorem Zia (A:Option Addr) (n c:Nat) (ds:List Int) (L:List Nat) (base:Nat) (k:Int) (w:World) (hn:n=ds.length) (hk0:1≤k) (hk1:Yb k ds≤4611686018427387904) (h:Got (ZY Zgq) base [.slice A n c] ds L w):
  Calls Tryz.prog 95 #[.slice A n c,.int .i64 k] w fun e w'=>e=.returned (.int .i64 (Yb k ds))∧Got (ZY Zgq) base [.slice A n c] (X6 k ds) L w'∧YF L w w':=by
 have H:=Lib.hid h
 have HN:=Lib.hid hn
 have hk1':k+n≤4611686018427387904:=by simp only [Yb] at hk1;omega
 clear h hn hk1
 go_enter Tryz.func95,Tryz.ntmps95
 go_wp2
 go_loopw [1,5] (fun q j wr=>∃(i:Nat) (kk:Int) (D:List Int),i≤n∧j=.int .i64 i∧q=.int .i64 kk∧1≤kk∧kk+(n - i:Nat)≤4611686018427387904∧Hid (kk=k+i∧D.length=i∧D++X6 kk (ds.drop i)=X6 k ds)∧Hid (Got (ZY Zgq) base [.slice A n c] (D++ds.drop i) L wr)∧Hid (YF L w wr)) (fun _ j _=>n - (intOf j).toNat)
 case atStart=>exact ⟨0,k,[],Nat.zero_le _,rfl,rfl,hk0,by omega,⟨by omega,rfl,rfl⟩,H.out,YF.refl _ _⟩
 case round=>
  obtain ⟨i,kk,D,hi,rfl,rfl,h1,h2,HD,HG,HO⟩:=hrel
  by_cases hlt:i<n
  ·have hil:i<ds.length:=by have:=HN.out;omega
   obtain ⟨hkk,hDl,hDm⟩:=HD.out
   have hcl:i<(D++ds.drop i).length:=by simp;omega
   obtain ⟨b,off,cs,Lk,rfl,hbL,hLk,hown,hrep,hcells,hput⟩:=HG.out.focus hcl
   obtain ⟨rfl,hlk⟩:=hrep
   have HEl:=Lib.hid (ZbD.start (m:=1) hcells rfl hown)
   have hnext:Hid (ds.drop i=ds[i]::ds.drop (i+1)):=List.drop_eq_getElem_cons _
   have HPut:=Lib.hid hput
   have HOwn:=Lib.hid hown
   have HLk:=Lib.hid hLk
   have HLe:=Lib.hid hlk
   have HDn:Hid (kk+1=k+(i+1:Nat)∧(D++[kk]).length=i+1∧(D++[kk])++X6 (kk+1) (ds.drop (i+1))=X6 k ds):=by
    refine ⟨by omega,by simp [hDl],?_⟩
    rw [←hDm,hnext.out];simp [X6]
   have hset:Hid ((D++ds.drop i).set i (kk)=(D++[kk])++ds.drop (i+1)):=by
    rw [Hid,List.set_append_right _ _ (by omega),show i - D.length=0 by omega,hnext.out,List.set_cons_zero];simp
   clear hput hown hLk hcells hkk hDl hDm hlk
   simp only [show Zgq.size=1 from rfl,Nat.mul_one] at HEl HPut
   have q1:=HEl.out.at (j:=0) rfl
   have z1:=HEl.out.frozen (off+i)
   simp only [Nat.add_zero] at q1
   go_wp2_with fail
   have E2:=Lib.hid (HEl.out.set 0 (by omega) (.int .i64 kk))
   have hO2:=Lib.hid (XO HOwn.out E2.out.plain E2.out.only (by rw [HLe.out];simp))
   have HGn:=Lib.hid (HPut.out _ _ (kk) E2.out.only E2.out.cells E2.out.rest (by rw [HLe.out];exact ⟨rfl,rfl⟩) hO2.out)
   have HOn:=Lib.hid (HO.out.trans (E2.out.only.mono (fun y m=>by rcases List.mem_cons.1 m with rfl | m;exact hbL;exact HLk.out y m)))
   rw [hset.out] at HGn
   simp only [Nat.add_zero] at HGn HOn
   clear E2 hO2 HPut
   go_wp2_with fail
   go_roundw
   case rel=>exact ⟨i+1,kk+1,_,by omega,by go_num,rfl,by omega,by omega,HDn,HGn,HOn⟩
   case measure=>simp [intOf];omega
  ·obtain rfl:i=n:=by omega
   have hf:Hid (Yb k ds=kk∧D=X6 k ds):=by
    obtain ⟨h1,h2,h3⟩:=HD.out
    have e:ds.drop i=[]:=List.drop_of_length_le (by have:=HN.out;omega)
    rw [e] at h3
    simp [X6] at h3
    exact ⟨by have:=HN.out;simp only [Yb];omega,h3⟩
   have e:Hid (ds.drop i=[]):=List.drop_of_length_le (by have:=HN.out;omega)
   rw [e.out,List.append_nil] at HG
   go_wp2
   go_ret
   exact ⟨Yo hf.out.1.symm,by rw [←hf.out.2];exact HG.out,HO.out⟩
set_option maxRecDepth 100000 in
set_option maxHeartbeats 4000000 in
theorem ZgC (A:Option Addr) (n c:Nat) (ds:List Zc) (L:List Nat) (base:Nat) (k:Int) (w:World) (hn:n=ds.length) (hm:n≤9223372036854775807) (hk0:1≤k) (hk1:Zy k ds≤4611686018427387904) (h:Got (ZY Y4) base [.slice A n c] ds L w):
  Calls Tryz.prog 19 #[.slice A n c,.int .i64 k] w fun e w'=>e=.returned (.int .i64 (Zy k ds))∧Got (ZY Y4) base [.slice A n c] (Xp k ds) L w'∧YF L w w':=by
 have H:=Lib.hid h
 have HN:=Lib.hid hn
 have HK:=Lib.hid hk1
 clear h hn hk1
 go_enter Tryz.func19,Tryz.ntmps19
 go_wp2
 go_loopw [1,5] (fun q j wr=>∃(i:Nat) (kk:Int) (D:List Zc),i≤n∧j=.int .i64 i∧q=.int .i64 kk∧1≤kk∧Hid (Zy kk (ds.drop i)=Zy k ds∧D.length=i∧D++Xp kk (ds.drop i)=Xp k ds)∧Hid (Got (ZY Y4) base [.slice A n c] (D++ds.drop i) L wr)∧Hid (YF L w wr)) (fun _ j _=>n - (intOf j).toNat)
 case atStart=>exact ⟨0,k,[],Nat.zero_le _,rfl,rfl,hk0,⟨rfl,rfl,rfl⟩,H.out,YF.refl _ _⟩
 case round=>
  obtain ⟨i,kk,D,hi,rfl,rfl,h1,HD,HG,HO⟩:=hrel
  by_cases hlt:i<n
  ·have hil:i<ds.length:=by have:=HN.out;omega
   obtain ⟨hkk,hDl,hDm⟩:=HD.out
   have hcl:i<(D++ds.drop i).length:=by simp;omega
   obtain ⟨b,off,cs,Lk,rfl,hbL,hLk,hown,hrep,hcells,hput⟩:=HG.out.focus hcl
   have hnext:Hid (ds.drop i=ds[i]::ds.drop (i+1)):=List.drop_eq_getElem_cons _
   have hxi:(D++ds.drop i)[i]=ds[i]:=by
    rw [List.getElem_append_right (by omega)];simp [hDl]
   rw [hxi] at hrep
   clear hxi
   generalize ds[i]=x at hrep hnext
   have hnb:Hid (Ys kk x≤4611686018427387904):=by
    have:=Zcq (Ys kk x) (ds.drop (i+1))
    rw [hnext.out] at hkk
    have hk:=HK.out
    rw [←hkk] at hk
    exact Int.le_trans this hk
   have hnb1:=hnb.out
   have hnb2:=Zfn kk x
   unfold Ys at hnb1 hnb2
   have HDn:Hid (Zy (Ys kk x) (ds.drop (i+1))=Zy k ds∧(D++[Zfl kk x]).length=i+1∧(D++[Zfl kk x])++Xp (Ys kk x) (ds.drop (i+1))=Xp k ds):=by
    refine ⟨by rw [←hkk,hnext.out];rfl,by simp [hDl],?_⟩
    rw [←hDm,hnext.out];simp [Xp]
   have hset:Hid ((D++ds.drop i).set i (Zfl kk x)=(D++[Zfl kk x])++ds.drop (i+1)):=by
    rw [Hid,List.set_append_right _ _ (by omega),show i - D.length=0 by omega,hnext.out,List.set_cons_zero];simp
   obtain ⟨A1,c1,L1,rfl,hLL,t0,n1,m1,s1⟩:=hrep
   unfold maxLen at m1
   subst Lk
   have HEl:=Lib.hid (ZbD.start (m:=2) hcells rfl hown)
   have hbn:=Lib.hid hown.head
   have G1:Hid (Got (ZY Zbm) base [.slice A1 x.args.length c1] x.args L1 wr):=⟨⟨A1,c1,rfl,n1,(by unfold maxLen;omega),s1⟩,hown.tail⟩
   have bn1:Hid (b∉L1):=fun m=>hown.head (by simp [m])
   have sb1:Hid (∀y∈L1,y∈L1):=fun y m=>by simp [m]
   clear s1
   have HPut:=Lib.hid hput
   have HOwn:=Lib.hid hown
   have HLk:=Lib.hid hLk
   clear hput hown hLk hcells hkk hDl hDm
   simp only [show Y4.size=2 from rfl] at HEl HPut
   have q0:=HEl.out.at (j:=0) rfl
   have z0:=HEl.out.frozen (off+i * 2)
   have q1:=HEl.out.at (j:=1) rfl
   have z1:=HEl.out.frozen (off+i * 2+1)
   simp only [Nat.add_zero] at q0
   have gm0:(0:Int)≤0:=by omega
   have mono_x_args:=Xl (kk+1) x.args
   go_wp2_with fail
   refine (Y7 _ _ (by omega) (by omega)).mono ?_
   rintro e w1 ⟨rfl,hb1⟩
   have HEl:=Lib.hid (HEl.out.later hb1)
   have G1:=Lib.hid (G1.out.later hb1)
   clear hb1
   clear q0 z0 q1 z1
   have q0:=HEl.out.at (j:=0) rfl
   have z0:=HEl.out.frozen (off+i * 2)
   have q1:=HEl.out.at (j:=1) rfl
   have z1:=HEl.out.frozen (off+i * 2+1)
   simp only [Nat.add_zero] at q0
   go_wp2_with fail
   have G1:=Lib.hid (G1.out.setFar (p:=⟨b,off+i * 2+0,none⟩) bn1.out (.string (mTx (kk))))
   refine (Zcd A1 _ c1 x.args L1 base _ _ rfl (by omega) (by omega) G1.out).mono ?_
   rintro e w2 ⟨rfl,g2,on2⟩
   have HEl:=Lib.hid ((HEl.out.set 0 (by omega) (.string (mTx (kk)))).marked on2 sb1.out bn1.out)
   have G1:=Lib.hid g2
   clear g2 on2
   clear q0 z0 q1 z1
   have q0:=HEl.out.at (j:=0) rfl
   have z0:=HEl.out.frozen (off+i * 2)
   have q1:=HEl.out.at (j:=1) rfl
   have z1:=HEl.out.frozen (off+i * 2+1)
   simp only [Nat.add_zero] at q0
   obtain ⟨nn1,mm1,ss1⟩:=ZU G1.out.rep
   have hO2:=Lib.hid (XO HOwn.out HEl.out.plain HEl.out.only (fun y m=>by (try simp only [List.mem_append] at m);exact G1.out.own.plain y m))
   have HGn:=Lib.hid (HPut.out _ _ (Zfl kk x) HEl.out.only HEl.out.cells HEl.out.rest ⟨A1,c1,L1,by simp [Zfl,Zai],rfl,ZcS _ (by omega),nn1,mm1,ss1⟩ hO2.out)
   have HOn:=Lib.hid (HO.out.trans (HEl.out.only.mono (fun y m=>by rcases List.mem_cons.1 m with rfl | m;exact hbL;exact HLk.out y m)))
   rw [hset.out] at HGn
   try simp only [Nat.add_zero] at HGn HOn
   clear HEl hO2 HPut G1 nn1 mm1 ss1
   go_wp2_with fail
   go_roundw
   case rel=>exact ⟨i+1,Ys kk x,_,by omega,by go_num,rfl,by unfold Ys;omega,HDn,HGn,HOn⟩
   case measure=>simp [intOf];omega
  ·obtain rfl:i=n:=by omega
   have e:Hid (ds.drop i=[]):=List.drop_of_length_le (by have:=HN.out;omega)
   have hf:Hid (Zy k ds=kk∧D=Xp k ds):=by
    obtain ⟨h1,h2,h3⟩:=HD.out
    rw [e.out] at h3 h1
    simp [Xp] at h3
    exact ⟨h1.symm,h3⟩
   rw [e.out,List.append_nil] at HG
   go_wp2
   go_ret
   exact ⟨Yo hf.out.1.symm,by rw [←hf.out.2];exact HG.out,HO.out⟩
set_option maxRecDepth 100000 in
set_option maxHeartbeats 4000000 in
theorem Zl7 (A:Option Addr) (n c:Nat) (ds:List Zm) (L:List Nat) (base:Nat) (k:Int) (w:World) (hn:n=ds.length) (hm:n≤9223372036854775807) (hk0:1≤k) (hk1:Yz k ds≤4611686018427387904) (h:Got (ZY XV) base [.slice A n c] ds L w):
  Calls Tryz.prog 51 #[.slice A n c,.int .i64 k] w fun e w'=>e=.returned (.int .i64 (Yz k ds))∧Got (ZY XV) base [.slice A n c] (Zao k ds) L w'∧YF L w w':=by
 have H:=Lib.hid h
 have HN:=Lib.hid hn
 have HK:=Lib.hid hk1
 clear h hn hk1
 go_enter Tryz.func51,Tryz.ntmps51
 go_wp2
 go_loopw [1,5] (fun q j wr=>∃(i:Nat) (kk:Int) (D:List Zm),i≤n∧j=.int .i64 i∧q=.int .i64 kk∧1≤kk∧Hid (Yz kk (ds.drop i)=Yz k ds∧D.length=i∧D++Zao kk (ds.drop i)=Zao k ds)∧Hid (Got (ZY XV) base [.slice A n c] (D++ds.drop i) L wr)∧Hid (YF L w wr)) (fun _ j _=>n - (intOf j).toNat)
 case atStart=>exact ⟨0,k,[],Nat.zero_le _,rfl,rfl,hk0,⟨rfl,rfl,rfl⟩,H.out,YF.refl _ _⟩
 case round=>
  obtain ⟨i,kk,D,hi,rfl,rfl,h1,HD,HG,HO⟩:=hrel
  by_cases hlt:i<n
  ·have hil:i<ds.length:=by have:=HN.out;omega
   obtain ⟨hkk,hDl,hDm⟩:=HD.out
   have hcl:i<(D++ds.drop i).length:=by simp;omega
   obtain ⟨b,off,cs,Lk,rfl,hbL,hLk,hown,hrep,hcells,hput⟩:=HG.out.focus hcl
   have hnext:Hid (ds.drop i=ds[i]::ds.drop (i+1)):=List.drop_eq_getElem_cons _
   have hxi:(D++ds.drop i)[i]=ds[i]:=by
    rw [List.getElem_append_right (by omega)];simp [hDl]
   rw [hxi] at hrep
   clear hxi
   generalize ds[i]=x at hrep hnext
   have hnb:Hid (XD kk x≤4611686018427387904):=by
    have:=ZeT (XD kk x) (ds.drop (i+1))
    rw [hnext.out] at hkk
    have hk:=HK.out
    rw [←hkk] at hk
    exact Int.le_trans this hk
   have hnb1:=hnb.out
   have hnb2:=ZiT kk x
   unfold XD at hnb1 hnb2
   have HDn:Hid (Yz (XD kk x) (ds.drop (i+1))=Yz k ds∧(D++[Zhq kk x]).length=i+1∧(D++[Zhq kk x])++Zao (XD kk x) (ds.drop (i+1))=Zao k ds):=by
    refine ⟨by rw [←hkk,hnext.out];rfl,by simp [hDl],?_⟩
    rw [←hDm,hnext.out];simp [Zao]
   have hset:Hid ((D++ds.drop i).set i (Zhq kk x)=(D++[Zhq kk x])++ds.drop (i+1)):=by
    rw [Hid,List.set_append_right _ _ (by omega),show i - D.length=0 by omega,hnext.out,List.set_cons_zero];simp
   obtain ⟨A1,c1,L1,rfl,hLL,t0,t1,t2,n1,m1,s1⟩:=hrep
   unfold maxLen at m1
   subst Lk
   have HEl:=Lib.hid (ZbD.start (m:=5) hcells rfl hown)
   have hbn:=Lib.hid hown.head
   have G1:Hid (Got (ZY Zbm) base [.slice A1 x.pattern.args.length c1] x.pattern.args L1 wr):=⟨⟨A1,c1,rfl,n1,(by unfold maxLen;omega),s1⟩,hown.tail⟩
   have bn1:Hid (b∉L1):=fun m=>hown.head (by simp [m])
   have sb1:Hid (∀y∈L1,y∈L1):=fun y m=>by simp [m]
   clear s1
   have HPut:=Lib.hid hput
   have HOwn:=Lib.hid hown
   have HLk:=Lib.hid hLk
   clear hput hown hLk hcells hkk hDl hDm
   simp only [show XV.size=5 from rfl] at HEl HPut
   have q0:=HEl.out.at (j:=0) rfl
   have z0:=HEl.out.frozen (off+i * 5)
   have q1:=HEl.out.at (j:=1) rfl
   have z1:=HEl.out.frozen (off+i * 5+1)
   have q2:=HEl.out.at (j:=2) rfl
   have z2:=HEl.out.frozen (off+i * 5+2)
   have q3:=HEl.out.at (j:=3) rfl
   have z3:=HEl.out.frozen (off+i * 5+3)
   have q4:=HEl.out.at (j:=4) rfl
   have z4:=HEl.out.frozen (off+i * 5+4)
   simp only [Nat.add_zero] at q0
   have gm0:(0:Int)≤0:=by omega
   have mono_x_pattern_args:=Xl (kk+1+1) x.pattern.args
   go_wp2_with fail
   refine (Y7 _ _ (by omega) (by omega)).mono ?_
   rintro e w1 ⟨rfl,hb1⟩
   have HEl:=Lib.hid ((HEl.out.set 0 (by omega) (.int .i64 (kk))).later hb1)
   have G1:=Lib.hid ((G1.out.setFar (p:=⟨b,off+i * 5+0,none⟩) bn1.out (.int .i64 (kk))).later hb1)
   clear hb1
   clear q0 z0 q1 z1 q2 z2 q3 z3 q4 z4
   have q0:=HEl.out.at (j:=0) rfl
   have z0:=HEl.out.frozen (off+i * 5)
   have q1:=HEl.out.at (j:=1) rfl
   have z1:=HEl.out.frozen (off+i * 5+1)
   have q2:=HEl.out.at (j:=2) rfl
   have z2:=HEl.out.frozen (off+i * 5+2)
   have q3:=HEl.out.at (j:=3) rfl
   have z3:=HEl.out.frozen (off+i * 5+3)
   have q4:=HEl.out.at (j:=4) rfl
   have z4:=HEl.out.frozen (off+i * 5+4)
   simp only [Nat.add_zero] at q0
   go_wp2_with fail
   have G1:=Lib.hid (G1.out.setFar (p:=⟨b,off+i * 5+1,none⟩) bn1.out (.string (mTx (kk+1))))
   refine (Zcd A1 _ c1 x.pattern.args L1 base _ _ rfl (by omega) (by omega) G1.out).mono ?_
   rintro e w2 ⟨rfl,g2,on2⟩
   have HEl:=Lib.hid ((HEl.out.set 1 (by omega) (.string (mTx (kk+1)))).marked on2 sb1.out bn1.out)
   have G1:=Lib.hid g2
   clear g2 on2
   clear q0 z0 q1 z1 q2 z2 q3 z3 q4 z4
   have q0:=HEl.out.at (j:=0) rfl
   have z0:=HEl.out.frozen (off+i * 5)
   have q1:=HEl.out.at (j:=1) rfl
   have z1:=HEl.out.frozen (off+i * 5+1)
   have q2:=HEl.out.at (j:=2) rfl
   have z2:=HEl.out.frozen (off+i * 5+2)
   have q3:=HEl.out.at (j:=3) rfl
   have z3:=HEl.out.frozen (off+i * 5+3)
   have q4:=HEl.out.at (j:=4) rfl
   have z4:=HEl.out.frozen (off+i * 5+4)
   simp only [Nat.add_zero] at q0
   go_wp2_with fail
   refine (Y7 _ _ (by omega) (by omega)).mono ?_
   rintro e w3 ⟨rfl,hb3⟩
   have HEl:=Lib.hid (HEl.out.later hb3)
   have G1:=Lib.hid (G1.out.later hb3)
   clear hb3
   clear q0 z0 q1 z1 q2 z2 q3 z3 q4 z4
   have q0:=HEl.out.at (j:=0) rfl
   have z0:=HEl.out.frozen (off+i * 5)
   have q1:=HEl.out.at (j:=1) rfl
   have z1:=HEl.out.frozen (off+i * 5+1)
   have q2:=HEl.out.at (j:=2) rfl
   have z2:=HEl.out.frozen (off+i * 5+2)
   have q3:=HEl.out.at (j:=3) rfl
   have z3:=HEl.out.frozen (off+i * 5+3)
   have q4:=HEl.out.at (j:=4) rfl
   have z4:=HEl.out.frozen (off+i * 5+4)
   simp only [Nat.add_zero] at q0
   go_wp2_with fail
   refine (Y7 _ _ (by omega) (by omega)).mono ?_
   rintro e w4 ⟨rfl,hb4⟩
   have HEl:=Lib.hid ((HEl.out.set 3 (by omega) (.string (mTx (ZG (kk+1+1) x.pattern.args)))).later hb4)
   have G1:=Lib.hid ((G1.out.setFar (p:=⟨b,off+i * 5+3,none⟩) bn1.out (.string (mTx (ZG (kk+1+1) x.pattern.args)))).later hb4)
   clear hb4
   clear q0 z0 q1 z1 q2 z2 q3 z3 q4 z4
   have q0:=HEl.out.at (j:=0) rfl
   have z0:=HEl.out.frozen (off+i * 5)
   have q1:=HEl.out.at (j:=1) rfl
   have z1:=HEl.out.frozen (off+i * 5+1)
   have q2:=HEl.out.at (j:=2) rfl
   have z2:=HEl.out.frozen (off+i * 5+2)
   have q3:=HEl.out.at (j:=3) rfl
   have z3:=HEl.out.frozen (off+i * 5+3)
   have q4:=HEl.out.at (j:=4) rfl
   have z4:=HEl.out.frozen (off+i * 5+4)
   simp only [Nat.add_zero] at q0
   have HEl:=Lib.hid (HEl.out.set 4 (by omega) (.string (mTx (ZG (kk+1+1) x.pattern.args+1))))
   have G1:=Lib.hid (G1.out.setFar (p:=⟨b,off+i * 5+4,none⟩) bn1.out (.string (mTx (ZG (kk+1+1) x.pattern.args+1))))
   obtain ⟨nn1,mm1,ss1⟩:=ZU G1.out.rep
   have hO2:=Lib.hid (XO HOwn.out HEl.out.plain HEl.out.only (fun y m=>by (try simp only [List.mem_append] at m);exact G1.out.own.plain y m))
   have HGn:=Lib.hid (HPut.out _ _ (Zhq kk x) HEl.out.only HEl.out.cells HEl.out.rest ⟨A1,c1,L1,by simp [Zhq,Zai],rfl,ZcS _ (by omega),ZcS _ (by omega),ZcS _ (by omega),nn1,mm1,ss1⟩ hO2.out)
   have HOn:=Lib.hid (HO.out.trans (HEl.out.only.mono (fun y m=>by rcases List.mem_cons.1 m with rfl | m;exact hbL;exact HLk.out y m)))
   rw [hset.out] at HGn
   try simp only [Nat.add_zero] at HGn HOn
   clear HEl hO2 HPut G1 nn1 mm1 ss1
   go_wp2_with fail
   go_roundw
   case rel=>exact ⟨i+1,XD kk x,_,by omega,by go_num,rfl,by unfold XD;omega,HDn,HGn,HOn⟩
   case measure=>simp [intOf];omega
  ·obtain rfl:i=n:=by omega
   have e:Hid (ds.drop i=[]):=List.drop_of_length_le (by have:=HN.out;omega)
   have hf:Hid (Yz k ds=kk∧D=Zao k ds):=by
    obtain ⟨h1,h2,h3⟩:=HD.out
    rw [e.out] at h3 h1
    simp [Zao] at h3
    exact ⟨h1.symm,h3⟩
   rw [e.out,List.append_nil] at HG
   go_wp2
   go_ret
   exact ⟨Yo hf.out.1.symm,by rw [←hf.out.2];exact HG.out,HO.out⟩
set_option maxRecDepth 100000 in
set_option maxHeartbeats 4000000 in
theorem ZjG (A:Option Addr) (n c:Nat) (ds:List Zr) (L:List Nat) (base:Nat) (k:Int) (w:World) (hn:n=ds.length) (hm:n≤9223372036854775807) (hk0:1≤k) (hk1:YB k ds≤4611686018427387904) (h:Got (ZY Yk) base [.slice A n c] ds L w):
  Calls Tryz.prog 52 #[.slice A n c,.int .i64 k] w fun e w'=>e=.returned (.int .i64 (YB k ds))∧Got (ZY Yk) base [.slice A n c] (XA k ds) L w'∧YF L w w':=by
 have H:=Lib.hid h
 have HN:=Lib.hid hn
 have HK:=Lib.hid hk1
 clear h hn hk1
 go_enter Tryz.func52,Tryz.ntmps52
 go_wp2
 go_loopw [1,5] (fun q j wr=>∃(i:Nat) (kk:Int) (D:List Zr),i≤n∧j=.int .i64 i∧q=.int .i64 kk∧1≤kk∧Hid (YB kk (ds.drop i)=YB k ds∧D.length=i∧D++XA kk (ds.drop i)=XA k ds)∧Hid (Got (ZY Yk) base [.slice A n c] (D++ds.drop i) L wr)∧Hid (YF L w wr)) (fun _ j _=>n - (intOf j).toNat)
 case atStart=>exact ⟨0,k,[],Nat.zero_le _,rfl,rfl,hk0,⟨rfl,rfl,rfl⟩,H.out,YF.refl _ _⟩
 case round=>
  obtain ⟨i,kk,D,hi,rfl,rfl,h1,HD,HG,HO⟩:=hrel
  by_cases hlt:i<n
  ·have hil:i<ds.length:=by have:=HN.out;omega
   obtain ⟨hkk,hDl,hDm⟩:=HD.out
   have hcl:i<(D++ds.drop i).length:=by simp;omega
   obtain ⟨b,off,cs,Lk,rfl,hbL,hLk,hown,hrep,hcells,hput⟩:=HG.out.focus hcl
   have hnext:Hid (ds.drop i=ds[i]::ds.drop (i+1)):=List.drop_eq_getElem_cons _
   have hxi:(D++ds.drop i)[i]=ds[i]:=by
    rw [List.getElem_append_right (by omega)];simp [hDl]
   rw [hxi] at hrep
   clear hxi
   generalize ds[i]=x at hrep hnext
   have hnb:Hid (YH kk x≤4611686018427387904):=by
    have:=Zdb (YH kk x) (ds.drop (i+1))
    rw [hnext.out] at hkk
    have hk:=HK.out
    rw [←hkk] at hk
    exact Int.le_trans this hk
   have hnb1:=hnb.out
   have hnb2:=Zgy kk x
   unfold YH at hnb1 hnb2
   have HDn:Hid (YB (YH kk x) (ds.drop (i+1))=YB k ds∧(D++[Zdj kk x]).length=i+1∧(D++[Zdj kk x])++XA (YH kk x) (ds.drop (i+1))=XA k ds):=by
    refine ⟨by rw [←hkk,hnext.out];rfl,by simp [hDl],?_⟩
    rw [←hDm,hnext.out];simp [XA]
   have hset:Hid ((D++ds.drop i).set i (Zdj kk x)=(D++[Zdj kk x])++ds.drop (i+1)):=by
    rw [Hid,List.set_append_right _ _ (by omega),show i - D.length=0 by omega,hnext.out,List.set_cons_zero];simp
   obtain ⟨A1,c1,L1,rfl,hLL,t0,n1,m1,s1⟩:=hrep
   unfold maxLen at m1
   subst Lk
   have HEl:=Lib.hid (ZbD.start (m:=3) hcells rfl hown)
   have hbn:=Lib.hid hown.head
   have G1:Hid (Got (ZY Zbm) base [.slice A1 x.pattern.args.length c1] x.pattern.args L1 wr):=⟨⟨A1,c1,rfl,n1,(by unfold maxLen;omega),s1⟩,hown.tail⟩
   have bn1:Hid (b∉L1):=fun m=>hown.head (by simp [m])
   have sb1:Hid (∀y∈L1,y∈L1):=fun y m=>by simp [m]
   clear s1
   have HPut:=Lib.hid hput
   have HOwn:=Lib.hid hown
   have HLk:=Lib.hid hLk
   clear hput hown hLk hcells hkk hDl hDm
   simp only [show Yk.size=3 from rfl] at HEl HPut
   have q0:=HEl.out.at (j:=0) rfl
   have z0:=HEl.out.frozen (off+i * 3)
   have q1:=HEl.out.at (j:=1) rfl
   have z1:=HEl.out.frozen (off+i * 3+1)
   have q2:=HEl.out.at (j:=2) rfl
   have z2:=HEl.out.frozen (off+i * 3+2)
   simp only [Nat.add_zero] at q0
   have gm0:(0:Int)≤0:=by omega
   have mono_x_pattern_args:=Xl (kk+1+1) x.pattern.args
   go_wp2_with fail
   refine (Y7 _ _ (by omega) (by omega)).mono ?_
   rintro e w1 ⟨rfl,hb1⟩
   have HEl:=Lib.hid ((HEl.out.set 0 (by omega) (.int .i64 (kk))).later hb1)
   have G1:=Lib.hid ((G1.out.setFar (p:=⟨b,off+i * 3+0,none⟩) bn1.out (.int .i64 (kk))).later hb1)
   clear hb1
   clear q0 z0 q1 z1 q2 z2
   have q0:=HEl.out.at (j:=0) rfl
   have z0:=HEl.out.frozen (off+i * 3)
   have q1:=HEl.out.at (j:=1) rfl
   have z1:=HEl.out.frozen (off+i * 3+1)
   have q2:=HEl.out.at (j:=2) rfl
   have z2:=HEl.out.frozen (off+i * 3+2)
   simp only [Nat.add_zero] at q0
   go_wp2_with fail
   have G1:=Lib.hid (G1.out.setFar (p:=⟨b,off+i * 3+1,none⟩) bn1.out (.string (mTx (kk+1))))
   refine (Zcd A1 _ c1 x.pattern.args L1 base _ _ rfl (by omega) (by omega) G1.out).mono ?_
   rintro e w2 ⟨rfl,g2,on2⟩
   have HEl:=Lib.hid ((HEl.out.set 1 (by omega) (.string (mTx (kk+1)))).marked on2 sb1.out bn1.out)
   have G1:=Lib.hid g2
   clear g2 on2
   clear q0 z0 q1 z1 q2 z2
   have q0:=HEl.out.at (j:=0) rfl
   have z0:=HEl.out.frozen (off+i * 3)
   have q1:=HEl.out.at (j:=1) rfl
   have z1:=HEl.out.frozen (off+i * 3+1)
   have q2:=HEl.out.at (j:=2) rfl
   have z2:=HEl.out.frozen (off+i * 3+2)
   simp only [Nat.add_zero] at q0
   obtain ⟨nn1,mm1,ss1⟩:=ZU G1.out.rep
   have hO2:=Lib.hid (XO HOwn.out HEl.out.plain HEl.out.only (fun y m=>by (try simp only [List.mem_append] at m);exact G1.out.own.plain y m))
   have HGn:=Lib.hid (HPut.out _ _ (Zdj kk x) HEl.out.only HEl.out.cells HEl.out.rest ⟨A1,c1,L1,by simp [Zdj,Zai],rfl,ZcS _ (by omega),nn1,mm1,ss1⟩ hO2.out)
   have HOn:=Lib.hid (HO.out.trans (HEl.out.only.mono (fun y m=>by rcases List.mem_cons.1 m with rfl | m;exact hbL;exact HLk.out y m)))
   rw [hset.out] at HGn
   try simp only [Nat.add_zero] at HGn HOn
   clear HEl hO2 HPut G1 nn1 mm1 ss1
   go_wp2_with fail
   go_roundw
   case rel=>exact ⟨i+1,YH kk x,_,by omega,by go_num,rfl,by unfold YH;omega,HDn,HGn,HOn⟩
   case measure=>simp [intOf];omega
  ·obtain rfl:i=n:=by omega
   have e:Hid (ds.drop i=[]):=List.drop_of_length_le (by have:=HN.out;omega)
   have hf:Hid (YB k ds=kk∧D=XA k ds):=by
    obtain ⟨h1,h2,h3⟩:=HD.out
    rw [e.out] at h3 h1
    simp [XA] at h3
    exact ⟨h1.symm,h3⟩
   rw [e.out,List.append_nil] at HG
   go_wp2
   go_ret
   exact ⟨Yo hf.out.1.symm,by rw [←hf.out.2];exact HG.out,HO.out⟩
set_option maxRecDepth 100000 in
set_option maxHeartbeats 4000000 in
theorem ZlE (A:Option Addr) (n c:Nat) (ds:List Zf) (L:List Nat) (base:Nat) (k:Int) (w:World) (hn:n=ds.length) (hm:n≤9223372036854775807) (hk0:1≤k) (hk1:YC k ds≤4611686018427387904) (h:Got (ZY XU) base [.slice A n c] ds L w):
  Calls Tryz.prog 18 #[.slice A n c,.int .i64 k] w fun e w'=>e=.returned (.int .i64 (YC k ds))∧Got (ZY XU) base [.slice A n c] (Zco k ds) L w'∧YF L w w':=by
 have H:=Lib.hid h
 have HN:=Lib.hid hn
 have HK:=Lib.hid hk1
 clear h hn hk1
 go_enter Tryz.func18,Tryz.ntmps18
 go_wp2
 go_loopw [1,5] (fun q j wr=>∃(i:Nat) (kk:Int) (D:List Zf),i≤n∧j=.int .i64 i∧q=.int .i64 kk∧1≤kk∧Hid (YC kk (ds.drop i)=YC k ds∧D.length=i∧D++Zco kk (ds.drop i)=Zco k ds)∧Hid (Got (ZY XU) base [.slice A n c] (D++ds.drop i) L wr)∧Hid (YF L w wr)) (fun _ j _=>n - (intOf j).toNat)
 case atStart=>exact ⟨0,k,[],Nat.zero_le _,rfl,rfl,hk0,⟨rfl,rfl,rfl⟩,H.out,YF.refl _ _⟩
 case round=>
  obtain ⟨i,kk,D,hi,rfl,rfl,h1,HD,HG,HO⟩:=hrel
  by_cases hlt:i<n
  ·have hil:i<ds.length:=by have:=HN.out;omega
   obtain ⟨hkk,hDl,hDm⟩:=HD.out
   have hcl:i<(D++ds.drop i).length:=by simp;omega
   obtain ⟨b,off,cs,Lk,rfl,hbL,hLk,hown,hrep,hcells,hput⟩:=HG.out.focus hcl
   have hnext:Hid (ds.drop i=ds[i]::ds.drop (i+1)):=List.drop_eq_getElem_cons _
   have hxi:(D++ds.drop i)[i]=ds[i]:=by
    rw [List.getElem_append_right (by omega)];simp [hDl]
   rw [hxi] at hrep
   clear hxi
   generalize ds[i]=x at hrep hnext
   have hnb:Hid (XK kk x≤4611686018427387904):=by
    have:=ZhJ (XK kk x) (ds.drop (i+1))
    rw [hnext.out] at hkk
    have hk:=HK.out
    rw [←hkk] at hk
    exact Int.le_trans this hk
   have hnb1:=hnb.out
   have hnb2:=Zi4 kk x
   unfold XK at hnb1 hnb2
   have HDn:Hid (YC (XK kk x) (ds.drop (i+1))=YC k ds∧(D++[Zg2 kk x]).length=i+1∧(D++[Zg2 kk x])++Zco (XK kk x) (ds.drop (i+1))=Zco k ds):=by
    refine ⟨by rw [←hkk,hnext.out];rfl,by simp [hDl],?_⟩
    rw [←hDm,hnext.out];simp [Zco]
   have hset:Hid ((D++ds.drop i).set i (Zg2 kk x)=(D++[Zg2 kk x])++ds.drop (i+1)):=by
    rw [Hid,List.set_append_right _ _ (by omega),show i - D.length=0 by omega,hnext.out,List.set_cons_zero];simp
   obtain ⟨A1,c1,L1,A2,c2,L2,rfl,hLL,t0,n1,m1,s1,n2,m2,s2⟩:=hrep
   unfold maxLen at m1 m2
   subst hLL
   have HEl:=Lib.hid (ZbD.start (m:=4) hcells rfl hown)
   have hbn:=Lib.hid hown.head
   have G1:Hid (Got (ZY XV) base [.slice A1 x.cond.length c1] x.cond L1 wr):=⟨⟨A1,c1,rfl,n1,(by unfold maxLen;omega),s1⟩,hown.tail.left⟩
   have bn1:Hid (b∉L1):=fun m=>hown.head (by simp [m])
   have sb1:Hid (∀y∈L1,y∈L1++L2):=fun y m=>by simp [m]
   have ap1_2:Hid (∀y∈L1,y∉L2):=fun y m m'=>hown.tail.apart y m (by simp [m'])
   have ap2_1:Hid (∀y∈L2,y∉L1):=fun y m m'=>ap1_2.out y m' m
   have G2:Hid (Got (ZY Yk) base [.slice A2 x.thn.length c2] x.thn L2 wr):=⟨⟨A2,c2,rfl,n2,(by unfold maxLen;omega),s2⟩,hown.tail.right⟩
   have bn2:Hid (b∉L2):=fun m=>hown.head (by simp [m])
   have sb2:Hid (∀y∈L2,y∈L1++L2):=fun y m=>by simp [m]
   clear s1
   clear s2
   have HPut:=Lib.hid hput
   have HOwn:=Lib.hid hown
   have HLk:=Lib.hid hLk
   clear hput hown hLk hcells hkk hDl hDm
   simp only [show XU.size=4 from rfl] at HEl HPut
   have q0:=HEl.out.at (j:=0) rfl
   have z0:=HEl.out.frozen (off+i * 4)
   have q1:=HEl.out.at (j:=1) rfl
   have z1:=HEl.out.frozen (off+i * 4+1)
   have q2:=HEl.out.at (j:=2) rfl
   have z2:=HEl.out.frozen (off+i * 4+2)
   have q3:=HEl.out.at (j:=3) rfl
   have z3:=HEl.out.frozen (off+i * 4+3)
   simp only [Nat.add_zero] at q0
   have gm0:(0:Int)≤0:=by omega
   have mono_x_cond:=ZeT (kk+1+1) x.cond
   have mono_x_thn:=Zdb (Yz (kk+1+1) x.cond) x.thn
   go_wp2_with fail
   refine (Y7 _ _ (by omega) (by omega)).mono ?_
   rintro e w1 ⟨rfl,hb1⟩
   have HEl:=Lib.hid (HEl.out.later hb1)
   have G1:=Lib.hid (G1.out.later hb1)
   have G2:=Lib.hid (G2.out.later hb1)
   clear hb1
   clear q0 z0 q1 z1 q2 z2 q3 z3
   have q0:=HEl.out.at (j:=0) rfl
   have z0:=HEl.out.frozen (off+i * 4)
   have q1:=HEl.out.at (j:=1) rfl
   have z1:=HEl.out.frozen (off+i * 4+1)
   have q2:=HEl.out.at (j:=2) rfl
   have z2:=HEl.out.frozen (off+i * 4+2)
   have q3:=HEl.out.at (j:=3) rfl
   have z3:=HEl.out.frozen (off+i * 4+3)
   simp only [Nat.add_zero] at q0
   go_wp2_with fail
   have G1:=Lib.hid ((G1.out.setFar (p:=⟨b,off+i * 4+0,none⟩) bn1.out (.string (mTx (kk)))).setFar (p:=⟨b,off+i * 4+1,none⟩) bn1.out (.int .i64 (kk+1)))
   refine (Zl7 A1 _ c1 x.cond L1 base _ _ rfl (by omega) (by omega) (by omega) G1.out).mono ?_
   rintro e w2 ⟨rfl,g2,on2⟩
   have HEl:=Lib.hid (((HEl.out.set 0 (by omega) (.string (mTx (kk)))).set 1 (by omega) (.int .i64 (kk+1))).marked on2 sb1.out bn1.out)
   have G1:=Lib.hid g2
   have G2:=Lib.hid (((G2.out.setFar (p:=⟨b,off+i * 4+0,none⟩) bn2.out (.string (mTx (kk)))).setFar (p:=⟨b,off+i * 4+1,none⟩) bn2.out (.int .i64 (kk+1))).only on2 ap2_1.out)
   clear g2 on2
   clear q0 z0 q1 z1 q2 z2 q3 z3
   have q0:=HEl.out.at (j:=0) rfl
   have z0:=HEl.out.frozen (off+i * 4)
   have q1:=HEl.out.at (j:=1) rfl
   have z1:=HEl.out.frozen (off+i * 4+1)
   have q2:=HEl.out.at (j:=2) rfl
   have z2:=HEl.out.frozen (off+i * 4+2)
   have q3:=HEl.out.at (j:=3) rfl
   have z3:=HEl.out.frozen (off+i * 4+3)
   simp only [Nat.add_zero] at q0
   go_wp2_with fail
   refine (ZjG A2 _ c2 x.thn L2 base _ _ rfl (by omega) (by omega) (by omega) G2.out).mono ?_
   rintro e w3 ⟨rfl,g3,on3⟩
   have HEl:=Lib.hid (HEl.out.marked on3 sb2.out bn2.out)
   have G1:=Lib.hid (G1.out.only on3 ap1_2.out)
   have G2:=Lib.hid g3
   clear g3 on3
   clear q0 z0 q1 z1 q2 z2 q3 z3
   have q0:=HEl.out.at (j:=0) rfl
   have z0:=HEl.out.frozen (off+i * 4)
   have q1:=HEl.out.at (j:=1) rfl
   have z1:=HEl.out.frozen (off+i * 4+1)
   have q2:=HEl.out.at (j:=2) rfl
   have z2:=HEl.out.frozen (off+i * 4+2)
   have q3:=HEl.out.at (j:=3) rfl
   have z3:=HEl.out.frozen (off+i * 4+3)
   simp only [Nat.add_zero] at q0
   obtain ⟨nn1,mm1,ss1⟩:=ZU G1.out.rep
   obtain ⟨nn2,mm2,ss2⟩:=ZU G2.out.rep
   have hO2:=Lib.hid (XO HOwn.out HEl.out.plain HEl.out.only (fun y m=>by (try simp only [List.mem_append] at m);rcases m with m | m<;>first | exact G1.out.own.plain y m | exact G2.out.own.plain y m))
   have HGn:=Lib.hid (HPut.out _ _ (Zg2 kk x) HEl.out.only HEl.out.cells HEl.out.rest ⟨A1,c1,L1,A2,c2,L2,by simp [Zg2,ZoK,ZlZ],rfl,ZcS _ (by omega),nn1,mm1,ss1,nn2,mm2,ss2⟩ hO2.out)
   have HOn:=Lib.hid (HO.out.trans (HEl.out.only.mono (fun y m=>by rcases List.mem_cons.1 m with rfl | m;exact hbL;exact HLk.out y m)))
   rw [hset.out] at HGn
   try simp only [Nat.add_zero] at HGn HOn
   clear HEl hO2 HPut G1 G2 nn1 nn2 mm1 mm2 ss1 ss2
   go_wp2_with fail
   go_roundw
   case rel=>exact ⟨i+1,XK kk x,_,by omega,by go_num,rfl,by unfold XK;omega,HDn,HGn,HOn⟩
   case measure=>simp [intOf];omega
  ·obtain rfl:i=n:=by omega
   have e:Hid (ds.drop i=[]):=List.drop_of_length_le (by have:=HN.out;omega)
   have hf:Hid (YC k ds=kk∧D=Zco k ds):=by
    obtain ⟨h1,h2,h3⟩:=HD.out
    rw [e.out] at h3 h1
    simp [Zco] at h3
    exact ⟨h1.symm,h3⟩
   rw [e.out,List.append_nil] at HG
   go_wp2
   go_ret
   exact ⟨Yo hf.out.1.symm,by rw [←hf.out.2];exact HG.out,HO.out⟩
set_option maxRecDepth 100000 in
set_option maxHeartbeats 4000000 in
theorem ZjL (A:Option Addr) (n c:Nat) (ds:List Zh) (L:List Nat) (base:Nat) (k:Int) (w:World) (hn:n=ds.length) (hm:n≤9223372036854775807) (hk0:1≤k) (hk1:ZV k ds≤4611686018427387904) (h:Got (ZY Xa) base [.slice A n c] ds L w):
  Calls Tryz.prog 54 #[.slice A n c,.int .i64 k] w fun e w'=>e=.returned (.int .i64 (ZV k ds))∧Got (ZY Xa) base [.slice A n c] (Z7 k ds) L w'∧YF L w w':=by
 have H:=Lib.hid h
 have HN:=Lib.hid hn
 have HK:=Lib.hid hk1
 clear h hn hk1
 go_enter Tryz.func54,Tryz.ntmps54
 go_wp2
 go_loopw [1,5] (fun q j wr=>∃(i:Nat) (kk:Int) (D:List Zh),i≤n∧j=.int .i64 i∧q=.int .i64 kk∧1≤kk∧Hid (ZV kk (ds.drop i)=ZV k ds∧D.length=i∧D++Z7 kk (ds.drop i)=Z7 k ds)∧Hid (Got (ZY Xa) base [.slice A n c] (D++ds.drop i) L wr)∧Hid (YF L w wr)) (fun _ j _=>n - (intOf j).toNat)
 case atStart=>exact ⟨0,k,[],Nat.zero_le _,rfl,rfl,hk0,⟨rfl,rfl,rfl⟩,H.out,YF.refl _ _⟩
 case round=>
  obtain ⟨i,kk,D,hi,rfl,rfl,h1,HD,HG,HO⟩:=hrel
  by_cases hlt:i<n
  ·have hil:i<ds.length:=by have:=HN.out;omega
   obtain ⟨hkk,hDl,hDm⟩:=HD.out
   have hcl:i<(D++ds.drop i).length:=by simp;omega
   obtain ⟨b,off,cs,Lk,rfl,hbL,hLk,hown,hrep,hcells,hput⟩:=HG.out.focus hcl
   have hnext:Hid (ds.drop i=ds[i]::ds.drop (i+1)):=List.drop_eq_getElem_cons _
   have hxi:(D++ds.drop i)[i]=ds[i]:=by
    rw [List.getElem_append_right (by omega)];simp [hDl]
   rw [hxi] at hrep
   clear hxi
   generalize ds[i]=x at hrep hnext
   have hnb:Hid (ZZ kk x≤4611686018427387904):=by
    have:=QT (ZZ kk x) (ds.drop (i+1))
    rw [hnext.out] at hkk
    have hk:=HK.out
    rw [←hkk] at hk
    exact Int.le_trans this hk
   have hnb1:=hnb.out
   have hnb2:=Zd7 kk x
   unfold ZZ at hnb1 hnb2
   have HDn:Hid (ZV (ZZ kk x) (ds.drop (i+1))=ZV k ds∧(D++[Zbl kk x]).length=i+1∧(D++[Zbl kk x])++Z7 (ZZ kk x) (ds.drop (i+1))=Z7 k ds):=by
    refine ⟨by rw [←hkk,hnext.out];rfl,by simp [hDl],?_⟩
    rw [←hDm,hnext.out];simp [Z7]
   have hset:Hid ((D++ds.drop i).set i (Zbl kk x)=(D++[Zbl kk x])++ds.drop (i+1)):=by
    rw [Hid,List.set_append_right _ _ (by omega),show i - D.length=0 by omega,hnext.out,List.set_cons_zero];simp
   obtain ⟨A1,c1,L1,A2,c2,L2,rfl,hLL,n1,m1,s1,n2,m2,s2⟩:=hrep
   unfold maxLen at m1 m2
   subst hLL
   have HEl:=Lib.hid (ZbD.start (m:=3) hcells rfl hown)
   have hbn:=Lib.hid hown.head
   have G1:Hid (Got (ZY Zgq) base [.slice A1 x.inn.length c1] x.inn L1 wr):=⟨⟨A1,c1,rfl,n1,(by unfold maxLen;omega),s1⟩,hown.tail.left⟩
   have bn1:Hid (b∉L1):=fun m=>hown.head (by simp [m])
   have sb1:Hid (∀y∈L1,y∈L1++L2):=fun y m=>by simp [m]
   have ap1_2:Hid (∀y∈L1,y∉L2):=fun y m m'=>hown.tail.apart y m (by simp [m'])
   have ap2_1:Hid (∀y∈L2,y∉L1):=fun y m m'=>ap1_2.out y m' m
   have G2:Hid (Got (ZY Zgq) base [.slice A2 x.outs.length c2] x.outs L2 wr):=⟨⟨A2,c2,rfl,n2,(by unfold maxLen;omega),s2⟩,hown.tail.right⟩
   have bn2:Hid (b∉L2):=fun m=>hown.head (by simp [m])
   have sb2:Hid (∀y∈L2,y∈L1++L2):=fun y m=>by simp [m]
   clear s1
   clear s2
   have HPut:=Lib.hid hput
   have HOwn:=Lib.hid hown
   have HLk:=Lib.hid hLk
   clear hput hown hLk hcells hkk hDl hDm
   simp only [show Xa.size=3 from rfl] at HEl HPut
   have q0:=HEl.out.at (j:=0) rfl
   have z0:=HEl.out.frozen (off+i * 3)
   have q1:=HEl.out.at (j:=1) rfl
   have z1:=HEl.out.frozen (off+i * 3+1)
   have q2:=HEl.out.at (j:=2) rfl
   have z2:=HEl.out.frozen (off+i * 3+2)
   simp only [Nat.add_zero] at q0
   have gm0:(0:Int)≤0:=by omega
   have mono_x_inn:=ZaM (kk+1) x.inn
   have mono_x_outs:=ZaM (Yb (kk+1) x.inn) x.outs
   go_wp2_with fail
   have G1:=Lib.hid (G1.out.setFar (p:=⟨b,off+i * 3+0,none⟩) bn1.out (.int .i64 (kk)))
   refine (Zia A1 _ c1 x.inn L1 base _ _ rfl (by omega) (by omega) G1.out).mono ?_
   rintro e w1 ⟨rfl,g1,on1⟩
   have HEl:=Lib.hid ((HEl.out.set 0 (by omega) (.int .i64 (kk))).marked on1 sb1.out bn1.out)
   have G1:=Lib.hid g1
   have G2:=Lib.hid ((G2.out.setFar (p:=⟨b,off+i * 3+0,none⟩) bn2.out (.int .i64 (kk))).only on1 ap2_1.out)
   clear g1 on1
   clear q0 z0 q1 z1 q2 z2
   have q0:=HEl.out.at (j:=0) rfl
   have z0:=HEl.out.frozen (off+i * 3)
   have q1:=HEl.out.at (j:=1) rfl
   have z1:=HEl.out.frozen (off+i * 3+1)
   have q2:=HEl.out.at (j:=2) rfl
   have z2:=HEl.out.frozen (off+i * 3+2)
   simp only [Nat.add_zero] at q0
   go_wp2_with fail
   refine (Zia A2 _ c2 x.outs L2 base _ _ rfl (by omega) (by omega) G2.out).mono ?_
   rintro e w2 ⟨rfl,g2,on2⟩
   have HEl:=Lib.hid (HEl.out.marked on2 sb2.out bn2.out)
   have G1:=Lib.hid (G1.out.only on2 ap1_2.out)
   have G2:=Lib.hid g2
   clear g2 on2
   clear q0 z0 q1 z1 q2 z2
   have q0:=HEl.out.at (j:=0) rfl
   have z0:=HEl.out.frozen (off+i * 3)
   have q1:=HEl.out.at (j:=1) rfl
   have z1:=HEl.out.frozen (off+i * 3+1)
   have q2:=HEl.out.at (j:=2) rfl
   have z2:=HEl.out.frozen (off+i * 3+2)
   simp only [Nat.add_zero] at q0
   obtain ⟨nn1,mm1,ss1⟩:=ZU G1.out.rep
   obtain ⟨nn2,mm2,ss2⟩:=ZU G2.out.rep
   have hO2:=Lib.hid (XO HOwn.out HEl.out.plain HEl.out.only (fun y m=>by (try simp only [List.mem_append] at m);rcases m with m | m<;>first | exact G1.out.own.plain y m | exact G2.out.own.plain y m))
   have HGn:=Lib.hid (HPut.out _ _ (Zbl kk x) HEl.out.only HEl.out.cells HEl.out.rest ⟨A1,c1,L1,A2,c2,L2,by simp [Zbl,ZcA,ZcA],rfl,nn1,mm1,ss1,nn2,mm2,ss2⟩ hO2.out)
   have HOn:=Lib.hid (HO.out.trans (HEl.out.only.mono (fun y m=>by rcases List.mem_cons.1 m with rfl | m;exact hbL;exact HLk.out y m)))
   rw [hset.out] at HGn
   try simp only [Nat.add_zero] at HGn HOn
   clear HEl hO2 HPut G1 G2 nn1 nn2 mm1 mm2 ss1 ss2
   go_wp2_with fail
   go_roundw
   case rel=>exact ⟨i+1,ZZ kk x,_,by omega,by go_num,rfl,by unfold ZZ;omega,HDn,HGn,HOn⟩
   case measure=>simp [intOf];omega
  ·obtain rfl:i=n:=by omega
   have e:Hid (ds.drop i=[]):=List.drop_of_length_le (by have:=HN.out;omega)
   have hf:Hid (ZV k ds=kk∧D=Z7 k ds):=by
    obtain ⟨h1,h2,h3⟩:=HD.out
    rw [e.out] at h3 h1
    simp [Z7] at h3
    exact ⟨h1.symm,h3⟩
   rw [e.out,List.append_nil] at HG
   go_wp2
   go_ret
   exact ⟨Yo hf.out.1.symm,by rw [←hf.out.2];exact HG.out,HO.out⟩
def ZeL (k:Int) (x:ZK):ZK:=⟨x.nodes,Z7 (k) x.reasons⟩
def ZL (k:Int) (x:ZK):Int:=ZV (k) x.reasons
theorem ZjA (k:Int) (x:ZK):k≤ZL k x:=by
 unfold ZL
 have:=QT (k) x.reasons
 omega
theorem ZjN (k:Int) (x:ZK):ZL k x≤k+16 * ZaN x:=by
 unfold ZL
 have:=Zko (k) x.reasons
 simp only [ZaN]
 omega
set_option maxHeartbeats 1600000 in
theorem Zld (x:ZK) (A1:Option Addr) (c1:Nat) (L1:List Nat) (base:Nat) (k:Int) (w:World) (hk0:1≤k) (hk1:ZL k x≤4611686018427387904) (l1:x.reasons.length≤9223372036854775807) (g1:Got (ZY Xa) base [.slice A1 x.reasons.length c1] (x.reasons) L1 w):
  Calls Tryz.prog 20 #[.agg #[.int .i64 x.nodes,.slice A1 x.reasons.length c1],.int .i64 k] w fun e w'=>e=.returned (.int .i64 (ZL k x))∧Got (ZY Xa) base [.slice A1 x.reasons.length c1] (Z7 (k) x.reasons) L1 w'∧YF (L1) w w':=by
 have bn1:Hid (w.heap.size∉L1):=fun m=>Nat.lt_irrefl _ (g1.lt _ m)
 have G1:=Lib.hid (g1.alloc (.cells #[.int .i64 x.nodes,.slice A1 x.reasons.length c1] 29))
 have K0:Hid (Blk (w.alloc (.cells #[.int .i64 x.nodes,.slice A1 x.reasons.length c1] 29)) w.heap.size 29 #[.int .i64 x.nodes,.slice A1 x.reasons.length c1]):=Blk.new _ _ _
 have O0:Hid (YF (L1) w (w.alloc (.cells #[.int .i64 x.nodes,.slice A1 x.reasons.length c1] 29))):=YF.of_below ((Below.refl _ _).alloc (Nat.le_refl _) _) _
 clear g1
 unfold ZL at hk1
 have:=QT (k) x.reasons
 go_enter Tryz.func20,Tryz.ntmps20
 go_wp2_with fail
 refine (ZjL A1 _ c1 x.reasons L1 base _ _ rfl (by omega) (by omega) (by omega) G1.out).mono ?_
 rintro e w1 ⟨rfl,h1,on1⟩
 have G1:=Lib.hid h1
 have K1:=Lib.hid (Zba K0.out on1 bn1.out)
 have f0:=K1.out.at (i:=0) rfl
 have f1:=K1.out.at (i:=1) rfl
 have O1:Hid (YF (L1) w w1):=O0.out.trans (on1.mono (fun y m=>by first | exact m | simp [m] | (simp only [List.mem_append] at m ⊢;rcases m with m | m<;>simp [m])))
 clear on1 h1
 go_wp2_with fail
 go_ret
 exact ⟨Yo rfl,G1.out,O1.out⟩
theorem ZjM (cs:List Value) (x:ZK) (L:List Nat) (base:Nat) (k:Int) (w:World) (hk0:1≤k) (hk1:ZL k x≤4611686018427387904) (h:Got QD base cs x L w):
  Calls Tryz.prog 20 #[.agg cs.toArray,.int .i64 k] w fun e w'=>e=.returned (.int .i64 (ZL k x))∧Got QD base cs (ZeL k x) L w'∧YF L w w':=by
 obtain ⟨hrep,ho⟩:=h
 obtain ⟨A1,c1,L1,rfl,hLL,n1,m1,s1⟩:=hrep
 subst L
 refine (Zld x A1 c1 L1 base k w hk0 hk1 (by unfold maxLen at m1;omega) ⟨⟨A1,c1,rfl,n1,m1,s1⟩,ho⟩ ).mono ?_
 rintro e w' ⟨rfl,g1,on⟩
 obtain ⟨nn1,mm1,ss1⟩:=ZU g1.rep
 refine ⟨rfl,⟨⟨A1,c1,L1,by simp [ZeL,ZbH],rfl,nn1,mm1,ss1⟩,ho.nodup,ho.ge,fun y m=>?_⟩,on⟩
 try simp only [List.mem_append] at m
 exact g1.own.plain y m
end Go.Proofs.YtojnhepgnbhaaaaGreatDoor
namespace Go.Proofs.YtojnhepgnbhaaaaGreatDoor
open Go.RowKit
theorem Zgt {w w1:World} {B:Nat} (h:Below w.drew.heap.size w.drew w1) (hB:B≤w.heap.size):Below B w w1:=⟨h.os,h.tape,h.output,h.size,fun k hk=>h.block k (Nat.lt_of_lt_of_le hk hB)⟩
set_option maxHeartbeats 1600000 in
theorem Zjx (A:Option Addr) (n c:Nat) (ds:List ByteArray) (L:List Nat) (k:Int) (w:World) (hn:n=ds.length) (hk0:1≤k) (hk1:ZG k ds≤4611686018427387904) (h:Sli Zbm w A (Ya k ds) L):
  Calls Tryz.prog 55 #[.slice A n c,.int .i64 k] w fun e w'=>e=.returned (.int .i64 (ZG k ds))∧Below w.heap.size w w':=by
 have H:=Lib.hid h
 have HN:=Lib.hid hn
 have hk1':k+n≤4611686018427387904:=by simp only [ZG] at hk1;omega
 clear h hn hk1
 go_enter Tryz.func55,Tryz.ntmps55
 go_wp2
 go_loopw [1,5] (fun q j wr=>∃(i:Nat) (kk:Int),i≤n∧j=.int .i64 i∧q=.int .i64 kk∧1≤kk∧kk+(n - i:Nat)≤4611686018427387904∧Hid (kk=k+i∧(Ya k ds).drop i=Ya kk (ds.drop i))∧Hid (Below w.heap.size w wr)) (fun _ j _=>n - (intOf j).toNat)
 case atStart=>exact ⟨0,k,Nat.zero_le _,rfl,rfl,hk0,by omega,⟨by omega,rfl⟩,Below.refl _ _⟩
 case round=>
  obtain ⟨i,kk,hi,rfl,rfl,h1,h2,HD,HB⟩:=hrel
  by_cases hlt:i<n
  ·have hil:i<ds.length:=by have:=HN.out;omega
   obtain ⟨hkk,hdr⟩:=HD.out
   have hml:i<(Ya k ds).length:=by rw [Zai];exact hil
   obtain ⟨b,off,cs,Lk,rfl,hbL,_,hrep,hc⟩:=H.out.at_ hml
   have hdr2:=hdr
   rw [List.drop_eq_getElem_cons hml,List.drop_eq_getElem_cons hil,Ya] at hdr2
   injection hdr2 with e1 e2
   rw [e1] at hrep
   obtain ⟨rfl,_,_⟩:=hrep
   have hbl:b<w.heap.size:=H.out.lt b hbL
   have hbr:b<wr.heap.size:=Nat.lt_of_lt_of_le hbl HB.out.size
   have q0:=(HB.out.cell (p:=⟨b,off+(i * Zbm.size+0),none⟩) hbl).trans (hc 0 _ rfl)
   simp only [show Zbm.size=1 from rfl,Nat.mul_one,Nat.add_zero] at q0
   have HDn:Hid (kk+1=k+(i+1:Nat)∧(Ya k ds).drop (i+1)=Ya (kk+1) (ds.drop (i+1))):=⟨by omega,e2⟩
   clear hc hkk hdr e1 e2
   have i0:(0:Int)≤i:=by omega
   have i1:(i:Int)<n:=by omega
   go_wp2_with fail
   go_region_held3 (fun w'=>w'.cell? ⟨b,off+i,none⟩=some (.string (mTx kk))) (first | go_keep | exact (hb1.cell (p:=⟨b,off+i,none⟩) hbr).trans q0) (first | (go_at_call 50;refine (Y7 _ _ (by omega) (by omega)).mono ?_;rintro e w1 ⟨rfl,hb1⟩))
   have HBn:=Lib.hid (HB.out.trans (Zgt hb1 HB.out.size))
   clear hb1
   go_wp2_with fail
   go_roundw
   case rel=>exact ⟨i+1,kk+1,by omega,by go_num,rfl,by omega,by omega,HDn,HBn⟩
   case measure=>simp [intOf];omega
  ·obtain rfl:i=n:=by omega
   have hf:Hid (ZG k ds=kk):=by
    obtain ⟨h1,_⟩:=HD.out
    have:=HN.out;rw [Hid];simp only [ZG];omega
   go_wp2
   go_ret
   exact ⟨Yo hf.out.symm,HB.out⟩
set_option maxHeartbeats 1600000 in
theorem Zh8 (A:Option Addr) (n c:Nat) (ds:List Int) (L:List Nat) (k:Int) (w:World) (hn:n=ds.length) (hk0:1≤k) (hk1:Yb k ds≤4611686018427387904) (h:Sli Zgq w A (X6 k ds) L):
  Calls Tryz.prog 96 #[.slice A n c,.int .i64 k] w fun e w'=>e=.returned (.int .i64 (Yb k ds))∧Below w.heap.size w w':=by
 have H:=Lib.hid h
 have HN:=Lib.hid hn
 have hk1':k+n≤4611686018427387904:=by simp only [Yb] at hk1;omega
 clear h hn hk1
 go_enter Tryz.func96,Tryz.ntmps96
 go_wp2
 go_loopw [1,5] (fun q j wr=>∃(i:Nat) (kk:Int),i≤n∧j=.int .i64 i∧q=.int .i64 kk∧1≤kk∧kk+(n - i:Nat)≤4611686018427387904∧Hid (kk=k+i∧(X6 k ds).drop i=X6 kk (ds.drop i))∧Hid (Below w.heap.size w wr)) (fun _ j _=>n - (intOf j).toNat)
 case atStart=>exact ⟨0,k,Nat.zero_le _,rfl,rfl,hk0,by omega,⟨by omega,rfl⟩,Below.refl _ _⟩
 case round=>
  obtain ⟨i,kk,hi,rfl,rfl,h1,h2,HD,HB⟩:=hrel
  by_cases hlt:i<n
  ·have hil:i<ds.length:=by have:=HN.out;omega
   obtain ⟨hkk,hdr⟩:=HD.out
   have hml:i<(X6 k ds).length:=by rw [ZcA];exact hil
   obtain ⟨b,off,cs,Lk,rfl,hbL,_,hrep,hc⟩:=H.out.at_ hml
   have hdr2:=hdr
   rw [List.drop_eq_getElem_cons hml,List.drop_eq_getElem_cons hil,X6] at hdr2
   injection hdr2 with e1 e2
   rw [e1] at hrep
   obtain ⟨rfl,_⟩:=hrep
   have hbl:b<w.heap.size:=H.out.lt b hbL
   have hbr:b<wr.heap.size:=Nat.lt_of_lt_of_le hbl HB.out.size
   have q0:=(HB.out.cell (p:=⟨b,off+(i * Zgq.size+0),none⟩) hbl).trans (hc 0 _ rfl)
   simp only [show Zgq.size=1 from rfl,Nat.mul_one,Nat.add_zero] at q0
   have HDn:Hid (kk+1=k+(i+1:Nat)∧(X6 k ds).drop (i+1)=X6 (kk+1) (ds.drop (i+1))):=⟨by omega,e2⟩
   clear hc hkk hdr e1 e2
   have i0:(0:Int)≤i:=by omega
   have i1:(i:Int)<n:=by omega
   have hne:((kk:Int) != kk)=false:=by simp
   go_wp2_with fail
   have HBn:=HB
   go_roundw
   case rel=>exact ⟨i+1,kk+1,by omega,by go_num,rfl,by omega,by omega,HDn,HBn⟩
   case measure=>simp [intOf];omega
  ·obtain rfl:i=n:=by omega
   have hf:Hid (Yb k ds=kk):=by
    obtain ⟨h1,_⟩:=HD.out
    have:=HN.out;rw [Hid];simp only [Yb];omega
   go_wp2
   go_ret
   exact ⟨Yo hf.out.symm,HB.out⟩
set_option maxRecDepth 100000 in
set_option maxHeartbeats 4000000 in
theorem ZgJ (A:Option Addr) (n c:Nat) (ds:List Zc) (L:List Nat) (k:Int) (w:World) (hn:n=ds.length) (hm:n≤9223372036854775807) (hk0:1≤k) (hk1:Zy k ds≤4611686018427387904) (h:Sli Y4 w A (Xp k ds) L):
  Calls Tryz.prog 21 #[.slice A n c,.int .i64 k] w fun e w'=>e=.returned (.int .i64 (Zy k ds))∧Below w.heap.size w w':=by
 have H:=Lib.hid h
 have HN:=Lib.hid hn
 have HK:=Lib.hid hk1
 clear h hn hk1
 go_enter Tryz.func21,Tryz.ntmps21
 go_wp2
 go_loopw [1,5] (fun q j wr=>∃(i:Nat) (kk:Int),i≤n∧j=.int .i64 i∧q=.int .i64 kk∧1≤kk∧Hid (Zy kk (ds.drop i)=Zy k ds∧(Xp k ds).drop i=Xp kk (ds.drop i))∧Hid (Below w.heap.size w wr)) (fun _ j _=>n - (intOf j).toNat)
 case atStart=>exact ⟨0,k,Nat.zero_le _,rfl,rfl,hk0,⟨rfl,rfl⟩,Below.refl _ _⟩
 case round=>
  obtain ⟨i,kk,hi,rfl,rfl,h1,HD,HB⟩:=hrel
  by_cases hlt:i<n
  ·have hil:i<ds.length:=by have:=HN.out;omega
   obtain ⟨hkk,hdr⟩:=HD.out
   have hml:i<(Xp k ds).length:=by rw [Zo1];exact hil
   obtain ⟨b,off,cs,Lk,rfl,hbL,hLk,hrep,hc⟩:=H.out.at_ hml
   rw [List.drop_eq_getElem_cons hml,List.drop_eq_getElem_cons hil,Xp] at hdr
   injection hdr with e1 e2
   rw [e1] at hrep
   clear e1
   have hnext:ds.drop i=ds[i]::ds.drop (i+1):=List.drop_eq_getElem_cons _
   rw [hnext] at hkk
   clear hnext
   generalize ds[i]=x at hrep hkk e2
   have hnb:Hid (Ys kk x≤4611686018427387904):=by
    have:=Zcq (Ys kk x) (ds.drop (i+1))
    have hk:=HK.out
    rw [←hkk] at hk
    exact Int.le_trans this hk
   have hnb1:=hnb.out
   have hnb2:=Zfn kk x
   unfold Ys at hnb1 hnb2
   have HDn:Hid (Zy (Ys kk x) (ds.drop (i+1))=Zy k ds∧(Xp k ds).drop (i+1)=Xp (Ys kk x) (ds.drop (i+1))):=⟨hkk,e2⟩
   have hbl:b<w.heap.size:=H.out.lt b hbL
   clear hkk e2
   obtain ⟨A1,c1,L1,rfl,hLL,t0,n1,m1,s1⟩:=hrep
   have S1:=Lib.hid s1
   have lL1:Hid (∀y∈L1,y<w.heap.size):=fun y m=>H.out.lt y (hLk y (by rw [hLL];simp [m]))
   have ll1:(Zfl kk x).args.length=x.args.length:=Zai _ _
   clear s1
   have Q0:=Lib.hid (hc 0 _ rfl)
   have Q1:=Lib.hid (hc 1 _ rfl)
   unfold maxLen at m1
   rw [ll1] at Q1 n1
   clear hc ll1
   have i0:(0:Int)≤i:=by omega
   have i1:(i:Int)<n:=by omega
   have mono_x_args:=Xl (kk+1) x.args
   have q0:wr.cell? ⟨b,off+i * 2,none⟩=some (.string (mTx (kk))):=(HB.out.cell (p:=⟨b,off+(i * 2+0),none⟩) hbl).trans Q0.out
   have q1:wr.cell? ⟨b,off+i * 2+1,none⟩=some (.slice A1 x.args.length c1):=(HB.out.cell (p:=⟨b,off+(i * 2+1),none⟩) hbl).trans Q1.out
   have hbr:b<wr.heap.size:=Nat.lt_of_lt_of_le hbl HB.out.size
   go_wp2_with fail
   go_region_held3 (fun w'=>w'.cell? ⟨b,off+i * 2,none⟩=some (.string (mTx (kk)))) (first | go_keep | exact (hb1.cell (p:=⟨b,off+i * 2,none⟩) hbr).trans q0) (first | (go_at_call 50;refine (Y7 _ _ (by omega) (by omega)).mono ?_;rintro e w1 ⟨rfl,hb1⟩))
   have HB:=Lib.hid (HB.out.trans (Zgt hb1 HB.out.size))
   clear hb1
   clear q0 q1
   have q0:w1.cell? ⟨b,off+i * 2,none⟩=some (.string (mTx (kk))):=(HB.out.cell (p:=⟨b,off+(i * 2+0),none⟩) hbl).trans Q0.out
   have q1:w1.cell? ⟨b,off+i * 2+1,none⟩=some (.slice A1 x.args.length c1):=(HB.out.cell (p:=⟨b,off+(i * 2+1),none⟩) hbl).trans Q1.out
   replace hbr:b<w1.heap.size:=Nat.lt_of_lt_of_le hbl HB.out.size
   go_wp2_with fail
   refine (Zjx A1 _ c1 x.args L1 _ _ rfl (by omega) (by omega) (S1.out.keep (ZN HB.out lL1.out))).mono ?_
   rintro e w2 ⟨rfl,hb2⟩
   have HB:=Lib.hid (HB.out.trans (hb2.mono HB.out.size))
   clear hb2
   clear q0 q1
   have q0:w2.cell? ⟨b,off+i * 2,none⟩=some (.string (mTx (kk))):=(HB.out.cell (p:=⟨b,off+(i * 2+0),none⟩) hbl).trans Q0.out
   have q1:w2.cell? ⟨b,off+i * 2+1,none⟩=some (.slice A1 x.args.length c1):=(HB.out.cell (p:=⟨b,off+(i * 2+1),none⟩) hbl).trans Q1.out
   replace hbr:b<w2.heap.size:=Nat.lt_of_lt_of_le hbl HB.out.size
   have ge2:¬(ZG (kk+1) x.args<0):=by omega
   go_wp2_with fail
   go_roundw
   case rel=>exact ⟨i+1,Ys kk x,by omega,by go_num,rfl,by unfold Ys;omega,HDn,HB⟩
   case measure=>simp [intOf];omega
  ·obtain rfl:i=n:=by omega
   have hf:Hid (Zy k ds=kk):=by
    obtain ⟨h1,_⟩:=HD.out
    rw [Hid,←h1,List.drop_of_length_le (by have:=HN.out;omega)];rfl
   go_wp2
   go_ret
   exact ⟨Yo hf.out.symm,HB.out⟩
set_option maxRecDepth 100000 in
set_option maxHeartbeats 4000000 in
theorem ZjQ (A:Option Addr) (n c:Nat) (ds:List Zh) (L:List Nat) (k:Int) (w:World) (hn:n=ds.length) (hm:n≤9223372036854775807) (hk0:1≤k) (hk1:ZV k ds≤4611686018427387904) (h:Sli Xa w A (Z7 k ds) L):
  Calls Tryz.prog 56 #[.slice A n c,.int .i64 k] w fun e w'=>e=.returned (.int .i64 (ZV k ds))∧Below w.heap.size w w':=by
 have H:=Lib.hid h
 have HN:=Lib.hid hn
 have HK:=Lib.hid hk1
 clear h hn hk1
 go_enter Tryz.func56,Tryz.ntmps56
 go_wp2
 go_loopw [1,5] (fun q j wr=>∃(i:Nat) (kk:Int),i≤n∧j=.int .i64 i∧q=.int .i64 kk∧1≤kk∧Hid (ZV kk (ds.drop i)=ZV k ds∧(Z7 k ds).drop i=Z7 kk (ds.drop i))∧Hid (Below w.heap.size w wr)) (fun _ j _=>n - (intOf j).toNat)
 case atStart=>exact ⟨0,k,Nat.zero_le _,rfl,rfl,hk0,⟨rfl,rfl⟩,Below.refl _ _⟩
 case round=>
  obtain ⟨i,kk,hi,rfl,rfl,h1,HD,HB⟩:=hrel
  by_cases hlt:i<n
  ·have hil:i<ds.length:=by have:=HN.out;omega
   obtain ⟨hkk,hdr⟩:=HD.out
   have hml:i<(Z7 k ds).length:=by rw [ZbH];exact hil
   obtain ⟨b,off,cs,Lk,rfl,hbL,hLk,hrep,hc⟩:=H.out.at_ hml
   rw [List.drop_eq_getElem_cons hml,List.drop_eq_getElem_cons hil,Z7] at hdr
   injection hdr with e1 e2
   rw [e1] at hrep
   clear e1
   have hnext:ds.drop i=ds[i]::ds.drop (i+1):=List.drop_eq_getElem_cons _
   rw [hnext] at hkk
   clear hnext
   generalize ds[i]=x at hrep hkk e2
   have hnb:Hid (ZZ kk x≤4611686018427387904):=by
    have:=QT (ZZ kk x) (ds.drop (i+1))
    have hk:=HK.out
    rw [←hkk] at hk
    exact Int.le_trans this hk
   have hnb1:=hnb.out
   have hnb2:=Zd7 kk x
   unfold ZZ at hnb1 hnb2
   have HDn:Hid (ZV (ZZ kk x) (ds.drop (i+1))=ZV k ds∧(Z7 k ds).drop (i+1)=Z7 (ZZ kk x) (ds.drop (i+1))):=⟨hkk,e2⟩
   have hbl:b<w.heap.size:=H.out.lt b hbL
   clear hkk e2
   obtain ⟨A1,c1,L1,A2,c2,L2,rfl,hLL,n1,m1,s1,n2,m2,s2⟩:=hrep
   have S1:=Lib.hid s1
   have lL1:Hid (∀y∈L1,y<w.heap.size):=fun y m=>H.out.lt y (hLk y (by rw [hLL];simp [m]))
   have ll1:(Zbl kk x).inn.length=x.inn.length:=ZcA _ _
   clear s1
   have S2:=Lib.hid s2
   have lL2:Hid (∀y∈L2,y<w.heap.size):=fun y m=>H.out.lt y (hLk y (by rw [hLL];simp [m]))
   have ll2:(Zbl kk x).outs.length=x.outs.length:=ZcA _ _
   clear s2
   have Q0:=Lib.hid (hc 0 _ rfl)
   have Q1:=Lib.hid (hc 1 _ rfl)
   have Q2:=Lib.hid (hc 2 _ rfl)
   unfold maxLen at m1 m2
   rw [ll1] at Q1 n1
   rw [ll2] at Q2 n2
   clear hc ll1 ll2
   have i0:(0:Int)≤i:=by omega
   have i1:(i:Int)<n:=by omega
   have mono_x_inn:=ZaM (kk+1) x.inn
   have mono_x_outs:=ZaM (Yb (kk+1) x.inn) x.outs
   have q0:wr.cell? ⟨b,off+i * 3,none⟩=some (.int .i64 (kk)):=(HB.out.cell (p:=⟨b,off+(i * 3+0),none⟩) hbl).trans Q0.out
   have q1:wr.cell? ⟨b,off+i * 3+1,none⟩=some (.slice A1 x.inn.length c1):=(HB.out.cell (p:=⟨b,off+(i * 3+1),none⟩) hbl).trans Q1.out
   have q2:wr.cell? ⟨b,off+i * 3+2,none⟩=some (.slice A2 x.outs.length c2):=(HB.out.cell (p:=⟨b,off+(i * 3+2),none⟩) hbl).trans Q2.out
   have hbr:b<wr.heap.size:=Nat.lt_of_lt_of_le hbl HB.out.size
   go_wp2_with fail
   refine (Zh8 A1 _ c1 x.inn L1 _ _ rfl (by omega) (by omega) (S1.out.keep (ZN HB.out lL1.out))).mono ?_
   rintro e w1 ⟨rfl,hb1⟩
   have HB:=Lib.hid (HB.out.trans (hb1.mono HB.out.size))
   clear hb1
   clear q0 q1 q2
   have q0:w1.cell? ⟨b,off+i * 3,none⟩=some (.int .i64 (kk)):=(HB.out.cell (p:=⟨b,off+(i * 3+0),none⟩) hbl).trans Q0.out
   have q1:w1.cell? ⟨b,off+i * 3+1,none⟩=some (.slice A1 x.inn.length c1):=(HB.out.cell (p:=⟨b,off+(i * 3+1),none⟩) hbl).trans Q1.out
   have q2:w1.cell? ⟨b,off+i * 3+2,none⟩=some (.slice A2 x.outs.length c2):=(HB.out.cell (p:=⟨b,off+(i * 3+2),none⟩) hbl).trans Q2.out
   replace hbr:b<w1.heap.size:=Nat.lt_of_lt_of_le hbl HB.out.size
   have ge1:¬(Yb (kk+1) x.inn<0):=by omega
   go_wp2_with fail
   refine (Zh8 A2 _ c2 x.outs L2 _ _ rfl (by omega) (by omega) (S2.out.keep (ZN HB.out lL2.out))).mono ?_
   rintro e w2 ⟨rfl,hb2⟩
   have HB:=Lib.hid (HB.out.trans (hb2.mono HB.out.size))
   clear hb2
   clear q0 q1 q2
   have q0:w2.cell? ⟨b,off+i * 3,none⟩=some (.int .i64 (kk)):=(HB.out.cell (p:=⟨b,off+(i * 3+0),none⟩) hbl).trans Q0.out
   have q1:w2.cell? ⟨b,off+i * 3+1,none⟩=some (.slice A1 x.inn.length c1):=(HB.out.cell (p:=⟨b,off+(i * 3+1),none⟩) hbl).trans Q1.out
   have q2:w2.cell? ⟨b,off+i * 3+2,none⟩=some (.slice A2 x.outs.length c2):=(HB.out.cell (p:=⟨b,off+(i * 3+2),none⟩) hbl).trans Q2.out
   replace hbr:b<w2.heap.size:=Nat.lt_of_lt_of_le hbl HB.out.size
   have ge2:¬(Yb (Yb (kk+1) x.inn) x.outs<0):=by omega
   go_wp2_with fail
   go_roundw
   case rel=>exact ⟨i+1,ZZ kk x,by omega,by go_num,rfl,by unfold ZZ;omega,HDn,HB⟩
   case measure=>simp [intOf];omega
  ·obtain rfl:i=n:=by omega
   have hf:Hid (ZV k ds=kk):=by
    obtain ⟨h1,_⟩:=HD.out
    rw [Hid,←h1,List.drop_of_length_le (by have:=HN.out;omega)];rfl
   go_wp2
   go_ret
   exact ⟨Yo hf.out.symm,HB.out⟩
set_option maxHeartbeats 1600000 in
theorem Zk2 (x:ZK) (A1:Option Addr) (c1:Nat) (L1:List Nat) (k:Int) (w:World) (hk0:1≤k) (hk1:ZL k x≤4611686018427387904) (l1:x.reasons.length≤9223372036854775807) (s1:Sli Xa w A1 (Z7 (k) x.reasons) L1):
  Calls Tryz.prog 22 #[.agg #[.int .i64 x.nodes,.slice A1 x.reasons.length c1],.int .i64 k] w fun e w'=>e=.returned (.int .i64 (ZL k x))∧Below w.heap.size w w':=by
 have B0:Hid (Below w.heap.size w (w.alloc (.cells #[.int .i64 x.nodes,.slice A1 x.reasons.length c1] 29))):=(Below.refl _ _).alloc (Nat.le_refl _) _
 have S1:=Lib.hid s1
 have K0:Hid (Blk (w.alloc (.cells #[.int .i64 x.nodes,.slice A1 x.reasons.length c1] 29)) w.heap.size 29 #[.int .i64 x.nodes,.slice A1 x.reasons.length c1]):=Blk.new _ _ _
 clear s1
 unfold ZL at hk1
 have:=QT (k) x.reasons
 go_enter Tryz.func22,Tryz.ntmps22
 go_wp2_with fail
 refine (ZjQ A1 _ c1 x.reasons L1 _ _ rfl (by omega) (by omega) (by omega) (S1.out.below B0.out)).mono ?_
 rintro e w1 ⟨rfl,hb1⟩
 have K1:=Lib.hid (K0.out.later hb1)
 have B1:=Lib.hid (B0.out.trans (hb1.mono B0.out.size))
 have f0:=K1.out.at (i:=0) rfl
 have f1:=K1.out.at (i:=1) rfl
 have ge1:¬(ZV (k) x.reasons<0):=by omega
 clear hb1
 go_wp2_with fail
 go_ret
 exact ⟨Yo rfl,B1.out⟩
theorem Ze7 (cs:List Value) (x:ZK) (L:List Nat) (k:Int) (w:World) (hk0:1≤k) (hk1:ZL k x≤4611686018427387904) (h:QD.rep w cs (ZeL k x) L):
  Calls Tryz.prog 22 #[.agg cs.toArray,.int .i64 k] w fun e w'=>e=.returned (.int .i64 (ZL k x))∧Below w.heap.size w w':=by
 obtain ⟨A1,c1,L1,rfl,hLL,n1,m1,s1⟩:=h
 subst L
 have ll1:(Z7 (k) x.reasons).length=x.reasons.length:=ZbH _ _
 simp only [ZeL,ZbH] at *
 exact Zk2 x A1 c1 L1 k w hk0 hk1 (by unfold maxLen at *;omega) s1
end Go.Proofs.YtojnhepgnbhaaaaGreatDoor
namespace Go.Proofs.YtojnhepgnbhaaaaGreatDoor
open Go.RowKit Go.Deep
def ZhR {α:Type} (P:Program) (t:TypeId) (c:YL α) (wf:α→Prop):Prop:=
 ∀{H:Type} {enc:TypeId × Value→H} {w:World} {base:Nat} {spare:Nat→Bool} {held:Bool} {fuel:Nat} {cs:List Value} {x:DataW H × List MemPlace},
  DataW.trod enc P w base spare held fuel t cs=some x→∃d L,c.rep w cs d L∧wf d
theorem Zin {P:Program} {t:TypeId} (ht:P.underlying t=some (.int .i64)):ZhR P t Zgq Zjk:=by
 intro H enc w base spare held fuel cs x h
 obtain ⟨n,rfl,_,hw⟩:=DataW.trod_int ht h
 refine ⟨n,[],⟨rfl,rfl⟩,?_⟩
 simp [Lit.wf,IntKind.min,IntKind.max,IntKind.signed,IntKind.bits] at hw
 exact ⟨by omega,by omega⟩
theorem Qp {P:Program} {t:TypeId} (ht:P.underlying t=some .string):ZhR P t Zbm (fun _=>True):=by
 intro H enc w base spare held fuel cs x h
 obtain ⟨s,rfl,_,hs⟩:=DataW.trod_string ht h
 exact ⟨s,[],⟨rfl,rfl,by unfold maxLen at hs;omega⟩,trivial⟩
theorem ZaH {α:Type} {c:YL α} {wf:α→Prop} {P:Program} {t e:TypeId} (ht:P.underlying t=some (.slice e)) (hc:P.cellsOf e=c.size) (ho:ZhR P e c wf):ZhR P t (ZY c) (fun ds=>∀d∈ds,wf d):=by
 intro H enc w base spare held fuel cs x h
 rcases open_slice ht h with ⟨rfl,_⟩ | ⟨a,len,cap,m,n,D,Pl,rfl,hb,hl,hm,hmm,_,hx⟩
 ·exact ⟨[],[],⟨none,0,rfl,Nat.le_refl _,Nat.zero_le _,Sli.nil _ _⟩,by simp⟩
 ·have hlm:len≤m:=by rw [hmm];split<;>omega
  have key:∀q,q≤len→∃(xs:List Value) (ds:List α) (L:List Nat),ds.length=q∧(∀j u,xs[j]?=some u→w.cell? (a.add j)=some u)∧c.reps w xs ds L∧∀d∈ds,wf d:=by
   intro q
   induction q with
   | zero=>exact fun _=>⟨[],[],[],rfl,by simp,⟨rfl,rfl⟩,by simp⟩
   | succ q ih=>
    intro hq
    obtain ⟨xs,ds,L,hd,hcell,hr,hwf⟩:=ih (by omega)
    obtain ⟨cs',h1,h2⟩:=hx q (by omega)
    obtain ⟨d,Lq,hrep,hwd⟩:=ho h2
    obtain ⟨_,hlen,hat⟩:=World.cells?_some h1
    refine ⟨xs++cs',ds++[d],L++Lq,by simp [hd],fun j u hu=>?_,Zdz hr (Zjn hrep),?_⟩
    ·have hxl:xs.length=q * c.size:=by rw [ZfZ hr,hd]
     rw [List.getElem?_append] at hu
     split at hu
     ·exact hcell j u hu
     ·rename_i hj
      have hj2:=(List.getElem?_eq_some_iff.1 hu).1
      have:=hat (j - xs.length) (by omega)
      rw [←hu,←this,Go.Deep.add_add,hc,←hxl]
      congr 2
      omega
    ·intro y hy
     rcases List.mem_append.1 hy with hy | hy
     ·exact hwf y hy
     ·simp at hy;subst hy;exact hwd
  obtain ⟨xs,ds,L,hd,hcell,hr,hwf⟩:=key len (Nat.le_refl _)
  have hxl:=ZfZ hr
  rcases Nat.eq_zero_or_pos len with h0 | h0
  ·have:ds=[]:=List.eq_nil_of_length_eq_zero (by omega)
   subst this
   refine ⟨[],[],⟨some a,cap,by simp at hd;rw [←hd];rfl,by simp,hm,Sli.nil _ _⟩,by simp⟩
  ·obtain ⟨b,off,sp⟩:=a
   have hp:0<xs.length:=by rw [hxl,hd];exact Nat.mul_pos h0 c.pos
   have hsp:sp=none:=by
    have h1:=hcell 0 _ (List.getElem?_eq_getElem hp)
    have e:(⟨b,off,sp⟩:Addr).add 0=⟨b,off,sp⟩:=by simp [Addr.add]
    rw [e] at h1
    cases sp with
    | none=>rfl
    | some q=>
     simp only [World.cell?] at h1
     split at h1<;>simp at h1
   subst hsp
   refine ⟨ds,[b]++L,⟨some ⟨b,off,none⟩,cap,by rw [hd],by omega,hm,xs,[b],L,rfl,⟨by rw [hxl],.inr ⟨by omega,b,off,rfl,rfl,fun j u hu=>?_⟩⟩,hr⟩,hwf⟩
   have:=hcell j u hu
   rwa [ZcL] at this
end Go.Proofs.YtojnhepgnbhaaaaGreatDoor
namespace Go.Proofs.YtojnhepgnbhaaaaGreatDoor
open Go.RowKit
theorem Zha {aRules:List Zf} {aBase:List Zc} {r0:List Zc} {r1:ZK} {r2:Bool} (hh:Xw aRules aBase=some (r0,r1,r2)) (w:World) (hj:J0 w) (AaRules:Option Addr) (caRules:Nat) (LaRules:List Nat) (haRules:(ZY XU).rep w [.slice AaRules aRules.length caRules] aRules LaRules) (AaBase:Option Addr) (caBase:Nat) (LaBase:List Nat) (haBase:(ZY Y4).rep w [.slice AaBase aBase.length caBase] aBase LaBase):
  Calls Tryz.prog 11 #[.slice AaRules aRules.length caRules,.slice AaBase aBase.length caBase] w (Zkt Y4 QD w r0 r1 r2):=
 Zn.givesSXB (c:=Y4) (g:=Zq) (c2:=QD) (g2:=Zff) (ds:=r0) (x:=r1) (b:=r2) (Zhk hh) ZjV Zlc hj (vs:=[_,_]) ⟨Znw ZqW _ haRules,Znw ZjV _ haBase,trivial⟩
theorem Zc1 {aRules:List Zf} {aBase:List Zc} {r0:List Zc} {r1:ZK} {r2:Bool} (hh:Xz aRules aBase=some (r0,r1,r2)) (w:World) (hj:J0 w) (AaRules:Option Addr) (caRules:Nat) (LaRules:List Nat) (haRules:(ZY XU).rep w [.slice AaRules aRules.length caRules] aRules LaRules) (AaBase:Option Addr) (caBase:Nat) (LaBase:List Nat) (haBase:(ZY Y4).rep w [.slice AaBase aBase.length caBase] aBase LaBase):
  Calls Tryz.prog 14 #[.slice AaRules aRules.length caRules,.slice AaBase aBase.length caBase] w (Zkt Y4 QD w r0 r1 r2):=
 Zn.givesSXB (c:=Y4) (g:=Zq) (c2:=QD) (g2:=Zff) (ds:=r0) (x:=r1) (b:=r2) (Zhe hh) ZjV Zlc hj (vs:=[_,_]) ⟨Znw ZqW _ haRules,Znw ZjV _ haBase,trivial⟩
set_option maxRecDepth 100000 in
set_option maxHeartbeats 8000000 in
theorem Zdr (w:World) (hJ:J0 w) (A_aRules:Option Addr) (c_aRules:Nat) (aRules:List Zf) (L_aRules:List Nat) (ln_aRules:aRules.length≤9223372036854775807) (h_aRules:Sli XU w A_aRules aRules L_aRules) (A_aBase:Option Addr) (c_aBase:Nat) (aBase:List Zc) (L_aBase:List Nat) (ln_aBase:aBase.length≤9223372036854775807) (h_aBase:Sli Y4 w A_aBase aBase L_aBase) (wf_aRules:(fun ds=>∀d∈ds,ZpL d) aRules) (wf_aBase:(fun ds=>∀d∈ds,ZpO d) aBase):
  Calls Tryz.prog 3 #[.slice A_aRules aRules.length c_aRules,.slice A_aBase aBase.length c_aBase] w fun e w'=>e=.returned (.bool true)∧Below w.heap.size w w':=by
 have HJ:=Lib.hid hJ
 clear hJ
 have H_aRules:=Lib.hid h_aRules
 clear h_aRules
 have H_aBase:=Lib.hid h_aBase
 clear h_aBase
 go_enter Tryz.func3,Tryz.ntmps3
 go_wp2_with fail
 refine (Zn6 A_aRules _ c_aRules aRules L_aRules _ _ rfl ln_aRules (by omega) (by omega) (H_aRules.out.below (Below.refl w.heap.size w))).mono ?_
 rintro e w1 ⟨rfl,hb⟩
 have B1:=Lib.hid ((Below.refl w.heap.size w).trans (hb.mono (Below.refl w.heap.size w).size))
 have sz1:=hb.size
 clear hb
 by_cases cc_aRules:((Yj aRules:Nat):Int)≤1048576
 rotate_left
 ·rw [ZX cc_aRules]
  go_wp2
  go_ret
  exact ⟨rfl,B1.out⟩
 rw [Y8 cc_aRules]
 have cz_aRules:Yj aRules≤1048576:=by omega
 have cl_aRules:aRules.length≤1048576:=by have:=cz_aRules;simp only [Yj] at this;omega
 have nn_aRules:¬(1048576 - ((Yj aRules:Nat):Int)<0):=by omega
 go_wp2_with fail
 refine (Zpq A_aBase _ c_aBase aBase L_aBase _ _ rfl ln_aBase (by omega) (by omega) (H_aBase.out.below B1.out)).mono ?_
 rintro e w2 ⟨rfl,hb⟩
 have B2:=Lib.hid (B1.out.trans (hb.mono B1.out.size))
 have sz2:=hb.size
 clear B1
 clear hb
 by_cases cc_aBase:((Yd aBase:Nat):Int)≤1048576 - ((Yj aRules:Nat):Int)
 rotate_left
 ·rw [ZX cc_aBase]
  go_wp2
  go_ret
  exact ⟨rfl,B2.out⟩
 rw [Y8 cc_aBase]
 have cz_aBase:Yd aBase≤1048576:=by omega
 have cl_aBase:aBase.length≤1048576:=by have:=cz_aBase;simp only [Yd] at this;omega
 have nn_aBase:¬(1048576 - ((Yj aRules:Nat):Int) - ((Yd aBase:Nat):Int)<0):=by omega
 obtain ⟨R0,R1,R2,hs0,hi0,rl⟩:=Zgo aRules cz_aRules wf_aRules aBase cz_aBase wf_aBase
 go_wp2_with fail
 refine (Zdw A_aRules _ c_aRules aRules L_aRules _ rfl cz_aRules (H_aRules.out.below B2.out)).mono ?_
 rintro e w3 ⟨v,rfl,acc⟩
 obtain ⟨A_t2aRules,c_t2aRules,rfl⟩:=acc.shape
 have hb:=acc.below
 obtain ⟨L_t2aRules,gt⟩:=acc.got
 have B3:=Lib.hid (B2.out.trans (hb.mono B2.out.size))
 have sz3:=hb.size
 clear B2
 have V_t2aRules:=Lib.hid gt
 have ge_t2aRules:=Lib.hid gt.own.ge
 have lt_t2aRules:=Lib.hid gt.lt
 clear gt hb acc
 go_wp2_with fail
 refine (ZdN A_aBase _ c_aBase aBase L_aBase _ rfl cz_aBase (H_aBase.out.below B3.out)).mono ?_
 rintro e w4 ⟨v,rfl,acc⟩
 obtain ⟨A_t3aBase,c_t3aBase,rfl⟩:=acc.shape
 have hb:=acc.below
 obtain ⟨L_t3aBase,gt⟩:=acc.got
 have B4:=Lib.hid (B3.out.trans (hb.mono B3.out.size))
 have sz4:=hb.size
 have V_t2aRules:=Lib.hid (V_t2aRules.out.later hb)
 clear B3
 have V_t3aBase:=Lib.hid gt
 have ge_t3aBase:=Lib.hid gt.own.ge
 have lt_t3aBase:=Lib.hid gt.lt
 clear gt hb acc
 go_wp2_with fail
 refine (Zha hs0 _ (ZiG hJ0 HJ.out B4.out) A_t2aRules c_t2aRules L_t2aRules V_t2aRules.out.rep A_t3aBase c_t3aBase L_t3aBase V_t3aBase.out.rep).mono ?_
 rintro e w5 ⟨A_w0,c_w0,cs,L_w0,L_w1,rfl,gt,gt2,ap,hb⟩
 obtain ⟨w1_A1,w1_c1,rfl⟩:=ZcG gt2.rep
 have AP_w0:=Lib.hid ap
 have B5:=Lib.hid (B4.out.trans (hb.mono B4.out.size))
 have sz5:=hb.size
 have V_t2aRules:=Lib.hid (V_t2aRules.out.later hb)
 have V_t3aBase:=Lib.hid (V_t3aBase.out.later hb)
 clear B4
 have V_w0:=Lib.hid gt
 have ge_w0:=Lib.hid gt.own.ge
 have lt_w0:=Lib.hid gt.lt
 have V_w1:=Lib.hid gt2
 have ge_w1:=Lib.hid gt2.own.ge
 have lt_w1:=Lib.hid gt2.lt
 clear gt gt2 hb ap
 have hb:=(Below.refl w5.heap.size w5).alloc (Nat.le_refl _) (.cells #[.int .i64 R1.nodes,.slice w1_A1 R1.reasons.length w1_c1] 29)
 have B6:=Lib.hid (B5.out.trans (hb.mono B5.out.size))
 have sz6:=hb.size
 have V_t2aRules:=Lib.hid (V_t2aRules.out.later hb)
 have V_t3aBase:=Lib.hid (V_t3aBase.out.later hb)
 have V_w0:=Lib.hid (V_w0.out.later hb)
 have V_w1:=Lib.hid (V_w1.out.later hb)
 clear B5
 have szb_w1:w5.heap.size+1≤(w5.alloc (.cells #[.int .i64 R1.nodes,.slice w1_A1 R1.reasons.length w1_c1] 29)).heap.size:=Nat.le_of_eq (by simp only [World.alloc,Array.size_push])
 have K_w1:Hid (Blk (w5.alloc (.cells #[.int .i64 R1.nodes,.slice w1_A1 R1.reasons.length w1_c1] 29)) w5.heap.size 29 #[.int .i64 R1.nodes,.slice w1_A1 R1.reasons.length w1_c1]):=Blk.new _ _ _
 have f_w1_0:=K_w1.out.at (i:=0) rfl
 have f_w1_1:=K_w1.out.at (i:=1) rfl
 clear hb
 clear V_t2aRules
 clear V_t3aBase
 go_wp2_with fail
 refine (Zdw A_aRules _ c_aRules aRules L_aRules _ rfl cz_aRules (H_aRules.out.below B6.out)).mono ?_
 rintro e w7 ⟨v,rfl,acc⟩
 obtain ⟨A_x0,c_x0,rfl⟩:=acc.shape
 have hb:=acc.below
 obtain ⟨L_x0,gt⟩:=acc.got
 have B7:=Lib.hid (B6.out.trans (hb.mono B6.out.size))
 have sz7:=hb.size
 have V_w0:=Lib.hid (V_w0.out.later hb)
 have V_w1:=Lib.hid (V_w1.out.later hb)
 have K_w1:=Lib.hid (K_w1.out.later hb)
 clear f_w1_0 f_w1_1
 have f_w1_0:=K_w1.out.at (i:=0) rfl
 have f_w1_1:=K_w1.out.at (i:=1) rfl
 clear B6
 have V_x0:=Lib.hid gt
 have ge_x0:=Lib.hid gt.own.ge
 have lt_x0:=Lib.hid gt.lt
 clear gt hb acc
 go_wp2_with fail
 refine (ZdN A_aBase _ c_aBase aBase L_aBase _ rfl cz_aBase (H_aBase.out.below B7.out)).mono ?_
 rintro e w8 ⟨v,rfl,acc⟩
 obtain ⟨A_x1,c_x1,rfl⟩:=acc.shape
 have hb:=acc.below
 obtain ⟨L_x1,gt⟩:=acc.got
 have B8:=Lib.hid (B7.out.trans (hb.mono B7.out.size))
 have sz8:=hb.size
 have V_w0:=Lib.hid (V_w0.out.later hb)
 have V_w1:=Lib.hid (V_w1.out.later hb)
 have V_x0:=Lib.hid (V_x0.out.later hb)
 have K_w1:=Lib.hid (K_w1.out.later hb)
 clear f_w1_0 f_w1_1
 have f_w1_0:=K_w1.out.at (i:=0) rfl
 have f_w1_1:=K_w1.out.at (i:=1) rfl
 clear B7
 have V_x1:=Lib.hid gt
 have ge_x1:=Lib.hid gt.own.ge
 have lt_x1:=Lib.hid gt.lt
 clear gt hb acc
 go_wp2_with fail
 refine (Zc1 hi0 _ (ZiG hJ0 HJ.out B8.out) A_x0 c_x0 L_x0 V_x0.out.rep A_x1 c_x1 L_x1 V_x1.out.rep).mono ?_
 rintro e w9 ⟨A_g0,c_g0,cs,L_g0,L_g1,rfl,gt,gt2,ap,hb⟩
 obtain ⟨g1_A1,g1_c1,rfl⟩:=ZcG gt2.rep
 have AP_g0:=Lib.hid ap
 have B9:=Lib.hid (B8.out.trans (hb.mono B8.out.size))
 have sz9:=hb.size
 have V_w0:=Lib.hid (V_w0.out.later hb)
 have V_w1:=Lib.hid (V_w1.out.later hb)
 have V_x0:=Lib.hid (V_x0.out.later hb)
 have V_x1:=Lib.hid (V_x1.out.later hb)
 have K_w1:=Lib.hid (K_w1.out.later hb)
 clear f_w1_0 f_w1_1
 have f_w1_0:=K_w1.out.at (i:=0) rfl
 have f_w1_1:=K_w1.out.at (i:=1) rfl
 clear B8
 have V_g0:=Lib.hid gt
 have ge_g0:=Lib.hid gt.own.ge
 have lt_g0:=Lib.hid gt.lt
 have V_g1:=Lib.hid gt2
 have ge_g1:=Lib.hid gt2.own.ge
 have lt_g1:=Lib.hid gt2.lt
 clear gt gt2 hb ap
 have hb:=(Below.refl w9.heap.size w9).alloc (Nat.le_refl _) (.cells #[.int .i64 R1.nodes,.slice g1_A1 R1.reasons.length g1_c1] 29)
 have B10:=Lib.hid (B9.out.trans (hb.mono B9.out.size))
 have sz10:=hb.size
 have V_w0:=Lib.hid (V_w0.out.later hb)
 have V_w1:=Lib.hid (V_w1.out.later hb)
 have V_x0:=Lib.hid (V_x0.out.later hb)
 have V_x1:=Lib.hid (V_x1.out.later hb)
 have V_g0:=Lib.hid (V_g0.out.later hb)
 have V_g1:=Lib.hid (V_g1.out.later hb)
 have K_w1:=Lib.hid (K_w1.out.later hb)
 clear f_w1_0 f_w1_1
 have f_w1_0:=K_w1.out.at (i:=0) rfl
 have f_w1_1:=K_w1.out.at (i:=1) rfl
 clear B9
 have szb_g1:w9.heap.size+1≤(w9.alloc (.cells #[.int .i64 R1.nodes,.slice g1_A1 R1.reasons.length g1_c1] 29)).heap.size:=Nat.le_of_eq (by simp only [World.alloc,Array.size_push])
 have K_g1:Hid (Blk (w9.alloc (.cells #[.int .i64 R1.nodes,.slice g1_A1 R1.reasons.length g1_c1] 29)) w9.heap.size 29 #[.int .i64 R1.nodes,.slice g1_A1 R1.reasons.length g1_c1]):=Blk.new _ _ _
 have f_g1_0:=K_g1.out.at (i:=0) rfl
 have f_g1_1:=K_g1.out.at (i:=1) rfl
 clear hb
 go_wp2_with fail
 refine (ZdB A_g0 A_w0 _ c_g0 c_w0 _ L_g0 L_w0 _ rfl (by omega) (ZU V_g0.out.rep).2.2 (ZU V_w0.out.rep).2.2).mono ?_
 rintro e w11 ⟨rfl,hb⟩
 have B11:=Lib.hid (B10.out.trans (hb.mono B10.out.size))
 have sz11:=hb.size
 have V_w0:=Lib.hid (V_w0.out.later hb)
 have V_w1:=Lib.hid (V_w1.out.later hb)
 have V_x0:=Lib.hid (V_x0.out.later hb)
 have V_x1:=Lib.hid (V_x1.out.later hb)
 have V_g0:=Lib.hid (V_g0.out.later hb)
 have V_g1:=Lib.hid (V_g1.out.later hb)
 have K_w1:=Lib.hid (K_w1.out.later hb)
 clear f_w1_0 f_w1_1
 have f_w1_0:=K_w1.out.at (i:=0) rfl
 have f_w1_1:=K_w1.out.at (i:=1) rfl
 have K_g1:=Lib.hid (K_g1.out.later hb)
 clear f_g1_0 f_g1_1
 have f_g1_0:=K_g1.out.at (i:=0) rfl
 have f_g1_1:=K_g1.out.at (i:=1) rfl
 clear B10
 clear hb
 go_wp2_with fail
 refine (Zd3 [.int .i64 R1.nodes,.slice g1_A1 R1.reasons.length g1_c1] [.int .i64 R1.nodes,.slice w1_A1 R1.reasons.length w1_c1] R1 L_g1 L_w1 _ V_g1.out.rep V_w1.out.rep).mono ?_
 rintro e w12 ⟨rfl,hb⟩
 have B12:=Lib.hid (B11.out.trans (hb.mono B11.out.size))
 have sz12:=hb.size
 have V_w0:=Lib.hid (V_w0.out.later hb)
 have V_w1:=Lib.hid (V_w1.out.later hb)
 have V_x0:=Lib.hid (V_x0.out.later hb)
 have V_x1:=Lib.hid (V_x1.out.later hb)
 have V_g0:=Lib.hid (V_g0.out.later hb)
 have V_g1:=Lib.hid (V_g1.out.later hb)
 have K_w1:=Lib.hid (K_w1.out.later hb)
 clear f_w1_0 f_w1_1
 have f_w1_0:=K_w1.out.at (i:=0) rfl
 have f_w1_1:=K_w1.out.at (i:=1) rfl
 have K_g1:=Lib.hid (K_g1.out.later hb)
 clear f_g1_0 f_g1_1
 have f_g1_0:=K_g1.out.at (i:=0) rfl
 have f_g1_1:=K_g1.out.at (i:=1) rfl
 clear B11
 clear hb
 go_wp2_with fail
 refine (Zdw A_aRules _ c_aRules aRules L_aRules _ rfl cz_aRules (H_aRules.out.below B12.out)).mono ?_
 rintro e w13 ⟨v,rfl,acc⟩
 obtain ⟨A_t12aRules,c_t12aRules,rfl⟩:=acc.shape
 have hb:=acc.below
 obtain ⟨L_t12aRules,gt⟩:=acc.got
 have B13:=Lib.hid (B12.out.trans (hb.mono B12.out.size))
 have sz13:=hb.size
 have V_w0:=Lib.hid (V_w0.out.later hb)
 have V_w1:=Lib.hid (V_w1.out.later hb)
 have V_x0:=Lib.hid (V_x0.out.later hb)
 have V_x1:=Lib.hid (V_x1.out.later hb)
 have V_g0:=Lib.hid (V_g0.out.later hb)
 have V_g1:=Lib.hid (V_g1.out.later hb)
 have K_w1:=Lib.hid (K_w1.out.later hb)
 clear f_w1_0 f_w1_1
 have f_w1_0:=K_w1.out.at (i:=0) rfl
 have f_w1_1:=K_w1.out.at (i:=1) rfl
 have K_g1:=Lib.hid (K_g1.out.later hb)
 clear f_g1_0 f_g1_1
 have f_g1_0:=K_g1.out.at (i:=0) rfl
 have f_g1_1:=K_g1.out.at (i:=1) rfl
 clear B12
 have V_t12aRules:=Lib.hid gt
 have ge_t12aRules:=Lib.hid gt.own.ge
 have lt_t12aRules:=Lib.hid gt.lt
 clear gt hb acc
 go_wp2_with fail
 refine (ZoU A_x0 A_t12aRules _ c_x0 c_t12aRules _ L_x0 L_t12aRules _ rfl (by omega) (ZU V_x0.out.rep).2.2 (ZU V_t12aRules.out.rep).2.2).mono ?_
 rintro e w14 ⟨rfl,hb⟩
 have B14:=Lib.hid (B13.out.trans (hb.mono B13.out.size))
 have sz14:=hb.size
 have V_w0:=Lib.hid (V_w0.out.later hb)
 have V_w1:=Lib.hid (V_w1.out.later hb)
 have V_x0:=Lib.hid (V_x0.out.later hb)
 have V_x1:=Lib.hid (V_x1.out.later hb)
 have V_g0:=Lib.hid (V_g0.out.later hb)
 have V_g1:=Lib.hid (V_g1.out.later hb)
 have V_t12aRules:=Lib.hid (V_t12aRules.out.later hb)
 have K_w1:=Lib.hid (K_w1.out.later hb)
 clear f_w1_0 f_w1_1
 have f_w1_0:=K_w1.out.at (i:=0) rfl
 have f_w1_1:=K_w1.out.at (i:=1) rfl
 have K_g1:=Lib.hid (K_g1.out.later hb)
 clear f_g1_0 f_g1_1
 have f_g1_0:=K_g1.out.at (i:=0) rfl
 have f_g1_1:=K_g1.out.at (i:=1) rfl
 clear B13
 clear hb
 clear V_t12aRules
 go_wp2_with fail
 refine (ZdN A_aBase _ c_aBase aBase L_aBase _ rfl cz_aBase (H_aBase.out.below B14.out)).mono ?_
 rintro e w15 ⟨v,rfl,acc⟩
 obtain ⟨A_t14aBase,c_t14aBase,rfl⟩:=acc.shape
 have hb:=acc.below
 obtain ⟨L_t14aBase,gt⟩:=acc.got
 have B15:=Lib.hid (B14.out.trans (hb.mono B14.out.size))
 have sz15:=hb.size
 have V_w0:=Lib.hid (V_w0.out.later hb)
 have V_w1:=Lib.hid (V_w1.out.later hb)
 have V_x0:=Lib.hid (V_x0.out.later hb)
 have V_x1:=Lib.hid (V_x1.out.later hb)
 have V_g0:=Lib.hid (V_g0.out.later hb)
 have V_g1:=Lib.hid (V_g1.out.later hb)
 have K_w1:=Lib.hid (K_w1.out.later hb)
 clear f_w1_0 f_w1_1
 have f_w1_0:=K_w1.out.at (i:=0) rfl
 have f_w1_1:=K_w1.out.at (i:=1) rfl
 have K_g1:=Lib.hid (K_g1.out.later hb)
 clear f_g1_0 f_g1_1
 have f_g1_0:=K_g1.out.at (i:=0) rfl
 have f_g1_1:=K_g1.out.at (i:=1) rfl
 clear B14
 have V_t14aBase:=Lib.hid gt
 have ge_t14aBase:=Lib.hid gt.own.ge
 have lt_t14aBase:=Lib.hid gt.lt
 clear gt hb acc
 go_wp2_with fail
 refine (ZdB A_x1 A_t14aBase _ c_x1 c_t14aBase _ L_x1 L_t14aBase _ rfl (by omega) (ZU V_x1.out.rep).2.2 (ZU V_t14aBase.out.rep).2.2).mono ?_
 rintro e w16 ⟨rfl,hb⟩
 have B16:=Lib.hid (B15.out.trans (hb.mono B15.out.size))
 have sz16:=hb.size
 have V_w0:=Lib.hid (V_w0.out.later hb)
 have V_w1:=Lib.hid (V_w1.out.later hb)
 have V_x0:=Lib.hid (V_x0.out.later hb)
 have V_x1:=Lib.hid (V_x1.out.later hb)
 have V_g0:=Lib.hid (V_g0.out.later hb)
 have V_g1:=Lib.hid (V_g1.out.later hb)
 have V_t14aBase:=Lib.hid (V_t14aBase.out.later hb)
 have K_w1:=Lib.hid (K_w1.out.later hb)
 clear f_w1_0 f_w1_1
 have f_w1_0:=K_w1.out.at (i:=0) rfl
 have f_w1_1:=K_w1.out.at (i:=1) rfl
 have K_g1:=Lib.hid (K_g1.out.later hb)
 clear f_g1_0 f_g1_1
 have f_g1_0:=K_g1.out.at (i:=0) rfl
 have f_g1_1:=K_g1.out.at (i:=1) rfl
 clear B15
 clear hb
 clear V_t14aBase
 have nl_x0_16:=ZnJ ((1:Int)) aRules
 have nb_x0_16:YC ((1:Int)) aRules≤4611686018427387904:=by omega
 have ng_x0_16:=ZhJ ((1:Int)) aRules
 go_wp2_with fail
 refine (ZlE A_x0 _ c_x0 aRules L_x0 _ _ _ rfl (by omega) (by omega) (by omega) V_x0.out).mono ?_
 rintro e w17 ⟨rfl,gm,on⟩
 have B17:=Lib.hid (B16.out.trans (on.below B16.out.size (fun y m=>by have:=ge_x0.out y m;omega)))
 have sz17:=on.size
 have V_w0:=Lib.hid (V_w0.out.only on (fun y m m'=>by have:=lt_w0.out y m;have:=ge_x0.out y m';omega))
 have V_w1:=Lib.hid (V_w1.out.only on (fun y m m'=>by have:=lt_w1.out y m;have:=ge_x0.out y m';omega))
 have V_x1:=Lib.hid (V_x1.out.only on (fun y m m'=>by have:=ge_x1.out y m;have:=lt_x0.out y m';omega))
 have V_g0:=Lib.hid (V_g0.out.only on (fun y m m'=>by have:=ge_g0.out y m;have:=lt_x0.out y m';omega))
 have V_g1:=Lib.hid (V_g1.out.only on (fun y m m'=>by have:=ge_g1.out y m;have:=lt_x0.out y m';omega))
 have K_w1:=Lib.hid (Zba K_w1.out on (fun m=>by have:=ge_x0.out _ m;have:=lt_x0.out _ m;omega))
 clear f_w1_0 f_w1_1
 have f_w1_0:=K_w1.out.at (i:=0) rfl
 have f_w1_1:=K_w1.out.at (i:=1) rfl
 have K_g1:=Lib.hid (Zba K_g1.out on (fun m=>by have:=ge_x0.out _ m;have:=lt_x0.out _ m;omega))
 clear f_g1_0 f_g1_1
 have f_g1_0:=K_g1.out.at (i:=0) rfl
 have f_g1_1:=K_g1.out.at (i:=1) rfl
 clear B16
 have V_x0:=Lib.hid gm
 clear gm on
 clear V_x0
 have nl_x1_17:=Zht (YC ((1:Int)) aRules) aBase
 have nb_x1_17:Zy (YC ((1:Int)) aRules) aBase≤4611686018427387904:=by omega
 have ng_x1_17:=Zcq (YC ((1:Int)) aRules) aBase
 go_wp2_with fail
 refine (ZgC A_x1 _ c_x1 aBase L_x1 _ _ _ rfl (by omega) (by omega) (by omega) V_x1.out).mono ?_
 rintro e w18 ⟨rfl,gm,on⟩
 have B18:=Lib.hid (B17.out.trans (on.below B17.out.size (fun y m=>by have:=ge_x1.out y m;omega)))
 have sz18:=on.size
 have V_w0:=Lib.hid (V_w0.out.only on (fun y m m'=>by have:=lt_w0.out y m;have:=ge_x1.out y m';omega))
 have V_w1:=Lib.hid (V_w1.out.only on (fun y m m'=>by have:=lt_w1.out y m;have:=ge_x1.out y m';omega))
 have V_g0:=Lib.hid (V_g0.out.only on (fun y m m'=>by have:=ge_g0.out y m;have:=lt_x1.out y m';omega))
 have V_g1:=Lib.hid (V_g1.out.only on (fun y m m'=>by have:=ge_g1.out y m;have:=lt_x1.out y m';omega))
 have K_w1:=Lib.hid (Zba K_w1.out on (fun m=>by have:=ge_x1.out _ m;have:=lt_x1.out _ m;omega))
 clear f_w1_0 f_w1_1
 have f_w1_0:=K_w1.out.at (i:=0) rfl
 have f_w1_1:=K_w1.out.at (i:=1) rfl
 have K_g1:=Lib.hid (Zba K_g1.out on (fun m=>by have:=ge_x1.out _ m;have:=lt_x1.out _ m;omega))
 clear f_g1_0 f_g1_1
 have f_g1_0:=K_g1.out.at (i:=0) rfl
 have f_g1_1:=K_g1.out.at (i:=1) rfl
 clear B17
 have V_x1:=Lib.hid gm
 clear gm on
 clear V_x1
 have kn:¬(Zy (YC ((1:Int)) aRules) aBase<0):=by omega
 go_wp2_with fail
 refine (ZdB A_g0 A_w0 _ c_g0 c_w0 _ L_g0 L_w0 _ rfl (by omega) (ZU V_g0.out.rep).2.2 (ZU V_w0.out.rep).2.2).mono ?_
 rintro e w19 ⟨rfl,hb⟩
 have B19:=Lib.hid (B18.out.trans (hb.mono B18.out.size))
 have sz19:=hb.size
 have V_w0:=Lib.hid (V_w0.out.later hb)
 have V_w1:=Lib.hid (V_w1.out.later hb)
 have V_g0:=Lib.hid (V_g0.out.later hb)
 have V_g1:=Lib.hid (V_g1.out.later hb)
 have K_w1:=Lib.hid (K_w1.out.later hb)
 clear f_w1_0 f_w1_1
 have f_w1_0:=K_w1.out.at (i:=0) rfl
 have f_w1_1:=K_w1.out.at (i:=1) rfl
 have K_g1:=Lib.hid (K_g1.out.later hb)
 clear f_g1_0 f_g1_1
 have f_g1_0:=K_g1.out.at (i:=0) rfl
 have f_g1_1:=K_g1.out.at (i:=1) rfl
 clear B18
 clear hb
 go_wp2_with fail
 refine (Zd3 [.int .i64 R1.nodes,.slice g1_A1 R1.reasons.length g1_c1] [.int .i64 R1.nodes,.slice w1_A1 R1.reasons.length w1_c1] R1 L_g1 L_w1 _ V_g1.out.rep V_w1.out.rep).mono ?_
 rintro e w20 ⟨rfl,hb⟩
 have B20:=Lib.hid (B19.out.trans (hb.mono B19.out.size))
 have sz20:=hb.size
 have V_w0:=Lib.hid (V_w0.out.later hb)
 have V_w1:=Lib.hid (V_w1.out.later hb)
 have V_g0:=Lib.hid (V_g0.out.later hb)
 have V_g1:=Lib.hid (V_g1.out.later hb)
 have K_w1:=Lib.hid (K_w1.out.later hb)
 clear f_w1_0 f_w1_1
 have f_w1_0:=K_w1.out.at (i:=0) rfl
 have f_w1_1:=K_w1.out.at (i:=1) rfl
 have K_g1:=Lib.hid (K_g1.out.later hb)
 clear f_g1_0 f_g1_1
 have f_g1_0:=K_g1.out.at (i:=0) rfl
 have f_g1_1:=K_g1.out.at (i:=1) rfl
 clear B19
 clear hb
 have nl_g0_20:=Zht ((1:Int)) R0
 have nb_g0_20:Zy ((1:Int)) R0≤4611686018427387904:=by omega
 have ng_g0_20:=Zcq ((1:Int)) R0
 go_wp2_with fail
 refine (ZgC A_g0 _ c_g0 R0 L_g0 _ _ _ rfl (by omega) (by omega) (by omega) V_g0.out).mono ?_
 rintro e w21 ⟨rfl,gm,on⟩
 have B21:=Lib.hid (B20.out.trans (on.below B20.out.size (fun y m=>by have:=ge_g0.out y m;omega)))
 have sz21:=on.size
 have V_w0:=Lib.hid (V_w0.out.only on (fun y m m'=>by have:=lt_w0.out y m;have:=ge_g0.out y m';omega))
 have V_w1:=Lib.hid (V_w1.out.only on (fun y m m'=>by have:=lt_w1.out y m;have:=ge_g0.out y m';omega))
 have V_g1:=Lib.hid (V_g1.out.only on (fun y m m'=>AP_g0.out y m' m))
 have K_w1:=Lib.hid (Zba K_w1.out on (fun m=>by have:=ge_g0.out _ m;have:=lt_g0.out _ m;omega))
 clear f_w1_0 f_w1_1
 have f_w1_0:=K_w1.out.at (i:=0) rfl
 have f_w1_1:=K_w1.out.at (i:=1) rfl
 have K_g1:=Lib.hid (Zba K_g1.out on (fun m=>by have:=ge_g0.out _ m;have:=lt_g0.out _ m;omega))
 clear f_g1_0 f_g1_1
 have f_g1_0:=K_g1.out.at (i:=0) rfl
 have f_g1_1:=K_g1.out.at (i:=1) rfl
 clear B20
 have V_g0:=Lib.hid gm
 clear gm on
 have nl_g1_21:=ZjN (Zy ((1:Int)) R0) R1
 have nb_g1_21:ZL (Zy ((1:Int)) R0) R1≤4611686018427387904:=by omega
 have ng_g1_21:=ZjA (Zy ((1:Int)) R0) R1
 go_wp2_with fail
 refine (ZjM _ R1 L_g1 _ _ _ (by omega) (by omega) V_g1.out).mono ?_
 rintro e w22 ⟨rfl,gm,on⟩
 have B22:=Lib.hid (B21.out.trans (on.below B21.out.size (fun y m=>by have:=ge_g1.out y m;omega)))
 have sz22:=on.size
 have V_w0:=Lib.hid (V_w0.out.only on (fun y m m'=>by have:=lt_w0.out y m;have:=ge_g1.out y m';omega))
 have V_w1:=Lib.hid (V_w1.out.only on (fun y m m'=>by have:=lt_w1.out y m;have:=ge_g1.out y m';omega))
 have V_g0:=Lib.hid (V_g0.out.only on (fun y m m'=>AP_g0.out y m m'))
 have K_w1:=Lib.hid (Zba K_w1.out on (fun m=>by have:=ge_g1.out _ m;have:=lt_g1.out _ m;omega))
 clear f_w1_0 f_w1_1
 have f_w1_0:=K_w1.out.at (i:=0) rfl
 have f_w1_1:=K_w1.out.at (i:=1) rfl
 have K_g1:=Lib.hid (Zba K_g1.out on (fun m=>by have:=ge_g1.out _ m;have:=lt_g1.out _ m;omega))
 clear f_g1_0 f_g1_1
 have f_g1_0:=K_g1.out.at (i:=0) rfl
 have f_g1_1:=K_g1.out.at (i:=1) rfl
 clear B21
 have V_g1:=Lib.hid gm
 clear gm on
 go_wp2_with fail
 refine (ZgJ A_g0 _ c_g0 R0 L_g0 _ _ rfl (by omega) (by omega) (by omega) (ZU V_g0.out.rep).2.2).mono ?_
 rintro e w23 ⟨rfl,hb⟩
 have B23:=Lib.hid (B22.out.trans (hb.mono B22.out.size))
 have sz23:=hb.size
 have V_w0:=Lib.hid (V_w0.out.later hb)
 have V_w1:=Lib.hid (V_w1.out.later hb)
 have V_g0:=Lib.hid (V_g0.out.later hb)
 have V_g1:=Lib.hid (V_g1.out.later hb)
 have K_w1:=Lib.hid (K_w1.out.later hb)
 clear f_w1_0 f_w1_1
 have f_w1_0:=K_w1.out.at (i:=0) rfl
 have f_w1_1:=K_w1.out.at (i:=1) rfl
 have K_g1:=Lib.hid (K_g1.out.later hb)
 clear f_g1_0 f_g1_1
 have f_g1_0:=K_g1.out.at (i:=0) rfl
 have f_g1_1:=K_g1.out.at (i:=1) rfl
 clear B22
 clear hb
 have qn23:¬(Zy ((1:Int)) R0<0):=by omega
 have qm23:((Zy ((1:Int)) R0) != (Zy ((1:Int)) R0))=false:=by simp
 go_wp2_with fail
 refine (Ze7 _ R1 L_g1 _ _ (by omega) (by omega) V_g1.out.rep).mono ?_
 rintro e w24 ⟨rfl,hb⟩
 have B24:=Lib.hid (B23.out.trans (hb.mono B23.out.size))
 have sz24:=hb.size
 have V_w0:=Lib.hid (V_w0.out.later hb)
 have V_w1:=Lib.hid (V_w1.out.later hb)
 have V_g0:=Lib.hid (V_g0.out.later hb)
 have V_g1:=Lib.hid (V_g1.out.later hb)
 have K_w1:=Lib.hid (K_w1.out.later hb)
 clear f_w1_0 f_w1_1
 have f_w1_0:=K_w1.out.at (i:=0) rfl
 have f_w1_1:=K_w1.out.at (i:=1) rfl
 have K_g1:=Lib.hid (K_g1.out.later hb)
 clear f_g1_0 f_g1_1
 have f_g1_0:=K_g1.out.at (i:=0) rfl
 have f_g1_1:=K_g1.out.at (i:=1) rfl
 clear B23
 clear hb
 have qn24:¬(ZL (Zy ((1:Int)) R0) R1<0):=by omega
 have qm24:((ZL (Zy ((1:Int)) R0) R1) != (ZL (Zy ((1:Int)) R0) R1))=false:=by simp
 go_wp2_with fail
 refine (Zdw A_aRules _ c_aRules aRules L_aRules _ rfl cz_aRules (H_aRules.out.below B24.out)).mono ?_
 rintro e w25 ⟨v,rfl,acc⟩
 obtain ⟨A_t24aRules,c_t24aRules,rfl⟩:=acc.shape
 have hb:=acc.below
 obtain ⟨L_t24aRules,gt⟩:=acc.got
 have B25:=Lib.hid (B24.out.trans (hb.mono B24.out.size))
 have sz25:=hb.size
 have V_w0:=Lib.hid (V_w0.out.later hb)
 have V_w1:=Lib.hid (V_w1.out.later hb)
 have V_g0:=Lib.hid (V_g0.out.later hb)
 have V_g1:=Lib.hid (V_g1.out.later hb)
 have K_w1:=Lib.hid (K_w1.out.later hb)
 clear f_w1_0 f_w1_1
 have f_w1_0:=K_w1.out.at (i:=0) rfl
 have f_w1_1:=K_w1.out.at (i:=1) rfl
 have K_g1:=Lib.hid (K_g1.out.later hb)
 clear f_g1_0 f_g1_1
 have f_g1_0:=K_g1.out.at (i:=0) rfl
 have f_g1_1:=K_g1.out.at (i:=1) rfl
 clear B24
 have V_t24aRules:=Lib.hid gt
 have ge_t24aRules:=Lib.hid gt.own.ge
 have lt_t24aRules:=Lib.hid gt.lt
 clear gt hb acc
 go_wp2_with fail
 refine (ZdN A_aBase _ c_aBase aBase L_aBase _ rfl cz_aBase (H_aBase.out.below B25.out)).mono ?_
 rintro e w26 ⟨v,rfl,acc⟩
 obtain ⟨A_t25aBase,c_t25aBase,rfl⟩:=acc.shape
 have hb:=acc.below
 obtain ⟨L_t25aBase,gt⟩:=acc.got
 have B26:=Lib.hid (B25.out.trans (hb.mono B25.out.size))
 have sz26:=hb.size
 have V_w0:=Lib.hid (V_w0.out.later hb)
 have V_w1:=Lib.hid (V_w1.out.later hb)
 have V_g0:=Lib.hid (V_g0.out.later hb)
 have V_g1:=Lib.hid (V_g1.out.later hb)
 have V_t24aRules:=Lib.hid (V_t24aRules.out.later hb)
 have K_w1:=Lib.hid (K_w1.out.later hb)
 clear f_w1_0 f_w1_1
 have f_w1_0:=K_w1.out.at (i:=0) rfl
 have f_w1_1:=K_w1.out.at (i:=1) rfl
 have K_g1:=Lib.hid (K_g1.out.later hb)
 clear f_g1_0 f_g1_1
 have f_g1_0:=K_g1.out.at (i:=0) rfl
 have f_g1_1:=K_g1.out.at (i:=1) rfl
 clear B25
 have V_t25aBase:=Lib.hid gt
 have ge_t25aBase:=Lib.hid gt.own.ge
 have lt_t25aBase:=Lib.hid gt.lt
 clear gt hb acc
 go_wp2_with fail
 refine (Zc1 hi0 _ (ZiG hJ0 HJ.out B26.out) A_t24aRules c_t24aRules L_t24aRules V_t24aRules.out.rep A_t25aBase c_t25aBase L_t25aBase V_t25aBase.out.rep).mono ?_
 rintro e w27 ⟨A_h0,c_h0,cs,L_h0,L_h1,rfl,gt,gt2,ap,hb⟩
 obtain ⟨h1_A1,h1_c1,rfl⟩:=ZcG gt2.rep
 have AP_h0:=Lib.hid ap
 have B27:=Lib.hid (B26.out.trans (hb.mono B26.out.size))
 have sz27:=hb.size
 have V_w0:=Lib.hid (V_w0.out.later hb)
 have V_w1:=Lib.hid (V_w1.out.later hb)
 have V_g0:=Lib.hid (V_g0.out.later hb)
 have V_g1:=Lib.hid (V_g1.out.later hb)
 have V_t24aRules:=Lib.hid (V_t24aRules.out.later hb)
 have V_t25aBase:=Lib.hid (V_t25aBase.out.later hb)
 have K_w1:=Lib.hid (K_w1.out.later hb)
 clear f_w1_0 f_w1_1
 have f_w1_0:=K_w1.out.at (i:=0) rfl
 have f_w1_1:=K_w1.out.at (i:=1) rfl
 have K_g1:=Lib.hid (K_g1.out.later hb)
 clear f_g1_0 f_g1_1
 have f_g1_0:=K_g1.out.at (i:=0) rfl
 have f_g1_1:=K_g1.out.at (i:=1) rfl
 clear B26
 have V_h0:=Lib.hid gt
 have ge_h0:=Lib.hid gt.own.ge
 have lt_h0:=Lib.hid gt.lt
 have V_h1:=Lib.hid gt2
 have ge_h1:=Lib.hid gt2.own.ge
 have lt_h1:=Lib.hid gt2.lt
 clear gt gt2 hb ap
 have hb:=(Below.refl w27.heap.size w27).alloc (Nat.le_refl _) (.cells #[.int .i64 R1.nodes,.slice h1_A1 R1.reasons.length h1_c1] 29)
 have B28:=Lib.hid (B27.out.trans (hb.mono B27.out.size))
 have sz28:=hb.size
 have V_w0:=Lib.hid (V_w0.out.later hb)
 have V_w1:=Lib.hid (V_w1.out.later hb)
 have V_g0:=Lib.hid (V_g0.out.later hb)
 have V_g1:=Lib.hid (V_g1.out.later hb)
 have V_t24aRules:=Lib.hid (V_t24aRules.out.later hb)
 have V_t25aBase:=Lib.hid (V_t25aBase.out.later hb)
 have V_h0:=Lib.hid (V_h0.out.later hb)
 have V_h1:=Lib.hid (V_h1.out.later hb)
 have K_w1:=Lib.hid (K_w1.out.later hb)
 clear f_w1_0 f_w1_1
 have f_w1_0:=K_w1.out.at (i:=0) rfl
 have f_w1_1:=K_w1.out.at (i:=1) rfl
 have K_g1:=Lib.hid (K_g1.out.later hb)
 clear f_g1_0 f_g1_1
 have f_g1_0:=K_g1.out.at (i:=0) rfl
 have f_g1_1:=K_g1.out.at (i:=1) rfl
 clear B27
 have szb_h1:w27.heap.size+1≤(w27.alloc (.cells #[.int .i64 R1.nodes,.slice h1_A1 R1.reasons.length h1_c1] 29)).heap.size:=Nat.le_of_eq (by simp only [World.alloc,Array.size_push])
 have K_h1:Hid (Blk (w27.alloc (.cells #[.int .i64 R1.nodes,.slice h1_A1 R1.reasons.length h1_c1] 29)) w27.heap.size 29 #[.int .i64 R1.nodes,.slice h1_A1 R1.reasons.length h1_c1]):=Blk.new _ _ _
 have f_h1_0:=K_h1.out.at (i:=0) rfl
 have f_h1_1:=K_h1.out.at (i:=1) rfl
 clear hb
 clear V_t24aRules
 clear V_t25aBase
 go_wp2_with fail
 refine (ZdB A_h0 A_w0 _ c_h0 c_w0 _ L_h0 L_w0 _ rfl (by omega) (ZU V_h0.out.rep).2.2 (ZU V_w0.out.rep).2.2).mono ?_
 rintro e w29 ⟨rfl,hb⟩
 have B29:=Lib.hid (B28.out.trans (hb.mono B28.out.size))
 have sz29:=hb.size
 have V_w0:=Lib.hid (V_w0.out.later hb)
 have V_w1:=Lib.hid (V_w1.out.later hb)
 have V_g0:=Lib.hid (V_g0.out.later hb)
 have V_g1:=Lib.hid (V_g1.out.later hb)
 have V_h0:=Lib.hid (V_h0.out.later hb)
 have V_h1:=Lib.hid (V_h1.out.later hb)
 have K_w1:=Lib.hid (K_w1.out.later hb)
 clear f_w1_0 f_w1_1
 have f_w1_0:=K_w1.out.at (i:=0) rfl
 have f_w1_1:=K_w1.out.at (i:=1) rfl
 have K_g1:=Lib.hid (K_g1.out.later hb)
 clear f_g1_0 f_g1_1
 have f_g1_0:=K_g1.out.at (i:=0) rfl
 have f_g1_1:=K_g1.out.at (i:=1) rfl
 have K_h1:=Lib.hid (K_h1.out.later hb)
 clear f_h1_0 f_h1_1
 have f_h1_0:=K_h1.out.at (i:=0) rfl
 have f_h1_1:=K_h1.out.at (i:=1) rfl
 clear B28
 clear hb
 go_wp2_with fail
 refine (Zd3 [.int .i64 R1.nodes,.slice h1_A1 R1.reasons.length h1_c1] [.int .i64 R1.nodes,.slice w1_A1 R1.reasons.length w1_c1] R1 L_h1 L_w1 _ V_h1.out.rep V_w1.out.rep).mono ?_
 rintro e w30 ⟨rfl,hb⟩
 have B30:=Lib.hid (B29.out.trans (hb.mono B29.out.size))
 have sz30:=hb.size
 have V_w0:=Lib.hid (V_w0.out.later hb)
 have V_w1:=Lib.hid (V_w1.out.later hb)
 have V_g0:=Lib.hid (V_g0.out.later hb)
 have V_g1:=Lib.hid (V_g1.out.later hb)
 have V_h0:=Lib.hid (V_h0.out.later hb)
 have V_h1:=Lib.hid (V_h1.out.later hb)
 have K_w1:=Lib.hid (K_w1.out.later hb)
 clear f_w1_0 f_w1_1
 have f_w1_0:=K_w1.out.at (i:=0) rfl
 have f_w1_1:=K_w1.out.at (i:=1) rfl
 have K_g1:=Lib.hid (K_g1.out.later hb)
 clear f_g1_0 f_g1_1
 have f_g1_0:=K_g1.out.at (i:=0) rfl
 have f_g1_1:=K_g1.out.at (i:=1) rfl
 have K_h1:=Lib.hid (K_h1.out.later hb)
 clear f_h1_0 f_h1_1
 have f_h1_0:=K_h1.out.at (i:=0) rfl
 have f_h1_1:=K_h1.out.at (i:=1) rfl
 clear B29
 clear hb
 go_wp2_with fail
 refine (ZgJ A_g0 _ c_g0 R0 L_g0 _ _ rfl (by omega) (by omega) (by omega) (ZU V_g0.out.rep).2.2).mono ?_
 rintro e w31 ⟨rfl,hb⟩
 have B31:=Lib.hid (B30.out.trans (hb.mono B30.out.size))
 have sz31:=hb.size
 have V_w0:=Lib.hid (V_w0.out.later hb)
 have V_w1:=Lib.hid (V_w1.out.later hb)
 have V_g0:=Lib.hid (V_g0.out.later hb)
 have V_g1:=Lib.hid (V_g1.out.later hb)
 have V_h0:=Lib.hid (V_h0.out.later hb)
 have V_h1:=Lib.hid (V_h1.out.later hb)
 have K_w1:=Lib.hid (K_w1.out.later hb)
 clear f_w1_0 f_w1_1
 have f_w1_0:=K_w1.out.at (i:=0) rfl
 have f_w1_1:=K_w1.out.at (i:=1) rfl
 have K_g1:=Lib.hid (K_g1.out.later hb)
 clear f_g1_0 f_g1_1
 have f_g1_0:=K_g1.out.at (i:=0) rfl
 have f_g1_1:=K_g1.out.at (i:=1) rfl
 have K_h1:=Lib.hid (K_h1.out.later hb)
 clear f_h1_0 f_h1_1
 have f_h1_0:=K_h1.out.at (i:=0) rfl
 have f_h1_1:=K_h1.out.at (i:=1) rfl
 clear B30
 clear hb
 have qn31:¬(Zy ((1:Int)) R0<0):=by omega
 have qm31:((Zy ((1:Int)) R0) != (Zy ((1:Int)) R0))=false:=by simp
 go_wp2_with fail
 refine (Ze7 _ R1 L_g1 _ _ (by omega) (by omega) V_g1.out.rep).mono ?_
 rintro e w32 ⟨rfl,hb⟩
 have B32:=Lib.hid (B31.out.trans (hb.mono B31.out.size))
 have sz32:=hb.size
 have V_w0:=Lib.hid (V_w0.out.later hb)
 have V_w1:=Lib.hid (V_w1.out.later hb)
 have V_g0:=Lib.hid (V_g0.out.later hb)
 have V_g1:=Lib.hid (V_g1.out.later hb)
 have V_h0:=Lib.hid (V_h0.out.later hb)
 have V_h1:=Lib.hid (V_h1.out.later hb)
 have K_w1:=Lib.hid (K_w1.out.later hb)
 clear f_w1_0 f_w1_1
 have f_w1_0:=K_w1.out.at (i:=0) rfl
 have f_w1_1:=K_w1.out.at (i:=1) rfl
 have K_g1:=Lib.hid (K_g1.out.later hb)
 clear f_g1_0 f_g1_1
 have f_g1_0:=K_g1.out.at (i:=0) rfl
 have f_g1_1:=K_g1.out.at (i:=1) rfl
 have K_h1:=Lib.hid (K_h1.out.later hb)
 clear f_h1_0 f_h1_1
 have f_h1_0:=K_h1.out.at (i:=0) rfl
 have f_h1_1:=K_h1.out.at (i:=1) rfl
 clear B31
 clear hb
 have qn32:¬(ZL (Zy ((1:Int)) R0) R1<0):=by omega
 have qm32:((ZL (Zy ((1:Int)) R0) R1) != (ZL (Zy ((1:Int)) R0) R1))=false:=by simp
 go_wp2_with fail
 go_ret
 exact ⟨rfl,B32.out⟩
end Go.Proofs.YtojnhepgnbhaaaaGreatDoor
namespace Go.Proofs.YtojnhepgnbhaaaaGreatDoor
open Go.RowKit
set_option maxRecDepth 100000 in
theorem Zrf:ZhR Tryz.prog 54 Y4 ZpO:=by
 intro H enc w base spare held fuel cs x h
 obtain ⟨xs,n,_,_,hlen,hxl,hf⟩:=DataW.trod_struct Tryz.underlying54 h
 have hl:cs.length=2:=hlen.trans (by kernel_rfl)
 have hx:xs.length=2:=hxl
 match cs,hl with
 | [a0,a1],_=>
  have f0:DataW.trod enc Tryz.prog w base spare held n 9 [a0]=some (xs[0]'(by omega)):=by
   have this:DataW.trod enc Tryz.prog w base spare held n 9 (List.take (Tryz.prog.cellsOf 9) (List.drop 0 [a0,a1]))=_:=(hf 0 _ rfl).trans (List.getElem?_eq_getElem (show 0<xs.length by omega))
   rw [show Tryz.prog.cellsOf 9=1 by kernel_rfl] at this
   exact this
  have f1:DataW.trod enc Tryz.prog w base spare held n 44 [a1]=some (xs[1]'(by omega)):=by
   have this:DataW.trod enc Tryz.prog w base spare held n 44 (List.take (Tryz.prog.cellsOf 44) (List.drop 1 [a0,a1]))=_:=(hf 1 _ rfl).trans (List.getElem?_eq_getElem (show 1<xs.length by omega))
   rw [show Tryz.prog.cellsOf 44=1 by kernel_rfl] at this
   exact this
  obtain ⟨d0,M0,r0,w0⟩:=(Qp Tryz.underlying9) f0
  obtain ⟨e0,_,t0⟩:=r0
  cases e0
  obtain ⟨d1,M1,r1,w1⟩:=(ZaH Tryz.underlying44 (by kernel_rfl) (Qp Tryz.underlying9)) f1
  obtain ⟨A1,c1,e1,n1,m1,s1⟩:=r1
  cases e1
  exact ⟨⟨d0,d1⟩,_,⟨A1,c1,M1,rfl,rfl,t0,n1,m1,s1⟩,⟨w0,w1⟩⟩
set_option maxRecDepth 100000 in
theorem Zig:ZhR Tryz.prog 46 ZcY Ziu:=by
 intro H enc w base spare held fuel cs x h
 obtain ⟨xs,n,_,_,hlen,hxl,hf⟩:=DataW.trod_struct Tryz.underlying46 h
 have hl:cs.length=2:=hlen.trans (by kernel_rfl)
 have hx:xs.length=2:=hxl
 match cs,hl with
 | [a0,a1],_=>
  have f0:DataW.trod enc Tryz.prog w base spare held n 9 [a0]=some (xs[0]'(by omega)):=by
   have this:DataW.trod enc Tryz.prog w base spare held n 9 (List.take (Tryz.prog.cellsOf 9) (List.drop 0 [a0,a1]))=_:=(hf 0 _ rfl).trans (List.getElem?_eq_getElem (show 0<xs.length by omega))
   rw [show Tryz.prog.cellsOf 9=1 by kernel_rfl] at this
   exact this
  have f1:DataW.trod enc Tryz.prog w base spare held n 44 [a1]=some (xs[1]'(by omega)):=by
   have this:DataW.trod enc Tryz.prog w base spare held n 44 (List.take (Tryz.prog.cellsOf 44) (List.drop 1 [a0,a1]))=_:=(hf 1 _ rfl).trans (List.getElem?_eq_getElem (show 1<xs.length by omega))
   rw [show Tryz.prog.cellsOf 44=1 by kernel_rfl] at this
   exact this
  obtain ⟨d0,M0,r0,w0⟩:=(Qp Tryz.underlying9) f0
  obtain ⟨e0,_,t0⟩:=r0
  cases e0
  obtain ⟨d1,M1,r1,w1⟩:=(ZaH Tryz.underlying44 (by kernel_rfl) (Qp Tryz.underlying9)) f1
  obtain ⟨A1,c1,e1,n1,m1,s1⟩:=r1
  cases e1
  exact ⟨⟨d0,d1⟩,_,⟨A1,c1,M1,rfl,rfl,t0,n1,m1,s1⟩,⟨w0,w1⟩⟩
set_option maxRecDepth 100000 in
theorem Zrb:ZhR Tryz.prog 158 XV Ztj:=by
 intro H enc w base spare held fuel cs x h
 obtain ⟨xs,n,_,_,hlen,hxl,hf⟩:=DataW.trod_struct Tryz.underlying158 h
 have hl:cs.length=5:=hlen.trans (by kernel_rfl)
 have hx:xs.length=4:=hxl
 match cs,hl with
 | [a0,a1,a2,a3,a4],_=>
  have f0:DataW.trod enc Tryz.prog w base spare held n 3 [a0]=some (xs[0]'(by omega)):=by
   have this:DataW.trod enc Tryz.prog w base spare held n 3 (List.take (Tryz.prog.cellsOf 3) (List.drop 0 [a0,a1,a2,a3,a4]))=_:=(hf 0 _ rfl).trans (List.getElem?_eq_getElem (show 0<xs.length by omega))
   rw [show Tryz.prog.cellsOf 3=1 by kernel_rfl] at this
   exact this
  have f1:DataW.trod enc Tryz.prog w base spare held n 46 [a1,a2]=some (xs[1]'(by omega)):=by
   have this:DataW.trod enc Tryz.prog w base spare held n 46 (List.take (Tryz.prog.cellsOf 46) (List.drop 1 [a0,a1,a2,a3,a4]))=_:=(hf 1 _ rfl).trans (List.getElem?_eq_getElem (show 1<xs.length by omega))
   rw [show Tryz.prog.cellsOf 46=2 by kernel_rfl] at this
   exact this
  have f2:DataW.trod enc Tryz.prog w base spare held n 9 [a3]=some (xs[2]'(by omega)):=by
   have this:DataW.trod enc Tryz.prog w base spare held n 9 (List.take (Tryz.prog.cellsOf 9) (List.drop 3 [a0,a1,a2,a3,a4]))=_:=(hf 2 _ rfl).trans (List.getElem?_eq_getElem (show 2<xs.length by omega))
   rw [show Tryz.prog.cellsOf 9=1 by kernel_rfl] at this
   exact this
  have f3:DataW.trod enc Tryz.prog w base spare held n 9 [a4]=some (xs[3]'(by omega)):=by
   have this:DataW.trod enc Tryz.prog w base spare held n 9 (List.take (Tryz.prog.cellsOf 9) (List.drop 4 [a0,a1,a2,a3,a4]))=_:=(hf 3 _ rfl).trans (List.getElem?_eq_getElem (show 3<xs.length by omega))
   rw [show Tryz.prog.cellsOf 9=1 by kernel_rfl] at this
   exact this
  obtain ⟨d0,M0,r0,w0⟩:=(Zin Tryz.underlying3) f0
  obtain ⟨e0,_⟩:=r0
  cases e0
  obtain ⟨d1,M1,r1,w1⟩:=Zig f1
  obtain ⟨A1,c1,N1,e1,g1,t0,n1,m1,s1⟩:=r1
  cases e1
  subst g1
  obtain ⟨d2,M2,r2,w2⟩:=(Qp Tryz.underlying9) f2
  obtain ⟨e2,_,t1⟩:=r2
  cases e2
  obtain ⟨d3,M3,r3,w3⟩:=(Qp Tryz.underlying9) f3
  obtain ⟨e3,_,t2⟩:=r3
  cases e3
  exact ⟨⟨d0,d1,d2,d3⟩,_,⟨A1,c1,M1,rfl,rfl,t0,t1,t2,n1,m1,s1⟩,⟨w0,w1,w2,w3⟩⟩
set_option maxRecDepth 100000 in
theorem Zoy:ZhR Tryz.prog 161 Yk Zn7:=by
 intro H enc w base spare held fuel cs x h
 obtain ⟨xs,n,_,_,hlen,hxl,hf⟩:=DataW.trod_struct Tryz.underlying161 h
 have hl:cs.length=3:=hlen.trans (by kernel_rfl)
 have hx:xs.length=2:=hxl
 match cs,hl with
 | [a0,a1,a2],_=>
  have f0:DataW.trod enc Tryz.prog w base spare held n 3 [a0]=some (xs[0]'(by omega)):=by
   have this:DataW.trod enc Tryz.prog w base spare held n 3 (List.take (Tryz.prog.cellsOf 3) (List.drop 0 [a0,a1,a2]))=_:=(hf 0 _ rfl).trans (List.getElem?_eq_getElem (show 0<xs.length by omega))
   rw [show Tryz.prog.cellsOf 3=1 by kernel_rfl] at this
   exact this
  have f1:DataW.trod enc Tryz.prog w base spare held n 46 [a1,a2]=some (xs[1]'(by omega)):=by
   have this:DataW.trod enc Tryz.prog w base spare held n 46 (List.take (Tryz.prog.cellsOf 46) (List.drop 1 [a0,a1,a2]))=_:=(hf 1 _ rfl).trans (List.getElem?_eq_getElem (show 1<xs.length by omega))
   rw [show Tryz.prog.cellsOf 46=2 by kernel_rfl] at this
   exact this
  obtain ⟨d0,M0,r0,w0⟩:=(Zin Tryz.underlying3) f0
  obtain ⟨e0,_⟩:=r0
  cases e0
  obtain ⟨d1,M1,r1,w1⟩:=Zig f1
  obtain ⟨A1,c1,N1,e1,g1,t0,n1,m1,s1⟩:=r1
  cases e1
  subst g1
  exact ⟨⟨d0,d1⟩,_,⟨A1,c1,M1,rfl,rfl,t0,n1,m1,s1⟩,⟨w0,w1⟩⟩
set_option maxRecDepth 100000 in
theorem ZrD:ZhR Tryz.prog 75 XU ZpL:=by
 intro H enc w base spare held fuel cs x h
 obtain ⟨xs,n,_,_,hlen,hxl,hf⟩:=DataW.trod_struct Tryz.underlying75 h
 have hl:cs.length=4:=hlen.trans (by kernel_rfl)
 have hx:xs.length=4:=hxl
 match cs,hl with
 | [a0,a1,a2,a3],_=>
  have f0:DataW.trod enc Tryz.prog w base spare held n 9 [a0]=some (xs[0]'(by omega)):=by
   have this:DataW.trod enc Tryz.prog w base spare held n 9 (List.take (Tryz.prog.cellsOf 9) (List.drop 0 [a0,a1,a2,a3]))=_:=(hf 0 _ rfl).trans (List.getElem?_eq_getElem (show 0<xs.length by omega))
   rw [show Tryz.prog.cellsOf 9=1 by kernel_rfl] at this
   exact this
  have f1:DataW.trod enc Tryz.prog w base spare held n 3 [a1]=some (xs[1]'(by omega)):=by
   have this:DataW.trod enc Tryz.prog w base spare held n 3 (List.take (Tryz.prog.cellsOf 3) (List.drop 1 [a0,a1,a2,a3]))=_:=(hf 1 _ rfl).trans (List.getElem?_eq_getElem (show 1<xs.length by omega))
   rw [show Tryz.prog.cellsOf 3=1 by kernel_rfl] at this
   exact this
  have f2:DataW.trod enc Tryz.prog w base spare held n 72 [a2]=some (xs[2]'(by omega)):=by
   have this:DataW.trod enc Tryz.prog w base spare held n 72 (List.take (Tryz.prog.cellsOf 72) (List.drop 2 [a0,a1,a2,a3]))=_:=(hf 2 _ rfl).trans (List.getElem?_eq_getElem (show 2<xs.length by omega))
   rw [show Tryz.prog.cellsOf 72=1 by kernel_rfl] at this
   exact this
  have f3:DataW.trod enc Tryz.prog w base spare held n 73 [a3]=some (xs[3]'(by omega)):=by
   have this:DataW.trod enc Tryz.prog w base spare held n 73 (List.take (Tryz.prog.cellsOf 73) (List.drop 3 [a0,a1,a2,a3]))=_:=(hf 3 _ rfl).trans (List.getElem?_eq_getElem (show 3<xs.length by omega))
   rw [show Tryz.prog.cellsOf 73=1 by kernel_rfl] at this
   exact this
  obtain ⟨d0,M0,r0,w0⟩:=(Qp Tryz.underlying9) f0
  obtain ⟨e0,_,t0⟩:=r0
  cases e0
  obtain ⟨d1,M1,r1,w1⟩:=(Zin Tryz.underlying3) f1
  obtain ⟨e1,_⟩:=r1
  cases e1
  obtain ⟨d2,M2,r2,w2⟩:=(ZaH Tryz.underlying72 (by kernel_rfl) Zrb) f2
  obtain ⟨A1,c1,e2,n1,m1,s1⟩:=r2
  cases e2
  obtain ⟨d3,M3,r3,w3⟩:=(ZaH Tryz.underlying73 (by kernel_rfl) Zoy) f3
  obtain ⟨A2,c2,e3,n2,m2,s2⟩:=r3
  cases e3
  exact ⟨⟨d0,d1,d2,d3⟩,_,⟨A1,c1,M2,A2,c2,M3,rfl,rfl,t0,n1,m1,s1,n2,m2,s2⟩,⟨w0,w1,w2,w3⟩⟩
end Go.Proofs.YtojnhepgnbhaaaaGreatDoor
