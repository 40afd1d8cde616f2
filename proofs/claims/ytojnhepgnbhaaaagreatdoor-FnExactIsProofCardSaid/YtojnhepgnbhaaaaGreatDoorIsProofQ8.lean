/- Texts of this proof, joined: To, Eq, Open, ExactIsProof, Opens. What each holds is said at its theorems. -/
import Derived.Test.YtojnhepgnbhaaaaGreatDoorProg
import Derived.Test.YtojnhepgnbhaaaaGreatDoorIsProofQ1
import Derived.Outline
import Derived.WalkSpells
import Derived.StillTailTactics
import Derived.Deep.Slices
import Derived.ChangeArms
import Derived.ProofKit
import Derived.Test.YtojnhepgnbhaaaaGreatDoorIsProofQ3
import Derived.Test.YtojnhepgnbhaaaaGreatDoorIsProofQ7
set_option linter.unusedSimpArgs false
set_option linter.unusedVariables false
namespace Go.Proofs.YtojnhepgnbhaaaaGreatDoor
open Go.RowKit
theorem Tryz.infoString_:(Tryz.prog.info? 9).map (fun i=>(i.zero,i.size,i.bytes))=some (some (.string ⟨#[]⟩),1,16):=by kernel_rfl
set_option maxHeartbeats 1600000 in
theorem ZgH (A:Option Addr) (n c:Nat) (ds:List ByteArray) (L:List Nat) (w:World) (hn:n=ds.length) (hm:ds.length≤1099511627776) (h:Sli Zbm w A ds L):
  Calls Tryz.prog 62 #[.slice A n c] w (Zkp Zbm 9 w ds):=by
 obtain ⟨i0,hi,hz0,hz1,hz2⟩:=info_parts Tryz.infoString_
 rw [←hn] at hm
 have H:=Lib.hid h
 have HN:=Lib.hid hn
 clear h hn
 go_enter Tryz.func62,Tryz.ntmps62
 go_wp2_with (at_make;refine wpList_make_full _ rfl _ _ 44 rfl w.heap.size 9 i0 _ 1 Tryz.underlying44 hi hz0 hz1 .i64 .i64 _ _ n rfl rfl rfl rfl (by rw [hz2];omega) (by unfold maxLen;omega) (Nat.le_refl _) ?_;intro w1 hown hg)
 have hb:Below w.heap.size w w1:=(Below.refl _ _).grown hg (Nat.le_refl _) (by simp)
 have HF0:Hid (Z9 Zbm 9 w n ds 0 w1):=Z9.start hown hb
 clear hown hg hb
 go_wp2
 go_loopw [4] (fun i wr=>∃(k:Nat),k≤n∧i=.int .i64 k∧Hid (Z9 Zbm 9 w n ds k wr)) (fun i _=>n - (intOf i).toNat)
 case atStart=>exact ⟨0,Nat.zero_le _,rfl,HF0⟩
 case round=>
  obtain ⟨k,hk,rfl,HF⟩:=hrel
  by_cases hlt:k<n
  ·have hkl:k<ds.length:=by have:=HN.out;omega
   obtain ⟨b,off,cs,Lk,rfl,hbL,hLk,hrep,hc⟩:=H.out.at_ hkl
   have hbl:b<w.heap.size:=H.out.lt b hbL
   have hrep0:=hrep
   obtain ⟨rfl,_,hss⟩:=hrep0
   have q0:=(HF.out.below.cell (p:=⟨b,off+(k * Zbm.size+0),none⟩) hbl).trans (hc 0 _ rfl)
   have HS:=Lib.hid (HF.out.store (w2:=wr) (x:=ds[k]) (M:=[]) hlt HN.out (fun _=>rfl) (Below.refl _ _) ⟨⟨rfl,rfl,hss⟩,Own.nil _ _⟩)
   obtain ⟨d0,e0⟩:=HF.out.cell hlt (j:=0) (by decide)
   have z0:=HF.out.frozen k
   simp only [show Zbm.size=1 from rfl,Nat.mul_one,Nat.add_zero] at q0 HS e0
   generalize ds[k]=x at *
   clear hc hrep
   go_wp2_with fail
   go_roundw
   case rel=>exact ⟨k+1,by omega,by go_num,HS.out⟩
   case measure=>simp [intOf];omega
  ·obtain rfl:k=n:=by omega
   go_wp2
   go_ret
   exact ⟨_,rfl,HF.out.done HN.out⟩
theorem Tryz.infoInt_:(Tryz.prog.info? 3).map (fun i=>(i.zero,i.size,i.bytes))=some (some (.int .i64 0),1,8):=by kernel_rfl
set_option maxHeartbeats 1600000 in
theorem ZEh (A:Option Addr) (n c:Nat) (ds:List Int) (L:List Nat) (w:World) (hn:n=ds.length) (hm:ds.length≤1099511627776) (h:Sli Zgq w A ds L):
  Calls Tryz.prog 117 #[.slice A n c] w (Zkp Zgq 3 w ds):=by
 obtain ⟨i0,hi,hz0,hz1,hz2⟩:=info_parts Tryz.infoInt_
 rw [←hn] at hm
 have H:=Lib.hid h
 have HN:=Lib.hid hn
 clear h hn
 go_enter Tryz.func117,Tryz.ntmps117
 go_wp2_with (at_make;refine wpList_make_full _ rfl _ _ 101 rfl w.heap.size 3 i0 _ 1 Tryz.underlying101 hi hz0 hz1 .i64 .i64 _ _ n rfl rfl rfl rfl (by rw [hz2];omega) (by unfold maxLen;omega) (Nat.le_refl _) ?_;intro w1 hown hg)
 have hb:Below w.heap.size w w1:=(Below.refl _ _).grown hg (Nat.le_refl _) (by simp)
 have HF0:Hid (Z9 Zgq 3 w n ds 0 w1):=Z9.start hown hb
 clear hown hg hb
 go_wp2
 go_loopw [4] (fun i wr=>∃(k:Nat),k≤n∧i=.int .i64 k∧Hid (Z9 Zgq 3 w n ds k wr)) (fun i _=>n - (intOf i).toNat)
 case atStart=>exact ⟨0,Nat.zero_le _,rfl,HF0⟩
 case round=>
  obtain ⟨k,hk,rfl,HF⟩:=hrel
  by_cases hlt:k<n
  ·have hkl:k<ds.length:=by have:=HN.out;omega
   obtain ⟨b,off,cs,Lk,rfl,hbL,hLk,hrep,hc⟩:=H.out.at_ hkl
   have hbl:b<w.heap.size:=H.out.lt b hbL
   have hrep0:=hrep
   obtain ⟨rfl,_⟩:=hrep0
   have q0:=(HF.out.below.cell (p:=⟨b,off+(k * Zgq.size+0),none⟩) hbl).trans (hc 0 _ rfl)
   have HS:=Lib.hid (HF.out.store (w2:=wr) (x:=ds[k]) (M:=[]) hlt HN.out (fun _=>rfl) (Below.refl _ _) ⟨⟨rfl,rfl⟩,Own.nil _ _⟩)
   obtain ⟨d0,e0⟩:=HF.out.cell hlt (j:=0) (by decide)
   have z0:=HF.out.frozen k
   simp only [show Zgq.size=1 from rfl,Nat.mul_one,Nat.add_zero] at q0 HS e0
   generalize ds[k]=x at *
   clear hc hrep
   go_wp2_with fail
   go_roundw
   case rel=>exact ⟨k+1,by omega,by go_num,HS.out⟩
   case measure=>simp [intOf];omega
  ·obtain rfl:k=n:=by omega
   go_wp2
   go_ret
   exact ⟨_,rfl,HF.out.done HN.out⟩
set_option maxHeartbeats 1600000 in
theorem ZpQ (cs:List Value) (x:Zc) (L:List Nat) (w:World) (hz:YP x≤1048576) (h:Y4.rep w cs x L):
  Calls Tryz.prog 33 #[.agg cs.toArray] w (Zmx Y4 w x):=by
 obtain ⟨A1,c1,L1,rfl,_hL,t0,n1,m1,s1⟩:=h
 unfold maxLen at m1
 have S1:=Lib.hid s1
 clear s1
 simp only [YP] at hz
 go_enter Tryz.func33,Tryz.ntmps33
 go_wp2_with fail
 refine (ZgH A1 _ c1 x.args L1 _ rfl (by simp only [Xm] at hz;omega) (S1.out.below (by repeat (first | refine Below.setCell ?_ (by dsimp only;omega) _ | refine Below.alloc ?_ (by first | (simp;done) | (simp;omega) | omega) _ | exact Below.refl _ _)))).mono ?_
 rintro e w1 ⟨v1,rfl,a1⟩
 obtain ⟨vA1,vc1,rfl⟩:=a1.shape
 have hb1:=a1.below
 obtain ⟨M1,g1⟩:=a1.got
 clear a1
 have G1:=Lib.hid (g1.mono (show w.heap.size+3≤_ by simp))
 have lt1:=Lib.hid g1.lt
 clear g1
 have B1:Hid (Below w.heap.size w w1):=Below.trans (by repeat (first | refine Below.setCell ?_ (by dsimp only;omega) _ | refine Below.alloc ?_ (by first | (simp;done) | (simp;omega) | omega) _ | exact Below.refl _ _)) (hb1.mono (by first | (simp;done) | (simp;omega) | omega))
 have K0:Hid (Blk w1 w.heap.size 54 #[.string x.rel,.slice A1 x.args.length c1]):=Blk.later (Blk.alloc (Blk.alloc (Blk.new _ _ _) _) _) hb1
 have K1:Hid (Blk w1 (w.heap.size+1) 57 #[.string ⟨#[]⟩,.slice none 0 0]):=Blk.later (Blk.alloc (Blk.new_at (by simp)) _) hb1
 have K2:Hid (Blk w1 (w.heap.size+1+1) 57 #[.string x.rel,.slice none 0 0]):=Blk.later (Blk.new_at (by simp)) hb1
 have f0:=K0.out.at (i:=0) rfl
 have r0:=K1.out.at (i:=0) rfl
 have o0:=K2.out.at (i:=0) rfl
 have rz0:=K1.out.frozen 0
 have oz0:=K2.out.frozen 0
 have f1:=K0.out.at (i:=1) rfl
 have r1:=K1.out.at (i:=1) rfl
 have o1:=K2.out.at (i:=1) rfl
 have rz1:=K1.out.frozen 1
 have oz1:=K2.out.frozen 1
 have hz1:w.heap.size+2<w1.heap.size:=by have:=hb1.size;simp at this;omega
 clear hb1
 go_wp2_with fail
 refine bodyPost_ret (v:=.agg #[.string x.rel,.slice vA1 x.args.length vc1]) (by simp [results,Tryz.results33,go_sem,r0,r1]) rfl ?_
 obtain ⟨nn1,mm1,ss1⟩:=ZU G1.out.rep
 exact Zfy (wr:=w1) (M1) ⟨⟨vA1,vc1,M1,rfl,rfl,t0,nn1,mm1,ss1⟩,by have o:=G1.out.own;simpa only [List.append_assoc] using o⟩ (by intro b hb;repeat rw [Below.heap_setCell _ _ _ _ (by dsimp only;omega)]) (by repeat (first | refine Below.setCell ?_ (by dsimp only;omega) _ | refine Below.alloc ?_ (by first | (simp;done) | (simp;omega) | omega) _ | exact B1.out))
theorem Tryz.infoFact:(Tryz.prog.info? 57).map (fun i=>(i.zero,i.size,i.bytes))=some (some (.agg #[.string ⟨#[]⟩,.slice none 0 0]),2,40):=by kernel_rfl
set_option maxHeartbeats 1600000 in
theorem ZdN (A:Option Addr) (n c:Nat) (ds:List Zc) (L:List Nat) (w:World) (hn:n=ds.length) (hz:Yd ds≤1048576) (h:Sli Y4 w A ds L):
  Calls Tryz.prog 13 #[.slice A n c] w (Zkp Y4 57 w ds):=by
 obtain ⟨i0,hi,hz0,hz1,hz2⟩:=info_parts Tryz.infoFact
 have H:=Lib.hid h
 have HN:=Lib.hid hn
 have hm:n≤1048576:=by simp only [Yd] at hz;omega
 have HZ:=Lib.hid hz
 clear h hn hz
 go_enter Tryz.func13,Tryz.ntmps13
 go_wp2_with (at_make;refine wpList_make_full _ rfl _ _ 26 rfl w.heap.size 57 i0 _ 2 Tryz.underlying26 hi hz0 hz1 .i64 .i64 _ _ n rfl rfl rfl rfl (by rw [hz2];omega) (by unfold maxLen;omega) (Nat.le_refl _) ?_;intro w1 hown hg)
 have hb:Below w.heap.size w w1:=(Below.refl _ _).grown hg (Nat.le_refl _) (by simp)
 have HF0:Hid (Z9 Y4 57 w n ds 0 w1):=Z9.start hown hb
 clear hown hg hb
 go_wp2
 go_loopw [4] (fun i wr=>∃(k:Nat),k≤n∧i=.int .i64 k∧Hid (Z9 Y4 57 w n ds k wr)) (fun i _=>n - (intOf i).toNat)
 case atStart=>exact ⟨0,Nat.zero_le _,rfl,HF0⟩
 case round=>
  obtain ⟨k,hk,rfl,HF⟩:=hrel
  by_cases hlt:k<n
  ·have hkl:k<ds.length:=by have:=HN.out;omega
   obtain ⟨b,off,cs,Lk,rfl,hbL,hLk,hrep,hc⟩:=H.out.at_ hkl
   have hbl:b<w.heap.size:=H.out.lt b hbL
   have HR:=Lib.hid (Y4.keep hrep (ZN HF.out.below (fun y m=>H.out.lt y (hLk y m))))
   obtain ⟨A1,c1,rfl⟩:=Zcc hrep
   have q0:wr.cell? ⟨b,off+k * 2,none⟩=_:=(HF.out.below.cell (p:=⟨b,off+(k * 2+0),none⟩) hbl).trans (hc 0 _ rfl)
   have q1:wr.cell? ⟨b,off+k * 2+1,none⟩=_:=(HF.out.below.cell (p:=⟨b,off+(k * 2+1),none⟩) hbl).trans (hc 1 _ rfl)
   have hcx:Hid (YP ds[k]≤1048576):=ZjX YP ds k hkl (by have:=HZ.out;simp only [Yd] at this;omega)
   obtain ⟨x,hx⟩:∃x,x=ds[k]:=⟨_,rfl⟩
   have HX:=Lib.hid hx
   rw [←hx] at HR q0 q1 hcx
   clear hc hrep hx
   go_wp2_with fail
   refine (ZpQ _ x Lk _ hcx.out HR.out).mono ?_
   rintro e w2 ⟨cs2,M2,rfl,g2,hb2⟩
   have HF2:=Lib.hid (HF.out.later hb2)
   have HS:=Lib.hid (HF.out.store hlt HN.out (fun _=>HX.out) hb2 g2)
   obtain ⟨vA1,vc1,rfl⟩:=Zcc g2.rep
   clear g2 hb2
   obtain ⟨d0,e0⟩:∃d,w2.cell? ⟨w.heap.size,k * 2,none⟩=some d:=HF2.out.cell hlt (j:=0) (by decide)
   have z0:=HF2.out.frozen (k * 2)
   obtain ⟨d1,e1⟩:∃d,w2.cell? ⟨w.heap.size,k * 2+1,none⟩=some d:=HF2.out.cell hlt (j:=1) (by decide)
   have z1:=HF2.out.frozen (k * 2+1)
   go_wp2_with fail
   go_roundw
   case rel=>exact ⟨k+1,by omega,by go_num,HS.out⟩
   case measure=>simp [intOf];omega
  ·obtain rfl:k=n:=by omega
   go_wp2
   go_ret
   exact ⟨_,rfl,HF.out.done HN.out⟩
set_option maxHeartbeats 1600000 in
theorem ZgU (cs:List Value) (x:Zv) (L:List Nat) (w:World) (hz:Z5 x≤1048576) (h:ZcY.rep w cs x L):
  Calls Tryz.prog 27 #[.agg cs.toArray] w (Zmx ZcY w x):=by
 obtain ⟨A1,c1,L1,rfl,_hL,t0,n1,m1,s1⟩:=h
 unfold maxLen at m1
 have S1:=Lib.hid s1
 clear s1
 simp only [Z5] at hz
 go_enter Tryz.func27,Tryz.ntmps27
 go_wp2_with fail
 refine (ZgH A1 _ c1 x.args L1 _ rfl (by simp only [Xm] at hz;omega) (S1.out.below (by repeat (first | refine Below.setCell ?_ (by dsimp only;omega) _ | refine Below.alloc ?_ (by first | (simp;done) | (simp;omega) | omega) _ | exact Below.refl _ _)))).mono ?_
 rintro e w1 ⟨v1,rfl,a1⟩
 obtain ⟨vA1,vc1,rfl⟩:=a1.shape
 have hb1:=a1.below
 obtain ⟨M1,g1⟩:=a1.got
 clear a1
 have G1:=Lib.hid (g1.mono (show w.heap.size+3≤_ by simp))
 have lt1:=Lib.hid g1.lt
 clear g1
 have B1:Hid (Below w.heap.size w w1):=Below.trans (by repeat (first | refine Below.setCell ?_ (by dsimp only;omega) _ | refine Below.alloc ?_ (by first | (simp;done) | (simp;omega) | omega) _ | exact Below.refl _ _)) (hb1.mono (by first | (simp;done) | (simp;omega) | omega))
 have K0:Hid (Blk w1 w.heap.size 46 #[.string x.rel,.slice A1 x.args.length c1]):=Blk.later (Blk.alloc (Blk.alloc (Blk.new _ _ _) _) _) hb1
 have K1:Hid (Blk w1 (w.heap.size+1) 49 #[.string ⟨#[]⟩,.slice none 0 0]):=Blk.later (Blk.alloc (Blk.new_at (by simp)) _) hb1
 have K2:Hid (Blk w1 (w.heap.size+1+1) 49 #[.string x.rel,.slice none 0 0]):=Blk.later (Blk.new_at (by simp)) hb1
 have f0:=K0.out.at (i:=0) rfl
 have r0:=K1.out.at (i:=0) rfl
 have o0:=K2.out.at (i:=0) rfl
 have rz0:=K1.out.frozen 0
 have oz0:=K2.out.frozen 0
 have f1:=K0.out.at (i:=1) rfl
 have r1:=K1.out.at (i:=1) rfl
 have o1:=K2.out.at (i:=1) rfl
 have rz1:=K1.out.frozen 1
 have oz1:=K2.out.frozen 1
 have hz1:w.heap.size+2<w1.heap.size:=by have:=hb1.size;simp at this;omega
 clear hb1
 go_wp2_with fail
 refine bodyPost_ret (v:=.agg #[.string x.rel,.slice vA1 x.args.length vc1]) (by simp [results,Tryz.results27,go_sem,r0,r1]) rfl ?_
 obtain ⟨nn1,mm1,ss1⟩:=ZU G1.out.rep
 exact Zfy (wr:=w1) (M1) ⟨⟨vA1,vc1,M1,rfl,rfl,t0,nn1,mm1,ss1⟩,by have o:=G1.out.own;simpa only [List.append_assoc] using o⟩ (by intro b hb;repeat rw [Below.heap_setCell _ _ _ _ (by dsimp only;omega)]) (by repeat (first | refine Below.setCell ?_ (by dsimp only;omega) _ | refine Below.alloc ?_ (by first | (simp;done) | (simp;omega) | omega) _ | exact B1.out))
set_option maxHeartbeats 1600000 in
theorem ZpV (cs:List Value) (x:Zm) (L:List Nat) (w:World) (hz:YO x≤1048576) (h:XV.rep w cs x L):
  Calls Tryz.prog 130 #[.agg cs.toArray] w (Zmx XV w x):=by
 obtain ⟨A1,c1,L1,rfl,_hL,t0,t1,t2,n1,m1,s1⟩:=h
 unfold maxLen at m1
 have S1:=Lib.hid s1
 clear s1
 simp only [YO] at hz
 go_enter Tryz.func130,Tryz.ntmps130
 go_wp2_with fail
 refine (ZgU [.string x.pattern.rel,.slice A1 x.pattern.args.length c1] x.pattern _ _ (by omega) ⟨A1,c1,L1,rfl,rfl,t0,n1,(by unfold maxLen;omega),S1.out.below (by repeat (first | refine Below.setCell ?_ (by dsimp only;omega) _ | refine Below.alloc ?_ (by first | (simp;done) | (simp;omega) | omega) _ | exact Below.refl _ _))⟩).mono ?_
 rintro e w1 ⟨cs1,M1,rfl,g1,hb1⟩
 obtain ⟨vA1,vc1,rfl⟩:=ZfO g1.rep
 have G1:=Lib.hid (g1.mono (show w.heap.size+3≤_ by simp))
 have lt1:=Lib.hid g1.lt
 clear g1
 have B1:Hid (Below w.heap.size w w1):=Below.trans (by repeat (first | refine Below.setCell ?_ (by dsimp only;omega) _ | refine Below.alloc ?_ (by first | (simp;done) | (simp;omega) | omega) _ | exact Below.refl _ _)) (hb1.mono (by first | (simp;done) | (simp;omega) | omega))
 have K0:Hid (Blk w1 w.heap.size 158 #[.int .i64 x.kind,.string x.pattern.rel,.slice A1 x.pattern.args.length c1,.string x.left,.string x.right]):=Blk.later (Blk.alloc (Blk.alloc (Blk.new _ _ _) _) _) hb1
 have K1:Hid (Blk w1 (w.heap.size+1) 130 #[.int .i64 0,.string ⟨#[]⟩,.slice none 0 0,.string ⟨#[]⟩,.string ⟨#[]⟩]):=Blk.later (Blk.alloc (Blk.new_at (by simp)) _) hb1
 have K2:Hid (Blk w1 (w.heap.size+1+1) 130 #[.int .i64 x.kind,.string ⟨#[]⟩,.slice none 0 0,.string ⟨#[]⟩,.string ⟨#[]⟩]):=Blk.later (Blk.new_at (by simp)) hb1
 have f0:=K0.out.at (i:=0) rfl
 have r0:=K1.out.at (i:=0) rfl
 have o0:=K2.out.at (i:=0) rfl
 have rz0:=K1.out.frozen 0
 have oz0:=K2.out.frozen 0
 have f1:=K0.out.at (i:=1) rfl
 have r1:=K1.out.at (i:=1) rfl
 have o1:=K2.out.at (i:=1) rfl
 have rz1:=K1.out.frozen 1
 have oz1:=K2.out.frozen 1
 have f2:=K0.out.at (i:=2) rfl
 have r2:=K1.out.at (i:=2) rfl
 have o2:=K2.out.at (i:=2) rfl
 have rz2:=K1.out.frozen 2
 have oz2:=K2.out.frozen 2
 have f3:=K0.out.at (i:=3) rfl
 have r3:=K1.out.at (i:=3) rfl
 have o3:=K2.out.at (i:=3) rfl
 have rz3:=K1.out.frozen 3
 have oz3:=K2.out.frozen 3
 have f4:=K0.out.at (i:=4) rfl
 have r4:=K1.out.at (i:=4) rfl
 have o4:=K2.out.at (i:=4) rfl
 have rz4:=K1.out.frozen 4
 have oz4:=K2.out.frozen 4
 have hz1:w.heap.size+2<w1.heap.size:=by have:=hb1.size;simp at this;omega
 clear hb1
 go_wp2_with fail
 refine bodyPost_ret (v:=.agg #[.int .i64 x.kind,.string x.pattern.rel,.slice vA1 x.pattern.args.length vc1,.string x.left,.string x.right]) (by simp [results,Tryz.results130,go_sem,r0,r1,r2,r3,r4]) rfl ?_
 obtain ⟨_,_,N1,hcs1,hL1,_,nn1,mm1,ss1⟩:=G1.out.rep
 cases hcs1
 subst hL1
 exact Zfy (wr:=w1) (M1) ⟨⟨vA1,vc1,M1,rfl,rfl,t0,t1,t2,nn1,mm1,ss1⟩,by have o:=G1.out.own;simpa only [List.append_assoc] using o⟩ (by intro b hb;repeat rw [Below.heap_setCell _ _ _ _ (by dsimp only;omega)]) (by repeat (first | refine Below.setCell ?_ (by dsimp only;omega) _ | refine Below.alloc ?_ (by first | (simp;done) | (simp;omega) | omega) _ | exact B1.out))
theorem Tryz.infoCond:(Tryz.prog.info? 130).map (fun i=>(i.zero,i.size,i.bytes))=some (some (.agg #[.int .i64 0,.string ⟨#[]⟩,.slice none 0 0,.string ⟨#[]⟩,.string ⟨#[]⟩]),5,80):=by kernel_rfl
set_option maxHeartbeats 1600000 in
theorem Zpt (A:Option Addr) (n c:Nat) (ds:List Zm) (L:List Nat) (w:World) (hn:n=ds.length) (hz:YA ds≤1048576) (h:Sli XV w A ds L):
  Calls Tryz.prog 84 #[.slice A n c] w (Zkp XV 130 w ds):=by
 obtain ⟨i0,hi,hz0,hz1,hz2⟩:=info_parts Tryz.infoCond
 have H:=Lib.hid h
 have HN:=Lib.hid hn
 have hm:n≤1048576:=by simp only [YA] at hz;omega
 have HZ:=Lib.hid hz
 clear h hn hz
 go_enter Tryz.func84,Tryz.ntmps84
 go_wp2_with (at_make;refine wpList_make_full _ rfl _ _ 79 rfl w.heap.size 130 i0 _ 5 Tryz.underlying79 hi hz0 hz1 .i64 .i64 _ _ n rfl rfl rfl rfl (by rw [hz2];omega) (by unfold maxLen;omega) (Nat.le_refl _) ?_;intro w1 hown hg)
 have hb:Below w.heap.size w w1:=(Below.refl _ _).grown hg (Nat.le_refl _) (by simp)
 have HF0:Hid (Z9 XV 130 w n ds 0 w1):=Z9.start hown hb
 clear hown hg hb
 go_wp2
 go_loopw [4] (fun i wr=>∃(k:Nat),k≤n∧i=.int .i64 k∧Hid (Z9 XV 130 w n ds k wr)) (fun i _=>n - (intOf i).toNat)
 case atStart=>exact ⟨0,Nat.zero_le _,rfl,HF0⟩
 case round=>
  obtain ⟨k,hk,rfl,HF⟩:=hrel
  by_cases hlt:k<n
  ·have hkl:k<ds.length:=by have:=HN.out;omega
   obtain ⟨b,off,cs,Lk,rfl,hbL,hLk,hrep,hc⟩:=H.out.at_ hkl
   have hbl:b<w.heap.size:=H.out.lt b hbL
   have HR:=Lib.hid (XV.keep hrep (ZN HF.out.below (fun y m=>H.out.lt y (hLk y m))))
   obtain ⟨A1,c1,rfl⟩:=Zcb hrep
   have q0:wr.cell? ⟨b,off+k * 5,none⟩=_:=(HF.out.below.cell (p:=⟨b,off+(k * 5+0),none⟩) hbl).trans (hc 0 _ rfl)
   have q1:wr.cell? ⟨b,off+k * 5+1,none⟩=_:=(HF.out.below.cell (p:=⟨b,off+(k * 5+1),none⟩) hbl).trans (hc 1 _ rfl)
   have q2:wr.cell? ⟨b,off+k * 5+2,none⟩=_:=(HF.out.below.cell (p:=⟨b,off+(k * 5+2),none⟩) hbl).trans (hc 2 _ rfl)
   have q3:wr.cell? ⟨b,off+k * 5+3,none⟩=_:=(HF.out.below.cell (p:=⟨b,off+(k * 5+3),none⟩) hbl).trans (hc 3 _ rfl)
   have q4:wr.cell? ⟨b,off+k * 5+4,none⟩=_:=(HF.out.below.cell (p:=⟨b,off+(k * 5+4),none⟩) hbl).trans (hc 4 _ rfl)
   have hcx:Hid (YO ds[k]≤1048576):=ZjX YO ds k hkl (by have:=HZ.out;simp only [YA] at this;omega)
   obtain ⟨x,hx⟩:∃x,x=ds[k]:=⟨_,rfl⟩
   have HX:=Lib.hid hx
   rw [←hx] at HR q0 q1 q2 q3 q4 hcx
   clear hc hrep hx
   go_wp2_with fail
   refine (ZpV _ x Lk _ hcx.out HR.out).mono ?_
   rintro e w2 ⟨cs2,M2,rfl,g2,hb2⟩
   have HF2:=Lib.hid (HF.out.later hb2)
   have HS:=Lib.hid (HF.out.store hlt HN.out (fun _=>HX.out) hb2 g2)
   obtain ⟨vA1,vc1,rfl⟩:=Zcb g2.rep
   clear g2 hb2
   obtain ⟨d0,e0⟩:∃d,w2.cell? ⟨w.heap.size,k * 5,none⟩=some d:=HF2.out.cell hlt (j:=0) (by decide)
   have z0:=HF2.out.frozen (k * 5)
   obtain ⟨d1,e1⟩:∃d,w2.cell? ⟨w.heap.size,k * 5+1,none⟩=some d:=HF2.out.cell hlt (j:=1) (by decide)
   have z1:=HF2.out.frozen (k * 5+1)
   obtain ⟨d2,e2⟩:∃d,w2.cell? ⟨w.heap.size,k * 5+2,none⟩=some d:=HF2.out.cell hlt (j:=2) (by decide)
   have z2:=HF2.out.frozen (k * 5+2)
   obtain ⟨d3,e3⟩:∃d,w2.cell? ⟨w.heap.size,k * 5+3,none⟩=some d:=HF2.out.cell hlt (j:=3) (by decide)
   have z3:=HF2.out.frozen (k * 5+3)
   obtain ⟨d4,e4⟩:∃d,w2.cell? ⟨w.heap.size,k * 5+4,none⟩=some d:=HF2.out.cell hlt (j:=4) (by decide)
   have z4:=HF2.out.frozen (k * 5+4)
   go_wp2_with fail
   go_roundw
   case rel=>exact ⟨k+1,by omega,by go_num,HS.out⟩
   case measure=>simp [intOf];omega
  ·obtain rfl:k=n:=by omega
   go_wp2
   go_ret
   exact ⟨_,rfl,HF.out.done HN.out⟩
set_option maxHeartbeats 1600000 in
theorem Znb (cs:List Value) (x:Zr) (L:List Nat) (w:World) (hz:Yl x≤1048576) (h:Yk.rep w cs x L):
  Calls Tryz.prog 131 #[.agg cs.toArray] w (Zmx Yk w x):=by
 obtain ⟨A1,c1,L1,rfl,_hL,t0,n1,m1,s1⟩:=h
 unfold maxLen at m1
 have S1:=Lib.hid s1
 clear s1
 simp only [Yl] at hz
 go_enter Tryz.func131,Tryz.ntmps131
 go_wp2_with fail
 refine (ZgU [.string x.pattern.rel,.slice A1 x.pattern.args.length c1] x.pattern _ _ (by omega) ⟨A1,c1,L1,rfl,rfl,t0,n1,(by unfold maxLen;omega),S1.out.below (by repeat (first | refine Below.setCell ?_ (by dsimp only;omega) _ | refine Below.alloc ?_ (by first | (simp;done) | (simp;omega) | omega) _ | exact Below.refl _ _))⟩).mono ?_
 rintro e w1 ⟨cs1,M1,rfl,g1,hb1⟩
 obtain ⟨vA1,vc1,rfl⟩:=ZfO g1.rep
 have G1:=Lib.hid (g1.mono (show w.heap.size+3≤_ by simp))
 have lt1:=Lib.hid g1.lt
 clear g1
 have B1:Hid (Below w.heap.size w w1):=Below.trans (by repeat (first | refine Below.setCell ?_ (by dsimp only;omega) _ | refine Below.alloc ?_ (by first | (simp;done) | (simp;omega) | omega) _ | exact Below.refl _ _)) (hb1.mono (by first | (simp;done) | (simp;omega) | omega))
 have K0:Hid (Blk w1 w.heap.size 161 #[.int .i64 x.kind,.string x.pattern.rel,.slice A1 x.pattern.args.length c1]):=Blk.later (Blk.alloc (Blk.alloc (Blk.new _ _ _) _) _) hb1
 have K1:Hid (Blk w1 (w.heap.size+1) 134 #[.int .i64 0,.string ⟨#[]⟩,.slice none 0 0]):=Blk.later (Blk.alloc (Blk.new_at (by simp)) _) hb1
 have K2:Hid (Blk w1 (w.heap.size+1+1) 134 #[.int .i64 x.kind,.string ⟨#[]⟩,.slice none 0 0]):=Blk.later (Blk.new_at (by simp)) hb1
 have f0:=K0.out.at (i:=0) rfl
 have r0:=K1.out.at (i:=0) rfl
 have o0:=K2.out.at (i:=0) rfl
 have rz0:=K1.out.frozen 0
 have oz0:=K2.out.frozen 0
 have f1:=K0.out.at (i:=1) rfl
 have r1:=K1.out.at (i:=1) rfl
 have o1:=K2.out.at (i:=1) rfl
 have rz1:=K1.out.frozen 1
 have oz1:=K2.out.frozen 1
 have f2:=K0.out.at (i:=2) rfl
 have r2:=K1.out.at (i:=2) rfl
 have o2:=K2.out.at (i:=2) rfl
 have rz2:=K1.out.frozen 2
 have oz2:=K2.out.frozen 2
 have hz1:w.heap.size+2<w1.heap.size:=by have:=hb1.size;simp at this;omega
 clear hb1
 go_wp2_with fail
 refine bodyPost_ret (v:=.agg #[.int .i64 x.kind,.string x.pattern.rel,.slice vA1 x.pattern.args.length vc1]) (by simp [results,Tryz.results131,go_sem,r0,r1,r2]) rfl ?_
 obtain ⟨_,_,N1,hcs1,hL1,_,nn1,mm1,ss1⟩:=G1.out.rep
 cases hcs1
 subst hL1
 exact Zfy (wr:=w1) (M1) ⟨⟨vA1,vc1,M1,rfl,rfl,t0,nn1,mm1,ss1⟩,by have o:=G1.out.own;simpa only [List.append_assoc] using o⟩ (by intro b hb;repeat rw [Below.heap_setCell _ _ _ _ (by dsimp only;omega)]) (by repeat (first | refine Below.setCell ?_ (by dsimp only;omega) _ | refine Below.alloc ?_ (by first | (simp;done) | (simp;omega) | omega) _ | exact B1.out))
theorem Tryz.infoAction:(Tryz.prog.info? 134).map (fun i=>(i.zero,i.size,i.bytes))=some (some (.agg #[.int .i64 0,.string ⟨#[]⟩,.slice none 0 0]),3,48):=by kernel_rfl
set_option maxHeartbeats 1600000 in
theorem ZlJ (A:Option Addr) (n c:Nat) (ds:List Zr) (L:List Nat) (w:World) (hn:n=ds.length) (hz:Yg ds≤1048576) (h:Sli Yk w A ds L):
  Calls Tryz.prog 85 #[.slice A n c] w (Zkp Yk 134 w ds):=by
 obtain ⟨i0,hi,hz0,hz1,hz2⟩:=info_parts Tryz.infoAction
 have H:=Lib.hid h
 have HN:=Lib.hid hn
 have hm:n≤1048576:=by simp only [Yg] at hz;omega
 have HZ:=Lib.hid hz
 clear h hn hz
 go_enter Tryz.func85,Tryz.ntmps85
 go_wp2_with (at_make;refine wpList_make_full _ rfl _ _ 80 rfl w.heap.size 134 i0 _ 3 Tryz.underlying80 hi hz0 hz1 .i64 .i64 _ _ n rfl rfl rfl rfl (by rw [hz2];omega) (by unfold maxLen;omega) (Nat.le_refl _) ?_;intro w1 hown hg)
 have hb:Below w.heap.size w w1:=(Below.refl _ _).grown hg (Nat.le_refl _) (by simp)
 have HF0:Hid (Z9 Yk 134 w n ds 0 w1):=Z9.start hown hb
 clear hown hg hb
 go_wp2
 go_loopw [4] (fun i wr=>∃(k:Nat),k≤n∧i=.int .i64 k∧Hid (Z9 Yk 134 w n ds k wr)) (fun i _=>n - (intOf i).toNat)
 case atStart=>exact ⟨0,Nat.zero_le _,rfl,HF0⟩
 case round=>
  obtain ⟨k,hk,rfl,HF⟩:=hrel
  by_cases hlt:k<n
  ·have hkl:k<ds.length:=by have:=HN.out;omega
   obtain ⟨b,off,cs,Lk,rfl,hbL,hLk,hrep,hc⟩:=H.out.at_ hkl
   have hbl:b<w.heap.size:=H.out.lt b hbL
   have HR:=Lib.hid (Yk.keep hrep (ZN HF.out.below (fun y m=>H.out.lt y (hLk y m))))
   obtain ⟨A1,c1,rfl⟩:=Q9 hrep
   have q0:wr.cell? ⟨b,off+k * 3,none⟩=_:=(HF.out.below.cell (p:=⟨b,off+(k * 3+0),none⟩) hbl).trans (hc 0 _ rfl)
   have q1:wr.cell? ⟨b,off+k * 3+1,none⟩=_:=(HF.out.below.cell (p:=⟨b,off+(k * 3+1),none⟩) hbl).trans (hc 1 _ rfl)
   have q2:wr.cell? ⟨b,off+k * 3+2,none⟩=_:=(HF.out.below.cell (p:=⟨b,off+(k * 3+2),none⟩) hbl).trans (hc 2 _ rfl)
   have hcx:Hid (Yl ds[k]≤1048576):=ZjX Yl ds k hkl (by have:=HZ.out;simp only [Yg] at this;omega)
   obtain ⟨x,hx⟩:∃x,x=ds[k]:=⟨_,rfl⟩
   have HX:=Lib.hid hx
   rw [←hx] at HR q0 q1 q2 hcx
   clear hc hrep hx
   go_wp2_with fail
   refine (Znb _ x Lk _ hcx.out HR.out).mono ?_
   rintro e w2 ⟨cs2,M2,rfl,g2,hb2⟩
   have HF2:=Lib.hid (HF.out.later hb2)
   have HS:=Lib.hid (HF.out.store hlt HN.out (fun _=>HX.out) hb2 g2)
   obtain ⟨vA1,vc1,rfl⟩:=Q9 g2.rep
   clear g2 hb2
   obtain ⟨d0,e0⟩:∃d,w2.cell? ⟨w.heap.size,k * 3,none⟩=some d:=HF2.out.cell hlt (j:=0) (by decide)
   have z0:=HF2.out.frozen (k * 3)
   obtain ⟨d1,e1⟩:∃d,w2.cell? ⟨w.heap.size,k * 3+1,none⟩=some d:=HF2.out.cell hlt (j:=1) (by decide)
   have z1:=HF2.out.frozen (k * 3+1)
   obtain ⟨d2,e2⟩:∃d,w2.cell? ⟨w.heap.size,k * 3+2,none⟩=some d:=HF2.out.cell hlt (j:=2) (by decide)
   have z2:=HF2.out.frozen (k * 3+2)
   go_wp2_with fail
   go_roundw
   case rel=>exact ⟨k+1,by omega,by go_num,HS.out⟩
   case measure=>simp [intOf];omega
  ·obtain rfl:k=n:=by omega
   go_wp2
   go_ret
   exact ⟨_,rfl,HF.out.done HN.out⟩
set_option maxHeartbeats 1600000 in
theorem Zqc (cs:List Value) (x:Zf) (L:List Nat) (w:World) (hz:Yq x≤1048576) (h:XU.rep w cs x L):
  Calls Tryz.prog 46 #[.agg cs.toArray] w (Zmx XU w x):=by
 obtain ⟨A1,c1,L1,A2,c2,L2,rfl,_hL,t0,n1,m1,s1,n2,m2,s2⟩:=h
 unfold maxLen at m1 m2
 have S1:=Lib.hid s1
 clear s1
 have S2:=Lib.hid s2
 clear s2
 simp only [Yq] at hz
 go_enter Tryz.func46,Tryz.ntmps46
 go_wp2_with fail
 refine (Zpt A1 _ c1 x.cond L1 _ rfl (by omega) (S1.out.below (by repeat (first | refine Below.setCell ?_ (by dsimp only;omega) _ | refine Below.alloc ?_ (by first | (simp;done) | (simp;omega) | omega) _ | exact Below.refl _ _)))).mono ?_
 rintro e w1 ⟨v1,rfl,a1⟩
 obtain ⟨vA1,vc1,rfl⟩:=a1.shape
 have hb1:=a1.below
 obtain ⟨M1,g1⟩:=a1.got
 clear a1
 have G1:=Lib.hid (g1.mono (show w.heap.size+3≤_ by simp))
 have lt1:=Lib.hid g1.lt
 clear g1
 have B1:Hid (Below w.heap.size w w1):=Below.trans (by repeat (first | refine Below.setCell ?_ (by dsimp only;omega) _ | refine Below.alloc ?_ (by first | (simp;done) | (simp;omega) | omega) _ | exact Below.refl _ _)) (hb1.mono (by first | (simp;done) | (simp;omega) | omega))
 have K0:Hid (Blk w1 w.heap.size 75 #[.string x.name,.int .i64 x.priority,.slice A1 x.cond.length c1,.slice A2 x.thn.length c2]):=Blk.later (Blk.alloc (Blk.alloc (Blk.new _ _ _) _) _) hb1
 have K1:Hid (Blk w1 (w.heap.size+1) 82 #[.string ⟨#[]⟩,.int .i64 0,.slice none 0 0,.slice none 0 0]):=Blk.later (Blk.alloc (Blk.new_at (by simp)) _) hb1
 have K2:Hid (Blk w1 (w.heap.size+1+1) 82 #[.string x.name,.int .i64 x.priority,.slice none 0 0,.slice none 0 0]):=Blk.later (Blk.new_at (by simp)) hb1
 have f0:=K0.out.at (i:=0) rfl
 have r0:=K1.out.at (i:=0) rfl
 have o0:=K2.out.at (i:=0) rfl
 have rz0:=K1.out.frozen 0
 have oz0:=K2.out.frozen 0
 have f1:=K0.out.at (i:=1) rfl
 have r1:=K1.out.at (i:=1) rfl
 have o1:=K2.out.at (i:=1) rfl
 have rz1:=K1.out.frozen 1
 have oz1:=K2.out.frozen 1
 have f2:=K0.out.at (i:=2) rfl
 have r2:=K1.out.at (i:=2) rfl
 have o2:=K2.out.at (i:=2) rfl
 have rz2:=K1.out.frozen 2
 have oz2:=K2.out.frozen 2
 have f3:=K0.out.at (i:=3) rfl
 have r3:=K1.out.at (i:=3) rfl
 have o3:=K2.out.at (i:=3) rfl
 have rz3:=K1.out.frozen 3
 have oz3:=K2.out.frozen 3
 have hz1:w.heap.size+2<w1.heap.size:=by have:=hb1.size;simp at this;omega
 clear hb1
 go_wp2_with fail
 refine (ZlJ A2 _ c2 x.thn L2 _ rfl (by omega) (S2.out.below (by repeat (first | refine Below.setCell ?_ (by dsimp only;omega) _ | refine Below.alloc ?_ (by first | (simp;done) | (simp;omega) | omega) _ | exact B1.out)))).mono ?_
 rintro e w2 ⟨v2,rfl,a2⟩
 obtain ⟨vA2,vc2,rfl⟩:=a2.shape
 have hb2:=a2.below
 obtain ⟨M2,g2⟩:=a2.got
 clear a2
 have G2:=Lib.hid (g2.mono (show w1.heap.size≤_ by simp))
 have lt2:=Lib.hid g2.lt
 clear g2
 have B2:Hid (Below w.heap.size w w2):=Below.trans (by repeat (first | refine Below.setCell ?_ (by dsimp only;omega) _ | refine Below.alloc ?_ (by first | (simp;done) | (simp;omega) | omega) _ | exact B1.out)) (hb2.mono (by first | (simp;done) | (simp;omega) | omega))
 have G1:Hid (Got (ZY XV) (w.heap.size+3) [.slice vA1 x.cond.length vc1] x.cond M1 w2):=Got.later (by repeat (first | refine Got.setCell ?_ (by dsimp only;omega) _ | exact G1.out)) hb2
 have K0:=Lib.hid (Blk.later (Blk.far K0.out (by dsimp only;omega) _) hb2)
 have K1:=Lib.hid (Blk.later (Blk.far K1.out (by dsimp only;omega) _) hb2)
 have K2:=Lib.hid (Blk.later (Blk.set_ K2.out 2 _) hb2)
 clear f0 r0 o0 rz0 oz0 f1 r1 o1 rz1 oz1 f2 r2 o2 rz2 oz2 f3 r3 o3 rz3 oz3
 have f0:=K0.out.at (i:=0) rfl
 have r0:=K1.out.at (i:=0) rfl
 have o0:=K2.out.at (i:=0) rfl
 have rz0:=K1.out.frozen 0
 have oz0:=K2.out.frozen 0
 have f1:=K0.out.at (i:=1) rfl
 have r1:=K1.out.at (i:=1) rfl
 have o1:=K2.out.at (i:=1) rfl
 have rz1:=K1.out.frozen 1
 have oz1:=K2.out.frozen 1
 have f2:=K0.out.at (i:=2) rfl
 have r2:=K1.out.at (i:=2) rfl
 have o2:=K2.out.at (i:=2) rfl
 have rz2:=K1.out.frozen 2
 have oz2:=K2.out.frozen 2
 have f3:=K0.out.at (i:=3) rfl
 have r3:=K1.out.at (i:=3) rfl
 have o3:=K2.out.at (i:=3) rfl
 have rz3:=K1.out.frozen 3
 have oz3:=K2.out.frozen 3
 have hz2:w.heap.size+2<w2.heap.size:=by have:=hb2.size;simp at this;omega
 have hy2:w1.heap.size≤w2.heap.size:=by have:=hb2.size;simp at this;omega
 clear hb2
 go_wp2_with fail
 refine bodyPost_ret (v:=.agg #[.string x.name,.int .i64 x.priority,.slice vA1 x.cond.length vc1,.slice vA2 x.thn.length vc2]) (by simp [results,Tryz.results46,go_sem,r0,r1,r2,r3]) rfl ?_
 obtain ⟨nn1,mm1,ss1⟩:=ZU G1.out.rep
 obtain ⟨nn2,mm2,ss2⟩:=ZU G2.out.rep
 exact Zfy (wr:=w2) (M1++M2) ⟨⟨vA1,vc1,M1,vA2,vc2,M2,rfl,rfl,t0,nn1,mm1,ss1,nn2,mm2,ss2⟩,by have o:=(Own.append G1.out.own G2.out.own (by omega) lt1.out);simpa only [List.append_assoc] using o⟩ (by intro b hb;repeat rw [Below.heap_setCell _ _ _ _ (by dsimp only;omega)]) (by repeat (first | refine Below.setCell ?_ (by dsimp only;omega) _ | refine Below.alloc ?_ (by first | (simp;done) | (simp;omega) | omega) _ | exact B2.out))
theorem Tryz.infoRule:(Tryz.prog.info? 82).map (fun i=>(i.zero,i.size,i.bytes))=some (some (.agg #[.string ⟨#[]⟩,.int .i64 0,.slice none 0 0,.slice none 0 0]),4,72):=by kernel_rfl
set_option maxHeartbeats 1600000 in
theorem Zdw (A:Option Addr) (n c:Nat) (ds:List Zf) (L:List Nat) (w:World) (hn:n=ds.length) (hz:Yj ds≤1048576) (h:Sli XU w A ds L):
  Calls Tryz.prog 12 #[.slice A n c] w (Zkp XU 82 w ds):=by
 obtain ⟨i0,hi,hz0,hz1,hz2⟩:=info_parts Tryz.infoRule
 have H:=Lib.hid h
 have HN:=Lib.hid hn
 have hm:n≤1048576:=by simp only [Yj] at hz;omega
 have HZ:=Lib.hid hz
 clear h hn hz
 go_enter Tryz.func12,Tryz.ntmps12
 go_wp2_with (at_make;refine wpList_make_full _ rfl _ _ 32 rfl w.heap.size 82 i0 _ 4 Tryz.underlying32 hi hz0 hz1 .i64 .i64 _ _ n rfl rfl rfl rfl (by rw [hz2];omega) (by unfold maxLen;omega) (Nat.le_refl _) ?_;intro w1 hown hg)
 have hb:Below w.heap.size w w1:=(Below.refl _ _).grown hg (Nat.le_refl _) (by simp)
 have HF0:Hid (Z9 XU 82 w n ds 0 w1):=Z9.start hown hb
 clear hown hg hb
 go_wp2
 go_loopw [4] (fun i wr=>∃(k:Nat),k≤n∧i=.int .i64 k∧Hid (Z9 XU 82 w n ds k wr)) (fun i _=>n - (intOf i).toNat)
 case atStart=>exact ⟨0,Nat.zero_le _,rfl,HF0⟩
 case round=>
  obtain ⟨k,hk,rfl,HF⟩:=hrel
  by_cases hlt:k<n
  ·have hkl:k<ds.length:=by have:=HN.out;omega
   obtain ⟨b,off,cs,Lk,rfl,hbL,hLk,hrep,hc⟩:=H.out.at_ hkl
   have hbl:b<w.heap.size:=H.out.lt b hbL
   have HR:=Lib.hid (XU.keep hrep (ZN HF.out.below (fun y m=>H.out.lt y (hLk y m))))
   obtain ⟨A1,c1,A2,c2,rfl⟩:=Zb5 hrep
   have q0:wr.cell? ⟨b,off+k * 4,none⟩=_:=(HF.out.below.cell (p:=⟨b,off+(k * 4+0),none⟩) hbl).trans (hc 0 _ rfl)
   have q1:wr.cell? ⟨b,off+k * 4+1,none⟩=_:=(HF.out.below.cell (p:=⟨b,off+(k * 4+1),none⟩) hbl).trans (hc 1 _ rfl)
   have q2:wr.cell? ⟨b,off+k * 4+2,none⟩=_:=(HF.out.below.cell (p:=⟨b,off+(k * 4+2),none⟩) hbl).trans (hc 2 _ rfl)
   have q3:wr.cell? ⟨b,off+k * 4+3,none⟩=_:=(HF.out.below.cell (p:=⟨b,off+(k * 4+3),none⟩) hbl).trans (hc 3 _ rfl)
   have hcx:Hid (Yq ds[k]≤1048576):=ZjX Yq ds k hkl (by have:=HZ.out;simp only [Yj] at this;omega)
   obtain ⟨x,hx⟩:∃x,x=ds[k]:=⟨_,rfl⟩
   have HX:=Lib.hid hx
   rw [←hx] at HR q0 q1 q2 q3 hcx
   clear hc hrep hx
   go_wp2_with fail
   refine (Zqc _ x Lk _ hcx.out HR.out).mono ?_
   rintro e w2 ⟨cs2,M2,rfl,g2,hb2⟩
   have HF2:=Lib.hid (HF.out.later hb2)
   have HS:=Lib.hid (HF.out.store hlt HN.out (fun _=>HX.out) hb2 g2)
   obtain ⟨vA1,vc1,vA2,vc2,rfl⟩:=Zb5 g2.rep
   clear g2 hb2
   obtain ⟨d0,e0⟩:∃d,w2.cell? ⟨w.heap.size,k * 4,none⟩=some d:=HF2.out.cell hlt (j:=0) (by decide)
   have z0:=HF2.out.frozen (k * 4)
   obtain ⟨d1,e1⟩:∃d,w2.cell? ⟨w.heap.size,k * 4+1,none⟩=some d:=HF2.out.cell hlt (j:=1) (by decide)
   have z1:=HF2.out.frozen (k * 4+1)
   obtain ⟨d2,e2⟩:∃d,w2.cell? ⟨w.heap.size,k * 4+2,none⟩=some d:=HF2.out.cell hlt (j:=2) (by decide)
   have z2:=HF2.out.frozen (k * 4+2)
   obtain ⟨d3,e3⟩:∃d,w2.cell? ⟨w.heap.size,k * 4+3,none⟩=some d:=HF2.out.cell hlt (j:=3) (by decide)
   have z3:=HF2.out.frozen (k * 4+3)
   go_wp2_with fail
   go_roundw
   case rel=>exact ⟨k+1,by omega,by go_num,HS.out⟩
   case measure=>simp [intOf];omega
  ·obtain rfl:k=n:=by omega
   go_wp2
   go_ret
   exact ⟨_,rfl,HF.out.done HN.out⟩
set_option maxHeartbeats 1600000 in
theorem ZEg (cs:List Value) (x:Zuw) (L:List Nat) (w:World) (hz:Q0 x≤1048576) (h:ZDz.rep w cs x L):
  Calls Tryz.prog 72 #[.agg cs.toArray] w (Zmx ZDz w x):=by
 obtain ⟨A1,c1,L1,A2,c2,L2,rfl,_hL,t0,t1,n1,m1,s1,n2,m2,s2⟩:=h
 unfold maxLen at m1 m2
 have S1:=Lib.hid s1
 clear s1
 have S2:=Lib.hid s2
 clear s2
 simp only [Q0] at hz
 go_enter Tryz.func72,Tryz.ntmps72
 go_wp2_with fail
 refine (ZpQ [.string x.fact.rel,.slice A1 x.fact.args.length c1] x.fact _ _ (by omega) ⟨A1,c1,L1,rfl,rfl,t0,n1,(by unfold maxLen;omega),S1.out.below (by repeat (first | refine Below.setCell ?_ (by dsimp only;omega) _ | refine Below.alloc ?_ (by first | (simp;done) | (simp;omega) | omega) _ | exact Below.refl _ _))⟩).mono ?_
 rintro e w1 ⟨cs1,M1,rfl,g1,hb1⟩
 obtain ⟨vA1,vc1,rfl⟩:=Zcc g1.rep
 have G1:=Lib.hid (g1.mono (show w.heap.size+3≤_ by simp))
 have lt1:=Lib.hid g1.lt
 clear g1
 have B1:Hid (Below w.heap.size w w1):=Below.trans (by repeat (first | refine Below.setCell ?_ (by dsimp only;omega) _ | refine Below.alloc ?_ (by first | (simp;done) | (simp;omega) | omega) _ | exact Below.refl _ _)) (hb1.mono (by first | (simp;done) | (simp;omega) | omega))
 have K0:Hid (Blk w1 w.heap.size 104 #[.string x.fact.rel,.slice A1 x.fact.args.length c1,.string x.rule,.slice A2 x.uses.length c2]):=Blk.later (Blk.alloc (Blk.alloc (Blk.new _ _ _) _) _) hb1
 have K1:Hid (Blk w1 (w.heap.size+1) 107 #[.string ⟨#[]⟩,.slice none 0 0,.string ⟨#[]⟩,.slice none 0 0]):=Blk.later (Blk.alloc (Blk.new_at (by simp)) _) hb1
 have K2:Hid (Blk w1 (w.heap.size+1+1) 107 #[.string ⟨#[]⟩,.slice none 0 0,.string ⟨#[]⟩,.slice none 0 0]):=Blk.later (Blk.new_at (by simp)) hb1
 have f0:=K0.out.at (i:=0) rfl
 have r0:=K1.out.at (i:=0) rfl
 have o0:=K2.out.at (i:=0) rfl
 have rz0:=K1.out.frozen 0
 have oz0:=K2.out.frozen 0
 have f1:=K0.out.at (i:=1) rfl
 have r1:=K1.out.at (i:=1) rfl
 have o1:=K2.out.at (i:=1) rfl
 have rz1:=K1.out.frozen 1
 have oz1:=K2.out.frozen 1
 have f2:=K0.out.at (i:=2) rfl
 have r2:=K1.out.at (i:=2) rfl
 have o2:=K2.out.at (i:=2) rfl
 have rz2:=K1.out.frozen 2
 have oz2:=K2.out.frozen 2
 have f3:=K0.out.at (i:=3) rfl
 have r3:=K1.out.at (i:=3) rfl
 have o3:=K2.out.at (i:=3) rfl
 have rz3:=K1.out.frozen 3
 have oz3:=K2.out.frozen 3
 have hz1:w.heap.size+2<w1.heap.size:=by have:=hb1.size;simp at this;omega
 clear hb1
 go_wp2_with fail
 refine (ZEh A2 _ c2 x.uses L2 _ rfl (by omega) (S2.out.below (by repeat (first | refine Below.setCell ?_ (by dsimp only;omega) _ | refine Below.alloc ?_ (by first | (simp;done) | (simp;omega) | omega) _ | exact B1.out)))).mono ?_
 rintro e w2 ⟨v2,rfl,a2⟩
 obtain ⟨vA2,vc2,rfl⟩:=a2.shape
 have hb2:=a2.below
 obtain ⟨M2,g2⟩:=a2.got
 clear a2
 have G2:=Lib.hid (g2.mono (show w1.heap.size≤_ by simp))
 have lt2:=Lib.hid g2.lt
 clear g2
 have B2:Hid (Below w.heap.size w w2):=Below.trans (by repeat (first | refine Below.setCell ?_ (by dsimp only;omega) _ | refine Below.alloc ?_ (by first | (simp;done) | (simp;omega) | omega) _ | exact B1.out)) (hb2.mono (by first | (simp;done) | (simp;omega) | omega))
 have G1:Hid (Got Y4 (w.heap.size+3) [.string x.fact.rel,.slice vA1 x.fact.args.length vc1] x.fact M1 w2):=Got.later (by repeat (first | refine Got.setCell ?_ (by dsimp only;omega) _ | exact G1.out)) hb2
 have K0:=Lib.hid (Blk.later (Blk.far (Blk.far (Blk.far K0.out (by dsimp only;omega) _) (by dsimp only;omega) _) (by dsimp only;omega) _) hb2)
 have K1:=Lib.hid (Blk.later (Blk.far (Blk.far (Blk.far K1.out (by dsimp only;omega) _) (by dsimp only;omega) _) (by dsimp only;omega) _) hb2)
 have K2:=Lib.hid (Blk.later (Blk.set_ (Blk.set_ (Blk.set_ K2.out 0 _) 1 _) 2 _) hb2)
 clear f0 r0 o0 rz0 oz0 f1 r1 o1 rz1 oz1 f2 r2 o2 rz2 oz2 f3 r3 o3 rz3 oz3
 have f0:=K0.out.at (i:=0) rfl
 have r0:=K1.out.at (i:=0) rfl
 have o0:=K2.out.at (i:=0) rfl
 have rz0:=K1.out.frozen 0
 have oz0:=K2.out.frozen 0
 have f1:=K0.out.at (i:=1) rfl
 have r1:=K1.out.at (i:=1) rfl
 have o1:=K2.out.at (i:=1) rfl
 have rz1:=K1.out.frozen 1
 have oz1:=K2.out.frozen 1
 have f2:=K0.out.at (i:=2) rfl
 have r2:=K1.out.at (i:=2) rfl
 have o2:=K2.out.at (i:=2) rfl
 have rz2:=K1.out.frozen 2
 have oz2:=K2.out.frozen 2
 have f3:=K0.out.at (i:=3) rfl
 have r3:=K1.out.at (i:=3) rfl
 have o3:=K2.out.at (i:=3) rfl
 have rz3:=K1.out.frozen 3
 have oz3:=K2.out.frozen 3
 have hz2:w.heap.size+2<w2.heap.size:=by have:=hb2.size;simp at this;omega
 have hy2:w1.heap.size≤w2.heap.size:=by have:=hb2.size;simp at this;omega
 clear hb2
 go_wp2_with fail
 refine bodyPost_ret (v:=.agg #[.string x.fact.rel,.slice vA1 x.fact.args.length vc1,.string x.rule,.slice vA2 x.uses.length vc2]) (by simp [results,Tryz.results72,go_sem,r0,r1,r2,r3]) rfl ?_
 obtain ⟨_,_,N1,hcs1,hL1,_,nn1,mm1,ss1⟩:=G1.out.rep
 cases hcs1
 subst hL1
 obtain ⟨nn2,mm2,ss2⟩:=ZU G2.out.rep
 exact Zfy (wr:=w2) (M1++M2) ⟨⟨vA1,vc1,M1,vA2,vc2,M2,rfl,rfl,t0,t1,nn1,mm1,ss1,nn2,mm2,ss2⟩,by have o:=(Own.append G1.out.own G2.out.own (by omega) lt1.out);simpa only [List.append_assoc] using o⟩ (by intro b hb;repeat rw [Below.heap_setCell _ _ _ _ (by dsimp only;omega)]) (by repeat (first | refine Below.setCell ?_ (by dsimp only;omega) _ | refine Below.alloc ?_ (by first | (simp;done) | (simp;omega) | omega) _ | exact B2.out))
theorem Tryz.infoStep:(Tryz.prog.info? 107).map (fun i=>(i.zero,i.size,i.bytes))=some (some (.agg #[.string ⟨#[]⟩,.slice none 0 0,.string ⟨#[]⟩,.slice none 0 0]),4,80):=by kernel_rfl
set_option maxHeartbeats 1600000 in
theorem ZDM (A:Option Addr) (n c:Nat) (ds:List Zuw) (L:List Nat) (w:World) (hn:n=ds.length) (hz:Q1 ds≤1048576) (h:Sli ZDz w A ds L):
  Calls Tryz.prog 39 #[.slice A n c] w (Zkp ZDz 107 w ds):=by
 obtain ⟨i0,hi,hz0,hz1,hz2⟩:=info_parts Tryz.infoStep
 have H:=Lib.hid h
 have HN:=Lib.hid hn
 have hm:n≤1048576:=by simp only [Q1] at hz;omega
 have HZ:=Lib.hid hz
 clear h hn hz
 go_enter Tryz.func39,Tryz.ntmps39
 go_wp2_with (at_make;refine wpList_make_full _ rfl _ _ 65 rfl w.heap.size 107 i0 _ 4 Tryz.underlying65 hi hz0 hz1 .i64 .i64 _ _ n rfl rfl rfl rfl (by rw [hz2];omega) (by unfold maxLen;omega) (Nat.le_refl _) ?_;intro w1 hown hg)
 have hb:Below w.heap.size w w1:=(Below.refl _ _).grown hg (Nat.le_refl _) (by simp)
 have HF0:Hid (Z9 ZDz 107 w n ds 0 w1):=Z9.start hown hb
 clear hown hg hb
 go_wp2
 go_loopw [4] (fun i wr=>∃(k:Nat),k≤n∧i=.int .i64 k∧Hid (Z9 ZDz 107 w n ds k wr)) (fun i _=>n - (intOf i).toNat)
 case atStart=>exact ⟨0,Nat.zero_le _,rfl,HF0⟩
 case round=>
  obtain ⟨k,hk,rfl,HF⟩:=hrel
  by_cases hlt:k<n
  ·have hkl:k<ds.length:=by have:=HN.out;omega
   obtain ⟨b,off,cs,Lk,rfl,hbL,hLk,hrep,hc⟩:=H.out.at_ hkl
   have hbl:b<w.heap.size:=H.out.lt b hbL
   have HR:=Lib.hid (ZDz.keep hrep (ZN HF.out.below (fun y m=>H.out.lt y (hLk y m))))
   obtain ⟨A1,c1,A2,c2,rfl⟩:=ZDC hrep
   have q0:wr.cell? ⟨b,off+k * 4,none⟩=_:=(HF.out.below.cell (p:=⟨b,off+(k * 4+0),none⟩) hbl).trans (hc 0 _ rfl)
   have q1:wr.cell? ⟨b,off+k * 4+1,none⟩=_:=(HF.out.below.cell (p:=⟨b,off+(k * 4+1),none⟩) hbl).trans (hc 1 _ rfl)
   have q2:wr.cell? ⟨b,off+k * 4+2,none⟩=_:=(HF.out.below.cell (p:=⟨b,off+(k * 4+2),none⟩) hbl).trans (hc 2 _ rfl)
   have q3:wr.cell? ⟨b,off+k * 4+3,none⟩=_:=(HF.out.below.cell (p:=⟨b,off+(k * 4+3),none⟩) hbl).trans (hc 3 _ rfl)
   have hcx:Hid (Q0 ds[k]≤1048576):=ZjX Q0 ds k hkl (by have:=HZ.out;simp only [Q1] at this;omega)
   obtain ⟨x,hx⟩:∃x,x=ds[k]:=⟨_,rfl⟩
   have HX:=Lib.hid hx
   rw [←hx] at HR q0 q1 q2 q3 hcx
   clear hc hrep hx
   go_wp2_with fail
   refine (ZEg _ x Lk _ hcx.out HR.out).mono ?_
   rintro e w2 ⟨cs2,M2,rfl,g2,hb2⟩
   have HF2:=Lib.hid (HF.out.later hb2)
   have HS:=Lib.hid (HF.out.store hlt HN.out (fun _=>HX.out) hb2 g2)
   obtain ⟨vA1,vc1,vA2,vc2,rfl⟩:=ZDC g2.rep
   clear g2 hb2
   obtain ⟨d0,e0⟩:∃d,w2.cell? ⟨w.heap.size,k * 4,none⟩=some d:=HF2.out.cell hlt (j:=0) (by decide)
   have z0:=HF2.out.frozen (k * 4)
   obtain ⟨d1,e1⟩:∃d,w2.cell? ⟨w.heap.size,k * 4+1,none⟩=some d:=HF2.out.cell hlt (j:=1) (by decide)
   have z1:=HF2.out.frozen (k * 4+1)
   obtain ⟨d2,e2⟩:∃d,w2.cell? ⟨w.heap.size,k * 4+2,none⟩=some d:=HF2.out.cell hlt (j:=2) (by decide)
   have z2:=HF2.out.frozen (k * 4+2)
   obtain ⟨d3,e3⟩:∃d,w2.cell? ⟨w.heap.size,k * 4+3,none⟩=some d:=HF2.out.cell hlt (j:=3) (by decide)
   have z3:=HF2.out.frozen (k * 4+3)
   go_wp2_with fail
   go_roundw
   case rel=>exact ⟨k+1,by omega,by go_num,HS.out⟩
   case measure=>simp [intOf];omega
  ·obtain rfl:k=n:=by omega
   go_wp2
   go_ret
   exact ⟨_,rfl,HF.out.done HN.out⟩
end Go.Proofs.YtojnhepgnbhaaaaGreatDoor
namespace Go.Proofs.YtojnhepgnbhaaaaGreatDoor
open Go.RowKit
def XJ (w:World) (e:Ending) (w':World):Prop:=e=.returned (.bool true)∧Below w.heap.size w w'
set_option maxHeartbeats 1600000 in
theorem Zgw (A B:Option Addr) (n c d:Nat) (ds:List ByteArray) (L M:List Nat) (w:World) (hn:n=ds.length) (hm:n≤9223372036854775807) (h1:Sli Zbm w A ds L) (h2:Sli Zbm w B ds M):
  Calls Tryz.prog 65 #[.slice A n c,.slice B n d] w (XJ w):=by
 have H1:=Lib.hid h1
 have H2:=Lib.hid h2
 have HN:=Lib.hid hn
 clear h1 h2 hn
 have hne:((n:Int) != n)=false:=by simp
 go_enter Tryz.func65,Tryz.ntmps65
 go_wp2
 go_loopw [5] (fun i wr=>∃(k:Nat),k≤n∧i=.int .i64 k∧Hid (∃q,wr=w.drewN q)) (fun i _=>n - (intOf i).toNat)
 case atStart=>exact ⟨0,Nat.zero_le _,rfl,0,rfl⟩
 case round=>
  obtain ⟨k,hk,rfl,hq⟩:=hrel
  obtain ⟨q,rfl⟩:=hq.out
  by_cases hlt:k<n
  ·have hkl:k<ds.length:=by have:=HN.out;omega
   obtain ⟨b,off,cs,Lk,rfl,_,_,hrep,hc⟩:=H1.out.at_ hkl
   obtain ⟨b',off',cs',Mk,rfl,_,_,hrep',hc'⟩:=H2.out.at_ hkl
   generalize ds[k]=x at *
   obtain ⟨rfl,_,_⟩:=hrep
   obtain ⟨rfl,_,_⟩:=hrep'
   have q0:=hc 0 _ rfl
   have p0:=hc' 0 _ rfl
   simp only [show Zbm.size=1 from rfl,Nat.mul_one,Nat.add_zero] at q0 p0
   clear hc hc'
   have k0:(0:Int)≤k:=by omega
   have k1:(k:Int)<n:=by omega
   go_wp2_with fail
   go_quiet (fail)
   go_wp2_with fail
   go_roundw
   case rel=>exact ⟨k+1,by omega,by go_num,by first | exact ZqK _ _ _ | exact Zpj _ _⟩
   case measure=>simp [intOf];omega
  ·go_wp2
   go_ret
   exact ⟨rfl,ZfN _ _ _⟩
set_option maxHeartbeats 1600000 in
theorem Zj6 (A B:Option Addr) (n c d:Nat) (ds:List Int) (L M:List Nat) (w:World) (hn:n=ds.length) (hm:n≤9223372036854775807) (h1:Sli Zgq w A ds L) (h2:Sli Zgq w B ds M):
  Calls Tryz.prog 120 #[.slice A n c,.slice B n d] w (XJ w):=by
 have H1:=Lib.hid h1
 have H2:=Lib.hid h2
 have HN:=Lib.hid hn
 clear h1 h2 hn
 have hne:((n:Int) != n)=false:=by simp
 go_enter Tryz.func120,Tryz.ntmps120
 go_wp2
 go_loopw [5] (fun i wr=>∃(k:Nat),k≤n∧i=.int .i64 k∧Hid (∃q,wr=w.drewN q)) (fun i _=>n - (intOf i).toNat)
 case atStart=>exact ⟨0,Nat.zero_le _,rfl,0,rfl⟩
 case round=>
  obtain ⟨k,hk,rfl,hq⟩:=hrel
  obtain ⟨q,rfl⟩:=hq.out
  by_cases hlt:k<n
  ·have hkl:k<ds.length:=by have:=HN.out;omega
   obtain ⟨b,off,cs,Lk,rfl,_,_,hrep,hc⟩:=H1.out.at_ hkl
   obtain ⟨b',off',cs',Mk,rfl,_,_,hrep',hc'⟩:=H2.out.at_ hkl
   generalize ds[k]=x at *
   obtain ⟨rfl,_⟩:=hrep
   obtain ⟨rfl,_⟩:=hrep'
   have q0:=hc 0 _ rfl
   have p0:=hc' 0 _ rfl
   simp only [show Zgq.size=1 from rfl,Nat.mul_one,Nat.add_zero] at q0 p0
   clear hc hc'
   have k0:(0:Int)≤k:=by omega
   have k1:(k:Int)<n:=by omega
   go_wp2_with fail
   go_quiet (fail)
   go_wp2_with fail
   go_roundw
   case rel=>exact ⟨k+1,by omega,by go_num,by first | exact ZqK _ _ _ | exact Zpj _ _⟩
   case measure=>simp [intOf];omega
  ·go_wp2
   go_ret
   exact ⟨rfl,ZfN _ _ _⟩
set_option maxHeartbeats 1600000 in
theorem ZpY (cs ds:List Value) (x:Zc) (L M:List Nat) (w:World) (h1:Y4.rep w cs x L) (h2:Y4.rep w ds x M):
  Calls Tryz.prog 35 #[.agg cs.toArray,.agg ds.toArray] w (XJ w):=by
 obtain ⟨aA1,ac1,aL1,rfl,_ahL,at0,an1,am1,as1⟩:=h1
 obtain ⟨bA1,bc1,bL1,rfl,_bhL,bt0,bn1,bm1,bs1⟩:=h2
 unfold maxLen at am1 bm1
 have SA1:=Lib.hid as1
 have SB1:=Lib.hid bs1
 clear as1 bs1
 go_enter Tryz.func35,Tryz.ntmps35
 go_wp2_with fail
 refine (Zgw aA1 bA1 _ ac1 bc1 x.args aL1 bL1 _ rfl (by omega) (SA1.out.below (by repeat (first | refine Below.setCell ?_ (by dsimp only;omega) _ | refine Below.alloc ?_ (by first | (simp;done) | (simp;omega) | omega) _ | exact Below.refl _ _))) (SB1.out.below (by repeat (first | refine Below.setCell ?_ (by dsimp only;omega) _ | refine Below.alloc ?_ (by first | (simp;done) | (simp;omega) | omega) _ | exact Below.refl _ _)))).mono ?_
 rintro e w1 ⟨rfl,hb1⟩
 have B1:Hid (Below w.heap.size w w1):=Below.trans (by repeat (first | refine Below.setCell ?_ (by dsimp only;omega) _ | refine Below.alloc ?_ (by first | (simp;done) | (simp;omega) | omega) _ | exact Below.refl _ _)) (hb1.mono (by first | (simp;done) | (simp;omega) | omega))
 have K0:Hid (Blk w1 w.heap.size 57 #[.string x.rel,.slice aA1 x.args.length ac1]):=Blk.later (Blk.alloc (Blk.new _ _ _) _) hb1
 have K1:Hid (Blk w1 (w.heap.size+1) 57 #[.string x.rel,.slice bA1 x.args.length bc1]):=Blk.later (Blk.new_at (by simp)) hb1
 have f0:=K0.out.at (i:=0) rfl
 have r0:=K1.out.at (i:=0) rfl
 have f1:=K0.out.at (i:=1) rfl
 have r1:=K1.out.at (i:=1) rfl
 clear hb1
 have hz1:=B1.out.size
 go_wp2_with fail
 go_ret
 exact ⟨rfl,(by repeat (first | refine Below.setCell ?_ (by dsimp only;omega) _ | refine Below.alloc ?_ (by first | (simp;done) | (simp;omega) | omega) _ | exact B1.out))⟩
set_option maxRecDepth 100000 in
set_option maxHeartbeats 1600000 in
theorem ZdB (A B:Option Addr) (n c d:Nat) (ds:List Zc) (L M:List Nat) (w:World) (hn:n=ds.length) (hm:n≤9223372036854775807) (h1:Sli Y4 w A ds L) (h2:Sli Y4 w B ds M):
  Calls Tryz.prog 15 #[.slice A n c,.slice B n d] w (XJ w):=by
 have H1:=Lib.hid h1
 have H2:=Lib.hid h2
 have HN:=Lib.hid hn
 clear h1 h2 hn
 have hne:((n:Int) != n)=false:=by simp
 go_enter Tryz.func15,Tryz.ntmps15
 go_wp2
 go_loopw [5] (fun i wr=>∃(k:Nat),k≤n∧i=.int .i64 k∧Hid (Below w.heap.size w wr)) (fun i _=>n - (intOf i).toNat)
 case atStart=>exact ⟨0,Nat.zero_le _,rfl,Below.refl _ _⟩
 case round=>
  obtain ⟨k,hk,rfl,HB⟩:=hrel
  by_cases hlt:k<n
  ·have hkl:k<ds.length:=by have:=HN.out;omega
   obtain ⟨b,off,cs,Lk,rfl,hbL,hLk,hrep,hc⟩:=H1.out.at_ hkl
   obtain ⟨b',off',cs',Mk,rfl,hbM,hMk,hrep',hc'⟩:=H2.out.at_ hkl
   have hbl:b<w.heap.size:=H1.out.lt b hbL
   have hbl':b'<w.heap.size:=H2.out.lt b' hbM
   have HR:=Lib.hid (Y4.keep hrep (ZN HB.out (fun y m=>H1.out.lt y (hLk y m))))
   have HR':=Lib.hid (Y4.keep hrep' (ZN HB.out (fun y m=>H2.out.lt y (hMk y m))))
   generalize ds[k]=x at *
   obtain ⟨aA1,ac1,rfl⟩:=Zcc hrep
   obtain ⟨bA1,bc1,rfl⟩:=Zcc hrep'
   have q0:wr.cell? ⟨b,off+k * 2,none⟩=_:=(HB.out.cell (p:=⟨b,off+(k * 2+0),none⟩) hbl).trans (hc 0 _ rfl)
   have p0:wr.cell? ⟨b',off'+k * 2,none⟩=_:=(HB.out.cell (p:=⟨b',off'+(k * 2+0),none⟩) hbl').trans (hc' 0 _ rfl)
   have q1:wr.cell? ⟨b,off+k * 2+1,none⟩=_:=(HB.out.cell (p:=⟨b,off+(k * 2+1),none⟩) hbl).trans (hc 1 _ rfl)
   have p1:wr.cell? ⟨b',off'+k * 2+1,none⟩=_:=(HB.out.cell (p:=⟨b',off'+(k * 2+1),none⟩) hbl').trans (hc' 1 _ rfl)
   clear hc hc' hrep hrep'
   have k0:(0:Int)≤k:=by omega
   have k1:(k:Int)<n:=by omega
   go_wp2_with fail
   go_still_tail 8,(by kernel_rfl)
   change wpList _ _ _ _ _ wr.drew
   go_wp2_with (go_at_call 35;(refine (ZpY _ _ x Lk Mk wr.drew (Y4.keep HR.out (fun _ _=>rfl)) (Y4.keep HR'.out (fun _ _=>rfl))).mono ?_;rintro e w1 ⟨rfl,hb1⟩;have HB1:=Lib.hid (HB.out.drew.trans (hb1.mono HB.out.size));clear hb1))
   go_roundw
   case rel=>exact ⟨k+1,by omega,by go_num,HB1.out⟩
   case measure=>simp [intOf];omega
  ·go_wp2
   go_ret
   exact ⟨rfl,HB.out⟩
set_option maxHeartbeats 1600000 in
theorem ZgT (cs ds:List Value) (x:Zv) (L M:List Nat) (w:World) (h1:ZcY.rep w cs x L) (h2:ZcY.rep w ds x M):
  Calls Tryz.prog 29 #[.agg cs.toArray,.agg ds.toArray] w (XJ w):=by
 obtain ⟨aA1,ac1,aL1,rfl,_ahL,at0,an1,am1,as1⟩:=h1
 obtain ⟨bA1,bc1,bL1,rfl,_bhL,bt0,bn1,bm1,bs1⟩:=h2
 unfold maxLen at am1 bm1
 have SA1:=Lib.hid as1
 have SB1:=Lib.hid bs1
 clear as1 bs1
 go_enter Tryz.func29,Tryz.ntmps29
 go_wp2_with fail
 refine (Zgw aA1 bA1 _ ac1 bc1 x.args aL1 bL1 _ rfl (by omega) (SA1.out.below (by repeat (first | refine Below.setCell ?_ (by dsimp only;omega) _ | refine Below.alloc ?_ (by first | (simp;done) | (simp;omega) | omega) _ | exact Below.refl _ _))) (SB1.out.below (by repeat (first | refine Below.setCell ?_ (by dsimp only;omega) _ | refine Below.alloc ?_ (by first | (simp;done) | (simp;omega) | omega) _ | exact Below.refl _ _)))).mono ?_
 rintro e w1 ⟨rfl,hb1⟩
 have B1:Hid (Below w.heap.size w w1):=Below.trans (by repeat (first | refine Below.setCell ?_ (by dsimp only;omega) _ | refine Below.alloc ?_ (by first | (simp;done) | (simp;omega) | omega) _ | exact Below.refl _ _)) (hb1.mono (by first | (simp;done) | (simp;omega) | omega))
 have K0:Hid (Blk w1 w.heap.size 49 #[.string x.rel,.slice aA1 x.args.length ac1]):=Blk.later (Blk.alloc (Blk.new _ _ _) _) hb1
 have K1:Hid (Blk w1 (w.heap.size+1) 49 #[.string x.rel,.slice bA1 x.args.length bc1]):=Blk.later (Blk.new_at (by simp)) hb1
 have f0:=K0.out.at (i:=0) rfl
 have r0:=K1.out.at (i:=0) rfl
 have f1:=K0.out.at (i:=1) rfl
 have r1:=K1.out.at (i:=1) rfl
 clear hb1
 have hz1:=B1.out.size
 go_wp2_with fail
 go_ret
 exact ⟨rfl,(by repeat (first | refine Below.setCell ?_ (by dsimp only;omega) _ | refine Below.alloc ?_ (by first | (simp;done) | (simp;omega) | omega) _ | exact B1.out))⟩
set_option maxHeartbeats 1600000 in
theorem ZpW (cs ds:List Value) (x:Zm) (L M:List Nat) (w:World) (h1:XV.rep w cs x L) (h2:XV.rep w ds x M):
  Calls Tryz.prog 141 #[.agg cs.toArray,.agg ds.toArray] w (XJ w):=by
 obtain ⟨aA1,ac1,aL1,rfl,_ahL,at0,at1,at2,an1,am1,as1⟩:=h1
 obtain ⟨bA1,bc1,bL1,rfl,_bhL,bt0,bt1,bt2,bn1,bm1,bs1⟩:=h2
 unfold maxLen at am1 bm1
 have SA1:=Lib.hid as1
 have SB1:=Lib.hid bs1
 clear as1 bs1
 go_enter Tryz.func141,Tryz.ntmps141
 go_wp2_with fail
 refine (ZgT [.string x.pattern.rel,.slice aA1 x.pattern.args.length ac1] [.string x.pattern.rel,.slice bA1 x.pattern.args.length bc1] x.pattern _ _ _ ⟨aA1,ac1,aL1,rfl,rfl,at0,an1,(by unfold maxLen;omega),SA1.out.below (by repeat (first | refine Below.setCell ?_ (by dsimp only;omega) _ | refine Below.alloc ?_ (by first | (simp;done) | (simp;omega) | omega) _ | exact Below.refl _ _))⟩ ⟨bA1,bc1,bL1,rfl,rfl,bt0,bn1,(by unfold maxLen;omega),SB1.out.below (by repeat (first | refine Below.setCell ?_ (by dsimp only;omega) _ | refine Below.alloc ?_ (by first | (simp;done) | (simp;omega) | omega) _ | exact Below.refl _ _))⟩).mono ?_
 rintro e w1 ⟨rfl,hb1⟩
 have B1:Hid (Below w.heap.size w w1):=Below.trans (by repeat (first | refine Below.setCell ?_ (by dsimp only;omega) _ | refine Below.alloc ?_ (by first | (simp;done) | (simp;omega) | omega) _ | exact Below.refl _ _)) (hb1.mono (by first | (simp;done) | (simp;omega) | omega))
 have K0:Hid (Blk w1 w.heap.size 130 #[.int .i64 x.kind,.string x.pattern.rel,.slice aA1 x.pattern.args.length ac1,.string x.left,.string x.right]):=Blk.later (Blk.alloc (Blk.new _ _ _) _) hb1
 have K1:Hid (Blk w1 (w.heap.size+1) 130 #[.int .i64 x.kind,.string x.pattern.rel,.slice bA1 x.pattern.args.length bc1,.string x.left,.string x.right]):=Blk.later (Blk.new_at (by simp)) hb1
 have f0:=K0.out.at (i:=0) rfl
 have r0:=K1.out.at (i:=0) rfl
 have f1:=K0.out.at (i:=1) rfl
 have r1:=K1.out.at (i:=1) rfl
 have f2:=K0.out.at (i:=2) rfl
 have r2:=K1.out.at (i:=2) rfl
 have f3:=K0.out.at (i:=3) rfl
 have r3:=K1.out.at (i:=3) rfl
 have f4:=K0.out.at (i:=4) rfl
 have r4:=K1.out.at (i:=4) rfl
 clear hb1
 have hz1:=B1.out.size
 go_wp2_with fail
 go_ret
 exact ⟨rfl,(by repeat (first | refine Below.setCell ?_ (by dsimp only;omega) _ | refine Below.alloc ?_ (by first | (simp;done) | (simp;omega) | omega) _ | exact B1.out))⟩
set_option maxRecDepth 100000 in
set_option maxHeartbeats 1600000 in
theorem Zoo (A B:Option Addr) (n c d:Nat) (ds:List Zm) (L M:List Nat) (w:World) (hn:n=ds.length) (hm:n≤9223372036854775807) (h1:Sli XV w A ds L) (h2:Sli XV w B ds M):
  Calls Tryz.prog 93 #[.slice A n c,.slice B n d] w (XJ w):=by
 have H1:=Lib.hid h1
 have H2:=Lib.hid h2
 have HN:=Lib.hid hn
 clear h1 h2 hn
 have hne:((n:Int) != n)=false:=by simp
 go_enter Tryz.func93,Tryz.ntmps93
 go_wp2
 go_loopw [5] (fun i wr=>∃(k:Nat),k≤n∧i=.int .i64 k∧Hid (Below w.heap.size w wr)) (fun i _=>n - (intOf i).toNat)
 case atStart=>exact ⟨0,Nat.zero_le _,rfl,Below.refl _ _⟩
 case round=>
  obtain ⟨k,hk,rfl,HB⟩:=hrel
  by_cases hlt:k<n
  ·have hkl:k<ds.length:=by have:=HN.out;omega
   obtain ⟨b,off,cs,Lk,rfl,hbL,hLk,hrep,hc⟩:=H1.out.at_ hkl
   obtain ⟨b',off',cs',Mk,rfl,hbM,hMk,hrep',hc'⟩:=H2.out.at_ hkl
   have hbl:b<w.heap.size:=H1.out.lt b hbL
   have hbl':b'<w.heap.size:=H2.out.lt b' hbM
   have HR:=Lib.hid (XV.keep hrep (ZN HB.out (fun y m=>H1.out.lt y (hLk y m))))
   have HR':=Lib.hid (XV.keep hrep' (ZN HB.out (fun y m=>H2.out.lt y (hMk y m))))
   generalize ds[k]=x at *
   obtain ⟨aA1,ac1,rfl⟩:=Zcb hrep
   obtain ⟨bA1,bc1,rfl⟩:=Zcb hrep'
   have q0:wr.cell? ⟨b,off+k * 5,none⟩=_:=(HB.out.cell (p:=⟨b,off+(k * 5+0),none⟩) hbl).trans (hc 0 _ rfl)
   have p0:wr.cell? ⟨b',off'+k * 5,none⟩=_:=(HB.out.cell (p:=⟨b',off'+(k * 5+0),none⟩) hbl').trans (hc' 0 _ rfl)
   have q1:wr.cell? ⟨b,off+k * 5+1,none⟩=_:=(HB.out.cell (p:=⟨b,off+(k * 5+1),none⟩) hbl).trans (hc 1 _ rfl)
   have p1:wr.cell? ⟨b',off'+k * 5+1,none⟩=_:=(HB.out.cell (p:=⟨b',off'+(k * 5+1),none⟩) hbl').trans (hc' 1 _ rfl)
   have q2:wr.cell? ⟨b,off+k * 5+2,none⟩=_:=(HB.out.cell (p:=⟨b,off+(k * 5+2),none⟩) hbl).trans (hc 2 _ rfl)
   have p2:wr.cell? ⟨b',off'+k * 5+2,none⟩=_:=(HB.out.cell (p:=⟨b',off'+(k * 5+2),none⟩) hbl').trans (hc' 2 _ rfl)
   have q3:wr.cell? ⟨b,off+k * 5+3,none⟩=_:=(HB.out.cell (p:=⟨b,off+(k * 5+3),none⟩) hbl).trans (hc 3 _ rfl)
   have p3:wr.cell? ⟨b',off'+k * 5+3,none⟩=_:=(HB.out.cell (p:=⟨b',off'+(k * 5+3),none⟩) hbl').trans (hc' 3 _ rfl)
   have q4:wr.cell? ⟨b,off+k * 5+4,none⟩=_:=(HB.out.cell (p:=⟨b,off+(k * 5+4),none⟩) hbl).trans (hc 4 _ rfl)
   have p4:wr.cell? ⟨b',off'+k * 5+4,none⟩=_:=(HB.out.cell (p:=⟨b',off'+(k * 5+4),none⟩) hbl').trans (hc' 4 _ rfl)
   clear hc hc' hrep hrep'
   have k0:(0:Int)≤k:=by omega
   have k1:(k:Int)<n:=by omega
   go_wp2_with fail
   go_still_tail 8,(by kernel_rfl)
   change wpList _ _ _ _ _ wr.drew
   go_wp2_with (go_at_call 141;(refine (ZpW _ _ x Lk Mk wr.drew (XV.keep HR.out (fun _ _=>rfl)) (XV.keep HR'.out (fun _ _=>rfl))).mono ?_;rintro e w1 ⟨rfl,hb1⟩;have HB1:=Lib.hid (HB.out.drew.trans (hb1.mono HB.out.size));clear hb1))
   go_roundw
   case rel=>exact ⟨k+1,by omega,by go_num,HB1.out⟩
   case measure=>simp [intOf];omega
  ·go_wp2
   go_ret
   exact ⟨rfl,HB.out⟩
set_option maxHeartbeats 1600000 in
theorem Zm8 (cs ds:List Value) (x:Zr) (L M:List Nat) (w:World) (h1:Yk.rep w cs x L) (h2:Yk.rep w ds x M):
  Calls Tryz.prog 142 #[.agg cs.toArray,.agg ds.toArray] w (XJ w):=by
 obtain ⟨aA1,ac1,aL1,rfl,_ahL,at0,an1,am1,as1⟩:=h1
 obtain ⟨bA1,bc1,bL1,rfl,_bhL,bt0,bn1,bm1,bs1⟩:=h2
 unfold maxLen at am1 bm1
 have SA1:=Lib.hid as1
 have SB1:=Lib.hid bs1
 clear as1 bs1
 go_enter Tryz.func142,Tryz.ntmps142
 go_wp2_with fail
 refine (ZgT [.string x.pattern.rel,.slice aA1 x.pattern.args.length ac1] [.string x.pattern.rel,.slice bA1 x.pattern.args.length bc1] x.pattern _ _ _ ⟨aA1,ac1,aL1,rfl,rfl,at0,an1,(by unfold maxLen;omega),SA1.out.below (by repeat (first | refine Below.setCell ?_ (by dsimp only;omega) _ | refine Below.alloc ?_ (by first | (simp;done) | (simp;omega) | omega) _ | exact Below.refl _ _))⟩ ⟨bA1,bc1,bL1,rfl,rfl,bt0,bn1,(by unfold maxLen;omega),SB1.out.below (by repeat (first | refine Below.setCell ?_ (by dsimp only;omega) _ | refine Below.alloc ?_ (by first | (simp;done) | (simp;omega) | omega) _ | exact Below.refl _ _))⟩).mono ?_
 rintro e w1 ⟨rfl,hb1⟩
 have B1:Hid (Below w.heap.size w w1):=Below.trans (by repeat (first | refine Below.setCell ?_ (by dsimp only;omega) _ | refine Below.alloc ?_ (by first | (simp;done) | (simp;omega) | omega) _ | exact Below.refl _ _)) (hb1.mono (by first | (simp;done) | (simp;omega) | omega))
 have K0:Hid (Blk w1 w.heap.size 134 #[.int .i64 x.kind,.string x.pattern.rel,.slice aA1 x.pattern.args.length ac1]):=Blk.later (Blk.alloc (Blk.new _ _ _) _) hb1
 have K1:Hid (Blk w1 (w.heap.size+1) 134 #[.int .i64 x.kind,.string x.pattern.rel,.slice bA1 x.pattern.args.length bc1]):=Blk.later (Blk.new_at (by simp)) hb1
 have f0:=K0.out.at (i:=0) rfl
 have r0:=K1.out.at (i:=0) rfl
 have f1:=K0.out.at (i:=1) rfl
 have r1:=K1.out.at (i:=1) rfl
 have f2:=K0.out.at (i:=2) rfl
 have r2:=K1.out.at (i:=2) rfl
 clear hb1
 have hz1:=B1.out.size
 go_wp2_with fail
 go_ret
 exact ⟨rfl,(by repeat (first | refine Below.setCell ?_ (by dsimp only;omega) _ | refine Below.alloc ?_ (by first | (simp;done) | (simp;omega) | omega) _ | exact B1.out))⟩
set_option maxRecDepth 100000 in
set_option maxHeartbeats 1600000 in
theorem ZlT (A B:Option Addr) (n c d:Nat) (ds:List Zr) (L M:List Nat) (w:World) (hn:n=ds.length) (hm:n≤9223372036854775807) (h1:Sli Yk w A ds L) (h2:Sli Yk w B ds M):
  Calls Tryz.prog 94 #[.slice A n c,.slice B n d] w (XJ w):=by
 have H1:=Lib.hid h1
 have H2:=Lib.hid h2
 have HN:=Lib.hid hn
 clear h1 h2 hn
 have hne:((n:Int) != n)=false:=by simp
 go_enter Tryz.func94,Tryz.ntmps94
 go_wp2
 go_loopw [5] (fun i wr=>∃(k:Nat),k≤n∧i=.int .i64 k∧Hid (Below w.heap.size w wr)) (fun i _=>n - (intOf i).toNat)
 case atStart=>exact ⟨0,Nat.zero_le _,rfl,Below.refl _ _⟩
 case round=>
  obtain ⟨k,hk,rfl,HB⟩:=hrel
  by_cases hlt:k<n
  ·have hkl:k<ds.length:=by have:=HN.out;omega
   obtain ⟨b,off,cs,Lk,rfl,hbL,hLk,hrep,hc⟩:=H1.out.at_ hkl
   obtain ⟨b',off',cs',Mk,rfl,hbM,hMk,hrep',hc'⟩:=H2.out.at_ hkl
   have hbl:b<w.heap.size:=H1.out.lt b hbL
   have hbl':b'<w.heap.size:=H2.out.lt b' hbM
   have HR:=Lib.hid (Yk.keep hrep (ZN HB.out (fun y m=>H1.out.lt y (hLk y m))))
   have HR':=Lib.hid (Yk.keep hrep' (ZN HB.out (fun y m=>H2.out.lt y (hMk y m))))
   generalize ds[k]=x at *
   obtain ⟨aA1,ac1,rfl⟩:=Q9 hrep
   obtain ⟨bA1,bc1,rfl⟩:=Q9 hrep'
   have q0:wr.cell? ⟨b,off+k * 3,none⟩=_:=(HB.out.cell (p:=⟨b,off+(k * 3+0),none⟩) hbl).trans (hc 0 _ rfl)
   have p0:wr.cell? ⟨b',off'+k * 3,none⟩=_:=(HB.out.cell (p:=⟨b',off'+(k * 3+0),none⟩) hbl').trans (hc' 0 _ rfl)
   have q1:wr.cell? ⟨b,off+k * 3+1,none⟩=_:=(HB.out.cell (p:=⟨b,off+(k * 3+1),none⟩) hbl).trans (hc 1 _ rfl)
   have p1:wr.cell? ⟨b',off'+k * 3+1,none⟩=_:=(HB.out.cell (p:=⟨b',off'+(k * 3+1),none⟩) hbl').trans (hc' 1 _ rfl)
   have q2:wr.cell? ⟨b,off+k * 3+2,none⟩=_:=(HB.out.cell (p:=⟨b,off+(k * 3+2),none⟩) hbl).trans (hc 2 _ rfl)
   have p2:wr.cell? ⟨b',off'+k * 3+2,none⟩=_:=(HB.out.cell (p:=⟨b',off'+(k * 3+2),none⟩) hbl').trans (hc' 2 _ rfl)
   clear hc hc' hrep hrep'
   have k0:(0:Int)≤k:=by omega
   have k1:(k:Int)<n:=by omega
   go_wp2_with fail
   go_still_tail 8,(by kernel_rfl)
   change wpList _ _ _ _ _ wr.drew
   go_wp2_with (go_at_call 142;(refine (Zm8 _ _ x Lk Mk wr.drew (Yk.keep HR.out (fun _ _=>rfl)) (Yk.keep HR'.out (fun _ _=>rfl))).mono ?_;rintro e w1 ⟨rfl,hb1⟩;have HB1:=Lib.hid (HB.out.drew.trans (hb1.mono HB.out.size));clear hb1))
   go_roundw
   case rel=>exact ⟨k+1,by omega,by go_num,HB1.out⟩
   case measure=>simp [intOf];omega
  ·go_wp2
   go_ret
   exact ⟨rfl,HB.out⟩
set_option maxHeartbeats 1600000 in
theorem ZpF (cs ds:List Value) (x:Zf) (L M:List Nat) (w:World) (h1:XU.rep w cs x L) (h2:XU.rep w ds x M):
  Calls Tryz.prog 49 #[.agg cs.toArray,.agg ds.toArray] w (XJ w):=by
 obtain ⟨aA1,ac1,aL1,aA2,ac2,aL2,rfl,_ahL,at0,an1,am1,as1,an2,am2,as2⟩:=h1
 obtain ⟨bA1,bc1,bL1,bA2,bc2,bL2,rfl,_bhL,bt0,bn1,bm1,bs1,bn2,bm2,bs2⟩:=h2
 unfold maxLen at am1 bm1 am2 bm2
 have SA1:=Lib.hid as1
 have SB1:=Lib.hid bs1
 clear as1 bs1
 have SA2:=Lib.hid as2
 have SB2:=Lib.hid bs2
 clear as2 bs2
 go_enter Tryz.func49,Tryz.ntmps49
 go_wp2_with fail
 refine (Zoo aA1 bA1 _ ac1 bc1 x.cond aL1 bL1 _ rfl (by omega) (SA1.out.below (by repeat (first | refine Below.setCell ?_ (by dsimp only;omega) _ | refine Below.alloc ?_ (by first | (simp;done) | (simp;omega) | omega) _ | exact Below.refl _ _))) (SB1.out.below (by repeat (first | refine Below.setCell ?_ (by dsimp only;omega) _ | refine Below.alloc ?_ (by first | (simp;done) | (simp;omega) | omega) _ | exact Below.refl _ _)))).mono ?_
 rintro e w1 ⟨rfl,hb1⟩
 have B1:Hid (Below w.heap.size w w1):=Below.trans (by repeat (first | refine Below.setCell ?_ (by dsimp only;omega) _ | refine Below.alloc ?_ (by first | (simp;done) | (simp;omega) | omega) _ | exact Below.refl _ _)) (hb1.mono (by first | (simp;done) | (simp;omega) | omega))
 have K0:Hid (Blk w1 w.heap.size 82 #[.string x.name,.int .i64 x.priority,.slice aA1 x.cond.length ac1,.slice aA2 x.thn.length ac2]):=Blk.later (Blk.alloc (Blk.new _ _ _) _) hb1
 have K1:Hid (Blk w1 (w.heap.size+1) 82 #[.string x.name,.int .i64 x.priority,.slice bA1 x.cond.length bc1,.slice bA2 x.thn.length bc2]):=Blk.later (Blk.new_at (by simp)) hb1
 have f0:=K0.out.at (i:=0) rfl
 have r0:=K1.out.at (i:=0) rfl
 have f1:=K0.out.at (i:=1) rfl
 have r1:=K1.out.at (i:=1) rfl
 have f2:=K0.out.at (i:=2) rfl
 have r2:=K1.out.at (i:=2) rfl
 have f3:=K0.out.at (i:=3) rfl
 have r3:=K1.out.at (i:=3) rfl
 clear hb1
 have hz1:=B1.out.size
 go_wp2_with fail
 refine (ZlT aA2 bA2 _ ac2 bc2 x.thn aL2 bL2 _ rfl (by omega) (SA2.out.below (by repeat (first | refine Below.setCell ?_ (by dsimp only;omega) _ | refine Below.alloc ?_ (by first | (simp;done) | (simp;omega) | omega) _ | exact B1.out))) (SB2.out.below (by repeat (first | refine Below.setCell ?_ (by dsimp only;omega) _ | refine Below.alloc ?_ (by first | (simp;done) | (simp;omega) | omega) _ | exact B1.out)))).mono ?_
 rintro e w2 ⟨rfl,hb2⟩
 have B2:Hid (Below w.heap.size w w2):=Below.trans (by repeat (first | refine Below.setCell ?_ (by dsimp only;omega) _ | refine Below.alloc ?_ (by first | (simp;done) | (simp;omega) | omega) _ | exact B1.out)) (hb2.mono (by first | (simp;done) | (simp;omega) | omega))
 have K0:=Lib.hid (K0.out.later hb2)
 have K1:=Lib.hid (K1.out.later hb2)
 clear f0 r0 f1 r1 f2 r2 f3 r3
 have f0:=K0.out.at (i:=0) rfl
 have r0:=K1.out.at (i:=0) rfl
 have f1:=K0.out.at (i:=1) rfl
 have r1:=K1.out.at (i:=1) rfl
 have f2:=K0.out.at (i:=2) rfl
 have r2:=K1.out.at (i:=2) rfl
 have f3:=K0.out.at (i:=3) rfl
 have r3:=K1.out.at (i:=3) rfl
 clear hb2
 have hz2:=B2.out.size
 go_wp2_with fail
 go_ret
 exact ⟨rfl,(by repeat (first | refine Below.setCell ?_ (by dsimp only;omega) _ | refine Below.alloc ?_ (by first | (simp;done) | (simp;omega) | omega) _ | exact B2.out))⟩
set_option maxRecDepth 100000 in
set_option maxHeartbeats 1600000 in
theorem ZoU (A B:Option Addr) (n c d:Nat) (ds:List Zf) (L M:List Nat) (w:World) (hn:n=ds.length) (hm:n≤9223372036854775807) (h1:Sli XU w A ds L) (h2:Sli XU w B ds M):
  Calls Tryz.prog 17 #[.slice A n c,.slice B n d] w (XJ w):=by
 have H1:=Lib.hid h1
 have H2:=Lib.hid h2
 have HN:=Lib.hid hn
 clear h1 h2 hn
 have hne:((n:Int) != n)=false:=by simp
 go_enter Tryz.func17,Tryz.ntmps17
 go_wp2
 go_loopw [5] (fun i wr=>∃(k:Nat),k≤n∧i=.int .i64 k∧Hid (Below w.heap.size w wr)) (fun i _=>n - (intOf i).toNat)
 case atStart=>exact ⟨0,Nat.zero_le _,rfl,Below.refl _ _⟩
 case round=>
  obtain ⟨k,hk,rfl,HB⟩:=hrel
  by_cases hlt:k<n
  ·have hkl:k<ds.length:=by have:=HN.out;omega
   obtain ⟨b,off,cs,Lk,rfl,hbL,hLk,hrep,hc⟩:=H1.out.at_ hkl
   obtain ⟨b',off',cs',Mk,rfl,hbM,hMk,hrep',hc'⟩:=H2.out.at_ hkl
   have hbl:b<w.heap.size:=H1.out.lt b hbL
   have hbl':b'<w.heap.size:=H2.out.lt b' hbM
   have HR:=Lib.hid (XU.keep hrep (ZN HB.out (fun y m=>H1.out.lt y (hLk y m))))
   have HR':=Lib.hid (XU.keep hrep' (ZN HB.out (fun y m=>H2.out.lt y (hMk y m))))
   generalize ds[k]=x at *
   obtain ⟨aA1,ac1,aA2,ac2,rfl⟩:=Zb5 hrep
   obtain ⟨bA1,bc1,bA2,bc2,rfl⟩:=Zb5 hrep'
   have q0:wr.cell? ⟨b,off+k * 4,none⟩=_:=(HB.out.cell (p:=⟨b,off+(k * 4+0),none⟩) hbl).trans (hc 0 _ rfl)
   have p0:wr.cell? ⟨b',off'+k * 4,none⟩=_:=(HB.out.cell (p:=⟨b',off'+(k * 4+0),none⟩) hbl').trans (hc' 0 _ rfl)
   have q1:wr.cell? ⟨b,off+k * 4+1,none⟩=_:=(HB.out.cell (p:=⟨b,off+(k * 4+1),none⟩) hbl).trans (hc 1 _ rfl)
   have p1:wr.cell? ⟨b',off'+k * 4+1,none⟩=_:=(HB.out.cell (p:=⟨b',off'+(k * 4+1),none⟩) hbl').trans (hc' 1 _ rfl)
   have q2:wr.cell? ⟨b,off+k * 4+2,none⟩=_:=(HB.out.cell (p:=⟨b,off+(k * 4+2),none⟩) hbl).trans (hc 2 _ rfl)
   have p2:wr.cell? ⟨b',off'+k * 4+2,none⟩=_:=(HB.out.cell (p:=⟨b',off'+(k * 4+2),none⟩) hbl').trans (hc' 2 _ rfl)
   have q3:wr.cell? ⟨b,off+k * 4+3,none⟩=_:=(HB.out.cell (p:=⟨b,off+(k * 4+3),none⟩) hbl).trans (hc 3 _ rfl)
   have p3:wr.cell? ⟨b',off'+k * 4+3,none⟩=_:=(HB.out.cell (p:=⟨b',off'+(k * 4+3),none⟩) hbl').trans (hc' 3 _ rfl)
   clear hc hc' hrep hrep'
   have k0:(0:Int)≤k:=by omega
   have k1:(k:Int)<n:=by omega
   go_wp2_with fail
   go_still_tail 8,(by kernel_rfl)
   change wpList _ _ _ _ _ wr.drew
   go_wp2_with (go_at_call 49;(refine (ZpF _ _ x Lk Mk wr.drew (XU.keep HR.out (fun _ _=>rfl)) (XU.keep HR'.out (fun _ _=>rfl))).mono ?_;rintro e w1 ⟨rfl,hb1⟩;have HB1:=Lib.hid (HB.out.drew.trans (hb1.mono HB.out.size));clear hb1))
   go_roundw
   case rel=>exact ⟨k+1,by omega,by go_num,HB1.out⟩
   case measure=>simp [intOf];omega
  ·go_wp2
   go_ret
   exact ⟨rfl,HB.out⟩
set_option maxHeartbeats 1600000 in
theorem ZEk (cs ds:List Value) (x:Zuw) (L M:List Nat) (w:World) (h1:ZDz.rep w cs x L) (h2:ZDz.rep w ds x M):
  Calls Tryz.prog 74 #[.agg cs.toArray,.agg ds.toArray] w (XJ w):=by
 obtain ⟨aA1,ac1,aL1,aA2,ac2,aL2,rfl,_ahL,at0,at1,an1,am1,as1,an2,am2,as2⟩:=h1
 obtain ⟨bA1,bc1,bL1,bA2,bc2,bL2,rfl,_bhL,bt0,bt1,bn1,bm1,bs1,bn2,bm2,bs2⟩:=h2
 unfold maxLen at am1 bm1 am2 bm2
 have SA1:=Lib.hid as1
 have SB1:=Lib.hid bs1
 clear as1 bs1
 have SA2:=Lib.hid as2
 have SB2:=Lib.hid bs2
 clear as2 bs2
 go_enter Tryz.func74,Tryz.ntmps74
 go_wp2_with fail
 refine (ZpY [.string x.fact.rel,.slice aA1 x.fact.args.length ac1] [.string x.fact.rel,.slice bA1 x.fact.args.length bc1] x.fact _ _ _ ⟨aA1,ac1,aL1,rfl,rfl,at0,an1,(by unfold maxLen;omega),SA1.out.below (by repeat (first | refine Below.setCell ?_ (by dsimp only;omega) _ | refine Below.alloc ?_ (by first | (simp;done) | (simp;omega) | omega) _ | exact Below.refl _ _))⟩ ⟨bA1,bc1,bL1,rfl,rfl,bt0,bn1,(by unfold maxLen;omega),SB1.out.below (by repeat (first | refine Below.setCell ?_ (by dsimp only;omega) _ | refine Below.alloc ?_ (by first | (simp;done) | (simp;omega) | omega) _ | exact Below.refl _ _))⟩).mono ?_
 rintro e w1 ⟨rfl,hb1⟩
 have B1:Hid (Below w.heap.size w w1):=Below.trans (by repeat (first | refine Below.setCell ?_ (by dsimp only;omega) _ | refine Below.alloc ?_ (by first | (simp;done) | (simp;omega) | omega) _ | exact Below.refl _ _)) (hb1.mono (by first | (simp;done) | (simp;omega) | omega))
 have K0:Hid (Blk w1 w.heap.size 107 #[.string x.fact.rel,.slice aA1 x.fact.args.length ac1,.string x.rule,.slice aA2 x.uses.length ac2]):=Blk.later (Blk.alloc (Blk.new _ _ _) _) hb1
 have K1:Hid (Blk w1 (w.heap.size+1) 107 #[.string x.fact.rel,.slice bA1 x.fact.args.length bc1,.string x.rule,.slice bA2 x.uses.length bc2]):=Blk.later (Blk.new_at (by simp)) hb1
 have f0:=K0.out.at (i:=0) rfl
 have r0:=K1.out.at (i:=0) rfl
 have f1:=K0.out.at (i:=1) rfl
 have r1:=K1.out.at (i:=1) rfl
 have f2:=K0.out.at (i:=2) rfl
 have r2:=K1.out.at (i:=2) rfl
 have f3:=K0.out.at (i:=3) rfl
 have r3:=K1.out.at (i:=3) rfl
 clear hb1
 have hz1:=B1.out.size
 go_wp2_with fail
 refine (Zj6 aA2 bA2 _ ac2 bc2 x.uses aL2 bL2 _ rfl (by omega) (SA2.out.below (by repeat (first | refine Below.setCell ?_ (by dsimp only;omega) _ | refine Below.alloc ?_ (by first | (simp;done) | (simp;omega) | omega) _ | exact B1.out))) (SB2.out.below (by repeat (first | refine Below.setCell ?_ (by dsimp only;omega) _ | refine Below.alloc ?_ (by first | (simp;done) | (simp;omega) | omega) _ | exact B1.out)))).mono ?_
 rintro e w2 ⟨rfl,hb2⟩
 have B2:Hid (Below w.heap.size w w2):=Below.trans (by repeat (first | refine Below.setCell ?_ (by dsimp only;omega) _ | refine Below.alloc ?_ (by first | (simp;done) | (simp;omega) | omega) _ | exact B1.out)) (hb2.mono (by first | (simp;done) | (simp;omega) | omega))
 have K0:=Lib.hid (K0.out.later hb2)
 have K1:=Lib.hid (K1.out.later hb2)
 clear f0 r0 f1 r1 f2 r2 f3 r3
 have f0:=K0.out.at (i:=0) rfl
 have r0:=K1.out.at (i:=0) rfl
 have f1:=K0.out.at (i:=1) rfl
 have r1:=K1.out.at (i:=1) rfl
 have f2:=K0.out.at (i:=2) rfl
 have r2:=K1.out.at (i:=2) rfl
 have f3:=K0.out.at (i:=3) rfl
 have r3:=K1.out.at (i:=3) rfl
 clear hb2
 have hz2:=B2.out.size
 go_wp2_with fail
 go_ret
 exact ⟨rfl,(by repeat (first | refine Below.setCell ?_ (by dsimp only;omega) _ | refine Below.alloc ?_ (by first | (simp;done) | (simp;omega) | omega) _ | exact B2.out))⟩
set_option maxRecDepth 100000 in
set_option maxHeartbeats 1600000 in
theorem ZEf (A B:Option Addr) (n c d:Nat) (ds:List Zuw) (L M:List Nat) (w:World) (hn:n=ds.length) (hm:n≤9223372036854775807) (h1:Sli ZDz w A ds L) (h2:Sli ZDz w B ds M):
  Calls Tryz.prog 41 #[.slice A n c,.slice B n d] w (XJ w):=by
 have H1:=Lib.hid h1
 have H2:=Lib.hid h2
 have HN:=Lib.hid hn
 clear h1 h2 hn
 have hne:((n:Int) != n)=false:=by simp
 go_enter Tryz.func41,Tryz.ntmps41
 go_wp2
 go_loopw [5] (fun i wr=>∃(k:Nat),k≤n∧i=.int .i64 k∧Hid (Below w.heap.size w wr)) (fun i _=>n - (intOf i).toNat)
 case atStart=>exact ⟨0,Nat.zero_le _,rfl,Below.refl _ _⟩
 case round=>
  obtain ⟨k,hk,rfl,HB⟩:=hrel
  by_cases hlt:k<n
  ·have hkl:k<ds.length:=by have:=HN.out;omega
   obtain ⟨b,off,cs,Lk,rfl,hbL,hLk,hrep,hc⟩:=H1.out.at_ hkl
   obtain ⟨b',off',cs',Mk,rfl,hbM,hMk,hrep',hc'⟩:=H2.out.at_ hkl
   have hbl:b<w.heap.size:=H1.out.lt b hbL
   have hbl':b'<w.heap.size:=H2.out.lt b' hbM
   have HR:=Lib.hid (ZDz.keep hrep (ZN HB.out (fun y m=>H1.out.lt y (hLk y m))))
   have HR':=Lib.hid (ZDz.keep hrep' (ZN HB.out (fun y m=>H2.out.lt y (hMk y m))))
   generalize ds[k]=x at *
   obtain ⟨aA1,ac1,aA2,ac2,rfl⟩:=ZDC hrep
   obtain ⟨bA1,bc1,bA2,bc2,rfl⟩:=ZDC hrep'
   have q0:wr.cell? ⟨b,off+k * 4,none⟩=_:=(HB.out.cell (p:=⟨b,off+(k * 4+0),none⟩) hbl).trans (hc 0 _ rfl)
   have p0:wr.cell? ⟨b',off'+k * 4,none⟩=_:=(HB.out.cell (p:=⟨b',off'+(k * 4+0),none⟩) hbl').trans (hc' 0 _ rfl)
   have q1:wr.cell? ⟨b,off+k * 4+1,none⟩=_:=(HB.out.cell (p:=⟨b,off+(k * 4+1),none⟩) hbl).trans (hc 1 _ rfl)
   have p1:wr.cell? ⟨b',off'+k * 4+1,none⟩=_:=(HB.out.cell (p:=⟨b',off'+(k * 4+1),none⟩) hbl').trans (hc' 1 _ rfl)
   have q2:wr.cell? ⟨b,off+k * 4+2,none⟩=_:=(HB.out.cell (p:=⟨b,off+(k * 4+2),none⟩) hbl).trans (hc 2 _ rfl)
   have p2:wr.cell? ⟨b',off'+k * 4+2,none⟩=_:=(HB.out.cell (p:=⟨b',off'+(k * 4+2),none⟩) hbl').trans (hc' 2 _ rfl)
   have q3:wr.cell? ⟨b,off+k * 4+3,none⟩=_:=(HB.out.cell (p:=⟨b,off+(k * 4+3),none⟩) hbl).trans (hc 3 _ rfl)
   have p3:wr.cell? ⟨b',off'+k * 4+3,none⟩=_:=(HB.out.cell (p:=⟨b',off'+(k * 4+3),none⟩) hbl').trans (hc' 3 _ rfl)
   clear hc hc' hrep hrep'
   have k0:(0:Int)≤k:=by omega
   have k1:(k:Int)<n:=by omega
   go_wp2_with fail
   go_still_tail 8,(by kernel_rfl)
   change wpList _ _ _ _ _ wr.drew
   go_wp2_with (go_at_call 74;(refine (ZEk _ _ x Lk Mk wr.drew (ZDz.keep HR.out (fun _ _=>rfl)) (ZDz.keep HR'.out (fun _ _=>rfl))).mono ?_;rintro e w1 ⟨rfl,hb1⟩;have HB1:=Lib.hid (HB.out.drew.trans (hb1.mono HB.out.size));clear hb1))
   go_roundw
   case rel=>exact ⟨k+1,by omega,by go_num,HB1.out⟩
   case measure=>simp [intOf];omega
  ·go_wp2
   go_ret
   exact ⟨rfl,HB.out⟩
end Go.Proofs.YtojnhepgnbhaaaaGreatDoor
namespace Go.Proofs.YtojnhepgnbhaaaaGreatDoor
open Go.RowKit Go.Deep
def ZhR {α:Type} (P:Program) (t:TypeId) (c:YL α) (wf:α→Prop):Prop:=
 ∀{H:Type} {enc:TypeId × Value→H} {w:World} {base:Nat} {spare:Nat→Bool} {held:Bool} {fuel:Nat} {cs:List Value} {x:DataW H × List MemPlace},
  DataW.trod enc P w base spare held fuel t cs=some x→∃d L,c.rep w cs d L∧wf d
theorem Zin {P:Program} {t:TypeId} (ht:P.underlying t=some (.int .i64)):ZhR P t Zgq Zjk:=by
 intro H enc w base spare held fuel cs x h
 obtain ⟨n,rfl,_,hw⟩:=DataW.trod_int ht h
 refine ⟨n,[],⟨rfl,rfl⟩,?_⟩
 simp [Lit.wf,IntKind.min,IntKind.max,IntKind.signed,IntKind.bits] at hw
 exact ⟨by omega,by omega⟩
theorem Qp {P:Program} {t:TypeId} (ht:P.underlying t=some .string):ZhR P t Zbm (fun _=>True):=by
 intro H enc w base spare held fuel cs x h
 obtain ⟨s,rfl,_,hs⟩:=DataW.trod_string ht h
 exact ⟨s,[],⟨rfl,rfl,by unfold maxLen at hs;omega⟩,trivial⟩
theorem ZaH {α:Type} {c:YL α} {wf:α→Prop} {P:Program} {t e:TypeId} (ht:P.underlying t=some (.slice e)) (hc:P.cellsOf e=c.size) (ho:ZhR P e c wf):ZhR P t (ZY c) (fun ds=>∀d∈ds,wf d):=by
 intro H enc w base spare held fuel cs x h
 rcases open_slice ht h with ⟨rfl,_⟩ | ⟨a,len,cap,m,n,D,Pl,rfl,hb,hl,hm,hmm,_,hx⟩
 ·exact ⟨[],[],⟨none,0,rfl,Nat.le_refl _,Nat.zero_le _,Sli.nil _ _⟩,by simp⟩
 ·have hlm:len≤m:=by rw [hmm];split<;>omega
  have key:∀q,q≤len→∃(xs:List Value) (ds:List α) (L:List Nat),ds.length=q∧(∀j u,xs[j]?=some u→w.cell? (a.add j)=some u)∧c.reps w xs ds L∧∀d∈ds,wf d:=by
   intro q
   induction q with
   | zero=>exact fun _=>⟨[],[],[],rfl,by simp,⟨rfl,rfl⟩,by simp⟩
   | succ q ih=>
    intro hq
    obtain ⟨xs,ds,L,hd,hcell,hr,hwf⟩:=ih (by omega)
    obtain ⟨cs',h1,h2⟩:=hx q (by omega)
    obtain ⟨d,Lq,hrep,hwd⟩:=ho h2
    obtain ⟨_,hlen,hat⟩:=World.cells?_some h1
    refine ⟨xs++cs',ds++[d],L++Lq,by simp [hd],fun j u hu=>?_,Zdz hr (Zjn hrep),?_⟩
    ·have hxl:xs.length=q * c.size:=by rw [ZfZ hr,hd]
     rw [List.getElem?_append] at hu
     split at hu
     ·exact hcell j u hu
     ·rename_i hj
      have hj2:=(List.getElem?_eq_some_iff.1 hu).1
      have:=hat (j - xs.length) (by omega)
      rw [←hu,←this,Go.Deep.add_add,hc,←hxl]
      congr 2
      omega
    ·intro y hy
     rcases List.mem_append.1 hy with hy | hy
     ·exact hwf y hy
     ·simp at hy;subst hy;exact hwd
  obtain ⟨xs,ds,L,hd,hcell,hr,hwf⟩:=key len (Nat.le_refl _)
  have hxl:=ZfZ hr
  rcases Nat.eq_zero_or_pos len with h0 | h0
  ·have:ds=[]:=List.eq_nil_of_length_eq_zero (by omega)
   subst this
   refine ⟨[],[],⟨some a,cap,by simp at hd;rw [←hd];rfl,by simp,hm,Sli.nil _ _⟩,by simp⟩
  ·obtain ⟨b,off,sp⟩:=a
   have hp:0<xs.length:=by rw [hxl,hd];exact Nat.mul_pos h0 c.pos
   have hsp:sp=none:=by
    have h1:=hcell 0 _ (List.getElem?_eq_getElem hp)
    have e:(⟨b,off,sp⟩:Addr).add 0=⟨b,off,sp⟩:=by simp [Addr.add]
    rw [e] at h1
    cases sp with
    | none=>rfl
    | some q=>
     simp only [World.cell?] at h1
     split at h1<;>simp at h1
   subst hsp
   refine ⟨ds,[b]++L,⟨some ⟨b,off,none⟩,cap,by rw [hd],by omega,hm,xs,[b],L,rfl,⟨by rw [hxl],.inr ⟨by omega,b,off,rfl,rfl,fun j u hu=>?_⟩⟩,hr⟩,hwf⟩
   have:=hcell j u hu
   rwa [ZcL] at this
end Go.Proofs.YtojnhepgnbhaaaaGreatDoor
namespace Go.Proofs.YtojnhepgnbhaaaaGreatDoor
open Go.RowKit
theorem ZD8 {aRules:List Zf} {aBase:List Zc} {aSteps:List Zuw} {r:Bool} (hh:ZDE aRules aBase aSteps=some r) (w:World) (hj:J0 w) (AaRules:Option Addr) (caRules:Nat) (LaRules:List Nat) (haRules:(ZY XU).rep w [.slice AaRules aRules.length caRules] aRules LaRules) (AaBase:Option Addr) (caBase:Nat) (LaBase:List Nat) (haBase:(ZY Y4).rep w [.slice AaBase aBase.length caBase] aBase LaBase) (AaSteps:Option Addr) (caSteps:Nat) (LaSteps:List Nat) (haSteps:(ZY ZDz).rep w [.slice AaSteps aSteps.length caSteps] aSteps LaSteps):
  Calls Tryz.prog 38 #[.slice AaRules aRules.length caRules,.slice AaBase aBase.length caBase,.slice AaSteps aSteps.length caSteps] w (fun e w'=>e=.returned (.bool r)∧Below w.heap.size w w'):=
 Zn.givesB (ZD9 hh) hj (vs:=[_,_,_]) ⟨Znw ZqW _ haRules,Znw ZjV _ haBase,Znw ZEo _ haSteps,trivial⟩
theorem ZD7 {aRules:List Zf} {aBase:List Zc} {aSteps:List Zuw} {r:Bool} (hh:ZDD aRules aBase aSteps=some r) (w:World) (hj:J0 w) (AaRules:Option Addr) (caRules:Nat) (LaRules:List Nat) (haRules:(ZY XU).rep w [.slice AaRules aRules.length caRules] aRules LaRules) (AaBase:Option Addr) (caBase:Nat) (LaBase:List Nat) (haBase:(ZY Y4).rep w [.slice AaBase aBase.length caBase] aBase LaBase) (AaSteps:Option Addr) (caSteps:Nat) (LaSteps:List Nat) (haSteps:(ZY ZDz).rep w [.slice AaSteps aSteps.length caSteps] aSteps LaSteps):
  Calls Tryz.prog 40 #[.slice AaRules aRules.length caRules,.slice AaBase aBase.length caBase,.slice AaSteps aSteps.length caSteps] w (fun e w'=>e=.returned (.bool r)∧Below w.heap.size w w'):=
 Zn.givesB (ZD6 hh) hj (vs:=[_,_,_]) ⟨Znw ZqW _ haRules,Znw ZjV _ haBase,Znw ZEo _ haSteps,trivial⟩
set_option maxRecDepth 100000 in
set_option maxHeartbeats 8000000 in
theorem ZDN (w:World) (hJ:J0 w) (A_aRules:Option Addr) (c_aRules:Nat) (aRules:List Zf) (L_aRules:List Nat) (ln_aRules:aRules.length≤9223372036854775807) (h_aRules:Sli XU w A_aRules aRules L_aRules) (A_aBase:Option Addr) (c_aBase:Nat) (aBase:List Zc) (L_aBase:List Nat) (ln_aBase:aBase.length≤9223372036854775807) (h_aBase:Sli Y4 w A_aBase aBase L_aBase) (A_aSteps:Option Addr) (c_aSteps:Nat) (aSteps:List Zuw) (L_aSteps:List Nat) (ln_aSteps:aSteps.length≤9223372036854775807) (h_aSteps:Sli ZDz w A_aSteps aSteps L_aSteps) (wf_aRules:(fun ds=>∀d∈ds,ZpL d) aRules) (wf_aBase:(fun ds=>∀d∈ds,ZpO d) aBase) (wf_aSteps:(fun ds=>∀d∈ds,ZEi d) aSteps):
  Calls Tryz.prog 7 #[.slice A_aRules aRules.length c_aRules,.slice A_aBase aBase.length c_aBase,.slice A_aSteps aSteps.length c_aSteps] w fun e w'=>e=.returned (.bool true)∧Below w.heap.size w w':=by
 have HJ:=Lib.hid hJ
 clear hJ
 have H_aRules:=Lib.hid h_aRules
 clear h_aRules
 have H_aBase:=Lib.hid h_aBase
 clear h_aBase
 have H_aSteps:=Lib.hid h_aSteps
 clear h_aSteps
 go_enter Tryz.func7,Tryz.ntmps7
 go_wp2_with fail
 refine (Zn6 A_aRules _ c_aRules aRules L_aRules _ _ rfl ln_aRules (by omega) (by omega) (H_aRules.out.below (Below.refl w.heap.size w))).mono ?_
 rintro e w1 ⟨rfl,hb⟩
 have B1:=Lib.hid ((Below.refl w.heap.size w).trans (hb.mono (Below.refl w.heap.size w).size))
 have sz1:=hb.size
 clear hb
 by_cases cc_aRules:((Yj aRules:Nat):Int)≤1048576
 rotate_left
 ·rw [ZX cc_aRules]
  go_wp2
  go_ret
  exact ⟨rfl,B1.out⟩
 rw [Y8 cc_aRules]
 have cz_aRules:Yj aRules≤1048576:=by omega
 have cl_aRules:aRules.length≤1048576:=by have:=cz_aRules;simp only [Yj] at this;omega
 have nn_aRules:¬(1048576 - ((Yj aRules:Nat):Int)<0):=by omega
 go_wp2_with fail
 refine (Zpq A_aBase _ c_aBase aBase L_aBase _ _ rfl ln_aBase (by omega) (by omega) (H_aBase.out.below B1.out)).mono ?_
 rintro e w2 ⟨rfl,hb⟩
 have B2:=Lib.hid (B1.out.trans (hb.mono B1.out.size))
 have sz2:=hb.size
 clear B1
 clear hb
 by_cases cc_aBase:((Yd aBase:Nat):Int)≤1048576 - ((Yj aRules:Nat):Int)
 rotate_left
 ·rw [ZX cc_aBase]
  go_wp2
  go_ret
  exact ⟨rfl,B2.out⟩
 rw [Y8 cc_aBase]
 have cz_aBase:Yd aBase≤1048576:=by omega
 have cl_aBase:aBase.length≤1048576:=by have:=cz_aBase;simp only [Yd] at this;omega
 have nn_aBase:¬(1048576 - ((Yj aRules:Nat):Int) - ((Yd aBase:Nat):Int)<0):=by omega
 go_wp2_with fail
 refine (ZEe A_aSteps _ c_aSteps aSteps L_aSteps _ _ rfl ln_aSteps (by omega) (by omega) (H_aSteps.out.below B2.out)).mono ?_
 rintro e w3 ⟨rfl,hb⟩
 have B3:=Lib.hid (B2.out.trans (hb.mono B2.out.size))
 have sz3:=hb.size
 clear B2
 clear hb
 by_cases cc_aSteps:((Q1 aSteps:Nat):Int)≤1048576 - ((Yj aRules:Nat):Int) - ((Yd aBase:Nat):Int)
 rotate_left
 ·rw [ZX cc_aSteps]
  go_wp2
  go_ret
  exact ⟨rfl,B3.out⟩
 rw [Y8 cc_aSteps]
 have cz_aSteps:Q1 aSteps≤1048576:=by omega
 have cl_aSteps:aSteps.length≤1048576:=by have:=cz_aSteps;simp only [Q1] at this;omega
 have nn_aSteps:¬(1048576 - ((Yj aRules:Nat):Int) - ((Yd aBase:Nat):Int) - ((Q1 aSteps:Nat):Int)<0):=by omega
 obtain ⟨R0,hs0,hi0⟩:=ZD3 aRules cz_aRules wf_aRules aBase cz_aBase wf_aBase aSteps cz_aSteps wf_aSteps
 go_wp2_with fail
 refine (Zdw A_aRules _ c_aRules aRules L_aRules _ rfl cz_aRules (H_aRules.out.below B3.out)).mono ?_
 rintro e w4 ⟨v,rfl,acc⟩
 obtain ⟨A_t3aRules,c_t3aRules,rfl⟩:=acc.shape
 have hb:=acc.below
 obtain ⟨L_t3aRules,gt⟩:=acc.got
 have B4:=Lib.hid (B3.out.trans (hb.mono B3.out.size))
 have sz4:=hb.size
 clear B3
 have V_t3aRules:=Lib.hid gt
 have ge_t3aRules:=Lib.hid gt.own.ge
 have lt_t3aRules:=Lib.hid gt.lt
 clear gt hb acc
 go_wp2_with fail
 refine (ZdN A_aBase _ c_aBase aBase L_aBase _ rfl cz_aBase (H_aBase.out.below B4.out)).mono ?_
 rintro e w5 ⟨v,rfl,acc⟩
 obtain ⟨A_t4aBase,c_t4aBase,rfl⟩:=acc.shape
 have hb:=acc.below
 obtain ⟨L_t4aBase,gt⟩:=acc.got
 have B5:=Lib.hid (B4.out.trans (hb.mono B4.out.size))
 have sz5:=hb.size
 have V_t3aRules:=Lib.hid (V_t3aRules.out.later hb)
 clear B4
 have V_t4aBase:=Lib.hid gt
 have ge_t4aBase:=Lib.hid gt.own.ge
 have lt_t4aBase:=Lib.hid gt.lt
 clear gt hb acc
 go_wp2_with fail
 refine (ZDM A_aSteps _ c_aSteps aSteps L_aSteps _ rfl cz_aSteps (H_aSteps.out.below B5.out)).mono ?_
 rintro e w6 ⟨v,rfl,acc⟩
 obtain ⟨A_t5aSteps,c_t5aSteps,rfl⟩:=acc.shape
 have hb:=acc.below
 obtain ⟨L_t5aSteps,gt⟩:=acc.got
 have B6:=Lib.hid (B5.out.trans (hb.mono B5.out.size))
 have sz6:=hb.size
 have V_t3aRules:=Lib.hid (V_t3aRules.out.later hb)
 have V_t4aBase:=Lib.hid (V_t4aBase.out.later hb)
 clear B5
 have V_t5aSteps:=Lib.hid gt
 have ge_t5aSteps:=Lib.hid gt.own.ge
 have lt_t5aSteps:=Lib.hid gt.lt
 clear gt hb acc
 go_wp2_with fail
 refine (ZD8 hs0 _ (ZiG hJ0 HJ.out B6.out) A_t3aRules c_t3aRules L_t3aRules V_t3aRules.out.rep A_t4aBase c_t4aBase L_t4aBase V_t4aBase.out.rep A_t5aSteps c_t5aSteps L_t5aSteps V_t5aSteps.out.rep).mono ?_
 rintro e w7 ⟨rfl,hb⟩
 have B7:=Lib.hid (B6.out.trans (hb.mono B6.out.size))
 have sz7:=hb.size
 have V_t3aRules:=Lib.hid (V_t3aRules.out.later hb)
 have V_t4aBase:=Lib.hid (V_t4aBase.out.later hb)
 have V_t5aSteps:=Lib.hid (V_t5aSteps.out.later hb)
 clear B6
 clear hb
 clear V_t3aRules
 clear V_t4aBase
 clear V_t5aSteps
 go_wp2_with fail
 refine (Zdw A_aRules _ c_aRules aRules L_aRules _ rfl cz_aRules (H_aRules.out.below B7.out)).mono ?_
 rintro e w8 ⟨v,rfl,acc⟩
 obtain ⟨A_x0,c_x0,rfl⟩:=acc.shape
 have hb:=acc.below
 obtain ⟨L_x0,gt⟩:=acc.got
 have B8:=Lib.hid (B7.out.trans (hb.mono B7.out.size))
 have sz8:=hb.size
 clear B7
 have V_x0:=Lib.hid gt
 have ge_x0:=Lib.hid gt.own.ge
 have lt_x0:=Lib.hid gt.lt
 clear gt hb acc
 go_wp2_with fail
 refine (ZdN A_aBase _ c_aBase aBase L_aBase _ rfl cz_aBase (H_aBase.out.below B8.out)).mono ?_
 rintro e w9 ⟨v,rfl,acc⟩
 obtain ⟨A_x1,c_x1,rfl⟩:=acc.shape
 have hb:=acc.below
 obtain ⟨L_x1,gt⟩:=acc.got
 have B9:=Lib.hid (B8.out.trans (hb.mono B8.out.size))
 have sz9:=hb.size
 have V_x0:=Lib.hid (V_x0.out.later hb)
 clear B8
 have V_x1:=Lib.hid gt
 have ge_x1:=Lib.hid gt.own.ge
 have lt_x1:=Lib.hid gt.lt
 clear gt hb acc
 go_wp2_with fail
 refine (ZDM A_aSteps _ c_aSteps aSteps L_aSteps _ rfl cz_aSteps (H_aSteps.out.below B9.out)).mono ?_
 rintro e w10 ⟨v,rfl,acc⟩
 obtain ⟨A_x2,c_x2,rfl⟩:=acc.shape
 have hb:=acc.below
 obtain ⟨L_x2,gt⟩:=acc.got
 have B10:=Lib.hid (B9.out.trans (hb.mono B9.out.size))
 have sz10:=hb.size
 have V_x0:=Lib.hid (V_x0.out.later hb)
 have V_x1:=Lib.hid (V_x1.out.later hb)
 clear B9
 have V_x2:=Lib.hid gt
 have ge_x2:=Lib.hid gt.own.ge
 have lt_x2:=Lib.hid gt.lt
 clear gt hb acc
 go_wp2_with fail
 refine (ZD7 hi0 _ (ZiG hJ0 HJ.out B10.out) A_x0 c_x0 L_x0 V_x0.out.rep A_x1 c_x1 L_x1 V_x1.out.rep A_x2 c_x2 L_x2 V_x2.out.rep).mono ?_
 rintro e w11 ⟨rfl,hb⟩
 have B11:=Lib.hid (B10.out.trans (hb.mono B10.out.size))
 have sz11:=hb.size
 have V_x0:=Lib.hid (V_x0.out.later hb)
 have V_x1:=Lib.hid (V_x1.out.later hb)
 have V_x2:=Lib.hid (V_x2.out.later hb)
 clear B10
 clear hb
 have hne:(R0 != R0)=false:=by simp
 go_wp2_with fail
 refine (Zdw A_aRules _ c_aRules aRules L_aRules _ rfl cz_aRules (H_aRules.out.below B11.out)).mono ?_
 rintro e w12 ⟨v,rfl,acc⟩
 obtain ⟨A_t11aRules,c_t11aRules,rfl⟩:=acc.shape
 have hb:=acc.below
 obtain ⟨L_t11aRules,gt⟩:=acc.got
 have B12:=Lib.hid (B11.out.trans (hb.mono B11.out.size))
 have sz12:=hb.size
 have V_x0:=Lib.hid (V_x0.out.later hb)
 have V_x1:=Lib.hid (V_x1.out.later hb)
 have V_x2:=Lib.hid (V_x2.out.later hb)
 clear B11
 have V_t11aRules:=Lib.hid gt
 have ge_t11aRules:=Lib.hid gt.own.ge
 have lt_t11aRules:=Lib.hid gt.lt
 clear gt hb acc
 go_wp2_with fail
 refine (ZoU A_x0 A_t11aRules _ c_x0 c_t11aRules _ L_x0 L_t11aRules _ rfl (by omega) (ZU V_x0.out.rep).2.2 (ZU V_t11aRules.out.rep).2.2).mono ?_
 rintro e w13 ⟨rfl,hb⟩
 have B13:=Lib.hid (B12.out.trans (hb.mono B12.out.size))
 have sz13:=hb.size
 have V_x0:=Lib.hid (V_x0.out.later hb)
 have V_x1:=Lib.hid (V_x1.out.later hb)
 have V_x2:=Lib.hid (V_x2.out.later hb)
 have V_t11aRules:=Lib.hid (V_t11aRules.out.later hb)
 clear B12
 clear hb
 clear V_t11aRules
 go_wp2_with fail
 refine (ZdN A_aBase _ c_aBase aBase L_aBase _ rfl cz_aBase (H_aBase.out.below B13.out)).mono ?_
 rintro e w14 ⟨v,rfl,acc⟩
 obtain ⟨A_t13aBase,c_t13aBase,rfl⟩:=acc.shape
 have hb:=acc.below
 obtain ⟨L_t13aBase,gt⟩:=acc.got
 have B14:=Lib.hid (B13.out.trans (hb.mono B13.out.size))
 have sz14:=hb.size
 have V_x0:=Lib.hid (V_x0.out.later hb)
 have V_x1:=Lib.hid (V_x1.out.later hb)
 have V_x2:=Lib.hid (V_x2.out.later hb)
 clear B13
 have V_t13aBase:=Lib.hid gt
 have ge_t13aBase:=Lib.hid gt.own.ge
 have lt_t13aBase:=Lib.hid gt.lt
 clear gt hb acc
 go_wp2_with fail
 refine (ZdB A_x1 A_t13aBase _ c_x1 c_t13aBase _ L_x1 L_t13aBase _ rfl (by omega) (ZU V_x1.out.rep).2.2 (ZU V_t13aBase.out.rep).2.2).mono ?_
 rintro e w15 ⟨rfl,hb⟩
 have B15:=Lib.hid (B14.out.trans (hb.mono B14.out.size))
 have sz15:=hb.size
 have V_x0:=Lib.hid (V_x0.out.later hb)
 have V_x1:=Lib.hid (V_x1.out.later hb)
 have V_x2:=Lib.hid (V_x2.out.later hb)
 have V_t13aBase:=Lib.hid (V_t13aBase.out.later hb)
 clear B14
 clear hb
 clear V_t13aBase
 go_wp2_with fail
 refine (ZDM A_aSteps _ c_aSteps aSteps L_aSteps _ rfl cz_aSteps (H_aSteps.out.below B15.out)).mono ?_
 rintro e w16 ⟨v,rfl,acc⟩
 obtain ⟨A_t15aSteps,c_t15aSteps,rfl⟩:=acc.shape
 have hb:=acc.below
 obtain ⟨L_t15aSteps,gt⟩:=acc.got
 have B16:=Lib.hid (B15.out.trans (hb.mono B15.out.size))
 have sz16:=hb.size
 have V_x0:=Lib.hid (V_x0.out.later hb)
 have V_x1:=Lib.hid (V_x1.out.later hb)
 have V_x2:=Lib.hid (V_x2.out.later hb)
 clear B15
 have V_t15aSteps:=Lib.hid gt
 have ge_t15aSteps:=Lib.hid gt.own.ge
 have lt_t15aSteps:=Lib.hid gt.lt
 clear gt hb acc
 go_wp2_with fail
 refine (ZEf A_x2 A_t15aSteps _ c_x2 c_t15aSteps _ L_x2 L_t15aSteps _ rfl (by omega) (ZU V_x2.out.rep).2.2 (ZU V_t15aSteps.out.rep).2.2).mono ?_
 rintro e w17 ⟨rfl,hb⟩
 have B17:=Lib.hid (B16.out.trans (hb.mono B16.out.size))
 have sz17:=hb.size
 have V_x0:=Lib.hid (V_x0.out.later hb)
 have V_x1:=Lib.hid (V_x1.out.later hb)
 have V_x2:=Lib.hid (V_x2.out.later hb)
 have V_t15aSteps:=Lib.hid (V_t15aSteps.out.later hb)
 clear B16
 clear hb
 clear V_t15aSteps
 go_wp2_with fail
 go_ret
 exact ⟨rfl,B17.out⟩
end Go.Proofs.YtojnhepgnbhaaaaGreatDoor
namespace Go.Proofs.YtojnhepgnbhaaaaGreatDoor
open Go.RowKit
set_option maxRecDepth 100000 in
theorem Zrf:ZhR Tryz.prog 54 Y4 ZpO:=by
 intro H enc w base spare held fuel cs x h
 obtain ⟨xs,n,_,_,hlen,hxl,hf⟩:=DataW.trod_struct Tryz.underlying54 h
 have hl:cs.length=2:=hlen.trans (by kernel_rfl)
 have hx:xs.length=2:=hxl
 match cs,hl with
 | [a0,a1],_=>
  have f0:DataW.trod enc Tryz.prog w base spare held n 9 [a0]=some (xs[0]'(by omega)):=by
   have this:DataW.trod enc Tryz.prog w base spare held n 9 (List.take (Tryz.prog.cellsOf 9) (List.drop 0 [a0,a1]))=_:=(hf 0 _ rfl).trans (List.getElem?_eq_getElem (show 0<xs.length by omega))
   rw [show Tryz.prog.cellsOf 9=1 by kernel_rfl] at this
   exact this
  have f1:DataW.trod enc Tryz.prog w base spare held n 44 [a1]=some (xs[1]'(by omega)):=by
   have this:DataW.trod enc Tryz.prog w base spare held n 44 (List.take (Tryz.prog.cellsOf 44) (List.drop 1 [a0,a1]))=_:=(hf 1 _ rfl).trans (List.getElem?_eq_getElem (show 1<xs.length by omega))
   rw [show Tryz.prog.cellsOf 44=1 by kernel_rfl] at this
   exact this
  obtain ⟨d0,M0,r0,w0⟩:=(Qp Tryz.underlying9) f0
  obtain ⟨e0,_,t0⟩:=r0
  cases e0
  obtain ⟨d1,M1,r1,w1⟩:=(ZaH Tryz.underlying44 (by kernel_rfl) (Qp Tryz.underlying9)) f1
  obtain ⟨A1,c1,e1,n1,m1,s1⟩:=r1
  cases e1
  exact ⟨⟨d0,d1⟩,_,⟨A1,c1,M1,rfl,rfl,t0,n1,m1,s1⟩,⟨w0,w1⟩⟩
set_option maxRecDepth 100000 in
theorem Zig:ZhR Tryz.prog 46 ZcY Ziu:=by
 intro H enc w base spare held fuel cs x h
 obtain ⟨xs,n,_,_,hlen,hxl,hf⟩:=DataW.trod_struct Tryz.underlying46 h
 have hl:cs.length=2:=hlen.trans (by kernel_rfl)
 have hx:xs.length=2:=hxl
 match cs,hl with
 | [a0,a1],_=>
  have f0:DataW.trod enc Tryz.prog w base spare held n 9 [a0]=some (xs[0]'(by omega)):=by
   have this:DataW.trod enc Tryz.prog w base spare held n 9 (List.take (Tryz.prog.cellsOf 9) (List.drop 0 [a0,a1]))=_:=(hf 0 _ rfl).trans (List.getElem?_eq_getElem (show 0<xs.length by omega))
   rw [show Tryz.prog.cellsOf 9=1 by kernel_rfl] at this
   exact this
  have f1:DataW.trod enc Tryz.prog w base spare held n 44 [a1]=some (xs[1]'(by omega)):=by
   have this:DataW.trod enc Tryz.prog w base spare held n 44 (List.take (Tryz.prog.cellsOf 44) (List.drop 1 [a0,a1]))=_:=(hf 1 _ rfl).trans (List.getElem?_eq_getElem (show 1<xs.length by omega))
   rw [show Tryz.prog.cellsOf 44=1 by kernel_rfl] at this
   exact this
  obtain ⟨d0,M0,r0,w0⟩:=(Qp Tryz.underlying9) f0
  obtain ⟨e0,_,t0⟩:=r0
  cases e0
  obtain ⟨d1,M1,r1,w1⟩:=(ZaH Tryz.underlying44 (by kernel_rfl) (Qp Tryz.underlying9)) f1
  obtain ⟨A1,c1,e1,n1,m1,s1⟩:=r1
  cases e1
  exact ⟨⟨d0,d1⟩,_,⟨A1,c1,M1,rfl,rfl,t0,n1,m1,s1⟩,⟨w0,w1⟩⟩
set_option maxRecDepth 100000 in
theorem Zrb:ZhR Tryz.prog 158 XV Ztj:=by
 intro H enc w base spare held fuel cs x h
 obtain ⟨xs,n,_,_,hlen,hxl,hf⟩:=DataW.trod_struct Tryz.underlying158 h
 have hl:cs.length=5:=hlen.trans (by kernel_rfl)
 have hx:xs.length=4:=hxl
 match cs,hl with
 | [a0,a1,a2,a3,a4],_=>
  have f0:DataW.trod enc Tryz.prog w base spare held n 3 [a0]=some (xs[0]'(by omega)):=by
   have this:DataW.trod enc Tryz.prog w base spare held n 3 (List.take (Tryz.prog.cellsOf 3) (List.drop 0 [a0,a1,a2,a3,a4]))=_:=(hf 0 _ rfl).trans (List.getElem?_eq_getElem (show 0<xs.length by omega))
   rw [show Tryz.prog.cellsOf 3=1 by kernel_rfl] at this
   exact this
  have f1:DataW.trod enc Tryz.prog w base spare held n 46 [a1,a2]=some (xs[1]'(by omega)):=by
   have this:DataW.trod enc Tryz.prog w base spare held n 46 (List.take (Tryz.prog.cellsOf 46) (List.drop 1 [a0,a1,a2,a3,a4]))=_:=(hf 1 _ rfl).trans (List.getElem?_eq_getElem (show 1<xs.length by omega))
   rw [show Tryz.prog.cellsOf 46=2 by kernel_rfl] at this
   exact this
  have f2:DataW.trod enc Tryz.prog w base spare held n 9 [a3]=some (xs[2]'(by omega)):=by
   have this:DataW.trod enc Tryz.prog w base spare held n 9 (List.take (Tryz.prog.cellsOf 9) (List.drop 3 [a0,a1,a2,a3,a4]))=_:=(hf 2 _ rfl).trans (List.getElem?_eq_getElem (show 2<xs.length by omega))
   rw [show Tryz.prog.cellsOf 9=1 by kernel_rfl] at this
   exact this
  have f3:DataW.trod enc Tryz.prog w base spare held n 9 [a4]=some (xs[3]'(by omega)):=by
   have this:DataW.trod enc Tryz.prog w base spare held n 9 (List.take (Tryz.prog.cellsOf 9) (List.drop 4 [a0,a1,a2,a3,a4]))=_:=(hf 3 _ rfl).trans (List.getElem?_eq_getElem (show 3<xs.length by omega))
   rw [show Tryz.prog.cellsOf 9=1 by kernel_rfl] at this
   exact this
  obtain ⟨d0,M0,r0,w0⟩:=(Zin Tryz.underlying3) f0
  obtain ⟨e0,_⟩:=r0
  cases e0
  obtain ⟨d1,M1,r1,w1⟩:=Zig f1
  obtain ⟨A1,c1,N1,e1,g1,t0,n1,m1,s1⟩:=r1
  cases e1
  subst g1
  obtain ⟨d2,M2,r2,w2⟩:=(Qp Tryz.underlying9) f2
  obtain ⟨e2,_,t1⟩:=r2
  cases e2
  obtain ⟨d3,M3,r3,w3⟩:=(Qp Tryz.underlying9) f3
  obtain ⟨e3,_,t2⟩:=r3
  cases e3
  exact ⟨⟨d0,d1,d2,d3⟩,_,⟨A1,c1,M1,rfl,rfl,t0,t1,t2,n1,m1,s1⟩,⟨w0,w1,w2,w3⟩⟩
set_option maxRecDepth 100000 in
theorem Zoy:ZhR Tryz.prog 161 Yk Zn7:=by
 intro H enc w base spare held fuel cs x h
 obtain ⟨xs,n,_,_,hlen,hxl,hf⟩:=DataW.trod_struct Tryz.underlying161 h
 have hl:cs.length=3:=hlen.trans (by kernel_rfl)
 have hx:xs.length=2:=hxl
 match cs,hl with
 | [a0,a1,a2],_=>
  have f0:DataW.trod enc Tryz.prog w base spare held n 3 [a0]=some (xs[0]'(by omega)):=by
   have this:DataW.trod enc Tryz.prog w base spare held n 3 (List.take (Tryz.prog.cellsOf 3) (List.drop 0 [a0,a1,a2]))=_:=(hf 0 _ rfl).trans (List.getElem?_eq_getElem (show 0<xs.length by omega))
   rw [show Tryz.prog.cellsOf 3=1 by kernel_rfl] at this
   exact this
  have f1:DataW.trod enc Tryz.prog w base spare held n 46 [a1,a2]=some (xs[1]'(by omega)):=by
   have this:DataW.trod enc Tryz.prog w base spare held n 46 (List.take (Tryz.prog.cellsOf 46) (List.drop 1 [a0,a1,a2]))=_:=(hf 1 _ rfl).trans (List.getElem?_eq_getElem (show 1<xs.length by omega))
   rw [show Tryz.prog.cellsOf 46=2 by kernel_rfl] at this
   exact this
  obtain ⟨d0,M0,r0,w0⟩:=(Zin Tryz.underlying3) f0
  obtain ⟨e0,_⟩:=r0
  cases e0
  obtain ⟨d1,M1,r1,w1⟩:=Zig f1
  obtain ⟨A1,c1,N1,e1,g1,t0,n1,m1,s1⟩:=r1
  cases e1
  subst g1
  exact ⟨⟨d0,d1⟩,_,⟨A1,c1,M1,rfl,rfl,t0,n1,m1,s1⟩,⟨w0,w1⟩⟩
set_option maxRecDepth 100000 in
theorem ZrD:ZhR Tryz.prog 75 XU ZpL:=by
 intro H enc w base spare held fuel cs x h
 obtain ⟨xs,n,_,_,hlen,hxl,hf⟩:=DataW.trod_struct Tryz.underlying75 h
 have hl:cs.length=4:=hlen.trans (by kernel_rfl)
 have hx:xs.length=4:=hxl
 match cs,hl with
 | [a0,a1,a2,a3],_=>
  have f0:DataW.trod enc Tryz.prog w base spare held n 9 [a0]=some (xs[0]'(by omega)):=by
   have this:DataW.trod enc Tryz.prog w base spare held n 9 (List.take (Tryz.prog.cellsOf 9) (List.drop 0 [a0,a1,a2,a3]))=_:=(hf 0 _ rfl).trans (List.getElem?_eq_getElem (show 0<xs.length by omega))
   rw [show Tryz.prog.cellsOf 9=1 by kernel_rfl] at this
   exact this
  have f1:DataW.trod enc Tryz.prog w base spare held n 3 [a1]=some (xs[1]'(by omega)):=by
   have this:DataW.trod enc Tryz.prog w base spare held n 3 (List.take (Tryz.prog.cellsOf 3) (List.drop 1 [a0,a1,a2,a3]))=_:=(hf 1 _ rfl).trans (List.getElem?_eq_getElem (show 1<xs.length by omega))
   rw [show Tryz.prog.cellsOf 3=1 by kernel_rfl] at this
   exact this
  have f2:DataW.trod enc Tryz.prog w base spare held n 72 [a2]=some (xs[2]'(by omega)):=by
   have this:DataW.trod enc Tryz.prog w base spare held n 72 (List.take (Tryz.prog.cellsOf 72) (List.drop 2 [a0,a1,a2,a3]))=_:=(hf 2 _ rfl).trans (List.getElem?_eq_getElem (show 2<xs.length by omega))
   rw [show Tryz.prog.cellsOf 72=1 by kernel_rfl] at this
   exact this
  have f3:DataW.trod enc Tryz.prog w base spare held n 73 [a3]=some (xs[3]'(by omega)):=by
   have this:DataW.trod enc Tryz.prog w base spare held n 73 (List.take (Tryz.prog.cellsOf 73) (List.drop 3 [a0,a1,a2,a3]))=_:=(hf 3 _ rfl).trans (List.getElem?_eq_getElem (show 3<xs.length by omega))
   rw [show Tryz.prog.cellsOf 73=1 by kernel_rfl] at this
   exact this
  obtain ⟨d0,M0,r0,w0⟩:=(Qp Tryz.underlying9) f0
  obtain ⟨e0,_,t0⟩:=r0
  cases e0
  obtain ⟨d1,M1,r1,w1⟩:=(Zin Tryz.underlying3) f1
  obtain ⟨e1,_⟩:=r1
  cases e1
  obtain ⟨d2,M2,r2,w2⟩:=(ZaH Tryz.underlying72 (by kernel_rfl) Zrb) f2
  obtain ⟨A1,c1,e2,n1,m1,s1⟩:=r2
  cases e2
  obtain ⟨d3,M3,r3,w3⟩:=(ZaH Tryz.underlying73 (by kernel_rfl) Zoy) f3
  obtain ⟨A2,c2,e3,n2,m2,s2⟩:=r3
  cases e3
  exact ⟨⟨d0,d1,d2,d3⟩,_,⟨A1,c1,M2,A2,c2,M3,rfl,rfl,t0,n1,m1,s1,n2,m2,s2⟩,⟨w0,w1,w2,w3⟩⟩
set_option maxRecDepth 100000 in
theorem ZEr:ZhR Tryz.prog 104 ZDz ZEi:=by
 intro H enc w base spare held fuel cs x h
 obtain ⟨xs,n,_,_,hlen,hxl,hf⟩:=DataW.trod_struct Tryz.underlying104 h
 have hl:cs.length=4:=hlen.trans (by kernel_rfl)
 have hx:xs.length=3:=hxl
 match cs,hl with
 | [a0,a1,a2,a3],_=>
  have f0:DataW.trod enc Tryz.prog w base spare held n 54 [a0,a1]=some (xs[0]'(by omega)):=by
   have this:DataW.trod enc Tryz.prog w base spare held n 54 (List.take (Tryz.prog.cellsOf 54) (List.drop 0 [a0,a1,a2,a3]))=_:=(hf 0 _ rfl).trans (List.getElem?_eq_getElem (show 0<xs.length by omega))
   rw [show Tryz.prog.cellsOf 54=2 by kernel_rfl] at this
   exact this
  have f1:DataW.trod enc Tryz.prog w base spare held n 9 [a2]=some (xs[1]'(by omega)):=by
   have this:DataW.trod enc Tryz.prog w base spare held n 9 (List.take (Tryz.prog.cellsOf 9) (List.drop 2 [a0,a1,a2,a3]))=_:=(hf 1 _ rfl).trans (List.getElem?_eq_getElem (show 1<xs.length by omega))
   rw [show Tryz.prog.cellsOf 9=1 by kernel_rfl] at this
   exact this
  have f2:DataW.trod enc Tryz.prog w base spare held n 101 [a3]=some (xs[2]'(by omega)):=by
   have this:DataW.trod enc Tryz.prog w base spare held n 101 (List.take (Tryz.prog.cellsOf 101) (List.drop 3 [a0,a1,a2,a3]))=_:=(hf 2 _ rfl).trans (List.getElem?_eq_getElem (show 2<xs.length by omega))
   rw [show Tryz.prog.cellsOf 101=1 by kernel_rfl] at this
   exact this
  obtain ⟨d0,M0,r0,w0⟩:=Zrf f0
  obtain ⟨A1,c1,N1,e0,g0,t0,n1,m1,s1⟩:=r0
  cases e0
  subst g0
  obtain ⟨d1,M1,r1,w1⟩:=(Qp Tryz.underlying9) f1
  obtain ⟨e1,_,t1⟩:=r1
  cases e1
  obtain ⟨d2,M2,r2,w2⟩:=(ZaH Tryz.underlying101 (by kernel_rfl) (Zin Tryz.underlying3)) f2
  obtain ⟨A2,c2,e2,n2,m2,s2⟩:=r2
  cases e2
  exact ⟨⟨d0,d1,d2⟩,_,⟨A1,c1,M0,A2,c2,M2,rfl,rfl,t0,t1,n1,m1,s1,n2,m2,s2⟩,⟨w0,w1,w2⟩⟩
end Go.Proofs.YtojnhepgnbhaaaaGreatDoor
