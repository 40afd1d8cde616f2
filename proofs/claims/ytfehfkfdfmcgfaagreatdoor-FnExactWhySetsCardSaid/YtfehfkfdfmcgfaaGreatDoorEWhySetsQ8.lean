/- Texts of this proof, joined: To, Eq, Mark, Held, Open, ExactWhySets, Opens. What each holds is said at its theorems. -/
import Derived.Test.YtfehfkfdfmcgfaaGreatDoorProg
import Derived.Test.YtfehfkfdfmcgfaaGreatDoorEWhySetsQ1
import Derived.Outline
import Derived.WalkSpells
import Derived.StillTailTactics
import Derived.Test.YtfehfkfdfmcgfaaGreatDoorEWhySetsQ3
import Derived.Deep.RegionHeld3
import Derived.Deep.Slices
import Derived.ChangeArms
import Derived.ProofKit
import Derived.Test.YtfehfkfdfmcgfaaGreatDoorEWhySetsQ7
set_option linter.unusedSimpArgs false
set_option linter.unusedVariables false
open Array renaming size_push→AK
open Int renaming le_trans→AD
open List renaming getElem?_eq_getElem→A5,drop_eq_getElem_cons→A6,take→A7,drop→A8,drop_of_length_le→A9,mem_append→AB,set_append_right→AE,set_cons_zero→AF,mem_cons→AG,append_nil→AH,append_assoc→AI,getElem_append_right→AJ
open Nat renaming add_zero→A0,zero_le→A3,le_refl→A4,mul_one→AA,lt_of_lt_of_le→AC
open Go.Proofs.Tryz
namespace Go.Proofs.YtfehfkfdfmcgfaaGreatDoor
section
open Go.RowKit
theorem infoString_:(prog.info? 9).map (fun i=>(i.zero,i.size,i.bytes))=some (some (.string ⟨#[]⟩),1,16):=by kernel_rfl
set_option maxHeartbeats 1600000 in
theorem ZKW (A:Option Addr) (n c:Nat) (ds:List ByteArray) (L:List Nat) (w:World) (hn:n=ds.length) (hm:ds.length≤1099511627776) (h:Sli ZEr w A ds L):
  Calls prog 122 #[.slice A n c] w (ZLt ZEr 9 w ds):=by
 obtain ⟨i0,hi,hz0,hz1,hz2⟩:=info_parts infoString_
 rw [←hn] at hm
 have H:=Lib.hid h
 have HN:=Lib.hid hn
 clear h hn
 go_enter func122,ntmps122
 go_wp2_with (at_make;refine wpList_make_full _ rfl _ _ 43 rfl w.heap.size 9 i0 _ 1 underlying43 hi hz0 hz1 .i64 .i64 _ _ n rfl rfl rfl rfl (by rw [hz2];omega) (by unfold maxLen;omega) (A4 _) ?_;intro w1 hown hg)
 have hb:Below w.heap.size w w1:=(Below.refl _ _).grown hg (A4 _) (by simp)
 have HF0:Hid (X8 ZEr 9 w n ds 0 w1):=X8.start hown hb
 clear hown hg hb
 go_wp2
 go_loopw [4] (fun i wr=>∃(k:Nat),k≤n∧i=.int .i64 k∧Hid (X8 ZEr 9 w n ds k wr)) (fun i _=>n - (intOf i).toNat)
 case atStart=>exact ⟨0,A3 _,rfl,HF0⟩
 case round=>
  obtain ⟨k,hk,rfl,HF⟩:=hrel
  by_cases hlt:k<n
  ·have hkl:k<ds.length:=by have:=HN.out;omega
   obtain ⟨b,off,cs,Lk,rfl,hbL,hLk,hrep,hc⟩:=H.out.at_ hkl
   have hbl:b<w.heap.size:=H.out.lt b hbL
   have hrep0:=hrep
   obtain ⟨rfl,_,hss⟩:=hrep0
   have q0:=(HF.out.below.cell (p:=⟨b,off+(k * ZEr.size+0),none⟩) hbl).trans (hc 0 _ rfl)
   have HS:=Lib.hid (HF.out.store (w2:=wr) (x:=ds[k]) (M:=[]) hlt HN.out (fun _=>rfl) (Below.refl _ _) ⟨⟨rfl,rfl,hss⟩,Own.nil _ _⟩)
   obtain ⟨d0,e0⟩:=HF.out.cell hlt (j:=0) (by decide)
   have z0:=HF.out.frozen k
   simp only[show ZEr.size=1 from rfl,AA,A0] at q0 HS e0
   generalize ds[k]=x at *
   clear hc hrep
   go_wp2_with fail
   go_roundw
   case rel=>exact ⟨k+1,by omega,by go_num,HS.out⟩
   case measure=>simp [intOf];omega
  ·obtain rfl:k=n:=by omega
   go_wp2
   go_ret
   exact ⟨_,rfl,HF.out.done HN.out⟩
set_option maxHeartbeats 1600000 in
theorem ZMs (cs:List Value) (x:Zb) (L:List Nat) (w:World) (hz:ZgB x≤1048576) (h:ZJZ.rep w cs x L):
  Calls prog 52 #[.agg cs.toArray] w (ZLR ZJZ w x):=by
 obtain ⟨A1,c1,L1,rfl,_hL,t0,n1,m1,s1⟩:=h
 unfold maxLen at m1
 have S1:=Lib.hid s1
 clear s1
 simp only[ZgB] at hz
 go_enter func52,ntmps52
 go_wp2_with fail
 refine (ZKW A1 _ c1 x.args L1 _ rfl (by simp only[ZrM] at hz;omega) (S1.out.below (by repeat (first | refine Below.setCell ?_ (by dsimp only;omega) _ | refine Below.alloc ?_ (by first | (simp;done) | (simp;omega) | omega) _ | exact Below.refl _ _)))).mono ?_
 rintro e w1 ⟨v1,rfl,a1⟩
 obtain ⟨vA1,vc1,rfl⟩:=a1.shape
 have hb1:=a1.below
 obtain ⟨M1,g1⟩:=a1.got
 clear a1
 have G1:=Lib.hid (g1.mono (show w.heap.size+3≤_ by simp))
 have lt1:=Lib.hid g1.lt
 clear g1
 have B1:Hid (Below w.heap.size w w1):=Below.trans (by repeat (first | refine Below.setCell ?_ (by dsimp only;omega) _ | refine Below.alloc ?_ (by first | (simp;done) | (simp;omega) | omega) _ | exact Below.refl _ _)) (hb1.mono (by first | (simp;done) | (simp;omega) | omega))
 have K0:Hid (Blk w1 w.heap.size 86 #[.string x.rel,.slice A1 x.args.length c1]):=Blk.later (Blk.alloc (Blk.alloc (Blk.new _ _ _) _) _) hb1
 have K1:Hid (Blk w1 (w.heap.size+1) 45 #[.string ⟨#[]⟩,.slice none 0 0]):=Blk.later (Blk.alloc (Blk.new_at (by simp)) _) hb1
 have K2:Hid (Blk w1 (w.heap.size+1+1) 45 #[.string x.rel,.slice none 0 0]):=Blk.later (Blk.new_at (by simp)) hb1
 have f0:=K0.out.at (i:=0) rfl
 have r0:=K1.out.at (i:=0) rfl
 have o0:=K2.out.at (i:=0) rfl
 have rz0:=K1.out.frozen 0
 have oz0:=K2.out.frozen 0
 have f1:=K0.out.at (i:=1) rfl
 have r1:=K1.out.at (i:=1) rfl
 have o1:=K2.out.at (i:=1) rfl
 have rz1:=K1.out.frozen 1
 have oz1:=K2.out.frozen 1
 have hz1:w.heap.size+2<w1.heap.size:=by have:=hb1.size;simp at this;omega
 clear hb1
 go_wp2_with fail
 refine bodyPost_ret (v:=.agg #[.string x.rel,.slice vA1 x.args.length vc1]) (by simp [results,results52,go_sem,r0,r1]) rfl ?_
 obtain ⟨nn1,mm1,ss1⟩:=ZJB G1.out.rep
 exact ZKQ (wr:=w1) (M1) ⟨⟨vA1,vc1,M1,rfl,rfl,t0,nn1,mm1,ss1⟩,by have o:=G1.out.own;simpa only [AI] using o⟩ (by intro b hb;repeat rw [Below.heap_setCell _ _ _ _ (by dsimp only;omega)]) (by repeat (first | refine Below.setCell ?_ (by dsimp only;omega) _ | refine Below.alloc ?_ (by first | (simp;done) | (simp;omega) | omega) _ | exact B1.out))
theorem infoFact:(prog.info? 45).map (fun i=>(i.zero,i.size,i.bytes))=some (some (.agg #[.string ⟨#[]⟩,.slice none 0 0]),2,40):=by kernel_rfl
set_option maxHeartbeats 1600000 in
theorem ZKE (A:Option Addr) (n c:Nat) (ds:List Zb) (L:List Nat) (w:World) (hn:n=ds.length) (hz:Zc1 ds≤1048576) (h:Sli ZJZ w A ds L):
  Calls prog 35 #[.slice A n c] w (ZLt ZJZ 45 w ds):=by
 obtain ⟨i0,hi,hz0,hz1,hz2⟩:=info_parts infoFact
 have H:=Lib.hid h
 have HN:=Lib.hid hn
 have hm:n≤1048576:=by simp only[Zc1] at hz;omega
 have HZ:=Lib.hid hz
 clear h hn hz
 go_enter func35,ntmps35
 go_wp2_with (at_make;refine wpList_make_full _ rfl _ _ 25 rfl w.heap.size 45 i0 _ 2 underlying25 hi hz0 hz1 .i64 .i64 _ _ n rfl rfl rfl rfl (by rw [hz2];omega) (by unfold maxLen;omega) (A4 _) ?_;intro w1 hown hg)
 have hb:Below w.heap.size w w1:=(Below.refl _ _).grown hg (A4 _) (by simp)
 have HF0:Hid (X8 ZJZ 45 w n ds 0 w1):=X8.start hown hb
 clear hown hg hb
 go_wp2
 go_loopw [4] (fun i wr=>∃(k:Nat),k≤n∧i=.int .i64 k∧Hid (X8 ZJZ 45 w n ds k wr)) (fun i _=>n - (intOf i).toNat)
 case atStart=>exact ⟨0,A3 _,rfl,HF0⟩
 case round=>
  obtain ⟨k,hk,rfl,HF⟩:=hrel
  by_cases hlt:k<n
  ·have hkl:k<ds.length:=by have:=HN.out;omega
   obtain ⟨b,off,cs,Lk,rfl,hbL,hLk,hrep,hc⟩:=H.out.at_ hkl
   have hbl:b<w.heap.size:=H.out.lt b hbL
   have HR:=Lib.hid (ZJZ.keep hrep (ZdM HF.out.below (fun y m=>H.out.lt y (hLk y m))))
   obtain ⟨A1,c1,rfl⟩:=ZKl hrep
   have q0:wr.cell? ⟨b,off+k * 2,none⟩=_:=(HF.out.below.cell (p:=⟨b,off+(k * 2+0),none⟩) hbl).trans (hc 0 _ rfl)
   have q1:wr.cell? ⟨b,off+k * 2+1,none⟩=_:=(HF.out.below.cell (p:=⟨b,off+(k * 2+1),none⟩) hbl).trans (hc 1 _ rfl)
   have hcx:Hid (ZgB ds[k]≤1048576):=ZLp ZgB ds k hkl (by have:=HZ.out;simp only[Zc1] at this;omega)
   obtain ⟨x,hx⟩:∃x,x=ds[k]:=⟨_,rfl⟩
   have HX:=Lib.hid hx
   rw [←hx] at HR q0 q1 hcx
   clear hc hrep hx
   go_wp2_with fail
   refine (ZMs _ x Lk _ hcx.out HR.out).mono ?_
   rintro e w2 ⟨cs2,M2,rfl,g2,hb2⟩
   have HF2:=Lib.hid (HF.out.later hb2)
   have HS:=Lib.hid (HF.out.store hlt HN.out (fun _=>HX.out) hb2 g2)
   obtain ⟨vA1,vc1,rfl⟩:=ZKl g2.rep
   clear g2 hb2
   obtain ⟨d0,e0⟩:∃d,w2.cell? ⟨w.heap.size,k * 2,none⟩=some d:=HF2.out.cell hlt (j:=0) (by decide)
   have z0:=HF2.out.frozen (k * 2)
   obtain ⟨d1,e1⟩:∃d,w2.cell? ⟨w.heap.size,k * 2+1,none⟩=some d:=HF2.out.cell hlt (j:=1) (by decide)
   have z1:=HF2.out.frozen (k * 2+1)
   go_wp2_with fail
   go_roundw
   case rel=>exact ⟨k+1,by omega,by go_num,HS.out⟩
   case measure=>simp [intOf];omega
  ·obtain rfl:k=n:=by omega
   go_wp2
   go_ret
   exact ⟨_,rfl,HF.out.done HN.out⟩
set_option maxHeartbeats 1600000 in
theorem ZKT (cs:List Value) (x:Zv) (L:List Nat) (w:World) (hz:ZJH x≤1048576) (h:ZKv.rep w cs x L):
  Calls prog 272 #[.agg cs.toArray] w (ZLR ZKv w x):=by
 obtain ⟨A1,c1,L1,rfl,_hL,t0,n1,m1,s1⟩:=h
 unfold maxLen at m1
 have S1:=Lib.hid s1
 clear s1
 simp only[ZJH] at hz
 go_enter func272,ntmps272
 go_wp2_with fail
 refine (ZKW A1 _ c1 x.args L1 _ rfl (by simp only[ZrM] at hz;omega) (S1.out.below (by repeat (first | refine Below.setCell ?_ (by dsimp only;omega) _ | refine Below.alloc ?_ (by first | (simp;done) | (simp;omega) | omega) _ | exact Below.refl _ _)))).mono ?_
 rintro e w1 ⟨v1,rfl,a1⟩
 obtain ⟨vA1,vc1,rfl⟩:=a1.shape
 have hb1:=a1.below
 obtain ⟨M1,g1⟩:=a1.got
 clear a1
 have G1:=Lib.hid (g1.mono (show w.heap.size+3≤_ by simp))
 have lt1:=Lib.hid g1.lt
 clear g1
 have B1:Hid (Below w.heap.size w w1):=Below.trans (by repeat (first | refine Below.setCell ?_ (by dsimp only;omega) _ | refine Below.alloc ?_ (by first | (simp;done) | (simp;omega) | omega) _ | exact Below.refl _ _)) (hb1.mono (by first | (simp;done) | (simp;omega) | omega))
 have K0:Hid (Blk w1 w.heap.size 226 #[.string x.rel,.slice A1 x.args.length c1]):=Blk.later (Blk.alloc (Blk.alloc (Blk.new _ _ _) _) _) hb1
 have K1:Hid (Blk w1 (w.heap.size+1) 48 #[.string ⟨#[]⟩,.slice none 0 0]):=Blk.later (Blk.alloc (Blk.new_at (by simp)) _) hb1
 have K2:Hid (Blk w1 (w.heap.size+1+1) 48 #[.string x.rel,.slice none 0 0]):=Blk.later (Blk.new_at (by simp)) hb1
 have f0:=K0.out.at (i:=0) rfl
 have r0:=K1.out.at (i:=0) rfl
 have o0:=K2.out.at (i:=0) rfl
 have rz0:=K1.out.frozen 0
 have oz0:=K2.out.frozen 0
 have f1:=K0.out.at (i:=1) rfl
 have r1:=K1.out.at (i:=1) rfl
 have o1:=K2.out.at (i:=1) rfl
 have rz1:=K1.out.frozen 1
 have oz1:=K2.out.frozen 1
 have hz1:w.heap.size+2<w1.heap.size:=by have:=hb1.size;simp at this;omega
 clear hb1
 go_wp2_with fail
 refine bodyPost_ret (v:=.agg #[.string x.rel,.slice vA1 x.args.length vc1]) (by simp [results,results272,go_sem,r0,r1]) rfl ?_
 obtain ⟨nn1,mm1,ss1⟩:=ZJB G1.out.rep
 exact ZKQ (wr:=w1) (M1) ⟨⟨vA1,vc1,M1,rfl,rfl,t0,nn1,mm1,ss1⟩,by have o:=G1.out.own;simpa only [AI] using o⟩ (by intro b hb;repeat rw [Below.heap_setCell _ _ _ _ (by dsimp only;omega)]) (by repeat (first | refine Below.setCell ?_ (by dsimp only;omega) _ | refine Below.alloc ?_ (by first | (simp;done) | (simp;omega) | omega) _ | exact B1.out))
set_option maxHeartbeats 1600000 in
theorem ZMu (cs:List Value) (x:Zt) (L:List Nat) (w:World) (hz:ZJY x≤1048576) (h:ZKb.rep w cs x L):
  Calls prog 228 #[.agg cs.toArray] w (ZLR ZKb w x):=by
 obtain ⟨A1,c1,L1,rfl,_hL,t0,t1,t2,n1,m1,s1⟩:=h
 unfold maxLen at m1
 have S1:=Lib.hid s1
 clear s1
 simp only[ZJY] at hz
 go_enter func228,ntmps228
 go_wp2_with fail
 refine (ZKT [.string x.pattern.rel,.slice A1 x.pattern.args.length c1] x.pattern _ _ (by omega) ⟨A1,c1,L1,rfl,rfl,t0,n1,(by unfold maxLen;omega),S1.out.below (by repeat (first | refine Below.setCell ?_ (by dsimp only;omega) _ | refine Below.alloc ?_ (by first | (simp;done) | (simp;omega) | omega) _ | exact Below.refl _ _))⟩).mono ?_
 rintro e w1 ⟨cs1,M1,rfl,g1,hb1⟩
 obtain ⟨vA1,vc1,rfl⟩:=ZKN g1.rep
 have G1:=Lib.hid (g1.mono (show w.heap.size+3≤_ by simp))
 have lt1:=Lib.hid g1.lt
 clear g1
 have B1:Hid (Below w.heap.size w w1):=Below.trans (by repeat (first | refine Below.setCell ?_ (by dsimp only;omega) _ | refine Below.alloc ?_ (by first | (simp;done) | (simp;omega) | omega) _ | exact Below.refl _ _)) (hb1.mono (by first | (simp;done) | (simp;omega) | omega))
 have K0:Hid (Blk w1 w.heap.size 228 #[.int .i64 x.kind,.string x.pattern.rel,.slice A1 x.pattern.args.length c1,.string x.left,.string x.right]):=Blk.later (Blk.alloc (Blk.alloc (Blk.new _ _ _) _) _) hb1
 have K1:Hid (Blk w1 (w.heap.size+1) 173 #[.int .i64 0,.string ⟨#[]⟩,.slice none 0 0,.string ⟨#[]⟩,.string ⟨#[]⟩]):=Blk.later (Blk.alloc (Blk.new_at (by simp)) _) hb1
 have K2:Hid (Blk w1 (w.heap.size+1+1) 173 #[.int .i64 x.kind,.string ⟨#[]⟩,.slice none 0 0,.string ⟨#[]⟩,.string ⟨#[]⟩]):=Blk.later (Blk.new_at (by simp)) hb1
 have f0:=K0.out.at (i:=0) rfl
 have r0:=K1.out.at (i:=0) rfl
 have o0:=K2.out.at (i:=0) rfl
 have rz0:=K1.out.frozen 0
 have oz0:=K2.out.frozen 0
 have f1:=K0.out.at (i:=1) rfl
 have r1:=K1.out.at (i:=1) rfl
 have o1:=K2.out.at (i:=1) rfl
 have rz1:=K1.out.frozen 1
 have oz1:=K2.out.frozen 1
 have f2:=K0.out.at (i:=2) rfl
 have r2:=K1.out.at (i:=2) rfl
 have o2:=K2.out.at (i:=2) rfl
 have rz2:=K1.out.frozen 2
 have oz2:=K2.out.frozen 2
 have f3:=K0.out.at (i:=3) rfl
 have r3:=K1.out.at (i:=3) rfl
 have o3:=K2.out.at (i:=3) rfl
 have rz3:=K1.out.frozen 3
 have oz3:=K2.out.frozen 3
 have f4:=K0.out.at (i:=4) rfl
 have r4:=K1.out.at (i:=4) rfl
 have o4:=K2.out.at (i:=4) rfl
 have rz4:=K1.out.frozen 4
 have oz4:=K2.out.frozen 4
 have hz1:w.heap.size+2<w1.heap.size:=by have:=hb1.size;simp at this;omega
 clear hb1
 go_wp2_with fail
 refine bodyPost_ret (v:=.agg #[.int .i64 x.kind,.string x.pattern.rel,.slice vA1 x.pattern.args.length vc1,.string x.left,.string x.right]) (by simp [results,results228,go_sem,r0,r1,r2,r3,r4]) rfl ?_
 obtain ⟨_,_,N1,hcs1,hL1,_,nn1,mm1,ss1⟩:=G1.out.rep
 cases hcs1
 subst hL1
 exact ZKQ (wr:=w1) (M1) ⟨⟨vA1,vc1,M1,rfl,rfl,t0,t1,t2,nn1,mm1,ss1⟩,by have o:=G1.out.own;simpa only [AI] using o⟩ (by intro b hb;repeat rw [Below.heap_setCell _ _ _ _ (by dsimp only;omega)]) (by repeat (first | refine Below.setCell ?_ (by dsimp only;omega) _ | refine Below.alloc ?_ (by first | (simp;done) | (simp;omega) | omega) _ | exact B1.out))
theorem infoCond:(prog.info? 173).map (fun i=>(i.zero,i.size,i.bytes))=some (some (.agg #[.int .i64 0,.string ⟨#[]⟩,.slice none 0 0,.string ⟨#[]⟩,.string ⟨#[]⟩]),5,80):=by kernel_rfl
set_option maxHeartbeats 1600000 in
theorem ZMe (A:Option Addr) (n c:Nat) (ds:List Zt) (L:List Nat) (w:World) (hn:n=ds.length) (hz:ZJR ds≤1048576) (h:Sli ZKb w A ds L):
  Calls prog 160 #[.slice A n c] w (ZLt ZKb 173 w ds):=by
 obtain ⟨i0,hi,hz0,hz1,hz2⟩:=info_parts infoCond
 have H:=Lib.hid h
 have HN:=Lib.hid hn
 have hm:n≤1048576:=by simp only[ZJR] at hz;omega
 have HZ:=Lib.hid hz
 clear h hn hz
 go_enter func160,ntmps160
 go_wp2_with (at_make;refine wpList_make_full _ rfl _ _ 39 rfl w.heap.size 173 i0 _ 5 underlying39 hi hz0 hz1 .i64 .i64 _ _ n rfl rfl rfl rfl (by rw [hz2];omega) (by unfold maxLen;omega) (A4 _) ?_;intro w1 hown hg)
 have hb:Below w.heap.size w w1:=(Below.refl _ _).grown hg (A4 _) (by simp)
 have HF0:Hid (X8 ZKb 173 w n ds 0 w1):=X8.start hown hb
 clear hown hg hb
 go_wp2
 go_loopw [4] (fun i wr=>∃(k:Nat),k≤n∧i=.int .i64 k∧Hid (X8 ZKb 173 w n ds k wr)) (fun i _=>n - (intOf i).toNat)
 case atStart=>exact ⟨0,A3 _,rfl,HF0⟩
 case round=>
  obtain ⟨k,hk,rfl,HF⟩:=hrel
  by_cases hlt:k<n
  ·have hkl:k<ds.length:=by have:=HN.out;omega
   obtain ⟨b,off,cs,Lk,rfl,hbL,hLk,hrep,hc⟩:=H.out.at_ hkl
   have hbl:b<w.heap.size:=H.out.lt b hbL
   have HR:=Lib.hid (ZKb.keep hrep (ZdM HF.out.below (fun y m=>H.out.lt y (hLk y m))))
   obtain ⟨A1,c1,rfl⟩:=ZKn hrep
   have q0:wr.cell? ⟨b,off+k * 5,none⟩=_:=(HF.out.below.cell (p:=⟨b,off+(k * 5+0),none⟩) hbl).trans (hc 0 _ rfl)
   have q1:wr.cell? ⟨b,off+k * 5+1,none⟩=_:=(HF.out.below.cell (p:=⟨b,off+(k * 5+1),none⟩) hbl).trans (hc 1 _ rfl)
   have q2:wr.cell? ⟨b,off+k * 5+2,none⟩=_:=(HF.out.below.cell (p:=⟨b,off+(k * 5+2),none⟩) hbl).trans (hc 2 _ rfl)
   have q3:wr.cell? ⟨b,off+k * 5+3,none⟩=_:=(HF.out.below.cell (p:=⟨b,off+(k * 5+3),none⟩) hbl).trans (hc 3 _ rfl)
   have q4:wr.cell? ⟨b,off+k * 5+4,none⟩=_:=(HF.out.below.cell (p:=⟨b,off+(k * 5+4),none⟩) hbl).trans (hc 4 _ rfl)
   have hcx:Hid (ZJY ds[k]≤1048576):=ZLp ZJY ds k hkl (by have:=HZ.out;simp only[ZJR] at this;omega)
   obtain ⟨x,hx⟩:∃x,x=ds[k]:=⟨_,rfl⟩
   have HX:=Lib.hid hx
   rw [←hx] at HR q0 q1 q2 q3 q4 hcx
   clear hc hrep hx
   go_wp2_with fail
   refine (ZMu _ x Lk _ hcx.out HR.out).mono ?_
   rintro e w2 ⟨cs2,M2,rfl,g2,hb2⟩
   have HF2:=Lib.hid (HF.out.later hb2)
   have HS:=Lib.hid (HF.out.store hlt HN.out (fun _=>HX.out) hb2 g2)
   obtain ⟨vA1,vc1,rfl⟩:=ZKn g2.rep
   clear g2 hb2
   obtain ⟨d0,e0⟩:∃d,w2.cell? ⟨w.heap.size,k * 5,none⟩=some d:=HF2.out.cell hlt (j:=0) (by decide)
   have z0:=HF2.out.frozen (k * 5)
   obtain ⟨d1,e1⟩:∃d,w2.cell? ⟨w.heap.size,k * 5+1,none⟩=some d:=HF2.out.cell hlt (j:=1) (by decide)
   have z1:=HF2.out.frozen (k * 5+1)
   obtain ⟨d2,e2⟩:∃d,w2.cell? ⟨w.heap.size,k * 5+2,none⟩=some d:=HF2.out.cell hlt (j:=2) (by decide)
   have z2:=HF2.out.frozen (k * 5+2)
   obtain ⟨d3,e3⟩:∃d,w2.cell? ⟨w.heap.size,k * 5+3,none⟩=some d:=HF2.out.cell hlt (j:=3) (by decide)
   have z3:=HF2.out.frozen (k * 5+3)
   obtain ⟨d4,e4⟩:∃d,w2.cell? ⟨w.heap.size,k * 5+4,none⟩=some d:=HF2.out.cell hlt (j:=4) (by decide)
   have z4:=HF2.out.frozen (k * 5+4)
   go_wp2_with fail
   go_roundw
   case rel=>exact ⟨k+1,by omega,by go_num,HS.out⟩
   case measure=>simp [intOf];omega
  ·obtain rfl:k=n:=by omega
   go_wp2
   go_ret
   exact ⟨_,rfl,HF.out.done HN.out⟩
set_option maxHeartbeats 1600000 in
theorem ZLX (cs:List Value) (x:Zz) (L:List Nat) (w:World) (hz:ZJN x≤1048576) (h:ZJM.rep w cs x L):
  Calls prog 229 #[.agg cs.toArray] w (ZLR ZJM w x):=by
 obtain ⟨A1,c1,L1,rfl,_hL,t0,n1,m1,s1⟩:=h
 unfold maxLen at m1
 have S1:=Lib.hid s1
 clear s1
 simp only[ZJN] at hz
 go_enter func229,ntmps229
 go_wp2_with fail
 refine (ZKT [.string x.pattern.rel,.slice A1 x.pattern.args.length c1] x.pattern _ _ (by omega) ⟨A1,c1,L1,rfl,rfl,t0,n1,(by unfold maxLen;omega),S1.out.below (by repeat (first | refine Below.setCell ?_ (by dsimp only;omega) _ | refine Below.alloc ?_ (by first | (simp;done) | (simp;omega) | omega) _ | exact Below.refl _ _))⟩).mono ?_
 rintro e w1 ⟨cs1,M1,rfl,g1,hb1⟩
 obtain ⟨vA1,vc1,rfl⟩:=ZKN g1.rep
 have G1:=Lib.hid (g1.mono (show w.heap.size+3≤_ by simp))
 have lt1:=Lib.hid g1.lt
 clear g1
 have B1:Hid (Below w.heap.size w w1):=Below.trans (by repeat (first | refine Below.setCell ?_ (by dsimp only;omega) _ | refine Below.alloc ?_ (by first | (simp;done) | (simp;omega) | omega) _ | exact Below.refl _ _)) (hb1.mono (by first | (simp;done) | (simp;omega) | omega))
 have K0:Hid (Blk w1 w.heap.size 231 #[.int .i64 x.kind,.string x.pattern.rel,.slice A1 x.pattern.args.length c1]):=Blk.later (Blk.alloc (Blk.alloc (Blk.new _ _ _) _) _) hb1
 have K1:Hid (Blk w1 (w.heap.size+1) 50 #[.int .i64 0,.string ⟨#[]⟩,.slice none 0 0]):=Blk.later (Blk.alloc (Blk.new_at (by simp)) _) hb1
 have K2:Hid (Blk w1 (w.heap.size+1+1) 50 #[.int .i64 x.kind,.string ⟨#[]⟩,.slice none 0 0]):=Blk.later (Blk.new_at (by simp)) hb1
 have f0:=K0.out.at (i:=0) rfl
 have r0:=K1.out.at (i:=0) rfl
 have o0:=K2.out.at (i:=0) rfl
 have rz0:=K1.out.frozen 0
 have oz0:=K2.out.frozen 0
 have f1:=K0.out.at (i:=1) rfl
 have r1:=K1.out.at (i:=1) rfl
 have o1:=K2.out.at (i:=1) rfl
 have rz1:=K1.out.frozen 1
 have oz1:=K2.out.frozen 1
 have f2:=K0.out.at (i:=2) rfl
 have r2:=K1.out.at (i:=2) rfl
 have o2:=K2.out.at (i:=2) rfl
 have rz2:=K1.out.frozen 2
 have oz2:=K2.out.frozen 2
 have hz1:w.heap.size+2<w1.heap.size:=by have:=hb1.size;simp at this;omega
 clear hb1
 go_wp2_with fail
 refine bodyPost_ret (v:=.agg #[.int .i64 x.kind,.string x.pattern.rel,.slice vA1 x.pattern.args.length vc1]) (by simp [results,results229,go_sem,r0,r1,r2]) rfl ?_
 obtain ⟨_,_,N1,hcs1,hL1,_,nn1,mm1,ss1⟩:=G1.out.rep
 cases hcs1
 subst hL1
 exact ZKQ (wr:=w1) (M1) ⟨⟨vA1,vc1,M1,rfl,rfl,t0,nn1,mm1,ss1⟩,by have o:=G1.out.own;simpa only [AI] using o⟩ (by intro b hb;repeat rw [Below.heap_setCell _ _ _ _ (by dsimp only;omega)]) (by repeat (first | refine Below.setCell ?_ (by dsimp only;omega) _ | refine Below.alloc ?_ (by first | (simp;done) | (simp;omega) | omega) _ | exact B1.out))
theorem infoAction:(prog.info? 50).map (fun i=>(i.zero,i.size,i.bytes))=some (some (.agg #[.int .i64 0,.string ⟨#[]⟩,.slice none 0 0]),3,48):=by kernel_rfl
set_option maxHeartbeats 1600000 in
theorem ZLH (A:Option Addr) (n c:Nat) (ds:List Zz) (L:List Nat) (w:World) (hn:n=ds.length) (hz:ZJJ ds≤1048576) (h:Sli ZJM w A ds L):
  Calls prog 161 #[.slice A n c] w (ZLt ZJM 50 w ds):=by
 obtain ⟨i0,hi,hz0,hz1,hz2⟩:=info_parts infoAction
 have H:=Lib.hid h
 have HN:=Lib.hid hn
 have hm:n≤1048576:=by simp only[ZJJ] at hz;omega
 have HZ:=Lib.hid hz
 clear h hn hz
 go_enter func161,ntmps161
 go_wp2_with (at_make;refine wpList_make_full _ rfl _ _ 40 rfl w.heap.size 50 i0 _ 3 underlying40 hi hz0 hz1 .i64 .i64 _ _ n rfl rfl rfl rfl (by rw [hz2];omega) (by unfold maxLen;omega) (A4 _) ?_;intro w1 hown hg)
 have hb:Below w.heap.size w w1:=(Below.refl _ _).grown hg (A4 _) (by simp)
 have HF0:Hid (X8 ZJM 50 w n ds 0 w1):=X8.start hown hb
 clear hown hg hb
 go_wp2
 go_loopw [4] (fun i wr=>∃(k:Nat),k≤n∧i=.int .i64 k∧Hid (X8 ZJM 50 w n ds k wr)) (fun i _=>n - (intOf i).toNat)
 case atStart=>exact ⟨0,A3 _,rfl,HF0⟩
 case round=>
  obtain ⟨k,hk,rfl,HF⟩:=hrel
  by_cases hlt:k<n
  ·have hkl:k<ds.length:=by have:=HN.out;omega
   obtain ⟨b,off,cs,Lk,rfl,hbL,hLk,hrep,hc⟩:=H.out.at_ hkl
   have hbl:b<w.heap.size:=H.out.lt b hbL
   have HR:=Lib.hid (ZJM.keep hrep (ZdM HF.out.below (fun y m=>H.out.lt y (hLk y m))))
   obtain ⟨A1,c1,rfl⟩:=ZKg hrep
   have q0:wr.cell? ⟨b,off+k * 3,none⟩=_:=(HF.out.below.cell (p:=⟨b,off+(k * 3+0),none⟩) hbl).trans (hc 0 _ rfl)
   have q1:wr.cell? ⟨b,off+k * 3+1,none⟩=_:=(HF.out.below.cell (p:=⟨b,off+(k * 3+1),none⟩) hbl).trans (hc 1 _ rfl)
   have q2:wr.cell? ⟨b,off+k * 3+2,none⟩=_:=(HF.out.below.cell (p:=⟨b,off+(k * 3+2),none⟩) hbl).trans (hc 2 _ rfl)
   have hcx:Hid (ZJN ds[k]≤1048576):=ZLp ZJN ds k hkl (by have:=HZ.out;simp only[ZJJ] at this;omega)
   obtain ⟨x,hx⟩:∃x,x=ds[k]:=⟨_,rfl⟩
   have HX:=Lib.hid hx
   rw [←hx] at HR q0 q1 q2 hcx
   clear hc hrep hx
   go_wp2_with fail
   refine (ZLX _ x Lk _ hcx.out HR.out).mono ?_
   rintro e w2 ⟨cs2,M2,rfl,g2,hb2⟩
   have HF2:=Lib.hid (HF.out.later hb2)
   have HS:=Lib.hid (HF.out.store hlt HN.out (fun _=>HX.out) hb2 g2)
   obtain ⟨vA1,vc1,rfl⟩:=ZKg g2.rep
   clear g2 hb2
   obtain ⟨d0,e0⟩:∃d,w2.cell? ⟨w.heap.size,k * 3,none⟩=some d:=HF2.out.cell hlt (j:=0) (by decide)
   have z0:=HF2.out.frozen (k * 3)
   obtain ⟨d1,e1⟩:∃d,w2.cell? ⟨w.heap.size,k * 3+1,none⟩=some d:=HF2.out.cell hlt (j:=1) (by decide)
   have z1:=HF2.out.frozen (k * 3+1)
   obtain ⟨d2,e2⟩:∃d,w2.cell? ⟨w.heap.size,k * 3+2,none⟩=some d:=HF2.out.cell hlt (j:=2) (by decide)
   have z2:=HF2.out.frozen (k * 3+2)
   go_wp2_with fail
   go_roundw
   case rel=>exact ⟨k+1,by omega,by go_num,HS.out⟩
   case measure=>simp [intOf];omega
  ·obtain rfl:k=n:=by omega
   go_wp2
   go_ret
   exact ⟨_,rfl,HF.out.done HN.out⟩
set_option maxHeartbeats 1600000 in
theorem ZMq (cs:List Value) (x:Zg) (L:List Nat) (w:World) (hz:ZJO x≤1048576) (h:ZKa.rep w cs x L):
  Calls prog 93 #[.agg cs.toArray] w (ZLR ZKa w x):=by
 obtain ⟨A1,c1,L1,A2,c2,L2,rfl,_hL,t0,n1,m1,s1,n2,m2,s2⟩:=h
 unfold maxLen at m1 m2
 have S1:=Lib.hid s1
 clear s1
 have S2:=Lib.hid s2
 clear s2
 simp only[ZJO] at hz
 go_enter func93,ntmps93
 go_wp2_with fail
 refine (ZMe A1 _ c1 x.cond L1 _ rfl (by omega) (S1.out.below (by repeat (first | refine Below.setCell ?_ (by dsimp only;omega) _ | refine Below.alloc ?_ (by first | (simp;done) | (simp;omega) | omega) _ | exact Below.refl _ _)))).mono ?_
 rintro e w1 ⟨v1,rfl,a1⟩
 obtain ⟨vA1,vc1,rfl⟩:=a1.shape
 have hb1:=a1.below
 obtain ⟨M1,g1⟩:=a1.got
 clear a1
 have G1:=Lib.hid (g1.mono (show w.heap.size+3≤_ by simp))
 have lt1:=Lib.hid g1.lt
 clear g1
 have B1:Hid (Below w.heap.size w w1):=Below.trans (by repeat (first | refine Below.setCell ?_ (by dsimp only;omega) _ | refine Below.alloc ?_ (by first | (simp;done) | (simp;omega) | omega) _ | exact Below.refl _ _)) (hb1.mono (by first | (simp;done) | (simp;omega) | omega))
 have K0:Hid (Blk w1 w.heap.size 126 #[.string x.name,.int .i64 x.priority,.slice A1 x.cond.length c1,.slice A2 x.thn.length c2]):=Blk.later (Blk.alloc (Blk.alloc (Blk.new _ _ _) _) _) hb1
 have K1:Hid (Blk w1 (w.heap.size+1) 42 #[.string ⟨#[]⟩,.int .i64 0,.slice none 0 0,.slice none 0 0]):=Blk.later (Blk.alloc (Blk.new_at (by simp)) _) hb1
 have K2:Hid (Blk w1 (w.heap.size+1+1) 42 #[.string x.name,.int .i64 x.priority,.slice none 0 0,.slice none 0 0]):=Blk.later (Blk.new_at (by simp)) hb1
 have f0:=K0.out.at (i:=0) rfl
 have r0:=K1.out.at (i:=0) rfl
 have o0:=K2.out.at (i:=0) rfl
 have rz0:=K1.out.frozen 0
 have oz0:=K2.out.frozen 0
 have f1:=K0.out.at (i:=1) rfl
 have r1:=K1.out.at (i:=1) rfl
 have o1:=K2.out.at (i:=1) rfl
 have rz1:=K1.out.frozen 1
 have oz1:=K2.out.frozen 1
 have f2:=K0.out.at (i:=2) rfl
 have r2:=K1.out.at (i:=2) rfl
 have o2:=K2.out.at (i:=2) rfl
 have rz2:=K1.out.frozen 2
 have oz2:=K2.out.frozen 2
 have f3:=K0.out.at (i:=3) rfl
 have r3:=K1.out.at (i:=3) rfl
 have o3:=K2.out.at (i:=3) rfl
 have rz3:=K1.out.frozen 3
 have oz3:=K2.out.frozen 3
 have hz1:w.heap.size+2<w1.heap.size:=by have:=hb1.size;simp at this;omega
 clear hb1
 go_wp2_with fail
 refine (ZLH A2 _ c2 x.thn L2 _ rfl (by omega) (S2.out.below (by repeat (first | refine Below.setCell ?_ (by dsimp only;omega) _ | refine Below.alloc ?_ (by first | (simp;done) | (simp;omega) | omega) _ | exact B1.out)))).mono ?_
 rintro e w2 ⟨v2,rfl,a2⟩
 obtain ⟨vA2,vc2,rfl⟩:=a2.shape
 have hb2:=a2.below
 obtain ⟨M2,g2⟩:=a2.got
 clear a2
 have G2:=Lib.hid (g2.mono (show w1.heap.size≤_ by simp))
 have lt2:=Lib.hid g2.lt
 clear g2
 have B2:Hid (Below w.heap.size w w2):=Below.trans (by repeat (first | refine Below.setCell ?_ (by dsimp only;omega) _ | refine Below.alloc ?_ (by first | (simp;done) | (simp;omega) | omega) _ | exact B1.out)) (hb2.mono (by first | (simp;done) | (simp;omega) | omega))
 have G1:Hid (Got (ZlE ZKb) (w.heap.size+3) [.slice vA1 x.cond.length vc1] x.cond M1 w2):=Got.later (by repeat (first | refine Got.setCell ?_ (by dsimp only;omega) _ | exact G1.out)) hb2
 have K0:=Lib.hid (Blk.later (Blk.far K0.out (by dsimp only;omega) _) hb2)
 have K1:=Lib.hid (Blk.later (Blk.far K1.out (by dsimp only;omega) _) hb2)
 have K2:=Lib.hid (Blk.later (Blk.set_ K2.out 2 _) hb2)
 clear f0 r0 o0 rz0 oz0 f1 r1 o1 rz1 oz1 f2 r2 o2 rz2 oz2 f3 r3 o3 rz3 oz3
 have f0:=K0.out.at (i:=0) rfl
 have r0:=K1.out.at (i:=0) rfl
 have o0:=K2.out.at (i:=0) rfl
 have rz0:=K1.out.frozen 0
 have oz0:=K2.out.frozen 0
 have f1:=K0.out.at (i:=1) rfl
 have r1:=K1.out.at (i:=1) rfl
 have o1:=K2.out.at (i:=1) rfl
 have rz1:=K1.out.frozen 1
 have oz1:=K2.out.frozen 1
 have f2:=K0.out.at (i:=2) rfl
 have r2:=K1.out.at (i:=2) rfl
 have o2:=K2.out.at (i:=2) rfl
 have rz2:=K1.out.frozen 2
 have oz2:=K2.out.frozen 2
 have f3:=K0.out.at (i:=3) rfl
 have r3:=K1.out.at (i:=3) rfl
 have o3:=K2.out.at (i:=3) rfl
 have rz3:=K1.out.frozen 3
 have oz3:=K2.out.frozen 3
 have hz2:w.heap.size+2<w2.heap.size:=by have:=hb2.size;simp at this;omega
 have hy2:w1.heap.size≤w2.heap.size:=by have:=hb2.size;simp at this;omega
 clear hb2
 go_wp2_with fail
 refine bodyPost_ret (v:=.agg #[.string x.name,.int .i64 x.priority,.slice vA1 x.cond.length vc1,.slice vA2 x.thn.length vc2]) (by simp [results,results93,go_sem,r0,r1,r2,r3]) rfl ?_
 obtain ⟨nn1,mm1,ss1⟩:=ZJB G1.out.rep
 obtain ⟨nn2,mm2,ss2⟩:=ZJB G2.out.rep
 exact ZKQ (wr:=w2) (M1++M2) ⟨⟨vA1,vc1,M1,vA2,vc2,M2,rfl,rfl,t0,nn1,mm1,ss1,nn2,mm2,ss2⟩,by have o:=(Own.append G1.out.own G2.out.own (by omega) lt1.out);simpa only [AI] using o⟩ (by intro b hb;repeat rw [Below.heap_setCell _ _ _ _ (by dsimp only;omega)]) (by repeat (first | refine Below.setCell ?_ (by dsimp only;omega) _ | refine Below.alloc ?_ (by first | (simp;done) | (simp;omega) | omega) _ | exact B2.out))
theorem infoRule:(prog.info? 42).map (fun i=>(i.zero,i.size,i.bytes))=some (some (.agg #[.string ⟨#[]⟩,.int .i64 0,.slice none 0 0,.slice none 0 0]),4,72):=by kernel_rfl
set_option maxHeartbeats 1600000 in
theorem ZKB (A:Option Addr) (n c:Nat) (ds:List Zg) (L:List Nat) (w:World) (hn:n=ds.length) (hz:ZJL ds≤1048576) (h:Sli ZKa w A ds L):
  Calls prog 34 #[.slice A n c] w (ZLt ZKa 42 w ds):=by
 obtain ⟨i0,hi,hz0,hz1,hz2⟩:=info_parts infoRule
 have H:=Lib.hid h
 have HN:=Lib.hid hn
 have hm:n≤1048576:=by simp only[ZJL] at hz;omega
 have HZ:=Lib.hid hz
 clear h hn hz
 go_enter func34,ntmps34
 go_wp2_with (at_make;refine wpList_make_full _ rfl _ _ 24 rfl w.heap.size 42 i0 _ 4 underlying24 hi hz0 hz1 .i64 .i64 _ _ n rfl rfl rfl rfl (by rw [hz2];omega) (by unfold maxLen;omega) (A4 _) ?_;intro w1 hown hg)
 have hb:Below w.heap.size w w1:=(Below.refl _ _).grown hg (A4 _) (by simp)
 have HF0:Hid (X8 ZKa 42 w n ds 0 w1):=X8.start hown hb
 clear hown hg hb
 go_wp2
 go_loopw [4] (fun i wr=>∃(k:Nat),k≤n∧i=.int .i64 k∧Hid (X8 ZKa 42 w n ds k wr)) (fun i _=>n - (intOf i).toNat)
 case atStart=>exact ⟨0,A3 _,rfl,HF0⟩
 case round=>
  obtain ⟨k,hk,rfl,HF⟩:=hrel
  by_cases hlt:k<n
  ·have hkl:k<ds.length:=by have:=HN.out;omega
   obtain ⟨b,off,cs,Lk,rfl,hbL,hLk,hrep,hc⟩:=H.out.at_ hkl
   have hbl:b<w.heap.size:=H.out.lt b hbL
   have HR:=Lib.hid (ZKa.keep hrep (ZdM HF.out.below (fun y m=>H.out.lt y (hLk y m))))
   obtain ⟨A1,c1,A2,c2,rfl⟩:=ZKm hrep
   have q0:wr.cell? ⟨b,off+k * 4,none⟩=_:=(HF.out.below.cell (p:=⟨b,off+(k * 4+0),none⟩) hbl).trans (hc 0 _ rfl)
   have q1:wr.cell? ⟨b,off+k * 4+1,none⟩=_:=(HF.out.below.cell (p:=⟨b,off+(k * 4+1),none⟩) hbl).trans (hc 1 _ rfl)
   have q2:wr.cell? ⟨b,off+k * 4+2,none⟩=_:=(HF.out.below.cell (p:=⟨b,off+(k * 4+2),none⟩) hbl).trans (hc 2 _ rfl)
   have q3:wr.cell? ⟨b,off+k * 4+3,none⟩=_:=(HF.out.below.cell (p:=⟨b,off+(k * 4+3),none⟩) hbl).trans (hc 3 _ rfl)
   have hcx:Hid (ZJO ds[k]≤1048576):=ZLp ZJO ds k hkl (by have:=HZ.out;simp only[ZJL] at this;omega)
   obtain ⟨x,hx⟩:∃x,x=ds[k]:=⟨_,rfl⟩
   have HX:=Lib.hid hx
   rw [←hx] at HR q0 q1 q2 q3 hcx
   clear hc hrep hx
   go_wp2_with fail
   refine (ZMq _ x Lk _ hcx.out HR.out).mono ?_
   rintro e w2 ⟨cs2,M2,rfl,g2,hb2⟩
   have HF2:=Lib.hid (HF.out.later hb2)
   have HS:=Lib.hid (HF.out.store hlt HN.out (fun _=>HX.out) hb2 g2)
   obtain ⟨vA1,vc1,vA2,vc2,rfl⟩:=ZKm g2.rep
   clear g2 hb2
   obtain ⟨d0,e0⟩:∃d,w2.cell? ⟨w.heap.size,k * 4,none⟩=some d:=HF2.out.cell hlt (j:=0) (by decide)
   have z0:=HF2.out.frozen (k * 4)
   obtain ⟨d1,e1⟩:∃d,w2.cell? ⟨w.heap.size,k * 4+1,none⟩=some d:=HF2.out.cell hlt (j:=1) (by decide)
   have z1:=HF2.out.frozen (k * 4+1)
   obtain ⟨d2,e2⟩:∃d,w2.cell? ⟨w.heap.size,k * 4+2,none⟩=some d:=HF2.out.cell hlt (j:=2) (by decide)
   have z2:=HF2.out.frozen (k * 4+2)
   obtain ⟨d3,e3⟩:∃d,w2.cell? ⟨w.heap.size,k * 4+3,none⟩=some d:=HF2.out.cell hlt (j:=3) (by decide)
   have z3:=HF2.out.frozen (k * 4+3)
   go_wp2_with fail
   go_roundw
   case rel=>exact ⟨k+1,by omega,by go_num,HS.out⟩
   case measure=>simp [intOf];omega
  ·obtain rfl:k=n:=by omega
   go_wp2
   go_ret
   exact ⟨_,rfl,HF.out.done HN.out⟩
end
section
open Go.RowKit
def ZJ2 (w:World) (e:Ending) (w':World):Prop:=e=.returned (.bool true)∧Below w.heap.size w w'
set_option maxHeartbeats 1600000 in
theorem ZK0 (A B:Option Addr) (n c d:Nat) (ds:List ByteArray) (L M:List Nat) (w:World) (hn:n=ds.length) (hm:n≤9223372036854775807) (h1:Sli ZEr w A ds L) (h2:Sli ZEr w B ds M):
  Calls prog 123 #[.slice A n c,.slice B n d] w (ZJ2 w):=by
 have H1:=Lib.hid h1
 have H2:=Lib.hid h2
 have HN:=Lib.hid hn
 clear h1 h2 hn
 have hne:((n:Int) != n)=false:=by simp
 go_enter func123,ntmps123
 go_wp2
 go_loopw [5] (fun i wr=>∃(k:Nat),k≤n∧i=.int .i64 k∧Hid (∃q,wr=w.drewN q)) (fun i _=>n - (intOf i).toNat)
 case atStart=>exact ⟨0,A3 _,rfl,0,rfl⟩
 case round=>
  obtain ⟨k,hk,rfl,hq⟩:=hrel
  obtain ⟨q,rfl⟩:=hq.out
  by_cases hlt:k<n
  ·have hkl:k<ds.length:=by have:=HN.out;omega
   obtain ⟨b,off,cs,Lk,rfl,_,_,hrep,hc⟩:=H1.out.at_ hkl
   obtain ⟨b',off',cs',Mk,rfl,_,_,hrep',hc'⟩:=H2.out.at_ hkl
   generalize ds[k]=x at *
   obtain ⟨rfl,_,_⟩:=hrep
   obtain ⟨rfl,_,_⟩:=hrep'
   have q0:=hc 0 _ rfl
   have p0:=hc' 0 _ rfl
   simp only[show ZEr.size=1 from rfl,AA,A0] at q0 p0
   clear hc hc'
   have k0:(0:Int)≤k:=by omega
   have k1:(k:Int)<n:=by omega
   go_wp2_with fail
   go_quiet (fail)
   go_wp2_with fail
   go_roundw
   case rel=>exact ⟨k+1,by omega,by go_num,by first | exact ZMw _ _ _ | exact ZL3 _ _⟩
   case measure=>simp [intOf];omega
  ·go_wp2
   go_ret
   exact ⟨rfl,ZKM _ _ _⟩
set_option maxHeartbeats 1600000 in
theorem ZMl (cs ds:List Value) (x:Zb) (L M:List Nat) (w:World) (h1:ZJZ.rep w cs x L) (h2:ZJZ.rep w ds x M):
  Calls prog 54 #[.agg cs.toArray,.agg ds.toArray] w (ZJ2 w):=by
 obtain ⟨aA1,ac1,aL1,rfl,_ahL,at0,an1,am1,as1⟩:=h1
 obtain ⟨bA1,bc1,bL1,rfl,_bhL,bt0,bn1,bm1,bs1⟩:=h2
 unfold maxLen at am1 bm1
 have SA1:=Lib.hid as1
 have SB1:=Lib.hid bs1
 clear as1 bs1
 go_enter func54,ntmps54
 go_wp2_with fail
 refine (ZK0 aA1 bA1 _ ac1 bc1 x.args aL1 bL1 _ rfl (by omega) (SA1.out.below (by repeat (first | refine Below.setCell ?_ (by dsimp only;omega) _ | refine Below.alloc ?_ (by first | (simp;done) | (simp;omega) | omega) _ | exact Below.refl _ _))) (SB1.out.below (by repeat (first | refine Below.setCell ?_ (by dsimp only;omega) _ | refine Below.alloc ?_ (by first | (simp;done) | (simp;omega) | omega) _ | exact Below.refl _ _)))).mono ?_
 rintro e w1 ⟨rfl,hb1⟩
 have B1:Hid (Below w.heap.size w w1):=Below.trans (by repeat (first | refine Below.setCell ?_ (by dsimp only;omega) _ | refine Below.alloc ?_ (by first | (simp;done) | (simp;omega) | omega) _ | exact Below.refl _ _)) (hb1.mono (by first | (simp;done) | (simp;omega) | omega))
 have K0:Hid (Blk w1 w.heap.size 45 #[.string x.rel,.slice aA1 x.args.length ac1]):=Blk.later (Blk.alloc (Blk.new _ _ _) _) hb1
 have K1:Hid (Blk w1 (w.heap.size+1) 45 #[.string x.rel,.slice bA1 x.args.length bc1]):=Blk.later (Blk.new_at (by simp)) hb1
 have f0:=K0.out.at (i:=0) rfl
 have r0:=K1.out.at (i:=0) rfl
 have f1:=K0.out.at (i:=1) rfl
 have r1:=K1.out.at (i:=1) rfl
 clear hb1
 have hz1:=B1.out.size
 go_wp2_with fail
 go_ret
 exact ⟨rfl,(by repeat (first | refine Below.setCell ?_ (by dsimp only;omega) _ | refine Below.alloc ?_ (by first | (simp;done) | (simp;omega) | omega) _ | exact B1.out))⟩
set_option maxRecDepth 100000 in
set_option maxHeartbeats 1600000 in
theorem ZKC (A B:Option Addr) (n c d:Nat) (ds:List Zb) (L M:List Nat) (w:World) (hn:n=ds.length) (hm:n≤9223372036854775807) (h1:Sli ZJZ w A ds L) (h2:Sli ZJZ w B ds M):
  Calls prog 37 #[.slice A n c,.slice B n d] w (ZJ2 w):=by
 have H1:=Lib.hid h1
 have H2:=Lib.hid h2
 have HN:=Lib.hid hn
 clear h1 h2 hn
 have hne:((n:Int) != n)=false:=by simp
 go_enter func37,ntmps37
 go_wp2
 go_loopw [5] (fun i wr=>∃(k:Nat),k≤n∧i=.int .i64 k∧Hid (Below w.heap.size w wr)) (fun i _=>n - (intOf i).toNat)
 case atStart=>exact ⟨0,A3 _,rfl,Below.refl _ _⟩
 case round=>
  obtain ⟨k,hk,rfl,HB⟩:=hrel
  by_cases hlt:k<n
  ·have hkl:k<ds.length:=by have:=HN.out;omega
   obtain ⟨b,off,cs,Lk,rfl,hbL,hLk,hrep,hc⟩:=H1.out.at_ hkl
   obtain ⟨b',off',cs',Mk,rfl,hbM,hMk,hrep',hc'⟩:=H2.out.at_ hkl
   have hbl:b<w.heap.size:=H1.out.lt b hbL
   have hbl':b'<w.heap.size:=H2.out.lt b' hbM
   have HR:=Lib.hid (ZJZ.keep hrep (ZdM HB.out (fun y m=>H1.out.lt y (hLk y m))))
   have HR':=Lib.hid (ZJZ.keep hrep' (ZdM HB.out (fun y m=>H2.out.lt y (hMk y m))))
   generalize ds[k]=x at *
   obtain ⟨aA1,ac1,rfl⟩:=ZKl hrep
   obtain ⟨bA1,bc1,rfl⟩:=ZKl hrep'
   have q0:wr.cell? ⟨b,off+k * 2,none⟩=_:=(HB.out.cell (p:=⟨b,off+(k * 2+0),none⟩) hbl).trans (hc 0 _ rfl)
   have p0:wr.cell? ⟨b',off'+k * 2,none⟩=_:=(HB.out.cell (p:=⟨b',off'+(k * 2+0),none⟩) hbl').trans (hc' 0 _ rfl)
   have q1:wr.cell? ⟨b,off+k * 2+1,none⟩=_:=(HB.out.cell (p:=⟨b,off+(k * 2+1),none⟩) hbl).trans (hc 1 _ rfl)
   have p1:wr.cell? ⟨b',off'+k * 2+1,none⟩=_:=(HB.out.cell (p:=⟨b',off'+(k * 2+1),none⟩) hbl').trans (hc' 1 _ rfl)
   clear hc hc' hrep hrep'
   have k0:(0:Int)≤k:=by omega
   have k1:(k:Int)<n:=by omega
   go_wp2_with fail
   go_still_tail 8,(by kernel_rfl)
   change wpList _ _ _ _ _ wr.drew
   go_wp2_with (go_at_call 54;(refine (ZMl _ _ x Lk Mk wr.drew (ZJZ.keep HR.out (fun _ _=>rfl)) (ZJZ.keep HR'.out (fun _ _=>rfl))).mono ?_;rintro e w1 ⟨rfl,hb1⟩;have HB1:=Lib.hid (HB.out.drew.trans (hb1.mono HB.out.size));clear hb1))
   go_roundw
   case rel=>exact ⟨k+1,by omega,by go_num,HB1.out⟩
   case measure=>simp [intOf];omega
  ·go_wp2
   go_ret
   exact ⟨rfl,HB.out⟩
set_option maxHeartbeats 1600000 in
theorem ZKU (cs ds:List Value) (x:Zv) (L M:List Nat) (w:World) (h1:ZKv.rep w cs x L) (h2:ZKv.rep w ds x M):
  Calls prog 275 #[.agg cs.toArray,.agg ds.toArray] w (ZJ2 w):=by
 obtain ⟨aA1,ac1,aL1,rfl,_ahL,at0,an1,am1,as1⟩:=h1
 obtain ⟨bA1,bc1,bL1,rfl,_bhL,bt0,bn1,bm1,bs1⟩:=h2
 unfold maxLen at am1 bm1
 have SA1:=Lib.hid as1
 have SB1:=Lib.hid bs1
 clear as1 bs1
 go_enter func275,ntmps275
 go_wp2_with fail
 refine (ZK0 aA1 bA1 _ ac1 bc1 x.args aL1 bL1 _ rfl (by omega) (SA1.out.below (by repeat (first | refine Below.setCell ?_ (by dsimp only;omega) _ | refine Below.alloc ?_ (by first | (simp;done) | (simp;omega) | omega) _ | exact Below.refl _ _))) (SB1.out.below (by repeat (first | refine Below.setCell ?_ (by dsimp only;omega) _ | refine Below.alloc ?_ (by first | (simp;done) | (simp;omega) | omega) _ | exact Below.refl _ _)))).mono ?_
 rintro e w1 ⟨rfl,hb1⟩
 have B1:Hid (Below w.heap.size w w1):=Below.trans (by repeat (first | refine Below.setCell ?_ (by dsimp only;omega) _ | refine Below.alloc ?_ (by first | (simp;done) | (simp;omega) | omega) _ | exact Below.refl _ _)) (hb1.mono (by first | (simp;done) | (simp;omega) | omega))
 have K0:Hid (Blk w1 w.heap.size 48 #[.string x.rel,.slice aA1 x.args.length ac1]):=Blk.later (Blk.alloc (Blk.new _ _ _) _) hb1
 have K1:Hid (Blk w1 (w.heap.size+1) 48 #[.string x.rel,.slice bA1 x.args.length bc1]):=Blk.later (Blk.new_at (by simp)) hb1
 have f0:=K0.out.at (i:=0) rfl
 have r0:=K1.out.at (i:=0) rfl
 have f1:=K0.out.at (i:=1) rfl
 have r1:=K1.out.at (i:=1) rfl
 clear hb1
 have hz1:=B1.out.size
 go_wp2_with fail
 go_ret
 exact ⟨rfl,(by repeat (first | refine Below.setCell ?_ (by dsimp only;omega) _ | refine Below.alloc ?_ (by first | (simp;done) | (simp;omega) | omega) _ | exact B1.out))⟩
set_option maxHeartbeats 1600000 in
theorem ZMr (cs ds:List Value) (x:Zt) (L M:List Nat) (w:World) (h1:ZKb.rep w cs x L) (h2:ZKb.rep w ds x M):
  Calls prog 232 #[.agg cs.toArray,.agg ds.toArray] w (ZJ2 w):=by
 obtain ⟨aA1,ac1,aL1,rfl,_ahL,at0,at1,at2,an1,am1,as1⟩:=h1
 obtain ⟨bA1,bc1,bL1,rfl,_bhL,bt0,bt1,bt2,bn1,bm1,bs1⟩:=h2
 unfold maxLen at am1 bm1
 have SA1:=Lib.hid as1
 have SB1:=Lib.hid bs1
 clear as1 bs1
 go_enter func232,ntmps232
 go_wp2_with fail
 refine (ZKU [.string x.pattern.rel,.slice aA1 x.pattern.args.length ac1] [.string x.pattern.rel,.slice bA1 x.pattern.args.length bc1] x.pattern _ _ _ ⟨aA1,ac1,aL1,rfl,rfl,at0,an1,(by unfold maxLen;omega),SA1.out.below (by repeat (first | refine Below.setCell ?_ (by dsimp only;omega) _ | refine Below.alloc ?_ (by first | (simp;done) | (simp;omega) | omega) _ | exact Below.refl _ _))⟩ ⟨bA1,bc1,bL1,rfl,rfl,bt0,bn1,(by unfold maxLen;omega),SB1.out.below (by repeat (first | refine Below.setCell ?_ (by dsimp only;omega) _ | refine Below.alloc ?_ (by first | (simp;done) | (simp;omega) | omega) _ | exact Below.refl _ _))⟩).mono ?_
 rintro e w1 ⟨rfl,hb1⟩
 have B1:Hid (Below w.heap.size w w1):=Below.trans (by repeat (first | refine Below.setCell ?_ (by dsimp only;omega) _ | refine Below.alloc ?_ (by first | (simp;done) | (simp;omega) | omega) _ | exact Below.refl _ _)) (hb1.mono (by first | (simp;done) | (simp;omega) | omega))
 have K0:Hid (Blk w1 w.heap.size 173 #[.int .i64 x.kind,.string x.pattern.rel,.slice aA1 x.pattern.args.length ac1,.string x.left,.string x.right]):=Blk.later (Blk.alloc (Blk.new _ _ _) _) hb1
 have K1:Hid (Blk w1 (w.heap.size+1) 173 #[.int .i64 x.kind,.string x.pattern.rel,.slice bA1 x.pattern.args.length bc1,.string x.left,.string x.right]):=Blk.later (Blk.new_at (by simp)) hb1
 have f0:=K0.out.at (i:=0) rfl
 have r0:=K1.out.at (i:=0) rfl
 have f1:=K0.out.at (i:=1) rfl
 have r1:=K1.out.at (i:=1) rfl
 have f2:=K0.out.at (i:=2) rfl
 have r2:=K1.out.at (i:=2) rfl
 have f3:=K0.out.at (i:=3) rfl
 have r3:=K1.out.at (i:=3) rfl
 have f4:=K0.out.at (i:=4) rfl
 have r4:=K1.out.at (i:=4) rfl
 clear hb1
 have hz1:=B1.out.size
 go_wp2_with fail
 go_ret
 exact ⟨rfl,(by repeat (first | refine Below.setCell ?_ (by dsimp only;omega) _ | refine Below.alloc ?_ (by first | (simp;done) | (simp;omega) | omega) _ | exact B1.out))⟩
set_option maxRecDepth 100000 in
set_option maxHeartbeats 1600000 in
theorem ZMc (A B:Option Addr) (n c d:Nat) (ds:List Zt) (L M:List Nat) (w:World) (hn:n=ds.length) (hm:n≤9223372036854775807) (h1:Sli ZKb w A ds L) (h2:Sli ZKb w B ds M):
  Calls prog 166 #[.slice A n c,.slice B n d] w (ZJ2 w):=by
 have H1:=Lib.hid h1
 have H2:=Lib.hid h2
 have HN:=Lib.hid hn
 clear h1 h2 hn
 have hne:((n:Int) != n)=false:=by simp
 go_enter func166,ntmps166
 go_wp2
 go_loopw [5] (fun i wr=>∃(k:Nat),k≤n∧i=.int .i64 k∧Hid (Below w.heap.size w wr)) (fun i _=>n - (intOf i).toNat)
 case atStart=>exact ⟨0,A3 _,rfl,Below.refl _ _⟩
 case round=>
  obtain ⟨k,hk,rfl,HB⟩:=hrel
  by_cases hlt:k<n
  ·have hkl:k<ds.length:=by have:=HN.out;omega
   obtain ⟨b,off,cs,Lk,rfl,hbL,hLk,hrep,hc⟩:=H1.out.at_ hkl
   obtain ⟨b',off',cs',Mk,rfl,hbM,hMk,hrep',hc'⟩:=H2.out.at_ hkl
   have hbl:b<w.heap.size:=H1.out.lt b hbL
   have hbl':b'<w.heap.size:=H2.out.lt b' hbM
   have HR:=Lib.hid (ZKb.keep hrep (ZdM HB.out (fun y m=>H1.out.lt y (hLk y m))))
   have HR':=Lib.hid (ZKb.keep hrep' (ZdM HB.out (fun y m=>H2.out.lt y (hMk y m))))
   generalize ds[k]=x at *
   obtain ⟨aA1,ac1,rfl⟩:=ZKn hrep
   obtain ⟨bA1,bc1,rfl⟩:=ZKn hrep'
   have q0:wr.cell? ⟨b,off+k * 5,none⟩=_:=(HB.out.cell (p:=⟨b,off+(k * 5+0),none⟩) hbl).trans (hc 0 _ rfl)
   have p0:wr.cell? ⟨b',off'+k * 5,none⟩=_:=(HB.out.cell (p:=⟨b',off'+(k * 5+0),none⟩) hbl').trans (hc' 0 _ rfl)
   have q1:wr.cell? ⟨b,off+k * 5+1,none⟩=_:=(HB.out.cell (p:=⟨b,off+(k * 5+1),none⟩) hbl).trans (hc 1 _ rfl)
   have p1:wr.cell? ⟨b',off'+k * 5+1,none⟩=_:=(HB.out.cell (p:=⟨b',off'+(k * 5+1),none⟩) hbl').trans (hc' 1 _ rfl)
   have q2:wr.cell? ⟨b,off+k * 5+2,none⟩=_:=(HB.out.cell (p:=⟨b,off+(k * 5+2),none⟩) hbl).trans (hc 2 _ rfl)
   have p2:wr.cell? ⟨b',off'+k * 5+2,none⟩=_:=(HB.out.cell (p:=⟨b',off'+(k * 5+2),none⟩) hbl').trans (hc' 2 _ rfl)
   have q3:wr.cell? ⟨b,off+k * 5+3,none⟩=_:=(HB.out.cell (p:=⟨b,off+(k * 5+3),none⟩) hbl).trans (hc 3 _ rfl)
   have p3:wr.cell? ⟨b',off'+k * 5+3,none⟩=_:=(HB.out.cell (p:=⟨b',off'+(k * 5+3),none⟩) hbl').trans (hc' 3 _ rfl)
   have q4:wr.cell? ⟨b,off+k * 5+4,none⟩=_:=(HB.out.cell (p:=⟨b,off+(k * 5+4),none⟩) hbl).trans (hc 4 _ rfl)
   have p4:wr.cell? ⟨b',off'+k * 5+4,none⟩=_:=(HB.out.cell (p:=⟨b',off'+(k * 5+4),none⟩) hbl').trans (hc' 4 _ rfl)
   clear hc hc' hrep hrep'
   have k0:(0:Int)≤k:=by omega
   have k1:(k:Int)<n:=by omega
   go_wp2_with fail
   go_still_tail 8,(by kernel_rfl)
   change wpList _ _ _ _ _ wr.drew
   go_wp2_with (go_at_call 232;(refine (ZMr _ _ x Lk Mk wr.drew (ZKb.keep HR.out (fun _ _=>rfl)) (ZKb.keep HR'.out (fun _ _=>rfl))).mono ?_;rintro e w1 ⟨rfl,hb1⟩;have HB1:=Lib.hid (HB.out.drew.trans (hb1.mono HB.out.size));clear hb1))
   go_roundw
   case rel=>exact ⟨k+1,by omega,by go_num,HB1.out⟩
   case measure=>simp [intOf];omega
  ·go_wp2
   go_ret
   exact ⟨rfl,HB.out⟩
set_option maxHeartbeats 1600000 in
theorem ZLV (cs ds:List Value) (x:Zz) (L M:List Nat) (w:World) (h1:ZJM.rep w cs x L) (h2:ZJM.rep w ds x M):
  Calls prog 233 #[.agg cs.toArray,.agg ds.toArray] w (ZJ2 w):=by
 obtain ⟨aA1,ac1,aL1,rfl,_ahL,at0,an1,am1,as1⟩:=h1
 obtain ⟨bA1,bc1,bL1,rfl,_bhL,bt0,bn1,bm1,bs1⟩:=h2
 unfold maxLen at am1 bm1
 have SA1:=Lib.hid as1
 have SB1:=Lib.hid bs1
 clear as1 bs1
 go_enter func233,ntmps233
 go_wp2_with fail
 refine (ZKU [.string x.pattern.rel,.slice aA1 x.pattern.args.length ac1] [.string x.pattern.rel,.slice bA1 x.pattern.args.length bc1] x.pattern _ _ _ ⟨aA1,ac1,aL1,rfl,rfl,at0,an1,(by unfold maxLen;omega),SA1.out.below (by repeat (first | refine Below.setCell ?_ (by dsimp only;omega) _ | refine Below.alloc ?_ (by first | (simp;done) | (simp;omega) | omega) _ | exact Below.refl _ _))⟩ ⟨bA1,bc1,bL1,rfl,rfl,bt0,bn1,(by unfold maxLen;omega),SB1.out.below (by repeat (first | refine Below.setCell ?_ (by dsimp only;omega) _ | refine Below.alloc ?_ (by first | (simp;done) | (simp;omega) | omega) _ | exact Below.refl _ _))⟩).mono ?_
 rintro e w1 ⟨rfl,hb1⟩
 have B1:Hid (Below w.heap.size w w1):=Below.trans (by repeat (first | refine Below.setCell ?_ (by dsimp only;omega) _ | refine Below.alloc ?_ (by first | (simp;done) | (simp;omega) | omega) _ | exact Below.refl _ _)) (hb1.mono (by first | (simp;done) | (simp;omega) | omega))
 have K0:Hid (Blk w1 w.heap.size 50 #[.int .i64 x.kind,.string x.pattern.rel,.slice aA1 x.pattern.args.length ac1]):=Blk.later (Blk.alloc (Blk.new _ _ _) _) hb1
 have K1:Hid (Blk w1 (w.heap.size+1) 50 #[.int .i64 x.kind,.string x.pattern.rel,.slice bA1 x.pattern.args.length bc1]):=Blk.later (Blk.new_at (by simp)) hb1
 have f0:=K0.out.at (i:=0) rfl
 have r0:=K1.out.at (i:=0) rfl
 have f1:=K0.out.at (i:=1) rfl
 have r1:=K1.out.at (i:=1) rfl
 have f2:=K0.out.at (i:=2) rfl
 have r2:=K1.out.at (i:=2) rfl
 clear hb1
 have hz1:=B1.out.size
 go_wp2_with fail
 go_ret
 exact ⟨rfl,(by repeat (first | refine Below.setCell ?_ (by dsimp only;omega) _ | refine Below.alloc ?_ (by first | (simp;done) | (simp;omega) | omega) _ | exact B1.out))⟩
set_option maxRecDepth 100000 in
set_option maxHeartbeats 1600000 in
theorem ZLO (A B:Option Addr) (n c d:Nat) (ds:List Zz) (L M:List Nat) (w:World) (hn:n=ds.length) (hm:n≤9223372036854775807) (h1:Sli ZJM w A ds L) (h2:Sli ZJM w B ds M):
  Calls prog 167 #[.slice A n c,.slice B n d] w (ZJ2 w):=by
 have H1:=Lib.hid h1
 have H2:=Lib.hid h2
 have HN:=Lib.hid hn
 clear h1 h2 hn
 have hne:((n:Int) != n)=false:=by simp
 go_enter func167,ntmps167
 go_wp2
 go_loopw [5] (fun i wr=>∃(k:Nat),k≤n∧i=.int .i64 k∧Hid (Below w.heap.size w wr)) (fun i _=>n - (intOf i).toNat)
 case atStart=>exact ⟨0,A3 _,rfl,Below.refl _ _⟩
 case round=>
  obtain ⟨k,hk,rfl,HB⟩:=hrel
  by_cases hlt:k<n
  ·have hkl:k<ds.length:=by have:=HN.out;omega
   obtain ⟨b,off,cs,Lk,rfl,hbL,hLk,hrep,hc⟩:=H1.out.at_ hkl
   obtain ⟨b',off',cs',Mk,rfl,hbM,hMk,hrep',hc'⟩:=H2.out.at_ hkl
   have hbl:b<w.heap.size:=H1.out.lt b hbL
   have hbl':b'<w.heap.size:=H2.out.lt b' hbM
   have HR:=Lib.hid (ZJM.keep hrep (ZdM HB.out (fun y m=>H1.out.lt y (hLk y m))))
   have HR':=Lib.hid (ZJM.keep hrep' (ZdM HB.out (fun y m=>H2.out.lt y (hMk y m))))
   generalize ds[k]=x at *
   obtain ⟨aA1,ac1,rfl⟩:=ZKg hrep
   obtain ⟨bA1,bc1,rfl⟩:=ZKg hrep'
   have q0:wr.cell? ⟨b,off+k * 3,none⟩=_:=(HB.out.cell (p:=⟨b,off+(k * 3+0),none⟩) hbl).trans (hc 0 _ rfl)
   have p0:wr.cell? ⟨b',off'+k * 3,none⟩=_:=(HB.out.cell (p:=⟨b',off'+(k * 3+0),none⟩) hbl').trans (hc' 0 _ rfl)
   have q1:wr.cell? ⟨b,off+k * 3+1,none⟩=_:=(HB.out.cell (p:=⟨b,off+(k * 3+1),none⟩) hbl).trans (hc 1 _ rfl)
   have p1:wr.cell? ⟨b',off'+k * 3+1,none⟩=_:=(HB.out.cell (p:=⟨b',off'+(k * 3+1),none⟩) hbl').trans (hc' 1 _ rfl)
   have q2:wr.cell? ⟨b,off+k * 3+2,none⟩=_:=(HB.out.cell (p:=⟨b,off+(k * 3+2),none⟩) hbl).trans (hc 2 _ rfl)
   have p2:wr.cell? ⟨b',off'+k * 3+2,none⟩=_:=(HB.out.cell (p:=⟨b',off'+(k * 3+2),none⟩) hbl').trans (hc' 2 _ rfl)
   clear hc hc' hrep hrep'
   have k0:(0:Int)≤k:=by omega
   have k1:(k:Int)<n:=by omega
   go_wp2_with fail
   go_still_tail 8,(by kernel_rfl)
   change wpList _ _ _ _ _ wr.drew
   go_wp2_with (go_at_call 233;(refine (ZLV _ _ x Lk Mk wr.drew (ZJM.keep HR.out (fun _ _=>rfl)) (ZJM.keep HR'.out (fun _ _=>rfl))).mono ?_;rintro e w1 ⟨rfl,hb1⟩;have HB1:=Lib.hid (HB.out.drew.trans (hb1.mono HB.out.size));clear hb1))
   go_roundw
   case rel=>exact ⟨k+1,by omega,by go_num,HB1.out⟩
   case measure=>simp [intOf];omega
  ·go_wp2
   go_ret
   exact ⟨rfl,HB.out⟩
set_option maxHeartbeats 1600000 in
theorem ZMn (cs ds:List Value) (x:Zg) (L M:List Nat) (w:World) (h1:ZKa.rep w cs x L) (h2:ZKa.rep w ds x M):
  Calls prog 98 #[.agg cs.toArray,.agg ds.toArray] w (ZJ2 w):=by
 obtain ⟨aA1,ac1,aL1,aA2,ac2,aL2,rfl,_ahL,at0,an1,am1,as1,an2,am2,as2⟩:=h1
 obtain ⟨bA1,bc1,bL1,bA2,bc2,bL2,rfl,_bhL,bt0,bn1,bm1,bs1,bn2,bm2,bs2⟩:=h2
 unfold maxLen at am1 bm1 am2 bm2
 have SA1:=Lib.hid as1
 have SB1:=Lib.hid bs1
 clear as1 bs1
 have SA2:=Lib.hid as2
 have SB2:=Lib.hid bs2
 clear as2 bs2
 go_enter func98,ntmps98
 go_wp2_with fail
 refine (ZMc aA1 bA1 _ ac1 bc1 x.cond aL1 bL1 _ rfl (by omega) (SA1.out.below (by repeat (first | refine Below.setCell ?_ (by dsimp only;omega) _ | refine Below.alloc ?_ (by first | (simp;done) | (simp;omega) | omega) _ | exact Below.refl _ _))) (SB1.out.below (by repeat (first | refine Below.setCell ?_ (by dsimp only;omega) _ | refine Below.alloc ?_ (by first | (simp;done) | (simp;omega) | omega) _ | exact Below.refl _ _)))).mono ?_
 rintro e w1 ⟨rfl,hb1⟩
 have B1:Hid (Below w.heap.size w w1):=Below.trans (by repeat (first | refine Below.setCell ?_ (by dsimp only;omega) _ | refine Below.alloc ?_ (by first | (simp;done) | (simp;omega) | omega) _ | exact Below.refl _ _)) (hb1.mono (by first | (simp;done) | (simp;omega) | omega))
 have K0:Hid (Blk w1 w.heap.size 42 #[.string x.name,.int .i64 x.priority,.slice aA1 x.cond.length ac1,.slice aA2 x.thn.length ac2]):=Blk.later (Blk.alloc (Blk.new _ _ _) _) hb1
 have K1:Hid (Blk w1 (w.heap.size+1) 42 #[.string x.name,.int .i64 x.priority,.slice bA1 x.cond.length bc1,.slice bA2 x.thn.length bc2]):=Blk.later (Blk.new_at (by simp)) hb1
 have f0:=K0.out.at (i:=0) rfl
 have r0:=K1.out.at (i:=0) rfl
 have f1:=K0.out.at (i:=1) rfl
 have r1:=K1.out.at (i:=1) rfl
 have f2:=K0.out.at (i:=2) rfl
 have r2:=K1.out.at (i:=2) rfl
 have f3:=K0.out.at (i:=3) rfl
 have r3:=K1.out.at (i:=3) rfl
 clear hb1
 have hz1:=B1.out.size
 go_wp2_with fail
 refine (ZLO aA2 bA2 _ ac2 bc2 x.thn aL2 bL2 _ rfl (by omega) (SA2.out.below (by repeat (first | refine Below.setCell ?_ (by dsimp only;omega) _ | refine Below.alloc ?_ (by first | (simp;done) | (simp;omega) | omega) _ | exact B1.out))) (SB2.out.below (by repeat (first | refine Below.setCell ?_ (by dsimp only;omega) _ | refine Below.alloc ?_ (by first | (simp;done) | (simp;omega) | omega) _ | exact B1.out)))).mono ?_
 rintro e w2 ⟨rfl,hb2⟩
 have B2:Hid (Below w.heap.size w w2):=Below.trans (by repeat (first | refine Below.setCell ?_ (by dsimp only;omega) _ | refine Below.alloc ?_ (by first | (simp;done) | (simp;omega) | omega) _ | exact B1.out)) (hb2.mono (by first | (simp;done) | (simp;omega) | omega))
 have K0:=Lib.hid (K0.out.later hb2)
 have K1:=Lib.hid (K1.out.later hb2)
 clear f0 r0 f1 r1 f2 r2 f3 r3
 have f0:=K0.out.at (i:=0) rfl
 have r0:=K1.out.at (i:=0) rfl
 have f1:=K0.out.at (i:=1) rfl
 have r1:=K1.out.at (i:=1) rfl
 have f2:=K0.out.at (i:=2) rfl
 have r2:=K1.out.at (i:=2) rfl
 have f3:=K0.out.at (i:=3) rfl
 have r3:=K1.out.at (i:=3) rfl
 clear hb2
 have hz2:=B2.out.size
 go_wp2_with fail
 go_ret
 exact ⟨rfl,(by repeat (first | refine Below.setCell ?_ (by dsimp only;omega) _ | refine Below.alloc ?_ (by first | (simp;done) | (simp;omega) | omega) _ | exact B2.out))⟩
set_option maxRecDepth 100000 in
set_option maxHeartbeats 1600000 in
theorem ZMd (A B:Option Addr) (n c d:Nat) (ds:List Zg) (L M:List Nat) (w:World) (hn:n=ds.length) (hm:n≤9223372036854775807) (h1:Sli ZKa w A ds L) (h2:Sli ZKa w B ds M):
  Calls prog 39 #[.slice A n c,.slice B n d] w (ZJ2 w):=by
 have H1:=Lib.hid h1
 have H2:=Lib.hid h2
 have HN:=Lib.hid hn
 clear h1 h2 hn
 have hne:((n:Int) != n)=false:=by simp
 go_enter func39,ntmps39
 go_wp2
 go_loopw [5] (fun i wr=>∃(k:Nat),k≤n∧i=.int .i64 k∧Hid (Below w.heap.size w wr)) (fun i _=>n - (intOf i).toNat)
 case atStart=>exact ⟨0,A3 _,rfl,Below.refl _ _⟩
 case round=>
  obtain ⟨k,hk,rfl,HB⟩:=hrel
  by_cases hlt:k<n
  ·have hkl:k<ds.length:=by have:=HN.out;omega
   obtain ⟨b,off,cs,Lk,rfl,hbL,hLk,hrep,hc⟩:=H1.out.at_ hkl
   obtain ⟨b',off',cs',Mk,rfl,hbM,hMk,hrep',hc'⟩:=H2.out.at_ hkl
   have hbl:b<w.heap.size:=H1.out.lt b hbL
   have hbl':b'<w.heap.size:=H2.out.lt b' hbM
   have HR:=Lib.hid (ZKa.keep hrep (ZdM HB.out (fun y m=>H1.out.lt y (hLk y m))))
   have HR':=Lib.hid (ZKa.keep hrep' (ZdM HB.out (fun y m=>H2.out.lt y (hMk y m))))
   generalize ds[k]=x at *
   obtain ⟨aA1,ac1,aA2,ac2,rfl⟩:=ZKm hrep
   obtain ⟨bA1,bc1,bA2,bc2,rfl⟩:=ZKm hrep'
   have q0:wr.cell? ⟨b,off+k * 4,none⟩=_:=(HB.out.cell (p:=⟨b,off+(k * 4+0),none⟩) hbl).trans (hc 0 _ rfl)
   have p0:wr.cell? ⟨b',off'+k * 4,none⟩=_:=(HB.out.cell (p:=⟨b',off'+(k * 4+0),none⟩) hbl').trans (hc' 0 _ rfl)
   have q1:wr.cell? ⟨b,off+k * 4+1,none⟩=_:=(HB.out.cell (p:=⟨b,off+(k * 4+1),none⟩) hbl).trans (hc 1 _ rfl)
   have p1:wr.cell? ⟨b',off'+k * 4+1,none⟩=_:=(HB.out.cell (p:=⟨b',off'+(k * 4+1),none⟩) hbl').trans (hc' 1 _ rfl)
   have q2:wr.cell? ⟨b,off+k * 4+2,none⟩=_:=(HB.out.cell (p:=⟨b,off+(k * 4+2),none⟩) hbl).trans (hc 2 _ rfl)
   have p2:wr.cell? ⟨b',off'+k * 4+2,none⟩=_:=(HB.out.cell (p:=⟨b',off'+(k * 4+2),none⟩) hbl').trans (hc' 2 _ rfl)
   have q3:wr.cell? ⟨b,off+k * 4+3,none⟩=_:=(HB.out.cell (p:=⟨b,off+(k * 4+3),none⟩) hbl).trans (hc 3 _ rfl)
   have p3:wr.cell? ⟨b',off'+k * 4+3,none⟩=_:=(HB.out.cell (p:=⟨b',off'+(k * 4+3),none⟩) hbl').trans (hc' 3 _ rfl)
   clear hc hc' hrep hrep'
   have k0:(0:Int)≤k:=by omega
   have k1:(k:Int)<n:=by omega
   go_wp2_with fail
   go_still_tail 8,(by kernel_rfl)
   change wpList _ _ _ _ _ wr.drew
   go_wp2_with (go_at_call 98;(refine (ZMn _ _ x Lk Mk wr.drew (ZKa.keep HR.out (fun _ _=>rfl)) (ZKa.keep HR'.out (fun _ _=>rfl))).mono ?_;rintro e w1 ⟨rfl,hb1⟩;have HB1:=Lib.hid (HB.out.drew.trans (hb1.mono HB.out.size));clear hb1))
   go_roundw
   case rel=>exact ⟨k+1,by omega,by go_num,HB1.out⟩
   case measure=>simp [intOf];omega
  ·go_wp2
   go_ret
   exact ⟨rfl,HB.out⟩
set_option maxRecDepth 100000 in
set_option maxHeartbeats 1600000 in
theorem ZPu (A B:Option Addr) (n c d:Nat) (ds:List (List Zb)) (L M:List Nat) (w:World) (hn:n=ds.length) (hm:n≤9223372036854775807) (h1:Sli (ZlE ZJZ) w A ds L) (h2:Sli (ZlE ZJZ) w B ds M):
  Calls prog 53 #[.slice A n c,.slice B n d] w (ZJ2 w):=by
 have H1:=Lib.hid h1
 have H2:=Lib.hid h2
 have HN:=Lib.hid hn
 clear h1 h2 hn
 have hne:((n:Int) != n)=false:=by simp
 go_enter func53,ntmps53
 go_wp2
 go_loopw [5] (fun i wr=>∃(k:Nat),k≤n∧i=.int .i64 k∧Hid (Below w.heap.size w wr)) (fun i _=>n - (intOf i).toNat)
 case atStart=>exact ⟨0,A3 _,rfl,Below.refl _ _⟩
 case round=>
  obtain ⟨k,hk,rfl,HB⟩:=hrel
  by_cases hlt:k<n
  ·have hkl:k<ds.length:=by have:=HN.out;omega
   obtain ⟨b,off,cs,Lk,rfl,hbL,hLk,hrep,hc⟩:=H1.out.at_ hkl
   obtain ⟨b',off',cs',Mk,rfl,hbM,hMk,hrep',hc'⟩:=H2.out.at_ hkl
   have hbl:b<w.heap.size:=H1.out.lt b hbL
   have hbl':b'<w.heap.size:=H2.out.lt b' hbM
   generalize ds[k]=x at *
   obtain ⟨aA1,ac1,rfl,an1,am1,as1⟩:=hrep
   obtain ⟨bA1,bc1,rfl,bn1,bm1,bs1⟩:=hrep'
   unfold maxLen at am1 bm1
   have HR:Hid (Sli ZJZ wr aA1 x Lk):=as1.keep (ZdM HB.out (fun y m=>H1.out.lt y (hLk y m)))
   have HR':Hid (Sli ZJZ wr bA1 x Mk):=bs1.keep (ZdM HB.out (fun y m=>H2.out.lt y (hMk y m)))
   have q0:=(HB.out.cell (p:=⟨b,off+(k * 1+0),none⟩) hbl).trans (hc 0 _ rfl)
   have p0:=(HB.out.cell (p:=⟨b',off'+(k * 1+0),none⟩) hbl').trans (hc' 0 _ rfl)
   simp only[AA,A0] at q0 p0
   clear hc hc' as1 bs1
   have k0:(0:Int)≤k:=by omega
   have k1:(k:Int)<n:=by omega
   go_wp2_with fail
   go_still_tail 8,(by kernel_rfl)
   change wpList _ _ _ _ _ wr.drew
   go_wp2_with (go_at_call 37;(refine (ZKC aA1 bA1 _ ac1 bc1 x Lk Mk wr.drew rfl (by omega) (HR.out.keep (fun _ _=>rfl)) (HR'.out.keep (fun _ _=>rfl))).mono ?_;rintro e w1 ⟨rfl,hb1⟩;have HB1:=Lib.hid (HB.out.drew.trans (hb1.mono HB.out.size));clear hb1))
   go_roundw
   case rel=>exact ⟨k+1,by omega,by go_num,HB1.out⟩
   case measure=>simp [intOf];omega
  ·go_wp2
   go_ret
   exact ⟨rfl,HB.out⟩
end
section
open Go.RowKit
theorem ZKd {w w1:World} {g:Nat} {t:TypeId} {cs:Array Value} {M:List Nat} (h:Blk w g t cs) (ho:Zby M w w1) (hg:g∉M):Blk w1 g t cs:=(ho.block g h.lt hg).trans h
set_option maxHeartbeats 1600000 in
theorem ZKo (A:Option Addr) (n c:Nat) (ds:List ByteArray) (L:List Nat) (base:Nat) (k:Int) (w:World) (hn:n=ds.length) (hk0:1≤k) (hk1:ZJA k ds≤4611686018427387904) (h:Got (ZlE ZEr) base [.slice A n c] ds L w):
  Calls prog 102 #[.slice A n c,.int .i64 k] w fun e w'=>e=.returned (.int .i64 (ZJA k ds))∧Got (ZlE ZEr) base [.slice A n c] (ZJI k ds) L w'∧Zby L w w':=by
 have H:=Lib.hid h
 have HN:=Lib.hid hn
 have hk1':k+n≤4611686018427387904:=by simp only[ZJA] at hk1;omega
 clear h hn hk1
 go_enter func102,ntmps102
 go_wp2
 go_loopw [1,5] (fun q j wr=>∃(i:Nat) (kk:Int) (D:List ByteArray),i≤n∧j=.int .i64 i∧q=.int .i64 kk∧1≤kk∧kk+(n - i:Nat)≤4611686018427387904∧Hid (kk=k+i∧D.length=i∧D++ZJI kk (ds.drop i)=ZJI k ds)∧Hid (Got (ZlE ZEr) base [.slice A n c] (D++ds.drop i) L wr)∧Hid (Zby L w wr)) (fun _ j _=>n - (intOf j).toNat)
 case atStart=>exact ⟨0,k,[],A3 _,rfl,rfl,hk0,by omega,⟨by omega,rfl,rfl⟩,H.out,Zby.refl _ _⟩
 case round=>
  obtain ⟨i,kk,D,hi,rfl,rfl,h1,h2,HD,HG,HO⟩:=hrel
  by_cases hlt:i<n
  ·have hil:i<ds.length:=by have:=HN.out;omega
   obtain ⟨hkk,hDl,hDm⟩:=HD.out
   have hcl:i<(D++ds.drop i).length:=by simp;omega
   obtain ⟨b,off,cs,Lk,rfl,hbL,hLk,hown,hrep,hcells,hput⟩:=HG.out.focus hcl
   obtain ⟨rfl,hlk,_⟩:=hrep
   have HEl:=Lib.hid (Zgq.start (m:=1) hcells rfl hown)
   have hnext:Hid (ds.drop i=ds[i]::ds.drop (i+1)):=A6 _
   have HPut:=Lib.hid hput
   have HOwn:=Lib.hid hown
   have HLk:=Lib.hid hLk
   have HLe:=Lib.hid hlk
   have HDn:Hid (kk+1=k+(i+1:Nat)∧(D++[mTx kk]).length=i+1∧(D++[mTx kk])++ZJI (kk+1) (ds.drop (i+1))=ZJI k ds):=by
    refine ⟨by omega,by simp [hDl],?_⟩
    rw [←hDm,hnext.out];simp [ZJI]
   have hset:Hid ((D++ds.drop i).set i (mTx kk)=(D++[mTx kk])++ds.drop (i+1)):=by
    rw [Hid,AE _ _ (by omega),show i - D.length=0 by omega,hnext.out,AF];simp
   clear hput hown hLk hcells hkk hDl hDm hlk
   simp only[show ZEr.size=1 from rfl,AA] at HEl HPut
   go_wp2_with (go_at_call 99;refine (ZJ1 _ _ (by omega) (by omega)).mono ?_;rintro e w1 ⟨rfl,hb1⟩;have E1:=Lib.hid (HEl.out.later hb1);have q1:=E1.out.at (j:=0) rfl;have z1:=E1.out.frozen (off+i);clear hb1;simp only[A0] at q1)
   have E2:=Lib.hid (E1.out.set 0 (by omega) (.string (mTx kk)))
   have hO2:=Lib.hid (ZJ9 HOwn.out E2.out.plain E2.out.only (by rw [HLe.out];simp))
   have HGn:=Lib.hid (HPut.out _ _ (mTx kk) E2.out.only E2.out.cells E2.out.rest (by rw [HLe.out];exact ⟨rfl,rfl,ZKw _ (by omega)⟩) hO2.out)
   have HOn:=Lib.hid (HO.out.trans (E2.out.only.mono (fun y m=>by rcases AG.1 m with rfl | m;exact hbL;exact HLk.out y m)))
   rw [hset.out] at HGn
   simp only[A0] at HGn HOn
   clear E2 hO2 HPut
   go_wp2_with fail
   go_roundw
   case rel=>exact ⟨i+1,kk+1,_,by omega,by go_num,rfl,by omega,by omega,HDn,HGn,HOn⟩
   case measure=>simp [intOf];omega
  ·obtain rfl:i=n:=by omega
   have hf:Hid (ZJA k ds=kk∧D=ZJI k ds):=by
    obtain ⟨h1,h2,h3⟩:=HD.out
    have e:ds.drop i=[]:=A9 (by have:=HN.out;omega)
    rw [e] at h3
    simp [ZJI] at h3
    exact ⟨by have:=HN.out;simp only[ZJA];omega,h3⟩
   have e:Hid (ds.drop i=[]):=A9 (by have:=HN.out;omega)
   rw [e.out,AH] at HG
   go_wp2
   go_ret
   exact ⟨ZJK hf.out.1.symm,by rw [←hf.out.2];exact HG.out,HO.out⟩
set_option maxRecDepth 100000 in
set_option maxHeartbeats 4000000 in
theorem ZKY (A:Option Addr) (n c:Nat) (ds:List Zb) (L:List Nat) (base:Nat) (k:Int) (w:World) (hn:n=ds.length) (hm:n≤9223372036854775807) (hk0:1≤k) (hk1:ZJy k ds≤4611686018427387904) (h:Got (ZlE ZJZ) base [.slice A n c] ds L w):
  Calls prog 41 #[.slice A n c,.int .i64 k] w fun e w'=>e=.returned (.int .i64 (ZJy k ds))∧Got (ZlE ZJZ) base [.slice A n c] (ZJ4 k ds) L w'∧Zby L w w':=by
 have H:=Lib.hid h
 have HN:=Lib.hid hn
 have HK:=Lib.hid hk1
 clear h hn hk1
 go_enter func41,ntmps41
 go_wp2
 go_loopw [1,5] (fun q j wr=>∃(i:Nat) (kk:Int) (D:List Zb),i≤n∧j=.int .i64 i∧q=.int .i64 kk∧1≤kk∧Hid (ZJy kk (ds.drop i)=ZJy k ds∧D.length=i∧D++ZJ4 kk (ds.drop i)=ZJ4 k ds)∧Hid (Got (ZlE ZJZ) base [.slice A n c] (D++ds.drop i) L wr)∧Hid (Zby L w wr)) (fun _ j _=>n - (intOf j).toNat)
 case atStart=>exact ⟨0,k,[],A3 _,rfl,rfl,hk0,⟨rfl,rfl,rfl⟩,H.out,Zby.refl _ _⟩
 case round=>
  obtain ⟨i,kk,D,hi,rfl,rfl,h1,HD,HG,HO⟩:=hrel
  by_cases hlt:i<n
  ·have hil:i<ds.length:=by have:=HN.out;omega
   obtain ⟨hkk,hDl,hDm⟩:=HD.out
   have hcl:i<(D++ds.drop i).length:=by simp;omega
   obtain ⟨b,off,cs,Lk,rfl,hbL,hLk,hown,hrep,hcells,hput⟩:=HG.out.focus hcl
   have hnext:Hid (ds.drop i=ds[i]::ds.drop (i+1)):=A6 _
   have hxi:(D++ds.drop i)[i]=ds[i]:=by
    rw [AJ (by omega)];simp [hDl]
   rw [hxi] at hrep
   clear hxi
   generalize ds[i]=x at hrep hnext
   have hnb:Hid (ZJP kk x≤4611686018427387904):=by
    have:=ZKs (ZJP kk x) (ds.drop (i+1))
    rw [hnext.out] at hkk
    have hk:=HK.out
    rw [←hkk] at hk
    exact AD this hk
   have hnb1:=hnb.out
   have hnb2:=ZKO kk x
   unfold ZJP at hnb1 hnb2
   have HDn:Hid (ZJy (ZJP kk x) (ds.drop (i+1))=ZJy k ds∧(D++[ZKK kk x]).length=i+1∧(D++[ZKK kk x])++ZJ4 (ZJP kk x) (ds.drop (i+1))=ZJ4 k ds):=by
    refine ⟨by rw [←hkk,hnext.out];rfl,by simp [hDl],?_⟩
    rw [←hDm,hnext.out];simp [ZJ4]
   have hset:Hid ((D++ds.drop i).set i (ZKK kk x)=(D++[ZKK kk x])++ds.drop (i+1)):=by
    rw [Hid,AE _ _ (by omega),show i - D.length=0 by omega,hnext.out,AF];simp
   obtain ⟨A1,c1,L1,rfl,hLL,t0,n1,m1,s1⟩:=hrep
   unfold maxLen at m1
   subst Lk
   have HEl:=Lib.hid (Zgq.start (m:=2) hcells rfl hown)
   have hbn:=Lib.hid hown.head
   have G1:Hid (Got (ZlE ZEr) base [.slice A1 x.args.length c1] x.args L1 wr):=⟨⟨A1,c1,rfl,n1,(by unfold maxLen;omega),s1⟩,hown.tail⟩
   have bn1:Hid (b∉L1):=fun m=>hown.head (by simp [m])
   have sb1:Hid (∀y∈L1,y∈L1):=fun y m=>by simp [m]
   clear s1
   have HPut:=Lib.hid hput
   have HOwn:=Lib.hid hown
   have HLk:=Lib.hid hLk
   clear hput hown hLk hcells hkk hDl hDm
   simp only[show ZJZ.size=2 from rfl] at HEl HPut
   have q0:=HEl.out.at (j:=0) rfl
   have z0:=HEl.out.frozen (off+i * 2)
   have q1:=HEl.out.at (j:=1) rfl
   have z1:=HEl.out.frozen (off+i * 2+1)
   simp only[A0] at q0
   have gm0:(0:Int)≤0:=by omega
   have mono_x_args:=ZJ3 (kk+1) x.args
   go_wp2_with fail
   refine (ZJ1 _ _ (by omega) (by omega)).mono ?_
   rintro e w1 ⟨rfl,hb1⟩
   have HEl:=Lib.hid (HEl.out.later hb1)
   have G1:=Lib.hid (G1.out.later hb1)
   clear hb1
   clear q0 z0 q1 z1
   have q0:=HEl.out.at (j:=0) rfl
   have z0:=HEl.out.frozen (off+i * 2)
   have q1:=HEl.out.at (j:=1) rfl
   have z1:=HEl.out.frozen (off+i * 2+1)
   simp only[A0] at q0
   go_wp2_with fail
   have G1:=Lib.hid (G1.out.setFar (p:=⟨b,off+i * 2+0,none⟩) bn1.out (.string (mTx (kk))))
   refine (ZKo A1 _ c1 x.args L1 base _ _ rfl (by omega) (by omega) G1.out).mono ?_
   rintro e w2 ⟨rfl,g2,on2⟩
   have HEl:=Lib.hid ((HEl.out.set 0 (by omega) (.string (mTx (kk)))).marked on2 sb1.out bn1.out)
   have G1:=Lib.hid g2
   clear g2 on2
   clear q0 z0 q1 z1
   have q0:=HEl.out.at (j:=0) rfl
   have z0:=HEl.out.frozen (off+i * 2)
   have q1:=HEl.out.at (j:=1) rfl
   have z1:=HEl.out.frozen (off+i * 2+1)
   simp only[A0] at q0
   obtain ⟨nn1,mm1,ss1⟩:=ZJB G1.out.rep
   have hO2:=Lib.hid (ZJ9 HOwn.out HEl.out.plain HEl.out.only (fun y m=>by (try simp only[AB] at m);exact G1.out.own.plain y m))
   have HGn:=Lib.hid (HPut.out _ _ (ZKK kk x) HEl.out.only HEl.out.cells HEl.out.rest ⟨A1,c1,L1,by simp [ZKK,ZKf],rfl,ZKw _ (by omega),nn1,mm1,ss1⟩ hO2.out)
   have HOn:=Lib.hid (HO.out.trans (HEl.out.only.mono (fun y m=>by rcases AG.1 m with rfl | m;exact hbL;exact HLk.out y m)))
   rw [hset.out] at HGn
   try simp only[A0] at HGn HOn
   clear HEl hO2 HPut G1 nn1 mm1 ss1
   go_wp2_with fail
   go_roundw
   case rel=>exact ⟨i+1,ZJP kk x,_,by omega,by go_num,rfl,by unfold ZJP;omega,HDn,HGn,HOn⟩
   case measure=>simp [intOf];omega
  ·obtain rfl:i=n:=by omega
   have e:Hid (ds.drop i=[]):=A9 (by have:=HN.out;omega)
   have hf:Hid (ZJy k ds=kk∧D=ZJ4 k ds):=by
    obtain ⟨h1,h2,h3⟩:=HD.out
    rw [e.out] at h3 h1
    simp [ZJ4] at h3
    exact ⟨h1.symm,h3⟩
   rw [e.out,AH] at HG
   go_wp2
   go_ret
   exact ⟨ZJK hf.out.1.symm,by rw [←hf.out.2];exact HG.out,HO.out⟩
def ZPJ (k:Int) (x:Zb):Zb:=⟨x.rel,ZJI (k) x.args⟩
def ZPq (k:Int) (x:Zb):Int:=ZJA (k) x.args
theorem ZPE (k:Int) (x:Zb):k≤ZPq k x:=by
 unfold ZPq
 have:=ZJ3 (k) x.args
 omega
theorem ZPD (k:Int) (x:Zb):ZPq k x≤k+16 * ZgB x:=by
 unfold ZPq
 have:=ZKy (k) x.args
 simp only[ZgB]
 omega
set_option maxHeartbeats 1600000 in
theorem ZPH (x:Zb) (A1:Option Addr) (c1:Nat) (L1:List Nat) (base:Nat) (k:Int) (w:World) (hk0:1≤k) (hk1:ZPq k x≤4611686018427387904) (l1:x.args.length≤9223372036854775807) (g1:Got (ZlE ZEr) base [.slice A1 x.args.length c1] (x.args) L1 w):
  Calls prog 55 #[.agg #[.string x.rel,.slice A1 x.args.length c1],.int .i64 k] w fun e w'=>e=.returned (.int .i64 (ZPq k x))∧Got (ZlE ZEr) base [.slice A1 x.args.length c1] (ZJI (k) x.args) L1 w'∧Zby (L1) w w':=by
 have bn1:Hid (w.heap.size∉L1):=fun m=>Nat.lt_irrefl _ (g1.lt _ m)
 have G1:=Lib.hid (g1.alloc (.cells #[.string x.rel,.slice A1 x.args.length c1] 45))
 have K0:Hid (Blk (w.alloc (.cells #[.string x.rel,.slice A1 x.args.length c1] 45)) w.heap.size 45 #[.string x.rel,.slice A1 x.args.length c1]):=Blk.new _ _ _
 have O0:Hid (Zby (L1) w (w.alloc (.cells #[.string x.rel,.slice A1 x.args.length c1] 45))):=Zby.of_below ((Below.refl _ _).alloc (A4 _) _) _
 clear g1
 unfold ZPq at hk1
 have:=ZJ3 (k) x.args
 go_enter func55,ntmps55
 go_wp2_with fail
 refine (ZKo A1 _ c1 x.args L1 base _ _ rfl (by omega) (by omega) G1.out).mono ?_
 rintro e w1 ⟨rfl,h1,on1⟩
 have G1:=Lib.hid h1
 have K1:=Lib.hid (ZKd K0.out on1 bn1.out)
 have f0:=K1.out.at (i:=0) rfl
 have f1:=K1.out.at (i:=1) rfl
 have O1:Hid (Zby (L1) w w1):=O0.out.trans (on1.mono (fun y m=>by first | exact m | simp [m] | (simp only[AB] at m ⊢;rcases m with m | m<;>simp [m])))
 clear on1 h1
 go_wp2_with fail
 go_ret
 exact ⟨ZJK rfl,G1.out,O1.out⟩
theorem ZPF (cs:List Value) (x:Zb) (L:List Nat) (base:Nat) (k:Int) (w:World) (hk0:1≤k) (hk1:ZPq k x≤4611686018427387904) (h:Got ZJZ base cs x L w):
  Calls prog 55 #[.agg cs.toArray,.int .i64 k] w fun e w'=>e=.returned (.int .i64 (ZPq k x))∧Got ZJZ base cs (ZPJ k x) L w'∧Zby L w w':=by
 obtain ⟨hrep,ho⟩:=h
 obtain ⟨A1,c1,L1,rfl,hLL,t0,n1,m1,s1⟩:=hrep
 subst L
 refine (ZPH x A1 c1 L1 base k w hk0 hk1 (by unfold maxLen at m1;omega) ⟨⟨A1,c1,rfl,n1,m1,s1⟩,ho⟩ ).mono ?_
 rintro e w' ⟨rfl,g1,on⟩
 obtain ⟨nn1,mm1,ss1⟩:=ZJB g1.rep
 refine ⟨rfl,⟨⟨A1,c1,L1,by simp [ZPJ,ZKf],rfl,t0,nn1,mm1,ss1⟩,ho.nodup,ho.ge,fun y m=>?_⟩,on⟩
 try simp only[AB] at m
 exact g1.own.plain y m
set_option maxRecDepth 100000 in
set_option maxHeartbeats 4000000 in
theorem ZLM (A:Option Addr) (n c:Nat) (ds:List Zt) (L:List Nat) (base:Nat) (k:Int) (w:World) (hn:n=ds.length) (hm:n≤9223372036854775807) (hk0:1≤k) (hk1:ZJQ k ds≤4611686018427387904) (h:Got (ZlE ZKb) base [.slice A n c] ds L w):
  Calls prog 100 #[.slice A n c,.int .i64 k] w fun e w'=>e=.returned (.int .i64 (ZJQ k ds))∧Got (ZlE ZKb) base [.slice A n c] (ZKi k ds) L w'∧Zby L w w':=by
 have H:=Lib.hid h
 have HN:=Lib.hid hn
 have HK:=Lib.hid hk1
 clear h hn hk1
 go_enter func100,ntmps100
 go_wp2
 go_loopw [1,5] (fun q j wr=>∃(i:Nat) (kk:Int) (D:List Zt),i≤n∧j=.int .i64 i∧q=.int .i64 kk∧1≤kk∧Hid (ZJQ kk (ds.drop i)=ZJQ k ds∧D.length=i∧D++ZKi kk (ds.drop i)=ZKi k ds)∧Hid (Got (ZlE ZKb) base [.slice A n c] (D++ds.drop i) L wr)∧Hid (Zby L w wr)) (fun _ j _=>n - (intOf j).toNat)
 case atStart=>exact ⟨0,k,[],A3 _,rfl,rfl,hk0,⟨rfl,rfl,rfl⟩,H.out,Zby.refl _ _⟩
 case round=>
  obtain ⟨i,kk,D,hi,rfl,rfl,h1,HD,HG,HO⟩:=hrel
  by_cases hlt:i<n
  ·have hil:i<ds.length:=by have:=HN.out;omega
   obtain ⟨hkk,hDl,hDm⟩:=HD.out
   have hcl:i<(D++ds.drop i).length:=by simp;omega
   obtain ⟨b,off,cs,Lk,rfl,hbL,hLk,hown,hrep,hcells,hput⟩:=HG.out.focus hcl
   have hnext:Hid (ds.drop i=ds[i]::ds.drop (i+1)):=A6 _
   have hxi:(D++ds.drop i)[i]=ds[i]:=by
    rw [AJ (by omega)];simp [hDl]
   rw [hxi] at hrep
   clear hxi
   generalize ds[i]=x at hrep hnext
   have hnb:Hid (ZJ7 kk x≤4611686018427387904):=by
    have:=ZKJ (ZJ7 kk x) (ds.drop (i+1))
    rw [hnext.out] at hkk
    have hk:=HK.out
    rw [←hkk] at hk
    exact AD this hk
   have hnb1:=hnb.out
   have hnb2:=ZLg kk x
   unfold ZJ7 at hnb1 hnb2
   have HDn:Hid (ZJQ (ZJ7 kk x) (ds.drop (i+1))=ZJQ k ds∧(D++[ZK5 kk x]).length=i+1∧(D++[ZK5 kk x])++ZKi (ZJ7 kk x) (ds.drop (i+1))=ZKi k ds):=by
    refine ⟨by rw [←hkk,hnext.out];rfl,by simp [hDl],?_⟩
    rw [←hDm,hnext.out];simp [ZKi]
   have hset:Hid ((D++ds.drop i).set i (ZK5 kk x)=(D++[ZK5 kk x])++ds.drop (i+1)):=by
    rw [Hid,AE _ _ (by omega),show i - D.length=0 by omega,hnext.out,AF];simp
   obtain ⟨A1,c1,L1,rfl,hLL,t0,t1,t2,n1,m1,s1⟩:=hrep
   unfold maxLen at m1
   subst Lk
   have HEl:=Lib.hid (Zgq.start (m:=5) hcells rfl hown)
   have hbn:=Lib.hid hown.head
   have G1:Hid (Got (ZlE ZEr) base [.slice A1 x.pattern.args.length c1] x.pattern.args L1 wr):=⟨⟨A1,c1,rfl,n1,(by unfold maxLen;omega),s1⟩,hown.tail⟩
   have bn1:Hid (b∉L1):=fun m=>hown.head (by simp [m])
   have sb1:Hid (∀y∈L1,y∈L1):=fun y m=>by simp [m]
   clear s1
   have HPut:=Lib.hid hput
   have HOwn:=Lib.hid hown
   have HLk:=Lib.hid hLk
   clear hput hown hLk hcells hkk hDl hDm
   simp only[show ZKb.size=5 from rfl] at HEl HPut
   have q0:=HEl.out.at (j:=0) rfl
   have z0:=HEl.out.frozen (off+i * 5)
   have q1:=HEl.out.at (j:=1) rfl
   have z1:=HEl.out.frozen (off+i * 5+1)
   have q2:=HEl.out.at (j:=2) rfl
   have z2:=HEl.out.frozen (off+i * 5+2)
   have q3:=HEl.out.at (j:=3) rfl
   have z3:=HEl.out.frozen (off+i * 5+3)
   have q4:=HEl.out.at (j:=4) rfl
   have z4:=HEl.out.frozen (off+i * 5+4)
   simp only[A0] at q0
   have gm0:(0:Int)≤0:=by omega
   have mono_x_pattern_args:=ZJ3 (kk+1+1) x.pattern.args
   go_wp2_with fail
   refine (ZJ1 _ _ (by omega) (by omega)).mono ?_
   rintro e w1 ⟨rfl,hb1⟩
   have HEl:=Lib.hid ((HEl.out.set 0 (by omega) (.int .i64 (kk))).later hb1)
   have G1:=Lib.hid ((G1.out.setFar (p:=⟨b,off+i * 5+0,none⟩) bn1.out (.int .i64 (kk))).later hb1)
   clear hb1
   clear q0 z0 q1 z1 q2 z2 q3 z3 q4 z4
   have q0:=HEl.out.at (j:=0) rfl
   have z0:=HEl.out.frozen (off+i * 5)
   have q1:=HEl.out.at (j:=1) rfl
   have z1:=HEl.out.frozen (off+i * 5+1)
   have q2:=HEl.out.at (j:=2) rfl
   have z2:=HEl.out.frozen (off+i * 5+2)
   have q3:=HEl.out.at (j:=3) rfl
   have z3:=HEl.out.frozen (off+i * 5+3)
   have q4:=HEl.out.at (j:=4) rfl
   have z4:=HEl.out.frozen (off+i * 5+4)
   simp only[A0] at q0
   go_wp2_with fail
   have G1:=Lib.hid (G1.out.setFar (p:=⟨b,off+i * 5+1,none⟩) bn1.out (.string (mTx (kk+1))))
   refine (ZKo A1 _ c1 x.pattern.args L1 base _ _ rfl (by omega) (by omega) G1.out).mono ?_
   rintro e w2 ⟨rfl,g2,on2⟩
   have HEl:=Lib.hid ((HEl.out.set 1 (by omega) (.string (mTx (kk+1)))).marked on2 sb1.out bn1.out)
   have G1:=Lib.hid g2
   clear g2 on2
   clear q0 z0 q1 z1 q2 z2 q3 z3 q4 z4
   have q0:=HEl.out.at (j:=0) rfl
   have z0:=HEl.out.frozen (off+i * 5)
   have q1:=HEl.out.at (j:=1) rfl
   have z1:=HEl.out.frozen (off+i * 5+1)
   have q2:=HEl.out.at (j:=2) rfl
   have z2:=HEl.out.frozen (off+i * 5+2)
   have q3:=HEl.out.at (j:=3) rfl
   have z3:=HEl.out.frozen (off+i * 5+3)
   have q4:=HEl.out.at (j:=4) rfl
   have z4:=HEl.out.frozen (off+i * 5+4)
   simp only[A0] at q0
   go_wp2_with fail
   refine (ZJ1 _ _ (by omega) (by omega)).mono ?_
   rintro e w3 ⟨rfl,hb3⟩
   have HEl:=Lib.hid (HEl.out.later hb3)
   have G1:=Lib.hid (G1.out.later hb3)
   clear hb3
   clear q0 z0 q1 z1 q2 z2 q3 z3 q4 z4
   have q0:=HEl.out.at (j:=0) rfl
   have z0:=HEl.out.frozen (off+i * 5)
   have q1:=HEl.out.at (j:=1) rfl
   have z1:=HEl.out.frozen (off+i * 5+1)
   have q2:=HEl.out.at (j:=2) rfl
   have z2:=HEl.out.frozen (off+i * 5+2)
   have q3:=HEl.out.at (j:=3) rfl
   have z3:=HEl.out.frozen (off+i * 5+3)
   have q4:=HEl.out.at (j:=4) rfl
   have z4:=HEl.out.frozen (off+i * 5+4)
   simp only[A0] at q0
   go_wp2_with fail
   refine (ZJ1 _ _ (by omega) (by omega)).mono ?_
   rintro e w4 ⟨rfl,hb4⟩
   have HEl:=Lib.hid ((HEl.out.set 3 (by omega) (.string (mTx (ZJA (kk+1+1) x.pattern.args)))).later hb4)
   have G1:=Lib.hid ((G1.out.setFar (p:=⟨b,off+i * 5+3,none⟩) bn1.out (.string (mTx (ZJA (kk+1+1) x.pattern.args)))).later hb4)
   clear hb4
   clear q0 z0 q1 z1 q2 z2 q3 z3 q4 z4
   have q0:=HEl.out.at (j:=0) rfl
   have z0:=HEl.out.frozen (off+i * 5)
   have q1:=HEl.out.at (j:=1) rfl
   have z1:=HEl.out.frozen (off+i * 5+1)
   have q2:=HEl.out.at (j:=2) rfl
   have z2:=HEl.out.frozen (off+i * 5+2)
   have q3:=HEl.out.at (j:=3) rfl
   have z3:=HEl.out.frozen (off+i * 5+3)
   have q4:=HEl.out.at (j:=4) rfl
   have z4:=HEl.out.frozen (off+i * 5+4)
   simp only[A0] at q0
   have HEl:=Lib.hid (HEl.out.set 4 (by omega) (.string (mTx (ZJA (kk+1+1) x.pattern.args+1))))
   have G1:=Lib.hid (G1.out.setFar (p:=⟨b,off+i * 5+4,none⟩) bn1.out (.string (mTx (ZJA (kk+1+1) x.pattern.args+1))))
   obtain ⟨nn1,mm1,ss1⟩:=ZJB G1.out.rep
   have hO2:=Lib.hid (ZJ9 HOwn.out HEl.out.plain HEl.out.only (fun y m=>by (try simp only[AB] at m);exact G1.out.own.plain y m))
   have HGn:=Lib.hid (HPut.out _ _ (ZK5 kk x) HEl.out.only HEl.out.cells HEl.out.rest ⟨A1,c1,L1,by simp [ZK5,ZKf],rfl,ZKw _ (by omega),ZKw _ (by omega),ZKw _ (by omega),nn1,mm1,ss1⟩ hO2.out)
   have HOn:=Lib.hid (HO.out.trans (HEl.out.only.mono (fun y m=>by rcases AG.1 m with rfl | m;exact hbL;exact HLk.out y m)))
   rw [hset.out] at HGn
   try simp only[A0] at HGn HOn
   clear HEl hO2 HPut G1 nn1 mm1 ss1
   go_wp2_with fail
   go_roundw
   case rel=>exact ⟨i+1,ZJ7 kk x,_,by omega,by go_num,rfl,by unfold ZJ7;omega,HDn,HGn,HOn⟩
   case measure=>simp [intOf];omega
  ·obtain rfl:i=n:=by omega
   have e:Hid (ds.drop i=[]):=A9 (by have:=HN.out;omega)
   have hf:Hid (ZJQ k ds=kk∧D=ZKi k ds):=by
    obtain ⟨h1,h2,h3⟩:=HD.out
    rw [e.out] at h3 h1
    simp [ZKi] at h3
    exact ⟨h1.symm,h3⟩
   rw [e.out,AH] at HG
   go_wp2
   go_ret
   exact ⟨ZJK hf.out.1.symm,by rw [←hf.out.2];exact HG.out,HO.out⟩
set_option maxRecDepth 100000 in
set_option maxHeartbeats 4000000 in
theorem ZLo (A:Option Addr) (n c:Nat) (ds:List Zz) (L:List Nat) (base:Nat) (k:Int) (w:World) (hn:n=ds.length) (hm:n≤9223372036854775807) (hk0:1≤k) (hk1:ZJT k ds≤4611686018427387904) (h:Got (ZlE ZJM) base [.slice A n c] ds L w):
  Calls prog 101 #[.slice A n c,.int .i64 k] w fun e w'=>e=.returned (.int .i64 (ZJT k ds))∧Got (ZlE ZJM) base [.slice A n c] (ZJ5 k ds) L w'∧Zby L w w':=by
 have H:=Lib.hid h
 have HN:=Lib.hid hn
 have HK:=Lib.hid hk1
 clear h hn hk1
 go_enter func101,ntmps101
 go_wp2
 go_loopw [1,5] (fun q j wr=>∃(i:Nat) (kk:Int) (D:List Zz),i≤n∧j=.int .i64 i∧q=.int .i64 kk∧1≤kk∧Hid (ZJT kk (ds.drop i)=ZJT k ds∧D.length=i∧D++ZJ5 kk (ds.drop i)=ZJ5 k ds)∧Hid (Got (ZlE ZJM) base [.slice A n c] (D++ds.drop i) L wr)∧Hid (Zby L w wr)) (fun _ j _=>n - (intOf j).toNat)
 case atStart=>exact ⟨0,k,[],A3 _,rfl,rfl,hk0,⟨rfl,rfl,rfl⟩,H.out,Zby.refl _ _⟩
 case round=>
  obtain ⟨i,kk,D,hi,rfl,rfl,h1,HD,HG,HO⟩:=hrel
  by_cases hlt:i<n
  ·have hil:i<ds.length:=by have:=HN.out;omega
   obtain ⟨hkk,hDl,hDm⟩:=HD.out
   have hcl:i<(D++ds.drop i).length:=by simp;omega
   obtain ⟨b,off,cs,Lk,rfl,hbL,hLk,hown,hrep,hcells,hput⟩:=HG.out.focus hcl
   have hnext:Hid (ds.drop i=ds[i]::ds.drop (i+1)):=A6 _
   have hxi:(D++ds.drop i)[i]=ds[i]:=by
    rw [AJ (by omega)];simp [hDl]
   rw [hxi] at hrep
   clear hxi
   generalize ds[i]=x at hrep hnext
   have hnb:Hid (ZJU kk x≤4611686018427387904):=by
    have:=ZKz (ZJU kk x) (ds.drop (i+1))
    rw [hnext.out] at hkk
    have hk:=HK.out
    rw [←hkk] at hk
    exact AD this hk
   have hnb1:=hnb.out
   have hnb2:=ZK3 kk x
   unfold ZJU at hnb1 hnb2
   have HDn:Hid (ZJT (ZJU kk x) (ds.drop (i+1))=ZJT k ds∧(D++[ZKA kk x]).length=i+1∧(D++[ZKA kk x])++ZJ5 (ZJU kk x) (ds.drop (i+1))=ZJ5 k ds):=by
    refine ⟨by rw [←hkk,hnext.out];rfl,by simp [hDl],?_⟩
    rw [←hDm,hnext.out];simp [ZJ5]
   have hset:Hid ((D++ds.drop i).set i (ZKA kk x)=(D++[ZKA kk x])++ds.drop (i+1)):=by
    rw [Hid,AE _ _ (by omega),show i - D.length=0 by omega,hnext.out,AF];simp
   obtain ⟨A1,c1,L1,rfl,hLL,t0,n1,m1,s1⟩:=hrep
   unfold maxLen at m1
   subst Lk
   have HEl:=Lib.hid (Zgq.start (m:=3) hcells rfl hown)
   have hbn:=Lib.hid hown.head
   have G1:Hid (Got (ZlE ZEr) base [.slice A1 x.pattern.args.length c1] x.pattern.args L1 wr):=⟨⟨A1,c1,rfl,n1,(by unfold maxLen;omega),s1⟩,hown.tail⟩
   have bn1:Hid (b∉L1):=fun m=>hown.head (by simp [m])
   have sb1:Hid (∀y∈L1,y∈L1):=fun y m=>by simp [m]
   clear s1
   have HPut:=Lib.hid hput
   have HOwn:=Lib.hid hown
   have HLk:=Lib.hid hLk
   clear hput hown hLk hcells hkk hDl hDm
   simp only[show ZJM.size=3 from rfl] at HEl HPut
   have q0:=HEl.out.at (j:=0) rfl
   have z0:=HEl.out.frozen (off+i * 3)
   have q1:=HEl.out.at (j:=1) rfl
   have z1:=HEl.out.frozen (off+i * 3+1)
   have q2:=HEl.out.at (j:=2) rfl
   have z2:=HEl.out.frozen (off+i * 3+2)
   simp only[A0] at q0
   have gm0:(0:Int)≤0:=by omega
   have mono_x_pattern_args:=ZJ3 (kk+1+1) x.pattern.args
   go_wp2_with fail
   refine (ZJ1 _ _ (by omega) (by omega)).mono ?_
   rintro e w1 ⟨rfl,hb1⟩
   have HEl:=Lib.hid ((HEl.out.set 0 (by omega) (.int .i64 (kk))).later hb1)
   have G1:=Lib.hid ((G1.out.setFar (p:=⟨b,off+i * 3+0,none⟩) bn1.out (.int .i64 (kk))).later hb1)
   clear hb1
   clear q0 z0 q1 z1 q2 z2
   have q0:=HEl.out.at (j:=0) rfl
   have z0:=HEl.out.frozen (off+i * 3)
   have q1:=HEl.out.at (j:=1) rfl
   have z1:=HEl.out.frozen (off+i * 3+1)
   have q2:=HEl.out.at (j:=2) rfl
   have z2:=HEl.out.frozen (off+i * 3+2)
   simp only[A0] at q0
   go_wp2_with fail
   have G1:=Lib.hid (G1.out.setFar (p:=⟨b,off+i * 3+1,none⟩) bn1.out (.string (mTx (kk+1))))
   refine (ZKo A1 _ c1 x.pattern.args L1 base _ _ rfl (by omega) (by omega) G1.out).mono ?_
   rintro e w2 ⟨rfl,g2,on2⟩
   have HEl:=Lib.hid ((HEl.out.set 1 (by omega) (.string (mTx (kk+1)))).marked on2 sb1.out bn1.out)
   have G1:=Lib.hid g2
   clear g2 on2
   clear q0 z0 q1 z1 q2 z2
   have q0:=HEl.out.at (j:=0) rfl
   have z0:=HEl.out.frozen (off+i * 3)
   have q1:=HEl.out.at (j:=1) rfl
   have z1:=HEl.out.frozen (off+i * 3+1)
   have q2:=HEl.out.at (j:=2) rfl
   have z2:=HEl.out.frozen (off+i * 3+2)
   simp only[A0] at q0
   obtain ⟨nn1,mm1,ss1⟩:=ZJB G1.out.rep
   have hO2:=Lib.hid (ZJ9 HOwn.out HEl.out.plain HEl.out.only (fun y m=>by (try simp only[AB] at m);exact G1.out.own.plain y m))
   have HGn:=Lib.hid (HPut.out _ _ (ZKA kk x) HEl.out.only HEl.out.cells HEl.out.rest ⟨A1,c1,L1,by simp [ZKA,ZKf],rfl,ZKw _ (by omega),nn1,mm1,ss1⟩ hO2.out)
   have HOn:=Lib.hid (HO.out.trans (HEl.out.only.mono (fun y m=>by rcases AG.1 m with rfl | m;exact hbL;exact HLk.out y m)))
   rw [hset.out] at HGn
   try simp only[A0] at HGn HOn
   clear HEl hO2 HPut G1 nn1 mm1 ss1
   go_wp2_with fail
   go_roundw
   case rel=>exact ⟨i+1,ZJU kk x,_,by omega,by go_num,rfl,by unfold ZJU;omega,HDn,HGn,HOn⟩
   case measure=>simp [intOf];omega
  ·obtain rfl:i=n:=by omega
   have e:Hid (ds.drop i=[]):=A9 (by have:=HN.out;omega)
   have hf:Hid (ZJT k ds=kk∧D=ZJ5 k ds):=by
    obtain ⟨h1,h2,h3⟩:=HD.out
    rw [e.out] at h3 h1
    simp [ZJ5] at h3
    exact ⟨h1.symm,h3⟩
   rw [e.out,AH] at HG
   go_wp2
   go_ret
   exact ⟨ZJK hf.out.1.symm,by rw [←hf.out.2];exact HG.out,HO.out⟩
set_option maxRecDepth 100000 in
set_option maxHeartbeats 4000000 in
theorem ZLE (A:Option Addr) (n c:Nat) (ds:List Zg) (L:List Nat) (base:Nat) (k:Int) (w:World) (hn:n=ds.length) (hm:n≤9223372036854775807) (hk0:1≤k) (hk1:ZJS k ds≤4611686018427387904) (h:Got (ZlE ZKa) base [.slice A n c] ds L w):
  Calls prog 40 #[.slice A n c,.int .i64 k] w fun e w'=>e=.returned (.int .i64 (ZJS k ds))∧Got (ZlE ZKa) base [.slice A n c] (ZKr k ds) L w'∧Zby L w w':=by
 have H:=Lib.hid h
 have HN:=Lib.hid hn
 have HK:=Lib.hid hk1
 clear h hn hk1
 go_enter func40,ntmps40
 go_wp2
 go_loopw [1,5] (fun q j wr=>∃(i:Nat) (kk:Int) (D:List Zg),i≤n∧j=.int .i64 i∧q=.int .i64 kk∧1≤kk∧Hid (ZJS kk (ds.drop i)=ZJS k ds∧D.length=i∧D++ZKr kk (ds.drop i)=ZKr k ds)∧Hid (Got (ZlE ZKa) base [.slice A n c] (D++ds.drop i) L wr)∧Hid (Zby L w wr)) (fun _ j _=>n - (intOf j).toNat)
 case atStart=>exact ⟨0,k,[],A3 _,rfl,rfl,hk0,⟨rfl,rfl,rfl⟩,H.out,Zby.refl _ _⟩
 case round=>
  obtain ⟨i,kk,D,hi,rfl,rfl,h1,HD,HG,HO⟩:=hrel
  by_cases hlt:i<n
  ·have hil:i<ds.length:=by have:=HN.out;omega
   obtain ⟨hkk,hDl,hDm⟩:=HD.out
   have hcl:i<(D++ds.drop i).length:=by simp;omega
   obtain ⟨b,off,cs,Lk,rfl,hbL,hLk,hown,hrep,hcells,hput⟩:=HG.out.focus hcl
   have hnext:Hid (ds.drop i=ds[i]::ds.drop (i+1)):=A6 _
   have hxi:(D++ds.drop i)[i]=ds[i]:=by
    rw [AJ (by omega)];simp [hDl]
   rw [hxi] at hrep
   clear hxi
   generalize ds[i]=x at hrep hnext
   have hnb:Hid (ZJ8 kk x≤4611686018427387904):=by
    have:=ZK8 (ZJ8 kk x) (ds.drop (i+1))
    rw [hnext.out] at hkk
    have hk:=HK.out
    rw [←hkk] at hk
    exact AD this hk
   have hnb1:=hnb.out
   have hnb2:=ZLh kk x
   unfold ZJ8 at hnb1 hnb2
   have HDn:Hid (ZJS (ZJ8 kk x) (ds.drop (i+1))=ZJS k ds∧(D++[ZK4 kk x]).length=i+1∧(D++[ZK4 kk x])++ZKr (ZJ8 kk x) (ds.drop (i+1))=ZKr k ds):=by
    refine ⟨by rw [←hkk,hnext.out];rfl,by simp [hDl],?_⟩
    rw [←hDm,hnext.out];simp [ZKr]
   have hset:Hid ((D++ds.drop i).set i (ZK4 kk x)=(D++[ZK4 kk x])++ds.drop (i+1)):=by
    rw [Hid,AE _ _ (by omega),show i - D.length=0 by omega,hnext.out,AF];simp
   obtain ⟨A1,c1,L1,A2,c2,L2,rfl,hLL,t0,n1,m1,s1,n2,m2,s2⟩:=hrep
   unfold maxLen at m1 m2
   subst hLL
   have HEl:=Lib.hid (Zgq.start (m:=4) hcells rfl hown)
   have hbn:=Lib.hid hown.head
   have G1:Hid (Got (ZlE ZKb) base [.slice A1 x.cond.length c1] x.cond L1 wr):=⟨⟨A1,c1,rfl,n1,(by unfold maxLen;omega),s1⟩,hown.tail.left⟩
   have bn1:Hid (b∉L1):=fun m=>hown.head (by simp [m])
   have sb1:Hid (∀y∈L1,y∈L1++L2):=fun y m=>by simp [m]
   have ap1_2:Hid (∀y∈L1,y∉L2):=fun y m m'=>hown.tail.apart y m (by simp [m'])
   have ap2_1:Hid (∀y∈L2,y∉L1):=fun y m m'=>ap1_2.out y m' m
   have G2:Hid (Got (ZlE ZJM) base [.slice A2 x.thn.length c2] x.thn L2 wr):=⟨⟨A2,c2,rfl,n2,(by unfold maxLen;omega),s2⟩,hown.tail.right⟩
   have bn2:Hid (b∉L2):=fun m=>hown.head (by simp [m])
   have sb2:Hid (∀y∈L2,y∈L1++L2):=fun y m=>by simp [m]
   clear s1
   clear s2
   have HPut:=Lib.hid hput
   have HOwn:=Lib.hid hown
   have HLk:=Lib.hid hLk
   clear hput hown hLk hcells hkk hDl hDm
   simp only[show ZKa.size=4 from rfl] at HEl HPut
   have q0:=HEl.out.at (j:=0) rfl
   have z0:=HEl.out.frozen (off+i * 4)
   have q1:=HEl.out.at (j:=1) rfl
   have z1:=HEl.out.frozen (off+i * 4+1)
   have q2:=HEl.out.at (j:=2) rfl
   have z2:=HEl.out.frozen (off+i * 4+2)
   have q3:=HEl.out.at (j:=3) rfl
   have z3:=HEl.out.frozen (off+i * 4+3)
   simp only[A0] at q0
   have gm0:(0:Int)≤0:=by omega
   have mono_x_cond:=ZKJ (kk+1+1) x.cond
   have mono_x_thn:=ZKz (ZJQ (kk+1+1) x.cond) x.thn
   go_wp2_with fail
   refine (ZJ1 _ _ (by omega) (by omega)).mono ?_
   rintro e w1 ⟨rfl,hb1⟩
   have HEl:=Lib.hid (HEl.out.later hb1)
   have G1:=Lib.hid (G1.out.later hb1)
   have G2:=Lib.hid (G2.out.later hb1)
   clear hb1
   clear q0 z0 q1 z1 q2 z2 q3 z3
   have q0:=HEl.out.at (j:=0) rfl
   have z0:=HEl.out.frozen (off+i * 4)
   have q1:=HEl.out.at (j:=1) rfl
   have z1:=HEl.out.frozen (off+i * 4+1)
   have q2:=HEl.out.at (j:=2) rfl
   have z2:=HEl.out.frozen (off+i * 4+2)
   have q3:=HEl.out.at (j:=3) rfl
   have z3:=HEl.out.frozen (off+i * 4+3)
   simp only[A0] at q0
   go_wp2_with fail
   have G1:=Lib.hid ((G1.out.setFar (p:=⟨b,off+i * 4+0,none⟩) bn1.out (.string (mTx (kk)))).setFar (p:=⟨b,off+i * 4+1,none⟩) bn1.out (.int .i64 (kk+1)))
   refine (ZLM A1 _ c1 x.cond L1 base _ _ rfl (by omega) (by omega) (by omega) G1.out).mono ?_
   rintro e w2 ⟨rfl,g2,on2⟩
   have HEl:=Lib.hid (((HEl.out.set 0 (by omega) (.string (mTx (kk)))).set 1 (by omega) (.int .i64 (kk+1))).marked on2 sb1.out bn1.out)
   have G1:=Lib.hid g2
   have G2:=Lib.hid (((G2.out.setFar (p:=⟨b,off+i * 4+0,none⟩) bn2.out (.string (mTx (kk)))).setFar (p:=⟨b,off+i * 4+1,none⟩) bn2.out (.int .i64 (kk+1))).only on2 ap2_1.out)
   clear g2 on2
   clear q0 z0 q1 z1 q2 z2 q3 z3
   have q0:=HEl.out.at (j:=0) rfl
   have z0:=HEl.out.frozen (off+i * 4)
   have q1:=HEl.out.at (j:=1) rfl
   have z1:=HEl.out.frozen (off+i * 4+1)
   have q2:=HEl.out.at (j:=2) rfl
   have z2:=HEl.out.frozen (off+i * 4+2)
   have q3:=HEl.out.at (j:=3) rfl
   have z3:=HEl.out.frozen (off+i * 4+3)
   simp only[A0] at q0
   go_wp2_with fail
   refine (ZLo A2 _ c2 x.thn L2 base _ _ rfl (by omega) (by omega) (by omega) G2.out).mono ?_
   rintro e w3 ⟨rfl,g3,on3⟩
   have HEl:=Lib.hid (HEl.out.marked on3 sb2.out bn2.out)
   have G1:=Lib.hid (G1.out.only on3 ap1_2.out)
   have G2:=Lib.hid g3
   clear g3 on3
   clear q0 z0 q1 z1 q2 z2 q3 z3
   have q0:=HEl.out.at (j:=0) rfl
   have z0:=HEl.out.frozen (off+i * 4)
   have q1:=HEl.out.at (j:=1) rfl
   have z1:=HEl.out.frozen (off+i * 4+1)
   have q2:=HEl.out.at (j:=2) rfl
   have z2:=HEl.out.frozen (off+i * 4+2)
   have q3:=HEl.out.at (j:=3) rfl
   have z3:=HEl.out.frozen (off+i * 4+3)
   simp only[A0] at q0
   obtain ⟨nn1,mm1,ss1⟩:=ZJB G1.out.rep
   obtain ⟨nn2,mm2,ss2⟩:=ZJB G2.out.rep
   have hO2:=Lib.hid (ZJ9 HOwn.out HEl.out.plain HEl.out.only (fun y m=>by (try simp only[AB] at m);rcases m with m | m<;>first | exact G1.out.own.plain y m | exact G2.out.own.plain y m))
   have HGn:=Lib.hid (HPut.out _ _ (ZK4 kk x) HEl.out.only HEl.out.cells HEl.out.rest ⟨A1,c1,L1,A2,c2,L2,by simp [ZK4,ZMg,ZLB],rfl,ZKw _ (by omega),nn1,mm1,ss1,nn2,mm2,ss2⟩ hO2.out)
   have HOn:=Lib.hid (HO.out.trans (HEl.out.only.mono (fun y m=>by rcases AG.1 m with rfl | m;exact hbL;exact HLk.out y m)))
   rw [hset.out] at HGn
   try simp only[A0] at HGn HOn
   clear HEl hO2 HPut G1 G2 nn1 nn2 mm1 mm2 ss1 ss2
   go_wp2_with fail
   go_roundw
   case rel=>exact ⟨i+1,ZJ8 kk x,_,by omega,by go_num,rfl,by unfold ZJ8;omega,HDn,HGn,HOn⟩
   case measure=>simp [intOf];omega
  ·obtain rfl:i=n:=by omega
   have e:Hid (ds.drop i=[]):=A9 (by have:=HN.out;omega)
   have hf:Hid (ZJS k ds=kk∧D=ZKr k ds):=by
    obtain ⟨h1,h2,h3⟩:=HD.out
    rw [e.out] at h3 h1
    simp [ZKr] at h3
    exact ⟨h1.symm,h3⟩
   rw [e.out,AH] at HG
   go_wp2
   go_ret
   exact ⟨ZJK hf.out.1.symm,by rw [←hf.out.2];exact HG.out,HO.out⟩
set_option maxRecDepth 100000 in
set_option maxHeartbeats 4000000 in
theorem ZPy (A:Option Addr) (n c:Nat) (ds:List (List Zb)) (L:List Nat) (base:Nat) (k:Int) (w:World) (hn:n=ds.length) (hm:n≤9223372036854775807) (hk0:1≤k) (hk1:ZPo k ds≤4611686018427387904) (h:Got (ZlE (ZlE ZJZ)) base [.slice A n c] ds L w):
  Calls prog 56 #[.slice A n c,.int .i64 k] w fun e w'=>e=.returned (.int .i64 (ZPo k ds))∧Got (ZlE (ZlE ZJZ)) base [.slice A n c] (ZPp k ds) L w'∧Zby L w w':=by
 have H:=Lib.hid h
 have HN:=Lib.hid hn
 have HK:=Lib.hid hk1
 clear h hn hk1
 go_enter func56,ntmps56
 go_wp2
 go_loopw [1,5] (fun q j wr=>∃(i:Nat) (kk:Int) (D:List (List Zb)),i≤n∧j=.int .i64 i∧q=.int .i64 kk∧1≤kk∧Hid (ZPo kk (ds.drop i)=ZPo k ds∧D.length=i∧D++ZPp kk (ds.drop i)=ZPp k ds)∧Hid (Got (ZlE (ZlE ZJZ)) base [.slice A n c] (D++ds.drop i) L wr)∧Hid (Zby L w wr)) (fun _ j _=>n - (intOf j).toNat)
 case atStart=>exact ⟨0,k,[],A3 _,rfl,rfl,hk0,⟨rfl,rfl,rfl⟩,H.out,Zby.refl _ _⟩
 case round=>
  obtain ⟨i,kk,D,hi,rfl,rfl,h1,HD,HG,HO⟩:=hrel
  by_cases hlt:i<n
  ·have hil:i<ds.length:=by have:=HN.out;omega
   obtain ⟨hkk,hDl,hDm⟩:=HD.out
   have hcl:i<(D++ds.drop i).length:=by simp;omega
   obtain ⟨b,off,cs,Lk,rfl,hbL,hLk,hown,hrep,hcells,hput⟩:=HG.out.focus hcl
   have hnext:Hid (ds.drop i=ds[i]::ds.drop (i+1)):=A6 _
   have hxi:(D++ds.drop i)[i]=ds[i]:=by
    rw [AJ (by omega)];simp [hDl]
   rw [hxi] at hrep
   clear hxi
   generalize ds[i]=x at hrep hnext
   have hnb:Hid (ZJy kk x≤4611686018427387904):=by
    have:=ZPt (ZJy kk x) (ds.drop (i+1))
    rw [hnext.out] at hkk
    have hk:=HK.out
    rw [←hkk] at hk
    exact AD this hk
   have hnb1:=hnb.out
   have hnb2:=ZKs kk x
   have HDn:Hid (ZPo (ZJy kk x) (ds.drop (i+1))=ZPo k ds∧(D++[ZJ4 kk x]).length=i+1∧(D++[ZJ4 kk x])++ZPp (ZJy kk x) (ds.drop (i+1))=ZPp k ds):=by
    refine ⟨by rw [←hkk,hnext.out];rfl,by simp [hDl],?_⟩
    rw [←hDm,hnext.out];simp [ZPp]
   have hset:Hid ((D++ds.drop i).set i (ZJ4 kk x)=(D++[ZJ4 kk x])++ds.drop (i+1)):=by
    rw [Hid,AE _ _ (by omega),show i - D.length=0 by omega,hnext.out,AF];simp
   obtain ⟨A1,c1,rfl,n1,m1,s1⟩:=hrep
   unfold maxLen at m1
   have HEl:=Lib.hid (Zgq.start (m:=1) hcells rfl hown)
   have hbn:=Lib.hid hown.head
   have G1:Hid (Got (ZlE ZJZ) base [.slice A1 x.length c1] x Lk wr):=⟨⟨A1,c1,rfl,n1,(by unfold maxLen;omega),s1⟩,hown.tail⟩
   have bn1:Hid (b∉Lk):=fun m=>hown.head (by simp [m])
   have sb1:Hid (∀y∈Lk,y∈Lk):=fun y m=>by simp [m]
   clear s1
   have HPut:=Lib.hid hput
   have HOwn:=Lib.hid hown
   have HLk:=Lib.hid hLk
   clear hput hown hLk hcells hkk hDl hDm
   simp only[show (ZlE ZJZ).size=1 from rfl,AA] at HEl HPut
   have q0:=HEl.out.at (j:=0) rfl
   have z0:=HEl.out.frozen (off+i)
   simp only[A0] at q0
   have gm0:(0:Int)≤0:=by omega
   have mono_x:=ZKs (kk) x
   go_wp2_with fail
   refine (ZKY A1 _ c1 x Lk base _ _ rfl (by omega) (by omega) (by omega) G1.out).mono ?_
   rintro e w1 ⟨rfl,g1,on1⟩
   have HEl:=Lib.hid (HEl.out.marked on1 sb1.out bn1.out)
   have G1:=Lib.hid g1
   clear g1 on1
   clear q0 z0
   have q0:=HEl.out.at (j:=0) rfl
   have z0:=HEl.out.frozen (off+i)
   simp only[A0] at q0
   obtain ⟨nn1,mm1,ss1⟩:=ZJB G1.out.rep
   have hO2:=Lib.hid (ZJ9 HOwn.out HEl.out.plain HEl.out.only (fun y m=>by (try simp only[AB] at m);exact G1.out.own.plain y m))
   have HGn:=Lib.hid (HPut.out _ _ (ZJ4 kk x) HEl.out.only HEl.out.cells HEl.out.rest ⟨A1,c1,by simp [ZMk],nn1,mm1,ss1⟩ hO2.out)
   have HOn:=Lib.hid (HO.out.trans (HEl.out.only.mono (fun y m=>by rcases AG.1 m with rfl | m;exact hbL;exact HLk.out y m)))
   rw [hset.out] at HGn
   try simp only[A0] at HGn HOn
   clear HEl hO2 HPut G1 nn1 mm1 ss1
   go_wp2_with fail
   go_roundw
   case rel=>exact ⟨i+1,ZJy kk x,_,by omega,by go_num,rfl,by omega,HDn,HGn,HOn⟩
   case measure=>simp [intOf];omega
  ·obtain rfl:i=n:=by omega
   have e:Hid (ds.drop i=[]):=A9 (by have:=HN.out;omega)
   have hf:Hid (ZPo k ds=kk∧D=ZPp k ds):=by
    obtain ⟨h1,h2,h3⟩:=HD.out
    rw [e.out] at h3 h1
    simp [ZPp] at h3
    exact ⟨h1.symm,h3⟩
   rw [e.out,AH] at HG
   go_wp2
   go_ret
   exact ⟨ZJK hf.out.1.symm,by rw [←hf.out.2];exact HG.out,HO.out⟩
end
section
open Go.RowKit
theorem ZK1 {w w1:World} {B:Nat} (h:Below w.drew.heap.size w.drew w1) (hB:B≤w.heap.size):Below B w w1:=⟨h.os,h.tape,h.output,h.size,fun k hk=>h.block k (AC hk hB)⟩
set_option maxHeartbeats 1600000 in
theorem ZLl (A:Option Addr) (n c:Nat) (ds:List ByteArray) (L:List Nat) (k:Int) (w:World) (hn:n=ds.length) (hk0:1≤k) (hk1:ZJA k ds≤4611686018427387904) (h:Sli ZEr w A (ZJI k ds) L):
  Calls prog 105 #[.slice A n c,.int .i64 k] w fun e w'=>e=.returned (.int .i64 (ZJA k ds))∧Below w.heap.size w w':=by
 have H:=Lib.hid h
 have HN:=Lib.hid hn
 have hk1':k+n≤4611686018427387904:=by simp only[ZJA] at hk1;omega
 clear h hn hk1
 go_enter func105,ntmps105
 go_wp2
 go_loopw [1,5] (fun q j wr=>∃(i:Nat) (kk:Int),i≤n∧j=.int .i64 i∧q=.int .i64 kk∧1≤kk∧kk+(n - i:Nat)≤4611686018427387904∧Hid (kk=k+i∧(ZJI k ds).drop i=ZJI kk (ds.drop i))∧Hid (Below w.heap.size w wr)) (fun _ j _=>n - (intOf j).toNat)
 case atStart=>exact ⟨0,k,A3 _,rfl,rfl,hk0,by omega,⟨by omega,rfl⟩,Below.refl _ _⟩
 case round=>
  obtain ⟨i,kk,hi,rfl,rfl,h1,h2,HD,HB⟩:=hrel
  by_cases hlt:i<n
  ·have hil:i<ds.length:=by have:=HN.out;omega
   obtain ⟨hkk,hdr⟩:=HD.out
   have hml:i<(ZJI k ds).length:=by rw [ZKf];exact hil
   obtain ⟨b,off,cs,Lk,rfl,hbL,_,hrep,hc⟩:=H.out.at_ hml
   have hdr2:=hdr
   rw [A6 hml,A6 hil,ZJI] at hdr2
   injection hdr2 with e1 e2
   rw [e1] at hrep
   obtain ⟨rfl,_,_⟩:=hrep
   have hbl:b<w.heap.size:=H.out.lt b hbL
   have hbr:b<wr.heap.size:=AC hbl HB.out.size
   have q0:=(HB.out.cell (p:=⟨b,off+(i * ZEr.size+0),none⟩) hbl).trans (hc 0 _ rfl)
   simp only[show ZEr.size=1 from rfl,AA,A0] at q0
   have HDn:Hid (kk+1=k+(i+1:Nat)∧(ZJI k ds).drop (i+1)=ZJI (kk+1) (ds.drop (i+1))):=⟨by omega,e2⟩
   clear hc hkk hdr e1 e2
   have i0:(0:Int)≤i:=by omega
   have i1:(i:Int)<n:=by omega
   go_wp2_with fail
   go_region_held3 (fun w'=>w'.cell? ⟨b,off+i,none⟩=some (.string (mTx kk))) (first | go_keep | exact (hb1.cell (p:=⟨b,off+i,none⟩) hbr).trans q0) (first | (go_at_call 99;refine (ZJ1 _ _ (by omega) (by omega)).mono ?_;rintro e w1 ⟨rfl,hb1⟩))
   have HBn:=Lib.hid (HB.out.trans (ZK1 hb1 HB.out.size))
   clear hb1
   go_wp2_with fail
   go_roundw
   case rel=>exact ⟨i+1,kk+1,by omega,by go_num,rfl,by omega,by omega,HDn,HBn⟩
   case measure=>simp [intOf];omega
  ·obtain rfl:i=n:=by omega
   have hf:Hid (ZJA k ds=kk):=by
    obtain ⟨h1,_⟩:=HD.out
    have:=HN.out;rw [Hid];simp only[ZJA];omega
   go_wp2
   go_ret
   exact ⟨ZJK hf.out.symm,HB.out⟩
set_option maxRecDepth 100000 in
set_option maxHeartbeats 4000000 in
theorem ZKZ (A:Option Addr) (n c:Nat) (ds:List Zb) (L:List Nat) (k:Int) (w:World) (hn:n=ds.length) (hm:n≤9223372036854775807) (hk0:1≤k) (hk1:ZJy k ds≤4611686018427387904) (h:Sli ZJZ w A (ZJ4 k ds) L):
  Calls prog 43 #[.slice A n c,.int .i64 k] w fun e w'=>e=.returned (.int .i64 (ZJy k ds))∧Below w.heap.size w w':=by
 have H:=Lib.hid h
 have HN:=Lib.hid hn
 have HK:=Lib.hid hk1
 clear h hn hk1
 go_enter func43,ntmps43
 go_wp2
 go_loopw [1,5] (fun q j wr=>∃(i:Nat) (kk:Int),i≤n∧j=.int .i64 i∧q=.int .i64 kk∧1≤kk∧Hid (ZJy kk (ds.drop i)=ZJy k ds∧(ZJ4 k ds).drop i=ZJ4 kk (ds.drop i))∧Hid (Below w.heap.size w wr)) (fun _ j _=>n - (intOf j).toNat)
 case atStart=>exact ⟨0,k,A3 _,rfl,rfl,hk0,⟨rfl,rfl⟩,Below.refl _ _⟩
 case round=>
  obtain ⟨i,kk,hi,rfl,rfl,h1,HD,HB⟩:=hrel
  by_cases hlt:i<n
  ·have hil:i<ds.length:=by have:=HN.out;omega
   obtain ⟨hkk,hdr⟩:=HD.out
   have hml:i<(ZJ4 k ds).length:=by rw [ZMk];exact hil
   obtain ⟨b,off,cs,Lk,rfl,hbL,hLk,hrep,hc⟩:=H.out.at_ hml
   rw [A6 hml,A6 hil,ZJ4] at hdr
   injection hdr with e1 e2
   rw [e1] at hrep
   clear e1
   have hnext:ds.drop i=ds[i]::ds.drop (i+1):=A6 _
   rw [hnext] at hkk
   clear hnext
   generalize ds[i]=x at hrep hkk e2
   have hnb:Hid (ZJP kk x≤4611686018427387904):=by
    have:=ZKs (ZJP kk x) (ds.drop (i+1))
    have hk:=HK.out
    rw [←hkk] at hk
    exact AD this hk
   have hnb1:=hnb.out
   have hnb2:=ZKO kk x
   unfold ZJP at hnb1 hnb2
   have HDn:Hid (ZJy (ZJP kk x) (ds.drop (i+1))=ZJy k ds∧(ZJ4 k ds).drop (i+1)=ZJ4 (ZJP kk x) (ds.drop (i+1))):=⟨hkk,e2⟩
   have hbl:b<w.heap.size:=H.out.lt b hbL
   clear hkk e2
   obtain ⟨A1,c1,L1,rfl,hLL,t0,n1,m1,s1⟩:=hrep
   have S1:=Lib.hid s1
   have lL1:Hid (∀y∈L1,y<w.heap.size):=fun y m=>H.out.lt y (hLk y (by rw [hLL];simp [m]))
   have ll1:(ZKK kk x).args.length=x.args.length:=ZKf _ _
   clear s1
   have Q0:=Lib.hid (hc 0 _ rfl)
   have Q1:=Lib.hid (hc 1 _ rfl)
   unfold maxLen at m1
   rw [ll1] at Q1 n1
   clear hc ll1
   have i0:(0:Int)≤i:=by omega
   have i1:(i:Int)<n:=by omega
   have mono_x_args:=ZJ3 (kk+1) x.args
   have q0:wr.cell? ⟨b,off+i * 2,none⟩=some (.string (mTx (kk))):=(HB.out.cell (p:=⟨b,off+(i * 2+0),none⟩) hbl).trans Q0.out
   have q1:wr.cell? ⟨b,off+i * 2+1,none⟩=some (.slice A1 x.args.length c1):=(HB.out.cell (p:=⟨b,off+(i * 2+1),none⟩) hbl).trans Q1.out
   have hbr:b<wr.heap.size:=AC hbl HB.out.size
   go_wp2_with fail
   go_region_held3 (fun w'=>w'.cell? ⟨b,off+i * 2,none⟩=some (.string (mTx (kk)))) (first | go_keep | exact (hb1.cell (p:=⟨b,off+i * 2,none⟩) hbr).trans q0) (first | (go_at_call 99;refine (ZJ1 _ _ (by omega) (by omega)).mono ?_;rintro e w1 ⟨rfl,hb1⟩))
   have HB:=Lib.hid (HB.out.trans (ZK1 hb1 HB.out.size))
   clear hb1
   clear q0 q1
   have q0:w1.cell? ⟨b,off+i * 2,none⟩=some (.string (mTx (kk))):=(HB.out.cell (p:=⟨b,off+(i * 2+0),none⟩) hbl).trans Q0.out
   have q1:w1.cell? ⟨b,off+i * 2+1,none⟩=some (.slice A1 x.args.length c1):=(HB.out.cell (p:=⟨b,off+(i * 2+1),none⟩) hbl).trans Q1.out
   replace hbr:b<w1.heap.size:=AC hbl HB.out.size
   go_wp2_with fail
   refine (ZLl A1 _ c1 x.args L1 _ _ rfl (by omega) (by omega) (S1.out.keep (ZdM HB.out lL1.out))).mono ?_
   rintro e w2 ⟨rfl,hb2⟩
   have HB:=Lib.hid (HB.out.trans (hb2.mono HB.out.size))
   clear hb2
   clear q0 q1
   have q0:w2.cell? ⟨b,off+i * 2,none⟩=some (.string (mTx (kk))):=(HB.out.cell (p:=⟨b,off+(i * 2+0),none⟩) hbl).trans Q0.out
   have q1:w2.cell? ⟨b,off+i * 2+1,none⟩=some (.slice A1 x.args.length c1):=(HB.out.cell (p:=⟨b,off+(i * 2+1),none⟩) hbl).trans Q1.out
   replace hbr:b<w2.heap.size:=AC hbl HB.out.size
   have ge2:¬(ZJA (kk+1) x.args<0):=by omega
   go_wp2_with fail
   go_roundw
   case rel=>exact ⟨i+1,ZJP kk x,by omega,by go_num,rfl,by unfold ZJP;omega,HDn,HB⟩
   case measure=>simp [intOf];omega
  ·obtain rfl:i=n:=by omega
   have hf:Hid (ZJy k ds=kk):=by
    obtain ⟨h1,_⟩:=HD.out
    rw [Hid,←h1,A9 (by have:=HN.out;omega)];rfl
   go_wp2
   go_ret
   exact ⟨ZJK hf.out.symm,HB.out⟩
set_option maxRecDepth 100000 in
set_option maxHeartbeats 4000000 in
theorem ZPv (A:Option Addr) (n c:Nat) (ds:List (List Zb)) (L:List Nat) (k:Int) (w:World) (hn:n=ds.length) (hm:n≤9223372036854775807) (hk0:1≤k) (hk1:ZPo k ds≤4611686018427387904) (h:Sli (ZlE ZJZ) w A (ZPp k ds) L):
  Calls prog 57 #[.slice A n c,.int .i64 k] w fun e w'=>e=.returned (.int .i64 (ZPo k ds))∧Below w.heap.size w w':=by
 have H:=Lib.hid h
 have HN:=Lib.hid hn
 have HK:=Lib.hid hk1
 clear h hn hk1
 go_enter func57,ntmps57
 go_wp2
 go_loopw [1,5] (fun q j wr=>∃(i:Nat) (kk:Int),i≤n∧j=.int .i64 i∧q=.int .i64 kk∧1≤kk∧Hid (ZPo kk (ds.drop i)=ZPo k ds∧(ZPp k ds).drop i=ZPp kk (ds.drop i))∧Hid (Below w.heap.size w wr)) (fun _ j _=>n - (intOf j).toNat)
 case atStart=>exact ⟨0,k,A3 _,rfl,rfl,hk0,⟨rfl,rfl⟩,Below.refl _ _⟩
 case round=>
  obtain ⟨i,kk,hi,rfl,rfl,h1,HD,HB⟩:=hrel
  by_cases hlt:i<n
  ·have hil:i<ds.length:=by have:=HN.out;omega
   obtain ⟨hkk,hdr⟩:=HD.out
   have hml:i<(ZPp k ds).length:=by rw [ZPC];exact hil
   obtain ⟨b,off,cs,Lk,rfl,hbL,hLk,hrep,hc⟩:=H.out.at_ hml
   rw [A6 hml,A6 hil,ZPp] at hdr
   injection hdr with e1 e2
   rw [e1] at hrep
   clear e1
   have hnext:ds.drop i=ds[i]::ds.drop (i+1):=A6 _
   rw [hnext] at hkk
   clear hnext
   generalize ds[i]=x at hrep hkk e2
   have hnb:Hid (ZJy kk x≤4611686018427387904):=by
    have:=ZPt (ZJy kk x) (ds.drop (i+1))
    have hk:=HK.out
    rw [←hkk] at hk
    exact AD this hk
   have hnb1:=hnb.out
   have hnb2:=ZKs kk x
   have HDn:Hid (ZPo (ZJy kk x) (ds.drop (i+1))=ZPo k ds∧(ZPp k ds).drop (i+1)=ZPp (ZJy kk x) (ds.drop (i+1))):=⟨hkk,e2⟩
   have hbl:b<w.heap.size:=H.out.lt b hbL
   clear hkk e2
   obtain ⟨A1,c1,rfl,n1,m1,s1⟩:=hrep
   have S1:=Lib.hid s1
   have lL1:Hid (∀y∈Lk,y<w.heap.size):=fun y m=>H.out.lt y (hLk y m)
   have ll1:(ZJ4 kk x).length=x.length:=ZMk _ _
   clear s1
   have Q0:=Lib.hid (hc 0 _ rfl)
   unfold maxLen at m1
   rw [ll1] at Q0 n1
   clear hc ll1
   have i0:(0:Int)≤i:=by omega
   have i1:(i:Int)<n:=by omega
   have mono_x:=ZKs (kk) x
   have q0:wr.cell? ⟨b,off+i,none⟩=some (.slice A1 x.length c1):=by have hq:=(HB.out.cell (p:=⟨b,off+(i * 1+0),none⟩) hbl).trans Q0.out;simpa only [AA,A0] using hq
   have hbr:b<wr.heap.size:=AC hbl HB.out.size
   go_wp2_with fail
   refine (ZKZ A1 _ c1 x Lk _ _ rfl (by omega) (by omega) (by omega) (S1.out.keep (ZdM HB.out lL1.out))).mono ?_
   rintro e w1 ⟨rfl,hb1⟩
   have HB:=Lib.hid (HB.out.trans (hb1.mono HB.out.size))
   clear hb1
   clear q0
   have q0:w1.cell? ⟨b,off+i,none⟩=some (.slice A1 x.length c1):=by have hq:=(HB.out.cell (p:=⟨b,off+(i * 1+0),none⟩) hbl).trans Q0.out;simpa only [AA,A0] using hq
   replace hbr:b<w1.heap.size:=AC hbl HB.out.size
   have ge1:¬(ZJy (kk) x<0):=by omega
   go_wp2_with fail
   go_roundw
   case rel=>exact ⟨i+1,ZJy kk x,by omega,by go_num,rfl,by omega,HDn,HB⟩
   case measure=>simp [intOf];omega
  ·obtain rfl:i=n:=by omega
   have hf:Hid (ZPo k ds=kk):=by
    obtain ⟨h1,_⟩:=HD.out
    rw [Hid,←h1,A9 (by have:=HN.out;omega)];rfl
   go_wp2
   go_ret
   exact ⟨ZJK hf.out.symm,HB.out⟩
end
section
open Go.RowKit Go.Deep
def ZvE {α:Type} (P:Program) (t:TypeId) (c:ZbC α) (wf:α→Prop):Prop:=
 ∀{H:Type} {enc:TypeId × Value→H} {w:World} {base:Nat} {spare:Nat→Bool} {held:Bool} {fuel:Nat} {cs:List Value} {x:DataW H × List MemPlace},
  DataW.trod enc P w base spare held fuel t cs=some x→∃d L,c.rep w cs d L∧wf d
theorem ZLd {P:Program} {t:TypeId} (ht:P.underlying t=some (.int .i64)):ZvE P t ZKt ZqV:=by
 intro H enc w base spare held fuel cs x h
 obtain ⟨n,rfl,_,hw⟩:=DataW.trod_int ht h
 refine ⟨n,[],⟨rfl,rfl⟩,?_⟩
 simp [Lit.wf,IntKind.min,IntKind.max,IntKind.signed,IntKind.bits] at hw
 exact ⟨by omega,by omega⟩
theorem ZJ6 {P:Program} {t:TypeId} (ht:P.underlying t=some .string):ZvE P t ZEr (fun _=>True):=by
 intro H enc w base spare held fuel cs x h
 obtain ⟨s,rfl,_,hs⟩:=DataW.trod_string ht h
 exact ⟨s,[],⟨rfl,rfl,by unfold maxLen at hs;omega⟩,trivial⟩
theorem ZrJ {α:Type} {c:ZbC α} {wf:α→Prop} {P:Program} {t e:TypeId} (ht:P.underlying t=some (.slice e)) (hc:P.cellsOf e=c.size) (ho:ZvE P e c wf):ZvE P t (ZlE c) (fun ds=>∀d∈ds,wf d):=by
 intro H enc w base spare held fuel cs x h
 rcases open_slice ht h with ⟨rfl,_⟩ | ⟨a,len,cap,m,n,D,Pl,rfl,hb,hl,hm,hmm,_,hx⟩
 ·exact ⟨[],[],⟨none,0,rfl,A4 _,A3 _,Sli.nil _ _⟩,by simp⟩
 ·have hlm:len≤m:=by rw [hmm];split<;>omega
  have key:∀q,q≤len→∃(xs:List Value) (ds:List α) (L:List Nat),ds.length=q∧(∀j u,xs[j]?=some u→w.cell? (a.add j)=some u)∧c.reps w xs ds L∧∀d∈ds,wf d:=by
   intro q
   induction q with
   | zero=>exact fun _=>⟨[],[],[],rfl,by simp,⟨rfl,rfl⟩,by simp⟩
   | succ q ih=>
    intro hq
    obtain ⟨xs,ds,L,hd,hcell,hr,hwf⟩:=ih (by omega)
    obtain ⟨cs',h1,h2⟩:=hx q (by omega)
    obtain ⟨d,Lq,hrep,hwd⟩:=ho h2
    obtain ⟨_,hlen,hat⟩:=World.cells?_some h1
    refine ⟨xs++cs',ds++[d],L++Lq,by simp [hd],fun j u hu=>?_,ZgC hr (Zj5 hrep),?_⟩
    ·have hxl:xs.length=q * c.size:=by rw [ZgQ hr,hd]
     rw [List.getElem?_append] at hu
     split at hu
     ·exact hcell j u hu
     ·rename_i hj
      have hj2:=(List.getElem?_eq_some_iff.1 hu).1
      have:=hat (j - xs.length) (by omega)
      rw [←hu,←this,Go.Deep.add_add,hc,←hxl]
      congr 2
      omega
    ·intro y hy
     rcases AB.1 hy with hy | hy
     ·exact hwf y hy
     ·simp at hy;subst hy;exact hwd
  obtain ⟨xs,ds,L,hd,hcell,hr,hwf⟩:=key len (A4 _)
  have hxl:=ZgQ hr
  rcases Nat.eq_zero_or_pos len with h0 | h0
  ·have:ds=[]:=List.eq_nil_of_length_eq_zero (by omega)
   subst this
   refine ⟨[],[],⟨some a,cap,by simp at hd;rw [←hd];rfl,by simp,hm,Sli.nil _ _⟩,by simp⟩
  ·obtain ⟨b,off,sp⟩:=a
   have hp:0<xs.length:=by rw [hxl,hd];exact Nat.mul_pos h0 c.pos
   have hsp:sp=none:=by
    have h1:=hcell 0 _ (A5 hp)
    have e:(⟨b,off,sp⟩:Addr).add 0=⟨b,off,sp⟩:=by simp [Addr.add]
    rw [e] at h1
    cases sp with
    | none=>rfl
    | some q=>
     simp only[World.cell?] at h1
     split at h1<;>simp at h1
   subst hsp
   refine ⟨ds,[b]++L,⟨some ⟨b,off,none⟩,cap,by rw [hd],by omega,hm,xs,[b],L,rfl,⟨by rw [hxl],.inr ⟨by omega,b,off,rfl,rfl,fun j u hu=>?_⟩⟩,hr⟩,hwf⟩
   have:=hcell j u hu
   rwa [Zdn] at this
end
section
open Go.RowKit
theorem ZPs {w w1:World} {B:Nat} (h:Below w.drew.heap.size w.drew w1) (hB:B≤w.heap.size):Below B w w1:=⟨h.os,h.tape,h.output,h.size,fun k hk=>h.block k (AC hk hB)⟩
theorem ZPB {aRules:List Zg} {aBase:List Zb} {aBad:ByteArray} {aF:Zb} {r0:List (List Zb)} {r1:Bool} (hh:ZGy aRules aBase aBad aF=some (r0,r1)) (w:World) (hj:J0 w) (AaRules:Option Addr) (caRules:Nat) (LaRules:List Nat) (haRules:(ZlE ZKa).rep w [.slice AaRules aRules.length caRules] aRules LaRules) (AaBase:Option Addr) (caBase:Nat) (LaBase:List Nat) (haBase:(ZlE ZJZ).rep w [.slice AaBase aBase.length caBase] aBase LaBase) (zaBad:aBad.size≤9223372036854775807) (qaF:List Value) (LaF:List Nat) (haF:ZJZ.rep w qaF aF LaF):
  Calls prog 47 #[.slice AaRules aRules.length caRules,.slice AaBase aBase.length caBase,.string aBad,.agg qaF.toArray] w (ZPG (ZlE ZJZ) 25 w r0 r1):=
 Zk.givesSB (c:=(ZlE ZJZ)) (g:=(fun l=>[.sl 45 ZJZ.size (l.map Zl)])) (ds:=r0) (b:=r1) (ZIa hh) (ZLq.slice 45) hj (vs:=[_,_,_,_]) ⟨ZCc ZMy _ haRules,ZCc ZLq _ haBase,ZMz _ _ zaBad,ZPI ZLq haF,trivial⟩
theorem ZPx {aRules:List Zg} {aBase:List Zb} {aBad:ByteArray} {aF:Zb} {r0:List (List Zb)} {r1:Bool} (hh:ZGt aRules aBase aBad aF=some (r0,r1)) (w:World) (hj:J0 w) (AaRules:Option Addr) (caRules:Nat) (LaRules:List Nat) (haRules:(ZlE ZKa).rep w [.slice AaRules aRules.length caRules] aRules LaRules) (AaBase:Option Addr) (caBase:Nat) (LaBase:List Nat) (haBase:(ZlE ZJZ).rep w [.slice AaBase aBase.length caBase] aBase LaBase) (zaBad:aBad.size≤9223372036854775807) (qaF:List Value) (LaF:List Nat) (haF:ZJZ.rep w qaF aF LaF):
  Calls prog 46 #[.slice AaRules aRules.length caRules,.slice AaBase aBase.length caBase,.string aBad,.agg qaF.toArray] w (ZPG (ZlE ZJZ) 25 w r0 r1):=
 Zk.givesSB (c:=(ZlE ZJZ)) (g:=(fun l=>[.sl 45 ZJZ.size (l.map Zl)])) (ds:=r0) (b:=r1) (ZIg hh) (ZLq.slice 45) hj (vs:=[_,_,_,_]) ⟨ZCc ZMy _ haRules,ZCc ZLq _ haBase,ZMz _ _ zaBad,ZPI ZLq haF,trivial⟩
set_option maxRecDepth 100000 in
set_option maxHeartbeats 8000000 in
theorem ZPw (w:World) (hJ:J0 w) (A_aRules:Option Addr) (c_aRules:Nat) (aRules:List Zg) (L_aRules:List Nat) (ln_aRules:aRules.length≤9223372036854775807) (h_aRules:Sli ZKa w A_aRules aRules L_aRules) (A_aBase:Option Addr) (c_aBase:Nat) (aBase:List Zb) (L_aBase:List Nat) (ln_aBase:aBase.length≤9223372036854775807) (h_aBase:Sli ZJZ w A_aBase aBase L_aBase) (aBad:ByteArray) (st_aBad:aBad.size≤9223372036854775807) (cs_aF:List Value) (aF:Zb) (L_aF:List Nat) (h_aF:ZJZ.rep w cs_aF aF L_aF) (wf_aRules:(fun ds=>∀d∈ds,ZMv d) aRules) (wf_aBase:(fun ds=>∀d∈ds,ZMm d) aBase) (wf_aF:ZMm aF):
  Calls prog 10 #[.slice A_aRules aRules.length c_aRules,.slice A_aBase aBase.length c_aBase,.string aBad,.agg cs_aF.toArray] w fun e w'=>e=.returned (.bool true)∧Below w.heap.size w w':=by
 have HJ:=Lib.hid hJ
 clear hJ
 have H_aRules:=Lib.hid h_aRules
 clear h_aRules
 have H_aBase:=Lib.hid h_aBase
 clear h_aBase
 have H_aF:=Lib.hid h_aF
 clear h_aF
 obtain ⟨aF_A1,aF_c1,rfl⟩:=ZKl H_aF.out
 by_cases big_aBad:(1048576:Int)<aBad.size
 ·go_enter func10,ntmps10
  go_wp2
  go_ret
  exact ⟨rfl,Below.alloc (Below.refl _ _) (A4 _) _⟩
 have sz_aBad:aBad.size≤1048576:=by omega
 have B0:Hid (Below w.heap.size w (w.alloc (.cells #[.string aF.rel,.slice aF_A1 aF.args.length aF_c1] 86))):=(Below.alloc (Below.refl _ _) (A4 _) _)
 have sz0:w.heap.size+1≤((w.alloc (.cells #[.string aF.rel,.slice aF_A1 aF.args.length aF_c1] 86))).heap.size:=Nat.le_of_eq (by simp only[World.alloc,AK])
 have K_aF:Hid (Blk (w.alloc (.cells #[.string aF.rel,.slice aF_A1 aF.args.length aF_c1] 86)) (w.heap.size) 86 #[.string aF.rel,.slice aF_A1 aF.args.length aF_c1]):=(Blk.new _ _ _)
 go_enter func10,ntmps10
 go_wp2_with fail
 refine (ZMj A_aRules _ c_aRules aRules L_aRules _ _ rfl ln_aRules (by omega) (by omega) (H_aRules.out.below B0.out)).mono ?_
 rintro e w1 ⟨rfl,hb⟩
 have B1:=Lib.hid (B0.out.trans (hb.mono B0.out.size))
 have sz1:=hb.size
 have K_aF:=Lib.hid (K_aF.out.later hb)
 have f_aF_0:=K_aF.out.at (i:=0) rfl
 have f_aF_1:=K_aF.out.at (i:=1) rfl
 clear hb
 by_cases cc_aRules:((ZJL aRules:Nat):Int)≤1048576
 rotate_left
 ·rw [ZJD cc_aRules]
  go_wp2
  go_ret
  exact ⟨rfl,B1.out⟩
 rw [ZJ0 cc_aRules]
 have cz_aRules:ZJL aRules≤1048576:=by omega
 have cl_aRules:aRules.length≤1048576:=by have:=cz_aRules;simp only[ZJL] at this;omega
 have nn_aRules:¬(1048576 - ((ZJL aRules:Nat):Int)<0):=by omega
 go_wp2_with fail
 refine (ZL5 A_aBase _ c_aBase aBase L_aBase _ _ rfl ln_aBase (by omega) (by omega) (H_aBase.out.below B1.out)).mono ?_
 rintro e w2 ⟨rfl,hb⟩
 have B2:=Lib.hid (B1.out.trans (hb.mono B1.out.size))
 have sz2:=hb.size
 have K_aF:=Lib.hid (K_aF.out.later hb)
 clear f_aF_0 f_aF_1
 have f_aF_0:=K_aF.out.at (i:=0) rfl
 have f_aF_1:=K_aF.out.at (i:=1) rfl
 clear B1
 clear hb
 by_cases cc_aBase:((Zc1 aBase:Nat):Int)≤1048576 - ((ZJL aRules:Nat):Int)
 rotate_left
 ·rw [ZJD cc_aBase]
  go_wp2
  go_ret
  exact ⟨rfl,B2.out⟩
 rw [ZJ0 cc_aBase]
 have cz_aBase:Zc1 aBase≤1048576:=by omega
 have cl_aBase:aBase.length≤1048576:=by have:=cz_aBase;simp only[Zc1] at this;omega
 have nn_aBase:¬(1048576 - ((ZJL aRules:Nat):Int) - ((Zc1 aBase:Nat):Int)<0):=by omega
 go_wp2_with fail
 refine (ZLs [.string aF.rel,.slice aF_A1 aF.args.length aF_c1] aF L_aF _ _ (by omega) (by omega) (ZJZ.keep H_aF.out (ZdM B2.out (ZJZ.lt H_aF.out)))).mono ?_
 rintro e w3 ⟨rfl,hb⟩
 have B3:=Lib.hid (B2.out.trans (hb.mono B2.out.size))
 have sz3:=hb.size
 have K_aF:=Lib.hid (K_aF.out.later hb)
 clear f_aF_0 f_aF_1
 have f_aF_0:=K_aF.out.at (i:=0) rfl
 have f_aF_1:=K_aF.out.at (i:=1) rfl
 clear B2
 clear hb
 by_cases cc_aF:((ZgB aF:Nat):Int)≤1048576 - ((ZJL aRules:Nat):Int) - ((Zc1 aBase:Nat):Int)
 rotate_left
 ·rw [ZJD cc_aF]
  go_wp2
  go_ret
  exact ⟨rfl,B3.out⟩
 rw [ZJ0 cc_aF]
 have cz_aF:ZgB aF≤1048576:=by omega
 have nn_aF:¬(1048576 - ((ZJL aRules:Nat):Int) - ((Zc1 aBase:Nat):Int) - ((ZgB aF:Nat):Int)<0):=by omega
 obtain ⟨R0,R1,hs0,hi0,rl⟩:=ZPA aRules cz_aRules wf_aRules aBase cz_aBase wf_aBase aBad sz_aBad aF cz_aF wf_aF
 go_wp2_with fail
 go_region_held3 (fun W=>W.cell? ⟨w.heap.size,0,none⟩=some (.string aF.rel)∧W.cell? ⟨w.heap.size,1,none⟩=some (.slice aF_A1 aF.args.length aF_c1)) (first | exact ⟨f_aF_0,f_aF_1⟩) (first | (go_at_call 34;refine (ZKB A_aRules _ c_aRules aRules L_aRules _ rfl cz_aRules (H_aRules.out.below B3.out.drew)).mono ?_;rintro e w4 ⟨v,rfl,acc⟩;obtain ⟨A_t3aRules,c_t3aRules,rfl⟩:=acc.shape;have hb:=ZPs acc.below (A4 _);obtain ⟨L_t3aRules,gt⟩:=acc.got;have B4:=Lib.hid (B3.out.trans (hb.mono B3.out.size));have sz4:=hb.size;have K_aF:=Lib.hid (K_aF.out.later hb);clear f_aF_0 f_aF_1;have f_aF_0:=K_aF.out.at (i:=0) rfl;have f_aF_1:=K_aF.out.at (i:=1) rfl;clear B3;have V_t3aRules:=Lib.hid gt;have ge_t3aRules:=Lib.hid gt.own.ge;have lt_t3aRules:=Lib.hid gt.lt;clear gt hb acc) | (go_at_call 35;refine (ZKE A_aBase _ c_aBase aBase L_aBase _ rfl cz_aBase (H_aBase.out.below B4.out)).mono ?_;rintro e w5 ⟨v,rfl,acc⟩;obtain ⟨A_t4aBase,c_t4aBase,rfl⟩:=acc.shape;have hb:=acc.below;obtain ⟨L_t4aBase,gt⟩:=acc.got;have B5:=Lib.hid (B4.out.trans (hb.mono B4.out.size));have sz5:=hb.size;have V_t3aRules:=Lib.hid (V_t3aRules.out.later hb);have K_aF:=Lib.hid (K_aF.out.later hb);clear f_aF_0 f_aF_1;have f_aF_0:=K_aF.out.at (i:=0) rfl;have f_aF_1:=K_aF.out.at (i:=1) rfl;clear B4;have V_t4aBase:=Lib.hid gt;have ge_t4aBase:=Lib.hid gt.own.ge;have lt_t4aBase:=Lib.hid gt.lt;clear gt hb acc) | (go_at_call 52;refine (ZMs [.string aF.rel,.slice aF_A1 aF.args.length aF_c1] aF L_aF _ cz_aF (ZJZ.keep H_aF.out (ZdM B5.out (ZJZ.lt H_aF.out)))).mono ?_;rintro e w6 ⟨cs,L_t5aF,rfl,gt,hb⟩;obtain ⟨t5aF_A1,t5aF_c1,rfl⟩:=ZKl gt.rep;have B6:=Lib.hid (B5.out.trans (hb.mono B5.out.size));have sz6:=hb.size;have V_t3aRules:=Lib.hid (V_t3aRules.out.later hb);have V_t4aBase:=Lib.hid (V_t4aBase.out.later hb);have K_aF:=Lib.hid (K_aF.out.later hb);clear f_aF_0 f_aF_1;have f_aF_0:=K_aF.out.at (i:=0) rfl;have f_aF_1:=K_aF.out.at (i:=1) rfl;clear B5;have V_t5aF:=Lib.hid gt;have ge_t5aF:=Lib.hid gt.own.ge;have lt_t5aF:=Lib.hid gt.lt;clear gt hb) | (go_at_call 47;refine (ZPB hs0 _ (ZLe hJ0 HJ.out B6.out) A_t3aRules c_t3aRules L_t3aRules V_t3aRules.out.rep A_t4aBase c_t4aBase L_t4aBase V_t4aBase.out.rep (by omega) [.string aF.rel,.slice t5aF_A1 aF.args.length t5aF_c1] L_t5aF V_t5aF.out.rep).mono ?_;rintro e w7 ⟨v,rfl,acc⟩;obtain ⟨A_w0,c_w0,rfl⟩:=acc.shape;have hb:=acc.below;obtain ⟨L_w0,gt⟩:=acc.got;have B7:=Lib.hid (B6.out.trans (hb.mono B6.out.size));have sz7:=hb.size;have V_t3aRules:=Lib.hid (V_t3aRules.out.later hb);have V_t4aBase:=Lib.hid (V_t4aBase.out.later hb);have V_t5aF:=Lib.hid (V_t5aF.out.later hb);have K_aF:=Lib.hid (K_aF.out.later hb);clear f_aF_0 f_aF_1;have f_aF_0:=K_aF.out.at (i:=0) rfl;have f_aF_1:=K_aF.out.at (i:=1) rfl;clear B6;have V_w0:=Lib.hid gt;have ge_w0:=Lib.hid gt.own.ge;have lt_w0:=Lib.hid gt.lt;clear gt hb acc))
 clear V_t3aRules
 clear V_t4aBase
 clear V_t5aF
 go_wp2_with fail
 refine (ZKB A_aRules _ c_aRules aRules L_aRules _ rfl cz_aRules (H_aRules.out.below B7.out)).mono ?_
 rintro e w8 ⟨v,rfl,acc⟩
 obtain ⟨A_x0,c_x0,rfl⟩:=acc.shape
 have hb:=acc.below
 obtain ⟨L_x0,gt⟩:=acc.got
 have B8:=Lib.hid (B7.out.trans (hb.mono B7.out.size))
 have sz8:=hb.size
 have V_w0:=Lib.hid (V_w0.out.later hb)
 have K_aF:=Lib.hid (K_aF.out.later hb)
 clear f_aF_0 f_aF_1
 have f_aF_0:=K_aF.out.at (i:=0) rfl
 have f_aF_1:=K_aF.out.at (i:=1) rfl
 clear B7
 have V_x0:=Lib.hid gt
 have ge_x0:=Lib.hid gt.own.ge
 have lt_x0:=Lib.hid gt.lt
 clear gt hb acc
 go_wp2_with fail
 refine (ZKE A_aBase _ c_aBase aBase L_aBase _ rfl cz_aBase (H_aBase.out.below B8.out)).mono ?_
 rintro e w9 ⟨v,rfl,acc⟩
 obtain ⟨A_x1,c_x1,rfl⟩:=acc.shape
 have hb:=acc.below
 obtain ⟨L_x1,gt⟩:=acc.got
 have B9:=Lib.hid (B8.out.trans (hb.mono B8.out.size))
 have sz9:=hb.size
 have V_w0:=Lib.hid (V_w0.out.later hb)
 have V_x0:=Lib.hid (V_x0.out.later hb)
 have K_aF:=Lib.hid (K_aF.out.later hb)
 clear f_aF_0 f_aF_1
 have f_aF_0:=K_aF.out.at (i:=0) rfl
 have f_aF_1:=K_aF.out.at (i:=1) rfl
 clear B8
 have V_x1:=Lib.hid gt
 have ge_x1:=Lib.hid gt.own.ge
 have lt_x1:=Lib.hid gt.lt
 clear gt hb acc
 go_wp2_with fail
 refine (ZMs [.string aF.rel,.slice aF_A1 aF.args.length aF_c1] aF L_aF _ cz_aF (ZJZ.keep H_aF.out (ZdM B9.out (ZJZ.lt H_aF.out)))).mono ?_
 rintro e w10 ⟨cs,L_x3,rfl,gt,hb⟩
 obtain ⟨x3_A1,x3_c1,rfl⟩:=ZKl gt.rep
 have B10:=Lib.hid (B9.out.trans (hb.mono B9.out.size))
 have sz10:=hb.size
 have V_w0:=Lib.hid (V_w0.out.later hb)
 have V_x0:=Lib.hid (V_x0.out.later hb)
 have V_x1:=Lib.hid (V_x1.out.later hb)
 have K_aF:=Lib.hid (K_aF.out.later hb)
 clear f_aF_0 f_aF_1
 have f_aF_0:=K_aF.out.at (i:=0) rfl
 have f_aF_1:=K_aF.out.at (i:=1) rfl
 clear B9
 have V_x3:=Lib.hid gt
 have ge_x3:=Lib.hid gt.own.ge
 have lt_x3:=Lib.hid gt.lt
 clear gt hb
 have hb:=(Below.refl w10.heap.size w10).alloc (A4 _) (.cells #[.string aF.rel,.slice x3_A1 aF.args.length x3_c1] 45)
 have B11:=Lib.hid (B10.out.trans (hb.mono B10.out.size))
 have sz11:=hb.size
 have V_w0:=Lib.hid (V_w0.out.later hb)
 have V_x0:=Lib.hid (V_x0.out.later hb)
 have V_x1:=Lib.hid (V_x1.out.later hb)
 have V_x3:=Lib.hid (V_x3.out.later hb)
 have K_aF:=Lib.hid (K_aF.out.later hb)
 clear f_aF_0 f_aF_1
 have f_aF_0:=K_aF.out.at (i:=0) rfl
 have f_aF_1:=K_aF.out.at (i:=1) rfl
 clear B10
 have szb_x3:w10.heap.size+1≤(w10.alloc (.cells #[.string aF.rel,.slice x3_A1 aF.args.length x3_c1] 45)).heap.size:=Nat.le_of_eq (by simp only[World.alloc,AK])
 have K_x3:Hid (Blk (w10.alloc (.cells #[.string aF.rel,.slice x3_A1 aF.args.length x3_c1] 45)) w10.heap.size 45 #[.string aF.rel,.slice x3_A1 aF.args.length x3_c1]):=Blk.new _ _ _
 have f_x3_0:=K_x3.out.at (i:=0) rfl
 have f_x3_1:=K_x3.out.at (i:=1) rfl
 clear hb
 go_wp2_with fail
 refine (ZPx hi0 _ (ZLe hJ0 HJ.out B11.out) A_x0 c_x0 L_x0 V_x0.out.rep A_x1 c_x1 L_x1 V_x1.out.rep (by omega) [.string aF.rel,.slice x3_A1 aF.args.length x3_c1] L_x3 V_x3.out.rep).mono ?_
 rintro e w12 ⟨v,rfl,acc⟩
 obtain ⟨A_g0,c_g0,rfl⟩:=acc.shape
 have hb:=acc.below
 obtain ⟨L_g0,gt⟩:=acc.got
 have B12:=Lib.hid (B11.out.trans (hb.mono B11.out.size))
 have sz12:=hb.size
 have V_w0:=Lib.hid (V_w0.out.later hb)
 have V_x0:=Lib.hid (V_x0.out.later hb)
 have V_x1:=Lib.hid (V_x1.out.later hb)
 have V_x3:=Lib.hid (V_x3.out.later hb)
 have K_aF:=Lib.hid (K_aF.out.later hb)
 clear f_aF_0 f_aF_1
 have f_aF_0:=K_aF.out.at (i:=0) rfl
 have f_aF_1:=K_aF.out.at (i:=1) rfl
 have K_x3:=Lib.hid (K_x3.out.later hb)
 clear f_x3_0 f_x3_1
 have f_x3_0:=K_x3.out.at (i:=0) rfl
 have f_x3_1:=K_x3.out.at (i:=1) rfl
 clear B11
 have V_g0:=Lib.hid gt
 have ge_g0:=Lib.hid gt.own.ge
 have lt_g0:=Lib.hid gt.lt
 clear gt hb acc
 go_wp2_with fail
 refine (ZPu A_g0 A_w0 _ c_g0 c_w0 _ L_g0 L_w0 _ rfl (by omega) (ZJB V_g0.out.rep).2.2 (ZJB V_w0.out.rep).2.2).mono ?_
 rintro e w13 ⟨rfl,hb⟩
 have B13:=Lib.hid (B12.out.trans (hb.mono B12.out.size))
 have sz13:=hb.size
 have V_w0:=Lib.hid (V_w0.out.later hb)
 have V_x0:=Lib.hid (V_x0.out.later hb)
 have V_x1:=Lib.hid (V_x1.out.later hb)
 have V_x3:=Lib.hid (V_x3.out.later hb)
 have V_g0:=Lib.hid (V_g0.out.later hb)
 have K_aF:=Lib.hid (K_aF.out.later hb)
 clear f_aF_0 f_aF_1
 have f_aF_0:=K_aF.out.at (i:=0) rfl
 have f_aF_1:=K_aF.out.at (i:=1) rfl
 have K_x3:=Lib.hid (K_x3.out.later hb)
 clear f_x3_0 f_x3_1
 have f_x3_0:=K_x3.out.at (i:=0) rfl
 have f_x3_1:=K_x3.out.at (i:=1) rfl
 clear B12
 clear hb
 go_wp2_with fail
 refine (ZKB A_aRules _ c_aRules aRules L_aRules _ rfl cz_aRules (H_aRules.out.below B13.out)).mono ?_
 rintro e w14 ⟨v,rfl,acc⟩
 obtain ⟨A_t13aRules,c_t13aRules,rfl⟩:=acc.shape
 have hb:=acc.below
 obtain ⟨L_t13aRules,gt⟩:=acc.got
 have B14:=Lib.hid (B13.out.trans (hb.mono B13.out.size))
 have sz14:=hb.size
 have V_w0:=Lib.hid (V_w0.out.later hb)
 have V_x0:=Lib.hid (V_x0.out.later hb)
 have V_x1:=Lib.hid (V_x1.out.later hb)
 have V_x3:=Lib.hid (V_x3.out.later hb)
 have V_g0:=Lib.hid (V_g0.out.later hb)
 have K_aF:=Lib.hid (K_aF.out.later hb)
 clear f_aF_0 f_aF_1
 have f_aF_0:=K_aF.out.at (i:=0) rfl
 have f_aF_1:=K_aF.out.at (i:=1) rfl
 have K_x3:=Lib.hid (K_x3.out.later hb)
 clear f_x3_0 f_x3_1
 have f_x3_0:=K_x3.out.at (i:=0) rfl
 have f_x3_1:=K_x3.out.at (i:=1) rfl
 clear B13
 have V_t13aRules:=Lib.hid gt
 have ge_t13aRules:=Lib.hid gt.own.ge
 have lt_t13aRules:=Lib.hid gt.lt
 clear gt hb acc
 go_wp2_with fail
 refine (ZMd A_x0 A_t13aRules _ c_x0 c_t13aRules _ L_x0 L_t13aRules _ rfl (by omega) (ZJB V_x0.out.rep).2.2 (ZJB V_t13aRules.out.rep).2.2).mono ?_
 rintro e w15 ⟨rfl,hb⟩
 have B15:=Lib.hid (B14.out.trans (hb.mono B14.out.size))
 have sz15:=hb.size
 have V_w0:=Lib.hid (V_w0.out.later hb)
 have V_x0:=Lib.hid (V_x0.out.later hb)
 have V_x1:=Lib.hid (V_x1.out.later hb)
 have V_x3:=Lib.hid (V_x3.out.later hb)
 have V_g0:=Lib.hid (V_g0.out.later hb)
 have V_t13aRules:=Lib.hid (V_t13aRules.out.later hb)
 have K_aF:=Lib.hid (K_aF.out.later hb)
 clear f_aF_0 f_aF_1
 have f_aF_0:=K_aF.out.at (i:=0) rfl
 have f_aF_1:=K_aF.out.at (i:=1) rfl
 have K_x3:=Lib.hid (K_x3.out.later hb)
 clear f_x3_0 f_x3_1
 have f_x3_0:=K_x3.out.at (i:=0) rfl
 have f_x3_1:=K_x3.out.at (i:=1) rfl
 clear B14
 clear hb
 clear V_t13aRules
 go_wp2_with fail
 refine (ZKE A_aBase _ c_aBase aBase L_aBase _ rfl cz_aBase (H_aBase.out.below B15.out)).mono ?_
 rintro e w16 ⟨v,rfl,acc⟩
 obtain ⟨A_t15aBase,c_t15aBase,rfl⟩:=acc.shape
 have hb:=acc.below
 obtain ⟨L_t15aBase,gt⟩:=acc.got
 have B16:=Lib.hid (B15.out.trans (hb.mono B15.out.size))
 have sz16:=hb.size
 have V_w0:=Lib.hid (V_w0.out.later hb)
 have V_x0:=Lib.hid (V_x0.out.later hb)
 have V_x1:=Lib.hid (V_x1.out.later hb)
 have V_x3:=Lib.hid (V_x3.out.later hb)
 have V_g0:=Lib.hid (V_g0.out.later hb)
 have K_aF:=Lib.hid (K_aF.out.later hb)
 clear f_aF_0 f_aF_1
 have f_aF_0:=K_aF.out.at (i:=0) rfl
 have f_aF_1:=K_aF.out.at (i:=1) rfl
 have K_x3:=Lib.hid (K_x3.out.later hb)
 clear f_x3_0 f_x3_1
 have f_x3_0:=K_x3.out.at (i:=0) rfl
 have f_x3_1:=K_x3.out.at (i:=1) rfl
 clear B15
 have V_t15aBase:=Lib.hid gt
 have ge_t15aBase:=Lib.hid gt.own.ge
 have lt_t15aBase:=Lib.hid gt.lt
 clear gt hb acc
 go_wp2_with fail
 refine (ZKC A_x1 A_t15aBase _ c_x1 c_t15aBase _ L_x1 L_t15aBase _ rfl (by omega) (ZJB V_x1.out.rep).2.2 (ZJB V_t15aBase.out.rep).2.2).mono ?_
 rintro e w17 ⟨rfl,hb⟩
 have B17:=Lib.hid (B16.out.trans (hb.mono B16.out.size))
 have sz17:=hb.size
 have V_w0:=Lib.hid (V_w0.out.later hb)
 have V_x0:=Lib.hid (V_x0.out.later hb)
 have V_x1:=Lib.hid (V_x1.out.later hb)
 have V_x3:=Lib.hid (V_x3.out.later hb)
 have V_g0:=Lib.hid (V_g0.out.later hb)
 have V_t15aBase:=Lib.hid (V_t15aBase.out.later hb)
 have K_aF:=Lib.hid (K_aF.out.later hb)
 clear f_aF_0 f_aF_1
 have f_aF_0:=K_aF.out.at (i:=0) rfl
 have f_aF_1:=K_aF.out.at (i:=1) rfl
 have K_x3:=Lib.hid (K_x3.out.later hb)
 clear f_x3_0 f_x3_1
 have f_x3_0:=K_x3.out.at (i:=0) rfl
 have f_x3_1:=K_x3.out.at (i:=1) rfl
 clear B16
 clear hb
 clear V_t15aBase
 go_wp2_with fail
 go_region_held3 (fun W=>W.cell? ⟨w10.heap.size,0,none⟩=some (.string aF.rel)∧W.cell? ⟨w10.heap.size,1,none⟩=some (.slice x3_A1 aF.args.length x3_c1)∧W.cell? ⟨w.heap.size,0,none⟩=some (.string aF.rel)∧W.cell? ⟨w.heap.size,1,none⟩=some (.slice aF_A1 aF.args.length aF_c1)) (first | exact ⟨f_x3_0,f_x3_1,f_aF_0,f_aF_1⟩ | exact ⟨r_x3_0,r_x3_1,r_aF_0,r_aF_1⟩) (first | (go_at_call 52;refine (ZMs [.string aF.rel,.slice aF_A1 aF.args.length aF_c1] aF L_aF _ cz_aF (ZJZ.keep H_aF.out (ZdM B17.out.drew (ZJZ.lt H_aF.out)))).mono ?_;rintro e w18 ⟨cs,L_t17aF,rfl,gt,hb⟩;obtain ⟨t17aF_A1,t17aF_c1,rfl⟩:=ZKl gt.rep;replace hb:=ZPs hb (A4 _);have KA:=K_aF.out.later hb;have KX:=K_x3.out.later hb;have r_x3_0:=KX.at (i:=0) rfl;have r_x3_1:=KX.at (i:=1) rfl;have r_aF_0:=KA.at (i:=0) rfl;have r_aF_1:=KA.at (i:=1) rfl) | (go_at_call 54;refine (ZMl [.string aF.rel,.slice x3_A1 aF.args.length x3_c1] [.string aF.rel,.slice t17aF_A1 aF.args.length t17aF_c1] aF L_x3 L_t17aF _ (V_x3.out.later hb).rep gt.rep).mono ?_;rintro e w19 ⟨rfl,hb2⟩;have KX2:=KX.later hb2;have KA2:=KA.later hb2;replace r_x3_0:=KX2.at (i:=0) rfl;replace r_x3_1:=KX2.at (i:=1) rfl;replace r_aF_0:=KA2.at (i:=0) rfl;replace r_aF_1:=KA2.at (i:=1) rfl))
 clear KA KX KA2 KX2 r_x3_0 r_x3_1 r_aF_0 r_aF_1
 have B18:=Lib.hid (B17.out.trans (hb.mono B17.out.size))
 have sz18:=hb.size
 have V_w0:=Lib.hid (V_w0.out.later hb)
 have V_x0:=Lib.hid (V_x0.out.later hb)
 have V_x1:=Lib.hid (V_x1.out.later hb)
 have V_x3:=Lib.hid (V_x3.out.later hb)
 have V_g0:=Lib.hid (V_g0.out.later hb)
 have K_aF:=Lib.hid (K_aF.out.later hb)
 clear f_aF_0 f_aF_1
 have f_aF_0:=K_aF.out.at (i:=0) rfl
 have f_aF_1:=K_aF.out.at (i:=1) rfl
 have K_x3:=Lib.hid (K_x3.out.later hb)
 clear f_x3_0 f_x3_1
 have f_x3_0:=K_x3.out.at (i:=0) rfl
 have f_x3_1:=K_x3.out.at (i:=1) rfl
 clear B17
 clear hb gt
 have B19:=Lib.hid (B18.out.trans (hb2.mono B18.out.size))
 have sz19:=hb2.size
 have V_w0:=Lib.hid (V_w0.out.later hb2)
 have V_x0:=Lib.hid (V_x0.out.later hb2)
 have V_x1:=Lib.hid (V_x1.out.later hb2)
 have V_x3:=Lib.hid (V_x3.out.later hb2)
 have V_g0:=Lib.hid (V_g0.out.later hb2)
 have K_aF:=Lib.hid (K_aF.out.later hb2)
 clear f_aF_0 f_aF_1
 have f_aF_0:=K_aF.out.at (i:=0) rfl
 have f_aF_1:=K_aF.out.at (i:=1) rfl
 have K_x3:=Lib.hid (K_x3.out.later hb2)
 clear f_x3_0 f_x3_1
 have f_x3_0:=K_x3.out.at (i:=0) rfl
 have f_x3_1:=K_x3.out.at (i:=1) rfl
 clear B18
 clear hb2
 have nl_x0_19:=ZLS ((1:Int)) aRules
 have nb_x0_19:ZJS ((1:Int)) aRules≤4611686018427387904:=by omega
 have ng_x0_19:=ZK8 ((1:Int)) aRules
 go_wp2_with fail
 refine (ZLE A_x0 _ c_x0 aRules L_x0 _ _ _ rfl (by omega) (by omega) (by omega) V_x0.out).mono ?_
 rintro e w20 ⟨rfl,gm,on⟩
 have B20:=Lib.hid (B19.out.trans (on.below B19.out.size (fun y m=>by have:=ge_x0.out y m;omega)))
 have sz20:=on.size
 have V_w0:=Lib.hid (V_w0.out.only on (fun y m m'=>by have:=lt_w0.out y m;have:=ge_x0.out y m';omega))
 have V_x1:=Lib.hid (V_x1.out.only on (fun y m m'=>by have:=ge_x1.out y m;have:=lt_x0.out y m';omega))
 have V_x3:=Lib.hid (V_x3.out.only on (fun y m m'=>by have:=ge_x3.out y m;have:=lt_x0.out y m';omega))
 have V_g0:=Lib.hid (V_g0.out.only on (fun y m m'=>by have:=ge_g0.out y m;have:=lt_x0.out y m';omega))
 have K_aF:=Lib.hid (ZKd K_aF.out on (fun m=>by have:=ge_x0.out _ m;have:=lt_x0.out _ m;omega))
 clear f_aF_0 f_aF_1
 have f_aF_0:=K_aF.out.at (i:=0) rfl
 have f_aF_1:=K_aF.out.at (i:=1) rfl
 have K_x3:=Lib.hid (ZKd K_x3.out on (fun m=>by have:=ge_x0.out _ m;have:=lt_x0.out _ m;omega))
 clear f_x3_0 f_x3_1
 have f_x3_0:=K_x3.out.at (i:=0) rfl
 have f_x3_1:=K_x3.out.at (i:=1) rfl
 clear B19
 have V_x0:=Lib.hid gm
 clear gm on
 clear V_x0
 have nl_x1_20:=ZK7 (ZJS ((1:Int)) aRules) aBase
 have nb_x1_20:ZJy (ZJS ((1:Int)) aRules) aBase≤4611686018427387904:=by omega
 have ng_x1_20:=ZKs (ZJS ((1:Int)) aRules) aBase
 go_wp2_with fail
 refine (ZKY A_x1 _ c_x1 aBase L_x1 _ _ _ rfl (by omega) (by omega) (by omega) V_x1.out).mono ?_
 rintro e w21 ⟨rfl,gm,on⟩
 have B21:=Lib.hid (B20.out.trans (on.below B20.out.size (fun y m=>by have:=ge_x1.out y m;omega)))
 have sz21:=on.size
 have V_w0:=Lib.hid (V_w0.out.only on (fun y m m'=>by have:=lt_w0.out y m;have:=ge_x1.out y m';omega))
 have V_x3:=Lib.hid (V_x3.out.only on (fun y m m'=>by have:=ge_x3.out y m;have:=lt_x1.out y m';omega))
 have V_g0:=Lib.hid (V_g0.out.only on (fun y m m'=>by have:=ge_g0.out y m;have:=lt_x1.out y m';omega))
 have K_aF:=Lib.hid (ZKd K_aF.out on (fun m=>by have:=ge_x1.out _ m;have:=lt_x1.out _ m;omega))
 clear f_aF_0 f_aF_1
 have f_aF_0:=K_aF.out.at (i:=0) rfl
 have f_aF_1:=K_aF.out.at (i:=1) rfl
 have K_x3:=Lib.hid (ZKd K_x3.out on (fun m=>by have:=ge_x1.out _ m;have:=lt_x1.out _ m;omega))
 clear f_x3_0 f_x3_1
 have f_x3_0:=K_x3.out.at (i:=0) rfl
 have f_x3_1:=K_x3.out.at (i:=1) rfl
 clear B20
 have V_x1:=Lib.hid gm
 clear gm on
 clear V_x1
 have nl_x3_21:=ZPD (ZJy (ZJS ((1:Int)) aRules) aBase) aF
 have nb_x3_21:ZPq (ZJy (ZJS ((1:Int)) aRules) aBase) aF≤4611686018427387904:=by omega
 have ng_x3_21:=ZPE (ZJy (ZJS ((1:Int)) aRules) aBase) aF
 go_wp2_with fail
 refine (ZPF _ aF L_x3 _ _ _ (by omega) (by omega) V_x3.out).mono ?_
 rintro e w22 ⟨rfl,gm,on⟩
 have B22:=Lib.hid (B21.out.trans (on.below B21.out.size (fun y m=>by have:=ge_x3.out y m;omega)))
 have sz22:=on.size
 have V_w0:=Lib.hid (V_w0.out.only on (fun y m m'=>by have:=lt_w0.out y m;have:=ge_x3.out y m';omega))
 have V_g0:=Lib.hid (V_g0.out.only on (fun y m m'=>by have:=ge_g0.out y m;have:=lt_x3.out y m';omega))
 have K_aF:=Lib.hid (ZKd K_aF.out on (fun m=>by have:=ge_x3.out _ m;have:=lt_x3.out _ m;omega))
 clear f_aF_0 f_aF_1
 have f_aF_0:=K_aF.out.at (i:=0) rfl
 have f_aF_1:=K_aF.out.at (i:=1) rfl
 have K_x3:=Lib.hid (ZKd K_x3.out on (fun m=>by have:=ge_x3.out _ m;have:=lt_x3.out _ m;omega))
 clear f_x3_0 f_x3_1
 have f_x3_0:=K_x3.out.at (i:=0) rfl
 have f_x3_1:=K_x3.out.at (i:=1) rfl
 clear B21
 have V_x3:=Lib.hid gm
 clear gm on
 clear V_x3
 have kn:¬(ZPq (ZJy (ZJS ((1:Int)) aRules) aBase) aF<0):=by omega
 go_wp2_with fail
 refine (ZPu A_g0 A_w0 _ c_g0 c_w0 _ L_g0 L_w0 _ rfl (by omega) (ZJB V_g0.out.rep).2.2 (ZJB V_w0.out.rep).2.2).mono ?_
 rintro e w23 ⟨rfl,hb⟩
 have B23:=Lib.hid (B22.out.trans (hb.mono B22.out.size))
 have sz23:=hb.size
 have V_w0:=Lib.hid (V_w0.out.later hb)
 have V_g0:=Lib.hid (V_g0.out.later hb)
 have K_aF:=Lib.hid (K_aF.out.later hb)
 clear f_aF_0 f_aF_1
 have f_aF_0:=K_aF.out.at (i:=0) rfl
 have f_aF_1:=K_aF.out.at (i:=1) rfl
 have K_x3:=Lib.hid (K_x3.out.later hb)
 clear f_x3_0 f_x3_1
 have f_x3_0:=K_x3.out.at (i:=0) rfl
 have f_x3_1:=K_x3.out.at (i:=1) rfl
 clear B22
 clear hb
 have nl_g0_23:=ZPz ((1:Int)) R0
 have nb_g0_23:ZPo ((1:Int)) R0≤4611686018427387904:=by omega
 have ng_g0_23:=ZPt ((1:Int)) R0
 go_wp2_with fail
 refine (ZPy A_g0 _ c_g0 R0 L_g0 _ _ _ rfl (by omega) (by omega) (by omega) V_g0.out).mono ?_
 rintro e w24 ⟨rfl,gm,on⟩
 have B24:=Lib.hid (B23.out.trans (on.below B23.out.size (fun y m=>by have:=ge_g0.out y m;omega)))
 have sz24:=on.size
 have V_w0:=Lib.hid (V_w0.out.only on (fun y m m'=>by have:=lt_w0.out y m;have:=ge_g0.out y m';omega))
 have K_aF:=Lib.hid (ZKd K_aF.out on (fun m=>by have:=ge_g0.out _ m;have:=lt_g0.out _ m;omega))
 clear f_aF_0 f_aF_1
 have f_aF_0:=K_aF.out.at (i:=0) rfl
 have f_aF_1:=K_aF.out.at (i:=1) rfl
 have K_x3:=Lib.hid (ZKd K_x3.out on (fun m=>by have:=ge_g0.out _ m;have:=lt_g0.out _ m;omega))
 clear f_x3_0 f_x3_1
 have f_x3_0:=K_x3.out.at (i:=0) rfl
 have f_x3_1:=K_x3.out.at (i:=1) rfl
 clear B23
 have V_g0:=Lib.hid gm
 clear gm on
 go_wp2_with fail
 refine (ZPv A_g0 _ c_g0 R0 L_g0 _ _ rfl (by omega) (by omega) (by omega) (ZJB V_g0.out.rep).2.2).mono ?_
 rintro e w25 ⟨rfl,hb⟩
 have B25:=Lib.hid (B24.out.trans (hb.mono B24.out.size))
 have sz25:=hb.size
 have V_w0:=Lib.hid (V_w0.out.later hb)
 have V_g0:=Lib.hid (V_g0.out.later hb)
 have K_aF:=Lib.hid (K_aF.out.later hb)
 clear f_aF_0 f_aF_1
 have f_aF_0:=K_aF.out.at (i:=0) rfl
 have f_aF_1:=K_aF.out.at (i:=1) rfl
 have K_x3:=Lib.hid (K_x3.out.later hb)
 clear f_x3_0 f_x3_1
 have f_x3_0:=K_x3.out.at (i:=0) rfl
 have f_x3_1:=K_x3.out.at (i:=1) rfl
 clear B24
 clear hb
 have qn25:¬(ZPo ((1:Int)) R0<0):=by omega
 have qm25:((ZPo ((1:Int)) R0) != (ZPo ((1:Int)) R0))=false:=by simp
 go_wp2_with fail
 go_region_held3 (fun W=>W.cell? ⟨w.heap.size,0,none⟩=some (.string aF.rel)∧W.cell? ⟨w.heap.size,1,none⟩=some (.slice aF_A1 aF.args.length aF_c1)) (first | exact ⟨f_aF_0,f_aF_1⟩) (first | (go_at_call 34;refine (ZKB A_aRules _ c_aRules aRules L_aRules _ rfl cz_aRules (H_aRules.out.below B25.out.drew)).mono ?_;rintro e w26 ⟨v,rfl,acc⟩;obtain ⟨A_t25aRules,c_t25aRules,rfl⟩:=acc.shape;have hb:=ZPs acc.below (A4 _);obtain ⟨L_t25aRules,gt⟩:=acc.got;have B26:=Lib.hid (B25.out.trans (hb.mono B25.out.size));have sz26:=hb.size;have V_w0:=Lib.hid (V_w0.out.later hb);have V_g0:=Lib.hid (V_g0.out.later hb);have K_aF:=Lib.hid (K_aF.out.later hb);clear f_aF_0 f_aF_1;have f_aF_0:=K_aF.out.at (i:=0) rfl;have f_aF_1:=K_aF.out.at (i:=1) rfl;have K_x3:=Lib.hid (K_x3.out.later hb);clear f_x3_0 f_x3_1;have f_x3_0:=K_x3.out.at (i:=0) rfl;have f_x3_1:=K_x3.out.at (i:=1) rfl;clear B25;have V_t25aRules:=Lib.hid gt;have ge_t25aRules:=Lib.hid gt.own.ge;have lt_t25aRules:=Lib.hid gt.lt;clear gt hb acc) | (go_at_call 35;refine (ZKE A_aBase _ c_aBase aBase L_aBase _ rfl cz_aBase (H_aBase.out.below B26.out)).mono ?_;rintro e w27 ⟨v,rfl,acc⟩;obtain ⟨A_t26aBase,c_t26aBase,rfl⟩:=acc.shape;have hb:=acc.below;obtain ⟨L_t26aBase,gt⟩:=acc.got;have B27:=Lib.hid (B26.out.trans (hb.mono B26.out.size));have sz27:=hb.size;have V_w0:=Lib.hid (V_w0.out.later hb);have V_g0:=Lib.hid (V_g0.out.later hb);have V_t25aRules:=Lib.hid (V_t25aRules.out.later hb);have K_aF:=Lib.hid (K_aF.out.later hb);clear f_aF_0 f_aF_1;have f_aF_0:=K_aF.out.at (i:=0) rfl;have f_aF_1:=K_aF.out.at (i:=1) rfl;have K_x3:=Lib.hid (K_x3.out.later hb);clear f_x3_0 f_x3_1;have f_x3_0:=K_x3.out.at (i:=0) rfl;have f_x3_1:=K_x3.out.at (i:=1) rfl;clear B26;have V_t26aBase:=Lib.hid gt;have ge_t26aBase:=Lib.hid gt.own.ge;have lt_t26aBase:=Lib.hid gt.lt;clear gt hb acc) | (go_at_call 52;refine (ZMs [.string aF.rel,.slice aF_A1 aF.args.length aF_c1] aF L_aF _ cz_aF (ZJZ.keep H_aF.out (ZdM B27.out (ZJZ.lt H_aF.out)))).mono ?_;rintro e w28 ⟨cs,L_t27aF,rfl,gt,hb⟩;obtain ⟨t27aF_A1,t27aF_c1,rfl⟩:=ZKl gt.rep;have B28:=Lib.hid (B27.out.trans (hb.mono B27.out.size));have sz28:=hb.size;have V_w0:=Lib.hid (V_w0.out.later hb);have V_g0:=Lib.hid (V_g0.out.later hb);have V_t25aRules:=Lib.hid (V_t25aRules.out.later hb);have V_t26aBase:=Lib.hid (V_t26aBase.out.later hb);have K_aF:=Lib.hid (K_aF.out.later hb);clear f_aF_0 f_aF_1;have f_aF_0:=K_aF.out.at (i:=0) rfl;have f_aF_1:=K_aF.out.at (i:=1) rfl;have K_x3:=Lib.hid (K_x3.out.later hb);clear f_x3_0 f_x3_1;have f_x3_0:=K_x3.out.at (i:=0) rfl;have f_x3_1:=K_x3.out.at (i:=1) rfl;clear B27;have V_t27aF:=Lib.hid gt;have ge_t27aF:=Lib.hid gt.own.ge;have lt_t27aF:=Lib.hid gt.lt;clear gt hb) | (go_at_call 46;refine (ZPx hi0 _ (ZLe hJ0 HJ.out B28.out) A_t25aRules c_t25aRules L_t25aRules V_t25aRules.out.rep A_t26aBase c_t26aBase L_t26aBase V_t26aBase.out.rep (by omega) [.string aF.rel,.slice t27aF_A1 aF.args.length t27aF_c1] L_t27aF V_t27aF.out.rep).mono ?_;rintro e w29 ⟨v,rfl,acc⟩;obtain ⟨A_h0,c_h0,rfl⟩:=acc.shape;have hb:=acc.below;obtain ⟨L_h0,gt⟩:=acc.got;have B29:=Lib.hid (B28.out.trans (hb.mono B28.out.size));have sz29:=hb.size;have V_w0:=Lib.hid (V_w0.out.later hb);have V_g0:=Lib.hid (V_g0.out.later hb);have V_t25aRules:=Lib.hid (V_t25aRules.out.later hb);have V_t26aBase:=Lib.hid (V_t26aBase.out.later hb);have V_t27aF:=Lib.hid (V_t27aF.out.later hb);have K_aF:=Lib.hid (K_aF.out.later hb);clear f_aF_0 f_aF_1;have f_aF_0:=K_aF.out.at (i:=0) rfl;have f_aF_1:=K_aF.out.at (i:=1) rfl;have K_x3:=Lib.hid (K_x3.out.later hb);clear f_x3_0 f_x3_1;have f_x3_0:=K_x3.out.at (i:=0) rfl;have f_x3_1:=K_x3.out.at (i:=1) rfl;clear B28;have V_h0:=Lib.hid gt;have ge_h0:=Lib.hid gt.own.ge;have lt_h0:=Lib.hid gt.lt;clear gt hb acc))
 clear V_t25aRules
 clear V_t26aBase
 clear V_t27aF
 go_wp2_with fail
 refine (ZPu A_h0 A_w0 _ c_h0 c_w0 _ L_h0 L_w0 _ rfl (by omega) (ZJB V_h0.out.rep).2.2 (ZJB V_w0.out.rep).2.2).mono ?_
 rintro e w30 ⟨rfl,hb⟩
 have B30:=Lib.hid (B29.out.trans (hb.mono B29.out.size))
 have sz30:=hb.size
 have V_w0:=Lib.hid (V_w0.out.later hb)
 have V_g0:=Lib.hid (V_g0.out.later hb)
 have V_h0:=Lib.hid (V_h0.out.later hb)
 have K_aF:=Lib.hid (K_aF.out.later hb)
 clear f_aF_0 f_aF_1
 have f_aF_0:=K_aF.out.at (i:=0) rfl
 have f_aF_1:=K_aF.out.at (i:=1) rfl
 have K_x3:=Lib.hid (K_x3.out.later hb)
 clear f_x3_0 f_x3_1
 have f_x3_0:=K_x3.out.at (i:=0) rfl
 have f_x3_1:=K_x3.out.at (i:=1) rfl
 clear B29
 clear hb
 go_wp2_with fail
 refine (ZPv A_g0 _ c_g0 R0 L_g0 _ _ rfl (by omega) (by omega) (by omega) (ZJB V_g0.out.rep).2.2).mono ?_
 rintro e w31 ⟨rfl,hb⟩
 have B31:=Lib.hid (B30.out.trans (hb.mono B30.out.size))
 have sz31:=hb.size
 have V_w0:=Lib.hid (V_w0.out.later hb)
 have V_g0:=Lib.hid (V_g0.out.later hb)
 have V_h0:=Lib.hid (V_h0.out.later hb)
 have K_aF:=Lib.hid (K_aF.out.later hb)
 clear f_aF_0 f_aF_1
 have f_aF_0:=K_aF.out.at (i:=0) rfl
 have f_aF_1:=K_aF.out.at (i:=1) rfl
 have K_x3:=Lib.hid (K_x3.out.later hb)
 clear f_x3_0 f_x3_1
 have f_x3_0:=K_x3.out.at (i:=0) rfl
 have f_x3_1:=K_x3.out.at (i:=1) rfl
 clear B30
 clear hb
 have qn31:¬(ZPo ((1:Int)) R0<0):=by omega
 have qm31:((ZPo ((1:Int)) R0) != (ZPo ((1:Int)) R0))=false:=by simp
 go_wp2_with fail
 go_ret
 exact ⟨rfl,B31.out⟩
end
section
open Go.RowKit
set_option maxRecDepth 100000 in
theorem ZMC:ZvE prog 86 ZJZ ZMm:=by
 intro H enc w base spare held fuel cs x h
 obtain ⟨xs,n,_,_,hlen,hxl,hf⟩:=DataW.trod_struct underlying86 h
 have hl:cs.length=2:=hlen.trans (by kernel_rfl)
 have hx:xs.length=2:=hxl
 match cs,hl with
 | [a0,a1],_=>
  have f0:DataW.trod enc prog w base spare held n 9 [a0]=some (xs[0]'(by omega)):=by
   have this:DataW.trod enc prog w base spare held n 9 (A7 (prog.cellsOf 9) (A8 0 [a0,a1]))=_:=(hf 0 _ rfl).trans (A5 (show 0<xs.length by omega))
   rw [show prog.cellsOf 9=1 by kernel_rfl] at this
   exact this
  have f1:DataW.trod enc prog w base spare held n 43 [a1]=some (xs[1]'(by omega)):=by
   have this:DataW.trod enc prog w base spare held n 43 (A7 (prog.cellsOf 43) (A8 1 [a0,a1]))=_:=(hf 1 _ rfl).trans (A5 (show 1<xs.length by omega))
   rw [show prog.cellsOf 43=1 by kernel_rfl] at this
   exact this
  obtain ⟨d0,M0,r0,w0⟩:=(ZJ6 underlying9) f0
  obtain ⟨e0,_,t0⟩:=r0
  cases e0
  obtain ⟨d1,M1,r1,w1⟩:=(ZrJ underlying43 (by kernel_rfl) (ZJ6 underlying9)) f1
  obtain ⟨A1,c1,e1,n1,m1,s1⟩:=r1
  cases e1
  exact ⟨⟨d0,d1⟩,_,⟨A1,c1,M1,rfl,rfl,t0,n1,m1,s1⟩,⟨w0,w1⟩⟩
set_option maxRecDepth 100000 in
theorem ZLc:ZvE prog 226 ZKv ZLf:=by
 intro H enc w base spare held fuel cs x h
 obtain ⟨xs,n,_,_,hlen,hxl,hf⟩:=DataW.trod_struct underlying226 h
 have hl:cs.length=2:=hlen.trans (by kernel_rfl)
 have hx:xs.length=2:=hxl
 match cs,hl with
 | [a0,a1],_=>
  have f0:DataW.trod enc prog w base spare held n 9 [a0]=some (xs[0]'(by omega)):=by
   have this:DataW.trod enc prog w base spare held n 9 (A7 (prog.cellsOf 9) (A8 0 [a0,a1]))=_:=(hf 0 _ rfl).trans (A5 (show 0<xs.length by omega))
   rw [show prog.cellsOf 9=1 by kernel_rfl] at this
   exact this
  have f1:DataW.trod enc prog w base spare held n 43 [a1]=some (xs[1]'(by omega)):=by
   have this:DataW.trod enc prog w base spare held n 43 (A7 (prog.cellsOf 43) (A8 1 [a0,a1]))=_:=(hf 1 _ rfl).trans (A5 (show 1<xs.length by omega))
   rw [show prog.cellsOf 43=1 by kernel_rfl] at this
   exact this
  obtain ⟨d0,M0,r0,w0⟩:=(ZJ6 underlying9) f0
  obtain ⟨e0,_,t0⟩:=r0
  cases e0
  obtain ⟨d1,M1,r1,w1⟩:=(ZrJ underlying43 (by kernel_rfl) (ZJ6 underlying9)) f1
  obtain ⟨A1,c1,e1,n1,m1,s1⟩:=r1
  cases e1
  exact ⟨⟨d0,d1⟩,_,⟨A1,c1,M1,rfl,rfl,t0,n1,m1,s1⟩,⟨w0,w1⟩⟩
set_option maxRecDepth 100000 in
theorem ZMB:ZvE prog 228 ZKb ZMD:=by
 intro H enc w base spare held fuel cs x h
 obtain ⟨xs,n,_,_,hlen,hxl,hf⟩:=DataW.trod_struct underlying228 h
 have hl:cs.length=5:=hlen.trans (by kernel_rfl)
 have hx:xs.length=4:=hxl
 match cs,hl with
 | [a0,a1,a2,a3,a4],_=>
  have f0:DataW.trod enc prog w base spare held n 3 [a0]=some (xs[0]'(by omega)):=by
   have this:DataW.trod enc prog w base spare held n 3 (A7 (prog.cellsOf 3) (A8 0 [a0,a1,a2,a3,a4]))=_:=(hf 0 _ rfl).trans (A5 (show 0<xs.length by omega))
   rw [show prog.cellsOf 3=1 by kernel_rfl] at this
   exact this
  have f1:DataW.trod enc prog w base spare held n 226 [a1,a2]=some (xs[1]'(by omega)):=by
   have this:DataW.trod enc prog w base spare held n 226 (A7 (prog.cellsOf 226) (A8 1 [a0,a1,a2,a3,a4]))=_:=(hf 1 _ rfl).trans (A5 (show 1<xs.length by omega))
   rw [show prog.cellsOf 226=2 by kernel_rfl] at this
   exact this
  have f2:DataW.trod enc prog w base spare held n 9 [a3]=some (xs[2]'(by omega)):=by
   have this:DataW.trod enc prog w base spare held n 9 (A7 (prog.cellsOf 9) (A8 3 [a0,a1,a2,a3,a4]))=_:=(hf 2 _ rfl).trans (A5 (show 2<xs.length by omega))
   rw [show prog.cellsOf 9=1 by kernel_rfl] at this
   exact this
  have f3:DataW.trod enc prog w base spare held n 9 [a4]=some (xs[3]'(by omega)):=by
   have this:DataW.trod enc prog w base spare held n 9 (A7 (prog.cellsOf 9) (A8 4 [a0,a1,a2,a3,a4]))=_:=(hf 3 _ rfl).trans (A5 (show 3<xs.length by omega))
   rw [show prog.cellsOf 9=1 by kernel_rfl] at this
   exact this
  obtain ⟨d0,M0,r0,w0⟩:=(ZLd underlying3) f0
  obtain ⟨e0,_⟩:=r0
  cases e0
  obtain ⟨d1,M1,r1,w1⟩:=ZLc f1
  obtain ⟨A1,c1,N1,e1,g1,t0,n1,m1,s1⟩:=r1
  cases e1
  subst g1
  obtain ⟨d2,M2,r2,w2⟩:=(ZJ6 underlying9) f2
  obtain ⟨e2,_,t1⟩:=r2
  cases e2
  obtain ⟨d3,M3,r3,w3⟩:=(ZJ6 underlying9) f3
  obtain ⟨e3,_,t2⟩:=r3
  cases e3
  exact ⟨⟨d0,d1,d2,d3⟩,_,⟨A1,c1,M1,rfl,rfl,t0,t1,t2,n1,m1,s1⟩,⟨w0,w1,w2,w3⟩⟩
set_option maxRecDepth 100000 in
theorem ZL7:ZvE prog 231 ZJM ZL8:=by
 intro H enc w base spare held fuel cs x h
 obtain ⟨xs,n,_,_,hlen,hxl,hf⟩:=DataW.trod_struct underlying231 h
 have hl:cs.length=3:=hlen.trans (by kernel_rfl)
 have hx:xs.length=2:=hxl
 match cs,hl with
 | [a0,a1,a2],_=>
  have f0:DataW.trod enc prog w base spare held n 3 [a0]=some (xs[0]'(by omega)):=by
   have this:DataW.trod enc prog w base spare held n 3 (A7 (prog.cellsOf 3) (A8 0 [a0,a1,a2]))=_:=(hf 0 _ rfl).trans (A5 (show 0<xs.length by omega))
   rw [show prog.cellsOf 3=1 by kernel_rfl] at this
   exact this
  have f1:DataW.trod enc prog w base spare held n 226 [a1,a2]=some (xs[1]'(by omega)):=by
   have this:DataW.trod enc prog w base spare held n 226 (A7 (prog.cellsOf 226) (A8 1 [a0,a1,a2]))=_:=(hf 1 _ rfl).trans (A5 (show 1<xs.length by omega))
   rw [show prog.cellsOf 226=2 by kernel_rfl] at this
   exact this
  obtain ⟨d0,M0,r0,w0⟩:=(ZLd underlying3) f0
  obtain ⟨e0,_⟩:=r0
  cases e0
  obtain ⟨d1,M1,r1,w1⟩:=ZLc f1
  obtain ⟨A1,c1,N1,e1,g1,t0,n1,m1,s1⟩:=r1
  cases e1
  subst g1
  exact ⟨⟨d0,d1⟩,_,⟨A1,c1,M1,rfl,rfl,t0,n1,m1,s1⟩,⟨w0,w1⟩⟩
set_option maxRecDepth 100000 in
theorem ZMA:ZvE prog 126 ZKa ZMv:=by
 intro H enc w base spare held fuel cs x h
 obtain ⟨xs,n,_,_,hlen,hxl,hf⟩:=DataW.trod_struct underlying126 h
 have hl:cs.length=4:=hlen.trans (by kernel_rfl)
 have hx:xs.length=4:=hxl
 match cs,hl with
 | [a0,a1,a2,a3],_=>
  have f0:DataW.trod enc prog w base spare held n 9 [a0]=some (xs[0]'(by omega)):=by
   have this:DataW.trod enc prog w base spare held n 9 (A7 (prog.cellsOf 9) (A8 0 [a0,a1,a2,a3]))=_:=(hf 0 _ rfl).trans (A5 (show 0<xs.length by omega))
   rw [show prog.cellsOf 9=1 by kernel_rfl] at this
   exact this
  have f1:DataW.trod enc prog w base spare held n 3 [a1]=some (xs[1]'(by omega)):=by
   have this:DataW.trod enc prog w base spare held n 3 (A7 (prog.cellsOf 3) (A8 1 [a0,a1,a2,a3]))=_:=(hf 1 _ rfl).trans (A5 (show 1<xs.length by omega))
   rw [show prog.cellsOf 3=1 by kernel_rfl] at this
   exact this
  have f2:DataW.trod enc prog w base spare held n 123 [a2]=some (xs[2]'(by omega)):=by
   have this:DataW.trod enc prog w base spare held n 123 (A7 (prog.cellsOf 123) (A8 2 [a0,a1,a2,a3]))=_:=(hf 2 _ rfl).trans (A5 (show 2<xs.length by omega))
   rw [show prog.cellsOf 123=1 by kernel_rfl] at this
   exact this
  have f3:DataW.trod enc prog w base spare held n 124 [a3]=some (xs[3]'(by omega)):=by
   have this:DataW.trod enc prog w base spare held n 124 (A7 (prog.cellsOf 124) (A8 3 [a0,a1,a2,a3]))=_:=(hf 3 _ rfl).trans (A5 (show 3<xs.length by omega))
   rw [show prog.cellsOf 124=1 by kernel_rfl] at this
   exact this
  obtain ⟨d0,M0,r0,w0⟩:=(ZJ6 underlying9) f0
  obtain ⟨e0,_,t0⟩:=r0
  cases e0
  obtain ⟨d1,M1,r1,w1⟩:=(ZLd underlying3) f1
  obtain ⟨e1,_⟩:=r1
  cases e1
  obtain ⟨d2,M2,r2,w2⟩:=(ZrJ underlying123 (by kernel_rfl) ZMB) f2
  obtain ⟨A1,c1,e2,n1,m1,s1⟩:=r2
  cases e2
  obtain ⟨d3,M3,r3,w3⟩:=(ZrJ underlying124 (by kernel_rfl) ZL7) f3
  obtain ⟨A2,c2,e3,n2,m2,s2⟩:=r3
  cases e3
  exact ⟨⟨d0,d1,d2,d3⟩,_,⟨A1,c1,M2,A2,c2,M3,rfl,rfl,t0,n1,m1,s1,n2,m2,s2⟩,⟨w0,w1,w2,w3⟩⟩
end
end Go.Proofs.YtfehfkfdfmcgfaaGreatDoor
