/- Texts of this proof, joined: Eq, MText, Mk, Mark, Held, Open, ExactFrameOf, Opens. What each holds is said at its theorems. -/
import Derived.Test.YtfehfkfdfmcgfaaGreatDoorProg
import Derived.Test.YtfehfkfdfmcgfaaGreatDoorFrameOfQ1
import Derived.Outline
import Derived.WalkSpells
import Derived.StillTailTactics
import Derived.WalkLawsBesides
import Derived.Deep.RegionHeld3
import Derived.Deep.Slices
import Derived.ChangeArms
import Derived.ProofKit
import Derived.Test.YtfehfkfdfmcgfaaGreatDoorFrameOfQ3
import Derived.Test.YtfehfkfdfmcgfaaGreatDoorFrameOfQ6
set_option linter.unusedSimpArgs false
set_option linter.unusedVariables false
namespace Go.Proofs.YtfehfkfdfmcgfaaGreatDoor
open Go.RowKit
def ZJ2 (w:World) (e:Ending) (w':World):Prop:=e=.returned (.bool true)∧Below w.heap.size w w'
set_option maxHeartbeats 1600000 in
theorem ZK0 (A B:Option Addr) (n c d:Nat) (ds:List ByteArray) (L M:List Nat) (w:World) (hn:n=ds.length) (hm:n≤9223372036854775807) (h1:Sli ZEr w A ds L) (h2:Sli ZEr w B ds M):
  Calls Tryz.prog 123 #[.slice A n c,.slice B n d] w (ZJ2 w):=by
 have H1:=Lib.hid h1
 have H2:=Lib.hid h2
 have HN:=Lib.hid hn
 clear h1 h2 hn
 have hne:((n:Int) != n)=false:=by simp
 go_enter Tryz.func123,Tryz.ntmps123
 go_wp2
 go_loopw [5] (fun i wr=>∃(k:Nat),k≤n∧i=.int .i64 k∧Hid (∃q,wr=w.drewN q)) (fun i _=>n - (intOf i).toNat)
 case atStart=>exact ⟨0,Nat.zero_le _,rfl,0,rfl⟩
 case round=>
  obtain ⟨k,hk,rfl,hq⟩:=hrel
  obtain ⟨q,rfl⟩:=hq.out
  by_cases hlt:k<n
  ·have hkl:k<ds.length:=by have:=HN.out;omega
   obtain ⟨b,off,cs,Lk,rfl,_,_,hrep,hc⟩:=H1.out.at_ hkl
   obtain ⟨b',off',cs',Mk,rfl,_,_,hrep',hc'⟩:=H2.out.at_ hkl
   generalize ds[k]=x at *
   obtain ⟨rfl,_,_⟩:=hrep
   obtain ⟨rfl,_,_⟩:=hrep'
   have q0:=hc 0 _ rfl
   have p0:=hc' 0 _ rfl
   simp only [show ZEr.size=1 from rfl,Nat.mul_one,Nat.add_zero] at q0 p0
   clear hc hc'
   have k0:(0:Int)≤k:=by omega
   have k1:(k:Int)<n:=by omega
   go_wp2_with fail
   go_quiet (fail)
   go_wp2_with fail
   go_roundw
   case rel=>exact ⟨k+1,by omega,by go_num,by first | exact ZMw _ _ _ | exact ZL3 _ _⟩
   case measure=>simp [intOf];omega
  ·go_wp2
   go_ret
   exact ⟨rfl,ZKM _ _ _⟩
set_option maxHeartbeats 1600000 in
theorem ZKH (A B:Option Addr) (n c d:Nat) (ds:List Int) (L M:List Nat) (w:World) (hn:n=ds.length) (hm:n≤9223372036854775807) (h1:Sli ZKt w A ds L) (h2:Sli ZKt w B ds M):
  Calls Tryz.prog 97 #[.slice A n c,.slice B n d] w (ZJ2 w):=by
 have H1:=Lib.hid h1
 have H2:=Lib.hid h2
 have HN:=Lib.hid hn
 clear h1 h2 hn
 have hne:((n:Int) != n)=false:=by simp
 go_enter Tryz.func97,Tryz.ntmps97
 go_wp2
 go_loopw [5] (fun i wr=>∃(k:Nat),k≤n∧i=.int .i64 k∧Hid (∃q,wr=w.drewN q)) (fun i _=>n - (intOf i).toNat)
 case atStart=>exact ⟨0,Nat.zero_le _,rfl,0,rfl⟩
 case round=>
  obtain ⟨k,hk,rfl,hq⟩:=hrel
  obtain ⟨q,rfl⟩:=hq.out
  by_cases hlt:k<n
  ·have hkl:k<ds.length:=by have:=HN.out;omega
   obtain ⟨b,off,cs,Lk,rfl,_,_,hrep,hc⟩:=H1.out.at_ hkl
   obtain ⟨b',off',cs',Mk,rfl,_,_,hrep',hc'⟩:=H2.out.at_ hkl
   generalize ds[k]=x at *
   obtain ⟨rfl,_⟩:=hrep
   obtain ⟨rfl,_⟩:=hrep'
   have q0:=hc 0 _ rfl
   have p0:=hc' 0 _ rfl
   simp only [show ZKt.size=1 from rfl,Nat.mul_one,Nat.add_zero] at q0 p0
   clear hc hc'
   have k0:(0:Int)≤k:=by omega
   have k1:(k:Int)<n:=by omega
   go_wp2_with fail
   go_quiet (fail)
   go_wp2_with fail
   go_roundw
   case rel=>exact ⟨k+1,by omega,by go_num,by first | exact ZMw _ _ _ | exact ZL3 _ _⟩
   case measure=>simp [intOf];omega
  ·go_wp2
   go_ret
   exact ⟨rfl,ZKM _ _ _⟩
set_option maxHeartbeats 1600000 in
theorem ZMl (cs ds:List Value) (x:Zb) (L M:List Nat) (w:World) (h1:ZJZ.rep w cs x L) (h2:ZJZ.rep w ds x M):
  Calls Tryz.prog 54 #[.agg cs.toArray,.agg ds.toArray] w (ZJ2 w):=by
 obtain ⟨aA1,ac1,aL1,rfl,_ahL,at0,an1,am1,as1⟩:=h1
 obtain ⟨bA1,bc1,bL1,rfl,_bhL,bt0,bn1,bm1,bs1⟩:=h2
 unfold maxLen at am1 bm1
 have SA1:=Lib.hid as1
 have SB1:=Lib.hid bs1
 clear as1 bs1
 go_enter Tryz.func54,Tryz.ntmps54
 go_wp2_with fail
 refine (ZK0 aA1 bA1 _ ac1 bc1 x.args aL1 bL1 _ rfl (by omega) (SA1.out.below (by repeat (first | refine Below.setCell ?_ (by dsimp only;omega) _ | refine Below.alloc ?_ (by first | (simp;done) | (simp;omega) | omega) _ | exact Below.refl _ _))) (SB1.out.below (by repeat (first | refine Below.setCell ?_ (by dsimp only;omega) _ | refine Below.alloc ?_ (by first | (simp;done) | (simp;omega) | omega) _ | exact Below.refl _ _)))).mono ?_
 rintro e w1 ⟨rfl,hb1⟩
 have B1:Hid (Below w.heap.size w w1):=Below.trans (by repeat (first | refine Below.setCell ?_ (by dsimp only;omega) _ | refine Below.alloc ?_ (by first | (simp;done) | (simp;omega) | omega) _ | exact Below.refl _ _)) (hb1.mono (by first | (simp;done) | (simp;omega) | omega))
 have K0:Hid (Blk w1 w.heap.size 45 #[.string x.rel,.slice aA1 x.args.length ac1]):=Blk.later (Blk.alloc (Blk.new _ _ _) _) hb1
 have K1:Hid (Blk w1 (w.heap.size+1) 45 #[.string x.rel,.slice bA1 x.args.length bc1]):=Blk.later (Blk.new_at (by simp)) hb1
 have f0:=K0.out.at (i:=0) rfl
 have r0:=K1.out.at (i:=0) rfl
 have f1:=K0.out.at (i:=1) rfl
 have r1:=K1.out.at (i:=1) rfl
 clear hb1
 have hz1:=B1.out.size
 go_wp2_with fail
 go_ret
 exact ⟨rfl,(by repeat (first | refine Below.setCell ?_ (by dsimp only;omega) _ | refine Below.alloc ?_ (by first | (simp;done) | (simp;omega) | omega) _ | exact B1.out))⟩
set_option maxRecDepth 100000 in
set_option maxHeartbeats 1600000 in
theorem ZKC (A B:Option Addr) (n c d:Nat) (ds:List Zb) (L M:List Nat) (w:World) (hn:n=ds.length) (hm:n≤9223372036854775807) (h1:Sli ZJZ w A ds L) (h2:Sli ZJZ w B ds M):
  Calls Tryz.prog 37 #[.slice A n c,.slice B n d] w (ZJ2 w):=by
 have H1:=Lib.hid h1
 have H2:=Lib.hid h2
 have HN:=Lib.hid hn
 clear h1 h2 hn
 have hne:((n:Int) != n)=false:=by simp
 go_enter Tryz.func37,Tryz.ntmps37
 go_wp2
 go_loopw [5] (fun i wr=>∃(k:Nat),k≤n∧i=.int .i64 k∧Hid (Below w.heap.size w wr)) (fun i _=>n - (intOf i).toNat)
 case atStart=>exact ⟨0,Nat.zero_le _,rfl,Below.refl _ _⟩
 case round=>
  obtain ⟨k,hk,rfl,HB⟩:=hrel
  by_cases hlt:k<n
  ·have hkl:k<ds.length:=by have:=HN.out;omega
   obtain ⟨b,off,cs,Lk,rfl,hbL,hLk,hrep,hc⟩:=H1.out.at_ hkl
   obtain ⟨b',off',cs',Mk,rfl,hbM,hMk,hrep',hc'⟩:=H2.out.at_ hkl
   have hbl:b<w.heap.size:=H1.out.lt b hbL
   have hbl':b'<w.heap.size:=H2.out.lt b' hbM
   have HR:=Lib.hid (ZJZ.keep hrep (ZdM HB.out (fun y m=>H1.out.lt y (hLk y m))))
   have HR':=Lib.hid (ZJZ.keep hrep' (ZdM HB.out (fun y m=>H2.out.lt y (hMk y m))))
   generalize ds[k]=x at *
   obtain ⟨aA1,ac1,rfl⟩:=ZKl hrep
   obtain ⟨bA1,bc1,rfl⟩:=ZKl hrep'
   have q0:wr.cell? ⟨b,off+k * 2,none⟩=_:=(HB.out.cell (p:=⟨b,off+(k * 2+0),none⟩) hbl).trans (hc 0 _ rfl)
   have p0:wr.cell? ⟨b',off'+k * 2,none⟩=_:=(HB.out.cell (p:=⟨b',off'+(k * 2+0),none⟩) hbl').trans (hc' 0 _ rfl)
   have q1:wr.cell? ⟨b,off+k * 2+1,none⟩=_:=(HB.out.cell (p:=⟨b,off+(k * 2+1),none⟩) hbl).trans (hc 1 _ rfl)
   have p1:wr.cell? ⟨b',off'+k * 2+1,none⟩=_:=(HB.out.cell (p:=⟨b',off'+(k * 2+1),none⟩) hbl').trans (hc' 1 _ rfl)
   clear hc hc' hrep hrep'
   have k0:(0:Int)≤k:=by omega
   have k1:(k:Int)<n:=by omega
   go_wp2_with fail
   go_still_tail 8,(by kernel_rfl)
   change wpList _ _ _ _ _ wr.drew
   go_wp2_with (go_at_call 54;(refine (ZMl _ _ x Lk Mk wr.drew (ZJZ.keep HR.out (fun _ _=>rfl)) (ZJZ.keep HR'.out (fun _ _=>rfl))).mono ?_;rintro e w1 ⟨rfl,hb1⟩;have HB1:=Lib.hid (HB.out.drew.trans (hb1.mono HB.out.size));clear hb1))
   go_roundw
   case rel=>exact ⟨k+1,by omega,by go_num,HB1.out⟩
   case measure=>simp [intOf];omega
  ·go_wp2
   go_ret
   exact ⟨rfl,HB.out⟩
set_option maxHeartbeats 1600000 in
theorem ZKU (cs ds:List Value) (x:Zv) (L M:List Nat) (w:World) (h1:ZKv.rep w cs x L) (h2:ZKv.rep w ds x M):
  Calls Tryz.prog 275 #[.agg cs.toArray,.agg ds.toArray] w (ZJ2 w):=by
 obtain ⟨aA1,ac1,aL1,rfl,_ahL,at0,an1,am1,as1⟩:=h1
 obtain ⟨bA1,bc1,bL1,rfl,_bhL,bt0,bn1,bm1,bs1⟩:=h2
 unfold maxLen at am1 bm1
 have SA1:=Lib.hid as1
 have SB1:=Lib.hid bs1
 clear as1 bs1
 go_enter Tryz.func275,Tryz.ntmps275
 go_wp2_with fail
 refine (ZK0 aA1 bA1 _ ac1 bc1 x.args aL1 bL1 _ rfl (by omega) (SA1.out.below (by repeat (first | refine Below.setCell ?_ (by dsimp only;omega) _ | refine Below.alloc ?_ (by first | (simp;done) | (simp;omega) | omega) _ | exact Below.refl _ _))) (SB1.out.below (by repeat (first | refine Below.setCell ?_ (by dsimp only;omega) _ | refine Below.alloc ?_ (by first | (simp;done) | (simp;omega) | omega) _ | exact Below.refl _ _)))).mono ?_
 rintro e w1 ⟨rfl,hb1⟩
 have B1:Hid (Below w.heap.size w w1):=Below.trans (by repeat (first | refine Below.setCell ?_ (by dsimp only;omega) _ | refine Below.alloc ?_ (by first | (simp;done) | (simp;omega) | omega) _ | exact Below.refl _ _)) (hb1.mono (by first | (simp;done) | (simp;omega) | omega))
 have K0:Hid (Blk w1 w.heap.size 48 #[.string x.rel,.slice aA1 x.args.length ac1]):=Blk.later (Blk.alloc (Blk.new _ _ _) _) hb1
 have K1:Hid (Blk w1 (w.heap.size+1) 48 #[.string x.rel,.slice bA1 x.args.length bc1]):=Blk.later (Blk.new_at (by simp)) hb1
 have f0:=K0.out.at (i:=0) rfl
 have r0:=K1.out.at (i:=0) rfl
 have f1:=K0.out.at (i:=1) rfl
 have r1:=K1.out.at (i:=1) rfl
 clear hb1
 have hz1:=B1.out.size
 go_wp2_with fail
 go_ret
 exact ⟨rfl,(by repeat (first | refine Below.setCell ?_ (by dsimp only;omega) _ | refine Below.alloc ?_ (by first | (simp;done) | (simp;omega) | omega) _ | exact B1.out))⟩
set_option maxHeartbeats 1600000 in
theorem ZMr (cs ds:List Value) (x:Zt) (L M:List Nat) (w:World) (h1:ZKb.rep w cs x L) (h2:ZKb.rep w ds x M):
  Calls Tryz.prog 232 #[.agg cs.toArray,.agg ds.toArray] w (ZJ2 w):=by
 obtain ⟨aA1,ac1,aL1,rfl,_ahL,at0,at1,at2,an1,am1,as1⟩:=h1
 obtain ⟨bA1,bc1,bL1,rfl,_bhL,bt0,bt1,bt2,bn1,bm1,bs1⟩:=h2
 unfold maxLen at am1 bm1
 have SA1:=Lib.hid as1
 have SB1:=Lib.hid bs1
 clear as1 bs1
 go_enter Tryz.func232,Tryz.ntmps232
 go_wp2_with fail
 refine (ZKU [.string x.pattern.rel,.slice aA1 x.pattern.args.length ac1] [.string x.pattern.rel,.slice bA1 x.pattern.args.length bc1] x.pattern _ _ _ ⟨aA1,ac1,aL1,rfl,rfl,at0,an1,(by unfold maxLen;omega),SA1.out.below (by repeat (first | refine Below.setCell ?_ (by dsimp only;omega) _ | refine Below.alloc ?_ (by first | (simp;done) | (simp;omega) | omega) _ | exact Below.refl _ _))⟩ ⟨bA1,bc1,bL1,rfl,rfl,bt0,bn1,(by unfold maxLen;omega),SB1.out.below (by repeat (first | refine Below.setCell ?_ (by dsimp only;omega) _ | refine Below.alloc ?_ (by first | (simp;done) | (simp;omega) | omega) _ | exact Below.refl _ _))⟩).mono ?_
 rintro e w1 ⟨rfl,hb1⟩
 have B1:Hid (Below w.heap.size w w1):=Below.trans (by repeat (first | refine Below.setCell ?_ (by dsimp only;omega) _ | refine Below.alloc ?_ (by first | (simp;done) | (simp;omega) | omega) _ | exact Below.refl _ _)) (hb1.mono (by first | (simp;done) | (simp;omega) | omega))
 have K0:Hid (Blk w1 w.heap.size 173 #[.int .i64 x.kind,.string x.pattern.rel,.slice aA1 x.pattern.args.length ac1,.string x.left,.string x.right]):=Blk.later (Blk.alloc (Blk.new _ _ _) _) hb1
 have K1:Hid (Blk w1 (w.heap.size+1) 173 #[.int .i64 x.kind,.string x.pattern.rel,.slice bA1 x.pattern.args.length bc1,.string x.left,.string x.right]):=Blk.later (Blk.new_at (by simp)) hb1
 have f0:=K0.out.at (i:=0) rfl
 have r0:=K1.out.at (i:=0) rfl
 have f1:=K0.out.at (i:=1) rfl
 have r1:=K1.out.at (i:=1) rfl
 have f2:=K0.out.at (i:=2) rfl
 have r2:=K1.out.at (i:=2) rfl
 have f3:=K0.out.at (i:=3) rfl
 have r3:=K1.out.at (i:=3) rfl
 have f4:=K0.out.at (i:=4) rfl
 have r4:=K1.out.at (i:=4) rfl
 clear hb1
 have hz1:=B1.out.size
 go_wp2_with fail
 go_ret
 exact ⟨rfl,(by repeat (first | refine Below.setCell ?_ (by dsimp only;omega) _ | refine Below.alloc ?_ (by first | (simp;done) | (simp;omega) | omega) _ | exact B1.out))⟩
set_option maxRecDepth 100000 in
set_option maxHeartbeats 1600000 in
theorem ZMc (A B:Option Addr) (n c d:Nat) (ds:List Zt) (L M:List Nat) (w:World) (hn:n=ds.length) (hm:n≤9223372036854775807) (h1:Sli ZKb w A ds L) (h2:Sli ZKb w B ds M):
  Calls Tryz.prog 166 #[.slice A n c,.slice B n d] w (ZJ2 w):=by
 have H1:=Lib.hid h1
 have H2:=Lib.hid h2
 have HN:=Lib.hid hn
 clear h1 h2 hn
 have hne:((n:Int) != n)=false:=by simp
 go_enter Tryz.func166,Tryz.ntmps166
 go_wp2
 go_loopw [5] (fun i wr=>∃(k:Nat),k≤n∧i=.int .i64 k∧Hid (Below w.heap.size w wr)) (fun i _=>n - (intOf i).toNat)
 case atStart=>exact ⟨0,Nat.zero_le _,rfl,Below.refl _ _⟩
 case round=>
  obtain ⟨k,hk,rfl,HB⟩:=hrel
  by_cases hlt:k<n
  ·have hkl:k<ds.length:=by have:=HN.out;omega
   obtain ⟨b,off,cs,Lk,rfl,hbL,hLk,hrep,hc⟩:=H1.out.at_ hkl
   obtain ⟨b',off',cs',Mk,rfl,hbM,hMk,hrep',hc'⟩:=H2.out.at_ hkl
   have hbl:b<w.heap.size:=H1.out.lt b hbL
   have hbl':b'<w.heap.size:=H2.out.lt b' hbM
   have HR:=Lib.hid (ZKb.keep hrep (ZdM HB.out (fun y m=>H1.out.lt y (hLk y m))))
   have HR':=Lib.hid (ZKb.keep hrep' (ZdM HB.out (fun y m=>H2.out.lt y (hMk y m))))
   generalize ds[k]=x at *
   obtain ⟨aA1,ac1,rfl⟩:=ZKn hrep
   obtain ⟨bA1,bc1,rfl⟩:=ZKn hrep'
   have q0:wr.cell? ⟨b,off+k * 5,none⟩=_:=(HB.out.cell (p:=⟨b,off+(k * 5+0),none⟩) hbl).trans (hc 0 _ rfl)
   have p0:wr.cell? ⟨b',off'+k * 5,none⟩=_:=(HB.out.cell (p:=⟨b',off'+(k * 5+0),none⟩) hbl').trans (hc' 0 _ rfl)
   have q1:wr.cell? ⟨b,off+k * 5+1,none⟩=_:=(HB.out.cell (p:=⟨b,off+(k * 5+1),none⟩) hbl).trans (hc 1 _ rfl)
   have p1:wr.cell? ⟨b',off'+k * 5+1,none⟩=_:=(HB.out.cell (p:=⟨b',off'+(k * 5+1),none⟩) hbl').trans (hc' 1 _ rfl)
   have q2:wr.cell? ⟨b,off+k * 5+2,none⟩=_:=(HB.out.cell (p:=⟨b,off+(k * 5+2),none⟩) hbl).trans (hc 2 _ rfl)
   have p2:wr.cell? ⟨b',off'+k * 5+2,none⟩=_:=(HB.out.cell (p:=⟨b',off'+(k * 5+2),none⟩) hbl').trans (hc' 2 _ rfl)
   have q3:wr.cell? ⟨b,off+k * 5+3,none⟩=_:=(HB.out.cell (p:=⟨b,off+(k * 5+3),none⟩) hbl).trans (hc 3 _ rfl)
   have p3:wr.cell? ⟨b',off'+k * 5+3,none⟩=_:=(HB.out.cell (p:=⟨b',off'+(k * 5+3),none⟩) hbl').trans (hc' 3 _ rfl)
   have q4:wr.cell? ⟨b,off+k * 5+4,none⟩=_:=(HB.out.cell (p:=⟨b,off+(k * 5+4),none⟩) hbl).trans (hc 4 _ rfl)
   have p4:wr.cell? ⟨b',off'+k * 5+4,none⟩=_:=(HB.out.cell (p:=⟨b',off'+(k * 5+4),none⟩) hbl').trans (hc' 4 _ rfl)
   clear hc hc' hrep hrep'
   have k0:(0:Int)≤k:=by omega
   have k1:(k:Int)<n:=by omega
   go_wp2_with fail
   go_still_tail 8,(by kernel_rfl)
   change wpList _ _ _ _ _ wr.drew
   go_wp2_with (go_at_call 232;(refine (ZMr _ _ x Lk Mk wr.drew (ZKb.keep HR.out (fun _ _=>rfl)) (ZKb.keep HR'.out (fun _ _=>rfl))).mono ?_;rintro e w1 ⟨rfl,hb1⟩;have HB1:=Lib.hid (HB.out.drew.trans (hb1.mono HB.out.size));clear hb1))
   go_roundw
   case rel=>exact ⟨k+1,by omega,by go_num,HB1.out⟩
   case measure=>simp [intOf];omega
  ·go_wp2
   go_ret
   exact ⟨rfl,HB.out⟩
set_option maxHeartbeats 1600000 in
theorem ZLV (cs ds:List Value) (x:Zz) (L M:List Nat) (w:World) (h1:ZJM.rep w cs x L) (h2:ZJM.rep w ds x M):
  Calls Tryz.prog 233 #[.agg cs.toArray,.agg ds.toArray] w (ZJ2 w):=by
 obtain ⟨aA1,ac1,aL1,rfl,_ahL,at0,an1,am1,as1⟩:=h1
 obtain ⟨bA1,bc1,bL1,rfl,_bhL,bt0,bn1,bm1,bs1⟩:=h2
 unfold maxLen at am1 bm1
 have SA1:=Lib.hid as1
 have SB1:=Lib.hid bs1
 clear as1 bs1
 go_enter Tryz.func233,Tryz.ntmps233
 go_wp2_with fail
 refine (ZKU [.string x.pattern.rel,.slice aA1 x.pattern.args.length ac1] [.string x.pattern.rel,.slice bA1 x.pattern.args.length bc1] x.pattern _ _ _ ⟨aA1,ac1,aL1,rfl,rfl,at0,an1,(by unfold maxLen;omega),SA1.out.below (by repeat (first | refine Below.setCell ?_ (by dsimp only;omega) _ | refine Below.alloc ?_ (by first | (simp;done) | (simp;omega) | omega) _ | exact Below.refl _ _))⟩ ⟨bA1,bc1,bL1,rfl,rfl,bt0,bn1,(by unfold maxLen;omega),SB1.out.below (by repeat (first | refine Below.setCell ?_ (by dsimp only;omega) _ | refine Below.alloc ?_ (by first | (simp;done) | (simp;omega) | omega) _ | exact Below.refl _ _))⟩).mono ?_
 rintro e w1 ⟨rfl,hb1⟩
 have B1:Hid (Below w.heap.size w w1):=Below.trans (by repeat (first | refine Below.setCell ?_ (by dsimp only;omega) _ | refine Below.alloc ?_ (by first | (simp;done) | (simp;omega) | omega) _ | exact Below.refl _ _)) (hb1.mono (by first | (simp;done) | (simp;omega) | omega))
 have K0:Hid (Blk w1 w.heap.size 50 #[.int .i64 x.kind,.string x.pattern.rel,.slice aA1 x.pattern.args.length ac1]):=Blk.later (Blk.alloc (Blk.new _ _ _) _) hb1
 have K1:Hid (Blk w1 (w.heap.size+1) 50 #[.int .i64 x.kind,.string x.pattern.rel,.slice bA1 x.pattern.args.length bc1]):=Blk.later (Blk.new_at (by simp)) hb1
 have f0:=K0.out.at (i:=0) rfl
 have r0:=K1.out.at (i:=0) rfl
 have f1:=K0.out.at (i:=1) rfl
 have r1:=K1.out.at (i:=1) rfl
 have f2:=K0.out.at (i:=2) rfl
 have r2:=K1.out.at (i:=2) rfl
 clear hb1
 have hz1:=B1.out.size
 go_wp2_with fail
 go_ret
 exact ⟨rfl,(by repeat (first | refine Below.setCell ?_ (by dsimp only;omega) _ | refine Below.alloc ?_ (by first | (simp;done) | (simp;omega) | omega) _ | exact B1.out))⟩
set_option maxRecDepth 100000 in
set_option maxHeartbeats 1600000 in
theorem ZLO (A B:Option Addr) (n c d:Nat) (ds:List Zz) (L M:List Nat) (w:World) (hn:n=ds.length) (hm:n≤9223372036854775807) (h1:Sli ZJM w A ds L) (h2:Sli ZJM w B ds M):
  Calls Tryz.prog 167 #[.slice A n c,.slice B n d] w (ZJ2 w):=by
 have H1:=Lib.hid h1
 have H2:=Lib.hid h2
 have HN:=Lib.hid hn
 clear h1 h2 hn
 have hne:((n:Int) != n)=false:=by simp
 go_enter Tryz.func167,Tryz.ntmps167
 go_wp2
 go_loopw [5] (fun i wr=>∃(k:Nat),k≤n∧i=.int .i64 k∧Hid (Below w.heap.size w wr)) (fun i _=>n - (intOf i).toNat)
 case atStart=>exact ⟨0,Nat.zero_le _,rfl,Below.refl _ _⟩
 case round=>
  obtain ⟨k,hk,rfl,HB⟩:=hrel
  by_cases hlt:k<n
  ·have hkl:k<ds.length:=by have:=HN.out;omega
   obtain ⟨b,off,cs,Lk,rfl,hbL,hLk,hrep,hc⟩:=H1.out.at_ hkl
   obtain ⟨b',off',cs',Mk,rfl,hbM,hMk,hrep',hc'⟩:=H2.out.at_ hkl
   have hbl:b<w.heap.size:=H1.out.lt b hbL
   have hbl':b'<w.heap.size:=H2.out.lt b' hbM
   have HR:=Lib.hid (ZJM.keep hrep (ZdM HB.out (fun y m=>H1.out.lt y (hLk y m))))
   have HR':=Lib.hid (ZJM.keep hrep' (ZdM HB.out (fun y m=>H2.out.lt y (hMk y m))))
   generalize ds[k]=x at *
   obtain ⟨aA1,ac1,rfl⟩:=ZKg hrep
   obtain ⟨bA1,bc1,rfl⟩:=ZKg hrep'
   have q0:wr.cell? ⟨b,off+k * 3,none⟩=_:=(HB.out.cell (p:=⟨b,off+(k * 3+0),none⟩) hbl).trans (hc 0 _ rfl)
   have p0:wr.cell? ⟨b',off'+k * 3,none⟩=_:=(HB.out.cell (p:=⟨b',off'+(k * 3+0),none⟩) hbl').trans (hc' 0 _ rfl)
   have q1:wr.cell? ⟨b,off+k * 3+1,none⟩=_:=(HB.out.cell (p:=⟨b,off+(k * 3+1),none⟩) hbl).trans (hc 1 _ rfl)
   have p1:wr.cell? ⟨b',off'+k * 3+1,none⟩=_:=(HB.out.cell (p:=⟨b',off'+(k * 3+1),none⟩) hbl').trans (hc' 1 _ rfl)
   have q2:wr.cell? ⟨b,off+k * 3+2,none⟩=_:=(HB.out.cell (p:=⟨b,off+(k * 3+2),none⟩) hbl).trans (hc 2 _ rfl)
   have p2:wr.cell? ⟨b',off'+k * 3+2,none⟩=_:=(HB.out.cell (p:=⟨b',off'+(k * 3+2),none⟩) hbl').trans (hc' 2 _ rfl)
   clear hc hc' hrep hrep'
   have k0:(0:Int)≤k:=by omega
   have k1:(k:Int)<n:=by omega
   go_wp2_with fail
   go_still_tail 8,(by kernel_rfl)
   change wpList _ _ _ _ _ wr.drew
   go_wp2_with (go_at_call 233;(refine (ZLV _ _ x Lk Mk wr.drew (ZJM.keep HR.out (fun _ _=>rfl)) (ZJM.keep HR'.out (fun _ _=>rfl))).mono ?_;rintro e w1 ⟨rfl,hb1⟩;have HB1:=Lib.hid (HB.out.drew.trans (hb1.mono HB.out.size));clear hb1))
   go_roundw
   case rel=>exact ⟨k+1,by omega,by go_num,HB1.out⟩
   case measure=>simp [intOf];omega
  ·go_wp2
   go_ret
   exact ⟨rfl,HB.out⟩
set_option maxHeartbeats 1600000 in
theorem ZMn (cs ds:List Value) (x:Zg) (L M:List Nat) (w:World) (h1:ZKa.rep w cs x L) (h2:ZKa.rep w ds x M):
  Calls Tryz.prog 98 #[.agg cs.toArray,.agg ds.toArray] w (ZJ2 w):=by
 obtain ⟨aA1,ac1,aL1,aA2,ac2,aL2,rfl,_ahL,at0,an1,am1,as1,an2,am2,as2⟩:=h1
 obtain ⟨bA1,bc1,bL1,bA2,bc2,bL2,rfl,_bhL,bt0,bn1,bm1,bs1,bn2,bm2,bs2⟩:=h2
 unfold maxLen at am1 bm1 am2 bm2
 have SA1:=Lib.hid as1
 have SB1:=Lib.hid bs1
 clear as1 bs1
 have SA2:=Lib.hid as2
 have SB2:=Lib.hid bs2
 clear as2 bs2
 go_enter Tryz.func98,Tryz.ntmps98
 go_wp2_with fail
 refine (ZMc aA1 bA1 _ ac1 bc1 x.cond aL1 bL1 _ rfl (by omega) (SA1.out.below (by repeat (first | refine Below.setCell ?_ (by dsimp only;omega) _ | refine Below.alloc ?_ (by first | (simp;done) | (simp;omega) | omega) _ | exact Below.refl _ _))) (SB1.out.below (by repeat (first | refine Below.setCell ?_ (by dsimp only;omega) _ | refine Below.alloc ?_ (by first | (simp;done) | (simp;omega) | omega) _ | exact Below.refl _ _)))).mono ?_
 rintro e w1 ⟨rfl,hb1⟩
 have B1:Hid (Below w.heap.size w w1):=Below.trans (by repeat (first | refine Below.setCell ?_ (by dsimp only;omega) _ | refine Below.alloc ?_ (by first | (simp;done) | (simp;omega) | omega) _ | exact Below.refl _ _)) (hb1.mono (by first | (simp;done) | (simp;omega) | omega))
 have K0:Hid (Blk w1 w.heap.size 42 #[.string x.name,.int .i64 x.priority,.slice aA1 x.cond.length ac1,.slice aA2 x.thn.length ac2]):=Blk.later (Blk.alloc (Blk.new _ _ _) _) hb1
 have K1:Hid (Blk w1 (w.heap.size+1) 42 #[.string x.name,.int .i64 x.priority,.slice bA1 x.cond.length bc1,.slice bA2 x.thn.length bc2]):=Blk.later (Blk.new_at (by simp)) hb1
 have f0:=K0.out.at (i:=0) rfl
 have r0:=K1.out.at (i:=0) rfl
 have f1:=K0.out.at (i:=1) rfl
 have r1:=K1.out.at (i:=1) rfl
 have f2:=K0.out.at (i:=2) rfl
 have r2:=K1.out.at (i:=2) rfl
 have f3:=K0.out.at (i:=3) rfl
 have r3:=K1.out.at (i:=3) rfl
 clear hb1
 have hz1:=B1.out.size
 go_wp2_with fail
 refine (ZLO aA2 bA2 _ ac2 bc2 x.thn aL2 bL2 _ rfl (by omega) (SA2.out.below (by repeat (first | refine Below.setCell ?_ (by dsimp only;omega) _ | refine Below.alloc ?_ (by first | (simp;done) | (simp;omega) | omega) _ | exact B1.out))) (SB2.out.below (by repeat (first | refine Below.setCell ?_ (by dsimp only;omega) _ | refine Below.alloc ?_ (by first | (simp;done) | (simp;omega) | omega) _ | exact B1.out)))).mono ?_
 rintro e w2 ⟨rfl,hb2⟩
 have B2:Hid (Below w.heap.size w w2):=Below.trans (by repeat (first | refine Below.setCell ?_ (by dsimp only;omega) _ | refine Below.alloc ?_ (by first | (simp;done) | (simp;omega) | omega) _ | exact B1.out)) (hb2.mono (by first | (simp;done) | (simp;omega) | omega))
 have K0:=Lib.hid (K0.out.later hb2)
 have K1:=Lib.hid (K1.out.later hb2)
 clear f0 r0 f1 r1 f2 r2 f3 r3
 have f0:=K0.out.at (i:=0) rfl
 have r0:=K1.out.at (i:=0) rfl
 have f1:=K0.out.at (i:=1) rfl
 have r1:=K1.out.at (i:=1) rfl
 have f2:=K0.out.at (i:=2) rfl
 have r2:=K1.out.at (i:=2) rfl
 have f3:=K0.out.at (i:=3) rfl
 have r3:=K1.out.at (i:=3) rfl
 clear hb2
 have hz2:=B2.out.size
 go_wp2_with fail
 go_ret
 exact ⟨rfl,(by repeat (first | refine Below.setCell ?_ (by dsimp only;omega) _ | refine Below.alloc ?_ (by first | (simp;done) | (simp;omega) | omega) _ | exact B2.out))⟩
set_option maxRecDepth 100000 in
set_option maxHeartbeats 1600000 in
theorem ZMd (A B:Option Addr) (n c d:Nat) (ds:List Zg) (L M:List Nat) (w:World) (hn:n=ds.length) (hm:n≤9223372036854775807) (h1:Sli ZKa w A ds L) (h2:Sli ZKa w B ds M):
  Calls Tryz.prog 39 #[.slice A n c,.slice B n d] w (ZJ2 w):=by
 have H1:=Lib.hid h1
 have H2:=Lib.hid h2
 have HN:=Lib.hid hn
 clear h1 h2 hn
 have hne:((n:Int) != n)=false:=by simp
 go_enter Tryz.func39,Tryz.ntmps39
 go_wp2
 go_loopw [5] (fun i wr=>∃(k:Nat),k≤n∧i=.int .i64 k∧Hid (Below w.heap.size w wr)) (fun i _=>n - (intOf i).toNat)
 case atStart=>exact ⟨0,Nat.zero_le _,rfl,Below.refl _ _⟩
 case round=>
  obtain ⟨k,hk,rfl,HB⟩:=hrel
  by_cases hlt:k<n
  ·have hkl:k<ds.length:=by have:=HN.out;omega
   obtain ⟨b,off,cs,Lk,rfl,hbL,hLk,hrep,hc⟩:=H1.out.at_ hkl
   obtain ⟨b',off',cs',Mk,rfl,hbM,hMk,hrep',hc'⟩:=H2.out.at_ hkl
   have hbl:b<w.heap.size:=H1.out.lt b hbL
   have hbl':b'<w.heap.size:=H2.out.lt b' hbM
   have HR:=Lib.hid (ZKa.keep hrep (ZdM HB.out (fun y m=>H1.out.lt y (hLk y m))))
   have HR':=Lib.hid (ZKa.keep hrep' (ZdM HB.out (fun y m=>H2.out.lt y (hMk y m))))
   generalize ds[k]=x at *
   obtain ⟨aA1,ac1,aA2,ac2,rfl⟩:=ZKm hrep
   obtain ⟨bA1,bc1,bA2,bc2,rfl⟩:=ZKm hrep'
   have q0:wr.cell? ⟨b,off+k * 4,none⟩=_:=(HB.out.cell (p:=⟨b,off+(k * 4+0),none⟩) hbl).trans (hc 0 _ rfl)
   have p0:wr.cell? ⟨b',off'+k * 4,none⟩=_:=(HB.out.cell (p:=⟨b',off'+(k * 4+0),none⟩) hbl').trans (hc' 0 _ rfl)
   have q1:wr.cell? ⟨b,off+k * 4+1,none⟩=_:=(HB.out.cell (p:=⟨b,off+(k * 4+1),none⟩) hbl).trans (hc 1 _ rfl)
   have p1:wr.cell? ⟨b',off'+k * 4+1,none⟩=_:=(HB.out.cell (p:=⟨b',off'+(k * 4+1),none⟩) hbl').trans (hc' 1 _ rfl)
   have q2:wr.cell? ⟨b,off+k * 4+2,none⟩=_:=(HB.out.cell (p:=⟨b,off+(k * 4+2),none⟩) hbl).trans (hc 2 _ rfl)
   have p2:wr.cell? ⟨b',off'+k * 4+2,none⟩=_:=(HB.out.cell (p:=⟨b',off'+(k * 4+2),none⟩) hbl').trans (hc' 2 _ rfl)
   have q3:wr.cell? ⟨b,off+k * 4+3,none⟩=_:=(HB.out.cell (p:=⟨b,off+(k * 4+3),none⟩) hbl).trans (hc 3 _ rfl)
   have p3:wr.cell? ⟨b',off'+k * 4+3,none⟩=_:=(HB.out.cell (p:=⟨b',off'+(k * 4+3),none⟩) hbl').trans (hc' 3 _ rfl)
   clear hc hc' hrep hrep'
   have k0:(0:Int)≤k:=by omega
   have k1:(k:Int)<n:=by omega
   go_wp2_with fail
   go_still_tail 8,(by kernel_rfl)
   change wpList _ _ _ _ _ wr.drew
   go_wp2_with (go_at_call 98;(refine (ZMn _ _ x Lk Mk wr.drew (ZKa.keep HR.out (fun _ _=>rfl)) (ZKa.keep HR'.out (fun _ _=>rfl))).mono ?_;rintro e w1 ⟨rfl,hb1⟩;have HB1:=Lib.hid (HB.out.drew.trans (hb1.mono HB.out.size));clear hb1))
   go_roundw
   case rel=>exact ⟨k+1,by omega,by go_num,HB1.out⟩
   case measure=>simp [intOf];omega
  ·go_wp2
   go_ret
   exact ⟨rfl,HB.out⟩
set_option maxHeartbeats 1600000 in
theorem ZLY (cs ds:List Value) (x:Zf) (L M:List Nat) (w:World) (h1:ZJV.rep w cs x L) (h2:ZJV.rep w ds x M):
  Calls Tryz.prog 231 #[.agg cs.toArray,.agg ds.toArray] w (ZJ2 w):=by
 obtain ⟨aA1,ac1,aL1,aA2,ac2,aL2,rfl,_ahL,an1,am1,as1,an2,am2,as2⟩:=h1
 obtain ⟨bA1,bc1,bL1,bA2,bc2,bL2,rfl,_bhL,bn1,bm1,bs1,bn2,bm2,bs2⟩:=h2
 unfold maxLen at am1 bm1 am2 bm2
 have SA1:=Lib.hid as1
 have SB1:=Lib.hid bs1
 clear as1 bs1
 have SA2:=Lib.hid as2
 have SB2:=Lib.hid bs2
 clear as2 bs2
 go_enter Tryz.func231,Tryz.ntmps231
 go_wp2_with fail
 refine (ZKH aA1 bA1 _ ac1 bc1 x.inn aL1 bL1 _ rfl (by omega) (SA1.out.below (by repeat (first | refine Below.setCell ?_ (by dsimp only;omega) _ | refine Below.alloc ?_ (by first | (simp;done) | (simp;omega) | omega) _ | exact Below.refl _ _))) (SB1.out.below (by repeat (first | refine Below.setCell ?_ (by dsimp only;omega) _ | refine Below.alloc ?_ (by first | (simp;done) | (simp;omega) | omega) _ | exact Below.refl _ _)))).mono ?_
 rintro e w1 ⟨rfl,hb1⟩
 have B1:Hid (Below w.heap.size w w1):=Below.trans (by repeat (first | refine Below.setCell ?_ (by dsimp only;omega) _ | refine Below.alloc ?_ (by first | (simp;done) | (simp;omega) | omega) _ | exact Below.refl _ _)) (hb1.mono (by first | (simp;done) | (simp;omega) | omega))
 have K0:Hid (Blk w1 w.heap.size 199 #[.int .i64 x.for_,.slice aA1 x.inn.length ac1,.slice aA2 x.outs.length ac2]):=Blk.later (Blk.alloc (Blk.new _ _ _) _) hb1
 have K1:Hid (Blk w1 (w.heap.size+1) 199 #[.int .i64 x.for_,.slice bA1 x.inn.length bc1,.slice bA2 x.outs.length bc2]):=Blk.later (Blk.new_at (by simp)) hb1
 have f0:=K0.out.at (i:=0) rfl
 have r0:=K1.out.at (i:=0) rfl
 have f1:=K0.out.at (i:=1) rfl
 have r1:=K1.out.at (i:=1) rfl
 have f2:=K0.out.at (i:=2) rfl
 have r2:=K1.out.at (i:=2) rfl
 clear hb1
 have hz1:=B1.out.size
 go_wp2_with fail
 refine (ZKH aA2 bA2 _ ac2 bc2 x.outs aL2 bL2 _ rfl (by omega) (SA2.out.below (by repeat (first | refine Below.setCell ?_ (by dsimp only;omega) _ | refine Below.alloc ?_ (by first | (simp;done) | (simp;omega) | omega) _ | exact B1.out))) (SB2.out.below (by repeat (first | refine Below.setCell ?_ (by dsimp only;omega) _ | refine Below.alloc ?_ (by first | (simp;done) | (simp;omega) | omega) _ | exact B1.out)))).mono ?_
 rintro e w2 ⟨rfl,hb2⟩
 have B2:Hid (Below w.heap.size w w2):=Below.trans (by repeat (first | refine Below.setCell ?_ (by dsimp only;omega) _ | refine Below.alloc ?_ (by first | (simp;done) | (simp;omega) | omega) _ | exact B1.out)) (hb2.mono (by first | (simp;done) | (simp;omega) | omega))
 have K0:=Lib.hid (K0.out.later hb2)
 have K1:=Lib.hid (K1.out.later hb2)
 clear f0 r0 f1 r1 f2 r2
 have f0:=K0.out.at (i:=0) rfl
 have r0:=K1.out.at (i:=0) rfl
 have f1:=K0.out.at (i:=1) rfl
 have r1:=K1.out.at (i:=1) rfl
 have f2:=K0.out.at (i:=2) rfl
 have r2:=K1.out.at (i:=2) rfl
 clear hb2
 have hz2:=B2.out.size
 go_wp2_with fail
 go_ret
 exact ⟨rfl,(by repeat (first | refine Below.setCell ?_ (by dsimp only;omega) _ | refine Below.alloc ?_ (by first | (simp;done) | (simp;omega) | omega) _ | exact B2.out))⟩
set_option maxRecDepth 100000 in
set_option maxHeartbeats 1600000 in
theorem ZLK (A B:Option Addr) (n c d:Nat) (ds:List Zf) (L M:List Nat) (w:World) (hn:n=ds.length) (hm:n≤9223372036854775807) (h1:Sli ZJV w A ds L) (h2:Sli ZJV w B ds M):
  Calls Tryz.prog 165 #[.slice A n c,.slice B n d] w (ZJ2 w):=by
 have H1:=Lib.hid h1
 have H2:=Lib.hid h2
 have HN:=Lib.hid hn
 clear h1 h2 hn
 have hne:((n:Int) != n)=false:=by simp
 go_enter Tryz.func165,Tryz.ntmps165
 go_wp2
 go_loopw [5] (fun i wr=>∃(k:Nat),k≤n∧i=.int .i64 k∧Hid (Below w.heap.size w wr)) (fun i _=>n - (intOf i).toNat)
 case atStart=>exact ⟨0,Nat.zero_le _,rfl,Below.refl _ _⟩
 case round=>
  obtain ⟨k,hk,rfl,HB⟩:=hrel
  by_cases hlt:k<n
  ·have hkl:k<ds.length:=by have:=HN.out;omega
   obtain ⟨b,off,cs,Lk,rfl,hbL,hLk,hrep,hc⟩:=H1.out.at_ hkl
   obtain ⟨b',off',cs',Mk,rfl,hbM,hMk,hrep',hc'⟩:=H2.out.at_ hkl
   have hbl:b<w.heap.size:=H1.out.lt b hbL
   have hbl':b'<w.heap.size:=H2.out.lt b' hbM
   have HR:=Lib.hid (ZJV.keep hrep (ZdM HB.out (fun y m=>H1.out.lt y (hLk y m))))
   have HR':=Lib.hid (ZJV.keep hrep' (ZdM HB.out (fun y m=>H2.out.lt y (hMk y m))))
   generalize ds[k]=x at *
   obtain ⟨aA1,ac1,aA2,ac2,rfl⟩:=ZKV hrep
   obtain ⟨bA1,bc1,bA2,bc2,rfl⟩:=ZKV hrep'
   have q0:wr.cell? ⟨b,off+k * 3,none⟩=_:=(HB.out.cell (p:=⟨b,off+(k * 3+0),none⟩) hbl).trans (hc 0 _ rfl)
   have p0:wr.cell? ⟨b',off'+k * 3,none⟩=_:=(HB.out.cell (p:=⟨b',off'+(k * 3+0),none⟩) hbl').trans (hc' 0 _ rfl)
   have q1:wr.cell? ⟨b,off+k * 3+1,none⟩=_:=(HB.out.cell (p:=⟨b,off+(k * 3+1),none⟩) hbl).trans (hc 1 _ rfl)
   have p1:wr.cell? ⟨b',off'+k * 3+1,none⟩=_:=(HB.out.cell (p:=⟨b',off'+(k * 3+1),none⟩) hbl').trans (hc' 1 _ rfl)
   have q2:wr.cell? ⟨b,off+k * 3+2,none⟩=_:=(HB.out.cell (p:=⟨b,off+(k * 3+2),none⟩) hbl).trans (hc 2 _ rfl)
   have p2:wr.cell? ⟨b',off'+k * 3+2,none⟩=_:=(HB.out.cell (p:=⟨b',off'+(k * 3+2),none⟩) hbl').trans (hc' 2 _ rfl)
   clear hc hc' hrep hrep'
   have k0:(0:Int)≤k:=by omega
   have k1:(k:Int)<n:=by omega
   go_wp2_with fail
   go_still_tail 8,(by kernel_rfl)
   change wpList _ _ _ _ _ wr.drew
   go_wp2_with (go_at_call 231;(refine (ZLY _ _ x Lk Mk wr.drew (ZJV.keep HR.out (fun _ _=>rfl)) (ZJV.keep HR'.out (fun _ _=>rfl))).mono ?_;rintro e w1 ⟨rfl,hb1⟩;have HB1:=Lib.hid (HB.out.drew.trans (hb1.mono HB.out.size));clear hb1))
   go_roundw
   case rel=>exact ⟨k+1,by omega,by go_num,HB1.out⟩
   case measure=>simp [intOf];omega
  ·go_wp2
   go_ret
   exact ⟨rfl,HB.out⟩
set_option maxHeartbeats 1600000 in
theorem ZLG (cs ds:List Value) (x:Zr) (L M:List Nat) (w:World) (h1:ZL1.rep w cs x L) (h2:ZL1.rep w ds x M):
  Calls Tryz.prog 96 #[.agg cs.toArray,.agg ds.toArray] w (ZJ2 w):=by
 obtain ⟨aA1,ac1,aL1,rfl,_ahL,an1,am1,as1⟩:=h1
 obtain ⟨bA1,bc1,bL1,rfl,_bhL,bn1,bm1,bs1⟩:=h2
 unfold maxLen at am1 bm1
 have SA1:=Lib.hid as1
 have SB1:=Lib.hid bs1
 clear as1 bs1
 go_enter Tryz.func96,Tryz.ntmps96
 go_wp2_with fail
 refine (ZLK aA1 bA1 _ ac1 bc1 x.reasons aL1 bL1 _ rfl (by omega) (SA1.out.below (by repeat (first | refine Below.setCell ?_ (by dsimp only;omega) _ | refine Below.alloc ?_ (by first | (simp;done) | (simp;omega) | omega) _ | exact Below.refl _ _))) (SB1.out.below (by repeat (first | refine Below.setCell ?_ (by dsimp only;omega) _ | refine Below.alloc ?_ (by first | (simp;done) | (simp;omega) | omega) _ | exact Below.refl _ _)))).mono ?_
 rintro e w1 ⟨rfl,hb1⟩
 have B1:Hid (Below w.heap.size w w1):=Below.trans (by repeat (first | refine Below.setCell ?_ (by dsimp only;omega) _ | refine Below.alloc ?_ (by first | (simp;done) | (simp;omega) | omega) _ | exact Below.refl _ _)) (hb1.mono (by first | (simp;done) | (simp;omega) | omega))
 have K0:Hid (Blk w1 w.heap.size 64 #[.int .i64 x.nodes,.slice aA1 x.reasons.length ac1]):=Blk.later (Blk.alloc (Blk.new _ _ _) _) hb1
 have K1:Hid (Blk w1 (w.heap.size+1) 64 #[.int .i64 x.nodes,.slice bA1 x.reasons.length bc1]):=Blk.later (Blk.new_at (by simp)) hb1
 have f0:=K0.out.at (i:=0) rfl
 have r0:=K1.out.at (i:=0) rfl
 have f1:=K0.out.at (i:=1) rfl
 have r1:=K1.out.at (i:=1) rfl
 clear hb1
 have hz1:=B1.out.size
 go_wp2_with fail
 go_ret
 exact ⟨rfl,(by repeat (first | refine Below.setCell ?_ (by dsimp only;omega) _ | refine Below.alloc ?_ (by first | (simp;done) | (simp;omega) | omega) _ | exact B1.out))⟩
set_option maxHeartbeats 1600000 in
theorem ZKP (cs ds:List Value) (x:QZ) (L M:List Nat) (w:World) (h1:ZKx.rep w cs x L) (h2:ZKx.rep w ds x M):
  Calls Tryz.prog 38 #[.agg cs.toArray,.agg ds.toArray] w (ZJ2 w):=by
 obtain ⟨aA1,ac1,aL1,aA2,ac2,aL2,aA3,ac3,aL3,rfl,_ahL,an1,am1,as1,an2,am2,as2,an3,am3,as3⟩:=h1
 obtain ⟨bA1,bc1,bL1,bA2,bc2,bL2,bA3,bc3,bL3,rfl,_bhL,bn1,bm1,bs1,bn2,bm2,bs2,bn3,bm3,bs3⟩:=h2
 unfold maxLen at am1 bm1 am2 bm2 am3 bm3
 have SA1:=Lib.hid as1
 have SB1:=Lib.hid bs1
 clear as1 bs1
 have SA2:=Lib.hid as2
 have SB2:=Lib.hid bs2
 clear as2 bs2
 have SA3:=Lib.hid as3
 have SB3:=Lib.hid bs3
 clear as3 bs3
 go_enter Tryz.func38,Tryz.ntmps38
 go_wp2_with fail
 refine (ZLG [.int .i64 x.beliefs.nodes,.slice aA1 x.beliefs.reasons.length ac1] [.int .i64 x.beliefs.nodes,.slice bA1 x.beliefs.reasons.length bc1] x.beliefs _ _ _ ⟨aA1,ac1,aL1,rfl,rfl,an1,(by unfold maxLen;omega),SA1.out.below (by repeat (first | refine Below.setCell ?_ (by dsimp only;omega) _ | refine Below.alloc ?_ (by first | (simp;done) | (simp;omega) | omega) _ | exact Below.refl _ _))⟩ ⟨bA1,bc1,bL1,rfl,rfl,bn1,(by unfold maxLen;omega),SB1.out.below (by repeat (first | refine Below.setCell ?_ (by dsimp only;omega) _ | refine Below.alloc ?_ (by first | (simp;done) | (simp;omega) | omega) _ | exact Below.refl _ _))⟩).mono ?_
 rintro e w1 ⟨rfl,hb1⟩
 have B1:Hid (Below w.heap.size w w1):=Below.trans (by repeat (first | refine Below.setCell ?_ (by dsimp only;omega) _ | refine Below.alloc ?_ (by first | (simp;done) | (simp;omega) | omega) _ | exact Below.refl _ _)) (hb1.mono (by first | (simp;done) | (simp;omega) | omega))
 have K0:Hid (Blk w1 w.heap.size 67 #[.int .i64 x.beliefs.nodes,.slice aA1 x.beliefs.reasons.length ac1,.slice aA2 x.assumed.length ac2,.slice aA3 x.bad.length ac3]):=Blk.later (Blk.alloc (Blk.new _ _ _) _) hb1
 have K1:Hid (Blk w1 (w.heap.size+1) 67 #[.int .i64 x.beliefs.nodes,.slice bA1 x.beliefs.reasons.length bc1,.slice bA2 x.assumed.length bc2,.slice bA3 x.bad.length bc3]):=Blk.later (Blk.new_at (by simp)) hb1
 have f0:=K0.out.at (i:=0) rfl
 have r0:=K1.out.at (i:=0) rfl
 have f1:=K0.out.at (i:=1) rfl
 have r1:=K1.out.at (i:=1) rfl
 have f2:=K0.out.at (i:=2) rfl
 have r2:=K1.out.at (i:=2) rfl
 have f3:=K0.out.at (i:=3) rfl
 have r3:=K1.out.at (i:=3) rfl
 clear hb1
 have hz1:=B1.out.size
 go_wp2_with fail
 refine (ZKH aA2 bA2 _ ac2 bc2 x.assumed aL2 bL2 _ rfl (by omega) (SA2.out.below (by repeat (first | refine Below.setCell ?_ (by dsimp only;omega) _ | refine Below.alloc ?_ (by first | (simp;done) | (simp;omega) | omega) _ | exact B1.out))) (SB2.out.below (by repeat (first | refine Below.setCell ?_ (by dsimp only;omega) _ | refine Below.alloc ?_ (by first | (simp;done) | (simp;omega) | omega) _ | exact B1.out)))).mono ?_
 rintro e w2 ⟨rfl,hb2⟩
 have B2:Hid (Below w.heap.size w w2):=Below.trans (by repeat (first | refine Below.setCell ?_ (by dsimp only;omega) _ | refine Below.alloc ?_ (by first | (simp;done) | (simp;omega) | omega) _ | exact B1.out)) (hb2.mono (by first | (simp;done) | (simp;omega) | omega))
 have K0:=Lib.hid (K0.out.later hb2)
 have K1:=Lib.hid (K1.out.later hb2)
 clear f0 r0 f1 r1 f2 r2 f3 r3
 have f0:=K0.out.at (i:=0) rfl
 have r0:=K1.out.at (i:=0) rfl
 have f1:=K0.out.at (i:=1) rfl
 have r1:=K1.out.at (i:=1) rfl
 have f2:=K0.out.at (i:=2) rfl
 have r2:=K1.out.at (i:=2) rfl
 have f3:=K0.out.at (i:=3) rfl
 have r3:=K1.out.at (i:=3) rfl
 clear hb2
 have hz2:=B2.out.size
 go_wp2_with fail
 refine (ZKH aA3 bA3 _ ac3 bc3 x.bad aL3 bL3 _ rfl (by omega) (SA3.out.below (by repeat (first | refine Below.setCell ?_ (by dsimp only;omega) _ | refine Below.alloc ?_ (by first | (simp;done) | (simp;omega) | omega) _ | exact B2.out))) (SB3.out.below (by repeat (first | refine Below.setCell ?_ (by dsimp only;omega) _ | refine Below.alloc ?_ (by first | (simp;done) | (simp;omega) | omega) _ | exact B2.out)))).mono ?_
 rintro e w3 ⟨rfl,hb3⟩
 have B3:Hid (Below w.heap.size w w3):=Below.trans (by repeat (first | refine Below.setCell ?_ (by dsimp only;omega) _ | refine Below.alloc ?_ (by first | (simp;done) | (simp;omega) | omega) _ | exact B2.out)) (hb3.mono (by first | (simp;done) | (simp;omega) | omega))
 have K0:=Lib.hid (K0.out.later hb3)
 have K1:=Lib.hid (K1.out.later hb3)
 clear f0 r0 f1 r1 f2 r2 f3 r3
 have f0:=K0.out.at (i:=0) rfl
 have r0:=K1.out.at (i:=0) rfl
 have f1:=K0.out.at (i:=1) rfl
 have r1:=K1.out.at (i:=1) rfl
 have f2:=K0.out.at (i:=2) rfl
 have r2:=K1.out.at (i:=2) rfl
 have f3:=K0.out.at (i:=3) rfl
 have r3:=K1.out.at (i:=3) rfl
 clear hb3
 have hz3:=B3.out.size
 go_wp2_with fail
 go_ret
 exact ⟨rfl,(by repeat (first | refine Below.setCell ?_ (by dsimp only;omega) _ | refine Below.alloc ?_ (by first | (simp;done) | (simp;omega) | omega) _ | exact B3.out))⟩
end Go.Proofs.YtfehfkfdfmcgfaaGreatDoor
namespace Go.Proofs.YtfehfkfdfmcgfaaGreatDoor
open Go.RowKit
def ZLi:Nat→Nat→List UInt8→List UInt8
 | 0,_,acc=>acc
 | f+1,k,acc=>if k=0 then acc else ZLi f (k / 10) ((48+UInt8.ofNat (k % 10))::acc)
def ZMb (k:Nat):ByteArray:=⟨(109::ZLi (k+1) k []).toArray⟩
theorem ZLm (W:World) (z:Int):(convert 22 9 (.slice (some ⟨W.heap.size,0,none⟩) 1 1)).run Tryz.prog (W.alloc (.cells #[.int .u8 z] 5))=.ok (.string ⟨#[UInt8.ofNat z.toNat]⟩) (W.alloc (.cells #[.int .u8 z] 5)):=by
 rw [run_convert_bytes_string _ _ _ _ _ _ _ Tryz.underlying22 Tryz.underlying5 Tryz.underlying9,run_bytesToString _ _ _ _ [z] (by simp [loadCells,go_sem])]
 rfl
set_option maxHeartbeats 800000 in
set_option maxRecDepth 100000 in
theorem ZLU (k:Nat) (w:World) (h0:1≤k) (h1:k≤4611686018427387904):
  Calls Tryz.prog 99 #[.int .i64 k] w fun e w'=>e=.returned (.string (ZMb k))∧Below w.heap.size w w':=by
 have hle:¬((k:Int)≤0):=by omega
 have kc:=ZLm
 go_enter Tryz.func99,Tryz.ntmps99
 go_wp2
 go_loopw [0,3] (fun i s wr=>∃(f q:Nat) (acc:List UInt8),i=.int .i64 q∧s=.string ⟨acc.toArray⟩∧q≤k∧q<f∧acc.length+q≤k∧Hid (ZLi f q acc=ZLi (k+1) k [])∧Hid (Below w.heap.size w wr)) (fun i _ _=>(intOf i).toNat)
 case atStart=>exact ⟨k+1,k,[],rfl,rfl,Nat.le_refl _,by omega,by simp,Lib.hid rfl,Below.refl _ _⟩
 case round=>
  obtain ⟨f,q,acc,rfl,rfl,hqk,hqf,hal,HE,HB⟩:=hrel
  by_cases hq:0<q
  ·have hq':(0:Int)<q:=by omega
   have HEn:Hid (ZLi (f - 1) (q / 10) ((48+UInt8.ofNat (q % 10))::acc)=ZLi (k+1) k []):=by
    rw [Hid,←HE.out]
    obtain ⟨f,rfl⟩:∃g,f=g+1:=⟨f - 1,by omega⟩
    rw [ZLi,if_neg (by omega)];rfl
   go_wp2
   go_roundw
   case rel=>exact ⟨f - 1,q / 10,_,by go_num,congrArg Value.string (by rw [ByteArray.mk_append_mk];simp),by omega,by omega,by simp only [List.length_cons];omega,HEn,HB.out.alloc HB.out.size _⟩
   case measure=>simp [intOf];omega
  ·obtain rfl:q=0:=by omega
   have e:Hid (ZLi (k+1) k []=acc):=by
    rw [Hid,←HE.out]
    obtain ⟨f,rfl⟩:∃g,f=g+1:=⟨f - 1,by omega⟩
    simp [ZLi]
   have hq':¬(0:Int)<(0:Nat):=by omega
   go_wp2
   go_ret
   exact ⟨congrArg (fun s=>Ending.returned (.string s)) (by rw [ZMb,e.out,ByteArray.mk_append_mk];simp),HB.out⟩
theorem ZMi:∀(f k:Nat) (acc:List UInt8),(ZLi f k acc).length≤acc.length+f
 | 0,_,acc=>by simp [ZLi]
 | f+1,k,acc=>by
  rw [ZLi]
  split
  ·omega
  ·have:=ZMi f (k / 10) ((48+UInt8.ofNat (k % 10))::acc)
   simp at this;omega
theorem ZMo (k:Nat) (h:k≤4611686018427387904):(ZMb k).size≤9223372036854775807:=by
 have:=ZMi (k+1) k []
 simp [ZMb,ByteArray.size] at this ⊢
 omega
end Go.Proofs.YtfehfkfdfmcgfaaGreatDoor
namespace Go.Proofs.YtfehfkfdfmcgfaaGreatDoor
open Go.RowKit
def mTx (k:Int):ByteArray:=ZMb k.toNat
theorem ZJ1 (k:Int) (w:World) (h0:1≤k) (h1:k≤4611686018427387904):
  Calls Tryz.prog 99 #[.int .i64 k] w fun e w'=>e=.returned (.string (mTx k))∧Below w.heap.size w w':=by
 obtain ⟨n,rfl⟩:=Int.eq_ofNat_of_zero_le (show 0≤k by omega)
 exact ZLU n w (by omega) (by omega)
theorem ZKw (k:Int) (h:k≤4611686018427387904):(mTx k).size≤9223372036854775807:=ZMo _ (by omega)
def ZJI:Int→List ByteArray→List ByteArray
 | _,[]=>[]
 | k,_::r=>mTx k::ZJI (k+1) r
def ZJX:Int→List Int→List Int
 | _,[]=>[]
 | k,_::r=>k::ZJX (k+1) r
def ZJA (k:Int) (l:List ByteArray):Int:=k+l.length
def ZJz (k:Int) (l:List Int):Int:=k+l.length
theorem ZKf (k:Int) (l:List ByteArray):(ZJI k l).length=l.length:=by induction l generalizing k with | nil=>rfl | cons x r ih=>simp [ZJI,ih]
theorem ZKc (k:Int) (l:List Int):(ZJX k l).length=l.length:=by induction l generalizing k with | nil=>rfl | cons x r ih=>simp [ZJX,ih]
theorem ZJ3 (k:Int) (l:List ByteArray):k≤ZJA k l:=by unfold ZJA;omega
theorem ZJW (k:Int) (l:List Int):k≤ZJz k l:=by unfold ZJz;omega
theorem ZKy (k:Int) (l:List ByteArray):ZJA k l≤k+16 * ZrM l:=by unfold ZJA ZrM;omega
theorem ZKD (k:Int) (l:List Int):ZJz k l≤k+16 * l.length:=by unfold ZJz;omega
def ZKK (k:Int) (x:Zb):Zb:=⟨mTx (k),ZJI (k+1) x.args⟩
def ZJP (k:Int) (x:Zb):Int:=ZJA (k+1) x.args
def ZJ4:Int→List Zb→List Zb
 | _,[]=>[]
 | k,x::r=>ZKK k x::ZJ4 (ZJP k x) r
def ZJy:Int→List Zb→Int
 | k,[]=>k
 | k,x::r=>ZJy (ZJP k x) r
theorem ZMk (k:Int) (l:List Zb):(ZJ4 k l).length=l.length:=by induction l generalizing k with | nil=>rfl | cons x r ih=>simp [ZJ4,ih]
theorem ZKO (k:Int) (x:Zb):k≤ZJP k x:=by
 unfold ZJP
 have:=ZJ3 (k+1) x.args
 omega
theorem ZKs (k:Int) (l:List Zb):k≤ZJy k l:=by
 induction l generalizing k with
 | nil=>exact Int.le_refl _
 | cons x r ih=>exact Int.le_trans (ZKO k x) (ih _)
theorem ZL6 (k:Int) (x:Zb):ZJP k x≤k+1+16 * ZgB x:=by
 unfold ZJP
 have:=ZKy (k+1) x.args
 simp only [ZgB]
 omega
theorem ZK7 (k:Int) (l:List Zb):ZJy k l≤k+16 * Zc1 l:=by
 induction l generalizing k with
 | nil=>simp [ZJy,Zc1]
 | cons x r ih=>
  have h1:=ZL6 k x
  have h2:=ih (ZJP k x)
  simp only [ZJy,Zc1,List.length_cons,List.map_cons,List.sum_cons] at h2 ⊢
  omega
def ZK5 (k:Int) (x:Zt):Zt:=⟨(k),⟨mTx (k+1),ZJI (k+1+1) x.pattern.args⟩,mTx (ZJA (k+1+1) x.pattern.args),mTx (ZJA (k+1+1) x.pattern.args+1)⟩
def ZJ7 (k:Int) (x:Zt):Int:=ZJA (k+1+1) x.pattern.args+1+1
def ZKi:Int→List Zt→List Zt
 | _,[]=>[]
 | k,x::r=>ZK5 k x::ZKi (ZJ7 k x) r
def ZJQ:Int→List Zt→Int
 | k,[]=>k
 | k,x::r=>ZJQ (ZJ7 k x) r
theorem ZMg (k:Int) (l:List Zt):(ZKi k l).length=l.length:=by induction l generalizing k with | nil=>rfl | cons x r ih=>simp [ZKi,ih]
theorem ZLg (k:Int) (x:Zt):k≤ZJ7 k x:=by
 unfold ZJ7
 have:=ZJ3 (k+1+1) x.pattern.args
 omega
theorem ZKJ (k:Int) (l:List Zt):k≤ZJQ k l:=by
 induction l generalizing k with
 | nil=>exact Int.le_refl _
 | cons x r ih=>exact Int.le_trans (ZLg k x) (ih _)
theorem ZMa (k:Int) (x:Zt):ZJ7 k x≤k+4+16 * ZJY x:=by
 unfold ZJ7
 have:=ZKy (k+1+1) x.pattern.args
 simp only [ZJY,ZJH]
 omega
theorem ZL0 (k:Int) (l:List Zt):ZJQ k l≤k+16 * ZJR l:=by
 induction l generalizing k with
 | nil=>simp [ZJQ,ZJR]
 | cons x r ih=>
  have h1:=ZMa k x
  have h2:=ih (ZJ7 k x)
  simp only [ZJQ,ZJR,List.length_cons,List.map_cons,List.sum_cons] at h2 ⊢
  omega
def ZKA (k:Int) (x:Zz):Zz:=⟨(k),⟨mTx (k+1),ZJI (k+1+1) x.pattern.args⟩⟩
def ZJU (k:Int) (x:Zz):Int:=ZJA (k+1+1) x.pattern.args
def ZJ5:Int→List Zz→List Zz
 | _,[]=>[]
 | k,x::r=>ZKA k x::ZJ5 (ZJU k x) r
def ZJT:Int→List Zz→Int
 | k,[]=>k
 | k,x::r=>ZJT (ZJU k x) r
theorem ZLB (k:Int) (l:List Zz):(ZJ5 k l).length=l.length:=by induction l generalizing k with | nil=>rfl | cons x r ih=>simp [ZJ5,ih]
theorem ZK3 (k:Int) (x:Zz):k≤ZJU k x:=by
 unfold ZJU
 have:=ZJ3 (k+1+1) x.pattern.args
 omega
theorem ZKz (k:Int) (l:List Zz):k≤ZJT k l:=by
 induction l generalizing k with
 | nil=>exact Int.le_refl _
 | cons x r ih=>exact Int.le_trans (ZK3 k x) (ih _)
theorem ZLD (k:Int) (x:Zz):ZJU k x≤k+2+16 * ZJN x:=by
 unfold ZJU
 have:=ZKy (k+1+1) x.pattern.args
 simp only [ZJN,ZJH]
 omega
theorem ZLy (k:Int) (l:List Zz):ZJT k l≤k+16 * ZJJ l:=by
 induction l generalizing k with
 | nil=>simp [ZJT,ZJJ]
 | cons x r ih=>
  have h1:=ZLD k x
  have h2:=ih (ZJU k x)
  simp only [ZJT,ZJJ,List.length_cons,List.map_cons,List.sum_cons] at h2 ⊢
  omega
def ZK4 (k:Int) (x:Zg):Zg:=⟨mTx (k),(k+1),ZKi (k+1+1) x.cond,ZJ5 (ZJQ (k+1+1) x.cond) x.thn⟩
def ZJ8 (k:Int) (x:Zg):Int:=ZJT (ZJQ (k+1+1) x.cond) x.thn
def ZKr:Int→List Zg→List Zg
 | _,[]=>[]
 | k,x::r=>ZK4 k x::ZKr (ZJ8 k x) r
def ZJS:Int→List Zg→Int
 | k,[]=>k
 | k,x::r=>ZJS (ZJ8 k x) r
theorem ZLh (k:Int) (x:Zg):k≤ZJ8 k x:=by
 unfold ZJ8
 have:=ZKJ (k+1+1) x.cond
 have:=ZKz (ZJQ (k+1+1) x.cond) x.thn
 omega
theorem ZK8 (k:Int) (l:List Zg):k≤ZJS k l:=by
 induction l generalizing k with
 | nil=>exact Int.le_refl _
 | cons x r ih=>exact Int.le_trans (ZLh k x) (ih _)
theorem ZL2 (k:Int) (x:Zg):ZJ8 k x≤k+2+16 * ZJO x:=by
 unfold ZJ8
 have:=ZL0 (k+1+1) x.cond
 have:=ZLy (ZJQ (k+1+1) x.cond) x.thn
 simp only [ZJO]
 omega
theorem ZLS (k:Int) (l:List Zg):ZJS k l≤k+16 * ZJL l:=by
 induction l generalizing k with
 | nil=>simp [ZJS,ZJL]
 | cons x r ih=>
  have h1:=ZL2 k x
  have h2:=ih (ZJ8 k x)
  simp only [ZJS,ZJL,List.length_cons,List.map_cons,List.sum_cons] at h2 ⊢
  omega
def ZKj (k:Int) (x:Zf):Zf:=⟨(k),ZJX (k+1) x.inn,ZJX (ZJz (k+1) x.inn) x.outs⟩
def ZJF (k:Int) (x:Zf):Int:=ZJz (ZJz (k+1) x.inn) x.outs
def ZJG:Int→List Zf→List Zf
 | _,[]=>[]
 | k,x::r=>ZKj k x::ZJG (ZJF k x) r
def ZJC:Int→List Zf→Int
 | k,[]=>k
 | k,x::r=>ZJC (ZJF k x) r
theorem ZKk (k:Int) (l:List Zf):(ZJG k l).length=l.length:=by induction l generalizing k with | nil=>rfl | cons x r ih=>simp [ZJG,ih]
theorem ZKG (k:Int) (x:Zf):k≤ZJF k x:=by
 unfold ZJF
 have:=ZJW (k+1) x.inn
 have:=ZJW (ZJz (k+1) x.inn) x.outs
 omega
theorem ZKe (k:Int) (l:List Zf):k≤ZJC k l:=by
 induction l generalizing k with
 | nil=>exact Int.le_refl _
 | cons x r ih=>exact Int.le_trans (ZKG k x) (ih _)
theorem ZLN (k:Int) (x:Zf):ZJF k x≤k+1+16 * Zc9 x:=by
 unfold ZJF
 have:=ZKD (k+1) x.inn
 have:=ZKD (ZJz (k+1) x.inn) x.outs
 simp only [Zc9]
 omega
theorem ZLz (k:Int) (l:List Zf):ZJC k l≤k+16 * ZcB l:=by
 induction l generalizing k with
 | nil=>simp [ZJC,ZcB]
 | cons x r ih=>
  have h1:=ZLN k x
  have h2:=ih (ZJF k x)
  simp only [ZJC,ZcB,List.length_cons,List.map_cons,List.sum_cons] at h2 ⊢
  omega
end Go.Proofs.YtfehfkfdfmcgfaaGreatDoor
namespace Go.Proofs.YtfehfkfdfmcgfaaGreatDoor
open Go.RowKit
theorem ZKd {w w1:World} {g:Nat} {t:TypeId} {cs:Array Value} {M:List Nat} (h:Blk w g t cs) (ho:Zby M w w1) (hg:g∉M):Blk w1 g t cs:=(ho.block g h.lt hg).trans h
set_option maxHeartbeats 1600000 in
theorem ZKo (A:Option Addr) (n c:Nat) (ds:List ByteArray) (L:List Nat) (base:Nat) (k:Int) (w:World) (hn:n=ds.length) (hk0:1≤k) (hk1:ZJA k ds≤4611686018427387904) (h:Got (ZlE ZEr) base [.slice A n c] ds L w):
  Calls Tryz.prog 102 #[.slice A n c,.int .i64 k] w fun e w'=>e=.returned (.int .i64 (ZJA k ds))∧Got (ZlE ZEr) base [.slice A n c] (ZJI k ds) L w'∧Zby L w w':=by
 have H:=Lib.hid h
 have HN:=Lib.hid hn
 have hk1':k+n≤4611686018427387904:=by simp only [ZJA] at hk1;omega
 clear h hn hk1
 go_enter Tryz.func102,Tryz.ntmps102
 go_wp2
 go_loopw [1,5] (fun q j wr=>∃(i:Nat) (kk:Int) (D:List ByteArray),i≤n∧j=.int .i64 i∧q=.int .i64 kk∧1≤kk∧kk+(n - i:Nat)≤4611686018427387904∧Hid (kk=k+i∧D.length=i∧D++ZJI kk (ds.drop i)=ZJI k ds)∧Hid (Got (ZlE ZEr) base [.slice A n c] (D++ds.drop i) L wr)∧Hid (Zby L w wr)) (fun _ j _=>n - (intOf j).toNat)
 case atStart=>exact ⟨0,k,[],Nat.zero_le _,rfl,rfl,hk0,by omega,⟨by omega,rfl,rfl⟩,H.out,Zby.refl _ _⟩
 case round=>
  obtain ⟨i,kk,D,hi,rfl,rfl,h1,h2,HD,HG,HO⟩:=hrel
  by_cases hlt:i<n
  ·have hil:i<ds.length:=by have:=HN.out;omega
   obtain ⟨hkk,hDl,hDm⟩:=HD.out
   have hcl:i<(D++ds.drop i).length:=by simp;omega
   obtain ⟨b,off,cs,Lk,rfl,hbL,hLk,hown,hrep,hcells,hput⟩:=HG.out.focus hcl
   obtain ⟨rfl,hlk,_⟩:=hrep
   have HEl:=Lib.hid (Zgq.start (m:=1) hcells rfl hown)
   have hnext:Hid (ds.drop i=ds[i]::ds.drop (i+1)):=List.drop_eq_getElem_cons _
   have HPut:=Lib.hid hput
   have HOwn:=Lib.hid hown
   have HLk:=Lib.hid hLk
   have HLe:=Lib.hid hlk
   have HDn:Hid (kk+1=k+(i+1:Nat)∧(D++[mTx kk]).length=i+1∧(D++[mTx kk])++ZJI (kk+1) (ds.drop (i+1))=ZJI k ds):=by
    refine ⟨by omega,by simp [hDl],?_⟩
    rw [←hDm,hnext.out];simp [ZJI]
   have hset:Hid ((D++ds.drop i).set i (mTx kk)=(D++[mTx kk])++ds.drop (i+1)):=by
    rw [Hid,List.set_append_right _ _ (by omega),show i - D.length=0 by omega,hnext.out,List.set_cons_zero];simp
   clear hput hown hLk hcells hkk hDl hDm hlk
   simp only [show ZEr.size=1 from rfl,Nat.mul_one] at HEl HPut
   go_wp2_with (go_at_call 99;refine (ZJ1 _ _ (by omega) (by omega)).mono ?_;rintro e w1 ⟨rfl,hb1⟩;have E1:=Lib.hid (HEl.out.later hb1);have q1:=E1.out.at (j:=0) rfl;have z1:=E1.out.frozen (off+i);clear hb1;simp only [Nat.add_zero] at q1)
   have E2:=Lib.hid (E1.out.set 0 (by omega) (.string (mTx kk)))
   have hO2:=Lib.hid (ZJ9 HOwn.out E2.out.plain E2.out.only (by rw [HLe.out];simp))
   have HGn:=Lib.hid (HPut.out _ _ (mTx kk) E2.out.only E2.out.cells E2.out.rest (by rw [HLe.out];exact ⟨rfl,rfl,ZKw _ (by omega)⟩) hO2.out)
   have HOn:=Lib.hid (HO.out.trans (E2.out.only.mono (fun y m=>by rcases List.mem_cons.1 m with rfl | m;exact hbL;exact HLk.out y m)))
   rw [hset.out] at HGn
   simp only [Nat.add_zero] at HGn HOn
   clear E2 hO2 HPut
   go_wp2_with fail
   go_roundw
   case rel=>exact ⟨i+1,kk+1,_,by omega,by go_num,rfl,by omega,by omega,HDn,HGn,HOn⟩
   case measure=>simp [intOf];omega
  ·obtain rfl:i=n:=by omega
   have hf:Hid (ZJA k ds=kk∧D=ZJI k ds):=by
    obtain ⟨h1,h2,h3⟩:=HD.out
    have e:ds.drop i=[]:=List.drop_of_length_le (by have:=HN.out;omega)
    rw [e] at h3
    simp [ZJI] at h3
    exact ⟨by have:=HN.out;simp only [ZJA];omega,h3⟩
   have e:Hid (ds.drop i=[]):=List.drop_of_length_le (by have:=HN.out;omega)
   rw [e.out,List.append_nil] at HG
   go_wp2
   go_ret
   exact ⟨ZJK hf.out.1.symm,by rw [←hf.out.2];exact HG.out,HO.out⟩
set_option maxHeartbeats 1600000 in
theorem ZKq (A:Option Addr) (n c:Nat) (ds:List Int) (L:List Nat) (base:Nat) (k:Int) (w:World) (hn:n=ds.length) (hk0:1≤k) (hk1:ZJz k ds≤4611686018427387904) (h:Got (ZlE ZKt) base [.slice A n c] ds L w):
  Calls Tryz.prog 104 #[.slice A n c,.int .i64 k] w fun e w'=>e=.returned (.int .i64 (ZJz k ds))∧Got (ZlE ZKt) base [.slice A n c] (ZJX k ds) L w'∧Zby L w w':=by
 have H:=Lib.hid h
 have HN:=Lib.hid hn
 have hk1':k+n≤4611686018427387904:=by simp only [ZJz] at hk1;omega
 clear h hn hk1
 go_enter Tryz.func104,Tryz.ntmps104
 go_wp2
 go_loopw [1,5] (fun q j wr=>∃(i:Nat) (kk:Int) (D:List Int),i≤n∧j=.int .i64 i∧q=.int .i64 kk∧1≤kk∧kk+(n - i:Nat)≤4611686018427387904∧Hid (kk=k+i∧D.length=i∧D++ZJX kk (ds.drop i)=ZJX k ds)∧Hid (Got (ZlE ZKt) base [.slice A n c] (D++ds.drop i) L wr)∧Hid (Zby L w wr)) (fun _ j _=>n - (intOf j).toNat)
 case atStart=>exact ⟨0,k,[],Nat.zero_le _,rfl,rfl,hk0,by omega,⟨by omega,rfl,rfl⟩,H.out,Zby.refl _ _⟩
 case round=>
  obtain ⟨i,kk,D,hi,rfl,rfl,h1,h2,HD,HG,HO⟩:=hrel
  by_cases hlt:i<n
  ·have hil:i<ds.length:=by have:=HN.out;omega
   obtain ⟨hkk,hDl,hDm⟩:=HD.out
   have hcl:i<(D++ds.drop i).length:=by simp;omega
   obtain ⟨b,off,cs,Lk,rfl,hbL,hLk,hown,hrep,hcells,hput⟩:=HG.out.focus hcl
   obtain ⟨rfl,hlk⟩:=hrep
   have HEl:=Lib.hid (Zgq.start (m:=1) hcells rfl hown)
   have hnext:Hid (ds.drop i=ds[i]::ds.drop (i+1)):=List.drop_eq_getElem_cons _
   have HPut:=Lib.hid hput
   have HOwn:=Lib.hid hown
   have HLk:=Lib.hid hLk
   have HLe:=Lib.hid hlk
   have HDn:Hid (kk+1=k+(i+1:Nat)∧(D++[kk]).length=i+1∧(D++[kk])++ZJX (kk+1) (ds.drop (i+1))=ZJX k ds):=by
    refine ⟨by omega,by simp [hDl],?_⟩
    rw [←hDm,hnext.out];simp [ZJX]
   have hset:Hid ((D++ds.drop i).set i (kk)=(D++[kk])++ds.drop (i+1)):=by
    rw [Hid,List.set_append_right _ _ (by omega),show i - D.length=0 by omega,hnext.out,List.set_cons_zero];simp
   clear hput hown hLk hcells hkk hDl hDm hlk
   simp only [show ZKt.size=1 from rfl,Nat.mul_one] at HEl HPut
   have q1:=HEl.out.at (j:=0) rfl
   have z1:=HEl.out.frozen (off+i)
   simp only [Nat.add_zero] at q1
   go_wp2_with fail
   have E2:=Lib.hid (HEl.out.set 0 (by omega) (.int .i64 kk))
   have hO2:=Lib.hid (ZJ9 HOwn.out E2.out.plain E2.out.only (by rw [HLe.out];simp))
   have HGn:=Lib.hid (HPut.out _ _ (kk) E2.out.only E2.out.cells E2.out.rest (by rw [HLe.out];exact ⟨rfl,rfl⟩) hO2.out)
   have HOn:=Lib.hid (HO.out.trans (E2.out.only.mono (fun y m=>by rcases List.mem_cons.1 m with rfl | m;exact hbL;exact HLk.out y m)))
   rw [hset.out] at HGn
   simp only [Nat.add_zero] at HGn HOn
   clear E2 hO2 HPut
   go_wp2_with fail
   go_roundw
   case rel=>exact ⟨i+1,kk+1,_,by omega,by go_num,rfl,by omega,by omega,HDn,HGn,HOn⟩
   case measure=>simp [intOf];omega
  ·obtain rfl:i=n:=by omega
   have hf:Hid (ZJz k ds=kk∧D=ZJX k ds):=by
    obtain ⟨h1,h2,h3⟩:=HD.out
    have e:ds.drop i=[]:=List.drop_of_length_le (by have:=HN.out;omega)
    rw [e] at h3
    simp [ZJX] at h3
    exact ⟨by have:=HN.out;simp only [ZJz];omega,h3⟩
   have e:Hid (ds.drop i=[]):=List.drop_of_length_le (by have:=HN.out;omega)
   rw [e.out,List.append_nil] at HG
   go_wp2
   go_ret
   exact ⟨ZJK hf.out.1.symm,by rw [←hf.out.2];exact HG.out,HO.out⟩
set_option maxRecDepth 100000 in
set_option maxHeartbeats 4000000 in
theorem ZKY (A:Option Addr) (n c:Nat) (ds:List Zb) (L:List Nat) (base:Nat) (k:Int) (w:World) (hn:n=ds.length) (hm:n≤9223372036854775807) (hk0:1≤k) (hk1:ZJy k ds≤4611686018427387904) (h:Got (ZlE ZJZ) base [.slice A n c] ds L w):
  Calls Tryz.prog 41 #[.slice A n c,.int .i64 k] w fun e w'=>e=.returned (.int .i64 (ZJy k ds))∧Got (ZlE ZJZ) base [.slice A n c] (ZJ4 k ds) L w'∧Zby L w w':=by
 have H:=Lib.hid h
 have HN:=Lib.hid hn
 have HK:=Lib.hid hk1
 clear h hn hk1
 go_enter Tryz.func41,Tryz.ntmps41
 go_wp2
 go_loopw [1,5] (fun q j wr=>∃(i:Nat) (kk:Int) (D:List Zb),i≤n∧j=.int .i64 i∧q=.int .i64 kk∧1≤kk∧Hid (ZJy kk (ds.drop i)=ZJy k ds∧D.length=i∧D++ZJ4 kk (ds.drop i)=ZJ4 k ds)∧Hid (Got (ZlE ZJZ) base [.slice A n c] (D++ds.drop i) L wr)∧Hid (Zby L w wr)) (fun _ j _=>n - (intOf j).toNat)
 case atStart=>exact ⟨0,k,[],Nat.zero_le _,rfl,rfl,hk0,⟨rfl,rfl,rfl⟩,H.out,Zby.refl _ _⟩
 case round=>
  obtain ⟨i,kk,D,hi,rfl,rfl,h1,HD,HG,HO⟩:=hrel
  by_cases hlt:i<n
  ·have hil:i<ds.length:=by have:=HN.out;omega
   obtain ⟨hkk,hDl,hDm⟩:=HD.out
   have hcl:i<(D++ds.drop i).length:=by simp;omega
   obtain ⟨b,off,cs,Lk,rfl,hbL,hLk,hown,hrep,hcells,hput⟩:=HG.out.focus hcl
   have hnext:Hid (ds.drop i=ds[i]::ds.drop (i+1)):=List.drop_eq_getElem_cons _
   have hxi:(D++ds.drop i)[i]=ds[i]:=by
    rw [List.getElem_append_right (by omega)];simp [hDl]
   rw [hxi] at hrep
   clear hxi
   generalize ds[i]=x at hrep hnext
   have hnb:Hid (ZJP kk x≤4611686018427387904):=by
    have:=ZKs (ZJP kk x) (ds.drop (i+1))
    rw [hnext.out] at hkk
    have hk:=HK.out
    rw [←hkk] at hk
    exact Int.le_trans this hk
   have hnb1:=hnb.out
   have hnb2:=ZKO kk x
   unfold ZJP at hnb1 hnb2
   have HDn:Hid (ZJy (ZJP kk x) (ds.drop (i+1))=ZJy k ds∧(D++[ZKK kk x]).length=i+1∧(D++[ZKK kk x])++ZJ4 (ZJP kk x) (ds.drop (i+1))=ZJ4 k ds):=by
    refine ⟨by rw [←hkk,hnext.out];rfl,by simp [hDl],?_⟩
    rw [←hDm,hnext.out];simp [ZJ4]
   have hset:Hid ((D++ds.drop i).set i (ZKK kk x)=(D++[ZKK kk x])++ds.drop (i+1)):=by
    rw [Hid,List.set_append_right _ _ (by omega),show i - D.length=0 by omega,hnext.out,List.set_cons_zero];simp
   obtain ⟨A1,c1,L1,rfl,hLL,t0,n1,m1,s1⟩:=hrep
   unfold maxLen at m1
   subst Lk
   have HEl:=Lib.hid (Zgq.start (m:=2) hcells rfl hown)
   have hbn:=Lib.hid hown.head
   have G1:Hid (Got (ZlE ZEr) base [.slice A1 x.args.length c1] x.args L1 wr):=⟨⟨A1,c1,rfl,n1,(by unfold maxLen;omega),s1⟩,hown.tail⟩
   have bn1:Hid (b∉L1):=fun m=>hown.head (by simp [m])
   have sb1:Hid (∀y∈L1,y∈L1):=fun y m=>by simp [m]
   clear s1
   have HPut:=Lib.hid hput
   have HOwn:=Lib.hid hown
   have HLk:=Lib.hid hLk
   clear hput hown hLk hcells hkk hDl hDm
   simp only [show ZJZ.size=2 from rfl] at HEl HPut
   have q0:=HEl.out.at (j:=0) rfl
   have z0:=HEl.out.frozen (off+i * 2)
   have q1:=HEl.out.at (j:=1) rfl
   have z1:=HEl.out.frozen (off+i * 2+1)
   simp only [Nat.add_zero] at q0
   have gm0:(0:Int)≤0:=by omega
   have mono_x_args:=ZJ3 (kk+1) x.args
   go_wp2_with fail
   refine (ZJ1 _ _ (by omega) (by omega)).mono ?_
   rintro e w1 ⟨rfl,hb1⟩
   have HEl:=Lib.hid (HEl.out.later hb1)
   have G1:=Lib.hid (G1.out.later hb1)
   clear hb1
   clear q0 z0 q1 z1
   have q0:=HEl.out.at (j:=0) rfl
   have z0:=HEl.out.frozen (off+i * 2)
   have q1:=HEl.out.at (j:=1) rfl
   have z1:=HEl.out.frozen (off+i * 2+1)
   simp only [Nat.add_zero] at q0
   go_wp2_with fail
   have G1:=Lib.hid (G1.out.setFar (p:=⟨b,off+i * 2+0,none⟩) bn1.out (.string (mTx (kk))))
   refine (ZKo A1 _ c1 x.args L1 base _ _ rfl (by omega) (by omega) G1.out).mono ?_
   rintro e w2 ⟨rfl,g2,on2⟩
   have HEl:=Lib.hid ((HEl.out.set 0 (by omega) (.string (mTx (kk)))).marked on2 sb1.out bn1.out)
   have G1:=Lib.hid g2
   clear g2 on2
   clear q0 z0 q1 z1
   have q0:=HEl.out.at (j:=0) rfl
   have z0:=HEl.out.frozen (off+i * 2)
   have q1:=HEl.out.at (j:=1) rfl
   have z1:=HEl.out.frozen (off+i * 2+1)
   simp only [Nat.add_zero] at q0
   obtain ⟨nn1,mm1,ss1⟩:=ZJB G1.out.rep
   have hO2:=Lib.hid (ZJ9 HOwn.out HEl.out.plain HEl.out.only (fun y m=>by (try simp only [List.mem_append] at m);exact G1.out.own.plain y m))
   have HGn:=Lib.hid (HPut.out _ _ (ZKK kk x) HEl.out.only HEl.out.cells HEl.out.rest ⟨A1,c1,L1,by simp [ZKK,ZKf],rfl,ZKw _ (by omega),nn1,mm1,ss1⟩ hO2.out)
   have HOn:=Lib.hid (HO.out.trans (HEl.out.only.mono (fun y m=>by rcases List.mem_cons.1 m with rfl | m;exact hbL;exact HLk.out y m)))
   rw [hset.out] at HGn
   try simp only [Nat.add_zero] at HGn HOn
   clear HEl hO2 HPut G1 nn1 mm1 ss1
   go_wp2_with fail
   go_roundw
   case rel=>exact ⟨i+1,ZJP kk x,_,by omega,by go_num,rfl,by unfold ZJP;omega,HDn,HGn,HOn⟩
   case measure=>simp [intOf];omega
  ·obtain rfl:i=n:=by omega
   have e:Hid (ds.drop i=[]):=List.drop_of_length_le (by have:=HN.out;omega)
   have hf:Hid (ZJy k ds=kk∧D=ZJ4 k ds):=by
    obtain ⟨h1,h2,h3⟩:=HD.out
    rw [e.out] at h3 h1
    simp [ZJ4] at h3
    exact ⟨h1.symm,h3⟩
   rw [e.out,List.append_nil] at HG
   go_wp2
   go_ret
   exact ⟨ZJK hf.out.1.symm,by rw [←hf.out.2];exact HG.out,HO.out⟩
set_option maxRecDepth 100000 in
set_option maxHeartbeats 4000000 in
theorem ZLM (A:Option Addr) (n c:Nat) (ds:List Zt) (L:List Nat) (base:Nat) (k:Int) (w:World) (hn:n=ds.length) (hm:n≤9223372036854775807) (hk0:1≤k) (hk1:ZJQ k ds≤4611686018427387904) (h:Got (ZlE ZKb) base [.slice A n c] ds L w):
  Calls Tryz.prog 100 #[.slice A n c,.int .i64 k] w fun e w'=>e=.returned (.int .i64 (ZJQ k ds))∧Got (ZlE ZKb) base [.slice A n c] (ZKi k ds) L w'∧Zby L w w':=by
 have H:=Lib.hid h
 have HN:=Lib.hid hn
 have HK:=Lib.hid hk1
 clear h hn hk1
 go_enter Tryz.func100,Tryz.ntmps100
 go_wp2
 go_loopw [1,5] (fun q j wr=>∃(i:Nat) (kk:Int) (D:List Zt),i≤n∧j=.int .i64 i∧q=.int .i64 kk∧1≤kk∧Hid (ZJQ kk (ds.drop i)=ZJQ k ds∧D.length=i∧D++ZKi kk (ds.drop i)=ZKi k ds)∧Hid (Got (ZlE ZKb) base [.slice A n c] (D++ds.drop i) L wr)∧Hid (Zby L w wr)) (fun _ j _=>n - (intOf j).toNat)
 case atStart=>exact ⟨0,k,[],Nat.zero_le _,rfl,rfl,hk0,⟨rfl,rfl,rfl⟩,H.out,Zby.refl _ _⟩
 case round=>
  obtain ⟨i,kk,D,hi,rfl,rfl,h1,HD,HG,HO⟩:=hrel
  by_cases hlt:i<n
  ·have hil:i<ds.length:=by have:=HN.out;omega
   obtain ⟨hkk,hDl,hDm⟩:=HD.out
   have hcl:i<(D++ds.drop i).length:=by simp;omega
   obtain ⟨b,off,cs,Lk,rfl,hbL,hLk,hown,hrep,hcells,hput⟩:=HG.out.focus hcl
   have hnext:Hid (ds.drop i=ds[i]::ds.drop (i+1)):=List.drop_eq_getElem_cons _
   have hxi:(D++ds.drop i)[i]=ds[i]:=by
    rw [List.getElem_append_right (by omega)];simp [hDl]
   rw [hxi] at hrep
   clear hxi
   generalize ds[i]=x at hrep hnext
   have hnb:Hid (ZJ7 kk x≤4611686018427387904):=by
    have:=ZKJ (ZJ7 kk x) (ds.drop (i+1))
    rw [hnext.out] at hkk
    have hk:=HK.out
    rw [←hkk] at hk
    exact Int.le_trans this hk
   have hnb1:=hnb.out
   have hnb2:=ZLg kk x
   unfold ZJ7 at hnb1 hnb2
   have HDn:Hid (ZJQ (ZJ7 kk x) (ds.drop (i+1))=ZJQ k ds∧(D++[ZK5 kk x]).length=i+1∧(D++[ZK5 kk x])++ZKi (ZJ7 kk x) (ds.drop (i+1))=ZKi k ds):=by
    refine ⟨by rw [←hkk,hnext.out];rfl,by simp [hDl],?_⟩
    rw [←hDm,hnext.out];simp [ZKi]
   have hset:Hid ((D++ds.drop i).set i (ZK5 kk x)=(D++[ZK5 kk x])++ds.drop (i+1)):=by
    rw [Hid,List.set_append_right _ _ (by omega),show i - D.length=0 by omega,hnext.out,List.set_cons_zero];simp
   obtain ⟨A1,c1,L1,rfl,hLL,t0,t1,t2,n1,m1,s1⟩:=hrep
   unfold maxLen at m1
   subst Lk
   have HEl:=Lib.hid (Zgq.start (m:=5) hcells rfl hown)
   have hbn:=Lib.hid hown.head
   have G1:Hid (Got (ZlE ZEr) base [.slice A1 x.pattern.args.length c1] x.pattern.args L1 wr):=⟨⟨A1,c1,rfl,n1,(by unfold maxLen;omega),s1⟩,hown.tail⟩
   have bn1:Hid (b∉L1):=fun m=>hown.head (by simp [m])
   have sb1:Hid (∀y∈L1,y∈L1):=fun y m=>by simp [m]
   clear s1
   have HPut:=Lib.hid hput
   have HOwn:=Lib.hid hown
   have HLk:=Lib.hid hLk
   clear hput hown hLk hcells hkk hDl hDm
   simp only [show ZKb.size=5 from rfl] at HEl HPut
   have q0:=HEl.out.at (j:=0) rfl
   have z0:=HEl.out.frozen (off+i * 5)
   have q1:=HEl.out.at (j:=1) rfl
   have z1:=HEl.out.frozen (off+i * 5+1)
   have q2:=HEl.out.at (j:=2) rfl
   have z2:=HEl.out.frozen (off+i * 5+2)
   have q3:=HEl.out.at (j:=3) rfl
   have z3:=HEl.out.frozen (off+i * 5+3)
   have q4:=HEl.out.at (j:=4) rfl
   have z4:=HEl.out.frozen (off+i * 5+4)
   simp only [Nat.add_zero] at q0
   have gm0:(0:Int)≤0:=by omega
   have mono_x_pattern_args:=ZJ3 (kk+1+1) x.pattern.args
   go_wp2_with fail
   refine (ZJ1 _ _ (by omega) (by omega)).mono ?_
   rintro e w1 ⟨rfl,hb1⟩
   have HEl:=Lib.hid ((HEl.out.set 0 (by omega) (.int .i64 (kk))).later hb1)
   have G1:=Lib.hid ((G1.out.setFar (p:=⟨b,off+i * 5+0,none⟩) bn1.out (.int .i64 (kk))).later hb1)
   clear hb1
   clear q0 z0 q1 z1 q2 z2 q3 z3 q4 z4
   have q0:=HEl.out.at (j:=0) rfl
   have z0:=HEl.out.frozen (off+i * 5)
   have q1:=HEl.out.at (j:=1) rfl
   have z1:=HEl.out.frozen (off+i * 5+1)
   have q2:=HEl.out.at (j:=2) rfl
   have z2:=HEl.out.frozen (off+i * 5+2)
   have q3:=HEl.out.at (j:=3) rfl
   have z3:=HEl.out.frozen (off+i * 5+3)
   have q4:=HEl.out.at (j:=4) rfl
   have z4:=HEl.out.frozen (off+i * 5+4)
   simp only [Nat.add_zero] at q0
   go_wp2_with fail
   have G1:=Lib.hid (G1.out.setFar (p:=⟨b,off+i * 5+1,none⟩) bn1.out (.string (mTx (kk+1))))
   refine (ZKo A1 _ c1 x.pattern.args L1 base _ _ rfl (by omega) (by omega) G1.out).mono ?_
   rintro e w2 ⟨rfl,g2,on2⟩
   have HEl:=Lib.hid ((HEl.out.set 1 (by omega) (.string (mTx (kk+1)))).marked on2 sb1.out bn1.out)
   have G1:=Lib.hid g2
   clear g2 on2
   clear q0 z0 q1 z1 q2 z2 q3 z3 q4 z4
   have q0:=HEl.out.at (j:=0) rfl
   have z0:=HEl.out.frozen (off+i * 5)
   have q1:=HEl.out.at (j:=1) rfl
   have z1:=HEl.out.frozen (off+i * 5+1)
   have q2:=HEl.out.at (j:=2) rfl
   have z2:=HEl.out.frozen (off+i * 5+2)
   have q3:=HEl.out.at (j:=3) rfl
   have z3:=HEl.out.frozen (off+i * 5+3)
   have q4:=HEl.out.at (j:=4) rfl
   have z4:=HEl.out.frozen (off+i * 5+4)
   simp only [Nat.add_zero] at q0
   go_wp2_with fail
   refine (ZJ1 _ _ (by omega) (by omega)).mono ?_
   rintro e w3 ⟨rfl,hb3⟩
   have HEl:=Lib.hid (HEl.out.later hb3)
   have G1:=Lib.hid (G1.out.later hb3)
   clear hb3
   clear q0 z0 q1 z1 q2 z2 q3 z3 q4 z4
   have q0:=HEl.out.at (j:=0) rfl
   have z0:=HEl.out.frozen (off+i * 5)
   have q1:=HEl.out.at (j:=1) rfl
   have z1:=HEl.out.frozen (off+i * 5+1)
   have q2:=HEl.out.at (j:=2) rfl
   have z2:=HEl.out.frozen (off+i * 5+2)
   have q3:=HEl.out.at (j:=3) rfl
   have z3:=HEl.out.frozen (off+i * 5+3)
   have q4:=HEl.out.at (j:=4) rfl
   have z4:=HEl.out.frozen (off+i * 5+4)
   simp only [Nat.add_zero] at q0
   go_wp2_with fail
   refine (ZJ1 _ _ (by omega) (by omega)).mono ?_
   rintro e w4 ⟨rfl,hb4⟩
   have HEl:=Lib.hid ((HEl.out.set 3 (by omega) (.string (mTx (ZJA (kk+1+1) x.pattern.args)))).later hb4)
   have G1:=Lib.hid ((G1.out.setFar (p:=⟨b,off+i * 5+3,none⟩) bn1.out (.string (mTx (ZJA (kk+1+1) x.pattern.args)))).later hb4)
   clear hb4
   clear q0 z0 q1 z1 q2 z2 q3 z3 q4 z4
   have q0:=HEl.out.at (j:=0) rfl
   have z0:=HEl.out.frozen (off+i * 5)
   have q1:=HEl.out.at (j:=1) rfl
   have z1:=HEl.out.frozen (off+i * 5+1)
   have q2:=HEl.out.at (j:=2) rfl
   have z2:=HEl.out.frozen (off+i * 5+2)
   have q3:=HEl.out.at (j:=3) rfl
   have z3:=HEl.out.frozen (off+i * 5+3)
   have q4:=HEl.out.at (j:=4) rfl
   have z4:=HEl.out.frozen (off+i * 5+4)
   simp only [Nat.add_zero] at q0
   have HEl:=Lib.hid (HEl.out.set 4 (by omega) (.string (mTx (ZJA (kk+1+1) x.pattern.args+1))))
   have G1:=Lib.hid (G1.out.setFar (p:=⟨b,off+i * 5+4,none⟩) bn1.out (.string (mTx (ZJA (kk+1+1) x.pattern.args+1))))
   obtain ⟨nn1,mm1,ss1⟩:=ZJB G1.out.rep
   have hO2:=Lib.hid (ZJ9 HOwn.out HEl.out.plain HEl.out.only (fun y m=>by (try simp only [List.mem_append] at m);exact G1.out.own.plain y m))
   have HGn:=Lib.hid (HPut.out _ _ (ZK5 kk x) HEl.out.only HEl.out.cells HEl.out.rest ⟨A1,c1,L1,by simp [ZK5,ZKf],rfl,ZKw _ (by omega),ZKw _ (by omega),ZKw _ (by omega),nn1,mm1,ss1⟩ hO2.out)
   have HOn:=Lib.hid (HO.out.trans (HEl.out.only.mono (fun y m=>by rcases List.mem_cons.1 m with rfl | m;exact hbL;exact HLk.out y m)))
   rw [hset.out] at HGn
   try simp only [Nat.add_zero] at HGn HOn
   clear HEl hO2 HPut G1 nn1 mm1 ss1
   go_wp2_with fail
   go_roundw
   case rel=>exact ⟨i+1,ZJ7 kk x,_,by omega,by go_num,rfl,by unfold ZJ7;omega,HDn,HGn,HOn⟩
   case measure=>simp [intOf];omega
  ·obtain rfl:i=n:=by omega
   have e:Hid (ds.drop i=[]):=List.drop_of_length_le (by have:=HN.out;omega)
   have hf:Hid (ZJQ k ds=kk∧D=ZKi k ds):=by
    obtain ⟨h1,h2,h3⟩:=HD.out
    rw [e.out] at h3 h1
    simp [ZKi] at h3
    exact ⟨h1.symm,h3⟩
   rw [e.out,List.append_nil] at HG
   go_wp2
   go_ret
   exact ⟨ZJK hf.out.1.symm,by rw [←hf.out.2];exact HG.out,HO.out⟩
set_option maxRecDepth 100000 in
set_option maxHeartbeats 4000000 in
theorem ZLo (A:Option Addr) (n c:Nat) (ds:List Zz) (L:List Nat) (base:Nat) (k:Int) (w:World) (hn:n=ds.length) (hm:n≤9223372036854775807) (hk0:1≤k) (hk1:ZJT k ds≤4611686018427387904) (h:Got (ZlE ZJM) base [.slice A n c] ds L w):
  Calls Tryz.prog 101 #[.slice A n c,.int .i64 k] w fun e w'=>e=.returned (.int .i64 (ZJT k ds))∧Got (ZlE ZJM) base [.slice A n c] (ZJ5 k ds) L w'∧Zby L w w':=by
 have H:=Lib.hid h
 have HN:=Lib.hid hn
 have HK:=Lib.hid hk1
 clear h hn hk1
 go_enter Tryz.func101,Tryz.ntmps101
 go_wp2
 go_loopw [1,5] (fun q j wr=>∃(i:Nat) (kk:Int) (D:List Zz),i≤n∧j=.int .i64 i∧q=.int .i64 kk∧1≤kk∧Hid (ZJT kk (ds.drop i)=ZJT k ds∧D.length=i∧D++ZJ5 kk (ds.drop i)=ZJ5 k ds)∧Hid (Got (ZlE ZJM) base [.slice A n c] (D++ds.drop i) L wr)∧Hid (Zby L w wr)) (fun _ j _=>n - (intOf j).toNat)
 case atStart=>exact ⟨0,k,[],Nat.zero_le _,rfl,rfl,hk0,⟨rfl,rfl,rfl⟩,H.out,Zby.refl _ _⟩
 case round=>
  obtain ⟨i,kk,D,hi,rfl,rfl,h1,HD,HG,HO⟩:=hrel
  by_cases hlt:i<n
  ·have hil:i<ds.length:=by have:=HN.out;omega
   obtain ⟨hkk,hDl,hDm⟩:=HD.out
   have hcl:i<(D++ds.drop i).length:=by simp;omega
   obtain ⟨b,off,cs,Lk,rfl,hbL,hLk,hown,hrep,hcells,hput⟩:=HG.out.focus hcl
   have hnext:Hid (ds.drop i=ds[i]::ds.drop (i+1)):=List.drop_eq_getElem_cons _
   have hxi:(D++ds.drop i)[i]=ds[i]:=by
    rw [List.getElem_append_right (by omega)];simp [hDl]
   rw [hxi] at hrep
   clear hxi
   generalize ds[i]=x at hrep hnext
   have hnb:Hid (ZJU kk x≤4611686018427387904):=by
    have:=ZKz (ZJU kk x) (ds.drop (i+1))
    rw [hnext.out] at hkk
    have hk:=HK.out
    rw [←hkk] at hk
    exact Int.le_trans this hk
   have hnb1:=hnb.out
   have hnb2:=ZK3 kk x
   unfold ZJU at hnb1 hnb2
   have HDn:Hid (ZJT (ZJU kk x) (ds.drop (i+1))=ZJT k ds∧(D++[ZKA kk x]).length=i+1∧(D++[ZKA kk x])++ZJ5 (ZJU kk x) (ds.drop (i+1))=ZJ5 k ds):=by
    refine ⟨by rw [←hkk,hnext.out];rfl,by simp [hDl],?_⟩
    rw [←hDm,hnext.out];simp [ZJ5]
   have hset:Hid ((D++ds.drop i).set i (ZKA kk x)=(D++[ZKA kk x])++ds.drop (i+1)):=by
    rw [Hid,List.set_append_right _ _ (by omega),show i - D.length=0 by omega,hnext.out,List.set_cons_zero];simp
   obtain ⟨A1,c1,L1,rfl,hLL,t0,n1,m1,s1⟩:=hrep
   unfold maxLen at m1
   subst Lk
   have HEl:=Lib.hid (Zgq.start (m:=3) hcells rfl hown)
   have hbn:=Lib.hid hown.head
   have G1:Hid (Got (ZlE ZEr) base [.slice A1 x.pattern.args.length c1] x.pattern.args L1 wr):=⟨⟨A1,c1,rfl,n1,(by unfold maxLen;omega),s1⟩,hown.tail⟩
   have bn1:Hid (b∉L1):=fun m=>hown.head (by simp [m])
   have sb1:Hid (∀y∈L1,y∈L1):=fun y m=>by simp [m]
   clear s1
   have HPut:=Lib.hid hput
   have HOwn:=Lib.hid hown
   have HLk:=Lib.hid hLk
   clear hput hown hLk hcells hkk hDl hDm
   simp only [show ZJM.size=3 from rfl] at HEl HPut
   have q0:=HEl.out.at (j:=0) rfl
   have z0:=HEl.out.frozen (off+i * 3)
   have q1:=HEl.out.at (j:=1) rfl
   have z1:=HEl.out.frozen (off+i * 3+1)
   have q2:=HEl.out.at (j:=2) rfl
   have z2:=HEl.out.frozen (off+i * 3+2)
   simp only [Nat.add_zero] at q0
   have gm0:(0:Int)≤0:=by omega
   have mono_x_pattern_args:=ZJ3 (kk+1+1) x.pattern.args
   go_wp2_with fail
   refine (ZJ1 _ _ (by omega) (by omega)).mono ?_
   rintro e w1 ⟨rfl,hb1⟩
   have HEl:=Lib.hid ((HEl.out.set 0 (by omega) (.int .i64 (kk))).later hb1)
   have G1:=Lib.hid ((G1.out.setFar (p:=⟨b,off+i * 3+0,none⟩) bn1.out (.int .i64 (kk))).later hb1)
   clear hb1
   clear q0 z0 q1 z1 q2 z2
   have q0:=HEl.out.at (j:=0) rfl
   have z0:=HEl.out.frozen (off+i * 3)
   have q1:=HEl.out.at (j:=1) rfl
   have z1:=HEl.out.frozen (off+i * 3+1)
   have q2:=HEl.out.at (j:=2) rfl
   have z2:=HEl.out.frozen (off+i * 3+2)
   simp only [Nat.add_zero] at q0
   go_wp2_with fail
   have G1:=Lib.hid (G1.out.setFar (p:=⟨b,off+i * 3+1,none⟩) bn1.out (.string (mTx (kk+1))))
   refine (ZKo A1 _ c1 x.pattern.args L1 base _ _ rfl (by omega) (by omega) G1.out).mono ?_
   rintro e w2 ⟨rfl,g2,on2⟩
   have HEl:=Lib.hid ((HEl.out.set 1 (by omega) (.string (mTx (kk+1)))).marked on2 sb1.out bn1.out)
   have G1:=Lib.hid g2
   clear g2 on2
   clear q0 z0 q1 z1 q2 z2
   have q0:=HEl.out.at (j:=0) rfl
   have z0:=HEl.out.frozen (off+i * 3)
   have q1:=HEl.out.at (j:=1) rfl
   have z1:=HEl.out.frozen (off+i * 3+1)
   have q2:=HEl.out.at (j:=2) rfl
   have z2:=HEl.out.frozen (off+i * 3+2)
   simp only [Nat.add_zero] at q0
   obtain ⟨nn1,mm1,ss1⟩:=ZJB G1.out.rep
   have hO2:=Lib.hid (ZJ9 HOwn.out HEl.out.plain HEl.out.only (fun y m=>by (try simp only [List.mem_append] at m);exact G1.out.own.plain y m))
   have HGn:=Lib.hid (HPut.out _ _ (ZKA kk x) HEl.out.only HEl.out.cells HEl.out.rest ⟨A1,c1,L1,by simp [ZKA,ZKf],rfl,ZKw _ (by omega),nn1,mm1,ss1⟩ hO2.out)
   have HOn:=Lib.hid (HO.out.trans (HEl.out.only.mono (fun y m=>by rcases List.mem_cons.1 m with rfl | m;exact hbL;exact HLk.out y m)))
   rw [hset.out] at HGn
   try simp only [Nat.add_zero] at HGn HOn
   clear HEl hO2 HPut G1 nn1 mm1 ss1
   go_wp2_with fail
   go_roundw
   case rel=>exact ⟨i+1,ZJU kk x,_,by omega,by go_num,rfl,by unfold ZJU;omega,HDn,HGn,HOn⟩
   case measure=>simp [intOf];omega
  ·obtain rfl:i=n:=by omega
   have e:Hid (ds.drop i=[]):=List.drop_of_length_le (by have:=HN.out;omega)
   have hf:Hid (ZJT k ds=kk∧D=ZJ5 k ds):=by
    obtain ⟨h1,h2,h3⟩:=HD.out
    rw [e.out] at h3 h1
    simp [ZJ5] at h3
    exact ⟨h1.symm,h3⟩
   rw [e.out,List.append_nil] at HG
   go_wp2
   go_ret
   exact ⟨ZJK hf.out.1.symm,by rw [←hf.out.2];exact HG.out,HO.out⟩
set_option maxRecDepth 100000 in
set_option maxHeartbeats 4000000 in
theorem ZLE (A:Option Addr) (n c:Nat) (ds:List Zg) (L:List Nat) (base:Nat) (k:Int) (w:World) (hn:n=ds.length) (hm:n≤9223372036854775807) (hk0:1≤k) (hk1:ZJS k ds≤4611686018427387904) (h:Got (ZlE ZKa) base [.slice A n c] ds L w):
  Calls Tryz.prog 40 #[.slice A n c,.int .i64 k] w fun e w'=>e=.returned (.int .i64 (ZJS k ds))∧Got (ZlE ZKa) base [.slice A n c] (ZKr k ds) L w'∧Zby L w w':=by
 have H:=Lib.hid h
 have HN:=Lib.hid hn
 have HK:=Lib.hid hk1
 clear h hn hk1
 go_enter Tryz.func40,Tryz.ntmps40
 go_wp2
 go_loopw [1,5] (fun q j wr=>∃(i:Nat) (kk:Int) (D:List Zg),i≤n∧j=.int .i64 i∧q=.int .i64 kk∧1≤kk∧Hid (ZJS kk (ds.drop i)=ZJS k ds∧D.length=i∧D++ZKr kk (ds.drop i)=ZKr k ds)∧Hid (Got (ZlE ZKa) base [.slice A n c] (D++ds.drop i) L wr)∧Hid (Zby L w wr)) (fun _ j _=>n - (intOf j).toNat)
 case atStart=>exact ⟨0,k,[],Nat.zero_le _,rfl,rfl,hk0,⟨rfl,rfl,rfl⟩,H.out,Zby.refl _ _⟩
 case round=>
  obtain ⟨i,kk,D,hi,rfl,rfl,h1,HD,HG,HO⟩:=hrel
  by_cases hlt:i<n
  ·have hil:i<ds.length:=by have:=HN.out;omega
   obtain ⟨hkk,hDl,hDm⟩:=HD.out
   have hcl:i<(D++ds.drop i).length:=by simp;omega
   obtain ⟨b,off,cs,Lk,rfl,hbL,hLk,hown,hrep,hcells,hput⟩:=HG.out.focus hcl
   have hnext:Hid (ds.drop i=ds[i]::ds.drop (i+1)):=List.drop_eq_getElem_cons _
   have hxi:(D++ds.drop i)[i]=ds[i]:=by
    rw [List.getElem_append_right (by omega)];simp [hDl]
   rw [hxi] at hrep
   clear hxi
   generalize ds[i]=x at hrep hnext
   have hnb:Hid (ZJ8 kk x≤4611686018427387904):=by
    have:=ZK8 (ZJ8 kk x) (ds.drop (i+1))
    rw [hnext.out] at hkk
    have hk:=HK.out
    rw [←hkk] at hk
    exact Int.le_trans this hk
   have hnb1:=hnb.out
   have hnb2:=ZLh kk x
   unfold ZJ8 at hnb1 hnb2
   have HDn:Hid (ZJS (ZJ8 kk x) (ds.drop (i+1))=ZJS k ds∧(D++[ZK4 kk x]).length=i+1∧(D++[ZK4 kk x])++ZKr (ZJ8 kk x) (ds.drop (i+1))=ZKr k ds):=by
    refine ⟨by rw [←hkk,hnext.out];rfl,by simp [hDl],?_⟩
    rw [←hDm,hnext.out];simp [ZKr]
   have hset:Hid ((D++ds.drop i).set i (ZK4 kk x)=(D++[ZK4 kk x])++ds.drop (i+1)):=by
    rw [Hid,List.set_append_right _ _ (by omega),show i - D.length=0 by omega,hnext.out,List.set_cons_zero];simp
   obtain ⟨A1,c1,L1,A2,c2,L2,rfl,hLL,t0,n1,m1,s1,n2,m2,s2⟩:=hrep
   unfold maxLen at m1 m2
   subst hLL
   have HEl:=Lib.hid (Zgq.start (m:=4) hcells rfl hown)
   have hbn:=Lib.hid hown.head
   have G1:Hid (Got (ZlE ZKb) base [.slice A1 x.cond.length c1] x.cond L1 wr):=⟨⟨A1,c1,rfl,n1,(by unfold maxLen;omega),s1⟩,hown.tail.left⟩
   have bn1:Hid (b∉L1):=fun m=>hown.head (by simp [m])
   have sb1:Hid (∀y∈L1,y∈L1++L2):=fun y m=>by simp [m]
   have ap1_2:Hid (∀y∈L1,y∉L2):=fun y m m'=>hown.tail.apart y m (by simp [m'])
   have ap2_1:Hid (∀y∈L2,y∉L1):=fun y m m'=>ap1_2.out y m' m
   have G2:Hid (Got (ZlE ZJM) base [.slice A2 x.thn.length c2] x.thn L2 wr):=⟨⟨A2,c2,rfl,n2,(by unfold maxLen;omega),s2⟩,hown.tail.right⟩
   have bn2:Hid (b∉L2):=fun m=>hown.head (by simp [m])
   have sb2:Hid (∀y∈L2,y∈L1++L2):=fun y m=>by simp [m]
   clear s1
   clear s2
   have HPut:=Lib.hid hput
   have HOwn:=Lib.hid hown
   have HLk:=Lib.hid hLk
   clear hput hown hLk hcells hkk hDl hDm
   simp only [show ZKa.size=4 from rfl] at HEl HPut
   have q0:=HEl.out.at (j:=0) rfl
   have z0:=HEl.out.frozen (off+i * 4)
   have q1:=HEl.out.at (j:=1) rfl
   have z1:=HEl.out.frozen (off+i * 4+1)
   have q2:=HEl.out.at (j:=2) rfl
   have z2:=HEl.out.frozen (off+i * 4+2)
   have q3:=HEl.out.at (j:=3) rfl
   have z3:=HEl.out.frozen (off+i * 4+3)
   simp only [Nat.add_zero] at q0
   have gm0:(0:Int)≤0:=by omega
   have mono_x_cond:=ZKJ (kk+1+1) x.cond
   have mono_x_thn:=ZKz (ZJQ (kk+1+1) x.cond) x.thn
   go_wp2_with fail
   refine (ZJ1 _ _ (by omega) (by omega)).mono ?_
   rintro e w1 ⟨rfl,hb1⟩
   have HEl:=Lib.hid (HEl.out.later hb1)
   have G1:=Lib.hid (G1.out.later hb1)
   have G2:=Lib.hid (G2.out.later hb1)
   clear hb1
   clear q0 z0 q1 z1 q2 z2 q3 z3
   have q0:=HEl.out.at (j:=0) rfl
   have z0:=HEl.out.frozen (off+i * 4)
   have q1:=HEl.out.at (j:=1) rfl
   have z1:=HEl.out.frozen (off+i * 4+1)
   have q2:=HEl.out.at (j:=2) rfl
   have z2:=HEl.out.frozen (off+i * 4+2)
   have q3:=HEl.out.at (j:=3) rfl
   have z3:=HEl.out.frozen (off+i * 4+3)
   simp only [Nat.add_zero] at q0
   go_wp2_with fail
   have G1:=Lib.hid ((G1.out.setFar (p:=⟨b,off+i * 4+0,none⟩) bn1.out (.string (mTx (kk)))).setFar (p:=⟨b,off+i * 4+1,none⟩) bn1.out (.int .i64 (kk+1)))
   refine (ZLM A1 _ c1 x.cond L1 base _ _ rfl (by omega) (by omega) (by omega) G1.out).mono ?_
   rintro e w2 ⟨rfl,g2,on2⟩
   have HEl:=Lib.hid (((HEl.out.set 0 (by omega) (.string (mTx (kk)))).set 1 (by omega) (.int .i64 (kk+1))).marked on2 sb1.out bn1.out)
   have G1:=Lib.hid g2
   have G2:=Lib.hid (((G2.out.setFar (p:=⟨b,off+i * 4+0,none⟩) bn2.out (.string (mTx (kk)))).setFar (p:=⟨b,off+i * 4+1,none⟩) bn2.out (.int .i64 (kk+1))).only on2 ap2_1.out)
   clear g2 on2
   clear q0 z0 q1 z1 q2 z2 q3 z3
   have q0:=HEl.out.at (j:=0) rfl
   have z0:=HEl.out.frozen (off+i * 4)
   have q1:=HEl.out.at (j:=1) rfl
   have z1:=HEl.out.frozen (off+i * 4+1)
   have q2:=HEl.out.at (j:=2) rfl
   have z2:=HEl.out.frozen (off+i * 4+2)
   have q3:=HEl.out.at (j:=3) rfl
   have z3:=HEl.out.frozen (off+i * 4+3)
   simp only [Nat.add_zero] at q0
   go_wp2_with fail
   refine (ZLo A2 _ c2 x.thn L2 base _ _ rfl (by omega) (by omega) (by omega) G2.out).mono ?_
   rintro e w3 ⟨rfl,g3,on3⟩
   have HEl:=Lib.hid (HEl.out.marked on3 sb2.out bn2.out)
   have G1:=Lib.hid (G1.out.only on3 ap1_2.out)
   have G2:=Lib.hid g3
   clear g3 on3
   clear q0 z0 q1 z1 q2 z2 q3 z3
   have q0:=HEl.out.at (j:=0) rfl
   have z0:=HEl.out.frozen (off+i * 4)
   have q1:=HEl.out.at (j:=1) rfl
   have z1:=HEl.out.frozen (off+i * 4+1)
   have q2:=HEl.out.at (j:=2) rfl
   have z2:=HEl.out.frozen (off+i * 4+2)
   have q3:=HEl.out.at (j:=3) rfl
   have z3:=HEl.out.frozen (off+i * 4+3)
   simp only [Nat.add_zero] at q0
   obtain ⟨nn1,mm1,ss1⟩:=ZJB G1.out.rep
   obtain ⟨nn2,mm2,ss2⟩:=ZJB G2.out.rep
   have hO2:=Lib.hid (ZJ9 HOwn.out HEl.out.plain HEl.out.only (fun y m=>by (try simp only [List.mem_append] at m);rcases m with m | m<;>first | exact G1.out.own.plain y m | exact G2.out.own.plain y m))
   have HGn:=Lib.hid (HPut.out _ _ (ZK4 kk x) HEl.out.only HEl.out.cells HEl.out.rest ⟨A1,c1,L1,A2,c2,L2,by simp [ZK4,ZMg,ZLB],rfl,ZKw _ (by omega),nn1,mm1,ss1,nn2,mm2,ss2⟩ hO2.out)
   have HOn:=Lib.hid (HO.out.trans (HEl.out.only.mono (fun y m=>by rcases List.mem_cons.1 m with rfl | m;exact hbL;exact HLk.out y m)))
   rw [hset.out] at HGn
   try simp only [Nat.add_zero] at HGn HOn
   clear HEl hO2 HPut G1 G2 nn1 nn2 mm1 mm2 ss1 ss2
   go_wp2_with fail
   go_roundw
   case rel=>exact ⟨i+1,ZJ8 kk x,_,by omega,by go_num,rfl,by unfold ZJ8;omega,HDn,HGn,HOn⟩
   case measure=>simp [intOf];omega
  ·obtain rfl:i=n:=by omega
   have e:Hid (ds.drop i=[]):=List.drop_of_length_le (by have:=HN.out;omega)
   have hf:Hid (ZJS k ds=kk∧D=ZKr k ds):=by
    obtain ⟨h1,h2,h3⟩:=HD.out
    rw [e.out] at h3 h1
    simp [ZKr] at h3
    exact ⟨h1.symm,h3⟩
   rw [e.out,List.append_nil] at HG
   go_wp2
   go_ret
   exact ⟨ZJK hf.out.1.symm,by rw [←hf.out.2];exact HG.out,HO.out⟩
set_option maxRecDepth 100000 in
set_option maxHeartbeats 4000000 in
theorem ZLk (A:Option Addr) (n c:Nat) (ds:List Zf) (L:List Nat) (base:Nat) (k:Int) (w:World) (hn:n=ds.length) (hm:n≤9223372036854775807) (hk0:1≤k) (hk1:ZJC k ds≤4611686018427387904) (h:Got (ZlE ZJV) base [.slice A n c] ds L w):
  Calls Tryz.prog 168 #[.slice A n c,.int .i64 k] w fun e w'=>e=.returned (.int .i64 (ZJC k ds))∧Got (ZlE ZJV) base [.slice A n c] (ZJG k ds) L w'∧Zby L w w':=by
 have H:=Lib.hid h
 have HN:=Lib.hid hn
 have HK:=Lib.hid hk1
 clear h hn hk1
 go_enter Tryz.func168,Tryz.ntmps168
 go_wp2
 go_loopw [1,5] (fun q j wr=>∃(i:Nat) (kk:Int) (D:List Zf),i≤n∧j=.int .i64 i∧q=.int .i64 kk∧1≤kk∧Hid (ZJC kk (ds.drop i)=ZJC k ds∧D.length=i∧D++ZJG kk (ds.drop i)=ZJG k ds)∧Hid (Got (ZlE ZJV) base [.slice A n c] (D++ds.drop i) L wr)∧Hid (Zby L w wr)) (fun _ j _=>n - (intOf j).toNat)
 case atStart=>exact ⟨0,k,[],Nat.zero_le _,rfl,rfl,hk0,⟨rfl,rfl,rfl⟩,H.out,Zby.refl _ _⟩
 case round=>
  obtain ⟨i,kk,D,hi,rfl,rfl,h1,HD,HG,HO⟩:=hrel
  by_cases hlt:i<n
  ·have hil:i<ds.length:=by have:=HN.out;omega
   obtain ⟨hkk,hDl,hDm⟩:=HD.out
   have hcl:i<(D++ds.drop i).length:=by simp;omega
   obtain ⟨b,off,cs,Lk,rfl,hbL,hLk,hown,hrep,hcells,hput⟩:=HG.out.focus hcl
   have hnext:Hid (ds.drop i=ds[i]::ds.drop (i+1)):=List.drop_eq_getElem_cons _
   have hxi:(D++ds.drop i)[i]=ds[i]:=by
    rw [List.getElem_append_right (by omega)];simp [hDl]
   rw [hxi] at hrep
   clear hxi
   generalize ds[i]=x at hrep hnext
   have hnb:Hid (ZJF kk x≤4611686018427387904):=by
    have:=ZKe (ZJF kk x) (ds.drop (i+1))
    rw [hnext.out] at hkk
    have hk:=HK.out
    rw [←hkk] at hk
    exact Int.le_trans this hk
   have hnb1:=hnb.out
   have hnb2:=ZKG kk x
   unfold ZJF at hnb1 hnb2
   have HDn:Hid (ZJC (ZJF kk x) (ds.drop (i+1))=ZJC k ds∧(D++[ZKj kk x]).length=i+1∧(D++[ZKj kk x])++ZJG (ZJF kk x) (ds.drop (i+1))=ZJG k ds):=by
    refine ⟨by rw [←hkk,hnext.out];rfl,by simp [hDl],?_⟩
    rw [←hDm,hnext.out];simp [ZJG]
   have hset:Hid ((D++ds.drop i).set i (ZKj kk x)=(D++[ZKj kk x])++ds.drop (i+1)):=by
    rw [Hid,List.set_append_right _ _ (by omega),show i - D.length=0 by omega,hnext.out,List.set_cons_zero];simp
   obtain ⟨A1,c1,L1,A2,c2,L2,rfl,hLL,n1,m1,s1,n2,m2,s2⟩:=hrep
   unfold maxLen at m1 m2
   subst hLL
   have HEl:=Lib.hid (Zgq.start (m:=3) hcells rfl hown)
   have hbn:=Lib.hid hown.head
   have G1:Hid (Got (ZlE ZKt) base [.slice A1 x.inn.length c1] x.inn L1 wr):=⟨⟨A1,c1,rfl,n1,(by unfold maxLen;omega),s1⟩,hown.tail.left⟩
   have bn1:Hid (b∉L1):=fun m=>hown.head (by simp [m])
   have sb1:Hid (∀y∈L1,y∈L1++L2):=fun y m=>by simp [m]
   have ap1_2:Hid (∀y∈L1,y∉L2):=fun y m m'=>hown.tail.apart y m (by simp [m'])
   have ap2_1:Hid (∀y∈L2,y∉L1):=fun y m m'=>ap1_2.out y m' m
   have G2:Hid (Got (ZlE ZKt) base [.slice A2 x.outs.length c2] x.outs L2 wr):=⟨⟨A2,c2,rfl,n2,(by unfold maxLen;omega),s2⟩,hown.tail.right⟩
   have bn2:Hid (b∉L2):=fun m=>hown.head (by simp [m])
   have sb2:Hid (∀y∈L2,y∈L1++L2):=fun y m=>by simp [m]
   clear s1
   clear s2
   have HPut:=Lib.hid hput
   have HOwn:=Lib.hid hown
   have HLk:=Lib.hid hLk
   clear hput hown hLk hcells hkk hDl hDm
   simp only [show ZJV.size=3 from rfl] at HEl HPut
   have q0:=HEl.out.at (j:=0) rfl
   have z0:=HEl.out.frozen (off+i * 3)
   have q1:=HEl.out.at (j:=1) rfl
   have z1:=HEl.out.frozen (off+i * 3+1)
   have q2:=HEl.out.at (j:=2) rfl
   have z2:=HEl.out.frozen (off+i * 3+2)
   simp only [Nat.add_zero] at q0
   have gm0:(0:Int)≤0:=by omega
   have mono_x_inn:=ZJW (kk+1) x.inn
   have mono_x_outs:=ZJW (ZJz (kk+1) x.inn) x.outs
   go_wp2_with fail
   have G1:=Lib.hid (G1.out.setFar (p:=⟨b,off+i * 3+0,none⟩) bn1.out (.int .i64 (kk)))
   refine (ZKq A1 _ c1 x.inn L1 base _ _ rfl (by omega) (by omega) G1.out).mono ?_
   rintro e w1 ⟨rfl,g1,on1⟩
   have HEl:=Lib.hid ((HEl.out.set 0 (by omega) (.int .i64 (kk))).marked on1 sb1.out bn1.out)
   have G1:=Lib.hid g1
   have G2:=Lib.hid ((G2.out.setFar (p:=⟨b,off+i * 3+0,none⟩) bn2.out (.int .i64 (kk))).only on1 ap2_1.out)
   clear g1 on1
   clear q0 z0 q1 z1 q2 z2
   have q0:=HEl.out.at (j:=0) rfl
   have z0:=HEl.out.frozen (off+i * 3)
   have q1:=HEl.out.at (j:=1) rfl
   have z1:=HEl.out.frozen (off+i * 3+1)
   have q2:=HEl.out.at (j:=2) rfl
   have z2:=HEl.out.frozen (off+i * 3+2)
   simp only [Nat.add_zero] at q0
   go_wp2_with fail
   refine (ZKq A2 _ c2 x.outs L2 base _ _ rfl (by omega) (by omega) G2.out).mono ?_
   rintro e w2 ⟨rfl,g2,on2⟩
   have HEl:=Lib.hid (HEl.out.marked on2 sb2.out bn2.out)
   have G1:=Lib.hid (G1.out.only on2 ap1_2.out)
   have G2:=Lib.hid g2
   clear g2 on2
   clear q0 z0 q1 z1 q2 z2
   have q0:=HEl.out.at (j:=0) rfl
   have z0:=HEl.out.frozen (off+i * 3)
   have q1:=HEl.out.at (j:=1) rfl
   have z1:=HEl.out.frozen (off+i * 3+1)
   have q2:=HEl.out.at (j:=2) rfl
   have z2:=HEl.out.frozen (off+i * 3+2)
   simp only [Nat.add_zero] at q0
   obtain ⟨nn1,mm1,ss1⟩:=ZJB G1.out.rep
   obtain ⟨nn2,mm2,ss2⟩:=ZJB G2.out.rep
   have hO2:=Lib.hid (ZJ9 HOwn.out HEl.out.plain HEl.out.only (fun y m=>by (try simp only [List.mem_append] at m);rcases m with m | m<;>first | exact G1.out.own.plain y m | exact G2.out.own.plain y m))
   have HGn:=Lib.hid (HPut.out _ _ (ZKj kk x) HEl.out.only HEl.out.cells HEl.out.rest ⟨A1,c1,L1,A2,c2,L2,by simp [ZKj,ZKc,ZKc],rfl,nn1,mm1,ss1,nn2,mm2,ss2⟩ hO2.out)
   have HOn:=Lib.hid (HO.out.trans (HEl.out.only.mono (fun y m=>by rcases List.mem_cons.1 m with rfl | m;exact hbL;exact HLk.out y m)))
   rw [hset.out] at HGn
   try simp only [Nat.add_zero] at HGn HOn
   clear HEl hO2 HPut G1 G2 nn1 nn2 mm1 mm2 ss1 ss2
   go_wp2_with fail
   go_roundw
   case rel=>exact ⟨i+1,ZJF kk x,_,by omega,by go_num,rfl,by unfold ZJF;omega,HDn,HGn,HOn⟩
   case measure=>simp [intOf];omega
  ·obtain rfl:i=n:=by omega
   have e:Hid (ds.drop i=[]):=List.drop_of_length_le (by have:=HN.out;omega)
   have hf:Hid (ZJC k ds=kk∧D=ZJG k ds):=by
    obtain ⟨h1,h2,h3⟩:=HD.out
    rw [e.out] at h3 h1
    simp [ZJG] at h3
    exact ⟨h1.symm,h3⟩
   rw [e.out,List.append_nil] at HG
   go_wp2
   go_ret
   exact ⟨ZJK hf.out.1.symm,by rw [←hf.out.2];exact HG.out,HO.out⟩
def ZK6 (k:Int) (x:Zr):Zr:=⟨x.nodes,ZJG (k) x.reasons⟩
def ZJx (k:Int) (x:Zr):Int:=ZJC (k) x.reasons
theorem ZKp (k:Int) (x:Zr):k≤ZJx k x:=by
 unfold ZJx
 have:=ZKe (k) x.reasons
 omega
theorem ZLn (k:Int) (x:Zr):ZJx k x≤k+16 * Za2 x:=by
 unfold ZJx
 have:=ZLz (k) x.reasons
 simp only [Za2]
 omega
set_option maxHeartbeats 1600000 in
theorem ZLu (x:Zr) (A1:Option Addr) (c1:Nat) (L1:List Nat) (base:Nat) (k:Int) (w:World) (hk0:1≤k) (hk1:ZJx k x≤4611686018427387904) (l1:x.reasons.length≤9223372036854775807) (g1:Got (ZlE ZJV) base [.slice A1 x.reasons.length c1] (x.reasons) L1 w):
  Calls Tryz.prog 103 #[.agg #[.int .i64 x.nodes,.slice A1 x.reasons.length c1],.int .i64 k] w fun e w'=>e=.returned (.int .i64 (ZJx k x))∧Got (ZlE ZJV) base [.slice A1 x.reasons.length c1] (ZJG (k) x.reasons) L1 w'∧Zby (L1) w w':=by
 have bn1:Hid (w.heap.size∉L1):=fun m=>Nat.lt_irrefl _ (g1.lt _ m)
 have G1:=Lib.hid (g1.alloc (.cells #[.int .i64 x.nodes,.slice A1 x.reasons.length c1] 64))
 have K0:Hid (Blk (w.alloc (.cells #[.int .i64 x.nodes,.slice A1 x.reasons.length c1] 64)) w.heap.size 64 #[.int .i64 x.nodes,.slice A1 x.reasons.length c1]):=Blk.new _ _ _
 have O0:Hid (Zby (L1) w (w.alloc (.cells #[.int .i64 x.nodes,.slice A1 x.reasons.length c1] 64))):=Zby.of_below ((Below.refl _ _).alloc (Nat.le_refl _) _) _
 clear g1
 unfold ZJx at hk1
 have:=ZKe (k) x.reasons
 go_enter Tryz.func103,Tryz.ntmps103
 go_wp2_with fail
 refine (ZLk A1 _ c1 x.reasons L1 base _ _ rfl (by omega) (by omega) (by omega) G1.out).mono ?_
 rintro e w1 ⟨rfl,h1,on1⟩
 have G1:=Lib.hid h1
 have K1:=Lib.hid (ZKd K0.out on1 bn1.out)
 have f0:=K1.out.at (i:=0) rfl
 have f1:=K1.out.at (i:=1) rfl
 have O1:Hid (Zby (L1) w w1):=O0.out.trans (on1.mono (fun y m=>by first | exact m | simp [m] | (simp only [List.mem_append] at m ⊢;rcases m with m | m<;>simp [m])))
 clear on1 h1
 go_wp2_with fail
 go_ret
 exact ⟨ZJK rfl,G1.out,O1.out⟩
def ZLa (k:Int) (x:QZ):QZ:=⟨ZK6 (k) x.beliefs,ZJX (ZJx (k) x.beliefs) x.assumed,ZJX (ZJz (ZJx (k) x.beliefs) x.assumed) x.bad⟩
def ZJE (k:Int) (x:QZ):Int:=ZJz (ZJz (ZJx (k) x.beliefs) x.assumed) x.bad
theorem ZLI (k:Int) (x:QZ):k≤ZJE k x:=by
 unfold ZJE
 have:=ZKp (k) x.beliefs
 have:=ZJW (ZJx (k) x.beliefs) x.assumed
 have:=ZJW (ZJz (ZJx (k) x.beliefs) x.assumed) x.bad
 omega
theorem ZLJ (k:Int) (x:QZ):ZJE k x≤k+16 * ZjW x:=by
 unfold ZJE
 have:=ZLn (k) x.beliefs
 have:=ZKD (ZJx (k) x.beliefs) x.assumed
 have:=ZKD (ZJz (ZJx (k) x.beliefs) x.assumed) x.bad
 simp only [ZjW]
 omega
set_option maxHeartbeats 1600000 in
theorem ZLW (x:QZ) (A1:Option Addr) (c1:Nat) (L1:List Nat) (A2:Option Addr) (c2:Nat) (L2:List Nat) (A3:Option Addr) (c3:Nat) (L3:List Nat) (base:Nat) (k:Int) (w:World) (hk0:1≤k) (hk1:ZJE k x≤4611686018427387904) (l1:x.beliefs.reasons.length≤9223372036854775807) (l2:x.assumed.length≤9223372036854775807) (l3:x.bad.length≤9223372036854775807) (g1:Got (ZlE ZJV) base [.slice A1 x.beliefs.reasons.length c1] (x.beliefs.reasons) L1 w) (g2:Got (ZlE ZKt) base [.slice A2 x.assumed.length c2] (x.assumed) L2 w) (g3:Got (ZlE ZKt) base [.slice A3 x.bad.length c3] (x.bad) L3 w) (p1_2:∀y∈L1,y∉L2) (p1_3:∀y∈L1,y∉L3) (p2_3:∀y∈L2,y∉L3):
  Calls Tryz.prog 42 #[.agg #[.int .i64 x.beliefs.nodes,.slice A1 x.beliefs.reasons.length c1,.slice A2 x.assumed.length c2,.slice A3 x.bad.length c3],.int .i64 k] w fun e w'=>e=.returned (.int .i64 (ZJE k x))∧Got (ZlE ZJV) base [.slice A1 x.beliefs.reasons.length c1] (ZJG (k) x.beliefs.reasons) L1 w'∧Got (ZlE ZKt) base [.slice A2 x.assumed.length c2] (ZJX (ZJx (k) x.beliefs) x.assumed) L2 w'∧Got (ZlE ZKt) base [.slice A3 x.bad.length c3] (ZJX (ZJz (ZJx (k) x.beliefs) x.assumed) x.bad) L3 w'∧Zby (L1++(L2++L3)) w w':=by
 have bn1:Hid (w.heap.size∉L1):=fun m=>Nat.lt_irrefl _ (g1.lt _ m)
 have bn2:Hid (w.heap.size∉L2):=fun m=>Nat.lt_irrefl _ (g2.lt _ m)
 have bn3:Hid (w.heap.size∉L3):=fun m=>Nat.lt_irrefl _ (g3.lt _ m)
 have G1:=Lib.hid (g1.alloc (.cells #[.int .i64 x.beliefs.nodes,.slice A1 x.beliefs.reasons.length c1,.slice A2 x.assumed.length c2,.slice A3 x.bad.length c3] 67))
 have G2:=Lib.hid (g2.alloc (.cells #[.int .i64 x.beliefs.nodes,.slice A1 x.beliefs.reasons.length c1,.slice A2 x.assumed.length c2,.slice A3 x.bad.length c3] 67))
 have G3:=Lib.hid (g3.alloc (.cells #[.int .i64 x.beliefs.nodes,.slice A1 x.beliefs.reasons.length c1,.slice A2 x.assumed.length c2,.slice A3 x.bad.length c3] 67))
 have ap1_2:=Lib.hid p1_2
 have ap2_1:Hid (∀y∈L2,y∉L1):=fun y m m'=>p1_2 y m' m
 have ap1_3:=Lib.hid p1_3
 have ap3_1:Hid (∀y∈L3,y∉L1):=fun y m m'=>p1_3 y m' m
 have ap2_3:=Lib.hid p2_3
 have ap3_2:Hid (∀y∈L3,y∉L2):=fun y m m'=>p2_3 y m' m
 have K0:Hid (Blk (w.alloc (.cells #[.int .i64 x.beliefs.nodes,.slice A1 x.beliefs.reasons.length c1,.slice A2 x.assumed.length c2,.slice A3 x.bad.length c3] 67)) w.heap.size 67 #[.int .i64 x.beliefs.nodes,.slice A1 x.beliefs.reasons.length c1,.slice A2 x.assumed.length c2,.slice A3 x.bad.length c3]):=Blk.new _ _ _
 have O0:Hid (Zby (L1++(L2++L3)) w (w.alloc (.cells #[.int .i64 x.beliefs.nodes,.slice A1 x.beliefs.reasons.length c1,.slice A2 x.assumed.length c2,.slice A3 x.bad.length c3] 67))):=Zby.of_below ((Below.refl _ _).alloc (Nat.le_refl _) _) _
 clear g1 g2 g3 p1_2 p1_3 p2_3
 unfold ZJE at hk1
 have:=ZKp (k) x.beliefs
 have:=ZJW (ZJx (k) x.beliefs) x.assumed
 have:=ZJW (ZJz (ZJx (k) x.beliefs) x.assumed) x.bad
 go_enter Tryz.func42,Tryz.ntmps42
 go_wp2_with fail
 refine (ZLu x.beliefs A1 c1 L1 base _ _ (by omega) (by omega) l1 G1.out ).mono ?_
 rintro e w1 ⟨rfl,h1,on1⟩
 have G1:=Lib.hid h1
 have G2:=Lib.hid (G2.out.only on1 ap2_1.out)
 have G3:=Lib.hid (G3.out.only on1 ap3_1.out)
 have K1:=Lib.hid (ZKd K0.out on1 bn1.out)
 have f0:=K1.out.at (i:=0) rfl
 have f1:=K1.out.at (i:=1) rfl
 have f2:=K1.out.at (i:=2) rfl
 have f3:=K1.out.at (i:=3) rfl
 have O1:Hid (Zby (L1++(L2++L3)) w w1):=O0.out.trans (on1.mono (fun y m=>by first | exact m | simp [m] | (simp only [List.mem_append] at m ⊢;rcases m with m | m<;>simp [m])))
 clear on1 h1
 go_wp2_with fail
 refine (ZKq A2 _ c2 x.assumed L2 base _ _ rfl (by omega) (by omega) G2.out).mono ?_
 rintro e w2 ⟨rfl,h2,on2⟩
 have G1:=Lib.hid (G1.out.only on2 ap1_2.out)
 have G2:=Lib.hid h2
 have G3:=Lib.hid (G3.out.only on2 ap3_2.out)
 have K2:=Lib.hid (ZKd K1.out on2 bn2.out)
 clear f0 f1 f2 f3
 have f0:=K2.out.at (i:=0) rfl
 have f1:=K2.out.at (i:=1) rfl
 have f2:=K2.out.at (i:=2) rfl
 have f3:=K2.out.at (i:=3) rfl
 have O2:Hid (Zby (L1++(L2++L3)) w w2):=O1.out.trans (on2.mono (fun y m=>by first | exact m | simp [m] | (simp only [List.mem_append] at m ⊢;rcases m with m | m<;>simp [m])))
 clear on2 h2
 go_wp2_with fail
 refine (ZKq A3 _ c3 x.bad L3 base _ _ rfl (by omega) (by omega) G3.out).mono ?_
 rintro e w3 ⟨rfl,h3,on3⟩
 have G1:=Lib.hid (G1.out.only on3 ap1_3.out)
 have G2:=Lib.hid (G2.out.only on3 ap2_3.out)
 have G3:=Lib.hid h3
 have K3:=Lib.hid (ZKd K2.out on3 bn3.out)
 clear f0 f1 f2 f3
 have f0:=K3.out.at (i:=0) rfl
 have f1:=K3.out.at (i:=1) rfl
 have f2:=K3.out.at (i:=2) rfl
 have f3:=K3.out.at (i:=3) rfl
 have O3:Hid (Zby (L1++(L2++L3)) w w3):=O2.out.trans (on3.mono (fun y m=>by first | exact m | simp [m] | (simp only [List.mem_append] at m ⊢;rcases m with m | m<;>simp [m])))
 clear on3 h3
 go_wp2_with fail
 go_ret
 exact ⟨ZJK rfl,G1.out,G2.out,G3.out,O3.out⟩
theorem ZLC (cs:List Value) (x:QZ) (L:List Nat) (base:Nat) (k:Int) (w:World) (hk0:1≤k) (hk1:ZJE k x≤4611686018427387904) (h:Got ZKx base cs x L w):
  Calls Tryz.prog 42 #[.agg cs.toArray,.int .i64 k] w fun e w'=>e=.returned (.int .i64 (ZJE k x))∧Got ZKx base cs (ZLa k x) L w'∧Zby L w w':=by
 obtain ⟨hrep,ho⟩:=h
 obtain ⟨A1,c1,L1,A2,c2,L2,A3,c3,L3,rfl,hLL,n1,m1,s1,n2,m2,s2,n3,m3,s3⟩:=hrep
 subst L
 refine (ZLW x A1 c1 L1 A2 c2 L2 A3 c3 L3 base k w hk0 hk1 (by unfold maxLen at m1;omega) (by unfold maxLen at m2;omega) (by unfold maxLen at m3;omega) ⟨⟨A1,c1,rfl,n1,m1,s1⟩,ho.left⟩ ⟨⟨A2,c2,rfl,n2,m2,s2⟩,ho.right.left⟩ ⟨⟨A3,c3,rfl,n3,m3,s3⟩,ho.right.right⟩ (fun y m m'=>ho.apart y m (by simp [m'])) (fun y m m'=>ho.apart y m (by simp [m'])) (fun y m m'=>ho.right.apart y m (by simp [m']))).mono ?_
 rintro e w' ⟨rfl,g1,g2,g3,on⟩
 obtain ⟨nn1,mm1,ss1⟩:=ZJB g1.rep
 obtain ⟨nn2,mm2,ss2⟩:=ZJB g2.rep
 obtain ⟨nn3,mm3,ss3⟩:=ZJB g3.rep
 refine ⟨rfl,⟨⟨A1,c1,L1,A2,c2,L2,A3,c3,L3,by simp [ZLa,ZK6,ZKk,ZKc],rfl,nn1,mm1,ss1,nn2,mm2,ss2,nn3,mm3,ss3⟩,ho.nodup,ho.ge,fun y m=>?_⟩,on⟩
 try simp only [List.mem_append] at m
 rcases m with m | m | m
 ·exact g1.own.plain y m
 ·exact g2.own.plain y m
 ·exact g3.own.plain y m
end Go.Proofs.YtfehfkfdfmcgfaaGreatDoor
namespace Go.Proofs.YtfehfkfdfmcgfaaGreatDoor
open Go.RowKit
theorem ZK1 {w w1:World} {B:Nat} (h:Below w.drew.heap.size w.drew w1) (hB:B≤w.heap.size):Below B w w1:=⟨h.os,h.tape,h.output,h.size,fun k hk=>h.block k (Nat.lt_of_lt_of_le hk hB)⟩
set_option maxHeartbeats 1600000 in
theorem ZLl (A:Option Addr) (n c:Nat) (ds:List ByteArray) (L:List Nat) (k:Int) (w:World) (hn:n=ds.length) (hk0:1≤k) (hk1:ZJA k ds≤4611686018427387904) (h:Sli ZEr w A (ZJI k ds) L):
  Calls Tryz.prog 105 #[.slice A n c,.int .i64 k] w fun e w'=>e=.returned (.int .i64 (ZJA k ds))∧Below w.heap.size w w':=by
 have H:=Lib.hid h
 have HN:=Lib.hid hn
 have hk1':k+n≤4611686018427387904:=by simp only [ZJA] at hk1;omega
 clear h hn hk1
 go_enter Tryz.func105,Tryz.ntmps105
 go_wp2
 go_loopw [1,5] (fun q j wr=>∃(i:Nat) (kk:Int),i≤n∧j=.int .i64 i∧q=.int .i64 kk∧1≤kk∧kk+(n - i:Nat)≤4611686018427387904∧Hid (kk=k+i∧(ZJI k ds).drop i=ZJI kk (ds.drop i))∧Hid (Below w.heap.size w wr)) (fun _ j _=>n - (intOf j).toNat)
 case atStart=>exact ⟨0,k,Nat.zero_le _,rfl,rfl,hk0,by omega,⟨by omega,rfl⟩,Below.refl _ _⟩
 case round=>
  obtain ⟨i,kk,hi,rfl,rfl,h1,h2,HD,HB⟩:=hrel
  by_cases hlt:i<n
  ·have hil:i<ds.length:=by have:=HN.out;omega
   obtain ⟨hkk,hdr⟩:=HD.out
   have hml:i<(ZJI k ds).length:=by rw [ZKf];exact hil
   obtain ⟨b,off,cs,Lk,rfl,hbL,_,hrep,hc⟩:=H.out.at_ hml
   have hdr2:=hdr
   rw [List.drop_eq_getElem_cons hml,List.drop_eq_getElem_cons hil,ZJI] at hdr2
   injection hdr2 with e1 e2
   rw [e1] at hrep
   obtain ⟨rfl,_,_⟩:=hrep
   have hbl:b<w.heap.size:=H.out.lt b hbL
   have hbr:b<wr.heap.size:=Nat.lt_of_lt_of_le hbl HB.out.size
   have q0:=(HB.out.cell (p:=⟨b,off+(i * ZEr.size+0),none⟩) hbl).trans (hc 0 _ rfl)
   simp only [show ZEr.size=1 from rfl,Nat.mul_one,Nat.add_zero] at q0
   have HDn:Hid (kk+1=k+(i+1:Nat)∧(ZJI k ds).drop (i+1)=ZJI (kk+1) (ds.drop (i+1))):=⟨by omega,e2⟩
   clear hc hkk hdr e1 e2
   have i0:(0:Int)≤i:=by omega
   have i1:(i:Int)<n:=by omega
   go_wp2_with fail
   go_region_held3 (fun w'=>w'.cell? ⟨b,off+i,none⟩=some (.string (mTx kk))) (first | go_keep | exact (hb1.cell (p:=⟨b,off+i,none⟩) hbr).trans q0) (first | (go_at_call 99;refine (ZJ1 _ _ (by omega) (by omega)).mono ?_;rintro e w1 ⟨rfl,hb1⟩))
   have HBn:=Lib.hid (HB.out.trans (ZK1 hb1 HB.out.size))
   clear hb1
   go_wp2_with fail
   go_roundw
   case rel=>exact ⟨i+1,kk+1,by omega,by go_num,rfl,by omega,by omega,HDn,HBn⟩
   case measure=>simp [intOf];omega
  ·obtain rfl:i=n:=by omega
   have hf:Hid (ZJA k ds=kk):=by
    obtain ⟨h1,_⟩:=HD.out
    have:=HN.out;rw [Hid];simp only [ZJA];omega
   go_wp2
   go_ret
   exact ⟨ZJK hf.out.symm,HB.out⟩
set_option maxHeartbeats 1600000 in
theorem ZKu (A:Option Addr) (n c:Nat) (ds:List Int) (L:List Nat) (k:Int) (w:World) (hn:n=ds.length) (hk0:1≤k) (hk1:ZJz k ds≤4611686018427387904) (h:Sli ZKt w A (ZJX k ds) L):
  Calls Tryz.prog 107 #[.slice A n c,.int .i64 k] w fun e w'=>e=.returned (.int .i64 (ZJz k ds))∧Below w.heap.size w w':=by
 have H:=Lib.hid h
 have HN:=Lib.hid hn
 have hk1':k+n≤4611686018427387904:=by simp only [ZJz] at hk1;omega
 clear h hn hk1
 go_enter Tryz.func107,Tryz.ntmps107
 go_wp2
 go_loopw [1,5] (fun q j wr=>∃(i:Nat) (kk:Int),i≤n∧j=.int .i64 i∧q=.int .i64 kk∧1≤kk∧kk+(n - i:Nat)≤4611686018427387904∧Hid (kk=k+i∧(ZJX k ds).drop i=ZJX kk (ds.drop i))∧Hid (Below w.heap.size w wr)) (fun _ j _=>n - (intOf j).toNat)
 case atStart=>exact ⟨0,k,Nat.zero_le _,rfl,rfl,hk0,by omega,⟨by omega,rfl⟩,Below.refl _ _⟩
 case round=>
  obtain ⟨i,kk,hi,rfl,rfl,h1,h2,HD,HB⟩:=hrel
  by_cases hlt:i<n
  ·have hil:i<ds.length:=by have:=HN.out;omega
   obtain ⟨hkk,hdr⟩:=HD.out
   have hml:i<(ZJX k ds).length:=by rw [ZKc];exact hil
   obtain ⟨b,off,cs,Lk,rfl,hbL,_,hrep,hc⟩:=H.out.at_ hml
   have hdr2:=hdr
   rw [List.drop_eq_getElem_cons hml,List.drop_eq_getElem_cons hil,ZJX] at hdr2
   injection hdr2 with e1 e2
   rw [e1] at hrep
   obtain ⟨rfl,_⟩:=hrep
   have hbl:b<w.heap.size:=H.out.lt b hbL
   have hbr:b<wr.heap.size:=Nat.lt_of_lt_of_le hbl HB.out.size
   have q0:=(HB.out.cell (p:=⟨b,off+(i * ZKt.size+0),none⟩) hbl).trans (hc 0 _ rfl)
   simp only [show ZKt.size=1 from rfl,Nat.mul_one,Nat.add_zero] at q0
   have HDn:Hid (kk+1=k+(i+1:Nat)∧(ZJX k ds).drop (i+1)=ZJX (kk+1) (ds.drop (i+1))):=⟨by omega,e2⟩
   clear hc hkk hdr e1 e2
   have i0:(0:Int)≤i:=by omega
   have i1:(i:Int)<n:=by omega
   have hne:((kk:Int) != kk)=false:=by simp
   go_wp2_with fail
   have HBn:=HB
   go_roundw
   case rel=>exact ⟨i+1,kk+1,by omega,by go_num,rfl,by omega,by omega,HDn,HBn⟩
   case measure=>simp [intOf];omega
  ·obtain rfl:i=n:=by omega
   have hf:Hid (ZJz k ds=kk):=by
    obtain ⟨h1,_⟩:=HD.out
    have:=HN.out;rw [Hid];simp only [ZJz];omega
   go_wp2
   go_ret
   exact ⟨ZJK hf.out.symm,HB.out⟩
set_option maxRecDepth 100000 in
set_option maxHeartbeats 4000000 in
theorem ZKZ (A:Option Addr) (n c:Nat) (ds:List Zb) (L:List Nat) (k:Int) (w:World) (hn:n=ds.length) (hm:n≤9223372036854775807) (hk0:1≤k) (hk1:ZJy k ds≤4611686018427387904) (h:Sli ZJZ w A (ZJ4 k ds) L):
  Calls Tryz.prog 43 #[.slice A n c,.int .i64 k] w fun e w'=>e=.returned (.int .i64 (ZJy k ds))∧Below w.heap.size w w':=by
 have H:=Lib.hid h
 have HN:=Lib.hid hn
 have HK:=Lib.hid hk1
 clear h hn hk1
 go_enter Tryz.func43,Tryz.ntmps43
 go_wp2
 go_loopw [1,5] (fun q j wr=>∃(i:Nat) (kk:Int),i≤n∧j=.int .i64 i∧q=.int .i64 kk∧1≤kk∧Hid (ZJy kk (ds.drop i)=ZJy k ds∧(ZJ4 k ds).drop i=ZJ4 kk (ds.drop i))∧Hid (Below w.heap.size w wr)) (fun _ j _=>n - (intOf j).toNat)
 case atStart=>exact ⟨0,k,Nat.zero_le _,rfl,rfl,hk0,⟨rfl,rfl⟩,Below.refl _ _⟩
 case round=>
  obtain ⟨i,kk,hi,rfl,rfl,h1,HD,HB⟩:=hrel
  by_cases hlt:i<n
  ·have hil:i<ds.length:=by have:=HN.out;omega
   obtain ⟨hkk,hdr⟩:=HD.out
   have hml:i<(ZJ4 k ds).length:=by rw [ZMk];exact hil
   obtain ⟨b,off,cs,Lk,rfl,hbL,hLk,hrep,hc⟩:=H.out.at_ hml
   rw [List.drop_eq_getElem_cons hml,List.drop_eq_getElem_cons hil,ZJ4] at hdr
   injection hdr with e1 e2
   rw [e1] at hrep
   clear e1
   have hnext:ds.drop i=ds[i]::ds.drop (i+1):=List.drop_eq_getElem_cons _
   rw [hnext] at hkk
   clear hnext
   generalize ds[i]=x at hrep hkk e2
   have hnb:Hid (ZJP kk x≤4611686018427387904):=by
    have:=ZKs (ZJP kk x) (ds.drop (i+1))
    have hk:=HK.out
    rw [←hkk] at hk
    exact Int.le_trans this hk
   have hnb1:=hnb.out
   have hnb2:=ZKO kk x
   unfold ZJP at hnb1 hnb2
   have HDn:Hid (ZJy (ZJP kk x) (ds.drop (i+1))=ZJy k ds∧(ZJ4 k ds).drop (i+1)=ZJ4 (ZJP kk x) (ds.drop (i+1))):=⟨hkk,e2⟩
   have hbl:b<w.heap.size:=H.out.lt b hbL
   clear hkk e2
   obtain ⟨A1,c1,L1,rfl,hLL,t0,n1,m1,s1⟩:=hrep
   have S1:=Lib.hid s1
   have lL1:Hid (∀y∈L1,y<w.heap.size):=fun y m=>H.out.lt y (hLk y (by rw [hLL];simp [m]))
   have ll1:(ZKK kk x).args.length=x.args.length:=ZKf _ _
   clear s1
   have Q0:=Lib.hid (hc 0 _ rfl)
   have Q1:=Lib.hid (hc 1 _ rfl)
   unfold maxLen at m1
   rw [ll1] at Q1 n1
   clear hc ll1
   have i0:(0:Int)≤i:=by omega
   have i1:(i:Int)<n:=by omega
   have mono_x_args:=ZJ3 (kk+1) x.args
   have q0:wr.cell? ⟨b,off+i * 2,none⟩=some (.string (mTx (kk))):=(HB.out.cell (p:=⟨b,off+(i * 2+0),none⟩) hbl).trans Q0.out
   have q1:wr.cell? ⟨b,off+i * 2+1,none⟩=some (.slice A1 x.args.length c1):=(HB.out.cell (p:=⟨b,off+(i * 2+1),none⟩) hbl).trans Q1.out
   have hbr:b<wr.heap.size:=Nat.lt_of_lt_of_le hbl HB.out.size
   go_wp2_with fail
   go_region_held3 (fun w'=>w'.cell? ⟨b,off+i * 2,none⟩=some (.string (mTx (kk)))) (first | go_keep | exact (hb1.cell (p:=⟨b,off+i * 2,none⟩) hbr).trans q0) (first | (go_at_call 99;refine (ZJ1 _ _ (by omega) (by omega)).mono ?_;rintro e w1 ⟨rfl,hb1⟩))
   have HB:=Lib.hid (HB.out.trans (ZK1 hb1 HB.out.size))
   clear hb1
   clear q0 q1
   have q0:w1.cell? ⟨b,off+i * 2,none⟩=some (.string (mTx (kk))):=(HB.out.cell (p:=⟨b,off+(i * 2+0),none⟩) hbl).trans Q0.out
   have q1:w1.cell? ⟨b,off+i * 2+1,none⟩=some (.slice A1 x.args.length c1):=(HB.out.cell (p:=⟨b,off+(i * 2+1),none⟩) hbl).trans Q1.out
   replace hbr:b<w1.heap.size:=Nat.lt_of_lt_of_le hbl HB.out.size
   go_wp2_with fail
   refine (ZLl A1 _ c1 x.args L1 _ _ rfl (by omega) (by omega) (S1.out.keep (ZdM HB.out lL1.out))).mono ?_
   rintro e w2 ⟨rfl,hb2⟩
   have HB:=Lib.hid (HB.out.trans (hb2.mono HB.out.size))
   clear hb2
   clear q0 q1
   have q0:w2.cell? ⟨b,off+i * 2,none⟩=some (.string (mTx (kk))):=(HB.out.cell (p:=⟨b,off+(i * 2+0),none⟩) hbl).trans Q0.out
   have q1:w2.cell? ⟨b,off+i * 2+1,none⟩=some (.slice A1 x.args.length c1):=(HB.out.cell (p:=⟨b,off+(i * 2+1),none⟩) hbl).trans Q1.out
   replace hbr:b<w2.heap.size:=Nat.lt_of_lt_of_le hbl HB.out.size
   have ge2:¬(ZJA (kk+1) x.args<0):=by omega
   go_wp2_with fail
   go_roundw
   case rel=>exact ⟨i+1,ZJP kk x,by omega,by go_num,rfl,by unfold ZJP;omega,HDn,HB⟩
   case measure=>simp [intOf];omega
  ·obtain rfl:i=n:=by omega
   have hf:Hid (ZJy k ds=kk):=by
    obtain ⟨h1,_⟩:=HD.out
    rw [Hid,←h1,List.drop_of_length_le (by have:=HN.out;omega)];rfl
   go_wp2
   go_ret
   exact ⟨ZJK hf.out.symm,HB.out⟩
set_option maxRecDepth 100000 in
set_option maxHeartbeats 4000000 in
theorem ZLj (A:Option Addr) (n c:Nat) (ds:List Zf) (L:List Nat) (k:Int) (w:World) (hn:n=ds.length) (hm:n≤9223372036854775807) (hk0:1≤k) (hk1:ZJC k ds≤4611686018427387904) (h:Sli ZJV w A (ZJG k ds) L):
  Calls Tryz.prog 169 #[.slice A n c,.int .i64 k] w fun e w'=>e=.returned (.int .i64 (ZJC k ds))∧Below w.heap.size w w':=by
 have H:=Lib.hid h
 have HN:=Lib.hid hn
 have HK:=Lib.hid hk1
 clear h hn hk1
 go_enter Tryz.func169,Tryz.ntmps169
 go_wp2
 go_loopw [1,5] (fun q j wr=>∃(i:Nat) (kk:Int),i≤n∧j=.int .i64 i∧q=.int .i64 kk∧1≤kk∧Hid (ZJC kk (ds.drop i)=ZJC k ds∧(ZJG k ds).drop i=ZJG kk (ds.drop i))∧Hid (Below w.heap.size w wr)) (fun _ j _=>n - (intOf j).toNat)
 case atStart=>exact ⟨0,k,Nat.zero_le _,rfl,rfl,hk0,⟨rfl,rfl⟩,Below.refl _ _⟩
 case round=>
  obtain ⟨i,kk,hi,rfl,rfl,h1,HD,HB⟩:=hrel
  by_cases hlt:i<n
  ·have hil:i<ds.length:=by have:=HN.out;omega
   obtain ⟨hkk,hdr⟩:=HD.out
   have hml:i<(ZJG k ds).length:=by rw [ZKk];exact hil
   obtain ⟨b,off,cs,Lk,rfl,hbL,hLk,hrep,hc⟩:=H.out.at_ hml
   rw [List.drop_eq_getElem_cons hml,List.drop_eq_getElem_cons hil,ZJG] at hdr
   injection hdr with e1 e2
   rw [e1] at hrep
   clear e1
   have hnext:ds.drop i=ds[i]::ds.drop (i+1):=List.drop_eq_getElem_cons _
   rw [hnext] at hkk
   clear hnext
   generalize ds[i]=x at hrep hkk e2
   have hnb:Hid (ZJF kk x≤4611686018427387904):=by
    have:=ZKe (ZJF kk x) (ds.drop (i+1))
    have hk:=HK.out
    rw [←hkk] at hk
    exact Int.le_trans this hk
   have hnb1:=hnb.out
   have hnb2:=ZKG kk x
   unfold ZJF at hnb1 hnb2
   have HDn:Hid (ZJC (ZJF kk x) (ds.drop (i+1))=ZJC k ds∧(ZJG k ds).drop (i+1)=ZJG (ZJF kk x) (ds.drop (i+1))):=⟨hkk,e2⟩
   have hbl:b<w.heap.size:=H.out.lt b hbL
   clear hkk e2
   obtain ⟨A1,c1,L1,A2,c2,L2,rfl,hLL,n1,m1,s1,n2,m2,s2⟩:=hrep
   have S1:=Lib.hid s1
   have lL1:Hid (∀y∈L1,y<w.heap.size):=fun y m=>H.out.lt y (hLk y (by rw [hLL];simp [m]))
   have ll1:(ZKj kk x).inn.length=x.inn.length:=ZKc _ _
   clear s1
   have S2:=Lib.hid s2
   have lL2:Hid (∀y∈L2,y<w.heap.size):=fun y m=>H.out.lt y (hLk y (by rw [hLL];simp [m]))
   have ll2:(ZKj kk x).outs.length=x.outs.length:=ZKc _ _
   clear s2
   have Q0:=Lib.hid (hc 0 _ rfl)
   have Q1:=Lib.hid (hc 1 _ rfl)
   have Q2:=Lib.hid (hc 2 _ rfl)
   unfold maxLen at m1 m2
   rw [ll1] at Q1 n1
   rw [ll2] at Q2 n2
   clear hc ll1 ll2
   have i0:(0:Int)≤i:=by omega
   have i1:(i:Int)<n:=by omega
   have mono_x_inn:=ZJW (kk+1) x.inn
   have mono_x_outs:=ZJW (ZJz (kk+1) x.inn) x.outs
   have q0:wr.cell? ⟨b,off+i * 3,none⟩=some (.int .i64 (kk)):=(HB.out.cell (p:=⟨b,off+(i * 3+0),none⟩) hbl).trans Q0.out
   have q1:wr.cell? ⟨b,off+i * 3+1,none⟩=some (.slice A1 x.inn.length c1):=(HB.out.cell (p:=⟨b,off+(i * 3+1),none⟩) hbl).trans Q1.out
   have q2:wr.cell? ⟨b,off+i * 3+2,none⟩=some (.slice A2 x.outs.length c2):=(HB.out.cell (p:=⟨b,off+(i * 3+2),none⟩) hbl).trans Q2.out
   have hbr:b<wr.heap.size:=Nat.lt_of_lt_of_le hbl HB.out.size
   go_wp2_with fail
   refine (ZKu A1 _ c1 x.inn L1 _ _ rfl (by omega) (by omega) (S1.out.keep (ZdM HB.out lL1.out))).mono ?_
   rintro e w1 ⟨rfl,hb1⟩
   have HB:=Lib.hid (HB.out.trans (hb1.mono HB.out.size))
   clear hb1
   clear q0 q1 q2
   have q0:w1.cell? ⟨b,off+i * 3,none⟩=some (.int .i64 (kk)):=(HB.out.cell (p:=⟨b,off+(i * 3+0),none⟩) hbl).trans Q0.out
   have q1:w1.cell? ⟨b,off+i * 3+1,none⟩=some (.slice A1 x.inn.length c1):=(HB.out.cell (p:=⟨b,off+(i * 3+1),none⟩) hbl).trans Q1.out
   have q2:w1.cell? ⟨b,off+i * 3+2,none⟩=some (.slice A2 x.outs.length c2):=(HB.out.cell (p:=⟨b,off+(i * 3+2),none⟩) hbl).trans Q2.out
   replace hbr:b<w1.heap.size:=Nat.lt_of_lt_of_le hbl HB.out.size
   have ge1:¬(ZJz (kk+1) x.inn<0):=by omega
   go_wp2_with fail
   refine (ZKu A2 _ c2 x.outs L2 _ _ rfl (by omega) (by omega) (S2.out.keep (ZdM HB.out lL2.out))).mono ?_
   rintro e w2 ⟨rfl,hb2⟩
   have HB:=Lib.hid (HB.out.trans (hb2.mono HB.out.size))
   clear hb2
   clear q0 q1 q2
   have q0:w2.cell? ⟨b,off+i * 3,none⟩=some (.int .i64 (kk)):=(HB.out.cell (p:=⟨b,off+(i * 3+0),none⟩) hbl).trans Q0.out
   have q1:w2.cell? ⟨b,off+i * 3+1,none⟩=some (.slice A1 x.inn.length c1):=(HB.out.cell (p:=⟨b,off+(i * 3+1),none⟩) hbl).trans Q1.out
   have q2:w2.cell? ⟨b,off+i * 3+2,none⟩=some (.slice A2 x.outs.length c2):=(HB.out.cell (p:=⟨b,off+(i * 3+2),none⟩) hbl).trans Q2.out
   replace hbr:b<w2.heap.size:=Nat.lt_of_lt_of_le hbl HB.out.size
   have ge2:¬(ZJz (ZJz (kk+1) x.inn) x.outs<0):=by omega
   go_wp2_with fail
   go_roundw
   case rel=>exact ⟨i+1,ZJF kk x,by omega,by go_num,rfl,by unfold ZJF;omega,HDn,HB⟩
   case measure=>simp [intOf];omega
  ·obtain rfl:i=n:=by omega
   have hf:Hid (ZJC k ds=kk):=by
    obtain ⟨h1,_⟩:=HD.out
    rw [Hid,←h1,List.drop_of_length_le (by have:=HN.out;omega)];rfl
   go_wp2
   go_ret
   exact ⟨ZJK hf.out.symm,HB.out⟩
set_option maxHeartbeats 1600000 in
theorem ZLv (x:Zr) (A1:Option Addr) (c1:Nat) (L1:List Nat) (k:Int) (w:World) (hk0:1≤k) (hk1:ZJx k x≤4611686018427387904) (l1:x.reasons.length≤9223372036854775807) (s1:Sli ZJV w A1 (ZJG (k) x.reasons) L1):
  Calls Tryz.prog 106 #[.agg #[.int .i64 x.nodes,.slice A1 x.reasons.length c1],.int .i64 k] w fun e w'=>e=.returned (.int .i64 (ZJx k x))∧Below w.heap.size w w':=by
 have B0:Hid (Below w.heap.size w (w.alloc (.cells #[.int .i64 x.nodes,.slice A1 x.reasons.length c1] 64))):=(Below.refl _ _).alloc (Nat.le_refl _) _
 have S1:=Lib.hid s1
 have K0:Hid (Blk (w.alloc (.cells #[.int .i64 x.nodes,.slice A1 x.reasons.length c1] 64)) w.heap.size 64 #[.int .i64 x.nodes,.slice A1 x.reasons.length c1]):=Blk.new _ _ _
 clear s1
 unfold ZJx at hk1
 have:=ZKe (k) x.reasons
 go_enter Tryz.func106,Tryz.ntmps106
 go_wp2_with fail
 refine (ZLj A1 _ c1 x.reasons L1 _ _ rfl (by omega) (by omega) (by omega) (S1.out.below B0.out)).mono ?_
 rintro e w1 ⟨rfl,hb1⟩
 have K1:=Lib.hid (K0.out.later hb1)
 have B1:=Lib.hid (B0.out.trans (hb1.mono B0.out.size))
 have f0:=K1.out.at (i:=0) rfl
 have f1:=K1.out.at (i:=1) rfl
 have ge1:¬(ZJC (k) x.reasons<0):=by omega
 clear hb1
 go_wp2_with fail
 go_ret
 exact ⟨ZJK rfl,B1.out⟩
set_option maxHeartbeats 1600000 in
theorem ZLZ (x:QZ) (A1:Option Addr) (c1:Nat) (L1:List Nat) (A2:Option Addr) (c2:Nat) (L2:List Nat) (A3:Option Addr) (c3:Nat) (L3:List Nat) (k:Int) (w:World) (hk0:1≤k) (hk1:ZJE k x≤4611686018427387904) (l1:x.beliefs.reasons.length≤9223372036854775807) (l2:x.assumed.length≤9223372036854775807) (l3:x.bad.length≤9223372036854775807) (s1:Sli ZJV w A1 (ZJG (k) x.beliefs.reasons) L1) (s2:Sli ZKt w A2 (ZJX (ZJx (k) x.beliefs) x.assumed) L2) (s3:Sli ZKt w A3 (ZJX (ZJz (ZJx (k) x.beliefs) x.assumed) x.bad) L3):
  Calls Tryz.prog 44 #[.agg #[.int .i64 x.beliefs.nodes,.slice A1 x.beliefs.reasons.length c1,.slice A2 x.assumed.length c2,.slice A3 x.bad.length c3],.int .i64 k] w fun e w'=>e=.returned (.int .i64 (ZJE k x))∧Below w.heap.size w w':=by
 have B0:Hid (Below w.heap.size w (w.alloc (.cells #[.int .i64 x.beliefs.nodes,.slice A1 x.beliefs.reasons.length c1,.slice A2 x.assumed.length c2,.slice A3 x.bad.length c3] 67))):=(Below.refl _ _).alloc (Nat.le_refl _) _
 have S1:=Lib.hid s1
 have S2:=Lib.hid s2
 have S3:=Lib.hid s3
 have K0:Hid (Blk (w.alloc (.cells #[.int .i64 x.beliefs.nodes,.slice A1 x.beliefs.reasons.length c1,.slice A2 x.assumed.length c2,.slice A3 x.bad.length c3] 67)) w.heap.size 67 #[.int .i64 x.beliefs.nodes,.slice A1 x.beliefs.reasons.length c1,.slice A2 x.assumed.length c2,.slice A3 x.bad.length c3]):=Blk.new _ _ _
 clear s1 s2 s3
 unfold ZJE at hk1
 have:=ZKp (k) x.beliefs
 have:=ZJW (ZJx (k) x.beliefs) x.assumed
 have:=ZJW (ZJz (ZJx (k) x.beliefs) x.assumed) x.bad
 go_enter Tryz.func44,Tryz.ntmps44
 go_wp2_with fail
 refine (ZLv x.beliefs A1 c1 L1 _ _ (by omega) (by omega) l1 (S1.out.below B0.out)).mono ?_
 rintro e w1 ⟨rfl,hb1⟩
 have K1:=Lib.hid (K0.out.later hb1)
 have B1:=Lib.hid (B0.out.trans (hb1.mono B0.out.size))
 have f0:=K1.out.at (i:=0) rfl
 have f1:=K1.out.at (i:=1) rfl
 have f2:=K1.out.at (i:=2) rfl
 have f3:=K1.out.at (i:=3) rfl
 have ge1:¬(ZJx (k) x.beliefs<0):=by omega
 clear hb1
 go_wp2_with fail
 refine (ZKu A2 _ c2 x.assumed L2 _ _ rfl (by omega) (by omega) (S2.out.below B1.out)).mono ?_
 rintro e w2 ⟨rfl,hb2⟩
 have K2:=Lib.hid (K1.out.later hb2)
 have B2:=Lib.hid (B1.out.trans (hb2.mono B1.out.size))
 clear f0 f1 f2 f3
 have f0:=K2.out.at (i:=0) rfl
 have f1:=K2.out.at (i:=1) rfl
 have f2:=K2.out.at (i:=2) rfl
 have f3:=K2.out.at (i:=3) rfl
 have ge2:¬(ZJz (ZJx (k) x.beliefs) x.assumed<0):=by omega
 clear hb2
 go_wp2_with fail
 refine (ZKu A3 _ c3 x.bad L3 _ _ rfl (by omega) (by omega) (S3.out.below B2.out)).mono ?_
 rintro e w3 ⟨rfl,hb3⟩
 have K3:=Lib.hid (K2.out.later hb3)
 have B3:=Lib.hid (B2.out.trans (hb3.mono B2.out.size))
 clear f0 f1 f2 f3
 have f0:=K3.out.at (i:=0) rfl
 have f1:=K3.out.at (i:=1) rfl
 have f2:=K3.out.at (i:=2) rfl
 have f3:=K3.out.at (i:=3) rfl
 have ge3:¬(ZJz (ZJz (ZJx (k) x.beliefs) x.assumed) x.bad<0):=by omega
 clear hb3
 go_wp2_with fail
 go_ret
 exact ⟨ZJK rfl,B3.out⟩
theorem ZK2 (cs:List Value) (x:QZ) (L:List Nat) (k:Int) (w:World) (hk0:1≤k) (hk1:ZJE k x≤4611686018427387904) (h:ZKx.rep w cs (ZLa k x) L):
  Calls Tryz.prog 44 #[.agg cs.toArray,.int .i64 k] w fun e w'=>e=.returned (.int .i64 (ZJE k x))∧Below w.heap.size w w':=by
 obtain ⟨A1,c1,L1,A2,c2,L2,A3,c3,L3,rfl,hLL,n1,m1,s1,n2,m2,s2,n3,m3,s3⟩:=h
 subst L
 have ll1:(ZJG (k) x.beliefs.reasons).length=x.beliefs.reasons.length:=ZKk _ _
 have ll2:(ZJX (ZJx (k) x.beliefs) x.assumed).length=x.assumed.length:=ZKc _ _
 have ll3:(ZJX (ZJz (ZJx (k) x.beliefs) x.assumed) x.bad).length=x.bad.length:=ZKc _ _
 simp only [ZLa,ZK6,ZKk,ZKc] at *
 exact ZLZ x A1 c1 L1 A2 c2 L2 A3 c3 L3 k w hk0 hk1 (by unfold maxLen at *;omega) (by unfold maxLen at *;omega) (by unfold maxLen at *;omega) s1 s2 s3
end Go.Proofs.YtfehfkfdfmcgfaaGreatDoor
namespace Go.Proofs.YtfehfkfdfmcgfaaGreatDoor
open Go.RowKit Go.Deep
def ZvE {α:Type} (P:Program) (t:TypeId) (c:ZbC α) (wf:α→Prop):Prop:=
 ∀{H:Type} {enc:TypeId × Value→H} {w:World} {base:Nat} {spare:Nat→Bool} {held:Bool} {fuel:Nat} {cs:List Value} {x:DataW H × List MemPlace},
  DataW.trod enc P w base spare held fuel t cs=some x→∃d L,c.rep w cs d L∧wf d
theorem ZLd {P:Program} {t:TypeId} (ht:P.underlying t=some (.int .i64)):ZvE P t ZKt ZqV:=by
 intro H enc w base spare held fuel cs x h
 obtain ⟨n,rfl,_,hw⟩:=DataW.trod_int ht h
 refine ⟨n,[],⟨rfl,rfl⟩,?_⟩
 simp [Lit.wf,IntKind.min,IntKind.max,IntKind.signed,IntKind.bits] at hw
 exact ⟨by omega,by omega⟩
theorem ZJ6 {P:Program} {t:TypeId} (ht:P.underlying t=some .string):ZvE P t ZEr (fun _=>True):=by
 intro H enc w base spare held fuel cs x h
 obtain ⟨s,rfl,_,hs⟩:=DataW.trod_string ht h
 exact ⟨s,[],⟨rfl,rfl,by unfold maxLen at hs;omega⟩,trivial⟩
theorem ZrJ {α:Type} {c:ZbC α} {wf:α→Prop} {P:Program} {t e:TypeId} (ht:P.underlying t=some (.slice e)) (hc:P.cellsOf e=c.size) (ho:ZvE P e c wf):ZvE P t (ZlE c) (fun ds=>∀d∈ds,wf d):=by
 intro H enc w base spare held fuel cs x h
 rcases open_slice ht h with ⟨rfl,_⟩ | ⟨a,len,cap,m,n,D,Pl,rfl,hb,hl,hm,hmm,_,hx⟩
 ·exact ⟨[],[],⟨none,0,rfl,Nat.le_refl _,Nat.zero_le _,Sli.nil _ _⟩,by simp⟩
 ·have hlm:len≤m:=by rw [hmm];split<;>omega
  have key:∀q,q≤len→∃(xs:List Value) (ds:List α) (L:List Nat),ds.length=q∧(∀j u,xs[j]?=some u→w.cell? (a.add j)=some u)∧c.reps w xs ds L∧∀d∈ds,wf d:=by
   intro q
   induction q with
   | zero=>exact fun _=>⟨[],[],[],rfl,by simp,⟨rfl,rfl⟩,by simp⟩
   | succ q ih=>
    intro hq
    obtain ⟨xs,ds,L,hd,hcell,hr,hwf⟩:=ih (by omega)
    obtain ⟨cs',h1,h2⟩:=hx q (by omega)
    obtain ⟨d,Lq,hrep,hwd⟩:=ho h2
    obtain ⟨_,hlen,hat⟩:=World.cells?_some h1
    refine ⟨xs++cs',ds++[d],L++Lq,by simp [hd],fun j u hu=>?_,ZgC hr (Zj5 hrep),?_⟩
    ·have hxl:xs.length=q * c.size:=by rw [ZgQ hr,hd]
     rw [List.getElem?_append] at hu
     split at hu
     ·exact hcell j u hu
     ·rename_i hj
      have hj2:=(List.getElem?_eq_some_iff.1 hu).1
      have:=hat (j - xs.length) (by omega)
      rw [←hu,←this,Go.Deep.add_add,hc,←hxl]
      congr 2
      omega
    ·intro y hy
     rcases List.mem_append.1 hy with hy | hy
     ·exact hwf y hy
     ·simp at hy;subst hy;exact hwd
  obtain ⟨xs,ds,L,hd,hcell,hr,hwf⟩:=key len (Nat.le_refl _)
  have hxl:=ZgQ hr
  rcases Nat.eq_zero_or_pos len with h0 | h0
  ·have:ds=[]:=List.eq_nil_of_length_eq_zero (by omega)
   subst this
   refine ⟨[],[],⟨some a,cap,by simp at hd;rw [←hd];rfl,by simp,hm,Sli.nil _ _⟩,by simp⟩
  ·obtain ⟨b,off,sp⟩:=a
   have hp:0<xs.length:=by rw [hxl,hd];exact Nat.mul_pos h0 c.pos
   have hsp:sp=none:=by
    have h1:=hcell 0 _ (List.getElem?_eq_getElem hp)
    have e:(⟨b,off,sp⟩:Addr).add 0=⟨b,off,sp⟩:=by simp [Addr.add]
    rw [e] at h1
    cases sp with
    | none=>rfl
    | some q=>
     simp only [World.cell?] at h1
     split at h1<;>simp at h1
   subst hsp
   refine ⟨ds,[b]++L,⟨some ⟨b,off,none⟩,cap,by rw [hd],by omega,hm,xs,[b],L,rfl,⟨by rw [hxl],.inr ⟨by omega,b,off,rfl,rfl,fun j u hu=>?_⟩⟩,hr⟩,hwf⟩
   have:=hcell j u hu
   rwa [Zdn] at this
end Go.Proofs.YtfehfkfdfmcgfaaGreatDoor
namespace Go.Proofs.YtfehfkfdfmcgfaaGreatDoor
open Go.RowKit
theorem ZLT {aRules:List Zg} {aBase:List Zb} {aBad:ByteArray} {r0:List Zb} {r1:QZ} {r2:Bool} (hh:ZGr aRules aBase aBad=some (r0,r1,r2)) (w:World) (hj:J0 w) (AaRules:Option Addr) (caRules:Nat) (LaRules:List Nat) (haRules:(ZlE ZKa).rep w [.slice AaRules aRules.length caRules] aRules LaRules) (AaBase:Option Addr) (caBase:Nat) (LaBase:List Nat) (haBase:(ZlE ZJZ).rep w [.slice AaBase aBase.length caBase] aBase LaBase) (zaBad:aBad.size≤9223372036854775807):
  Calls Tryz.prog 33 #[.slice AaRules aRules.length caRules,.slice AaBase aBase.length caBase,.string aBad] w (ZLr ZJZ ZKx w r0 r1 r2):=
 Zk.givesSXB (c:=ZJZ) (g:=Zl) (c2:=ZKx) (g2:=ZAT) (ds:=r0) (x:=r1) (b:=r2) (ZIb hh) ZLq ZMf hj (vs:=[_,_,_]) ⟨ZCc ZMy _ haRules,ZCc ZLq _ haBase,ZMz _ _ zaBad,trivial⟩
theorem ZK9 {aRules:List Zg} {aBase:List Zb} {aBad:ByteArray} {r0:List Zb} {r1:QZ} {r2:Bool} (hh:ZGx aRules aBase aBad=some (r0,r1,r2)) (w:World) (hj:J0 w) (AaRules:Option Addr) (caRules:Nat) (LaRules:List Nat) (haRules:(ZlE ZKa).rep w [.slice AaRules aRules.length caRules] aRules LaRules) (AaBase:Option Addr) (caBase:Nat) (LaBase:List Nat) (haBase:(ZlE ZJZ).rep w [.slice AaBase aBase.length caBase] aBase LaBase) (zaBad:aBad.size≤9223372036854775807):
  Calls Tryz.prog 36 #[.slice AaRules aRules.length caRules,.slice AaBase aBase.length caBase,.string aBad] w (ZLr ZJZ ZKx w r0 r1 r2):=
 Zk.givesSXB (c:=ZJZ) (g:=Zl) (c2:=ZKx) (g2:=ZAT) (ds:=r0) (x:=r1) (b:=r2) (ZIm hh) ZLq ZMf hj (vs:=[_,_,_]) ⟨ZCc ZMy _ haRules,ZCc ZLq _ haBase,ZMz _ _ zaBad,trivial⟩
set_option maxRecDepth 100000 in
set_option maxHeartbeats 8000000 in
theorem ZKR (w:World) (hJ:J0 w) (A_aRules:Option Addr) (c_aRules:Nat) (aRules:List Zg) (L_aRules:List Nat) (ln_aRules:aRules.length≤9223372036854775807) (h_aRules:Sli ZKa w A_aRules aRules L_aRules) (A_aBase:Option Addr) (c_aBase:Nat) (aBase:List Zb) (L_aBase:List Nat) (ln_aBase:aBase.length≤9223372036854775807) (h_aBase:Sli ZJZ w A_aBase aBase L_aBase) (aBad:ByteArray) (st_aBad:aBad.size≤9223372036854775807) (wf_aRules:(fun ds=>∀d∈ds,ZMv d) aRules) (wf_aBase:(fun ds=>∀d∈ds,ZMm d) aBase):
  Calls Tryz.prog 6 #[.slice A_aRules aRules.length c_aRules,.slice A_aBase aBase.length c_aBase,.string aBad] w fun e w'=>e=.returned (.bool true)∧Below w.heap.size w w':=by
 have HJ:=Lib.hid hJ
 clear hJ
 have H_aRules:=Lib.hid h_aRules
 clear h_aRules
 have H_aBase:=Lib.hid h_aBase
 clear h_aBase
 by_cases big_aBad:(1048576:Int)<aBad.size
 ·go_enter Tryz.func6,Tryz.ntmps6
  go_wp2
  go_ret
  exact ⟨rfl,Below.refl _ _⟩
 have sz_aBad:aBad.size≤1048576:=by omega
 go_enter Tryz.func6,Tryz.ntmps6
 go_wp2_with fail
 refine (ZMj A_aRules _ c_aRules aRules L_aRules _ _ rfl ln_aRules (by omega) (by omega) (H_aRules.out.below (Below.refl w.heap.size w))).mono ?_
 rintro e w1 ⟨rfl,hb⟩
 have B1:=Lib.hid ((Below.refl w.heap.size w).trans (hb.mono (Below.refl w.heap.size w).size))
 have sz1:=hb.size
 clear hb
 by_cases cc_aRules:((ZJL aRules:Nat):Int)≤1048576
 rotate_left
 ·rw [ZJD cc_aRules]
  go_wp2
  go_ret
  exact ⟨rfl,B1.out⟩
 rw [ZJ0 cc_aRules]
 have cz_aRules:ZJL aRules≤1048576:=by omega
 have cl_aRules:aRules.length≤1048576:=by have:=cz_aRules;simp only [ZJL] at this;omega
 have nn_aRules:¬(1048576 - ((ZJL aRules:Nat):Int)<0):=by omega
 go_wp2_with fail
 refine (ZL5 A_aBase _ c_aBase aBase L_aBase _ _ rfl ln_aBase (by omega) (by omega) (H_aBase.out.below B1.out)).mono ?_
 rintro e w2 ⟨rfl,hb⟩
 have B2:=Lib.hid (B1.out.trans (hb.mono B1.out.size))
 have sz2:=hb.size
 clear B1
 clear hb
 by_cases cc_aBase:((Zc1 aBase:Nat):Int)≤1048576 - ((ZJL aRules:Nat):Int)
 rotate_left
 ·rw [ZJD cc_aBase]
  go_wp2
  go_ret
  exact ⟨rfl,B2.out⟩
 rw [ZJ0 cc_aBase]
 have cz_aBase:Zc1 aBase≤1048576:=by omega
 have cl_aBase:aBase.length≤1048576:=by have:=cz_aBase;simp only [Zc1] at this;omega
 have nn_aBase:¬(1048576 - ((ZJL aRules:Nat):Int) - ((Zc1 aBase:Nat):Int)<0):=by omega
 obtain ⟨R0,R1,R2,hs0,hi0,rl⟩:=ZLL aRules cz_aRules wf_aRules aBase cz_aBase wf_aBase aBad sz_aBad
 go_wp2_with fail
 refine (ZKB A_aRules _ c_aRules aRules L_aRules _ rfl cz_aRules (H_aRules.out.below B2.out)).mono ?_
 rintro e w3 ⟨v,rfl,acc⟩
 obtain ⟨A_t2aRules,c_t2aRules,rfl⟩:=acc.shape
 have hb:=acc.below
 obtain ⟨L_t2aRules,gt⟩:=acc.got
 have B3:=Lib.hid (B2.out.trans (hb.mono B2.out.size))
 have sz3:=hb.size
 clear B2
 have V_t2aRules:=Lib.hid gt
 have ge_t2aRules:=Lib.hid gt.own.ge
 have lt_t2aRules:=Lib.hid gt.lt
 clear gt hb acc
 go_wp2_with fail
 refine (ZKE A_aBase _ c_aBase aBase L_aBase _ rfl cz_aBase (H_aBase.out.below B3.out)).mono ?_
 rintro e w4 ⟨v,rfl,acc⟩
 obtain ⟨A_t3aBase,c_t3aBase,rfl⟩:=acc.shape
 have hb:=acc.below
 obtain ⟨L_t3aBase,gt⟩:=acc.got
 have B4:=Lib.hid (B3.out.trans (hb.mono B3.out.size))
 have sz4:=hb.size
 have V_t2aRules:=Lib.hid (V_t2aRules.out.later hb)
 clear B3
 have V_t3aBase:=Lib.hid gt
 have ge_t3aBase:=Lib.hid gt.own.ge
 have lt_t3aBase:=Lib.hid gt.lt
 clear gt hb acc
 go_wp2_with fail
 refine (ZLT hs0 _ (ZLe hJ0 HJ.out B4.out) A_t2aRules c_t2aRules L_t2aRules V_t2aRules.out.rep A_t3aBase c_t3aBase L_t3aBase V_t3aBase.out.rep (by omega)).mono ?_
 rintro e w5 ⟨A_w0,c_w0,cs,L_w0,L_w1,rfl,gt,gt2,ap,hb⟩
 obtain ⟨w1_A1,w1_c1,w1_A2,w1_c2,w1_A3,w1_c3,rfl⟩:=ZKI gt2.rep
 have AP_w0:=Lib.hid ap
 have B5:=Lib.hid (B4.out.trans (hb.mono B4.out.size))
 have sz5:=hb.size
 have V_t2aRules:=Lib.hid (V_t2aRules.out.later hb)
 have V_t3aBase:=Lib.hid (V_t3aBase.out.later hb)
 clear B4
 have V_w0:=Lib.hid gt
 have ge_w0:=Lib.hid gt.own.ge
 have lt_w0:=Lib.hid gt.lt
 have V_w1:=Lib.hid gt2
 have ge_w1:=Lib.hid gt2.own.ge
 have lt_w1:=Lib.hid gt2.lt
 clear gt gt2 hb ap
 have hb:=(Below.refl w5.heap.size w5).alloc (Nat.le_refl _) (.cells #[.int .i64 R1.beliefs.nodes,.slice w1_A1 R1.beliefs.reasons.length w1_c1,.slice w1_A2 R1.assumed.length w1_c2,.slice w1_A3 R1.bad.length w1_c3] 67)
 have B6:=Lib.hid (B5.out.trans (hb.mono B5.out.size))
 have sz6:=hb.size
 have V_t2aRules:=Lib.hid (V_t2aRules.out.later hb)
 have V_t3aBase:=Lib.hid (V_t3aBase.out.later hb)
 have V_w0:=Lib.hid (V_w0.out.later hb)
 have V_w1:=Lib.hid (V_w1.out.later hb)
 clear B5
 have szb_w1:w5.heap.size+1≤(w5.alloc (.cells #[.int .i64 R1.beliefs.nodes,.slice w1_A1 R1.beliefs.reasons.length w1_c1,.slice w1_A2 R1.assumed.length w1_c2,.slice w1_A3 R1.bad.length w1_c3] 67)).heap.size:=Nat.le_of_eq (by simp only [World.alloc,Array.size_push])
 have K_w1:Hid (Blk (w5.alloc (.cells #[.int .i64 R1.beliefs.nodes,.slice w1_A1 R1.beliefs.reasons.length w1_c1,.slice w1_A2 R1.assumed.length w1_c2,.slice w1_A3 R1.bad.length w1_c3] 67)) w5.heap.size 67 #[.int .i64 R1.beliefs.nodes,.slice w1_A1 R1.beliefs.reasons.length w1_c1,.slice w1_A2 R1.assumed.length w1_c2,.slice w1_A3 R1.bad.length w1_c3]):=Blk.new _ _ _
 have f_w1_0:=K_w1.out.at (i:=0) rfl
 have f_w1_1:=K_w1.out.at (i:=1) rfl
 have f_w1_2:=K_w1.out.at (i:=2) rfl
 have f_w1_3:=K_w1.out.at (i:=3) rfl
 clear hb
 clear V_t2aRules
 clear V_t3aBase
 go_wp2_with fail
 refine (ZKB A_aRules _ c_aRules aRules L_aRules _ rfl cz_aRules (H_aRules.out.below B6.out)).mono ?_
 rintro e w7 ⟨v,rfl,acc⟩
 obtain ⟨A_x0,c_x0,rfl⟩:=acc.shape
 have hb:=acc.below
 obtain ⟨L_x0,gt⟩:=acc.got
 have B7:=Lib.hid (B6.out.trans (hb.mono B6.out.size))
 have sz7:=hb.size
 have V_w0:=Lib.hid (V_w0.out.later hb)
 have V_w1:=Lib.hid (V_w1.out.later hb)
 have K_w1:=Lib.hid (K_w1.out.later hb)
 clear f_w1_0 f_w1_1 f_w1_2 f_w1_3
 have f_w1_0:=K_w1.out.at (i:=0) rfl
 have f_w1_1:=K_w1.out.at (i:=1) rfl
 have f_w1_2:=K_w1.out.at (i:=2) rfl
 have f_w1_3:=K_w1.out.at (i:=3) rfl
 clear B6
 have V_x0:=Lib.hid gt
 have ge_x0:=Lib.hid gt.own.ge
 have lt_x0:=Lib.hid gt.lt
 clear gt hb acc
 go_wp2_with fail
 refine (ZKE A_aBase _ c_aBase aBase L_aBase _ rfl cz_aBase (H_aBase.out.below B7.out)).mono ?_
 rintro e w8 ⟨v,rfl,acc⟩
 obtain ⟨A_x1,c_x1,rfl⟩:=acc.shape
 have hb:=acc.below
 obtain ⟨L_x1,gt⟩:=acc.got
 have B8:=Lib.hid (B7.out.trans (hb.mono B7.out.size))
 have sz8:=hb.size
 have V_w0:=Lib.hid (V_w0.out.later hb)
 have V_w1:=Lib.hid (V_w1.out.later hb)
 have V_x0:=Lib.hid (V_x0.out.later hb)
 have K_w1:=Lib.hid (K_w1.out.later hb)
 clear f_w1_0 f_w1_1 f_w1_2 f_w1_3
 have f_w1_0:=K_w1.out.at (i:=0) rfl
 have f_w1_1:=K_w1.out.at (i:=1) rfl
 have f_w1_2:=K_w1.out.at (i:=2) rfl
 have f_w1_3:=K_w1.out.at (i:=3) rfl
 clear B7
 have V_x1:=Lib.hid gt
 have ge_x1:=Lib.hid gt.own.ge
 have lt_x1:=Lib.hid gt.lt
 clear gt hb acc
 go_wp2_with fail
 refine (ZK9 hi0 _ (ZLe hJ0 HJ.out B8.out) A_x0 c_x0 L_x0 V_x0.out.rep A_x1 c_x1 L_x1 V_x1.out.rep (by omega)).mono ?_
 rintro e w9 ⟨A_g0,c_g0,cs,L_g0,L_g1,rfl,gt,gt2,ap,hb⟩
 obtain ⟨g1_A1,g1_c1,g1_A2,g1_c2,g1_A3,g1_c3,rfl⟩:=ZKI gt2.rep
 have AP_g0:=Lib.hid ap
 have B9:=Lib.hid (B8.out.trans (hb.mono B8.out.size))
 have sz9:=hb.size
 have V_w0:=Lib.hid (V_w0.out.later hb)
 have V_w1:=Lib.hid (V_w1.out.later hb)
 have V_x0:=Lib.hid (V_x0.out.later hb)
 have V_x1:=Lib.hid (V_x1.out.later hb)
 have K_w1:=Lib.hid (K_w1.out.later hb)
 clear f_w1_0 f_w1_1 f_w1_2 f_w1_3
 have f_w1_0:=K_w1.out.at (i:=0) rfl
 have f_w1_1:=K_w1.out.at (i:=1) rfl
 have f_w1_2:=K_w1.out.at (i:=2) rfl
 have f_w1_3:=K_w1.out.at (i:=3) rfl
 clear B8
 have V_g0:=Lib.hid gt
 have ge_g0:=Lib.hid gt.own.ge
 have lt_g0:=Lib.hid gt.lt
 have V_g1:=Lib.hid gt2
 have ge_g1:=Lib.hid gt2.own.ge
 have lt_g1:=Lib.hid gt2.lt
 clear gt gt2 hb ap
 have hb:=(Below.refl w9.heap.size w9).alloc (Nat.le_refl _) (.cells #[.int .i64 R1.beliefs.nodes,.slice g1_A1 R1.beliefs.reasons.length g1_c1,.slice g1_A2 R1.assumed.length g1_c2,.slice g1_A3 R1.bad.length g1_c3] 67)
 have B10:=Lib.hid (B9.out.trans (hb.mono B9.out.size))
 have sz10:=hb.size
 have V_w0:=Lib.hid (V_w0.out.later hb)
 have V_w1:=Lib.hid (V_w1.out.later hb)
 have V_x0:=Lib.hid (V_x0.out.later hb)
 have V_x1:=Lib.hid (V_x1.out.later hb)
 have V_g0:=Lib.hid (V_g0.out.later hb)
 have V_g1:=Lib.hid (V_g1.out.later hb)
 have K_w1:=Lib.hid (K_w1.out.later hb)
 clear f_w1_0 f_w1_1 f_w1_2 f_w1_3
 have f_w1_0:=K_w1.out.at (i:=0) rfl
 have f_w1_1:=K_w1.out.at (i:=1) rfl
 have f_w1_2:=K_w1.out.at (i:=2) rfl
 have f_w1_3:=K_w1.out.at (i:=3) rfl
 clear B9
 have szb_g1:w9.heap.size+1≤(w9.alloc (.cells #[.int .i64 R1.beliefs.nodes,.slice g1_A1 R1.beliefs.reasons.length g1_c1,.slice g1_A2 R1.assumed.length g1_c2,.slice g1_A3 R1.bad.length g1_c3] 67)).heap.size:=Nat.le_of_eq (by simp only [World.alloc,Array.size_push])
 have K_g1:Hid (Blk (w9.alloc (.cells #[.int .i64 R1.beliefs.nodes,.slice g1_A1 R1.beliefs.reasons.length g1_c1,.slice g1_A2 R1.assumed.length g1_c2,.slice g1_A3 R1.bad.length g1_c3] 67)) w9.heap.size 67 #[.int .i64 R1.beliefs.nodes,.slice g1_A1 R1.beliefs.reasons.length g1_c1,.slice g1_A2 R1.assumed.length g1_c2,.slice g1_A3 R1.bad.length g1_c3]):=Blk.new _ _ _
 have f_g1_0:=K_g1.out.at (i:=0) rfl
 have f_g1_1:=K_g1.out.at (i:=1) rfl
 have f_g1_2:=K_g1.out.at (i:=2) rfl
 have f_g1_3:=K_g1.out.at (i:=3) rfl
 clear hb
 go_wp2_with fail
 refine (ZKC A_g0 A_w0 _ c_g0 c_w0 _ L_g0 L_w0 _ rfl (by omega) (ZJB V_g0.out.rep).2.2 (ZJB V_w0.out.rep).2.2).mono ?_
 rintro e w11 ⟨rfl,hb⟩
 have B11:=Lib.hid (B10.out.trans (hb.mono B10.out.size))
 have sz11:=hb.size
 have V_w0:=Lib.hid (V_w0.out.later hb)
 have V_w1:=Lib.hid (V_w1.out.later hb)
 have V_x0:=Lib.hid (V_x0.out.later hb)
 have V_x1:=Lib.hid (V_x1.out.later hb)
 have V_g0:=Lib.hid (V_g0.out.later hb)
 have V_g1:=Lib.hid (V_g1.out.later hb)
 have K_w1:=Lib.hid (K_w1.out.later hb)
 clear f_w1_0 f_w1_1 f_w1_2 f_w1_3
 have f_w1_0:=K_w1.out.at (i:=0) rfl
 have f_w1_1:=K_w1.out.at (i:=1) rfl
 have f_w1_2:=K_w1.out.at (i:=2) rfl
 have f_w1_3:=K_w1.out.at (i:=3) rfl
 have K_g1:=Lib.hid (K_g1.out.later hb)
 clear f_g1_0 f_g1_1 f_g1_2 f_g1_3
 have f_g1_0:=K_g1.out.at (i:=0) rfl
 have f_g1_1:=K_g1.out.at (i:=1) rfl
 have f_g1_2:=K_g1.out.at (i:=2) rfl
 have f_g1_3:=K_g1.out.at (i:=3) rfl
 clear B10
 clear hb
 go_wp2_with fail
 refine (ZKP [.int .i64 R1.beliefs.nodes,.slice g1_A1 R1.beliefs.reasons.length g1_c1,.slice g1_A2 R1.assumed.length g1_c2,.slice g1_A3 R1.bad.length g1_c3] [.int .i64 R1.beliefs.nodes,.slice w1_A1 R1.beliefs.reasons.length w1_c1,.slice w1_A2 R1.assumed.length w1_c2,.slice w1_A3 R1.bad.length w1_c3] R1 L_g1 L_w1 _ V_g1.out.rep V_w1.out.rep).mono ?_
 rintro e w12 ⟨rfl,hb⟩
 have B12:=Lib.hid (B11.out.trans (hb.mono B11.out.size))
 have sz12:=hb.size
 have V_w0:=Lib.hid (V_w0.out.later hb)
 have V_w1:=Lib.hid (V_w1.out.later hb)
 have V_x0:=Lib.hid (V_x0.out.later hb)
 have V_x1:=Lib.hid (V_x1.out.later hb)
 have V_g0:=Lib.hid (V_g0.out.later hb)
 have V_g1:=Lib.hid (V_g1.out.later hb)
 have K_w1:=Lib.hid (K_w1.out.later hb)
 clear f_w1_0 f_w1_1 f_w1_2 f_w1_3
 have f_w1_0:=K_w1.out.at (i:=0) rfl
 have f_w1_1:=K_w1.out.at (i:=1) rfl
 have f_w1_2:=K_w1.out.at (i:=2) rfl
 have f_w1_3:=K_w1.out.at (i:=3) rfl
 have K_g1:=Lib.hid (K_g1.out.later hb)
 clear f_g1_0 f_g1_1 f_g1_2 f_g1_3
 have f_g1_0:=K_g1.out.at (i:=0) rfl
 have f_g1_1:=K_g1.out.at (i:=1) rfl
 have f_g1_2:=K_g1.out.at (i:=2) rfl
 have f_g1_3:=K_g1.out.at (i:=3) rfl
 clear B11
 clear hb
 go_wp2_with fail
 refine (ZKB A_aRules _ c_aRules aRules L_aRules _ rfl cz_aRules (H_aRules.out.below B12.out)).mono ?_
 rintro e w13 ⟨v,rfl,acc⟩
 obtain ⟨A_t12aRules,c_t12aRules,rfl⟩:=acc.shape
 have hb:=acc.below
 obtain ⟨L_t12aRules,gt⟩:=acc.got
 have B13:=Lib.hid (B12.out.trans (hb.mono B12.out.size))
 have sz13:=hb.size
 have V_w0:=Lib.hid (V_w0.out.later hb)
 have V_w1:=Lib.hid (V_w1.out.later hb)
 have V_x0:=Lib.hid (V_x0.out.later hb)
 have V_x1:=Lib.hid (V_x1.out.later hb)
 have V_g0:=Lib.hid (V_g0.out.later hb)
 have V_g1:=Lib.hid (V_g1.out.later hb)
 have K_w1:=Lib.hid (K_w1.out.later hb)
 clear f_w1_0 f_w1_1 f_w1_2 f_w1_3
 have f_w1_0:=K_w1.out.at (i:=0) rfl
 have f_w1_1:=K_w1.out.at (i:=1) rfl
 have f_w1_2:=K_w1.out.at (i:=2) rfl
 have f_w1_3:=K_w1.out.at (i:=3) rfl
 have K_g1:=Lib.hid (K_g1.out.later hb)
 clear f_g1_0 f_g1_1 f_g1_2 f_g1_3
 have f_g1_0:=K_g1.out.at (i:=0) rfl
 have f_g1_1:=K_g1.out.at (i:=1) rfl
 have f_g1_2:=K_g1.out.at (i:=2) rfl
 have f_g1_3:=K_g1.out.at (i:=3) rfl
 clear B12
 have V_t12aRules:=Lib.hid gt
 have ge_t12aRules:=Lib.hid gt.own.ge
 have lt_t12aRules:=Lib.hid gt.lt
 clear gt hb acc
 go_wp2_with fail
 refine (ZMd A_x0 A_t12aRules _ c_x0 c_t12aRules _ L_x0 L_t12aRules _ rfl (by omega) (ZJB V_x0.out.rep).2.2 (ZJB V_t12aRules.out.rep).2.2).mono ?_
 rintro e w14 ⟨rfl,hb⟩
 have B14:=Lib.hid (B13.out.trans (hb.mono B13.out.size))
 have sz14:=hb.size
 have V_w0:=Lib.hid (V_w0.out.later hb)
 have V_w1:=Lib.hid (V_w1.out.later hb)
 have V_x0:=Lib.hid (V_x0.out.later hb)
 have V_x1:=Lib.hid (V_x1.out.later hb)
 have V_g0:=Lib.hid (V_g0.out.later hb)
 have V_g1:=Lib.hid (V_g1.out.later hb)
 have V_t12aRules:=Lib.hid (V_t12aRules.out.later hb)
 have K_w1:=Lib.hid (K_w1.out.later hb)
 clear f_w1_0 f_w1_1 f_w1_2 f_w1_3
 have f_w1_0:=K_w1.out.at (i:=0) rfl
 have f_w1_1:=K_w1.out.at (i:=1) rfl
 have f_w1_2:=K_w1.out.at (i:=2) rfl
 have f_w1_3:=K_w1.out.at (i:=3) rfl
 have K_g1:=Lib.hid (K_g1.out.later hb)
 clear f_g1_0 f_g1_1 f_g1_2 f_g1_3
 have f_g1_0:=K_g1.out.at (i:=0) rfl
 have f_g1_1:=K_g1.out.at (i:=1) rfl
 have f_g1_2:=K_g1.out.at (i:=2) rfl
 have f_g1_3:=K_g1.out.at (i:=3) rfl
 clear B13
 clear hb
 clear V_t12aRules
 go_wp2_with fail
 refine (ZKE A_aBase _ c_aBase aBase L_aBase _ rfl cz_aBase (H_aBase.out.below B14.out)).mono ?_
 rintro e w15 ⟨v,rfl,acc⟩
 obtain ⟨A_t14aBase,c_t14aBase,rfl⟩:=acc.shape
 have hb:=acc.below
 obtain ⟨L_t14aBase,gt⟩:=acc.got
 have B15:=Lib.hid (B14.out.trans (hb.mono B14.out.size))
 have sz15:=hb.size
 have V_w0:=Lib.hid (V_w0.out.later hb)
 have V_w1:=Lib.hid (V_w1.out.later hb)
 have V_x0:=Lib.hid (V_x0.out.later hb)
 have V_x1:=Lib.hid (V_x1.out.later hb)
 have V_g0:=Lib.hid (V_g0.out.later hb)
 have V_g1:=Lib.hid (V_g1.out.later hb)
 have K_w1:=Lib.hid (K_w1.out.later hb)
 clear f_w1_0 f_w1_1 f_w1_2 f_w1_3
 have f_w1_0:=K_w1.out.at (i:=0) rfl
 have f_w1_1:=K_w1.out.at (i:=1) rfl
 have f_w1_2:=K_w1.out.at (i:=2) rfl
 have f_w1_3:=K_w1.out.at (i:=3) rfl
 have K_g1:=Lib.hid (K_g1.out.later hb)
 clear f_g1_0 f_g1_1 f_g1_2 f_g1_3
 have f_g1_0:=K_g1.out.at (i:=0) rfl
 have f_g1_1:=K_g1.out.at (i:=1) rfl
 have f_g1_2:=K_g1.out.at (i:=2) rfl
 have f_g1_3:=K_g1.out.at (i:=3) rfl
 clear B14
 have V_t14aBase:=Lib.hid gt
 have ge_t14aBase:=Lib.hid gt.own.ge
 have lt_t14aBase:=Lib.hid gt.lt
 clear gt hb acc
 go_wp2_with fail
 refine (ZKC A_x1 A_t14aBase _ c_x1 c_t14aBase _ L_x1 L_t14aBase _ rfl (by omega) (ZJB V_x1.out.rep).2.2 (ZJB V_t14aBase.out.rep).2.2).mono ?_
 rintro e w16 ⟨rfl,hb⟩
 have B16:=Lib.hid (B15.out.trans (hb.mono B15.out.size))
 have sz16:=hb.size
 have V_w0:=Lib.hid (V_w0.out.later hb)
 have V_w1:=Lib.hid (V_w1.out.later hb)
 have V_x0:=Lib.hid (V_x0.out.later hb)
 have V_x1:=Lib.hid (V_x1.out.later hb)
 have V_g0:=Lib.hid (V_g0.out.later hb)
 have V_g1:=Lib.hid (V_g1.out.later hb)
 have V_t14aBase:=Lib.hid (V_t14aBase.out.later hb)
 have K_w1:=Lib.hid (K_w1.out.later hb)
 clear f_w1_0 f_w1_1 f_w1_2 f_w1_3
 have f_w1_0:=K_w1.out.at (i:=0) rfl
 have f_w1_1:=K_w1.out.at (i:=1) rfl
 have f_w1_2:=K_w1.out.at (i:=2) rfl
 have f_w1_3:=K_w1.out.at (i:=3) rfl
 have K_g1:=Lib.hid (K_g1.out.later hb)
 clear f_g1_0 f_g1_1 f_g1_2 f_g1_3
 have f_g1_0:=K_g1.out.at (i:=0) rfl
 have f_g1_1:=K_g1.out.at (i:=1) rfl
 have f_g1_2:=K_g1.out.at (i:=2) rfl
 have f_g1_3:=K_g1.out.at (i:=3) rfl
 clear B15
 clear hb
 clear V_t14aBase
 have nl_x0_16:=ZLS ((1:Int)) aRules
 have nb_x0_16:ZJS ((1:Int)) aRules≤4611686018427387904:=by omega
 have ng_x0_16:=ZK8 ((1:Int)) aRules
 go_wp2_with fail
 refine (ZLE A_x0 _ c_x0 aRules L_x0 _ _ _ rfl (by omega) (by omega) (by omega) V_x0.out).mono ?_
 rintro e w17 ⟨rfl,gm,on⟩
 have B17:=Lib.hid (B16.out.trans (on.below B16.out.size (fun y m=>by have:=ge_x0.out y m;omega)))
 have sz17:=on.size
 have V_w0:=Lib.hid (V_w0.out.only on (fun y m m'=>by have:=lt_w0.out y m;have:=ge_x0.out y m';omega))
 have V_w1:=Lib.hid (V_w1.out.only on (fun y m m'=>by have:=lt_w1.out y m;have:=ge_x0.out y m';omega))
 have V_x1:=Lib.hid (V_x1.out.only on (fun y m m'=>by have:=ge_x1.out y m;have:=lt_x0.out y m';omega))
 have V_g0:=Lib.hid (V_g0.out.only on (fun y m m'=>by have:=ge_g0.out y m;have:=lt_x0.out y m';omega))
 have V_g1:=Lib.hid (V_g1.out.only on (fun y m m'=>by have:=ge_g1.out y m;have:=lt_x0.out y m';omega))
 have K_w1:=Lib.hid (ZKd K_w1.out on (fun m=>by have:=ge_x0.out _ m;have:=lt_x0.out _ m;omega))
 clear f_w1_0 f_w1_1 f_w1_2 f_w1_3
 have f_w1_0:=K_w1.out.at (i:=0) rfl
 have f_w1_1:=K_w1.out.at (i:=1) rfl
 have f_w1_2:=K_w1.out.at (i:=2) rfl
 have f_w1_3:=K_w1.out.at (i:=3) rfl
 have K_g1:=Lib.hid (ZKd K_g1.out on (fun m=>by have:=ge_x0.out _ m;have:=lt_x0.out _ m;omega))
 clear f_g1_0 f_g1_1 f_g1_2 f_g1_3
 have f_g1_0:=K_g1.out.at (i:=0) rfl
 have f_g1_1:=K_g1.out.at (i:=1) rfl
 have f_g1_2:=K_g1.out.at (i:=2) rfl
 have f_g1_3:=K_g1.out.at (i:=3) rfl
 clear B16
 have V_x0:=Lib.hid gm
 clear gm on
 clear V_x0
 have nl_x1_17:=ZK7 (ZJS ((1:Int)) aRules) aBase
 have nb_x1_17:ZJy (ZJS ((1:Int)) aRules) aBase≤4611686018427387904:=by omega
 have ng_x1_17:=ZKs (ZJS ((1:Int)) aRules) aBase
 go_wp2_with fail
 refine (ZKY A_x1 _ c_x1 aBase L_x1 _ _ _ rfl (by omega) (by omega) (by omega) V_x1.out).mono ?_
 rintro e w18 ⟨rfl,gm,on⟩
 have B18:=Lib.hid (B17.out.trans (on.below B17.out.size (fun y m=>by have:=ge_x1.out y m;omega)))
 have sz18:=on.size
 have V_w0:=Lib.hid (V_w0.out.only on (fun y m m'=>by have:=lt_w0.out y m;have:=ge_x1.out y m';omega))
 have V_w1:=Lib.hid (V_w1.out.only on (fun y m m'=>by have:=lt_w1.out y m;have:=ge_x1.out y m';omega))
 have V_g0:=Lib.hid (V_g0.out.only on (fun y m m'=>by have:=ge_g0.out y m;have:=lt_x1.out y m';omega))
 have V_g1:=Lib.hid (V_g1.out.only on (fun y m m'=>by have:=ge_g1.out y m;have:=lt_x1.out y m';omega))
 have K_w1:=Lib.hid (ZKd K_w1.out on (fun m=>by have:=ge_x1.out _ m;have:=lt_x1.out _ m;omega))
 clear f_w1_0 f_w1_1 f_w1_2 f_w1_3
 have f_w1_0:=K_w1.out.at (i:=0) rfl
 have f_w1_1:=K_w1.out.at (i:=1) rfl
 have f_w1_2:=K_w1.out.at (i:=2) rfl
 have f_w1_3:=K_w1.out.at (i:=3) rfl
 have K_g1:=Lib.hid (ZKd K_g1.out on (fun m=>by have:=ge_x1.out _ m;have:=lt_x1.out _ m;omega))
 clear f_g1_0 f_g1_1 f_g1_2 f_g1_3
 have f_g1_0:=K_g1.out.at (i:=0) rfl
 have f_g1_1:=K_g1.out.at (i:=1) rfl
 have f_g1_2:=K_g1.out.at (i:=2) rfl
 have f_g1_3:=K_g1.out.at (i:=3) rfl
 clear B17
 have V_x1:=Lib.hid gm
 clear gm on
 clear V_x1
 have kn:¬(ZJy (ZJS ((1:Int)) aRules) aBase<0):=by omega
 go_wp2_with fail
 refine (ZKC A_g0 A_w0 _ c_g0 c_w0 _ L_g0 L_w0 _ rfl (by omega) (ZJB V_g0.out.rep).2.2 (ZJB V_w0.out.rep).2.2).mono ?_
 rintro e w19 ⟨rfl,hb⟩
 have B19:=Lib.hid (B18.out.trans (hb.mono B18.out.size))
 have sz19:=hb.size
 have V_w0:=Lib.hid (V_w0.out.later hb)
 have V_w1:=Lib.hid (V_w1.out.later hb)
 have V_g0:=Lib.hid (V_g0.out.later hb)
 have V_g1:=Lib.hid (V_g1.out.later hb)
 have K_w1:=Lib.hid (K_w1.out.later hb)
 clear f_w1_0 f_w1_1 f_w1_2 f_w1_3
 have f_w1_0:=K_w1.out.at (i:=0) rfl
 have f_w1_1:=K_w1.out.at (i:=1) rfl
 have f_w1_2:=K_w1.out.at (i:=2) rfl
 have f_w1_3:=K_w1.out.at (i:=3) rfl
 have K_g1:=Lib.hid (K_g1.out.later hb)
 clear f_g1_0 f_g1_1 f_g1_2 f_g1_3
 have f_g1_0:=K_g1.out.at (i:=0) rfl
 have f_g1_1:=K_g1.out.at (i:=1) rfl
 have f_g1_2:=K_g1.out.at (i:=2) rfl
 have f_g1_3:=K_g1.out.at (i:=3) rfl
 clear B18
 clear hb
 go_wp2_with fail
 refine (ZKP [.int .i64 R1.beliefs.nodes,.slice g1_A1 R1.beliefs.reasons.length g1_c1,.slice g1_A2 R1.assumed.length g1_c2,.slice g1_A3 R1.bad.length g1_c3] [.int .i64 R1.beliefs.nodes,.slice w1_A1 R1.beliefs.reasons.length w1_c1,.slice w1_A2 R1.assumed.length w1_c2,.slice w1_A3 R1.bad.length w1_c3] R1 L_g1 L_w1 _ V_g1.out.rep V_w1.out.rep).mono ?_
 rintro e w20 ⟨rfl,hb⟩
 have B20:=Lib.hid (B19.out.trans (hb.mono B19.out.size))
 have sz20:=hb.size
 have V_w0:=Lib.hid (V_w0.out.later hb)
 have V_w1:=Lib.hid (V_w1.out.later hb)
 have V_g0:=Lib.hid (V_g0.out.later hb)
 have V_g1:=Lib.hid (V_g1.out.later hb)
 have K_w1:=Lib.hid (K_w1.out.later hb)
 clear f_w1_0 f_w1_1 f_w1_2 f_w1_3
 have f_w1_0:=K_w1.out.at (i:=0) rfl
 have f_w1_1:=K_w1.out.at (i:=1) rfl
 have f_w1_2:=K_w1.out.at (i:=2) rfl
 have f_w1_3:=K_w1.out.at (i:=3) rfl
 have K_g1:=Lib.hid (K_g1.out.later hb)
 clear f_g1_0 f_g1_1 f_g1_2 f_g1_3
 have f_g1_0:=K_g1.out.at (i:=0) rfl
 have f_g1_1:=K_g1.out.at (i:=1) rfl
 have f_g1_2:=K_g1.out.at (i:=2) rfl
 have f_g1_3:=K_g1.out.at (i:=3) rfl
 clear B19
 clear hb
 have nl_g0_20:=ZK7 ((1:Int)) R0
 have nb_g0_20:ZJy ((1:Int)) R0≤4611686018427387904:=by omega
 have ng_g0_20:=ZKs ((1:Int)) R0
 go_wp2_with fail
 refine (ZKY A_g0 _ c_g0 R0 L_g0 _ _ _ rfl (by omega) (by omega) (by omega) V_g0.out).mono ?_
 rintro e w21 ⟨rfl,gm,on⟩
 have B21:=Lib.hid (B20.out.trans (on.below B20.out.size (fun y m=>by have:=ge_g0.out y m;omega)))
 have sz21:=on.size
 have V_w0:=Lib.hid (V_w0.out.only on (fun y m m'=>by have:=lt_w0.out y m;have:=ge_g0.out y m';omega))
 have V_w1:=Lib.hid (V_w1.out.only on (fun y m m'=>by have:=lt_w1.out y m;have:=ge_g0.out y m';omega))
 have V_g1:=Lib.hid (V_g1.out.only on (fun y m m'=>AP_g0.out y m' m))
 have K_w1:=Lib.hid (ZKd K_w1.out on (fun m=>by have:=ge_g0.out _ m;have:=lt_g0.out _ m;omega))
 clear f_w1_0 f_w1_1 f_w1_2 f_w1_3
 have f_w1_0:=K_w1.out.at (i:=0) rfl
 have f_w1_1:=K_w1.out.at (i:=1) rfl
 have f_w1_2:=K_w1.out.at (i:=2) rfl
 have f_w1_3:=K_w1.out.at (i:=3) rfl
 have K_g1:=Lib.hid (ZKd K_g1.out on (fun m=>by have:=ge_g0.out _ m;have:=lt_g0.out _ m;omega))
 clear f_g1_0 f_g1_1 f_g1_2 f_g1_3
 have f_g1_0:=K_g1.out.at (i:=0) rfl
 have f_g1_1:=K_g1.out.at (i:=1) rfl
 have f_g1_2:=K_g1.out.at (i:=2) rfl
 have f_g1_3:=K_g1.out.at (i:=3) rfl
 clear B20
 have V_g0:=Lib.hid gm
 clear gm on
 have nl_g1_21:=ZLJ (ZJy ((1:Int)) R0) R1
 have nb_g1_21:ZJE (ZJy ((1:Int)) R0) R1≤4611686018427387904:=by omega
 have ng_g1_21:=ZLI (ZJy ((1:Int)) R0) R1
 go_wp2_with fail
 refine (ZLC _ R1 L_g1 _ _ _ (by omega) (by omega) V_g1.out).mono ?_
 rintro e w22 ⟨rfl,gm,on⟩
 have B22:=Lib.hid (B21.out.trans (on.below B21.out.size (fun y m=>by have:=ge_g1.out y m;omega)))
 have sz22:=on.size
 have V_w0:=Lib.hid (V_w0.out.only on (fun y m m'=>by have:=lt_w0.out y m;have:=ge_g1.out y m';omega))
 have V_w1:=Lib.hid (V_w1.out.only on (fun y m m'=>by have:=lt_w1.out y m;have:=ge_g1.out y m';omega))
 have V_g0:=Lib.hid (V_g0.out.only on (fun y m m'=>AP_g0.out y m m'))
 have K_w1:=Lib.hid (ZKd K_w1.out on (fun m=>by have:=ge_g1.out _ m;have:=lt_g1.out _ m;omega))
 clear f_w1_0 f_w1_1 f_w1_2 f_w1_3
 have f_w1_0:=K_w1.out.at (i:=0) rfl
 have f_w1_1:=K_w1.out.at (i:=1) rfl
 have f_w1_2:=K_w1.out.at (i:=2) rfl
 have f_w1_3:=K_w1.out.at (i:=3) rfl
 have K_g1:=Lib.hid (ZKd K_g1.out on (fun m=>by have:=ge_g1.out _ m;have:=lt_g1.out _ m;omega))
 clear f_g1_0 f_g1_1 f_g1_2 f_g1_3
 have f_g1_0:=K_g1.out.at (i:=0) rfl
 have f_g1_1:=K_g1.out.at (i:=1) rfl
 have f_g1_2:=K_g1.out.at (i:=2) rfl
 have f_g1_3:=K_g1.out.at (i:=3) rfl
 clear B21
 have V_g1:=Lib.hid gm
 clear gm on
 go_wp2_with fail
 refine (ZKZ A_g0 _ c_g0 R0 L_g0 _ _ rfl (by omega) (by omega) (by omega) (ZJB V_g0.out.rep).2.2).mono ?_
 rintro e w23 ⟨rfl,hb⟩
 have B23:=Lib.hid (B22.out.trans (hb.mono B22.out.size))
 have sz23:=hb.size
 have V_w0:=Lib.hid (V_w0.out.later hb)
 have V_w1:=Lib.hid (V_w1.out.later hb)
 have V_g0:=Lib.hid (V_g0.out.later hb)
 have V_g1:=Lib.hid (V_g1.out.later hb)
 have K_w1:=Lib.hid (K_w1.out.later hb)
 clear f_w1_0 f_w1_1 f_w1_2 f_w1_3
 have f_w1_0:=K_w1.out.at (i:=0) rfl
 have f_w1_1:=K_w1.out.at (i:=1) rfl
 have f_w1_2:=K_w1.out.at (i:=2) rfl
 have f_w1_3:=K_w1.out.at (i:=3) rfl
 have K_g1:=Lib.hid (K_g1.out.later hb)
 clear f_g1_0 f_g1_1 f_g1_2 f_g1_3
 have f_g1_0:=K_g1.out.at (i:=0) rfl
 have f_g1_1:=K_g1.out.at (i:=1) rfl
 have f_g1_2:=K_g1.out.at (i:=2) rfl
 have f_g1_3:=K_g1.out.at (i:=3) rfl
 clear B22
 clear hb
 have qn23:¬(ZJy ((1:Int)) R0<0):=by omega
 have qm23:((ZJy ((1:Int)) R0) != (ZJy ((1:Int)) R0))=false:=by simp
 go_wp2_with fail
 refine (ZK2 _ R1 L_g1 _ _ (by omega) (by omega) V_g1.out.rep).mono ?_
 rintro e w24 ⟨rfl,hb⟩
 have B24:=Lib.hid (B23.out.trans (hb.mono B23.out.size))
 have sz24:=hb.size
 have V_w0:=Lib.hid (V_w0.out.later hb)
 have V_w1:=Lib.hid (V_w1.out.later hb)
 have V_g0:=Lib.hid (V_g0.out.later hb)
 have V_g1:=Lib.hid (V_g1.out.later hb)
 have K_w1:=Lib.hid (K_w1.out.later hb)
 clear f_w1_0 f_w1_1 f_w1_2 f_w1_3
 have f_w1_0:=K_w1.out.at (i:=0) rfl
 have f_w1_1:=K_w1.out.at (i:=1) rfl
 have f_w1_2:=K_w1.out.at (i:=2) rfl
 have f_w1_3:=K_w1.out.at (i:=3) rfl
 have K_g1:=Lib.hid (K_g1.out.later hb)
 clear f_g1_0 f_g1_1 f_g1_2 f_g1_3
 have f_g1_0:=K_g1.out.at (i:=0) rfl
 have f_g1_1:=K_g1.out.at (i:=1) rfl
 have f_g1_2:=K_g1.out.at (i:=2) rfl
 have f_g1_3:=K_g1.out.at (i:=3) rfl
 clear B23
 clear hb
 have qn24:¬(ZJE (ZJy ((1:Int)) R0) R1<0):=by omega
 have qm24:((ZJE (ZJy ((1:Int)) R0) R1) != (ZJE (ZJy ((1:Int)) R0) R1))=false:=by simp
 go_wp2_with fail
 refine (ZKB A_aRules _ c_aRules aRules L_aRules _ rfl cz_aRules (H_aRules.out.below B24.out)).mono ?_
 rintro e w25 ⟨v,rfl,acc⟩
 obtain ⟨A_t24aRules,c_t24aRules,rfl⟩:=acc.shape
 have hb:=acc.below
 obtain ⟨L_t24aRules,gt⟩:=acc.got
 have B25:=Lib.hid (B24.out.trans (hb.mono B24.out.size))
 have sz25:=hb.size
 have V_w0:=Lib.hid (V_w0.out.later hb)
 have V_w1:=Lib.hid (V_w1.out.later hb)
 have V_g0:=Lib.hid (V_g0.out.later hb)
 have V_g1:=Lib.hid (V_g1.out.later hb)
 have K_w1:=Lib.hid (K_w1.out.later hb)
 clear f_w1_0 f_w1_1 f_w1_2 f_w1_3
 have f_w1_0:=K_w1.out.at (i:=0) rfl
 have f_w1_1:=K_w1.out.at (i:=1) rfl
 have f_w1_2:=K_w1.out.at (i:=2) rfl
 have f_w1_3:=K_w1.out.at (i:=3) rfl
 have K_g1:=Lib.hid (K_g1.out.later hb)
 clear f_g1_0 f_g1_1 f_g1_2 f_g1_3
 have f_g1_0:=K_g1.out.at (i:=0) rfl
 have f_g1_1:=K_g1.out.at (i:=1) rfl
 have f_g1_2:=K_g1.out.at (i:=2) rfl
 have f_g1_3:=K_g1.out.at (i:=3) rfl
 clear B24
 have V_t24aRules:=Lib.hid gt
 have ge_t24aRules:=Lib.hid gt.own.ge
 have lt_t24aRules:=Lib.hid gt.lt
 clear gt hb acc
 go_wp2_with fail
 refine (ZKE A_aBase _ c_aBase aBase L_aBase _ rfl cz_aBase (H_aBase.out.below B25.out)).mono ?_
 rintro e w26 ⟨v,rfl,acc⟩
 obtain ⟨A_t25aBase,c_t25aBase,rfl⟩:=acc.shape
 have hb:=acc.below
 obtain ⟨L_t25aBase,gt⟩:=acc.got
 have B26:=Lib.hid (B25.out.trans (hb.mono B25.out.size))
 have sz26:=hb.size
 have V_w0:=Lib.hid (V_w0.out.later hb)
 have V_w1:=Lib.hid (V_w1.out.later hb)
 have V_g0:=Lib.hid (V_g0.out.later hb)
 have V_g1:=Lib.hid (V_g1.out.later hb)
 have V_t24aRules:=Lib.hid (V_t24aRules.out.later hb)
 have K_w1:=Lib.hid (K_w1.out.later hb)
 clear f_w1_0 f_w1_1 f_w1_2 f_w1_3
 have f_w1_0:=K_w1.out.at (i:=0) rfl
 have f_w1_1:=K_w1.out.at (i:=1) rfl
 have f_w1_2:=K_w1.out.at (i:=2) rfl
 have f_w1_3:=K_w1.out.at (i:=3) rfl
 have K_g1:=Lib.hid (K_g1.out.later hb)
 clear f_g1_0 f_g1_1 f_g1_2 f_g1_3
 have f_g1_0:=K_g1.out.at (i:=0) rfl
 have f_g1_1:=K_g1.out.at (i:=1) rfl
 have f_g1_2:=K_g1.out.at (i:=2) rfl
 have f_g1_3:=K_g1.out.at (i:=3) rfl
 clear B25
 have V_t25aBase:=Lib.hid gt
 have ge_t25aBase:=Lib.hid gt.own.ge
 have lt_t25aBase:=Lib.hid gt.lt
 clear gt hb acc
 go_wp2_with fail
 refine (ZK9 hi0 _ (ZLe hJ0 HJ.out B26.out) A_t24aRules c_t24aRules L_t24aRules V_t24aRules.out.rep A_t25aBase c_t25aBase L_t25aBase V_t25aBase.out.rep (by omega)).mono ?_
 rintro e w27 ⟨A_h0,c_h0,cs,L_h0,L_h1,rfl,gt,gt2,ap,hb⟩
 obtain ⟨h1_A1,h1_c1,h1_A2,h1_c2,h1_A3,h1_c3,rfl⟩:=ZKI gt2.rep
 have AP_h0:=Lib.hid ap
 have B27:=Lib.hid (B26.out.trans (hb.mono B26.out.size))
 have sz27:=hb.size
 have V_w0:=Lib.hid (V_w0.out.later hb)
 have V_w1:=Lib.hid (V_w1.out.later hb)
 have V_g0:=Lib.hid (V_g0.out.later hb)
 have V_g1:=Lib.hid (V_g1.out.later hb)
 have V_t24aRules:=Lib.hid (V_t24aRules.out.later hb)
 have V_t25aBase:=Lib.hid (V_t25aBase.out.later hb)
 have K_w1:=Lib.hid (K_w1.out.later hb)
 clear f_w1_0 f_w1_1 f_w1_2 f_w1_3
 have f_w1_0:=K_w1.out.at (i:=0) rfl
 have f_w1_1:=K_w1.out.at (i:=1) rfl
 have f_w1_2:=K_w1.out.at (i:=2) rfl
 have f_w1_3:=K_w1.out.at (i:=3) rfl
 have K_g1:=Lib.hid (K_g1.out.later hb)
 clear f_g1_0 f_g1_1 f_g1_2 f_g1_3
 have f_g1_0:=K_g1.out.at (i:=0) rfl
 have f_g1_1:=K_g1.out.at (i:=1) rfl
 have f_g1_2:=K_g1.out.at (i:=2) rfl
 have f_g1_3:=K_g1.out.at (i:=3) rfl
 clear B26
 have V_h0:=Lib.hid gt
 have ge_h0:=Lib.hid gt.own.ge
 have lt_h0:=Lib.hid gt.lt
 have V_h1:=Lib.hid gt2
 have ge_h1:=Lib.hid gt2.own.ge
 have lt_h1:=Lib.hid gt2.lt
 clear gt gt2 hb ap
 have hb:=(Below.refl w27.heap.size w27).alloc (Nat.le_refl _) (.cells #[.int .i64 R1.beliefs.nodes,.slice h1_A1 R1.beliefs.reasons.length h1_c1,.slice h1_A2 R1.assumed.length h1_c2,.slice h1_A3 R1.bad.length h1_c3] 67)
 have B28:=Lib.hid (B27.out.trans (hb.mono B27.out.size))
 have sz28:=hb.size
 have V_w0:=Lib.hid (V_w0.out.later hb)
 have V_w1:=Lib.hid (V_w1.out.later hb)
 have V_g0:=Lib.hid (V_g0.out.later hb)
 have V_g1:=Lib.hid (V_g1.out.later hb)
 have V_t24aRules:=Lib.hid (V_t24aRules.out.later hb)
 have V_t25aBase:=Lib.hid (V_t25aBase.out.later hb)
 have V_h0:=Lib.hid (V_h0.out.later hb)
 have V_h1:=Lib.hid (V_h1.out.later hb)
 have K_w1:=Lib.hid (K_w1.out.later hb)
 clear f_w1_0 f_w1_1 f_w1_2 f_w1_3
 have f_w1_0:=K_w1.out.at (i:=0) rfl
 have f_w1_1:=K_w1.out.at (i:=1) rfl
 have f_w1_2:=K_w1.out.at (i:=2) rfl
 have f_w1_3:=K_w1.out.at (i:=3) rfl
 have K_g1:=Lib.hid (K_g1.out.later hb)
 clear f_g1_0 f_g1_1 f_g1_2 f_g1_3
 have f_g1_0:=K_g1.out.at (i:=0) rfl
 have f_g1_1:=K_g1.out.at (i:=1) rfl
 have f_g1_2:=K_g1.out.at (i:=2) rfl
 have f_g1_3:=K_g1.out.at (i:=3) rfl
 clear B27
 have szb_h1:w27.heap.size+1≤(w27.alloc (.cells #[.int .i64 R1.beliefs.nodes,.slice h1_A1 R1.beliefs.reasons.length h1_c1,.slice h1_A2 R1.assumed.length h1_c2,.slice h1_A3 R1.bad.length h1_c3] 67)).heap.size:=Nat.le_of_eq (by simp only [World.alloc,Array.size_push])
 have K_h1:Hid (Blk (w27.alloc (.cells #[.int .i64 R1.beliefs.nodes,.slice h1_A1 R1.beliefs.reasons.length h1_c1,.slice h1_A2 R1.assumed.length h1_c2,.slice h1_A3 R1.bad.length h1_c3] 67)) w27.heap.size 67 #[.int .i64 R1.beliefs.nodes,.slice h1_A1 R1.beliefs.reasons.length h1_c1,.slice h1_A2 R1.assumed.length h1_c2,.slice h1_A3 R1.bad.length h1_c3]):=Blk.new _ _ _
 have f_h1_0:=K_h1.out.at (i:=0) rfl
 have f_h1_1:=K_h1.out.at (i:=1) rfl
 have f_h1_2:=K_h1.out.at (i:=2) rfl
 have f_h1_3:=K_h1.out.at (i:=3) rfl
 clear hb
 clear V_t24aRules
 clear V_t25aBase
 go_wp2_with fail
 refine (ZKC A_h0 A_w0 _ c_h0 c_w0 _ L_h0 L_w0 _ rfl (by omega) (ZJB V_h0.out.rep).2.2 (ZJB V_w0.out.rep).2.2).mono ?_
 rintro e w29 ⟨rfl,hb⟩
 have B29:=Lib.hid (B28.out.trans (hb.mono B28.out.size))
 have sz29:=hb.size
 have V_w0:=Lib.hid (V_w0.out.later hb)
 have V_w1:=Lib.hid (V_w1.out.later hb)
 have V_g0:=Lib.hid (V_g0.out.later hb)
 have V_g1:=Lib.hid (V_g1.out.later hb)
 have V_h0:=Lib.hid (V_h0.out.later hb)
 have V_h1:=Lib.hid (V_h1.out.later hb)
 have K_w1:=Lib.hid (K_w1.out.later hb)
 clear f_w1_0 f_w1_1 f_w1_2 f_w1_3
 have f_w1_0:=K_w1.out.at (i:=0) rfl
 have f_w1_1:=K_w1.out.at (i:=1) rfl
 have f_w1_2:=K_w1.out.at (i:=2) rfl
 have f_w1_3:=K_w1.out.at (i:=3) rfl
 have K_g1:=Lib.hid (K_g1.out.later hb)
 clear f_g1_0 f_g1_1 f_g1_2 f_g1_3
 have f_g1_0:=K_g1.out.at (i:=0) rfl
 have f_g1_1:=K_g1.out.at (i:=1) rfl
 have f_g1_2:=K_g1.out.at (i:=2) rfl
 have f_g1_3:=K_g1.out.at (i:=3) rfl
 have K_h1:=Lib.hid (K_h1.out.later hb)
 clear f_h1_0 f_h1_1 f_h1_2 f_h1_3
 have f_h1_0:=K_h1.out.at (i:=0) rfl
 have f_h1_1:=K_h1.out.at (i:=1) rfl
 have f_h1_2:=K_h1.out.at (i:=2) rfl
 have f_h1_3:=K_h1.out.at (i:=3) rfl
 clear B28
 clear hb
 go_wp2_with fail
 refine (ZKP [.int .i64 R1.beliefs.nodes,.slice h1_A1 R1.beliefs.reasons.length h1_c1,.slice h1_A2 R1.assumed.length h1_c2,.slice h1_A3 R1.bad.length h1_c3] [.int .i64 R1.beliefs.nodes,.slice w1_A1 R1.beliefs.reasons.length w1_c1,.slice w1_A2 R1.assumed.length w1_c2,.slice w1_A3 R1.bad.length w1_c3] R1 L_h1 L_w1 _ V_h1.out.rep V_w1.out.rep).mono ?_
 rintro e w30 ⟨rfl,hb⟩
 have B30:=Lib.hid (B29.out.trans (hb.mono B29.out.size))
 have sz30:=hb.size
 have V_w0:=Lib.hid (V_w0.out.later hb)
 have V_w1:=Lib.hid (V_w1.out.later hb)
 have V_g0:=Lib.hid (V_g0.out.later hb)
 have V_g1:=Lib.hid (V_g1.out.later hb)
 have V_h0:=Lib.hid (V_h0.out.later hb)
 have V_h1:=Lib.hid (V_h1.out.later hb)
 have K_w1:=Lib.hid (K_w1.out.later hb)
 clear f_w1_0 f_w1_1 f_w1_2 f_w1_3
 have f_w1_0:=K_w1.out.at (i:=0) rfl
 have f_w1_1:=K_w1.out.at (i:=1) rfl
 have f_w1_2:=K_w1.out.at (i:=2) rfl
 have f_w1_3:=K_w1.out.at (i:=3) rfl
 have K_g1:=Lib.hid (K_g1.out.later hb)
 clear f_g1_0 f_g1_1 f_g1_2 f_g1_3
 have f_g1_0:=K_g1.out.at (i:=0) rfl
 have f_g1_1:=K_g1.out.at (i:=1) rfl
 have f_g1_2:=K_g1.out.at (i:=2) rfl
 have f_g1_3:=K_g1.out.at (i:=3) rfl
 have K_h1:=Lib.hid (K_h1.out.later hb)
 clear f_h1_0 f_h1_1 f_h1_2 f_h1_3
 have f_h1_0:=K_h1.out.at (i:=0) rfl
 have f_h1_1:=K_h1.out.at (i:=1) rfl
 have f_h1_2:=K_h1.out.at (i:=2) rfl
 have f_h1_3:=K_h1.out.at (i:=3) rfl
 clear B29
 clear hb
 go_wp2_with fail
 refine (ZKZ A_g0 _ c_g0 R0 L_g0 _ _ rfl (by omega) (by omega) (by omega) (ZJB V_g0.out.rep).2.2).mono ?_
 rintro e w31 ⟨rfl,hb⟩
 have B31:=Lib.hid (B30.out.trans (hb.mono B30.out.size))
 have sz31:=hb.size
 have V_w0:=Lib.hid (V_w0.out.later hb)
 have V_w1:=Lib.hid (V_w1.out.later hb)
 have V_g0:=Lib.hid (V_g0.out.later hb)
 have V_g1:=Lib.hid (V_g1.out.later hb)
 have V_h0:=Lib.hid (V_h0.out.later hb)
 have V_h1:=Lib.hid (V_h1.out.later hb)
 have K_w1:=Lib.hid (K_w1.out.later hb)
 clear f_w1_0 f_w1_1 f_w1_2 f_w1_3
 have f_w1_0:=K_w1.out.at (i:=0) rfl
 have f_w1_1:=K_w1.out.at (i:=1) rfl
 have f_w1_2:=K_w1.out.at (i:=2) rfl
 have f_w1_3:=K_w1.out.at (i:=3) rfl
 have K_g1:=Lib.hid (K_g1.out.later hb)
 clear f_g1_0 f_g1_1 f_g1_2 f_g1_3
 have f_g1_0:=K_g1.out.at (i:=0) rfl
 have f_g1_1:=K_g1.out.at (i:=1) rfl
 have f_g1_2:=K_g1.out.at (i:=2) rfl
 have f_g1_3:=K_g1.out.at (i:=3) rfl
 have K_h1:=Lib.hid (K_h1.out.later hb)
 clear f_h1_0 f_h1_1 f_h1_2 f_h1_3
 have f_h1_0:=K_h1.out.at (i:=0) rfl
 have f_h1_1:=K_h1.out.at (i:=1) rfl
 have f_h1_2:=K_h1.out.at (i:=2) rfl
 have f_h1_3:=K_h1.out.at (i:=3) rfl
 clear B30
 clear hb
 have qn31:¬(ZJy ((1:Int)) R0<0):=by omega
 have qm31:((ZJy ((1:Int)) R0) != (ZJy ((1:Int)) R0))=false:=by simp
 go_wp2_with fail
 refine (ZK2 _ R1 L_g1 _ _ (by omega) (by omega) V_g1.out.rep).mono ?_
 rintro e w32 ⟨rfl,hb⟩
 have B32:=Lib.hid (B31.out.trans (hb.mono B31.out.size))
 have sz32:=hb.size
 have V_w0:=Lib.hid (V_w0.out.later hb)
 have V_w1:=Lib.hid (V_w1.out.later hb)
 have V_g0:=Lib.hid (V_g0.out.later hb)
 have V_g1:=Lib.hid (V_g1.out.later hb)
 have V_h0:=Lib.hid (V_h0.out.later hb)
 have V_h1:=Lib.hid (V_h1.out.later hb)
 have K_w1:=Lib.hid (K_w1.out.later hb)
 clear f_w1_0 f_w1_1 f_w1_2 f_w1_3
 have f_w1_0:=K_w1.out.at (i:=0) rfl
 have f_w1_1:=K_w1.out.at (i:=1) rfl
 have f_w1_2:=K_w1.out.at (i:=2) rfl
 have f_w1_3:=K_w1.out.at (i:=3) rfl
 have K_g1:=Lib.hid (K_g1.out.later hb)
 clear f_g1_0 f_g1_1 f_g1_2 f_g1_3
 have f_g1_0:=K_g1.out.at (i:=0) rfl
 have f_g1_1:=K_g1.out.at (i:=1) rfl
 have f_g1_2:=K_g1.out.at (i:=2) rfl
 have f_g1_3:=K_g1.out.at (i:=3) rfl
 have K_h1:=Lib.hid (K_h1.out.later hb)
 clear f_h1_0 f_h1_1 f_h1_2 f_h1_3
 have f_h1_0:=K_h1.out.at (i:=0) rfl
 have f_h1_1:=K_h1.out.at (i:=1) rfl
 have f_h1_2:=K_h1.out.at (i:=2) rfl
 have f_h1_3:=K_h1.out.at (i:=3) rfl
 clear B31
 clear hb
 have qn32:¬(ZJE (ZJy ((1:Int)) R0) R1<0):=by omega
 have qm32:((ZJE (ZJy ((1:Int)) R0) R1) != (ZJE (ZJy ((1:Int)) R0) R1))=false:=by simp
 go_wp2_with fail
 go_ret
 exact ⟨rfl,B32.out⟩
end Go.Proofs.YtfehfkfdfmcgfaaGreatDoor
namespace Go.Proofs.YtfehfkfdfmcgfaaGreatDoor
open Go.RowKit
set_option maxRecDepth 100000 in
theorem ZMC:ZvE Tryz.prog 86 ZJZ ZMm:=by
 intro H enc w base spare held fuel cs x h
 obtain ⟨xs,n,_,_,hlen,hxl,hf⟩:=DataW.trod_struct Tryz.underlying86 h
 have hl:cs.length=2:=hlen.trans (by kernel_rfl)
 have hx:xs.length=2:=hxl
 match cs,hl with
 | [a0,a1],_=>
  have f0:DataW.trod enc Tryz.prog w base spare held n 9 [a0]=some (xs[0]'(by omega)):=by
   have this:DataW.trod enc Tryz.prog w base spare held n 9 (List.take (Tryz.prog.cellsOf 9) (List.drop 0 [a0,a1]))=_:=(hf 0 _ rfl).trans (List.getElem?_eq_getElem (show 0<xs.length by omega))
   rw [show Tryz.prog.cellsOf 9=1 by kernel_rfl] at this
   exact this
  have f1:DataW.trod enc Tryz.prog w base spare held n 43 [a1]=some (xs[1]'(by omega)):=by
   have this:DataW.trod enc Tryz.prog w base spare held n 43 (List.take (Tryz.prog.cellsOf 43) (List.drop 1 [a0,a1]))=_:=(hf 1 _ rfl).trans (List.getElem?_eq_getElem (show 1<xs.length by omega))
   rw [show Tryz.prog.cellsOf 43=1 by kernel_rfl] at this
   exact this
  obtain ⟨d0,M0,r0,w0⟩:=(ZJ6 Tryz.underlying9) f0
  obtain ⟨e0,_,t0⟩:=r0
  cases e0
  obtain ⟨d1,M1,r1,w1⟩:=(ZrJ Tryz.underlying43 (by kernel_rfl) (ZJ6 Tryz.underlying9)) f1
  obtain ⟨A1,c1,e1,n1,m1,s1⟩:=r1
  cases e1
  exact ⟨⟨d0,d1⟩,_,⟨A1,c1,M1,rfl,rfl,t0,n1,m1,s1⟩,⟨w0,w1⟩⟩
set_option maxRecDepth 100000 in
theorem ZLc:ZvE Tryz.prog 226 ZKv ZLf:=by
 intro H enc w base spare held fuel cs x h
 obtain ⟨xs,n,_,_,hlen,hxl,hf⟩:=DataW.trod_struct Tryz.underlying226 h
 have hl:cs.length=2:=hlen.trans (by kernel_rfl)
 have hx:xs.length=2:=hxl
 match cs,hl with
 | [a0,a1],_=>
  have f0:DataW.trod enc Tryz.prog w base spare held n 9 [a0]=some (xs[0]'(by omega)):=by
   have this:DataW.trod enc Tryz.prog w base spare held n 9 (List.take (Tryz.prog.cellsOf 9) (List.drop 0 [a0,a1]))=_:=(hf 0 _ rfl).trans (List.getElem?_eq_getElem (show 0<xs.length by omega))
   rw [show Tryz.prog.cellsOf 9=1 by kernel_rfl] at this
   exact this
  have f1:DataW.trod enc Tryz.prog w base spare held n 43 [a1]=some (xs[1]'(by omega)):=by
   have this:DataW.trod enc Tryz.prog w base spare held n 43 (List.take (Tryz.prog.cellsOf 43) (List.drop 1 [a0,a1]))=_:=(hf 1 _ rfl).trans (List.getElem?_eq_getElem (show 1<xs.length by omega))
   rw [show Tryz.prog.cellsOf 43=1 by kernel_rfl] at this
   exact this
  obtain ⟨d0,M0,r0,w0⟩:=(ZJ6 Tryz.underlying9) f0
  obtain ⟨e0,_,t0⟩:=r0
  cases e0
  obtain ⟨d1,M1,r1,w1⟩:=(ZrJ Tryz.underlying43 (by kernel_rfl) (ZJ6 Tryz.underlying9)) f1
  obtain ⟨A1,c1,e1,n1,m1,s1⟩:=r1
  cases e1
  exact ⟨⟨d0,d1⟩,_,⟨A1,c1,M1,rfl,rfl,t0,n1,m1,s1⟩,⟨w0,w1⟩⟩
set_option maxRecDepth 100000 in
theorem ZMB:ZvE Tryz.prog 228 ZKb ZMD:=by
 intro H enc w base spare held fuel cs x h
 obtain ⟨xs,n,_,_,hlen,hxl,hf⟩:=DataW.trod_struct Tryz.underlying228 h
 have hl:cs.length=5:=hlen.trans (by kernel_rfl)
 have hx:xs.length=4:=hxl
 match cs,hl with
 | [a0,a1,a2,a3,a4],_=>
  have f0:DataW.trod enc Tryz.prog w base spare held n 3 [a0]=some (xs[0]'(by omega)):=by
   have this:DataW.trod enc Tryz.prog w base spare held n 3 (List.take (Tryz.prog.cellsOf 3) (List.drop 0 [a0,a1,a2,a3,a4]))=_:=(hf 0 _ rfl).trans (List.getElem?_eq_getElem (show 0<xs.length by omega))
   rw [show Tryz.prog.cellsOf 3=1 by kernel_rfl] at this
   exact this
  have f1:DataW.trod enc Tryz.prog w base spare held n 226 [a1,a2]=some (xs[1]'(by omega)):=by
   have this:DataW.trod enc Tryz.prog w base spare held n 226 (List.take (Tryz.prog.cellsOf 226) (List.drop 1 [a0,a1,a2,a3,a4]))=_:=(hf 1 _ rfl).trans (List.getElem?_eq_getElem (show 1<xs.length by omega))
   rw [show Tryz.prog.cellsOf 226=2 by kernel_rfl] at this
   exact this
  have f2:DataW.trod enc Tryz.prog w base spare held n 9 [a3]=some (xs[2]'(by omega)):=by
   have this:DataW.trod enc Tryz.prog w base spare held n 9 (List.take (Tryz.prog.cellsOf 9) (List.drop 3 [a0,a1,a2,a3,a4]))=_:=(hf 2 _ rfl).trans (List.getElem?_eq_getElem (show 2<xs.length by omega))
   rw [show Tryz.prog.cellsOf 9=1 by kernel_rfl] at this
   exact this
  have f3:DataW.trod enc Tryz.prog w base spare held n 9 [a4]=some (xs[3]'(by omega)):=by
   have this:DataW.trod enc Tryz.prog w base spare held n 9 (List.take (Tryz.prog.cellsOf 9) (List.drop 4 [a0,a1,a2,a3,a4]))=_:=(hf 3 _ rfl).trans (List.getElem?_eq_getElem (show 3<xs.length by omega))
   rw [show Tryz.prog.cellsOf 9=1 by kernel_rfl] at this
   exact this
  obtain ⟨d0,M0,r0,w0⟩:=(ZLd Tryz.underlying3) f0
  obtain ⟨e0,_⟩:=r0
  cases e0
  obtain ⟨d1,M1,r1,w1⟩:=ZLc f1
  obtain ⟨A1,c1,N1,e1,g1,t0,n1,m1,s1⟩:=r1
  cases e1
  subst g1
  obtain ⟨d2,M2,r2,w2⟩:=(ZJ6 Tryz.underlying9) f2
  obtain ⟨e2,_,t1⟩:=r2
  cases e2
  obtain ⟨d3,M3,r3,w3⟩:=(ZJ6 Tryz.underlying9) f3
  obtain ⟨e3,_,t2⟩:=r3
  cases e3
  exact ⟨⟨d0,d1,d2,d3⟩,_,⟨A1,c1,M1,rfl,rfl,t0,t1,t2,n1,m1,s1⟩,⟨w0,w1,w2,w3⟩⟩
set_option maxRecDepth 100000 in
theorem ZL7:ZvE Tryz.prog 231 ZJM ZL8:=by
 intro H enc w base spare held fuel cs x h
 obtain ⟨xs,n,_,_,hlen,hxl,hf⟩:=DataW.trod_struct Tryz.underlying231 h
 have hl:cs.length=3:=hlen.trans (by kernel_rfl)
 have hx:xs.length=2:=hxl
 match cs,hl with
 | [a0,a1,a2],_=>
  have f0:DataW.trod enc Tryz.prog w base spare held n 3 [a0]=some (xs[0]'(by omega)):=by
   have this:DataW.trod enc Tryz.prog w base spare held n 3 (List.take (Tryz.prog.cellsOf 3) (List.drop 0 [a0,a1,a2]))=_:=(hf 0 _ rfl).trans (List.getElem?_eq_getElem (show 0<xs.length by omega))
   rw [show Tryz.prog.cellsOf 3=1 by kernel_rfl] at this
   exact this
  have f1:DataW.trod enc Tryz.prog w base spare held n 226 [a1,a2]=some (xs[1]'(by omega)):=by
   have this:DataW.trod enc Tryz.prog w base spare held n 226 (List.take (Tryz.prog.cellsOf 226) (List.drop 1 [a0,a1,a2]))=_:=(hf 1 _ rfl).trans (List.getElem?_eq_getElem (show 1<xs.length by omega))
   rw [show Tryz.prog.cellsOf 226=2 by kernel_rfl] at this
   exact this
  obtain ⟨d0,M0,r0,w0⟩:=(ZLd Tryz.underlying3) f0
  obtain ⟨e0,_⟩:=r0
  cases e0
  obtain ⟨d1,M1,r1,w1⟩:=ZLc f1
  obtain ⟨A1,c1,N1,e1,g1,t0,n1,m1,s1⟩:=r1
  cases e1
  subst g1
  exact ⟨⟨d0,d1⟩,_,⟨A1,c1,M1,rfl,rfl,t0,n1,m1,s1⟩,⟨w0,w1⟩⟩
set_option maxRecDepth 100000 in
theorem ZMA:ZvE Tryz.prog 126 ZKa ZMv:=by
 intro H enc w base spare held fuel cs x h
 obtain ⟨xs,n,_,_,hlen,hxl,hf⟩:=DataW.trod_struct Tryz.underlying126 h
 have hl:cs.length=4:=hlen.trans (by kernel_rfl)
 have hx:xs.length=4:=hxl
 match cs,hl with
 | [a0,a1,a2,a3],_=>
  have f0:DataW.trod enc Tryz.prog w base spare held n 9 [a0]=some (xs[0]'(by omega)):=by
   have this:DataW.trod enc Tryz.prog w base spare held n 9 (List.take (Tryz.prog.cellsOf 9) (List.drop 0 [a0,a1,a2,a3]))=_:=(hf 0 _ rfl).trans (List.getElem?_eq_getElem (show 0<xs.length by omega))
   rw [show Tryz.prog.cellsOf 9=1 by kernel_rfl] at this
   exact this
  have f1:DataW.trod enc Tryz.prog w base spare held n 3 [a1]=some (xs[1]'(by omega)):=by
   have this:DataW.trod enc Tryz.prog w base spare held n 3 (List.take (Tryz.prog.cellsOf 3) (List.drop 1 [a0,a1,a2,a3]))=_:=(hf 1 _ rfl).trans (List.getElem?_eq_getElem (show 1<xs.length by omega))
   rw [show Tryz.prog.cellsOf 3=1 by kernel_rfl] at this
   exact this
  have f2:DataW.trod enc Tryz.prog w base spare held n 123 [a2]=some (xs[2]'(by omega)):=by
   have this:DataW.trod enc Tryz.prog w base spare held n 123 (List.take (Tryz.prog.cellsOf 123) (List.drop 2 [a0,a1,a2,a3]))=_:=(hf 2 _ rfl).trans (List.getElem?_eq_getElem (show 2<xs.length by omega))
   rw [show Tryz.prog.cellsOf 123=1 by kernel_rfl] at this
   exact this
  have f3:DataW.trod enc Tryz.prog w base spare held n 124 [a3]=some (xs[3]'(by omega)):=by
   have this:DataW.trod enc Tryz.prog w base spare held n 124 (List.take (Tryz.prog.cellsOf 124) (List.drop 3 [a0,a1,a2,a3]))=_:=(hf 3 _ rfl).trans (List.getElem?_eq_getElem (show 3<xs.length by omega))
   rw [show Tryz.prog.cellsOf 124=1 by kernel_rfl] at this
   exact this
  obtain ⟨d0,M0,r0,w0⟩:=(ZJ6 Tryz.underlying9) f0
  obtain ⟨e0,_,t0⟩:=r0
  cases e0
  obtain ⟨d1,M1,r1,w1⟩:=(ZLd Tryz.underlying3) f1
  obtain ⟨e1,_⟩:=r1
  cases e1
  obtain ⟨d2,M2,r2,w2⟩:=(ZrJ Tryz.underlying123 (by kernel_rfl) ZMB) f2
  obtain ⟨A1,c1,e2,n1,m1,s1⟩:=r2
  cases e2
  obtain ⟨d3,M3,r3,w3⟩:=(ZrJ Tryz.underlying124 (by kernel_rfl) ZL7) f3
  obtain ⟨A2,c2,e3,n2,m2,s2⟩:=r3
  cases e3
  exact ⟨⟨d0,d1,d2,d3⟩,_,⟨A1,c1,M2,A2,c2,M3,rfl,rfl,t0,n1,m1,s1,n2,m2,s2⟩,⟨w0,w1,w2,w3⟩⟩
end Go.Proofs.YtfehfkfdfmcgfaaGreatDoor
