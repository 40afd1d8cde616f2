/- Texts of this proof, joined: Eq, MText, Mk, Mark, Held, Open, ExactModelOf, Opens. What each holds is said at its theorems. -/
import Derived.Test.YtojnhepgnbhaaaaGreatDoorProg
import Derived.Test.YtojnhepgnbhaaaaGreatDoorModelOfQ1
import Derived.Outline
import Derived.WalkSpells
import Derived.StillTailTactics
import Derived.WalkLawsBesides
import Derived.Deep.RegionHeld3
import Derived.Deep.Slices
import Derived.ChangeArms
import Derived.ProofKit
import Derived.Test.YtojnhepgnbhaaaaGreatDoorModelOfQ3
import Derived.Test.YtojnhepgnbhaaaaGreatDoorModelOfQ7
set_option linter.unusedSimpArgs false
set_option linter.unusedVariables false
namespace Go.Proofs.YtojnhepgnbhaaaaGreatDoor
open Go.RowKit
def XJ (w:World) (e:Ending) (w':World):Prop:=e=.returned (.bool true)∧Below w.heap.size w w'
set_option maxHeartbeats 1600000 in
theorem Zgw (A B:Option Addr) (n c d:Nat) (ds:List ByteArray) (L M:List Nat) (w:World) (hn:n=ds.length) (hm:n≤9223372036854775807) (h1:Sli Zbm w A ds L) (h2:Sli Zbm w B ds M):
  Calls Tryz.prog 65 #[.slice A n c,.slice B n d] w (XJ w):=by
 have H1:=Lib.hid h1
 have H2:=Lib.hid h2
 have HN:=Lib.hid hn
 clear h1 h2 hn
 have hne:((n:Int) != n)=false:=by simp
 go_enter Tryz.func65,Tryz.ntmps65
 go_wp2
 go_loopw [5] (fun i wr=>∃(k:Nat),k≤n∧i=.int .i64 k∧Hid (∃q,wr=w.drewN q)) (fun i _=>n - (intOf i).toNat)
 case atStart=>exact ⟨0,Nat.zero_le _,rfl,0,rfl⟩
 case round=>
  obtain ⟨k,hk,rfl,hq⟩:=hrel
  obtain ⟨q,rfl⟩:=hq.out
  by_cases hlt:k<n
  ·have hkl:k<ds.length:=by have:=HN.out;omega
   obtain ⟨b,off,cs,Lk,rfl,_,_,hrep,hc⟩:=H1.out.at_ hkl
   obtain ⟨b',off',cs',Mk,rfl,_,_,hrep',hc'⟩:=H2.out.at_ hkl
   generalize ds[k]=x at *
   obtain ⟨rfl,_,_⟩:=hrep
   obtain ⟨rfl,_,_⟩:=hrep'
   have q0:=hc 0 _ rfl
   have p0:=hc' 0 _ rfl
   simp only [show Zbm.size=1 from rfl,Nat.mul_one,Nat.add_zero] at q0 p0
   clear hc hc'
   have k0:(0:Int)≤k:=by omega
   have k1:(k:Int)<n:=by omega
   go_wp2_with fail
   go_quiet (fail)
   go_wp2_with fail
   go_roundw
   case rel=>exact ⟨k+1,by omega,by go_num,by first | exact ZqK _ _ _ | exact Zpj _ _⟩
   case measure=>simp [intOf];omega
  ·go_wp2
   go_ret
   exact ⟨rfl,ZfN _ _ _⟩
set_option maxHeartbeats 1600000 in
theorem ZpY (cs ds:List Value) (x:Zc) (L M:List Nat) (w:World) (h1:Y4.rep w cs x L) (h2:Y4.rep w ds x M):
  Calls Tryz.prog 35 #[.agg cs.toArray,.agg ds.toArray] w (XJ w):=by
 obtain ⟨aA1,ac1,aL1,rfl,_ahL,at0,an1,am1,as1⟩:=h1
 obtain ⟨bA1,bc1,bL1,rfl,_bhL,bt0,bn1,bm1,bs1⟩:=h2
 unfold maxLen at am1 bm1
 have SA1:=Lib.hid as1
 have SB1:=Lib.hid bs1
 clear as1 bs1
 go_enter Tryz.func35,Tryz.ntmps35
 go_wp2_with fail
 refine (Zgw aA1 bA1 _ ac1 bc1 x.args aL1 bL1 _ rfl (by omega) (SA1.out.below (by repeat (first | refine Below.setCell ?_ (by dsimp only;omega) _ | refine Below.alloc ?_ (by first | (simp;done) | (simp;omega) | omega) _ | exact Below.refl _ _))) (SB1.out.below (by repeat (first | refine Below.setCell ?_ (by dsimp only;omega) _ | refine Below.alloc ?_ (by first | (simp;done) | (simp;omega) | omega) _ | exact Below.refl _ _)))).mono ?_
 rintro e w1 ⟨rfl,hb1⟩
 have B1:Hid (Below w.heap.size w w1):=Below.trans (by repeat (first | refine Below.setCell ?_ (by dsimp only;omega) _ | refine Below.alloc ?_ (by first | (simp;done) | (simp;omega) | omega) _ | exact Below.refl _ _)) (hb1.mono (by first | (simp;done) | (simp;omega) | omega))
 have K0:Hid (Blk w1 w.heap.size 57 #[.string x.rel,.slice aA1 x.args.length ac1]):=Blk.later (Blk.alloc (Blk.new _ _ _) _) hb1
 have K1:Hid (Blk w1 (w.heap.size+1) 57 #[.string x.rel,.slice bA1 x.args.length bc1]):=Blk.later (Blk.new_at (by simp)) hb1
 have f0:=K0.out.at (i:=0) rfl
 have r0:=K1.out.at (i:=0) rfl
 have f1:=K0.out.at (i:=1) rfl
 have r1:=K1.out.at (i:=1) rfl
 clear hb1
 have hz1:=B1.out.size
 go_wp2_with fail
 go_ret
 exact ⟨rfl,(by repeat (first | refine Below.setCell ?_ (by dsimp only;omega) _ | refine Below.alloc ?_ (by first | (simp;done) | (simp;omega) | omega) _ | exact B1.out))⟩
set_option maxRecDepth 100000 in
set_option maxHeartbeats 1600000 in
theorem ZdB (A B:Option Addr) (n c d:Nat) (ds:List Zc) (L M:List Nat) (w:World) (hn:n=ds.length) (hm:n≤9223372036854775807) (h1:Sli Y4 w A ds L) (h2:Sli Y4 w B ds M):
  Calls Tryz.prog 15 #[.slice A n c,.slice B n d] w (XJ w):=by
 have H1:=Lib.hid h1
 have H2:=Lib.hid h2
 have HN:=Lib.hid hn
 clear h1 h2 hn
 have hne:((n:Int) != n)=false:=by simp
 go_enter Tryz.func15,Tryz.ntmps15
 go_wp2
 go_loopw [5] (fun i wr=>∃(k:Nat),k≤n∧i=.int .i64 k∧Hid (Below w.heap.size w wr)) (fun i _=>n - (intOf i).toNat)
 case atStart=>exact ⟨0,Nat.zero_le _,rfl,Below.refl _ _⟩
 case round=>
  obtain ⟨k,hk,rfl,HB⟩:=hrel
  by_cases hlt:k<n
  ·have hkl:k<ds.length:=by have:=HN.out;omega
   obtain ⟨b,off,cs,Lk,rfl,hbL,hLk,hrep,hc⟩:=H1.out.at_ hkl
   obtain ⟨b',off',cs',Mk,rfl,hbM,hMk,hrep',hc'⟩:=H2.out.at_ hkl
   have hbl:b<w.heap.size:=H1.out.lt b hbL
   have hbl':b'<w.heap.size:=H2.out.lt b' hbM
   have HR:=Lib.hid (Y4.keep hrep (ZN HB.out (fun y m=>H1.out.lt y (hLk y m))))
   have HR':=Lib.hid (Y4.keep hrep' (ZN HB.out (fun y m=>H2.out.lt y (hMk y m))))
   generalize ds[k]=x at *
   obtain ⟨aA1,ac1,rfl⟩:=Zcc hrep
   obtain ⟨bA1,bc1,rfl⟩:=Zcc hrep'
   have q0:wr.cell? ⟨b,off+k * 2,none⟩=_:=(HB.out.cell (p:=⟨b,off+(k * 2+0),none⟩) hbl).trans (hc 0 _ rfl)
   have p0:wr.cell? ⟨b',off'+k * 2,none⟩=_:=(HB.out.cell (p:=⟨b',off'+(k * 2+0),none⟩) hbl').trans (hc' 0 _ rfl)
   have q1:wr.cell? ⟨b,off+k * 2+1,none⟩=_:=(HB.out.cell (p:=⟨b,off+(k * 2+1),none⟩) hbl).trans (hc 1 _ rfl)
   have p1:wr.cell? ⟨b',off'+k * 2+1,none⟩=_:=(HB.out.cell (p:=⟨b',off'+(k * 2+1),none⟩) hbl').trans (hc' 1 _ rfl)
   clear hc hc' hrep hrep'
   have k0:(0:Int)≤k:=by omega
   have k1:(k:Int)<n:=by omega
   go_wp2_with fail
   go_still_tail 8,(by kernel_rfl)
   change wpList _ _ _ _ _ wr.drew
   go_wp2_with (go_at_call 35;(refine (ZpY _ _ x Lk Mk wr.drew (Y4.keep HR.out (fun _ _=>rfl)) (Y4.keep HR'.out (fun _ _=>rfl))).mono ?_;rintro e w1 ⟨rfl,hb1⟩;have HB1:=Lib.hid (HB.out.drew.trans (hb1.mono HB.out.size));clear hb1))
   go_roundw
   case rel=>exact ⟨k+1,by omega,by go_num,HB1.out⟩
   case measure=>simp [intOf];omega
  ·go_wp2
   go_ret
   exact ⟨rfl,HB.out⟩
set_option maxHeartbeats 1600000 in
theorem ZgT (cs ds:List Value) (x:Zv) (L M:List Nat) (w:World) (h1:ZcY.rep w cs x L) (h2:ZcY.rep w ds x M):
  Calls Tryz.prog 29 #[.agg cs.toArray,.agg ds.toArray] w (XJ w):=by
 obtain ⟨aA1,ac1,aL1,rfl,_ahL,at0,an1,am1,as1⟩:=h1
 obtain ⟨bA1,bc1,bL1,rfl,_bhL,bt0,bn1,bm1,bs1⟩:=h2
 unfold maxLen at am1 bm1
 have SA1:=Lib.hid as1
 have SB1:=Lib.hid bs1
 clear as1 bs1
 go_enter Tryz.func29,Tryz.ntmps29
 go_wp2_with fail
 refine (Zgw aA1 bA1 _ ac1 bc1 x.args aL1 bL1 _ rfl (by omega) (SA1.out.below (by repeat (first | refine Below.setCell ?_ (by dsimp only;omega) _ | refine Below.alloc ?_ (by first | (simp;done) | (simp;omega) | omega) _ | exact Below.refl _ _))) (SB1.out.below (by repeat (first | refine Below.setCell ?_ (by dsimp only;omega) _ | refine Below.alloc ?_ (by first | (simp;done) | (simp;omega) | omega) _ | exact Below.refl _ _)))).mono ?_
 rintro e w1 ⟨rfl,hb1⟩
 have B1:Hid (Below w.heap.size w w1):=Below.trans (by repeat (first | refine Below.setCell ?_ (by dsimp only;omega) _ | refine Below.alloc ?_ (by first | (simp;done) | (simp;omega) | omega) _ | exact Below.refl _ _)) (hb1.mono (by first | (simp;done) | (simp;omega) | omega))
 have K0:Hid (Blk w1 w.heap.size 49 #[.string x.rel,.slice aA1 x.args.length ac1]):=Blk.later (Blk.alloc (Blk.new _ _ _) _) hb1
 have K1:Hid (Blk w1 (w.heap.size+1) 49 #[.string x.rel,.slice bA1 x.args.length bc1]):=Blk.later (Blk.new_at (by simp)) hb1
 have f0:=K0.out.at (i:=0) rfl
 have r0:=K1.out.at (i:=0) rfl
 have f1:=K0.out.at (i:=1) rfl
 have r1:=K1.out.at (i:=1) rfl
 clear hb1
 have hz1:=B1.out.size
 go_wp2_with fail
 go_ret
 exact ⟨rfl,(by repeat (first | refine Below.setCell ?_ (by dsimp only;omega) _ | refine Below.alloc ?_ (by first | (simp;done) | (simp;omega) | omega) _ | exact B1.out))⟩
set_option maxHeartbeats 1600000 in
theorem ZpW (cs ds:List Value) (x:Zm) (L M:List Nat) (w:World) (h1:XV.rep w cs x L) (h2:XV.rep w ds x M):
  Calls Tryz.prog 141 #[.agg cs.toArray,.agg ds.toArray] w (XJ w):=by
 obtain ⟨aA1,ac1,aL1,rfl,_ahL,at0,at1,at2,an1,am1,as1⟩:=h1
 obtain ⟨bA1,bc1,bL1,rfl,_bhL,bt0,bt1,bt2,bn1,bm1,bs1⟩:=h2
 unfold maxLen at am1 bm1
 have SA1:=Lib.hid as1
 have SB1:=Lib.hid bs1
 clear as1 bs1
 go_enter Tryz.func141,Tryz.ntmps141
 go_wp2_with fail
 refine (ZgT [.string x.pattern.rel,.slice aA1 x.pattern.args.length ac1] [.string x.pattern.rel,.slice bA1 x.pattern.args.length bc1] x.pattern _ _ _ ⟨aA1,ac1,aL1,rfl,rfl,at0,an1,(by unfold maxLen;omega),SA1.out.below (by repeat (first | refine Below.setCell ?_ (by dsimp only;omega) _ | refine Below.alloc ?_ (by first | (simp;done) | (simp;omega) | omega) _ | exact Below.refl _ _))⟩ ⟨bA1,bc1,bL1,rfl,rfl,bt0,bn1,(by unfold maxLen;omega),SB1.out.below (by repeat (first | refine Below.setCell ?_ (by dsimp only;omega) _ | refine Below.alloc ?_ (by first | (simp;done) | (simp;omega) | omega) _ | exact Below.refl _ _))⟩).mono ?_
 rintro e w1 ⟨rfl,hb1⟩
 have B1:Hid (Below w.heap.size w w1):=Below.trans (by repeat (first | refine Below.setCell ?_ (by dsimp only;omega) _ | refine Below.alloc ?_ (by first | (simp;done) | (simp;omega) | omega) _ | exact Below.refl _ _)) (hb1.mono (by first | (simp;done) | (simp;omega) | omega))
 have K0:Hid (Blk w1 w.heap.size 130 #[.int .i64 x.kind,.string x.pattern.rel,.slice aA1 x.pattern.args.length ac1,.string x.left,.string x.right]):=Blk.later (Blk.alloc (Blk.new _ _ _) _) hb1
 have K1:Hid (Blk w1 (w.heap.size+1) 130 #[.int .i64 x.kind,.string x.pattern.rel,.slice bA1 x.pattern.args.length bc1,.string x.left,.string x.right]):=Blk.later (Blk.new_at (by simp)) hb1
 have f0:=K0.out.at (i:=0) rfl
 have r0:=K1.out.at (i:=0) rfl
 have f1:=K0.out.at (i:=1) rfl
 have r1:=K1.out.at (i:=1) rfl
 have f2:=K0.out.at (i:=2) rfl
 have r2:=K1.out.at (i:=2) rfl
 have f3:=K0.out.at (i:=3) rfl
 have r3:=K1.out.at (i:=3) rfl
 have f4:=K0.out.at (i:=4) rfl
 have r4:=K1.out.at (i:=4) rfl
 clear hb1
 have hz1:=B1.out.size
 go_wp2_with fail
 go_ret
 exact ⟨rfl,(by repeat (first | refine Below.setCell ?_ (by dsimp only;omega) _ | refine Below.alloc ?_ (by first | (simp;done) | (simp;omega) | omega) _ | exact B1.out))⟩
set_option maxRecDepth 100000 in
set_option maxHeartbeats 1600000 in
theorem Zoo (A B:Option Addr) (n c d:Nat) (ds:List Zm) (L M:List Nat) (w:World) (hn:n=ds.length) (hm:n≤9223372036854775807) (h1:Sli XV w A ds L) (h2:Sli XV w B ds M):
  Calls Tryz.prog 93 #[.slice A n c,.slice B n d] w (XJ w):=by
 have H1:=Lib.hid h1
 have H2:=Lib.hid h2
 have HN:=Lib.hid hn
 clear h1 h2 hn
 have hne:((n:Int) != n)=false:=by simp
 go_enter Tryz.func93,Tryz.ntmps93
 go_wp2
 go_loopw [5] (fun i wr=>∃(k:Nat),k≤n∧i=.int .i64 k∧Hid (Below w.heap.size w wr)) (fun i _=>n - (intOf i).toNat)
 case atStart=>exact ⟨0,Nat.zero_le _,rfl,Below.refl _ _⟩
 case round=>
  obtain ⟨k,hk,rfl,HB⟩:=hrel
  by_cases hlt:k<n
  ·have hkl:k<ds.length:=by have:=HN.out;omega
   obtain ⟨b,off,cs,Lk,rfl,hbL,hLk,hrep,hc⟩:=H1.out.at_ hkl
   obtain ⟨b',off',cs',Mk,rfl,hbM,hMk,hrep',hc'⟩:=H2.out.at_ hkl
   have hbl:b<w.heap.size:=H1.out.lt b hbL
   have hbl':b'<w.heap.size:=H2.out.lt b' hbM
   have HR:=Lib.hid (XV.keep hrep (ZN HB.out (fun y m=>H1.out.lt y (hLk y m))))
   have HR':=Lib.hid (XV.keep hrep' (ZN HB.out (fun y m=>H2.out.lt y (hMk y m))))
   generalize ds[k]=x at *
   obtain ⟨aA1,ac1,rfl⟩:=Zcb hrep
   obtain ⟨bA1,bc1,rfl⟩:=Zcb hrep'
   have q0:wr.cell? ⟨b,off+k * 5,none⟩=_:=(HB.out.cell (p:=⟨b,off+(k * 5+0),none⟩) hbl).trans (hc 0 _ rfl)
   have p0:wr.cell? ⟨b',off'+k * 5,none⟩=_:=(HB.out.cell (p:=⟨b',off'+(k * 5+0),none⟩) hbl').trans (hc' 0 _ rfl)
   have q1:wr.cell? ⟨b,off+k * 5+1,none⟩=_:=(HB.out.cell (p:=⟨b,off+(k * 5+1),none⟩) hbl).trans (hc 1 _ rfl)
   have p1:wr.cell? ⟨b',off'+k * 5+1,none⟩=_:=(HB.out.cell (p:=⟨b',off'+(k * 5+1),none⟩) hbl').trans (hc' 1 _ rfl)
   have q2:wr.cell? ⟨b,off+k * 5+2,none⟩=_:=(HB.out.cell (p:=⟨b,off+(k * 5+2),none⟩) hbl).trans (hc 2 _ rfl)
   have p2:wr.cell? ⟨b',off'+k * 5+2,none⟩=_:=(HB.out.cell (p:=⟨b',off'+(k * 5+2),none⟩) hbl').trans (hc' 2 _ rfl)
   have q3:wr.cell? ⟨b,off+k * 5+3,none⟩=_:=(HB.out.cell (p:=⟨b,off+(k * 5+3),none⟩) hbl).trans (hc 3 _ rfl)
   have p3:wr.cell? ⟨b',off'+k * 5+3,none⟩=_:=(HB.out.cell (p:=⟨b',off'+(k * 5+3),none⟩) hbl').trans (hc' 3 _ rfl)
   have q4:wr.cell? ⟨b,off+k * 5+4,none⟩=_:=(HB.out.cell (p:=⟨b,off+(k * 5+4),none⟩) hbl).trans (hc 4 _ rfl)
   have p4:wr.cell? ⟨b',off'+k * 5+4,none⟩=_:=(HB.out.cell (p:=⟨b',off'+(k * 5+4),none⟩) hbl').trans (hc' 4 _ rfl)
   clear hc hc' hrep hrep'
   have k0:(0:Int)≤k:=by omega
   have k1:(k:Int)<n:=by omega
   go_wp2_with fail
   go_still_tail 8,(by kernel_rfl)
   change wpList _ _ _ _ _ wr.drew
   go_wp2_with (go_at_call 141;(refine (ZpW _ _ x Lk Mk wr.drew (XV.keep HR.out (fun _ _=>rfl)) (XV.keep HR'.out (fun _ _=>rfl))).mono ?_;rintro e w1 ⟨rfl,hb1⟩;have HB1:=Lib.hid (HB.out.drew.trans (hb1.mono HB.out.size));clear hb1))
   go_roundw
   case rel=>exact ⟨k+1,by omega,by go_num,HB1.out⟩
   case measure=>simp [intOf];omega
  ·go_wp2
   go_ret
   exact ⟨rfl,HB.out⟩
set_option maxHeartbeats 1600000 in
theorem Zm8 (cs ds:List Value) (x:Zr) (L M:List Nat) (w:World) (h1:Yk.rep w cs x L) (h2:Yk.rep w ds x M):
  Calls Tryz.prog 142 #[.agg cs.toArray,.agg ds.toArray] w (XJ w):=by
 obtain ⟨aA1,ac1,aL1,rfl,_ahL,at0,an1,am1,as1⟩:=h1
 obtain ⟨bA1,bc1,bL1,rfl,_bhL,bt0,bn1,bm1,bs1⟩:=h2
 unfold maxLen at am1 bm1
 have SA1:=Lib.hid as1
 have SB1:=Lib.hid bs1
 clear as1 bs1
 go_enter Tryz.func142,Tryz.ntmps142
 go_wp2_with fail
 refine (ZgT [.string x.pattern.rel,.slice aA1 x.pattern.args.length ac1] [.string x.pattern.rel,.slice bA1 x.pattern.args.length bc1] x.pattern _ _ _ ⟨aA1,ac1,aL1,rfl,rfl,at0,an1,(by unfold maxLen;omega),SA1.out.below (by repeat (first | refine Below.setCell ?_ (by dsimp only;omega) _ | refine Below.alloc ?_ (by first | (simp;done) | (simp;omega) | omega) _ | exact Below.refl _ _))⟩ ⟨bA1,bc1,bL1,rfl,rfl,bt0,bn1,(by unfold maxLen;omega),SB1.out.below (by repeat (first | refine Below.setCell ?_ (by dsimp only;omega) _ | refine Below.alloc ?_ (by first | (simp;done) | (simp;omega) | omega) _ | exact Below.refl _ _))⟩).mono ?_
 rintro e w1 ⟨rfl,hb1⟩
 have B1:Hid (Below w.heap.size w w1):=Below.trans (by repeat (first | refine Below.setCell ?_ (by dsimp only;omega) _ | refine Below.alloc ?_ (by first | (simp;done) | (simp;omega) | omega) _ | exact Below.refl _ _)) (hb1.mono (by first | (simp;done) | (simp;omega) | omega))
 have K0:Hid (Blk w1 w.heap.size 134 #[.int .i64 x.kind,.string x.pattern.rel,.slice aA1 x.pattern.args.length ac1]):=Blk.later (Blk.alloc (Blk.new _ _ _) _) hb1
 have K1:Hid (Blk w1 (w.heap.size+1) 134 #[.int .i64 x.kind,.string x.pattern.rel,.slice bA1 x.pattern.args.length bc1]):=Blk.later (Blk.new_at (by simp)) hb1
 have f0:=K0.out.at (i:=0) rfl
 have r0:=K1.out.at (i:=0) rfl
 have f1:=K0.out.at (i:=1) rfl
 have r1:=K1.out.at (i:=1) rfl
 have f2:=K0.out.at (i:=2) rfl
 have r2:=K1.out.at (i:=2) rfl
 clear hb1
 have hz1:=B1.out.size
 go_wp2_with fail
 go_ret
 exact ⟨rfl,(by repeat (first | refine Below.setCell ?_ (by dsimp only;omega) _ | refine Below.alloc ?_ (by first | (simp;done) | (simp;omega) | omega) _ | exact B1.out))⟩
set_option maxRecDepth 100000 in
set_option maxHeartbeats 1600000 in
theorem ZlT (A B:Option Addr) (n c d:Nat) (ds:List Zr) (L M:List Nat) (w:World) (hn:n=ds.length) (hm:n≤9223372036854775807) (h1:Sli Yk w A ds L) (h2:Sli Yk w B ds M):
  Calls Tryz.prog 94 #[.slice A n c,.slice B n d] w (XJ w):=by
 have H1:=Lib.hid h1
 have H2:=Lib.hid h2
 have HN:=Lib.hid hn
 clear h1 h2 hn
 have hne:((n:Int) != n)=false:=by simp
 go_enter Tryz.func94,Tryz.ntmps94
 go_wp2
 go_loopw [5] (fun i wr=>∃(k:Nat),k≤n∧i=.int .i64 k∧Hid (Below w.heap.size w wr)) (fun i _=>n - (intOf i).toNat)
 case atStart=>exact ⟨0,Nat.zero_le _,rfl,Below.refl _ _⟩
 case round=>
  obtain ⟨k,hk,rfl,HB⟩:=hrel
  by_cases hlt:k<n
  ·have hkl:k<ds.length:=by have:=HN.out;omega
   obtain ⟨b,off,cs,Lk,rfl,hbL,hLk,hrep,hc⟩:=H1.out.at_ hkl
   obtain ⟨b',off',cs',Mk,rfl,hbM,hMk,hrep',hc'⟩:=H2.out.at_ hkl
   have hbl:b<w.heap.size:=H1.out.lt b hbL
   have hbl':b'<w.heap.size:=H2.out.lt b' hbM
   have HR:=Lib.hid (Yk.keep hrep (ZN HB.out (fun y m=>H1.out.lt y (hLk y m))))
   have HR':=Lib.hid (Yk.keep hrep' (ZN HB.out (fun y m=>H2.out.lt y (hMk y m))))
   generalize ds[k]=x at *
   obtain ⟨aA1,ac1,rfl⟩:=Q9 hrep
   obtain ⟨bA1,bc1,rfl⟩:=Q9 hrep'
   have q0:wr.cell? ⟨b,off+k * 3,none⟩=_:=(HB.out.cell (p:=⟨b,off+(k * 3+0),none⟩) hbl).trans (hc 0 _ rfl)
   have p0:wr.cell? ⟨b',off'+k * 3,none⟩=_:=(HB.out.cell (p:=⟨b',off'+(k * 3+0),none⟩) hbl').trans (hc' 0 _ rfl)
   have q1:wr.cell? ⟨b,off+k * 3+1,none⟩=_:=(HB.out.cell (p:=⟨b,off+(k * 3+1),none⟩) hbl).trans (hc 1 _ rfl)
   have p1:wr.cell? ⟨b',off'+k * 3+1,none⟩=_:=(HB.out.cell (p:=⟨b',off'+(k * 3+1),none⟩) hbl').trans (hc' 1 _ rfl)
   have q2:wr.cell? ⟨b,off+k * 3+2,none⟩=_:=(HB.out.cell (p:=⟨b,off+(k * 3+2),none⟩) hbl).trans (hc 2 _ rfl)
   have p2:wr.cell? ⟨b',off'+k * 3+2,none⟩=_:=(HB.out.cell (p:=⟨b',off'+(k * 3+2),none⟩) hbl').trans (hc' 2 _ rfl)
   clear hc hc' hrep hrep'
   have k0:(0:Int)≤k:=by omega
   have k1:(k:Int)<n:=by omega
   go_wp2_with fail
   go_still_tail 8,(by kernel_rfl)
   change wpList _ _ _ _ _ wr.drew
   go_wp2_with (go_at_call 142;(refine (Zm8 _ _ x Lk Mk wr.drew (Yk.keep HR.out (fun _ _=>rfl)) (Yk.keep HR'.out (fun _ _=>rfl))).mono ?_;rintro e w1 ⟨rfl,hb1⟩;have HB1:=Lib.hid (HB.out.drew.trans (hb1.mono HB.out.size));clear hb1))
   go_roundw
   case rel=>exact ⟨k+1,by omega,by go_num,HB1.out⟩
   case measure=>simp [intOf];omega
  ·go_wp2
   go_ret
   exact ⟨rfl,HB.out⟩
set_option maxHeartbeats 1600000 in
theorem ZpF (cs ds:List Value) (x:Zf) (L M:List Nat) (w:World) (h1:XU.rep w cs x L) (h2:XU.rep w ds x M):
  Calls Tryz.prog 49 #[.agg cs.toArray,.agg ds.toArray] w (XJ w):=by
 obtain ⟨aA1,ac1,aL1,aA2,ac2,aL2,rfl,_ahL,at0,an1,am1,as1,an2,am2,as2⟩:=h1
 obtain ⟨bA1,bc1,bL1,bA2,bc2,bL2,rfl,_bhL,bt0,bn1,bm1,bs1,bn2,bm2,bs2⟩:=h2
 unfold maxLen at am1 bm1 am2 bm2
 have SA1:=Lib.hid as1
 have SB1:=Lib.hid bs1
 clear as1 bs1
 have SA2:=Lib.hid as2
 have SB2:=Lib.hid bs2
 clear as2 bs2
 go_enter Tryz.func49,Tryz.ntmps49
 go_wp2_with fail
 refine (Zoo aA1 bA1 _ ac1 bc1 x.cond aL1 bL1 _ rfl (by omega) (SA1.out.below (by repeat (first | refine Below.setCell ?_ (by dsimp only;omega) _ | refine Below.alloc ?_ (by first | (simp;done) | (simp;omega) | omega) _ | exact Below.refl _ _))) (SB1.out.below (by repeat (first | refine Below.setCell ?_ (by dsimp only;omega) _ | refine Below.alloc ?_ (by first | (simp;done) | (simp;omega) | omega) _ | exact Below.refl _ _)))).mono ?_
 rintro e w1 ⟨rfl,hb1⟩
 have B1:Hid (Below w.heap.size w w1):=Below.trans (by repeat (first | refine Below.setCell ?_ (by dsimp only;omega) _ | refine Below.alloc ?_ (by first | (simp;done) | (simp;omega) | omega) _ | exact Below.refl _ _)) (hb1.mono (by first | (simp;done) | (simp;omega) | omega))
 have K0:Hid (Blk w1 w.heap.size 82 #[.string x.name,.int .i64 x.priority,.slice aA1 x.cond.length ac1,.slice aA2 x.thn.length ac2]):=Blk.later (Blk.alloc (Blk.new _ _ _) _) hb1
 have K1:Hid (Blk w1 (w.heap.size+1) 82 #[.string x.name,.int .i64 x.priority,.slice bA1 x.cond.length bc1,.slice bA2 x.thn.length bc2]):=Blk.later (Blk.new_at (by simp)) hb1
 have f0:=K0.out.at (i:=0) rfl
 have r0:=K1.out.at (i:=0) rfl
 have f1:=K0.out.at (i:=1) rfl
 have r1:=K1.out.at (i:=1) rfl
 have f2:=K0.out.at (i:=2) rfl
 have r2:=K1.out.at (i:=2) rfl
 have f3:=K0.out.at (i:=3) rfl
 have r3:=K1.out.at (i:=3) rfl
 clear hb1
 have hz1:=B1.out.size
 go_wp2_with fail
 refine (ZlT aA2 bA2 _ ac2 bc2 x.thn aL2 bL2 _ rfl (by omega) (SA2.out.below (by repeat (first | refine Below.setCell ?_ (by dsimp only;omega) _ | refine Below.alloc ?_ (by first | (simp;done) | (simp;omega) | omega) _ | exact B1.out))) (SB2.out.below (by repeat (first | refine Below.setCell ?_ (by dsimp only;omega) _ | refine Below.alloc ?_ (by first | (simp;done) | (simp;omega) | omega) _ | exact B1.out)))).mono ?_
 rintro e w2 ⟨rfl,hb2⟩
 have B2:Hid (Below w.heap.size w w2):=Below.trans (by repeat (first | refine Below.setCell ?_ (by dsimp only;omega) _ | refine Below.alloc ?_ (by first | (simp;done) | (simp;omega) | omega) _ | exact B1.out)) (hb2.mono (by first | (simp;done) | (simp;omega) | omega))
 have K0:=Lib.hid (K0.out.later hb2)
 have K1:=Lib.hid (K1.out.later hb2)
 clear f0 r0 f1 r1 f2 r2 f3 r3
 have f0:=K0.out.at (i:=0) rfl
 have r0:=K1.out.at (i:=0) rfl
 have f1:=K0.out.at (i:=1) rfl
 have r1:=K1.out.at (i:=1) rfl
 have f2:=K0.out.at (i:=2) rfl
 have r2:=K1.out.at (i:=2) rfl
 have f3:=K0.out.at (i:=3) rfl
 have r3:=K1.out.at (i:=3) rfl
 clear hb2
 have hz2:=B2.out.size
 go_wp2_with fail
 go_ret
 exact ⟨rfl,(by repeat (first | refine Below.setCell ?_ (by dsimp only;omega) _ | refine Below.alloc ?_ (by first | (simp;done) | (simp;omega) | omega) _ | exact B2.out))⟩
set_option maxRecDepth 100000 in
set_option maxHeartbeats 1600000 in
theorem ZoU (A B:Option Addr) (n c d:Nat) (ds:List Zf) (L M:List Nat) (w:World) (hn:n=ds.length) (hm:n≤9223372036854775807) (h1:Sli XU w A ds L) (h2:Sli XU w B ds M):
  Calls Tryz.prog 17 #[.slice A n c,.slice B n d] w (XJ w):=by
 have H1:=Lib.hid h1
 have H2:=Lib.hid h2
 have HN:=Lib.hid hn
 clear h1 h2 hn
 have hne:((n:Int) != n)=false:=by simp
 go_enter Tryz.func17,Tryz.ntmps17
 go_wp2
 go_loopw [5] (fun i wr=>∃(k:Nat),k≤n∧i=.int .i64 k∧Hid (Below w.heap.size w wr)) (fun i _=>n - (intOf i).toNat)
 case atStart=>exact ⟨0,Nat.zero_le _,rfl,Below.refl _ _⟩
 case round=>
  obtain ⟨k,hk,rfl,HB⟩:=hrel
  by_cases hlt:k<n
  ·have hkl:k<ds.length:=by have:=HN.out;omega
   obtain ⟨b,off,cs,Lk,rfl,hbL,hLk,hrep,hc⟩:=H1.out.at_ hkl
   obtain ⟨b',off',cs',Mk,rfl,hbM,hMk,hrep',hc'⟩:=H2.out.at_ hkl
   have hbl:b<w.heap.size:=H1.out.lt b hbL
   have hbl':b'<w.heap.size:=H2.out.lt b' hbM
   have HR:=Lib.hid (XU.keep hrep (ZN HB.out (fun y m=>H1.out.lt y (hLk y m))))
   have HR':=Lib.hid (XU.keep hrep' (ZN HB.out (fun y m=>H2.out.lt y (hMk y m))))
   generalize ds[k]=x at *
   obtain ⟨aA1,ac1,aA2,ac2,rfl⟩:=Zb5 hrep
   obtain ⟨bA1,bc1,bA2,bc2,rfl⟩:=Zb5 hrep'
   have q0:wr.cell? ⟨b,off+k * 4,none⟩=_:=(HB.out.cell (p:=⟨b,off+(k * 4+0),none⟩) hbl).trans (hc 0 _ rfl)
   have p0:wr.cell? ⟨b',off'+k * 4,none⟩=_:=(HB.out.cell (p:=⟨b',off'+(k * 4+0),none⟩) hbl').trans (hc' 0 _ rfl)
   have q1:wr.cell? ⟨b,off+k * 4+1,none⟩=_:=(HB.out.cell (p:=⟨b,off+(k * 4+1),none⟩) hbl).trans (hc 1 _ rfl)
   have p1:wr.cell? ⟨b',off'+k * 4+1,none⟩=_:=(HB.out.cell (p:=⟨b',off'+(k * 4+1),none⟩) hbl').trans (hc' 1 _ rfl)
   have q2:wr.cell? ⟨b,off+k * 4+2,none⟩=_:=(HB.out.cell (p:=⟨b,off+(k * 4+2),none⟩) hbl).trans (hc 2 _ rfl)
   have p2:wr.cell? ⟨b',off'+k * 4+2,none⟩=_:=(HB.out.cell (p:=⟨b',off'+(k * 4+2),none⟩) hbl').trans (hc' 2 _ rfl)
   have q3:wr.cell? ⟨b,off+k * 4+3,none⟩=_:=(HB.out.cell (p:=⟨b,off+(k * 4+3),none⟩) hbl).trans (hc 3 _ rfl)
   have p3:wr.cell? ⟨b',off'+k * 4+3,none⟩=_:=(HB.out.cell (p:=⟨b',off'+(k * 4+3),none⟩) hbl').trans (hc' 3 _ rfl)
   clear hc hc' hrep hrep'
   have k0:(0:Int)≤k:=by omega
   have k1:(k:Int)<n:=by omega
   go_wp2_with fail
   go_still_tail 8,(by kernel_rfl)
   change wpList _ _ _ _ _ wr.drew
   go_wp2_with (go_at_call 49;(refine (ZpF _ _ x Lk Mk wr.drew (XU.keep HR.out (fun _ _=>rfl)) (XU.keep HR'.out (fun _ _=>rfl))).mono ?_;rintro e w1 ⟨rfl,hb1⟩;have HB1:=Lib.hid (HB.out.drew.trans (hb1.mono HB.out.size));clear hb1))
   go_roundw
   case rel=>exact ⟨k+1,by omega,by go_num,HB1.out⟩
   case measure=>simp [intOf];omega
  ·go_wp2
   go_ret
   exact ⟨rfl,HB.out⟩
end Go.Proofs.YtojnhepgnbhaaaaGreatDoor
namespace Go.Proofs.YtojnhepgnbhaaaaGreatDoor
open Go.RowKit
def ZjI:Nat→Nat→List UInt8→List UInt8
 | 0,_,acc=>acc
 | f+1,k,acc=>if k=0 then acc else ZjI f (k / 10) ((48+UInt8.ofNat (k % 10))::acc)
def Zpw (k:Nat):ByteArray:=⟨(109::ZjI (k+1) k []).toArray⟩
theorem ZjK (W:World) (z:Int):(convert 140 9 (.slice (some ⟨W.heap.size,0,none⟩) 1 1)).run Tryz.prog (W.alloc (.cells #[.int .u8 z] 5))=.ok (.string ⟨#[UInt8.ofNat z.toNat]⟩) (W.alloc (.cells #[.int .u8 z] 5)):=by
 rw [run_convert_bytes_string _ _ _ _ _ _ _ Tryz.underlying140 Tryz.underlying5 Tryz.underlying9,run_bytesToString _ _ _ _ [z] (by simp [loadCells,go_sem])]
 rfl
set_option maxHeartbeats 800000 in
set_option maxRecDepth 100000 in
theorem ZnI (k:Nat) (w:World) (h0:1≤k) (h1:k≤4611686018427387904):
  Calls Tryz.prog 50 #[.int .i64 k] w fun e w'=>e=.returned (.string (Zpw k))∧Below w.heap.size w w':=by
 have hle:¬((k:Int)≤0):=by omega
 have kc:=ZjK
 go_enter Tryz.func50,Tryz.ntmps50
 go_wp2
 go_loopw [0,3] (fun i s wr=>∃(f q:Nat) (acc:List UInt8),i=.int .i64 q∧s=.string ⟨acc.toArray⟩∧q≤k∧q<f∧acc.length+q≤k∧Hid (ZjI f q acc=ZjI (k+1) k [])∧Hid (Below w.heap.size w wr)) (fun i _ _=>(intOf i).toNat)
 case atStart=>exact ⟨k+1,k,[],rfl,rfl,Nat.le_refl _,by omega,by simp,Lib.hid rfl,Below.refl _ _⟩
 case round=>
  obtain ⟨f,q,acc,rfl,rfl,hqk,hqf,hal,HE,HB⟩:=hrel
  by_cases hq:0<q
  ·have hq':(0:Int)<q:=by omega
   have HEn:Hid (ZjI (f - 1) (q / 10) ((48+UInt8.ofNat (q % 10))::acc)=ZjI (k+1) k []):=by
    rw [Hid,←HE.out]
    obtain ⟨f,rfl⟩:∃g,f=g+1:=⟨f - 1,by omega⟩
    rw [ZjI,if_neg (by omega)];rfl
   go_wp2
   go_roundw
   case rel=>exact ⟨f - 1,q / 10,_,by go_num,congrArg Value.string (by rw [ByteArray.mk_append_mk];simp),by omega,by omega,by simp only [List.length_cons];omega,HEn,HB.out.alloc HB.out.size _⟩
   case measure=>simp [intOf];omega
  ·obtain rfl:q=0:=by omega
   have e:Hid (ZjI (k+1) k []=acc):=by
    rw [Hid,←HE.out]
    obtain ⟨f,rfl⟩:∃g,f=g+1:=⟨f - 1,by omega⟩
    simp [ZjI]
   have hq':¬(0:Int)<(0:Nat):=by omega
   go_wp2
   go_ret
   exact ⟨congrArg (fun s=>Ending.returned (.string s)) (by rw [Zpw,e.out,ByteArray.mk_append_mk];simp),HB.out⟩
theorem ZoH:∀(f k:Nat) (acc:List UInt8),(ZjI f k acc).length≤acc.length+f
 | 0,_,acc=>by simp [ZjI]
 | f+1,k,acc=>by
  rw [ZjI]
  split
  ·omega
  ·have:=ZoH f (k / 10) ((48+UInt8.ofNat (k % 10))::acc)
   simp at this;omega
theorem ZpK (k:Nat) (h:k≤4611686018427387904):(Zpw k).size≤9223372036854775807:=by
 have:=ZoH (k+1) k []
 simp [Zpw,ByteArray.size] at this ⊢
 omega
end Go.Proofs.YtojnhepgnbhaaaaGreatDoor
namespace Go.Proofs.YtojnhepgnbhaaaaGreatDoor
open Go.RowKit
def mTx (k:Int):ByteArray:=Zpw k.toNat
theorem Y7 (k:Int) (w:World) (h0:1≤k) (h1:k≤4611686018427387904):
  Calls Tryz.prog 50 #[.int .i64 k] w fun e w'=>e=.returned (.string (mTx k))∧Below w.heap.size w w':=by
 obtain ⟨n,rfl⟩:=Int.eq_ofNat_of_zero_le (show 0≤k by omega)
 exact ZnI n w (by omega) (by omega)
theorem ZcS (k:Int) (h:k≤4611686018427387904):(mTx k).size≤9223372036854775807:=ZpK _ (by omega)
def Ya:Int→List ByteArray→List ByteArray
 | _,[]=>[]
 | k,_::r=>mTx k::Ya (k+1) r
def ZG (k:Int) (l:List ByteArray):Int:=k+l.length
theorem Zai (k:Int) (l:List ByteArray):(Ya k l).length=l.length:=by induction l generalizing k with | nil=>rfl | cons x r ih=>simp [Ya,ih]
theorem Xl (k:Int) (l:List ByteArray):k≤ZG k l:=by unfold ZG;omega
theorem Zdd (k:Int) (l:List ByteArray):ZG k l≤k+16 * Xm l:=by unfold ZG Xm;omega
def Zfl (k:Int) (x:Zc):Zc:=⟨mTx (k),Ya (k+1) x.args⟩
def Ys (k:Int) (x:Zc):Int:=ZG (k+1) x.args
def Xp:Int→List Zc→List Zc
 | _,[]=>[]
 | k,x::r=>Zfl k x::Xp (Ys k x) r
def Zy:Int→List Zc→Int
 | k,[]=>k
 | k,x::r=>Zy (Ys k x) r
theorem Zo1 (k:Int) (l:List Zc):(Xp k l).length=l.length:=by induction l generalizing k with | nil=>rfl | cons x r ih=>simp [Xp,ih]
theorem Zfn (k:Int) (x:Zc):k≤Ys k x:=by
 unfold Ys
 have:=Xl (k+1) x.args
 omega
theorem Zcq (k:Int) (l:List Zc):k≤Zy k l:=by
 induction l generalizing k with
 | nil=>exact Int.le_refl _
 | cons x r ih=>exact Int.le_trans (Zfn k x) (ih _)
theorem ZoP (k:Int) (x:Zc):Ys k x≤k+1+16 * YP x:=by
 unfold Ys
 have:=Zdd (k+1) x.args
 simp only [YP]
 omega
theorem Zht (k:Int) (l:List Zc):Zy k l≤k+16 * Yd l:=by
 induction l generalizing k with
 | nil=>simp [Zy,Yd]
 | cons x r ih=>
  have h1:=ZoP k x
  have h2:=ih (Ys k x)
  simp only [Zy,Yd,List.length_cons,List.map_cons,List.sum_cons] at h2 ⊢
  omega
def Zhq (k:Int) (x:Zm):Zm:=⟨(k),⟨mTx (k+1),Ya (k+1+1) x.pattern.args⟩,mTx (ZG (k+1+1) x.pattern.args),mTx (ZG (k+1+1) x.pattern.args+1)⟩
def XD (k:Int) (x:Zm):Int:=ZG (k+1+1) x.pattern.args+1+1
def Zao:Int→List Zm→List Zm
 | _,[]=>[]
 | k,x::r=>Zhq k x::Zao (XD k x) r
def Yz:Int→List Zm→Int
 | k,[]=>k
 | k,x::r=>Yz (XD k x) r
theorem ZoK (k:Int) (l:List Zm):(Zao k l).length=l.length:=by induction l generalizing k with | nil=>rfl | cons x r ih=>simp [Zao,ih]
theorem ZiT (k:Int) (x:Zm):k≤XD k x:=by
 unfold XD
 have:=Xl (k+1+1) x.pattern.args
 omega
theorem ZeT (k:Int) (l:List Zm):k≤Yz k l:=by
 induction l generalizing k with
 | nil=>exact Int.le_refl _
 | cons x r ih=>exact Int.le_trans (ZiT k x) (ih _)
theorem ZoZ (k:Int) (x:Zm):XD k x≤k+4+16 * YO x:=by
 unfold XD
 have:=Zdd (k+1+1) x.pattern.args
 simp only [YO,Z5]
 omega
theorem Zng (k:Int) (l:List Zm):Yz k l≤k+16 * YA l:=by
 induction l generalizing k with
 | nil=>simp [Yz,YA]
 | cons x r ih=>
  have h1:=ZoZ k x
  have h2:=ih (XD k x)
  simp only [Yz,YA,List.length_cons,List.map_cons,List.sum_cons] at h2 ⊢
  omega
def Zdj (k:Int) (x:Zr):Zr:=⟨(k),⟨mTx (k+1),Ya (k+1+1) x.pattern.args⟩⟩
def YH (k:Int) (x:Zr):Int:=ZG (k+1+1) x.pattern.args
def XA:Int→List Zr→List Zr
 | _,[]=>[]
 | k,x::r=>Zdj k x::XA (YH k x) r
def YB:Int→List Zr→Int
 | k,[]=>k
 | k,x::r=>YB (YH k x) r
theorem ZlZ (k:Int) (l:List Zr):(XA k l).length=l.length:=by induction l generalizing k with | nil=>rfl | cons x r ih=>simp [XA,ih]
theorem Zgy (k:Int) (x:Zr):k≤YH k x:=by
 unfold YH
 have:=Xl (k+1+1) x.pattern.args
 omega
theorem Zdb (k:Int) (l:List Zr):k≤YB k l:=by
 induction l generalizing k with
 | nil=>exact Int.le_refl _
 | cons x r ih=>exact Int.le_trans (Zgy k x) (ih _)
theorem ZlR (k:Int) (x:Zr):YH k x≤k+2+16 * Yl x:=by
 unfold YH
 have:=Zdd (k+1+1) x.pattern.args
 simp only [Yl,Z5]
 omega
theorem Zlj (k:Int) (l:List Zr):YB k l≤k+16 * Yg l:=by
 induction l generalizing k with
 | nil=>simp [YB,Yg]
 | cons x r ih=>
  have h1:=ZlR k x
  have h2:=ih (YH k x)
  simp only [YB,Yg,List.length_cons,List.map_cons,List.sum_cons] at h2 ⊢
  omega
def Zg2 (k:Int) (x:Zf):Zf:=⟨mTx (k),(k+1),Zao (k+1+1) x.cond,XA (Yz (k+1+1) x.cond) x.thn⟩
def XK (k:Int) (x:Zf):Int:=YB (Yz (k+1+1) x.cond) x.thn
def Zco:Int→List Zf→List Zf
 | _,[]=>[]
 | k,x::r=>Zg2 k x::Zco (XK k x) r
def YC:Int→List Zf→Int
 | k,[]=>k
 | k,x::r=>YC (XK k x) r
theorem Zi4 (k:Int) (x:Zf):k≤XK k x:=by
 unfold XK
 have:=ZeT (k+1+1) x.cond
 have:=Zdb (Yz (k+1+1) x.cond) x.thn
 omega
theorem ZhJ (k:Int) (l:List Zf):k≤YC k l:=by
 induction l generalizing k with
 | nil=>exact Int.le_refl _
 | cons x r ih=>exact Int.le_trans (Zi4 k x) (ih _)
theorem Zou (k:Int) (x:Zf):XK k x≤k+2+16 * Yq x:=by
 unfold XK
 have:=Zng (k+1+1) x.cond
 have:=Zlj (Yz (k+1+1) x.cond) x.thn
 simp only [Yq]
 omega
theorem ZnJ (k:Int) (l:List Zf):YC k l≤k+16 * Yj l:=by
 induction l generalizing k with
 | nil=>simp [YC,Yj]
 | cons x r ih=>
  have h1:=Zou k x
  have h2:=ih (XK k x)
  simp only [YC,Yj,List.length_cons,List.map_cons,List.sum_cons] at h2 ⊢
  omega
end Go.Proofs.YtojnhepgnbhaaaaGreatDoor
namespace Go.Proofs.YtojnhepgnbhaaaaGreatDoor
open Go.RowKit
set_option maxHeartbeats 1600000 in
theorem Zcd (A:Option Addr) (n c:Nat) (ds:List ByteArray) (L:List Nat) (base:Nat) (k:Int) (w:World) (hn:n=ds.length) (hk0:1≤k) (hk1:ZG k ds≤4611686018427387904) (h:Got (ZY Zbm) base [.slice A n c] ds L w):
  Calls Tryz.prog 53 #[.slice A n c,.int .i64 k] w fun e w'=>e=.returned (.int .i64 (ZG k ds))∧Got (ZY Zbm) base [.slice A n c] (Ya k ds) L w'∧YF L w w':=by
 have H:=Lib.hid h
 have HN:=Lib.hid hn
 have hk1':k+n≤4611686018427387904:=by simp only [ZG] at hk1;omega
 clear h hn hk1
 go_enter Tryz.func53,Tryz.ntmps53
 go_wp2
 go_loopw [1,5] (fun q j wr=>∃(i:Nat) (kk:Int) (D:List ByteArray),i≤n∧j=.int .i64 i∧q=.int .i64 kk∧1≤kk∧kk+(n - i:Nat)≤4611686018427387904∧Hid (kk=k+i∧D.length=i∧D++Ya kk (ds.drop i)=Ya k ds)∧Hid (Got (ZY Zbm) base [.slice A n c] (D++ds.drop i) L wr)∧Hid (YF L w wr)) (fun _ j _=>n - (intOf j).toNat)
 case atStart=>exact ⟨0,k,[],Nat.zero_le _,rfl,rfl,hk0,by omega,⟨by omega,rfl,rfl⟩,H.out,YF.refl _ _⟩
 case round=>
  obtain ⟨i,kk,D,hi,rfl,rfl,h1,h2,HD,HG,HO⟩:=hrel
  by_cases hlt:i<n
  ·have hil:i<ds.length:=by have:=HN.out;omega
   obtain ⟨hkk,hDl,hDm⟩:=HD.out
   have hcl:i<(D++ds.drop i).length:=by simp;omega
   obtain ⟨b,off,cs,Lk,rfl,hbL,hLk,hown,hrep,hcells,hput⟩:=HG.out.focus hcl
   obtain ⟨rfl,hlk,_⟩:=hrep
   have HEl:=Lib.hid (ZbD.start (m:=1) hcells rfl hown)
   have hnext:Hid (ds.drop i=ds[i]::ds.drop (i+1)):=List.drop_eq_getElem_cons _
   have HPut:=Lib.hid hput
   have HOwn:=Lib.hid hown
   have HLk:=Lib.hid hLk
   have HLe:=Lib.hid hlk
   have HDn:Hid (kk+1=k+(i+1:Nat)∧(D++[mTx kk]).length=i+1∧(D++[mTx kk])++Ya (kk+1) (ds.drop (i+1))=Ya k ds):=by
    refine ⟨by omega,by simp [hDl],?_⟩
    rw [←hDm,hnext.out];simp [Ya]
   have hset:Hid ((D++ds.drop i).set i (mTx kk)=(D++[mTx kk])++ds.drop (i+1)):=by
    rw [Hid,List.set_append_right _ _ (by omega),show i - D.length=0 by omega,hnext.out,List.set_cons_zero];simp
   clear hput hown hLk hcells hkk hDl hDm hlk
   simp only [show Zbm.size=1 from rfl,Nat.mul_one] at HEl HPut
   go_wp2_with (go_at_call 50;refine (Y7 _ _ (by omega) (by omega)).mono ?_;rintro e w1 ⟨rfl,hb1⟩;have E1:=Lib.hid (HEl.out.later hb1);have q1:=E1.out.at (j:=0) rfl;have z1:=E1.out.frozen (off+i);clear hb1;simp only [Nat.add_zero] at q1)
   have E2:=Lib.hid (E1.out.set 0 (by omega) (.string (mTx kk)))
   have hO2:=Lib.hid (XO HOwn.out E2.out.plain E2.out.only (by rw [HLe.out];simp))
   have HGn:=Lib.hid (HPut.out _ _ (mTx kk) E2.out.only E2.out.cells E2.out.rest (by rw [HLe.out];exact ⟨rfl,rfl,ZcS _ (by omega)⟩) hO2.out)
   have HOn:=Lib.hid (HO.out.trans (E2.out.only.mono (fun y m=>by rcases List.mem_cons.1 m with rfl | m;exact hbL;exact HLk.out y m)))
   rw [hset.out] at HGn
   simp only [Nat.add_zero] at HGn HOn
   clear E2 hO2 HPut
   go_wp2_with fail
   go_roundw
   case rel=>exact ⟨i+1,kk+1,_,by omega,by go_num,rfl,by omega,by omega,HDn,HGn,HOn⟩
   case measure=>simp [intOf];omega
  ·obtain rfl:i=n:=by omega
   have hf:Hid (ZG k ds=kk∧D=Ya k ds):=by
    obtain ⟨h1,h2,h3⟩:=HD.out
    have e:ds.drop i=[]:=List.drop_of_length_le (by have:=HN.out;omega)
    rw [e] at h3
    simp [Ya] at h3
    exact ⟨by have:=HN.out;simp only [ZG];omega,h3⟩
   have e:Hid (ds.drop i=[]):=List.drop_of_length_le (by have:=HN.out;omega)
   rw [e.out,List.append_nil] at HG
   go_wp2
   go_ret
   exact ⟨Yo hf.out.1.symm,by rw [←hf.out.2];exact HG.out,HO.out⟩
set_option maxRecDepth 100000 in
set_option maxHeartbeats 4000000 in
theorem ZgC (A:Option Addr) (n c:Nat) (ds:List Zc) (L:List Nat) (base:Nat) (k:Int) (w:World) (hn:n=ds.length) (hm:n≤9223372036854775807) (hk0:1≤k) (hk1:Zy k ds≤4611686018427387904) (h:Got (ZY Y4) base [.slice A n c] ds L w):
  Calls Tryz.prog 19 #[.slice A n c,.int .i64 k] w fun e w'=>e=.returned (.int .i64 (Zy k ds))∧Got (ZY Y4) base [.slice A n c] (Xp k ds) L w'∧YF L w w':=by
 have H:=Lib.hid h
 have HN:=Lib.hid hn
 have HK:=Lib.hid hk1
 clear h hn hk1
 go_enter Tryz.func19,Tryz.ntmps19
 go_wp2
 go_loopw [1,5] (fun q j wr=>∃(i:Nat) (kk:Int) (D:List Zc),i≤n∧j=.int .i64 i∧q=.int .i64 kk∧1≤kk∧Hid (Zy kk (ds.drop i)=Zy k ds∧D.length=i∧D++Xp kk (ds.drop i)=Xp k ds)∧Hid (Got (ZY Y4) base [.slice A n c] (D++ds.drop i) L wr)∧Hid (YF L w wr)) (fun _ j _=>n - (intOf j).toNat)
 case atStart=>exact ⟨0,k,[],Nat.zero_le _,rfl,rfl,hk0,⟨rfl,rfl,rfl⟩,H.out,YF.refl _ _⟩
 case round=>
  obtain ⟨i,kk,D,hi,rfl,rfl,h1,HD,HG,HO⟩:=hrel
  by_cases hlt:i<n
  ·have hil:i<ds.length:=by have:=HN.out;omega
   obtain ⟨hkk,hDl,hDm⟩:=HD.out
   have hcl:i<(D++ds.drop i).length:=by simp;omega
   obtain ⟨b,off,cs,Lk,rfl,hbL,hLk,hown,hrep,hcells,hput⟩:=HG.out.focus hcl
   have hnext:Hid (ds.drop i=ds[i]::ds.drop (i+1)):=List.drop_eq_getElem_cons _
   have hxi:(D++ds.drop i)[i]=ds[i]:=by
    rw [List.getElem_append_right (by omega)];simp [hDl]
   rw [hxi] at hrep
   clear hxi
   generalize ds[i]=x at hrep hnext
   have hnb:Hid (Ys kk x≤4611686018427387904):=by
    have:=Zcq (Ys kk x) (ds.drop (i+1))
    rw [hnext.out] at hkk
    have hk:=HK.out
    rw [←hkk] at hk
    exact Int.le_trans this hk
   have hnb1:=hnb.out
   have hnb2:=Zfn kk x
   unfold Ys at hnb1 hnb2
   have HDn:Hid (Zy (Ys kk x) (ds.drop (i+1))=Zy k ds∧(D++[Zfl kk x]).length=i+1∧(D++[Zfl kk x])++Xp (Ys kk x) (ds.drop (i+1))=Xp k ds):=by
    refine ⟨by rw [←hkk,hnext.out];rfl,by simp [hDl],?_⟩
    rw [←hDm,hnext.out];simp [Xp]
   have hset:Hid ((D++ds.drop i).set i (Zfl kk x)=(D++[Zfl kk x])++ds.drop (i+1)):=by
    rw [Hid,List.set_append_right _ _ (by omega),show i - D.length=0 by omega,hnext.out,List.set_cons_zero];simp
   obtain ⟨A1,c1,L1,rfl,hLL,t0,n1,m1,s1⟩:=hrep
   unfold maxLen at m1
   subst Lk
   have HEl:=Lib.hid (ZbD.start (m:=2) hcells rfl hown)
   have hbn:=Lib.hid hown.head
   have G1:Hid (Got (ZY Zbm) base [.slice A1 x.args.length c1] x.args L1 wr):=⟨⟨A1,c1,rfl,n1,(by unfold maxLen;omega),s1⟩,hown.tail⟩
   have bn1:Hid (b∉L1):=fun m=>hown.head (by simp [m])
   have sb1:Hid (∀y∈L1,y∈L1):=fun y m=>by simp [m]
   clear s1
   have HPut:=Lib.hid hput
   have HOwn:=Lib.hid hown
   have HLk:=Lib.hid hLk
   clear hput hown hLk hcells hkk hDl hDm
   simp only [show Y4.size=2 from rfl] at HEl HPut
   have q0:=HEl.out.at (j:=0) rfl
   have z0:=HEl.out.frozen (off+i * 2)
   have q1:=HEl.out.at (j:=1) rfl
   have z1:=HEl.out.frozen (off+i * 2+1)
   simp only [Nat.add_zero] at q0
   have gm0:(0:Int)≤0:=by omega
   have mono_x_args:=Xl (kk+1) x.args
   go_wp2_with fail
   refine (Y7 _ _ (by omega) (by omega)).mono ?_
   rintro e w1 ⟨rfl,hb1⟩
   have HEl:=Lib.hid (HEl.out.later hb1)
   have G1:=Lib.hid (G1.out.later hb1)
   clear hb1
   clear q0 z0 q1 z1
   have q0:=HEl.out.at (j:=0) rfl
   have z0:=HEl.out.frozen (off+i * 2)
   have q1:=HEl.out.at (j:=1) rfl
   have z1:=HEl.out.frozen (off+i * 2+1)
   simp only [Nat.add_zero] at q0
   go_wp2_with fail
   have G1:=Lib.hid (G1.out.setFar (p:=⟨b,off+i * 2+0,none⟩) bn1.out (.string (mTx (kk))))
   refine (Zcd A1 _ c1 x.args L1 base _ _ rfl (by omega) (by omega) G1.out).mono ?_
   rintro e w2 ⟨rfl,g2,on2⟩
   have HEl:=Lib.hid ((HEl.out.set 0 (by omega) (.string (mTx (kk)))).marked on2 sb1.out bn1.out)
   have G1:=Lib.hid g2
   clear g2 on2
   clear q0 z0 q1 z1
   have q0:=HEl.out.at (j:=0) rfl
   have z0:=HEl.out.frozen (off+i * 2)
   have q1:=HEl.out.at (j:=1) rfl
   have z1:=HEl.out.frozen (off+i * 2+1)
   simp only [Nat.add_zero] at q0
   obtain ⟨nn1,mm1,ss1⟩:=ZU G1.out.rep
   have hO2:=Lib.hid (XO HOwn.out HEl.out.plain HEl.out.only (fun y m=>by (try simp only [List.mem_append] at m);exact G1.out.own.plain y m))
   have HGn:=Lib.hid (HPut.out _ _ (Zfl kk x) HEl.out.only HEl.out.cells HEl.out.rest ⟨A1,c1,L1,by simp [Zfl,Zai],rfl,ZcS _ (by omega),nn1,mm1,ss1⟩ hO2.out)
   have HOn:=Lib.hid (HO.out.trans (HEl.out.only.mono (fun y m=>by rcases List.mem_cons.1 m with rfl | m;exact hbL;exact HLk.out y m)))
   rw [hset.out] at HGn
   try simp only [Nat.add_zero] at HGn HOn
   clear HEl hO2 HPut G1 nn1 mm1 ss1
   go_wp2_with fail
   go_roundw
   case rel=>exact ⟨i+1,Ys kk x,_,by omega,by go_num,rfl,by unfold Ys;omega,HDn,HGn,HOn⟩
   case measure=>simp [intOf];omega
  ·obtain rfl:i=n:=by omega
   have e:Hid (ds.drop i=[]):=List.drop_of_length_le (by have:=HN.out;omega)
   have hf:Hid (Zy k ds=kk∧D=Xp k ds):=by
    obtain ⟨h1,h2,h3⟩:=HD.out
    rw [e.out] at h3 h1
    simp [Xp] at h3
    exact ⟨h1.symm,h3⟩
   rw [e.out,List.append_nil] at HG
   go_wp2
   go_ret
   exact ⟨Yo hf.out.1.symm,by rw [←hf.out.2];exact HG.out,HO.out⟩
set_option maxRecDepth 100000 in
set_option maxHeartbeats 4000000 in
theorem Zl7 (A:Option Addr) (n c:Nat) (ds:List Zm) (L:List Nat) (base:Nat) (k:Int) (w:World) (hn:n=ds.length) (hm:n≤9223372036854775807) (hk0:1≤k) (hk1:Yz k ds≤4611686018427387904) (h:Got (ZY XV) base [.slice A n c] ds L w):
  Calls Tryz.prog 51 #[.slice A n c,.int .i64 k] w fun e w'=>e=.returned (.int .i64 (Yz k ds))∧Got (ZY XV) base [.slice A n c] (Zao k ds) L w'∧YF L w w':=by
 have H:=Lib.hid h
 have HN:=Lib.hid hn
 have HK:=Lib.hid hk1
 clear h hn hk1
 go_enter Tryz.func51,Tryz.ntmps51
 go_wp2
 go_loopw [1,5] (fun q j wr=>∃(i:Nat) (kk:Int) (D:List Zm),i≤n∧j=.int .i64 i∧q=.int .i64 kk∧1≤kk∧Hid (Yz kk (ds.drop i)=Yz k ds∧D.length=i∧D++Zao kk (ds.drop i)=Zao k ds)∧Hid (Got (ZY XV) base [.slice A n c] (D++ds.drop i) L wr)∧Hid (YF L w wr)) (fun _ j _=>n - (intOf j).toNat)
 case atStart=>exact ⟨0,k,[],Nat.zero_le _,rfl,rfl,hk0,⟨rfl,rfl,rfl⟩,H.out,YF.refl _ _⟩
 case round=>
  obtain ⟨i,kk,D,hi,rfl,rfl,h1,HD,HG,HO⟩:=hrel
  by_cases hlt:i<n
  ·have hil:i<ds.length:=by have:=HN.out;omega
   obtain ⟨hkk,hDl,hDm⟩:=HD.out
   have hcl:i<(D++ds.drop i).length:=by simp;omega
   obtain ⟨b,off,cs,Lk,rfl,hbL,hLk,hown,hrep,hcells,hput⟩:=HG.out.focus hcl
   have hnext:Hid (ds.drop i=ds[i]::ds.drop (i+1)):=List.drop_eq_getElem_cons _
   have hxi:(D++ds.drop i)[i]=ds[i]:=by
    rw [List.getElem_append_right (by omega)];simp [hDl]
   rw [hxi] at hrep
   clear hxi
   generalize ds[i]=x at hrep hnext
   have hnb:Hid (XD kk x≤4611686018427387904):=by
    have:=ZeT (XD kk x) (ds.drop (i+1))
    rw [hnext.out] at hkk
    have hk:=HK.out
    rw [←hkk] at hk
    exact Int.le_trans this hk
   have hnb1:=hnb.out
   have hnb2:=ZiT kk x
   unfold XD at hnb1 hnb2
   have HDn:Hid (Yz (XD kk x) (ds.drop (i+1))=Yz k ds∧(D++[Zhq kk x]).length=i+1∧(D++[Zhq kk x])++Zao (XD kk x) (ds.drop (i+1))=Zao k ds):=by
    refine ⟨by rw [←hkk,hnext.out];rfl,by simp [hDl],?_⟩
    rw [←hDm,hnext.out];simp [Zao]
   have hset:Hid ((D++ds.drop i).set i (Zhq kk x)=(D++[Zhq kk x])++ds.drop (i+1)):=by
    rw [Hid,List.set_append_right _ _ (by omega),show i - D.length=0 by omega,hnext.out,List.set_cons_zero];simp
   obtain ⟨A1,c1,L1,rfl,hLL,t0,t1,t2,n1,m1,s1⟩:=hrep
   unfold maxLen at m1
   subst Lk
   have HEl:=Lib.hid (ZbD.start (m:=5) hcells rfl hown)
   have hbn:=Lib.hid hown.head
   have G1:Hid (Got (ZY Zbm) base [.slice A1 x.pattern.args.length c1] x.pattern.args L1 wr):=⟨⟨A1,c1,rfl,n1,(by unfold maxLen;omega),s1⟩,hown.tail⟩
   have bn1:Hid (b∉L1):=fun m=>hown.head (by simp [m])
   have sb1:Hid (∀y∈L1,y∈L1):=fun y m=>by simp [m]
   clear s1
   have HPut:=Lib.hid hput
   have HOwn:=Lib.hid hown
   have HLk:=Lib.hid hLk
   clear hput hown hLk hcells hkk hDl hDm
   simp only [show XV.size=5 from rfl] at HEl HPut
   have q0:=HEl.out.at (j:=0) rfl
   have z0:=HEl.out.frozen (off+i * 5)
   have q1:=HEl.out.at (j:=1) rfl
   have z1:=HEl.out.frozen (off+i * 5+1)
   have q2:=HEl.out.at (j:=2) rfl
   have z2:=HEl.out.frozen (off+i * 5+2)
   have q3:=HEl.out.at (j:=3) rfl
   have z3:=HEl.out.frozen (off+i * 5+3)
   have q4:=HEl.out.at (j:=4) rfl
   have z4:=HEl.out.frozen (off+i * 5+4)
   simp only [Nat.add_zero] at q0
   have gm0:(0:Int)≤0:=by omega
   have mono_x_pattern_args:=Xl (kk+1+1) x.pattern.args
   go_wp2_with fail
   refine (Y7 _ _ (by omega) (by omega)).mono ?_
   rintro e w1 ⟨rfl,hb1⟩
   have HEl:=Lib.hid ((HEl.out.set 0 (by omega) (.int .i64 (kk))).later hb1)
   have G1:=Lib.hid ((G1.out.setFar (p:=⟨b,off+i * 5+0,none⟩) bn1.out (.int .i64 (kk))).later hb1)
   clear hb1
   clear q0 z0 q1 z1 q2 z2 q3 z3 q4 z4
   have q0:=HEl.out.at (j:=0) rfl
   have z0:=HEl.out.frozen (off+i * 5)
   have q1:=HEl.out.at (j:=1) rfl
   have z1:=HEl.out.frozen (off+i * 5+1)
   have q2:=HEl.out.at (j:=2) rfl
   have z2:=HEl.out.frozen (off+i * 5+2)
   have q3:=HEl.out.at (j:=3) rfl
   have z3:=HEl.out.frozen (off+i * 5+3)
   have q4:=HEl.out.at (j:=4) rfl
   have z4:=HEl.out.frozen (off+i * 5+4)
   simp only [Nat.add_zero] at q0
   go_wp2_with fail
   have G1:=Lib.hid (G1.out.setFar (p:=⟨b,off+i * 5+1,none⟩) bn1.out (.string (mTx (kk+1))))
   refine (Zcd A1 _ c1 x.pattern.args L1 base _ _ rfl (by omega) (by omega) G1.out).mono ?_
   rintro e w2 ⟨rfl,g2,on2⟩
   have HEl:=Lib.hid ((HEl.out.set 1 (by omega) (.string (mTx (kk+1)))).marked on2 sb1.out bn1.out)
   have G1:=Lib.hid g2
   clear g2 on2
   clear q0 z0 q1 z1 q2 z2 q3 z3 q4 z4
   have q0:=HEl.out.at (j:=0) rfl
   have z0:=HEl.out.frozen (off+i * 5)
   have q1:=HEl.out.at (j:=1) rfl
   have z1:=HEl.out.frozen (off+i * 5+1)
   have q2:=HEl.out.at (j:=2) rfl
   have z2:=HEl.out.frozen (off+i * 5+2)
   have q3:=HEl.out.at (j:=3) rfl
   have z3:=HEl.out.frozen (off+i * 5+3)
   have q4:=HEl.out.at (j:=4) rfl
   have z4:=HEl.out.frozen (off+i * 5+4)
   simp only [Nat.add_zero] at q0
   go_wp2_with fail
   refine (Y7 _ _ (by omega) (by omega)).mono ?_
   rintro e w3 ⟨rfl,hb3⟩
   have HEl:=Lib.hid (HEl.out.later hb3)
   have G1:=Lib.hid (G1.out.later hb3)
   clear hb3
   clear q0 z0 q1 z1 q2 z2 q3 z3 q4 z4
   have q0:=HEl.out.at (j:=0) rfl
   have z0:=HEl.out.frozen (off+i * 5)
   have q1:=HEl.out.at (j:=1) rfl
   have z1:=HEl.out.frozen (off+i * 5+1)
   have q2:=HEl.out.at (j:=2) rfl
   have z2:=HEl.out.frozen (off+i * 5+2)
   have q3:=HEl.out.at (j:=3) rfl
   have z3:=HEl.out.frozen (off+i * 5+3)
   have q4:=HEl.out.at (j:=4) rfl
   have z4:=HEl.out.frozen (off+i * 5+4)
   simp only [Nat.add_zero] at q0
   go_wp2_with fail
   refine (Y7 _ _ (by omega) (by omega)).mono ?_
   rintro e w4 ⟨rfl,hb4⟩
   have HEl:=Lib.hid ((HEl.out.set 3 (by omega) (.string (mTx (ZG (kk+1+1) x.pattern.args)))).later hb4)
   have G1:=Lib.hid ((G1.out.setFar (p:=⟨b,off+i * 5+3,none⟩) bn1.out (.string (mTx (ZG (kk+1+1) x.pattern.args)))).later hb4)
   clear hb4
   clear q0 z0 q1 z1 q2 z2 q3 z3 q4 z4
   have q0:=HEl.out.at (j:=0) rfl
   have z0:=HEl.out.frozen (off+i * 5)
   have q1:=HEl.out.at (j:=1) rfl
   have z1:=HEl.out.frozen (off+i * 5+1)
   have q2:=HEl.out.at (j:=2) rfl
   have z2:=HEl.out.frozen (off+i * 5+2)
   have q3:=HEl.out.at (j:=3) rfl
   have z3:=HEl.out.frozen (off+i * 5+3)
   have q4:=HEl.out.at (j:=4) rfl
   have z4:=HEl.out.frozen (off+i * 5+4)
   simp only [Nat.add_zero] at q0
   have HEl:=Lib.hid (HEl.out.set 4 (by omega) (.string (mTx (ZG (kk+1+1) x.pattern.args+1))))
   have G1:=Lib.hid (G1.out.setFar (p:=⟨b,off+i * 5+4,none⟩) bn1.out (.string (mTx (ZG (kk+1+1) x.pattern.args+1))))
   obtain ⟨nn1,mm1,ss1⟩:=ZU G1.out.rep
   have hO2:=Lib.hid (XO HOwn.out HEl.out.plain HEl.out.only (fun y m=>by (try simp only [List.mem_append] at m);exact G1.out.own.plain y m))
   have HGn:=Lib.hid (HPut.out _ _ (Zhq kk x) HEl.out.only HEl.out.cells HEl.out.rest ⟨A1,c1,L1,by simp [Zhq,Zai],rfl,ZcS _ (by omega),ZcS _ (by omega),ZcS _ (by omega),nn1,mm1,ss1⟩ hO2.out)
   have HOn:=Lib.hid (HO.out.trans (HEl.out.only.mono (fun y m=>by rcases List.mem_cons.1 m with rfl | m;exact hbL;exact HLk.out y m)))
   rw [hset.out] at HGn
   try simp only [Nat.add_zero] at HGn HOn
   clear HEl hO2 HPut G1 nn1 mm1 ss1
   go_wp2_with fail
   go_roundw
   case rel=>exact ⟨i+1,XD kk x,_,by omega,by go_num,rfl,by unfold XD;omega,HDn,HGn,HOn⟩
   case measure=>simp [intOf];omega
  ·obtain rfl:i=n:=by omega
   have e:Hid (ds.drop i=[]):=List.drop_of_length_le (by have:=HN.out;omega)
   have hf:Hid (Yz k ds=kk∧D=Zao k ds):=by
    obtain ⟨h1,h2,h3⟩:=HD.out
    rw [e.out] at h3 h1
    simp [Zao] at h3
    exact ⟨h1.symm,h3⟩
   rw [e.out,List.append_nil] at HG
   go_wp2
   go_ret
   exact ⟨Yo hf.out.1.symm,by rw [←hf.out.2];exact HG.out,HO.out⟩
set_option maxRecDepth 100000 in
set_option maxHeartbeats 4000000 in
theorem ZjG (A:Option Addr) (n c:Nat) (ds:List Zr) (L:List Nat) (base:Nat) (k:Int) (w:World) (hn:n=ds.length) (hm:n≤9223372036854775807) (hk0:1≤k) (hk1:YB k ds≤4611686018427387904) (h:Got (ZY Yk) base [.slice A n c] ds L w):
  Calls Tryz.prog 52 #[.slice A n c,.int .i64 k] w fun e w'=>e=.returned (.int .i64 (YB k ds))∧Got (ZY Yk) base [.slice A n c] (XA k ds) L w'∧YF L w w':=by
 have H:=Lib.hid h
 have HN:=Lib.hid hn
 have HK:=Lib.hid hk1
 clear h hn hk1
 go_enter Tryz.func52,Tryz.ntmps52
 go_wp2
 go_loopw [1,5] (fun q j wr=>∃(i:Nat) (kk:Int) (D:List Zr),i≤n∧j=.int .i64 i∧q=.int .i64 kk∧1≤kk∧Hid (YB kk (ds.drop i)=YB k ds∧D.length=i∧D++XA kk (ds.drop i)=XA k ds)∧Hid (Got (ZY Yk) base [.slice A n c] (D++ds.drop i) L wr)∧Hid (YF L w wr)) (fun _ j _=>n - (intOf j).toNat)
 case atStart=>exact ⟨0,k,[],Nat.zero_le _,rfl,rfl,hk0,⟨rfl,rfl,rfl⟩,H.out,YF.refl _ _⟩
 case round=>
  obtain ⟨i,kk,D,hi,rfl,rfl,h1,HD,HG,HO⟩:=hrel
  by_cases hlt:i<n
  ·have hil:i<ds.length:=by have:=HN.out;omega
   obtain ⟨hkk,hDl,hDm⟩:=HD.out
   have hcl:i<(D++ds.drop i).length:=by simp;omega
   obtain ⟨b,off,cs,Lk,rfl,hbL,hLk,hown,hrep,hcells,hput⟩:=HG.out.focus hcl
   have hnext:Hid (ds.drop i=ds[i]::ds.drop (i+1)):=List.drop_eq_getElem_cons _
   have hxi:(D++ds.drop i)[i]=ds[i]:=by
    rw [List.getElem_append_right (by omega)];simp [hDl]
   rw [hxi] at hrep
   clear hxi
   generalize ds[i]=x at hrep hnext
   have hnb:Hid (YH kk x≤4611686018427387904):=by
    have:=Zdb (YH kk x) (ds.drop (i+1))
    rw [hnext.out] at hkk
    have hk:=HK.out
    rw [←hkk] at hk
    exact Int.le_trans this hk
   have hnb1:=hnb.out
   have hnb2:=Zgy kk x
   unfold YH at hnb1 hnb2
   have HDn:Hid (YB (YH kk x) (ds.drop (i+1))=YB k ds∧(D++[Zdj kk x]).length=i+1∧(D++[Zdj kk x])++XA (YH kk x) (ds.drop (i+1))=XA k ds):=by
    refine ⟨by rw [←hkk,hnext.out];rfl,by simp [hDl],?_⟩
    rw [←hDm,hnext.out];simp [XA]
   have hset:Hid ((D++ds.drop i).set i (Zdj kk x)=(D++[Zdj kk x])++ds.drop (i+1)):=by
    rw [Hid,List.set_append_right _ _ (by omega),show i - D.length=0 by omega,hnext.out,List.set_cons_zero];simp
   obtain ⟨A1,c1,L1,rfl,hLL,t0,n1,m1,s1⟩:=hrep
   unfold maxLen at m1
   subst Lk
   have HEl:=Lib.hid (ZbD.start (m:=3) hcells rfl hown)
   have hbn:=Lib.hid hown.head
   have G1:Hid (Got (ZY Zbm) base [.slice A1 x.pattern.args.length c1] x.pattern.args L1 wr):=⟨⟨A1,c1,rfl,n1,(by unfold maxLen;omega),s1⟩,hown.tail⟩
   have bn1:Hid (b∉L1):=fun m=>hown.head (by simp [m])
   have sb1:Hid (∀y∈L1,y∈L1):=fun y m=>by simp [m]
   clear s1
   have HPut:=Lib.hid hput
   have HOwn:=Lib.hid hown
   have HLk:=Lib.hid hLk
   clear hput hown hLk hcells hkk hDl hDm
   simp only [show Yk.size=3 from rfl] at HEl HPut
   have q0:=HEl.out.at (j:=0) rfl
   have z0:=HEl.out.frozen (off+i * 3)
   have q1:=HEl.out.at (j:=1) rfl
   have z1:=HEl.out.frozen (off+i * 3+1)
   have q2:=HEl.out.at (j:=2) rfl
   have z2:=HEl.out.frozen (off+i * 3+2)
   simp only [Nat.add_zero] at q0
   have gm0:(0:Int)≤0:=by omega
   have mono_x_pattern_args:=Xl (kk+1+1) x.pattern.args
   go_wp2_with fail
   refine (Y7 _ _ (by omega) (by omega)).mono ?_
   rintro e w1 ⟨rfl,hb1⟩
   have HEl:=Lib.hid ((HEl.out.set 0 (by omega) (.int .i64 (kk))).later hb1)
   have G1:=Lib.hid ((G1.out.setFar (p:=⟨b,off+i * 3+0,none⟩) bn1.out (.int .i64 (kk))).later hb1)
   clear hb1
   clear q0 z0 q1 z1 q2 z2
   have q0:=HEl.out.at (j:=0) rfl
   have z0:=HEl.out.frozen (off+i * 3)
   have q1:=HEl.out.at (j:=1) rfl
   have z1:=HEl.out.frozen (off+i * 3+1)
   have q2:=HEl.out.at (j:=2) rfl
   have z2:=HEl.out.frozen (off+i * 3+2)
   simp only [Nat.add_zero] at q0
   go_wp2_with fail
   have G1:=Lib.hid (G1.out.setFar (p:=⟨b,off+i * 3+1,none⟩) bn1.out (.string (mTx (kk+1))))
   refine (Zcd A1 _ c1 x.pattern.args L1 base _ _ rfl (by omega) (by omega) G1.out).mono ?_
   rintro e w2 ⟨rfl,g2,on2⟩
   have HEl:=Lib.hid ((HEl.out.set 1 (by omega) (.string (mTx (kk+1)))).marked on2 sb1.out bn1.out)
   have G1:=Lib.hid g2
   clear g2 on2
   clear q0 z0 q1 z1 q2 z2
   have q0:=HEl.out.at (j:=0) rfl
   have z0:=HEl.out.frozen (off+i * 3)
   have q1:=HEl.out.at (j:=1) rfl
   have z1:=HEl.out.frozen (off+i * 3+1)
   have q2:=HEl.out.at (j:=2) rfl
   have z2:=HEl.out.frozen (off+i * 3+2)
   simp only [Nat.add_zero] at q0
   obtain ⟨nn1,mm1,ss1⟩:=ZU G1.out.rep
   have hO2:=Lib.hid (XO HOwn.out HEl.out.plain HEl.out.only (fun y m=>by (try simp only [List.mem_append] at m);exact G1.out.own.plain y m))
   have HGn:=Lib.hid (HPut.out _ _ (Zdj kk x) HEl.out.only HEl.out.cells HEl.out.rest ⟨A1,c1,L1,by simp [Zdj,Zai],rfl,ZcS _ (by omega),nn1,mm1,ss1⟩ hO2.out)
   have HOn:=Lib.hid (HO.out.trans (HEl.out.only.mono (fun y m=>by rcases List.mem_cons.1 m with rfl | m;exact hbL;exact HLk.out y m)))
   rw [hset.out] at HGn
   try simp only [Nat.add_zero] at HGn HOn
   clear HEl hO2 HPut G1 nn1 mm1 ss1
   go_wp2_with fail
   go_roundw
   case rel=>exact ⟨i+1,YH kk x,_,by omega,by go_num,rfl,by unfold YH;omega,HDn,HGn,HOn⟩
   case measure=>simp [intOf];omega
  ·obtain rfl:i=n:=by omega
   have e:Hid (ds.drop i=[]):=List.drop_of_length_le (by have:=HN.out;omega)
   have hf:Hid (YB k ds=kk∧D=XA k ds):=by
    obtain ⟨h1,h2,h3⟩:=HD.out
    rw [e.out] at h3 h1
    simp [XA] at h3
    exact ⟨h1.symm,h3⟩
   rw [e.out,List.append_nil] at HG
   go_wp2
   go_ret
   exact ⟨Yo hf.out.1.symm,by rw [←hf.out.2];exact HG.out,HO.out⟩
set_option maxRecDepth 100000 in
set_option maxHeartbeats 4000000 in
theorem ZlE (A:Option Addr) (n c:Nat) (ds:List Zf) (L:List Nat) (base:Nat) (k:Int) (w:World) (hn:n=ds.length) (hm:n≤9223372036854775807) (hk0:1≤k) (hk1:YC k ds≤4611686018427387904) (h:Got (ZY XU) base [.slice A n c] ds L w):
  Calls Tryz.prog 18 #[.slice A n c,.int .i64 k] w fun e w'=>e=.returned (.int .i64 (YC k ds))∧Got (ZY XU) base [.slice A n c] (Zco k ds) L w'∧YF L w w':=by
 have H:=Lib.hid h
 have HN:=Lib.hid hn
 have HK:=Lib.hid hk1
 clear h hn hk1
 go_enter Tryz.func18,Tryz.ntmps18
 go_wp2
 go_loopw [1,5] (fun q j wr=>∃(i:Nat) (kk:Int) (D:List Zf),i≤n∧j=.int .i64 i∧q=.int .i64 kk∧1≤kk∧Hid (YC kk (ds.drop i)=YC k ds∧D.length=i∧D++Zco kk (ds.drop i)=Zco k ds)∧Hid (Got (ZY XU) base [.slice A n c] (D++ds.drop i) L wr)∧Hid (YF L w wr)) (fun _ j _=>n - (intOf j).toNat)
 case atStart=>exact ⟨0,k,[],Nat.zero_le _,rfl,rfl,hk0,⟨rfl,rfl,rfl⟩,H.out,YF.refl _ _⟩
 case round=>
  obtain ⟨i,kk,D,hi,rfl,rfl,h1,HD,HG,HO⟩:=hrel
  by_cases hlt:i<n
  ·have hil:i<ds.length:=by have:=HN.out;omega
   obtain ⟨hkk,hDl,hDm⟩:=HD.out
   have hcl:i<(D++ds.drop i).length:=by simp;omega
   obtain ⟨b,off,cs,Lk,rfl,hbL,hLk,hown,hrep,hcells,hput⟩:=HG.out.focus hcl
   have hnext:Hid (ds.drop i=ds[i]::ds.drop (i+1)):=List.drop_eq_getElem_cons _
   have hxi:(D++ds.drop i)[i]=ds[i]:=by
    rw [List.getElem_append_right (by omega)];simp [hDl]
   rw [hxi] at hrep
   clear hxi
   generalize ds[i]=x at hrep hnext
   have hnb:Hid (XK kk x≤4611686018427387904):=by
    have:=ZhJ (XK kk x) (ds.drop (i+1))
    rw [hnext.out] at hkk
    have hk:=HK.out
    rw [←hkk] at hk
    exact Int.le_trans this hk
   have hnb1:=hnb.out
   have hnb2:=Zi4 kk x
   unfold XK at hnb1 hnb2
   have HDn:Hid (YC (XK kk x) (ds.drop (i+1))=YC k ds∧(D++[Zg2 kk x]).length=i+1∧(D++[Zg2 kk x])++Zco (XK kk x) (ds.drop (i+1))=Zco k ds):=by
    refine ⟨by rw [←hkk,hnext.out];rfl,by simp [hDl],?_⟩
    rw [←hDm,hnext.out];simp [Zco]
   have hset:Hid ((D++ds.drop i).set i (Zg2 kk x)=(D++[Zg2 kk x])++ds.drop (i+1)):=by
    rw [Hid,List.set_append_right _ _ (by omega),show i - D.length=0 by omega,hnext.out,List.set_cons_zero];simp
   obtain ⟨A1,c1,L1,A2,c2,L2,rfl,hLL,t0,n1,m1,s1,n2,m2,s2⟩:=hrep
   unfold maxLen at m1 m2
   subst hLL
   have HEl:=Lib.hid (ZbD.start (m:=4) hcells rfl hown)
   have hbn:=Lib.hid hown.head
   have G1:Hid (Got (ZY XV) base [.slice A1 x.cond.length c1] x.cond L1 wr):=⟨⟨A1,c1,rfl,n1,(by unfold maxLen;omega),s1⟩,hown.tail.left⟩
   have bn1:Hid (b∉L1):=fun m=>hown.head (by simp [m])
   have sb1:Hid (∀y∈L1,y∈L1++L2):=fun y m=>by simp [m]
   have ap1_2:Hid (∀y∈L1,y∉L2):=fun y m m'=>hown.tail.apart y m (by simp [m'])
   have ap2_1:Hid (∀y∈L2,y∉L1):=fun y m m'=>ap1_2.out y m' m
   have G2:Hid (Got (ZY Yk) base [.slice A2 x.thn.length c2] x.thn L2 wr):=⟨⟨A2,c2,rfl,n2,(by unfold maxLen;omega),s2⟩,hown.tail.right⟩
   have bn2:Hid (b∉L2):=fun m=>hown.head (by simp [m])
   have sb2:Hid (∀y∈L2,y∈L1++L2):=fun y m=>by simp [m]
   clear s1
   clear s2
   have HPut:=Lib.hid hput
   have HOwn:=Lib.hid hown
   have HLk:=Lib.hid hLk
   clear hput hown hLk hcells hkk hDl hDm
   simp only [show XU.size=4 from rfl] at HEl HPut
   have q0:=HEl.out.at (j:=0) rfl
   have z0:=HEl.out.frozen (off+i * 4)
   have q1:=HEl.out.at (j:=1) rfl
   have z1:=HEl.out.frozen (off+i * 4+1)
   have q2:=HEl.out.at (j:=2) rfl
   have z2:=HEl.out.frozen (off+i * 4+2)
   have q3:=HEl.out.at (j:=3) rfl
   have z3:=HEl.out.frozen (off+i * 4+3)
   simp only [Nat.add_zero] at q0
   have gm0:(0:Int)≤0:=by omega
   have mono_x_cond:=ZeT (kk+1+1) x.cond
   have mono_x_thn:=Zdb (Yz (kk+1+1) x.cond) x.thn
   go_wp2_with fail
   refine (Y7 _ _ (by omega) (by omega)).mono ?_
   rintro e w1 ⟨rfl,hb1⟩
   have HEl:=Lib.hid (HEl.out.later hb1)
   have G1:=Lib.hid (G1.out.later hb1)
   have G2:=Lib.hid (G2.out.later hb1)
   clear hb1
   clear q0 z0 q1 z1 q2 z2 q3 z3
   have q0:=HEl.out.at (j:=0) rfl
   have z0:=HEl.out.frozen (off+i * 4)
   have q1:=HEl.out.at (j:=1) rfl
   have z1:=HEl.out.frozen (off+i * 4+1)
   have q2:=HEl.out.at (j:=2) rfl
   have z2:=HEl.out.frozen (off+i * 4+2)
   have q3:=HEl.out.at (j:=3) rfl
   have z3:=HEl.out.frozen (off+i * 4+3)
   simp only [Nat.add_zero] at q0
   go_wp2_with fail
   have G1:=Lib.hid ((G1.out.setFar (p:=⟨b,off+i * 4+0,none⟩) bn1.out (.string (mTx (kk)))).setFar (p:=⟨b,off+i * 4+1,none⟩) bn1.out (.int .i64 (kk+1)))
   refine (Zl7 A1 _ c1 x.cond L1 base _ _ rfl (by omega) (by omega) (by omega) G1.out).mono ?_
   rintro e w2 ⟨rfl,g2,on2⟩
   have HEl:=Lib.hid (((HEl.out.set 0 (by omega) (.string (mTx (kk)))).set 1 (by omega) (.int .i64 (kk+1))).marked on2 sb1.out bn1.out)
   have G1:=Lib.hid g2
   have G2:=Lib.hid (((G2.out.setFar (p:=⟨b,off+i * 4+0,none⟩) bn2.out (.string (mTx (kk)))).setFar (p:=⟨b,off+i * 4+1,none⟩) bn2.out (.int .i64 (kk+1))).only on2 ap2_1.out)
   clear g2 on2
   clear q0 z0 q1 z1 q2 z2 q3 z3
   have q0:=HEl.out.at (j:=0) rfl
   have z0:=HEl.out.frozen (off+i * 4)
   have q1:=HEl.out.at (j:=1) rfl
   have z1:=HEl.out.frozen (off+i * 4+1)
   have q2:=HEl.out.at (j:=2) rfl
   have z2:=HEl.out.frozen (off+i * 4+2)
   have q3:=HEl.out.at (j:=3) rfl
   have z3:=HEl.out.frozen (off+i * 4+3)
   simp only [Nat.add_zero] at q0
   go_wp2_with fail
   refine (ZjG A2 _ c2 x.thn L2 base _ _ rfl (by omega) (by omega) (by omega) G2.out).mono ?_
   rintro e w3 ⟨rfl,g3,on3⟩
   have HEl:=Lib.hid (HEl.out.marked on3 sb2.out bn2.out)
   have G1:=Lib.hid (G1.out.only on3 ap1_2.out)
   have G2:=Lib.hid g3
   clear g3 on3
   clear q0 z0 q1 z1 q2 z2 q3 z3
   have q0:=HEl.out.at (j:=0) rfl
   have z0:=HEl.out.frozen (off+i * 4)
   have q1:=HEl.out.at (j:=1) rfl
   have z1:=HEl.out.frozen (off+i * 4+1)
   have q2:=HEl.out.at (j:=2) rfl
   have z2:=HEl.out.frozen (off+i * 4+2)
   have q3:=HEl.out.at (j:=3) rfl
   have z3:=HEl.out.frozen (off+i * 4+3)
   simp only [Nat.add_zero] at q0
   obtain ⟨nn1,mm1,ss1⟩:=ZU G1.out.rep
   obtain ⟨nn2,mm2,ss2⟩:=ZU G2.out.rep
   have hO2:=Lib.hid (XO HOwn.out HEl.out.plain HEl.out.only (fun y m=>by (try simp only [List.mem_append] at m);rcases m with m | m<;>first | exact G1.out.own.plain y m | exact G2.out.own.plain y m))
   have HGn:=Lib.hid (HPut.out _ _ (Zg2 kk x) HEl.out.only HEl.out.cells HEl.out.rest ⟨A1,c1,L1,A2,c2,L2,by simp [Zg2,ZoK,ZlZ],rfl,ZcS _ (by omega),nn1,mm1,ss1,nn2,mm2,ss2⟩ hO2.out)
   have HOn:=Lib.hid (HO.out.trans (HEl.out.only.mono (fun y m=>by rcases List.mem_cons.1 m with rfl | m;exact hbL;exact HLk.out y m)))
   rw [hset.out] at HGn
   try simp only [Nat.add_zero] at HGn HOn
   clear HEl hO2 HPut G1 G2 nn1 nn2 mm1 mm2 ss1 ss2
   go_wp2_with fail
   go_roundw
   case rel=>exact ⟨i+1,XK kk x,_,by omega,by go_num,rfl,by unfold XK;omega,HDn,HGn,HOn⟩
   case measure=>simp [intOf];omega
  ·obtain rfl:i=n:=by omega
   have e:Hid (ds.drop i=[]):=List.drop_of_length_le (by have:=HN.out;omega)
   have hf:Hid (YC k ds=kk∧D=Zco k ds):=by
    obtain ⟨h1,h2,h3⟩:=HD.out
    rw [e.out] at h3 h1
    simp [Zco] at h3
    exact ⟨h1.symm,h3⟩
   rw [e.out,List.append_nil] at HG
   go_wp2
   go_ret
   exact ⟨Yo hf.out.1.symm,by rw [←hf.out.2];exact HG.out,HO.out⟩
end Go.Proofs.YtojnhepgnbhaaaaGreatDoor
namespace Go.Proofs.YtojnhepgnbhaaaaGreatDoor
open Go.RowKit
theorem Zgt {w w1:World} {B:Nat} (h:Below w.drew.heap.size w.drew w1) (hB:B≤w.heap.size):Below B w w1:=⟨h.os,h.tape,h.output,h.size,fun k hk=>h.block k (Nat.lt_of_lt_of_le hk hB)⟩
set_option maxHeartbeats 1600000 in
theorem Zjx (A:Option Addr) (n c:Nat) (ds:List ByteArray) (L:List Nat) (k:Int) (w:World) (hn:n=ds.length) (hk0:1≤k) (hk1:ZG k ds≤4611686018427387904) (h:Sli Zbm w A (Ya k ds) L):
  Calls Tryz.prog 55 #[.slice A n c,.int .i64 k] w fun e w'=>e=.returned (.int .i64 (ZG k ds))∧Below w.heap.size w w':=by
 have H:=Lib.hid h
 have HN:=Lib.hid hn
 have hk1':k+n≤4611686018427387904:=by simp only [ZG] at hk1;omega
 clear h hn hk1
 go_enter Tryz.func55,Tryz.ntmps55
 go_wp2
 go_loopw [1,5] (fun q j wr=>∃(i:Nat) (kk:Int),i≤n∧j=.int .i64 i∧q=.int .i64 kk∧1≤kk∧kk+(n - i:Nat)≤4611686018427387904∧Hid (kk=k+i∧(Ya k ds).drop i=Ya kk (ds.drop i))∧Hid (Below w.heap.size w wr)) (fun _ j _=>n - (intOf j).toNat)
 case atStart=>exact ⟨0,k,Nat.zero_le _,rfl,rfl,hk0,by omega,⟨by omega,rfl⟩,Below.refl _ _⟩
 case round=>
  obtain ⟨i,kk,hi,rfl,rfl,h1,h2,HD,HB⟩:=hrel
  by_cases hlt:i<n
  ·have hil:i<ds.length:=by have:=HN.out;omega
   obtain ⟨hkk,hdr⟩:=HD.out
   have hml:i<(Ya k ds).length:=by rw [Zai];exact hil
   obtain ⟨b,off,cs,Lk,rfl,hbL,_,hrep,hc⟩:=H.out.at_ hml
   have hdr2:=hdr
   rw [List.drop_eq_getElem_cons hml,List.drop_eq_getElem_cons hil,Ya] at hdr2
   injection hdr2 with e1 e2
   rw [e1] at hrep
   obtain ⟨rfl,_,_⟩:=hrep
   have hbl:b<w.heap.size:=H.out.lt b hbL
   have hbr:b<wr.heap.size:=Nat.lt_of_lt_of_le hbl HB.out.size
   have q0:=(HB.out.cell (p:=⟨b,off+(i * Zbm.size+0),none⟩) hbl).trans (hc 0 _ rfl)
   simp only [show Zbm.size=1 from rfl,Nat.mul_one,Nat.add_zero] at q0
   have HDn:Hid (kk+1=k+(i+1:Nat)∧(Ya k ds).drop (i+1)=Ya (kk+1) (ds.drop (i+1))):=⟨by omega,e2⟩
   clear hc hkk hdr e1 e2
   have i0:(0:Int)≤i:=by omega
   have i1:(i:Int)<n:=by omega
   go_wp2_with fail
   go_region_held3 (fun w'=>w'.cell? ⟨b,off+i,none⟩=some (.string (mTx kk))) (first | go_keep | exact (hb1.cell (p:=⟨b,off+i,none⟩) hbr).trans q0) (first | (go_at_call 50;refine (Y7 _ _ (by omega) (by omega)).mono ?_;rintro e w1 ⟨rfl,hb1⟩))
   have HBn:=Lib.hid (HB.out.trans (Zgt hb1 HB.out.size))
   clear hb1
   go_wp2_with fail
   go_roundw
   case rel=>exact ⟨i+1,kk+1,by omega,by go_num,rfl,by omega,by omega,HDn,HBn⟩
   case measure=>simp [intOf];omega
  ·obtain rfl:i=n:=by omega
   have hf:Hid (ZG k ds=kk):=by
    obtain ⟨h1,_⟩:=HD.out
    have:=HN.out;rw [Hid];simp only [ZG];omega
   go_wp2
   go_ret
   exact ⟨Yo hf.out.symm,HB.out⟩
set_option maxRecDepth 100000 in
set_option maxHeartbeats 4000000 in
theorem ZgJ (A:Option Addr) (n c:Nat) (ds:List Zc) (L:List Nat) (k:Int) (w:World) (hn:n=ds.length) (hm:n≤9223372036854775807) (hk0:1≤k) (hk1:Zy k ds≤4611686018427387904) (h:Sli Y4 w A (Xp k ds) L):
  Calls Tryz.prog 21 #[.slice A n c,.int .i64 k] w fun e w'=>e=.returned (.int .i64 (Zy k ds))∧Below w.heap.size w w':=by
 have H:=Lib.hid h
 have HN:=Lib.hid hn
 have HK:=Lib.hid hk1
 clear h hn hk1
 go_enter Tryz.func21,Tryz.ntmps21
 go_wp2
 go_loopw [1,5] (fun q j wr=>∃(i:Nat) (kk:Int),i≤n∧j=.int .i64 i∧q=.int .i64 kk∧1≤kk∧Hid (Zy kk (ds.drop i)=Zy k ds∧(Xp k ds).drop i=Xp kk (ds.drop i))∧Hid (Below w.heap.size w wr)) (fun _ j _=>n - (intOf j).toNat)
 case atStart=>exact ⟨0,k,Nat.zero_le _,rfl,rfl,hk0,⟨rfl,rfl⟩,Below.refl _ _⟩
 case round=>
  obtain ⟨i,kk,hi,rfl,rfl,h1,HD,HB⟩:=hrel
  by_cases hlt:i<n
  ·have hil:i<ds.length:=by have:=HN.out;omega
   obtain ⟨hkk,hdr⟩:=HD.out
   have hml:i<(Xp k ds).length:=by rw [Zo1];exact hil
   obtain ⟨b,off,cs,Lk,rfl,hbL,hLk,hrep,hc⟩:=H.out.at_ hml
   rw [List.drop_eq_getElem_cons hml,List.drop_eq_getElem_cons hil,Xp] at hdr
   injection hdr with e1 e2
   rw [e1] at hrep
   clear e1
   have hnext:ds.drop i=ds[i]::ds.drop (i+1):=List.drop_eq_getElem_cons _
   rw [hnext] at hkk
   clear hnext
   generalize ds[i]=x at hrep hkk e2
   have hnb:Hid (Ys kk x≤4611686018427387904):=by
    have:=Zcq (Ys kk x) (ds.drop (i+1))
    have hk:=HK.out
    rw [←hkk] at hk
    exact Int.le_trans this hk
   have hnb1:=hnb.out
   have hnb2:=Zfn kk x
   unfold Ys at hnb1 hnb2
   have HDn:Hid (Zy (Ys kk x) (ds.drop (i+1))=Zy k ds∧(Xp k ds).drop (i+1)=Xp (Ys kk x) (ds.drop (i+1))):=⟨hkk,e2⟩
   have hbl:b<w.heap.size:=H.out.lt b hbL
   clear hkk e2
   obtain ⟨A1,c1,L1,rfl,hLL,t0,n1,m1,s1⟩:=hrep
   have S1:=Lib.hid s1
   have lL1:Hid (∀y∈L1,y<w.heap.size):=fun y m=>H.out.lt y (hLk y (by rw [hLL];simp [m]))
   have ll1:(Zfl kk x).args.length=x.args.length:=Zai _ _
   clear s1
   have Q0:=Lib.hid (hc 0 _ rfl)
   have Q1:=Lib.hid (hc 1 _ rfl)
   unfold maxLen at m1
   rw [ll1] at Q1 n1
   clear hc ll1
   have i0:(0:Int)≤i:=by omega
   have i1:(i:Int)<n:=by omega
   have mono_x_args:=Xl (kk+1) x.args
   have q0:wr.cell? ⟨b,off+i * 2,none⟩=some (.string (mTx (kk))):=(HB.out.cell (p:=⟨b,off+(i * 2+0),none⟩) hbl).trans Q0.out
   have q1:wr.cell? ⟨b,off+i * 2+1,none⟩=some (.slice A1 x.args.length c1):=(HB.out.cell (p:=⟨b,off+(i * 2+1),none⟩) hbl).trans Q1.out
   have hbr:b<wr.heap.size:=Nat.lt_of_lt_of_le hbl HB.out.size
   go_wp2_with fail
   go_region_held3 (fun w'=>w'.cell? ⟨b,off+i * 2,none⟩=some (.string (mTx (kk)))) (first | go_keep | exact (hb1.cell (p:=⟨b,off+i * 2,none⟩) hbr).trans q0) (first | (go_at_call 50;refine (Y7 _ _ (by omega) (by omega)).mono ?_;rintro e w1 ⟨rfl,hb1⟩))
   have HB:=Lib.hid (HB.out.trans (Zgt hb1 HB.out.size))
   clear hb1
   clear q0 q1
   have q0:w1.cell? ⟨b,off+i * 2,none⟩=some (.string (mTx (kk))):=(HB.out.cell (p:=⟨b,off+(i * 2+0),none⟩) hbl).trans Q0.out
   have q1:w1.cell? ⟨b,off+i * 2+1,none⟩=some (.slice A1 x.args.length c1):=(HB.out.cell (p:=⟨b,off+(i * 2+1),none⟩) hbl).trans Q1.out
   replace hbr:b<w1.heap.size:=Nat.lt_of_lt_of_le hbl HB.out.size
   go_wp2_with fail
   refine (Zjx A1 _ c1 x.args L1 _ _ rfl (by omega) (by omega) (S1.out.keep (ZN HB.out lL1.out))).mono ?_
   rintro e w2 ⟨rfl,hb2⟩
   have HB:=Lib.hid (HB.out.trans (hb2.mono HB.out.size))
   clear hb2
   clear q0 q1
   have q0:w2.cell? ⟨b,off+i * 2,none⟩=some (.string (mTx (kk))):=(HB.out.cell (p:=⟨b,off+(i * 2+0),none⟩) hbl).trans Q0.out
   have q1:w2.cell? ⟨b,off+i * 2+1,none⟩=some (.slice A1 x.args.length c1):=(HB.out.cell (p:=⟨b,off+(i * 2+1),none⟩) hbl).trans Q1.out
   replace hbr:b<w2.heap.size:=Nat.lt_of_lt_of_le hbl HB.out.size
   have ge2:¬(ZG (kk+1) x.args<0):=by omega
   go_wp2_with fail
   go_roundw
   case rel=>exact ⟨i+1,Ys kk x,by omega,by go_num,rfl,by unfold Ys;omega,HDn,HB⟩
   case measure=>simp [intOf];omega
  ·obtain rfl:i=n:=by omega
   have hf:Hid (Zy k ds=kk):=by
    obtain ⟨h1,_⟩:=HD.out
    rw [Hid,←h1,List.drop_of_length_le (by have:=HN.out;omega)];rfl
   go_wp2
   go_ret
   exact ⟨Yo hf.out.symm,HB.out⟩
end Go.Proofs.YtojnhepgnbhaaaaGreatDoor
namespace Go.Proofs.YtojnhepgnbhaaaaGreatDoor
open Go.RowKit Go.Deep
def ZhR {α:Type} (P:Program) (t:TypeId) (c:YL α) (wf:α→Prop):Prop:=
 ∀{H:Type} {enc:TypeId × Value→H} {w:World} {base:Nat} {spare:Nat→Bool} {held:Bool} {fuel:Nat} {cs:List Value} {x:DataW H × List MemPlace},
  DataW.trod enc P w base spare held fuel t cs=some x→∃d L,c.rep w cs d L∧wf d
theorem Zin {P:Program} {t:TypeId} (ht:P.underlying t=some (.int .i64)):ZhR P t Zgq Zjk:=by
 intro H enc w base spare held fuel cs x h
 obtain ⟨n,rfl,_,hw⟩:=DataW.trod_int ht h
 refine ⟨n,[],⟨rfl,rfl⟩,?_⟩
 simp [Lit.wf,IntKind.min,IntKind.max,IntKind.signed,IntKind.bits] at hw
 exact ⟨by omega,by omega⟩
theorem Qp {P:Program} {t:TypeId} (ht:P.underlying t=some .string):ZhR P t Zbm (fun _=>True):=by
 intro H enc w base spare held fuel cs x h
 obtain ⟨s,rfl,_,hs⟩:=DataW.trod_string ht h
 exact ⟨s,[],⟨rfl,rfl,by unfold maxLen at hs;omega⟩,trivial⟩
theorem ZaH {α:Type} {c:YL α} {wf:α→Prop} {P:Program} {t e:TypeId} (ht:P.underlying t=some (.slice e)) (hc:P.cellsOf e=c.size) (ho:ZhR P e c wf):ZhR P t (ZY c) (fun ds=>∀d∈ds,wf d):=by
 intro H enc w base spare held fuel cs x h
 rcases open_slice ht h with ⟨rfl,_⟩ | ⟨a,len,cap,m,n,D,Pl,rfl,hb,hl,hm,hmm,_,hx⟩
 ·exact ⟨[],[],⟨none,0,rfl,Nat.le_refl _,Nat.zero_le _,Sli.nil _ _⟩,by simp⟩
 ·have hlm:len≤m:=by rw [hmm];split<;>omega
  have key:∀q,q≤len→∃(xs:List Value) (ds:List α) (L:List Nat),ds.length=q∧(∀j u,xs[j]?=some u→w.cell? (a.add j)=some u)∧c.reps w xs ds L∧∀d∈ds,wf d:=by
   intro q
   induction q with
   | zero=>exact fun _=>⟨[],[],[],rfl,by simp,⟨rfl,rfl⟩,by simp⟩
   | succ q ih=>
    intro hq
    obtain ⟨xs,ds,L,hd,hcell,hr,hwf⟩:=ih (by omega)
    obtain ⟨cs',h1,h2⟩:=hx q (by omega)
    obtain ⟨d,Lq,hrep,hwd⟩:=ho h2
    obtain ⟨_,hlen,hat⟩:=World.cells?_some h1
    refine ⟨xs++cs',ds++[d],L++Lq,by simp [hd],fun j u hu=>?_,Zdz hr (Zjn hrep),?_⟩
    ·have hxl:xs.length=q * c.size:=by rw [ZfZ hr,hd]
     rw [List.getElem?_append] at hu
     split at hu
     ·exact hcell j u hu
     ·rename_i hj
      have hj2:=(List.getElem?_eq_some_iff.1 hu).1
      have:=hat (j - xs.length) (by omega)
      rw [←hu,←this,Go.Deep.add_add,hc,←hxl]
      congr 2
      omega
    ·intro y hy
     rcases List.mem_append.1 hy with hy | hy
     ·exact hwf y hy
     ·simp at hy;subst hy;exact hwd
  obtain ⟨xs,ds,L,hd,hcell,hr,hwf⟩:=key len (Nat.le_refl _)
  have hxl:=ZfZ hr
  rcases Nat.eq_zero_or_pos len with h0 | h0
  ·have:ds=[]:=List.eq_nil_of_length_eq_zero (by omega)
   subst this
   refine ⟨[],[],⟨some a,cap,by simp at hd;rw [←hd];rfl,by simp,hm,Sli.nil _ _⟩,by simp⟩
  ·obtain ⟨b,off,sp⟩:=a
   have hp:0<xs.length:=by rw [hxl,hd];exact Nat.mul_pos h0 c.pos
   have hsp:sp=none:=by
    have h1:=hcell 0 _ (List.getElem?_eq_getElem hp)
    have e:(⟨b,off,sp⟩:Addr).add 0=⟨b,off,sp⟩:=by simp [Addr.add]
    rw [e] at h1
    cases sp with
    | none=>rfl
    | some q=>
     simp only [World.cell?] at h1
     split at h1<;>simp at h1
   subst hsp
   refine ⟨ds,[b]++L,⟨some ⟨b,off,none⟩,cap,by rw [hd],by omega,hm,xs,[b],L,rfl,⟨by rw [hxl],.inr ⟨by omega,b,off,rfl,rfl,fun j u hu=>?_⟩⟩,hr⟩,hwf⟩
   have:=hcell j u hu
   rwa [ZcL] at this
end Go.Proofs.YtojnhepgnbhaaaaGreatDoor
namespace Go.Proofs.YtojnhepgnbhaaaaGreatDoor
open Go.RowKit
theorem ZCi {aRules:List Zf} {aBase:List Zc} {r0:List Zc} {r1:Bool} (hh:ZAw aRules aBase=some (r0,r1)) (w:World) (hj:J0 w) (AaRules:Option Addr) (caRules:Nat) (LaRules:List Nat) (haRules:(ZY XU).rep w [.slice AaRules aRules.length caRules] aRules LaRules) (AaBase:Option Addr) (caBase:Nat) (LaBase:List Nat) (haBase:(ZY Y4).rep w [.slice AaBase aBase.length caBase] aBase LaBase):
  Calls Tryz.prog 23 #[.slice AaRules aRules.length caRules,.slice AaBase aBase.length caBase] w (ZCj Y4 57 w r0 r1):=
 Zn.givesSB (c:=Y4) (g:=Zq) (ds:=r0) (b:=r1) (ZCh hh) ZjV hj (vs:=[_,_]) ⟨Znw ZqW _ haRules,Znw ZjV _ haBase,trivial⟩
theorem ZBd {aRules:List Zf} {aBase:List Zc} {r0:List Zc} {r1:Bool} (hh:ZAv aRules aBase=some (r0,r1)) (w:World) (hj:J0 w) (AaRules:Option Addr) (caRules:Nat) (LaRules:List Nat) (haRules:(ZY XU).rep w [.slice AaRules aRules.length caRules] aRules LaRules) (AaBase:Option Addr) (caBase:Nat) (LaBase:List Nat) (haBase:(ZY Y4).rep w [.slice AaBase aBase.length caBase] aBase LaBase):
  Calls Tryz.prog 24 #[.slice AaRules aRules.length caRules,.slice AaBase aBase.length caBase] w (ZCj Y4 57 w r0 r1):=
 Zn.givesSB (c:=Y4) (g:=Zq) (ds:=r0) (b:=r1) (ZCl hh) ZjV hj (vs:=[_,_]) ⟨Znw ZqW _ haRules,Znw ZjV _ haBase,trivial⟩
set_option maxRecDepth 100000 in
set_option maxHeartbeats 8000000 in
theorem ZA2 (w:World) (hJ:J0 w) (A_aRules:Option Addr) (c_aRules:Nat) (aRules:List Zf) (L_aRules:List Nat) (ln_aRules:aRules.length≤9223372036854775807) (h_aRules:Sli XU w A_aRules aRules L_aRules) (A_aBase:Option Addr) (c_aBase:Nat) (aBase:List Zc) (L_aBase:List Nat) (ln_aBase:aBase.length≤9223372036854775807) (h_aBase:Sli Y4 w A_aBase aBase L_aBase) (wf_aRules:(fun ds=>∀d∈ds,ZpL d) aRules) (wf_aBase:(fun ds=>∀d∈ds,ZpO d) aBase):
  Calls Tryz.prog 4 #[.slice A_aRules aRules.length c_aRules,.slice A_aBase aBase.length c_aBase] w fun e w'=>e=.returned (.bool true)∧Below w.heap.size w w':=by
 have HJ:=Lib.hid hJ
 clear hJ
 have H_aRules:=Lib.hid h_aRules
 clear h_aRules
 have H_aBase:=Lib.hid h_aBase
 clear h_aBase
 go_enter Tryz.func4,Tryz.ntmps4
 go_wp2_with fail
 refine (Zn6 A_aRules _ c_aRules aRules L_aRules _ _ rfl ln_aRules (by omega) (by omega) (H_aRules.out.below (Below.refl w.heap.size w))).mono ?_
 rintro e w1 ⟨rfl,hb⟩
 have B1:=Lib.hid ((Below.refl w.heap.size w).trans (hb.mono (Below.refl w.heap.size w).size))
 have sz1:=hb.size
 clear hb
 by_cases cc_aRules:((Yj aRules:Nat):Int)≤1048576
 rotate_left
 ·rw [ZX cc_aRules]
  go_wp2
  go_ret
  exact ⟨rfl,B1.out⟩
 rw [Y8 cc_aRules]
 have cz_aRules:Yj aRules≤1048576:=by omega
 have cl_aRules:aRules.length≤1048576:=by have:=cz_aRules;simp only [Yj] at this;omega
 have nn_aRules:¬(1048576 - ((Yj aRules:Nat):Int)<0):=by omega
 go_wp2_with fail
 refine (Zpq A_aBase _ c_aBase aBase L_aBase _ _ rfl ln_aBase (by omega) (by omega) (H_aBase.out.below B1.out)).mono ?_
 rintro e w2 ⟨rfl,hb⟩
 have B2:=Lib.hid (B1.out.trans (hb.mono B1.out.size))
 have sz2:=hb.size
 clear B1
 clear hb
 by_cases cc_aBase:((Yd aBase:Nat):Int)≤1048576 - ((Yj aRules:Nat):Int)
 rotate_left
 ·rw [ZX cc_aBase]
  go_wp2
  go_ret
  exact ⟨rfl,B2.out⟩
 rw [Y8 cc_aBase]
 have cz_aBase:Yd aBase≤1048576:=by omega
 have cl_aBase:aBase.length≤1048576:=by have:=cz_aBase;simp only [Yd] at this;omega
 have nn_aBase:¬(1048576 - ((Yj aRules:Nat):Int) - ((Yd aBase:Nat):Int)<0):=by omega
 obtain ⟨R0,R1,hs0,hi0,rl⟩:=ZBP aRules cz_aRules wf_aRules aBase cz_aBase wf_aBase
 go_wp2_with fail
 refine (Zdw A_aRules _ c_aRules aRules L_aRules _ rfl cz_aRules (H_aRules.out.below B2.out)).mono ?_
 rintro e w3 ⟨v,rfl,acc⟩
 obtain ⟨A_t2aRules,c_t2aRules,rfl⟩:=acc.shape
 have hb:=acc.below
 obtain ⟨L_t2aRules,gt⟩:=acc.got
 have B3:=Lib.hid (B2.out.trans (hb.mono B2.out.size))
 have sz3:=hb.size
 clear B2
 have V_t2aRules:=Lib.hid gt
 have ge_t2aRules:=Lib.hid gt.own.ge
 have lt_t2aRules:=Lib.hid gt.lt
 clear gt hb acc
 go_wp2_with fail
 refine (ZdN A_aBase _ c_aBase aBase L_aBase _ rfl cz_aBase (H_aBase.out.below B3.out)).mono ?_
 rintro e w4 ⟨v,rfl,acc⟩
 obtain ⟨A_t3aBase,c_t3aBase,rfl⟩:=acc.shape
 have hb:=acc.below
 obtain ⟨L_t3aBase,gt⟩:=acc.got
 have B4:=Lib.hid (B3.out.trans (hb.mono B3.out.size))
 have sz4:=hb.size
 have V_t2aRules:=Lib.hid (V_t2aRules.out.later hb)
 clear B3
 have V_t3aBase:=Lib.hid gt
 have ge_t3aBase:=Lib.hid gt.own.ge
 have lt_t3aBase:=Lib.hid gt.lt
 clear gt hb acc
 go_wp2_with fail
 refine (ZCi hs0 _ (ZiG hJ0 HJ.out B4.out) A_t2aRules c_t2aRules L_t2aRules V_t2aRules.out.rep A_t3aBase c_t3aBase L_t3aBase V_t3aBase.out.rep).mono ?_
 rintro e w5 ⟨v,rfl,acc⟩
 obtain ⟨A_w0,c_w0,rfl⟩:=acc.shape
 have hb:=acc.below
 obtain ⟨L_w0,gt⟩:=acc.got
 have B5:=Lib.hid (B4.out.trans (hb.mono B4.out.size))
 have sz5:=hb.size
 have V_t2aRules:=Lib.hid (V_t2aRules.out.later hb)
 have V_t3aBase:=Lib.hid (V_t3aBase.out.later hb)
 clear B4
 have V_w0:=Lib.hid gt
 have ge_w0:=Lib.hid gt.own.ge
 have lt_w0:=Lib.hid gt.lt
 clear gt hb acc
 clear V_t2aRules
 clear V_t3aBase
 go_wp2_with fail
 refine (Zdw A_aRules _ c_aRules aRules L_aRules _ rfl cz_aRules (H_aRules.out.below B5.out)).mono ?_
 rintro e w6 ⟨v,rfl,acc⟩
 obtain ⟨A_x0,c_x0,rfl⟩:=acc.shape
 have hb:=acc.below
 obtain ⟨L_x0,gt⟩:=acc.got
 have B6:=Lib.hid (B5.out.trans (hb.mono B5.out.size))
 have sz6:=hb.size
 have V_w0:=Lib.hid (V_w0.out.later hb)
 clear B5
 have V_x0:=Lib.hid gt
 have ge_x0:=Lib.hid gt.own.ge
 have lt_x0:=Lib.hid gt.lt
 clear gt hb acc
 go_wp2_with fail
 refine (ZdN A_aBase _ c_aBase aBase L_aBase _ rfl cz_aBase (H_aBase.out.below B6.out)).mono ?_
 rintro e w7 ⟨v,rfl,acc⟩
 obtain ⟨A_x1,c_x1,rfl⟩:=acc.shape
 have hb:=acc.below
 obtain ⟨L_x1,gt⟩:=acc.got
 have B7:=Lib.hid (B6.out.trans (hb.mono B6.out.size))
 have sz7:=hb.size
 have V_w0:=Lib.hid (V_w0.out.later hb)
 have V_x0:=Lib.hid (V_x0.out.later hb)
 clear B6
 have V_x1:=Lib.hid gt
 have ge_x1:=Lib.hid gt.own.ge
 have lt_x1:=Lib.hid gt.lt
 clear gt hb acc
 go_wp2_with fail
 refine (ZBd hi0 _ (ZiG hJ0 HJ.out B7.out) A_x0 c_x0 L_x0 V_x0.out.rep A_x1 c_x1 L_x1 V_x1.out.rep).mono ?_
 rintro e w8 ⟨v,rfl,acc⟩
 obtain ⟨A_g0,c_g0,rfl⟩:=acc.shape
 have hb:=acc.below
 obtain ⟨L_g0,gt⟩:=acc.got
 have B8:=Lib.hid (B7.out.trans (hb.mono B7.out.size))
 have sz8:=hb.size
 have V_w0:=Lib.hid (V_w0.out.later hb)
 have V_x0:=Lib.hid (V_x0.out.later hb)
 have V_x1:=Lib.hid (V_x1.out.later hb)
 clear B7
 have V_g0:=Lib.hid gt
 have ge_g0:=Lib.hid gt.own.ge
 have lt_g0:=Lib.hid gt.lt
 clear gt hb acc
 go_wp2_with fail
 refine (ZdB A_g0 A_w0 _ c_g0 c_w0 _ L_g0 L_w0 _ rfl (by omega) (ZU V_g0.out.rep).2.2 (ZU V_w0.out.rep).2.2).mono ?_
 rintro e w9 ⟨rfl,hb⟩
 have B9:=Lib.hid (B8.out.trans (hb.mono B8.out.size))
 have sz9:=hb.size
 have V_w0:=Lib.hid (V_w0.out.later hb)
 have V_x0:=Lib.hid (V_x0.out.later hb)
 have V_x1:=Lib.hid (V_x1.out.later hb)
 have V_g0:=Lib.hid (V_g0.out.later hb)
 clear B8
 clear hb
 go_wp2_with fail
 refine (Zdw A_aRules _ c_aRules aRules L_aRules _ rfl cz_aRules (H_aRules.out.below B9.out)).mono ?_
 rintro e w10 ⟨v,rfl,acc⟩
 obtain ⟨A_t9aRules,c_t9aRules,rfl⟩:=acc.shape
 have hb:=acc.below
 obtain ⟨L_t9aRules,gt⟩:=acc.got
 have B10:=Lib.hid (B9.out.trans (hb.mono B9.out.size))
 have sz10:=hb.size
 have V_w0:=Lib.hid (V_w0.out.later hb)
 have V_x0:=Lib.hid (V_x0.out.later hb)
 have V_x1:=Lib.hid (V_x1.out.later hb)
 have V_g0:=Lib.hid (V_g0.out.later hb)
 clear B9
 have V_t9aRules:=Lib.hid gt
 have ge_t9aRules:=Lib.hid gt.own.ge
 have lt_t9aRules:=Lib.hid gt.lt
 clear gt hb acc
 go_wp2_with fail
 refine (ZoU A_x0 A_t9aRules _ c_x0 c_t9aRules _ L_x0 L_t9aRules _ rfl (by omega) (ZU V_x0.out.rep).2.2 (ZU V_t9aRules.out.rep).2.2).mono ?_
 rintro e w11 ⟨rfl,hb⟩
 have B11:=Lib.hid (B10.out.trans (hb.mono B10.out.size))
 have sz11:=hb.size
 have V_w0:=Lib.hid (V_w0.out.later hb)
 have V_x0:=Lib.hid (V_x0.out.later hb)
 have V_x1:=Lib.hid (V_x1.out.later hb)
 have V_g0:=Lib.hid (V_g0.out.later hb)
 have V_t9aRules:=Lib.hid (V_t9aRules.out.later hb)
 clear B10
 clear hb
 clear V_t9aRules
 go_wp2_with fail
 refine (ZdN A_aBase _ c_aBase aBase L_aBase _ rfl cz_aBase (H_aBase.out.below B11.out)).mono ?_
 rintro e w12 ⟨v,rfl,acc⟩
 obtain ⟨A_t11aBase,c_t11aBase,rfl⟩:=acc.shape
 have hb:=acc.below
 obtain ⟨L_t11aBase,gt⟩:=acc.got
 have B12:=Lib.hid (B11.out.trans (hb.mono B11.out.size))
 have sz12:=hb.size
 have V_w0:=Lib.hid (V_w0.out.later hb)
 have V_x0:=Lib.hid (V_x0.out.later hb)
 have V_x1:=Lib.hid (V_x1.out.later hb)
 have V_g0:=Lib.hid (V_g0.out.later hb)
 clear B11
 have V_t11aBase:=Lib.hid gt
 have ge_t11aBase:=Lib.hid gt.own.ge
 have lt_t11aBase:=Lib.hid gt.lt
 clear gt hb acc
 go_wp2_with fail
 refine (ZdB A_x1 A_t11aBase _ c_x1 c_t11aBase _ L_x1 L_t11aBase _ rfl (by omega) (ZU V_x1.out.rep).2.2 (ZU V_t11aBase.out.rep).2.2).mono ?_
 rintro e w13 ⟨rfl,hb⟩
 have B13:=Lib.hid (B12.out.trans (hb.mono B12.out.size))
 have sz13:=hb.size
 have V_w0:=Lib.hid (V_w0.out.later hb)
 have V_x0:=Lib.hid (V_x0.out.later hb)
 have V_x1:=Lib.hid (V_x1.out.later hb)
 have V_g0:=Lib.hid (V_g0.out.later hb)
 have V_t11aBase:=Lib.hid (V_t11aBase.out.later hb)
 clear B12
 clear hb
 clear V_t11aBase
 have nl_x0_13:=ZnJ ((1:Int)) aRules
 have nb_x0_13:YC ((1:Int)) aRules≤4611686018427387904:=by omega
 have ng_x0_13:=ZhJ ((1:Int)) aRules
 go_wp2_with fail
 refine (ZlE A_x0 _ c_x0 aRules L_x0 _ _ _ rfl (by omega) (by omega) (by omega) V_x0.out).mono ?_
 rintro e w14 ⟨rfl,gm,on⟩
 have B14:=Lib.hid (B13.out.trans (on.below B13.out.size (fun y m=>by have:=ge_x0.out y m;omega)))
 have sz14:=on.size
 have V_w0:=Lib.hid (V_w0.out.only on (fun y m m'=>by have:=lt_w0.out y m;have:=ge_x0.out y m';omega))
 have V_x1:=Lib.hid (V_x1.out.only on (fun y m m'=>by have:=ge_x1.out y m;have:=lt_x0.out y m';omega))
 have V_g0:=Lib.hid (V_g0.out.only on (fun y m m'=>by have:=ge_g0.out y m;have:=lt_x0.out y m';omega))
 clear B13
 have V_x0:=Lib.hid gm
 clear gm on
 clear V_x0
 have nl_x1_14:=Zht (YC ((1:Int)) aRules) aBase
 have nb_x1_14:Zy (YC ((1:Int)) aRules) aBase≤4611686018427387904:=by omega
 have ng_x1_14:=Zcq (YC ((1:Int)) aRules) aBase
 go_wp2_with fail
 refine (ZgC A_x1 _ c_x1 aBase L_x1 _ _ _ rfl (by omega) (by omega) (by omega) V_x1.out).mono ?_
 rintro e w15 ⟨rfl,gm,on⟩
 have B15:=Lib.hid (B14.out.trans (on.below B14.out.size (fun y m=>by have:=ge_x1.out y m;omega)))
 have sz15:=on.size
 have V_w0:=Lib.hid (V_w0.out.only on (fun y m m'=>by have:=lt_w0.out y m;have:=ge_x1.out y m';omega))
 have V_g0:=Lib.hid (V_g0.out.only on (fun y m m'=>by have:=ge_g0.out y m;have:=lt_x1.out y m';omega))
 clear B14
 have V_x1:=Lib.hid gm
 clear gm on
 clear V_x1
 have kn:¬(Zy (YC ((1:Int)) aRules) aBase<0):=by omega
 go_wp2_with fail
 refine (ZdB A_g0 A_w0 _ c_g0 c_w0 _ L_g0 L_w0 _ rfl (by omega) (ZU V_g0.out.rep).2.2 (ZU V_w0.out.rep).2.2).mono ?_
 rintro e w16 ⟨rfl,hb⟩
 have B16:=Lib.hid (B15.out.trans (hb.mono B15.out.size))
 have sz16:=hb.size
 have V_w0:=Lib.hid (V_w0.out.later hb)
 have V_g0:=Lib.hid (V_g0.out.later hb)
 clear B15
 clear hb
 have nl_g0_16:=Zht ((1:Int)) R0
 have nb_g0_16:Zy ((1:Int)) R0≤4611686018427387904:=by omega
 have ng_g0_16:=Zcq ((1:Int)) R0
 go_wp2_with fail
 refine (ZgC A_g0 _ c_g0 R0 L_g0 _ _ _ rfl (by omega) (by omega) (by omega) V_g0.out).mono ?_
 rintro e w17 ⟨rfl,gm,on⟩
 have B17:=Lib.hid (B16.out.trans (on.below B16.out.size (fun y m=>by have:=ge_g0.out y m;omega)))
 have sz17:=on.size
 have V_w0:=Lib.hid (V_w0.out.only on (fun y m m'=>by have:=lt_w0.out y m;have:=ge_g0.out y m';omega))
 clear B16
 have V_g0:=Lib.hid gm
 clear gm on
 go_wp2_with fail
 refine (ZgJ A_g0 _ c_g0 R0 L_g0 _ _ rfl (by omega) (by omega) (by omega) (ZU V_g0.out.rep).2.2).mono ?_
 rintro e w18 ⟨rfl,hb⟩
 have B18:=Lib.hid (B17.out.trans (hb.mono B17.out.size))
 have sz18:=hb.size
 have V_w0:=Lib.hid (V_w0.out.later hb)
 have V_g0:=Lib.hid (V_g0.out.later hb)
 clear B17
 clear hb
 have qn18:¬(Zy ((1:Int)) R0<0):=by omega
 have qm18:((Zy ((1:Int)) R0) != (Zy ((1:Int)) R0))=false:=by simp
 go_wp2_with fail
 refine (Zdw A_aRules _ c_aRules aRules L_aRules _ rfl cz_aRules (H_aRules.out.below B18.out)).mono ?_
 rintro e w19 ⟨v,rfl,acc⟩
 obtain ⟨A_t18aRules,c_t18aRules,rfl⟩:=acc.shape
 have hb:=acc.below
 obtain ⟨L_t18aRules,gt⟩:=acc.got
 have B19:=Lib.hid (B18.out.trans (hb.mono B18.out.size))
 have sz19:=hb.size
 have V_w0:=Lib.hid (V_w0.out.later hb)
 have V_g0:=Lib.hid (V_g0.out.later hb)
 clear B18
 have V_t18aRules:=Lib.hid gt
 have ge_t18aRules:=Lib.hid gt.own.ge
 have lt_t18aRules:=Lib.hid gt.lt
 clear gt hb acc
 go_wp2_with fail
 refine (ZdN A_aBase _ c_aBase aBase L_aBase _ rfl cz_aBase (H_aBase.out.below B19.out)).mono ?_
 rintro e w20 ⟨v,rfl,acc⟩
 obtain ⟨A_t19aBase,c_t19aBase,rfl⟩:=acc.shape
 have hb:=acc.below
 obtain ⟨L_t19aBase,gt⟩:=acc.got
 have B20:=Lib.hid (B19.out.trans (hb.mono B19.out.size))
 have sz20:=hb.size
 have V_w0:=Lib.hid (V_w0.out.later hb)
 have V_g0:=Lib.hid (V_g0.out.later hb)
 have V_t18aRules:=Lib.hid (V_t18aRules.out.later hb)
 clear B19
 have V_t19aBase:=Lib.hid gt
 have ge_t19aBase:=Lib.hid gt.own.ge
 have lt_t19aBase:=Lib.hid gt.lt
 clear gt hb acc
 go_wp2_with fail
 refine (ZBd hi0 _ (ZiG hJ0 HJ.out B20.out) A_t18aRules c_t18aRules L_t18aRules V_t18aRules.out.rep A_t19aBase c_t19aBase L_t19aBase V_t19aBase.out.rep).mono ?_
 rintro e w21 ⟨v,rfl,acc⟩
 obtain ⟨A_h0,c_h0,rfl⟩:=acc.shape
 have hb:=acc.below
 obtain ⟨L_h0,gt⟩:=acc.got
 have B21:=Lib.hid (B20.out.trans (hb.mono B20.out.size))
 have sz21:=hb.size
 have V_w0:=Lib.hid (V_w0.out.later hb)
 have V_g0:=Lib.hid (V_g0.out.later hb)
 have V_t18aRules:=Lib.hid (V_t18aRules.out.later hb)
 have V_t19aBase:=Lib.hid (V_t19aBase.out.later hb)
 clear B20
 have V_h0:=Lib.hid gt
 have ge_h0:=Lib.hid gt.own.ge
 have lt_h0:=Lib.hid gt.lt
 clear gt hb acc
 clear V_t18aRules
 clear V_t19aBase
 go_wp2_with fail
 refine (ZdB A_h0 A_w0 _ c_h0 c_w0 _ L_h0 L_w0 _ rfl (by omega) (ZU V_h0.out.rep).2.2 (ZU V_w0.out.rep).2.2).mono ?_
 rintro e w22 ⟨rfl,hb⟩
 have B22:=Lib.hid (B21.out.trans (hb.mono B21.out.size))
 have sz22:=hb.size
 have V_w0:=Lib.hid (V_w0.out.later hb)
 have V_g0:=Lib.hid (V_g0.out.later hb)
 have V_h0:=Lib.hid (V_h0.out.later hb)
 clear B21
 clear hb
 go_wp2_with fail
 refine (ZgJ A_g0 _ c_g0 R0 L_g0 _ _ rfl (by omega) (by omega) (by omega) (ZU V_g0.out.rep).2.2).mono ?_
 rintro e w23 ⟨rfl,hb⟩
 have B23:=Lib.hid (B22.out.trans (hb.mono B22.out.size))
 have sz23:=hb.size
 have V_w0:=Lib.hid (V_w0.out.later hb)
 have V_g0:=Lib.hid (V_g0.out.later hb)
 have V_h0:=Lib.hid (V_h0.out.later hb)
 clear B22
 clear hb
 have qn23:¬(Zy ((1:Int)) R0<0):=by omega
 have qm23:((Zy ((1:Int)) R0) != (Zy ((1:Int)) R0))=false:=by simp
 go_wp2_with fail
 go_ret
 exact ⟨rfl,B23.out⟩
end Go.Proofs.YtojnhepgnbhaaaaGreatDoor
namespace Go.Proofs.YtojnhepgnbhaaaaGreatDoor
open Go.RowKit
set_option maxRecDepth 100000 in
theorem Zrf:ZhR Tryz.prog 54 Y4 ZpO:=by
 intro H enc w base spare held fuel cs x h
 obtain ⟨xs,n,_,_,hlen,hxl,hf⟩:=DataW.trod_struct Tryz.underlying54 h
 have hl:cs.length=2:=hlen.trans (by kernel_rfl)
 have hx:xs.length=2:=hxl
 match cs,hl with
 | [a0,a1],_=>
  have f0:DataW.trod enc Tryz.prog w base spare held n 9 [a0]=some (xs[0]'(by omega)):=by
   have this:DataW.trod enc Tryz.prog w base spare held n 9 (List.take (Tryz.prog.cellsOf 9) (List.drop 0 [a0,a1]))=_:=(hf 0 _ rfl).trans (List.getElem?_eq_getElem (show 0<xs.length by omega))
   rw [show Tryz.prog.cellsOf 9=1 by kernel_rfl] at this
   exact this
  have f1:DataW.trod enc Tryz.prog w base spare held n 44 [a1]=some (xs[1]'(by omega)):=by
   have this:DataW.trod enc Tryz.prog w base spare held n 44 (List.take (Tryz.prog.cellsOf 44) (List.drop 1 [a0,a1]))=_:=(hf 1 _ rfl).trans (List.getElem?_eq_getElem (show 1<xs.length by omega))
   rw [show Tryz.prog.cellsOf 44=1 by kernel_rfl] at this
   exact this
  obtain ⟨d0,M0,r0,w0⟩:=(Qp Tryz.underlying9) f0
  obtain ⟨e0,_,t0⟩:=r0
  cases e0
  obtain ⟨d1,M1,r1,w1⟩:=(ZaH Tryz.underlying44 (by kernel_rfl) (Qp Tryz.underlying9)) f1
  obtain ⟨A1,c1,e1,n1,m1,s1⟩:=r1
  cases e1
  exact ⟨⟨d0,d1⟩,_,⟨A1,c1,M1,rfl,rfl,t0,n1,m1,s1⟩,⟨w0,w1⟩⟩
set_option maxRecDepth 100000 in
theorem Zig:ZhR Tryz.prog 46 ZcY Ziu:=by
 intro H enc w base spare held fuel cs x h
 obtain ⟨xs,n,_,_,hlen,hxl,hf⟩:=DataW.trod_struct Tryz.underlying46 h
 have hl:cs.length=2:=hlen.trans (by kernel_rfl)
 have hx:xs.length=2:=hxl
 match cs,hl with
 | [a0,a1],_=>
  have f0:DataW.trod enc Tryz.prog w base spare held n 9 [a0]=some (xs[0]'(by omega)):=by
   have this:DataW.trod enc Tryz.prog w base spare held n 9 (List.take (Tryz.prog.cellsOf 9) (List.drop 0 [a0,a1]))=_:=(hf 0 _ rfl).trans (List.getElem?_eq_getElem (show 0<xs.length by omega))
   rw [show Tryz.prog.cellsOf 9=1 by kernel_rfl] at this
   exact this
  have f1:DataW.trod enc Tryz.prog w base spare held n 44 [a1]=some (xs[1]'(by omega)):=by
   have this:DataW.trod enc Tryz.prog w base spare held n 44 (List.take (Tryz.prog.cellsOf 44) (List.drop 1 [a0,a1]))=_:=(hf 1 _ rfl).trans (List.getElem?_eq_getElem (show 1<xs.length by omega))
   rw [show Tryz.prog.cellsOf 44=1 by kernel_rfl] at this
   exact this
  obtain ⟨d0,M0,r0,w0⟩:=(Qp Tryz.underlying9) f0
  obtain ⟨e0,_,t0⟩:=r0
  cases e0
  obtain ⟨d1,M1,r1,w1⟩:=(ZaH Tryz.underlying44 (by kernel_rfl) (Qp Tryz.underlying9)) f1
  obtain ⟨A1,c1,e1,n1,m1,s1⟩:=r1
  cases e1
  exact ⟨⟨d0,d1⟩,_,⟨A1,c1,M1,rfl,rfl,t0,n1,m1,s1⟩,⟨w0,w1⟩⟩
set_option maxRecDepth 100000 in
theorem Zrb:ZhR Tryz.prog 158 XV Ztj:=by
 intro H enc w base spare held fuel cs x h
 obtain ⟨xs,n,_,_,hlen,hxl,hf⟩:=DataW.trod_struct Tryz.underlying158 h
 have hl:cs.length=5:=hlen.trans (by kernel_rfl)
 have hx:xs.length=4:=hxl
 match cs,hl with
 | [a0,a1,a2,a3,a4],_=>
  have f0:DataW.trod enc Tryz.prog w base spare held n 3 [a0]=some (xs[0]'(by omega)):=by
   have this:DataW.trod enc Tryz.prog w base spare held n 3 (List.take (Tryz.prog.cellsOf 3) (List.drop 0 [a0,a1,a2,a3,a4]))=_:=(hf 0 _ rfl).trans (List.getElem?_eq_getElem (show 0<xs.length by omega))
   rw [show Tryz.prog.cellsOf 3=1 by kernel_rfl] at this
   exact this
  have f1:DataW.trod enc Tryz.prog w base spare held n 46 [a1,a2]=some (xs[1]'(by omega)):=by
   have this:DataW.trod enc Tryz.prog w base spare held n 46 (List.take (Tryz.prog.cellsOf 46) (List.drop 1 [a0,a1,a2,a3,a4]))=_:=(hf 1 _ rfl).trans (List.getElem?_eq_getElem (show 1<xs.length by omega))
   rw [show Tryz.prog.cellsOf 46=2 by kernel_rfl] at this
   exact this
  have f2:DataW.trod enc Tryz.prog w base spare held n 9 [a3]=some (xs[2]'(by omega)):=by
   have this:DataW.trod enc Tryz.prog w base spare held n 9 (List.take (Tryz.prog.cellsOf 9) (List.drop 3 [a0,a1,a2,a3,a4]))=_:=(hf 2 _ rfl).trans (List.getElem?_eq_getElem (show 2<xs.length by omega))
   rw [show Tryz.prog.cellsOf 9=1 by kernel_rfl] at this
   exact this
  have f3:DataW.trod enc Tryz.prog w base spare held n 9 [a4]=some (xs[3]'(by omega)):=by
   have this:DataW.trod enc Tryz.prog w base spare held n 9 (List.take (Tryz.prog.cellsOf 9) (List.drop 4 [a0,a1,a2,a3,a4]))=_:=(hf 3 _ rfl).trans (List.getElem?_eq_getElem (show 3<xs.length by omega))
   rw [show Tryz.prog.cellsOf 9=1 by kernel_rfl] at this
   exact this
  obtain ⟨d0,M0,r0,w0⟩:=(Zin Tryz.underlying3) f0
  obtain ⟨e0,_⟩:=r0
  cases e0
  obtain ⟨d1,M1,r1,w1⟩:=Zig f1
  obtain ⟨A1,c1,N1,e1,g1,t0,n1,m1,s1⟩:=r1
  cases e1
  subst g1
  obtain ⟨d2,M2,r2,w2⟩:=(Qp Tryz.underlying9) f2
  obtain ⟨e2,_,t1⟩:=r2
  cases e2
  obtain ⟨d3,M3,r3,w3⟩:=(Qp Tryz.underlying9) f3
  obtain ⟨e3,_,t2⟩:=r3
  cases e3
  exact ⟨⟨d0,d1,d2,d3⟩,_,⟨A1,c1,M1,rfl,rfl,t0,t1,t2,n1,m1,s1⟩,⟨w0,w1,w2,w3⟩⟩
set_option maxRecDepth 100000 in
theorem Zoy:ZhR Tryz.prog 161 Yk Zn7:=by
 intro H enc w base spare held fuel cs x h
 obtain ⟨xs,n,_,_,hlen,hxl,hf⟩:=DataW.trod_struct Tryz.underlying161 h
 have hl:cs.length=3:=hlen.trans (by kernel_rfl)
 have hx:xs.length=2:=hxl
 match cs,hl with
 | [a0,a1,a2],_=>
  have f0:DataW.trod enc Tryz.prog w base spare held n 3 [a0]=some (xs[0]'(by omega)):=by
   have this:DataW.trod enc Tryz.prog w base spare held n 3 (List.take (Tryz.prog.cellsOf 3) (List.drop 0 [a0,a1,a2]))=_:=(hf 0 _ rfl).trans (List.getElem?_eq_getElem (show 0<xs.length by omega))
   rw [show Tryz.prog.cellsOf 3=1 by kernel_rfl] at this
   exact this
  have f1:DataW.trod enc Tryz.prog w base spare held n 46 [a1,a2]=some (xs[1]'(by omega)):=by
   have this:DataW.trod enc Tryz.prog w base spare held n 46 (List.take (Tryz.prog.cellsOf 46) (List.drop 1 [a0,a1,a2]))=_:=(hf 1 _ rfl).trans (List.getElem?_eq_getElem (show 1<xs.length by omega))
   rw [show Tryz.prog.cellsOf 46=2 by kernel_rfl] at this
   exact this
  obtain ⟨d0,M0,r0,w0⟩:=(Zin Tryz.underlying3) f0
  obtain ⟨e0,_⟩:=r0
  cases e0
  obtain ⟨d1,M1,r1,w1⟩:=Zig f1
  obtain ⟨A1,c1,N1,e1,g1,t0,n1,m1,s1⟩:=r1
  cases e1
  subst g1
  exact ⟨⟨d0,d1⟩,_,⟨A1,c1,M1,rfl,rfl,t0,n1,m1,s1⟩,⟨w0,w1⟩⟩
set_option maxRecDepth 100000 in
theorem ZrD:ZhR Tryz.prog 75 XU ZpL:=by
 intro H enc w base spare held fuel cs x h
 obtain ⟨xs,n,_,_,hlen,hxl,hf⟩:=DataW.trod_struct Tryz.underlying75 h
 have hl:cs.length=4:=hlen.trans (by kernel_rfl)
 have hx:xs.length=4:=hxl
 match cs,hl with
 | [a0,a1,a2,a3],_=>
  have f0:DataW.trod enc Tryz.prog w base spare held n 9 [a0]=some (xs[0]'(by omega)):=by
   have this:DataW.trod enc Tryz.prog w base spare held n 9 (List.take (Tryz.prog.cellsOf 9) (List.drop 0 [a0,a1,a2,a3]))=_:=(hf 0 _ rfl).trans (List.getElem?_eq_getElem (show 0<xs.length by omega))
   rw [show Tryz.prog.cellsOf 9=1 by kernel_rfl] at this
   exact this
  have f1:DataW.trod enc Tryz.prog w base spare held n 3 [a1]=some (xs[1]'(by omega)):=by
   have this:DataW.trod enc Tryz.prog w base spare held n 3 (List.take (Tryz.prog.cellsOf 3) (List.drop 1 [a0,a1,a2,a3]))=_:=(hf 1 _ rfl).trans (List.getElem?_eq_getElem (show 1<xs.length by omega))
   rw [show Tryz.prog.cellsOf 3=1 by kernel_rfl] at this
   exact this
  have f2:DataW.trod enc Tryz.prog w base spare held n 72 [a2]=some (xs[2]'(by omega)):=by
   have this:DataW.trod enc Tryz.prog w base spare held n 72 (List.take (Tryz.prog.cellsOf 72) (List.drop 2 [a0,a1,a2,a3]))=_:=(hf 2 _ rfl).trans (List.getElem?_eq_getElem (show 2<xs.length by omega))
   rw [show Tryz.prog.cellsOf 72=1 by kernel_rfl] at this
   exact this
  have f3:DataW.trod enc Tryz.prog w base spare held n 73 [a3]=some (xs[3]'(by omega)):=by
   have this:DataW.trod enc Tryz.prog w base spare held n 73 (List.take (Tryz.prog.cellsOf 73) (List.drop 3 [a0,a1,a2,a3]))=_:=(hf 3 _ rfl).trans (List.getElem?_eq_getElem (show 3<xs.length by omega))
   rw [show Tryz.prog.cellsOf 73=1 by kernel_rfl] at this
   exact this
  obtain ⟨d0,M0,r0,w0⟩:=(Qp Tryz.underlying9) f0
  obtain ⟨e0,_,t0⟩:=r0
  cases e0
  obtain ⟨d1,M1,r1,w1⟩:=(Zin Tryz.underlying3) f1
  obtain ⟨e1,_⟩:=r1
  cases e1
  obtain ⟨d2,M2,r2,w2⟩:=(ZaH Tryz.underlying72 (by kernel_rfl) Zrb) f2
  obtain ⟨A1,c1,e2,n1,m1,s1⟩:=r2
  cases e2
  obtain ⟨d3,M3,r3,w3⟩:=(ZaH Tryz.underlying73 (by kernel_rfl) Zoy) f3
  obtain ⟨A2,c2,e3,n2,m2,s2⟩:=r3
  cases e3
  exact ⟨⟨d0,d1,d2,d3⟩,_,⟨A1,c1,M2,A2,c2,M3,rfl,rfl,t0,n1,m1,s1,n2,m2,s2⟩,⟨w0,w1,w2,w3⟩⟩
end Go.Proofs.YtojnhepgnbhaaaaGreatDoor
