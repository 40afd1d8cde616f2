/- Texts of this proof, joined: Eq, Open, ExactIsDesk, Opens. What each holds is said at its theorems. -/
import Derived.Test.YtcaokdmjlknmmaaGreatDoorProg
import Derived.Test.YtcaokdmjlknmmaaGreatDoorIsDeskQ1
import Derived.Outline
import Derived.WalkSpells
import Derived.StillTailTactics
import Derived.Deep.Slices
import Derived.ChangeArms
import Derived.ProofKit
import Derived.Test.YtcaokdmjlknmmaaGreatDoorIsDeskQ3
import Derived.Test.YtcaokdmjlknmmaaGreatDoorIsDeskQ7
import Derived.Test.YtcaokdmjlknmmaaGreatDoorIsDeskQ8
import Derived.Deep.RegionHeld3
open Array renaming size_push→AE
open List renaming getElem?_eq_getElem→A0,take→AA,drop→AB
open Nat renaming zero_le→AC,le_refl→AD
open Go.Proofs.Tryz
set_option linter.unusedSimpArgs false
set_option linter.unusedVariables false
set_option maxRecDepth 1000000
set_option maxHeartbeats 4000000
open Go.Lib renaming hid→yS
namespace Go.Proofs.YtcaokdmjlknmmaaGreatDoor
section
open Go.RowKit
def Z3 (w:World) (e:Ending) (w':World):Prop:=e=.returned (.bool true)/\Below w.heap.size w w'
theorem ZhN (A B:Option Addr) (n c d:Nat) (ds:List ByteArray) (L M:List Nat) (w:World) (hn:n=ds.length) (hm:n<=9223372036854775807) (h1:Sli Zeu w A ds L) (h2:Sli Zeu w B ds M):
  Calls prog 188 #[.slice A n c,.slice B n d] w (Z3 w):=by
 have H1:=yS h1
 have H2:=yS h2
 have HN:=yS hn
 clear h1 h2 hn
 have hne:((n:Int) != n)=false:=by simp
 go_enter func188,ntmps188
 go_wp2
 go_loopw [5] (fun i wr=>∃(k:Nat),k<=n/\i=.int .i64 k/\Hid (∃q,wr=w.drewN q)) (fun i _=>n - (intOf i).toNat)
 case atStart=>exact ⟨0,AC _,rfl,0,rfl⟩
 case round=>
  obtain ⟨k,hk,rfl,hq⟩:=hrel
  obtain ⟨q,rfl⟩:=hq.out
  by_cases hlt:k<n
  .have e:k<ds.length:=by have:=HN.out;omega
   obtain ⟨b,off,cs,Lk,rfl,_,_,f,hc⟩:=H1.out.at_ e
   obtain ⟨b',off',cs',Mk,rfl,_,_,a,hc'⟩:=H2.out.at_ e
   generalize ds[k]=x at *
   obtain ⟨rfl,_,_⟩:=f
   obtain ⟨rfl,_,_⟩:=a
   have q0:=hc 0 _ rfl
   have p0:=hc' 0 _ rfl
   simp only[show Zeu.size=1 from rfl,Nat.mul_one,Nat.add_zero]at q0 p0
   clear hc hc'
   have k0:(0:Int)<=k:=by omega
   have k1:(k:Int)<n:=by omega
   go_wp2_with fail
   go_quiet (fail)
   go_wp2_with fail
   go_roundw
   case rel=>exact ⟨k+1,yE,by go_num,by first|exact ZtO _ _ _|exact ZqQ _ _⟩
   case measure=>simp [intOf];omega
  .go_wp2
   go_ret
   exact ⟨rfl,Zgv _ _ _⟩
theorem ZmD (A B:Option Addr) (n c d:Nat) (ds:List Int) (L M:List Nat) (w:World) (hn:n=ds.length) (hm:n<=9223372036854775807) (h1:Sli ZgI w A ds L) (h2:Sli ZgI w B ds M):
  Calls prog 73 #[.slice A n c,.slice B n d] w (Z3 w):=by
 have H1:=yS h1
 have H2:=yS h2
 have HN:=yS hn
 clear h1 h2 hn
 have hne:((n:Int) != n)=false:=by simp
 go_enter func73,ntmps73
 go_wp2
 go_loopw [5] (fun i wr=>∃(k:Nat),k<=n/\i=.int .i64 k/\Hid (∃q,wr=w.drewN q)) (fun i _=>n - (intOf i).toNat)
 case atStart=>exact ⟨0,AC _,rfl,0,rfl⟩
 case round=>
  obtain ⟨k,hk,rfl,hq⟩:=hrel
  obtain ⟨q,rfl⟩:=hq.out
  by_cases hlt:k<n
  .have e:k<ds.length:=by have:=HN.out;omega
   obtain ⟨b,off,cs,Lk,rfl,_,_,f,hc⟩:=H1.out.at_ e
   obtain ⟨b',off',cs',Mk,rfl,_,_,a,hc'⟩:=H2.out.at_ e
   generalize ds[k]=x at *
   obtain ⟨rfl,_⟩:=f
   obtain ⟨rfl,_⟩:=a
   have q0:=hc 0 _ rfl
   have p0:=hc' 0 _ rfl
   simp only[show ZgI.size=1 from rfl,Nat.mul_one,Nat.add_zero]at q0 p0
   clear hc hc'
   have k0:(0:Int)<=k:=by omega
   have k1:(k:Int)<n:=by omega
   go_wp2_with fail
   go_quiet (fail)
   go_wp2_with fail
   go_roundw
   case rel=>exact ⟨k+1,yE,by go_num,by first|exact ZtO _ _ _|exact ZqQ _ _⟩
   case measure=>simp [intOf];omega
  .go_wp2
   go_ret
   exact ⟨rfl,Zgv _ _ _⟩
theorem ZiA (cs ds:List Value) (x:Zk) (L M:List Nat) (w:World) (h1:Yh.rep w cs x L) (h2:Yh.rep w ds x M):
  Calls prog 126 #[.agg cs.toArray,.agg ds.toArray] w (Z3 w):=by
 obtain ⟨b,c,k,rfl,_ahL,at0,an1,l,d⟩:=h1
 obtain ⟨f,g,m,rfl,_bhL,bt0,bn1,o,j⟩:=h2
 unfold maxLen at l o
 have SA1:=yS d
 have SB1:=yS j
 clear d j
 go_enter func126,ntmps126
 go_wp2_with fail
 refine (ZhN b f _ c g x.args k m _ rfl yE (SA1.out.below yI) (SB1.out.below yI)).mono ?_
 rintro e w1 ⟨rfl,a⟩
 have B1:Hid (Below w.heap.size w w1):=Below.trans yI (a.mono yK)
 have K0:Hid (Blk w1 w.heap.size 83 #[.string x.rel,.slice b x.args.length c]):=Blk.later (Blk.alloc (Blk.new _ _ _) _) a
 have K1:Hid (Blk w1 (w.heap.size+1) 83 #[.string x.rel,.slice f x.args.length g]):=Blk.later (Blk.new_at yG) a
 have f0:=K0.out.at (i:=0) rfl
 have r0:=K1.out.at (i:=0) rfl
 have f1:=K0.out.at (i:=1) rfl
 have r1:=K1.out.at (i:=1) rfl
 clear a
 have hz1:=B1.out.size
 go_wp2_with fail
 go_ret
 exact ⟨rfl,(by repeat (first|refine Below.setCell ?_ (by dsimp only;omega) _|refine Below.alloc ?_ yK _|exact B1.out))⟩
theorem ZgT (A B:Option Addr) (n c d:Nat) (ds:List Zk) (L M:List Nat) (w:World) (hn:n=ds.length) (hm:n<=9223372036854775807) (h1:Sli Yh w A ds L) (h2:Sli Yh w B ds M):
  Calls prog 76 #[.slice A n c,.slice B n d] w (Z3 w):=by
 have H1:=yS h1
 have H2:=yS h2
 have HN:=yS hn
 clear h1 h2 hn
 have hne:((n:Int) != n)=false:=by simp
 go_enter func76,ntmps76
 go_wp2
 go_loopw [5] (fun i wr=>∃(k:Nat),k<=n/\i=.int .i64 k/\Hid (Below w.heap.size w wr)) (fun i _=>n - (intOf i).toNat)
 case atStart=>exact ⟨0,AC _,rfl,Below.refl _ _⟩
 case round=>
  obtain ⟨k,hk,rfl,HB⟩:=hrel
  by_cases hlt:k<n
  .have l:k<ds.length:=by have:=HN.out;omega
   obtain ⟨b,off,cs,Lk,rfl,t,u,g,hc⟩:=H1.out.at_ l
   obtain ⟨b',f,cs',Mk,rfl,v,z,a,hc'⟩:=H2.out.at_ l
   have o:b<w.heap.size:=H1.out.lt b t
   have j:b'<w.heap.size:=H2.out.lt b' v
   have HR:=yS (Yh.keep g (Zo HB.out (fun y m=>H1.out.lt y (u y m))))
   have HR':=yS (Yh.keep a (Zo HB.out (fun y m=>H2.out.lt y (z y m))))
   generalize ds[k]=x at *
   obtain ⟨aA1,ac1,rfl⟩:=Zaz g
   obtain ⟨bA1,bc1,rfl⟩:=Zaz a
   have q0:wr.cell? ⟨b,off+k*2,none⟩=_:=(HB.out.cell (p:=⟨b,off+(k*2+0),none⟩) o).trans (hc 0 _ rfl)
   have p0:wr.cell? ⟨b',f+k*2,none⟩=_:=(HB.out.cell (p:=⟨b',f+(k*2+0),none⟩) j).trans (hc' 0 _ rfl)
   have q1:wr.cell? ⟨b,off+k*2+1,none⟩=_:=(HB.out.cell (p:=⟨b,off+(k*2+1),none⟩) o).trans (hc 1 _ rfl)
   have p1:wr.cell? ⟨b',f+k*2+1,none⟩=_:=(HB.out.cell (p:=⟨b',f+(k*2+1),none⟩) j).trans (hc' 1 _ rfl)
   clear hc hc' g a
   have k0:(0:Int)<=k:=by omega
   have k1:(k:Int)<n:=by omega
   go_wp2_with fail
   go_still_tail 8,yO
   change wpList _ _ _ _ _ wr.drew
   go_wp2_with (go_at_call 126;(refine (ZiA _ _ x Lk Mk wr.drew (Yh.keep HR.out (fun _ _=>rfl)) (Yh.keep HR'.out (fun _ _=>rfl))).mono ?_;rintro e w1 ⟨rfl,q⟩;have HB1:=yS (HB.out.drew.trans (q.mono HB.out.size));clear q))
   go_roundw
   case rel=>exact ⟨k+1,yE,by go_num,HB1.out⟩
   case measure=>simp [intOf];omega
  .go_wp2
   go_ret
   exact ⟨rfl,HB.out⟩
theorem ZeZ (cs ds:List Value) (x:Zj) (L M:List Nat) (w:World) (h1:XP.rep w cs x L) (h2:XP.rep w ds x M):
  Calls prog 185 #[.agg cs.toArray,.agg ds.toArray] w (Z3 w):=by
 obtain ⟨b,c,k,rfl,_ahL,at0,an1,l,d⟩:=h1
 obtain ⟨f,g,m,rfl,_bhL,bt0,bn1,o,j⟩:=h2
 unfold maxLen at l o
 have SA1:=yS d
 have SB1:=yS j
 clear d j
 go_enter func185,ntmps185
 go_wp2_with fail
 refine (ZhN b f _ c g x.args k m _ rfl yE (SA1.out.below yI) (SB1.out.below yI)).mono ?_
 rintro e w1 ⟨rfl,a⟩
 have B1:Hid (Below w.heap.size w w1):=Below.trans yI (a.mono yK)
 have K0:Hid (Blk w1 w.heap.size 101 #[.string x.rel,.slice b x.args.length c]):=Blk.later (Blk.alloc (Blk.new _ _ _) _) a
 have K1:Hid (Blk w1 (w.heap.size+1) 101 #[.string x.rel,.slice f x.args.length g]):=Blk.later (Blk.new_at yG) a
 have f0:=K0.out.at (i:=0) rfl
 have r0:=K1.out.at (i:=0) rfl
 have f1:=K0.out.at (i:=1) rfl
 have r1:=K1.out.at (i:=1) rfl
 clear a
 have hz1:=B1.out.size
 go_wp2_with fail
 go_ret
 exact ⟨rfl,(by repeat (first|refine Below.setCell ?_ (by dsimp only;omega) _|refine Below.alloc ?_ yK _|exact B1.out))⟩
theorem Zsm (cs ds:List Value) (x:Zg) (L M:List Nat) (w:World) (h1:XA.rep w cs x L) (h2:XA.rep w ds x M):
  Calls prog 249 #[.agg cs.toArray,.agg ds.toArray] w (Z3 w):=by
 obtain ⟨rfl,_ahL,at0,at1⟩:=h1
 obtain ⟨rfl,_bhL,bt0,bt1⟩:=h2
 go_enter func249,ntmps249
 go_wp2_with fail
 go_ret
 exact ⟨rfl,yI⟩
theorem Zqo (A B:Option Addr) (n c d:Nat) (ds:List Zg) (L M:List Nat) (w:World) (hn:n=ds.length) (hm:n<=9223372036854775807) (h1:Sli XA w A ds L) (h2:Sli XA w B ds M):
  Calls prog 239 #[.slice A n c,.slice B n d] w (Z3 w):=by
 have H1:=yS h1
 have H2:=yS h2
 have HN:=yS hn
 clear h1 h2 hn
 have hne:((n:Int) != n)=false:=by simp
 go_enter func239,ntmps239
 go_wp2
 go_loopw [5] (fun i wr=>∃(k:Nat),k<=n/\i=.int .i64 k/\Hid (Below w.heap.size w wr)) (fun i _=>n - (intOf i).toNat)
 case atStart=>exact ⟨0,AC _,rfl,Below.refl _ _⟩
 case round=>
  obtain ⟨k,hk,rfl,HB⟩:=hrel
  by_cases hlt:k<n
  .have l:k<ds.length:=by have:=HN.out;omega
   obtain ⟨b,off,cs,Lk,rfl,t,u,g,hc⟩:=H1.out.at_ l
   obtain ⟨b',f,cs',Mk,rfl,v,z,a,hc'⟩:=H2.out.at_ l
   have o:b<w.heap.size:=H1.out.lt b t
   have j:b'<w.heap.size:=H2.out.lt b' v
   have HR:=yS (XA.keep g (Zo HB.out (fun y m=>H1.out.lt y (u y m))))
   have HR':=yS (XA.keep a (Zo HB.out (fun y m=>H2.out.lt y (z y m))))
   generalize ds[k]=x at *
   obtain rfl:=Zc0 g
   obtain rfl:=Zc0 a
   have q0:wr.cell? ⟨b,off+k*2,none⟩=_:=(HB.out.cell (p:=⟨b,off+(k*2+0),none⟩) o).trans (hc 0 _ rfl)
   have p0:wr.cell? ⟨b',f+k*2,none⟩=_:=(HB.out.cell (p:=⟨b',f+(k*2+0),none⟩) j).trans (hc' 0 _ rfl)
   have q1:wr.cell? ⟨b,off+k*2+1,none⟩=_:=(HB.out.cell (p:=⟨b,off+(k*2+1),none⟩) o).trans (hc 1 _ rfl)
   have p1:wr.cell? ⟨b',f+k*2+1,none⟩=_:=(HB.out.cell (p:=⟨b',f+(k*2+1),none⟩) j).trans (hc' 1 _ rfl)
   clear hc hc' g a
   have k0:(0:Int)<=k:=by omega
   have k1:(k:Int)<n:=by omega
   go_wp2_with fail
   go_still_tail 8,yO
   change wpList _ _ _ _ _ wr.drew
   go_wp2_with (go_at_call 249;(refine (Zsm _ _ x Lk Mk wr.drew (XA.keep HR.out (fun _ _=>rfl)) (XA.keep HR'.out (fun _ _=>rfl))).mono ?_;rintro e w1 ⟨rfl,q⟩;have HB1:=yS (HB.out.drew.trans (q.mono HB.out.size));clear q))
   go_roundw
   case rel=>exact ⟨k+1,yE,by go_num,HB1.out⟩
   case measure=>simp [intOf];omega
  .go_wp2
   go_ret
   exact ⟨rfl,HB.out⟩
theorem ZlN (cs ds:List Value) (x:Zf) (L M:List Nat) (w:World) (h1:X6.rep w cs x L) (h2:X6.rep w ds x M):
  Calls prog 186 #[.agg cs.toArray,.agg ds.toArray] w (Z3 w):=by
 obtain ⟨b,c,k,rfl,_ahL,l,at1,at2,m,o,g⟩:=h1
 obtain ⟨d,f,p,rfl,_bhL,q,bt1,bt2,t,u,j⟩:=h2
 unfold maxLen at o u
 have SA1:=yS g
 have SB1:=yS j
 clear g j
 go_enter func186,ntmps186
 go_wp2_with fail
 refine (ZeZ [.string x.pattern.rel,.slice b x.pattern.args.length c] [.string x.pattern.rel,.slice d x.pattern.args.length f] x.pattern _ _ _ ⟨b,c,k,rfl,rfl,l,m,(by unfold maxLen;omega),SA1.out.below yI⟩ ⟨d,f,p,rfl,rfl,q,t,(by unfold maxLen;omega),SB1.out.below yI⟩).mono ?_
 rintro e w1 ⟨rfl,a⟩
 have B1:Hid (Below w.heap.size w w1):=Below.trans yI (a.mono yK)
 have K0:Hid (Blk w1 w.heap.size 107 #[.int .i64 x.kind,.string x.pattern.rel,.slice b x.pattern.args.length c,.string x.left,.string x.right]):=Blk.later (Blk.alloc (Blk.new _ _ _) _) a
 have K1:Hid (Blk w1 (w.heap.size+1) 107 #[.int .i64 x.kind,.string x.pattern.rel,.slice d x.pattern.args.length f,.string x.left,.string x.right]):=Blk.later (Blk.new_at yG) a
 have f0:=K0.out.at (i:=0) rfl
 have r0:=K1.out.at (i:=0) rfl
 have f1:=K0.out.at (i:=1) rfl
 have r1:=K1.out.at (i:=1) rfl
 have f2:=K0.out.at (i:=2) rfl
 have r2:=K1.out.at (i:=2) rfl
 have f3:=K0.out.at (i:=3) rfl
 have r3:=K1.out.at (i:=3) rfl
 have f4:=K0.out.at (i:=4) rfl
 have r4:=K1.out.at (i:=4) rfl
 clear a
 have hz1:=B1.out.size
 go_wp2_with fail
 go_ret
 exact ⟨rfl,(by repeat (first|refine Below.setCell ?_ (by dsimp only;omega) _|refine Below.alloc ?_ yK _|exact B1.out))⟩
theorem ZqK (A B:Option Addr) (n c d:Nat) (ds:List Zf) (L M:List Nat) (w:World) (hn:n=ds.length) (hm:n<=9223372036854775807) (h1:Sli X6 w A ds L) (h2:Sli X6 w B ds M):
  Calls prog 183 #[.slice A n c,.slice B n d] w (Z3 w):=by
 have H1:=yS h1
 have H2:=yS h2
 have HN:=yS hn
 clear h1 h2 hn
 have hne:((n:Int) != n)=false:=by simp
 go_enter func183,ntmps183
 go_wp2
 go_loopw [5] (fun i wr=>∃(k:Nat),k<=n/\i=.int .i64 k/\Hid (Below w.heap.size w wr)) (fun i _=>n - (intOf i).toNat)
 case atStart=>exact ⟨0,AC _,rfl,Below.refl _ _⟩
 case round=>
  obtain ⟨k,hk,rfl,HB⟩:=hrel
  by_cases hlt:k<n
  .have o:k<ds.length:=by have:=HN.out;omega
   obtain ⟨b,off,cs,Lk,rfl,t,u,j,hc⟩:=H1.out.at_ o
   obtain ⟨b',a,cs',Mk,rfl,v,z,g,hc'⟩:=H2.out.at_ o
   have l:b<w.heap.size:=H1.out.lt b t
   have f:b'<w.heap.size:=H2.out.lt b' v
   have HR:=yS (X6.keep j (Zo HB.out (fun y m=>H1.out.lt y (u y m))))
   have HR':=yS (X6.keep g (Zo HB.out (fun y m=>H2.out.lt y (z y m))))
   generalize ds[k]=x at *
   obtain ⟨aA1,ac1,rfl⟩:=Zbu j
   obtain ⟨bA1,bc1,rfl⟩:=Zbu g
   have q0:wr.cell? ⟨b,off+k*5,none⟩=_:=(HB.out.cell (p:=⟨b,off+(k*5+0),none⟩) l).trans (hc 0 _ rfl)
   have p0:wr.cell? ⟨b',a+k*5,none⟩=_:=(HB.out.cell (p:=⟨b',a+(k*5+0),none⟩) f).trans (hc' 0 _ rfl)
   have q1:wr.cell? ⟨b,off+k*5+1,none⟩=_:=(HB.out.cell (p:=⟨b,off+(k*5+1),none⟩) l).trans (hc 1 _ rfl)
   have p1:wr.cell? ⟨b',a+k*5+1,none⟩=_:=(HB.out.cell (p:=⟨b',a+(k*5+1),none⟩) f).trans (hc' 1 _ rfl)
   have q2:wr.cell? ⟨b,off+k*5+2,none⟩=_:=(HB.out.cell (p:=⟨b,off+(k*5+2),none⟩) l).trans (hc 2 _ rfl)
   have p2:wr.cell? ⟨b',a+k*5+2,none⟩=_:=(HB.out.cell (p:=⟨b',a+(k*5+2),none⟩) f).trans (hc' 2 _ rfl)
   have q3:wr.cell? ⟨b,off+k*5+3,none⟩=_:=(HB.out.cell (p:=⟨b,off+(k*5+3),none⟩) l).trans (hc 3 _ rfl)
   have p3:wr.cell? ⟨b',a+k*5+3,none⟩=_:=(HB.out.cell (p:=⟨b',a+(k*5+3),none⟩) f).trans (hc' 3 _ rfl)
   have q4:wr.cell? ⟨b,off+k*5+4,none⟩=_:=(HB.out.cell (p:=⟨b,off+(k*5+4),none⟩) l).trans (hc 4 _ rfl)
   have p4:wr.cell? ⟨b',a+k*5+4,none⟩=_:=(HB.out.cell (p:=⟨b',a+(k*5+4),none⟩) f).trans (hc' 4 _ rfl)
   clear hc hc' j g
   have k0:(0:Int)<=k:=by omega
   have k1:(k:Int)<n:=by omega
   go_wp2_with fail
   go_still_tail 8,yO
   change wpList _ _ _ _ _ wr.drew
   go_wp2_with (go_at_call 186;(refine (ZlN _ _ x Lk Mk wr.drew (X6.keep HR.out (fun _ _=>rfl)) (X6.keep HR'.out (fun _ _=>rfl))).mono ?_;rintro e w1 ⟨rfl,q⟩;have HB1:=yS (HB.out.drew.trans (q.mono HB.out.size));clear q))
   go_roundw
   case rel=>exact ⟨k+1,yE,by go_num,HB1.out⟩
   case measure=>simp [intOf];omega
  .go_wp2
   go_ret
   exact ⟨rfl,HB.out⟩
theorem Zpm (cs ds:List Value) (x:ZY) (L M:List Nat) (w:World) (h1:YJ.rep w cs x L) (h2:YJ.rep w ds x M):
  Calls prog 220 #[.agg cs.toArray,.agg ds.toArray] w (Z3 w):=by
 obtain ⟨b,c,k,rfl,_ahL,l,m,o,g⟩:=h1
 obtain ⟨d,f,p,rfl,_bhL,q,t,u,j⟩:=h2
 unfold maxLen at o u
 have SA1:=yS g
 have SB1:=yS j
 clear g j
 go_enter func220,ntmps220
 go_wp2_with fail
 refine (ZeZ [.string x.pattern.rel,.slice b x.pattern.args.length c] [.string x.pattern.rel,.slice d x.pattern.args.length f] x.pattern _ _ _ ⟨b,c,k,rfl,rfl,l,m,(by unfold maxLen;omega),SA1.out.below yI⟩ ⟨d,f,p,rfl,rfl,q,t,(by unfold maxLen;omega),SB1.out.below yI⟩).mono ?_
 rintro e w1 ⟨rfl,a⟩
 have B1:Hid (Below w.heap.size w w1):=Below.trans yI (a.mono yK)
 have K0:Hid (Blk w1 w.heap.size 117 #[.int .i64 x.kind,.string x.pattern.rel,.slice b x.pattern.args.length c]):=Blk.later (Blk.alloc (Blk.new _ _ _) _) a
 have K1:Hid (Blk w1 (w.heap.size+1) 117 #[.int .i64 x.kind,.string x.pattern.rel,.slice d x.pattern.args.length f]):=Blk.later (Blk.new_at yG) a
 have f0:=K0.out.at (i:=0) rfl
 have r0:=K1.out.at (i:=0) rfl
 have f1:=K0.out.at (i:=1) rfl
 have r1:=K1.out.at (i:=1) rfl
 have f2:=K0.out.at (i:=2) rfl
 have r2:=K1.out.at (i:=2) rfl
 clear a
 have hz1:=B1.out.size
 go_wp2_with fail
 go_ret
 exact ⟨rfl,(by repeat (first|refine Below.setCell ?_ (by dsimp only;omega) _|refine Below.alloc ?_ yK _|exact B1.out))⟩
theorem ZnB (A B:Option Addr) (n c d:Nat) (ds:List ZY) (L M:List Nat) (w:World) (hn:n=ds.length) (hm:n<=9223372036854775807) (h1:Sli YJ w A ds L) (h2:Sli YJ w B ds M):
  Calls prog 184 #[.slice A n c,.slice B n d] w (Z3 w):=by
 have H1:=yS h1
 have H2:=yS h2
 have HN:=yS hn
 clear h1 h2 hn
 have hne:((n:Int) != n)=false:=by simp
 go_enter func184,ntmps184
 go_wp2
 go_loopw [5] (fun i wr=>∃(k:Nat),k<=n/\i=.int .i64 k/\Hid (Below w.heap.size w wr)) (fun i _=>n - (intOf i).toNat)
 case atStart=>exact ⟨0,AC _,rfl,Below.refl _ _⟩
 case round=>
  obtain ⟨k,hk,rfl,HB⟩:=hrel
  by_cases hlt:k<n
  .have o:k<ds.length:=by have:=HN.out;omega
   obtain ⟨b,off,cs,Lk,rfl,t,u,g,hc⟩:=H1.out.at_ o
   obtain ⟨b',a,cs',Mk,rfl,v,z,f,hc'⟩:=H2.out.at_ o
   have l:b<w.heap.size:=H1.out.lt b t
   have j:b'<w.heap.size:=H2.out.lt b' v
   have HR:=yS (YJ.keep g (Zo HB.out (fun y m=>H1.out.lt y (u y m))))
   have HR':=yS (YJ.keep f (Zo HB.out (fun y m=>H2.out.lt y (z y m))))
   generalize ds[k]=x at *
   obtain ⟨aA1,ac1,rfl⟩:=Za1 g
   obtain ⟨bA1,bc1,rfl⟩:=Za1 f
   have q0:wr.cell? ⟨b,off+k*3,none⟩=_:=(HB.out.cell (p:=⟨b,off+(k*3+0),none⟩) l).trans (hc 0 _ rfl)
   have p0:wr.cell? ⟨b',a+k*3,none⟩=_:=(HB.out.cell (p:=⟨b',a+(k*3+0),none⟩) j).trans (hc' 0 _ rfl)
   have q1:wr.cell? ⟨b,off+k*3+1,none⟩=_:=(HB.out.cell (p:=⟨b,off+(k*3+1),none⟩) l).trans (hc 1 _ rfl)
   have p1:wr.cell? ⟨b',a+k*3+1,none⟩=_:=(HB.out.cell (p:=⟨b',a+(k*3+1),none⟩) j).trans (hc' 1 _ rfl)
   have q2:wr.cell? ⟨b,off+k*3+2,none⟩=_:=(HB.out.cell (p:=⟨b,off+(k*3+2),none⟩) l).trans (hc 2 _ rfl)
   have p2:wr.cell? ⟨b',a+k*3+2,none⟩=_:=(HB.out.cell (p:=⟨b',a+(k*3+2),none⟩) j).trans (hc' 2 _ rfl)
   clear hc hc' g f
   have k0:(0:Int)<=k:=by omega
   have k1:(k:Int)<n:=by omega
   go_wp2_with fail
   go_still_tail 8,yO
   change wpList _ _ _ _ _ wr.drew
   go_wp2_with (go_at_call 220;(refine (Zpm _ _ x Lk Mk wr.drew (YJ.keep HR.out (fun _ _=>rfl)) (YJ.keep HR'.out (fun _ _=>rfl))).mono ?_;rintro e w1 ⟨rfl,q⟩;have HB1:=yS (HB.out.drew.trans (q.mono HB.out.size));clear q))
   go_roundw
   case rel=>exact ⟨k+1,yE,by go_num,HB1.out⟩
   case measure=>simp [intOf];omega
  .go_wp2
   go_ret
   exact ⟨rfl,HB.out⟩
theorem Zso (cs ds:List Value) (x:Zl) (L M:List Nat) (w:World) (h1:Xj.rep w cs x L) (h2:Xj.rep w ds x M):
  Calls prog 120 #[.agg cs.toArray,.agg ds.toArray] w (Z3 w):=by
 obtain ⟨c,d,u,f,g,v,rfl,_ahL,at0,an1,y,j,an2,z,k⟩:=h1
 obtain ⟨l,m,A,o,p,B,rfl,_bhL,bt0,bn1,C,q,bn2,D,t⟩:=h2
 unfold maxLen at y C z D
 have SA1:=yS j
 have SB1:=yS q
 clear j q
 have SA2:=yS k
 have SB2:=yS t
 clear k t
 go_enter func120,ntmps120
 go_wp2_with fail
 refine (ZqK c l _ d m x.cond u A _ rfl yE (SA1.out.below yI) (SB1.out.below yI)).mono ?_
 rintro e w1 ⟨rfl,a⟩
 have B1:Hid (Below w.heap.size w w1):=Below.trans yI (a.mono yK)
 have K0:Hid (Blk w1 w.heap.size 64 #[.string x.name,.int .i64 x.priority,.slice c x.cond.length d,.slice f x.thn.length g]):=Blk.later (Blk.alloc (Blk.new _ _ _) _) a
 have K1:Hid (Blk w1 (w.heap.size+1) 64 #[.string x.name,.int .i64 x.priority,.slice l x.cond.length m,.slice o x.thn.length p]):=Blk.later (Blk.new_at yG) a
 have f0:=K0.out.at (i:=0) rfl
 have r0:=K1.out.at (i:=0) rfl
 have f1:=K0.out.at (i:=1) rfl
 have r1:=K1.out.at (i:=1) rfl
 have f2:=K0.out.at (i:=2) rfl
 have r2:=K1.out.at (i:=2) rfl
 have f3:=K0.out.at (i:=3) rfl
 have r3:=K1.out.at (i:=3) rfl
 clear a
 have hz1:=B1.out.size
 go_wp2_with fail
 refine (ZnB f o _ g p x.thn v B _ rfl yE (SA2.out.below (by repeat (first|refine Below.setCell ?_ (by dsimp only;omega) _|refine Below.alloc ?_ yK _|exact B1.out))) (SB2.out.below (by repeat (first|refine Below.setCell ?_ (by dsimp only;omega) _|refine Below.alloc ?_ yK _|exact B1.out)))).mono ?_
 rintro e w2 ⟨rfl,b⟩
 have B2:Hid (Below w.heap.size w w2):=Below.trans (by repeat (first|refine Below.setCell ?_ (by dsimp only;omega) _|refine Below.alloc ?_ yK _|exact B1.out)) (b.mono yK)
 have K0:=yS (K0.out.later b)
 have K1:=yS (K1.out.later b)
 clear f0 r0 f1 r1 f2 r2 f3 r3
 have f0:=K0.out.at (i:=0) rfl
 have r0:=K1.out.at (i:=0) rfl
 have f1:=K0.out.at (i:=1) rfl
 have r1:=K1.out.at (i:=1) rfl
 have f2:=K0.out.at (i:=2) rfl
 have r2:=K1.out.at (i:=2) rfl
 have f3:=K0.out.at (i:=3) rfl
 have r3:=K1.out.at (i:=3) rfl
 clear b
 have hz2:=B2.out.size
 go_wp2_with fail
 go_ret
 exact ⟨rfl,(by repeat (first|refine Below.setCell ?_ (by dsimp only;omega) _|refine Below.alloc ?_ yK _|exact B2.out))⟩
theorem ZkO (A B:Option Addr) (n c d:Nat) (ds:List Zl) (L M:List Nat) (w:World) (hn:n=ds.length) (hm:n<=9223372036854775807) (h1:Sli Xj w A ds L) (h2:Sli Xj w B ds M):
  Calls prog 69 #[.slice A n c,.slice B n d] w (Z3 w):=by
 have H1:=yS h1
 have H2:=yS h2
 have HN:=yS hn
 clear h1 h2 hn
 have hne:((n:Int) != n)=false:=by simp
 go_enter func69,ntmps69
 go_wp2
 go_loopw [5] (fun i wr=>∃(k:Nat),k<=n/\i=.int .i64 k/\Hid (Below w.heap.size w wr)) (fun i _=>n - (intOf i).toNat)
 case atStart=>exact ⟨0,AC _,rfl,Below.refl _ _⟩
 case round=>
  obtain ⟨k,hk,rfl,HB⟩:=hrel
  by_cases hlt:k<n
  .have o:k<ds.length:=by have:=HN.out;omega
   obtain ⟨b,off,cs,Lk,rfl,t,u,j,hc⟩:=H1.out.at_ o
   obtain ⟨b',a,cs',Mk,rfl,v,z,f,hc'⟩:=H2.out.at_ o
   have l:b<w.heap.size:=H1.out.lt b t
   have g:b'<w.heap.size:=H2.out.lt b' v
   have HR:=yS (Xj.keep j (Zo HB.out (fun y m=>H1.out.lt y (u y m))))
   have HR':=yS (Xj.keep f (Zo HB.out (fun y m=>H2.out.lt y (z y m))))
   generalize ds[k]=x at *
   obtain ⟨aA1,ac1,aA2,ac2,rfl⟩:=ZcZ j
   obtain ⟨bA1,bc1,bA2,bc2,rfl⟩:=ZcZ f
   have q0:wr.cell? ⟨b,off+k*4,none⟩=_:=(HB.out.cell (p:=⟨b,off+(k*4+0),none⟩) l).trans (hc 0 _ rfl)
   have p0:wr.cell? ⟨b',a+k*4,none⟩=_:=(HB.out.cell (p:=⟨b',a+(k*4+0),none⟩) g).trans (hc' 0 _ rfl)
   have q1:wr.cell? ⟨b,off+k*4+1,none⟩=_:=(HB.out.cell (p:=⟨b,off+(k*4+1),none⟩) l).trans (hc 1 _ rfl)
   have p1:wr.cell? ⟨b',a+k*4+1,none⟩=_:=(HB.out.cell (p:=⟨b',a+(k*4+1),none⟩) g).trans (hc' 1 _ rfl)
   have q2:wr.cell? ⟨b,off+k*4+2,none⟩=_:=(HB.out.cell (p:=⟨b,off+(k*4+2),none⟩) l).trans (hc 2 _ rfl)
   have p2:wr.cell? ⟨b',a+k*4+2,none⟩=_:=(HB.out.cell (p:=⟨b',a+(k*4+2),none⟩) g).trans (hc' 2 _ rfl)
   have q3:wr.cell? ⟨b,off+k*4+3,none⟩=_:=(HB.out.cell (p:=⟨b,off+(k*4+3),none⟩) l).trans (hc 3 _ rfl)
   have p3:wr.cell? ⟨b',a+k*4+3,none⟩=_:=(HB.out.cell (p:=⟨b',a+(k*4+3),none⟩) g).trans (hc' 3 _ rfl)
   clear hc hc' j f
   have k0:(0:Int)<=k:=by omega
   have k1:(k:Int)<n:=by omega
   go_wp2_with fail
   go_still_tail 8,yO
   change wpList _ _ _ _ _ wr.drew
   go_wp2_with (go_at_call 120;(refine (Zso _ _ x Lk Mk wr.drew (Xj.keep HR.out (fun _ _=>rfl)) (Xj.keep HR'.out (fun _ _=>rfl))).mono ?_;rintro e w1 ⟨rfl,q⟩;have HB1:=yS (HB.out.drew.trans (q.mono HB.out.size));clear q))
   go_roundw
   case rel=>exact ⟨k+1,yE,by go_num,HB1.out⟩
   case measure=>simp [intOf];omega
  .go_wp2
   go_ret
   exact ⟨rfl,HB.out⟩
theorem ZrO (cs ds:List Value) (x:Zs) (L M:List Nat) (w:World) (h1:Yg.rep w cs x L) (h2:Yg.rep w ds x M):
  Calls prog 221 #[.agg cs.toArray,.agg ds.toArray] w (Z3 w):=by
 obtain ⟨c,d,u,f,g,v,rfl,_ahL,an1,y,j,an2,z,k⟩:=h1
 obtain ⟨l,m,A,o,p,B,rfl,_bhL,bn1,C,q,bn2,D,t⟩:=h2
 unfold maxLen at y C z D
 have SA1:=yS j
 have SB1:=yS q
 clear j q
 have SA2:=yS k
 have SB2:=yS t
 clear k t
 go_enter func221,ntmps221
 go_wp2_with fail
 refine (ZgT c l _ d m x.facts u A _ rfl yE (SA1.out.below yI) (SB1.out.below yI)).mono ?_
 rintro e w1 ⟨rfl,a⟩
 have B1:Hid (Below w.heap.size w w1):=Below.trans yI (a.mono yK)
 have K0:Hid (Blk w1 w.heap.size 167 #[.slice c x.facts.length d,.slice f x.binding.length g]):=Blk.later (Blk.alloc (Blk.new _ _ _) _) a
 have K1:Hid (Blk w1 (w.heap.size+1) 167 #[.slice l x.facts.length m,.slice o x.binding.length p]):=Blk.later (Blk.new_at yG) a
 have f0:=K0.out.at (i:=0) rfl
 have r0:=K1.out.at (i:=0) rfl
 have f1:=K0.out.at (i:=1) rfl
 have r1:=K1.out.at (i:=1) rfl
 clear a
 have hz1:=B1.out.size
 go_wp2_with fail
 refine (Zqo f o _ g p x.binding v B _ rfl yE (SA2.out.below (by repeat (first|refine Below.setCell ?_ (by dsimp only;omega) _|refine Below.alloc ?_ yK _|exact B1.out))) (SB2.out.below (by repeat (first|refine Below.setCell ?_ (by dsimp only;omega) _|refine Below.alloc ?_ yK _|exact B1.out)))).mono ?_
 rintro e w2 ⟨rfl,b⟩
 have B2:Hid (Below w.heap.size w w2):=Below.trans (by repeat (first|refine Below.setCell ?_ (by dsimp only;omega) _|refine Below.alloc ?_ yK _|exact B1.out)) (b.mono yK)
 have K0:=yS (K0.out.later b)
 have K1:=yS (K1.out.later b)
 clear f0 r0 f1 r1
 have f0:=K0.out.at (i:=0) rfl
 have r0:=K1.out.at (i:=0) rfl
 have f1:=K0.out.at (i:=1) rfl
 have r1:=K1.out.at (i:=1) rfl
 clear b
 have hz2:=B2.out.size
 go_wp2_with fail
 go_ret
 exact ⟨rfl,(by repeat (first|refine Below.setCell ?_ (by dsimp only;omega) _|refine Below.alloc ?_ yK _|exact B2.out))⟩
theorem ZoT (A B:Option Addr) (n c d:Nat) (ds:List Zs) (L M:List Nat) (w:World) (hn:n=ds.length) (hm:n<=9223372036854775807) (h1:Sli Yg w A ds L) (h2:Sli Yg w B ds M):
  Calls prog 187 #[.slice A n c,.slice B n d] w (Z3 w):=by
 have H1:=yS h1
 have H2:=yS h2
 have HN:=yS hn
 clear h1 h2 hn
 have hne:((n:Int) != n)=false:=by simp
 go_enter func187,ntmps187
 go_wp2
 go_loopw [5] (fun i wr=>∃(k:Nat),k<=n/\i=.int .i64 k/\Hid (Below w.heap.size w wr)) (fun i _=>n - (intOf i).toNat)
 case atStart=>exact ⟨0,AC _,rfl,Below.refl _ _⟩
 case round=>
  obtain ⟨k,hk,rfl,HB⟩:=hrel
  by_cases hlt:k<n
  .have l:k<ds.length:=by have:=HN.out;omega
   obtain ⟨b,off,cs,Lk,rfl,t,u,g,hc⟩:=H1.out.at_ l
   obtain ⟨b',f,cs',Mk,rfl,v,z,a,hc'⟩:=H2.out.at_ l
   have o:b<w.heap.size:=H1.out.lt b t
   have j:b'<w.heap.size:=H2.out.lt b' v
   have HR:=yS (Yg.keep g (Zo HB.out (fun y m=>H1.out.lt y (u y m))))
   have HR':=yS (Yg.keep a (Zo HB.out (fun y m=>H2.out.lt y (z y m))))
   generalize ds[k]=x at *
   obtain ⟨aA1,ac1,aA2,ac2,rfl⟩:=ZbH g
   obtain ⟨bA1,bc1,bA2,bc2,rfl⟩:=ZbH a
   have q0:wr.cell? ⟨b,off+k*2,none⟩=_:=(HB.out.cell (p:=⟨b,off+(k*2+0),none⟩) o).trans (hc 0 _ rfl)
   have p0:wr.cell? ⟨b',f+k*2,none⟩=_:=(HB.out.cell (p:=⟨b',f+(k*2+0),none⟩) j).trans (hc' 0 _ rfl)
   have q1:wr.cell? ⟨b,off+k*2+1,none⟩=_:=(HB.out.cell (p:=⟨b,off+(k*2+1),none⟩) o).trans (hc 1 _ rfl)
   have p1:wr.cell? ⟨b',f+k*2+1,none⟩=_:=(HB.out.cell (p:=⟨b',f+(k*2+1),none⟩) j).trans (hc' 1 _ rfl)
   clear hc hc' g a
   have k0:(0:Int)<=k:=by omega
   have k1:(k:Int)<n:=by omega
   go_wp2_with fail
   go_still_tail 8,yO
   change wpList _ _ _ _ _ wr.drew
   go_wp2_with (go_at_call 221;(refine (ZrO _ _ x Lk Mk wr.drew (Yg.keep HR.out (fun _ _=>rfl)) (Yg.keep HR'.out (fun _ _=>rfl))).mono ?_;rintro e w1 ⟨rfl,q⟩;have HB1:=yS (HB.out.drew.trans (q.mono HB.out.size));clear q))
   go_roundw
   case rel=>exact ⟨k+1,yE,by go_num,HB1.out⟩
   case measure=>simp [intOf];omega
  .go_wp2
   go_ret
   exact ⟨rfl,HB.out⟩
theorem ZrP (cs ds:List Value) (x:Z7) (L M:List Nat) (w:World) (h1:Y2.rep w cs x L) (h2:Y2.rep w ds x M):
  Calls prog 124 #[.agg cs.toArray,.agg ds.toArray] w (Z3 w):=by
 obtain ⟨c,d,u,j,k,v,rfl,_ahL,y,z,A,l,an2,B,m⟩:=h1
 obtain ⟨f,g,C,o,p,D,rfl,_bhL,E,F,G,q,bn2,H,t⟩:=h2
 unfold maxLen at A G B H
 have SA1:=yS l
 have SB1:=yS q
 clear l q
 have SA2:=yS m
 have SB2:=yS t
 clear m t
 go_enter func124,ntmps124
 go_wp2_with fail
 refine (ZeZ [.string x.shape.rel,.slice c x.shape.args.length d] [.string x.shape.rel,.slice f x.shape.args.length g] x.shape _ _ _ ⟨c,d,u,rfl,rfl,y,z,(by unfold maxLen;omega),SA1.out.below yI⟩ ⟨f,g,C,rfl,rfl,E,F,(by unfold maxLen;omega),SB1.out.below yI⟩).mono ?_
 rintro e w1 ⟨rfl,a⟩
 have B1:Hid (Below w.heap.size w w1):=Below.trans yI (a.mono yK)
 have K0:Hid (Blk w1 w.heap.size 103 #[.string x.shape.rel,.slice c x.shape.args.length d,.slice j x.facts.length k]):=Blk.later (Blk.alloc (Blk.new _ _ _) _) a
 have K1:Hid (Blk w1 (w.heap.size+1) 103 #[.string x.shape.rel,.slice f x.shape.args.length g,.slice o x.facts.length p]):=Blk.later (Blk.new_at yG) a
 have f0:=K0.out.at (i:=0) rfl
 have r0:=K1.out.at (i:=0) rfl
 have f1:=K0.out.at (i:=1) rfl
 have r1:=K1.out.at (i:=1) rfl
 have f2:=K0.out.at (i:=2) rfl
 have r2:=K1.out.at (i:=2) rfl
 clear a
 have hz1:=B1.out.size
 go_wp2_with fail
 refine (ZgT j o _ k p x.facts v D _ rfl yE (SA2.out.below (by repeat (first|refine Below.setCell ?_ (by dsimp only;omega) _|refine Below.alloc ?_ yK _|exact B1.out))) (SB2.out.below (by repeat (first|refine Below.setCell ?_ (by dsimp only;omega) _|refine Below.alloc ?_ yK _|exact B1.out)))).mono ?_
 rintro e w2 ⟨rfl,b⟩
 have B2:Hid (Below w.heap.size w w2):=Below.trans (by repeat (first|refine Below.setCell ?_ (by dsimp only;omega) _|refine Below.alloc ?_ yK _|exact B1.out)) (b.mono yK)
 have K0:=yS (K0.out.later b)
 have K1:=yS (K1.out.later b)
 clear f0 r0 f1 r1 f2 r2
 have f0:=K0.out.at (i:=0) rfl
 have r0:=K1.out.at (i:=0) rfl
 have f1:=K0.out.at (i:=1) rfl
 have r1:=K1.out.at (i:=1) rfl
 have f2:=K0.out.at (i:=2) rfl
 have r2:=K1.out.at (i:=2) rfl
 clear b
 have hz2:=B2.out.size
 go_wp2_with fail
 go_ret
 exact ⟨rfl,(by repeat (first|refine Below.setCell ?_ (by dsimp only;omega) _|refine Below.alloc ?_ yK _|exact B2.out))⟩
theorem ZpA (A B:Option Addr) (n c d:Nat) (ds:List Z7) (L M:List Nat) (w:World) (hn:n=ds.length) (hm:n<=9223372036854775807) (h1:Sli Y2 w A ds L) (h2:Sli Y2 w B ds M):
  Calls prog 74 #[.slice A n c,.slice B n d] w (Z3 w):=by
 have H1:=yS h1
 have H2:=yS h2
 have HN:=yS hn
 clear h1 h2 hn
 have hne:((n:Int) != n)=false:=by simp
 go_enter func74,ntmps74
 go_wp2
 go_loopw [5] (fun i wr=>∃(k:Nat),k<=n/\i=.int .i64 k/\Hid (Below w.heap.size w wr)) (fun i _=>n - (intOf i).toNat)
 case atStart=>exact ⟨0,AC _,rfl,Below.refl _ _⟩
 case round=>
  obtain ⟨k,hk,rfl,HB⟩:=hrel
  by_cases hlt:k<n
  .have o:k<ds.length:=by have:=HN.out;omega
   obtain ⟨b,off,cs,Lk,rfl,t,u,g,hc⟩:=H1.out.at_ o
   obtain ⟨b',a,cs',Mk,rfl,v,z,f,hc'⟩:=H2.out.at_ o
   have l:b<w.heap.size:=H1.out.lt b t
   have j:b'<w.heap.size:=H2.out.lt b' v
   have HR:=yS (Y2.keep g (Zo HB.out (fun y m=>H1.out.lt y (u y m))))
   have HR':=yS (Y2.keep f (Zo HB.out (fun y m=>H2.out.lt y (z y m))))
   generalize ds[k]=x at *
   obtain ⟨aA1,ac1,aA2,ac2,rfl⟩:=Zca g
   obtain ⟨bA1,bc1,bA2,bc2,rfl⟩:=Zca f
   have q0:wr.cell? ⟨b,off+k*3,none⟩=_:=(HB.out.cell (p:=⟨b,off+(k*3+0),none⟩) l).trans (hc 0 _ rfl)
   have p0:wr.cell? ⟨b',a+k*3,none⟩=_:=(HB.out.cell (p:=⟨b',a+(k*3+0),none⟩) j).trans (hc' 0 _ rfl)
   have q1:wr.cell? ⟨b,off+k*3+1,none⟩=_:=(HB.out.cell (p:=⟨b,off+(k*3+1),none⟩) l).trans (hc 1 _ rfl)
   have p1:wr.cell? ⟨b',a+k*3+1,none⟩=_:=(HB.out.cell (p:=⟨b',a+(k*3+1),none⟩) j).trans (hc' 1 _ rfl)
   have q2:wr.cell? ⟨b,off+k*3+2,none⟩=_:=(HB.out.cell (p:=⟨b,off+(k*3+2),none⟩) l).trans (hc 2 _ rfl)
   have p2:wr.cell? ⟨b',a+k*3+2,none⟩=_:=(HB.out.cell (p:=⟨b',a+(k*3+2),none⟩) j).trans (hc' 2 _ rfl)
   clear hc hc' g f
   have k0:(0:Int)<=k:=by omega
   have k1:(k:Int)<n:=by omega
   go_wp2_with fail
   go_still_tail 8,yO
   change wpList _ _ _ _ _ wr.drew
   go_wp2_with (go_at_call 124;(refine (ZrP _ _ x Lk Mk wr.drew (Y2.keep HR.out (fun _ _=>rfl)) (Y2.keep HR'.out (fun _ _=>rfl))).mono ?_;rintro e w1 ⟨rfl,q⟩;have HB1:=yS (HB.out.drew.trans (q.mono HB.out.size));clear q))
   go_roundw
   case rel=>exact ⟨k+1,yE,by go_num,HB1.out⟩
   case measure=>simp [intOf];omega
  .go_wp2
   go_ret
   exact ⟨rfl,HB.out⟩
theorem Zsh (cs ds:List Value) (x:ZL) (L M:List Nat) (w:World) (h1:QX.rep w cs x L) (h2:QX.rep w ds x M):
  Calls prog 125 #[.agg cs.toArray,.agg ds.toArray] w (Z3 w):=by
 obtain ⟨c,d,u,j,k,v,rfl,_ahL,y,z,A,B,C,l,an2,D,m⟩:=h1
 obtain ⟨f,g,E,o,p,F,rfl,_bhL,G,H,I,J,K,q,bn2,N,t⟩:=h2
 unfold maxLen at C K D N
 have SA1:=yS l
 have SB1:=yS q
 clear l q
 have SA2:=yS m
 have SB2:=yS t
 clear m t
 go_enter func125,ntmps125
 go_wp2_with fail
 refine (ZlN [.int .i64 x.cond.kind,.string x.cond.pattern.rel,.slice c x.cond.pattern.args.length d,.string x.cond.left,.string x.cond.right] [.int .i64 x.cond.kind,.string x.cond.pattern.rel,.slice f x.cond.pattern.args.length g,.string x.cond.left,.string x.cond.right] x.cond _ _ _ ⟨c,d,u,rfl,rfl,y,z,A,B,(by unfold maxLen;omega),SA1.out.below yI⟩ ⟨f,g,E,rfl,rfl,G,H,I,J,(by unfold maxLen;omega),SB1.out.below yI⟩).mono ?_
 rintro e w1 ⟨rfl,a⟩
 have B1:Hid (Below w.heap.size w w1):=Below.trans yI (a.mono yK)
 have K0:Hid (Blk w1 w.heap.size 110 #[.int .i64 x.parent,.int .i64 x.cond.kind,.string x.cond.pattern.rel,.slice c x.cond.pattern.args.length d,.string x.cond.left,.string x.cond.right,.int .i64 x.alpha,.slice j x.tokens.length k]):=Blk.later (Blk.alloc (Blk.new _ _ _) _) a
 have K1:Hid (Blk w1 (w.heap.size+1) 110 #[.int .i64 x.parent,.int .i64 x.cond.kind,.string x.cond.pattern.rel,.slice f x.cond.pattern.args.length g,.string x.cond.left,.string x.cond.right,.int .i64 x.alpha,.slice o x.tokens.length p]):=Blk.later (Blk.new_at yG) a
 have f0:=K0.out.at (i:=0) rfl
 have r0:=K1.out.at (i:=0) rfl
 have f1:=K0.out.at (i:=1) rfl
 have r1:=K1.out.at (i:=1) rfl
 have f2:=K0.out.at (i:=2) rfl
 have r2:=K1.out.at (i:=2) rfl
 have f3:=K0.out.at (i:=3) rfl
 have r3:=K1.out.at (i:=3) rfl
 have f4:=K0.out.at (i:=4) rfl
 have r4:=K1.out.at (i:=4) rfl
 have f5:=K0.out.at (i:=5) rfl
 have r5:=K1.out.at (i:=5) rfl
 have f6:=K0.out.at (i:=6) rfl
 have r6:=K1.out.at (i:=6) rfl
 have f7:=K0.out.at (i:=7) rfl
 have r7:=K1.out.at (i:=7) rfl
 clear a
 have hz1:=B1.out.size
 go_wp2_with fail
 refine (ZoT j o _ k p x.tokens v F _ rfl yE (SA2.out.below (by repeat (first|refine Below.setCell ?_ (by dsimp only;omega) _|refine Below.alloc ?_ yK _|exact B1.out))) (SB2.out.below (by repeat (first|refine Below.setCell ?_ (by dsimp only;omega) _|refine Below.alloc ?_ yK _|exact B1.out)))).mono ?_
 rintro e w2 ⟨rfl,b⟩
 have B2:Hid (Below w.heap.size w w2):=Below.trans (by repeat (first|refine Below.setCell ?_ (by dsimp only;omega) _|refine Below.alloc ?_ yK _|exact B1.out)) (b.mono yK)
 have K0:=yS (K0.out.later b)
 have K1:=yS (K1.out.later b)
 clear f0 r0 f1 r1 f2 r2 f3 r3 f4 r4 f5 r5 f6 r6 f7 r7
 have f0:=K0.out.at (i:=0) rfl
 have r0:=K1.out.at (i:=0) rfl
 have f1:=K0.out.at (i:=1) rfl
 have r1:=K1.out.at (i:=1) rfl
 have f2:=K0.out.at (i:=2) rfl
 have r2:=K1.out.at (i:=2) rfl
 have f3:=K0.out.at (i:=3) rfl
 have r3:=K1.out.at (i:=3) rfl
 have f4:=K0.out.at (i:=4) rfl
 have r4:=K1.out.at (i:=4) rfl
 have f5:=K0.out.at (i:=5) rfl
 have r5:=K1.out.at (i:=5) rfl
 have f6:=K0.out.at (i:=6) rfl
 have r6:=K1.out.at (i:=6) rfl
 have f7:=K0.out.at (i:=7) rfl
 have r7:=K1.out.at (i:=7) rfl
 clear b
 have hz2:=B2.out.size
 go_wp2_with fail
 go_ret
 exact ⟨rfl,(by repeat (first|refine Below.setCell ?_ (by dsimp only;omega) _|refine Below.alloc ?_ yK _|exact B2.out))⟩
theorem ZqT (A B:Option Addr) (n c d:Nat) (ds:List ZL) (L M:List Nat) (w:World) (hn:n=ds.length) (hm:n<=9223372036854775807) (h1:Sli QX w A ds L) (h2:Sli QX w B ds M):
  Calls prog 75 #[.slice A n c,.slice B n d] w (Z3 w):=by
 have H1:=yS h1
 have H2:=yS h2
 have HN:=yS hn
 clear h1 h2 hn
 have hne:((n:Int) != n)=false:=by simp
 go_enter func75,ntmps75
 go_wp2
 go_loopw [5] (fun i wr=>∃(k:Nat),k<=n/\i=.int .i64 k/\Hid (Below w.heap.size w wr)) (fun i _=>n - (intOf i).toNat)
 case atStart=>exact ⟨0,AC _,rfl,Below.refl _ _⟩
 case round=>
  obtain ⟨k,hk,rfl,HB⟩:=hrel
  by_cases hlt:k<n
  .have o:k<ds.length:=by have:=HN.out;omega
   obtain ⟨b,off,cs,Lk,rfl,t,u,l,hc⟩:=H1.out.at_ o
   obtain ⟨b',a,cs',Mk,rfl,v,z,j,hc'⟩:=H2.out.at_ o
   have g:b<w.heap.size:=H1.out.lt b t
   have f:b'<w.heap.size:=H2.out.lt b' v
   have HR:=yS (QX.keep l (Zo HB.out (fun y m=>H1.out.lt y (u y m))))
   have HR':=yS (QX.keep j (Zo HB.out (fun y m=>H2.out.lt y (z y m))))
   generalize ds[k]=x at *
   obtain ⟨aA1,ac1,aA2,ac2,rfl⟩:=Zc1 l
   obtain ⟨bA1,bc1,bA2,bc2,rfl⟩:=Zc1 j
   have q0:wr.cell? ⟨b,off+k*8,none⟩=_:=(HB.out.cell (p:=⟨b,off+(k*8+0),none⟩) g).trans (hc 0 _ rfl)
   have p0:wr.cell? ⟨b',a+k*8,none⟩=_:=(HB.out.cell (p:=⟨b',a+(k*8+0),none⟩) f).trans (hc' 0 _ rfl)
   have q1:wr.cell? ⟨b,off+k*8+1,none⟩=_:=(HB.out.cell (p:=⟨b,off+(k*8+1),none⟩) g).trans (hc 1 _ rfl)
   have p1:wr.cell? ⟨b',a+k*8+1,none⟩=_:=(HB.out.cell (p:=⟨b',a+(k*8+1),none⟩) f).trans (hc' 1 _ rfl)
   have q2:wr.cell? ⟨b,off+k*8+2,none⟩=_:=(HB.out.cell (p:=⟨b,off+(k*8+2),none⟩) g).trans (hc 2 _ rfl)
   have p2:wr.cell? ⟨b',a+k*8+2,none⟩=_:=(HB.out.cell (p:=⟨b',a+(k*8+2),none⟩) f).trans (hc' 2 _ rfl)
   have q3:wr.cell? ⟨b,off+k*8+3,none⟩=_:=(HB.out.cell (p:=⟨b,off+(k*8+3),none⟩) g).trans (hc 3 _ rfl)
   have p3:wr.cell? ⟨b',a+k*8+3,none⟩=_:=(HB.out.cell (p:=⟨b',a+(k*8+3),none⟩) f).trans (hc' 3 _ rfl)
   have q4:wr.cell? ⟨b,off+k*8+4,none⟩=_:=(HB.out.cell (p:=⟨b,off+(k*8+4),none⟩) g).trans (hc 4 _ rfl)
   have p4:wr.cell? ⟨b',a+k*8+4,none⟩=_:=(HB.out.cell (p:=⟨b',a+(k*8+4),none⟩) f).trans (hc' 4 _ rfl)
   have q5:wr.cell? ⟨b,off+k*8+5,none⟩=_:=(HB.out.cell (p:=⟨b,off+(k*8+5),none⟩) g).trans (hc 5 _ rfl)
   have p5:wr.cell? ⟨b',a+k*8+5,none⟩=_:=(HB.out.cell (p:=⟨b',a+(k*8+5),none⟩) f).trans (hc' 5 _ rfl)
   have q6:wr.cell? ⟨b,off+k*8+6,none⟩=_:=(HB.out.cell (p:=⟨b,off+(k*8+6),none⟩) g).trans (hc 6 _ rfl)
   have p6:wr.cell? ⟨b',a+k*8+6,none⟩=_:=(HB.out.cell (p:=⟨b',a+(k*8+6),none⟩) f).trans (hc' 6 _ rfl)
   have q7:wr.cell? ⟨b,off+k*8+7,none⟩=_:=(HB.out.cell (p:=⟨b,off+(k*8+7),none⟩) g).trans (hc 7 _ rfl)
   have p7:wr.cell? ⟨b',a+k*8+7,none⟩=_:=(HB.out.cell (p:=⟨b',a+(k*8+7),none⟩) f).trans (hc' 7 _ rfl)
   clear hc hc' l j
   have k0:(0:Int)<=k:=by omega
   have k1:(k:Int)<n:=by omega
   go_wp2_with fail
   go_still_tail 8,yO
   change wpList _ _ _ _ _ wr.drew
   go_wp2_with (go_at_call 125;(refine (Zsh _ _ x Lk Mk wr.drew (QX.keep HR.out (fun _ _=>rfl)) (QX.keep HR'.out (fun _ _=>rfl))).mono ?_;rintro e w1 ⟨rfl,q⟩;have HB1:=yS (HB.out.drew.trans (q.mono HB.out.size));clear q))
   go_roundw
   case rel=>exact ⟨k+1,yE,by go_num,HB1.out⟩
   case measure=>simp [intOf];omega
  .go_wp2
   go_ret
   exact ⟨rfl,HB.out⟩
theorem Znw (cs ds:List Value) (x:Ze) (L M:List Nat) (w:World) (h1:ZdS.rep w cs x L) (h2:ZdS.rep w ds x M):
  Calls prog 24 #[.agg cs.toArray,.agg ds.toArray] w (Z3 w):=by
 obtain ⟨g,j,T,k,l,U,m,o,V,p,q,W,t,u,X,rfl,_ahL,an1,Y,v,an2,Z,y,an3,aa,z,an4,ab,A,an5,ac,B⟩:=h1
 obtain ⟨C,D,ad,E,F,ae,G,H,af,I,J,ag,K,N,ah,rfl,_bhL,bn1,ai,O,bn2,aj,P,bn3,ak,Q,bn4,al,R,bn5,am,S⟩:=h2
 unfold maxLen at Y ai Z aj aa ak ab al ac am
 have SA1:=yS v
 have SB1:=yS O
 clear v O
 have SA2:=yS y
 have SB2:=yS P
 clear y P
 have SA3:=yS z
 have SB3:=yS Q
 clear z Q
 have SA4:=yS A
 have SB4:=yS R
 clear A R
 have SA5:=yS B
 have SB5:=yS S
 clear B S
 go_enter func24,ntmps24
 go_wp2_with fail
 refine (ZkO g C _ j D x.rules T ad _ rfl yE (SA1.out.below yI) (SB1.out.below yI)).mono ?_
 rintro e w1 ⟨rfl,a⟩
 have B1:Hid (Below w.heap.size w w1):=Below.trans yI (a.mono yK)
 have K0:Hid (Blk w1 w.heap.size 48 #[.slice g x.rules.length j,.slice k x.ends.length l,.slice m x.alphas.length o,.slice p x.nodes.length q,.slice t x.facts.length u,.int .i64 x.tries]):=Blk.later (Blk.alloc (Blk.new _ _ _) _) a
 have K1:Hid (Blk w1 (w.heap.size+1) 48 #[.slice C x.rules.length D,.slice E x.ends.length F,.slice G x.alphas.length H,.slice I x.nodes.length J,.slice K x.facts.length N,.int .i64 x.tries]):=Blk.later (Blk.new_at yG) a
 have f0:=K0.out.at (i:=0) rfl
 have r0:=K1.out.at (i:=0) rfl
 have f1:=K0.out.at (i:=1) rfl
 have r1:=K1.out.at (i:=1) rfl
 have f2:=K0.out.at (i:=2) rfl
 have r2:=K1.out.at (i:=2) rfl
 have f3:=K0.out.at (i:=3) rfl
 have r3:=K1.out.at (i:=3) rfl
 have f4:=K0.out.at (i:=4) rfl
 have r4:=K1.out.at (i:=4) rfl
 have f5:=K0.out.at (i:=5) rfl
 have r5:=K1.out.at (i:=5) rfl
 clear a
 have hz1:=B1.out.size
 go_wp2_with fail
 refine (ZmD k E _ l F x.ends U ae _ rfl yE (SA2.out.below (by repeat (first|refine Below.setCell ?_ (by dsimp only;omega) _|refine Below.alloc ?_ yK _|exact B1.out))) (SB2.out.below (by repeat (first|refine Below.setCell ?_ (by dsimp only;omega) _|refine Below.alloc ?_ yK _|exact B1.out)))).mono ?_
 rintro e w2 ⟨rfl,b⟩
 have B2:Hid (Below w.heap.size w w2):=Below.trans (by repeat (first|refine Below.setCell ?_ (by dsimp only;omega) _|refine Below.alloc ?_ yK _|exact B1.out)) (b.mono yK)
 have K0:=yS (K0.out.later b)
 have K1:=yS (K1.out.later b)
 clear f0 r0 f1 r1 f2 r2 f3 r3 f4 r4 f5 r5
 have f0:=K0.out.at (i:=0) rfl
 have r0:=K1.out.at (i:=0) rfl
 have f1:=K0.out.at (i:=1) rfl
 have r1:=K1.out.at (i:=1) rfl
 have f2:=K0.out.at (i:=2) rfl
 have r2:=K1.out.at (i:=2) rfl
 have f3:=K0.out.at (i:=3) rfl
 have r3:=K1.out.at (i:=3) rfl
 have f4:=K0.out.at (i:=4) rfl
 have r4:=K1.out.at (i:=4) rfl
 have f5:=K0.out.at (i:=5) rfl
 have r5:=K1.out.at (i:=5) rfl
 clear b
 have hz2:=B2.out.size
 go_wp2_with fail
 refine (ZpA m G _ o H x.alphas V af _ rfl yE (SA3.out.below (by repeat (first|refine Below.setCell ?_ (by dsimp only;omega) _|refine Below.alloc ?_ yK _|exact B2.out))) (SB3.out.below (by repeat (first|refine Below.setCell ?_ (by dsimp only;omega) _|refine Below.alloc ?_ yK _|exact B2.out)))).mono ?_
 rintro e w3 ⟨rfl,c⟩
 have B3:Hid (Below w.heap.size w w3):=Below.trans (by repeat (first|refine Below.setCell ?_ (by dsimp only;omega) _|refine Below.alloc ?_ yK _|exact B2.out)) (c.mono yK)
 have K0:=yS (K0.out.later c)
 have K1:=yS (K1.out.later c)
 clear f0 r0 f1 r1 f2 r2 f3 r3 f4 r4 f5 r5
 have f0:=K0.out.at (i:=0) rfl
 have r0:=K1.out.at (i:=0) rfl
 have f1:=K0.out.at (i:=1) rfl
 have r1:=K1.out.at (i:=1) rfl
 have f2:=K0.out.at (i:=2) rfl
 have r2:=K1.out.at (i:=2) rfl
 have f3:=K0.out.at (i:=3) rfl
 have r3:=K1.out.at (i:=3) rfl
 have f4:=K0.out.at (i:=4) rfl
 have r4:=K1.out.at (i:=4) rfl
 have f5:=K0.out.at (i:=5) rfl
 have r5:=K1.out.at (i:=5) rfl
 clear c
 have hz3:=B3.out.size
 go_wp2_with fail
 refine (ZqT p I _ q J x.nodes W ag _ rfl yE (SA4.out.below (by repeat (first|refine Below.setCell ?_ (by dsimp only;omega) _|refine Below.alloc ?_ yK _|exact B3.out))) (SB4.out.below (by repeat (first|refine Below.setCell ?_ (by dsimp only;omega) _|refine Below.alloc ?_ yK _|exact B3.out)))).mono ?_
 rintro e w4 ⟨rfl,d⟩
 have B4:Hid (Below w.heap.size w w4):=Below.trans (by repeat (first|refine Below.setCell ?_ (by dsimp only;omega) _|refine Below.alloc ?_ yK _|exact B3.out)) (d.mono yK)
 have K0:=yS (K0.out.later d)
 have K1:=yS (K1.out.later d)
 clear f0 r0 f1 r1 f2 r2 f3 r3 f4 r4 f5 r5
 have f0:=K0.out.at (i:=0) rfl
 have r0:=K1.out.at (i:=0) rfl
 have f1:=K0.out.at (i:=1) rfl
 have r1:=K1.out.at (i:=1) rfl
 have f2:=K0.out.at (i:=2) rfl
 have r2:=K1.out.at (i:=2) rfl
 have f3:=K0.out.at (i:=3) rfl
 have r3:=K1.out.at (i:=3) rfl
 have f4:=K0.out.at (i:=4) rfl
 have r4:=K1.out.at (i:=4) rfl
 have f5:=K0.out.at (i:=5) rfl
 have r5:=K1.out.at (i:=5) rfl
 clear d
 have hz4:=B4.out.size
 go_wp2_with fail
 refine (ZgT t K _ u N x.facts X ah _ rfl yE (SA5.out.below (by repeat (first|refine Below.setCell ?_ (by dsimp only;omega) _|refine Below.alloc ?_ yK _|exact B4.out))) (SB5.out.below (by repeat (first|refine Below.setCell ?_ (by dsimp only;omega) _|refine Below.alloc ?_ yK _|exact B4.out)))).mono ?_
 rintro e w5 ⟨rfl,f⟩
 have B5:Hid (Below w.heap.size w w5):=Below.trans (by repeat (first|refine Below.setCell ?_ (by dsimp only;omega) _|refine Below.alloc ?_ yK _|exact B4.out)) (f.mono yK)
 have K0:=yS (K0.out.later f)
 have K1:=yS (K1.out.later f)
 clear f0 r0 f1 r1 f2 r2 f3 r3 f4 r4 f5 r5
 have f0:=K0.out.at (i:=0) rfl
 have r0:=K1.out.at (i:=0) rfl
 have f1:=K0.out.at (i:=1) rfl
 have r1:=K1.out.at (i:=1) rfl
 have f2:=K0.out.at (i:=2) rfl
 have r2:=K1.out.at (i:=2) rfl
 have f3:=K0.out.at (i:=3) rfl
 have r3:=K1.out.at (i:=3) rfl
 have f4:=K0.out.at (i:=4) rfl
 have r4:=K1.out.at (i:=4) rfl
 have f5:=K0.out.at (i:=5) rfl
 have r5:=K1.out.at (i:=5) rfl
 clear f
 have hz5:=B5.out.size
 go_wp2_with fail
 go_ret
 exact ⟨rfl,(by repeat (first|refine Below.setCell ?_ (by dsimp only;omega) _|refine Below.alloc ?_ yK _|exact B5.out))⟩
theorem ZrX (cs ds:List Value) (x:Z2) (L M:List Nat) (w:World) (h1:Y8.rep w cs x L) (h2:Y8.rep w ds x M):
  Calls prog 121 #[.agg cs.toArray,.agg ds.toArray] w (Z3 w):=by
 obtain ⟨b,c,k,rfl,_ahL,l,m,o,g⟩:=h1
 obtain ⟨d,f,p,rfl,_bhL,q,t,u,j⟩:=h2
 unfold maxLen at o u
 have SA1:=yS g
 have SB1:=yS j
 clear g j
 go_enter func121,ntmps121
 go_wp2_with fail
 refine (ZiA [.string x.fact.rel,.slice b x.fact.args.length c] [.string x.fact.rel,.slice d x.fact.args.length f] x.fact _ _ _ ⟨b,c,k,rfl,rfl,l,m,(by unfold maxLen;omega),SA1.out.below yI⟩ ⟨d,f,p,rfl,rfl,q,t,(by unfold maxLen;omega),SB1.out.below yI⟩).mono ?_
 rintro e w1 ⟨rfl,a⟩
 have B1:Hid (Below w.heap.size w w1):=Below.trans yI (a.mono yK)
 have K0:Hid (Blk w1 w.heap.size 85 #[.string x.fact.rel,.slice b x.fact.args.length c,.int .i64 x.time]):=Blk.later (Blk.alloc (Blk.new _ _ _) _) a
 have K1:Hid (Blk w1 (w.heap.size+1) 85 #[.string x.fact.rel,.slice d x.fact.args.length f,.int .i64 x.time]):=Blk.later (Blk.new_at yG) a
 have f0:=K0.out.at (i:=0) rfl
 have r0:=K1.out.at (i:=0) rfl
 have f1:=K0.out.at (i:=1) rfl
 have r1:=K1.out.at (i:=1) rfl
 have f2:=K0.out.at (i:=2) rfl
 have r2:=K1.out.at (i:=2) rfl
 clear a
 have hz1:=B1.out.size
 go_wp2_with fail
 go_ret
 exact ⟨rfl,(by repeat (first|refine Below.setCell ?_ (by dsimp only;omega) _|refine Below.alloc ?_ yK _|exact B1.out))⟩
theorem ZpB (A B:Option Addr) (n c d:Nat) (ds:List Z2) (L M:List Nat) (w:World) (hn:n=ds.length) (hm:n<=9223372036854775807) (h1:Sli Y8 w A ds L) (h2:Sli Y8 w B ds M):
  Calls prog 70 #[.slice A n c,.slice B n d] w (Z3 w):=by
 have H1:=yS h1
 have H2:=yS h2
 have HN:=yS hn
 clear h1 h2 hn
 have hne:((n:Int) != n)=false:=by simp
 go_enter func70,ntmps70
 go_wp2
 go_loopw [5] (fun i wr=>∃(k:Nat),k<=n/\i=.int .i64 k/\Hid (Below w.heap.size w wr)) (fun i _=>n - (intOf i).toNat)
 case atStart=>exact ⟨0,AC _,rfl,Below.refl _ _⟩
 case round=>
  obtain ⟨k,hk,rfl,HB⟩:=hrel
  by_cases hlt:k<n
  .have o:k<ds.length:=by have:=HN.out;omega
   obtain ⟨b,off,cs,Lk,rfl,t,u,g,hc⟩:=H1.out.at_ o
   obtain ⟨b',a,cs',Mk,rfl,v,z,f,hc'⟩:=H2.out.at_ o
   have l:b<w.heap.size:=H1.out.lt b t
   have j:b'<w.heap.size:=H2.out.lt b' v
   have HR:=yS (Y8.keep g (Zo HB.out (fun y m=>H1.out.lt y (u y m))))
   have HR':=yS (Y8.keep f (Zo HB.out (fun y m=>H2.out.lt y (z y m))))
   generalize ds[k]=x at *
   obtain ⟨aA1,ac1,rfl⟩:=Zb4 g
   obtain ⟨bA1,bc1,rfl⟩:=Zb4 f
   have q0:wr.cell? ⟨b,off+k*3,none⟩=_:=(HB.out.cell (p:=⟨b,off+(k*3+0),none⟩) l).trans (hc 0 _ rfl)
   have p0:wr.cell? ⟨b',a+k*3,none⟩=_:=(HB.out.cell (p:=⟨b',a+(k*3+0),none⟩) j).trans (hc' 0 _ rfl)
   have q1:wr.cell? ⟨b,off+k*3+1,none⟩=_:=(HB.out.cell (p:=⟨b,off+(k*3+1),none⟩) l).trans (hc 1 _ rfl)
   have p1:wr.cell? ⟨b',a+k*3+1,none⟩=_:=(HB.out.cell (p:=⟨b',a+(k*3+1),none⟩) j).trans (hc' 1 _ rfl)
   have q2:wr.cell? ⟨b,off+k*3+2,none⟩=_:=(HB.out.cell (p:=⟨b,off+(k*3+2),none⟩) l).trans (hc 2 _ rfl)
   have p2:wr.cell? ⟨b',a+k*3+2,none⟩=_:=(HB.out.cell (p:=⟨b',a+(k*3+2),none⟩) j).trans (hc' 2 _ rfl)
   clear hc hc' g f
   have k0:(0:Int)<=k:=by omega
   have k1:(k:Int)<n:=by omega
   go_wp2_with fail
   go_still_tail 8,yO
   change wpList _ _ _ _ _ wr.drew
   go_wp2_with (go_at_call 121;(refine (ZrX _ _ x Lk Mk wr.drew (Y8.keep HR.out (fun _ _=>rfl)) (Y8.keep HR'.out (fun _ _=>rfl))).mono ?_;rintro e w1 ⟨rfl,q⟩;have HB1:=yS (HB.out.drew.trans (q.mono HB.out.size));clear q))
   go_roundw
   case rel=>exact ⟨k+1,yE,by go_num,HB1.out⟩
   case measure=>simp [intOf];omega
  .go_wp2
   go_ret
   exact ⟨rfl,HB.out⟩
theorem Zpq (cs ds:List Value) (x:ZX) (L M:List Nat) (w:World) (h1:Yz.rep w cs x L) (h2:Yz.rep w ds x M):
  Calls prog 122 #[.agg cs.toArray,.agg ds.toArray] w (Z3 w):=by
 obtain ⟨b,c,k,rfl,_ahL,at0,an1,l,d⟩:=h1
 obtain ⟨f,g,m,rfl,_bhL,bt0,bn1,o,j⟩:=h2
 unfold maxLen at l o
 have SA1:=yS d
 have SB1:=yS j
 clear d j
 go_enter func122,ntmps122
 go_wp2_with fail
 refine (ZmD b f _ c g x.times k m _ rfl yE (SA1.out.below yI) (SB1.out.below yI)).mono ?_
 rintro e w1 ⟨rfl,a⟩
 have B1:Hid (Below w.heap.size w w1):=Below.trans yI (a.mono yK)
 have K0:Hid (Blk w1 w.heap.size 88 #[.string x.rule,.slice b x.times.length c]):=Blk.later (Blk.alloc (Blk.new _ _ _) _) a
 have K1:Hid (Blk w1 (w.heap.size+1) 88 #[.string x.rule,.slice f x.times.length g]):=Blk.later (Blk.new_at yG) a
 have f0:=K0.out.at (i:=0) rfl
 have r0:=K1.out.at (i:=0) rfl
 have f1:=K0.out.at (i:=1) rfl
 have r1:=K1.out.at (i:=1) rfl
 clear a
 have hz1:=B1.out.size
 go_wp2_with fail
 go_ret
 exact ⟨rfl,(by repeat (first|refine Below.setCell ?_ (by dsimp only;omega) _|refine Below.alloc ?_ yK _|exact B1.out))⟩
theorem Znx (A B:Option Addr) (n c d:Nat) (ds:List ZX) (L M:List Nat) (w:World) (hn:n=ds.length) (hm:n<=9223372036854775807) (h1:Sli Yz w A ds L) (h2:Sli Yz w B ds M):
  Calls prog 71 #[.slice A n c,.slice B n d] w (Z3 w):=by
 have H1:=yS h1
 have H2:=yS h2
 have HN:=yS hn
 clear h1 h2 hn
 have hne:((n:Int) != n)=false:=by simp
 go_enter func71,ntmps71
 go_wp2
 go_loopw [5] (fun i wr=>∃(k:Nat),k<=n/\i=.int .i64 k/\Hid (Below w.heap.size w wr)) (fun i _=>n - (intOf i).toNat)
 case atStart=>exact ⟨0,AC _,rfl,Below.refl _ _⟩
 case round=>
  obtain ⟨k,hk,rfl,HB⟩:=hrel
  by_cases hlt:k<n
  .have l:k<ds.length:=by have:=HN.out;omega
   obtain ⟨b,off,cs,Lk,rfl,t,u,g,hc⟩:=H1.out.at_ l
   obtain ⟨b',f,cs',Mk,rfl,v,z,a,hc'⟩:=H2.out.at_ l
   have o:b<w.heap.size:=H1.out.lt b t
   have j:b'<w.heap.size:=H2.out.lt b' v
   have HR:=yS (Yz.keep g (Zo HB.out (fun y m=>H1.out.lt y (u y m))))
   have HR':=yS (Yz.keep a (Zo HB.out (fun y m=>H2.out.lt y (z y m))))
   generalize ds[k]=x at *
   obtain ⟨aA1,ac1,rfl⟩:=Za5 g
   obtain ⟨bA1,bc1,rfl⟩:=Za5 a
   have q0:wr.cell? ⟨b,off+k*2,none⟩=_:=(HB.out.cell (p:=⟨b,off+(k*2+0),none⟩) o).trans (hc 0 _ rfl)
   have p0:wr.cell? ⟨b',f+k*2,none⟩=_:=(HB.out.cell (p:=⟨b',f+(k*2+0),none⟩) j).trans (hc' 0 _ rfl)
   have q1:wr.cell? ⟨b,off+k*2+1,none⟩=_:=(HB.out.cell (p:=⟨b,off+(k*2+1),none⟩) o).trans (hc 1 _ rfl)
   have p1:wr.cell? ⟨b',f+k*2+1,none⟩=_:=(HB.out.cell (p:=⟨b',f+(k*2+1),none⟩) j).trans (hc' 1 _ rfl)
   clear hc hc' g a
   have k0:(0:Int)<=k:=by omega
   have k1:(k:Int)<n:=by omega
   go_wp2_with fail
   go_still_tail 8,yO
   change wpList _ _ _ _ _ wr.drew
   go_wp2_with (go_at_call 122;(refine (Zpq _ _ x Lk Mk wr.drew (Yz.keep HR.out (fun _ _=>rfl)) (Yz.keep HR'.out (fun _ _=>rfl))).mono ?_;rintro e w1 ⟨rfl,q⟩;have HB1:=yS (HB.out.drew.trans (q.mono HB.out.size));clear q))
   go_roundw
   case rel=>exact ⟨k+1,yE,by go_num,HB1.out⟩
   case measure=>simp [intOf];omega
  .go_wp2
   go_ret
   exact ⟨rfl,HB.out⟩
theorem Zra (cs ds:List Value) (x:Y3) (L M:List Nat) (w:World) (h1:Xz.rep w cs x L) (h2:Xz.rep w ds x M):
  Calls prog 123 #[.agg cs.toArray,.agg ds.toArray] w (Z3 w):=by
 obtain ⟨b,c,k,rfl,_ahL,at0,l,m,o,g⟩:=h1
 obtain ⟨d,f,p,rfl,_bhL,bt0,q,t,u,j⟩:=h2
 unfold maxLen at o u
 have SA1:=yS g
 have SB1:=yS j
 clear g j
 go_enter func123,ntmps123
 go_wp2_with fail
 refine (ZiA [.string x.fact.rel,.slice b x.fact.args.length c] [.string x.fact.rel,.slice d x.fact.args.length f] x.fact _ _ _ ⟨b,c,k,rfl,rfl,l,m,(by unfold maxLen;omega),SA1.out.below yI⟩ ⟨d,f,p,rfl,rfl,q,t,(by unfold maxLen;omega),SB1.out.below yI⟩).mono ?_
 rintro e w1 ⟨rfl,a⟩
 have B1:Hid (Below w.heap.size w w1):=Below.trans yI (a.mono yK)
 have K0:Hid (Blk w1 w.heap.size 97 #[.int .i64 x.kind,.string x.rule,.string x.fact.rel,.slice b x.fact.args.length c]):=Blk.later (Blk.alloc (Blk.new _ _ _) _) a
 have K1:Hid (Blk w1 (w.heap.size+1) 97 #[.int .i64 x.kind,.string x.rule,.string x.fact.rel,.slice d x.fact.args.length f]):=Blk.later (Blk.new_at yG) a
 have f0:=K0.out.at (i:=0) rfl
 have r0:=K1.out.at (i:=0) rfl
 have f1:=K0.out.at (i:=1) rfl
 have r1:=K1.out.at (i:=1) rfl
 have f2:=K0.out.at (i:=2) rfl
 have r2:=K1.out.at (i:=2) rfl
 have f3:=K0.out.at (i:=3) rfl
 have r3:=K1.out.at (i:=3) rfl
 clear a
 have hz1:=B1.out.size
 go_wp2_with fail
 go_ret
 exact ⟨rfl,(by repeat (first|refine Below.setCell ?_ (by dsimp only;omega) _|refine Below.alloc ?_ yK _|exact B1.out))⟩
theorem Zo7 (A B:Option Addr) (n c d:Nat) (ds:List Y3) (L M:List Nat) (w:World) (hn:n=ds.length) (hm:n<=9223372036854775807) (h1:Sli Xz w A ds L) (h2:Sli Xz w B ds M):
  Calls prog 72 #[.slice A n c,.slice B n d] w (Z3 w):=by
 have H1:=yS h1
 have H2:=yS h2
 have HN:=yS hn
 clear h1 h2 hn
 have hne:((n:Int) != n)=false:=by simp
 go_enter func72,ntmps72
 go_wp2
 go_loopw [5] (fun i wr=>∃(k:Nat),k<=n/\i=.int .i64 k/\Hid (Below w.heap.size w wr)) (fun i _=>n - (intOf i).toNat)
 case atStart=>exact ⟨0,AC _,rfl,Below.refl _ _⟩
 case round=>
  obtain ⟨k,hk,rfl,HB⟩:=hrel
  by_cases hlt:k<n
  .have o:k<ds.length:=by have:=HN.out;omega
   obtain ⟨b,off,cs,Lk,rfl,t,u,j,hc⟩:=H1.out.at_ o
   obtain ⟨b',a,cs',Mk,rfl,v,z,f,hc'⟩:=H2.out.at_ o
   have l:b<w.heap.size:=H1.out.lt b t
   have g:b'<w.heap.size:=H2.out.lt b' v
   have HR:=yS (Xz.keep j (Zo HB.out (fun y m=>H1.out.lt y (u y m))))
   have HR':=yS (Xz.keep f (Zo HB.out (fun y m=>H2.out.lt y (z y m))))
   generalize ds[k]=x at *
   obtain ⟨aA1,ac1,rfl⟩:=ZbF j
   obtain ⟨bA1,bc1,rfl⟩:=ZbF f
   have q0:wr.cell? ⟨b,off+k*4,none⟩=_:=(HB.out.cell (p:=⟨b,off+(k*4+0),none⟩) l).trans (hc 0 _ rfl)
   have p0:wr.cell? ⟨b',a+k*4,none⟩=_:=(HB.out.cell (p:=⟨b',a+(k*4+0),none⟩) g).trans (hc' 0 _ rfl)
   have q1:wr.cell? ⟨b,off+k*4+1,none⟩=_:=(HB.out.cell (p:=⟨b,off+(k*4+1),none⟩) l).trans (hc 1 _ rfl)
   have p1:wr.cell? ⟨b',a+k*4+1,none⟩=_:=(HB.out.cell (p:=⟨b',a+(k*4+1),none⟩) g).trans (hc' 1 _ rfl)
   have q2:wr.cell? ⟨b,off+k*4+2,none⟩=_:=(HB.out.cell (p:=⟨b,off+(k*4+2),none⟩) l).trans (hc 2 _ rfl)
   have p2:wr.cell? ⟨b',a+k*4+2,none⟩=_:=(HB.out.cell (p:=⟨b',a+(k*4+2),none⟩) g).trans (hc' 2 _ rfl)
   have q3:wr.cell? ⟨b,off+k*4+3,none⟩=_:=(HB.out.cell (p:=⟨b,off+(k*4+3),none⟩) l).trans (hc 3 _ rfl)
   have p3:wr.cell? ⟨b',a+k*4+3,none⟩=_:=(HB.out.cell (p:=⟨b',a+(k*4+3),none⟩) g).trans (hc' 3 _ rfl)
   clear hc hc' j f
   have k0:(0:Int)<=k:=by omega
   have k1:(k:Int)<n:=by omega
   go_wp2_with fail
   go_still_tail 8,yO
   change wpList _ _ _ _ _ wr.drew
   go_wp2_with (go_at_call 123;(refine (Zra _ _ x Lk Mk wr.drew (Xz.keep HR.out (fun _ _=>rfl)) (Xz.keep HR'.out (fun _ _=>rfl))).mono ?_;rintro e w1 ⟨rfl,q⟩;have HB1:=yS (HB.out.drew.trans (q.mono HB.out.size));clear q))
   go_roundw
   case rel=>exact ⟨k+1,yE,by go_num,HB1.out⟩
   case measure=>simp [intOf];omega
  .go_wp2
   go_ret
   exact ⟨rfl,HB.out⟩
theorem Zpx (cs ds:List Value) (x:Yq) (L M:List Nat) (w:World) (h1:ZeO.rep w cs x L) (h2:ZeO.rep w ds x M):
  Calls prog 23 #[.agg cs.toArray,.agg ds.toArray] w (Z3 w):=by
 obtain ⟨f,g,K,j,k,N,l,m,O,o,p,P,rfl,_ahL,an1,Q,q,an2,R,t,an3,S,u,an4,T,v⟩:=h1
 obtain ⟨y,z,U,A,B,V,C,D,W,E,F,X,rfl,_bhL,bn1,Y,G,bn2,Z,H,bn3,aa,I,bn4,ab,J⟩:=h2
 unfold maxLen at Q Y R Z S aa T ab
 have SA1:=yS q
 have SB1:=yS G
 clear q G
 have SA2:=yS t
 have SB2:=yS H
 clear t H
 have SA3:=yS u
 have SB3:=yS I
 clear u I
 have SA4:=yS v
 have SB4:=yS J
 clear v J
 go_enter func23,ntmps23
 go_wp2_with fail
 refine (ZkO f y _ g z x.rules K U _ rfl yE (SA1.out.below yI) (SB1.out.below yI)).mono ?_
 rintro e w1 ⟨rfl,a⟩
 have B1:Hid (Below w.heap.size w w1):=Below.trans yI (a.mono yK)
 have K0:Hid (Blk w1 w.heap.size 43 #[.slice f x.rules.length g,.slice j x.memory.length k,.int .i64 x.clock,.slice l x.fired.length m,.bool x.halted,.slice o x.log.length p]):=Blk.later (Blk.alloc (Blk.new _ _ _) _) a
 have K1:Hid (Blk w1 (w.heap.size+1) 43 #[.slice y x.rules.length z,.slice A x.memory.length B,.int .i64 x.clock,.slice C x.fired.length D,.bool x.halted,.slice E x.log.length F]):=Blk.later (Blk.new_at yG) a
 have f0:=K0.out.at (i:=0) rfl
 have r0:=K1.out.at (i:=0) rfl
 have f1:=K0.out.at (i:=1) rfl
 have r1:=K1.out.at (i:=1) rfl
 have f2:=K0.out.at (i:=2) rfl
 have r2:=K1.out.at (i:=2) rfl
 have f3:=K0.out.at (i:=3) rfl
 have r3:=K1.out.at (i:=3) rfl
 have f4:=K0.out.at (i:=4) rfl
 have r4:=K1.out.at (i:=4) rfl
 have f5:=K0.out.at (i:=5) rfl
 have r5:=K1.out.at (i:=5) rfl
 clear a
 have hz1:=B1.out.size
 go_wp2_with fail
 refine (ZpB j A _ k B x.memory N V _ rfl yE (SA2.out.below (by repeat (first|refine Below.setCell ?_ (by dsimp only;omega) _|refine Below.alloc ?_ yK _|exact B1.out))) (SB2.out.below (by repeat (first|refine Below.setCell ?_ (by dsimp only;omega) _|refine Below.alloc ?_ yK _|exact B1.out)))).mono ?_
 rintro e w2 ⟨rfl,b⟩
 have B2:Hid (Below w.heap.size w w2):=Below.trans (by repeat (first|refine Below.setCell ?_ (by dsimp only;omega) _|refine Below.alloc ?_ yK _|exact B1.out)) (b.mono yK)
 have K0:=yS (K0.out.later b)
 have K1:=yS (K1.out.later b)
 clear f0 r0 f1 r1 f2 r2 f3 r3 f4 r4 f5 r5
 have f0:=K0.out.at (i:=0) rfl
 have r0:=K1.out.at (i:=0) rfl
 have f1:=K0.out.at (i:=1) rfl
 have r1:=K1.out.at (i:=1) rfl
 have f2:=K0.out.at (i:=2) rfl
 have r2:=K1.out.at (i:=2) rfl
 have f3:=K0.out.at (i:=3) rfl
 have r3:=K1.out.at (i:=3) rfl
 have f4:=K0.out.at (i:=4) rfl
 have r4:=K1.out.at (i:=4) rfl
 have f5:=K0.out.at (i:=5) rfl
 have r5:=K1.out.at (i:=5) rfl
 clear b
 have hz2:=B2.out.size
 go_wp2_with fail
 refine (Znx l C _ m D x.fired O W _ rfl yE (SA3.out.below (by repeat (first|refine Below.setCell ?_ (by dsimp only;omega) _|refine Below.alloc ?_ yK _|exact B2.out))) (SB3.out.below (by repeat (first|refine Below.setCell ?_ (by dsimp only;omega) _|refine Below.alloc ?_ yK _|exact B2.out)))).mono ?_
 rintro e w3 ⟨rfl,c⟩
 have B3:Hid (Below w.heap.size w w3):=Below.trans (by repeat (first|refine Below.setCell ?_ (by dsimp only;omega) _|refine Below.alloc ?_ yK _|exact B2.out)) (c.mono yK)
 have K0:=yS (K0.out.later c)
 have K1:=yS (K1.out.later c)
 clear f0 r0 f1 r1 f2 r2 f3 r3 f4 r4 f5 r5
 have f0:=K0.out.at (i:=0) rfl
 have r0:=K1.out.at (i:=0) rfl
 have f1:=K0.out.at (i:=1) rfl
 have r1:=K1.out.at (i:=1) rfl
 have f2:=K0.out.at (i:=2) rfl
 have r2:=K1.out.at (i:=2) rfl
 have f3:=K0.out.at (i:=3) rfl
 have r3:=K1.out.at (i:=3) rfl
 have f4:=K0.out.at (i:=4) rfl
 have r4:=K1.out.at (i:=4) rfl
 have f5:=K0.out.at (i:=5) rfl
 have r5:=K1.out.at (i:=5) rfl
 clear c
 have hz3:=B3.out.size
 go_wp2_with fail
 refine (Zo7 o E _ p F x.log P X _ rfl yE (SA4.out.below (by repeat (first|refine Below.setCell ?_ (by dsimp only;omega) _|refine Below.alloc ?_ yK _|exact B3.out))) (SB4.out.below (by repeat (first|refine Below.setCell ?_ (by dsimp only;omega) _|refine Below.alloc ?_ yK _|exact B3.out)))).mono ?_
 rintro e w4 ⟨rfl,d⟩
 have B4:Hid (Below w.heap.size w w4):=Below.trans (by repeat (first|refine Below.setCell ?_ (by dsimp only;omega) _|refine Below.alloc ?_ yK _|exact B3.out)) (d.mono yK)
 have K0:=yS (K0.out.later d)
 have K1:=yS (K1.out.later d)
 clear f0 r0 f1 r1 f2 r2 f3 r3 f4 r4 f5 r5
 have f0:=K0.out.at (i:=0) rfl
 have r0:=K1.out.at (i:=0) rfl
 have f1:=K0.out.at (i:=1) rfl
 have r1:=K1.out.at (i:=1) rfl
 have f2:=K0.out.at (i:=2) rfl
 have r2:=K1.out.at (i:=2) rfl
 have f3:=K0.out.at (i:=3) rfl
 have r3:=K1.out.at (i:=3) rfl
 have f4:=K0.out.at (i:=4) rfl
 have r4:=K1.out.at (i:=4) rfl
 have f5:=K0.out.at (i:=5) rfl
 have r5:=K1.out.at (i:=5) rfl
 clear d
 have hz4:=B4.out.size
 go_wp2_with fail
 go_ret
 exact ⟨rfl,(by repeat (first|refine Below.setCell ?_ (by dsimp only;omega) _|refine Below.alloc ?_ yK _|exact B4.out))⟩
theorem Zsp (cs ds:List Value) (x:ZaQ) (L M:List Nat) (w:World) (h1:ZbQ.rep w cs x L) (h2:ZbQ.rep w ds x M):
  Calls prog 8 #[.agg cs.toArray,.agg ds.toArray] w (Z3 w):=by
 obtain ⟨c,d,au,f,g,av,j,k,aw,l,m,ax,o,p,ay,q,t,az,u,v,a0,y,z,a1,A,B,a2,rfl,_ahL,a3,a4,W,a5,a6,X,a7,a8,Y,a9,ba,Z,bb,bc,aa,bd,be,ab,bf,bg,ac,bh,bi,ad,bj,bk,ae⟩:=h1
 obtain ⟨C,D,bl,E,F,bm,G,H,bn,I,J,bo,K,N,bp,O,P,bq,Q,R,br,S,T,bs,U,V,bt,rfl,_bhL,bu,bv,af,bw,bx,ag,bz,b0,ah,b1,b2,ai,b3,b4,aj,b5,b6,ak,b7,b8,al,b9,ca,am,cb,cc,an⟩:=h2
 unfold maxLen at a4 bv a6 bx a8 b0 ba b2 bc b4 be b6 bg b8 bi ca bk cc
 have SA1:=yS W
 have SB1:=yS af
 clear W af
 have SA2:=yS X
 have SB2:=yS ag
 clear X ag
 have SA3:=yS Y
 have SB3:=yS ah
 clear Y ah
 have SA4:=yS Z
 have SB4:=yS ai
 clear Z ai
 have SA5:=yS aa
 have SB5:=yS aj
 clear aa aj
 have SA6:=yS ab
 have SB6:=yS ak
 clear ab ak
 have SA7:=yS ac
 have SB7:=yS al
 clear ac al
 have SA8:=yS ad
 have SB8:=yS am
 clear ad am
 have SA9:=yS ae
 have SB9:=yS an
 clear ae an
 go_enter func8,ntmps8
 go_wp2_with fail
 refine (Zpx [.slice c x.engine.rules.length d,.slice f x.engine.memory.length g,.int .i64 x.engine.clock,.slice j x.engine.fired.length k,.bool x.engine.halted,.slice l x.engine.log.length m] [.slice C x.engine.rules.length D,.slice E x.engine.memory.length F,.int .i64 x.engine.clock,.slice G x.engine.fired.length H,.bool x.engine.halted,.slice I x.engine.log.length J] x.engine _ _ _ ⟨c,d,au,f,g,av,j,k,aw,l,m,ax,rfl,rfl,a3,(by unfold maxLen;omega),SA1.out.below yI,a5,(by unfold maxLen;omega),SA2.out.below yI,a7,(by unfold maxLen;omega),SA3.out.below yI,a9,(by unfold maxLen;omega),SA4.out.below yI⟩ ⟨C,D,bl,E,F,bm,G,H,bn,I,J,bo,rfl,rfl,bu,(by unfold maxLen;omega),SB1.out.below yI,bw,(by unfold maxLen;omega),SB2.out.below yI,bz,(by unfold maxLen;omega),SB3.out.below yI,b1,(by unfold maxLen;omega),SB4.out.below yI⟩).mono ?_
 rintro e w1 ⟨rfl,a⟩
 have B1:Hid (Below w.heap.size w w1):=Below.trans yI (a.mono yK)
 have K0:Hid (Blk w1 w.heap.size 50 #[.slice c x.engine.rules.length d,.slice f x.engine.memory.length g,.int .i64 x.engine.clock,.slice j x.engine.fired.length k,.bool x.engine.halted,.slice l x.engine.log.length m,.slice o x.network.rules.length p,.slice q x.network.ends.length t,.slice u x.network.alphas.length v,.slice y x.network.nodes.length z,.slice A x.network.facts.length B,.int .i64 x.network.tries]):=Blk.later (Blk.alloc (Blk.new _ _ _) _) a
 have K1:Hid (Blk w1 (w.heap.size+1) 50 #[.slice C x.engine.rules.length D,.slice E x.engine.memory.length F,.int .i64 x.engine.clock,.slice G x.engine.fired.length H,.bool x.engine.halted,.slice I x.engine.log.length J,.slice K x.network.rules.length N,.slice O x.network.ends.length P,.slice Q x.network.alphas.length R,.slice S x.network.nodes.length T,.slice U x.network.facts.length V,.int .i64 x.network.tries]):=Blk.later (Blk.new_at yG) a
 have f0:=K0.out.at (i:=0) rfl
 have r0:=K1.out.at (i:=0) rfl
 have f1:=K0.out.at (i:=1) rfl
 have r1:=K1.out.at (i:=1) rfl
 have f2:=K0.out.at (i:=2) rfl
 have r2:=K1.out.at (i:=2) rfl
 have f3:=K0.out.at (i:=3) rfl
 have r3:=K1.out.at (i:=3) rfl
 have f4:=K0.out.at (i:=4) rfl
 have r4:=K1.out.at (i:=4) rfl
 have f5:=K0.out.at (i:=5) rfl
 have r5:=K1.out.at (i:=5) rfl
 have f6:=K0.out.at (i:=6) rfl
 have r6:=K1.out.at (i:=6) rfl
 have f7:=K0.out.at (i:=7) rfl
 have r7:=K1.out.at (i:=7) rfl
 have f8:=K0.out.at (i:=8) rfl
 have r8:=K1.out.at (i:=8) rfl
 have f9:=K0.out.at (i:=9) rfl
 have r9:=K1.out.at (i:=9) rfl
 have ao:=K0.out.at (i:=10) rfl
 have ap:=K1.out.at (i:=10) rfl
 have aq:=K0.out.at (i:=11) rfl
 have ar:=K1.out.at (i:=11) rfl
 clear a
 have hz1:=B1.out.size
 go_wp2_with fail
 refine (Znw [.slice o x.network.rules.length p,.slice q x.network.ends.length t,.slice u x.network.alphas.length v,.slice y x.network.nodes.length z,.slice A x.network.facts.length B,.int .i64 x.network.tries] [.slice K x.network.rules.length N,.slice O x.network.ends.length P,.slice Q x.network.alphas.length R,.slice S x.network.nodes.length T,.slice U x.network.facts.length V,.int .i64 x.network.tries] x.network _ _ _ ⟨o,p,ay,q,t,az,u,v,a0,y,z,a1,A,B,a2,rfl,rfl,bb,(by unfold maxLen;omega),SA5.out.below (by repeat (first|refine Below.setCell ?_ (by dsimp only;omega) _|refine Below.alloc ?_ yK _|exact B1.out)),bd,(by unfold maxLen;omega),SA6.out.below (by repeat (first|refine Below.setCell ?_ (by dsimp only;omega) _|refine Below.alloc ?_ yK _|exact B1.out)),bf,(by unfold maxLen;omega),SA7.out.below (by repeat (first|refine Below.setCell ?_ (by dsimp only;omega) _|refine Below.alloc ?_ yK _|exact B1.out)),bh,(by unfold maxLen;omega),SA8.out.below (by repeat (first|refine Below.setCell ?_ (by dsimp only;omega) _|refine Below.alloc ?_ yK _|exact B1.out)),bj,(by unfold maxLen;omega),SA9.out.below (by repeat (first|refine Below.setCell ?_ (by dsimp only;omega) _|refine Below.alloc ?_ yK _|exact B1.out))⟩ ⟨K,N,bp,O,P,bq,Q,R,br,S,T,bs,U,V,bt,rfl,rfl,b3,(by unfold maxLen;omega),SB5.out.below (by repeat (first|refine Below.setCell ?_ (by dsimp only;omega) _|refine Below.alloc ?_ yK _|exact B1.out)),b5,(by unfold maxLen;omega),SB6.out.below (by repeat (first|refine Below.setCell ?_ (by dsimp only;omega) _|refine Below.alloc ?_ yK _|exact B1.out)),b7,(by unfold maxLen;omega),SB7.out.below (by repeat (first|refine Below.setCell ?_ (by dsimp only;omega) _|refine Below.alloc ?_ yK _|exact B1.out)),b9,(by unfold maxLen;omega),SB8.out.below (by repeat (first|refine Below.setCell ?_ (by dsimp only;omega) _|refine Below.alloc ?_ yK _|exact B1.out)),cb,(by unfold maxLen;omega),SB9.out.below (by repeat (first|refine Below.setCell ?_ (by dsimp only;omega) _|refine Below.alloc ?_ yK _|exact B1.out))⟩).mono ?_
 rintro e w2 ⟨rfl,b⟩
 have B2:Hid (Below w.heap.size w w2):=Below.trans (by repeat (first|refine Below.setCell ?_ (by dsimp only;omega) _|refine Below.alloc ?_ yK _|exact B1.out)) (b.mono yK)
 have K0:=yS (K0.out.later b)
 have K1:=yS (K1.out.later b)
 clear f0 r0 f1 r1 f2 r2 f3 r3 f4 r4 f5 r5 f6 r6 f7 r7 f8 r8 f9 r9 ao ap aq ar
 have f0:=K0.out.at (i:=0) rfl
 have r0:=K1.out.at (i:=0) rfl
 have f1:=K0.out.at (i:=1) rfl
 have r1:=K1.out.at (i:=1) rfl
 have f2:=K0.out.at (i:=2) rfl
 have r2:=K1.out.at (i:=2) rfl
 have f3:=K0.out.at (i:=3) rfl
 have r3:=K1.out.at (i:=3) rfl
 have f4:=K0.out.at (i:=4) rfl
 have r4:=K1.out.at (i:=4) rfl
 have f5:=K0.out.at (i:=5) rfl
 have r5:=K1.out.at (i:=5) rfl
 have f6:=K0.out.at (i:=6) rfl
 have r6:=K1.out.at (i:=6) rfl
 have f7:=K0.out.at (i:=7) rfl
 have r7:=K1.out.at (i:=7) rfl
 have f8:=K0.out.at (i:=8) rfl
 have r8:=K1.out.at (i:=8) rfl
 have f9:=K0.out.at (i:=9) rfl
 have r9:=K1.out.at (i:=9) rfl
 have ao:=K0.out.at (i:=10) rfl
 have ap:=K1.out.at (i:=10) rfl
 have aq:=K0.out.at (i:=11) rfl
 have ar:=K1.out.at (i:=11) rfl
 clear b
 have hz2:=B2.out.size
 go_wp2_with fail
 go_ret
 exact ⟨rfl,(by repeat (first|refine Below.setCell ?_ (by dsimp only;omega) _|refine Below.alloc ?_ yK _|exact B2.out))⟩
end
section
open Go.RowKit Go.Deep
def Zbo {α:Type}(P:Program) (t:TypeId) (c:Z9 α) (wf:α->Prop):Prop:=
 ∀{H:Type} {enc:TypeId×Value->H} {w:World} {base:Nat} {spare:Nat->Bool} {held:Bool} {fuel:Nat} {cs:List Value} {x:DataW H×List MemPlace},
  DataW.trod enc P w base spare held fuel t cs=some x->∃d L,c.rep w cs d L/\wf d
theorem Qg {P:Program}{t:TypeId}(ht:P.underlying t=some (.int .i64)):Zbo P t ZgI Zbn:=by
 intro H enc w base spare held fuel cs x h
 obtain ⟨n,rfl,_,hw⟩:=DataW.trod_int ht h
 refine ⟨n,[],⟨rfl,rfl⟩,?_⟩
 simp [Lit.wf,IntKind.min,IntKind.max,IntKind.signed,IntKind.bits]at hw
 exact ⟨yE,yE⟩
theorem ZsG {P:Program}{t:TypeId}(ht:P.underlying t=some .bool):Zbo P t ZCj (fun _=>True):=by
 intro H enc w base spare held fuel cs x h
 obtain ⟨n,rfl,_⟩:=DataW.trod_bool ht h
 exact ⟨n,[],⟨rfl,rfl⟩,trivial⟩
theorem YA {P:Program}{t:TypeId}(ht:P.underlying t=some .string):Zbo P t Zeu (fun _=>True):=by
 intro H enc w base spare held fuel cs x h
 obtain ⟨s,rfl,_,hs⟩:=DataW.trod_string ht h
 exact ⟨s,[],⟨rfl,rfl,by unfold maxLen at hs;omega⟩,trivial⟩
theorem Z5 {α:Type}{c:Z9 α}{wf:α->Prop}{P:Program}{t e:TypeId}(ht:P.underlying t=some (.slice e)) (hc:P.cellsOf e=c.size) (ho:Zbo P e c wf):Zbo P t (Yb c) (fun ds=>∀d∈ds,wf d):=by
 intro H enc w base spare held fuel cs x h
 rcases open_slice ht h with ⟨rfl,_⟩|⟨a,len,cap,m,n,D,Pl,rfl,hb,hl,hm,l,_,hx⟩
 .exact ⟨[],[],⟨none,0,rfl,AD _,AC _,Sli.nil _ _⟩,yG⟩
 .have hlm:len<=m:=by rw [l];split<;>omega
  have key:∀q,q<=len->∃(xs:List Value) (ds:List α) (L:List Nat),ds.length=q/\(∀j u,xs[j]?=some u->w.cell? (a.add j)=some u)/\c.reps w xs ds L/\∀d∈ds,wf d:=by
   intro q
   induction q with
   |zero=>exact fun _=>⟨[],[],[],rfl,yG,⟨rfl,rfl⟩,yG⟩
   |succ q ih=>
    intro hq
    obtain ⟨xs,ds,L,hd,f,hr,i⟩:=ih yE
    obtain ⟨o,h1,h2⟩:=hx q yE
    obtain ⟨d,Lq,k,p⟩:=ho h2
    obtain ⟨_,hlen,v⟩:=World.cells?_some h1
    refine ⟨xs++o,ds++[d],L++Lq,by simp [hd],fun j u hu=>?_,Zc2 hr (ZcU k),?_⟩
    .have g:xs.length=q*c.size:=by rw [Zgw hr,hd]
     rw [List.getElem?_append]at hu
     split at hu
     .exact f j u hu
     .rename_i hj
      have hj2:=(List.getElem?_eq_some_iff.1 hu).1
      have:=v (j - xs.length) yE
      rw [<-hu,<-this,Go.Deep.add_add,hc,<-g]
      congr 2
      omega
    .intro y hy
     rcases List.mem_append.1 hy with hy|hy
     .exact i y hy
     .simp at hy;subst hy;exact p
  obtain ⟨xs,ds,L,hd,f,hr,i⟩:=key len (AD _)
  have g:=Zgw hr
  rcases Nat.eq_zero_or_pos len with h0|h0
  .have:ds=[]:=List.eq_nil_of_length_eq_zero yE
   subst this
   refine ⟨[],[],⟨some a,cap,by simp at hd;rw [<-hd];rfl,yG,hm,Sli.nil _ _⟩,yG⟩
  .obtain ⟨b,off,sp⟩:=a
   have hp:0<xs.length:=by rw [g,hd];exact Nat.mul_pos h0 c.pos
   have z:sp=none:=by
    have h1:=f 0 _ (A0 hp)
    have e:(⟨b,off,sp⟩:Addr).add 0=⟨b,off,sp⟩:=by simp [Addr.add]
    rw [e]at h1
    cases sp with
    |none=>rfl
    |some q=>
     simp only[World.cell?]at h1
     split at h1<;>simp at h1
   subst z
   refine ⟨ds,[b]++L,⟨some ⟨b,off,none⟩,cap,by rw [hd],yE,hm,xs,[b],L,rfl,⟨by rw [g],.inr ⟨yE,b,off,rfl,rfl,fun j u hu=>?_⟩⟩,hr⟩,i⟩
   have:=f j u hu
   rwa [ZcY]at this
end
section
open Go.RowKit
theorem Zm0 {w w1:World}{B:Nat}(h:Below w.drew.heap.size w.drew w1) (hB:B<=w.heap.size):Below B w w1:=⟨h.os,h.tape,h.output,h.size,fun k hk=>h.block k (Nat.lt_of_lt_of_le hk hB)⟩
theorem Zqi {aD:ZaQ}{r:Bool}(hh:ZfA aD=some r) (w:World) (hj:J0 w) (a:List Value) (LaD:List Nat) (b:ZbQ.rep w a aD LaD):
  Calls prog 5 #[.agg a.toArray] w (fun e w'=>e=.returned (.bool r)/\Below w.heap.size w w'):=
 Zm.givesB (Zp3 hh) hj (vs:=[_]) ⟨ZeM Zt4 b,trivial⟩
theorem Zp7 {aD:ZaQ}{r:Bool}(hh:Zfv aD=some r) (w:World) (hj:J0 w) (a:List Value) (LaD:List Nat) (b:ZbQ.rep w a aD LaD):
  Calls prog 7 #[.agg a.toArray] w (fun e w'=>e=.returned (.bool r)/\Below w.heap.size w w'):=
 Zm.givesB (Zp8 hh) hj (vs:=[_]) ⟨ZeM Zt4 b,trivial⟩
theorem Zit (w:World) (hJ:J0 w) (bo:List Value) (aD:ZaQ) (bm:List Nat) (cu:ZbQ.rep w bo aD bm) (cw:Zsu aD):
  Calls prog 3 #[.agg bo.toArray] w fun e w'=>e=.returned (.bool true)/\Below w.heap.size w w':=by
 have HJ:=yS hJ
 clear hJ
 have av:=yS cu
 clear cu
 obtain ⟨x,y,z,A,B,C,D,E,F,G,H,I,J,K,L,M,N,O,rfl⟩:=ZeD av.out
 have B0:Hid (Below w.heap.size w (w.alloc (.cells #[.slice x aD.engine.rules.length y,.slice z aD.engine.memory.length A,.int .i64 aD.engine.clock,.slice B aD.engine.fired.length C,.bool aD.engine.halted,.slice D aD.engine.log.length E,.slice F aD.network.rules.length G,.slice H aD.network.ends.length I,.slice J aD.network.alphas.length K,.slice L aD.network.nodes.length M,.slice N aD.network.facts.length O,.int .i64 aD.network.tries] 35))):=(Below.alloc (Below.refl _ _) (AD _) _)
 have sz0:w.heap.size+1<=((w.alloc (.cells #[.slice x aD.engine.rules.length y,.slice z aD.engine.memory.length A,.int .i64 aD.engine.clock,.slice B aD.engine.fired.length C,.bool aD.engine.halted,.slice D aD.engine.log.length E,.slice F aD.network.rules.length G,.slice H aD.network.ends.length I,.slice J aD.network.alphas.length K,.slice L aD.network.nodes.length M,.slice N aD.network.facts.length O,.int .i64 aD.network.tries] 35))).heap.size:=Nat.le_of_eq (by simp only[World.alloc,AE])
 have a:Hid (Blk (w.alloc (.cells #[.slice x aD.engine.rules.length y,.slice z aD.engine.memory.length A,.int .i64 aD.engine.clock,.slice B aD.engine.fired.length C,.bool aD.engine.halted,.slice D aD.engine.log.length E,.slice F aD.network.rules.length G,.slice H aD.network.ends.length I,.slice J aD.network.alphas.length K,.slice L aD.network.nodes.length M,.slice N aD.network.facts.length O,.int .i64 aD.network.tries] 35)) (w.heap.size) 35 #[.slice x aD.engine.rules.length y,.slice z aD.engine.memory.length A,.int .i64 aD.engine.clock,.slice B aD.engine.fired.length C,.bool aD.engine.halted,.slice D aD.engine.log.length E,.slice F aD.network.rules.length G,.slice H aD.network.ends.length I,.slice J aD.network.alphas.length K,.slice L aD.network.nodes.length M,.slice N aD.network.facts.length O,.int .i64 aD.network.tries]):=(Blk.new _ _ _)
 go_enter func3,ntmps3
 go_wp2_with fail
 refine (Zsy [.slice x aD.engine.rules.length y,.slice z aD.engine.memory.length A,.int .i64 aD.engine.clock,.slice B aD.engine.fired.length C,.bool aD.engine.halted,.slice D aD.engine.log.length E,.slice F aD.network.rules.length G,.slice H aD.network.ends.length I,.slice J aD.network.alphas.length K,.slice L aD.network.nodes.length M,.slice N aD.network.facts.length O,.int .i64 aD.network.tries] aD bm _ _ yE yE (ZbQ.keep av.out (Zo B0.out (ZbQ.lt av.out)))).mono ?_
 rintro e w1 ⟨rfl,hb⟩
 have B1:=yS (B0.out.trans (hb.mono B0.out.size))
 have sz1:=hb.size
 have a:=yS (a.out.later hb)
 have f:=a.out.at (i:=0) rfl
 have g:=a.out.at (i:=1) rfl
 have j:=a.out.at (i:=2) rfl
 have k:=a.out.at (i:=3) rfl
 have l:=a.out.at (i:=4) rfl
 have m:=a.out.at (i:=5) rfl
 have o:=a.out.at (i:=6) rfl
 have p:=a.out.at (i:=7) rfl
 have q:=a.out.at (i:=8) rfl
 have t:=a.out.at (i:=9) rfl
 have c:=a.out.at (i:=10) rfl
 have d:=a.out.at (i:=11) rfl
 clear hb
 by_cases bp:((Qf aD:Nat):Int)<=1048576
 rotate_left
 .rw [Zn bp]
  go_wp2
  go_ret
  exact ⟨rfl,B1.out⟩
 rw [ZC bp]
 have a1:Qf aD<=1048576:=by omega
 have nn_aD:¬(1048576 - ((Qf aD:Nat):Int)<0):=by omega
 obtain ⟨R0,cx,cy⟩:=ZpR aD a1 cw
 go_wp2_with fail
 refine (Zih [.slice x aD.engine.rules.length y,.slice z aD.engine.memory.length A,.int .i64 aD.engine.clock,.slice B aD.engine.fired.length C,.bool aD.engine.halted,.slice D aD.engine.log.length E,.slice F aD.network.rules.length G,.slice H aD.network.ends.length I,.slice J aD.network.alphas.length K,.slice L aD.network.nodes.length M,.slice N aD.network.facts.length O,.int .i64 aD.network.tries] aD bm _ a1 (ZbQ.keep av.out (Zo B1.out (ZbQ.lt av.out)))).mono ?_
 rintro e w2 ⟨cs,cr,rfl,gt,hb⟩
 obtain ⟨bq,br,bs,bt,bu,bv,bw,bx,bz,b0,b1,b2,b3,b4,b5,b6,b7,b8,rfl⟩:=ZeD gt.rep
 have B2:=yS (B1.out.trans (hb.mono B1.out.size))
 have sz2:=hb.size
 have a:=yS (a.out.later hb)
 clear f g j k l m o p q t c d
 have f:=a.out.at (i:=0) rfl
 have g:=a.out.at (i:=1) rfl
 have j:=a.out.at (i:=2) rfl
 have k:=a.out.at (i:=3) rfl
 have l:=a.out.at (i:=4) rfl
 have m:=a.out.at (i:=5) rfl
 have o:=a.out.at (i:=6) rfl
 have p:=a.out.at (i:=7) rfl
 have q:=a.out.at (i:=8) rfl
 have t:=a.out.at (i:=9) rfl
 have c:=a.out.at (i:=10) rfl
 have d:=a.out.at (i:=11) rfl
 clear B1
 have aw:=yS gt
 have ge_t1aD:=yS gt.own.ge
 have lt_t1aD:=yS gt.lt
 clear gt hb
 go_wp2_with fail
 refine (Zqi cx _ (Zce hJ0 HJ.out B2.out) [.slice bq aD.engine.rules.length br,.slice bs aD.engine.memory.length bt,.int .i64 aD.engine.clock,.slice bu aD.engine.fired.length bv,.bool aD.engine.halted,.slice bw aD.engine.log.length bx,.slice bz aD.network.rules.length b0,.slice b1 aD.network.ends.length b2,.slice b3 aD.network.alphas.length b4,.slice b5 aD.network.nodes.length b6,.slice b7 aD.network.facts.length b8,.int .i64 aD.network.tries] cr aw.out.rep).mono ?_
 rintro e w3 ⟨rfl,hb⟩
 have B3:=yS (B2.out.trans (hb.mono B2.out.size))
 have sz3:=hb.size
 have aw:=yS (aw.out.later hb)
 have a:=yS (a.out.later hb)
 clear f g j k l m o p q t c d
 have f:=a.out.at (i:=0) rfl
 have g:=a.out.at (i:=1) rfl
 have j:=a.out.at (i:=2) rfl
 have k:=a.out.at (i:=3) rfl
 have l:=a.out.at (i:=4) rfl
 have m:=a.out.at (i:=5) rfl
 have o:=a.out.at (i:=6) rfl
 have p:=a.out.at (i:=7) rfl
 have q:=a.out.at (i:=8) rfl
 have t:=a.out.at (i:=9) rfl
 have c:=a.out.at (i:=10) rfl
 have d:=a.out.at (i:=11) rfl
 clear B2
 clear hb
 clear aw
 go_wp2_with fail
 refine (Zih [.slice x aD.engine.rules.length y,.slice z aD.engine.memory.length A,.int .i64 aD.engine.clock,.slice B aD.engine.fired.length C,.bool aD.engine.halted,.slice D aD.engine.log.length E,.slice F aD.network.rules.length G,.slice H aD.network.ends.length I,.slice J aD.network.alphas.length K,.slice L aD.network.nodes.length M,.slice N aD.network.facts.length O,.int .i64 aD.network.tries] aD bm _ a1 (ZbQ.keep av.out (Zo B3.out (ZbQ.lt av.out)))).mono ?_
 rintro e w4 ⟨cs,cv,rfl,gt,hb⟩
 obtain ⟨ab,ac,ad,ae,af,ag,ah,ai,aj,ak,al,am,an,ao,ap,aq,ar,au,rfl⟩:=ZeD gt.rep
 have B4:=yS (B3.out.trans (hb.mono B3.out.size))
 have sz4:=hb.size
 have a:=yS (a.out.later hb)
 clear f g j k l m o p q t c d
 have f:=a.out.at (i:=0) rfl
 have g:=a.out.at (i:=1) rfl
 have j:=a.out.at (i:=2) rfl
 have k:=a.out.at (i:=3) rfl
 have l:=a.out.at (i:=4) rfl
 have m:=a.out.at (i:=5) rfl
 have o:=a.out.at (i:=6) rfl
 have p:=a.out.at (i:=7) rfl
 have q:=a.out.at (i:=8) rfl
 have t:=a.out.at (i:=9) rfl
 have c:=a.out.at (i:=10) rfl
 have d:=a.out.at (i:=11) rfl
 clear B3
 have aa:=yS gt
 have ge_x0:=yS gt.own.ge
 have lt_x0:=yS gt.lt
 clear gt hb
 have hb:=(Below.refl w4.heap.size w4).alloc (AD _) (.cells #[.slice ab aD.engine.rules.length ac,.slice ad aD.engine.memory.length ae,.int .i64 aD.engine.clock,.slice af aD.engine.fired.length ag,.bool aD.engine.halted,.slice ah aD.engine.log.length ai,.slice aj aD.network.rules.length ak,.slice al aD.network.ends.length am,.slice an aD.network.alphas.length ao,.slice ap aD.network.nodes.length aq,.slice ar aD.network.facts.length au,.int .i64 aD.network.tries] 50)
 have B5:=yS (B4.out.trans (hb.mono B4.out.size))
 have sz5:=hb.size
 have aa:=yS (aa.out.later hb)
 have a:=yS (a.out.later hb)
 clear f g j k l m o p q t c d
 have f:=a.out.at (i:=0) rfl
 have g:=a.out.at (i:=1) rfl
 have j:=a.out.at (i:=2) rfl
 have k:=a.out.at (i:=3) rfl
 have l:=a.out.at (i:=4) rfl
 have m:=a.out.at (i:=5) rfl
 have o:=a.out.at (i:=6) rfl
 have p:=a.out.at (i:=7) rfl
 have q:=a.out.at (i:=8) rfl
 have t:=a.out.at (i:=9) rfl
 have c:=a.out.at (i:=10) rfl
 have d:=a.out.at (i:=11) rfl
 clear B4
 have szb_x0:w4.heap.size+1<=(w4.alloc (.cells #[.slice ab aD.engine.rules.length ac,.slice ad aD.engine.memory.length ae,.int .i64 aD.engine.clock,.slice af aD.engine.fired.length ag,.bool aD.engine.halted,.slice ah aD.engine.log.length ai,.slice aj aD.network.rules.length ak,.slice al aD.network.ends.length am,.slice an aD.network.alphas.length ao,.slice ap aD.network.nodes.length aq,.slice ar aD.network.facts.length au,.int .i64 aD.network.tries] 50)).heap.size:=Nat.le_of_eq (by simp only[World.alloc,AE])
 have b:Hid (Blk (w4.alloc (.cells #[.slice ab aD.engine.rules.length ac,.slice ad aD.engine.memory.length ae,.int .i64 aD.engine.clock,.slice af aD.engine.fired.length ag,.bool aD.engine.halted,.slice ah aD.engine.log.length ai,.slice aj aD.network.rules.length ak,.slice al aD.network.ends.length am,.slice an aD.network.alphas.length ao,.slice ap aD.network.nodes.length aq,.slice ar aD.network.facts.length au,.int .i64 aD.network.tries] 50)) w4.heap.size 50 #[.slice ab aD.engine.rules.length ac,.slice ad aD.engine.memory.length ae,.int .i64 aD.engine.clock,.slice af aD.engine.fired.length ag,.bool aD.engine.halted,.slice ah aD.engine.log.length ai,.slice aj aD.network.rules.length ak,.slice al aD.network.ends.length am,.slice an aD.network.alphas.length ao,.slice ap aD.network.nodes.length aq,.slice ar aD.network.facts.length au,.int .i64 aD.network.tries]):=Blk.new _ _ _
 have P:=b.out.at (i:=0) rfl
 have Q:=b.out.at (i:=1) rfl
 have R:=b.out.at (i:=2) rfl
 have S:=b.out.at (i:=3) rfl
 have T:=b.out.at (i:=4) rfl
 have U:=b.out.at (i:=5) rfl
 have V:=b.out.at (i:=6) rfl
 have X:=b.out.at (i:=7) rfl
 have Y:=b.out.at (i:=8) rfl
 have Z:=b.out.at (i:=9) rfl
 have u:=b.out.at (i:=10) rfl
 have v:=b.out.at (i:=11) rfl
 clear hb
 go_wp2_with fail
 refine (Zp7 cy _ (Zce hJ0 HJ.out B5.out) [.slice ab aD.engine.rules.length ac,.slice ad aD.engine.memory.length ae,.int .i64 aD.engine.clock,.slice af aD.engine.fired.length ag,.bool aD.engine.halted,.slice ah aD.engine.log.length ai,.slice aj aD.network.rules.length ak,.slice al aD.network.ends.length am,.slice an aD.network.alphas.length ao,.slice ap aD.network.nodes.length aq,.slice ar aD.network.facts.length au,.int .i64 aD.network.tries] cv aa.out.rep).mono ?_
 rintro e w6 ⟨rfl,hb⟩
 have B6:=yS (B5.out.trans (hb.mono B5.out.size))
 have sz6:=hb.size
 have aa:=yS (aa.out.later hb)
 have a:=yS (a.out.later hb)
 clear f g j k l m o p q t c d
 have f:=a.out.at (i:=0) rfl
 have g:=a.out.at (i:=1) rfl
 have j:=a.out.at (i:=2) rfl
 have k:=a.out.at (i:=3) rfl
 have l:=a.out.at (i:=4) rfl
 have m:=a.out.at (i:=5) rfl
 have o:=a.out.at (i:=6) rfl
 have p:=a.out.at (i:=7) rfl
 have q:=a.out.at (i:=8) rfl
 have t:=a.out.at (i:=9) rfl
 have c:=a.out.at (i:=10) rfl
 have d:=a.out.at (i:=11) rfl
 have b:=yS (b.out.later hb)
 clear P Q R S T U V X Y Z u v
 have P:=b.out.at (i:=0) rfl
 have Q:=b.out.at (i:=1) rfl
 have R:=b.out.at (i:=2) rfl
 have S:=b.out.at (i:=3) rfl
 have T:=b.out.at (i:=4) rfl
 have U:=b.out.at (i:=5) rfl
 have V:=b.out.at (i:=6) rfl
 have X:=b.out.at (i:=7) rfl
 have Y:=b.out.at (i:=8) rfl
 have Z:=b.out.at (i:=9) rfl
 have u:=b.out.at (i:=10) rfl
 have v:=b.out.at (i:=11) rfl
 clear B5
 clear hb
 have hne:(R0 != R0)=false:=by simp
 go_wp2_with fail
 go_region_held3 (fun W=>W.cell? ⟨w4.heap.size,0,none⟩=some (.slice ab aD.engine.rules.length ac)/\W.cell? ⟨w4.heap.size,1,none⟩=some (.slice ad aD.engine.memory.length ae)/\W.cell? ⟨w4.heap.size,2,none⟩=some (.int .i64 aD.engine.clock)/\W.cell? ⟨w4.heap.size,3,none⟩=some (.slice af aD.engine.fired.length ag)/\W.cell? ⟨w4.heap.size,4,none⟩=some (.bool aD.engine.halted)/\W.cell? ⟨w4.heap.size,5,none⟩=some (.slice ah aD.engine.log.length ai)/\W.cell? ⟨w4.heap.size,6,none⟩=some (.slice aj aD.network.rules.length ak)/\W.cell? ⟨w4.heap.size,7,none⟩=some (.slice al aD.network.ends.length am)/\W.cell? ⟨w4.heap.size,8,none⟩=some (.slice an aD.network.alphas.length ao)/\W.cell? ⟨w4.heap.size,9,none⟩=some (.slice ap aD.network.nodes.length aq)/\W.cell? ⟨w4.heap.size,10,none⟩=some (.slice ar aD.network.facts.length au)/\W.cell? ⟨w4.heap.size,11,none⟩=some (.int .i64 aD.network.tries)/\W.cell? ⟨w.heap.size,0,none⟩=some (.slice x aD.engine.rules.length y)/\W.cell? ⟨w.heap.size,1,none⟩=some (.slice z aD.engine.memory.length A)/\W.cell? ⟨w.heap.size,2,none⟩=some (.int .i64 aD.engine.clock)/\W.cell? ⟨w.heap.size,3,none⟩=some (.slice B aD.engine.fired.length C)/\W.cell? ⟨w.heap.size,4,none⟩=some (.bool aD.engine.halted)/\W.cell? ⟨w.heap.size,5,none⟩=some (.slice D aD.engine.log.length E)/\W.cell? ⟨w.heap.size,6,none⟩=some (.slice F aD.network.rules.length G)/\W.cell? ⟨w.heap.size,7,none⟩=some (.slice H aD.network.ends.length I)/\W.cell? ⟨w.heap.size,8,none⟩=some (.slice J aD.network.alphas.length K)/\W.cell? ⟨w.heap.size,9,none⟩=some (.slice L aD.network.nodes.length M)/\W.cell? ⟨w.heap.size,10,none⟩=some (.slice N aD.network.facts.length O)/\W.cell? ⟨w.heap.size,11,none⟩=some (.int .i64 aD.network.tries)) (first|exact ⟨P,Q,R,S,T,U,V,X,Y,Z,u,v,f,g,j,k,l,m,o,p,q,t,c,d⟩|exact ⟨a2,a3,a4,a5,a6,a7,a8,a9,ba,bb,ax,ay,bc,bd,be,bf,bg,bh,bi,bj,bk,bl,az,a0⟩) (first|(go_at_call 6;refine (Zih [.slice x aD.engine.rules.length y,.slice z aD.engine.memory.length A,.int .i64 aD.engine.clock,.slice B aD.engine.fired.length C,.bool aD.engine.halted,.slice D aD.engine.log.length E,.slice F aD.network.rules.length G,.slice H aD.network.ends.length I,.slice J aD.network.alphas.length K,.slice L aD.network.nodes.length M,.slice N aD.network.facts.length O,.int .i64 aD.network.tries] aD bm _ a1 (ZbQ.keep av.out (Zo B6.out.drew (ZbQ.lt av.out)))).mono ?_;rintro e w7 ⟨cs,ct,rfl,gt,hb⟩;obtain ⟨b9,ca,cb,cc,cd,ce,cf,cg,ch,ci,cj,ck,cl,cm,cn,co,cp,cq,rfl⟩:=ZeD gt.rep;replace hb:=Zm0 hb (AD _);have KA:=a.out.later hb;have KX:=b.out.later hb;have a2:=KX.at (i:=0) rfl;have a3:=KX.at (i:=1) rfl;have a4:=KX.at (i:=2) rfl;have a5:=KX.at (i:=3) rfl;have a6:=KX.at (i:=4) rfl;have a7:=KX.at (i:=5) rfl;have a8:=KX.at (i:=6) rfl;have a9:=KX.at (i:=7) rfl;have ba:=KX.at (i:=8) rfl;have bb:=KX.at (i:=9) rfl;have ax:=KX.at (i:=10) rfl;have ay:=KX.at (i:=11) rfl;have bc:=KA.at (i:=0) rfl;have bd:=KA.at (i:=1) rfl;have be:=KA.at (i:=2) rfl;have bf:=KA.at (i:=3) rfl;have bg:=KA.at (i:=4) rfl;have bh:=KA.at (i:=5) rfl;have bi:=KA.at (i:=6) rfl;have bj:=KA.at (i:=7) rfl;have bk:=KA.at (i:=8) rfl;have bl:=KA.at (i:=9) rfl;have az:=KA.at (i:=10) rfl;have a0:=KA.at (i:=11) rfl)|(go_at_call 8;refine (Zsp [.slice ab aD.engine.rules.length ac,.slice ad aD.engine.memory.length ae,.int .i64 aD.engine.clock,.slice af aD.engine.fired.length ag,.bool aD.engine.halted,.slice ah aD.engine.log.length ai,.slice aj aD.network.rules.length ak,.slice al aD.network.ends.length am,.slice an aD.network.alphas.length ao,.slice ap aD.network.nodes.length aq,.slice ar aD.network.facts.length au,.int .i64 aD.network.tries] [.slice b9 aD.engine.rules.length ca,.slice cb aD.engine.memory.length cc,.int .i64 aD.engine.clock,.slice cd aD.engine.fired.length ce,.bool aD.engine.halted,.slice cf aD.engine.log.length cg,.slice ch aD.network.rules.length ci,.slice cj aD.network.ends.length ck,.slice cl aD.network.alphas.length cm,.slice cn aD.network.nodes.length co,.slice cp aD.network.facts.length cq,.int .i64 aD.network.tries] aD cv ct _ (aa.out.later hb).rep gt.rep).mono ?_;rintro e w8 ⟨rfl,bn⟩;have KX2:=KX.later bn;have KA2:=KA.later bn;replace a2:=KX2.at (i:=0) rfl;replace a3:=KX2.at (i:=1) rfl;replace a4:=KX2.at (i:=2) rfl;replace a5:=KX2.at (i:=3) rfl;replace a6:=KX2.at (i:=4) rfl;replace a7:=KX2.at (i:=5) rfl;replace a8:=KX2.at (i:=6) rfl;replace a9:=KX2.at (i:=7) rfl;replace ba:=KX2.at (i:=8) rfl;replace bb:=KX2.at (i:=9) rfl;replace ax:=KX2.at (i:=10) rfl;replace ay:=KX2.at (i:=11) rfl;replace bc:=KA2.at (i:=0) rfl;replace bd:=KA2.at (i:=1) rfl;replace be:=KA2.at (i:=2) rfl;replace bf:=KA2.at (i:=3) rfl;replace bg:=KA2.at (i:=4) rfl;replace bh:=KA2.at (i:=5) rfl;replace bi:=KA2.at (i:=6) rfl;replace bj:=KA2.at (i:=7) rfl;replace bk:=KA2.at (i:=8) rfl;replace bl:=KA2.at (i:=9) rfl;replace az:=KA2.at (i:=10) rfl;replace a0:=KA2.at (i:=11) rfl))
 clear KA KX KA2 KX2 a2 a3 a4 a5 a6 a7 a8 a9 ba bb ax ay bc bd be bf bg bh bi bj bk bl az a0
 have B7:=yS (B6.out.trans (hb.mono B6.out.size))
 have sz7:=hb.size
 have aa:=yS (aa.out.later hb)
 have a:=yS (a.out.later hb)
 clear f g j k l m o p q t c d
 have f:=a.out.at (i:=0) rfl
 have g:=a.out.at (i:=1) rfl
 have j:=a.out.at (i:=2) rfl
 have k:=a.out.at (i:=3) rfl
 have l:=a.out.at (i:=4) rfl
 have m:=a.out.at (i:=5) rfl
 have o:=a.out.at (i:=6) rfl
 have p:=a.out.at (i:=7) rfl
 have q:=a.out.at (i:=8) rfl
 have t:=a.out.at (i:=9) rfl
 have c:=a.out.at (i:=10) rfl
 have d:=a.out.at (i:=11) rfl
 have b:=yS (b.out.later hb)
 clear P Q R S T U V X Y Z u v
 have P:=b.out.at (i:=0) rfl
 have Q:=b.out.at (i:=1) rfl
 have R:=b.out.at (i:=2) rfl
 have S:=b.out.at (i:=3) rfl
 have T:=b.out.at (i:=4) rfl
 have U:=b.out.at (i:=5) rfl
 have V:=b.out.at (i:=6) rfl
 have X:=b.out.at (i:=7) rfl
 have Y:=b.out.at (i:=8) rfl
 have Z:=b.out.at (i:=9) rfl
 have u:=b.out.at (i:=10) rfl
 have v:=b.out.at (i:=11) rfl
 clear B6
 clear hb gt
 have B8:=yS (B7.out.trans (bn.mono B7.out.size))
 have sz8:=bn.size
 have aa:=yS (aa.out.later bn)
 have a:=yS (a.out.later bn)
 clear f g j k l m o p q t c d
 have f:=a.out.at (i:=0) rfl
 have g:=a.out.at (i:=1) rfl
 have j:=a.out.at (i:=2) rfl
 have k:=a.out.at (i:=3) rfl
 have l:=a.out.at (i:=4) rfl
 have m:=a.out.at (i:=5) rfl
 have o:=a.out.at (i:=6) rfl
 have p:=a.out.at (i:=7) rfl
 have q:=a.out.at (i:=8) rfl
 have t:=a.out.at (i:=9) rfl
 have c:=a.out.at (i:=10) rfl
 have d:=a.out.at (i:=11) rfl
 have b:=yS (b.out.later bn)
 clear P Q R S T U V X Y Z u v
 have P:=b.out.at (i:=0) rfl
 have Q:=b.out.at (i:=1) rfl
 have R:=b.out.at (i:=2) rfl
 have S:=b.out.at (i:=3) rfl
 have T:=b.out.at (i:=4) rfl
 have U:=b.out.at (i:=5) rfl
 have V:=b.out.at (i:=6) rfl
 have X:=b.out.at (i:=7) rfl
 have Y:=b.out.at (i:=8) rfl
 have Z:=b.out.at (i:=9) rfl
 have u:=b.out.at (i:=10) rfl
 have v:=b.out.at (i:=11) rfl
 clear B7
 clear bn
 go_wp2_with fail
 go_ret
 exact ⟨rfl,B8.out⟩
end
section
open Go.RowKit
theorem Zfq:Zbo prog 141 Yh Zj2:=by
 intro H c w base a b fuel cs x h
 obtain ⟨xs,n,_,_,d,e,hf⟩:=DataW.trod_struct underlying141 h
 have hl:cs.length=2:=d.trans yO
 have hx:xs.length=2:=e
 match cs,hl with
 | [a0,a1],_=>
  have f0:DataW.trod c prog w base a b n 9 [a0]=some (xs[0]'yE):=by
   have this:DataW.trod c prog w base a b n 9 (AA (prog.cellsOf 9) (AB 0 [a0,a1]))=_:=(hf 0 _ rfl).trans (A0 (show 0<xs.length by omega))
   rw [show prog.cellsOf 9=1 by kernel_rfl]at this
   exact this
  have f1:DataW.trod c prog w base a b n 81 [a1]=some (xs[1]'yE):=by
   have this:DataW.trod c prog w base a b n 81 (AA (prog.cellsOf 81) (AB 1 [a0,a1]))=_:=(hf 1 _ rfl).trans (A0 (show 1<xs.length by omega))
   rw [show prog.cellsOf 81=1 by kernel_rfl]at this
   exact this
  obtain ⟨d0,M0,r0,w0⟩:=(YA underlying9) f0
  obtain ⟨e0,_,t0⟩:=r0
  cases e0
  obtain ⟨d1,M1,r1,w1⟩:=(Z5 underlying81 yO (YA underlying9)) f1
  obtain ⟨A1,c1,e1,n1,m1,s1⟩:=r1
  cases e1
  exact ⟨⟨d0,d1⟩,_,⟨A1,c1,M1,rfl,rfl,t0,n1,m1,s1⟩,⟨w0,w1⟩⟩
theorem Zf3:Zbo prog 150 XP ZhC:=by
 intro H c w base a b fuel cs x h
 obtain ⟨xs,n,_,_,d,e,hf⟩:=DataW.trod_struct underlying150 h
 have hl:cs.length=2:=d.trans yO
 have hx:xs.length=2:=e
 match cs,hl with
 | [a0,a1],_=>
  have f0:DataW.trod c prog w base a b n 9 [a0]=some (xs[0]'yE):=by
   have this:DataW.trod c prog w base a b n 9 (AA (prog.cellsOf 9) (AB 0 [a0,a1]))=_:=(hf 0 _ rfl).trans (A0 (show 0<xs.length by omega))
   rw [show prog.cellsOf 9=1 by kernel_rfl]at this
   exact this
  have f1:DataW.trod c prog w base a b n 81 [a1]=some (xs[1]'yE):=by
   have this:DataW.trod c prog w base a b n 81 (AA (prog.cellsOf 81) (AB 1 [a0,a1]))=_:=(hf 1 _ rfl).trans (A0 (show 1<xs.length by omega))
   rw [show prog.cellsOf 81=1 by kernel_rfl]at this
   exact this
  obtain ⟨d0,M0,r0,w0⟩:=(YA underlying9) f0
  obtain ⟨e0,_,t0⟩:=r0
  cases e0
  obtain ⟨d1,M1,r1,w1⟩:=(Z5 underlying81 yO (YA underlying9)) f1
  obtain ⟨A1,c1,e1,n1,m1,s1⟩:=r1
  cases e1
  exact ⟨⟨d0,d1⟩,_,⟨A1,c1,M1,rfl,rfl,t0,n1,m1,s1⟩,⟨w0,w1⟩⟩
theorem ZvD:Zbo prog 265 XA ZwV:=by
 intro H c w base a b fuel cs x h
 obtain ⟨xs,n,_,_,d,e,hf⟩:=DataW.trod_struct underlying265 h
 have hl:cs.length=2:=d.trans yO
 have hx:xs.length=2:=e
 match cs,hl with
 | [a0,a1],_=>
  have f0:DataW.trod c prog w base a b n 9 [a0]=some (xs[0]'yE):=by
   have this:DataW.trod c prog w base a b n 9 (AA (prog.cellsOf 9) (AB 0 [a0,a1]))=_:=(hf 0 _ rfl).trans (A0 (show 0<xs.length by omega))
   rw [show prog.cellsOf 9=1 by kernel_rfl]at this
   exact this
  have f1:DataW.trod c prog w base a b n 9 [a1]=some (xs[1]'yE):=by
   have this:DataW.trod c prog w base a b n 9 (AA (prog.cellsOf 9) (AB 1 [a0,a1]))=_:=(hf 1 _ rfl).trans (A0 (show 1<xs.length by omega))
   rw [show prog.cellsOf 9=1 by kernel_rfl]at this
   exact this
  obtain ⟨d0,M0,r0,w0⟩:=(YA underlying9) f0
  obtain ⟨e0,_,t0⟩:=r0
  cases e0
  obtain ⟨d1,M1,r1,w1⟩:=(YA underlying9) f1
  obtain ⟨e1,_,t1⟩:=r1
  cases e1
  exact ⟨⟨d0,d1⟩,_,⟨rfl,rfl,t0,t1⟩,⟨w0,w1⟩⟩
theorem Zn5:Zbo prog 155 X6 Zta:=by
 intro H c w base a b fuel cs x h
 obtain ⟨xs,n,_,_,d,e,hf⟩:=DataW.trod_struct underlying155 h
 have hl:cs.length=5:=d.trans yO
 have hx:xs.length=4:=e
 match cs,hl with
 | [a0,a1,a2,a3,a4],_=>
  have f0:DataW.trod c prog w base a b n 3 [a0]=some (xs[0]'yE):=by
   have this:DataW.trod c prog w base a b n 3 (AA (prog.cellsOf 3) (AB 0 [a0,a1,a2,a3,a4]))=_:=(hf 0 _ rfl).trans (A0 (show 0<xs.length by omega))
   rw [show prog.cellsOf 3=1 by kernel_rfl]at this
   exact this
  have f1:DataW.trod c prog w base a b n 150 [a1,a2]=some (xs[1]'yE):=by
   have this:DataW.trod c prog w base a b n 150 (AA (prog.cellsOf 150) (AB 1 [a0,a1,a2,a3,a4]))=_:=(hf 1 _ rfl).trans (A0 (show 1<xs.length by omega))
   rw [show prog.cellsOf 150=2 by kernel_rfl]at this
   exact this
  have f2:DataW.trod c prog w base a b n 9 [a3]=some (xs[2]'yE):=by
   have this:DataW.trod c prog w base a b n 9 (AA (prog.cellsOf 9) (AB 3 [a0,a1,a2,a3,a4]))=_:=(hf 2 _ rfl).trans (A0 (show 2<xs.length by omega))
   rw [show prog.cellsOf 9=1 by kernel_rfl]at this
   exact this
  have f3:DataW.trod c prog w base a b n 9 [a4]=some (xs[3]'yE):=by
   have this:DataW.trod c prog w base a b n 9 (AA (prog.cellsOf 9) (AB 4 [a0,a1,a2,a3,a4]))=_:=(hf 3 _ rfl).trans (A0 (show 3<xs.length by omega))
   rw [show prog.cellsOf 9=1 by kernel_rfl]at this
   exact this
  obtain ⟨d0,M0,r0,w0⟩:=(Qg underlying3) f0
  obtain ⟨e0,_⟩:=r0
  cases e0
  obtain ⟨d1,M1,r1,w1⟩:=Zf3 f1
  obtain ⟨A1,c1,N1,e1,g1,t0,n1,m1,s1⟩:=r1
  cases e1
  subst g1
  obtain ⟨d2,M2,r2,w2⟩:=(YA underlying9) f2
  obtain ⟨e2,_,t1⟩:=r2
  cases e2
  obtain ⟨d3,M3,r3,w3⟩:=(YA underlying9) f3
  obtain ⟨e3,_,t2⟩:=r3
  cases e3
  exact ⟨⟨d0,d1,d2,d3⟩,_,⟨A1,c1,M1,rfl,rfl,t0,t1,t2,n1,m1,s1⟩,⟨w0,w1,w2,w3⟩⟩
theorem Zq2:Zbo prog 235 YJ ZpX:=by
 intro H c w base a b fuel cs x h
 obtain ⟨xs,n,_,_,d,e,hf⟩:=DataW.trod_struct underlying235 h
 have hl:cs.length=3:=d.trans yO
 have hx:xs.length=2:=e
 match cs,hl with
 | [a0,a1,a2],_=>
  have f0:DataW.trod c prog w base a b n 3 [a0]=some (xs[0]'yE):=by
   have this:DataW.trod c prog w base a b n 3 (AA (prog.cellsOf 3) (AB 0 [a0,a1,a2]))=_:=(hf 0 _ rfl).trans (A0 (show 0<xs.length by omega))
   rw [show prog.cellsOf 3=1 by kernel_rfl]at this
   exact this
  have f1:DataW.trod c prog w base a b n 150 [a1,a2]=some (xs[1]'yE):=by
   have this:DataW.trod c prog w base a b n 150 (AA (prog.cellsOf 150) (AB 1 [a0,a1,a2]))=_:=(hf 1 _ rfl).trans (A0 (show 1<xs.length by omega))
   rw [show prog.cellsOf 150=2 by kernel_rfl]at this
   exact this
  obtain ⟨d0,M0,r0,w0⟩:=(Qg underlying3) f0
  obtain ⟨e0,_⟩:=r0
  cases e0
  obtain ⟨d1,M1,r1,w1⟩:=Zf3 f1
  obtain ⟨A1,c1,N1,e1,g1,t0,n1,m1,s1⟩:=r1
  cases e1
  subst g1
  exact ⟨⟨d0,d1⟩,_,⟨A1,c1,M1,rfl,rfl,t0,n1,m1,s1⟩,⟨w0,w1⟩⟩
theorem Zor:Zbo prog 139 Xj Zsz:=by
 intro H c w base a b fuel cs x h
 obtain ⟨xs,n,_,_,d,e,hf⟩:=DataW.trod_struct underlying139 h
 have hl:cs.length=4:=d.trans yO
 have hx:xs.length=4:=e
 match cs,hl with
 | [a0,a1,a2,a3],_=>
  have f0:DataW.trod c prog w base a b n 9 [a0]=some (xs[0]'yE):=by
   have this:DataW.trod c prog w base a b n 9 (AA (prog.cellsOf 9) (AB 0 [a0,a1,a2,a3]))=_:=(hf 0 _ rfl).trans (A0 (show 0<xs.length by omega))
   rw [show prog.cellsOf 9=1 by kernel_rfl]at this
   exact this
  have f1:DataW.trod c prog w base a b n 3 [a1]=some (xs[1]'yE):=by
   have this:DataW.trod c prog w base a b n 3 (AA (prog.cellsOf 3) (AB 1 [a0,a1,a2,a3]))=_:=(hf 1 _ rfl).trans (A0 (show 1<xs.length by omega))
   rw [show prog.cellsOf 3=1 by kernel_rfl]at this
   exact this
  have f2:DataW.trod c prog w base a b n 136 [a2]=some (xs[2]'yE):=by
   have this:DataW.trod c prog w base a b n 136 (AA (prog.cellsOf 136) (AB 2 [a0,a1,a2,a3]))=_:=(hf 2 _ rfl).trans (A0 (show 2<xs.length by omega))
   rw [show prog.cellsOf 136=1 by kernel_rfl]at this
   exact this
  have f3:DataW.trod c prog w base a b n 137 [a3]=some (xs[3]'yE):=by
   have this:DataW.trod c prog w base a b n 137 (AA (prog.cellsOf 137) (AB 3 [a0,a1,a2,a3]))=_:=(hf 3 _ rfl).trans (A0 (show 3<xs.length by omega))
   rw [show prog.cellsOf 137=1 by kernel_rfl]at this
   exact this
  obtain ⟨d0,M0,r0,w0⟩:=(YA underlying9) f0
  obtain ⟨e0,_,t0⟩:=r0
  cases e0
  obtain ⟨d1,M1,r1,w1⟩:=(Qg underlying3) f1
  obtain ⟨e1,_⟩:=r1
  cases e1
  obtain ⟨d2,M2,r2,w2⟩:=(Z5 underlying136 yO Zn5) f2
  obtain ⟨A1,c1,e2,n1,m1,s1⟩:=r2
  cases e2
  obtain ⟨d3,M3,r3,w3⟩:=(Z5 underlying137 yO Zq2) f3
  obtain ⟨A2,c2,e3,n2,m2,s2⟩:=r3
  cases e3
  exact ⟨⟨d0,d1,d2,d3⟩,_,⟨A1,c1,M2,A2,c2,M3,rfl,rfl,t0,n1,m1,s1,n2,m2,s2⟩,⟨w0,w1,w2,w3⟩⟩
theorem ZsU:Zbo prog 239 Yg ZtM:=by
 intro H c w base a b fuel cs x h
 obtain ⟨xs,n,_,_,d,e,hf⟩:=DataW.trod_struct underlying239 h
 have hl:cs.length=2:=d.trans yO
 have hx:xs.length=2:=e
 match cs,hl with
 | [a0,a1],_=>
  have f0:DataW.trod c prog w base a b n 31 [a0]=some (xs[0]'yE):=by
   have this:DataW.trod c prog w base a b n 31 (AA (prog.cellsOf 31) (AB 0 [a0,a1]))=_:=(hf 0 _ rfl).trans (A0 (show 0<xs.length by omega))
   rw [show prog.cellsOf 31=1 by kernel_rfl]at this
   exact this
  have f1:DataW.trod c prog w base a b n 237 [a1]=some (xs[1]'yE):=by
   have this:DataW.trod c prog w base a b n 237 (AA (prog.cellsOf 237) (AB 1 [a0,a1]))=_:=(hf 1 _ rfl).trans (A0 (show 1<xs.length by omega))
   rw [show prog.cellsOf 237=1 by kernel_rfl]at this
   exact this
  obtain ⟨d0,M0,r0,w0⟩:=(Z5 underlying31 yO Zfq) f0
  obtain ⟨A1,c1,e0,n1,m1,s1⟩:=r0
  cases e0
  obtain ⟨d1,M1,r1,w1⟩:=(Z5 underlying237 yO ZvD) f1
  obtain ⟨A2,c2,e1,n2,m2,s2⟩:=r1
  cases e1
  exact ⟨⟨d0,d1⟩,_,⟨A1,c1,M0,A2,c2,M1,rfl,rfl,n1,m1,s1,n2,m2,s2⟩,⟨w0,w1⟩⟩
theorem Zst:Zbo prog 152 Y2 Zt1:=by
 intro H c w base a b fuel cs x h
 obtain ⟨xs,n,_,_,d,e,hf⟩:=DataW.trod_struct underlying152 h
 have hl:cs.length=3:=d.trans yO
 have hx:xs.length=2:=e
 match cs,hl with
 | [a0,a1,a2],_=>
  have f0:DataW.trod c prog w base a b n 150 [a0,a1]=some (xs[0]'yE):=by
   have this:DataW.trod c prog w base a b n 150 (AA (prog.cellsOf 150) (AB 0 [a0,a1,a2]))=_:=(hf 0 _ rfl).trans (A0 (show 0<xs.length by omega))
   rw [show prog.cellsOf 150=2 by kernel_rfl]at this
   exact this
  have f1:DataW.trod c prog w base a b n 31 [a2]=some (xs[1]'yE):=by
   have this:DataW.trod c prog w base a b n 31 (AA (prog.cellsOf 31) (AB 2 [a0,a1,a2]))=_:=(hf 1 _ rfl).trans (A0 (show 1<xs.length by omega))
   rw [show prog.cellsOf 31=1 by kernel_rfl]at this
   exact this
  obtain ⟨d0,M0,r0,w0⟩:=Zf3 f0
  obtain ⟨A1,c1,N1,e0,g0,t0,n1,m1,s1⟩:=r0
  cases e0
  subst g0
  obtain ⟨d1,M1,r1,w1⟩:=(Z5 underlying31 yO Zfq) f1
  obtain ⟨A2,c2,e1,n2,m2,s2⟩:=r1
  cases e1
  exact ⟨⟨d0,d1⟩,_,⟨A1,c1,M0,A2,c2,M1,rfl,rfl,t0,n1,m1,s1,n2,m2,s2⟩,⟨w0,w1⟩⟩
theorem Zun:Zbo prog 158 QX Zxm:=by
 intro H c w base a b fuel cs x h
 obtain ⟨xs,n,_,_,d,e,hf⟩:=DataW.trod_struct underlying158 h
 have hl:cs.length=8:=d.trans yO
 have hx:xs.length=4:=e
 match cs,hl with
 | [a0,a1,a2,a3,a4,a5,a6,a7],_=>
  have f0:DataW.trod c prog w base a b n 3 [a0]=some (xs[0]'yE):=by
   have this:DataW.trod c prog w base a b n 3 (AA (prog.cellsOf 3) (AB 0 [a0,a1,a2,a3,a4,a5,a6,a7]))=_:=(hf 0 _ rfl).trans (A0 (show 0<xs.length by omega))
   rw [show prog.cellsOf 3=1 by kernel_rfl]at this
   exact this
  have f1:DataW.trod c prog w base a b n 155 [a1,a2,a3,a4,a5]=some (xs[1]'yE):=by
   have this:DataW.trod c prog w base a b n 155 (AA (prog.cellsOf 155) (AB 1 [a0,a1,a2,a3,a4,a5,a6,a7]))=_:=(hf 1 _ rfl).trans (A0 (show 1<xs.length by omega))
   rw [show prog.cellsOf 155=5 by kernel_rfl]at this
   exact this
  have f2:DataW.trod c prog w base a b n 3 [a6]=some (xs[2]'yE):=by
   have this:DataW.trod c prog w base a b n 3 (AA (prog.cellsOf 3) (AB 6 [a0,a1,a2,a3,a4,a5,a6,a7]))=_:=(hf 2 _ rfl).trans (A0 (show 2<xs.length by omega))
   rw [show prog.cellsOf 3=1 by kernel_rfl]at this
   exact this
  have f3:DataW.trod c prog w base a b n 156 [a7]=some (xs[3]'yE):=by
   have this:DataW.trod c prog w base a b n 156 (AA (prog.cellsOf 156) (AB 7 [a0,a1,a2,a3,a4,a5,a6,a7]))=_:=(hf 3 _ rfl).trans (A0 (show 3<xs.length by omega))
   rw [show prog.cellsOf 156=1 by kernel_rfl]at this
   exact this
  obtain ⟨d0,M0,r0,w0⟩:=(Qg underlying3) f0
  obtain ⟨e0,_⟩:=r0
  cases e0
  obtain ⟨d1,M1,r1,w1⟩:=Zn5 f1
  obtain ⟨A1,c1,N1,e1,g1,t0,t1,t2,n1,m1,s1⟩:=r1
  cases e1
  subst g1
  obtain ⟨d2,M2,r2,w2⟩:=(Qg underlying3) f2
  obtain ⟨e2,_⟩:=r2
  cases e2
  obtain ⟨d3,M3,r3,w3⟩:=(Z5 underlying156 yO ZsU) f3
  obtain ⟨A2,c2,e3,n2,m2,s2⟩:=r3
  cases e3
  exact ⟨⟨d0,d1,d2,d3⟩,_,⟨A1,c1,M1,A2,c2,M3,rfl,rfl,t0,t1,t2,n1,m1,s1,n2,m2,s2⟩,⟨w0,w1,w2,w3⟩⟩
theorem ZpJ:Zbo prog 33 ZdS Zot:=by
 intro H c w base a b fuel cs x h
 obtain ⟨xs,n,_,_,d,e,hf⟩:=DataW.trod_struct underlying33 h
 have hl:cs.length=6:=d.trans yO
 have hx:xs.length=6:=e
 match cs,hl with
 | [a0,a1,a2,a3,a4,a5],_=>
  have f0:DataW.trod c prog w base a b n 22 [a0]=some (xs[0]'yE):=by
   have this:DataW.trod c prog w base a b n 22 (AA (prog.cellsOf 22) (AB 0 [a0,a1,a2,a3,a4,a5]))=_:=(hf 0 _ rfl).trans (A0 (show 0<xs.length by omega))
   rw [show prog.cellsOf 22=1 by kernel_rfl]at this
   exact this
  have f1:DataW.trod c prog w base a b n 28 [a1]=some (xs[1]'yE):=by
   have this:DataW.trod c prog w base a b n 28 (AA (prog.cellsOf 28) (AB 1 [a0,a1,a2,a3,a4,a5]))=_:=(hf 1 _ rfl).trans (A0 (show 1<xs.length by omega))
   rw [show prog.cellsOf 28=1 by kernel_rfl]at this
   exact this
  have f2:DataW.trod c prog w base a b n 29 [a2]=some (xs[2]'yE):=by
   have this:DataW.trod c prog w base a b n 29 (AA (prog.cellsOf 29) (AB 2 [a0,a1,a2,a3,a4,a5]))=_:=(hf 2 _ rfl).trans (A0 (show 2<xs.length by omega))
   rw [show prog.cellsOf 29=1 by kernel_rfl]at this
   exact this
  have f3:DataW.trod c prog w base a b n 30 [a3]=some (xs[3]'yE):=by
   have this:DataW.trod c prog w base a b n 30 (AA (prog.cellsOf 30) (AB 3 [a0,a1,a2,a3,a4,a5]))=_:=(hf 3 _ rfl).trans (A0 (show 3<xs.length by omega))
   rw [show prog.cellsOf 30=1 by kernel_rfl]at this
   exact this
  have f4:DataW.trod c prog w base a b n 31 [a4]=some (xs[4]'yE):=by
   have this:DataW.trod c prog w base a b n 31 (AA (prog.cellsOf 31) (AB 4 [a0,a1,a2,a3,a4,a5]))=_:=(hf 4 _ rfl).trans (A0 (show 4<xs.length by omega))
   rw [show prog.cellsOf 31=1 by kernel_rfl]at this
   exact this
  have f5:DataW.trod c prog w base a b n 3 [a5]=some (xs[5]'yE):=by
   have this:DataW.trod c prog w base a b n 3 (AA (prog.cellsOf 3) (AB 5 [a0,a1,a2,a3,a4,a5]))=_:=(hf 5 _ rfl).trans (A0 (show 5<xs.length by omega))
   rw [show prog.cellsOf 3=1 by kernel_rfl]at this
   exact this
  obtain ⟨d0,M0,r0,w0⟩:=(Z5 underlying22 yO Zor) f0
  obtain ⟨A1,c1,e0,n1,m1,s1⟩:=r0
  cases e0
  obtain ⟨d1,M1,r1,w1⟩:=(Z5 underlying28 yO (Qg underlying3)) f1
  obtain ⟨A2,c2,e1,n2,m2,s2⟩:=r1
  cases e1
  obtain ⟨d2,M2,r2,w2⟩:=(Z5 underlying29 yO Zst) f2
  obtain ⟨A3,c3,e2,n3,m3,s3⟩:=r2
  cases e2
  obtain ⟨d3,M3,r3,w3⟩:=(Z5 underlying30 yO Zun) f3
  obtain ⟨A4,c4,e3,n4,m4,s4⟩:=r3
  cases e3
  obtain ⟨d4,M4,r4,w4⟩:=(Z5 underlying31 yO Zfq) f4
  obtain ⟨A5,c5,e4,n5,m5,s5⟩:=r4
  cases e4
  obtain ⟨d5,M5,r5,w5⟩:=(Qg underlying3) f5
  obtain ⟨e5,_⟩:=r5
  cases e5
  exact ⟨⟨d0,d1,d2,d3,d4,d5⟩,_,⟨A1,c1,M0,A2,c2,M1,A3,c3,M2,A4,c4,M3,A5,c5,M4,rfl,rfl,n1,m1,s1,n2,m2,s2,n3,m3,s3,n4,m4,s4,n5,m5,s5⟩,⟨w0,w1,w2,w3,w4,w5⟩⟩
theorem Zsd:Zbo prog 143 Y8 Zt9:=by
 intro H c w base a b fuel cs x h
 obtain ⟨xs,n,_,_,d,e,hf⟩:=DataW.trod_struct underlying143 h
 have hl:cs.length=3:=d.trans yO
 have hx:xs.length=2:=e
 match cs,hl with
 | [a0,a1,a2],_=>
  have f0:DataW.trod c prog w base a b n 141 [a0,a1]=some (xs[0]'yE):=by
   have this:DataW.trod c prog w base a b n 141 (AA (prog.cellsOf 141) (AB 0 [a0,a1,a2]))=_:=(hf 0 _ rfl).trans (A0 (show 0<xs.length by omega))
   rw [show prog.cellsOf 141=2 by kernel_rfl]at this
   exact this
  have f1:DataW.trod c prog w base a b n 3 [a2]=some (xs[1]'yE):=by
   have this:DataW.trod c prog w base a b n 3 (AA (prog.cellsOf 3) (AB 2 [a0,a1,a2]))=_:=(hf 1 _ rfl).trans (A0 (show 1<xs.length by omega))
   rw [show prog.cellsOf 3=1 by kernel_rfl]at this
   exact this
  obtain ⟨d0,M0,r0,w0⟩:=Zfq f0
  obtain ⟨A1,c1,N1,e0,g0,t0,n1,m1,s1⟩:=r0
  cases e0
  subst g0
  obtain ⟨d1,M1,r1,w1⟩:=(Qg underlying3) f1
  obtain ⟨e1,_⟩:=r1
  cases e1
  exact ⟨⟨d0,d1⟩,_,⟨A1,c1,M0,rfl,rfl,t0,n1,m1,s1⟩,⟨w0,w1⟩⟩
theorem ZqO:Zbo prog 145 Yz ZpV:=by
 intro H c w base a b fuel cs x h
 obtain ⟨xs,n,_,_,d,e,hf⟩:=DataW.trod_struct underlying145 h
 have hl:cs.length=2:=d.trans yO
 have hx:xs.length=2:=e
 match cs,hl with
 | [a0,a1],_=>
  have f0:DataW.trod c prog w base a b n 9 [a0]=some (xs[0]'yE):=by
   have this:DataW.trod c prog w base a b n 9 (AA (prog.cellsOf 9) (AB 0 [a0,a1]))=_:=(hf 0 _ rfl).trans (A0 (show 0<xs.length by omega))
   rw [show prog.cellsOf 9=1 by kernel_rfl]at this
   exact this
  have f1:DataW.trod c prog w base a b n 28 [a1]=some (xs[1]'yE):=by
   have this:DataW.trod c prog w base a b n 28 (AA (prog.cellsOf 28) (AB 1 [a0,a1]))=_:=(hf 1 _ rfl).trans (A0 (show 1<xs.length by omega))
   rw [show prog.cellsOf 28=1 by kernel_rfl]at this
   exact this
  obtain ⟨d0,M0,r0,w0⟩:=(YA underlying9) f0
  obtain ⟨e0,_,t0⟩:=r0
  cases e0
  obtain ⟨d1,M1,r1,w1⟩:=(Z5 underlying28 yO (Qg underlying3)) f1
  obtain ⟨A1,c1,e1,n1,m1,s1⟩:=r1
  cases e1
  exact ⟨⟨d0,d1⟩,_,⟨A1,c1,M1,rfl,rfl,t0,n1,m1,s1⟩,⟨w0,w1⟩⟩
theorem Ztl:Zbo prog 148 Xz Zuc:=by
 intro H c w base a b fuel cs x h
 obtain ⟨xs,n,_,_,d,e,hf⟩:=DataW.trod_struct underlying148 h
 have hl:cs.length=4:=d.trans yO
 have hx:xs.length=3:=e
 match cs,hl with
 | [a0,a1,a2,a3],_=>
  have f0:DataW.trod c prog w base a b n 3 [a0]=some (xs[0]'yE):=by
   have this:DataW.trod c prog w base a b n 3 (AA (prog.cellsOf 3) (AB 0 [a0,a1,a2,a3]))=_:=(hf 0 _ rfl).trans (A0 (show 0<xs.length by omega))
   rw [show prog.cellsOf 3=1 by kernel_rfl]at this
   exact this
  have f1:DataW.trod c prog w base a b n 9 [a1]=some (xs[1]'yE):=by
   have this:DataW.trod c prog w base a b n 9 (AA (prog.cellsOf 9) (AB 1 [a0,a1,a2,a3]))=_:=(hf 1 _ rfl).trans (A0 (show 1<xs.length by omega))
   rw [show prog.cellsOf 9=1 by kernel_rfl]at this
   exact this
  have f2:DataW.trod c prog w base a b n 141 [a2,a3]=some (xs[2]'yE):=by
   have this:DataW.trod c prog w base a b n 141 (AA (prog.cellsOf 141) (AB 2 [a0,a1,a2,a3]))=_:=(hf 2 _ rfl).trans (A0 (show 2<xs.length by omega))
   rw [show prog.cellsOf 141=2 by kernel_rfl]at this
   exact this
  obtain ⟨d0,M0,r0,w0⟩:=(Qg underlying3) f0
  obtain ⟨e0,_⟩:=r0
  cases e0
  obtain ⟨d1,M1,r1,w1⟩:=(YA underlying9) f1
  obtain ⟨e1,_,t0⟩:=r1
  cases e1
  obtain ⟨d2,M2,r2,w2⟩:=Zfq f2
  obtain ⟨A1,c1,N1,e2,g2,t1,n1,m1,s1⟩:=r2
  cases e2
  subst g2
  exact ⟨⟨d0,d1,d2⟩,_,⟨A1,c1,M2,rfl,rfl,t0,t1,n1,m1,s1⟩,⟨w0,w1,w2⟩⟩
theorem ZrD:Zbo prog 27 ZeO Zrp:=by
 intro H c w base a b fuel cs x h
 obtain ⟨xs,n,_,_,d,e,hf⟩:=DataW.trod_struct underlying27 h
 have hl:cs.length=6:=d.trans yO
 have hx:xs.length=6:=e
 match cs,hl with
 | [a0,a1,a2,a3,a4,a5],_=>
  have f0:DataW.trod c prog w base a b n 22 [a0]=some (xs[0]'yE):=by
   have this:DataW.trod c prog w base a b n 22 (AA (prog.cellsOf 22) (AB 0 [a0,a1,a2,a3,a4,a5]))=_:=(hf 0 _ rfl).trans (A0 (show 0<xs.length by omega))
   rw [show prog.cellsOf 22=1 by kernel_rfl]at this
   exact this
  have f1:DataW.trod c prog w base a b n 23 [a1]=some (xs[1]'yE):=by
   have this:DataW.trod c prog w base a b n 23 (AA (prog.cellsOf 23) (AB 1 [a0,a1,a2,a3,a4,a5]))=_:=(hf 1 _ rfl).trans (A0 (show 1<xs.length by omega))
   rw [show prog.cellsOf 23=1 by kernel_rfl]at this
   exact this
  have f2:DataW.trod c prog w base a b n 3 [a2]=some (xs[2]'yE):=by
   have this:DataW.trod c prog w base a b n 3 (AA (prog.cellsOf 3) (AB 2 [a0,a1,a2,a3,a4,a5]))=_:=(hf 2 _ rfl).trans (A0 (show 2<xs.length by omega))
   rw [show prog.cellsOf 3=1 by kernel_rfl]at this
   exact this
  have f3:DataW.trod c prog w base a b n 24 [a3]=some (xs[3]'yE):=by
   have this:DataW.trod c prog w base a b n 24 (AA (prog.cellsOf 24) (AB 3 [a0,a1,a2,a3,a4,a5]))=_:=(hf 3 _ rfl).trans (A0 (show 3<xs.length by omega))
   rw [show prog.cellsOf 24=1 by kernel_rfl]at this
   exact this
  have f4:DataW.trod c prog w base a b n 4 [a4]=some (xs[4]'yE):=by
   have this:DataW.trod c prog w base a b n 4 (AA (prog.cellsOf 4) (AB 4 [a0,a1,a2,a3,a4,a5]))=_:=(hf 4 _ rfl).trans (A0 (show 4<xs.length by omega))
   rw [show prog.cellsOf 4=1 by kernel_rfl]at this
   exact this
  have f5:DataW.trod c prog w base a b n 25 [a5]=some (xs[5]'yE):=by
   have this:DataW.trod c prog w base a b n 25 (AA (prog.cellsOf 25) (AB 5 [a0,a1,a2,a3,a4,a5]))=_:=(hf 5 _ rfl).trans (A0 (show 5<xs.length by omega))
   rw [show prog.cellsOf 25=1 by kernel_rfl]at this
   exact this
  obtain ⟨d0,M0,r0,w0⟩:=(Z5 underlying22 yO Zor) f0
  obtain ⟨A1,c1,e0,n1,m1,s1⟩:=r0
  cases e0
  obtain ⟨d1,M1,r1,w1⟩:=(Z5 underlying23 yO Zsd) f1
  obtain ⟨A2,c2,e1,n2,m2,s2⟩:=r1
  cases e1
  obtain ⟨d2,M2,r2,w2⟩:=(Qg underlying3) f2
  obtain ⟨e2,_⟩:=r2
  cases e2
  obtain ⟨d3,M3,r3,w3⟩:=(Z5 underlying24 yO ZqO) f3
  obtain ⟨A3,c3,e3,n3,m3,s3⟩:=r3
  cases e3
  obtain ⟨d4,M4,r4,w4⟩:=(ZsG underlying4) f4
  obtain ⟨e4,_⟩:=r4
  cases e4
  obtain ⟨d5,M5,r5,w5⟩:=(Z5 underlying25 yO Ztl) f5
  obtain ⟨A4,c4,e5,n4,m4,s4⟩:=r5
  cases e5
  exact ⟨⟨d0,d1,d2,d3,d4,d5⟩,_,⟨A1,c1,M0,A2,c2,M1,A3,c3,M3,A4,c4,M5,rfl,rfl,n1,m1,s1,n2,m2,s2,n3,m3,s3,n4,m4,s4⟩,⟨w0,w1,w2,w3,w4,w5⟩⟩
theorem Zu1:Zbo prog 35 ZbQ Zsu:=by
 intro H c w base a b fuel cs x h
 obtain ⟨xs,n,_,_,d,e,hf⟩:=DataW.trod_struct underlying35 h
 have hl:cs.length=12:=d.trans yO
 have hx:xs.length=2:=e
 match cs,hl with
 | [a0,a1,a2,a3,a4,a5,a6,a7,a8,a9,a10,a11],_=>
  have f0:DataW.trod c prog w base a b n 27 [a0,a1,a2,a3,a4,a5]=some (xs[0]'yE):=by
   have this:DataW.trod c prog w base a b n 27 (AA (prog.cellsOf 27) (AB 0 [a0,a1,a2,a3,a4,a5,a6,a7,a8,a9,a10,a11]))=_:=(hf 0 _ rfl).trans (A0 (show 0<xs.length by omega))
   rw [show prog.cellsOf 27=6 by kernel_rfl]at this
   exact this
  have f1:DataW.trod c prog w base a b n 33 [a6,a7,a8,a9,a10,a11]=some (xs[1]'yE):=by
   have this:DataW.trod c prog w base a b n 33 (AA (prog.cellsOf 33) (AB 6 [a0,a1,a2,a3,a4,a5,a6,a7,a8,a9,a10,a11]))=_:=(hf 1 _ rfl).trans (A0 (show 1<xs.length by omega))
   rw [show prog.cellsOf 33=6 by kernel_rfl]at this
   exact this
  obtain ⟨d0,M0,r0,w0⟩:=ZrD f0
  obtain ⟨A1,c1,N1,A2,c2,N2,A3,c3,N3,A4,c4,N4,e0,g0,n1,m1,s1,n2,m2,s2,n3,m3,s3,n4,m4,s4⟩:=r0
  cases e0
  subst g0
  obtain ⟨d1,M1,r1,w1⟩:=ZpJ f1
  obtain ⟨A5,c5,N5,A6,c6,N6,A7,c7,N7,A8,c8,N8,A9,c9,N9,e1,g1,n5,m5,s5,n6,m6,s6,n7,m7,s7,n8,m8,s8,n9,m9,s9⟩:=r1
  cases e1
  subst g1
  exact ⟨⟨d0,d1⟩,_,⟨A1,c1,N1,A2,c2,N2,A3,c3,N3,A4,c4,N4,A5,c5,N5,A6,c6,N6,A7,c7,N7,A8,c8,N8,A9,c9,N9,rfl,rfl,n1,m1,s1,n2,m2,s2,n3,m3,s3,n4,m4,s4,n5,m5,s5,n6,m6,s6,n7,m7,s7,n8,m8,s8,n9,m9,s9⟩,⟨w0,w1⟩⟩
end
end Go.Proofs.YtcaokdmjlknmmaaGreatDoor
