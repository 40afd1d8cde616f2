/- Texts of this proof, joined: Eq, MText, Mk, Mark, Held, Open, ExactExplainFact, Opens, LaidS. What each holds is said at its theorems. -/
import Derived.Test.YtlpkbfjcdaanmaaGreatDoorProg
import Derived.Test.YtlpkbfjcdaanmaaGreatDoorExplainFactQ1
import Derived.Outline
import Derived.WalkSpells
import Derived.StillTailTactics
import Derived.WalkLawsBesides
import Derived.Deep.RegionHeld3
import Derived.Deep.Slices
import Derived.ChangeArms
import Derived.ProofKit
import Derived.Test.YtlpkbfjcdaanmaaGreatDoorExplainFactQ4
import Derived.Test.YtlpkbfjcdaanmaaGreatDoorExplainFactQ8
import Derived.Test.YtlpkbfjcdaanmaaGreatDoorExplainFactQ6
import Derived.Lib.LaidTab
open Array renaming size_push→AP
open Go.ByteArray renaming mk_append_mk→AO
open Int renaming le_trans→A8,le_refl→AJ
open List renaming getElem?_eq_getElem→A3,take→A4,drop→A5,drop_eq_getElem_cons→A9,mem_append→AA,drop_of_length_le→AB,length_cons→AC,set_append_right→AD,set_cons_zero→AE,mem_cons→AF,append_nil→AG,map_cons→AK,sum_cons→AL,getElem_append_right→AM,getElem?_eq_none→AR
open Nat renaming add_zero→A0,zero_le→A6,le_refl→A7,mul_one→AH,lt_of_lt_of_le→AN
open Option renaming map_eq_some_iff→AQ
open Option.some renaming inj→AS
open UInt8 renaming ofNat→AI
open Go.Proofs.Tryz
set_option linter.unusedSimpArgs false
set_option linter.unusedVariables false
set_option maxRecDepth 1000000
set_option maxHeartbeats 4000000
open Go.Lib renaming hid→yS
namespace Go.Proofs.YtlpkbfjcdaanmaaGreatDoor
section
open Go.RowKit
def Qw (w:World) (e:Ending) (w':World):Prop:=e=.returned (.bool true)/\Below w.heap.size w w'
theorem Zil (A B:Option Addr) (n c d:Nat) (ds:List ByteArray) (L M:List Nat) (w:World) (hn:n=ds.length) (hm:n<=9223372036854775807) (h1:Sli Zde w A ds L) (h2:Sli Zde w B ds M):
  Calls prog 37 #[.slice A n c,.slice B n d] w (Qw w):=by
 have H1:=yS h1
 have H2:=yS h2
 have HN:=yS hn
 clear h1 h2 hn
 have hne:((n:Int) != n)=false:=by simp
 go_enter func37,ntmps37
 go_wp2
 go_loopw [5] (fun i wr=>∃(k:Nat),k<=n/\i=.int .i64 k/\Hid (∃q,wr=w.drewN q)) (fun i _=>n - (intOf i).toNat)
 case atStart=>exact ⟨0,A6 _,rfl,0,rfl⟩
 case round=>
  obtain ⟨k,hk,rfl,hq⟩:=hrel
  obtain ⟨q,rfl⟩:=hq.out
  by_cases hlt:k<n
  .have e:k<ds.length:=by have:=HN.out;omega
   obtain ⟨b,off,cs,Lk,rfl,_,_,f,hc⟩:=H1.out.at_ e
   obtain ⟨b',off',cs',Mk,rfl,_,_,a,hc'⟩:=H2.out.at_ e
   generalize ds[k]=x at *
   obtain ⟨rfl,_,_⟩:=f
   obtain ⟨rfl,_,_⟩:=a
   have q0:=hc 0 _ rfl
   have p0:=hc' 0 _ rfl
   simp only[show Zde.size=1 from rfl,AH,A0]at q0 p0
   clear hc hc'
   have k0:(0:Int)<=k:=by omega
   have k1:(k:Int)<n:=by omega
   go_wp2_with fail
   go_quiet (fail)
   go_wp2_with fail
   go_roundw
   case rel=>exact ⟨k+1,yE,by go_num,by first|exact Zy2 _ _ _|exact ZxG _ _⟩
   case measure=>simp [intOf];omega
  .go_wp2
   go_ret
   exact ⟨rfl,ZmM _ _ _⟩
theorem Ztv (cs ds:List Value) (x:Zc) (L M:List Nat) (w:World) (h1:Z8.rep w cs x L) (h2:Z8.rep w ds x M):
  Calls prog 31 #[.agg cs.toArray,.agg ds.toArray] w (Qw w):=by
 obtain ⟨b,c,k,rfl,_ahL,at0,an1,l,d⟩:=h1
 obtain ⟨f,g,m,rfl,_bhL,bt0,bn1,o,j⟩:=h2
 unfold maxLen at l o
 have SA1:=yS d
 have SB1:=yS j
 clear d j
 go_enter func31,ntmps31
 go_wp2_with fail
 refine (Zil b f _ c g x.args k m _ rfl yE (SA1.out.below yI) (SB1.out.below yI)).mono ?_
 rintro e w1 ⟨rfl,a⟩
 have B1:Hid (Below w.heap.size w w1):=Below.trans yI (a.mono yK)
 have K0:Hid (Blk w1 w.heap.size 53 #[.string x.rel,.slice b x.args.length c]):=Blk.later (Blk.alloc (Blk.new _ _ _) _) a
 have K1:Hid (Blk w1 (w.heap.size+1) 53 #[.string x.rel,.slice f x.args.length g]):=Blk.later (Blk.new_at yG) a
 have f0:=K0.out.at (i:=0) rfl
 have r0:=K1.out.at (i:=0) rfl
 have f1:=K0.out.at (i:=1) rfl
 have r1:=K1.out.at (i:=1) rfl
 clear a
 have hz1:=B1.out.size
 go_wp2_with fail
 go_ret
 exact ⟨rfl,(by repeat (first|refine Below.setCell ?_ (by dsimp only;omega) _|refine Below.alloc ?_ yK _|exact B1.out))⟩
theorem Zr2 (A B:Option Addr) (n c d:Nat) (ds:List Zc) (L M:List Nat) (w:World) (hn:n=ds.length) (hm:n<=9223372036854775807) (h1:Sli Z8 w A ds L) (h2:Sli Z8 w B ds M):
  Calls prog 19 #[.slice A n c,.slice B n d] w (Qw w):=by
 have H1:=yS h1
 have H2:=yS h2
 have HN:=yS hn
 clear h1 h2 hn
 have hne:((n:Int) != n)=false:=by simp
 go_enter func19,ntmps19
 go_wp2
 go_loopw [5] (fun i wr=>∃(k:Nat),k<=n/\i=.int .i64 k/\Hid (Below w.heap.size w wr)) (fun i _=>n - (intOf i).toNat)
 case atStart=>exact ⟨0,A6 _,rfl,Below.refl _ _⟩
 case round=>
  obtain ⟨k,hk,rfl,HB⟩:=hrel
  by_cases hlt:k<n
  .have l:k<ds.length:=by have:=HN.out;omega
   obtain ⟨b,off,cs,Lk,rfl,t,u,g,hc⟩:=H1.out.at_ l
   obtain ⟨b',f,cs',Mk,rfl,v,z,a,hc'⟩:=H2.out.at_ l
   have o:b<w.heap.size:=H1.out.lt b t
   have j:b'<w.heap.size:=H2.out.lt b' v
   have HR:=yS (Z8.keep g (Zy HB.out (fun y m=>H1.out.lt y (u y m))))
   have HR':=yS (Z8.keep a (Zy HB.out (fun y m=>H2.out.lt y (z y m))))
   generalize ds[k]=x at *
   obtain ⟨aA1,ac1,rfl⟩:=ZcS g
   obtain ⟨bA1,bc1,rfl⟩:=ZcS a
   have q0:wr.cell? ⟨b,off+k*2,none⟩=_:=(HB.out.cell (p:=⟨b,off+(k*2+0),none⟩) o).trans (hc 0 _ rfl)
   have p0:wr.cell? ⟨b',f+k*2,none⟩=_:=(HB.out.cell (p:=⟨b',f+(k*2+0),none⟩) j).trans (hc' 0 _ rfl)
   have q1:wr.cell? ⟨b,off+k*2+1,none⟩=_:=(HB.out.cell (p:=⟨b,off+(k*2+1),none⟩) o).trans (hc 1 _ rfl)
   have p1:wr.cell? ⟨b',f+k*2+1,none⟩=_:=(HB.out.cell (p:=⟨b',f+(k*2+1),none⟩) j).trans (hc' 1 _ rfl)
   clear hc hc' g a
   have k0:(0:Int)<=k:=by omega
   have k1:(k:Int)<n:=by omega
   go_wp2_with fail
   go_still_tail 8,yO
   change wpList _ _ _ _ _ wr.drew
   go_wp2_with (go_at_call 31;(refine (Ztv _ _ x Lk Mk wr.drew (Z8.keep HR.out (fun _ _=>rfl)) (Z8.keep HR'.out (fun _ _=>rfl))).mono ?_;rintro e w1 ⟨rfl,q⟩;have HB1:=yS (HB.out.drew.trans (q.mono HB.out.size));clear q))
   go_roundw
   case rel=>exact ⟨k+1,yE,by go_num,HB1.out⟩
   case measure=>simp [intOf];omega
  .go_wp2
   go_ret
   exact ⟨rfl,HB.out⟩
theorem ZiL (cs ds:List Value) (x:Zx) (L M:List Nat) (w:World) (h1:Qq.rep w cs x L) (h2:Qq.rep w ds x M):
  Calls prog 135 #[.agg cs.toArray,.agg ds.toArray] w (Qw w):=by
 obtain ⟨b,c,k,rfl,_ahL,at0,an1,l,d⟩:=h1
 obtain ⟨f,g,m,rfl,_bhL,bt0,bn1,o,j⟩:=h2
 unfold maxLen at l o
 have SA1:=yS d
 have SB1:=yS j
 clear d j
 go_enter func135,ntmps135
 go_wp2_with fail
 refine (Zil b f _ c g x.args k m _ rfl yE (SA1.out.below yI) (SB1.out.below yI)).mono ?_
 rintro e w1 ⟨rfl,a⟩
 have B1:Hid (Below w.heap.size w w1):=Below.trans yI (a.mono yK)
 have K0:Hid (Blk w1 w.heap.size 78 #[.string x.rel,.slice b x.args.length c]):=Blk.later (Blk.alloc (Blk.new _ _ _) _) a
 have K1:Hid (Blk w1 (w.heap.size+1) 78 #[.string x.rel,.slice f x.args.length g]):=Blk.later (Blk.new_at yG) a
 have f0:=K0.out.at (i:=0) rfl
 have r0:=K1.out.at (i:=0) rfl
 have f1:=K0.out.at (i:=1) rfl
 have r1:=K1.out.at (i:=1) rfl
 clear a
 have hz1:=B1.out.size
 go_wp2_with fail
 go_ret
 exact ⟨rfl,(by repeat (first|refine Below.setCell ?_ (by dsimp only;omega) _|refine Below.alloc ?_ yK _|exact B1.out))⟩
theorem Zty (cs ds:List Value) (x:Zl) (L M:List Nat) (w:World) (h1:YL.rep w cs x L) (h2:YL.rep w ds x M):
  Calls prog 74 #[.agg cs.toArray,.agg ds.toArray] w (Qw w):=by
 obtain ⟨b,c,k,rfl,_ahL,l,at1,at2,m,o,g⟩:=h1
 obtain ⟨d,f,p,rfl,_bhL,q,bt1,bt2,t,u,j⟩:=h2
 unfold maxLen at o u
 have SA1:=yS g
 have SB1:=yS j
 clear g j
 go_enter func74,ntmps74
 go_wp2_with fail
 refine (ZiL [.string x.pattern.rel,.slice b x.pattern.args.length c] [.string x.pattern.rel,.slice d x.pattern.args.length f] x.pattern _ _ _ ⟨b,c,k,rfl,rfl,l,m,(by unfold maxLen;omega),SA1.out.below yI⟩ ⟨d,f,p,rfl,rfl,q,t,(by unfold maxLen;omega),SB1.out.below yI⟩).mono ?_
 rintro e w1 ⟨rfl,a⟩
 have B1:Hid (Below w.heap.size w w1):=Below.trans yI (a.mono yK)
 have K0:Hid (Blk w1 w.heap.size 80 #[.int .i64 x.kind,.string x.pattern.rel,.slice b x.pattern.args.length c,.string x.left,.string x.right]):=Blk.later (Blk.alloc (Blk.new _ _ _) _) a
 have K1:Hid (Blk w1 (w.heap.size+1) 80 #[.int .i64 x.kind,.string x.pattern.rel,.slice d x.pattern.args.length f,.string x.left,.string x.right]):=Blk.later (Blk.new_at yG) a
 have f0:=K0.out.at (i:=0) rfl
 have r0:=K1.out.at (i:=0) rfl
 have f1:=K0.out.at (i:=1) rfl
 have r1:=K1.out.at (i:=1) rfl
 have f2:=K0.out.at (i:=2) rfl
 have r2:=K1.out.at (i:=2) rfl
 have f3:=K0.out.at (i:=3) rfl
 have r3:=K1.out.at (i:=3) rfl
 have f4:=K0.out.at (i:=4) rfl
 have r4:=K1.out.at (i:=4) rfl
 clear a
 have hz1:=B1.out.size
 go_wp2_with fail
 go_ret
 exact ⟨rfl,(by repeat (first|refine Below.setCell ?_ (by dsimp only;omega) _|refine Below.alloc ?_ yK _|exact B1.out))⟩
theorem Zls (A B:Option Addr) (n c d:Nat) (ds:List Zl) (L M:List Nat) (w:World) (hn:n=ds.length) (hm:n<=9223372036854775807) (h1:Sli YL w A ds L) (h2:Sli YL w B ds M):
  Calls prog 20 #[.slice A n c,.slice B n d] w (Qw w):=by
 have H1:=yS h1
 have H2:=yS h2
 have HN:=yS hn
 clear h1 h2 hn
 have hne:((n:Int) != n)=false:=by simp
 go_enter func20,ntmps20
 go_wp2
 go_loopw [5] (fun i wr=>∃(k:Nat),k<=n/\i=.int .i64 k/\Hid (Below w.heap.size w wr)) (fun i _=>n - (intOf i).toNat)
 case atStart=>exact ⟨0,A6 _,rfl,Below.refl _ _⟩
 case round=>
  obtain ⟨k,hk,rfl,HB⟩:=hrel
  by_cases hlt:k<n
  .have o:k<ds.length:=by have:=HN.out;omega
   obtain ⟨b,off,cs,Lk,rfl,t,u,j,hc⟩:=H1.out.at_ o
   obtain ⟨b',a,cs',Mk,rfl,v,z,g,hc'⟩:=H2.out.at_ o
   have l:b<w.heap.size:=H1.out.lt b t
   have f:b'<w.heap.size:=H2.out.lt b' v
   have HR:=yS (YL.keep j (Zy HB.out (fun y m=>H1.out.lt y (u y m))))
   have HR':=yS (YL.keep g (Zy HB.out (fun y m=>H2.out.lt y (z y m))))
   generalize ds[k]=x at *
   obtain ⟨aA1,ac1,rfl⟩:=ZcW j
   obtain ⟨bA1,bc1,rfl⟩:=ZcW g
   have q0:wr.cell? ⟨b,off+k*5,none⟩=_:=(HB.out.cell (p:=⟨b,off+(k*5+0),none⟩) l).trans (hc 0 _ rfl)
   have p0:wr.cell? ⟨b',a+k*5,none⟩=_:=(HB.out.cell (p:=⟨b',a+(k*5+0),none⟩) f).trans (hc' 0 _ rfl)
   have q1:wr.cell? ⟨b,off+k*5+1,none⟩=_:=(HB.out.cell (p:=⟨b,off+(k*5+1),none⟩) l).trans (hc 1 _ rfl)
   have p1:wr.cell? ⟨b',a+k*5+1,none⟩=_:=(HB.out.cell (p:=⟨b',a+(k*5+1),none⟩) f).trans (hc' 1 _ rfl)
   have q2:wr.cell? ⟨b,off+k*5+2,none⟩=_:=(HB.out.cell (p:=⟨b,off+(k*5+2),none⟩) l).trans (hc 2 _ rfl)
   have p2:wr.cell? ⟨b',a+k*5+2,none⟩=_:=(HB.out.cell (p:=⟨b',a+(k*5+2),none⟩) f).trans (hc' 2 _ rfl)
   have q3:wr.cell? ⟨b,off+k*5+3,none⟩=_:=(HB.out.cell (p:=⟨b,off+(k*5+3),none⟩) l).trans (hc 3 _ rfl)
   have p3:wr.cell? ⟨b',a+k*5+3,none⟩=_:=(HB.out.cell (p:=⟨b',a+(k*5+3),none⟩) f).trans (hc' 3 _ rfl)
   have q4:wr.cell? ⟨b,off+k*5+4,none⟩=_:=(HB.out.cell (p:=⟨b,off+(k*5+4),none⟩) l).trans (hc 4 _ rfl)
   have p4:wr.cell? ⟨b',a+k*5+4,none⟩=_:=(HB.out.cell (p:=⟨b',a+(k*5+4),none⟩) f).trans (hc' 4 _ rfl)
   clear hc hc' j g
   have k0:(0:Int)<=k:=by omega
   have k1:(k:Int)<n:=by omega
   go_wp2_with fail
   go_still_tail 8,yO
   change wpList _ _ _ _ _ wr.drew
   go_wp2_with (go_at_call 74;(refine (Zty _ _ x Lk Mk wr.drew (YL.keep HR.out (fun _ _=>rfl)) (YL.keep HR'.out (fun _ _=>rfl))).mono ?_;rintro e w1 ⟨rfl,q⟩;have HB1:=yS (HB.out.drew.trans (q.mono HB.out.size));clear q))
   go_roundw
   case rel=>exact ⟨k+1,yE,by go_num,HB1.out⟩
   case measure=>simp [intOf];omega
  .go_wp2
   go_ret
   exact ⟨rfl,HB.out⟩
theorem ZqP (cs ds:List Value) (x:Zu) (L M:List Nat) (w:World) (h1:Yp.rep w cs x L) (h2:Yp.rep w ds x M):
  Calls prog 200 #[.agg cs.toArray,.agg ds.toArray] w (Qw w):=by
 obtain ⟨b,c,k,rfl,_ahL,l,m,o,g⟩:=h1
 obtain ⟨d,f,p,rfl,_bhL,q,t,u,j⟩:=h2
 unfold maxLen at o u
 have SA1:=yS g
 have SB1:=yS j
 clear g j
 go_enter func200,ntmps200
 go_wp2_with fail
 refine (ZiL [.string x.pattern.rel,.slice b x.pattern.args.length c] [.string x.pattern.rel,.slice d x.pattern.args.length f] x.pattern _ _ _ ⟨b,c,k,rfl,rfl,l,m,(by unfold maxLen;omega),SA1.out.below yI⟩ ⟨d,f,p,rfl,rfl,q,t,(by unfold maxLen;omega),SB1.out.below yI⟩).mono ?_
 rintro e w1 ⟨rfl,a⟩
 have B1:Hid (Below w.heap.size w w1):=Below.trans yI (a.mono yK)
 have K0:Hid (Blk w1 w.heap.size 125 #[.int .i64 x.kind,.string x.pattern.rel,.slice b x.pattern.args.length c]):=Blk.later (Blk.alloc (Blk.new _ _ _) _) a
 have K1:Hid (Blk w1 (w.heap.size+1) 125 #[.int .i64 x.kind,.string x.pattern.rel,.slice d x.pattern.args.length f]):=Blk.later (Blk.new_at yG) a
 have f0:=K0.out.at (i:=0) rfl
 have r0:=K1.out.at (i:=0) rfl
 have f1:=K0.out.at (i:=1) rfl
 have r1:=K1.out.at (i:=1) rfl
 have f2:=K0.out.at (i:=2) rfl
 have r2:=K1.out.at (i:=2) rfl
 clear a
 have hz1:=B1.out.size
 go_wp2_with fail
 go_ret
 exact ⟨rfl,(by repeat (first|refine Below.setCell ?_ (by dsimp only;omega) _|refine Below.alloc ?_ yK _|exact B1.out))⟩
theorem Zn7 (A B:Option Addr) (n c d:Nat) (ds:List Zu) (L M:List Nat) (w:World) (hn:n=ds.length) (hm:n<=9223372036854775807) (h1:Sli Yp w A ds L) (h2:Sli Yp w B ds M):
  Calls prog 134 #[.slice A n c,.slice B n d] w (Qw w):=by
 have H1:=yS h1
 have H2:=yS h2
 have HN:=yS hn
 clear h1 h2 hn
 have hne:((n:Int) != n)=false:=by simp
 go_enter func134,ntmps134
 go_wp2
 go_loopw [5] (fun i wr=>∃(k:Nat),k<=n/\i=.int .i64 k/\Hid (Below w.heap.size w wr)) (fun i _=>n - (intOf i).toNat)
 case atStart=>exact ⟨0,A6 _,rfl,Below.refl _ _⟩
 case round=>
  obtain ⟨k,hk,rfl,HB⟩:=hrel
  by_cases hlt:k<n
  .have o:k<ds.length:=by have:=HN.out;omega
   obtain ⟨b,off,cs,Lk,rfl,t,u,g,hc⟩:=H1.out.at_ o
   obtain ⟨b',a,cs',Mk,rfl,v,z,f,hc'⟩:=H2.out.at_ o
   have l:b<w.heap.size:=H1.out.lt b t
   have j:b'<w.heap.size:=H2.out.lt b' v
   have HR:=yS (Yp.keep g (Zy HB.out (fun y m=>H1.out.lt y (u y m))))
   have HR':=yS (Yp.keep f (Zy HB.out (fun y m=>H2.out.lt y (z y m))))
   generalize ds[k]=x at *
   obtain ⟨aA1,ac1,rfl⟩:=ZaY g
   obtain ⟨bA1,bc1,rfl⟩:=ZaY f
   have q0:wr.cell? ⟨b,off+k*3,none⟩=_:=(HB.out.cell (p:=⟨b,off+(k*3+0),none⟩) l).trans (hc 0 _ rfl)
   have p0:wr.cell? ⟨b',a+k*3,none⟩=_:=(HB.out.cell (p:=⟨b',a+(k*3+0),none⟩) j).trans (hc' 0 _ rfl)
   have q1:wr.cell? ⟨b,off+k*3+1,none⟩=_:=(HB.out.cell (p:=⟨b,off+(k*3+1),none⟩) l).trans (hc 1 _ rfl)
   have p1:wr.cell? ⟨b',a+k*3+1,none⟩=_:=(HB.out.cell (p:=⟨b',a+(k*3+1),none⟩) j).trans (hc' 1 _ rfl)
   have q2:wr.cell? ⟨b,off+k*3+2,none⟩=_:=(HB.out.cell (p:=⟨b,off+(k*3+2),none⟩) l).trans (hc 2 _ rfl)
   have p2:wr.cell? ⟨b',a+k*3+2,none⟩=_:=(HB.out.cell (p:=⟨b',a+(k*3+2),none⟩) j).trans (hc' 2 _ rfl)
   clear hc hc' g f
   have k0:(0:Int)<=k:=by omega
   have k1:(k:Int)<n:=by omega
   go_wp2_with fail
   go_still_tail 8,yO
   change wpList _ _ _ _ _ wr.drew
   go_wp2_with (go_at_call 200;(refine (ZqP _ _ x Lk Mk wr.drew (Yp.keep HR.out (fun _ _=>rfl)) (Yp.keep HR'.out (fun _ _=>rfl))).mono ?_;rintro e w1 ⟨rfl,q⟩;have HB1:=yS (HB.out.drew.trans (q.mono HB.out.size));clear q))
   go_roundw
   case rel=>exact ⟨k+1,yE,by go_num,HB1.out⟩
   case measure=>simp [intOf];omega
  .go_wp2
   go_ret
   exact ⟨rfl,HB.out⟩
theorem Ztn (cs ds:List Value) (x:Zg) (L M:List Nat) (w:World) (h1:XW.rep w cs x L) (h2:XW.rep w ds x M):
  Calls prog 73 #[.agg cs.toArray,.agg ds.toArray] w (Qw w):=by
 obtain ⟨c,d,u,f,g,v,rfl,_ahL,at0,an1,y,j,an2,z,k⟩:=h1
 obtain ⟨l,m,A,o,p,B,rfl,_bhL,bt0,bn1,C,q,bn2,D,t⟩:=h2
 unfold maxLen at y C z D
 have SA1:=yS j
 have SB1:=yS q
 clear j q
 have SA2:=yS k
 have SB2:=yS t
 clear k t
 go_enter func73,ntmps73
 go_wp2_with fail
 refine (Zls c l _ d m x.cond u A _ rfl yE (SA1.out.below yI) (SB1.out.below yI)).mono ?_
 rintro e w1 ⟨rfl,a⟩
 have B1:Hid (Below w.heap.size w w1):=Below.trans yI (a.mono yK)
 have K0:Hid (Blk w1 w.heap.size 76 #[.string x.name,.int .i64 x.priority,.slice c x.cond.length d,.slice f x.thn.length g]):=Blk.later (Blk.alloc (Blk.new _ _ _) _) a
 have K1:Hid (Blk w1 (w.heap.size+1) 76 #[.string x.name,.int .i64 x.priority,.slice l x.cond.length m,.slice o x.thn.length p]):=Blk.later (Blk.new_at yG) a
 have f0:=K0.out.at (i:=0) rfl
 have r0:=K1.out.at (i:=0) rfl
 have f1:=K0.out.at (i:=1) rfl
 have r1:=K1.out.at (i:=1) rfl
 have f2:=K0.out.at (i:=2) rfl
 have r2:=K1.out.at (i:=2) rfl
 have f3:=K0.out.at (i:=3) rfl
 have r3:=K1.out.at (i:=3) rfl
 clear a
 have hz1:=B1.out.size
 go_wp2_with fail
 refine (Zn7 f o _ g p x.thn v B _ rfl yE (SA2.out.below (by repeat (first|refine Below.setCell ?_ (by dsimp only;omega) _|refine Below.alloc ?_ yK _|exact B1.out))) (SB2.out.below (by repeat (first|refine Below.setCell ?_ (by dsimp only;omega) _|refine Below.alloc ?_ yK _|exact B1.out)))).mono ?_
 rintro e w2 ⟨rfl,b⟩
 have B2:Hid (Below w.heap.size w w2):=Below.trans (by repeat (first|refine Below.setCell ?_ (by dsimp only;omega) _|refine Below.alloc ?_ yK _|exact B1.out)) (b.mono yK)
 have K0:=yS (K0.out.later b)
 have K1:=yS (K1.out.later b)
 clear f0 r0 f1 r1 f2 r2 f3 r3
 have f0:=K0.out.at (i:=0) rfl
 have r0:=K1.out.at (i:=0) rfl
 have f1:=K0.out.at (i:=1) rfl
 have r1:=K1.out.at (i:=1) rfl
 have f2:=K0.out.at (i:=2) rfl
 have r2:=K1.out.at (i:=2) rfl
 have f3:=K0.out.at (i:=3) rfl
 have r3:=K1.out.at (i:=3) rfl
 clear b
 have hz2:=B2.out.size
 go_wp2_with fail
 go_ret
 exact ⟨rfl,(by repeat (first|refine Below.setCell ?_ (by dsimp only;omega) _|refine Below.alloc ?_ yK _|exact B2.out))⟩
theorem Zss (A B:Option Addr) (n c d:Nat) (ds:List Zg) (L M:List Nat) (w:World) (hn:n=ds.length) (hm:n<=9223372036854775807) (h1:Sli XW w A ds L) (h2:Sli XW w B ds M):
  Calls prog 18 #[.slice A n c,.slice B n d] w (Qw w):=by
 have H1:=yS h1
 have H2:=yS h2
 have HN:=yS hn
 clear h1 h2 hn
 have hne:((n:Int) != n)=false:=by simp
 go_enter func18,ntmps18
 go_wp2
 go_loopw [5] (fun i wr=>∃(k:Nat),k<=n/\i=.int .i64 k/\Hid (Below w.heap.size w wr)) (fun i _=>n - (intOf i).toNat)
 case atStart=>exact ⟨0,A6 _,rfl,Below.refl _ _⟩
 case round=>
  obtain ⟨k,hk,rfl,HB⟩:=hrel
  by_cases hlt:k<n
  .have o:k<ds.length:=by have:=HN.out;omega
   obtain ⟨b,off,cs,Lk,rfl,t,u,j,hc⟩:=H1.out.at_ o
   obtain ⟨b',a,cs',Mk,rfl,v,z,f,hc'⟩:=H2.out.at_ o
   have l:b<w.heap.size:=H1.out.lt b t
   have g:b'<w.heap.size:=H2.out.lt b' v
   have HR:=yS (XW.keep j (Zy HB.out (fun y m=>H1.out.lt y (u y m))))
   have HR':=yS (XW.keep f (Zy HB.out (fun y m=>H2.out.lt y (z y m))))
   generalize ds[k]=x at *
   obtain ⟨aA1,ac1,aA2,ac2,rfl⟩:=Zc2 j
   obtain ⟨bA1,bc1,bA2,bc2,rfl⟩:=Zc2 f
   have q0:wr.cell? ⟨b,off+k*4,none⟩=_:=(HB.out.cell (p:=⟨b,off+(k*4+0),none⟩) l).trans (hc 0 _ rfl)
   have p0:wr.cell? ⟨b',a+k*4,none⟩=_:=(HB.out.cell (p:=⟨b',a+(k*4+0),none⟩) g).trans (hc' 0 _ rfl)
   have q1:wr.cell? ⟨b,off+k*4+1,none⟩=_:=(HB.out.cell (p:=⟨b,off+(k*4+1),none⟩) l).trans (hc 1 _ rfl)
   have p1:wr.cell? ⟨b',a+k*4+1,none⟩=_:=(HB.out.cell (p:=⟨b',a+(k*4+1),none⟩) g).trans (hc' 1 _ rfl)
   have q2:wr.cell? ⟨b,off+k*4+2,none⟩=_:=(HB.out.cell (p:=⟨b,off+(k*4+2),none⟩) l).trans (hc 2 _ rfl)
   have p2:wr.cell? ⟨b',a+k*4+2,none⟩=_:=(HB.out.cell (p:=⟨b',a+(k*4+2),none⟩) g).trans (hc' 2 _ rfl)
   have q3:wr.cell? ⟨b,off+k*4+3,none⟩=_:=(HB.out.cell (p:=⟨b,off+(k*4+3),none⟩) l).trans (hc 3 _ rfl)
   have p3:wr.cell? ⟨b',a+k*4+3,none⟩=_:=(HB.out.cell (p:=⟨b',a+(k*4+3),none⟩) g).trans (hc' 3 _ rfl)
   clear hc hc' j f
   have k0:(0:Int)<=k:=by omega
   have k1:(k:Int)<n:=by omega
   go_wp2_with fail
   go_still_tail 8,yO
   change wpList _ _ _ _ _ wr.drew
   go_wp2_with (go_at_call 73;(refine (Ztn _ _ x Lk Mk wr.drew (XW.keep HR.out (fun _ _=>rfl)) (XW.keep HR'.out (fun _ _=>rfl))).mono ?_;rintro e w1 ⟨rfl,q⟩;have HB1:=yS (HB.out.drew.trans (q.mono HB.out.size));clear q))
   go_roundw
   case rel=>exact ⟨k+1,yE,by go_num,HB1.out⟩
   case measure=>simp [intOf];omega
  .go_wp2
   go_ret
   exact ⟨rfl,HB.out⟩
end
section
open Go.RowKit
def ZlU:Nat->Nat->List UInt8->List UInt8
 |0,_,acc=>acc
 |f+1,k,acc=>if k=0 then acc else ZlU f (k / 10) ((48+AI (k % 10))::acc)
def ZrG (k:Nat):ByteArray:=⟨(109::ZlU (k+1) k []).toArray⟩
theorem ZlJ (W:World) (z:Int):(convert 63 9 (.slice (some ⟨W.heap.size,0,none⟩) 1 1)).run prog (W.alloc (.cells #[.int .u8 z] 5))=.ok (.string ⟨#[AI z.toNat]⟩) (W.alloc (.cells #[.int .u8 z] 5)):=by
 rw [run_convert_bytes_string _ _ _ _ _ _ _ underlying63 underlying5 underlying9,run_bytesToString _ _ _ _ [z] (by simp [loadCells,go_sem])]
 rfl
theorem Zql (k:Nat) (w:World) (h0:1<=k) (h1:k<=4611686018427387904):
  Calls prog 75 #[.int .i64 k] w fun e w'=>e=.returned (.string (ZrG k))/\Below w.heap.size w w':=by
 have hle:¬((k:Int)<=0):=by omega
 have kc:=ZlJ
 go_enter func75,ntmps75
 go_wp2
 go_loopw [0,3] (fun i s wr=>∃(f q:Nat) (a:List UInt8),i=.int .i64 q/\s=.string ⟨a.toArray⟩/\q<=k/\q<f/\a.length+q<=k/\Hid (ZlU f q a=ZlU (k+1) k [])/\Hid (Below w.heap.size w wr)) (fun i _ _=>(intOf i).toNat)
 case atStart=>exact ⟨k+1,k,[],rfl,rfl,A7 _,yE,yG,yS rfl,Below.refl _ _⟩
 case round=>
  obtain ⟨f,q,a,rfl,rfl,hqk,hqf,hal,HE,HB⟩:=hrel
  by_cases hq:0<q
  .have b:(0:Int)<q:=by omega
   have HEn:Hid (ZlU (f - 1) (q / 10) ((48+AI (q % 10))::a)=ZlU (k+1) k []):=by
    rw [Hid,<-HE.out]
    obtain ⟨f,rfl⟩:∃g,f=g+1:=⟨f - 1,yE⟩
    rw [ZlU,if_neg yE];rfl
   go_wp2
   go_roundw
   case rel=>exact ⟨f - 1,q / 10,_,by go_num,congrArg Value.string (by rw [AO];simp),yE,yE,by simp only[AC];omega,HEn,HB.out.alloc HB.out.size _⟩
   case measure=>simp [intOf];omega
  .obtain rfl:q=0:=by omega
   have e:Hid (ZlU (k+1) k []=a):=by
    rw [Hid,<-HE.out]
    obtain ⟨f,rfl⟩:∃g,f=g+1:=⟨f - 1,yE⟩
    simp [ZlU]
   have b:¬(0:Int)<(0:Nat):=by omega
   go_wp2
   go_ret
   exact ⟨congrArg (fun s=>Ending.returned (.string s)) (by rw [ZrG,e.out,AO];simp),HB.out⟩
theorem ZrM:∀(f k:Nat) (a:List UInt8),(ZlU f k a).length<=a.length+f
 |0,_,a=>by simp [ZlU]
 |f+1,k,a=>by
  rw [ZlU]
  split
  .omega
  .have:=ZrM f (k / 10) ((48+AI (k % 10))::a)
   simp at this;omega
theorem ZtN (k:Nat) (h:k<=4611686018427387904):(ZrG k).size<=9223372036854775807:=by
 have:=ZrM (k+1) k []
 simp [ZrG,ByteArray.size]at this ⊢
 omega
end
section
open Go.RowKit
def mTx (k:Int):ByteArray:=ZrG k.toNat
theorem YR (k:Int) (w:World) (h0:1<=k) (h1:k<=4611686018427387904):
  Calls prog 75 #[.int .i64 k] w fun e w'=>e=.returned (.string (mTx k))/\Below w.heap.size w w':=by
 obtain ⟨n,rfl⟩:=Int.eq_ofNat_of_zero_le (show 0<=k by omega)
 exact Zql n w yE yE
theorem ZbR (k:Int) (h:k<=4611686018427387904):(mTx k).size<=9223372036854775807:=ZtN _ yE
def Xh:Int->List ByteArray->List ByteArray
 |_,[]=>[]
 |k,_::r=>mTx k::Xh (k+1) r
def Z5 (k:Int) (l:List ByteArray):Int:=k+l.length
theorem Zff (k:Int) (l:List ByteArray):(Xh k l).length=l.length:=by induction l generalizing k with|nil=>rfl|cons x r ih=>simp [Xh,ih]
theorem Qm (k:Int) (l:List ByteArray):k<=Z5 k l:=by unfold Z5;omega
theorem ZdV (k:Int) (l:List ByteArray):Z5 k l<=k+16*XD l:=by unfold Z5 XD;omega
def Zi3 (k:Int) (x:Zc):Zc:=⟨mTx (k),Xh (k+1) x.args⟩
def X1 (k:Int) (x:Zc):Int:=Z5 (k+1) x.args
def Zdr:Int->List Zc->List Zc
 |_,[]=>[]
 |k,x::r=>Zi3 k x::Zdr (X1 k x) r
def YG:Int->List Zc->Int
 |k,[]=>k
 |k,x::r=>YG (X1 k x) r
theorem Zlt (k:Int) (x:Zc):k<=X1 k x:=by
 unfold X1
 have:=Qm (k+1) x.args
 omega
theorem Zkc (k:Int) (l:List Zc):k<=YG k l:=by
 induction l generalizing k with
 |nil=>exact AJ _
 |cons x r ih=>exact A8 (Zlt k x) (ih _)
theorem Zs0 (k:Int) (x:Zc):X1 k x<=k+1+16*Xx x:=by
 unfold X1
 have:=ZdV (k+1) x.args
 simp only[Xx]
 omega
theorem Zqo (k:Int) (l:List Zc):YG k l<=k+16*Yu l:=by
 induction l generalizing k with
 |nil=>simp [YG,Yu]
 |cons x r ih=>
  have h1:=Zs0 k x
  have h2:=ih (X1 k x)
  simp only[YG,Yu,AC,AK,AL]at h2 ⊢
  omega
def Zjg (k:Int) (x:Zl):Zl:=⟨(k),⟨mTx (k+1),Xh (k+1+1) x.pattern.args⟩,mTx (Z5 (k+1+1) x.pattern.args),mTx (Z5 (k+1+1) x.pattern.args+1)⟩
def X0 (k:Int) (x:Zl):Int:=Z5 (k+1+1) x.pattern.args+1+1
def Za2:Int->List Zl->List Zl
 |_,[]=>[]
 |k,x::r=>Zjg k x::Za2 (X0 k x) r
def Yq:Int->List Zl->Int
 |k,[]=>k
 |k,x::r=>Yq (X0 k x) r
theorem Zsg (k:Int) (l:List Zl):(Za2 k l).length=l.length:=by induction l generalizing k with|nil=>rfl|cons x r ih=>simp [Za2,ih]
theorem Zlq (k:Int) (x:Zl):k<=X0 k x:=by
 unfold X0
 have:=Qm (k+1+1) x.pattern.args
 omega
theorem Zdv (k:Int) (l:List Zl):k<=Yq k l:=by
 induction l generalizing k with
 |nil=>exact AJ _
 |cons x r ih=>exact A8 (Zlq k x) (ih _)
theorem Ztc (k:Int) (x:Zl):X0 k x<=k+4+16*Ys x:=by
 unfold X0
 have:=ZdV (k+1+1) x.pattern.args
 simp only[Ys,Z6]
 omega
theorem Zkl (k:Int) (l:List Zl):Yq k l<=k+16*Z3 l:=by
 induction l generalizing k with
 |nil=>simp [Yq,Z3]
 |cons x r ih=>
  have h1:=Ztc k x
  have h2:=ih (X0 k x)
  simp only[Yq,Z3,AC,AK,AL]at h2 ⊢
  omega
def ZdL (k:Int) (x:Zu):Zu:=⟨(k),⟨mTx (k+1),Xh (k+1+1) x.pattern.args⟩⟩
def YS (k:Int) (x:Zu):Int:=Z5 (k+1+1) x.pattern.args
def XN:Int->List Zu->List Zu
 |_,[]=>[]
 |k,x::r=>ZdL k x::XN (YS k x) r
def YH:Int->List Zu->Int
 |k,[]=>k
 |k,x::r=>YH (YS k x) r
theorem Zoe (k:Int) (l:List Zu):(XN k l).length=l.length:=by induction l generalizing k with|nil=>rfl|cons x r ih=>simp [XN,ih]
theorem Ziq (k:Int) (x:Zu):k<=YS k x:=by
 unfold YS
 have:=Qm (k+1+1) x.pattern.args
 omega
theorem ZdJ (k:Int) (l:List Zu):k<=YH k l:=by
 induction l generalizing k with
 |nil=>exact AJ _
 |cons x r ih=>exact A8 (Ziq k x) (ih _)
theorem Zoa (k:Int) (x:Zu):YS k x<=k+2+16*Yt x:=by
 unfold YS
 have:=ZdV (k+1+1) x.pattern.args
 simp only[Yt,Z6]
 omega
theorem ZmW (k:Int) (l:List Zu):YH k l<=k+16*Ym l:=by
 induction l generalizing k with
 |nil=>simp [YH,Ym]
 |cons x r ih=>
  have h1:=Zoa k x
  have h2:=ih (YS k x)
  simp only[YH,Ym,AC,AK,AL]at h2 ⊢
  omega
def Zja (k:Int) (x:Zg):Zg:=⟨mTx (k),(k+1),Za2 (k+1+1) x.cond,XN (Yq (k+1+1) x.cond) x.thn⟩
def XV (k:Int) (x:Zg):Int:=YH (Yq (k+1+1) x.cond) x.thn
def Zdn:Int->List Zg->List Zg
 |_,[]=>[]
 |k,x::r=>Zja k x::Zdn (XV k x) r
def Yi:Int->List Zg->Int
 |k,[]=>k
 |k,x::r=>Yi (XV k x) r
theorem Zk3 (k:Int) (x:Zg):k<=XV k x:=by
 unfold XV
 have:=Zdv (k+1+1) x.cond
 have:=ZdJ (Yq (k+1+1) x.cond) x.thn
 omega
theorem Zjy (k:Int) (l:List Zg):k<=Yi k l:=by
 induction l generalizing k with
 |nil=>exact AJ _
 |cons x r ih=>exact A8 (Zk3 k x) (ih _)
theorem Zs1 (k:Int) (x:Zg):XV k x<=k+2+16*Yv x:=by
 unfold XV
 have:=Zkl (k+1+1) x.cond
 have:=ZmW (Yq (k+1+1) x.cond) x.thn
 simp only[Yv]
 omega
theorem Zqh (k:Int) (l:List Zg):Yi k l<=k+16*Yg l:=by
 induction l generalizing k with
 |nil=>simp [Yi,Yg]
 |cons x r ih=>
  have h1:=Zs1 k x
  have h2:=ih (XV k x)
  simp only[Yi,Yg,AC,AK,AL]at h2 ⊢
  omega
end
section
open Go.RowKit
theorem ZG8 {w w1:World}{g:Nat}{t:TypeId}{cs:Array Value}{M:List Nat}(h:Blk w g t cs) (ho:XB M w w1) (hg:g∉M):Blk w1 g t cs:=(ho.block g h.lt hg).trans h
theorem Zdb (A:Option Addr) (n c:Nat) (ds:List ByteArray) (L:List Nat) (base:Nat) (k:Int) (w:World) (hn:n=ds.length) (C:1<=k) (l:Z5 k ds<=4611686018427387904) (h:Got (Zw Zde) base [.slice A n c] ds L w):
  Calls prog 38 #[.slice A n c,.int .i64 k] w fun e w'=>e=.returned (.int .i64 (Z5 k ds))/\Got (Zw Zde) base [.slice A n c] (Xh k ds) L w'/\XB L w w':=by
 have H:=yS h
 have HN:=yS hn
 have hk1':k+n<=4611686018427387904:=by simp only[Z5]at l;omega
 clear h hn l
 go_enter func38,ntmps38
 go_wp2
 go_loopw [1,5] (fun q j wr=>∃(i:Nat) (kk:Int) (D:List ByteArray),i<=n/\j=.int .i64 i/\q=.int .i64 kk/\1<=kk/\kk+(n - i:Nat)<=4611686018427387904/\Hid (kk=k+i/\D.length=i/\D++Xh kk (ds.drop i)=Xh k ds)/\Hid (Got (Zw Zde) base [.slice A n c] (D++ds.drop i) L wr)/\Hid (XB L w wr)) (fun _ j _=>n - (intOf j).toNat)
 case atStart=>exact ⟨0,k,[],A6 _,rfl,rfl,C,yE,⟨yE,rfl,rfl⟩,H.out,XB.refl _ _⟩
 case round=>
  obtain ⟨i,kk,D,hi,rfl,rfl,h1,h2,HD,HG,HO⟩:=hrel
  by_cases hlt:i<n
  .have hil:i<ds.length:=by have:=HN.out;omega
   obtain ⟨E,o,p⟩:=HD.out
   have F:i<(D++ds.drop i).length:=by simp;omega
   obtain ⟨b,off,cs,Lk,rfl,G,t,d,u,a,g⟩:=HG.out.focus F
   obtain ⟨rfl,v,_⟩:=u
   have HEl:=yS (Zcl.start (m:=1) a rfl d)
   have f:Hid (ds.drop i=ds[i]::ds.drop (i+1)):=A9 _
   have HPut:=yS g
   have HOwn:=yS d
   have HLk:=yS t
   have HLe:=yS v
   have HDn:Hid (kk+1=k+(i+1:Nat)/\(D++[mTx kk]).length=i+1/\(D++[mTx kk])++Xh (kk+1) (ds.drop (i+1))=Xh k ds):=by
    refine ⟨yE,by simp [o],?_⟩
    rw [<-p,f.out];simp [Xh]
   have x:Hid ((D++ds.drop i).set i (mTx kk)=(D++[mTx kk])++ds.drop (i+1)):=by
    rw [Hid,AD _ _ yE,show i - D.length=0 by omega,f.out,AE];simp
   clear g d t a E o p v
   simp only[show Zde.size=1 from rfl,AH]at HEl HPut
   go_wp2_with (go_at_call 75;refine (YR _ _ yE yE).mono ?_;rintro e w1 ⟨rfl,z⟩;have E1:=yS (HEl.out.later z);have q1:=E1.out.at (j:=0) rfl;have z1:=E1.out.frozen (off+i);clear z;simp only[A0]at q1)
   have E2:=yS (E1.out.set 0 yE (.string (mTx kk)))
   have B:=yS (X2 HOwn.out E2.out.plain E2.out.only (by rw [HLe.out];simp))
   have HGn:=yS (HPut.out _ _ (mTx kk) E2.out.only E2.out.cells E2.out.rest (by rw [HLe.out];exact ⟨rfl,rfl,ZbR _ yE⟩) B.out)
   have HOn:=yS (HO.out.trans (E2.out.only.mono (fun y m=>by rcases AF.1 m with rfl|m;exact G;exact HLk.out y m)))
   rw [x.out]at HGn
   simp only[A0]at HGn HOn
   clear E2 B HPut
   go_wp2_with fail
   go_roundw
   case rel=>exact ⟨i+1,kk+1,_,yE,by go_num,rfl,yE,yE,HDn,HGn,HOn⟩
   case measure=>simp [intOf];omega
  .obtain rfl:i=n:=by omega
   have hf:Hid (Z5 k ds=kk/\D=Xh k ds):=by
    obtain ⟨h1,h2,h3⟩:=HD.out
    have e:ds.drop i=[]:=AB (by have:=HN.out;omega)
    rw [e]at h3
    simp [Xh]at h3
    exact ⟨by have:=HN.out;simp only[Z5];omega,h3⟩
   have e:Hid (ds.drop i=[]):=AB (by have:=HN.out;omega)
   rw [e.out,AG]at HG
   go_wp2
   go_ret
   exact ⟨YK hf.out.1.symm,by rw [<-hf.out.2];exact HG.out,HO.out⟩
theorem Zod (A:Option Addr) (n c:Nat) (ds:List Zc) (L:List Nat) (base:Nat) (k:Int) (w:World) (hn:n=ds.length) (hm:n<=9223372036854775807) (P:1<=k) (v:YG k ds<=4611686018427387904) (h:Got (Zw Z8) base [.slice A n c] ds L w):
  Calls prog 22 #[.slice A n c,.int .i64 k] w fun e w'=>e=.returned (.int .i64 (YG k ds))/\Got (Zw Z8) base [.slice A n c] (Zdr k ds) L w'/\XB L w w':=by
 have H:=yS h
 have HN:=yS hn
 have HK:=yS v
 clear h hn v
 go_enter func22,ntmps22
 go_wp2
 go_loopw [1,5] (fun q j wr=>∃(i:Nat) (kk:Int) (D:List Zc),i<=n/\j=.int .i64 i/\q=.int .i64 kk/\1<=kk/\Hid (YG kk (ds.drop i)=YG k ds/\D.length=i/\D++Zdr kk (ds.drop i)=Zdr k ds)/\Hid (Got (Zw Z8) base [.slice A n c] (D++ds.drop i) L wr)/\Hid (XB L w wr)) (fun _ j _=>n - (intOf j).toNat)
 case atStart=>exact ⟨0,k,[],A6 _,rfl,rfl,P,⟨rfl,rfl,rfl⟩,H.out,XB.refl _ _⟩
 case round=>
  obtain ⟨i,kk,D,hi,rfl,rfl,h1,HD,HG,HO⟩:=hrel
  by_cases hlt:i<n
  .have hil:i<ds.length:=by have:=HN.out;omega
   obtain ⟨l,t,z⟩:=HD.out
   have Q:i<(D++ds.drop i).length:=by simp;omega
   obtain ⟨b,off,cs,Lk,rfl,R,B,d,g,f,o⟩:=HG.out.focus Q
   have a:Hid (ds.drop i=ds[i]::ds.drop (i+1)):=A9 _
   have C:(D++ds.drop i)[i]=ds[i]:=by
    rw [AM yE];simp [t]
   rw [C]at g
   clear C
   generalize ds[i]=x at g a
   have S:Hid (X1 kk x<=4611686018427387904):=by
    have:=Zkc (X1 kk x) (ds.drop (i+1))
    rw [a.out]at l
    have hk:=HK.out
    rw [<-l]at hk
    exact A8 this hk
   have E:=S.out
   have F:=Zlt kk x
   unfold X1 at E F
   have HDn:Hid (YG (X1 kk x) (ds.drop (i+1))=YG k ds/\(D++[Zi3 kk x]).length=i+1/\(D++[Zi3 kk x])++Zdr (X1 kk x) (ds.drop (i+1))=Zdr k ds):=by
    refine ⟨by rw [<-l,a.out];rfl,by simp [t],?_⟩
    rw [<-z,a.out];simp [Zdr]
   have G:Hid ((D++ds.drop i).set i (Zi3 kk x)=(D++[Zi3 kk x])++ds.drop (i+1)):=by
    rw [Hid,AD _ _ yE,show i - D.length=0 by omega,a.out,AE];simp
   obtain ⟨A1,c1,L1,rfl,hLL,t0,n1,m1,s1⟩:=g
   unfold maxLen at m1
   subst Lk
   have HEl:=yS (Zcl.start (m:=2) f rfl d)
   have hbn:=yS d.head
   have G1:Hid (Got (Zw Zde) base [.slice A1 x.args.length c1] x.args L1 wr):=⟨⟨A1,c1,rfl,n1,(by unfold maxLen;omega),s1⟩,d.tail⟩
   have I:Hid (b∉L1):=fun m=>d.head (by simp [m])
   have T:Hid (∀y∈L1,y∈L1):=fun y m=>by simp [m]
   clear s1
   have HPut:=yS o
   have HOwn:=yS d
   have HLk:=yS B
   clear o d B f l t z
   simp only[show Z8.size=2 from rfl]at HEl HPut
   have q0:=HEl.out.at (j:=0) rfl
   have z0:=HEl.out.frozen (off+i*2)
   have q1:=HEl.out.at (j:=1) rfl
   have z1:=HEl.out.frozen (off+i*2+1)
   simp only[A0]at q0
   have gm0:(0:Int)<=0:=by omega
   have mono_x_args:=Qm (kk+1) x.args
   go_wp2_with fail
   refine (YR _ _ yE yE).mono ?_
   rintro e w1 ⟨rfl,u⟩
   have HEl:=yS (HEl.out.later u)
   have G1:=yS (G1.out.later u)
   clear u
   clear q0 z0 q1 z1
   have q0:=HEl.out.at (j:=0) rfl
   have z0:=HEl.out.frozen (off+i*2)
   have q1:=HEl.out.at (j:=1) rfl
   have z1:=HEl.out.frozen (off+i*2+1)
   simp only[A0]at q0
   go_wp2_with fail
   have G1:=yS (G1.out.setFar (p:=⟨b,off+i*2+0,none⟩) I.out (.string (mTx (kk))))
   refine (Zdb A1 _ c1 x.args L1 base _ _ rfl yE yE G1.out).mono ?_
   rintro e w2 ⟨rfl,g2,J⟩
   have HEl:=yS ((HEl.out.set 0 yE (.string (mTx (kk)))).marked J T.out I.out)
   have G1:=yS g2
   clear g2 J
   clear q0 z0 q1 z1
   have q0:=HEl.out.at (j:=0) rfl
   have z0:=HEl.out.frozen (off+i*2)
   have q1:=HEl.out.at (j:=1) rfl
   have z1:=HEl.out.frozen (off+i*2+1)
   simp only[A0]at q0
   obtain ⟨K,M,N⟩:=ZH G1.out.rep
   have O:=yS (X2 HOwn.out HEl.out.plain HEl.out.only (fun y m=>by (try simp only[AA]at m)<;>(exact G1.out.own.plain y m)))
   have HGn:=yS (HPut.out _ _ (Zi3 kk x) HEl.out.only HEl.out.cells HEl.out.rest ⟨A1,c1,L1,by simp [Zi3,Zff],rfl,ZbR _ yE,K,M,N⟩ O.out)
   have HOn:=yS (HO.out.trans (HEl.out.only.mono (fun y m=>by rcases AF.1 m with rfl|m;exact R;exact HLk.out y m)))
   rw [G.out]at HGn
   try simp only[A0]at HGn HOn
   clear HEl O HPut G1 K M N
   go_wp2_with fail
   go_roundw
   case rel=>exact ⟨i+1,X1 kk x,_,yE,by go_num,rfl,by unfold X1;omega,HDn,HGn,HOn⟩
   case measure=>simp [intOf];omega
  .obtain rfl:i=n:=by omega
   have e:Hid (ds.drop i=[]):=AB (by have:=HN.out;omega)
   have hf:Hid (YG k ds=kk/\D=Zdr k ds):=by
    obtain ⟨h1,h2,h3⟩:=HD.out
    rw [e.out]at h3 h1
    simp [Zdr]at h3
    exact ⟨h1.symm,h3⟩
   rw [e.out,AG]at HG
   go_wp2
   go_ret
   exact ⟨YK hf.out.1.symm,by rw [<-hf.out.2];exact HG.out,HO.out⟩
def ZID (k:Int) (x:Zc):Zc:=⟨x.rel,Xh (k) x.args⟩
def ZG2 (k:Int) (x:Zc):Int:=Z5 (k) x.args
theorem ZIb (k:Int) (x:Zc):k<=ZG2 k x:=by
 unfold ZG2
 have:=Qm (k) x.args
 omega
theorem ZH8 (k:Int) (x:Zc):ZG2 k x<=k+16*Xx x:=by
 unfold ZG2
 have:=ZdV (k) x.args
 simp only[Xx]
 omega
theorem ZIk (x:Zc) (A1:Option Addr) (c1:Nat) (L1:List Nat) (base:Nat) (k:Int) (w:World) (hk0:1<=k) (b:ZG2 k x<=4611686018427387904) (l1:x.args.length<=9223372036854775807) (g1:Got (Zw Zde) base [.slice A1 x.args.length c1] (x.args) L1 w):
  Calls prog 32 #[.agg #[.string x.rel,.slice A1 x.args.length c1],.int .i64 k] w fun e w'=>e=.returned (.int .i64 (ZG2 k x))/\Got (Zw Zde) base [.slice A1 x.args.length c1] (Xh (k) x.args) L1 w'/\XB (L1) w w':=by
 have c:Hid (w.heap.size∉L1):=fun m=>Nat.lt_irrefl _ (g1.lt _ m)
 have G1:=yS (g1.alloc (.cells #[.string x.rel,.slice A1 x.args.length c1] 53))
 have K0:Hid (Blk (w.alloc (.cells #[.string x.rel,.slice A1 x.args.length c1] 53)) w.heap.size 53 #[.string x.rel,.slice A1 x.args.length c1]):=Blk.new _ _ _
 have O0:Hid (XB (L1) w (w.alloc (.cells #[.string x.rel,.slice A1 x.args.length c1] 53))):=XB.of_below ((Below.refl _ _).alloc (A7 _) _) _
 clear g1
 unfold ZG2 at b
 have:=Qm (k) x.args
 go_enter func32,ntmps32
 go_wp2_with fail
 refine (Zdb A1 _ c1 x.args L1 base _ _ rfl yE yE G1.out).mono ?_
 rintro e w1 ⟨rfl,h1,a⟩
 have G1:=yS h1
 have K1:=yS (ZG8 K0.out a c.out)
 have f0:=K1.out.at (i:=0) rfl
 have f1:=K1.out.at (i:=1) rfl
 have O1:Hid (XB (L1) w w1):=O0.out.trans (a.mono (fun y m=>by first|exact m|simp [m]|(simp only[AA]at m ⊢;rcases m with m|m<;>simp [m])))
 clear a h1
 go_wp2_with fail
 go_ret
 exact ⟨YK rfl,G1.out,O1.out⟩
theorem ZIc (cs:List Value) (x:Zc) (L:List Nat) (base:Nat) (k:Int) (w:World) (b:1<=k) (c:ZG2 k x<=4611686018427387904) (h:Got Z8 base cs x L w):
  Calls prog 32 #[.agg cs.toArray,.int .i64 k] w fun e w'=>e=.returned (.int .i64 (ZG2 k x))/\Got Z8 base cs (ZID k x) L w'/\XB L w w':=by
 obtain ⟨a,ho⟩:=h
 obtain ⟨A1,c1,L1,rfl,hLL,t0,n1,m1,s1⟩:=a
 subst L
 refine (ZIk x A1 c1 L1 base k w b c (by unfold maxLen at m1;omega) ⟨⟨A1,c1,rfl,n1,m1,s1⟩,ho⟩ ).mono ?_
 rintro e w' ⟨rfl,g1,on⟩
 obtain ⟨d,f,g⟩:=ZH g1.rep
 refine ⟨rfl,⟨⟨A1,c1,L1,by simp [ZID,Zff],rfl,t0,d,f,g⟩,ho.nodup,ho.ge,fun y m=>?_⟩,on⟩
 try simp only[AA]at m
 exact g1.own.plain y m
theorem Zik (A:Option Addr) (n c:Nat) (ds:List Zl) (L:List Nat) (base:Nat) (k:Int) (w:World) (hn:n=ds.length) (hm:n<=9223372036854775807) (R:1<=k) (C:Yq k ds<=4611686018427387904) (h:Got (Zw YL) base [.slice A n c] ds L w):
  Calls prog 23 #[.slice A n c,.int .i64 k] w fun e w'=>e=.returned (.int .i64 (Yq k ds))/\Got (Zw YL) base [.slice A n c] (Za2 k ds) L w'/\XB L w w':=by
 have H:=yS h
 have HN:=yS hn
 have HK:=yS C
 clear h hn C
 go_enter func23,ntmps23
 go_wp2
 go_loopw [1,5] (fun q j wr=>∃(i:Nat) (kk:Int) (D:List Zl),i<=n/\j=.int .i64 i/\q=.int .i64 kk/\1<=kk/\Hid (Yq kk (ds.drop i)=Yq k ds/\D.length=i/\D++Za2 kk (ds.drop i)=Za2 k ds)/\Hid (Got (Zw YL) base [.slice A n c] (D++ds.drop i) L wr)/\Hid (XB L w wr)) (fun _ j _=>n - (intOf j).toNat)
 case atStart=>exact ⟨0,k,[],A6 _,rfl,rfl,R,⟨rfl,rfl,rfl⟩,H.out,XB.refl _ _⟩
 case round=>
  obtain ⟨i,kk,D,hi,rfl,rfl,h1,HD,HG,HO⟩:=hrel
  by_cases hlt:i<n
  .have hil:i<ds.length:=by have:=HN.out;omega
   obtain ⟨o,u,E⟩:=HD.out
   have S:i<(D++ds.drop i).length:=by simp;omega
   obtain ⟨b,off,cs,Lk,rfl,T,F,d,g,f,t⟩:=HG.out.focus S
   have a:Hid (ds.drop i=ds[i]::ds.drop (i+1)):=A9 _
   have G:(D++ds.drop i)[i]=ds[i]:=by
    rw [AM yE];simp [u]
   rw [G]at g
   clear G
   generalize ds[i]=x at g a
   have U:Hid (X0 kk x<=4611686018427387904):=by
    have:=Zdv (X0 kk x) (ds.drop (i+1))
    rw [a.out]at o
    have hk:=HK.out
    rw [<-o]at hk
    exact A8 this hk
   have I:=U.out
   have J:=Zlq kk x
   unfold X0 at I J
   have HDn:Hid (Yq (X0 kk x) (ds.drop (i+1))=Yq k ds/\(D++[Zjg kk x]).length=i+1/\(D++[Zjg kk x])++Za2 (X0 kk x) (ds.drop (i+1))=Za2 k ds):=by
    refine ⟨by rw [<-o,a.out];rfl,by simp [u],?_⟩
    rw [<-E,a.out];simp [Za2]
   have K:Hid ((D++ds.drop i).set i (Zjg kk x)=(D++[Zjg kk x])++ds.drop (i+1)):=by
    rw [Hid,AD _ _ yE,show i - D.length=0 by omega,a.out,AE];simp
   obtain ⟨A1,c1,L1,rfl,hLL,t0,t1,t2,n1,m1,s1⟩:=g
   unfold maxLen at m1
   subst Lk
   have HEl:=yS (Zcl.start (m:=5) f rfl d)
   have hbn:=yS d.head
   have G1:Hid (Got (Zw Zde) base [.slice A1 x.pattern.args.length c1] x.pattern.args L1 wr):=⟨⟨A1,c1,rfl,n1,(by unfold maxLen;omega),s1⟩,d.tail⟩
   have l:Hid (b∉L1):=fun m=>d.head (by simp [m])
   have V:Hid (∀y∈L1,y∈L1):=fun y m=>by simp [m]
   clear s1
   have HPut:=yS t
   have HOwn:=yS d
   have HLk:=yS F
   clear t d F f o u E
   simp only[show YL.size=5 from rfl]at HEl HPut
   have q0:=HEl.out.at (j:=0) rfl
   have z0:=HEl.out.frozen (off+i*5)
   have q1:=HEl.out.at (j:=1) rfl
   have z1:=HEl.out.frozen (off+i*5+1)
   have q2:=HEl.out.at (j:=2) rfl
   have z2:=HEl.out.frozen (off+i*5+2)
   have q3:=HEl.out.at (j:=3) rfl
   have z3:=HEl.out.frozen (off+i*5+3)
   have q4:=HEl.out.at (j:=4) rfl
   have z4:=HEl.out.frozen (off+i*5+4)
   simp only[A0]at q0
   have gm0:(0:Int)<=0:=by omega
   have mono_x_pattern_args:=Qm (kk+1+1) x.pattern.args
   go_wp2_with fail
   refine (YR _ _ yE yE).mono ?_
   rintro e w1 ⟨rfl,v⟩
   have HEl:=yS ((HEl.out.set 0 yE (.int .i64 (kk))).later v)
   have G1:=yS ((G1.out.setFar (p:=⟨b,off+i*5+0,none⟩) l.out (.int .i64 (kk))).later v)
   clear v
   clear q0 z0 q1 z1 q2 z2 q3 z3 q4 z4
   have q0:=HEl.out.at (j:=0) rfl
   have z0:=HEl.out.frozen (off+i*5)
   have q1:=HEl.out.at (j:=1) rfl
   have z1:=HEl.out.frozen (off+i*5+1)
   have q2:=HEl.out.at (j:=2) rfl
   have z2:=HEl.out.frozen (off+i*5+2)
   have q3:=HEl.out.at (j:=3) rfl
   have z3:=HEl.out.frozen (off+i*5+3)
   have q4:=HEl.out.at (j:=4) rfl
   have z4:=HEl.out.frozen (off+i*5+4)
   simp only[A0]at q0
   go_wp2_with fail
   have G1:=yS (G1.out.setFar (p:=⟨b,off+i*5+1,none⟩) l.out (.string (mTx (kk+1))))
   refine (Zdb A1 _ c1 x.pattern.args L1 base _ _ rfl yE yE G1.out).mono ?_
   rintro e w2 ⟨rfl,g2,M⟩
   have HEl:=yS ((HEl.out.set 1 yE (.string (mTx (kk+1)))).marked M V.out l.out)
   have G1:=yS g2
   clear g2 M
   clear q0 z0 q1 z1 q2 z2 q3 z3 q4 z4
   have q0:=HEl.out.at (j:=0) rfl
   have z0:=HEl.out.frozen (off+i*5)
   have q1:=HEl.out.at (j:=1) rfl
   have z1:=HEl.out.frozen (off+i*5+1)
   have q2:=HEl.out.at (j:=2) rfl
   have z2:=HEl.out.frozen (off+i*5+2)
   have q3:=HEl.out.at (j:=3) rfl
   have z3:=HEl.out.frozen (off+i*5+3)
   have q4:=HEl.out.at (j:=4) rfl
   have z4:=HEl.out.frozen (off+i*5+4)
   simp only[A0]at q0
   go_wp2_with fail
   refine (YR _ _ yE yE).mono ?_
   rintro e w3 ⟨rfl,z⟩
   have HEl:=yS (HEl.out.later z)
   have G1:=yS (G1.out.later z)
   clear z
   clear q0 z0 q1 z1 q2 z2 q3 z3 q4 z4
   have q0:=HEl.out.at (j:=0) rfl
   have z0:=HEl.out.frozen (off+i*5)
   have q1:=HEl.out.at (j:=1) rfl
   have z1:=HEl.out.frozen (off+i*5+1)
   have q2:=HEl.out.at (j:=2) rfl
   have z2:=HEl.out.frozen (off+i*5+2)
   have q3:=HEl.out.at (j:=3) rfl
   have z3:=HEl.out.frozen (off+i*5+3)
   have q4:=HEl.out.at (j:=4) rfl
   have z4:=HEl.out.frozen (off+i*5+4)
   simp only[A0]at q0
   go_wp2_with fail
   refine (YR _ _ yE yE).mono ?_
   rintro e w4 ⟨rfl,B⟩
   have HEl:=yS ((HEl.out.set 3 yE (.string (mTx (Z5 (kk+1+1) x.pattern.args)))).later B)
   have G1:=yS ((G1.out.setFar (p:=⟨b,off+i*5+3,none⟩) l.out (.string (mTx (Z5 (kk+1+1) x.pattern.args)))).later B)
   clear B
   clear q0 z0 q1 z1 q2 z2 q3 z3 q4 z4
   have q0:=HEl.out.at (j:=0) rfl
   have z0:=HEl.out.frozen (off+i*5)
   have q1:=HEl.out.at (j:=1) rfl
   have z1:=HEl.out.frozen (off+i*5+1)
   have q2:=HEl.out.at (j:=2) rfl
   have z2:=HEl.out.frozen (off+i*5+2)
   have q3:=HEl.out.at (j:=3) rfl
   have z3:=HEl.out.frozen (off+i*5+3)
   have q4:=HEl.out.at (j:=4) rfl
   have z4:=HEl.out.frozen (off+i*5+4)
   simp only[A0]at q0
   have HEl:=yS (HEl.out.set 4 yE (.string (mTx (Z5 (kk+1+1) x.pattern.args+1))))
   have G1:=yS (G1.out.setFar (p:=⟨b,off+i*5+4,none⟩) l.out (.string (mTx (Z5 (kk+1+1) x.pattern.args+1))))
   obtain ⟨N,O,P⟩:=ZH G1.out.rep
   have Q:=yS (X2 HOwn.out HEl.out.plain HEl.out.only (fun y m=>by (try simp only[AA]at m)<;>(exact G1.out.own.plain y m)))
   have HGn:=yS (HPut.out _ _ (Zjg kk x) HEl.out.only HEl.out.cells HEl.out.rest ⟨A1,c1,L1,by simp [Zjg,Zff],rfl,ZbR _ yE,ZbR _ yE,ZbR _ yE,N,O,P⟩ Q.out)
   have HOn:=yS (HO.out.trans (HEl.out.only.mono (fun y m=>by rcases AF.1 m with rfl|m;exact T;exact HLk.out y m)))
   rw [K.out]at HGn
   try simp only[A0]at HGn HOn
   clear HEl Q HPut G1 N O P
   go_wp2_with fail
   go_roundw
   case rel=>exact ⟨i+1,X0 kk x,_,yE,by go_num,rfl,by unfold X0;omega,HDn,HGn,HOn⟩
   case measure=>simp [intOf];omega
  .obtain rfl:i=n:=by omega
   have e:Hid (ds.drop i=[]):=AB (by have:=HN.out;omega)
   have hf:Hid (Yq k ds=kk/\D=Za2 k ds):=by
    obtain ⟨h1,h2,h3⟩:=HD.out
    rw [e.out]at h3 h1
    simp [Za2]at h3
    exact ⟨h1.symm,h3⟩
   rw [e.out,AG]at HG
   go_wp2
   go_ret
   exact ⟨YK hf.out.1.symm,by rw [<-hf.out.2];exact HG.out,HO.out⟩
theorem ZlM (A:Option Addr) (n c:Nat) (ds:List Zu) (L:List Nat) (base:Nat) (k:Int) (w:World) (hn:n=ds.length) (hm:n<=9223372036854775807) (P:1<=k) (z:YH k ds<=4611686018427387904) (h:Got (Zw Yp) base [.slice A n c] ds L w):
  Calls prog 76 #[.slice A n c,.int .i64 k] w fun e w'=>e=.returned (.int .i64 (YH k ds))/\Got (Zw Yp) base [.slice A n c] (XN k ds) L w'/\XB L w w':=by
 have H:=yS h
 have HN:=yS hn
 have HK:=yS z
 clear h hn z
 go_enter func76,ntmps76
 go_wp2
 go_loopw [1,5] (fun q j wr=>∃(i:Nat) (kk:Int) (D:List Zu),i<=n/\j=.int .i64 i/\q=.int .i64 kk/\1<=kk/\Hid (YH kk (ds.drop i)=YH k ds/\D.length=i/\D++XN kk (ds.drop i)=XN k ds)/\Hid (Got (Zw Yp) base [.slice A n c] (D++ds.drop i) L wr)/\Hid (XB L w wr)) (fun _ j _=>n - (intOf j).toNat)
 case atStart=>exact ⟨0,k,[],A6 _,rfl,rfl,P,⟨rfl,rfl,rfl⟩,H.out,XB.refl _ _⟩
 case round=>
  obtain ⟨i,kk,D,hi,rfl,rfl,h1,HD,HG,HO⟩:=hrel
  by_cases hlt:i<n
  .have hil:i<ds.length:=by have:=HN.out;omega
   obtain ⟨l,t,B⟩:=HD.out
   have Q:i<(D++ds.drop i).length:=by simp;omega
   obtain ⟨b,off,cs,Lk,rfl,R,C,d,g,f,o⟩:=HG.out.focus Q
   have a:Hid (ds.drop i=ds[i]::ds.drop (i+1)):=A9 _
   have E:(D++ds.drop i)[i]=ds[i]:=by
    rw [AM yE];simp [t]
   rw [E]at g
   clear E
   generalize ds[i]=x at g a
   have S:Hid (YS kk x<=4611686018427387904):=by
    have:=ZdJ (YS kk x) (ds.drop (i+1))
    rw [a.out]at l
    have hk:=HK.out
    rw [<-l]at hk
    exact A8 this hk
   have F:=S.out
   have G:=Ziq kk x
   unfold YS at F G
   have HDn:Hid (YH (YS kk x) (ds.drop (i+1))=YH k ds/\(D++[ZdL kk x]).length=i+1/\(D++[ZdL kk x])++XN (YS kk x) (ds.drop (i+1))=XN k ds):=by
    refine ⟨by rw [<-l,a.out];rfl,by simp [t],?_⟩
    rw [<-B,a.out];simp [XN]
   have I:Hid ((D++ds.drop i).set i (ZdL kk x)=(D++[ZdL kk x])++ds.drop (i+1)):=by
    rw [Hid,AD _ _ yE,show i - D.length=0 by omega,a.out,AE];simp
   obtain ⟨A1,c1,L1,rfl,hLL,t0,n1,m1,s1⟩:=g
   unfold maxLen at m1
   subst Lk
   have HEl:=yS (Zcl.start (m:=3) f rfl d)
   have hbn:=yS d.head
   have G1:Hid (Got (Zw Zde) base [.slice A1 x.pattern.args.length c1] x.pattern.args L1 wr):=⟨⟨A1,c1,rfl,n1,(by unfold maxLen;omega),s1⟩,d.tail⟩
   have u:Hid (b∉L1):=fun m=>d.head (by simp [m])
   have T:Hid (∀y∈L1,y∈L1):=fun y m=>by simp [m]
   clear s1
   have HPut:=yS o
   have HOwn:=yS d
   have HLk:=yS C
   clear o d C f l t B
   simp only[show Yp.size=3 from rfl]at HEl HPut
   have q0:=HEl.out.at (j:=0) rfl
   have z0:=HEl.out.frozen (off+i*3)
   have q1:=HEl.out.at (j:=1) rfl
   have z1:=HEl.out.frozen (off+i*3+1)
   have q2:=HEl.out.at (j:=2) rfl
   have z2:=HEl.out.frozen (off+i*3+2)
   simp only[A0]at q0
   have gm0:(0:Int)<=0:=by omega
   have mono_x_pattern_args:=Qm (kk+1+1) x.pattern.args
   go_wp2_with fail
   refine (YR _ _ yE yE).mono ?_
   rintro e w1 ⟨rfl,v⟩
   have HEl:=yS ((HEl.out.set 0 yE (.int .i64 (kk))).later v)
   have G1:=yS ((G1.out.setFar (p:=⟨b,off+i*3+0,none⟩) u.out (.int .i64 (kk))).later v)
   clear v
   clear q0 z0 q1 z1 q2 z2
   have q0:=HEl.out.at (j:=0) rfl
   have z0:=HEl.out.frozen (off+i*3)
   have q1:=HEl.out.at (j:=1) rfl
   have z1:=HEl.out.frozen (off+i*3+1)
   have q2:=HEl.out.at (j:=2) rfl
   have z2:=HEl.out.frozen (off+i*3+2)
   simp only[A0]at q0
   go_wp2_with fail
   have G1:=yS (G1.out.setFar (p:=⟨b,off+i*3+1,none⟩) u.out (.string (mTx (kk+1))))
   refine (Zdb A1 _ c1 x.pattern.args L1 base _ _ rfl yE yE G1.out).mono ?_
   rintro e w2 ⟨rfl,g2,J⟩
   have HEl:=yS ((HEl.out.set 1 yE (.string (mTx (kk+1)))).marked J T.out u.out)
   have G1:=yS g2
   clear g2 J
   clear q0 z0 q1 z1 q2 z2
   have q0:=HEl.out.at (j:=0) rfl
   have z0:=HEl.out.frozen (off+i*3)
   have q1:=HEl.out.at (j:=1) rfl
   have z1:=HEl.out.frozen (off+i*3+1)
   have q2:=HEl.out.at (j:=2) rfl
   have z2:=HEl.out.frozen (off+i*3+2)
   simp only[A0]at q0
   obtain ⟨K,M,N⟩:=ZH G1.out.rep
   have O:=yS (X2 HOwn.out HEl.out.plain HEl.out.only (fun y m=>by (try simp only[AA]at m)<;>(exact G1.out.own.plain y m)))
   have HGn:=yS (HPut.out _ _ (ZdL kk x) HEl.out.only HEl.out.cells HEl.out.rest ⟨A1,c1,L1,by simp [ZdL,Zff],rfl,ZbR _ yE,K,M,N⟩ O.out)
   have HOn:=yS (HO.out.trans (HEl.out.only.mono (fun y m=>by rcases AF.1 m with rfl|m;exact R;exact HLk.out y m)))
   rw [I.out]at HGn
   try simp only[A0]at HGn HOn
   clear HEl O HPut G1 K M N
   go_wp2_with fail
   go_roundw
   case rel=>exact ⟨i+1,YS kk x,_,yE,by go_num,rfl,by unfold YS;omega,HDn,HGn,HOn⟩
   case measure=>simp [intOf];omega
  .obtain rfl:i=n:=by omega
   have e:Hid (ds.drop i=[]):=AB (by have:=HN.out;omega)
   have hf:Hid (YH k ds=kk/\D=XN k ds):=by
    obtain ⟨h1,h2,h3⟩:=HD.out
    rw [e.out]at h3 h1
    simp [XN]at h3
    exact ⟨h1.symm,h3⟩
   rw [e.out,AG]at HG
   go_wp2
   go_ret
   exact ⟨YK hf.out.1.symm,by rw [<-hf.out.2];exact HG.out,HO.out⟩
theorem ZoI (A:Option Addr) (n c:Nat) (ds:List Zg) (L:List Nat) (base:Nat) (k:Int) (w:World) (hn:n=ds.length) (hm:n<=9223372036854775807) (W:1<=k) (G:Yi k ds<=4611686018427387904) (h:Got (Zw XW) base [.slice A n c] ds L w):
  Calls prog 21 #[.slice A n c,.int .i64 k] w fun e w'=>e=.returned (.int .i64 (Yi k ds))/\Got (Zw XW) base [.slice A n c] (Zdn k ds) L w'/\XB L w w':=by
 have H:=yS h
 have HN:=yS hn
 have HK:=yS G
 clear h hn G
 go_enter func21,ntmps21
 go_wp2
 go_loopw [1,5] (fun q j wr=>∃(i:Nat) (kk:Int) (D:List Zg),i<=n/\j=.int .i64 i/\q=.int .i64 kk/\1<=kk/\Hid (Yi kk (ds.drop i)=Yi k ds/\D.length=i/\D++Zdn kk (ds.drop i)=Zdn k ds)/\Hid (Got (Zw XW) base [.slice A n c] (D++ds.drop i) L wr)/\Hid (XB L w wr)) (fun _ j _=>n - (intOf j).toNat)
 case atStart=>exact ⟨0,k,[],A6 _,rfl,rfl,W,⟨rfl,rfl,rfl⟩,H.out,XB.refl _ _⟩
 case round=>
  obtain ⟨i,kk,D,hi,rfl,rfl,h1,HD,HG,HO⟩:=hrel
  by_cases hlt:i<n
  .have hil:i<ds.length:=by have:=HN.out;omega
   obtain ⟨o,v,I⟩:=HD.out
   have X:i<(D++ds.drop i).length:=by simp;omega
   obtain ⟨b,off,cs,Lk,rfl,Y,J,a,g,f,u⟩:=HG.out.focus X
   have d:Hid (ds.drop i=ds[i]::ds.drop (i+1)):=A9 _
   have K:(D++ds.drop i)[i]=ds[i]:=by
    rw [AM yE];simp [v]
   rw [K]at g
   clear K
   generalize ds[i]=x at g d
   have Z:Hid (XV kk x<=4611686018427387904):=by
    have:=Zjy (XV kk x) (ds.drop (i+1))
    rw [d.out]at o
    have hk:=HK.out
    rw [<-o]at hk
    exact A8 this hk
   have M:=Z.out
   have N:=Zk3 kk x
   unfold XV at M N
   have HDn:Hid (Yi (XV kk x) (ds.drop (i+1))=Yi k ds/\(D++[Zja kk x]).length=i+1/\(D++[Zja kk x])++Zdn (XV kk x) (ds.drop (i+1))=Zdn k ds):=by
    refine ⟨by rw [<-o,d.out];rfl,by simp [v],?_⟩
    rw [<-I,d.out];simp [Zdn]
   have O:Hid ((D++ds.drop i).set i (Zja kk x)=(D++[Zja kk x])++ds.drop (i+1)):=by
    rw [Hid,AD _ _ yE,show i - D.length=0 by omega,d.out,AE];simp
   obtain ⟨A1,c1,L1,A2,c2,L2,rfl,aa,t0,n1,m1,s1,n2,m2,s2⟩:=g
   unfold maxLen at m1 m2
   subst aa
   have HEl:=yS (Zcl.start (m:=4) f rfl a)
   have hbn:=yS a.head
   have G1:Hid (Got (Zw YL) base [.slice A1 x.cond.length c1] x.cond L1 wr):=⟨⟨A1,c1,rfl,n1,(by unfold maxLen;omega),s1⟩,a.tail.left⟩
   have z:Hid (b∉L1):=fun m=>a.head (by simp [m])
   have ab:Hid (∀y∈L1,y∈L1++L2):=fun y m=>by simp [m]
   have l:Hid (∀y∈L1,y∉L2):=fun y m m'=>a.tail.apart y m (by simp [m'])
   have B:Hid (∀y∈L2,y∉L1):=fun y m m'=>l.out y m' m
   have G2:Hid (Got (Zw Yp) base [.slice A2 x.thn.length c2] x.thn L2 wr):=⟨⟨A2,c2,rfl,n2,(by unfold maxLen;omega),s2⟩,a.tail.right⟩
   have C:Hid (b∉L2):=fun m=>a.head (by simp [m])
   have ac:Hid (∀y∈L2,y∈L1++L2):=fun y m=>by simp [m]
   clear s1
   clear s2
   have HPut:=yS u
   have HOwn:=yS a
   have HLk:=yS J
   clear u a J f o v I
   simp only[show XW.size=4 from rfl]at HEl HPut
   have q0:=HEl.out.at (j:=0) rfl
   have z0:=HEl.out.frozen (off+i*4)
   have q1:=HEl.out.at (j:=1) rfl
   have z1:=HEl.out.frozen (off+i*4+1)
   have q2:=HEl.out.at (j:=2) rfl
   have z2:=HEl.out.frozen (off+i*4+2)
   have q3:=HEl.out.at (j:=3) rfl
   have z3:=HEl.out.frozen (off+i*4+3)
   simp only[A0]at q0
   have gm0:(0:Int)<=0:=by omega
   have mono_x_cond:=Zdv (kk+1+1) x.cond
   have mono_x_thn:=ZdJ (Yq (kk+1+1) x.cond) x.thn
   go_wp2_with fail
   refine (YR _ _ yE yE).mono ?_
   rintro e w1 ⟨rfl,t⟩
   have HEl:=yS (HEl.out.later t)
   have G1:=yS (G1.out.later t)
   have G2:=yS (G2.out.later t)
   clear t
   clear q0 z0 q1 z1 q2 z2 q3 z3
   have q0:=HEl.out.at (j:=0) rfl
   have z0:=HEl.out.frozen (off+i*4)
   have q1:=HEl.out.at (j:=1) rfl
   have z1:=HEl.out.frozen (off+i*4+1)
   have q2:=HEl.out.at (j:=2) rfl
   have z2:=HEl.out.frozen (off+i*4+2)
   have q3:=HEl.out.at (j:=3) rfl
   have z3:=HEl.out.frozen (off+i*4+3)
   simp only[A0]at q0
   go_wp2_with fail
   have G1:=yS ((G1.out.setFar (p:=⟨b,off+i*4+0,none⟩) z.out (.string (mTx (kk)))).setFar (p:=⟨b,off+i*4+1,none⟩) z.out (.int .i64 (kk+1)))
   refine (Zik A1 _ c1 x.cond L1 base _ _ rfl yE yE yE G1.out).mono ?_
   rintro e w2 ⟨rfl,g2,E⟩
   have HEl:=yS (((HEl.out.set 0 yE (.string (mTx (kk)))).set 1 yE (.int .i64 (kk+1))).marked E ab.out z.out)
   have G1:=yS g2
   have G2:=yS (((G2.out.setFar (p:=⟨b,off+i*4+0,none⟩) C.out (.string (mTx (kk)))).setFar (p:=⟨b,off+i*4+1,none⟩) C.out (.int .i64 (kk+1))).only E B.out)
   clear g2 E
   clear q0 z0 q1 z1 q2 z2 q3 z3
   have q0:=HEl.out.at (j:=0) rfl
   have z0:=HEl.out.frozen (off+i*4)
   have q1:=HEl.out.at (j:=1) rfl
   have z1:=HEl.out.frozen (off+i*4+1)
   have q2:=HEl.out.at (j:=2) rfl
   have z2:=HEl.out.frozen (off+i*4+2)
   have q3:=HEl.out.at (j:=3) rfl
   have z3:=HEl.out.frozen (off+i*4+3)
   simp only[A0]at q0
   go_wp2_with fail
   refine (ZlM A2 _ c2 x.thn L2 base _ _ rfl yE yE yE G2.out).mono ?_
   rintro e w3 ⟨rfl,g3,F⟩
   have HEl:=yS (HEl.out.marked F ac.out C.out)
   have G1:=yS (G1.out.only F l.out)
   have G2:=yS g3
   clear g3 F
   clear q0 z0 q1 z1 q2 z2 q3 z3
   have q0:=HEl.out.at (j:=0) rfl
   have z0:=HEl.out.frozen (off+i*4)
   have q1:=HEl.out.at (j:=1) rfl
   have z1:=HEl.out.frozen (off+i*4+1)
   have q2:=HEl.out.at (j:=2) rfl
   have z2:=HEl.out.frozen (off+i*4+2)
   have q3:=HEl.out.at (j:=3) rfl
   have z3:=HEl.out.frozen (off+i*4+3)
   simp only[A0]at q0
   obtain ⟨P,Q,R⟩:=ZH G1.out.rep
   obtain ⟨S,T,U⟩:=ZH G2.out.rep
   have V:=yS (X2 HOwn.out HEl.out.plain HEl.out.only (fun y m=>by (try simp only[AA]at m)<;>(rcases m with m|m<;>first|exact G1.out.own.plain y m|exact G2.out.own.plain y m)))
   have HGn:=yS (HPut.out _ _ (Zja kk x) HEl.out.only HEl.out.cells HEl.out.rest ⟨A1,c1,L1,A2,c2,L2,by simp [Zja,Zsg,Zoe],rfl,ZbR _ yE,P,Q,R,S,T,U⟩ V.out)
   have HOn:=yS (HO.out.trans (HEl.out.only.mono (fun y m=>by rcases AF.1 m with rfl|m;exact Y;exact HLk.out y m)))
   rw [O.out]at HGn
   try simp only[A0]at HGn HOn
   clear HEl V HPut G1 G2 P S Q T R U
   go_wp2_with fail
   go_roundw
   case rel=>exact ⟨i+1,XV kk x,_,yE,by go_num,rfl,by unfold XV;omega,HDn,HGn,HOn⟩
   case measure=>simp [intOf];omega
  .obtain rfl:i=n:=by omega
   have e:Hid (ds.drop i=[]):=AB (by have:=HN.out;omega)
   have hf:Hid (Yi k ds=kk/\D=Zdn k ds):=by
    obtain ⟨h1,h2,h3⟩:=HD.out
    rw [e.out]at h3 h1
    simp [Zdn]at h3
    exact ⟨h1.symm,h3⟩
   rw [e.out,AG]at HG
   go_wp2
   go_ret
   exact ⟨YK hf.out.1.symm,by rw [<-hf.out.2];exact HG.out,HO.out⟩
end
section
open Go.RowKit
theorem ZiC {w w1:World}{B:Nat}(h:Below w.drew.heap.size w.drew w1) (hB:B<=w.heap.size):Below B w w1:=⟨h.os,h.tape,h.output,h.size,fun k hk=>h.block k (AN hk hB)⟩
theorem ZJM (A:Option Addr) (n c:Nat) (ds:List ByteArray) (L:List Nat) (k:Int) (w:World) (hn:n=ds.length) (u:1<=k) (g:Z5 k ds<=4611686018427387904) (h:Sli Zde w A (Xh k ds) L):
  Calls prog 39 #[.slice A n c,.int .i64 k] w fun e w'=>e=.returned (.int .i64 (Z5 k ds))/\Below w.heap.size w w':=by
 have H:=yS h
 have HN:=yS hn
 have hk1':k+n<=4611686018427387904:=by simp only[Z5]at g;omega
 clear h hn g
 go_enter func39,ntmps39
 go_wp2
 go_loopw [1,5] (fun q j wr=>∃(i:Nat) (kk:Int),i<=n/\j=.int .i64 i/\q=.int .i64 kk/\1<=kk/\kk+(n - i:Nat)<=4611686018427387904/\Hid (kk=k+i/\(Xh k ds).drop i=Xh kk (ds.drop i))/\Hid (Below w.heap.size w wr)) (fun _ j _=>n - (intOf j).toNat)
 case atStart=>exact ⟨0,k,A6 _,rfl,rfl,u,yE,⟨yE,rfl⟩,Below.refl _ _⟩
 case round=>
  obtain ⟨i,kk,hi,rfl,rfl,h1,h2,HD,HB⟩:=hrel
  by_cases hlt:i<n
  .have l:i<ds.length:=by have:=HN.out;omega
   obtain ⟨v,m⟩:=HD.out
   have o:i<(Xh k ds).length:=by rw [Zff];exact l
   obtain ⟨b,off,cs,Lk,rfl,x,_,a,hc⟩:=H.out.at_ o
   have d:=m
   rw [A9 o,A9 l,Xh]at d
   injection d with e1 e2
   rw [e1]at a
   obtain ⟨rfl,_,_⟩:=a
   have t:b<w.heap.size:=H.out.lt b x
   have y:b<wr.heap.size:=AN t HB.out.size
   have q0:=(HB.out.cell (p:=⟨b,off+(i*Zde.size+0),none⟩) t).trans (hc 0 _ rfl)
   simp only[show Zde.size=1 from rfl,AH,A0]at q0
   have HDn:Hid (kk+1=k+(i+1:Nat)/\(Xh k ds).drop (i+1)=Xh (kk+1) (ds.drop (i+1))):=⟨yE,e2⟩
   clear hc v m e1 e2
   have i0:(0:Int)<=i:=by omega
   have i1:(i:Int)<n:=by omega
   go_wp2_with fail
   go_region_held3 (fun w'=>w'.cell? ⟨b,off+i,none⟩=some (.string (mTx kk))) (first|go_keep|exact (f.cell (p:=⟨b,off+i,none⟩) y).trans q0) (first|(go_at_call 75;refine (YR _ _ yE yE).mono ?_;rintro e w1 ⟨rfl,f⟩))
   have HBn:=yS (HB.out.trans (ZiC f HB.out.size))
   clear f
   go_wp2_with fail
   go_roundw
   case rel=>exact ⟨i+1,kk+1,yE,by go_num,rfl,yE,yE,HDn,HBn⟩
   case measure=>simp [intOf];omega
  .obtain rfl:i=n:=by omega
   have hf:Hid (Z5 k ds=kk):=by
    obtain ⟨h1,_⟩:=HD.out
    have:=HN.out;rw [Hid];simp only[Z5];omega
   go_wp2
   go_ret
   exact ⟨YK hf.out.symm,HB.out⟩
end
section
open Go.RowKit Go.Deep
def ZjE {α:Type}(P:Program) (t:TypeId) (c:Yh α) (wf:α->Prop):Prop:=
 ∀{H:Type} {enc:TypeId×Value->H} {w:World} {base:Nat} {spare:Nat->Bool} {held:Bool} {fuel:Nat} {cs:List Value} {x:DataW H×List MemPlace},
  DataW.trod enc P w base spare held fuel t cs=some x->∃d L,c.rep w cs d L/\wf d
theorem ZkD {P:Program}{t:TypeId}(ht:P.underlying t=some (.int .i64)):ZjE P t ZGg Zlp:=by
 intro H enc w base spare held fuel cs x h
 obtain ⟨n,rfl,_,hw⟩:=DataW.trod_int ht h
 refine ⟨n,[],⟨rfl,rfl⟩,?_⟩
 simp [Lit.wf,IntKind.min,IntKind.max,IntKind.signed,IntKind.bits]at hw
 exact ⟨yE,yE⟩
theorem QQ {P:Program}{t:TypeId}(ht:P.underlying t=some .string):ZjE P t Zde (fun _=>True):=by
 intro H enc w base spare held fuel cs x h
 obtain ⟨s,rfl,_,hs⟩:=DataW.trod_string ht h
 exact ⟨s,[],⟨rfl,rfl,by unfold maxLen at hs;omega⟩,trivial⟩
theorem Zal {α:Type}{c:Yh α}{wf:α->Prop}{P:Program}{t e:TypeId}(ht:P.underlying t=some (.slice e)) (hc:P.cellsOf e=c.size) (ho:ZjE P e c wf):ZjE P t (Zw c) (fun ds=>∀d∈ds,wf d):=by
 intro H enc w base spare held fuel cs x h
 rcases open_slice ht h with ⟨rfl,_⟩|⟨a,len,cap,m,n,D,Pl,rfl,hb,hl,hm,l,_,hx⟩
 .exact ⟨[],[],⟨none,0,rfl,A7 _,A6 _,Sli.nil _ _⟩,yG⟩
 .have hlm:len<=m:=by rw [l];split<;>omega
  have key:∀q,q<=len->∃(xs:List Value) (ds:List α) (L:List Nat),ds.length=q/\(∀j u,xs[j]?=some u->w.cell? (a.add j)=some u)/\c.reps w xs ds L/\∀d∈ds,wf d:=by
   intro q
   induction q with
   |zero=>exact fun _=>⟨[],[],[],rfl,yG,⟨rfl,rfl⟩,yG⟩
   |succ q ih=>
    intro hq
    obtain ⟨xs,ds,L,hd,f,hr,i⟩:=ih yE
    obtain ⟨o,h1,h2⟩:=hx q yE
    obtain ⟨d,Lq,k,p⟩:=ho h2
    obtain ⟨_,hlen,v⟩:=World.cells?_some h1
    refine ⟨xs++o,ds++[d],L++Lq,by simp [hd],fun j u hu=>?_,Zbv hr (ZcK k),?_⟩
    .have g:xs.length=q*c.size:=by rw [ZhJ hr,hd]
     rw [List.getElem?_append]at hu
     split at hu
     .exact f j u hu
     .rename_i hj
      have hj2:=(List.getElem?_eq_some_iff.1 hu).1
      have:=v (j - xs.length) yE
      rw [<-hu,<-this,Go.Deep.add_add,hc,<-g]
      congr 2
      omega
    .intro y hy
     rcases AA.1 hy with hy|hy
     .exact i y hy
     .simp at hy;subst hy;exact p
  obtain ⟨xs,ds,L,hd,f,hr,i⟩:=key len (A7 _)
  have g:=ZhJ hr
  rcases Nat.eq_zero_or_pos len with h0|h0
  .have:ds=[]:=List.eq_nil_of_length_eq_zero yE
   subst this
   refine ⟨[],[],⟨some a,cap,by simp at hd;rw [<-hd];rfl,yG,hm,Sli.nil _ _⟩,yG⟩
  .obtain ⟨b,off,sp⟩:=a
   have hp:0<xs.length:=by rw [g,hd];exact Nat.mul_pos h0 c.pos
   have z:sp=none:=by
    have h1:=f 0 _ (A3 hp)
    have e:(⟨b,off,sp⟩:Addr).add 0=⟨b,off,sp⟩:=by simp [Addr.add]
    rw [e]at h1
    cases sp with
    |none=>rfl
    |some q=>
     simp only[World.cell?]at h1
     split at h1<;>simp at h1
   subst z
   refine ⟨ds,[b]++L,⟨some ⟨b,off,none⟩,cap,by rw [hd],yE,hm,xs,[b],L,rfl,⟨by rw [g],.inr ⟨yE,b,off,rfl,rfl,fun j u hu=>?_⟩⟩,hr⟩,i⟩
   have:=f j u hu
   rwa [ZbY]at this
end
section
open Go.RowKit
theorem ZHd {w w1:World}{B:Nat}(h:Below w.drew.heap.size w.drew w1) (hB:B<=w.heap.size):Below B w w1:=⟨h.os,h.tape,h.output,h.size,fun k hk=>h.block k (AN hk hB)⟩
theorem ZKp {a:List Zg}{b:List Zc}{aF:Zc}{r:List ByteArray}(hh:ZIZ a b aF=some r) (w:World) (hj:J0 w) (AaRules:Option Addr) (d:Nat) (LaRules:List Nat) (f:(Zw XW).rep w [.slice AaRules a.length d] a LaRules) (AaBase:Option Addr) (e:Nat) (LaBase:List Nat) (i:(Zw Z8).rep w [.slice AaBase b.length e] b LaBase) (j:List Value) (LaF:List Nat) (k:Z8.rep w j aF LaF):
  Calls prog 35 #[.slice AaRules a.length d,.slice AaBase b.length e,.agg j.toArray] w (Zi7 Zde 9 w r):=
 Zm.givesS (c:=Zde) (g:=ZA) (ds:=r) (ZKo hh) encStr hj (vs:=[_,_,_]) ⟨Zcs Zu9 _ f,Zcs ZcB _ i,Zh9 ZcB k,trivial⟩
theorem ZJF {a:List Zg}{b:List Zc}{aF:Zc}{r:List ByteArray}(hh:ZI0 a b aF=some r) (w:World) (hj:J0 w) (AaRules:Option Addr) (d:Nat) (LaRules:List Nat) (f:(Zw XW).rep w [.slice AaRules a.length d] a LaRules) (AaBase:Option Addr) (e:Nat) (LaBase:List Nat) (i:(Zw Z8).rep w [.slice AaBase b.length e] b LaBase) (j:List Value) (LaF:List Nat) (k:Z8.rep w j aF LaF):
  Calls prog 36 #[.slice AaRules a.length d,.slice AaBase b.length e,.agg j.toArray] w (Zi7 Zde 9 w r):=
 Zm.givesS (c:=Zde) (g:=ZA) (ds:=r) (ZKn hh) encStr hj (vs:=[_,_,_]) ⟨Zcs Zu9 _ f,Zcs ZcB _ i,Zh9 ZcB k,trivial⟩
theorem ZJE (w:World) (hJ:J0 w) (C:Option Addr) (I:Nat) (l:List Zg) (J:List Nat) (bb:l.length<=9223372036854775807) (ae:Sli XW w C l J) (L:Option Addr) (N:Nat) (q:List Zc) (O:List Nat) (bh:q.length<=9223372036854775807) (aw:Sli Z8 w L q O) (bn:List Value) (aF:Zc) (af:List Nat) (b6:Z8.rep w bn aF af) (bc:(fun ds=>∀d∈ds,ZtX d) l) (bi:(fun ds=>∀d∈ds,Zua d) q) (b7:Zua aF):
  Calls prog 5 #[.slice C l.length I,.slice L q.length N,.agg bn.toArray] w fun e w'=>e=.returned (.bool true)/\Below w.heap.size w w':=by
 have HJ:=yS hJ
 clear hJ
 have P:=yS ae
 clear ae
 have Q:=yS aw
 clear aw
 have R:=yS b6
 clear b6
 obtain ⟨F,G,rfl⟩:=ZcS R.out
 have B0:Hid (Below w.heap.size w (w.alloc (.cells #[.string aF.rel,.slice F aF.args.length G] 48))):=(Below.alloc (Below.refl _ _) (A7 _) _)
 have sz0:w.heap.size+1<=((w.alloc (.cells #[.string aF.rel,.slice F aF.args.length G] 48))).heap.size:=Nat.le_of_eq (by simp only[World.alloc,AP])
 have a:Hid (Blk (w.alloc (.cells #[.string aF.rel,.slice F aF.args.length G] 48)) (w.heap.size) 48 #[.string aF.rel,.slice F aF.args.length G]):=(Blk.new _ _ _)
 go_enter func5,ntmps5
 go_wp2_with fail
 refine (Zsi C _ I l J _ _ rfl bb yE yE (P.out.below B0.out)).mono ?_
 rintro e w1 ⟨rfl,hb⟩
 have B1:=yS (B0.out.trans (hb.mono B0.out.size))
 have sz1:=hb.size
 have a:=yS (a.out.later hb)
 have b:=a.out.at (i:=0) rfl
 have c:=a.out.at (i:=1) rfl
 clear hb
 by_cases aa:((Yg l:Nat):Int)<=1048576
 rotate_left
 .rw [ZZ aa]
  go_wp2
  go_ret
  exact ⟨rfl,B1.out⟩
 rw [Xe aa]
 have D:Yg l<=1048576:=by omega
 have cl_aRules:l.length<=1048576:=by have:=D;simp only[Yg]at this;omega
 have nn_aRules:¬(1048576 - ((Yg l:Nat):Int)<0):=by omega
 go_wp2_with fail
 refine (Zs2 L _ N q O _ _ rfl bh yE yE (Q.out.below B1.out)).mono ?_
 rintro e w2 ⟨rfl,hb⟩
 have B2:=yS (B1.out.trans (hb.mono B1.out.size))
 have sz2:=hb.size
 have a:=yS (a.out.later hb)
 clear b c
 have b:=a.out.at (i:=0) rfl
 have c:=a.out.at (i:=1) rfl
 clear B1
 clear hb
 by_cases ag:((Yu q:Nat):Int)<=1048576 - ((Yg l:Nat):Int)
 rotate_left
 .rw [ZZ ag]
  go_wp2
  go_ret
  exact ⟨rfl,B2.out⟩
 rw [Xe ag]
 have K:Yu q<=1048576:=by omega
 have cl_aBase:q.length<=1048576:=by have:=K;simp only[Yu]at this;omega
 have nn_aBase:¬(1048576 - ((Yg l:Nat):Int) - ((Yu q:Nat):Int)<0):=by omega
 go_wp2_with fail
 refine (Zl9 [.string aF.rel,.slice F aF.args.length G] aF af _ _ yE yE (Z8.keep R.out (Zy B2.out (Z8.lt R.out)))).mono ?_
 rintro e w3 ⟨rfl,hb⟩
 have B3:=yS (B2.out.trans (hb.mono B2.out.size))
 have sz3:=hb.size
 have a:=yS (a.out.later hb)
 clear b c
 have b:=a.out.at (i:=0) rfl
 have c:=a.out.at (i:=1) rfl
 clear B2
 clear hb
 by_cases bo:((Xx aF:Nat):Int)<=1048576 - ((Yg l:Nat):Int) - ((Yu q:Nat):Int)
 rotate_left
 .rw [ZZ bo]
  go_wp2
  go_ret
  exact ⟨rfl,B3.out⟩
 rw [Xe bo]
 have ab:Xx aF<=1048576:=by omega
 have nn_aF:¬(1048576 - ((Yg l:Nat):Int) - ((Yu q:Nat):Int) - ((Xx aF:Nat):Int)<0):=by omega
 obtain ⟨R0,cc,b8,rl⟩:=ZKf l D bc q K bi aF ab b7
 go_wp2_with fail
 go_region_held3 (fun W=>W.cell? ⟨w.heap.size,0,none⟩=some (.string aF.rel)/\W.cell? ⟨w.heap.size,1,none⟩=some (.slice F aF.args.length G)) (first|exact ⟨b,c⟩) (first|(go_at_call 13;refine (Ze2 C _ I l J _ rfl D (P.out.below B3.out.drew)).mono ?_;rintro e w4 ⟨v,rfl,p⟩;obtain ⟨ax,ay,rfl⟩:=p.shape;have hb:=ZHd p.below (A7 _);obtain ⟨az,gt⟩:=p.got;have B4:=yS (B3.out.trans (hb.mono B3.out.size));have sz4:=hb.size;have a:=yS (a.out.later hb);clear b c;have b:=a.out.at (i:=0) rfl;have c:=a.out.at (i:=1) rfl;clear B3;have A:=yS gt;have ge_t3aRules:=yS gt.own.ge;have lt_t3aRules:=yS gt.lt;clear gt hb p)|(go_at_call 14;refine (ZeQ L _ N q O _ rfl K (Q.out.below B4.out)).mono ?_;rintro e w5 ⟨v,rfl,p⟩;obtain ⟨bd,be,rfl⟩:=p.shape;have hb:=p.below;obtain ⟨bf,gt⟩:=p.got;have B5:=yS (B4.out.trans (hb.mono B4.out.size));have sz5:=hb.size;have A:=yS (A.out.later hb);have a:=yS (a.out.later hb);clear b c;have b:=a.out.at (i:=0) rfl;have c:=a.out.at (i:=1) rfl;clear B4;have E:=yS gt;have ge_t4aBase:=yS gt.own.ge;have lt_t4aBase:=yS gt.lt;clear gt hb p)|(go_at_call 28;refine (Ztm [.string aF.rel,.slice F aF.args.length G] aF af _ ab (Z8.keep R.out (Zy B5.out (Z8.lt R.out)))).mono ?_;rintro e w6 ⟨cs,b5,rfl,gt,hb⟩;obtain ⟨bp,bq,rfl⟩:=ZcS gt.rep;have B6:=yS (B5.out.trans (hb.mono B5.out.size));have sz6:=hb.size;have A:=yS (A.out.later hb);have E:=yS (E.out.later hb);have a:=yS (a.out.later hb);clear b c;have b:=a.out.at (i:=0) rfl;have c:=a.out.at (i:=1) rfl;clear B5;have Z:=yS gt;have ge_t5aF:=yS gt.own.ge;have lt_t5aF:=yS gt.lt;clear gt hb)|(go_at_call 35;refine (ZKp cc _ (Qt hJ0 HJ.out B6.out) ax ay az A.out.rep bd be bf E.out.rep [.string aF.rel,.slice bp aF.args.length bq] b5 Z.out.rep).mono ?_;rintro e w7 ⟨v,rfl,p⟩;obtain ⟨br,bs,rfl⟩:=p.shape;have hb:=p.below;obtain ⟨bt,gt⟩:=p.got;have B7:=yS (B6.out.trans (hb.mono B6.out.size));have sz7:=hb.size;have A:=yS (A.out.later hb);have E:=yS (E.out.later hb);have Z:=yS (Z.out.later hb);have a:=yS (a.out.later hb);clear b c;have b:=a.out.at (i:=0) rfl;have c:=a.out.at (i:=1) rfl;clear B6;have k:=yS gt;have ge_w0:=yS gt.own.ge;have ah:=yS gt.lt;clear gt hb p))
 clear A
 clear E
 clear Z
 go_wp2_with fail
 refine (Ze2 C _ I l J _ rfl D (P.out.below B7.out)).mono ?_
 rintro e w8 ⟨v,rfl,p⟩
 obtain ⟨bu,bv,rfl⟩:=p.shape
 have hb:=p.below
 obtain ⟨bw,gt⟩:=p.got
 have B8:=yS (B7.out.trans (hb.mono B7.out.size))
 have sz8:=hb.size
 have k:=yS (k.out.later hb)
 have a:=yS (a.out.later hb)
 clear b c
 have b:=a.out.at (i:=0) rfl
 have c:=a.out.at (i:=1) rfl
 clear B7
 have u:=yS gt
 have ai:=yS gt.own.ge
 have ac:=yS gt.lt
 clear gt hb p
 go_wp2_with fail
 refine (ZeQ L _ N q O _ rfl K (Q.out.below B8.out)).mono ?_
 rintro e w9 ⟨v,rfl,p⟩
 obtain ⟨bx,bz,rfl⟩:=p.shape
 have hb:=p.below
 obtain ⟨b0,gt⟩:=p.got
 have B9:=yS (B8.out.trans (hb.mono B8.out.size))
 have sz9:=hb.size
 have k:=yS (k.out.later hb)
 have u:=yS (u.out.later hb)
 have a:=yS (a.out.later hb)
 clear b c
 have b:=a.out.at (i:=0) rfl
 have c:=a.out.at (i:=1) rfl
 clear B8
 have x:=yS gt
 have ad:=yS gt.own.ge
 have aj:=yS gt.lt
 clear gt hb p
 go_wp2_with fail
 refine (Ztm [.string aF.rel,.slice F aF.args.length G] aF af _ ab (Z8.keep R.out (Zy B9.out (Z8.lt R.out)))).mono ?_
 rintro e a0 ⟨cs,b1,rfl,gt,hb⟩
 obtain ⟨S,T,rfl⟩:=ZcS gt.rep
 have B10:=yS (B9.out.trans (hb.mono B9.out.size))
 have sz10:=hb.size
 have k:=yS (k.out.later hb)
 have u:=yS (u.out.later hb)
 have x:=yS (x.out.later hb)
 have a:=yS (a.out.later hb)
 clear b c
 have b:=a.out.at (i:=0) rfl
 have c:=a.out.at (i:=1) rfl
 clear B9
 have z:=yS gt
 have X:=yS gt.own.ge
 have bg:=yS gt.lt
 clear gt hb
 have hb:=(Below.refl a0.heap.size a0).alloc (A7 _) (.cells #[.string aF.rel,.slice S aF.args.length T] 53)
 have B11:=yS (B10.out.trans (hb.mono B10.out.size))
 have sz11:=hb.size
 have k:=yS (k.out.later hb)
 have u:=yS (u.out.later hb)
 have x:=yS (x.out.later hb)
 have z:=yS (z.out.later hb)
 have a:=yS (a.out.later hb)
 clear b c
 have b:=a.out.at (i:=0) rfl
 have c:=a.out.at (i:=1) rfl
 clear B10
 have szb_x2:a0.heap.size+1<=(a0.alloc (.cells #[.string aF.rel,.slice S aF.args.length T] 53)).heap.size:=Nat.le_of_eq (by simp only[World.alloc,AP])
 have f:Hid (Blk (a0.alloc (.cells #[.string aF.rel,.slice S aF.args.length T] 53)) a0.heap.size 53 #[.string aF.rel,.slice S aF.args.length T]):=Blk.new _ _ _
 have g:=f.out.at (i:=0) rfl
 have j:=f.out.at (i:=1) rfl
 clear hb
 go_wp2_with fail
 refine (ZJF b8 _ (Qt hJ0 HJ.out B11.out) bu bv bw u.out.rep bx bz b0 x.out.rep [.string aF.rel,.slice S aF.args.length T] b1 z.out.rep).mono ?_
 rintro e w12 ⟨v,rfl,p⟩
 obtain ⟨a1,a2,rfl⟩:=p.shape
 have hb:=p.below
 obtain ⟨a3,gt⟩:=p.got
 have B12:=yS (B11.out.trans (hb.mono B11.out.size))
 have sz12:=hb.size
 have k:=yS (k.out.later hb)
 have u:=yS (u.out.later hb)
 have x:=yS (x.out.later hb)
 have z:=yS (z.out.later hb)
 have a:=yS (a.out.later hb)
 clear b c
 have b:=a.out.at (i:=0) rfl
 have c:=a.out.at (i:=1) rfl
 have f:=yS (f.out.later hb)
 clear g j
 have g:=f.out.at (i:=0) rfl
 have j:=f.out.at (i:=1) rfl
 clear B11
 have o:=yS gt
 have U:=yS gt.own.ge
 have b2:=yS gt.lt
 clear gt hb p
 go_wp2_with fail
 refine (Zil a1 br _ a2 bs _ a3 bt _ rfl yE (ZH o.out.rep).2.2 (ZH k.out.rep).2.2).mono ?_
 rintro e w13 ⟨rfl,hb⟩
 have B13:=yS (B12.out.trans (hb.mono B12.out.size))
 have sz13:=hb.size
 have k:=yS (k.out.later hb)
 have u:=yS (u.out.later hb)
 have x:=yS (x.out.later hb)
 have z:=yS (z.out.later hb)
 have o:=yS (o.out.later hb)
 have a:=yS (a.out.later hb)
 clear b c
 have b:=a.out.at (i:=0) rfl
 have c:=a.out.at (i:=1) rfl
 have f:=yS (f.out.later hb)
 clear g j
 have g:=f.out.at (i:=0) rfl
 have j:=f.out.at (i:=1) rfl
 clear B12
 clear hb
 go_wp2_with fail
 refine (Ze2 C _ I l J _ rfl D (P.out.below B13.out)).mono ?_
 rintro e w14 ⟨v,rfl,p⟩
 obtain ⟨ak,al,rfl⟩:=p.shape
 have hb:=p.below
 obtain ⟨am,gt⟩:=p.got
 have B14:=yS (B13.out.trans (hb.mono B13.out.size))
 have sz14:=hb.size
 have k:=yS (k.out.later hb)
 have u:=yS (u.out.later hb)
 have x:=yS (x.out.later hb)
 have z:=yS (z.out.later hb)
 have o:=yS (o.out.later hb)
 have a:=yS (a.out.later hb)
 clear b c
 have b:=a.out.at (i:=0) rfl
 have c:=a.out.at (i:=1) rfl
 have f:=yS (f.out.later hb)
 clear g j
 have g:=f.out.at (i:=0) rfl
 have j:=f.out.at (i:=1) rfl
 clear B13
 have H:=yS gt
 have ge_t13aRules:=yS gt.own.ge
 have lt_t13aRules:=yS gt.lt
 clear gt hb p
 go_wp2_with fail
 refine (Zss bu ak _ bv al _ bw am _ rfl yE (ZH u.out.rep).2.2 (ZH H.out.rep).2.2).mono ?_
 rintro e w15 ⟨rfl,hb⟩
 have B15:=yS (B14.out.trans (hb.mono B14.out.size))
 have sz15:=hb.size
 have k:=yS (k.out.later hb)
 have u:=yS (u.out.later hb)
 have x:=yS (x.out.later hb)
 have z:=yS (z.out.later hb)
 have o:=yS (o.out.later hb)
 have H:=yS (H.out.later hb)
 have a:=yS (a.out.later hb)
 clear b c
 have b:=a.out.at (i:=0) rfl
 have c:=a.out.at (i:=1) rfl
 have f:=yS (f.out.later hb)
 clear g j
 have g:=f.out.at (i:=0) rfl
 have j:=f.out.at (i:=1) rfl
 clear B14
 clear hb
 clear H
 go_wp2_with fail
 refine (ZeQ L _ N q O _ rfl K (Q.out.below B15.out)).mono ?_
 rintro e w16 ⟨v,rfl,p⟩
 obtain ⟨a4,a5,rfl⟩:=p.shape
 have hb:=p.below
 obtain ⟨a6,gt⟩:=p.got
 have B16:=yS (B15.out.trans (hb.mono B15.out.size))
 have sz16:=hb.size
 have k:=yS (k.out.later hb)
 have u:=yS (u.out.later hb)
 have x:=yS (x.out.later hb)
 have z:=yS (z.out.later hb)
 have o:=yS (o.out.later hb)
 have a:=yS (a.out.later hb)
 clear b c
 have b:=a.out.at (i:=0) rfl
 have c:=a.out.at (i:=1) rfl
 have f:=yS (f.out.later hb)
 clear g j
 have g:=f.out.at (i:=0) rfl
 have j:=f.out.at (i:=1) rfl
 clear B15
 have M:=yS gt
 have ge_t15aBase:=yS gt.own.ge
 have lt_t15aBase:=yS gt.lt
 clear gt hb p
 go_wp2_with fail
 refine (Zr2 bx a4 _ bz a5 _ b0 a6 _ rfl yE (ZH x.out.rep).2.2 (ZH M.out.rep).2.2).mono ?_
 rintro e w17 ⟨rfl,hb⟩
 have B17:=yS (B16.out.trans (hb.mono B16.out.size))
 have sz17:=hb.size
 have k:=yS (k.out.later hb)
 have u:=yS (u.out.later hb)
 have x:=yS (x.out.later hb)
 have z:=yS (z.out.later hb)
 have o:=yS (o.out.later hb)
 have M:=yS (M.out.later hb)
 have a:=yS (a.out.later hb)
 clear b c
 have b:=a.out.at (i:=0) rfl
 have c:=a.out.at (i:=1) rfl
 have f:=yS (f.out.later hb)
 clear g j
 have g:=f.out.at (i:=0) rfl
 have j:=f.out.at (i:=1) rfl
 clear B16
 clear hb
 clear M
 go_wp2_with fail
 go_region_held3 (fun W=>W.cell? ⟨a0.heap.size,0,none⟩=some (.string aF.rel)/\W.cell? ⟨a0.heap.size,1,none⟩=some (.slice S aF.args.length T)/\W.cell? ⟨w.heap.size,0,none⟩=some (.string aF.rel)/\W.cell? ⟨w.heap.size,1,none⟩=some (.slice F aF.args.length G)) (first|exact ⟨g,j,b,c⟩|exact ⟨an,ao,ap,aq⟩) (first|(go_at_call 28;refine (Ztm [.string aF.rel,.slice F aF.args.length G] aF af _ ab (Z8.keep R.out (Zy B17.out.drew (Z8.lt R.out)))).mono ?_;rintro e w18 ⟨cs,b3,rfl,gt,hb⟩;obtain ⟨bj,bk,rfl⟩:=ZcS gt.rep;replace hb:=ZHd hb (A7 _);have KA:=a.out.later hb;have KX:=f.out.later hb;have an:=KX.at (i:=0) rfl;have ao:=KX.at (i:=1) rfl;have ap:=KA.at (i:=0) rfl;have aq:=KA.at (i:=1) rfl)|(go_at_call 31;refine (Ztv [.string aF.rel,.slice S aF.args.length T] [.string aF.rel,.slice bj aF.args.length bk] aF b1 b3 _ (z.out.later hb).rep gt.rep).mono ?_;rintro e w19 ⟨rfl,Y⟩;have KX2:=KX.later Y;have KA2:=KA.later Y;replace an:=KX2.at (i:=0) rfl;replace ao:=KX2.at (i:=1) rfl;replace ap:=KA2.at (i:=0) rfl;replace aq:=KA2.at (i:=1) rfl))
 clear KA KX KA2 KX2 an ao ap aq
 have B18:=yS (B17.out.trans (hb.mono B17.out.size))
 have sz18:=hb.size
 have k:=yS (k.out.later hb)
 have u:=yS (u.out.later hb)
 have x:=yS (x.out.later hb)
 have z:=yS (z.out.later hb)
 have o:=yS (o.out.later hb)
 have a:=yS (a.out.later hb)
 clear b c
 have b:=a.out.at (i:=0) rfl
 have c:=a.out.at (i:=1) rfl
 have f:=yS (f.out.later hb)
 clear g j
 have g:=f.out.at (i:=0) rfl
 have j:=f.out.at (i:=1) rfl
 clear B17
 clear hb gt
 have B19:=yS (B18.out.trans (Y.mono B18.out.size))
 have sz19:=Y.size
 have k:=yS (k.out.later Y)
 have u:=yS (u.out.later Y)
 have x:=yS (x.out.later Y)
 have z:=yS (z.out.later Y)
 have o:=yS (o.out.later Y)
 have a:=yS (a.out.later Y)
 clear b c
 have b:=a.out.at (i:=0) rfl
 have c:=a.out.at (i:=1) rfl
 have f:=yS (f.out.later Y)
 clear g j
 have g:=f.out.at (i:=0) rfl
 have j:=f.out.at (i:=1) rfl
 clear B18
 clear Y
 have nl_x0_19:=Zqh ((1:Int)) l
 have nb_x0_19:Yi ((1:Int)) l<=4611686018427387904:=by omega
 have ng_x0_19:=Zjy ((1:Int)) l
 go_wp2_with fail
 refine (ZoI bu _ bv l bw _ _ _ rfl yE yE yE u.out).mono ?_
 rintro e w20 ⟨rfl,gm,on⟩
 have B20:=yS (B19.out.trans (on.below B19.out.size (fun y m=>by have:=ai.out y m;omega)))
 have sz20:=on.size
 have k:=yS (k.out.only on (fun y m m'=>by have:=ah.out y m;have:=ai.out y m';omega))
 have x:=yS (x.out.only on (fun y m m'=>by have:=ad.out y m;have:=ac.out y m';omega))
 have z:=yS (z.out.only on (fun y m m'=>by have:=X.out y m;have:=ac.out y m';omega))
 have o:=yS (o.out.only on (fun y m m'=>by have:=U.out y m;have:=ac.out y m';omega))
 have a:=yS (ZG8 a.out on (fun m=>by have:=ai.out _ m;have:=ac.out _ m;omega))
 clear b c
 have b:=a.out.at (i:=0) rfl
 have c:=a.out.at (i:=1) rfl
 have f:=yS (ZG8 f.out on (fun m=>by have:=ai.out _ m;have:=ac.out _ m;omega))
 clear g j
 have g:=f.out.at (i:=0) rfl
 have j:=f.out.at (i:=1) rfl
 clear B19
 have u:=yS gm
 clear gm on
 clear u
 have nl_x1_20:=Zqo (Yi ((1:Int)) l) q
 have nb_x1_20:YG (Yi ((1:Int)) l) q<=4611686018427387904:=by omega
 have ng_x1_20:=Zkc (Yi ((1:Int)) l) q
 go_wp2_with fail
 refine (Zod bx _ bz q b0 _ _ _ rfl yE yE yE x.out).mono ?_
 rintro e w21 ⟨rfl,gm,on⟩
 have B21:=yS (B20.out.trans (on.below B20.out.size (fun y m=>by have:=ad.out y m;omega)))
 have sz21:=on.size
 have k:=yS (k.out.only on (fun y m m'=>by have:=ah.out y m;have:=ad.out y m';omega))
 have z:=yS (z.out.only on (fun y m m'=>by have:=X.out y m;have:=aj.out y m';omega))
 have o:=yS (o.out.only on (fun y m m'=>by have:=U.out y m;have:=aj.out y m';omega))
 have a:=yS (ZG8 a.out on (fun m=>by have:=ad.out _ m;have:=aj.out _ m;omega))
 clear b c
 have b:=a.out.at (i:=0) rfl
 have c:=a.out.at (i:=1) rfl
 have f:=yS (ZG8 f.out on (fun m=>by have:=ad.out _ m;have:=aj.out _ m;omega))
 clear g j
 have g:=f.out.at (i:=0) rfl
 have j:=f.out.at (i:=1) rfl
 clear B20
 have x:=yS gm
 clear gm on
 clear x
 have nl_x2_21:=ZH8 (YG (Yi ((1:Int)) l) q) aF
 have nb_x2_21:ZG2 (YG (Yi ((1:Int)) l) q) aF<=4611686018427387904:=by omega
 have ng_x2_21:=ZIb (YG (Yi ((1:Int)) l) q) aF
 go_wp2_with fail
 refine (ZIc _ aF b1 _ _ _ yE yE z.out).mono ?_
 rintro e w22 ⟨rfl,gm,on⟩
 have B22:=yS (B21.out.trans (on.below B21.out.size (fun y m=>by have:=X.out y m;omega)))
 have sz22:=on.size
 have k:=yS (k.out.only on (fun y m m'=>by have:=ah.out y m;have:=X.out y m';omega))
 have o:=yS (o.out.only on (fun y m m'=>by have:=U.out y m;have:=bg.out y m';omega))
 have a:=yS (ZG8 a.out on (fun m=>by have:=X.out _ m;have:=bg.out _ m;omega))
 clear b c
 have b:=a.out.at (i:=0) rfl
 have c:=a.out.at (i:=1) rfl
 have f:=yS (ZG8 f.out on (fun m=>by have:=X.out _ m;have:=bg.out _ m;omega))
 clear g j
 have g:=f.out.at (i:=0) rfl
 have j:=f.out.at (i:=1) rfl
 clear B21
 have z:=yS gm
 clear gm on
 clear z
 have kn:¬(ZG2 (YG (Yi ((1:Int)) l) q) aF<0):=by omega
 go_wp2_with fail
 refine (Zil a1 br _ a2 bs _ a3 bt _ rfl yE (ZH o.out.rep).2.2 (ZH k.out.rep).2.2).mono ?_
 rintro e w23 ⟨rfl,hb⟩
 have B23:=yS (B22.out.trans (hb.mono B22.out.size))
 have sz23:=hb.size
 have k:=yS (k.out.later hb)
 have o:=yS (o.out.later hb)
 have a:=yS (a.out.later hb)
 clear b c
 have b:=a.out.at (i:=0) rfl
 have c:=a.out.at (i:=1) rfl
 have f:=yS (f.out.later hb)
 clear g j
 have g:=f.out.at (i:=0) rfl
 have j:=f.out.at (i:=1) rfl
 clear B22
 clear hb
 have nl_g0_23:Z5 ((1:Int)) R0=((1:Int))+R0.length:=rfl
 have nb_g0_23:Z5 ((1:Int)) R0<=4611686018427387904:=by omega
 have ng_g0_23:=Qm ((1:Int)) R0
 go_wp2_with fail
 refine (Zdb a1 _ a2 R0 a3 _ _ _ rfl yE yE o.out).mono ?_
 rintro e w24 ⟨rfl,gm,on⟩
 have B24:=yS (B23.out.trans (on.below B23.out.size (fun y m=>by have:=U.out y m;omega)))
 have sz24:=on.size
 have k:=yS (k.out.only on (fun y m m'=>by have:=ah.out y m;have:=U.out y m';omega))
 have a:=yS (ZG8 a.out on (fun m=>by have:=U.out _ m;have:=b2.out _ m;omega))
 clear b c
 have b:=a.out.at (i:=0) rfl
 have c:=a.out.at (i:=1) rfl
 have f:=yS (ZG8 f.out on (fun m=>by have:=U.out _ m;have:=b2.out _ m;omega))
 clear g j
 have g:=f.out.at (i:=0) rfl
 have j:=f.out.at (i:=1) rfl
 clear B23
 have o:=yS gm
 clear gm on
 go_wp2_with fail
 refine (ZJM a1 _ a2 R0 a3 _ _ rfl yE yE (ZH o.out.rep).2.2).mono ?_
 rintro e w25 ⟨rfl,hb⟩
 have B25:=yS (B24.out.trans (hb.mono B24.out.size))
 have sz25:=hb.size
 have k:=yS (k.out.later hb)
 have o:=yS (o.out.later hb)
 have a:=yS (a.out.later hb)
 clear b c
 have b:=a.out.at (i:=0) rfl
 have c:=a.out.at (i:=1) rfl
 have f:=yS (f.out.later hb)
 clear g j
 have g:=f.out.at (i:=0) rfl
 have j:=f.out.at (i:=1) rfl
 clear B24
 clear hb
 have qn25:¬(Z5 ((1:Int)) R0<0):=by omega
 have qm25:((Z5 ((1:Int)) R0) != (Z5 ((1:Int)) R0))=false:=by simp
 go_wp2_with fail
 go_region_held3 (fun W=>W.cell? ⟨w.heap.size,0,none⟩=some (.string aF.rel)/\W.cell? ⟨w.heap.size,1,none⟩=some (.slice F aF.args.length G)) (first|exact ⟨b,c⟩) (first|(go_at_call 13;refine (Ze2 C _ I l J _ rfl D (P.out.below B25.out.drew)).mono ?_;rintro e w26 ⟨v,rfl,p⟩;obtain ⟨ar,au,rfl⟩:=p.shape;have hb:=ZHd p.below (A7 _);obtain ⟨av,gt⟩:=p.got;have B26:=yS (B25.out.trans (hb.mono B25.out.size));have sz26:=hb.size;have k:=yS (k.out.later hb);have o:=yS (o.out.later hb);have a:=yS (a.out.later hb);clear b c;have b:=a.out.at (i:=0) rfl;have c:=a.out.at (i:=1) rfl;have f:=yS (f.out.later hb);clear g j;have g:=f.out.at (i:=0) rfl;have j:=f.out.at (i:=1) rfl;clear B25;have t:=yS gt;have ge_t25aRules:=yS gt.own.ge;have lt_t25aRules:=yS gt.lt;clear gt hb p)|(go_at_call 14;refine (ZeQ L _ N q O _ rfl K (Q.out.below B26.out)).mono ?_;rintro e w27 ⟨v,rfl,p⟩;obtain ⟨a7,a8,rfl⟩:=p.shape;have hb:=p.below;obtain ⟨a9,gt⟩:=p.got;have B27:=yS (B26.out.trans (hb.mono B26.out.size));have sz27:=hb.size;have k:=yS (k.out.later hb);have o:=yS (o.out.later hb);have t:=yS (t.out.later hb);have a:=yS (a.out.later hb);clear b c;have b:=a.out.at (i:=0) rfl;have c:=a.out.at (i:=1) rfl;have f:=yS (f.out.later hb);clear g j;have g:=f.out.at (i:=0) rfl;have j:=f.out.at (i:=1) rfl;clear B26;have B:=yS gt;have ge_t26aBase:=yS gt.own.ge;have lt_t26aBase:=yS gt.lt;clear gt hb p)|(go_at_call 28;refine (Ztm [.string aF.rel,.slice F aF.args.length G] aF af _ ab (Z8.keep R.out (Zy B27.out (Z8.lt R.out)))).mono ?_;rintro e w28 ⟨cs,b4,rfl,gt,hb⟩;obtain ⟨bl,bm,rfl⟩:=ZcS gt.rep;have B28:=yS (B27.out.trans (hb.mono B27.out.size));have sz28:=hb.size;have k:=yS (k.out.later hb);have o:=yS (o.out.later hb);have t:=yS (t.out.later hb);have B:=yS (B.out.later hb);have a:=yS (a.out.later hb);clear b c;have b:=a.out.at (i:=0) rfl;have c:=a.out.at (i:=1) rfl;have f:=yS (f.out.later hb);clear g j;have g:=f.out.at (i:=0) rfl;have j:=f.out.at (i:=1) rfl;clear B27;have V:=yS gt;have ge_t27aF:=yS gt.own.ge;have lt_t27aF:=yS gt.lt;clear gt hb)|(go_at_call 36;refine (ZJF b8 _ (Qt hJ0 HJ.out B28.out) ar au av t.out.rep a7 a8 a9 B.out.rep [.string aF.rel,.slice bl aF.args.length bm] b4 V.out.rep).mono ?_;rintro e w29 ⟨v,rfl,p⟩;obtain ⟨b9,ca,rfl⟩:=p.shape;have hb:=p.below;obtain ⟨cb,gt⟩:=p.got;have B29:=yS (B28.out.trans (hb.mono B28.out.size));have sz29:=hb.size;have k:=yS (k.out.later hb);have o:=yS (o.out.later hb);have t:=yS (t.out.later hb);have B:=yS (B.out.later hb);have V:=yS (V.out.later hb);have a:=yS (a.out.later hb);clear b c;have b:=a.out.at (i:=0) rfl;have c:=a.out.at (i:=1) rfl;have f:=yS (f.out.later hb);clear g j;have g:=f.out.at (i:=0) rfl;have j:=f.out.at (i:=1) rfl;clear B28;have ba:=yS gt;have ge_h0:=yS gt.own.ge;have lt_h0:=yS gt.lt;clear gt hb p))
 clear t
 clear B
 clear V
 go_wp2_with fail
 refine (Zil b9 br _ ca bs _ cb bt _ rfl yE (ZH ba.out.rep).2.2 (ZH k.out.rep).2.2).mono ?_
 rintro e w30 ⟨rfl,hb⟩
 have B30:=yS (B29.out.trans (hb.mono B29.out.size))
 have sz30:=hb.size
 have k:=yS (k.out.later hb)
 have o:=yS (o.out.later hb)
 have ba:=yS (ba.out.later hb)
 have a:=yS (a.out.later hb)
 clear b c
 have b:=a.out.at (i:=0) rfl
 have c:=a.out.at (i:=1) rfl
 have f:=yS (f.out.later hb)
 clear g j
 have g:=f.out.at (i:=0) rfl
 have j:=f.out.at (i:=1) rfl
 clear B29
 clear hb
 go_wp2_with fail
 refine (ZJM a1 _ a2 R0 a3 _ _ rfl yE yE (ZH o.out.rep).2.2).mono ?_
 rintro e w31 ⟨rfl,hb⟩
 have B31:=yS (B30.out.trans (hb.mono B30.out.size))
 have sz31:=hb.size
 have k:=yS (k.out.later hb)
 have o:=yS (o.out.later hb)
 have ba:=yS (ba.out.later hb)
 have a:=yS (a.out.later hb)
 clear b c
 have b:=a.out.at (i:=0) rfl
 have c:=a.out.at (i:=1) rfl
 have f:=yS (f.out.later hb)
 clear g j
 have g:=f.out.at (i:=0) rfl
 have j:=f.out.at (i:=1) rfl
 clear B30
 clear hb
 have qn31:¬(Z5 ((1:Int)) R0<0):=by omega
 have qm31:((Z5 ((1:Int)) R0) != (Z5 ((1:Int)) R0))=false:=by simp
 go_wp2_with fail
 go_ret
 exact ⟨rfl,B31.out⟩
end
section
open Go.RowKit
theorem Zvm:ZjE prog 48 Z8 Zua:=by
 intro H c w base a b fuel cs x h
 obtain ⟨xs,n,_,_,d,e,hf⟩:=DataW.trod_struct underlying48 h
 have hl:cs.length=2:=d.trans yO
 have hx:xs.length=2:=e
 match cs,hl with
 | [a0,a1],_=>
  have f0:DataW.trod c prog w base a b n 9 [a0]=some (xs[0]'yE):=by
   have this:DataW.trod c prog w base a b n 9 (A4 (prog.cellsOf 9) (A5 0 [a0,a1]))=_:=(hf 0 _ rfl).trans (A3 (show 0<xs.length by omega))
   rw [show prog.cellsOf 9=1 by kernel_rfl]at this
   exact this
  have f1:DataW.trod c prog w base a b n 46 [a1]=some (xs[1]'yE):=by
   have this:DataW.trod c prog w base a b n 46 (A4 (prog.cellsOf 46) (A5 1 [a0,a1]))=_:=(hf 1 _ rfl).trans (A3 (show 1<xs.length by omega))
   rw [show prog.cellsOf 46=1 by kernel_rfl]at this
   exact this
  obtain ⟨d0,M0,r0,w0⟩:=(QQ underlying9) f0
  obtain ⟨e0,_,t0⟩:=r0
  cases e0
  obtain ⟨d1,M1,r1,w1⟩:=(Zal underlying46 yO (QQ underlying9)) f1
  obtain ⟨A1,c1,e1,n1,m1,s1⟩:=r1
  cases e1
  exact ⟨⟨d0,d1⟩,_,⟨A1,c1,M1,rfl,rfl,t0,n1,m1,s1⟩,⟨w0,w1⟩⟩
theorem ZjY:ZjE prog 101 Qq ZkT:=by
 intro H c w base a b fuel cs x h
 obtain ⟨xs,n,_,_,d,e,hf⟩:=DataW.trod_struct underlying101 h
 have hl:cs.length=2:=d.trans yO
 have hx:xs.length=2:=e
 match cs,hl with
 | [a0,a1],_=>
  have f0:DataW.trod c prog w base a b n 9 [a0]=some (xs[0]'yE):=by
   have this:DataW.trod c prog w base a b n 9 (A4 (prog.cellsOf 9) (A5 0 [a0,a1]))=_:=(hf 0 _ rfl).trans (A3 (show 0<xs.length by omega))
   rw [show prog.cellsOf 9=1 by kernel_rfl]at this
   exact this
  have f1:DataW.trod c prog w base a b n 46 [a1]=some (xs[1]'yE):=by
   have this:DataW.trod c prog w base a b n 46 (A4 (prog.cellsOf 46) (A5 1 [a0,a1]))=_:=(hf 1 _ rfl).trans (A3 (show 1<xs.length by omega))
   rw [show prog.cellsOf 46=1 by kernel_rfl]at this
   exact this
  obtain ⟨d0,M0,r0,w0⟩:=(QQ underlying9) f0
  obtain ⟨e0,_,t0⟩:=r0
  cases e0
  obtain ⟨d1,M1,r1,w1⟩:=(Zal underlying46 yO (QQ underlying9)) f1
  obtain ⟨A1,c1,e1,n1,m1,s1⟩:=r1
  cases e1
  exact ⟨⟨d0,d1⟩,_,⟨A1,c1,M1,rfl,rfl,t0,n1,m1,s1⟩,⟨w0,w1⟩⟩
theorem ZpY:ZjE prog 103 YL Zp7:=by
 intro H c w base a b fuel cs x h
 obtain ⟨xs,n,_,_,d,e,hf⟩:=DataW.trod_struct underlying103 h
 have hl:cs.length=5:=d.trans yO
 have hx:xs.length=4:=e
 match cs,hl with
 | [a0,a1,a2,a3,a4],_=>
  have f0:DataW.trod c prog w base a b n 3 [a0]=some (xs[0]'yE):=by
   have this:DataW.trod c prog w base a b n 3 (A4 (prog.cellsOf 3) (A5 0 [a0,a1,a2,a3,a4]))=_:=(hf 0 _ rfl).trans (A3 (show 0<xs.length by omega))
   rw [show prog.cellsOf 3=1 by kernel_rfl]at this
   exact this
  have f1:DataW.trod c prog w base a b n 101 [a1,a2]=some (xs[1]'yE):=by
   have this:DataW.trod c prog w base a b n 101 (A4 (prog.cellsOf 101) (A5 1 [a0,a1,a2,a3,a4]))=_:=(hf 1 _ rfl).trans (A3 (show 1<xs.length by omega))
   rw [show prog.cellsOf 101=2 by kernel_rfl]at this
   exact this
  have f2:DataW.trod c prog w base a b n 9 [a3]=some (xs[2]'yE):=by
   have this:DataW.trod c prog w base a b n 9 (A4 (prog.cellsOf 9) (A5 3 [a0,a1,a2,a3,a4]))=_:=(hf 2 _ rfl).trans (A3 (show 2<xs.length by omega))
   rw [show prog.cellsOf 9=1 by kernel_rfl]at this
   exact this
  have f3:DataW.trod c prog w base a b n 9 [a4]=some (xs[3]'yE):=by
   have this:DataW.trod c prog w base a b n 9 (A4 (prog.cellsOf 9) (A5 4 [a0,a1,a2,a3,a4]))=_:=(hf 3 _ rfl).trans (A3 (show 3<xs.length by omega))
   rw [show prog.cellsOf 9=1 by kernel_rfl]at this
   exact this
  obtain ⟨d0,M0,r0,w0⟩:=(ZkD underlying3) f0
  obtain ⟨e0,_⟩:=r0
  cases e0
  obtain ⟨d1,M1,r1,w1⟩:=ZjY f1
  obtain ⟨A1,c1,N1,e1,g1,t0,n1,m1,s1⟩:=r1
  cases e1
  subst g1
  obtain ⟨d2,M2,r2,w2⟩:=(QQ underlying9) f2
  obtain ⟨e2,_,t1⟩:=r2
  cases e2
  obtain ⟨d3,M3,r3,w3⟩:=(QQ underlying9) f3
  obtain ⟨e3,_,t2⟩:=r3
  cases e3
  exact ⟨⟨d0,d1,d2,d3⟩,_,⟨A1,c1,M1,rfl,rfl,t0,t1,t2,n1,m1,s1⟩,⟨w0,w1,w2,w3⟩⟩
theorem ZsR:ZjE prog 206 Yp ZrH:=by
 intro H c w base a b fuel cs x h
 obtain ⟨xs,n,_,_,d,e,hf⟩:=DataW.trod_struct underlying206 h
 have hl:cs.length=3:=d.trans yO
 have hx:xs.length=2:=e
 match cs,hl with
 | [a0,a1,a2],_=>
  have f0:DataW.trod c prog w base a b n 3 [a0]=some (xs[0]'yE):=by
   have this:DataW.trod c prog w base a b n 3 (A4 (prog.cellsOf 3) (A5 0 [a0,a1,a2]))=_:=(hf 0 _ rfl).trans (A3 (show 0<xs.length by omega))
   rw [show prog.cellsOf 3=1 by kernel_rfl]at this
   exact this
  have f1:DataW.trod c prog w base a b n 101 [a1,a2]=some (xs[1]'yE):=by
   have this:DataW.trod c prog w base a b n 101 (A4 (prog.cellsOf 101) (A5 1 [a0,a1,a2]))=_:=(hf 1 _ rfl).trans (A3 (show 1<xs.length by omega))
   rw [show prog.cellsOf 101=2 by kernel_rfl]at this
   exact this
  obtain ⟨d0,M0,r0,w0⟩:=(ZkD underlying3) f0
  obtain ⟨e0,_⟩:=r0
  cases e0
  obtain ⟨d1,M1,r1,w1⟩:=ZjY f1
  obtain ⟨A1,c1,N1,e1,g1,t0,n1,m1,s1⟩:=r1
  cases e1
  subst g1
  exact ⟨⟨d0,d1⟩,_,⟨A1,c1,M1,rfl,rfl,t0,n1,m1,s1⟩,⟨w0,w1⟩⟩
theorem Zwb:ZjE prog 99 XW ZtX:=by
 intro H c w base a b fuel cs x h
 obtain ⟨xs,n,_,_,d,e,hf⟩:=DataW.trod_struct underlying99 h
 have hl:cs.length=4:=d.trans yO
 have hx:xs.length=4:=e
 match cs,hl with
 | [a0,a1,a2,a3],_=>
  have f0:DataW.trod c prog w base a b n 9 [a0]=some (xs[0]'yE):=by
   have this:DataW.trod c prog w base a b n 9 (A4 (prog.cellsOf 9) (A5 0 [a0,a1,a2,a3]))=_:=(hf 0 _ rfl).trans (A3 (show 0<xs.length by omega))
   rw [show prog.cellsOf 9=1 by kernel_rfl]at this
   exact this
  have f1:DataW.trod c prog w base a b n 3 [a1]=some (xs[1]'yE):=by
   have this:DataW.trod c prog w base a b n 3 (A4 (prog.cellsOf 3) (A5 1 [a0,a1,a2,a3]))=_:=(hf 1 _ rfl).trans (A3 (show 1<xs.length by omega))
   rw [show prog.cellsOf 3=1 by kernel_rfl]at this
   exact this
  have f2:DataW.trod c prog w base a b n 24 [a2]=some (xs[2]'yE):=by
   have this:DataW.trod c prog w base a b n 24 (A4 (prog.cellsOf 24) (A5 2 [a0,a1,a2,a3]))=_:=(hf 2 _ rfl).trans (A3 (show 2<xs.length by omega))
   rw [show prog.cellsOf 24=1 by kernel_rfl]at this
   exact this
  have f3:DataW.trod c prog w base a b n 97 [a3]=some (xs[3]'yE):=by
   have this:DataW.trod c prog w base a b n 97 (A4 (prog.cellsOf 97) (A5 3 [a0,a1,a2,a3]))=_:=(hf 3 _ rfl).trans (A3 (show 3<xs.length by omega))
   rw [show prog.cellsOf 97=1 by kernel_rfl]at this
   exact this
  obtain ⟨d0,M0,r0,w0⟩:=(QQ underlying9) f0
  obtain ⟨e0,_,t0⟩:=r0
  cases e0
  obtain ⟨d1,M1,r1,w1⟩:=(ZkD underlying3) f1
  obtain ⟨e1,_⟩:=r1
  cases e1
  obtain ⟨d2,M2,r2,w2⟩:=(Zal underlying24 yO ZpY) f2
  obtain ⟨A1,c1,e2,n1,m1,s1⟩:=r2
  cases e2
  obtain ⟨d3,M3,r3,w3⟩:=(Zal underlying97 yO ZsR) f3
  obtain ⟨A2,c2,e3,n2,m2,s2⟩:=r3
  cases e3
  exact ⟨⟨d0,d1,d2,d3⟩,_,⟨A1,c1,M2,A2,c2,M3,rfl,rfl,t0,n1,m1,s1,n2,m2,s2⟩,⟨w0,w1,w2,w3⟩⟩
end
section
open Go.Lib
theorem ZoN {H:Type}{f:TypeId×Value->H}{P:Program}{w:World}{base:Nat}{sp:Nat->Bool}{c:Bool}{a:Nat}{t e:TypeId}{n:Nat}{cs:List Value}{ss:List (List UInt8)}{p:List MemPlace}
  (ht:P.underlying t=some (.array n e)) (he:P.underlying e=some .string) (g:P.cellsOf e=1) (j:P.cellsOf t=n)
  (h:DataW.trod f P w base sp c a t cs=some (.agg (ss.map fun s=>.lit (.string s)),p)):cs=ss.map fun s=>Value.string (ofL s):=by
 cases a with
 |zero=>simp [DataW.trod]at h
 |succ a=>
  simp only[DataW.trod,ht,g,j,AH]at h
  split at h
  .rename_i hl
   obtain ⟨xs,hm,hx⟩:=AQ.1 h
   have d:xs.map (·.1)=ss.map fun s=>(DataW.lit (.string s):DataW H):=by
    have:=congrArg Prod.fst hx
    simpa using this
   have hxl:xs.length=n:=by simpa using mapM_length hm
   have hzl:ss.length=n:=by
    have:=congrArg List.length d
    simp at this
    omega
   apply List.ext_getElem?
   intro i
   by_cases hi:i<n
   .obtain ⟨b,hb,hf⟩:=mapM_at hm i i (by simp [hi])
    obtain ⟨s,hc,rfl,_⟩:=DataW.trod_string he hf
    have h1:cs[i]?=some (.string s):=by
     have:=congrArg (·[0]?) hc
     simpa [List.getElem?_take,List.getElem?_drop]using this
    have h2:(xs.map (·.1))[i]?=some (DataW.lit (.string s.data.toList):DataW H):=by simp [hb]
    rw [d]at h2
    simp only[List.getElem?_map,AQ,DataW.lit.injEq,Lit.string.injEq]at h2
    obtain ⟨s',k,rfl⟩:=h2
    have e:ofL s.data.toList=s:=by unfold ofL;simp
    simp [h1,k,e]
   .rw [AR yE,AR (by simp;omega)]
  .cases h
theorem ZqK {P:Program}{W:World}{a:String}{ss:List (List UInt8)}{b:List (String×DataW Unit)}{g:Nat}{t e:TypeId}{n:Nat}
  (hg:P.globalNamed a=some g) (d:(P.globals[g]?).map (·.type)=some t) (ht:P.underlying t=some (.array n e)) (he:P.underlying e=some .string) (f:P.cellsOf e=1) (i:P.cellsOf t=n)
  (h:laidMet P ((a,.agg (ss.map fun s=>.lit (.string s)))::b) W):W.var? P a=some (ss.map fun s=>Value.string (ofL s)).toArray:=by
 obtain ⟨ps,⟨g',t',cs,fuel,p,q,j,k,c,hd,_,_⟩,_⟩:=h
 obtain rfl:=AS (hg.symm.trans j)
 obtain rfl:=AS (d.symm.trans k)
 rw [c,<-ZoN ht he f i hd]
end
end Go.Proofs.YtlpkbfjcdaanmaaGreatDoor
