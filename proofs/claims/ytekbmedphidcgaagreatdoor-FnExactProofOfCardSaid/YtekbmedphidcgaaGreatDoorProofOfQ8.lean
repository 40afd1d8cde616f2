/- Texts of this proof, joined: Sz, To, Eq, MText, Mk, Mark, Held, Open, ExactProofOf, Opens. What each holds is said at its theorems. -/
import Derived.Test.YtekbmedphidcgaaGreatDoorProg
import Derived.Test.YtekbmedphidcgaaGreatDoorProofOfQ1
import Derived.Outline
import Derived.WalkSpells
import Derived.StillTailTactics
import Derived.WalkLawsBesides
import Derived.Deep.RegionHeld3
import Derived.Deep.Slices
import Derived.ChangeArms
import Derived.ProofKit
import Derived.Test.YtekbmedphidcgaaGreatDoorProofOfQ3
import Derived.Test.YtekbmedphidcgaaGreatDoorProofOfQ7
import Derived.Test.YtekbmedphidcgaaGreatDoorProofOfQ6
open Array renaming size_push→AS
open ByteArray renaming size→AQ
open Go.ByteArray renaming mk_append_mk→AR
open Int renaming le_trans→AA,le_refl→AK
open List renaming drop_eq_getElem_cons→A5,drop_of_length_le→A6,getElem?_eq_getElem→A7,take→A8,drop→A9,mem_append→AD,set_append_right→AE,set_cons_zero→AF,mem_cons→AG,append_nil→AH,length_cons→AI,append_assoc→AJ,map_cons→AL,sum_cons→AM,getElem_append_right→AN,drop_zero→AO
open Nat renaming add_zero→A0,zero_le→A3,le_refl→A4,lt_of_lt_of_le→AB,mul_one→AC
open UInt8 renaming ofNat→AP
open Go.Proofs.Tryz
set_option linter.unusedSimpArgs false
set_option linter.unusedVariables false
set_option maxRecDepth 1000000
set_option maxHeartbeats 4000000
namespace Go.Proofs.YtekbmedphidcgaaGreatDoor
section
open Go.RowKit
theorem ZEZ (A:Option Addr) (n c:Nat) (ds:List ByteArray) (L:List Nat) (a:Int) (w:World) (hn:n=ds.length) (hm:n≤9223372036854775807) (h0:0≤a) (h1:a≤1048576) (h:Sli ZCD w A ds L):
  Calls prog 95 #[.slice A n c,.int .i64 a] w (ZEw (ZDs ds) a w):=by
 have H:=Lib.hid h
 have HN:=Lib.hid hn
 clear h hn
 by_cases hlen:(n:Int)≤a
 ·go_enter func95,ntmps95
  go_wp2
  go_loop [1,5] (fun q i=>∃(k:Nat) (l:Int),k≤n∧i=.int .i64 k∧q=.int .i64 l∧0≤l∧l≤a∧Hid (szR ((ds.drop k).map AQ).sum l=szR (ZDs ds) a)) (fun _ i=>n - (intOf i).toNat)
  case atStart=>exact ⟨0,a - n,A3 _,rfl,rfl,yE,yE,Lib.hid (by
    have e:=HN.out
    exact ZDV _ _ _ _ yE (by simp [ZDs];omega))⟩
  case round=>
   obtain ⟨k,l,hk,rfl,rfl,g,hl1,HE⟩:=hrel
   by_cases hlt:k<n
   ·obtain ⟨b,off,cs,Lk,rfl,_,_,d,hc⟩:=H.out.at_ (show k<ds.length by have:=HN.out;omega)
    obtain ⟨rfl,_,j⟩:=ZID d
    have f:=hc 0 _ rfl
    clear hc d
    have hd:Hid (ds.drop k=ds[k]'(by have:=HN.out;omega)::ds.drop (k+1)):=A5 _
    generalize ds[k]'(by have:=HN.out;omega)=s at f hd j
    simp only[show ZCD.size=1 from rfl,AC,A0] at f
    by_cases hs:(s.size:Int)≤l
    ·go_wp2
     go_round
     case rel=>exact ⟨k+1,l - s.size,yE,by go_num,rfl,yE,yE,Lib.hid (by rw [←HE.out,hd.out];exact ZDV _ _ _ _ yE yG)⟩
     case measure=>simp [intOf];omega
    ·go_wp2
     go_ret
     exact ⟨ZDf (by rw [←HE.out,hd.out,ZCZ (by simp;omega)]),Below.refl _ _⟩
   ·go_wp2
    go_ret
    exact ⟨ZDf (by rw [←HE.out,A6 (by have:=HN.out;omega)];simp [szR,g]),Below.refl _ _⟩
 ·go_enter func95,ntmps95
  go_wp2
  go_ret
  exact ⟨ZDf (by rw [ZCZ (by have:=HN.out;simp [ZDs];omega)]),Below.refl _ _⟩
theorem ZFd (cs:List Value) (x:Zd) (L:List Nat) (a:Int) (w:World) (h0:0≤a) (h1:a≤1048576) (h:ZDc.rep w cs x L):
  Calls prog 38 #[.agg cs.toArray,.int .i64 a] w (ZEw (ZC2 x) a w):=by
 obtain ⟨A1,c1,L1,rfl,_hL,t0,n1,m1,s1⟩:=h
 unfold maxLen at m1
 have S1:=Lib.hid s1
 clear s1
 have B0:Hid (Below w.heap.size w (w.alloc (.cells #[.string x.rel,.slice A1 x.args.length c1] 66))):=(Below.refl _ _).alloc (A4 _) _
 have K0:Hid (Blk (w.alloc (.cells #[.string x.rel,.slice A1 x.args.length c1] 66)) w.heap.size 66 #[.string x.rel,.slice A1 x.args.length c1]):=Blk.new _ _ _
 go_enter func38,ntmps38
 by_cases k1:(x.rel.size:Int)≤a
 rotate_left
 ·go_wp2_with fail
  go_ret
  exact ⟨ZDf (by rw [ZCZ (by simp only[ZC2];omega)]),B0.out⟩
 go_wp2_with fail
 refine (ZEZ A1 _ c1 x.args L1 _ _ rfl yE yE yE (S1.out.below B0.out)).mono ?_
 rintro e w1 ⟨rfl,b⟩
 have B1:=Lib.hid (B0.out.trans (b.mono B0.out.size))
 have K1:=Lib.hid (K0.out.later b)
 have f0:=K1.out.at (i:=0) rfl
 have f1:=K1.out.at (i:=1) rfl
 clear b
 by_cases k2:((ZDs x.args:Nat):Int)≤a - x.rel.size
 rotate_left
 ·rw [ZCZ k2]
  go_wp2_with fail
  go_ret
  exact ⟨ZDf (by rw [ZCZ (by simp only[ZC2];omega)]),B1.out⟩
 rw [ZDo k2]
 go_wp2_with fail
 go_ret
 exact ⟨ZDf (by rw [ZDo (by simp only[ZC2];omega)]<;>simp only[ZC2]<;>omega),B1.out⟩
theorem ZHM (A:Option Addr) (n c:Nat) (ds:List Zd) (L:List Nat) (a:Int) (w:World) (hn:n=ds.length) (hm:n≤9223372036854775807) (h0:0≤a) (h1:a≤1048576) (h:Sli ZDc w A ds L):
  Calls prog 11 #[.slice A n c,.int .i64 a] w (ZEw (ZDa ds) a w):=by
 have H:=Lib.hid h
 have HN:=Lib.hid hn
 clear h hn
 by_cases hlen:(n:Int)≤a
 ·go_enter func11,ntmps11
  go_wp2
  go_loopw [1,5] (fun q i wr=>∃(k:Nat) (l:Int),k≤n∧i=.int .i64 k∧q=.int .i64 l∧0≤l∧l≤a∧Hid (Below w.heap.size w wr)∧Hid (szR ((ds.drop k).map ZC2).sum l=szR (ZDa ds) a)) (fun _ i _=>n - (intOf i).toNat)
  case atStart=>exact ⟨0,a - n,A3 _,rfl,rfl,yE,yE,Below.refl _ _,Lib.hid (by
    have e:=HN.out
    exact ZDV _ _ _ _ yE (by simp only[ZDa,AO];omega))⟩
  case round=>
   obtain ⟨k,l,hk,rfl,rfl,j,hl1,HB,HE⟩:=hrel
   by_cases hlt:k<n
   ·have o:k<ds.length:=by have:=HN.out;omega
    obtain ⟨b,off,cs,Lk,rfl,t,u,d,hc⟩:=H.out.at_ o
    have g:b<w.heap.size:=H.out.lt b t
    have HR:=Lib.hid (ZDc.keep d (ZCW HB.out (fun y m=>H.out.lt y (u y m))))
    obtain ⟨A1,c1,rfl⟩:=ZDq d
    have q0:wr.cell? ⟨b,off+k * 2,none⟩=_:=(HB.out.cell (p:=⟨b,off+(k * 2+0),none⟩) g).trans (hc 0 _ rfl)
    have q1:wr.cell? ⟨b,off+k * 2+1,none⟩=_:=(HB.out.cell (p:=⟨b,off+(k * 2+1),none⟩) g).trans (hc 1 _ rfl)
    have hd:Hid (ds.drop k=ds[k]::ds.drop (k+1)):=A5 _
    generalize ds[k]=x at *
    clear hc d
    by_cases hs:(ZC2 x:Int)≤l
    ·go_wp2_with (go_at_call 38;refine (ZFd _ x Lk _ _ yE yE HR.out).mono ?_;rintro e w1 ⟨rfl,f⟩;rw [ZDo hs];have HB1:=Lib.hid (HB.out.trans (f.mono HB.out.size));clear f)
     go_roundw
     case rel=>exact ⟨k+1,l - ZC2 x,yE,by go_num,rfl,yE,yE,HB1.out,Lib.hid (by rw [←HE.out,hd.out];exact ZDV _ _ _ _ yE yG)⟩
     case measure=>simp [intOf];omega
    ·go_wp2_with (go_at_call 38;refine (ZFd _ x Lk _ _ yE yE HR.out).mono ?_;rintro e w1 ⟨rfl,f⟩;rw [ZCZ hs];have HB1:=Lib.hid (HB.out.trans (f.mono HB.out.size));clear f)
     go_ret
     exact ⟨ZDf (by rw [←HE.out,hd.out,ZCZ (by simp;omega)]),HB1.out⟩
   ·go_wp2
    go_ret
    exact ⟨ZDf (by rw [←HE.out,A6 (by have:=HN.out;omega)];simp [szR,j]),HB.out⟩
 ·go_enter func11,ntmps11
  go_wp2
  go_ret
  exact ⟨ZDf (by rw [ZCZ (by have:=HN.out;simp only[ZDa];omega)]),Below.refl _ _⟩
theorem ZEY (cs:List Value) (x:Zv) (L:List Nat) (a:Int) (w:World) (h0:0≤a) (h1:a≤1048576) (h:ZEp.rep w cs x L):
  Calls prog 131 #[.agg cs.toArray,.int .i64 a] w (ZEw (ZC1 x) a w):=by
 obtain ⟨A1,c1,L1,rfl,_hL,t0,n1,m1,s1⟩:=h
 unfold maxLen at m1
 have S1:=Lib.hid s1
 clear s1
 have B0:Hid (Below w.heap.size w (w.alloc (.cells #[.string x.rel,.slice A1 x.args.length c1] 111))):=(Below.refl _ _).alloc (A4 _) _
 have K0:Hid (Blk (w.alloc (.cells #[.string x.rel,.slice A1 x.args.length c1] 111)) w.heap.size 111 #[.string x.rel,.slice A1 x.args.length c1]):=Blk.new _ _ _
 go_enter func131,ntmps131
 by_cases k1:(x.rel.size:Int)≤a
 rotate_left
 ·go_wp2_with fail
  go_ret
  exact ⟨ZDf (by rw [ZCZ (by simp only[ZC1];omega)]),B0.out⟩
 go_wp2_with fail
 refine (ZEZ A1 _ c1 x.args L1 _ _ rfl yE yE yE (S1.out.below B0.out)).mono ?_
 rintro e w1 ⟨rfl,b⟩
 have B1:=Lib.hid (B0.out.trans (b.mono B0.out.size))
 have K1:=Lib.hid (K0.out.later b)
 have f0:=K1.out.at (i:=0) rfl
 have f1:=K1.out.at (i:=1) rfl
 clear b
 by_cases k2:((ZDs x.args:Nat):Int)≤a - x.rel.size
 rotate_left
 ·rw [ZCZ k2]
  go_wp2_with fail
  go_ret
  exact ⟨ZDf (by rw [ZCZ (by simp only[ZC1];omega)]),B1.out⟩
 rw [ZDo k2]
 go_wp2_with fail
 go_ret
 exact ⟨ZDf (by rw [ZDo (by simp only[ZC1];omega)]<;>simp only[ZC1]<;>omega),B1.out⟩
theorem ZF4 (cs:List Value) (x:Zr) (L:List Nat) (a:Int) (w:World) (h0:0≤a) (h1:a≤1048576) (h:ZDC.rep w cs x L):
  Calls prog 70 #[.agg cs.toArray,.int .i64 a] w (ZEw (ZDl x) a w):=by
 obtain ⟨A1,c1,L1,rfl,_hL,t0,t1,t2,n1,m1,s1⟩:=h
 unfold maxLen at m1
 have S1:=Lib.hid s1
 clear s1
 have B0:Hid (Below w.heap.size w (w.alloc (.cells #[.int .i64 x.kind,.string x.pattern.rel,.slice A1 x.pattern.args.length c1,.string x.left,.string x.right] 113))):=(Below.refl _ _).alloc (A4 _) _
 have K0:Hid (Blk (w.alloc (.cells #[.int .i64 x.kind,.string x.pattern.rel,.slice A1 x.pattern.args.length c1,.string x.left,.string x.right] 113)) w.heap.size 113 #[.int .i64 x.kind,.string x.pattern.rel,.slice A1 x.pattern.args.length c1,.string x.left,.string x.right]):=Blk.new _ _ _
 go_enter func70,ntmps70
 go_wp2_with fail
 refine (ZEY [.string x.pattern.rel,.slice A1 x.pattern.args.length c1] x.pattern _ _ _ yE yE ⟨A1,c1,L1,rfl,rfl,t0,n1,(by unfold maxLen;omega),S1.out.below B0.out⟩).mono ?_
 rintro e w1 ⟨rfl,b⟩
 have B1:=Lib.hid (B0.out.trans (b.mono B0.out.size))
 have K1:=Lib.hid (K0.out.later b)
 have f0:=K1.out.at (i:=0) rfl
 have f1:=K1.out.at (i:=1) rfl
 have f2:=K1.out.at (i:=2) rfl
 have f3:=K1.out.at (i:=3) rfl
 have f4:=K1.out.at (i:=4) rfl
 clear b
 by_cases k1:((ZC1 x.pattern:Nat):Int)≤a
 rotate_left
 ·rw [ZCZ k1]
  go_wp2_with fail
  go_ret
  exact ⟨ZDf (by rw [ZCZ (by simp only[ZDl];omega)]),B1.out⟩
 rw [ZDo k1]
 by_cases k2:(x.left.size:Int)≤a - (ZC1 x.pattern:Nat)
 rotate_left
 ·go_wp2_with fail
  go_ret
  exact ⟨ZDf (by rw [ZCZ (by simp only[ZDl];omega)]),B1.out⟩
 by_cases k3:(x.right.size:Int)≤a - (ZC1 x.pattern:Nat) - x.left.size
 rotate_left
 ·go_wp2_with fail
  go_ret
  exact ⟨ZDf (by rw [ZCZ (by simp only[ZDl];omega)]),B1.out⟩
 go_wp2_with fail
 go_ret
 exact ⟨ZDf (by rw [ZDo (by simp only[ZDl];omega)]<;>simp only[ZDl]<;>omega),B1.out⟩
theorem ZHN (A:Option Addr) (n c:Nat) (ds:List Zr) (L:List Nat) (a:Int) (w:World) (hn:n=ds.length) (hm:n≤9223372036854775807) (h0:0≤a) (h1:a≤1048576) (h:Sli ZDC w A ds L):
  Calls prog 21 #[.slice A n c,.int .i64 a] w (ZEw (ZDh ds) a w):=by
 have H:=Lib.hid h
 have HN:=Lib.hid hn
 clear h hn
 by_cases hlen:(n:Int)≤a
 ·go_enter func21,ntmps21
  go_wp2
  go_loopw [1,5] (fun q i wr=>∃(k:Nat) (l:Int),k≤n∧i=.int .i64 k∧q=.int .i64 l∧0≤l∧l≤a∧Hid (Below w.heap.size w wr)∧Hid (szR ((ds.drop k).map ZDl).sum l=szR (ZDh ds) a)) (fun _ i _=>n - (intOf i).toNat)
  case atStart=>exact ⟨0,a - n,A3 _,rfl,rfl,yE,yE,Below.refl _ _,Lib.hid (by
    have e:=HN.out
    exact ZDV _ _ _ _ yE (by simp only[ZDh,AO];omega))⟩
  case round=>
   obtain ⟨k,l,hk,rfl,rfl,j,hl1,HB,HE⟩:=hrel
   by_cases hlt:k<n
   ·have o:k<ds.length:=by have:=HN.out;omega
    obtain ⟨b,off,cs,Lk,rfl,t,u,d,hc⟩:=H.out.at_ o
    have f:b<w.heap.size:=H.out.lt b t
    have HR:=Lib.hid (ZDC.keep d (ZCW HB.out (fun y m=>H.out.lt y (u y m))))
    obtain ⟨A1,c1,rfl⟩:=ZEc d
    have q0:wr.cell? ⟨b,off+k * 5,none⟩=_:=(HB.out.cell (p:=⟨b,off+(k * 5+0),none⟩) f).trans (hc 0 _ rfl)
    have q1:wr.cell? ⟨b,off+k * 5+1,none⟩=_:=(HB.out.cell (p:=⟨b,off+(k * 5+1),none⟩) f).trans (hc 1 _ rfl)
    have q2:wr.cell? ⟨b,off+k * 5+2,none⟩=_:=(HB.out.cell (p:=⟨b,off+(k * 5+2),none⟩) f).trans (hc 2 _ rfl)
    have q3:wr.cell? ⟨b,off+k * 5+3,none⟩=_:=(HB.out.cell (p:=⟨b,off+(k * 5+3),none⟩) f).trans (hc 3 _ rfl)
    have q4:wr.cell? ⟨b,off+k * 5+4,none⟩=_:=(HB.out.cell (p:=⟨b,off+(k * 5+4),none⟩) f).trans (hc 4 _ rfl)
    have hd:Hid (ds.drop k=ds[k]::ds.drop (k+1)):=A5 _
    generalize ds[k]=x at *
    clear hc d
    by_cases hs:(ZDl x:Int)≤l
    ·go_wp2_with (go_at_call 70;refine (ZF4 _ x Lk _ _ yE yE HR.out).mono ?_;rintro e w1 ⟨rfl,g⟩;rw [ZDo hs];have HB1:=Lib.hid (HB.out.trans (g.mono HB.out.size));clear g)
     go_roundw
     case rel=>exact ⟨k+1,l - ZDl x,yE,by go_num,rfl,yE,yE,HB1.out,Lib.hid (by rw [←HE.out,hd.out];exact ZDV _ _ _ _ yE yG)⟩
     case measure=>simp [intOf];omega
    ·go_wp2_with (go_at_call 70;refine (ZF4 _ x Lk _ _ yE yE HR.out).mono ?_;rintro e w1 ⟨rfl,g⟩;rw [ZCZ hs];have HB1:=Lib.hid (HB.out.trans (g.mono HB.out.size));clear g)
     go_ret
     exact ⟨ZDf (by rw [←HE.out,hd.out,ZCZ (by simp;omega)]),HB1.out⟩
   ·go_wp2
    go_ret
    exact ⟨ZDf (by rw [←HE.out,A6 (by have:=HN.out;omega)];simp [szR,j]),HB.out⟩
 ·go_enter func21,ntmps21
  go_wp2
  go_ret
  exact ⟨ZDf (by rw [ZCZ (by have:=HN.out;simp only[ZDh];omega)]),Below.refl _ _⟩
theorem ZFt (cs:List Value) (x:Zx) (L:List Nat) (a:Int) (w:World) (h0:0≤a) (h1:a≤1048576) (h:ZC8.rep w cs x L):
  Calls prog 195 #[.agg cs.toArray,.int .i64 a] w (ZEw (ZC9 x) a w):=by
 obtain ⟨A1,c1,L1,rfl,_hL,t0,n1,m1,s1⟩:=h
 unfold maxLen at m1
 have S1:=Lib.hid s1
 clear s1
 have B0:Hid (Below w.heap.size w (w.alloc (.cells #[.int .i64 x.kind,.string x.pattern.rel,.slice A1 x.pattern.args.length c1] 221))):=(Below.refl _ _).alloc (A4 _) _
 have K0:Hid (Blk (w.alloc (.cells #[.int .i64 x.kind,.string x.pattern.rel,.slice A1 x.pattern.args.length c1] 221)) w.heap.size 221 #[.int .i64 x.kind,.string x.pattern.rel,.slice A1 x.pattern.args.length c1]):=Blk.new _ _ _
 go_enter func195,ntmps195
 go_wp2_with fail
 refine (ZEY [.string x.pattern.rel,.slice A1 x.pattern.args.length c1] x.pattern _ _ _ yE yE ⟨A1,c1,L1,rfl,rfl,t0,n1,(by unfold maxLen;omega),S1.out.below B0.out⟩).mono ?_
 rintro e w1 ⟨rfl,b⟩
 have B1:=Lib.hid (B0.out.trans (b.mono B0.out.size))
 have K1:=Lib.hid (K0.out.later b)
 have f0:=K1.out.at (i:=0) rfl
 have f1:=K1.out.at (i:=1) rfl
 have f2:=K1.out.at (i:=2) rfl
 clear b
 by_cases k1:((ZC1 x.pattern:Nat):Int)≤a
 rotate_left
 ·rw [ZCZ k1]
  go_wp2_with fail
  go_ret
  exact ⟨ZDf (by rw [ZCZ (by simp only[ZC9];omega)]),B1.out⟩
 rw [ZDo k1]
 go_wp2_with fail
 go_ret
 exact ⟨ZDf (by rw [ZDo (by simp only[ZC9];omega)]<;>simp only[ZC9]<;>omega),B1.out⟩
theorem ZGm (A:Option Addr) (n c:Nat) (ds:List Zx) (L:List Nat) (a:Int) (w:World) (hn:n=ds.length) (hm:n≤9223372036854775807) (h0:0≤a) (h1:a≤1048576) (h:Sli ZC8 w A ds L):
  Calls prog 126 #[.slice A n c,.int .i64 a] w (ZEw (ZC7 ds) a w):=by
 have H:=Lib.hid h
 have HN:=Lib.hid hn
 clear h hn
 by_cases hlen:(n:Int)≤a
 ·go_enter func126,ntmps126
  go_wp2
  go_loopw [1,5] (fun q i wr=>∃(k:Nat) (l:Int),k≤n∧i=.int .i64 k∧q=.int .i64 l∧0≤l∧l≤a∧Hid (Below w.heap.size w wr)∧Hid (szR ((ds.drop k).map ZC9).sum l=szR (ZC7 ds) a)) (fun _ i _=>n - (intOf i).toNat)
  case atStart=>exact ⟨0,a - n,A3 _,rfl,rfl,yE,yE,Below.refl _ _,Lib.hid (by
    have e:=HN.out
    exact ZDV _ _ _ _ yE (by simp only[ZC7,AO];omega))⟩
  case round=>
   obtain ⟨k,l,hk,rfl,rfl,j,hl1,HB,HE⟩:=hrel
   by_cases hlt:k<n
   ·have o:k<ds.length:=by have:=HN.out;omega
    obtain ⟨b,off,cs,Lk,rfl,t,u,d,hc⟩:=H.out.at_ o
    have g:b<w.heap.size:=H.out.lt b t
    have HR:=Lib.hid (ZC8.keep d (ZCW HB.out (fun y m=>H.out.lt y (u y m))))
    obtain ⟨A1,c1,rfl⟩:=ZDW d
    have q0:wr.cell? ⟨b,off+k * 3,none⟩=_:=(HB.out.cell (p:=⟨b,off+(k * 3+0),none⟩) g).trans (hc 0 _ rfl)
    have q1:wr.cell? ⟨b,off+k * 3+1,none⟩=_:=(HB.out.cell (p:=⟨b,off+(k * 3+1),none⟩) g).trans (hc 1 _ rfl)
    have q2:wr.cell? ⟨b,off+k * 3+2,none⟩=_:=(HB.out.cell (p:=⟨b,off+(k * 3+2),none⟩) g).trans (hc 2 _ rfl)
    have hd:Hid (ds.drop k=ds[k]::ds.drop (k+1)):=A5 _
    generalize ds[k]=x at *
    clear hc d
    by_cases hs:(ZC9 x:Int)≤l
    ·go_wp2_with (go_at_call 195;refine (ZFt _ x Lk _ _ yE yE HR.out).mono ?_;rintro e w1 ⟨rfl,f⟩;rw [ZDo hs];have HB1:=Lib.hid (HB.out.trans (f.mono HB.out.size));clear f)
     go_roundw
     case rel=>exact ⟨k+1,l - ZC9 x,yE,by go_num,rfl,yE,yE,HB1.out,Lib.hid (by rw [←HE.out,hd.out];exact ZDV _ _ _ _ yE yG)⟩
     case measure=>simp [intOf];omega
    ·go_wp2_with (go_at_call 195;refine (ZFt _ x Lk _ _ yE yE HR.out).mono ?_;rintro e w1 ⟨rfl,f⟩;rw [ZCZ hs];have HB1:=Lib.hid (HB.out.trans (f.mono HB.out.size));clear f)
     go_ret
     exact ⟨ZDf (by rw [←HE.out,hd.out,ZCZ (by simp;omega)]),HB1.out⟩
   ·go_wp2
    go_ret
    exact ⟨ZDf (by rw [←HE.out,A6 (by have:=HN.out;omega)];simp [szR,j]),HB.out⟩
 ·go_enter func126,ntmps126
  go_wp2
  go_ret
  exact ⟨ZDf (by rw [ZCZ (by have:=HN.out;simp only[ZC7];omega)]),Below.refl _ _⟩
theorem ZFY (cs:List Value) (x:Zf) (L:List Nat) (a:Int) (w:World) (h0:0≤a) (h1:a≤1048576) (h:ZDB.rep w cs x L):
  Calls prog 61 #[.agg cs.toArray,.int .i64 a] w (ZEw (ZDd x) a w):=by
 obtain ⟨A1,c1,L1,A2,c2,L2,rfl,_hL,t0,n1,m1,s1,n2,m2,s2⟩:=h
 unfold maxLen at m1 m2
 have S1:=Lib.hid s1
 clear s1
 have S2:=Lib.hid s2
 clear s2
 have B0:Hid (Below w.heap.size w (w.alloc (.cells #[.string x.name,.int .i64 x.priority,.slice A1 x.cond.length c1,.slice A2 x.thn.length c2] 100))):=(Below.refl _ _).alloc (A4 _) _
 have K0:Hid (Blk (w.alloc (.cells #[.string x.name,.int .i64 x.priority,.slice A1 x.cond.length c1,.slice A2 x.thn.length c2] 100)) w.heap.size 100 #[.string x.name,.int .i64 x.priority,.slice A1 x.cond.length c1,.slice A2 x.thn.length c2]):=Blk.new _ _ _
 go_enter func61,ntmps61
 by_cases k1:(x.name.size:Int)≤a
 rotate_left
 ·go_wp2_with fail
  go_ret
  exact ⟨ZDf (by rw [ZCZ (by simp only[ZDd];omega)]),B0.out⟩
 go_wp2_with fail
 refine (ZHN A1 _ c1 x.cond L1 _ _ rfl yE yE yE (S1.out.below B0.out)).mono ?_
 rintro e w1 ⟨rfl,b⟩
 have B1:=Lib.hid (B0.out.trans (b.mono B0.out.size))
 have K1:=Lib.hid (K0.out.later b)
 have f0:=K1.out.at (i:=0) rfl
 have f1:=K1.out.at (i:=1) rfl
 have f2:=K1.out.at (i:=2) rfl
 have f3:=K1.out.at (i:=3) rfl
 clear b
 by_cases k2:((ZDh x.cond:Nat):Int)≤a - x.name.size
 rotate_left
 ·rw [ZCZ k2]
  go_wp2_with fail
  go_ret
  exact ⟨ZDf (by rw [ZCZ (by simp only[ZDd];omega)]),B1.out⟩
 rw [ZDo k2]
 go_wp2_with fail
 refine (ZGm A2 _ c2 x.thn L2 _ _ rfl yE yE yE (S2.out.below B1.out)).mono ?_
 rintro e w2 ⟨rfl,c⟩
 have B2:=Lib.hid (B1.out.trans (c.mono B1.out.size))
 have K2:=Lib.hid (K1.out.later c)
 clear f0 f1 f2 f3
 have f0:=K2.out.at (i:=0) rfl
 have f1:=K2.out.at (i:=1) rfl
 have f2:=K2.out.at (i:=2) rfl
 have f3:=K2.out.at (i:=3) rfl
 clear c
 by_cases k3:((ZC7 x.thn:Nat):Int)≤a - x.name.size - (ZDh x.cond:Nat)
 rotate_left
 ·rw [ZCZ k3]
  go_wp2_with fail
  go_ret
  exact ⟨ZDf (by rw [ZCZ (by simp only[ZDd];omega)]),B2.out⟩
 rw [ZDo k3]
 go_wp2_with fail
 go_ret
 exact ⟨ZDf (by rw [ZDo (by simp only[ZDd];omega)]<;>simp only[ZDd]<;>omega),B2.out⟩
theorem ZHn (A:Option Addr) (n c:Nat) (ds:List Zf) (L:List Nat) (a:Int) (w:World) (hn:n=ds.length) (hm:n≤9223372036854775807) (h0:0≤a) (h1:a≤1048576) (h:Sli ZDB w A ds L):
  Calls prog 10 #[.slice A n c,.int .i64 a] w (ZEw (ZC4 ds) a w):=by
 have H:=Lib.hid h
 have HN:=Lib.hid hn
 clear h hn
 by_cases hlen:(n:Int)≤a
 ·go_enter func10,ntmps10
  go_wp2
  go_loopw [1,5] (fun q i wr=>∃(k:Nat) (l:Int),k≤n∧i=.int .i64 k∧q=.int .i64 l∧0≤l∧l≤a∧Hid (Below w.heap.size w wr)∧Hid (szR ((ds.drop k).map ZDd).sum l=szR (ZC4 ds) a)) (fun _ i _=>n - (intOf i).toNat)
  case atStart=>exact ⟨0,a - n,A3 _,rfl,rfl,yE,yE,Below.refl _ _,Lib.hid (by
    have e:=HN.out
    exact ZDV _ _ _ _ yE (by simp only[ZC4,AO];omega))⟩
  case round=>
   obtain ⟨k,l,hk,rfl,rfl,j,hl1,HB,HE⟩:=hrel
   by_cases hlt:k<n
   ·have o:k<ds.length:=by have:=HN.out;omega
    obtain ⟨b,off,cs,Lk,rfl,t,u,d,hc⟩:=H.out.at_ o
    have g:b<w.heap.size:=H.out.lt b t
    have HR:=Lib.hid (ZDB.keep d (ZCW HB.out (fun y m=>H.out.lt y (u y m))))
    obtain ⟨A1,c1,A2,c2,rfl⟩:=ZD9 d
    have q0:wr.cell? ⟨b,off+k * 4,none⟩=_:=(HB.out.cell (p:=⟨b,off+(k * 4+0),none⟩) g).trans (hc 0 _ rfl)
    have q1:wr.cell? ⟨b,off+k * 4+1,none⟩=_:=(HB.out.cell (p:=⟨b,off+(k * 4+1),none⟩) g).trans (hc 1 _ rfl)
    have q2:wr.cell? ⟨b,off+k * 4+2,none⟩=_:=(HB.out.cell (p:=⟨b,off+(k * 4+2),none⟩) g).trans (hc 2 _ rfl)
    have q3:wr.cell? ⟨b,off+k * 4+3,none⟩=_:=(HB.out.cell (p:=⟨b,off+(k * 4+3),none⟩) g).trans (hc 3 _ rfl)
    have hd:Hid (ds.drop k=ds[k]::ds.drop (k+1)):=A5 _
    generalize ds[k]=x at *
    clear hc d
    by_cases hs:(ZDd x:Int)≤l
    ·go_wp2_with (go_at_call 61;refine (ZFY _ x Lk _ _ yE yE HR.out).mono ?_;rintro e w1 ⟨rfl,f⟩;rw [ZDo hs];have HB1:=Lib.hid (HB.out.trans (f.mono HB.out.size));clear f)
     go_roundw
     case rel=>exact ⟨k+1,l - ZDd x,yE,by go_num,rfl,yE,yE,HB1.out,Lib.hid (by rw [←HE.out,hd.out];exact ZDV _ _ _ _ yE yG)⟩
     case measure=>simp [intOf];omega
    ·go_wp2_with (go_at_call 61;refine (ZFY _ x Lk _ _ yE yE HR.out).mono ?_;rintro e w1 ⟨rfl,f⟩;rw [ZCZ hs];have HB1:=Lib.hid (HB.out.trans (f.mono HB.out.size));clear f)
     go_ret
     exact ⟨ZDf (by rw [←HE.out,hd.out,ZCZ (by simp;omega)]),HB1.out⟩
   ·go_wp2
    go_ret
    exact ⟨ZDf (by rw [←HE.out,A6 (by have:=HN.out;omega)];simp [szR,j]),HB.out⟩
 ·go_enter func10,ntmps10
  go_wp2
  go_ret
  exact ⟨ZDf (by rw [ZCZ (by have:=HN.out;simp only[ZC4];omega)]),Below.refl _ _⟩
end
section
open Go.RowKit
theorem infoString_:(prog.info? 9).map (fun i=>(i.zero,i.size,i.bytes))=some (some (.string ⟨#[]⟩),1,16):=by kernel_rfl
theorem ZEX (A:Option Addr) (n c:Nat) (ds:List ByteArray) (L:List Nat) (w:World) (hn:n=ds.length) (hm:ds.length≤1099511627776) (h:Sli ZCD w A ds L):
  Calls prog 100 #[.slice A n c] w (ZEC ZCD 9 w ds):=by
 obtain ⟨i0,hi,g,l,m⟩:=info_parts infoString_
 rw [←hn] at hm
 have H:=Lib.hid h
 have HN:=Lib.hid hn
 clear h hn
 go_enter func100,ntmps100
 go_wp2_with (at_make;refine wpList_make_full _ rfl _ _ 56 rfl w.heap.size 9 i0 _ 1 underlying56 hi g l .i64 .i64 _ _ n rfl rfl rfl rfl (by rw [m];omega) (by unfold maxLen;omega) (A4 _) ?_;intro w1 a hg)
 have hb:Below w.heap.size w w1:=(Below.refl _ _).grown hg (A4 _) yG
 have HF0:Hid (ZC3 ZCD 9 w n ds 0 w1):=ZC3.start a hb
 clear a hg hb
 go_wp2
 go_loopw [4] (fun i wr=>∃(k:Nat),k≤n∧i=.int .i64 k∧Hid (ZC3 ZCD 9 w n ds k wr)) (fun i _=>n - (intOf i).toNat)
 case atStart=>exact ⟨0,A3 _,rfl,HF0⟩
 case round=>
  obtain ⟨k,hk,rfl,HF⟩:=hrel
  by_cases f:k<n
  ·have o:k<ds.length:=by have:=HN.out;omega
   obtain ⟨b,off,cs,Lk,rfl,q,hLk,d,hc⟩:=H.out.at_ o
   have t:b<w.heap.size:=H.out.lt b q
   have e:=d
   obtain ⟨rfl,_,u⟩:=e
   have q0:=(HF.out.below.cell (p:=⟨b,off+(k * ZCD.size+0),none⟩) t).trans (hc 0 _ rfl)
   have HS:=Lib.hid (HF.out.store (w2:=wr) (x:=ds[k]) (M:=[]) f HN.out (fun _=>rfl) (Below.refl _ _) ⟨⟨rfl,rfl,u⟩,Own.nil _ _⟩)
   obtain ⟨d0,e0⟩:=HF.out.cell f (j:=0) yF
   have z0:=HF.out.frozen k
   simp only[show ZCD.size=1 from rfl,AC,A0] at q0 HS e0
   generalize ds[k]=x at *
   clear hc d
   go_wp2_with fail
   go_roundw
   case rel=>exact ⟨k+1,yE,by go_num,HS.out⟩
   case measure=>simp [intOf];omega
  ·obtain rfl:k=n:=by omega
   go_wp2
   go_ret
   exact ⟨_,rfl,HF.out.done HN.out⟩
set_option maxHeartbeats 1600000 in
theorem ZEl (cs:List Value) (x:Zd) (L:List Nat) (w:World) (hz:ZC2 x≤1048576) (h:ZDc.rep w cs x L):
  Calls prog 40 #[.agg cs.toArray] w (ZGB ZDc w x):=by
 obtain ⟨A1,c1,L1,rfl,_hL,t0,n1,m1,s1⟩:=h
 unfold maxLen at m1
 have S1:=Lib.hid s1
 clear s1
 simp only[ZC2] at hz
 go_enter func40,ntmps40
 go_wp2_with fail
 refine (ZEX A1 _ c1 x.args L1 _ rfl (by simp only[ZDs] at hz;omega) (S1.out.below (by repeat (first | refine Below.setCell ?_ (by dsimp only;omega) _ | refine Below.alloc ?_ (by first | (simp;done) | (simp;omega) | omega) _ | exact Below.refl _ _)))).mono ?_
 rintro e w1 ⟨v1,rfl,a1⟩
 obtain ⟨vA1,vc1,rfl⟩:=a1.shape
 have hb1:=a1.below
 obtain ⟨M1,g1⟩:=a1.got
 clear a1
 have G1:=Lib.hid (g1.mono (show w.heap.size+3≤_ by simp))
 have lt1:=Lib.hid g1.lt
 clear g1
 have B1:Hid (Below w.heap.size w w1):=Below.trans (by repeat (first | refine Below.setCell ?_ (by dsimp only;omega) _ | refine Below.alloc ?_ (by first | (simp;done) | (simp;omega) | omega) _ | exact Below.refl _ _)) (hb1.mono (by first | (simp;done) | (simp;omega) | omega))
 have K0:Hid (Blk w1 w.heap.size 66 #[.string x.rel,.slice A1 x.args.length c1]):=Blk.later (Blk.alloc (Blk.alloc (Blk.new _ _ _) _) _) hb1
 have K1:Hid (Blk w1 (w.heap.size+1) 71 #[.string ⟨#[]⟩,.slice none 0 0]):=Blk.later (Blk.alloc (Blk.new_at (by simp)) _) hb1
 have K2:Hid (Blk w1 (w.heap.size+1+1) 71 #[.string x.rel,.slice none 0 0]):=Blk.later (Blk.new_at (by simp)) hb1
 have f0:=K0.out.at (i:=0) rfl
 have r0:=K1.out.at (i:=0) rfl
 have o0:=K2.out.at (i:=0) rfl
 have rz0:=K1.out.frozen 0
 have oz0:=K2.out.frozen 0
 have f1:=K0.out.at (i:=1) rfl
 have r1:=K1.out.at (i:=1) rfl
 have o1:=K2.out.at (i:=1) rfl
 have rz1:=K1.out.frozen 1
 have oz1:=K2.out.frozen 1
 have hz1:w.heap.size+2<w1.heap.size:=by have:=hb1.size;simp at this;omega
 clear hb1
 go_wp2_with fail
 refine bodyPost_ret (v:=.agg #[.string x.rel,.slice vA1 x.args.length vc1]) (by simp [results,results40,go_sem,r0,r1]) rfl ?_
 obtain ⟨nn1,mm1,ss1⟩:=ZCX G1.out.rep
 exact ZEP (wr:=w1) (M1) ⟨⟨vA1,vc1,M1,rfl,rfl,t0,nn1,mm1,ss1⟩,by have o:=G1.out.own;simpa only [AJ] using o⟩ (by intro b hb;repeat rw [Below.heap_setCell _ _ _ _ (by dsimp only;omega)]) (by repeat (first | refine Below.setCell ?_ (by dsimp only;omega) _ | refine Below.alloc ?_ (by first | (simp;done) | (simp;omega) | omega) _ | exact B1.out))
theorem infoFact:(prog.info? 71).map (fun i=>(i.zero,i.size,i.bytes))=some (some (.agg #[.string ⟨#[]⟩,.slice none 0 0]),2,40):=by kernel_rfl
theorem ZEu (A:Option Addr) (n c:Nat) (ds:List Zd) (L:List Nat) (w:World) (hn:n=ds.length) (hz:ZDa ds≤1048576) (h:Sli ZDc w A ds L):
  Calls prog 14 #[.slice A n c] w (ZEC ZDc 71 w ds):=by
 obtain ⟨i0,hi,u,v,z⟩:=info_parts infoFact
 have H:=Lib.hid h
 have HN:=Lib.hid hn
 have hm:n≤1048576:=by simp only[ZDa] at hz;omega
 have HZ:=Lib.hid hz
 clear h hn hz
 go_enter func14,ntmps14
 go_wp2_with (at_make;refine wpList_make_full _ rfl _ _ 26 rfl w.heap.size 71 i0 _ 2 underlying26 hi u v .i64 .i64 _ _ n rfl rfl rfl rfl (by rw [z];omega) (by unfold maxLen;omega) (A4 _) ?_;intro w1 f hg)
 have hb:Below w.heap.size w w1:=(Below.refl _ _).grown hg (A4 _) yG
 have HF0:Hid (ZC3 ZDc 71 w n ds 0 w1):=ZC3.start f hb
 clear f hg hb
 go_wp2
 go_loopw [4] (fun i wr=>∃(k:Nat),k≤n∧i=.int .i64 k∧Hid (ZC3 ZDc 71 w n ds k wr)) (fun i _=>n - (intOf i).toNat)
 case atStart=>exact ⟨0,A3 _,rfl,HF0⟩
 case round=>
  obtain ⟨k,hk,rfl,HF⟩:=hrel
  by_cases g:k<n
  ·have o:k<ds.length:=by have:=HN.out;omega
   obtain ⟨b,off,cs,Lk,rfl,B,C,a,hc⟩:=H.out.at_ o
   have q:b<w.heap.size:=H.out.lt b B
   have HR:=Lib.hid (ZDc.keep a (ZCW HF.out.below (fun y m=>H.out.lt y (C y m))))
   obtain ⟨A1,c1,rfl⟩:=ZDq a
   have q0:wr.cell? ⟨b,off+k * 2,none⟩=_:=(HF.out.below.cell (p:=⟨b,off+(k * 2+0),none⟩) q).trans (hc 0 _ rfl)
   have q1:wr.cell? ⟨b,off+k * 2+1,none⟩=_:=(HF.out.below.cell (p:=⟨b,off+(k * 2+1),none⟩) q).trans (hc 1 _ rfl)
   have t:Hid (ZC2 ds[k]≤1048576):=ZFV ZC2 ds k o (by have:=HZ.out;simp only[ZDa] at this;omega)
   obtain ⟨x,hx⟩:∃x,x=ds[k]:=⟨_,rfl⟩
   have HX:=Lib.hid hx
   rw [←hx] at HR q0 q1 t
   clear hc a hx
   go_wp2_with fail
   refine (ZEl _ x Lk _ t.out HR.out).mono ?_
   rintro e w2 ⟨cs2,M2,rfl,g2,l⟩
   have HF2:=Lib.hid (HF.out.later l)
   have HS:=Lib.hid (HF.out.store g HN.out (fun _=>HX.out) l g2)
   obtain ⟨vA1,vc1,rfl⟩:=ZDq g2.rep
   clear g2 l
   obtain ⟨d0,e0⟩:∃d,w2.cell? ⟨w.heap.size,k * 2,none⟩=some d:=HF2.out.cell g (j:=0) yF
   have z0:=HF2.out.frozen (k * 2)
   obtain ⟨d1,e1⟩:∃d,w2.cell? ⟨w.heap.size,k * 2+1,none⟩=some d:=HF2.out.cell g (j:=1) yF
   have z1:=HF2.out.frozen (k * 2+1)
   go_wp2_with fail
   go_roundw
   case rel=>exact ⟨k+1,yE,by go_num,HS.out⟩
   case measure=>simp [intOf];omega
  ·obtain rfl:k=n:=by omega
   go_wp2
   go_ret
   exact ⟨_,rfl,HF.out.done HN.out⟩
set_option maxHeartbeats 1600000 in
theorem ZE5 (cs:List Value) (x:Zv) (L:List Nat) (w:World) (hz:ZC1 x≤1048576) (h:ZEp.rep w cs x L):
  Calls prog 134 #[.agg cs.toArray] w (ZGB ZEp w x):=by
 obtain ⟨A1,c1,L1,rfl,_hL,t0,n1,m1,s1⟩:=h
 unfold maxLen at m1
 have S1:=Lib.hid s1
 clear s1
 simp only[ZC1] at hz
 go_enter func134,ntmps134
 go_wp2_with fail
 refine (ZEX A1 _ c1 x.args L1 _ rfl (by simp only[ZDs] at hz;omega) (S1.out.below (by repeat (first | refine Below.setCell ?_ (by dsimp only;omega) _ | refine Below.alloc ?_ (by first | (simp;done) | (simp;omega) | omega) _ | exact Below.refl _ _)))).mono ?_
 rintro e w1 ⟨v1,rfl,a1⟩
 obtain ⟨vA1,vc1,rfl⟩:=a1.shape
 have hb1:=a1.below
 obtain ⟨M1,g1⟩:=a1.got
 clear a1
 have G1:=Lib.hid (g1.mono (show w.heap.size+3≤_ by simp))
 have lt1:=Lib.hid g1.lt
 clear g1
 have B1:Hid (Below w.heap.size w w1):=Below.trans (by repeat (first | refine Below.setCell ?_ (by dsimp only;omega) _ | refine Below.alloc ?_ (by first | (simp;done) | (simp;omega) | omega) _ | exact Below.refl _ _)) (hb1.mono (by first | (simp;done) | (simp;omega) | omega))
 have K0:Hid (Blk w1 w.heap.size 111 #[.string x.rel,.slice A1 x.args.length c1]):=Blk.later (Blk.alloc (Blk.alloc (Blk.new _ _ _) _) _) hb1
 have K1:Hid (Blk w1 (w.heap.size+1) 58 #[.string ⟨#[]⟩,.slice none 0 0]):=Blk.later (Blk.alloc (Blk.new_at (by simp)) _) hb1
 have K2:Hid (Blk w1 (w.heap.size+1+1) 58 #[.string x.rel,.slice none 0 0]):=Blk.later (Blk.new_at (by simp)) hb1
 have f0:=K0.out.at (i:=0) rfl
 have r0:=K1.out.at (i:=0) rfl
 have o0:=K2.out.at (i:=0) rfl
 have rz0:=K1.out.frozen 0
 have oz0:=K2.out.frozen 0
 have f1:=K0.out.at (i:=1) rfl
 have r1:=K1.out.at (i:=1) rfl
 have o1:=K2.out.at (i:=1) rfl
 have rz1:=K1.out.frozen 1
 have oz1:=K2.out.frozen 1
 have hz1:w.heap.size+2<w1.heap.size:=by have:=hb1.size;simp at this;omega
 clear hb1
 go_wp2_with fail
 refine bodyPost_ret (v:=.agg #[.string x.rel,.slice vA1 x.args.length vc1]) (by simp [results,results134,go_sem,r0,r1]) rfl ?_
 obtain ⟨nn1,mm1,ss1⟩:=ZCX G1.out.rep
 exact ZEP (wr:=w1) (M1) ⟨⟨vA1,vc1,M1,rfl,rfl,t0,nn1,mm1,ss1⟩,by have o:=G1.out.own;simpa only [AJ] using o⟩ (by intro b hb;repeat rw [Below.heap_setCell _ _ _ _ (by dsimp only;omega)]) (by repeat (first | refine Below.setCell ?_ (by dsimp only;omega) _ | refine Below.alloc ?_ (by first | (simp;done) | (simp;omega) | omega) _ | exact B1.out))
set_option maxHeartbeats 1600000 in
theorem ZHU (cs:List Value) (x:Zr) (L:List Nat) (w:World) (hz:ZDl x≤1048576) (h:ZDC.rep w cs x L):
  Calls prog 75 #[.agg cs.toArray] w (ZGB ZDC w x):=by
 obtain ⟨A1,c1,L1,rfl,_hL,t0,t1,t2,n1,m1,s1⟩:=h
 unfold maxLen at m1
 have S1:=Lib.hid s1
 clear s1
 simp only[ZDl] at hz
 go_enter func75,ntmps75
 go_wp2_with fail
 refine (ZE5 [.string x.pattern.rel,.slice A1 x.pattern.args.length c1] x.pattern _ _ (by omega) ⟨A1,c1,L1,rfl,rfl,t0,n1,(by unfold maxLen;omega),S1.out.below (by repeat (first | refine Below.setCell ?_ (by dsimp only;omega) _ | refine Below.alloc ?_ (by first | (simp;done) | (simp;omega) | omega) _ | exact Below.refl _ _))⟩).mono ?_
 rintro e w1 ⟨cs1,M1,rfl,g1,hb1⟩
 obtain ⟨vA1,vc1,rfl⟩:=ZEL g1.rep
 have G1:=Lib.hid (g1.mono (show w.heap.size+3≤_ by simp))
 have lt1:=Lib.hid g1.lt
 clear g1
 have B1:Hid (Below w.heap.size w w1):=Below.trans (by repeat (first | refine Below.setCell ?_ (by dsimp only;omega) _ | refine Below.alloc ?_ (by first | (simp;done) | (simp;omega) | omega) _ | exact Below.refl _ _)) (hb1.mono (by first | (simp;done) | (simp;omega) | omega))
 have K0:Hid (Blk w1 w.heap.size 113 #[.int .i64 x.kind,.string x.pattern.rel,.slice A1 x.pattern.args.length c1,.string x.left,.string x.right]):=Blk.later (Blk.alloc (Blk.alloc (Blk.new _ _ _) _) _) hb1
 have K1:Hid (Blk w1 (w.heap.size+1) 60 #[.int .i64 0,.string ⟨#[]⟩,.slice none 0 0,.string ⟨#[]⟩,.string ⟨#[]⟩]):=Blk.later (Blk.alloc (Blk.new_at (by simp)) _) hb1
 have K2:Hid (Blk w1 (w.heap.size+1+1) 60 #[.int .i64 x.kind,.string ⟨#[]⟩,.slice none 0 0,.string ⟨#[]⟩,.string ⟨#[]⟩]):=Blk.later (Blk.new_at (by simp)) hb1
 have f0:=K0.out.at (i:=0) rfl
 have r0:=K1.out.at (i:=0) rfl
 have o0:=K2.out.at (i:=0) rfl
 have rz0:=K1.out.frozen 0
 have oz0:=K2.out.frozen 0
 have f1:=K0.out.at (i:=1) rfl
 have r1:=K1.out.at (i:=1) rfl
 have o1:=K2.out.at (i:=1) rfl
 have rz1:=K1.out.frozen 1
 have oz1:=K2.out.frozen 1
 have f2:=K0.out.at (i:=2) rfl
 have r2:=K1.out.at (i:=2) rfl
 have o2:=K2.out.at (i:=2) rfl
 have rz2:=K1.out.frozen 2
 have oz2:=K2.out.frozen 2
 have f3:=K0.out.at (i:=3) rfl
 have r3:=K1.out.at (i:=3) rfl
 have o3:=K2.out.at (i:=3) rfl
 have rz3:=K1.out.frozen 3
 have oz3:=K2.out.frozen 3
 have f4:=K0.out.at (i:=4) rfl
 have r4:=K1.out.at (i:=4) rfl
 have o4:=K2.out.at (i:=4) rfl
 have rz4:=K1.out.frozen 4
 have oz4:=K2.out.frozen 4
 have hz1:w.heap.size+2<w1.heap.size:=by have:=hb1.size;simp at this;omega
 clear hb1
 go_wp2_with fail
 refine bodyPost_ret (v:=.agg #[.int .i64 x.kind,.string x.pattern.rel,.slice vA1 x.pattern.args.length vc1,.string x.left,.string x.right]) (by simp [results,results75,go_sem,r0,r1,r2,r3,r4]) rfl ?_
 obtain ⟨_,_,N1,hcs1,hL1,_,nn1,mm1,ss1⟩:=G1.out.rep
 cases hcs1
 subst hL1
 exact ZEP (wr:=w1) (M1) ⟨⟨vA1,vc1,M1,rfl,rfl,t0,t1,t2,nn1,mm1,ss1⟩,by have o:=G1.out.own;simpa only [AJ] using o⟩ (by intro b hb;repeat rw [Below.heap_setCell _ _ _ _ (by dsimp only;omega)]) (by repeat (first | refine Below.setCell ?_ (by dsimp only;omega) _ | refine Below.alloc ?_ (by first | (simp;done) | (simp;omega) | omega) _ | exact B1.out))
theorem infoCond:(prog.info? 60).map (fun i=>(i.zero,i.size,i.bytes))=some (some (.agg #[.int .i64 0,.string ⟨#[]⟩,.slice none 0 0,.string ⟨#[]⟩,.string ⟨#[]⟩]),5,80):=by kernel_rfl
theorem ZHC (A:Option Addr) (n c:Nat) (ds:List Zr) (L:List Nat) (w:World) (hn:n=ds.length) (hz:ZDh ds≤1048576) (h:Sli ZDC w A ds L):
  Calls prog 23 #[.slice A n c] w (ZEC ZDC 60 w ds):=by
 obtain ⟨i0,hi,u,v,z⟩:=info_parts infoCond
 have H:=Lib.hid h
 have HN:=Lib.hid hn
 have hm:n≤1048576:=by simp only[ZDh] at hz;omega
 have HZ:=Lib.hid hz
 clear h hn hz
 go_enter func23,ntmps23
 go_wp2_with (at_make;refine wpList_make_full _ rfl _ _ 41 rfl w.heap.size 60 i0 _ 5 underlying41 hi u v .i64 .i64 _ _ n rfl rfl rfl rfl (by rw [z];omega) (by unfold maxLen;omega) (A4 _) ?_;intro w1 l hg)
 have hb:Below w.heap.size w w1:=(Below.refl _ _).grown hg (A4 _) yG
 have HF0:Hid (ZC3 ZDC 60 w n ds 0 w1):=ZC3.start l hb
 clear l hg hb
 go_wp2
 go_loopw [4] (fun i wr=>∃(k:Nat),k≤n∧i=.int .i64 k∧Hid (ZC3 ZDC 60 w n ds k wr)) (fun i _=>n - (intOf i).toNat)
 case atStart=>exact ⟨0,A3 _,rfl,HF0⟩
 case round=>
  obtain ⟨k,hk,rfl,HF⟩:=hrel
  by_cases a:k<n
  ·have q:k<ds.length:=by have:=HN.out;omega
   obtain ⟨b,off,cs,Lk,rfl,B,C,f,hc⟩:=H.out.at_ q
   have g:b<w.heap.size:=H.out.lt b B
   have HR:=Lib.hid (ZDC.keep f (ZCW HF.out.below (fun y m=>H.out.lt y (C y m))))
   obtain ⟨A1,c1,rfl⟩:=ZEc f
   have q0:wr.cell? ⟨b,off+k * 5,none⟩=_:=(HF.out.below.cell (p:=⟨b,off+(k * 5+0),none⟩) g).trans (hc 0 _ rfl)
   have q1:wr.cell? ⟨b,off+k * 5+1,none⟩=_:=(HF.out.below.cell (p:=⟨b,off+(k * 5+1),none⟩) g).trans (hc 1 _ rfl)
   have q2:wr.cell? ⟨b,off+k * 5+2,none⟩=_:=(HF.out.below.cell (p:=⟨b,off+(k * 5+2),none⟩) g).trans (hc 2 _ rfl)
   have q3:wr.cell? ⟨b,off+k * 5+3,none⟩=_:=(HF.out.below.cell (p:=⟨b,off+(k * 5+3),none⟩) g).trans (hc 3 _ rfl)
   have q4:wr.cell? ⟨b,off+k * 5+4,none⟩=_:=(HF.out.below.cell (p:=⟨b,off+(k * 5+4),none⟩) g).trans (hc 4 _ rfl)
   have t:Hid (ZDl ds[k]≤1048576):=ZFV ZDl ds k q (by have:=HZ.out;simp only[ZDh] at this;omega)
   obtain ⟨x,hx⟩:∃x,x=ds[k]:=⟨_,rfl⟩
   have HX:=Lib.hid hx
   rw [←hx] at HR q0 q1 q2 q3 q4 t
   clear hc f hx
   go_wp2_with fail
   refine (ZHU _ x Lk _ t.out HR.out).mono ?_
   rintro e w2 ⟨cs2,M2,rfl,g2,o⟩
   have HF2:=Lib.hid (HF.out.later o)
   have HS:=Lib.hid (HF.out.store a HN.out (fun _=>HX.out) o g2)
   obtain ⟨vA1,vc1,rfl⟩:=ZEc g2.rep
   clear g2 o
   obtain ⟨d0,e0⟩:∃d,w2.cell? ⟨w.heap.size,k * 5,none⟩=some d:=HF2.out.cell a (j:=0) yF
   have z0:=HF2.out.frozen (k * 5)
   obtain ⟨d1,e1⟩:∃d,w2.cell? ⟨w.heap.size,k * 5+1,none⟩=some d:=HF2.out.cell a (j:=1) yF
   have z1:=HF2.out.frozen (k * 5+1)
   obtain ⟨d2,e2⟩:∃d,w2.cell? ⟨w.heap.size,k * 5+2,none⟩=some d:=HF2.out.cell a (j:=2) yF
   have z2:=HF2.out.frozen (k * 5+2)
   obtain ⟨d3,e3⟩:∃d,w2.cell? ⟨w.heap.size,k * 5+3,none⟩=some d:=HF2.out.cell a (j:=3) yF
   have z3:=HF2.out.frozen (k * 5+3)
   obtain ⟨d4,e4⟩:∃d,w2.cell? ⟨w.heap.size,k * 5+4,none⟩=some d:=HF2.out.cell a (j:=4) yF
   have z4:=HF2.out.frozen (k * 5+4)
   go_wp2_with fail
   go_roundw
   case rel=>exact ⟨k+1,yE,by go_num,HS.out⟩
   case measure=>simp [intOf];omega
  ·obtain rfl:k=n:=by omega
   go_wp2
   go_ret
   exact ⟨_,rfl,HF.out.done HN.out⟩
set_option maxHeartbeats 1600000 in
theorem ZGY (cs:List Value) (x:Zx) (L:List Nat) (w:World) (hz:ZC9 x≤1048576) (h:ZC8.rep w cs x L):
  Calls prog 197 #[.agg cs.toArray] w (ZGB ZC8 w x):=by
 obtain ⟨A1,c1,L1,rfl,_hL,t0,n1,m1,s1⟩:=h
 unfold maxLen at m1
 have S1:=Lib.hid s1
 clear s1
 simp only[ZC9] at hz
 go_enter func197,ntmps197
 go_wp2_with fail
 refine (ZE5 [.string x.pattern.rel,.slice A1 x.pattern.args.length c1] x.pattern _ _ (by omega) ⟨A1,c1,L1,rfl,rfl,t0,n1,(by unfold maxLen;omega),S1.out.below (by repeat (first | refine Below.setCell ?_ (by dsimp only;omega) _ | refine Below.alloc ?_ (by first | (simp;done) | (simp;omega) | omega) _ | exact Below.refl _ _))⟩).mono ?_
 rintro e w1 ⟨cs1,M1,rfl,g1,hb1⟩
 obtain ⟨vA1,vc1,rfl⟩:=ZEL g1.rep
 have G1:=Lib.hid (g1.mono (show w.heap.size+3≤_ by simp))
 have lt1:=Lib.hid g1.lt
 clear g1
 have B1:Hid (Below w.heap.size w w1):=Below.trans (by repeat (first | refine Below.setCell ?_ (by dsimp only;omega) _ | refine Below.alloc ?_ (by first | (simp;done) | (simp;omega) | omega) _ | exact Below.refl _ _)) (hb1.mono (by first | (simp;done) | (simp;omega) | omega))
 have K0:Hid (Blk w1 w.heap.size 221 #[.int .i64 x.kind,.string x.pattern.rel,.slice A1 x.pattern.args.length c1]):=Blk.later (Blk.alloc (Blk.alloc (Blk.new _ _ _) _) _) hb1
 have K1:Hid (Blk w1 (w.heap.size+1) 166 #[.int .i64 0,.string ⟨#[]⟩,.slice none 0 0]):=Blk.later (Blk.alloc (Blk.new_at (by simp)) _) hb1
 have K2:Hid (Blk w1 (w.heap.size+1+1) 166 #[.int .i64 x.kind,.string ⟨#[]⟩,.slice none 0 0]):=Blk.later (Blk.new_at (by simp)) hb1
 have f0:=K0.out.at (i:=0) rfl
 have r0:=K1.out.at (i:=0) rfl
 have o0:=K2.out.at (i:=0) rfl
 have rz0:=K1.out.frozen 0
 have oz0:=K2.out.frozen 0
 have f1:=K0.out.at (i:=1) rfl
 have r1:=K1.out.at (i:=1) rfl
 have o1:=K2.out.at (i:=1) rfl
 have rz1:=K1.out.frozen 1
 have oz1:=K2.out.frozen 1
 have f2:=K0.out.at (i:=2) rfl
 have r2:=K1.out.at (i:=2) rfl
 have o2:=K2.out.at (i:=2) rfl
 have rz2:=K1.out.frozen 2
 have oz2:=K2.out.frozen 2
 have hz1:w.heap.size+2<w1.heap.size:=by have:=hb1.size;simp at this;omega
 clear hb1
 go_wp2_with fail
 refine bodyPost_ret (v:=.agg #[.int .i64 x.kind,.string x.pattern.rel,.slice vA1 x.pattern.args.length vc1]) (by simp [results,results197,go_sem,r0,r1,r2]) rfl ?_
 obtain ⟨_,_,N1,hcs1,hL1,_,nn1,mm1,ss1⟩:=G1.out.rep
 cases hcs1
 subst hL1
 exact ZEP (wr:=w1) (M1) ⟨⟨vA1,vc1,M1,rfl,rfl,t0,nn1,mm1,ss1⟩,by have o:=G1.out.own;simpa only [AJ] using o⟩ (by intro b hb;repeat rw [Below.heap_setCell _ _ _ _ (by dsimp only;omega)]) (by repeat (first | refine Below.setCell ?_ (by dsimp only;omega) _ | refine Below.alloc ?_ (by first | (simp;done) | (simp;omega) | omega) _ | exact B1.out))
theorem infoAction:(prog.info? 166).map (fun i=>(i.zero,i.size,i.bytes))=some (some (.agg #[.int .i64 0,.string ⟨#[]⟩,.slice none 0 0]),3,48):=by kernel_rfl
theorem ZGj (A:Option Addr) (n c:Nat) (ds:List Zx) (L:List Nat) (w:World) (hn:n=ds.length) (hz:ZC7 ds≤1048576) (h:Sli ZC8 w A ds L):
  Calls prog 128 #[.slice A n c] w (ZEC ZC8 166 w ds):=by
 obtain ⟨i0,hi,u,v,z⟩:=info_parts infoAction
 have H:=Lib.hid h
 have HN:=Lib.hid hn
 have hm:n≤1048576:=by simp only[ZC7] at hz;omega
 have HZ:=Lib.hid hz
 clear h hn hz
 go_enter func128,ntmps128
 go_wp2_with (at_make;refine wpList_make_full _ rfl _ _ 102 rfl w.heap.size 166 i0 _ 3 underlying102 hi u v .i64 .i64 _ _ n rfl rfl rfl rfl (by rw [z];omega) (by unfold maxLen;omega) (A4 _) ?_;intro w1 g hg)
 have hb:Below w.heap.size w w1:=(Below.refl _ _).grown hg (A4 _) yG
 have HF0:Hid (ZC3 ZC8 166 w n ds 0 w1):=ZC3.start g hb
 clear g hg hb
 go_wp2
 go_loopw [4] (fun i wr=>∃(k:Nat),k≤n∧i=.int .i64 k∧Hid (ZC3 ZC8 166 w n ds k wr)) (fun i _=>n - (intOf i).toNat)
 case atStart=>exact ⟨0,A3 _,rfl,HF0⟩
 case round=>
  obtain ⟨k,hk,rfl,HF⟩:=hrel
  by_cases f:k<n
  ·have q:k<ds.length:=by have:=HN.out;omega
   obtain ⟨b,off,cs,Lk,rfl,B,C,a,hc⟩:=H.out.at_ q
   have l:b<w.heap.size:=H.out.lt b B
   have HR:=Lib.hid (ZC8.keep a (ZCW HF.out.below (fun y m=>H.out.lt y (C y m))))
   obtain ⟨A1,c1,rfl⟩:=ZDW a
   have q0:wr.cell? ⟨b,off+k * 3,none⟩=_:=(HF.out.below.cell (p:=⟨b,off+(k * 3+0),none⟩) l).trans (hc 0 _ rfl)
   have q1:wr.cell? ⟨b,off+k * 3+1,none⟩=_:=(HF.out.below.cell (p:=⟨b,off+(k * 3+1),none⟩) l).trans (hc 1 _ rfl)
   have q2:wr.cell? ⟨b,off+k * 3+2,none⟩=_:=(HF.out.below.cell (p:=⟨b,off+(k * 3+2),none⟩) l).trans (hc 2 _ rfl)
   have t:Hid (ZC9 ds[k]≤1048576):=ZFV ZC9 ds k q (by have:=HZ.out;simp only[ZC7] at this;omega)
   obtain ⟨x,hx⟩:∃x,x=ds[k]:=⟨_,rfl⟩
   have HX:=Lib.hid hx
   rw [←hx] at HR q0 q1 q2 t
   clear hc a hx
   go_wp2_with fail
   refine (ZGY _ x Lk _ t.out HR.out).mono ?_
   rintro e w2 ⟨cs2,M2,rfl,g2,o⟩
   have HF2:=Lib.hid (HF.out.later o)
   have HS:=Lib.hid (HF.out.store f HN.out (fun _=>HX.out) o g2)
   obtain ⟨vA1,vc1,rfl⟩:=ZDW g2.rep
   clear g2 o
   obtain ⟨d0,e0⟩:∃d,w2.cell? ⟨w.heap.size,k * 3,none⟩=some d:=HF2.out.cell f (j:=0) yF
   have z0:=HF2.out.frozen (k * 3)
   obtain ⟨d1,e1⟩:∃d,w2.cell? ⟨w.heap.size,k * 3+1,none⟩=some d:=HF2.out.cell f (j:=1) yF
   have z1:=HF2.out.frozen (k * 3+1)
   obtain ⟨d2,e2⟩:∃d,w2.cell? ⟨w.heap.size,k * 3+2,none⟩=some d:=HF2.out.cell f (j:=2) yF
   have z2:=HF2.out.frozen (k * 3+2)
   go_wp2_with fail
   go_roundw
   case rel=>exact ⟨k+1,yE,by go_num,HS.out⟩
   case measure=>simp [intOf];omega
  ·obtain rfl:k=n:=by omega
   go_wp2
   go_ret
   exact ⟨_,rfl,HF.out.done HN.out⟩
set_option maxHeartbeats 1600000 in
theorem ZHY (cs:List Value) (x:Zf) (L:List Nat) (w:World) (hz:ZDd x≤1048576) (h:ZDB.rep w cs x L):
  Calls prog 63 #[.agg cs.toArray] w (ZGB ZDB w x):=by
 obtain ⟨A1,c1,L1,A2,c2,L2,rfl,_hL,t0,n1,m1,s1,n2,m2,s2⟩:=h
 unfold maxLen at m1 m2
 have S1:=Lib.hid s1
 clear s1
 have S2:=Lib.hid s2
 clear s2
 simp only[ZDd] at hz
 go_enter func63,ntmps63
 go_wp2_with fail
 refine (ZHC A1 _ c1 x.cond L1 _ rfl (by omega) (S1.out.below (by repeat (first | refine Below.setCell ?_ (by dsimp only;omega) _ | refine Below.alloc ?_ (by first | (simp;done) | (simp;omega) | omega) _ | exact Below.refl _ _)))).mono ?_
 rintro e w1 ⟨v1,rfl,a1⟩
 obtain ⟨vA1,vc1,rfl⟩:=a1.shape
 have hb1:=a1.below
 obtain ⟨M1,g1⟩:=a1.got
 clear a1
 have G1:=Lib.hid (g1.mono (show w.heap.size+3≤_ by simp))
 have lt1:=Lib.hid g1.lt
 clear g1
 have B1:Hid (Below w.heap.size w w1):=Below.trans (by repeat (first | refine Below.setCell ?_ (by dsimp only;omega) _ | refine Below.alloc ?_ (by first | (simp;done) | (simp;omega) | omega) _ | exact Below.refl _ _)) (hb1.mono (by first | (simp;done) | (simp;omega) | omega))
 have K0:Hid (Blk w1 w.heap.size 100 #[.string x.name,.int .i64 x.priority,.slice A1 x.cond.length c1,.slice A2 x.thn.length c2]):=Blk.later (Blk.alloc (Blk.alloc (Blk.new _ _ _) _) _) hb1
 have K1:Hid (Blk w1 (w.heap.size+1) 104 #[.string ⟨#[]⟩,.int .i64 0,.slice none 0 0,.slice none 0 0]):=Blk.later (Blk.alloc (Blk.new_at (by simp)) _) hb1
 have K2:Hid (Blk w1 (w.heap.size+1+1) 104 #[.string x.name,.int .i64 x.priority,.slice none 0 0,.slice none 0 0]):=Blk.later (Blk.new_at (by simp)) hb1
 have f0:=K0.out.at (i:=0) rfl
 have r0:=K1.out.at (i:=0) rfl
 have o0:=K2.out.at (i:=0) rfl
 have rz0:=K1.out.frozen 0
 have oz0:=K2.out.frozen 0
 have f1:=K0.out.at (i:=1) rfl
 have r1:=K1.out.at (i:=1) rfl
 have o1:=K2.out.at (i:=1) rfl
 have rz1:=K1.out.frozen 1
 have oz1:=K2.out.frozen 1
 have f2:=K0.out.at (i:=2) rfl
 have r2:=K1.out.at (i:=2) rfl
 have o2:=K2.out.at (i:=2) rfl
 have rz2:=K1.out.frozen 2
 have oz2:=K2.out.frozen 2
 have f3:=K0.out.at (i:=3) rfl
 have r3:=K1.out.at (i:=3) rfl
 have o3:=K2.out.at (i:=3) rfl
 have rz3:=K1.out.frozen 3
 have oz3:=K2.out.frozen 3
 have hz1:w.heap.size+2<w1.heap.size:=by have:=hb1.size;simp at this;omega
 clear hb1
 go_wp2_with fail
 refine (ZGj A2 _ c2 x.thn L2 _ rfl (by omega) (S2.out.below (by repeat (first | refine Below.setCell ?_ (by dsimp only;omega) _ | refine Below.alloc ?_ (by first | (simp;done) | (simp;omega) | omega) _ | exact B1.out)))).mono ?_
 rintro e w2 ⟨v2,rfl,a2⟩
 obtain ⟨vA2,vc2,rfl⟩:=a2.shape
 have hb2:=a2.below
 obtain ⟨M2,g2⟩:=a2.got
 clear a2
 have G2:=Lib.hid (g2.mono (show w1.heap.size≤_ by simp))
 have lt2:=Lib.hid g2.lt
 clear g2
 have B2:Hid (Below w.heap.size w w2):=Below.trans (by repeat (first | refine Below.setCell ?_ (by dsimp only;omega) _ | refine Below.alloc ?_ (by first | (simp;done) | (simp;omega) | omega) _ | exact B1.out)) (hb2.mono (by first | (simp;done) | (simp;omega) | omega))
 have G1:Hid (Got (ZfI ZDC) (w.heap.size+3) [.slice vA1 x.cond.length vc1] x.cond M1 w2):=Got.later (by repeat (first | refine Got.setCell ?_ (by dsimp only;omega) _ | exact G1.out)) hb2
 have K0:=Lib.hid (Blk.later (Blk.far K0.out (by dsimp only;omega) _) hb2)
 have K1:=Lib.hid (Blk.later (Blk.far K1.out (by dsimp only;omega) _) hb2)
 have K2:=Lib.hid (Blk.later (Blk.set_ K2.out 2 _) hb2)
 clear f0 r0 o0 rz0 oz0 f1 r1 o1 rz1 oz1 f2 r2 o2 rz2 oz2 f3 r3 o3 rz3 oz3
 have f0:=K0.out.at (i:=0) rfl
 have r0:=K1.out.at (i:=0) rfl
 have o0:=K2.out.at (i:=0) rfl
 have rz0:=K1.out.frozen 0
 have oz0:=K2.out.frozen 0
 have f1:=K0.out.at (i:=1) rfl
 have r1:=K1.out.at (i:=1) rfl
 have o1:=K2.out.at (i:=1) rfl
 have rz1:=K1.out.frozen 1
 have oz1:=K2.out.frozen 1
 have f2:=K0.out.at (i:=2) rfl
 have r2:=K1.out.at (i:=2) rfl
 have o2:=K2.out.at (i:=2) rfl
 have rz2:=K1.out.frozen 2
 have oz2:=K2.out.frozen 2
 have f3:=K0.out.at (i:=3) rfl
 have r3:=K1.out.at (i:=3) rfl
 have o3:=K2.out.at (i:=3) rfl
 have rz3:=K1.out.frozen 3
 have oz3:=K2.out.frozen 3
 have hz2:w.heap.size+2<w2.heap.size:=by have:=hb2.size;simp at this;omega
 have hy2:w1.heap.size≤w2.heap.size:=by have:=hb2.size;simp at this;omega
 clear hb2
 go_wp2_with fail
 refine bodyPost_ret (v:=.agg #[.string x.name,.int .i64 x.priority,.slice vA1 x.cond.length vc1,.slice vA2 x.thn.length vc2]) (by simp [results,results63,go_sem,r0,r1,r2,r3]) rfl ?_
 obtain ⟨nn1,mm1,ss1⟩:=ZCX G1.out.rep
 obtain ⟨nn2,mm2,ss2⟩:=ZCX G2.out.rep
 exact ZEP (wr:=w2) (M1++M2) ⟨⟨vA1,vc1,M1,vA2,vc2,M2,rfl,rfl,t0,nn1,mm1,ss1,nn2,mm2,ss2⟩,by have o:=(Own.append G1.out.own G2.out.own (by omega) lt1.out);simpa only [AJ] using o⟩ (by intro b hb;repeat rw [Below.heap_setCell _ _ _ _ (by dsimp only;omega)]) (by repeat (first | refine Below.setCell ?_ (by dsimp only;omega) _ | refine Below.alloc ?_ (by first | (simp;done) | (simp;omega) | omega) _ | exact B2.out))
theorem infoRule:(prog.info? 104).map (fun i=>(i.zero,i.size,i.bytes))=some (some (.agg #[.string ⟨#[]⟩,.int .i64 0,.slice none 0 0,.slice none 0 0]),4,72):=by kernel_rfl
theorem ZEs (A:Option Addr) (n c:Nat) (ds:List Zf) (L:List Nat) (w:World) (hn:n=ds.length) (hz:ZC4 ds≤1048576) (h:Sli ZDB w A ds L):
  Calls prog 13 #[.slice A n c] w (ZEC ZDB 104 w ds):=by
 obtain ⟨i0,hi,u,v,z⟩:=info_parts infoRule
 have H:=Lib.hid h
 have HN:=Lib.hid hn
 have hm:n≤1048576:=by simp only[ZC4] at hz;omega
 have HZ:=Lib.hid hz
 clear h hn hz
 go_enter func13,ntmps13
 go_wp2_with (at_make;refine wpList_make_full _ rfl _ _ 28 rfl w.heap.size 104 i0 _ 4 underlying28 hi u v .i64 .i64 _ _ n rfl rfl rfl rfl (by rw [z];omega) (by unfold maxLen;omega) (A4 _) ?_;intro w1 l hg)
 have hb:Below w.heap.size w w1:=(Below.refl _ _).grown hg (A4 _) yG
 have HF0:Hid (ZC3 ZDB 104 w n ds 0 w1):=ZC3.start l hb
 clear l hg hb
 go_wp2
 go_loopw [4] (fun i wr=>∃(k:Nat),k≤n∧i=.int .i64 k∧Hid (ZC3 ZDB 104 w n ds k wr)) (fun i _=>n - (intOf i).toNat)
 case atStart=>exact ⟨0,A3 _,rfl,HF0⟩
 case round=>
  obtain ⟨k,hk,rfl,HF⟩:=hrel
  by_cases a:k<n
  ·have q:k<ds.length:=by have:=HN.out;omega
   obtain ⟨b,off,cs,Lk,rfl,B,C,f,hc⟩:=H.out.at_ q
   have g:b<w.heap.size:=H.out.lt b B
   have HR:=Lib.hid (ZDB.keep f (ZCW HF.out.below (fun y m=>H.out.lt y (C y m))))
   obtain ⟨A1,c1,A2,c2,rfl⟩:=ZD9 f
   have q0:wr.cell? ⟨b,off+k * 4,none⟩=_:=(HF.out.below.cell (p:=⟨b,off+(k * 4+0),none⟩) g).trans (hc 0 _ rfl)
   have q1:wr.cell? ⟨b,off+k * 4+1,none⟩=_:=(HF.out.below.cell (p:=⟨b,off+(k * 4+1),none⟩) g).trans (hc 1 _ rfl)
   have q2:wr.cell? ⟨b,off+k * 4+2,none⟩=_:=(HF.out.below.cell (p:=⟨b,off+(k * 4+2),none⟩) g).trans (hc 2 _ rfl)
   have q3:wr.cell? ⟨b,off+k * 4+3,none⟩=_:=(HF.out.below.cell (p:=⟨b,off+(k * 4+3),none⟩) g).trans (hc 3 _ rfl)
   have t:Hid (ZDd ds[k]≤1048576):=ZFV ZDd ds k q (by have:=HZ.out;simp only[ZC4] at this;omega)
   obtain ⟨x,hx⟩:∃x,x=ds[k]:=⟨_,rfl⟩
   have HX:=Lib.hid hx
   rw [←hx] at HR q0 q1 q2 q3 t
   clear hc f hx
   go_wp2_with fail
   refine (ZHY _ x Lk _ t.out HR.out).mono ?_
   rintro e w2 ⟨cs2,M2,rfl,g2,o⟩
   have HF2:=Lib.hid (HF.out.later o)
   have HS:=Lib.hid (HF.out.store a HN.out (fun _=>HX.out) o g2)
   obtain ⟨vA1,vc1,vA2,vc2,rfl⟩:=ZD9 g2.rep
   clear g2 o
   obtain ⟨d0,e0⟩:∃d,w2.cell? ⟨w.heap.size,k * 4,none⟩=some d:=HF2.out.cell a (j:=0) yF
   have z0:=HF2.out.frozen (k * 4)
   obtain ⟨d1,e1⟩:∃d,w2.cell? ⟨w.heap.size,k * 4+1,none⟩=some d:=HF2.out.cell a (j:=1) yF
   have z1:=HF2.out.frozen (k * 4+1)
   obtain ⟨d2,e2⟩:∃d,w2.cell? ⟨w.heap.size,k * 4+2,none⟩=some d:=HF2.out.cell a (j:=2) yF
   have z2:=HF2.out.frozen (k * 4+2)
   obtain ⟨d3,e3⟩:∃d,w2.cell? ⟨w.heap.size,k * 4+3,none⟩=some d:=HF2.out.cell a (j:=3) yF
   have z3:=HF2.out.frozen (k * 4+3)
   go_wp2_with fail
   go_roundw
   case rel=>exact ⟨k+1,yE,by go_num,HS.out⟩
   case measure=>simp [intOf];omega
  ·obtain rfl:k=n:=by omega
   go_wp2
   go_ret
   exact ⟨_,rfl,HF.out.done HN.out⟩
end
section
open Go.RowKit
def ZDH (w:World) (e:Ending) (w':World):Prop:=e=.returned (.bool true)∧Below w.heap.size w w'
set_option maxHeartbeats 1600000 in
theorem ZE0 (A B:Option Addr) (n c d:Nat) (ds:List ByteArray) (L M:List Nat) (w:World) (hn:n=ds.length) (hm:n≤9223372036854775807) (h1:Sli ZCD w A ds L) (h2:Sli ZCD w B ds M):
  Calls prog 106 #[.slice A n c,.slice B n d] w (ZDH w):=by
 have H1:=Lib.hid h1
 have H2:=Lib.hid h2
 have HN:=Lib.hid hn
 clear h1 h2 hn
 have hne:((n:Int) != n)=false:=by simp
 go_enter func106,ntmps106
 go_wp2
 go_loopw [5] (fun i wr=>∃(k:Nat),k≤n∧i=.int .i64 k∧Hid (∃q,wr=w.drewN q)) (fun i _=>n - (intOf i).toNat)
 case atStart=>exact ⟨0,A3 _,rfl,0,rfl⟩
 case round=>
  obtain ⟨k,hk,rfl,hq⟩:=hrel
  obtain ⟨q,rfl⟩:=hq.out
  by_cases hlt:k<n
  ·have hkl:k<ds.length:=by have:=HN.out;omega
   obtain ⟨b,off,cs,Lk,rfl,_,_,hrep,hc⟩:=H1.out.at_ hkl
   obtain ⟨b',off',cs',Mk,rfl,_,_,hrep',hc'⟩:=H2.out.at_ hkl
   generalize ds[k]=x at *
   obtain ⟨rfl,_,_⟩:=hrep
   obtain ⟨rfl,_,_⟩:=hrep'
   have q0:=hc 0 _ rfl
   have p0:=hc' 0 _ rfl
   simp only[show ZCD.size=1 from rfl,AC,A0] at q0 p0
   clear hc hc'
   have k0:(0:Int)≤k:=by omega
   have k1:(k:Int)<n:=by omega
   go_wp2_with fail
   go_quiet (fail)
   go_wp2_with fail
   go_roundw
   case rel=>exact ⟨k+1,by omega,by go_num,by first | exact ZIf _ _ _ | exact ZHc _ _⟩
   case measure=>simp [intOf];omega
  ·go_wp2
   go_ret
   exact ⟨rfl,ZET _ _ _⟩
set_option maxHeartbeats 1600000 in
theorem ZH2 (A B:Option Addr) (n c d:Nat) (ds:List Int) (L M:List Nat) (w:World) (hn:n=ds.length) (hm:n≤9223372036854775807) (h1:Sli Zqc w A ds L) (h2:Sli Zqc w B ds M):
  Calls prog 180 #[.slice A n c,.slice B n d] w (ZDH w):=by
 have H1:=Lib.hid h1
 have H2:=Lib.hid h2
 have HN:=Lib.hid hn
 clear h1 h2 hn
 have hne:((n:Int) != n)=false:=by simp
 go_enter func180,ntmps180
 go_wp2
 go_loopw [5] (fun i wr=>∃(k:Nat),k≤n∧i=.int .i64 k∧Hid (∃q,wr=w.drewN q)) (fun i _=>n - (intOf i).toNat)
 case atStart=>exact ⟨0,A3 _,rfl,0,rfl⟩
 case round=>
  obtain ⟨k,hk,rfl,hq⟩:=hrel
  obtain ⟨q,rfl⟩:=hq.out
  by_cases hlt:k<n
  ·have hkl:k<ds.length:=by have:=HN.out;omega
   obtain ⟨b,off,cs,Lk,rfl,_,_,hrep,hc⟩:=H1.out.at_ hkl
   obtain ⟨b',off',cs',Mk,rfl,_,_,hrep',hc'⟩:=H2.out.at_ hkl
   generalize ds[k]=x at *
   obtain ⟨rfl,_⟩:=hrep
   obtain ⟨rfl,_⟩:=hrep'
   have q0:=hc 0 _ rfl
   have p0:=hc' 0 _ rfl
   simp only[show Zqc.size=1 from rfl,AC,A0] at q0 p0
   clear hc hc'
   have k0:(0:Int)≤k:=by omega
   have k1:(k:Int)<n:=by omega
   go_wp2_with fail
   go_quiet (fail)
   go_wp2_with fail
   go_roundw
   case rel=>exact ⟨k+1,by omega,by go_num,by first | exact ZIf _ _ _ | exact ZHc _ _⟩
   case measure=>simp [intOf];omega
  ·go_wp2
   go_ret
   exact ⟨rfl,ZET _ _ _⟩
set_option maxHeartbeats 1600000 in
theorem ZFe (cs ds:List Value) (x:Zd) (L M:List Nat) (w:World) (h1:ZDc.rep w cs x L) (h2:ZDc.rep w ds x M):
  Calls prog 43 #[.agg cs.toArray,.agg ds.toArray] w (ZDH w):=by
 obtain ⟨aA1,ac1,aL1,rfl,_ahL,at0,an1,am1,as1⟩:=h1
 obtain ⟨bA1,bc1,bL1,rfl,_bhL,bt0,bn1,bm1,bs1⟩:=h2
 unfold maxLen at am1 bm1
 have SA1:=Lib.hid as1
 have SB1:=Lib.hid bs1
 clear as1 bs1
 go_enter func43,ntmps43
 go_wp2_with fail
 refine (ZE0 aA1 bA1 _ ac1 bc1 x.args aL1 bL1 _ rfl (by omega) (SA1.out.below (by repeat (first | refine Below.setCell ?_ (by dsimp only;omega) _ | refine Below.alloc ?_ (by first | (simp;done) | (simp;omega) | omega) _ | exact Below.refl _ _))) (SB1.out.below (by repeat (first | refine Below.setCell ?_ (by dsimp only;omega) _ | refine Below.alloc ?_ (by first | (simp;done) | (simp;omega) | omega) _ | exact Below.refl _ _)))).mono ?_
 rintro e w1 ⟨rfl,hb1⟩
 have B1:Hid (Below w.heap.size w w1):=Below.trans (by repeat (first | refine Below.setCell ?_ (by dsimp only;omega) _ | refine Below.alloc ?_ (by first | (simp;done) | (simp;omega) | omega) _ | exact Below.refl _ _)) (hb1.mono (by first | (simp;done) | (simp;omega) | omega))
 have K0:Hid (Blk w1 w.heap.size 71 #[.string x.rel,.slice aA1 x.args.length ac1]):=Blk.later (Blk.alloc (Blk.new _ _ _) _) hb1
 have K1:Hid (Blk w1 (w.heap.size+1) 71 #[.string x.rel,.slice bA1 x.args.length bc1]):=Blk.later (Blk.new_at (by simp)) hb1
 have f0:=K0.out.at (i:=0) rfl
 have r0:=K1.out.at (i:=0) rfl
 have f1:=K0.out.at (i:=1) rfl
 have r1:=K1.out.at (i:=1) rfl
 clear hb1
 have hz1:=B1.out.size
 go_wp2_with fail
 go_ret
 exact ⟨rfl,(by repeat (first | refine Below.setCell ?_ (by dsimp only;omega) _ | refine Below.alloc ?_ (by first | (simp;done) | (simp;omega) | omega) _ | exact B1.out))⟩
theorem ZHr (A B:Option Addr) (n c d:Nat) (ds:List Zd) (L M:List Nat) (w:World) (hn:n=ds.length) (hm:n≤9223372036854775807) (h1:Sli ZDc w A ds L) (h2:Sli ZDc w B ds M):
  Calls prog 16 #[.slice A n c,.slice B n d] w (ZDH w):=by
 have H1:=Lib.hid h1
 have H2:=Lib.hid h2
 have HN:=Lib.hid hn
 clear h1 h2 hn
 have hne:((n:Int) != n)=false:=by simp
 go_enter func16,ntmps16
 go_wp2
 go_loopw [5] (fun i wr=>∃(k:Nat),k≤n∧i=.int .i64 k∧Hid (Below w.heap.size w wr)) (fun i _=>n - (intOf i).toNat)
 case atStart=>exact ⟨0,A3 _,rfl,Below.refl _ _⟩
 case round=>
  obtain ⟨k,hk,rfl,HB⟩:=hrel
  by_cases hlt:k<n
  ·have o:k<ds.length:=by have:=HN.out;omega
   obtain ⟨b,off,cs,Lk,rfl,u,v,g,hc⟩:=H1.out.at_ o
   obtain ⟨b',f,cs',Mk,rfl,z,C,a,l⟩:=H2.out.at_ o
   have q:b<w.heap.size:=H1.out.lt b u
   have j:b'<w.heap.size:=H2.out.lt b' z
   have HR:=Lib.hid (ZDc.keep g (ZCW HB.out (fun y m=>H1.out.lt y (v y m))))
   have HR':=Lib.hid (ZDc.keep a (ZCW HB.out (fun y m=>H2.out.lt y (C y m))))
   generalize ds[k]=x at *
   obtain ⟨aA1,ac1,rfl⟩:=ZDq g
   obtain ⟨bA1,bc1,rfl⟩:=ZDq a
   have q0:wr.cell? ⟨b,off+k * 2,none⟩=_:=(HB.out.cell (p:=⟨b,off+(k * 2+0),none⟩) q).trans (hc 0 _ rfl)
   have p0:wr.cell? ⟨b',f+k * 2,none⟩=_:=(HB.out.cell (p:=⟨b',f+(k * 2+0),none⟩) j).trans (l 0 _ rfl)
   have q1:wr.cell? ⟨b,off+k * 2+1,none⟩=_:=(HB.out.cell (p:=⟨b,off+(k * 2+1),none⟩) q).trans (hc 1 _ rfl)
   have p1:wr.cell? ⟨b',f+k * 2+1,none⟩=_:=(HB.out.cell (p:=⟨b',f+(k * 2+1),none⟩) j).trans (l 1 _ rfl)
   clear hc l g a
   have k0:(0:Int)≤k:=by omega
   have k1:(k:Int)<n:=by omega
   go_wp2_with fail
   go_still_tail 8,(by kernel_rfl)
   change wpList _ _ _ _ _ wr.drew
   go_wp2_with (go_at_call 43;(refine (ZFe _ _ x Lk Mk wr.drew (ZDc.keep HR.out (fun _ _=>rfl)) (ZDc.keep HR'.out (fun _ _=>rfl))).mono ?_;rintro e w1 ⟨rfl,t⟩;have HB1:=Lib.hid (HB.out.drew.trans (t.mono HB.out.size));clear t))
   go_roundw
   case rel=>exact ⟨k+1,yE,by go_num,HB1.out⟩
   case measure=>simp [intOf];omega
  ·go_wp2
   go_ret
   exact ⟨rfl,HB.out⟩
set_option maxHeartbeats 1600000 in
theorem ZE1 (cs ds:List Value) (x:Zv) (L M:List Nat) (w:World) (h1:ZEp.rep w cs x L) (h2:ZEp.rep w ds x M):
  Calls prog 141 #[.agg cs.toArray,.agg ds.toArray] w (ZDH w):=by
 obtain ⟨aA1,ac1,aL1,rfl,_ahL,at0,an1,am1,as1⟩:=h1
 obtain ⟨bA1,bc1,bL1,rfl,_bhL,bt0,bn1,bm1,bs1⟩:=h2
 unfold maxLen at am1 bm1
 have SA1:=Lib.hid as1
 have SB1:=Lib.hid bs1
 clear as1 bs1
 go_enter func141,ntmps141
 go_wp2_with fail
 refine (ZE0 aA1 bA1 _ ac1 bc1 x.args aL1 bL1 _ rfl (by omega) (SA1.out.below (by repeat (first | refine Below.setCell ?_ (by dsimp only;omega) _ | refine Below.alloc ?_ (by first | (simp;done) | (simp;omega) | omega) _ | exact Below.refl _ _))) (SB1.out.below (by repeat (first | refine Below.setCell ?_ (by dsimp only;omega) _ | refine Below.alloc ?_ (by first | (simp;done) | (simp;omega) | omega) _ | exact Below.refl _ _)))).mono ?_
 rintro e w1 ⟨rfl,hb1⟩
 have B1:Hid (Below w.heap.size w w1):=Below.trans (by repeat (first | refine Below.setCell ?_ (by dsimp only;omega) _ | refine Below.alloc ?_ (by first | (simp;done) | (simp;omega) | omega) _ | exact Below.refl _ _)) (hb1.mono (by first | (simp;done) | (simp;omega) | omega))
 have K0:Hid (Blk w1 w.heap.size 58 #[.string x.rel,.slice aA1 x.args.length ac1]):=Blk.later (Blk.alloc (Blk.new _ _ _) _) hb1
 have K1:Hid (Blk w1 (w.heap.size+1) 58 #[.string x.rel,.slice bA1 x.args.length bc1]):=Blk.later (Blk.new_at (by simp)) hb1
 have f0:=K0.out.at (i:=0) rfl
 have r0:=K1.out.at (i:=0) rfl
 have f1:=K0.out.at (i:=1) rfl
 have r1:=K1.out.at (i:=1) rfl
 clear hb1
 have hz1:=B1.out.size
 go_wp2_with fail
 go_ret
 exact ⟨rfl,(by repeat (first | refine Below.setCell ?_ (by dsimp only;omega) _ | refine Below.alloc ?_ (by first | (simp;done) | (simp;omega) | omega) _ | exact B1.out))⟩
set_option maxHeartbeats 1600000 in
theorem ZH0 (cs ds:List Value) (x:Zr) (L M:List Nat) (w:World) (h1:ZDC.rep w cs x L) (h2:ZDC.rep w ds x M):
  Calls prog 80 #[.agg cs.toArray,.agg ds.toArray] w (ZDH w):=by
 obtain ⟨aA1,ac1,aL1,rfl,_ahL,at0,at1,at2,an1,am1,as1⟩:=h1
 obtain ⟨bA1,bc1,bL1,rfl,_bhL,bt0,bt1,bt2,bn1,bm1,bs1⟩:=h2
 unfold maxLen at am1 bm1
 have SA1:=Lib.hid as1
 have SB1:=Lib.hid bs1
 clear as1 bs1
 go_enter func80,ntmps80
 go_wp2_with fail
 refine (ZE1 [.string x.pattern.rel,.slice aA1 x.pattern.args.length ac1] [.string x.pattern.rel,.slice bA1 x.pattern.args.length bc1] x.pattern _ _ _ ⟨aA1,ac1,aL1,rfl,rfl,at0,an1,(by unfold maxLen;omega),SA1.out.below (by repeat (first | refine Below.setCell ?_ (by dsimp only;omega) _ | refine Below.alloc ?_ (by first | (simp;done) | (simp;omega) | omega) _ | exact Below.refl _ _))⟩ ⟨bA1,bc1,bL1,rfl,rfl,bt0,bn1,(by unfold maxLen;omega),SB1.out.below (by repeat (first | refine Below.setCell ?_ (by dsimp only;omega) _ | refine Below.alloc ?_ (by first | (simp;done) | (simp;omega) | omega) _ | exact Below.refl _ _))⟩).mono ?_
 rintro e w1 ⟨rfl,hb1⟩
 have B1:Hid (Below w.heap.size w w1):=Below.trans (by repeat (first | refine Below.setCell ?_ (by dsimp only;omega) _ | refine Below.alloc ?_ (by first | (simp;done) | (simp;omega) | omega) _ | exact Below.refl _ _)) (hb1.mono (by first | (simp;done) | (simp;omega) | omega))
 have K0:Hid (Blk w1 w.heap.size 60 #[.int .i64 x.kind,.string x.pattern.rel,.slice aA1 x.pattern.args.length ac1,.string x.left,.string x.right]):=Blk.later (Blk.alloc (Blk.new _ _ _) _) hb1
 have K1:Hid (Blk w1 (w.heap.size+1) 60 #[.int .i64 x.kind,.string x.pattern.rel,.slice bA1 x.pattern.args.length bc1,.string x.left,.string x.right]):=Blk.later (Blk.new_at (by simp)) hb1
 have f0:=K0.out.at (i:=0) rfl
 have r0:=K1.out.at (i:=0) rfl
 have f1:=K0.out.at (i:=1) rfl
 have r1:=K1.out.at (i:=1) rfl
 have f2:=K0.out.at (i:=2) rfl
 have r2:=K1.out.at (i:=2) rfl
 have f3:=K0.out.at (i:=3) rfl
 have r3:=K1.out.at (i:=3) rfl
 have f4:=K0.out.at (i:=4) rfl
 have r4:=K1.out.at (i:=4) rfl
 clear hb1
 have hz1:=B1.out.size
 go_wp2_with fail
 go_ret
 exact ⟨rfl,(by repeat (first | refine Below.setCell ?_ (by dsimp only;omega) _ | refine Below.alloc ?_ (by first | (simp;done) | (simp;omega) | omega) _ | exact B1.out))⟩
theorem ZHb (A B:Option Addr) (n c d:Nat) (ds:List Zr) (L M:List Nat) (w:World) (hn:n=ds.length) (hm:n≤9223372036854775807) (h1:Sli ZDC w A ds L) (h2:Sli ZDC w B ds M):
  Calls prog 26 #[.slice A n c,.slice B n d] w (ZDH w):=by
 have H1:=Lib.hid h1
 have H2:=Lib.hid h2
 have HN:=Lib.hid hn
 clear h1 h2 hn
 have hne:((n:Int) != n)=false:=by simp
 go_enter func26,ntmps26
 go_wp2
 go_loopw [5] (fun i wr=>∃(k:Nat),k≤n∧i=.int .i64 k∧Hid (Below w.heap.size w wr)) (fun i _=>n - (intOf i).toNat)
 case atStart=>exact ⟨0,A3 _,rfl,Below.refl _ _⟩
 case round=>
  obtain ⟨k,hk,rfl,HB⟩:=hrel
  by_cases hlt:k<n
  ·have q:k<ds.length:=by have:=HN.out;omega
   obtain ⟨b,off,cs,Lk,rfl,u,v,l,hc⟩:=H1.out.at_ q
   obtain ⟨b',a,cs',Mk,rfl,z,C,g,j⟩:=H2.out.at_ q
   have o:b<w.heap.size:=H1.out.lt b u
   have f:b'<w.heap.size:=H2.out.lt b' z
   have HR:=Lib.hid (ZDC.keep l (ZCW HB.out (fun y m=>H1.out.lt y (v y m))))
   have HR':=Lib.hid (ZDC.keep g (ZCW HB.out (fun y m=>H2.out.lt y (C y m))))
   generalize ds[k]=x at *
   obtain ⟨aA1,ac1,rfl⟩:=ZEc l
   obtain ⟨bA1,bc1,rfl⟩:=ZEc g
   have q0:wr.cell? ⟨b,off+k * 5,none⟩=_:=(HB.out.cell (p:=⟨b,off+(k * 5+0),none⟩) o).trans (hc 0 _ rfl)
   have p0:wr.cell? ⟨b',a+k * 5,none⟩=_:=(HB.out.cell (p:=⟨b',a+(k * 5+0),none⟩) f).trans (j 0 _ rfl)
   have q1:wr.cell? ⟨b,off+k * 5+1,none⟩=_:=(HB.out.cell (p:=⟨b,off+(k * 5+1),none⟩) o).trans (hc 1 _ rfl)
   have p1:wr.cell? ⟨b',a+k * 5+1,none⟩=_:=(HB.out.cell (p:=⟨b',a+(k * 5+1),none⟩) f).trans (j 1 _ rfl)
   have q2:wr.cell? ⟨b,off+k * 5+2,none⟩=_:=(HB.out.cell (p:=⟨b,off+(k * 5+2),none⟩) o).trans (hc 2 _ rfl)
   have p2:wr.cell? ⟨b',a+k * 5+2,none⟩=_:=(HB.out.cell (p:=⟨b',a+(k * 5+2),none⟩) f).trans (j 2 _ rfl)
   have q3:wr.cell? ⟨b,off+k * 5+3,none⟩=_:=(HB.out.cell (p:=⟨b,off+(k * 5+3),none⟩) o).trans (hc 3 _ rfl)
   have p3:wr.cell? ⟨b',a+k * 5+3,none⟩=_:=(HB.out.cell (p:=⟨b',a+(k * 5+3),none⟩) f).trans (j 3 _ rfl)
   have q4:wr.cell? ⟨b,off+k * 5+4,none⟩=_:=(HB.out.cell (p:=⟨b,off+(k * 5+4),none⟩) o).trans (hc 4 _ rfl)
   have p4:wr.cell? ⟨b',a+k * 5+4,none⟩=_:=(HB.out.cell (p:=⟨b',a+(k * 5+4),none⟩) f).trans (j 4 _ rfl)
   clear hc j l g
   have k0:(0:Int)≤k:=by omega
   have k1:(k:Int)<n:=by omega
   go_wp2_with fail
   go_still_tail 8,(by kernel_rfl)
   change wpList _ _ _ _ _ wr.drew
   go_wp2_with (go_at_call 80;(refine (ZH0 _ _ x Lk Mk wr.drew (ZDC.keep HR.out (fun _ _=>rfl)) (ZDC.keep HR'.out (fun _ _=>rfl))).mono ?_;rintro e w1 ⟨rfl,t⟩;have HB1:=Lib.hid (HB.out.drew.trans (t.mono HB.out.size));clear t))
   go_roundw
   case rel=>exact ⟨k+1,yE,by go_num,HB1.out⟩
   case measure=>simp [intOf];omega
  ·go_wp2
   go_ret
   exact ⟨rfl,HB.out⟩
set_option maxHeartbeats 1600000 in
theorem ZGK (cs ds:List Value) (x:Zx) (L M:List Nat) (w:World) (h1:ZC8.rep w cs x L) (h2:ZC8.rep w ds x M):
  Calls prog 199 #[.agg cs.toArray,.agg ds.toArray] w (ZDH w):=by
 obtain ⟨aA1,ac1,aL1,rfl,_ahL,at0,an1,am1,as1⟩:=h1
 obtain ⟨bA1,bc1,bL1,rfl,_bhL,bt0,bn1,bm1,bs1⟩:=h2
 unfold maxLen at am1 bm1
 have SA1:=Lib.hid as1
 have SB1:=Lib.hid bs1
 clear as1 bs1
 go_enter func199,ntmps199
 go_wp2_with fail
 refine (ZE1 [.string x.pattern.rel,.slice aA1 x.pattern.args.length ac1] [.string x.pattern.rel,.slice bA1 x.pattern.args.length bc1] x.pattern _ _ _ ⟨aA1,ac1,aL1,rfl,rfl,at0,an1,(by unfold maxLen;omega),SA1.out.below (by repeat (first | refine Below.setCell ?_ (by dsimp only;omega) _ | refine Below.alloc ?_ (by first | (simp;done) | (simp;omega) | omega) _ | exact Below.refl _ _))⟩ ⟨bA1,bc1,bL1,rfl,rfl,bt0,bn1,(by unfold maxLen;omega),SB1.out.below (by repeat (first | refine Below.setCell ?_ (by dsimp only;omega) _ | refine Below.alloc ?_ (by first | (simp;done) | (simp;omega) | omega) _ | exact Below.refl _ _))⟩).mono ?_
 rintro e w1 ⟨rfl,hb1⟩
 have B1:Hid (Below w.heap.size w w1):=Below.trans (by repeat (first | refine Below.setCell ?_ (by dsimp only;omega) _ | refine Below.alloc ?_ (by first | (simp;done) | (simp;omega) | omega) _ | exact Below.refl _ _)) (hb1.mono (by first | (simp;done) | (simp;omega) | omega))
 have K0:Hid (Blk w1 w.heap.size 166 #[.int .i64 x.kind,.string x.pattern.rel,.slice aA1 x.pattern.args.length ac1]):=Blk.later (Blk.alloc (Blk.new _ _ _) _) hb1
 have K1:Hid (Blk w1 (w.heap.size+1) 166 #[.int .i64 x.kind,.string x.pattern.rel,.slice bA1 x.pattern.args.length bc1]):=Blk.later (Blk.new_at (by simp)) hb1
 have f0:=K0.out.at (i:=0) rfl
 have r0:=K1.out.at (i:=0) rfl
 have f1:=K0.out.at (i:=1) rfl
 have r1:=K1.out.at (i:=1) rfl
 have f2:=K0.out.at (i:=2) rfl
 have r2:=K1.out.at (i:=2) rfl
 clear hb1
 have hz1:=B1.out.size
 go_wp2_with fail
 go_ret
 exact ⟨rfl,(by repeat (first | refine Below.setCell ?_ (by dsimp only;omega) _ | refine Below.alloc ?_ (by first | (simp;done) | (simp;omega) | omega) _ | exact B1.out))⟩
theorem ZGq (A B:Option Addr) (n c d:Nat) (ds:List Zx) (L M:List Nat) (w:World) (hn:n=ds.length) (hm:n≤9223372036854775807) (h1:Sli ZC8 w A ds L) (h2:Sli ZC8 w B ds M):
  Calls prog 130 #[.slice A n c,.slice B n d] w (ZDH w):=by
 have H1:=Lib.hid h1
 have H2:=Lib.hid h2
 have HN:=Lib.hid hn
 clear h1 h2 hn
 have hne:((n:Int) != n)=false:=by simp
 go_enter func130,ntmps130
 go_wp2
 go_loopw [5] (fun i wr=>∃(k:Nat),k≤n∧i=.int .i64 k∧Hid (Below w.heap.size w wr)) (fun i _=>n - (intOf i).toNat)
 case atStart=>exact ⟨0,A3 _,rfl,Below.refl _ _⟩
 case round=>
  obtain ⟨k,hk,rfl,HB⟩:=hrel
  by_cases hlt:k<n
  ·have q:k<ds.length:=by have:=HN.out;omega
   obtain ⟨b,off,cs,Lk,rfl,u,v,g,hc⟩:=H1.out.at_ q
   obtain ⟨b',a,cs',Mk,rfl,z,C,f,l⟩:=H2.out.at_ q
   have o:b<w.heap.size:=H1.out.lt b u
   have j:b'<w.heap.size:=H2.out.lt b' z
   have HR:=Lib.hid (ZC8.keep g (ZCW HB.out (fun y m=>H1.out.lt y (v y m))))
   have HR':=Lib.hid (ZC8.keep f (ZCW HB.out (fun y m=>H2.out.lt y (C y m))))
   generalize ds[k]=x at *
   obtain ⟨aA1,ac1,rfl⟩:=ZDW g
   obtain ⟨bA1,bc1,rfl⟩:=ZDW f
   have q0:wr.cell? ⟨b,off+k * 3,none⟩=_:=(HB.out.cell (p:=⟨b,off+(k * 3+0),none⟩) o).trans (hc 0 _ rfl)
   have p0:wr.cell? ⟨b',a+k * 3,none⟩=_:=(HB.out.cell (p:=⟨b',a+(k * 3+0),none⟩) j).trans (l 0 _ rfl)
   have q1:wr.cell? ⟨b,off+k * 3+1,none⟩=_:=(HB.out.cell (p:=⟨b,off+(k * 3+1),none⟩) o).trans (hc 1 _ rfl)
   have p1:wr.cell? ⟨b',a+k * 3+1,none⟩=_:=(HB.out.cell (p:=⟨b',a+(k * 3+1),none⟩) j).trans (l 1 _ rfl)
   have q2:wr.cell? ⟨b,off+k * 3+2,none⟩=_:=(HB.out.cell (p:=⟨b,off+(k * 3+2),none⟩) o).trans (hc 2 _ rfl)
   have p2:wr.cell? ⟨b',a+k * 3+2,none⟩=_:=(HB.out.cell (p:=⟨b',a+(k * 3+2),none⟩) j).trans (l 2 _ rfl)
   clear hc l g f
   have k0:(0:Int)≤k:=by omega
   have k1:(k:Int)<n:=by omega
   go_wp2_with fail
   go_still_tail 8,(by kernel_rfl)
   change wpList _ _ _ _ _ wr.drew
   go_wp2_with (go_at_call 199;(refine (ZGK _ _ x Lk Mk wr.drew (ZC8.keep HR.out (fun _ _=>rfl)) (ZC8.keep HR'.out (fun _ _=>rfl))).mono ?_;rintro e w1 ⟨rfl,t⟩;have HB1:=Lib.hid (HB.out.drew.trans (t.mono HB.out.size));clear t))
   go_roundw
   case rel=>exact ⟨k+1,yE,by go_num,HB1.out⟩
   case measure=>simp [intOf];omega
  ·go_wp2
   go_ret
   exact ⟨rfl,HB.out⟩
set_option maxHeartbeats 1600000 in
theorem ZHQ (cs ds:List Value) (x:Zf) (L M:List Nat) (w:World) (h1:ZDB.rep w cs x L) (h2:ZDB.rep w ds x M):
  Calls prog 65 #[.agg cs.toArray,.agg ds.toArray] w (ZDH w):=by
 obtain ⟨aA1,ac1,aL1,aA2,ac2,aL2,rfl,_ahL,at0,an1,am1,as1,an2,am2,as2⟩:=h1
 obtain ⟨bA1,bc1,bL1,bA2,bc2,bL2,rfl,_bhL,bt0,bn1,bm1,bs1,bn2,bm2,bs2⟩:=h2
 unfold maxLen at am1 bm1 am2 bm2
 have SA1:=Lib.hid as1
 have SB1:=Lib.hid bs1
 clear as1 bs1
 have SA2:=Lib.hid as2
 have SB2:=Lib.hid bs2
 clear as2 bs2
 go_enter func65,ntmps65
 go_wp2_with fail
 refine (ZHb aA1 bA1 _ ac1 bc1 x.cond aL1 bL1 _ rfl (by omega) (SA1.out.below (by repeat (first | refine Below.setCell ?_ (by dsimp only;omega) _ | refine Below.alloc ?_ (by first | (simp;done) | (simp;omega) | omega) _ | exact Below.refl _ _))) (SB1.out.below (by repeat (first | refine Below.setCell ?_ (by dsimp only;omega) _ | refine Below.alloc ?_ (by first | (simp;done) | (simp;omega) | omega) _ | exact Below.refl _ _)))).mono ?_
 rintro e w1 ⟨rfl,hb1⟩
 have B1:Hid (Below w.heap.size w w1):=Below.trans (by repeat (first | refine Below.setCell ?_ (by dsimp only;omega) _ | refine Below.alloc ?_ (by first | (simp;done) | (simp;omega) | omega) _ | exact Below.refl _ _)) (hb1.mono (by first | (simp;done) | (simp;omega) | omega))
 have K0:Hid (Blk w1 w.heap.size 104 #[.string x.name,.int .i64 x.priority,.slice aA1 x.cond.length ac1,.slice aA2 x.thn.length ac2]):=Blk.later (Blk.alloc (Blk.new _ _ _) _) hb1
 have K1:Hid (Blk w1 (w.heap.size+1) 104 #[.string x.name,.int .i64 x.priority,.slice bA1 x.cond.length bc1,.slice bA2 x.thn.length bc2]):=Blk.later (Blk.new_at (by simp)) hb1
 have f0:=K0.out.at (i:=0) rfl
 have r0:=K1.out.at (i:=0) rfl
 have f1:=K0.out.at (i:=1) rfl
 have r1:=K1.out.at (i:=1) rfl
 have f2:=K0.out.at (i:=2) rfl
 have r2:=K1.out.at (i:=2) rfl
 have f3:=K0.out.at (i:=3) rfl
 have r3:=K1.out.at (i:=3) rfl
 clear hb1
 have hz1:=B1.out.size
 go_wp2_with fail
 refine (ZGq aA2 bA2 _ ac2 bc2 x.thn aL2 bL2 _ rfl (by omega) (SA2.out.below (by repeat (first | refine Below.setCell ?_ (by dsimp only;omega) _ | refine Below.alloc ?_ (by first | (simp;done) | (simp;omega) | omega) _ | exact B1.out))) (SB2.out.below (by repeat (first | refine Below.setCell ?_ (by dsimp only;omega) _ | refine Below.alloc ?_ (by first | (simp;done) | (simp;omega) | omega) _ | exact B1.out)))).mono ?_
 rintro e w2 ⟨rfl,hb2⟩
 have B2:Hid (Below w.heap.size w w2):=Below.trans (by repeat (first | refine Below.setCell ?_ (by dsimp only;omega) _ | refine Below.alloc ?_ (by first | (simp;done) | (simp;omega) | omega) _ | exact B1.out)) (hb2.mono (by first | (simp;done) | (simp;omega) | omega))
 have K0:=Lib.hid (K0.out.later hb2)
 have K1:=Lib.hid (K1.out.later hb2)
 clear f0 r0 f1 r1 f2 r2 f3 r3
 have f0:=K0.out.at (i:=0) rfl
 have r0:=K1.out.at (i:=0) rfl
 have f1:=K0.out.at (i:=1) rfl
 have r1:=K1.out.at (i:=1) rfl
 have f2:=K0.out.at (i:=2) rfl
 have r2:=K1.out.at (i:=2) rfl
 have f3:=K0.out.at (i:=3) rfl
 have r3:=K1.out.at (i:=3) rfl
 clear hb2
 have hz2:=B2.out.size
 go_wp2_with fail
 go_ret
 exact ⟨rfl,(by repeat (first | refine Below.setCell ?_ (by dsimp only;omega) _ | refine Below.alloc ?_ (by first | (simp;done) | (simp;omega) | omega) _ | exact B2.out))⟩
theorem ZHJ (A B:Option Addr) (n c d:Nat) (ds:List Zf) (L M:List Nat) (w:World) (hn:n=ds.length) (hm:n≤9223372036854775807) (h1:Sli ZDB w A ds L) (h2:Sli ZDB w B ds M):
  Calls prog 17 #[.slice A n c,.slice B n d] w (ZDH w):=by
 have H1:=Lib.hid h1
 have H2:=Lib.hid h2
 have HN:=Lib.hid hn
 clear h1 h2 hn
 have hne:((n:Int) != n)=false:=by simp
 go_enter func17,ntmps17
 go_wp2
 go_loopw [5] (fun i wr=>∃(k:Nat),k≤n∧i=.int .i64 k∧Hid (Below w.heap.size w wr)) (fun i _=>n - (intOf i).toNat)
 case atStart=>exact ⟨0,A3 _,rfl,Below.refl _ _⟩
 case round=>
  obtain ⟨k,hk,rfl,HB⟩:=hrel
  by_cases hlt:k<n
  ·have q:k<ds.length:=by have:=HN.out;omega
   obtain ⟨b,off,cs,Lk,rfl,u,v,j,hc⟩:=H1.out.at_ q
   obtain ⟨b',a,cs',Mk,rfl,z,C,f,l⟩:=H2.out.at_ q
   have o:b<w.heap.size:=H1.out.lt b u
   have g:b'<w.heap.size:=H2.out.lt b' z
   have HR:=Lib.hid (ZDB.keep j (ZCW HB.out (fun y m=>H1.out.lt y (v y m))))
   have HR':=Lib.hid (ZDB.keep f (ZCW HB.out (fun y m=>H2.out.lt y (C y m))))
   generalize ds[k]=x at *
   obtain ⟨aA1,ac1,aA2,ac2,rfl⟩:=ZD9 j
   obtain ⟨bA1,bc1,bA2,bc2,rfl⟩:=ZD9 f
   have q0:wr.cell? ⟨b,off+k * 4,none⟩=_:=(HB.out.cell (p:=⟨b,off+(k * 4+0),none⟩) o).trans (hc 0 _ rfl)
   have p0:wr.cell? ⟨b',a+k * 4,none⟩=_:=(HB.out.cell (p:=⟨b',a+(k * 4+0),none⟩) g).trans (l 0 _ rfl)
   have q1:wr.cell? ⟨b,off+k * 4+1,none⟩=_:=(HB.out.cell (p:=⟨b,off+(k * 4+1),none⟩) o).trans (hc 1 _ rfl)
   have p1:wr.cell? ⟨b',a+k * 4+1,none⟩=_:=(HB.out.cell (p:=⟨b',a+(k * 4+1),none⟩) g).trans (l 1 _ rfl)
   have q2:wr.cell? ⟨b,off+k * 4+2,none⟩=_:=(HB.out.cell (p:=⟨b,off+(k * 4+2),none⟩) o).trans (hc 2 _ rfl)
   have p2:wr.cell? ⟨b',a+k * 4+2,none⟩=_:=(HB.out.cell (p:=⟨b',a+(k * 4+2),none⟩) g).trans (l 2 _ rfl)
   have q3:wr.cell? ⟨b,off+k * 4+3,none⟩=_:=(HB.out.cell (p:=⟨b,off+(k * 4+3),none⟩) o).trans (hc 3 _ rfl)
   have p3:wr.cell? ⟨b',a+k * 4+3,none⟩=_:=(HB.out.cell (p:=⟨b',a+(k * 4+3),none⟩) g).trans (l 3 _ rfl)
   clear hc l j f
   have k0:(0:Int)≤k:=by omega
   have k1:(k:Int)<n:=by omega
   go_wp2_with fail
   go_still_tail 8,(by kernel_rfl)
   change wpList _ _ _ _ _ wr.drew
   go_wp2_with (go_at_call 65;(refine (ZHQ _ _ x Lk Mk wr.drew (ZDB.keep HR.out (fun _ _=>rfl)) (ZDB.keep HR'.out (fun _ _=>rfl))).mono ?_;rintro e w1 ⟨rfl,t⟩;have HB1:=Lib.hid (HB.out.drew.trans (t.mono HB.out.size));clear t))
   go_roundw
   case rel=>exact ⟨k+1,yE,by go_num,HB1.out⟩
   case measure=>simp [intOf];omega
  ·go_wp2
   go_ret
   exact ⟨rfl,HB.out⟩
set_option maxHeartbeats 1600000 in
theorem ZHX (cs ds:List Value) (x:ZvY) (L M:List Nat) (w:World) (h1:ZD3.rep w cs x L) (h2:ZD3.rep w ds x M):
  Calls prog 105 #[.agg cs.toArray,.agg ds.toArray] w (ZDH w):=by
 obtain ⟨aA1,ac1,aL1,aA2,ac2,aL2,rfl,_ahL,at0,at1,an1,am1,as1,an2,am2,as2⟩:=h1
 obtain ⟨bA1,bc1,bL1,bA2,bc2,bL2,rfl,_bhL,bt0,bt1,bn1,bm1,bs1,bn2,bm2,bs2⟩:=h2
 unfold maxLen at am1 bm1 am2 bm2
 have SA1:=Lib.hid as1
 have SB1:=Lib.hid bs1
 clear as1 bs1
 have SA2:=Lib.hid as2
 have SB2:=Lib.hid bs2
 clear as2 bs2
 go_enter func105,ntmps105
 go_wp2_with fail
 refine (ZFe [.string x.fact.rel,.slice aA1 x.fact.args.length ac1] [.string x.fact.rel,.slice bA1 x.fact.args.length bc1] x.fact _ _ _ ⟨aA1,ac1,aL1,rfl,rfl,at0,an1,(by unfold maxLen;omega),SA1.out.below (by repeat (first | refine Below.setCell ?_ (by dsimp only;omega) _ | refine Below.alloc ?_ (by first | (simp;done) | (simp;omega) | omega) _ | exact Below.refl _ _))⟩ ⟨bA1,bc1,bL1,rfl,rfl,bt0,bn1,(by unfold maxLen;omega),SB1.out.below (by repeat (first | refine Below.setCell ?_ (by dsimp only;omega) _ | refine Below.alloc ?_ (by first | (simp;done) | (simp;omega) | omega) _ | exact Below.refl _ _))⟩).mono ?_
 rintro e w1 ⟨rfl,hb1⟩
 have B1:Hid (Below w.heap.size w w1):=Below.trans (by repeat (first | refine Below.setCell ?_ (by dsimp only;omega) _ | refine Below.alloc ?_ (by first | (simp;done) | (simp;omega) | omega) _ | exact Below.refl _ _)) (hb1.mono (by first | (simp;done) | (simp;omega) | omega))
 have K0:Hid (Blk w1 w.heap.size 86 #[.string x.fact.rel,.slice aA1 x.fact.args.length ac1,.string x.rule,.slice aA2 x.uses.length ac2]):=Blk.later (Blk.alloc (Blk.new _ _ _) _) hb1
 have K1:Hid (Blk w1 (w.heap.size+1) 86 #[.string x.fact.rel,.slice bA1 x.fact.args.length bc1,.string x.rule,.slice bA2 x.uses.length bc2]):=Blk.later (Blk.new_at (by simp)) hb1
 have f0:=K0.out.at (i:=0) rfl
 have r0:=K1.out.at (i:=0) rfl
 have f1:=K0.out.at (i:=1) rfl
 have r1:=K1.out.at (i:=1) rfl
 have f2:=K0.out.at (i:=2) rfl
 have r2:=K1.out.at (i:=2) rfl
 have f3:=K0.out.at (i:=3) rfl
 have r3:=K1.out.at (i:=3) rfl
 clear hb1
 have hz1:=B1.out.size
 go_wp2_with fail
 refine (ZH2 aA2 bA2 _ ac2 bc2 x.uses aL2 bL2 _ rfl (by omega) (SA2.out.below (by repeat (first | refine Below.setCell ?_ (by dsimp only;omega) _ | refine Below.alloc ?_ (by first | (simp;done) | (simp;omega) | omega) _ | exact B1.out))) (SB2.out.below (by repeat (first | refine Below.setCell ?_ (by dsimp only;omega) _ | refine Below.alloc ?_ (by first | (simp;done) | (simp;omega) | omega) _ | exact B1.out)))).mono ?_
 rintro e w2 ⟨rfl,hb2⟩
 have B2:Hid (Below w.heap.size w w2):=Below.trans (by repeat (first | refine Below.setCell ?_ (by dsimp only;omega) _ | refine Below.alloc ?_ (by first | (simp;done) | (simp;omega) | omega) _ | exact B1.out)) (hb2.mono (by first | (simp;done) | (simp;omega) | omega))
 have K0:=Lib.hid (K0.out.later hb2)
 have K1:=Lib.hid (K1.out.later hb2)
 clear f0 r0 f1 r1 f2 r2 f3 r3
 have f0:=K0.out.at (i:=0) rfl
 have r0:=K1.out.at (i:=0) rfl
 have f1:=K0.out.at (i:=1) rfl
 have r1:=K1.out.at (i:=1) rfl
 have f2:=K0.out.at (i:=2) rfl
 have r2:=K1.out.at (i:=2) rfl
 have f3:=K0.out.at (i:=3) rfl
 have r3:=K1.out.at (i:=3) rfl
 clear hb2
 have hz2:=B2.out.size
 go_wp2_with fail
 go_ret
 exact ⟨rfl,(by repeat (first | refine Below.setCell ?_ (by dsimp only;omega) _ | refine Below.alloc ?_ (by first | (simp;done) | (simp;omega) | omega) _ | exact B2.out))⟩
theorem ZEQ (A B:Option Addr) (n c d:Nat) (ds:List ZvY) (L M:List Nat) (w:World) (hn:n=ds.length) (hm:n≤9223372036854775807) (h1:Sli ZD3 w A ds L) (h2:Sli ZD3 w B ds M):
  Calls prog 42 #[.slice A n c,.slice B n d] w (ZDH w):=by
 have H1:=Lib.hid h1
 have H2:=Lib.hid h2
 have HN:=Lib.hid hn
 clear h1 h2 hn
 have hne:((n:Int) != n)=false:=by simp
 go_enter func42,ntmps42
 go_wp2
 go_loopw [5] (fun i wr=>∃(k:Nat),k≤n∧i=.int .i64 k∧Hid (Below w.heap.size w wr)) (fun i _=>n - (intOf i).toNat)
 case atStart=>exact ⟨0,A3 _,rfl,Below.refl _ _⟩
 case round=>
  obtain ⟨k,hk,rfl,HB⟩:=hrel
  by_cases hlt:k<n
  ·have q:k<ds.length:=by have:=HN.out;omega
   obtain ⟨b,off,cs,Lk,rfl,u,v,j,hc⟩:=H1.out.at_ q
   obtain ⟨b',a,cs',Mk,rfl,z,C,f,l⟩:=H2.out.at_ q
   have o:b<w.heap.size:=H1.out.lt b u
   have g:b'<w.heap.size:=H2.out.lt b' z
   have HR:=Lib.hid (ZD3.keep j (ZCW HB.out (fun y m=>H1.out.lt y (v y m))))
   have HR':=Lib.hid (ZD3.keep f (ZCW HB.out (fun y m=>H2.out.lt y (C y m))))
   generalize ds[k]=x at *
   obtain ⟨aA1,ac1,aA2,ac2,rfl⟩:=ZFL j
   obtain ⟨bA1,bc1,bA2,bc2,rfl⟩:=ZFL f
   have q0:wr.cell? ⟨b,off+k * 4,none⟩=_:=(HB.out.cell (p:=⟨b,off+(k * 4+0),none⟩) o).trans (hc 0 _ rfl)
   have p0:wr.cell? ⟨b',a+k * 4,none⟩=_:=(HB.out.cell (p:=⟨b',a+(k * 4+0),none⟩) g).trans (l 0 _ rfl)
   have q1:wr.cell? ⟨b,off+k * 4+1,none⟩=_:=(HB.out.cell (p:=⟨b,off+(k * 4+1),none⟩) o).trans (hc 1 _ rfl)
   have p1:wr.cell? ⟨b',a+k * 4+1,none⟩=_:=(HB.out.cell (p:=⟨b',a+(k * 4+1),none⟩) g).trans (l 1 _ rfl)
   have q2:wr.cell? ⟨b,off+k * 4+2,none⟩=_:=(HB.out.cell (p:=⟨b,off+(k * 4+2),none⟩) o).trans (hc 2 _ rfl)
   have p2:wr.cell? ⟨b',a+k * 4+2,none⟩=_:=(HB.out.cell (p:=⟨b',a+(k * 4+2),none⟩) g).trans (l 2 _ rfl)
   have q3:wr.cell? ⟨b,off+k * 4+3,none⟩=_:=(HB.out.cell (p:=⟨b,off+(k * 4+3),none⟩) o).trans (hc 3 _ rfl)
   have p3:wr.cell? ⟨b',a+k * 4+3,none⟩=_:=(HB.out.cell (p:=⟨b',a+(k * 4+3),none⟩) g).trans (l 3 _ rfl)
   clear hc l j f
   have k0:(0:Int)≤k:=by omega
   have k1:(k:Int)<n:=by omega
   go_wp2_with fail
   go_still_tail 8,(by kernel_rfl)
   change wpList _ _ _ _ _ wr.drew
   go_wp2_with (go_at_call 105;(refine (ZHX _ _ x Lk Mk wr.drew (ZD3.keep HR.out (fun _ _=>rfl)) (ZD3.keep HR'.out (fun _ _=>rfl))).mono ?_;rintro e w1 ⟨rfl,t⟩;have HB1:=Lib.hid (HB.out.drew.trans (t.mono HB.out.size));clear t))
   go_roundw
   case rel=>exact ⟨k+1,yE,by go_num,HB1.out⟩
   case measure=>simp [intOf];omega
  ·go_wp2
   go_ret
   exact ⟨rfl,HB.out⟩
end
section
open Go.RowKit
def ZFP:Nat→Nat→List UInt8→List UInt8
 | 0,_,acc=>acc
 | f+1,k,acc=>if k=0 then acc else ZFP f (k / 10) ((48+AP (k % 10))::acc)
def ZHy (k:Nat):ByteArray:=⟨(109::ZFP (k+1) k []).toArray⟩
theorem ZFR (W:World) (z:Int):(convert 48 9 (.slice (some ⟨W.heap.size,0,none⟩) 1 1)).run prog (W.alloc (.cells #[.int .u8 z] 5))=.ok (.string ⟨#[AP z.toNat]⟩) (W.alloc (.cells #[.int .u8 z] 5)):=by
 rw [run_convert_bytes_string _ _ _ _ _ _ _ underlying48 underlying5 underlying9,run_bytesToString _ _ _ _ [z] (by simp [loadCells,go_sem])]
 rfl
theorem ZGL (k:Nat) (w:World) (h0:1≤k) (h1:k≤4611686018427387904):
  Calls prog 66 #[.int .i64 k] w fun e w'=>e=.returned (.string (ZHy k))∧Below w.heap.size w w':=by
 have hle:¬((k:Int)≤0):=by omega
 have kc:=ZFR
 go_enter func66,ntmps66
 go_wp2
 go_loopw [0,3] (fun i s wr=>∃(f q:Nat) (a:List UInt8),i=.int .i64 q∧s=.string ⟨a.toArray⟩∧q≤k∧q<f∧a.length+q≤k∧Hid (ZFP f q a=ZFP (k+1) k [])∧Hid (Below w.heap.size w wr)) (fun i _ _=>(intOf i).toNat)
 case atStart=>exact ⟨k+1,k,[],rfl,rfl,A4 _,yE,yG,Lib.hid rfl,Below.refl _ _⟩
 case round=>
  obtain ⟨f,q,a,rfl,rfl,hqk,hqf,hal,HE,HB⟩:=hrel
  by_cases hq:0<q
  ·have b:(0:Int)<q:=by omega
   have HEn:Hid (ZFP (f - 1) (q / 10) ((48+AP (q % 10))::a)=ZFP (k+1) k []):=by
    rw [Hid,←HE.out]
    obtain ⟨f,rfl⟩:∃g,f=g+1:=⟨f - 1,yE⟩
    rw [ZFP,if_neg yE];rfl
   go_wp2
   go_roundw
   case rel=>exact ⟨f - 1,q / 10,_,by go_num,congrArg Value.string (by rw [AR];simp),yE,yE,by simp only[AI];omega,HEn,HB.out.alloc HB.out.size _⟩
   case measure=>simp [intOf];omega
  ·obtain rfl:q=0:=by omega
   have e:Hid (ZFP (k+1) k []=a):=by
    rw [Hid,←HE.out]
    obtain ⟨f,rfl⟩:∃g,f=g+1:=⟨f - 1,yE⟩
    simp [ZFP]
   have b:¬(0:Int)<(0:Nat):=by omega
   go_wp2
   go_ret
   exact ⟨congrArg (fun s=>Ending.returned (.string s)) (by rw [ZHy,e.out,AR];simp),HB.out⟩
theorem ZHs:∀(f k:Nat) (a:List UInt8),(ZFP f k a).length≤a.length+f
 | 0,_,a=>by simp [ZFP]
 | f+1,k,a=>by
  rw [ZFP]
  split
  ·omega
  ·have:=ZHs f (k / 10) ((48+AP (k % 10))::a)
   simp at this;omega
theorem ZH5 (k:Nat) (h:k≤4611686018427387904):(ZHy k).size≤9223372036854775807:=by
 have:=ZHs (k+1) k []
 simp [ZHy,AQ] at this ⊢
 omega
end
section
open Go.RowKit
def mTx (k:Int):ByteArray:=ZHy k.toNat
theorem ZDe (k:Int) (w:World) (h0:1≤k) (h1:k≤4611686018427387904):
  Calls prog 66 #[.int .i64 k] w fun e w'=>e=.returned (.string (mTx k))∧Below w.heap.size w w':=by
 obtain ⟨n,rfl⟩:=Int.eq_ofNat_of_zero_le (show 0≤k by omega)
 exact ZGL n w yE yE
theorem ZD2 (k:Int) (h:k≤4611686018427387904):(mTx k).size≤9223372036854775807:=ZH5 _ (by omega)
def ZC0:Int→List ByteArray→List ByteArray
 | _,[]=>[]
 | k,_::r=>mTx k::ZC0 (k+1) r
def ZDK:Int→List Int→List Int
 | _,[]=>[]
 | k,_::r=>k::ZDK (k+1) r
def ZCV (k:Int) (l:List ByteArray):Int:=k+l.length
def ZDp (k:Int) (l:List Int):Int:=k+l.length
theorem ZDz (k:Int) (l:List ByteArray):(ZC0 k l).length=l.length:=by induction l generalizing k with | nil=>rfl | cons x r ih=>simp [ZC0,ih]
theorem ZFc (k:Int) (l:List Int):(ZDK k l).length=l.length:=by induction l generalizing k with | nil=>rfl | cons x r ih=>simp [ZDK,ih]
theorem ZC6 (k:Int) (l:List ByteArray):k≤ZCV k l:=by unfold ZCV;omega
theorem ZEM (k:Int) (l:List Int):k≤ZDp k l:=by unfold ZDp;omega
theorem ZDO (k:Int) (l:List ByteArray):ZCV k l≤k+16 * ZDs l:=by unfold ZCV ZDs;omega
theorem ZHB (k:Int) (l:List Int):ZDp k l≤k+16 * l.length:=by unfold ZDp;omega
def ZFa (k:Int) (x:Zd):Zd:=⟨mTx (k),ZC0 (k+1) x.args⟩
def ZDy (k:Int) (x:Zd):Int:=ZCV (k+1) x.args
def ZEf:Int→List Zd→List Zd
 | _,[]=>[]
 | k,x::r=>ZFa k x::ZEf (ZDy k x) r
def ZDj:Int→List Zd→Int
 | k,[]=>k
 | k,x::r=>ZDj (ZDy k x) r
theorem ZFG (k:Int) (x:Zd):k≤ZDy k x:=by
 unfold ZDy
 have:=ZC6 (k+1) x.args
 omega
theorem ZFk (k:Int) (l:List Zd):k≤ZDj k l:=by
 induction l generalizing k with
 | nil=>exact AK _
 | cons x r ih=>exact AA (ZFG k x) (ih _)
theorem ZHh (k:Int) (x:Zd):ZDy k x≤k+1+16 * ZC2 x:=by
 unfold ZDy
 have:=ZDO (k+1) x.args
 simp only[ZC2]
 omega
theorem ZG3 (k:Int) (l:List Zd):ZDj k l≤k+16 * ZDa l:=by
 induction l generalizing k with
 | nil=>simp [ZDj,ZDa]
 | cons x r ih=>
  have h1:=ZHh k x
  have h2:=ih (ZDy k x)
  simp only[ZDj,ZDa,AI,AL,AM] at h2 ⊢
  omega
def ZE6 (k:Int) (x:Zr):Zr:=⟨(k),⟨mTx (k+1),ZC0 (k+1+1) x.pattern.args⟩,mTx (ZCV (k+1+1) x.pattern.args),mTx (ZCV (k+1+1) x.pattern.args+1)⟩
def ZDw (k:Int) (x:Zr):Int:=ZCV (k+1+1) x.pattern.args+1+1
def ZDX:Int→List Zr→List Zr
 | _,[]=>[]
 | k,x::r=>ZE6 k x::ZDX (ZDw k x) r
def ZDi:Int→List Zr→Int
 | k,[]=>k
 | k,x::r=>ZDi (ZDw k x) r
theorem ZHg (k:Int) (l:List Zr):(ZDX k l).length=l.length:=by induction l generalizing k with | nil=>rfl | cons x r ih=>simp [ZDX,ih]
theorem ZFI (k:Int) (x:Zr):k≤ZDw k x:=by
 unfold ZDw
 have:=ZC6 (k+1+1) x.pattern.args
 omega
theorem ZEF (k:Int) (l:List Zr):k≤ZDi k l:=by
 induction l generalizing k with
 | nil=>exact AK _
 | cons x r ih=>exact AA (ZFI k x) (ih _)
theorem ZHL (k:Int) (x:Zr):ZDw k x≤k+4+16 * ZDl x:=by
 unfold ZDw
 have:=ZDO (k+1+1) x.pattern.args
 simp only[ZDl,ZC1]
 omega
theorem ZG9 (k:Int) (l:List Zr):ZDi k l≤k+16 * ZDh l:=by
 induction l generalizing k with
 | nil=>simp [ZDi,ZDh]
 | cons x r ih=>
  have h1:=ZHL k x
  have h2:=ih (ZDw k x)
  simp only[ZDi,ZDh,AI,AL,AM] at h2 ⊢
  omega
def ZEi (k:Int) (x:Zx):Zx:=⟨(k),⟨mTx (k+1),ZC0 (k+1+1) x.pattern.args⟩⟩
def ZDk (k:Int) (x:Zx):Int:=ZCV (k+1+1) x.pattern.args
def ZDu:Int→List Zx→List Zx
 | _,[]=>[]
 | k,x::r=>ZEi k x::ZDu (ZDk k x) r
def ZDg:Int→List Zx→Int
 | k,[]=>k
 | k,x::r=>ZDg (ZDk k x) r
theorem ZGs (k:Int) (l:List Zx):(ZDu k l).length=l.length:=by induction l generalizing k with | nil=>rfl | cons x r ih=>simp [ZDu,ih]
theorem ZE3 (k:Int) (x:Zx):k≤ZDk k x:=by
 unfold ZDk
 have:=ZC6 (k+1+1) x.pattern.args
 omega
theorem ZEj (k:Int) (l:List Zx):k≤ZDg k l:=by
 induction l generalizing k with
 | nil=>exact AK _
 | cons x r ih=>exact AA (ZE3 k x) (ih _)
theorem ZGp (k:Int) (x:Zx):ZDk k x≤k+2+16 * ZC9 x:=by
 unfold ZDk
 have:=ZDO (k+1+1) x.pattern.args
 simp only[ZC9,ZC1]
 omega
theorem ZFX (k:Int) (l:List Zx):ZDg k l≤k+16 * ZC7 l:=by
 induction l generalizing k with
 | nil=>simp [ZDg,ZC7]
 | cons x r ih=>
  have h1:=ZGp k x
  have h2:=ih (ZDk k x)
  simp only[ZDg,ZC7,AI,AL,AM] at h2 ⊢
  omega
def ZE9 (k:Int) (x:Zf):Zf:=⟨mTx (k),(k+1),ZDX (k+1+1) x.cond,ZDu (ZDi (k+1+1) x.cond) x.thn⟩
def ZDv (k:Int) (x:Zf):Int:=ZDg (ZDi (k+1+1) x.cond) x.thn
def ZEg:Int→List Zf→List Zf
 | _,[]=>[]
 | k,x::r=>ZE9 k x::ZEg (ZDv k x) r
def ZC5:Int→List Zf→Int
 | k,[]=>k
 | k,x::r=>ZC5 (ZDv k x) r
theorem ZFH (k:Int) (x:Zf):k≤ZDv k x:=by
 unfold ZDv
 have:=ZEF (k+1+1) x.cond
 have:=ZEj (ZDi (k+1+1) x.cond) x.thn
 omega
theorem ZFq (k:Int) (l:List Zf):k≤ZC5 k l:=by
 induction l generalizing k with
 | nil=>exact AK _
 | cons x r ih=>exact AA (ZFH k x) (ih _)
theorem ZHl (k:Int) (x:Zf):ZDv k x≤k+2+16 * ZDd x:=by
 unfold ZDv
 have:=ZG9 (k+1+1) x.cond
 have:=ZFX (ZDi (k+1+1) x.cond) x.thn
 simp only[ZDd]
 omega
theorem ZGT (k:Int) (l:List Zf):ZC5 k l≤k+16 * ZC4 l:=by
 induction l generalizing k with
 | nil=>simp [ZC5,ZC4]
 | cons x r ih=>
  have h1:=ZHl k x
  have h2:=ih (ZDv k x)
  simp only[ZC5,ZC4,AI,AL,AM] at h2 ⊢
  omega
def ZEH (k:Int) (x:ZvY):ZvY:=⟨⟨mTx (k),ZC0 (k+1) x.fact.args⟩,mTx (ZCV (k+1) x.fact.args),ZDK (ZCV (k+1) x.fact.args+1) x.uses⟩
def ZDb (k:Int) (x:ZvY):Int:=ZDp (ZCV (k+1) x.fact.args+1) x.uses
def ZDt:Int→List ZvY→List ZvY
 | _,[]=>[]
 | k,x::r=>ZEH k x::ZDt (ZDb k x) r
def ZCY:Int→List ZvY→Int
 | k,[]=>k
 | k,x::r=>ZCY (ZDb k x) r
theorem ZHE (k:Int) (l:List ZvY):(ZDt k l).length=l.length:=by induction l generalizing k with | nil=>rfl | cons x r ih=>simp [ZDt,ih]
theorem ZEN (k:Int) (x:ZvY):k≤ZDb k x:=by
 unfold ZDb
 have:=ZC6 (k+1) x.fact.args
 have:=ZEM (ZCV (k+1) x.fact.args+1) x.uses
 omega
theorem ZEE (k:Int) (l:List ZvY):k≤ZCY k l:=by
 induction l generalizing k with
 | nil=>exact AK _
 | cons x r ih=>exact AA (ZEN k x) (ih _)
theorem ZHO (k:Int) (x:ZvY):ZDb k x≤k+2+16 * ZEm x:=by
 unfold ZDb
 have:=ZDO (k+1) x.fact.args
 have:=ZHB (ZCV (k+1) x.fact.args+1) x.uses
 simp only[ZEm,ZC2]
 omega
theorem ZGP (k:Int) (l:List ZvY):ZCY k l≤k+16 * ZEy l:=by
 induction l generalizing k with
 | nil=>simp [ZCY,ZEy]
 | cons x r ih=>
  have h1:=ZHO k x
  have h2:=ih (ZDb k x)
  simp only[ZCY,ZEy,AI,AL,AM] at h2 ⊢
  omega
end
section
open Go.RowKit
theorem ZD1 {w w1:World} {g:Nat} {t:TypeId} {cs:Array Value} {M:List Nat} (h:Blk w g t cs) (ho:ZDm M w w1) (hg:g∉M):Blk w1 g t cs:=(ho.block g h.lt hg).trans h
theorem ZDM (A:Option Addr) (n c:Nat) (ds:List ByteArray) (L:List Nat) (base:Nat) (k:Int) (w:World) (hn:n=ds.length) (C:1≤k) (l:ZCV k ds≤4611686018427387904) (h:Got (ZfI ZCD) base [.slice A n c] ds L w):
  Calls prog 68 #[.slice A n c,.int .i64 k] w fun e w'=>e=.returned (.int .i64 (ZCV k ds))∧Got (ZfI ZCD) base [.slice A n c] (ZC0 k ds) L w'∧ZDm L w w':=by
 have H:=Lib.hid h
 have HN:=Lib.hid hn
 have hk1':k+n≤4611686018427387904:=by simp only[ZCV] at l;omega
 clear h hn l
 go_enter func68,ntmps68
 go_wp2
 go_loopw [1,5] (fun q j wr=>∃(i:Nat) (kk:Int) (D:List ByteArray),i≤n∧j=.int .i64 i∧q=.int .i64 kk∧1≤kk∧kk+(n - i:Nat)≤4611686018427387904∧Hid (kk=k+i∧D.length=i∧D++ZC0 kk (ds.drop i)=ZC0 k ds)∧Hid (Got (ZfI ZCD) base [.slice A n c] (D++ds.drop i) L wr)∧Hid (ZDm L w wr)) (fun _ j _=>n - (intOf j).toNat)
 case atStart=>exact ⟨0,k,[],A3 _,rfl,rfl,C,yE,⟨yE,rfl,rfl⟩,H.out,ZDm.refl _ _⟩
 case round=>
  obtain ⟨i,kk,D,hi,rfl,rfl,h1,h2,HD,HG,HO⟩:=hrel
  by_cases hlt:i<n
  ·have hil:i<ds.length:=by have:=HN.out;omega
   obtain ⟨E,o,p⟩:=HD.out
   have F:i<(D++ds.drop i).length:=by simp;omega
   obtain ⟨b,off,cs,Lk,rfl,G,t,d,u,a,g⟩:=HG.out.focus F
   obtain ⟨rfl,v,_⟩:=u
   have HEl:=Lib.hid (ZD7.start (m:=1) a rfl d)
   have f:Hid (ds.drop i=ds[i]::ds.drop (i+1)):=A5 _
   have HPut:=Lib.hid g
   have HOwn:=Lib.hid d
   have HLk:=Lib.hid t
   have HLe:=Lib.hid v
   have HDn:Hid (kk+1=k+(i+1:Nat)∧(D++[mTx kk]).length=i+1∧(D++[mTx kk])++ZC0 (kk+1) (ds.drop (i+1))=ZC0 k ds):=by
    refine ⟨yE,by simp [o],?_⟩
    rw [←p,f.out];simp [ZC0]
   have x:Hid ((D++ds.drop i).set i (mTx kk)=(D++[mTx kk])++ds.drop (i+1)):=by
    rw [Hid,AE _ _ yE,show i - D.length=0 by omega,f.out,AF];simp
   clear g d t a E o p v
   simp only[show ZCD.size=1 from rfl,AC] at HEl HPut
   go_wp2_with (go_at_call 66;refine (ZDe _ _ yE yE).mono ?_;rintro e w1 ⟨rfl,z⟩;have E1:=Lib.hid (HEl.out.later z);have q1:=E1.out.at (j:=0) rfl;have z1:=E1.out.frozen (off+i);clear z;simp only[A0] at q1)
   have E2:=Lib.hid (E1.out.set 0 yE (.string (mTx kk)))
   have B:=Lib.hid (ZDA HOwn.out E2.out.plain E2.out.only (by rw [HLe.out];simp))
   have HGn:=Lib.hid (HPut.out _ _ (mTx kk) E2.out.only E2.out.cells E2.out.rest (by rw [HLe.out];exact ⟨rfl,rfl,ZD2 _ yE⟩) B.out)
   have HOn:=Lib.hid (HO.out.trans (E2.out.only.mono (fun y m=>by rcases AG.1 m with rfl | m;exact G;exact HLk.out y m)))
   rw [x.out] at HGn
   simp only[A0] at HGn HOn
   clear E2 B HPut
   go_wp2_with fail
   go_roundw
   case rel=>exact ⟨i+1,kk+1,_,yE,by go_num,rfl,yE,yE,HDn,HGn,HOn⟩
   case measure=>simp [intOf];omega
  ·obtain rfl:i=n:=by omega
   have hf:Hid (ZCV k ds=kk∧D=ZC0 k ds):=by
    obtain ⟨h1,h2,h3⟩:=HD.out
    have e:ds.drop i=[]:=A6 (by have:=HN.out;omega)
    rw [e] at h3
    simp [ZC0] at h3
    exact ⟨by have:=HN.out;simp only[ZCV];omega,h3⟩
   have e:Hid (ds.drop i=[]):=A6 (by have:=HN.out;omega)
   rw [e.out,AH] at HG
   go_wp2
   go_ret
   exact ⟨ZDf hf.out.1.symm,by rw [←hf.out.2];exact HG.out,HO.out⟩
theorem ZGV (A:Option Addr) (n c:Nat) (ds:List Int) (L:List Nat) (base:Nat) (k:Int) (w:World) (hn:n=ds.length) (B:1≤k) (l:ZDp k ds≤4611686018427387904) (h:Got (ZfI Zqc) base [.slice A n c] ds L w):
  Calls prog 107 #[.slice A n c,.int .i64 k] w fun e w'=>e=.returned (.int .i64 (ZDp k ds))∧Got (ZfI Zqc) base [.slice A n c] (ZDK k ds) L w'∧ZDm L w w':=by
 have H:=Lib.hid h
 have HN:=Lib.hid hn
 have hk1':k+n≤4611686018427387904:=by simp only[ZDp] at l;omega
 clear h hn l
 go_enter func107,ntmps107
 go_wp2
 go_loopw [1,5] (fun q j wr=>∃(i:Nat) (kk:Int) (D:List Int),i≤n∧j=.int .i64 i∧q=.int .i64 kk∧1≤kk∧kk+(n - i:Nat)≤4611686018427387904∧Hid (kk=k+i∧D.length=i∧D++ZDK kk (ds.drop i)=ZDK k ds)∧Hid (Got (ZfI Zqc) base [.slice A n c] (D++ds.drop i) L wr)∧Hid (ZDm L w wr)) (fun _ j _=>n - (intOf j).toNat)
 case atStart=>exact ⟨0,k,[],A3 _,rfl,rfl,B,yE,⟨yE,rfl,rfl⟩,H.out,ZDm.refl _ _⟩
 case round=>
  obtain ⟨i,kk,D,hi,rfl,rfl,h1,h2,HD,HG,HO⟩:=hrel
  by_cases hlt:i<n
  ·have hil:i<ds.length:=by have:=HN.out;omega
   obtain ⟨C,o,p⟩:=HD.out
   have E:i<(D++ds.drop i).length:=by simp;omega
   obtain ⟨b,off,cs,Lk,rfl,F,t,d,u,a,g⟩:=HG.out.focus E
   obtain ⟨rfl,v⟩:=u
   have HEl:=Lib.hid (ZD7.start (m:=1) a rfl d)
   have f:Hid (ds.drop i=ds[i]::ds.drop (i+1)):=A5 _
   have HPut:=Lib.hid g
   have HOwn:=Lib.hid d
   have HLk:=Lib.hid t
   have HLe:=Lib.hid v
   have HDn:Hid (kk+1=k+(i+1:Nat)∧(D++[kk]).length=i+1∧(D++[kk])++ZDK (kk+1) (ds.drop (i+1))=ZDK k ds):=by
    refine ⟨yE,by simp [o],?_⟩
    rw [←p,f.out];simp [ZDK]
   have x:Hid ((D++ds.drop i).set i (kk)=(D++[kk])++ds.drop (i+1)):=by
    rw [Hid,AE _ _ yE,show i - D.length=0 by omega,f.out,AF];simp
   clear g d t a C o p v
   simp only[show Zqc.size=1 from rfl,AC] at HEl HPut
   have q1:=HEl.out.at (j:=0) rfl
   have z1:=HEl.out.frozen (off+i)
   simp only[A0] at q1
   go_wp2_with fail
   have E2:=Lib.hid (HEl.out.set 0 yE (.int .i64 kk))
   have z:=Lib.hid (ZDA HOwn.out E2.out.plain E2.out.only (by rw [HLe.out];simp))
   have HGn:=Lib.hid (HPut.out _ _ (kk) E2.out.only E2.out.cells E2.out.rest (by rw [HLe.out];exact ⟨rfl,rfl⟩) z.out)
   have HOn:=Lib.hid (HO.out.trans (E2.out.only.mono (fun y m=>by rcases AG.1 m with rfl | m;exact F;exact HLk.out y m)))
   rw [x.out] at HGn
   simp only[A0] at HGn HOn
   clear E2 z HPut
   go_wp2_with fail
   go_roundw
   case rel=>exact ⟨i+1,kk+1,_,yE,by go_num,rfl,yE,yE,HDn,HGn,HOn⟩
   case measure=>simp [intOf];omega
  ·obtain rfl:i=n:=by omega
   have hf:Hid (ZDp k ds=kk∧D=ZDK k ds):=by
    obtain ⟨h1,h2,h3⟩:=HD.out
    have e:ds.drop i=[]:=A6 (by have:=HN.out;omega)
    rw [e] at h3
    simp [ZDK] at h3
    exact ⟨by have:=HN.out;simp only[ZDp];omega,h3⟩
   have e:Hid (ds.drop i=[]):=A6 (by have:=HN.out;omega)
   rw [e.out,AH] at HG
   go_wp2
   go_ret
   exact ⟨ZDf hf.out.1.symm,by rw [←hf.out.2];exact HG.out,HO.out⟩
theorem ZGd (A:Option Addr) (n c:Nat) (ds:List Zd) (L:List Nat) (base:Nat) (k:Int) (w:World) (hn:n=ds.length) (hm:n≤9223372036854775807) (P:1≤k) (v:ZDj k ds≤4611686018427387904) (h:Got (ZfI ZDc) base [.slice A n c] ds L w):
  Calls prog 19 #[.slice A n c,.int .i64 k] w fun e w'=>e=.returned (.int .i64 (ZDj k ds))∧Got (ZfI ZDc) base [.slice A n c] (ZEf k ds) L w'∧ZDm L w w':=by
 have H:=Lib.hid h
 have HN:=Lib.hid hn
 have HK:=Lib.hid v
 clear h hn v
 go_enter func19,ntmps19
 go_wp2
 go_loopw [1,5] (fun q j wr=>∃(i:Nat) (kk:Int) (D:List Zd),i≤n∧j=.int .i64 i∧q=.int .i64 kk∧1≤kk∧Hid (ZDj kk (ds.drop i)=ZDj k ds∧D.length=i∧D++ZEf kk (ds.drop i)=ZEf k ds)∧Hid (Got (ZfI ZDc) base [.slice A n c] (D++ds.drop i) L wr)∧Hid (ZDm L w wr)) (fun _ j _=>n - (intOf j).toNat)
 case atStart=>exact ⟨0,k,[],A3 _,rfl,rfl,P,⟨rfl,rfl,rfl⟩,H.out,ZDm.refl _ _⟩
 case round=>
  obtain ⟨i,kk,D,hi,rfl,rfl,h1,HD,HG,HO⟩:=hrel
  by_cases hlt:i<n
  ·have hil:i<ds.length:=by have:=HN.out;omega
   obtain ⟨l,t,z⟩:=HD.out
   have Q:i<(D++ds.drop i).length:=by simp;omega
   obtain ⟨b,off,cs,Lk,rfl,R,B,d,g,f,o⟩:=HG.out.focus Q
   have a:Hid (ds.drop i=ds[i]::ds.drop (i+1)):=A5 _
   have C:(D++ds.drop i)[i]=ds[i]:=by
    rw [AN yE];simp [t]
   rw [C] at g
   clear C
   generalize ds[i]=x at g a
   have S:Hid (ZDy kk x≤4611686018427387904):=by
    have:=ZFk (ZDy kk x) (ds.drop (i+1))
    rw [a.out] at l
    have hk:=HK.out
    rw [←l] at hk
    exact AA this hk
   have E:=S.out
   have F:=ZFG kk x
   unfold ZDy at E F
   have HDn:Hid (ZDj (ZDy kk x) (ds.drop (i+1))=ZDj k ds∧(D++[ZFa kk x]).length=i+1∧(D++[ZFa kk x])++ZEf (ZDy kk x) (ds.drop (i+1))=ZEf k ds):=by
    refine ⟨by rw [←l,a.out];rfl,by simp [t],?_⟩
    rw [←z,a.out];simp [ZEf]
   have G:Hid ((D++ds.drop i).set i (ZFa kk x)=(D++[ZFa kk x])++ds.drop (i+1)):=by
    rw [Hid,AE _ _ yE,show i - D.length=0 by omega,a.out,AF];simp
   obtain ⟨A1,c1,L1,rfl,hLL,t0,n1,m1,s1⟩:=g
   unfold maxLen at m1
   subst Lk
   have HEl:=Lib.hid (ZD7.start (m:=2) f rfl d)
   have hbn:=Lib.hid d.head
   have G1:Hid (Got (ZfI ZCD) base [.slice A1 x.args.length c1] x.args L1 wr):=⟨⟨A1,c1,rfl,n1,(by unfold maxLen;omega),s1⟩,d.tail⟩
   have I:Hid (b∉L1):=fun m=>d.head (by simp [m])
   have T:Hid (∀y∈L1,y∈L1):=fun y m=>by simp [m]
   clear s1
   have HPut:=Lib.hid o
   have HOwn:=Lib.hid d
   have HLk:=Lib.hid B
   clear o d B f l t z
   simp only[show ZDc.size=2 from rfl] at HEl HPut
   have q0:=HEl.out.at (j:=0) rfl
   have z0:=HEl.out.frozen (off+i * 2)
   have q1:=HEl.out.at (j:=1) rfl
   have z1:=HEl.out.frozen (off+i * 2+1)
   simp only[A0] at q0
   have gm0:(0:Int)≤0:=by omega
   have mono_x_args:=ZC6 (kk+1) x.args
   go_wp2_with fail
   refine (ZDe _ _ yE yE).mono ?_
   rintro e w1 ⟨rfl,u⟩
   have HEl:=Lib.hid (HEl.out.later u)
   have G1:=Lib.hid (G1.out.later u)
   clear u
   clear q0 z0 q1 z1
   have q0:=HEl.out.at (j:=0) rfl
   have z0:=HEl.out.frozen (off+i * 2)
   have q1:=HEl.out.at (j:=1) rfl
   have z1:=HEl.out.frozen (off+i * 2+1)
   simp only[A0] at q0
   go_wp2_with fail
   have G1:=Lib.hid (G1.out.setFar (p:=⟨b,off+i * 2+0,none⟩) I.out (.string (mTx (kk))))
   refine (ZDM A1 _ c1 x.args L1 base _ _ rfl yE yE G1.out).mono ?_
   rintro e w2 ⟨rfl,g2,J⟩
   have HEl:=Lib.hid ((HEl.out.set 0 yE (.string (mTx (kk)))).marked J T.out I.out)
   have G1:=Lib.hid g2
   clear g2 J
   clear q0 z0 q1 z1
   have q0:=HEl.out.at (j:=0) rfl
   have z0:=HEl.out.frozen (off+i * 2)
   have q1:=HEl.out.at (j:=1) rfl
   have z1:=HEl.out.frozen (off+i * 2+1)
   simp only[A0] at q0
   obtain ⟨K,M,N⟩:=ZCX G1.out.rep
   have O:=Lib.hid (ZDA HOwn.out HEl.out.plain HEl.out.only (fun y m=>by (try simp only[AD] at m)<;>(exact G1.out.own.plain y m)))
   have HGn:=Lib.hid (HPut.out _ _ (ZFa kk x) HEl.out.only HEl.out.cells HEl.out.rest ⟨A1,c1,L1,by simp [ZFa,ZDz],rfl,ZD2 _ yE,K,M,N⟩ O.out)
   have HOn:=Lib.hid (HO.out.trans (HEl.out.only.mono (fun y m=>by rcases AG.1 m with rfl | m;exact R;exact HLk.out y m)))
   rw [G.out] at HGn
   try simp only[A0] at HGn HOn
   clear HEl O HPut G1 K M N
   go_wp2_with fail
   go_roundw
   case rel=>exact ⟨i+1,ZDy kk x,_,yE,by go_num,rfl,by unfold ZDy;omega,HDn,HGn,HOn⟩
   case measure=>simp [intOf];omega
  ·obtain rfl:i=n:=by omega
   have e:Hid (ds.drop i=[]):=A6 (by have:=HN.out;omega)
   have hf:Hid (ZDj k ds=kk∧D=ZEf k ds):=by
    obtain ⟨h1,h2,h3⟩:=HD.out
    rw [e.out] at h3 h1
    simp [ZEf] at h3
    exact ⟨h1.symm,h3⟩
   rw [e.out,AH] at HG
   go_wp2
   go_ret
   exact ⟨ZDf hf.out.1.symm,by rw [←hf.out.2];exact HG.out,HO.out⟩
def ZIk (k:Int) (x:Zd):Zd:=⟨x.rel,ZC0 (k) x.args⟩
def ZDE (k:Int) (x:Zd):Int:=ZCV (k) x.args
theorem ZGH (k:Int) (x:Zd):k≤ZDE k x:=by
 unfold ZDE
 have:=ZC6 (k) x.args
 omega
theorem ZG5 (k:Int) (x:Zd):ZDE k x≤k+16 * ZC2 x:=by
 unfold ZDE
 have:=ZDO (k) x.args
 simp only[ZC2]
 omega
set_option maxHeartbeats 1600000 in
theorem ZHF (x:Zd) (A1:Option Addr) (c1:Nat) (L1:List Nat) (base:Nat) (k:Int) (w:World) (hk0:1≤k) (hk1:ZDE k x≤4611686018427387904) (l1:x.args.length≤9223372036854775807) (g1:Got (ZfI ZCD) base [.slice A1 x.args.length c1] (x.args) L1 w):
  Calls prog 44 #[.agg #[.string x.rel,.slice A1 x.args.length c1],.int .i64 k] w fun e w'=>e=.returned (.int .i64 (ZDE k x))∧Got (ZfI ZCD) base [.slice A1 x.args.length c1] (ZC0 (k) x.args) L1 w'∧ZDm (L1) w w':=by
 have bn1:Hid (w.heap.size∉L1):=fun m=>Nat.lt_irrefl _ (g1.lt _ m)
 have G1:=Lib.hid (g1.alloc (.cells #[.string x.rel,.slice A1 x.args.length c1] 71))
 have K0:Hid (Blk (w.alloc (.cells #[.string x.rel,.slice A1 x.args.length c1] 71)) w.heap.size 71 #[.string x.rel,.slice A1 x.args.length c1]):=Blk.new _ _ _
 have O0:Hid (ZDm (L1) w (w.alloc (.cells #[.string x.rel,.slice A1 x.args.length c1] 71))):=ZDm.of_below ((Below.refl _ _).alloc (A4 _) _) _
 clear g1
 unfold ZDE at hk1
 have:=ZC6 (k) x.args
 go_enter func44,ntmps44
 go_wp2_with fail
 refine (ZDM A1 _ c1 x.args L1 base _ _ rfl (by omega) (by omega) G1.out).mono ?_
 rintro e w1 ⟨rfl,h1,on1⟩
 have G1:=Lib.hid h1
 have K1:=Lib.hid (ZD1 K0.out on1 bn1.out)
 have f0:=K1.out.at (i:=0) rfl
 have f1:=K1.out.at (i:=1) rfl
 have O1:Hid (ZDm (L1) w w1):=O0.out.trans (on1.mono (fun y m=>by first | exact m | simp [m] | (simp only[AD] at m ⊢;rcases m with m | m<;>simp [m])))
 clear on1 h1
 go_wp2_with fail
 go_ret
 exact ⟨ZDf rfl,G1.out,O1.out⟩
theorem ZG7 (cs:List Value) (x:Zd) (L:List Nat) (base:Nat) (k:Int) (w:World) (b:1≤k) (c:ZDE k x≤4611686018427387904) (h:Got ZDc base cs x L w):
  Calls prog 44 #[.agg cs.toArray,.int .i64 k] w fun e w'=>e=.returned (.int .i64 (ZDE k x))∧Got ZDc base cs (ZIk k x) L w'∧ZDm L w w':=by
 obtain ⟨a,ho⟩:=h
 obtain ⟨A1,c1,L1,rfl,hLL,t0,n1,m1,s1⟩:=a
 subst L
 refine (ZHF x A1 c1 L1 base k w b c (by unfold maxLen at m1;omega) ⟨⟨A1,c1,rfl,n1,m1,s1⟩,ho⟩ ).mono ?_
 rintro e w' ⟨rfl,g1,on⟩
 obtain ⟨d,f,g⟩:=ZCX g1.rep
 refine ⟨rfl,⟨⟨A1,c1,L1,by simp [ZIk,ZDz],rfl,t0,d,f,g⟩,ho.nodup,ho.ge,fun y m=>?_⟩,on⟩
 try simp only[AD] at m
 exact g1.own.plain y m
theorem ZGf (A:Option Addr) (n c:Nat) (ds:List Zr) (L:List Nat) (base:Nat) (k:Int) (w:World) (hn:n=ds.length) (hm:n≤9223372036854775807) (R:1≤k) (C:ZDi k ds≤4611686018427387904) (h:Got (ZfI ZDC) base [.slice A n c] ds L w):
  Calls prog 27 #[.slice A n c,.int .i64 k] w fun e w'=>e=.returned (.int .i64 (ZDi k ds))∧Got (ZfI ZDC) base [.slice A n c] (ZDX k ds) L w'∧ZDm L w w':=by
 have H:=Lib.hid h
 have HN:=Lib.hid hn
 have HK:=Lib.hid C
 clear h hn C
 go_enter func27,ntmps27
 go_wp2
 go_loopw [1,5] (fun q j wr=>∃(i:Nat) (kk:Int) (D:List Zr),i≤n∧j=.int .i64 i∧q=.int .i64 kk∧1≤kk∧Hid (ZDi kk (ds.drop i)=ZDi k ds∧D.length=i∧D++ZDX kk (ds.drop i)=ZDX k ds)∧Hid (Got (ZfI ZDC) base [.slice A n c] (D++ds.drop i) L wr)∧Hid (ZDm L w wr)) (fun _ j _=>n - (intOf j).toNat)
 case atStart=>exact ⟨0,k,[],A3 _,rfl,rfl,R,⟨rfl,rfl,rfl⟩,H.out,ZDm.refl _ _⟩
 case round=>
  obtain ⟨i,kk,D,hi,rfl,rfl,h1,HD,HG,HO⟩:=hrel
  by_cases hlt:i<n
  ·have hil:i<ds.length:=by have:=HN.out;omega
   obtain ⟨o,u,E⟩:=HD.out
   have S:i<(D++ds.drop i).length:=by simp;omega
   obtain ⟨b,off,cs,Lk,rfl,T,F,d,g,f,t⟩:=HG.out.focus S
   have a:Hid (ds.drop i=ds[i]::ds.drop (i+1)):=A5 _
   have G:(D++ds.drop i)[i]=ds[i]:=by
    rw [AN yE];simp [u]
   rw [G] at g
   clear G
   generalize ds[i]=x at g a
   have U:Hid (ZDw kk x≤4611686018427387904):=by
    have:=ZEF (ZDw kk x) (ds.drop (i+1))
    rw [a.out] at o
    have hk:=HK.out
    rw [←o] at hk
    exact AA this hk
   have I:=U.out
   have J:=ZFI kk x
   unfold ZDw at I J
   have HDn:Hid (ZDi (ZDw kk x) (ds.drop (i+1))=ZDi k ds∧(D++[ZE6 kk x]).length=i+1∧(D++[ZE6 kk x])++ZDX (ZDw kk x) (ds.drop (i+1))=ZDX k ds):=by
    refine ⟨by rw [←o,a.out];rfl,by simp [u],?_⟩
    rw [←E,a.out];simp [ZDX]
   have K:Hid ((D++ds.drop i).set i (ZE6 kk x)=(D++[ZE6 kk x])++ds.drop (i+1)):=by
    rw [Hid,AE _ _ yE,show i - D.length=0 by omega,a.out,AF];simp
   obtain ⟨A1,c1,L1,rfl,hLL,t0,t1,t2,n1,m1,s1⟩:=g
   unfold maxLen at m1
   subst Lk
   have HEl:=Lib.hid (ZD7.start (m:=5) f rfl d)
   have hbn:=Lib.hid d.head
   have G1:Hid (Got (ZfI ZCD) base [.slice A1 x.pattern.args.length c1] x.pattern.args L1 wr):=⟨⟨A1,c1,rfl,n1,(by unfold maxLen;omega),s1⟩,d.tail⟩
   have l:Hid (b∉L1):=fun m=>d.head (by simp [m])
   have V:Hid (∀y∈L1,y∈L1):=fun y m=>by simp [m]
   clear s1
   have HPut:=Lib.hid t
   have HOwn:=Lib.hid d
   have HLk:=Lib.hid F
   clear t d F f o u E
   simp only[show ZDC.size=5 from rfl] at HEl HPut
   have q0:=HEl.out.at (j:=0) rfl
   have z0:=HEl.out.frozen (off+i * 5)
   have q1:=HEl.out.at (j:=1) rfl
   have z1:=HEl.out.frozen (off+i * 5+1)
   have q2:=HEl.out.at (j:=2) rfl
   have z2:=HEl.out.frozen (off+i * 5+2)
   have q3:=HEl.out.at (j:=3) rfl
   have z3:=HEl.out.frozen (off+i * 5+3)
   have q4:=HEl.out.at (j:=4) rfl
   have z4:=HEl.out.frozen (off+i * 5+4)
   simp only[A0] at q0
   have gm0:(0:Int)≤0:=by omega
   have mono_x_pattern_args:=ZC6 (kk+1+1) x.pattern.args
   go_wp2_with fail
   refine (ZDe _ _ yE yE).mono ?_
   rintro e w1 ⟨rfl,v⟩
   have HEl:=Lib.hid ((HEl.out.set 0 yE (.int .i64 (kk))).later v)
   have G1:=Lib.hid ((G1.out.setFar (p:=⟨b,off+i * 5+0,none⟩) l.out (.int .i64 (kk))).later v)
   clear v
   clear q0 z0 q1 z1 q2 z2 q3 z3 q4 z4
   have q0:=HEl.out.at (j:=0) rfl
   have z0:=HEl.out.frozen (off+i * 5)
   have q1:=HEl.out.at (j:=1) rfl
   have z1:=HEl.out.frozen (off+i * 5+1)
   have q2:=HEl.out.at (j:=2) rfl
   have z2:=HEl.out.frozen (off+i * 5+2)
   have q3:=HEl.out.at (j:=3) rfl
   have z3:=HEl.out.frozen (off+i * 5+3)
   have q4:=HEl.out.at (j:=4) rfl
   have z4:=HEl.out.frozen (off+i * 5+4)
   simp only[A0] at q0
   go_wp2_with fail
   have G1:=Lib.hid (G1.out.setFar (p:=⟨b,off+i * 5+1,none⟩) l.out (.string (mTx (kk+1))))
   refine (ZDM A1 _ c1 x.pattern.args L1 base _ _ rfl yE yE G1.out).mono ?_
   rintro e w2 ⟨rfl,g2,M⟩
   have HEl:=Lib.hid ((HEl.out.set 1 yE (.string (mTx (kk+1)))).marked M V.out l.out)
   have G1:=Lib.hid g2
   clear g2 M
   clear q0 z0 q1 z1 q2 z2 q3 z3 q4 z4
   have q0:=HEl.out.at (j:=0) rfl
   have z0:=HEl.out.frozen (off+i * 5)
   have q1:=HEl.out.at (j:=1) rfl
   have z1:=HEl.out.frozen (off+i * 5+1)
   have q2:=HEl.out.at (j:=2) rfl
   have z2:=HEl.out.frozen (off+i * 5+2)
   have q3:=HEl.out.at (j:=3) rfl
   have z3:=HEl.out.frozen (off+i * 5+3)
   have q4:=HEl.out.at (j:=4) rfl
   have z4:=HEl.out.frozen (off+i * 5+4)
   simp only[A0] at q0
   go_wp2_with fail
   refine (ZDe _ _ yE yE).mono ?_
   rintro e w3 ⟨rfl,z⟩
   have HEl:=Lib.hid (HEl.out.later z)
   have G1:=Lib.hid (G1.out.later z)
   clear z
   clear q0 z0 q1 z1 q2 z2 q3 z3 q4 z4
   have q0:=HEl.out.at (j:=0) rfl
   have z0:=HEl.out.frozen (off+i * 5)
   have q1:=HEl.out.at (j:=1) rfl
   have z1:=HEl.out.frozen (off+i * 5+1)
   have q2:=HEl.out.at (j:=2) rfl
   have z2:=HEl.out.frozen (off+i * 5+2)
   have q3:=HEl.out.at (j:=3) rfl
   have z3:=HEl.out.frozen (off+i * 5+3)
   have q4:=HEl.out.at (j:=4) rfl
   have z4:=HEl.out.frozen (off+i * 5+4)
   simp only[A0] at q0
   go_wp2_with fail
   refine (ZDe _ _ yE yE).mono ?_
   rintro e w4 ⟨rfl,B⟩
   have HEl:=Lib.hid ((HEl.out.set 3 yE (.string (mTx (ZCV (kk+1+1) x.pattern.args)))).later B)
   have G1:=Lib.hid ((G1.out.setFar (p:=⟨b,off+i * 5+3,none⟩) l.out (.string (mTx (ZCV (kk+1+1) x.pattern.args)))).later B)
   clear B
   clear q0 z0 q1 z1 q2 z2 q3 z3 q4 z4
   have q0:=HEl.out.at (j:=0) rfl
   have z0:=HEl.out.frozen (off+i * 5)
   have q1:=HEl.out.at (j:=1) rfl
   have z1:=HEl.out.frozen (off+i * 5+1)
   have q2:=HEl.out.at (j:=2) rfl
   have z2:=HEl.out.frozen (off+i * 5+2)
   have q3:=HEl.out.at (j:=3) rfl
   have z3:=HEl.out.frozen (off+i * 5+3)
   have q4:=HEl.out.at (j:=4) rfl
   have z4:=HEl.out.frozen (off+i * 5+4)
   simp only[A0] at q0
   have HEl:=Lib.hid (HEl.out.set 4 yE (.string (mTx (ZCV (kk+1+1) x.pattern.args+1))))
   have G1:=Lib.hid (G1.out.setFar (p:=⟨b,off+i * 5+4,none⟩) l.out (.string (mTx (ZCV (kk+1+1) x.pattern.args+1))))
   obtain ⟨N,O,P⟩:=ZCX G1.out.rep
   have Q:=Lib.hid (ZDA HOwn.out HEl.out.plain HEl.out.only (fun y m=>by (try simp only[AD] at m)<;>(exact G1.out.own.plain y m)))
   have HGn:=Lib.hid (HPut.out _ _ (ZE6 kk x) HEl.out.only HEl.out.cells HEl.out.rest ⟨A1,c1,L1,by simp [ZE6,ZDz],rfl,ZD2 _ yE,ZD2 _ yE,ZD2 _ yE,N,O,P⟩ Q.out)
   have HOn:=Lib.hid (HO.out.trans (HEl.out.only.mono (fun y m=>by rcases AG.1 m with rfl | m;exact T;exact HLk.out y m)))
   rw [K.out] at HGn
   try simp only[A0] at HGn HOn
   clear HEl Q HPut G1 N O P
   go_wp2_with fail
   go_roundw
   case rel=>exact ⟨i+1,ZDw kk x,_,yE,by go_num,rfl,by unfold ZDw;omega,HDn,HGn,HOn⟩
   case measure=>simp [intOf];omega
  ·obtain rfl:i=n:=by omega
   have e:Hid (ds.drop i=[]):=A6 (by have:=HN.out;omega)
   have hf:Hid (ZDi k ds=kk∧D=ZDX k ds):=by
    obtain ⟨h1,h2,h3⟩:=HD.out
    rw [e.out] at h3 h1
    simp [ZDX] at h3
    exact ⟨h1.symm,h3⟩
   rw [e.out,AH] at HG
   go_wp2
   go_ret
   exact ⟨ZDf hf.out.1.symm,by rw [←hf.out.2];exact HG.out,HO.out⟩
theorem ZFS (A:Option Addr) (n c:Nat) (ds:List Zx) (L:List Nat) (base:Nat) (k:Int) (w:World) (hn:n=ds.length) (hm:n≤9223372036854775807) (P:1≤k) (z:ZDg k ds≤4611686018427387904) (h:Got (ZfI ZC8) base [.slice A n c] ds L w):
  Calls prog 67 #[.slice A n c,.int .i64 k] w fun e w'=>e=.returned (.int .i64 (ZDg k ds))∧Got (ZfI ZC8) base [.slice A n c] (ZDu k ds) L w'∧ZDm L w w':=by
 have H:=Lib.hid h
 have HN:=Lib.hid hn
 have HK:=Lib.hid z
 clear h hn z
 go_enter func67,ntmps67
 go_wp2
 go_loopw [1,5] (fun q j wr=>∃(i:Nat) (kk:Int) (D:List Zx),i≤n∧j=.int .i64 i∧q=.int .i64 kk∧1≤kk∧Hid (ZDg kk (ds.drop i)=ZDg k ds∧D.length=i∧D++ZDu kk (ds.drop i)=ZDu k ds)∧Hid (Got (ZfI ZC8) base [.slice A n c] (D++ds.drop i) L wr)∧Hid (ZDm L w wr)) (fun _ j _=>n - (intOf j).toNat)
 case atStart=>exact ⟨0,k,[],A3 _,rfl,rfl,P,⟨rfl,rfl,rfl⟩,H.out,ZDm.refl _ _⟩
 case round=>
  obtain ⟨i,kk,D,hi,rfl,rfl,h1,HD,HG,HO⟩:=hrel
  by_cases hlt:i<n
  ·have hil:i<ds.length:=by have:=HN.out;omega
   obtain ⟨l,t,B⟩:=HD.out
   have Q:i<(D++ds.drop i).length:=by simp;omega
   obtain ⟨b,off,cs,Lk,rfl,R,C,d,g,f,o⟩:=HG.out.focus Q
   have a:Hid (ds.drop i=ds[i]::ds.drop (i+1)):=A5 _
   have E:(D++ds.drop i)[i]=ds[i]:=by
    rw [AN yE];simp [t]
   rw [E] at g
   clear E
   generalize ds[i]=x at g a
   have S:Hid (ZDk kk x≤4611686018427387904):=by
    have:=ZEj (ZDk kk x) (ds.drop (i+1))
    rw [a.out] at l
    have hk:=HK.out
    rw [←l] at hk
    exact AA this hk
   have F:=S.out
   have G:=ZE3 kk x
   unfold ZDk at F G
   have HDn:Hid (ZDg (ZDk kk x) (ds.drop (i+1))=ZDg k ds∧(D++[ZEi kk x]).length=i+1∧(D++[ZEi kk x])++ZDu (ZDk kk x) (ds.drop (i+1))=ZDu k ds):=by
    refine ⟨by rw [←l,a.out];rfl,by simp [t],?_⟩
    rw [←B,a.out];simp [ZDu]
   have I:Hid ((D++ds.drop i).set i (ZEi kk x)=(D++[ZEi kk x])++ds.drop (i+1)):=by
    rw [Hid,AE _ _ yE,show i - D.length=0 by omega,a.out,AF];simp
   obtain ⟨A1,c1,L1,rfl,hLL,t0,n1,m1,s1⟩:=g
   unfold maxLen at m1
   subst Lk
   have HEl:=Lib.hid (ZD7.start (m:=3) f rfl d)
   have hbn:=Lib.hid d.head
   have G1:Hid (Got (ZfI ZCD) base [.slice A1 x.pattern.args.length c1] x.pattern.args L1 wr):=⟨⟨A1,c1,rfl,n1,(by unfold maxLen;omega),s1⟩,d.tail⟩
   have u:Hid (b∉L1):=fun m=>d.head (by simp [m])
   have T:Hid (∀y∈L1,y∈L1):=fun y m=>by simp [m]
   clear s1
   have HPut:=Lib.hid o
   have HOwn:=Lib.hid d
   have HLk:=Lib.hid C
   clear o d C f l t B
   simp only[show ZC8.size=3 from rfl] at HEl HPut
   have q0:=HEl.out.at (j:=0) rfl
   have z0:=HEl.out.frozen (off+i * 3)
   have q1:=HEl.out.at (j:=1) rfl
   have z1:=HEl.out.frozen (off+i * 3+1)
   have q2:=HEl.out.at (j:=2) rfl
   have z2:=HEl.out.frozen (off+i * 3+2)
   simp only[A0] at q0
   have gm0:(0:Int)≤0:=by omega
   have mono_x_pattern_args:=ZC6 (kk+1+1) x.pattern.args
   go_wp2_with fail
   refine (ZDe _ _ yE yE).mono ?_
   rintro e w1 ⟨rfl,v⟩
   have HEl:=Lib.hid ((HEl.out.set 0 yE (.int .i64 (kk))).later v)
   have G1:=Lib.hid ((G1.out.setFar (p:=⟨b,off+i * 3+0,none⟩) u.out (.int .i64 (kk))).later v)
   clear v
   clear q0 z0 q1 z1 q2 z2
   have q0:=HEl.out.at (j:=0) rfl
   have z0:=HEl.out.frozen (off+i * 3)
   have q1:=HEl.out.at (j:=1) rfl
   have z1:=HEl.out.frozen (off+i * 3+1)
   have q2:=HEl.out.at (j:=2) rfl
   have z2:=HEl.out.frozen (off+i * 3+2)
   simp only[A0] at q0
   go_wp2_with fail
   have G1:=Lib.hid (G1.out.setFar (p:=⟨b,off+i * 3+1,none⟩) u.out (.string (mTx (kk+1))))
   refine (ZDM A1 _ c1 x.pattern.args L1 base _ _ rfl yE yE G1.out).mono ?_
   rintro e w2 ⟨rfl,g2,J⟩
   have HEl:=Lib.hid ((HEl.out.set 1 yE (.string (mTx (kk+1)))).marked J T.out u.out)
   have G1:=Lib.hid g2
   clear g2 J
   clear q0 z0 q1 z1 q2 z2
   have q0:=HEl.out.at (j:=0) rfl
   have z0:=HEl.out.frozen (off+i * 3)
   have q1:=HEl.out.at (j:=1) rfl
   have z1:=HEl.out.frozen (off+i * 3+1)
   have q2:=HEl.out.at (j:=2) rfl
   have z2:=HEl.out.frozen (off+i * 3+2)
   simp only[A0] at q0
   obtain ⟨K,M,N⟩:=ZCX G1.out.rep
   have O:=Lib.hid (ZDA HOwn.out HEl.out.plain HEl.out.only (fun y m=>by (try simp only[AD] at m)<;>(exact G1.out.own.plain y m)))
   have HGn:=Lib.hid (HPut.out _ _ (ZEi kk x) HEl.out.only HEl.out.cells HEl.out.rest ⟨A1,c1,L1,by simp [ZEi,ZDz],rfl,ZD2 _ yE,K,M,N⟩ O.out)
   have HOn:=Lib.hid (HO.out.trans (HEl.out.only.mono (fun y m=>by rcases AG.1 m with rfl | m;exact R;exact HLk.out y m)))
   rw [I.out] at HGn
   try simp only[A0] at HGn HOn
   clear HEl O HPut G1 K M N
   go_wp2_with fail
   go_roundw
   case rel=>exact ⟨i+1,ZDk kk x,_,yE,by go_num,rfl,by unfold ZDk;omega,HDn,HGn,HOn⟩
   case measure=>simp [intOf];omega
  ·obtain rfl:i=n:=by omega
   have e:Hid (ds.drop i=[]):=A6 (by have:=HN.out;omega)
   have hf:Hid (ZDg k ds=kk∧D=ZDu k ds):=by
    obtain ⟨h1,h2,h3⟩:=HD.out
    rw [e.out] at h3 h1
    simp [ZDu] at h3
    exact ⟨h1.symm,h3⟩
   rw [e.out,AH] at HG
   go_wp2
   go_ret
   exact ⟨ZDf hf.out.1.symm,by rw [←hf.out.2];exact HG.out,HO.out⟩
set_option maxRecDepth 100000 in
set_option maxHeartbeats 4000000 in
theorem ZGh (A:Option Addr) (n c:Nat) (ds:List Zf) (L:List Nat) (base:Nat) (k:Int) (w:World) (hn:n=ds.length) (hm:n≤9223372036854775807) (hk0:1≤k) (hk1:ZC5 k ds≤4611686018427387904) (h:Got (ZfI ZDB) base [.slice A n c] ds L w):
  Calls prog 18 #[.slice A n c,.int .i64 k] w fun e w'=>e=.returned (.int .i64 (ZC5 k ds))∧Got (ZfI ZDB) base [.slice A n c] (ZEg k ds) L w'∧ZDm L w w':=by
 have H:=Lib.hid h
 have HN:=Lib.hid hn
 have HK:=Lib.hid hk1
 clear h hn hk1
 go_enter func18,ntmps18
 go_wp2
 go_loopw [1,5] (fun q j wr=>∃(i:Nat) (kk:Int) (D:List Zf),i≤n∧j=.int .i64 i∧q=.int .i64 kk∧1≤kk∧Hid (ZC5 kk (ds.drop i)=ZC5 k ds∧D.length=i∧D++ZEg kk (ds.drop i)=ZEg k ds)∧Hid (Got (ZfI ZDB) base [.slice A n c] (D++ds.drop i) L wr)∧Hid (ZDm L w wr)) (fun _ j _=>n - (intOf j).toNat)
 case atStart=>exact ⟨0,k,[],A3 _,rfl,rfl,hk0,⟨rfl,rfl,rfl⟩,H.out,ZDm.refl _ _⟩
 case round=>
  obtain ⟨i,kk,D,hi,rfl,rfl,h1,HD,HG,HO⟩:=hrel
  by_cases hlt:i<n
  ·have hil:i<ds.length:=by have:=HN.out;omega
   obtain ⟨hkk,hDl,hDm⟩:=HD.out
   have hcl:i<(D++ds.drop i).length:=by simp;omega
   obtain ⟨b,off,cs,Lk,rfl,hbL,hLk,hown,hrep,hcells,hput⟩:=HG.out.focus hcl
   have hnext:Hid (ds.drop i=ds[i]::ds.drop (i+1)):=A5 _
   have hxi:(D++ds.drop i)[i]=ds[i]:=by
    rw [AN (by omega)];simp [hDl]
   rw [hxi] at hrep
   clear hxi
   generalize ds[i]=x at hrep hnext
   have hnb:Hid (ZDv kk x≤4611686018427387904):=by
    have:=ZFq (ZDv kk x) (ds.drop (i+1))
    rw [hnext.out] at hkk
    have hk:=HK.out
    rw [←hkk] at hk
    exact AA this hk
   have hnb1:=hnb.out
   have hnb2:=ZFH kk x
   unfold ZDv at hnb1 hnb2
   have HDn:Hid (ZC5 (ZDv kk x) (ds.drop (i+1))=ZC5 k ds∧(D++[ZE9 kk x]).length=i+1∧(D++[ZE9 kk x])++ZEg (ZDv kk x) (ds.drop (i+1))=ZEg k ds):=by
    refine ⟨by rw [←hkk,hnext.out];rfl,by simp [hDl],?_⟩
    rw [←hDm,hnext.out];simp [ZEg]
   have hset:Hid ((D++ds.drop i).set i (ZE9 kk x)=(D++[ZE9 kk x])++ds.drop (i+1)):=by
    rw [Hid,AE _ _ (by omega),show i - D.length=0 by omega,hnext.out,AF];simp
   obtain ⟨A1,c1,L1,A2,c2,L2,rfl,hLL,t0,n1,m1,s1,n2,m2,s2⟩:=hrep
   unfold maxLen at m1 m2
   subst hLL
   have HEl:=Lib.hid (ZD7.start (m:=4) hcells rfl hown)
   have hbn:=Lib.hid hown.head
   have G1:Hid (Got (ZfI ZDC) base [.slice A1 x.cond.length c1] x.cond L1 wr):=⟨⟨A1,c1,rfl,n1,(by unfold maxLen;omega),s1⟩,hown.tail.left⟩
   have bn1:Hid (b∉L1):=fun m=>hown.head (by simp [m])
   have sb1:Hid (∀y∈L1,y∈L1++L2):=fun y m=>by simp [m]
   have ap1_2:Hid (∀y∈L1,y∉L2):=fun y m m'=>hown.tail.apart y m (by simp [m'])
   have ap2_1:Hid (∀y∈L2,y∉L1):=fun y m m'=>ap1_2.out y m' m
   have G2:Hid (Got (ZfI ZC8) base [.slice A2 x.thn.length c2] x.thn L2 wr):=⟨⟨A2,c2,rfl,n2,(by unfold maxLen;omega),s2⟩,hown.tail.right⟩
   have bn2:Hid (b∉L2):=fun m=>hown.head (by simp [m])
   have sb2:Hid (∀y∈L2,y∈L1++L2):=fun y m=>by simp [m]
   clear s1
   clear s2
   have HPut:=Lib.hid hput
   have HOwn:=Lib.hid hown
   have HLk:=Lib.hid hLk
   clear hput hown hLk hcells hkk hDl hDm
   simp only[show ZDB.size=4 from rfl] at HEl HPut
   have q0:=HEl.out.at (j:=0) rfl
   have z0:=HEl.out.frozen (off+i * 4)
   have q1:=HEl.out.at (j:=1) rfl
   have z1:=HEl.out.frozen (off+i * 4+1)
   have q2:=HEl.out.at (j:=2) rfl
   have z2:=HEl.out.frozen (off+i * 4+2)
   have q3:=HEl.out.at (j:=3) rfl
   have z3:=HEl.out.frozen (off+i * 4+3)
   simp only[A0] at q0
   have gm0:(0:Int)≤0:=by omega
   have mono_x_cond:=ZEF (kk+1+1) x.cond
   have mono_x_thn:=ZEj (ZDi (kk+1+1) x.cond) x.thn
   go_wp2_with fail
   refine (ZDe _ _ (by omega) (by omega)).mono ?_
   rintro e w1 ⟨rfl,hb1⟩
   have HEl:=Lib.hid (HEl.out.later hb1)
   have G1:=Lib.hid (G1.out.later hb1)
   have G2:=Lib.hid (G2.out.later hb1)
   clear hb1
   clear q0 z0 q1 z1 q2 z2 q3 z3
   have q0:=HEl.out.at (j:=0) rfl
   have z0:=HEl.out.frozen (off+i * 4)
   have q1:=HEl.out.at (j:=1) rfl
   have z1:=HEl.out.frozen (off+i * 4+1)
   have q2:=HEl.out.at (j:=2) rfl
   have z2:=HEl.out.frozen (off+i * 4+2)
   have q3:=HEl.out.at (j:=3) rfl
   have z3:=HEl.out.frozen (off+i * 4+3)
   simp only[A0] at q0
   go_wp2_with fail
   have G1:=Lib.hid ((G1.out.setFar (p:=⟨b,off+i * 4+0,none⟩) bn1.out (.string (mTx (kk)))).setFar (p:=⟨b,off+i * 4+1,none⟩) bn1.out (.int .i64 (kk+1)))
   refine (ZGf A1 _ c1 x.cond L1 base _ _ rfl (by omega) (by omega) (by omega) G1.out).mono ?_
   rintro e w2 ⟨rfl,g2,on2⟩
   have HEl:=Lib.hid (((HEl.out.set 0 (by omega) (.string (mTx (kk)))).set 1 (by omega) (.int .i64 (kk+1))).marked on2 sb1.out bn1.out)
   have G1:=Lib.hid g2
   have G2:=Lib.hid (((G2.out.setFar (p:=⟨b,off+i * 4+0,none⟩) bn2.out (.string (mTx (kk)))).setFar (p:=⟨b,off+i * 4+1,none⟩) bn2.out (.int .i64 (kk+1))).only on2 ap2_1.out)
   clear g2 on2
   clear q0 z0 q1 z1 q2 z2 q3 z3
   have q0:=HEl.out.at (j:=0) rfl
   have z0:=HEl.out.frozen (off+i * 4)
   have q1:=HEl.out.at (j:=1) rfl
   have z1:=HEl.out.frozen (off+i * 4+1)
   have q2:=HEl.out.at (j:=2) rfl
   have z2:=HEl.out.frozen (off+i * 4+2)
   have q3:=HEl.out.at (j:=3) rfl
   have z3:=HEl.out.frozen (off+i * 4+3)
   simp only[A0] at q0
   go_wp2_with fail
   refine (ZFS A2 _ c2 x.thn L2 base _ _ rfl (by omega) (by omega) (by omega) G2.out).mono ?_
   rintro e w3 ⟨rfl,g3,on3⟩
   have HEl:=Lib.hid (HEl.out.marked on3 sb2.out bn2.out)
   have G1:=Lib.hid (G1.out.only on3 ap1_2.out)
   have G2:=Lib.hid g3
   clear g3 on3
   clear q0 z0 q1 z1 q2 z2 q3 z3
   have q0:=HEl.out.at (j:=0) rfl
   have z0:=HEl.out.frozen (off+i * 4)
   have q1:=HEl.out.at (j:=1) rfl
   have z1:=HEl.out.frozen (off+i * 4+1)
   have q2:=HEl.out.at (j:=2) rfl
   have z2:=HEl.out.frozen (off+i * 4+2)
   have q3:=HEl.out.at (j:=3) rfl
   have z3:=HEl.out.frozen (off+i * 4+3)
   simp only[A0] at q0
   obtain ⟨nn1,mm1,ss1⟩:=ZCX G1.out.rep
   obtain ⟨nn2,mm2,ss2⟩:=ZCX G2.out.rep
   have hO2:=Lib.hid (ZDA HOwn.out HEl.out.plain HEl.out.only (fun y m=>by (try simp only[AD] at m)<;>(rcases m with m | m<;>first | exact G1.out.own.plain y m | exact G2.out.own.plain y m)))
   have HGn:=Lib.hid (HPut.out _ _ (ZE9 kk x) HEl.out.only HEl.out.cells HEl.out.rest ⟨A1,c1,L1,A2,c2,L2,by simp [ZE9,ZHg,ZGs],rfl,ZD2 _ (by omega),nn1,mm1,ss1,nn2,mm2,ss2⟩ hO2.out)
   have HOn:=Lib.hid (HO.out.trans (HEl.out.only.mono (fun y m=>by rcases AG.1 m with rfl | m;exact hbL;exact HLk.out y m)))
   rw [hset.out] at HGn
   try simp only[A0] at HGn HOn
   clear HEl hO2 HPut G1 G2 nn1 nn2 mm1 mm2 ss1 ss2
   go_wp2_with fail
   go_roundw
   case rel=>exact ⟨i+1,ZDv kk x,_,by omega,by go_num,rfl,by unfold ZDv;omega,HDn,HGn,HOn⟩
   case measure=>simp [intOf];omega
  ·obtain rfl:i=n:=by omega
   have e:Hid (ds.drop i=[]):=A6 (by have:=HN.out;omega)
   have hf:Hid (ZC5 k ds=kk∧D=ZEg k ds):=by
    obtain ⟨h1,h2,h3⟩:=HD.out
    rw [e.out] at h3 h1
    simp [ZEg] at h3
    exact ⟨h1.symm,h3⟩
   rw [e.out,AH] at HG
   go_wp2
   go_ret
   exact ⟨ZDf hf.out.1.symm,by rw [←hf.out.2];exact HG.out,HO.out⟩
set_option maxRecDepth 100000 in
set_option maxHeartbeats 4000000 in
theorem ZGn (A:Option Addr) (n c:Nat) (ds:List ZvY) (L:List Nat) (base:Nat) (k:Int) (w:World) (hn:n=ds.length) (hm:n≤9223372036854775807) (hk0:1≤k) (hk1:ZCY k ds≤4611686018427387904) (h:Got (ZfI ZD3) base [.slice A n c] ds L w):
  Calls prog 45 #[.slice A n c,.int .i64 k] w fun e w'=>e=.returned (.int .i64 (ZCY k ds))∧Got (ZfI ZD3) base [.slice A n c] (ZDt k ds) L w'∧ZDm L w w':=by
 have H:=Lib.hid h
 have HN:=Lib.hid hn
 have HK:=Lib.hid hk1
 clear h hn hk1
 go_enter func45,ntmps45
 go_wp2
 go_loopw [1,5] (fun q j wr=>∃(i:Nat) (kk:Int) (D:List ZvY),i≤n∧j=.int .i64 i∧q=.int .i64 kk∧1≤kk∧Hid (ZCY kk (ds.drop i)=ZCY k ds∧D.length=i∧D++ZDt kk (ds.drop i)=ZDt k ds)∧Hid (Got (ZfI ZD3) base [.slice A n c] (D++ds.drop i) L wr)∧Hid (ZDm L w wr)) (fun _ j _=>n - (intOf j).toNat)
 case atStart=>exact ⟨0,k,[],A3 _,rfl,rfl,hk0,⟨rfl,rfl,rfl⟩,H.out,ZDm.refl _ _⟩
 case round=>
  obtain ⟨i,kk,D,hi,rfl,rfl,h1,HD,HG,HO⟩:=hrel
  by_cases hlt:i<n
  ·have hil:i<ds.length:=by have:=HN.out;omega
   obtain ⟨hkk,hDl,hDm⟩:=HD.out
   have hcl:i<(D++ds.drop i).length:=by simp;omega
   obtain ⟨b,off,cs,Lk,rfl,hbL,hLk,hown,hrep,hcells,hput⟩:=HG.out.focus hcl
   have hnext:Hid (ds.drop i=ds[i]::ds.drop (i+1)):=A5 _
   have hxi:(D++ds.drop i)[i]=ds[i]:=by
    rw [AN (by omega)];simp [hDl]
   rw [hxi] at hrep
   clear hxi
   generalize ds[i]=x at hrep hnext
   have hnb:Hid (ZDb kk x≤4611686018427387904):=by
    have:=ZEE (ZDb kk x) (ds.drop (i+1))
    rw [hnext.out] at hkk
    have hk:=HK.out
    rw [←hkk] at hk
    exact AA this hk
   have hnb1:=hnb.out
   have hnb2:=ZEN kk x
   unfold ZDb at hnb1 hnb2
   have HDn:Hid (ZCY (ZDb kk x) (ds.drop (i+1))=ZCY k ds∧(D++[ZEH kk x]).length=i+1∧(D++[ZEH kk x])++ZDt (ZDb kk x) (ds.drop (i+1))=ZDt k ds):=by
    refine ⟨by rw [←hkk,hnext.out];rfl,by simp [hDl],?_⟩
    rw [←hDm,hnext.out];simp [ZDt]
   have hset:Hid ((D++ds.drop i).set i (ZEH kk x)=(D++[ZEH kk x])++ds.drop (i+1)):=by
    rw [Hid,AE _ _ (by omega),show i - D.length=0 by omega,hnext.out,AF];simp
   obtain ⟨A1,c1,L1,A2,c2,L2,rfl,hLL,t0,t1,n1,m1,s1,n2,m2,s2⟩:=hrep
   unfold maxLen at m1 m2
   subst hLL
   have HEl:=Lib.hid (ZD7.start (m:=4) hcells rfl hown)
   have hbn:=Lib.hid hown.head
   have G1:Hid (Got (ZfI ZCD) base [.slice A1 x.fact.args.length c1] x.fact.args L1 wr):=⟨⟨A1,c1,rfl,n1,(by unfold maxLen;omega),s1⟩,hown.tail.left⟩
   have bn1:Hid (b∉L1):=fun m=>hown.head (by simp [m])
   have sb1:Hid (∀y∈L1,y∈L1++L2):=fun y m=>by simp [m]
   have ap1_2:Hid (∀y∈L1,y∉L2):=fun y m m'=>hown.tail.apart y m (by simp [m'])
   have ap2_1:Hid (∀y∈L2,y∉L1):=fun y m m'=>ap1_2.out y m' m
   have G2:Hid (Got (ZfI Zqc) base [.slice A2 x.uses.length c2] x.uses L2 wr):=⟨⟨A2,c2,rfl,n2,(by unfold maxLen;omega),s2⟩,hown.tail.right⟩
   have bn2:Hid (b∉L2):=fun m=>hown.head (by simp [m])
   have sb2:Hid (∀y∈L2,y∈L1++L2):=fun y m=>by simp [m]
   clear s1
   clear s2
   have HPut:=Lib.hid hput
   have HOwn:=Lib.hid hown
   have HLk:=Lib.hid hLk
   clear hput hown hLk hcells hkk hDl hDm
   simp only[show ZD3.size=4 from rfl] at HEl HPut
   have q0:=HEl.out.at (j:=0) rfl
   have z0:=HEl.out.frozen (off+i * 4)
   have q1:=HEl.out.at (j:=1) rfl
   have z1:=HEl.out.frozen (off+i * 4+1)
   have q2:=HEl.out.at (j:=2) rfl
   have z2:=HEl.out.frozen (off+i * 4+2)
   have q3:=HEl.out.at (j:=3) rfl
   have z3:=HEl.out.frozen (off+i * 4+3)
   simp only[A0] at q0
   have gm0:(0:Int)≤0:=by omega
   have mono_x_fact_args:=ZC6 (kk+1) x.fact.args
   have mono_x_uses:=ZEM (ZCV (kk+1) x.fact.args+1) x.uses
   go_wp2_with fail
   refine (ZDe _ _ (by omega) (by omega)).mono ?_
   rintro e w1 ⟨rfl,hb1⟩
   have HEl:=Lib.hid (HEl.out.later hb1)
   have G1:=Lib.hid (G1.out.later hb1)
   have G2:=Lib.hid (G2.out.later hb1)
   clear hb1
   clear q0 z0 q1 z1 q2 z2 q3 z3
   have q0:=HEl.out.at (j:=0) rfl
   have z0:=HEl.out.frozen (off+i * 4)
   have q1:=HEl.out.at (j:=1) rfl
   have z1:=HEl.out.frozen (off+i * 4+1)
   have q2:=HEl.out.at (j:=2) rfl
   have z2:=HEl.out.frozen (off+i * 4+2)
   have q3:=HEl.out.at (j:=3) rfl
   have z3:=HEl.out.frozen (off+i * 4+3)
   simp only[A0] at q0
   go_wp2_with fail
   have G1:=Lib.hid (G1.out.setFar (p:=⟨b,off+i * 4+0,none⟩) bn1.out (.string (mTx (kk))))
   refine (ZDM A1 _ c1 x.fact.args L1 base _ _ rfl (by omega) (by omega) G1.out).mono ?_
   rintro e w2 ⟨rfl,g2,on2⟩
   have HEl:=Lib.hid ((HEl.out.set 0 (by omega) (.string (mTx (kk)))).marked on2 sb1.out bn1.out)
   have G1:=Lib.hid g2
   have G2:=Lib.hid ((G2.out.setFar (p:=⟨b,off+i * 4+0,none⟩) bn2.out (.string (mTx (kk)))).only on2 ap2_1.out)
   clear g2 on2
   clear q0 z0 q1 z1 q2 z2 q3 z3
   have q0:=HEl.out.at (j:=0) rfl
   have z0:=HEl.out.frozen (off+i * 4)
   have q1:=HEl.out.at (j:=1) rfl
   have z1:=HEl.out.frozen (off+i * 4+1)
   have q2:=HEl.out.at (j:=2) rfl
   have z2:=HEl.out.frozen (off+i * 4+2)
   have q3:=HEl.out.at (j:=3) rfl
   have z3:=HEl.out.frozen (off+i * 4+3)
   simp only[A0] at q0
   go_wp2_with fail
   refine (ZDe _ _ (by omega) (by omega)).mono ?_
   rintro e w3 ⟨rfl,hb3⟩
   have HEl:=Lib.hid (HEl.out.later hb3)
   have G1:=Lib.hid (G1.out.later hb3)
   have G2:=Lib.hid (G2.out.later hb3)
   clear hb3
   clear q0 z0 q1 z1 q2 z2 q3 z3
   have q0:=HEl.out.at (j:=0) rfl
   have z0:=HEl.out.frozen (off+i * 4)
   have q1:=HEl.out.at (j:=1) rfl
   have z1:=HEl.out.frozen (off+i * 4+1)
   have q2:=HEl.out.at (j:=2) rfl
   have z2:=HEl.out.frozen (off+i * 4+2)
   have q3:=HEl.out.at (j:=3) rfl
   have z3:=HEl.out.frozen (off+i * 4+3)
   simp only[A0] at q0
   go_wp2_with fail
   have G2:=Lib.hid (G2.out.setFar (p:=⟨b,off+i * 4+2,none⟩) bn2.out (.string (mTx (ZCV (kk+1) x.fact.args))))
   refine (ZGV A2 _ c2 x.uses L2 base _ _ rfl (by omega) (by omega) G2.out).mono ?_
   rintro e w4 ⟨rfl,g4,on4⟩
   have HEl:=Lib.hid ((HEl.out.set 2 (by omega) (.string (mTx (ZCV (kk+1) x.fact.args)))).marked on4 sb2.out bn2.out)
   have G1:=Lib.hid ((G1.out.setFar (p:=⟨b,off+i * 4+2,none⟩) bn1.out (.string (mTx (ZCV (kk+1) x.fact.args)))).only on4 ap1_2.out)
   have G2:=Lib.hid g4
   clear g4 on4
   clear q0 z0 q1 z1 q2 z2 q3 z3
   have q0:=HEl.out.at (j:=0) rfl
   have z0:=HEl.out.frozen (off+i * 4)
   have q1:=HEl.out.at (j:=1) rfl
   have z1:=HEl.out.frozen (off+i * 4+1)
   have q2:=HEl.out.at (j:=2) rfl
   have z2:=HEl.out.frozen (off+i * 4+2)
   have q3:=HEl.out.at (j:=3) rfl
   have z3:=HEl.out.frozen (off+i * 4+3)
   simp only[A0] at q0
   obtain ⟨nn1,mm1,ss1⟩:=ZCX G1.out.rep
   obtain ⟨nn2,mm2,ss2⟩:=ZCX G2.out.rep
   have hO2:=Lib.hid (ZDA HOwn.out HEl.out.plain HEl.out.only (fun y m=>by (try simp only[AD] at m)<;>(rcases m with m | m<;>first | exact G1.out.own.plain y m | exact G2.out.own.plain y m)))
   have HGn:=Lib.hid (HPut.out _ _ (ZEH kk x) HEl.out.only HEl.out.cells HEl.out.rest ⟨A1,c1,L1,A2,c2,L2,by simp [ZEH,ZDz,ZFc],rfl,ZD2 _ (by omega),ZD2 _ (by omega),nn1,mm1,ss1,nn2,mm2,ss2⟩ hO2.out)
   have HOn:=Lib.hid (HO.out.trans (HEl.out.only.mono (fun y m=>by rcases AG.1 m with rfl | m;exact hbL;exact HLk.out y m)))
   rw [hset.out] at HGn
   try simp only[A0] at HGn HOn
   clear HEl hO2 HPut G1 G2 nn1 nn2 mm1 mm2 ss1 ss2
   go_wp2_with fail
   go_roundw
   case rel=>exact ⟨i+1,ZDb kk x,_,by omega,by go_num,rfl,by unfold ZDb;omega,HDn,HGn,HOn⟩
   case measure=>simp [intOf];omega
  ·obtain rfl:i=n:=by omega
   have e:Hid (ds.drop i=[]):=A6 (by have:=HN.out;omega)
   have hf:Hid (ZCY k ds=kk∧D=ZDt k ds):=by
    obtain ⟨h1,h2,h3⟩:=HD.out
    rw [e.out] at h3 h1
    simp [ZDt] at h3
    exact ⟨h1.symm,h3⟩
   rw [e.out,AH] at HG
   go_wp2
   go_ret
   exact ⟨ZDf hf.out.1.symm,by rw [←hf.out.2];exact HG.out,HO.out⟩
end
section
open Go.RowKit
theorem ZEv {w w1:World} {B:Nat} (h:Below w.drew.heap.size w.drew w1) (hB:B≤w.heap.size):Below B w w1:=⟨h.os,h.tape,h.output,h.size,fun k hk=>h.block k (AB hk hB)⟩
set_option maxHeartbeats 1600000 in
theorem ZFO (A:Option Addr) (n c:Nat) (ds:List ByteArray) (L:List Nat) (k:Int) (w:World) (hn:n=ds.length) (hk0:1≤k) (hk1:ZCV k ds≤4611686018427387904) (h:Sli ZCD w A (ZC0 k ds) L):
  Calls prog 69 #[.slice A n c,.int .i64 k] w fun e w'=>e=.returned (.int .i64 (ZCV k ds))∧Below w.heap.size w w':=by
 have H:=Lib.hid h
 have HN:=Lib.hid hn
 have hk1':k+n≤4611686018427387904:=by simp only[ZCV] at hk1;omega
 clear h hn hk1
 go_enter func69,ntmps69
 go_wp2
 go_loopw [1,5] (fun q j wr=>∃(i:Nat) (kk:Int),i≤n∧j=.int .i64 i∧q=.int .i64 kk∧1≤kk∧kk+(n - i:Nat)≤4611686018427387904∧Hid (kk=k+i∧(ZC0 k ds).drop i=ZC0 kk (ds.drop i))∧Hid (Below w.heap.size w wr)) (fun _ j _=>n - (intOf j).toNat)
 case atStart=>exact ⟨0,k,A3 _,rfl,rfl,hk0,by omega,⟨by omega,rfl⟩,Below.refl _ _⟩
 case round=>
  obtain ⟨i,kk,hi,rfl,rfl,h1,h2,HD,HB⟩:=hrel
  by_cases hlt:i<n
  ·have hil:i<ds.length:=by have:=HN.out;omega
   obtain ⟨hkk,hdr⟩:=HD.out
   have hml:i<(ZC0 k ds).length:=by rw [ZDz];exact hil
   obtain ⟨b,off,cs,Lk,rfl,hbL,_,hrep,hc⟩:=H.out.at_ hml
   have hdr2:=hdr
   rw [A5 hml,A5 hil,ZC0] at hdr2
   injection hdr2 with e1 e2
   rw [e1] at hrep
   obtain ⟨rfl,_,_⟩:=hrep
   have hbl:b<w.heap.size:=H.out.lt b hbL
   have hbr:b<wr.heap.size:=AB hbl HB.out.size
   have q0:=(HB.out.cell (p:=⟨b,off+(i * ZCD.size+0),none⟩) hbl).trans (hc 0 _ rfl)
   simp only[show ZCD.size=1 from rfl,AC,A0] at q0
   have HDn:Hid (kk+1=k+(i+1:Nat)∧(ZC0 k ds).drop (i+1)=ZC0 (kk+1) (ds.drop (i+1))):=⟨by omega,e2⟩
   clear hc hkk hdr e1 e2
   have i0:(0:Int)≤i:=by omega
   have i1:(i:Int)<n:=by omega
   go_wp2_with fail
   go_region_held3 (fun w'=>w'.cell? ⟨b,off+i,none⟩=some (.string (mTx kk))) (first | go_keep | exact (hb1.cell (p:=⟨b,off+i,none⟩) hbr).trans q0) (first | (go_at_call 66;refine (ZDe _ _ (by omega) (by omega)).mono ?_;rintro e w1 ⟨rfl,hb1⟩))
   have HBn:=Lib.hid (HB.out.trans (ZEv hb1 HB.out.size))
   clear hb1
   go_wp2_with fail
   go_roundw
   case rel=>exact ⟨i+1,kk+1,by omega,by go_num,rfl,by omega,by omega,HDn,HBn⟩
   case measure=>simp [intOf];omega
  ·obtain rfl:i=n:=by omega
   have hf:Hid (ZCV k ds=kk):=by
    obtain ⟨h1,_⟩:=HD.out
    have:=HN.out;rw [Hid];simp only[ZCV];omega
   go_wp2
   go_ret
   exact ⟨ZDf hf.out.symm,HB.out⟩
theorem ZGM (A:Option Addr) (n c:Nat) (ds:List Int) (L:List Nat) (k:Int) (w:World) (hn:n=ds.length) (t:1≤k) (f:ZDp k ds≤4611686018427387904) (h:Sli Zqc w A (ZDK k ds) L):
  Calls prog 108 #[.slice A n c,.int .i64 k] w fun e w'=>e=.returned (.int .i64 (ZDp k ds))∧Below w.heap.size w w':=by
 have H:=Lib.hid h
 have HN:=Lib.hid hn
 have hk1':k+n≤4611686018427387904:=by simp only[ZDp] at f;omega
 clear h hn f
 go_enter func108,ntmps108
 go_wp2
 go_loopw [1,5] (fun q j wr=>∃(i:Nat) (kk:Int),i≤n∧j=.int .i64 i∧q=.int .i64 kk∧1≤kk∧kk+(n - i:Nat)≤4611686018427387904∧Hid (kk=k+i∧(ZDK k ds).drop i=ZDK kk (ds.drop i))∧Hid (Below w.heap.size w wr)) (fun _ j _=>n - (intOf j).toNat)
 case atStart=>exact ⟨0,k,A3 _,rfl,rfl,t,yE,⟨yE,rfl⟩,Below.refl _ _⟩
 case round=>
  obtain ⟨i,kk,hi,rfl,rfl,h1,h2,HD,HB⟩:=hrel
  by_cases hlt:i<n
  ·have g:i<ds.length:=by have:=HN.out;omega
   obtain ⟨u,l⟩:=HD.out
   have m:i<(ZDK k ds).length:=by rw [ZFc];exact g
   obtain ⟨b,off,cs,Lk,rfl,v,_,a,hc⟩:=H.out.at_ m
   have d:=l
   rw [A5 m,A5 g,ZDK] at d
   injection d with e1 e2
   rw [e1] at a
   obtain ⟨rfl,_⟩:=a
   have o:b<w.heap.size:=H.out.lt b v
   have hbr:b<wr.heap.size:=AB o HB.out.size
   have q0:=(HB.out.cell (p:=⟨b,off+(i * Zqc.size+0),none⟩) o).trans (hc 0 _ rfl)
   simp only[show Zqc.size=1 from rfl,AC,A0] at q0
   have HDn:Hid (kk+1=k+(i+1:Nat)∧(ZDK k ds).drop (i+1)=ZDK (kk+1) (ds.drop (i+1))):=⟨yE,e2⟩
   clear hc u l e1 e2
   have i0:(0:Int)≤i:=by omega
   have i1:(i:Int)<n:=by omega
   have hne:((kk:Int) != kk)=false:=by simp
   go_wp2_with fail
   have HBn:=HB
   go_roundw
   case rel=>exact ⟨i+1,kk+1,yE,by go_num,rfl,yE,yE,HDn,HBn⟩
   case measure=>simp [intOf];omega
  ·obtain rfl:i=n:=by omega
   have hf:Hid (ZDp k ds=kk):=by
    obtain ⟨h1,_⟩:=HD.out
    have:=HN.out;rw [Hid];simp only[ZDp];omega
   go_wp2
   go_ret
   exact ⟨ZDf hf.out.symm,HB.out⟩
set_option maxRecDepth 100000 in
set_option maxHeartbeats 4000000 in
theorem ZE4 (A:Option Addr) (n c:Nat) (ds:List ZvY) (L:List Nat) (k:Int) (w:World) (hn:n=ds.length) (hm:n≤9223372036854775807) (hk0:1≤k) (hk1:ZCY k ds≤4611686018427387904) (h:Sli ZD3 w A (ZDt k ds) L):
  Calls prog 46 #[.slice A n c,.int .i64 k] w fun e w'=>e=.returned (.int .i64 (ZCY k ds))∧Below w.heap.size w w':=by
 have H:=Lib.hid h
 have HN:=Lib.hid hn
 have HK:=Lib.hid hk1
 clear h hn hk1
 go_enter func46,ntmps46
 go_wp2
 go_loopw [1,5] (fun q j wr=>∃(i:Nat) (kk:Int),i≤n∧j=.int .i64 i∧q=.int .i64 kk∧1≤kk∧Hid (ZCY kk (ds.drop i)=ZCY k ds∧(ZDt k ds).drop i=ZDt kk (ds.drop i))∧Hid (Below w.heap.size w wr)) (fun _ j _=>n - (intOf j).toNat)
 case atStart=>exact ⟨0,k,A3 _,rfl,rfl,hk0,⟨rfl,rfl⟩,Below.refl _ _⟩
 case round=>
  obtain ⟨i,kk,hi,rfl,rfl,h1,HD,HB⟩:=hrel
  by_cases hlt:i<n
  ·have hil:i<ds.length:=by have:=HN.out;omega
   obtain ⟨hkk,hdr⟩:=HD.out
   have hml:i<(ZDt k ds).length:=by rw [ZHE];exact hil
   obtain ⟨b,off,cs,Lk,rfl,hbL,hLk,hrep,hc⟩:=H.out.at_ hml
   rw [A5 hml,A5 hil,ZDt] at hdr
   injection hdr with e1 e2
   rw [e1] at hrep
   clear e1
   have hnext:ds.drop i=ds[i]::ds.drop (i+1):=A5 _
   rw [hnext] at hkk
   clear hnext
   generalize ds[i]=x at hrep hkk e2
   have hnb:Hid (ZDb kk x≤4611686018427387904):=by
    have:=ZEE (ZDb kk x) (ds.drop (i+1))
    have hk:=HK.out
    rw [←hkk] at hk
    exact AA this hk
   have hnb1:=hnb.out
   have hnb2:=ZEN kk x
   unfold ZDb at hnb1 hnb2
   have HDn:Hid (ZCY (ZDb kk x) (ds.drop (i+1))=ZCY k ds∧(ZDt k ds).drop (i+1)=ZDt (ZDb kk x) (ds.drop (i+1))):=⟨hkk,e2⟩
   have hbl:b<w.heap.size:=H.out.lt b hbL
   clear hkk e2
   obtain ⟨A1,c1,L1,A2,c2,L2,rfl,hLL,t0,t1,n1,m1,s1,n2,m2,s2⟩:=hrep
   have S1:=Lib.hid s1
   have lL1:Hid (∀y∈L1,y<w.heap.size):=fun y m=>H.out.lt y (hLk y (by rw [hLL];simp [m]))
   have ll1:(ZEH kk x).fact.args.length=x.fact.args.length:=ZDz _ _
   clear s1
   have S2:=Lib.hid s2
   have lL2:Hid (∀y∈L2,y<w.heap.size):=fun y m=>H.out.lt y (hLk y (by rw [hLL];simp [m]))
   have ll2:(ZEH kk x).uses.length=x.uses.length:=ZFc _ _
   clear s2
   have Q0:=Lib.hid (hc 0 _ rfl)
   have Q1:=Lib.hid (hc 1 _ rfl)
   have Q2:=Lib.hid (hc 2 _ rfl)
   have Q3:=Lib.hid (hc 3 _ rfl)
   unfold maxLen at m1 m2
   rw [ll1] at Q1 n1
   rw [ll2] at Q3 n2
   clear hc ll1 ll2
   have i0:(0:Int)≤i:=by omega
   have i1:(i:Int)<n:=by omega
   have mono_x_fact_args:=ZC6 (kk+1) x.fact.args
   have mono_x_uses:=ZEM (ZCV (kk+1) x.fact.args+1) x.uses
   have q0:wr.cell? ⟨b,off+i * 4,none⟩=some (.string (mTx (kk))):=(HB.out.cell (p:=⟨b,off+(i * 4+0),none⟩) hbl).trans Q0.out
   have q1:wr.cell? ⟨b,off+i * 4+1,none⟩=some (.slice A1 x.fact.args.length c1):=(HB.out.cell (p:=⟨b,off+(i * 4+1),none⟩) hbl).trans Q1.out
   have q2:wr.cell? ⟨b,off+i * 4+2,none⟩=some (.string (mTx (ZCV (kk+1) x.fact.args))):=(HB.out.cell (p:=⟨b,off+(i * 4+2),none⟩) hbl).trans Q2.out
   have q3:wr.cell? ⟨b,off+i * 4+3,none⟩=some (.slice A2 x.uses.length c2):=(HB.out.cell (p:=⟨b,off+(i * 4+3),none⟩) hbl).trans Q3.out
   have hbr:b<wr.heap.size:=AB hbl HB.out.size
   go_wp2_with fail
   go_region_held3 (fun w'=>w'.cell? ⟨b,off+i * 4,none⟩=some (.string (mTx (kk)))) (first | go_keep | exact (hb1.cell (p:=⟨b,off+i * 4,none⟩) hbr).trans q0) (first | (go_at_call 66;refine (ZDe _ _ (by omega) (by omega)).mono ?_;rintro e w1 ⟨rfl,hb1⟩))
   have HB:=Lib.hid (HB.out.trans (ZEv hb1 HB.out.size))
   clear hb1
   clear q0 q1 q2 q3
   have q0:w1.cell? ⟨b,off+i * 4,none⟩=some (.string (mTx (kk))):=(HB.out.cell (p:=⟨b,off+(i * 4+0),none⟩) hbl).trans Q0.out
   have q1:w1.cell? ⟨b,off+i * 4+1,none⟩=some (.slice A1 x.fact.args.length c1):=(HB.out.cell (p:=⟨b,off+(i * 4+1),none⟩) hbl).trans Q1.out
   have q2:w1.cell? ⟨b,off+i * 4+2,none⟩=some (.string (mTx (ZCV (kk+1) x.fact.args))):=(HB.out.cell (p:=⟨b,off+(i * 4+2),none⟩) hbl).trans Q2.out
   have q3:w1.cell? ⟨b,off+i * 4+3,none⟩=some (.slice A2 x.uses.length c2):=(HB.out.cell (p:=⟨b,off+(i * 4+3),none⟩) hbl).trans Q3.out
   replace hbr:b<w1.heap.size:=AB hbl HB.out.size
   go_wp2_with fail
   refine (ZFO A1 _ c1 x.fact.args L1 _ _ rfl (by omega) (by omega) (S1.out.keep (ZCW HB.out lL1.out))).mono ?_
   rintro e w2 ⟨rfl,hb2⟩
   have HB:=Lib.hid (HB.out.trans (hb2.mono HB.out.size))
   clear hb2
   clear q0 q1 q2 q3
   have q0:w2.cell? ⟨b,off+i * 4,none⟩=some (.string (mTx (kk))):=(HB.out.cell (p:=⟨b,off+(i * 4+0),none⟩) hbl).trans Q0.out
   have q1:w2.cell? ⟨b,off+i * 4+1,none⟩=some (.slice A1 x.fact.args.length c1):=(HB.out.cell (p:=⟨b,off+(i * 4+1),none⟩) hbl).trans Q1.out
   have q2:w2.cell? ⟨b,off+i * 4+2,none⟩=some (.string (mTx (ZCV (kk+1) x.fact.args))):=(HB.out.cell (p:=⟨b,off+(i * 4+2),none⟩) hbl).trans Q2.out
   have q3:w2.cell? ⟨b,off+i * 4+3,none⟩=some (.slice A2 x.uses.length c2):=(HB.out.cell (p:=⟨b,off+(i * 4+3),none⟩) hbl).trans Q3.out
   replace hbr:b<w2.heap.size:=AB hbl HB.out.size
   have ge2:¬(ZCV (kk+1) x.fact.args<0):=by omega
   go_wp2_with fail
   go_region_held3 (fun w'=>w'.cell? ⟨b,off+i * 4+2,none⟩=some (.string (mTx (ZCV (kk+1) x.fact.args)))) (first | go_keep | exact (hb3.cell (p:=⟨b,off+i * 4+2,none⟩) hbr).trans q2) (first | (go_at_call 66;refine (ZDe _ _ (by omega) (by omega)).mono ?_;rintro e w3 ⟨rfl,hb3⟩))
   have HB:=Lib.hid (HB.out.trans (ZEv hb3 HB.out.size))
   clear hb3
   clear q0 q1 q2 q3
   have q0:w3.cell? ⟨b,off+i * 4,none⟩=some (.string (mTx (kk))):=(HB.out.cell (p:=⟨b,off+(i * 4+0),none⟩) hbl).trans Q0.out
   have q1:w3.cell? ⟨b,off+i * 4+1,none⟩=some (.slice A1 x.fact.args.length c1):=(HB.out.cell (p:=⟨b,off+(i * 4+1),none⟩) hbl).trans Q1.out
   have q2:w3.cell? ⟨b,off+i * 4+2,none⟩=some (.string (mTx (ZCV (kk+1) x.fact.args))):=(HB.out.cell (p:=⟨b,off+(i * 4+2),none⟩) hbl).trans Q2.out
   have q3:w3.cell? ⟨b,off+i * 4+3,none⟩=some (.slice A2 x.uses.length c2):=(HB.out.cell (p:=⟨b,off+(i * 4+3),none⟩) hbl).trans Q3.out
   replace hbr:b<w3.heap.size:=AB hbl HB.out.size
   go_wp2_with fail
   refine (ZGM A2 _ c2 x.uses L2 _ _ rfl (by omega) (by omega) (S2.out.keep (ZCW HB.out lL2.out))).mono ?_
   rintro e w4 ⟨rfl,hb4⟩
   have HB:=Lib.hid (HB.out.trans (hb4.mono HB.out.size))
   clear hb4
   clear q0 q1 q2 q3
   have q0:w4.cell? ⟨b,off+i * 4,none⟩=some (.string (mTx (kk))):=(HB.out.cell (p:=⟨b,off+(i * 4+0),none⟩) hbl).trans Q0.out
   have q1:w4.cell? ⟨b,off+i * 4+1,none⟩=some (.slice A1 x.fact.args.length c1):=(HB.out.cell (p:=⟨b,off+(i * 4+1),none⟩) hbl).trans Q1.out
   have q2:w4.cell? ⟨b,off+i * 4+2,none⟩=some (.string (mTx (ZCV (kk+1) x.fact.args))):=(HB.out.cell (p:=⟨b,off+(i * 4+2),none⟩) hbl).trans Q2.out
   have q3:w4.cell? ⟨b,off+i * 4+3,none⟩=some (.slice A2 x.uses.length c2):=(HB.out.cell (p:=⟨b,off+(i * 4+3),none⟩) hbl).trans Q3.out
   replace hbr:b<w4.heap.size:=AB hbl HB.out.size
   have ge4:¬(ZDp (ZCV (kk+1) x.fact.args+1) x.uses<0):=by omega
   go_wp2_with fail
   go_roundw
   case rel=>exact ⟨i+1,ZDb kk x,by omega,by go_num,rfl,by unfold ZDb;omega,HDn,HB⟩
   case measure=>simp [intOf];omega
  ·obtain rfl:i=n:=by omega
   have hf:Hid (ZCY k ds=kk):=by
    obtain ⟨h1,_⟩:=HD.out
    rw [Hid,←h1,A6 (by have:=HN.out;omega)];rfl
   go_wp2
   go_ret
   exact ⟨ZDf hf.out.symm,HB.out⟩
end
section
open Go.RowKit Go.Deep
def ZtV {α:Type} (P:Program) (t:TypeId) (c:ZaE α) (wf:α→Prop):Prop:=
 ∀{H:Type} {enc:TypeId × Value→H} {w:World} {base:Nat} {spare:Nat→Bool} {held:Bool} {fuel:Nat} {cs:List Value} {x:DataW H × List MemPlace},
  DataW.trod enc P w base spare held fuel t cs=some x→∃d L,c.rep w cs d L∧wf d
theorem ZFD {P:Program} {t:TypeId} (ht:P.underlying t=some (.int .i64)):ZtV P t Zqc ZoN:=by
 intro H enc w base spare held fuel cs x h
 obtain ⟨n,rfl,_,hw⟩:=DataW.trod_int ht h
 refine ⟨n,[],⟨rfl,rfl⟩,?_⟩
 simp [Lit.wf,IntKind.min,IntKind.max,IntKind.signed,IntKind.bits] at hw
 exact ⟨yE,yE⟩
theorem ZDL {P:Program} {t:TypeId} (ht:P.underlying t=some .string):ZtV P t ZCD (fun _=>True):=by
 intro H enc w base spare held fuel cs x h
 obtain ⟨s,rfl,_,hs⟩:=DataW.trod_string ht h
 exact ⟨s,[],⟨rfl,rfl,by unfold maxLen at hs;omega⟩,trivial⟩
theorem ZpR {α:Type} {c:ZaE α} {wf:α→Prop} {P:Program} {t e:TypeId} (ht:P.underlying t=some (.slice e)) (hc:P.cellsOf e=c.size) (ho:ZtV P e c wf):ZtV P t (ZfI c) (fun ds=>∀d∈ds,wf d):=by
 intro H enc w base spare held fuel cs x h
 rcases open_slice ht h with ⟨rfl,_⟩ | ⟨a,len,cap,m,n,D,Pl,rfl,hb,hl,hm,l,_,hx⟩
 ·exact ⟨[],[],⟨none,0,rfl,A4 _,A3 _,Sli.nil _ _⟩,yG⟩
 ·have hlm:len≤m:=by rw [l];split<;>omega
  have key:∀q,q≤len→∃(xs:List Value) (ds:List α) (L:List Nat),ds.length=q∧(∀j u,xs[j]?=some u→w.cell? (a.add j)=some u)∧c.reps w xs ds L∧∀d∈ds,wf d:=by
   intro q
   induction q with
   | zero=>exact fun _=>⟨[],[],[],rfl,yG,⟨rfl,rfl⟩,yG⟩
   | succ q ih=>
    intro hq
    obtain ⟨xs,ds,L,hd,f,hr,i⟩:=ih yE
    obtain ⟨o,h1,h2⟩:=hx q yE
    obtain ⟨d,Lq,k,p⟩:=ho h2
    obtain ⟨_,hlen,v⟩:=World.cells?_some h1
    refine ⟨xs++o,ds++[d],L++Lq,by simp [hd],fun j u hu=>?_,Zi9 hr (Zoc k),?_⟩
    ·have g:xs.length=q * c.size:=by rw [ZhY hr,hd]
     rw [List.getElem?_append] at hu
     split at hu
     ·exact f j u hu
     ·rename_i hj
      have hj2:=(List.getElem?_eq_some_iff.1 hu).1
      have:=v (j - xs.length) yE
      rw [←hu,←this,Go.Deep.add_add,hc,←g]
      congr 2
      omega
    ·intro y hy
     rcases AD.1 hy with hy | hy
     ·exact i y hy
     ·simp at hy;subst hy;exact p
  obtain ⟨xs,ds,L,hd,f,hr,i⟩:=key len (A4 _)
  have g:=ZhY hr
  rcases Nat.eq_zero_or_pos len with h0 | h0
  ·have:ds=[]:=List.eq_nil_of_length_eq_zero yE
   subst this
   refine ⟨[],[],⟨some a,cap,by simp at hd;rw [←hd];rfl,yG,hm,Sli.nil _ _⟩,yG⟩
  ·obtain ⟨b,off,sp⟩:=a
   have hp:0<xs.length:=by rw [g,hd];exact Nat.mul_pos h0 c.pos
   have z:sp=none:=by
    have h1:=f 0 _ (A7 hp)
    have e:(⟨b,off,sp⟩:Addr).add 0=⟨b,off,sp⟩:=by simp [Addr.add]
    rw [e] at h1
    cases sp with
    | none=>rfl
    | some q=>
     simp only[World.cell?] at h1
     split at h1<;>simp at h1
   subst z
   refine ⟨ds,[b]++L,⟨some ⟨b,off,none⟩,cap,by rw [hd],yE,hm,xs,[b],L,rfl,⟨by rw [g],.inr ⟨yE,b,off,rfl,rfl,fun j u hu=>?_⟩⟩,hr⟩,i⟩
   have:=f j u hu
   rwa [ZcD] at this
end
section
open Go.RowKit
theorem ZEn {w w1:World} {B:Nat} (h:Below w.drew.heap.size w.drew w1) (hB:B≤w.heap.size):Below B w w1:=⟨h.os,h.tape,h.output,h.size,fun k hk=>h.block k (AB hk hB)⟩
theorem ZG0 {a:List Zf} {d:List Zd} {aF:Zd} {r0:List ZvY} {r1:Bool} (hh:ZDT a d aF=some (r0,r1)) (w:World) (hj:J0 w) (AaRules:Option Addr) (e:Nat) (LaRules:List Nat) (i:(ZfI ZDB).rep w [.slice AaRules a.length e] a LaRules) (AaBase:Option Addr) (f:Nat) (LaBase:List Nat) (j:(ZfI ZDc).rep w [.slice AaBase d.length f] d LaBase) (k:List Value) (LaF:List Nat) (l:ZDc.rep w k aF LaF):
  Calls prog 39 #[.slice AaRules a.length e,.slice AaBase d.length f,.agg k.toArray] w (ZG2 ZD3 86 w r0 r1):=
 Zl.givesSB (c:=ZD3) (g:=ZAO) (ds:=r0) (b:=r1) (ZGU hh) ZIj hj (vs:=[_,_,_]) ⟨ZzU ZIg _ i,ZzU ZFU _ j,ZEU ZFU l,trivial⟩
theorem ZFv {a:List Zf} {d:List Zd} {aF:Zd} {r0:List ZvY} {r1:Bool} (hh:ZDQ a d aF=some (r0,r1)) (w:World) (hj:J0 w) (AaRules:Option Addr) (e:Nat) (LaRules:List Nat) (i:(ZfI ZDB).rep w [.slice AaRules a.length e] a LaRules) (AaBase:Option Addr) (f:Nat) (LaBase:List Nat) (j:(ZfI ZDc).rep w [.slice AaBase d.length f] d LaBase) (k:List Value) (LaF:List Nat) (l:ZDc.rep w k aF LaF):
  Calls prog 41 #[.slice AaRules a.length e,.slice AaBase d.length f,.agg k.toArray] w (ZG2 ZD3 86 w r0 r1):=
 Zl.givesSB (c:=ZD3) (g:=ZAO) (ds:=r0) (b:=r1) (ZGI hh) ZIj hj (vs:=[_,_,_]) ⟨ZzU ZIg _ i,ZzU ZFU _ j,ZEU ZFU l,trivial⟩
set_option maxRecDepth 100000 in
set_option maxHeartbeats 8000000 in
theorem ZEW (w:World) (hJ:J0 w) (A_aRules:Option Addr) (c_aRules:Nat) (aRules:List Zf) (L_aRules:List Nat) (ln_aRules:aRules.length≤9223372036854775807) (h_aRules:Sli ZDB w A_aRules aRules L_aRules) (A_aBase:Option Addr) (c_aBase:Nat) (aBase:List Zd) (L_aBase:List Nat) (ln_aBase:aBase.length≤9223372036854775807) (h_aBase:Sli ZDc w A_aBase aBase L_aBase) (cs_aF:List Value) (aF:Zd) (L_aF:List Nat) (h_aF:ZDc.rep w cs_aF aF L_aF) (wf_aRules:(fun ds=>∀d∈ds,ZIa d) aRules) (wf_aBase:(fun ds=>∀d∈ds,ZF3 d) aBase) (wf_aF:ZF3 aF):
  Calls prog 6 #[.slice A_aRules aRules.length c_aRules,.slice A_aBase aBase.length c_aBase,.agg cs_aF.toArray] w fun e w'=>e=.returned (.bool true)∧Below w.heap.size w w':=by
 have HJ:=Lib.hid hJ
 clear hJ
 have H_aRules:=Lib.hid h_aRules
 clear h_aRules
 have H_aBase:=Lib.hid h_aBase
 clear h_aBase
 have H_aF:=Lib.hid h_aF
 clear h_aF
 obtain ⟨aF_A1,aF_c1,rfl⟩:=ZDq H_aF.out
 have B0:Hid (Below w.heap.size w (w.alloc (.cells #[.string aF.rel,.slice aF_A1 aF.args.length aF_c1] 66))):=(Below.alloc (Below.refl _ _) (A4 _) _)
 have sz0:w.heap.size+1≤((w.alloc (.cells #[.string aF.rel,.slice aF_A1 aF.args.length aF_c1] 66))).heap.size:=Nat.le_of_eq (by simp only[World.alloc,AS])
 have K_aF:Hid (Blk (w.alloc (.cells #[.string aF.rel,.slice aF_A1 aF.args.length aF_c1] 66)) (w.heap.size) 66 #[.string aF.rel,.slice aF_A1 aF.args.length aF_c1]):=(Blk.new _ _ _)
 go_enter func6,ntmps6
 go_wp2_with fail
 refine (ZHn A_aRules _ c_aRules aRules L_aRules _ _ rfl ln_aRules (by omega) (by omega) (H_aRules.out.below B0.out)).mono ?_
 rintro e w1 ⟨rfl,hb⟩
 have B1:=Lib.hid (B0.out.trans (hb.mono B0.out.size))
 have sz1:=hb.size
 have K_aF:=Lib.hid (K_aF.out.later hb)
 have f_aF_0:=K_aF.out.at (i:=0) rfl
 have f_aF_1:=K_aF.out.at (i:=1) rfl
 clear hb
 by_cases cc_aRules:((ZC4 aRules:Nat):Int)≤1048576
 rotate_left
 ·rw [ZCZ cc_aRules]
  go_wp2
  go_ret
  exact ⟨rfl,B1.out⟩
 rw [ZDo cc_aRules]
 have cz_aRules:ZC4 aRules≤1048576:=by omega
 have cl_aRules:aRules.length≤1048576:=by have:=cz_aRules;simp only[ZC4] at this;omega
 have nn_aRules:¬(1048576 - ((ZC4 aRules:Nat):Int)<0):=by omega
 go_wp2_with fail
 refine (ZHM A_aBase _ c_aBase aBase L_aBase _ _ rfl ln_aBase (by omega) (by omega) (H_aBase.out.below B1.out)).mono ?_
 rintro e w2 ⟨rfl,hb⟩
 have B2:=Lib.hid (B1.out.trans (hb.mono B1.out.size))
 have sz2:=hb.size
 have K_aF:=Lib.hid (K_aF.out.later hb)
 clear f_aF_0 f_aF_1
 have f_aF_0:=K_aF.out.at (i:=0) rfl
 have f_aF_1:=K_aF.out.at (i:=1) rfl
 clear B1
 clear hb
 by_cases cc_aBase:((ZDa aBase:Nat):Int)≤1048576 - ((ZC4 aRules:Nat):Int)
 rotate_left
 ·rw [ZCZ cc_aBase]
  go_wp2
  go_ret
  exact ⟨rfl,B2.out⟩
 rw [ZDo cc_aBase]
 have cz_aBase:ZDa aBase≤1048576:=by omega
 have cl_aBase:aBase.length≤1048576:=by have:=cz_aBase;simp only[ZDa] at this;omega
 have nn_aBase:¬(1048576 - ((ZC4 aRules:Nat):Int) - ((ZDa aBase:Nat):Int)<0):=by omega
 go_wp2_with fail
 refine (ZFd [.string aF.rel,.slice aF_A1 aF.args.length aF_c1] aF L_aF _ _ (by omega) (by omega) (ZDc.keep H_aF.out (ZCW B2.out (ZDc.lt H_aF.out)))).mono ?_
 rintro e w3 ⟨rfl,hb⟩
 have B3:=Lib.hid (B2.out.trans (hb.mono B2.out.size))
 have sz3:=hb.size
 have K_aF:=Lib.hid (K_aF.out.later hb)
 clear f_aF_0 f_aF_1
 have f_aF_0:=K_aF.out.at (i:=0) rfl
 have f_aF_1:=K_aF.out.at (i:=1) rfl
 clear B2
 clear hb
 by_cases cc_aF:((ZC2 aF:Nat):Int)≤1048576 - ((ZC4 aRules:Nat):Int) - ((ZDa aBase:Nat):Int)
 rotate_left
 ·rw [ZCZ cc_aF]
  go_wp2
  go_ret
  exact ⟨rfl,B3.out⟩
 rw [ZDo cc_aF]
 have cz_aF:ZC2 aF≤1048576:=by omega
 have nn_aF:¬(1048576 - ((ZC4 aRules:Nat):Int) - ((ZDa aBase:Nat):Int) - ((ZC2 aF:Nat):Int)<0):=by omega
 obtain ⟨R0,R1,hs0,hi0,rl⟩:=ZGi aRules cz_aRules wf_aRules aBase cz_aBase wf_aBase aF cz_aF wf_aF
 go_wp2_with fail
 go_region_held3 (fun W=>W.cell? ⟨w.heap.size,0,none⟩=some (.string aF.rel)∧W.cell? ⟨w.heap.size,1,none⟩=some (.slice aF_A1 aF.args.length aF_c1)) (first | exact ⟨f_aF_0,f_aF_1⟩) (first | (go_at_call 13;refine (ZEs A_aRules _ c_aRules aRules L_aRules _ rfl cz_aRules (H_aRules.out.below B3.out.drew)).mono ?_;rintro e w4 ⟨v,rfl,acc⟩;obtain ⟨A_t3aRules,c_t3aRules,rfl⟩:=acc.shape;have hb:=ZEn acc.below (A4 _);obtain ⟨L_t3aRules,gt⟩:=acc.got;have B4:=Lib.hid (B3.out.trans (hb.mono B3.out.size));have sz4:=hb.size;have K_aF:=Lib.hid (K_aF.out.later hb);clear f_aF_0 f_aF_1;have f_aF_0:=K_aF.out.at (i:=0) rfl;have f_aF_1:=K_aF.out.at (i:=1) rfl;clear B3;have V_t3aRules:=Lib.hid gt;have ge_t3aRules:=Lib.hid gt.own.ge;have lt_t3aRules:=Lib.hid gt.lt;clear gt hb acc) | (go_at_call 14;refine (ZEu A_aBase _ c_aBase aBase L_aBase _ rfl cz_aBase (H_aBase.out.below B4.out)).mono ?_;rintro e w5 ⟨v,rfl,acc⟩;obtain ⟨A_t4aBase,c_t4aBase,rfl⟩:=acc.shape;have hb:=acc.below;obtain ⟨L_t4aBase,gt⟩:=acc.got;have B5:=Lib.hid (B4.out.trans (hb.mono B4.out.size));have sz5:=hb.size;have V_t3aRules:=Lib.hid (V_t3aRules.out.later hb);have K_aF:=Lib.hid (K_aF.out.later hb);clear f_aF_0 f_aF_1;have f_aF_0:=K_aF.out.at (i:=0) rfl;have f_aF_1:=K_aF.out.at (i:=1) rfl;clear B4;have V_t4aBase:=Lib.hid gt;have ge_t4aBase:=Lib.hid gt.own.ge;have lt_t4aBase:=Lib.hid gt.lt;clear gt hb acc) | (go_at_call 40;refine (ZEl [.string aF.rel,.slice aF_A1 aF.args.length aF_c1] aF L_aF _ cz_aF (ZDc.keep H_aF.out (ZCW B5.out (ZDc.lt H_aF.out)))).mono ?_;rintro e w6 ⟨cs,L_t5aF,rfl,gt,hb⟩;obtain ⟨t5aF_A1,t5aF_c1,rfl⟩:=ZDq gt.rep;have B6:=Lib.hid (B5.out.trans (hb.mono B5.out.size));have sz6:=hb.size;have V_t3aRules:=Lib.hid (V_t3aRules.out.later hb);have V_t4aBase:=Lib.hid (V_t4aBase.out.later hb);have K_aF:=Lib.hid (K_aF.out.later hb);clear f_aF_0 f_aF_1;have f_aF_0:=K_aF.out.at (i:=0) rfl;have f_aF_1:=K_aF.out.at (i:=1) rfl;clear B5;have V_t5aF:=Lib.hid gt;have ge_t5aF:=Lib.hid gt.own.ge;have lt_t5aF:=Lib.hid gt.lt;clear gt hb) | (go_at_call 39;refine (ZG0 hs0 _ (ZDP hJ0 HJ.out B6.out) A_t3aRules c_t3aRules L_t3aRules V_t3aRules.out.rep A_t4aBase c_t4aBase L_t4aBase V_t4aBase.out.rep [.string aF.rel,.slice t5aF_A1 aF.args.length t5aF_c1] L_t5aF V_t5aF.out.rep).mono ?_;rintro e w7 ⟨v,rfl,acc⟩;obtain ⟨A_w0,c_w0,rfl⟩:=acc.shape;have hb:=acc.below;obtain ⟨L_w0,gt⟩:=acc.got;have B7:=Lib.hid (B6.out.trans (hb.mono B6.out.size));have sz7:=hb.size;have V_t3aRules:=Lib.hid (V_t3aRules.out.later hb);have V_t4aBase:=Lib.hid (V_t4aBase.out.later hb);have V_t5aF:=Lib.hid (V_t5aF.out.later hb);have K_aF:=Lib.hid (K_aF.out.later hb);clear f_aF_0 f_aF_1;have f_aF_0:=K_aF.out.at (i:=0) rfl;have f_aF_1:=K_aF.out.at (i:=1) rfl;clear B6;have V_w0:=Lib.hid gt;have ge_w0:=Lib.hid gt.own.ge;have lt_w0:=Lib.hid gt.lt;clear gt hb acc))
 clear V_t3aRules
 clear V_t4aBase
 clear V_t5aF
 go_wp2_with fail
 refine (ZEs A_aRules _ c_aRules aRules L_aRules _ rfl cz_aRules (H_aRules.out.below B7.out)).mono ?_
 rintro e w8 ⟨v,rfl,acc⟩
 obtain ⟨A_x0,c_x0,rfl⟩:=acc.shape
 have hb:=acc.below
 obtain ⟨L_x0,gt⟩:=acc.got
 have B8:=Lib.hid (B7.out.trans (hb.mono B7.out.size))
 have sz8:=hb.size
 have V_w0:=Lib.hid (V_w0.out.later hb)
 have K_aF:=Lib.hid (K_aF.out.later hb)
 clear f_aF_0 f_aF_1
 have f_aF_0:=K_aF.out.at (i:=0) rfl
 have f_aF_1:=K_aF.out.at (i:=1) rfl
 clear B7
 have V_x0:=Lib.hid gt
 have ge_x0:=Lib.hid gt.own.ge
 have lt_x0:=Lib.hid gt.lt
 clear gt hb acc
 go_wp2_with fail
 refine (ZEu A_aBase _ c_aBase aBase L_aBase _ rfl cz_aBase (H_aBase.out.below B8.out)).mono ?_
 rintro e w9 ⟨v,rfl,acc⟩
 obtain ⟨A_x1,c_x1,rfl⟩:=acc.shape
 have hb:=acc.below
 obtain ⟨L_x1,gt⟩:=acc.got
 have B9:=Lib.hid (B8.out.trans (hb.mono B8.out.size))
 have sz9:=hb.size
 have V_w0:=Lib.hid (V_w0.out.later hb)
 have V_x0:=Lib.hid (V_x0.out.later hb)
 have K_aF:=Lib.hid (K_aF.out.later hb)
 clear f_aF_0 f_aF_1
 have f_aF_0:=K_aF.out.at (i:=0) rfl
 have f_aF_1:=K_aF.out.at (i:=1) rfl
 clear B8
 have V_x1:=Lib.hid gt
 have ge_x1:=Lib.hid gt.own.ge
 have lt_x1:=Lib.hid gt.lt
 clear gt hb acc
 go_wp2_with fail
 refine (ZEl [.string aF.rel,.slice aF_A1 aF.args.length aF_c1] aF L_aF _ cz_aF (ZDc.keep H_aF.out (ZCW B9.out (ZDc.lt H_aF.out)))).mono ?_
 rintro e w10 ⟨cs,L_x2,rfl,gt,hb⟩
 obtain ⟨x2_A1,x2_c1,rfl⟩:=ZDq gt.rep
 have B10:=Lib.hid (B9.out.trans (hb.mono B9.out.size))
 have sz10:=hb.size
 have V_w0:=Lib.hid (V_w0.out.later hb)
 have V_x0:=Lib.hid (V_x0.out.later hb)
 have V_x1:=Lib.hid (V_x1.out.later hb)
 have K_aF:=Lib.hid (K_aF.out.later hb)
 clear f_aF_0 f_aF_1
 have f_aF_0:=K_aF.out.at (i:=0) rfl
 have f_aF_1:=K_aF.out.at (i:=1) rfl
 clear B9
 have V_x2:=Lib.hid gt
 have ge_x2:=Lib.hid gt.own.ge
 have lt_x2:=Lib.hid gt.lt
 clear gt hb
 have hb:=(Below.refl w10.heap.size w10).alloc (A4 _) (.cells #[.string aF.rel,.slice x2_A1 aF.args.length x2_c1] 71)
 have B11:=Lib.hid (B10.out.trans (hb.mono B10.out.size))
 have sz11:=hb.size
 have V_w0:=Lib.hid (V_w0.out.later hb)
 have V_x0:=Lib.hid (V_x0.out.later hb)
 have V_x1:=Lib.hid (V_x1.out.later hb)
 have V_x2:=Lib.hid (V_x2.out.later hb)
 have K_aF:=Lib.hid (K_aF.out.later hb)
 clear f_aF_0 f_aF_1
 have f_aF_0:=K_aF.out.at (i:=0) rfl
 have f_aF_1:=K_aF.out.at (i:=1) rfl
 clear B10
 have szb_x2:w10.heap.size+1≤(w10.alloc (.cells #[.string aF.rel,.slice x2_A1 aF.args.length x2_c1] 71)).heap.size:=Nat.le_of_eq (by simp only[World.alloc,AS])
 have K_x2:Hid (Blk (w10.alloc (.cells #[.string aF.rel,.slice x2_A1 aF.args.length x2_c1] 71)) w10.heap.size 71 #[.string aF.rel,.slice x2_A1 aF.args.length x2_c1]):=Blk.new _ _ _
 have f_x2_0:=K_x2.out.at (i:=0) rfl
 have f_x2_1:=K_x2.out.at (i:=1) rfl
 clear hb
 go_wp2_with fail
 refine (ZFv hi0 _ (ZDP hJ0 HJ.out B11.out) A_x0 c_x0 L_x0 V_x0.out.rep A_x1 c_x1 L_x1 V_x1.out.rep [.string aF.rel,.slice x2_A1 aF.args.length x2_c1] L_x2 V_x2.out.rep).mono ?_
 rintro e w12 ⟨v,rfl,acc⟩
 obtain ⟨A_g0,c_g0,rfl⟩:=acc.shape
 have hb:=acc.below
 obtain ⟨L_g0,gt⟩:=acc.got
 have B12:=Lib.hid (B11.out.trans (hb.mono B11.out.size))
 have sz12:=hb.size
 have V_w0:=Lib.hid (V_w0.out.later hb)
 have V_x0:=Lib.hid (V_x0.out.later hb)
 have V_x1:=Lib.hid (V_x1.out.later hb)
 have V_x2:=Lib.hid (V_x2.out.later hb)
 have K_aF:=Lib.hid (K_aF.out.later hb)
 clear f_aF_0 f_aF_1
 have f_aF_0:=K_aF.out.at (i:=0) rfl
 have f_aF_1:=K_aF.out.at (i:=1) rfl
 have K_x2:=Lib.hid (K_x2.out.later hb)
 clear f_x2_0 f_x2_1
 have f_x2_0:=K_x2.out.at (i:=0) rfl
 have f_x2_1:=K_x2.out.at (i:=1) rfl
 clear B11
 have V_g0:=Lib.hid gt
 have ge_g0:=Lib.hid gt.own.ge
 have lt_g0:=Lib.hid gt.lt
 clear gt hb acc
 go_wp2_with fail
 refine (ZEQ A_g0 A_w0 _ c_g0 c_w0 _ L_g0 L_w0 _ rfl (by omega) (ZCX V_g0.out.rep).2.2 (ZCX V_w0.out.rep).2.2).mono ?_
 rintro e w13 ⟨rfl,hb⟩
 have B13:=Lib.hid (B12.out.trans (hb.mono B12.out.size))
 have sz13:=hb.size
 have V_w0:=Lib.hid (V_w0.out.later hb)
 have V_x0:=Lib.hid (V_x0.out.later hb)
 have V_x1:=Lib.hid (V_x1.out.later hb)
 have V_x2:=Lib.hid (V_x2.out.later hb)
 have V_g0:=Lib.hid (V_g0.out.later hb)
 have K_aF:=Lib.hid (K_aF.out.later hb)
 clear f_aF_0 f_aF_1
 have f_aF_0:=K_aF.out.at (i:=0) rfl
 have f_aF_1:=K_aF.out.at (i:=1) rfl
 have K_x2:=Lib.hid (K_x2.out.later hb)
 clear f_x2_0 f_x2_1
 have f_x2_0:=K_x2.out.at (i:=0) rfl
 have f_x2_1:=K_x2.out.at (i:=1) rfl
 clear B12
 clear hb
 go_wp2_with fail
 refine (ZEs A_aRules _ c_aRules aRules L_aRules _ rfl cz_aRules (H_aRules.out.below B13.out)).mono ?_
 rintro e w14 ⟨v,rfl,acc⟩
 obtain ⟨A_t13aRules,c_t13aRules,rfl⟩:=acc.shape
 have hb:=acc.below
 obtain ⟨L_t13aRules,gt⟩:=acc.got
 have B14:=Lib.hid (B13.out.trans (hb.mono B13.out.size))
 have sz14:=hb.size
 have V_w0:=Lib.hid (V_w0.out.later hb)
 have V_x0:=Lib.hid (V_x0.out.later hb)
 have V_x1:=Lib.hid (V_x1.out.later hb)
 have V_x2:=Lib.hid (V_x2.out.later hb)
 have V_g0:=Lib.hid (V_g0.out.later hb)
 have K_aF:=Lib.hid (K_aF.out.later hb)
 clear f_aF_0 f_aF_1
 have f_aF_0:=K_aF.out.at (i:=0) rfl
 have f_aF_1:=K_aF.out.at (i:=1) rfl
 have K_x2:=Lib.hid (K_x2.out.later hb)
 clear f_x2_0 f_x2_1
 have f_x2_0:=K_x2.out.at (i:=0) rfl
 have f_x2_1:=K_x2.out.at (i:=1) rfl
 clear B13
 have V_t13aRules:=Lib.hid gt
 have ge_t13aRules:=Lib.hid gt.own.ge
 have lt_t13aRules:=Lib.hid gt.lt
 clear gt hb acc
 go_wp2_with fail
 refine (ZHJ A_x0 A_t13aRules _ c_x0 c_t13aRules _ L_x0 L_t13aRules _ rfl (by omega) (ZCX V_x0.out.rep).2.2 (ZCX V_t13aRules.out.rep).2.2).mono ?_
 rintro e w15 ⟨rfl,hb⟩
 have B15:=Lib.hid (B14.out.trans (hb.mono B14.out.size))
 have sz15:=hb.size
 have V_w0:=Lib.hid (V_w0.out.later hb)
 have V_x0:=Lib.hid (V_x0.out.later hb)
 have V_x1:=Lib.hid (V_x1.out.later hb)
 have V_x2:=Lib.hid (V_x2.out.later hb)
 have V_g0:=Lib.hid (V_g0.out.later hb)
 have V_t13aRules:=Lib.hid (V_t13aRules.out.later hb)
 have K_aF:=Lib.hid (K_aF.out.later hb)
 clear f_aF_0 f_aF_1
 have f_aF_0:=K_aF.out.at (i:=0) rfl
 have f_aF_1:=K_aF.out.at (i:=1) rfl
 have K_x2:=Lib.hid (K_x2.out.later hb)
 clear f_x2_0 f_x2_1
 have f_x2_0:=K_x2.out.at (i:=0) rfl
 have f_x2_1:=K_x2.out.at (i:=1) rfl
 clear B14
 clear hb
 clear V_t13aRules
 go_wp2_with fail
 refine (ZEu A_aBase _ c_aBase aBase L_aBase _ rfl cz_aBase (H_aBase.out.below B15.out)).mono ?_
 rintro e w16 ⟨v,rfl,acc⟩
 obtain ⟨A_t15aBase,c_t15aBase,rfl⟩:=acc.shape
 have hb:=acc.below
 obtain ⟨L_t15aBase,gt⟩:=acc.got
 have B16:=Lib.hid (B15.out.trans (hb.mono B15.out.size))
 have sz16:=hb.size
 have V_w0:=Lib.hid (V_w0.out.later hb)
 have V_x0:=Lib.hid (V_x0.out.later hb)
 have V_x1:=Lib.hid (V_x1.out.later hb)
 have V_x2:=Lib.hid (V_x2.out.later hb)
 have V_g0:=Lib.hid (V_g0.out.later hb)
 have K_aF:=Lib.hid (K_aF.out.later hb)
 clear f_aF_0 f_aF_1
 have f_aF_0:=K_aF.out.at (i:=0) rfl
 have f_aF_1:=K_aF.out.at (i:=1) rfl
 have K_x2:=Lib.hid (K_x2.out.later hb)
 clear f_x2_0 f_x2_1
 have f_x2_0:=K_x2.out.at (i:=0) rfl
 have f_x2_1:=K_x2.out.at (i:=1) rfl
 clear B15
 have V_t15aBase:=Lib.hid gt
 have ge_t15aBase:=Lib.hid gt.own.ge
 have lt_t15aBase:=Lib.hid gt.lt
 clear gt hb acc
 go_wp2_with fail
 refine (ZHr A_x1 A_t15aBase _ c_x1 c_t15aBase _ L_x1 L_t15aBase _ rfl (by omega) (ZCX V_x1.out.rep).2.2 (ZCX V_t15aBase.out.rep).2.2).mono ?_
 rintro e w17 ⟨rfl,hb⟩
 have B17:=Lib.hid (B16.out.trans (hb.mono B16.out.size))
 have sz17:=hb.size
 have V_w0:=Lib.hid (V_w0.out.later hb)
 have V_x0:=Lib.hid (V_x0.out.later hb)
 have V_x1:=Lib.hid (V_x1.out.later hb)
 have V_x2:=Lib.hid (V_x2.out.later hb)
 have V_g0:=Lib.hid (V_g0.out.later hb)
 have V_t15aBase:=Lib.hid (V_t15aBase.out.later hb)
 have K_aF:=Lib.hid (K_aF.out.later hb)
 clear f_aF_0 f_aF_1
 have f_aF_0:=K_aF.out.at (i:=0) rfl
 have f_aF_1:=K_aF.out.at (i:=1) rfl
 have K_x2:=Lib.hid (K_x2.out.later hb)
 clear f_x2_0 f_x2_1
 have f_x2_0:=K_x2.out.at (i:=0) rfl
 have f_x2_1:=K_x2.out.at (i:=1) rfl
 clear B16
 clear hb
 clear V_t15aBase
 go_wp2_with fail
 go_region_held3 (fun W=>W.cell? ⟨w10.heap.size,0,none⟩=some (.string aF.rel)∧W.cell? ⟨w10.heap.size,1,none⟩=some (.slice x2_A1 aF.args.length x2_c1)∧W.cell? ⟨w.heap.size,0,none⟩=some (.string aF.rel)∧W.cell? ⟨w.heap.size,1,none⟩=some (.slice aF_A1 aF.args.length aF_c1)) (first | exact ⟨f_x2_0,f_x2_1,f_aF_0,f_aF_1⟩ | exact ⟨r_x2_0,r_x2_1,r_aF_0,r_aF_1⟩) (first | (go_at_call 40;refine (ZEl [.string aF.rel,.slice aF_A1 aF.args.length aF_c1] aF L_aF _ cz_aF (ZDc.keep H_aF.out (ZCW B17.out.drew (ZDc.lt H_aF.out)))).mono ?_;rintro e w18 ⟨cs,L_t17aF,rfl,gt,hb⟩;obtain ⟨t17aF_A1,t17aF_c1,rfl⟩:=ZDq gt.rep;replace hb:=ZEn hb (A4 _);have KA:=K_aF.out.later hb;have KX:=K_x2.out.later hb;have r_x2_0:=KX.at (i:=0) rfl;have r_x2_1:=KX.at (i:=1) rfl;have r_aF_0:=KA.at (i:=0) rfl;have r_aF_1:=KA.at (i:=1) rfl) | (go_at_call 43;refine (ZFe [.string aF.rel,.slice x2_A1 aF.args.length x2_c1] [.string aF.rel,.slice t17aF_A1 aF.args.length t17aF_c1] aF L_x2 L_t17aF _ (V_x2.out.later hb).rep gt.rep).mono ?_;rintro e w19 ⟨rfl,hb2⟩;have KX2:=KX.later hb2;have KA2:=KA.later hb2;replace r_x2_0:=KX2.at (i:=0) rfl;replace r_x2_1:=KX2.at (i:=1) rfl;replace r_aF_0:=KA2.at (i:=0) rfl;replace r_aF_1:=KA2.at (i:=1) rfl))
 clear KA KX KA2 KX2 r_x2_0 r_x2_1 r_aF_0 r_aF_1
 have B18:=Lib.hid (B17.out.trans (hb.mono B17.out.size))
 have sz18:=hb.size
 have V_w0:=Lib.hid (V_w0.out.later hb)
 have V_x0:=Lib.hid (V_x0.out.later hb)
 have V_x1:=Lib.hid (V_x1.out.later hb)
 have V_x2:=Lib.hid (V_x2.out.later hb)
 have V_g0:=Lib.hid (V_g0.out.later hb)
 have K_aF:=Lib.hid (K_aF.out.later hb)
 clear f_aF_0 f_aF_1
 have f_aF_0:=K_aF.out.at (i:=0) rfl
 have f_aF_1:=K_aF.out.at (i:=1) rfl
 have K_x2:=Lib.hid (K_x2.out.later hb)
 clear f_x2_0 f_x2_1
 have f_x2_0:=K_x2.out.at (i:=0) rfl
 have f_x2_1:=K_x2.out.at (i:=1) rfl
 clear B17
 clear hb gt
 have B19:=Lib.hid (B18.out.trans (hb2.mono B18.out.size))
 have sz19:=hb2.size
 have V_w0:=Lib.hid (V_w0.out.later hb2)
 have V_x0:=Lib.hid (V_x0.out.later hb2)
 have V_x1:=Lib.hid (V_x1.out.later hb2)
 have V_x2:=Lib.hid (V_x2.out.later hb2)
 have V_g0:=Lib.hid (V_g0.out.later hb2)
 have K_aF:=Lib.hid (K_aF.out.later hb2)
 clear f_aF_0 f_aF_1
 have f_aF_0:=K_aF.out.at (i:=0) rfl
 have f_aF_1:=K_aF.out.at (i:=1) rfl
 have K_x2:=Lib.hid (K_x2.out.later hb2)
 clear f_x2_0 f_x2_1
 have f_x2_0:=K_x2.out.at (i:=0) rfl
 have f_x2_1:=K_x2.out.at (i:=1) rfl
 clear B18
 clear hb2
 have nl_x0_19:=ZGT ((1:Int)) aRules
 have nb_x0_19:ZC5 ((1:Int)) aRules≤4611686018427387904:=by omega
 have ng_x0_19:=ZFq ((1:Int)) aRules
 go_wp2_with fail
 refine (ZGh A_x0 _ c_x0 aRules L_x0 _ _ _ rfl (by omega) (by omega) (by omega) V_x0.out).mono ?_
 rintro e w20 ⟨rfl,gm,on⟩
 have B20:=Lib.hid (B19.out.trans (on.below B19.out.size (fun y m=>by have:=ge_x0.out y m;omega)))
 have sz20:=on.size
 have V_w0:=Lib.hid (V_w0.out.only on (fun y m m'=>by have:=lt_w0.out y m;have:=ge_x0.out y m';omega))
 have V_x1:=Lib.hid (V_x1.out.only on (fun y m m'=>by have:=ge_x1.out y m;have:=lt_x0.out y m';omega))
 have V_x2:=Lib.hid (V_x2.out.only on (fun y m m'=>by have:=ge_x2.out y m;have:=lt_x0.out y m';omega))
 have V_g0:=Lib.hid (V_g0.out.only on (fun y m m'=>by have:=ge_g0.out y m;have:=lt_x0.out y m';omega))
 have K_aF:=Lib.hid (ZD1 K_aF.out on (fun m=>by have:=ge_x0.out _ m;have:=lt_x0.out _ m;omega))
 clear f_aF_0 f_aF_1
 have f_aF_0:=K_aF.out.at (i:=0) rfl
 have f_aF_1:=K_aF.out.at (i:=1) rfl
 have K_x2:=Lib.hid (ZD1 K_x2.out on (fun m=>by have:=ge_x0.out _ m;have:=lt_x0.out _ m;omega))
 clear f_x2_0 f_x2_1
 have f_x2_0:=K_x2.out.at (i:=0) rfl
 have f_x2_1:=K_x2.out.at (i:=1) rfl
 clear B19
 have V_x0:=Lib.hid gm
 clear gm on
 clear V_x0
 have nl_x1_20:=ZG3 (ZC5 ((1:Int)) aRules) aBase
 have nb_x1_20:ZDj (ZC5 ((1:Int)) aRules) aBase≤4611686018427387904:=by omega
 have ng_x1_20:=ZFk (ZC5 ((1:Int)) aRules) aBase
 go_wp2_with fail
 refine (ZGd A_x1 _ c_x1 aBase L_x1 _ _ _ rfl (by omega) (by omega) (by omega) V_x1.out).mono ?_
 rintro e w21 ⟨rfl,gm,on⟩
 have B21:=Lib.hid (B20.out.trans (on.below B20.out.size (fun y m=>by have:=ge_x1.out y m;omega)))
 have sz21:=on.size
 have V_w0:=Lib.hid (V_w0.out.only on (fun y m m'=>by have:=lt_w0.out y m;have:=ge_x1.out y m';omega))
 have V_x2:=Lib.hid (V_x2.out.only on (fun y m m'=>by have:=ge_x2.out y m;have:=lt_x1.out y m';omega))
 have V_g0:=Lib.hid (V_g0.out.only on (fun y m m'=>by have:=ge_g0.out y m;have:=lt_x1.out y m';omega))
 have K_aF:=Lib.hid (ZD1 K_aF.out on (fun m=>by have:=ge_x1.out _ m;have:=lt_x1.out _ m;omega))
 clear f_aF_0 f_aF_1
 have f_aF_0:=K_aF.out.at (i:=0) rfl
 have f_aF_1:=K_aF.out.at (i:=1) rfl
 have K_x2:=Lib.hid (ZD1 K_x2.out on (fun m=>by have:=ge_x1.out _ m;have:=lt_x1.out _ m;omega))
 clear f_x2_0 f_x2_1
 have f_x2_0:=K_x2.out.at (i:=0) rfl
 have f_x2_1:=K_x2.out.at (i:=1) rfl
 clear B20
 have V_x1:=Lib.hid gm
 clear gm on
 clear V_x1
 have nl_x2_21:=ZG5 (ZDj (ZC5 ((1:Int)) aRules) aBase) aF
 have nb_x2_21:ZDE (ZDj (ZC5 ((1:Int)) aRules) aBase) aF≤4611686018427387904:=by omega
 have ng_x2_21:=ZGH (ZDj (ZC5 ((1:Int)) aRules) aBase) aF
 go_wp2_with fail
 refine (ZG7 _ aF L_x2 _ _ _ (by omega) (by omega) V_x2.out).mono ?_
 rintro e w22 ⟨rfl,gm,on⟩
 have B22:=Lib.hid (B21.out.trans (on.below B21.out.size (fun y m=>by have:=ge_x2.out y m;omega)))
 have sz22:=on.size
 have V_w0:=Lib.hid (V_w0.out.only on (fun y m m'=>by have:=lt_w0.out y m;have:=ge_x2.out y m';omega))
 have V_g0:=Lib.hid (V_g0.out.only on (fun y m m'=>by have:=ge_g0.out y m;have:=lt_x2.out y m';omega))
 have K_aF:=Lib.hid (ZD1 K_aF.out on (fun m=>by have:=ge_x2.out _ m;have:=lt_x2.out _ m;omega))
 clear f_aF_0 f_aF_1
 have f_aF_0:=K_aF.out.at (i:=0) rfl
 have f_aF_1:=K_aF.out.at (i:=1) rfl
 have K_x2:=Lib.hid (ZD1 K_x2.out on (fun m=>by have:=ge_x2.out _ m;have:=lt_x2.out _ m;omega))
 clear f_x2_0 f_x2_1
 have f_x2_0:=K_x2.out.at (i:=0) rfl
 have f_x2_1:=K_x2.out.at (i:=1) rfl
 clear B21
 have V_x2:=Lib.hid gm
 clear gm on
 clear V_x2
 have kn:¬(ZDE (ZDj (ZC5 ((1:Int)) aRules) aBase) aF<0):=by omega
 go_wp2_with fail
 refine (ZEQ A_g0 A_w0 _ c_g0 c_w0 _ L_g0 L_w0 _ rfl (by omega) (ZCX V_g0.out.rep).2.2 (ZCX V_w0.out.rep).2.2).mono ?_
 rintro e w23 ⟨rfl,hb⟩
 have B23:=Lib.hid (B22.out.trans (hb.mono B22.out.size))
 have sz23:=hb.size
 have V_w0:=Lib.hid (V_w0.out.later hb)
 have V_g0:=Lib.hid (V_g0.out.later hb)
 have K_aF:=Lib.hid (K_aF.out.later hb)
 clear f_aF_0 f_aF_1
 have f_aF_0:=K_aF.out.at (i:=0) rfl
 have f_aF_1:=K_aF.out.at (i:=1) rfl
 have K_x2:=Lib.hid (K_x2.out.later hb)
 clear f_x2_0 f_x2_1
 have f_x2_0:=K_x2.out.at (i:=0) rfl
 have f_x2_1:=K_x2.out.at (i:=1) rfl
 clear B22
 clear hb
 have nl_g0_23:=ZGP ((1:Int)) R0
 have nb_g0_23:ZCY ((1:Int)) R0≤4611686018427387904:=by omega
 have ng_g0_23:=ZEE ((1:Int)) R0
 go_wp2_with fail
 refine (ZGn A_g0 _ c_g0 R0 L_g0 _ _ _ rfl (by omega) (by omega) (by omega) V_g0.out).mono ?_
 rintro e w24 ⟨rfl,gm,on⟩
 have B24:=Lib.hid (B23.out.trans (on.below B23.out.size (fun y m=>by have:=ge_g0.out y m;omega)))
 have sz24:=on.size
 have V_w0:=Lib.hid (V_w0.out.only on (fun y m m'=>by have:=lt_w0.out y m;have:=ge_g0.out y m';omega))
 have K_aF:=Lib.hid (ZD1 K_aF.out on (fun m=>by have:=ge_g0.out _ m;have:=lt_g0.out _ m;omega))
 clear f_aF_0 f_aF_1
 have f_aF_0:=K_aF.out.at (i:=0) rfl
 have f_aF_1:=K_aF.out.at (i:=1) rfl
 have K_x2:=Lib.hid (ZD1 K_x2.out on (fun m=>by have:=ge_g0.out _ m;have:=lt_g0.out _ m;omega))
 clear f_x2_0 f_x2_1
 have f_x2_0:=K_x2.out.at (i:=0) rfl
 have f_x2_1:=K_x2.out.at (i:=1) rfl
 clear B23
 have V_g0:=Lib.hid gm
 clear gm on
 go_wp2_with fail
 refine (ZE4 A_g0 _ c_g0 R0 L_g0 _ _ rfl (by omega) (by omega) (by omega) (ZCX V_g0.out.rep).2.2).mono ?_
 rintro e w25 ⟨rfl,hb⟩
 have B25:=Lib.hid (B24.out.trans (hb.mono B24.out.size))
 have sz25:=hb.size
 have V_w0:=Lib.hid (V_w0.out.later hb)
 have V_g0:=Lib.hid (V_g0.out.later hb)
 have K_aF:=Lib.hid (K_aF.out.later hb)
 clear f_aF_0 f_aF_1
 have f_aF_0:=K_aF.out.at (i:=0) rfl
 have f_aF_1:=K_aF.out.at (i:=1) rfl
 have K_x2:=Lib.hid (K_x2.out.later hb)
 clear f_x2_0 f_x2_1
 have f_x2_0:=K_x2.out.at (i:=0) rfl
 have f_x2_1:=K_x2.out.at (i:=1) rfl
 clear B24
 clear hb
 have qn25:¬(ZCY ((1:Int)) R0<0):=by omega
 have qm25:((ZCY ((1:Int)) R0) != (ZCY ((1:Int)) R0))=false:=by simp
 go_wp2_with fail
 go_region_held3 (fun W=>W.cell? ⟨w.heap.size,0,none⟩=some (.string aF.rel)∧W.cell? ⟨w.heap.size,1,none⟩=some (.slice aF_A1 aF.args.length aF_c1)) (first | exact ⟨f_aF_0,f_aF_1⟩) (first | (go_at_call 13;refine (ZEs A_aRules _ c_aRules aRules L_aRules _ rfl cz_aRules (H_aRules.out.below B25.out.drew)).mono ?_;rintro e w26 ⟨v,rfl,acc⟩;obtain ⟨A_t25aRules,c_t25aRules,rfl⟩:=acc.shape;have hb:=ZEn acc.below (A4 _);obtain ⟨L_t25aRules,gt⟩:=acc.got;have B26:=Lib.hid (B25.out.trans (hb.mono B25.out.size));have sz26:=hb.size;have V_w0:=Lib.hid (V_w0.out.later hb);have V_g0:=Lib.hid (V_g0.out.later hb);have K_aF:=Lib.hid (K_aF.out.later hb);clear f_aF_0 f_aF_1;have f_aF_0:=K_aF.out.at (i:=0) rfl;have f_aF_1:=K_aF.out.at (i:=1) rfl;have K_x2:=Lib.hid (K_x2.out.later hb);clear f_x2_0 f_x2_1;have f_x2_0:=K_x2.out.at (i:=0) rfl;have f_x2_1:=K_x2.out.at (i:=1) rfl;clear B25;have V_t25aRules:=Lib.hid gt;have ge_t25aRules:=Lib.hid gt.own.ge;have lt_t25aRules:=Lib.hid gt.lt;clear gt hb acc) | (go_at_call 14;refine (ZEu A_aBase _ c_aBase aBase L_aBase _ rfl cz_aBase (H_aBase.out.below B26.out)).mono ?_;rintro e w27 ⟨v,rfl,acc⟩;obtain ⟨A_t26aBase,c_t26aBase,rfl⟩:=acc.shape;have hb:=acc.below;obtain ⟨L_t26aBase,gt⟩:=acc.got;have B27:=Lib.hid (B26.out.trans (hb.mono B26.out.size));have sz27:=hb.size;have V_w0:=Lib.hid (V_w0.out.later hb);have V_g0:=Lib.hid (V_g0.out.later hb);have V_t25aRules:=Lib.hid (V_t25aRules.out.later hb);have K_aF:=Lib.hid (K_aF.out.later hb);clear f_aF_0 f_aF_1;have f_aF_0:=K_aF.out.at (i:=0) rfl;have f_aF_1:=K_aF.out.at (i:=1) rfl;have K_x2:=Lib.hid (K_x2.out.later hb);clear f_x2_0 f_x2_1;have f_x2_0:=K_x2.out.at (i:=0) rfl;have f_x2_1:=K_x2.out.at (i:=1) rfl;clear B26;have V_t26aBase:=Lib.hid gt;have ge_t26aBase:=Lib.hid gt.own.ge;have lt_t26aBase:=Lib.hid gt.lt;clear gt hb acc) | (go_at_call 40;refine (ZEl [.string aF.rel,.slice aF_A1 aF.args.length aF_c1] aF L_aF _ cz_aF (ZDc.keep H_aF.out (ZCW B27.out (ZDc.lt H_aF.out)))).mono ?_;rintro e w28 ⟨cs,L_t27aF,rfl,gt,hb⟩;obtain ⟨t27aF_A1,t27aF_c1,rfl⟩:=ZDq gt.rep;have B28:=Lib.hid (B27.out.trans (hb.mono B27.out.size));have sz28:=hb.size;have V_w0:=Lib.hid (V_w0.out.later hb);have V_g0:=Lib.hid (V_g0.out.later hb);have V_t25aRules:=Lib.hid (V_t25aRules.out.later hb);have V_t26aBase:=Lib.hid (V_t26aBase.out.later hb);have K_aF:=Lib.hid (K_aF.out.later hb);clear f_aF_0 f_aF_1;have f_aF_0:=K_aF.out.at (i:=0) rfl;have f_aF_1:=K_aF.out.at (i:=1) rfl;have K_x2:=Lib.hid (K_x2.out.later hb);clear f_x2_0 f_x2_1;have f_x2_0:=K_x2.out.at (i:=0) rfl;have f_x2_1:=K_x2.out.at (i:=1) rfl;clear B27;have V_t27aF:=Lib.hid gt;have ge_t27aF:=Lib.hid gt.own.ge;have lt_t27aF:=Lib.hid gt.lt;clear gt hb) | (go_at_call 41;refine (ZFv hi0 _ (ZDP hJ0 HJ.out B28.out) A_t25aRules c_t25aRules L_t25aRules V_t25aRules.out.rep A_t26aBase c_t26aBase L_t26aBase V_t26aBase.out.rep [.string aF.rel,.slice t27aF_A1 aF.args.length t27aF_c1] L_t27aF V_t27aF.out.rep).mono ?_;rintro e w29 ⟨v,rfl,acc⟩;obtain ⟨A_h0,c_h0,rfl⟩:=acc.shape;have hb:=acc.below;obtain ⟨L_h0,gt⟩:=acc.got;have B29:=Lib.hid (B28.out.trans (hb.mono B28.out.size));have sz29:=hb.size;have V_w0:=Lib.hid (V_w0.out.later hb);have V_g0:=Lib.hid (V_g0.out.later hb);have V_t25aRules:=Lib.hid (V_t25aRules.out.later hb);have V_t26aBase:=Lib.hid (V_t26aBase.out.later hb);have V_t27aF:=Lib.hid (V_t27aF.out.later hb);have K_aF:=Lib.hid (K_aF.out.later hb);clear f_aF_0 f_aF_1;have f_aF_0:=K_aF.out.at (i:=0) rfl;have f_aF_1:=K_aF.out.at (i:=1) rfl;have K_x2:=Lib.hid (K_x2.out.later hb);clear f_x2_0 f_x2_1;have f_x2_0:=K_x2.out.at (i:=0) rfl;have f_x2_1:=K_x2.out.at (i:=1) rfl;clear B28;have V_h0:=Lib.hid gt;have ge_h0:=Lib.hid gt.own.ge;have lt_h0:=Lib.hid gt.lt;clear gt hb acc))
 clear V_t25aRules
 clear V_t26aBase
 clear V_t27aF
 go_wp2_with fail
 refine (ZEQ A_h0 A_w0 _ c_h0 c_w0 _ L_h0 L_w0 _ rfl (by omega) (ZCX V_h0.out.rep).2.2 (ZCX V_w0.out.rep).2.2).mono ?_
 rintro e w30 ⟨rfl,hb⟩
 have B30:=Lib.hid (B29.out.trans (hb.mono B29.out.size))
 have sz30:=hb.size
 have V_w0:=Lib.hid (V_w0.out.later hb)
 have V_g0:=Lib.hid (V_g0.out.later hb)
 have V_h0:=Lib.hid (V_h0.out.later hb)
 have K_aF:=Lib.hid (K_aF.out.later hb)
 clear f_aF_0 f_aF_1
 have f_aF_0:=K_aF.out.at (i:=0) rfl
 have f_aF_1:=K_aF.out.at (i:=1) rfl
 have K_x2:=Lib.hid (K_x2.out.later hb)
 clear f_x2_0 f_x2_1
 have f_x2_0:=K_x2.out.at (i:=0) rfl
 have f_x2_1:=K_x2.out.at (i:=1) rfl
 clear B29
 clear hb
 go_wp2_with fail
 refine (ZE4 A_g0 _ c_g0 R0 L_g0 _ _ rfl (by omega) (by omega) (by omega) (ZCX V_g0.out.rep).2.2).mono ?_
 rintro e w31 ⟨rfl,hb⟩
 have B31:=Lib.hid (B30.out.trans (hb.mono B30.out.size))
 have sz31:=hb.size
 have V_w0:=Lib.hid (V_w0.out.later hb)
 have V_g0:=Lib.hid (V_g0.out.later hb)
 have V_h0:=Lib.hid (V_h0.out.later hb)
 have K_aF:=Lib.hid (K_aF.out.later hb)
 clear f_aF_0 f_aF_1
 have f_aF_0:=K_aF.out.at (i:=0) rfl
 have f_aF_1:=K_aF.out.at (i:=1) rfl
 have K_x2:=Lib.hid (K_x2.out.later hb)
 clear f_x2_0 f_x2_1
 have f_x2_0:=K_x2.out.at (i:=0) rfl
 have f_x2_1:=K_x2.out.at (i:=1) rfl
 clear B30
 clear hb
 have qn31:¬(ZCY ((1:Int)) R0<0):=by omega
 have qm31:((ZCY ((1:Int)) R0) != (ZCY ((1:Int)) R0))=false:=by simp
 go_wp2_with fail
 go_ret
 exact ⟨rfl,B31.out⟩
end
section
open Go.RowKit
theorem ZGG:ZtV prog 66 ZDc ZF3:=by
 intro H c w base a b fuel cs x h
 obtain ⟨xs,n,_,_,d,e,hf⟩:=DataW.trod_struct underlying66 h
 have hl:cs.length=2:=d.trans (by kernel_rfl)
 have hx:xs.length=2:=e
 match cs,hl with
 | [a0,a1],_=>
  have f0:DataW.trod c prog w base a b n 9 [a0]=some (xs[0]'yE):=by
   have this:DataW.trod c prog w base a b n 9 (A8 (prog.cellsOf 9) (A9 0 [a0,a1]))=_:=(hf 0 _ rfl).trans (A7 (show 0<xs.length by omega))
   rw [show prog.cellsOf 9=1 by kernel_rfl] at this
   exact this
  have f1:DataW.trod c prog w base a b n 56 [a1]=some (xs[1]'yE):=by
   have this:DataW.trod c prog w base a b n 56 (A8 (prog.cellsOf 56) (A9 1 [a0,a1]))=_:=(hf 1 _ rfl).trans (A7 (show 1<xs.length by omega))
   rw [show prog.cellsOf 56=1 by kernel_rfl] at this
   exact this
  obtain ⟨d0,M0,r0,w0⟩:=(ZDL underlying9) f0
  obtain ⟨e0,_,t0⟩:=r0
  cases e0
  obtain ⟨d1,M1,r1,w1⟩:=(ZpR underlying56 (by kernel_rfl) (ZDL underlying9)) f1
  obtain ⟨A1,c1,e1,n1,m1,s1⟩:=r1
  cases e1
  exact ⟨⟨d0,d1⟩,_,⟨A1,c1,M1,rfl,rfl,t0,n1,m1,s1⟩,⟨w0,w1⟩⟩
theorem ZFy:ZtV prog 111 ZEp ZFF:=by
 intro H c w base a b fuel cs x h
 obtain ⟨xs,n,_,_,d,e,hf⟩:=DataW.trod_struct underlying111 h
 have hl:cs.length=2:=d.trans (by kernel_rfl)
 have hx:xs.length=2:=e
 match cs,hl with
 | [a0,a1],_=>
  have f0:DataW.trod c prog w base a b n 9 [a0]=some (xs[0]'yE):=by
   have this:DataW.trod c prog w base a b n 9 (A8 (prog.cellsOf 9) (A9 0 [a0,a1]))=_:=(hf 0 _ rfl).trans (A7 (show 0<xs.length by omega))
   rw [show prog.cellsOf 9=1 by kernel_rfl] at this
   exact this
  have f1:DataW.trod c prog w base a b n 56 [a1]=some (xs[1]'yE):=by
   have this:DataW.trod c prog w base a b n 56 (A8 (prog.cellsOf 56) (A9 1 [a0,a1]))=_:=(hf 1 _ rfl).trans (A7 (show 1<xs.length by omega))
   rw [show prog.cellsOf 56=1 by kernel_rfl] at this
   exact this
  obtain ⟨d0,M0,r0,w0⟩:=(ZDL underlying9) f0
  obtain ⟨e0,_,t0⟩:=r0
  cases e0
  obtain ⟨d1,M1,r1,w1⟩:=(ZpR underlying56 (by kernel_rfl) (ZDL underlying9)) f1
  obtain ⟨A1,c1,e1,n1,m1,s1⟩:=r1
  cases e1
  exact ⟨⟨d0,d1⟩,_,⟨A1,c1,M1,rfl,rfl,t0,n1,m1,s1⟩,⟨w0,w1⟩⟩
theorem ZIs:ZtV prog 113 ZDC ZIz:=by
 intro H c w base a b fuel cs x h
 obtain ⟨xs,n,_,_,d,e,hf⟩:=DataW.trod_struct underlying113 h
 have hl:cs.length=5:=d.trans (by kernel_rfl)
 have hx:xs.length=4:=e
 match cs,hl with
 | [a0,a1,a2,a3,a4],_=>
  have f0:DataW.trod c prog w base a b n 3 [a0]=some (xs[0]'yE):=by
   have this:DataW.trod c prog w base a b n 3 (A8 (prog.cellsOf 3) (A9 0 [a0,a1,a2,a3,a4]))=_:=(hf 0 _ rfl).trans (A7 (show 0<xs.length by omega))
   rw [show prog.cellsOf 3=1 by kernel_rfl] at this
   exact this
  have f1:DataW.trod c prog w base a b n 111 [a1,a2]=some (xs[1]'yE):=by
   have this:DataW.trod c prog w base a b n 111 (A8 (prog.cellsOf 111) (A9 1 [a0,a1,a2,a3,a4]))=_:=(hf 1 _ rfl).trans (A7 (show 1<xs.length by omega))
   rw [show prog.cellsOf 111=2 by kernel_rfl] at this
   exact this
  have f2:DataW.trod c prog w base a b n 9 [a3]=some (xs[2]'yE):=by
   have this:DataW.trod c prog w base a b n 9 (A8 (prog.cellsOf 9) (A9 3 [a0,a1,a2,a3,a4]))=_:=(hf 2 _ rfl).trans (A7 (show 2<xs.length by omega))
   rw [show prog.cellsOf 9=1 by kernel_rfl] at this
   exact this
  have f3:DataW.trod c prog w base a b n 9 [a4]=some (xs[3]'yE):=by
   have this:DataW.trod c prog w base a b n 9 (A8 (prog.cellsOf 9) (A9 4 [a0,a1,a2,a3,a4]))=_:=(hf 3 _ rfl).trans (A7 (show 3<xs.length by omega))
   rw [show prog.cellsOf 9=1 by kernel_rfl] at this
   exact this
  obtain ⟨d0,M0,r0,w0⟩:=(ZFD underlying3) f0
  obtain ⟨e0,_⟩:=r0
  cases e0
  obtain ⟨d1,M1,r1,w1⟩:=ZFy f1
  obtain ⟨A1,c1,N1,e1,g1,t0,n1,m1,s1⟩:=r1
  cases e1
  subst g1
  obtain ⟨d2,M2,r2,w2⟩:=(ZDL underlying9) f2
  obtain ⟨e2,_,t1⟩:=r2
  cases e2
  obtain ⟨d3,M3,r3,w3⟩:=(ZDL underlying9) f3
  obtain ⟨e3,_,t2⟩:=r3
  cases e3
  exact ⟨⟨d0,d1,d2,d3⟩,_,⟨A1,c1,M1,rfl,rfl,t0,t1,t2,n1,m1,s1⟩,⟨w0,w1,w2,w3⟩⟩
theorem ZHI:ZtV prog 221 ZC8 ZHA:=by
 intro H c w base a b fuel cs x h
 obtain ⟨xs,n,_,_,d,e,hf⟩:=DataW.trod_struct underlying221 h
 have hl:cs.length=3:=d.trans (by kernel_rfl)
 have hx:xs.length=2:=e
 match cs,hl with
 | [a0,a1,a2],_=>
  have f0:DataW.trod c prog w base a b n 3 [a0]=some (xs[0]'yE):=by
   have this:DataW.trod c prog w base a b n 3 (A8 (prog.cellsOf 3) (A9 0 [a0,a1,a2]))=_:=(hf 0 _ rfl).trans (A7 (show 0<xs.length by omega))
   rw [show prog.cellsOf 3=1 by kernel_rfl] at this
   exact this
  have f1:DataW.trod c prog w base a b n 111 [a1,a2]=some (xs[1]'yE):=by
   have this:DataW.trod c prog w base a b n 111 (A8 (prog.cellsOf 111) (A9 1 [a0,a1,a2]))=_:=(hf 1 _ rfl).trans (A7 (show 1<xs.length by omega))
   rw [show prog.cellsOf 111=2 by kernel_rfl] at this
   exact this
  obtain ⟨d0,M0,r0,w0⟩:=(ZFD underlying3) f0
  obtain ⟨e0,_⟩:=r0
  cases e0
  obtain ⟨d1,M1,r1,w1⟩:=ZFy f1
  obtain ⟨A1,c1,N1,e1,g1,t0,n1,m1,s1⟩:=r1
  cases e1
  subst g1
  exact ⟨⟨d0,d1⟩,_,⟨A1,c1,M1,rfl,rfl,t0,n1,m1,s1⟩,⟨w0,w1⟩⟩
theorem ZIn:ZtV prog 100 ZDB ZIa:=by
 intro H c w base a b fuel cs x h
 obtain ⟨xs,n,_,_,d,e,hf⟩:=DataW.trod_struct underlying100 h
 have hl:cs.length=4:=d.trans (by kernel_rfl)
 have hx:xs.length=4:=e
 match cs,hl with
 | [a0,a1,a2,a3],_=>
  have f0:DataW.trod c prog w base a b n 9 [a0]=some (xs[0]'yE):=by
   have this:DataW.trod c prog w base a b n 9 (A8 (prog.cellsOf 9) (A9 0 [a0,a1,a2,a3]))=_:=(hf 0 _ rfl).trans (A7 (show 0<xs.length by omega))
   rw [show prog.cellsOf 9=1 by kernel_rfl] at this
   exact this
  have f1:DataW.trod c prog w base a b n 3 [a1]=some (xs[1]'yE):=by
   have this:DataW.trod c prog w base a b n 3 (A8 (prog.cellsOf 3) (A9 1 [a0,a1,a2,a3]))=_:=(hf 1 _ rfl).trans (A7 (show 1<xs.length by omega))
   rw [show prog.cellsOf 3=1 by kernel_rfl] at this
   exact this
  have f2:DataW.trod c prog w base a b n 36 [a2]=some (xs[2]'yE):=by
   have this:DataW.trod c prog w base a b n 36 (A8 (prog.cellsOf 36) (A9 2 [a0,a1,a2,a3]))=_:=(hf 2 _ rfl).trans (A7 (show 2<xs.length by omega))
   rw [show prog.cellsOf 36=1 by kernel_rfl] at this
   exact this
  have f3:DataW.trod c prog w base a b n 98 [a3]=some (xs[3]'yE):=by
   have this:DataW.trod c prog w base a b n 98 (A8 (prog.cellsOf 98) (A9 3 [a0,a1,a2,a3]))=_:=(hf 3 _ rfl).trans (A7 (show 3<xs.length by omega))
   rw [show prog.cellsOf 98=1 by kernel_rfl] at this
   exact this
  obtain ⟨d0,M0,r0,w0⟩:=(ZDL underlying9) f0
  obtain ⟨e0,_,t0⟩:=r0
  cases e0
  obtain ⟨d1,M1,r1,w1⟩:=(ZFD underlying3) f1
  obtain ⟨e1,_⟩:=r1
  cases e1
  obtain ⟨d2,M2,r2,w2⟩:=(ZpR underlying36 (by kernel_rfl) ZIs) f2
  obtain ⟨A1,c1,e2,n1,m1,s1⟩:=r2
  cases e2
  obtain ⟨d3,M3,r3,w3⟩:=(ZpR underlying98 (by kernel_rfl) ZHI) f3
  obtain ⟨A2,c2,e3,n2,m2,s2⟩:=r3
  cases e3
  exact ⟨⟨d0,d1,d2,d3⟩,_,⟨A1,c1,M2,A2,c2,M3,rfl,rfl,t0,n1,m1,s1,n2,m2,s2⟩,⟨w0,w1,w2,w3⟩⟩
end
end Go.Proofs.YtekbmedphidcgaaGreatDoor
