/- Texts of this proof, joined: Sz, To. What each holds is said at its theorems. -/
import Derived.Test.YtcaokdmjlknmmaaGreatDoorProg
import Derived.Test.YtcaokdmjlknmmaaGreatDoorIsDeskQ1
import Derived.Outline
import Derived.WalkSpells
import Derived.StillTailTactics
import Derived.Test.YtcaokdmjlknmmaaGreatDoorIsDeskQ7
open List renaming append_assoc→AB,drop_eq_getElem_cons→AC,drop_of_length_le→AD,drop_zero→AE
open Nat renaming le_refl→A0,zero_le→AA,mul_one→AF,add_zero→AG
open Go.Proofs.Tryz
set_option linter.unusedSimpArgs false
set_option linter.unusedVariables false
set_option maxRecDepth 1000000
set_option maxHeartbeats 4000000
open Go.Lib renaming hid→yS
namespace Go.Proofs.YtcaokdmjlknmmaaGreatDoor
section
open Go.RowKit
theorem ZhZ (A:Option Addr) (n c:Nat) (ds:List ByteArray) (L:List Nat) (a:Int) (w:World) (hn:n=ds.length) (hm:n<=9223372036854775807) (h0:0<=a) (h1:a<=1048576) (h:Sli Zeu w A ds L):
  Calls prog 132 #[.slice A n c,.int .i64 a] w (YH (XU ds) a w):=by
 have H:=yS h
 have HN:=yS hn
 clear h hn
 by_cases hlen:(n:Int)<=a
 .go_enter func132,ntmps132
  go_wp2
  go_loop [1,5] (fun q i=>∃(k:Nat) (l:Int),k<=n/\i=.int .i64 k/\q=.int .i64 l/\0<=l/\l<=a/\Hid (szR ((ds.drop k).map ByteArray.size).sum l=szR (XU ds) a)) (fun _ i=>n - (intOf i).toNat)
  case atStart=>exact ⟨0,a - n,AA _,rfl,rfl,yE,yE,yS (by
    have e:=HN.out
    exact Yf _ _ _ _ yE (by simp [XU];omega))⟩
  case round=>
   obtain ⟨k,l,hk,rfl,rfl,g,hl1,HE⟩:=hrel
   by_cases hlt:k<n
   .obtain ⟨b,off,cs,Lk,rfl,_,_,d,hc⟩:=H.out.at_ (show k<ds.length by have:=HN.out;omega)
    obtain ⟨rfl,_,j⟩:=Zys d
    have f:=hc 0 _ rfl
    clear hc d
    have hd:Hid (ds.drop k=ds[k]'(by have:=HN.out;omega)::ds.drop (k+1)):=AC _
    generalize ds[k]'(by have:=HN.out;omega)=s at f hd j
    simp only[show Zeu.size=1 from rfl,AF,AG]at f
    by_cases hs:(s.size:Int)<=l
    .go_wp2
     go_round
     case rel=>exact ⟨k+1,l - s.size,yE,by go_num,rfl,yE,yE,yS (by rw [<-HE.out,hd.out];exact Yf _ _ _ _ yE yG)⟩
     case measure=>simp [intOf];omega
    .go_wp2
     go_ret
     exact ⟨ZJ (by rw [<-HE.out,hd.out,Zn (by simp;omega)]),Below.refl _ _⟩
   .go_wp2
    go_ret
    exact ⟨ZJ (by rw [<-HE.out,AD (by have:=HN.out;omega)];simp [szR,g]),Below.refl _ _⟩
 .go_enter func132,ntmps132
  go_wp2
  go_ret
  exact ⟨ZJ (by rw [Zn (by have:=HN.out;simp [XU];omega)]),Below.refl _ _⟩
theorem ZlV (A:Option Addr) (n c:Nat) (a:Int) (w:World) (hm:n<=9223372036854775807) (h0:0<=a) (h1:a<=1048576):
  Calls prog 29 #[.slice A n c,.int .i64 a] w (YH n a w):=by
 by_cases b:(n:Int)<=a
 all_goals
  go_enter func29,ntmps29
  go_wp2
  go_ret
 .exact ⟨ZJ (by rw [ZC b]),Below.refl _ _⟩
 .exact ⟨ZJ (by rw [Zn yE]),Below.refl _ _⟩
theorem Blk.at2 {w:World}{g:Nat}{t:TypeId}{v0 v1:Value}(h:Blk w g t #[v0,v1]):w.cell? ⟨g,0,none⟩=some v0/\w.cell? ⟨g,1,none⟩=some v1:=⟨h.at (i:=0) rfl,h.at (i:=1) rfl⟩
theorem Blk.at3 {w:World}{g:Nat}{t:TypeId}{v0 v1 v2:Value}(h:Blk w g t #[v0,v1,v2]):w.cell? ⟨g,0,none⟩=some v0/\w.cell? ⟨g,1,none⟩=some v1/\w.cell? ⟨g,2,none⟩=some v2:=⟨h.at (i:=0) rfl,h.at (i:=1) rfl,h.at (i:=2) rfl⟩
theorem Blk.at4 {w:World}{g:Nat}{t:TypeId}{v0 v1 v2 v3:Value}(h:Blk w g t #[v0,v1,v2,v3]):w.cell? ⟨g,0,none⟩=some v0/\w.cell? ⟨g,1,none⟩=some v1/\w.cell? ⟨g,2,none⟩=some v2/\w.cell? ⟨g,3,none⟩=some v3:=⟨h.at (i:=0) rfl,h.at (i:=1) rfl,h.at (i:=2) rfl,h.at (i:=3) rfl⟩
theorem Blk.at5 {w:World}{g:Nat}{t:TypeId}{v0 v1 v2 v3 v4:Value}(h:Blk w g t #[v0,v1,v2,v3,v4]):w.cell? ⟨g,0,none⟩=some v0/\w.cell? ⟨g,1,none⟩=some v1/\w.cell? ⟨g,2,none⟩=some v2/\w.cell? ⟨g,3,none⟩=some v3/\w.cell? ⟨g,4,none⟩=some v4:=⟨h.at (i:=0) rfl,h.at (i:=1) rfl,h.at (i:=2) rfl,h.at (i:=3) rfl,h.at (i:=4) rfl⟩
theorem Blk.at6 {w:World}{g:Nat}{t:TypeId}{v0 v1 v2 v3 v4 v5:Value}(h:Blk w g t #[v0,v1,v2,v3,v4,v5]):w.cell? ⟨g,0,none⟩=some v0/\w.cell? ⟨g,1,none⟩=some v1/\w.cell? ⟨g,2,none⟩=some v2/\w.cell? ⟨g,3,none⟩=some v3/\w.cell? ⟨g,4,none⟩=some v4/\w.cell? ⟨g,5,none⟩=some v5:=⟨h.at (i:=0) rfl,h.at (i:=1) rfl,h.at (i:=2) rfl,h.at (i:=3) rfl,h.at (i:=4) rfl,h.at (i:=5) rfl⟩
theorem Blk.at8 {w:World}{g:Nat}{t:TypeId}{v0 v1 v2 v3 v4 v5 v6 v7:Value}(h:Blk w g t #[v0,v1,v2,v3,v4,v5,v6,v7]):w.cell? ⟨g,0,none⟩=some v0/\w.cell? ⟨g,1,none⟩=some v1/\w.cell? ⟨g,2,none⟩=some v2/\w.cell? ⟨g,3,none⟩=some v3/\w.cell? ⟨g,4,none⟩=some v4/\w.cell? ⟨g,5,none⟩=some v5/\w.cell? ⟨g,6,none⟩=some v6/\w.cell? ⟨g,7,none⟩=some v7:=⟨h.at (i:=0) rfl,h.at (i:=1) rfl,h.at (i:=2) rfl,h.at (i:=3) rfl,h.at (i:=4) rfl,h.at (i:=5) rfl,h.at (i:=6) rfl,h.at (i:=7) rfl⟩
theorem Blk.at12 {w:World}{g:Nat}{t:TypeId}{v0 v1 v2 v3 v4 v5 v6 v7 v8 v9 a b:Value}(h:Blk w g t #[v0,v1,v2,v3,v4,v5,v6,v7,v8,v9,a,b]):w.cell? ⟨g,0,none⟩=some v0/\w.cell? ⟨g,1,none⟩=some v1/\w.cell? ⟨g,2,none⟩=some v2/\w.cell? ⟨g,3,none⟩=some v3/\w.cell? ⟨g,4,none⟩=some v4/\w.cell? ⟨g,5,none⟩=some v5/\w.cell? ⟨g,6,none⟩=some v6/\w.cell? ⟨g,7,none⟩=some v7/\w.cell? ⟨g,8,none⟩=some v8/\w.cell? ⟨g,9,none⟩=some v9/\w.cell? ⟨g,10,none⟩=some a/\w.cell? ⟨g,11,none⟩=some b:=⟨h.at (i:=0) rfl,h.at (i:=1) rfl,h.at (i:=2) rfl,h.at (i:=3) rfl,h.at (i:=4) rfl,h.at (i:=5) rfl,h.at (i:=6) rfl,h.at (i:=7) rfl,h.at (i:=8) rfl,h.at (i:=9) rfl,h.at (i:=10) rfl,h.at (i:=11) rfl⟩
theorem Blk.fr2 {w:World}{g:Nat}{t:TypeId}{cs:Array Value}(h:Blk w g t cs):w.frozen? ⟨g,0,none⟩=false/\w.frozen? ⟨g,1,none⟩=false:=⟨h.frozen 0,h.frozen 1⟩
theorem Blk.fr3 {w:World}{g:Nat}{t:TypeId}{cs:Array Value}(h:Blk w g t cs):w.frozen? ⟨g,0,none⟩=false/\w.frozen? ⟨g,1,none⟩=false/\w.frozen? ⟨g,2,none⟩=false:=⟨h.frozen 0,h.frozen 1,h.frozen 2⟩
theorem Blk.fr4 {w:World}{g:Nat}{t:TypeId}{cs:Array Value}(h:Blk w g t cs):w.frozen? ⟨g,0,none⟩=false/\w.frozen? ⟨g,1,none⟩=false/\w.frozen? ⟨g,2,none⟩=false/\w.frozen? ⟨g,3,none⟩=false:=⟨h.frozen 0,h.frozen 1,h.frozen 2,h.frozen 3⟩
theorem Blk.fr5 {w:World}{g:Nat}{t:TypeId}{cs:Array Value}(h:Blk w g t cs):w.frozen? ⟨g,0,none⟩=false/\w.frozen? ⟨g,1,none⟩=false/\w.frozen? ⟨g,2,none⟩=false/\w.frozen? ⟨g,3,none⟩=false/\w.frozen? ⟨g,4,none⟩=false:=⟨h.frozen 0,h.frozen 1,h.frozen 2,h.frozen 3,h.frozen 4⟩
theorem Blk.fr6 {w:World}{g:Nat}{t:TypeId}{cs:Array Value}(h:Blk w g t cs):w.frozen? ⟨g,0,none⟩=false/\w.frozen? ⟨g,1,none⟩=false/\w.frozen? ⟨g,2,none⟩=false/\w.frozen? ⟨g,3,none⟩=false/\w.frozen? ⟨g,4,none⟩=false/\w.frozen? ⟨g,5,none⟩=false:=⟨h.frozen 0,h.frozen 1,h.frozen 2,h.frozen 3,h.frozen 4,h.frozen 5⟩
theorem Blk.fr8 {w:World}{g:Nat}{t:TypeId}{cs:Array Value}(h:Blk w g t cs):w.frozen? ⟨g,0,none⟩=false/\w.frozen? ⟨g,1,none⟩=false/\w.frozen? ⟨g,2,none⟩=false/\w.frozen? ⟨g,3,none⟩=false/\w.frozen? ⟨g,4,none⟩=false/\w.frozen? ⟨g,5,none⟩=false/\w.frozen? ⟨g,6,none⟩=false/\w.frozen? ⟨g,7,none⟩=false:=⟨h.frozen 0,h.frozen 1,h.frozen 2,h.frozen 3,h.frozen 4,h.frozen 5,h.frozen 6,h.frozen 7⟩
theorem Blk.fr12 {w:World}{g:Nat}{t:TypeId}{cs:Array Value}(h:Blk w g t cs):w.frozen? ⟨g,0,none⟩=false/\w.frozen? ⟨g,1,none⟩=false/\w.frozen? ⟨g,2,none⟩=false/\w.frozen? ⟨g,3,none⟩=false/\w.frozen? ⟨g,4,none⟩=false/\w.frozen? ⟨g,5,none⟩=false/\w.frozen? ⟨g,6,none⟩=false/\w.frozen? ⟨g,7,none⟩=false/\w.frozen? ⟨g,8,none⟩=false/\w.frozen? ⟨g,9,none⟩=false/\w.frozen? ⟨g,10,none⟩=false/\w.frozen? ⟨g,11,none⟩=false:=⟨h.frozen 0,h.frozen 1,h.frozen 2,h.frozen 3,h.frozen 4,h.frozen 5,h.frozen 6,h.frozen 7,h.frozen 8,h.frozen 9,h.frozen 10,h.frozen 11⟩
theorem ZfR (cs:List Value) (x:Zk) (L:List Nat) (a:Int) (w:World) (h0:0<=a) (h1:a<=1048576) (h:Yh.rep w cs x L):
  Calls prog 83 #[.agg cs.toArray,.int .i64 a] w (YH (YL x) a w):=by
 obtain ⟨A1,c1,L1,rfl,_hL,t0,n1,m1,s1⟩:=h
 unfold maxLen at m1
 have S1:=yS s1
 clear s1
 have B0:Hid (Below w.heap.size w (w.alloc (.cells #[.string x.rel,.slice A1 x.args.length c1] 141))):=(Below.refl _ _).alloc (A0 _) _
 have K0:Hid (Blk (w.alloc (.cells #[.string x.rel,.slice A1 x.args.length c1] 141)) w.heap.size 141 #[.string x.rel,.slice A1 x.args.length c1]):=Blk.new _ _ _
 go_enter func83,ntmps83
 by_cases k1:(x.rel.size:Int)<=a
 rotate_left
 .go_wp2_with fail
  go_ret
  exact ⟨ZJ (by rw [Zn (by simp only[YL];omega)]),B0.out⟩
 go_wp2_with fail
 refine (ZhZ A1 _ c1 x.args L1 _ _ rfl yE yE yE (S1.out.below B0.out)).mono ?_
 rintro e w1 ⟨rfl,b⟩
 have B1:=yS (B0.out.trans (b.mono B0.out.size))
 have K1:=yS (K0.out.later b)
 obtain ⟨f0,f1⟩:=K1.out.at2
 clear b
 by_cases k2:((XU x.args:Nat):Int)<=a - x.rel.size
 rotate_left
 .rw [Zn k2]
  go_wp2_with fail
  go_ret
  exact ⟨ZJ (by rw [Zn (by simp only[YL];omega)]),B1.out⟩
 rw [ZC k2]
 go_wp2_with fail
 go_ret
 exact ⟨ZJ (by rw [ZC (by simp only[YL];omega)]<;>simp only[YL]<;>omega),B1.out⟩
theorem Zhm (A:Option Addr) (n c:Nat) (ds:List Zk) (L:List Nat) (a:Int) (w:World) (hn:n=ds.length) (hm:n<=9223372036854775807) (h0:0<=a) (h1:a<=1048576) (h:Sli Yh w A ds L):
  Calls prog 32 #[.slice A n c,.int .i64 a] w (YH (YQ ds) a w):=by
 have H:=yS h
 have HN:=yS hn
 clear h hn
 by_cases hlen:(n:Int)<=a
 .go_enter func32,ntmps32
  go_wp2
  go_loopw [1,5] (fun q i wr=>∃(k:Nat) (l:Int),k<=n/\i=.int .i64 k/\q=.int .i64 l/\0<=l/\l<=a/\Hid (Below w.heap.size w wr)/\Hid (szR ((ds.drop k).map YL).sum l=szR (YQ ds) a)) (fun _ i _=>n - (intOf i).toNat)
  case atStart=>exact ⟨0,a - n,AA _,rfl,rfl,yE,yE,Below.refl _ _,yS (by
    have e:=HN.out
    exact Yf _ _ _ _ yE (by simp only[YQ,AE];omega))⟩
  case round=>
   obtain ⟨k,l,hk,rfl,rfl,j,hl1,HB,HE⟩:=hrel
   by_cases hlt:k<n
   .have o:k<ds.length:=by have:=HN.out;omega
    obtain ⟨b,off,cs,Lk,rfl,t,u,d,hc⟩:=H.out.at_ o
    have g:b<w.heap.size:=H.out.lt b t
    have HR:=yS (Yh.keep d (Zo HB.out (fun y m=>H.out.lt y (u y m))))
    obtain ⟨A1,c1,rfl⟩:=Zaz d
    have q0:wr.cell? ⟨b,off+k*2,none⟩=_:=(HB.out.cell (p:=⟨b,off+(k*2+0),none⟩) g).trans (hc 0 _ rfl)
    have q1:wr.cell? ⟨b,off+k*2+1,none⟩=_:=(HB.out.cell (p:=⟨b,off+(k*2+1),none⟩) g).trans (hc 1 _ rfl)
    have hd:Hid (ds.drop k=ds[k]::ds.drop (k+1)):=AC _
    generalize ds[k]=x at *
    clear hc d
    by_cases hs:(YL x:Int)<=l
    .go_wp2_with (go_at_call 83;refine (ZfR _ x Lk _ _ yE yE HR.out).mono ?_;rintro e w1 ⟨rfl,f⟩;rw [ZC hs];have HB1:=yS (HB.out.trans (f.mono HB.out.size));clear f)
     go_roundw
     case rel=>exact ⟨k+1,l - YL x,yE,by go_num,rfl,yE,yE,HB1.out,yS (by rw [<-HE.out,hd.out];exact Yf _ _ _ _ yE yG)⟩
     case measure=>simp [intOf];omega
    .go_wp2_with (go_at_call 83;refine (ZfR _ x Lk _ _ yE yE HR.out).mono ?_;rintro e w1 ⟨rfl,f⟩;rw [Zn hs];have HB1:=yS (HB.out.trans (f.mono HB.out.size));clear f)
     go_ret
     exact ⟨ZJ (by rw [<-HE.out,hd.out,Zn (by simp;omega)]),HB1.out⟩
   .go_wp2
    go_ret
    exact ⟨ZJ (by rw [<-HE.out,AD (by have:=HN.out;omega)];simp [szR,j]),HB.out⟩
 .go_enter func32,ntmps32
  go_wp2
  go_ret
  exact ⟨ZJ (by rw [Zn (by have:=HN.out;simp only[YQ];omega)]),Below.refl _ _⟩
theorem ZeW (cs:List Value) (x:Zj) (L:List Nat) (a:Int) (w:World) (h0:0<=a) (h1:a<=1048576) (h:XP.rep w cs x L):
  Calls prog 129 #[.agg cs.toArray,.int .i64 a] w (YH (Z1 x) a w):=by
 obtain ⟨A1,c1,L1,rfl,_hL,t0,n1,m1,s1⟩:=h
 unfold maxLen at m1
 have S1:=yS s1
 clear s1
 have B0:Hid (Below w.heap.size w (w.alloc (.cells #[.string x.rel,.slice A1 x.args.length c1] 150))):=(Below.refl _ _).alloc (A0 _) _
 have K0:Hid (Blk (w.alloc (.cells #[.string x.rel,.slice A1 x.args.length c1] 150)) w.heap.size 150 #[.string x.rel,.slice A1 x.args.length c1]):=Blk.new _ _ _
 go_enter func129,ntmps129
 by_cases k1:(x.rel.size:Int)<=a
 rotate_left
 .go_wp2_with fail
  go_ret
  exact ⟨ZJ (by rw [Zn (by simp only[Z1];omega)]),B0.out⟩
 go_wp2_with fail
 refine (ZhZ A1 _ c1 x.args L1 _ _ rfl yE yE yE (S1.out.below B0.out)).mono ?_
 rintro e w1 ⟨rfl,b⟩
 have B1:=yS (B0.out.trans (b.mono B0.out.size))
 have K1:=yS (K0.out.later b)
 obtain ⟨f0,f1⟩:=K1.out.at2
 clear b
 by_cases k2:((XU x.args:Nat):Int)<=a - x.rel.size
 rotate_left
 .rw [Zn k2]
  go_wp2_with fail
  go_ret
  exact ⟨ZJ (by rw [Zn (by simp only[Z1];omega)]),B1.out⟩
 rw [ZC k2]
 go_wp2_with fail
 go_ret
 exact ⟨ZJ (by rw [ZC (by simp only[Z1];omega)]<;>simp only[Z1]<;>omega),B1.out⟩
theorem ZmS (cs:List Value) (x:Zg) (L:List Nat) (a:Int) (w:World) (h0:0<=a) (h1:a<=1048576) (h:XA.rep w cs x L):
  Calls prog 240 #[.agg cs.toArray,.int .i64 a] w (YH (Qe x) a w):=by
 obtain ⟨rfl,_hL,t0,t1⟩:=h
 have B0:Hid (Below w.heap.size w (w.alloc (.cells #[.string x.var,.string x.value] 265))):=(Below.refl _ _).alloc (A0 _) _
 have K0:Hid (Blk (w.alloc (.cells #[.string x.var,.string x.value] 265)) w.heap.size 265 #[.string x.var,.string x.value]):=Blk.new _ _ _
 go_enter func240,ntmps240
 by_cases k1:(x.var.size:Int)<=a
 rotate_left
 .go_wp2_with fail
  go_ret
  exact ⟨ZJ (by rw [Zn (by simp only[Qe];omega)]),B0.out⟩
 by_cases k2:(x.value.size:Int)<=a - x.var.size
 rotate_left
 .go_wp2_with fail
  go_ret
  exact ⟨ZJ (by rw [Zn (by simp only[Qe];omega)]),B0.out⟩
 go_wp2_with fail
 go_ret
 exact ⟨ZJ (by rw [ZC (by simp only[Qe];omega)]<;>simp only[Qe]<;>omega),B0.out⟩
theorem Zqd (A:Option Addr) (n c:Nat) (ds:List Zg) (L:List Nat) (a:Int) (w:World) (hn:n=ds.length) (hm:n<=9223372036854775807) (h0:0<=a) (h1:a<=1048576) (h:Sli XA w A ds L):
  Calls prog 222 #[.slice A n c,.int .i64 a] w (YH (ZaI ds) a w):=by
 have H:=yS h
 have HN:=yS hn
 clear h hn
 by_cases hlen:(n:Int)<=a
 .go_enter func222,ntmps222
  go_wp2
  go_loopw [1,5] (fun q i wr=>∃(k:Nat) (l:Int),k<=n/\i=.int .i64 k/\q=.int .i64 l/\0<=l/\l<=a/\Hid (Below w.heap.size w wr)/\Hid (szR ((ds.drop k).map Qe).sum l=szR (ZaI ds) a)) (fun _ i _=>n - (intOf i).toNat)
  case atStart=>exact ⟨0,a - n,AA _,rfl,rfl,yE,yE,Below.refl _ _,yS (by
    have e:=HN.out
    exact Yf _ _ _ _ yE (by simp only[ZaI,AE];omega))⟩
  case round=>
   obtain ⟨k,l,hk,rfl,rfl,j,hl1,HB,HE⟩:=hrel
   by_cases hlt:k<n
   .have o:k<ds.length:=by have:=HN.out;omega
    obtain ⟨b,off,cs,Lk,rfl,t,u,d,hc⟩:=H.out.at_ o
    have g:b<w.heap.size:=H.out.lt b t
    have HR:=yS (XA.keep d (Zo HB.out (fun y m=>H.out.lt y (u y m))))
    obtain rfl:=Zc0 d
    have q0:wr.cell? ⟨b,off+k*2,none⟩=_:=(HB.out.cell (p:=⟨b,off+(k*2+0),none⟩) g).trans (hc 0 _ rfl)
    have q1:wr.cell? ⟨b,off+k*2+1,none⟩=_:=(HB.out.cell (p:=⟨b,off+(k*2+1),none⟩) g).trans (hc 1 _ rfl)
    have hd:Hid (ds.drop k=ds[k]::ds.drop (k+1)):=AC _
    generalize ds[k]=x at *
    clear hc d
    by_cases hs:(Qe x:Int)<=l
    .go_wp2_with (go_at_call 240;refine (ZmS _ x Lk _ _ yE yE HR.out).mono ?_;rintro e w1 ⟨rfl,f⟩;rw [ZC hs];have HB1:=yS (HB.out.trans (f.mono HB.out.size));clear f)
     go_roundw
     case rel=>exact ⟨k+1,l - Qe x,yE,by go_num,rfl,yE,yE,HB1.out,yS (by rw [<-HE.out,hd.out];exact Yf _ _ _ _ yE yG)⟩
     case measure=>simp [intOf];omega
    .go_wp2_with (go_at_call 240;refine (ZmS _ x Lk _ _ yE yE HR.out).mono ?_;rintro e w1 ⟨rfl,f⟩;rw [Zn hs];have HB1:=yS (HB.out.trans (f.mono HB.out.size));clear f)
     go_ret
     exact ⟨ZJ (by rw [<-HE.out,hd.out,Zn (by simp;omega)]),HB1.out⟩
   .go_wp2
    go_ret
    exact ⟨ZJ (by rw [<-HE.out,AD (by have:=HN.out;omega)];simp [szR,j]),HB.out⟩
 .go_enter func222,ntmps222
  go_wp2
  go_ret
  exact ⟨ZJ (by rw [Zn (by have:=HN.out;simp only[ZaI];omega)]),Below.refl _ _⟩
theorem ZiF (cs:List Value) (x:Zf) (L:List Nat) (a:Int) (w:World) (h0:0<=a) (h1:a<=1048576) (h:X6.rep w cs x L):
  Calls prog 130 #[.agg cs.toArray,.int .i64 a] w (YH (Yo x) a w):=by
 obtain ⟨A1,c1,L1,rfl,_hL,t0,t1,t2,n1,m1,s1⟩:=h
 unfold maxLen at m1
 have S1:=yS s1
 clear s1
 have B0:Hid (Below w.heap.size w (w.alloc (.cells #[.int .i64 x.kind,.string x.pattern.rel,.slice A1 x.pattern.args.length c1,.string x.left,.string x.right] 155))):=(Below.refl _ _).alloc (A0 _) _
 have K0:Hid (Blk (w.alloc (.cells #[.int .i64 x.kind,.string x.pattern.rel,.slice A1 x.pattern.args.length c1,.string x.left,.string x.right] 155)) w.heap.size 155 #[.int .i64 x.kind,.string x.pattern.rel,.slice A1 x.pattern.args.length c1,.string x.left,.string x.right]):=Blk.new _ _ _
 go_enter func130,ntmps130
 go_wp2_with fail
 refine (ZeW [.string x.pattern.rel,.slice A1 x.pattern.args.length c1] x.pattern _ _ _ yE yE ⟨A1,c1,L1,rfl,rfl,t0,n1,(by unfold maxLen;omega),S1.out.below B0.out⟩).mono ?_
 rintro e w1 ⟨rfl,b⟩
 have B1:=yS (B0.out.trans (b.mono B0.out.size))
 have K1:=yS (K0.out.later b)
 obtain ⟨f0,f1,f2,f3,f4⟩:=K1.out.at5
 clear b
 by_cases k1:((Z1 x.pattern:Nat):Int)<=a
 rotate_left
 .rw [Zn k1]
  go_wp2_with fail
  go_ret
  exact ⟨ZJ (by rw [Zn (by simp only[Yo];omega)]),B1.out⟩
 rw [ZC k1]
 by_cases k2:(x.left.size:Int)<=a - (Z1 x.pattern:Nat)
 rotate_left
 .go_wp2_with fail
  go_ret
  exact ⟨ZJ (by rw [Zn (by simp only[Yo];omega)]),B1.out⟩
 by_cases k3:(x.right.size:Int)<=a - (Z1 x.pattern:Nat) - x.left.size
 rotate_left
 .go_wp2_with fail
  go_ret
  exact ⟨ZJ (by rw [Zn (by simp only[Yo];omega)]),B1.out⟩
 go_wp2_with fail
 go_ret
 exact ⟨ZJ (by rw [ZC (by simp only[Yo];omega)]<;>simp only[Yo]<;>omega),B1.out⟩
theorem Zqx (A:Option Addr) (n c:Nat) (ds:List Zf) (L:List Nat) (a:Int) (w:World) (hn:n=ds.length) (hm:n<=9223372036854775807) (h0:0<=a) (h1:a<=1048576) (h:Sli X6 w A ds L):
  Calls prog 127 #[.slice A n c,.int .i64 a] w (YH (Y1 ds) a w):=by
 have H:=yS h
 have HN:=yS hn
 clear h hn
 by_cases hlen:(n:Int)<=a
 .go_enter func127,ntmps127
  go_wp2
  go_loopw [1,5] (fun q i wr=>∃(k:Nat) (l:Int),k<=n/\i=.int .i64 k/\q=.int .i64 l/\0<=l/\l<=a/\Hid (Below w.heap.size w wr)/\Hid (szR ((ds.drop k).map Yo).sum l=szR (Y1 ds) a)) (fun _ i _=>n - (intOf i).toNat)
  case atStart=>exact ⟨0,a - n,AA _,rfl,rfl,yE,yE,Below.refl _ _,yS (by
    have e:=HN.out
    exact Yf _ _ _ _ yE (by simp only[Y1,AE];omega))⟩
  case round=>
   obtain ⟨k,l,hk,rfl,rfl,j,hl1,HB,HE⟩:=hrel
   by_cases hlt:k<n
   .have o:k<ds.length:=by have:=HN.out;omega
    obtain ⟨b,off,cs,Lk,rfl,t,u,d,hc⟩:=H.out.at_ o
    have f:b<w.heap.size:=H.out.lt b t
    have HR:=yS (X6.keep d (Zo HB.out (fun y m=>H.out.lt y (u y m))))
    obtain ⟨A1,c1,rfl⟩:=Zbu d
    have q0:wr.cell? ⟨b,off+k*5,none⟩=_:=(HB.out.cell (p:=⟨b,off+(k*5+0),none⟩) f).trans (hc 0 _ rfl)
    have q1:wr.cell? ⟨b,off+k*5+1,none⟩=_:=(HB.out.cell (p:=⟨b,off+(k*5+1),none⟩) f).trans (hc 1 _ rfl)
    have q2:wr.cell? ⟨b,off+k*5+2,none⟩=_:=(HB.out.cell (p:=⟨b,off+(k*5+2),none⟩) f).trans (hc 2 _ rfl)
    have q3:wr.cell? ⟨b,off+k*5+3,none⟩=_:=(HB.out.cell (p:=⟨b,off+(k*5+3),none⟩) f).trans (hc 3 _ rfl)
    have q4:wr.cell? ⟨b,off+k*5+4,none⟩=_:=(HB.out.cell (p:=⟨b,off+(k*5+4),none⟩) f).trans (hc 4 _ rfl)
    have hd:Hid (ds.drop k=ds[k]::ds.drop (k+1)):=AC _
    generalize ds[k]=x at *
    clear hc d
    by_cases hs:(Yo x:Int)<=l
    .go_wp2_with (go_at_call 130;refine (ZiF _ x Lk _ _ yE yE HR.out).mono ?_;rintro e w1 ⟨rfl,g⟩;rw [ZC hs];have HB1:=yS (HB.out.trans (g.mono HB.out.size));clear g)
     go_roundw
     case rel=>exact ⟨k+1,l - Yo x,yE,by go_num,rfl,yE,yE,HB1.out,yS (by rw [<-HE.out,hd.out];exact Yf _ _ _ _ yE yG)⟩
     case measure=>simp [intOf];omega
    .go_wp2_with (go_at_call 130;refine (ZiF _ x Lk _ _ yE yE HR.out).mono ?_;rintro e w1 ⟨rfl,g⟩;rw [Zn hs];have HB1:=yS (HB.out.trans (g.mono HB.out.size));clear g)
     go_ret
     exact ⟨ZJ (by rw [<-HE.out,hd.out,Zn (by simp;omega)]),HB1.out⟩
   .go_wp2
    go_ret
    exact ⟨ZJ (by rw [<-HE.out,AD (by have:=HN.out;omega)];simp [szR,j]),HB.out⟩
 .go_enter func127,ntmps127
  go_wp2
  go_ret
  exact ⟨ZJ (by rw [Zn (by have:=HN.out;simp only[Y1];omega)]),Below.refl _ _⟩
theorem Zjd (cs:List Value) (x:ZY) (L:List Nat) (a:Int) (w:World) (h0:0<=a) (h1:a<=1048576) (h:YJ.rep w cs x L):
  Calls prog 189 #[.agg cs.toArray,.int .i64 a] w (YH (YB x) a w):=by
 obtain ⟨A1,c1,L1,rfl,_hL,t0,n1,m1,s1⟩:=h
 unfold maxLen at m1
 have S1:=yS s1
 clear s1
 have B0:Hid (Below w.heap.size w (w.alloc (.cells #[.int .i64 x.kind,.string x.pattern.rel,.slice A1 x.pattern.args.length c1] 235))):=(Below.refl _ _).alloc (A0 _) _
 have K0:Hid (Blk (w.alloc (.cells #[.int .i64 x.kind,.string x.pattern.rel,.slice A1 x.pattern.args.length c1] 235)) w.heap.size 235 #[.int .i64 x.kind,.string x.pattern.rel,.slice A1 x.pattern.args.length c1]):=Blk.new _ _ _
 go_enter func189,ntmps189
 go_wp2_with fail
 refine (ZeW [.string x.pattern.rel,.slice A1 x.pattern.args.length c1] x.pattern _ _ _ yE yE ⟨A1,c1,L1,rfl,rfl,t0,n1,(by unfold maxLen;omega),S1.out.below B0.out⟩).mono ?_
 rintro e w1 ⟨rfl,b⟩
 have B1:=yS (B0.out.trans (b.mono B0.out.size))
 have K1:=yS (K0.out.later b)
 obtain ⟨f0,f1,f2⟩:=K1.out.at3
 clear b
 by_cases k1:((Z1 x.pattern:Nat):Int)<=a
 rotate_left
 .rw [Zn k1]
  go_wp2_with fail
  go_ret
  exact ⟨ZJ (by rw [Zn (by simp only[YB];omega)]),B1.out⟩
 rw [ZC k1]
 go_wp2_with fail
 go_ret
 exact ⟨ZJ (by rw [ZC (by simp only[YB];omega)]<;>simp only[YB]<;>omega),B1.out⟩
theorem Zni (A:Option Addr) (n c:Nat) (ds:List ZY) (L:List Nat) (a:Int) (w:World) (hn:n=ds.length) (hm:n<=9223372036854775807) (h0:0<=a) (h1:a<=1048576) (h:Sli YJ w A ds L):
  Calls prog 128 #[.slice A n c,.int .i64 a] w (YH (Yv ds) a w):=by
 have H:=yS h
 have HN:=yS hn
 clear h hn
 by_cases hlen:(n:Int)<=a
 .go_enter func128,ntmps128
  go_wp2
  go_loopw [1,5] (fun q i wr=>∃(k:Nat) (l:Int),k<=n/\i=.int .i64 k/\q=.int .i64 l/\0<=l/\l<=a/\Hid (Below w.heap.size w wr)/\Hid (szR ((ds.drop k).map YB).sum l=szR (Yv ds) a)) (fun _ i _=>n - (intOf i).toNat)
  case atStart=>exact ⟨0,a - n,AA _,rfl,rfl,yE,yE,Below.refl _ _,yS (by
    have e:=HN.out
    exact Yf _ _ _ _ yE (by simp only[Yv,AE];omega))⟩
  case round=>
   obtain ⟨k,l,hk,rfl,rfl,j,hl1,HB,HE⟩:=hrel
   by_cases hlt:k<n
   .have o:k<ds.length:=by have:=HN.out;omega
    obtain ⟨b,off,cs,Lk,rfl,t,u,d,hc⟩:=H.out.at_ o
    have g:b<w.heap.size:=H.out.lt b t
    have HR:=yS (YJ.keep d (Zo HB.out (fun y m=>H.out.lt y (u y m))))
    obtain ⟨A1,c1,rfl⟩:=Za1 d
    have q0:wr.cell? ⟨b,off+k*3,none⟩=_:=(HB.out.cell (p:=⟨b,off+(k*3+0),none⟩) g).trans (hc 0 _ rfl)
    have q1:wr.cell? ⟨b,off+k*3+1,none⟩=_:=(HB.out.cell (p:=⟨b,off+(k*3+1),none⟩) g).trans (hc 1 _ rfl)
    have q2:wr.cell? ⟨b,off+k*3+2,none⟩=_:=(HB.out.cell (p:=⟨b,off+(k*3+2),none⟩) g).trans (hc 2 _ rfl)
    have hd:Hid (ds.drop k=ds[k]::ds.drop (k+1)):=AC _
    generalize ds[k]=x at *
    clear hc d
    by_cases hs:(YB x:Int)<=l
    .go_wp2_with (go_at_call 189;refine (Zjd _ x Lk _ _ yE yE HR.out).mono ?_;rintro e w1 ⟨rfl,f⟩;rw [ZC hs];have HB1:=yS (HB.out.trans (f.mono HB.out.size));clear f)
     go_roundw
     case rel=>exact ⟨k+1,l - YB x,yE,by go_num,rfl,yE,yE,HB1.out,yS (by rw [<-HE.out,hd.out];exact Yf _ _ _ _ yE yG)⟩
     case measure=>simp [intOf];omega
    .go_wp2_with (go_at_call 189;refine (Zjd _ x Lk _ _ yE yE HR.out).mono ?_;rintro e w1 ⟨rfl,f⟩;rw [Zn hs];have HB1:=yS (HB.out.trans (f.mono HB.out.size));clear f)
     go_ret
     exact ⟨ZJ (by rw [<-HE.out,hd.out,Zn (by simp;omega)]),HB1.out⟩
   .go_wp2
    go_ret
    exact ⟨ZJ (by rw [<-HE.out,AD (by have:=HN.out;omega)];simp [szR,j]),HB.out⟩
 .go_enter func128,ntmps128
  go_wp2
  go_ret
  exact ⟨ZJ (by rw [Zn (by have:=HN.out;simp only[Yv];omega)]),Below.refl _ _⟩
theorem ZmU (cs:List Value) (x:Zl) (L:List Nat) (a:Int) (w:World) (h0:0<=a) (h1:a<=1048576) (h:Xj.rep w cs x L):
  Calls prog 77 #[.agg cs.toArray,.int .i64 a] w (YH (Yl x) a w):=by
 obtain ⟨A1,c1,L1,A2,c2,L2,rfl,_hL,t0,n1,m1,s1,n2,m2,s2⟩:=h
 unfold maxLen at m1 m2
 have S1:=yS s1
 clear s1
 have S2:=yS s2
 clear s2
 have B0:Hid (Below w.heap.size w (w.alloc (.cells #[.string x.name,.int .i64 x.priority,.slice A1 x.cond.length c1,.slice A2 x.thn.length c2] 139))):=(Below.refl _ _).alloc (A0 _) _
 have K0:Hid (Blk (w.alloc (.cells #[.string x.name,.int .i64 x.priority,.slice A1 x.cond.length c1,.slice A2 x.thn.length c2] 139)) w.heap.size 139 #[.string x.name,.int .i64 x.priority,.slice A1 x.cond.length c1,.slice A2 x.thn.length c2]):=Blk.new _ _ _
 go_enter func77,ntmps77
 by_cases k1:(x.name.size:Int)<=a
 rotate_left
 .go_wp2_with fail
  go_ret
  exact ⟨ZJ (by rw [Zn (by simp only[Yl];omega)]),B0.out⟩
 go_wp2_with fail
 refine (Zqx A1 _ c1 x.cond L1 _ _ rfl yE yE yE (S1.out.below B0.out)).mono ?_
 rintro e w1 ⟨rfl,b⟩
 have B1:=yS (B0.out.trans (b.mono B0.out.size))
 have K1:=yS (K0.out.later b)
 obtain ⟨f0,f1,f2,f3⟩:=K1.out.at4
 clear b
 by_cases k2:((Y1 x.cond:Nat):Int)<=a - x.name.size
 rotate_left
 .rw [Zn k2]
  go_wp2_with fail
  go_ret
  exact ⟨ZJ (by rw [Zn (by simp only[Yl];omega)]),B1.out⟩
 rw [ZC k2]
 go_wp2_with fail
 refine (Zni A2 _ c2 x.thn L2 _ _ rfl yE yE yE (S2.out.below B1.out)).mono ?_
 rintro e w2 ⟨rfl,c⟩
 have B2:=yS (B1.out.trans (c.mono B1.out.size))
 have K2:=yS (K1.out.later c)
 clear f0 f1 f2 f3
 obtain ⟨f0,f1,f2,f3⟩:=K2.out.at4
 clear c
 by_cases k3:((Yv x.thn:Nat):Int)<=a - x.name.size - (Y1 x.cond:Nat)
 rotate_left
 .rw [Zn k3]
  go_wp2_with fail
  go_ret
  exact ⟨ZJ (by rw [Zn (by simp only[Yl];omega)]),B2.out⟩
 rw [ZC k3]
 go_wp2_with fail
 go_ret
 exact ⟨ZJ (by rw [ZC (by simp only[Yl];omega)]<;>simp only[Yl]<;>omega),B2.out⟩
theorem Zkn (A:Option Addr) (n c:Nat) (ds:List Zl) (L:List Nat) (a:Int) (w:World) (hn:n=ds.length) (hm:n<=9223372036854775807) (h0:0<=a) (h1:a<=1048576) (h:Sli Xj w A ds L):
  Calls prog 25 #[.slice A n c,.int .i64 a] w (YH (Yi ds) a w):=by
 have H:=yS h
 have HN:=yS hn
 clear h hn
 by_cases hlen:(n:Int)<=a
 .go_enter func25,ntmps25
  go_wp2
  go_loopw [1,5] (fun q i wr=>∃(k:Nat) (l:Int),k<=n/\i=.int .i64 k/\q=.int .i64 l/\0<=l/\l<=a/\Hid (Below w.heap.size w wr)/\Hid (szR ((ds.drop k).map Yl).sum l=szR (Yi ds) a)) (fun _ i _=>n - (intOf i).toNat)
  case atStart=>exact ⟨0,a - n,AA _,rfl,rfl,yE,yE,Below.refl _ _,yS (by
    have e:=HN.out
    exact Yf _ _ _ _ yE (by simp only[Yi,AE];omega))⟩
  case round=>
   obtain ⟨k,l,hk,rfl,rfl,j,hl1,HB,HE⟩:=hrel
   by_cases hlt:k<n
   .have o:k<ds.length:=by have:=HN.out;omega
    obtain ⟨b,off,cs,Lk,rfl,t,u,d,hc⟩:=H.out.at_ o
    have g:b<w.heap.size:=H.out.lt b t
    have HR:=yS (Xj.keep d (Zo HB.out (fun y m=>H.out.lt y (u y m))))
    obtain ⟨A1,c1,A2,c2,rfl⟩:=ZcZ d
    have q0:wr.cell? ⟨b,off+k*4,none⟩=_:=(HB.out.cell (p:=⟨b,off+(k*4+0),none⟩) g).trans (hc 0 _ rfl)
    have q1:wr.cell? ⟨b,off+k*4+1,none⟩=_:=(HB.out.cell (p:=⟨b,off+(k*4+1),none⟩) g).trans (hc 1 _ rfl)
    have q2:wr.cell? ⟨b,off+k*4+2,none⟩=_:=(HB.out.cell (p:=⟨b,off+(k*4+2),none⟩) g).trans (hc 2 _ rfl)
    have q3:wr.cell? ⟨b,off+k*4+3,none⟩=_:=(HB.out.cell (p:=⟨b,off+(k*4+3),none⟩) g).trans (hc 3 _ rfl)
    have hd:Hid (ds.drop k=ds[k]::ds.drop (k+1)):=AC _
    generalize ds[k]=x at *
    clear hc d
    by_cases hs:(Yl x:Int)<=l
    .go_wp2_with (go_at_call 77;refine (ZmU _ x Lk _ _ yE yE HR.out).mono ?_;rintro e w1 ⟨rfl,f⟩;rw [ZC hs];have HB1:=yS (HB.out.trans (f.mono HB.out.size));clear f)
     go_roundw
     case rel=>exact ⟨k+1,l - Yl x,yE,by go_num,rfl,yE,yE,HB1.out,yS (by rw [<-HE.out,hd.out];exact Yf _ _ _ _ yE yG)⟩
     case measure=>simp [intOf];omega
    .go_wp2_with (go_at_call 77;refine (ZmU _ x Lk _ _ yE yE HR.out).mono ?_;rintro e w1 ⟨rfl,f⟩;rw [Zn hs];have HB1:=yS (HB.out.trans (f.mono HB.out.size));clear f)
     go_ret
     exact ⟨ZJ (by rw [<-HE.out,hd.out,Zn (by simp;omega)]),HB1.out⟩
   .go_wp2
    go_ret
    exact ⟨ZJ (by rw [<-HE.out,AD (by have:=HN.out;omega)];simp [szR,j]),HB.out⟩
 .go_enter func25,ntmps25
  go_wp2
  go_ret
  exact ⟨ZJ (by rw [Zn (by have:=HN.out;simp only[Yi];omega)]),Below.refl _ _⟩
theorem ZkH (cs:List Value) (x:Zs) (L:List Nat) (a:Int) (w:World) (h0:0<=a) (h1:a<=1048576) (h:Yg.rep w cs x L):
  Calls prog 190 #[.agg cs.toArray,.int .i64 a] w (YH (Xr x) a w):=by
 obtain ⟨A1,c1,L1,A2,c2,L2,rfl,_hL,n1,m1,s1,n2,m2,s2⟩:=h
 unfold maxLen at m1 m2
 have S1:=yS s1
 clear s1
 have S2:=yS s2
 clear s2
 have B0:Hid (Below w.heap.size w (w.alloc (.cells #[.slice A1 x.facts.length c1,.slice A2 x.binding.length c2] 239))):=(Below.refl _ _).alloc (A0 _) _
 have K0:Hid (Blk (w.alloc (.cells #[.slice A1 x.facts.length c1,.slice A2 x.binding.length c2] 239)) w.heap.size 239 #[.slice A1 x.facts.length c1,.slice A2 x.binding.length c2]):=Blk.new _ _ _
 go_enter func190,ntmps190
 go_wp2_with fail
 refine (Zhm A1 _ c1 x.facts L1 _ _ rfl yE yE yE (S1.out.below B0.out)).mono ?_
 rintro e w1 ⟨rfl,b⟩
 have B1:=yS (B0.out.trans (b.mono B0.out.size))
 have K1:=yS (K0.out.later b)
 obtain ⟨f0,f1⟩:=K1.out.at2
 clear b
 by_cases k1:((YQ x.facts:Nat):Int)<=a
 rotate_left
 .rw [Zn k1]
  go_wp2_with fail
  go_ret
  exact ⟨ZJ (by rw [Zn (by simp only[Xr];omega)]),B1.out⟩
 rw [ZC k1]
 go_wp2_with fail
 refine (Zqd A2 _ c2 x.binding L2 _ _ rfl yE yE yE (S2.out.below B1.out)).mono ?_
 rintro e w2 ⟨rfl,c⟩
 have B2:=yS (B1.out.trans (c.mono B1.out.size))
 have K2:=yS (K1.out.later c)
 clear f0 f1
 obtain ⟨f0,f1⟩:=K2.out.at2
 clear c
 by_cases k2:((ZaI x.binding:Nat):Int)<=a - (YQ x.facts:Nat)
 rotate_left
 .rw [Zn k2]
  go_wp2_with fail
  go_ret
  exact ⟨ZJ (by rw [Zn (by simp only[Xr];omega)]),B2.out⟩
 rw [ZC k2]
 go_wp2_with fail
 go_ret
 exact ⟨ZJ (by rw [ZC (by simp only[Xr];omega)]<;>simp only[Xr]<;>omega),B2.out⟩
theorem Zpt (A:Option Addr) (n c:Nat) (ds:List Zs) (L:List Nat) (a:Int) (w:World) (hn:n=ds.length) (hm:n<=9223372036854775807) (h0:0<=a) (h1:a<=1048576) (h:Sli Yg w A ds L):
  Calls prog 131 #[.slice A n c,.int .i64 a] w (YH (Qw ds) a w):=by
 have H:=yS h
 have HN:=yS hn
 clear h hn
 by_cases hlen:(n:Int)<=a
 .go_enter func131,ntmps131
  go_wp2
  go_loopw [1,5] (fun q i wr=>∃(k:Nat) (l:Int),k<=n/\i=.int .i64 k/\q=.int .i64 l/\0<=l/\l<=a/\Hid (Below w.heap.size w wr)/\Hid (szR ((ds.drop k).map Xr).sum l=szR (Qw ds) a)) (fun _ i _=>n - (intOf i).toNat)
  case atStart=>exact ⟨0,a - n,AA _,rfl,rfl,yE,yE,Below.refl _ _,yS (by
    have e:=HN.out
    exact Yf _ _ _ _ yE (by simp only[Qw,AE];omega))⟩
  case round=>
   obtain ⟨k,l,hk,rfl,rfl,j,hl1,HB,HE⟩:=hrel
   by_cases hlt:k<n
   .have o:k<ds.length:=by have:=HN.out;omega
    obtain ⟨b,off,cs,Lk,rfl,t,u,d,hc⟩:=H.out.at_ o
    have g:b<w.heap.size:=H.out.lt b t
    have HR:=yS (Yg.keep d (Zo HB.out (fun y m=>H.out.lt y (u y m))))
    obtain ⟨A1,c1,A2,c2,rfl⟩:=ZbH d
    have q0:wr.cell? ⟨b,off+k*2,none⟩=_:=(HB.out.cell (p:=⟨b,off+(k*2+0),none⟩) g).trans (hc 0 _ rfl)
    have q1:wr.cell? ⟨b,off+k*2+1,none⟩=_:=(HB.out.cell (p:=⟨b,off+(k*2+1),none⟩) g).trans (hc 1 _ rfl)
    have hd:Hid (ds.drop k=ds[k]::ds.drop (k+1)):=AC _
    generalize ds[k]=x at *
    clear hc d
    by_cases hs:(Xr x:Int)<=l
    .go_wp2_with (go_at_call 190;refine (ZkH _ x Lk _ _ yE yE HR.out).mono ?_;rintro e w1 ⟨rfl,f⟩;rw [ZC hs];have HB1:=yS (HB.out.trans (f.mono HB.out.size));clear f)
     go_roundw
     case rel=>exact ⟨k+1,l - Xr x,yE,by go_num,rfl,yE,yE,HB1.out,yS (by rw [<-HE.out,hd.out];exact Yf _ _ _ _ yE yG)⟩
     case measure=>simp [intOf];omega
    .go_wp2_with (go_at_call 190;refine (ZkH _ x Lk _ _ yE yE HR.out).mono ?_;rintro e w1 ⟨rfl,f⟩;rw [Zn hs];have HB1:=yS (HB.out.trans (f.mono HB.out.size));clear f)
     go_ret
     exact ⟨ZJ (by rw [<-HE.out,hd.out,Zn (by simp;omega)]),HB1.out⟩
   .go_wp2
    go_ret
    exact ⟨ZJ (by rw [<-HE.out,AD (by have:=HN.out;omega)];simp [szR,j]),HB.out⟩
 .go_enter func131,ntmps131
  go_wp2
  go_ret
  exact ⟨ZJ (by rw [Zn (by have:=HN.out;simp only[Qw];omega)]),Below.refl _ _⟩
theorem ZkJ (cs:List Value) (x:Z7) (L:List Nat) (a:Int) (w:World) (h0:0<=a) (h1:a<=1048576) (h:Y2.rep w cs x L):
  Calls prog 81 #[.agg cs.toArray,.int .i64 a] w (YH (Xq x) a w):=by
 obtain ⟨A1,c1,L1,A2,c2,L2,rfl,_hL,t0,n1,m1,s1,n2,m2,s2⟩:=h
 unfold maxLen at m1 m2
 have S1:=yS s1
 clear s1
 have S2:=yS s2
 clear s2
 have B0:Hid (Below w.heap.size w (w.alloc (.cells #[.string x.shape.rel,.slice A1 x.shape.args.length c1,.slice A2 x.facts.length c2] 152))):=(Below.refl _ _).alloc (A0 _) _
 have K0:Hid (Blk (w.alloc (.cells #[.string x.shape.rel,.slice A1 x.shape.args.length c1,.slice A2 x.facts.length c2] 152)) w.heap.size 152 #[.string x.shape.rel,.slice A1 x.shape.args.length c1,.slice A2 x.facts.length c2]):=Blk.new _ _ _
 go_enter func81,ntmps81
 go_wp2_with fail
 refine (ZeW [.string x.shape.rel,.slice A1 x.shape.args.length c1] x.shape _ _ _ yE yE ⟨A1,c1,L1,rfl,rfl,t0,n1,(by unfold maxLen;omega),S1.out.below B0.out⟩).mono ?_
 rintro e w1 ⟨rfl,b⟩
 have B1:=yS (B0.out.trans (b.mono B0.out.size))
 have K1:=yS (K0.out.later b)
 obtain ⟨f0,f1,f2⟩:=K1.out.at3
 clear b
 by_cases k1:((Z1 x.shape:Nat):Int)<=a
 rotate_left
 .rw [Zn k1]
  go_wp2_with fail
  go_ret
  exact ⟨ZJ (by rw [Zn (by simp only[Xq];omega)]),B1.out⟩
 rw [ZC k1]
 go_wp2_with fail
 refine (Zhm A2 _ c2 x.facts L2 _ _ rfl yE yE yE (S2.out.below B1.out)).mono ?_
 rintro e w2 ⟨rfl,c⟩
 have B2:=yS (B1.out.trans (c.mono B1.out.size))
 have K2:=yS (K1.out.later c)
 clear f0 f1 f2
 obtain ⟨f0,f1,f2⟩:=K2.out.at3
 clear c
 by_cases k2:((YQ x.facts:Nat):Int)<=a - (Z1 x.shape:Nat)
 rotate_left
 .rw [Zn k2]
  go_wp2_with fail
  go_ret
  exact ⟨ZJ (by rw [Zn (by simp only[Xq];omega)]),B2.out⟩
 rw [ZC k2]
 go_wp2_with fail
 go_ret
 exact ⟨ZJ (by rw [ZC (by simp only[Xq];omega)]<;>simp only[Xq]<;>omega),B2.out⟩
theorem ZpN (A:Option Addr) (n c:Nat) (ds:List Z7) (L:List Nat) (a:Int) (w:World) (hn:n=ds.length) (hm:n<=9223372036854775807) (h0:0<=a) (h1:a<=1048576) (h:Sli Y2 w A ds L):
  Calls prog 30 #[.slice A n c,.int .i64 a] w (YH (Xu ds) a w):=by
 have H:=yS h
 have HN:=yS hn
 clear h hn
 by_cases hlen:(n:Int)<=a
 .go_enter func30,ntmps30
  go_wp2
  go_loopw [1,5] (fun q i wr=>∃(k:Nat) (l:Int),k<=n/\i=.int .i64 k/\q=.int .i64 l/\0<=l/\l<=a/\Hid (Below w.heap.size w wr)/\Hid (szR ((ds.drop k).map Xq).sum l=szR (Xu ds) a)) (fun _ i _=>n - (intOf i).toNat)
  case atStart=>exact ⟨0,a - n,AA _,rfl,rfl,yE,yE,Below.refl _ _,yS (by
    have e:=HN.out
    exact Yf _ _ _ _ yE (by simp only[Xu,AE];omega))⟩
  case round=>
   obtain ⟨k,l,hk,rfl,rfl,j,hl1,HB,HE⟩:=hrel
   by_cases hlt:k<n
   .have o:k<ds.length:=by have:=HN.out;omega
    obtain ⟨b,off,cs,Lk,rfl,t,u,d,hc⟩:=H.out.at_ o
    have g:b<w.heap.size:=H.out.lt b t
    have HR:=yS (Y2.keep d (Zo HB.out (fun y m=>H.out.lt y (u y m))))
    obtain ⟨A1,c1,A2,c2,rfl⟩:=Zca d
    have q0:wr.cell? ⟨b,off+k*3,none⟩=_:=(HB.out.cell (p:=⟨b,off+(k*3+0),none⟩) g).trans (hc 0 _ rfl)
    have q1:wr.cell? ⟨b,off+k*3+1,none⟩=_:=(HB.out.cell (p:=⟨b,off+(k*3+1),none⟩) g).trans (hc 1 _ rfl)
    have q2:wr.cell? ⟨b,off+k*3+2,none⟩=_:=(HB.out.cell (p:=⟨b,off+(k*3+2),none⟩) g).trans (hc 2 _ rfl)
    have hd:Hid (ds.drop k=ds[k]::ds.drop (k+1)):=AC _
    generalize ds[k]=x at *
    clear hc d
    by_cases hs:(Xq x:Int)<=l
    .go_wp2_with (go_at_call 81;refine (ZkJ _ x Lk _ _ yE yE HR.out).mono ?_;rintro e w1 ⟨rfl,f⟩;rw [ZC hs];have HB1:=yS (HB.out.trans (f.mono HB.out.size));clear f)
     go_roundw
     case rel=>exact ⟨k+1,l - Xq x,yE,by go_num,rfl,yE,yE,HB1.out,yS (by rw [<-HE.out,hd.out];exact Yf _ _ _ _ yE yG)⟩
     case measure=>simp [intOf];omega
    .go_wp2_with (go_at_call 81;refine (ZkJ _ x Lk _ _ yE yE HR.out).mono ?_;rintro e w1 ⟨rfl,f⟩;rw [Zn hs];have HB1:=yS (HB.out.trans (f.mono HB.out.size));clear f)
     go_ret
     exact ⟨ZJ (by rw [<-HE.out,hd.out,Zn (by simp;omega)]),HB1.out⟩
   .go_wp2
    go_ret
    exact ⟨ZJ (by rw [<-HE.out,AD (by have:=HN.out;omega)];simp [szR,j]),HB.out⟩
 .go_enter func30,ntmps30
  go_wp2
  go_ret
  exact ⟨ZJ (by rw [Zn (by have:=HN.out;simp only[Xu];omega)]),Below.refl _ _⟩
theorem ZmP (cs:List Value) (x:ZL) (L:List Nat) (a:Int) (w:World) (h0:0<=a) (h1:a<=1048576) (h:QX.rep w cs x L):
  Calls prog 82 #[.agg cs.toArray,.int .i64 a] w (YH (Qa x) a w):=by
 obtain ⟨A1,c1,L1,A2,c2,L2,rfl,_hL,t0,t1,t2,n1,m1,s1,n2,m2,s2⟩:=h
 unfold maxLen at m1 m2
 have S1:=yS s1
 clear s1
 have S2:=yS s2
 clear s2
 have B0:Hid (Below w.heap.size w (w.alloc (.cells #[.int .i64 x.parent,.int .i64 x.cond.kind,.string x.cond.pattern.rel,.slice A1 x.cond.pattern.args.length c1,.string x.cond.left,.string x.cond.right,.int .i64 x.alpha,.slice A2 x.tokens.length c2] 158))):=(Below.refl _ _).alloc (A0 _) _
 have K0:Hid (Blk (w.alloc (.cells #[.int .i64 x.parent,.int .i64 x.cond.kind,.string x.cond.pattern.rel,.slice A1 x.cond.pattern.args.length c1,.string x.cond.left,.string x.cond.right,.int .i64 x.alpha,.slice A2 x.tokens.length c2] 158)) w.heap.size 158 #[.int .i64 x.parent,.int .i64 x.cond.kind,.string x.cond.pattern.rel,.slice A1 x.cond.pattern.args.length c1,.string x.cond.left,.string x.cond.right,.int .i64 x.alpha,.slice A2 x.tokens.length c2]):=Blk.new _ _ _
 go_enter func82,ntmps82
 go_wp2_with fail
 refine (ZiF [.int .i64 x.cond.kind,.string x.cond.pattern.rel,.slice A1 x.cond.pattern.args.length c1,.string x.cond.left,.string x.cond.right] x.cond _ _ _ yE yE ⟨A1,c1,L1,rfl,rfl,t0,t1,t2,n1,(by unfold maxLen;omega),S1.out.below B0.out⟩).mono ?_
 rintro e w1 ⟨rfl,b⟩
 have B1:=yS (B0.out.trans (b.mono B0.out.size))
 have K1:=yS (K0.out.later b)
 obtain ⟨f0,f1,f2,f3,f4,f5,f6,f7⟩:=K1.out.at8
 clear b
 by_cases k1:((Yo x.cond:Nat):Int)<=a
 rotate_left
 .rw [Zn k1]
  go_wp2_with fail
  go_ret
  exact ⟨ZJ (by rw [Zn (by simp only[Qa];omega)]),B1.out⟩
 rw [ZC k1]
 go_wp2_with fail
 refine (Zpt A2 _ c2 x.tokens L2 _ _ rfl yE yE yE (S2.out.below B1.out)).mono ?_
 rintro e w2 ⟨rfl,c⟩
 have B2:=yS (B1.out.trans (c.mono B1.out.size))
 have K2:=yS (K1.out.later c)
 clear f0 f1 f2 f3 f4 f5 f6 f7
 obtain ⟨f0,f1,f2,f3,f4,f5,f6,f7⟩:=K2.out.at8
 clear c
 by_cases k2:((Qw x.tokens:Nat):Int)<=a - (Yo x.cond:Nat)
 rotate_left
 .rw [Zn k2]
  go_wp2_with fail
  go_ret
  exact ⟨ZJ (by rw [Zn (by simp only[Qa];omega)]),B2.out⟩
 rw [ZC k2]
 go_wp2_with fail
 go_ret
 exact ⟨ZJ (by rw [ZC (by simp only[Qa];omega)]<;>simp only[Qa]<;>omega),B2.out⟩
theorem Zrm (A:Option Addr) (n c:Nat) (ds:List ZL) (L:List Nat) (a:Int) (w:World) (hn:n=ds.length) (hm:n<=9223372036854775807) (h0:0<=a) (h1:a<=1048576) (h:Sli QX w A ds L):
  Calls prog 31 #[.slice A n c,.int .i64 a] w (YH (QK ds) a w):=by
 have H:=yS h
 have HN:=yS hn
 clear h hn
 by_cases hlen:(n:Int)<=a
 .go_enter func31,ntmps31
  go_wp2
  go_loopw [1,5] (fun q i wr=>∃(k:Nat) (l:Int),k<=n/\i=.int .i64 k/\q=.int .i64 l/\0<=l/\l<=a/\Hid (Below w.heap.size w wr)/\Hid (szR ((ds.drop k).map Qa).sum l=szR (QK ds) a)) (fun _ i _=>n - (intOf i).toNat)
  case atStart=>exact ⟨0,a - n,AA _,rfl,rfl,yE,yE,Below.refl _ _,yS (by
    have e:=HN.out
    exact Yf _ _ _ _ yE (by simp only[QK,AE];omega))⟩
  case round=>
   obtain ⟨k,l,hk,rfl,rfl,j,hl1,HB,HE⟩:=hrel
   by_cases hlt:k<n
   .have o:k<ds.length:=by have:=HN.out;omega
    obtain ⟨b,off,cs,Lk,rfl,t,u,f,hc⟩:=H.out.at_ o
    have d:b<w.heap.size:=H.out.lt b t
    have HR:=yS (QX.keep f (Zo HB.out (fun y m=>H.out.lt y (u y m))))
    obtain ⟨A1,c1,A2,c2,rfl⟩:=Zc1 f
    have q0:wr.cell? ⟨b,off+k*8,none⟩=_:=(HB.out.cell (p:=⟨b,off+(k*8+0),none⟩) d).trans (hc 0 _ rfl)
    have q1:wr.cell? ⟨b,off+k*8+1,none⟩=_:=(HB.out.cell (p:=⟨b,off+(k*8+1),none⟩) d).trans (hc 1 _ rfl)
    have q2:wr.cell? ⟨b,off+k*8+2,none⟩=_:=(HB.out.cell (p:=⟨b,off+(k*8+2),none⟩) d).trans (hc 2 _ rfl)
    have q3:wr.cell? ⟨b,off+k*8+3,none⟩=_:=(HB.out.cell (p:=⟨b,off+(k*8+3),none⟩) d).trans (hc 3 _ rfl)
    have q4:wr.cell? ⟨b,off+k*8+4,none⟩=_:=(HB.out.cell (p:=⟨b,off+(k*8+4),none⟩) d).trans (hc 4 _ rfl)
    have q5:wr.cell? ⟨b,off+k*8+5,none⟩=_:=(HB.out.cell (p:=⟨b,off+(k*8+5),none⟩) d).trans (hc 5 _ rfl)
    have q6:wr.cell? ⟨b,off+k*8+6,none⟩=_:=(HB.out.cell (p:=⟨b,off+(k*8+6),none⟩) d).trans (hc 6 _ rfl)
    have q7:wr.cell? ⟨b,off+k*8+7,none⟩=_:=(HB.out.cell (p:=⟨b,off+(k*8+7),none⟩) d).trans (hc 7 _ rfl)
    have hd:Hid (ds.drop k=ds[k]::ds.drop (k+1)):=AC _
    generalize ds[k]=x at *
    clear hc f
    by_cases hs:(Qa x:Int)<=l
    .go_wp2_with (go_at_call 82;refine (ZmP _ x Lk _ _ yE yE HR.out).mono ?_;rintro e w1 ⟨rfl,g⟩;rw [ZC hs];have HB1:=yS (HB.out.trans (g.mono HB.out.size));clear g)
     go_roundw
     case rel=>exact ⟨k+1,l - Qa x,yE,by go_num,rfl,yE,yE,HB1.out,yS (by rw [<-HE.out,hd.out];exact Yf _ _ _ _ yE yG)⟩
     case measure=>simp [intOf];omega
    .go_wp2_with (go_at_call 82;refine (ZmP _ x Lk _ _ yE yE HR.out).mono ?_;rintro e w1 ⟨rfl,g⟩;rw [Zn hs];have HB1:=yS (HB.out.trans (g.mono HB.out.size));clear g)
     go_ret
     exact ⟨ZJ (by rw [<-HE.out,hd.out,Zn (by simp;omega)]),HB1.out⟩
   .go_wp2
    go_ret
    exact ⟨ZJ (by rw [<-HE.out,AD (by have:=HN.out;omega)];simp [szR,j]),HB.out⟩
 .go_enter func31,ntmps31
  go_wp2
  go_ret
  exact ⟨ZJ (by rw [Zn (by have:=HN.out;simp only[QK];omega)]),Below.refl _ _⟩
theorem ZnA (cs:List Value) (x:Ze) (L:List Nat) (a:Int) (w:World) (h0:0<=a) (h1:a<=1048576) (h:ZdS.rep w cs x L):
  Calls prog 10 #[.agg cs.toArray,.int .i64 a] w (YH (Yw x) a w):=by
 obtain ⟨A1,c1,L1,A2,c2,L2,A3,c3,L3,A4,c4,L4,A5,c5,L5,rfl,_hL,n1,m1,s1,n2,m2,s2,n3,m3,s3,n4,m4,s4,n5,m5,s5⟩:=h
 unfold maxLen at m1 m2 m3 m4 m5
 have S1:=yS s1
 clear s1
 have S2:=yS s2
 clear s2
 have S3:=yS s3
 clear s3
 have S4:=yS s4
 clear s4
 have S5:=yS s5
 clear s5
 have B0:Hid (Below w.heap.size w (w.alloc (.cells #[.slice A1 x.rules.length c1,.slice A2 x.ends.length c2,.slice A3 x.alphas.length c3,.slice A4 x.nodes.length c4,.slice A5 x.facts.length c5,.int .i64 x.tries] 33))):=(Below.refl _ _).alloc (A0 _) _
 have K0:Hid (Blk (w.alloc (.cells #[.slice A1 x.rules.length c1,.slice A2 x.ends.length c2,.slice A3 x.alphas.length c3,.slice A4 x.nodes.length c4,.slice A5 x.facts.length c5,.int .i64 x.tries] 33)) w.heap.size 33 #[.slice A1 x.rules.length c1,.slice A2 x.ends.length c2,.slice A3 x.alphas.length c3,.slice A4 x.nodes.length c4,.slice A5 x.facts.length c5,.int .i64 x.tries]):=Blk.new _ _ _
 go_enter func10,ntmps10
 go_wp2_with fail
 refine (Zkn A1 _ c1 x.rules L1 _ _ rfl yE yE yE (S1.out.below B0.out)).mono ?_
 rintro e w1 ⟨rfl,b⟩
 have B1:=yS (B0.out.trans (b.mono B0.out.size))
 have K1:=yS (K0.out.later b)
 obtain ⟨f0,f1,f2,f3,f4,f5⟩:=K1.out.at6
 clear b
 by_cases k1:((Yi x.rules:Nat):Int)<=a
 rotate_left
 .rw [Zn k1]
  go_wp2_with fail
  go_ret
  exact ⟨ZJ (by rw [Zn (by simp only[Yw];omega)]),B1.out⟩
 rw [ZC k1]
 go_wp2_with fail
 refine (ZlV A2 _ c2 _ _ yE yE yE).mono ?_
 rintro e w2 ⟨rfl,c⟩
 have B2:=yS (B1.out.trans (c.mono B1.out.size))
 have K2:=yS (K1.out.later c)
 clear f0 f1 f2 f3 f4 f5
 obtain ⟨f0,f1,f2,f3,f4,f5⟩:=K2.out.at6
 clear c
 by_cases k2:((x.ends.length:Nat):Int)<=a - (Yi x.rules:Nat)
 rotate_left
 .rw [Zn k2]
  go_wp2_with fail
  go_ret
  exact ⟨ZJ (by rw [Zn (by simp only[Yw];omega)]),B2.out⟩
 rw [ZC k2]
 go_wp2_with fail
 refine (ZpN A3 _ c3 x.alphas L3 _ _ rfl yE yE yE (S3.out.below B2.out)).mono ?_
 rintro e w3 ⟨rfl,d⟩
 have B3:=yS (B2.out.trans (d.mono B2.out.size))
 have K3:=yS (K2.out.later d)
 clear f0 f1 f2 f3 f4 f5
 obtain ⟨f0,f1,f2,f3,f4,f5⟩:=K3.out.at6
 clear d
 by_cases k3:((Xu x.alphas:Nat):Int)<=a - (Yi x.rules:Nat) - (x.ends.length:Nat)
 rotate_left
 .rw [Zn k3]
  go_wp2_with fail
  go_ret
  exact ⟨ZJ (by rw [Zn (by simp only[Yw];omega)]),B3.out⟩
 rw [ZC k3]
 go_wp2_with fail
 refine (Zrm A4 _ c4 x.nodes L4 _ _ rfl yE yE yE (S4.out.below B3.out)).mono ?_
 rintro e w4 ⟨rfl,f⟩
 have B4:=yS (B3.out.trans (f.mono B3.out.size))
 have K4:=yS (K3.out.later f)
 clear f0 f1 f2 f3 f4 f5
 obtain ⟨f0,f1,f2,f3,f4,f5⟩:=K4.out.at6
 clear f
 by_cases k4:((QK x.nodes:Nat):Int)<=a - (Yi x.rules:Nat) - (x.ends.length:Nat) - (Xu x.alphas:Nat)
 rotate_left
 .rw [Zn k4]
  go_wp2_with fail
  go_ret
  exact ⟨ZJ (by rw [Zn (by simp only[Yw];omega)]),B4.out⟩
 rw [ZC k4]
 go_wp2_with fail
 refine (Zhm A5 _ c5 x.facts L5 _ _ rfl yE yE yE (S5.out.below B4.out)).mono ?_
 rintro e w5 ⟨rfl,g⟩
 have B5:=yS (B4.out.trans (g.mono B4.out.size))
 have K5:=yS (K4.out.later g)
 clear f0 f1 f2 f3 f4 f5
 obtain ⟨f0,f1,f2,f3,f4,f5⟩:=K5.out.at6
 clear g
 by_cases k5:((YQ x.facts:Nat):Int)<=a - (Yi x.rules:Nat) - (x.ends.length:Nat) - (Xu x.alphas:Nat) - (QK x.nodes:Nat)
 rotate_left
 .rw [Zn k5]
  go_wp2_with fail
  go_ret
  exact ⟨ZJ (by rw [Zn (by simp only[Yw];omega)]),B5.out⟩
 rw [ZC k5]
 go_wp2_with fail
 go_ret
 exact ⟨ZJ (by rw [ZC (by simp only[Yw];omega)]<;>simp only[Yw]<;>omega),B5.out⟩
theorem ZkD (cs:List Value) (x:Z2) (L:List Nat) (a:Int) (w:World) (h0:0<=a) (h1:a<=1048576) (h:Y8.rep w cs x L):
  Calls prog 78 #[.agg cs.toArray,.int .i64 a] w (YH (YR x) a w):=by
 obtain ⟨A1,c1,L1,rfl,_hL,t0,n1,m1,s1⟩:=h
 unfold maxLen at m1
 have S1:=yS s1
 clear s1
 have B0:Hid (Below w.heap.size w (w.alloc (.cells #[.string x.fact.rel,.slice A1 x.fact.args.length c1,.int .i64 x.time] 143))):=(Below.refl _ _).alloc (A0 _) _
 have K0:Hid (Blk (w.alloc (.cells #[.string x.fact.rel,.slice A1 x.fact.args.length c1,.int .i64 x.time] 143)) w.heap.size 143 #[.string x.fact.rel,.slice A1 x.fact.args.length c1,.int .i64 x.time]):=Blk.new _ _ _
 go_enter func78,ntmps78
 go_wp2_with fail
 refine (ZfR [.string x.fact.rel,.slice A1 x.fact.args.length c1] x.fact _ _ _ yE yE ⟨A1,c1,L1,rfl,rfl,t0,n1,(by unfold maxLen;omega),S1.out.below B0.out⟩).mono ?_
 rintro e w1 ⟨rfl,b⟩
 have B1:=yS (B0.out.trans (b.mono B0.out.size))
 have K1:=yS (K0.out.later b)
 obtain ⟨f0,f1,f2⟩:=K1.out.at3
 clear b
 by_cases k1:((YL x.fact:Nat):Int)<=a
 rotate_left
 .rw [Zn k1]
  go_wp2_with fail
  go_ret
  exact ⟨ZJ (by rw [Zn (by simp only[YR];omega)]),B1.out⟩
 rw [ZC k1]
 go_wp2_with fail
 go_ret
 exact ⟨ZJ (by rw [ZC (by simp only[YR];omega)]<;>simp only[YR]<;>omega),B1.out⟩
theorem Zpa (A:Option Addr) (n c:Nat) (ds:List Z2) (L:List Nat) (a:Int) (w:World) (hn:n=ds.length) (hm:n<=9223372036854775807) (h0:0<=a) (h1:a<=1048576) (h:Sli Y8 w A ds L):
  Calls prog 26 #[.slice A n c,.int .i64 a] w (YH (Y5 ds) a w):=by
 have H:=yS h
 have HN:=yS hn
 clear h hn
 by_cases hlen:(n:Int)<=a
 .go_enter func26,ntmps26
  go_wp2
  go_loopw [1,5] (fun q i wr=>∃(k:Nat) (l:Int),k<=n/\i=.int .i64 k/\q=.int .i64 l/\0<=l/\l<=a/\Hid (Below w.heap.size w wr)/\Hid (szR ((ds.drop k).map YR).sum l=szR (Y5 ds) a)) (fun _ i _=>n - (intOf i).toNat)
  case atStart=>exact ⟨0,a - n,AA _,rfl,rfl,yE,yE,Below.refl _ _,yS (by
    have e:=HN.out
    exact Yf _ _ _ _ yE (by simp only[Y5,AE];omega))⟩
  case round=>
   obtain ⟨k,l,hk,rfl,rfl,j,hl1,HB,HE⟩:=hrel
   by_cases hlt:k<n
   .have o:k<ds.length:=by have:=HN.out;omega
    obtain ⟨b,off,cs,Lk,rfl,t,u,d,hc⟩:=H.out.at_ o
    have g:b<w.heap.size:=H.out.lt b t
    have HR:=yS (Y8.keep d (Zo HB.out (fun y m=>H.out.lt y (u y m))))
    obtain ⟨A1,c1,rfl⟩:=Zb4 d
    have q0:wr.cell? ⟨b,off+k*3,none⟩=_:=(HB.out.cell (p:=⟨b,off+(k*3+0),none⟩) g).trans (hc 0 _ rfl)
    have q1:wr.cell? ⟨b,off+k*3+1,none⟩=_:=(HB.out.cell (p:=⟨b,off+(k*3+1),none⟩) g).trans (hc 1 _ rfl)
    have q2:wr.cell? ⟨b,off+k*3+2,none⟩=_:=(HB.out.cell (p:=⟨b,off+(k*3+2),none⟩) g).trans (hc 2 _ rfl)
    have hd:Hid (ds.drop k=ds[k]::ds.drop (k+1)):=AC _
    generalize ds[k]=x at *
    clear hc d
    by_cases hs:(YR x:Int)<=l
    .go_wp2_with (go_at_call 78;refine (ZkD _ x Lk _ _ yE yE HR.out).mono ?_;rintro e w1 ⟨rfl,f⟩;rw [ZC hs];have HB1:=yS (HB.out.trans (f.mono HB.out.size));clear f)
     go_roundw
     case rel=>exact ⟨k+1,l - YR x,yE,by go_num,rfl,yE,yE,HB1.out,yS (by rw [<-HE.out,hd.out];exact Yf _ _ _ _ yE yG)⟩
     case measure=>simp [intOf];omega
    .go_wp2_with (go_at_call 78;refine (ZkD _ x Lk _ _ yE yE HR.out).mono ?_;rintro e w1 ⟨rfl,f⟩;rw [Zn hs];have HB1:=yS (HB.out.trans (f.mono HB.out.size));clear f)
     go_ret
     exact ⟨ZJ (by rw [<-HE.out,hd.out,Zn (by simp;omega)]),HB1.out⟩
   .go_wp2
    go_ret
    exact ⟨ZJ (by rw [<-HE.out,AD (by have:=HN.out;omega)];simp [szR,j]),HB.out⟩
 .go_enter func26,ntmps26
  go_wp2
  go_ret
  exact ⟨ZJ (by rw [Zn (by have:=HN.out;simp only[Y5];omega)]),Below.refl _ _⟩
theorem Zjx (cs:List Value) (x:ZX) (L:List Nat) (a:Int) (w:World) (h0:0<=a) (h1:a<=1048576) (h:Yz.rep w cs x L):
  Calls prog 79 #[.agg cs.toArray,.int .i64 a] w (YH (YS x) a w):=by
 obtain ⟨A1,c1,L1,rfl,_hL,t0,n1,m1,s1⟩:=h
 unfold maxLen at m1
 have S1:=yS s1
 clear s1
 have B0:Hid (Below w.heap.size w (w.alloc (.cells #[.string x.rule,.slice A1 x.times.length c1] 145))):=(Below.refl _ _).alloc (A0 _) _
 have K0:Hid (Blk (w.alloc (.cells #[.string x.rule,.slice A1 x.times.length c1] 145)) w.heap.size 145 #[.string x.rule,.slice A1 x.times.length c1]):=Blk.new _ _ _
 go_enter func79,ntmps79
 by_cases k1:(x.rule.size:Int)<=a
 rotate_left
 .go_wp2_with fail
  go_ret
  exact ⟨ZJ (by rw [Zn (by simp only[YS];omega)]),B0.out⟩
 go_wp2_with fail
 refine (ZlV A1 _ c1 _ _ yE yE yE).mono ?_
 rintro e w1 ⟨rfl,b⟩
 have B1:=yS (B0.out.trans (b.mono B0.out.size))
 have K1:=yS (K0.out.later b)
 obtain ⟨f0,f1⟩:=K1.out.at2
 clear b
 by_cases k2:((x.times.length:Nat):Int)<=a - x.rule.size
 rotate_left
 .rw [Zn k2]
  go_wp2_with fail
  go_ret
  exact ⟨ZJ (by rw [Zn (by simp only[YS];omega)]),B1.out⟩
 rw [ZC k2]
 go_wp2_with fail
 go_ret
 exact ⟨ZJ (by rw [ZC (by simp only[YS];omega)]<;>simp only[YS]<;>omega),B1.out⟩
theorem Zm9 (A:Option Addr) (n c:Nat) (ds:List ZX) (L:List Nat) (a:Int) (w:World) (hn:n=ds.length) (hm:n<=9223372036854775807) (h0:0<=a) (h1:a<=1048576) (h:Sli Yz w A ds L):
  Calls prog 27 #[.slice A n c,.int .i64 a] w (YH (Xk ds) a w):=by
 have H:=yS h
 have HN:=yS hn
 clear h hn
 by_cases hlen:(n:Int)<=a
 .go_enter func27,ntmps27
  go_wp2
  go_loopw [1,5] (fun q i wr=>∃(k:Nat) (l:Int),k<=n/\i=.int .i64 k/\q=.int .i64 l/\0<=l/\l<=a/\Hid (Below w.heap.size w wr)/\Hid (szR ((ds.drop k).map YS).sum l=szR (Xk ds) a)) (fun _ i _=>n - (intOf i).toNat)
  case atStart=>exact ⟨0,a - n,AA _,rfl,rfl,yE,yE,Below.refl _ _,yS (by
    have e:=HN.out
    exact Yf _ _ _ _ yE (by simp only[Xk,AE];omega))⟩
  case round=>
   obtain ⟨k,l,hk,rfl,rfl,j,hl1,HB,HE⟩:=hrel
   by_cases hlt:k<n
   .have o:k<ds.length:=by have:=HN.out;omega
    obtain ⟨b,off,cs,Lk,rfl,t,u,d,hc⟩:=H.out.at_ o
    have g:b<w.heap.size:=H.out.lt b t
    have HR:=yS (Yz.keep d (Zo HB.out (fun y m=>H.out.lt y (u y m))))
    obtain ⟨A1,c1,rfl⟩:=Za5 d
    have q0:wr.cell? ⟨b,off+k*2,none⟩=_:=(HB.out.cell (p:=⟨b,off+(k*2+0),none⟩) g).trans (hc 0 _ rfl)
    have q1:wr.cell? ⟨b,off+k*2+1,none⟩=_:=(HB.out.cell (p:=⟨b,off+(k*2+1),none⟩) g).trans (hc 1 _ rfl)
    have hd:Hid (ds.drop k=ds[k]::ds.drop (k+1)):=AC _
    generalize ds[k]=x at *
    clear hc d
    by_cases hs:(YS x:Int)<=l
    .go_wp2_with (go_at_call 79;refine (Zjx _ x Lk _ _ yE yE HR.out).mono ?_;rintro e w1 ⟨rfl,f⟩;rw [ZC hs];have HB1:=yS (HB.out.trans (f.mono HB.out.size));clear f)
     go_roundw
     case rel=>exact ⟨k+1,l - YS x,yE,by go_num,rfl,yE,yE,HB1.out,yS (by rw [<-HE.out,hd.out];exact Yf _ _ _ _ yE yG)⟩
     case measure=>simp [intOf];omega
    .go_wp2_with (go_at_call 79;refine (Zjx _ x Lk _ _ yE yE HR.out).mono ?_;rintro e w1 ⟨rfl,f⟩;rw [Zn hs];have HB1:=yS (HB.out.trans (f.mono HB.out.size));clear f)
     go_ret
     exact ⟨ZJ (by rw [<-HE.out,hd.out,Zn (by simp;omega)]),HB1.out⟩
   .go_wp2
    go_ret
    exact ⟨ZJ (by rw [<-HE.out,AD (by have:=HN.out;omega)];simp [szR,j]),HB.out⟩
 .go_enter func27,ntmps27
  go_wp2
  go_ret
  exact ⟨ZJ (by rw [Zn (by have:=HN.out;simp only[Xk];omega)]),Below.refl _ _⟩
theorem Zkt (cs:List Value) (x:Y3) (L:List Nat) (a:Int) (w:World) (h0:0<=a) (h1:a<=1048576) (h:Xz.rep w cs x L):
  Calls prog 80 #[.agg cs.toArray,.int .i64 a] w (YH (Xo x) a w):=by
 obtain ⟨A1,c1,L1,rfl,_hL,t0,t1,n1,m1,s1⟩:=h
 unfold maxLen at m1
 have S1:=yS s1
 clear s1
 have B0:Hid (Below w.heap.size w (w.alloc (.cells #[.int .i64 x.kind,.string x.rule,.string x.fact.rel,.slice A1 x.fact.args.length c1] 148))):=(Below.refl _ _).alloc (A0 _) _
 have K0:Hid (Blk (w.alloc (.cells #[.int .i64 x.kind,.string x.rule,.string x.fact.rel,.slice A1 x.fact.args.length c1] 148)) w.heap.size 148 #[.int .i64 x.kind,.string x.rule,.string x.fact.rel,.slice A1 x.fact.args.length c1]):=Blk.new _ _ _
 go_enter func80,ntmps80
 by_cases k1:(x.rule.size:Int)<=a
 rotate_left
 .go_wp2_with fail
  go_ret
  exact ⟨ZJ (by rw [Zn (by simp only[Xo];omega)]),B0.out⟩
 go_wp2_with fail
 refine (ZfR [.string x.fact.rel,.slice A1 x.fact.args.length c1] x.fact _ _ _ yE yE ⟨A1,c1,L1,rfl,rfl,t1,n1,(by unfold maxLen;omega),S1.out.below B0.out⟩).mono ?_
 rintro e w1 ⟨rfl,b⟩
 have B1:=yS (B0.out.trans (b.mono B0.out.size))
 have K1:=yS (K0.out.later b)
 obtain ⟨f0,f1,f2,f3⟩:=K1.out.at4
 clear b
 by_cases k2:((YL x.fact:Nat):Int)<=a - x.rule.size
 rotate_left
 .rw [Zn k2]
  go_wp2_with fail
  go_ret
  exact ⟨ZJ (by rw [Zn (by simp only[Xo];omega)]),B1.out⟩
 rw [ZC k2]
 go_wp2_with fail
 go_ret
 exact ⟨ZJ (by rw [ZC (by simp only[Xo];omega)]<;>simp only[Xo]<;>omega),B1.out⟩
theorem Zpn (A:Option Addr) (n c:Nat) (ds:List Y3) (L:List Nat) (a:Int) (w:World) (hn:n=ds.length) (hm:n<=9223372036854775807) (h0:0<=a) (h1:a<=1048576) (h:Sli Xz w A ds L):
  Calls prog 28 #[.slice A n c,.int .i64 a] w (YH (QC ds) a w):=by
 have H:=yS h
 have HN:=yS hn
 clear h hn
 by_cases hlen:(n:Int)<=a
 .go_enter func28,ntmps28
  go_wp2
  go_loopw [1,5] (fun q i wr=>∃(k:Nat) (l:Int),k<=n/\i=.int .i64 k/\q=.int .i64 l/\0<=l/\l<=a/\Hid (Below w.heap.size w wr)/\Hid (szR ((ds.drop k).map Xo).sum l=szR (QC ds) a)) (fun _ i _=>n - (intOf i).toNat)
  case atStart=>exact ⟨0,a - n,AA _,rfl,rfl,yE,yE,Below.refl _ _,yS (by
    have e:=HN.out
    exact Yf _ _ _ _ yE (by simp only[QC,AE];omega))⟩
  case round=>
   obtain ⟨k,l,hk,rfl,rfl,j,hl1,HB,HE⟩:=hrel
   by_cases hlt:k<n
   .have o:k<ds.length:=by have:=HN.out;omega
    obtain ⟨b,off,cs,Lk,rfl,t,u,d,hc⟩:=H.out.at_ o
    have g:b<w.heap.size:=H.out.lt b t
    have HR:=yS (Xz.keep d (Zo HB.out (fun y m=>H.out.lt y (u y m))))
    obtain ⟨A1,c1,rfl⟩:=ZbF d
    have q0:wr.cell? ⟨b,off+k*4,none⟩=_:=(HB.out.cell (p:=⟨b,off+(k*4+0),none⟩) g).trans (hc 0 _ rfl)
    have q1:wr.cell? ⟨b,off+k*4+1,none⟩=_:=(HB.out.cell (p:=⟨b,off+(k*4+1),none⟩) g).trans (hc 1 _ rfl)
    have q2:wr.cell? ⟨b,off+k*4+2,none⟩=_:=(HB.out.cell (p:=⟨b,off+(k*4+2),none⟩) g).trans (hc 2 _ rfl)
    have q3:wr.cell? ⟨b,off+k*4+3,none⟩=_:=(HB.out.cell (p:=⟨b,off+(k*4+3),none⟩) g).trans (hc 3 _ rfl)
    have hd:Hid (ds.drop k=ds[k]::ds.drop (k+1)):=AC _
    generalize ds[k]=x at *
    clear hc d
    by_cases hs:(Xo x:Int)<=l
    .go_wp2_with (go_at_call 80;refine (Zkt _ x Lk _ _ yE yE HR.out).mono ?_;rintro e w1 ⟨rfl,f⟩;rw [ZC hs];have HB1:=yS (HB.out.trans (f.mono HB.out.size));clear f)
     go_roundw
     case rel=>exact ⟨k+1,l - Xo x,yE,by go_num,rfl,yE,yE,HB1.out,yS (by rw [<-HE.out,hd.out];exact Yf _ _ _ _ yE yG)⟩
     case measure=>simp [intOf];omega
    .go_wp2_with (go_at_call 80;refine (Zkt _ x Lk _ _ yE yE HR.out).mono ?_;rintro e w1 ⟨rfl,f⟩;rw [Zn hs];have HB1:=yS (HB.out.trans (f.mono HB.out.size));clear f)
     go_ret
     exact ⟨ZJ (by rw [<-HE.out,hd.out,Zn (by simp;omega)]),HB1.out⟩
   .go_wp2
    go_ret
    exact ⟨ZJ (by rw [<-HE.out,AD (by have:=HN.out;omega)];simp [szR,j]),HB.out⟩
 .go_enter func28,ntmps28
  go_wp2
  go_ret
  exact ⟨ZJ (by rw [Zn (by have:=HN.out;simp only[QC];omega)]),Below.refl _ _⟩
theorem Zo4 (cs:List Value) (x:Yq) (L:List Nat) (a:Int) (w:World) (h0:0<=a) (h1:a<=1048576) (h:ZeO.rep w cs x L):
  Calls prog 9 #[.agg cs.toArray,.int .i64 a] w (YH (YP x) a w):=by
 obtain ⟨A1,c1,L1,A2,c2,L2,A3,c3,L3,A4,c4,L4,rfl,_hL,n1,m1,s1,n2,m2,s2,n3,m3,s3,n4,m4,s4⟩:=h
 unfold maxLen at m1 m2 m3 m4
 have S1:=yS s1
 clear s1
 have S2:=yS s2
 clear s2
 have S3:=yS s3
 clear s3
 have S4:=yS s4
 clear s4
 have B0:Hid (Below w.heap.size w (w.alloc (.cells #[.slice A1 x.rules.length c1,.slice A2 x.memory.length c2,.int .i64 x.clock,.slice A3 x.fired.length c3,.bool x.halted,.slice A4 x.log.length c4] 27))):=(Below.refl _ _).alloc (A0 _) _
 have K0:Hid (Blk (w.alloc (.cells #[.slice A1 x.rules.length c1,.slice A2 x.memory.length c2,.int .i64 x.clock,.slice A3 x.fired.length c3,.bool x.halted,.slice A4 x.log.length c4] 27)) w.heap.size 27 #[.slice A1 x.rules.length c1,.slice A2 x.memory.length c2,.int .i64 x.clock,.slice A3 x.fired.length c3,.bool x.halted,.slice A4 x.log.length c4]):=Blk.new _ _ _
 go_enter func9,ntmps9
 go_wp2_with fail
 refine (Zkn A1 _ c1 x.rules L1 _ _ rfl yE yE yE (S1.out.below B0.out)).mono ?_
 rintro e w1 ⟨rfl,b⟩
 have B1:=yS (B0.out.trans (b.mono B0.out.size))
 have K1:=yS (K0.out.later b)
 obtain ⟨f0,f1,f2,f3,f4,f5⟩:=K1.out.at6
 clear b
 by_cases k1:((Yi x.rules:Nat):Int)<=a
 rotate_left
 .rw [Zn k1]
  go_wp2_with fail
  go_ret
  exact ⟨ZJ (by rw [Zn (by simp only[YP];omega)]),B1.out⟩
 rw [ZC k1]
 go_wp2_with fail
 refine (Zpa A2 _ c2 x.memory L2 _ _ rfl yE yE yE (S2.out.below B1.out)).mono ?_
 rintro e w2 ⟨rfl,c⟩
 have B2:=yS (B1.out.trans (c.mono B1.out.size))
 have K2:=yS (K1.out.later c)
 clear f0 f1 f2 f3 f4 f5
 obtain ⟨f0,f1,f2,f3,f4,f5⟩:=K2.out.at6
 clear c
 by_cases k2:((Y5 x.memory:Nat):Int)<=a - (Yi x.rules:Nat)
 rotate_left
 .rw [Zn k2]
  go_wp2_with fail
  go_ret
  exact ⟨ZJ (by rw [Zn (by simp only[YP];omega)]),B2.out⟩
 rw [ZC k2]
 go_wp2_with fail
 refine (Zm9 A3 _ c3 x.fired L3 _ _ rfl yE yE yE (S3.out.below B2.out)).mono ?_
 rintro e w3 ⟨rfl,d⟩
 have B3:=yS (B2.out.trans (d.mono B2.out.size))
 have K3:=yS (K2.out.later d)
 clear f0 f1 f2 f3 f4 f5
 obtain ⟨f0,f1,f2,f3,f4,f5⟩:=K3.out.at6
 clear d
 by_cases k3:((Xk x.fired:Nat):Int)<=a - (Yi x.rules:Nat) - (Y5 x.memory:Nat)
 rotate_left
 .rw [Zn k3]
  go_wp2_with fail
  go_ret
  exact ⟨ZJ (by rw [Zn (by simp only[YP];omega)]),B3.out⟩
 rw [ZC k3]
 go_wp2_with fail
 refine (Zpn A4 _ c4 x.log L4 _ _ rfl yE yE yE (S4.out.below B3.out)).mono ?_
 rintro e w4 ⟨rfl,f⟩
 have B4:=yS (B3.out.trans (f.mono B3.out.size))
 have K4:=yS (K3.out.later f)
 clear f0 f1 f2 f3 f4 f5
 obtain ⟨f0,f1,f2,f3,f4,f5⟩:=K4.out.at6
 clear f
 by_cases k4:((QC x.log:Nat):Int)<=a - (Yi x.rules:Nat) - (Y5 x.memory:Nat) - (Xk x.fired:Nat)
 rotate_left
 .rw [Zn k4]
  go_wp2_with fail
  go_ret
  exact ⟨ZJ (by rw [Zn (by simp only[YP];omega)]),B4.out⟩
 rw [ZC k4]
 go_wp2_with fail
 go_ret
 exact ⟨ZJ (by rw [ZC (by simp only[YP];omega)]<;>simp only[YP]<;>omega),B4.out⟩
theorem Zsy (cs:List Value) (x:ZaQ) (L:List Nat) (a:Int) (w:World) (h0:0<=a) (h1:a<=1048576) (h:ZbQ.rep w cs x L):
  Calls prog 4 #[.agg cs.toArray,.int .i64 a] w (YH (Qf x) a w):=by
 obtain ⟨A1,c1,L1,A2,c2,L2,A3,c3,L3,A4,c4,L4,A5,c5,L5,A6,c6,L6,A7,c7,L7,A8,c8,L8,A9,c9,L9,rfl,_hL,n1,m1,s1,n2,m2,s2,n3,m3,s3,n4,m4,s4,n5,m5,s5,n6,m6,s6,n7,m7,s7,n8,m8,s8,n9,m9,s9⟩:=h
 unfold maxLen at m1 m2 m3 m4 m5 m6 m7 m8 m9
 have S1:=yS s1
 clear s1
 have S2:=yS s2
 clear s2
 have S3:=yS s3
 clear s3
 have S4:=yS s4
 clear s4
 have S5:=yS s5
 clear s5
 have S6:=yS s6
 clear s6
 have S7:=yS s7
 clear s7
 have S8:=yS s8
 clear s8
 have S9:=yS s9
 clear s9
 have B0:Hid (Below w.heap.size w (w.alloc (.cells #[.slice A1 x.engine.rules.length c1,.slice A2 x.engine.memory.length c2,.int .i64 x.engine.clock,.slice A3 x.engine.fired.length c3,.bool x.engine.halted,.slice A4 x.engine.log.length c4,.slice A5 x.network.rules.length c5,.slice A6 x.network.ends.length c6,.slice A7 x.network.alphas.length c7,.slice A8 x.network.nodes.length c8,.slice A9 x.network.facts.length c9,.int .i64 x.network.tries] 35))):=(Below.refl _ _).alloc (A0 _) _
 have K0:Hid (Blk (w.alloc (.cells #[.slice A1 x.engine.rules.length c1,.slice A2 x.engine.memory.length c2,.int .i64 x.engine.clock,.slice A3 x.engine.fired.length c3,.bool x.engine.halted,.slice A4 x.engine.log.length c4,.slice A5 x.network.rules.length c5,.slice A6 x.network.ends.length c6,.slice A7 x.network.alphas.length c7,.slice A8 x.network.nodes.length c8,.slice A9 x.network.facts.length c9,.int .i64 x.network.tries] 35)) w.heap.size 35 #[.slice A1 x.engine.rules.length c1,.slice A2 x.engine.memory.length c2,.int .i64 x.engine.clock,.slice A3 x.engine.fired.length c3,.bool x.engine.halted,.slice A4 x.engine.log.length c4,.slice A5 x.network.rules.length c5,.slice A6 x.network.ends.length c6,.slice A7 x.network.alphas.length c7,.slice A8 x.network.nodes.length c8,.slice A9 x.network.facts.length c9,.int .i64 x.network.tries]):=Blk.new _ _ _
 go_enter func4,ntmps4
 go_wp2_with fail
 refine (Zo4 [.slice A1 x.engine.rules.length c1,.slice A2 x.engine.memory.length c2,.int .i64 x.engine.clock,.slice A3 x.engine.fired.length c3,.bool x.engine.halted,.slice A4 x.engine.log.length c4] x.engine _ _ _ yE yE ⟨A1,c1,L1,A2,c2,L2,A3,c3,L3,A4,c4,L4,rfl,rfl,n1,(by unfold maxLen;omega),S1.out.below B0.out,n2,(by unfold maxLen;omega),S2.out.below B0.out,n3,(by unfold maxLen;omega),S3.out.below B0.out,n4,(by unfold maxLen;omega),S4.out.below B0.out⟩).mono ?_
 rintro e w1 ⟨rfl,b⟩
 have B1:=yS (B0.out.trans (b.mono B0.out.size))
 have K1:=yS (K0.out.later b)
 obtain ⟨f0,f1,f2,f3,f4,f5,f6,f7,f8,f9,d,f⟩:=K1.out.at12
 clear b
 by_cases k1:((YP x.engine:Nat):Int)<=a
 rotate_left
 .rw [Zn k1]
  go_wp2_with fail
  go_ret
  exact ⟨ZJ (by rw [Zn (by simp only[Qf];omega)]),B1.out⟩
 rw [ZC k1]
 go_wp2_with fail
 refine (ZnA [.slice A5 x.network.rules.length c5,.slice A6 x.network.ends.length c6,.slice A7 x.network.alphas.length c7,.slice A8 x.network.nodes.length c8,.slice A9 x.network.facts.length c9,.int .i64 x.network.tries] x.network _ _ _ yE yE ⟨A5,c5,L5,A6,c6,L6,A7,c7,L7,A8,c8,L8,A9,c9,L9,rfl,rfl,n5,(by unfold maxLen;omega),S5.out.below B1.out,n6,(by unfold maxLen;omega),S6.out.below B1.out,n7,(by unfold maxLen;omega),S7.out.below B1.out,n8,(by unfold maxLen;omega),S8.out.below B1.out,n9,(by unfold maxLen;omega),S9.out.below B1.out⟩).mono ?_
 rintro e w2 ⟨rfl,c⟩
 have B2:=yS (B1.out.trans (c.mono B1.out.size))
 have K2:=yS (K1.out.later c)
 clear f0 f1 f2 f3 f4 f5 f6 f7 f8 f9 d f
 obtain ⟨f0,f1,f2,f3,f4,f5,f6,f7,f8,f9,d,f⟩:=K2.out.at12
 clear c
 by_cases k2:((Yw x.network:Nat):Int)<=a - (YP x.engine:Nat)
 rotate_left
 .rw [Zn k2]
  go_wp2_with fail
  go_ret
  exact ⟨ZJ (by rw [Zn (by simp only[Qf];omega)]),B2.out⟩
 rw [ZC k2]
 go_wp2_with fail
 go_ret
 exact ⟨ZJ (by rw [ZC (by simp only[Qf];omega)]<;>simp only[Qf]<;>omega),B2.out⟩
end
section
open Go.RowKit
theorem infoString_:(prog.info? 9).map (fun i=>(i.zero,i.size,i.bytes))=some (some (.string ⟨#[]⟩),1,16):=yO
theorem ZhT (A:Option Addr) (n c:Nat) (ds:List ByteArray) (L:List Nat) (w:World) (hn:n=ds.length) (hm:ds.length<=1099511627776) (h:Sli Zeu w A ds L):
  Calls prog 162 #[.slice A n c] w (Zbg Zeu 9 w ds):=by
 obtain ⟨i0,hi,g,l,m⟩:=info_parts infoString_
 rw [<-hn]at hm
 have H:=yS h
 have HN:=yS hn
 clear h hn
 go_enter func162,ntmps162
 go_wp2_with (at_make;refine wpList_make_full _ rfl _ _ 81 rfl w.heap.size 9 i0 _ 1 underlying81 hi g l .i64 .i64 _ _ n rfl rfl rfl rfl (by rw [m];omega) (by unfold maxLen;omega) (A0 _) ?_;intro w1 a hg)
 have hb:Below w.heap.size w w1:=(Below.refl _ _).grown hg (A0 _) yG
 have HF0:Hid (ZG Zeu 9 w n ds 0 w1):=ZG.start a hb
 clear a hg hb
 go_wp2
 go_loopw [4] (fun i wr=>∃(k:Nat),k<=n/\i=.int .i64 k/\Hid (ZG Zeu 9 w n ds k wr)) (fun i _=>n - (intOf i).toNat)
 case atStart=>exact ⟨0,AA _,rfl,HF0⟩
 case round=>
  obtain ⟨k,hk,rfl,HF⟩:=hrel
  by_cases f:k<n
  .have o:k<ds.length:=by have:=HN.out;omega
   obtain ⟨b,off,cs,Lk,rfl,q,hLk,d,hc⟩:=H.out.at_ o
   have t:b<w.heap.size:=H.out.lt b q
   have e:=d
   obtain ⟨rfl,_,u⟩:=e
   have q0:=(HF.out.below.cell (p:=⟨b,off+(k*Zeu.size+0),none⟩) t).trans (hc 0 _ rfl)
   have HS:=yS (HF.out.store (w2:=wr) (x:=ds[k]) (M:=[]) f HN.out (fun _=>rfl) (Below.refl _ _) ⟨⟨rfl,rfl,u⟩,Own.nil _ _⟩)
   obtain ⟨d0,e0⟩:=HF.out.cell f (j:=0) yF
   have z0:=HF.out.frozen k
   simp only[show Zeu.size=1 from rfl,AF,AG]at q0 HS e0
   generalize ds[k]=x at *
   clear hc d
   go_wp2_with fail
   go_roundw
   case rel=>exact ⟨k+1,yE,by go_num,HS.out⟩
   case measure=>simp [intOf];omega
  .obtain rfl:k=n:=by omega
   go_wp2
   go_ret
   exact ⟨_,rfl,HF.out.done HN.out⟩
theorem infoInt_:(prog.info? 3).map (fun i=>(i.zero,i.size,i.bytes))=some (some (.int .i64 0),1,8):=yO
theorem ZmG (A:Option Addr) (n c:Nat) (ds:List Int) (L:List Nat) (w:World) (hn:n=ds.length) (hm:ds.length<=1099511627776) (h:Sli ZgI w A ds L):
  Calls prog 54 #[.slice A n c] w (Zbg ZgI 3 w ds):=by
 obtain ⟨i0,hi,g,l,m⟩:=info_parts infoInt_
 rw [<-hn]at hm
 have H:=yS h
 have HN:=yS hn
 clear h hn
 go_enter func54,ntmps54
 go_wp2_with (at_make;refine wpList_make_full _ rfl _ _ 28 rfl w.heap.size 3 i0 _ 1 underlying28 hi g l .i64 .i64 _ _ n rfl rfl rfl rfl (by rw [m];omega) (by unfold maxLen;omega) (A0 _) ?_;intro w1 a hg)
 have hb:Below w.heap.size w w1:=(Below.refl _ _).grown hg (A0 _) yG
 have HF0:Hid (ZG ZgI 3 w n ds 0 w1):=ZG.start a hb
 clear a hg hb
 go_wp2
 go_loopw [4] (fun i wr=>∃(k:Nat),k<=n/\i=.int .i64 k/\Hid (ZG ZgI 3 w n ds k wr)) (fun i _=>n - (intOf i).toNat)
 case atStart=>exact ⟨0,AA _,rfl,HF0⟩
 case round=>
  obtain ⟨k,hk,rfl,HF⟩:=hrel
  by_cases f:k<n
  .have o:k<ds.length:=by have:=HN.out;omega
   obtain ⟨b,off,cs,Lk,rfl,q,hLk,d,hc⟩:=H.out.at_ o
   have t:b<w.heap.size:=H.out.lt b q
   have e:=d
   obtain ⟨rfl,_⟩:=e
   have q0:=(HF.out.below.cell (p:=⟨b,off+(k*ZgI.size+0),none⟩) t).trans (hc 0 _ rfl)
   have HS:=yS (HF.out.store (w2:=wr) (x:=ds[k]) (M:=[]) f HN.out (fun _=>rfl) (Below.refl _ _) ⟨⟨rfl,rfl⟩,Own.nil _ _⟩)
   obtain ⟨d0,e0⟩:=HF.out.cell f (j:=0) yF
   have z0:=HF.out.frozen k
   simp only[show ZgI.size=1 from rfl,AF,AG]at q0 HS e0
   generalize ds[k]=x at *
   clear hc d
   go_wp2_with fail
   go_roundw
   case rel=>exact ⟨k+1,yE,by go_num,HS.out⟩
   case measure=>simp [intOf];omega
  .obtain rfl:k=n:=by omega
   go_wp2
   go_ret
   exact ⟨_,rfl,HF.out.done HN.out⟩
theorem Zid (cs:List Value) (x:Zk) (L:List Nat) (w:World) (hz:YL x<=1048576) (h:Yh.rep w cs x L):
  Calls prog 106 #[.agg cs.toArray] w (ZcM Yh w x):=by
 obtain ⟨A1,c1,L1,rfl,_hL,t0,n1,m1,s1⟩:=h
 unfold maxLen at m1
 have S1:=yS s1
 clear s1
 simp only[YL]at hz
 go_enter func106,ntmps106
 go_wp2_with fail
 refine (ZhT A1 _ c1 x.args L1 _ rfl (by simp only[XU]at hz;omega) (S1.out.below yI)).mono ?_
 rintro e w1 ⟨v1,rfl,a1⟩
 obtain ⟨c,d,rfl⟩:=a1.shape
 have a:=a1.below
 obtain ⟨M1,g1⟩:=a1.got
 clear a1
 have G1:=yS (g1.mono (show w.heap.size+3<=_ by simp))
 have lt1:=yS g1.lt
 clear g1
 have B1:Hid (Below w.heap.size w w1):=Below.trans yI (a.mono yK)
 have K0:Hid (Blk w1 w.heap.size 141 #[.string x.rel,.slice A1 x.args.length c1]):=Blk.later (Blk.alloc (Blk.alloc (Blk.new _ _ _) _) _) a
 have K1:Hid (Blk w1 (w.heap.size+1) 83 #[.string ⟨#[]⟩,.slice none 0 0]):=Blk.later (Blk.alloc (Blk.new_at yG) _) a
 have K2:Hid (Blk w1 (w.heap.size+1+1) 83 #[.string x.rel,.slice none 0 0]):=Blk.later (Blk.new_at yG) a
 obtain ⟨f0,f1⟩:=K0.out.at2
 obtain ⟨r0,r1⟩:=K1.out.at2
 obtain ⟨o0,o1⟩:=K2.out.at2
 obtain ⟨rz0,rz1⟩:=K1.out.fr2
 obtain ⟨oz0,oz1⟩:=K2.out.fr2
 have hz1:w.heap.size+2<w1.heap.size:=by have:=a.size;simp at this;omega
 clear a
 go_wp2_with fail
 refine bodyPost_ret (v:=.agg #[.string x.rel,.slice c x.args.length d]) (by simp [results,results106,go_sem,r0,r1]) rfl ?_
 obtain ⟨f,g,i⟩:=ZZ G1.out.rep
 exact XT (wr:=w1) (M1) ⟨⟨c,d,M1,rfl,rfl,t0,f,g,i⟩,by have o:=G1.out.own;simpa only [AB]using o⟩ (by intro b hb;repeat rw [Below.heap_setCell _ _ _ _ (by dsimp only;omega)]) (by repeat (first|refine Below.setCell ?_ (by dsimp only;omega) _|refine Below.alloc ?_ yK _|exact B1.out))
theorem infoFact:(prog.info? 83).map (fun i=>(i.zero,i.size,i.bytes))=some (some (.agg #[.string ⟨#[]⟩,.slice none 0 0]),2,40):=yO
theorem ZgD (A:Option Addr) (n c:Nat) (ds:List Zk) (L:List Nat) (w:World) (hn:n=ds.length) (hz:YQ ds<=1048576) (h:Sli Yh w A ds L):
  Calls prog 57 #[.slice A n c] w (Zbg Yh 83 w ds):=by
 obtain ⟨i0,hi,u,v,z⟩:=info_parts infoFact
 have H:=yS h
 have HN:=yS hn
 have hm:n<=1048576:=by simp only[YQ]at hz;omega
 have HZ:=yS hz
 clear h hn hz
 go_enter func57,ntmps57
 go_wp2_with (at_make;refine wpList_make_full _ rfl _ _ 46 rfl w.heap.size 83 i0 _ 2 underlying46 hi u v .i64 .i64 _ _ n rfl rfl rfl rfl (by rw [z];omega) (by unfold maxLen;omega) (A0 _) ?_;intro w1 f hg)
 have hb:Below w.heap.size w w1:=(Below.refl _ _).grown hg (A0 _) yG
 have HF0:Hid (ZG Yh 83 w n ds 0 w1):=ZG.start f hb
 clear f hg hb
 go_wp2
 go_loopw [4] (fun i wr=>∃(k:Nat),k<=n/\i=.int .i64 k/\Hid (ZG Yh 83 w n ds k wr)) (fun i _=>n - (intOf i).toNat)
 case atStart=>exact ⟨0,AA _,rfl,HF0⟩
 case round=>
  obtain ⟨k,hk,rfl,HF⟩:=hrel
  by_cases g:k<n
  .have o:k<ds.length:=by have:=HN.out;omega
   obtain ⟨b,off,cs,Lk,rfl,B,C,a,hc⟩:=H.out.at_ o
   have q:b<w.heap.size:=H.out.lt b B
   have HR:=yS (Yh.keep a (Zo HF.out.below (fun y m=>H.out.lt y (C y m))))
   obtain ⟨A1,c1,rfl⟩:=Zaz a
   have q0:wr.cell? ⟨b,off+k*2,none⟩=_:=(HF.out.below.cell (p:=⟨b,off+(k*2+0),none⟩) q).trans (hc 0 _ rfl)
   have q1:wr.cell? ⟨b,off+k*2+1,none⟩=_:=(HF.out.below.cell (p:=⟨b,off+(k*2+1),none⟩) q).trans (hc 1 _ rfl)
   have t:Hid (YL ds[k]<=1048576):=Zb0 YL ds k o (by have:=HZ.out;simp only[YQ]at this;omega)
   obtain ⟨x,hx⟩:∃x,x=ds[k]:=⟨_,rfl⟩
   have HX:=yS hx
   rw [<-hx]at HR q0 q1 t
   clear hc a hx
   go_wp2_with fail
   refine (Zid _ x Lk _ t.out HR.out).mono ?_
   rintro e w2 ⟨cs2,M2,rfl,g2,l⟩
   have HF2:=yS (HF.out.later l)
   have HS:=yS (HF.out.store g HN.out (fun _=>HX.out) l g2)
   obtain ⟨vA1,vc1,rfl⟩:=Zaz g2.rep
   clear g2 l
   obtain ⟨d0,e0⟩:∃d,w2.cell? ⟨w.heap.size,k*2,none⟩=some d:=HF2.out.cell g (j:=0) yF
   have z0:=HF2.out.frozen (k*2)
   obtain ⟨d1,e1⟩:∃d,w2.cell? ⟨w.heap.size,k*2+1,none⟩=some d:=HF2.out.cell g (j:=1) yF
   have z1:=HF2.out.frozen (k*2+1)
   go_wp2_with fail
   go_roundw
   case rel=>exact ⟨k+1,yE,by go_num,HS.out⟩
   case measure=>simp [intOf];omega
  .obtain rfl:k=n:=by omega
   go_wp2
   go_ret
   exact ⟨_,rfl,HF.out.done HN.out⟩
theorem Ze1 (cs:List Value) (x:Zj) (L:List Nat) (w:World) (hz:Z1 x<=1048576) (h:XP.rep w cs x L):
  Calls prog 159 #[.agg cs.toArray] w (ZcM XP w x):=by
 obtain ⟨A1,c1,L1,rfl,_hL,t0,n1,m1,s1⟩:=h
 unfold maxLen at m1
 have S1:=yS s1
 clear s1
 simp only[Z1]at hz
 go_enter func159,ntmps159
 go_wp2_with fail
 refine (ZhT A1 _ c1 x.args L1 _ rfl (by simp only[XU]at hz;omega) (S1.out.below yI)).mono ?_
 rintro e w1 ⟨v1,rfl,a1⟩
 obtain ⟨c,d,rfl⟩:=a1.shape
 have a:=a1.below
 obtain ⟨M1,g1⟩:=a1.got
 clear a1
 have G1:=yS (g1.mono (show w.heap.size+3<=_ by simp))
 have lt1:=yS g1.lt
 clear g1
 have B1:Hid (Below w.heap.size w w1):=Below.trans yI (a.mono yK)
 have K0:Hid (Blk w1 w.heap.size 150 #[.string x.rel,.slice A1 x.args.length c1]):=Blk.later (Blk.alloc (Blk.alloc (Blk.new _ _ _) _) _) a
 have K1:Hid (Blk w1 (w.heap.size+1) 101 #[.string ⟨#[]⟩,.slice none 0 0]):=Blk.later (Blk.alloc (Blk.new_at yG) _) a
 have K2:Hid (Blk w1 (w.heap.size+1+1) 101 #[.string x.rel,.slice none 0 0]):=Blk.later (Blk.new_at yG) a
 obtain ⟨f0,f1⟩:=K0.out.at2
 obtain ⟨r0,r1⟩:=K1.out.at2
 obtain ⟨o0,o1⟩:=K2.out.at2
 obtain ⟨rz0,rz1⟩:=K1.out.fr2
 obtain ⟨oz0,oz1⟩:=K2.out.fr2
 have hz1:w.heap.size+2<w1.heap.size:=by have:=a.size;simp at this;omega
 clear a
 go_wp2_with fail
 refine bodyPost_ret (v:=.agg #[.string x.rel,.slice c x.args.length d]) (by simp [results,results159,go_sem,r0,r1]) rfl ?_
 obtain ⟨f,g,i⟩:=ZZ G1.out.rep
 exact XT (wr:=w1) (M1) ⟨⟨c,d,M1,rfl,rfl,t0,f,g,i⟩,by have o:=G1.out.own;simpa only [AB]using o⟩ (by intro b hb;repeat rw [Below.heap_setCell _ _ _ _ (by dsimp only;omega)]) (by repeat (first|refine Below.setCell ?_ (by dsimp only;omega) _|refine Below.alloc ?_ yK _|exact B1.out))
theorem ZsV (cs:List Value) (x:Zg) (L:List Nat) (w:World) (hz:Qe x<=1048576) (h:XA.rep w cs x L):
  Calls prog 241 #[.agg cs.toArray] w (ZcM XA w x):=by
 obtain ⟨rfl,_hL,t0,t1⟩:=h
 simp only[Qe]at hz
 go_enter func241,ntmps241
 go_wp2_with fail
 refine bodyPost_ret (v:=.agg #[.string x.var,.string x.value]) (by simp [results,results241,go_sem]) rfl ?_
 exact ⟨_,[],rfl,⟨⟨rfl,rfl,t0,t1⟩,Own.nil _ _⟩,yI⟩
theorem infoPair:(prog.info? 218).map (fun i=>(i.zero,i.size,i.bytes))=some (some (.agg #[.string ⟨#[]⟩,.string ⟨#[]⟩]),2,32):=yO
theorem ZqH (A:Option Addr) (n c:Nat) (ds:List Zg) (L:List Nat) (w:World) (hn:n=ds.length) (hz:ZaI ds<=1048576) (h:Sli XA w A ds L):
  Calls prog 225 #[.slice A n c] w (Zbg XA 218 w ds):=by
 obtain ⟨i0,hi,u,v,z⟩:=info_parts infoPair
 have H:=yS h
 have HN:=yS hn
 have hm:n<=1048576:=by simp only[ZaI]at hz;omega
 have HZ:=yS hz
 clear h hn hz
 go_enter func225,ntmps225
 go_wp2_with (at_make;refine wpList_make_full _ rfl _ _ 90 rfl w.heap.size 218 i0 _ 2 underlying90 hi u v .i64 .i64 _ _ n rfl rfl rfl rfl (by rw [z];omega) (by unfold maxLen;omega) (A0 _) ?_;intro w1 f hg)
 have hb:Below w.heap.size w w1:=(Below.refl _ _).grown hg (A0 _) yG
 have HF0:Hid (ZG XA 218 w n ds 0 w1):=ZG.start f hb
 clear f hg hb
 go_wp2
 go_loopw [4] (fun i wr=>∃(k:Nat),k<=n/\i=.int .i64 k/\Hid (ZG XA 218 w n ds k wr)) (fun i _=>n - (intOf i).toNat)
 case atStart=>exact ⟨0,AA _,rfl,HF0⟩
 case round=>
  obtain ⟨k,hk,rfl,HF⟩:=hrel
  by_cases g:k<n
  .have o:k<ds.length:=by have:=HN.out;omega
   obtain ⟨b,off,cs,Lk,rfl,B,C,a,hc⟩:=H.out.at_ o
   have q:b<w.heap.size:=H.out.lt b B
   have HR:=yS (XA.keep a (Zo HF.out.below (fun y m=>H.out.lt y (C y m))))
   obtain rfl:=Zc0 a
   have q0:wr.cell? ⟨b,off+k*2,none⟩=_:=(HF.out.below.cell (p:=⟨b,off+(k*2+0),none⟩) q).trans (hc 0 _ rfl)
   have q1:wr.cell? ⟨b,off+k*2+1,none⟩=_:=(HF.out.below.cell (p:=⟨b,off+(k*2+1),none⟩) q).trans (hc 1 _ rfl)
   have t:Hid (Qe ds[k]<=1048576):=Zb0 Qe ds k o (by have:=HZ.out;simp only[ZaI]at this;omega)
   obtain ⟨x,hx⟩:∃x,x=ds[k]:=⟨_,rfl⟩
   have HX:=yS hx
   rw [<-hx]at HR q0 q1 t
   clear hc a hx
   go_wp2_with fail
   refine (ZsV _ x Lk _ t.out HR.out).mono ?_
   rintro e w2 ⟨cs2,M2,rfl,g2,l⟩
   have HF2:=yS (HF.out.later l)
   have HS:=yS (HF.out.store g HN.out (fun _=>HX.out) l g2)
   obtain rfl:=Zc0 g2.rep
   clear g2 l
   obtain ⟨d0,e0⟩:∃d,w2.cell? ⟨w.heap.size,k*2,none⟩=some d:=HF2.out.cell g (j:=0) yF
   have z0:=HF2.out.frozen (k*2)
   obtain ⟨d1,e1⟩:∃d,w2.cell? ⟨w.heap.size,k*2+1,none⟩=some d:=HF2.out.cell g (j:=1) yF
   have z1:=HF2.out.frozen (k*2+1)
   go_wp2_with fail
   go_roundw
   case rel=>exact ⟨k+1,yE,by go_num,HS.out⟩
   case measure=>simp [intOf];omega
  .obtain rfl:k=n:=by omega
   go_wp2
   go_ret
   exact ⟨_,rfl,HF.out.done HN.out⟩
theorem Zl1 (cs:List Value) (x:Zf) (L:List Nat) (w:World) (hz:Yo x<=1048576) (h:X6.rep w cs x L):
  Calls prog 160 #[.agg cs.toArray] w (ZcM X6 w x):=by
 obtain ⟨A1,c1,L1,rfl,_hL,t0,t1,t2,n1,m1,s1⟩:=h
 unfold maxLen at m1
 have S1:=yS s1
 clear s1
 simp only[Yo]at hz
 go_enter func160,ntmps160
 go_wp2_with fail
 refine (Ze1 [.string x.pattern.rel,.slice A1 x.pattern.args.length c1] x.pattern _ _ yE ⟨A1,c1,L1,rfl,rfl,t0,n1,(by unfold maxLen;omega),S1.out.below yI⟩).mono ?_
 rintro e w1 ⟨cs1,M1,rfl,g1,a⟩
 obtain ⟨c,d,rfl⟩:=ZdP g1.rep
 have G1:=yS (g1.mono (show w.heap.size+3<=_ by simp))
 have lt1:=yS g1.lt
 clear g1
 have B1:Hid (Below w.heap.size w w1):=Below.trans yI (a.mono yK)
 have K0:Hid (Blk w1 w.heap.size 155 #[.int .i64 x.kind,.string x.pattern.rel,.slice A1 x.pattern.args.length c1,.string x.left,.string x.right]):=Blk.later (Blk.alloc (Blk.alloc (Blk.new _ _ _) _) _) a
 have K1:Hid (Blk w1 (w.heap.size+1) 107 #[.int .i64 0,.string ⟨#[]⟩,.slice none 0 0,.string ⟨#[]⟩,.string ⟨#[]⟩]):=Blk.later (Blk.alloc (Blk.new_at yG) _) a
 have K2:Hid (Blk w1 (w.heap.size+1+1) 107 #[.int .i64 x.kind,.string ⟨#[]⟩,.slice none 0 0,.string ⟨#[]⟩,.string ⟨#[]⟩]):=Blk.later (Blk.new_at yG) a
 obtain ⟨f0,f1,f2,f3,f4⟩:=K0.out.at5
 obtain ⟨r0,r1,r2,r3,r4⟩:=K1.out.at5
 obtain ⟨o0,o1,o2,o3,o4⟩:=K2.out.at5
 obtain ⟨rz0,rz1,rz2,rz3,rz4⟩:=K1.out.fr5
 obtain ⟨oz0,oz1,oz2,oz3,oz4⟩:=K2.out.fr5
 have hz1:w.heap.size+2<w1.heap.size:=by have:=a.size;simp at this;omega
 clear a
 go_wp2_with fail
 refine bodyPost_ret (v:=.agg #[.int .i64 x.kind,.string x.pattern.rel,.slice c x.pattern.args.length d,.string x.left,.string x.right]) (by simp [results,results160,go_sem,r0,r1,r2,r3,r4]) rfl ?_
 obtain ⟨_,_,N1,f,g,_,i,j,k⟩:=G1.out.rep
 cases f
 subst g
 exact XT (wr:=w1) (M1) ⟨⟨c,d,M1,rfl,rfl,t0,t1,t2,i,j,k⟩,by have o:=G1.out.own;simpa only [AB]using o⟩ (by intro b hb;repeat rw [Below.heap_setCell _ _ _ _ (by dsimp only;omega)]) (by repeat (first|refine Below.setCell ?_ (by dsimp only;omega) _|refine Below.alloc ?_ yK _|exact B1.out))
theorem infoCond:(prog.info? 107).map (fun i=>(i.zero,i.size,i.bytes))=some (some (.agg #[.int .i64 0,.string ⟨#[]⟩,.slice none 0 0,.string ⟨#[]⟩,.string ⟨#[]⟩]),5,80):=yO
theorem ZrR (A:Option Addr) (n c:Nat) (ds:List Zf) (L:List Nat) (w:World) (hn:n=ds.length) (hz:Y1 ds<=1048576) (h:Sli X6 w A ds L):
  Calls prog 157 #[.slice A n c] w (Zbg X6 107 w ds):=by
 obtain ⟨i0,hi,u,v,z⟩:=info_parts infoCond
 have H:=yS h
 have HN:=yS hn
 have hm:n<=1048576:=by simp only[Y1]at hz;omega
 have HZ:=yS hz
 clear h hn hz
 go_enter func157,ntmps157
 go_wp2_with (at_make;refine wpList_make_full _ rfl _ _ 61 rfl w.heap.size 107 i0 _ 5 underlying61 hi u v .i64 .i64 _ _ n rfl rfl rfl rfl (by rw [z];omega) (by unfold maxLen;omega) (A0 _) ?_;intro w1 l hg)
 have hb:Below w.heap.size w w1:=(Below.refl _ _).grown hg (A0 _) yG
 have HF0:Hid (ZG X6 107 w n ds 0 w1):=ZG.start l hb
 clear l hg hb
 go_wp2
 go_loopw [4] (fun i wr=>∃(k:Nat),k<=n/\i=.int .i64 k/\Hid (ZG X6 107 w n ds k wr)) (fun i _=>n - (intOf i).toNat)
 case atStart=>exact ⟨0,AA _,rfl,HF0⟩
 case round=>
  obtain ⟨k,hk,rfl,HF⟩:=hrel
  by_cases a:k<n
  .have q:k<ds.length:=by have:=HN.out;omega
   obtain ⟨b,off,cs,Lk,rfl,B,C,f,hc⟩:=H.out.at_ q
   have g:b<w.heap.size:=H.out.lt b B
   have HR:=yS (X6.keep f (Zo HF.out.below (fun y m=>H.out.lt y (C y m))))
   obtain ⟨A1,c1,rfl⟩:=Zbu f
   have q0:wr.cell? ⟨b,off+k*5,none⟩=_:=(HF.out.below.cell (p:=⟨b,off+(k*5+0),none⟩) g).trans (hc 0 _ rfl)
   have q1:wr.cell? ⟨b,off+k*5+1,none⟩=_:=(HF.out.below.cell (p:=⟨b,off+(k*5+1),none⟩) g).trans (hc 1 _ rfl)
   have q2:wr.cell? ⟨b,off+k*5+2,none⟩=_:=(HF.out.below.cell (p:=⟨b,off+(k*5+2),none⟩) g).trans (hc 2 _ rfl)
   have q3:wr.cell? ⟨b,off+k*5+3,none⟩=_:=(HF.out.below.cell (p:=⟨b,off+(k*5+3),none⟩) g).trans (hc 3 _ rfl)
   have q4:wr.cell? ⟨b,off+k*5+4,none⟩=_:=(HF.out.below.cell (p:=⟨b,off+(k*5+4),none⟩) g).trans (hc 4 _ rfl)
   have t:Hid (Yo ds[k]<=1048576):=Zb0 Yo ds k q (by have:=HZ.out;simp only[Y1]at this;omega)
   obtain ⟨x,hx⟩:∃x,x=ds[k]:=⟨_,rfl⟩
   have HX:=yS hx
   rw [<-hx]at HR q0 q1 q2 q3 q4 t
   clear hc f hx
   go_wp2_with fail
   refine (Zl1 _ x Lk _ t.out HR.out).mono ?_
   rintro e w2 ⟨cs2,M2,rfl,g2,o⟩
   have HF2:=yS (HF.out.later o)
   have HS:=yS (HF.out.store a HN.out (fun _=>HX.out) o g2)
   obtain ⟨vA1,vc1,rfl⟩:=Zbu g2.rep
   clear g2 o
   obtain ⟨d0,e0⟩:∃d,w2.cell? ⟨w.heap.size,k*5,none⟩=some d:=HF2.out.cell a (j:=0) yF
   have z0:=HF2.out.frozen (k*5)
   obtain ⟨d1,e1⟩:∃d,w2.cell? ⟨w.heap.size,k*5+1,none⟩=some d:=HF2.out.cell a (j:=1) yF
   have z1:=HF2.out.frozen (k*5+1)
   obtain ⟨d2,e2⟩:∃d,w2.cell? ⟨w.heap.size,k*5+2,none⟩=some d:=HF2.out.cell a (j:=2) yF
   have z2:=HF2.out.frozen (k*5+2)
   obtain ⟨d3,e3⟩:∃d,w2.cell? ⟨w.heap.size,k*5+3,none⟩=some d:=HF2.out.cell a (j:=3) yF
   have z3:=HF2.out.frozen (k*5+3)
   obtain ⟨d4,e4⟩:∃d,w2.cell? ⟨w.heap.size,k*5+4,none⟩=some d:=HF2.out.cell a (j:=4) yF
   have z4:=HF2.out.frozen (k*5+4)
   go_wp2_with fail
   go_roundw
   case rel=>exact ⟨k+1,yE,by go_num,HS.out⟩
   case measure=>simp [intOf];omega
  .obtain rfl:k=n:=by omega
   go_wp2
   go_ret
   exact ⟨_,rfl,HF.out.done HN.out⟩
theorem ZpL (cs:List Value) (x:ZY) (L:List Nat) (w:World) (hz:YB x<=1048576) (h:YJ.rep w cs x L):
  Calls prog 201 #[.agg cs.toArray] w (ZcM YJ w x):=by
 obtain ⟨A1,c1,L1,rfl,_hL,t0,n1,m1,s1⟩:=h
 unfold maxLen at m1
 have S1:=yS s1
 clear s1
 simp only[YB]at hz
 go_enter func201,ntmps201
 go_wp2_with fail
 refine (Ze1 [.string x.pattern.rel,.slice A1 x.pattern.args.length c1] x.pattern _ _ yE ⟨A1,c1,L1,rfl,rfl,t0,n1,(by unfold maxLen;omega),S1.out.below yI⟩).mono ?_
 rintro e w1 ⟨cs1,M1,rfl,g1,a⟩
 obtain ⟨c,d,rfl⟩:=ZdP g1.rep
 have G1:=yS (g1.mono (show w.heap.size+3<=_ by simp))
 have lt1:=yS g1.lt
 clear g1
 have B1:Hid (Below w.heap.size w w1):=Below.trans yI (a.mono yK)
 have K0:Hid (Blk w1 w.heap.size 235 #[.int .i64 x.kind,.string x.pattern.rel,.slice A1 x.pattern.args.length c1]):=Blk.later (Blk.alloc (Blk.alloc (Blk.new _ _ _) _) _) a
 have K1:Hid (Blk w1 (w.heap.size+1) 117 #[.int .i64 0,.string ⟨#[]⟩,.slice none 0 0]):=Blk.later (Blk.alloc (Blk.new_at yG) _) a
 have K2:Hid (Blk w1 (w.heap.size+1+1) 117 #[.int .i64 x.kind,.string ⟨#[]⟩,.slice none 0 0]):=Blk.later (Blk.new_at yG) a
 obtain ⟨f0,f1,f2⟩:=K0.out.at3
 obtain ⟨r0,r1,r2⟩:=K1.out.at3
 obtain ⟨o0,o1,o2⟩:=K2.out.at3
 obtain ⟨rz0,rz1,rz2⟩:=K1.out.fr3
 obtain ⟨oz0,oz1,oz2⟩:=K2.out.fr3
 have hz1:w.heap.size+2<w1.heap.size:=by have:=a.size;simp at this;omega
 clear a
 go_wp2_with fail
 refine bodyPost_ret (v:=.agg #[.int .i64 x.kind,.string x.pattern.rel,.slice c x.pattern.args.length d]) (by simp [results,results201,go_sem,r0,r1,r2]) rfl ?_
 obtain ⟨_,_,N1,f,g,_,i,j,k⟩:=G1.out.rep
 cases f
 subst g
 exact XT (wr:=w1) (M1) ⟨⟨c,d,M1,rfl,rfl,t0,i,j,k⟩,by have o:=G1.out.own;simpa only [AB]using o⟩ (by intro b hb;repeat rw [Below.heap_setCell _ _ _ _ (by dsimp only;omega)]) (by repeat (first|refine Below.setCell ?_ (by dsimp only;omega) _|refine Below.alloc ?_ yK _|exact B1.out))
theorem infoAction:(prog.info? 117).map (fun i=>(i.zero,i.size,i.bytes))=some (some (.agg #[.int .i64 0,.string ⟨#[]⟩,.slice none 0 0]),3,48):=yO
theorem Znh (A:Option Addr) (n c:Nat) (ds:List ZY) (L:List Nat) (w:World) (hn:n=ds.length) (hz:Yv ds<=1048576) (h:Sli YJ w A ds L):
  Calls prog 158 #[.slice A n c] w (Zbg YJ 117 w ds):=by
 obtain ⟨i0,hi,u,v,z⟩:=info_parts infoAction
 have H:=yS h
 have HN:=yS hn
 have hm:n<=1048576:=by simp only[Yv]at hz;omega
 have HZ:=yS hz
 clear h hn hz
 go_enter func158,ntmps158
 go_wp2_with (at_make;refine wpList_make_full _ rfl _ _ 62 rfl w.heap.size 117 i0 _ 3 underlying62 hi u v .i64 .i64 _ _ n rfl rfl rfl rfl (by rw [z];omega) (by unfold maxLen;omega) (A0 _) ?_;intro w1 g hg)
 have hb:Below w.heap.size w w1:=(Below.refl _ _).grown hg (A0 _) yG
 have HF0:Hid (ZG YJ 117 w n ds 0 w1):=ZG.start g hb
 clear g hg hb
 go_wp2
 go_loopw [4] (fun i wr=>∃(k:Nat),k<=n/\i=.int .i64 k/\Hid (ZG YJ 117 w n ds k wr)) (fun i _=>n - (intOf i).toNat)
 case atStart=>exact ⟨0,AA _,rfl,HF0⟩
 case round=>
  obtain ⟨k,hk,rfl,HF⟩:=hrel
  by_cases f:k<n
  .have q:k<ds.length:=by have:=HN.out;omega
   obtain ⟨b,off,cs,Lk,rfl,B,C,a,hc⟩:=H.out.at_ q
   have l:b<w.heap.size:=H.out.lt b B
   have HR:=yS (YJ.keep a (Zo HF.out.below (fun y m=>H.out.lt y (C y m))))
   obtain ⟨A1,c1,rfl⟩:=Za1 a
   have q0:wr.cell? ⟨b,off+k*3,none⟩=_:=(HF.out.below.cell (p:=⟨b,off+(k*3+0),none⟩) l).trans (hc 0 _ rfl)
   have q1:wr.cell? ⟨b,off+k*3+1,none⟩=_:=(HF.out.below.cell (p:=⟨b,off+(k*3+1),none⟩) l).trans (hc 1 _ rfl)
   have q2:wr.cell? ⟨b,off+k*3+2,none⟩=_:=(HF.out.below.cell (p:=⟨b,off+(k*3+2),none⟩) l).trans (hc 2 _ rfl)
   have t:Hid (YB ds[k]<=1048576):=Zb0 YB ds k q (by have:=HZ.out;simp only[Yv]at this;omega)
   obtain ⟨x,hx⟩:∃x,x=ds[k]:=⟨_,rfl⟩
   have HX:=yS hx
   rw [<-hx]at HR q0 q1 q2 t
   clear hc a hx
   go_wp2_with fail
   refine (ZpL _ x Lk _ t.out HR.out).mono ?_
   rintro e w2 ⟨cs2,M2,rfl,g2,o⟩
   have HF2:=yS (HF.out.later o)
   have HS:=yS (HF.out.store f HN.out (fun _=>HX.out) o g2)
   obtain ⟨vA1,vc1,rfl⟩:=Za1 g2.rep
   clear g2 o
   obtain ⟨d0,e0⟩:∃d,w2.cell? ⟨w.heap.size,k*3,none⟩=some d:=HF2.out.cell f (j:=0) yF
   have z0:=HF2.out.frozen (k*3)
   obtain ⟨d1,e1⟩:∃d,w2.cell? ⟨w.heap.size,k*3+1,none⟩=some d:=HF2.out.cell f (j:=1) yF
   have z1:=HF2.out.frozen (k*3+1)
   obtain ⟨d2,e2⟩:∃d,w2.cell? ⟨w.heap.size,k*3+2,none⟩=some d:=HF2.out.cell f (j:=2) yF
   have z2:=HF2.out.frozen (k*3+2)
   go_wp2_with fail
   go_roundw
   case rel=>exact ⟨k+1,yE,by go_num,HS.out⟩
   case measure=>simp [intOf];omega
  .obtain rfl:k=n:=by omega
   go_wp2
   go_ret
   exact ⟨_,rfl,HF.out.done HN.out⟩
theorem Zsf (cs:List Value) (x:Zl) (L:List Nat) (w:World) (hz:Yl x<=1048576) (h:Xj.rep w cs x L):
  Calls prog 100 #[.agg cs.toArray] w (ZcM Xj w x):=by
 obtain ⟨A1,c1,L1,A2,c2,L2,rfl,_hL,t0,n1,m1,s1,n2,m2,s2⟩:=h
 unfold maxLen at m1 m2
 have S1:=yS s1
 clear s1
 have S2:=yS s2
 clear s2
 simp only[Yl]at hz
 go_enter func100,ntmps100
 go_wp2_with fail
 refine (ZrR A1 _ c1 x.cond L1 _ rfl yE (S1.out.below yI)).mono ?_
 rintro e w1 ⟨v1,rfl,a1⟩
 obtain ⟨d,f,rfl⟩:=a1.shape
 have c:=a1.below
 obtain ⟨M1,g1⟩:=a1.got
 clear a1
 have G1:=yS (g1.mono (show w.heap.size+3<=_ by simp))
 have y:=yS g1.lt
 clear g1
 have B1:Hid (Below w.heap.size w w1):=Below.trans yI (c.mono yK)
 have K0:Hid (Blk w1 w.heap.size 139 #[.string x.name,.int .i64 x.priority,.slice A1 x.cond.length c1,.slice A2 x.thn.length c2]):=Blk.later (Blk.alloc (Blk.alloc (Blk.new _ _ _) _) _) c
 have K1:Hid (Blk w1 (w.heap.size+1) 64 #[.string ⟨#[]⟩,.int .i64 0,.slice none 0 0,.slice none 0 0]):=Blk.later (Blk.alloc (Blk.new_at yG) _) c
 have K2:Hid (Blk w1 (w.heap.size+1+1) 64 #[.string x.name,.int .i64 x.priority,.slice none 0 0,.slice none 0 0]):=Blk.later (Blk.new_at yG) c
 obtain ⟨f0,f1,f2,f3⟩:=K0.out.at4
 obtain ⟨r0,r1,r2,r3⟩:=K1.out.at4
 obtain ⟨o0,o1,o2,o3⟩:=K2.out.at4
 obtain ⟨g,i,j,k⟩:=K1.out.fr4
 obtain ⟨l,m,p,q⟩:=K2.out.fr4
 have hz1:w.heap.size+2<w1.heap.size:=by have:=c.size;simp at this;omega
 clear c
 go_wp2_with fail
 refine (Znh A2 _ c2 x.thn L2 _ rfl yE (S2.out.below (by repeat (first|refine Below.setCell ?_ (by dsimp only;omega) _|refine Below.alloc ?_ yK _|exact B1.out)))).mono ?_
 rintro e w2 ⟨v2,rfl,a2⟩
 obtain ⟨t,u,rfl⟩:=a2.shape
 have a:=a2.below
 obtain ⟨M2,g2⟩:=a2.got
 clear a2
 have G2:=yS (g2.mono (show w1.heap.size<=_ by simp))
 have lt2:=yS g2.lt
 clear g2
 have B2:Hid (Below w.heap.size w w2):=Below.trans (by repeat (first|refine Below.setCell ?_ (by dsimp only;omega) _|refine Below.alloc ?_ yK _|exact B1.out)) (a.mono yK)
 have G1:Hid (Got (Yb X6) (w.heap.size+3) [.slice d x.cond.length f] x.cond M1 w2):=Got.later (by repeat (first|refine Got.setCell ?_ (by dsimp only;omega) _|exact G1.out)) a
 have K0:=yS (Blk.later (Blk.far K0.out (by dsimp only;omega) _) a)
 have K1:=yS (Blk.later (Blk.far K1.out (by dsimp only;omega) _) a)
 have K2:=yS (Blk.later (Blk.set_ K2.out 2 _) a)
 clear f0 r0 o0 g l f1 r1 o1 i m f2 r2 o2 j p f3 r3 o3 k q
 obtain ⟨f0,f1,f2,f3⟩:=K0.out.at4
 obtain ⟨r0,r1,r2,r3⟩:=K1.out.at4
 obtain ⟨o0,o1,o2,o3⟩:=K2.out.at4
 obtain ⟨g,i,j,k⟩:=K1.out.fr4
 obtain ⟨l,m,p,q⟩:=K2.out.fr4
 have hz2:w.heap.size+2<w2.heap.size:=by have:=a.size;simp at this;omega
 have hy2:w1.heap.size<=w2.heap.size:=by have:=a.size;simp at this;omega
 clear a
 go_wp2_with fail
 refine bodyPost_ret (v:=.agg #[.string x.name,.int .i64 x.priority,.slice d x.cond.length f,.slice t x.thn.length u]) (by simp [results,results100,go_sem,r0,r1,r2,r3]) rfl ?_
 obtain ⟨z,A,B⟩:=ZZ G1.out.rep
 obtain ⟨C,D,E⟩:=ZZ G2.out.rep
 exact XT (wr:=w2) (M1++M2) ⟨⟨d,f,M1,t,u,M2,rfl,rfl,t0,z,A,B,C,D,E⟩,by have o:=(Own.append G1.out.own G2.out.own yE y.out);simpa only [AB]using o⟩ (by intro b hb;repeat rw [Below.heap_setCell _ _ _ _ (by dsimp only;omega)]) (by repeat (first|refine Below.setCell ?_ (by dsimp only;omega) _|refine Below.alloc ?_ yK _|exact B2.out))
theorem infoRule:(prog.info? 64).map (fun i=>(i.zero,i.size,i.bytes))=some (some (.agg #[.string ⟨#[]⟩,.int .i64 0,.slice none 0 0,.slice none 0 0]),4,72):=yO
theorem Zky (A:Option Addr) (n c:Nat) (ds:List Zl) (L:List Nat) (w:World) (hn:n=ds.length) (hz:Yi ds<=1048576) (h:Sli Xj w A ds L):
  Calls prog 50 #[.slice A n c] w (Zbg Xj 64 w ds):=by
 obtain ⟨i0,hi,u,v,z⟩:=info_parts infoRule
 have H:=yS h
 have HN:=yS hn
 have hm:n<=1048576:=by simp only[Yi]at hz;omega
 have HZ:=yS hz
 clear h hn hz
 go_enter func50,ntmps50
 go_wp2_with (at_make;refine wpList_make_full _ rfl _ _ 38 rfl w.heap.size 64 i0 _ 4 underlying38 hi u v .i64 .i64 _ _ n rfl rfl rfl rfl (by rw [z];omega) (by unfold maxLen;omega) (A0 _) ?_;intro w1 l hg)
 have hb:Below w.heap.size w w1:=(Below.refl _ _).grown hg (A0 _) yG
 have HF0:Hid (ZG Xj 64 w n ds 0 w1):=ZG.start l hb
 clear l hg hb
 go_wp2
 go_loopw [4] (fun i wr=>∃(k:Nat),k<=n/\i=.int .i64 k/\Hid (ZG Xj 64 w n ds k wr)) (fun i _=>n - (intOf i).toNat)
 case atStart=>exact ⟨0,AA _,rfl,HF0⟩
 case round=>
  obtain ⟨k,hk,rfl,HF⟩:=hrel
  by_cases a:k<n
  .have q:k<ds.length:=by have:=HN.out;omega
   obtain ⟨b,off,cs,Lk,rfl,B,C,f,hc⟩:=H.out.at_ q
   have g:b<w.heap.size:=H.out.lt b B
   have HR:=yS (Xj.keep f (Zo HF.out.below (fun y m=>H.out.lt y (C y m))))
   obtain ⟨A1,c1,A2,c2,rfl⟩:=ZcZ f
   have q0:wr.cell? ⟨b,off+k*4,none⟩=_:=(HF.out.below.cell (p:=⟨b,off+(k*4+0),none⟩) g).trans (hc 0 _ rfl)
   have q1:wr.cell? ⟨b,off+k*4+1,none⟩=_:=(HF.out.below.cell (p:=⟨b,off+(k*4+1),none⟩) g).trans (hc 1 _ rfl)
   have q2:wr.cell? ⟨b,off+k*4+2,none⟩=_:=(HF.out.below.cell (p:=⟨b,off+(k*4+2),none⟩) g).trans (hc 2 _ rfl)
   have q3:wr.cell? ⟨b,off+k*4+3,none⟩=_:=(HF.out.below.cell (p:=⟨b,off+(k*4+3),none⟩) g).trans (hc 3 _ rfl)
   have t:Hid (Yl ds[k]<=1048576):=Zb0 Yl ds k q (by have:=HZ.out;simp only[Yi]at this;omega)
   obtain ⟨x,hx⟩:∃x,x=ds[k]:=⟨_,rfl⟩
   have HX:=yS hx
   rw [<-hx]at HR q0 q1 q2 q3 t
   clear hc f hx
   go_wp2_with fail
   refine (Zsf _ x Lk _ t.out HR.out).mono ?_
   rintro e w2 ⟨cs2,M2,rfl,g2,o⟩
   have HF2:=yS (HF.out.later o)
   have HS:=yS (HF.out.store a HN.out (fun _=>HX.out) o g2)
   obtain ⟨vA1,vc1,vA2,vc2,rfl⟩:=ZcZ g2.rep
   clear g2 o
   obtain ⟨d0,e0⟩:∃d,w2.cell? ⟨w.heap.size,k*4,none⟩=some d:=HF2.out.cell a (j:=0) yF
   have z0:=HF2.out.frozen (k*4)
   obtain ⟨d1,e1⟩:∃d,w2.cell? ⟨w.heap.size,k*4+1,none⟩=some d:=HF2.out.cell a (j:=1) yF
   have z1:=HF2.out.frozen (k*4+1)
   obtain ⟨d2,e2⟩:∃d,w2.cell? ⟨w.heap.size,k*4+2,none⟩=some d:=HF2.out.cell a (j:=2) yF
   have z2:=HF2.out.frozen (k*4+2)
   obtain ⟨d3,e3⟩:∃d,w2.cell? ⟨w.heap.size,k*4+3,none⟩=some d:=HF2.out.cell a (j:=3) yF
   have z3:=HF2.out.frozen (k*4+3)
   go_wp2_with fail
   go_roundw
   case rel=>exact ⟨k+1,yE,by go_num,HS.out⟩
   case measure=>simp [intOf];omega
  .obtain rfl:k=n:=by omega
   go_wp2
   go_ret
   exact ⟨_,rfl,HF.out.done HN.out⟩
theorem ZqJ (cs:List Value) (x:Zs) (L:List Nat) (w:World) (hz:Xr x<=1048576) (h:Yg.rep w cs x L):
  Calls prog 202 #[.agg cs.toArray] w (ZcM Yg w x):=by
 obtain ⟨A1,c1,L1,A2,c2,L2,rfl,_hL,n1,m1,s1,n2,m2,s2⟩:=h
 unfold maxLen at m1 m2
 have S1:=yS s1
 clear s1
 have S2:=yS s2
 clear s2
 simp only[Xr]at hz
 go_enter func202,ntmps202
 go_wp2_with fail
 refine (ZgD A1 _ c1 x.facts L1 _ rfl yE (S1.out.below yI)).mono ?_
 rintro e w1 ⟨v1,rfl,a1⟩
 obtain ⟨d,f,rfl⟩:=a1.shape
 have c:=a1.below
 obtain ⟨M1,g1⟩:=a1.got
 clear a1
 have G1:=yS (g1.mono (show w.heap.size+3<=_ by simp))
 have p:=yS g1.lt
 clear g1
 have B1:Hid (Below w.heap.size w w1):=Below.trans yI (c.mono yK)
 have K0:Hid (Blk w1 w.heap.size 239 #[.slice A1 x.facts.length c1,.slice A2 x.binding.length c2]):=Blk.later (Blk.alloc (Blk.alloc (Blk.new _ _ _) _) _) c
 have K1:Hid (Blk w1 (w.heap.size+1) 167 #[.slice none 0 0,.slice none 0 0]):=Blk.later (Blk.alloc (Blk.new_at yG) _) c
 have K2:Hid (Blk w1 (w.heap.size+1+1) 167 #[.slice none 0 0,.slice none 0 0]):=Blk.later (Blk.new_at yG) c
 obtain ⟨f0,f1⟩:=K0.out.at2
 obtain ⟨r0,r1⟩:=K1.out.at2
 obtain ⟨o0,o1⟩:=K2.out.at2
 obtain ⟨g,i⟩:=K1.out.fr2
 obtain ⟨j,k⟩:=K2.out.fr2
 have hz1:w.heap.size+2<w1.heap.size:=by have:=c.size;simp at this;omega
 clear c
 go_wp2_with fail
 refine (ZqH A2 _ c2 x.binding L2 _ rfl yE (S2.out.below (by repeat (first|refine Below.setCell ?_ (by dsimp only;omega) _|refine Below.alloc ?_ yK _|exact B1.out)))).mono ?_
 rintro e w2 ⟨v2,rfl,a2⟩
 obtain ⟨l,m,rfl⟩:=a2.shape
 have a:=a2.below
 obtain ⟨M2,g2⟩:=a2.got
 clear a2
 have G2:=yS (g2.mono (show w1.heap.size<=_ by simp))
 have lt2:=yS g2.lt
 clear g2
 have B2:Hid (Below w.heap.size w w2):=Below.trans (by repeat (first|refine Below.setCell ?_ (by dsimp only;omega) _|refine Below.alloc ?_ yK _|exact B1.out)) (a.mono yK)
 have G1:Hid (Got (Yb Yh) (w.heap.size+3) [.slice d x.facts.length f] x.facts M1 w2):=Got.later (by repeat (first|refine Got.setCell ?_ (by dsimp only;omega) _|exact G1.out)) a
 have K0:=yS (Blk.later (Blk.far K0.out (by dsimp only;omega) _) a)
 have K1:=yS (Blk.later (Blk.far K1.out (by dsimp only;omega) _) a)
 have K2:=yS (Blk.later (Blk.set_ K2.out 0 _) a)
 clear f0 r0 o0 g j f1 r1 o1 i k
 obtain ⟨f0,f1⟩:=K0.out.at2
 obtain ⟨r0,r1⟩:=K1.out.at2
 obtain ⟨o0,o1⟩:=K2.out.at2
 obtain ⟨g,i⟩:=K1.out.fr2
 obtain ⟨j,k⟩:=K2.out.fr2
 have hz2:w.heap.size+2<w2.heap.size:=by have:=a.size;simp at this;omega
 have hy2:w1.heap.size<=w2.heap.size:=by have:=a.size;simp at this;omega
 clear a
 go_wp2_with fail
 refine bodyPost_ret (v:=.agg #[.slice d x.facts.length f,.slice l x.binding.length m]) (by simp [results,results202,go_sem,r0,r1]) rfl ?_
 obtain ⟨q,t,u⟩:=ZZ G1.out.rep
 obtain ⟨y,z,A⟩:=ZZ G2.out.rep
 exact XT (wr:=w2) (M1++M2) ⟨⟨d,f,M1,l,m,M2,rfl,rfl,q,t,u,y,z,A⟩,by have o:=(Own.append G1.out.own G2.out.own yE p.out);simpa only [AB]using o⟩ (by intro b hb;repeat rw [Below.heap_setCell _ _ _ _ (by dsimp only;omega)]) (by repeat (first|refine Below.setCell ?_ (by dsimp only;omega) _|refine Below.alloc ?_ yK _|exact B2.out))
theorem infoToken:(prog.info? 167).map (fun i=>(i.zero,i.size,i.bytes))=some (some (.agg #[.slice none 0 0,.slice none 0 0]),2,48):=yO
theorem ZoY (A:Option Addr) (n c:Nat) (ds:List Zs) (L:List Nat) (w:World) (hn:n=ds.length) (hz:Qw ds<=1048576) (h:Sli Yg w A ds L):
  Calls prog 161 #[.slice A n c] w (Zbg Yg 167 w ds):=by
 obtain ⟨i0,hi,u,v,z⟩:=info_parts infoToken
 have H:=yS h
 have HN:=yS hn
 have hm:n<=1048576:=by simp only[Qw]at hz;omega
 have HZ:=yS hz
 clear h hn hz
 go_enter func161,ntmps161
 go_wp2_with (at_make;refine wpList_make_full _ rfl _ _ 108 rfl w.heap.size 167 i0 _ 2 underlying108 hi u v .i64 .i64 _ _ n rfl rfl rfl rfl (by rw [z];omega) (by unfold maxLen;omega) (A0 _) ?_;intro w1 f hg)
 have hb:Below w.heap.size w w1:=(Below.refl _ _).grown hg (A0 _) yG
 have HF0:Hid (ZG Yg 167 w n ds 0 w1):=ZG.start f hb
 clear f hg hb
 go_wp2
 go_loopw [4] (fun i wr=>∃(k:Nat),k<=n/\i=.int .i64 k/\Hid (ZG Yg 167 w n ds k wr)) (fun i _=>n - (intOf i).toNat)
 case atStart=>exact ⟨0,AA _,rfl,HF0⟩
 case round=>
  obtain ⟨k,hk,rfl,HF⟩:=hrel
  by_cases g:k<n
  .have o:k<ds.length:=by have:=HN.out;omega
   obtain ⟨b,off,cs,Lk,rfl,B,C,a,hc⟩:=H.out.at_ o
   have q:b<w.heap.size:=H.out.lt b B
   have HR:=yS (Yg.keep a (Zo HF.out.below (fun y m=>H.out.lt y (C y m))))
   obtain ⟨A1,c1,A2,c2,rfl⟩:=ZbH a
   have q0:wr.cell? ⟨b,off+k*2,none⟩=_:=(HF.out.below.cell (p:=⟨b,off+(k*2+0),none⟩) q).trans (hc 0 _ rfl)
   have q1:wr.cell? ⟨b,off+k*2+1,none⟩=_:=(HF.out.below.cell (p:=⟨b,off+(k*2+1),none⟩) q).trans (hc 1 _ rfl)
   have t:Hid (Xr ds[k]<=1048576):=Zb0 Xr ds k o (by have:=HZ.out;simp only[Qw]at this;omega)
   obtain ⟨x,hx⟩:∃x,x=ds[k]:=⟨_,rfl⟩
   have HX:=yS hx
   rw [<-hx]at HR q0 q1 t
   clear hc a hx
   go_wp2_with fail
   refine (ZqJ _ x Lk _ t.out HR.out).mono ?_
   rintro e w2 ⟨cs2,M2,rfl,g2,l⟩
   have HF2:=yS (HF.out.later l)
   have HS:=yS (HF.out.store g HN.out (fun _=>HX.out) l g2)
   obtain ⟨vA1,vc1,vA2,vc2,rfl⟩:=ZbH g2.rep
   clear g2 l
   obtain ⟨d0,e0⟩:∃d,w2.cell? ⟨w.heap.size,k*2,none⟩=some d:=HF2.out.cell g (j:=0) yF
   have z0:=HF2.out.frozen (k*2)
   obtain ⟨d1,e1⟩:∃d,w2.cell? ⟨w.heap.size,k*2+1,none⟩=some d:=HF2.out.cell g (j:=1) yF
   have z1:=HF2.out.frozen (k*2+1)
   go_wp2_with fail
   go_roundw
   case rel=>exact ⟨k+1,yE,by go_num,HS.out⟩
   case measure=>simp [intOf];omega
  .obtain rfl:k=n:=by omega
   go_wp2
   go_ret
   exact ⟨_,rfl,HF.out.done HN.out⟩
theorem ZrY (cs:List Value) (x:Z7) (L:List Nat) (w:World) (hz:Xq x<=1048576) (h:Y2.rep w cs x L):
  Calls prog 104 #[.agg cs.toArray] w (ZcM Y2 w x):=by
 obtain ⟨A1,c1,L1,A2,c2,L2,rfl,_hL,t0,n1,m1,s1,n2,m2,s2⟩:=h
 unfold maxLen at m1 m2
 have S1:=yS s1
 clear s1
 have S2:=yS s2
 clear s2
 simp only[Xq]at hz
 go_enter func104,ntmps104
 go_wp2_with fail
 refine (Ze1 [.string x.shape.rel,.slice A1 x.shape.args.length c1] x.shape _ _ yE ⟨A1,c1,L1,rfl,rfl,t0,n1,(by unfold maxLen;omega),S1.out.below yI⟩).mono ?_
 rintro e w1 ⟨cs1,M1,rfl,g1,c⟩
 obtain ⟨d,f,rfl⟩:=ZdP g1.rep
 have G1:=yS (g1.mono (show w.heap.size+3<=_ by simp))
 have u:=yS g1.lt
 clear g1
 have B1:Hid (Below w.heap.size w w1):=Below.trans yI (c.mono yK)
 have K0:Hid (Blk w1 w.heap.size 152 #[.string x.shape.rel,.slice A1 x.shape.args.length c1,.slice A2 x.facts.length c2]):=Blk.later (Blk.alloc (Blk.alloc (Blk.new _ _ _) _) _) c
 have K1:Hid (Blk w1 (w.heap.size+1) 103 #[.string ⟨#[]⟩,.slice none 0 0,.slice none 0 0]):=Blk.later (Blk.alloc (Blk.new_at yG) _) c
 have K2:Hid (Blk w1 (w.heap.size+1+1) 103 #[.string ⟨#[]⟩,.slice none 0 0,.slice none 0 0]):=Blk.later (Blk.new_at yG) c
 obtain ⟨f0,f1,f2⟩:=K0.out.at3
 obtain ⟨r0,r1,r2⟩:=K1.out.at3
 obtain ⟨o0,o1,o2⟩:=K2.out.at3
 obtain ⟨g,i,j⟩:=K1.out.fr3
 obtain ⟨k,l,m⟩:=K2.out.fr3
 have hz1:w.heap.size+2<w1.heap.size:=by have:=c.size;simp at this;omega
 clear c
 go_wp2_with fail
 refine (ZgD A2 _ c2 x.facts L2 _ rfl yE (S2.out.below (by repeat (first|refine Below.setCell ?_ (by dsimp only;omega) _|refine Below.alloc ?_ yK _|exact B1.out)))).mono ?_
 rintro e w2 ⟨v2,rfl,a2⟩
 obtain ⟨p,q,rfl⟩:=a2.shape
 have a:=a2.below
 obtain ⟨M2,g2⟩:=a2.got
 clear a2
 have G2:=yS (g2.mono (show w1.heap.size<=_ by simp))
 have lt2:=yS g2.lt
 clear g2
 have B2:Hid (Below w.heap.size w w2):=Below.trans (by repeat (first|refine Below.setCell ?_ (by dsimp only;omega) _|refine Below.alloc ?_ yK _|exact B1.out)) (a.mono yK)
 have G1:Hid (Got XP (w.heap.size+3) [.string x.shape.rel,.slice d x.shape.args.length f] x.shape M1 w2):=Got.later (by repeat (first|refine Got.setCell ?_ (by dsimp only;omega) _|exact G1.out)) a
 have K0:=yS (Blk.later (Blk.far (Blk.far K0.out (by dsimp only;omega) _) (by dsimp only;omega) _) a)
 have K1:=yS (Blk.later (Blk.far (Blk.far K1.out (by dsimp only;omega) _) (by dsimp only;omega) _) a)
 have K2:=yS (Blk.later (Blk.set_ (Blk.set_ K2.out 0 _) 1 _) a)
 clear f0 r0 o0 g k f1 r1 o1 i l f2 r2 o2 j m
 obtain ⟨f0,f1,f2⟩:=K0.out.at3
 obtain ⟨r0,r1,r2⟩:=K1.out.at3
 obtain ⟨o0,o1,o2⟩:=K2.out.at3
 obtain ⟨g,i,j⟩:=K1.out.fr3
 obtain ⟨k,l,m⟩:=K2.out.fr3
 have hz2:w.heap.size+2<w2.heap.size:=by have:=a.size;simp at this;omega
 have hy2:w1.heap.size<=w2.heap.size:=by have:=a.size;simp at this;omega
 clear a
 go_wp2_with fail
 refine bodyPost_ret (v:=.agg #[.string x.shape.rel,.slice d x.shape.args.length f,.slice p x.facts.length q]) (by simp [results,results104,go_sem,r0,r1,r2]) rfl ?_
 obtain ⟨_,_,N1,t,y,_,z,A,B⟩:=G1.out.rep
 cases t
 subst y
 obtain ⟨C,D,E⟩:=ZZ G2.out.rep
 exact XT (wr:=w2) (M1++M2) ⟨⟨d,f,M1,p,q,M2,rfl,rfl,t0,z,A,B,C,D,E⟩,by have o:=(Own.append G1.out.own G2.out.own yE u.out);simpa only [AB]using o⟩ (by intro b hb;repeat rw [Below.heap_setCell _ _ _ _ (by dsimp only;omega)]) (by repeat (first|refine Below.setCell ?_ (by dsimp only;omega) _|refine Below.alloc ?_ yK _|exact B2.out))
theorem infoAlpha:(prog.info? 103).map (fun i=>(i.zero,i.size,i.bytes))=some (some (.agg #[.string ⟨#[]⟩,.slice none 0 0,.slice none 0 0]),3,64):=yO
theorem Zpw (A:Option Addr) (n c:Nat) (ds:List Z7) (L:List Nat) (w:World) (hn:n=ds.length) (hz:Xu ds<=1048576) (h:Sli Y2 w A ds L):
  Calls prog 55 #[.slice A n c] w (Zbg Y2 103 w ds):=by
 obtain ⟨i0,hi,u,v,z⟩:=info_parts infoAlpha
 have H:=yS h
 have HN:=yS hn
 have hm:n<=1048576:=by simp only[Xu]at hz;omega
 have HZ:=yS hz
 clear h hn hz
 go_enter func55,ntmps55
 go_wp2_with (at_make;refine wpList_make_full _ rfl _ _ 44 rfl w.heap.size 103 i0 _ 3 underlying44 hi u v .i64 .i64 _ _ n rfl rfl rfl rfl (by rw [z];omega) (by unfold maxLen;omega) (A0 _) ?_;intro w1 g hg)
 have hb:Below w.heap.size w w1:=(Below.refl _ _).grown hg (A0 _) yG
 have HF0:Hid (ZG Y2 103 w n ds 0 w1):=ZG.start g hb
 clear g hg hb
 go_wp2
 go_loopw [4] (fun i wr=>∃(k:Nat),k<=n/\i=.int .i64 k/\Hid (ZG Y2 103 w n ds k wr)) (fun i _=>n - (intOf i).toNat)
 case atStart=>exact ⟨0,AA _,rfl,HF0⟩
 case round=>
  obtain ⟨k,hk,rfl,HF⟩:=hrel
  by_cases f:k<n
  .have q:k<ds.length:=by have:=HN.out;omega
   obtain ⟨b,off,cs,Lk,rfl,B,C,a,hc⟩:=H.out.at_ q
   have l:b<w.heap.size:=H.out.lt b B
   have HR:=yS (Y2.keep a (Zo HF.out.below (fun y m=>H.out.lt y (C y m))))
   obtain ⟨A1,c1,A2,c2,rfl⟩:=Zca a
   have q0:wr.cell? ⟨b,off+k*3,none⟩=_:=(HF.out.below.cell (p:=⟨b,off+(k*3+0),none⟩) l).trans (hc 0 _ rfl)
   have q1:wr.cell? ⟨b,off+k*3+1,none⟩=_:=(HF.out.below.cell (p:=⟨b,off+(k*3+1),none⟩) l).trans (hc 1 _ rfl)
   have q2:wr.cell? ⟨b,off+k*3+2,none⟩=_:=(HF.out.below.cell (p:=⟨b,off+(k*3+2),none⟩) l).trans (hc 2 _ rfl)
   have t:Hid (Xq ds[k]<=1048576):=Zb0 Xq ds k q (by have:=HZ.out;simp only[Xu]at this;omega)
   obtain ⟨x,hx⟩:∃x,x=ds[k]:=⟨_,rfl⟩
   have HX:=yS hx
   rw [<-hx]at HR q0 q1 q2 t
   clear hc a hx
   go_wp2_with fail
   refine (ZrY _ x Lk _ t.out HR.out).mono ?_
   rintro e w2 ⟨cs2,M2,rfl,g2,o⟩
   have HF2:=yS (HF.out.later o)
   have HS:=yS (HF.out.store f HN.out (fun _=>HX.out) o g2)
   obtain ⟨vA1,vc1,vA2,vc2,rfl⟩:=Zca g2.rep
   clear g2 o
   obtain ⟨d0,e0⟩:∃d,w2.cell? ⟨w.heap.size,k*3,none⟩=some d:=HF2.out.cell f (j:=0) yF
   have z0:=HF2.out.frozen (k*3)
   obtain ⟨d1,e1⟩:∃d,w2.cell? ⟨w.heap.size,k*3+1,none⟩=some d:=HF2.out.cell f (j:=1) yF
   have z1:=HF2.out.frozen (k*3+1)
   obtain ⟨d2,e2⟩:∃d,w2.cell? ⟨w.heap.size,k*3+2,none⟩=some d:=HF2.out.cell f (j:=2) yF
   have z2:=HF2.out.frozen (k*3+2)
   go_wp2_with fail
   go_roundw
   case rel=>exact ⟨k+1,yE,by go_num,HS.out⟩
   case measure=>simp [intOf];omega
  .obtain rfl:k=n:=by omega
   go_wp2
   go_ret
   exact ⟨_,rfl,HF.out.done HN.out⟩
theorem Zs9 (cs:List Value) (x:ZL) (L:List Nat) (w:World) (hz:Qa x<=1048576) (h:QX.rep w cs x L):
  Calls prog 105 #[.agg cs.toArray] w (ZcM QX w x):=by
 obtain ⟨A1,c1,L1,A2,c2,L2,rfl,_hL,t0,t1,t2,n1,m1,s1,n2,m2,s2⟩:=h
 unfold maxLen at m1 m2
 have S1:=yS s1
 clear s1
 have S2:=yS s2
 clear s2
 simp only[Qa]at hz
 go_enter func105,ntmps105
 go_wp2_with fail
 refine (Zl1 [.int .i64 x.cond.kind,.string x.cond.pattern.rel,.slice A1 x.cond.pattern.args.length c1,.string x.cond.left,.string x.cond.right] x.cond _ _ yE ⟨A1,c1,L1,rfl,rfl,t0,t1,t2,n1,(by unfold maxLen;omega),S1.out.below yI⟩).mono ?_
 rintro e w1 ⟨cs1,M1,rfl,g1,c⟩
 obtain ⟨d,f,rfl⟩:=Zbu g1.rep
 have G1:=yS (g1.mono (show w.heap.size+3<=_ by simp))
 have H:=yS g1.lt
 clear g1
 have B1:Hid (Below w.heap.size w w1):=Below.trans yI (c.mono yK)
 have K0:Hid (Blk w1 w.heap.size 158 #[.int .i64 x.parent,.int .i64 x.cond.kind,.string x.cond.pattern.rel,.slice A1 x.cond.pattern.args.length c1,.string x.cond.left,.string x.cond.right,.int .i64 x.alpha,.slice A2 x.tokens.length c2]):=Blk.later (Blk.alloc (Blk.alloc (Blk.new _ _ _) _) _) c
 have K1:Hid (Blk w1 (w.heap.size+1) 110 #[.int .i64 0,.int .i64 0,.string ⟨#[]⟩,.slice none 0 0,.string ⟨#[]⟩,.string ⟨#[]⟩,.int .i64 0,.slice none 0 0]):=Blk.later (Blk.alloc (Blk.new_at yG) _) c
 have K2:Hid (Blk w1 (w.heap.size+1+1) 110 #[.int .i64 x.parent,.int .i64 0,.string ⟨#[]⟩,.slice none 0 0,.string ⟨#[]⟩,.string ⟨#[]⟩,.int .i64 0,.slice none 0 0]):=Blk.later (Blk.new_at yG) c
 obtain ⟨f0,f1,f2,f3,f4,f5,f6,f7⟩:=K0.out.at8
 obtain ⟨r0,r1,r2,r3,r4,r5,r6,r7⟩:=K1.out.at8
 obtain ⟨o0,o1,o2,o3,o4,o5,o6,o7⟩:=K2.out.at8
 obtain ⟨g,i,j,k,l,m,p,q⟩:=K1.out.fr8
 obtain ⟨t,u,y,z,A,B,C,D⟩:=K2.out.fr8
 have hz1:w.heap.size+2<w1.heap.size:=by have:=c.size;simp at this;omega
 clear c
 go_wp2_with fail
 refine (ZoY A2 _ c2 x.tokens L2 _ rfl yE (S2.out.below (by repeat (first|refine Below.setCell ?_ (by dsimp only;omega) _|refine Below.alloc ?_ yK _|exact B1.out)))).mono ?_
 rintro e w2 ⟨v2,rfl,a2⟩
 obtain ⟨E,F,rfl⟩:=a2.shape
 have a:=a2.below
 obtain ⟨M2,g2⟩:=a2.got
 clear a2
 have G2:=yS (g2.mono (show w1.heap.size<=_ by simp))
 have lt2:=yS g2.lt
 clear g2
 have B2:Hid (Below w.heap.size w w2):=Below.trans (by repeat (first|refine Below.setCell ?_ (by dsimp only;omega) _|refine Below.alloc ?_ yK _|exact B1.out)) (a.mono yK)
 have G1:Hid (Got X6 (w.heap.size+3) [.int .i64 x.cond.kind,.string x.cond.pattern.rel,.slice d x.cond.pattern.args.length f,.string x.cond.left,.string x.cond.right] x.cond M1 w2):=Got.later (by repeat (first|refine Got.setCell ?_ (by dsimp only;omega) _|exact G1.out)) a
 have K0:=yS (Blk.later (Blk.far (Blk.far (Blk.far (Blk.far (Blk.far (Blk.far K0.out (by dsimp only;omega) _) (by dsimp only;omega) _) (by dsimp only;omega) _) (by dsimp only;omega) _) (by dsimp only;omega) _) (by dsimp only;omega) _) a)
 have K1:=yS (Blk.later (Blk.far (Blk.far (Blk.far (Blk.far (Blk.far (Blk.far K1.out (by dsimp only;omega) _) (by dsimp only;omega) _) (by dsimp only;omega) _) (by dsimp only;omega) _) (by dsimp only;omega) _) (by dsimp only;omega) _) a)
 have K2:=yS (Blk.later (Blk.set_ (Blk.set_ (Blk.set_ (Blk.set_ (Blk.set_ (Blk.set_ K2.out 1 _) 2 _) 3 _) 4 _) 5 _) 6 _) a)
 clear f0 r0 o0 g t f1 r1 o1 i u f2 r2 o2 j y f3 r3 o3 k z f4 r4 o4 l A f5 r5 o5 m B f6 r6 o6 p C f7 r7 o7 q D
 obtain ⟨f0,f1,f2,f3,f4,f5,f6,f7⟩:=K0.out.at8
 obtain ⟨r0,r1,r2,r3,r4,r5,r6,r7⟩:=K1.out.at8
 obtain ⟨o0,o1,o2,o3,o4,o5,o6,o7⟩:=K2.out.at8
 obtain ⟨g,i,j,k,l,m,p,q⟩:=K1.out.fr8
 obtain ⟨t,u,y,z,A,B,C,D⟩:=K2.out.fr8
 have hz2:w.heap.size+2<w2.heap.size:=by have:=a.size;simp at this;omega
 have hy2:w1.heap.size<=w2.heap.size:=by have:=a.size;simp at this;omega
 clear a
 go_wp2_with fail
 refine bodyPost_ret (v:=.agg #[.int .i64 x.parent,.int .i64 x.cond.kind,.string x.cond.pattern.rel,.slice d x.cond.pattern.args.length f,.string x.cond.left,.string x.cond.right,.int .i64 x.alpha,.slice E x.tokens.length F]) (by simp [results,results105,go_sem,r0,r1,r2,r3,r4,r5,r6,r7]) rfl ?_
 obtain ⟨_,_,N1,G,I,_,_,_,J,K,M⟩:=G1.out.rep
 cases G
 subst I
 obtain ⟨N,O,P⟩:=ZZ G2.out.rep
 exact XT (wr:=w2) (M1++M2) ⟨⟨d,f,M1,E,F,M2,rfl,rfl,t0,t1,t2,J,K,M,N,O,P⟩,by have o:=(Own.append G1.out.own G2.out.own yE H.out);simpa only [AB]using o⟩ (by intro b hb;repeat rw [Below.heap_setCell _ _ _ _ (by dsimp only;omega)]) (by repeat (first|refine Below.setCell ?_ (by dsimp only;omega) _|refine Below.alloc ?_ yK _|exact B2.out))
theorem infoNode:(prog.info? 110).map (fun i=>(i.zero,i.size,i.bytes))=some (some (.agg #[.int .i64 0,.int .i64 0,.string ⟨#[]⟩,.slice none 0 0,.string ⟨#[]⟩,.string ⟨#[]⟩,.int .i64 0,.slice none 0 0]),8,120):=yO
theorem Zrv (A:Option Addr) (n c:Nat) (ds:List ZL) (L:List Nat) (w:World) (hn:n=ds.length) (hz:QK ds<=1048576) (h:Sli QX w A ds L):
  Calls prog 56 #[.slice A n c] w (Zbg QX 110 w ds):=by
 obtain ⟨i0,hi,u,v,z⟩:=info_parts infoNode
 have H:=yS h
 have HN:=yS hn
 have hm:n<=1048576:=by simp only[QK]at hz;omega
 have HZ:=yS hz
 clear h hn hz
 go_enter func56,ntmps56
 go_wp2_with (at_make;refine wpList_make_full _ rfl _ _ 45 rfl w.heap.size 110 i0 _ 8 underlying45 hi u v .i64 .i64 _ _ n rfl rfl rfl rfl (by rw [z];omega) (by unfold maxLen;omega) (A0 _) ?_;intro w1 l hg)
 have hb:Below w.heap.size w w1:=(Below.refl _ _).grown hg (A0 _) yG
 have HF0:Hid (ZG QX 110 w n ds 0 w1):=ZG.start l hb
 clear l hg hb
 go_wp2
 go_loopw [4] (fun i wr=>∃(k:Nat),k<=n/\i=.int .i64 k/\Hid (ZG QX 110 w n ds k wr)) (fun i _=>n - (intOf i).toNat)
 case atStart=>exact ⟨0,AA _,rfl,HF0⟩
 case round=>
  obtain ⟨k,hk,rfl,HF⟩:=hrel
  by_cases a:k<n
  .have q:k<ds.length:=by have:=HN.out;omega
   obtain ⟨b,off,cs,Lk,rfl,B,C,g,hc⟩:=H.out.at_ q
   have f:b<w.heap.size:=H.out.lt b B
   have HR:=yS (QX.keep g (Zo HF.out.below (fun y m=>H.out.lt y (C y m))))
   obtain ⟨A1,c1,A2,c2,rfl⟩:=Zc1 g
   have q0:wr.cell? ⟨b,off+k*8,none⟩=_:=(HF.out.below.cell (p:=⟨b,off+(k*8+0),none⟩) f).trans (hc 0 _ rfl)
   have q1:wr.cell? ⟨b,off+k*8+1,none⟩=_:=(HF.out.below.cell (p:=⟨b,off+(k*8+1),none⟩) f).trans (hc 1 _ rfl)
   have q2:wr.cell? ⟨b,off+k*8+2,none⟩=_:=(HF.out.below.cell (p:=⟨b,off+(k*8+2),none⟩) f).trans (hc 2 _ rfl)
   have q3:wr.cell? ⟨b,off+k*8+3,none⟩=_:=(HF.out.below.cell (p:=⟨b,off+(k*8+3),none⟩) f).trans (hc 3 _ rfl)
   have q4:wr.cell? ⟨b,off+k*8+4,none⟩=_:=(HF.out.below.cell (p:=⟨b,off+(k*8+4),none⟩) f).trans (hc 4 _ rfl)
   have q5:wr.cell? ⟨b,off+k*8+5,none⟩=_:=(HF.out.below.cell (p:=⟨b,off+(k*8+5),none⟩) f).trans (hc 5 _ rfl)
   have q6:wr.cell? ⟨b,off+k*8+6,none⟩=_:=(HF.out.below.cell (p:=⟨b,off+(k*8+6),none⟩) f).trans (hc 6 _ rfl)
   have q7:wr.cell? ⟨b,off+k*8+7,none⟩=_:=(HF.out.below.cell (p:=⟨b,off+(k*8+7),none⟩) f).trans (hc 7 _ rfl)
   have t:Hid (Qa ds[k]<=1048576):=Zb0 Qa ds k q (by have:=HZ.out;simp only[QK]at this;omega)
   obtain ⟨x,hx⟩:∃x,x=ds[k]:=⟨_,rfl⟩
   have HX:=yS hx
   rw [<-hx]at HR q0 q1 q2 q3 q4 q5 q6 q7 t
   clear hc g hx
   go_wp2_with fail
   refine (Zs9 _ x Lk _ t.out HR.out).mono ?_
   rintro e w2 ⟨cs2,M2,rfl,g2,o⟩
   have HF2:=yS (HF.out.later o)
   have HS:=yS (HF.out.store a HN.out (fun _=>HX.out) o g2)
   obtain ⟨vA1,vc1,vA2,vc2,rfl⟩:=Zc1 g2.rep
   clear g2 o
   obtain ⟨d0,e0⟩:∃d,w2.cell? ⟨w.heap.size,k*8,none⟩=some d:=HF2.out.cell a (j:=0) yF
   have z0:=HF2.out.frozen (k*8)
   obtain ⟨d1,e1⟩:∃d,w2.cell? ⟨w.heap.size,k*8+1,none⟩=some d:=HF2.out.cell a (j:=1) yF
   have z1:=HF2.out.frozen (k*8+1)
   obtain ⟨d2,e2⟩:∃d,w2.cell? ⟨w.heap.size,k*8+2,none⟩=some d:=HF2.out.cell a (j:=2) yF
   have z2:=HF2.out.frozen (k*8+2)
   obtain ⟨d3,e3⟩:∃d,w2.cell? ⟨w.heap.size,k*8+3,none⟩=some d:=HF2.out.cell a (j:=3) yF
   have z3:=HF2.out.frozen (k*8+3)
   obtain ⟨d4,e4⟩:∃d,w2.cell? ⟨w.heap.size,k*8+4,none⟩=some d:=HF2.out.cell a (j:=4) yF
   have z4:=HF2.out.frozen (k*8+4)
   obtain ⟨d5,e5⟩:∃d,w2.cell? ⟨w.heap.size,k*8+5,none⟩=some d:=HF2.out.cell a (j:=5) yF
   have z5:=HF2.out.frozen (k*8+5)
   obtain ⟨d6,e6⟩:∃d,w2.cell? ⟨w.heap.size,k*8+6,none⟩=some d:=HF2.out.cell a (j:=6) yF
   have z6:=HF2.out.frozen (k*8+6)
   obtain ⟨d7,e7⟩:∃d,w2.cell? ⟨w.heap.size,k*8+7,none⟩=some d:=HF2.out.cell a (j:=7) yF
   have z7:=HF2.out.frozen (k*8+7)
   go_wp2_with fail
   go_roundw
   case rel=>exact ⟨k+1,yE,by go_num,HS.out⟩
   case measure=>simp [intOf];omega
  .obtain rfl:k=n:=by omega
   go_wp2
   go_ret
   exact ⟨_,rfl,HF.out.done HN.out⟩
theorem Znb (cs:List Value) (x:Ze) (L:List Nat) (w:World) (hz:Yw x<=1048576) (h:ZdS.rep w cs x L):
  Calls prog 17 #[.agg cs.toArray] w (ZcM ZdS w x):=by
 obtain ⟨A1,c1,L1,A2,c2,L2,A3,c3,L3,A4,c4,L4,A5,c5,L5,rfl,_hL,n1,m1,s1,n2,m2,s2,n3,m3,s3,n4,m4,s4,n5,m5,s5⟩:=h
 unfold maxLen at m1 m2 m3 m4 m5
 have S1:=yS s1
 clear s1
 have S2:=yS s2
 clear s2
 have S3:=yS s3
 clear s3
 have S4:=yS s4
 clear s4
 have S5:=yS s5
 clear s5
 simp only[Yw]at hz
 go_enter func17,ntmps17
 go_wp2_with fail
 refine (Zky A1 _ c1 x.rules L1 _ rfl yE (S1.out.below yI)).mono ?_
 rintro e w1 ⟨v1,rfl,a1⟩
 obtain ⟨A,B,rfl⟩:=a1.shape
 have C:=a1.below
 obtain ⟨M1,g1⟩:=a1.got
 clear a1
 have G1:=yS (g1.mono (show w.heap.size+3<=_ by simp))
 have M:=yS g1.lt
 clear g1
 have B1:Hid (Below w.heap.size w w1):=Below.trans yI (C.mono yK)
 have K0:Hid (Blk w1 w.heap.size 33 #[.slice A1 x.rules.length c1,.slice A2 x.ends.length c2,.slice A3 x.alphas.length c3,.slice A4 x.nodes.length c4,.slice A5 x.facts.length c5,.int .i64 x.tries]):=Blk.later (Blk.alloc (Blk.alloc (Blk.new _ _ _) _) _) C
 have K1:Hid (Blk w1 (w.heap.size+1) 48 #[.slice none 0 0,.slice none 0 0,.slice none 0 0,.slice none 0 0,.slice none 0 0,.int .i64 0]):=Blk.later (Blk.alloc (Blk.new_at yG) _) C
 have K2:Hid (Blk w1 (w.heap.size+1+1) 48 #[.slice none 0 0,.slice none 0 0,.slice none 0 0,.slice none 0 0,.slice none 0 0,.int .i64 0]):=Blk.later (Blk.new_at yG) C
 obtain ⟨f0,f1,f2,f3,f4,f5⟩:=K0.out.at6
 obtain ⟨r0,r1,r2,r3,r4,r5⟩:=K1.out.at6
 obtain ⟨o0,o1,o2,o3,o4,o5⟩:=K2.out.at6
 obtain ⟨f,g,i,j,k,l⟩:=K1.out.fr6
 obtain ⟨m,p,q,t,u,y⟩:=K2.out.fr6
 have hz1:w.heap.size+2<w1.heap.size:=by have:=C.size;simp at this;omega
 clear C
 go_wp2_with fail
 refine (ZmG A2 _ c2 x.ends L2 _ rfl yE (S2.out.below (by repeat (first|refine Below.setCell ?_ (by dsimp only;omega) _|refine Below.alloc ?_ yK _|exact B1.out)))).mono ?_
 rintro e w2 ⟨v2,rfl,a2⟩
 obtain ⟨D,E,rfl⟩:=a2.shape
 have z:=a2.below
 obtain ⟨M2,g2⟩:=a2.got
 clear a2
 have G2:=yS (g2.mono (show w1.heap.size<=_ by simp))
 have N:=yS g2.lt
 clear g2
 have B2:Hid (Below w.heap.size w w2):=Below.trans (by repeat (first|refine Below.setCell ?_ (by dsimp only;omega) _|refine Below.alloc ?_ yK _|exact B1.out)) (z.mono yK)
 have G1:Hid (Got (Yb Xj) (w.heap.size+3) [.slice A x.rules.length B] x.rules M1 w2):=Got.later (by repeat (first|refine Got.setCell ?_ (by dsimp only;omega) _|exact G1.out)) z
 have K0:=yS (Blk.later (Blk.far K0.out (by dsimp only;omega) _) z)
 have K1:=yS (Blk.later (Blk.far K1.out (by dsimp only;omega) _) z)
 have K2:=yS (Blk.later (Blk.set_ K2.out 0 _) z)
 clear f0 r0 o0 f m f1 r1 o1 g p f2 r2 o2 i q f3 r3 o3 j t f4 r4 o4 k u f5 r5 o5 l y
 obtain ⟨f0,f1,f2,f3,f4,f5⟩:=K0.out.at6
 obtain ⟨r0,r1,r2,r3,r4,r5⟩:=K1.out.at6
 obtain ⟨o0,o1,o2,o3,o4,o5⟩:=K2.out.at6
 obtain ⟨f,g,i,j,k,l⟩:=K1.out.fr6
 obtain ⟨m,p,q,t,u,y⟩:=K2.out.fr6
 have hz2:w.heap.size+2<w2.heap.size:=by have:=z.size;simp at this;omega
 have hy2:w1.heap.size<=w2.heap.size:=by have:=z.size;simp at this;omega
 clear z
 go_wp2_with fail
 refine (Zpw A3 _ c3 x.alphas L3 _ rfl yE (S3.out.below (by repeat (first|refine Below.setCell ?_ (by dsimp only;omega) _|refine Below.alloc ?_ yK _|exact B2.out)))).mono ?_
 rintro e w3 ⟨v3,rfl,a3⟩
 obtain ⟨F,G,rfl⟩:=a3.shape
 have d:=a3.below
 obtain ⟨M3,g3⟩:=a3.got
 clear a3
 have G3:=yS (g3.mono (show w2.heap.size<=_ by simp))
 have O:=yS g3.lt
 clear g3
 have B3:Hid (Below w.heap.size w w3):=Below.trans (by repeat (first|refine Below.setCell ?_ (by dsimp only;omega) _|refine Below.alloc ?_ yK _|exact B2.out)) (d.mono yK)
 have G1:Hid (Got (Yb Xj) (w.heap.size+3) [.slice A x.rules.length B] x.rules M1 w3):=Got.later (by repeat (first|refine Got.setCell ?_ (by dsimp only;omega) _|exact G1.out)) d
 have G2:Hid (Got (Yb ZgI) (w1.heap.size) [.slice D x.ends.length E] x.ends M2 w3):=Got.later (by repeat (first|refine Got.setCell ?_ (by dsimp only;omega) _|exact G2.out)) d
 have K0:=yS (Blk.later (Blk.far K0.out (by dsimp only;omega) _) d)
 have K1:=yS (Blk.later (Blk.far K1.out (by dsimp only;omega) _) d)
 have K2:=yS (Blk.later (Blk.set_ K2.out 1 _) d)
 clear f0 r0 o0 f m f1 r1 o1 g p f2 r2 o2 i q f3 r3 o3 j t f4 r4 o4 k u f5 r5 o5 l y
 obtain ⟨f0,f1,f2,f3,f4,f5⟩:=K0.out.at6
 obtain ⟨r0,r1,r2,r3,r4,r5⟩:=K1.out.at6
 obtain ⟨o0,o1,o2,o3,o4,o5⟩:=K2.out.at6
 obtain ⟨f,g,i,j,k,l⟩:=K1.out.fr6
 obtain ⟨m,p,q,t,u,y⟩:=K2.out.fr6
 have hz3:w.heap.size+2<w3.heap.size:=by have:=d.size;simp at this;omega
 have hy3:w2.heap.size<=w3.heap.size:=by have:=d.size;simp at this;omega
 clear d
 go_wp2_with fail
 refine (Zrv A4 _ c4 x.nodes L4 _ rfl yE (S4.out.below (by repeat (first|refine Below.setCell ?_ (by dsimp only;omega) _|refine Below.alloc ?_ yK _|exact B3.out)))).mono ?_
 rintro e w4 ⟨v4,rfl,a4⟩
 obtain ⟨H,I,rfl⟩:=a4.shape
 have c:=a4.below
 obtain ⟨M4,g4⟩:=a4.got
 clear a4
 have G4:=yS (g4.mono (show w3.heap.size<=_ by simp))
 have P:=yS g4.lt
 clear g4
 have B4:Hid (Below w.heap.size w w4):=Below.trans (by repeat (first|refine Below.setCell ?_ (by dsimp only;omega) _|refine Below.alloc ?_ yK _|exact B3.out)) (c.mono yK)
 have G1:Hid (Got (Yb Xj) (w.heap.size+3) [.slice A x.rules.length B] x.rules M1 w4):=Got.later (by repeat (first|refine Got.setCell ?_ (by dsimp only;omega) _|exact G1.out)) c
 have G2:Hid (Got (Yb ZgI) (w1.heap.size) [.slice D x.ends.length E] x.ends M2 w4):=Got.later (by repeat (first|refine Got.setCell ?_ (by dsimp only;omega) _|exact G2.out)) c
 have G3:Hid (Got (Yb Y2) (w2.heap.size) [.slice F x.alphas.length G] x.alphas M3 w4):=Got.later (by repeat (first|refine Got.setCell ?_ (by dsimp only;omega) _|exact G3.out)) c
 have K0:=yS (Blk.later (Blk.far K0.out (by dsimp only;omega) _) c)
 have K1:=yS (Blk.later (Blk.far K1.out (by dsimp only;omega) _) c)
 have K2:=yS (Blk.later (Blk.set_ K2.out 2 _) c)
 clear f0 r0 o0 f m f1 r1 o1 g p f2 r2 o2 i q f3 r3 o3 j t f4 r4 o4 k u f5 r5 o5 l y
 obtain ⟨f0,f1,f2,f3,f4,f5⟩:=K0.out.at6
 obtain ⟨r0,r1,r2,r3,r4,r5⟩:=K1.out.at6
 obtain ⟨o0,o1,o2,o3,o4,o5⟩:=K2.out.at6
 obtain ⟨f,g,i,j,k,l⟩:=K1.out.fr6
 obtain ⟨m,p,q,t,u,y⟩:=K2.out.fr6
 have hz4:w.heap.size+2<w4.heap.size:=by have:=c.size;simp at this;omega
 have hy4:w3.heap.size<=w4.heap.size:=by have:=c.size;simp at this;omega
 clear c
 go_wp2_with fail
 refine (ZgD A5 _ c5 x.facts L5 _ rfl yE (S5.out.below (by repeat (first|refine Below.setCell ?_ (by dsimp only;omega) _|refine Below.alloc ?_ yK _|exact B4.out)))).mono ?_
 rintro e w5 ⟨v5,rfl,a5⟩
 obtain ⟨J,K,rfl⟩:=a5.shape
 have a:=a5.below
 obtain ⟨M5,g5⟩:=a5.got
 clear a5
 have G5:=yS (g5.mono (show w4.heap.size<=_ by simp))
 have lt5:=yS g5.lt
 clear g5
 have B5:Hid (Below w.heap.size w w5):=Below.trans (by repeat (first|refine Below.setCell ?_ (by dsimp only;omega) _|refine Below.alloc ?_ yK _|exact B4.out)) (a.mono yK)
 have G1:Hid (Got (Yb Xj) (w.heap.size+3) [.slice A x.rules.length B] x.rules M1 w5):=Got.later (by repeat (first|refine Got.setCell ?_ (by dsimp only;omega) _|exact G1.out)) a
 have G2:Hid (Got (Yb ZgI) (w1.heap.size) [.slice D x.ends.length E] x.ends M2 w5):=Got.later (by repeat (first|refine Got.setCell ?_ (by dsimp only;omega) _|exact G2.out)) a
 have G3:Hid (Got (Yb Y2) (w2.heap.size) [.slice F x.alphas.length G] x.alphas M3 w5):=Got.later (by repeat (first|refine Got.setCell ?_ (by dsimp only;omega) _|exact G3.out)) a
 have G4:Hid (Got (Yb QX) (w3.heap.size) [.slice H x.nodes.length I] x.nodes M4 w5):=Got.later (by repeat (first|refine Got.setCell ?_ (by dsimp only;omega) _|exact G4.out)) a
 have K0:=yS (Blk.later (Blk.far K0.out (by dsimp only;omega) _) a)
 have K1:=yS (Blk.later (Blk.far K1.out (by dsimp only;omega) _) a)
 have K2:=yS (Blk.later (Blk.set_ K2.out 3 _) a)
 clear f0 r0 o0 f m f1 r1 o1 g p f2 r2 o2 i q f3 r3 o3 j t f4 r4 o4 k u f5 r5 o5 l y
 obtain ⟨f0,f1,f2,f3,f4,f5⟩:=K0.out.at6
 obtain ⟨r0,r1,r2,r3,r4,r5⟩:=K1.out.at6
 obtain ⟨o0,o1,o2,o3,o4,o5⟩:=K2.out.at6
 obtain ⟨f,g,i,j,k,l⟩:=K1.out.fr6
 obtain ⟨m,p,q,t,u,y⟩:=K2.out.fr6
 have hz5:w.heap.size+2<w5.heap.size:=by have:=a.size;simp at this;omega
 have hy5:w4.heap.size<=w5.heap.size:=by have:=a.size;simp at this;omega
 clear a
 go_wp2_with fail
 refine bodyPost_ret (v:=.agg #[.slice A x.rules.length B,.slice D x.ends.length E,.slice F x.alphas.length G,.slice H x.nodes.length I,.slice J x.facts.length K,.int .i64 x.tries]) (by simp [results,results17,go_sem,r0,r1,r2,r3,r4,r5]) rfl ?_
 obtain ⟨Q,R,S⟩:=ZZ G1.out.rep
 obtain ⟨T,U,V⟩:=ZZ G2.out.rep
 obtain ⟨W,X,Y⟩:=ZZ G3.out.rep
 obtain ⟨Z,aa,ab⟩:=ZZ G4.out.rep
 obtain ⟨ac,ad,ae⟩:=ZZ G5.out.rep
 exact XT (wr:=w5) (M1++(M2++(M3++(M4++M5)))) ⟨⟨A,B,M1,D,E,M2,F,G,M3,H,I,M4,J,K,M5,rfl,rfl,Q,R,S,T,U,V,W,X,Y,Z,aa,ab,ac,ad,ae⟩,by have o:=(Own.append G1.out.own (Own.append G2.out.own (Own.append G3.out.own (Own.append G4.out.own G5.out.own yE P.out) yE O.out) yE N.out) yE M.out);simpa only [AB]using o⟩ (by intro b hb;repeat rw [Below.heap_setCell _ _ _ _ (by dsimp only;omega)]) (by repeat (first|refine Below.setCell ?_ (by dsimp only;omega) _|refine Below.alloc ?_ yK _|exact B5.out))
theorem Zrn (cs:List Value) (x:Z2) (L:List Nat) (w:World) (hz:YR x<=1048576) (h:Y8.rep w cs x L):
  Calls prog 101 #[.agg cs.toArray] w (ZcM Y8 w x):=by
 obtain ⟨A1,c1,L1,rfl,_hL,t0,n1,m1,s1⟩:=h
 unfold maxLen at m1
 have S1:=yS s1
 clear s1
 simp only[YR]at hz
 go_enter func101,ntmps101
 go_wp2_with fail
 refine (Zid [.string x.fact.rel,.slice A1 x.fact.args.length c1] x.fact _ _ yE ⟨A1,c1,L1,rfl,rfl,t0,n1,(by unfold maxLen;omega),S1.out.below yI⟩).mono ?_
 rintro e w1 ⟨cs1,M1,rfl,g1,a⟩
 obtain ⟨c,d,rfl⟩:=Zaz g1.rep
 have G1:=yS (g1.mono (show w.heap.size+3<=_ by simp))
 have lt1:=yS g1.lt
 clear g1
 have B1:Hid (Below w.heap.size w w1):=Below.trans yI (a.mono yK)
 have K0:Hid (Blk w1 w.heap.size 143 #[.string x.fact.rel,.slice A1 x.fact.args.length c1,.int .i64 x.time]):=Blk.later (Blk.alloc (Blk.alloc (Blk.new _ _ _) _) _) a
 have K1:Hid (Blk w1 (w.heap.size+1) 85 #[.string ⟨#[]⟩,.slice none 0 0,.int .i64 0]):=Blk.later (Blk.alloc (Blk.new_at yG) _) a
 have K2:Hid (Blk w1 (w.heap.size+1+1) 85 #[.string ⟨#[]⟩,.slice none 0 0,.int .i64 0]):=Blk.later (Blk.new_at yG) a
 obtain ⟨f0,f1,f2⟩:=K0.out.at3
 obtain ⟨r0,r1,r2⟩:=K1.out.at3
 obtain ⟨o0,o1,o2⟩:=K2.out.at3
 obtain ⟨rz0,rz1,rz2⟩:=K1.out.fr3
 obtain ⟨oz0,oz1,oz2⟩:=K2.out.fr3
 have hz1:w.heap.size+2<w1.heap.size:=by have:=a.size;simp at this;omega
 clear a
 go_wp2_with fail
 refine bodyPost_ret (v:=.agg #[.string x.fact.rel,.slice c x.fact.args.length d,.int .i64 x.time]) (by simp [results,results101,go_sem,r0,r1,r2]) rfl ?_
 obtain ⟨_,_,N1,f,g,_,i,j,k⟩:=G1.out.rep
 cases f
 subst g
 exact XT (wr:=w1) (M1) ⟨⟨c,d,M1,rfl,rfl,t0,i,j,k⟩,by have o:=G1.out.own;simpa only [AB]using o⟩ (by intro b hb;repeat rw [Below.heap_setCell _ _ _ _ (by dsimp only;omega)]) (by repeat (first|refine Below.setCell ?_ (by dsimp only;omega) _|refine Below.alloc ?_ yK _|exact B1.out))
theorem infoStamp:(prog.info? 85).map (fun i=>(i.zero,i.size,i.bytes))=some (some (.agg #[.string ⟨#[]⟩,.slice none 0 0,.int .i64 0]),3,48):=yO
theorem Zpr (A:Option Addr) (n c:Nat) (ds:List Z2) (L:List Nat) (w:World) (hn:n=ds.length) (hz:Y5 ds<=1048576) (h:Sli Y8 w A ds L):
  Calls prog 51 #[.slice A n c] w (Zbg Y8 85 w ds):=by
 obtain ⟨i0,hi,u,v,z⟩:=info_parts infoStamp
 have H:=yS h
 have HN:=yS hn
 have hm:n<=1048576:=by simp only[Y5]at hz;omega
 have HZ:=yS hz
 clear h hn hz
 go_enter func51,ntmps51
 go_wp2_with (at_make;refine wpList_make_full _ rfl _ _ 39 rfl w.heap.size 85 i0 _ 3 underlying39 hi u v .i64 .i64 _ _ n rfl rfl rfl rfl (by rw [z];omega) (by unfold maxLen;omega) (A0 _) ?_;intro w1 g hg)
 have hb:Below w.heap.size w w1:=(Below.refl _ _).grown hg (A0 _) yG
 have HF0:Hid (ZG Y8 85 w n ds 0 w1):=ZG.start g hb
 clear g hg hb
 go_wp2
 go_loopw [4] (fun i wr=>∃(k:Nat),k<=n/\i=.int .i64 k/\Hid (ZG Y8 85 w n ds k wr)) (fun i _=>n - (intOf i).toNat)
 case atStart=>exact ⟨0,AA _,rfl,HF0⟩
 case round=>
  obtain ⟨k,hk,rfl,HF⟩:=hrel
  by_cases f:k<n
  .have q:k<ds.length:=by have:=HN.out;omega
   obtain ⟨b,off,cs,Lk,rfl,B,C,a,hc⟩:=H.out.at_ q
   have l:b<w.heap.size:=H.out.lt b B
   have HR:=yS (Y8.keep a (Zo HF.out.below (fun y m=>H.out.lt y (C y m))))
   obtain ⟨A1,c1,rfl⟩:=Zb4 a
   have q0:wr.cell? ⟨b,off+k*3,none⟩=_:=(HF.out.below.cell (p:=⟨b,off+(k*3+0),none⟩) l).trans (hc 0 _ rfl)
   have q1:wr.cell? ⟨b,off+k*3+1,none⟩=_:=(HF.out.below.cell (p:=⟨b,off+(k*3+1),none⟩) l).trans (hc 1 _ rfl)
   have q2:wr.cell? ⟨b,off+k*3+2,none⟩=_:=(HF.out.below.cell (p:=⟨b,off+(k*3+2),none⟩) l).trans (hc 2 _ rfl)
   have t:Hid (YR ds[k]<=1048576):=Zb0 YR ds k q (by have:=HZ.out;simp only[Y5]at this;omega)
   obtain ⟨x,hx⟩:∃x,x=ds[k]:=⟨_,rfl⟩
   have HX:=yS hx
   rw [<-hx]at HR q0 q1 q2 t
   clear hc a hx
   go_wp2_with fail
   refine (Zrn _ x Lk _ t.out HR.out).mono ?_
   rintro e w2 ⟨cs2,M2,rfl,g2,o⟩
   have HF2:=yS (HF.out.later o)
   have HS:=yS (HF.out.store f HN.out (fun _=>HX.out) o g2)
   obtain ⟨vA1,vc1,rfl⟩:=Zb4 g2.rep
   clear g2 o
   obtain ⟨d0,e0⟩:∃d,w2.cell? ⟨w.heap.size,k*3,none⟩=some d:=HF2.out.cell f (j:=0) yF
   have z0:=HF2.out.frozen (k*3)
   obtain ⟨d1,e1⟩:∃d,w2.cell? ⟨w.heap.size,k*3+1,none⟩=some d:=HF2.out.cell f (j:=1) yF
   have z1:=HF2.out.frozen (k*3+1)
   obtain ⟨d2,e2⟩:∃d,w2.cell? ⟨w.heap.size,k*3+2,none⟩=some d:=HF2.out.cell f (j:=2) yF
   have z2:=HF2.out.frozen (k*3+2)
   go_wp2_with fail
   go_roundw
   case rel=>exact ⟨k+1,yE,by go_num,HS.out⟩
   case measure=>simp [intOf];omega
  .obtain rfl:k=n:=by omega
   go_wp2
   go_ret
   exact ⟨_,rfl,HF.out.done HN.out⟩
theorem Zpu (cs:List Value) (x:ZX) (L:List Nat) (w:World) (hz:YS x<=1048576) (h:Yz.rep w cs x L):
  Calls prog 102 #[.agg cs.toArray] w (ZcM Yz w x):=by
 obtain ⟨A1,c1,L1,rfl,_hL,t0,n1,m1,s1⟩:=h
 unfold maxLen at m1
 have S1:=yS s1
 clear s1
 simp only[YS]at hz
 go_enter func102,ntmps102
 go_wp2_with fail
 refine (ZmG A1 _ c1 x.times L1 _ rfl yE (S1.out.below yI)).mono ?_
 rintro e w1 ⟨v1,rfl,a1⟩
 obtain ⟨c,d,rfl⟩:=a1.shape
 have a:=a1.below
 obtain ⟨M1,g1⟩:=a1.got
 clear a1
 have G1:=yS (g1.mono (show w.heap.size+3<=_ by simp))
 have lt1:=yS g1.lt
 clear g1
 have B1:Hid (Below w.heap.size w w1):=Below.trans yI (a.mono yK)
 have K0:Hid (Blk w1 w.heap.size 145 #[.string x.rule,.slice A1 x.times.length c1]):=Blk.later (Blk.alloc (Blk.alloc (Blk.new _ _ _) _) _) a
 have K1:Hid (Blk w1 (w.heap.size+1) 88 #[.string ⟨#[]⟩,.slice none 0 0]):=Blk.later (Blk.alloc (Blk.new_at yG) _) a
 have K2:Hid (Blk w1 (w.heap.size+1+1) 88 #[.string x.rule,.slice none 0 0]):=Blk.later (Blk.new_at yG) a
 obtain ⟨f0,f1⟩:=K0.out.at2
 obtain ⟨r0,r1⟩:=K1.out.at2
 obtain ⟨o0,o1⟩:=K2.out.at2
 obtain ⟨rz0,rz1⟩:=K1.out.fr2
 obtain ⟨oz0,oz1⟩:=K2.out.fr2
 have hz1:w.heap.size+2<w1.heap.size:=by have:=a.size;simp at this;omega
 clear a
 go_wp2_with fail
 refine bodyPost_ret (v:=.agg #[.string x.rule,.slice c x.times.length d]) (by simp [results,results102,go_sem,r0,r1]) rfl ?_
 obtain ⟨f,g,i⟩:=ZZ G1.out.rep
 exact XT (wr:=w1) (M1) ⟨⟨c,d,M1,rfl,rfl,t0,f,g,i⟩,by have o:=G1.out.own;simpa only [AB]using o⟩ (by intro b hb;repeat rw [Below.heap_setCell _ _ _ _ (by dsimp only;omega)]) (by repeat (first|refine Below.setCell ?_ (by dsimp only;omega) _|refine Below.alloc ?_ yK _|exact B1.out))
theorem infoFiring:(prog.info? 88).map (fun i=>(i.zero,i.size,i.bytes))=some (some (.agg #[.string ⟨#[]⟩,.slice none 0 0]),2,40):=yO
theorem ZnT (A:Option Addr) (n c:Nat) (ds:List ZX) (L:List Nat) (w:World) (hn:n=ds.length) (hz:Xk ds<=1048576) (h:Sli Yz w A ds L):
  Calls prog 52 #[.slice A n c] w (Zbg Yz 88 w ds):=by
 obtain ⟨i0,hi,u,v,z⟩:=info_parts infoFiring
 have H:=yS h
 have HN:=yS hn
 have hm:n<=1048576:=by simp only[Xk]at hz;omega
 have HZ:=yS hz
 clear h hn hz
 go_enter func52,ntmps52
 go_wp2_with (at_make;refine wpList_make_full _ rfl _ _ 40 rfl w.heap.size 88 i0 _ 2 underlying40 hi u v .i64 .i64 _ _ n rfl rfl rfl rfl (by rw [z];omega) (by unfold maxLen;omega) (A0 _) ?_;intro w1 f hg)
 have hb:Below w.heap.size w w1:=(Below.refl _ _).grown hg (A0 _) yG
 have HF0:Hid (ZG Yz 88 w n ds 0 w1):=ZG.start f hb
 clear f hg hb
 go_wp2
 go_loopw [4] (fun i wr=>∃(k:Nat),k<=n/\i=.int .i64 k/\Hid (ZG Yz 88 w n ds k wr)) (fun i _=>n - (intOf i).toNat)
 case atStart=>exact ⟨0,AA _,rfl,HF0⟩
 case round=>
  obtain ⟨k,hk,rfl,HF⟩:=hrel
  by_cases g:k<n
  .have o:k<ds.length:=by have:=HN.out;omega
   obtain ⟨b,off,cs,Lk,rfl,B,C,a,hc⟩:=H.out.at_ o
   have q:b<w.heap.size:=H.out.lt b B
   have HR:=yS (Yz.keep a (Zo HF.out.below (fun y m=>H.out.lt y (C y m))))
   obtain ⟨A1,c1,rfl⟩:=Za5 a
   have q0:wr.cell? ⟨b,off+k*2,none⟩=_:=(HF.out.below.cell (p:=⟨b,off+(k*2+0),none⟩) q).trans (hc 0 _ rfl)
   have q1:wr.cell? ⟨b,off+k*2+1,none⟩=_:=(HF.out.below.cell (p:=⟨b,off+(k*2+1),none⟩) q).trans (hc 1 _ rfl)
   have t:Hid (YS ds[k]<=1048576):=Zb0 YS ds k o (by have:=HZ.out;simp only[Xk]at this;omega)
   obtain ⟨x,hx⟩:∃x,x=ds[k]:=⟨_,rfl⟩
   have HX:=yS hx
   rw [<-hx]at HR q0 q1 t
   clear hc a hx
   go_wp2_with fail
   refine (Zpu _ x Lk _ t.out HR.out).mono ?_
   rintro e w2 ⟨cs2,M2,rfl,g2,l⟩
   have HF2:=yS (HF.out.later l)
   have HS:=yS (HF.out.store g HN.out (fun _=>HX.out) l g2)
   obtain ⟨vA1,vc1,rfl⟩:=Za5 g2.rep
   clear g2 l
   obtain ⟨d0,e0⟩:∃d,w2.cell? ⟨w.heap.size,k*2,none⟩=some d:=HF2.out.cell g (j:=0) yF
   have z0:=HF2.out.frozen (k*2)
   obtain ⟨d1,e1⟩:∃d,w2.cell? ⟨w.heap.size,k*2+1,none⟩=some d:=HF2.out.cell g (j:=1) yF
   have z1:=HF2.out.frozen (k*2+1)
   go_wp2_with fail
   go_roundw
   case rel=>exact ⟨k+1,yE,by go_num,HS.out⟩
   case measure=>simp [intOf];omega
  .obtain rfl:k=n:=by omega
   go_wp2
   go_ret
   exact ⟨_,rfl,HF.out.done HN.out⟩
theorem Zr7 (cs:List Value) (x:Y3) (L:List Nat) (w:World) (hz:Xo x<=1048576) (h:Xz.rep w cs x L):
  Calls prog 103 #[.agg cs.toArray] w (ZcM Xz w x):=by
 obtain ⟨A1,c1,L1,rfl,_hL,t0,t1,n1,m1,s1⟩:=h
 unfold maxLen at m1
 have S1:=yS s1
 clear s1
 simp only[Xo]at hz
 go_enter func103,ntmps103
 go_wp2_with fail
 refine (Zid [.string x.fact.rel,.slice A1 x.fact.args.length c1] x.fact _ _ yE ⟨A1,c1,L1,rfl,rfl,t1,n1,(by unfold maxLen;omega),S1.out.below yI⟩).mono ?_
 rintro e w1 ⟨cs1,M1,rfl,g1,a⟩
 obtain ⟨c,d,rfl⟩:=Zaz g1.rep
 have G1:=yS (g1.mono (show w.heap.size+3<=_ by simp))
 have lt1:=yS g1.lt
 clear g1
 have B1:Hid (Below w.heap.size w w1):=Below.trans yI (a.mono yK)
 have K0:Hid (Blk w1 w.heap.size 148 #[.int .i64 x.kind,.string x.rule,.string x.fact.rel,.slice A1 x.fact.args.length c1]):=Blk.later (Blk.alloc (Blk.alloc (Blk.new _ _ _) _) _) a
 have K1:Hid (Blk w1 (w.heap.size+1) 97 #[.int .i64 0,.string ⟨#[]⟩,.string ⟨#[]⟩,.slice none 0 0]):=Blk.later (Blk.alloc (Blk.new_at yG) _) a
 have K2:Hid (Blk w1 (w.heap.size+1+1) 97 #[.int .i64 x.kind,.string x.rule,.string ⟨#[]⟩,.slice none 0 0]):=Blk.later (Blk.new_at yG) a
 obtain ⟨f0,f1,f2,f3⟩:=K0.out.at4
 obtain ⟨r0,r1,r2,r3⟩:=K1.out.at4
 obtain ⟨o0,o1,o2,o3⟩:=K2.out.at4
 obtain ⟨rz0,rz1,rz2,rz3⟩:=K1.out.fr4
 obtain ⟨oz0,oz1,oz2,oz3⟩:=K2.out.fr4
 have hz1:w.heap.size+2<w1.heap.size:=by have:=a.size;simp at this;omega
 clear a
 go_wp2_with fail
 refine bodyPost_ret (v:=.agg #[.int .i64 x.kind,.string x.rule,.string x.fact.rel,.slice c x.fact.args.length d]) (by simp [results,results103,go_sem,r0,r1,r2,r3]) rfl ?_
 obtain ⟨_,_,N1,f,g,_,i,j,k⟩:=G1.out.rep
 cases f
 subst g
 exact XT (wr:=w1) (M1) ⟨⟨c,d,M1,rfl,rfl,t0,t1,i,j,k⟩,by have o:=G1.out.own;simpa only [AB]using o⟩ (by intro b hb;repeat rw [Below.heap_setCell _ _ _ _ (by dsimp only;omega)]) (by repeat (first|refine Below.setCell ?_ (by dsimp only;omega) _|refine Below.alloc ?_ yK _|exact B1.out))
theorem infoEvent:(prog.info? 97).map (fun i=>(i.zero,i.size,i.bytes))=some (some (.agg #[.int .i64 0,.string ⟨#[]⟩,.string ⟨#[]⟩,.slice none 0 0]),4,64):=yO
theorem Zpe (A:Option Addr) (n c:Nat) (ds:List Y3) (L:List Nat) (w:World) (hn:n=ds.length) (hz:QC ds<=1048576) (h:Sli Xz w A ds L):
  Calls prog 53 #[.slice A n c] w (Zbg Xz 97 w ds):=by
 obtain ⟨i0,hi,u,v,z⟩:=info_parts infoEvent
 have H:=yS h
 have HN:=yS hn
 have hm:n<=1048576:=by simp only[QC]at hz;omega
 have HZ:=yS hz
 clear h hn hz
 go_enter func53,ntmps53
 go_wp2_with (at_make;refine wpList_make_full _ rfl _ _ 41 rfl w.heap.size 97 i0 _ 4 underlying41 hi u v .i64 .i64 _ _ n rfl rfl rfl rfl (by rw [z];omega) (by unfold maxLen;omega) (A0 _) ?_;intro w1 l hg)
 have hb:Below w.heap.size w w1:=(Below.refl _ _).grown hg (A0 _) yG
 have HF0:Hid (ZG Xz 97 w n ds 0 w1):=ZG.start l hb
 clear l hg hb
 go_wp2
 go_loopw [4] (fun i wr=>∃(k:Nat),k<=n/\i=.int .i64 k/\Hid (ZG Xz 97 w n ds k wr)) (fun i _=>n - (intOf i).toNat)
 case atStart=>exact ⟨0,AA _,rfl,HF0⟩
 case round=>
  obtain ⟨k,hk,rfl,HF⟩:=hrel
  by_cases a:k<n
  .have q:k<ds.length:=by have:=HN.out;omega
   obtain ⟨b,off,cs,Lk,rfl,B,C,f,hc⟩:=H.out.at_ q
   have g:b<w.heap.size:=H.out.lt b B
   have HR:=yS (Xz.keep f (Zo HF.out.below (fun y m=>H.out.lt y (C y m))))
   obtain ⟨A1,c1,rfl⟩:=ZbF f
   have q0:wr.cell? ⟨b,off+k*4,none⟩=_:=(HF.out.below.cell (p:=⟨b,off+(k*4+0),none⟩) g).trans (hc 0 _ rfl)
   have q1:wr.cell? ⟨b,off+k*4+1,none⟩=_:=(HF.out.below.cell (p:=⟨b,off+(k*4+1),none⟩) g).trans (hc 1 _ rfl)
   have q2:wr.cell? ⟨b,off+k*4+2,none⟩=_:=(HF.out.below.cell (p:=⟨b,off+(k*4+2),none⟩) g).trans (hc 2 _ rfl)
   have q3:wr.cell? ⟨b,off+k*4+3,none⟩=_:=(HF.out.below.cell (p:=⟨b,off+(k*4+3),none⟩) g).trans (hc 3 _ rfl)
   have t:Hid (Xo ds[k]<=1048576):=Zb0 Xo ds k q (by have:=HZ.out;simp only[QC]at this;omega)
   obtain ⟨x,hx⟩:∃x,x=ds[k]:=⟨_,rfl⟩
   have HX:=yS hx
   rw [<-hx]at HR q0 q1 q2 q3 t
   clear hc f hx
   go_wp2_with fail
   refine (Zr7 _ x Lk _ t.out HR.out).mono ?_
   rintro e w2 ⟨cs2,M2,rfl,g2,o⟩
   have HF2:=yS (HF.out.later o)
   have HS:=yS (HF.out.store a HN.out (fun _=>HX.out) o g2)
   obtain ⟨vA1,vc1,rfl⟩:=ZbF g2.rep
   clear g2 o
   obtain ⟨d0,e0⟩:∃d,w2.cell? ⟨w.heap.size,k*4,none⟩=some d:=HF2.out.cell a (j:=0) yF
   have z0:=HF2.out.frozen (k*4)
   obtain ⟨d1,e1⟩:∃d,w2.cell? ⟨w.heap.size,k*4+1,none⟩=some d:=HF2.out.cell a (j:=1) yF
   have z1:=HF2.out.frozen (k*4+1)
   obtain ⟨d2,e2⟩:∃d,w2.cell? ⟨w.heap.size,k*4+2,none⟩=some d:=HF2.out.cell a (j:=2) yF
   have z2:=HF2.out.frozen (k*4+2)
   obtain ⟨d3,e3⟩:∃d,w2.cell? ⟨w.heap.size,k*4+3,none⟩=some d:=HF2.out.cell a (j:=3) yF
   have z3:=HF2.out.frozen (k*4+3)
   go_wp2_with fail
   go_roundw
   case rel=>exact ⟨k+1,yE,by go_num,HS.out⟩
   case measure=>simp [intOf];omega
  .obtain rfl:k=n:=by omega
   go_wp2
   go_ret
   exact ⟨_,rfl,HF.out.done HN.out⟩
theorem ZpD (cs:List Value) (x:Yq) (L:List Nat) (w:World) (hz:YP x<=1048576) (h:ZeO.rep w cs x L):
  Calls prog 16 #[.agg cs.toArray] w (ZcM ZeO w x):=by
 obtain ⟨A1,c1,L1,A2,c2,L2,A3,c3,L3,A4,c4,L4,rfl,_hL,n1,m1,s1,n2,m2,s2,n3,m3,s3,n4,m4,s4⟩:=h
 unfold maxLen at m1 m2 m3 m4
 have S1:=yS s1
 clear s1
 have S2:=yS s2
 clear s2
 have S3:=yS s3
 clear s3
 have S4:=yS s4
 clear s4
 simp only[YP]at hz
 go_enter func16,ntmps16
 go_wp2_with fail
 refine (Zky A1 _ c1 x.rules L1 _ rfl yE (S1.out.below yI)).mono ?_
 rintro e w1 ⟨v1,rfl,a1⟩
 obtain ⟨A,B,rfl⟩:=a1.shape
 have f:=a1.below
 obtain ⟨M1,g1⟩:=a1.got
 clear a1
 have G1:=yS (g1.mono (show w.heap.size+3<=_ by simp))
 have I:=yS g1.lt
 clear g1
 have B1:Hid (Below w.heap.size w w1):=Below.trans yI (f.mono yK)
 have K0:Hid (Blk w1 w.heap.size 27 #[.slice A1 x.rules.length c1,.slice A2 x.memory.length c2,.int .i64 x.clock,.slice A3 x.fired.length c3,.bool x.halted,.slice A4 x.log.length c4]):=Blk.later (Blk.alloc (Blk.alloc (Blk.new _ _ _) _) _) f
 have K1:Hid (Blk w1 (w.heap.size+1) 43 #[.slice none 0 0,.slice none 0 0,.int .i64 0,.slice none 0 0,.bool false,.slice none 0 0]):=Blk.later (Blk.alloc (Blk.new_at yG) _) f
 have K2:Hid (Blk w1 (w.heap.size+1+1) 43 #[.slice none 0 0,.slice none 0 0,.int .i64 0,.slice none 0 0,.bool false,.slice none 0 0]):=Blk.later (Blk.new_at yG) f
 obtain ⟨f0,f1,f2,f3,f4,f5⟩:=K0.out.at6
 obtain ⟨r0,r1,r2,r3,r4,r5⟩:=K1.out.at6
 obtain ⟨o0,o1,o2,o3,o4,o5⟩:=K2.out.at6
 obtain ⟨g,i,j,k,l,m⟩:=K1.out.fr6
 obtain ⟨p,q,t,u,y,z⟩:=K2.out.fr6
 have hz1:w.heap.size+2<w1.heap.size:=by have:=f.size;simp at this;omega
 clear f
 go_wp2_with fail
 refine (Zpr A2 _ c2 x.memory L2 _ rfl yE (S2.out.below (by repeat (first|refine Below.setCell ?_ (by dsimp only;omega) _|refine Below.alloc ?_ yK _|exact B1.out)))).mono ?_
 rintro e w2 ⟨v2,rfl,a2⟩
 obtain ⟨C,D,rfl⟩:=a2.shape
 have d:=a2.below
 obtain ⟨M2,g2⟩:=a2.got
 clear a2
 have G2:=yS (g2.mono (show w1.heap.size<=_ by simp))
 have J:=yS g2.lt
 clear g2
 have B2:Hid (Below w.heap.size w w2):=Below.trans (by repeat (first|refine Below.setCell ?_ (by dsimp only;omega) _|refine Below.alloc ?_ yK _|exact B1.out)) (d.mono yK)
 have G1:Hid (Got (Yb Xj) (w.heap.size+3) [.slice A x.rules.length B] x.rules M1 w2):=Got.later (by repeat (first|refine Got.setCell ?_ (by dsimp only;omega) _|exact G1.out)) d
 have K0:=yS (Blk.later (Blk.far K0.out (by dsimp only;omega) _) d)
 have K1:=yS (Blk.later (Blk.far K1.out (by dsimp only;omega) _) d)
 have K2:=yS (Blk.later (Blk.set_ K2.out 0 _) d)
 clear f0 r0 o0 g p f1 r1 o1 i q f2 r2 o2 j t f3 r3 o3 k u f4 r4 o4 l y f5 r5 o5 m z
 obtain ⟨f0,f1,f2,f3,f4,f5⟩:=K0.out.at6
 obtain ⟨r0,r1,r2,r3,r4,r5⟩:=K1.out.at6
 obtain ⟨o0,o1,o2,o3,o4,o5⟩:=K2.out.at6
 obtain ⟨g,i,j,k,l,m⟩:=K1.out.fr6
 obtain ⟨p,q,t,u,y,z⟩:=K2.out.fr6
 have hz2:w.heap.size+2<w2.heap.size:=by have:=d.size;simp at this;omega
 have hy2:w1.heap.size<=w2.heap.size:=by have:=d.size;simp at this;omega
 clear d
 go_wp2_with fail
 refine (ZnT A3 _ c3 x.fired L3 _ rfl yE (S3.out.below (by repeat (first|refine Below.setCell ?_ (by dsimp only;omega) _|refine Below.alloc ?_ yK _|exact B2.out)))).mono ?_
 rintro e w3 ⟨v3,rfl,a3⟩
 obtain ⟨E,F,rfl⟩:=a3.shape
 have c:=a3.below
 obtain ⟨M3,g3⟩:=a3.got
 clear a3
 have G3:=yS (g3.mono (show w2.heap.size<=_ by simp))
 have K:=yS g3.lt
 clear g3
 have B3:Hid (Below w.heap.size w w3):=Below.trans (by repeat (first|refine Below.setCell ?_ (by dsimp only;omega) _|refine Below.alloc ?_ yK _|exact B2.out)) (c.mono yK)
 have G1:Hid (Got (Yb Xj) (w.heap.size+3) [.slice A x.rules.length B] x.rules M1 w3):=Got.later (by repeat (first|refine Got.setCell ?_ (by dsimp only;omega) _|exact G1.out)) c
 have G2:Hid (Got (Yb Y8) (w1.heap.size) [.slice C x.memory.length D] x.memory M2 w3):=Got.later (by repeat (first|refine Got.setCell ?_ (by dsimp only;omega) _|exact G2.out)) c
 have K0:=yS (Blk.later (Blk.far (Blk.far K0.out (by dsimp only;omega) _) (by dsimp only;omega) _) c)
 have K1:=yS (Blk.later (Blk.far (Blk.far K1.out (by dsimp only;omega) _) (by dsimp only;omega) _) c)
 have K2:=yS (Blk.later (Blk.set_ (Blk.set_ K2.out 1 _) 2 _) c)
 clear f0 r0 o0 g p f1 r1 o1 i q f2 r2 o2 j t f3 r3 o3 k u f4 r4 o4 l y f5 r5 o5 m z
 obtain ⟨f0,f1,f2,f3,f4,f5⟩:=K0.out.at6
 obtain ⟨r0,r1,r2,r3,r4,r5⟩:=K1.out.at6
 obtain ⟨o0,o1,o2,o3,o4,o5⟩:=K2.out.at6
 obtain ⟨g,i,j,k,l,m⟩:=K1.out.fr6
 obtain ⟨p,q,t,u,y,z⟩:=K2.out.fr6
 have hz3:w.heap.size+2<w3.heap.size:=by have:=c.size;simp at this;omega
 have hy3:w2.heap.size<=w3.heap.size:=by have:=c.size;simp at this;omega
 clear c
 go_wp2_with fail
 refine (Zpe A4 _ c4 x.log L4 _ rfl yE (S4.out.below (by repeat (first|refine Below.setCell ?_ (by dsimp only;omega) _|refine Below.alloc ?_ yK _|exact B3.out)))).mono ?_
 rintro e w4 ⟨v4,rfl,a4⟩
 obtain ⟨G,H,rfl⟩:=a4.shape
 have a:=a4.below
 obtain ⟨M4,g4⟩:=a4.got
 clear a4
 have G4:=yS (g4.mono (show w3.heap.size<=_ by simp))
 have lt4:=yS g4.lt
 clear g4
 have B4:Hid (Below w.heap.size w w4):=Below.trans (by repeat (first|refine Below.setCell ?_ (by dsimp only;omega) _|refine Below.alloc ?_ yK _|exact B3.out)) (a.mono yK)
 have G1:Hid (Got (Yb Xj) (w.heap.size+3) [.slice A x.rules.length B] x.rules M1 w4):=Got.later (by repeat (first|refine Got.setCell ?_ (by dsimp only;omega) _|exact G1.out)) a
 have G2:Hid (Got (Yb Y8) (w1.heap.size) [.slice C x.memory.length D] x.memory M2 w4):=Got.later (by repeat (first|refine Got.setCell ?_ (by dsimp only;omega) _|exact G2.out)) a
 have G3:Hid (Got (Yb Yz) (w2.heap.size) [.slice E x.fired.length F] x.fired M3 w4):=Got.later (by repeat (first|refine Got.setCell ?_ (by dsimp only;omega) _|exact G3.out)) a
 have K0:=yS (Blk.later (Blk.far (Blk.far K0.out (by dsimp only;omega) _) (by dsimp only;omega) _) a)
 have K1:=yS (Blk.later (Blk.far (Blk.far K1.out (by dsimp only;omega) _) (by dsimp only;omega) _) a)
 have K2:=yS (Blk.later (Blk.set_ (Blk.set_ K2.out 3 _) 4 _) a)
 clear f0 r0 o0 g p f1 r1 o1 i q f2 r2 o2 j t f3 r3 o3 k u f4 r4 o4 l y f5 r5 o5 m z
 obtain ⟨f0,f1,f2,f3,f4,f5⟩:=K0.out.at6
 obtain ⟨r0,r1,r2,r3,r4,r5⟩:=K1.out.at6
 obtain ⟨o0,o1,o2,o3,o4,o5⟩:=K2.out.at6
 obtain ⟨g,i,j,k,l,m⟩:=K1.out.fr6
 obtain ⟨p,q,t,u,y,z⟩:=K2.out.fr6
 have hz4:w.heap.size+2<w4.heap.size:=by have:=a.size;simp at this;omega
 have hy4:w3.heap.size<=w4.heap.size:=by have:=a.size;simp at this;omega
 clear a
 go_wp2_with fail
 refine bodyPost_ret (v:=.agg #[.slice A x.rules.length B,.slice C x.memory.length D,.int .i64 x.clock,.slice E x.fired.length F,.bool x.halted,.slice G x.log.length H]) (by simp [results,results16,go_sem,r0,r1,r2,r3,r4,r5]) rfl ?_
 obtain ⟨M,N,O⟩:=ZZ G1.out.rep
 obtain ⟨P,Q,R⟩:=ZZ G2.out.rep
 obtain ⟨S,T,U⟩:=ZZ G3.out.rep
 obtain ⟨V,W,X⟩:=ZZ G4.out.rep
 exact XT (wr:=w4) (M1++(M2++(M3++M4))) ⟨⟨A,B,M1,C,D,M2,E,F,M3,G,H,M4,rfl,rfl,M,N,O,P,Q,R,S,T,U,V,W,X⟩,by have o:=(Own.append G1.out.own (Own.append G2.out.own (Own.append G3.out.own G4.out.own yE K.out) yE J.out) yE I.out);simpa only [AB]using o⟩ (by intro b hb;repeat rw [Below.heap_setCell _ _ _ _ (by dsimp only;omega)]) (by repeat (first|refine Below.setCell ?_ (by dsimp only;omega) _|refine Below.alloc ?_ yK _|exact B4.out))
theorem Zih (cs:List Value) (x:ZaQ) (L:List Nat) (w:World) (hz:Qf x<=1048576) (h:ZbQ.rep w cs x L):
  Calls prog 6 #[.agg cs.toArray] w (ZcM ZbQ w x):=by
 obtain ⟨A1,c1,L1,A2,c2,L2,A3,c3,L3,A4,c4,L4,A5,c5,L5,A6,c6,L6,A7,c7,L7,A8,c8,L8,A9,c9,L9,rfl,_hL,n1,m1,s1,n2,m2,s2,n3,m3,s3,n4,m4,s4,n5,m5,s5,n6,m6,s6,n7,m7,s7,n8,m8,s8,n9,m9,s9⟩:=h
 unfold maxLen at m1 m2 m3 m4 m5 m6 m7 m8 m9
 have S1:=yS s1
 clear s1
 have S2:=yS s2
 clear s2
 have S3:=yS s3
 clear s3
 have S4:=yS s4
 clear s4
 have S5:=yS s5
 clear s5
 have S6:=yS s6
 clear s6
 have S7:=yS s7
 clear s7
 have S8:=yS s8
 clear s8
 have S9:=yS s9
 clear s9
 simp only[Qf]at hz
 go_enter func6,ntmps6
 go_wp2_with fail
 refine (ZpD [.slice A1 x.engine.rules.length c1,.slice A2 x.engine.memory.length c2,.int .i64 x.engine.clock,.slice A3 x.engine.fired.length c3,.bool x.engine.halted,.slice A4 x.engine.log.length c4] x.engine _ _ yE ⟨A1,c1,L1,A2,c2,L2,A3,c3,L3,A4,c4,L4,rfl,rfl,n1,(by unfold maxLen;omega),S1.out.below yI,n2,(by unfold maxLen;omega),S2.out.below yI,n3,(by unfold maxLen;omega),S3.out.below yI,n4,(by unfold maxLen;omega),S4.out.below yI⟩).mono ?_
 rintro e w1 ⟨cs1,M1,rfl,g1,c⟩
 obtain ⟨j,k,l,m,p,q,t,u,rfl⟩:=ZnQ g1.rep
 have G1:=yS (g1.mono (show w.heap.size+3<=_ by simp))
 have al:=yS g1.lt
 clear g1
 have B1:Hid (Below w.heap.size w w1):=Below.trans yI (c.mono yK)
 have K0:Hid (Blk w1 w.heap.size 35 #[.slice A1 x.engine.rules.length c1,.slice A2 x.engine.memory.length c2,.int .i64 x.engine.clock,.slice A3 x.engine.fired.length c3,.bool x.engine.halted,.slice A4 x.engine.log.length c4,.slice A5 x.network.rules.length c5,.slice A6 x.network.ends.length c6,.slice A7 x.network.alphas.length c7,.slice A8 x.network.nodes.length c8,.slice A9 x.network.facts.length c9,.int .i64 x.network.tries]):=Blk.later (Blk.alloc (Blk.alloc (Blk.new _ _ _) _) _) c
 have K1:Hid (Blk w1 (w.heap.size+1) 50 #[.slice none 0 0,.slice none 0 0,.int .i64 0,.slice none 0 0,.bool false,.slice none 0 0,.slice none 0 0,.slice none 0 0,.slice none 0 0,.slice none 0 0,.slice none 0 0,.int .i64 0]):=Blk.later (Blk.alloc (Blk.new_at yG) _) c
 have K2:Hid (Blk w1 (w.heap.size+1+1) 50 #[.slice none 0 0,.slice none 0 0,.int .i64 0,.slice none 0 0,.bool false,.slice none 0 0,.slice none 0 0,.slice none 0 0,.slice none 0 0,.slice none 0 0,.slice none 0 0,.int .i64 0]):=Blk.later (Blk.new_at yG) c
 obtain ⟨f0,f1,f2,f3,f4,f5,f6,f7,f8,f9,A,B⟩:=K0.out.at12
 obtain ⟨r0,r1,r2,r3,r4,r5,r6,r7,r8,r9,y,z⟩:=K1.out.at12
 obtain ⟨o0,o1,o2,o3,o4,o5,o6,o7,o8,o9,C,D⟩:=K2.out.at12
 obtain ⟨E,F,G,H,I,J,K,M,N,O,d,f⟩:=K1.out.fr12
 obtain ⟨P,Q,R,S,T,U,V,W,X,Y,g,i⟩:=K2.out.fr12
 have hz1:w.heap.size+2<w1.heap.size:=by have:=c.size;simp at this;omega
 clear c
 go_wp2_with fail
 refine (Znb [.slice A5 x.network.rules.length c5,.slice A6 x.network.ends.length c6,.slice A7 x.network.alphas.length c7,.slice A8 x.network.nodes.length c8,.slice A9 x.network.facts.length c9,.int .i64 x.network.tries] x.network _ _ yE ⟨A5,c5,L5,A6,c6,L6,A7,c7,L7,A8,c8,L8,A9,c9,L9,rfl,rfl,n5,(by unfold maxLen;omega),S5.out.below (by repeat (first|refine Below.setCell ?_ (by dsimp only;omega) _|refine Below.alloc ?_ yK _|exact B1.out)),n6,(by unfold maxLen;omega),S6.out.below (by repeat (first|refine Below.setCell ?_ (by dsimp only;omega) _|refine Below.alloc ?_ yK _|exact B1.out)),n7,(by unfold maxLen;omega),S7.out.below (by repeat (first|refine Below.setCell ?_ (by dsimp only;omega) _|refine Below.alloc ?_ yK _|exact B1.out)),n8,(by unfold maxLen;omega),S8.out.below (by repeat (first|refine Below.setCell ?_ (by dsimp only;omega) _|refine Below.alloc ?_ yK _|exact B1.out)),n9,(by unfold maxLen;omega),S9.out.below (by repeat (first|refine Below.setCell ?_ (by dsimp only;omega) _|refine Below.alloc ?_ yK _|exact B1.out))⟩).mono ?_
 rintro e w2 ⟨cs2,M2,rfl,g2,a⟩
 obtain ⟨Z,aa,ab,ac,ad,ae,af,ag,ah,ai,rfl⟩:=ZmV g2.rep
 have G2:=yS (g2.mono (show w1.heap.size<=_ by simp))
 have lt2:=yS g2.lt
 clear g2
 have B2:Hid (Below w.heap.size w w2):=Below.trans (by repeat (first|refine Below.setCell ?_ (by dsimp only;omega) _|refine Below.alloc ?_ yK _|exact B1.out)) (a.mono yK)
 have G1:Hid (Got ZeO (w.heap.size+3) [.slice j x.engine.rules.length k,.slice l x.engine.memory.length m,.int .i64 x.engine.clock,.slice p x.engine.fired.length q,.bool x.engine.halted,.slice t x.engine.log.length u] x.engine M1 w2):=Got.later (by repeat (first|refine Got.setCell ?_ (by dsimp only;omega) _|exact G1.out)) a
 have K0:=yS (Blk.later (Blk.far (Blk.far (Blk.far (Blk.far (Blk.far (Blk.far K0.out (by dsimp only;omega) _) (by dsimp only;omega) _) (by dsimp only;omega) _) (by dsimp only;omega) _) (by dsimp only;omega) _) (by dsimp only;omega) _) a)
 have K1:=yS (Blk.later (Blk.far (Blk.far (Blk.far (Blk.far (Blk.far (Blk.far K1.out (by dsimp only;omega) _) (by dsimp only;omega) _) (by dsimp only;omega) _) (by dsimp only;omega) _) (by dsimp only;omega) _) (by dsimp only;omega) _) a)
 have K2:=yS (Blk.later (Blk.set_ (Blk.set_ (Blk.set_ (Blk.set_ (Blk.set_ (Blk.set_ K2.out 0 _) 1 _) 2 _) 3 _) 4 _) 5 _) a)
 clear f0 r0 o0 E P f1 r1 o1 F Q f2 r2 o2 G R f3 r3 o3 H S f4 r4 o4 I T f5 r5 o5 J U f6 r6 o6 K V f7 r7 o7 M W f8 r8 o8 N X f9 r9 o9 O Y A y C d g B z D f i
 obtain ⟨f0,f1,f2,f3,f4,f5,f6,f7,f8,f9,A,B⟩:=K0.out.at12
 obtain ⟨r0,r1,r2,r3,r4,r5,r6,r7,r8,r9,y,z⟩:=K1.out.at12
 obtain ⟨o0,o1,o2,o3,o4,o5,o6,o7,o8,o9,C,D⟩:=K2.out.at12
 obtain ⟨E,F,G,H,I,J,K,M,N,O,d,f⟩:=K1.out.fr12
 obtain ⟨P,Q,R,S,T,U,V,W,X,Y,g,i⟩:=K2.out.fr12
 have hz2:w.heap.size+2<w2.heap.size:=by have:=a.size;simp at this;omega
 have hy2:w1.heap.size<=w2.heap.size:=by have:=a.size;simp at this;omega
 clear a
 go_wp2_with fail
 refine bodyPost_ret (v:=.agg #[.slice j x.engine.rules.length k,.slice l x.engine.memory.length m,.int .i64 x.engine.clock,.slice p x.engine.fired.length q,.bool x.engine.halted,.slice t x.engine.log.length u,.slice Z x.network.rules.length aa,.slice ab x.network.ends.length ac,.slice ad x.network.alphas.length ae,.slice af x.network.nodes.length ag,.slice ah x.network.facts.length ai,.int .i64 x.network.tries]) (by simp [results,results6,go_sem,r0,r1,r2,r3,r4,r5,r6,r7,r8,r9,y,z]) rfl ?_
 obtain ⟨_,_,N1,_,_,N2,_,_,N3,_,_,N4,aj,am,an,ao,ap,aq,ar,au,av,aw,ax,ay,az,a0⟩:=G1.out.rep
 cases aj
 subst am
 obtain ⟨_,_,N5,_,_,N6,_,_,N7,_,_,N8,_,_,N9,ak,a1,a2,a3,a4,a5,a6,a7,a8,a9,ba,bb,bc,bd,be,bf,bg⟩:=G2.out.rep
 cases ak
 subst a1
 exact XT (wr:=w2) (N1++(N2++(N3++(N4++(N5++(N6++(N7++(N8++N9)))))))) ⟨⟨j,k,N1,l,m,N2,p,q,N3,t,u,N4,Z,aa,N5,ab,ac,N6,ad,ae,N7,af,ag,N8,ah,ai,N9,rfl,rfl,an,ao,ap,aq,ar,au,av,aw,ax,ay,az,a0,a2,a3,a4,a5,a6,a7,a8,a9,ba,bb,bc,bd,be,bf,bg⟩,by have o:=(Own.append G1.out.own G2.out.own yE al.out);simpa only [AB]using o⟩ (by intro b hb;repeat rw [Below.heap_setCell _ _ _ _ (by dsimp only;omega)]) (by repeat (first|refine Below.setCell ?_ (by dsimp only;omega) _|refine Below.alloc ?_ yK _|exact B2.out))
end
end Go.Proofs.YtcaokdmjlknmmaaGreatDoor
