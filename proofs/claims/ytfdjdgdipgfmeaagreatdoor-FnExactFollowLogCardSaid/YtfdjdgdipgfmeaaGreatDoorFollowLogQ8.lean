/- Texts of this proof, joined; no conditions. -/
import Derived.Test.YtfdjdgdipgfmeaaGreatDoorProg
import Derived.Test.YtfdjdgdipgfmeaaGreatDoorFollowLogQ1
import Derived.Outline
import Derived.WalkSpells
import Derived.StillTailTactics
import Derived.WalkLawsBesides
import Derived.Test.YtfdjdgdipgfmeaaGreatDoorFollowLogQ7
open ByteArray renaming size→AL
open Go.ByteArray renaming mk_append_mk→AM
open Int renaming le_refl→AE,le_trans→AF
open List renaming drop_eq_getElem_cons→A9,drop_of_length_le→AA,append_assoc→AB,length_cons→AC,drop_zero→AD,map_cons→AG,sum_cons→AH
open Nat renaming le_refl→A0,zero_le→A6,mul_one→AI,add_zero→AJ
open UInt8 renaming ofNat→AK
open Go.Proofs.Tryz
set_option linter.unusedSimpArgs false
set_option linter.unusedVariables false
set_option maxRecDepth 1000000
set_option maxHeartbeats 4000000
open Go.Lib renaming hid→yS
namespace Go.Proofs.YtfdjdgdipgfmeaaGreatDoor
open Go.IntKind
noncomputable section
section
open Go.RowKit
theorem Zky (A:Option Addr) (n c:Nat) (ds:List BYT) (L:List Nat) (a:Int) (w:World) (C:n=ds.length) (I:n<=9223372036854775807) (M:0<=a) (K:a<=1048576) (h:Sli ZbY w A ds L):
  Calls prog 94 #[.slice A n c,.int .i64 a] w (QP (XA ds) a w):=by
 have H:=yS h;have HN:=yS C;clear h C;by_cases D:(n:Int)<=a
 .go_enter func94,ntmps94;go_wp2;go_loop [1,5] (fun q i=>∃(k:Nat) (l:Int),k<=n/\i=.int .i64 k/\q=.int .i64 l/\0<=l/\l<=a/\Hid (szR ((ds.drop k).map AL).sum l=szR (XA ds) a)) (fun _ i=>n - (intOf i).toNat)
  case atStart=>exact ⟨0,a - n,A6 _,rfl,rfl,yE,yE,yS (by
    have e:=HN.out;exact Xn _ _ _ _ yE (by simp [XA];omega))⟩
  case round=>
   obtain ⟨k,l,J,rfl,rfl,g,G,HE⟩:=hrel;by_cases F:k<n
   .obtain ⟨b,off,cs,Lk,rfl,_,_,d,E⟩:=H.out.at_ (show k<ds.length by have:=HN.out;omega);obtain ⟨rfl,_,j⟩:=ZA1 d;have f:=E 0 _ rfl;clear E d;have B:Hid (ds.drop k=ds[k]'(by have:=HN.out;omega)::ds.drop (k+1)):=A9 _;generalize ds[k]'(by have:=HN.out;omega)=s at f B j;simp only[show ZbY.size=1 from rfl,AI,AJ]at f;by_cases hs:(s.size:Int)<=l
    .go_wp2;go_round
     case rel=>exact ⟨k+1,l - s.size,yE,by go_num,rfl,yE,yE,yS (by rw [<-HE.out,B.out];exact Xn _ _ _ _ yE yG)⟩
     case measure=>simp [intOf];omega
    .go_wp2;go_ret;exact ⟨ZQ (by rw [<-HE.out,B.out,Zy (by simp;omega)]),Below.refl _ _⟩
   .go_wp2;go_ret;exact ⟨ZQ (by rw [<-HE.out,AA (by have:=HN.out;omega)];simp [szR,g]),Below.refl _ _⟩
 .go_enter func94,ntmps94;go_wp2;go_ret;exact ⟨ZQ (by rw [Zy (by have:=HN.out;simp [XA];omega)]),Below.refl _ _⟩
theorem ZvA (A:Option Addr) (n c:Nat) (a:Int) (w:World) (B:n<=9223372036854775807) (D:0<=a) (C:a<=1048576):
  Calls prog 16 #[.slice A n c,.int .i64 a] w (QP n a w):=by
 by_cases b:(n:Int)<=a
 all_goals
  go_enter func16,ntmps16;go_wp2;go_ret
 .exact ⟨ZQ (by rw [Ya b]),Below.refl _ _⟩
 .exact ⟨ZQ (by rw [Zy yE]),Below.refl _ _⟩
theorem Blk.at2 {w:World}{g:Nat}{t:TypeId}{A v1:Value}(h:Blk w g t #[A,v1]):w.cell? ⟨g,0,none⟩=some A/\w.cell? ⟨g,1,none⟩=some v1:=⟨h.at (i:=0) rfl,h.at (i:=1) rfl⟩
theorem Blk.at3 {w:World}{g:Nat}{t:TypeId}{B A v2:Value}(h:Blk w g t #[B,A,v2]):w.cell? ⟨g,0,none⟩=some B/\w.cell? ⟨g,1,none⟩=some A/\w.cell? ⟨g,2,none⟩=some v2:=⟨h.at (i:=0) rfl,h.at (i:=1) rfl,h.at (i:=2) rfl⟩
theorem Blk.at4 {w:World}{g:Nat}{t:TypeId}{C B A v3:Value}(h:Blk w g t #[C,B,A,v3]):w.cell? ⟨g,0,none⟩=some C/\w.cell? ⟨g,1,none⟩=some B/\w.cell? ⟨g,2,none⟩=some A/\w.cell? ⟨g,3,none⟩=some v3:=⟨h.at (i:=0) rfl,h.at (i:=1) rfl,h.at (i:=2) rfl,h.at (i:=3) rfl⟩
theorem Blk.at5 {w:World}{g:Nat}{t:TypeId}{D C B A v4:Value}(h:Blk w g t #[D,C,B,A,v4]):w.cell? ⟨g,0,none⟩=some D/\w.cell? ⟨g,1,none⟩=some C/\w.cell? ⟨g,2,none⟩=some B/\w.cell? ⟨g,3,none⟩=some A/\w.cell? ⟨g,4,none⟩=some v4:=⟨h.at (i:=0) rfl,h.at (i:=1) rfl,h.at (i:=2) rfl,h.at (i:=3) rfl,h.at (i:=4) rfl⟩
theorem Blk.at6 {w:World}{g:Nat}{t:TypeId}{E D C B A v5:Value}(h:Blk w g t #[E,D,C,B,A,v5]):w.cell? ⟨g,0,none⟩=some E/\w.cell? ⟨g,1,none⟩=some D/\w.cell? ⟨g,2,none⟩=some C/\w.cell? ⟨g,3,none⟩=some B/\w.cell? ⟨g,4,none⟩=some A/\w.cell? ⟨g,5,none⟩=some v5:=⟨h.at (i:=0) rfl,h.at (i:=1) rfl,h.at (i:=2) rfl,h.at (i:=3) rfl,h.at (i:=4) rfl,h.at (i:=5) rfl⟩
theorem Blk.at8 {w:World}{g:Nat}{t:TypeId}{G F E D C B A v7:Value}(h:Blk w g t #[G,F,E,D,C,B,A,v7]):w.cell? ⟨g,0,none⟩=some G/\w.cell? ⟨g,1,none⟩=some F/\w.cell? ⟨g,2,none⟩=some E/\w.cell? ⟨g,3,none⟩=some D/\w.cell? ⟨g,4,none⟩=some C/\w.cell? ⟨g,5,none⟩=some B/\w.cell? ⟨g,6,none⟩=some A/\w.cell? ⟨g,7,none⟩=some v7:=⟨h.at (i:=0) rfl,h.at (i:=1) rfl,h.at (i:=2) rfl,h.at (i:=3) rfl,h.at (i:=4) rfl,h.at (i:=5) rfl,h.at (i:=6) rfl,h.at (i:=7) rfl⟩
theorem Blk.fr2 {w:World}{g:Nat}{t:TypeId}{cs:Array Value}(h:Blk w g t cs):w.frozen? ⟨g,0,none⟩=false/\w.frozen? ⟨g,1,none⟩=false:=⟨h.frozen 0,h.frozen 1⟩
theorem Blk.fr3 {w:World}{g:Nat}{t:TypeId}{cs:Array Value}(h:Blk w g t cs):w.frozen? ⟨g,0,none⟩=false/\w.frozen? ⟨g,1,none⟩=false/\w.frozen? ⟨g,2,none⟩=false:=⟨h.frozen 0,h.frozen 1,h.frozen 2⟩
theorem Blk.fr4 {w:World}{g:Nat}{t:TypeId}{cs:Array Value}(h:Blk w g t cs):w.frozen? ⟨g,0,none⟩=false/\w.frozen? ⟨g,1,none⟩=false/\w.frozen? ⟨g,2,none⟩=false/\w.frozen? ⟨g,3,none⟩=false:=⟨h.frozen 0,h.frozen 1,h.frozen 2,h.frozen 3⟩
theorem Blk.fr5 {w:World}{g:Nat}{t:TypeId}{cs:Array Value}(h:Blk w g t cs):w.frozen? ⟨g,0,none⟩=false/\w.frozen? ⟨g,1,none⟩=false/\w.frozen? ⟨g,2,none⟩=false/\w.frozen? ⟨g,3,none⟩=false/\w.frozen? ⟨g,4,none⟩=false:=⟨h.frozen 0,h.frozen 1,h.frozen 2,h.frozen 3,h.frozen 4⟩
theorem Blk.fr6 {w:World}{g:Nat}{t:TypeId}{cs:Array Value}(h:Blk w g t cs):w.frozen? ⟨g,0,none⟩=false/\w.frozen? ⟨g,1,none⟩=false/\w.frozen? ⟨g,2,none⟩=false/\w.frozen? ⟨g,3,none⟩=false/\w.frozen? ⟨g,4,none⟩=false/\w.frozen? ⟨g,5,none⟩=false:=⟨h.frozen 0,h.frozen 1,h.frozen 2,h.frozen 3,h.frozen 4,h.frozen 5⟩
theorem Blk.fr8 {w:World}{g:Nat}{t:TypeId}{cs:Array Value}(h:Blk w g t cs):w.frozen? ⟨g,0,none⟩=false/\w.frozen? ⟨g,1,none⟩=false/\w.frozen? ⟨g,2,none⟩=false/\w.frozen? ⟨g,3,none⟩=false/\w.frozen? ⟨g,4,none⟩=false/\w.frozen? ⟨g,5,none⟩=false/\w.frozen? ⟨g,6,none⟩=false/\w.frozen? ⟨g,7,none⟩=false:=⟨h.frozen 0,h.frozen 1,h.frozen 2,h.frozen 3,h.frozen 4,h.frozen 5,h.frozen 6,h.frozen 7⟩
theorem ZkL (cs:List Value) (x:Zf) (L:List Nat) (a:Int) (w:World) (J:0<=a) (I:a<=1048576) (h:Ys.rep w cs x L):
  Calls prog 54 #[.agg cs.toArray,.int .i64 a] w (QP (YV x) a w):=by
 obtain ⟨A1,A,L1,rfl,_hL,F,G,D,B⟩:=h;unfold maxLen at D;have S1:=yS B;clear B;have B0:Hid (Below w.heap.size w (w.alloc (.cells #[.string x.rel,.slice A1 x.args.length A] 56))):=(Below.refl _ _).alloc (A0 _) _;have K0:Hid (Blk (w.alloc (.cells #[.string x.rel,.slice A1 x.args.length A] 56)) w.heap.size 56 #[.string x.rel,.slice A1 x.args.length A]):=Blk.new _ _ _;go_enter func54,ntmps54;by_cases H:(x.rel.size:Int)<=a
 rotate_left
 .go_wp2_with fail
  go_ret;exact ⟨ZQ (by rw [Zy (by simp only[YV];omega)]),B0.out⟩
 go_wp2_with fail
 refine (Zky A1 _ A x.args L1 _ _ rfl yE yE yE (S1.out.below B0.out)).mono ?_;rintro e E ⟨rfl,b⟩;have B1:=yS (B0.out.trans (b.mono B0.out.size));have K1:=yS (K0.out.later b);obtain ⟨M,K⟩:=K1.out.at2;clear b;by_cases C:((XA x.args:Nat):Int)<=a - x.rel.size
 rotate_left
 .rw [Zy C];go_wp2_with fail
  go_ret;exact ⟨ZQ (by rw [Zy (by simp only[YV];omega)]),B1.out⟩
 rw [Ya C];go_wp2_with fail
 go_ret;exact ⟨ZQ (by rw [Ya (by simp only[YV];omega)]<;>simp only[YV]<;>omega),B1.out⟩
theorem Zi4 (A:Option Addr) (n c:Nat) (ds:List Zf) (L:List Nat) (a:Int) (w:World) (C:n=ds.length) (M:n<=9223372036854775807) (P:0<=a) (O:a<=1048576) (h:Sli Ys w A ds L):
  Calls prog 19 #[.slice A n c,.int .i64 a] w (QP (Yi ds) a w):=by
 have H:=yS h;have HN:=yS C;clear h C;by_cases D:(n:Int)<=a
 .go_enter func19,ntmps19;go_wp2;go_loopw [1,5] (fun q i wr=>∃(k:Nat) (l:Int),k<=n/\i=.int .i64 k/\q=.int .i64 l/\0<=l/\l<=a/\Hid (Below w.heap.size w wr)/\Hid (szR ((ds.drop k).map YV).sum l=szR (Yi ds) a)) (fun _ i _=>n - (intOf i).toNat)
  case atStart=>exact ⟨0,a - n,A6 _,rfl,rfl,yE,yE,Below.refl _ _,yS (by
    have e:=HN.out;exact Xn _ _ _ _ yE (by simp only[Yi,AD];omega))⟩
  case round=>
   obtain ⟨k,l,N,rfl,rfl,j,I,HB,HE⟩:=hrel;by_cases G:k<n
   .have o:k<ds.length:=by have:=HN.out;omega
    obtain ⟨b,off,cs,Lk,rfl,t,u,d,B⟩:=H.out.at_ o;have g:b<w.heap.size:=H.out.lt b t;have HR:=yS (Ys.keep d (Zr HB.out (fun y m=>H.out.lt y (u y m))));obtain ⟨A1,R,rfl⟩:=Zcz d;have K:wr.cell? ⟨b,off+k*2,none⟩=_:=(HB.out.cell (p:=⟨b,off+(k*2+0),none⟩) g).trans (B 0 _ rfl);have J:wr.cell? ⟨b,off+k*2+1,none⟩=_:=(HB.out.cell (p:=⟨b,off+(k*2+1),none⟩) g).trans (B 1 _ rfl);have E:Hid (ds.drop k=ds[k]::ds.drop (k+1)):=A9 _;generalize ds[k]=x at *
    clear B d;by_cases hs:(YV x:Int)<=l
    .go_wp2_with (go_at_call 54;refine (ZkL _ x Lk _ _ yE yE HR.out).mono ?_;rintro e F ⟨rfl,f⟩;rw [Ya hs];have HB1:=yS (HB.out.trans (f.mono HB.out.size));clear f);go_roundw
     case rel=>exact ⟨k+1,l - YV x,yE,by go_num,rfl,yE,yE,HB1.out,yS (by rw [<-HE.out,E.out];exact Xn _ _ _ _ yE yG)⟩
     case measure=>simp [intOf];omega
    .go_wp2_with (go_at_call 54;refine (ZkL _ x Lk _ _ yE yE HR.out).mono ?_;rintro e F ⟨rfl,f⟩;rw [Zy hs];have HB1:=yS (HB.out.trans (f.mono HB.out.size));clear f);go_ret;exact ⟨ZQ (by rw [<-HE.out,E.out,Zy (by simp;omega)]),HB1.out⟩
   .go_wp2;go_ret;exact ⟨ZQ (by rw [<-HE.out,AA (by have:=HN.out;omega)];simp [szR,j]),HB.out⟩
 .go_enter func19,ntmps19;go_wp2;go_ret;exact ⟨ZQ (by rw [Zy (by have:=HN.out;simp only[Yi];omega)]),Below.refl _ _⟩
theorem ZgH (cs:List Value) (x:Zm) (L:List Nat) (a:Int) (w:World) (J:0<=a) (I:a<=1048576) (h:QY.rep w cs x L):
  Calls prog 91 #[.agg cs.toArray,.int .i64 a] w (QP (ZL x) a w):=by
 obtain ⟨A1,A,L1,rfl,_hL,F,G,D,B⟩:=h;unfold maxLen at D;have S1:=yS B;clear B;have B0:Hid (Below w.heap.size w (w.alloc (.cells #[.string x.rel,.slice A1 x.args.length A] 88))):=(Below.refl _ _).alloc (A0 _) _;have K0:Hid (Blk (w.alloc (.cells #[.string x.rel,.slice A1 x.args.length A] 88)) w.heap.size 88 #[.string x.rel,.slice A1 x.args.length A]):=Blk.new _ _ _;go_enter func91,ntmps91;by_cases H:(x.rel.size:Int)<=a
 rotate_left
 .go_wp2_with fail
  go_ret;exact ⟨ZQ (by rw [Zy (by simp only[ZL];omega)]),B0.out⟩
 go_wp2_with fail
 refine (Zky A1 _ A x.args L1 _ _ rfl yE yE yE (S1.out.below B0.out)).mono ?_;rintro e E ⟨rfl,b⟩;have B1:=yS (B0.out.trans (b.mono B0.out.size));have K1:=yS (K0.out.later b);obtain ⟨M,K⟩:=K1.out.at2;clear b;by_cases C:((XA x.args:Nat):Int)<=a - x.rel.size
 rotate_left
 .rw [Zy C];go_wp2_with fail
  go_ret;exact ⟨ZQ (by rw [Zy (by simp only[ZL];omega)]),B1.out⟩
 rw [Ya C];go_wp2_with fail
 go_ret;exact ⟨ZQ (by rw [Ya (by simp only[ZL];omega)]<;>simp only[ZL]<;>omega),B1.out⟩
theorem ZoS (cs:List Value) (x:Zj) (L:List Nat) (a:Int) (w:World) (F:0<=a) (E:a<=1048576) (h:XK.rep w cs x L):
  Calls prog 224 #[.agg cs.toArray,.int .i64 a] w (QP (XY x) a w):=by
 obtain ⟨rfl,_hL,B,A⟩:=h;have B0:Hid (Below w.heap.size w (w.alloc (.cells #[.string x.var,.string x.value] 225))):=(Below.refl _ _).alloc (A0 _) _;have K0:Hid (Blk (w.alloc (.cells #[.string x.var,.string x.value] 225)) w.heap.size 225 #[.string x.var,.string x.value]):=Blk.new _ _ _;go_enter func224,ntmps224;by_cases D:(x.var.size:Int)<=a
 rotate_left
 .go_wp2_with fail
  go_ret;exact ⟨ZQ (by rw [Zy (by simp only[XY];omega)]),B0.out⟩
 by_cases C:(x.value.size:Int)<=a - x.var.size
 rotate_left
 .go_wp2_with fail
  go_ret;exact ⟨ZQ (by rw [Zy (by simp only[XY];omega)]),B0.out⟩
 go_wp2_with fail
 go_ret;exact ⟨ZQ (by rw [Ya (by simp only[XY];omega)]<;>simp only[XY]<;>omega),B0.out⟩
theorem Zug (A:Option Addr) (n c:Nat) (ds:List Zj) (L:List Nat) (a:Int) (w:World) (C:n=ds.length) (M:n<=9223372036854775807) (P:0<=a) (O:a<=1048576) (h:Sli XK w A ds L):
  Calls prog 181 #[.slice A n c,.int .i64 a] w (QP (XP ds) a w):=by
 have H:=yS h;have HN:=yS C;clear h C;by_cases D:(n:Int)<=a
 .go_enter func181,ntmps181;go_wp2;go_loopw [1,5] (fun q i wr=>∃(k:Nat) (l:Int),k<=n/\i=.int .i64 k/\q=.int .i64 l/\0<=l/\l<=a/\Hid (Below w.heap.size w wr)/\Hid (szR ((ds.drop k).map XY).sum l=szR (XP ds) a)) (fun _ i _=>n - (intOf i).toNat)
  case atStart=>exact ⟨0,a - n,A6 _,rfl,rfl,yE,yE,Below.refl _ _,yS (by
    have e:=HN.out;exact Xn _ _ _ _ yE (by simp only[XP,AD];omega))⟩
  case round=>
   obtain ⟨k,l,N,rfl,rfl,j,I,HB,HE⟩:=hrel;by_cases G:k<n
   .have o:k<ds.length:=by have:=HN.out;omega
    obtain ⟨b,off,cs,Lk,rfl,t,u,d,B⟩:=H.out.at_ o;have g:b<w.heap.size:=H.out.lt b t;have HR:=yS (XK.keep d (Zr HB.out (fun y m=>H.out.lt y (u y m))));obtain rfl:=Zef d;have K:wr.cell? ⟨b,off+k*2,none⟩=_:=(HB.out.cell (p:=⟨b,off+(k*2+0),none⟩) g).trans (B 0 _ rfl);have J:wr.cell? ⟨b,off+k*2+1,none⟩=_:=(HB.out.cell (p:=⟨b,off+(k*2+1),none⟩) g).trans (B 1 _ rfl);have E:Hid (ds.drop k=ds[k]::ds.drop (k+1)):=A9 _;generalize ds[k]=x at *
    clear B d;by_cases hs:(XY x:Int)<=l
    .go_wp2_with (go_at_call 224;refine (ZoS _ x Lk _ _ yE yE HR.out).mono ?_;rintro e F ⟨rfl,f⟩;rw [Ya hs];have HB1:=yS (HB.out.trans (f.mono HB.out.size));clear f);go_roundw
     case rel=>exact ⟨k+1,l - XY x,yE,by go_num,rfl,yE,yE,HB1.out,yS (by rw [<-HE.out,E.out];exact Xn _ _ _ _ yE yG)⟩
     case measure=>simp [intOf];omega
    .go_wp2_with (go_at_call 224;refine (ZoS _ x Lk _ _ yE yE HR.out).mono ?_;rintro e F ⟨rfl,f⟩;rw [Zy hs];have HB1:=yS (HB.out.trans (f.mono HB.out.size));clear f);go_ret;exact ⟨ZQ (by rw [<-HE.out,E.out,Zy (by simp;omega)]),HB1.out⟩
   .go_wp2;go_ret;exact ⟨ZQ (by rw [<-HE.out,AA (by have:=HN.out;omega)];simp [szR,j]),HB.out⟩
 .go_enter func181,ntmps181;go_wp2;go_ret;exact ⟨ZQ (by rw [Zy (by have:=HN.out;simp only[XP];omega)]),Below.refl _ _⟩
theorem ZkN (cs:List Value) (x:Zh) (L:List Nat) (a:Int) (w:World) (M:0<=a) (K:a<=1048576) (h:X8.rep w cs x L):
  Calls prog 92 #[.agg cs.toArray,.int .i64 a] w (QP (Yf x) a w):=by
 obtain ⟨A1,A,L1,rfl,_hL,D,H,t2,E,F,B⟩:=h;unfold maxLen at F;have S1:=yS B;clear B;have B0:Hid (Below w.heap.size w (w.alloc (.cells #[.int .i64 x.kind,.string x.pattern.rel,.slice A1 x.pattern.args.length A,.string x.left,.string x.right] 93))):=(Below.refl _ _).alloc (A0 _) _;have K0:Hid (Blk (w.alloc (.cells #[.int .i64 x.kind,.string x.pattern.rel,.slice A1 x.pattern.args.length A,.string x.left,.string x.right] 93)) w.heap.size 93 #[.int .i64 x.kind,.string x.pattern.rel,.slice A1 x.pattern.args.length A,.string x.left,.string x.right]):=Blk.new _ _ _;go_enter func92,ntmps92;go_wp2_with fail
 refine (ZgH [.string x.pattern.rel,.slice A1 x.pattern.args.length A] x.pattern _ _ _ yE yE ⟨A1,A,L1,rfl,rfl,D,E,(by unfold maxLen;omega),S1.out.below B0.out⟩).mono ?_;rintro e G ⟨rfl,b⟩;have B1:=yS (B0.out.trans (b.mono B0.out.size));have K1:=yS (K0.out.later b);obtain ⟨S,R,P,O,N⟩:=K1.out.at5;clear b;by_cases C:((ZL x.pattern:Nat):Int)<=a
 rotate_left
 .rw [Zy C];go_wp2_with fail
  go_ret;exact ⟨ZQ (by rw [Zy (by simp only[Yf];omega)]),B1.out⟩
 rw [Ya C];by_cases J:(x.left.size:Int)<=a - (ZL x.pattern:Nat)
 rotate_left
 .go_wp2_with fail
  go_ret;exact ⟨ZQ (by rw [Zy (by simp only[Yf];omega)]),B1.out⟩
 by_cases I:(x.right.size:Int)<=a - (ZL x.pattern:Nat) - x.left.size
 rotate_left
 .go_wp2_with fail
  go_ret;exact ⟨ZQ (by rw [Zy (by simp only[Yf];omega)]),B1.out⟩
 go_wp2_with fail
 go_ret;exact ⟨ZQ (by rw [Ya (by simp only[Yf];omega)]<;>simp only[Yf]<;>omega),B1.out⟩
theorem Zun (A:Option Addr) (n c:Nat) (ds:List Zh) (L:List Nat) (a:Int) (w:World) (C:n=ds.length) (P:n<=9223372036854775807) (T:0<=a) (S:a<=1048576) (h:Sli X8 w A ds L):
  Calls prog 89 #[.slice A n c,.int .i64 a] w (QP (Xp ds) a w):=by
 have H:=yS h;have HN:=yS C;clear h C;by_cases D:(n:Int)<=a
 .go_enter func89,ntmps89;go_wp2;go_loopw [1,5] (fun q i wr=>∃(k:Nat) (l:Int),k<=n/\i=.int .i64 k/\q=.int .i64 l/\0<=l/\l<=a/\Hid (Below w.heap.size w wr)/\Hid (szR ((ds.drop k).map Yf).sum l=szR (Xp ds) a)) (fun _ i _=>n - (intOf i).toNat)
  case atStart=>exact ⟨0,a - n,A6 _,rfl,rfl,yE,yE,Below.refl _ _,yS (by
    have e:=HN.out;exact Xn _ _ _ _ yE (by simp only[Xp,AD];omega))⟩
  case round=>
   obtain ⟨k,l,R,rfl,rfl,j,I,HB,HE⟩:=hrel;by_cases G:k<n
   .have o:k<ds.length:=by have:=HN.out;omega
    obtain ⟨b,off,cs,Lk,rfl,t,u,d,B⟩:=H.out.at_ o;have f:b<w.heap.size:=H.out.lt b t;have HR:=yS (X8.keep d (Zr HB.out (fun y m=>H.out.lt y (u y m))));obtain ⟨A1,U,rfl⟩:=Zcu d;have O:wr.cell? ⟨b,off+k*5,none⟩=_:=(HB.out.cell (p:=⟨b,off+(k*5+0),none⟩) f).trans (B 0 _ rfl);have N:wr.cell? ⟨b,off+k*5+1,none⟩=_:=(HB.out.cell (p:=⟨b,off+(k*5+1),none⟩) f).trans (B 1 _ rfl);have M:wr.cell? ⟨b,off+k*5+2,none⟩=_:=(HB.out.cell (p:=⟨b,off+(k*5+2),none⟩) f).trans (B 2 _ rfl);have K:wr.cell? ⟨b,off+k*5+3,none⟩=_:=(HB.out.cell (p:=⟨b,off+(k*5+3),none⟩) f).trans (B 3 _ rfl);have J:wr.cell? ⟨b,off+k*5+4,none⟩=_:=(HB.out.cell (p:=⟨b,off+(k*5+4),none⟩) f).trans (B 4 _ rfl);have E:Hid (ds.drop k=ds[k]::ds.drop (k+1)):=A9 _;generalize ds[k]=x at *
    clear B d;by_cases hs:(Yf x:Int)<=l
    .go_wp2_with (go_at_call 92;refine (ZkN _ x Lk _ _ yE yE HR.out).mono ?_;rintro e F ⟨rfl,g⟩;rw [Ya hs];have HB1:=yS (HB.out.trans (g.mono HB.out.size));clear g);go_roundw
     case rel=>exact ⟨k+1,l - Yf x,yE,by go_num,rfl,yE,yE,HB1.out,yS (by rw [<-HE.out,E.out];exact Xn _ _ _ _ yE yG)⟩
     case measure=>simp [intOf];omega
    .go_wp2_with (go_at_call 92;refine (ZkN _ x Lk _ _ yE yE HR.out).mono ?_;rintro e F ⟨rfl,g⟩;rw [Zy hs];have HB1:=yS (HB.out.trans (g.mono HB.out.size));clear g);go_ret;exact ⟨ZQ (by rw [<-HE.out,E.out,Zy (by simp;omega)]),HB1.out⟩
   .go_wp2;go_ret;exact ⟨ZQ (by rw [<-HE.out,AA (by have:=HN.out;omega)];simp [szR,j]),HB.out⟩
 .go_enter func89,ntmps89;go_wp2;go_ret;exact ⟨ZQ (by rw [Zy (by have:=HN.out;simp only[Xp];omega)]),Below.refl _ _⟩
theorem ZlZ (cs:List Value) (x:ZV) (L:List Nat) (a:Int) (w:World) (I:0<=a) (H:a<=1048576) (h:YT.rep w cs x L):
  Calls prog 140 #[.agg cs.toArray,.int .i64 a] w (QP (Y6 x) a w):=by
 obtain ⟨A1,A,L1,rfl,_hL,D,E,F,B⟩:=h;unfold maxLen at F;have S1:=yS B;clear B;have B0:Hid (Below w.heap.size w (w.alloc (.cells #[.int .i64 x.kind,.string x.pattern.rel,.slice A1 x.pattern.args.length A] 177))):=(Below.refl _ _).alloc (A0 _) _;have K0:Hid (Blk (w.alloc (.cells #[.int .i64 x.kind,.string x.pattern.rel,.slice A1 x.pattern.args.length A] 177)) w.heap.size 177 #[.int .i64 x.kind,.string x.pattern.rel,.slice A1 x.pattern.args.length A]):=Blk.new _ _ _;go_enter func140,ntmps140;go_wp2_with fail
 refine (ZgH [.string x.pattern.rel,.slice A1 x.pattern.args.length A] x.pattern _ _ _ yE yE ⟨A1,A,L1,rfl,rfl,D,E,(by unfold maxLen;omega),S1.out.below B0.out⟩).mono ?_;rintro e G ⟨rfl,b⟩;have B1:=yS (B0.out.trans (b.mono B0.out.size));have K1:=yS (K0.out.later b);obtain ⟨M,K,J⟩:=K1.out.at3;clear b;by_cases C:((ZL x.pattern:Nat):Int)<=a
 rotate_left
 .rw [Zy C];go_wp2_with fail
  go_ret;exact ⟨ZQ (by rw [Zy (by simp only[Y6];omega)]),B1.out⟩
 rw [Ya C];go_wp2_with fail
 go_ret;exact ⟨ZQ (by rw [Ya (by simp only[Y6];omega)]<;>simp only[Y6]<;>omega),B1.out⟩
theorem Zqm (A:Option Addr) (n c:Nat) (ds:List ZV) (L:List Nat) (a:Int) (w:World) (C:n=ds.length) (N:n<=9223372036854775807) (R:0<=a) (P:a<=1048576) (h:Sli YT w A ds L):
  Calls prog 90 #[.slice A n c,.int .i64 a] w (QP (YN ds) a w):=by
 have H:=yS h;have HN:=yS C;clear h C;by_cases D:(n:Int)<=a
 .go_enter func90,ntmps90;go_wp2;go_loopw [1,5] (fun q i wr=>∃(k:Nat) (l:Int),k<=n/\i=.int .i64 k/\q=.int .i64 l/\0<=l/\l<=a/\Hid (Below w.heap.size w wr)/\Hid (szR ((ds.drop k).map Y6).sum l=szR (YN ds) a)) (fun _ i _=>n - (intOf i).toNat)
  case atStart=>exact ⟨0,a - n,A6 _,rfl,rfl,yE,yE,Below.refl _ _,yS (by
    have e:=HN.out;exact Xn _ _ _ _ yE (by simp only[YN,AD];omega))⟩
  case round=>
   obtain ⟨k,l,O,rfl,rfl,j,I,HB,HE⟩:=hrel;by_cases G:k<n
   .have o:k<ds.length:=by have:=HN.out;omega
    obtain ⟨b,off,cs,Lk,rfl,t,u,d,B⟩:=H.out.at_ o;have g:b<w.heap.size:=H.out.lt b t;have HR:=yS (YT.keep d (Zr HB.out (fun y m=>H.out.lt y (u y m))));obtain ⟨A1,S,rfl⟩:=Zb4 d;have M:wr.cell? ⟨b,off+k*3,none⟩=_:=(HB.out.cell (p:=⟨b,off+(k*3+0),none⟩) g).trans (B 0 _ rfl);have K:wr.cell? ⟨b,off+k*3+1,none⟩=_:=(HB.out.cell (p:=⟨b,off+(k*3+1),none⟩) g).trans (B 1 _ rfl);have J:wr.cell? ⟨b,off+k*3+2,none⟩=_:=(HB.out.cell (p:=⟨b,off+(k*3+2),none⟩) g).trans (B 2 _ rfl);have E:Hid (ds.drop k=ds[k]::ds.drop (k+1)):=A9 _;generalize ds[k]=x at *
    clear B d;by_cases hs:(Y6 x:Int)<=l
    .go_wp2_with (go_at_call 140;refine (ZlZ _ x Lk _ _ yE yE HR.out).mono ?_;rintro e F ⟨rfl,f⟩;rw [Ya hs];have HB1:=yS (HB.out.trans (f.mono HB.out.size));clear f);go_roundw
     case rel=>exact ⟨k+1,l - Y6 x,yE,by go_num,rfl,yE,yE,HB1.out,yS (by rw [<-HE.out,E.out];exact Xn _ _ _ _ yE yG)⟩
     case measure=>simp [intOf];omega
    .go_wp2_with (go_at_call 140;refine (ZlZ _ x Lk _ _ yE yE HR.out).mono ?_;rintro e F ⟨rfl,f⟩;rw [Zy hs];have HB1:=yS (HB.out.trans (f.mono HB.out.size));clear f);go_ret;exact ⟨ZQ (by rw [<-HE.out,E.out,Zy (by simp;omega)]),HB1.out⟩
   .go_wp2;go_ret;exact ⟨ZQ (by rw [<-HE.out,AA (by have:=HN.out;omega)];simp [szR,j]),HB.out⟩
 .go_enter func90,ntmps90;go_wp2;go_ret;exact ⟨ZQ (by rw [Zy (by have:=HN.out;simp only[YN];omega)]),Below.refl _ _⟩
theorem ZoI (cs:List Value) (x:Zq) (L:List Nat) (a:Int) (w:World) (T:0<=a) (S:a<=1048576) (h:X6.rep w cs x L):
  Calls prog 51 #[.agg cs.toArray,.int .i64 a] w (QP (YW x) a w):=by
 obtain ⟨A1,A,L1,A2,c2,L2,rfl,_hL,N,P,K,C,O,J,B⟩:=h;unfold maxLen at K J;have S1:=yS C;clear C;have S2:=yS B;clear B;have B0:Hid (Below w.heap.size w (w.alloc (.cells #[.string x.name,.int .i64 x.priority,.slice A1 x.cond.length A,.slice A2 x.thn.length c2] 86))):=(Below.refl _ _).alloc (A0 _) _;have K0:Hid (Blk (w.alloc (.cells #[.string x.name,.int .i64 x.priority,.slice A1 x.cond.length A,.slice A2 x.thn.length c2] 86)) w.heap.size 86 #[.string x.name,.int .i64 x.priority,.slice A1 x.cond.length A,.slice A2 x.thn.length c2]):=Blk.new _ _ _;go_enter func51,ntmps51;by_cases R:(x.name.size:Int)<=a
 rotate_left
 .go_wp2_with fail
  go_ret;exact ⟨ZQ (by rw [Zy (by simp only[YW];omega)]),B0.out⟩
 go_wp2_with fail
 refine (Zun A1 _ A x.cond L1 _ _ rfl yE yE yE (S1.out.below B0.out)).mono ?_;rintro e M ⟨rfl,b⟩;have B1:=yS (B0.out.trans (b.mono B0.out.size));have K1:=yS (K0.out.later b);obtain ⟨I,H,G,F⟩:=K1.out.at4;clear b;by_cases E:((Xp x.cond:Nat):Int)<=a - x.name.size
 rotate_left
 .rw [Zy E];go_wp2_with fail
  go_ret;exact ⟨ZQ (by rw [Zy (by simp only[YW];omega)]),B1.out⟩
 rw [Ya E];go_wp2_with fail
 refine (Zqm A2 _ c2 x.thn L2 _ _ rfl yE yE yE (S2.out.below B1.out)).mono ?_;rintro e w2 ⟨rfl,c⟩;have B2:=yS (B1.out.trans (c.mono B1.out.size));have K2:=yS (K1.out.later c);clear I H G F;obtain ⟨I,H,G,F⟩:=K2.out.at4;clear c;by_cases D:((YN x.thn:Nat):Int)<=a - x.name.size - (Xp x.cond:Nat)
 rotate_left
 .rw [Zy D];go_wp2_with fail
  go_ret;exact ⟨ZQ (by rw [Zy (by simp only[YW];omega)]),B2.out⟩
 rw [Ya D];go_wp2_with fail
 go_ret;exact ⟨ZQ (by rw [Ya (by simp only[YW];omega)]<;>simp only[YW]<;>omega),B2.out⟩
theorem Zt3 (A:Option Addr) (n c:Nat) (ds:List Zq) (L:List Nat) (a:Int) (w:World) (C:n=ds.length) (O:n<=9223372036854775807) (S:0<=a) (R:a<=1048576) (h:Sli X6 w A ds L):
  Calls prog 15 #[.slice A n c,.int .i64 a] w (QP (YS ds) a w):=by
 have H:=yS h;have HN:=yS C;clear h C;by_cases D:(n:Int)<=a
 .go_enter func15,ntmps15;go_wp2;go_loopw [1,5] (fun q i wr=>∃(k:Nat) (l:Int),k<=n/\i=.int .i64 k/\q=.int .i64 l/\0<=l/\l<=a/\Hid (Below w.heap.size w wr)/\Hid (szR ((ds.drop k).map YW).sum l=szR (YS ds) a)) (fun _ i _=>n - (intOf i).toNat)
  case atStart=>exact ⟨0,a - n,A6 _,rfl,rfl,yE,yE,Below.refl _ _,yS (by
    have e:=HN.out;exact Xn _ _ _ _ yE (by simp only[YS,AD];omega))⟩
  case round=>
   obtain ⟨k,l,P,rfl,rfl,j,I,HB,HE⟩:=hrel;by_cases G:k<n
   .have o:k<ds.length:=by have:=HN.out;omega
    obtain ⟨b,off,cs,Lk,rfl,t,u,d,B⟩:=H.out.at_ o;have g:b<w.heap.size:=H.out.lt b t;have HR:=yS (X6.keep d (Zr HB.out (fun y m=>H.out.lt y (u y m))));obtain ⟨A1,T,A2,c2,rfl⟩:=Zeo d;have N:wr.cell? ⟨b,off+k*4,none⟩=_:=(HB.out.cell (p:=⟨b,off+(k*4+0),none⟩) g).trans (B 0 _ rfl);have M:wr.cell? ⟨b,off+k*4+1,none⟩=_:=(HB.out.cell (p:=⟨b,off+(k*4+1),none⟩) g).trans (B 1 _ rfl);have K:wr.cell? ⟨b,off+k*4+2,none⟩=_:=(HB.out.cell (p:=⟨b,off+(k*4+2),none⟩) g).trans (B 2 _ rfl);have J:wr.cell? ⟨b,off+k*4+3,none⟩=_:=(HB.out.cell (p:=⟨b,off+(k*4+3),none⟩) g).trans (B 3 _ rfl);have E:Hid (ds.drop k=ds[k]::ds.drop (k+1)):=A9 _;generalize ds[k]=x at *
    clear B d;by_cases hs:(YW x:Int)<=l
    .go_wp2_with (go_at_call 51;refine (ZoI _ x Lk _ _ yE yE HR.out).mono ?_;rintro e F ⟨rfl,f⟩;rw [Ya hs];have HB1:=yS (HB.out.trans (f.mono HB.out.size));clear f);go_roundw
     case rel=>exact ⟨k+1,l - YW x,yE,by go_num,rfl,yE,yE,HB1.out,yS (by rw [<-HE.out,E.out];exact Xn _ _ _ _ yE yG)⟩
     case measure=>simp [intOf];omega
    .go_wp2_with (go_at_call 51;refine (ZoI _ x Lk _ _ yE yE HR.out).mono ?_;rintro e F ⟨rfl,f⟩;rw [Zy hs];have HB1:=yS (HB.out.trans (f.mono HB.out.size));clear f);go_ret;exact ⟨ZQ (by rw [<-HE.out,E.out,Zy (by simp;omega)]),HB1.out⟩
   .go_wp2;go_ret;exact ⟨ZQ (by rw [<-HE.out,AA (by have:=HN.out;omega)];simp [szR,j]),HB.out⟩
 .go_enter func15,ntmps15;go_wp2;go_ret;exact ⟨ZQ (by rw [Zy (by have:=HN.out;simp only[YS];omega)]),Below.refl _ _⟩
theorem ZmV (cs:List Value) (x:Zi) (L:List Nat) (a:Int) (w:World) (O:0<=a) (N:a<=1048576) (h:Yt.rep w cs x L):
  Calls prog 141 #[.agg cs.toArray,.int .i64 a] w (QP (YF x) a w):=by
 obtain ⟨A1,A,L1,A2,c2,L2,rfl,_hL,M,I,C,K,H,B⟩:=h;unfold maxLen at I H;have S1:=yS C;clear C;have S2:=yS B;clear B;have B0:Hid (Below w.heap.size w (w.alloc (.cells #[.slice A1 x.facts.length A,.slice A2 x.binding.length c2] 181))):=(Below.refl _ _).alloc (A0 _) _;have K0:Hid (Blk (w.alloc (.cells #[.slice A1 x.facts.length A,.slice A2 x.binding.length c2] 181)) w.heap.size 181 #[.slice A1 x.facts.length A,.slice A2 x.binding.length c2]):=Blk.new _ _ _;go_enter func141,ntmps141;go_wp2_with fail
 refine (Zi4 A1 _ A x.facts L1 _ _ rfl yE yE yE (S1.out.below B0.out)).mono ?_;rintro e J ⟨rfl,b⟩;have B1:=yS (B0.out.trans (b.mono B0.out.size));have K1:=yS (K0.out.later b);obtain ⟨G,F⟩:=K1.out.at2;clear b;by_cases E:((Yi x.facts:Nat):Int)<=a
 rotate_left
 .rw [Zy E];go_wp2_with fail
  go_ret;exact ⟨ZQ (by rw [Zy (by simp only[YF];omega)]),B1.out⟩
 rw [Ya E];go_wp2_with fail
 refine (Zug A2 _ c2 x.binding L2 _ _ rfl yE yE yE (S2.out.below B1.out)).mono ?_;rintro e w2 ⟨rfl,c⟩;have B2:=yS (B1.out.trans (c.mono B1.out.size));have K2:=yS (K1.out.later c);clear G F;obtain ⟨G,F⟩:=K2.out.at2;clear c;by_cases D:((XP x.binding:Nat):Int)<=a - (Yi x.facts:Nat)
 rotate_left
 .rw [Zy D];go_wp2_with fail
  go_ret;exact ⟨ZQ (by rw [Zy (by simp only[YF];omega)]),B2.out⟩
 rw [Ya D];go_wp2_with fail
 go_ret;exact ⟨ZQ (by rw [Ya (by simp only[YF];omega)]<;>simp only[YF]<;>omega),B2.out⟩
theorem Zsn (A:Option Addr) (n c:Nat) (ds:List Zi) (L:List Nat) (a:Int) (w:World) (C:n=ds.length) (M:n<=9223372036854775807) (P:0<=a) (O:a<=1048576) (h:Sli Yt w A ds L):
  Calls prog 93 #[.slice A n c,.int .i64 a] w (QP (YX ds) a w):=by
 have H:=yS h;have HN:=yS C;clear h C;by_cases D:(n:Int)<=a
 .go_enter func93,ntmps93;go_wp2;go_loopw [1,5] (fun q i wr=>∃(k:Nat) (l:Int),k<=n/\i=.int .i64 k/\q=.int .i64 l/\0<=l/\l<=a/\Hid (Below w.heap.size w wr)/\Hid (szR ((ds.drop k).map YF).sum l=szR (YX ds) a)) (fun _ i _=>n - (intOf i).toNat)
  case atStart=>exact ⟨0,a - n,A6 _,rfl,rfl,yE,yE,Below.refl _ _,yS (by
    have e:=HN.out;exact Xn _ _ _ _ yE (by simp only[YX,AD];omega))⟩
  case round=>
   obtain ⟨k,l,N,rfl,rfl,j,I,HB,HE⟩:=hrel;by_cases G:k<n
   .have o:k<ds.length:=by have:=HN.out;omega
    obtain ⟨b,off,cs,Lk,rfl,t,u,d,B⟩:=H.out.at_ o;have g:b<w.heap.size:=H.out.lt b t;have HR:=yS (Yt.keep d (Zr HB.out (fun y m=>H.out.lt y (u y m))));obtain ⟨A1,R,A2,c2,rfl⟩:=Zda d;have K:wr.cell? ⟨b,off+k*2,none⟩=_:=(HB.out.cell (p:=⟨b,off+(k*2+0),none⟩) g).trans (B 0 _ rfl);have J:wr.cell? ⟨b,off+k*2+1,none⟩=_:=(HB.out.cell (p:=⟨b,off+(k*2+1),none⟩) g).trans (B 1 _ rfl);have E:Hid (ds.drop k=ds[k]::ds.drop (k+1)):=A9 _;generalize ds[k]=x at *
    clear B d;by_cases hs:(YF x:Int)<=l
    .go_wp2_with (go_at_call 141;refine (ZmV _ x Lk _ _ yE yE HR.out).mono ?_;rintro e F ⟨rfl,f⟩;rw [Ya hs];have HB1:=yS (HB.out.trans (f.mono HB.out.size));clear f);go_roundw
     case rel=>exact ⟨k+1,l - YF x,yE,by go_num,rfl,yE,yE,HB1.out,yS (by rw [<-HE.out,E.out];exact Xn _ _ _ _ yE yG)⟩
     case measure=>simp [intOf];omega
    .go_wp2_with (go_at_call 141;refine (ZmV _ x Lk _ _ yE yE HR.out).mono ?_;rintro e F ⟨rfl,f⟩;rw [Zy hs];have HB1:=yS (HB.out.trans (f.mono HB.out.size));clear f);go_ret;exact ⟨ZQ (by rw [<-HE.out,E.out,Zy (by simp;omega)]),HB1.out⟩
   .go_wp2;go_ret;exact ⟨ZQ (by rw [<-HE.out,AA (by have:=HN.out;omega)];simp [szR,j]),HB.out⟩
 .go_enter func93,ntmps93;go_wp2;go_ret;exact ⟨ZQ (by rw [Zy (by have:=HN.out;simp only[YX];omega)]),Below.refl _ _⟩
theorem ZmL (cs:List Value) (x:ZO) (L:List Nat) (a:Int) (w:World) (R:0<=a) (P:a<=1048576) (h:Xd.rep w cs x L):
  Calls prog 52 #[.agg cs.toArray,.int .i64 a] w (QP (Yz x) a w):=by
 obtain ⟨A1,A,L1,A2,c2,L2,rfl,_hL,I,J,M,C,O,K,B⟩:=h;unfold maxLen at M K;have S1:=yS C;clear C;have S2:=yS B;clear B;have B0:Hid (Below w.heap.size w (w.alloc (.cells #[.string x.shape.rel,.slice A1 x.shape.args.length A,.slice A2 x.facts.length c2] 90))):=(Below.refl _ _).alloc (A0 _) _;have K0:Hid (Blk (w.alloc (.cells #[.string x.shape.rel,.slice A1 x.shape.args.length A,.slice A2 x.facts.length c2] 90)) w.heap.size 90 #[.string x.shape.rel,.slice A1 x.shape.args.length A,.slice A2 x.facts.length c2]):=Blk.new _ _ _;go_enter func52,ntmps52;go_wp2_with fail
 refine (ZgH [.string x.shape.rel,.slice A1 x.shape.args.length A] x.shape _ _ _ yE yE ⟨A1,A,L1,rfl,rfl,I,J,(by unfold maxLen;omega),S1.out.below B0.out⟩).mono ?_;rintro e N ⟨rfl,b⟩;have B1:=yS (B0.out.trans (b.mono B0.out.size));have K1:=yS (K0.out.later b);obtain ⟨H,G,F⟩:=K1.out.at3;clear b;by_cases E:((ZL x.shape:Nat):Int)<=a
 rotate_left
 .rw [Zy E];go_wp2_with fail
  go_ret;exact ⟨ZQ (by rw [Zy (by simp only[Yz];omega)]),B1.out⟩
 rw [Ya E];go_wp2_with fail
 refine (Zi4 A2 _ c2 x.facts L2 _ _ rfl yE yE yE (S2.out.below B1.out)).mono ?_;rintro e w2 ⟨rfl,c⟩;have B2:=yS (B1.out.trans (c.mono B1.out.size));have K2:=yS (K1.out.later c);clear H G F;obtain ⟨H,G,F⟩:=K2.out.at3;clear c;by_cases D:((Yi x.facts:Nat):Int)<=a - (ZL x.shape:Nat)
 rotate_left
 .rw [Zy D];go_wp2_with fail
  go_ret;exact ⟨ZQ (by rw [Zy (by simp only[Yz];omega)]),B2.out⟩
 rw [Ya D];go_wp2_with fail
 go_ret;exact ⟨ZQ (by rw [Ya (by simp only[Yz];omega)]<;>simp only[Yz]<;>omega),B2.out⟩
theorem Zsg (A:Option Addr) (n c:Nat) (ds:List ZO) (L:List Nat) (a:Int) (w:World) (C:n=ds.length) (N:n<=9223372036854775807) (R:0<=a) (P:a<=1048576) (h:Sli Xd w A ds L):
  Calls prog 17 #[.slice A n c,.int .i64 a] w (QP (Y5 ds) a w):=by
 have H:=yS h;have HN:=yS C;clear h C;by_cases D:(n:Int)<=a
 .go_enter func17,ntmps17;go_wp2;go_loopw [1,5] (fun q i wr=>∃(k:Nat) (l:Int),k<=n/\i=.int .i64 k/\q=.int .i64 l/\0<=l/\l<=a/\Hid (Below w.heap.size w wr)/\Hid (szR ((ds.drop k).map Yz).sum l=szR (Y5 ds) a)) (fun _ i _=>n - (intOf i).toNat)
  case atStart=>exact ⟨0,a - n,A6 _,rfl,rfl,yE,yE,Below.refl _ _,yS (by
    have e:=HN.out;exact Xn _ _ _ _ yE (by simp only[Y5,AD];omega))⟩
  case round=>
   obtain ⟨k,l,O,rfl,rfl,j,I,HB,HE⟩:=hrel;by_cases G:k<n
   .have o:k<ds.length:=by have:=HN.out;omega
    obtain ⟨b,off,cs,Lk,rfl,t,u,d,B⟩:=H.out.at_ o;have g:b<w.heap.size:=H.out.lt b t;have HR:=yS (Xd.keep d (Zr HB.out (fun y m=>H.out.lt y (u y m))));obtain ⟨A1,S,A2,c2,rfl⟩:=Zc3 d;have M:wr.cell? ⟨b,off+k*3,none⟩=_:=(HB.out.cell (p:=⟨b,off+(k*3+0),none⟩) g).trans (B 0 _ rfl);have K:wr.cell? ⟨b,off+k*3+1,none⟩=_:=(HB.out.cell (p:=⟨b,off+(k*3+1),none⟩) g).trans (B 1 _ rfl);have J:wr.cell? ⟨b,off+k*3+2,none⟩=_:=(HB.out.cell (p:=⟨b,off+(k*3+2),none⟩) g).trans (B 2 _ rfl);have E:Hid (ds.drop k=ds[k]::ds.drop (k+1)):=A9 _;generalize ds[k]=x at *
    clear B d;by_cases hs:(Yz x:Int)<=l
    .go_wp2_with (go_at_call 52;refine (ZmL _ x Lk _ _ yE yE HR.out).mono ?_;rintro e F ⟨rfl,f⟩;rw [Ya hs];have HB1:=yS (HB.out.trans (f.mono HB.out.size));clear f);go_roundw
     case rel=>exact ⟨k+1,l - Yz x,yE,by go_num,rfl,yE,yE,HB1.out,yS (by rw [<-HE.out,E.out];exact Xn _ _ _ _ yE yG)⟩
     case measure=>simp [intOf];omega
    .go_wp2_with (go_at_call 52;refine (ZmL _ x Lk _ _ yE yE HR.out).mono ?_;rintro e F ⟨rfl,f⟩;rw [Zy hs];have HB1:=yS (HB.out.trans (f.mono HB.out.size));clear f);go_ret;exact ⟨ZQ (by rw [<-HE.out,E.out,Zy (by simp;omega)]),HB1.out⟩
   .go_wp2;go_ret;exact ⟨ZQ (by rw [<-HE.out,AA (by have:=HN.out;omega)];simp [szR,j]),HB.out⟩
 .go_enter func17,ntmps17;go_wp2;go_ret;exact ⟨ZQ (by rw [Zy (by have:=HN.out;simp only[Y5];omega)]),Below.refl _ _⟩
theorem Zow (cs:List Value) (x:ZA) (L:List Nat) (a:Int) (w:World) (h0:0<=a) (W:a<=1048576) (h:QC.rep w cs x L):
  Calls prog 53 #[.agg cs.toArray,.int .i64 a] w (QP (YU x) a w):=by
 obtain ⟨A1,A,L1,A2,c2,L2,rfl,_hL,P,O,t2,R,T,C,V,S,B⟩:=h;unfold maxLen at T S;have S1:=yS C;clear C;have S2:=yS B;clear B;have B0:Hid (Below w.heap.size w (w.alloc (.cells #[.int .i64 x.parent,.int .i64 x.cond.kind,.string x.cond.pattern.rel,.slice A1 x.cond.pattern.args.length A,.string x.cond.left,.string x.cond.right,.int .i64 x.alpha,.slice A2 x.tokens.length c2] 96))):=(Below.refl _ _).alloc (A0 _) _;have K0:Hid (Blk (w.alloc (.cells #[.int .i64 x.parent,.int .i64 x.cond.kind,.string x.cond.pattern.rel,.slice A1 x.cond.pattern.args.length A,.string x.cond.left,.string x.cond.right,.int .i64 x.alpha,.slice A2 x.tokens.length c2] 96)) w.heap.size 96 #[.int .i64 x.parent,.int .i64 x.cond.kind,.string x.cond.pattern.rel,.slice A1 x.cond.pattern.args.length A,.string x.cond.left,.string x.cond.right,.int .i64 x.alpha,.slice A2 x.tokens.length c2]):=Blk.new _ _ _
 go_enter func53,ntmps53;go_wp2_with fail
 refine (ZkN [.int .i64 x.cond.kind,.string x.cond.pattern.rel,.slice A1 x.cond.pattern.args.length A,.string x.cond.left,.string x.cond.right] x.cond _ _ _ yE yE ⟨A1,A,L1,rfl,rfl,P,O,t2,R,(by unfold maxLen;omega),S1.out.below B0.out⟩).mono ?_;rintro e U ⟨rfl,b⟩;have B1:=yS (B0.out.trans (b.mono B0.out.size));have K1:=yS (K0.out.later b);obtain ⟨N,M,K,J,I,H,G,F⟩:=K1.out.at8;clear b;by_cases E:((Yf x.cond:Nat):Int)<=a
 rotate_left
 .rw [Zy E];go_wp2_with fail
  go_ret;exact ⟨ZQ (by rw [Zy (by simp only[YU];omega)]),B1.out⟩
 rw [Ya E];go_wp2_with fail
 refine (Zsn A2 _ c2 x.tokens L2 _ _ rfl yE yE yE (S2.out.below B1.out)).mono ?_;rintro e w2 ⟨rfl,c⟩;have B2:=yS (B1.out.trans (c.mono B1.out.size));have K2:=yS (K1.out.later c);clear N M K J I H G F;obtain ⟨N,M,K,J,I,H,G,F⟩:=K2.out.at8;clear c;by_cases D:((YX x.tokens:Nat):Int)<=a - (Yf x.cond:Nat)
 rotate_left
 .rw [Zy D];go_wp2_with fail
  go_ret;exact ⟨ZQ (by rw [Zy (by simp only[YU];omega)]),B2.out⟩
 rw [Ya D];go_wp2_with fail
 go_ret;exact ⟨ZQ (by rw [Ya (by simp only[YU];omega)]<;>simp only[YU]<;>omega),B2.out⟩
theorem Ztp (A:Option Addr) (n c:Nat) (ds:List ZA) (L:List Nat) (a:Int) (w:World) (C:n=ds.length) (T:n<=9223372036854775807) (W:0<=a) (V:a<=1048576) (h:Sli QC w A ds L):
  Calls prog 18 #[.slice A n c,.int .i64 a] w (QP (XO ds) a w):=by
 have H:=yS h;have HN:=yS C;clear h C;by_cases D:(n:Int)<=a
 .go_enter func18,ntmps18;go_wp2;go_loopw [1,5] (fun q i wr=>∃(k:Nat) (l:Int),k<=n/\i=.int .i64 k/\q=.int .i64 l/\0<=l/\l<=a/\Hid (Below w.heap.size w wr)/\Hid (szR ((ds.drop k).map YU).sum l=szR (XO ds) a)) (fun _ i _=>n - (intOf i).toNat)
  case atStart=>exact ⟨0,a - n,A6 _,rfl,rfl,yE,yE,Below.refl _ _,yS (by
    have e:=HN.out;exact Xn _ _ _ _ yE (by simp only[XO,AD];omega))⟩
  case round=>
   obtain ⟨k,l,U,rfl,rfl,j,I,HB,HE⟩:=hrel;by_cases G:k<n
   .have o:k<ds.length:=by have:=HN.out;omega
    obtain ⟨b,off,cs,Lk,rfl,t,u,f,B⟩:=H.out.at_ o;have d:b<w.heap.size:=H.out.lt b t;have HR:=yS (QC.keep f (Zr HB.out (fun y m=>H.out.lt y (u y m))));obtain ⟨A1,c1,A2,c2,rfl⟩:=Zeh f;have S:wr.cell? ⟨b,off+k*8,none⟩=_:=(HB.out.cell (p:=⟨b,off+(k*8+0),none⟩) d).trans (B 0 _ rfl);have R:wr.cell? ⟨b,off+k*8+1,none⟩=_:=(HB.out.cell (p:=⟨b,off+(k*8+1),none⟩) d).trans (B 1 _ rfl);have P:wr.cell? ⟨b,off+k*8+2,none⟩=_:=(HB.out.cell (p:=⟨b,off+(k*8+2),none⟩) d).trans (B 2 _ rfl);have O:wr.cell? ⟨b,off+k*8+3,none⟩=_:=(HB.out.cell (p:=⟨b,off+(k*8+3),none⟩) d).trans (B 3 _ rfl);have N:wr.cell? ⟨b,off+k*8+4,none⟩=_:=(HB.out.cell (p:=⟨b,off+(k*8+4),none⟩) d).trans (B 4 _ rfl);have M:wr.cell? ⟨b,off+k*8+5,none⟩=_:=(HB.out.cell (p:=⟨b,off+(k*8+5),none⟩) d).trans (B 5 _ rfl);have K:wr.cell? ⟨b,off+k*8+6,none⟩=_:=(HB.out.cell (p:=⟨b,off+(k*8+6),none⟩) d).trans (B 6 _ rfl)
    have J:wr.cell? ⟨b,off+k*8+7,none⟩=_:=(HB.out.cell (p:=⟨b,off+(k*8+7),none⟩) d).trans (B 7 _ rfl);have E:Hid (ds.drop k=ds[k]::ds.drop (k+1)):=A9 _;generalize ds[k]=x at *
    clear B f;by_cases hs:(YU x:Int)<=l
    .go_wp2_with (go_at_call 53;refine (Zow _ x Lk _ _ yE yE HR.out).mono ?_;rintro e F ⟨rfl,g⟩;rw [Ya hs];have HB1:=yS (HB.out.trans (g.mono HB.out.size));clear g);go_roundw
     case rel=>exact ⟨k+1,l - YU x,yE,by go_num,rfl,yE,yE,HB1.out,yS (by rw [<-HE.out,E.out];exact Xn _ _ _ _ yE yG)⟩
     case measure=>simp [intOf];omega
    .go_wp2_with (go_at_call 53;refine (Zow _ x Lk _ _ yE yE HR.out).mono ?_;rintro e F ⟨rfl,g⟩;rw [Zy hs];have HB1:=yS (HB.out.trans (g.mono HB.out.size));clear g);go_ret;exact ⟨ZQ (by rw [<-HE.out,E.out,Zy (by simp;omega)]),HB1.out⟩
   .go_wp2;go_ret;exact ⟨ZQ (by rw [<-HE.out,AA (by have:=HN.out;omega)];simp [szR,j]),HB.out⟩
 .go_enter func18,ntmps18;go_wp2;go_ret;exact ⟨ZQ (by rw [Zy (by have:=HN.out;simp only[XO];omega)]),Below.refl _ _⟩
theorem Zqw (cs:List Value) (x:Zc) (L:List Nat) (a:Int) (w:World) (h0:0<=a) (h1:a<=1048576) (h:Yr.rep w cs x L):
  Calls prog 4 #[.agg cs.toArray,.int .i64 a] w (QP (ZZ x) a w):=by
 obtain ⟨A1,J,L1,A2,c2,L2,A3,I,L3,A4,H,L4,A5,G,L5,rfl,_hL,n1,m1,P,n2,m2,O,n3,m3,N,n4,m4,M,n5,W,K⟩:=h;unfold maxLen at m1 m2 m3 m4 W;have S1:=yS P;clear P;have S2:=yS O;clear O;have S3:=yS N;clear N;have S4:=yS M;clear M;have S5:=yS K;clear K;have B0:Hid (Below w.heap.size w (w.alloc (.cells #[.slice A1 x.rules.length J,.slice A2 x.ends.length c2,.slice A3 x.alphas.length I,.slice A4 x.nodes.length H,.slice A5 x.facts.length G,.int .i64 x.tries] 28))):=(Below.refl _ _).alloc (A0 _) _
 have K0:Hid (Blk (w.alloc (.cells #[.slice A1 x.rules.length J,.slice A2 x.ends.length c2,.slice A3 x.alphas.length I,.slice A4 x.nodes.length H,.slice A5 x.facts.length G,.int .i64 x.tries] 28)) w.heap.size 28 #[.slice A1 x.rules.length J,.slice A2 x.ends.length c2,.slice A3 x.alphas.length I,.slice A4 x.nodes.length H,.slice A5 x.facts.length G,.int .i64 x.tries]):=Blk.new _ _ _;go_enter func4,ntmps4;go_wp2_with fail
 refine (Zt3 A1 _ J x.rules L1 _ _ rfl yE yE yE (S1.out.below B0.out)).mono ?_;rintro e w1 ⟨rfl,b⟩;have B1:=yS (B0.out.trans (b.mono B0.out.size));have K1:=yS (K0.out.later b);obtain ⟨F,E,D,C,B,A⟩:=K1.out.at6;clear b;by_cases V:((YS x.rules:Nat):Int)<=a
 rotate_left
 .rw [Zy V];go_wp2_with fail
  go_ret;exact ⟨ZQ (by rw [Zy (by simp only[ZZ];omega)]),B1.out⟩
 rw [Ya V];go_wp2_with fail
 refine (ZvA A2 _ c2 _ _ yE yE yE).mono ?_;rintro e w2 ⟨rfl,c⟩;have B2:=yS (B1.out.trans (c.mono B1.out.size));have K2:=yS (K1.out.later c);clear F E D C B A;obtain ⟨F,E,D,C,B,A⟩:=K2.out.at6;clear c;by_cases U:(x.ends.length:Int)<=a - (YS x.rules:Nat)
 rotate_left
 .rw [Zy U];go_wp2_with fail
  go_ret;exact ⟨ZQ (by rw [Zy (by simp only[ZZ];omega)]),B2.out⟩
 rw [Ya U];go_wp2_with fail
 refine (Zsg A3 _ I x.alphas L3 _ _ rfl yE yE yE (S3.out.below B2.out)).mono ?_;rintro e w3 ⟨rfl,d⟩;have B3:=yS (B2.out.trans (d.mono B2.out.size));have K3:=yS (K2.out.later d);clear F E D C B A;obtain ⟨F,E,D,C,B,A⟩:=K3.out.at6;clear d;by_cases T:((Y5 x.alphas:Nat):Int)<=a - (YS x.rules:Nat) - (x.ends.length:Nat)
 rotate_left
 .rw [Zy T];go_wp2_with fail
  go_ret;exact ⟨ZQ (by rw [Zy (by simp only[ZZ];omega)]),B3.out⟩
 rw [Ya T];go_wp2_with fail
 refine (Ztp A4 _ H x.nodes L4 _ _ rfl yE yE yE (S4.out.below B3.out)).mono ?_;rintro e w4 ⟨rfl,f⟩;have B4:=yS (B3.out.trans (f.mono B3.out.size));have K4:=yS (K3.out.later f);clear F E D C B A;obtain ⟨F,E,D,C,B,A⟩:=K4.out.at6;clear f;by_cases S:((XO x.nodes:Nat):Int)<=a - (YS x.rules:Nat) - (x.ends.length:Nat) - (Y5 x.alphas:Nat)
 rotate_left
 .rw [Zy S];go_wp2_with fail
  go_ret;exact ⟨ZQ (by rw [Zy (by simp only[ZZ];omega)]),B4.out⟩
 rw [Ya S];go_wp2_with fail
 refine (Zi4 A5 _ G x.facts L5 _ _ rfl yE yE yE (S5.out.below B4.out)).mono ?_;rintro e w5 ⟨rfl,g⟩;have B5:=yS (B4.out.trans (g.mono B4.out.size));have K5:=yS (K4.out.later g);clear F E D C B A;obtain ⟨F,E,D,C,B,A⟩:=K5.out.at6;clear g;by_cases R:((Yi x.facts:Nat):Int)<=a - (YS x.rules:Nat) - (x.ends.length:Nat) - (Y5 x.alphas:Nat) - (XO x.nodes:Nat)
 rotate_left
 .rw [Zy R];go_wp2_with fail
  go_ret;exact ⟨ZQ (by rw [Zy (by simp only[ZZ];omega)]),B5.out⟩
 rw [Ya R];go_wp2_with fail
 go_ret;exact ⟨ZQ (by rw [Ya (by simp only[ZZ];omega)]<;>simp only[ZZ]<;>omega),B5.out⟩
theorem Zm6 (cs:List Value) (x:YB) (L:List Nat) (a:Int) (w:World) (K:0<=a) (J:a<=1048576) (h:XG.rep w cs x L):
  Calls prog 20 #[.agg cs.toArray,.int .i64 a] w (QP (XM x) a w):=by
 obtain ⟨A1,A,L1,rfl,_hL,H,D,E,F,B⟩:=h;unfold maxLen at F;have S1:=yS B;clear B;have B0:Hid (Below w.heap.size w (w.alloc (.cells #[.int .i64 x.kind,.string x.rule,.string x.fact.rel,.slice A1 x.fact.args.length A] 58))):=(Below.refl _ _).alloc (A0 _) _;have K0:Hid (Blk (w.alloc (.cells #[.int .i64 x.kind,.string x.rule,.string x.fact.rel,.slice A1 x.fact.args.length A] 58)) w.heap.size 58 #[.int .i64 x.kind,.string x.rule,.string x.fact.rel,.slice A1 x.fact.args.length A]):=Blk.new _ _ _;go_enter func20,ntmps20;by_cases I:(x.rule.size:Int)<=a
 rotate_left
 .go_wp2_with fail
  go_ret;exact ⟨ZQ (by rw [Zy (by simp only[XM];omega)]),B0.out⟩
 go_wp2_with fail
 refine (ZkL [.string x.fact.rel,.slice A1 x.fact.args.length A] x.fact _ _ _ yE yE ⟨A1,A,L1,rfl,rfl,D,E,(by unfold maxLen;omega),S1.out.below B0.out⟩).mono ?_;rintro e G ⟨rfl,b⟩;have B1:=yS (B0.out.trans (b.mono B0.out.size));have K1:=yS (K0.out.later b);obtain ⟨P,O,N,M⟩:=K1.out.at4;clear b;by_cases C:((YV x.fact:Nat):Int)<=a - x.rule.size
 rotate_left
 .rw [Zy C];go_wp2_with fail
  go_ret;exact ⟨ZQ (by rw [Zy (by simp only[XM];omega)]),B1.out⟩
 rw [Ya C];go_wp2_with fail
 go_ret;exact ⟨ZQ (by rw [Ya (by simp only[XM];omega)]<;>simp only[XM]<;>omega),B1.out⟩
theorem Zsp (A:Option Addr) (n c:Nat) (ds:List YB) (L:List Nat) (a:Int) (w:World) (C:n=ds.length) (O:n<=9223372036854775807) (S:0<=a) (R:a<=1048576) (h:Sli XG w A ds L):
  Calls prog 5 #[.slice A n c,.int .i64 a] w (QP (Xl ds) a w):=by
 have H:=yS h;have HN:=yS C;clear h C;by_cases D:(n:Int)<=a
 .go_enter func5,ntmps5;go_wp2;go_loopw [1,5] (fun q i wr=>∃(k:Nat) (l:Int),k<=n/\i=.int .i64 k/\q=.int .i64 l/\0<=l/\l<=a/\Hid (Below w.heap.size w wr)/\Hid (szR ((ds.drop k).map XM).sum l=szR (Xl ds) a)) (fun _ i _=>n - (intOf i).toNat)
  case atStart=>exact ⟨0,a - n,A6 _,rfl,rfl,yE,yE,Below.refl _ _,yS (by
    have e:=HN.out;exact Xn _ _ _ _ yE (by simp only[Xl,AD];omega))⟩
  case round=>
   obtain ⟨k,l,P,rfl,rfl,j,I,HB,HE⟩:=hrel;by_cases G:k<n
   .have o:k<ds.length:=by have:=HN.out;omega
    obtain ⟨b,off,cs,Lk,rfl,t,u,d,B⟩:=H.out.at_ o;have g:b<w.heap.size:=H.out.lt b t;have HR:=yS (XG.keep d (Zr HB.out (fun y m=>H.out.lt y (u y m))));obtain ⟨A1,T,rfl⟩:=Zdj d;have N:wr.cell? ⟨b,off+k*4,none⟩=_:=(HB.out.cell (p:=⟨b,off+(k*4+0),none⟩) g).trans (B 0 _ rfl);have M:wr.cell? ⟨b,off+k*4+1,none⟩=_:=(HB.out.cell (p:=⟨b,off+(k*4+1),none⟩) g).trans (B 1 _ rfl);have K:wr.cell? ⟨b,off+k*4+2,none⟩=_:=(HB.out.cell (p:=⟨b,off+(k*4+2),none⟩) g).trans (B 2 _ rfl);have J:wr.cell? ⟨b,off+k*4+3,none⟩=_:=(HB.out.cell (p:=⟨b,off+(k*4+3),none⟩) g).trans (B 3 _ rfl);have E:Hid (ds.drop k=ds[k]::ds.drop (k+1)):=A9 _;generalize ds[k]=x at *
    clear B d;by_cases hs:(XM x:Int)<=l
    .go_wp2_with (go_at_call 20;refine (Zm6 _ x Lk _ _ yE yE HR.out).mono ?_;rintro e F ⟨rfl,f⟩;rw [Ya hs];have HB1:=yS (HB.out.trans (f.mono HB.out.size));clear f);go_roundw
     case rel=>exact ⟨k+1,l - XM x,yE,by go_num,rfl,yE,yE,HB1.out,yS (by rw [<-HE.out,E.out];exact Xn _ _ _ _ yE yG)⟩
     case measure=>simp [intOf];omega
    .go_wp2_with (go_at_call 20;refine (Zm6 _ x Lk _ _ yE yE HR.out).mono ?_;rintro e F ⟨rfl,f⟩;rw [Zy hs];have HB1:=yS (HB.out.trans (f.mono HB.out.size));clear f);go_ret;exact ⟨ZQ (by rw [<-HE.out,E.out,Zy (by simp;omega)]),HB1.out⟩
   .go_wp2;go_ret;exact ⟨ZQ (by rw [<-HE.out,AA (by have:=HN.out;omega)];simp [szR,j]),HB.out⟩
 .go_enter func5,ntmps5;go_wp2;go_ret;exact ⟨ZQ (by rw [Zy (by have:=HN.out;simp only[Xl];omega)]),Below.refl _ _⟩
end
section
open Go.RowKit
theorem infoString_:(prog.info? 9).map (fun i=>(i.zero,i.size,i.bytes))=some (some (.string ⟨#[]⟩),1,16):=yO
theorem Zkw (A:Option Addr) (n c:Nat) (ds:List BYT) (L:List Nat) (w:World) (B:n=ds.length) (G:ds.length<=1099511627776) (h:Sli ZbY w A ds L):
  Calls prog 120 #[.slice A n c] w (ZdN ZbY 9 w ds):=by
 obtain ⟨F,hi,g,l,m⟩:=info_parts infoString_;rw [<-B]at G;have H:=yS h;have HN:=yS B;clear h B;go_enter func120,ntmps120;go_wp2_with (at_make;refine wpList_make_full _ rfl _ _ 54 rfl w.heap.size 9 F _ 1 underlying54 hi g l .i64 .i64 _ _ n rfl rfl rfl rfl (by rw [m];omega) (by unfold maxLen;omega) (A0 _) ?_;intro w1 a C);have E:Below w.heap.size w w1:=(Below.refl _ _).grown C (A0 _) yG;have HF0:Hid (ZX ZbY 9 w n ds 0 w1):=ZX.start a E;clear a C E;go_wp2;go_loopw [4] (fun i wr=>∃(k:Nat),k<=n/\i=.int .i64 k/\Hid (ZX ZbY 9 w n ds k wr)) (fun i _=>n - (intOf i).toNat)
 case atStart=>exact ⟨0,A6 _,rfl,HF0⟩
 case round=>
  obtain ⟨k,K,rfl,HF⟩:=hrel;by_cases f:k<n
  .have o:k<ds.length:=by have:=HN.out;omega
   obtain ⟨b,off,cs,Lk,rfl,q,I,d,D⟩:=H.out.at_ o;have t:b<w.heap.size:=H.out.lt b q;have e:=d;obtain ⟨rfl,_,u⟩:=e;have q0:=(HF.out.below.cell (p:=⟨b,off+(k*ZbY.size+0),none⟩) t).trans (D 0 _ rfl);have HS:=yS (HF.out.store (w2:=wr) (x:=ds[k]) (M:=[]) f HN.out (fun _=>rfl) (Below.refl _ _) ⟨⟨rfl,rfl,u⟩,Own.nil _ _⟩);obtain ⟨N,J⟩:=HF.out.cell f (j:=0) yF;have z0:=HF.out.frozen k;simp only[show ZbY.size=1 from rfl,AI,AJ]at q0 HS J;generalize ds[k]=x at *
   clear D d;go_wp2_with fail
   go_roundw
   case rel=>exact ⟨k+1,yE,by go_num,HS.out⟩
   case measure=>simp [intOf];omega
  .obtain rfl:k=n:=by omega
   go_wp2;go_ret;exact ⟨_,rfl,HF.out.done HN.out⟩
theorem infoInt_:(prog.info? 3).map (fun i=>(i.zero,i.size,i.bytes))=some (some (.int .i64 0),1,8):=yO
theorem Zu6 (A:Option Addr) (n c:Nat) (ds:List Int) (L:List Nat) (w:World) (B:n=ds.length) (G:ds.length<=1099511627776) (h:Sli ZeD w A ds L):
  Calls prog 25 #[.slice A n c] w (ZdN ZeD 3 w ds):=by
 obtain ⟨F,hi,g,l,m⟩:=info_parts infoInt_;rw [<-B]at G;have H:=yS h;have HN:=yS B;clear h B;go_enter func25,ntmps25;go_wp2_with (at_make;refine wpList_make_full _ rfl _ _ 23 rfl w.heap.size 3 F _ 1 underlying23 hi g l .i64 .i64 _ _ n rfl rfl rfl rfl (by rw [m];omega) (by unfold maxLen;omega) (A0 _) ?_;intro w1 a C);have E:Below w.heap.size w w1:=(Below.refl _ _).grown C (A0 _) yG;have HF0:Hid (ZX ZeD 3 w n ds 0 w1):=ZX.start a E;clear a C E;go_wp2;go_loopw [4] (fun i wr=>∃(k:Nat),k<=n/\i=.int .i64 k/\Hid (ZX ZeD 3 w n ds k wr)) (fun i _=>n - (intOf i).toNat)
 case atStart=>exact ⟨0,A6 _,rfl,HF0⟩
 case round=>
  obtain ⟨k,K,rfl,HF⟩:=hrel;by_cases f:k<n
  .have o:k<ds.length:=by have:=HN.out;omega
   obtain ⟨b,off,cs,Lk,rfl,q,I,d,D⟩:=H.out.at_ o;have t:b<w.heap.size:=H.out.lt b q;have e:=d;obtain ⟨rfl,_⟩:=e;have q0:=(HF.out.below.cell (p:=⟨b,off+(k*ZeD.size+0),none⟩) t).trans (D 0 _ rfl);have HS:=yS (HF.out.store (w2:=wr) (x:=ds[k]) (M:=[]) f HN.out (fun _=>rfl) (Below.refl _ _) ⟨⟨rfl,rfl⟩,Own.nil _ _⟩);obtain ⟨N,J⟩:=HF.out.cell f (j:=0) yF;have z0:=HF.out.frozen k;simp only[show ZeD.size=1 from rfl,AI,AJ]at q0 HS J;generalize ds[k]=x at *
   clear D d;go_wp2_with fail
   go_roundw
   case rel=>exact ⟨k+1,yE,by go_num,HS.out⟩
   case measure=>simp [intOf];omega
  .obtain rfl:k=n:=by omega
   go_wp2;go_ret;exact ⟨_,rfl,HF.out.done HN.out⟩
theorem Zom (cs:List Value) (x:Zf) (L:List Nat) (w:World) (E:YV x<=1048576) (h:Ys.rep w cs x L):
  Calls prog 68 #[.agg cs.toArray] w (Zg2 Ys w x):=by
 obtain ⟨A1,F,L1,rfl,_hL,G,U,O,D⟩:=h;unfold maxLen at O;have S1:=yS D;clear D;simp only[YV]at E;go_enter func68,ntmps68;go_wp2_with fail
 refine (Zkw A1 _ F x.args L1 _ rfl (by simp only[XA]at E;omega) (S1.out.below yI)).mono ?_;rintro e A ⟨R,rfl,B⟩;obtain ⟨c,d,rfl⟩:=B.shape;have a:=B.below;obtain ⟨M1,C⟩:=B.got;clear B;have G1:=yS (C.mono (show w.heap.size+3<=_ by simp));have lt1:=yS C.lt;clear C;have B1:Hid (Below w.heap.size w A):=Below.trans yI (a.mono yK);have K0:Hid (Blk A w.heap.size 56 #[.string x.rel,.slice A1 x.args.length F]):=Blk.later (Blk.alloc (Blk.alloc (Blk.new _ _ _) _) _) a;have K1:Hid (Blk A (w.heap.size+1) 60 #[.string ⟨#[]⟩,.slice none 0 0]):=Blk.later (Blk.alloc (Blk.new_at yG) _) a;have K2:Hid (Blk A (w.heap.size+1+1) 60 #[.string x.rel,.slice none 0 0]):=Blk.later (Blk.new_at yG) a;obtain ⟨f0,W⟩:=K0.out.at2;obtain ⟨K,J⟩:=K1.out.at2;obtain ⟨T,S⟩:=K2.out.at2;obtain ⟨I,H⟩:=K1.out.fr2;obtain ⟨N,M⟩:=K2.out.fr2
 have P:w.heap.size+2<A.heap.size:=by have:=a.size;simp at this;omega
 clear a;go_wp2_with fail
 refine bodyPost_ret (v:=.agg #[.string x.rel,.slice c x.args.length d]) (by simp [results,results68,go_sem,K,J]) rfl ?_;obtain ⟨f,g,i⟩:=ZH G1.out.rep;exact Zb9 (wr:=A) (M1) ⟨⟨c,d,M1,rfl,rfl,G,f,g,i⟩,by have o:=G1.out.own;simpa only [AB]using o⟩ (by intro b V;repeat rw [Below.heap_setCell _ _ _ _ (by dsimp only;omega)]) (by repeat (first|refine Below.setCell ?_ (by dsimp only;omega) _|refine Below.alloc ?_ yK _|exact B1.out))
theorem infoFact:(prog.info? 60).map (fun i=>(i.zero,i.size,i.bytes))=some (some (.agg #[.string ⟨#[]⟩,.slice none 0 0]),2,40):=yO
theorem ZiO (A:Option Addr) (n c:Nat) (ds:List Zf) (L:List Nat) (w:World) (F:n=ds.length) (D:Yi ds<=1048576) (h:Sli Ys w A ds L):
  Calls prog 28 #[.slice A n c] w (ZdN Ys 60 w ds):=by
 obtain ⟨O,hi,u,v,z⟩:=info_parts infoFact;have H:=yS h;have HN:=yS F;have R:n<=1048576:=by simp only[Yi]at D;omega
 have HZ:=yS D;clear h F D;go_enter func28,ntmps28;go_wp2_with (at_make;refine wpList_make_full _ rfl _ _ 35 rfl w.heap.size 60 O _ 2 underlying35 hi u v .i64 .i64 _ _ n rfl rfl rfl rfl (by rw [z];omega) (by unfold maxLen;omega) (A0 _) ?_;intro w1 f G);have I:Below w.heap.size w w1:=(Below.refl _ _).grown G (A0 _) yG;have HF0:Hid (ZX Ys 60 w n ds 0 w1):=ZX.start f I;clear f G I;go_wp2;go_loopw [4] (fun i wr=>∃(k:Nat),k<=n/\i=.int .i64 k/\Hid (ZX Ys 60 w n ds k wr)) (fun i _=>n - (intOf i).toNat)
 case atStart=>exact ⟨0,A6 _,rfl,HF0⟩
 case round=>
  obtain ⟨k,S,rfl,HF⟩:=hrel;by_cases g:k<n
  .have o:k<ds.length:=by have:=HN.out;omega
   obtain ⟨b,off,cs,Lk,rfl,B,C,a,E⟩:=H.out.at_ o;have q:b<w.heap.size:=H.out.lt b B;have HR:=yS (Ys.keep a (Zr HF.out.below (fun y m=>H.out.lt y (C y m))));obtain ⟨A1,T,rfl⟩:=Zcz a;have N:wr.cell? ⟨b,off+k*2,none⟩=_:=(HF.out.below.cell (p:=⟨b,off+(k*2+0),none⟩) q).trans (E 0 _ rfl);have M:wr.cell? ⟨b,off+k*2+1,none⟩=_:=(HF.out.below.cell (p:=⟨b,off+(k*2+1),none⟩) q).trans (E 1 _ rfl);have t:Hid (YV ds[k]<=1048576):=ZeM YV ds k o (by have:=HZ.out;simp only[Yi]at this;omega);obtain ⟨x,hx⟩:∃x,x=ds[k]:=⟨_,rfl⟩
   have HX:=yS hx;rw [<-hx]at HR N M t;clear E a hx;go_wp2_with fail
   refine (Zom _ x Lk _ t.out HR.out).mono ?_;rintro e w2 ⟨P,M2,rfl,g2,l⟩;have HF2:=yS (HF.out.later l);have HS:=yS (HF.out.store g HN.out (fun _=>HX.out) l g2);obtain ⟨K,J,rfl⟩:=Zcz g2.rep;clear g2 l;obtain ⟨d0,e0⟩:∃d,w2.cell? ⟨w.heap.size,k*2,none⟩=some d:=HF2.out.cell g (j:=0) yF;have z0:=HF2.out.frozen (k*2);obtain ⟨d1,e1⟩:∃d,w2.cell? ⟨w.heap.size,k*2+1,none⟩=some d:=HF2.out.cell g (j:=1) yF;have z1:=HF2.out.frozen (k*2+1);go_wp2_with fail
   go_roundw
   case rel=>exact ⟨k+1,yE,by go_num,HS.out⟩
   case measure=>simp [intOf];omega
  .obtain rfl:k=n:=by omega
   go_wp2;go_ret;exact ⟨_,rfl,HF.out.done HN.out⟩
theorem ZgE (cs:List Value) (x:Zm) (L:List Nat) (w:World) (E:ZL x<=1048576) (h:QY.rep w cs x L):
  Calls prog 117 #[.agg cs.toArray] w (Zg2 QY w x):=by
 obtain ⟨A1,F,L1,rfl,_hL,G,U,O,D⟩:=h;unfold maxLen at O;have S1:=yS D;clear D;simp only[ZL]at E;go_enter func117,ntmps117;go_wp2_with fail
 refine (Zkw A1 _ F x.args L1 _ rfl (by simp only[XA]at E;omega) (S1.out.below yI)).mono ?_;rintro e A ⟨R,rfl,B⟩;obtain ⟨c,d,rfl⟩:=B.shape;have a:=B.below;obtain ⟨M1,C⟩:=B.got;clear B;have G1:=yS (C.mono (show w.heap.size+3<=_ by simp));have lt1:=yS C.lt;clear C;have B1:Hid (Below w.heap.size w A):=Below.trans yI (a.mono yK);have K0:Hid (Blk A w.heap.size 88 #[.string x.rel,.slice A1 x.args.length F]):=Blk.later (Blk.alloc (Blk.alloc (Blk.new _ _ _) _) _) a;have K1:Hid (Blk A (w.heap.size+1) 100 #[.string ⟨#[]⟩,.slice none 0 0]):=Blk.later (Blk.alloc (Blk.new_at yG) _) a;have K2:Hid (Blk A (w.heap.size+1+1) 100 #[.string x.rel,.slice none 0 0]):=Blk.later (Blk.new_at yG) a;obtain ⟨f0,W⟩:=K0.out.at2;obtain ⟨K,J⟩:=K1.out.at2;obtain ⟨T,S⟩:=K2.out.at2;obtain ⟨I,H⟩:=K1.out.fr2;obtain ⟨N,M⟩:=K2.out.fr2
 have P:w.heap.size+2<A.heap.size:=by have:=a.size;simp at this;omega
 clear a;go_wp2_with fail
 refine bodyPost_ret (v:=.agg #[.string x.rel,.slice c x.args.length d]) (by simp [results,results117,go_sem,K,J]) rfl ?_;obtain ⟨f,g,i⟩:=ZH G1.out.rep;exact Zb9 (wr:=A) (M1) ⟨⟨c,d,M1,rfl,rfl,G,f,g,i⟩,by have o:=G1.out.own;simpa only [AB]using o⟩ (by intro b V;repeat rw [Below.heap_setCell _ _ _ _ (by dsimp only;omega)]) (by repeat (first|refine Below.setCell ?_ (by dsimp only;omega) _|refine Below.alloc ?_ yK _|exact B1.out))
theorem ZvV (cs:List Value) (x:Zj) (L:List Nat) (w:World) (C:XY x<=1048576) (h:XK.rep w cs x L):
  Calls prog 236 #[.agg cs.toArray] w (Zg2 XK w x):=by
 obtain ⟨rfl,_hL,B,A⟩:=h;simp only[XY]at C;go_enter func236,ntmps236;go_wp2_with fail
 refine bodyPost_ret (v:=.agg #[.string x.var,.string x.value]) (by simp [results,results236,go_sem]) rfl ?_;exact ⟨_,[],rfl,⟨⟨rfl,rfl,B,A⟩,Own.nil _ _⟩,yI⟩
theorem infoPair:(prog.info? 206).map (fun i=>(i.zero,i.size,i.bytes))=some (some (.agg #[.string ⟨#[]⟩,.string ⟨#[]⟩]),2,32):=yO
theorem Zs5 (A:Option Addr) (n c:Nat) (ds:List Zj) (L:List Nat) (w:World) (F:n=ds.length) (D:XP ds<=1048576) (h:Sli XK w A ds L):
  Calls prog 196 #[.slice A n c] w (ZdN XK 206 w ds):=by
 obtain ⟨M,hi,u,v,z⟩:=info_parts infoPair;have H:=yS h;have HN:=yS F;have O:n<=1048576:=by simp only[XP]at D;omega
 have HZ:=yS D;clear h F D;go_enter func196,ntmps196;go_wp2_with (at_make;refine wpList_make_full _ rfl _ _ 140 rfl w.heap.size 206 M _ 2 underlying140 hi u v .i64 .i64 _ _ n rfl rfl rfl rfl (by rw [z];omega) (by unfold maxLen;omega) (A0 _) ?_;intro w1 f G);have I:Below w.heap.size w w1:=(Below.refl _ _).grown G (A0 _) yG;have HF0:Hid (ZX XK 206 w n ds 0 w1):=ZX.start f I;clear f G I;go_wp2;go_loopw [4] (fun i wr=>∃(k:Nat),k<=n/\i=.int .i64 k/\Hid (ZX XK 206 w n ds k wr)) (fun i _=>n - (intOf i).toNat)
 case atStart=>exact ⟨0,A6 _,rfl,HF0⟩
 case round=>
  obtain ⟨k,P,rfl,HF⟩:=hrel;by_cases g:k<n
  .have o:k<ds.length:=by have:=HN.out;omega
   obtain ⟨b,off,cs,Lk,rfl,B,C,a,E⟩:=H.out.at_ o;have q:b<w.heap.size:=H.out.lt b B;have HR:=yS (XK.keep a (Zr HF.out.below (fun y m=>H.out.lt y (C y m))));obtain rfl:=Zef a;have K:wr.cell? ⟨b,off+k*2,none⟩=_:=(HF.out.below.cell (p:=⟨b,off+(k*2+0),none⟩) q).trans (E 0 _ rfl);have J:wr.cell? ⟨b,off+k*2+1,none⟩=_:=(HF.out.below.cell (p:=⟨b,off+(k*2+1),none⟩) q).trans (E 1 _ rfl);have t:Hid (XY ds[k]<=1048576):=ZeM XY ds k o (by have:=HZ.out;simp only[XP]at this;omega);obtain ⟨x,hx⟩:∃x,x=ds[k]:=⟨_,rfl⟩
   have HX:=yS hx;rw [<-hx]at HR K J t;clear E a hx;go_wp2_with fail
   refine (ZvV _ x Lk _ t.out HR.out).mono ?_;rintro e w2 ⟨N,M2,rfl,g2,l⟩;have HF2:=yS (HF.out.later l);have HS:=yS (HF.out.store g HN.out (fun _=>HX.out) l g2);obtain rfl:=Zef g2.rep;clear g2 l;obtain ⟨d0,e0⟩:∃d,w2.cell? ⟨w.heap.size,k*2,none⟩=some d:=HF2.out.cell g (j:=0) yF;have z0:=HF2.out.frozen (k*2);obtain ⟨d1,e1⟩:∃d,w2.cell? ⟨w.heap.size,k*2+1,none⟩=some d:=HF2.out.cell g (j:=1) yF;have z1:=HF2.out.frozen (k*2+1);go_wp2_with fail
   go_roundw
   case rel=>exact ⟨k+1,yE,by go_num,HS.out⟩
   case measure=>simp [intOf];omega
  .obtain rfl:k=n:=by omega
   go_wp2;go_ret;exact ⟨_,rfl,HF.out.done HN.out⟩
theorem Zn1 (cs:List Value) (x:Zh) (L:List Nat) (w:World) (hz:Yf x<=1048576) (h:X8.rep w cs x L):
  Calls prog 118 #[.agg cs.toArray] w (Zg2 X8 w x):=by
 obtain ⟨A1,C,L1,rfl,_hL,D,F,t2,n1,m1,E⟩:=h;unfold maxLen at m1;have S1:=yS E;clear E;simp only[Yf]at hz;go_enter func118,ntmps118;go_wp2_with fail
 refine (ZgE [.string x.pattern.rel,.slice A1 x.pattern.args.length C] x.pattern _ _ yE ⟨A1,C,L1,rfl,rfl,D,n1,(by unfold maxLen;omega),S1.out.below yI⟩).mono ?_;rintro e A ⟨ab,M1,rfl,B,a⟩;obtain ⟨c,d,rfl⟩:=ZfP B.rep;have G1:=yS (B.mono (show w.heap.size+3<=_ by simp));have lt1:=yS B.lt;clear B;have B1:Hid (Below w.heap.size w A):=Below.trans yI (a.mono yK);have K0:Hid (Blk A w.heap.size 93 #[.int .i64 x.kind,.string x.pattern.rel,.slice A1 x.pattern.args.length C,.string x.left,.string x.right]):=Blk.later (Blk.alloc (Blk.alloc (Blk.new _ _ _) _) _) a;have K1:Hid (Blk A (w.heap.size+1) 105 #[.int .i64 0,.string ⟨#[]⟩,.slice none 0 0,.string ⟨#[]⟩,.string ⟨#[]⟩]):=Blk.later (Blk.alloc (Blk.new_at yG) _) a;have K2:Hid (Blk A (w.heap.size+1+1) 105 #[.int .i64 x.kind,.string ⟨#[]⟩,.slice none 0 0,.string ⟨#[]⟩,.string ⟨#[]⟩]):=Blk.later (Blk.new_at yG) a
 obtain ⟨f0,f1,f2,f3,f4⟩:=K0.out.at5;obtain ⟨R,P,O,N,M⟩:=K1.out.at5;obtain ⟨o0,o1,o2,o3,o4⟩:=K2.out.at5;obtain ⟨K,J,I,H,G⟩:=K1.out.fr5;obtain ⟨W,V,U,T,S⟩:=K2.out.fr5;have aa:w.heap.size+2<A.heap.size:=by have:=a.size;simp at this;omega
 clear a;go_wp2_with fail
 refine bodyPost_ret (v:=.agg #[.int .i64 x.kind,.string x.pattern.rel,.slice c x.pattern.args.length d,.string x.left,.string x.right]) (by simp [results,results118,go_sem,R,P,O,N,M]) rfl ?_;obtain ⟨_,_,N1,f,g,_,i,j,k⟩:=G1.out.rep;cases f;subst g;exact Zb9 (wr:=A) (M1) ⟨⟨c,d,M1,rfl,rfl,D,F,t2,i,j,k⟩,by have o:=G1.out.own;simpa only [AB]using o⟩ (by intro b hb;repeat rw [Below.heap_setCell _ _ _ _ (by dsimp only;omega)]) (by repeat (first|refine Below.setCell ?_ (by dsimp only;omega) _|refine Below.alloc ?_ yK _|exact B1.out))
theorem infoCond:(prog.info? 105).map (fun i=>(i.zero,i.size,i.bytes))=some (some (.agg #[.int .i64 0,.string ⟨#[]⟩,.slice none 0 0,.string ⟨#[]⟩,.string ⟨#[]⟩]),5,80):=yO
theorem ZsS (A:Option Addr) (n c:Nat) (ds:List Zh) (L:List Nat) (w:World) (F:n=ds.length) (E:Xp ds<=1048576) (h:Sli X8 w A ds L):
  Calls prog 115 #[.slice A n c] w (ZdN X8 105 w ds):=by
 obtain ⟨S,hi,u,v,z⟩:=info_parts infoCond;have H:=yS h;have HN:=yS F;have U:n<=1048576:=by simp only[Xp]at E;omega
 have HZ:=yS E;clear h F E;go_enter func115,ntmps115;go_wp2_with (at_make;refine wpList_make_full _ rfl _ _ 115 rfl w.heap.size 105 S _ 5 underlying115 hi u v .i64 .i64 _ _ n rfl rfl rfl rfl (by rw [z];omega) (by unfold maxLen;omega) (A0 _) ?_;intro w1 l G);have I:Below w.heap.size w w1:=(Below.refl _ _).grown G (A0 _) yG;have HF0:Hid (ZX X8 105 w n ds 0 w1):=ZX.start l I;clear l G I;go_wp2;go_loopw [4] (fun i wr=>∃(k:Nat),k<=n/\i=.int .i64 k/\Hid (ZX X8 105 w n ds k wr)) (fun i _=>n - (intOf i).toNat)
 case atStart=>exact ⟨0,A6 _,rfl,HF0⟩
 case round=>
  obtain ⟨k,V,rfl,HF⟩:=hrel;by_cases a:k<n
  .have q:k<ds.length:=by have:=HN.out;omega
   obtain ⟨b,off,cs,Lk,rfl,B,C,f,D⟩:=H.out.at_ q;have g:b<w.heap.size:=H.out.lt b B;have HR:=yS (X8.keep f (Zr HF.out.below (fun y m=>H.out.lt y (C y m))));obtain ⟨A1,W,rfl⟩:=Zcu f;have R:wr.cell? ⟨b,off+k*5,none⟩=_:=(HF.out.below.cell (p:=⟨b,off+(k*5+0),none⟩) g).trans (D 0 _ rfl);have P:wr.cell? ⟨b,off+k*5+1,none⟩=_:=(HF.out.below.cell (p:=⟨b,off+(k*5+1),none⟩) g).trans (D 1 _ rfl);have O:wr.cell? ⟨b,off+k*5+2,none⟩=_:=(HF.out.below.cell (p:=⟨b,off+(k*5+2),none⟩) g).trans (D 2 _ rfl);have N:wr.cell? ⟨b,off+k*5+3,none⟩=_:=(HF.out.below.cell (p:=⟨b,off+(k*5+3),none⟩) g).trans (D 3 _ rfl);have M:wr.cell? ⟨b,off+k*5+4,none⟩=_:=(HF.out.below.cell (p:=⟨b,off+(k*5+4),none⟩) g).trans (D 4 _ rfl);have t:Hid (Yf ds[k]<=1048576):=ZeM Yf ds k q (by have:=HZ.out;simp only[Xp]at this;omega);obtain ⟨x,hx⟩:∃x,x=ds[k]:=⟨_,rfl⟩
   have HX:=yS hx;rw [<-hx]at HR R P O N M t;clear D f hx;go_wp2_with fail
   refine (Zn1 _ x Lk _ t.out HR.out).mono ?_;rintro e w2 ⟨T,M2,rfl,g2,o⟩;have HF2:=yS (HF.out.later o);have HS:=yS (HF.out.store a HN.out (fun _=>HX.out) o g2);obtain ⟨K,J,rfl⟩:=Zcu g2.rep;clear g2 o;obtain ⟨d0,e0⟩:∃d,w2.cell? ⟨w.heap.size,k*5,none⟩=some d:=HF2.out.cell a (j:=0) yF;have z0:=HF2.out.frozen (k*5);obtain ⟨d1,e1⟩:∃d,w2.cell? ⟨w.heap.size,k*5+1,none⟩=some d:=HF2.out.cell a (j:=1) yF;have z1:=HF2.out.frozen (k*5+1);obtain ⟨d2,e2⟩:∃d,w2.cell? ⟨w.heap.size,k*5+2,none⟩=some d:=HF2.out.cell a (j:=2) yF;have z2:=HF2.out.frozen (k*5+2);obtain ⟨d3,e3⟩:∃d,w2.cell? ⟨w.heap.size,k*5+3,none⟩=some d:=HF2.out.cell a (j:=3) yF;have z3:=HF2.out.frozen (k*5+3);obtain ⟨d4,e4⟩:∃d,w2.cell? ⟨w.heap.size,k*5+4,none⟩=some d:=HF2.out.cell a (j:=4) yF;have z4:=HF2.out.frozen (k*5+4);go_wp2_with fail
   go_roundw
   case rel=>exact ⟨k+1,yE,by go_num,HS.out⟩
   case measure=>simp [intOf];omega
  .obtain rfl:k=n:=by omega
   go_wp2;go_ret;exact ⟨_,rfl,HF.out.done HN.out⟩
theorem ZrP (cs:List Value) (x:ZV) (L:List Nat) (w:World) (T:Y6 x<=1048576) (h:YT.rep w cs x L):
  Calls prog 160 #[.agg cs.toArray] w (Zg2 YT w x):=by
 obtain ⟨A1,C,L1,rfl,_hL,D,P,R,E⟩:=h;unfold maxLen at R;have S1:=yS E;clear E;simp only[Y6]at T;go_enter func160,ntmps160;go_wp2_with fail
 refine (ZgE [.string x.pattern.rel,.slice A1 x.pattern.args.length C] x.pattern _ _ yE ⟨A1,C,L1,rfl,rfl,D,P,(by unfold maxLen;omega),S1.out.below yI⟩).mono ?_;rintro e A ⟨U,M1,rfl,B,a⟩;obtain ⟨c,d,rfl⟩:=ZfP B.rep;have G1:=yS (B.mono (show w.heap.size+3<=_ by simp));have lt1:=yS B.lt;clear B;have B1:Hid (Below w.heap.size w A):=Below.trans yI (a.mono yK);have K0:Hid (Blk A w.heap.size 177 #[.int .i64 x.kind,.string x.pattern.rel,.slice A1 x.pattern.args.length C]):=Blk.later (Blk.alloc (Blk.alloc (Blk.new _ _ _) _) _) a;have K1:Hid (Blk A (w.heap.size+1) 173 #[.int .i64 0,.string ⟨#[]⟩,.slice none 0 0]):=Blk.later (Blk.alloc (Blk.new_at yG) _) a;have K2:Hid (Blk A (w.heap.size+1+1) 173 #[.int .i64 x.kind,.string ⟨#[]⟩,.slice none 0 0]):=Blk.later (Blk.new_at yG) a;obtain ⟨f0,f1,f2⟩:=K0.out.at3;obtain ⟨K,J,I⟩:=K1.out.at3;obtain ⟨o0,W,V⟩:=K2.out.at3
 obtain ⟨H,G,F⟩:=K1.out.fr3;obtain ⟨O,N,M⟩:=K2.out.fr3;have S:w.heap.size+2<A.heap.size:=by have:=a.size;simp at this;omega
 clear a;go_wp2_with fail
 refine bodyPost_ret (v:=.agg #[.int .i64 x.kind,.string x.pattern.rel,.slice c x.pattern.args.length d]) (by simp [results,results160,go_sem,K,J,I]) rfl ?_;obtain ⟨_,_,N1,f,g,_,i,j,k⟩:=G1.out.rep;cases f;subst g;exact Zb9 (wr:=A) (M1) ⟨⟨c,d,M1,rfl,rfl,D,i,j,k⟩,by have o:=G1.out.own;simpa only [AB]using o⟩ (by intro b hb;repeat rw [Below.heap_setCell _ _ _ _ (by dsimp only;omega)]) (by repeat (first|refine Below.setCell ?_ (by dsimp only;omega) _|refine Below.alloc ?_ yK _|exact B1.out))
theorem infoAction:(prog.info? 173).map (fun i=>(i.zero,i.size,i.bytes))=some (some (.agg #[.int .i64 0,.string ⟨#[]⟩,.slice none 0 0]),3,48):=yO
theorem Zql (A:Option Addr) (n c:Nat) (ds:List ZV) (L:List Nat) (w:World) (F:n=ds.length) (E:YN ds<=1048576) (h:Sli YT w A ds L):
  Calls prog 116 #[.slice A n c] w (ZdN YT 173 w ds):=by
 obtain ⟨P,hi,u,v,z⟩:=info_parts infoAction;have H:=yS h;have HN:=yS F;have S:n<=1048576:=by simp only[YN]at E;omega
 have HZ:=yS E;clear h F E;go_enter func116,ntmps116;go_wp2_with (at_make;refine wpList_make_full _ rfl _ _ 116 rfl w.heap.size 173 P _ 3 underlying116 hi u v .i64 .i64 _ _ n rfl rfl rfl rfl (by rw [z];omega) (by unfold maxLen;omega) (A0 _) ?_;intro w1 g G);have I:Below w.heap.size w w1:=(Below.refl _ _).grown G (A0 _) yG;have HF0:Hid (ZX YT 173 w n ds 0 w1):=ZX.start g I;clear g G I;go_wp2;go_loopw [4] (fun i wr=>∃(k:Nat),k<=n/\i=.int .i64 k/\Hid (ZX YT 173 w n ds k wr)) (fun i _=>n - (intOf i).toNat)
 case atStart=>exact ⟨0,A6 _,rfl,HF0⟩
 case round=>
  obtain ⟨k,T,rfl,HF⟩:=hrel;by_cases f:k<n
  .have q:k<ds.length:=by have:=HN.out;omega
   obtain ⟨b,off,cs,Lk,rfl,B,C,a,D⟩:=H.out.at_ q;have l:b<w.heap.size:=H.out.lt b B;have HR:=yS (YT.keep a (Zr HF.out.below (fun y m=>H.out.lt y (C y m))));obtain ⟨A1,U,rfl⟩:=Zb4 a;have O:wr.cell? ⟨b,off+k*3,none⟩=_:=(HF.out.below.cell (p:=⟨b,off+(k*3+0),none⟩) l).trans (D 0 _ rfl);have N:wr.cell? ⟨b,off+k*3+1,none⟩=_:=(HF.out.below.cell (p:=⟨b,off+(k*3+1),none⟩) l).trans (D 1 _ rfl);have M:wr.cell? ⟨b,off+k*3+2,none⟩=_:=(HF.out.below.cell (p:=⟨b,off+(k*3+2),none⟩) l).trans (D 2 _ rfl);have t:Hid (Y6 ds[k]<=1048576):=ZeM Y6 ds k q (by have:=HZ.out;simp only[YN]at this;omega);obtain ⟨x,hx⟩:∃x,x=ds[k]:=⟨_,rfl⟩
   have HX:=yS hx;rw [<-hx]at HR O N M t;clear D a hx;go_wp2_with fail
   refine (ZrP _ x Lk _ t.out HR.out).mono ?_;rintro e w2 ⟨R,M2,rfl,g2,o⟩;have HF2:=yS (HF.out.later o);have HS:=yS (HF.out.store f HN.out (fun _=>HX.out) o g2);obtain ⟨K,J,rfl⟩:=Zb4 g2.rep;clear g2 o;obtain ⟨d0,e0⟩:∃d,w2.cell? ⟨w.heap.size,k*3,none⟩=some d:=HF2.out.cell f (j:=0) yF;have z0:=HF2.out.frozen (k*3);obtain ⟨d1,e1⟩:∃d,w2.cell? ⟨w.heap.size,k*3+1,none⟩=some d:=HF2.out.cell f (j:=1) yF;have z1:=HF2.out.frozen (k*3+1);obtain ⟨d2,e2⟩:∃d,w2.cell? ⟨w.heap.size,k*3+2,none⟩=some d:=HF2.out.cell f (j:=2) yF;have z2:=HF2.out.frozen (k*3+2);go_wp2_with fail
   go_roundw
   case rel=>exact ⟨k+1,yE,by go_num,HS.out⟩
   case measure=>simp [intOf];omega
  .obtain rfl:k=n:=by omega
   go_wp2;go_ret;exact ⟨_,rfl,HF.out.done HN.out⟩
theorem ZvK (cs:List Value) (x:Zq) (L:List Nat) (w:World) (hz:YW x<=1048576) (h:X6.rep w cs x L):
  Calls prog 65 #[.agg cs.toArray] w (Zg2 X6 w x):=by
 obtain ⟨A1,c1,L1,A2,c2,L2,rfl,_hL,t0,n1,m1,P,n2,m2,O⟩:=h;unfold maxLen at m1 m2;have S1:=yS P;clear P;have S2:=yS O;clear O;simp only[YW]at hz;go_enter func65,ntmps65;go_wp2_with fail
 refine (ZsS A1 _ c1 x.cond L1 _ rfl yE (S1.out.below yI)).mono ?_;rintro e F ⟨v1,rfl,H⟩;obtain ⟨d,f,rfl⟩:=H.shape;have c:=H.below;obtain ⟨M1,N⟩:=H.got;clear H;have G1:=yS (N.mono (show w.heap.size+3<=_ by simp));have y:=yS N.lt;clear N;have B1:Hid (Below w.heap.size w F):=Below.trans yI (c.mono yK);have K0:Hid (Blk F w.heap.size 86 #[.string x.name,.int .i64 x.priority,.slice A1 x.cond.length c1,.slice A2 x.thn.length c2]):=Blk.later (Blk.alloc (Blk.alloc (Blk.new _ _ _) _) _) c;have K1:Hid (Blk F (w.heap.size+1) 118 #[.string ⟨#[]⟩,.int .i64 0,.slice none 0 0,.slice none 0 0]):=Blk.later (Blk.alloc (Blk.new_at yG) _) c;have K2:Hid (Blk F (w.heap.size+1+1) 118 #[.string x.name,.int .i64 x.priority,.slice none 0 0,.slice none 0 0]):=Blk.later (Blk.new_at yG) c;obtain ⟨f0,f1,W,V⟩:=K0.out.at4;obtain ⟨M,K,J,I⟩:=K1.out.at4;obtain ⟨U,T,S,R⟩:=K2.out.at4
 obtain ⟨g,i,j,k⟩:=K1.out.fr4;obtain ⟨l,m,p,q⟩:=K2.out.fr4;have ab:w.heap.size+2<F.heap.size:=by have:=c.size;simp at this;omega
 clear c;go_wp2_with fail
 refine (Zql A2 _ c2 x.thn L2 _ rfl yE (S2.out.below (by repeat (first|refine Below.setCell ?_ (by dsimp only;omega) _|refine Below.alloc ?_ yK _|exact B1.out)))).mono ?_;rintro e w2 ⟨v2,rfl,G⟩;obtain ⟨t,u,rfl⟩:=G.shape;have a:=G.below;obtain ⟨M2,g2⟩:=G.got;clear G;have G2:=yS (g2.mono (show F.heap.size<=_ by simp));have lt2:=yS g2.lt;clear g2;have B2:Hid (Below w.heap.size w w2):=Below.trans (by repeat (first|refine Below.setCell ?_ (by dsimp only;omega) _|refine Below.alloc ?_ yK _|exact B1.out)) (a.mono yK);have G1:Hid (Got (Zz X8) (w.heap.size+3) [.slice d x.cond.length f] x.cond M1 w2):=Got.later (by repeat (first|refine Got.setCell ?_ (by dsimp only;omega) _|exact G1.out)) a;have K0:=yS (Blk.later (Blk.far K0.out (by dsimp only;omega) _) a);have K1:=yS (Blk.later (Blk.far K1.out (by dsimp only;omega) _) a);have K2:=yS (Blk.later (Blk.set_ K2.out 2 _) a)
 clear f0 M U g l f1 K T i m W J S j p V I R k q;obtain ⟨f0,f1,W,V⟩:=K0.out.at4;obtain ⟨M,K,J,I⟩:=K1.out.at4;obtain ⟨U,T,S,R⟩:=K2.out.at4;obtain ⟨g,i,j,k⟩:=K1.out.fr4;obtain ⟨l,m,p,q⟩:=K2.out.fr4;have aa:w.heap.size+2<w2.heap.size:=by have:=a.size;simp at this;omega
 have ac:F.heap.size<=w2.heap.size:=by have:=a.size;simp at this;omega
 clear a;go_wp2_with fail
 refine bodyPost_ret (v:=.agg #[.string x.name,.int .i64 x.priority,.slice d x.cond.length f,.slice t x.thn.length u]) (by simp [results,results65,go_sem,M,K,J,I]) rfl ?_;obtain ⟨z,A,B⟩:=ZH G1.out.rep;obtain ⟨C,D,E⟩:=ZH G2.out.rep;exact Zb9 (wr:=w2) (M1++M2) ⟨⟨d,f,M1,t,u,M2,rfl,rfl,t0,z,A,B,C,D,E⟩,by have o:=(Own.append G1.out.own G2.out.own yE y.out);simpa only [AB]using o⟩ (by intro b hb;repeat rw [Below.heap_setCell _ _ _ _ (by dsimp only;omega)]) (by repeat (first|refine Below.setCell ?_ (by dsimp only;omega) _|refine Below.alloc ?_ yK _|exact B2.out))
theorem infoRule:(prog.info? 118).map (fun i=>(i.zero,i.size,i.bytes))=some (some (.agg #[.string ⟨#[]⟩,.int .i64 0,.slice none 0 0,.slice none 0 0]),4,72):=yO
theorem Zs3 (A:Option Addr) (n c:Nat) (ds:List Zq) (L:List Nat) (w:World) (F:n=ds.length) (E:YS ds<=1048576) (h:Sli X6 w A ds L):
  Calls prog 24 #[.slice A n c] w (ZdN X6 118 w ds):=by
 obtain ⟨T,hi,u,v,z⟩:=info_parts infoRule;have H:=yS h;have HN:=yS F;have V:n<=1048576:=by simp only[YS]at E;omega
 have HZ:=yS E;clear h F E;go_enter func24,ntmps24;go_wp2_with (at_make;refine wpList_make_full _ rfl _ _ 32 rfl w.heap.size 118 T _ 4 underlying32 hi u v .i64 .i64 _ _ n rfl rfl rfl rfl (by rw [z];omega) (by unfold maxLen;omega) (A0 _) ?_;intro w1 l G);have I:Below w.heap.size w w1:=(Below.refl _ _).grown G (A0 _) yG;have HF0:Hid (ZX X6 118 w n ds 0 w1):=ZX.start l I;clear l G I;go_wp2;go_loopw [4] (fun i wr=>∃(k:Nat),k<=n/\i=.int .i64 k/\Hid (ZX X6 118 w n ds k wr)) (fun i _=>n - (intOf i).toNat)
 case atStart=>exact ⟨0,A6 _,rfl,HF0⟩
 case round=>
  obtain ⟨k,W,rfl,HF⟩:=hrel;by_cases a:k<n
  .have q:k<ds.length:=by have:=HN.out;omega
   obtain ⟨b,off,cs,Lk,rfl,B,C,f,D⟩:=H.out.at_ q;have g:b<w.heap.size:=H.out.lt b B;have HR:=yS (X6.keep f (Zr HF.out.below (fun y m=>H.out.lt y (C y m))));obtain ⟨A1,c1,A2,c2,rfl⟩:=Zeo f;have S:wr.cell? ⟨b,off+k*4,none⟩=_:=(HF.out.below.cell (p:=⟨b,off+(k*4+0),none⟩) g).trans (D 0 _ rfl);have R:wr.cell? ⟨b,off+k*4+1,none⟩=_:=(HF.out.below.cell (p:=⟨b,off+(k*4+1),none⟩) g).trans (D 1 _ rfl);have P:wr.cell? ⟨b,off+k*4+2,none⟩=_:=(HF.out.below.cell (p:=⟨b,off+(k*4+2),none⟩) g).trans (D 2 _ rfl);have O:wr.cell? ⟨b,off+k*4+3,none⟩=_:=(HF.out.below.cell (p:=⟨b,off+(k*4+3),none⟩) g).trans (D 3 _ rfl);have t:Hid (YW ds[k]<=1048576):=ZeM YW ds k q (by have:=HZ.out;simp only[YS]at this;omega);obtain ⟨x,hx⟩:∃x,x=ds[k]:=⟨_,rfl⟩
   have HX:=yS hx;rw [<-hx]at HR S R P O t;clear D f hx;go_wp2_with fail
   refine (ZvK _ x Lk _ t.out HR.out).mono ?_;rintro e w2 ⟨U,M2,rfl,g2,o⟩;have HF2:=yS (HF.out.later o);have HS:=yS (HF.out.store a HN.out (fun _=>HX.out) o g2);obtain ⟨N,K,M,J,rfl⟩:=Zeo g2.rep;clear g2 o;obtain ⟨d0,e0⟩:∃d,w2.cell? ⟨w.heap.size,k*4,none⟩=some d:=HF2.out.cell a (j:=0) yF;have z0:=HF2.out.frozen (k*4);obtain ⟨d1,e1⟩:∃d,w2.cell? ⟨w.heap.size,k*4+1,none⟩=some d:=HF2.out.cell a (j:=1) yF;have z1:=HF2.out.frozen (k*4+1);obtain ⟨d2,e2⟩:∃d,w2.cell? ⟨w.heap.size,k*4+2,none⟩=some d:=HF2.out.cell a (j:=2) yF;have z2:=HF2.out.frozen (k*4+2);obtain ⟨d3,e3⟩:∃d,w2.cell? ⟨w.heap.size,k*4+3,none⟩=some d:=HF2.out.cell a (j:=3) yF;have z3:=HF2.out.frozen (k*4+3);go_wp2_with fail
   go_roundw
   case rel=>exact ⟨k+1,yE,by go_num,HS.out⟩
   case measure=>simp [intOf];omega
  .obtain rfl:k=n:=by omega
   go_wp2;go_ret;exact ⟨_,rfl,HF.out.done HN.out⟩
theorem ZsN (cs:List Value) (x:Zi) (L:List Nat) (w:World) (U:YF x<=1048576) (h:Yt.rep w cs x L):
  Calls prog 161 #[.agg cs.toArray] w (Zg2 Yt w x):=by
 obtain ⟨A1,O,L1,A2,c2,L2,rfl,_hL,n1,R,I,n2,P,H⟩:=h;unfold maxLen at R P;have S1:=yS I;clear I;have S2:=yS H;clear H;simp only[YF]at U;go_enter func161,ntmps161;go_wp2_with fail
 refine (ZiO A1 _ O x.facts L1 _ rfl yE (S1.out.below yI)).mono ?_;rintro e B ⟨v1,rfl,D⟩;obtain ⟨d,f,rfl⟩:=D.shape;have c:=D.below;obtain ⟨M1,G⟩:=D.got;clear D;have G1:=yS (G.mono (show w.heap.size+3<=_ by simp));have p:=yS G.lt;clear G;have B1:Hid (Below w.heap.size w B):=Below.trans yI (c.mono yK);have K0:Hid (Blk B w.heap.size 181 #[.slice A1 x.facts.length O,.slice A2 x.binding.length c2]):=Blk.later (Blk.alloc (Blk.alloc (Blk.new _ _ _) _) _) c;have K1:Hid (Blk B (w.heap.size+1) 142 #[.slice none 0 0,.slice none 0 0]):=Blk.later (Blk.alloc (Blk.new_at yG) _) c;have K2:Hid (Blk B (w.heap.size+1+1) 142 #[.slice none 0 0,.slice none 0 0]):=Blk.later (Blk.new_at yG) c;obtain ⟨N,M⟩:=K0.out.at2;obtain ⟨F,E⟩:=K1.out.at2;obtain ⟨K,J⟩:=K2.out.at2;obtain ⟨g,i⟩:=K1.out.fr2;obtain ⟨j,k⟩:=K2.out.fr2;have T:w.heap.size+2<B.heap.size:=by have:=c.size;simp at this;omega
 clear c;go_wp2_with fail
 refine (Zs5 A2 _ c2 x.binding L2 _ rfl yE (S2.out.below (by repeat (first|refine Below.setCell ?_ (by dsimp only;omega) _|refine Below.alloc ?_ yK _|exact B1.out)))).mono ?_;rintro e w2 ⟨W,rfl,C⟩;obtain ⟨l,m,rfl⟩:=C.shape;have a:=C.below;obtain ⟨M2,g2⟩:=C.got;clear C;have G2:=yS (g2.mono (show B.heap.size<=_ by simp));have lt2:=yS g2.lt;clear g2;have B2:Hid (Below w.heap.size w w2):=Below.trans (by repeat (first|refine Below.setCell ?_ (by dsimp only;omega) _|refine Below.alloc ?_ yK _|exact B1.out)) (a.mono yK);have G1:Hid (Got (Zz Ys) (w.heap.size+3) [.slice d x.facts.length f] x.facts M1 w2):=Got.later (by repeat (first|refine Got.setCell ?_ (by dsimp only;omega) _|exact G1.out)) a;have K0:=yS (Blk.later (Blk.far K0.out (by dsimp only;omega) _) a);have K1:=yS (Blk.later (Blk.far K1.out (by dsimp only;omega) _) a);have K2:=yS (Blk.later (Blk.set_ K2.out 0 _) a)
 clear N F K g j M E J i k;obtain ⟨N,M⟩:=K0.out.at2;obtain ⟨F,E⟩:=K1.out.at2;obtain ⟨K,J⟩:=K2.out.at2;obtain ⟨g,i⟩:=K1.out.fr2;obtain ⟨j,k⟩:=K2.out.fr2;have S:w.heap.size+2<w2.heap.size:=by have:=a.size;simp at this;omega
 have V:B.heap.size<=w2.heap.size:=by have:=a.size;simp at this;omega
 clear a;go_wp2_with fail
 refine bodyPost_ret (v:=.agg #[.slice d x.facts.length f,.slice l x.binding.length m]) (by simp [results,results161,go_sem,F,E]) rfl ?_;obtain ⟨q,t,u⟩:=ZH G1.out.rep;obtain ⟨y,z,A⟩:=ZH G2.out.rep;exact Zb9 (wr:=w2) (M1++M2) ⟨⟨d,f,M1,l,m,M2,rfl,rfl,q,t,u,y,z,A⟩,by have o:=(Own.append G1.out.own G2.out.own yE p.out);simpa only [AB]using o⟩ (by intro b hb;repeat rw [Below.heap_setCell _ _ _ _ (by dsimp only;omega)]) (by repeat (first|refine Below.setCell ?_ (by dsimp only;omega) _|refine Below.alloc ?_ yK _|exact B2.out))
theorem infoToken:(prog.info? 142).map (fun i=>(i.zero,i.size,i.bytes))=some (some (.agg #[.slice none 0 0,.slice none 0 0]),2,48):=yO
theorem Zsh (A:Option Addr) (n c:Nat) (ds:List Zi) (L:List Nat) (w:World) (F:n=ds.length) (D:YX ds<=1048576) (h:Sli Yt w A ds L):
  Calls prog 119 #[.slice A n c] w (ZdN Yt 142 w ds):=by
 obtain ⟨R,hi,u,v,z⟩:=info_parts infoToken;have H:=yS h;have HN:=yS F;have T:n<=1048576:=by simp only[YX]at D;omega
 have HZ:=yS D;clear h F D;go_enter func119,ntmps119;go_wp2_with (at_make;refine wpList_make_full _ rfl _ _ 106 rfl w.heap.size 142 R _ 2 underlying106 hi u v .i64 .i64 _ _ n rfl rfl rfl rfl (by rw [z];omega) (by unfold maxLen;omega) (A0 _) ?_;intro w1 f G);have I:Below w.heap.size w w1:=(Below.refl _ _).grown G (A0 _) yG;have HF0:Hid (ZX Yt 142 w n ds 0 w1):=ZX.start f I;clear f G I;go_wp2;go_loopw [4] (fun i wr=>∃(k:Nat),k<=n/\i=.int .i64 k/\Hid (ZX Yt 142 w n ds k wr)) (fun i _=>n - (intOf i).toNat)
 case atStart=>exact ⟨0,A6 _,rfl,HF0⟩
 case round=>
  obtain ⟨k,U,rfl,HF⟩:=hrel;by_cases g:k<n
  .have o:k<ds.length:=by have:=HN.out;omega
   obtain ⟨b,off,cs,Lk,rfl,B,C,a,E⟩:=H.out.at_ o;have q:b<w.heap.size:=H.out.lt b B;have HR:=yS (Yt.keep a (Zr HF.out.below (fun y m=>H.out.lt y (C y m))));obtain ⟨A1,V,A2,c2,rfl⟩:=Zda a;have P:wr.cell? ⟨b,off+k*2,none⟩=_:=(HF.out.below.cell (p:=⟨b,off+(k*2+0),none⟩) q).trans (E 0 _ rfl);have O:wr.cell? ⟨b,off+k*2+1,none⟩=_:=(HF.out.below.cell (p:=⟨b,off+(k*2+1),none⟩) q).trans (E 1 _ rfl);have t:Hid (YF ds[k]<=1048576):=ZeM YF ds k o (by have:=HZ.out;simp only[YX]at this;omega);obtain ⟨x,hx⟩:∃x,x=ds[k]:=⟨_,rfl⟩
   have HX:=yS hx;rw [<-hx]at HR P O t;clear E a hx;go_wp2_with fail
   refine (ZsN _ x Lk _ t.out HR.out).mono ?_;rintro e w2 ⟨S,M2,rfl,g2,l⟩;have HF2:=yS (HF.out.later l);have HS:=yS (HF.out.store g HN.out (fun _=>HX.out) l g2);obtain ⟨N,K,M,J,rfl⟩:=Zda g2.rep;clear g2 l;obtain ⟨d0,e0⟩:∃d,w2.cell? ⟨w.heap.size,k*2,none⟩=some d:=HF2.out.cell g (j:=0) yF;have z0:=HF2.out.frozen (k*2);obtain ⟨d1,e1⟩:∃d,w2.cell? ⟨w.heap.size,k*2+1,none⟩=some d:=HF2.out.cell g (j:=1) yF;have z1:=HF2.out.frozen (k*2+1);go_wp2_with fail
   go_roundw
   case rel=>exact ⟨k+1,yE,by go_num,HS.out⟩
   case measure=>simp [intOf];omega
  .obtain rfl:k=n:=by omega
   go_wp2;go_ret;exact ⟨_,rfl,HF.out.done HN.out⟩
theorem Zti (cs:List Value) (x:ZO) (L:List Nat) (w:World) (hz:Yz x<=1048576) (h:Xd.rep w cs x L):
  Calls prog 66 #[.agg cs.toArray] w (Zg2 Xd w x):=by
 obtain ⟨A1,M,L1,A2,c2,L2,rfl,_hL,N,n1,m1,P,n2,m2,O⟩:=h;unfold maxLen at m1 m2;have S1:=yS P;clear P;have S2:=yS O;clear O;simp only[Yz]at hz;go_enter func66,ntmps66;go_wp2_with fail
 refine (ZgE [.string x.shape.rel,.slice A1 x.shape.args.length M] x.shape _ _ yE ⟨A1,M,L1,rfl,rfl,N,n1,(by unfold maxLen;omega),S1.out.below yI⟩).mono ?_;rintro e F ⟨ad,M1,rfl,G,c⟩;obtain ⟨d,f,rfl⟩:=ZfP G.rep;have G1:=yS (G.mono (show w.heap.size+3<=_ by simp));have u:=yS G.lt;clear G;have B1:Hid (Below w.heap.size w F):=Below.trans yI (c.mono yK);have K0:Hid (Blk F w.heap.size 90 #[.string x.shape.rel,.slice A1 x.shape.args.length M,.slice A2 x.facts.length c2]):=Blk.later (Blk.alloc (Blk.alloc (Blk.new _ _ _) _) _) c;have K1:Hid (Blk F (w.heap.size+1) 103 #[.string ⟨#[]⟩,.slice none 0 0,.slice none 0 0]):=Blk.later (Blk.alloc (Blk.new_at yG) _) c;have K2:Hid (Blk F (w.heap.size+1+1) 103 #[.string ⟨#[]⟩,.slice none 0 0,.slice none 0 0]):=Blk.later (Blk.new_at yG) c;obtain ⟨W,V,U⟩:=K0.out.at3;obtain ⟨K,J,I⟩:=K1.out.at3;obtain ⟨T,S,R⟩:=K2.out.at3
 obtain ⟨g,i,j⟩:=K1.out.fr3;obtain ⟨k,l,m⟩:=K2.out.fr3;have ab:w.heap.size+2<F.heap.size:=by have:=c.size;simp at this;omega
 clear c;go_wp2_with fail
 refine (ZiO A2 _ c2 x.facts L2 _ rfl yE (S2.out.below (by repeat (first|refine Below.setCell ?_ (by dsimp only;omega) _|refine Below.alloc ?_ yK _|exact B1.out)))).mono ?_;rintro e w2 ⟨v2,rfl,H⟩;obtain ⟨p,q,rfl⟩:=H.shape;have a:=H.below;obtain ⟨M2,g2⟩:=H.got;clear H;have G2:=yS (g2.mono (show F.heap.size<=_ by simp));have lt2:=yS g2.lt;clear g2;have B2:Hid (Below w.heap.size w w2):=Below.trans (by repeat (first|refine Below.setCell ?_ (by dsimp only;omega) _|refine Below.alloc ?_ yK _|exact B1.out)) (a.mono yK);have G1:Hid (Got QY (w.heap.size+3) [.string x.shape.rel,.slice d x.shape.args.length f] x.shape M1 w2):=Got.later (by repeat (first|refine Got.setCell ?_ (by dsimp only;omega) _|exact G1.out)) a;have K0:=yS (Blk.later (Blk.far (Blk.far K0.out (by dsimp only;omega) _) (by dsimp only;omega) _) a)
 have K1:=yS (Blk.later (Blk.far (Blk.far K1.out (by dsimp only;omega) _) (by dsimp only;omega) _) a);have K2:=yS (Blk.later (Blk.set_ (Blk.set_ K2.out 0 _) 1 _) a);clear W K T g k V J S i l U I R j m;obtain ⟨W,V,U⟩:=K0.out.at3;obtain ⟨K,J,I⟩:=K1.out.at3;obtain ⟨T,S,R⟩:=K2.out.at3;obtain ⟨g,i,j⟩:=K1.out.fr3;obtain ⟨k,l,m⟩:=K2.out.fr3;have aa:w.heap.size+2<w2.heap.size:=by have:=a.size;simp at this;omega
 have ac:F.heap.size<=w2.heap.size:=by have:=a.size;simp at this;omega
 clear a;go_wp2_with fail
 refine bodyPost_ret (v:=.agg #[.string x.shape.rel,.slice d x.shape.args.length f,.slice p x.facts.length q]) (by simp [results,results66,go_sem,K,J,I]) rfl ?_;obtain ⟨_,_,N1,t,y,_,z,A,B⟩:=G1.out.rep;cases t;subst y;obtain ⟨C,D,E⟩:=ZH G2.out.rep;exact Zb9 (wr:=w2) (M1++M2) ⟨⟨d,f,M1,p,q,M2,rfl,rfl,N,z,A,B,C,D,E⟩,by have o:=(Own.append G1.out.own G2.out.own yE u.out);simpa only [AB]using o⟩ (by intro b hb;repeat rw [Below.heap_setCell _ _ _ _ (by dsimp only;omega)]) (by repeat (first|refine Below.setCell ?_ (by dsimp only;omega) _|refine Below.alloc ?_ yK _|exact B2.out))
theorem infoAlpha:(prog.info? 103).map (fun i=>(i.zero,i.size,i.bytes))=some (some (.agg #[.string ⟨#[]⟩,.slice none 0 0,.slice none 0 0]),3,64):=yO
theorem Zss (A:Option Addr) (n c:Nat) (ds:List ZO) (L:List Nat) (w:World) (F:n=ds.length) (E:Y5 ds<=1048576) (h:Sli Xd w A ds L):
  Calls prog 26 #[.slice A n c] w (ZdN Xd 103 w ds):=by
 obtain ⟨S,hi,u,v,z⟩:=info_parts infoAlpha;have H:=yS h;have HN:=yS F;have U:n<=1048576:=by simp only[Y5]at E;omega
 have HZ:=yS E;clear h F E;go_enter func26,ntmps26;go_wp2_with (at_make;refine wpList_make_full _ rfl _ _ 33 rfl w.heap.size 103 S _ 3 underlying33 hi u v .i64 .i64 _ _ n rfl rfl rfl rfl (by rw [z];omega) (by unfold maxLen;omega) (A0 _) ?_;intro w1 g G);have I:Below w.heap.size w w1:=(Below.refl _ _).grown G (A0 _) yG;have HF0:Hid (ZX Xd 103 w n ds 0 w1):=ZX.start g I;clear g G I;go_wp2;go_loopw [4] (fun i wr=>∃(k:Nat),k<=n/\i=.int .i64 k/\Hid (ZX Xd 103 w n ds k wr)) (fun i _=>n - (intOf i).toNat)
 case atStart=>exact ⟨0,A6 _,rfl,HF0⟩
 case round=>
  obtain ⟨k,V,rfl,HF⟩:=hrel;by_cases f:k<n
  .have q:k<ds.length:=by have:=HN.out;omega
   obtain ⟨b,off,cs,Lk,rfl,B,C,a,D⟩:=H.out.at_ q;have l:b<w.heap.size:=H.out.lt b B;have HR:=yS (Xd.keep a (Zr HF.out.below (fun y m=>H.out.lt y (C y m))));obtain ⟨A1,W,A2,c2,rfl⟩:=Zc3 a;have R:wr.cell? ⟨b,off+k*3,none⟩=_:=(HF.out.below.cell (p:=⟨b,off+(k*3+0),none⟩) l).trans (D 0 _ rfl);have P:wr.cell? ⟨b,off+k*3+1,none⟩=_:=(HF.out.below.cell (p:=⟨b,off+(k*3+1),none⟩) l).trans (D 1 _ rfl);have O:wr.cell? ⟨b,off+k*3+2,none⟩=_:=(HF.out.below.cell (p:=⟨b,off+(k*3+2),none⟩) l).trans (D 2 _ rfl);have t:Hid (Yz ds[k]<=1048576):=ZeM Yz ds k q (by have:=HZ.out;simp only[Y5]at this;omega);obtain ⟨x,hx⟩:∃x,x=ds[k]:=⟨_,rfl⟩
   have HX:=yS hx;rw [<-hx]at HR R P O t;clear D a hx;go_wp2_with fail
   refine (Zti _ x Lk _ t.out HR.out).mono ?_;rintro e w2 ⟨T,M2,rfl,g2,o⟩;have HF2:=yS (HF.out.later o);have HS:=yS (HF.out.store f HN.out (fun _=>HX.out) o g2);obtain ⟨N,K,M,J,rfl⟩:=Zc3 g2.rep;clear g2 o;obtain ⟨d0,e0⟩:∃d,w2.cell? ⟨w.heap.size,k*3,none⟩=some d:=HF2.out.cell f (j:=0) yF;have z0:=HF2.out.frozen (k*3);obtain ⟨d1,e1⟩:∃d,w2.cell? ⟨w.heap.size,k*3+1,none⟩=some d:=HF2.out.cell f (j:=1) yF;have z1:=HF2.out.frozen (k*3+1);obtain ⟨d2,e2⟩:∃d,w2.cell? ⟨w.heap.size,k*3+2,none⟩=some d:=HF2.out.cell f (j:=2) yF;have z2:=HF2.out.frozen (k*3+2);go_wp2_with fail
   go_roundw
   case rel=>exact ⟨k+1,yE,by go_num,HS.out⟩
   case measure=>simp [intOf];omega
  .obtain rfl:k=n:=by omega
   go_wp2;go_ret;exact ⟨_,rfl,HF.out.done HN.out⟩
theorem Zu3 (cs:List Value) (x:ZA) (L:List Nat) (w:World) (hz:YU x<=1048576) (h:QC.rep w cs x L):
  Calls prog 67 #[.agg cs.toArray] w (Zg2 QC w x):=by
 obtain ⟨A1,c1,L1,A2,c2,L2,rfl,_hL,t0,t1,t2,n1,m1,s1,n2,m2,s2⟩:=h;unfold maxLen at m1 m2;have S1:=yS s1;clear s1;have S2:=yS s2;clear s2;simp only[YU]at hz;go_enter func67,ntmps67;go_wp2_with fail
 refine (Zn1 [.int .i64 x.cond.kind,.string x.cond.pattern.rel,.slice A1 x.cond.pattern.args.length c1,.string x.cond.left,.string x.cond.right] x.cond _ _ yE ⟨A1,c1,L1,rfl,rfl,t0,t1,t2,n1,(by unfold maxLen;omega),S1.out.below yI⟩).mono ?_;rintro e R ⟨ad,M1,rfl,S,c⟩;obtain ⟨d,f,rfl⟩:=Zcu S.rep;have G1:=yS (S.mono (show w.heap.size+3<=_ by simp));have H:=yS S.lt;clear S;have B1:Hid (Below w.heap.size w R):=Below.trans yI (c.mono yK);have K0:Hid (Blk R w.heap.size 96 #[.int .i64 x.parent,.int .i64 x.cond.kind,.string x.cond.pattern.rel,.slice A1 x.cond.pattern.args.length c1,.string x.cond.left,.string x.cond.right,.int .i64 x.alpha,.slice A2 x.tokens.length c2]):=Blk.later (Blk.alloc (Blk.alloc (Blk.new _ _ _) _) _) c
 have K1:Hid (Blk R (w.heap.size+1) 108 #[.int .i64 0,.int .i64 0,.string ⟨#[]⟩,.slice none 0 0,.string ⟨#[]⟩,.string ⟨#[]⟩,.int .i64 0,.slice none 0 0]):=Blk.later (Blk.alloc (Blk.new_at yG) _) c;have K2:Hid (Blk R (w.heap.size+1+1) 108 #[.int .i64 x.parent,.int .i64 0,.string ⟨#[]⟩,.slice none 0 0,.string ⟨#[]⟩,.string ⟨#[]⟩,.int .i64 0,.slice none 0 0]):=Blk.later (Blk.new_at yG) c;obtain ⟨f0,f1,f2,f3,f4,f5,f6,f7⟩:=K0.out.at8;obtain ⟨r0,r1,r2,r3,r4,W,V,U⟩:=K1.out.at8;obtain ⟨o0,o1,o2,o3,o4,o5,o6,o7⟩:=K2.out.at8;obtain ⟨g,i,j,k,l,m,p,q⟩:=K1.out.fr8;obtain ⟨t,u,y,z,A,B,C,D⟩:=K2.out.fr8;have ab:w.heap.size+2<R.heap.size:=by have:=c.size;simp at this;omega
 clear c;go_wp2_with fail
 refine (Zsh A2 _ c2 x.tokens L2 _ rfl yE (S2.out.below (by repeat (first|refine Below.setCell ?_ (by dsimp only;omega) _|refine Below.alloc ?_ yK _|exact B1.out)))).mono ?_;rintro e w2 ⟨v2,rfl,T⟩;obtain ⟨E,F,rfl⟩:=T.shape;have a:=T.below;obtain ⟨M2,g2⟩:=T.got;clear T;have G2:=yS (g2.mono (show R.heap.size<=_ by simp));have lt2:=yS g2.lt;clear g2;have B2:Hid (Below w.heap.size w w2):=Below.trans (by repeat (first|refine Below.setCell ?_ (by dsimp only;omega) _|refine Below.alloc ?_ yK _|exact B1.out)) (a.mono yK);have G1:Hid (Got X8 (w.heap.size+3) [.int .i64 x.cond.kind,.string x.cond.pattern.rel,.slice d x.cond.pattern.args.length f,.string x.cond.left,.string x.cond.right] x.cond M1 w2):=Got.later (by repeat (first|refine Got.setCell ?_ (by dsimp only;omega) _|exact G1.out)) a
 have K0:=yS (Blk.later (Blk.far (Blk.far (Blk.far (Blk.far (Blk.far (Blk.far K0.out (by dsimp only;omega) _) (by dsimp only;omega) _) (by dsimp only;omega) _) (by dsimp only;omega) _) (by dsimp only;omega) _) (by dsimp only;omega) _) a);have K1:=yS (Blk.later (Blk.far (Blk.far (Blk.far (Blk.far (Blk.far (Blk.far K1.out (by dsimp only;omega) _) (by dsimp only;omega) _) (by dsimp only;omega) _) (by dsimp only;omega) _) (by dsimp only;omega) _) (by dsimp only;omega) _) a);have K2:=yS (Blk.later (Blk.set_ (Blk.set_ (Blk.set_ (Blk.set_ (Blk.set_ (Blk.set_ K2.out 1 _) 2 _) 3 _) 4 _) 5 _) 6 _) a);clear f0 r0 o0 g t f1 r1 o1 i u f2 r2 o2 j y f3 r3 o3 k z f4 r4 o4 l A f5 W o5 m B f6 V o6 p C f7 U o7 q D;obtain ⟨f0,f1,f2,f3,f4,f5,f6,f7⟩:=K0.out.at8;obtain ⟨r0,r1,r2,r3,r4,W,V,U⟩:=K1.out.at8;obtain ⟨o0,o1,o2,o3,o4,o5,o6,o7⟩:=K2.out.at8;obtain ⟨g,i,j,k,l,m,p,q⟩:=K1.out.fr8
 obtain ⟨t,u,y,z,A,B,C,D⟩:=K2.out.fr8;have aa:w.heap.size+2<w2.heap.size:=by have:=a.size;simp at this;omega
 have ac:R.heap.size<=w2.heap.size:=by have:=a.size;simp at this;omega
 clear a;go_wp2_with fail
 refine bodyPost_ret (v:=.agg #[.int .i64 x.parent,.int .i64 x.cond.kind,.string x.cond.pattern.rel,.slice d x.cond.pattern.args.length f,.string x.cond.left,.string x.cond.right,.int .i64 x.alpha,.slice E x.tokens.length F]) (by simp [results,results67,go_sem,r0,r1,r2,r3,r4,W,V,U]) rfl ?_;obtain ⟨_,_,N1,G,I,_,_,_,J,K,M⟩:=G1.out.rep;cases G;subst I;obtain ⟨N,O,P⟩:=ZH G2.out.rep;exact Zb9 (wr:=w2) (M1++M2) ⟨⟨d,f,M1,E,F,M2,rfl,rfl,t0,t1,t2,J,K,M,N,O,P⟩,by have o:=(Own.append G1.out.own G2.out.own yE H.out);simpa only [AB]using o⟩ (by intro b hb;repeat rw [Below.heap_setCell _ _ _ _ (by dsimp only;omega)]) (by repeat (first|refine Below.setCell ?_ (by dsimp only;omega) _|refine Below.alloc ?_ yK _|exact B2.out))
theorem infoNode:(prog.info? 108).map (fun i=>(i.zero,i.size,i.bytes))=some (some (.agg #[.int .i64 0,.int .i64 0,.string ⟨#[]⟩,.slice none 0 0,.string ⟨#[]⟩,.string ⟨#[]⟩,.int .i64 0,.slice none 0 0]),8,120):=yO
theorem ZtS (A:Option Addr) (n c:Nat) (ds:List ZA) (L:List Nat) (w:World) (F:n=ds.length) (E:XO ds<=1048576) (h:Sli QC w A ds L):
  Calls prog 27 #[.slice A n c] w (ZdN QC 108 w ds):=by
 obtain ⟨i0,hi,u,v,z⟩:=info_parts infoNode;have H:=yS h;have HN:=yS F;have hm:n<=1048576:=by simp only[XO]at E;omega
 have HZ:=yS E;clear h F E;go_enter func27,ntmps27;go_wp2_with (at_make;refine wpList_make_full _ rfl _ _ 34 rfl w.heap.size 108 i0 _ 8 underlying34 hi u v .i64 .i64 _ _ n rfl rfl rfl rfl (by rw [z];omega) (by unfold maxLen;omega) (A0 _) ?_;intro w1 l G);have I:Below w.heap.size w w1:=(Below.refl _ _).grown G (A0 _) yG;have HF0:Hid (ZX QC 108 w n ds 0 w1):=ZX.start l I;clear l G I;go_wp2;go_loopw [4] (fun i wr=>∃(k:Nat),k<=n/\i=.int .i64 k/\Hid (ZX QC 108 w n ds k wr)) (fun i _=>n - (intOf i).toNat)
 case atStart=>exact ⟨0,A6 _,rfl,HF0⟩
 case round=>
  obtain ⟨k,hk,rfl,HF⟩:=hrel;by_cases a:k<n
  .have q:k<ds.length:=by have:=HN.out;omega
   obtain ⟨b,off,cs,Lk,rfl,B,C,g,D⟩:=H.out.at_ q;have f:b<w.heap.size:=H.out.lt b B;have HR:=yS (QC.keep g (Zr HF.out.below (fun y m=>H.out.lt y (C y m))));obtain ⟨A1,c1,A2,c2,rfl⟩:=Zeh g;have W:wr.cell? ⟨b,off+k*8,none⟩=_:=(HF.out.below.cell (p:=⟨b,off+(k*8+0),none⟩) f).trans (D 0 _ rfl);have V:wr.cell? ⟨b,off+k*8+1,none⟩=_:=(HF.out.below.cell (p:=⟨b,off+(k*8+1),none⟩) f).trans (D 1 _ rfl);have U:wr.cell? ⟨b,off+k*8+2,none⟩=_:=(HF.out.below.cell (p:=⟨b,off+(k*8+2),none⟩) f).trans (D 2 _ rfl);have T:wr.cell? ⟨b,off+k*8+3,none⟩=_:=(HF.out.below.cell (p:=⟨b,off+(k*8+3),none⟩) f).trans (D 3 _ rfl);have S:wr.cell? ⟨b,off+k*8+4,none⟩=_:=(HF.out.below.cell (p:=⟨b,off+(k*8+4),none⟩) f).trans (D 4 _ rfl);have R:wr.cell? ⟨b,off+k*8+5,none⟩=_:=(HF.out.below.cell (p:=⟨b,off+(k*8+5),none⟩) f).trans (D 5 _ rfl)
   have P:wr.cell? ⟨b,off+k*8+6,none⟩=_:=(HF.out.below.cell (p:=⟨b,off+(k*8+6),none⟩) f).trans (D 6 _ rfl);have O:wr.cell? ⟨b,off+k*8+7,none⟩=_:=(HF.out.below.cell (p:=⟨b,off+(k*8+7),none⟩) f).trans (D 7 _ rfl);have t:Hid (YU ds[k]<=1048576):=ZeM YU ds k q (by have:=HZ.out;simp only[XO]at this;omega);obtain ⟨x,hx⟩:∃x,x=ds[k]:=⟨_,rfl⟩
   have HX:=yS hx;rw [<-hx]at HR W V U T S R P O t;clear D g hx;go_wp2_with fail
   refine (Zu3 _ x Lk _ t.out HR.out).mono ?_;rintro e w2 ⟨aa,M2,rfl,g2,o⟩;have HF2:=yS (HF.out.later o);have HS:=yS (HF.out.store a HN.out (fun _=>HX.out) o g2);obtain ⟨N,K,M,J,rfl⟩:=Zeh g2.rep;clear g2 o;obtain ⟨d0,e0⟩:∃d,w2.cell? ⟨w.heap.size,k*8,none⟩=some d:=HF2.out.cell a (j:=0) yF;have z0:=HF2.out.frozen (k*8);obtain ⟨d1,e1⟩:∃d,w2.cell? ⟨w.heap.size,k*8+1,none⟩=some d:=HF2.out.cell a (j:=1) yF;have z1:=HF2.out.frozen (k*8+1);obtain ⟨d2,e2⟩:∃d,w2.cell? ⟨w.heap.size,k*8+2,none⟩=some d:=HF2.out.cell a (j:=2) yF;have z2:=HF2.out.frozen (k*8+2);obtain ⟨d3,e3⟩:∃d,w2.cell? ⟨w.heap.size,k*8+3,none⟩=some d:=HF2.out.cell a (j:=3) yF;have z3:=HF2.out.frozen (k*8+3);obtain ⟨d4,e4⟩:∃d,w2.cell? ⟨w.heap.size,k*8+4,none⟩=some d:=HF2.out.cell a (j:=4) yF;have z4:=HF2.out.frozen (k*8+4);obtain ⟨d5,e5⟩:∃d,w2.cell? ⟨w.heap.size,k*8+5,none⟩=some d:=HF2.out.cell a (j:=5) yF
   have z5:=HF2.out.frozen (k*8+5);obtain ⟨d6,e6⟩:∃d,w2.cell? ⟨w.heap.size,k*8+6,none⟩=some d:=HF2.out.cell a (j:=6) yF;have z6:=HF2.out.frozen (k*8+6);obtain ⟨d7,e7⟩:∃d,w2.cell? ⟨w.heap.size,k*8+7,none⟩=some d:=HF2.out.cell a (j:=7) yF;have z7:=HF2.out.frozen (k*8+7);go_wp2_with fail
   go_roundw
   case rel=>exact ⟨k+1,yE,by go_num,HS.out⟩
   case measure=>simp [intOf];omega
  .obtain rfl:k=n:=by omega
   go_wp2;go_ret;exact ⟨_,rfl,HF.out.done HN.out⟩
theorem ZdU (cs:List Value) (x:Zc) (L:List Nat) (w:World) (hz:ZZ x<=1048576) (h:Yr.rep w cs x L):
  Calls prog 7 #[.agg cs.toArray] w (Zg2 Yr w x):=by
 obtain ⟨A1,c1,L1,A2,c2,L2,A3,c3,L3,A4,c4,L4,A5,c5,L5,rfl,_hL,n1,m1,s1,n2,m2,s2,n3,m3,s3,n4,m4,s4,n5,m5,s5⟩:=h;unfold maxLen at m1 m2 m3 m4 m5;have S1:=yS s1;clear s1;have S2:=yS s2;clear s2;have S3:=yS s3;clear s3;have S4:=yS s4;clear s4;have S5:=yS s5;clear s5;simp only[ZZ]at hz;go_enter func7,ntmps7;go_wp2_with fail
 refine (Zs3 A1 _ c1 x.rules L1 _ rfl yE (S1.out.below yI)).mono ?_;rintro e w1 ⟨v1,rfl,a1⟩;obtain ⟨A,B,rfl⟩:=a1.shape;have C:=a1.below;obtain ⟨M1,g1⟩:=a1.got;clear a1;have G1:=yS (g1.mono (show w.heap.size+3<=_ by simp));have M:=yS g1.lt;clear g1;have B1:Hid (Below w.heap.size w w1):=Below.trans yI (C.mono yK);have K0:Hid (Blk w1 w.heap.size 28 #[.slice A1 x.rules.length c1,.slice A2 x.ends.length c2,.slice A3 x.alphas.length c3,.slice A4 x.nodes.length c4,.slice A5 x.facts.length c5,.int .i64 x.tries]):=Blk.later (Blk.alloc (Blk.alloc (Blk.new _ _ _) _) _) C;have K1:Hid (Blk w1 (w.heap.size+1) 37 #[.slice none 0 0,.slice none 0 0,.slice none 0 0,.slice none 0 0,.slice none 0 0,.int .i64 0]):=Blk.later (Blk.alloc (Blk.new_at yG) _) C
 have K2:Hid (Blk w1 (w.heap.size+1+1) 37 #[.slice none 0 0,.slice none 0 0,.slice none 0 0,.slice none 0 0,.slice none 0 0,.int .i64 0]):=Blk.later (Blk.new_at yG) C;obtain ⟨f0,f1,f2,f3,f4,f5⟩:=K0.out.at6;obtain ⟨r0,r1,r2,r3,r4,r5⟩:=K1.out.at6;obtain ⟨o0,o1,o2,o3,o4,o5⟩:=K2.out.at6;obtain ⟨f,g,i,j,k,l⟩:=K1.out.fr6;obtain ⟨m,p,q,t,u,y⟩:=K2.out.fr6;have aj:w.heap.size+2<w1.heap.size:=by have:=C.size;simp at this;omega
 clear C;go_wp2_with fail
 refine (Zu6 A2 _ c2 x.ends L2 _ rfl yE (S2.out.below (by repeat (first|refine Below.setCell ?_ (by dsimp only;omega) _|refine Below.alloc ?_ yK _|exact B1.out)))).mono ?_;rintro e w2 ⟨v2,rfl,a2⟩;obtain ⟨D,E,rfl⟩:=a2.shape;have z:=a2.below;obtain ⟨M2,g2⟩:=a2.got;clear a2;have G2:=yS (g2.mono (show w1.heap.size<=_ by simp));have N:=yS g2.lt;clear g2;have B2:Hid (Below w.heap.size w w2):=Below.trans (by repeat (first|refine Below.setCell ?_ (by dsimp only;omega) _|refine Below.alloc ?_ yK _|exact B1.out)) (z.mono yK);have G1:Hid (Got (Zz X6) (w.heap.size+3) [.slice A x.rules.length B] x.rules M1 w2):=Got.later (by repeat (first|refine Got.setCell ?_ (by dsimp only;omega) _|exact G1.out)) z;have K0:=yS (Blk.later (Blk.far K0.out (by dsimp only;omega) _) z);have K1:=yS (Blk.later (Blk.far K1.out (by dsimp only;omega) _) z);have K2:=yS (Blk.later (Blk.set_ K2.out 0 _) z)
 clear f0 r0 o0 f m f1 r1 o1 g p f2 r2 o2 i q f3 r3 o3 j t f4 r4 o4 k u f5 r5 o5 l y;obtain ⟨f0,f1,f2,f3,f4,f5⟩:=K0.out.at6;obtain ⟨r0,r1,r2,r3,r4,r5⟩:=K1.out.at6;obtain ⟨o0,o1,o2,o3,o4,o5⟩:=K2.out.at6;obtain ⟨f,g,i,j,k,l⟩:=K1.out.fr6;obtain ⟨m,p,q,t,u,y⟩:=K2.out.fr6;have ai:w.heap.size+2<w2.heap.size:=by have:=z.size;simp at this;omega
 have an:w1.heap.size<=w2.heap.size:=by have:=z.size;simp at this;omega
 clear z;go_wp2_with fail
 refine (Zss A3 _ c3 x.alphas L3 _ rfl yE (S3.out.below (by repeat (first|refine Below.setCell ?_ (by dsimp only;omega) _|refine Below.alloc ?_ yK _|exact B2.out)))).mono ?_;rintro e w3 ⟨v3,rfl,a3⟩;obtain ⟨F,G,rfl⟩:=a3.shape;have d:=a3.below;obtain ⟨M3,g3⟩:=a3.got;clear a3;have G3:=yS (g3.mono (show w2.heap.size<=_ by simp));have O:=yS g3.lt;clear g3;have B3:Hid (Below w.heap.size w w3):=Below.trans (by repeat (first|refine Below.setCell ?_ (by dsimp only;omega) _|refine Below.alloc ?_ yK _|exact B2.out)) (d.mono yK);have G1:Hid (Got (Zz X6) (w.heap.size+3) [.slice A x.rules.length B] x.rules M1 w3):=Got.later (by repeat (first|refine Got.setCell ?_ (by dsimp only;omega) _|exact G1.out)) d;have G2:Hid (Got (Zz ZeD) (w1.heap.size) [.slice D x.ends.length E] x.ends M2 w3):=Got.later (by repeat (first|refine Got.setCell ?_ (by dsimp only;omega) _|exact G2.out)) d
 have K0:=yS (Blk.later (Blk.far K0.out (by dsimp only;omega) _) d);have K1:=yS (Blk.later (Blk.far K1.out (by dsimp only;omega) _) d);have K2:=yS (Blk.later (Blk.set_ K2.out 1 _) d);clear f0 r0 o0 f m f1 r1 o1 g p f2 r2 o2 i q f3 r3 o3 j t f4 r4 o4 k u f5 r5 o5 l y;obtain ⟨f0,f1,f2,f3,f4,f5⟩:=K0.out.at6;obtain ⟨r0,r1,r2,r3,r4,r5⟩:=K1.out.at6;obtain ⟨o0,o1,o2,o3,o4,o5⟩:=K2.out.at6;obtain ⟨f,g,i,j,k,l⟩:=K1.out.fr6;obtain ⟨m,p,q,t,u,y⟩:=K2.out.fr6;have ah:w.heap.size+2<w3.heap.size:=by have:=d.size;simp at this;omega
 have am:w2.heap.size<=w3.heap.size:=by have:=d.size;simp at this;omega
 clear d;go_wp2_with fail
 refine (ZtS A4 _ c4 x.nodes L4 _ rfl yE (S4.out.below (by repeat (first|refine Below.setCell ?_ (by dsimp only;omega) _|refine Below.alloc ?_ yK _|exact B3.out)))).mono ?_;rintro e w4 ⟨v4,rfl,a4⟩;obtain ⟨H,I,rfl⟩:=a4.shape;have c:=a4.below;obtain ⟨M4,g4⟩:=a4.got;clear a4;have G4:=yS (g4.mono (show w3.heap.size<=_ by simp));have P:=yS g4.lt;clear g4;have B4:Hid (Below w.heap.size w w4):=Below.trans (by repeat (first|refine Below.setCell ?_ (by dsimp only;omega) _|refine Below.alloc ?_ yK _|exact B3.out)) (c.mono yK);have G1:Hid (Got (Zz X6) (w.heap.size+3) [.slice A x.rules.length B] x.rules M1 w4):=Got.later (by repeat (first|refine Got.setCell ?_ (by dsimp only;omega) _|exact G1.out)) c;have G2:Hid (Got (Zz ZeD) (w1.heap.size) [.slice D x.ends.length E] x.ends M2 w4):=Got.later (by repeat (first|refine Got.setCell ?_ (by dsimp only;omega) _|exact G2.out)) c
 have G3:Hid (Got (Zz Xd) (w2.heap.size) [.slice F x.alphas.length G] x.alphas M3 w4):=Got.later (by repeat (first|refine Got.setCell ?_ (by dsimp only;omega) _|exact G3.out)) c;have K0:=yS (Blk.later (Blk.far K0.out (by dsimp only;omega) _) c);have K1:=yS (Blk.later (Blk.far K1.out (by dsimp only;omega) _) c);have K2:=yS (Blk.later (Blk.set_ K2.out 2 _) c);clear f0 r0 o0 f m f1 r1 o1 g p f2 r2 o2 i q f3 r3 o3 j t f4 r4 o4 k u f5 r5 o5 l y;obtain ⟨f0,f1,f2,f3,f4,f5⟩:=K0.out.at6;obtain ⟨r0,r1,r2,r3,r4,r5⟩:=K1.out.at6;obtain ⟨o0,o1,o2,o3,o4,o5⟩:=K2.out.at6;obtain ⟨f,g,i,j,k,l⟩:=K1.out.fr6;obtain ⟨m,p,q,t,u,y⟩:=K2.out.fr6;have ag:w.heap.size+2<w4.heap.size:=by have:=c.size;simp at this;omega
 have al:w3.heap.size<=w4.heap.size:=by have:=c.size;simp at this;omega
 clear c;go_wp2_with fail
 refine (ZiO A5 _ c5 x.facts L5 _ rfl yE (S5.out.below (by repeat (first|refine Below.setCell ?_ (by dsimp only;omega) _|refine Below.alloc ?_ yK _|exact B4.out)))).mono ?_;rintro e w5 ⟨v5,rfl,a5⟩;obtain ⟨J,K,rfl⟩:=a5.shape;have a:=a5.below;obtain ⟨M5,g5⟩:=a5.got;clear a5;have G5:=yS (g5.mono (show w4.heap.size<=_ by simp));have lt5:=yS g5.lt;clear g5;have B5:Hid (Below w.heap.size w w5):=Below.trans (by repeat (first|refine Below.setCell ?_ (by dsimp only;omega) _|refine Below.alloc ?_ yK _|exact B4.out)) (a.mono yK);have G1:Hid (Got (Zz X6) (w.heap.size+3) [.slice A x.rules.length B] x.rules M1 w5):=Got.later (by repeat (first|refine Got.setCell ?_ (by dsimp only;omega) _|exact G1.out)) a;have G2:Hid (Got (Zz ZeD) (w1.heap.size) [.slice D x.ends.length E] x.ends M2 w5):=Got.later (by repeat (first|refine Got.setCell ?_ (by dsimp only;omega) _|exact G2.out)) a
 have G3:Hid (Got (Zz Xd) (w2.heap.size) [.slice F x.alphas.length G] x.alphas M3 w5):=Got.later (by repeat (first|refine Got.setCell ?_ (by dsimp only;omega) _|exact G3.out)) a;have G4:Hid (Got (Zz QC) (w3.heap.size) [.slice H x.nodes.length I] x.nodes M4 w5):=Got.later (by repeat (first|refine Got.setCell ?_ (by dsimp only;omega) _|exact G4.out)) a;have K0:=yS (Blk.later (Blk.far K0.out (by dsimp only;omega) _) a);have K1:=yS (Blk.later (Blk.far K1.out (by dsimp only;omega) _) a);have K2:=yS (Blk.later (Blk.set_ K2.out 3 _) a);clear f0 r0 o0 f m f1 r1 o1 g p f2 r2 o2 i q f3 r3 o3 j t f4 r4 o4 k u f5 r5 o5 l y;obtain ⟨f0,f1,f2,f3,f4,f5⟩:=K0.out.at6;obtain ⟨r0,r1,r2,r3,r4,r5⟩:=K1.out.at6;obtain ⟨o0,o1,o2,o3,o4,o5⟩:=K2.out.at6;obtain ⟨f,g,i,j,k,l⟩:=K1.out.fr6;obtain ⟨m,p,q,t,u,y⟩:=K2.out.fr6;have af:w.heap.size+2<w5.heap.size:=by have:=a.size;simp at this;omega
 have ak:w4.heap.size<=w5.heap.size:=by have:=a.size;simp at this;omega
 clear a;go_wp2_with fail
 refine bodyPost_ret (v:=.agg #[.slice A x.rules.length B,.slice D x.ends.length E,.slice F x.alphas.length G,.slice H x.nodes.length I,.slice J x.facts.length K,.int .i64 x.tries]) (by simp [results,results7,go_sem,r0,r1,r2,r3,r4,r5]) rfl ?_;obtain ⟨Q,R,S⟩:=ZH G1.out.rep;obtain ⟨T,U,V⟩:=ZH G2.out.rep;obtain ⟨W,X,Y⟩:=ZH G3.out.rep;obtain ⟨Z,aa,ab⟩:=ZH G4.out.rep;obtain ⟨ac,ad,ae⟩:=ZH G5.out.rep;exact Zb9 (wr:=w5) (M1++(M2++(M3++(M4++M5)))) ⟨⟨A,B,M1,D,E,M2,F,G,M3,H,I,M4,J,K,M5,rfl,rfl,Q,R,S,T,U,V,W,X,Y,Z,aa,ab,ac,ad,ae⟩,by have o:=(Own.append G1.out.own (Own.append G2.out.own (Own.append G3.out.own (Own.append G4.out.own G5.out.own yE P.out) yE O.out) yE N.out) yE M.out);simpa only [AB]using o⟩ (by intro b hb;repeat rw [Below.heap_setCell _ _ _ _ (by dsimp only;omega)]) (by repeat (first|refine Below.setCell ?_ (by dsimp only;omega) _|refine Below.alloc ?_ yK _|exact B5.out))
theorem ZtI (cs:List Value) (x:YB) (L:List Nat) (w:World) (hz:XM x<=1048576) (h:XG.rep w cs x L):
  Calls prog 29 #[.agg cs.toArray] w (Zg2 XG w x):=by
 obtain ⟨A1,C,L1,rfl,_hL,F,D,U,V,E⟩:=h;unfold maxLen at V;have S1:=yS E;clear E;simp only[XM]at hz;go_enter func29,ntmps29;go_wp2_with fail
 refine (Zom [.string x.fact.rel,.slice A1 x.fact.args.length C] x.fact _ _ yE ⟨A1,C,L1,rfl,rfl,D,U,(by unfold maxLen;omega),S1.out.below yI⟩).mono ?_;rintro e A ⟨aa,M1,rfl,B,a⟩;obtain ⟨c,d,rfl⟩:=Zcz B.rep;have G1:=yS (B.mono (show w.heap.size+3<=_ by simp));have lt1:=yS B.lt;clear B;have B1:Hid (Below w.heap.size w A):=Below.trans yI (a.mono yK);have K0:Hid (Blk A w.heap.size 58 #[.int .i64 x.kind,.string x.rule,.string x.fact.rel,.slice A1 x.fact.args.length C]):=Blk.later (Blk.alloc (Blk.alloc (Blk.new _ _ _) _) _) a;have K1:Hid (Blk A (w.heap.size+1) 62 #[.int .i64 0,.string ⟨#[]⟩,.string ⟨#[]⟩,.slice none 0 0]):=Blk.later (Blk.alloc (Blk.new_at yG) _) a;have K2:Hid (Blk A (w.heap.size+1+1) 62 #[.int .i64 x.kind,.string x.rule,.string ⟨#[]⟩,.slice none 0 0]):=Blk.later (Blk.new_at yG) a;obtain ⟨f0,f1,f2,f3⟩:=K0.out.at4;obtain ⟨O,N,M,K⟩:=K1.out.at4
 obtain ⟨o0,o1,o2,o3⟩:=K2.out.at4;obtain ⟨J,I,H,G⟩:=K1.out.fr4;obtain ⟨T,S,R,P⟩:=K2.out.fr4;have W:w.heap.size+2<A.heap.size:=by have:=a.size;simp at this;omega
 clear a;go_wp2_with fail
 refine bodyPost_ret (v:=.agg #[.int .i64 x.kind,.string x.rule,.string x.fact.rel,.slice c x.fact.args.length d]) (by simp [results,results29,go_sem,O,N,M,K]) rfl ?_;obtain ⟨_,_,N1,f,g,_,i,j,k⟩:=G1.out.rep;cases f;subst g;exact Zb9 (wr:=A) (M1) ⟨⟨c,d,M1,rfl,rfl,F,D,i,j,k⟩,by have o:=G1.out.own;simpa only [AB]using o⟩ (by intro b hb;repeat rw [Below.heap_setCell _ _ _ _ (by dsimp only;omega)]) (by repeat (first|refine Below.setCell ?_ (by dsimp only;omega) _|refine Below.alloc ?_ yK _|exact B1.out))
theorem infoEvent:(prog.info? 62).map (fun i=>(i.zero,i.size,i.bytes))=some (some (.agg #[.int .i64 0,.string ⟨#[]⟩,.string ⟨#[]⟩,.slice none 0 0]),4,64):=yO
theorem ZeK (A:Option Addr) (n c:Nat) (ds:List YB) (L:List Nat) (w:World) (F:n=ds.length) (E:Xl ds<=1048576) (h:Sli XG w A ds L):
  Calls prog 8 #[.slice A n c] w (ZdN XG 62 w ds):=by
 obtain ⟨R,hi,u,v,z⟩:=info_parts infoEvent;have H:=yS h;have HN:=yS F;have T:n<=1048576:=by simp only[Xl]at E;omega
 have HZ:=yS E;clear h F E;go_enter func8,ntmps8;go_wp2_with (at_make;refine wpList_make_full _ rfl _ _ 41 rfl w.heap.size 62 R _ 4 underlying41 hi u v .i64 .i64 _ _ n rfl rfl rfl rfl (by rw [z];omega) (by unfold maxLen;omega) (A0 _) ?_;intro w1 l G);have I:Below w.heap.size w w1:=(Below.refl _ _).grown G (A0 _) yG;have HF0:Hid (ZX XG 62 w n ds 0 w1):=ZX.start l I;clear l G I;go_wp2;go_loopw [4] (fun i wr=>∃(k:Nat),k<=n/\i=.int .i64 k/\Hid (ZX XG 62 w n ds k wr)) (fun i _=>n - (intOf i).toNat)
 case atStart=>exact ⟨0,A6 _,rfl,HF0⟩
 case round=>
  obtain ⟨k,U,rfl,HF⟩:=hrel;by_cases a:k<n
  .have q:k<ds.length:=by have:=HN.out;omega
   obtain ⟨b,off,cs,Lk,rfl,B,C,f,D⟩:=H.out.at_ q;have g:b<w.heap.size:=H.out.lt b B;have HR:=yS (XG.keep f (Zr HF.out.below (fun y m=>H.out.lt y (C y m))));obtain ⟨A1,V,rfl⟩:=Zdj f;have P:wr.cell? ⟨b,off+k*4,none⟩=_:=(HF.out.below.cell (p:=⟨b,off+(k*4+0),none⟩) g).trans (D 0 _ rfl);have O:wr.cell? ⟨b,off+k*4+1,none⟩=_:=(HF.out.below.cell (p:=⟨b,off+(k*4+1),none⟩) g).trans (D 1 _ rfl);have N:wr.cell? ⟨b,off+k*4+2,none⟩=_:=(HF.out.below.cell (p:=⟨b,off+(k*4+2),none⟩) g).trans (D 2 _ rfl);have M:wr.cell? ⟨b,off+k*4+3,none⟩=_:=(HF.out.below.cell (p:=⟨b,off+(k*4+3),none⟩) g).trans (D 3 _ rfl);have t:Hid (XM ds[k]<=1048576):=ZeM XM ds k q (by have:=HZ.out;simp only[Xl]at this;omega);obtain ⟨x,hx⟩:∃x,x=ds[k]:=⟨_,rfl⟩
   have HX:=yS hx;rw [<-hx]at HR P O N M t;clear D f hx;go_wp2_with fail
   refine (ZtI _ x Lk _ t.out HR.out).mono ?_;rintro e w2 ⟨S,M2,rfl,g2,o⟩;have HF2:=yS (HF.out.later o);have HS:=yS (HF.out.store a HN.out (fun _=>HX.out) o g2);obtain ⟨K,J,rfl⟩:=Zdj g2.rep;clear g2 o;obtain ⟨d0,e0⟩:∃d,w2.cell? ⟨w.heap.size,k*4,none⟩=some d:=HF2.out.cell a (j:=0) yF;have z0:=HF2.out.frozen (k*4);obtain ⟨d1,e1⟩:∃d,w2.cell? ⟨w.heap.size,k*4+1,none⟩=some d:=HF2.out.cell a (j:=1) yF;have z1:=HF2.out.frozen (k*4+1);obtain ⟨d2,e2⟩:∃d,w2.cell? ⟨w.heap.size,k*4+2,none⟩=some d:=HF2.out.cell a (j:=2) yF;have z2:=HF2.out.frozen (k*4+2);obtain ⟨d3,e3⟩:∃d,w2.cell? ⟨w.heap.size,k*4+3,none⟩=some d:=HF2.out.cell a (j:=3) yF;have z3:=HF2.out.frozen (k*4+3);go_wp2_with fail
   go_roundw
   case rel=>exact ⟨k+1,yE,by go_num,HS.out⟩
   case measure=>simp [intOf];omega
  .obtain rfl:k=n:=by omega
   go_wp2;go_ret;exact ⟨_,rfl,HF.out.done HN.out⟩
end
section
open Go.RowKit
def Y2 (w:World) (e:Ending) (w':World):Prop:=e=.returned (.bool true)/\Below w.heap.size w w'
theorem Zks (A B:Option Addr) (n c d:Nat) (ds:List BYT) (L M:List Nat) (w:World) (E:n=ds.length) (R:n<=9223372036854775807) (H:Sli ZbY w A ds L) (G:Sli ZbY w B ds M):
  Calls prog 137 #[.slice A n c,.slice B n d] w (Y2 w):=by
 have H1:=yS H;have H2:=yS G;have HN:=yS E;clear H G E;have J:((n:Int) != n)=false:=by simp
 go_enter func137,ntmps137;go_wp2;go_loopw [5] (fun i wr=>∃(k:Nat),k<=n/\i=.int .i64 k/\Hid (∃q,wr=w.drewN q)) (fun i _=>n - (intOf i).toNat)
 case atStart=>exact ⟨0,A6 _,rfl,0,rfl⟩
 case round=>
  obtain ⟨k,S,rfl,I⟩:=hrel;obtain ⟨q,rfl⟩:=I.out;by_cases K:k<n
  .have e:k<ds.length:=by have:=HN.out;omega
   obtain ⟨b,off,cs,Lk,rfl,_,_,f,F⟩:=H1.out.at_ e;obtain ⟨T,D,N,Mk,rfl,_,_,a,C⟩:=H2.out.at_ e;generalize ds[k]=x at *
   obtain ⟨rfl,_,_⟩:=f;obtain ⟨rfl,_,_⟩:=a;have q0:=F 0 _ rfl;have p0:=C 0 _ rfl;simp only[show ZbY.size=1 from rfl,AI,AJ]at q0 p0;clear F C;have P:(0:Int)<=k:=by omega
   have O:(k:Int)<n:=by omega
   go_wp2_with fail
   go_quiet (fail)
   go_wp2_with fail
   go_roundw
   case rel=>exact ⟨k+1,yE,by go_num,by first|exact Zwt _ _ _|exact ZsQ _ _⟩
   case measure=>simp [intOf];omega
  .go_wp2;go_ret;exact ⟨rfl,ZiA _ _ _⟩
theorem ZvS (A B:Option Addr) (n c d:Nat) (ds:List Int) (L M:List Nat) (w:World) (E:n=ds.length) (R:n<=9223372036854775807) (H:Sli ZeD w A ds L) (G:Sli ZeD w B ds M):
  Calls prog 34 #[.slice A n c,.slice B n d] w (Y2 w):=by
 have H1:=yS H;have H2:=yS G;have HN:=yS E;clear H G E;have J:((n:Int) != n)=false:=by simp
 go_enter func34,ntmps34;go_wp2;go_loopw [5] (fun i wr=>∃(k:Nat),k<=n/\i=.int .i64 k/\Hid (∃q,wr=w.drewN q)) (fun i _=>n - (intOf i).toNat)
 case atStart=>exact ⟨0,A6 _,rfl,0,rfl⟩
 case round=>
  obtain ⟨k,S,rfl,I⟩:=hrel;obtain ⟨q,rfl⟩:=I.out;by_cases K:k<n
  .have e:k<ds.length:=by have:=HN.out;omega
   obtain ⟨b,off,cs,Lk,rfl,_,_,f,F⟩:=H1.out.at_ e;obtain ⟨T,D,N,Mk,rfl,_,_,a,C⟩:=H2.out.at_ e;generalize ds[k]=x at *
   obtain ⟨rfl,_⟩:=f;obtain ⟨rfl,_⟩:=a;have q0:=F 0 _ rfl;have p0:=C 0 _ rfl;simp only[show ZeD.size=1 from rfl,AI,AJ]at q0 p0;clear F C;have P:(0:Int)<=k:=by omega
   have O:(k:Int)<n:=by omega
   go_wp2_with fail
   go_quiet (fail)
   go_wp2_with fail
   go_roundw
   case rel=>exact ⟨k+1,yE,by go_num,by first|exact Zwt _ _ _|exact ZsQ _ _⟩
   case measure=>simp [intOf];omega
  .go_wp2;go_ret;exact ⟨rfl,ZiA _ _ _⟩
theorem Zpl (cs ds:List Value) (x:Zf) (L M:List Nat) (w:World) (C:Ys.rep w cs x L) (B:Ys.rep w ds x M):
  Calls prog 81 #[.agg cs.toArray,.agg ds.toArray] w (Y2 w):=by
 obtain ⟨b,c,j,rfl,_ahL,F,G,k,d⟩:=C;obtain ⟨f,g,l,rfl,_bhL,D,E,m,i⟩:=B;unfold maxLen at k m;have SA1:=yS d;have SB1:=yS i;clear d i;go_enter func81,ntmps81;go_wp2_with fail
 refine (Zks b f _ c g x.args j l _ rfl yE (SA1.out.below yI) (SB1.out.below yI)).mono ?_;rintro e A ⟨rfl,a⟩;have B1:Hid (Below w.heap.size w A):=Below.trans yI (a.mono yK);have K0:Hid (Blk A w.heap.size 60 #[.string x.rel,.slice b x.args.length c]):=Blk.later (Blk.alloc (Blk.new _ _ _) _) a;have K1:Hid (Blk A (w.heap.size+1) 60 #[.string x.rel,.slice f x.args.length g]):=Blk.later (Blk.new_at yG) a;obtain ⟨K,J⟩:=K0.out.at2;obtain ⟨I,H⟩:=K1.out.at2;clear a;have hz1:=B1.out.size;go_wp2_with fail
 go_ret;exact ⟨rfl,(by repeat (first|refine Below.setCell ?_ (by dsimp only;omega) _|refine Below.alloc ?_ yK _|exact B1.out))⟩
theorem Zip (A B:Option Addr) (n c d:Nat) (ds:List Zf) (L M:List Nat) (w:World) (F:n=ds.length) (hm:n<=9223372036854775807) (H:Sli Ys w A ds L) (G:Sli Ys w B ds M):
  Calls prog 37 #[.slice A n c,.slice B n d] w (Y2 w):=by
 have H1:=yS H;have H2:=yS G;have HN:=yS F;clear H G F;have I:((n:Int) != n)=false:=by simp
 go_enter func37,ntmps37;go_wp2;go_loopw [5] (fun i wr=>∃(k:Nat),k<=n/\i=.int .i64 k/\Hid (Below w.heap.size w wr)) (fun i _=>n - (intOf i).toNat)
 case atStart=>exact ⟨0,A6 _,rfl,Below.refl _ _⟩
 case round=>
  obtain ⟨k,hk,rfl,HB⟩:=hrel;by_cases J:k<n
  .have l:k<ds.length:=by have:=HN.out;omega
   obtain ⟨b,off,cs,Lk,rfl,t,u,g,E⟩:=H1.out.at_ l;obtain ⟨D,f,K,Mk,rfl,v,z,a,C⟩:=H2.out.at_ l;have o:b<w.heap.size:=H1.out.lt b t;have j:D<w.heap.size:=H2.out.lt D v;have HR:=yS (Ys.keep g (Zr HB.out (fun y m=>H1.out.lt y (u y m))));have HR':=yS (Ys.keep a (Zr HB.out (fun y m=>H2.out.lt y (z y m))));generalize ds[k]=x at *
   obtain ⟨R,P,rfl⟩:=Zcz g;obtain ⟨O,N,rfl⟩:=Zcz a;have U:wr.cell? ⟨b,off+k*2,none⟩=_:=(HB.out.cell (p:=⟨b,off+(k*2+0),none⟩) o).trans (E 0 _ rfl);have W:wr.cell? ⟨D,f+k*2,none⟩=_:=(HB.out.cell (p:=⟨D,f+(k*2+0),none⟩) j).trans (C 0 _ rfl);have T:wr.cell? ⟨b,off+k*2+1,none⟩=_:=(HB.out.cell (p:=⟨b,off+(k*2+1),none⟩) o).trans (E 1 _ rfl);have V:wr.cell? ⟨D,f+k*2+1,none⟩=_:=(HB.out.cell (p:=⟨D,f+(k*2+1),none⟩) j).trans (C 1 _ rfl);clear E C g a;have k0:(0:Int)<=k:=by omega
   have k1:(k:Int)<n:=by omega
   go_wp2_with fail
   go_still_tail 8,yO
   change wpList _ _ _ _ _ wr.drew
   go_wp2_with (go_at_call 81;(refine (Zpl _ _ x Lk Mk wr.drew (Ys.keep HR.out (fun _ _=>rfl)) (Ys.keep HR'.out (fun _ _=>rfl))).mono ?_;rintro e S ⟨rfl,q⟩;have HB1:=yS (HB.out.drew.trans (q.mono HB.out.size));clear q));go_roundw
   case rel=>exact ⟨k+1,yE,by go_num,HB1.out⟩
   case measure=>simp [intOf];omega
  .go_wp2;go_ret;exact ⟨rfl,HB.out⟩
theorem Zgq (cs ds:List Value) (x:Zm) (L M:List Nat) (w:World) (C:QY.rep w cs x L) (B:QY.rep w ds x M):
  Calls prog 134 #[.agg cs.toArray,.agg ds.toArray] w (Y2 w):=by
 obtain ⟨b,c,j,rfl,_ahL,F,G,k,d⟩:=C;obtain ⟨f,g,l,rfl,_bhL,D,E,m,i⟩:=B;unfold maxLen at k m;have SA1:=yS d;have SB1:=yS i;clear d i;go_enter func134,ntmps134;go_wp2_with fail
 refine (Zks b f _ c g x.args j l _ rfl yE (SA1.out.below yI) (SB1.out.below yI)).mono ?_;rintro e A ⟨rfl,a⟩;have B1:Hid (Below w.heap.size w A):=Below.trans yI (a.mono yK);have K0:Hid (Blk A w.heap.size 100 #[.string x.rel,.slice b x.args.length c]):=Blk.later (Blk.alloc (Blk.new _ _ _) _) a;have K1:Hid (Blk A (w.heap.size+1) 100 #[.string x.rel,.slice f x.args.length g]):=Blk.later (Blk.new_at yG) a;obtain ⟨K,J⟩:=K0.out.at2;obtain ⟨I,H⟩:=K1.out.at2;clear a;have hz1:=B1.out.size;go_wp2_with fail
 go_ret;exact ⟨rfl,(by repeat (first|refine Below.setCell ?_ (by dsimp only;omega) _|refine Below.alloc ?_ yK _|exact B1.out))⟩
theorem Zu2 (cs ds:List Value) (x:Zj) (L M:List Nat) (w:World) (B:XK.rep w cs x L) (A:XK.rep w ds x M):
  Calls prog 252 #[.agg cs.toArray,.agg ds.toArray] w (Y2 w):=by
 obtain ⟨rfl,_ahL,F,E⟩:=B;obtain ⟨rfl,_bhL,D,C⟩:=A;go_enter func252,ntmps252;go_wp2_with fail
 go_ret;exact ⟨rfl,yI⟩
theorem ZtP (A B:Option Addr) (n c d:Nat) (ds:List Zj) (L M:List Nat) (w:World) (F:n=ds.length) (V:n<=9223372036854775807) (H:Sli XK w A ds L) (G:Sli XK w B ds M):
  Calls prog 223 #[.slice A n c,.slice B n d] w (Y2 w):=by
 have H1:=yS H;have H2:=yS G;have HN:=yS F;clear H G F;have I:((n:Int) != n)=false:=by simp
 go_enter func223,ntmps223;go_wp2;go_loopw [5] (fun i wr=>∃(k:Nat),k<=n/\i=.int .i64 k/\Hid (Below w.heap.size w wr)) (fun i _=>n - (intOf i).toNat)
 case atStart=>exact ⟨0,A6 _,rfl,Below.refl _ _⟩
 case round=>
  obtain ⟨k,W,rfl,HB⟩:=hrel;by_cases J:k<n
  .have l:k<ds.length:=by have:=HN.out;omega
   obtain ⟨b,off,cs,Lk,rfl,t,u,g,E⟩:=H1.out.at_ l;obtain ⟨D,f,K,Mk,rfl,v,z,a,C⟩:=H2.out.at_ l;have o:b<w.heap.size:=H1.out.lt b t;have j:D<w.heap.size:=H2.out.lt D v;have HR:=yS (XK.keep g (Zr HB.out (fun y m=>H1.out.lt y (u y m))));have HR':=yS (XK.keep a (Zr HB.out (fun y m=>H2.out.lt y (z y m))));generalize ds[k]=x at *
   obtain rfl:=Zef g;obtain rfl:=Zef a;have P:wr.cell? ⟨b,off+k*2,none⟩=_:=(HB.out.cell (p:=⟨b,off+(k*2+0),none⟩) o).trans (E 0 _ rfl);have S:wr.cell? ⟨D,f+k*2,none⟩=_:=(HB.out.cell (p:=⟨D,f+(k*2+0),none⟩) j).trans (C 0 _ rfl);have O:wr.cell? ⟨b,off+k*2+1,none⟩=_:=(HB.out.cell (p:=⟨b,off+(k*2+1),none⟩) o).trans (E 1 _ rfl);have R:wr.cell? ⟨D,f+k*2+1,none⟩=_:=(HB.out.cell (p:=⟨D,f+(k*2+1),none⟩) j).trans (C 1 _ rfl);clear E C g a;have U:(0:Int)<=k:=by omega
   have T:(k:Int)<n:=by omega
   go_wp2_with fail
   go_still_tail 8,yO
   change wpList _ _ _ _ _ wr.drew
   go_wp2_with (go_at_call 252;(refine (Zu2 _ _ x Lk Mk wr.drew (XK.keep HR.out (fun _ _=>rfl)) (XK.keep HR'.out (fun _ _=>rfl))).mono ?_;rintro e N ⟨rfl,q⟩;have HB1:=yS (HB.out.drew.trans (q.mono HB.out.size));clear q));go_roundw
   case rel=>exact ⟨k+1,yE,by go_num,HB1.out⟩
   case measure=>simp [intOf];omega
  .go_wp2;go_ret;exact ⟨rfl,HB.out⟩
theorem Zn0 (cs ds:List Value) (x:Zh) (L M:List Nat) (w:World) (C:X8.rep w cs x L) (B:X8.rep w ds x M):
  Calls prog 135 #[.agg cs.toArray,.agg ds.toArray] w (Y2 w):=by
 obtain ⟨b,c,j,rfl,_ahL,k,G,F,l,m,g⟩:=C;obtain ⟨d,f,o,rfl,_bhL,p,E,D,q,t,i⟩:=B;unfold maxLen at m t;have SA1:=yS g;have SB1:=yS i;clear g i;go_enter func135,ntmps135;go_wp2_with fail
 refine (Zgq [.string x.pattern.rel,.slice b x.pattern.args.length c] [.string x.pattern.rel,.slice d x.pattern.args.length f] x.pattern _ _ _ ⟨b,c,j,rfl,rfl,k,l,(by unfold maxLen;omega),SA1.out.below yI⟩ ⟨d,f,o,rfl,rfl,p,q,(by unfold maxLen;omega),SB1.out.below yI⟩).mono ?_;rintro e A ⟨rfl,a⟩;have B1:Hid (Below w.heap.size w A):=Below.trans yI (a.mono yK);have K0:Hid (Blk A w.heap.size 105 #[.int .i64 x.kind,.string x.pattern.rel,.slice b x.pattern.args.length c,.string x.left,.string x.right]):=Blk.later (Blk.alloc (Blk.new _ _ _) _) a;have K1:Hid (Blk A (w.heap.size+1) 105 #[.int .i64 x.kind,.string x.pattern.rel,.slice d x.pattern.args.length f,.string x.left,.string x.right]):=Blk.later (Blk.new_at yG) a;obtain ⟨T,S,R,P,O⟩:=K0.out.at5;obtain ⟨N,K,J,I,H⟩:=K1.out.at5;clear a;have hz1:=B1.out.size;go_wp2_with fail
 go_ret;exact ⟨rfl,(by repeat (first|refine Below.setCell ?_ (by dsimp only;omega) _|refine Below.alloc ?_ yK _|exact B1.out))⟩
theorem Zs0 (A B:Option Addr) (n c d:Nat) (ds:List Zh) (L M:List Nat) (w:World) (F:n=ds.length) (hm:n<=9223372036854775807) (H:Sli X8 w A ds L) (G:Sli X8 w B ds M):
  Calls prog 132 #[.slice A n c,.slice B n d] w (Y2 w):=by
 have H1:=yS H;have H2:=yS G;have HN:=yS F;clear H G F;have I:((n:Int) != n)=false:=by simp
 go_enter func132,ntmps132;go_wp2;go_loopw [5] (fun i wr=>∃(k:Nat),k<=n/\i=.int .i64 k/\Hid (Below w.heap.size w wr)) (fun i _=>n - (intOf i).toNat)
 case atStart=>exact ⟨0,A6 _,rfl,Below.refl _ _⟩
 case round=>
  obtain ⟨k,hk,rfl,HB⟩:=hrel;by_cases J:k<n
  .have o:k<ds.length:=by have:=HN.out;omega
   obtain ⟨b,off,cs,Lk,rfl,t,u,j,E⟩:=H1.out.at_ o;obtain ⟨D,a,K,Mk,rfl,v,z,g,C⟩:=H2.out.at_ o;have l:b<w.heap.size:=H1.out.lt b t;have f:D<w.heap.size:=H2.out.lt D v;have HR:=yS (X8.keep j (Zr HB.out (fun y m=>H1.out.lt y (u y m))));have HR':=yS (X8.keep g (Zr HB.out (fun y m=>H2.out.lt y (z y m))));generalize ds[k]=x at *
   obtain ⟨R,P,rfl⟩:=Zcu j;obtain ⟨O,N,rfl⟩:=Zcu g;have q0:wr.cell? ⟨b,off+k*5,none⟩=_:=(HB.out.cell (p:=⟨b,off+(k*5+0),none⟩) l).trans (E 0 _ rfl);have p0:wr.cell? ⟨D,a+k*5,none⟩=_:=(HB.out.cell (p:=⟨D,a+(k*5+0),none⟩) f).trans (C 0 _ rfl);have W:wr.cell? ⟨b,off+k*5+1,none⟩=_:=(HB.out.cell (p:=⟨b,off+(k*5+1),none⟩) l).trans (E 1 _ rfl);have p1:wr.cell? ⟨D,a+k*5+1,none⟩=_:=(HB.out.cell (p:=⟨D,a+(k*5+1),none⟩) f).trans (C 1 _ rfl);have V:wr.cell? ⟨b,off+k*5+2,none⟩=_:=(HB.out.cell (p:=⟨b,off+(k*5+2),none⟩) l).trans (E 2 _ rfl);have p2:wr.cell? ⟨D,a+k*5+2,none⟩=_:=(HB.out.cell (p:=⟨D,a+(k*5+2),none⟩) f).trans (C 2 _ rfl);have U:wr.cell? ⟨b,off+k*5+3,none⟩=_:=(HB.out.cell (p:=⟨b,off+(k*5+3),none⟩) l).trans (E 3 _ rfl);have p3:wr.cell? ⟨D,a+k*5+3,none⟩=_:=(HB.out.cell (p:=⟨D,a+(k*5+3),none⟩) f).trans (C 3 _ rfl)
   have T:wr.cell? ⟨b,off+k*5+4,none⟩=_:=(HB.out.cell (p:=⟨b,off+(k*5+4),none⟩) l).trans (E 4 _ rfl);have p4:wr.cell? ⟨D,a+k*5+4,none⟩=_:=(HB.out.cell (p:=⟨D,a+(k*5+4),none⟩) f).trans (C 4 _ rfl);clear E C j g;have k0:(0:Int)<=k:=by omega
   have k1:(k:Int)<n:=by omega
   go_wp2_with fail
   go_still_tail 8,yO
   change wpList _ _ _ _ _ wr.drew
   go_wp2_with (go_at_call 135;(refine (Zn0 _ _ x Lk Mk wr.drew (X8.keep HR.out (fun _ _=>rfl)) (X8.keep HR'.out (fun _ _=>rfl))).mono ?_;rintro e S ⟨rfl,q⟩;have HB1:=yS (HB.out.drew.trans (q.mono HB.out.size));clear q));go_roundw
   case rel=>exact ⟨k+1,yE,by go_num,HB1.out⟩
   case measure=>simp [intOf];omega
  .go_wp2;go_ret;exact ⟨rfl,HB.out⟩
theorem Zsc (cs ds:List Value) (x:ZV) (L M:List Nat) (w:World) (C:YT.rep w cs x L) (B:YT.rep w ds x M):
  Calls prog 179 #[.agg cs.toArray,.agg ds.toArray] w (Y2 w):=by
 obtain ⟨b,c,j,rfl,_ahL,k,l,m,g⟩:=C;obtain ⟨d,f,o,rfl,_bhL,p,q,t,i⟩:=B;unfold maxLen at m t;have SA1:=yS g;have SB1:=yS i;clear g i;go_enter func179,ntmps179;go_wp2_with fail
 refine (Zgq [.string x.pattern.rel,.slice b x.pattern.args.length c] [.string x.pattern.rel,.slice d x.pattern.args.length f] x.pattern _ _ _ ⟨b,c,j,rfl,rfl,k,l,(by unfold maxLen;omega),SA1.out.below yI⟩ ⟨d,f,o,rfl,rfl,p,q,(by unfold maxLen;omega),SB1.out.below yI⟩).mono ?_;rintro e A ⟨rfl,a⟩;have B1:Hid (Below w.heap.size w A):=Below.trans yI (a.mono yK);have K0:Hid (Blk A w.heap.size 173 #[.int .i64 x.kind,.string x.pattern.rel,.slice b x.pattern.args.length c]):=Blk.later (Blk.alloc (Blk.new _ _ _) _) a;have K1:Hid (Blk A (w.heap.size+1) 173 #[.int .i64 x.kind,.string x.pattern.rel,.slice d x.pattern.args.length f]):=Blk.later (Blk.new_at yG) a;obtain ⟨I,H,G⟩:=K0.out.at3;obtain ⟨F,E,D⟩:=K1.out.at3;clear a;have hz1:=B1.out.size;go_wp2_with fail
 go_ret;exact ⟨rfl,(by repeat (first|refine Below.setCell ?_ (by dsimp only;omega) _|refine Below.alloc ?_ yK _|exact B1.out))⟩
theorem Zqo (A B:Option Addr) (n c d:Nat) (ds:List ZV) (L M:List Nat) (w:World) (F:n=ds.length) (hm:n<=9223372036854775807) (H:Sli YT w A ds L) (G:Sli YT w B ds M):
  Calls prog 133 #[.slice A n c,.slice B n d] w (Y2 w):=by
 have H1:=yS H;have H2:=yS G;have HN:=yS F;clear H G F;have I:((n:Int) != n)=false:=by simp
 go_enter func133,ntmps133;go_wp2;go_loopw [5] (fun i wr=>∃(k:Nat),k<=n/\i=.int .i64 k/\Hid (Below w.heap.size w wr)) (fun i _=>n - (intOf i).toNat)
 case atStart=>exact ⟨0,A6 _,rfl,Below.refl _ _⟩
 case round=>
  obtain ⟨k,hk,rfl,HB⟩:=hrel;by_cases J:k<n
  .have o:k<ds.length:=by have:=HN.out;omega
   obtain ⟨b,off,cs,Lk,rfl,t,u,g,E⟩:=H1.out.at_ o;obtain ⟨D,a,K,Mk,rfl,v,z,f,C⟩:=H2.out.at_ o;have l:b<w.heap.size:=H1.out.lt b t;have j:D<w.heap.size:=H2.out.lt D v;have HR:=yS (YT.keep g (Zr HB.out (fun y m=>H1.out.lt y (u y m))));have HR':=yS (YT.keep f (Zr HB.out (fun y m=>H2.out.lt y (z y m))));generalize ds[k]=x at *
   obtain ⟨R,P,rfl⟩:=Zb4 g;obtain ⟨O,N,rfl⟩:=Zb4 f;have V:wr.cell? ⟨b,off+k*3,none⟩=_:=(HB.out.cell (p:=⟨b,off+(k*3+0),none⟩) l).trans (E 0 _ rfl);have p0:wr.cell? ⟨D,a+k*3,none⟩=_:=(HB.out.cell (p:=⟨D,a+(k*3+0),none⟩) j).trans (C 0 _ rfl);have U:wr.cell? ⟨b,off+k*3+1,none⟩=_:=(HB.out.cell (p:=⟨b,off+(k*3+1),none⟩) l).trans (E 1 _ rfl);have p1:wr.cell? ⟨D,a+k*3+1,none⟩=_:=(HB.out.cell (p:=⟨D,a+(k*3+1),none⟩) j).trans (C 1 _ rfl);have T:wr.cell? ⟨b,off+k*3+2,none⟩=_:=(HB.out.cell (p:=⟨b,off+(k*3+2),none⟩) l).trans (E 2 _ rfl);have W:wr.cell? ⟨D,a+k*3+2,none⟩=_:=(HB.out.cell (p:=⟨D,a+(k*3+2),none⟩) j).trans (C 2 _ rfl);clear E C g f;have k0:(0:Int)<=k:=by omega
   have k1:(k:Int)<n:=by omega
   go_wp2_with fail
   go_still_tail 8,yO
   change wpList _ _ _ _ _ wr.drew
   go_wp2_with (go_at_call 179;(refine (Zsc _ _ x Lk Mk wr.drew (YT.keep HR.out (fun _ _=>rfl)) (YT.keep HR'.out (fun _ _=>rfl))).mono ?_;rintro e S ⟨rfl,q⟩;have HB1:=yS (HB.out.drew.trans (q.mono HB.out.size));clear q));go_roundw
   case rel=>exact ⟨k+1,yE,by go_num,HB1.out⟩
   case measure=>simp [intOf];omega
  .go_wp2;go_ret;exact ⟨rfl,HB.out⟩
theorem Zu1 (cs ds:List Value) (x:Zq) (L M:List Nat) (w:World) (P:X6.rep w cs x L) (O:X6.rep w ds x M):
  Calls prog 78 #[.agg cs.toArray,.agg ds.toArray] w (Y2 w):=by
 obtain ⟨c,d,t,f,g,u,rfl,_ahL,U,W,v,i,V,y,j⟩:=P;obtain ⟨k,l,z,m,o,A,rfl,_bhL,R,T,B,p,S,C,q⟩:=O;unfold maxLen at v B y C;have SA1:=yS i;have SB1:=yS p;clear i p;have SA2:=yS j;have SB2:=yS q;clear j q;go_enter func78,ntmps78;go_wp2_with fail
 refine (Zs0 c k _ d l x.cond t z _ rfl yE (SA1.out.below yI) (SB1.out.below yI)).mono ?_;rintro e D ⟨rfl,a⟩;have B1:Hid (Below w.heap.size w D):=Below.trans yI (a.mono yK);have K0:Hid (Blk D w.heap.size 118 #[.string x.name,.int .i64 x.priority,.slice c x.cond.length d,.slice f x.thn.length g]):=Blk.later (Blk.alloc (Blk.new _ _ _) _) a;have K1:Hid (Blk D (w.heap.size+1) 118 #[.string x.name,.int .i64 x.priority,.slice k x.cond.length l,.slice m x.thn.length o]):=Blk.later (Blk.new_at yG) a;obtain ⟨N,K,J,I⟩:=K0.out.at4;obtain ⟨H,G,F,E⟩:=K1.out.at4;clear a;have hz1:=B1.out.size;go_wp2_with fail
 refine (Zqo f m _ g o x.thn u A _ rfl yE (SA2.out.below (by repeat (first|refine Below.setCell ?_ (by dsimp only;omega) _|refine Below.alloc ?_ yK _|exact B1.out))) (SB2.out.below (by repeat (first|refine Below.setCell ?_ (by dsimp only;omega) _|refine Below.alloc ?_ yK _|exact B1.out)))).mono ?_;rintro e w2 ⟨rfl,b⟩;have B2:Hid (Below w.heap.size w w2):=Below.trans (by repeat (first|refine Below.setCell ?_ (by dsimp only;omega) _|refine Below.alloc ?_ yK _|exact B1.out)) (b.mono yK);have K0:=yS (K0.out.later b);have K1:=yS (K1.out.later b);clear N H K G J F I E;obtain ⟨N,K,J,I⟩:=K0.out.at4;obtain ⟨H,G,F,E⟩:=K1.out.at4;clear b;have hz2:=B2.out.size;go_wp2_with fail
 go_ret;exact ⟨rfl,(by repeat (first|refine Below.setCell ?_ (by dsimp only;omega) _|refine Below.alloc ?_ yK _|exact B2.out))⟩
theorem ZuZ (A B:Option Addr) (n c d:Nat) (ds:List Zq) (L M:List Nat) (w:World) (F:n=ds.length) (hm:n<=9223372036854775807) (H:Sli X6 w A ds L) (G:Sli X6 w B ds M):
  Calls prog 33 #[.slice A n c,.slice B n d] w (Y2 w):=by
 have H1:=yS H;have H2:=yS G;have HN:=yS F;clear H G F;have I:((n:Int) != n)=false:=by simp
 go_enter func33,ntmps33;go_wp2;go_loopw [5] (fun i wr=>∃(k:Nat),k<=n/\i=.int .i64 k/\Hid (Below w.heap.size w wr)) (fun i _=>n - (intOf i).toNat)
 case atStart=>exact ⟨0,A6 _,rfl,Below.refl _ _⟩
 case round=>
  obtain ⟨k,hk,rfl,HB⟩:=hrel;by_cases J:k<n
  .have o:k<ds.length:=by have:=HN.out;omega
   obtain ⟨b,off,cs,Lk,rfl,t,u,j,E⟩:=H1.out.at_ o;obtain ⟨D,a,K,Mk,rfl,v,z,f,C⟩:=H2.out.at_ o;have l:b<w.heap.size:=H1.out.lt b t;have g:D<w.heap.size:=H2.out.lt D v;have HR:=yS (X6.keep j (Zr HB.out (fun y m=>H1.out.lt y (u y m))));have HR':=yS (X6.keep f (Zr HB.out (fun y m=>H2.out.lt y (z y m))));generalize ds[k]=x at *
   obtain ⟨V,T,U,S,rfl⟩:=Zeo j;obtain ⟨R,O,P,N,rfl⟩:=Zeo f;have q0:wr.cell? ⟨b,off+k*4,none⟩=_:=(HB.out.cell (p:=⟨b,off+(k*4+0),none⟩) l).trans (E 0 _ rfl);have p0:wr.cell? ⟨D,a+k*4,none⟩=_:=(HB.out.cell (p:=⟨D,a+(k*4+0),none⟩) g).trans (C 0 _ rfl);have q1:wr.cell? ⟨b,off+k*4+1,none⟩=_:=(HB.out.cell (p:=⟨b,off+(k*4+1),none⟩) l).trans (E 1 _ rfl);have p1:wr.cell? ⟨D,a+k*4+1,none⟩=_:=(HB.out.cell (p:=⟨D,a+(k*4+1),none⟩) g).trans (C 1 _ rfl);have q2:wr.cell? ⟨b,off+k*4+2,none⟩=_:=(HB.out.cell (p:=⟨b,off+(k*4+2),none⟩) l).trans (E 2 _ rfl);have p2:wr.cell? ⟨D,a+k*4+2,none⟩=_:=(HB.out.cell (p:=⟨D,a+(k*4+2),none⟩) g).trans (C 2 _ rfl);have q3:wr.cell? ⟨b,off+k*4+3,none⟩=_:=(HB.out.cell (p:=⟨b,off+(k*4+3),none⟩) l).trans (E 3 _ rfl);have p3:wr.cell? ⟨D,a+k*4+3,none⟩=_:=(HB.out.cell (p:=⟨D,a+(k*4+3),none⟩) g).trans (C 3 _ rfl);clear E C j f
   have k0:(0:Int)<=k:=by omega
   have k1:(k:Int)<n:=by omega
   go_wp2_with fail
   go_still_tail 8,yO
   change wpList _ _ _ _ _ wr.drew
   go_wp2_with (go_at_call 78;(refine (Zu1 _ _ x Lk Mk wr.drew (X6.keep HR.out (fun _ _=>rfl)) (X6.keep HR'.out (fun _ _=>rfl))).mono ?_;rintro e W ⟨rfl,q⟩;have HB1:=yS (HB.out.drew.trans (q.mono HB.out.size));clear q));go_roundw
   case rel=>exact ⟨k+1,yE,by go_num,HB1.out⟩
   case measure=>simp [intOf];omega
  .go_wp2;go_ret;exact ⟨rfl,HB.out⟩
theorem Ztk (cs ds:List Value) (x:Zi) (L M:List Nat) (w:World) (J:Yt.rep w cs x L) (I:Yt.rep w ds x M):
  Calls prog 180 #[.agg cs.toArray,.agg ds.toArray] w (Y2 w):=by
 obtain ⟨c,d,t,f,g,u,rfl,_ahL,P,v,i,O,y,j⟩:=J;obtain ⟨k,l,z,m,o,A,rfl,_bhL,N,B,p,K,C,q⟩:=I;unfold maxLen at v B y C;have SA1:=yS i;have SB1:=yS p;clear i p;have SA2:=yS j;have SB2:=yS q;clear j q;go_enter func180,ntmps180;go_wp2_with fail
 refine (Zip c k _ d l x.facts t z _ rfl yE (SA1.out.below yI) (SB1.out.below yI)).mono ?_;rintro e D ⟨rfl,a⟩;have B1:Hid (Below w.heap.size w D):=Below.trans yI (a.mono yK);have K0:Hid (Blk D w.heap.size 142 #[.slice c x.facts.length d,.slice f x.binding.length g]):=Blk.later (Blk.alloc (Blk.new _ _ _) _) a;have K1:Hid (Blk D (w.heap.size+1) 142 #[.slice k x.facts.length l,.slice m x.binding.length o]):=Blk.later (Blk.new_at yG) a;obtain ⟨H,G⟩:=K0.out.at2;obtain ⟨F,E⟩:=K1.out.at2;clear a;have hz1:=B1.out.size;go_wp2_with fail
 refine (ZtP f m _ g o x.binding u A _ rfl yE (SA2.out.below (by repeat (first|refine Below.setCell ?_ (by dsimp only;omega) _|refine Below.alloc ?_ yK _|exact B1.out))) (SB2.out.below (by repeat (first|refine Below.setCell ?_ (by dsimp only;omega) _|refine Below.alloc ?_ yK _|exact B1.out)))).mono ?_;rintro e w2 ⟨rfl,b⟩;have B2:Hid (Below w.heap.size w w2):=Below.trans (by repeat (first|refine Below.setCell ?_ (by dsimp only;omega) _|refine Below.alloc ?_ yK _|exact B1.out)) (b.mono yK);have K0:=yS (K0.out.later b);have K1:=yS (K1.out.later b);clear H F G E;obtain ⟨H,G⟩:=K0.out.at2;obtain ⟨F,E⟩:=K1.out.at2;clear b;have hz2:=B2.out.size;go_wp2_with fail
 go_ret;exact ⟨rfl,(by repeat (first|refine Below.setCell ?_ (by dsimp only;omega) _|refine Below.alloc ?_ yK _|exact B2.out))⟩
theorem Zsd (A B:Option Addr) (n c d:Nat) (ds:List Zi) (L M:List Nat) (w:World) (F:n=ds.length) (hm:n<=9223372036854775807) (H:Sli Yt w A ds L) (G:Sli Yt w B ds M):
  Calls prog 136 #[.slice A n c,.slice B n d] w (Y2 w):=by
 have H1:=yS H;have H2:=yS G;have HN:=yS F;clear H G F;have I:((n:Int) != n)=false:=by simp
 go_enter func136,ntmps136;go_wp2;go_loopw [5] (fun i wr=>∃(k:Nat),k<=n/\i=.int .i64 k/\Hid (Below w.heap.size w wr)) (fun i _=>n - (intOf i).toNat)
 case atStart=>exact ⟨0,A6 _,rfl,Below.refl _ _⟩
 case round=>
  obtain ⟨k,hk,rfl,HB⟩:=hrel;by_cases J:k<n
  .have l:k<ds.length:=by have:=HN.out;omega
   obtain ⟨b,off,cs,Lk,rfl,t,u,g,E⟩:=H1.out.at_ l;obtain ⟨D,f,K,Mk,rfl,v,z,a,C⟩:=H2.out.at_ l;have o:b<w.heap.size:=H1.out.lt b t;have j:D<w.heap.size:=H2.out.lt D v;have HR:=yS (Yt.keep g (Zr HB.out (fun y m=>H1.out.lt y (u y m))));have HR':=yS (Yt.keep a (Zr HB.out (fun y m=>H2.out.lt y (z y m))));generalize ds[k]=x at *
   obtain ⟨V,T,U,S,rfl⟩:=Zda g;obtain ⟨R,O,P,N,rfl⟩:=Zda a;have q0:wr.cell? ⟨b,off+k*2,none⟩=_:=(HB.out.cell (p:=⟨b,off+(k*2+0),none⟩) o).trans (E 0 _ rfl);have p0:wr.cell? ⟨D,f+k*2,none⟩=_:=(HB.out.cell (p:=⟨D,f+(k*2+0),none⟩) j).trans (C 0 _ rfl);have q1:wr.cell? ⟨b,off+k*2+1,none⟩=_:=(HB.out.cell (p:=⟨b,off+(k*2+1),none⟩) o).trans (E 1 _ rfl);have p1:wr.cell? ⟨D,f+k*2+1,none⟩=_:=(HB.out.cell (p:=⟨D,f+(k*2+1),none⟩) j).trans (C 1 _ rfl);clear E C g a;have k0:(0:Int)<=k:=by omega
   have k1:(k:Int)<n:=by omega
   go_wp2_with fail
   go_still_tail 8,yO
   change wpList _ _ _ _ _ wr.drew
   go_wp2_with (go_at_call 180;(refine (Ztk _ _ x Lk Mk wr.drew (Yt.keep HR.out (fun _ _=>rfl)) (Yt.keep HR'.out (fun _ _=>rfl))).mono ?_;rintro e W ⟨rfl,q⟩;have HB1:=yS (HB.out.drew.trans (q.mono HB.out.size));clear q));go_roundw
   case rel=>exact ⟨k+1,yE,by go_num,HB1.out⟩
   case measure=>simp [intOf];omega
  .go_wp2;go_ret;exact ⟨rfl,HB.out⟩
theorem Ztt (cs ds:List Value) (x:ZO) (L M:List Nat) (w:World) (S:Xd.rep w cs x L) (R:Xd.rep w ds x M):
  Calls prog 79 #[.agg cs.toArray,.agg ds.toArray] w (Y2 w):=by
 obtain ⟨c,d,t,i,j,u,rfl,_ahL,v,y,z,k,U,A,l⟩:=S;obtain ⟨f,g,B,m,o,C,rfl,_bhL,D,E,F,p,T,G,q⟩:=R;unfold maxLen at z F A G;have SA1:=yS k;have SB1:=yS p;clear k p;have SA2:=yS l;have SB2:=yS q;clear l q;go_enter func79,ntmps79;go_wp2_with fail
 refine (Zgq [.string x.shape.rel,.slice c x.shape.args.length d] [.string x.shape.rel,.slice f x.shape.args.length g] x.shape _ _ _ ⟨c,d,t,rfl,rfl,v,y,(by unfold maxLen;omega),SA1.out.below yI⟩ ⟨f,g,B,rfl,rfl,D,E,(by unfold maxLen;omega),SB1.out.below yI⟩).mono ?_;rintro e H ⟨rfl,a⟩;have B1:Hid (Below w.heap.size w H):=Below.trans yI (a.mono yK);have K0:Hid (Blk H w.heap.size 103 #[.string x.shape.rel,.slice c x.shape.args.length d,.slice i x.facts.length j]):=Blk.later (Blk.alloc (Blk.new _ _ _) _) a;have K1:Hid (Blk H (w.heap.size+1) 103 #[.string x.shape.rel,.slice f x.shape.args.length g,.slice m x.facts.length o]):=Blk.later (Blk.new_at yG) a;obtain ⟨P,O,N⟩:=K0.out.at3;obtain ⟨K,J,I⟩:=K1.out.at3;clear a;have hz1:=B1.out.size;go_wp2_with fail
 refine (Zip i m _ j o x.facts u C _ rfl yE (SA2.out.below (by repeat (first|refine Below.setCell ?_ (by dsimp only;omega) _|refine Below.alloc ?_ yK _|exact B1.out))) (SB2.out.below (by repeat (first|refine Below.setCell ?_ (by dsimp only;omega) _|refine Below.alloc ?_ yK _|exact B1.out)))).mono ?_;rintro e w2 ⟨rfl,b⟩;have B2:Hid (Below w.heap.size w w2):=Below.trans (by repeat (first|refine Below.setCell ?_ (by dsimp only;omega) _|refine Below.alloc ?_ yK _|exact B1.out)) (b.mono yK);have K0:=yS (K0.out.later b);have K1:=yS (K1.out.later b);clear P K O J N I;obtain ⟨P,O,N⟩:=K0.out.at3;obtain ⟨K,J,I⟩:=K1.out.at3;clear b;have hz2:=B2.out.size;go_wp2_with fail
 go_ret;exact ⟨rfl,(by repeat (first|refine Below.setCell ?_ (by dsimp only;omega) _|refine Below.alloc ?_ yK _|exact B2.out))⟩
theorem ZrL (A B:Option Addr) (n c d:Nat) (ds:List ZO) (L M:List Nat) (w:World) (F:n=ds.length) (hm:n<=9223372036854775807) (H:Sli Xd w A ds L) (G:Sli Xd w B ds M):
  Calls prog 35 #[.slice A n c,.slice B n d] w (Y2 w):=by
 have H1:=yS H;have H2:=yS G;have HN:=yS F;clear H G F;have I:((n:Int) != n)=false:=by simp
 go_enter func35,ntmps35;go_wp2;go_loopw [5] (fun i wr=>∃(k:Nat),k<=n/\i=.int .i64 k/\Hid (Below w.heap.size w wr)) (fun i _=>n - (intOf i).toNat)
 case atStart=>exact ⟨0,A6 _,rfl,Below.refl _ _⟩
 case round=>
  obtain ⟨k,hk,rfl,HB⟩:=hrel;by_cases J:k<n
  .have o:k<ds.length:=by have:=HN.out;omega
   obtain ⟨b,off,cs,Lk,rfl,t,u,g,E⟩:=H1.out.at_ o;obtain ⟨D,a,K,Mk,rfl,v,z,f,C⟩:=H2.out.at_ o;have l:b<w.heap.size:=H1.out.lt b t;have j:D<w.heap.size:=H2.out.lt D v;have HR:=yS (Xd.keep g (Zr HB.out (fun y m=>H1.out.lt y (u y m))));have HR':=yS (Xd.keep f (Zr HB.out (fun y m=>H2.out.lt y (z y m))));generalize ds[k]=x at *
   obtain ⟨V,T,U,S,rfl⟩:=Zc3 g;obtain ⟨R,O,P,N,rfl⟩:=Zc3 f;have q0:wr.cell? ⟨b,off+k*3,none⟩=_:=(HB.out.cell (p:=⟨b,off+(k*3+0),none⟩) l).trans (E 0 _ rfl);have p0:wr.cell? ⟨D,a+k*3,none⟩=_:=(HB.out.cell (p:=⟨D,a+(k*3+0),none⟩) j).trans (C 0 _ rfl);have q1:wr.cell? ⟨b,off+k*3+1,none⟩=_:=(HB.out.cell (p:=⟨b,off+(k*3+1),none⟩) l).trans (E 1 _ rfl);have p1:wr.cell? ⟨D,a+k*3+1,none⟩=_:=(HB.out.cell (p:=⟨D,a+(k*3+1),none⟩) j).trans (C 1 _ rfl);have q2:wr.cell? ⟨b,off+k*3+2,none⟩=_:=(HB.out.cell (p:=⟨b,off+(k*3+2),none⟩) l).trans (E 2 _ rfl);have p2:wr.cell? ⟨D,a+k*3+2,none⟩=_:=(HB.out.cell (p:=⟨D,a+(k*3+2),none⟩) j).trans (C 2 _ rfl);clear E C g f;have k0:(0:Int)<=k:=by omega
   have k1:(k:Int)<n:=by omega
   go_wp2_with fail
   go_still_tail 8,yO
   change wpList _ _ _ _ _ wr.drew
   go_wp2_with (go_at_call 79;(refine (Ztt _ _ x Lk Mk wr.drew (Xd.keep HR.out (fun _ _=>rfl)) (Xd.keep HR'.out (fun _ _=>rfl))).mono ?_;rintro e W ⟨rfl,q⟩;have HB1:=yS (HB.out.drew.trans (q.mono HB.out.size));clear q));go_roundw
   case rel=>exact ⟨k+1,yE,by go_num,HB1.out⟩
   case measure=>simp [intOf];omega
  .go_wp2;go_ret;exact ⟨rfl,HB.out⟩
theorem Zvm (cs ds:List Value) (x:ZA) (L M:List Nat) (w:World) (h1:QC.rep w cs x L) (h2:QC.rep w ds x M):
  Calls prog 80 #[.agg cs.toArray,.agg ds.toArray] w (Y2 w):=by
 obtain ⟨c,d,t,i,j,u,rfl,_ahL,v,y,z,A,B,k,ab,C,l⟩:=h1;obtain ⟨f,g,D,m,o,E,rfl,_bhL,F,G,H,I,J,p,aa,K,q⟩:=h2;unfold maxLen at B J C K;have SA1:=yS k;have SB1:=yS p;clear k p;have SA2:=yS l;have SB2:=yS q;clear l q;go_enter func80,ntmps80;go_wp2_with fail
 refine (Zn0 [.int .i64 x.cond.kind,.string x.cond.pattern.rel,.slice c x.cond.pattern.args.length d,.string x.cond.left,.string x.cond.right] [.int .i64 x.cond.kind,.string x.cond.pattern.rel,.slice f x.cond.pattern.args.length g,.string x.cond.left,.string x.cond.right] x.cond _ _ _ ⟨c,d,t,rfl,rfl,v,y,z,A,(by unfold maxLen;omega),SA1.out.below yI⟩ ⟨f,g,D,rfl,rfl,F,G,H,I,(by unfold maxLen;omega),SB1.out.below yI⟩).mono ?_;rintro e N ⟨rfl,a⟩;have B1:Hid (Below w.heap.size w N):=Below.trans yI (a.mono yK);have K0:Hid (Blk N w.heap.size 108 #[.int .i64 x.parent,.int .i64 x.cond.kind,.string x.cond.pattern.rel,.slice c x.cond.pattern.args.length d,.string x.cond.left,.string x.cond.right,.int .i64 x.alpha,.slice i x.tokens.length j]):=Blk.later (Blk.alloc (Blk.new _ _ _) _) a
 have K1:Hid (Blk N (w.heap.size+1) 108 #[.int .i64 x.parent,.int .i64 x.cond.kind,.string x.cond.pattern.rel,.slice f x.cond.pattern.args.length g,.string x.cond.left,.string x.cond.right,.int .i64 x.alpha,.slice m x.tokens.length o]):=Blk.later (Blk.new_at yG) a;obtain ⟨f0,f1,f2,f3,f4,f5,f6,f7⟩:=K0.out.at8;obtain ⟨W,V,U,T,S,R,P,O⟩:=K1.out.at8;clear a;have hz1:=B1.out.size;go_wp2_with fail
 refine (Zsd i m _ j o x.tokens u E _ rfl yE (SA2.out.below (by repeat (first|refine Below.setCell ?_ (by dsimp only;omega) _|refine Below.alloc ?_ yK _|exact B1.out))) (SB2.out.below (by repeat (first|refine Below.setCell ?_ (by dsimp only;omega) _|refine Below.alloc ?_ yK _|exact B1.out)))).mono ?_;rintro e w2 ⟨rfl,b⟩;have B2:Hid (Below w.heap.size w w2):=Below.trans (by repeat (first|refine Below.setCell ?_ (by dsimp only;omega) _|refine Below.alloc ?_ yK _|exact B1.out)) (b.mono yK);have K0:=yS (K0.out.later b);have K1:=yS (K1.out.later b);clear f0 W f1 V f2 U f3 T f4 S f5 R f6 P f7 O;obtain ⟨f0,f1,f2,f3,f4,f5,f6,f7⟩:=K0.out.at8;obtain ⟨W,V,U,T,S,R,P,O⟩:=K1.out.at8;clear b;have hz2:=B2.out.size;go_wp2_with fail
 go_ret;exact ⟨rfl,(by repeat (first|refine Below.setCell ?_ (by dsimp only;omega) _|refine Below.alloc ?_ yK _|exact B2.out))⟩
theorem ZtE (A B:Option Addr) (n c d:Nat) (ds:List ZA) (L M:List Nat) (w:World) (F:n=ds.length) (hm:n<=9223372036854775807) (H:Sli QC w A ds L) (G:Sli QC w B ds M):
  Calls prog 36 #[.slice A n c,.slice B n d] w (Y2 w):=by
 have H1:=yS H;have H2:=yS G;have HN:=yS F;clear H G F;have I:((n:Int) != n)=false:=by simp
 go_enter func36,ntmps36;go_wp2;go_loopw [5] (fun i wr=>∃(k:Nat),k<=n/\i=.int .i64 k/\Hid (Below w.heap.size w wr)) (fun i _=>n - (intOf i).toNat)
 case atStart=>exact ⟨0,A6 _,rfl,Below.refl _ _⟩
 case round=>
  obtain ⟨k,hk,rfl,HB⟩:=hrel;by_cases J:k<n
  .have o:k<ds.length:=by have:=HN.out;omega
   obtain ⟨b,off,cs,Lk,rfl,t,u,l,E⟩:=H1.out.at_ o;obtain ⟨D,a,K,Mk,rfl,v,z,j,C⟩:=H2.out.at_ o;have g:b<w.heap.size:=H1.out.lt b t;have f:D<w.heap.size:=H2.out.lt D v;have HR:=yS (QC.keep l (Zr HB.out (fun y m=>H1.out.lt y (u y m))));have HR':=yS (QC.keep j (Zr HB.out (fun y m=>H2.out.lt y (z y m))));generalize ds[k]=x at *
   obtain ⟨V,T,U,S,rfl⟩:=Zeh l;obtain ⟨R,O,P,N,rfl⟩:=Zeh j;have q0:wr.cell? ⟨b,off+k*8,none⟩=_:=(HB.out.cell (p:=⟨b,off+(k*8+0),none⟩) g).trans (E 0 _ rfl);have p0:wr.cell? ⟨D,a+k*8,none⟩=_:=(HB.out.cell (p:=⟨D,a+(k*8+0),none⟩) f).trans (C 0 _ rfl);have q1:wr.cell? ⟨b,off+k*8+1,none⟩=_:=(HB.out.cell (p:=⟨b,off+(k*8+1),none⟩) g).trans (E 1 _ rfl);have p1:wr.cell? ⟨D,a+k*8+1,none⟩=_:=(HB.out.cell (p:=⟨D,a+(k*8+1),none⟩) f).trans (C 1 _ rfl);have q2:wr.cell? ⟨b,off+k*8+2,none⟩=_:=(HB.out.cell (p:=⟨b,off+(k*8+2),none⟩) g).trans (E 2 _ rfl);have p2:wr.cell? ⟨D,a+k*8+2,none⟩=_:=(HB.out.cell (p:=⟨D,a+(k*8+2),none⟩) f).trans (C 2 _ rfl);have q3:wr.cell? ⟨b,off+k*8+3,none⟩=_:=(HB.out.cell (p:=⟨b,off+(k*8+3),none⟩) g).trans (E 3 _ rfl);have p3:wr.cell? ⟨D,a+k*8+3,none⟩=_:=(HB.out.cell (p:=⟨D,a+(k*8+3),none⟩) f).trans (C 3 _ rfl)
   have q4:wr.cell? ⟨b,off+k*8+4,none⟩=_:=(HB.out.cell (p:=⟨b,off+(k*8+4),none⟩) g).trans (E 4 _ rfl);have p4:wr.cell? ⟨D,a+k*8+4,none⟩=_:=(HB.out.cell (p:=⟨D,a+(k*8+4),none⟩) f).trans (C 4 _ rfl);have q5:wr.cell? ⟨b,off+k*8+5,none⟩=_:=(HB.out.cell (p:=⟨b,off+(k*8+5),none⟩) g).trans (E 5 _ rfl);have p5:wr.cell? ⟨D,a+k*8+5,none⟩=_:=(HB.out.cell (p:=⟨D,a+(k*8+5),none⟩) f).trans (C 5 _ rfl);have q6:wr.cell? ⟨b,off+k*8+6,none⟩=_:=(HB.out.cell (p:=⟨b,off+(k*8+6),none⟩) g).trans (E 6 _ rfl);have p6:wr.cell? ⟨D,a+k*8+6,none⟩=_:=(HB.out.cell (p:=⟨D,a+(k*8+6),none⟩) f).trans (C 6 _ rfl);have q7:wr.cell? ⟨b,off+k*8+7,none⟩=_:=(HB.out.cell (p:=⟨b,off+(k*8+7),none⟩) g).trans (E 7 _ rfl);have p7:wr.cell? ⟨D,a+k*8+7,none⟩=_:=(HB.out.cell (p:=⟨D,a+(k*8+7),none⟩) f).trans (C 7 _ rfl);clear E C l j;have k0:(0:Int)<=k:=by omega
   have k1:(k:Int)<n:=by omega
   go_wp2_with fail
   go_still_tail 8,yO
   change wpList _ _ _ _ _ wr.drew
   go_wp2_with (go_at_call 80;(refine (Zvm _ _ x Lk Mk wr.drew (QC.keep HR.out (fun _ _=>rfl)) (QC.keep HR'.out (fun _ _=>rfl))).mono ?_;rintro e W ⟨rfl,q⟩;have HB1:=yS (HB.out.drew.trans (q.mono HB.out.size));clear q));go_roundw
   case rel=>exact ⟨k+1,yE,by go_num,HB1.out⟩
   case measure=>simp [intOf];omega
  .go_wp2;go_ret;exact ⟨rfl,HB.out⟩
theorem ZdR (cs ds:List Value) (x:Zc) (L M:List Nat) (w:World) (h1:Yr.rep w cs x L) (h2:Yr.rep w ds x M):
  Calls prog 10 #[.agg cs.toArray,.agg ds.toArray] w (Y2 w):=by
 obtain ⟨g,i,S,j,k,T,l,m,U,o,p,V,q,t,W,rfl,_ahL,an1,X,u,an2,Y,v,an3,Z,y,an4,aa,z,an5,ab,A⟩:=h1;obtain ⟨B,C,ac,D,E,ad,F,G,ae,H,I,af,J,K,ag,rfl,_bhL,bn1,ah,N,bn2,ai,O,bn3,aj,P,bn4,ak,Q,bn5,al,R⟩:=h2;unfold maxLen at X ah Y ai Z aj aa ak ab al;have SA1:=yS u;have SB1:=yS N;clear u N;have SA2:=yS v;have SB2:=yS O;clear v O;have SA3:=yS y;have SB3:=yS P;clear y P;have SA4:=yS z;have SB4:=yS Q;clear z Q;have SA5:=yS A;have SB5:=yS R;clear A R;go_enter func10,ntmps10;go_wp2_with fail
 refine (ZuZ g B _ i C x.rules S ac _ rfl yE (SA1.out.below yI) (SB1.out.below yI)).mono ?_;rintro e w1 ⟨rfl,a⟩;have B1:Hid (Below w.heap.size w w1):=Below.trans yI (a.mono yK);have K0:Hid (Blk w1 w.heap.size 37 #[.slice g x.rules.length i,.slice j x.ends.length k,.slice l x.alphas.length m,.slice o x.nodes.length p,.slice q x.facts.length t,.int .i64 x.tries]):=Blk.later (Blk.alloc (Blk.new _ _ _) _) a;have K1:Hid (Blk w1 (w.heap.size+1) 37 #[.slice B x.rules.length C,.slice D x.ends.length E,.slice F x.alphas.length G,.slice H x.nodes.length I,.slice J x.facts.length K,.int .i64 x.tries]):=Blk.later (Blk.new_at yG) a;obtain ⟨f0,f1,f2,f3,f4,f5⟩:=K0.out.at6;obtain ⟨r0,r1,r2,r3,r4,r5⟩:=K1.out.at6;clear a;have hz1:=B1.out.size;go_wp2_with fail
 refine (ZvS j D _ k E x.ends T ad _ rfl yE (SA2.out.below (by repeat (first|refine Below.setCell ?_ (by dsimp only;omega) _|refine Below.alloc ?_ yK _|exact B1.out))) (SB2.out.below (by repeat (first|refine Below.setCell ?_ (by dsimp only;omega) _|refine Below.alloc ?_ yK _|exact B1.out)))).mono ?_;rintro e w2 ⟨rfl,b⟩;have B2:Hid (Below w.heap.size w w2):=Below.trans (by repeat (first|refine Below.setCell ?_ (by dsimp only;omega) _|refine Below.alloc ?_ yK _|exact B1.out)) (b.mono yK);have K0:=yS (K0.out.later b);have K1:=yS (K1.out.later b);clear f0 r0 f1 r1 f2 r2 f3 r3 f4 r4 f5 r5;obtain ⟨f0,f1,f2,f3,f4,f5⟩:=K0.out.at6;obtain ⟨r0,r1,r2,r3,r4,r5⟩:=K1.out.at6;clear b;have hz2:=B2.out.size;go_wp2_with fail
 refine (ZrL l F _ m G x.alphas U ae _ rfl yE (SA3.out.below (by repeat (first|refine Below.setCell ?_ (by dsimp only;omega) _|refine Below.alloc ?_ yK _|exact B2.out))) (SB3.out.below (by repeat (first|refine Below.setCell ?_ (by dsimp only;omega) _|refine Below.alloc ?_ yK _|exact B2.out)))).mono ?_;rintro e w3 ⟨rfl,c⟩;have B3:Hid (Below w.heap.size w w3):=Below.trans (by repeat (first|refine Below.setCell ?_ (by dsimp only;omega) _|refine Below.alloc ?_ yK _|exact B2.out)) (c.mono yK);have K0:=yS (K0.out.later c);have K1:=yS (K1.out.later c);clear f0 r0 f1 r1 f2 r2 f3 r3 f4 r4 f5 r5;obtain ⟨f0,f1,f2,f3,f4,f5⟩:=K0.out.at6;obtain ⟨r0,r1,r2,r3,r4,r5⟩:=K1.out.at6;clear c;have hz3:=B3.out.size;go_wp2_with fail
 refine (ZtE o H _ p I x.nodes V af _ rfl yE (SA4.out.below (by repeat (first|refine Below.setCell ?_ (by dsimp only;omega) _|refine Below.alloc ?_ yK _|exact B3.out))) (SB4.out.below (by repeat (first|refine Below.setCell ?_ (by dsimp only;omega) _|refine Below.alloc ?_ yK _|exact B3.out)))).mono ?_;rintro e w4 ⟨rfl,d⟩;have B4:Hid (Below w.heap.size w w4):=Below.trans (by repeat (first|refine Below.setCell ?_ (by dsimp only;omega) _|refine Below.alloc ?_ yK _|exact B3.out)) (d.mono yK);have K0:=yS (K0.out.later d);have K1:=yS (K1.out.later d);clear f0 r0 f1 r1 f2 r2 f3 r3 f4 r4 f5 r5;obtain ⟨f0,f1,f2,f3,f4,f5⟩:=K0.out.at6;obtain ⟨r0,r1,r2,r3,r4,r5⟩:=K1.out.at6;clear d;have hz4:=B4.out.size;go_wp2_with fail
 refine (Zip q J _ t K x.facts W ag _ rfl yE (SA5.out.below (by repeat (first|refine Below.setCell ?_ (by dsimp only;omega) _|refine Below.alloc ?_ yK _|exact B4.out))) (SB5.out.below (by repeat (first|refine Below.setCell ?_ (by dsimp only;omega) _|refine Below.alloc ?_ yK _|exact B4.out)))).mono ?_;rintro e w5 ⟨rfl,f⟩;have B5:Hid (Below w.heap.size w w5):=Below.trans (by repeat (first|refine Below.setCell ?_ (by dsimp only;omega) _|refine Below.alloc ?_ yK _|exact B4.out)) (f.mono yK);have K0:=yS (K0.out.later f);have K1:=yS (K1.out.later f);clear f0 r0 f1 r1 f2 r2 f3 r3 f4 r4 f5 r5;obtain ⟨f0,f1,f2,f3,f4,f5⟩:=K0.out.at6;obtain ⟨r0,r1,r2,r3,r4,r5⟩:=K1.out.at6;clear f;have hz5:=B5.out.size;go_wp2_with fail
 go_ret;exact ⟨rfl,(by repeat (first|refine Below.setCell ?_ (by dsimp only;omega) _|refine Below.alloc ?_ yK _|exact B5.out))⟩
theorem ZsX (cs ds:List Value) (x:YB) (L M:List Nat) (w:World) (C:XG.rep w cs x L) (B:XG.rep w ds x M):
  Calls prog 38 #[.agg cs.toArray,.agg ds.toArray] w (Y2 w):=by
 obtain ⟨b,c,j,rfl,_ahL,E,k,l,m,g⟩:=C;obtain ⟨d,f,o,rfl,_bhL,D,p,q,t,i⟩:=B;unfold maxLen at m t;have SA1:=yS g;have SB1:=yS i;clear g i;go_enter func38,ntmps38;go_wp2_with fail
 refine (Zpl [.string x.fact.rel,.slice b x.fact.args.length c] [.string x.fact.rel,.slice d x.fact.args.length f] x.fact _ _ _ ⟨b,c,j,rfl,rfl,k,l,(by unfold maxLen;omega),SA1.out.below yI⟩ ⟨d,f,o,rfl,rfl,p,q,(by unfold maxLen;omega),SB1.out.below yI⟩).mono ?_;rintro e A ⟨rfl,a⟩;have B1:Hid (Below w.heap.size w A):=Below.trans yI (a.mono yK);have K0:Hid (Blk A w.heap.size 62 #[.int .i64 x.kind,.string x.rule,.string x.fact.rel,.slice b x.fact.args.length c]):=Blk.later (Blk.alloc (Blk.new _ _ _) _) a;have K1:Hid (Blk A (w.heap.size+1) 62 #[.int .i64 x.kind,.string x.rule,.string x.fact.rel,.slice d x.fact.args.length f]):=Blk.later (Blk.new_at yG) a;obtain ⟨O,N,K,J⟩:=K0.out.at4;obtain ⟨I,H,G,F⟩:=K1.out.at4;clear a;have hz1:=B1.out.size;go_wp2_with fail
 go_ret;exact ⟨rfl,(by repeat (first|refine Below.setCell ?_ (by dsimp only;omega) _|refine Below.alloc ?_ yK _|exact B1.out))⟩
theorem Zr9 (A B:Option Addr) (n c d:Nat) (ds:List YB) (L M:List Nat) (w:World) (F:n=ds.length) (hm:n<=9223372036854775807) (H:Sli XG w A ds L) (G:Sli XG w B ds M):
  Calls prog 11 #[.slice A n c,.slice B n d] w (Y2 w):=by
 have H1:=yS H;have H2:=yS G;have HN:=yS F;clear H G F;have I:((n:Int) != n)=false:=by simp
 go_enter func11,ntmps11;go_wp2;go_loopw [5] (fun i wr=>∃(k:Nat),k<=n/\i=.int .i64 k/\Hid (Below w.heap.size w wr)) (fun i _=>n - (intOf i).toNat)
 case atStart=>exact ⟨0,A6 _,rfl,Below.refl _ _⟩
 case round=>
  obtain ⟨k,hk,rfl,HB⟩:=hrel;by_cases J:k<n
  .have o:k<ds.length:=by have:=HN.out;omega
   obtain ⟨b,off,cs,Lk,rfl,t,u,j,E⟩:=H1.out.at_ o;obtain ⟨D,a,K,Mk,rfl,v,z,f,C⟩:=H2.out.at_ o;have l:b<w.heap.size:=H1.out.lt b t;have g:D<w.heap.size:=H2.out.lt D v;have HR:=yS (XG.keep j (Zr HB.out (fun y m=>H1.out.lt y (u y m))));have HR':=yS (XG.keep f (Zr HB.out (fun y m=>H2.out.lt y (z y m))));generalize ds[k]=x at *
   obtain ⟨R,P,rfl⟩:=Zdj j;obtain ⟨O,N,rfl⟩:=Zdj f;have W:wr.cell? ⟨b,off+k*4,none⟩=_:=(HB.out.cell (p:=⟨b,off+(k*4+0),none⟩) l).trans (E 0 _ rfl);have p0:wr.cell? ⟨D,a+k*4,none⟩=_:=(HB.out.cell (p:=⟨D,a+(k*4+0),none⟩) g).trans (C 0 _ rfl);have V:wr.cell? ⟨b,off+k*4+1,none⟩=_:=(HB.out.cell (p:=⟨b,off+(k*4+1),none⟩) l).trans (E 1 _ rfl);have p1:wr.cell? ⟨D,a+k*4+1,none⟩=_:=(HB.out.cell (p:=⟨D,a+(k*4+1),none⟩) g).trans (C 1 _ rfl);have U:wr.cell? ⟨b,off+k*4+2,none⟩=_:=(HB.out.cell (p:=⟨b,off+(k*4+2),none⟩) l).trans (E 2 _ rfl);have p2:wr.cell? ⟨D,a+k*4+2,none⟩=_:=(HB.out.cell (p:=⟨D,a+(k*4+2),none⟩) g).trans (C 2 _ rfl);have T:wr.cell? ⟨b,off+k*4+3,none⟩=_:=(HB.out.cell (p:=⟨b,off+(k*4+3),none⟩) l).trans (E 3 _ rfl);have p3:wr.cell? ⟨D,a+k*4+3,none⟩=_:=(HB.out.cell (p:=⟨D,a+(k*4+3),none⟩) g).trans (C 3 _ rfl);clear E C j f;have k0:(0:Int)<=k:=by omega
   have k1:(k:Int)<n:=by omega
   go_wp2_with fail
   go_still_tail 8,yO
   change wpList _ _ _ _ _ wr.drew
   go_wp2_with (go_at_call 38;(refine (ZsX _ _ x Lk Mk wr.drew (XG.keep HR.out (fun _ _=>rfl)) (XG.keep HR'.out (fun _ _=>rfl))).mono ?_;rintro e S ⟨rfl,q⟩;have HB1:=yS (HB.out.drew.trans (q.mono HB.out.size));clear q));go_roundw
   case rel=>exact ⟨k+1,yE,by go_num,HB1.out⟩
   case measure=>simp [intOf];omega
  .go_wp2;go_ret;exact ⟨rfl,HB.out⟩
end
section
open Go.RowKit
def Zny:Nat->Nat->List UInt8->List UInt8
 |0,_,acc=>acc
 |f+1,k,acc=>if k=0 then acc else Zny f (k / 10) ((48+AK (k % 10))::acc)
def ZtQ (k:Nat):BYT:=⟨(109::Zny (k+1) k []).toArray⟩
theorem ZnC (W:World) (z:Int):(convert 130 9 (.slice (some ⟨W.heap.size,0,none⟩) 1 1)).run prog (W.alloc (.cells #[.int .u8 z] 5))=.ok (.string ⟨#[AK z.toNat]⟩) (W.alloc (.cells #[.int .u8 z] 5)):=by
 rw [run_convert_bytes_string _ _ _ _ _ _ _ underlying130 underlying5 underlying9,run_bytesToString _ _ _ _ [z] (by simp [loadCells,go_sem])];rfl
theorem ZrD (k:Nat) (w:World) (G:1<=k) (F:k<=4611686018427387904):
  Calls prog 44 #[.int .i64 k] w fun e w'=>e=.returned (.string (ZtQ k))/\Below w.heap.size w w':=by
 have C:¬((k:Int)<=0):=by omega
 have kc:=ZnC;go_enter func44,ntmps44;go_wp2;go_loopw [0,3] (fun i s wr=>∃(f q:Nat) (acc:List UInt8),i=.int .i64 q/\s=.string ⟨acc.toArray⟩/\q<=k/\q<f/\acc.length+q<=k/\Hid (Zny f q acc=Zny (k+1) k [])/\Hid (Below w.heap.size w wr)) (fun i _ _=>(intOf i).toNat)
 case atStart=>exact ⟨k+1,k,[],rfl,rfl,A0 _,yE,yG,yS rfl,Below.refl _ _⟩
 case round=>
  obtain ⟨f,q,acc,rfl,rfl,A,B,D,HE,HB⟩:=hrel;by_cases E:0<q
  .have a:(0:Int)<q:=by omega
   have HEn:Hid (Zny (f - 1) (q / 10) ((48+AK (q % 10))::acc)=Zny (k+1) k []):=by
    rw [Hid,<-HE.out];obtain ⟨f,rfl⟩:∃g,f=g+1:=⟨f - 1,yE⟩
    rw [Zny,yn yE];rfl
   go_wp2;go_roundw
   case rel=>exact ⟨f - 1,q / 10,_,by go_num,congrArg Value.string (by rw [AM];simp),yE,yE,by simp only[AC];omega,HEn,HB.out.alloc HB.out.size _⟩
   case measure=>simp [intOf];omega
  .obtain rfl:q=0:=by omega
   have e:Hid (Zny (k+1) k []=acc):=by
    rw [Hid,<-HE.out];obtain ⟨f,rfl⟩:∃g,f=g+1:=⟨f - 1,yE⟩
    simp [Zny]
   have a:¬(0:Int)<(0:Nat):=by omega
   go_wp2;go_ret;exact ⟨congrArg (fun s=>Ending.returned (.string s)) (by rw [ZtQ,e.out,AM];simp),HB.out⟩
theorem Zuy:∀(f k:Nat) (acc:List UInt8),(Zny f k acc).length<=acc.length+f
 |0,_,acc=>by simp [Zny]
 |f+1,k,acc=>by
  rw [Zny];split
  .omega
  .have:=Zuy f (k / 10) ((48+AK (k % 10))::acc);simp at this;omega
theorem ZvJ (k:Nat) (h:k<=4611686018427387904):(ZtQ k).size<=9223372036854775807:=by
 have:=Zuy (k+1) k [];simp [ZtQ,AL]at this ⊢;omega
end
section
open Go.RowKit
def mTx (k:Int):BYT:=ZtQ k.toNat
theorem ZK (k:Int) (w:World) (B:1<=k) (A:k<=4611686018427387904):
  Calls prog 44 #[.int .i64 k] w fun e w'=>e=.returned (.string (mTx k))/\Below w.heap.size w w':=by
 obtain ⟨n,rfl⟩:=Int.eq_ofNat_of_zero_le (show 0<=k by omega);exact ZrD n w yE yE
theorem QI (k:Int) (h:k<=4611686018427387904):(mTx k).size<=9223372036854775807:=ZvJ _ yE
def Yq:Int->List BYT->List BYT
 |_,[]=>[]
 |k,_::r=>mTx k::Yq (k+1) r
def QR:Int->List Int->List Int
 |_,[]=>[]
 |k,_::r=>k::QR (k+1) r
def Zg (k:Int) (l:List BYT):Int:=k+l.length
def ZU (k:Int) (l:List Int):Int:=k+l.length
theorem YY (k:Int) (l:List BYT):(Yq k l).length=l.length:=by induction l generalizing k with|nil=>rfl|cons x r ih=>simp [Yq,ih]
theorem ZhK (k:Int) (l:List Int):(QR k l).length=l.length:=by induction l generalizing k with|nil=>rfl|cons x r ih=>simp [QR,ih]
theorem Yc (k:Int) (l:List BYT):k<=Zg k l:=by unfold Zg;omega
theorem ZjH (k:Int) (l:List Int):k<=ZU k l:=by unfold ZU;omega
theorem Zan (k:Int) (l:List BYT):Zg k l<=k+16*XA l:=by unfold Zg XA;omega
theorem Zum (k:Int) (l:List Int):ZU k l<=k+16*l.length:=by unfold ZU;omega
def Zil (k:Int) (x:Zf):Zf:=⟨mTx (k),Yq (k+1) x.args⟩
def Xb (k:Int) (x:Zf):Int:=Zg (k+1) x.args
def Xr:Int->List Zf->List Zf
 |_,[]=>[]
 |k,x::r=>Zil k x::Xr (Xb k x) r
def Z7:Int->List Zf->Int
 |k,[]=>k
 |k,x::r=>Z7 (Xb k x) r
theorem Zay (k:Int) (l:List Zf):(Xr k l).length=l.length:=by induction l generalizing k with|nil=>rfl|cons x r ih=>simp [Xr,ih]
theorem ZjG (k:Int) (x:Zf):k<=Xb k x:=by
 unfold Xb;have:=Yc (k+1) x.args;omega
theorem Xy (k:Int) (l:List Zf):k<=Z7 k l:=by
 induction l generalizing k with
 |nil=>exact AE _
 |cons x r ih=>exact AF (ZjG k x) (ih _)
theorem Ztd (k:Int) (x:Zf):Xb k x<=k+1+16*YV x:=by
 unfold Xb;have:=Zan (k+1) x.args;simp only[YV];omega
theorem Zhm (k:Int) (l:List Zf):Z7 k l<=k+16*Yi l:=by
 induction l generalizing k with
 |nil=>simp [Z7,Yi]
 |cons x r ih=>
  have h1:=Ztd k x;have h2:=ih (Xb k x);simp only[Z7,Yi,AC,AG,AH]at h2 ⊢;omega
def ZkE (k:Int) (x:Zj):Zj:=⟨mTx (k),mTx (k+1)⟩
def Xg (k:Int) (x:Zj):Int:=k+1+1
def Qo:Int->List Zj->List Zj
 |_,[]=>[]
 |k,x::r=>ZkE k x::Qo (Xg k x) r
def YG:Int->List Zj->Int
 |k,[]=>k
 |k,x::r=>YG (Xg k x) r
theorem Zjp (k:Int) (l:List Zj):(Qo k l).length=l.length:=by induction l generalizing k with|nil=>rfl|cons x r ih=>simp [Qo,ih]
theorem Zii (k:Int) (x:Zj):k<=Xg k x:=by
 unfold Xg;omega
theorem Zdn (k:Int) (l:List Zj):k<=YG k l:=by
 induction l generalizing k with
 |nil=>exact AE _
 |cons x r ih=>exact AF (Zii k x) (ih _)
theorem Zuo (k:Int) (x:Zj):Xg k x<=k+2+16*XY x:=by
 unfold Xg;simp only[XY];omega
theorem Zsl (k:Int) (l:List Zj):YG k l<=k+16*XP l:=by
 induction l generalizing k with
 |nil=>simp [YG,XP]
 |cons x r ih=>
  have h1:=Zuo k x;have h2:=ih (Xg k x);simp only[YG,XP,AC,AG,AH]at h2 ⊢;omega
def ZiC (k:Int) (x:Zh):Zh:=⟨(k),⟨mTx (k+1),Yq (k+1+1) x.pattern.args⟩,mTx (Zg (k+1+1) x.pattern.args),mTx (Zg (k+1+1) x.pattern.args+1)⟩
def Xc (k:Int) (x:Zh):Int:=Zg (k+1+1) x.pattern.args+1+1
def Qm:Int->List Zh->List Zh
 |_,[]=>[]
 |k,x::r=>ZiC k x::Qm (Xc k x) r
def Yh:Int->List Zh->Int
 |k,[]=>k
 |k,x::r=>Yh (Xc k x) r
theorem Zih (k:Int) (l:List Zh):(Qm k l).length=l.length:=by induction l generalizing k with|nil=>rfl|cons x r ih=>simp [Qm,ih]
theorem Zi6 (k:Int) (x:Zh):k<=Xc k x:=by
 unfold Xc;have:=Yc (k+1+1) x.pattern.args;omega
theorem Zdp (k:Int) (l:List Zh):k<=Yh k l:=by
 induction l generalizing k with
 |nil=>exact AE _
 |cons x r ih=>exact AF (Zi6 k x) (ih _)
theorem Zut (k:Int) (x:Zh):Xc k x<=k+4+16*Yf x:=by
 unfold Xc;have:=Zan (k+1+1) x.pattern.args;simp only[Yf,ZL];omega
theorem ZsA (k:Int) (l:List Zh):Yh k l<=k+16*Xp l:=by
 induction l generalizing k with
 |nil=>simp [Yh,Xp]
 |cons x r ih=>
  have h1:=Zut k x;have h2:=ih (Xc k x);simp only[Yh,Xp,AC,AG,AH]at h2 ⊢;omega
def Zen (k:Int) (x:ZV):ZV:=⟨(k),⟨mTx (k+1),Yq (k+1+1) x.pattern.args⟩⟩
def Yn (k:Int) (x:ZV):Int:=Zg (k+1+1) x.pattern.args
def YZ:Int->List ZV->List ZV
 |_,[]=>[]
 |k,x::r=>Zen k x::YZ (Yn k x) r
def Yg:Int->List ZV->Int
 |k,[]=>k
 |k,x::r=>Yg (Yn k x) r
theorem ZgF (k:Int) (l:List ZV):(YZ k l).length=l.length:=by induction l generalizing k with|nil=>rfl|cons x r ih=>simp [YZ,ih]
theorem Zgz (k:Int) (x:ZV):k<=Yn k x:=by
 unfold Yn;have:=Yc (k+1+1) x.pattern.args;omega
theorem ZbC (k:Int) (l:List ZV):k<=Yg k l:=by
 induction l generalizing k with
 |nil=>exact AE _
 |cons x r ih=>exact AF (Zgz k x) (ih _)
theorem ZpY (k:Int) (x:ZV):Yn k x<=k+2+16*Y6 x:=by
 unfold Yn;have:=Zan (k+1+1) x.pattern.args;simp only[Y6,ZL];omega
theorem Zps (k:Int) (l:List ZV):Yg k l<=k+16*YN l:=by
 induction l generalizing k with
 |nil=>simp [Yg,YN]
 |cons x r ih=>
  have h1:=ZpY k x;have h2:=ih (Yn k x);simp only[Yg,YN,AC,AG,AH]at h2 ⊢;omega
def ZhQ (k:Int) (x:Zq):Zq:=⟨mTx (k),(k+1),Qm (k+1+1) x.cond,YZ (Yh (k+1+1) x.cond) x.thn⟩
def Y9 (k:Int) (x:Zq):Int:=Yg (Yh (k+1+1) x.cond) x.thn
def XJ:Int->List Zq->List Zq
 |_,[]=>[]
 |k,x::r=>ZhQ k x::XJ (Y9 k x) r
def Zw:Int->List Zq->Int
 |k,[]=>k
 |k,x::r=>Zw (Y9 k x) r
theorem Zf8 (k:Int) (l:List Zq):(XJ k l).length=l.length:=by induction l generalizing k with|nil=>rfl|cons x r ih=>simp [XJ,ih]
theorem Zjq (k:Int) (x:Zq):k<=Y9 k x:=by
 unfold Y9;have:=Zdp (k+1+1) x.cond;have:=ZbC (Yh (k+1+1) x.cond) x.thn;omega
theorem Zc4 (k:Int) (l:List Zq):k<=Zw k l:=by
 induction l generalizing k with
 |nil=>exact AE _
 |cons x r ih=>exact AF (Zjq k x) (ih _)
theorem ZuT (k:Int) (x:Zq):Y9 k x<=k+2+16*YW x:=by
 unfold Y9;have:=ZsA (k+1+1) x.cond;have:=Zps (Yh (k+1+1) x.cond) x.thn;simp only[YW];omega
theorem ZsE (k:Int) (l:List Zq):Zw k l<=k+16*YS l:=by
 induction l generalizing k with
 |nil=>simp [Zw,YS]
 |cons x r ih=>
  have h1:=ZuT k x;have h2:=ih (Y9 k x);simp only[Zw,YS,AC,AG,AH]at h2 ⊢;omega
def ZeS (k:Int) (x:Zi):Zi:=⟨Xr (k) x.facts,Qo (Z7 (k) x.facts) x.binding⟩
def YJ (k:Int) (x:Zi):Int:=YG (Z7 (k) x.facts) x.binding
def Xx:Int->List Zi->List Zi
 |_,[]=>[]
 |k,x::r=>ZeS k x::Xx (YJ k x) r
def Yo:Int->List Zi->Int
 |k,[]=>k
 |k,x::r=>Yo (YJ k x) r
theorem ZhI (k:Int) (l:List Zi):(Xx k l).length=l.length:=by induction l generalizing k with|nil=>rfl|cons x r ih=>simp [Xx,ih]
theorem ZhH (k:Int) (x:Zi):k<=YJ k x:=by
 unfold YJ;have:=Xy (k) x.facts;have:=Zdn (Z7 (k) x.facts) x.binding;omega
theorem Zca (k:Int) (l:List Zi):k<=Yo k l:=by
 induction l generalizing k with
 |nil=>exact AE _
 |cons x r ih=>exact AF (ZhH k x) (ih _)
theorem ZsD (k:Int) (x:Zi):YJ k x<=k+0+16*YF x:=by
 unfold YJ;have:=Zhm (k) x.facts;have:=Zsl (Z7 (k) x.facts) x.binding;simp only[YF];omega
theorem Zqc (k:Int) (l:List Zi):Yo k l<=k+16*YX l:=by
 induction l generalizing k with
 |nil=>simp [Yo,YX]
 |cons x r ih=>
  have h1:=ZsD k x;have h2:=ih (YJ k x);simp only[Yo,YX,AC,AG,AH]at h2 ⊢;omega
def ZeR (k:Int) (x:ZO):ZO:=⟨⟨mTx (k),Yq (k+1) x.shape.args⟩,Xr (Zg (k+1) x.shape.args) x.facts⟩
def YK (k:Int) (x:ZO):Int:=Z7 (Zg (k+1) x.shape.args) x.facts
def Y3:Int->List ZO->List ZO
 |_,[]=>[]
 |k,x::r=>ZeR k x::Y3 (YK k x) r
def ZF:Int->List ZO->Int
 |k,[]=>k
 |k,x::r=>ZF (YK k x) r
theorem ZeO (k:Int) (l:List ZO):(Y3 k l).length=l.length:=by induction l generalizing k with|nil=>rfl|cons x r ih=>simp [Y3,ih]
theorem Zhu (k:Int) (x:ZO):k<=YK k x:=by
 unfold YK;have:=Yc (k+1) x.shape.args;have:=Xy (Zg (k+1) x.shape.args) x.facts;omega
theorem Zcb (k:Int) (l:List ZO):k<=ZF k l:=by
 induction l generalizing k with
 |nil=>exact AE _
 |cons x r ih=>exact AF (Zhu k x) (ih _)
theorem Zsw (k:Int) (x:ZO):YK k x<=k+1+16*Yz x:=by
 unfold YK;have:=Zan (k+1) x.shape.args;have:=Zhm (Zg (k+1) x.shape.args) x.facts;simp only[Yz,ZL];omega
theorem Zqd (k:Int) (l:List ZO):ZF k l<=k+16*Y5 l:=by
 induction l generalizing k with
 |nil=>simp [ZF,Y5]
 |cons x r ih=>
  have h1:=Zsw k x;have h2:=ih (YK k x);simp only[ZF,Y5,AC,AG,AH]at h2 ⊢;omega
def Zho (k:Int) (x:ZA):ZA:=⟨(k),⟨(k+1),⟨mTx (k+1+1),Yq (k+1+1+1) x.cond.pattern.args⟩,mTx (Zg (k+1+1+1) x.cond.pattern.args),mTx (Zg (k+1+1+1) x.cond.pattern.args+1)⟩,(Zg (k+1+1+1) x.cond.pattern.args+1+1),Xx (Zg (k+1+1+1) x.cond.pattern.args+1+1+1) x.tokens⟩
def Xf (k:Int) (x:ZA):Int:=Yo (Zg (k+1+1+1) x.cond.pattern.args+1+1+1) x.tokens
def XI:Int->List ZA->List ZA
 |_,[]=>[]
 |k,x::r=>Zho k x::XI (Xf k x) r
def Yb:Int->List ZA->Int
 |k,[]=>k
 |k,x::r=>Yb (Xf k x) r
theorem Zf0 (k:Int) (l:List ZA):(XI k l).length=l.length:=by induction l generalizing k with|nil=>rfl|cons x r ih=>simp [XI,ih]
theorem ZiJ (k:Int) (x:ZA):k<=Xf k x:=by
 unfold Xf;have:=Yc (k+1+1+1) x.cond.pattern.args;have:=Zca (Zg (k+1+1+1) x.cond.pattern.args+1+1+1) x.tokens;omega
theorem Zc5 (k:Int) (l:List ZA):k<=Yb k l:=by
 induction l generalizing k with
 |nil=>exact AE _
 |cons x r ih=>exact AF (ZiJ k x) (ih _)
theorem ZsW (k:Int) (x:ZA):Xf k x<=k+6+16*YU x:=by
 unfold Xf;have:=Zan (k+1+1+1) x.cond.pattern.args;have:=Zqc (Zg (k+1+1+1) x.cond.pattern.args+1+1+1) x.tokens;simp only[YU,Yf,ZL];omega
theorem ZrO (k:Int) (l:List ZA):Yb k l<=k+16*XO l:=by
 induction l generalizing k with
 |nil=>simp [Yb,XO]
 |cons x r ih=>
  have h1:=ZsW k x;have h2:=ih (Xf k x);simp only[Yb,XO,AC,AG,AH]at h2 ⊢;omega
def Zh0 (k:Int) (x:YB):YB:=⟨(k),mTx (k+1),⟨mTx (k+1+1),Yq (k+1+1+1) x.fact.args⟩⟩
def Qa (k:Int) (x:YB):Int:=Zg (k+1+1+1) x.fact.args
def ZcP:Int->List YB->List YB
 |_,[]=>[]
 |k,x::r=>Zh0 k x::ZcP (Qa k x) r
def Xz:Int->List YB->Int
 |k,[]=>k
 |k,x::r=>Xz (Qa k x) r
theorem ZlV (k:Int) (x:YB):k<=Qa k x:=by
 unfold Qa;have:=Yc (k+1+1+1) x.fact.args;omega
theorem Zkp (k:Int) (l:List YB):k<=Xz k l:=by
 induction l generalizing k with
 |nil=>exact AE _
 |cons x r ih=>exact AF (ZlV k x) (ih _)
theorem ZrR (k:Int) (x:YB):Qa k x<=k+3+16*XM x:=by
 unfold Qa;have:=Zan (k+1+1+1) x.fact.args;simp only[XM,YV];omega
theorem Zqn (k:Int) (l:List YB):Xz k l<=k+16*Xl l:=by
 induction l generalizing k with
 |nil=>simp [Xz,Xl]
 |cons x r ih=>
  have h1:=ZrR k x;have h2:=ih (Qa k x);simp only[Xz,Xl,AC,AG,AH]at h2 ⊢;omega
end
end
end Go.Proofs.YtfdjdgdipgfmeaaGreatDoor
