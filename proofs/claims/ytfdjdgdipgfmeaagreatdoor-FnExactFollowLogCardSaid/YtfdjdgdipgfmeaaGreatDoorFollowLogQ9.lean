/- Texts of this proof, joined; no conditions. -/
import Derived.Test.YtfdjdgdipgfmeaaGreatDoorProg
import Derived.Test.YtfdjdgdipgfmeaaGreatDoorFollowLogQ8
import Derived.Outline
import Derived.WalkSpells
import Derived.StillTailTactics
import Derived.Deep.RegionHeld3
import Derived.Test.YtfdjdgdipgfmeaaGreatDoorFollowLogQ1
import Derived.Deep.Slices
import Derived.ChangeArms
import Derived.ProofKit
import Derived.Test.YtfdjdgdipgfmeaaGreatDoorFollowLogQ3
import Derived.Test.YtfdjdgdipgfmeaaGreatDoorFollowLogQ7
open Array renaming size_push→AP
open Int renaming le_trans→AF
open List renaming drop_eq_getElem_cons→A6,getElem?_eq_getElem→AA,take→AB,drop→AC,drop_of_length_le→AE,mem_append→AG,set_append_right→AH,set_cons_zero→AI,mem_cons→AJ,append_nil→AK,getElem_append_right→AM
open Nat renaming add_zero→A0,lt_of_lt_of_le→A9,zero_le→AD,le_refl→AL,lt_irrefl→AN,le_of_eq→AO,mul_one→AQ
open Go.Proofs.Tryz
set_option linter.unusedSimpArgs false
set_option linter.unusedVariables false
set_option maxRecDepth 1000000
set_option maxHeartbeats 4000000
open Go.Lib renaming hid→yS
namespace Go.Proofs.YtfdjdgdipgfmeaaGreatDoor
noncomputable section
section
open Go.RowKit
theorem X3 {w A:World}{g:Nat}{t:TypeId}{cs:Array Value}{M:List Nat}(h:Blk w g t cs) (B:Y1 M w A) (C:g∉M):Blk A g t cs:=(B.block g h.lt C).trans h
theorem QV (A:Option Addr) (n c:Nat) (ds:List ByteArray) (L:List Nat) (base:Nat) (k:Int) (w:World) (K:n=ds.length) (C:1<=k) (l:Zg k ds<=4611686018427387904) (h:Got (Zz ZbY) base [.slice A n c] ds L w):
  Calls prog 45 #[.slice A n c,.int .i64 k] w fun e w'=>e=.returned (.int .i64 (Zg k ds))/\Got (Zz ZbY) base [.slice A n c] (Yq k ds) L w'/\Y1 L w w':=by
 have H:=yS h;have HN:=yS K;have M:k+n<=4611686018427387904:=by simp only[Zg]at l;omega
 clear h K l;go_enter func45,ntmps45;go_wp2;go_loopw [1,5] (fun q j wr=>∃(i:Nat) (I:Int) (D:List ByteArray),i<=n/\j=.int .i64 i/\q=.int .i64 I/\1<=I/\I+(n - i:Nat)<=4611686018427387904/\Hid (I=k+i/\D.length=i/\D++Yq I (ds.drop i)=Yq k ds)/\Hid (Got (Zz ZbY) base [.slice A n c] (D++ds.drop i) L wr)/\Hid (Y1 L w wr)) (fun _ j _=>n - (intOf j).toNat)
 case atStart=>exact ⟨0,k,[],AD _,rfl,rfl,C,yE,⟨yE,rfl,rfl⟩,H.out,Y1.refl _ _⟩
 case round=>
  obtain ⟨i,I,D,hi,rfl,rfl,S,R,HD,HG,HO⟩:=hrel;by_cases O:i<n
  .have P:i<ds.length:=by have:=HN.out;omega
   obtain ⟨E,o,p⟩:=HD.out;have F:i<(D++ds.drop i).length:=by simp;omega
   obtain ⟨b,off,cs,Lk,rfl,G,t,d,u,a,g⟩:=HG.out.focus F;obtain ⟨rfl,v,_⟩:=u;have HEl:=yS (Zci.start (m:=1) a rfl d);have f:Hid (ds.drop i=ds[i]::ds.drop (i+1)):=A6 _;have HPut:=yS g;have HOwn:=yS d;have HLk:=yS t;have HLe:=yS v;have HDn:Hid (I+1=k+(i+1:Nat)/\(D++[mTx I]).length=i+1/\(D++[mTx I])++Yq (I+1) (ds.drop (i+1))=Yq k ds):=by
    refine ⟨yE,by simp [o],?_⟩;rw [<-p,f.out];simp [Yq]
   have x:Hid ((D++ds.drop i).set i (mTx I)=(D++[mTx I])++ds.drop (i+1)):=by
    rw [Hid,AH _ _ yE,show i - D.length=0 by omega,f.out,AI];simp
   clear g d t a E o p v;simp only[show ZbY.size=1 from rfl,AQ]at HEl HPut;go_wp2_with (go_at_call 44;refine (ZK _ _ yE yE).mono ?_;rintro e T ⟨rfl,z⟩;have E1:=yS (HEl.out.later z);have q1:=E1.out.at (j:=0) rfl;have z1:=E1.out.frozen (off+i);clear z;simp only[A0]at q1);have E2:=yS (E1.out.set 0 yE (.string (mTx I)));have B:=yS (Xa HOwn.out E2.out.plain E2.out.only (by rw [HLe.out];simp));have HGn:=yS (HPut.out _ _ (mTx I) E2.out.only E2.out.cells E2.out.rest (by rw [HLe.out];exact ⟨rfl,rfl,QI _ yE⟩) B.out);have HOn:=yS (HO.out.trans (E2.out.only.mono (fun y m=>by rcases AJ.1 m with rfl|m;exact G;exact HLk.out y m)));rw [x.out]at HGn;simp only[A0]at HGn HOn;clear E2 B HPut;go_wp2_with fail
   go_roundw
   case rel=>exact ⟨i+1,I+1,_,yE,by go_num,rfl,yE,yE,HDn,HGn,HOn⟩
   case measure=>simp [intOf];omega
  .obtain rfl:i=n:=by omega
   have N:Hid (Zg k ds=I/\D=Yq k ds):=by
    obtain ⟨S,R,J⟩:=HD.out;have e:ds.drop i=[]:=AE (by have:=HN.out;omega);rw [e]at J;simp [Yq]at J;exact ⟨by have:=HN.out;simp only[Zg];omega,J⟩
   have e:Hid (ds.drop i=[]):=AE (by have:=HN.out;omega);rw [e.out,AK]at HG;go_wp2;go_ret;exact ⟨ZQ N.out.1.symm,by rw [<-N.out.2];exact HG.out,HO.out⟩
theorem ZrZ (A:Option Addr) (n c:Nat) (ds:List Int) (L:List Nat) (base:Nat) (k:Int) (w:World) (J:n=ds.length) (B:1<=k) (l:ZU k ds<=4611686018427387904) (h:Got (Zz ZeD) base [.slice A n c] ds L w):
  Calls prog 40 #[.slice A n c,.int .i64 k] w fun e w'=>e=.returned (.int .i64 (ZU k ds))/\Got (Zz ZeD) base [.slice A n c] (QR k ds) L w'/\Y1 L w w':=by
 have H:=yS h;have HN:=yS J;have K:k+n<=4611686018427387904:=by simp only[ZU]at l;omega
 clear h J l;go_enter func40,ntmps40;go_wp2;go_loopw [1,5] (fun q j wr=>∃(i:Nat) (G:Int) (D:List Int),i<=n/\j=.int .i64 i/\q=.int .i64 G/\1<=G/\G+(n - i:Nat)<=4611686018427387904/\Hid (G=k+i/\D.length=i/\D++QR G (ds.drop i)=QR k ds)/\Hid (Got (Zz ZeD) base [.slice A n c] (D++ds.drop i) L wr)/\Hid (Y1 L w wr)) (fun _ j _=>n - (intOf j).toNat)
 case atStart=>exact ⟨0,k,[],AD _,rfl,rfl,B,yE,⟨yE,rfl,rfl⟩,H.out,Y1.refl _ _⟩
 case round=>
  obtain ⟨i,G,D,hi,rfl,rfl,R,P,HD,HG,HO⟩:=hrel;by_cases N:i<n
  .have O:i<ds.length:=by have:=HN.out;omega
   obtain ⟨C,o,p⟩:=HD.out;have E:i<(D++ds.drop i).length:=by simp;omega
   obtain ⟨b,off,cs,Lk,rfl,F,t,d,u,a,g⟩:=HG.out.focus E;obtain ⟨rfl,v⟩:=u;have HEl:=yS (Zci.start (m:=1) a rfl d);have f:Hid (ds.drop i=ds[i]::ds.drop (i+1)):=A6 _;have HPut:=yS g;have HOwn:=yS d;have HLk:=yS t;have HLe:=yS v;have HDn:Hid (G+1=k+(i+1:Nat)/\(D++[G]).length=i+1/\(D++[G])++QR (G+1) (ds.drop (i+1))=QR k ds):=by
    refine ⟨yE,by simp [o],?_⟩;rw [<-p,f.out];simp [QR]
   have x:Hid ((D++ds.drop i).set i (G)=(D++[G])++ds.drop (i+1)):=by
    rw [Hid,AH _ _ yE,show i - D.length=0 by omega,f.out,AI];simp
   clear g d t a C o p v;simp only[show ZeD.size=1 from rfl,AQ]at HEl HPut;have q1:=HEl.out.at (j:=0) rfl;have z1:=HEl.out.frozen (off+i);simp only[A0]at q1;go_wp2_with fail
   have E2:=yS (HEl.out.set 0 yE (.int .i64 G));have z:=yS (Xa HOwn.out E2.out.plain E2.out.only (by rw [HLe.out];simp));have HGn:=yS (HPut.out _ _ (G) E2.out.only E2.out.cells E2.out.rest (by rw [HLe.out];exact ⟨rfl,rfl⟩) z.out);have HOn:=yS (HO.out.trans (E2.out.only.mono (fun y m=>by rcases AJ.1 m with rfl|m;exact F;exact HLk.out y m)));rw [x.out]at HGn;simp only[A0]at HGn HOn;clear E2 z HPut;go_wp2_with fail
   go_roundw
   case rel=>exact ⟨i+1,G+1,_,yE,by go_num,rfl,yE,yE,HDn,HGn,HOn⟩
   case measure=>simp [intOf];omega
  .obtain rfl:i=n:=by omega
   have M:Hid (ZU k ds=G/\D=QR k ds):=by
    obtain ⟨R,P,I⟩:=HD.out;have e:ds.drop i=[]:=AE (by have:=HN.out;omega);rw [e]at I;simp [QR]at I;exact ⟨by have:=HN.out;simp only[ZU];omega,I⟩
   have e:Hid (ds.drop i=[]):=AE (by have:=HN.out;omega);rw [e.out,AK]at HG;go_wp2;go_ret;exact ⟨ZQ M.out.1.symm,by rw [<-M.out.2];exact HG.out,HO.out⟩
theorem ZgC (A:Option Addr) (n c:Nat) (ds:List Zf) (L:List Nat) (base:Nat) (k:Int) (w:World) (hn:n=ds.length) (hm:n<=9223372036854775807) (P:1<=k) (v:Z7 k ds<=4611686018427387904) (h:Got (Zz Ys) base [.slice A n c] ds L w):
  Calls prog 43 #[.slice A n c,.int .i64 k] w fun e w'=>e=.returned (.int .i64 (Z7 k ds))/\Got (Zz Ys) base [.slice A n c] (Xr k ds) L w'/\Y1 L w w':=by
 have H:=yS h;have HN:=yS hn;have HK:=yS v;clear h hn v;go_enter func43,ntmps43;go_wp2;go_loopw [1,5] (fun q j wr=>∃(i:Nat) (U:Int) (D:List Zf),i<=n/\j=.int .i64 i/\q=.int .i64 U/\1<=U/\Hid (Z7 U (ds.drop i)=Z7 k ds/\D.length=i/\D++Xr U (ds.drop i)=Xr k ds)/\Hid (Got (Zz Ys) base [.slice A n c] (D++ds.drop i) L wr)/\Hid (Y1 L w wr)) (fun _ j _=>n - (intOf j).toNat)
 case atStart=>exact ⟨0,k,[],AD _,rfl,rfl,P,⟨rfl,rfl,rfl⟩,H.out,Y1.refl _ _⟩
 case round=>
  obtain ⟨i,U,D,hi,rfl,rfl,h1,HD,HG,HO⟩:=hrel;by_cases aa:i<n
  .have ab:i<ds.length:=by have:=HN.out;omega
   obtain ⟨l,t,z⟩:=HD.out;have Q:i<(D++ds.drop i).length:=by simp;omega
   obtain ⟨b,off,cs,Lk,rfl,R,B,d,g,f,o⟩:=HG.out.focus Q;have a:Hid (ds.drop i=ds[i]::ds.drop (i+1)):=A6 _;have C:(D++ds.drop i)[i]=ds[i]:=by
    rw [AM yE];simp [t]
   rw [C]at g;clear C;generalize ds[i]=x at g a
   have S:Hid (Xb U x<=4611686018427387904):=by
    have:=Xy (Xb U x) (ds.drop (i+1));rw [a.out]at l;have hk:=HK.out;rw [<-l]at hk;exact AF this hk
   have E:=S.out;have F:=ZjG U x;unfold Xb at E F;have HDn:Hid (Z7 (Xb U x) (ds.drop (i+1))=Z7 k ds/\(D++[Zil U x]).length=i+1/\(D++[Zil U x])++Xr (Xb U x) (ds.drop (i+1))=Xr k ds):=by
    refine ⟨by rw [<-l,a.out];rfl,by simp [t],?_⟩;rw [<-z,a.out];simp [Xr]
   have G:Hid ((D++ds.drop i).set i (Zil U x)=(D++[Zil U x])++ds.drop (i+1)):=by
    rw [Hid,AH _ _ yE,show i - D.length=0 by omega,a.out,AI];simp
   obtain ⟨A1,V,L1,rfl,ac,t0,n1,m1,s1⟩:=g;unfold maxLen at m1;subst Lk;have HEl:=yS (Zci.start (m:=2) f rfl d);have hbn:=yS d.head;have G1:Hid (Got (Zz ZbY) base [.slice A1 x.args.length V] x.args L1 wr):=⟨⟨A1,V,rfl,n1,(by unfold maxLen;omega),s1⟩,d.tail⟩
   have I:Hid (b∉L1):=fun m=>d.head (by simp [m]);have T:Hid (∀y∈L1,y∈L1):=fun y m=>by simp [m]
   clear s1;have HPut:=yS o;have HOwn:=yS d;have HLk:=yS B;clear o d B f l t z;simp only[show Ys.size=2 from rfl]at HEl HPut;have q0:=HEl.out.at (j:=0) rfl;have z0:=HEl.out.frozen (off+i*2);have q1:=HEl.out.at (j:=1) rfl;have z1:=HEl.out.frozen (off+i*2+1);simp only[A0]at q0;have ad:(0:Int)<=0:=by omega
   have mono_x_args:=Yc (U+1) x.args;go_wp2_with fail
   refine (ZK _ _ yE yE).mono ?_;rintro e w1 ⟨rfl,u⟩;have HEl:=yS (HEl.out.later u);have G1:=yS (G1.out.later u);clear u;clear q0 z0 q1 z1;have q0:=HEl.out.at (j:=0) rfl;have z0:=HEl.out.frozen (off+i*2);have q1:=HEl.out.at (j:=1) rfl;have z1:=HEl.out.frozen (off+i*2+1);simp only[A0]at q0;go_wp2_with fail
   have G1:=yS (G1.out.setFar (p:=⟨b,off+i*2+0,none⟩) I.out (.string (mTx (U))));refine (QV A1 _ V x.args L1 base _ _ rfl yE yE G1.out).mono ?_;rintro e w2 ⟨rfl,g2,J⟩;have HEl:=yS ((HEl.out.set 0 yE (.string (mTx (U)))).marked J T.out I.out);have G1:=yS g2;clear g2 J;clear q0 z0 q1 z1;have q0:=HEl.out.at (j:=0) rfl;have z0:=HEl.out.frozen (off+i*2);have q1:=HEl.out.at (j:=1) rfl;have z1:=HEl.out.frozen (off+i*2+1);simp only[A0]at q0;obtain ⟨K,M,N⟩:=ZH G1.out.rep;have O:=yS (Xa HOwn.out HEl.out.plain HEl.out.only (fun y m=>by (try simp only[AG]at m)<;>(exact G1.out.own.plain y m)))
   have HGn:=yS (HPut.out _ _ (Zil U x) HEl.out.only HEl.out.cells HEl.out.rest ⟨A1,V,L1,by simp [Zil,YY],rfl,QI _ yE,K,M,N⟩ O.out);have HOn:=yS (HO.out.trans (HEl.out.only.mono (fun y m=>by rcases AJ.1 m with rfl|m;exact R;exact HLk.out y m)));rw [G.out]at HGn;try simp only[A0]at HGn HOn
   clear HEl O HPut G1 K M N;go_wp2_with fail
   go_roundw
   case rel=>exact ⟨i+1,Xb U x,_,yE,by go_num,rfl,by unfold Xb;omega,HDn,HGn,HOn⟩
   case measure=>simp [intOf];omega
  .obtain rfl:i=n:=by omega
   have e:Hid (ds.drop i=[]):=AE (by have:=HN.out;omega);have hf:Hid (Z7 k ds=U/\D=Xr k ds):=by
    obtain ⟨h1,h2,W⟩:=HD.out;rw [e.out]at W h1;simp [Xr]at W;exact ⟨h1.symm,W⟩
   rw [e.out,AK]at HG;go_wp2;go_ret;exact ⟨ZQ hf.out.1.symm,by rw [<-hf.out.2];exact HG.out,HO.out⟩
theorem Zqv (A:Option Addr) (n c:Nat) (ds:List Zj) (L:List Nat) (base:Nat) (k:Int) (w:World) (T:n=ds.length) (hm:n<=9223372036854775807) (J:1<=k) (t:YG k ds<=4611686018427387904) (h:Got (Zz XK) base [.slice A n c] ds L w):
  Calls prog 138 #[.slice A n c,.int .i64 k] w fun e w'=>e=.returned (.int .i64 (YG k ds))/\Got (Zz XK) base [.slice A n c] (Qo k ds) L w'/\Y1 L w w':=by
 have H:=yS h;have HN:=yS T;have HK:=yS t;clear h T t;go_enter func138,ntmps138;go_wp2;go_loopw [1,5] (fun q j wr=>∃(i:Nat) (P:Int) (D:List Zj),i<=n/\j=.int .i64 i/\q=.int .i64 P/\1<=P/\Hid (YG P (ds.drop i)=YG k ds/\D.length=i/\D++Qo P (ds.drop i)=Qo k ds)/\Hid (Got (Zz XK) base [.slice A n c] (D++ds.drop i) L wr)/\Hid (Y1 L w wr)) (fun _ j _=>n - (intOf j).toNat)
 case atStart=>exact ⟨0,k,[],AD _,rfl,rfl,J,⟨rfl,rfl,rfl⟩,H.out,Y1.refl _ _⟩
 case round=>
  obtain ⟨i,P,D,hi,rfl,rfl,S,HD,HG,HO⟩:=hrel;by_cases V:i<n
  .have W:i<ds.length:=by have:=HN.out;omega
   obtain ⟨l,p,u⟩:=HD.out;have K:i<(D++ds.drop i).length:=by simp;omega
   obtain ⟨b,off,cs,Lk,rfl,M,v,d,g,f,o⟩:=HG.out.focus K;have a:Hid (ds.drop i=ds[i]::ds.drop (i+1)):=A6 _;have z:(D++ds.drop i)[i]=ds[i]:=by
    rw [AM yE];simp [p]
   rw [z]at g;clear z;generalize ds[i]=x at g a
   have N:Hid (Xg P x<=4611686018427387904):=by
    have:=Zdn (Xg P x) (ds.drop (i+1));rw [a.out]at l;have hk:=HK.out;rw [<-l]at hk;exact AF this hk
   have B:=N.out;have C:=Zii P x;unfold Xg at B C;have HDn:Hid (YG (Xg P x) (ds.drop (i+1))=YG k ds/\(D++[ZkE P x]).length=i+1/\(D++[ZkE P x])++Qo (Xg P x) (ds.drop (i+1))=Qo k ds):=by
    refine ⟨by rw [<-l,a.out];rfl,by simp [p],?_⟩;rw [<-u,a.out];simp [Qo]
   have E:Hid ((D++ds.drop i).set i (ZkE P x)=(D++[ZkE P x])++ds.drop (i+1)):=by
    rw [Hid,AH _ _ yE,show i - D.length=0 by omega,a.out,AI];simp
   obtain ⟨rfl,O,t0,t1⟩:=g;subst O;have HEl:=yS (Zci.start (m:=2) f rfl d);have hbn:=yS d.head;have HPut:=yS o;have HOwn:=yS d;have HLk:=yS v;clear o d v f l p u;simp only[show XK.size=2 from rfl]at HEl HPut;have q0:=HEl.out.at (j:=0) rfl;have z0:=HEl.out.frozen (off+i*2);have q1:=HEl.out.at (j:=1) rfl;have z1:=HEl.out.frozen (off+i*2+1);simp only[A0]at q0;have aa:(0:Int)<=0:=by omega
   go_wp2_with fail
   refine (ZK _ _ yE yE).mono ?_;rintro e w1 ⟨rfl,F⟩;have HEl:=yS (HEl.out.later F);clear F;clear q0 z0 q1 z1;have q0:=HEl.out.at (j:=0) rfl;have z0:=HEl.out.frozen (off+i*2);have q1:=HEl.out.at (j:=1) rfl;have z1:=HEl.out.frozen (off+i*2+1);simp only[A0]at q0;go_wp2_with fail
   refine (ZK _ _ yE yE).mono ?_;rintro e w2 ⟨rfl,G⟩;have HEl:=yS ((HEl.out.set 0 yE (.string (mTx (P)))).later G);clear G;clear q0 z0 q1 z1;have q0:=HEl.out.at (j:=0) rfl;have z0:=HEl.out.frozen (off+i*2);have q1:=HEl.out.at (j:=1) rfl;have z1:=HEl.out.frozen (off+i*2+1);simp only[A0]at q0;have HEl:=yS (HEl.out.set 1 yE (.string (mTx (P+1))));have I:=yS (Xa HOwn.out HEl.out.plain HEl.out.only (fun y m=>by (try simp only[AG,List.not_mem_nil]at m)<;>(exact m.elim)))
   have HGn:=yS (HPut.out _ _ (ZkE P x) HEl.out.only HEl.out.cells HEl.out.rest ⟨by simp [ZkE],rfl,QI _ yE,QI _ yE⟩ I.out);have HOn:=yS (HO.out.trans (HEl.out.only.mono (fun y m=>by rcases AJ.1 m with rfl|m;exact M;exact HLk.out y m)));rw [E.out]at HGn;try simp only[A0]at HGn HOn
   clear HEl I HPut;go_wp2_with fail
   go_roundw
   case rel=>exact ⟨i+1,Xg P x,_,yE,by go_num,rfl,by unfold Xg;omega,HDn,HGn,HOn⟩
   case measure=>simp [intOf];omega
  .obtain rfl:i=n:=by omega
   have e:Hid (ds.drop i=[]):=AE (by have:=HN.out;omega);have U:Hid (YG k ds=P/\D=Qo k ds):=by
    obtain ⟨S,h2,R⟩:=HD.out;rw [e.out]at R S;simp [Qo]at R;exact ⟨S.symm,R⟩
   rw [e.out,AK]at HG;go_wp2;go_ret;exact ⟨ZQ U.out.1.symm,by rw [<-U.out.2];exact HG.out,HO.out⟩
theorem Zqg (A:Option Addr) (n c:Nat) (ds:List Zh) (L:List Nat) (base:Nat) (k:Int) (w:World) (hn:n=ds.length) (hm:n<=9223372036854775807) (R:1<=k) (C:Yh k ds<=4611686018427387904) (h:Got (Zz X8) base [.slice A n c] ds L w):
  Calls prog 82 #[.slice A n c,.int .i64 k] w fun e w'=>e=.returned (.int .i64 (Yh k ds))/\Got (Zz X8) base [.slice A n c] (Qm k ds) L w'/\Y1 L w w':=by
 have H:=yS h;have HN:=yS hn;have HK:=yS C;clear h hn C;go_enter func82,ntmps82;go_wp2;go_loopw [1,5] (fun q j wr=>∃(i:Nat) (W:Int) (D:List Zh),i<=n/\j=.int .i64 i/\q=.int .i64 W/\1<=W/\Hid (Yh W (ds.drop i)=Yh k ds/\D.length=i/\D++Qm W (ds.drop i)=Qm k ds)/\Hid (Got (Zz X8) base [.slice A n c] (D++ds.drop i) L wr)/\Hid (Y1 L w wr)) (fun _ j _=>n - (intOf j).toNat)
 case atStart=>exact ⟨0,k,[],AD _,rfl,rfl,R,⟨rfl,rfl,rfl⟩,H.out,Y1.refl _ _⟩
 case round=>
  obtain ⟨i,W,D,hi,rfl,rfl,h1,HD,HG,HO⟩:=hrel;by_cases aa:i<n
  .have ab:i<ds.length:=by have:=HN.out;omega
   obtain ⟨o,u,E⟩:=HD.out;have S:i<(D++ds.drop i).length:=by simp;omega
   obtain ⟨b,off,cs,Lk,rfl,T,F,d,g,f,t⟩:=HG.out.focus S;have a:Hid (ds.drop i=ds[i]::ds.drop (i+1)):=A6 _;have G:(D++ds.drop i)[i]=ds[i]:=by
    rw [AM yE];simp [u]
   rw [G]at g;clear G;generalize ds[i]=x at g a
   have U:Hid (Xc W x<=4611686018427387904):=by
    have:=Zdp (Xc W x) (ds.drop (i+1));rw [a.out]at o;have hk:=HK.out;rw [<-o]at hk;exact AF this hk
   have I:=U.out;have J:=Zi6 W x;unfold Xc at I J;have HDn:Hid (Yh (Xc W x) (ds.drop (i+1))=Yh k ds/\(D++[ZiC W x]).length=i+1/\(D++[ZiC W x])++Qm (Xc W x) (ds.drop (i+1))=Qm k ds):=by
    refine ⟨by rw [<-o,a.out];rfl,by simp [u],?_⟩;rw [<-E,a.out];simp [Qm]
   have K:Hid ((D++ds.drop i).set i (ZiC W x)=(D++[ZiC W x])++ds.drop (i+1)):=by
    rw [Hid,AH _ _ yE,show i - D.length=0 by omega,a.out,AI];simp
   obtain ⟨A1,c1,L1,rfl,ac,t0,t1,t2,n1,m1,s1⟩:=g;unfold maxLen at m1;subst Lk;have HEl:=yS (Zci.start (m:=5) f rfl d);have hbn:=yS d.head;have G1:Hid (Got (Zz ZbY) base [.slice A1 x.pattern.args.length c1] x.pattern.args L1 wr):=⟨⟨A1,c1,rfl,n1,(by unfold maxLen;omega),s1⟩,d.tail⟩
   have l:Hid (b∉L1):=fun m=>d.head (by simp [m]);have V:Hid (∀y∈L1,y∈L1):=fun y m=>by simp [m]
   clear s1;have HPut:=yS t;have HOwn:=yS d;have HLk:=yS F;clear t d F f o u E;simp only[show X8.size=5 from rfl]at HEl HPut;have q0:=HEl.out.at (j:=0) rfl;have z0:=HEl.out.frozen (off+i*5);have q1:=HEl.out.at (j:=1) rfl;have z1:=HEl.out.frozen (off+i*5+1);have q2:=HEl.out.at (j:=2) rfl;have z2:=HEl.out.frozen (off+i*5+2);have q3:=HEl.out.at (j:=3) rfl;have z3:=HEl.out.frozen (off+i*5+3);have q4:=HEl.out.at (j:=4) rfl;have z4:=HEl.out.frozen (off+i*5+4);simp only[A0]at q0;have ad:(0:Int)<=0:=by omega
   have mono_x_pattern_args:=Yc (W+1+1) x.pattern.args;go_wp2_with fail
   refine (ZK _ _ yE yE).mono ?_;rintro e w1 ⟨rfl,v⟩;have HEl:=yS ((HEl.out.set 0 yE (.int .i64 (W))).later v);have G1:=yS ((G1.out.setFar (p:=⟨b,off+i*5+0,none⟩) l.out (.int .i64 (W))).later v);clear v;clear q0 z0 q1 z1 q2 z2 q3 z3 q4 z4;have q0:=HEl.out.at (j:=0) rfl;have z0:=HEl.out.frozen (off+i*5);have q1:=HEl.out.at (j:=1) rfl;have z1:=HEl.out.frozen (off+i*5+1);have q2:=HEl.out.at (j:=2) rfl;have z2:=HEl.out.frozen (off+i*5+2);have q3:=HEl.out.at (j:=3) rfl;have z3:=HEl.out.frozen (off+i*5+3);have q4:=HEl.out.at (j:=4) rfl;have z4:=HEl.out.frozen (off+i*5+4);simp only[A0]at q0;go_wp2_with fail
   have G1:=yS (G1.out.setFar (p:=⟨b,off+i*5+1,none⟩) l.out (.string (mTx (W+1))));refine (QV A1 _ c1 x.pattern.args L1 base _ _ rfl yE yE G1.out).mono ?_;rintro e w2 ⟨rfl,g2,M⟩;have HEl:=yS ((HEl.out.set 1 yE (.string (mTx (W+1)))).marked M V.out l.out);have G1:=yS g2;clear g2 M;clear q0 z0 q1 z1 q2 z2 q3 z3 q4 z4;have q0:=HEl.out.at (j:=0) rfl;have z0:=HEl.out.frozen (off+i*5);have q1:=HEl.out.at (j:=1) rfl;have z1:=HEl.out.frozen (off+i*5+1);have q2:=HEl.out.at (j:=2) rfl;have z2:=HEl.out.frozen (off+i*5+2);have q3:=HEl.out.at (j:=3) rfl;have z3:=HEl.out.frozen (off+i*5+3);have q4:=HEl.out.at (j:=4) rfl;have z4:=HEl.out.frozen (off+i*5+4);simp only[A0]at q0;go_wp2_with fail
   refine (ZK _ _ yE yE).mono ?_;rintro e w3 ⟨rfl,z⟩;have HEl:=yS (HEl.out.later z);have G1:=yS (G1.out.later z);clear z;clear q0 z0 q1 z1 q2 z2 q3 z3 q4 z4;have q0:=HEl.out.at (j:=0) rfl;have z0:=HEl.out.frozen (off+i*5);have q1:=HEl.out.at (j:=1) rfl;have z1:=HEl.out.frozen (off+i*5+1);have q2:=HEl.out.at (j:=2) rfl;have z2:=HEl.out.frozen (off+i*5+2);have q3:=HEl.out.at (j:=3) rfl;have z3:=HEl.out.frozen (off+i*5+3);have q4:=HEl.out.at (j:=4) rfl;have z4:=HEl.out.frozen (off+i*5+4);simp only[A0]at q0;go_wp2_with fail
   refine (ZK _ _ yE yE).mono ?_;rintro e w4 ⟨rfl,B⟩;have HEl:=yS ((HEl.out.set 3 yE (.string (mTx (Zg (W+1+1) x.pattern.args)))).later B);have G1:=yS ((G1.out.setFar (p:=⟨b,off+i*5+3,none⟩) l.out (.string (mTx (Zg (W+1+1) x.pattern.args)))).later B);clear B;clear q0 z0 q1 z1 q2 z2 q3 z3 q4 z4;have q0:=HEl.out.at (j:=0) rfl;have z0:=HEl.out.frozen (off+i*5);have q1:=HEl.out.at (j:=1) rfl;have z1:=HEl.out.frozen (off+i*5+1);have q2:=HEl.out.at (j:=2) rfl;have z2:=HEl.out.frozen (off+i*5+2);have q3:=HEl.out.at (j:=3) rfl;have z3:=HEl.out.frozen (off+i*5+3);have q4:=HEl.out.at (j:=4) rfl;have z4:=HEl.out.frozen (off+i*5+4);simp only[A0]at q0;have HEl:=yS (HEl.out.set 4 yE (.string (mTx (Zg (W+1+1) x.pattern.args+1))));have G1:=yS (G1.out.setFar (p:=⟨b,off+i*5+4,none⟩) l.out (.string (mTx (Zg (W+1+1) x.pattern.args+1))));obtain ⟨N,O,P⟩:=ZH G1.out.rep
   have Q:=yS (Xa HOwn.out HEl.out.plain HEl.out.only (fun y m=>by (try simp only[AG]at m)<;>(exact G1.out.own.plain y m)))
   have HGn:=yS (HPut.out _ _ (ZiC W x) HEl.out.only HEl.out.cells HEl.out.rest ⟨A1,c1,L1,by simp [ZiC,YY],rfl,QI _ yE,QI _ yE,QI _ yE,N,O,P⟩ Q.out);have HOn:=yS (HO.out.trans (HEl.out.only.mono (fun y m=>by rcases AJ.1 m with rfl|m;exact T;exact HLk.out y m)));rw [K.out]at HGn;try simp only[A0]at HGn HOn
   clear HEl Q HPut G1 N O P;go_wp2_with fail
   go_roundw
   case rel=>exact ⟨i+1,Xc W x,_,yE,by go_num,rfl,by unfold Xc;omega,HDn,HGn,HOn⟩
   case measure=>simp [intOf];omega
  .obtain rfl:i=n:=by omega
   have e:Hid (ds.drop i=[]):=AE (by have:=HN.out;omega);have hf:Hid (Yh k ds=W/\D=Qm k ds):=by
    obtain ⟨h1,h2,h3⟩:=HD.out;rw [e.out]at h3 h1;simp [Qm]at h3;exact ⟨h1.symm,h3⟩
   rw [e.out,AK]at HG;go_wp2;go_ret;exact ⟨ZQ hf.out.1.symm,by rw [<-hf.out.2];exact HG.out,HO.out⟩
theorem ZnE (A:Option Addr) (n c:Nat) (ds:List ZV) (L:List Nat) (base:Nat) (k:Int) (w:World) (hn:n=ds.length) (hm:n<=9223372036854775807) (P:1<=k) (z:Yg k ds<=4611686018427387904) (h:Got (Zz YT) base [.slice A n c] ds L w):
  Calls prog 83 #[.slice A n c,.int .i64 k] w fun e w'=>e=.returned (.int .i64 (Yg k ds))/\Got (Zz YT) base [.slice A n c] (YZ k ds) L w'/\Y1 L w w':=by
 have H:=yS h;have HN:=yS hn;have HK:=yS z;clear h hn z;go_enter func83,ntmps83;go_wp2;go_loopw [1,5] (fun q j wr=>∃(i:Nat) (U:Int) (D:List ZV),i<=n/\j=.int .i64 i/\q=.int .i64 U/\1<=U/\Hid (Yg U (ds.drop i)=Yg k ds/\D.length=i/\D++YZ U (ds.drop i)=YZ k ds)/\Hid (Got (Zz YT) base [.slice A n c] (D++ds.drop i) L wr)/\Hid (Y1 L w wr)) (fun _ j _=>n - (intOf j).toNat)
 case atStart=>exact ⟨0,k,[],AD _,rfl,rfl,P,⟨rfl,rfl,rfl⟩,H.out,Y1.refl _ _⟩
 case round=>
  obtain ⟨i,U,D,hi,rfl,rfl,h1,HD,HG,HO⟩:=hrel;by_cases aa:i<n
  .have ab:i<ds.length:=by have:=HN.out;omega
   obtain ⟨l,t,B⟩:=HD.out;have Q:i<(D++ds.drop i).length:=by simp;omega
   obtain ⟨b,off,cs,Lk,rfl,R,C,d,g,f,o⟩:=HG.out.focus Q;have a:Hid (ds.drop i=ds[i]::ds.drop (i+1)):=A6 _;have E:(D++ds.drop i)[i]=ds[i]:=by
    rw [AM yE];simp [t]
   rw [E]at g;clear E;generalize ds[i]=x at g a
   have S:Hid (Yn U x<=4611686018427387904):=by
    have:=ZbC (Yn U x) (ds.drop (i+1));rw [a.out]at l;have hk:=HK.out;rw [<-l]at hk;exact AF this hk
   have F:=S.out;have G:=Zgz U x;unfold Yn at F G;have HDn:Hid (Yg (Yn U x) (ds.drop (i+1))=Yg k ds/\(D++[Zen U x]).length=i+1/\(D++[Zen U x])++YZ (Yn U x) (ds.drop (i+1))=YZ k ds):=by
    refine ⟨by rw [<-l,a.out];rfl,by simp [t],?_⟩;rw [<-B,a.out];simp [YZ]
   have I:Hid ((D++ds.drop i).set i (Zen U x)=(D++[Zen U x])++ds.drop (i+1)):=by
    rw [Hid,AH _ _ yE,show i - D.length=0 by omega,a.out,AI];simp
   obtain ⟨A1,V,L1,rfl,ac,t0,n1,m1,s1⟩:=g;unfold maxLen at m1;subst Lk;have HEl:=yS (Zci.start (m:=3) f rfl d);have hbn:=yS d.head;have G1:Hid (Got (Zz ZbY) base [.slice A1 x.pattern.args.length V] x.pattern.args L1 wr):=⟨⟨A1,V,rfl,n1,(by unfold maxLen;omega),s1⟩,d.tail⟩
   have u:Hid (b∉L1):=fun m=>d.head (by simp [m]);have T:Hid (∀y∈L1,y∈L1):=fun y m=>by simp [m]
   clear s1;have HPut:=yS o;have HOwn:=yS d;have HLk:=yS C;clear o d C f l t B;simp only[show YT.size=3 from rfl]at HEl HPut;have q0:=HEl.out.at (j:=0) rfl;have z0:=HEl.out.frozen (off+i*3);have q1:=HEl.out.at (j:=1) rfl;have z1:=HEl.out.frozen (off+i*3+1);have q2:=HEl.out.at (j:=2) rfl;have z2:=HEl.out.frozen (off+i*3+2);simp only[A0]at q0;have ad:(0:Int)<=0:=by omega
   have mono_x_pattern_args:=Yc (U+1+1) x.pattern.args;go_wp2_with fail
   refine (ZK _ _ yE yE).mono ?_;rintro e w1 ⟨rfl,v⟩;have HEl:=yS ((HEl.out.set 0 yE (.int .i64 (U))).later v);have G1:=yS ((G1.out.setFar (p:=⟨b,off+i*3+0,none⟩) u.out (.int .i64 (U))).later v);clear v;clear q0 z0 q1 z1 q2 z2;have q0:=HEl.out.at (j:=0) rfl;have z0:=HEl.out.frozen (off+i*3);have q1:=HEl.out.at (j:=1) rfl;have z1:=HEl.out.frozen (off+i*3+1);have q2:=HEl.out.at (j:=2) rfl;have z2:=HEl.out.frozen (off+i*3+2);simp only[A0]at q0;go_wp2_with fail
   have G1:=yS (G1.out.setFar (p:=⟨b,off+i*3+1,none⟩) u.out (.string (mTx (U+1))));refine (QV A1 _ V x.pattern.args L1 base _ _ rfl yE yE G1.out).mono ?_;rintro e w2 ⟨rfl,g2,J⟩;have HEl:=yS ((HEl.out.set 1 yE (.string (mTx (U+1)))).marked J T.out u.out);have G1:=yS g2;clear g2 J;clear q0 z0 q1 z1 q2 z2;have q0:=HEl.out.at (j:=0) rfl;have z0:=HEl.out.frozen (off+i*3);have q1:=HEl.out.at (j:=1) rfl;have z1:=HEl.out.frozen (off+i*3+1);have q2:=HEl.out.at (j:=2) rfl;have z2:=HEl.out.frozen (off+i*3+2);simp only[A0]at q0;obtain ⟨K,M,N⟩:=ZH G1.out.rep;have O:=yS (Xa HOwn.out HEl.out.plain HEl.out.only (fun y m=>by (try simp only[AG]at m)<;>(exact G1.out.own.plain y m)))
   have HGn:=yS (HPut.out _ _ (Zen U x) HEl.out.only HEl.out.cells HEl.out.rest ⟨A1,V,L1,by simp [Zen,YY],rfl,QI _ yE,K,M,N⟩ O.out);have HOn:=yS (HO.out.trans (HEl.out.only.mono (fun y m=>by rcases AJ.1 m with rfl|m;exact R;exact HLk.out y m)));rw [I.out]at HGn;try simp only[A0]at HGn HOn
   clear HEl O HPut G1 K M N;go_wp2_with fail
   go_roundw
   case rel=>exact ⟨i+1,Yn U x,_,yE,by go_num,rfl,by unfold Yn;omega,HDn,HGn,HOn⟩
   case measure=>simp [intOf];omega
  .obtain rfl:i=n:=by omega
   have e:Hid (ds.drop i=[]):=AE (by have:=HN.out;omega);have hf:Hid (Yg k ds=U/\D=YZ k ds):=by
    obtain ⟨h1,h2,W⟩:=HD.out;rw [e.out]at W h1;simp [YZ]at W;exact ⟨h1.symm,W⟩
   rw [e.out,AK]at HG;go_wp2;go_ret;exact ⟨ZQ hf.out.1.symm,by rw [<-hf.out.2];exact HG.out,HO.out⟩
theorem ZpV (A:Option Addr) (n c:Nat) (ds:List Zq) (L:List Nat) (base:Nat) (k:Int) (w:World) (hn:n=ds.length) (hm:n<=9223372036854775807) (W:1<=k) (G:Zw k ds<=4611686018427387904) (h:Got (Zz X6) base [.slice A n c] ds L w):
  Calls prog 39 #[.slice A n c,.int .i64 k] w fun e w'=>e=.returned (.int .i64 (Zw k ds))/\Got (Zz X6) base [.slice A n c] (XJ k ds) L w'/\Y1 L w w':=by
 have H:=yS h;have HN:=yS hn;have HK:=yS G;clear h hn G;go_enter func39,ntmps39;go_wp2;go_loopw [1,5] (fun q j wr=>∃(i:Nat) (kk:Int) (D:List Zq),i<=n/\j=.int .i64 i/\q=.int .i64 kk/\1<=kk/\Hid (Zw kk (ds.drop i)=Zw k ds/\D.length=i/\D++XJ kk (ds.drop i)=XJ k ds)/\Hid (Got (Zz X6) base [.slice A n c] (D++ds.drop i) L wr)/\Hid (Y1 L w wr)) (fun _ j _=>n - (intOf j).toNat)
 case atStart=>exact ⟨0,k,[],AD _,rfl,rfl,W,⟨rfl,rfl,rfl⟩,H.out,Y1.refl _ _⟩
 case round=>
  obtain ⟨i,kk,D,hi,rfl,rfl,h1,HD,HG,HO⟩:=hrel;by_cases ad:i<n
  .have ae:i<ds.length:=by have:=HN.out;omega
   obtain ⟨o,v,I⟩:=HD.out;have X:i<(D++ds.drop i).length:=by simp;omega
   obtain ⟨b,off,cs,Lk,rfl,Y,J,a,g,f,u⟩:=HG.out.focus X;have d:Hid (ds.drop i=ds[i]::ds.drop (i+1)):=A6 _;have K:(D++ds.drop i)[i]=ds[i]:=by
    rw [AM yE];simp [v]
   rw [K]at g;clear K;generalize ds[i]=x at g d
   have Z:Hid (Y9 kk x<=4611686018427387904):=by
    have:=Zc4 (Y9 kk x) (ds.drop (i+1));rw [d.out]at o;have hk:=HK.out;rw [<-o]at hk;exact AF this hk
   have M:=Z.out;have N:=Zjq kk x;unfold Y9 at M N;have HDn:Hid (Zw (Y9 kk x) (ds.drop (i+1))=Zw k ds/\(D++[ZhQ kk x]).length=i+1/\(D++[ZhQ kk x])++XJ (Y9 kk x) (ds.drop (i+1))=XJ k ds):=by
    refine ⟨by rw [<-o,d.out];rfl,by simp [v],?_⟩;rw [<-I,d.out];simp [XJ]
   have O:Hid ((D++ds.drop i).set i (ZhQ kk x)=(D++[ZhQ kk x])++ds.drop (i+1)):=by
    rw [Hid,AH _ _ yE,show i - D.length=0 by omega,d.out,AI];simp
   obtain ⟨A1,c1,L1,A2,c2,L2,rfl,aa,t0,n1,m1,s1,n2,m2,s2⟩:=g;unfold maxLen at m1 m2;subst aa;have HEl:=yS (Zci.start (m:=4) f rfl a);have hbn:=yS a.head;have G1:Hid (Got (Zz X8) base [.slice A1 x.cond.length c1] x.cond L1 wr):=⟨⟨A1,c1,rfl,n1,(by unfold maxLen;omega),s1⟩,a.tail.left⟩
   have z:Hid (b∉L1):=fun m=>a.head (by simp [m]);have ab:Hid (∀y∈L1,y∈L1++L2):=fun y m=>by simp [m]
   have l:Hid (∀y∈L1,y∉L2):=fun y m m'=>a.tail.apart y m (by simp [m']);have B:Hid (∀y∈L2,y∉L1):=fun y m m'=>l.out y m' m;have G2:Hid (Got (Zz YT) base [.slice A2 x.thn.length c2] x.thn L2 wr):=⟨⟨A2,c2,rfl,n2,(by unfold maxLen;omega),s2⟩,a.tail.right⟩
   have C:Hid (b∉L2):=fun m=>a.head (by simp [m]);have ac:Hid (∀y∈L2,y∈L1++L2):=fun y m=>by simp [m]
   clear s1;clear s2;have HPut:=yS u;have HOwn:=yS a;have HLk:=yS J;clear u a J f o v I;simp only[show X6.size=4 from rfl]at HEl HPut;have q0:=HEl.out.at (j:=0) rfl;have z0:=HEl.out.frozen (off+i*4);have q1:=HEl.out.at (j:=1) rfl;have z1:=HEl.out.frozen (off+i*4+1);have q2:=HEl.out.at (j:=2) rfl;have z2:=HEl.out.frozen (off+i*4+2);have q3:=HEl.out.at (j:=3) rfl;have z3:=HEl.out.frozen (off+i*4+3);simp only[A0]at q0;have af:(0:Int)<=0:=by omega
   have mono_x_cond:=Zdp (kk+1+1) x.cond;have mono_x_thn:=ZbC (Yh (kk+1+1) x.cond) x.thn;go_wp2_with fail
   refine (ZK _ _ yE yE).mono ?_;rintro e w1 ⟨rfl,t⟩;have HEl:=yS (HEl.out.later t);have G1:=yS (G1.out.later t);have G2:=yS (G2.out.later t);clear t;clear q0 z0 q1 z1 q2 z2 q3 z3;have q0:=HEl.out.at (j:=0) rfl;have z0:=HEl.out.frozen (off+i*4);have q1:=HEl.out.at (j:=1) rfl;have z1:=HEl.out.frozen (off+i*4+1);have q2:=HEl.out.at (j:=2) rfl;have z2:=HEl.out.frozen (off+i*4+2);have q3:=HEl.out.at (j:=3) rfl;have z3:=HEl.out.frozen (off+i*4+3);simp only[A0]at q0;go_wp2_with fail
   have G1:=yS ((G1.out.setFar (p:=⟨b,off+i*4+0,none⟩) z.out (.string (mTx (kk)))).setFar (p:=⟨b,off+i*4+1,none⟩) z.out (.int .i64 (kk+1)));refine (Zqg A1 _ c1 x.cond L1 base _ _ rfl yE yE yE G1.out).mono ?_;rintro e w2 ⟨rfl,g2,E⟩;have HEl:=yS (((HEl.out.set 0 yE (.string (mTx (kk)))).set 1 yE (.int .i64 (kk+1))).marked E ab.out z.out);have G1:=yS g2;have G2:=yS (((G2.out.setFar (p:=⟨b,off+i*4+0,none⟩) C.out (.string (mTx (kk)))).setFar (p:=⟨b,off+i*4+1,none⟩) C.out (.int .i64 (kk+1))).only E B.out);clear g2 E;clear q0 z0 q1 z1 q2 z2 q3 z3;have q0:=HEl.out.at (j:=0) rfl;have z0:=HEl.out.frozen (off+i*4);have q1:=HEl.out.at (j:=1) rfl;have z1:=HEl.out.frozen (off+i*4+1);have q2:=HEl.out.at (j:=2) rfl;have z2:=HEl.out.frozen (off+i*4+2);have q3:=HEl.out.at (j:=3) rfl;have z3:=HEl.out.frozen (off+i*4+3);simp only[A0]at q0;go_wp2_with fail
   refine (ZnE A2 _ c2 x.thn L2 base _ _ rfl yE yE yE G2.out).mono ?_;rintro e w3 ⟨rfl,g3,F⟩;have HEl:=yS (HEl.out.marked F ac.out C.out);have G1:=yS (G1.out.only F l.out);have G2:=yS g3;clear g3 F;clear q0 z0 q1 z1 q2 z2 q3 z3;have q0:=HEl.out.at (j:=0) rfl;have z0:=HEl.out.frozen (off+i*4);have q1:=HEl.out.at (j:=1) rfl;have z1:=HEl.out.frozen (off+i*4+1);have q2:=HEl.out.at (j:=2) rfl;have z2:=HEl.out.frozen (off+i*4+2);have q3:=HEl.out.at (j:=3) rfl;have z3:=HEl.out.frozen (off+i*4+3);simp only[A0]at q0;obtain ⟨P,Q,R⟩:=ZH G1.out.rep;obtain ⟨S,T,U⟩:=ZH G2.out.rep;have V:=yS (Xa HOwn.out HEl.out.plain HEl.out.only (fun y m=>by (try simp only[AG]at m)<;>(rcases m with m|m<;>first|exact G1.out.own.plain y m|exact G2.out.own.plain y m)))
   have HGn:=yS (HPut.out _ _ (ZhQ kk x) HEl.out.only HEl.out.cells HEl.out.rest ⟨A1,c1,L1,A2,c2,L2,by simp [ZhQ,Zih,ZgF],rfl,QI _ yE,P,Q,R,S,T,U⟩ V.out);have HOn:=yS (HO.out.trans (HEl.out.only.mono (fun y m=>by rcases AJ.1 m with rfl|m;exact Y;exact HLk.out y m)));rw [O.out]at HGn;try simp only[A0]at HGn HOn
   clear HEl V HPut G1 G2 P S Q T R U;go_wp2_with fail
   go_roundw
   case rel=>exact ⟨i+1,Y9 kk x,_,yE,by go_num,rfl,by unfold Y9;omega,HDn,HGn,HOn⟩
   case measure=>simp [intOf];omega
  .obtain rfl:i=n:=by omega
   have e:Hid (ds.drop i=[]):=AE (by have:=HN.out;omega);have hf:Hid (Zw k ds=kk/\D=XJ k ds):=by
    obtain ⟨h1,h2,h3⟩:=HD.out;rw [e.out]at h3 h1;simp [XJ]at h3;exact ⟨h1.symm,h3⟩
   rw [e.out,AK]at HG;go_wp2;go_ret;exact ⟨ZQ hf.out.1.symm,by rw [<-hf.out.2];exact HG.out,HO.out⟩
theorem ZoK (A:Option Addr) (n c:Nat) (ds:List Zi) (L:List Nat) (base:Nat) (k:Int) (w:World) (hn:n=ds.length) (hm:n<=9223372036854775807) (S:1<=k) (B:Yo k ds<=4611686018427387904) (h:Got (Zz Yt) base [.slice A n c] ds L w):
  Calls prog 84 #[.slice A n c,.int .i64 k] w fun e w'=>e=.returned (.int .i64 (Yo k ds))/\Got (Zz Yt) base [.slice A n c] (Xx k ds) L w'/\Y1 L w w':=by
 have H:=yS h;have HN:=yS hn;have HK:=yS B;clear h hn B;go_enter func84,ntmps84;go_wp2;go_loopw [1,5] (fun q j wr=>∃(i:Nat) (kk:Int) (D:List Zi),i<=n/\j=.int .i64 i/\q=.int .i64 kk/\1<=kk/\Hid (Yo kk (ds.drop i)=Yo k ds/\D.length=i/\D++Xx kk (ds.drop i)=Xx k ds)/\Hid (Got (Zz Yt) base [.slice A n c] (D++ds.drop i) L wr)/\Hid (Y1 L w wr)) (fun _ j _=>n - (intOf j).toNat)
 case atStart=>exact ⟨0,k,[],AD _,rfl,rfl,S,⟨rfl,rfl,rfl⟩,H.out,Y1.refl _ _⟩
 case round=>
  obtain ⟨i,kk,D,hi,rfl,rfl,h1,HD,HG,HO⟩:=hrel;by_cases ab:i<n
  .have ac:i<ds.length:=by have:=HN.out;omega
   obtain ⟨o,t,C⟩:=HD.out;have T:i<(D++ds.drop i).length:=by simp;omega
   obtain ⟨b,off,cs,Lk,rfl,U,E,a,g,f,p⟩:=HG.out.focus T;have d:Hid (ds.drop i=ds[i]::ds.drop (i+1)):=A6 _;have F:(D++ds.drop i)[i]=ds[i]:=by
    rw [AM yE];simp [t]
   rw [F]at g;clear F;generalize ds[i]=x at g d
   have V:Hid (YJ kk x<=4611686018427387904):=by
    have:=Zca (YJ kk x) (ds.drop (i+1));rw [d.out]at o;have hk:=HK.out;rw [<-o]at hk;exact AF this hk
   have G:=V.out;have I:=ZhH kk x;unfold YJ at G I;have HDn:Hid (Yo (YJ kk x) (ds.drop (i+1))=Yo k ds/\(D++[ZeS kk x]).length=i+1/\(D++[ZeS kk x])++Xx (YJ kk x) (ds.drop (i+1))=Xx k ds):=by
    refine ⟨by rw [<-o,d.out];rfl,by simp [t],?_⟩;rw [<-C,d.out];simp [Xx]
   have J:Hid ((D++ds.drop i).set i (ZeS kk x)=(D++[ZeS kk x])++ds.drop (i+1)):=by
    rw [Hid,AH _ _ yE,show i - D.length=0 by omega,d.out,AI];simp
   obtain ⟨A1,c1,L1,A2,c2,L2,rfl,W,n1,m1,s1,n2,m2,s2⟩:=g;unfold maxLen at m1 m2;subst W;have HEl:=yS (Zci.start (m:=2) f rfl a);have hbn:=yS a.head;have G1:Hid (Got (Zz Ys) base [.slice A1 x.facts.length c1] x.facts L1 wr):=⟨⟨A1,c1,rfl,n1,(by unfold maxLen;omega),s1⟩,a.tail.left⟩
   have X:Hid (b∉L1):=fun m=>a.head (by simp [m]);have Y:Hid (∀y∈L1,y∈L1++L2):=fun y m=>by simp [m]
   have l:Hid (∀y∈L1,y∉L2):=fun y m m'=>a.tail.apart y m (by simp [m']);have u:Hid (∀y∈L2,y∉L1):=fun y m m'=>l.out y m' m;have G2:Hid (Got (Zz XK) base [.slice A2 x.binding.length c2] x.binding L2 wr):=⟨⟨A2,c2,rfl,n2,(by unfold maxLen;omega),s2⟩,a.tail.right⟩
   have Z:Hid (b∉L2):=fun m=>a.head (by simp [m]);have aa:Hid (∀y∈L2,y∈L1++L2):=fun y m=>by simp [m]
   clear s1;clear s2;have HPut:=yS p;have HOwn:=yS a;have HLk:=yS E;clear p a E f o t C;simp only[show Yt.size=2 from rfl]at HEl HPut;have q0:=HEl.out.at (j:=0) rfl;have z0:=HEl.out.frozen (off+i*2);have q1:=HEl.out.at (j:=1) rfl;have z1:=HEl.out.frozen (off+i*2+1);simp only[A0]at q0;have ad:(0:Int)<=0:=by omega
   have mono_x_facts:=Xy (kk) x.facts;have mono_x_binding:=Zdn (Z7 (kk) x.facts) x.binding;go_wp2_with fail
   refine (ZgC A1 _ c1 x.facts L1 base _ _ rfl yE yE yE G1.out).mono ?_;rintro e w1 ⟨rfl,g1,v⟩;have HEl:=yS (HEl.out.marked v Y.out X.out);have G1:=yS g1;have G2:=yS (G2.out.only v u.out);clear g1 v;clear q0 z0 q1 z1;have q0:=HEl.out.at (j:=0) rfl;have z0:=HEl.out.frozen (off+i*2);have q1:=HEl.out.at (j:=1) rfl;have z1:=HEl.out.frozen (off+i*2+1);simp only[A0]at q0;go_wp2_with fail
   refine (Zqv A2 _ c2 x.binding L2 base _ _ rfl yE yE yE G2.out).mono ?_;rintro e w2 ⟨rfl,g2,z⟩;have HEl:=yS (HEl.out.marked z aa.out Z.out);have G1:=yS (G1.out.only z l.out);have G2:=yS g2;clear g2 z;clear q0 z0 q1 z1;have q0:=HEl.out.at (j:=0) rfl;have z0:=HEl.out.frozen (off+i*2);have q1:=HEl.out.at (j:=1) rfl;have z1:=HEl.out.frozen (off+i*2+1);simp only[A0]at q0;obtain ⟨K,M,N⟩:=ZH G1.out.rep;obtain ⟨O,P,Q⟩:=ZH G2.out.rep;have R:=yS (Xa HOwn.out HEl.out.plain HEl.out.only (fun y m=>by (try simp only[AG]at m)<;>(rcases m with m|m<;>first|exact G1.out.own.plain y m|exact G2.out.own.plain y m)))
   have HGn:=yS (HPut.out _ _ (ZeS kk x) HEl.out.only HEl.out.cells HEl.out.rest ⟨A1,c1,L1,A2,c2,L2,by simp [ZeS,Zay,Zjp],rfl,K,M,N,O,P,Q⟩ R.out);have HOn:=yS (HO.out.trans (HEl.out.only.mono (fun y m=>by rcases AJ.1 m with rfl|m;exact U;exact HLk.out y m)));rw [J.out]at HGn;try simp only[A0]at HGn HOn
   clear HEl R HPut G1 G2 K O M P N Q;go_wp2_with fail
   go_roundw
   case rel=>exact ⟨i+1,YJ kk x,_,yE,by go_num,rfl,by unfold YJ;omega,HDn,HGn,HOn⟩
   case measure=>simp [intOf];omega
  .obtain rfl:i=n:=by omega
   have e:Hid (ds.drop i=[]):=AE (by have:=HN.out;omega);have hf:Hid (Yo k ds=kk/\D=Xx k ds):=by
    obtain ⟨h1,h2,h3⟩:=HD.out;rw [e.out]at h3 h1;simp [Xx]at h3;exact ⟨h1.symm,h3⟩
   rw [e.out,AK]at HG;go_wp2;go_ret;exact ⟨ZQ hf.out.1.symm,by rw [<-hf.out.2];exact HG.out,HO.out⟩
theorem Zpr (A:Option Addr) (n c:Nat) (ds:List ZO) (L:List Nat) (base:Nat) (k:Int) (w:World) (hn:n=ds.length) (hm:n<=9223372036854775807) (W:1<=k) (E:ZF k ds<=4611686018427387904) (h:Got (Zz Xd) base [.slice A n c] ds L w):
  Calls prog 41 #[.slice A n c,.int .i64 k] w fun e w'=>e=.returned (.int .i64 (ZF k ds))/\Got (Zz Xd) base [.slice A n c] (Y3 k ds) L w'/\Y1 L w w':=by
 have H:=yS h;have HN:=yS hn;have HK:=yS E;clear h hn E;go_enter func41,ntmps41;go_wp2;go_loopw [1,5] (fun q j wr=>∃(i:Nat) (kk:Int) (D:List ZO),i<=n/\j=.int .i64 i/\q=.int .i64 kk/\1<=kk/\Hid (ZF kk (ds.drop i)=ZF k ds/\D.length=i/\D++Y3 kk (ds.drop i)=Y3 k ds)/\Hid (Got (Zz Xd) base [.slice A n c] (D++ds.drop i) L wr)/\Hid (Y1 L w wr)) (fun _ j _=>n - (intOf j).toNat)
 case atStart=>exact ⟨0,k,[],AD _,rfl,rfl,W,⟨rfl,rfl,rfl⟩,H.out,Y1.refl _ _⟩
 case round=>
  obtain ⟨i,kk,D,hi,rfl,rfl,h1,HD,HG,HO⟩:=hrel;by_cases ad:i<n
  .have ae:i<ds.length:=by have:=HN.out;omega
   obtain ⟨o,v,F⟩:=HD.out;have X:i<(D++ds.drop i).length:=by simp;omega
   obtain ⟨b,off,cs,Lk,rfl,Y,G,a,g,f,u⟩:=HG.out.focus X;have d:Hid (ds.drop i=ds[i]::ds.drop (i+1)):=A6 _;have I:(D++ds.drop i)[i]=ds[i]:=by
    rw [AM yE];simp [v]
   rw [I]at g;clear I;generalize ds[i]=x at g d
   have Z:Hid (YK kk x<=4611686018427387904):=by
    have:=Zcb (YK kk x) (ds.drop (i+1));rw [d.out]at o;have hk:=HK.out;rw [<-o]at hk;exact AF this hk
   have J:=Z.out;have K:=Zhu kk x;unfold YK at J K;have HDn:Hid (ZF (YK kk x) (ds.drop (i+1))=ZF k ds/\(D++[ZeR kk x]).length=i+1/\(D++[ZeR kk x])++Y3 (YK kk x) (ds.drop (i+1))=Y3 k ds):=by
    refine ⟨by rw [<-o,d.out];rfl,by simp [v],?_⟩;rw [<-F,d.out];simp [Y3]
   have M:Hid ((D++ds.drop i).set i (ZeR kk x)=(D++[ZeR kk x])++ds.drop (i+1)):=by
    rw [Hid,AH _ _ yE,show i - D.length=0 by omega,d.out,AI];simp
   obtain ⟨A1,c1,L1,A2,c2,L2,rfl,aa,t0,n1,m1,s1,n2,m2,s2⟩:=g;unfold maxLen at m1 m2;subst aa;have HEl:=yS (Zci.start (m:=3) f rfl a);have hbn:=yS a.head;have G1:Hid (Got (Zz ZbY) base [.slice A1 x.shape.args.length c1] x.shape.args L1 wr):=⟨⟨A1,c1,rfl,n1,(by unfold maxLen;omega),s1⟩,a.tail.left⟩
   have N:Hid (b∉L1):=fun m=>a.head (by simp [m]);have ab:Hid (∀y∈L1,y∈L1++L2):=fun y m=>by simp [m]
   have l:Hid (∀y∈L1,y∉L2):=fun y m m'=>a.tail.apart y m (by simp [m']);have z:Hid (∀y∈L2,y∉L1):=fun y m m'=>l.out y m' m;have G2:Hid (Got (Zz Ys) base [.slice A2 x.facts.length c2] x.facts L2 wr):=⟨⟨A2,c2,rfl,n2,(by unfold maxLen;omega),s2⟩,a.tail.right⟩
   have O:Hid (b∉L2):=fun m=>a.head (by simp [m]);have ac:Hid (∀y∈L2,y∈L1++L2):=fun y m=>by simp [m]
   clear s1;clear s2;have HPut:=yS u;have HOwn:=yS a;have HLk:=yS G;clear u a G f o v F;simp only[show Xd.size=3 from rfl]at HEl HPut;have q0:=HEl.out.at (j:=0) rfl;have z0:=HEl.out.frozen (off+i*3);have q1:=HEl.out.at (j:=1) rfl;have z1:=HEl.out.frozen (off+i*3+1);have q2:=HEl.out.at (j:=2) rfl;have z2:=HEl.out.frozen (off+i*3+2);simp only[A0]at q0;have af:(0:Int)<=0:=by omega
   have mono_x_shape_args:=Yc (kk+1) x.shape.args;have mono_x_facts:=Xy (Zg (kk+1) x.shape.args) x.facts;go_wp2_with fail
   refine (ZK _ _ yE yE).mono ?_;rintro e w1 ⟨rfl,t⟩;have HEl:=yS (HEl.out.later t);have G1:=yS (G1.out.later t);have G2:=yS (G2.out.later t);clear t;clear q0 z0 q1 z1 q2 z2;have q0:=HEl.out.at (j:=0) rfl;have z0:=HEl.out.frozen (off+i*3);have q1:=HEl.out.at (j:=1) rfl;have z1:=HEl.out.frozen (off+i*3+1);have q2:=HEl.out.at (j:=2) rfl;have z2:=HEl.out.frozen (off+i*3+2);simp only[A0]at q0;go_wp2_with fail
   have G1:=yS (G1.out.setFar (p:=⟨b,off+i*3+0,none⟩) N.out (.string (mTx (kk))));refine (QV A1 _ c1 x.shape.args L1 base _ _ rfl yE yE G1.out).mono ?_;rintro e w2 ⟨rfl,g2,B⟩;have HEl:=yS ((HEl.out.set 0 yE (.string (mTx (kk)))).marked B ab.out N.out);have G1:=yS g2;have G2:=yS ((G2.out.setFar (p:=⟨b,off+i*3+0,none⟩) O.out (.string (mTx (kk)))).only B z.out);clear g2 B;clear q0 z0 q1 z1 q2 z2;have q0:=HEl.out.at (j:=0) rfl;have z0:=HEl.out.frozen (off+i*3);have q1:=HEl.out.at (j:=1) rfl;have z1:=HEl.out.frozen (off+i*3+1);have q2:=HEl.out.at (j:=2) rfl;have z2:=HEl.out.frozen (off+i*3+2);simp only[A0]at q0;go_wp2_with fail
   refine (ZgC A2 _ c2 x.facts L2 base _ _ rfl yE yE yE G2.out).mono ?_;rintro e w3 ⟨rfl,g3,C⟩;have HEl:=yS (HEl.out.marked C ac.out O.out);have G1:=yS (G1.out.only C l.out);have G2:=yS g3;clear g3 C;clear q0 z0 q1 z1 q2 z2;have q0:=HEl.out.at (j:=0) rfl;have z0:=HEl.out.frozen (off+i*3);have q1:=HEl.out.at (j:=1) rfl;have z1:=HEl.out.frozen (off+i*3+1);have q2:=HEl.out.at (j:=2) rfl;have z2:=HEl.out.frozen (off+i*3+2);simp only[A0]at q0;obtain ⟨P,Q,R⟩:=ZH G1.out.rep;obtain ⟨S,T,U⟩:=ZH G2.out.rep;have V:=yS (Xa HOwn.out HEl.out.plain HEl.out.only (fun y m=>by (try simp only[AG]at m)<;>(rcases m with m|m<;>first|exact G1.out.own.plain y m|exact G2.out.own.plain y m)))
   have HGn:=yS (HPut.out _ _ (ZeR kk x) HEl.out.only HEl.out.cells HEl.out.rest ⟨A1,c1,L1,A2,c2,L2,by simp [ZeR,YY,Zay],rfl,QI _ yE,P,Q,R,S,T,U⟩ V.out);have HOn:=yS (HO.out.trans (HEl.out.only.mono (fun y m=>by rcases AJ.1 m with rfl|m;exact Y;exact HLk.out y m)));rw [M.out]at HGn;try simp only[A0]at HGn HOn
   clear HEl V HPut G1 G2 P S Q T R U;go_wp2_with fail
   go_roundw
   case rel=>exact ⟨i+1,YK kk x,_,yE,by go_num,rfl,by unfold YK;omega,HDn,HGn,HOn⟩
   case measure=>simp [intOf];omega
  .obtain rfl:i=n:=by omega
   have e:Hid (ds.drop i=[]):=AE (by have:=HN.out;omega);have hf:Hid (ZF k ds=kk/\D=Y3 k ds):=by
    obtain ⟨h1,h2,h3⟩:=HD.out;rw [e.out]at h3 h1;simp [Y3]at h3;exact ⟨h1.symm,h3⟩
   rw [e.out,AK]at HG;go_wp2;go_ret;exact ⟨ZQ hf.out.1.symm,by rw [<-hf.out.2];exact HG.out,HO.out⟩
theorem Zqu (A:Option Addr) (n c:Nat) (ds:List ZA) (L:List Nat) (base:Nat) (k:Int) (w:World) (hn:n=ds.length) (hm:n<=9223372036854775807) (Y:1<=k) (J:Yb k ds<=4611686018427387904) (h:Got (Zz QC) base [.slice A n c] ds L w):
  Calls prog 42 #[.slice A n c,.int .i64 k] w fun e w'=>e=.returned (.int .i64 (Yb k ds))/\Got (Zz QC) base [.slice A n c] (XI k ds) L w'/\Y1 L w w':=by
 have H:=yS h;have HN:=yS hn;have HK:=yS J;clear h hn J;go_enter func42,ntmps42;go_wp2;go_loopw [1,5] (fun q j wr=>∃(i:Nat) (kk:Int) (D:List ZA),i<=n/\j=.int .i64 i/\q=.int .i64 kk/\1<=kk/\Hid (Yb kk (ds.drop i)=Yb k ds/\D.length=i/\D++XI kk (ds.drop i)=XI k ds)/\Hid (Got (Zz QC) base [.slice A n c] (D++ds.drop i) L wr)/\Hid (Y1 L w wr)) (fun _ j _=>n - (intOf j).toNat)
 case atStart=>exact ⟨0,k,[],AD _,rfl,rfl,Y,⟨rfl,rfl,rfl⟩,H.out,Y1.refl _ _⟩
 case round=>
  obtain ⟨i,kk,D,hi,rfl,rfl,h1,HD,HG,HO⟩:=hrel;by_cases af:i<n
  .have ag:i<ds.length:=by have:=HN.out;omega
   obtain ⟨u,E,K⟩:=HD.out;have Z:i<(D++ds.drop i).length:=by simp;omega
   obtain ⟨b,off,cs,Lk,rfl,aa,M,a,o,l,C⟩:=HG.out.focus Z;have d:Hid (ds.drop i=ds[i]::ds.drop (i+1)):=A6 _;have N:(D++ds.drop i)[i]=ds[i]:=by
    rw [AM yE];simp [E]
   rw [N]at o;clear N;generalize ds[i]=x at o d
   have ab:Hid (Xf kk x<=4611686018427387904):=by
    have:=Zc5 (Xf kk x) (ds.drop (i+1));rw [d.out]at u;have hk:=HK.out;rw [<-u]at hk;exact AF this hk
   have O:=ab.out;have P:=ZiJ kk x;unfold Xf at O P;have HDn:Hid (Yb (Xf kk x) (ds.drop (i+1))=Yb k ds/\(D++[Zho kk x]).length=i+1/\(D++[Zho kk x])++XI (Xf kk x) (ds.drop (i+1))=XI k ds):=by
    refine ⟨by rw [<-u,d.out];rfl,by simp [E],?_⟩;rw [<-K,d.out];simp [XI]
   have Q:Hid ((D++ds.drop i).set i (Zho kk x)=(D++[Zho kk x])++ds.drop (i+1)):=by
    rw [Hid,AH _ _ yE,show i - D.length=0 by omega,d.out,AI];simp
   obtain ⟨A1,c1,L1,A2,c2,L2,rfl,ac,t0,t1,t2,n1,m1,s1,n2,m2,s2⟩:=o;unfold maxLen at m1 m2;subst ac;have HEl:=yS (Zci.start (m:=8) l rfl a);have hbn:=yS a.head;have G1:Hid (Got (Zz ZbY) base [.slice A1 x.cond.pattern.args.length c1] x.cond.pattern.args L1 wr):=⟨⟨A1,c1,rfl,n1,(by unfold maxLen;omega),s1⟩,a.tail.left⟩
   have f:Hid (b∉L1):=fun m=>a.head (by simp [m]);have ad:Hid (∀y∈L1,y∈L1++L2):=fun y m=>by simp [m]
   have t:Hid (∀y∈L1,y∉L2):=fun y m m'=>a.tail.apart y m (by simp [m']);have F:Hid (∀y∈L2,y∉L1):=fun y m m'=>t.out y m' m;have G2:Hid (Got (Zz Yt) base [.slice A2 x.tokens.length c2] x.tokens L2 wr):=⟨⟨A2,c2,rfl,n2,(by unfold maxLen;omega),s2⟩,a.tail.right⟩
   have g:Hid (b∉L2):=fun m=>a.head (by simp [m]);have ae:Hid (∀y∈L2,y∈L1++L2):=fun y m=>by simp [m]
   clear s1;clear s2;have HPut:=yS C;have HOwn:=yS a;have HLk:=yS M;clear C a M l u E K;simp only[show QC.size=8 from rfl]at HEl HPut;have q0:=HEl.out.at (j:=0) rfl;have z0:=HEl.out.frozen (off+i*8);have q1:=HEl.out.at (j:=1) rfl;have z1:=HEl.out.frozen (off+i*8+1);have q2:=HEl.out.at (j:=2) rfl;have z2:=HEl.out.frozen (off+i*8+2);have q3:=HEl.out.at (j:=3) rfl;have z3:=HEl.out.frozen (off+i*8+3);have q4:=HEl.out.at (j:=4) rfl;have z4:=HEl.out.frozen (off+i*8+4);have q5:=HEl.out.at (j:=5) rfl;have z5:=HEl.out.frozen (off+i*8+5);have q6:=HEl.out.at (j:=6) rfl;have z6:=HEl.out.frozen (off+i*8+6);have q7:=HEl.out.at (j:=7) rfl;have z7:=HEl.out.frozen (off+i*8+7);simp only[A0]at q0;have ah:(0:Int)<=0:=by omega
   have mono_x_cond_pattern_args:=Yc (kk+1+1+1) x.cond.pattern.args;have mono_x_tokens:=Zca (Zg (kk+1+1+1) x.cond.pattern.args+1+1+1) x.tokens;go_wp2_with fail
   refine (ZK _ _ yE yE).mono ?_;rintro e w1 ⟨rfl,v⟩;have HEl:=yS (((HEl.out.set 0 yE (.int .i64 (kk))).set 1 yE (.int .i64 (kk+1))).later v);have G1:=yS (((G1.out.setFar (p:=⟨b,off+i*8+0,none⟩) f.out (.int .i64 (kk))).setFar (p:=⟨b,off+i*8+1,none⟩) f.out (.int .i64 (kk+1))).later v);have G2:=yS (((G2.out.setFar (p:=⟨b,off+i*8+0,none⟩) g.out (.int .i64 (kk))).setFar (p:=⟨b,off+i*8+1,none⟩) g.out (.int .i64 (kk+1))).later v);clear v;clear q0 z0 q1 z1 q2 z2 q3 z3 q4 z4 q5 z5 q6 z6 q7 z7;have q0:=HEl.out.at (j:=0) rfl;have z0:=HEl.out.frozen (off+i*8);have q1:=HEl.out.at (j:=1) rfl;have z1:=HEl.out.frozen (off+i*8+1);have q2:=HEl.out.at (j:=2) rfl;have z2:=HEl.out.frozen (off+i*8+2);have q3:=HEl.out.at (j:=3) rfl;have z3:=HEl.out.frozen (off+i*8+3);have q4:=HEl.out.at (j:=4) rfl;have z4:=HEl.out.frozen (off+i*8+4);have q5:=HEl.out.at (j:=5) rfl;have z5:=HEl.out.frozen (off+i*8+5)
   have q6:=HEl.out.at (j:=6) rfl;have z6:=HEl.out.frozen (off+i*8+6);have q7:=HEl.out.at (j:=7) rfl;have z7:=HEl.out.frozen (off+i*8+7);simp only[A0]at q0;go_wp2_with fail
   have G1:=yS (G1.out.setFar (p:=⟨b,off+i*8+2,none⟩) f.out (.string (mTx (kk+1+1))));refine (QV A1 _ c1 x.cond.pattern.args L1 base _ _ rfl yE yE G1.out).mono ?_;rintro e w2 ⟨rfl,g2,G⟩;have HEl:=yS ((HEl.out.set 2 yE (.string (mTx (kk+1+1)))).marked G ad.out f.out);have G1:=yS g2;have G2:=yS ((G2.out.setFar (p:=⟨b,off+i*8+2,none⟩) g.out (.string (mTx (kk+1+1)))).only G F.out);clear g2 G;clear q0 z0 q1 z1 q2 z2 q3 z3 q4 z4 q5 z5 q6 z6 q7 z7;have q0:=HEl.out.at (j:=0) rfl;have z0:=HEl.out.frozen (off+i*8);have q1:=HEl.out.at (j:=1) rfl;have z1:=HEl.out.frozen (off+i*8+1);have q2:=HEl.out.at (j:=2) rfl;have z2:=HEl.out.frozen (off+i*8+2);have q3:=HEl.out.at (j:=3) rfl;have z3:=HEl.out.frozen (off+i*8+3);have q4:=HEl.out.at (j:=4) rfl;have z4:=HEl.out.frozen (off+i*8+4);have q5:=HEl.out.at (j:=5) rfl;have z5:=HEl.out.frozen (off+i*8+5);have q6:=HEl.out.at (j:=6) rfl
   have z6:=HEl.out.frozen (off+i*8+6);have q7:=HEl.out.at (j:=7) rfl;have z7:=HEl.out.frozen (off+i*8+7);simp only[A0]at q0;go_wp2_with fail
   refine (ZK _ _ yE yE).mono ?_;rintro e w3 ⟨rfl,z⟩;have HEl:=yS (HEl.out.later z);have G1:=yS (G1.out.later z);have G2:=yS (G2.out.later z);clear z;clear q0 z0 q1 z1 q2 z2 q3 z3 q4 z4 q5 z5 q6 z6 q7 z7;have q0:=HEl.out.at (j:=0) rfl;have z0:=HEl.out.frozen (off+i*8);have q1:=HEl.out.at (j:=1) rfl;have z1:=HEl.out.frozen (off+i*8+1);have q2:=HEl.out.at (j:=2) rfl;have z2:=HEl.out.frozen (off+i*8+2);have q3:=HEl.out.at (j:=3) rfl;have z3:=HEl.out.frozen (off+i*8+3);have q4:=HEl.out.at (j:=4) rfl;have z4:=HEl.out.frozen (off+i*8+4);have q5:=HEl.out.at (j:=5) rfl;have z5:=HEl.out.frozen (off+i*8+5);have q6:=HEl.out.at (j:=6) rfl;have z6:=HEl.out.frozen (off+i*8+6);have q7:=HEl.out.at (j:=7) rfl;have z7:=HEl.out.frozen (off+i*8+7);simp only[A0]at q0;go_wp2_with fail
   refine (ZK _ _ yE yE).mono ?_;rintro e w4 ⟨rfl,B⟩;have HEl:=yS ((HEl.out.set 4 yE (.string (mTx (Zg (kk+1+1+1) x.cond.pattern.args)))).later B);have G1:=yS ((G1.out.setFar (p:=⟨b,off+i*8+4,none⟩) f.out (.string (mTx (Zg (kk+1+1+1) x.cond.pattern.args)))).later B);have G2:=yS ((G2.out.setFar (p:=⟨b,off+i*8+4,none⟩) g.out (.string (mTx (Zg (kk+1+1+1) x.cond.pattern.args)))).later B);clear B;clear q0 z0 q1 z1 q2 z2 q3 z3 q4 z4 q5 z5 q6 z6 q7 z7;have q0:=HEl.out.at (j:=0) rfl;have z0:=HEl.out.frozen (off+i*8);have q1:=HEl.out.at (j:=1) rfl;have z1:=HEl.out.frozen (off+i*8+1);have q2:=HEl.out.at (j:=2) rfl;have z2:=HEl.out.frozen (off+i*8+2);have q3:=HEl.out.at (j:=3) rfl;have z3:=HEl.out.frozen (off+i*8+3);have q4:=HEl.out.at (j:=4) rfl;have z4:=HEl.out.frozen (off+i*8+4);have q5:=HEl.out.at (j:=5) rfl;have z5:=HEl.out.frozen (off+i*8+5);have q6:=HEl.out.at (j:=6) rfl
   have z6:=HEl.out.frozen (off+i*8+6);have q7:=HEl.out.at (j:=7) rfl;have z7:=HEl.out.frozen (off+i*8+7);simp only[A0]at q0;go_wp2_with fail
   have G2:=yS ((G2.out.setFar (p:=⟨b,off+i*8+5,none⟩) g.out (.string (mTx (Zg (kk+1+1+1) x.cond.pattern.args+1)))).setFar (p:=⟨b,off+i*8+6,none⟩) g.out (.int .i64 (Zg (kk+1+1+1) x.cond.pattern.args+1+1)));refine (ZoK A2 _ c2 x.tokens L2 base _ _ rfl yE yE yE G2.out).mono ?_;rintro e w5 ⟨rfl,g5,I⟩;have HEl:=yS (((HEl.out.set 5 yE (.string (mTx (Zg (kk+1+1+1) x.cond.pattern.args+1)))).set 6 yE (.int .i64 (Zg (kk+1+1+1) x.cond.pattern.args+1+1))).marked I ae.out g.out);have G1:=yS (((G1.out.setFar (p:=⟨b,off+i*8+5,none⟩) f.out (.string (mTx (Zg (kk+1+1+1) x.cond.pattern.args+1)))).setFar (p:=⟨b,off+i*8+6,none⟩) f.out (.int .i64 (Zg (kk+1+1+1) x.cond.pattern.args+1+1))).only I t.out);have G2:=yS g5;clear g5 I;clear q0 z0 q1 z1 q2 z2 q3 z3 q4 z4 q5 z5 q6 z6 q7 z7;have q0:=HEl.out.at (j:=0) rfl;have z0:=HEl.out.frozen (off+i*8);have q1:=HEl.out.at (j:=1) rfl
   have z1:=HEl.out.frozen (off+i*8+1);have q2:=HEl.out.at (j:=2) rfl;have z2:=HEl.out.frozen (off+i*8+2);have q3:=HEl.out.at (j:=3) rfl;have z3:=HEl.out.frozen (off+i*8+3);have q4:=HEl.out.at (j:=4) rfl;have z4:=HEl.out.frozen (off+i*8+4);have q5:=HEl.out.at (j:=5) rfl;have z5:=HEl.out.frozen (off+i*8+5);have q6:=HEl.out.at (j:=6) rfl;have z6:=HEl.out.frozen (off+i*8+6);have q7:=HEl.out.at (j:=7) rfl;have z7:=HEl.out.frozen (off+i*8+7);simp only[A0]at q0;obtain ⟨R,S,T⟩:=ZH G1.out.rep;obtain ⟨U,V,W⟩:=ZH G2.out.rep;have X:=yS (Xa HOwn.out HEl.out.plain HEl.out.only (fun y m=>by (try simp only[AG]at m)<;>(rcases m with m|m<;>first|exact G1.out.own.plain y m|exact G2.out.own.plain y m)))
   have HGn:=yS (HPut.out _ _ (Zho kk x) HEl.out.only HEl.out.cells HEl.out.rest ⟨A1,c1,L1,A2,c2,L2,by simp [Zho,YY,ZhI],rfl,QI _ yE,QI _ yE,QI _ yE,R,S,T,U,V,W⟩ X.out);have HOn:=yS (HO.out.trans (HEl.out.only.mono (fun y m=>by rcases AJ.1 m with rfl|m;exact aa;exact HLk.out y m)));rw [Q.out]at HGn;try simp only[A0]at HGn HOn
   clear HEl X HPut G1 G2 R U S V T W;go_wp2_with fail
   go_roundw
   case rel=>exact ⟨i+1,Xf kk x,_,yE,by go_num,rfl,by unfold Xf;omega,HDn,HGn,HOn⟩
   case measure=>simp [intOf];omega
  .obtain rfl:i=n:=by omega
   have e:Hid (ds.drop i=[]):=AE (by have:=HN.out;omega);have hf:Hid (Yb k ds=kk/\D=XI k ds):=by
    obtain ⟨h1,h2,h3⟩:=HD.out;rw [e.out]at h3 h1;simp [XI]at h3;exact ⟨h1.symm,h3⟩
   rw [e.out,AK]at HG;go_wp2;go_ret;exact ⟨ZQ hf.out.1.symm,by rw [<-hf.out.2];exact HG.out,HO.out⟩
def ZhY (k:Int) (x:Zc):Zc:=⟨XJ (k) x.rules,QR (Zw (k) x.rules) x.ends,Y3 (ZU (Zw (k) x.rules) x.ends) x.alphas,XI (ZF (ZU (Zw (k) x.rules) x.ends) x.alphas) x.nodes,Xr (Yb (ZF (ZU (Zw (k) x.rules) x.ends) x.alphas) x.nodes) x.facts,x.tries⟩
def ZS (k:Int) (x:Zc):Int:=Z7 (Yb (ZF (ZU (Zw (k) x.rules) x.ends) x.alphas) x.nodes) x.facts
theorem Zh3 (k:Int) (x:Zc):k<=ZS k x:=by
 unfold ZS;have:=Zc4 (k) x.rules;have:=ZjH (Zw (k) x.rules) x.ends;have:=Zcb (ZU (Zw (k) x.rules) x.ends) x.alphas;have:=Zc5 (ZF (ZU (Zw (k) x.rules) x.ends) x.alphas) x.nodes;have:=Xy (Yb (ZF (ZU (Zw (k) x.rules) x.ends) x.alphas) x.nodes) x.facts;omega
theorem Zh6 (k:Int) (x:Zc):ZS k x<=k+16*ZZ x:=by
 unfold ZS;have:=ZsE (k) x.rules;have:=Zum (Zw (k) x.rules) x.ends;have:=Zqd (ZU (Zw (k) x.rules) x.ends) x.alphas;have:=ZrO (ZF (ZU (Zw (k) x.rules) x.ends) x.alphas) x.nodes;have:=Zhm (Yb (ZF (ZU (Zw (k) x.rules) x.ends) x.alphas) x.nodes) x.facts;simp only[ZZ];omega
theorem Zo3 (x:Zc) (A1:Option Addr) (c1:Nat) (L1:List Nat) (A2:Option Addr) (c2:Nat) (L2:List Nat) (A3:Option Addr) (c3:Nat) (L3:List Nat) (A4:Option Addr) (c4:Nat) (L4:List Nat) (A5:Option Addr) (c5:Nat) (L5:List Nat) (base:Nat) (k:Int) (w:World) (aa:1<=k) (T:ZS k x<=4611686018427387904) (l1:x.rules.length<=9223372036854775807) (l2:x.ends.length<=9223372036854775807) (l3:x.alphas.length<=9223372036854775807) (l4:x.nodes.length<=9223372036854775807) (l5:x.facts.length<=9223372036854775807) (g1:Got (Zz X6) base [.slice A1 x.rules.length c1] (x.rules) L1 w) (g2:Got (Zz ZeD) base [.slice A2 x.ends.length c2] (x.ends) L2 w) (g3:Got (Zz Xd) base [.slice A3 x.alphas.length c3] (x.alphas) L3 w) (g4:Got (Zz QC) base [.slice A4 x.nodes.length c4] (x.nodes) L4 w) (g5:Got (Zz Ys) base [.slice A5 x.facts.length c5] (x.facts) L5 w) (g:∀y∈L1,y∉L2) (i:∀y∈L1,y∉L3) (j:∀y∈L1,y∉L4) (l:∀y∈L1,y∉L5) (o:∀y∈L2,y∉L3) (p:∀y∈L2,y∉L4) (q:∀y∈L2,y∉L5) (t:∀y∈L3,y∉L4) (u:∀y∈L3,y∉L5) (v:∀y∈L4,y∉L5):
  Calls prog 12 #[.agg #[.slice A1 x.rules.length c1,.slice A2 x.ends.length c2,.slice A3 x.alphas.length c3,.slice A4 x.nodes.length c4,.slice A5 x.facts.length c5,.int .i64 x.tries],.int .i64 k] w fun e w'=>e=.returned (.int .i64 (ZS k x))/\Got (Zz X6) base [.slice A1 x.rules.length c1] (XJ (k) x.rules) L1 w'/\Got (Zz ZeD) base [.slice A2 x.ends.length c2] (QR (Zw (k) x.rules) x.ends) L2 w'/\Got (Zz Xd) base [.slice A3 x.alphas.length c3] (Y3 (ZU (Zw (k) x.rules) x.ends) x.alphas) L3 w'/\Got (Zz QC) base [.slice A4 x.nodes.length c4] (XI (ZF (ZU (Zw (k) x.rules) x.ends) x.alphas) x.nodes) L4 w'/\Got (Zz Ys) base [.slice A5 x.facts.length c5] (Xr (Yb (ZF (ZU (Zw (k) x.rules) x.ends) x.alphas) x.nodes) x.facts) L5 w'/\Y1 (L1++(L2++(L3++(L4++L5)))) w w':=by
 have U:Hid (w.heap.size∉L1):=fun m=>AN _ (g1.lt _ m);have V:Hid (w.heap.size∉L2):=fun m=>AN _ (g2.lt _ m);have W:Hid (w.heap.size∉L3):=fun m=>AN _ (g3.lt _ m);have X:Hid (w.heap.size∉L4):=fun m=>AN _ (g4.lt _ m);have Y:Hid (w.heap.size∉L5):=fun m=>AN _ (g5.lt _ m);have G1:=yS (g1.alloc (.cells #[.slice A1 x.rules.length c1,.slice A2 x.ends.length c2,.slice A3 x.alphas.length c3,.slice A4 x.nodes.length c4,.slice A5 x.facts.length c5,.int .i64 x.tries] 37));have G2:=yS (g2.alloc (.cells #[.slice A1 x.rules.length c1,.slice A2 x.ends.length c2,.slice A3 x.alphas.length c3,.slice A4 x.nodes.length c4,.slice A5 x.facts.length c5,.int .i64 x.tries] 37));have G3:=yS (g3.alloc (.cells #[.slice A1 x.rules.length c1,.slice A2 x.ends.length c2,.slice A3 x.alphas.length c3,.slice A4 x.nodes.length c4,.slice A5 x.facts.length c5,.int .i64 x.tries] 37))
 have G4:=yS (g4.alloc (.cells #[.slice A1 x.rules.length c1,.slice A2 x.ends.length c2,.slice A3 x.alphas.length c3,.slice A4 x.nodes.length c4,.slice A5 x.facts.length c5,.int .i64 x.tries] 37));have G5:=yS (g5.alloc (.cells #[.slice A1 x.rules.length c1,.slice A2 x.ends.length c2,.slice A3 x.alphas.length c3,.slice A4 x.nodes.length c4,.slice A5 x.facts.length c5,.int .i64 x.tries] 37));have z:=yS g;have A:Hid (∀y∈L2,y∉L1):=fun y m m'=>g y m' m;have B:=yS i;have C:Hid (∀y∈L3,y∉L1):=fun y m m'=>i y m' m;have D:=yS j;have E:Hid (∀y∈L4,y∉L1):=fun y m m'=>j y m' m;have F:=yS l;have G:Hid (∀y∈L5,y∉L1):=fun y m m'=>l y m' m;have H:=yS o;have I:Hid (∀y∈L3,y∉L2):=fun y m m'=>o y m' m;have J:=yS p;have K:Hid (∀y∈L4,y∉L2):=fun y m m'=>p y m' m;have L:=yS q;have M:Hid (∀y∈L5,y∉L2):=fun y m m'=>q y m' m;have N:=yS t;have O:Hid (∀y∈L4,y∉L3):=fun y m m'=>t y m' m;have P:=yS u
 have Q:Hid (∀y∈L5,y∉L3):=fun y m m'=>u y m' m;have R:=yS v;have S:Hid (∀y∈L5,y∉L4):=fun y m m'=>v y m' m;have K0:Hid (Blk (w.alloc (.cells #[.slice A1 x.rules.length c1,.slice A2 x.ends.length c2,.slice A3 x.alphas.length c3,.slice A4 x.nodes.length c4,.slice A5 x.facts.length c5,.int .i64 x.tries] 37)) w.heap.size 37 #[.slice A1 x.rules.length c1,.slice A2 x.ends.length c2,.slice A3 x.alphas.length c3,.slice A4 x.nodes.length c4,.slice A5 x.facts.length c5,.int .i64 x.tries]):=Blk.new _ _ _;have O0:Hid (Y1 (L1++(L2++(L3++(L4++L5)))) w (w.alloc (.cells #[.slice A1 x.rules.length c1,.slice A2 x.ends.length c2,.slice A3 x.alphas.length c3,.slice A4 x.nodes.length c4,.slice A5 x.facts.length c5,.int .i64 x.tries] 37))):=Y1.of_below ((Below.refl _ _).alloc (AL _) _) _;clear g1 g2 g3 g4 g5 g i j l o p q t u v;unfold ZS at T;have:=Zc4 (k) x.rules;have:=ZjH (Zw (k) x.rules) x.ends
 have:=Zcb (ZU (Zw (k) x.rules) x.ends) x.alphas;have:=Zc5 (ZF (ZU (Zw (k) x.rules) x.ends) x.alphas) x.nodes;have:=Xy (Yb (ZF (ZU (Zw (k) x.rules) x.ends) x.alphas) x.nodes) x.facts;go_enter func12,ntmps12;go_wp2_with fail
 refine (ZpV A1 _ c1 x.rules L1 base _ _ rfl yE yE yE G1.out).mono ?_;rintro e w1 ⟨rfl,h1,a⟩;have G1:=yS h1;have G2:=yS (G2.out.only a A.out);have G3:=yS (G3.out.only a C.out);have G4:=yS (G4.out.only a E.out);have G5:=yS (G5.out.only a G.out);have K1:=yS (X3 K0.out a U.out);obtain ⟨f0,f1,f2,f3,f4,f5⟩:=K1.out.at6;have O1:Hid (Y1 (L1++(L2++(L3++(L4++L5)))) w w1):=O0.out.trans (a.mono (fun y m=>by first|exact m|(simp [m];done)|(simp only[AG]at m ⊢;(repeat' (refine Or.elim m (fun m=>?_) (fun m=>?_)))<;>simp [m])))
 clear a h1;go_wp2_with fail
 refine (ZrZ A2 _ c2 x.ends L2 base _ _ rfl yE yE G2.out).mono ?_;rintro e w2 ⟨rfl,h2,b⟩;have G1:=yS (G1.out.only b z.out);have G2:=yS h2;have G3:=yS (G3.out.only b I.out);have G4:=yS (G4.out.only b K.out);have G5:=yS (G5.out.only b M.out);have K2:=yS (X3 K1.out b V.out);clear f0 f1 f2 f3 f4 f5;obtain ⟨f0,f1,f2,f3,f4,f5⟩:=K2.out.at6;have O2:Hid (Y1 (L1++(L2++(L3++(L4++L5)))) w w2):=O1.out.trans (b.mono (fun y m=>by first|exact m|(simp [m];done)|(simp only[AG]at m ⊢;(repeat' (refine Or.elim m (fun m=>?_) (fun m=>?_)))<;>simp [m])))
 clear b h2;go_wp2_with fail
 refine (Zpr A3 _ c3 x.alphas L3 base _ _ rfl yE yE yE G3.out).mono ?_;rintro e w3 ⟨rfl,h3,c⟩;have G1:=yS (G1.out.only c B.out);have G2:=yS (G2.out.only c H.out);have G3:=yS h3;have G4:=yS (G4.out.only c O.out);have G5:=yS (G5.out.only c Q.out);have K3:=yS (X3 K2.out c W.out);clear f0 f1 f2 f3 f4 f5;obtain ⟨f0,f1,f2,f3,f4,f5⟩:=K3.out.at6;have O3:Hid (Y1 (L1++(L2++(L3++(L4++L5)))) w w3):=O2.out.trans (c.mono (fun y m=>by first|exact m|(simp [m];done)|(simp only[AG]at m ⊢;(repeat' (refine Or.elim m (fun m=>?_) (fun m=>?_)))<;>simp [m])))
 clear c h3;go_wp2_with fail
 refine (Zqu A4 _ c4 x.nodes L4 base _ _ rfl yE yE yE G4.out).mono ?_;rintro e w4 ⟨rfl,h4,d⟩;have G1:=yS (G1.out.only d D.out);have G2:=yS (G2.out.only d J.out);have G3:=yS (G3.out.only d N.out);have G4:=yS h4;have G5:=yS (G5.out.only d S.out);have K4:=yS (X3 K3.out d X.out);clear f0 f1 f2 f3 f4 f5;obtain ⟨f0,f1,f2,f3,f4,f5⟩:=K4.out.at6;have O4:Hid (Y1 (L1++(L2++(L3++(L4++L5)))) w w4):=O3.out.trans (d.mono (fun y m=>by first|exact m|(simp [m];done)|(simp only[AG]at m ⊢;(repeat' (refine Or.elim m (fun m=>?_) (fun m=>?_)))<;>simp [m])))
 clear d h4;go_wp2_with fail
 refine (ZgC A5 _ c5 x.facts L5 base _ _ rfl yE yE yE G5.out).mono ?_;rintro e w5 ⟨rfl,h5,f⟩;have G1:=yS (G1.out.only f F.out);have G2:=yS (G2.out.only f L.out);have G3:=yS (G3.out.only f P.out);have G4:=yS (G4.out.only f R.out);have G5:=yS h5;have K5:=yS (X3 K4.out f Y.out);clear f0 f1 f2 f3 f4 f5;obtain ⟨f0,f1,f2,f3,f4,f5⟩:=K5.out.at6;have O5:Hid (Y1 (L1++(L2++(L3++(L4++L5)))) w w5):=O4.out.trans (f.mono (fun y m=>by first|exact m|(simp [m];done)|(simp only[AG]at m ⊢;(repeat' (refine Or.elim m (fun m=>?_) (fun m=>?_)))<;>simp [m])))
 clear f h5;go_wp2_with fail
 go_ret;exact ⟨ZQ rfl,G1.out,G2.out,G3.out,G4.out,G5.out,O5.out⟩
theorem Zh4 (cs:List Value) (x:Zc) (L:List Nat) (base:Nat) (k:Int) (w:World) (b:1<=k) (c:ZS k x<=4611686018427387904) (h:Got Yr base cs x L w):
  Calls prog 12 #[.agg cs.toArray,.int .i64 k] w fun e w'=>e=.returned (.int .i64 (ZS k x))/\Got Yr base cs (ZhY k x) L w'/\Y1 L w w':=by
 obtain ⟨a,D⟩:=h;obtain ⟨A1,H,L1,A2,c2,L2,A3,G,L3,A4,F,L4,A5,E,L5,rfl,aa,n1,N,s1,n2,M,W,n3,K,V,n4,J,U,n5,I,T⟩:=a;subst L
 refine (Zo3 x A1 H L1 A2 c2 L2 A3 G L3 A4 F L4 A5 E L5 base k w b c (by unfold maxLen at N;omega) (by unfold maxLen at M;omega) (by unfold maxLen at K;omega) (by unfold maxLen at J;omega) (by unfold maxLen at I;omega) ⟨⟨A1,H,rfl,n1,N,s1⟩,D.left⟩ ⟨⟨A2,c2,rfl,n2,M,W⟩,D.right.left⟩ ⟨⟨A3,G,rfl,n3,K,V⟩,D.right.right.left⟩ ⟨⟨A4,F,rfl,n4,J,U⟩,D.right.right.right.left⟩ ⟨⟨A5,E,rfl,n5,I,T⟩,D.right.right.right.right⟩ (fun y m C=>D.apart y m (by simp [C])) (fun y m C=>D.apart y m (by simp [C])) (fun y m C=>D.apart y m (by simp [C])) (fun y m C=>D.apart y m (by simp [C])) (fun y m C=>D.right.apart y m (by simp [C])) (fun y m C=>D.right.apart y m (by simp [C])) (fun y m C=>D.right.apart y m (by simp [C])) (fun y m C=>D.right.right.apart y m (by simp [C])) (fun y m C=>D.right.right.apart y m (by simp [C])) (fun y m C=>D.right.right.right.apart y m (by simp [C]))).mono ?_
 rintro e w' ⟨rfl,S,g2,R,P,O,on⟩;obtain ⟨d,f,g⟩:=ZH S.rep;obtain ⟨i,j,l⟩:=ZH g2.rep;obtain ⟨o,p,q⟩:=ZH R.rep;obtain ⟨t,u,v⟩:=ZH P.rep;obtain ⟨z,A,B⟩:=ZH O.rep;refine ⟨rfl,⟨⟨A1,H,L1,A2,c2,L2,A3,G,L3,A4,F,L4,A5,E,L5,by simp [ZhY,Zf8,ZhK,ZeO,Zf0,Zay],rfl,d,f,g,i,j,l,o,p,q,t,u,v,z,A,B⟩,D.nodup,D.ge,fun y m=>?_⟩,on⟩;try simp only[AG]at m
 rcases m with m|m|m|m|m
 .exact S.own.plain y m
 .exact g2.own.plain y m
 .exact R.own.plain y m
 .exact P.own.plain y m
 .exact O.own.plain y m
theorem Zob (A:Option Addr) (n c:Nat) (ds:List YB) (L:List Nat) (base:Nat) (k:Int) (w:World) (hn:n=ds.length) (hm:n<=9223372036854775807) (Q:1<=k) (B:Xz k ds<=4611686018427387904) (h:Got (Zz XG) base [.slice A n c] ds L w):
  Calls prog 13 #[.slice A n c,.int .i64 k] w fun e w'=>e=.returned (.int .i64 (Xz k ds))/\Got (Zz XG) base [.slice A n c] (ZcP k ds) L w'/\Y1 L w w':=by
 have H:=yS h;have HN:=yS hn;have HK:=yS B;clear h hn B;go_enter func13,ntmps13;go_wp2;go_loopw [1,5] (fun q j wr=>∃(i:Nat) (V:Int) (D:List YB),i<=n/\j=.int .i64 i/\q=.int .i64 V/\1<=V/\Hid (Xz V (ds.drop i)=Xz k ds/\D.length=i/\D++ZcP V (ds.drop i)=ZcP k ds)/\Hid (Got (Zz XG) base [.slice A n c] (D++ds.drop i) L wr)/\Hid (Y1 L w wr)) (fun _ j _=>n - (intOf j).toNat)
 case atStart=>exact ⟨0,k,[],AD _,rfl,rfl,Q,⟨rfl,rfl,rfl⟩,H.out,Y1.refl _ _⟩
 case round=>
  obtain ⟨i,V,D,hi,rfl,rfl,h1,HD,HG,HO⟩:=hrel;by_cases aa:i<n
  .have ab:i<ds.length:=by have:=HN.out;omega
   obtain ⟨l,u,C⟩:=HD.out;have R:i<(D++ds.drop i).length:=by simp;omega
   obtain ⟨b,off,cs,Lk,rfl,S,E,d,g,f,t⟩:=HG.out.focus R;have a:Hid (ds.drop i=ds[i]::ds.drop (i+1)):=A6 _;have F:(D++ds.drop i)[i]=ds[i]:=by
    rw [AM yE];simp [u]
   rw [F]at g;clear F;generalize ds[i]=x at g a
   have T:Hid (Qa V x<=4611686018427387904):=by
    have:=Zkp (Qa V x) (ds.drop (i+1));rw [a.out]at l;have hk:=HK.out;rw [<-l]at hk;exact AF this hk
   have G:=T.out;have I:=ZlV V x;unfold Qa at G I;have HDn:Hid (Xz (Qa V x) (ds.drop (i+1))=Xz k ds/\(D++[Zh0 V x]).length=i+1/\(D++[Zh0 V x])++ZcP (Qa V x) (ds.drop (i+1))=ZcP k ds):=by
    refine ⟨by rw [<-l,a.out];rfl,by simp [u],?_⟩;rw [<-C,a.out];simp [ZcP]
   have J:Hid ((D++ds.drop i).set i (Zh0 V x)=(D++[Zh0 V x])++ds.drop (i+1)):=by
    rw [Hid,AH _ _ yE,show i - D.length=0 by omega,a.out,AI];simp
   obtain ⟨A1,W,L1,rfl,ac,t0,t1,n1,m1,s1⟩:=g;unfold maxLen at m1;subst Lk;have HEl:=yS (Zci.start (m:=4) f rfl d);have hbn:=yS d.head;have G1:Hid (Got (Zz ZbY) base [.slice A1 x.fact.args.length W] x.fact.args L1 wr):=⟨⟨A1,W,rfl,n1,(by unfold maxLen;omega),s1⟩,d.tail⟩
   have o:Hid (b∉L1):=fun m=>d.head (by simp [m]);have U:Hid (∀y∈L1,y∈L1):=fun y m=>by simp [m]
   clear s1;have HPut:=yS t;have HOwn:=yS d;have HLk:=yS E;clear t d E f l u C;simp only[show XG.size=4 from rfl]at HEl HPut;have q0:=HEl.out.at (j:=0) rfl;have z0:=HEl.out.frozen (off+i*4);have q1:=HEl.out.at (j:=1) rfl;have z1:=HEl.out.frozen (off+i*4+1);have q2:=HEl.out.at (j:=2) rfl;have z2:=HEl.out.frozen (off+i*4+2);have q3:=HEl.out.at (j:=3) rfl;have z3:=HEl.out.frozen (off+i*4+3);simp only[A0]at q0;have ad:(0:Int)<=0:=by omega
   have mono_x_fact_args:=Yc (V+1+1+1) x.fact.args;go_wp2_with fail
   refine (ZK _ _ yE yE).mono ?_;rintro e w1 ⟨rfl,v⟩;have HEl:=yS ((HEl.out.set 0 yE (.int .i64 (V))).later v);have G1:=yS ((G1.out.setFar (p:=⟨b,off+i*4+0,none⟩) o.out (.int .i64 (V))).later v);clear v;clear q0 z0 q1 z1 q2 z2 q3 z3;have q0:=HEl.out.at (j:=0) rfl;have z0:=HEl.out.frozen (off+i*4);have q1:=HEl.out.at (j:=1) rfl;have z1:=HEl.out.frozen (off+i*4+1);have q2:=HEl.out.at (j:=2) rfl;have z2:=HEl.out.frozen (off+i*4+2);have q3:=HEl.out.at (j:=3) rfl;have z3:=HEl.out.frozen (off+i*4+3);simp only[A0]at q0;go_wp2_with fail
   refine (ZK _ _ yE yE).mono ?_;rintro e w2 ⟨rfl,z⟩;have HEl:=yS ((HEl.out.set 1 yE (.string (mTx (V+1)))).later z);have G1:=yS ((G1.out.setFar (p:=⟨b,off+i*4+1,none⟩) o.out (.string (mTx (V+1)))).later z);clear z;clear q0 z0 q1 z1 q2 z2 q3 z3;have q0:=HEl.out.at (j:=0) rfl;have z0:=HEl.out.frozen (off+i*4);have q1:=HEl.out.at (j:=1) rfl;have z1:=HEl.out.frozen (off+i*4+1);have q2:=HEl.out.at (j:=2) rfl;have z2:=HEl.out.frozen (off+i*4+2);have q3:=HEl.out.at (j:=3) rfl;have z3:=HEl.out.frozen (off+i*4+3);simp only[A0]at q0;go_wp2_with fail
   have G1:=yS (G1.out.setFar (p:=⟨b,off+i*4+2,none⟩) o.out (.string (mTx (V+1+1))));refine (QV A1 _ W x.fact.args L1 base _ _ rfl yE yE G1.out).mono ?_;rintro e w3 ⟨rfl,g3,K⟩;have HEl:=yS ((HEl.out.set 2 yE (.string (mTx (V+1+1)))).marked K U.out o.out);have G1:=yS g3;clear g3 K;clear q0 z0 q1 z1 q2 z2 q3 z3;have q0:=HEl.out.at (j:=0) rfl;have z0:=HEl.out.frozen (off+i*4);have q1:=HEl.out.at (j:=1) rfl;have z1:=HEl.out.frozen (off+i*4+1);have q2:=HEl.out.at (j:=2) rfl;have z2:=HEl.out.frozen (off+i*4+2);have q3:=HEl.out.at (j:=3) rfl;have z3:=HEl.out.frozen (off+i*4+3);simp only[A0]at q0;obtain ⟨M,N,O⟩:=ZH G1.out.rep;have P:=yS (Xa HOwn.out HEl.out.plain HEl.out.only (fun y m=>by (try simp only[AG]at m)<;>(exact G1.out.own.plain y m)))
   have HGn:=yS (HPut.out _ _ (Zh0 V x) HEl.out.only HEl.out.cells HEl.out.rest ⟨A1,W,L1,by simp [Zh0,YY],rfl,QI _ yE,QI _ yE,M,N,O⟩ P.out);have HOn:=yS (HO.out.trans (HEl.out.only.mono (fun y m=>by rcases AJ.1 m with rfl|m;exact S;exact HLk.out y m)));rw [J.out]at HGn;try simp only[A0]at HGn HOn
   clear HEl P HPut G1 M N O;go_wp2_with fail
   go_roundw
   case rel=>exact ⟨i+1,Qa V x,_,yE,by go_num,rfl,by unfold Qa;omega,HDn,HGn,HOn⟩
   case measure=>simp [intOf];omega
  .obtain rfl:i=n:=by omega
   have e:Hid (ds.drop i=[]):=AE (by have:=HN.out;omega);have hf:Hid (Xz k ds=V/\D=ZcP k ds):=by
    obtain ⟨h1,h2,h3⟩:=HD.out;rw [e.out]at h3 h1;simp [ZcP]at h3;exact ⟨h1.symm,h3⟩
   rw [e.out,AK]at HG;go_wp2;go_ret;exact ⟨ZQ hf.out.1.symm,by rw [<-hf.out.2];exact HG.out,HO.out⟩
end
section
open Go.RowKit
theorem YH {w w1:World}{B:Nat}(h:Below w.drew.heap.size w.drew w1) (C:B<=w.heap.size):Below B w w1:=⟨h.os,h.tape,h.output,h.size,fun k A=>h.block k (A9 A C)⟩
theorem ZaN (A:Option Addr) (n c:Nat) (ds:List ByteArray) (L:List Nat) (k:Int) (w:World) (C:n=ds.length) (u:1<=k) (g:Zg k ds<=4611686018427387904) (h:Sli ZbY w A (Yq k ds) L):
  Calls prog 87 #[.slice A n c,.int .i64 k] w fun e w'=>e=.returned (.int .i64 (Zg k ds))/\Below w.heap.size w w':=by
 have H:=yS h;have HN:=yS C;have D:k+n<=4611686018427387904:=by simp only[Zg]at g;omega
 clear h C g;go_enter func87,ntmps87;go_wp2;go_loopw [1,5] (fun q j wr=>∃(i:Nat) (B:Int),i<=n/\j=.int .i64 i/\q=.int .i64 B/\1<=B/\B+(n - i:Nat)<=4611686018427387904/\Hid (B=k+i/\(Yq k ds).drop i=Yq B (ds.drop i))/\Hid (Below w.heap.size w wr)) (fun _ j _=>n - (intOf j).toNat)
 case atStart=>exact ⟨0,k,AD _,rfl,rfl,u,yE,⟨yE,rfl⟩,Below.refl _ _⟩
 case round=>
  obtain ⟨i,B,hi,rfl,rfl,I,N,HD,HB⟩:=hrel;by_cases F:i<n
  .have l:i<ds.length:=by have:=HN.out;omega
   obtain ⟨v,m⟩:=HD.out;have o:i<(Yq k ds).length:=by rw [YY];exact l
   obtain ⟨b,off,cs,Lk,rfl,x,_,a,E⟩:=H.out.at_ o;have d:=m;rw [A6 o,A6 l,Yq]at d;injection d with e1 e2;rw [e1]at a;obtain ⟨rfl,_,_⟩:=a;have t:b<w.heap.size:=H.out.lt b x;have y:b<wr.heap.size:=A9 t HB.out.size;have q0:=(HB.out.cell (p:=⟨b,off+(i*ZbY.size+0),none⟩) t).trans (E 0 _ rfl);simp only[show ZbY.size=1 from rfl,AQ,A0]at q0;have HDn:Hid (B+1=k+(i+1:Nat)/\(Yq k ds).drop (i+1)=Yq (B+1) (ds.drop (i+1))):=⟨yE,e2⟩
   clear E v m e1 e2;have M:(0:Int)<=i:=by omega
   have K:(i:Int)<n:=by omega
   go_wp2_with fail
   go_region_held3 (fun w'=>w'.cell? ⟨b,off+i,none⟩=some (.string (mTx B))) (first|go_keep|exact (f.cell (p:=⟨b,off+i,none⟩) y).trans q0) (first|(go_at_call 44;refine (ZK _ _ yE yE).mono ?_;rintro e J ⟨rfl,f⟩));have HBn:=yS (HB.out.trans (YH f HB.out.size));clear f;go_wp2_with fail
   go_roundw
   case rel=>exact ⟨i+1,B+1,yE,by go_num,rfl,yE,yE,HDn,HBn⟩
   case measure=>simp [intOf];omega
  .obtain rfl:i=n:=by omega
   have G:Hid (Zg k ds=B):=by
    obtain ⟨I,_⟩:=HD.out;have:=HN.out;rw [Hid];simp only[Zg];omega
   go_wp2;go_ret;exact ⟨ZQ G.out.symm,HB.out⟩
theorem ZrH (A:Option Addr) (n c:Nat) (ds:List Int) (L:List Nat) (k:Int) (w:World) (C:n=ds.length) (t:1<=k) (f:ZU k ds<=4611686018427387904) (h:Sli ZeD w A (QR k ds) L):
  Calls prog 47 #[.slice A n c,.int .i64 k] w fun e w'=>e=.returned (.int .i64 (ZU k ds))/\Below w.heap.size w w':=by
 have H:=yS h;have HN:=yS C;have D:k+n<=4611686018427387904:=by simp only[ZU]at f;omega
 clear h C f;go_enter func47,ntmps47;go_wp2;go_loopw [1,5] (fun q j wr=>∃(i:Nat) (B:Int),i<=n/\j=.int .i64 i/\q=.int .i64 B/\1<=B/\B+(n - i:Nat)<=4611686018427387904/\Hid (B=k+i/\(QR k ds).drop i=QR B (ds.drop i))/\Hid (Below w.heap.size w wr)) (fun _ j _=>n - (intOf j).toNat)
 case atStart=>exact ⟨0,k,AD _,rfl,rfl,t,yE,⟨yE,rfl⟩,Below.refl _ _⟩
 case round=>
  obtain ⟨i,B,hi,rfl,rfl,K,O,HD,HB⟩:=hrel;by_cases G:i<n
  .have g:i<ds.length:=by have:=HN.out;omega
   obtain ⟨u,l⟩:=HD.out;have m:i<(QR k ds).length:=by rw [ZhK];exact g
   obtain ⟨b,off,cs,Lk,rfl,v,_,a,E⟩:=H.out.at_ m;have d:=l;rw [A6 m,A6 g,QR]at d;injection d with e1 e2;rw [e1]at a;obtain ⟨rfl,_⟩:=a;have o:b<w.heap.size:=H.out.lt b v;have J:b<wr.heap.size:=A9 o HB.out.size;have q0:=(HB.out.cell (p:=⟨b,off+(i*ZeD.size+0),none⟩) o).trans (E 0 _ rfl);simp only[show ZeD.size=1 from rfl,AQ,A0]at q0;have HDn:Hid (B+1=k+(i+1:Nat)/\(QR k ds).drop (i+1)=QR (B+1) (ds.drop (i+1))):=⟨yE,e2⟩
   clear E u l e1 e2;have N:(0:Int)<=i:=by omega
   have M:(i:Int)<n:=by omega
   have F:((B:Int) != B)=false:=by simp
   go_wp2_with fail
   have HBn:=HB;go_roundw
   case rel=>exact ⟨i+1,B+1,yE,by go_num,rfl,yE,yE,HDn,HBn⟩
   case measure=>simp [intOf];omega
  .obtain rfl:i=n:=by omega
   have I:Hid (ZU k ds=B):=by
    obtain ⟨K,_⟩:=HD.out;have:=HN.out;rw [Hid];simp only[ZU];omega
   go_wp2;go_ret;exact ⟨ZQ I.out.symm,HB.out⟩
theorem Zgr (A:Option Addr) (n c:Nat) (ds:List Zf) (L:List Nat) (k:Int) (w:World) (V:n=ds.length) (hm:n<=9223372036854775807) (F:1<=k) (t:Z7 k ds<=4611686018427387904) (h:Sli Ys w A (Xr k ds) L):
  Calls prog 50 #[.slice A n c,.int .i64 k] w fun e w'=>e=.returned (.int .i64 (Z7 k ds))/\Below w.heap.size w w':=by
 have H:=yS h;have HN:=yS V;have HK:=yS t;clear h V t;go_enter func50,ntmps50;go_wp2;go_loopw [1,5] (fun q j wr=>∃(i:Nat) (N:Int),i<=n/\j=.int .i64 i/\q=.int .i64 N/\1<=N/\Hid (Z7 N (ds.drop i)=Z7 k ds/\(Xr k ds).drop i=Xr N (ds.drop i))/\Hid (Below w.heap.size w wr)) (fun _ j _=>n - (intOf j).toNat)
 case atStart=>exact ⟨0,k,AD _,rfl,rfl,F,⟨rfl,rfl⟩,Below.refl _ _⟩
 case round=>
  obtain ⟨i,N,hi,rfl,rfl,W,HD,HB⟩:=hrel;by_cases aa:i<n
  .have u:i<ds.length:=by have:=HN.out;omega
   obtain ⟨d,v⟩:=HD.out;have z:i<(Xr k ds).length:=by rw [Zay];exact u
   obtain ⟨b,off,cs,Lk,rfl,G,I,f,T⟩:=H.out.at_ z;rw [A6 z,A6 u,Xr]at v;injection v with e1 e2;rw [e1]at f;clear e1;have g:ds.drop i=ds[i]::ds.drop (i+1):=A6 _;rw [g]at d;clear g;generalize ds[i]=x at f d e2
   have J:Hid (Xb N x<=4611686018427387904):=by
    have:=Xy (Xb N x) (ds.drop (i+1));have hk:=HK.out;rw [<-d]at hk;exact AF this hk
   have B:=J.out;have C:=ZjG N x;unfold Xb at B C;have HDn:Hid (Z7 (Xb N x) (ds.drop (i+1))=Z7 k ds/\(Xr k ds).drop (i+1)=Xr (Xb N x) (ds.drop (i+1))):=⟨d,e2⟩
   have a:b<w.heap.size:=H.out.lt b G;clear d e2;obtain ⟨A1,R,L1,rfl,K,t0,n1,m1,U⟩:=f;have S1:=yS U;have M:Hid (∀y∈L1,y<w.heap.size):=fun y m=>H.out.lt y (I y (by rw [K];simp [m]));have D:(Zil N x).args.length=x.args.length:=YY _ _;clear U;have Q0:=yS (T 0 _ rfl);have Q1:=yS (T 1 _ rfl);unfold maxLen at m1;rw [D]at Q1 n1;clear T D;have i0:(0:Int)<=i:=by omega
   have i1:(i:Int)<n:=by omega
   have mono_x_args:=Yc (N+1) x.args;have O:wr.cell? ⟨b,off+i*2,none⟩=some (.string (mTx (N))):=(HB.out.cell (p:=⟨b,off+(i*2+0),none⟩) a).trans Q0.out;have P:wr.cell? ⟨b,off+i*2+1,none⟩=some (.slice A1 x.args.length R):=(HB.out.cell (p:=⟨b,off+(i*2+1),none⟩) a).trans Q1.out;have l:b<wr.heap.size:=A9 a HB.out.size;go_wp2_with fail
   go_region_held3 (fun w'=>w'.cell? ⟨b,off+i*2,none⟩=some (.string (mTx (N)))) (first|go_keep|exact (o.cell (p:=⟨b,off+i*2,none⟩) l).trans O) (first|(go_at_call 44;refine (ZK _ _ yE yE).mono ?_;rintro e S ⟨rfl,o⟩));have HB:=yS (HB.out.trans (YH o HB.out.size));clear o;clear O P;have O:S.cell? ⟨b,off+i*2,none⟩=some (.string (mTx (N))):=(HB.out.cell (p:=⟨b,off+(i*2+0),none⟩) a).trans Q0.out;have P:S.cell? ⟨b,off+i*2+1,none⟩=some (.slice A1 x.args.length R):=(HB.out.cell (p:=⟨b,off+(i*2+1),none⟩) a).trans Q1.out;replace l:b<S.heap.size:=A9 a HB.out.size;go_wp2_with fail
   refine (ZaN A1 _ R x.args L1 _ _ rfl yE yE (S1.out.keep (Zr HB.out M.out))).mono ?_;rintro e w2 ⟨rfl,E⟩;have HB:=yS (HB.out.trans (E.mono HB.out.size));clear E;clear O P;have O:w2.cell? ⟨b,off+i*2,none⟩=some (.string (mTx (N))):=(HB.out.cell (p:=⟨b,off+(i*2+0),none⟩) a).trans Q0.out;have P:w2.cell? ⟨b,off+i*2+1,none⟩=some (.slice A1 x.args.length R):=(HB.out.cell (p:=⟨b,off+(i*2+1),none⟩) a).trans Q1.out;replace l:b<w2.heap.size:=A9 a HB.out.size;have ab:¬(Zg (N+1) x.args<0):=by omega
   go_wp2_with fail
   go_roundw
   case rel=>exact ⟨i+1,Xb N x,yE,by go_num,rfl,by unfold Xb;omega,HDn,HB⟩
   case measure=>simp [intOf];omega
  .obtain rfl:i=n:=by omega
   have hf:Hid (Z7 k ds=N):=by
    obtain ⟨W,_⟩:=HD.out;rw [Hid,<-W,AE (by have:=HN.out;omega)];rfl
   go_wp2;go_ret;exact ⟨ZQ hf.out.symm,HB.out⟩
theorem Zqt (A:Option Addr) (n c:Nat) (ds:List Zj) (L:List Nat) (k:Int) (w:World) (M:n=ds.length) (hm:n<=9223372036854775807) (C:1<=k) (t:YG k ds<=4611686018427387904) (h:Sli XK w A (Qo k ds) L):
  Calls prog 139 #[.slice A n c,.int .i64 k] w fun e w'=>e=.returned (.int .i64 (YG k ds))/\Below w.heap.size w w':=by
 have H:=yS h;have HN:=yS M;have HK:=yS t;clear h M t;go_enter func139,ntmps139;go_wp2;go_loopw [1,5] (fun q j wr=>∃(i:Nat) (F:Int),i<=n/\j=.int .i64 i/\q=.int .i64 F/\1<=F/\Hid (YG F (ds.drop i)=YG k ds/\(Qo k ds).drop i=Qo F (ds.drop i))/\Hid (Below w.heap.size w wr)) (fun _ j _=>n - (intOf j).toNat)
 case atStart=>exact ⟨0,k,AD _,rfl,rfl,C,⟨rfl,rfl⟩,Below.refl _ _⟩
 case round=>
  obtain ⟨i,F,hi,rfl,rfl,N,HD,HB⟩:=hrel;by_cases O:i<n
  .have u:i<ds.length:=by have:=HN.out;omega
   obtain ⟨d,v⟩:=HD.out;have y:i<(Qo k ds).length:=by rw [Zjp];exact u
   obtain ⟨b,off,cs,Lk,rfl,D,R,f,K⟩:=H.out.at_ y;rw [A6 y,A6 u,Qo]at v;injection v with e1 e2;rw [e1]at f;clear e1;have g:ds.drop i=ds[i]::ds.drop (i+1):=A6 _;rw [g]at d;clear g;generalize ds[i]=x at f d e2
   have E:Hid (Xg F x<=4611686018427387904):=by
    have:=Zdn (Xg F x) (ds.drop (i+1));have hk:=HK.out;rw [<-d]at hk;exact AF this hk
   have z:=E.out;have B:=Zii F x;unfold Xg at z B;have HDn:Hid (YG (Xg F x) (ds.drop (i+1))=YG k ds/\(Qo k ds).drop (i+1)=Qo (Xg F x) (ds.drop (i+1))):=⟨d,e2⟩
   have a:b<w.heap.size:=H.out.lt b D;clear d e2;obtain ⟨rfl,S,U,T⟩:=f;have Q0:=yS (K 0 _ rfl);have Q1:=yS (K 1 _ rfl);clear K;have W:(0:Int)<=i:=by omega
   have V:(i:Int)<n:=by omega
   have I:wr.cell? ⟨b,off+i*2,none⟩=some (.string (mTx (F))):=(HB.out.cell (p:=⟨b,off+(i*2+0),none⟩) a).trans Q0.out;have G:wr.cell? ⟨b,off+i*2+1,none⟩=some (.string (mTx (F+1))):=(HB.out.cell (p:=⟨b,off+(i*2+1),none⟩) a).trans Q1.out;have l:b<wr.heap.size:=A9 a HB.out.size;go_wp2_with fail
   go_region_held3 (fun w'=>w'.cell? ⟨b,off+i*2,none⟩=some (.string (mTx (F)))) (first|go_keep|exact (m.cell (p:=⟨b,off+i*2,none⟩) l).trans I) (first|(go_at_call 44;refine (ZK _ _ yE yE).mono ?_;rintro e J ⟨rfl,m⟩));have HB:=yS (HB.out.trans (YH m HB.out.size));clear m;clear I G;have I:J.cell? ⟨b,off+i*2,none⟩=some (.string (mTx (F))):=(HB.out.cell (p:=⟨b,off+(i*2+0),none⟩) a).trans Q0.out;have G:J.cell? ⟨b,off+i*2+1,none⟩=some (.string (mTx (F+1))):=(HB.out.cell (p:=⟨b,off+(i*2+1),none⟩) a).trans Q1.out;replace l:b<J.heap.size:=A9 a HB.out.size;go_wp2_with fail
   go_region_held3 (fun w'=>w'.cell? ⟨b,off+i*2+1,none⟩=some (.string (mTx (F+1)))) (first|go_keep|exact (o.cell (p:=⟨b,off+i*2+1,none⟩) l).trans G) (first|(go_at_call 44;refine (ZK _ _ yE yE).mono ?_;rintro e w2 ⟨rfl,o⟩));have HB:=yS (HB.out.trans (YH o HB.out.size));clear o;clear I G;have I:w2.cell? ⟨b,off+i*2,none⟩=some (.string (mTx (F))):=(HB.out.cell (p:=⟨b,off+(i*2+0),none⟩) a).trans Q0.out;have G:w2.cell? ⟨b,off+i*2+1,none⟩=some (.string (mTx (F+1))):=(HB.out.cell (p:=⟨b,off+(i*2+1),none⟩) a).trans Q1.out;replace l:b<w2.heap.size:=A9 a HB.out.size;go_wp2_with fail
   go_roundw
   case rel=>exact ⟨i+1,Xg F x,yE,by go_num,rfl,by unfold Xg;omega,HDn,HB⟩
   case measure=>simp [intOf];omega
  .obtain rfl:i=n:=by omega
   have P:Hid (YG k ds=F):=by
    obtain ⟨N,_⟩:=HD.out;rw [Hid,<-N,AE (by have:=HN.out;omega)];rfl
   go_wp2;go_ret;exact ⟨ZQ P.out.symm,HB.out⟩
theorem ZpP (A:Option Addr) (n c:Nat) (ds:List Zh) (L:List Nat) (k:Int) (w:World) (hn:n=ds.length) (hm:n<=9223372036854775807) (I:1<=k) (v:Yh k ds<=4611686018427387904) (h:Sli X8 w A (Qm k ds) L):
  Calls prog 85 #[.slice A n c,.int .i64 k] w fun e w'=>e=.returned (.int .i64 (Yh k ds))/\Below w.heap.size w w':=by
 have H:=yS h;have HN:=yS hn;have HK:=yS v;clear h hn v;go_enter func85,ntmps85;go_wp2;go_loopw [1,5] (fun q j wr=>∃(i:Nat) (P:Int),i<=n/\j=.int .i64 i/\q=.int .i64 P/\1<=P/\Hid (Yh P (ds.drop i)=Yh k ds/\(Qm k ds).drop i=Qm P (ds.drop i))/\Hid (Below w.heap.size w wr)) (fun _ j _=>n - (intOf j).toNat)
 case atStart=>exact ⟨0,k,AD _,rfl,rfl,I,⟨rfl,rfl⟩,Below.refl _ _⟩
 case round=>
  obtain ⟨i,P,hi,rfl,rfl,h1,HD,HB⟩:=hrel;by_cases aa:i<n
  .have z:i<ds.length:=by have:=HN.out;omega
   obtain ⟨f,B⟩:=HD.out;have C:i<(Qm k ds).length:=by rw [Zih];exact z
   obtain ⟨b,off,cs,Lk,rfl,J,K,g,hc⟩:=H.out.at_ C;rw [A6 C,A6 z,Qm]at B;injection B with e1 e2;rw [e1]at g;clear e1;have l:ds.drop i=ds[i]::ds.drop (i+1):=A6 _;rw [l]at f;clear l;generalize ds[i]=x at g f e2
   have M:Hid (Xc P x<=4611686018427387904):=by
    have:=Zdp (Xc P x) (ds.drop (i+1));have hk:=HK.out;rw [<-f]at hk;exact AF this hk
   have D:=M.out;have E:=Zi6 P x;unfold Xc at D E;have HDn:Hid (Yh (Xc P x) (ds.drop (i+1))=Yh k ds/\(Qm k ds).drop (i+1)=Qm (Xc P x) (ds.drop (i+1))):=⟨f,e2⟩
   have a:b<w.heap.size:=H.out.lt b J;clear f e2;obtain ⟨A1,c1,L1,rfl,N,t0,t1,t2,n1,m1,s1⟩:=g;have S1:=yS s1;have O:Hid (∀y∈L1,y<w.heap.size):=fun y m=>H.out.lt y (K y (by rw [N];simp [m]));have F:(ZiC P x).pattern.args.length=x.pattern.args.length:=YY _ _;clear s1;have Q0:=yS (hc 0 _ rfl);have Q1:=yS (hc 1 _ rfl);have Q2:=yS (hc 2 _ rfl);have Q3:=yS (hc 3 _ rfl);have Q4:=yS (hc 4 _ rfl);unfold maxLen at m1;rw [F]at Q2 n1;clear hc F;have i0:(0:Int)<=i:=by omega
   have i1:(i:Int)<n:=by omega
   have mono_x_pattern_args:=Yc (P+1+1) x.pattern.args;have V:wr.cell? ⟨b,off+i*5,none⟩=some (.int .i64 (P)):=(HB.out.cell (p:=⟨b,off+(i*5+0),none⟩) a).trans Q0.out;have T:wr.cell? ⟨b,off+i*5+1,none⟩=some (.string (mTx (P+1))):=(HB.out.cell (p:=⟨b,off+(i*5+1),none⟩) a).trans Q1.out;have U:wr.cell? ⟨b,off+i*5+2,none⟩=some (.slice A1 x.pattern.args.length c1):=(HB.out.cell (p:=⟨b,off+(i*5+2),none⟩) a).trans Q2.out;have S:wr.cell? ⟨b,off+i*5+3,none⟩=some (.string (mTx (Zg (P+1+1) x.pattern.args))):=(HB.out.cell (p:=⟨b,off+(i*5+3),none⟩) a).trans Q3.out;have R:wr.cell? ⟨b,off+i*5+4,none⟩=some (.string (mTx (Zg (P+1+1) x.pattern.args+1))):=(HB.out.cell (p:=⟨b,off+(i*5+4),none⟩) a).trans Q4.out;have d:b<wr.heap.size:=A9 a HB.out.size;go_wp2_with fail
   go_region_held3 (fun w'=>w'.cell? ⟨b,off+i*5+1,none⟩=some (.string (mTx (P+1)))) (first|go_keep|exact (o.cell (p:=⟨b,off+i*5+1,none⟩) d).trans T) (first|(go_at_call 44;refine (ZK _ _ yE yE).mono ?_;rintro e w1 ⟨rfl,o⟩));have HB:=yS (HB.out.trans (YH o HB.out.size));clear o;clear V T U S R;have V:w1.cell? ⟨b,off+i*5,none⟩=some (.int .i64 (P)):=(HB.out.cell (p:=⟨b,off+(i*5+0),none⟩) a).trans Q0.out;have T:w1.cell? ⟨b,off+i*5+1,none⟩=some (.string (mTx (P+1))):=(HB.out.cell (p:=⟨b,off+(i*5+1),none⟩) a).trans Q1.out;have U:w1.cell? ⟨b,off+i*5+2,none⟩=some (.slice A1 x.pattern.args.length c1):=(HB.out.cell (p:=⟨b,off+(i*5+2),none⟩) a).trans Q2.out;have S:w1.cell? ⟨b,off+i*5+3,none⟩=some (.string (mTx (Zg (P+1+1) x.pattern.args))):=(HB.out.cell (p:=⟨b,off+(i*5+3),none⟩) a).trans Q3.out
   have R:w1.cell? ⟨b,off+i*5+4,none⟩=some (.string (mTx (Zg (P+1+1) x.pattern.args+1))):=(HB.out.cell (p:=⟨b,off+(i*5+4),none⟩) a).trans Q4.out;replace d:b<w1.heap.size:=A9 a HB.out.size;go_wp2_with fail
   refine (ZaN A1 _ c1 x.pattern.args L1 _ _ rfl yE yE (S1.out.keep (Zr HB.out O.out))).mono ?_;rintro e w2 ⟨rfl,G⟩;have HB:=yS (HB.out.trans (G.mono HB.out.size));clear G;clear V T U S R;have V:w2.cell? ⟨b,off+i*5,none⟩=some (.int .i64 (P)):=(HB.out.cell (p:=⟨b,off+(i*5+0),none⟩) a).trans Q0.out;have T:w2.cell? ⟨b,off+i*5+1,none⟩=some (.string (mTx (P+1))):=(HB.out.cell (p:=⟨b,off+(i*5+1),none⟩) a).trans Q1.out;have U:w2.cell? ⟨b,off+i*5+2,none⟩=some (.slice A1 x.pattern.args.length c1):=(HB.out.cell (p:=⟨b,off+(i*5+2),none⟩) a).trans Q2.out;have S:w2.cell? ⟨b,off+i*5+3,none⟩=some (.string (mTx (Zg (P+1+1) x.pattern.args))):=(HB.out.cell (p:=⟨b,off+(i*5+3),none⟩) a).trans Q3.out;have R:w2.cell? ⟨b,off+i*5+4,none⟩=some (.string (mTx (Zg (P+1+1) x.pattern.args+1))):=(HB.out.cell (p:=⟨b,off+(i*5+4),none⟩) a).trans Q4.out;replace d:b<w2.heap.size:=A9 a HB.out.size
   have ab:¬(Zg (P+1+1) x.pattern.args<0):=by omega
   go_wp2_with fail
   go_region_held3 (fun w'=>w'.cell? ⟨b,off+i*5+3,none⟩=some (.string (mTx (Zg (P+1+1) x.pattern.args)))) (first|go_keep|exact (t.cell (p:=⟨b,off+i*5+3,none⟩) d).trans S) (first|(go_at_call 44;refine (ZK _ _ yE yE).mono ?_;rintro e w3 ⟨rfl,t⟩));have HB:=yS (HB.out.trans (YH t HB.out.size));clear t;clear V T U S R;have V:w3.cell? ⟨b,off+i*5,none⟩=some (.int .i64 (P)):=(HB.out.cell (p:=⟨b,off+(i*5+0),none⟩) a).trans Q0.out;have T:w3.cell? ⟨b,off+i*5+1,none⟩=some (.string (mTx (P+1))):=(HB.out.cell (p:=⟨b,off+(i*5+1),none⟩) a).trans Q1.out;have U:w3.cell? ⟨b,off+i*5+2,none⟩=some (.slice A1 x.pattern.args.length c1):=(HB.out.cell (p:=⟨b,off+(i*5+2),none⟩) a).trans Q2.out;have S:w3.cell? ⟨b,off+i*5+3,none⟩=some (.string (mTx (Zg (P+1+1) x.pattern.args))):=(HB.out.cell (p:=⟨b,off+(i*5+3),none⟩) a).trans Q3.out
   have R:w3.cell? ⟨b,off+i*5+4,none⟩=some (.string (mTx (Zg (P+1+1) x.pattern.args+1))):=(HB.out.cell (p:=⟨b,off+(i*5+4),none⟩) a).trans Q4.out;replace d:b<w3.heap.size:=A9 a HB.out.size;go_wp2_with fail
   go_region_held3 (fun w'=>w'.cell? ⟨b,off+i*5+4,none⟩=some (.string (mTx (Zg (P+1+1) x.pattern.args+1)))) (first|go_keep|exact (u.cell (p:=⟨b,off+i*5+4,none⟩) d).trans R) (first|(go_at_call 44;refine (ZK _ _ yE yE).mono ?_;rintro e W ⟨rfl,u⟩));have HB:=yS (HB.out.trans (YH u HB.out.size));clear u;clear V T U S R;have V:W.cell? ⟨b,off+i*5,none⟩=some (.int .i64 (P)):=(HB.out.cell (p:=⟨b,off+(i*5+0),none⟩) a).trans Q0.out;have T:W.cell? ⟨b,off+i*5+1,none⟩=some (.string (mTx (P+1))):=(HB.out.cell (p:=⟨b,off+(i*5+1),none⟩) a).trans Q1.out;have U:W.cell? ⟨b,off+i*5+2,none⟩=some (.slice A1 x.pattern.args.length c1):=(HB.out.cell (p:=⟨b,off+(i*5+2),none⟩) a).trans Q2.out;have S:W.cell? ⟨b,off+i*5+3,none⟩=some (.string (mTx (Zg (P+1+1) x.pattern.args))):=(HB.out.cell (p:=⟨b,off+(i*5+3),none⟩) a).trans Q3.out
   have R:W.cell? ⟨b,off+i*5+4,none⟩=some (.string (mTx (Zg (P+1+1) x.pattern.args+1))):=(HB.out.cell (p:=⟨b,off+(i*5+4),none⟩) a).trans Q4.out;replace d:b<W.heap.size:=A9 a HB.out.size;go_wp2_with fail
   go_roundw
   case rel=>exact ⟨i+1,Xc P x,yE,by go_num,rfl,by unfold Xc;omega,HDn,HB⟩
   case measure=>simp [intOf];omega
  .obtain rfl:i=n:=by omega
   have hf:Hid (Yh k ds=P):=by
    obtain ⟨h1,_⟩:=HD.out;rw [Hid,<-h1,AE (by have:=HN.out;omega)];rfl
   go_wp2;go_ret;exact ⟨ZQ hf.out.symm,HB.out⟩
theorem Znp (A:Option Addr) (n c:Nat) (ds:List ZV) (L:List Nat) (k:Int) (w:World) (W:n=ds.length) (hm:n<=9223372036854775807) (F:1<=k) (t:Yg k ds<=4611686018427387904) (h:Sli YT w A (YZ k ds) L):
  Calls prog 86 #[.slice A n c,.int .i64 k] w fun e w'=>e=.returned (.int .i64 (Yg k ds))/\Below w.heap.size w w':=by
 have H:=yS h;have HN:=yS W;have HK:=yS t;clear h W t;go_enter func86,ntmps86;go_wp2;go_loopw [1,5] (fun q j wr=>∃(i:Nat) (N:Int),i<=n/\j=.int .i64 i/\q=.int .i64 N/\1<=N/\Hid (Yg N (ds.drop i)=Yg k ds/\(YZ k ds).drop i=YZ N (ds.drop i))/\Hid (Below w.heap.size w wr)) (fun _ j _=>n - (intOf j).toNat)
 case atStart=>exact ⟨0,k,AD _,rfl,rfl,F,⟨rfl,rfl⟩,Below.refl _ _⟩
 case round=>
  obtain ⟨i,N,hi,rfl,rfl,h1,HD,HB⟩:=hrel;by_cases aa:i<n
  .have u:i<ds.length:=by have:=HN.out;omega
   obtain ⟨d,v⟩:=HD.out;have z:i<(YZ k ds).length:=by rw [ZgF];exact u
   obtain ⟨b,off,cs,Lk,rfl,G,I,f,T⟩:=H.out.at_ z;rw [A6 z,A6 u,YZ]at v;injection v with e1 e2;rw [e1]at f;clear e1;have g:ds.drop i=ds[i]::ds.drop (i+1):=A6 _;rw [g]at d;clear g;generalize ds[i]=x at f d e2
   have J:Hid (Yn N x<=4611686018427387904):=by
    have:=ZbC (Yn N x) (ds.drop (i+1));have hk:=HK.out;rw [<-d]at hk;exact AF this hk
   have B:=J.out;have C:=Zgz N x;unfold Yn at B C;have HDn:Hid (Yg (Yn N x) (ds.drop (i+1))=Yg k ds/\(YZ k ds).drop (i+1)=YZ (Yn N x) (ds.drop (i+1))):=⟨d,e2⟩
   have a:b<w.heap.size:=H.out.lt b G;clear d e2;obtain ⟨A1,U,L1,rfl,K,t0,n1,m1,V⟩:=f;have S1:=yS V;have M:Hid (∀y∈L1,y<w.heap.size):=fun y m=>H.out.lt y (I y (by rw [K];simp [m]));have D:(Zen N x).pattern.args.length=x.pattern.args.length:=YY _ _;clear V;have Q0:=yS (T 0 _ rfl);have Q1:=yS (T 1 _ rfl);have Q2:=yS (T 2 _ rfl);unfold maxLen at m1;rw [D]at Q2 n1;clear T D;have i0:(0:Int)<=i:=by omega
   have i1:(i:Int)<n:=by omega
   have mono_x_pattern_args:=Yc (N+1+1) x.pattern.args;have S:wr.cell? ⟨b,off+i*3,none⟩=some (.int .i64 (N)):=(HB.out.cell (p:=⟨b,off+(i*3+0),none⟩) a).trans Q0.out;have O:wr.cell? ⟨b,off+i*3+1,none⟩=some (.string (mTx (N+1))):=(HB.out.cell (p:=⟨b,off+(i*3+1),none⟩) a).trans Q1.out;have R:wr.cell? ⟨b,off+i*3+2,none⟩=some (.slice A1 x.pattern.args.length U):=(HB.out.cell (p:=⟨b,off+(i*3+2),none⟩) a).trans Q2.out;have l:b<wr.heap.size:=A9 a HB.out.size;go_wp2_with fail
   go_region_held3 (fun w'=>w'.cell? ⟨b,off+i*3+1,none⟩=some (.string (mTx (N+1)))) (first|go_keep|exact (o.cell (p:=⟨b,off+i*3+1,none⟩) l).trans O) (first|(go_at_call 44;refine (ZK _ _ yE yE).mono ?_;rintro e P ⟨rfl,o⟩));have HB:=yS (HB.out.trans (YH o HB.out.size));clear o;clear S O R;have S:P.cell? ⟨b,off+i*3,none⟩=some (.int .i64 (N)):=(HB.out.cell (p:=⟨b,off+(i*3+0),none⟩) a).trans Q0.out;have O:P.cell? ⟨b,off+i*3+1,none⟩=some (.string (mTx (N+1))):=(HB.out.cell (p:=⟨b,off+(i*3+1),none⟩) a).trans Q1.out;have R:P.cell? ⟨b,off+i*3+2,none⟩=some (.slice A1 x.pattern.args.length U):=(HB.out.cell (p:=⟨b,off+(i*3+2),none⟩) a).trans Q2.out;replace l:b<P.heap.size:=A9 a HB.out.size;go_wp2_with fail
   refine (ZaN A1 _ U x.pattern.args L1 _ _ rfl yE yE (S1.out.keep (Zr HB.out M.out))).mono ?_;rintro e w2 ⟨rfl,E⟩;have HB:=yS (HB.out.trans (E.mono HB.out.size));clear E;clear S O R;have S:w2.cell? ⟨b,off+i*3,none⟩=some (.int .i64 (N)):=(HB.out.cell (p:=⟨b,off+(i*3+0),none⟩) a).trans Q0.out;have O:w2.cell? ⟨b,off+i*3+1,none⟩=some (.string (mTx (N+1))):=(HB.out.cell (p:=⟨b,off+(i*3+1),none⟩) a).trans Q1.out;have R:w2.cell? ⟨b,off+i*3+2,none⟩=some (.slice A1 x.pattern.args.length U):=(HB.out.cell (p:=⟨b,off+(i*3+2),none⟩) a).trans Q2.out;replace l:b<w2.heap.size:=A9 a HB.out.size;have ab:¬(Zg (N+1+1) x.pattern.args<0):=by omega
   go_wp2_with fail
   go_roundw
   case rel=>exact ⟨i+1,Yn N x,yE,by go_num,rfl,by unfold Yn;omega,HDn,HB⟩
   case measure=>simp [intOf];omega
  .obtain rfl:i=n:=by omega
   have hf:Hid (Yg k ds=N):=by
    obtain ⟨h1,_⟩:=HD.out;rw [Hid,<-h1,AE (by have:=HN.out;omega)];rfl
   go_wp2;go_ret;exact ⟨ZQ hf.out.symm,HB.out⟩
theorem Zqr (A:Option Addr) (n c:Nat) (ds:List Zq) (L:List Nat) (k:Int) (w:World) (hn:n=ds.length) (hm:n<=9223372036854775807) (K:1<=k) (t:Zw k ds<=4611686018427387904) (h:Sli X6 w A (XJ k ds) L):
  Calls prog 46 #[.slice A n c,.int .i64 k] w fun e w'=>e=.returned (.int .i64 (Zw k ds))/\Below w.heap.size w w':=by
 have H:=yS h;have HN:=yS hn;have HK:=yS t;clear h hn t;go_enter func46,ntmps46;go_wp2;go_loopw [1,5] (fun q j wr=>∃(i:Nat) (R:Int),i<=n/\j=.int .i64 i/\q=.int .i64 R/\1<=R/\Hid (Zw R (ds.drop i)=Zw k ds/\(XJ k ds).drop i=XJ R (ds.drop i))/\Hid (Below w.heap.size w wr)) (fun _ j _=>n - (intOf j).toNat)
 case atStart=>exact ⟨0,k,AD _,rfl,rfl,K,⟨rfl,rfl⟩,Below.refl _ _⟩
 case round=>
  obtain ⟨i,R,hi,rfl,rfl,h1,HD,HB⟩:=hrel;by_cases aa:i<n
  .have u:i<ds.length:=by have:=HN.out;omega
   obtain ⟨d,v⟩:=HD.out;have z:i<(XJ k ds).length:=by rw [Zf8];exact u
   obtain ⟨b,off,cs,Lk,rfl,M,B,f,hc⟩:=H.out.at_ z;rw [A6 z,A6 u,XJ]at v;injection v with e1 e2;rw [e1]at f;clear e1;have g:ds.drop i=ds[i]::ds.drop (i+1):=A6 _;rw [g]at d;clear g;generalize ds[i]=x at f d e2
   have N:Hid (Y9 R x<=4611686018427387904):=by
    have:=Zc4 (Y9 R x) (ds.drop (i+1));have hk:=HK.out;rw [<-d]at hk;exact AF this hk
   have C:=N.out;have D:=Zjq R x;unfold Y9 at C D;have HDn:Hid (Zw (Y9 R x) (ds.drop (i+1))=Zw k ds/\(XJ k ds).drop (i+1)=XJ (Y9 R x) (ds.drop (i+1))):=⟨d,e2⟩
   have a:b<w.heap.size:=H.out.lt b M;clear d e2;obtain ⟨A1,c1,L1,A2,c2,L2,rfl,E,t0,n1,m1,s1,n2,m2,s2⟩:=f;have S1:=yS s1;have O:Hid (∀y∈L1,y<w.heap.size):=fun y m=>H.out.lt y (B y (by rw [E];simp [m]));have F:(ZhQ R x).cond.length=x.cond.length:=Zih _ _;clear s1;have S2:=yS s2;have P:Hid (∀y∈L2,y<w.heap.size):=fun y m=>H.out.lt y (B y (by rw [E];simp [m]));have G:(ZhQ R x).thn.length=x.thn.length:=ZgF _ _;clear s2;have Q0:=yS (hc 0 _ rfl);have Q1:=yS (hc 1 _ rfl);have Q2:=yS (hc 2 _ rfl);have Q3:=yS (hc 3 _ rfl);unfold maxLen at m1 m2;rw [F]at Q2 n1;rw [G]at Q3 n2;clear hc F G;have i0:(0:Int)<=i:=by omega
   have i1:(i:Int)<n:=by omega
   have mono_x_cond:=Zdp (R+1+1) x.cond;have mono_x_thn:=ZbC (Yh (R+1+1) x.cond) x.thn;have S:wr.cell? ⟨b,off+i*4,none⟩=some (.string (mTx (R))):=(HB.out.cell (p:=⟨b,off+(i*4+0),none⟩) a).trans Q0.out;have V:wr.cell? ⟨b,off+i*4+1,none⟩=some (.int .i64 (R+1)):=(HB.out.cell (p:=⟨b,off+(i*4+1),none⟩) a).trans Q1.out;have U:wr.cell? ⟨b,off+i*4+2,none⟩=some (.slice A1 x.cond.length c1):=(HB.out.cell (p:=⟨b,off+(i*4+2),none⟩) a).trans Q2.out;have T:wr.cell? ⟨b,off+i*4+3,none⟩=some (.slice A2 x.thn.length c2):=(HB.out.cell (p:=⟨b,off+(i*4+3),none⟩) a).trans Q3.out;have l:b<wr.heap.size:=A9 a HB.out.size;go_wp2_with fail
   go_region_held3 (fun w'=>w'.cell? ⟨b,off+i*4,none⟩=some (.string (mTx (R)))) (first|go_keep|exact (o.cell (p:=⟨b,off+i*4,none⟩) l).trans S) (first|(go_at_call 44;refine (ZK _ _ yE yE).mono ?_;rintro e w1 ⟨rfl,o⟩));have HB:=yS (HB.out.trans (YH o HB.out.size));clear o;clear S V U T;have S:w1.cell? ⟨b,off+i*4,none⟩=some (.string (mTx (R))):=(HB.out.cell (p:=⟨b,off+(i*4+0),none⟩) a).trans Q0.out;have V:w1.cell? ⟨b,off+i*4+1,none⟩=some (.int .i64 (R+1)):=(HB.out.cell (p:=⟨b,off+(i*4+1),none⟩) a).trans Q1.out;have U:w1.cell? ⟨b,off+i*4+2,none⟩=some (.slice A1 x.cond.length c1):=(HB.out.cell (p:=⟨b,off+(i*4+2),none⟩) a).trans Q2.out;have T:w1.cell? ⟨b,off+i*4+3,none⟩=some (.slice A2 x.thn.length c2):=(HB.out.cell (p:=⟨b,off+(i*4+3),none⟩) a).trans Q3.out;replace l:b<w1.heap.size:=A9 a HB.out.size;go_wp2_with fail
   refine (ZpP A1 _ c1 x.cond L1 _ _ rfl yE yE yE (S1.out.keep (Zr HB.out O.out))).mono ?_;rintro e w2 ⟨rfl,I⟩;have HB:=yS (HB.out.trans (I.mono HB.out.size));clear I;clear S V U T;have S:w2.cell? ⟨b,off+i*4,none⟩=some (.string (mTx (R))):=(HB.out.cell (p:=⟨b,off+(i*4+0),none⟩) a).trans Q0.out;have V:w2.cell? ⟨b,off+i*4+1,none⟩=some (.int .i64 (R+1)):=(HB.out.cell (p:=⟨b,off+(i*4+1),none⟩) a).trans Q1.out;have U:w2.cell? ⟨b,off+i*4+2,none⟩=some (.slice A1 x.cond.length c1):=(HB.out.cell (p:=⟨b,off+(i*4+2),none⟩) a).trans Q2.out;have T:w2.cell? ⟨b,off+i*4+3,none⟩=some (.slice A2 x.thn.length c2):=(HB.out.cell (p:=⟨b,off+(i*4+3),none⟩) a).trans Q3.out;replace l:b<w2.heap.size:=A9 a HB.out.size;have ac:¬(Yh (R+1+1) x.cond<0):=by omega
   go_wp2_with fail
   refine (Znp A2 _ c2 x.thn L2 _ _ rfl yE yE yE (S2.out.keep (Zr HB.out P.out))).mono ?_;rintro e W ⟨rfl,J⟩;have HB:=yS (HB.out.trans (J.mono HB.out.size));clear J;clear S V U T;have S:W.cell? ⟨b,off+i*4,none⟩=some (.string (mTx (R))):=(HB.out.cell (p:=⟨b,off+(i*4+0),none⟩) a).trans Q0.out;have V:W.cell? ⟨b,off+i*4+1,none⟩=some (.int .i64 (R+1)):=(HB.out.cell (p:=⟨b,off+(i*4+1),none⟩) a).trans Q1.out;have U:W.cell? ⟨b,off+i*4+2,none⟩=some (.slice A1 x.cond.length c1):=(HB.out.cell (p:=⟨b,off+(i*4+2),none⟩) a).trans Q2.out;have T:W.cell? ⟨b,off+i*4+3,none⟩=some (.slice A2 x.thn.length c2):=(HB.out.cell (p:=⟨b,off+(i*4+3),none⟩) a).trans Q3.out;replace l:b<W.heap.size:=A9 a HB.out.size;have ab:¬(Yg (Yh (R+1+1) x.cond) x.thn<0):=by omega
   go_wp2_with fail
   go_roundw
   case rel=>exact ⟨i+1,Y9 R x,yE,by go_num,rfl,by unfold Y9;omega,HDn,HB⟩
   case measure=>simp [intOf];omega
  .obtain rfl:i=n:=by omega
   have hf:Hid (Zw k ds=R):=by
    obtain ⟨h1,_⟩:=HD.out;rw [Hid,<-h1,AE (by have:=HN.out;omega)];rfl
   go_wp2;go_ret;exact ⟨ZQ hf.out.symm,HB.out⟩
theorem Zoo (A:Option Addr) (n c:Nat) (ds:List Zi) (L:List Nat) (k:Int) (w:World) (hn:n=ds.length) (hm:n<=9223372036854775807) (J:1<=k) (l:Yo k ds<=4611686018427387904) (h:Sli Yt w A (Xx k ds) L):
  Calls prog 88 #[.slice A n c,.int .i64 k] w fun e w'=>e=.returned (.int .i64 (Yo k ds))/\Below w.heap.size w w':=by
 have H:=yS h;have HN:=yS hn;have HK:=yS l;clear h hn l;go_enter func88,ntmps88;go_wp2;go_loopw [1,5] (fun q j wr=>∃(i:Nat) (P:Int),i<=n/\j=.int .i64 i/\q=.int .i64 P/\1<=P/\Hid (Yo P (ds.drop i)=Yo k ds/\(Xx k ds).drop i=Xx P (ds.drop i))/\Hid (Below w.heap.size w wr)) (fun _ j _=>n - (intOf j).toNat)
 case atStart=>exact ⟨0,k,AD _,rfl,rfl,J,⟨rfl,rfl⟩,Below.refl _ _⟩
 case round=>
  obtain ⟨i,P,hi,rfl,rfl,h1,HD,HB⟩:=hrel;by_cases aa:i<n
  .have o:i<ds.length:=by have:=HN.out;omega
   obtain ⟨d,t⟩:=HD.out;have u:i<(Xx k ds).length:=by rw [ZhI];exact o
   obtain ⟨b,off,cs,Lk,rfl,K,v,f,V⟩:=H.out.at_ u;rw [A6 u,A6 o,Xx]at t;injection t with e1 e2;rw [e1]at f;clear e1;have g:ds.drop i=ds[i]::ds.drop (i+1):=A6 _;rw [g]at d;clear g;generalize ds[i]=x at f d e2
   have M:Hid (YJ P x<=4611686018427387904):=by
    have:=Zca (YJ P x) (ds.drop (i+1));have hk:=HK.out;rw [<-d]at hk;exact AF this hk
   have z:=M.out;have B:=ZhH P x;unfold YJ at z B;have HDn:Hid (Yo (YJ P x) (ds.drop (i+1))=Yo k ds/\(Xx k ds).drop (i+1)=Xx (YJ P x) (ds.drop (i+1))):=⟨d,e2⟩
   have a:b<w.heap.size:=H.out.lt b K;clear d e2;obtain ⟨A1,T,L1,A2,c2,L2,rfl,C,n1,m1,s1,n2,m2,W⟩:=f;have S1:=yS s1;have N:Hid (∀y∈L1,y<w.heap.size):=fun y m=>H.out.lt y (v y (by rw [C];simp [m]));have D:(ZeS P x).facts.length=x.facts.length:=Zay _ _;clear s1;have S2:=yS W;have O:Hid (∀y∈L2,y<w.heap.size):=fun y m=>H.out.lt y (v y (by rw [C];simp [m]));have E:(ZeS P x).binding.length=x.binding.length:=Zjp _ _;clear W;have Q0:=yS (V 0 _ rfl);have Q1:=yS (V 1 _ rfl);unfold maxLen at m1 m2;rw [D]at Q0 n1;rw [E]at Q1 n2;clear V D E;have i0:(0:Int)<=i:=by omega
   have i1:(i:Int)<n:=by omega
   have mono_x_facts:=Xy (P) x.facts;have mono_x_binding:=Zdn (Z7 (P) x.facts) x.binding;have S:wr.cell? ⟨b,off+i*2,none⟩=some (.slice A1 x.facts.length T):=(HB.out.cell (p:=⟨b,off+(i*2+0),none⟩) a).trans Q0.out;have R:wr.cell? ⟨b,off+i*2+1,none⟩=some (.slice A2 x.binding.length c2):=(HB.out.cell (p:=⟨b,off+(i*2+1),none⟩) a).trans Q1.out;have F:b<wr.heap.size:=A9 a HB.out.size;go_wp2_with fail
   refine (Zgr A1 _ T x.facts L1 _ _ rfl yE yE yE (S1.out.keep (Zr HB.out N.out))).mono ?_;rintro e U ⟨rfl,G⟩;have HB:=yS (HB.out.trans (G.mono HB.out.size));clear G;clear S R;have S:U.cell? ⟨b,off+i*2,none⟩=some (.slice A1 x.facts.length T):=(HB.out.cell (p:=⟨b,off+(i*2+0),none⟩) a).trans Q0.out;have R:U.cell? ⟨b,off+i*2+1,none⟩=some (.slice A2 x.binding.length c2):=(HB.out.cell (p:=⟨b,off+(i*2+1),none⟩) a).trans Q1.out;replace F:b<U.heap.size:=A9 a HB.out.size;have ac:¬(Z7 (P) x.facts<0):=by omega
   go_wp2_with fail
   refine (Zqt A2 _ c2 x.binding L2 _ _ rfl yE yE yE (S2.out.keep (Zr HB.out O.out))).mono ?_;rintro e w2 ⟨rfl,I⟩;have HB:=yS (HB.out.trans (I.mono HB.out.size));clear I;clear S R;have S:w2.cell? ⟨b,off+i*2,none⟩=some (.slice A1 x.facts.length T):=(HB.out.cell (p:=⟨b,off+(i*2+0),none⟩) a).trans Q0.out;have R:w2.cell? ⟨b,off+i*2+1,none⟩=some (.slice A2 x.binding.length c2):=(HB.out.cell (p:=⟨b,off+(i*2+1),none⟩) a).trans Q1.out;replace F:b<w2.heap.size:=A9 a HB.out.size;have ab:¬(YG (Z7 (P) x.facts) x.binding<0):=by omega
   go_wp2_with fail
   go_roundw
   case rel=>exact ⟨i+1,YJ P x,yE,by go_num,rfl,by unfold YJ;omega,HDn,HB⟩
   case measure=>simp [intOf];omega
  .obtain rfl:i=n:=by omega
   have hf:Hid (Yo k ds=P):=by
    obtain ⟨h1,_⟩:=HD.out;rw [Hid,<-h1,AE (by have:=HN.out;omega)];rfl
   go_wp2;go_ret;exact ⟨ZQ hf.out.symm,HB.out⟩
theorem Zpg (A:Option Addr) (n c:Nat) (ds:List ZO) (L:List Nat) (k:Int) (w:World) (hn:n=ds.length) (hm:n<=9223372036854775807) (K:1<=k) (t:ZF k ds<=4611686018427387904) (h:Sli Xd w A (Y3 k ds) L):
  Calls prog 48 #[.slice A n c,.int .i64 k] w fun e w'=>e=.returned (.int .i64 (ZF k ds))/\Below w.heap.size w w':=by
 have H:=yS h;have HN:=yS hn;have HK:=yS t;clear h hn t;go_enter func48,ntmps48;go_wp2;go_loopw [1,5] (fun q j wr=>∃(i:Nat) (R:Int),i<=n/\j=.int .i64 i/\q=.int .i64 R/\1<=R/\Hid (ZF R (ds.drop i)=ZF k ds/\(Y3 k ds).drop i=Y3 R (ds.drop i))/\Hid (Below w.heap.size w wr)) (fun _ j _=>n - (intOf j).toNat)
 case atStart=>exact ⟨0,k,AD _,rfl,rfl,K,⟨rfl,rfl⟩,Below.refl _ _⟩
 case round=>
  obtain ⟨i,R,hi,rfl,rfl,h1,HD,HB⟩:=hrel;by_cases aa:i<n
  .have u:i<ds.length:=by have:=HN.out;omega
   obtain ⟨d,v⟩:=HD.out;have z:i<(Y3 k ds).length:=by rw [ZeO];exact u
   obtain ⟨b,off,cs,Lk,rfl,M,B,f,hc⟩:=H.out.at_ z;rw [A6 z,A6 u,Y3]at v;injection v with e1 e2;rw [e1]at f;clear e1;have g:ds.drop i=ds[i]::ds.drop (i+1):=A6 _;rw [g]at d;clear g;generalize ds[i]=x at f d e2
   have N:Hid (YK R x<=4611686018427387904):=by
    have:=Zcb (YK R x) (ds.drop (i+1));have hk:=HK.out;rw [<-d]at hk;exact AF this hk
   have C:=N.out;have D:=Zhu R x;unfold YK at C D;have HDn:Hid (ZF (YK R x) (ds.drop (i+1))=ZF k ds/\(Y3 k ds).drop (i+1)=Y3 (YK R x) (ds.drop (i+1))):=⟨d,e2⟩
   have a:b<w.heap.size:=H.out.lt b M;clear d e2;obtain ⟨A1,V,L1,A2,c2,L2,rfl,E,t0,n1,m1,s1,n2,m2,s2⟩:=f;have S1:=yS s1;have O:Hid (∀y∈L1,y<w.heap.size):=fun y m=>H.out.lt y (B y (by rw [E];simp [m]));have F:(ZeR R x).shape.args.length=x.shape.args.length:=YY _ _;clear s1;have S2:=yS s2;have P:Hid (∀y∈L2,y<w.heap.size):=fun y m=>H.out.lt y (B y (by rw [E];simp [m]));have G:(ZeR R x).facts.length=x.facts.length:=Zay _ _;clear s2;have Q0:=yS (hc 0 _ rfl);have Q1:=yS (hc 1 _ rfl);have Q2:=yS (hc 2 _ rfl);unfold maxLen at m1 m2;rw [F]at Q1 n1;rw [G]at Q2 n2;clear hc F G;have i0:(0:Int)<=i:=by omega
   have i1:(i:Int)<n:=by omega
   have mono_x_shape_args:=Yc (R+1) x.shape.args;have mono_x_facts:=Xy (Zg (R+1) x.shape.args) x.facts;have S:wr.cell? ⟨b,off+i*3,none⟩=some (.string (mTx (R))):=(HB.out.cell (p:=⟨b,off+(i*3+0),none⟩) a).trans Q0.out;have U:wr.cell? ⟨b,off+i*3+1,none⟩=some (.slice A1 x.shape.args.length V):=(HB.out.cell (p:=⟨b,off+(i*3+1),none⟩) a).trans Q1.out;have T:wr.cell? ⟨b,off+i*3+2,none⟩=some (.slice A2 x.facts.length c2):=(HB.out.cell (p:=⟨b,off+(i*3+2),none⟩) a).trans Q2.out;have l:b<wr.heap.size:=A9 a HB.out.size;go_wp2_with fail
   go_region_held3 (fun w'=>w'.cell? ⟨b,off+i*3,none⟩=some (.string (mTx (R)))) (first|go_keep|exact (o.cell (p:=⟨b,off+i*3,none⟩) l).trans S) (first|(go_at_call 44;refine (ZK _ _ yE yE).mono ?_;rintro e w1 ⟨rfl,o⟩));have HB:=yS (HB.out.trans (YH o HB.out.size));clear o;clear S U T;have S:w1.cell? ⟨b,off+i*3,none⟩=some (.string (mTx (R))):=(HB.out.cell (p:=⟨b,off+(i*3+0),none⟩) a).trans Q0.out;have U:w1.cell? ⟨b,off+i*3+1,none⟩=some (.slice A1 x.shape.args.length V):=(HB.out.cell (p:=⟨b,off+(i*3+1),none⟩) a).trans Q1.out;have T:w1.cell? ⟨b,off+i*3+2,none⟩=some (.slice A2 x.facts.length c2):=(HB.out.cell (p:=⟨b,off+(i*3+2),none⟩) a).trans Q2.out;replace l:b<w1.heap.size:=A9 a HB.out.size;go_wp2_with fail
   refine (ZaN A1 _ V x.shape.args L1 _ _ rfl yE yE (S1.out.keep (Zr HB.out O.out))).mono ?_;rintro e w2 ⟨rfl,I⟩;have HB:=yS (HB.out.trans (I.mono HB.out.size));clear I;clear S U T;have S:w2.cell? ⟨b,off+i*3,none⟩=some (.string (mTx (R))):=(HB.out.cell (p:=⟨b,off+(i*3+0),none⟩) a).trans Q0.out;have U:w2.cell? ⟨b,off+i*3+1,none⟩=some (.slice A1 x.shape.args.length V):=(HB.out.cell (p:=⟨b,off+(i*3+1),none⟩) a).trans Q1.out;have T:w2.cell? ⟨b,off+i*3+2,none⟩=some (.slice A2 x.facts.length c2):=(HB.out.cell (p:=⟨b,off+(i*3+2),none⟩) a).trans Q2.out;replace l:b<w2.heap.size:=A9 a HB.out.size;have ac:¬(Zg (R+1) x.shape.args<0):=by omega
   go_wp2_with fail
   refine (Zgr A2 _ c2 x.facts L2 _ _ rfl yE yE yE (S2.out.keep (Zr HB.out P.out))).mono ?_;rintro e W ⟨rfl,J⟩;have HB:=yS (HB.out.trans (J.mono HB.out.size));clear J;clear S U T;have S:W.cell? ⟨b,off+i*3,none⟩=some (.string (mTx (R))):=(HB.out.cell (p:=⟨b,off+(i*3+0),none⟩) a).trans Q0.out;have U:W.cell? ⟨b,off+i*3+1,none⟩=some (.slice A1 x.shape.args.length V):=(HB.out.cell (p:=⟨b,off+(i*3+1),none⟩) a).trans Q1.out;have T:W.cell? ⟨b,off+i*3+2,none⟩=some (.slice A2 x.facts.length c2):=(HB.out.cell (p:=⟨b,off+(i*3+2),none⟩) a).trans Q2.out;replace l:b<W.heap.size:=A9 a HB.out.size;have ab:¬(Z7 (Zg (R+1) x.shape.args) x.facts<0):=by omega
   go_wp2_with fail
   go_roundw
   case rel=>exact ⟨i+1,YK R x,yE,by go_num,rfl,by unfold YK;omega,HDn,HB⟩
   case measure=>simp [intOf];omega
  .obtain rfl:i=n:=by omega
   have hf:Hid (ZF k ds=R):=by
    obtain ⟨h1,_⟩:=HD.out;rw [Hid,<-h1,AE (by have:=HN.out;omega)];rfl
   go_wp2;go_ret;exact ⟨ZQ hf.out.symm,HB.out⟩
theorem ZpE (A:Option Addr) (n c:Nat) (ds:List ZA) (L:List Nat) (k:Int) (w:World) (hn:n=ds.length) (hm:n<=9223372036854775807) (N:1<=k) (v:Yb k ds<=4611686018427387904) (h:Sli QC w A (XI k ds) L):
  Calls prog 49 #[.slice A n c,.int .i64 k] w fun e w'=>e=.returned (.int .i64 (Yb k ds))/\Below w.heap.size w w':=by
 have H:=yS h;have HN:=yS hn;have HK:=yS v;clear h hn v;go_enter func49,ntmps49;go_wp2;go_loopw [1,5] (fun q j wr=>∃(i:Nat) (S:Int),i<=n/\j=.int .i64 i/\q=.int .i64 S/\1<=S/\Hid (Yb S (ds.drop i)=Yb k ds/\(XI k ds).drop i=XI S (ds.drop i))/\Hid (Below w.heap.size w wr)) (fun _ j _=>n - (intOf j).toNat)
 case atStart=>exact ⟨0,k,AD _,rfl,rfl,N,⟨rfl,rfl⟩,Below.refl _ _⟩
 case round=>
  obtain ⟨i,S,hi,rfl,rfl,h1,HD,HB⟩:=hrel;by_cases aa:i<n
  .have z:i<ds.length:=by have:=HN.out;omega
   obtain ⟨f,B⟩:=HD.out;have C:i<(XI k ds).length:=by rw [Zf0];exact z
   obtain ⟨b,off,cs,Lk,rfl,O,D,g,hc⟩:=H.out.at_ C;rw [A6 C,A6 z,XI]at B;injection B with e1 e2;rw [e1]at g;clear e1;have l:ds.drop i=ds[i]::ds.drop (i+1):=A6 _;rw [l]at f;clear l;generalize ds[i]=x at g f e2
   have P:Hid (Xf S x<=4611686018427387904):=by
    have:=Zc5 (Xf S x) (ds.drop (i+1));have hk:=HK.out;rw [<-f]at hk;exact AF this hk
   have E:=P.out;have F:=ZiJ S x;unfold Xf at E F;have HDn:Hid (Yb (Xf S x) (ds.drop (i+1))=Yb k ds/\(XI k ds).drop (i+1)=XI (Xf S x) (ds.drop (i+1))):=⟨f,e2⟩
   have a:b<w.heap.size:=H.out.lt b O;clear f e2;obtain ⟨A1,c1,L1,A2,c2,L2,rfl,G,t0,t1,t2,n1,m1,s1,n2,m2,s2⟩:=g;have S1:=yS s1;have Q:Hid (∀y∈L1,y<w.heap.size):=fun y m=>H.out.lt y (D y (by rw [G];simp [m]));have I:(Zho S x).cond.pattern.args.length=x.cond.pattern.args.length:=YY _ _;clear s1;have S2:=yS s2;have R:Hid (∀y∈L2,y<w.heap.size):=fun y m=>H.out.lt y (D y (by rw [G];simp [m]));have J:(Zho S x).tokens.length=x.tokens.length:=ZhI _ _;clear s2;have Q0:=yS (hc 0 _ rfl);have Q1:=yS (hc 1 _ rfl);have Q2:=yS (hc 2 _ rfl);have Q3:=yS (hc 3 _ rfl);have Q4:=yS (hc 4 _ rfl);have Q5:=yS (hc 5 _ rfl);have Q6:=yS (hc 6 _ rfl);have Q7:=yS (hc 7 _ rfl);unfold maxLen at m1 m2;rw [I]at Q3 n1;rw [J]at Q7 n2;clear hc I J;have i0:(0:Int)<=i:=by omega
   have i1:(i:Int)<n:=by omega
   have mono_x_cond_pattern_args:=Yc (S+1+1+1) x.cond.pattern.args;have mono_x_tokens:=Zca (Zg (S+1+1+1) x.cond.pattern.args+1+1+1) x.tokens;have q0:wr.cell? ⟨b,off+i*8,none⟩=some (.int .i64 (S)):=(HB.out.cell (p:=⟨b,off+(i*8+0),none⟩) a).trans Q0.out;have q1:wr.cell? ⟨b,off+i*8+1,none⟩=some (.int .i64 (S+1)):=(HB.out.cell (p:=⟨b,off+(i*8+1),none⟩) a).trans Q1.out;have V:wr.cell? ⟨b,off+i*8+2,none⟩=some (.string (mTx (S+1+1))):=(HB.out.cell (p:=⟨b,off+(i*8+2),none⟩) a).trans Q2.out;have q3:wr.cell? ⟨b,off+i*8+3,none⟩=some (.slice A1 x.cond.pattern.args.length c1):=(HB.out.cell (p:=⟨b,off+(i*8+3),none⟩) a).trans Q3.out;have U:wr.cell? ⟨b,off+i*8+4,none⟩=some (.string (mTx (Zg (S+1+1+1) x.cond.pattern.args))):=(HB.out.cell (p:=⟨b,off+(i*8+4),none⟩) a).trans Q4.out
   have T:wr.cell? ⟨b,off+i*8+5,none⟩=some (.string (mTx (Zg (S+1+1+1) x.cond.pattern.args+1))):=(HB.out.cell (p:=⟨b,off+(i*8+5),none⟩) a).trans Q5.out;have q6:wr.cell? ⟨b,off+i*8+6,none⟩=some (.int .i64 (Zg (S+1+1+1) x.cond.pattern.args+1+1)):=(HB.out.cell (p:=⟨b,off+(i*8+6),none⟩) a).trans Q6.out;have W:wr.cell? ⟨b,off+i*8+7,none⟩=some (.slice A2 x.tokens.length c2):=(HB.out.cell (p:=⟨b,off+(i*8+7),none⟩) a).trans Q7.out;have d:b<wr.heap.size:=A9 a HB.out.size;go_wp2_with fail
   go_region_held3 (fun w'=>w'.cell? ⟨b,off+i*8+2,none⟩=some (.string (mTx (S+1+1)))) (first|go_keep|exact (o.cell (p:=⟨b,off+i*8+2,none⟩) d).trans V) (first|(go_at_call 44;refine (ZK _ _ yE yE).mono ?_;rintro e w1 ⟨rfl,o⟩));have HB:=yS (HB.out.trans (YH o HB.out.size));clear o;clear q0 q1 V q3 U T q6 W;have q0:w1.cell? ⟨b,off+i*8,none⟩=some (.int .i64 (S)):=(HB.out.cell (p:=⟨b,off+(i*8+0),none⟩) a).trans Q0.out;have q1:w1.cell? ⟨b,off+i*8+1,none⟩=some (.int .i64 (S+1)):=(HB.out.cell (p:=⟨b,off+(i*8+1),none⟩) a).trans Q1.out;have V:w1.cell? ⟨b,off+i*8+2,none⟩=some (.string (mTx (S+1+1))):=(HB.out.cell (p:=⟨b,off+(i*8+2),none⟩) a).trans Q2.out;have q3:w1.cell? ⟨b,off+i*8+3,none⟩=some (.slice A1 x.cond.pattern.args.length c1):=(HB.out.cell (p:=⟨b,off+(i*8+3),none⟩) a).trans Q3.out
   have U:w1.cell? ⟨b,off+i*8+4,none⟩=some (.string (mTx (Zg (S+1+1+1) x.cond.pattern.args))):=(HB.out.cell (p:=⟨b,off+(i*8+4),none⟩) a).trans Q4.out;have T:w1.cell? ⟨b,off+i*8+5,none⟩=some (.string (mTx (Zg (S+1+1+1) x.cond.pattern.args+1))):=(HB.out.cell (p:=⟨b,off+(i*8+5),none⟩) a).trans Q5.out;have q6:w1.cell? ⟨b,off+i*8+6,none⟩=some (.int .i64 (Zg (S+1+1+1) x.cond.pattern.args+1+1)):=(HB.out.cell (p:=⟨b,off+(i*8+6),none⟩) a).trans Q6.out;have W:w1.cell? ⟨b,off+i*8+7,none⟩=some (.slice A2 x.tokens.length c2):=(HB.out.cell (p:=⟨b,off+(i*8+7),none⟩) a).trans Q7.out;replace d:b<w1.heap.size:=A9 a HB.out.size;go_wp2_with fail
   refine (ZaN A1 _ c1 x.cond.pattern.args L1 _ _ rfl yE yE (S1.out.keep (Zr HB.out Q.out))).mono ?_;rintro e w2 ⟨rfl,K⟩;have HB:=yS (HB.out.trans (K.mono HB.out.size));clear K;clear q0 q1 V q3 U T q6 W;have q0:w2.cell? ⟨b,off+i*8,none⟩=some (.int .i64 (S)):=(HB.out.cell (p:=⟨b,off+(i*8+0),none⟩) a).trans Q0.out;have q1:w2.cell? ⟨b,off+i*8+1,none⟩=some (.int .i64 (S+1)):=(HB.out.cell (p:=⟨b,off+(i*8+1),none⟩) a).trans Q1.out;have V:w2.cell? ⟨b,off+i*8+2,none⟩=some (.string (mTx (S+1+1))):=(HB.out.cell (p:=⟨b,off+(i*8+2),none⟩) a).trans Q2.out;have q3:w2.cell? ⟨b,off+i*8+3,none⟩=some (.slice A1 x.cond.pattern.args.length c1):=(HB.out.cell (p:=⟨b,off+(i*8+3),none⟩) a).trans Q3.out;have U:w2.cell? ⟨b,off+i*8+4,none⟩=some (.string (mTx (Zg (S+1+1+1) x.cond.pattern.args))):=(HB.out.cell (p:=⟨b,off+(i*8+4),none⟩) a).trans Q4.out
   have T:w2.cell? ⟨b,off+i*8+5,none⟩=some (.string (mTx (Zg (S+1+1+1) x.cond.pattern.args+1))):=(HB.out.cell (p:=⟨b,off+(i*8+5),none⟩) a).trans Q5.out;have q6:w2.cell? ⟨b,off+i*8+6,none⟩=some (.int .i64 (Zg (S+1+1+1) x.cond.pattern.args+1+1)):=(HB.out.cell (p:=⟨b,off+(i*8+6),none⟩) a).trans Q6.out;have W:w2.cell? ⟨b,off+i*8+7,none⟩=some (.slice A2 x.tokens.length c2):=(HB.out.cell (p:=⟨b,off+(i*8+7),none⟩) a).trans Q7.out;replace d:b<w2.heap.size:=A9 a HB.out.size;have ac:¬(Zg (S+1+1+1) x.cond.pattern.args<0):=by omega
   go_wp2_with fail
   go_region_held3 (fun w'=>w'.cell? ⟨b,off+i*8+4,none⟩=some (.string (mTx (Zg (S+1+1+1) x.cond.pattern.args)))) (first|go_keep|exact (t.cell (p:=⟨b,off+i*8+4,none⟩) d).trans U) (first|(go_at_call 44;refine (ZK _ _ yE yE).mono ?_;rintro e w3 ⟨rfl,t⟩));have HB:=yS (HB.out.trans (YH t HB.out.size));clear t;clear q0 q1 V q3 U T q6 W;have q0:w3.cell? ⟨b,off+i*8,none⟩=some (.int .i64 (S)):=(HB.out.cell (p:=⟨b,off+(i*8+0),none⟩) a).trans Q0.out;have q1:w3.cell? ⟨b,off+i*8+1,none⟩=some (.int .i64 (S+1)):=(HB.out.cell (p:=⟨b,off+(i*8+1),none⟩) a).trans Q1.out;have V:w3.cell? ⟨b,off+i*8+2,none⟩=some (.string (mTx (S+1+1))):=(HB.out.cell (p:=⟨b,off+(i*8+2),none⟩) a).trans Q2.out;have q3:w3.cell? ⟨b,off+i*8+3,none⟩=some (.slice A1 x.cond.pattern.args.length c1):=(HB.out.cell (p:=⟨b,off+(i*8+3),none⟩) a).trans Q3.out
   have U:w3.cell? ⟨b,off+i*8+4,none⟩=some (.string (mTx (Zg (S+1+1+1) x.cond.pattern.args))):=(HB.out.cell (p:=⟨b,off+(i*8+4),none⟩) a).trans Q4.out;have T:w3.cell? ⟨b,off+i*8+5,none⟩=some (.string (mTx (Zg (S+1+1+1) x.cond.pattern.args+1))):=(HB.out.cell (p:=⟨b,off+(i*8+5),none⟩) a).trans Q5.out;have q6:w3.cell? ⟨b,off+i*8+6,none⟩=some (.int .i64 (Zg (S+1+1+1) x.cond.pattern.args+1+1)):=(HB.out.cell (p:=⟨b,off+(i*8+6),none⟩) a).trans Q6.out;have W:w3.cell? ⟨b,off+i*8+7,none⟩=some (.slice A2 x.tokens.length c2):=(HB.out.cell (p:=⟨b,off+(i*8+7),none⟩) a).trans Q7.out;replace d:b<w3.heap.size:=A9 a HB.out.size;go_wp2_with fail
   go_region_held3 (fun w'=>w'.cell? ⟨b,off+i*8+5,none⟩=some (.string (mTx (Zg (S+1+1+1) x.cond.pattern.args+1)))) (first|go_keep|exact (u.cell (p:=⟨b,off+i*8+5,none⟩) d).trans T) (first|(go_at_call 44;refine (ZK _ _ yE yE).mono ?_;rintro e w4 ⟨rfl,u⟩));have HB:=yS (HB.out.trans (YH u HB.out.size));clear u;clear q0 q1 V q3 U T q6 W;have q0:w4.cell? ⟨b,off+i*8,none⟩=some (.int .i64 (S)):=(HB.out.cell (p:=⟨b,off+(i*8+0),none⟩) a).trans Q0.out;have q1:w4.cell? ⟨b,off+i*8+1,none⟩=some (.int .i64 (S+1)):=(HB.out.cell (p:=⟨b,off+(i*8+1),none⟩) a).trans Q1.out;have V:w4.cell? ⟨b,off+i*8+2,none⟩=some (.string (mTx (S+1+1))):=(HB.out.cell (p:=⟨b,off+(i*8+2),none⟩) a).trans Q2.out;have q3:w4.cell? ⟨b,off+i*8+3,none⟩=some (.slice A1 x.cond.pattern.args.length c1):=(HB.out.cell (p:=⟨b,off+(i*8+3),none⟩) a).trans Q3.out
   have U:w4.cell? ⟨b,off+i*8+4,none⟩=some (.string (mTx (Zg (S+1+1+1) x.cond.pattern.args))):=(HB.out.cell (p:=⟨b,off+(i*8+4),none⟩) a).trans Q4.out;have T:w4.cell? ⟨b,off+i*8+5,none⟩=some (.string (mTx (Zg (S+1+1+1) x.cond.pattern.args+1))):=(HB.out.cell (p:=⟨b,off+(i*8+5),none⟩) a).trans Q5.out;have q6:w4.cell? ⟨b,off+i*8+6,none⟩=some (.int .i64 (Zg (S+1+1+1) x.cond.pattern.args+1+1)):=(HB.out.cell (p:=⟨b,off+(i*8+6),none⟩) a).trans Q6.out;have W:w4.cell? ⟨b,off+i*8+7,none⟩=some (.slice A2 x.tokens.length c2):=(HB.out.cell (p:=⟨b,off+(i*8+7),none⟩) a).trans Q7.out;replace d:b<w4.heap.size:=A9 a HB.out.size;go_wp2_with fail
   refine (Zoo A2 _ c2 x.tokens L2 _ _ rfl yE yE yE (S2.out.keep (Zr HB.out R.out))).mono ?_;rintro e w5 ⟨rfl,M⟩;have HB:=yS (HB.out.trans (M.mono HB.out.size));clear M;clear q0 q1 V q3 U T q6 W;have q0:w5.cell? ⟨b,off+i*8,none⟩=some (.int .i64 (S)):=(HB.out.cell (p:=⟨b,off+(i*8+0),none⟩) a).trans Q0.out;have q1:w5.cell? ⟨b,off+i*8+1,none⟩=some (.int .i64 (S+1)):=(HB.out.cell (p:=⟨b,off+(i*8+1),none⟩) a).trans Q1.out;have V:w5.cell? ⟨b,off+i*8+2,none⟩=some (.string (mTx (S+1+1))):=(HB.out.cell (p:=⟨b,off+(i*8+2),none⟩) a).trans Q2.out;have q3:w5.cell? ⟨b,off+i*8+3,none⟩=some (.slice A1 x.cond.pattern.args.length c1):=(HB.out.cell (p:=⟨b,off+(i*8+3),none⟩) a).trans Q3.out;have U:w5.cell? ⟨b,off+i*8+4,none⟩=some (.string (mTx (Zg (S+1+1+1) x.cond.pattern.args))):=(HB.out.cell (p:=⟨b,off+(i*8+4),none⟩) a).trans Q4.out
   have T:w5.cell? ⟨b,off+i*8+5,none⟩=some (.string (mTx (Zg (S+1+1+1) x.cond.pattern.args+1))):=(HB.out.cell (p:=⟨b,off+(i*8+5),none⟩) a).trans Q5.out;have q6:w5.cell? ⟨b,off+i*8+6,none⟩=some (.int .i64 (Zg (S+1+1+1) x.cond.pattern.args+1+1)):=(HB.out.cell (p:=⟨b,off+(i*8+6),none⟩) a).trans Q6.out;have W:w5.cell? ⟨b,off+i*8+7,none⟩=some (.slice A2 x.tokens.length c2):=(HB.out.cell (p:=⟨b,off+(i*8+7),none⟩) a).trans Q7.out;replace d:b<w5.heap.size:=A9 a HB.out.size;have ab:¬(Yo (Zg (S+1+1+1) x.cond.pattern.args+1+1+1) x.tokens<0):=by omega
   go_wp2_with fail
   go_roundw
   case rel=>exact ⟨i+1,Xf S x,yE,by go_num,rfl,by unfold Xf;omega,HDn,HB⟩
   case measure=>simp [intOf];omega
  .obtain rfl:i=n:=by omega
   have hf:Hid (Yb k ds=S):=by
    obtain ⟨h1,_⟩:=HD.out;rw [Hid,<-h1,AE (by have:=HN.out;omega)];rfl
   go_wp2;go_ret;exact ⟨ZQ hf.out.symm,HB.out⟩
theorem Zpp (x:Zc) (A1:Option Addr) (J:Nat) (L1:List Nat) (A2:Option Addr) (c2:Nat) (L2:List Nat) (A3:Option Addr) (I:Nat) (L3:List Nat) (A4:Option Addr) (H:Nat) (L4:List Nat) (A5:Option Addr) (G:Nat) (L5:List Nat) (k:Int) (w:World) (P:1<=k) (g:ZS k x<=4611686018427387904) (l1:x.rules.length<=9223372036854775807) (l2:x.ends.length<=9223372036854775807) (l3:x.alphas.length<=9223372036854775807) (l4:x.nodes.length<=9223372036854775807) (l5:x.facts.length<=9223372036854775807) (O:Sli X6 w A1 (XJ (k) x.rules) L1) (N:Sli ZeD w A2 (QR (Zw (k) x.rules) x.ends) L2) (M:Sli Xd w A3 (Y3 (ZU (Zw (k) x.rules) x.ends) x.alphas) L3) (L:Sli QC w A4 (XI (ZF (ZU (Zw (k) x.rules) x.ends) x.alphas) x.nodes) L4) (K:Sli Ys w A5 (Xr (Yb (ZF (ZU (Zw (k) x.rules) x.ends) x.alphas) x.nodes) x.facts) L5):
  Calls prog 14 #[.agg #[.slice A1 x.rules.length J,.slice A2 x.ends.length c2,.slice A3 x.alphas.length I,.slice A4 x.nodes.length H,.slice A5 x.facts.length G,.int .i64 x.tries],.int .i64 k] w fun e w'=>e=.returned (.int .i64 (ZS k x))/\Below w.heap.size w w':=by
 have B0:Hid (Below w.heap.size w (w.alloc (.cells #[.slice A1 x.rules.length J,.slice A2 x.ends.length c2,.slice A3 x.alphas.length I,.slice A4 x.nodes.length H,.slice A5 x.facts.length G,.int .i64 x.tries] 37))):=(Below.refl _ _).alloc (AL _) _;have S1:=yS O;have S2:=yS N;have S3:=yS M;have S4:=yS L;have S5:=yS K;have K0:Hid (Blk (w.alloc (.cells #[.slice A1 x.rules.length J,.slice A2 x.ends.length c2,.slice A3 x.alphas.length I,.slice A4 x.nodes.length H,.slice A5 x.facts.length G,.int .i64 x.tries] 37)) w.heap.size 37 #[.slice A1 x.rules.length J,.slice A2 x.ends.length c2,.slice A3 x.alphas.length I,.slice A4 x.nodes.length H,.slice A5 x.facts.length G,.int .i64 x.tries]):=Blk.new _ _ _;clear O N M L K;unfold ZS at g;have:=Zc4 (k) x.rules;have:=ZjH (Zw (k) x.rules) x.ends;have:=Zcb (ZU (Zw (k) x.rules) x.ends) x.alphas
 have:=Zc5 (ZF (ZU (Zw (k) x.rules) x.ends) x.alphas) x.nodes;have:=Xy (Yb (ZF (ZU (Zw (k) x.rules) x.ends) x.alphas) x.nodes) x.facts;go_enter func14,ntmps14;go_wp2_with fail
 refine (Zqr A1 _ J x.rules L1 _ _ rfl yE yE yE (S1.out.below B0.out)).mono ?_;rintro e w1 ⟨rfl,a⟩;have K1:=yS (K0.out.later a);have B1:=yS (B0.out.trans (a.mono B0.out.size));obtain ⟨F,E,D,C,B,A⟩:=K1.out.at6;have V:¬(Zw (k) x.rules<0):=by omega
 clear a;go_wp2_with fail
 refine (ZrH A2 _ c2 x.ends L2 _ _ rfl yE yE (S2.out.below B1.out)).mono ?_;rintro e w2 ⟨rfl,b⟩;have K2:=yS (K1.out.later b);have B2:=yS (B1.out.trans (b.mono B1.out.size));clear F E D C B A;obtain ⟨F,E,D,C,B,A⟩:=K2.out.at6;have U:¬(ZU (Zw (k) x.rules) x.ends<0):=by omega
 clear b;go_wp2_with fail
 refine (Zpg A3 _ I x.alphas L3 _ _ rfl yE yE yE (S3.out.below B2.out)).mono ?_;rintro e w3 ⟨rfl,c⟩;have K3:=yS (K2.out.later c);have B3:=yS (B2.out.trans (c.mono B2.out.size));clear F E D C B A;obtain ⟨F,E,D,C,B,A⟩:=K3.out.at6;have T:¬(ZF (ZU (Zw (k) x.rules) x.ends) x.alphas<0):=by omega
 clear c;go_wp2_with fail
 refine (ZpE A4 _ H x.nodes L4 _ _ rfl yE yE yE (S4.out.below B3.out)).mono ?_;rintro e w4 ⟨rfl,d⟩;have K4:=yS (K3.out.later d);have B4:=yS (B3.out.trans (d.mono B3.out.size));clear F E D C B A;obtain ⟨F,E,D,C,B,A⟩:=K4.out.at6;have S:¬(Yb (ZF (ZU (Zw (k) x.rules) x.ends) x.alphas) x.nodes<0):=by omega
 clear d;go_wp2_with fail
 refine (Zgr A5 _ G x.facts L5 _ _ rfl yE yE yE (S5.out.below B4.out)).mono ?_;rintro e W ⟨rfl,f⟩;have K5:=yS (K4.out.later f);have B5:=yS (B4.out.trans (f.mono B4.out.size));clear F E D C B A;obtain ⟨F,E,D,C,B,A⟩:=K5.out.at6;have R:¬(Z7 (Yb (ZF (ZU (Zw (k) x.rules) x.ends) x.alphas) x.nodes) x.facts<0):=by omega
 clear f;go_wp2_with fail
 go_ret;exact ⟨ZQ rfl,B5.out⟩
theorem Zic (cs:List Value) (x:Zc) (L:List Nat) (k:Int) (w:World) (a:1<=k) (b:ZS k x<=4611686018427387904) (h:Yr.rep w cs (ZhY k x) L):
  Calls prog 14 #[.agg cs.toArray,.int .i64 k] w fun e w'=>e=.returned (.int .i64 (ZS k x))/\Below w.heap.size w w':=by
 obtain ⟨A1,P,L1,A2,c2,L2,A3,O,L3,A4,N,L4,A5,M,L5,rfl,K,V,m1,E,U,m2,D,T,m3,C,S,m4,B,R,W,A⟩:=h;subst L;have J:(XJ (k) x.rules).length=x.rules.length:=Zf8 _ _;have I:(QR (Zw (k) x.rules) x.ends).length=x.ends.length:=ZhK _ _;have H:(Y3 (ZU (Zw (k) x.rules) x.ends) x.alphas).length=x.alphas.length:=ZeO _ _;have G:(XI (ZF (ZU (Zw (k) x.rules) x.ends) x.alphas) x.nodes).length=x.nodes.length:=Zf0 _ _;have F:(Xr (Yb (ZF (ZU (Zw (k) x.rules) x.ends) x.alphas) x.nodes) x.facts).length=x.facts.length:=Zay _ _;simp only[ZhY,Zf8,ZhK,ZeO,Zf0,Zay]at *;exact Zpp x A1 P L1 A2 c2 L2 A3 O L3 A4 N L4 A5 M L5 k w a b (by unfold maxLen at *;omega) (by unfold maxLen at *;omega) (by unfold maxLen at *;omega) (by unfold maxLen at *;omega) (by unfold maxLen at *;omega) E D C B A
end
section
open Go.RowKit Go.Deep
def Zfy {α:Type}(P:Program) (t:TypeId) (c:YC α) (wf:α->Prop):Prop:=
 ∀{H:Type} {enc:TypeId×Value->H} {w:World} {base:Nat} {spare:Nat->Bool} {held:Bool} {fuel:Nat} {cs:List Value} {x:DataW H×List MemPlace},DataW.trod enc P w base spare held fuel t cs=some x->∃d L,c.rep w cs d L/\wf d
theorem ZcF {P:Program}{t:TypeId}(E:P.underlying t=some (.int .i64)):Zfy P t ZeD Zem:=by
 intro H F w base A B C cs x h;obtain ⟨n,rfl,_,D⟩:=DataW.trod_int E h;refine ⟨n,[],⟨rfl,rfl⟩,?_⟩;simp [Lit.wf,IntKind.min,IntKind.max,IntKind.signed,IntKind.bits]at D;exact ⟨yE,yE⟩
theorem XV {P:Program}{t:TypeId}(D:P.underlying t=some .string):Zfy P t ZbY (fun _=>True):=by
 intro H E w base A B C cs x h;obtain ⟨s,rfl,_,hs⟩:=DataW.trod_string D h;exact ⟨s,[],⟨rfl,rfl,by unfold maxLen at hs;omega⟩,trivial⟩
theorem Y8 {α:Type}{c:YC α}{G:α->Prop}{P:Program}{t e:TypeId}(S:P.underlying t=some (.slice e)) (W:P.cellsOf e=c.size) (U:Zfy P e c G):Zfy P t (Zz c) (fun ds=>∀d∈ds,G d):=by
 intro H aa w base I M O cs x h;rcases open_slice S h with ⟨rfl,_⟩|⟨a,len,cap,m,n,D,Pl,rfl,hb,hl,J,l,_,R⟩
 .exact ⟨[],[],⟨none,0,rfl,AL _,AD _,Sli.nil _ _⟩,yG⟩
 .have V:len<=m:=by rw [l];split<;>omega
  have key:∀q,q<=len->∃(xs:List Value) (ds:List α) (L:List Nat),ds.length=q/\(∀j u,xs[j]?=some u->w.cell? (a.add j)=some u)/\c.reps w xs ds L/\∀d∈ds,G d:=by
   intro q;induction q with
   |zero=>exact fun _=>⟨[],[],[],rfl,yG,⟨rfl,rfl⟩,yG⟩
   |succ q ih=>
    intro hq;obtain ⟨xs,ds,L,B,f,E,i⟩:=ih yE;obtain ⟨o,h1,h2⟩:=R q yE;obtain ⟨d,Lq,k,p⟩:=U h2;obtain ⟨_,K,v⟩:=World.cells?_some h1;refine ⟨xs++o,ds++[d],L++Lq,by simp [B],fun j u A=>?_,ZcH E (Zd8 k),?_⟩
    .have g:xs.length=q*c.size:=by rw [Zjv E,B]
     rw [List.getElem?_append]at A;split at A
     .exact f j u A
     .rename_i hj;have hj2:=(List.getElem?_eq_some_iff.1 A).1;have:=v (j - xs.length) yE;rw [<-A,<-this,Go.Deep.add_add,W,<-g];congr 2
      omega
    .intro y C;rcases AG.1 C with C|C
     .exact i y C
     .simp at C;subst C;exact p
  obtain ⟨xs,ds,L,B,f,E,i⟩:=key len (AL _);have g:=Zjv E;rcases Nat.eq_zero_or_pos len with N|N
  .have:ds=[]:=List.eq_nil_of_length_eq_zero yE;subst this;refine ⟨[],[],⟨some a,cap,by simp at B;rw [<-B];rfl,yG,J,Sli.nil _ _⟩,yG⟩
  .obtain ⟨b,off,F⟩:=a;have T:0<xs.length:=by rw [g,B];exact Nat.mul_pos N c.pos
   have z:F=none:=by
    have h1:=f 0 _ (AA T);have e:(⟨b,off,F⟩:Addr).add 0=⟨b,off,F⟩:=by simp [Addr.add]
    rw [e]at h1;cases F with
    |none=>rfl
    |some q=>
     simp only[World.cell?]at h1;split at h1<;>simp at h1
   subst z;refine ⟨ds,[b]++L,⟨some ⟨b,off,none⟩,cap,by rw [B],yE,J,xs,[b],L,rfl,⟨by rw [g],.inr ⟨yE,b,off,rfl,rfl,fun j u A=>?_⟩⟩,E⟩,i⟩;have:=f j u A
   rwa [Zea]at this
end
section
open Go.RowKit
theorem ZoT {w w1:World}{B:Nat}(h:Below w.drew.heap.size w.drew w1) (C:B<=w.heap.size):Below B w w1:=⟨h.os,h.tape,h.output,h.size,fun k A=>h.block k (A9 A C)⟩
theorem Zoj {D:Zc}{A:List YB}{C:Zc}{B:Bool}(F:Zet D A=some (C,B)) (w:World) (E:J0 w) (a:List Value) (LaN:List Nat) (d:Yr.rep w a D LaN) (AaL:Option Addr) (c:Nat) (LaL:List Nat) (e:(Zz XG).rep w [.slice AaL A.length c] A LaL):
  Calls prog 6 #[.agg a.toArray,.slice AaL A.length c] w (ZsI Yr w C B):=
 Zp.givesXB (c2:=Yr) (g2:=YD) (x:=C) (b:=B) (Zpu F) Zhr E (vs:=[_,_]) ⟨Zgj Zhr d,ZkZ ZuL _ e,trivial⟩
theorem ZjF {D:Zc}{A:List YB}{C:Zc}{B:Bool}(F:Zd5 D A=some (C,B)) (w:World) (E:J0 w) (a:List Value) (LaN:List Nat) (d:Yr.rep w a D LaN) (AaL:Option Addr) (c:Nat) (LaL:List Nat) (e:(Zz XG).rep w [.slice AaL A.length c] A LaL):
  Calls prog 9 #[.agg a.toArray,.slice AaL A.length c] w (ZsI Yr w C B):=
 Zp.givesXB (c2:=Yr) (g2:=YD) (x:=C) (b:=B) (Zox F) Zhr E (vs:=[_,_]) ⟨Zgj Zhr d,ZkZ ZuL _ e,trivial⟩
theorem Zie (w:World) (hJ:J0 w) (dc:List Value) (aN:Zc) (b6:List Nat) (d8:Yr.rep w dc aN b6) (bq:Option Addr) (b7:Nat) (aL:List YB) (b8:List Nat) (ea:aL.length<=9223372036854775807) (d9:Sli XG w bq aL b8) (eb:Zml aN) (ec:(fun ds=>∀d∈ds,Zrw d) aL):
  Calls prog 3 #[.agg dc.toArray,.slice bq aL.length b7] w fun e w'=>e=.returned (.bool true)/\Below w.heap.size w w':=by
 have HJ:=yS hJ;clear hJ;have af:=yS d8;clear d8;obtain ⟨T,U,V,X,Y,Z,aa,ab,ac,ad,rfl⟩:=X5 af.out;have cm:=yS d9;clear d9;have B0:Hid (Below w.heap.size w (w.alloc (.cells #[.slice T aN.rules.length U,.slice V aN.ends.length X,.slice Y aN.alphas.length Z,.slice aa aN.nodes.length ab,.slice ac aN.facts.length ad,.int .i64 aN.tries] 28))):=(Below.alloc (Below.refl _ _) (AL _) _)
 have sz0:w.heap.size+1<=((w.alloc (.cells #[.slice T aN.rules.length U,.slice V aN.ends.length X,.slice Y aN.alphas.length Z,.slice aa aN.nodes.length ab,.slice ac aN.facts.length ad,.int .i64 aN.tries] 28))).heap.size:=AO (by simp only[World.alloc,AP]);have k:Hid (Blk (w.alloc (.cells #[.slice T aN.rules.length U,.slice V aN.ends.length X,.slice Y aN.alphas.length Z,.slice aa aN.nodes.length ab,.slice ac aN.facts.length ad,.int .i64 aN.tries] 28)) (w.heap.size) 28 #[.slice T aN.rules.length U,.slice V aN.ends.length X,.slice Y aN.alphas.length Z,.slice aa aN.nodes.length ab,.slice ac aN.facts.length ad,.int .i64 aN.tries]):=(Blk.new _ _ _)
 go_enter func3,ntmps3;go_wp2_with fail
 refine (Zqw [.slice T aN.rules.length U,.slice V aN.ends.length X,.slice Y aN.alphas.length Z,.slice aa aN.nodes.length ab,.slice ac aN.facts.length ad,.int .i64 aN.tries] aN b6 _ _ yE yE (Yr.keep af.out (Zr B0.out (Yr.lt af.out)))).mono ?_;rintro e w1 ⟨rfl,hb⟩;have B1:=yS (B0.out.trans (hb.mono B0.out.size));have sz1:=hb.size;have k:=yS (k.out.later hb);obtain ⟨a,b,c,f,g,j⟩:=k.out.at6;clear hb;by_cases dd:((ZZ aN:Nat):Int)<=1048576
 rotate_left
 .rw [Zy dd];go_wp2;go_ret;exact ⟨rfl,B1.out⟩
 rw [Ya dd];have br:ZZ aN<=1048576:=by omega
 have nn_aN:¬(1048576 - ((ZZ aN:Nat):Int)<0):=by omega
 go_wp2_with fail
 refine (Zsp bq _ b7 aL b8 _ _ rfl ea yE yE (cm.out.below B1.out)).mono ?_;rintro e w2 ⟨rfl,hb⟩;have B2:=yS (B1.out.trans (hb.mono B1.out.size));have sz2:=hb.size;have k:=yS (k.out.later hb);clear a b c f g j;obtain ⟨a,b,c,f,g,j⟩:=k.out.at6;clear B1;clear hb;by_cases de:((Xl aL:Nat):Int)<=1048576 - ((ZZ aN:Nat):Int)
 rotate_left
 .rw [Zy de];go_wp2;go_ret;exact ⟨rfl,B2.out⟩
 rw [Ya de];have a6:Xl aL<=1048576:=by omega
 have cl_aL:aL.length<=1048576:=by have:=a6;simp only[Xl]at this;omega
 have nn_aL:¬(1048576 - ((ZZ aN:Nat):Int) - ((Xl aL:Nat):Int)<0):=by omega
 obtain ⟨R0,R1,ef,ed,rl⟩:=ZnF aN br eb aL a6 ec;go_wp2_with fail
 refine (ZdU [.slice T aN.rules.length U,.slice V aN.ends.length X,.slice Y aN.alphas.length Z,.slice aa aN.nodes.length ab,.slice ac aN.facts.length ad,.int .i64 aN.tries] aN b6 _ br (Yr.keep af.out (Zr B2.out (Yr.lt af.out)))).mono ?_;rintro e w3 ⟨cs,d4,rfl,gt,hb⟩;obtain ⟨df,dg,dh,di,dj,dk,dl,dm,dn,dp,rfl⟩:=X5 gt.rep;have B3:=yS (B2.out.trans (hb.mono B2.out.size));have sz3:=hb.size;have k:=yS (k.out.later hb);clear a b c f g j;obtain ⟨a,b,c,f,g,j⟩:=k.out.at6;clear B2;have S:=yS gt;have ge_t2aN:=yS gt.own.ge;have lt_t2aN:=yS gt.lt;clear gt hb;go_wp2_with fail
 refine (ZeK bq _ b7 aL b8 _ rfl a6 (cm.out.below B3.out)).mono ?_;rintro e w4 ⟨v,rfl,acc⟩;obtain ⟨d5,d6,rfl⟩:=acc.shape;have hb:=acc.below;obtain ⟨d7,gt⟩:=acc.got;have B4:=yS (B3.out.trans (hb.mono B3.out.size));have sz4:=hb.size;have S:=yS (S.out.later hb);have k:=yS (k.out.later hb);clear a b c f g j;obtain ⟨a,b,c,f,g,j⟩:=k.out.at6;clear B3;have ah:=yS gt;have ge_t3aL:=yS gt.own.ge;have lt_t3aL:=yS gt.lt;clear gt hb acc;go_wp2_with fail
 refine (Zoj ef _ (ZcD hJ0 HJ.out B4.out) [.slice df aN.rules.length dg,.slice dh aN.ends.length di,.slice dj aN.alphas.length dk,.slice dl aN.nodes.length dm,.slice dn aN.facts.length dp,.int .i64 aN.tries] d4 S.out.rep d5 d6 d7 ah.out.rep).mono ?_;rintro e w5 ⟨cs,dq,rfl,gt,hb⟩;obtain ⟨ai,aj,ak,al,am,an,ao,ap,aq,ar,rfl⟩:=X5 gt.rep;have B5:=yS (B4.out.trans (hb.mono B4.out.size));have sz5:=hb.size;have S:=yS (S.out.later hb);have ah:=yS (ah.out.later hb);have k:=yS (k.out.later hb);clear a b c f g j;obtain ⟨a,b,c,f,g,j⟩:=k.out.at6;clear B4;have N:=yS gt;have ge_w0:=yS gt.own.ge;have co:=yS gt.lt;clear gt hb;have hb:=(Below.refl w5.heap.size w5).alloc (AL _) (.cells #[.slice ai R0.rules.length aj,.slice ak R0.ends.length al,.slice am R0.alphas.length an,.slice ao R0.nodes.length ap,.slice aq R0.facts.length ar,.int .i64 R0.tries] 37);have B6:=yS (B5.out.trans (hb.mono B5.out.size))
 have sz6:=hb.size;have S:=yS (S.out.later hb);have ah:=yS (ah.out.later hb);have N:=yS (N.out.later hb);have k:=yS (k.out.later hb);clear a b c f g j;obtain ⟨a,b,c,f,g,j⟩:=k.out.at6;clear B5;have szb_w0:w5.heap.size+1<=(w5.alloc (.cells #[.slice ai R0.rules.length aj,.slice ak R0.ends.length al,.slice am R0.alphas.length an,.slice ao R0.nodes.length ap,.slice aq R0.facts.length ar,.int .i64 R0.tries] 37)).heap.size:=AO (by simp only[World.alloc,AP]);have E:Hid (Blk (w5.alloc (.cells #[.slice ai R0.rules.length aj,.slice ak R0.ends.length al,.slice am R0.alphas.length an,.slice ao R0.nodes.length ap,.slice aq R0.facts.length ar,.int .i64 R0.tries] 37)) w5.heap.size 37 #[.slice ai R0.rules.length aj,.slice ak R0.ends.length al,.slice am R0.alphas.length an,.slice ao R0.nodes.length ap,.slice aq R0.facts.length ar,.int .i64 R0.tries]):=Blk.new _ _ _;obtain ⟨l,o,p,q,t,u⟩:=E.out.at6;clear hb
 clear S;clear ah;go_wp2_with fail
 refine (ZdU [.slice T aN.rules.length U,.slice V aN.ends.length X,.slice Y aN.alphas.length Z,.slice aa aN.nodes.length ab,.slice ac aN.facts.length ad,.int .i64 aN.tries] aN b6 _ br (Yr.keep af.out (Zr B6.out (Yr.lt af.out)))).mono ?_;rintro e w7 ⟨cs,dr,rfl,gt,hb⟩;obtain ⟨au,av,aw,ax,ay,az,a0,a1,a2,a3,rfl⟩:=X5 gt.rep;have B7:=yS (B6.out.trans (hb.mono B6.out.size));have sz7:=hb.size;have N:=yS (N.out.later hb);have k:=yS (k.out.later hb);clear a b c f g j;obtain ⟨a,b,c,f,g,j⟩:=k.out.at6;have E:=yS (E.out.later hb);clear l o p q t u;obtain ⟨l,o,p,q,t,u⟩:=E.out.at6;clear B6;have P:=yS gt;have a7:=yS gt.own.ge;have a8:=yS gt.lt;clear gt hb;have hb:=(Below.refl w7.heap.size w7).alloc (AL _) (.cells #[.slice au aN.rules.length av,.slice aw aN.ends.length ax,.slice ay aN.alphas.length az,.slice a0 aN.nodes.length a1,.slice a2 aN.facts.length a3,.int .i64 aN.tries] 37)
 have B8:=yS (B7.out.trans (hb.mono B7.out.size));have sz8:=hb.size;have N:=yS (N.out.later hb);have P:=yS (P.out.later hb);have k:=yS (k.out.later hb);clear a b c f g j;obtain ⟨a,b,c,f,g,j⟩:=k.out.at6;have E:=yS (E.out.later hb);clear l o p q t u;obtain ⟨l,o,p,q,t,u⟩:=E.out.at6;clear B7;have szb_x0:w7.heap.size+1<=(w7.alloc (.cells #[.slice au aN.rules.length av,.slice aw aN.ends.length ax,.slice ay aN.alphas.length az,.slice a0 aN.nodes.length a1,.slice a2 aN.facts.length a3,.int .i64 aN.tries] 37)).heap.size:=AO (by simp only[World.alloc,AP])
 have F:Hid (Blk (w7.alloc (.cells #[.slice au aN.rules.length av,.slice aw aN.ends.length ax,.slice ay aN.alphas.length az,.slice a0 aN.nodes.length a1,.slice a2 aN.facts.length a3,.int .i64 aN.tries] 37)) w7.heap.size 37 #[.slice au aN.rules.length av,.slice aw aN.ends.length ax,.slice ay aN.alphas.length az,.slice a0 aN.nodes.length a1,.slice a2 aN.facts.length a3,.int .i64 aN.tries]):=Blk.new _ _ _;obtain ⟨x,z,A,B,C,D⟩:=F.out.at6;clear hb;go_wp2_with fail
 refine (ZeK bq _ b7 aL b8 _ rfl a6 (cm.out.below B8.out)).mono ?_;rintro e w9 ⟨v,rfl,acc⟩;obtain ⟨dt,du,rfl⟩:=acc.shape;have hb:=acc.below;obtain ⟨dv,gt⟩:=acc.got;have B9:=yS (B8.out.trans (hb.mono B8.out.size));have sz9:=hb.size;have N:=yS (N.out.later hb);have P:=yS (P.out.later hb);have k:=yS (k.out.later hb);clear a b c f g j;obtain ⟨a,b,c,f,g,j⟩:=k.out.at6;have E:=yS (E.out.later hb);clear l o p q t u;obtain ⟨l,o,p,q,t,u⟩:=E.out.at6;have F:=yS (F.out.later hb);clear x z A B C D;obtain ⟨x,z,A,B,C,D⟩:=F.out.at6;clear B8;have Q:=yS gt;have a4:=yS gt.own.ge;have bs:=yS gt.lt;clear gt hb acc;go_wp2_with fail
 refine (ZjF ed _ (ZcD hJ0 HJ.out B9.out) [.slice au aN.rules.length av,.slice aw aN.ends.length ax,.slice ay aN.alphas.length az,.slice a0 aN.nodes.length a1,.slice a2 aN.facts.length a3,.int .i64 aN.tries] dr P.out.rep dt du dv Q.out.rep).mono ?_;rintro e cp ⟨cs,cn,rfl,gt,hb⟩;obtain ⟨a9,ba,bb,bc,bd,be,bf,bg,bh,bi,rfl⟩:=X5 gt.rep;have B10:=yS (B9.out.trans (hb.mono B9.out.size));have sz10:=hb.size;have N:=yS (N.out.later hb);have P:=yS (P.out.later hb);have Q:=yS (Q.out.later hb);have k:=yS (k.out.later hb);clear a b c f g j;obtain ⟨a,b,c,f,g,j⟩:=k.out.at6;have E:=yS (E.out.later hb);clear l o p q t u;obtain ⟨l,o,p,q,t,u⟩:=E.out.at6;have F:=yS (F.out.later hb);clear x z A B C D;obtain ⟨x,z,A,B,C,D⟩:=F.out.at6;clear B9;have O:=yS gt;have ag:=yS gt.own.ge;have b9:=yS gt.lt;clear gt hb
 have hb:=(Below.refl cp.heap.size cp).alloc (AL _) (.cells #[.slice a9 R0.rules.length ba,.slice bb R0.ends.length bc,.slice bd R0.alphas.length be,.slice bf R0.nodes.length bg,.slice bh R0.facts.length bi,.int .i64 R0.tries] 37);have B11:=yS (B10.out.trans (hb.mono B10.out.size));have sz11:=hb.size;have N:=yS (N.out.later hb);have P:=yS (P.out.later hb);have Q:=yS (Q.out.later hb);have O:=yS (O.out.later hb);have k:=yS (k.out.later hb);clear a b c f g j;obtain ⟨a,b,c,f,g,j⟩:=k.out.at6;have E:=yS (E.out.later hb);clear l o p q t u;obtain ⟨l,o,p,q,t,u⟩:=E.out.at6;have F:=yS (F.out.later hb);clear x z A B C D;obtain ⟨x,z,A,B,C,D⟩:=F.out.at6;clear B10
 have szb_g0:cp.heap.size+1<=(cp.alloc (.cells #[.slice a9 R0.rules.length ba,.slice bb R0.ends.length bc,.slice bd R0.alphas.length be,.slice bf R0.nodes.length bg,.slice bh R0.facts.length bi,.int .i64 R0.tries] 37)).heap.size:=AO (by simp only[World.alloc,AP]);have M:Hid (Blk (cp.alloc (.cells #[.slice a9 R0.rules.length ba,.slice bb R0.ends.length bc,.slice bd R0.alphas.length be,.slice bf R0.nodes.length bg,.slice bh R0.facts.length bi,.int .i64 R0.tries] 37)) cp.heap.size 37 #[.slice a9 R0.rules.length ba,.slice bb R0.ends.length bc,.slice bd R0.alphas.length be,.slice bf R0.nodes.length bg,.slice bh R0.facts.length bi,.int .i64 R0.tries]):=Blk.new _ _ _;obtain ⟨G,H,I,J,K,L⟩:=M.out.at6;clear hb;go_wp2_with fail
 refine (ZdR [.slice a9 R0.rules.length ba,.slice bb R0.ends.length bc,.slice bd R0.alphas.length be,.slice bf R0.nodes.length bg,.slice bh R0.facts.length bi,.int .i64 R0.tries] [.slice ai R0.rules.length aj,.slice ak R0.ends.length al,.slice am R0.alphas.length an,.slice ao R0.nodes.length ap,.slice aq R0.facts.length ar,.int .i64 R0.tries] R0 cn dq _ O.out.rep N.out.rep).mono ?_;rintro e w12 ⟨rfl,hb⟩;have B12:=yS (B11.out.trans (hb.mono B11.out.size));have sz12:=hb.size;have N:=yS (N.out.later hb);have P:=yS (P.out.later hb);have Q:=yS (Q.out.later hb);have O:=yS (O.out.later hb);have k:=yS (k.out.later hb);clear a b c f g j;obtain ⟨a,b,c,f,g,j⟩:=k.out.at6;have E:=yS (E.out.later hb);clear l o p q t u;obtain ⟨l,o,p,q,t,u⟩:=E.out.at6;have F:=yS (F.out.later hb);clear x z A B C D;obtain ⟨x,z,A,B,C,D⟩:=F.out.at6;have M:=yS (M.out.later hb);clear G H I J K L
 obtain ⟨G,H,I,J,K,L⟩:=M.out.at6;clear B11;clear hb;go_wp2_with fail
 go_region_held3 (fun W=>W.cell? ⟨w7.heap.size,0,none⟩=some (.slice au aN.rules.length av)/\W.cell? ⟨w7.heap.size,1,none⟩=some (.slice aw aN.ends.length ax)/\W.cell? ⟨w7.heap.size,2,none⟩=some (.slice ay aN.alphas.length az)/\W.cell? ⟨w7.heap.size,3,none⟩=some (.slice a0 aN.nodes.length a1)/\W.cell? ⟨w7.heap.size,4,none⟩=some (.slice a2 aN.facts.length a3)/\W.cell? ⟨w7.heap.size,5,none⟩=some (.int .i64 aN.tries)/\W.cell? ⟨w.heap.size,0,none⟩=some (.slice T aN.rules.length U)/\W.cell? ⟨w.heap.size,1,none⟩=some (.slice V aN.ends.length X)/\W.cell? ⟨w.heap.size,2,none⟩=some (.slice Y aN.alphas.length Z)/\W.cell? ⟨w.heap.size,3,none⟩=some (.slice aa aN.nodes.length ab)/\W.cell? ⟨w.heap.size,4,none⟩=some (.slice ac aN.facts.length ad)/\W.cell? ⟨w.heap.size,5,none⟩=some (.int .i64 aN.tries)) (first|exact ⟨x,z,A,B,C,D,a,b,c,f,g,j⟩|exact ⟨ca,cb,cc,cd,ce,cf,cg,ch,ci,cj,ck,cl⟩) (first|(go_at_call 7;refine (ZdU [.slice T aN.rules.length U,.slice V aN.ends.length X,.slice Y aN.alphas.length Z,.slice aa aN.nodes.length ab,.slice ac aN.facts.length ad,.int .i64 aN.tries] aN b6 _ br (Yr.keep af.out (Zr B12.out.drew (Yr.lt af.out)))).mono ?_;rintro e w13 ⟨cs,dw,rfl,gt,hb⟩;obtain ⟨cq,cr,ct,cu,cv,cw,cx,cy,cz,c0,rfl⟩:=X5 gt.rep;replace hb:=ZoT hb (AL _);have KA:=k.out.later hb;have KX:=F.out.later hb;have ca:=KX.at (i:=0) rfl;have cb:=KX.at (i:=1) rfl;have cc:=KX.at (i:=2) rfl;have cd:=KX.at (i:=3) rfl;have ce:=KX.at (i:=4) rfl;have cf:=KX.at (i:=5) rfl;have cg:=KA.at (i:=0) rfl;have ch:=KA.at (i:=1) rfl;have ci:=KA.at (i:=2) rfl;have cj:=KA.at (i:=3) rfl;have ck:=KA.at (i:=4) rfl;have cl:=KA.at (i:=5) rfl)|(go_at_call 10;refine (ZdR [.slice au aN.rules.length av,.slice aw aN.ends.length ax,.slice ay aN.alphas.length az,.slice a0 aN.nodes.length a1,.slice a2 aN.facts.length a3,.int .i64 aN.tries] [.slice cq aN.rules.length cr,.slice ct aN.ends.length cu,.slice cv aN.alphas.length cw,.slice cx aN.nodes.length cy,.slice cz aN.facts.length c0,.int .i64 aN.tries] aN dr dw _ (P.out.later hb).rep gt.rep).mono ?_;rintro e w14 ⟨rfl,bj⟩;have KX2:=KX.later bj;have KA2:=KA.later bj;replace ca:=KX2.at (i:=0) rfl;replace cb:=KX2.at (i:=1) rfl;replace cc:=KX2.at (i:=2) rfl;replace cd:=KX2.at (i:=3) rfl;replace ce:=KX2.at (i:=4) rfl;replace cf:=KX2.at (i:=5) rfl;replace cg:=KA2.at (i:=0) rfl;replace ch:=KA2.at (i:=1) rfl;replace ci:=KA2.at (i:=2) rfl;replace cj:=KA2.at (i:=3) rfl;replace ck:=KA2.at (i:=4) rfl;replace cl:=KA2.at (i:=5) rfl))
 clear KA KX KA2 KX2 ca cb cc cd ce cf cg ch ci cj ck cl;have B13:=yS (B12.out.trans (hb.mono B12.out.size));have sz13:=hb.size;have N:=yS (N.out.later hb);have P:=yS (P.out.later hb);have Q:=yS (Q.out.later hb);have O:=yS (O.out.later hb);have k:=yS (k.out.later hb);clear a b c f g j;obtain ⟨a,b,c,f,g,j⟩:=k.out.at6;have E:=yS (E.out.later hb);clear l o p q t u;obtain ⟨l,o,p,q,t,u⟩:=E.out.at6;have F:=yS (F.out.later hb);clear x z A B C D;obtain ⟨x,z,A,B,C,D⟩:=F.out.at6;have M:=yS (M.out.later hb);clear G H I J K L;obtain ⟨G,H,I,J,K,L⟩:=M.out.at6;clear B12;clear hb gt;have B14:=yS (B13.out.trans (bj.mono B13.out.size));have sz14:=bj.size;have N:=yS (N.out.later bj);have P:=yS (P.out.later bj);have Q:=yS (Q.out.later bj);have O:=yS (O.out.later bj);have k:=yS (k.out.later bj);clear a b c f g j;obtain ⟨a,b,c,f,g,j⟩:=k.out.at6;have E:=yS (E.out.later bj);clear l o p q t u
 obtain ⟨l,o,p,q,t,u⟩:=E.out.at6;have F:=yS (F.out.later bj);clear x z A B C D;obtain ⟨x,z,A,B,C,D⟩:=F.out.at6;have M:=yS (M.out.later bj);clear G H I J K L;obtain ⟨G,H,I,J,K,L⟩:=M.out.at6;clear B13;clear bj;go_wp2_with fail
 refine (ZeK bq _ b7 aL b8 _ rfl a6 (cm.out.below B14.out)).mono ?_;rintro e w15 ⟨v,rfl,acc⟩;obtain ⟨dx,dy,rfl⟩:=acc.shape;have hb:=acc.below;obtain ⟨dz,gt⟩:=acc.got;have B15:=yS (B14.out.trans (hb.mono B14.out.size));have sz15:=hb.size;have N:=yS (N.out.later hb);have P:=yS (P.out.later hb);have Q:=yS (Q.out.later hb);have O:=yS (O.out.later hb);have k:=yS (k.out.later hb);clear a b c f g j;obtain ⟨a,b,c,f,g,j⟩:=k.out.at6;have E:=yS (E.out.later hb);clear l o p q t u;obtain ⟨l,o,p,q,t,u⟩:=E.out.at6;have F:=yS (F.out.later hb);clear x z A B C D;obtain ⟨x,z,A,B,C,D⟩:=F.out.at6;have M:=yS (M.out.later hb);clear G H I J K L;obtain ⟨G,H,I,J,K,L⟩:=M.out.at6;clear B14;have a5:=yS gt;have ge_t14aL:=yS gt.own.ge;have lt_t14aL:=yS gt.lt;clear gt hb acc;go_wp2_with fail
 refine (Zr9 dt dx _ du dy _ dv dz _ rfl yE (ZH Q.out.rep).2.2 (ZH a5.out.rep).2.2).mono ?_;rintro e w16 ⟨rfl,hb⟩;have B16:=yS (B15.out.trans (hb.mono B15.out.size));have sz16:=hb.size;have N:=yS (N.out.later hb);have P:=yS (P.out.later hb);have Q:=yS (Q.out.later hb);have O:=yS (O.out.later hb);have a5:=yS (a5.out.later hb);have k:=yS (k.out.later hb);clear a b c f g j;obtain ⟨a,b,c,f,g,j⟩:=k.out.at6;have E:=yS (E.out.later hb);clear l o p q t u;obtain ⟨l,o,p,q,t,u⟩:=E.out.at6;have F:=yS (F.out.later hb);clear x z A B C D;obtain ⟨x,z,A,B,C,D⟩:=F.out.at6;have M:=yS (M.out.later hb);clear G H I J K L;obtain ⟨G,H,I,J,K,L⟩:=M.out.at6;clear B15;clear hb;clear a5;have nl_x0_16:=Zh6 ((1:Int)) aN;have nb_x0_16:ZS ((1:Int)) aN<=4611686018427387904:=by omega
 have ng_x0_16:=Zh3 ((1:Int)) aN;go_wp2_with fail
 refine (Zh4 _ aN dr _ _ _ yE yE P.out).mono ?_;rintro e w17 ⟨rfl,gm,on⟩;have B17:=yS (B16.out.trans (on.below B16.out.size (fun y m=>by have:=a7.out y m;omega)));have sz17:=on.size;have N:=yS (N.out.only on (fun y m m'=>by have:=co.out y m;have:=a7.out y m';omega));have Q:=yS (Q.out.only on (fun y m m'=>by have:=a4.out y m;have:=a8.out y m';omega));have O:=yS (O.out.only on (fun y m m'=>by have:=ag.out y m;have:=a8.out y m';omega));have k:=yS (X3 k.out on (fun m=>by have:=a7.out _ m;have:=a8.out _ m;omega));clear a b c f g j;obtain ⟨a,b,c,f,g,j⟩:=k.out.at6;have E:=yS (X3 E.out on (fun m=>by have:=a7.out _ m;have:=a8.out _ m;omega));clear l o p q t u;obtain ⟨l,o,p,q,t,u⟩:=E.out.at6;have F:=yS (X3 F.out on (fun m=>by have:=a7.out _ m;have:=a8.out _ m;omega));clear x z A B C D;obtain ⟨x,z,A,B,C,D⟩:=F.out.at6;have M:=yS (X3 M.out on (fun m=>by have:=a7.out _ m;have:=a8.out _ m;omega))
 clear G H I J K L;obtain ⟨G,H,I,J,K,L⟩:=M.out.at6;clear B16;have P:=yS gm;clear gm on;clear P;have nl_x1_17:=Zqn (ZS ((1:Int)) aN) aL;have nb_x1_17:Xz (ZS ((1:Int)) aN) aL<=4611686018427387904:=by omega
 have ng_x1_17:=Zkp (ZS ((1:Int)) aN) aL;go_wp2_with fail
 refine (Zob dt _ du aL dv _ _ _ rfl yE yE yE Q.out).mono ?_;rintro e w18 ⟨rfl,gm,on⟩;have B18:=yS (B17.out.trans (on.below B17.out.size (fun y m=>by have:=a4.out y m;omega)));have sz18:=on.size;have N:=yS (N.out.only on (fun y m m'=>by have:=co.out y m;have:=a4.out y m';omega));have O:=yS (O.out.only on (fun y m m'=>by have:=ag.out y m;have:=bs.out y m';omega));have k:=yS (X3 k.out on (fun m=>by have:=a4.out _ m;have:=bs.out _ m;omega));clear a b c f g j;obtain ⟨a,b,c,f,g,j⟩:=k.out.at6;have E:=yS (X3 E.out on (fun m=>by have:=a4.out _ m;have:=bs.out _ m;omega));clear l o p q t u;obtain ⟨l,o,p,q,t,u⟩:=E.out.at6;have F:=yS (X3 F.out on (fun m=>by have:=a4.out _ m;have:=bs.out _ m;omega));clear x z A B C D;obtain ⟨x,z,A,B,C,D⟩:=F.out.at6;have M:=yS (X3 M.out on (fun m=>by have:=a4.out _ m;have:=bs.out _ m;omega));clear G H I J K L;obtain ⟨G,H,I,J,K,L⟩:=M.out.at6;clear B17;have Q:=yS gm
 clear gm on;clear Q;have kn:¬(Xz (ZS ((1:Int)) aN) aL<0):=by omega
 go_wp2_with fail
 refine (ZdR [.slice a9 R0.rules.length ba,.slice bb R0.ends.length bc,.slice bd R0.alphas.length be,.slice bf R0.nodes.length bg,.slice bh R0.facts.length bi,.int .i64 R0.tries] [.slice ai R0.rules.length aj,.slice ak R0.ends.length al,.slice am R0.alphas.length an,.slice ao R0.nodes.length ap,.slice aq R0.facts.length ar,.int .i64 R0.tries] R0 cn dq _ O.out.rep N.out.rep).mono ?_;rintro e w19 ⟨rfl,hb⟩;have B19:=yS (B18.out.trans (hb.mono B18.out.size));have sz19:=hb.size;have N:=yS (N.out.later hb);have O:=yS (O.out.later hb);have k:=yS (k.out.later hb);clear a b c f g j;obtain ⟨a,b,c,f,g,j⟩:=k.out.at6;have E:=yS (E.out.later hb);clear l o p q t u;obtain ⟨l,o,p,q,t,u⟩:=E.out.at6;have F:=yS (F.out.later hb);clear x z A B C D;obtain ⟨x,z,A,B,C,D⟩:=F.out.at6;have M:=yS (M.out.later hb);clear G H I J K L;obtain ⟨G,H,I,J,K,L⟩:=M.out.at6;clear B18;clear hb;have nl_g0_19:=Zh6 ((1:Int)) R0
 have nb_g0_19:ZS ((1:Int)) R0<=4611686018427387904:=by omega
 have ng_g0_19:=Zh3 ((1:Int)) R0;go_wp2_with fail
 refine (Zh4 _ R0 cn _ _ _ yE yE O.out).mono ?_;rintro e w20 ⟨rfl,gm,on⟩;have B20:=yS (B19.out.trans (on.below B19.out.size (fun y m=>by have:=ag.out y m;omega)));have sz20:=on.size;have N:=yS (N.out.only on (fun y m m'=>by have:=co.out y m;have:=ag.out y m';omega));have k:=yS (X3 k.out on (fun m=>by have:=ag.out _ m;have:=b9.out _ m;omega));clear a b c f g j;obtain ⟨a,b,c,f,g,j⟩:=k.out.at6;have E:=yS (X3 E.out on (fun m=>by have:=ag.out _ m;have:=b9.out _ m;omega));clear l o p q t u;obtain ⟨l,o,p,q,t,u⟩:=E.out.at6;have F:=yS (X3 F.out on (fun m=>by have:=ag.out _ m;have:=b9.out _ m;omega));clear x z A B C D;obtain ⟨x,z,A,B,C,D⟩:=F.out.at6;have M:=yS (X3 M.out on (fun m=>by have:=ag.out _ m;have:=b9.out _ m;omega));clear G H I J K L;obtain ⟨G,H,I,J,K,L⟩:=M.out.at6;clear B19;have O:=yS gm;clear gm on;go_wp2_with fail
 refine (Zic _ R0 cn _ _ yE yE O.out.rep).mono ?_;rintro e w21 ⟨rfl,hb⟩;have B21:=yS (B20.out.trans (hb.mono B20.out.size));have sz21:=hb.size;have N:=yS (N.out.later hb);have O:=yS (O.out.later hb);have k:=yS (k.out.later hb);clear a b c f g j;obtain ⟨a,b,c,f,g,j⟩:=k.out.at6;have E:=yS (E.out.later hb);clear l o p q t u;obtain ⟨l,o,p,q,t,u⟩:=E.out.at6;have F:=yS (F.out.later hb);clear x z A B C D;obtain ⟨x,z,A,B,C,D⟩:=F.out.at6;have M:=yS (M.out.later hb);clear G H I J K L;obtain ⟨G,H,I,J,K,L⟩:=M.out.at6;clear B20;clear hb;have qn21:¬(ZS ((1:Int)) R0<0):=by omega
 have qm21:((ZS ((1:Int)) R0) != (ZS ((1:Int)) R0))=false:=by simp
 go_wp2_with fail
 refine (ZdU [.slice T aN.rules.length U,.slice V aN.ends.length X,.slice Y aN.alphas.length Z,.slice aa aN.nodes.length ab,.slice ac aN.facts.length ad,.int .i64 aN.tries] aN b6 _ br (Yr.keep af.out (Zr B21.out (Yr.lt af.out)))).mono ?_;rintro e w22 ⟨cs,d0,rfl,gt,hb⟩;obtain ⟨c1,c2,c3,c4,c5,c6,c7,c8,c9,da,rfl⟩:=X5 gt.rep;have B22:=yS (B21.out.trans (hb.mono B21.out.size));have sz22:=hb.size;have N:=yS (N.out.later hb);have O:=yS (O.out.later hb);have k:=yS (k.out.later hb);clear a b c f g j;obtain ⟨a,b,c,f,g,j⟩:=k.out.at6;have E:=yS (E.out.later hb);clear l o p q t u;obtain ⟨l,o,p,q,t,u⟩:=E.out.at6;have F:=yS (F.out.later hb);clear x z A B C D;obtain ⟨x,z,A,B,C,D⟩:=F.out.at6;have M:=yS (M.out.later hb);clear G H I J K L;obtain ⟨G,H,I,J,K,L⟩:=M.out.at6;clear B21;have R:=yS gt;have ge_t21aN:=yS gt.own.ge;have lt_t21aN:=yS gt.lt;clear gt hb;go_wp2_with fail
 refine (ZeK bq _ b7 aL b8 _ rfl a6 (cm.out.below B22.out)).mono ?_;rintro e w23 ⟨v,rfl,acc⟩;obtain ⟨d1,d2,rfl⟩:=acc.shape;have hb:=acc.below;obtain ⟨d3,gt⟩:=acc.got;have B23:=yS (B22.out.trans (hb.mono B22.out.size));have sz23:=hb.size;have N:=yS (N.out.later hb);have O:=yS (O.out.later hb);have R:=yS (R.out.later hb);have k:=yS (k.out.later hb);clear a b c f g j;obtain ⟨a,b,c,f,g,j⟩:=k.out.at6;have E:=yS (E.out.later hb);clear l o p q t u;obtain ⟨l,o,p,q,t,u⟩:=E.out.at6;have F:=yS (F.out.later hb);clear x z A B C D;obtain ⟨x,z,A,B,C,D⟩:=F.out.at6;have M:=yS (M.out.later hb);clear G H I J K L;obtain ⟨G,H,I,J,K,L⟩:=M.out.at6;clear B22;have ae:=yS gt;have ge_t22aL:=yS gt.own.ge;have lt_t22aL:=yS gt.lt;clear gt hb acc;go_wp2_with fail
 refine (ZjF ed _ (ZcD hJ0 HJ.out B23.out) [.slice c1 aN.rules.length c2,.slice c3 aN.ends.length c4,.slice c5 aN.alphas.length c6,.slice c7 aN.nodes.length c8,.slice c9 aN.facts.length da,.int .i64 aN.tries] d0 R.out.rep d1 d2 d3 ae.out.rep).mono ?_;rintro e db ⟨cs,ee,rfl,gt,hb⟩;obtain ⟨bt,bu,bv,bw,bx,bz,b0,b1,b2,b3,rfl⟩:=X5 gt.rep;have B24:=yS (B23.out.trans (hb.mono B23.out.size));have sz24:=hb.size;have N:=yS (N.out.later hb);have O:=yS (O.out.later hb);have R:=yS (R.out.later hb);have ae:=yS (ae.out.later hb);have k:=yS (k.out.later hb);clear a b c f g j;obtain ⟨a,b,c,f,g,j⟩:=k.out.at6;have E:=yS (E.out.later hb);clear l o p q t u;obtain ⟨l,o,p,q,t,u⟩:=E.out.at6;have F:=yS (F.out.later hb);clear x z A B C D;obtain ⟨x,z,A,B,C,D⟩:=F.out.at6;have M:=yS (M.out.later hb);clear G H I J K L;obtain ⟨G,H,I,J,K,L⟩:=M.out.at6;clear B23;have b4:=yS gt;have ge_h0:=yS gt.own.ge
 have lt_h0:=yS gt.lt;clear gt hb;have hb:=(Below.refl db.heap.size db).alloc (AL _) (.cells #[.slice bt R0.rules.length bu,.slice bv R0.ends.length bw,.slice bx R0.alphas.length bz,.slice b0 R0.nodes.length b1,.slice b2 R0.facts.length b3,.int .i64 R0.tries] 37);have B25:=yS (B24.out.trans (hb.mono B24.out.size));have sz25:=hb.size;have N:=yS (N.out.later hb);have O:=yS (O.out.later hb);have R:=yS (R.out.later hb);have ae:=yS (ae.out.later hb);have b4:=yS (b4.out.later hb);have k:=yS (k.out.later hb);clear a b c f g j;obtain ⟨a,b,c,f,g,j⟩:=k.out.at6;have E:=yS (E.out.later hb);clear l o p q t u;obtain ⟨l,o,p,q,t,u⟩:=E.out.at6;have F:=yS (F.out.later hb);clear x z A B C D;obtain ⟨x,z,A,B,C,D⟩:=F.out.at6;have M:=yS (M.out.later hb);clear G H I J K L;obtain ⟨G,H,I,J,K,L⟩:=M.out.at6;clear B24
 have szb_h0:db.heap.size+1<=(db.alloc (.cells #[.slice bt R0.rules.length bu,.slice bv R0.ends.length bw,.slice bx R0.alphas.length bz,.slice b0 R0.nodes.length b1,.slice b2 R0.facts.length b3,.int .i64 R0.tries] 37)).heap.size:=AO (by simp only[World.alloc,AP]);have b5:Hid (Blk (db.alloc (.cells #[.slice bt R0.rules.length bu,.slice bv R0.ends.length bw,.slice bx R0.alphas.length bz,.slice b0 R0.nodes.length b1,.slice b2 R0.facts.length b3,.int .i64 R0.tries] 37)) db.heap.size 37 #[.slice bt R0.rules.length bu,.slice bv R0.ends.length bw,.slice bx R0.alphas.length bz,.slice b0 R0.nodes.length b1,.slice b2 R0.facts.length b3,.int .i64 R0.tries]):=Blk.new _ _ _;obtain ⟨bk,bl,bm,bn,bo,bp⟩:=b5.out.at6;clear hb;clear R;clear ae;go_wp2_with fail
 refine (ZdR [.slice bt R0.rules.length bu,.slice bv R0.ends.length bw,.slice bx R0.alphas.length bz,.slice b0 R0.nodes.length b1,.slice b2 R0.facts.length b3,.int .i64 R0.tries] [.slice ai R0.rules.length aj,.slice ak R0.ends.length al,.slice am R0.alphas.length an,.slice ao R0.nodes.length ap,.slice aq R0.facts.length ar,.int .i64 R0.tries] R0 ee dq _ b4.out.rep N.out.rep).mono ?_;rintro e w26 ⟨rfl,hb⟩;have B26:=yS (B25.out.trans (hb.mono B25.out.size));have sz26:=hb.size;have N:=yS (N.out.later hb);have O:=yS (O.out.later hb);have b4:=yS (b4.out.later hb);have k:=yS (k.out.later hb);clear a b c f g j;obtain ⟨a,b,c,f,g,j⟩:=k.out.at6;have E:=yS (E.out.later hb);clear l o p q t u;obtain ⟨l,o,p,q,t,u⟩:=E.out.at6;have F:=yS (F.out.later hb);clear x z A B C D;obtain ⟨x,z,A,B,C,D⟩:=F.out.at6;have M:=yS (M.out.later hb);clear G H I J K L;obtain ⟨G,H,I,J,K,L⟩:=M.out.at6
 have b5:=yS (b5.out.later hb);clear bk bl bm bn bo bp;obtain ⟨bk,bl,bm,bn,bo,bp⟩:=b5.out.at6;clear B25;clear hb;go_wp2_with fail
 refine (Zic _ R0 cn _ _ yE yE O.out.rep).mono ?_;rintro e w27 ⟨rfl,hb⟩;have B27:=yS (B26.out.trans (hb.mono B26.out.size));have sz27:=hb.size;have N:=yS (N.out.later hb);have O:=yS (O.out.later hb);have b4:=yS (b4.out.later hb);have k:=yS (k.out.later hb);clear a b c f g j;obtain ⟨a,b,c,f,g,j⟩:=k.out.at6;have E:=yS (E.out.later hb);clear l o p q t u;obtain ⟨l,o,p,q,t,u⟩:=E.out.at6;have F:=yS (F.out.later hb);clear x z A B C D;obtain ⟨x,z,A,B,C,D⟩:=F.out.at6;have M:=yS (M.out.later hb);clear G H I J K L;obtain ⟨G,H,I,J,K,L⟩:=M.out.at6;have b5:=yS (b5.out.later hb);clear bk bl bm bn bo bp;obtain ⟨bk,bl,bm,bn,bo,bp⟩:=b5.out.at6;clear B26;clear hb;have qn27:¬(ZS ((1:Int)) R0<0):=by omega
 have qm27:((ZS ((1:Int)) R0) != (ZS ((1:Int)) R0))=false:=by simp
 go_wp2_with fail
 go_ret;exact ⟨rfl,B27.out⟩
end
section
open Go.RowKit
theorem ZjK:Zfy prog 56 Ys Zok:=by
 intro H c w base a b B cs x h;obtain ⟨xs,n,_,_,d,e,A⟩:=DataW.trod_struct underlying56 h;have L:cs.length=2:=d.trans yO;have U:xs.length=2:=e
 match cs,L with
 | [a0,a1],_=>
  have N:DataW.trod c prog w base a b n 9 [a0]=some (xs[0]'yE):=by
   have this:DataW.trod c prog w base a b n 9 (AB (prog.cellsOf 9) (AC 0 [a0,a1]))=_:=(A 0 _ rfl).trans (AA (show 0<xs.length by omega));rw [show prog.cellsOf 9=1 by kernel_rfl]at this;exact this
  have M:DataW.trod c prog w base a b n 54 [a1]=some (xs[1]'yE):=by
   have this:DataW.trod c prog w base a b n 54 (AB (prog.cellsOf 54) (AC 1 [a0,a1]))=_:=(A 1 _ rfl).trans (AA (show 1<xs.length by omega));rw [show prog.cellsOf 54=1 by kernel_rfl]at this;exact this
  obtain ⟨S,M0,I,D⟩:=(XV underlying9) N;obtain ⟨P,_,E⟩:=I;cases P;obtain ⟨R,M1,G,C⟩:=(Y8 underlying54 yO (XV underlying9)) M;obtain ⟨A1,T,O,J,K,F⟩:=G;cases O;exact ⟨⟨S,R⟩,_,⟨A1,T,M1,rfl,rfl,E,J,K,F⟩,⟨D,C⟩⟩
theorem Zhi:Zfy prog 88 QY ZjZ:=by
 intro H c w base a b B cs x h;obtain ⟨xs,n,_,_,d,e,A⟩:=DataW.trod_struct underlying88 h;have L:cs.length=2:=d.trans yO;have U:xs.length=2:=e
 match cs,L with
 | [a0,a1],_=>
  have N:DataW.trod c prog w base a b n 9 [a0]=some (xs[0]'yE):=by
   have this:DataW.trod c prog w base a b n 9 (AB (prog.cellsOf 9) (AC 0 [a0,a1]))=_:=(A 0 _ rfl).trans (AA (show 0<xs.length by omega));rw [show prog.cellsOf 9=1 by kernel_rfl]at this;exact this
  have M:DataW.trod c prog w base a b n 54 [a1]=some (xs[1]'yE):=by
   have this:DataW.trod c prog w base a b n 54 (AB (prog.cellsOf 54) (AC 1 [a0,a1]))=_:=(A 1 _ rfl).trans (AA (show 1<xs.length by omega));rw [show prog.cellsOf 54=1 by kernel_rfl]at this;exact this
  obtain ⟨S,M0,I,D⟩:=(XV underlying9) N;obtain ⟨P,_,E⟩:=I;cases P;obtain ⟨R,M1,G,C⟩:=(Y8 underlying54 yO (XV underlying9)) M;obtain ⟨A1,T,O,J,K,F⟩:=G;cases O;exact ⟨⟨S,R⟩,_,⟨A1,T,M1,rfl,rfl,E,J,K,F⟩,⟨D,C⟩⟩
theorem Zw8:Zfy prog 225 XK Zzp:=by
 intro H c w base a b B cs x h;obtain ⟨xs,n,_,_,d,e,A⟩:=DataW.trod_struct underlying225 h;have J:cs.length=2:=d.trans yO;have R:xs.length=2:=e
 match cs,J with
 | [a0,a1],_=>
  have L:DataW.trod c prog w base a b n 9 [a0]=some (xs[0]'yE):=by
   have this:DataW.trod c prog w base a b n 9 (AB (prog.cellsOf 9) (AC 0 [a0,a1]))=_:=(A 0 _ rfl).trans (AA (show 0<xs.length by omega));rw [show prog.cellsOf 9=1 by kernel_rfl]at this;exact this
  have K:DataW.trod c prog w base a b n 9 [a1]=some (xs[1]'yE):=by
   have this:DataW.trod c prog w base a b n 9 (AB (prog.cellsOf 9) (AC 1 [a0,a1]))=_:=(A 1 _ rfl).trans (AA (show 1<xs.length by omega));rw [show prog.cellsOf 9=1 by kernel_rfl]at this;exact this
  obtain ⟨P,M0,I,D⟩:=(XV underlying9) L;obtain ⟨N,_,F⟩:=I;cases N;obtain ⟨O,M1,G,C⟩:=(XV underlying9) K;obtain ⟨M,_,E⟩:=G;cases M;exact ⟨⟨P,O⟩,_,⟨rfl,rfl,F,E⟩,⟨D,C⟩⟩
theorem Zrr:Zfy prog 93 X8 Zu5:=by
 intro H c w base a b B cs x h;obtain ⟨xs,n,_,_,d,e,A⟩:=DataW.trod_struct underlying93 h;have P:cs.length=5:=d.trans yO;have hx:xs.length=4:=e
 match cs,P with
 | [a0,a1,a2,a3,a4],_=>
  have V:DataW.trod c prog w base a b n 3 [a0]=some (xs[0]'yE):=by
   have this:DataW.trod c prog w base a b n 3 (AB (prog.cellsOf 3) (AC 0 [a0,a1,a2,a3,a4]))=_:=(A 0 _ rfl).trans (AA (show 0<xs.length by omega));rw [show prog.cellsOf 3=1 by kernel_rfl]at this;exact this
  have U:DataW.trod c prog w base a b n 88 [a1,a2]=some (xs[1]'yE):=by
   have this:DataW.trod c prog w base a b n 88 (AB (prog.cellsOf 88) (AC 1 [a0,a1,a2,a3,a4]))=_:=(A 1 _ rfl).trans (AA (show 1<xs.length by omega));rw [show prog.cellsOf 88=2 by kernel_rfl]at this;exact this
  have T:DataW.trod c prog w base a b n 9 [a3]=some (xs[2]'yE):=by
   have this:DataW.trod c prog w base a b n 9 (AB (prog.cellsOf 9) (AC 3 [a0,a1,a2,a3,a4]))=_:=(A 2 _ rfl).trans (AA (show 2<xs.length by omega));rw [show prog.cellsOf 9=1 by kernel_rfl]at this;exact this
  have S:DataW.trod c prog w base a b n 9 [a4]=some (xs[3]'yE):=by
   have this:DataW.trod c prog w base a b n 9 (AB (prog.cellsOf 9) (AC 4 [a0,a1,a2,a3,a4]))=_:=(A 3 _ rfl).trans (AA (show 3<xs.length by omega));rw [show prog.cellsOf 9=1 by kernel_rfl]at this;exact this
  obtain ⟨d0,M0,M,E⟩:=(ZcF underlying3) V;obtain ⟨e0,_⟩:=M;cases e0;obtain ⟨d1,M1,L,D⟩:=Zhi U;obtain ⟨A1,c1,N1,e1,R,G,N,O,I⟩:=L;cases e1;subst R;obtain ⟨d2,M2,K,w2⟩:=(XV underlying9) T;obtain ⟨e2,_,F⟩:=K;cases e2;obtain ⟨d3,M3,J,C⟩:=(XV underlying9) S;obtain ⟨W,_,t2⟩:=J;cases W;exact ⟨⟨d0,d1,d2,d3⟩,_,⟨A1,c1,M1,rfl,rfl,G,F,t2,N,O,I⟩,⟨E,D,w2,C⟩⟩
theorem Ztc:Zfy prog 177 YT Zuj:=by
 intro H c w base a b B cs x h;obtain ⟨xs,n,_,_,d,e,A⟩:=DataW.trod_struct underlying177 h;have L:cs.length=3:=d.trans yO;have V:xs.length=2:=e
 match cs,L with
 | [a0,a1,a2],_=>
  have O:DataW.trod c prog w base a b n 3 [a0]=some (xs[0]'yE):=by
   have this:DataW.trod c prog w base a b n 3 (AB (prog.cellsOf 3) (AC 0 [a0,a1,a2]))=_:=(A 0 _ rfl).trans (AA (show 0<xs.length by omega));rw [show prog.cellsOf 3=1 by kernel_rfl]at this;exact this
  have N:DataW.trod c prog w base a b n 88 [a1,a2]=some (xs[1]'yE):=by
   have this:DataW.trod c prog w base a b n 88 (AB (prog.cellsOf 88) (AC 1 [a0,a1,a2]))=_:=(A 1 _ rfl).trans (AA (show 1<xs.length by omega));rw [show prog.cellsOf 88=2 by kernel_rfl]at this;exact this
  obtain ⟨T,M0,I,D⟩:=(ZcF underlying3) O;obtain ⟨R,_⟩:=I;cases R;obtain ⟨S,M1,G,C⟩:=Zhi N;obtain ⟨A1,U,N1,P,M,E,J,K,F⟩:=G;cases P;subst M;exact ⟨⟨T,S⟩,_,⟨A1,U,M1,rfl,rfl,E,J,K,F⟩,⟨D,C⟩⟩
theorem ZxR:Zfy prog 86 X6 ZyV:=by
 intro H c w base a b B cs x h;obtain ⟨xs,n,_,_,d,e,A⟩:=DataW.trod_struct underlying86 h;have S:cs.length=4:=d.trans yO;have hx:xs.length=4:=e
 match cs,S with
 | [a0,a1,a2,a3],_=>
  have W:DataW.trod c prog w base a b n 9 [a0]=some (xs[0]'yE):=by
   have this:DataW.trod c prog w base a b n 9 (AB (prog.cellsOf 9) (AC 0 [a0,a1,a2,a3]))=_:=(A 0 _ rfl).trans (AA (show 0<xs.length by omega));rw [show prog.cellsOf 9=1 by kernel_rfl]at this;exact this
  have V:DataW.trod c prog w base a b n 3 [a1]=some (xs[1]'yE):=by
   have this:DataW.trod c prog w base a b n 3 (AB (prog.cellsOf 3) (AC 1 [a0,a1,a2,a3]))=_:=(A 1 _ rfl).trans (AA (show 1<xs.length by omega));rw [show prog.cellsOf 3=1 by kernel_rfl]at this;exact this
  have U:DataW.trod c prog w base a b n 83 [a2]=some (xs[2]'yE):=by
   have this:DataW.trod c prog w base a b n 83 (AB (prog.cellsOf 83) (AC 2 [a0,a1,a2,a3]))=_:=(A 2 _ rfl).trans (AA (show 2<xs.length by omega));rw [show prog.cellsOf 83=1 by kernel_rfl]at this;exact this
  have T:DataW.trod c prog w base a b n 84 [a3]=some (xs[3]'yE):=by
   have this:DataW.trod c prog w base a b n 84 (AB (prog.cellsOf 84) (AC 3 [a0,a1,a2,a3]))=_:=(A 3 _ rfl).trans (AA (show 3<xs.length by omega));rw [show prog.cellsOf 84=1 by kernel_rfl]at this;exact this
  obtain ⟨d0,M0,M,E⟩:=(XV underlying9) W;obtain ⟨e0,_,F⟩:=M;cases e0;obtain ⟨d1,M1,L,D⟩:=(ZcF underlying3) V;obtain ⟨e1,_⟩:=L;cases e1;obtain ⟨d2,M2,K,w2⟩:=(Y8 underlying83 yO Zrr) U;obtain ⟨A1,c1,e2,O,R,I⟩:=K;cases e2;obtain ⟨d3,M3,J,C⟩:=(Y8 underlying84 yO Ztc) T;obtain ⟨A2,c2,e3,N,P,G⟩:=J;cases e3;exact ⟨⟨d0,d1,d2,d3⟩,_,⟨A1,c1,M2,A2,c2,M3,rfl,rfl,F,O,R,I,N,P,G⟩,⟨E,D,w2,C⟩⟩
theorem Zvr:Zfy prog 181 Yt Zwu:=by
 intro H c w base a b B cs x h;obtain ⟨xs,n,_,_,d,e,A⟩:=DataW.trod_struct underlying181 h;have N:cs.length=2:=d.trans yO;have W:xs.length=2:=e
 match cs,N with
 | [a0,a1],_=>
  have P:DataW.trod c prog w base a b n 26 [a0]=some (xs[0]'yE):=by
   have this:DataW.trod c prog w base a b n 26 (AB (prog.cellsOf 26) (AC 0 [a0,a1]))=_:=(A 0 _ rfl).trans (AA (show 0<xs.length by omega));rw [show prog.cellsOf 26=1 by kernel_rfl]at this;exact this
  have O:DataW.trod c prog w base a b n 179 [a1]=some (xs[1]'yE):=by
   have this:DataW.trod c prog w base a b n 179 (AB (prog.cellsOf 179) (AC 1 [a0,a1]))=_:=(A 1 _ rfl).trans (AA (show 1<xs.length by omega));rw [show prog.cellsOf 179=1 by kernel_rfl]at this;exact this
  obtain ⟨U,M0,I,D⟩:=(Y8 underlying26 yO ZjK) P;obtain ⟨A1,V,S,K,M,F⟩:=I;cases S;obtain ⟨T,M1,G,C⟩:=(Y8 underlying179 yO Zw8) O;obtain ⟨A2,c2,R,J,L,E⟩:=G;cases R;exact ⟨⟨U,T⟩,_,⟨A1,V,M0,A2,c2,M1,rfl,rfl,K,M,F,J,L,E⟩,⟨D,C⟩⟩
theorem Zvs:Zfy prog 90 Xd Zwp:=by
 intro H c w base a b B cs x h;obtain ⟨xs,n,_,_,d,e,A⟩:=DataW.trod_struct underlying90 h;have O:cs.length=3:=d.trans yO;have hx:xs.length=2:=e
 match cs,O with
 | [a0,a1,a2],_=>
  have S:DataW.trod c prog w base a b n 88 [a0,a1]=some (xs[0]'yE):=by
   have this:DataW.trod c prog w base a b n 88 (AB (prog.cellsOf 88) (AC 0 [a0,a1,a2]))=_:=(A 0 _ rfl).trans (AA (show 0<xs.length by omega));rw [show prog.cellsOf 88=2 by kernel_rfl]at this;exact this
  have R:DataW.trod c prog w base a b n 26 [a2]=some (xs[1]'yE):=by
   have this:DataW.trod c prog w base a b n 26 (AB (prog.cellsOf 26) (AC 2 [a0,a1,a2]))=_:=(A 1 _ rfl).trans (AA (show 1<xs.length by omega));rw [show prog.cellsOf 26=1 by kernel_rfl]at this;exact this
  obtain ⟨W,M0,J,D⟩:=Zhi S;obtain ⟨A1,c1,N1,U,P,E,L,N,G⟩:=J;cases U;subst P;obtain ⟨V,M1,I,C⟩:=(Y8 underlying26 yO ZjK) R;obtain ⟨A2,c2,T,K,M,F⟩:=I;cases T;exact ⟨⟨W,V⟩,_,⟨A1,c1,M0,A2,c2,M1,rfl,rfl,E,L,N,G,K,M,F⟩,⟨D,C⟩⟩
theorem ZxQ:Zfy prog 96 QC Zy7:=by
 intro H c w base a b B cs x h;obtain ⟨xs,n,_,_,d,e,A⟩:=DataW.trod_struct underlying96 h;have T:cs.length=8:=d.trans yO;have hx:xs.length=4:=e
 match cs,T with
 | [a0,a1,a2,a3,a4,a5,a6,a7],_=>
  have f0:DataW.trod c prog w base a b n 3 [a0]=some (xs[0]'yE):=by
   have this:DataW.trod c prog w base a b n 3 (AB (prog.cellsOf 3) (AC 0 [a0,a1,a2,a3,a4,a5,a6,a7]))=_:=(A 0 _ rfl).trans (AA (show 0<xs.length by omega));rw [show prog.cellsOf 3=1 by kernel_rfl]at this;exact this
  have f1:DataW.trod c prog w base a b n 93 [a1,a2,a3,a4,a5]=some (xs[1]'yE):=by
   have this:DataW.trod c prog w base a b n 93 (AB (prog.cellsOf 93) (AC 1 [a0,a1,a2,a3,a4,a5,a6,a7]))=_:=(A 1 _ rfl).trans (AA (show 1<xs.length by omega));rw [show prog.cellsOf 93=5 by kernel_rfl]at this;exact this
  have W:DataW.trod c prog w base a b n 3 [a6]=some (xs[2]'yE):=by
   have this:DataW.trod c prog w base a b n 3 (AB (prog.cellsOf 3) (AC 6 [a0,a1,a2,a3,a4,a5,a6,a7]))=_:=(A 2 _ rfl).trans (AA (show 2<xs.length by omega));rw [show prog.cellsOf 3=1 by kernel_rfl]at this;exact this
  have V:DataW.trod c prog w base a b n 94 [a7]=some (xs[3]'yE):=by
   have this:DataW.trod c prog w base a b n 94 (AB (prog.cellsOf 94) (AC 7 [a0,a1,a2,a3,a4,a5,a6,a7]))=_:=(A 3 _ rfl).trans (AA (show 3<xs.length by omega));rw [show prog.cellsOf 94=1 by kernel_rfl]at this;exact this
  obtain ⟨d0,M0,N,E⟩:=(ZcF underlying3) f0;obtain ⟨e0,_⟩:=N;cases e0;obtain ⟨d1,M1,M,D⟩:=Zrr f1;obtain ⟨A1,c1,N1,e1,U,G,F,t2,P,S,J⟩:=M;cases e1;subst U;obtain ⟨d2,M2,L,w2⟩:=(ZcF underlying3) W;obtain ⟨e2,_⟩:=L;cases e2;obtain ⟨d3,M3,K,C⟩:=(Y8 underlying94 yO Zvr) V;obtain ⟨A2,c2,e3,O,R,I⟩:=K;cases e3;exact ⟨⟨d0,d1,d2,d3⟩,_,⟨A1,c1,M1,A2,c2,M3,rfl,rfl,G,F,t2,P,S,J,O,R,I⟩,⟨E,D,w2,C⟩⟩
theorem ZrG:Zfy prog 28 Yr Zml:=by
 intro H c w base a b B cs x h;obtain ⟨xs,n,_,_,d,e,A⟩:=DataW.trod_struct underlying28 h;have hl:cs.length=6:=d.trans yO;have hx:xs.length=6:=e
 match cs,hl with
 | [a0,a1,a2,a3,a4,a5],_=>
  have f0:DataW.trod c prog w base a b n 22 [a0]=some (xs[0]'yE):=by
   have this:DataW.trod c prog w base a b n 22 (AB (prog.cellsOf 22) (AC 0 [a0,a1,a2,a3,a4,a5]))=_:=(A 0 _ rfl).trans (AA (show 0<xs.length by omega));rw [show prog.cellsOf 22=1 by kernel_rfl]at this;exact this
  have f1:DataW.trod c prog w base a b n 23 [a1]=some (xs[1]'yE):=by
   have this:DataW.trod c prog w base a b n 23 (AB (prog.cellsOf 23) (AC 1 [a0,a1,a2,a3,a4,a5]))=_:=(A 1 _ rfl).trans (AA (show 1<xs.length by omega));rw [show prog.cellsOf 23=1 by kernel_rfl]at this;exact this
  have f2:DataW.trod c prog w base a b n 24 [a2]=some (xs[2]'yE):=by
   have this:DataW.trod c prog w base a b n 24 (AB (prog.cellsOf 24) (AC 2 [a0,a1,a2,a3,a4,a5]))=_:=(A 2 _ rfl).trans (AA (show 2<xs.length by omega));rw [show prog.cellsOf 24=1 by kernel_rfl]at this;exact this
  have f3:DataW.trod c prog w base a b n 25 [a3]=some (xs[3]'yE):=by
   have this:DataW.trod c prog w base a b n 25 (AB (prog.cellsOf 25) (AC 3 [a0,a1,a2,a3,a4,a5]))=_:=(A 3 _ rfl).trans (AA (show 3<xs.length by omega));rw [show prog.cellsOf 25=1 by kernel_rfl]at this;exact this
  have f4:DataW.trod c prog w base a b n 26 [a4]=some (xs[4]'yE):=by
   have this:DataW.trod c prog w base a b n 26 (AB (prog.cellsOf 26) (AC 4 [a0,a1,a2,a3,a4,a5]))=_:=(A 4 _ rfl).trans (AA (show 4<xs.length by omega));rw [show prog.cellsOf 26=1 by kernel_rfl]at this;exact this
  have f5:DataW.trod c prog w base a b n 3 [a5]=some (xs[5]'yE):=by
   have this:DataW.trod c prog w base a b n 3 (AB (prog.cellsOf 3) (AC 5 [a0,a1,a2,a3,a4,a5]))=_:=(A 5 _ rfl).trans (AA (show 5<xs.length by omega));rw [show prog.cellsOf 3=1 by kernel_rfl]at this;exact this
  obtain ⟨d0,M0,T,G⟩:=(Y8 underlying22 yO ZxR) f0;obtain ⟨A1,c1,e0,n1,m1,M⟩:=T;cases e0;obtain ⟨d1,M1,S,F⟩:=(Y8 underlying23 yO (ZcF underlying3)) f1;obtain ⟨A2,c2,e1,n2,m2,L⟩:=S;cases e1;obtain ⟨d2,M2,R,w2⟩:=(Y8 underlying24 yO Zvs) f2;obtain ⟨A3,c3,e2,W,m3,K⟩:=R;cases e2;obtain ⟨d3,M3,P,E⟩:=(Y8 underlying25 yO ZxQ) f3;obtain ⟨A4,c4,e3,V,m4,J⟩:=P;cases e3;obtain ⟨d4,M4,O,D⟩:=(Y8 underlying26 yO ZjK) f4;obtain ⟨A5,c5,e4,U,m5,I⟩:=O;cases e4;obtain ⟨d5,M5,N,C⟩:=(ZcF underlying3) f5;obtain ⟨e5,_⟩:=N;cases e5;exact ⟨⟨d0,d1,d2,d3,d4,d5⟩,_,⟨A1,c1,M0,A2,c2,M1,A3,c3,M2,A4,c4,M3,A5,c5,M4,rfl,rfl,n1,m1,M,n2,m2,L,W,m3,K,V,m4,J,U,m5,I⟩,⟨G,F,w2,E,D,C⟩⟩
theorem Zvt:Zfy prog 58 XG Zrw:=by
 intro H c w base a b B cs x h;obtain ⟨xs,n,_,_,d,e,A⟩:=DataW.trod_struct underlying58 h;have N:cs.length=4:=d.trans yO;have hx:xs.length=3:=e
 match cs,N with
 | [a0,a1,a2,a3],_=>
  have R:DataW.trod c prog w base a b n 3 [a0]=some (xs[0]'yE):=by
   have this:DataW.trod c prog w base a b n 3 (AB (prog.cellsOf 3) (AC 0 [a0,a1,a2,a3]))=_:=(A 0 _ rfl).trans (AA (show 0<xs.length by omega));rw [show prog.cellsOf 3=1 by kernel_rfl]at this;exact this
  have P:DataW.trod c prog w base a b n 9 [a1]=some (xs[1]'yE):=by
   have this:DataW.trod c prog w base a b n 9 (AB (prog.cellsOf 9) (AC 1 [a0,a1,a2,a3]))=_:=(A 1 _ rfl).trans (AA (show 1<xs.length by omega));rw [show prog.cellsOf 9=1 by kernel_rfl]at this;exact this
  have O:DataW.trod c prog w base a b n 56 [a2,a3]=some (xs[2]'yE):=by
   have this:DataW.trod c prog w base a b n 56 (AB (prog.cellsOf 56) (AC 2 [a0,a1,a2,a3]))=_:=(A 2 _ rfl).trans (AA (show 2<xs.length by omega));rw [show prog.cellsOf 56=2 by kernel_rfl]at this;exact this
  obtain ⟨d0,M0,K,D⟩:=(ZcF underlying3) R;obtain ⟨U,_⟩:=K;cases U;obtain ⟨W,M1,J,C⟩:=(XV underlying9) P;obtain ⟨T,_,F⟩:=J;cases T;obtain ⟨V,M2,I,w2⟩:=ZjK O;obtain ⟨A1,c1,N1,S,g2,E,L,M,G⟩:=I;cases S;subst g2;exact ⟨⟨d0,W,V⟩,_,⟨A1,c1,M2,rfl,rfl,F,E,L,M,G⟩,⟨D,C,w2⟩⟩
end
end
end Go.Proofs.YtfdjdgdipgfmeaaGreatDoor
