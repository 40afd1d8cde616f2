/- Texts of this proof, joined: Dp8, Dp7, Dp9, Dp10, Dp11, Dp12, Dp13, Dp14, Dp15, Dp16, Dp17, Fo, Dp18, Dp19, Dp20. What each holds is said at its theorems. -/
import Derived.Test.YtekbmedphidcgaaGreatDoorProofOfQ6
import Derived.Test.YtekbmedphidcgaaGreatDoorProg
import Derived.OwnWalk
import Derived.Outline
import Derived.WalkSpells
import Derived.StillTailTactics
import Derived.Deep.RegionHeld3
open Int renaming toNat_natCast→A6
open List renaming map→A0,getElem?_eq_some_iff→A9,drop_eq_getElem_cons→AA,drop_eq_nil_of_le→AB,mem_singleton→AC,length_append→AD,map_append→AE
open Nat renaming le_trans→A4,le_refl→A8
open Option renaming bind_eq_some_iff→A5,bind_some→A7
open Option.some renaming inj→A3
open Go.Proofs.Tryz
set_option linter.unusedSimpArgs false
set_option linter.unusedVariables false
set_option maxRecDepth 1000000
set_option maxHeartbeats 4000000
namespace Go.Proofs.YtekbmedphidcgaaGreatDoor
section
theorem Zfk {append_0:Zv} {String_1:Zd} {a_2:(List Zp)} {r:((List Zp) × Bool)} (h:ZaF append_0 String_1 a_2=some r):Zl prog J0 138 [(true,Qz append_0),(true,Zq String_1),(false,[.sl 135 2 (A0 ZZ a_2)])] [(false,[(false,.sl 135 2 (A0 ZZ r.1))]),(false,[(false,.bool r.2)])]:=by
 refine fnk func138 rfl ?_
 unfold ZaF at h
 simp only[fnS,f138,Zm,go_sem,seval]
 refine Za h fun v1 g h=>Zb (XL g)<|yA ?_
 refine yB h (fun _ h=>?_) fun _ h=>?_
 refine Za h fun _ k h=>Zb (Zjf k)<|yA ?_
 refine yB h (fun _ h=>?_) fun _ h=>?_
 refine Za h fun _ l h=>Zb (Qk l)<|yA ?_
 iterate 3 refine yB h (fun _ h=>?_) fun _ h=>?_
 cases h;exact yD
 refine Za h fun _ m h=>Zb (Zfq m)<|yA ?_
 refine Zh h (fun i a st=>IV [(4,.bp 0 0),(8,.p false [.row 1]),(45,yM (yP append_0.args)),(46,yL append_0.args.length),(47,yL i)] [yY 71 (Zq String_1),.row 135 2 (A0 ZZ a) 2] st) [] [16,544] yF yD ?_ ?_
 rintro _ _ a ⟨sl,ob,n⟩ _ b d o h e
 simp only[go_sem,seval,Zc] at d
 obtain ⟨⟨_,_,q,_,_⟩,_,_,hn⟩:=d
 subst hn
 have t:=WF.slotL o q (j:=0) rfl
 have:=ZB b
 have:=ZC b
 have:=Zj (ZA b) t
 simp only[*,go_sem,seval]
 refine Za h fun _ u h=>Zb (XS u)<|yA ?_
 refine yB h (fun _ h=>?_) fun _ h=>?_
 obtain ⟨_,_,_,v,h⟩:=Zci h
 simp only[A6] at v
 simp only[*,go_sem,seval]
 refine yB h (fun _ h=>?_) fun _ h=>?_
 exact yC h [] [0,1]
 replace h:=Zo h e
 cases h;exact yD
 obtain ⟨_,_,_,w,h⟩:=Zci h
 simp only[A6] at w
 simp only[*,go_sem,seval]
 refine Za h fun _ x h=>Zb (Zo9 x)<|yA ?_
 refine yB h (fun _ h=>?_) fun _ h=>?_
 exact yC h [] [0,242]
 replace h:=Zo h e
 cases h;exact yD
 rintro a ⟨sl,ob,n⟩ f _ h
 simp only[go_sem,seval,Zc] at f
 obtain ⟨⟨_,_,_,_,_⟩,_,_,hn⟩:=f
 subst hn
 have:=Zz (append_0.args.length)
 iterate 5 (cases h;exact yD)
theorem Zfj {x_0:Zr} {r:Bool} (h:Zdj x_0=some r):Zl prog J0 201 [(true,ZK x_0)] [(false,[(false,.bool r)])]:=by
 refine fnk func201 rfl ?_
 unfold Zdj at h
 have a:Z2 ⟨#[]⟩=true:=by decide
 simp only[fnS,f201,Zm,go_sem,seval,a]
 refine yB h (fun _ h=>?_) fun _ h=>?_
 refine Za h fun v1 b h=>Zb (XL b)<|yA ?_
 iterate 2 refine yB h (fun _ h=>?_) fun _ h=>?_
 iterate 3 (cases h;exact yD)
 refine yB h (fun _ h=>?_) fun _ h=>?_
 refine Za h fun _ c h=>Zb (XL c)<|yA ?_
 iterate 2 refine yB h (fun _ h=>?_) fun _ h=>?_
 iterate 3 (cases h;exact yD)
 refine yB h (fun _ h=>?_) fun _ h=>?_
 refine Za h fun _ d h=>Zb (QF d)<|yA ?_
 refine yB h (fun _ h=>?_) fun _ h=>?_
 refine Za h fun _ e h=>Zb (QF e)<|yA ?_
 refine yB h (fun _ h=>?_) fun _ h=>?_
 refine Za h fun _ f h=>Zb (QN f) ?_
 iterate 3 (cases h;exact yD)
 refine yB h (fun _ h=>?_) fun _ h=>?_
 refine Za h fun _ g h=>Zb (QF g)<|yA ?_
 refine yB h (fun _ h=>?_) fun _ h=>?_
 refine Za h fun _ i h=>Zb (QF i)<|yA ?_
 refine yB h (fun _ h=>?_) fun _ h=>?_
 refine Za h fun _ j h=>Zb (QN j) ?_
 iterate 3 (cases h;exact yD)
 refine yB h (fun _ h=>?_) fun _ h=>?_
 refine Za h fun _ k h=>Zb (QF k)<|yA ?_
 refine yB h (fun _ h=>?_) fun _ h=>?_
 refine Za h fun _ l h=>Zb (QF l)<|yA ?_
 refine yB h (fun _ h=>?_) fun _ h=>?_
 refine Za h fun _ m h=>Zb (QN m) ?_
 iterate 4 (cases h;exact yD)
theorem ZnM {a:(List Zd)} {f_1:Zd} {r:(List Zd)} (h:XF a f_1=some r):Zl prog J0 121 [(false,[.sl 71 2 (A0 Zq a)]),(true,Zq f_1)] [(false,[(false,.sl 71 2 (A0 Zq r))])]:=by
 refine fnk func121 rfl ?_
 unfold XF at h
 simp only[fnS,f121,Zm,go_sem,seval]
 refine Zh h (fun i s st=>match s with | (b,d)=>IV [(3,.bp 0 0),(5,.p false [.row 1]),(6,yM (.bool d)),(9,yM (yO a)),(10,yL a.length),(11,yL i)] [yY 71 (Zq f_1),.row 71 2 (A0 Zq b) 2] st) [(false,5,0)] [0,112] yF yD ?_ ?_
 rintro _ _ ⟨b,d⟩ ⟨sl,ob,n⟩ _ e f l h _
 simp only[go_sem,seval,Zc] at f
 obtain ⟨⟨_,_,_,m,_,_⟩,_,_,hn⟩:=f
 subst hn
 have o:=WF.slotL l m (j:=0) rfl
 have:=ZB e
 have:=ZC e
 have:=Zj (ZA e) o
 simp only[*,go_sem,seval]
 refine yB h (fun _ h=>?_) fun _ h=>?_
 refine Za h fun _ q h=>Zb (YC q) ?_
 obtain ⟨t,h⟩:=Zs h
 try simp only[Nat.reduceLeDiff] at t
 simp only[*,go_sem,seval]
 exact yC h [] [0,274]
 refine Za h fun _ u h=>Zb (Zdp u)<|yA ?_
 refine yB h (fun _ h=>?_) fun _ h=>?_
 refine Za h fun _ v h=>Zb (YC v) ?_
 obtain ⟨w,h⟩:=Zs h
 try simp only[Nat.reduceLeDiff] at w
 simp only[*,go_sem,seval]
 refine Za h fun _ x h=>Zb (YC x) ?_
 obtain ⟨y,h⟩:=Zs h
 try simp only[Nat.reduceLeDiff] at y
 simp only[*,go_sem,seval]
 exact yC h [] [0,386]
 refine Za h fun _ z h=>Zb (YC z) ?_
 obtain ⟨A,h⟩:=Zs h
 try simp only[Nat.reduceLeDiff] at A
 simp only[*,go_sem,seval]
 exact yC h [] [0,274]
 rintro ⟨b,d⟩ ⟨sl,ob,n⟩ g _ h
 simp only[go_sem,seval,Zc] at g
 obtain ⟨⟨_,_,_,_,_,_⟩,_,_,hn⟩:=g
 subst hn
 have:=Zz (a.length)
 simp only[*,go_sem,seval]
 refine yB h (fun _ h=>?_) fun _ h=>?_
 cases h;exact yD
 refine Za h fun _ B h=>Zb (YC B) ?_
 obtain ⟨C,h⟩:=Zs h
 try simp only[Nat.reduceLeDiff] at C
 cases h;exact yD
theorem ZdP {p_0:Zv} {b_1:(List Zp)} {r:(Zd × Bool)} (h:XZ p_0 b_1=some r):Zl prog J0 174 [(true,Qz p_0),(false,[.sl 135 2 (A0 ZZ b_1)])] [(true,[(false,.str r.1.rel),(false,.sl 9 1 (A0 Zw r.1.args))]),(false,[(false,.bool r.2)])]:=by
 refine fnk func174 rfl ?_
 unfold XZ at h
 simp only[fnS,f174,Zm,go_sem,seval]
 refine Za h fun v1 f h=>Zb (XL f)<|yA ?_
 refine yB h (fun _ h=>?_) fun _ h=>?_
 refine Za h fun _ g h=>Zb (Qk g)<|yA ?_
 refine yB h (fun _ h=>?_) fun _ h=>?_
 refine Zh h (fun i a st=>IV [(1,yM (yT b_1)),(4,.bp 0 0),(6,.bp 1 0),(24,yM (yP p_0.args)),(25,yL p_0.args.length),(26,yL i)] [.box 71 [.c (.str ⟨#[]⟩),.nil 9 1],.box 71 [.c (.str p_0.rel),.row 2],.row 9 1 (A0 Zw a) 2] st) [(true,224,1)] [16,224,320] yF yD ?_ ?_
 rintro _ _ a ⟨sl,ob,n⟩ _ b d k h l
 simp only[go_sem,seval,Zc] at d
 obtain ⟨⟨_,_,_,m,_,_⟩,_,_,_,hn⟩:=d
 subst hn
 have o:=WF.slotL k m (j:=0) rfl
 have:=ZB b
 have:=ZC b
 have:=Zj (ZA b) o
 simp only[*,go_sem,seval]
 refine Za h fun _ q h=>Zb (Zcn q)<|yA ?_
 refine yB h (fun _ h=>?_) fun _ h=>?_
 obtain ⟨t,h⟩:=Zs h
 try simp only[Nat.reduceLeDiff] at t
 simp only[*,go_sem,seval]
 exact yC h [] [0,1,291]
 replace h:=Zo h l
 cases h;exact yD
 rintro a ⟨sl,ob,n⟩ e _ h
 simp only[go_sem,seval,Zc] at e
 obtain ⟨⟨_,_,_,_,_,_⟩,_,_,_,hn⟩:=e
 subst hn
 have:=Zz (p_0.args.length)
 iterate 3 (cases h;exact yD)
theorem Zfo {r_0:Zf} {k_1:Int} {v_2:ByteArray} {r:Bool} (h:Xm r_0 k_1 v_2=some r):Zl prog J0 256 [(true,ZG r_0),(false,[.int .i64 k_1]),(false,[.str v_2])] [(false,[(false,.bool r)])]:=by
 refine fnk func256 rfl ?_
 unfold Xm at h
 simp only[fnS,f256,Zm,go_sem,seval]
 refine Zh h (fun i _ st=>IV [(1,yM (.int .i64 k_1)),(2,yM (.str v_2)),(3,.bp 0 0),(12,yM (yS r_0.cond)),(13,yL r_0.cond.length),(14,yL i)] [yY 104 (ZG r_0)] st) [] [0] yF yD ?_ ?_
 rintro _ _ ⟨⟩ ⟨sl,ob,n⟩ _ a d k h l
 simp only[go_sem,seval,Zc] at d
 obtain ⟨⟨_,_,_,m,_,_⟩,_,hn⟩:=d
 subst hn
 have o:=WF.slotL k m (j:=0) rfl
 have:=ZB a
 have:=ZC a
 have:=Zj (ZA a) o
 simp only[*,go_sem,seval]
 refine yB h (fun _ h=>?_) fun _ h=>?_
 refine Za h fun _ q h=>Zb (ZbA q)<|yA ?_
 refine Za h fun _ t h=>Zb (QT t)<|yA ?_
 refine yB h (fun _ h=>?_) fun _ h=>?_
 replace h:=Zo h l
 cases h;exact yD
 exact yC h [] [0]
 exact yC h [] [0]
 rintro ⟨⟩ ⟨sl,ob,n⟩ e _ h
 simp only[go_sem,seval,Zc] at e
 obtain ⟨⟨_,_,_,_,_,_⟩,_,hn⟩:=e
 subst hn
 have:=Zz (r_0.cond.length)
 simp only[*,go_sem,seval]
 refine Zh h (fun i _ st=>IV [(2,yM (.str v_2)),(30,yM (yV r_0.thn)),(31,yL r_0.thn.length),(32,yL i)] [] st) [] [] yF yD ?_ ?_
 rintro _ _ ⟨⟩ ⟨sl,ob,n⟩ _ b f u h v
 simp only[go_sem,seval,Zc] at f
 obtain ⟨⟨_,w,_,_⟩,hn⟩:=f
 subst hn
 have x:=WF.slotL u w (j:=0) rfl
 have:=ZB b
 have:=ZC b
 have:=Zj (ZA b) x
 simp only[*,go_sem,seval]
 refine Za h fun _ y h=>Zb (QT y)<|yA ?_
 refine yB h (fun _ h=>?_) fun _ h=>?_
 replace h:=Zo h v
 cases h;exact yD
 exact yC h [] []
 rintro ⟨⟩ ⟨sl,ob,n⟩ g _ h
 simp only[go_sem,seval,Zc] at g
 obtain ⟨⟨_,_,_,_⟩,hn⟩:=g
 subst hn
 have:=Zz (r_0.thn.length)
 cases h;exact yD
theorem Zl0 {a_0:Zx} {r:Bool} (h:Zc5 a_0=some r):Zl prog J0 204 [(true,ZD a_0)] [(false,[(false,.bool r)])]:=by
 refine fnk func204 rfl ?_
 unfold Zc5 at h
 simp only[fnS,f204,Zm,go_sem,seval]
 refine yB h (fun _ h=>?_) fun _ h=>?_
 refine Za h fun v1 a h=>Zb (XL a) ?_
 cases h;exact yD
 refine yB h (fun _ h=>?_) fun _ h=>?_
 refine Za h fun _ b h=>Zb (XL b) ?_
 cases h;exact yD
 refine yB h (fun _ h=>?_) fun _ h=>?_
 refine Za h fun _ c h=>Zb (QN c) ?_
 iterate 2 (cases h;exact yD)
theorem Zjn {l_0:(List Zr)} {r:(List ByteArray)} (h:Za4 l_0=some r):Zl prog J0 208 [(false,[.sl 60 5 (A0 ZK l_0)])] [(false,[(false,.sl 9 1 (A0 Zw r))])]:=by
 refine fnk func208 rfl ?_
 unfold Za4 at h
 simp only[fnS,f208,Zm,go_sem,seval]
 refine Zh h (fun i a st=>IV [(3,.p false [.row 0]),(6,yM (yS l_0)),(7,yL l_0.length),(8,yL i)] [.row 9 1 (A0 Zw a) 2] st) [(false,3,0)] [80] yF yD ?_ ?_
 rintro _ _ a ⟨sl,ob,n⟩ _ b d f h _
 simp only[go_sem,seval,Zc] at d
 obtain ⟨⟨_,g,_,_⟩,_,hn⟩:=d
 subst hn
 have k:=WF.slotL f g (j:=0) rfl
 have:=ZB b
 have:=ZC b
 have:=Zj (ZA b) k
 simp only[*,go_sem,seval]
 refine Za h fun _ l h=>Zb (ZbA l) ?_
 obtain ⟨_,h⟩:=Zs h
 simp only[*,go_sem,seval]
 exact yC h [] [129]
 rintro a ⟨sl,ob,n⟩ e _ h
 simp only[go_sem,seval,Zc] at e
 obtain ⟨⟨_,_,_,_⟩,_,hn⟩:=e
 subst hn
 have:=Zz (l_0.length)
 cases h;exact yD
theorem ZlA {l_0:(List Zd)} {r:Bool} (h:ZcA l_0=some r):Zl prog J0 235 [(false,[.sl 71 2 (A0 Zq l_0)])] [(false,[(false,.bool r)])]:=by
 refine fnk func235 rfl ?_
 unfold ZcA at h
 simp only[fnS,f235,Zm,go_sem,seval]
 refine yB h (fun _ h=>?_) fun _ h=>?_
 cases h;exact yD
 refine Zh h (fun i _ st=>IV [(0,yM (yO l_0)),(8,yM (yO l_0)),(9,yL l_0.length),(10,yL i)] [] st) [] [] yF yD ?_ ?_
 rintro _ _ ⟨⟩ ⟨sl,ob,n⟩ _ a b f h d
 simp only[go_sem,seval,Zc] at b
 obtain ⟨⟨g,_,_,_⟩,hn⟩:=b
 subst hn
 have k:=WF.slotL f g (j:=0) rfl
 have:=ZB a
 have:=ZC a
 have:=Zj (ZA a) k
 simp only[*,go_sem,seval]
 refine Za h fun _ l h=>Zb (Zjf l)<|yA ?_
 iterate 2 refine yB h (fun _ h=>?_) fun _ h=>?_
 obtain ⟨_,_,_,_,h⟩:=Zci h
 simp only[*,go_sem,seval]
 refine Za h fun _ m h=>Zb (Zdp m)<|yA ?_
 refine yB h (fun _ h=>?_) fun _ h=>?_
 replace h:=Zo h d
 cases h;exact yD
 exact yC h [] []
 exact yC h [] []
 replace h:=Zo h d
 cases h;exact yD
 rintro ⟨⟩ ⟨sl,ob,n⟩ e _ h
 simp only[go_sem,seval,Zc] at e
 obtain ⟨⟨_,_,_,_⟩,hn⟩:=e
 subst hn
 have:=Zz (l_0.length)
 cases h;exact yD
theorem Y3 {p_0:Zv} {r:Bool} (h:YD p_0=some r):Zl prog J0 157 [(true,Qz p_0)] [(false,[(false,.bool r)])]:=by
 refine fnk func157 rfl ?_
 unfold YD at h
 simp only[fnS,f157,Zm,go_sem,seval]
 refine Zh h (fun i _ st=>IV [(1,.bp 0 0),(3,yL i)] [.box 58 [.c (.str p_0.rel),.c (yP p_0.args)]] st) [] [0] yF yD ?_ ?_
 rintro _ _ ⟨⟩ ⟨sl,ob,n⟩ _ a b e h f
 simp only[go_sem,seval,Zc] at b
 obtain ⟨⟨_,_⟩,g,hn⟩:=b
 subst hn
 have k:=WF.boxL e g (j:=1) rfl
 have:=ZB a
 have:=ZC a
 have:=Zj (ZA a) k
 simp only[*,go_sem,seval]
 refine Za h fun _ l h=>Zb (Qp l)<|yA ?_
 refine yB h (fun _ h=>?_) fun _ h=>?_
 exact yC h [] [0]
 replace h:=Zo h f
 cases h;exact yD
 rintro ⟨⟩ ⟨sl,ob,n⟩ d _ h
 simp only[go_sem,seval,Zc] at d
 obtain ⟨⟨_,_⟩,_,hn⟩:=d
 subst hn
 have:=Zz (p_0.args.length)
 simp only[*,go_sem,seval]
 refine Za h fun _ m h=>Zb (ZfW m)<|yA ?_
 refine yB h (fun _ h=>?_) fun _ h=>?_
 iterate 2 (cases h;exact yD)
theorem ZaS {r_0:Zf} {n_1:Int} {r:(List ByteArray)} (h:XT r_0 n_1=some r):Zl prog J0 149 [(true,ZG r_0),(false,[.int .i64 n_1])] [(false,[(false,.sl 9 1 (A0 Zw r))])]:=by
 refine fnk func149 rfl ?_
 unfold XT at h
 simp only[fnS,f149,Zm,go_sem,seval]
 refine Zh h (fun i a st=>IV [(1,yM (.int .i64 n_1)),(2,.bp 0 0),(5,.p false [.row 1]),(6,yL i)] [yY 104 (ZG r_0),.row 9 1 (A0 Zw a) 2] st) [] [0,32] yF yD ?_ ?_
 rintro b _ a ⟨sl,ob,n⟩ _ d g q h t
 simp only[go_sem,seval,Zc] at g
 obtain ⟨⟨_,_,_,_⟩,u,_,hn⟩:=g
 subst hn
 have v:=WF.boxL q u (j:=2) rfl
 have:=ZB d
 have:=ZC d
 have:=Zj (ZA d) v
 simp only[*,go_sem,seval]
 iterate 2 refine yB h (fun _ h=>?_) fun _ h=>?_
 refine Za h fun k w h=>Zb (ZbQ w)<|yA ?_
 refine Zh h (fun i e st=>IV [(1,yM (.int .i64 n_1)),(2,.bp 0 0),(5,.p false [.row 1]),(6,yL b),(7,.p false [.row 2]),(8,yL i),(16,yL b),(17,yM (.int .i64 n_1)),(18,yM (.bool (decide (((b:Nat):Int)<n_1))))] [yY 104 (ZG r_0),.row 9 1 (A0 Zw e) 2,.row 9 1 (A0 Zw k) 2] st) [] [0,1,370] yF yD ?_ ?_
 rintro _ _ e ⟨sl,ob,n⟩ _ f l x h _
 simp only[go_sem,seval,Zc] at l
 obtain ⟨⟨_,_,_,_,_,_,_,_,_⟩,_,_,y,hn⟩:=l
 subst hn
 have z:=WF.rowL x y
 have:=ZB f
 have:=ZC f
 have:=Zj (ZA f) z
 simp only[*,go_sem,seval]
 refine Za h fun _ A h=>Zb (Y1 A)<|yA ?_
 exact yC h [] [0,147,2]
 rintro e ⟨sl,ob,n⟩ m _ h
 simp only[go_sem,seval,Zc] at m
 obtain ⟨⟨_,_,_,_,_,_,_,_,_⟩,_,_,_,hn⟩:=m
 subst hn
 have:=Zz (k.length)
 simp only[*,go_sem,seval]
 exact yC h [] [0,1]
 exact yC h [] [0,1]
 replace h:=Zo h t
 cases h;exact yD
 rintro a ⟨sl,ob,n⟩ o _ h
 simp only[go_sem,seval,Zc] at o
 obtain ⟨⟨_,_,_,_⟩,_,_,hn⟩:=o
 subst hn
 have:=Zz (r_0.cond.length)
 cases h;exact yD
theorem Q7 {x_0:Zr} {r:(List ByteArray)} (h:Xz x_0=some r):Zl prog J0 150 [(true,ZK x_0)] [(false,[(false,.sl 9 1 (A0 Zw r))])]:=by
 refine fnk func150 rfl ?_
 unfold Xz at h
 simp only[fnS,f150,Zm,go_sem,seval]
 refine Za h fun v1 a h=>Zb (ZbQ a)<|yA ?_
 refine Za h fun _ b h=>Zb (Qq b)<|yA ?_
 refine yB h (fun _ h=>?_) fun _ h=>?_
 refine Za h fun _ c h=>Zb (Y1 c)<|yA ?_
 refine Za h fun _ d h=>Zb (Qq d)<|yA ?_
 refine yB h (fun _ h=>?_) fun _ h=>?_
 refine Za h fun _ e h=>Zb (Y1 e) ?_
 iterate 2 (cases h;exact yD)
 refine Za h fun _ f h=>Zb (Qq f)<|yA ?_
 refine yB h (fun _ h=>?_) fun _ h=>?_
 refine Za h fun _ g h=>Zb (Y1 g) ?_
 iterate 2 (cases h;exact yD)
theorem Zdi {a:(List Zd)} {f_1:Zd} {r:(List Zd)} (h:YI a f_1=some r):Zl prog J0 117 [(false,[.sl 71 2 (A0 Zq a)]),(true,Zq f_1)] [(false,[(false,.sl 71 2 (A0 Zq r))])]:=by
 refine fnk func117 rfl ?_
 unfold YI at h
 simp only[fnS,f117,Zm,go_sem,seval]
 refine Zh h (fun i s st=>match s with | (b,d)=>IV [(0,yM (yO a)),(3,.bp 0 0),(5,.p false [.row 1]),(6,yM (.bool d)),(7,yL i)] [yY 71 (Zq f_1),.row 71 2 (A0 Zq b) 2] st) [] [0,32] yF yD ?_ ?_
 rintro _ _ ⟨b,d⟩ ⟨sl,ob,n⟩ _ e f k h _
 simp only[go_sem,seval,Zc] at f
 obtain ⟨⟨l,_,_,_,_⟩,_,_,hn⟩:=f
 subst hn
 have m:=WF.slotL k l (j:=0) rfl
 have:=ZB e
 have:=ZC e
 have:=Zj (ZA e) m
 simp only[*,go_sem,seval]
 refine yB h (fun _ h=>?_) fun _ h=>?_
 refine Za h fun _ o h=>Zb (Xr o) ?_
 obtain ⟨q,h⟩:=Zs h
 try simp only[Nat.reduceLeDiff] at q
 simp only[*,go_sem,seval]
 exact yC h [] [0,354]
 refine Za h fun _ t h=>Zb (Za3 t)<|yA ?_
 refine yB h (fun _ h=>?_) fun _ h=>?_
 refine Za h fun _ u h=>Zb (Za3 u)<|yA ?_
 refine yB h (fun _ h=>?_) fun _ h=>?_
 refine Za h fun _ v h=>Zb (Xr v) ?_
 obtain ⟨w,h⟩:=Zs h
 try simp only[Nat.reduceLeDiff] at w
 simp only[*,go_sem,seval]
 refine Za h fun _ x h=>Zb (Xr x) ?_
 obtain ⟨y,h⟩:=Zs h
 try simp only[Nat.reduceLeDiff] at y
 simp only[*,go_sem,seval]
 exact yC h [] [0,578]
 refine Za h fun _ z h=>Zb (Xr z) ?_
 obtain ⟨A,h⟩:=Zs h
 try simp only[Nat.reduceLeDiff] at A
 simp only[*,go_sem,seval]
 exact yC h [] [0,482]
 refine Za h fun _ B h=>Zb (Xr B) ?_
 obtain ⟨C,h⟩:=Zs h
 try simp only[Nat.reduceLeDiff] at C
 simp only[*,go_sem,seval]
 exact yC h [] [0,354]
 rintro ⟨b,d⟩ ⟨sl,ob,n⟩ g _ h
 simp only[go_sem,seval,Zc] at g
 obtain ⟨⟨_,_,_,_,_⟩,_,_,hn⟩:=g
 subst hn
 have:=Zz (a.length)
 simp only[*,go_sem,seval]
 refine yB h (fun _ h=>?_) fun _ h=>?_
 cases h;exact yD
 refine Za h fun _ D h=>Zb (Xr D) ?_
 obtain ⟨E,h⟩:=Zs h
 try simp only[Nat.reduceLeDiff] at E
 cases h;exact yD
end
section
theorem ZEt {b_0:Zu} {r:Bool} (h:ZDG b_0=some r):Zl prog J0 265 [(true,Qw b_0)] [(false,[(false,.bool r)])]:=by
 refine fnk func265 rfl ?_
 unfold ZDG at h
 simp only[fnS,f265,Zm,go_sem,seval]
 refine Za h fun v1 o h=>Zb (ZF7 o)<|yA ?_
 refine yB h (fun _ h=>?_) fun _ h=>?_
 refine Zh h (fun i _ st=>IV [(1,.bp 0 0),(3,yL i)] [.box 91 [.c (.int .i64 b_0.nodes),.c (yU b_0.reasons)]] st) [] [0] yF yD ?_ ?_
 rintro q d ⟨⟩ ⟨sl,ob,n⟩ _ a e t h f
 simp only[go_sem,seval,Zc] at e
 obtain ⟨⟨_,_⟩,u,hn⟩:=e
 subst hn
 have v:=WF.boxL t u (j:=1) rfl
 have:=ZB a
 have:=ZC a
 have:=Zj (ZA a) v
 simp only[*,go_sem,seval]
 refine Zh h (fun i _ st=>IV [(1,.bp 0 0),(3,yL q),(4,yM (.int .i64 d.for_)),(5,yL i)] [.box 91 [.c (.int .i64 b_0.nodes),.c (yU b_0.reasons)]] st) [] [0] yF yD ?_ ?_
 rintro _ _ ⟨⟩ ⟨sl,ob,n⟩ _ b g w h k
 simp only[go_sem,seval,Zc] at g
 obtain ⟨⟨_,_,_,_⟩,x,hn⟩:=g
 subst hn
 have y:=WF.elL (WF.boxD w x (j:=1) rfl) a (j:=2) rfl
 have:=ZB b
 have:=ZC b
 have:=Zj (ZA b) y
 simp only[*,go_sem,seval]
 refine yB h (fun _ h=>?_) fun _ h=>?_
 replace h:=Zo h k
 replace h:=Zo h f
 cases h;exact yD
 refine Za h fun _ z h=>Zb (ZGl z) ?_
 obtain ⟨_,h⟩:=Zs h
 obtain ⟨_,_,h⟩:=ZJ h
 simp only[*,go_sem,seval]
 refine yB h (fun _ h=>?_) fun _ h=>?_
 replace h:=Zo h k
 replace h:=Zo h f
 cases h;exact yD
 exact yC h [] [0]
 rintro ⟨⟩ ⟨sl,ob,n⟩ l _ h
 simp only[go_sem,seval,Zc] at l
 obtain ⟨⟨_,_,_,_⟩,_,hn⟩:=l
 subst hn
 have:=Zz (d.outs.length)
 simp only[*,go_sem,seval]
 exact yC h [] [0]
 rintro ⟨⟩ ⟨sl,ob,n⟩ m _ h
 simp only[go_sem,seval,Zc] at m
 obtain ⟨⟨_,_⟩,_,hn⟩:=m
 subst hn
 have:=Zz (b_0.reasons.length)
 iterate 2 (cases h;exact yD)
end
section
theorem ZlI {l_0:(List Zd)} {r:Bool} (h:Zdd l_0=some r):Zl prog J0 112 [(false,[.sl 71 2 (A0 Zq l_0)])] [(false,[(false,.bool r)])]:=by
 refine fnk func112 rfl ?_
 unfold Zdd at h
 simp only[fnS,f112,Zm,go_sem,seval]
 refine Zh h (fun i _ st=>IV [(0,yM (yO l_0)),(3,yL i)] [] st) [] [] yF yD ?_ ?_
 rintro _ _ ⟨⟩ ⟨sl,ob,n⟩ _ a b f h d
 simp only[go_sem,seval,Zc] at b
 obtain ⟨⟨g,_⟩,hn⟩:=b
 subst hn
 have k:=WF.slotL f g (j:=0) rfl
 have:=ZB a
 have:=ZC a
 have:=Zj (ZA a) k
 simp only[*,go_sem,seval]
 refine Za h fun _ l h=>Zb (Zjg l)<|yA ?_
 iterate 2 refine yB h (fun _ h=>?_) fun _ h=>?_
 obtain ⟨_,_,_,_,h⟩:=Zci h
 simp only[*,go_sem,seval]
 refine Za h fun _ m h=>Zb (Za3 m)<|yA ?_
 refine yB h (fun _ h=>?_) fun _ h=>?_
 replace h:=Zo h d
 cases h;exact yD
 exact yC h [] []
 exact yC h [] []
 replace h:=Zo h d
 cases h;exact yD
 rintro ⟨⟩ ⟨sl,ob,n⟩ e _ h
 simp only[go_sem,seval,Zc] at e
 obtain ⟨⟨_,_⟩,hn⟩:=e
 subst hn
 have:=Zz (l_0.length)
 cases h;exact yD
theorem ZoM {b_0:(List Zp)} {v_1:ByteArray} {value_2:ByteArray} {r:((List Zp) × Bool)} (h:Zfm b_0 v_1 value_2=some r):Zl prog J0 226 [(false,[.sl 135 2 (A0 ZZ b_0)]),(false,[.str v_1]),(false,[.str value_2])] [(false,[(false,.sl 135 2 (A0 ZZ r.1))]),(false,[(false,.bool r.2)])]:=by
 refine fnk func226 rfl ?_
 unfold Zfm at h
 simp only[fnS,f226,Zm,go_sem,seval]
 refine Za h fun v1 a h=>Zb (Qy a)<|yA ?_
 refine yB h (fun _ h=>?_) fun _ h=>?_
 refine Za h fun _ b h=>Zb (Qq b)<|yA ?_
 refine yB h (fun _ h=>?_) fun _ h=>?_
 refine Za h fun _ c h=>Zb (XR c)<|yA ?_
 refine yB h (fun _ h=>?_) fun _ h=>?_
 refine Za h fun _ d h=>Zb (Zcl d)<|yA ?_
 iterate 2 refine yB h (fun _ h=>?_) fun _ h=>?_
 refine Za h fun _ e h=>Zb (Zf8 e) ?_
 iterate 2 (cases h;exact yD)
 refine yB h (fun _ h=>?_) fun _ h=>?_
 cases h;exact yD
 refine Za h fun _ f h=>Zb (Zqy f) ?_
 iterate 4 (cases h;exact yD)
theorem ZGr {b:Zu} {r:(List Int)} (h:ZEq b=some r):Zl prog J0 266 [(true,Qw b)] [(false,[(false,.sl 3 1 (A0 Z5 r))])]:=by
 refine fnk func266 rfl ?_
 unfold ZEq at h
 simp only[fnS,f266,Zm,go_sem,seval]
 refine Za h fun v1 B h=>Zb (ZEt B)<|yA ?_
 refine yB h (fun _ h=>?_) fun _ h=>?_
 obtain ⟨_,h⟩:=Zs h
 simp only[*,go_sem,seval]
 refine XH h (fun s st=>match s with | (q,e)=>IV [(1,.bp 0 0),(3,.p false [.row 1]),(4,yM (.int .i64 e))] [.box 91 [.c (.int .i64 b.nodes),.c (yU b.reasons)],.row 3 1 (A0 Z5 q) 2] st) [] [0,112] yF yD ?_
 rintro ⟨q,e⟩ ⟨sl,ob,n⟩ _ t _ h C
 simp only[go_sem,seval,Zc] at t
 obtain ⟨⟨_,_,_⟩,_,_,hn⟩:=t
 subst hn
 simp only[*,go_sem,seval]
 refine yB h (fun _ h=>?_) fun _ h=>?_
 refine Zh h (fun i f st=>IV [(1,.bp 0 0),(3,.p false [.row 1]),(4,yM (.int .i64 e)),(5,yL i)] [.box 91 [.c (.int .i64 b.nodes),.c (yU b.reasons)],.row 3 1 (A0 Z5 f) 2] st) [] [0,1] yF yD ?_ ?_
 rintro u d f ⟨sl,ob,n⟩ _ g v D h _
 simp only[go_sem,seval,Zc] at v
 obtain ⟨⟨_,_,_,_⟩,E,_,hn⟩:=v
 subst hn
 have F:=WF.boxL D E (j:=1) rfl
 have:=ZB g
 have:=ZC g
 have:=Zj (ZA g) F
 simp only[*,go_sem,seval]
 refine Zh h (fun i k st=>IV [(1,.bp 0 0),(3,.p false [.row 1]),(4,yM (.int .i64 e)),(5,yL u),(6,.bp 2 0),(7,yL i)] [.box 91 [.c (.int .i64 b.nodes),.c (yU b.reasons)],.row 3 1 (A0 Z5 k) 2,yY 144 (ZL d)] st) [] [0,1,162] yF yD ?_ ?_
 rintro _ _ k ⟨sl,ob,n⟩ _ l w G h _
 simp only[go_sem,seval,Zc] at w
 obtain ⟨⟨_,_,_,_,_,_⟩,_,_,H,hn⟩:=w
 subst hn
 have I:=WF.boxL G H (j:=1) rfl
 have:=ZB l
 have:=ZC l
 have:=Zj (ZA l) I
 obtain ⟨_,h⟩:=Zs h
 obtain ⟨_,_,h⟩:=ZJ h
 obtain ⟨_,h⟩:=Zs h
 obtain ⟨_,_,h⟩:=ZJ h
 simp only[*,go_sem,seval]
 exact yC h [] [0,1,2]
 rintro k ⟨sl,ob,n⟩ x _ h
 simp only[go_sem,seval,Zc] at x
 obtain ⟨⟨_,_,_,_,_,_⟩,_,_,_,hn⟩:=x
 subst hn
 have:=Zz (d.inn.length)
 simp only[*,go_sem,seval]
 refine Zh h (fun i m st=>IV [(1,.bp 0 0),(3,.p false [.row 1]),(4,yM (.int .i64 e)),(5,yL u),(6,.bp 2 0),(8,yL i)] [.box 91 [.c (.int .i64 b.nodes),.c (yU b.reasons)],.row 3 1 (A0 Z5 m) 2,yY 144 (ZL d)] st) [] [0,1,2] yF yD ?_ ?_
 rintro _ _ m ⟨sl,ob,n⟩ _ o y J h _
 simp only[go_sem,seval,Zc] at y
 obtain ⟨⟨_,_,_,_,_,_⟩,_,_,K,hn⟩:=y
 subst hn
 have L:=WF.boxL J K (j:=2) rfl
 have:=ZB o
 have:=ZC o
 have:=Zj (ZA o) L
 obtain ⟨_,h⟩:=Zs h
 obtain ⟨_,_,h⟩:=ZJ h
 obtain ⟨_,h⟩:=Zs h
 obtain ⟨_,_,h⟩:=ZJ h
 simp only[*,go_sem,seval]
 exact yC h [] [0,1,2]
 rintro m ⟨sl,ob,n⟩ z _ h
 simp only[go_sem,seval,Zc] at z
 obtain ⟨⟨_,_,_,_,_,_⟩,_,_,_,hn⟩:=z
 subst hn
 have:=Zz (d.outs.length)
 simp only[*,go_sem,seval]
 exact yC h [] [0,1]
 rintro f ⟨sl,ob,n⟩ A _ h
 simp only[go_sem,seval,Zc] at A
 obtain ⟨⟨_,_,_,_⟩,_,_,hn⟩:=A
 subst hn
 have:=Zz (b.reasons.length)
 simp only[*,go_sem,seval]
 exact yC h [] [0,1]
 replace h:=Zo h C
 iterate 2 (cases h;exact yD)
end
section
theorem Zcx {p_0:Zv} {b_1:(List Zp)} {facts_2:(List Zd)} {r:(List Zd)} (h:Xc p_0 b_1 facts_2=some r):Zl prog J0 94 [(true,Qz p_0),(false,[.sl 135 2 (A0 ZZ b_1)]),(false,[.sl 71 2 (A0 Zq facts_2)])] [(false,[(false,.sl 71 2 (A0 Zq r))])]:=by
 refine fnk func94 rfl ?_
 unfold Xc at h
 simp only[fnS,f94,Zm,go_sem,seval]
 refine Zh h (fun i a st=>IV [(1,yM (yT b_1)),(3,.bp 0 0),(7,.p false [.row 1]),(12,yM (yO facts_2)),(13,yL facts_2.length),(14,yL i)] [.box 58 [.c (.str p_0.rel),.c (yP p_0.args)],.row 71 2 (A0 Zq a) 2] st) [(false,7,0)] [0,96] yF yD ?_ ?_
 rintro _ _ a ⟨sl,ob,n⟩ _ b d f h _
 simp only[go_sem,seval,Zc] at d
 obtain ⟨⟨_,_,_,g,_,_⟩,_,_,hn⟩:=d
 subst hn
 have k:=WF.slotL f g (j:=0) rfl
 have:=ZB b
 have:=ZC b
 have:=Zj (ZA b) k
 simp only[*,go_sem,seval]
 refine Za h fun _ l h=>Zb (Zfk l)<|yA ?_
 refine yB h (fun _ h=>?_) fun _ h=>?_
 refine Za h fun _ m h=>Zb (YC m) ?_
 obtain ⟨o,h⟩:=Zs h
 try simp only[Nat.reduceLeDiff] at o
 simp only[*,go_sem,seval]
 exact yC h [] [0,306]
 exact yC h [] [0,1]
 rintro a ⟨sl,ob,n⟩ e _ h
 simp only[go_sem,seval,Zc] at e
 obtain ⟨⟨_,_,_,_,_,_⟩,_,_,hn⟩:=e
 subst hn
 have:=Zz (facts_2.length)
 cases h;exact yD
theorem Zod {x_0:Zr} {r:Bool} (h:Zhs x_0=some r):Zl prog J0 258 [(true,ZK x_0)] [(false,[(false,.bool r)])]:=by
 refine fnk func258 rfl ?_
 unfold Zhs at h
 simp only[fnS,f258,Zm,go_sem,seval]
 refine Za h fun v1 a h=>Zb (Zfj a)<|yA ?_
 refine yB h (fun _ h=>?_) fun _ h=>?_
 iterate 2 (cases h;exact yD)
theorem ZgJ {r_0:Zf} {k_1:Int} {r:Bool} (h:Zbs r_0 k_1=some r):Zl prog J0 202 [(true,ZG r_0),(false,[.int .i64 k_1])] [(false,[(false,.bool r)])]:=by
 refine fnk func202 rfl ?_
 unfold Zbs at h
 simp only[fnS,f202,Zm,go_sem,seval]
 obtain ⟨a,_,_,_,h⟩:=Zci h
 simp only[*,go_sem,seval]
 refine Za h fun j k h=>Zb (ZcQ k)<|yA ?_
 refine Za h fun b l h=>Zb (ZbA l)<|yA ?_
 refine Zh h (fun i _ st=>IV [(1,yM (.int .i64 k_1)),(2,.bp 0 0),(5,.bp 1 0),(6,.p false [.row 2]),(18,.p false [.row 3]),(19,yL b.length),(20,yL i)] [yY 104 (ZG r_0),yY 60 (ZK a),.row 9 1 (A0 Zw j) 2,.row 9 1 (A0 Zw b) 2] st) [] [0,112,176,224] yF yD ?_ ?_
 rintro _ _ ⟨⟩ ⟨sl,ob,n⟩ _ d e m h f
 simp only[go_sem,seval,Zc] at e
 obtain ⟨⟨_,_,_,_,_,_,_⟩,_,_,_,o,hn⟩:=e
 subst hn
 have q:=WF.rowL m o
 have:=ZB d
 have:=ZC d
 have:=Zj (ZA d) q
 simp only[*,go_sem,seval]
 refine yB h (fun _ h=>?_) fun _ h=>?_
 exact yC h [] [0,1,2,3]
 refine Za h fun _ t h=>Zb (QT t)<|yA ?_
 refine yB h (fun _ h=>?_) fun _ h=>?_
 exact yC h [] [0,1,2,3]
 refine yB h (fun _ h=>?_) fun _ h=>?_
 replace h:=Zo h f
 cases h;exact yD
 refine Za h fun _ u h=>Zb (Zfo u)<|yA ?_
 refine yB h (fun _ h=>?_) fun _ h=>?_
 replace h:=Zo h f
 cases h;exact yD
 exact yC h [] [0,1,2,3]
 rintro ⟨⟩ ⟨sl,ob,n⟩ g _ h
 simp only[go_sem,seval,Zc] at g
 obtain ⟨⟨_,_,_,_,_,_,_⟩,_,_,_,_,hn⟩:=g
 subst hn
 have:=Zz (b.length)
 cases h;exact yD
theorem Zdw {x_0:Zr} {r:Bool} (h:Zb1 x_0=some r):Zl prog J0 88 [(true,ZK x_0)] [(false,[(false,.bool r)])]:=by
 refine fnk func88 rfl ?_
 unfold Zb1 at h
 have a:Z2 ⟨#[]⟩=true:=by decide
 simp only[fnS,f88,Zm,go_sem,seval,a]
 refine yB h (fun _ h=>?_) fun _ h=>?_
 refine Za h fun v1 b h=>Zb (Y3 b)<|yA ?_
 iterate 2 refine yB h (fun _ h=>?_) fun _ h=>?_
 iterate 3 (cases h;exact yD)
 refine yB h (fun _ h=>?_) fun _ h=>?_
 refine Za h fun _ c h=>Zb (Y3 c)<|yA ?_
 iterate 2 refine yB h (fun _ h=>?_) fun _ h=>?_
 iterate 3 (cases h;exact yD)
 iterate 3 refine yB h (fun _ h=>?_) fun _ h=>?_
 refine Za h fun _ d h=>Zb (Qp d)<|yA ?_
 refine yB h (fun _ h=>?_) fun _ h=>?_
 refine Za h fun _ e h=>Zb (Qp e) ?_
 iterate 4 (cases h;exact yD)
 iterate 3 refine yB h (fun _ h=>?_) fun _ h=>?_
 refine Za h fun _ f h=>Zb (Qp f)<|yA ?_
 refine yB h (fun _ h=>?_) fun _ h=>?_
 refine Za h fun _ g h=>Zb (Qp g) ?_
 iterate 4 (cases h;exact yD)
 iterate 3 refine yB h (fun _ h=>?_) fun _ h=>?_
 refine Za h fun _ i h=>Zb (Qp i)<|yA ?_
 refine yB h (fun _ h=>?_) fun _ h=>?_
 refine Za h fun _ j h=>Zb (Qp j) ?_
 iterate 5 (cases h;exact yD)
theorem Zem {r_0:Zf} {i_1:Int} {v_2:ByteArray} {r:Bool} (h:Xu r_0 i_1 v_2=some r):Zl prog J0 153 [(true,ZG r_0),(false,[.int .i64 i_1]),(false,[.str v_2])] [(false,[(false,.bool r)])]:=by
 refine fnk func153 rfl ?_
 unfold Xu at h
 simp only[fnS,f153,Zm,go_sem,seval]
 refine Zh h (fun i _ st=>IV [(1,yM (.int .i64 i_1)),(2,yM (.str v_2)),(3,.bp 0 0),(7,yL i)] [yY 104 (ZG r_0)] st) [] [0] yF yD ?_ ?_
 rintro _ _ ⟨⟩ ⟨sl,ob,n⟩ _ a d k h l
 simp only[go_sem,seval,Zc] at d
 obtain ⟨⟨_,_,_,_⟩,m,hn⟩:=d
 subst hn
 have o:=WF.boxL k m (j:=2) rfl
 have:=ZB a
 have:=ZC a
 have:=Zj (ZA a) o
 simp only[*,go_sem,seval]
 refine yB h (fun _ h=>?_) fun _ h=>?_
 refine Za h fun _ q h=>Zb (Q7 q)<|yA ?_
 refine Za h fun _ t h=>Zb (Ym t)<|yA ?_
 refine yB h (fun _ h=>?_) fun _ h=>?_
 replace h:=Zo h l
 cases h;exact yD
 exact yC h [] [0]
 exact yC h [] [0]
 rintro ⟨⟩ ⟨sl,ob,n⟩ e _ h
 simp only[go_sem,seval,Zc] at e
 obtain ⟨⟨_,_,_,_⟩,_,hn⟩:=e
 subst hn
 have:=Zz (r_0.cond.length)
 simp only[*,go_sem,seval]
 refine Zh h (fun i _ st=>IV [(2,yM (.str v_2)),(3,.bp 0 0),(8,yL i)] [yY 104 (ZG r_0)] st) [] [0] yF yD ?_ ?_
 rintro _ _ ⟨⟩ ⟨sl,ob,n⟩ _ b f u h v
 simp only[go_sem,seval,Zc] at f
 obtain ⟨⟨_,_,_⟩,w,hn⟩:=f
 subst hn
 have x:=WF.boxL u w (j:=3) rfl
 have:=ZB b
 have:=ZC b
 have:=Zj (ZA b) x
 simp only[*,go_sem,seval]
 refine Za h fun _ y h=>Zb (ZbQ y)<|yA ?_
 refine Za h fun _ z h=>Zb (Ym z)<|yA ?_
 refine yB h (fun _ h=>?_) fun _ h=>?_
 replace h:=Zo h v
 cases h;exact yD
 exact yC h [] [0]
 rintro ⟨⟩ ⟨sl,ob,n⟩ g _ h
 simp only[go_sem,seval,Zc] at g
 obtain ⟨⟨_,_,_⟩,_,hn⟩:=g
 subst hn
 have:=Zz (r_0.thn.length)
 cases h;exact yD
theorem ZlF {a_0:Zx} {r:Bool} (h:ZcM a_0=some r):Zl prog J0 154 [(true,ZD a_0)] [(false,[(false,.bool r)])]:=by
 refine fnk func154 rfl ?_
 unfold ZcM at h
 have a:Z2 ⟨#[]⟩=true:=by decide
 simp only[fnS,f154,Zm,go_sem,seval,a]
 refine yB h (fun _ h=>?_) fun _ h=>?_
 refine Za h fun v1 b h=>Zb (Y3 b) ?_
 cases h;exact yD
 refine yB h (fun _ h=>?_) fun _ h=>?_
 refine Za h fun _ c h=>Zb (Y3 c) ?_
 cases h;exact yD
 iterate 2 refine yB h (fun _ h=>?_) fun _ h=>?_
 iterate 3 (cases h;exact yD)
theorem Zl1 {r_0:Zf} {r:(List ByteArray)} (h:ZcH r_0=some r):Zl prog J0 156 [(true,ZG r_0)] [(false,[(false,.sl 9 1 (A0 Zw r))])]:=by
 refine fnk func156 rfl ?_
 unfold ZcH at h
 simp only[fnS,f156,Zm,go_sem,seval]
 refine Zh h (fun i a st=>IV [(1,.bp 0 0),(3,.p false [.row 1]),(4,yL i)] [yY 104 (ZG r_0),.row 9 1 (A0 Zw a) 2] st) [] [0,32] yF yD ?_ ?_
 rintro A _ a ⟨sl,ob,n⟩ _ b m B h _
 simp only[go_sem,seval,Zc] at m
 obtain ⟨⟨_,_,_⟩,C,_,hn⟩:=m
 subst hn
 have D:=WF.boxL B C (j:=2) rfl
 have:=ZB b
 have:=ZC b
 have:=Zj (ZA b) D
 simp only[*,go_sem,seval]
 refine Za h fun o E h=>Zb (Q7 E)<|yA ?_
 refine Zh h (fun i d st=>IV [(1,.bp 0 0),(3,.p false [.row 1]),(4,yL A),(5,.p false [.row 2]),(6,yL i)] [yY 104 (ZG r_0),.row 9 1 (A0 Zw d) 2,.row 9 1 (A0 Zw o) 2] st) [] [0,1,162] yF yD ?_ ?_
 rintro _ _ d ⟨sl,ob,n⟩ _ e q F h _
 simp only[go_sem,seval,Zc] at q
 obtain ⟨⟨_,_,_,_,_⟩,_,_,G,hn⟩:=q
 subst hn
 have H:=WF.rowL F G
 have:=ZB e
 have:=ZC e
 have:=Zj (ZA e) H
 simp only[*,go_sem,seval]
 refine Za h fun _ I h=>Zb (Y1 I)<|yA ?_
 exact yC h [] [0,147,2]
 rintro d ⟨sl,ob,n⟩ t _ h
 simp only[go_sem,seval,Zc] at t
 obtain ⟨⟨_,_,_,_,_⟩,_,_,_,hn⟩:=t
 subst hn
 have:=Zz (o.length)
 simp only[*,go_sem,seval]
 exact yC h [] [0,1]
 rintro a ⟨sl,ob,n⟩ u _ h
 simp only[go_sem,seval,Zc] at u
 obtain ⟨⟨_,_,_⟩,_,_,hn⟩:=u
 subst hn
 have:=Zz (r_0.cond.length)
 simp only[*,go_sem,seval]
 refine Zh h (fun i f st=>IV [(1,.bp 0 0),(3,.p false [.row 1]),(7,yL i)] [yY 104 (ZG r_0),.row 9 1 (A0 Zw f) 2] st) [] [0,1] yF yD ?_ ?_
 rintro J _ f ⟨sl,ob,n⟩ _ g v K h _
 simp only[go_sem,seval,Zc] at v
 obtain ⟨⟨_,_,_⟩,L,_,hn⟩:=v
 subst hn
 have M:=WF.boxL K L (j:=3) rfl
 have:=ZB g
 have:=ZC g
 have:=Zj (ZA g) M
 simp only[*,go_sem,seval]
 refine Za h fun w N h=>Zb (ZbQ N)<|yA ?_
 refine Zh h (fun i k st=>IV [(1,.bp 0 0),(3,.p false [.row 1]),(7,yL J),(8,.p false [.row 2]),(9,yL i)] [yY 104 (ZG r_0),.row 9 1 (A0 Zw k) 2,.row 9 1 (A0 Zw w) 2] st) [] [0,1,178] yF yD ?_ ?_
 rintro _ _ k ⟨sl,ob,n⟩ _ l x O h _
 simp only[go_sem,seval,Zc] at x
 obtain ⟨⟨_,_,_,_,_⟩,_,_,P,hn⟩:=x
 subst hn
 have Q:=WF.rowL O P
 have:=ZB l
 have:=ZC l
 have:=Zj (ZA l) Q
 simp only[*,go_sem,seval]
 refine Za h fun _ R h=>Zb (Y1 R)<|yA ?_
 exact yC h [] [0,147,2]
 rintro k ⟨sl,ob,n⟩ y _ h
 simp only[go_sem,seval,Zc] at y
 obtain ⟨⟨_,_,_,_,_⟩,_,_,_,hn⟩:=y
 subst hn
 have:=Zz (w.length)
 simp only[*,go_sem,seval]
 exact yC h [] [0,1]
 rintro f ⟨sl,ob,n⟩ z _ h
 simp only[go_sem,seval,Zc] at z
 obtain ⟨⟨_,_,_⟩,_,_,hn⟩:=z
 subst hn
 have:=Zz (r_0.thn.length)
 cases h;exact yD
theorem ZfU {append_0:Zv} {String_1:Zd} {a_2:(List Zp)} {r:((List Zp) × Bool)} (h:Zau append_0 String_1 a_2=some r):Zl prog J0 161 [(true,Qz append_0),(true,Zq String_1),(false,[.sl 135 2 (A0 ZZ a_2)])] [(false,[(false,.sl 135 2 (A0 ZZ r.1))]),(false,[(false,.bool r.2)])]:=by
 refine fnk func161 rfl ?_
 unfold Zau at h
 simp only[fnS,f161,Zm,go_sem,seval]
 refine Za h fun v1 g h=>Zb (Y3 g)<|yA ?_
 refine yB h (fun _ h=>?_) fun _ h=>?_
 refine Za h fun _ k h=>Zb (Zjg k)<|yA ?_
 refine yB h (fun _ h=>?_) fun _ h=>?_
 refine Za h fun _ l h=>Zb (Qy l)<|yA ?_
 iterate 3 refine yB h (fun _ h=>?_) fun _ h=>?_
 cases h;exact yD
 refine Za h fun _ m h=>Zb (Zf8 m)<|yA ?_
 refine Zh h (fun i a st=>IV [(3,.bp 0 0),(4,.bp 1 0),(8,.p false [.row 2]),(9,yL i)] [.box 58 [.c (.str append_0.rel),.c (yP append_0.args)],yY 71 (Zq String_1),.row 135 2 (A0 ZZ a) 2] st) [] [0,16,544] yF yD ?_ ?_
 rintro _ _ a ⟨sl,ob,n⟩ _ b d o h e
 simp only[go_sem,seval,Zc] at d
 obtain ⟨⟨_,_,_,_⟩,q,_,_,hn⟩:=d
 subst hn
 have t:=WF.boxL o q (j:=1) rfl
 have:=ZB b
 have:=ZC b
 have:=Zj (ZA b) t
 simp only[*,go_sem,seval]
 refine Za h fun _ u h=>Zb (XR u)<|yA ?_
 refine yB h (fun _ h=>?_) fun _ h=>?_
 obtain ⟨_,_,_,v,h⟩:=Zci h
 simp only[A6] at v
 simp only[*,go_sem,seval]
 refine yB h (fun _ h=>?_) fun _ h=>?_
 exact yC h [] [0,1,2]
 replace h:=Zo h e
 cases h;exact yD
 obtain ⟨_,_,_,w,h⟩:=Zci h
 simp only[A6] at w
 simp only[*,go_sem,seval]
 refine Za h fun _ x h=>Zb (ZoM x)<|yA ?_
 refine yB h (fun _ h=>?_) fun _ h=>?_
 exact yC h [] [0,1,355]
 replace h:=Zo h e
 cases h;exact yD
 rintro a ⟨sl,ob,n⟩ f _ h
 simp only[go_sem,seval,Zc] at f
 obtain ⟨⟨_,_,_,_⟩,_,_,_,hn⟩:=f
 subst hn
 have:=Zz (append_0.args.length)
 iterate 5 (cases h;exact yD)
end
section
theorem ZdM {p_0:Zv} {b_1:(List Zp)} {r:(Zd × Bool)} (h:Y2 p_0 b_1=some r):Zl prog J0 116 [(true,Qz p_0),(false,[.sl 135 2 (A0 ZZ b_1)])] [(true,[(false,.str r.1.rel),(false,.sl 9 1 (A0 Zw r.1.args))]),(false,[(false,.bool r.2)])]:=by
 refine fnk func116 rfl ?_
 unfold Y2 at h
 simp only[fnS,f116,Zm,go_sem,seval]
 refine Za h fun v1 f h=>Zb (Y3 f)<|yA ?_
 refine yB h (fun _ h=>?_) fun _ h=>?_
 refine Za h fun _ g h=>Zb (Qy g)<|yA ?_
 refine yB h (fun _ h=>?_) fun _ h=>?_
 refine Zh h (fun i a st=>IV [(1,yM (yT b_1)),(2,.bp 0 0),(4,.bp 1 0),(6,.bp 2 0),(7,yL i)] [.box 58 [.c (.str p_0.rel),.c (yP p_0.args)],.box 71 [.c (.str ⟨#[]⟩),.nil 9 1],.box 71 [.c (.str p_0.rel),.row 3],.row 9 1 (A0 Zw a) 2] st) [(true,224,1)] [0,16,224,272] yF yD ?_ ?_
 rintro _ _ a ⟨sl,ob,n⟩ _ b d k h l
 simp only[go_sem,seval,Zc] at d
 obtain ⟨⟨_,_,_,_,_⟩,m,_,_,_,hn⟩:=d
 subst hn
 have o:=WF.boxL k m (j:=1) rfl
 have:=ZB b
 have:=ZC b
 have:=Zj (ZA b) o
 simp only[*,go_sem,seval]
 refine Za h fun _ q h=>Zb (Zcl q)<|yA ?_
 refine yB h (fun _ h=>?_) fun _ h=>?_
 obtain ⟨t,h⟩:=Zs h
 try simp only[Nat.reduceLeDiff] at t
 simp only[*,go_sem,seval]
 exact yC h [] [0,1,2,372]
 replace h:=Zo h l
 cases h;exact yD
 rintro a ⟨sl,ob,n⟩ e _ h
 simp only[go_sem,seval,Zc] at e
 obtain ⟨⟨_,_,_,_,_⟩,_,_,_,_,hn⟩:=e
 subst hn
 have:=Zz (p_0.args.length)
 iterate 3 (cases h;exact yD)
theorem ZGg {b:Zu} {r:(List Int)} (h:ZD6 b=some r):Zl prog J0 224 [(true,Qw b)] [(false,[(false,.sl 3 1 (A0 Z5 r))])]:=by
 refine fnk func224 rfl ?_
 unfold ZD6 at h
 simp only[fnS,f224,Zm,go_sem,seval]
 refine Za h fun v1 z h=>Zb (ZEt z)<|yA ?_
 refine yB h (fun _ h=>?_) fun _ h=>?_
 refine Za h fun d A h=>Zb (ZGr A)<|yA ?_
 refine XH h (fun s st=>match s with | (l,m)=>IV [(1,.bp 0 0),(3,.p false [.row 1]),(4,.p false [.row 2]),(5,yM (.int .i64 m))] [.box 91 [.c (.int .i64 b.nodes),.c (yU b.reasons)],.row 3 1 (A0 Z5 d) 2,.row 3 1 (A0 Z5 l) 2] st) [] [0,96,128] yF yD ?_
 rintro ⟨l,m⟩ ⟨sl,ob,n⟩ _ o _ h B
 simp only[go_sem,seval,Zc] at o
 obtain ⟨⟨_,_,_,_⟩,_,_,_,hn⟩:=o
 subst hn
 simp only[*,go_sem,seval]
 refine yB h (fun _ h=>?_) fun _ h=>?_
 obtain ⟨C,h⟩:=Zs h
 try simp only[Nat.reduceLeDiff] at C
 simp only[*,go_sem,seval]
 exact yC h [] [0,1,99]
 refine XH h (fun s st=>match s with | (q,t,e)=>IV [(1,.bp 0 0),(3,.p false [.row 1]),(4,.p false [.row 2]),(6,yM (.int .i64 t)),(7,yM (.int .i64 e))] [.box 91 [.c (.int .i64 b.nodes),.c (yU b.reasons)],.row 3 1 (A0 Z5 d) 2,.row 3 1 (A0 Z5 q) 2] st) [] [0,1,2] yF yD ?_
 rintro ⟨q,t,e⟩ ⟨sl,ob,n⟩ _ u _ h D
 simp only[go_sem,seval,Zc] at u
 obtain ⟨⟨_,_,_,_,_⟩,_,_,_,hn⟩:=u
 subst hn
 simp only[*,go_sem,seval]
 refine yB h (fun _ h=>?_) fun _ h=>?_
 refine Za h fun _ E h=>Zb (ZE2 E)<|yA ?_
 refine XH h (fun s st=>match s with | (v,f,g)=>IV [(1,.bp 0 0),(3,.p false [.row 1]),(4,.p false [.row 2]),(6,yM (.int .i64 g)),(7,yM (.int .i64 e)),(8,.p false [.row 3])] [.box 91 [.c (.int .i64 b.nodes),.c (yU b.reasons)],.row 3 1 (A0 Z5 d) 2,.row 3 1 (A0 Z5 v) 2,.row 3 1 (A0 Z5 f) 2] st) [] [0,1,2,147] yF yD ?_
 rintro ⟨v,f,g⟩ ⟨sl,ob,n⟩ _ w _ h F
 simp only[go_sem,seval,Zc] at w
 obtain ⟨⟨_,_,_,_,_,_⟩,_,_,_,_,hn⟩:=w
 subst hn
 simp only[*,go_sem,seval]
 refine yB h (fun _ h=>?_) fun _ h=>?_
 refine Zh h (fun i j st=>IV [(1,.bp 0 0),(3,.p false [.row 1]),(4,.p false [.row 2]),(6,yM (.int .i64 g)),(7,yM (.int .i64 e)),(8,.p false [.row 3]),(9,yL i)] [.box 91 [.c (.int .i64 b.nodes),.c (yU b.reasons)],.row 3 1 (A0 Z5 d) 2,.row 3 1 (A0 Z5 j) 2,.row 3 1 (A0 Z5 f) 2] st) [] [0,1,2,3] yF yD ?_ ?_
 rintro _ _ j ⟨sl,ob,n⟩ _ k x G h _
 simp only[go_sem,seval,Zc] at x
 obtain ⟨⟨_,_,_,_,_,_,_⟩,_,_,_,H,hn⟩:=x
 subst hn
 have I:=WF.rowL G H
 have:=ZB k
 have:=ZC k
 have:=Zj (ZA k) I
 obtain ⟨_,h⟩:=Zs h
 obtain ⟨_,_,h⟩:=ZJ h
 simp only[*,go_sem,seval]
 exact yC h [] [0,1,2,3]
 rintro j ⟨sl,ob,n⟩ y _ h
 simp only[go_sem,seval,Zc] at y
 obtain ⟨⟨_,_,_,_,_,_,_⟩,_,_,_,_,hn⟩:=y
 subst hn
 have:=Zz (f.length)
 simp only[*,go_sem,seval]
 refine Za h fun _ J h=>Zb (ZE2 J)<|yA ?_
 exact yC h [] [0,1,2,196]
 replace h:=Zo h F
 exact yC h [] [0,1,2]
 replace h:=Zo h D
 replace h:=Zo h B
 iterate 2 (cases h;exact yD)
end
section
theorem ZjX {append_0:Zr} {String_1:(List Zp)} {r:Bool} (h:ZbM append_0 String_1=some r):Zl prog J0 210 [(true,ZK append_0),(false,[.sl 135 2 (A0 ZZ String_1)])] [(false,[(false,.bool r)])]:=by
 refine fnk func210 rfl ?_
 unfold ZbM at h
 simp only[fnS,f210,Zm,go_sem,seval]
 refine Za h fun v1 a h=>Zb (Zod a)<|yA ?_
 refine yB h (fun _ h=>?_) fun _ h=>?_
 refine Za h fun _ b h=>Zb (Qk b)<|yA ?_
 refine yB h (fun _ h=>?_) fun _ h=>?_
 refine Za h fun _ c h=>Zb (Zcn c)<|yA ?_
 refine Za h fun _ d h=>Zb (Zcn d)<|yA ?_
 iterate 3 refine yB h (fun _ h=>?_) fun _ h=>?_
 cases h;exact yD
 refine yB h (fun _ h=>?_) fun _ h=>?_
 cases h;exact yD
 refine Za h fun _ e h=>Zb (ZbF e)<|yA ?_
 refine Za h fun _ f h=>Zb (ZbF f)<|yA ?_
 iterate 2 refine yB h (fun _ h=>?_) fun _ h=>?_
 iterate 7 (cases h;exact yD)
theorem Zji {append_0:Zf} {r:Bool} (h:ZdT append_0=some r):Zl prog J0 135 [(true,ZG append_0)] [(false,[(false,.bool r)])]:=by
 refine fnk func135 rfl ?_
 unfold ZdT at h
 simp only[fnS,f135,Zm,go_sem,seval]
 refine Za h fun v1 v h=>Zb (ZfA v)<|yA ?_
 iterate 2 refine yB h (fun _ h=>?_) fun _ h=>?_
 iterate 5 (cases h;simp only[*,go_sem,seval];refine Ze h (fun _ h=>?_) fun _ h=>?_<;>try simp only[*,go_sem,seval])
 cases h;exact yD
 refine Zh h (fun i _ st=>IV [(1,.bp 0 0),(49,yM (yS append_0.cond)),(50,yL append_0.cond.length),(51,yL i)] [yY 104 (ZG append_0)] st) [] [0] yF yD ?_ ?_
 rintro _ _ ⟨⟩ ⟨sl,ob,n⟩ _ a g w h b
 simp only[go_sem,seval,Zc] at g
 obtain ⟨⟨_,x,_,_⟩,_,hn⟩:=g
 subst hn
 have y:=WF.slotL w x (j:=0) rfl
 have:=ZB a
 have:=ZC a
 have:=Zj (ZA a) y
 simp only[*,go_sem,seval]
 refine Za h fun _ z h=>Zb (Zfj z)<|yA ?_
 iterate 3 refine yB h (fun _ h=>?_) fun _ h=>?_
 replace h:=Zo h b
 cases h;exact yD
 refine Za h fun _ A h=>Zb (ZgJ A)<|yA ?_
 refine yB h (fun _ h=>?_) fun _ h=>?_
 exact yC h [] [0]
 replace h:=Zo h b
 cases h;exact yD
 refine Za h fun _ B h=>Zb (ZgJ B)<|yA ?_
 refine yB h (fun _ h=>?_) fun _ h=>?_
 refine ⟨_,[],[0],(A3 h).symm,yF,?_⟩
 iterate 2 (simp only[*,go_sem,seval];replace h:=Zo h b;cases h)
 simp only[*,go_sem,seval]
 rintro ⟨⟩ ⟨sl,ob,n⟩ k _ h
 simp only[go_sem,seval,Zc] at k
 obtain ⟨⟨_,_,_,_⟩,_,hn⟩:=k
 subst hn
 have:=Zz (append_0.cond.length)
 simp only[*,go_sem,seval]
 refine Za h fun l C h=>Zb (ZcQ C)<|yA ?_
 refine Zh h (fun i _ st=>IV [(1,.bp 0 0),(5,.p false [.row 1]),(81,yM (yV append_0.thn)),(82,yL append_0.thn.length),(83,yL i)] [yY 104 (ZG append_0),.row 9 1 (A0 Zw l) 2] st) [] [0,81] yF yD ?_ ?_
 rintro D _ ⟨⟩ ⟨sl,ob,n⟩ _ d m E h o
 simp only[go_sem,seval,Zc] at m
 obtain ⟨⟨_,_,F,_,_⟩,_,_,hn⟩:=m
 subst hn
 have G:=WF.slotL E F (j:=0) rfl
 have:=ZB d
 have:=ZC d
 have:=Zj (ZA d) G
 simp only[*,go_sem,seval]
 refine Za h fun _ H h=>Zb (Zl0 H)<|yA ?_
 refine yB h (fun _ h=>?_) fun _ h=>?_
 refine Za h fun e I h=>Zb (Zc1 I)<|yA ?_
 refine Zh h (fun i _ st=>IV [(1,.bp 0 0),(5,.p false [.row 1]),(81,yM (yV append_0.thn)),(82,yL append_0.thn.length),(83,yL D),(93,.p false [.row 2]),(94,yL e.length),(95,yL i)] [yY 104 (ZG append_0),.row 9 1 (A0 Zw l) 2,.row 9 1 (A0 Zw e) 2] st) [] [0,1,178] yF yD ?_ ?_
 rintro _ _ ⟨⟩ ⟨sl,ob,n⟩ _ f q J h K
 simp only[go_sem,seval,Zc] at q
 obtain ⟨⟨_,_,_,_,_,_,_,_⟩,_,_,L,hn⟩:=q
 subst hn
 have M:=WF.rowL J L
 have:=ZB f
 have:=ZC f
 have:=Zj (ZA f) M
 simp only[*,go_sem,seval]
 refine Za h fun _ N h=>Zb (QT N)<|yA ?_
 refine yB h (fun _ h=>?_) fun _ h=>?_
 exact yC h [] [0,1,2]
 replace h:=Zo h K
 replace h:=Zo h o
 cases h;exact yD
 rintro ⟨⟩ ⟨sl,ob,n⟩ t _ h
 simp only[go_sem,seval,Zc] at t
 obtain ⟨⟨_,_,_,_,_,_,_,_⟩,_,_,_,hn⟩:=t
 subst hn
 have:=Zz (e.length)
 simp only[*,go_sem,seval]
 exact yC h [] [0,1]
 replace h:=Zo h o
 cases h;exact yD
 rintro ⟨⟩ ⟨sl,ob,n⟩ u _ h
 simp only[go_sem,seval,Zc] at u
 obtain ⟨⟨_,_,_,_,_⟩,_,_,hn⟩:=u
 subst hn
 have:=Zz (append_0.thn.length)
 simp only[*,go_sem,seval]
 refine Za h fun _ O h=>Zb (Zjn O)<|yA ?_
 refine Za h fun _ P h=>Zb (XK P) ?_
 iterate 2 (cases h;exact yD)
theorem Zf4 {x_0:Zr} {r:Bool} (h:ZaT x_0=some r):Zl prog J0 152 [(true,ZK x_0)] [(false,[(false,.bool r)])]:=by
 refine fnk func152 rfl ?_
 unfold ZaT at h
 simp only[fnS,f152,Zm,go_sem,seval]
 refine Za h fun v1 a h=>Zb (Zdw a)<|yA ?_
 refine yB h (fun _ h=>?_) fun _ h=>?_
 iterate 2 (cases h;exact yD)
theorem Zdh {p_0:Zv} {b_1:(List Zp)} {facts_2:(List Zd)} {r:(List Zd)} (h:Xf p_0 b_1 facts_2=some r):Zl prog J0 90 [(true,Qz p_0),(false,[.sl 135 2 (A0 ZZ b_1)]),(false,[.sl 71 2 (A0 Zq facts_2)])] [(false,[(false,.sl 71 2 (A0 Zq r))])]:=by
 refine fnk func90 rfl ?_
 unfold Xf at h
 simp only[fnS,f90,Zm,go_sem,seval]
 refine Zh h (fun i a st=>IV [(1,yM (yT b_1)),(2,yM (yO facts_2)),(3,.bp 0 0),(7,.p false [.row 1]),(8,yL i)] [.box 58 [.c (.str p_0.rel),.c (yP p_0.args)],.row 71 2 (A0 Zq a) 2] st) [] [0,32] yF yD ?_ ?_
 rintro _ _ a ⟨sl,ob,n⟩ _ b d f h _
 simp only[go_sem,seval,Zc] at d
 obtain ⟨⟨_,g,_,_,_⟩,_,_,hn⟩:=d
 subst hn
 have k:=WF.slotL f g (j:=0) rfl
 have:=ZB b
 have:=ZC b
 have:=Zj (ZA b) k
 simp only[*,go_sem,seval]
 refine Za h fun _ l h=>Zb (ZfU l)<|yA ?_
 refine yB h (fun _ h=>?_) fun _ h=>?_
 refine Za h fun _ m h=>Zb (Xr m) ?_
 obtain ⟨o,h⟩:=Zs h
 try simp only[Nat.reduceLeDiff] at o
 simp only[*,go_sem,seval]
 exact yC h [] [0,386]
 exact yC h [] [0,1]
 rintro a ⟨sl,ob,n⟩ e _ h
 simp only[go_sem,seval,Zc] at e
 obtain ⟨⟨_,_,_,_,_⟩,_,_,hn⟩:=e
 subst hn
 have:=Zz (facts_2.length)
 cases h;exact yD
theorem ZjL {append_0:Zf} {String_1:Int} {a_2:Zt} {a_3:(List Zd)} {r:Zg} (h:ZaD append_0 String_1 a_2 a_3=some r):Zl prog J0 168 [(true,ZG append_0),(false,[.int .i64 String_1]),(true,YE a_2),(false,[.sl 71 2 (A0 Zq a_3)])] [(true,[(false,.int .i64 r.for_),(false,.sl 3 1 (A0 Z5 r.inn)),(false,.sl 3 1 (A0 Z5 r.outs))])]:=by
 refine fnk func168 rfl ?_
 unfold ZaD at h
 simp only[fnS,f168,Zm,go_sem,seval]
 obtain ⟨_,_,_,_,h⟩:=Zci h
 simp only[*,go_sem,seval]
 refine Za h fun d g h=>Zb (ZdM g)<|yA ?_
 refine Zh h (fun i a st=>IV [(3,yM (yO a_3)),(4,.bp 0 0),(6,.bp 1 0),(8,.bp 2 0),(9,.bp 3 0),(11,.p false [.row 5]),(12,yL i)] [yY 104 (ZG append_0),yY 118 (YE a_2),.box 144 [.c (.int .i64 0),.nil 3 1,.nil 3 1],.box 71 [.c (.str d.1.rel),.row 4],.row 9 1 (A0 Zw d.1.args) 2,.row 71 2 (A0 Zq a) 2] st) [] [0,16,32,240,176,288] yF yD ?_ ?_
 rintro _ _ a ⟨sl,ob,n⟩ _ b e k h _
 simp only[go_sem,seval,Zc] at e
 obtain ⟨⟨_,_,_,_,_,_,_⟩,l,_,_,_,_,_,hn⟩:=e
 subst hn
 have m:=WF.boxL k l (j:=2) rfl
 have:=ZB b
 have:=ZC b
 have:=Zj (ZA b) m
 simp only[*,go_sem,seval]
 refine yB h (fun _ h=>?_) fun _ h=>?_
 refine Za h fun _ o h=>Zb (ZdM o) ?_
 obtain ⟨q,h⟩:=Zs h
 try simp only[Nat.reduceLeDiff] at q
 simp only[*,go_sem,seval]
 exact yC h [] [0,1,2,3,4,486]
 exact yC h [] [0,1,2,3,4,5]
 rintro a ⟨sl,ob,n⟩ f _ h
 simp only[go_sem,seval,Zc] at f
 obtain ⟨⟨_,_,_,_,_,_,_⟩,_,_,_,_,_,_,hn⟩:=f
 subst hn
 have:=Zz (append_0.cond.length)
 simp only[*,go_sem,seval]
 refine Za h fun _ t h=>Zb (ZbJ t)<|yA ?_
 refine Za h fun _ u h=>Zb (ZgA u)<|yA ?_
 refine Za h fun _ v h=>Zb (ZgA v) ?_
 cases h;exact yD
theorem ZF9 {b_0:Zu} {x_1:Int} {r:Int} (h:ZDr b_0 x_1=some r):Zl prog J0 232 [(true,Qw b_0),(false,[.int .i64 x_1])] [(false,[(false,.int .i64 r)])]:=by
 refine fnk func232 rfl ?_
 unfold ZDr at h
 simp only[fnS,f232,Zm,go_sem,seval]
 refine Za h fun v1 e h=>Zb (ZGg e)<|yA ?_
 refine Za h fun _ f h=>Zb (Zat f)<|yA ?_
 refine yB h (fun _ h=>?_) fun _ h=>?_
 obtain ⟨_,h⟩:=Zs h
 obtain ⟨_,_,h⟩:=ZJ h
 simp only[*,go_sem,seval]
 refine yB h (fun _ h=>?_) fun _ h=>?_
 cases h;exact yD
 refine Zh h (fun i _ st=>IV [(1,yM (.int .i64 x_1)),(2,.bp 0 0),(5,.p false [.row 1]),(6,yL i)] [.box 91 [.c (.int .i64 b_0.nodes),.c (yU b_0.reasons)],.row 3 1 (A0 Z5 v1) 2] st) [] [0,48] yF yD ?_ ?_
 rintro _ _ ⟨⟩ ⟨sl,ob,n⟩ _ a b g h k
 simp only[go_sem,seval,Zc] at b
 obtain ⟨⟨_,_,_,_⟩,l,_,hn⟩:=b
 subst hn
 have m:=WF.boxL g l (j:=1) rfl
 have:=ZB a
 have:=ZC a
 have:=Zj (ZA a) m
 simp only[*,go_sem,seval]
 refine yB h (fun _ h=>?_) fun _ h=>?_
 refine Za h fun _ o h=>Zb (ZEO o)<|yA ?_
 refine yB h (fun _ h=>?_) fun _ h=>?_
 refine Za h fun _ q h=>Zb (ZFh q)<|yA ?_
 refine yB h (fun _ h=>?_) fun _ h=>?_
 replace h:=Zo h k
 cases h;exact yD
 exact yC h [] [0,1]
 exact yC h [] [0,1]
 exact yC h [] [0,1]
 rintro ⟨⟩ ⟨sl,ob,n⟩ d _ h
 simp only[go_sem,seval,Zc] at d
 obtain ⟨⟨_,_,_,_⟩,_,_,hn⟩:=d
 subst hn
 have:=Zz (b_0.reasons.length)
 iterate 2 (cases h;exact yD)
end
section
theorem Zlm {x_0:Zr} {b_1:(List Zp)} {facts_2:(List Zd)} {r:Bool} (h:Zb5 x_0 b_1 facts_2=some r):Zl prog J0 137 [(true,ZK x_0),(false,[.sl 135 2 (A0 ZZ b_1)]),(false,[.sl 71 2 (A0 Zq facts_2)])] [(false,[(false,.bool r)])]:=by
 refine fnk func137 rfl ?_
 unfold Zb5 at h
 simp only[fnS,f137,Zm,go_sem,seval]
 refine Za h fun v1 a h=>Zb (Zfj a)<|yA ?_
 refine yB h (fun _ h=>?_) fun _ h=>?_
 refine Za h fun _ b h=>Zb (Qk b)<|yA ?_
 iterate 2 refine yB h (fun _ h=>?_) fun _ h=>?_
 refine Za h fun _ c h=>Zb (Zcx c) ?_
 cases h;exact yD
 refine yB h (fun _ h=>?_) fun _ h=>?_
 refine Za h fun _ d h=>Zb (Zcx d) ?_
 cases h;exact yD
 refine Za h fun _ e h=>Zb (ZjX e) ?_
 iterate 3 (cases h;exact yD)
theorem ZlH {l_0:(List Zf)} {r:Bool} (h:ZcN l_0=some r):Zl prog J0 274 [(false,[.sl 104 4 (A0 ZG l_0)])] [(false,[(false,.bool r)])]:=by
 refine fnk func274 rfl ?_
 unfold ZcN at h
 simp only[fnS,f274,Zm,go_sem,seval]
 refine yB h (fun _ h=>?_) fun _ h=>?_
 cases h;exact yD
 refine Zh h (fun i _ st=>IV [(0,yM (yR l_0)),(8,yM (yR l_0)),(9,yL l_0.length),(10,yL i)] [] st) [] [] yF yD ?_ ?_
 rintro _ _ ⟨⟩ ⟨sl,ob,n⟩ _ a b f h d
 simp only[go_sem,seval,Zc] at b
 obtain ⟨⟨g,_,_,_⟩,hn⟩:=b
 subst hn
 have k:=WF.slotL f g (j:=0) rfl
 have:=ZB a
 have:=ZC a
 have:=Zj (ZA a) k
 simp only[*,go_sem,seval]
 refine Za h fun _ l h=>Zb (Zji l)<|yA ?_
 refine yB h (fun _ h=>?_) fun _ h=>?_
 refine Za h fun _ m h=>Zb (ZlR m)<|yA ?_
 refine yB h (fun _ h=>?_) fun _ h=>?_
 replace h:=Zo h d
 cases h;exact yD
 exact yC h [] []
 replace h:=Zo h d
 cases h;exact yD
 rintro ⟨⟩ ⟨sl,ob,n⟩ e _ h
 simp only[go_sem,seval,Zc] at e
 obtain ⟨⟨_,_,_,_⟩,hn⟩:=e
 subst hn
 have:=Zz (l_0.length)
 cases h;exact yD
theorem ZkE {r_0:Zf} {r:Bool} (h:ZbU r_0=some r):Zl prog J0 275 [(true,ZG r_0)] [(false,[(false,.bool r)])]:=by
 refine fnk func275 rfl ?_
 unfold ZbU at h
 simp only[fnS,f275,Zm,go_sem,seval]
 refine Za h fun v1 l h=>Zb (Zji l)<|yA ?_
 refine yB h (fun _ h=>?_) fun _ h=>?_
 refine Za h fun _ m h=>Zb (ZlZ m)<|yA ?_
 refine yB h (fun _ h=>?_) fun _ h=>?_
 refine Zh h (fun i _ st=>IV [(1,.bp 0 0),(17,yM (yS r_0.cond)),(18,yL r_0.cond.length),(19,yL i)] [yY 104 (ZG r_0)] st) [] [0] yF yD ?_ ?_
 rintro o _ ⟨⟩ ⟨sl,ob,n⟩ _ a e q h t
 simp only[go_sem,seval,Zc] at e
 obtain ⟨⟨_,u,_,_⟩,_,hn⟩:=e
 subst hn
 have v:=WF.slotL q u (j:=0) rfl
 have:=ZB a
 have:=ZC a
 have:=Zj (ZA a) v
 simp only[*,go_sem,seval]
 refine yB h (fun _ h=>?_) fun _ h=>?_
 exact yC h [] [0]
 refine Za h fun w x h=>Zb (ZcQ x)<|yA ?_
 refine Za h fun b y h=>Zb (ZbA y)<|yA ?_
 refine Zh h (fun i _ st=>IV [(1,.bp 0 0),(5,.p false [.row 1]),(17,yM (yS r_0.cond)),(18,yL r_0.cond.length),(19,yL o),(31,.p false [.row 2]),(32,yL b.length),(33,yL i)] [yY 104 (ZG r_0),.row 9 1 (A0 Zw w) 2,.row 9 1 (A0 Zw b) 2] st) [] [0,193,241] yF yD ?_ ?_
 rintro _ _ ⟨⟩ ⟨sl,ob,n⟩ _ d f z h A
 simp only[go_sem,seval,Zc] at f
 obtain ⟨⟨_,_,_,_,_,_,_,_⟩,_,_,B,hn⟩:=f
 subst hn
 have C:=WF.rowL z B
 have:=ZB d
 have:=ZC d
 have:=Zj (ZA d) C
 simp only[*,go_sem,seval]
 refine Za h fun _ D h=>Zb (QT D)<|yA ?_
 refine yB h (fun _ h=>?_) fun _ h=>?_
 exact yC h [] [0,1,2]
 replace h:=Zo h A
 replace h:=Zo h t
 cases h;exact yD
 rintro ⟨⟩ ⟨sl,ob,n⟩ g _ h
 simp only[go_sem,seval,Zc] at g
 obtain ⟨⟨_,_,_,_,_,_,_,_⟩,_,_,_,hn⟩:=g
 subst hn
 have:=Zz (b.length)
 simp only[*,go_sem,seval]
 exact yC h [] [0]
 rintro ⟨⟩ ⟨sl,ob,n⟩ k _ h
 simp only[go_sem,seval,Zc] at k
 obtain ⟨⟨_,_,_,_⟩,_,hn⟩:=k
 subst hn
 have:=Zz (r_0.cond.length)
 iterate 3 (cases h;exact yD)
theorem Zf1 {append_0:Zf} {r:Bool} (h:ZbX append_0=some r):Zl prog J0 87 [(true,ZG append_0)] [(false,[(false,.bool r)])]:=by
 refine fnk func87 rfl ?_
 unfold ZbX at h
 simp only[fnS,f87,Zm,go_sem,seval]
 refine Za h fun v1 H h=>Zb (ZfW H)<|yA ?_
 refine yB h (fun _ h=>?_) fun _ h=>?_
 refine Za h fun _ I h=>Zb (Zat I)<|yA ?_
 refine yB h (fun _ h=>?_) fun _ h=>?_
 refine Za h fun _ J h=>Zb (Zat J)<|yA ?_
 refine yB h (fun _ h=>?_) fun _ h=>?_
 refine Za h fun _ K h=>Zb (Zat K)<|yA ?_
 refine yB h (fun _ h=>?_) fun _ h=>?_
 refine Za h fun e L h=>Zb (ZaS L)<|yA ?_
 refine Zh h (fun i _ st=>IV [(1,.bp 0 0),(3,.p false [.row 1]),(4,yL i)] [yY 104 (ZG append_0),.row 9 1 (A0 Zw e) 2] st) [] [0,480] yF yD ?_ ?_
 rintro b a ⟨⟩ ⟨sl,ob,n⟩ _ f o M h d
 simp only[go_sem,seval,Zc] at o
 obtain ⟨⟨_,_,_⟩,N,_,hn⟩:=o
 subst hn
 have O:=WF.boxL M N (j:=2) rfl
 have:=ZB f
 have:=ZC f
 have:=Zj (ZA f) O
 simp only[*,go_sem,seval]
 refine Za h fun _ P h=>Zb (Zdw P)<|yA ?_
 iterate 3 refine yB h (fun _ h=>?_) fun _ h=>?_
 replace h:=Zo h d
 cases h;exact yD
 refine Za h fun Q R h=>Zb (ZaS R)<|yA ?_
 refine Za h fun q S h=>Zb (Q7 S)<|yA ?_
 refine Zh h (fun i _ st=>IV [(1,.bp 0 0),(3,.p false [.row 1]),(4,yL b),(5,.bp 2 0),(6,.p false [.row 3]),(7,.p false [.row 4]),(8,yL i),(58,yL b),(59,yM (.bool (((b:Nat):Int)==0))),(60,yM (.bool (((b:Nat):Int)==0))),(61,.bp 2 0),(62,yM (.int .i64 a.kind)),(63,yM (.bool (a.kind != 1))),(64,yM (.bool (a.kind != 1)))] [yY 104 (ZG append_0),.row 9 1 (A0 Zw e) 2,yY 60 (ZK a),.row 9 1 (A0 Zw Q) 2,.row 9 1 (A0 Zw q) 2] st) [] [0,1,162,418,466] yF yD ?_ ?_
 rintro _ _ ⟨⟩ ⟨sl,ob,n⟩ _ g t T h u
 simp only[go_sem,seval,Zc] at t
 obtain ⟨⟨_,_,_,_,_,_,_,_,_,_,_,_,_,_⟩,_,_,_,_,U,hn⟩:=t
 subst hn
 have V:=WF.rowL T U
 have:=ZB g
 have:=ZC g
 have:=Zj (ZA g) V
 simp only[*,go_sem,seval]
 refine Za h fun _ W h=>Zb (Ym W)<|yA ?_
 refine Za h fun _ X h=>Zb (Zf4 X)<|yA ?_
 iterate 3 refine yB h (fun _ h=>?_) fun _ h=>?_
 exact yC h [] [0,1,2,3,4]
 exact yC h [] [0,1,2,3,4]
 replace h:=Zo h u
 replace h:=Zo h d
 cases h;exact yD
 iterate 2 refine yB h (fun _ h=>?_) fun _ h=>?_
 exact yC h [] [0,1,2,3,4]
 refine Za h fun _ Y h=>Zb (Zem Y)<|yA ?_
 refine yB h (fun _ h=>?_) fun _ h=>?_
 replace h:=Zo h u
 replace h:=Zo h d
 cases h;exact yD
 exact yC h [] [0,1,2,3,4]
 exact yC h [] [0,1,2,3,4]
 rintro ⟨⟩ ⟨sl,ob,n⟩ v _ h
 simp only[go_sem,seval,Zc] at v
 obtain ⟨⟨_,_,_,_,_,_,_,_,_,_,_,_,_,_⟩,_,_,_,_,_,hn⟩:=v
 subst hn
 have:=Zz (q.length)
 simp only[*,go_sem,seval]
 exact yC h [] [0,1]
 refine Za h fun Z aa h=>Zb (ZaS aa)<|yA ?_
 refine Za h fun w ab h=>Zb (Q7 ab)<|yA ?_
 refine Zh h (fun i _ st=>IV [(1,.bp 0 0),(3,.p false [.row 1]),(4,yL b),(5,.bp 2 0),(6,.p false [.row 3]),(7,.p false [.row 4]),(8,yL i),(58,yL b),(59,yM (.bool (((b:Nat):Int)==0))),(60,yM (.bool (((b:Nat):Int)==0))),(64,yM (.bool false))] [yY 104 (ZG append_0),.row 9 1 (A0 Zw e) 2,yY 60 (ZK a),.row 9 1 (A0 Zw Z) 2,.row 9 1 (A0 Zw w) 2] st) [] [0,1,162,418,466] yF yD ?_ ?_
 rintro _ _ ⟨⟩ ⟨sl,ob,n⟩ _ k x ac h y
 simp only[go_sem,seval,Zc] at x
 obtain ⟨⟨_,_,_,_,_,_,_,_,_,_,_⟩,_,_,_,_,ad,hn⟩:=x
 subst hn
 have ae:=WF.rowL ac ad
 have:=ZB k
 have:=ZC k
 have:=Zj (ZA k) ae
 simp only[*,go_sem,seval]
 refine Za h fun _ af h=>Zb (Ym af)<|yA ?_
 refine Za h fun _ ag h=>Zb (Zf4 ag)<|yA ?_
 iterate 3 refine yB h (fun _ h=>?_) fun _ h=>?_
 exact yC h [] [0,1,2,3,4]
 exact yC h [] [0,1,2,3,4]
 replace h:=Zo h y
 replace h:=Zo h d
 cases h;exact yD
 iterate 2 refine yB h (fun _ h=>?_) fun _ h=>?_
 exact yC h [] [0,1,2,3,4]
 refine Za h fun _ ah h=>Zb (Zem ah)<|yA ?_
 refine yB h (fun _ h=>?_) fun _ h=>?_
 replace h:=Zo h y
 replace h:=Zo h d
 cases h;exact yD
 exact yC h [] [0,1,2,3,4]
 exact yC h [] [0,1,2,3,4]
 rintro ⟨⟩ ⟨sl,ob,n⟩ z _ h
 simp only[go_sem,seval,Zc] at z
 obtain ⟨⟨_,_,_,_,_,_,_,_,_,_,_⟩,_,_,_,_,_,hn⟩:=z
 subst hn
 have:=Zz (w.length)
 simp only[*,go_sem,seval]
 exact yC h [] [0,1]
 replace h:=Zo h d
 cases h;exact yD
 rintro ⟨⟩ ⟨sl,ob,n⟩ A _ h
 simp only[go_sem,seval,Zc] at A
 obtain ⟨⟨_,_,_⟩,_,_,hn⟩:=A
 subst hn
 have:=Zz (append_0.cond.length)
 simp only[*,go_sem,seval]
 refine Zh h (fun i _ st=>IV [(1,.bp 0 0),(3,.p false [.row 1]),(10,yL i)] [yY 104 (ZG append_0),.row 9 1 (A0 Zw e) 2] st) [] [0,1] yF yD ?_ ?_
 rintro ai _ ⟨⟩ ⟨sl,ob,n⟩ _ l B aj h C
 simp only[go_sem,seval,Zc] at B
 obtain ⟨⟨_,_,_⟩,ak,_,hn⟩:=B
 subst hn
 have al:=WF.boxL aj ak (j:=3) rfl
 have:=ZB l
 have:=ZC l
 have:=Zj (ZA l) al
 simp only[*,go_sem,seval]
 refine Za h fun _ am h=>Zb (ZlF am)<|yA ?_
 refine yB h (fun _ h=>?_) fun _ h=>?_
 refine Za h fun D an h=>Zb (ZbQ an)<|yA ?_
 refine Zh h (fun i _ st=>IV [(1,.bp 0 0),(3,.p false [.row 1]),(10,yL ai),(11,.p false [.row 2]),(12,yL i)] [yY 104 (ZG append_0),.row 9 1 (A0 Zw e) 2,.row 9 1 (A0 Zw D) 2] st) [] [0,1,290] yF yD ?_ ?_
 rintro _ _ ⟨⟩ ⟨sl,ob,n⟩ _ m E ao h ap
 simp only[go_sem,seval,Zc] at E
 obtain ⟨⟨_,_,_,_,_⟩,_,_,aq,hn⟩:=E
 subst hn
 have ar:=WF.rowL ao aq
 have:=ZB m
 have:=ZC m
 have:=Zj (ZA m) ar
 simp only[*,go_sem,seval]
 refine Za h fun _ au h=>Zb (Ym au)<|yA ?_
 refine yB h (fun _ h=>?_) fun _ h=>?_
 exact yC h [] [0,1,2]
 replace h:=Zo h ap
 replace h:=Zo h C
 cases h;exact yD
 rintro ⟨⟩ ⟨sl,ob,n⟩ F _ h
 simp only[go_sem,seval,Zc] at F
 obtain ⟨⟨_,_,_,_,_⟩,_,_,_,hn⟩:=F
 subst hn
 have:=Zz (D.length)
 simp only[*,go_sem,seval]
 exact yC h [] [0,1]
 replace h:=Zo h C
 cases h;exact yD
 rintro ⟨⟩ ⟨sl,ob,n⟩ G _ h
 simp only[go_sem,seval,Zc] at G
 obtain ⟨⟨_,_,_⟩,_,_,hn⟩:=G
 subst hn
 have:=Zz (append_0.thn.length)
 simp only[*,go_sem,seval]
 refine Za h fun _ av h=>Zb (Zl1 av) ?_
 iterate 5 (cases h;exact yD)
theorem ZjR {x_0:Zr} {b_1:(List Zp)} {r:Bool} (h:ZbO x_0 b_1=some r):Zl prog J0 91 [(true,ZK x_0),(false,[.sl 135 2 (A0 ZZ b_1)])] [(false,[(false,.bool r)])]:=by
 refine fnk func91 rfl ?_
 unfold ZbO at h
 simp only[fnS,f91,Zm,go_sem,seval]
 refine Za h fun v1 a h=>Zb (Zf4 a)<|yA ?_
 refine yB h (fun _ h=>?_) fun _ h=>?_
 refine Za h fun _ b h=>Zb (Qy b)<|yA ?_
 refine yB h (fun _ h=>?_) fun _ h=>?_
 refine Za h fun _ c h=>Zb (Zcl c)<|yA ?_
 refine Za h fun _ d h=>Zb (Zcl d)<|yA ?_
 iterate 3 refine yB h (fun _ h=>?_) fun _ h=>?_
 cases h;exact yD
 refine yB h (fun _ h=>?_) fun _ h=>?_
 cases h;exact yD
 refine Za h fun _ e h=>Zb (ZgK e)<|yA ?_
 refine yB h (fun _ h=>?_) fun _ h=>?_
 refine Za h fun _ f h=>Zb (ZgK f)<|yA ?_
 refine yB h (fun _ h=>?_) fun _ h=>?_
 refine Za h fun _ g h=>Zb (Zdr g) ?_
 iterate 7 (cases h;exact yD)
end
section
theorem ZgT {append_0:(List Zr)} {String_1:(List Zd)} {r:(List Zt)} (h:Zam append_0 String_1=some r):Zl prog J0 77 [(false,[.sl 60 5 (A0 ZK append_0)]),(false,[.sl 71 2 (A0 Zq String_1)])] [(false,[(true,.sl 118 2 (A0 YE r))])]:=by
 refine fnk func77 rfl ?_
 unfold Zam at h
 simp only[fnS,f77,Zm,go_sem,seval]
 refine Zh h (fun i b st=>IV [(1,yM (yO String_1)),(5,.p false [.row 0]),(17,yM (yS append_0)),(18,yL append_0.length),(19,yL i)] [.row 118 2 (A0 YE b) 1] st) [(true,32,1)] [32] yF yD ?_ ?_
 rintro l a b ⟨sl,ob,n⟩ _ d m x h _
 simp only[go_sem,seval,Zc] at m
 obtain ⟨⟨_,_,y,_,_⟩,_,hn⟩:=m
 subst hn
 have z:=WF.slotL x y (j:=0) rfl
 have:=ZB d
 have:=ZC d
 have:=Zj (ZA d) z
 simp only[*,go_sem,seval]
 refine Zh h (fun i e st=>IV [(1,yM (yO String_1)),(7,.bp 0 0),(8,.p false [.row 1]),(17,yM (yS append_0)),(18,yL append_0.length),(19,yL l),(23,.p false [.row 2]),(24,yL b.length),(25,yL i)] [yY 60 (ZK a),.row 118 2 (A0 YE e) 1,.row 118 2 (A0 YE b) 1] st) [(false,8,0),(true,145,1)] [49,145,0] yF yD ?_ ?_
 rintro A o e ⟨sl,ob,n⟩ _ f q B h _
 simp only[go_sem,seval,Zc] at q
 obtain ⟨⟨_,_,_,_,_,_,_,_,_⟩,_,_,C,hn⟩:=q
 subst hn
 have D:=WF.rowL B C
 have:=ZB f
 have:=ZC f
 have:=Zj (ZA f) D
 simp only[*,go_sem,seval]
 refine yB h (fun _ h=>?_) fun _ h=>?_
 refine Za h fun _ E h=>Zb (Zlm E)<|yA ?_
 refine yB h (fun _ h=>?_) fun _ h=>?_
 obtain ⟨F,h⟩:=Zs h
 try simp only[Nat.reduceLeDiff] at F
 simp only[*,go_sem,seval]
 exact yC h [] [0,259,2]
 exact yC h [] [0,1,2]
 refine Zh h (fun i g st=>IV [(1,yM (yO String_1)),(7,.bp 0 0),(8,.p false [.row 1]),(10,.bp 2 0),(17,yM (yS append_0)),(18,yL append_0.length),(19,yL l),(23,.p false [.row 3]),(24,yL b.length),(25,yL A),(41,yM (yO String_1)),(42,yL String_1.length),(43,yL i)] [yY 60 (ZK a),.row 118 2 (A0 YE g) 1,yY 118 (YE o),.row 118 2 (A0 YE b) 1] st) [] [0,1,51,2] yF yD ?_ ?_
 rintro _ _ g ⟨sl,ob,n⟩ _ k t G h _
 simp only[go_sem,seval,Zc] at t
 obtain ⟨⟨H,_,_,_,_,_,_,_,_,_,_,_,_⟩,_,_,_,_,hn⟩:=t
 subst hn
 have I:=WF.slotL G H (j:=0) rfl
 have:=ZB k
 have:=ZC k
 have:=Zj (ZA k) I
 simp only[*,go_sem,seval]
 refine Za h fun _ J h=>Zb (Zfk J)<|yA ?_
 refine yB h (fun _ h=>?_) fun _ h=>?_
 refine Za h fun _ K h=>Zb (ZfY K)<|yA ?_
 refine Za h fun _ L h=>Zb (YC L) ?_
 obtain ⟨M,h⟩:=Zs h
 try simp only[Nat.reduceLeDiff] at M
 obtain ⟨N,h⟩:=Zs h
 try simp only[Nat.reduceLeDiff] at N
 simp only[*,go_sem,seval]
 exact yC h [] [0,452,2,3]
 exact yC h [] [0,1,2,3]
 rintro g ⟨sl,ob,n⟩ u _ h
 simp only[go_sem,seval,Zc] at u
 obtain ⟨⟨_,_,_,_,_,_,_,_,_,_,_,_,_⟩,_,_,_,_,hn⟩:=u
 subst hn
 have:=Zz (String_1.length)
 simp only[*,go_sem,seval]
 exact yC h [] [0,1,3]
 rintro e ⟨sl,ob,n⟩ v _ h
 simp only[go_sem,seval,Zc] at v
 obtain ⟨⟨_,_,_,_,_,_,_,_,_⟩,_,_,_,hn⟩:=v
 subst hn
 have:=Zz (b.length)
 simp only[*,go_sem,seval]
 exact yC h [] [1]
 rintro b ⟨sl,ob,n⟩ w _ h
 simp only[go_sem,seval,Zc] at w
 obtain ⟨⟨_,_,_,_,_⟩,_,hn⟩:=w
 subst hn
 have:=Zz (append_0.length)
 cases h;exact yD
theorem Zjl {rules_0:(List Zf)} {r:Bool} (h:ZaP rules_0=some r):Zl prog J0 234 [(false,[.sl 104 4 (A0 ZG rules_0)])] [(false,[(false,.bool r)])]:=by
 refine fnk func234 rfl ?_
 unfold ZaP at h
 simp only[fnS,f234,Zm,go_sem,seval]
 refine Za h fun v1 y h=>Zb (ZlH y)<|yA ?_
 refine yB h (fun _ h=>?_) fun _ h=>?_
 refine Zh h (fun i _ st=>IV [(0,yM (yR rules_0)),(13,yM (yR rules_0)),(14,yL rules_0.length),(15,yL i)] [] st) [] [] yF yD ?_ ?_
 rintro l a ⟨⟩ ⟨sl,ob,n⟩ _ d m z h e
 simp only[go_sem,seval,Zc] at m
 obtain ⟨⟨A,_,_,_⟩,hn⟩:=m
 subst hn
 have B:=WF.slotL z A (j:=0) rfl
 have:=ZB d
 have:=ZC d
 have:=Zj (ZA d) B
 simp only[*,go_sem,seval]
 refine Za h fun _ C h=>Zb (ZkE C)<|yA ?_
 refine yB h (fun _ h=>?_) fun _ h=>?_
 refine Zh h (fun i _ st=>IV [(0,yM (yR rules_0)),(4,.bp 0 0),(13,yM (yR rules_0)),(14,yL rules_0.length),(15,yL l),(23,yM (yS a.cond)),(24,yL a.cond.length),(25,yL i)] [yY 104 (ZG a)] st) [] [48] yF yD ?_ ?_
 rintro D b ⟨⟩ ⟨sl,ob,n⟩ _ f o E h q
 simp only[go_sem,seval,Zc] at o
 obtain ⟨⟨_,_,_,_,_,F,_,_⟩,_,hn⟩:=o
 subst hn
 have G:=WF.slotL E F (j:=0) rfl
 have:=ZB f
 have:=ZC f
 have:=Zj (ZA f) G
 simp only[*,go_sem,seval]
 refine yB h (fun _ h=>?_) fun _ h=>?_
 exact yC h [] [0]
 obtain ⟨H,I,h⟩:=ZJ h
 refine Zyh (ZlX I)<|yA ?_
 refine Za h fun g J h=>Zb (ZgC J)<|yA ?_
 refine Zh h (fun i _ st=>IV [(0,yM (yR rules_0)),(4,.bp 0 0),(6,.bp 1 0),(7,.p false [.row 2]),(13,yM (yR rules_0)),(14,yL rules_0.length),(15,yL l),(23,yM (yS a.cond)),(24,yL a.cond.length),(25,yL D),(38,.p false [.row 3]),(39,yL g.length),(40,yL i)] [yY 104 (ZG a),yY 60 (ZK b),.map .str .bool (A0 eSB H),.row 9 1 (A0 Zw g) 2] st) [] [0,49,193,241] yF yD ?_ ?_
 rintro _ _ ⟨⟩ ⟨sl,ob,n⟩ _ k t K h u
 simp only[go_sem,seval,Zc] at t
 obtain ⟨⟨_,_,_,_,_,_,_,_,_,_,_,_,_⟩,_,_,_,L,hn⟩:=t
 subst hn
 have M:=WF.rowL K L
 have:=ZB k
 have:=ZC k
 have:=Zj (ZA k) M
 simp only[*,go_sem,seval]
 refine yB h (fun _ h=>?_) fun _ h=>?_
 replace h:=Zo h u
 replace h:=Zo h q
 replace h:=Zo h e
 cases h;exact yD
 refine yB h (fun _ h=>?_) fun _ h=>?_
 replace h:=Zo h u
 replace h:=Zo h q
 replace h:=Zo h e
 cases h;exact yD
 exact yC h [] [0,1,2,3]
 rintro ⟨⟩ ⟨sl,ob,n⟩ v _ h
 simp only[go_sem,seval,Zc] at v
 obtain ⟨⟨_,_,_,_,_,_,_,_,_,_,_,_,_⟩,_,_,_,_,hn⟩:=v
 subst hn
 have:=Zz (g.length)
 simp only[*,go_sem,seval]
 exact yC h [] [0]
 rintro ⟨⟩ ⟨sl,ob,n⟩ w _ h
 simp only[go_sem,seval,Zc] at w
 obtain ⟨⟨_,_,_,_,_,_,_,_⟩,_,hn⟩:=w
 subst hn
 have:=Zz (a.cond.length)
 simp only[*,go_sem,seval]
 exact yC h [] []
 replace h:=Zo h e
 cases h;exact yD
 rintro ⟨⟩ ⟨sl,ob,n⟩ x _ h
 simp only[go_sem,seval,Zc] at x
 obtain ⟨⟨_,_,_,_⟩,hn⟩:=x
 subst hn
 have:=Zz (rules_0.length)
 iterate 2 (cases h;exact yD)
theorem ZkG {r_0:Zf} {r:Bool} (h:ZbL r_0=some r):Zl prog J0 184 [(true,ZG r_0)] [(false,[(false,.bool r)])]:=by
 refine fnk func184 rfl ?_
 unfold ZbL at h
 simp only[fnS,f184,Zm,go_sem,seval]
 refine Za h fun v1 k h=>Zb (Zf1 k)<|yA ?_
 refine yB h (fun _ h=>?_) fun _ h=>?_
 refine Zh h (fun i _ st=>IV [(1,.bp 0 0),(3,yL i)] [yY 104 (ZG r_0)] st) [] [0] yF yD ?_ ?_
 rintro _ _ ⟨⟩ ⟨sl,ob,n⟩ _ a d l h m
 simp only[go_sem,seval,Zc] at d
 obtain ⟨⟨_,_⟩,o,hn⟩:=d
 subst hn
 have q:=WF.boxL l o (j:=2) rfl
 have:=ZB a
 have:=ZC a
 have:=Zj (ZA a) q
 simp only[*,go_sem,seval]
 refine yB h (fun _ h=>?_) fun _ h=>?_
 refine Za h fun _ t h=>Zb (Q7 t)<|yA ?_
 refine Za h fun _ u h=>Zb (ZaS u)<|yA ?_
 refine Za h fun _ v h=>Zb (ZlG v)<|yA ?_
 refine yB h (fun _ h=>?_) fun _ h=>?_
 exact yC h [] [0]
 replace h:=Zo h m
 cases h;exact yD
 exact yC h [] [0]
 rintro ⟨⟩ ⟨sl,ob,n⟩ e _ h
 simp only[go_sem,seval,Zc] at e
 obtain ⟨⟨_,_⟩,_,hn⟩:=e
 subst hn
 have:=Zz (r_0.cond.length)
 simp only[*,go_sem,seval]
 refine Zh h (fun i _ st=>IV [(1,.bp 0 0),(4,yL i)] [yY 104 (ZG r_0)] st) [] [0] yF yD ?_ ?_
 rintro _ _ ⟨⟩ ⟨sl,ob,n⟩ _ b f w h x
 simp only[go_sem,seval,Zc] at f
 obtain ⟨⟨_,_⟩,y,hn⟩:=f
 subst hn
 have z:=WF.boxL w y (j:=3) rfl
 have:=ZB b
 have:=ZC b
 have:=Zj (ZA b) z
 simp only[*,go_sem,seval]
 refine yB h (fun _ h=>?_) fun _ h=>?_
 replace h:=Zo h x
 cases h;exact yD
 exact yC h [] [0]
 rintro ⟨⟩ ⟨sl,ob,n⟩ g _ h
 simp only[go_sem,seval,Zc] at g
 obtain ⟨⟨_,_⟩,_,hn⟩:=g
 subst hn
 have:=Zz (r_0.thn.length)
 iterate 2 (cases h;exact yD)
theorem Zls {l_0:(List Zf)} {r:Bool} (h:Zcz l_0=some r):Zl prog J0 187 [(false,[.sl 104 4 (A0 ZG l_0)])] [(false,[(false,.bool r)])]:=by
 refine fnk func187 rfl ?_
 unfold Zcz at h
 simp only[fnS,f187,Zm,go_sem,seval]
 refine Zh h (fun i _ st=>IV [(0,yM (yR l_0)),(3,yL i)] [] st) [] [] yF yD ?_ ?_
 rintro _ _ ⟨⟩ ⟨sl,ob,n⟩ _ a b f h d
 simp only[go_sem,seval,Zc] at b
 obtain ⟨⟨g,_⟩,hn⟩:=b
 subst hn
 have k:=WF.slotL f g (j:=0) rfl
 have:=ZB a
 have:=ZC a
 have:=Zj (ZA a) k
 simp only[*,go_sem,seval]
 refine Za h fun _ l h=>Zb (Zf1 l)<|yA ?_
 refine yB h (fun _ h=>?_) fun _ h=>?_
 refine Za h fun _ m h=>Zb (ZlV m)<|yA ?_
 refine yB h (fun _ h=>?_) fun _ h=>?_
 replace h:=Zo h d
 cases h;exact yD
 exact yC h [] []
 replace h:=Zo h d
 cases h;exact yD
 rintro ⟨⟩ ⟨sl,ob,n⟩ e _ h
 simp only[go_sem,seval,Zc] at e
 obtain ⟨⟨_,_⟩,hn⟩:=e
 subst hn
 have:=Zz (l_0.length)
 cases h;exact yD
theorem ZjH {x_0:Zr} {b_1:(List Zp)} {facts_2:(List Zd)} {r:Bool} (h:ZbV x_0 b_1 facts_2=some r):Zl prog J0 34 [(true,ZK x_0),(false,[.sl 135 2 (A0 ZZ b_1)]),(false,[.sl 71 2 (A0 Zq facts_2)])] [(false,[(false,.bool r)])]:=by
 refine fnk func34 rfl ?_
 unfold ZbV at h
 simp only[fnS,f34,Zm,go_sem,seval]
 refine Za h fun v1 a h=>Zb (Zdw a)<|yA ?_
 refine yB h (fun _ h=>?_) fun _ h=>?_
 refine Za h fun _ b h=>Zb (Qy b)<|yA ?_
 iterate 2 refine yB h (fun _ h=>?_) fun _ h=>?_
 refine Za h fun _ c h=>Zb (Zdh c) ?_
 cases h;exact yD
 refine yB h (fun _ h=>?_) fun _ h=>?_
 refine Za h fun _ d h=>Zb (Zdh d) ?_
 cases h;exact yD
 refine Za h fun _ e h=>Zb (ZjR e) ?_
 iterate 3 (cases h;exact yD)
end
section
theorem Zg5 {a:(List Zf)} {String_1:(List Zd)} {r:((List Zd) × Bool)} (h:Yf a String_1=some r):Zl prog J0 172 [(false,[.sl 104 4 (A0 ZG a)]),(false,[.sl 71 2 (A0 Zq String_1)])] [(false,[(false,.sl 71 2 (A0 Zq r.1))]),(false,[(false,.bool r.2)])]:=by
 refine fnn 4 func172 rfl ?_
 unfold Yf at h
 simp only[fnN,f172,Zm,go_sem,seval]
 refine Za h fun v1 H h=>Zb (Zjl H)<|yA ?_
 refine yB h (fun _ h=>?_) fun _ h=>?_
 refine Za h fun _ I h=>Zb (ZlA I)<|yA ?_
 refine yB h (fun _ h=>?_) fun _ h=>?_
 refine Za h fun _ J h=>Zb (ZfY J)<|yA ?_
 refine XH h (fun s st=>match s with | (v,w)=>IV [(0,yM (yR a)),(6,.p false [.n (yO v)]),(7,yM (.bool w))] [] st) [(false,6,4096)] [] yF yD ?_
 rintro ⟨v,w⟩ ⟨sl,ob,n⟩ _ x _ h y
 simp only[go_sem,seval,Zc] at x
 obtain ⟨⟨_,_,_⟩,hn⟩:=x
 subst hn
 simp only[*,go_sem,seval]
 refine yB h (fun _ h=>?_) fun _ h=>?_
 refine Zh h (fun i s st=>match s with | (f,g)=>IV [(0,yM (yR a)),(6,.p false [.n (yO f)]),(7,yM (.bool g)),(27,yM (yR a)),(28,yL a.length),(29,yL i)] [] st) [] [] yF yD ?_ ?_
 rintro z d ⟨f,g⟩ ⟨sl,ob,n⟩ _ k A K h L
 simp only[go_sem,seval,Zc] at A
 obtain ⟨⟨M,_,_,_,_,_⟩,hn⟩:=A
 subst hn
 have N:=WF.slotL K M (j:=0) rfl
 have:=ZB k
 have:=ZC k
 have:=Zj (ZA k) N
 simp only[*,go_sem,seval]
 obtain ⟨_,O,h⟩:=ZJ h
 refine ZkJ (Zeh O)<|yA ?_
 obtain ⟨e,P,h⟩:=ZJ h
 refine ZkJ (ZgT P)<|yA ?_
 refine Zh h (fun i s st=>match s with | (l,m)=>IV [(0,yM (yR a)),(6,.p false [.n (yO l)]),(7,yM (.bool m)),(9,.bp 0 0),(27,yM (yR a)),(28,yL a.length),(29,yL z),(36,yM (yW e)),(37,yL e.length),(38,yL i)] [yY 104 (ZG d)] st) [] [48] yF yD ?_ ?_
 rintro Q B ⟨l,m⟩ ⟨sl,ob,n⟩ _ o C R h S
 simp only[go_sem,seval,Zc] at C
 obtain ⟨⟨_,_,_,_,_,_,_,T,_,_⟩,_,hn⟩:=C
 subst hn
 have U:=WF.slotL R T (j:=0) rfl
 have:=ZB o
 have:=ZC o
 have:=Zj (ZA o) U
 simp only[*,go_sem,seval]
 refine Zh h (fun i s st=>match s with | (q,t)=>IV [(0,yM (yR a)),(6,.p false [.n (yO q)]),(7,yM (.bool t)),(9,.bp 0 0),(11,.bp 1 0),(27,yM (yR a)),(28,yL a.length),(29,yL z),(36,yM (yW e)),(37,yL e.length),(38,yL Q),(43,yM (yV d.thn)),(44,yL d.thn.length),(45,yL i)] [yY 104 (ZG d),yY 118 (YE B)] st) [] [0,49] yF yD ?_ ?_
 rintro _ _ ⟨q,t⟩ ⟨sl,ob,n⟩ _ u D V h W
 simp only[go_sem,seval,Zc] at D
 obtain ⟨⟨_,_,_,_,_,_,_,_,_,_,_,X,_,_⟩,_,_,hn⟩:=D
 subst hn
 have Y:=WF.slotL V X (j:=0) rfl
 have:=ZB u
 have:=ZC u
 have:=Zj (ZA u) Y
 simp only[*,go_sem,seval]
 refine Za h fun _ Z h=>Zb (ZdP Z)<|yA ?_
 refine Za h fun _ aa h=>Zb (ZbG aa)<|yA ?_
 refine yB h (fun _ h=>?_) fun _ h=>?_
 exact yC h [] [0,1]
 refine yB h (fun _ h=>?_) fun _ h=>?_
 replace h:=Zo h W
 replace h:=Zo h S
 replace h:=Zo h L
 replace h:=Zo h y
 cases h;exact yD
 refine Za h fun _ ab h=>Zb (ZnM ab)<|yA ?_
 exact yC h [(false,6,4096)] [0,1]
 rintro ⟨q,t⟩ ⟨sl,ob,n⟩ E _ h
 simp only[go_sem,seval,Zc] at E
 obtain ⟨⟨_,_,_,_,_,_,_,_,_,_,_,_,_,_⟩,_,_,hn⟩:=E
 subst hn
 have:=Zz (d.thn.length)
 simp only[*,go_sem,seval]
 exact yC h [] [0]
 rintro ⟨l,m⟩ ⟨sl,ob,n⟩ F _ h
 simp only[go_sem,seval,Zc] at F
 obtain ⟨⟨_,_,_,_,_,_,_,_,_,_⟩,_,hn⟩:=F
 subst hn
 have:=Zz (e.length)
 simp only[*,go_sem,seval]
 exact yC h [] []
 rintro ⟨f,g⟩ ⟨sl,ob,n⟩ G _ h
 simp only[go_sem,seval,Zc] at G
 obtain ⟨⟨_,_,_,_,_,_⟩,hn⟩:=G
 subst hn
 have:=Zz (a.length)
 simp only[*,go_sem,seval]
 exact yC h [] []
 replace h:=Zo h y
 iterate 3 (cases h;exact yD)
theorem Zju {append_0:(List Zf)} {r:Bool} (h:ZaM append_0=some r):Zl prog J0 111 [(false,[.sl 104 4 (A0 ZG append_0)])] [(false,[(false,.bool r)])]:=by
 refine fnk func111 rfl ?_
 unfold ZaM at h
 simp only[fnS,f111,Zm,go_sem,seval]
 refine Zh h (fun i _ st=>IV [(0,yM (yR append_0)),(3,yL i)] [] st) [] [] yF yD ?_ ?_
 rintro l x ⟨⟩ ⟨sl,ob,n⟩ _ b m y h d
 simp only[go_sem,seval,Zc] at m
 obtain ⟨⟨z,_⟩,hn⟩:=m
 subst hn
 have A:=WF.slotL y z (j:=0) rfl
 have:=ZB b
 have:=ZC b
 have:=Zj (ZA b) A
 simp only[*,go_sem,seval]
 refine Za h fun _ B h=>Zb (ZkG B)<|yA ?_
 refine yB h (fun _ h=>?_) fun _ h=>?_
 refine Za h fun e C h=>Zb (ZgL C)<|yA ?_
 refine Zh h (fun i _ st=>IV [(0,yM (yR append_0)),(3,yL l),(4,.p false [.row 0]),(5,yL i)] [.row 9 1 (A0 Zw e) 2] st) [] [224] yF yD ?_ ?_
 rintro D a ⟨⟩ ⟨sl,ob,n⟩ _ f o E h q
 simp only[go_sem,seval,Zc] at o
 obtain ⟨⟨F,_,_,_⟩,_,hn⟩:=o
 subst hn
 have G:=WF.elL (WF.slotD E F (j:=0) rfl) b (j:=2) rfl
 have:=ZB f
 have:=ZC f
 have:=Zj (ZA f) G
 simp only[*,go_sem,seval]
 refine Zh h (fun i _ st=>IV [(0,yM (yR append_0)),(3,yL l),(4,.p false [.row 0]),(5,yL D),(6,.bp 1 0),(7,yL i)] [.row 9 1 (A0 Zw e) 2,yY 60 (ZK a)] st) [] [0,257] yF yD ?_ ?_
 rintro _ _ ⟨⟩ ⟨sl,ob,n⟩ _ g t H h k
 simp only[go_sem,seval,Zc] at t
 obtain ⟨⟨_,_,_,_,_,_⟩,I,_,hn⟩:=t
 subst hn
 have J:=WF.rowL H I
 have:=ZB g
 have:=ZC g
 have:=Zj (ZA g) J
 simp only[*,go_sem,seval]
 iterate 2 refine yB h (fun _ h=>?_) fun _ h=>?_
 replace h:=Zo h k
 replace h:=Zo h q
 replace h:=Zo h d
 cases h;exact yD
 refine Za h fun _ K h=>Zb (Zjm K)<|yA ?_
 refine yB h (fun _ h=>?_) fun _ h=>?_
 replace h:=Zo h k
 replace h:=Zo h q
 replace h:=Zo h d
 cases h;exact yD
 exact yC h [] [0,1]
 replace h:=Zo h k
 exact yC h [] [0]
 rintro ⟨⟩ ⟨sl,ob,n⟩ u _ h
 simp only[go_sem,seval,Zc] at u
 obtain ⟨⟨_,_,_,_,_,_⟩,_,_,hn⟩:=u
 subst hn
 have:=Zz (e.length)
 simp only[*,go_sem,seval]
 exact yC h [] [0]
 rintro ⟨⟩ ⟨sl,ob,n⟩ v _ h
 simp only[go_sem,seval,Zc] at v
 obtain ⟨⟨_,_,_,_⟩,_,hn⟩:=v
 subst hn
 have:=Zz (x.cond.length)
 simp only[*,go_sem,seval]
 exact yC h [] []
 replace h:=Zo h d
 cases h;exact yD
 rintro ⟨⟩ ⟨sl,ob,n⟩ w _ h
 simp only[go_sem,seval,Zc] at w
 obtain ⟨⟨_,_⟩,hn⟩:=w
 subst hn
 have:=Zz (append_0.length)
 simp only[*,go_sem,seval]
 refine Za h fun _ L h=>Zb (Zls L) ?_
 cases h;exact yD
theorem Zpg {append_0:(List Zt)} {a:Zr} {a_2:(List Zd)} {r:(List Zt)} (h:Zfi append_0 a a_2=some r):Zl prog J0 189 [(false,[.sl 118 2 (A0 YE append_0)]),(true,ZK a),(false,[.sl 71 2 (A0 Zq a_2)])] [(false,[(false,.sl 118 2 (A0 YE r))])]:=by
 refine fnk func189 rfl ?_
 unfold Zfi at h
 simp only[fnS,f189,Zm,go_sem,seval]
 refine Zh h (fun i b st=>IV [(0,yM (yW append_0)),(2,yM (yO a_2)),(4,.bp 0 0),(7,.p false [.row 1]),(8,yL i)] [yY 60 (ZK a),.row 118 2 (A0 YE b) 2] st) [] [0,32] yF yD ?_ ?_
 rintro o _ b ⟨sl,ob,n⟩ _ d g q h _
 simp only[go_sem,seval,Zc] at g
 obtain ⟨⟨t,_,_,_,_⟩,_,_,hn⟩:=g
 subst hn
 have u:=WF.slotL q t (j:=0) rfl
 have:=ZB d
 have:=ZC d
 have:=Zj (ZA d) u
 simp only[*,go_sem,seval]
 refine yB h (fun _ h=>?_) fun _ h=>?_
 refine Za h fun _ v h=>Zb (ZjH v)<|yA ?_
 refine yB h (fun _ h=>?_) fun _ h=>?_
 refine Za h fun _ w h=>Zb (Zoi w) ?_
 obtain ⟨x,h⟩:=Zs h
 try simp only[Nat.reduceLeDiff] at x
 simp only[*,go_sem,seval]
 exact yC h [] [0,354]
 exact yC h [] [0,1]
 refine Zh h (fun i e st=>IV [(0,yM (yW append_0)),(2,yM (yO a_2)),(4,.bp 0 0),(7,.p false [.row 1]),(8,yL o),(9,yL i)] [yY 60 (ZK a),.row 118 2 (A0 YE e) 2] st) [] [0,1] yF yD ?_ ?_
 rintro _ _ e ⟨sl,ob,n⟩ _ f k y h _
 simp only[go_sem,seval,Zc] at k
 obtain ⟨⟨_,z,_,_,_,_⟩,_,_,hn⟩:=k
 subst hn
 have A:=WF.slotL y z (j:=0) rfl
 have:=ZB f
 have:=ZC f
 have:=Zj (ZA f) A
 simp only[*,go_sem,seval]
 refine Za h fun _ B h=>Zb (ZfU B)<|yA ?_
 refine yB h (fun _ h=>?_) fun _ h=>?_
 refine Za h fun _ C h=>Zb (ZdO C)<|yA ?_
 refine Za h fun _ D h=>Zb (Xr D) ?_
 obtain ⟨E,h⟩:=Zs h
 try simp only[Nat.reduceLeDiff] at E
 obtain ⟨F,h⟩:=Zs h
 try simp only[Nat.reduceLeDiff] at F
 simp only[*,go_sem,seval]
 exact yC h [] [0,626]
 exact yC h [] [0,1]
 rintro e ⟨sl,ob,n⟩ l _ h
 simp only[go_sem,seval,Zc] at l
 obtain ⟨⟨_,_,_,_,_,_⟩,_,_,hn⟩:=l
 subst hn
 have:=Zz (a_2.length)
 simp only[*,go_sem,seval]
 exact yC h [] [0,1]
 rintro b ⟨sl,ob,n⟩ m _ h
 simp only[go_sem,seval,Zc] at m
 obtain ⟨⟨_,_,_,_,_⟩,_,_,hn⟩:=m
 subst hn
 have:=Zz (append_0.length)
 cases h;exact yD
end
section
theorem ZGS {d:(List Zf)} {f:(List Zd)} {r:((List Zd) × Zu × (List Zac) × Bool)} (h:ZEB d f=some r):Zl prog J0 101 [(false,[.sl 104 4 (A0 ZG d)]),(false,[.sl 71 2 (A0 Zq f)])] [(false,[(true,.sl 71 2 (A0 Zq r.1))]),(true,[(false,.int .i64 r.2.1.nodes),(false,.sl 144 3 (A0 ZL r.2.1.reasons))]),(false,[(true,.sl 153 2 (A0 Zgg r.2.2.1))]),(false,[(false,.bool r.2.2.2)])]:=by
 refine fnk func101 rfl ?_
 unfold ZEB at h
 simp only[fnS,f101,Zm,go_sem,seval]
 refine Za h fun v1 O h=>Zb (Zg5 O)<|yA ?_
 refine yB h (fun _ h=>?_) fun _ h=>?_
 refine Zh h (fun i s st=>match s with | (o,q)=>IV [(0,yM (yR d)),(5,.bp 0 0),(8,.p false [.row 1]),(10,.bp 2 0),(11,.p false [.row 4]),(40,yM (yO f)),(41,yL f.length),(42,yL i)] [.box 91 [.c (.int .i64 0),.nil 144 3],.row 71 2 (A0 Zq v1.1) 2,.box 91 [.c (.int .i64 ((v1.1.length:Nat):Int)),.row 3],.row 144 3 (A0 ZL o) 2,.row 153 2 (A0 Zgg q) 2] st) [(false,11,0),(true,272,1)] [16,96,272,369,368] yF yD ?_ ?_
 rintro _ _ ⟨o,q⟩ ⟨sl,ob,n⟩ _ t D P h _
 simp only[go_sem,seval,Zc] at D
 obtain ⟨⟨_,_,_,_,_,Q,_,_⟩,_,_,_,_,_,hn⟩:=D
 subst hn
 have R:=WF.slotL P Q (j:=0) rfl
 have:=ZB t
 have:=ZC t
 have:=Zj (ZA t) R
 simp only[*,go_sem,seval]
 refine Za h fun _ S h=>Zb (ZbG S) ?_
 obtain ⟨T,h⟩:=Zs h
 try simp only[Nat.reduceLeDiff] at T
 obtain ⟨U,h⟩:=Zs h
 try simp only[Nat.reduceLeDiff] at U
 simp only[*,go_sem,seval]
 exact yC h [] [0,1,2,197,293]
 rintro ⟨o,q⟩ ⟨sl,ob,n⟩ E _ h
 simp only[go_sem,seval,Zc] at E
 obtain ⟨⟨_,_,_,_,_,_,_,_⟩,_,_,_,_,_,hn⟩:=E
 subst hn
 have:=Zz (f.length)
 simp only[*,go_sem,seval]
 refine Zh h (fun i s st=>match s with | (u,v)=>IV [(5,.bp 0 0),(8,.p false [.row 1]),(10,.bp 2 0),(11,.p false [.row 4]),(60,yM (yR d)),(61,yL d.length),(62,yL i)] [.box 91 [.c (.int .i64 0),.nil 144 3],.row 71 2 (A0 Zq v1.1) 0,.box 91 [.c (.int .i64 ((v1.1.length:Nat):Int)),.row 3],.row 144 3 (A0 ZL u) 2,.row 153 2 (A0 Zgg v) 1] st) [(true,1,0),(true,4,1)] [0,1,2,3,4] yF yD ?_ ?_
 rintro w b ⟨u,v⟩ ⟨sl,ob,n⟩ _ x F V h _
 simp only[go_sem,seval,Zc] at F
 obtain ⟨⟨_,_,_,_,W,_,_⟩,_,_,_,_,_,hn⟩:=F
 subst hn
 have X:=WF.slotL V W (j:=0) rfl
 have:=ZB x
 have:=ZC x
 have:=Zj (ZA x) X
 simp only[*,go_sem,seval]
 obtain ⟨_,Y,h⟩:=ZJ h
 refine ZkJ (Zeh Y)<|yA ?_
 obtain ⟨e,Z,h⟩:=ZJ h
 refine ZkJ (ZgT Z)<|yA ?_
 refine Zh h (fun i s st=>match s with | (g,k)=>IV [(5,.bp 0 0),(8,.p false [.row 1]),(10,.bp 2 0),(11,.p false [.row 4]),(15,.bp 5 0),(60,yM (yR d)),(61,yL d.length),(62,yL w),(69,yM (yW e)),(70,yL e.length),(71,yL i)] [.box 91 [.c (.int .i64 0),.nil 144 3],.row 71 2 (A0 Zq v1.1) 0,.box 91 [.c (.int .i64 ((v1.1.length:Nat):Int)),.row 3],.row 144 3 (A0 ZL g) 2,.row 153 2 (A0 Zgg k) 1,yY 104 (ZG b)] st) [] [0,1,2,3,4,53] yF yD ?_ ?_
 rintro G l ⟨g,k⟩ ⟨sl,ob,n⟩ _ y H aa h _
 simp only[go_sem,seval,Zc] at H
 obtain ⟨⟨_,_,_,_,_,_,_,_,ab,_,_⟩,_,_,_,_,_,_,hn⟩:=H
 subst hn
 have ac:=WF.slotL aa ab (j:=0) rfl
 have:=ZB y
 have:=ZC y
 have:=Zj (ZA y) ac
 simp only[*,go_sem,seval]
 refine Zh h (fun i m st=>IV [(5,.bp 0 0),(8,.p false [.row 1]),(10,.bp 2 0),(11,.p false [.row 4]),(15,.bp 5 0),(17,.bp 6 0),(18,.p false [.row 7]),(60,yM (yR d)),(61,yL d.length),(62,yL w),(69,yM (yW e)),(70,yL e.length),(71,yL G),(76,yM (yS b.cond)),(77,yL b.cond.length),(78,yL i)] [.box 91 [.c (.int .i64 0),.nil 144 3],.row 71 2 (A0 Zq v1.1) 0,.box 91 [.c (.int .i64 ((v1.1.length:Nat):Int)),.row 3],.row 144 3 (A0 ZL g) 2,.row 153 2 (A0 Zgg k) 1,yY 104 (ZG b),yY 118 (YE l),.row 71 2 (A0 Zq m) 2] st) [(false,18,0)] [0,1,2,3,4,5,54,166] yF yD ?_ ?_
 rintro _ _ m ⟨sl,ob,n⟩ _ z I ad h _
 simp only[go_sem,seval,Zc] at I
 obtain ⟨⟨_,_,_,_,_,_,_,_,_,_,_,_,_,ae,_,_⟩,_,_,_,_,_,_,_,_,hn⟩:=I
 subst hn
 have af:=WF.slotL ad ae (j:=0) rfl
 have:=ZB z
 have:=ZC z
 have:=Zj (ZA z) af
 simp only[*,go_sem,seval]
 refine yB h (fun _ h=>?_) fun _ h=>?_
 refine Za h fun _ ag h=>Zb (ZdP ag) ?_
 obtain ⟨ah,h⟩:=Zs h
 try simp only[Nat.reduceLeDiff] at ah
 simp only[*,go_sem,seval]
 exact yC h [] [0,1,2,3,4,5,6,360]
 exact yC h [] [0,1,2,3,4,5,6,7]
 rintro m ⟨sl,ob,n⟩ J _ h
 simp only[go_sem,seval,Zc] at J
 obtain ⟨⟨_,_,_,_,_,_,_,_,_,_,_,_,_,_,_,_⟩,_,_,_,_,_,_,_,_,hn⟩:=J
 subst hn
 have:=Zz (b.cond.length)
 simp only[*,go_sem,seval]
 refine Zh h (fun i s st=>match s with | (A,B)=>IV [(5,.bp 0 0),(8,.p false [.row 1]),(10,.bp 2 0),(11,.p false [.row 4]),(15,.bp 5 0),(17,.bp 6 0),(18,.p false [.row 7]),(60,yM (yR d)),(61,yL d.length),(62,yL w),(69,yM (yW e)),(70,yL e.length),(71,yL G),(99,yM (yV b.thn)),(100,yL b.thn.length),(101,yL i)] [.box 91 [.c (.int .i64 0),.nil 144 3],.row 71 2 (A0 Zq v1.1) 0,.box 91 [.c (.int .i64 ((v1.1.length:Nat):Int)),.row 3],.row 144 3 (A0 ZL A) 2,.row 153 2 (A0 Zgg B) 1,yY 104 (ZG b),yY 118 (YE l),.row 71 2 (A0 Zq m) 2] st) [] [0,1,2,3,4,5,6,7] yF yD ?_ ?_
 rintro _ _ ⟨A,B⟩ ⟨sl,ob,n⟩ _ C K ai h _
 simp only[go_sem,seval,Zc] at K
 obtain ⟨⟨_,_,_,_,_,_,_,_,_,_,_,_,_,aj,_,_⟩,_,_,_,_,_,_,_,_,hn⟩:=K
 subst hn
 have ak:=WF.slotL ai aj (j:=0) rfl
 have:=ZB C
 have:=ZC C
 have:=Zj (ZA C) ak
 simp only[*,go_sem,seval]
 refine Za h fun _ al h=>Zb (ZdP al)<|yA ?_
 refine Za h fun _ am h=>Zb (ZbG am)<|yA ?_
 refine Za h fun _ an h=>Zb (ZhC an)<|yA ?_
 refine Za h fun _ ao h=>Zb (ZhC ao)<|yA ?_
 refine Za h fun _ ap h=>Zb (Zkz ap)<|yA ?_
 refine yB h (fun _ h=>?_) fun _ h=>?_
 exact yC h [] [0,1,2,3,4,5,6,7]
 obtain ⟨aq,h⟩:=Zs h
 try simp only[Nat.reduceLeDiff] at aq
 obtain ⟨ar,h⟩:=Zs h
 try simp only[Nat.reduceLeDiff] at ar
 simp only[*,go_sem,seval]
 exact yC h [] [0,1,2,616,776,5,6,7]
 rintro ⟨A,B⟩ ⟨sl,ob,n⟩ L _ h
 simp only[go_sem,seval,Zc] at L
 obtain ⟨⟨_,_,_,_,_,_,_,_,_,_,_,_,_,_,_,_⟩,_,_,_,_,_,_,_,_,hn⟩:=L
 subst hn
 have:=Zz (b.thn.length)
 simp only[*,go_sem,seval]
 exact yC h [] [0,1,2,3,4,5]
 rintro ⟨g,k⟩ ⟨sl,ob,n⟩ M _ h
 simp only[go_sem,seval,Zc] at M
 obtain ⟨⟨_,_,_,_,_,_,_,_,_,_,_⟩,_,_,_,_,_,_,hn⟩:=M
 subst hn
 have:=Zz (e.length)
 simp only[*,go_sem,seval]
 exact yC h [] [0,1,2,3,4]
 rintro ⟨u,v⟩ ⟨sl,ob,n⟩ N _ h
 simp only[go_sem,seval,Zc] at N
 obtain ⟨⟨_,_,_,_,_,_,_⟩,_,_,_,_,_,hn⟩:=N
 subst hn
 have:=Zz (d.length)
 simp only[*,go_sem,seval]
 refine yB h (fun _ h=>?_) fun _ h=>?_
 iterate 3 (cases h;exact yD)
end
section
theorem ZgQ {l_0:(List Zr)} {facts_1:(List Zd)} {r:(List Zt)} (h:Zai l_0 facts_1=some r):Zl prog J0 114 [(false,[.sl 60 5 (A0 ZK l_0)]),(false,[.sl 71 2 (A0 Zq facts_1)])] [(false,[(false,.sl 118 2 (A0 YE r))])]:=by
 refine fnk func114 rfl ?_
 unfold Zai at h
 simp only[fnS,f114,Zm,go_sem,seval]
 refine Zh h (fun i a st=>IV [(0,yM (yS l_0)),(1,yM (yO facts_1)),(5,.p false [.row 0]),(6,yL i)] [.row 118 2 (A0 YE a) 2] st) [] [32] yF yD ?_ ?_
 rintro _ _ a ⟨sl,ob,n⟩ _ b d f h _
 simp only[go_sem,seval,Zc] at d
 obtain ⟨⟨g,_,_,_⟩,_,hn⟩:=d
 subst hn
 have k:=WF.slotL f g (j:=0) rfl
 have:=ZB b
 have:=ZC b
 have:=Zj (ZA b) k
 simp only[*,go_sem,seval]
 refine Za h fun _ l h=>Zb (Zpg l)<|yA ?_
 exact yC h [] [161]
 rintro a ⟨sl,ob,n⟩ e _ h
 simp only[go_sem,seval,Zc] at e
 obtain ⟨⟨_,_,_,_⟩,_,hn⟩:=e
 subst hn
 have:=Zz (l_0.length)
 cases h;exact yD
end
section
open Go.RowKit
theorem ZHH:(prog.info? 3).map (fun i=>(i.zero,i.size,i.bytes))=some (some (.int .i64 0),1,8):=by kernel_rfl
theorem ZFE (w:World):∀l:List Int,Zqc.reps w (l.map (Value.int .i64)) l []
 | []=>⟨rfl,rfl⟩
 | x::l=>⟨[.int .i64 x],l.map (Value.int .i64),[],[],rfl,rfl,⟨rfl,rfl⟩,ZFE w l⟩
theorem ZGu {w:World} {base:Nat} {v:Value} {l:List Int} (h:w.ownsRow base 3 1 v l.length (l.map (Value.int .i64))):∃A c L,v=.slice A l.length c∧(ZfI Zqc).rep w [.slice A l.length c] l L:=by
 have h1:=Zht h
 obtain ⟨A,c,rfl,hn,hm⟩:=ZcS h1
 obtain ⟨L,hs,_,_⟩:=Sl.of_ownV h1
 exact ⟨A,c,L++[],rfl,A,c,rfl,hn,hm,_,L,[],rfl,hs,ZFE w l⟩
theorem ZDS {w w':World} {base:Nat} {v:Value} {n:Nat} {xs:List Value} (h:w.ownsRow base 3 1 v n xs) (hb:Below w.heap.size w w'):w'.ownsRow base 3 1 v n xs:=
 h.kept (row:=none) ⟨hb.os,hb.tape,hb.output,hb.size,fun q hq _=>hb.block q hq⟩ (by cases v.ownBlock<;>simp)
theorem ZDI {w w':World} (hb:Below w.heap.size w w') (o:Option Nat):w.grownBy w' o:=⟨hb.os,hb.tape,hb.output,hb.size,fun q hq _=>hb.block q hq⟩
theorem ZEe {B:Nat} {w0 w w':World} {o:Option Nat} (h:Below B w0 w) (g:w.grownBy w' o) (hB:B≤w.heap.size) (ho:∀q,o=some q→B≤q):Below B w0 w':=
 ⟨g.os.trans h.os,g.tape.trans h.tape,g.output.trans h.output,A4 h.size g.size,fun q hq=>(g.block q yE (fun e=>by have:=ho q e.symm;omega)).trans (h.block q hq)⟩
theorem ZDZ {w w1 w2:World} {v v1:Value} (h:w.grownBy w1 v.ownBlock) (k:w1.grownBy w2 v1.ownBlock) (hb:∀g,v1.ownBlock=some g→v.ownBlock=some g∨w.heap.size≤g):w.grownBy w2 v.ownBlock:=
 ⟨k.os.trans h.os,k.tape.trans h.tape,k.output.trans h.output,A4 h.size k.size,fun q hq a=>(k.block q (Nat.lt_of_lt_of_le hq h.size) (fun e=>by
  rcases hb q e.symm with h1 | h1
  ·exact a h1.symm
  ·omega)).trans (h.block q hq a)⟩
def ZIy (w0 w:World) (v:Value) (r:List Int):Ending→World→Prop:=fun e w'=>∃v',e=.returned v'∧w'.ownsRow w0.heap.size 3 1 v' r.length (r.map (Value.int .i64))∧w.grownBy w' v.ownBlock∧∀g,v'.ownBlock=some g→v.ownBlock=some g∨w.heap.size≤g
structure ZEV (w0 ws:World) (v:Value) (lk:List Int) (vl:Value) (wr:World):Prop where
 row:wr.ownsRow w0.heap.size 3 1 vl lk.length (lk.map (Value.int .i64))
 grown:ws.grownBy wr v.ownBlock
 blk:∀g,vl.ownBlock=some g→v.ownBlock=some g∨ws.heap.size≤g
theorem ZGA {w:World} {cs:List Value} {b:Zu} {L:List Nat} (hb:ZoR.rep w cs b L) {k:Nat} {q:Zg} (hq:b.reasons[k]?=some q):∃A1 c1 bb off Ai ci Li,cs=[.int .i64 b.nodes,.slice A1 b.reasons.length c1]∧A1=some ⟨bb,off,none⟩∧bb<w.heap.size∧w.cell? ⟨bb,off+k * 3+1,none⟩=some (.slice Ai q.inn.length ci)∧q.inn.length≤9223372036854775807∧Sli Zqc w Ai q.inn Li:=by
 obtain ⟨A1,c1,L1,e1,e2,n1,m1,s1⟩:=hb
 subst e1 e2
 obtain ⟨c,d⟩:=A9.1 hq
 obtain ⟨bb,off,cs,Lk,e3,e,hLk,a,hc⟩:=s1.at_ c
 rw [d] at a
 obtain ⟨Ai,ci,Li,Ao,co,Lo,e4,e5,ni,mi,si,no,mo,so⟩:=a
 subst e4
 exact ⟨A1,c1,bb,off,Ai,ci,Li,rfl,e3,s1.lt _ e,hc 1 _ rfl,A4 ni (by unfold maxLen at mi;omega),si⟩
theorem ZFj {b:Zu} {rd:List Int} {w0:World} (hj:J0 w0) {cs:List Value} {Lb:List Nat} (hb:ZoR.rep w0 cs b Lb):∀(n:Nat) (x:Int) (l r:List Int),ZDY (ZDN b rd) ZfM b n x l=some r→∀(w:World) (v:Value) (A:Option Addr) (c:Nat) (Lr:List Nat),Below w0.heap.size w0 w→(ZfI Zqc).rep w [.slice A rd.length c] rd Lr→w.ownsRow w0.heap.size 3 1 v l.length (l.map (Value.int .i64))→(∀g,v.ownBlock=some g→g∉Lr)→
  Calls prog 177 #[.agg cs.toArray,.slice A rd.length c,.int .i64 x,v] w (ZIy w0 w v r)
 | 0,x,l,r,h,_,_,_,_,_,_,_,_,_=>by cases h
 | n+1,x,l,r,h,w,v,A,c,Lr,hB,J,hv,hf=>by
  rw [ZDY] at h
  cases hs:ZDN b rd x with
  | none=>rw [hs] at h;cases h
  | some s=>
   rw [hs,A7] at h
   have X:∃A1 c1,cs=[.int .i64 b.nodes,.slice A1 b.reasons.length c1]:=by
    obtain ⟨A1,c1,L1,e1,_⟩:=hb
    exact ⟨A1,c1,e1⟩
   obtain ⟨A1,c1,rfl⟩:=X
   have IH:=ZFj (rd:=rd) hj hb n
   obtain ⟨nr,C⟩:∃nr,b.reasons.length=nr:=⟨_,rfl⟩
   obtain ⟨nd,D⟩:∃nd,rd.length=nd:=⟨_,rfl⟩
   have HND:Hid (rd.length=nd):=D
   have HNR:Hid (b.reasons.length=nr):=C
   rw [C] at hb
   rw [C,D] at IH
   rw [D] at J
   rw [C,D]
   have F:=Zp8 (Zht hv)
   have G:=ZFp hv
   have HJ:=Lib.hid hj
   have HB:=Lib.hid hB
   have HRD:=Lib.hid J
   have HV:=Lib.hid hv
   have HF:Hid (∀g,v.ownBlock=some g→g∉Lr):=hf
   have HVL:Hid (∀g,v.ownBlock=some g→g<w.heap.size∧w0.heap.size≤g):=fun g hg=>⟨F g (by simp [hg]),G g hg⟩
   have HBE:=Lib.hid hb
   have HS:Hid (ZDN b rd x=some s):=hs
   have HH:=Lib.hid h
   have HI:=Lib.hid IH
   clear hj hB J hv hf hb hs h IH F G C D
   go_enter func177,ntmps177
   go_wp2_with fail
   obtain ⟨w1,E⟩:∃w1,w1=w.alloc (.cells #[.int .i64 b.nodes,.slice A1 nr c1] 91):=⟨_,rfl⟩
   have BW:Hid (Below w.heap.size w w1):=by rw [E];exact (Below.refl _ w).alloc (A8 _) _
   have HSZ:Hid (w1.heap.size=w.heap.size+1):=by rw [E];show _=_;simp
   have B1:Hid (Below w0.heap.size w0 w1):=HB.out.trans (BW.out.mono HB.out.size)
   have K0:Hid (Blk w1 w.heap.size 91 #[.int .i64 b.nodes,.slice A1 nr c1]):=by rw [E];exact Blk.new _ _ _
   rw [←E]
   clear E
   have R1:Hid ((ZfI Zqc).rep w1 [.slice A nd c] rd Lr):=(ZfI Zqc).keep HRD.out (ZCW BW.out (fun y m=>(ZfI Zqc).lt HRD.out y m))
   refine (Zl.givesI (ZGZ HS.out) (ZDP hJ0 HJ.out B1.out) (vs:=[_,_,_]) ⟨ZEU Zqn (ZoR.keep HBE.out (ZCW B1.out (fun y m=>ZoR.lt HBE.out y m))),ZzU Zng 3 R1.out,ZFT _ _,trivial⟩).mono ?_
   rintro e w2 ⟨rfl,N⟩
   have W2:Hid (Below w1.heap.size w1 w2):=N
   clear N
   by_cases H:s<0
   ·obtain rfl:l=r:=by
     have:=HH.out
     rw [if_pos (decide_eq_true H)] at this
     exact A3 this
    have W:Hid (Below w.heap.size w w2):=BW.out.trans (W2.out.mono BW.out.size)
    go_wp2
    go_ret
    exact ⟨v,rfl,ZDS HV.out W.out,ZDI W.out _,fun g h=>.inl h⟩
   ·have h1:=HH.out
    rw [if_neg (by simpa using H)] at h1
    cases hh:ZfM l s with
    | none=>rw [hh] at h1;cases h1
    | some hm=>
     rw [hh,A7] at h1
     have HM:Hid (ZfM l s=some hm):=hh
     have H1:=Lib.hid h1
     obtain ⟨Av,cv,Lv,Y,O⟩:=ZGu (ZDS HV.out (BW.out.trans (W2.out.mono BW.out.size)))
     subst Y
     have HVR:=Lib.hid O
     clear hh h1 O HH
     go_wp2_with fail
     refine (Zl.givesB (Zph HM.out) (ZDP hJ0 HJ.out (B1.out.trans (W2.out.mono B1.out.size))) (vs:=[_,_]) ⟨ZzU Zng _ HVR.out,ZFT _ _,trivial⟩).mono ?_
     rintro e w3 ⟨rfl,P⟩
     have W3:Hid (Below w1.heap.size w1 w3):=W2.out.trans (P.mono W2.out.size)
     clear P W2 HVR
     cases hm with
     | true=>
      obtain rfl:l=r:=by
       have:=H1.out
       rw [if_pos rfl] at this
       exact A3 this
      have W:Hid (Below w.heap.size w w3):=BW.out.trans (W3.out.mono BW.out.size)
      go_wp2
      go_ret
      exact ⟨_,rfl,ZDS HV.out W.out,ZDI W.out _,fun g h=>.inl h⟩
     | false=>
      have h1:=H1.out
      rw [if_neg yG] at h1
      obtain ⟨k,hk⟩:∃k:Nat,s=k:=⟨s.toNat,yE⟩
      subst hk
      rw [A6] at h1
      obtain ⟨q,hq,h1⟩:=A5.1 h1
      obtain ⟨t,ht,h1⟩:=A5.1 h1
      by_cases Q:t.length<1048576
      ·rw [if_pos Q] at h1
       obtain rfl:=A3 h1
       have hkn:k<nr:=by have:=(A9.1 hq).1;have:=HNR.out;omega
       have K:=HBE.out
       rw [←HNR.out] at K
       obtain ⟨A1',Z,bb,off,Ai,ci,Li,e1,e2,aa,d,ab,R⟩:=ZGA K hq
       obtain ⟨rfl,rfl⟩:A1=A1'∧c1=Z:=by simpa using e1
       subst e2
       have HSL:=Lib.hid R
       have HT:=Lib.hid ht
       obtain ⟨pi,L⟩:∃pi,q.inn.length=pi:=⟨_,rfl⟩
       have HPI:Hid (q.inn.length=pi):=L
       rw [L] at d ab
       have W03:Hid (Below w0.heap.size w0 w3):=B1.out.trans (W3.out.mono B1.out.size)
       have p1:w3.cell? ⟨bb,off+k * 3+1,none⟩=some (.slice Ai pi ci):=(W03.out.cell (p:=⟨bb,off+k * 3+1,none⟩) aa).trans d
       have pk:w3.cell? ⟨w.heap.size,1,none⟩=some (.slice (some ⟨bb,off,none⟩) nr c1):=(K0.out.later W3.out).at rfl
       clear h1 e1 L R ht d K H1 HM HS hq
       go_wp2
       clear p1 pk
       have z:Hid (∃lk,goO (ZDY (ZDN b rd) ZfM b n) (q.inn.drop 0) lk=some t∧ZEV w0 w1 (.slice Av l.length cv) lk (.slice Av l.length cv) w3):=⟨l,HT.out,ZDS HV.out (BW.out.trans (W3.out.mono BW.out.size)),ZDI W3.out _,fun g h=>.inl h⟩
       go_loopw [3,31] (fun vl i wr=>∃(j:Nat),j≤pi∧i=.int .i64 j∧Hid (∃lk,goO (ZDY (ZDN b rd) ZfM b n) (q.inn.drop j) lk=some t∧ZEV w0 w1 (.slice Av l.length cv) lk vl wr)) (fun _ i _=>pi - (intOf i).toNat)
       case atStart=>exact ⟨0,Nat.zero_le _,rfl,z⟩
       case round=>
        clear z
        obtain ⟨j,hj,rfl,HR⟩:=hrel
        obtain ⟨lk,B,z⟩:=HR.out
        have HST:=Lib.hid z
        have HBK:Hid (Below w0.heap.size w0 wr):=ZEe B1.out z.grown (B1.out.size) (fun g hg=>(HVL.out g hg).2)
        clear HR z
        by_cases hjp:j<pi
        ·have S:j<q.inn.length:=by have:=HPI.out;omega
         obtain ⟨bi,oi,cs2,Lk2,rfl,T,_,M,U⟩:=HSL.out.at_ S
         obtain ⟨e3,_⟩:=M
         subst e3
         obtain ⟨y,hy⟩:∃y,q.inn[j]=y:=⟨_,rfl⟩
         rw [AA S,hy,goO] at B
         obtain ⟨u,hu,I⟩:=A5.1 B
         have HU:=Lib.hid hu
         have HGO:=Lib.hid I
         have p3:wr.cell? ⟨bi,oi+j,none⟩=some (.int .i64 y):=by
          have h:=U 0 _ rfl
          rw [show oi+(j * Zqc.size+0)=oi+j from by show oi+(j * 1+0)=_;omega,hy] at h
          exact (HBK.out.cell (p:=⟨bi,oi+j,none⟩) (HSL.out.lt _ T)).trans h
         have KB:Hid (Blk wr w.heap.size 91 #[.int .i64 b.nodes,.slice (some ⟨bb,off,none⟩) nr c1]):=(HST.out.grown.block _ (by have:=HSZ.out;omega) (fun e=>by have:=(HVL.out _ e.symm).1;omega)).trans K0.out
         have b0:wr.cell? ⟨w.heap.size,0,none⟩=some (.int .i64 b.nodes):=KB.out.at rfl
         have b1:wr.cell? ⟨w.heap.size,1,none⟩=some (.slice (some ⟨bb,off,none⟩) nr c1):=KB.out.at rfl
         clear U hy B hu I
         go_wp2_with fail
         have HRW:Hid ((ZfI Zqc).rep wr [.slice A nd c] rd Lr):=(ZfI Zqc).keep HRD.out (fun q m=>(HST.out.grown.block q (by have:=(ZfI Zqc).lt HRD.out q m;have:=HSZ.out;omega) (fun e=>HF.out q e.symm m)).trans (BW.out.block q ((ZfI Zqc).lt HRD.out q m)))
         refine (HI.out y lk u HU.out wr _ A c Lr HBK.out HRW.out HST.out.row (fun g hg m=>?_)).mono ?_
         ·rcases HST.out.blk g hg with h | h
          ·exact HF.out g h m
          ·have:=(ZfI Zqc).lt HRD.out g m
           have:=HSZ.out
           omega
         ·rintro e w4 ⟨v',rfl,f,a,o⟩
          have HN:Hid (ZEV w0 w1 (.slice Av l.length cv) u v' w4):=⟨f,ZDZ HST.out.grown a HST.out.blk,fun g hg=>(o g hg).elim (fun h=>HST.out.blk g h) (fun h=>.inr (A4 HST.out.grown.size h))⟩
          clear f a o
          go_wp2
          exact ⟨⟨j+1,yE,yG,u,HGO.out,HN.out⟩,by simp [intOf];omega⟩
        ·have V:q.inn.drop j=[]:=AB (by have:=HPI.out;omega)
         rw [V,goO] at B
         obtain rfl:=A3 B
         have HVL2:Hid (w0.heap.size≤wr.heap.size):=HBK.out.size
         clear V B
         go_wp2_with (at_builtin;(refine ZIb rfl (.tmp 41) (.tmp 43) 84 rfl 3 _ 1 8 underlying84 ZHH rfl yE w0.heap.size u3 lk.length (lk.map (Value.int .i64)) [.int .i64 ((k:Nat):Int)] rfl rfl HST.out.row rfl (by intro u hu;simp only[AC] at hu;subst hu;rfl) yE yE HVL2.out ?_);intro v' w' f a o)
         go_ret
         refine ⟨v',rfl,by rw [AD,AE];exact f,?_,fun g hg=>?_⟩
         ·exact ZDZ (v:=.slice Av l.length cv) (v1:=.slice Av l.length cv) (ZDI BW.out _) (ZDZ HST.out.grown a HST.out.blk) (fun g hg=>.inl hg)
         ·rcases o g hg with h | h
          ·rcases HST.out.blk g h with h | h
           ·exact .inl h
           ·exact .inr (A4 BW.out.size h)
          ·exact .inr (A4 BW.out.size (A4 HST.out.grown.size h))
      ·rw [if_neg Q] at h1;cases h1
theorem ZHK {w:World} {base:Nat} {e:TypeId} {size n:Nat} {v:Value} {xs:List Value} (h:w.ownsRow base e size v n xs):Own w base v.ownBlock.toList:=by
 rcases h.2 with ⟨h0,_⟩ | ⟨g,cap,a,hv,hg,hc,_⟩
 ·subst h0;exact Own.nil w base
 ·subst hv;exact ⟨by simp [Value.ownBlock],by simpa [Value.ownBlock] using hg,by simpa [Value.ownBlock] using ⟨a,e,hc⟩⟩
theorem ZGO {w0 w:World} {v:Value} {r:List Int} (h:w.ownsRow w0.heap.size 3 1 v r.length (r.map (Value.int .i64))) (hB:Below w0.heap.size w0 w):ZGN Zqc 3 w0 v r w:=
 ⟨⟨_,[],Zht h,ZFE w r,by rw [List.append_nil];exact ZHK h⟩,hB⟩
set_option maxRecDepth 1000000 in
set_option maxHeartbeats 8000000 in
theorem ZE8 {b:Zu} {x:Int} {r:List Int} (h:ZDD b x=some r) (w:World) (cs:List Value) (L:List Nat) (hj:J0 w) (hb:ZoR.rep w cs b L):Calls prog 102 #[.agg cs.toArray,.int .i64 x] w (ZEC Zqc 3 w r):=by
 unfold ZDD at h
 obtain ⟨ok,hok,h⟩:=A5.1 h
 have hcs:∃A1 c1,cs=[.int .i64 b.nodes,.slice A1 b.reasons.length c1]:=by
  obtain ⟨A1,c1,L1,e1,_⟩:=hb
  exact ⟨A1,c1,e1⟩
 obtain ⟨A1,c1,rfl⟩:=hcs
 obtain ⟨nr,hnr⟩:∃nr,b.reasons.length=nr:=⟨_,rfl⟩
 have HNR:Hid (b.reasons.length=nr):=hnr
 rw [hnr] at hb
 rw [hnr]
 have HJ:=Lib.hid hj
 have HBE:=Lib.hid hb
 have HOK:Hid (XI b=some ok):=hok
 have HH:=Lib.hid h
 clear hj hb hok h hnr
 go_enter func102,ntmps102
 go_wp2_with fail
 obtain ⟨w1,hw1⟩:∃w1,w1=w.alloc (.cells #[.int .i64 b.nodes,.slice A1 nr c1] 91):=⟨_,rfl⟩
 have BW:Hid (Below w.heap.size w w1):=by rw [hw1];exact (Below.refl _ w).alloc (A8 _) _
 have K0:Hid (Blk w1 w.heap.size 91 #[.int .i64 b.nodes,.slice A1 nr c1]):=by rw [hw1];exact Blk.new _ _ _
 rw [←hw1]
 clear hw1
 refine (Zl.givesB (ZdB HOK.out) (ZDP hJ0 HJ.out BW.out) (vs:=[_]) ⟨ZEU Zqn (ZoR.keep HBE.out (ZCW BW.out (fun y m=>ZoR.lt HBE.out y m))),trivial⟩).mono ?_
 rintro e w2 ⟨rfl,hb2⟩
 have K2:Hid (Blk w2 w.heap.size 91 #[.int .i64 b.nodes,.slice A1 nr c1]):=K0.out.later hb2
 have W2:Hid (Below w.heap.size w w2):=BW.out.trans (hb2.mono BW.out.size)
 clear hb2 K0 BW
 cases ok with
 | false=>
  obtain rfl:[]=r:=by
   have:=HH.out
   rw [if_neg (by simp)] at this
   exact A3 this
  go_wp2
  go_ret
  exact ⟨_,rfl,ZGO (r:=[]) (World.ownsRow_nil _ _ _ _) W2.out⟩
 | true=>
  have h1:=HH.out
  rw [if_pos rfl] at h1
  obtain ⟨rd,hrd,h1⟩:=A5.1 h1
  have HRD:Hid (ZfP b=some rd):=hrd
  have H1:=Lib.hid h1
  have b0:w2.cell? ⟨w.heap.size,0,none⟩=some (.int .i64 b.nodes):=K2.out.at rfl
  have b1:w2.cell? ⟨w.heap.size,1,none⟩=some (.slice A1 nr c1):=K2.out.at rfl
  clear h1 hrd HH
  have JD:Hid (J0 w2.drew):=ZDP hJ0 HJ.out W2.out.drew
  have BD:Hid (ZoR.rep w2.drew [.int .i64 b.nodes,.slice A1 nr c1] b L):=ZoR.keep HBE.out (ZCW W2.out.drew (fun y m=>ZoR.lt HBE.out y m))
  go_wp2_with fail
  go_region_held3 (fun W=>W.cell? ⟨w.heap.size,0,none⟩=some (.int .i64 b.nodes)∧W.cell? ⟨w.heap.size,1,none⟩=some (.slice A1 nr c1)) (first | exact ⟨b0,b1⟩ | exact ⟨d0,d1⟩ | exact ⟨f0,f1⟩) (first | (go_at_call 178;refine (Zl.givesS (c:=Zqc) (g:=Z5) (t:=3) (ds:=rd) (Zpp HRD.out) Zng JD.out (vs:=[_]) ⟨ZEU Zqn BD.out,trivial⟩).mono ?_;rintro e w3 ⟨v3,rfl,hA⟩;obtain ⟨An,cap,rfl⟩:=hA.shape;obtain ⟨LA,hG⟩:=hA.got;have HGR:=Lib.hid hG.rep;have W3:Hid (Below w.heap.size w w3):=W2.out.drew.trans (hA.below.mono W2.out.size);have K3:Hid (Blk w3 w.heap.size 91 #[.int .i64 b.nodes,.slice A1 nr c1]):=Blk.later (w:=w2.drew) K2.out hA.below;have d0:w3.cell? ⟨w.heap.size,0,none⟩=some (.int .i64 b.nodes):=K3.out.at rfl;have d1:w3.cell? ⟨w.heap.size,1,none⟩=some (.slice A1 nr c1):=K3.out.at rfl;clear hA hG) | (go_at_call 177;refine (ZFj HJ.out HBE.out _ x [] r H1.out w3 (.slice none 0 0) An cap LA W3.out HGR.out (World.ownsRow_nil _ _ _ _) (by simp [Value.ownBlock])).mono ?_;rintro e w4 ⟨v4,rfl,hown,hgrow,hblk⟩;have HO4:=Lib.hid hown;have W4:Hid (Below w.heap.size w w4):=ZEe W3.out hgrow W3.out.size (by simp [Value.ownBlock]);have K4:Hid (Blk w4 w.heap.size 91 #[.int .i64 b.nodes,.slice A1 nr c1]):=(hgrow.block _ K3.out.lt (by simp [Value.ownBlock])).trans K3.out;have f0:w4.cell? ⟨w.heap.size,0,none⟩=some (.int .i64 b.nodes):=K4.out.at rfl;have f1:w4.cell? ⟨w.heap.size,1,none⟩=some (.slice A1 nr c1):=K4.out.at rfl;clear hown hgrow hblk))
  go_wp2
  go_ret
  exact ⟨_,rfl,ZGO HO4.out W4.out⟩
set_option maxRecDepth 1000000 in
set_option maxHeartbeats 8000000 in
theorem ZFw {b:Zu} {w0:World} (hj:J0 w0) {cs:List Value} {Lb:List Nat} (hb:ZoR.rep w0 cs b Lb):∀(n:Nat) (x:Int) (l r:List Int),ZDY (ZDr b) ZEh b n x l=some r→∀(w:World) (v:Value),Below w0.heap.size w0 w→w.ownsRow w0.heap.size 3 1 v l.length (l.map (Value.int .i64))→
  Calls prog 170 #[.agg cs.toArray,.int .i64 x,v] w (ZIy w0 w v r)
 | 0,x,l,r,h,_,_,_,_=>by cases h
 | n+1,x,l,r,h,w,v,hB,hv=>by
  rw [ZDY] at h
  cases hs:ZDr b x with
  | none=>rw [hs] at h;cases h
  | some s=>
   rw [hs,A7] at h
   have hcs:∃A1 c1,cs=[.int .i64 b.nodes,.slice A1 b.reasons.length c1]:=by
    obtain ⟨A1,c1,L1,e1,_⟩:=hb
    exact ⟨A1,c1,e1⟩
   obtain ⟨A1,c1,rfl⟩:=hcs
   have IH:=ZFw hj hb n
   obtain ⟨nr,hnr⟩:∃nr,b.reasons.length=nr:=⟨_,rfl⟩
   have HNR:Hid (b.reasons.length=nr):=hnr
   rw [hnr] at hb
   rw [hnr] at IH
   rw [hnr]
   have hvlt:=Zp8 (Zht hv)
   have hvge:=ZFp hv
   have HJ:=Lib.hid hj
   have HB:=Lib.hid hB
   have HV:=Lib.hid hv
   have HVL:Hid (∀g,v.ownBlock=some g→g<w.heap.size∧w0.heap.size≤g):=fun g hg=>⟨hvlt g (by simp [hg]),hvge g hg⟩
   have HBE:=Lib.hid hb
   have HS:Hid (ZDr b x=some s):=hs
   have HH:=Lib.hid h
   have HI:=Lib.hid IH
   clear hj hB hv hb hs h IH hvlt hvge hnr
   go_enter func170,ntmps170
   go_wp2_with fail
   obtain ⟨w1,hw1⟩:∃w1,w1=w.alloc (.cells #[.int .i64 b.nodes,.slice A1 nr c1] 91):=⟨_,rfl⟩
   have BW:Hid (Below w.heap.size w w1):=by rw [hw1];exact (Below.refl _ w).alloc (A8 _) _
   have HSZ:Hid (w1.heap.size=w.heap.size+1):=by rw [hw1];show _=_;simp
   have B1:Hid (Below w0.heap.size w0 w1):=HB.out.trans (BW.out.mono HB.out.size)
   have K0:Hid (Blk w1 w.heap.size 91 #[.int .i64 b.nodes,.slice A1 nr c1]):=by rw [hw1];exact Blk.new _ _ _
   rw [←hw1]
   clear hw1
   refine (Zl.givesI (ZF9 HS.out) (ZDP hJ0 HJ.out B1.out) (vs:=[_,_]) ⟨ZEU Zqn (ZoR.keep HBE.out (ZCW B1.out (fun y m=>ZoR.lt HBE.out y m))),ZFT _ _,trivial⟩).mono ?_
   rintro e w2 ⟨rfl,hb2⟩
   have W2:Hid (Below w1.heap.size w1 w2):=hb2
   clear hb2
   by_cases hneg:s<0
   ·obtain rfl:l=r:=by
     have:=HH.out
     rw [if_pos (decide_eq_true hneg)] at this
     exact A3 this
    have W:Hid (Below w.heap.size w w2):=BW.out.trans (W2.out.mono BW.out.size)
    go_wp2
    go_ret
    exact ⟨v,rfl,ZDS HV.out W.out,ZDI W.out _,fun g h=>.inl h⟩
   ·have h1:=HH.out
    rw [if_neg (by simpa using hneg)] at h1
    cases hh:ZEh l s with
    | none=>rw [hh] at h1;cases h1
    | some hm=>
     rw [hh,A7] at h1
     have HM:Hid (ZEh l s=some hm):=hh
     have H1:=Lib.hid h1
     obtain ⟨Av,cv,Lv,hv2,hvr⟩:=ZGu (ZDS HV.out (BW.out.trans (W2.out.mono BW.out.size)))
     subst hv2
     have HVR:=Lib.hid hvr
     clear hh h1 hvr HH
     go_wp2_with fail
     refine (Zl.givesB (ZH3 HM.out) (ZDP hJ0 HJ.out (B1.out.trans (W2.out.mono B1.out.size))) (vs:=[_,_]) ⟨ZzU Zng _ HVR.out,ZFT _ _,trivial⟩).mono ?_
     rintro e w3 ⟨rfl,hb3⟩
     have W3:Hid (Below w1.heap.size w1 w3):=W2.out.trans (hb3.mono W2.out.size)
     clear hb3 W2 HVR
     cases hm with
     | true=>
      obtain rfl:l=r:=by
       have:=H1.out
       rw [if_pos rfl] at this
       exact A3 this
      have W:Hid (Below w.heap.size w w3):=BW.out.trans (W3.out.mono BW.out.size)
      go_wp2
      go_ret
      exact ⟨_,rfl,ZDS HV.out W.out,ZDI W.out _,fun g h=>.inl h⟩
     | false=>
      have h1:=H1.out
      rw [if_neg (by simp)] at h1
      obtain ⟨k,hk⟩:∃k:Nat,s=k:=⟨s.toNat,by omega⟩
      subst hk
      rw [A6] at h1
      obtain ⟨q,hq,h1⟩:=A5.1 h1
      obtain ⟨t,ht,h1⟩:=A5.1 h1
      by_cases hlt:t.length<1048576
      ·rw [if_pos hlt] at h1
       obtain rfl:=A3 h1
       have hkn:k<nr:=by have:=(A9.1 hq).1;have:=HNR.out;omega
       have hbe:=HBE.out
       rw [←HNR.out] at hbe
       obtain ⟨A1',c1',bb,off,Ai,ci,Li,e1,e2,hbb,hcell,hin,hsl⟩:=ZGA hbe hq
       obtain ⟨rfl,rfl⟩:A1=A1'∧c1=c1':=by simpa using e1
       subst e2
       have HSL:=Lib.hid hsl
       have HT:=Lib.hid ht
       have HBB:=Lib.hid hbb
       obtain ⟨pi,hpi⟩:∃pi,q.inn.length=pi:=⟨_,rfl⟩
       have HPI:Hid (q.inn.length=pi):=hpi
       rw [hpi] at hcell hin
       have HC:=Lib.hid hcell
       clear h1 e1 hpi hsl ht hcell hbe H1 HM HS hq hbb
       go_wp2
       have hst:Hid (∃lk,goO (ZDY (ZDr b) ZEh b n) (q.inn.drop 0) lk=some t∧ZEV w0 w1 (.slice Av l.length cv) lk (.slice Av l.length cv) w3):=⟨l,HT.out,ZDS HV.out (BW.out.trans (W3.out.mono BW.out.size)),ZDI W3.out _,fun g h=>.inl h⟩
       go_loopw [2,8] (fun vl i wr=>∃(j:Nat),j≤pi∧i=.int .i64 j∧Hid (∃lk,goO (ZDY (ZDr b) ZEh b n) (q.inn.drop j) lk=some t∧ZEV w0 w1 (.slice Av l.length cv) lk vl wr)) (fun _ i _=>pi - (intOf i).toNat)
       case atStart=>exact ⟨0,Nat.zero_le _,rfl,hst⟩
       case round=>
        clear hst
        obtain ⟨j,hj,rfl,HR⟩:=hrel
        obtain ⟨lk,hgo,hst⟩:=HR.out
        have HST:=Lib.hid hst
        have HBK:Hid (Below w0.heap.size w0 wr):=ZEe B1.out hst.grown (B1.out.size) (fun g hg=>(HVL.out g hg).2)
        have KB:Hid (Blk wr w.heap.size 91 #[.int .i64 b.nodes,.slice (some ⟨bb,off,none⟩) nr c1]):=(HST.out.grown.block _ (by have:=HSZ.out;omega) (fun e=>by have:=(HVL.out _ e.symm).1;omega)).trans K0.out
        have b0:wr.cell? ⟨w.heap.size,0,none⟩=some (.int .i64 b.nodes):=KB.out.at rfl
        have b1:wr.cell? ⟨w.heap.size,1,none⟩=some (.slice (some ⟨bb,off,none⟩) nr c1):=KB.out.at rfl
        have p1:wr.cell? ⟨bb,off+k * 3+1,none⟩=some (.slice Ai pi ci):=(HBK.out.cell (p:=⟨bb,off+k * 3+1,none⟩) HBB.out).trans HC.out
        clear HR hst
        by_cases hjp:j<pi
        ·have hjl:j<q.inn.length:=by have:=HPI.out;omega
         obtain ⟨bi,oi,cs2,Lk2,rfl,hbL2,_,hrep2,hc2⟩:=HSL.out.at_ hjl
         obtain ⟨e3,_⟩:=hrep2
         subst e3
         obtain ⟨y,hy⟩:∃y,q.inn[j]=y:=⟨_,rfl⟩
         rw [AA hjl,hy,goO] at hgo
         obtain ⟨u,hu,hgo2⟩:=A5.1 hgo
         have HU:=Lib.hid hu
         have HGO:=Lib.hid hgo2
         have HBI:Hid (bi<w0.heap.size):=HSL.out.lt _ hbL2
         have p3:wr.cell? ⟨bi,oi+j,none⟩=some (.int .i64 y):=by
          have h:=hc2 0 _ rfl
          rw [show oi+(j * Zqc.size+0)=oi+j from by show oi+(j * 1+0)=_;omega,hy] at h
          exact (HBK.out.cell (p:=⟨bi,oi+j,none⟩) HBI.out).trans h
         clear hc2 hy hgo hu hgo2 hbL2
         go_wp2_with fail
         go_region_held3 (fun W=>W.cell? ⟨w.heap.size,0,none⟩=some (.int .i64 b.nodes)∧W.cell? ⟨w.heap.size,1,none⟩=some (.slice (some ⟨bb,off,none⟩) nr c1)∧W.cell? ⟨bb,off+k * 3+1,none⟩=some (.slice (some ⟨bi,oi,none⟩) pi ci)∧W.cell? ⟨bi,oi+j,none⟩=some (.int .i64 y)) (first | exact ⟨b0,b1,p1,p3⟩ | exact ⟨d0,d1,d2,d3⟩) (first | (go_at_call 170;refine (HI.out y lk u HU.out wr.drew _ HBK.out.drew (ZDS HST.out.row (Below.refl _ _).drew)).mono ?_;rintro e w4 ⟨v',rfl,hown,hgrow,hblk⟩;have HGR:Hid (wr.grownBy w4 u2.ownBlock):=⟨hgrow.os,hgrow.tape,hgrow.output,hgrow.size,hgrow.block⟩;have HN:Hid (ZEV w0 w1 (.slice Av l.length cv) u v' w4):=⟨hown,ZDZ HST.out.grown HGR.out HST.out.blk,fun g hg=>(hblk g hg).elim (fun h=>HST.out.blk g h) (fun h=>.inr (A4 HST.out.grown.size h))⟩;have HB4:Hid (Below w0.heap.size w0 w4):=ZEe B1.out HN.out.grown B1.out.size (fun g hg=>(HVL.out g hg).2);have K4:Hid (Blk w4 w.heap.size 91 #[.int .i64 b.nodes,.slice (some ⟨bb,off,none⟩) nr c1]):=(HN.out.grown.block _ (by have:=HSZ.out;omega) (fun e=>by have:=(HVL.out _ e.symm).1;omega)).trans K0.out;have d0:w4.cell? ⟨w.heap.size,0,none⟩=some (.int .i64 b.nodes):=K4.out.at rfl;have d1:w4.cell? ⟨w.heap.size,1,none⟩=some (.slice (some ⟨bb,off,none⟩) nr c1):=K4.out.at rfl;have d2:w4.cell? ⟨bb,off+k * 3+1,none⟩=some (.slice (some ⟨bi,oi,none⟩) pi ci):=(HB4.out.cell (p:=⟨bb,off+k * 3+1,none⟩) HBB.out).trans HC.out;have d3:w4.cell? ⟨bi,oi+j,none⟩=some (.int .i64 y):=(HB4.out.cell (p:=⟨bi,oi+j,none⟩) HBI.out).trans ((HBK.out.cell (p:=⟨bi,oi+j,none⟩) HBI.out).symm.trans p3);clear hown hgrow hblk))
         go_wp2
         exact ⟨⟨j+1,by omega,by simp,u,HGO.out,HN.out⟩,by simp [intOf];omega⟩
        ·have hje:q.inn.drop j=[]:=AB (by have:=HPI.out;omega)
         rw [hje,goO] at hgo
         obtain rfl:=A3 hgo
         have HVL2:Hid (w0.heap.size≤wr.heap.size):=HBK.out.size
         clear hje hgo
         go_wp2_with (at_builtin;(refine ZIb rfl (.tmp 43) (.tmp 45) 84 rfl 3 _ 1 8 underlying84 ZHH rfl (by omega) w0.heap.size u2 lk.length (lk.map (Value.int .i64)) [.int .i64 ((k:Nat):Int)] rfl rfl HST.out.row rfl (by intro u hu;simp only[AC] at hu;subst hu;rfl) (by omega) (by omega) HVL2.out ?_);intro v' w' hown hgrow hblk)
         go_ret
         refine ⟨v',rfl,by rw [AD,AE];exact hown,?_,fun g hg=>?_⟩
         ·exact ZDZ (v:=.slice Av l.length cv) (v1:=.slice Av l.length cv) (ZDI BW.out _) (ZDZ HST.out.grown hgrow HST.out.blk) (fun g hg=>.inl hg)
         ·rcases hblk g hg with h | h
          ·rcases HST.out.blk g h with h | h
           ·exact .inl h
           ·exact .inr (A4 BW.out.size h)
          ·exact .inr (A4 BW.out.size (A4 HST.out.grown.size h))
      ·rw [if_neg hlt] at h1;cases h1
theorem ZE7 {b:Zu} {x:Int} {r:List Int} (h:ZDF b x=some r) (w:World) (cs:List Value) (L:List Nat) (hj:J0 w) (hb:ZoR.rep w cs b L):Calls prog 97 #[.agg cs.toArray,.int .i64 x] w (ZEC Zqc 3 w r):=by
 unfold ZDF at h
 obtain ⟨rd,_,h⟩:=A5.1 h
 have i:∃A1 c1,cs=[.int .i64 b.nodes,.slice A1 b.reasons.length c1]:=by
  obtain ⟨A1,c1,L1,e1,_⟩:=hb
  exact ⟨A1,c1,e1⟩
 obtain ⟨A1,c1,rfl⟩:=i
 obtain ⟨nr,f⟩:∃nr,b.reasons.length=nr:=⟨_,rfl⟩
 rw [f] at hb
 rw [f]
 have HJ:=Lib.hid hj
 have HBE:=Lib.hid hb
 have HH:=Lib.hid h
 clear hj hb h f
 go_enter func97,ntmps97
 go_wp2_with fail
 obtain ⟨w2,c⟩:∃w2,w2=(w.alloc (.cells #[.int .i64 b.nodes,.slice A1 nr c1] 91)).alloc (.cells #[] 3):=⟨_,rfl⟩
 have B2:Hid (Below w.heap.size w w2):=by rw [c];exact ((Below.refl _ w).alloc (A8 _) _).alloc yG _
 have HO:Hid (w2.ownsRow w.heap.size 3 1 (.slice (some ⟨w.heap.size+1,0,none⟩) 0 0) ([]:List Int).length (([]:List Int).map (Value.int .i64))):=by
  have hg:w2.heap[w.heap.size+1]?=some (.cells #[] 3 (0,0)):=by
   rw [c]
   exact Blk.new_at (w:=w.alloc (.cells #[.int .i64 b.nodes,.slice A1 nr c1] 91)) (t:=3) (cs:=#[]) yG
  exact ⟨yG,.inr ⟨w.heap.size+1,0,#[],rfl,yE,hg,yG,by unfold maxLen;omega,yG,yG⟩⟩
 rw [←c]
 clear c
 refine (ZFw HJ.out HBE.out _ x [] r HH.out w2 _ B2.out HO.out).mono ?_
 rintro e w4 ⟨v4,rfl,d,a,g⟩
 have HO4:=Lib.hid d
 have W4:Hid (Below w.heap.size w w4):=ZEe B2.out a B2.out.size (fun q hq=>by simp [Value.ownBlock] at hq;omega)
 clear d a g
 go_wp2
 go_ret
 exact ⟨_,rfl,ZGO HO4.out W4.out⟩
theorem ZF8 {f:FuncId} {b:Zu} {x:Int} {r:List Int} (hc:ZcX prog f) (h:∀(w:World) (cs:List Value) (L:List Nat),J0 w→ZoR.rep w cs b L→Calls prog f #[.agg cs.toArray,.int .i64 x] w (ZEC Zqc 3 w r)):Zl prog J0 f [(true,Qw b),(false,[.int .i64 x])] [(false,[(false,.sl 3 1 (A0 Z5 r))])]:=by
 refine ⟨hc,fun w z vs hj hz ha=>?_⟩
 cases vs with
 | nil=>exact ha.elim
 | cons v vs=>
  obtain ⟨ha,hr⟩:=ha
  cases vs with
  | nil=>exact hr.elim
  | cons u vs=>
   obtain ⟨hu,hr⟩:=hr
   cases vs with
   | cons _ _=>exact hr.elim
   | nil=>
    rcases ha with ⟨_,cs,L,rfl,hR,_⟩ | ⟨hf,_⟩
    ·rcases hu with ⟨hf,_⟩ | ⟨_,ct,L2,e2,hx,_⟩
     ·simp at hf
     ·obtain rfl:(CT.int .i64 x)=ct:=by simpa using e2
      obtain ⟨rfl,_⟩:=hx
      refine (h w cs L hj (Zqn.of hR)).mono ?_
      rintro e w' ⟨v,rfl,⟨xs,Lp,hown,hreps,hO⟩,hB⟩
      exact ⟨v,fun b=>z b∨b∈v.ownBlock.toList,rfl,⟨[v],v.ownBlock.toList++Lp,⟨v,[],v.ownBlock.toList++Lp,[],rfl,by simp,.inr ⟨rfl,_,rfl,Nat.one_pos,xs,Lp,by rw [List.length_map];exact hown,Zng.reps hreps,rfl,fun b m=>.inr m⟩,rfl,rfl⟩,hO,rfl⟩,fun b h=>.inl h,hB⟩
    ·simp at hf
theorem ZFu {a:Zu} {b:Int} {r:List Int} (h:ZDD a b=some r):Zl prog J0 102 [(true,Qw a),(false,[.int .i64 b])] [(false,[(false,.sl 3 1 (A0 Z5 r))])]:=
 ZF8 ⟨f102,func102,by kernel_rfl,by kernel_rfl⟩ fun w cs L hj hb=>ZE8 h w cs L hj hb
theorem ZFx {a:Zu} {b:Int} {r:List Int} (h:ZDF a b=some r):Zl prog J0 97 [(true,Qw a),(false,[.int .i64 b])] [(false,[(false,.sl 3 1 (A0 Z5 r))])]:=
 ZF8 ⟨f97,func97,by kernel_rfl,by kernel_rfl⟩ fun w cs L hj hb=>ZE7 h w cs L hj hb
end
section
theorem Zg0 {a:(List Zf)} {String_1:(List Zd)} {r:((List Zd) × Bool)} (h:Yg a String_1=some r):Zl prog J0 48 [(false,[.sl 104 4 (A0 ZG a)]),(false,[.sl 71 2 (A0 Zq String_1)])] [(false,[(false,.sl 71 2 (A0 Zq r.1))]),(false,[(false,.bool r.2)])]:=by
 refine fnn 4 func48 rfl ?_
 unfold Yg at h
 simp only[fnN,f48,Zm,go_sem,seval]
 refine Za h fun v1 B h=>Zb (Zju B)<|yA ?_
 refine yB h (fun _ h=>?_) fun _ h=>?_
 refine Za h fun _ C h=>Zb (ZlI C)<|yA ?_
 refine yB h (fun _ h=>?_) fun _ h=>?_
 refine Za h fun _ D h=>Zb (ZdO D)<|yA ?_
 refine XH h (fun s st=>match s with | (b,o)=>IV [(0,yM (yR a)),(6,.p false [.n (yO b)]),(7,yM (.bool o))] [] st) [(false,6,4096)] [] yF yD ?_
 rintro ⟨b,o⟩ ⟨sl,ob,n⟩ _ q _ h t
 simp only[go_sem,seval,Zc] at q
 obtain ⟨⟨_,_,_⟩,hn⟩:=q
 subst hn
 simp only[*,go_sem,seval]
 refine yB h (fun _ h=>?_) fun _ h=>?_
 refine Zh h (fun i e st=>IV [(0,yM (yR a)),(6,.p false [.n (yO e)]),(8,.p false [.n (yO b)]),(9,yL i)] [] st) [] [] yF yD ?_ ?_
 rintro u E e ⟨sl,ob,n⟩ _ d v F h G
 simp only[go_sem,seval,Zc] at v
 obtain ⟨⟨H,_,_,_⟩,hn⟩:=v
 subst hn
 have I:=WF.slotL F H (j:=0) rfl
 have:=ZB d
 have:=ZC d
 have:=Zj (ZA d) I
 simp only[*,go_sem,seval]
 obtain ⟨_,J,h⟩:=ZJ h
 refine ZkJ (Zee J)<|yA ?_
 refine Za h fun f K h=>Zb (ZgQ K)<|yA ?_
 refine Zh h (fun i g st=>IV [(0,yM (yR a)),(6,.p false [.n (yO g)]),(8,.p false [.n (yO b)]),(9,yL u),(10,.p false [.row 0]),(11,yL i)] [.row 118 2 (A0 YE f) 2] st) [] [160] yF yD ?_ ?_
 rintro L _ g ⟨sl,ob,n⟩ _ k w M h _
 simp only[go_sem,seval,Zc] at w
 obtain ⟨⟨_,_,_,_,_,_⟩,N,hn⟩:=w
 subst hn
 have O:=WF.rowL M N
 have:=ZB k
 have:=ZC k
 have:=Zj (ZA k) O
 simp only[*,go_sem,seval]
 refine Zh h (fun i l st=>IV [(0,yM (yR a)),(6,.p false [.n (yO l)]),(8,.p false [.n (yO b)]),(9,yL u),(10,.p false [.row 0]),(11,yL L),(12,yL i)] [.row 118 2 (A0 YE f) 2] st) [] [0] yF yD ?_ ?_
 rintro _ _ l ⟨sl,ob,n⟩ _ m x P h _
 simp only[go_sem,seval,Zc] at x
 obtain ⟨⟨Q,_,_,_,_,_,_⟩,_,hn⟩:=x
 subst hn
 have R:=WF.elL (WF.slotD P Q (j:=0) rfl) d (j:=3) rfl
 have:=ZB m
 have:=ZC m
 have:=Zj (ZA m) R
 simp only[*,go_sem,seval]
 refine Za h fun _ S h=>Zb (ZdM S)<|yA ?_
 refine Za h fun _ T h=>Zb (Zdi T)<|yA ?_
 exact yC h [(false,6,4096)] [0]
 rintro l ⟨sl,ob,n⟩ y _ h
 simp only[go_sem,seval,Zc] at y
 obtain ⟨⟨_,_,_,_,_,_,_⟩,_,hn⟩:=y
 subst hn
 have:=Zz (E.thn.length)
 simp only[*,go_sem,seval]
 exact yC h [] [0]
 rintro g ⟨sl,ob,n⟩ z _ h
 simp only[go_sem,seval,Zc] at z
 obtain ⟨⟨_,_,_,_,_,_⟩,_,hn⟩:=z
 subst hn
 have:=Zz (f.length)
 simp only[*,go_sem,seval]
 refine yB h (fun _ h=>?_) fun _ h=>?_
 replace h:=Zo h G
 replace h:=Zo h t
 cases h;exact yD
 exact yC h [] []
 rintro e ⟨sl,ob,n⟩ A _ h
 simp only[go_sem,seval,Zc] at A
 obtain ⟨⟨_,_,_,_⟩,hn⟩:=A
 subst hn
 have:=Zz (a.length)
 simp only[*,go_sem,seval]
 exact yC h [] []
 replace h:=Zo h t
 iterate 3 (cases h;exact yD)
theorem ZGI {b:(List Zf)} {d:(List Zd)} {w:Zd} {r:((List ZvY) × Bool)} (h:ZDQ b d w=some r):Zl prog J0 41 [(false,[.sl 104 4 (A0 ZG b)]),(false,[.sl 71 2 (A0 Zq d)]),(true,Zq w)] [(false,[(false,.sl 86 4 (A0 ZAO r.1))]),(false,[(false,.bool r.2)])]:=by
 refine ZIH func41 rfl ?_
 unfold ZDQ at h
 simp only[fnS,f41,Zm,go_sem,seval]
 obtain ⟨v1,e1,h⟩:=ZJ h
 refine ZkJ (ZGS e1) ?_
 simp only[*,go_sem,seval]
 refine Ze h (fun c2 h=>?_) (fun c2 h=>?_)<;>try simp only[*,go_sem,seval]
 ·refine Za h fun v2 e3 h=>Zb (ZbG e3) ?_
  simp only[*,go_sem,seval]
  refine Za h fun v3 e4 h=>Zb (ZFu e4) ?_
  simp only[*,go_sem,seval]
  refine Ze h (fun c5 h=>?_) (fun c5 h=>?_)<;>try simp only[*,go_sem,seval]
  ·obtain rfl:=A3 h
   simp only[*,go_sem,seval]
  ·refine Zh h (fun i a st=>IV [(8,.p false [.c (.sl 71 2 (A0 Zq v1.1))]),(9,.bp 0 0),(10,.p false [.c (.sl 153 2 (A0 Zgg v1.2.2.1))]),(13,.p false [.row 2]),(37,.p false [.row 3]),(38,.p false [.c (.int .i64 ((v3.length:Nat):Int))]),(39,.p false [.c (.int .i64 ((i:Nat):Int))])] [.box 91 [.c (.int .i64 v1.2.1.nodes),.row 1],.row 144 3 (A0 ZL v1.2.1.reasons) 2,.row 86 4 (A0 ZAO a) 2,.row 3 1 (A0 Z5 v3) 2] st) [(false,13,0)] [176,80,496,352] yF ?_ ?_ ?_
   ·simp only[*,go_sem,seval]
   ·rintro A x55 a ⟨sl,ob,n⟩ y6 u x B h hy6
    simp only[go_sem,seval,Zc] at x
    obtain ⟨⟨g10_8,g10_9,g10_10,g10_13,g10_37,g10_38,g10_39⟩,og10_0,og10_1,og10_2,g,hn⟩:=x
    subst hn
    have v:=WF.rowL B g
    have q11:=ZB u
    have q12:=ZC u
    have q13:=Zj (ZA u) v
    obtain ⟨p14,h⟩:=Zs h
    obtain ⟨x56,e15,h⟩:=ZJ h
    obtain ⟨x57,a16,a17,e18,h⟩:=Zci h
    simp only[*,go_sem,seval]
    refine Za h fun y C h=>Zb (YC C) ?_
    obtain ⟨k,a20,a21,e22,h⟩:=Zci h
    simp only[*,go_sem,seval]
    refine Zh h (fun i e st=>IV [(8,.p false [.c (.sl 71 2 (A0 Zq v1.1))]),(9,.bp 0 0),(10,.p false [.c (.sl 153 2 (A0 Zgg v1.2.2.1))]),(13,.p false [.row 2]),(16,.bp 3 0),(37,.p false [.row 6]),(38,.p false [.c (.int .i64 ((v3.length:Nat):Int))]),(39,.p false [.c (.int .i64 ((A:Nat):Int))]),(63,.p false [.c (.sl 71 2 (A0 Zq k.facts))]),(64,.p false [.c (.int .i64 ((k.facts.length:Nat):Int))]),(65,.p false [.c (.int .i64 ((i:Nat):Int))])] [.box 91 [.c (.int .i64 v1.2.1.nodes),.row 1],.row 144 3 (A0 ZL v1.2.1.reasons) 2,.row 86 4 (A0 ZAO a) 2,.box 86 [.c (.str y.rel),.row 4,.c (.str k.rule),.row 5],.row 9 1 (A0 Zw y.args) 2,.row 3 1 (A0 Z5 e) 2,.row 3 1 (A0 Z5 v3) 2] st) [(true,324,3)] [0,1,2,324,212,468,3] yF ?_ ?_ ?_
    ·simp only[*,go_sem,seval]
    ·rintro i68 x69 e ⟨sl,ob,n⟩ y23 f o z h hy23
     simp only[go_sem,seval,Zc] at o
     obtain ⟨⟨g27_8,g27_9,g27_10,g27_13,g27_16,g27_37,g27_38,g27_39,l,g27_64,g27_65⟩,og27_0,og27_1,og27_2,og27_3,og27_4,og27_5,og27_6,hn⟩:=o
     subst hn
     have m:=WF.slotL z l (j:=0) rfl
     have q28:=ZB f
     have q29:=ZC f
     have q30:=Zj (ZA f) m
     simp only[*,go_sem,seval]
     refine Za h fun v70 D h=>Zb (ZF2 D) ?_
     obtain ⟨E,h⟩:=Zs h
     try simp only[Nat.reduceLeDiff] at E
     simp only[*,go_sem,seval]
     refine ⟨_,[],[0,1,2,3,4,183,6],(A3 h).symm,yF,?_⟩
     simp only[*,go_sem,seval]
    ·rintro e ⟨sl,ob,n⟩ q hW34 h
     simp only[go_sem,seval,Zc] at q
     obtain ⟨⟨g35_8,g35_9,g35_10,g35_13,g35_16,g35_37,g35_38,g35_39,g35_63,g35_64,g35_65⟩,og35_0,og35_1,og35_2,og35_3,og35_4,og35_5,og35_6,hn⟩:=q
     subst hn
     have q36:=Zz (k.facts.length)
     obtain ⟨F,h⟩:=Zs h
     try simp only[Nat.reduceLeDiff] at F
     simp only[*,go_sem,seval]
     refine ⟨_,[],[0,1,71,6],(A3 h).symm,yF,?_⟩
     simp only[*,go_sem,seval]
   ·rintro a ⟨sl,ob,n⟩ t hW39 h
    simp only[go_sem,seval,Zc] at t
    obtain ⟨⟨g40_8,g40_9,g40_10,g40_13,g40_37,g40_38,g40_39⟩,og40_0,og40_1,og40_2,og40_3,hn⟩:=t
    subst hn
    have q41:=Zz (v3.length)
    obtain rfl:=A3 h
    simp only[*,go_sem,seval]
 ·obtain rfl:=A3 h
  simp only[*,go_sem,seval]
end
section
theorem ZFQ {b:(List Zf)} {d:(List Zd)} {r:((List Zd) × Zu × (List Xd) × Bool)} (h:ZD0 b d=some r):Zl prog J0 96 [(false,[.sl 104 4 (A0 ZG b)]),(false,[.sl 71 2 (A0 Zq d)])] [(false,[(false,.sl 71 2 (A0 Zq r.1))]),(true,[(false,.int .i64 r.2.1.nodes),(false,.sl 144 3 (A0 ZL r.2.1.reasons))]),(false,[(true,.sl 146 3 (A0 Zd3 r.2.2.1))]),(false,[(false,.bool r.2.2.2)])]:=by
 refine fnk func96 rfl ?_
 unfold ZD0 at h
 simp only[fnS,f96,Zm,go_sem,seval]
 refine Za h fun v1 H h=>Zb (Zg0 H)<|yA ?_
 refine yB h (fun _ h=>?_) fun _ h=>?_
 refine Zh h (fun i s st=>match s with | (f,g)=>IV [(0,yM (yR b)),(1,yM (yO d)),(5,.bp 0 0),(8,.p false [.row 1]),(10,.bp 2 0),(11,.p false [.row 4]),(12,yL i)] [.box 91 [.c (.int .i64 0),.nil 144 3],.row 71 2 (A0 Zq v1.1) 2,.box 91 [.c (.int .i64 ((v1.1.length:Nat):Int)),.row 3],.row 144 3 (A0 ZL f) 2,.row 146 3 (A0 Zd3 g) 2] st) [(true,240,1)] [16,96,240,352,272] yF yD ?_ ?_
 rintro _ _ ⟨f,g⟩ ⟨sl,ob,n⟩ _ k y I h _
 simp only[go_sem,seval,Zc] at y
 obtain ⟨⟨_,J,_,_,_,_,_⟩,_,_,_,_,_,hn⟩:=y
 subst hn
 have K:=WF.slotL I J (j:=0) rfl
 have:=ZB k
 have:=ZC k
 have:=Zj (ZA k) K
 simp only[*,go_sem,seval]
 refine Za h fun _ L h=>Zb (ZbJ L) ?_
 obtain ⟨M,h⟩:=Zs h
 try simp only[Nat.reduceLeDiff] at M
 obtain ⟨N,h⟩:=Zs h
 try simp only[Nat.reduceLeDiff] at N
 simp only[*,go_sem,seval]
 exact yC h [] [0,1,2,229,325]
 rintro ⟨f,g⟩ ⟨sl,ob,n⟩ z _ h
 simp only[go_sem,seval,Zc] at z
 obtain ⟨⟨_,_,_,_,_,_,_⟩,_,_,_,_,_,hn⟩:=z
 subst hn
 have:=Zz (d.length)
 simp only[*,go_sem,seval]
 refine Zh h (fun i s st=>match s with | (l,m)=>IV [(0,yM (yR b)),(5,.bp 0 0),(8,.p false [.row 1]),(10,.bp 2 0),(11,.p false [.row 4]),(13,yL i)] [.box 91 [.c (.int .i64 0),.nil 144 3],.row 71 2 (A0 Zq v1.1) 2,.box 91 [.c (.int .i64 ((v1.1.length:Nat):Int)),.row 3],.row 144 3 (A0 ZL l) 2,.row 146 3 (A0 Zd3 m) 1] st) [(true,4,1)] [0,1,2,3,4] yF yD ?_ ?_
 rintro A O ⟨l,m⟩ ⟨sl,ob,n⟩ _ e B P h Q
 simp only[go_sem,seval,Zc] at B
 obtain ⟨⟨R,_,_,_,_,_⟩,_,_,_,_,_,hn⟩:=B
 subst hn
 have S:=WF.slotL P R (j:=0) rfl
 have:=ZB e
 have:=ZC e
 have:=Zj (ZA e) S
 simp only[*,go_sem,seval]
 obtain ⟨_,T,h⟩:=ZJ h
 refine ZkJ (Zee T)<|yA ?_
 refine Za h fun o U h=>Zb (ZgQ U)<|yA ?_
 refine Zh h (fun i s st=>match s with | (q,t)=>IV [(0,yM (yR b)),(5,.bp 0 0),(8,.p false [.row 1]),(10,.bp 2 0),(11,.p false [.row 4]),(13,yL A),(14,.p false [.row 5]),(15,yL i)] [.box 91 [.c (.int .i64 0),.nil 144 3],.row 71 2 (A0 Zq v1.1) 2,.box 91 [.c (.int .i64 ((v1.1.length:Nat):Int)),.row 3],.row 144 3 (A0 ZL q) 2,.row 146 3 (A0 Zd3 t) 1,.row 118 2 (A0 YE o) 2] st) [] [0,1,2,3,4,165] yF yD ?_ ?_
 rintro V _ ⟨q,t⟩ ⟨sl,ob,n⟩ _ u C W h X
 simp only[go_sem,seval,Zc] at C
 obtain ⟨⟨_,_,_,_,_,_,_,_⟩,_,_,_,_,_,Y,hn⟩:=C
 subst hn
 have Z:=WF.rowL W Y
 have:=ZB u
 have:=ZC u
 have:=Zj (ZA u) Z
 simp only[*,go_sem,seval]
 refine Zh h (fun i s st=>match s with | (v,w)=>IV [(0,yM (yR b)),(5,.bp 0 0),(8,.p false [.row 1]),(10,.bp 2 0),(11,.p false [.row 4]),(13,yL A),(14,.p false [.row 5]),(15,yL V),(16,yL i)] [.box 91 [.c (.int .i64 0),.nil 144 3],.row 71 2 (A0 Zq v1.1) 2,.box 91 [.c (.int .i64 ((v1.1.length:Nat):Int)),.row 3],.row 144 3 (A0 ZL v) 2,.row 146 3 (A0 Zd3 w) 1,.row 118 2 (A0 YE o) 2] st) [] [0,1,2,3,4,5] yF yD ?_ ?_
 rintro _ _ ⟨v,w⟩ ⟨sl,ob,n⟩ _ x D aa h ab
 simp only[go_sem,seval,Zc] at D
 obtain ⟨⟨ac,_,_,_,_,_,_,_,_⟩,_,_,_,_,_,_,hn⟩:=D
 subst hn
 have ad:=WF.elL (WF.slotD aa ac (j:=0) rfl) e (j:=3) rfl
 have:=ZB x
 have:=ZC x
 have:=Zj (ZA x) ad
 simp only[*,go_sem,seval]
 refine Za h fun _ ae h=>Zb (ZjL ae)<|yA ?_
 refine Za h fun _ af h=>Zb (ZnD af)<|yA ?_
 refine yB h (fun _ h=>?_) fun _ h=>?_
 exact yC h [] [0,1,2,3,4,5]
 refine yB h (fun _ h=>?_) fun _ h=>?_
 replace h:=Zo h ab
 replace h:=Zo h X
 replace h:=Zo h Q
 cases h;exact yD
 obtain ⟨ag,h⟩:=Zs h
 try simp only[Nat.reduceLeDiff] at ag
 obtain ⟨ah,h⟩:=Zs h
 try simp only[Nat.reduceLeDiff] at ah
 simp only[*,go_sem,seval]
 exact yC h [] [0,1,2,550,790,5]
 rintro ⟨v,w⟩ ⟨sl,ob,n⟩ E _ h
 simp only[go_sem,seval,Zc] at E
 obtain ⟨⟨_,_,_,_,_,_,_,_,_⟩,_,_,_,_,_,_,hn⟩:=E
 subst hn
 have:=Zz (O.thn.length)
 simp only[*,go_sem,seval]
 exact yC h [] [0,1,2,3,4,5]
 rintro ⟨q,t⟩ ⟨sl,ob,n⟩ F _ h
 simp only[go_sem,seval,Zc] at F
 obtain ⟨⟨_,_,_,_,_,_,_,_⟩,_,_,_,_,_,_,hn⟩:=F
 subst hn
 have:=Zz (o.length)
 simp only[*,go_sem,seval]
 exact yC h [] [0,1,2,3,4]
 rintro ⟨l,m⟩ ⟨sl,ob,n⟩ G _ h
 simp only[go_sem,seval,Zc] at G
 obtain ⟨⟨_,_,_,_,_,_⟩,_,_,_,_,_,hn⟩:=G
 subst hn
 have:=Zz (b.length)
 iterate 2 (cases h;exact yD)
end
section
theorem ZGU {b:(List Zf)} {d:(List Zd)} {v:Zd} {r:((List ZvY) × Bool)} (h:ZDT b d v=some r):Zl prog J0 39 [(false,[.sl 104 4 (A0 ZG b)]),(false,[.sl 71 2 (A0 Zq d)]),(true,Zq v)] [(false,[(false,.sl 86 4 (A0 ZAO r.1))]),(false,[(false,.bool r.2)])]:=by
 refine ZIH func39 rfl ?_
 unfold ZDT at h
 simp only[fnS,f39,Zm,go_sem,seval]
 obtain ⟨v1,e1,h⟩:=ZJ h
 refine ZkJ (ZFQ e1) ?_
 simp only[*,go_sem,seval]
 refine Ze h (fun c2 h=>?_) (fun c2 h=>?_)<;>try simp only[*,go_sem,seval]
 ·refine Za h fun v2 e3 h=>Zb (ZbJ e3) ?_
  simp only[*,go_sem,seval]
  refine Za h fun v3 e4 h=>Zb (ZFx e4) ?_
  simp only[*,go_sem,seval]
  refine Zh h (fun i a st=>IV [(8,.p false [.row 0]),(9,.p false [.row 1]),(10,.bp 2 0),(11,.p false [.c (.sl 146 3 (A0 Zd3 v1.2.2.1))]),(13,.p false [.row 4]),(14,.p false [.c (.int .i64 ((i:Nat):Int))])] [.row 86 4 (A0 ZAO a) 2,.row 71 2 (A0 Zq v1.1) 2,.box 91 [.c (.int .i64 v1.2.1.nodes),.row 3],.row 144 3 (A0 ZL v1.2.1.reasons) 2,.row 3 1 (A0 Z5 v3) 2] st) [] [48,112,208,113,384] yF ?_ ?_ ?_
  ·simp only[*,go_sem,seval]
  ·rintro A B a ⟨sl,ob,n⟩ y5 q w C h hy5
   simp only[go_sem,seval,Zc] at w
   obtain ⟨⟨g9_8,g9_9,g9_10,g9_11,g9_13,g9_14⟩,og9_0,og9_1,og9_2,og9_3,t,hn⟩:=w
   subst hn
   have u:=WF.rowL C t
   have q10:=ZB q
   have q11:=ZC q
   have q12:=Zj (ZA q) u
   obtain ⟨p13,h⟩:=Zs h
   obtain ⟨x40,e14,h⟩:=ZJ h
   obtain ⟨p15,h⟩:=Zs h
   obtain ⟨x41,e16,h⟩:=ZJ h
   simp only[*,go_sem,seval]
   refine Za h fun x D h=>Zb (Xr D) ?_
   obtain ⟨y,a18,a19,E,h⟩:=Zci h
   simp only[*,go_sem,seval]
   refine Zh h (fun i e st=>IV [(8,.p false [.row 0]),(9,.p false [.row 1]),(10,.bp 2 0),(11,.p false [.c (.sl 146 3 (A0 Zd3 v1.2.2.1))]),(13,.p false [.row 4]),(14,.p false [.c (.int .i64 ((A:Nat):Int))]),(15,.p false [.c (.int .i64 B)]),(16,.bp 5 0),(17,.p false [.c (.int .i64 ((i:Nat):Int))])] [.row 86 4 (A0 ZAO a) 2,.row 71 2 (A0 Zq v1.1) 2,.box 91 [.c (.int .i64 v1.2.1.nodes),.row 3],.row 144 3 (A0 ZL v1.2.1.reasons) 2,.row 3 1 (A0 Z5 v3) 2,.box 86 [.c (.str x.rel),.row 6,.c (.str y.rule),.row 7],.row 9 1 (A0 Zw x.args) 2,.row 3 1 (A0 Z5 e) 2] st) [(true,405,3)] [0,1,2,3,4,405,293,453] yF ?_ ?_ ?_
   ·simp only[*,go_sem,seval]
   ·rintro i52 x53 e ⟨sl,ob,n⟩ y21 f l z h hy21
    simp only[go_sem,seval,Zc] at l
    obtain ⟨⟨g25_8,g25_9,g25_10,g,g25_13,g25_14,g25_15,g25_16,g25_17⟩,og25_0,og25_1,og25_2,og25_3,og25_4,og25_5,og25_6,og25_7,hn⟩:=l
    subst hn
    have k:=WF.elL (WF.slotD z g (j:=0) rfl) E (j:=1) rfl
    have q26:=ZB f
    have q27:=ZC f
    have q28:=Zj (ZA f) k
    simp only[*,go_sem,seval]
    refine Za h fun v54 F h=>Zb (ZGk F) ?_
    obtain ⟨G,h⟩:=Zs h
    try simp only[Nat.reduceLeDiff] at G
    simp only[*,go_sem,seval]
    refine ⟨_,[],[0,1,2,3,4,5,6,376],(A3 h).symm,yF,?_⟩
    simp only[*,go_sem,seval]
   ·rintro e ⟨sl,ob,n⟩ m hW32 h
    simp only[go_sem,seval,Zc] at m
    obtain ⟨⟨g33_8,g33_9,g33_10,g33_11,g33_13,g33_14,g33_15,g33_16,g33_17⟩,og33_0,og33_1,og33_2,og33_3,og33_4,og33_5,og33_6,og33_7,hn⟩:=m
    subst hn
    have q34:=Zz (y.token.facts.length)
    obtain ⟨H,h⟩:=Zs h
    try simp only[Nat.reduceLeDiff] at H
    simp only[*,go_sem,seval]
    refine ⟨_,[],[200,1,2,3,4],(A3 h).symm,yF,?_⟩
    simp only[*,go_sem,seval]
  ·rintro a ⟨sl,ob,n⟩ o hW37 h
   simp only[go_sem,seval,Zc] at o
   obtain ⟨⟨g38_8,g38_9,g38_10,g38_11,g38_13,g38_14⟩,og38_0,og38_1,og38_2,og38_3,og38_4,hn⟩:=o
   subst hn
   have q39:=Zz (v3.length)
   obtain rfl:=A3 h
   simp only[*,go_sem,seval]
 ·obtain rfl:=A3 h
  simp only[*,go_sem,seval]
end
end Go.Proofs.YtekbmedphidcgaaGreatDoor
