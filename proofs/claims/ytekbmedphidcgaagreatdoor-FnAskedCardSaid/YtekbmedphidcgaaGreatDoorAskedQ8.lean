/- Texts of this proof, joined: Dp8, Dp7, Dp9, Dp10, Dp11, Dp12, Dp13, Dp14, Dp15, Dp16, Dp17, Dp18. What each holds is said at its theorems. -/
import Derived.Test.YtekbmedphidcgaaGreatDoorAskedQ7
set_option linter.unusedSimpArgs false
set_option linter.unusedVariables false
open Int renaming toNat_natCast→A4,toNat→A5
open List renaming map→A0,getElem?_map→A6,map_cons→A7,map_nil→A8
open Option.some renaming inj→A3
open Go.Proofs.Tryz
namespace Go.Proofs.YtekbmedphidcgaaGreatDoor
section
set_option linter.unusedSimpArgs false
set_option linter.unusedVariables false
set_option maxRecDepth 1000000
set_option maxHeartbeats 4000000
theorem Zfk {append_0:Zv} {String_1:Zd} {a_2:(List Zp)} {r:((List Zp) × Bool)} (h:ZaF append_0 String_1 a_2=some r):Zl prog J0 138 [(true,Qz append_0),(true,Zq String_1),(false,[.sl 135 2 (A0 ZZ a_2)])] [(false,[(false,.sl 135 2 (A0 ZZ r.1))]),(false,[(false,.bool r.2)])]:=by
 refine fnk func138 rfl ?_
 unfold ZaF at h
 simp only[fnS,f138,Zm,go_sem,seval]
 refine Za h fun _ g h=>Zb (XL g) ?_
 simp only[*,go_sem,seval]
 refine Ze h (fun _ h=>?_) fun _ h=>?_<;>try simp only[*,go_sem,seval]
 refine Za h fun _ k h=>Zb (Zjf k) ?_
 simp only[*,go_sem,seval]
 refine Ze h (fun _ h=>?_) fun _ h=>?_<;>try simp only[*,go_sem,seval]
 refine Za h fun _ l h=>Zb (Qk l) ?_
 simp only[*,go_sem,seval]
 iterate 3 refine Ze h (fun _ h=>?_) fun _ h=>?_<;>try simp only[*,go_sem,seval]
 cases h
 simp only[*,go_sem,seval]
 refine Za h fun _ m h=>Zb (Zfq m) ?_
 simp only[*,go_sem,seval]
 refine Zh h (fun i a st=>IV [(4,.bp 0 0),(8,.p false [.row 1]),(45,.p false [.c (.sl 9 1 (A0 Zw append_0.args))]),(46,.p false [.c (.int .i64 ((append_0.args.length:Nat):Int))]),(47,.p false [.c (.int .i64 ((i:Nat):Int))])] [.box 71 [.c (.str String_1.rel),.c (.sl 9 1 (A0 Zw String_1.args))],.row 135 2 (A0 ZZ a) 2] st) [] [16,544] (by decide) ?_ ?_ ?_
 simp only[*,go_sem,seval]
 rintro _ _ a ⟨sl,ob,n⟩ _ b d o h e
 simp only[go_sem,seval,Zc] at d
 obtain ⟨⟨_,_,q,_,_⟩,_,_,hn⟩:=d
 subst hn
 have t:=WF.slotL o q (j:=0) rfl
 have:=ZB b
 have:=ZC b
 have:=Zj (ZA b) t
 simp only[*,go_sem,seval]
 refine Za h fun _ u h=>Zb (XS u) ?_
 simp only[*,go_sem,seval]
 refine Ze h (fun _ h=>?_) fun _ h=>?_<;>try simp only[*,go_sem,seval]
 obtain ⟨_,_,_,v,h⟩:=Zci h
 simp only[A4] at v
 simp only[*,go_sem,seval]
 refine Ze h (fun _ h=>?_) fun _ h=>?_<;>try simp only[*,go_sem,seval]
 refine ⟨_,[],[0,1],(A3 h).symm,by decide,?_⟩
 simp only[*,go_sem,seval]
 replace h:=Zo h e
 cases h
 simp only[*,go_sem,seval]
 obtain ⟨_,_,_,w,h⟩:=Zci h
 simp only[A4] at w
 simp only[*,go_sem,seval]
 refine Za h fun _ x h=>Zb (Zo9 x) ?_
 simp only[*,go_sem,seval]
 refine Ze h (fun _ h=>?_) fun _ h=>?_<;>try simp only[*,go_sem,seval]
 refine ⟨_,[],[0,242],(A3 h).symm,by decide,?_⟩
 simp only[*,go_sem,seval]
 replace h:=Zo h e
 cases h
 simp only[*,go_sem,seval]
 rintro a ⟨sl,ob,n⟩ f _ h
 simp only[go_sem,seval,Zc] at f
 obtain ⟨⟨_,_,_,_,_⟩,_,_,hn⟩:=f
 subst hn
 have:=Zz (append_0.args.length)
 iterate 5 (cases h;simp only[*,go_sem,seval])
theorem Zfj {x_0:Zr} {r:Bool} (h:Zdj x_0=some r):Zl prog J0 201 [(true,ZK x_0)] [(false,[(false,.bool r)])]:=by
 refine fnk func201 rfl ?_
 unfold Zdj at h
 have a:Z2 ⟨#[]⟩=true:=by decide
 simp only[fnS,f201,Zm,go_sem,seval,a]
 refine Ze h (fun _ h=>?_) fun _ h=>?_<;>try simp only[*,go_sem,seval]
 refine Za h fun _ b h=>Zb (XL b) ?_
 simp only[*,go_sem,seval]
 iterate 2 refine Ze h (fun _ h=>?_) fun _ h=>?_<;>try simp only[*,go_sem,seval]
 iterate 3 (cases h;simp only[*,go_sem,seval])
 refine Ze h (fun _ h=>?_) fun _ h=>?_<;>try simp only[*,go_sem,seval]
 refine Za h fun _ c h=>Zb (XL c) ?_
 simp only[*,go_sem,seval]
 iterate 2 refine Ze h (fun _ h=>?_) fun _ h=>?_<;>try simp only[*,go_sem,seval]
 iterate 3 (cases h;simp only[*,go_sem,seval])
 refine Ze h (fun _ h=>?_) fun _ h=>?_<;>try simp only[*,go_sem,seval]
 refine Za h fun _ d h=>Zb (QF d) ?_
 simp only[*,go_sem,seval]
 refine Ze h (fun _ h=>?_) fun _ h=>?_<;>try simp only[*,go_sem,seval]
 refine Za h fun _ e h=>Zb (QF e) ?_
 simp only[*,go_sem,seval]
 refine Ze h (fun _ h=>?_) fun _ h=>?_<;>try simp only[*,go_sem,seval]
 refine Za h fun _ f h=>Zb (QN f) ?_
 iterate 3 (cases h;simp only[*,go_sem,seval])
 refine Ze h (fun _ h=>?_) fun _ h=>?_<;>try simp only[*,go_sem,seval]
 refine Za h fun _ g h=>Zb (QF g) ?_
 simp only[*,go_sem,seval]
 refine Ze h (fun _ h=>?_) fun _ h=>?_<;>try simp only[*,go_sem,seval]
 refine Za h fun _ i h=>Zb (QF i) ?_
 simp only[*,go_sem,seval]
 refine Ze h (fun _ h=>?_) fun _ h=>?_<;>try simp only[*,go_sem,seval]
 refine Za h fun _ j h=>Zb (QN j) ?_
 iterate 3 (cases h;simp only[*,go_sem,seval])
 refine Ze h (fun _ h=>?_) fun _ h=>?_<;>try simp only[*,go_sem,seval]
 refine Za h fun _ k h=>Zb (QF k) ?_
 simp only[*,go_sem,seval]
 refine Ze h (fun _ h=>?_) fun _ h=>?_<;>try simp only[*,go_sem,seval]
 refine Za h fun _ l h=>Zb (QF l) ?_
 simp only[*,go_sem,seval]
 refine Ze h (fun _ h=>?_) fun _ h=>?_<;>try simp only[*,go_sem,seval]
 refine Za h fun _ m h=>Zb (QN m) ?_
 iterate 4 (cases h;simp only[*,go_sem,seval])
theorem ZnM {a:(List Zd)} {f_1:Zd} {r:(List Zd)} (h:XF a f_1=some r):Zl prog J0 121 [(false,[.sl 71 2 (A0 Zq a)]),(true,Zq f_1)] [(false,[(false,.sl 71 2 (A0 Zq r))])]:=by
 refine fnk func121 rfl ?_
 unfold XF at h
 simp only[fnS,f121,Zm,go_sem,seval]
 refine Zh h (fun i s st=>match s with | (b,d)=>IV [(3,.bp 0 0),(5,.p false [.row 1]),(6,.p false [.c (.bool d)]),(9,.p false [.c (.sl 71 2 (A0 Zq a))]),(10,.p false [.c (.int .i64 ((a.length:Nat):Int))]),(11,.p false [.c (.int .i64 ((i:Nat):Int))])] [.box 71 [.c (.str f_1.rel),.c (.sl 9 1 (A0 Zw f_1.args))],.row 71 2 (A0 Zq b) 2] st) [(false,5,0)] [0,112] (by decide) ?_ ?_ ?_
 simp only[*,go_sem,seval]
 rintro _ _ ⟨b,d⟩ ⟨sl,ob,n⟩ _ e f l h _
 simp only[go_sem,seval,Zc] at f
 obtain ⟨⟨_,_,_,m,_,_⟩,_,_,hn⟩:=f
 subst hn
 have o:=WF.slotL l m (j:=0) rfl
 have:=ZB e
 have:=ZC e
 have:=Zj (ZA e) o
 simp only[*,go_sem,seval]
 refine Ze h (fun _ h=>?_) fun _ h=>?_<;>try simp only[*,go_sem,seval]
 refine Za h fun _ q h=>Zb (YC q) ?_
 obtain ⟨t,h⟩:=Zs h
 try simp only[Nat.reduceLeDiff] at t
 simp only[*,go_sem,seval]
 refine ⟨_,[],[0,274],(A3 h).symm,by decide,?_⟩
 simp only[*,go_sem,seval]
 refine Za h fun _ u h=>Zb (Zdp u) ?_
 simp only[*,go_sem,seval]
 refine Ze h (fun _ h=>?_) fun _ h=>?_<;>try simp only[*,go_sem,seval]
 refine Za h fun _ v h=>Zb (YC v) ?_
 obtain ⟨w,h⟩:=Zs h
 try simp only[Nat.reduceLeDiff] at w
 simp only[*,go_sem,seval]
 refine Za h fun _ x h=>Zb (YC x) ?_
 obtain ⟨y,h⟩:=Zs h
 try simp only[Nat.reduceLeDiff] at y
 simp only[*,go_sem,seval]
 refine ⟨_,[],[0,386],(A3 h).symm,by decide,?_⟩
 simp only[*,go_sem,seval]
 refine Za h fun _ z h=>Zb (YC z) ?_
 obtain ⟨A,h⟩:=Zs h
 try simp only[Nat.reduceLeDiff] at A
 simp only[*,go_sem,seval]
 refine ⟨_,[],[0,274],(A3 h).symm,by decide,?_⟩
 simp only[*,go_sem,seval]
 rintro ⟨b,d⟩ ⟨sl,ob,n⟩ g _ h
 simp only[go_sem,seval,Zc] at g
 obtain ⟨⟨_,_,_,_,_,_⟩,_,_,hn⟩:=g
 subst hn
 have:=Zz (a.length)
 simp only[*,go_sem,seval]
 refine Ze h (fun _ h=>?_) fun _ h=>?_<;>try simp only[*,go_sem,seval]
 cases h
 simp only[*,go_sem,seval]
 refine Za h fun _ B h=>Zb (YC B) ?_
 obtain ⟨C,h⟩:=Zs h
 try simp only[Nat.reduceLeDiff] at C
 cases h
 simp only[*,go_sem,seval]
theorem ZdP {p_0:Zv} {b_1:(List Zp)} {r:(Zd × Bool)} (h:XZ p_0 b_1=some r):Zl prog J0 174 [(true,Qz p_0),(false,[.sl 135 2 (A0 ZZ b_1)])] [(true,[(false,.str r.1.rel),(false,.sl 9 1 (A0 Zw r.1.args))]),(false,[(false,.bool r.2)])]:=by
 refine fnk func174 rfl ?_
 unfold XZ at h
 simp only[fnS,f174,Zm,go_sem,seval]
 refine Za h fun _ f h=>Zb (XL f) ?_
 simp only[*,go_sem,seval]
 refine Ze h (fun _ h=>?_) fun _ h=>?_<;>try simp only[*,go_sem,seval]
 refine Za h fun _ g h=>Zb (Qk g) ?_
 simp only[*,go_sem,seval]
 refine Ze h (fun _ h=>?_) fun _ h=>?_<;>try simp only[*,go_sem,seval]
 refine Zh h (fun i a st=>IV [(1,.p false [.c (.sl 135 2 (A0 ZZ b_1))]),(4,.bp 0 0),(6,.bp 1 0),(24,.p false [.c (.sl 9 1 (A0 Zw p_0.args))]),(25,.p false [.c (.int .i64 ((p_0.args.length:Nat):Int))]),(26,.p false [.c (.int .i64 ((i:Nat):Int))])] [.box 71 [.c (.str ⟨#[]⟩),.nil 9 1],.box 71 [.c (.str p_0.rel),.row 2],.row 9 1 (A0 Zw a) 2] st) [(true,224,1)] [16,224,320] (by decide) ?_ ?_ ?_
 simp only[*,go_sem,seval]
 rintro _ _ a ⟨sl,ob,n⟩ _ b d k h l
 simp only[go_sem,seval,Zc] at d
 obtain ⟨⟨_,_,_,m,_,_⟩,_,_,_,hn⟩:=d
 subst hn
 have o:=WF.slotL k m (j:=0) rfl
 have:=ZB b
 have:=ZC b
 have:=Zj (ZA b) o
 simp only[*,go_sem,seval]
 refine Za h fun _ q h=>Zb (Zcn q) ?_
 simp only[*,go_sem,seval]
 refine Ze h (fun _ h=>?_) fun _ h=>?_<;>try simp only[*,go_sem,seval]
 obtain ⟨t,h⟩:=Zs h
 try simp only[Nat.reduceLeDiff] at t
 simp only[*,go_sem,seval]
 refine ⟨_,[],[0,1,291],(A3 h).symm,by decide,?_⟩
 simp only[*,go_sem,seval]
 replace h:=Zo h l
 cases h
 simp only[*,go_sem,seval]
 rintro a ⟨sl,ob,n⟩ e _ h
 simp only[go_sem,seval,Zc] at e
 obtain ⟨⟨_,_,_,_,_,_⟩,_,_,_,hn⟩:=e
 subst hn
 have:=Zz (p_0.args.length)
 iterate 3 (cases h;simp only[*,go_sem,seval])
theorem Zfo {r_0:Zf} {k_1:Int} {v_2:ByteArray} {r:Bool} (h:Xm r_0 k_1 v_2=some r):Zl prog J0 256 [(true,ZG r_0),(false,[.int .i64 k_1]),(false,[.str v_2])] [(false,[(false,.bool r)])]:=by
 refine fnk func256 rfl ?_
 unfold Xm at h
 simp only[fnS,f256,Zm,go_sem,seval]
 refine Zh h (fun i _ st=>IV [(1,.p false [.c (.int .i64 k_1)]),(2,.p false [.c (.str v_2)]),(3,.bp 0 0),(12,.p false [.c (.sl 60 5 (A0 ZK r_0.cond))]),(13,.p false [.c (.int .i64 ((r_0.cond.length:Nat):Int))]),(14,.p false [.c (.int .i64 ((i:Nat):Int))])] [.box 104 [.c (.str r_0.name),.c (.int .i64 r_0.priority),.c (.sl 60 5 (A0 ZK r_0.cond)),.c (.sl 166 3 (A0 ZD r_0.thn))]] st) [] [0] (by decide) ?_ ?_ ?_
 simp only[*,go_sem,seval]
 rintro _ _ ⟨⟩ ⟨sl,ob,n⟩ _ a d k h l
 simp only[go_sem,seval,Zc] at d
 obtain ⟨⟨_,_,_,m,_,_⟩,_,hn⟩:=d
 subst hn
 have o:=WF.slotL k m (j:=0) rfl
 have:=ZB a
 have:=ZC a
 have:=Zj (ZA a) o
 simp only[*,go_sem,seval]
 refine Ze h (fun _ h=>?_) fun _ h=>?_<;>try simp only[*,go_sem,seval]
 refine Za h fun _ q h=>Zb (ZbA q) ?_
 simp only[*,go_sem,seval]
 refine Za h fun _ t h=>Zb (QT t) ?_
 simp only[*,go_sem,seval]
 refine Ze h (fun _ h=>?_) fun _ h=>?_<;>try simp only[*,go_sem,seval]
 replace h:=Zo h l
 cases h
 simp only[*,go_sem,seval]
 refine ⟨_,[],[0],(A3 h).symm,by decide,?_⟩
 simp only[*,go_sem,seval]
 refine ⟨_,[],[0],(A3 h).symm,by decide,?_⟩
 simp only[*,go_sem,seval]
 rintro ⟨⟩ ⟨sl,ob,n⟩ e _ h
 simp only[go_sem,seval,Zc] at e
 obtain ⟨⟨_,_,_,_,_,_⟩,_,hn⟩:=e
 subst hn
 have:=Zz (r_0.cond.length)
 simp only[*,go_sem,seval]
 refine Zh h (fun i _ st=>IV [(2,.p false [.c (.str v_2)]),(30,.p false [.c (.sl 166 3 (A0 ZD r_0.thn))]),(31,.p false [.c (.int .i64 ((r_0.thn.length:Nat):Int))]),(32,.p false [.c (.int .i64 ((i:Nat):Int))])] [] st) [] [] (by decide) ?_ ?_ ?_
 simp only[*,go_sem,seval]
 rintro _ _ ⟨⟩ ⟨sl,ob,n⟩ _ b f u h v
 simp only[go_sem,seval,Zc] at f
 obtain ⟨⟨_,w,_,_⟩,hn⟩:=f
 subst hn
 have x:=WF.slotL u w (j:=0) rfl
 have:=ZB b
 have:=ZC b
 have:=Zj (ZA b) x
 simp only[*,go_sem,seval]
 refine Za h fun _ y h=>Zb (QT y) ?_
 simp only[*,go_sem,seval]
 refine Ze h (fun _ h=>?_) fun _ h=>?_<;>try simp only[*,go_sem,seval]
 replace h:=Zo h v
 cases h
 simp only[*,go_sem,seval]
 refine ⟨_,[],[],(A3 h).symm,by decide,?_⟩
 simp only[*,go_sem,seval]
 rintro ⟨⟩ ⟨sl,ob,n⟩ g _ h
 simp only[go_sem,seval,Zc] at g
 obtain ⟨⟨_,_,_,_⟩,hn⟩:=g
 subst hn
 have:=Zz (r_0.thn.length)
 cases h
 simp only[*,go_sem,seval]
theorem Zl0 {a_0:Zx} {r:Bool} (h:Zc5 a_0=some r):Zl prog J0 204 [(true,ZD a_0)] [(false,[(false,.bool r)])]:=by
 refine fnk func204 rfl ?_
 unfold Zc5 at h
 simp only[fnS,f204,Zm,go_sem,seval]
 refine Ze h (fun _ h=>?_) fun _ h=>?_<;>try simp only[*,go_sem,seval]
 refine Za h fun _ a h=>Zb (XL a) ?_
 cases h
 simp only[*,go_sem,seval]
 refine Ze h (fun _ h=>?_) fun _ h=>?_<;>try simp only[*,go_sem,seval]
 refine Za h fun _ b h=>Zb (XL b) ?_
 cases h
 simp only[*,go_sem,seval]
 refine Ze h (fun _ h=>?_) fun _ h=>?_<;>try simp only[*,go_sem,seval]
 refine Za h fun _ c h=>Zb (QN c) ?_
 iterate 2 (cases h;simp only[*,go_sem,seval])
theorem Zjn {l_0:(List Zr)} {r:(List ByteArray)} (h:Za4 l_0=some r):Zl prog J0 208 [(false,[.sl 60 5 (A0 ZK l_0)])] [(false,[(false,.sl 9 1 (A0 Zw r))])]:=by
 refine fnk func208 rfl ?_
 unfold Za4 at h
 simp only[fnS,f208,Zm,go_sem,seval]
 refine Zh h (fun i a st=>IV [(3,.p false [.row 0]),(6,.p false [.c (.sl 60 5 (A0 ZK l_0))]),(7,.p false [.c (.int .i64 ((l_0.length:Nat):Int))]),(8,.p false [.c (.int .i64 ((i:Nat):Int))])] [.row 9 1 (A0 Zw a) 2] st) [(false,3,0)] [80] (by decide) ?_ ?_ ?_
 simp only[*,go_sem,seval]
 rintro _ _ a ⟨sl,ob,n⟩ _ b d f h _
 simp only[go_sem,seval,Zc] at d
 obtain ⟨⟨_,g,_,_⟩,_,hn⟩:=d
 subst hn
 have k:=WF.slotL f g (j:=0) rfl
 have:=ZB b
 have:=ZC b
 have:=Zj (ZA b) k
 simp only[*,go_sem,seval]
 refine Za h fun _ l h=>Zb (ZbA l) ?_
 obtain ⟨_,h⟩:=Zs h
 simp only[*,go_sem,seval]
 refine ⟨_,[],[129],(A3 h).symm,by decide,?_⟩
 simp only[*,go_sem,seval]
 rintro a ⟨sl,ob,n⟩ e _ h
 simp only[go_sem,seval,Zc] at e
 obtain ⟨⟨_,_,_,_⟩,_,hn⟩:=e
 subst hn
 have:=Zz (l_0.length)
 cases h
 simp only[*,go_sem,seval]
theorem ZlA {l_0:(List Zd)} {r:Bool} (h:ZcA l_0=some r):Zl prog J0 235 [(false,[.sl 71 2 (A0 Zq l_0)])] [(false,[(false,.bool r)])]:=by
 refine fnk func235 rfl ?_
 unfold ZcA at h
 simp only[fnS,f235,Zm,go_sem,seval]
 refine Ze h (fun _ h=>?_) fun _ h=>?_<;>try simp only[*,go_sem,seval]
 cases h
 simp only[*,go_sem,seval]
 refine Zh h (fun i _ st=>IV [(0,.p false [.c (.sl 71 2 (A0 Zq l_0))]),(8,.p false [.c (.sl 71 2 (A0 Zq l_0))]),(9,.p false [.c (.int .i64 ((l_0.length:Nat):Int))]),(10,.p false [.c (.int .i64 ((i:Nat):Int))])] [] st) [] [] (by decide) ?_ ?_ ?_
 simp only[*,go_sem,seval]
 rintro _ _ ⟨⟩ ⟨sl,ob,n⟩ _ a b f h d
 simp only[go_sem,seval,Zc] at b
 obtain ⟨⟨g,_,_,_⟩,hn⟩:=b
 subst hn
 have k:=WF.slotL f g (j:=0) rfl
 have:=ZB a
 have:=ZC a
 have:=Zj (ZA a) k
 simp only[*,go_sem,seval]
 refine Za h fun _ l h=>Zb (Zjf l) ?_
 simp only[*,go_sem,seval]
 iterate 2 refine Ze h (fun _ h=>?_) fun _ h=>?_<;>try simp only[*,go_sem,seval]
 obtain ⟨_,_,_,_,h⟩:=Zci h
 simp only[*,go_sem,seval]
 refine Za h fun _ m h=>Zb (Zdp m) ?_
 simp only[*,go_sem,seval]
 refine Ze h (fun _ h=>?_) fun _ h=>?_<;>try simp only[*,go_sem,seval]
 replace h:=Zo h d
 cases h
 simp only[*,go_sem,seval]
 refine ⟨_,[],[],(A3 h).symm,by decide,?_⟩
 simp only[*,go_sem,seval]
 refine ⟨_,[],[],(A3 h).symm,by decide,?_⟩
 simp only[*,go_sem,seval]
 replace h:=Zo h d
 cases h
 simp only[*,go_sem,seval]
 rintro ⟨⟩ ⟨sl,ob,n⟩ e _ h
 simp only[go_sem,seval,Zc] at e
 obtain ⟨⟨_,_,_,_⟩,hn⟩:=e
 subst hn
 have:=Zz (l_0.length)
 cases h
 simp only[*,go_sem,seval]
theorem Y3 {p_0:Zv} {r:Bool} (h:YD p_0=some r):Zl prog J0 157 [(true,Qz p_0)] [(false,[(false,.bool r)])]:=by
 refine fnk func157 rfl ?_
 unfold YD at h
 simp only[fnS,f157,Zm,go_sem,seval]
 refine Zh h (fun i _ st=>IV [(1,.bp 0 0),(3,.p false [.c (.int .i64 ((i:Nat):Int))])] [.box 58 [.c (.str p_0.rel),.c (.sl 9 1 (A0 Zw p_0.args))]] st) [] [0] (by decide) ?_ ?_ ?_
 simp only[*,go_sem,seval]
 rintro _ _ ⟨⟩ ⟨sl,ob,n⟩ _ a b e h f
 simp only[go_sem,seval,Zc] at b
 obtain ⟨⟨_,_⟩,g,hn⟩:=b
 subst hn
 have k:=WF.boxL e g (j:=1) rfl
 have:=ZB a
 have:=ZC a
 have:=Zj (ZA a) k
 simp only[*,go_sem,seval]
 refine Za h fun _ l h=>Zb (Qp l) ?_
 simp only[*,go_sem,seval]
 refine Ze h (fun _ h=>?_) fun _ h=>?_<;>try simp only[*,go_sem,seval]
 refine ⟨_,[],[0],(A3 h).symm,by decide,?_⟩
 simp only[*,go_sem,seval]
 replace h:=Zo h f
 cases h
 simp only[*,go_sem,seval]
 rintro ⟨⟩ ⟨sl,ob,n⟩ d _ h
 simp only[go_sem,seval,Zc] at d
 obtain ⟨⟨_,_⟩,_,hn⟩:=d
 subst hn
 have:=Zz (p_0.args.length)
 simp only[*,go_sem,seval]
 refine Za h fun _ m h=>Zb (ZfW m) ?_
 simp only[*,go_sem,seval]
 refine Ze h (fun _ h=>?_) fun _ h=>?_<;>try simp only[*,go_sem,seval]
 iterate 2 (cases h;simp only[*,go_sem,seval])
theorem ZaS {r_0:Zf} {n_1:Int} {r:(List ByteArray)} (h:XT r_0 n_1=some r):Zl prog J0 149 [(true,ZG r_0),(false,[.int .i64 n_1])] [(false,[(false,.sl 9 1 (A0 Zw r))])]:=by
 refine fnk func149 rfl ?_
 unfold XT at h
 simp only[fnS,f149,Zm,go_sem,seval]
 refine Zh h (fun i a st=>IV [(1,.p false [.c (.int .i64 n_1)]),(2,.bp 0 0),(5,.p false [.row 1]),(6,.p false [.c (.int .i64 ((i:Nat):Int))])] [.box 104 [.c (.str r_0.name),.c (.int .i64 r_0.priority),.c (.sl 60 5 (A0 ZK r_0.cond)),.c (.sl 166 3 (A0 ZD r_0.thn))],.row 9 1 (A0 Zw a) 2] st) [] [0,32] (by decide) ?_ ?_ ?_
 simp only[*,go_sem,seval]
 rintro b _ a ⟨sl,ob,n⟩ _ d g q h t
 simp only[go_sem,seval,Zc] at g
 obtain ⟨⟨_,_,_,_⟩,u,_,hn⟩:=g
 subst hn
 have v:=WF.boxL q u (j:=2) rfl
 have:=ZB d
 have:=ZC d
 have:=Zj (ZA d) v
 simp only[*,go_sem,seval]
 iterate 2 refine Ze h (fun _ h=>?_) fun _ h=>?_<;>try simp only[*,go_sem,seval]
 refine Za h fun k w h=>Zb (ZbQ w) ?_
 simp only[*,go_sem,seval]
 refine Zh h (fun i e st=>IV [(1,.p false [.c (.int .i64 n_1)]),(2,.bp 0 0),(5,.p false [.row 1]),(6,.p false [.c (.int .i64 ((b:Nat):Int))]),(7,.p false [.row 2]),(8,.p false [.c (.int .i64 ((i:Nat):Int))]),(16,.p false [.c (.int .i64 ((b:Nat):Int))]),(17,.p false [.c (.int .i64 n_1)]),(18,.p false [.c (.bool (decide (((b:Nat):Int)<n_1)))])] [.box 104 [.c (.str r_0.name),.c (.int .i64 r_0.priority),.c (.sl 60 5 (A0 ZK r_0.cond)),.c (.sl 166 3 (A0 ZD r_0.thn))],.row 9 1 (A0 Zw e) 2,.row 9 1 (A0 Zw k) 2] st) [] [0,1,370] (by decide) ?_ ?_ ?_
 simp only[*,go_sem,seval]
 rintro _ _ e ⟨sl,ob,n⟩ _ f l x h _
 simp only[go_sem,seval,Zc] at l
 obtain ⟨⟨_,_,_,_,_,_,_,_,_⟩,_,_,y,hn⟩:=l
 subst hn
 have z:=WF.rowL x y
 have:=ZB f
 have:=ZC f
 have:=Zj (ZA f) z
 simp only[*,go_sem,seval]
 refine Za h fun _ A h=>Zb (Y1 A) ?_
 simp only[*,go_sem,seval]
 refine ⟨_,[],[0,147,2],(A3 h).symm,by decide,?_⟩
 simp only[*,go_sem,seval]
 rintro e ⟨sl,ob,n⟩ m _ h
 simp only[go_sem,seval,Zc] at m
 obtain ⟨⟨_,_,_,_,_,_,_,_,_⟩,_,_,_,hn⟩:=m
 subst hn
 have:=Zz (k.length)
 simp only[*,go_sem,seval]
 refine ⟨_,[],[0,1],(A3 h).symm,by decide,?_⟩
 simp only[*,go_sem,seval]
 refine ⟨_,[],[0,1],(A3 h).symm,by decide,?_⟩
 simp only[*,go_sem,seval]
 replace h:=Zo h t
 cases h
 simp only[*,go_sem,seval]
 rintro a ⟨sl,ob,n⟩ o _ h
 simp only[go_sem,seval,Zc] at o
 obtain ⟨⟨_,_,_,_⟩,_,_,hn⟩:=o
 subst hn
 have:=Zz (r_0.cond.length)
 cases h
 simp only[*,go_sem,seval]
theorem Q7 {x_0:Zr} {r:(List ByteArray)} (h:Xz x_0=some r):Zl prog J0 150 [(true,ZK x_0)] [(false,[(false,.sl 9 1 (A0 Zw r))])]:=by
 refine fnk func150 rfl ?_
 unfold Xz at h
 simp only[fnS,f150,Zm,go_sem,seval]
 refine Za h fun _ a h=>Zb (ZbQ a) ?_
 simp only[*,go_sem,seval]
 refine Za h fun _ b h=>Zb (Qq b) ?_
 simp only[*,go_sem,seval]
 refine Ze h (fun _ h=>?_) fun _ h=>?_<;>try simp only[*,go_sem,seval]
 refine Za h fun _ c h=>Zb (Y1 c) ?_
 simp only[*,go_sem,seval]
 refine Za h fun _ d h=>Zb (Qq d) ?_
 simp only[*,go_sem,seval]
 refine Ze h (fun _ h=>?_) fun _ h=>?_<;>try simp only[*,go_sem,seval]
 refine Za h fun _ e h=>Zb (Y1 e) ?_
 iterate 2 (cases h;simp only[*,go_sem,seval])
 refine Za h fun _ f h=>Zb (Qq f) ?_
 simp only[*,go_sem,seval]
 refine Ze h (fun _ h=>?_) fun _ h=>?_<;>try simp only[*,go_sem,seval]
 refine Za h fun _ g h=>Zb (Y1 g) ?_
 iterate 2 (cases h;simp only[*,go_sem,seval])
theorem Zdi {a:(List Zd)} {f_1:Zd} {r:(List Zd)} (h:YI a f_1=some r):Zl prog J0 117 [(false,[.sl 71 2 (A0 Zq a)]),(true,Zq f_1)] [(false,[(false,.sl 71 2 (A0 Zq r))])]:=by
 refine fnk func117 rfl ?_
 unfold YI at h
 simp only[fnS,f117,Zm,go_sem,seval]
 refine Zh h (fun i s st=>match s with | (b,d)=>IV [(0,.p false [.c (.sl 71 2 (A0 Zq a))]),(3,.bp 0 0),(5,.p false [.row 1]),(6,.p false [.c (.bool d)]),(7,.p false [.c (.int .i64 ((i:Nat):Int))])] [.box 71 [.c (.str f_1.rel),.c (.sl 9 1 (A0 Zw f_1.args))],.row 71 2 (A0 Zq b) 2] st) [] [0,32] (by decide) ?_ ?_ ?_
 simp only[*,go_sem,seval]
 rintro _ _ ⟨b,d⟩ ⟨sl,ob,n⟩ _ e f k h _
 simp only[go_sem,seval,Zc] at f
 obtain ⟨⟨l,_,_,_,_⟩,_,_,hn⟩:=f
 subst hn
 have m:=WF.slotL k l (j:=0) rfl
 have:=ZB e
 have:=ZC e
 have:=Zj (ZA e) m
 simp only[*,go_sem,seval]
 refine Ze h (fun _ h=>?_) fun _ h=>?_<;>try simp only[*,go_sem,seval]
 refine Za h fun _ o h=>Zb (Xr o) ?_
 obtain ⟨q,h⟩:=Zs h
 try simp only[Nat.reduceLeDiff] at q
 simp only[*,go_sem,seval]
 refine ⟨_,[],[0,354],(A3 h).symm,by decide,?_⟩
 simp only[*,go_sem,seval]
 refine Za h fun _ t h=>Zb (Za3 t) ?_
 simp only[*,go_sem,seval]
 refine Ze h (fun _ h=>?_) fun _ h=>?_<;>try simp only[*,go_sem,seval]
 refine Za h fun _ u h=>Zb (Za3 u) ?_
 simp only[*,go_sem,seval]
 refine Ze h (fun _ h=>?_) fun _ h=>?_<;>try simp only[*,go_sem,seval]
 refine Za h fun _ v h=>Zb (Xr v) ?_
 obtain ⟨w,h⟩:=Zs h
 try simp only[Nat.reduceLeDiff] at w
 simp only[*,go_sem,seval]
 refine Za h fun _ x h=>Zb (Xr x) ?_
 obtain ⟨y,h⟩:=Zs h
 try simp only[Nat.reduceLeDiff] at y
 simp only[*,go_sem,seval]
 refine ⟨_,[],[0,578],(A3 h).symm,by decide,?_⟩
 simp only[*,go_sem,seval]
 refine Za h fun _ z h=>Zb (Xr z) ?_
 obtain ⟨A,h⟩:=Zs h
 try simp only[Nat.reduceLeDiff] at A
 simp only[*,go_sem,seval]
 refine ⟨_,[],[0,482],(A3 h).symm,by decide,?_⟩
 simp only[*,go_sem,seval]
 refine Za h fun _ B h=>Zb (Xr B) ?_
 obtain ⟨C,h⟩:=Zs h
 try simp only[Nat.reduceLeDiff] at C
 simp only[*,go_sem,seval]
 refine ⟨_,[],[0,354],(A3 h).symm,by decide,?_⟩
 simp only[*,go_sem,seval]
 rintro ⟨b,d⟩ ⟨sl,ob,n⟩ g _ h
 simp only[go_sem,seval,Zc] at g
 obtain ⟨⟨_,_,_,_,_⟩,_,_,hn⟩:=g
 subst hn
 have:=Zz (a.length)
 simp only[*,go_sem,seval]
 refine Ze h (fun _ h=>?_) fun _ h=>?_<;>try simp only[*,go_sem,seval]
 cases h
 simp only[*,go_sem,seval]
 refine Za h fun _ D h=>Zb (Xr D) ?_
 obtain ⟨E,h⟩:=Zs h
 try simp only[Nat.reduceLeDiff] at E
 cases h
 simp only[*,go_sem,seval]
end
section
set_option linter.unusedSimpArgs false
set_option linter.unusedVariables false
set_option maxRecDepth 1000000
set_option maxHeartbeats 4000000
theorem ZEt {b_0:Zu} {r:Bool} (h:ZDG b_0=some r):Zl prog J0 265 [(true,Qw b_0)] [(false,[(false,.bool r)])]:=by
 refine fnk func265 rfl ?_
 unfold ZDG at h
 simp only[fnS,f265,Zm,go_sem,seval]
 refine Za h fun _ o h=>Zb (ZF7 o) ?_
 simp only[*,go_sem,seval]
 refine Ze h (fun _ h=>?_) fun _ h=>?_<;>try simp only[*,go_sem,seval]
 refine Zh h (fun i _ st=>IV [(1,.bp 0 0),(3,.p false [.c (.int .i64 ((i:Nat):Int))])] [.box 91 [.c (.int .i64 b_0.nodes),.c (.sl 144 3 (A0 ZL b_0.reasons))]] st) [] [0] (by decide) ?_ ?_ ?_
 simp only[*,go_sem,seval]
 rintro q d ⟨⟩ ⟨sl,ob,n⟩ _ a e t h f
 simp only[go_sem,seval,Zc] at e
 obtain ⟨⟨_,_⟩,u,hn⟩:=e
 subst hn
 have v:=WF.boxL t u (j:=1) rfl
 have:=ZB a
 have:=ZC a
 have:=Zj (ZA a) v
 simp only[*,go_sem,seval]
 refine Zh h (fun i _ st=>IV [(1,.bp 0 0),(3,.p false [.c (.int .i64 ((q:Nat):Int))]),(4,.p false [.c (.int .i64 d.for_)]),(5,.p false [.c (.int .i64 ((i:Nat):Int))])] [.box 91 [.c (.int .i64 b_0.nodes),.c (.sl 144 3 (A0 ZL b_0.reasons))]] st) [] [0] (by decide) ?_ ?_ ?_
 simp only[*,go_sem,seval]
 rintro _ _ ⟨⟩ ⟨sl,ob,n⟩ _ b g w h k
 simp only[go_sem,seval,Zc] at g
 obtain ⟨⟨_,_,_,_⟩,x,hn⟩:=g
 subst hn
 have y:=WF.elL (WF.boxD w x (j:=1) rfl) a (j:=2) rfl
 have:=ZB b
 have:=ZC b
 have:=Zj (ZA b) y
 simp only[*,go_sem,seval]
 refine Ze h (fun _ h=>?_) fun _ h=>?_<;>try simp only[*,go_sem,seval]
 replace h:=Zo h k
 replace h:=Zo h f
 cases h
 simp only[*,go_sem,seval]
 refine Za h fun _ z h=>Zb (ZGl z) ?_
 obtain ⟨_,h⟩:=Zs h
 obtain ⟨_,_,h⟩:=ZJ h
 simp only[*,go_sem,seval]
 refine Ze h (fun _ h=>?_) fun _ h=>?_<;>try simp only[*,go_sem,seval]
 replace h:=Zo h k
 replace h:=Zo h f
 cases h
 simp only[*,go_sem,seval]
 refine ⟨_,[],[0],(A3 h).symm,by decide,?_⟩
 simp only[*,go_sem,seval]
 rintro ⟨⟩ ⟨sl,ob,n⟩ l _ h
 simp only[go_sem,seval,Zc] at l
 obtain ⟨⟨_,_,_,_⟩,_,hn⟩:=l
 subst hn
 have:=Zz (d.outs.length)
 simp only[*,go_sem,seval]
 refine ⟨_,[],[0],(A3 h).symm,by decide,?_⟩
 simp only[*,go_sem,seval]
 rintro ⟨⟩ ⟨sl,ob,n⟩ m _ h
 simp only[go_sem,seval,Zc] at m
 obtain ⟨⟨_,_⟩,_,hn⟩:=m
 subst hn
 have:=Zz (b_0.reasons.length)
 iterate 2 (cases h;simp only[*,go_sem,seval])
end
section
set_option linter.unusedSimpArgs false
set_option linter.unusedVariables false
set_option maxRecDepth 1000000
set_option maxHeartbeats 4000000
theorem ZLD {c_0:ZF} {r:(ByteArray × ZF)} (h:ZK2 c_0=some r):ZaU prog J0 JF0 228 (.box 184 (Za7 c_0)) [] [(false,[(false,.str r.1)])] (.box 184 (Za7 r.2)):=by
 refine fnh func228 rfl ?_
 unfold ZK2 at h
 have a:Z2 ⟨#[63,120]⟩=true:=by decide
 have b:Z2 ⟨#[63,121]⟩=true:=by decide
 have c:Z2 ⟨#[63,122]⟩=true:=by decide
 have d:Z2 ⟨#[]⟩=true:=by decide
 simp only[fnH,f228,ZcO,ZcW,Y9,go_sem,seval,a,b,c,d]
 obtain ⟨_,e,h⟩:=ZJ h
 refine QC (ZLB e) ?_
 simp only[*,go_sem,seval]
 refine Ze h (fun _ h=>?_) fun _ h=>?_<;>try simp only[*,go_sem,seval]
 obtain ⟨_,f,h⟩:=ZJ h
 refine QC (ZLC f) ?_
 cases h
 simp only[*,go_sem,seval]
 obtain ⟨_,g,h⟩:=ZJ h
 refine QC (ZjQ g) ?_
 cases h
 simp only[*,go_sem,seval]
theorem ZMa {c_0:ZF} {r:(Zd × ZF)} (h:ZLg c_0=some r):ZaU prog J0 JF0 261 (.box 184 (Za7 c_0)) [] [(true,[(false,.str r.1.rel),(false,.sl 9 1 (A0 Zw r.1.args))])] (.box 184 (Za7 r.2)):=by
 refine ZND [(6,[0,1,2,3,4,5,6,7],true)] func261 rfl ?_
 unfold ZLg at h
 simp only[fnH,f261,ZcO,ZcW,Y9,go_sem,ZKD,seval]
 obtain ⟨v1,e1,h⟩:=ZJ h
 refine QC (by have hh:=ZMl e1;first | exact hh | (simp only[go_sem,ZKD, *] at hh;exact hh)) ?_
 simp only[go_sem,ZKD,seval, *]
 refine XH h (fun s st=>match s with | (f_4,f_5,f_6,row_7,i_8)=>IV [(0,.bp 0 0),(2,.bp 1 0),(4,.p false [.c (.int .i64 v1.2.1)]),(5,.bp 2 0),(6,.p false [.c (.int .i64 i_8)])] [.box 184 [.c (.sl 5 1 (A0 Zek f_4)),.c (.int .i64 f_5),.c (.int .i64 f_6)],.box 71 [.c (.str ⟨#[]⟩),.nil 9 1],.box 71 [.c (.str v1.1),.row 3],.row 9 1 (A0 Zw row_7) 2] st) [(true,161,1)] [0,1,161,209] (by decide) ?_ ?_
 ·simp only[go_sem,ZKD,seval, *]
 ·rintro ⟨f_4,f_5,f_6,row_7,i_8⟩ ⟨sl,ob,n⟩ y2 hI3 hW4 h hy2
  simp only[go_sem,ZKD,seval,Zc] at hI3
  obtain ⟨⟨g5_0,g5_2,g5_4,g5_5,g5_6⟩,og5_0,og5_1,og5_2,og5_3,hn⟩:=hI3
  subst hn
  simp only[go_sem,ZKD,seval, *]
  refine Ze h (fun c6 h=>?_) (fun c6 h=>?_)<;>try simp only[go_sem,ZKD,seval, *]
  ·obtain ⟨v9,e7,h⟩:=ZJ h
   refine QC (by have hh:=ZLC e7;first | exact hh | (simp only[go_sem,ZKD, *] at hh;exact hh)) ?_
   obtain ⟨p8,h⟩:=Zs h
   try simp only[Nat.reduceLeDiff] at p8
   simp only[go_sem,ZKD,seval, *]
   refine ⟨_,[],[0,1,2,132],(A3 h).symm,by decide,?_⟩
   simp only[go_sem,ZKD,seval, *]
  ·replace h:=Zo h hy2
   obtain rfl:=A3 h
   simp only[go_sem,ZKD,seval, *]
theorem ZlI {l_0:(List Zd)} {r:Bool} (h:Zdd l_0=some r):Zl prog J0 112 [(false,[.sl 71 2 (A0 Zq l_0)])] [(false,[(false,.bool r)])]:=by
 refine fnk func112 rfl ?_
 unfold Zdd at h
 simp only[fnS,f112,Zm,go_sem,seval]
 refine Zh h (fun i _ st=>IV [(0,.p false [.c (.sl 71 2 (A0 Zq l_0))]),(3,.p false [.c (.int .i64 ((i:Nat):Int))])] [] st) [] [] (by decide) ?_ ?_ ?_
 simp only[*,go_sem,seval]
 rintro _ _ ⟨⟩ ⟨sl,ob,n⟩ _ a b f h d
 simp only[go_sem,seval,Zc] at b
 obtain ⟨⟨g,_⟩,hn⟩:=b
 subst hn
 have k:=WF.slotL f g (j:=0) rfl
 have:=ZB a
 have:=ZC a
 have:=Zj (ZA a) k
 simp only[*,go_sem,seval]
 refine Za h fun _ l h=>Zb (Zjg l) ?_
 simp only[*,go_sem,seval]
 iterate 2 refine Ze h (fun _ h=>?_) fun _ h=>?_<;>try simp only[*,go_sem,seval]
 obtain ⟨_,_,_,_,h⟩:=Zci h
 simp only[*,go_sem,seval]
 refine Za h fun _ m h=>Zb (Za3 m) ?_
 simp only[*,go_sem,seval]
 refine Ze h (fun _ h=>?_) fun _ h=>?_<;>try simp only[*,go_sem,seval]
 replace h:=Zo h d
 cases h
 simp only[*,go_sem,seval]
 refine ⟨_,[],[],(A3 h).symm,by decide,?_⟩
 simp only[*,go_sem,seval]
 refine ⟨_,[],[],(A3 h).symm,by decide,?_⟩
 simp only[*,go_sem,seval]
 replace h:=Zo h d
 cases h
 simp only[*,go_sem,seval]
 rintro ⟨⟩ ⟨sl,ob,n⟩ e _ h
 simp only[go_sem,seval,Zc] at e
 obtain ⟨⟨_,_⟩,hn⟩:=e
 subst hn
 have:=Zz (l_0.length)
 cases h
 simp only[*,go_sem,seval]
theorem ZoM {b_0:(List Zp)} {v_1:ByteArray} {value_2:ByteArray} {r:((List Zp) × Bool)} (h:Zfm b_0 v_1 value_2=some r):Zl prog J0 226 [(false,[.sl 135 2 (A0 ZZ b_0)]),(false,[.str v_1]),(false,[.str value_2])] [(false,[(false,.sl 135 2 (A0 ZZ r.1))]),(false,[(false,.bool r.2)])]:=by
 refine fnk func226 rfl ?_
 unfold Zfm at h
 simp only[fnS,f226,Zm,go_sem,seval]
 refine Za h fun _ a h=>Zb (Qy a) ?_
 simp only[*,go_sem,seval]
 refine Ze h (fun _ h=>?_) fun _ h=>?_<;>try simp only[*,go_sem,seval]
 refine Za h fun _ b h=>Zb (Qq b) ?_
 simp only[*,go_sem,seval]
 refine Ze h (fun _ h=>?_) fun _ h=>?_<;>try simp only[*,go_sem,seval]
 refine Za h fun _ c h=>Zb (XR c) ?_
 simp only[*,go_sem,seval]
 refine Ze h (fun _ h=>?_) fun _ h=>?_<;>try simp only[*,go_sem,seval]
 refine Za h fun _ d h=>Zb (Zcl d) ?_
 simp only[*,go_sem,seval]
 iterate 2 refine Ze h (fun _ h=>?_) fun _ h=>?_<;>try simp only[*,go_sem,seval]
 refine Za h fun _ e h=>Zb (Zf8 e) ?_
 iterate 2 (cases h;simp only[*,go_sem,seval])
 refine Ze h (fun _ h=>?_) fun _ h=>?_<;>try simp only[*,go_sem,seval]
 cases h
 simp only[*,go_sem,seval]
 refine Za h fun _ f h=>Zb (Zqy f) ?_
 iterate 4 (cases h;simp only[*,go_sem,seval])
theorem ZGr {b:Zu} {r:(List Int)} (h:ZEq b=some r):Zl prog J0 266 [(true,Qw b)] [(false,[(false,.sl 3 1 (A0 Z5 r))])]:=by
 refine fnk func266 rfl ?_
 unfold ZEq at h
 simp only[fnS,f266,Zm,go_sem,seval]
 refine Za h fun _ B h=>Zb (ZEt B) ?_
 simp only[*,go_sem,seval]
 refine Ze h (fun _ h=>?_) fun _ h=>?_<;>try simp only[*,go_sem,seval]
 obtain ⟨_,h⟩:=Zs h
 simp only[*,go_sem,seval]
 refine XH h (fun s st=>match s with | (q,e)=>IV [(1,.bp 0 0),(3,.p false [.row 1]),(4,.p false [.c (.int .i64 e)])] [.box 91 [.c (.int .i64 b.nodes),.c (.sl 144 3 (A0 ZL b.reasons))],.row 3 1 (A0 Z5 q) 2] st) [] [0,112] (by decide) ?_ ?_
 simp only[*,go_sem,seval]
 rintro ⟨q,e⟩ ⟨sl,ob,n⟩ _ t _ h C
 simp only[go_sem,seval,Zc] at t
 obtain ⟨⟨_,_,_⟩,_,_,hn⟩:=t
 subst hn
 simp only[*,go_sem,seval]
 refine Ze h (fun _ h=>?_) fun _ h=>?_<;>try simp only[*,go_sem,seval]
 refine Zh h (fun i f st=>IV [(1,.bp 0 0),(3,.p false [.row 1]),(4,.p false [.c (.int .i64 e)]),(5,.p false [.c (.int .i64 ((i:Nat):Int))])] [.box 91 [.c (.int .i64 b.nodes),.c (.sl 144 3 (A0 ZL b.reasons))],.row 3 1 (A0 Z5 f) 2] st) [] [0,1] (by decide) ?_ ?_ ?_
 simp only[*,go_sem,seval]
 rintro u d f ⟨sl,ob,n⟩ _ g v D h _
 simp only[go_sem,seval,Zc] at v
 obtain ⟨⟨_,_,_,_⟩,E,_,hn⟩:=v
 subst hn
 have F:=WF.boxL D E (j:=1) rfl
 have:=ZB g
 have:=ZC g
 have:=Zj (ZA g) F
 simp only[*,go_sem,seval]
 refine Zh h (fun i k st=>IV [(1,.bp 0 0),(3,.p false [.row 1]),(4,.p false [.c (.int .i64 e)]),(5,.p false [.c (.int .i64 ((u:Nat):Int))]),(6,.bp 2 0),(7,.p false [.c (.int .i64 ((i:Nat):Int))])] [.box 91 [.c (.int .i64 b.nodes),.c (.sl 144 3 (A0 ZL b.reasons))],.row 3 1 (A0 Z5 k) 2,.box 144 [.c (.int .i64 d.for_),.c (.sl 3 1 (A0 Z5 d.inn)),.c (.sl 3 1 (A0 Z5 d.outs))]] st) [] [0,1,162] (by decide) ?_ ?_ ?_
 simp only[*,go_sem,seval]
 rintro _ _ k ⟨sl,ob,n⟩ _ l w G h _
 simp only[go_sem,seval,Zc] at w
 obtain ⟨⟨_,_,_,_,_,_⟩,_,_,H,hn⟩:=w
 subst hn
 have I:=WF.boxL G H (j:=1) rfl
 have:=ZB l
 have:=ZC l
 have:=Zj (ZA l) I
 obtain ⟨_,h⟩:=Zs h
 obtain ⟨_,_,h⟩:=ZJ h
 obtain ⟨_,h⟩:=Zs h
 obtain ⟨_,_,h⟩:=ZJ h
 simp only[*,go_sem,seval]
 refine ⟨_,[],[0,1,2],(A3 h).symm,by decide,?_⟩
 simp only[*,go_sem,seval]
 rintro k ⟨sl,ob,n⟩ x _ h
 simp only[go_sem,seval,Zc] at x
 obtain ⟨⟨_,_,_,_,_,_⟩,_,_,_,hn⟩:=x
 subst hn
 have:=Zz (d.inn.length)
 simp only[*,go_sem,seval]
 refine Zh h (fun i m st=>IV [(1,.bp 0 0),(3,.p false [.row 1]),(4,.p false [.c (.int .i64 e)]),(5,.p false [.c (.int .i64 ((u:Nat):Int))]),(6,.bp 2 0),(8,.p false [.c (.int .i64 ((i:Nat):Int))])] [.box 91 [.c (.int .i64 b.nodes),.c (.sl 144 3 (A0 ZL b.reasons))],.row 3 1 (A0 Z5 m) 2,.box 144 [.c (.int .i64 d.for_),.c (.sl 3 1 (A0 Z5 d.inn)),.c (.sl 3 1 (A0 Z5 d.outs))]] st) [] [0,1,2] (by decide) ?_ ?_ ?_
 simp only[*,go_sem,seval]
 rintro _ _ m ⟨sl,ob,n⟩ _ o y J h _
 simp only[go_sem,seval,Zc] at y
 obtain ⟨⟨_,_,_,_,_,_⟩,_,_,K,hn⟩:=y
 subst hn
 have L:=WF.boxL J K (j:=2) rfl
 have:=ZB o
 have:=ZC o
 have:=Zj (ZA o) L
 obtain ⟨_,h⟩:=Zs h
 obtain ⟨_,_,h⟩:=ZJ h
 obtain ⟨_,h⟩:=Zs h
 obtain ⟨_,_,h⟩:=ZJ h
 simp only[*,go_sem,seval]
 refine ⟨_,[],[0,1,2],(A3 h).symm,by decide,?_⟩
 simp only[*,go_sem,seval]
 rintro m ⟨sl,ob,n⟩ z _ h
 simp only[go_sem,seval,Zc] at z
 obtain ⟨⟨_,_,_,_,_,_⟩,_,_,_,hn⟩:=z
 subst hn
 have:=Zz (d.outs.length)
 simp only[*,go_sem,seval]
 refine ⟨_,[],[0,1],(A3 h).symm,by decide,?_⟩
 simp only[*,go_sem,seval]
 rintro f ⟨sl,ob,n⟩ A _ h
 simp only[go_sem,seval,Zc] at A
 obtain ⟨⟨_,_,_,_⟩,_,_,hn⟩:=A
 subst hn
 have:=Zz (b.reasons.length)
 simp only[*,go_sem,seval]
 refine ⟨_,[],[0,1],(A3 h).symm,by decide,?_⟩
 simp only[*,go_sem,seval]
 replace h:=Zo h C
 iterate 2 (cases h;simp only[*,go_sem,seval])
end
section
set_option linter.unusedSimpArgs false
set_option linter.unusedVariables false
set_option maxRecDepth 1000000
set_option maxHeartbeats 4000000
theorem Zcx {p_0:Zv} {b_1:(List Zp)} {facts_2:(List Zd)} {r:(List Zd)} (h:Xc p_0 b_1 facts_2=some r):Zl prog J0 94 [(true,Qz p_0),(false,[.sl 135 2 (A0 ZZ b_1)]),(false,[.sl 71 2 (A0 Zq facts_2)])] [(false,[(false,.sl 71 2 (A0 Zq r))])]:=by
 refine fnk func94 rfl ?_
 unfold Xc at h
 simp only[fnS,f94,Zm,go_sem,seval]
 refine Zh h (fun i a st=>IV [(1,.p false [.c (.sl 135 2 (A0 ZZ b_1))]),(3,.bp 0 0),(7,.p false [.row 1]),(12,.p false [.c (.sl 71 2 (A0 Zq facts_2))]),(13,.p false [.c (.int .i64 ((facts_2.length:Nat):Int))]),(14,.p false [.c (.int .i64 ((i:Nat):Int))])] [.box 58 [.c (.str p_0.rel),.c (.sl 9 1 (A0 Zw p_0.args))],.row 71 2 (A0 Zq a) 2] st) [(false,7,0)] [0,96] (by decide) ?_ ?_ ?_
 simp only[*,go_sem,seval]
 rintro _ _ a ⟨sl,ob,n⟩ _ b d f h _
 simp only[go_sem,seval,Zc] at d
 obtain ⟨⟨_,_,_,g,_,_⟩,_,_,hn⟩:=d
 subst hn
 have k:=WF.slotL f g (j:=0) rfl
 have:=ZB b
 have:=ZC b
 have:=Zj (ZA b) k
 simp only[*,go_sem,seval]
 refine Za h fun _ l h=>Zb (Zfk l) ?_
 simp only[*,go_sem,seval]
 refine Ze h (fun _ h=>?_) fun _ h=>?_<;>try simp only[*,go_sem,seval]
 refine Za h fun _ m h=>Zb (YC m) ?_
 obtain ⟨o,h⟩:=Zs h
 try simp only[Nat.reduceLeDiff] at o
 simp only[*,go_sem,seval]
 refine ⟨_,[],[0,306],(A3 h).symm,by decide,?_⟩
 simp only[*,go_sem,seval]
 refine ⟨_,[],[0,1],(A3 h).symm,by decide,?_⟩
 simp only[*,go_sem,seval]
 rintro a ⟨sl,ob,n⟩ e _ h
 simp only[go_sem,seval,Zc] at e
 obtain ⟨⟨_,_,_,_,_,_⟩,_,_,hn⟩:=e
 subst hn
 have:=Zz (facts_2.length)
 cases h
 simp only[*,go_sem,seval]
theorem Zod {x_0:Zr} {r:Bool} (h:Zhs x_0=some r):Zl prog J0 258 [(true,ZK x_0)] [(false,[(false,.bool r)])]:=by
 refine fnk func258 rfl ?_
 unfold Zhs at h
 simp only[fnS,f258,Zm,go_sem,seval]
 refine Za h fun _ a h=>Zb (Zfj a) ?_
 simp only[*,go_sem,seval]
 refine Ze h (fun _ h=>?_) fun _ h=>?_<;>try simp only[*,go_sem,seval]
 iterate 2 (cases h;simp only[*,go_sem,seval])
theorem ZgJ {r_0:Zf} {k_1:Int} {r:Bool} (h:Zbs r_0 k_1=some r):Zl prog J0 202 [(true,ZG r_0),(false,[.int .i64 k_1])] [(false,[(false,.bool r)])]:=by
 refine fnk func202 rfl ?_
 unfold Zbs at h
 simp only[fnS,f202,Zm,go_sem,seval]
 obtain ⟨a,_,_,_,h⟩:=Zci h
 simp only[*,go_sem,seval]
 refine Za h fun j k h=>Zb (ZcQ k) ?_
 simp only[*,go_sem,seval]
 refine Za h fun b l h=>Zb (ZbA l) ?_
 simp only[*,go_sem,seval]
 refine Zh h (fun i _ st=>IV [(1,.p false [.c (.int .i64 k_1)]),(2,.bp 0 0),(5,.bp 1 0),(6,.p false [.row 2]),(18,.p false [.row 3]),(19,.p false [.c (.int .i64 ((b.length:Nat):Int))]),(20,.p false [.c (.int .i64 ((i:Nat):Int))])] [.box 104 [.c (.str r_0.name),.c (.int .i64 r_0.priority),.c (.sl 60 5 (A0 ZK r_0.cond)),.c (.sl 166 3 (A0 ZD r_0.thn))],.box 60 [.c (.int .i64 a.kind),.c (.str a.pattern.rel),.c (.sl 9 1 (A0 Zw a.pattern.args)),.c (.str a.left),.c (.str a.right)],.row 9 1 (A0 Zw j) 2,.row 9 1 (A0 Zw b) 2] st) [] [0,112,176,224] (by decide) ?_ ?_ ?_
 simp only[*,go_sem,seval]
 rintro _ _ ⟨⟩ ⟨sl,ob,n⟩ _ d e m h f
 simp only[go_sem,seval,Zc] at e
 obtain ⟨⟨_,_,_,_,_,_,_⟩,_,_,_,o,hn⟩:=e
 subst hn
 have q:=WF.rowL m o
 have:=ZB d
 have:=ZC d
 have:=Zj (ZA d) q
 simp only[*,go_sem,seval]
 refine Ze h (fun _ h=>?_) fun _ h=>?_<;>try simp only[*,go_sem,seval]
 refine ⟨_,[],[0,1,2,3],(A3 h).symm,by decide,?_⟩
 simp only[*,go_sem,seval]
 refine Za h fun _ t h=>Zb (QT t) ?_
 simp only[*,go_sem,seval]
 refine Ze h (fun _ h=>?_) fun _ h=>?_<;>try simp only[*,go_sem,seval]
 refine ⟨_,[],[0,1,2,3],(A3 h).symm,by decide,?_⟩
 simp only[*,go_sem,seval]
 refine Ze h (fun _ h=>?_) fun _ h=>?_<;>try simp only[*,go_sem,seval]
 replace h:=Zo h f
 cases h
 simp only[*,go_sem,seval]
 refine Za h fun _ u h=>Zb (Zfo u) ?_
 simp only[*,go_sem,seval]
 refine Ze h (fun _ h=>?_) fun _ h=>?_<;>try simp only[*,go_sem,seval]
 replace h:=Zo h f
 cases h
 simp only[*,go_sem,seval]
 refine ⟨_,[],[0,1,2,3],(A3 h).symm,by decide,?_⟩
 simp only[*,go_sem,seval]
 rintro ⟨⟩ ⟨sl,ob,n⟩ g _ h
 simp only[go_sem,seval,Zc] at g
 obtain ⟨⟨_,_,_,_,_,_,_⟩,_,_,_,_,hn⟩:=g
 subst hn
 have:=Zz (b.length)
 cases h
 simp only[*,go_sem,seval]
theorem Zdw {x_0:Zr} {r:Bool} (h:Zb1 x_0=some r):Zl prog J0 88 [(true,ZK x_0)] [(false,[(false,.bool r)])]:=by
 refine fnk func88 rfl ?_
 unfold Zb1 at h
 have a:Z2 ⟨#[]⟩=true:=by decide
 simp only[fnS,f88,Zm,go_sem,seval,a]
 refine Ze h (fun _ h=>?_) fun _ h=>?_<;>try simp only[*,go_sem,seval]
 refine Za h fun _ b h=>Zb (Y3 b) ?_
 simp only[*,go_sem,seval]
 iterate 2 refine Ze h (fun _ h=>?_) fun _ h=>?_<;>try simp only[*,go_sem,seval]
 iterate 3 (cases h;simp only[*,go_sem,seval])
 refine Ze h (fun _ h=>?_) fun _ h=>?_<;>try simp only[*,go_sem,seval]
 refine Za h fun _ c h=>Zb (Y3 c) ?_
 simp only[*,go_sem,seval]
 iterate 2 refine Ze h (fun _ h=>?_) fun _ h=>?_<;>try simp only[*,go_sem,seval]
 iterate 3 (cases h;simp only[*,go_sem,seval])
 iterate 3 refine Ze h (fun _ h=>?_) fun _ h=>?_<;>try simp only[*,go_sem,seval]
 refine Za h fun _ d h=>Zb (Qp d) ?_
 simp only[*,go_sem,seval]
 refine Ze h (fun _ h=>?_) fun _ h=>?_<;>try simp only[*,go_sem,seval]
 refine Za h fun _ e h=>Zb (Qp e) ?_
 iterate 4 (cases h;simp only[*,go_sem,seval])
 iterate 3 refine Ze h (fun _ h=>?_) fun _ h=>?_<;>try simp only[*,go_sem,seval]
 refine Za h fun _ f h=>Zb (Qp f) ?_
 simp only[*,go_sem,seval]
 refine Ze h (fun _ h=>?_) fun _ h=>?_<;>try simp only[*,go_sem,seval]
 refine Za h fun _ g h=>Zb (Qp g) ?_
 iterate 4 (cases h;simp only[*,go_sem,seval])
 iterate 3 refine Ze h (fun _ h=>?_) fun _ h=>?_<;>try simp only[*,go_sem,seval]
 refine Za h fun _ i h=>Zb (Qp i) ?_
 simp only[*,go_sem,seval]
 refine Ze h (fun _ h=>?_) fun _ h=>?_<;>try simp only[*,go_sem,seval]
 refine Za h fun _ j h=>Zb (Qp j) ?_
 iterate 5 (cases h;simp only[*,go_sem,seval])
theorem Zem {r_0:Zf} {i_1:Int} {v_2:ByteArray} {r:Bool} (h:Xu r_0 i_1 v_2=some r):Zl prog J0 153 [(true,ZG r_0),(false,[.int .i64 i_1]),(false,[.str v_2])] [(false,[(false,.bool r)])]:=by
 refine fnk func153 rfl ?_
 unfold Xu at h
 simp only[fnS,f153,Zm,go_sem,seval]
 refine Zh h (fun i _ st=>IV [(1,.p false [.c (.int .i64 i_1)]),(2,.p false [.c (.str v_2)]),(3,.bp 0 0),(7,.p false [.c (.int .i64 ((i:Nat):Int))])] [.box 104 [.c (.str r_0.name),.c (.int .i64 r_0.priority),.c (.sl 60 5 (A0 ZK r_0.cond)),.c (.sl 166 3 (A0 ZD r_0.thn))]] st) [] [0] (by decide) ?_ ?_ ?_
 simp only[*,go_sem,seval]
 rintro _ _ ⟨⟩ ⟨sl,ob,n⟩ _ a d k h l
 simp only[go_sem,seval,Zc] at d
 obtain ⟨⟨_,_,_,_⟩,m,hn⟩:=d
 subst hn
 have o:=WF.boxL k m (j:=2) rfl
 have:=ZB a
 have:=ZC a
 have:=Zj (ZA a) o
 simp only[*,go_sem,seval]
 refine Ze h (fun _ h=>?_) fun _ h=>?_<;>try simp only[*,go_sem,seval]
 refine Za h fun _ q h=>Zb (Q7 q) ?_
 simp only[*,go_sem,seval]
 refine Za h fun _ t h=>Zb (Ym t) ?_
 simp only[*,go_sem,seval]
 refine Ze h (fun _ h=>?_) fun _ h=>?_<;>try simp only[*,go_sem,seval]
 replace h:=Zo h l
 cases h
 simp only[*,go_sem,seval]
 refine ⟨_,[],[0],(A3 h).symm,by decide,?_⟩
 simp only[*,go_sem,seval]
 refine ⟨_,[],[0],(A3 h).symm,by decide,?_⟩
 simp only[*,go_sem,seval]
 rintro ⟨⟩ ⟨sl,ob,n⟩ e _ h
 simp only[go_sem,seval,Zc] at e
 obtain ⟨⟨_,_,_,_⟩,_,hn⟩:=e
 subst hn
 have:=Zz (r_0.cond.length)
 simp only[*,go_sem,seval]
 refine Zh h (fun i _ st=>IV [(2,.p false [.c (.str v_2)]),(3,.bp 0 0),(8,.p false [.c (.int .i64 ((i:Nat):Int))])] [.box 104 [.c (.str r_0.name),.c (.int .i64 r_0.priority),.c (.sl 60 5 (A0 ZK r_0.cond)),.c (.sl 166 3 (A0 ZD r_0.thn))]] st) [] [0] (by decide) ?_ ?_ ?_
 simp only[*,go_sem,seval]
 rintro _ _ ⟨⟩ ⟨sl,ob,n⟩ _ b f u h v
 simp only[go_sem,seval,Zc] at f
 obtain ⟨⟨_,_,_⟩,w,hn⟩:=f
 subst hn
 have x:=WF.boxL u w (j:=3) rfl
 have:=ZB b
 have:=ZC b
 have:=Zj (ZA b) x
 simp only[*,go_sem,seval]
 refine Za h fun _ y h=>Zb (ZbQ y) ?_
 simp only[*,go_sem,seval]
 refine Za h fun _ z h=>Zb (Ym z) ?_
 simp only[*,go_sem,seval]
 refine Ze h (fun _ h=>?_) fun _ h=>?_<;>try simp only[*,go_sem,seval]
 replace h:=Zo h v
 cases h
 simp only[*,go_sem,seval]
 refine ⟨_,[],[0],(A3 h).symm,by decide,?_⟩
 simp only[*,go_sem,seval]
 rintro ⟨⟩ ⟨sl,ob,n⟩ g _ h
 simp only[go_sem,seval,Zc] at g
 obtain ⟨⟨_,_,_⟩,_,hn⟩:=g
 subst hn
 have:=Zz (r_0.thn.length)
 cases h
 simp only[*,go_sem,seval]
theorem ZlF {a_0:Zx} {r:Bool} (h:ZcM a_0=some r):Zl prog J0 154 [(true,ZD a_0)] [(false,[(false,.bool r)])]:=by
 refine fnk func154 rfl ?_
 unfold ZcM at h
 have a:Z2 ⟨#[]⟩=true:=by decide
 simp only[fnS,f154,Zm,go_sem,seval,a]
 refine Ze h (fun _ h=>?_) fun _ h=>?_<;>try simp only[*,go_sem,seval]
 refine Za h fun _ b h=>Zb (Y3 b) ?_
 cases h
 simp only[*,go_sem,seval]
 refine Ze h (fun _ h=>?_) fun _ h=>?_<;>try simp only[*,go_sem,seval]
 refine Za h fun _ c h=>Zb (Y3 c) ?_
 cases h
 simp only[*,go_sem,seval]
 iterate 2 refine Ze h (fun _ h=>?_) fun _ h=>?_<;>try simp only[*,go_sem,seval]
 iterate 3 (cases h;simp only[*,go_sem,seval])
theorem Zl1 {r_0:Zf} {r:(List ByteArray)} (h:ZcH r_0=some r):Zl prog J0 156 [(true,ZG r_0)] [(false,[(false,.sl 9 1 (A0 Zw r))])]:=by
 refine fnk func156 rfl ?_
 unfold ZcH at h
 simp only[fnS,f156,Zm,go_sem,seval]
 refine Zh h (fun i a st=>IV [(1,.bp 0 0),(3,.p false [.row 1]),(4,.p false [.c (.int .i64 ((i:Nat):Int))])] [.box 104 [.c (.str r_0.name),.c (.int .i64 r_0.priority),.c (.sl 60 5 (A0 ZK r_0.cond)),.c (.sl 166 3 (A0 ZD r_0.thn))],.row 9 1 (A0 Zw a) 2] st) [] [0,32] (by decide) ?_ ?_ ?_
 simp only[*,go_sem,seval]
 rintro A _ a ⟨sl,ob,n⟩ _ b m B h _
 simp only[go_sem,seval,Zc] at m
 obtain ⟨⟨_,_,_⟩,C,_,hn⟩:=m
 subst hn
 have D:=WF.boxL B C (j:=2) rfl
 have:=ZB b
 have:=ZC b
 have:=Zj (ZA b) D
 simp only[*,go_sem,seval]
 refine Za h fun o E h=>Zb (Q7 E) ?_
 simp only[*,go_sem,seval]
 refine Zh h (fun i d st=>IV [(1,.bp 0 0),(3,.p false [.row 1]),(4,.p false [.c (.int .i64 ((A:Nat):Int))]),(5,.p false [.row 2]),(6,.p false [.c (.int .i64 ((i:Nat):Int))])] [.box 104 [.c (.str r_0.name),.c (.int .i64 r_0.priority),.c (.sl 60 5 (A0 ZK r_0.cond)),.c (.sl 166 3 (A0 ZD r_0.thn))],.row 9 1 (A0 Zw d) 2,.row 9 1 (A0 Zw o) 2] st) [] [0,1,162] (by decide) ?_ ?_ ?_
 simp only[*,go_sem,seval]
 rintro _ _ d ⟨sl,ob,n⟩ _ e q F h _
 simp only[go_sem,seval,Zc] at q
 obtain ⟨⟨_,_,_,_,_⟩,_,_,G,hn⟩:=q
 subst hn
 have H:=WF.rowL F G
 have:=ZB e
 have:=ZC e
 have:=Zj (ZA e) H
 simp only[*,go_sem,seval]
 refine Za h fun _ I h=>Zb (Y1 I) ?_
 simp only[*,go_sem,seval]
 refine ⟨_,[],[0,147,2],(A3 h).symm,by decide,?_⟩
 simp only[*,go_sem,seval]
 rintro d ⟨sl,ob,n⟩ t _ h
 simp only[go_sem,seval,Zc] at t
 obtain ⟨⟨_,_,_,_,_⟩,_,_,_,hn⟩:=t
 subst hn
 have:=Zz (o.length)
 simp only[*,go_sem,seval]
 refine ⟨_,[],[0,1],(A3 h).symm,by decide,?_⟩
 simp only[*,go_sem,seval]
 rintro a ⟨sl,ob,n⟩ u _ h
 simp only[go_sem,seval,Zc] at u
 obtain ⟨⟨_,_,_⟩,_,_,hn⟩:=u
 subst hn
 have:=Zz (r_0.cond.length)
 simp only[*,go_sem,seval]
 refine Zh h (fun i f st=>IV [(1,.bp 0 0),(3,.p false [.row 1]),(7,.p false [.c (.int .i64 ((i:Nat):Int))])] [.box 104 [.c (.str r_0.name),.c (.int .i64 r_0.priority),.c (.sl 60 5 (A0 ZK r_0.cond)),.c (.sl 166 3 (A0 ZD r_0.thn))],.row 9 1 (A0 Zw f) 2] st) [] [0,1] (by decide) ?_ ?_ ?_
 simp only[*,go_sem,seval]
 rintro J _ f ⟨sl,ob,n⟩ _ g v K h _
 simp only[go_sem,seval,Zc] at v
 obtain ⟨⟨_,_,_⟩,L,_,hn⟩:=v
 subst hn
 have M:=WF.boxL K L (j:=3) rfl
 have:=ZB g
 have:=ZC g
 have:=Zj (ZA g) M
 simp only[*,go_sem,seval]
 refine Za h fun w N h=>Zb (ZbQ N) ?_
 simp only[*,go_sem,seval]
 refine Zh h (fun i k st=>IV [(1,.bp 0 0),(3,.p false [.row 1]),(7,.p false [.c (.int .i64 ((J:Nat):Int))]),(8,.p false [.row 2]),(9,.p false [.c (.int .i64 ((i:Nat):Int))])] [.box 104 [.c (.str r_0.name),.c (.int .i64 r_0.priority),.c (.sl 60 5 (A0 ZK r_0.cond)),.c (.sl 166 3 (A0 ZD r_0.thn))],.row 9 1 (A0 Zw k) 2,.row 9 1 (A0 Zw w) 2] st) [] [0,1,178] (by decide) ?_ ?_ ?_
 simp only[*,go_sem,seval]
 rintro _ _ k ⟨sl,ob,n⟩ _ l x O h _
 simp only[go_sem,seval,Zc] at x
 obtain ⟨⟨_,_,_,_,_⟩,_,_,P,hn⟩:=x
 subst hn
 have Q:=WF.rowL O P
 have:=ZB l
 have:=ZC l
 have:=Zj (ZA l) Q
 simp only[*,go_sem,seval]
 refine Za h fun _ R h=>Zb (Y1 R) ?_
 simp only[*,go_sem,seval]
 refine ⟨_,[],[0,147,2],(A3 h).symm,by decide,?_⟩
 simp only[*,go_sem,seval]
 rintro k ⟨sl,ob,n⟩ y _ h
 simp only[go_sem,seval,Zc] at y
 obtain ⟨⟨_,_,_,_,_⟩,_,_,_,hn⟩:=y
 subst hn
 have:=Zz (w.length)
 simp only[*,go_sem,seval]
 refine ⟨_,[],[0,1],(A3 h).symm,by decide,?_⟩
 simp only[*,go_sem,seval]
 rintro f ⟨sl,ob,n⟩ z _ h
 simp only[go_sem,seval,Zc] at z
 obtain ⟨⟨_,_,_⟩,_,_,hn⟩:=z
 subst hn
 have:=Zz (r_0.thn.length)
 cases h
 simp only[*,go_sem,seval]
theorem Xi {s_0:ByteArray} {r:(Zv × Bool)} (h:Yd s_0=some r):Zl prog J0 288 [(false,[.str s_0])] [(true,[(false,.str r.1.rel),(false,.sl 9 1 (A0 Zw r.1.args))]),(false,[(false,.bool r.2)])]:=by
 refine fnk func288 rfl ?_
 unfold Yd at h
 simp only[fnS,f288,Zm,go_sem,seval]
 refine Za h fun _ a h=>Zb (Znw a) ?_
 simp only[*,go_sem,seval]
 refine Ze h (fun _ h=>?_) fun _ h=>?_<;>try simp only[*,go_sem,seval]
 refine Za h fun _ b h=>Zb (Y3 b) ?_
 simp only[*,go_sem,seval]
 refine Ze h (fun _ h=>?_) fun _ h=>?_<;>try simp only[*,go_sem,seval]
 iterate 3 (cases h;simp only[*,go_sem,seval])
theorem Znx {c_0:ZF} {most_1:Int} {r:((List Zd) × ZF)} (h:Zeo c_0 most_1=some r):ZaU prog J0 JF0 110 (.box 184 (Za7 c_0)) [(false,[.int .i64 most_1])] [(false,[(false,.sl 71 2 (A0 Zq r.1))])] (.box 184 (Za7 r.2)):=by
 refine fnh func110 rfl ?_
 unfold Zeo at h
 have j:Z2 ⟨#[111,110]⟩=true:=by decide
 have k:Z2 ⟨#[112]⟩=true:=by decide
 have l:Z2 ⟨#[113]⟩=true:=by decide
 have m:Z2 ⟨#[49]⟩=true:=by decide
 have o:Z2 ⟨#[50]⟩=true:=by decide
 have q:Z2 ⟨#[97,116]⟩=true:=by decide
 have t:Z2 ⟨#[97]⟩=true:=by decide
 have u:Z2 ⟨#[98]⟩=true:=by decide
 simp only[fnH,f110,ZcO,ZcW,Y9,go_sem,seval,j,k,l,m,o,q,t,u]
 obtain ⟨_,v,h⟩:=ZJ h
 refine QC (QS v) ?_
 simp only[*,go_sem,seval]
 refine XH h (fun s st=>match s with | (b,d,e,f,g)=>IV [(0,.bp 0 0),(5,.p false [.row 1]),(6,.p false [.c (.int .i64 g)])] [.box 184 [.c (.sl 5 1 (A0 Zek b)),.c (.int .i64 d),.c (.int .i64 e)],.row 71 2 (A0 Zq f) 2] st) [] [0,17] (by decide) ?_ ?_
 simp only[*,go_sem,seval]
 rintro ⟨b,d,e,f,g⟩ ⟨sl,ob,n⟩ _ i _ h w
 simp only[go_sem,seval,Zc] at i
 obtain ⟨⟨_,_,_⟩,_,_,hn⟩:=i
 subst hn
 simp only[*,go_sem,seval]
 refine Ze h (fun _ h=>?_) fun _ h=>?_<;>try simp only[*,go_sem,seval]
 obtain ⟨_,x,h⟩:=ZJ h
 refine QC (ZjQ x) ?_
 simp only[*,go_sem,seval]
 obtain ⟨_,y,h⟩:=ZJ h
 refine QC (ZjQ y) ?_
 simp only[*,go_sem,seval]
 obtain ⟨_,z,h⟩:=ZJ h
 refine QC (QS z) ?_
 simp only[*,go_sem,seval]
 refine Ze h (fun _ h=>?_) fun _ h=>?_<;>try simp only[*,go_sem,seval]
 refine Za h fun _ A h=>Zb (Zdi A) ?_
 simp only[*,go_sem,seval]
 refine ⟨_,[],[0,290],(A3 h).symm,by decide,?_⟩
 simp only[*,go_sem,seval]
 refine Ze h (fun _ h=>?_) fun _ h=>?_<;>try simp only[*,go_sem,seval]
 refine Za h fun _ B h=>Zb (Zdi B) ?_
 simp only[*,go_sem,seval]
 refine ⟨_,[],[0,338],(A3 h).symm,by decide,?_⟩
 simp only[*,go_sem,seval]
 refine Ze h (fun _ h=>?_) fun _ h=>?_<;>try simp only[*,go_sem,seval]
 refine Za h fun _ C h=>Zb (Zdi C) ?_
 simp only[*,go_sem,seval]
 refine ⟨_,[],[0,354],(A3 h).symm,by decide,?_⟩
 simp only[*,go_sem,seval]
 refine Za h fun _ D h=>Zb (Zdi D) ?_
 simp only[*,go_sem,seval]
 refine ⟨_,[],[0,370],(A3 h).symm,by decide,?_⟩
 simp only[*,go_sem,seval]
 replace h:=Zo h w
 cases h
 simp only[*,go_sem,seval]
theorem ZKT {c_0:ZF} {r:(Zv × ZF)} (h:ZKO c_0=some r):ZaU prog J0 JF0 164 (.box 184 (Za7 c_0)) [] [(true,[(false,.str r.1.rel),(false,.sl 9 1 (A0 Zw r.1.args))])] (.box 184 (Za7 r.2)):=by
 refine ZND [(6,[0,1,2,3,4,5,6,7],true)] func164 rfl ?_
 unfold ZKO at h
 simp only[fnH,f164,ZcO,ZcW,Y9,go_sem,ZKD,seval]
 obtain ⟨v1,e1,h⟩:=ZJ h
 refine QC (by have hh:=ZMl e1;first | exact hh | (simp only[go_sem,ZKD, *] at hh;exact hh)) ?_
 simp only[go_sem,ZKD,seval, *]
 refine XH h (fun s st=>match s with | (f_4,f_5,f_6,row_7,i_8)=>IV [(0,.bp 0 0),(2,.bp 1 0),(4,.p false [.c (.int .i64 v1.2.1)]),(5,.bp 2 0),(6,.p false [.c (.int .i64 i_8)])] [.box 184 [.c (.sl 5 1 (A0 Zek f_4)),.c (.int .i64 f_5),.c (.int .i64 f_6)],.box 58 [.c (.str ⟨#[]⟩),.nil 9 1],.box 58 [.c (.str v1.1),.row 3],.row 9 1 (A0 Zw row_7) 2] st) [(true,161,1)] [0,1,161,209] (by decide) ?_ ?_
 ·simp only[go_sem,ZKD,seval, *]
 ·rintro ⟨f_4,f_5,f_6,row_7,i_8⟩ ⟨sl,ob,n⟩ y2 hI3 hW4 h hy2
  simp only[go_sem,ZKD,seval,Zc] at hI3
  obtain ⟨⟨g5_0,g5_2,g5_4,g5_5,g5_6⟩,og5_0,og5_1,og5_2,og5_3,hn⟩:=hI3
  subst hn
  simp only[go_sem,ZKD,seval, *]
  refine Ze h (fun c6 h=>?_) (fun c6 h=>?_)<;>try simp only[go_sem,ZKD,seval, *]
  ·obtain ⟨v9,e7,h⟩:=ZJ h
   refine QC (by have hh:=ZLD e7;first | exact hh | (simp only[go_sem,ZKD, *] at hh;exact hh)) ?_
   obtain ⟨p8,h⟩:=Zs h
   try simp only[Nat.reduceLeDiff] at p8
   simp only[go_sem,ZKD,seval, *]
   refine ⟨_,[],[0,1,2,132],(A3 h).symm,by decide,?_⟩
   simp only[go_sem,ZKD,seval, *]
  ·replace h:=Zo h hy2
   obtain rfl:=A3 h
   simp only[go_sem,ZKD,seval, *]
theorem ZNi {c_0:ZF} {most_1:Int} {r:((List Zd) × ZF)} (h:ZLS c_0 most_1=some r):ZaU prog J0 JF0 220 (.box 184 (Za7 c_0)) [(false,[.int .i64 most_1])] [(false,[(false,.sl 71 2 (A0 Zq r.1))])] (.box 184 (Za7 r.2)):=by
 refine fnh func220 rfl ?_
 unfold ZLS at h
 simp only[fnH,f220,ZcO,ZcW,Y9,go_sem,seval]
 obtain ⟨_,j,h⟩:=ZJ h
 refine QC (QS j) ?_
 simp only[*,go_sem,seval]
 refine XH h (fun s st=>match s with | (b,d,e,f,g)=>IV [(0,.bp 0 0),(5,.p false [.row 1]),(6,.p false [.c (.int .i64 g)])] [.box 184 [.c (.sl 5 1 (A0 Zek b)),.c (.int .i64 d),.c (.int .i64 e)],.row 71 2 (A0 Zq f) 2] st) [] [0,17] (by decide) ?_ ?_
 simp only[*,go_sem,seval]
 rintro ⟨b,d,e,f,g⟩ ⟨sl,ob,n⟩ _ i _ h k
 simp only[go_sem,seval,Zc] at i
 obtain ⟨⟨_,_,_⟩,_,_,hn⟩:=i
 subst hn
 simp only[*,go_sem,seval]
 refine Ze h (fun _ h=>?_) fun _ h=>?_<;>try simp only[*,go_sem,seval]
 obtain ⟨_,l,h⟩:=ZJ h
 refine QC (ZMa l) ?_
 simp only[*,go_sem,seval]
 refine Za h fun _ m h=>Zb (Zdi m) ?_
 simp only[*,go_sem,seval]
 refine ⟨_,[],[0,82],(A3 h).symm,by decide,?_⟩
 simp only[*,go_sem,seval]
 replace h:=Zo h k
 cases h
 simp only[*,go_sem,seval]
theorem ZNk {c_0:ZF} {r:(Zd × ZF)} (h:ZLV c_0=some r):ZaU prog J0 JF0 221 (.box 184 (Za7 c_0)) [] [(true,[(false,.str r.1.rel),(true,.sl 9 1 (A0 Zw r.1.args))])] (.box 184 (Za7 r.2)):=by
 refine ZND [(6,[0,1,2,3,4,5,6,7],true)] func221 rfl ?_
 unfold ZLV at h
 have ks0:Z2 ⟨#[97]⟩=true:=by decide
 have ks1:Z2 ⟨#[98]⟩=true:=by decide
 have ks2:Z2 ⟨#[99]⟩=true:=by decide
 simp only[fnH,f221,ZcO,ZcW,Y9,go_sem,ZKD,seval,ks0,ks1,ks2]
 obtain ⟨v1,e1,h⟩:=ZJ h
 refine QC (by have hh:=ZMa e1;first | exact hh | (simp only[go_sem,ZKD, *] at hh;exact hh)) ?_
 simp only[go_sem,ZKD,seval, *]
 obtain ⟨v2,e2,h⟩:=ZJ h
 refine QC (by have hh:=QS e2;first | exact hh | (simp only[go_sem,ZKD, *] at hh;exact hh)) ?_
 simp only[go_sem,ZKD,seval, *]
 refine Ze h (fun c3 h=>?_) (fun c3 h=>?_)<;>try simp only[go_sem,ZKD,seval, *]
 ·obtain ⟨v3,e4,h⟩:=ZJ h
  refine QC (by have hh:=ZKU e4;first | exact hh | (simp only[go_sem,ZKD, *] at hh;exact hh)) ?_
  obtain rfl:=A3 h
  simp only[go_sem,ZKD,seval, *]
 ·refine Ze h (fun c5 h=>?_) (fun c5 h=>?_)<;>try simp only[go_sem,ZKD,seval, *]
  ·obtain ⟨v4,e6,h⟩:=ZJ h
   refine QC (by have hh:=ZKU e6;first | exact hh | (simp only[go_sem,ZKD, *] at hh;exact hh)) ?_
   obtain ⟨p7,h⟩:=Zs h
   try simp only[Nat.reduceLeDiff] at p7
   obtain rfl:=A3 h
   simp only[go_sem,ZKD,seval, *]
  ·refine Ze h (fun c8 h=>?_) (fun c8 h=>?_)<;>try simp only[go_sem,ZKD,seval, *]
   ·obtain ⟨v5,e9,h⟩:=ZJ h
    refine QC (by have hh:=QS e9;first | exact hh | (simp only[go_sem,ZKD, *] at hh;exact hh)) ?_
    obtain ⟨p10,h⟩:=Zs h
    try simp only[seval] at p10
    obtain rfl:=A3 h
    simp only[go_sem,ZKD,seval, *]
   ·obtain rfl:=A3 h
    simp only[go_sem,ZKD,seval, *]
theorem ZfU {append_0:Zv} {String_1:Zd} {a_2:(List Zp)} {r:((List Zp) × Bool)} (h:Zau append_0 String_1 a_2=some r):Zl prog J0 161 [(true,Qz append_0),(true,Zq String_1),(false,[.sl 135 2 (A0 ZZ a_2)])] [(false,[(false,.sl 135 2 (A0 ZZ r.1))]),(false,[(false,.bool r.2)])]:=by
 refine fnk func161 rfl ?_
 unfold Zau at h
 simp only[fnS,f161,Zm,go_sem,seval]
 refine Za h fun _ g h=>Zb (Y3 g) ?_
 simp only[*,go_sem,seval]
 refine Ze h (fun _ h=>?_) fun _ h=>?_<;>try simp only[*,go_sem,seval]
 refine Za h fun _ k h=>Zb (Zjg k) ?_
 simp only[*,go_sem,seval]
 refine Ze h (fun _ h=>?_) fun _ h=>?_<;>try simp only[*,go_sem,seval]
 refine Za h fun _ l h=>Zb (Qy l) ?_
 simp only[*,go_sem,seval]
 iterate 3 refine Ze h (fun _ h=>?_) fun _ h=>?_<;>try simp only[*,go_sem,seval]
 cases h
 simp only[*,go_sem,seval]
 refine Za h fun _ m h=>Zb (Zf8 m) ?_
 simp only[*,go_sem,seval]
 refine Zh h (fun i a st=>IV [(3,.bp 0 0),(4,.bp 1 0),(8,.p false [.row 2]),(9,.p false [.c (.int .i64 ((i:Nat):Int))])] [.box 58 [.c (.str append_0.rel),.c (.sl 9 1 (A0 Zw append_0.args))],.box 71 [.c (.str String_1.rel),.c (.sl 9 1 (A0 Zw String_1.args))],.row 135 2 (A0 ZZ a) 2] st) [] [0,16,544] (by decide) ?_ ?_ ?_
 simp only[*,go_sem,seval]
 rintro _ _ a ⟨sl,ob,n⟩ _ b d o h e
 simp only[go_sem,seval,Zc] at d
 obtain ⟨⟨_,_,_,_⟩,q,_,_,hn⟩:=d
 subst hn
 have t:=WF.boxL o q (j:=1) rfl
 have:=ZB b
 have:=ZC b
 have:=Zj (ZA b) t
 simp only[*,go_sem,seval]
 refine Za h fun _ u h=>Zb (XR u) ?_
 simp only[*,go_sem,seval]
 refine Ze h (fun _ h=>?_) fun _ h=>?_<;>try simp only[*,go_sem,seval]
 obtain ⟨_,_,_,v,h⟩:=Zci h
 simp only[A4] at v
 simp only[*,go_sem,seval]
 refine Ze h (fun _ h=>?_) fun _ h=>?_<;>try simp only[*,go_sem,seval]
 refine ⟨_,[],[0,1,2],(A3 h).symm,by decide,?_⟩
 simp only[*,go_sem,seval]
 replace h:=Zo h e
 cases h
 simp only[*,go_sem,seval]
 obtain ⟨_,_,_,w,h⟩:=Zci h
 simp only[A4] at w
 simp only[*,go_sem,seval]
 refine Za h fun _ x h=>Zb (ZoM x) ?_
 simp only[*,go_sem,seval]
 refine Ze h (fun _ h=>?_) fun _ h=>?_<;>try simp only[*,go_sem,seval]
 refine ⟨_,[],[0,1,355],(A3 h).symm,by decide,?_⟩
 simp only[*,go_sem,seval]
 replace h:=Zo h e
 cases h
 simp only[*,go_sem,seval]
 rintro a ⟨sl,ob,n⟩ f _ h
 simp only[go_sem,seval,Zc] at f
 obtain ⟨⟨_,_,_,_⟩,_,_,_,hn⟩:=f
 subst hn
 have:=Zz (append_0.args.length)
 iterate 5 (cases h;simp only[*,go_sem,seval])
end
section
set_option linter.unusedSimpArgs false
set_option linter.unusedVariables false
set_option maxRecDepth 1000000
set_option maxHeartbeats 4000000
theorem ZdM {p_0:Zv} {b_1:(List Zp)} {r:(Zd × Bool)} (h:Y2 p_0 b_1=some r):Zl prog J0 116 [(true,Qz p_0),(false,[.sl 135 2 (A0 ZZ b_1)])] [(true,[(false,.str r.1.rel),(false,.sl 9 1 (A0 Zw r.1.args))]),(false,[(false,.bool r.2)])]:=by
 refine fnk func116 rfl ?_
 unfold Y2 at h
 simp only[fnS,f116,Zm,go_sem,seval]
 refine Za h fun _ f h=>Zb (Y3 f) ?_
 simp only[*,go_sem,seval]
 refine Ze h (fun _ h=>?_) fun _ h=>?_<;>try simp only[*,go_sem,seval]
 refine Za h fun _ g h=>Zb (Qy g) ?_
 simp only[*,go_sem,seval]
 refine Ze h (fun _ h=>?_) fun _ h=>?_<;>try simp only[*,go_sem,seval]
 refine Zh h (fun i a st=>IV [(1,.p false [.c (.sl 135 2 (A0 ZZ b_1))]),(2,.bp 0 0),(4,.bp 1 0),(6,.bp 2 0),(7,.p false [.c (.int .i64 ((i:Nat):Int))])] [.box 58 [.c (.str p_0.rel),.c (.sl 9 1 (A0 Zw p_0.args))],.box 71 [.c (.str ⟨#[]⟩),.nil 9 1],.box 71 [.c (.str p_0.rel),.row 3],.row 9 1 (A0 Zw a) 2] st) [(true,224,1)] [0,16,224,272] (by decide) ?_ ?_ ?_
 simp only[*,go_sem,seval]
 rintro _ _ a ⟨sl,ob,n⟩ _ b d k h l
 simp only[go_sem,seval,Zc] at d
 obtain ⟨⟨_,_,_,_,_⟩,m,_,_,_,hn⟩:=d
 subst hn
 have o:=WF.boxL k m (j:=1) rfl
 have:=ZB b
 have:=ZC b
 have:=Zj (ZA b) o
 simp only[*,go_sem,seval]
 refine Za h fun _ q h=>Zb (Zcl q) ?_
 simp only[*,go_sem,seval]
 refine Ze h (fun _ h=>?_) fun _ h=>?_<;>try simp only[*,go_sem,seval]
 obtain ⟨t,h⟩:=Zs h
 try simp only[Nat.reduceLeDiff] at t
 simp only[*,go_sem,seval]
 refine ⟨_,[],[0,1,2,372],(A3 h).symm,by decide,?_⟩
 simp only[*,go_sem,seval]
 replace h:=Zo h l
 cases h
 simp only[*,go_sem,seval]
 rintro a ⟨sl,ob,n⟩ e _ h
 simp only[go_sem,seval,Zc] at e
 obtain ⟨⟨_,_,_,_,_⟩,_,_,_,_,hn⟩:=e
 subst hn
 have:=Zz (p_0.args.length)
 iterate 3 (cases h;simp only[*,go_sem,seval])
theorem ZGg {b:Zu} {r:(List Int)} (h:ZD6 b=some r):Zl prog J0 224 [(true,Qw b)] [(false,[(false,.sl 3 1 (A0 Z5 r))])]:=by
 refine fnk func224 rfl ?_
 unfold ZD6 at h
 simp only[fnS,f224,Zm,go_sem,seval]
 refine Za h fun _ z h=>Zb (ZEt z) ?_
 simp only[*,go_sem,seval]
 refine Ze h (fun _ h=>?_) fun _ h=>?_<;>try simp only[*,go_sem,seval]
 refine Za h fun d A h=>Zb (ZGr A) ?_
 simp only[*,go_sem,seval]
 refine XH h (fun s st=>match s with | (l,m)=>IV [(1,.bp 0 0),(3,.p false [.row 1]),(4,.p false [.row 2]),(5,.p false [.c (.int .i64 m)])] [.box 91 [.c (.int .i64 b.nodes),.c (.sl 144 3 (A0 ZL b.reasons))],.row 3 1 (A0 Z5 d) 2,.row 3 1 (A0 Z5 l) 2] st) [] [0,96,128] (by decide) ?_ ?_
 simp only[*,go_sem,seval]
 rintro ⟨l,m⟩ ⟨sl,ob,n⟩ _ o _ h B
 simp only[go_sem,seval,Zc] at o
 obtain ⟨⟨_,_,_,_⟩,_,_,_,hn⟩:=o
 subst hn
 simp only[*,go_sem,seval]
 refine Ze h (fun _ h=>?_) fun _ h=>?_<;>try simp only[*,go_sem,seval]
 obtain ⟨C,h⟩:=Zs h
 try simp only[Nat.reduceLeDiff] at C
 simp only[*,go_sem,seval]
 refine ⟨_,[],[0,1,99],(A3 h).symm,by decide,?_⟩
 simp only[*,go_sem,seval]
 refine XH h (fun s st=>match s with | (q,t,e)=>IV [(1,.bp 0 0),(3,.p false [.row 1]),(4,.p false [.row 2]),(6,.p false [.c (.int .i64 t)]),(7,.p false [.c (.int .i64 e)])] [.box 91 [.c (.int .i64 b.nodes),.c (.sl 144 3 (A0 ZL b.reasons))],.row 3 1 (A0 Z5 d) 2,.row 3 1 (A0 Z5 q) 2] st) [] [0,1,2] (by decide) ?_ ?_
 simp only[*,go_sem,seval]
 rintro ⟨q,t,e⟩ ⟨sl,ob,n⟩ _ u _ h D
 simp only[go_sem,seval,Zc] at u
 obtain ⟨⟨_,_,_,_,_⟩,_,_,_,hn⟩:=u
 subst hn
 simp only[*,go_sem,seval]
 refine Ze h (fun _ h=>?_) fun _ h=>?_<;>try simp only[*,go_sem,seval]
 refine Za h fun _ E h=>Zb (ZE2 E) ?_
 simp only[*,go_sem,seval]
 refine XH h (fun s st=>match s with | (v,f,g)=>IV [(1,.bp 0 0),(3,.p false [.row 1]),(4,.p false [.row 2]),(6,.p false [.c (.int .i64 g)]),(7,.p false [.c (.int .i64 e)]),(8,.p false [.row 3])] [.box 91 [.c (.int .i64 b.nodes),.c (.sl 144 3 (A0 ZL b.reasons))],.row 3 1 (A0 Z5 d) 2,.row 3 1 (A0 Z5 v) 2,.row 3 1 (A0 Z5 f) 2] st) [] [0,1,2,147] (by decide) ?_ ?_
 simp only[*,go_sem,seval]
 rintro ⟨v,f,g⟩ ⟨sl,ob,n⟩ _ w _ h F
 simp only[go_sem,seval,Zc] at w
 obtain ⟨⟨_,_,_,_,_,_⟩,_,_,_,_,hn⟩:=w
 subst hn
 simp only[*,go_sem,seval]
 refine Ze h (fun _ h=>?_) fun _ h=>?_<;>try simp only[*,go_sem,seval]
 refine Zh h (fun i j st=>IV [(1,.bp 0 0),(3,.p false [.row 1]),(4,.p false [.row 2]),(6,.p false [.c (.int .i64 g)]),(7,.p false [.c (.int .i64 e)]),(8,.p false [.row 3]),(9,.p false [.c (.int .i64 ((i:Nat):Int))])] [.box 91 [.c (.int .i64 b.nodes),.c (.sl 144 3 (A0 ZL b.reasons))],.row 3 1 (A0 Z5 d) 2,.row 3 1 (A0 Z5 j) 2,.row 3 1 (A0 Z5 f) 2] st) [] [0,1,2,3] (by decide) ?_ ?_ ?_
 simp only[*,go_sem,seval]
 rintro _ _ j ⟨sl,ob,n⟩ _ k x G h _
 simp only[go_sem,seval,Zc] at x
 obtain ⟨⟨_,_,_,_,_,_,_⟩,_,_,_,H,hn⟩:=x
 subst hn
 have I:=WF.rowL G H
 have:=ZB k
 have:=ZC k
 have:=Zj (ZA k) I
 obtain ⟨_,h⟩:=Zs h
 obtain ⟨_,_,h⟩:=ZJ h
 simp only[*,go_sem,seval]
 refine ⟨_,[],[0,1,2,3],(A3 h).symm,by decide,?_⟩
 simp only[*,go_sem,seval]
 rintro j ⟨sl,ob,n⟩ y _ h
 simp only[go_sem,seval,Zc] at y
 obtain ⟨⟨_,_,_,_,_,_,_⟩,_,_,_,_,hn⟩:=y
 subst hn
 have:=Zz (f.length)
 simp only[*,go_sem,seval]
 refine Za h fun _ J h=>Zb (ZE2 J) ?_
 simp only[*,go_sem,seval]
 refine ⟨_,[],[0,1,2,196],(A3 h).symm,by decide,?_⟩
 simp only[*,go_sem,seval]
 replace h:=Zo h F
 refine ⟨_,[],[0,1,2],(A3 h).symm,by decide,?_⟩
 simp only[*,go_sem,seval]
 replace h:=Zo h D
 replace h:=Zo h B
 iterate 2 (cases h;simp only[*,go_sem,seval])
end
section
set_option linter.unusedSimpArgs false
set_option linter.unusedVariables false
set_option maxRecDepth 1000000
set_option maxHeartbeats 4000000
theorem ZjX {append_0:Zr} {String_1:(List Zp)} {r:Bool} (h:ZbM append_0 String_1=some r):Zl prog J0 210 [(true,ZK append_0),(false,[.sl 135 2 (A0 ZZ String_1)])] [(false,[(false,.bool r)])]:=by
 refine fnk func210 rfl ?_
 unfold ZbM at h
 simp only[fnS,f210,Zm,go_sem,seval]
 refine Za h fun _ a h=>Zb (Zod a) ?_
 simp only[*,go_sem,seval]
 refine Ze h (fun _ h=>?_) fun _ h=>?_<;>try simp only[*,go_sem,seval]
 refine Za h fun _ b h=>Zb (Qk b) ?_
 simp only[*,go_sem,seval]
 refine Ze h (fun _ h=>?_) fun _ h=>?_<;>try simp only[*,go_sem,seval]
 refine Za h fun _ c h=>Zb (Zcn c) ?_
 simp only[*,go_sem,seval]
 refine Za h fun _ d h=>Zb (Zcn d) ?_
 simp only[*,go_sem,seval]
 iterate 3 refine Ze h (fun _ h=>?_) fun _ h=>?_<;>try simp only[*,go_sem,seval]
 cases h
 simp only[*,go_sem,seval]
 refine Ze h (fun _ h=>?_) fun _ h=>?_<;>try simp only[*,go_sem,seval]
 cases h
 simp only[*,go_sem,seval]
 refine Za h fun _ e h=>Zb (ZbF e) ?_
 simp only[*,go_sem,seval]
 refine Za h fun _ f h=>Zb (ZbF f) ?_
 simp only[*,go_sem,seval]
 iterate 2 refine Ze h (fun _ h=>?_) fun _ h=>?_<;>try simp only[*,go_sem,seval]
 iterate 7 (cases h;simp only[*,go_sem,seval])
theorem Zji {append_0:Zf} {r:Bool} (h:ZdT append_0=some r):Zl prog J0 135 [(true,ZG append_0)] [(false,[(false,.bool r)])]:=by
 refine fnk func135 rfl ?_
 unfold ZdT at h
 simp only[fnS,f135,Zm,go_sem,seval]
 refine Za h fun _ v h=>Zb (ZfA v) ?_
 simp only[*,go_sem,seval]
 iterate 2 refine Ze h (fun _ h=>?_) fun _ h=>?_<;>try simp only[*,go_sem,seval]
 iterate 5 (cases h;simp only[*,go_sem,seval];refine Ze h (fun _ h=>?_) fun _ h=>?_<;>try simp only[*,go_sem,seval])
 cases h
 simp only[*,go_sem,seval]
 refine Zh h (fun i _ st=>IV [(1,.bp 0 0),(49,.p false [.c (.sl 60 5 (A0 ZK append_0.cond))]),(50,.p false [.c (.int .i64 ((append_0.cond.length:Nat):Int))]),(51,.p false [.c (.int .i64 ((i:Nat):Int))])] [.box 104 [.c (.str append_0.name),.c (.int .i64 append_0.priority),.c (.sl 60 5 (A0 ZK append_0.cond)),.c (.sl 166 3 (A0 ZD append_0.thn))]] st) [] [0] (by decide) ?_ ?_ ?_
 simp only[*,go_sem,seval]
 rintro _ _ ⟨⟩ ⟨sl,ob,n⟩ _ a g w h b
 simp only[go_sem,seval,Zc] at g
 obtain ⟨⟨_,x,_,_⟩,_,hn⟩:=g
 subst hn
 have y:=WF.slotL w x (j:=0) rfl
 have:=ZB a
 have:=ZC a
 have:=Zj (ZA a) y
 simp only[*,go_sem,seval]
 refine Za h fun _ z h=>Zb (Zfj z) ?_
 simp only[*,go_sem,seval]
 iterate 3 refine Ze h (fun _ h=>?_) fun _ h=>?_<;>try simp only[*,go_sem,seval]
 replace h:=Zo h b
 cases h
 simp only[*,go_sem,seval]
 refine Za h fun _ A h=>Zb (ZgJ A) ?_
 simp only[*,go_sem,seval]
 refine Ze h (fun _ h=>?_) fun _ h=>?_<;>try simp only[*,go_sem,seval]
 refine ⟨_,[],[0],(A3 h).symm,by decide,?_⟩
 simp only[*,go_sem,seval]
 replace h:=Zo h b
 cases h
 simp only[*,go_sem,seval]
 refine Za h fun _ B h=>Zb (ZgJ B) ?_
 simp only[*,go_sem,seval]
 refine Ze h (fun _ h=>?_) fun _ h=>?_<;>try simp only[*,go_sem,seval]
 refine ⟨_,[],[0],(A3 h).symm,by decide,?_⟩
 iterate 2 (simp only[*,go_sem,seval];replace h:=Zo h b;cases h)
 simp only[*,go_sem,seval]
 rintro ⟨⟩ ⟨sl,ob,n⟩ k _ h
 simp only[go_sem,seval,Zc] at k
 obtain ⟨⟨_,_,_,_⟩,_,hn⟩:=k
 subst hn
 have:=Zz (append_0.cond.length)
 simp only[*,go_sem,seval]
 refine Za h fun l C h=>Zb (ZcQ C) ?_
 simp only[*,go_sem,seval]
 refine Zh h (fun i _ st=>IV [(1,.bp 0 0),(5,.p false [.row 1]),(81,.p false [.c (.sl 166 3 (A0 ZD append_0.thn))]),(82,.p false [.c (.int .i64 ((append_0.thn.length:Nat):Int))]),(83,.p false [.c (.int .i64 ((i:Nat):Int))])] [.box 104 [.c (.str append_0.name),.c (.int .i64 append_0.priority),.c (.sl 60 5 (A0 ZK append_0.cond)),.c (.sl 166 3 (A0 ZD append_0.thn))],.row 9 1 (A0 Zw l) 2] st) [] [0,81] (by decide) ?_ ?_ ?_
 simp only[*,go_sem,seval]
 rintro D _ ⟨⟩ ⟨sl,ob,n⟩ _ d m E h o
 simp only[go_sem,seval,Zc] at m
 obtain ⟨⟨_,_,F,_,_⟩,_,_,hn⟩:=m
 subst hn
 have G:=WF.slotL E F (j:=0) rfl
 have:=ZB d
 have:=ZC d
 have:=Zj (ZA d) G
 simp only[*,go_sem,seval]
 refine Za h fun _ H h=>Zb (Zl0 H) ?_
 simp only[*,go_sem,seval]
 refine Ze h (fun _ h=>?_) fun _ h=>?_<;>try simp only[*,go_sem,seval]
 refine Za h fun e I h=>Zb (Zc1 I) ?_
 simp only[*,go_sem,seval]
 refine Zh h (fun i _ st=>IV [(1,.bp 0 0),(5,.p false [.row 1]),(81,.p false [.c (.sl 166 3 (A0 ZD append_0.thn))]),(82,.p false [.c (.int .i64 ((append_0.thn.length:Nat):Int))]),(83,.p false [.c (.int .i64 ((D:Nat):Int))]),(93,.p false [.row 2]),(94,.p false [.c (.int .i64 ((e.length:Nat):Int))]),(95,.p false [.c (.int .i64 ((i:Nat):Int))])] [.box 104 [.c (.str append_0.name),.c (.int .i64 append_0.priority),.c (.sl 60 5 (A0 ZK append_0.cond)),.c (.sl 166 3 (A0 ZD append_0.thn))],.row 9 1 (A0 Zw l) 2,.row 9 1 (A0 Zw e) 2] st) [] [0,1,178] (by decide) ?_ ?_ ?_
 simp only[*,go_sem,seval]
 rintro _ _ ⟨⟩ ⟨sl,ob,n⟩ _ f q J h K
 simp only[go_sem,seval,Zc] at q
 obtain ⟨⟨_,_,_,_,_,_,_,_⟩,_,_,L,hn⟩:=q
 subst hn
 have M:=WF.rowL J L
 have:=ZB f
 have:=ZC f
 have:=Zj (ZA f) M
 simp only[*,go_sem,seval]
 refine Za h fun _ N h=>Zb (QT N) ?_
 simp only[*,go_sem,seval]
 refine Ze h (fun _ h=>?_) fun _ h=>?_<;>try simp only[*,go_sem,seval]
 refine ⟨_,[],[0,1,2],(A3 h).symm,by decide,?_⟩
 simp only[*,go_sem,seval]
 replace h:=Zo h K
 replace h:=Zo h o
 cases h
 simp only[*,go_sem,seval]
 rintro ⟨⟩ ⟨sl,ob,n⟩ t _ h
 simp only[go_sem,seval,Zc] at t
 obtain ⟨⟨_,_,_,_,_,_,_,_⟩,_,_,_,hn⟩:=t
 subst hn
 have:=Zz (e.length)
 simp only[*,go_sem,seval]
 refine ⟨_,[],[0,1],(A3 h).symm,by decide,?_⟩
 simp only[*,go_sem,seval]
 replace h:=Zo h o
 cases h
 simp only[*,go_sem,seval]
 rintro ⟨⟩ ⟨sl,ob,n⟩ u _ h
 simp only[go_sem,seval,Zc] at u
 obtain ⟨⟨_,_,_,_,_⟩,_,_,hn⟩:=u
 subst hn
 have:=Zz (append_0.thn.length)
 simp only[*,go_sem,seval]
 refine Za h fun _ O h=>Zb (Zjn O) ?_
 simp only[*,go_sem,seval]
 refine Za h fun _ P h=>Zb (XK P) ?_
 iterate 2 (cases h;simp only[*,go_sem,seval])
theorem Zf4 {x_0:Zr} {r:Bool} (h:ZaT x_0=some r):Zl prog J0 152 [(true,ZK x_0)] [(false,[(false,.bool r)])]:=by
 refine fnk func152 rfl ?_
 unfold ZaT at h
 simp only[fnS,f152,Zm,go_sem,seval]
 refine Za h fun _ a h=>Zb (Zdw a) ?_
 simp only[*,go_sem,seval]
 refine Ze h (fun _ h=>?_) fun _ h=>?_<;>try simp only[*,go_sem,seval]
 iterate 2 (cases h;simp only[*,go_sem,seval])
theorem Zlg {s_0:ByteArray} {r:(Zr × Bool)} (h:ZaH s_0=some r):Zl prog J0 263 [(false,[.str s_0])] [(true,[(false,.int .i64 r.1.kind),(false,.str r.1.pattern.rel),(false,.sl 9 1 (A0 Zw r.1.pattern.args)),(false,.str r.1.left),(false,.str r.1.right)]),(false,[(false,.bool r.2)])]:=by
 refine fnk func263 rfl ?_
 unfold ZaH at h
 have f:Z2 ⟨#[110,111,116,32]⟩=true:=by decide
 simp only[fnS,f263,Zm,go_sem,seval,f]
 refine XH h (fun b st=>IV [(0,.p false [.c (.str s_0)]),(2,.bp 0 0),(4,.p false [.c (.int .i64 b)])] [.box 60 [.c (.int .i64 0),.c (.str ⟨#[]⟩),.nil 9 1,.c (.str ⟨#[]⟩),.c (.str ⟨#[]⟩)]] st) [] [0] (by decide) ?_ ?_
 simp only[*,go_sem,seval]
 rintro b ⟨sl,ob,n⟩ _ d _ h a
 simp only[go_sem,seval,Zc] at d
 obtain ⟨⟨_,_,_⟩,_,hn⟩:=d
 subst hn
 simp only[*,go_sem,seval]
 refine Ze h (fun _ h=>?_) fun _ h=>?_<;>try simp only[*,go_sem,seval]
 refine Za h fun _ g h=>Zb (Zpc g) ?_
 simp only[*,go_sem,seval]
 refine Za h fun _ i h=>Zb (XU i) ?_
 simp only[*,go_sem,seval]
 refine Ze h (fun _ h=>?_) fun _ h=>?_<;>try simp only[*,go_sem,seval]
 obtain ⟨_,h⟩:=Zs h
 obtain ⟨_,j,h⟩:=ZJ h
 try simp only[seval] at j
 obtain ⟨_,h⟩:=Zs h
 obtain ⟨_,k,h⟩:=ZJ h
 try simp only[seval] at k
 simp only[*,go_sem,seval]
 refine Za h fun _ l h=>Zb (Zdw l) ?_
 simp only[*,go_sem,seval]
 refine Ze h (fun _ h=>?_) fun _ h=>?_<;>try simp only[*,go_sem,seval]
 replace h:=Zo h a
 cases h
 simp only[*,go_sem,seval]
 refine ⟨_,[],[0],(A3 h).symm,by decide,?_⟩
 simp only[*,go_sem,seval]
 refine ⟨_,[],[0],(A3 h).symm,by decide,?_⟩
 simp only[*,go_sem,seval]
 refine Ze h (fun _ h=>?_) fun _ h=>?_<;>try simp only[*,go_sem,seval]
 obtain ⟨_,h⟩:=Zs h
 simp only[*,go_sem,seval]
 refine Ze h (fun e h=>?_) (fun e h=>?_)<;>(try simp only[seval] at e)<;>try simp only[*,go_sem,seval]
 refine Za h fun _ m h=>Zb (Xi m) ?_
 simp only[*,go_sem,seval]
 refine Ze h (fun _ h=>?_) fun _ h=>?_<;>try simp only[*,go_sem,seval]
 iterate 2 (replace h:=Zo h a;cases h;simp only[*,go_sem,seval])
 refine Za h fun _ o h=>Zb (Xi o) ?_
 simp only[*,go_sem,seval]
 refine Ze h (fun _ h=>?_) fun _ h=>?_<;>try simp only[*,go_sem,seval]
 iterate 2 (replace h:=Zo h a;cases h;simp only[*,go_sem,seval])
 refine Za h fun _ q h=>Zb (Xi q) ?_
 simp only[*,go_sem,seval]
 refine Ze h (fun _ h=>?_) fun _ h=>?_<;>try simp only[*,go_sem,seval]
 iterate 2 (replace h:=Zo h a;cases h;simp only[*,go_sem,seval])
theorem ZlP {s_0:ByteArray} {r:(Zx × Bool)} (h:Zap s_0=some r):Zl prog J0 295 [(false,[.str s_0])] [(true,[(false,.int .i64 r.1.kind),(false,.str r.1.pattern.rel),(false,.sl 9 1 (A0 Zw r.1.pattern.args))]),(false,[(false,.bool r.2)])]:=by
 refine fnk func295 rfl ?_
 unfold Zap at h
 have a:Z2 ⟨#[100,114,111,112]⟩=true:=by decide
 have b:Z2 ⟨#[115,116,111,112]⟩=true:=by decide
 have c:Z2 ⟨#[32]⟩=true:=by decide
 have d:Z2 ⟨#[97,100,100]⟩=true:=by decide
 simp only[fnS,f295,Zm,go_sem,seval,a,b,c,d]
 refine Ze h (fun _ h=>?_) fun _ h=>?_<;>try simp only[*,go_sem,seval]
 cases h
 simp only[*,go_sem,seval]
 refine Za h fun _ e h=>Zb (XU e) ?_
 simp only[*,go_sem,seval]
 refine Ze h (fun _ h=>?_) fun _ h=>?_<;>try simp only[*,go_sem,seval]
 cases h
 simp only[*,go_sem,seval]
 obtain ⟨_,h⟩:=Zs h
 obtain ⟨_,f,h⟩:=ZJ h
 try simp only[seval] at f
 simp only[*,go_sem,seval]
 refine Ze h (fun _ h=>?_) fun _ h=>?_<;>try simp only[*,go_sem,seval]
 obtain ⟨_,h⟩:=Zs h
 obtain ⟨_,g,h⟩:=ZJ h
 try simp only[seval] at g
 simp only[*,go_sem,seval]
 refine Za h fun _ i h=>Zb (Xi i) ?_
 cases h
 simp only[*,go_sem,seval]
 refine Ze h (fun _ h=>?_) fun _ h=>?_<;>try simp only[*,go_sem,seval]
 obtain ⟨_,h⟩:=Zs h
 obtain ⟨_,j,h⟩:=ZJ h
 try simp only[seval] at j
 simp only[*,go_sem,seval]
 refine Za h fun _ k h=>Zb (Xi k) ?_
 iterate 2 (cases h;simp only[*,go_sem,seval])
theorem ZL8 {c_0:ZF} {r:(Zr × ZF)} (h:ZLm c_0=some r):ZaU prog J0 JF0 223 (.box 184 (Za7 c_0)) [] [(true,[(false,.int .i64 r.1.kind),(false,.str r.1.pattern.rel),(false,.sl 9 1 (A0 Zw r.1.pattern.args)),(false,.str r.1.left),(false,.str r.1.right)])] (.box 184 (Za7 r.2)):=by
 refine fnh func223 rfl ?_
 unfold ZLm at h
 simp only[fnH,f223,ZcO,ZcW,Y9,go_sem,seval]
 obtain ⟨_,a,h⟩:=ZJ h
 refine QC (QS a) ?_
 simp only[*,go_sem,seval]
 refine Ze h (fun _ h=>?_) fun _ h=>?_<;>try simp only[*,go_sem,seval]
 obtain ⟨_,b,h⟩:=ZJ h
 refine QC (ZKT b) ?_
 cases h
 simp only[*,go_sem,seval]
 refine Ze h (fun _ h=>?_) fun _ h=>?_<;>try simp only[*,go_sem,seval]
 obtain ⟨_,c,h⟩:=ZJ h
 refine QC (ZKT c) ?_
 cases h
 simp only[*,go_sem,seval]
 refine Ze h (fun _ h=>?_) fun _ h=>?_<;>try simp only[*,go_sem,seval]
 obtain ⟨_,d,h⟩:=ZJ h
 refine QC (ZKT d) ?_
 cases h
 simp only[*,go_sem,seval]
 obtain ⟨_,e,h⟩:=ZJ h
 refine QC (ZLD e) ?_
 simp only[*,go_sem,seval]
 obtain ⟨_,f,h⟩:=ZJ h
 refine QC (ZLD f) ?_
 simp only[*,go_sem,seval]
 obtain ⟨_,g,h⟩:=ZJ h
 refine QC (ZMW g) ?_
 cases h
 simp only[*,go_sem,seval]
theorem ZLO {c_0:ZF} {r:(Zv × ZF)} (h:ZLj c_0=some r):ZaU prog J0 JF0 92 (.box 184 (Za7 c_0)) [] [(true,[(false,.str r.1.rel),(true,.sl 9 1 (A0 Zw r.1.args))])] (.box 184 (Za7 r.2)):=by
 refine ZND [(6,[0,1,2,3,4,5,6,7],true)] func92 rfl ?_
 unfold ZLj at h
 have ks0:Z2 ⟨#[63,120]⟩=true:=by decide
 have ks1:Z2 ⟨#[63,121]⟩=true:=by decide
 simp only[fnH,f92,ZcO,ZcW,Y9,go_sem,ZKD,seval,ks0,ks1]
 obtain ⟨v1,e1,h⟩:=ZJ h
 refine QC (by have hh:=ZKT e1;first | exact hh | (simp only[go_sem,ZKD, *] at hh;exact hh)) ?_
 simp only[go_sem,ZKD,seval, *]
 obtain ⟨v2,e2,h⟩:=ZJ h
 refine QC (by have hh:=QS e2;first | exact hh | (simp only[go_sem,ZKD, *] at hh;exact hh)) ?_
 simp only[go_sem,ZKD,seval, *]
 refine Ze h (fun c3 h=>?_) (fun c3 h=>?_)<;>try simp only[go_sem,ZKD,seval, *]
 ·obtain ⟨v3,e4,h⟩:=ZJ h
  refine QC (by have hh:=ZKU e4;first | exact hh | (simp only[go_sem,ZKD, *] at hh;exact hh)) ?_
  obtain rfl:=A3 h
  simp only[go_sem,ZKD,seval, *]
 ·refine Ze h (fun c5 h=>?_) (fun c5 h=>?_)<;>try simp only[go_sem,ZKD,seval, *]
  ·obtain ⟨v4,e6,h⟩:=ZJ h
   refine QC (by have hh:=ZKU e6;first | exact hh | (simp only[go_sem,ZKD, *] at hh;exact hh)) ?_
   obtain ⟨p7,h⟩:=Zs h
   try simp only[Nat.reduceLeDiff] at p7
   obtain rfl:=A3 h
   simp only[go_sem,ZKD,seval, *]
  ·refine Ze h (fun c8 h=>?_) (fun c8 h=>?_)<;>try simp only[go_sem,ZKD,seval, *]
   ·obtain ⟨v5,e9,h⟩:=ZJ h
    refine QC (by have hh:=QS e9;first | exact hh | (simp only[go_sem,ZKD, *] at hh;exact hh)) ?_
    obtain ⟨p10,h⟩:=Zs h
    try simp only[seval] at p10
    obtain rfl:=A3 h
    simp only[go_sem,ZKD,seval, *]
   ·obtain rfl:=A3 h
    simp only[go_sem,ZKD,seval, *]
theorem ZMS {c_0:ZF} {r:((List Zd) × ZF)} (h:ZLz c_0=some r):ZaU prog J0 JF0 144 (.box 184 (Za7 c_0)) [] [(false,[(true,.sl 71 2 (A0 Zq r.1))])] (.box 184 (Za7 r.2)):=by
 refine fnh func144 rfl ?_
 unfold ZLz at h
 have j:Z2 ⟨#[110]⟩=true:=by decide
 simp only[fnH,f144,ZcO,ZcW,Y9,go_sem,seval,j]
 obtain ⟨_,k,h⟩:=ZJ h
 refine QC (ZNi k) ?_
 simp only[*,go_sem,seval]
 obtain ⟨a,l,h⟩:=ZJ h
 refine QC (QS l) ?_
 simp only[*,go_sem,seval]
 refine Ze h (fun _ h=>?_) fun _ h=>?_<;>try simp only[*,go_sem,seval]
 obtain ⟨_,m,h⟩:=ZJ h
 refine QC (ZNk m) ?_
 obtain ⟨o,h⟩:=Zs h
 try simp only[Nat.reduceLeDiff] at o
 cases h
 simp only[*,go_sem,seval]
 refine Ze h (fun _ h=>?_) fun _ h=>?_<;>try simp only[*,go_sem,seval]
 refine XH h (fun s st=>match s with | (d,e)=>IV [(0,.bp 0 0),(3,.p false [.row 1]),(4,.p false [.c (.int .i64 e)])] [.box 184 [.c (.sl 5 1 (A0 Zek a.2.b)),.c (.int .i64 a.2.i),.c (.int .i64 a.2.h)],.row 71 2 (A0 Zq d) 2] st) [] [0,33] (by decide) ?_ ?_
 simp only[*,go_sem,seval]
 rintro ⟨d,e⟩ ⟨sl,ob,n⟩ _ g _ h q
 simp only[go_sem,seval,Zc] at g
 obtain ⟨⟨_,_,_⟩,_,_,hn⟩:=g
 subst hn
 simp only[*,go_sem,seval]
 refine Ze h (fun _ h=>?_) fun _ h=>?_<;>try simp only[*,go_sem,seval]
 refine Za h fun _ t h=>Zb (Zfs t) ?_
 simp only[*,go_sem,seval]
 refine Za h fun _ u h=>Zb (Zdi u) ?_
 simp only[*,go_sem,seval]
 refine ⟨_,[],[0,114],(A3 h).symm,by decide,?_⟩
 simp only[*,go_sem,seval]
 obtain ⟨_,v,h⟩:=ZJ h
 refine QC (ZKQ v) ?_
 obtain ⟨_,h⟩:=Zs h
 replace h:=Zo h q
 iterate 2 (cases h;simp only[*,go_sem,seval])
theorem Zdh {p_0:Zv} {b_1:(List Zp)} {facts_2:(List Zd)} {r:(List Zd)} (h:Xf p_0 b_1 facts_2=some r):Zl prog J0 90 [(true,Qz p_0),(false,[.sl 135 2 (A0 ZZ b_1)]),(false,[.sl 71 2 (A0 Zq facts_2)])] [(false,[(false,.sl 71 2 (A0 Zq r))])]:=by
 refine fnk func90 rfl ?_
 unfold Xf at h
 simp only[fnS,f90,Zm,go_sem,seval]
 refine Zh h (fun i a st=>IV [(1,.p false [.c (.sl 135 2 (A0 ZZ b_1))]),(2,.p false [.c (.sl 71 2 (A0 Zq facts_2))]),(3,.bp 0 0),(7,.p false [.row 1]),(8,.p false [.c (.int .i64 ((i:Nat):Int))])] [.box 58 [.c (.str p_0.rel),.c (.sl 9 1 (A0 Zw p_0.args))],.row 71 2 (A0 Zq a) 2] st) [] [0,32] (by decide) ?_ ?_ ?_
 simp only[*,go_sem,seval]
 rintro _ _ a ⟨sl,ob,n⟩ _ b d f h _
 simp only[go_sem,seval,Zc] at d
 obtain ⟨⟨_,g,_,_,_⟩,_,_,hn⟩:=d
 subst hn
 have k:=WF.slotL f g (j:=0) rfl
 have:=ZB b
 have:=ZC b
 have:=Zj (ZA b) k
 simp only[*,go_sem,seval]
 refine Za h fun _ l h=>Zb (ZfU l) ?_
 simp only[*,go_sem,seval]
 refine Ze h (fun _ h=>?_) fun _ h=>?_<;>try simp only[*,go_sem,seval]
 refine Za h fun _ m h=>Zb (Xr m) ?_
 obtain ⟨o,h⟩:=Zs h
 try simp only[Nat.reduceLeDiff] at o
 simp only[*,go_sem,seval]
 refine ⟨_,[],[0,386],(A3 h).symm,by decide,?_⟩
 simp only[*,go_sem,seval]
 refine ⟨_,[],[0,1],(A3 h).symm,by decide,?_⟩
 simp only[*,go_sem,seval]
 rintro a ⟨sl,ob,n⟩ e _ h
 simp only[go_sem,seval,Zc] at e
 obtain ⟨⟨_,_,_,_,_⟩,_,_,hn⟩:=e
 subst hn
 have:=Zz (facts_2.length)
 cases h
 simp only[*,go_sem,seval]
theorem ZjL {append_0:Zf} {String_1:Int} {a_2:Zt} {a_3:(List Zd)} {r:Zg} (h:ZaD append_0 String_1 a_2 a_3=some r):Zl prog J0 168 [(true,ZG append_0),(false,[.int .i64 String_1]),(true,YE a_2),(false,[.sl 71 2 (A0 Zq a_3)])] [(true,[(false,.int .i64 r.for_),(false,.sl 3 1 (A0 Z5 r.inn)),(false,.sl 3 1 (A0 Z5 r.outs))])]:=by
 refine fnk func168 rfl ?_
 unfold ZaD at h
 simp only[fnS,f168,Zm,go_sem,seval]
 obtain ⟨_,_,_,_,h⟩:=Zci h
 simp only[*,go_sem,seval]
 refine Za h fun d g h=>Zb (ZdM g) ?_
 simp only[*,go_sem,seval]
 refine Zh h (fun i a st=>IV [(3,.p false [.c (.sl 71 2 (A0 Zq a_3))]),(4,.bp 0 0),(6,.bp 1 0),(8,.bp 2 0),(9,.bp 3 0),(11,.p false [.row 5]),(12,.p false [.c (.int .i64 ((i:Nat):Int))])] [.box 104 [.c (.str append_0.name),.c (.int .i64 append_0.priority),.c (.sl 60 5 (A0 ZK append_0.cond)),.c (.sl 166 3 (A0 ZD append_0.thn))],.box 118 [.c (.sl 71 2 (A0 Zq a_2.facts)),.c (.sl 135 2 (A0 ZZ a_2.binding))],.box 144 [.c (.int .i64 0),.nil 3 1,.nil 3 1],.box 71 [.c (.str d.1.rel),.row 4],.row 9 1 (A0 Zw d.1.args) 2,.row 71 2 (A0 Zq a) 2] st) [] [0,16,32,240,176,288] (by decide) ?_ ?_ ?_
 simp only[*,go_sem,seval]
 rintro _ _ a ⟨sl,ob,n⟩ _ b e k h _
 simp only[go_sem,seval,Zc] at e
 obtain ⟨⟨_,_,_,_,_,_,_⟩,l,_,_,_,_,_,hn⟩:=e
 subst hn
 have m:=WF.boxL k l (j:=2) rfl
 have:=ZB b
 have:=ZC b
 have:=Zj (ZA b) m
 simp only[*,go_sem,seval]
 refine Ze h (fun _ h=>?_) fun _ h=>?_<;>try simp only[*,go_sem,seval]
 refine Za h fun _ o h=>Zb (ZdM o) ?_
 obtain ⟨q,h⟩:=Zs h
 try simp only[Nat.reduceLeDiff] at q
 simp only[*,go_sem,seval]
 refine ⟨_,[],[0,1,2,3,4,486],(A3 h).symm,by decide,?_⟩
 simp only[*,go_sem,seval]
 refine ⟨_,[],[0,1,2,3,4,5],(A3 h).symm,by decide,?_⟩
 simp only[*,go_sem,seval]
 rintro a ⟨sl,ob,n⟩ f _ h
 simp only[go_sem,seval,Zc] at f
 obtain ⟨⟨_,_,_,_,_,_,_⟩,_,_,_,_,_,_,hn⟩:=f
 subst hn
 have:=Zz (append_0.cond.length)
 simp only[*,go_sem,seval]
 refine Za h fun _ t h=>Zb (ZbJ t) ?_
 simp only[*,go_sem,seval]
 refine Za h fun _ u h=>Zb (ZgA u) ?_
 simp only[*,go_sem,seval]
 refine Za h fun _ v h=>Zb (ZgA v) ?_
 cases h
 simp only[*,go_sem,seval]
theorem ZJj {b_0:Zu} {r:(List Bool)} (h:ZIN b_0=some r):Zl prog J0 147 [(true,Qw b_0)] [(false,[(false,.sl 4 1 (A0 ZgO r))])]:=by
 refine fnk func147 rfl ?_
 unfold ZIN at h
 simp only[fnS,f147,Zm,go_sem,seval]
 refine Za h fun d g h=>Zb (ZGg g) ?_
 simp only[*,go_sem,seval]
 refine Zh h (fun i a st=>IV [(3,.p false [.row 0]),(4,.p false [.row 1]),(5,.p false [.c (.int .i64 ((i:Nat):Int))])] [.row 3 1 (A0 Z5 d) 2,.row 4 1 (A0 ZgO a) 2] st) [] [48,80] (by decide) ?_ ?_ ?_
 simp only[*,go_sem,seval]
 rintro _ _ a ⟨sl,ob,n⟩ _ b e j h _
 simp only[go_sem,seval,Zc] at e
 obtain ⟨⟨_,_,_⟩,k,_,hn⟩:=e
 subst hn
 have l:=WF.rowL j k
 have:=ZB b
 have:=ZC b
 have:=Zj (ZA b) l
 obtain ⟨m,h⟩:=Zs h
 try simp only[Nat.reduceLeDiff] at m
 simp only[*,go_sem,seval]
 refine ⟨_,[],[0,178],(A3 h).symm,by decide,?_⟩
 simp only[*,go_sem,seval]
 rintro a ⟨sl,ob,n⟩ f _ h
 simp only[go_sem,seval,Zc] at f
 obtain ⟨⟨_,_,_⟩,_,_,hn⟩:=f
 subst hn
 have:=Zz (d.length)
 cases h
 simp only[*,go_sem,seval]
end
section
set_option linter.unusedSimpArgs false
set_option linter.unusedVariables false
set_option maxRecDepth 1000000
set_option maxHeartbeats 4000000
theorem Zlm {x_0:Zr} {b_1:(List Zp)} {facts_2:(List Zd)} {r:Bool} (h:Zb5 x_0 b_1 facts_2=some r):Zl prog J0 137 [(true,ZK x_0),(false,[.sl 135 2 (A0 ZZ b_1)]),(false,[.sl 71 2 (A0 Zq facts_2)])] [(false,[(false,.bool r)])]:=by
 refine fnk func137 rfl ?_
 unfold Zb5 at h
 simp only[fnS,f137,Zm,go_sem,seval]
 refine Za h fun _ a h=>Zb (Zfj a) ?_
 simp only[*,go_sem,seval]
 refine Ze h (fun _ h=>?_) fun _ h=>?_<;>try simp only[*,go_sem,seval]
 refine Za h fun _ b h=>Zb (Qk b) ?_
 simp only[*,go_sem,seval]
 iterate 2 refine Ze h (fun _ h=>?_) fun _ h=>?_<;>try simp only[*,go_sem,seval]
 refine Za h fun _ c h=>Zb (Zcx c) ?_
 cases h
 simp only[*,go_sem,seval]
 refine Ze h (fun _ h=>?_) fun _ h=>?_<;>try simp only[*,go_sem,seval]
 refine Za h fun _ d h=>Zb (Zcx d) ?_
 cases h
 simp only[*,go_sem,seval]
 refine Za h fun _ e h=>Zb (ZjX e) ?_
 iterate 3 (cases h;simp only[*,go_sem,seval])
theorem ZlH {l_0:(List Zf)} {r:Bool} (h:ZcN l_0=some r):Zl prog J0 274 [(false,[.sl 104 4 (A0 ZG l_0)])] [(false,[(false,.bool r)])]:=by
 refine fnk func274 rfl ?_
 unfold ZcN at h
 simp only[fnS,f274,Zm,go_sem,seval]
 refine Ze h (fun _ h=>?_) fun _ h=>?_<;>try simp only[*,go_sem,seval]
 cases h
 simp only[*,go_sem,seval]
 refine Zh h (fun i _ st=>IV [(0,.p false [.c (.sl 104 4 (A0 ZG l_0))]),(8,.p false [.c (.sl 104 4 (A0 ZG l_0))]),(9,.p false [.c (.int .i64 ((l_0.length:Nat):Int))]),(10,.p false [.c (.int .i64 ((i:Nat):Int))])] [] st) [] [] (by decide) ?_ ?_ ?_
 simp only[*,go_sem,seval]
 rintro _ _ ⟨⟩ ⟨sl,ob,n⟩ _ a b f h d
 simp only[go_sem,seval,Zc] at b
 obtain ⟨⟨g,_,_,_⟩,hn⟩:=b
 subst hn
 have k:=WF.slotL f g (j:=0) rfl
 have:=ZB a
 have:=ZC a
 have:=Zj (ZA a) k
 simp only[*,go_sem,seval]
 refine Za h fun _ l h=>Zb (Zji l) ?_
 simp only[*,go_sem,seval]
 refine Ze h (fun _ h=>?_) fun _ h=>?_<;>try simp only[*,go_sem,seval]
 refine Za h fun _ m h=>Zb (ZlR m) ?_
 simp only[*,go_sem,seval]
 refine Ze h (fun _ h=>?_) fun _ h=>?_<;>try simp only[*,go_sem,seval]
 replace h:=Zo h d
 cases h
 simp only[*,go_sem,seval]
 refine ⟨_,[],[],(A3 h).symm,by decide,?_⟩
 simp only[*,go_sem,seval]
 replace h:=Zo h d
 cases h
 simp only[*,go_sem,seval]
 rintro ⟨⟩ ⟨sl,ob,n⟩ e _ h
 simp only[go_sem,seval,Zc] at e
 obtain ⟨⟨_,_,_,_⟩,hn⟩:=e
 subst hn
 have:=Zz (l_0.length)
 cases h
 simp only[*,go_sem,seval]
theorem ZkE {r_0:Zf} {r:Bool} (h:ZbU r_0=some r):Zl prog J0 275 [(true,ZG r_0)] [(false,[(false,.bool r)])]:=by
 refine fnk func275 rfl ?_
 unfold ZbU at h
 simp only[fnS,f275,Zm,go_sem,seval]
 refine Za h fun _ l h=>Zb (Zji l) ?_
 simp only[*,go_sem,seval]
 refine Ze h (fun _ h=>?_) fun _ h=>?_<;>try simp only[*,go_sem,seval]
 refine Za h fun _ m h=>Zb (ZlZ m) ?_
 simp only[*,go_sem,seval]
 refine Ze h (fun _ h=>?_) fun _ h=>?_<;>try simp only[*,go_sem,seval]
 refine Zh h (fun i _ st=>IV [(1,.bp 0 0),(17,.p false [.c (.sl 60 5 (A0 ZK r_0.cond))]),(18,.p false [.c (.int .i64 ((r_0.cond.length:Nat):Int))]),(19,.p false [.c (.int .i64 ((i:Nat):Int))])] [.box 104 [.c (.str r_0.name),.c (.int .i64 r_0.priority),.c (.sl 60 5 (A0 ZK r_0.cond)),.c (.sl 166 3 (A0 ZD r_0.thn))]] st) [] [0] (by decide) ?_ ?_ ?_
 simp only[*,go_sem,seval]
 rintro o _ ⟨⟩ ⟨sl,ob,n⟩ _ a e q h t
 simp only[go_sem,seval,Zc] at e
 obtain ⟨⟨_,u,_,_⟩,_,hn⟩:=e
 subst hn
 have v:=WF.slotL q u (j:=0) rfl
 have:=ZB a
 have:=ZC a
 have:=Zj (ZA a) v
 simp only[*,go_sem,seval]
 refine Ze h (fun _ h=>?_) fun _ h=>?_<;>try simp only[*,go_sem,seval]
 refine ⟨_,[],[0],(A3 h).symm,by decide,?_⟩
 simp only[*,go_sem,seval]
 refine Za h fun w x h=>Zb (ZcQ x) ?_
 simp only[*,go_sem,seval]
 refine Za h fun b y h=>Zb (ZbA y) ?_
 simp only[*,go_sem,seval]
 refine Zh h (fun i _ st=>IV [(1,.bp 0 0),(5,.p false [.row 1]),(17,.p false [.c (.sl 60 5 (A0 ZK r_0.cond))]),(18,.p false [.c (.int .i64 ((r_0.cond.length:Nat):Int))]),(19,.p false [.c (.int .i64 ((o:Nat):Int))]),(31,.p false [.row 2]),(32,.p false [.c (.int .i64 ((b.length:Nat):Int))]),(33,.p false [.c (.int .i64 ((i:Nat):Int))])] [.box 104 [.c (.str r_0.name),.c (.int .i64 r_0.priority),.c (.sl 60 5 (A0 ZK r_0.cond)),.c (.sl 166 3 (A0 ZD r_0.thn))],.row 9 1 (A0 Zw w) 2,.row 9 1 (A0 Zw b) 2] st) [] [0,193,241] (by decide) ?_ ?_ ?_
 simp only[*,go_sem,seval]
 rintro _ _ ⟨⟩ ⟨sl,ob,n⟩ _ d f z h A
 simp only[go_sem,seval,Zc] at f
 obtain ⟨⟨_,_,_,_,_,_,_,_⟩,_,_,B,hn⟩:=f
 subst hn
 have C:=WF.rowL z B
 have:=ZB d
 have:=ZC d
 have:=Zj (ZA d) C
 simp only[*,go_sem,seval]
 refine Za h fun _ D h=>Zb (QT D) ?_
 simp only[*,go_sem,seval]
 refine Ze h (fun _ h=>?_) fun _ h=>?_<;>try simp only[*,go_sem,seval]
 refine ⟨_,[],[0,1,2],(A3 h).symm,by decide,?_⟩
 simp only[*,go_sem,seval]
 replace h:=Zo h A
 replace h:=Zo h t
 cases h
 simp only[*,go_sem,seval]
 rintro ⟨⟩ ⟨sl,ob,n⟩ g _ h
 simp only[go_sem,seval,Zc] at g
 obtain ⟨⟨_,_,_,_,_,_,_,_⟩,_,_,_,hn⟩:=g
 subst hn
 have:=Zz (b.length)
 simp only[*,go_sem,seval]
 refine ⟨_,[],[0],(A3 h).symm,by decide,?_⟩
 simp only[*,go_sem,seval]
 rintro ⟨⟩ ⟨sl,ob,n⟩ k _ h
 simp only[go_sem,seval,Zc] at k
 obtain ⟨⟨_,_,_,_⟩,_,hn⟩:=k
 subst hn
 have:=Zz (r_0.cond.length)
 iterate 3 (cases h;simp only[*,go_sem,seval])
theorem ZMe {l_0:(List Zr)} {r:Bool} (h:ZKX l_0=some r):Zl prog J0 76 [(false,[.sl 60 5 (A0 ZK l_0)])] [(false,[(false,.bool r)])]:=by
 refine fnk func76 rfl ?_
 unfold ZKX at h
 simp only[fnS,f76,Zm,go_sem,seval]
 obtain ⟨_,a,h⟩:=ZJ h
 refine ZkJ (ZMX a) ?_
 simp only[*,go_sem,seval]
 refine Za h fun _ b h=>Zb (Zji b) ?_
 cases h
 simp only[*,go_sem,seval]
theorem Zf1 {append_0:Zf} {r:Bool} (h:ZbX append_0=some r):Zl prog J0 87 [(true,ZG append_0)] [(false,[(false,.bool r)])]:=by
 refine fnk func87 rfl ?_
 unfold ZbX at h
 simp only[fnS,f87,Zm,go_sem,seval]
 refine Za h fun _ H h=>Zb (ZfW H) ?_
 simp only[*,go_sem,seval]
 refine Ze h (fun _ h=>?_) fun _ h=>?_<;>try simp only[*,go_sem,seval]
 refine Za h fun _ I h=>Zb (Zat I) ?_
 simp only[*,go_sem,seval]
 refine Ze h (fun _ h=>?_) fun _ h=>?_<;>try simp only[*,go_sem,seval]
 refine Za h fun _ J h=>Zb (Zat J) ?_
 simp only[*,go_sem,seval]
 refine Ze h (fun _ h=>?_) fun _ h=>?_<;>try simp only[*,go_sem,seval]
 refine Za h fun _ K h=>Zb (Zat K) ?_
 simp only[*,go_sem,seval]
 refine Ze h (fun _ h=>?_) fun _ h=>?_<;>try simp only[*,go_sem,seval]
 refine Za h fun e L h=>Zb (ZaS L) ?_
 simp only[*,go_sem,seval]
 refine Zh h (fun i _ st=>IV [(1,.bp 0 0),(3,.p false [.row 1]),(4,.p false [.c (.int .i64 ((i:Nat):Int))])] [.box 104 [.c (.str append_0.name),.c (.int .i64 append_0.priority),.c (.sl 60 5 (A0 ZK append_0.cond)),.c (.sl 166 3 (A0 ZD append_0.thn))],.row 9 1 (A0 Zw e) 2] st) [] [0,480] (by decide) ?_ ?_ ?_
 simp only[*,go_sem,seval]
 rintro b a ⟨⟩ ⟨sl,ob,n⟩ _ f o M h d
 simp only[go_sem,seval,Zc] at o
 obtain ⟨⟨_,_,_⟩,N,_,hn⟩:=o
 subst hn
 have O:=WF.boxL M N (j:=2) rfl
 have:=ZB f
 have:=ZC f
 have:=Zj (ZA f) O
 simp only[*,go_sem,seval]
 refine Za h fun _ P h=>Zb (Zdw P) ?_
 simp only[*,go_sem,seval]
 iterate 3 refine Ze h (fun _ h=>?_) fun _ h=>?_<;>try simp only[*,go_sem,seval]
 replace h:=Zo h d
 cases h
 simp only[*,go_sem,seval]
 refine Za h fun Q R h=>Zb (ZaS R) ?_
 simp only[*,go_sem,seval]
 refine Za h fun q S h=>Zb (Q7 S) ?_
 simp only[*,go_sem,seval]
 refine Zh h (fun i _ st=>IV [(1,.bp 0 0),(3,.p false [.row 1]),(4,.p false [.c (.int .i64 ((b:Nat):Int))]),(5,.bp 2 0),(6,.p false [.row 3]),(7,.p false [.row 4]),(8,.p false [.c (.int .i64 ((i:Nat):Int))]),(58,.p false [.c (.int .i64 ((b:Nat):Int))]),(59,.p false [.c (.bool (((b:Nat):Int)==0))]),(60,.p false [.c (.bool (((b:Nat):Int)==0))]),(61,.bp 2 0),(62,.p false [.c (.int .i64 a.kind)]),(63,.p false [.c (.bool (a.kind != 1))]),(64,.p false [.c (.bool (a.kind != 1))])] [.box 104 [.c (.str append_0.name),.c (.int .i64 append_0.priority),.c (.sl 60 5 (A0 ZK append_0.cond)),.c (.sl 166 3 (A0 ZD append_0.thn))],.row 9 1 (A0 Zw e) 2,.box 60 [.c (.int .i64 a.kind),.c (.str a.pattern.rel),.c (.sl 9 1 (A0 Zw a.pattern.args)),.c (.str a.left),.c (.str a.right)],.row 9 1 (A0 Zw Q) 2,.row 9 1 (A0 Zw q) 2] st) [] [0,1,162,418,466] (by decide) ?_ ?_ ?_
 simp only[*,go_sem,seval]
 rintro _ _ ⟨⟩ ⟨sl,ob,n⟩ _ g t T h u
 simp only[go_sem,seval,Zc] at t
 obtain ⟨⟨_,_,_,_,_,_,_,_,_,_,_,_,_,_⟩,_,_,_,_,U,hn⟩:=t
 subst hn
 have V:=WF.rowL T U
 have:=ZB g
 have:=ZC g
 have:=Zj (ZA g) V
 simp only[*,go_sem,seval]
 refine Za h fun _ W h=>Zb (Ym W) ?_
 simp only[*,go_sem,seval]
 refine Za h fun _ X h=>Zb (Zf4 X) ?_
 simp only[*,go_sem,seval]
 iterate 3 refine Ze h (fun _ h=>?_) fun _ h=>?_<;>try simp only[*,go_sem,seval]
 refine ⟨_,[],[0,1,2,3,4],(A3 h).symm,by decide,?_⟩
 simp only[*,go_sem,seval]
 refine ⟨_,[],[0,1,2,3,4],(A3 h).symm,by decide,?_⟩
 simp only[*,go_sem,seval]
 replace h:=Zo h u
 replace h:=Zo h d
 cases h
 simp only[*,go_sem,seval]
 iterate 2 refine Ze h (fun _ h=>?_) fun _ h=>?_<;>try simp only[*,go_sem,seval]
 refine ⟨_,[],[0,1,2,3,4],(A3 h).symm,by decide,?_⟩
 simp only[*,go_sem,seval]
 refine Za h fun _ Y h=>Zb (Zem Y) ?_
 simp only[*,go_sem,seval]
 refine Ze h (fun _ h=>?_) fun _ h=>?_<;>try simp only[*,go_sem,seval]
 replace h:=Zo h u
 replace h:=Zo h d
 cases h
 simp only[*,go_sem,seval]
 refine ⟨_,[],[0,1,2,3,4],(A3 h).symm,by decide,?_⟩
 simp only[*,go_sem,seval]
 refine ⟨_,[],[0,1,2,3,4],(A3 h).symm,by decide,?_⟩
 simp only[*,go_sem,seval]
 rintro ⟨⟩ ⟨sl,ob,n⟩ v _ h
 simp only[go_sem,seval,Zc] at v
 obtain ⟨⟨_,_,_,_,_,_,_,_,_,_,_,_,_,_⟩,_,_,_,_,_,hn⟩:=v
 subst hn
 have:=Zz (q.length)
 simp only[*,go_sem,seval]
 refine ⟨_,[],[0,1],(A3 h).symm,by decide,?_⟩
 simp only[*,go_sem,seval]
 refine Za h fun Z aa h=>Zb (ZaS aa) ?_
 simp only[*,go_sem,seval]
 refine Za h fun w ab h=>Zb (Q7 ab) ?_
 simp only[*,go_sem,seval]
 refine Zh h (fun i _ st=>IV [(1,.bp 0 0),(3,.p false [.row 1]),(4,.p false [.c (.int .i64 ((b:Nat):Int))]),(5,.bp 2 0),(6,.p false [.row 3]),(7,.p false [.row 4]),(8,.p false [.c (.int .i64 ((i:Nat):Int))]),(58,.p false [.c (.int .i64 ((b:Nat):Int))]),(59,.p false [.c (.bool (((b:Nat):Int)==0))]),(60,.p false [.c (.bool (((b:Nat):Int)==0))]),(64,.p false [.c (.bool false)])] [.box 104 [.c (.str append_0.name),.c (.int .i64 append_0.priority),.c (.sl 60 5 (A0 ZK append_0.cond)),.c (.sl 166 3 (A0 ZD append_0.thn))],.row 9 1 (A0 Zw e) 2,.box 60 [.c (.int .i64 a.kind),.c (.str a.pattern.rel),.c (.sl 9 1 (A0 Zw a.pattern.args)),.c (.str a.left),.c (.str a.right)],.row 9 1 (A0 Zw Z) 2,.row 9 1 (A0 Zw w) 2] st) [] [0,1,162,418,466] (by decide) ?_ ?_ ?_
 simp only[*,go_sem,seval]
 rintro _ _ ⟨⟩ ⟨sl,ob,n⟩ _ k x ac h y
 simp only[go_sem,seval,Zc] at x
 obtain ⟨⟨_,_,_,_,_,_,_,_,_,_,_⟩,_,_,_,_,ad,hn⟩:=x
 subst hn
 have ae:=WF.rowL ac ad
 have:=ZB k
 have:=ZC k
 have:=Zj (ZA k) ae
 simp only[*,go_sem,seval]
 refine Za h fun _ af h=>Zb (Ym af) ?_
 simp only[*,go_sem,seval]
 refine Za h fun _ ag h=>Zb (Zf4 ag) ?_
 simp only[*,go_sem,seval]
 iterate 3 refine Ze h (fun _ h=>?_) fun _ h=>?_<;>try simp only[*,go_sem,seval]
 refine ⟨_,[],[0,1,2,3,4],(A3 h).symm,by decide,?_⟩
 simp only[*,go_sem,seval]
 refine ⟨_,[],[0,1,2,3,4],(A3 h).symm,by decide,?_⟩
 simp only[*,go_sem,seval]
 replace h:=Zo h y
 replace h:=Zo h d
 cases h
 simp only[*,go_sem,seval]
 iterate 2 refine Ze h (fun _ h=>?_) fun _ h=>?_<;>try simp only[*,go_sem,seval]
 refine ⟨_,[],[0,1,2,3,4],(A3 h).symm,by decide,?_⟩
 simp only[*,go_sem,seval]
 refine Za h fun _ ah h=>Zb (Zem ah) ?_
 simp only[*,go_sem,seval]
 refine Ze h (fun _ h=>?_) fun _ h=>?_<;>try simp only[*,go_sem,seval]
 replace h:=Zo h y
 replace h:=Zo h d
 cases h
 simp only[*,go_sem,seval]
 refine ⟨_,[],[0,1,2,3,4],(A3 h).symm,by decide,?_⟩
 simp only[*,go_sem,seval]
 refine ⟨_,[],[0,1,2,3,4],(A3 h).symm,by decide,?_⟩
 simp only[*,go_sem,seval]
 rintro ⟨⟩ ⟨sl,ob,n⟩ z _ h
 simp only[go_sem,seval,Zc] at z
 obtain ⟨⟨_,_,_,_,_,_,_,_,_,_,_⟩,_,_,_,_,_,hn⟩:=z
 subst hn
 have:=Zz (w.length)
 simp only[*,go_sem,seval]
 refine ⟨_,[],[0,1],(A3 h).symm,by decide,?_⟩
 simp only[*,go_sem,seval]
 replace h:=Zo h d
 cases h
 simp only[*,go_sem,seval]
 rintro ⟨⟩ ⟨sl,ob,n⟩ A _ h
 simp only[go_sem,seval,Zc] at A
 obtain ⟨⟨_,_,_⟩,_,_,hn⟩:=A
 subst hn
 have:=Zz (append_0.cond.length)
 simp only[*,go_sem,seval]
 refine Zh h (fun i _ st=>IV [(1,.bp 0 0),(3,.p false [.row 1]),(10,.p false [.c (.int .i64 ((i:Nat):Int))])] [.box 104 [.c (.str append_0.name),.c (.int .i64 append_0.priority),.c (.sl 60 5 (A0 ZK append_0.cond)),.c (.sl 166 3 (A0 ZD append_0.thn))],.row 9 1 (A0 Zw e) 2] st) [] [0,1] (by decide) ?_ ?_ ?_
 simp only[*,go_sem,seval]
 rintro ai _ ⟨⟩ ⟨sl,ob,n⟩ _ l B aj h C
 simp only[go_sem,seval,Zc] at B
 obtain ⟨⟨_,_,_⟩,ak,_,hn⟩:=B
 subst hn
 have al:=WF.boxL aj ak (j:=3) rfl
 have:=ZB l
 have:=ZC l
 have:=Zj (ZA l) al
 simp only[*,go_sem,seval]
 refine Za h fun _ am h=>Zb (ZlF am) ?_
 simp only[*,go_sem,seval]
 refine Ze h (fun _ h=>?_) fun _ h=>?_<;>try simp only[*,go_sem,seval]
 refine Za h fun D an h=>Zb (ZbQ an) ?_
 simp only[*,go_sem,seval]
 refine Zh h (fun i _ st=>IV [(1,.bp 0 0),(3,.p false [.row 1]),(10,.p false [.c (.int .i64 ((ai:Nat):Int))]),(11,.p false [.row 2]),(12,.p false [.c (.int .i64 ((i:Nat):Int))])] [.box 104 [.c (.str append_0.name),.c (.int .i64 append_0.priority),.c (.sl 60 5 (A0 ZK append_0.cond)),.c (.sl 166 3 (A0 ZD append_0.thn))],.row 9 1 (A0 Zw e) 2,.row 9 1 (A0 Zw D) 2] st) [] [0,1,290] (by decide) ?_ ?_ ?_
 simp only[*,go_sem,seval]
 rintro _ _ ⟨⟩ ⟨sl,ob,n⟩ _ m E ao h ap
 simp only[go_sem,seval,Zc] at E
 obtain ⟨⟨_,_,_,_,_⟩,_,_,aq,hn⟩:=E
 subst hn
 have ar:=WF.rowL ao aq
 have:=ZB m
 have:=ZC m
 have:=Zj (ZA m) ar
 simp only[*,go_sem,seval]
 refine Za h fun _ au h=>Zb (Ym au) ?_
 simp only[*,go_sem,seval]
 refine Ze h (fun _ h=>?_) fun _ h=>?_<;>try simp only[*,go_sem,seval]
 refine ⟨_,[],[0,1,2],(A3 h).symm,by decide,?_⟩
 simp only[*,go_sem,seval]
 replace h:=Zo h ap
 replace h:=Zo h C
 cases h
 simp only[*,go_sem,seval]
 rintro ⟨⟩ ⟨sl,ob,n⟩ F _ h
 simp only[go_sem,seval,Zc] at F
 obtain ⟨⟨_,_,_,_,_⟩,_,_,_,hn⟩:=F
 subst hn
 have:=Zz (D.length)
 simp only[*,go_sem,seval]
 refine ⟨_,[],[0,1],(A3 h).symm,by decide,?_⟩
 simp only[*,go_sem,seval]
 replace h:=Zo h C
 cases h
 simp only[*,go_sem,seval]
 rintro ⟨⟩ ⟨sl,ob,n⟩ G _ h
 simp only[go_sem,seval,Zc] at G
 obtain ⟨⟨_,_,_⟩,_,_,hn⟩:=G
 subst hn
 have:=Zz (append_0.thn.length)
 simp only[*,go_sem,seval]
 refine Za h fun _ av h=>Zb (Zl1 av) ?_
 iterate 5 (cases h;simp only[*,go_sem,seval])
theorem ZLQ {c_0:ZF} {r:(Zr × ZF)} (h:ZLs c_0=some r):ZaU prog J0 JF0 146 (.box 184 (Za7 c_0)) [] [(true,[(false,.int .i64 r.1.kind),(false,.str r.1.pattern.rel),(true,.sl 9 1 (A0 Zw r.1.pattern.args)),(false,.str r.1.left),(false,.str r.1.right)])] (.box 184 (Za7 r.2)):=by
 refine fnh func146 rfl ?_
 unfold ZLs at h
 simp only[fnH,f146,ZcO,ZcW,Y9,go_sem,seval]
 obtain ⟨_,a,h⟩:=ZJ h
 refine QC (ZL8 a) ?_
 simp only[*,go_sem,seval]
 obtain ⟨_,b,h⟩:=ZJ h
 refine QC (QS b) ?_
 simp only[*,go_sem,seval]
 refine Ze h (fun _ h=>?_) fun _ h=>?_<;>try simp only[*,go_sem,seval]
 obtain ⟨_,c,h⟩:=ZJ h
 refine QC (ZKQ c) ?_
 cases h
 simp only[*,go_sem,seval]
 refine Ze h (fun _ h=>?_) fun _ h=>?_<;>try simp only[*,go_sem,seval]
 obtain ⟨_,d,h⟩:=ZJ h
 refine QC (ZKU d) ?_
 cases h
 simp only[*,go_sem,seval]
 refine Ze h (fun _ h=>?_) fun _ h=>?_<;>try simp only[*,go_sem,seval]
 obtain ⟨_,e,h⟩:=ZJ h
 refine QC (ZLO e) ?_
 iterate 2 (cases h;simp only[*,go_sem,seval])
theorem ZjR {x_0:Zr} {b_1:(List Zp)} {r:Bool} (h:ZbO x_0 b_1=some r):Zl prog J0 91 [(true,ZK x_0),(false,[.sl 135 2 (A0 ZZ b_1)])] [(false,[(false,.bool r)])]:=by
 refine fnk func91 rfl ?_
 unfold ZbO at h
 simp only[fnS,f91,Zm,go_sem,seval]
 refine Za h fun _ a h=>Zb (Zf4 a) ?_
 simp only[*,go_sem,seval]
 refine Ze h (fun _ h=>?_) fun _ h=>?_<;>try simp only[*,go_sem,seval]
 refine Za h fun _ b h=>Zb (Qy b) ?_
 simp only[*,go_sem,seval]
 refine Ze h (fun _ h=>?_) fun _ h=>?_<;>try simp only[*,go_sem,seval]
 refine Za h fun _ c h=>Zb (Zcl c) ?_
 simp only[*,go_sem,seval]
 refine Za h fun _ d h=>Zb (Zcl d) ?_
 simp only[*,go_sem,seval]
 iterate 3 refine Ze h (fun _ h=>?_) fun _ h=>?_<;>try simp only[*,go_sem,seval]
 cases h
 simp only[*,go_sem,seval]
 refine Ze h (fun _ h=>?_) fun _ h=>?_<;>try simp only[*,go_sem,seval]
 cases h
 simp only[*,go_sem,seval]
 refine Za h fun _ e h=>Zb (ZgK e) ?_
 simp only[*,go_sem,seval]
 refine Ze h (fun _ h=>?_) fun _ h=>?_<;>try simp only[*,go_sem,seval]
 refine Za h fun _ f h=>Zb (ZgK f) ?_
 simp only[*,go_sem,seval]
 refine Ze h (fun _ h=>?_) fun _ h=>?_<;>try simp only[*,go_sem,seval]
 refine Za h fun _ g h=>Zb (Zdr g) ?_
 iterate 7 (cases h;simp only[*,go_sem,seval])
theorem ZJE {l_0:(List Zd)} {b_1:Zu} {r:(List Zd)} (h:ZI0 l_0 b_1=some r):Zl prog J0 86 [(false,[.sl 71 2 (A0 Zq l_0)]),(true,Qw b_1)] [(false,[(false,.sl 71 2 (A0 Zq r))])]:=by
 refine fnk func86 rfl ?_
 unfold ZI0 at h
 simp only[fnS,f86,Zm,go_sem,seval]
 refine Za h fun f g h=>Zb (ZJj g) ?_
 simp only[*,go_sem,seval]
 refine Zh h (fun i a st=>IV [(0,.p false [.c (.sl 71 2 (A0 Zq l_0))]),(5,.p false [.row 0]),(6,.p false [.row 1]),(7,.p false [.c (.int .i64 ((i:Nat):Int))])] [.row 71 2 (A0 Zq a) 2,.row 4 1 (A0 ZgO f) 2] st) [] [32,80] (by decide) ?_ ?_ ?_
 simp only[*,go_sem,seval]
 rintro _ _ a ⟨sl,ob,n⟩ _ b d k h l
 simp only[go_sem,seval,Zc] at d
 obtain ⟨⟨m,_,_,_⟩,_,_,hn⟩:=d
 subst hn
 have o:=WF.slotL k m (j:=0) rfl
 have:=ZB b
 have:=ZC b
 have:=Zj (ZA b) o
 simp only[*,go_sem,seval]
 refine Ze h (fun _ h=>?_) fun _ h=>?_<;>try simp only[*,go_sem,seval]
 obtain ⟨_,h⟩:=Zs h
 obtain ⟨_,_,h⟩:=ZJ h
 simp only[*,go_sem,seval]
 refine Ze h (fun _ h=>?_) fun _ h=>?_<;>try simp only[*,go_sem,seval]
 refine Za h fun _ q h=>Zb (Xr q) ?_
 obtain ⟨t,h⟩:=Zs h
 try simp only[Nat.reduceLeDiff] at t
 simp only[*,go_sem,seval]
 refine ⟨_,[],[338,1],(A3 h).symm,by decide,?_⟩
 simp only[*,go_sem,seval]
 refine ⟨_,[],[0,1],(A3 h).symm,by decide,?_⟩
 simp only[*,go_sem,seval]
 replace h:=Zo h l
 cases h
 simp only[*,go_sem,seval]
 rintro a ⟨sl,ob,n⟩ e _ h
 simp only[go_sem,seval,Zc] at e
 obtain ⟨⟨_,_,_,_⟩,_,_,hn⟩:=e
 subst hn
 have:=Zz (l_0.length)
 cases h
 simp only[*,go_sem,seval]
end
section
set_option linter.unusedSimpArgs false
set_option linter.unusedVariables false
set_option maxRecDepth 1000000
set_option maxHeartbeats 4000000
theorem ZgT {append_0:(List Zr)} {String_1:(List Zd)} {r:(List Zt)} (h:Zam append_0 String_1=some r):Zl prog J0 77 [(false,[.sl 60 5 (A0 ZK append_0)]),(false,[.sl 71 2 (A0 Zq String_1)])] [(false,[(true,.sl 118 2 (A0 YE r))])]:=by
 refine fnk func77 rfl ?_
 unfold Zam at h
 simp only[fnS,f77,Zm,go_sem,seval]
 refine Zh h (fun i b st=>IV [(1,.p false [.c (.sl 71 2 (A0 Zq String_1))]),(5,.p false [.row 0]),(17,.p false [.c (.sl 60 5 (A0 ZK append_0))]),(18,.p false [.c (.int .i64 ((append_0.length:Nat):Int))]),(19,.p false [.c (.int .i64 ((i:Nat):Int))])] [.row 118 2 (A0 YE b) 1] st) [(true,32,1)] [32] (by decide) ?_ ?_ ?_
 simp only[*,go_sem,seval]
 rintro l a b ⟨sl,ob,n⟩ _ d m x h _
 simp only[go_sem,seval,Zc] at m
 obtain ⟨⟨_,_,y,_,_⟩,_,hn⟩:=m
 subst hn
 have z:=WF.slotL x y (j:=0) rfl
 have:=ZB d
 have:=ZC d
 have:=Zj (ZA d) z
 simp only[*,go_sem,seval]
 refine Zh h (fun i e st=>IV [(1,.p false [.c (.sl 71 2 (A0 Zq String_1))]),(7,.bp 0 0),(8,.p false [.row 1]),(17,.p false [.c (.sl 60 5 (A0 ZK append_0))]),(18,.p false [.c (.int .i64 ((append_0.length:Nat):Int))]),(19,.p false [.c (.int .i64 ((l:Nat):Int))]),(23,.p false [.row 2]),(24,.p false [.c (.int .i64 ((b.length:Nat):Int))]),(25,.p false [.c (.int .i64 ((i:Nat):Int))])] [.box 60 [.c (.int .i64 a.kind),.c (.str a.pattern.rel),.c (.sl 9 1 (A0 Zw a.pattern.args)),.c (.str a.left),.c (.str a.right)],.row 118 2 (A0 YE e) 1,.row 118 2 (A0 YE b) 1] st) [(false,8,0),(true,145,1)] [49,145,0] (by decide) ?_ ?_ ?_
 simp only[*,go_sem,seval]
 rintro A o e ⟨sl,ob,n⟩ _ f q B h _
 simp only[go_sem,seval,Zc] at q
 obtain ⟨⟨_,_,_,_,_,_,_,_,_⟩,_,_,C,hn⟩:=q
 subst hn
 have D:=WF.rowL B C
 have:=ZB f
 have:=ZC f
 have:=Zj (ZA f) D
 simp only[*,go_sem,seval]
 refine Ze h (fun _ h=>?_) fun _ h=>?_<;>try simp only[*,go_sem,seval]
 refine Za h fun _ E h=>Zb (Zlm E) ?_
 simp only[*,go_sem,seval]
 refine Ze h (fun _ h=>?_) fun _ h=>?_<;>try simp only[*,go_sem,seval]
 obtain ⟨F,h⟩:=Zs h
 try simp only[Nat.reduceLeDiff] at F
 simp only[*,go_sem,seval]
 refine ⟨_,[],[0,259,2],(A3 h).symm,by decide,?_⟩
 simp only[*,go_sem,seval]
 refine ⟨_,[],[0,1,2],(A3 h).symm,by decide,?_⟩
 simp only[*,go_sem,seval]
 refine Zh h (fun i g st=>IV [(1,.p false [.c (.sl 71 2 (A0 Zq String_1))]),(7,.bp 0 0),(8,.p false [.row 1]),(10,.bp 2 0),(17,.p false [.c (.sl 60 5 (A0 ZK append_0))]),(18,.p false [.c (.int .i64 ((append_0.length:Nat):Int))]),(19,.p false [.c (.int .i64 ((l:Nat):Int))]),(23,.p false [.row 3]),(24,.p false [.c (.int .i64 ((b.length:Nat):Int))]),(25,.p false [.c (.int .i64 ((A:Nat):Int))]),(41,.p false [.c (.sl 71 2 (A0 Zq String_1))]),(42,.p false [.c (.int .i64 ((String_1.length:Nat):Int))]),(43,.p false [.c (.int .i64 ((i:Nat):Int))])] [.box 60 [.c (.int .i64 a.kind),.c (.str a.pattern.rel),.c (.sl 9 1 (A0 Zw a.pattern.args)),.c (.str a.left),.c (.str a.right)],.row 118 2 (A0 YE g) 1,.box 118 [.c (.sl 71 2 (A0 Zq o.facts)),.c (.sl 135 2 (A0 ZZ o.binding))],.row 118 2 (A0 YE b) 1] st) [] [0,1,51,2] (by decide) ?_ ?_ ?_
 simp only[*,go_sem,seval]
 rintro _ _ g ⟨sl,ob,n⟩ _ k t G h _
 simp only[go_sem,seval,Zc] at t
 obtain ⟨⟨H,_,_,_,_,_,_,_,_,_,_,_,_⟩,_,_,_,_,hn⟩:=t
 subst hn
 have I:=WF.slotL G H (j:=0) rfl
 have:=ZB k
 have:=ZC k
 have:=Zj (ZA k) I
 simp only[*,go_sem,seval]
 refine Za h fun _ J h=>Zb (Zfk J) ?_
 simp only[*,go_sem,seval]
 refine Ze h (fun _ h=>?_) fun _ h=>?_<;>try simp only[*,go_sem,seval]
 refine Za h fun _ K h=>Zb (ZfY K) ?_
 simp only[*,go_sem,seval]
 refine Za h fun _ L h=>Zb (YC L) ?_
 obtain ⟨M,h⟩:=Zs h
 try simp only[Nat.reduceLeDiff] at M
 obtain ⟨N,h⟩:=Zs h
 try simp only[Nat.reduceLeDiff] at N
 simp only[*,go_sem,seval]
 refine ⟨_,[],[0,452,2,3],(A3 h).symm,by decide,?_⟩
 simp only[*,go_sem,seval]
 refine ⟨_,[],[0,1,2,3],(A3 h).symm,by decide,?_⟩
 simp only[*,go_sem,seval]
 rintro g ⟨sl,ob,n⟩ u _ h
 simp only[go_sem,seval,Zc] at u
 obtain ⟨⟨_,_,_,_,_,_,_,_,_,_,_,_,_⟩,_,_,_,_,hn⟩:=u
 subst hn
 have:=Zz (String_1.length)
 simp only[*,go_sem,seval]
 refine ⟨_,[],[0,1,3],(A3 h).symm,by decide,?_⟩
 simp only[*,go_sem,seval]
 rintro e ⟨sl,ob,n⟩ v _ h
 simp only[go_sem,seval,Zc] at v
 obtain ⟨⟨_,_,_,_,_,_,_,_,_⟩,_,_,_,hn⟩:=v
 subst hn
 have:=Zz (b.length)
 simp only[*,go_sem,seval]
 refine ⟨_,[],[1],(A3 h).symm,by decide,?_⟩
 simp only[*,go_sem,seval]
 rintro b ⟨sl,ob,n⟩ w _ h
 simp only[go_sem,seval,Zc] at w
 obtain ⟨⟨_,_,_,_,_⟩,_,hn⟩:=w
 subst hn
 have:=Zz (append_0.length)
 cases h
 simp only[*,go_sem,seval]
theorem Zjl {rules_0:(List Zf)} {r:Bool} (h:ZaP rules_0=some r):Zl prog J0 234 [(false,[.sl 104 4 (A0 ZG rules_0)])] [(false,[(false,.bool r)])]:=by
 refine fnk func234 rfl ?_
 unfold ZaP at h
 simp only[fnS,f234,Zm,go_sem,seval]
 refine Za h fun _ y h=>Zb (ZlH y) ?_
 simp only[*,go_sem,seval]
 refine Ze h (fun _ h=>?_) fun _ h=>?_<;>try simp only[*,go_sem,seval]
 refine Zh h (fun i _ st=>IV [(0,.p false [.c (.sl 104 4 (A0 ZG rules_0))]),(13,.p false [.c (.sl 104 4 (A0 ZG rules_0))]),(14,.p false [.c (.int .i64 ((rules_0.length:Nat):Int))]),(15,.p false [.c (.int .i64 ((i:Nat):Int))])] [] st) [] [] (by decide) ?_ ?_ ?_
 simp only[*,go_sem,seval]
 rintro l a ⟨⟩ ⟨sl,ob,n⟩ _ d m z h e
 simp only[go_sem,seval,Zc] at m
 obtain ⟨⟨A,_,_,_⟩,hn⟩:=m
 subst hn
 have B:=WF.slotL z A (j:=0) rfl
 have:=ZB d
 have:=ZC d
 have:=Zj (ZA d) B
 simp only[*,go_sem,seval]
 refine Za h fun _ C h=>Zb (ZkE C) ?_
 simp only[*,go_sem,seval]
 refine Ze h (fun _ h=>?_) fun _ h=>?_<;>try simp only[*,go_sem,seval]
 refine Zh h (fun i _ st=>IV [(0,.p false [.c (.sl 104 4 (A0 ZG rules_0))]),(4,.bp 0 0),(13,.p false [.c (.sl 104 4 (A0 ZG rules_0))]),(14,.p false [.c (.int .i64 ((rules_0.length:Nat):Int))]),(15,.p false [.c (.int .i64 ((l:Nat):Int))]),(23,.p false [.c (.sl 60 5 (A0 ZK a.cond))]),(24,.p false [.c (.int .i64 ((a.cond.length:Nat):Int))]),(25,.p false [.c (.int .i64 ((i:Nat):Int))])] [.box 104 [.c (.str a.name),.c (.int .i64 a.priority),.c (.sl 60 5 (A0 ZK a.cond)),.c (.sl 166 3 (A0 ZD a.thn))]] st) [] [48] (by decide) ?_ ?_ ?_
 simp only[*,go_sem,seval]
 rintro D b ⟨⟩ ⟨sl,ob,n⟩ _ f o E h q
 simp only[go_sem,seval,Zc] at o
 obtain ⟨⟨_,_,_,_,_,F,_,_⟩,_,hn⟩:=o
 subst hn
 have G:=WF.slotL E F (j:=0) rfl
 have:=ZB f
 have:=ZC f
 have:=Zj (ZA f) G
 simp only[*,go_sem,seval]
 refine Ze h (fun _ h=>?_) fun _ h=>?_<;>try simp only[*,go_sem,seval]
 refine ⟨_,[],[0],(A3 h).symm,by decide,?_⟩
 simp only[*,go_sem,seval]
 obtain ⟨H,I,h⟩:=ZJ h
 refine Zyh (ZlX I) ?_
 simp only[*,go_sem,seval]
 refine Za h fun g J h=>Zb (ZgC J) ?_
 simp only[*,go_sem,seval]
 refine Zh h (fun i _ st=>IV [(0,.p false [.c (.sl 104 4 (A0 ZG rules_0))]),(4,.bp 0 0),(6,.bp 1 0),(7,.p false [.row 2]),(13,.p false [.c (.sl 104 4 (A0 ZG rules_0))]),(14,.p false [.c (.int .i64 ((rules_0.length:Nat):Int))]),(15,.p false [.c (.int .i64 ((l:Nat):Int))]),(23,.p false [.c (.sl 60 5 (A0 ZK a.cond))]),(24,.p false [.c (.int .i64 ((a.cond.length:Nat):Int))]),(25,.p false [.c (.int .i64 ((D:Nat):Int))]),(38,.p false [.row 3]),(39,.p false [.c (.int .i64 ((g.length:Nat):Int))]),(40,.p false [.c (.int .i64 ((i:Nat):Int))])] [.box 104 [.c (.str a.name),.c (.int .i64 a.priority),.c (.sl 60 5 (A0 ZK a.cond)),.c (.sl 166 3 (A0 ZD a.thn))],.box 60 [.c (.int .i64 b.kind),.c (.str b.pattern.rel),.c (.sl 9 1 (A0 Zw b.pattern.args)),.c (.str b.left),.c (.str b.right)],.map .str .bool (A0 eSB H),.row 9 1 (A0 Zw g) 2] st) [] [0,49,193,241] (by decide) ?_ ?_ ?_
 simp only[*,go_sem,seval]
 rintro _ _ ⟨⟩ ⟨sl,ob,n⟩ _ k t K h u
 simp only[go_sem,seval,Zc] at t
 obtain ⟨⟨_,_,_,_,_,_,_,_,_,_,_,_,_⟩,_,_,_,L,hn⟩:=t
 subst hn
 have M:=WF.rowL K L
 have:=ZB k
 have:=ZC k
 have:=Zj (ZA k) M
 simp only[*,go_sem,seval]
 refine Ze h (fun _ h=>?_) fun _ h=>?_<;>try simp only[*,go_sem,seval]
 replace h:=Zo h u
 replace h:=Zo h q
 replace h:=Zo h e
 cases h
 simp only[*,go_sem,seval]
 refine Ze h (fun _ h=>?_) fun _ h=>?_<;>try simp only[*,go_sem,seval]
 replace h:=Zo h u
 replace h:=Zo h q
 replace h:=Zo h e
 cases h
 simp only[*,go_sem,seval]
 refine ⟨_,[],[0,1,2,3],(A3 h).symm,by decide,?_⟩
 simp only[*,go_sem,seval]
 rintro ⟨⟩ ⟨sl,ob,n⟩ v _ h
 simp only[go_sem,seval,Zc] at v
 obtain ⟨⟨_,_,_,_,_,_,_,_,_,_,_,_,_⟩,_,_,_,_,hn⟩:=v
 subst hn
 have:=Zz (g.length)
 simp only[*,go_sem,seval]
 refine ⟨_,[],[0],(A3 h).symm,by decide,?_⟩
 simp only[*,go_sem,seval]
 rintro ⟨⟩ ⟨sl,ob,n⟩ w _ h
 simp only[go_sem,seval,Zc] at w
 obtain ⟨⟨_,_,_,_,_,_,_,_⟩,_,hn⟩:=w
 subst hn
 have:=Zz (a.cond.length)
 simp only[*,go_sem,seval]
 refine ⟨_,[],[],(A3 h).symm,by decide,?_⟩
 simp only[*,go_sem,seval]
 replace h:=Zo h e
 cases h
 simp only[*,go_sem,seval]
 rintro ⟨⟩ ⟨sl,ob,n⟩ x _ h
 simp only[go_sem,seval,Zc] at x
 obtain ⟨⟨_,_,_,_⟩,hn⟩:=x
 subst hn
 have:=Zz (rules_0.length)
 iterate 2 (cases h;simp only[*,go_sem,seval])
theorem Zn0 {append_0:Zf} {String_1:ByteArray} {a_2:ByteArray} {r:(Zf × Bool)} (h:Zen append_0 String_1 a_2=some r):Zl prog J0 280 [(true,[.str append_0.name,.int .i64 append_0.priority,.nl 60 5,.nl 166 3]),(false,[.str String_1]),(false,[.str a_2])] [(true,[(false,.str r.1.name),(false,.int .i64 r.1.priority),(false,.sl 60 5 (A0 ZK r.1.cond)),(false,.sl 166 3 (A0 ZD r.1.thn))]),(false,[(false,.bool r.2)])]:=by
 refine fnk func280 rfl ?_
 unfold Zen at h
 have o:Z2 ⟨#[32,38,32]⟩=true:=by decide
 simp only[fnS,f280,Zm,go_sem,seval,o]
 refine Za h fun f q h=>Zb (XU q) ?_
 simp only[*,go_sem,seval]
 refine Zh h (fun i a st=>IV [(2,.p false [.c (.str a_2)]),(3,.bp 0 0),(6,.bp 2 0),(8,.p false [.row 3]),(9,.p false [.c (.int .i64 ((i:Nat):Int))])] [.box 104 [.c (.str append_0.name),.c (.int .i64 append_0.priority),.row 1,.nil 166 3],.row 60 5 (A0 ZK a) 2,.box 104 [.c (.str ⟨#[]⟩),.c (.int .i64 0),.nil 60 5,.nil 166 3],.row 9 1 (A0 Zw f) 2] st) [(true,0,2)] [0,112,16,64] (by decide) ?_ ?_ ?_
 simp only[*,go_sem,seval]
 rintro _ _ a ⟨sl,ob,n⟩ _ b g t h u
 simp only[go_sem,seval,Zc] at g
 obtain ⟨⟨_,_,_,_,_⟩,_,_,_,v,hn⟩:=g
 subst hn
 have w:=WF.rowL t v
 have:=ZB b
 have:=ZC b
 have:=Zj (ZA b) w
 simp only[*,go_sem,seval]
 refine Za h fun _ x h=>Zb (Zlg x) ?_
 simp only[*,go_sem,seval]
 refine Ze h (fun _ h=>?_) fun _ h=>?_<;>try simp only[*,go_sem,seval]
 obtain ⟨y,h⟩:=Zs h
 try simp only[Nat.reduceLeDiff] at y
 simp only[*,go_sem,seval]
 refine ⟨_,[],[0,340,2,3],(A3 h).symm,by decide,?_⟩
 simp only[*,go_sem,seval]
 replace h:=Zo h u
 cases h
 simp only[*,go_sem,seval]
 rintro a ⟨sl,ob,n⟩ j _ h
 simp only[go_sem,seval,Zc] at j
 obtain ⟨⟨_,_,_,_,_⟩,_,_,_,_,hn⟩:=j
 subst hn
 have:=Zz (f.length)
 simp only[*,go_sem,seval]
 refine Za h fun k z h=>Zb (XU z) ?_
 simp only[*,go_sem,seval]
 refine Zh h (fun i d st=>IV [(3,.bp 0 0),(6,.bp 3 0),(12,.p false [.row 4]),(13,.p false [.c (.int .i64 ((i:Nat):Int))])] [.box 104 [.c (.str append_0.name),.c (.int .i64 append_0.priority),.row 1,.row 2],.row 60 5 (A0 ZK a) 2,.row 166 3 (A0 ZD d) 2,.box 104 [.c (.str ⟨#[]⟩),.c (.int .i64 0),.nil 60 5,.nil 166 3],.row 9 1 (A0 Zw k) 2] st) [(true,0,3)] [0,1,132,2,84] (by decide) ?_ ?_ ?_
 simp only[*,go_sem,seval]
 rintro _ _ d ⟨sl,ob,n⟩ _ e l A h B
 simp only[go_sem,seval,Zc] at l
 obtain ⟨⟨_,_,_,_⟩,_,_,_,_,C,hn⟩:=l
 subst hn
 have D:=WF.rowL A C
 have:=ZB e
 have:=ZC e
 have:=Zj (ZA e) D
 simp only[*,go_sem,seval]
 refine Za h fun _ E h=>Zb (ZlP E) ?_
 simp only[*,go_sem,seval]
 refine Ze h (fun _ h=>?_) fun _ h=>?_<;>try simp only[*,go_sem,seval]
 obtain ⟨F,h⟩:=Zs h
 try simp only[Nat.reduceLeDiff] at F
 simp only[*,go_sem,seval]
 refine ⟨_,[],[0,1,341,3,4],(A3 h).symm,by decide,?_⟩
 simp only[*,go_sem,seval]
 replace h:=Zo h B
 cases h
 simp only[*,go_sem,seval]
 rintro d ⟨sl,ob,n⟩ m _ h
 simp only[go_sem,seval,Zc] at m
 obtain ⟨⟨_,_,_,_⟩,_,_,_,_,_,hn⟩:=m
 subst hn
 have:=Zz (k.length)
 simp only[*,go_sem,seval]
 refine Za h fun _ G h=>Zb (Zf1 G) ?_
 cases h
 simp only[*,go_sem,seval]
theorem ZLv {l_0:(List Zr)} {r:Bool} (h:ZKK l_0=some r):Zl prog J0 33 [(false,[.sl 60 5 (A0 ZK l_0)])] [(false,[(false,.bool r)])]:=by
 refine fnk func33 rfl ?_
 unfold ZKK at h
 simp only[fnS,f33,Zm,go_sem,seval]
 refine Za h fun _ a h=>Zb (ZMN a) ?_
 simp only[*,go_sem,seval]
 refine Za h fun _ b h=>Zb (Zf1 b) ?_
 cases h
 simp only[*,go_sem,seval]
theorem ZkG {r_0:Zf} {r:Bool} (h:ZbL r_0=some r):Zl prog J0 184 [(true,ZG r_0)] [(false,[(false,.bool r)])]:=by
 refine fnk func184 rfl ?_
 unfold ZbL at h
 simp only[fnS,f184,Zm,go_sem,seval]
 refine Za h fun _ k h=>Zb (Zf1 k) ?_
 simp only[*,go_sem,seval]
 refine Ze h (fun _ h=>?_) fun _ h=>?_<;>try simp only[*,go_sem,seval]
 refine Zh h (fun i _ st=>IV [(1,.bp 0 0),(3,.p false [.c (.int .i64 ((i:Nat):Int))])] [.box 104 [.c (.str r_0.name),.c (.int .i64 r_0.priority),.c (.sl 60 5 (A0 ZK r_0.cond)),.c (.sl 166 3 (A0 ZD r_0.thn))]] st) [] [0] (by decide) ?_ ?_ ?_
 simp only[*,go_sem,seval]
 rintro _ _ ⟨⟩ ⟨sl,ob,n⟩ _ a d l h m
 simp only[go_sem,seval,Zc] at d
 obtain ⟨⟨_,_⟩,o,hn⟩:=d
 subst hn
 have q:=WF.boxL l o (j:=2) rfl
 have:=ZB a
 have:=ZC a
 have:=Zj (ZA a) q
 simp only[*,go_sem,seval]
 refine Ze h (fun _ h=>?_) fun _ h=>?_<;>try simp only[*,go_sem,seval]
 refine Za h fun _ t h=>Zb (Q7 t) ?_
 simp only[*,go_sem,seval]
 refine Za h fun _ u h=>Zb (ZaS u) ?_
 simp only[*,go_sem,seval]
 refine Za h fun _ v h=>Zb (ZlG v) ?_
 simp only[*,go_sem,seval]
 refine Ze h (fun _ h=>?_) fun _ h=>?_<;>try simp only[*,go_sem,seval]
 refine ⟨_,[],[0],(A3 h).symm,by decide,?_⟩
 simp only[*,go_sem,seval]
 replace h:=Zo h m
 cases h
 simp only[*,go_sem,seval]
 refine ⟨_,[],[0],(A3 h).symm,by decide,?_⟩
 simp only[*,go_sem,seval]
 rintro ⟨⟩ ⟨sl,ob,n⟩ e _ h
 simp only[go_sem,seval,Zc] at e
 obtain ⟨⟨_,_⟩,_,hn⟩:=e
 subst hn
 have:=Zz (r_0.cond.length)
 simp only[*,go_sem,seval]
 refine Zh h (fun i _ st=>IV [(1,.bp 0 0),(4,.p false [.c (.int .i64 ((i:Nat):Int))])] [.box 104 [.c (.str r_0.name),.c (.int .i64 r_0.priority),.c (.sl 60 5 (A0 ZK r_0.cond)),.c (.sl 166 3 (A0 ZD r_0.thn))]] st) [] [0] (by decide) ?_ ?_ ?_
 simp only[*,go_sem,seval]
 rintro _ _ ⟨⟩ ⟨sl,ob,n⟩ _ b f w h x
 simp only[go_sem,seval,Zc] at f
 obtain ⟨⟨_,_⟩,y,hn⟩:=f
 subst hn
 have z:=WF.boxL w y (j:=3) rfl
 have:=ZB b
 have:=ZC b
 have:=Zj (ZA b) z
 simp only[*,go_sem,seval]
 refine Ze h (fun _ h=>?_) fun _ h=>?_<;>try simp only[*,go_sem,seval]
 replace h:=Zo h x
 cases h
 simp only[*,go_sem,seval]
 refine ⟨_,[],[0],(A3 h).symm,by decide,?_⟩
 simp only[*,go_sem,seval]
 rintro ⟨⟩ ⟨sl,ob,n⟩ g _ h
 simp only[go_sem,seval,Zc] at g
 obtain ⟨⟨_,_⟩,_,hn⟩:=g
 subst hn
 have:=Zz (r_0.thn.length)
 iterate 2 (cases h;simp only[*,go_sem,seval])
theorem Zls {l_0:(List Zf)} {r:Bool} (h:Zcz l_0=some r):Zl prog J0 187 [(false,[.sl 104 4 (A0 ZG l_0)])] [(false,[(false,.bool r)])]:=by
 refine fnk func187 rfl ?_
 unfold Zcz at h
 simp only[fnS,f187,Zm,go_sem,seval]
 refine Zh h (fun i _ st=>IV [(0,.p false [.c (.sl 104 4 (A0 ZG l_0))]),(3,.p false [.c (.int .i64 ((i:Nat):Int))])] [] st) [] [] (by decide) ?_ ?_ ?_
 simp only[*,go_sem,seval]
 rintro _ _ ⟨⟩ ⟨sl,ob,n⟩ _ a b f h d
 simp only[go_sem,seval,Zc] at b
 obtain ⟨⟨g,_⟩,hn⟩:=b
 subst hn
 have k:=WF.slotL f g (j:=0) rfl
 have:=ZB a
 have:=ZC a
 have:=Zj (ZA a) k
 simp only[*,go_sem,seval]
 refine Za h fun _ l h=>Zb (Zf1 l) ?_
 simp only[*,go_sem,seval]
 refine Ze h (fun _ h=>?_) fun _ h=>?_<;>try simp only[*,go_sem,seval]
 refine Za h fun _ m h=>Zb (ZlV m) ?_
 simp only[*,go_sem,seval]
 refine Ze h (fun _ h=>?_) fun _ h=>?_<;>try simp only[*,go_sem,seval]
 replace h:=Zo h d
 cases h
 simp only[*,go_sem,seval]
 refine ⟨_,[],[],(A3 h).symm,by decide,?_⟩
 simp only[*,go_sem,seval]
 replace h:=Zo h d
 cases h
 simp only[*,go_sem,seval]
 rintro ⟨⟩ ⟨sl,ob,n⟩ e _ h
 simp only[go_sem,seval,Zc] at e
 obtain ⟨⟨_,_⟩,hn⟩:=e
 subst hn
 have:=Zz (l_0.length)
 cases h
 simp only[*,go_sem,seval]
theorem ZjH {x_0:Zr} {b_1:(List Zp)} {facts_2:(List Zd)} {r:Bool} (h:ZbV x_0 b_1 facts_2=some r):Zl prog J0 34 [(true,ZK x_0),(false,[.sl 135 2 (A0 ZZ b_1)]),(false,[.sl 71 2 (A0 Zq facts_2)])] [(false,[(false,.bool r)])]:=by
 refine fnk func34 rfl ?_
 unfold ZbV at h
 simp only[fnS,f34,Zm,go_sem,seval]
 refine Za h fun _ a h=>Zb (Zdw a) ?_
 simp only[*,go_sem,seval]
 refine Ze h (fun _ h=>?_) fun _ h=>?_<;>try simp only[*,go_sem,seval]
 refine Za h fun _ b h=>Zb (Qy b) ?_
 simp only[*,go_sem,seval]
 iterate 2 refine Ze h (fun _ h=>?_) fun _ h=>?_<;>try simp only[*,go_sem,seval]
 refine Za h fun _ c h=>Zb (Zdh c) ?_
 cases h
 simp only[*,go_sem,seval]
 refine Ze h (fun _ h=>?_) fun _ h=>?_<;>try simp only[*,go_sem,seval]
 refine Za h fun _ d h=>Zb (Zdh d) ?_
 cases h
 simp only[*,go_sem,seval]
 refine Za h fun _ e h=>Zb (ZjR e) ?_
 iterate 3 (cases h;simp only[*,go_sem,seval])
end
section
set_option linter.unusedSimpArgs false
set_option linter.unusedVariables false
set_option maxRecDepth 1000000
set_option maxHeartbeats 4000000
theorem Zg5 {a:(List Zf)} {String_1:(List Zd)} {r:((List Zd) × Bool)} (h:Yf a String_1=some r):Zl prog J0 172 [(false,[.sl 104 4 (A0 ZG a)]),(false,[.sl 71 2 (A0 Zq String_1)])] [(false,[(false,.sl 71 2 (A0 Zq r.1))]),(false,[(false,.bool r.2)])]:=by
 refine fnn 4 func172 rfl ?_
 unfold Yf at h
 simp only[fnN,f172,Zm,go_sem,seval]
 refine Za h fun _ H h=>Zb (Zjl H) ?_
 simp only[*,go_sem,seval]
 refine Ze h (fun _ h=>?_) fun _ h=>?_<;>try simp only[*,go_sem,seval]
 refine Za h fun _ I h=>Zb (ZlA I) ?_
 simp only[*,go_sem,seval]
 refine Ze h (fun _ h=>?_) fun _ h=>?_<;>try simp only[*,go_sem,seval]
 refine Za h fun _ J h=>Zb (ZfY J) ?_
 simp only[*,go_sem,seval]
 refine XH h (fun s st=>match s with | (v,w)=>IV [(0,.p false [.c (.sl 104 4 (A0 ZG a))]),(6,.p false [.n (.sl 71 2 (A0 Zq v))]),(7,.p false [.c (.bool w)])] [] st) [(false,6,4096)] [] (by decide) ?_ ?_
 simp only[*,go_sem,seval]
 rintro ⟨v,w⟩ ⟨sl,ob,n⟩ _ x _ h y
 simp only[go_sem,seval,Zc] at x
 obtain ⟨⟨_,_,_⟩,hn⟩:=x
 subst hn
 simp only[*,go_sem,seval]
 refine Ze h (fun _ h=>?_) fun _ h=>?_<;>try simp only[*,go_sem,seval]
 refine Zh h (fun i s st=>match s with | (f,g)=>IV [(0,.p false [.c (.sl 104 4 (A0 ZG a))]),(6,.p false [.n (.sl 71 2 (A0 Zq f))]),(7,.p false [.c (.bool g)]),(27,.p false [.c (.sl 104 4 (A0 ZG a))]),(28,.p false [.c (.int .i64 ((a.length:Nat):Int))]),(29,.p false [.c (.int .i64 ((i:Nat):Int))])] [] st) [] [] (by decide) ?_ ?_ ?_
 simp only[*,go_sem,seval]
 rintro z d ⟨f,g⟩ ⟨sl,ob,n⟩ _ k A K h L
 simp only[go_sem,seval,Zc] at A
 obtain ⟨⟨M,_,_,_,_,_⟩,hn⟩:=A
 subst hn
 have N:=WF.slotL K M (j:=0) rfl
 have:=ZB k
 have:=ZC k
 have:=Zj (ZA k) N
 simp only[*,go_sem,seval]
 obtain ⟨_,O,h⟩:=ZJ h
 refine ZkJ (Zeh O) ?_
 simp only[*,go_sem,seval]
 obtain ⟨e,P,h⟩:=ZJ h
 refine ZkJ (ZgT P) ?_
 simp only[*,go_sem,seval]
 refine Zh h (fun i s st=>match s with | (l,m)=>IV [(0,.p false [.c (.sl 104 4 (A0 ZG a))]),(6,.p false [.n (.sl 71 2 (A0 Zq l))]),(7,.p false [.c (.bool m)]),(9,.bp 0 0),(27,.p false [.c (.sl 104 4 (A0 ZG a))]),(28,.p false [.c (.int .i64 ((a.length:Nat):Int))]),(29,.p false [.c (.int .i64 ((z:Nat):Int))]),(36,.p false [.c (.sl 118 2 (A0 YE e))]),(37,.p false [.c (.int .i64 ((e.length:Nat):Int))]),(38,.p false [.c (.int .i64 ((i:Nat):Int))])] [.box 104 [.c (.str d.name),.c (.int .i64 d.priority),.c (.sl 60 5 (A0 ZK d.cond)),.c (.sl 166 3 (A0 ZD d.thn))]] st) [] [48] (by decide) ?_ ?_ ?_
 simp only[*,go_sem,seval]
 rintro Q B ⟨l,m⟩ ⟨sl,ob,n⟩ _ o C R h S
 simp only[go_sem,seval,Zc] at C
 obtain ⟨⟨_,_,_,_,_,_,_,T,_,_⟩,_,hn⟩:=C
 subst hn
 have U:=WF.slotL R T (j:=0) rfl
 have:=ZB o
 have:=ZC o
 have:=Zj (ZA o) U
 simp only[*,go_sem,seval]
 refine Zh h (fun i s st=>match s with | (q,t)=>IV [(0,.p false [.c (.sl 104 4 (A0 ZG a))]),(6,.p false [.n (.sl 71 2 (A0 Zq q))]),(7,.p false [.c (.bool t)]),(9,.bp 0 0),(11,.bp 1 0),(27,.p false [.c (.sl 104 4 (A0 ZG a))]),(28,.p false [.c (.int .i64 ((a.length:Nat):Int))]),(29,.p false [.c (.int .i64 ((z:Nat):Int))]),(36,.p false [.c (.sl 118 2 (A0 YE e))]),(37,.p false [.c (.int .i64 ((e.length:Nat):Int))]),(38,.p false [.c (.int .i64 ((Q:Nat):Int))]),(43,.p false [.c (.sl 166 3 (A0 ZD d.thn))]),(44,.p false [.c (.int .i64 ((d.thn.length:Nat):Int))]),(45,.p false [.c (.int .i64 ((i:Nat):Int))])] [.box 104 [.c (.str d.name),.c (.int .i64 d.priority),.c (.sl 60 5 (A0 ZK d.cond)),.c (.sl 166 3 (A0 ZD d.thn))],.box 118 [.c (.sl 71 2 (A0 Zq B.facts)),.c (.sl 135 2 (A0 ZZ B.binding))]] st) [] [0,49] (by decide) ?_ ?_ ?_
 simp only[*,go_sem,seval]
 rintro _ _ ⟨q,t⟩ ⟨sl,ob,n⟩ _ u D V h W
 simp only[go_sem,seval,Zc] at D
 obtain ⟨⟨_,_,_,_,_,_,_,_,_,_,_,X,_,_⟩,_,_,hn⟩:=D
 subst hn
 have Y:=WF.slotL V X (j:=0) rfl
 have:=ZB u
 have:=ZC u
 have:=Zj (ZA u) Y
 simp only[*,go_sem,seval]
 refine Za h fun _ Z h=>Zb (ZdP Z) ?_
 simp only[*,go_sem,seval]
 refine Za h fun _ aa h=>Zb (ZbG aa) ?_
 simp only[*,go_sem,seval]
 refine Ze h (fun _ h=>?_) fun _ h=>?_<;>try simp only[*,go_sem,seval]
 refine ⟨_,[],[0,1],(A3 h).symm,by decide,?_⟩
 simp only[*,go_sem,seval]
 refine Ze h (fun _ h=>?_) fun _ h=>?_<;>try simp only[*,go_sem,seval]
 replace h:=Zo h W
 replace h:=Zo h S
 replace h:=Zo h L
 replace h:=Zo h y
 cases h
 simp only[*,go_sem,seval]
 refine Za h fun _ ab h=>Zb (ZnM ab) ?_
 simp only[*,go_sem,seval]
 refine ⟨_,[(false,6,4096)],[0,1],(A3 h).symm,by decide,?_⟩
 simp only[*,go_sem,seval]
 rintro ⟨q,t⟩ ⟨sl,ob,n⟩ E _ h
 simp only[go_sem,seval,Zc] at E
 obtain ⟨⟨_,_,_,_,_,_,_,_,_,_,_,_,_,_⟩,_,_,hn⟩:=E
 subst hn
 have:=Zz (d.thn.length)
 simp only[*,go_sem,seval]
 refine ⟨_,[],[0],(A3 h).symm,by decide,?_⟩
 simp only[*,go_sem,seval]
 rintro ⟨l,m⟩ ⟨sl,ob,n⟩ F _ h
 simp only[go_sem,seval,Zc] at F
 obtain ⟨⟨_,_,_,_,_,_,_,_,_,_⟩,_,hn⟩:=F
 subst hn
 have:=Zz (e.length)
 simp only[*,go_sem,seval]
 refine ⟨_,[],[],(A3 h).symm,by decide,?_⟩
 simp only[*,go_sem,seval]
 rintro ⟨f,g⟩ ⟨sl,ob,n⟩ G _ h
 simp only[go_sem,seval,Zc] at G
 obtain ⟨⟨_,_,_,_,_,_⟩,hn⟩:=G
 subst hn
 have:=Zz (a.length)
 simp only[*,go_sem,seval]
 refine ⟨_,[],[],(A3 h).symm,by decide,?_⟩
 simp only[*,go_sem,seval]
 replace h:=Zo h y
 iterate 3 (cases h;simp only[*,go_sem,seval])
theorem Zfy {s_0:ByteArray} {r:(Zf × Bool)} (h:QB s_0=some r):Zl prog J0 243 [(false,[.str s_0])] [(true,[(false,.str r.1.name),(false,.int .i64 r.1.priority),(false,.sl 60 5 (A0 ZK r.1.cond)),(false,.sl 166 3 (A0 ZD r.1.thn))]),(false,[(false,.bool r.2)])]:=by
 refine fnk func243 rfl ?_
 unfold QB at h
 have a:Z2 ⟨#[32,45,62,32]⟩=true:=by decide
 have b:Z2 ⟨#[32]⟩=true:=by decide
 have c:Z2 ⟨#[58,32]⟩=true:=by decide
 simp only[fnS,f243,Zm,go_sem,seval,a,b,c]
 refine Za h fun _ d h=>Zb (XU d) ?_
 simp only[*,go_sem,seval]
 refine Ze h (fun _ h=>?_) fun _ h=>?_<;>try simp only[*,go_sem,seval]
 cases h
 simp only[*,go_sem,seval]
 obtain ⟨_,h⟩:=Zs h
 obtain ⟨_,e,h⟩:=ZJ h
 try simp only[seval] at e
 simp only[*,go_sem,seval]
 refine Za h fun _ f h=>Zb (XU f) ?_
 obtain ⟨_,h⟩:=Zs h
 obtain ⟨_,g,h⟩:=ZJ h
 try simp only[seval] at g
 simp only[*,go_sem,seval]
 refine Za h fun _ i h=>Zb (XU i) ?_
 iterate 2 (simp only[*,go_sem,seval];(refine Ze h (fun _ h=>?_) fun _ h=>?_<;>try simp only[*,go_sem,seval]);cases h)
 simp only[*,go_sem,seval]
 obtain ⟨_,h⟩:=Zs h
 obtain ⟨_,j,h⟩:=ZJ h
 try simp only[seval] at j
 simp only[*,go_sem,seval]
 refine Za h fun _ k h=>Zb (Zbv k) ?_
 simp only[*,go_sem,seval]
 refine Ze h (fun _ h=>?_) fun _ h=>?_<;>try simp only[*,go_sem,seval]
 obtain ⟨_,h⟩:=Zs h
 obtain ⟨_,l,h⟩:=ZJ h
 try simp only[seval] at l
 obtain ⟨_,h⟩:=Zs h
 obtain ⟨_,m,h⟩:=ZJ h
 try simp only[seval] at m
 obtain ⟨_,h⟩:=Zs h
 obtain ⟨_,o,h⟩:=ZJ h
 try simp only[seval] at o
 simp only[*,go_sem,seval]
 refine Za h fun _ p h=>Zb (Zn0 p) ?_
 simp only[*,go_sem,seval]
 refine Ze h (fun _ h=>?_) fun _ h=>?_<;>try simp only[*,go_sem,seval]
 iterate 3 (cases h;simp only[*,go_sem,seval])
theorem ZLM {s_0:ByteArray} {r:((List Zr) × Bool)} (h:ZKI s_0=some r):Zl prog J0 222 [(false,[.str s_0])] [(false,[(false,.sl 60 5 (A0 ZK r.1))]),(false,[(false,.bool r.2)])]:=by
 refine fnk func222 rfl ?_
 unfold ZKI at h
 have g:Z2 ⟨#[32,38,32]⟩=true:=by decide
 simp only[fnS,f222,Zm,go_sem,seval,g]
 refine Za h fun d j h=>Zb (XU j) ?_
 simp only[*,go_sem,seval]
 refine Zh h (fun i a st=>IV [(4,.p false [.row 0]),(5,.p false [.row 1]),(6,.p false [.c (.int .i64 ((i:Nat):Int))])] [.row 60 5 (A0 ZK a) 2,.row 9 1 (A0 Zw d) 2] st) [] [32,80] (by decide) ?_ ?_ ?_
 simp only[*,go_sem,seval]
 rintro _ _ a ⟨sl,ob,n⟩ _ b e k h l
 simp only[go_sem,seval,Zc] at e
 obtain ⟨⟨_,_,_⟩,_,m,hn⟩:=e
 subst hn
 have o:=WF.rowL k m
 have:=ZB b
 have:=ZC b
 have:=Zj (ZA b) o
 simp only[*,go_sem,seval]
 refine Za h fun _ q h=>Zb (Zlg q) ?_
 simp only[*,go_sem,seval]
 refine Ze h (fun _ h=>?_) fun _ h=>?_<;>try simp only[*,go_sem,seval]
 obtain ⟨t,h⟩:=Zs h
 try simp only[Nat.reduceLeDiff] at t
 simp only[*,go_sem,seval]
 refine ⟨_,[],[322,1],(A3 h).symm,by decide,?_⟩
 simp only[*,go_sem,seval]
 replace h:=Zo h l
 cases h
 simp only[*,go_sem,seval]
 rintro a ⟨sl,ob,n⟩ f _ h
 simp only[go_sem,seval,Zc] at f
 obtain ⟨⟨_,_,_⟩,_,_,hn⟩:=f
 subst hn
 have:=Zz (d.length)
 simp only[*,go_sem,seval]
 refine Za h fun _ u h=>Zb (ZLv u) ?_
 simp only[*,go_sem,seval]
 refine Ze h (fun _ h=>?_) fun _ h=>?_<;>try simp only[*,go_sem,seval]
 iterate 2 (cases h;simp only[*,go_sem,seval])
theorem Zju {append_0:(List Zf)} {r:Bool} (h:ZaM append_0=some r):Zl prog J0 111 [(false,[.sl 104 4 (A0 ZG append_0)])] [(false,[(false,.bool r)])]:=by
 refine fnk func111 rfl ?_
 unfold ZaM at h
 simp only[fnS,f111,Zm,go_sem,seval]
 refine Zh h (fun i _ st=>IV [(0,.p false [.c (.sl 104 4 (A0 ZG append_0))]),(3,.p false [.c (.int .i64 ((i:Nat):Int))])] [] st) [] [] (by decide) ?_ ?_ ?_
 simp only[*,go_sem,seval]
 rintro l x ⟨⟩ ⟨sl,ob,n⟩ _ b m y h d
 simp only[go_sem,seval,Zc] at m
 obtain ⟨⟨z,_⟩,hn⟩:=m
 subst hn
 have A:=WF.slotL y z (j:=0) rfl
 have:=ZB b
 have:=ZC b
 have:=Zj (ZA b) A
 simp only[*,go_sem,seval]
 refine Za h fun _ B h=>Zb (ZkG B) ?_
 simp only[*,go_sem,seval]
 refine Ze h (fun _ h=>?_) fun _ h=>?_<;>try simp only[*,go_sem,seval]
 refine Za h fun e C h=>Zb (ZgL C) ?_
 simp only[*,go_sem,seval]
 refine Zh h (fun i _ st=>IV [(0,.p false [.c (.sl 104 4 (A0 ZG append_0))]),(3,.p false [.c (.int .i64 ((l:Nat):Int))]),(4,.p false [.row 0]),(5,.p false [.c (.int .i64 ((i:Nat):Int))])] [.row 9 1 (A0 Zw e) 2] st) [] [224] (by decide) ?_ ?_ ?_
 simp only[*,go_sem,seval]
 rintro D a ⟨⟩ ⟨sl,ob,n⟩ _ f o E h q
 simp only[go_sem,seval,Zc] at o
 obtain ⟨⟨F,_,_,_⟩,_,hn⟩:=o
 subst hn
 have G:=WF.elL (WF.slotD E F (j:=0) rfl) b (j:=2) rfl
 have:=ZB f
 have:=ZC f
 have:=Zj (ZA f) G
 simp only[*,go_sem,seval]
 refine Zh h (fun i _ st=>IV [(0,.p false [.c (.sl 104 4 (A0 ZG append_0))]),(3,.p false [.c (.int .i64 ((l:Nat):Int))]),(4,.p false [.row 0]),(5,.p false [.c (.int .i64 ((D:Nat):Int))]),(6,.bp 1 0),(7,.p false [.c (.int .i64 ((i:Nat):Int))])] [.row 9 1 (A0 Zw e) 2,.box 60 [.c (.int .i64 a.kind),.c (.str a.pattern.rel),.c (.sl 9 1 (A0 Zw a.pattern.args)),.c (.str a.left),.c (.str a.right)]] st) [] [0,257] (by decide) ?_ ?_ ?_
 simp only[*,go_sem,seval]
 rintro _ _ ⟨⟩ ⟨sl,ob,n⟩ _ g t H h k
 simp only[go_sem,seval,Zc] at t
 obtain ⟨⟨_,_,_,_,_,_⟩,I,_,hn⟩:=t
 subst hn
 have J:=WF.rowL H I
 have:=ZB g
 have:=ZC g
 have:=Zj (ZA g) J
 simp only[*,go_sem,seval]
 iterate 2 refine Ze h (fun _ h=>?_) fun _ h=>?_<;>try simp only[*,go_sem,seval]
 replace h:=Zo h k
 replace h:=Zo h q
 replace h:=Zo h d
 cases h
 simp only[*,go_sem,seval]
 refine Za h fun _ K h=>Zb (Zjm K) ?_
 simp only[*,go_sem,seval]
 refine Ze h (fun _ h=>?_) fun _ h=>?_<;>try simp only[*,go_sem,seval]
 replace h:=Zo h k
 replace h:=Zo h q
 replace h:=Zo h d
 cases h
 simp only[*,go_sem,seval]
 refine ⟨_,[],[0,1],(A3 h).symm,by decide,?_⟩
 simp only[*,go_sem,seval]
 replace h:=Zo h k
 refine ⟨_,[],[0],(A3 h).symm,by decide,?_⟩
 simp only[*,go_sem,seval]
 rintro ⟨⟩ ⟨sl,ob,n⟩ u _ h
 simp only[go_sem,seval,Zc] at u
 obtain ⟨⟨_,_,_,_,_,_⟩,_,_,hn⟩:=u
 subst hn
 have:=Zz (e.length)
 simp only[*,go_sem,seval]
 refine ⟨_,[],[0],(A3 h).symm,by decide,?_⟩
 simp only[*,go_sem,seval]
 rintro ⟨⟩ ⟨sl,ob,n⟩ v _ h
 simp only[go_sem,seval,Zc] at v
 obtain ⟨⟨_,_,_,_⟩,_,hn⟩:=v
 subst hn
 have:=Zz (x.cond.length)
 simp only[*,go_sem,seval]
 refine ⟨_,[],[],(A3 h).symm,by decide,?_⟩
 simp only[*,go_sem,seval]
 replace h:=Zo h d
 cases h
 simp only[*,go_sem,seval]
 rintro ⟨⟩ ⟨sl,ob,n⟩ w _ h
 simp only[go_sem,seval,Zc] at w
 obtain ⟨⟨_,_⟩,hn⟩:=w
 subst hn
 have:=Zz (append_0.length)
 simp only[*,go_sem,seval]
 refine Za h fun _ L h=>Zb (Zls L) ?_
 cases h
 simp only[*,go_sem,seval]
theorem Zpg {append_0:(List Zt)} {a:Zr} {a_2:(List Zd)} {r:(List Zt)} (h:Zfi append_0 a a_2=some r):Zl prog J0 189 [(false,[.sl 118 2 (A0 YE append_0)]),(true,ZK a),(false,[.sl 71 2 (A0 Zq a_2)])] [(false,[(false,.sl 118 2 (A0 YE r))])]:=by
 refine fnk func189 rfl ?_
 unfold Zfi at h
 simp only[fnS,f189,Zm,go_sem,seval]
 refine Zh h (fun i b st=>IV [(0,.p false [.c (.sl 118 2 (A0 YE append_0))]),(2,.p false [.c (.sl 71 2 (A0 Zq a_2))]),(4,.bp 0 0),(7,.p false [.row 1]),(8,.p false [.c (.int .i64 ((i:Nat):Int))])] [.box 60 [.c (.int .i64 a.kind),.c (.str a.pattern.rel),.c (.sl 9 1 (A0 Zw a.pattern.args)),.c (.str a.left),.c (.str a.right)],.row 118 2 (A0 YE b) 2] st) [] [0,32] (by decide) ?_ ?_ ?_
 simp only[*,go_sem,seval]
 rintro o _ b ⟨sl,ob,n⟩ _ d g q h _
 simp only[go_sem,seval,Zc] at g
 obtain ⟨⟨t,_,_,_,_⟩,_,_,hn⟩:=g
 subst hn
 have u:=WF.slotL q t (j:=0) rfl
 have:=ZB d
 have:=ZC d
 have:=Zj (ZA d) u
 simp only[*,go_sem,seval]
 refine Ze h (fun _ h=>?_) fun _ h=>?_<;>try simp only[*,go_sem,seval]
 refine Za h fun _ v h=>Zb (ZjH v) ?_
 simp only[*,go_sem,seval]
 refine Ze h (fun _ h=>?_) fun _ h=>?_<;>try simp only[*,go_sem,seval]
 refine Za h fun _ w h=>Zb (Zoi w) ?_
 obtain ⟨x,h⟩:=Zs h
 try simp only[Nat.reduceLeDiff] at x
 simp only[*,go_sem,seval]
 refine ⟨_,[],[0,354],(A3 h).symm,by decide,?_⟩
 simp only[*,go_sem,seval]
 refine ⟨_,[],[0,1],(A3 h).symm,by decide,?_⟩
 simp only[*,go_sem,seval]
 refine Zh h (fun i e st=>IV [(0,.p false [.c (.sl 118 2 (A0 YE append_0))]),(2,.p false [.c (.sl 71 2 (A0 Zq a_2))]),(4,.bp 0 0),(7,.p false [.row 1]),(8,.p false [.c (.int .i64 ((o:Nat):Int))]),(9,.p false [.c (.int .i64 ((i:Nat):Int))])] [.box 60 [.c (.int .i64 a.kind),.c (.str a.pattern.rel),.c (.sl 9 1 (A0 Zw a.pattern.args)),.c (.str a.left),.c (.str a.right)],.row 118 2 (A0 YE e) 2] st) [] [0,1] (by decide) ?_ ?_ ?_
 simp only[*,go_sem,seval]
 rintro _ _ e ⟨sl,ob,n⟩ _ f k y h _
 simp only[go_sem,seval,Zc] at k
 obtain ⟨⟨_,z,_,_,_,_⟩,_,_,hn⟩:=k
 subst hn
 have A:=WF.slotL y z (j:=0) rfl
 have:=ZB f
 have:=ZC f
 have:=Zj (ZA f) A
 simp only[*,go_sem,seval]
 refine Za h fun _ B h=>Zb (ZfU B) ?_
 simp only[*,go_sem,seval]
 refine Ze h (fun _ h=>?_) fun _ h=>?_<;>try simp only[*,go_sem,seval]
 refine Za h fun _ C h=>Zb (ZdO C) ?_
 simp only[*,go_sem,seval]
 refine Za h fun _ D h=>Zb (Xr D) ?_
 obtain ⟨E,h⟩:=Zs h
 try simp only[Nat.reduceLeDiff] at E
 obtain ⟨F,h⟩:=Zs h
 try simp only[Nat.reduceLeDiff] at F
 simp only[*,go_sem,seval]
 refine ⟨_,[],[0,626],(A3 h).symm,by decide,?_⟩
 simp only[*,go_sem,seval]
 refine ⟨_,[],[0,1],(A3 h).symm,by decide,?_⟩
 simp only[*,go_sem,seval]
 rintro e ⟨sl,ob,n⟩ l _ h
 simp only[go_sem,seval,Zc] at l
 obtain ⟨⟨_,_,_,_,_,_⟩,_,_,hn⟩:=l
 subst hn
 have:=Zz (a_2.length)
 simp only[*,go_sem,seval]
 refine ⟨_,[],[0,1],(A3 h).symm,by decide,?_⟩
 simp only[*,go_sem,seval]
 rintro b ⟨sl,ob,n⟩ m _ h
 simp only[go_sem,seval,Zc] at m
 obtain ⟨⟨_,_,_,_,_⟩,_,_,hn⟩:=m
 subst hn
 have:=Zz (append_0.length)
 cases h
 simp only[*,go_sem,seval]
end
section
set_option linter.unusedSimpArgs false
set_option linter.unusedVariables false
set_option maxRecDepth 1000000
set_option maxHeartbeats 4000000
theorem Zox {d:(List Zf)} {g:(List Zd)} {r:((List Zd) × Zu × (List Zac) × Bool)} (h:ZaJ d g=some r):Zl prog J0 101 [(false,[.sl 104 4 (A0 ZG d)]),(false,[.sl 71 2 (A0 Zq g)])] [(false,[(false,.sl 71 2 (A0 Zq r.1))]),(true,[(false,.int .i64 r.2.1.nodes),(false,.sl 144 3 (A0 ZL r.2.1.reasons))]),(false,[(false,.any)]),(false,[(false,.bool r.2.2.2)])]:=by
 refine fnn 4 func101 rfl ?_
 unfold ZaJ at h
 simp only[fnN,f101,Zm,go_sem,seval]
 refine Za h fun e P h=>Zb (Zg5 P) ?_
 simp only[*,go_sem,seval]
 refine Ze h (fun _ h=>?_) fun _ h=>?_<;>try simp only[*,go_sem,seval]
 refine Zh h (fun i s st=>match s with | (q,t)=>IV [(0,.p false [.c (.sl 104 4 (A0 ZG d))]),(5,.bp 0 0),(8,.p false [.n (.sl 71 2 (A0 Zq e.1))]),(10,.bp 1 0),(11,.p false [.row 3]),(40,.p false [.c (.sl 71 2 (A0 Zq g))]),(41,.p false [.c (.int .i64 ((g.length:Nat):Int))]),(42,.p false [.c (.int .i64 ((i:Nat):Int))])] [.box 91 [.c (.int .i64 0),.nil 144 3],.box 91 [.c (.int .i64 ((e.1.length:Nat):Int)),.row 2],.row 144 3 (A0 ZL q) 2,.row 153 2 (A0 Zgg t) 2] st) [(false,8,4096),(false,11,0),(true,272,1)] [16,272,369,368] (by decide) ?_ ?_ ?_
 simp only[*,go_sem,seval]
 rintro _ _ ⟨q,t⟩ ⟨sl,ob,n⟩ _ u E Q h _
 simp only[go_sem,seval,Zc] at E
 obtain ⟨⟨_,_,_,_,_,R,_,_⟩,_,_,_,_,hn⟩:=E
 subst hn
 have S:=WF.slotL Q R (j:=0) rfl
 have:=ZB u
 have:=ZC u
 have:=Zj (ZA u) S
 simp only[*,go_sem,seval]
 refine Za h fun _ T h=>Zb (ZbG T) ?_
 obtain ⟨U,h⟩:=Zs h
 try simp only[Nat.reduceLeDiff] at U
 obtain ⟨V,h⟩:=Zs h
 try simp only[Nat.reduceLeDiff] at V
 simp only[*,go_sem,seval]
 refine ⟨_,[],[0,1,196,292],(A3 h).symm,by decide,?_⟩
 simp only[*,go_sem,seval]
 rintro ⟨q,t⟩ ⟨sl,ob,n⟩ F _ h
 simp only[go_sem,seval,Zc] at F
 obtain ⟨⟨_,_,_,_,_,_,_,_⟩,_,_,_,_,hn⟩:=F
 subst hn
 have:=Zz (g.length)
 simp only[*,go_sem,seval]
 refine Zh h (fun i s st=>match s with | (v,w)=>IV [(5,.bp 0 0),(8,.p false [.n (.sl 71 2 (A0 Zq e.1))]),(10,.bp 1 0),(11,.p false [.row 3]),(60,.p false [.c (.sl 104 4 (A0 ZG d))]),(61,.p false [.c (.int .i64 ((d.length:Nat):Int))]),(62,.p false [.c (.int .i64 ((i:Nat):Int))])] [.box 91 [.c (.int .i64 0),.nil 144 3],.box 91 [.c (.int .i64 ((e.1.length:Nat):Int)),.row 2],.row 144 3 (A0 ZL v) 2,.row 153 2 (A0 Zgg w) 1] st) [(true,3,1)] [0,1,2,3] (by decide) ?_ ?_ ?_
 simp only[*,go_sem,seval]
 rintro x b ⟨v,w⟩ ⟨sl,ob,n⟩ _ y G W h _
 simp only[go_sem,seval,Zc] at G
 obtain ⟨⟨_,_,_,_,X,_,_⟩,_,_,_,_,hn⟩:=G
 subst hn
 have Y:=WF.slotL W X (j:=0) rfl
 have:=ZB y
 have:=ZC y
 have:=Zj (ZA y) Y
 simp only[*,go_sem,seval]
 obtain ⟨_,Z,h⟩:=ZJ h
 refine ZkJ (Zeh Z) ?_
 simp only[*,go_sem,seval]
 obtain ⟨f,aa,h⟩:=ZJ h
 refine ZkJ (ZgT aa) ?_
 simp only[*,go_sem,seval]
 refine Zh h (fun i s st=>match s with | (k,l)=>IV [(5,.bp 0 0),(8,.p false [.n (.sl 71 2 (A0 Zq e.1))]),(10,.bp 1 0),(11,.p false [.row 3]),(15,.bp 4 0),(60,.p false [.c (.sl 104 4 (A0 ZG d))]),(61,.p false [.c (.int .i64 ((d.length:Nat):Int))]),(62,.p false [.c (.int .i64 ((x:Nat):Int))]),(69,.p false [.c (.sl 118 2 (A0 YE f))]),(70,.p false [.c (.int .i64 ((f.length:Nat):Int))]),(71,.p false [.c (.int .i64 ((i:Nat):Int))])] [.box 91 [.c (.int .i64 0),.nil 144 3],.box 91 [.c (.int .i64 ((e.1.length:Nat):Int)),.row 2],.row 144 3 (A0 ZL k) 2,.row 153 2 (A0 Zgg l) 1,.box 104 [.c (.str b.name),.c (.int .i64 b.priority),.c (.sl 60 5 (A0 ZK b.cond)),.c (.sl 166 3 (A0 ZD b.thn))]] st) [] [0,1,2,3,52] (by decide) ?_ ?_ ?_
 simp only[*,go_sem,seval]
 rintro H m ⟨k,l⟩ ⟨sl,ob,n⟩ _ z I ab h _
 simp only[go_sem,seval,Zc] at I
 obtain ⟨⟨_,_,_,_,_,_,_,_,ac,_,_⟩,_,_,_,_,_,hn⟩:=I
 subst hn
 have ad:=WF.slotL ab ac (j:=0) rfl
 have:=ZB z
 have:=ZC z
 have:=Zj (ZA z) ad
 simp only[*,go_sem,seval]
 refine Zh h (fun i o st=>IV [(5,.bp 0 0),(8,.p false [.n (.sl 71 2 (A0 Zq e.1))]),(10,.bp 1 0),(11,.p false [.row 3]),(15,.bp 4 0),(17,.bp 5 0),(18,.p false [.row 6]),(60,.p false [.c (.sl 104 4 (A0 ZG d))]),(61,.p false [.c (.int .i64 ((d.length:Nat):Int))]),(62,.p false [.c (.int .i64 ((x:Nat):Int))]),(69,.p false [.c (.sl 118 2 (A0 YE f))]),(70,.p false [.c (.int .i64 ((f.length:Nat):Int))]),(71,.p false [.c (.int .i64 ((H:Nat):Int))]),(76,.p false [.c (.sl 60 5 (A0 ZK b.cond))]),(77,.p false [.c (.int .i64 ((b.cond.length:Nat):Int))]),(78,.p false [.c (.int .i64 ((i:Nat):Int))])] [.box 91 [.c (.int .i64 0),.nil 144 3],.box 91 [.c (.int .i64 ((e.1.length:Nat):Int)),.row 2],.row 144 3 (A0 ZL k) 2,.row 153 2 (A0 Zgg l) 1,.box 104 [.c (.str b.name),.c (.int .i64 b.priority),.c (.sl 60 5 (A0 ZK b.cond)),.c (.sl 166 3 (A0 ZD b.thn))],.box 118 [.c (.sl 71 2 (A0 Zq m.facts)),.c (.sl 135 2 (A0 ZZ m.binding))],.row 71 2 (A0 Zq o) 2] st) [(false,18,0)] [0,1,2,3,4,53,165] (by decide) ?_ ?_ ?_
 simp only[*,go_sem,seval]
 rintro _ _ o ⟨sl,ob,n⟩ _ A J ae h _
 simp only[go_sem,seval,Zc] at J
 obtain ⟨⟨_,_,_,_,_,_,_,_,_,_,_,_,_,af,_,_⟩,_,_,_,_,_,_,_,hn⟩:=J
 subst hn
 have ag:=WF.slotL ae af (j:=0) rfl
 have:=ZB A
 have:=ZC A
 have:=Zj (ZA A) ag
 simp only[*,go_sem,seval]
 refine Ze h (fun _ h=>?_) fun _ h=>?_<;>try simp only[*,go_sem,seval]
 refine Za h fun _ ah h=>Zb (ZdP ah) ?_
 obtain ⟨ai,h⟩:=Zs h
 try simp only[Nat.reduceLeDiff] at ai
 simp only[*,go_sem,seval]
 refine ⟨_,[],[0,1,2,3,4,5,359],(A3 h).symm,by decide,?_⟩
 simp only[*,go_sem,seval]
 refine ⟨_,[],[0,1,2,3,4,5,6],(A3 h).symm,by decide,?_⟩
 simp only[*,go_sem,seval]
 rintro o ⟨sl,ob,n⟩ K _ h
 simp only[go_sem,seval,Zc] at K
 obtain ⟨⟨_,_,_,_,_,_,_,_,_,_,_,_,_,_,_,_⟩,_,_,_,_,_,_,_,hn⟩:=K
 subst hn
 have:=Zz (b.cond.length)
 simp only[*,go_sem,seval]
 refine Zh h (fun i s st=>match s with | (B,C)=>IV [(5,.bp 0 0),(8,.p false [.n (.sl 71 2 (A0 Zq e.1))]),(10,.bp 1 0),(11,.p false [.row 3]),(15,.bp 4 0),(17,.bp 5 0),(18,.p false [.row 6]),(60,.p false [.c (.sl 104 4 (A0 ZG d))]),(61,.p false [.c (.int .i64 ((d.length:Nat):Int))]),(62,.p false [.c (.int .i64 ((x:Nat):Int))]),(69,.p false [.c (.sl 118 2 (A0 YE f))]),(70,.p false [.c (.int .i64 ((f.length:Nat):Int))]),(71,.p false [.c (.int .i64 ((H:Nat):Int))]),(99,.p false [.c (.sl 166 3 (A0 ZD b.thn))]),(100,.p false [.c (.int .i64 ((b.thn.length:Nat):Int))]),(101,.p false [.c (.int .i64 ((i:Nat):Int))])] [.box 91 [.c (.int .i64 0),.nil 144 3],.box 91 [.c (.int .i64 ((e.1.length:Nat):Int)),.row 2],.row 144 3 (A0 ZL B) 2,.row 153 2 (A0 Zgg C) 1,.box 104 [.c (.str b.name),.c (.int .i64 b.priority),.c (.sl 60 5 (A0 ZK b.cond)),.c (.sl 166 3 (A0 ZD b.thn))],.box 118 [.c (.sl 71 2 (A0 Zq m.facts)),.c (.sl 135 2 (A0 ZZ m.binding))],.row 71 2 (A0 Zq o) 2] st) [] [0,1,2,3,4,5,6] (by decide) ?_ ?_ ?_
 simp only[*,go_sem,seval]
 rintro _ _ ⟨B,C⟩ ⟨sl,ob,n⟩ _ D L aj h _
 simp only[go_sem,seval,Zc] at L
 obtain ⟨⟨_,_,_,_,_,_,_,_,_,_,_,_,_,ak,_,_⟩,_,_,_,_,_,_,_,hn⟩:=L
 subst hn
 have al:=WF.slotL aj ak (j:=0) rfl
 have:=ZB D
 have:=ZC D
 have:=Zj (ZA D) al
 simp only[*,go_sem,seval]
 refine Za h fun _ am h=>Zb (ZdP am) ?_
 simp only[*,go_sem,seval]
 refine Za h fun _ an h=>Zb (ZbG an) ?_
 simp only[*,go_sem,seval]
 refine Za h fun _ ao h=>Zb (ZhC ao) ?_
 simp only[*,go_sem,seval]
 refine Za h fun _ ap h=>Zb (ZhC ap) ?_
 simp only[*,go_sem,seval]
 refine Za h fun _ aq h=>Zb (Zkz aq) ?_
 simp only[*,go_sem,seval]
 refine Ze h (fun _ h=>?_) fun _ h=>?_<;>try simp only[*,go_sem,seval]
 refine ⟨_,[],[0,1,2,3,4,5,6],(A3 h).symm,by decide,?_⟩
 simp only[*,go_sem,seval]
 obtain ⟨ar,h⟩:=Zs h
 try simp only[Nat.reduceLeDiff] at ar
 obtain ⟨au,h⟩:=Zs h
 try simp only[Nat.reduceLeDiff] at au
 simp only[*,go_sem,seval]
 refine ⟨_,[],[0,1,615,775,4,5,6],(A3 h).symm,by decide,?_⟩
 simp only[*,go_sem,seval]
 rintro ⟨B,C⟩ ⟨sl,ob,n⟩ M _ h
 simp only[go_sem,seval,Zc] at M
 obtain ⟨⟨_,_,_,_,_,_,_,_,_,_,_,_,_,_,_,_⟩,_,_,_,_,_,_,_,hn⟩:=M
 subst hn
 have:=Zz (b.thn.length)
 simp only[*,go_sem,seval]
 refine ⟨_,[],[0,1,2,3,4],(A3 h).symm,by decide,?_⟩
 simp only[*,go_sem,seval]
 rintro ⟨k,l⟩ ⟨sl,ob,n⟩ N _ h
 simp only[go_sem,seval,Zc] at N
 obtain ⟨⟨_,_,_,_,_,_,_,_,_,_,_⟩,_,_,_,_,_,hn⟩:=N
 subst hn
 have:=Zz (f.length)
 simp only[*,go_sem,seval]
 refine ⟨_,[],[0,1,2,3],(A3 h).symm,by decide,?_⟩
 simp only[*,go_sem,seval]
 rintro ⟨v,w⟩ ⟨sl,ob,n⟩ O _ h
 simp only[go_sem,seval,Zc] at O
 obtain ⟨⟨_,_,_,_,_,_,_⟩,_,_,_,_,hn⟩:=O
 subst hn
 have:=Zz (d.length)
 simp only[*,go_sem,seval]
 refine Ze h (fun _ h=>?_) fun _ h=>?_<;>try simp only[*,go_sem,seval]
 iterate 3 (cases h;simp only[*,go_sem,seval])
theorem Zlw {c_0:ZF} {nots_1:Bool} {r:(Zf × ZF)} (h:Zbn c_0 nots_1=some r):ZaU prog J0 JF0 181 (.box 184 (Za7 c_0)) [(false,[.bool nots_1])] [(true,[(false,.str r.1.name),(false,.int .i64 r.1.priority),(false,.sl 60 5 (A0 ZK r.1.cond)),(false,.sl 166 3 (A0 ZD r.1.thn))])] (.box 184 (Za7 r.2)):=by
 refine fnh func181 rfl ?_
 unfold Zbn at h
 have a:Z2 ⟨#[114,32,48,58,32,112,40,63,120,41,32,38,32,111,110,40,63,120,44,63,121,41,32,38,32,63,120,32,33,61,32,63,121,32,45,62,32,97,100,100,32,113,40,63,121,41]⟩=true:=by decide
 have b:Z2 ⟨#[114,32,48,58,32,115,40,63,120,41,32,38,32,110,111,116,32,122,40,41,32,38,32,110,111,116,32,112,40,63,120,41,32,45,62,32,97,100,100,32,98,97,100,40,41]⟩=true:=by decide
 have c:Z2 ⟨#[114,32,49,58,32,111,110,40,63,120,44,63,121,41,32,38,32,111,110,40,63,121,44,63,122,41,32,45,62,32,97,100,100,32,111,110,40,63,120,44,63,122,41]⟩=true:=by decide
 have d:Z2 ⟨#[114,32,49,58,32,113,40,63,120,41,32,38,32,111,110,40,63,120,44,63,121,41,32,38,32,110,111,116,32,113,40,63,121,41,32,45,62,32,97,100,100,32,115,40,63,120,41]⟩=true:=by decide
 have e:Z2 ⟨#[114,32,49,58,32,113,40,63,120,41,32,38,32,112,40,63,120,41,32,45,62,32,97,100,100,32,98,97,100,40,41]⟩=true:=by decide
 have f:Z2 ⟨#[114,32,49,58,32,97,116,40,63,120,44,63,121,41,32,45,62,32,97,100,100,32,111,110,40,63,120,44,63,121,41]⟩=true:=by decide
 have g:Z2 ⟨#[114,32,50,58,32,111,110,40,63,120,44,63,121,41,32,38,32,112,40,63,121,41,32,45,62,32,97,100,100,32,112,40,63,120,41]⟩=true:=by decide
 have i:Z2 ⟨#[114,32,50,58,32,112,40,63,120,41,32,38,32,110,111,116,32,113,40,63,120,41,32,45,62,32,97,100,100,32,115,40,63,120,41]⟩=true:=by decide
 have j:Z2 ⟨#[114,32,51,58,32,112,40,63,120,41,32,38,32,112,40,63,121,41,32,38,32,63,120,32,60,32,63,121,32,45,62,32,97,100,100,32,122,40,41]⟩=true:=by decide
 have k:Z2 ⟨#[114,32,52,58,32,111,110,40,63,120,44,97,41,32,45,62,32,97,100,100,32,113,40,63,120,41,32,38,32,97,100,100,32,112,40,97,41]⟩=true:=by decide
 have l:Z2 ⟨#[114,32,53,58,32,111,110,40,63,120,44,63,121,41,32,38,32,110,111,116,32,112,40,63,121,41,32,45,62,32,97,100,100,32,115,40,63,121,41]⟩=true:=by decide
 simp only[fnH,f181,ZcO,ZcW,Y9,go_sem,seval,a,b,c,d,e,f,g,i,j,k,l]
 refine Ze h (fun _ h=>?_) fun _ h=>?_<;>try simp only[*,go_sem,seval]
 obtain ⟨m,o,h⟩:=ZJ h
 refine QC (QS o) ?_
 obtain ⟨p,h⟩:=Zs h
 try simp only[seval] at p
 obtain ⟨q,t,h⟩:=ZJ h
 have u:(A0 Zw [(⟨#[114,32,49,58,32,111,110,40,63,120,44,63,121,41,32,38,32,111,110,40,63,121,44,63,122,41,32,45,62,32,97,100,100,32,111,110,40,63,120,44,63,122,41]⟩),(⟨#[114,32,50,58,32,111,110,40,63,120,44,63,121,41,32,38,32,112,40,63,121,41,32,45,62,32,97,100,100,32,112,40,63,120,41]⟩),(⟨#[114,32,48,58,32,112,40,63,120,41,32,38,32,111,110,40,63,120,44,63,121,41,32,38,32,63,120,32,33,61,32,63,121,32,45,62,32,97,100,100,32,113,40,63,121,41]⟩),(⟨#[114,32,51,58,32,112,40,63,120,41,32,38,32,112,40,63,121,41,32,38,32,63,120,32,60,32,63,121,32,45,62,32,97,100,100,32,122,40,41]⟩),(⟨#[114,32,52,58,32,111,110,40,63,120,44,97,41,32,45,62,32,97,100,100,32,113,40,63,120,41,32,38,32,97,100,100,32,112,40,97,41]⟩),(⟨#[114,32,49,58,32,113,40,63,120,41,32,38,32,112,40,63,120,41,32,45,62,32,97,100,100,32,98,97,100,40,41]⟩),(⟨#[114,32,49,58,32,97,116,40,63,120,44,63,121,41,32,45,62,32,97,100,100,32,111,110,40,63,120,44,63,121,41]⟩),(⟨#[114,32,50,58,32,112,40,63,120,41,32,38,32,110,111,116,32,113,40,63,120,41,32,45,62,32,97,100,100,32,115,40,63,120,41]⟩),(⟨#[114,32,53,58,32,111,110,40,63,120,44,63,121,41,32,38,32,110,111,116,32,112,40,63,121,41,32,45,62,32,97,100,100,32,115,40,63,121,41]⟩),(⟨#[114,32,48,58,32,115,40,63,120,41,32,38,32,110,111,116,32,122,40,41,32,38,32,110,111,116,32,112,40,63,120,41,32,45,62,32,97,100,100,32,98,97,100,40,41]⟩),(⟨#[114,32,49,58,32,113,40,63,120,41,32,38,32,111,110,40,63,120,44,63,121,41,32,38,32,110,111,116,32,113,40,63,121,41,32,45,62,32,97,100,100,32,115,40,63,120,41]⟩)])[(A5 m.1)]?=some (Zw q):=by rw [A6,t];rfl
 simp only[A7,A8,Znj] at u
 simp only[*,go_sem,seval]
 refine Za h fun _ v h=>Zb (Zfy v) ?_
 cases h
 simp only[*,go_sem,seval]
 obtain ⟨w,x,h⟩:=ZJ h
 refine QC (QS x) ?_
 obtain ⟨y,h⟩:=Zs h
 try simp only[seval] at y
 obtain ⟨z,A,h⟩:=ZJ h
 have B:(A0 Zw [(⟨#[114,32,49,58,32,111,110,40,63,120,44,63,121,41,32,38,32,111,110,40,63,121,44,63,122,41,32,45,62,32,97,100,100,32,111,110,40,63,120,44,63,122,41]⟩),(⟨#[114,32,50,58,32,111,110,40,63,120,44,63,121,41,32,38,32,112,40,63,121,41,32,45,62,32,97,100,100,32,112,40,63,120,41]⟩),(⟨#[114,32,48,58,32,112,40,63,120,41,32,38,32,111,110,40,63,120,44,63,121,41,32,38,32,63,120,32,33,61,32,63,121,32,45,62,32,97,100,100,32,113,40,63,121,41]⟩),(⟨#[114,32,51,58,32,112,40,63,120,41,32,38,32,112,40,63,121,41,32,38,32,63,120,32,60,32,63,121,32,45,62,32,97,100,100,32,122,40,41]⟩),(⟨#[114,32,52,58,32,111,110,40,63,120,44,97,41,32,45,62,32,97,100,100,32,113,40,63,120,41,32,38,32,97,100,100,32,112,40,97,41]⟩),(⟨#[114,32,49,58,32,113,40,63,120,41,32,38,32,112,40,63,120,41,32,45,62,32,97,100,100,32,98,97,100,40,41]⟩),(⟨#[114,32,49,58,32,97,116,40,63,120,44,63,121,41,32,45,62,32,97,100,100,32,111,110,40,63,120,44,63,121,41]⟩),(⟨#[114,32,50,58,32,112,40,63,120,41,32,38,32,110,111,116,32,113,40,63,120,41,32,45,62,32,97,100,100,32,115,40,63,120,41]⟩),(⟨#[114,32,53,58,32,111,110,40,63,120,44,63,121,41,32,38,32,110,111,116,32,112,40,63,121,41,32,45,62,32,97,100,100,32,115,40,63,121,41]⟩),(⟨#[114,32,48,58,32,115,40,63,120,41,32,38,32,110,111,116,32,122,40,41,32,38,32,110,111,116,32,112,40,63,120,41,32,45,62,32,97,100,100,32,98,97,100,40,41]⟩),(⟨#[114,32,49,58,32,113,40,63,120,41,32,38,32,111,110,40,63,120,44,63,121,41,32,38,32,110,111,116,32,113,40,63,121,41,32,45,62,32,97,100,100,32,115,40,63,120,41]⟩)])[(A5 w.1)]?=some (Zw z):=by rw [A6,A];rfl
 simp only[A7,A8,Znj] at B
 simp only[*,go_sem,seval]
 refine Za h fun _ C h=>Zb (Zfy C) ?_
 cases h
 simp only[*,go_sem,seval]
end
section
set_option linter.unusedSimpArgs false
set_option linter.unusedVariables false
set_option maxRecDepth 1000000
set_option maxHeartbeats 4000000
theorem ZK8 {c_0:ZF} {most_1:Int} {r:(Zf × ZF)} (h:ZKJ c_0 most_1=some r):ZaU prog J0 JF0 219 (.box 184 (Za7 c_0)) [(false,[.int .i64 most_1])] [(true,[(false,.str r.1.name),(false,.int .i64 r.1.priority),(false,.sl 60 5 (A0 ZK r.1.cond)),(false,.sl 166 3 (A0 ZD r.1.thn))])] (.box 184 (Za7 r.2)):=by
 refine fnh func219 rfl ?_
 unfold ZKJ at h
 have a:Z2 ⟨#[114,32,48,58,32,112,40,63,120,41,32,38,32,111,110,40,63,120,44,63,121,41,32,38,32,63,120,32,33,61,32,63,121,32,45,62,32,97,100,100,32,97,116,40,63,121,44,63,120,41]⟩=true:=by decide
 have b:Z2 ⟨#[114,32,48,58,32,97,116,40,63,120,44,49,41,32,38,32,97,116,40,63,121,44,50,41,32,38,32,63,120,32,61,32,63,121,32,45,62,32,100,114,111,112,32,97,116,40,63,120,44,49,41,32,38,32,115,116,111,112]⟩=true:=by decide
 have c:Z2 ⟨#[114,32,49,58,32,111,110,40,63,120,44,63,120,41,32,45,62,32,115,116,111,112]⟩=true:=by decide
 have d:Z2 ⟨#[114,32,49,58,32,111,110,40,63,120,44,63,121,41,32,38,32,111,110,40,63,121,44,63,122,41,32,45,62,32,97,100,100,32,111,110,40,63,120,44,63,122,41]⟩=true:=by decide
 have e:Z2 ⟨#[114,32,49,58,32,112,40,63,120,41,32,38,32,110,111,116,32,113,40,63,120,41,32,45,62,32,97,100,100,32,97,116,40,63,120,44,98,41]⟩=true:=by decide
 have f:Z2 ⟨#[114,32,49,58,32,97,116,40,63,120,44,63,120,41,32,38,32,113,40,49,41,32,45,62,32,97,100,100,32,111,110,40,63,120,44,49,41]⟩=true:=by decide
 have g:Z2 ⟨#[114,32,50,58,32,111,110,40,63,120,44,63,121,41,32,38,32,110,111,116,32,97,116,40,63,121,44,63,122,41,32,45,62,32,97,100,100,32,113,40,63,121,41]⟩=true:=by decide
 have i:Z2 ⟨#[114,32,50,58,32,111,110,40,63,120,44,63,121,41,32,38,32,112,40,63,121,41,32,45,62,32,97,100,100,32,112,40,63,120,41]⟩=true:=by decide
 have j:Z2 ⟨#[114,32,51,58,32,97,116,40,63,120,44,63,121,41,32,38,32,112,40,63,120,41,32,38,32,112,40,63,121,41,32,38,32,63,120,32,60,32,63,121,32,45,62,32,97,100,100,32,122,40,41]⟩=true:=by decide
 have k:Z2 ⟨#[114,32,52,58,32,111,110,40,63,120,44,97,41,32,45,62,32,97,100,100,32,113,40,63,120,41,32,38,32,97,100,100,32,112,40,97,41]⟩=true:=by decide
 have l:Z2 ⟨#[114,32,53,58,32,97,116,40,63,120,44,63,121,41,32,38,32,110,111,116,32,112,40,63,121,41,32,38,32,63,120,32,33,61,32,63,121,32,45,62,32,97,100,100,32,122,40,41]⟩=true:=by decide
 have m:Z2 ⟨#[114,32,55,58,32,122,40,41,32,38,32,111,110,40,63,120,44,63,121,41,32,45,62,32,100,114,111,112,32,122,40,41,32,38,32,97,100,100,32,111,110,40,63,121,44,63,120,41]⟩=true:=by decide
 have o:Z2 ⟨#[114,32,57,58,32,113,40,63,120,41,32,38,32,112,40,63,120,41,32,45,62,32,100,114,111,112,32,112,40,63,120,41]⟩=true:=by decide
 simp only[fnH,f219,ZcO,ZcW,Y9,go_sem,seval,a,b,c,d,e,f,g,i,j,k,l,m,o]
 obtain ⟨p,q,h⟩:=ZJ h
 refine QC (QS q) ?_
 obtain ⟨t,h⟩:=Zs h
 try simp only[seval] at t
 obtain ⟨u,v,h⟩:=ZJ h
 have w:(A0 Zw [(⟨#[114,32,49,58,32,111,110,40,63,120,44,63,121,41,32,38,32,111,110,40,63,121,44,63,122,41,32,45,62,32,97,100,100,32,111,110,40,63,120,44,63,122,41]⟩),(⟨#[114,32,50,58,32,111,110,40,63,120,44,63,121,41,32,38,32,112,40,63,121,41,32,45,62,32,97,100,100,32,112,40,63,120,41]⟩),(⟨#[114,32,48,58,32,112,40,63,120,41,32,38,32,111,110,40,63,120,44,63,121,41,32,38,32,63,120,32,33,61,32,63,121,32,45,62,32,97,100,100,32,97,116,40,63,121,44,63,120,41]⟩),(⟨#[114,32,51,58,32,97,116,40,63,120,44,63,121,41,32,38,32,112,40,63,120,41,32,38,32,112,40,63,121,41,32,38,32,63,120,32,60,32,63,121,32,45,62,32,97,100,100,32,122,40,41]⟩),(⟨#[114,32,52,58,32,111,110,40,63,120,44,97,41,32,45,62,32,97,100,100,32,113,40,63,120,41,32,38,32,97,100,100,32,112,40,97,41]⟩),(⟨#[114,32,49,58,32,97,116,40,63,120,44,63,120,41,32,38,32,113,40,49,41,32,45,62,32,97,100,100,32,111,110,40,63,120,44,49,41]⟩),(⟨#[114,32,49,58,32,112,40,63,120,41,32,38,32,110,111,116,32,113,40,63,120,41,32,45,62,32,97,100,100,32,97,116,40,63,120,44,98,41]⟩),(⟨#[114,32,50,58,32,111,110,40,63,120,44,63,121,41,32,38,32,110,111,116,32,97,116,40,63,121,44,63,122,41,32,45,62,32,97,100,100,32,113,40,63,121,41]⟩),(⟨#[114,32,53,58,32,97,116,40,63,120,44,63,121,41,32,38,32,110,111,116,32,112,40,63,121,41,32,38,32,63,120,32,33,61,32,63,121,32,45,62,32,97,100,100,32,122,40,41]⟩),(⟨#[114,32,57,58,32,113,40,63,120,41,32,38,32,112,40,63,120,41,32,45,62,32,100,114,111,112,32,112,40,63,120,41]⟩),(⟨#[114,32,48,58,32,97,116,40,63,120,44,49,41,32,38,32,97,116,40,63,121,44,50,41,32,38,32,63,120,32,61,32,63,121,32,45,62,32,100,114,111,112,32,97,116,40,63,120,44,49,41,32,38,32,115,116,111,112]⟩),(⟨#[114,32,49,58,32,111,110,40,63,120,44,63,120,41,32,45,62,32,115,116,111,112]⟩),(⟨#[114,32,55,58,32,122,40,41,32,38,32,111,110,40,63,120,44,63,121,41,32,45,62,32,100,114,111,112,32,122,40,41,32,38,32,97,100,100,32,111,110,40,63,121,44,63,120,41]⟩)])[(A5 p.1)]?=some (Zw u):=by rw [A6,v];rfl
 simp only[A7,A8,Znj] at w
 simp only[*,go_sem,seval]
 refine Za h fun _ x h=>Zb (Zfy x) ?_
 cases h
 simp only[*,go_sem,seval]
theorem ZMz {c_0:ZF} {r:((List Zr) × ZF)} (h:ZLf c_0=some r):ZaU prog J0 JF0 145 (.box 184 (Za7 c_0)) [] [(false,[(false,.sl 60 5 (A0 ZK r.1))])] (.box 184 (Za7 r.2)):=by
 refine fnh func145 rfl ?_
 unfold ZLf at h
 have a:Z2 ⟨#[111,110,40,63,120,44,63,120,41]⟩=true:=by decide
 have b:Z2 ⟨#[111,110,40,63,120,44,63,121,41,32,38,32,112,40,63,121,41]⟩=true:=by decide
 have c:Z2 ⟨#[111,110,40,63,120,44,63,121,41,32,38,32,63,120,32,33,61,32,63,121]⟩=true:=by decide
 have d:Z2 ⟨#[111,110,40,63,120,44,63,121,41]⟩=true:=by decide
 have e:Z2 ⟨#[111,110,40,97,44,63,121,41,32,38,32,111,110,40,63,121,44,63,122,41,32,38,32,110,111,116,32,113,40,63,122,41]⟩=true:=by decide
 have f:Z2 ⟨#[112,40,63,120,41,32,38,32,110,111,116,32,111,110,40,63,120,44,63,122,41]⟩=true:=by decide
 have g:Z2 ⟨#[112,40,63,120,41,32,38,32,112,40,63,121,41,32,38,32,63,120,32,60,32,63,121]⟩=true:=by decide
 have i:Z2 ⟨#[112,40,63,120,41]⟩=true:=by decide
 have j:Z2 ⟨#[113,40,63,120,41,32,38,32,110,111,116,32,112,40,63,120,41]⟩=true:=by decide
 have k:Z2 ⟨#[122,40,41]⟩=true:=by decide
 simp only[fnH,f145,ZcO,ZcW,Y9,go_sem,seval,a,b,c,d,e,f,g,i,j,k]
 obtain ⟨_,l,h⟩:=ZJ h
 refine QC (ZjQ l) ?_
 simp only[*,go_sem,seval]
 refine Za h fun _ m h=>Zb (ZLM m) ?_
 cases h
 simp only[*,go_sem,seval]
theorem ZgQ {l_0:(List Zr)} {facts_1:(List Zd)} {r:(List Zt)} (h:Zai l_0 facts_1=some r):Zl prog J0 114 [(false,[.sl 60 5 (A0 ZK l_0)]),(false,[.sl 71 2 (A0 Zq facts_1)])] [(false,[(false,.sl 118 2 (A0 YE r))])]:=by
 refine fnk func114 rfl ?_
 unfold Zai at h
 simp only[fnS,f114,Zm,go_sem,seval]
 refine Zh h (fun i a st=>IV [(0,.p false [.c (.sl 60 5 (A0 ZK l_0))]),(1,.p false [.c (.sl 71 2 (A0 Zq facts_1))]),(5,.p false [.row 0]),(6,.p false [.c (.int .i64 ((i:Nat):Int))])] [.row 118 2 (A0 YE a) 2] st) [] [32] (by decide) ?_ ?_ ?_
 simp only[*,go_sem,seval]
 rintro _ _ a ⟨sl,ob,n⟩ _ b d f h _
 simp only[go_sem,seval,Zc] at d
 obtain ⟨⟨g,_,_,_⟩,_,hn⟩:=d
 subst hn
 have k:=WF.slotL f g (j:=0) rfl
 have:=ZB b
 have:=ZC b
 have:=Zj (ZA b) k
 simp only[*,go_sem,seval]
 refine Za h fun _ l h=>Zb (Zpg l) ?_
 simp only[*,go_sem,seval]
 refine ⟨_,[],[161],(A3 h).symm,by decide,?_⟩
 simp only[*,go_sem,seval]
 rintro a ⟨sl,ob,n⟩ e _ h
 simp only[go_sem,seval,Zc] at e
 obtain ⟨⟨_,_,_,_⟩,_,hn⟩:=e
 subst hn
 have:=Zz (l_0.length)
 cases h
 simp only[*,go_sem,seval]
end
section
set_option linter.unusedSimpArgs false
set_option linter.unusedVariables false
set_option maxRecDepth 1000000
set_option maxHeartbeats 4000000
theorem Zdb {rules_0:(List Zf)} {base_1:(List Zd)} {r:((List Zd) × Zu × Bool)} (h:Xe rules_0 base_1=some r):Zl prog J0 57 [(false,[.sl 104 4 (A0 ZG rules_0)]),(false,[.sl 71 2 (A0 Zq base_1)])] [(false,[(false,.sl 71 2 (A0 Zq r.1))]),(true,[(false,.int .i64 r.2.1.nodes),(false,.sl 144 3 (A0 ZL r.2.1.reasons))]),(false,[(false,.bool r.2.2)])]:=by
 refine fnk func57 rfl ?_
 unfold Xe at h
 simp only[fnS,f57,Zm,go_sem,seval]
 refine Za h fun _ a h=>Zb (Zox a) ?_
 cases h
 simp only[*,go_sem,seval]
theorem Zlt {c_0:ZF} {a:Bool} {r:((List Zf) × ZF)} (h:Zda c_0 a=some r):ZaU prog J0 JF0 109 (.box 184 (Za7 c_0)) [(false,[.bool a])] [(false,[(false,.sl 104 4 (A0 ZG r.1))])] (.box 184 (Za7 r.2)):=by
 refine fnh func109 rfl ?_
 unfold Zda at h
 have k:Z2 ⟨#[114]⟩=true:=by decide
 simp only[fnH,f109,ZcO,ZcW,Y9,go_sem,seval,k]
 obtain ⟨_,l,h⟩:=ZJ h
 refine QC (QS l) ?_
 simp only[*,go_sem,seval]
 refine XH h (fun s st=>match s with | (b,d,e,f,g)=>IV [(0,.bp 0 0),(1,.p false [.c (.bool a)]),(5,.p false [.row 1]),(6,.p false [.c (.int .i64 g)])] [.box 184 [.c (.sl 5 1 (A0 Zek b)),.c (.int .i64 d),.c (.int .i64 e)],.row 104 4 (A0 ZG f) 2] st) [] [0,17] (by decide) ?_ ?_
 simp only[*,go_sem,seval]
 rintro ⟨b,d,e,f,g⟩ ⟨sl,ob,n⟩ _ j _ h m
 simp only[go_sem,seval,Zc] at j
 obtain ⟨⟨_,_,_,_⟩,_,_,hn⟩:=j
 subst hn
 simp only[*,go_sem,seval]
 refine Ze h (fun _ h=>?_) fun _ h=>?_<;>try simp only[*,go_sem,seval]
 obtain ⟨_,o,h⟩:=ZJ h
 refine QC (Zlw o) ?_
 simp only[*,go_sem,seval]
 refine Za h fun _ q h=>Zb (Zfs q) ?_
 obtain ⟨t,h⟩:=Zs h
 simp only[go_sem] at t
 obtain ⟨u,h⟩:=Zs h
 try simp only[Nat.reduceLeDiff] at u
 simp only[*,go_sem,seval]
 refine ⟨_,[],[0,242],(A3 h).symm,by decide,?_⟩
 simp only[*,go_sem,seval]
 replace h:=Zo h m
 cases h
 simp only[*,go_sem,seval]
theorem ZMv {append_0:ZF} {r:(Zf × ZF)} (h:ZLc append_0=some r):ZaU prog J0 JF0 286 (.box 184 (Za7 append_0)) [] [(true,[(false,.str r.1.name),(false,.int .i64 r.1.priority),(false,.sl 60 5 (A0 ZK r.1.cond)),(false,.sl 166 3 (A0 ZD r.1.thn))])] (.box 184 (Za7 r.2)):=by
 refine ZND [(5,[0,1,2,3,4,5,6,7],true),(12,[0,1,2,3,4,5,6],true),(13,[0,1,2,3,4,5,6,7,8,9,10],true)] func286 rfl ?_
 unfold ZLc at h
 have ks0:Z2 ⟨#[114]⟩=true:=by decide
 simp only[fnH,f286,ZcO,ZcW,Y9,go_sem,ZKD,seval,ks0]
 obtain ⟨v1,e1,h⟩:=ZJ h
 refine QC (by have hh:=QS e1;first | exact hh | (simp only[go_sem,ZKD, *] at hh;exact hh)) ?_
 simp only[go_sem,ZKD,seval, *]
 obtain ⟨v2,e2,h⟩:=ZJ h
 refine QC (by have hh:=ZKT e2;first | exact hh | (simp only[go_sem,ZKD, *] at hh;exact hh)) ?_
 simp only[go_sem,ZKD,seval, *]
 obtain ⟨v3,e3,h⟩:=ZJ h
 refine QC (by have hh:=QS e3;first | exact hh | (simp only[go_sem,ZKD, *] at hh;exact hh)) ?_
 simp only[go_sem,ZKD,seval, *]
 refine XH h (fun s st=>match s with | (f_5,f_6,f_7,row_8,u_9)=>IV [(0,.bp 0 0),(2,.bp 1 0),(3,.bp 2 0),(4,.p false [.c (.int .i64 u_9)])] [.box 184 [.c (.sl 5 1 (A0 Zek f_5)),.c (.int .i64 f_6),.c (.int .i64 f_7)],.box 104 [.c (.str ⟨#[]⟩),.c (.int .i64 0),.nil 60 5,.nil 166 3],.box 104 [.c (.str ⟨#[114]⟩),.c (.int .i64 v1.1),.row 3,.nil 166 3],.row 60 5 (A0 ZK row_8) 2] st) [] [0,1,129,97] (by decide) ?_ ?_
 ·simp only[go_sem,ZKD,seval, *]
 ·rintro ⟨f_5,f_6,f_7,row_8,u_9⟩ ⟨sl,ob,n⟩ y4 hI5 hW6 h hy4
  simp only[go_sem,ZKD,seval,Zc] at hI5
  obtain ⟨⟨g7_0,g7_2,g7_3,g7_4⟩,og7_0,og7_1,og7_2,og7_3,hn⟩:=hI5
  subst hn
  simp only[go_sem,ZKD,seval, *]
  refine Ze h (fun c8 h=>?_) (fun c8 h=>?_)<;>try simp only[go_sem,ZKD,seval, *]
  ·obtain ⟨v10,e9,h⟩:=ZJ h
   refine QC (by have hh:=ZL8 e9;first | exact hh | (simp only[go_sem,ZKD, *] at hh;exact hh)) ?_
   obtain ⟨p10,h⟩:=Zs h
   try simp only[Nat.reduceLeDiff] at p10
   simp only[go_sem,ZKD,seval, *]
   refine ⟨_,[],[0,1,2,116],(A3 h).symm,by decide,?_⟩
   simp only[go_sem,ZKD,seval, *]
  ·refine Za h fun v11 e11 h=>Zb (by have hh:=ZaS e11;first | exact hh | (simp only[go_sem,ZKD, *] at hh;exact hh)) ?_
   simp only[go_sem,ZKD,seval, *]
   obtain ⟨v12,e12,h⟩:=ZJ h
   refine QC (by have hh:=ZKT e12;first | exact hh | (simp only[go_sem,ZKD, *] at hh;exact hh)) ?_
   simp only[go_sem,ZKD,seval, *]
   refine XH h (fun s st=>match s with | (f_22,f_23,f_24,row_25,u_17)=>IV [(0,.bp 0 0),(2,.bp 1 0),(3,.bp 2 0),(5,.p false [.row 4]),(6,.bp 5 0),(7,.p false [.c (.int .i64 u_17)])] [.box 184 [.c (.sl 5 1 (A0 Zek f_22)),.c (.int .i64 f_23),.c (.int .i64 f_24)],.box 104 [.c (.str ⟨#[]⟩),.c (.int .i64 0),.nil 60 5,.nil 166 3],.box 104 [.c (.str ⟨#[114]⟩),.c (.int .i64 v1.1),.row 3,.nil 166 3],.row 60 5 (A0 ZK row_8) 2,.row 9 1 (A0 Zw v11) 2,.box 58 [.c (.str v12.1.rel),.row 6],.row 9 1 (A0 Zw row_25) 2] st) [] [0,1,2,3,100,164,148] (by decide) ?_ ?_
   ·simp only[go_sem,ZKD,seval, *]
   ·rintro ⟨f_22,f_23,f_24,row_25,u_17⟩ ⟨sl,ob,n⟩ y13 hI14 hW15 h hy13
    simp only[go_sem,ZKD,seval,Zc] at hI14
    obtain ⟨⟨g16_0,g16_2,g16_3,g16_5,g16_6,g16_7⟩,og16_0,og16_1,og16_2,og16_3,og16_4,og16_5,og16_6,hn⟩:=hI14
    subst hn
    simp only[go_sem,ZKD,seval, *]
    refine Ze h (fun c17 h=>?_) (fun c17 h=>?_)<;>try simp only[go_sem,ZKD,seval, *]
    ·obtain ⟨p18,h⟩:=Zs h
     obtain ⟨x26,e19,h⟩:=ZJ h
     simp only[go_sem,ZKD,seval, *]
     refine Za h fun v27 e20 h=>Zb (by have hh:=Qq e20;first | exact hh | (simp only[go_sem,ZKD, *] at hh;exact hh)) ?_
     simp only[go_sem,ZKD,seval, *]
     refine Ze h (fun c21 h=>?_) (fun c21 h=>?_)<;>try simp only[go_sem,ZKD,seval, *]
     ·refine Za h fun v28 e22 h=>Zb (by have hh:=Ym e22;first | exact hh | (simp only[go_sem,ZKD, *] at hh;exact hh)) ?_
      simp only[go_sem,ZKD,seval, *]
      refine Ze h (fun c23 h=>?_) (fun c23 h=>?_)<;>try simp only[go_sem,ZKD,seval, *]
      ·refine ⟨_,[],[0,1,2,3,4,5,6],(A3 h).symm,by decide,?_⟩
       simp only[go_sem,ZKD,seval, *]
      ·obtain ⟨v29,e24,h⟩:=ZJ h
       refine QC (by have hh:=ZLC e24;first | exact hh | (simp only[go_sem,ZKD, *] at hh;exact hh)) ?_
       simp only[go_sem,ZKD,seval, *]
       refine ⟨_,[],[0,1,2,3,4,5,6],(A3 h).symm,by decide,?_⟩
       simp only[go_sem,ZKD,seval, *]
     ·refine ⟨_,[],[0,1,2,3,4,5,6],(A3 h).symm,by decide,?_⟩
      simp only[go_sem,ZKD,seval, *]
    ·obtain ⟨v30,e25,h⟩:=ZJ h
     refine QC (by have hh:=ZKQ e25;first | exact hh | (simp only[go_sem,ZKD, *] at hh;exact hh)) ?_
     simp only[go_sem,ZKD,seval, *]
     obtain ⟨v31,e26,h⟩:=ZJ h
     refine QC (by have hh:=ZLB e26;first | exact hh | (simp only[go_sem,ZKD, *] at hh;exact hh)) ?_
     simp only[go_sem,ZKD,seval, *]
     refine Ze h (fun c27 h=>?_) (fun c27 h=>?_)<;>try simp only[go_sem,ZKD,seval, *]
     ·refine Za h fun v32 e28 h=>Zb (by have hh:=Zf1 e28;first | exact hh | (simp only[go_sem,ZKD, *] at hh;exact hh)) ?_
      simp only[go_sem,ZKD,seval, *]
      refine Ze h (fun c29 h=>?_) (fun c29 h=>?_)<;>try simp only[go_sem,ZKD,seval, *]
      ·replace h:=Zo h hy13
       replace h:=Zo h hy4
       obtain rfl:=A3 h
       simp only[go_sem,ZKD,seval, *]
      ·obtain ⟨v33,e30,h⟩:=ZJ h
       refine QC (by have hh:=ZK8 e30;first | exact hh | (simp only[go_sem,ZKD, *] at hh;exact hh)) ?_
       replace h:=Zo h hy13
       replace h:=Zo h hy4
       obtain rfl:=A3 h
       simp only[go_sem,ZKD,seval, *]
     ·refine Za h fun v34 e31 h=>Zb (by have hh:=Zf1 e31;first | exact hh | (simp only[go_sem,ZKD, *] at hh;exact hh)) ?_
      simp only[go_sem,ZKD,seval, *]
      refine Ze h (fun c32 h=>?_) (fun c32 h=>?_)<;>try simp only[go_sem,ZKD,seval, *]
      ·replace h:=Zo h hy13
       replace h:=Zo h hy4
       obtain rfl:=A3 h
       simp only[go_sem,ZKD,seval, *]
      ·obtain ⟨v35,e33,h⟩:=ZJ h
       refine QC (by have hh:=ZK8 e33;first | exact hh | (simp only[go_sem,ZKD, *] at hh;exact hh)) ?_
       replace h:=Zo h hy13
       replace h:=Zo h hy4
       obtain rfl:=A3 h
       simp only[go_sem,ZKD,seval, *]
theorem ZM1 {c_0:ZF} {r:((List Zr) × ZF)} (h:ZLn c_0=some r):ZaU prog J0 JF0 85 (.box 184 (Za7 c_0)) [] [(false,[(true,.sl 60 5 (A0 ZK r.1))])] (.box 184 (Za7 r.2)):=by
 refine fnh func85 rfl ?_
 unfold ZLn at h
 simp only[fnH,f85,ZcO,ZcW,Y9,go_sem,seval]
 obtain ⟨_,a,h⟩:=ZJ h
 refine QC (ZMz a) ?_
 simp only[*,go_sem,seval]
 obtain ⟨_,b,h⟩:=ZJ h
 refine QC (QS b) ?_
 simp only[*,go_sem,seval]
 refine Ze h (fun _ h=>?_) fun _ h=>?_<;>try simp only[*,go_sem,seval]
 obtain ⟨_,c,h⟩:=ZJ h
 refine QC (ZLQ c) ?_
 obtain ⟨d,h⟩:=Zs h
 try simp only[Nat.reduceLeDiff] at d
 cases h
 simp only[*,go_sem,seval]
 refine Ze h (fun _ h=>?_) fun _ h=>?_<;>try simp only[*,go_sem,seval]
 obtain ⟨_,h⟩:=Zs h
 cases h
 simp only[*,go_sem,seval]
 refine Ze h (fun _ h=>?_) fun _ h=>?_<;>try simp only[*,go_sem,seval]
 obtain ⟨_,e,h⟩:=ZJ h
 refine QC (ZLQ e) ?_
 iterate 2 (cases h;simp only[*,go_sem,seval])
theorem Zg0 {a:(List Zf)} {String_1:(List Zd)} {r:((List Zd) × Bool)} (h:Yg a String_1=some r):Zl prog J0 48 [(false,[.sl 104 4 (A0 ZG a)]),(false,[.sl 71 2 (A0 Zq String_1)])] [(false,[(false,.sl 71 2 (A0 Zq r.1))]),(false,[(false,.bool r.2)])]:=by
 refine fnn 4 func48 rfl ?_
 unfold Yg at h
 simp only[fnN,f48,Zm,go_sem,seval]
 refine Za h fun _ B h=>Zb (Zju B) ?_
 simp only[*,go_sem,seval]
 refine Ze h (fun _ h=>?_) fun _ h=>?_<;>try simp only[*,go_sem,seval]
 refine Za h fun _ C h=>Zb (ZlI C) ?_
 simp only[*,go_sem,seval]
 refine Ze h (fun _ h=>?_) fun _ h=>?_<;>try simp only[*,go_sem,seval]
 refine Za h fun _ D h=>Zb (ZdO D) ?_
 simp only[*,go_sem,seval]
 refine XH h (fun s st=>match s with | (b,o)=>IV [(0,.p false [.c (.sl 104 4 (A0 ZG a))]),(6,.p false [.n (.sl 71 2 (A0 Zq b))]),(7,.p false [.c (.bool o)])] [] st) [(false,6,4096)] [] (by decide) ?_ ?_
 simp only[*,go_sem,seval]
 rintro ⟨b,o⟩ ⟨sl,ob,n⟩ _ q _ h t
 simp only[go_sem,seval,Zc] at q
 obtain ⟨⟨_,_,_⟩,hn⟩:=q
 subst hn
 simp only[*,go_sem,seval]
 refine Ze h (fun _ h=>?_) fun _ h=>?_<;>try simp only[*,go_sem,seval]
 refine Zh h (fun i e st=>IV [(0,.p false [.c (.sl 104 4 (A0 ZG a))]),(6,.p false [.n (.sl 71 2 (A0 Zq e))]),(8,.p false [.n (.sl 71 2 (A0 Zq b))]),(9,.p false [.c (.int .i64 ((i:Nat):Int))])] [] st) [] [] (by decide) ?_ ?_ ?_
 simp only[*,go_sem,seval]
 rintro u E e ⟨sl,ob,n⟩ _ d v F h G
 simp only[go_sem,seval,Zc] at v
 obtain ⟨⟨H,_,_,_⟩,hn⟩:=v
 subst hn
 have I:=WF.slotL F H (j:=0) rfl
 have:=ZB d
 have:=ZC d
 have:=Zj (ZA d) I
 simp only[*,go_sem,seval]
 obtain ⟨_,J,h⟩:=ZJ h
 refine ZkJ (Zee J) ?_
 simp only[*,go_sem,seval]
 refine Za h fun f K h=>Zb (ZgQ K) ?_
 simp only[*,go_sem,seval]
 refine Zh h (fun i g st=>IV [(0,.p false [.c (.sl 104 4 (A0 ZG a))]),(6,.p false [.n (.sl 71 2 (A0 Zq g))]),(8,.p false [.n (.sl 71 2 (A0 Zq b))]),(9,.p false [.c (.int .i64 ((u:Nat):Int))]),(10,.p false [.row 0]),(11,.p false [.c (.int .i64 ((i:Nat):Int))])] [.row 118 2 (A0 YE f) 2] st) [] [160] (by decide) ?_ ?_ ?_
 simp only[*,go_sem,seval]
 rintro L _ g ⟨sl,ob,n⟩ _ k w M h _
 simp only[go_sem,seval,Zc] at w
 obtain ⟨⟨_,_,_,_,_,_⟩,N,hn⟩:=w
 subst hn
 have O:=WF.rowL M N
 have:=ZB k
 have:=ZC k
 have:=Zj (ZA k) O
 simp only[*,go_sem,seval]
 refine Zh h (fun i l st=>IV [(0,.p false [.c (.sl 104 4 (A0 ZG a))]),(6,.p false [.n (.sl 71 2 (A0 Zq l))]),(8,.p false [.n (.sl 71 2 (A0 Zq b))]),(9,.p false [.c (.int .i64 ((u:Nat):Int))]),(10,.p false [.row 0]),(11,.p false [.c (.int .i64 ((L:Nat):Int))]),(12,.p false [.c (.int .i64 ((i:Nat):Int))])] [.row 118 2 (A0 YE f) 2] st) [] [0] (by decide) ?_ ?_ ?_
 simp only[*,go_sem,seval]
 rintro _ _ l ⟨sl,ob,n⟩ _ m x P h _
 simp only[go_sem,seval,Zc] at x
 obtain ⟨⟨Q,_,_,_,_,_,_⟩,_,hn⟩:=x
 subst hn
 have R:=WF.elL (WF.slotD P Q (j:=0) rfl) d (j:=3) rfl
 have:=ZB m
 have:=ZC m
 have:=Zj (ZA m) R
 simp only[*,go_sem,seval]
 refine Za h fun _ S h=>Zb (ZdM S) ?_
 simp only[*,go_sem,seval]
 refine Za h fun _ T h=>Zb (Zdi T) ?_
 simp only[*,go_sem,seval]
 refine ⟨_,[(false,6,4096)],[0],(A3 h).symm,by decide,?_⟩
 simp only[*,go_sem,seval]
 rintro l ⟨sl,ob,n⟩ y _ h
 simp only[go_sem,seval,Zc] at y
 obtain ⟨⟨_,_,_,_,_,_,_⟩,_,hn⟩:=y
 subst hn
 have:=Zz (E.thn.length)
 simp only[*,go_sem,seval]
 refine ⟨_,[],[0],(A3 h).symm,by decide,?_⟩
 simp only[*,go_sem,seval]
 rintro g ⟨sl,ob,n⟩ z _ h
 simp only[go_sem,seval,Zc] at z
 obtain ⟨⟨_,_,_,_,_,_⟩,_,hn⟩:=z
 subst hn
 have:=Zz (f.length)
 simp only[*,go_sem,seval]
 refine Ze h (fun _ h=>?_) fun _ h=>?_<;>try simp only[*,go_sem,seval]
 replace h:=Zo h G
 replace h:=Zo h t
 cases h
 simp only[*,go_sem,seval]
 refine ⟨_,[],[],(A3 h).symm,by decide,?_⟩
 simp only[*,go_sem,seval]
 rintro e ⟨sl,ob,n⟩ A _ h
 simp only[go_sem,seval,Zc] at A
 obtain ⟨⟨_,_,_,_⟩,hn⟩:=A
 subst hn
 have:=Zz (a.length)
 simp only[*,go_sem,seval]
 refine ⟨_,[],[],(A3 h).symm,by decide,?_⟩
 simp only[*,go_sem,seval]
 replace h:=Zo h t
 iterate 3 (cases h;simp only[*,go_sem,seval])
end
end Go.Proofs.YtekbmedphidcgaaGreatDoor
