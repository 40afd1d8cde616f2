/- Texts of this proof, joined: Dp8, Dp7, Dp9, Dp10, Dp11, Dp12, Dp13, Dp14, Dp15, Dp17, Dp16, Dp18, Dp19, PL, E1, P1, E2, E3. What each holds is said at its theorems. -/
import Derived.Test.YtekbmedphidcgaaGreatDoorDerivedOfQ4
import Derived.Test.YtekbmedphidcgaaGreatDoorDerivedOfQ3
import Derived.Lib.ItoaLen
import Derived.Laws.BitsLemmas
import Derived.Lib.Bytealg
set_option linter.unusedSimpArgs false
set_option linter.unusedVariables false
open Bool renaming and_eq_true→A6,false_eq_true→A7,true_and→AB,eq_iff_iff→AF,or_eq_true→AM
open ByteArray renaming size→AJ
open Go.ByteArray renaming toList_eq→AA
open Int renaming toNat_natCast→A8
open List renaming map→A0,mem_cons→A5,pairwise_cons→A9,length_cons→AC,mem_cons_of_mem→AG,getElem?_eq_some_iff→AH,foldl_cons→AK,mem_map→AL,drop_eq_nil_of_le→AO
open List.Pairwise renaming nil→AD
open Nat renaming le_trans→AI,pow_le_pow_right→AN
open Option renaming bind_some→A4
open Option.some renaming inj→A3
open UInt8 renaming ofNat→AE
open Go.Proofs.Tryz
namespace Go.Proofs.YtekbmedphidcgaaGreatDoor
section
set_option linter.unusedSimpArgs false
set_option linter.unusedVariables false
set_option maxRecDepth 1000000
set_option maxHeartbeats 4000000
theorem Zfk {append_0:Zv} {String_1:Zd} {a_2:(List Zp)} {r:((List Zp) × Bool)} (h:ZaF append_0 String_1 a_2=some r):Zl prog J0 138 [(true,Qz append_0),(true,Zq String_1),(false,[.sl 135 2 (A0 ZZ a_2)])] [(false,[(false,.sl 135 2 (A0 ZZ r.1))]),(false,[(false,.bool r.2)])]:=by
 refine fnk func138 rfl ?_
 unfold ZaF at h
 simp only[fnS,f138,Zm,go_sem,seval]
 refine Za h fun _ g h=>Zb (XL g) ?_
 simp only[*,go_sem,seval]
 refine Ze h (fun _ h=>?_) fun _ h=>?_<;>try simp only[*,go_sem,seval]
 refine Za h fun _ k h=>Zb (Zjf k) ?_
 simp only[*,go_sem,seval]
 refine Ze h (fun _ h=>?_) fun _ h=>?_<;>try simp only[*,go_sem,seval]
 refine Za h fun _ l h=>Zb (Qk l) ?_
 simp only[*,go_sem,seval]
 iterate 3 refine Ze h (fun _ h=>?_) fun _ h=>?_<;>try simp only[*,go_sem,seval]
 cases h
 simp only[*,go_sem,seval]
 refine Za h fun _ m h=>Zb (Zfq m) ?_
 simp only[*,go_sem,seval]
 refine Zh h (fun i a st=>IV [(4,.bp 0 0),(8,.p false [.row 1]),(45,.p false [.c (.sl 9 1 (A0 Zw append_0.args))]),(46,.p false [.c (.int .i64 ((append_0.args.length:Nat):Int))]),(47,.p false [.c (.int .i64 ((i:Nat):Int))])] [.box 71 [.c (.str String_1.rel),.c (.sl 9 1 (A0 Zw String_1.args))],.row 135 2 (A0 ZZ a) 2] st) [] [16,544] (by decide) ?_ ?_ ?_
 simp only[*,go_sem,seval]
 rintro _ _ a ⟨sl,ob,n⟩ _ b d o h e
 simp only[go_sem,seval,Zc] at d
 obtain ⟨⟨_,_,q,_,_⟩,_,_,hn⟩:=d
 subst hn
 have t:=WF.slotL o q (j:=0) rfl
 have:=ZB b
 have:=ZC b
 have:=Zj (ZA b) t
 simp only[*,go_sem,seval]
 refine Za h fun _ u h=>Zb (XS u) ?_
 simp only[*,go_sem,seval]
 refine Ze h (fun _ h=>?_) fun _ h=>?_<;>try simp only[*,go_sem,seval]
 obtain ⟨_,_,_,v,h⟩:=Zci h
 simp only[A8] at v
 simp only[*,go_sem,seval]
 refine Ze h (fun _ h=>?_) fun _ h=>?_<;>try simp only[*,go_sem,seval]
 refine ⟨_,[],[0,1],(A3 h).symm,by decide,?_⟩
 simp only[*,go_sem,seval]
 replace h:=Zo h e
 cases h
 simp only[*,go_sem,seval]
 obtain ⟨_,_,_,w,h⟩:=Zci h
 simp only[A8] at w
 simp only[*,go_sem,seval]
 refine Za h fun _ x h=>Zb (Zo9 x) ?_
 simp only[*,go_sem,seval]
 refine Ze h (fun _ h=>?_) fun _ h=>?_<;>try simp only[*,go_sem,seval]
 refine ⟨_,[],[0,242],(A3 h).symm,by decide,?_⟩
 simp only[*,go_sem,seval]
 replace h:=Zo h e
 cases h
 simp only[*,go_sem,seval]
 rintro a ⟨sl,ob,n⟩ f _ h
 simp only[go_sem,seval,Zc] at f
 obtain ⟨⟨_,_,_,_,_⟩,_,_,hn⟩:=f
 subst hn
 have:=Zz (append_0.args.length)
 iterate 5 (cases h;simp only[*,go_sem,seval])
theorem Zfj {x_0:Zr} {r:Bool} (h:Zdj x_0=some r):Zl prog J0 201 [(true,ZK x_0)] [(false,[(false,.bool r)])]:=by
 refine fnk func201 rfl ?_
 unfold Zdj at h
 have a:Z2 ⟨#[]⟩=true:=by decide
 simp only[fnS,f201,Zm,go_sem,seval,a]
 refine Ze h (fun _ h=>?_) fun _ h=>?_<;>try simp only[*,go_sem,seval]
 refine Za h fun _ b h=>Zb (XL b) ?_
 simp only[*,go_sem,seval]
 iterate 2 refine Ze h (fun _ h=>?_) fun _ h=>?_<;>try simp only[*,go_sem,seval]
 iterate 3 (cases h;simp only[*,go_sem,seval])
 refine Ze h (fun _ h=>?_) fun _ h=>?_<;>try simp only[*,go_sem,seval]
 refine Za h fun _ c h=>Zb (XL c) ?_
 simp only[*,go_sem,seval]
 iterate 2 refine Ze h (fun _ h=>?_) fun _ h=>?_<;>try simp only[*,go_sem,seval]
 iterate 3 (cases h;simp only[*,go_sem,seval])
 refine Ze h (fun _ h=>?_) fun _ h=>?_<;>try simp only[*,go_sem,seval]
 refine Za h fun _ d h=>Zb (QF d) ?_
 simp only[*,go_sem,seval]
 refine Ze h (fun _ h=>?_) fun _ h=>?_<;>try simp only[*,go_sem,seval]
 refine Za h fun _ e h=>Zb (QF e) ?_
 simp only[*,go_sem,seval]
 refine Ze h (fun _ h=>?_) fun _ h=>?_<;>try simp only[*,go_sem,seval]
 refine Za h fun _ f h=>Zb (QN f) ?_
 iterate 3 (cases h;simp only[*,go_sem,seval])
 refine Ze h (fun _ h=>?_) fun _ h=>?_<;>try simp only[*,go_sem,seval]
 refine Za h fun _ g h=>Zb (QF g) ?_
 simp only[*,go_sem,seval]
 refine Ze h (fun _ h=>?_) fun _ h=>?_<;>try simp only[*,go_sem,seval]
 refine Za h fun _ i h=>Zb (QF i) ?_
 simp only[*,go_sem,seval]
 refine Ze h (fun _ h=>?_) fun _ h=>?_<;>try simp only[*,go_sem,seval]
 refine Za h fun _ j h=>Zb (QN j) ?_
 iterate 3 (cases h;simp only[*,go_sem,seval])
 refine Ze h (fun _ h=>?_) fun _ h=>?_<;>try simp only[*,go_sem,seval]
 refine Za h fun _ k h=>Zb (QF k) ?_
 simp only[*,go_sem,seval]
 refine Ze h (fun _ h=>?_) fun _ h=>?_<;>try simp only[*,go_sem,seval]
 refine Za h fun _ l h=>Zb (QF l) ?_
 simp only[*,go_sem,seval]
 refine Ze h (fun _ h=>?_) fun _ h=>?_<;>try simp only[*,go_sem,seval]
 refine Za h fun _ m h=>Zb (QN m) ?_
 iterate 4 (cases h;simp only[*,go_sem,seval])
theorem ZnM {a:(List Zd)} {f_1:Zd} {r:(List Zd)} (h:XF a f_1=some r):Zl prog J0 121 [(false,[.sl 71 2 (A0 Zq a)]),(true,Zq f_1)] [(false,[(false,.sl 71 2 (A0 Zq r))])]:=by
 refine fnk func121 rfl ?_
 unfold XF at h
 simp only[fnS,f121,Zm,go_sem,seval]
 refine Zh h (fun i s st=>match s with | (b,d)=>IV [(3,.bp 0 0),(5,.p false [.row 1]),(6,.p false [.c (.bool d)]),(9,.p false [.c (.sl 71 2 (A0 Zq a))]),(10,.p false [.c (.int .i64 ((a.length:Nat):Int))]),(11,.p false [.c (.int .i64 ((i:Nat):Int))])] [.box 71 [.c (.str f_1.rel),.c (.sl 9 1 (A0 Zw f_1.args))],.row 71 2 (A0 Zq b) 2] st) [(false,5,0)] [0,112] (by decide) ?_ ?_ ?_
 simp only[*,go_sem,seval]
 rintro _ _ ⟨b,d⟩ ⟨sl,ob,n⟩ _ e f l h _
 simp only[go_sem,seval,Zc] at f
 obtain ⟨⟨_,_,_,m,_,_⟩,_,_,hn⟩:=f
 subst hn
 have o:=WF.slotL l m (j:=0) rfl
 have:=ZB e
 have:=ZC e
 have:=Zj (ZA e) o
 simp only[*,go_sem,seval]
 refine Ze h (fun _ h=>?_) fun _ h=>?_<;>try simp only[*,go_sem,seval]
 refine Za h fun _ q h=>Zb (YC q) ?_
 obtain ⟨t,h⟩:=Zs h
 try simp only[Nat.reduceLeDiff] at t
 simp only[*,go_sem,seval]
 refine ⟨_,[],[0,274],(A3 h).symm,by decide,?_⟩
 simp only[*,go_sem,seval]
 refine Za h fun _ u h=>Zb (Zdp u) ?_
 simp only[*,go_sem,seval]
 refine Ze h (fun _ h=>?_) fun _ h=>?_<;>try simp only[*,go_sem,seval]
 refine Za h fun _ v h=>Zb (YC v) ?_
 obtain ⟨w,h⟩:=Zs h
 try simp only[Nat.reduceLeDiff] at w
 simp only[*,go_sem,seval]
 refine Za h fun _ x h=>Zb (YC x) ?_
 obtain ⟨y,h⟩:=Zs h
 try simp only[Nat.reduceLeDiff] at y
 simp only[*,go_sem,seval]
 refine ⟨_,[],[0,386],(A3 h).symm,by decide,?_⟩
 simp only[*,go_sem,seval]
 refine Za h fun _ z h=>Zb (YC z) ?_
 obtain ⟨A,h⟩:=Zs h
 try simp only[Nat.reduceLeDiff] at A
 simp only[*,go_sem,seval]
 refine ⟨_,[],[0,274],(A3 h).symm,by decide,?_⟩
 simp only[*,go_sem,seval]
 rintro ⟨b,d⟩ ⟨sl,ob,n⟩ g _ h
 simp only[go_sem,seval,Zc] at g
 obtain ⟨⟨_,_,_,_,_,_⟩,_,_,hn⟩:=g
 subst hn
 have:=Zz (a.length)
 simp only[*,go_sem,seval]
 refine Ze h (fun _ h=>?_) fun _ h=>?_<;>try simp only[*,go_sem,seval]
 cases h
 simp only[*,go_sem,seval]
 refine Za h fun _ B h=>Zb (YC B) ?_
 obtain ⟨C,h⟩:=Zs h
 try simp only[Nat.reduceLeDiff] at C
 cases h
 simp only[*,go_sem,seval]
theorem ZdP {p_0:Zv} {b_1:(List Zp)} {r:(Zd × Bool)} (h:XZ p_0 b_1=some r):Zl prog J0 174 [(true,Qz p_0),(false,[.sl 135 2 (A0 ZZ b_1)])] [(true,[(false,.str r.1.rel),(false,.sl 9 1 (A0 Zw r.1.args))]),(false,[(false,.bool r.2)])]:=by
 refine fnk func174 rfl ?_
 unfold XZ at h
 simp only[fnS,f174,Zm,go_sem,seval]
 refine Za h fun _ f h=>Zb (XL f) ?_
 simp only[*,go_sem,seval]
 refine Ze h (fun _ h=>?_) fun _ h=>?_<;>try simp only[*,go_sem,seval]
 refine Za h fun _ g h=>Zb (Qk g) ?_
 simp only[*,go_sem,seval]
 refine Ze h (fun _ h=>?_) fun _ h=>?_<;>try simp only[*,go_sem,seval]
 refine Zh h (fun i a st=>IV [(1,.p false [.c (.sl 135 2 (A0 ZZ b_1))]),(4,.bp 0 0),(6,.bp 1 0),(24,.p false [.c (.sl 9 1 (A0 Zw p_0.args))]),(25,.p false [.c (.int .i64 ((p_0.args.length:Nat):Int))]),(26,.p false [.c (.int .i64 ((i:Nat):Int))])] [.box 71 [.c (.str ⟨#[]⟩),.nil 9 1],.box 71 [.c (.str p_0.rel),.row 2],.row 9 1 (A0 Zw a) 2] st) [(true,224,1)] [16,224,320] (by decide) ?_ ?_ ?_
 simp only[*,go_sem,seval]
 rintro _ _ a ⟨sl,ob,n⟩ _ b d k h l
 simp only[go_sem,seval,Zc] at d
 obtain ⟨⟨_,_,_,m,_,_⟩,_,_,_,hn⟩:=d
 subst hn
 have o:=WF.slotL k m (j:=0) rfl
 have:=ZB b
 have:=ZC b
 have:=Zj (ZA b) o
 simp only[*,go_sem,seval]
 refine Za h fun _ q h=>Zb (Zcn q) ?_
 simp only[*,go_sem,seval]
 refine Ze h (fun _ h=>?_) fun _ h=>?_<;>try simp only[*,go_sem,seval]
 obtain ⟨t,h⟩:=Zs h
 try simp only[Nat.reduceLeDiff] at t
 simp only[*,go_sem,seval]
 refine ⟨_,[],[0,1,291],(A3 h).symm,by decide,?_⟩
 simp only[*,go_sem,seval]
 replace h:=Zo h l
 cases h
 simp only[*,go_sem,seval]
 rintro a ⟨sl,ob,n⟩ e _ h
 simp only[go_sem,seval,Zc] at e
 obtain ⟨⟨_,_,_,_,_,_⟩,_,_,_,hn⟩:=e
 subst hn
 have:=Zz (p_0.args.length)
 iterate 3 (cases h;simp only[*,go_sem,seval])
theorem Zfo {r_0:Zf} {k_1:Int} {v_2:ByteArray} {r:Bool} (h:Xm r_0 k_1 v_2=some r):Zl prog J0 256 [(true,ZG r_0),(false,[.int .i64 k_1]),(false,[.str v_2])] [(false,[(false,.bool r)])]:=by
 refine fnk func256 rfl ?_
 unfold Xm at h
 simp only[fnS,f256,Zm,go_sem,seval]
 refine Zh h (fun i _ st=>IV [(1,.p false [.c (.int .i64 k_1)]),(2,.p false [.c (.str v_2)]),(3,.bp 0 0),(12,.p false [.c (.sl 60 5 (A0 ZK r_0.cond))]),(13,.p false [.c (.int .i64 ((r_0.cond.length:Nat):Int))]),(14,.p false [.c (.int .i64 ((i:Nat):Int))])] [.box 104 [.c (.str r_0.name),.c (.int .i64 r_0.priority),.c (.sl 60 5 (A0 ZK r_0.cond)),.c (.sl 166 3 (A0 ZD r_0.thn))]] st) [] [0] (by decide) ?_ ?_ ?_
 simp only[*,go_sem,seval]
 rintro _ _ ⟨⟩ ⟨sl,ob,n⟩ _ a d k h l
 simp only[go_sem,seval,Zc] at d
 obtain ⟨⟨_,_,_,m,_,_⟩,_,hn⟩:=d
 subst hn
 have o:=WF.slotL k m (j:=0) rfl
 have:=ZB a
 have:=ZC a
 have:=Zj (ZA a) o
 simp only[*,go_sem,seval]
 refine Ze h (fun _ h=>?_) fun _ h=>?_<;>try simp only[*,go_sem,seval]
 refine Za h fun _ q h=>Zb (ZbA q) ?_
 simp only[*,go_sem,seval]
 refine Za h fun _ t h=>Zb (QT t) ?_
 simp only[*,go_sem,seval]
 refine Ze h (fun _ h=>?_) fun _ h=>?_<;>try simp only[*,go_sem,seval]
 replace h:=Zo h l
 cases h
 simp only[*,go_sem,seval]
 refine ⟨_,[],[0],(A3 h).symm,by decide,?_⟩
 simp only[*,go_sem,seval]
 refine ⟨_,[],[0],(A3 h).symm,by decide,?_⟩
 simp only[*,go_sem,seval]
 rintro ⟨⟩ ⟨sl,ob,n⟩ e _ h
 simp only[go_sem,seval,Zc] at e
 obtain ⟨⟨_,_,_,_,_,_⟩,_,hn⟩:=e
 subst hn
 have:=Zz (r_0.cond.length)
 simp only[*,go_sem,seval]
 refine Zh h (fun i _ st=>IV [(2,.p false [.c (.str v_2)]),(30,.p false [.c (.sl 166 3 (A0 ZD r_0.thn))]),(31,.p false [.c (.int .i64 ((r_0.thn.length:Nat):Int))]),(32,.p false [.c (.int .i64 ((i:Nat):Int))])] [] st) [] [] (by decide) ?_ ?_ ?_
 simp only[*,go_sem,seval]
 rintro _ _ ⟨⟩ ⟨sl,ob,n⟩ _ b f u h v
 simp only[go_sem,seval,Zc] at f
 obtain ⟨⟨_,w,_,_⟩,hn⟩:=f
 subst hn
 have x:=WF.slotL u w (j:=0) rfl
 have:=ZB b
 have:=ZC b
 have:=Zj (ZA b) x
 simp only[*,go_sem,seval]
 refine Za h fun _ y h=>Zb (QT y) ?_
 simp only[*,go_sem,seval]
 refine Ze h (fun _ h=>?_) fun _ h=>?_<;>try simp only[*,go_sem,seval]
 replace h:=Zo h v
 cases h
 simp only[*,go_sem,seval]
 refine ⟨_,[],[],(A3 h).symm,by decide,?_⟩
 simp only[*,go_sem,seval]
 rintro ⟨⟩ ⟨sl,ob,n⟩ g _ h
 simp only[go_sem,seval,Zc] at g
 obtain ⟨⟨_,_,_,_⟩,hn⟩:=g
 subst hn
 have:=Zz (r_0.thn.length)
 cases h
 simp only[*,go_sem,seval]
theorem Zl0 {a_0:Zx} {r:Bool} (h:Zc5 a_0=some r):Zl prog J0 204 [(true,ZD a_0)] [(false,[(false,.bool r)])]:=by
 refine fnk func204 rfl ?_
 unfold Zc5 at h
 simp only[fnS,f204,Zm,go_sem,seval]
 refine Ze h (fun _ h=>?_) fun _ h=>?_<;>try simp only[*,go_sem,seval]
 refine Za h fun _ a h=>Zb (XL a) ?_
 cases h
 simp only[*,go_sem,seval]
 refine Ze h (fun _ h=>?_) fun _ h=>?_<;>try simp only[*,go_sem,seval]
 refine Za h fun _ b h=>Zb (XL b) ?_
 cases h
 simp only[*,go_sem,seval]
 refine Ze h (fun _ h=>?_) fun _ h=>?_<;>try simp only[*,go_sem,seval]
 refine Za h fun _ c h=>Zb (QN c) ?_
 iterate 2 (cases h;simp only[*,go_sem,seval])
theorem Zjn {l_0:(List Zr)} {r:(List ByteArray)} (h:Za4 l_0=some r):Zl prog J0 208 [(false,[.sl 60 5 (A0 ZK l_0)])] [(false,[(false,.sl 9 1 (A0 Zw r))])]:=by
 refine fnk func208 rfl ?_
 unfold Za4 at h
 simp only[fnS,f208,Zm,go_sem,seval]
 refine Zh h (fun i a st=>IV [(3,.p false [.row 0]),(6,.p false [.c (.sl 60 5 (A0 ZK l_0))]),(7,.p false [.c (.int .i64 ((l_0.length:Nat):Int))]),(8,.p false [.c (.int .i64 ((i:Nat):Int))])] [.row 9 1 (A0 Zw a) 2] st) [(false,3,0)] [80] (by decide) ?_ ?_ ?_
 simp only[*,go_sem,seval]
 rintro _ _ a ⟨sl,ob,n⟩ _ b d f h _
 simp only[go_sem,seval,Zc] at d
 obtain ⟨⟨_,g,_,_⟩,_,hn⟩:=d
 subst hn
 have k:=WF.slotL f g (j:=0) rfl
 have:=ZB b
 have:=ZC b
 have:=Zj (ZA b) k
 simp only[*,go_sem,seval]
 refine Za h fun _ l h=>Zb (ZbA l) ?_
 obtain ⟨_,h⟩:=Zs h
 simp only[*,go_sem,seval]
 refine ⟨_,[],[129],(A3 h).symm,by decide,?_⟩
 simp only[*,go_sem,seval]
 rintro a ⟨sl,ob,n⟩ e _ h
 simp only[go_sem,seval,Zc] at e
 obtain ⟨⟨_,_,_,_⟩,_,hn⟩:=e
 subst hn
 have:=Zz (l_0.length)
 cases h
 simp only[*,go_sem,seval]
theorem ZlA {l_0:(List Zd)} {r:Bool} (h:ZcA l_0=some r):Zl prog J0 235 [(false,[.sl 71 2 (A0 Zq l_0)])] [(false,[(false,.bool r)])]:=by
 refine fnk func235 rfl ?_
 unfold ZcA at h
 simp only[fnS,f235,Zm,go_sem,seval]
 refine Ze h (fun _ h=>?_) fun _ h=>?_<;>try simp only[*,go_sem,seval]
 cases h
 simp only[*,go_sem,seval]
 refine Zh h (fun i _ st=>IV [(0,.p false [.c (.sl 71 2 (A0 Zq l_0))]),(8,.p false [.c (.sl 71 2 (A0 Zq l_0))]),(9,.p false [.c (.int .i64 ((l_0.length:Nat):Int))]),(10,.p false [.c (.int .i64 ((i:Nat):Int))])] [] st) [] [] (by decide) ?_ ?_ ?_
 simp only[*,go_sem,seval]
 rintro _ _ ⟨⟩ ⟨sl,ob,n⟩ _ a b f h d
 simp only[go_sem,seval,Zc] at b
 obtain ⟨⟨g,_,_,_⟩,hn⟩:=b
 subst hn
 have k:=WF.slotL f g (j:=0) rfl
 have:=ZB a
 have:=ZC a
 have:=Zj (ZA a) k
 simp only[*,go_sem,seval]
 refine Za h fun _ l h=>Zb (Zjf l) ?_
 simp only[*,go_sem,seval]
 iterate 2 refine Ze h (fun _ h=>?_) fun _ h=>?_<;>try simp only[*,go_sem,seval]
 obtain ⟨_,_,_,_,h⟩:=Zci h
 simp only[*,go_sem,seval]
 refine Za h fun _ m h=>Zb (Zdp m) ?_
 simp only[*,go_sem,seval]
 refine Ze h (fun _ h=>?_) fun _ h=>?_<;>try simp only[*,go_sem,seval]
 replace h:=Zo h d
 cases h
 simp only[*,go_sem,seval]
 refine ⟨_,[],[],(A3 h).symm,by decide,?_⟩
 simp only[*,go_sem,seval]
 refine ⟨_,[],[],(A3 h).symm,by decide,?_⟩
 simp only[*,go_sem,seval]
 replace h:=Zo h d
 cases h
 simp only[*,go_sem,seval]
 rintro ⟨⟩ ⟨sl,ob,n⟩ e _ h
 simp only[go_sem,seval,Zc] at e
 obtain ⟨⟨_,_,_,_⟩,hn⟩:=e
 subst hn
 have:=Zz (l_0.length)
 cases h
 simp only[*,go_sem,seval]
theorem Y3 {p_0:Zv} {r:Bool} (h:YD p_0=some r):Zl prog J0 157 [(true,Qz p_0)] [(false,[(false,.bool r)])]:=by
 refine fnk func157 rfl ?_
 unfold YD at h
 simp only[fnS,f157,Zm,go_sem,seval]
 refine Zh h (fun i _ st=>IV [(1,.bp 0 0),(3,.p false [.c (.int .i64 ((i:Nat):Int))])] [.box 58 [.c (.str p_0.rel),.c (.sl 9 1 (A0 Zw p_0.args))]] st) [] [0] (by decide) ?_ ?_ ?_
 simp only[*,go_sem,seval]
 rintro _ _ ⟨⟩ ⟨sl,ob,n⟩ _ a b e h f
 simp only[go_sem,seval,Zc] at b
 obtain ⟨⟨_,_⟩,g,hn⟩:=b
 subst hn
 have k:=WF.boxL e g (j:=1) rfl
 have:=ZB a
 have:=ZC a
 have:=Zj (ZA a) k
 simp only[*,go_sem,seval]
 refine Za h fun _ l h=>Zb (Qp l) ?_
 simp only[*,go_sem,seval]
 refine Ze h (fun _ h=>?_) fun _ h=>?_<;>try simp only[*,go_sem,seval]
 refine ⟨_,[],[0],(A3 h).symm,by decide,?_⟩
 simp only[*,go_sem,seval]
 replace h:=Zo h f
 cases h
 simp only[*,go_sem,seval]
 rintro ⟨⟩ ⟨sl,ob,n⟩ d _ h
 simp only[go_sem,seval,Zc] at d
 obtain ⟨⟨_,_⟩,_,hn⟩:=d
 subst hn
 have:=Zz (p_0.args.length)
 simp only[*,go_sem,seval]
 refine Za h fun _ m h=>Zb (ZfW m) ?_
 simp only[*,go_sem,seval]
 refine Ze h (fun _ h=>?_) fun _ h=>?_<;>try simp only[*,go_sem,seval]
 iterate 2 (cases h;simp only[*,go_sem,seval])
theorem ZaS {r_0:Zf} {n_1:Int} {r:(List ByteArray)} (h:XT r_0 n_1=some r):Zl prog J0 149 [(true,ZG r_0),(false,[.int .i64 n_1])] [(false,[(false,.sl 9 1 (A0 Zw r))])]:=by
 refine fnk func149 rfl ?_
 unfold XT at h
 simp only[fnS,f149,Zm,go_sem,seval]
 refine Zh h (fun i a st=>IV [(1,.p false [.c (.int .i64 n_1)]),(2,.bp 0 0),(5,.p false [.row 1]),(6,.p false [.c (.int .i64 ((i:Nat):Int))])] [.box 104 [.c (.str r_0.name),.c (.int .i64 r_0.priority),.c (.sl 60 5 (A0 ZK r_0.cond)),.c (.sl 166 3 (A0 ZD r_0.thn))],.row 9 1 (A0 Zw a) 2] st) [] [0,32] (by decide) ?_ ?_ ?_
 simp only[*,go_sem,seval]
 rintro b _ a ⟨sl,ob,n⟩ _ d g q h t
 simp only[go_sem,seval,Zc] at g
 obtain ⟨⟨_,_,_,_⟩,u,_,hn⟩:=g
 subst hn
 have v:=WF.boxL q u (j:=2) rfl
 have:=ZB d
 have:=ZC d
 have:=Zj (ZA d) v
 simp only[*,go_sem,seval]
 iterate 2 refine Ze h (fun _ h=>?_) fun _ h=>?_<;>try simp only[*,go_sem,seval]
 refine Za h fun k w h=>Zb (ZbQ w) ?_
 simp only[*,go_sem,seval]
 refine Zh h (fun i e st=>IV [(1,.p false [.c (.int .i64 n_1)]),(2,.bp 0 0),(5,.p false [.row 1]),(6,.p false [.c (.int .i64 ((b:Nat):Int))]),(7,.p false [.row 2]),(8,.p false [.c (.int .i64 ((i:Nat):Int))]),(16,.p false [.c (.int .i64 ((b:Nat):Int))]),(17,.p false [.c (.int .i64 n_1)]),(18,.p false [.c (.bool (decide (((b:Nat):Int)<n_1)))])] [.box 104 [.c (.str r_0.name),.c (.int .i64 r_0.priority),.c (.sl 60 5 (A0 ZK r_0.cond)),.c (.sl 166 3 (A0 ZD r_0.thn))],.row 9 1 (A0 Zw e) 2,.row 9 1 (A0 Zw k) 2] st) [] [0,1,370] (by decide) ?_ ?_ ?_
 simp only[*,go_sem,seval]
 rintro _ _ e ⟨sl,ob,n⟩ _ f l x h _
 simp only[go_sem,seval,Zc] at l
 obtain ⟨⟨_,_,_,_,_,_,_,_,_⟩,_,_,y,hn⟩:=l
 subst hn
 have z:=WF.rowL x y
 have:=ZB f
 have:=ZC f
 have:=Zj (ZA f) z
 simp only[*,go_sem,seval]
 refine Za h fun _ A h=>Zb (Y1 A) ?_
 simp only[*,go_sem,seval]
 refine ⟨_,[],[0,147,2],(A3 h).symm,by decide,?_⟩
 simp only[*,go_sem,seval]
 rintro e ⟨sl,ob,n⟩ m _ h
 simp only[go_sem,seval,Zc] at m
 obtain ⟨⟨_,_,_,_,_,_,_,_,_⟩,_,_,_,hn⟩:=m
 subst hn
 have:=Zz (k.length)
 simp only[*,go_sem,seval]
 refine ⟨_,[],[0,1],(A3 h).symm,by decide,?_⟩
 simp only[*,go_sem,seval]
 refine ⟨_,[],[0,1],(A3 h).symm,by decide,?_⟩
 simp only[*,go_sem,seval]
 replace h:=Zo h t
 cases h
 simp only[*,go_sem,seval]
 rintro a ⟨sl,ob,n⟩ o _ h
 simp only[go_sem,seval,Zc] at o
 obtain ⟨⟨_,_,_,_⟩,_,_,hn⟩:=o
 subst hn
 have:=Zz (r_0.cond.length)
 cases h
 simp only[*,go_sem,seval]
theorem Q7 {x_0:Zr} {r:(List ByteArray)} (h:Xz x_0=some r):Zl prog J0 150 [(true,ZK x_0)] [(false,[(false,.sl 9 1 (A0 Zw r))])]:=by
 refine fnk func150 rfl ?_
 unfold Xz at h
 simp only[fnS,f150,Zm,go_sem,seval]
 refine Za h fun _ a h=>Zb (ZbQ a) ?_
 simp only[*,go_sem,seval]
 refine Za h fun _ b h=>Zb (Qq b) ?_
 simp only[*,go_sem,seval]
 refine Ze h (fun _ h=>?_) fun _ h=>?_<;>try simp only[*,go_sem,seval]
 refine Za h fun _ c h=>Zb (Y1 c) ?_
 simp only[*,go_sem,seval]
 refine Za h fun _ d h=>Zb (Qq d) ?_
 simp only[*,go_sem,seval]
 refine Ze h (fun _ h=>?_) fun _ h=>?_<;>try simp only[*,go_sem,seval]
 refine Za h fun _ e h=>Zb (Y1 e) ?_
 iterate 2 (cases h;simp only[*,go_sem,seval])
 refine Za h fun _ f h=>Zb (Qq f) ?_
 simp only[*,go_sem,seval]
 refine Ze h (fun _ h=>?_) fun _ h=>?_<;>try simp only[*,go_sem,seval]
 refine Za h fun _ g h=>Zb (Y1 g) ?_
 iterate 2 (cases h;simp only[*,go_sem,seval])
theorem Zdi {a:(List Zd)} {f_1:Zd} {r:(List Zd)} (h:YI a f_1=some r):Zl prog J0 117 [(false,[.sl 71 2 (A0 Zq a)]),(true,Zq f_1)] [(false,[(false,.sl 71 2 (A0 Zq r))])]:=by
 refine fnk func117 rfl ?_
 unfold YI at h
 simp only[fnS,f117,Zm,go_sem,seval]
 refine Zh h (fun i s st=>match s with | (b,d)=>IV [(0,.p false [.c (.sl 71 2 (A0 Zq a))]),(3,.bp 0 0),(5,.p false [.row 1]),(6,.p false [.c (.bool d)]),(7,.p false [.c (.int .i64 ((i:Nat):Int))])] [.box 71 [.c (.str f_1.rel),.c (.sl 9 1 (A0 Zw f_1.args))],.row 71 2 (A0 Zq b) 2] st) [] [0,32] (by decide) ?_ ?_ ?_
 simp only[*,go_sem,seval]
 rintro _ _ ⟨b,d⟩ ⟨sl,ob,n⟩ _ e f k h _
 simp only[go_sem,seval,Zc] at f
 obtain ⟨⟨l,_,_,_,_⟩,_,_,hn⟩:=f
 subst hn
 have m:=WF.slotL k l (j:=0) rfl
 have:=ZB e
 have:=ZC e
 have:=Zj (ZA e) m
 simp only[*,go_sem,seval]
 refine Ze h (fun _ h=>?_) fun _ h=>?_<;>try simp only[*,go_sem,seval]
 refine Za h fun _ o h=>Zb (Xr o) ?_
 obtain ⟨q,h⟩:=Zs h
 try simp only[Nat.reduceLeDiff] at q
 simp only[*,go_sem,seval]
 refine ⟨_,[],[0,354],(A3 h).symm,by decide,?_⟩
 simp only[*,go_sem,seval]
 refine Za h fun _ t h=>Zb (Za3 t) ?_
 simp only[*,go_sem,seval]
 refine Ze h (fun _ h=>?_) fun _ h=>?_<;>try simp only[*,go_sem,seval]
 refine Za h fun _ u h=>Zb (Za3 u) ?_
 simp only[*,go_sem,seval]
 refine Ze h (fun _ h=>?_) fun _ h=>?_<;>try simp only[*,go_sem,seval]
 refine Za h fun _ v h=>Zb (Xr v) ?_
 obtain ⟨w,h⟩:=Zs h
 try simp only[Nat.reduceLeDiff] at w
 simp only[*,go_sem,seval]
 refine Za h fun _ x h=>Zb (Xr x) ?_
 obtain ⟨y,h⟩:=Zs h
 try simp only[Nat.reduceLeDiff] at y
 simp only[*,go_sem,seval]
 refine ⟨_,[],[0,578],(A3 h).symm,by decide,?_⟩
 simp only[*,go_sem,seval]
 refine Za h fun _ z h=>Zb (Xr z) ?_
 obtain ⟨A,h⟩:=Zs h
 try simp only[Nat.reduceLeDiff] at A
 simp only[*,go_sem,seval]
 refine ⟨_,[],[0,482],(A3 h).symm,by decide,?_⟩
 simp only[*,go_sem,seval]
 refine Za h fun _ B h=>Zb (Xr B) ?_
 obtain ⟨C,h⟩:=Zs h
 try simp only[Nat.reduceLeDiff] at C
 simp only[*,go_sem,seval]
 refine ⟨_,[],[0,354],(A3 h).symm,by decide,?_⟩
 simp only[*,go_sem,seval]
 rintro ⟨b,d⟩ ⟨sl,ob,n⟩ g _ h
 simp only[go_sem,seval,Zc] at g
 obtain ⟨⟨_,_,_,_,_⟩,_,_,hn⟩:=g
 subst hn
 have:=Zz (a.length)
 simp only[*,go_sem,seval]
 refine Ze h (fun _ h=>?_) fun _ h=>?_<;>try simp only[*,go_sem,seval]
 cases h
 simp only[*,go_sem,seval]
 refine Za h fun _ D h=>Zb (Xr D) ?_
 obtain ⟨E,h⟩:=Zs h
 try simp only[Nat.reduceLeDiff] at E
 cases h
 simp only[*,go_sem,seval]
end
section
set_option linter.unusedSimpArgs false
set_option linter.unusedVariables false
set_option maxRecDepth 1000000
set_option maxHeartbeats 4000000
theorem ZEt {b_0:Zu} {r:Bool} (h:ZDG b_0=some r):Zl prog J0 265 [(true,Qw b_0)] [(false,[(false,.bool r)])]:=by
 refine fnk func265 rfl ?_
 unfold ZDG at h
 simp only[fnS,f265,Zm,go_sem,seval]
 refine Za h fun _ o h=>Zb (ZF7 o) ?_
 simp only[*,go_sem,seval]
 refine Ze h (fun _ h=>?_) fun _ h=>?_<;>try simp only[*,go_sem,seval]
 refine Zh h (fun i _ st=>IV [(1,.bp 0 0),(3,.p false [.c (.int .i64 ((i:Nat):Int))])] [.box 91 [.c (.int .i64 b_0.nodes),.c (.sl 144 3 (A0 ZL b_0.reasons))]] st) [] [0] (by decide) ?_ ?_ ?_
 simp only[*,go_sem,seval]
 rintro q d ⟨⟩ ⟨sl,ob,n⟩ _ a e t h f
 simp only[go_sem,seval,Zc] at e
 obtain ⟨⟨_,_⟩,u,hn⟩:=e
 subst hn
 have v:=WF.boxL t u (j:=1) rfl
 have:=ZB a
 have:=ZC a
 have:=Zj (ZA a) v
 simp only[*,go_sem,seval]
 refine Zh h (fun i _ st=>IV [(1,.bp 0 0),(3,.p false [.c (.int .i64 ((q:Nat):Int))]),(4,.p false [.c (.int .i64 d.for_)]),(5,.p false [.c (.int .i64 ((i:Nat):Int))])] [.box 91 [.c (.int .i64 b_0.nodes),.c (.sl 144 3 (A0 ZL b_0.reasons))]] st) [] [0] (by decide) ?_ ?_ ?_
 simp only[*,go_sem,seval]
 rintro _ _ ⟨⟩ ⟨sl,ob,n⟩ _ b g w h k
 simp only[go_sem,seval,Zc] at g
 obtain ⟨⟨_,_,_,_⟩,x,hn⟩:=g
 subst hn
 have y:=WF.elL (WF.boxD w x (j:=1) rfl) a (j:=2) rfl
 have:=ZB b
 have:=ZC b
 have:=Zj (ZA b) y
 simp only[*,go_sem,seval]
 refine Ze h (fun _ h=>?_) fun _ h=>?_<;>try simp only[*,go_sem,seval]
 replace h:=Zo h k
 replace h:=Zo h f
 cases h
 simp only[*,go_sem,seval]
 refine Za h fun _ z h=>Zb (ZGl z) ?_
 obtain ⟨_,h⟩:=Zs h
 obtain ⟨_,_,h⟩:=ZJ h
 simp only[*,go_sem,seval]
 refine Ze h (fun _ h=>?_) fun _ h=>?_<;>try simp only[*,go_sem,seval]
 replace h:=Zo h k
 replace h:=Zo h f
 cases h
 simp only[*,go_sem,seval]
 refine ⟨_,[],[0],(A3 h).symm,by decide,?_⟩
 simp only[*,go_sem,seval]
 rintro ⟨⟩ ⟨sl,ob,n⟩ l _ h
 simp only[go_sem,seval,Zc] at l
 obtain ⟨⟨_,_,_,_⟩,_,hn⟩:=l
 subst hn
 have:=Zz (d.outs.length)
 simp only[*,go_sem,seval]
 refine ⟨_,[],[0],(A3 h).symm,by decide,?_⟩
 simp only[*,go_sem,seval]
 rintro ⟨⟩ ⟨sl,ob,n⟩ m _ h
 simp only[go_sem,seval,Zc] at m
 obtain ⟨⟨_,_⟩,_,hn⟩:=m
 subst hn
 have:=Zz (b_0.reasons.length)
 iterate 2 (cases h;simp only[*,go_sem,seval])
end
section
set_option linter.unusedSimpArgs false
set_option linter.unusedVariables false
set_option maxRecDepth 1000000
set_option maxHeartbeats 4000000
theorem ZlI {l_0:(List Zd)} {r:Bool} (h:Zdd l_0=some r):Zl prog J0 112 [(false,[.sl 71 2 (A0 Zq l_0)])] [(false,[(false,.bool r)])]:=by
 refine fnk func112 rfl ?_
 unfold Zdd at h
 simp only[fnS,f112,Zm,go_sem,seval]
 refine Zh h (fun i _ st=>IV [(0,.p false [.c (.sl 71 2 (A0 Zq l_0))]),(3,.p false [.c (.int .i64 ((i:Nat):Int))])] [] st) [] [] (by decide) ?_ ?_ ?_
 simp only[*,go_sem,seval]
 rintro _ _ ⟨⟩ ⟨sl,ob,n⟩ _ a b f h d
 simp only[go_sem,seval,Zc] at b
 obtain ⟨⟨g,_⟩,hn⟩:=b
 subst hn
 have k:=WF.slotL f g (j:=0) rfl
 have:=ZB a
 have:=ZC a
 have:=Zj (ZA a) k
 simp only[*,go_sem,seval]
 refine Za h fun _ l h=>Zb (Zjg l) ?_
 simp only[*,go_sem,seval]
 iterate 2 refine Ze h (fun _ h=>?_) fun _ h=>?_<;>try simp only[*,go_sem,seval]
 obtain ⟨_,_,_,_,h⟩:=Zci h
 simp only[*,go_sem,seval]
 refine Za h fun _ m h=>Zb (Za3 m) ?_
 simp only[*,go_sem,seval]
 refine Ze h (fun _ h=>?_) fun _ h=>?_<;>try simp only[*,go_sem,seval]
 replace h:=Zo h d
 cases h
 simp only[*,go_sem,seval]
 refine ⟨_,[],[],(A3 h).symm,by decide,?_⟩
 simp only[*,go_sem,seval]
 refine ⟨_,[],[],(A3 h).symm,by decide,?_⟩
 simp only[*,go_sem,seval]
 replace h:=Zo h d
 cases h
 simp only[*,go_sem,seval]
 rintro ⟨⟩ ⟨sl,ob,n⟩ e _ h
 simp only[go_sem,seval,Zc] at e
 obtain ⟨⟨_,_⟩,hn⟩:=e
 subst hn
 have:=Zz (l_0.length)
 cases h
 simp only[*,go_sem,seval]
theorem ZoM {b_0:(List Zp)} {v_1:ByteArray} {value_2:ByteArray} {r:((List Zp) × Bool)} (h:Zfm b_0 v_1 value_2=some r):Zl prog J0 226 [(false,[.sl 135 2 (A0 ZZ b_0)]),(false,[.str v_1]),(false,[.str value_2])] [(false,[(false,.sl 135 2 (A0 ZZ r.1))]),(false,[(false,.bool r.2)])]:=by
 refine fnk func226 rfl ?_
 unfold Zfm at h
 simp only[fnS,f226,Zm,go_sem,seval]
 refine Za h fun _ a h=>Zb (Qy a) ?_
 simp only[*,go_sem,seval]
 refine Ze h (fun _ h=>?_) fun _ h=>?_<;>try simp only[*,go_sem,seval]
 refine Za h fun _ b h=>Zb (Qq b) ?_
 simp only[*,go_sem,seval]
 refine Ze h (fun _ h=>?_) fun _ h=>?_<;>try simp only[*,go_sem,seval]
 refine Za h fun _ c h=>Zb (XR c) ?_
 simp only[*,go_sem,seval]
 refine Ze h (fun _ h=>?_) fun _ h=>?_<;>try simp only[*,go_sem,seval]
 refine Za h fun _ d h=>Zb (Zcl d) ?_
 simp only[*,go_sem,seval]
 iterate 2 refine Ze h (fun _ h=>?_) fun _ h=>?_<;>try simp only[*,go_sem,seval]
 refine Za h fun _ e h=>Zb (Zf8 e) ?_
 iterate 2 (cases h;simp only[*,go_sem,seval])
 refine Ze h (fun _ h=>?_) fun _ h=>?_<;>try simp only[*,go_sem,seval]
 cases h
 simp only[*,go_sem,seval]
 refine Za h fun _ f h=>Zb (Zqy f) ?_
 iterate 4 (cases h;simp only[*,go_sem,seval])
theorem ZGr {b:Zu} {r:(List Int)} (h:ZEq b=some r):Zl prog J0 266 [(true,Qw b)] [(false,[(false,.sl 3 1 (A0 Z5 r))])]:=by
 refine fnk func266 rfl ?_
 unfold ZEq at h
 simp only[fnS,f266,Zm,go_sem,seval]
 refine Za h fun _ B h=>Zb (ZEt B) ?_
 simp only[*,go_sem,seval]
 refine Ze h (fun _ h=>?_) fun _ h=>?_<;>try simp only[*,go_sem,seval]
 obtain ⟨_,h⟩:=Zs h
 simp only[*,go_sem,seval]
 refine XH h (fun s st=>match s with | (q,e)=>IV [(1,.bp 0 0),(3,.p false [.row 1]),(4,.p false [.c (.int .i64 e)])] [.box 91 [.c (.int .i64 b.nodes),.c (.sl 144 3 (A0 ZL b.reasons))],.row 3 1 (A0 Z5 q) 2] st) [] [0,112] (by decide) ?_ ?_
 simp only[*,go_sem,seval]
 rintro ⟨q,e⟩ ⟨sl,ob,n⟩ _ t _ h C
 simp only[go_sem,seval,Zc] at t
 obtain ⟨⟨_,_,_⟩,_,_,hn⟩:=t
 subst hn
 simp only[*,go_sem,seval]
 refine Ze h (fun _ h=>?_) fun _ h=>?_<;>try simp only[*,go_sem,seval]
 refine Zh h (fun i f st=>IV [(1,.bp 0 0),(3,.p false [.row 1]),(4,.p false [.c (.int .i64 e)]),(5,.p false [.c (.int .i64 ((i:Nat):Int))])] [.box 91 [.c (.int .i64 b.nodes),.c (.sl 144 3 (A0 ZL b.reasons))],.row 3 1 (A0 Z5 f) 2] st) [] [0,1] (by decide) ?_ ?_ ?_
 simp only[*,go_sem,seval]
 rintro u d f ⟨sl,ob,n⟩ _ g v D h _
 simp only[go_sem,seval,Zc] at v
 obtain ⟨⟨_,_,_,_⟩,E,_,hn⟩:=v
 subst hn
 have F:=WF.boxL D E (j:=1) rfl
 have:=ZB g
 have:=ZC g
 have:=Zj (ZA g) F
 simp only[*,go_sem,seval]
 refine Zh h (fun i k st=>IV [(1,.bp 0 0),(3,.p false [.row 1]),(4,.p false [.c (.int .i64 e)]),(5,.p false [.c (.int .i64 ((u:Nat):Int))]),(6,.bp 2 0),(7,.p false [.c (.int .i64 ((i:Nat):Int))])] [.box 91 [.c (.int .i64 b.nodes),.c (.sl 144 3 (A0 ZL b.reasons))],.row 3 1 (A0 Z5 k) 2,.box 144 [.c (.int .i64 d.for_),.c (.sl 3 1 (A0 Z5 d.inn)),.c (.sl 3 1 (A0 Z5 d.outs))]] st) [] [0,1,162] (by decide) ?_ ?_ ?_
 simp only[*,go_sem,seval]
 rintro _ _ k ⟨sl,ob,n⟩ _ l w G h _
 simp only[go_sem,seval,Zc] at w
 obtain ⟨⟨_,_,_,_,_,_⟩,_,_,H,hn⟩:=w
 subst hn
 have I:=WF.boxL G H (j:=1) rfl
 have:=ZB l
 have:=ZC l
 have:=Zj (ZA l) I
 obtain ⟨_,h⟩:=Zs h
 obtain ⟨_,_,h⟩:=ZJ h
 obtain ⟨_,h⟩:=Zs h
 obtain ⟨_,_,h⟩:=ZJ h
 simp only[*,go_sem,seval]
 refine ⟨_,[],[0,1,2],(A3 h).symm,by decide,?_⟩
 simp only[*,go_sem,seval]
 rintro k ⟨sl,ob,n⟩ x _ h
 simp only[go_sem,seval,Zc] at x
 obtain ⟨⟨_,_,_,_,_,_⟩,_,_,_,hn⟩:=x
 subst hn
 have:=Zz (d.inn.length)
 simp only[*,go_sem,seval]
 refine Zh h (fun i m st=>IV [(1,.bp 0 0),(3,.p false [.row 1]),(4,.p false [.c (.int .i64 e)]),(5,.p false [.c (.int .i64 ((u:Nat):Int))]),(6,.bp 2 0),(8,.p false [.c (.int .i64 ((i:Nat):Int))])] [.box 91 [.c (.int .i64 b.nodes),.c (.sl 144 3 (A0 ZL b.reasons))],.row 3 1 (A0 Z5 m) 2,.box 144 [.c (.int .i64 d.for_),.c (.sl 3 1 (A0 Z5 d.inn)),.c (.sl 3 1 (A0 Z5 d.outs))]] st) [] [0,1,2] (by decide) ?_ ?_ ?_
 simp only[*,go_sem,seval]
 rintro _ _ m ⟨sl,ob,n⟩ _ o y J h _
 simp only[go_sem,seval,Zc] at y
 obtain ⟨⟨_,_,_,_,_,_⟩,_,_,K,hn⟩:=y
 subst hn
 have L:=WF.boxL J K (j:=2) rfl
 have:=ZB o
 have:=ZC o
 have:=Zj (ZA o) L
 obtain ⟨_,h⟩:=Zs h
 obtain ⟨_,_,h⟩:=ZJ h
 obtain ⟨_,h⟩:=Zs h
 obtain ⟨_,_,h⟩:=ZJ h
 simp only[*,go_sem,seval]
 refine ⟨_,[],[0,1,2],(A3 h).symm,by decide,?_⟩
 simp only[*,go_sem,seval]
 rintro m ⟨sl,ob,n⟩ z _ h
 simp only[go_sem,seval,Zc] at z
 obtain ⟨⟨_,_,_,_,_,_⟩,_,_,_,hn⟩:=z
 subst hn
 have:=Zz (d.outs.length)
 simp only[*,go_sem,seval]
 refine ⟨_,[],[0,1],(A3 h).symm,by decide,?_⟩
 simp only[*,go_sem,seval]
 rintro f ⟨sl,ob,n⟩ A _ h
 simp only[go_sem,seval,Zc] at A
 obtain ⟨⟨_,_,_,_⟩,_,_,hn⟩:=A
 subst hn
 have:=Zz (b.reasons.length)
 simp only[*,go_sem,seval]
 refine ⟨_,[],[0,1],(A3 h).symm,by decide,?_⟩
 simp only[*,go_sem,seval]
 replace h:=Zo h C
 iterate 2 (cases h;simp only[*,go_sem,seval])
end
section
set_option linter.unusedSimpArgs false
set_option linter.unusedVariables false
set_option maxRecDepth 1000000
set_option maxHeartbeats 4000000
theorem Zcx {p_0:Zv} {b_1:(List Zp)} {facts_2:(List Zd)} {r:(List Zd)} (h:Xc p_0 b_1 facts_2=some r):Zl prog J0 94 [(true,Qz p_0),(false,[.sl 135 2 (A0 ZZ b_1)]),(false,[.sl 71 2 (A0 Zq facts_2)])] [(false,[(false,.sl 71 2 (A0 Zq r))])]:=by
 refine fnk func94 rfl ?_
 unfold Xc at h
 simp only[fnS,f94,Zm,go_sem,seval]
 refine Zh h (fun i a st=>IV [(1,.p false [.c (.sl 135 2 (A0 ZZ b_1))]),(3,.bp 0 0),(7,.p false [.row 1]),(12,.p false [.c (.sl 71 2 (A0 Zq facts_2))]),(13,.p false [.c (.int .i64 ((facts_2.length:Nat):Int))]),(14,.p false [.c (.int .i64 ((i:Nat):Int))])] [.box 58 [.c (.str p_0.rel),.c (.sl 9 1 (A0 Zw p_0.args))],.row 71 2 (A0 Zq a) 2] st) [(false,7,0)] [0,96] (by decide) ?_ ?_ ?_
 simp only[*,go_sem,seval]
 rintro _ _ a ⟨sl,ob,n⟩ _ b d f h _
 simp only[go_sem,seval,Zc] at d
 obtain ⟨⟨_,_,_,g,_,_⟩,_,_,hn⟩:=d
 subst hn
 have k:=WF.slotL f g (j:=0) rfl
 have:=ZB b
 have:=ZC b
 have:=Zj (ZA b) k
 simp only[*,go_sem,seval]
 refine Za h fun _ l h=>Zb (Zfk l) ?_
 simp only[*,go_sem,seval]
 refine Ze h (fun _ h=>?_) fun _ h=>?_<;>try simp only[*,go_sem,seval]
 refine Za h fun _ m h=>Zb (YC m) ?_
 obtain ⟨o,h⟩:=Zs h
 try simp only[Nat.reduceLeDiff] at o
 simp only[*,go_sem,seval]
 refine ⟨_,[],[0,306],(A3 h).symm,by decide,?_⟩
 simp only[*,go_sem,seval]
 refine ⟨_,[],[0,1],(A3 h).symm,by decide,?_⟩
 simp only[*,go_sem,seval]
 rintro a ⟨sl,ob,n⟩ e _ h
 simp only[go_sem,seval,Zc] at e
 obtain ⟨⟨_,_,_,_,_,_⟩,_,_,hn⟩:=e
 subst hn
 have:=Zz (facts_2.length)
 cases h
 simp only[*,go_sem,seval]
theorem Zod {x_0:Zr} {r:Bool} (h:Zhs x_0=some r):Zl prog J0 258 [(true,ZK x_0)] [(false,[(false,.bool r)])]:=by
 refine fnk func258 rfl ?_
 unfold Zhs at h
 simp only[fnS,f258,Zm,go_sem,seval]
 refine Za h fun _ a h=>Zb (Zfj a) ?_
 simp only[*,go_sem,seval]
 refine Ze h (fun _ h=>?_) fun _ h=>?_<;>try simp only[*,go_sem,seval]
 iterate 2 (cases h;simp only[*,go_sem,seval])
theorem ZgJ {r_0:Zf} {k_1:Int} {r:Bool} (h:Zbs r_0 k_1=some r):Zl prog J0 202 [(true,ZG r_0),(false,[.int .i64 k_1])] [(false,[(false,.bool r)])]:=by
 refine fnk func202 rfl ?_
 unfold Zbs at h
 simp only[fnS,f202,Zm,go_sem,seval]
 obtain ⟨a,_,_,_,h⟩:=Zci h
 simp only[*,go_sem,seval]
 refine Za h fun j k h=>Zb (ZcQ k) ?_
 simp only[*,go_sem,seval]
 refine Za h fun b l h=>Zb (ZbA l) ?_
 simp only[*,go_sem,seval]
 refine Zh h (fun i _ st=>IV [(1,.p false [.c (.int .i64 k_1)]),(2,.bp 0 0),(5,.bp 1 0),(6,.p false [.row 2]),(18,.p false [.row 3]),(19,.p false [.c (.int .i64 ((b.length:Nat):Int))]),(20,.p false [.c (.int .i64 ((i:Nat):Int))])] [.box 104 [.c (.str r_0.name),.c (.int .i64 r_0.priority),.c (.sl 60 5 (A0 ZK r_0.cond)),.c (.sl 166 3 (A0 ZD r_0.thn))],.box 60 [.c (.int .i64 a.kind),.c (.str a.pattern.rel),.c (.sl 9 1 (A0 Zw a.pattern.args)),.c (.str a.left),.c (.str a.right)],.row 9 1 (A0 Zw j) 2,.row 9 1 (A0 Zw b) 2] st) [] [0,112,176,224] (by decide) ?_ ?_ ?_
 simp only[*,go_sem,seval]
 rintro _ _ ⟨⟩ ⟨sl,ob,n⟩ _ d e m h f
 simp only[go_sem,seval,Zc] at e
 obtain ⟨⟨_,_,_,_,_,_,_⟩,_,_,_,o,hn⟩:=e
 subst hn
 have q:=WF.rowL m o
 have:=ZB d
 have:=ZC d
 have:=Zj (ZA d) q
 simp only[*,go_sem,seval]
 refine Ze h (fun _ h=>?_) fun _ h=>?_<;>try simp only[*,go_sem,seval]
 refine ⟨_,[],[0,1,2,3],(A3 h).symm,by decide,?_⟩
 simp only[*,go_sem,seval]
 refine Za h fun _ t h=>Zb (QT t) ?_
 simp only[*,go_sem,seval]
 refine Ze h (fun _ h=>?_) fun _ h=>?_<;>try simp only[*,go_sem,seval]
 refine ⟨_,[],[0,1,2,3],(A3 h).symm,by decide,?_⟩
 simp only[*,go_sem,seval]
 refine Ze h (fun _ h=>?_) fun _ h=>?_<;>try simp only[*,go_sem,seval]
 replace h:=Zo h f
 cases h
 simp only[*,go_sem,seval]
 refine Za h fun _ u h=>Zb (Zfo u) ?_
 simp only[*,go_sem,seval]
 refine Ze h (fun _ h=>?_) fun _ h=>?_<;>try simp only[*,go_sem,seval]
 replace h:=Zo h f
 cases h
 simp only[*,go_sem,seval]
 refine ⟨_,[],[0,1,2,3],(A3 h).symm,by decide,?_⟩
 simp only[*,go_sem,seval]
 rintro ⟨⟩ ⟨sl,ob,n⟩ g _ h
 simp only[go_sem,seval,Zc] at g
 obtain ⟨⟨_,_,_,_,_,_,_⟩,_,_,_,_,hn⟩:=g
 subst hn
 have:=Zz (b.length)
 cases h
 simp only[*,go_sem,seval]
theorem Zdw {x_0:Zr} {r:Bool} (h:Zb1 x_0=some r):Zl prog J0 88 [(true,ZK x_0)] [(false,[(false,.bool r)])]:=by
 refine fnk func88 rfl ?_
 unfold Zb1 at h
 have a:Z2 ⟨#[]⟩=true:=by decide
 simp only[fnS,f88,Zm,go_sem,seval,a]
 refine Ze h (fun _ h=>?_) fun _ h=>?_<;>try simp only[*,go_sem,seval]
 refine Za h fun _ b h=>Zb (Y3 b) ?_
 simp only[*,go_sem,seval]
 iterate 2 refine Ze h (fun _ h=>?_) fun _ h=>?_<;>try simp only[*,go_sem,seval]
 iterate 3 (cases h;simp only[*,go_sem,seval])
 refine Ze h (fun _ h=>?_) fun _ h=>?_<;>try simp only[*,go_sem,seval]
 refine Za h fun _ c h=>Zb (Y3 c) ?_
 simp only[*,go_sem,seval]
 iterate 2 refine Ze h (fun _ h=>?_) fun _ h=>?_<;>try simp only[*,go_sem,seval]
 iterate 3 (cases h;simp only[*,go_sem,seval])
 iterate 3 refine Ze h (fun _ h=>?_) fun _ h=>?_<;>try simp only[*,go_sem,seval]
 refine Za h fun _ d h=>Zb (Qp d) ?_
 simp only[*,go_sem,seval]
 refine Ze h (fun _ h=>?_) fun _ h=>?_<;>try simp only[*,go_sem,seval]
 refine Za h fun _ e h=>Zb (Qp e) ?_
 iterate 4 (cases h;simp only[*,go_sem,seval])
 iterate 3 refine Ze h (fun _ h=>?_) fun _ h=>?_<;>try simp only[*,go_sem,seval]
 refine Za h fun _ f h=>Zb (Qp f) ?_
 simp only[*,go_sem,seval]
 refine Ze h (fun _ h=>?_) fun _ h=>?_<;>try simp only[*,go_sem,seval]
 refine Za h fun _ g h=>Zb (Qp g) ?_
 iterate 4 (cases h;simp only[*,go_sem,seval])
 iterate 3 refine Ze h (fun _ h=>?_) fun _ h=>?_<;>try simp only[*,go_sem,seval]
 refine Za h fun _ i h=>Zb (Qp i) ?_
 simp only[*,go_sem,seval]
 refine Ze h (fun _ h=>?_) fun _ h=>?_<;>try simp only[*,go_sem,seval]
 refine Za h fun _ j h=>Zb (Qp j) ?_
 iterate 5 (cases h;simp only[*,go_sem,seval])
theorem Zem {r_0:Zf} {i_1:Int} {v_2:ByteArray} {r:Bool} (h:Xu r_0 i_1 v_2=some r):Zl prog J0 153 [(true,ZG r_0),(false,[.int .i64 i_1]),(false,[.str v_2])] [(false,[(false,.bool r)])]:=by
 refine fnk func153 rfl ?_
 unfold Xu at h
 simp only[fnS,f153,Zm,go_sem,seval]
 refine Zh h (fun i _ st=>IV [(1,.p false [.c (.int .i64 i_1)]),(2,.p false [.c (.str v_2)]),(3,.bp 0 0),(7,.p false [.c (.int .i64 ((i:Nat):Int))])] [.box 104 [.c (.str r_0.name),.c (.int .i64 r_0.priority),.c (.sl 60 5 (A0 ZK r_0.cond)),.c (.sl 166 3 (A0 ZD r_0.thn))]] st) [] [0] (by decide) ?_ ?_ ?_
 simp only[*,go_sem,seval]
 rintro _ _ ⟨⟩ ⟨sl,ob,n⟩ _ a d k h l
 simp only[go_sem,seval,Zc] at d
 obtain ⟨⟨_,_,_,_⟩,m,hn⟩:=d
 subst hn
 have o:=WF.boxL k m (j:=2) rfl
 have:=ZB a
 have:=ZC a
 have:=Zj (ZA a) o
 simp only[*,go_sem,seval]
 refine Ze h (fun _ h=>?_) fun _ h=>?_<;>try simp only[*,go_sem,seval]
 refine Za h fun _ q h=>Zb (Q7 q) ?_
 simp only[*,go_sem,seval]
 refine Za h fun _ t h=>Zb (Ym t) ?_
 simp only[*,go_sem,seval]
 refine Ze h (fun _ h=>?_) fun _ h=>?_<;>try simp only[*,go_sem,seval]
 replace h:=Zo h l
 cases h
 simp only[*,go_sem,seval]
 refine ⟨_,[],[0],(A3 h).symm,by decide,?_⟩
 simp only[*,go_sem,seval]
 refine ⟨_,[],[0],(A3 h).symm,by decide,?_⟩
 simp only[*,go_sem,seval]
 rintro ⟨⟩ ⟨sl,ob,n⟩ e _ h
 simp only[go_sem,seval,Zc] at e
 obtain ⟨⟨_,_,_,_⟩,_,hn⟩:=e
 subst hn
 have:=Zz (r_0.cond.length)
 simp only[*,go_sem,seval]
 refine Zh h (fun i _ st=>IV [(2,.p false [.c (.str v_2)]),(3,.bp 0 0),(8,.p false [.c (.int .i64 ((i:Nat):Int))])] [.box 104 [.c (.str r_0.name),.c (.int .i64 r_0.priority),.c (.sl 60 5 (A0 ZK r_0.cond)),.c (.sl 166 3 (A0 ZD r_0.thn))]] st) [] [0] (by decide) ?_ ?_ ?_
 simp only[*,go_sem,seval]
 rintro _ _ ⟨⟩ ⟨sl,ob,n⟩ _ b f u h v
 simp only[go_sem,seval,Zc] at f
 obtain ⟨⟨_,_,_⟩,w,hn⟩:=f
 subst hn
 have x:=WF.boxL u w (j:=3) rfl
 have:=ZB b
 have:=ZC b
 have:=Zj (ZA b) x
 simp only[*,go_sem,seval]
 refine Za h fun _ y h=>Zb (ZbQ y) ?_
 simp only[*,go_sem,seval]
 refine Za h fun _ z h=>Zb (Ym z) ?_
 simp only[*,go_sem,seval]
 refine Ze h (fun _ h=>?_) fun _ h=>?_<;>try simp only[*,go_sem,seval]
 replace h:=Zo h v
 cases h
 simp only[*,go_sem,seval]
 refine ⟨_,[],[0],(A3 h).symm,by decide,?_⟩
 simp only[*,go_sem,seval]
 rintro ⟨⟩ ⟨sl,ob,n⟩ g _ h
 simp only[go_sem,seval,Zc] at g
 obtain ⟨⟨_,_,_⟩,_,hn⟩:=g
 subst hn
 have:=Zz (r_0.thn.length)
 cases h
 simp only[*,go_sem,seval]
theorem ZlF {a_0:Zx} {r:Bool} (h:ZcM a_0=some r):Zl prog J0 154 [(true,ZD a_0)] [(false,[(false,.bool r)])]:=by
 refine fnk func154 rfl ?_
 unfold ZcM at h
 have a:Z2 ⟨#[]⟩=true:=by decide
 simp only[fnS,f154,Zm,go_sem,seval,a]
 refine Ze h (fun _ h=>?_) fun _ h=>?_<;>try simp only[*,go_sem,seval]
 refine Za h fun _ b h=>Zb (Y3 b) ?_
 cases h
 simp only[*,go_sem,seval]
 refine Ze h (fun _ h=>?_) fun _ h=>?_<;>try simp only[*,go_sem,seval]
 refine Za h fun _ c h=>Zb (Y3 c) ?_
 cases h
 simp only[*,go_sem,seval]
 iterate 2 refine Ze h (fun _ h=>?_) fun _ h=>?_<;>try simp only[*,go_sem,seval]
 iterate 3 (cases h;simp only[*,go_sem,seval])
theorem Zl1 {r_0:Zf} {r:(List ByteArray)} (h:ZcH r_0=some r):Zl prog J0 156 [(true,ZG r_0)] [(false,[(false,.sl 9 1 (A0 Zw r))])]:=by
 refine fnk func156 rfl ?_
 unfold ZcH at h
 simp only[fnS,f156,Zm,go_sem,seval]
 refine Zh h (fun i a st=>IV [(1,.bp 0 0),(3,.p false [.row 1]),(4,.p false [.c (.int .i64 ((i:Nat):Int))])] [.box 104 [.c (.str r_0.name),.c (.int .i64 r_0.priority),.c (.sl 60 5 (A0 ZK r_0.cond)),.c (.sl 166 3 (A0 ZD r_0.thn))],.row 9 1 (A0 Zw a) 2] st) [] [0,32] (by decide) ?_ ?_ ?_
 simp only[*,go_sem,seval]
 rintro A _ a ⟨sl,ob,n⟩ _ b m B h _
 simp only[go_sem,seval,Zc] at m
 obtain ⟨⟨_,_,_⟩,C,_,hn⟩:=m
 subst hn
 have D:=WF.boxL B C (j:=2) rfl
 have:=ZB b
 have:=ZC b
 have:=Zj (ZA b) D
 simp only[*,go_sem,seval]
 refine Za h fun o E h=>Zb (Q7 E) ?_
 simp only[*,go_sem,seval]
 refine Zh h (fun i d st=>IV [(1,.bp 0 0),(3,.p false [.row 1]),(4,.p false [.c (.int .i64 ((A:Nat):Int))]),(5,.p false [.row 2]),(6,.p false [.c (.int .i64 ((i:Nat):Int))])] [.box 104 [.c (.str r_0.name),.c (.int .i64 r_0.priority),.c (.sl 60 5 (A0 ZK r_0.cond)),.c (.sl 166 3 (A0 ZD r_0.thn))],.row 9 1 (A0 Zw d) 2,.row 9 1 (A0 Zw o) 2] st) [] [0,1,162] (by decide) ?_ ?_ ?_
 simp only[*,go_sem,seval]
 rintro _ _ d ⟨sl,ob,n⟩ _ e q F h _
 simp only[go_sem,seval,Zc] at q
 obtain ⟨⟨_,_,_,_,_⟩,_,_,G,hn⟩:=q
 subst hn
 have H:=WF.rowL F G
 have:=ZB e
 have:=ZC e
 have:=Zj (ZA e) H
 simp only[*,go_sem,seval]
 refine Za h fun _ I h=>Zb (Y1 I) ?_
 simp only[*,go_sem,seval]
 refine ⟨_,[],[0,147,2],(A3 h).symm,by decide,?_⟩
 simp only[*,go_sem,seval]
 rintro d ⟨sl,ob,n⟩ t _ h
 simp only[go_sem,seval,Zc] at t
 obtain ⟨⟨_,_,_,_,_⟩,_,_,_,hn⟩:=t
 subst hn
 have:=Zz (o.length)
 simp only[*,go_sem,seval]
 refine ⟨_,[],[0,1],(A3 h).symm,by decide,?_⟩
 simp only[*,go_sem,seval]
 rintro a ⟨sl,ob,n⟩ u _ h
 simp only[go_sem,seval,Zc] at u
 obtain ⟨⟨_,_,_⟩,_,_,hn⟩:=u
 subst hn
 have:=Zz (r_0.cond.length)
 simp only[*,go_sem,seval]
 refine Zh h (fun i f st=>IV [(1,.bp 0 0),(3,.p false [.row 1]),(7,.p false [.c (.int .i64 ((i:Nat):Int))])] [.box 104 [.c (.str r_0.name),.c (.int .i64 r_0.priority),.c (.sl 60 5 (A0 ZK r_0.cond)),.c (.sl 166 3 (A0 ZD r_0.thn))],.row 9 1 (A0 Zw f) 2] st) [] [0,1] (by decide) ?_ ?_ ?_
 simp only[*,go_sem,seval]
 rintro J _ f ⟨sl,ob,n⟩ _ g v K h _
 simp only[go_sem,seval,Zc] at v
 obtain ⟨⟨_,_,_⟩,L,_,hn⟩:=v
 subst hn
 have M:=WF.boxL K L (j:=3) rfl
 have:=ZB g
 have:=ZC g
 have:=Zj (ZA g) M
 simp only[*,go_sem,seval]
 refine Za h fun w N h=>Zb (ZbQ N) ?_
 simp only[*,go_sem,seval]
 refine Zh h (fun i k st=>IV [(1,.bp 0 0),(3,.p false [.row 1]),(7,.p false [.c (.int .i64 ((J:Nat):Int))]),(8,.p false [.row 2]),(9,.p false [.c (.int .i64 ((i:Nat):Int))])] [.box 104 [.c (.str r_0.name),.c (.int .i64 r_0.priority),.c (.sl 60 5 (A0 ZK r_0.cond)),.c (.sl 166 3 (A0 ZD r_0.thn))],.row 9 1 (A0 Zw k) 2,.row 9 1 (A0 Zw w) 2] st) [] [0,1,178] (by decide) ?_ ?_ ?_
 simp only[*,go_sem,seval]
 rintro _ _ k ⟨sl,ob,n⟩ _ l x O h _
 simp only[go_sem,seval,Zc] at x
 obtain ⟨⟨_,_,_,_,_⟩,_,_,P,hn⟩:=x
 subst hn
 have Q:=WF.rowL O P
 have:=ZB l
 have:=ZC l
 have:=Zj (ZA l) Q
 simp only[*,go_sem,seval]
 refine Za h fun _ R h=>Zb (Y1 R) ?_
 simp only[*,go_sem,seval]
 refine ⟨_,[],[0,147,2],(A3 h).symm,by decide,?_⟩
 simp only[*,go_sem,seval]
 rintro k ⟨sl,ob,n⟩ y _ h
 simp only[go_sem,seval,Zc] at y
 obtain ⟨⟨_,_,_,_,_⟩,_,_,_,hn⟩:=y
 subst hn
 have:=Zz (w.length)
 simp only[*,go_sem,seval]
 refine ⟨_,[],[0,1],(A3 h).symm,by decide,?_⟩
 simp only[*,go_sem,seval]
 rintro f ⟨sl,ob,n⟩ z _ h
 simp only[go_sem,seval,Zc] at z
 obtain ⟨⟨_,_,_⟩,_,_,hn⟩:=z
 subst hn
 have:=Zz (r_0.thn.length)
 cases h
 simp only[*,go_sem,seval]
theorem ZfU {append_0:Zv} {String_1:Zd} {a_2:(List Zp)} {r:((List Zp) × Bool)} (h:Zau append_0 String_1 a_2=some r):Zl prog J0 161 [(true,Qz append_0),(true,Zq String_1),(false,[.sl 135 2 (A0 ZZ a_2)])] [(false,[(false,.sl 135 2 (A0 ZZ r.1))]),(false,[(false,.bool r.2)])]:=by
 refine fnk func161 rfl ?_
 unfold Zau at h
 simp only[fnS,f161,Zm,go_sem,seval]
 refine Za h fun _ g h=>Zb (Y3 g) ?_
 simp only[*,go_sem,seval]
 refine Ze h (fun _ h=>?_) fun _ h=>?_<;>try simp only[*,go_sem,seval]
 refine Za h fun _ k h=>Zb (Zjg k) ?_
 simp only[*,go_sem,seval]
 refine Ze h (fun _ h=>?_) fun _ h=>?_<;>try simp only[*,go_sem,seval]
 refine Za h fun _ l h=>Zb (Qy l) ?_
 simp only[*,go_sem,seval]
 iterate 3 refine Ze h (fun _ h=>?_) fun _ h=>?_<;>try simp only[*,go_sem,seval]
 cases h
 simp only[*,go_sem,seval]
 refine Za h fun _ m h=>Zb (Zf8 m) ?_
 simp only[*,go_sem,seval]
 refine Zh h (fun i a st=>IV [(3,.bp 0 0),(4,.bp 1 0),(8,.p false [.row 2]),(9,.p false [.c (.int .i64 ((i:Nat):Int))])] [.box 58 [.c (.str append_0.rel),.c (.sl 9 1 (A0 Zw append_0.args))],.box 71 [.c (.str String_1.rel),.c (.sl 9 1 (A0 Zw String_1.args))],.row 135 2 (A0 ZZ a) 2] st) [] [0,16,544] (by decide) ?_ ?_ ?_
 simp only[*,go_sem,seval]
 rintro _ _ a ⟨sl,ob,n⟩ _ b d o h e
 simp only[go_sem,seval,Zc] at d
 obtain ⟨⟨_,_,_,_⟩,q,_,_,hn⟩:=d
 subst hn
 have t:=WF.boxL o q (j:=1) rfl
 have:=ZB b
 have:=ZC b
 have:=Zj (ZA b) t
 simp only[*,go_sem,seval]
 refine Za h fun _ u h=>Zb (XR u) ?_
 simp only[*,go_sem,seval]
 refine Ze h (fun _ h=>?_) fun _ h=>?_<;>try simp only[*,go_sem,seval]
 obtain ⟨_,_,_,v,h⟩:=Zci h
 simp only[A8] at v
 simp only[*,go_sem,seval]
 refine Ze h (fun _ h=>?_) fun _ h=>?_<;>try simp only[*,go_sem,seval]
 refine ⟨_,[],[0,1,2],(A3 h).symm,by decide,?_⟩
 simp only[*,go_sem,seval]
 replace h:=Zo h e
 cases h
 simp only[*,go_sem,seval]
 obtain ⟨_,_,_,w,h⟩:=Zci h
 simp only[A8] at w
 simp only[*,go_sem,seval]
 refine Za h fun _ x h=>Zb (ZoM x) ?_
 simp only[*,go_sem,seval]
 refine Ze h (fun _ h=>?_) fun _ h=>?_<;>try simp only[*,go_sem,seval]
 refine ⟨_,[],[0,1,355],(A3 h).symm,by decide,?_⟩
 simp only[*,go_sem,seval]
 replace h:=Zo h e
 cases h
 simp only[*,go_sem,seval]
 rintro a ⟨sl,ob,n⟩ f _ h
 simp only[go_sem,seval,Zc] at f
 obtain ⟨⟨_,_,_,_⟩,_,_,_,hn⟩:=f
 subst hn
 have:=Zz (append_0.args.length)
 iterate 5 (cases h;simp only[*,go_sem,seval])
end
section
set_option linter.unusedSimpArgs false
set_option linter.unusedVariables false
set_option maxRecDepth 1000000
set_option maxHeartbeats 4000000
theorem ZdM {p_0:Zv} {b_1:(List Zp)} {r:(Zd × Bool)} (h:Y2 p_0 b_1=some r):Zl prog J0 116 [(true,Qz p_0),(false,[.sl 135 2 (A0 ZZ b_1)])] [(true,[(false,.str r.1.rel),(false,.sl 9 1 (A0 Zw r.1.args))]),(false,[(false,.bool r.2)])]:=by
 refine fnk func116 rfl ?_
 unfold Y2 at h
 simp only[fnS,f116,Zm,go_sem,seval]
 refine Za h fun _ f h=>Zb (Y3 f) ?_
 simp only[*,go_sem,seval]
 refine Ze h (fun _ h=>?_) fun _ h=>?_<;>try simp only[*,go_sem,seval]
 refine Za h fun _ g h=>Zb (Qy g) ?_
 simp only[*,go_sem,seval]
 refine Ze h (fun _ h=>?_) fun _ h=>?_<;>try simp only[*,go_sem,seval]
 refine Zh h (fun i a st=>IV [(1,.p false [.c (.sl 135 2 (A0 ZZ b_1))]),(2,.bp 0 0),(4,.bp 1 0),(6,.bp 2 0),(7,.p false [.c (.int .i64 ((i:Nat):Int))])] [.box 58 [.c (.str p_0.rel),.c (.sl 9 1 (A0 Zw p_0.args))],.box 71 [.c (.str ⟨#[]⟩),.nil 9 1],.box 71 [.c (.str p_0.rel),.row 3],.row 9 1 (A0 Zw a) 2] st) [(true,224,1)] [0,16,224,272] (by decide) ?_ ?_ ?_
 simp only[*,go_sem,seval]
 rintro _ _ a ⟨sl,ob,n⟩ _ b d k h l
 simp only[go_sem,seval,Zc] at d
 obtain ⟨⟨_,_,_,_,_⟩,m,_,_,_,hn⟩:=d
 subst hn
 have o:=WF.boxL k m (j:=1) rfl
 have:=ZB b
 have:=ZC b
 have:=Zj (ZA b) o
 simp only[*,go_sem,seval]
 refine Za h fun _ q h=>Zb (Zcl q) ?_
 simp only[*,go_sem,seval]
 refine Ze h (fun _ h=>?_) fun _ h=>?_<;>try simp only[*,go_sem,seval]
 obtain ⟨t,h⟩:=Zs h
 try simp only[Nat.reduceLeDiff] at t
 simp only[*,go_sem,seval]
 refine ⟨_,[],[0,1,2,372],(A3 h).symm,by decide,?_⟩
 simp only[*,go_sem,seval]
 replace h:=Zo h l
 cases h
 simp only[*,go_sem,seval]
 rintro a ⟨sl,ob,n⟩ e _ h
 simp only[go_sem,seval,Zc] at e
 obtain ⟨⟨_,_,_,_,_⟩,_,_,_,_,hn⟩:=e
 subst hn
 have:=Zz (p_0.args.length)
 iterate 3 (cases h;simp only[*,go_sem,seval])
theorem ZGg {b:Zu} {r:(List Int)} (h:ZD6 b=some r):Zl prog J0 224 [(true,Qw b)] [(false,[(false,.sl 3 1 (A0 Z5 r))])]:=by
 refine fnk func224 rfl ?_
 unfold ZD6 at h
 simp only[fnS,f224,Zm,go_sem,seval]
 refine Za h fun _ z h=>Zb (ZEt z) ?_
 simp only[*,go_sem,seval]
 refine Ze h (fun _ h=>?_) fun _ h=>?_<;>try simp only[*,go_sem,seval]
 refine Za h fun d A h=>Zb (ZGr A) ?_
 simp only[*,go_sem,seval]
 refine XH h (fun s st=>match s with | (l,m)=>IV [(1,.bp 0 0),(3,.p false [.row 1]),(4,.p false [.row 2]),(5,.p false [.c (.int .i64 m)])] [.box 91 [.c (.int .i64 b.nodes),.c (.sl 144 3 (A0 ZL b.reasons))],.row 3 1 (A0 Z5 d) 2,.row 3 1 (A0 Z5 l) 2] st) [] [0,96,128] (by decide) ?_ ?_
 simp only[*,go_sem,seval]
 rintro ⟨l,m⟩ ⟨sl,ob,n⟩ _ o _ h B
 simp only[go_sem,seval,Zc] at o
 obtain ⟨⟨_,_,_,_⟩,_,_,_,hn⟩:=o
 subst hn
 simp only[*,go_sem,seval]
 refine Ze h (fun _ h=>?_) fun _ h=>?_<;>try simp only[*,go_sem,seval]
 obtain ⟨C,h⟩:=Zs h
 try simp only[Nat.reduceLeDiff] at C
 simp only[*,go_sem,seval]
 refine ⟨_,[],[0,1,99],(A3 h).symm,by decide,?_⟩
 simp only[*,go_sem,seval]
 refine XH h (fun s st=>match s with | (q,t,e)=>IV [(1,.bp 0 0),(3,.p false [.row 1]),(4,.p false [.row 2]),(6,.p false [.c (.int .i64 t)]),(7,.p false [.c (.int .i64 e)])] [.box 91 [.c (.int .i64 b.nodes),.c (.sl 144 3 (A0 ZL b.reasons))],.row 3 1 (A0 Z5 d) 2,.row 3 1 (A0 Z5 q) 2] st) [] [0,1,2] (by decide) ?_ ?_
 simp only[*,go_sem,seval]
 rintro ⟨q,t,e⟩ ⟨sl,ob,n⟩ _ u _ h D
 simp only[go_sem,seval,Zc] at u
 obtain ⟨⟨_,_,_,_,_⟩,_,_,_,hn⟩:=u
 subst hn
 simp only[*,go_sem,seval]
 refine Ze h (fun _ h=>?_) fun _ h=>?_<;>try simp only[*,go_sem,seval]
 refine Za h fun _ E h=>Zb (ZE2 E) ?_
 simp only[*,go_sem,seval]
 refine XH h (fun s st=>match s with | (v,f,g)=>IV [(1,.bp 0 0),(3,.p false [.row 1]),(4,.p false [.row 2]),(6,.p false [.c (.int .i64 g)]),(7,.p false [.c (.int .i64 e)]),(8,.p false [.row 3])] [.box 91 [.c (.int .i64 b.nodes),.c (.sl 144 3 (A0 ZL b.reasons))],.row 3 1 (A0 Z5 d) 2,.row 3 1 (A0 Z5 v) 2,.row 3 1 (A0 Z5 f) 2] st) [] [0,1,2,147] (by decide) ?_ ?_
 simp only[*,go_sem,seval]
 rintro ⟨v,f,g⟩ ⟨sl,ob,n⟩ _ w _ h F
 simp only[go_sem,seval,Zc] at w
 obtain ⟨⟨_,_,_,_,_,_⟩,_,_,_,_,hn⟩:=w
 subst hn
 simp only[*,go_sem,seval]
 refine Ze h (fun _ h=>?_) fun _ h=>?_<;>try simp only[*,go_sem,seval]
 refine Zh h (fun i j st=>IV [(1,.bp 0 0),(3,.p false [.row 1]),(4,.p false [.row 2]),(6,.p false [.c (.int .i64 g)]),(7,.p false [.c (.int .i64 e)]),(8,.p false [.row 3]),(9,.p false [.c (.int .i64 ((i:Nat):Int))])] [.box 91 [.c (.int .i64 b.nodes),.c (.sl 144 3 (A0 ZL b.reasons))],.row 3 1 (A0 Z5 d) 2,.row 3 1 (A0 Z5 j) 2,.row 3 1 (A0 Z5 f) 2] st) [] [0,1,2,3] (by decide) ?_ ?_ ?_
 simp only[*,go_sem,seval]
 rintro _ _ j ⟨sl,ob,n⟩ _ k x G h _
 simp only[go_sem,seval,Zc] at x
 obtain ⟨⟨_,_,_,_,_,_,_⟩,_,_,_,H,hn⟩:=x
 subst hn
 have I:=WF.rowL G H
 have:=ZB k
 have:=ZC k
 have:=Zj (ZA k) I
 obtain ⟨_,h⟩:=Zs h
 obtain ⟨_,_,h⟩:=ZJ h
 simp only[*,go_sem,seval]
 refine ⟨_,[],[0,1,2,3],(A3 h).symm,by decide,?_⟩
 simp only[*,go_sem,seval]
 rintro j ⟨sl,ob,n⟩ y _ h
 simp only[go_sem,seval,Zc] at y
 obtain ⟨⟨_,_,_,_,_,_,_⟩,_,_,_,_,hn⟩:=y
 subst hn
 have:=Zz (f.length)
 simp only[*,go_sem,seval]
 refine Za h fun _ J h=>Zb (ZE2 J) ?_
 simp only[*,go_sem,seval]
 refine ⟨_,[],[0,1,2,196],(A3 h).symm,by decide,?_⟩
 simp only[*,go_sem,seval]
 replace h:=Zo h F
 refine ⟨_,[],[0,1,2],(A3 h).symm,by decide,?_⟩
 simp only[*,go_sem,seval]
 replace h:=Zo h D
 replace h:=Zo h B
 iterate 2 (cases h;simp only[*,go_sem,seval])
end
section
set_option linter.unusedSimpArgs false
set_option linter.unusedVariables false
set_option maxRecDepth 1000000
set_option maxHeartbeats 4000000
theorem ZjX {append_0:Zr} {String_1:(List Zp)} {r:Bool} (h:ZbM append_0 String_1=some r):Zl prog J0 210 [(true,ZK append_0),(false,[.sl 135 2 (A0 ZZ String_1)])] [(false,[(false,.bool r)])]:=by
 refine fnk func210 rfl ?_
 unfold ZbM at h
 simp only[fnS,f210,Zm,go_sem,seval]
 refine Za h fun _ a h=>Zb (Zod a) ?_
 simp only[*,go_sem,seval]
 refine Ze h (fun _ h=>?_) fun _ h=>?_<;>try simp only[*,go_sem,seval]
 refine Za h fun _ b h=>Zb (Qk b) ?_
 simp only[*,go_sem,seval]
 refine Ze h (fun _ h=>?_) fun _ h=>?_<;>try simp only[*,go_sem,seval]
 refine Za h fun _ c h=>Zb (Zcn c) ?_
 simp only[*,go_sem,seval]
 refine Za h fun _ d h=>Zb (Zcn d) ?_
 simp only[*,go_sem,seval]
 iterate 3 refine Ze h (fun _ h=>?_) fun _ h=>?_<;>try simp only[*,go_sem,seval]
 cases h
 simp only[*,go_sem,seval]
 refine Ze h (fun _ h=>?_) fun _ h=>?_<;>try simp only[*,go_sem,seval]
 cases h
 simp only[*,go_sem,seval]
 refine Za h fun _ e h=>Zb (ZbF e) ?_
 simp only[*,go_sem,seval]
 refine Za h fun _ f h=>Zb (ZbF f) ?_
 simp only[*,go_sem,seval]
 iterate 2 refine Ze h (fun _ h=>?_) fun _ h=>?_<;>try simp only[*,go_sem,seval]
 iterate 7 (cases h;simp only[*,go_sem,seval])
theorem Zji {append_0:Zf} {r:Bool} (h:ZdT append_0=some r):Zl prog J0 135 [(true,ZG append_0)] [(false,[(false,.bool r)])]:=by
 refine fnk func135 rfl ?_
 unfold ZdT at h
 simp only[fnS,f135,Zm,go_sem,seval]
 refine Za h fun _ v h=>Zb (ZfA v) ?_
 simp only[*,go_sem,seval]
 iterate 2 refine Ze h (fun _ h=>?_) fun _ h=>?_<;>try simp only[*,go_sem,seval]
 iterate 5 (cases h;simp only[*,go_sem,seval];refine Ze h (fun _ h=>?_) fun _ h=>?_<;>try simp only[*,go_sem,seval])
 cases h
 simp only[*,go_sem,seval]
 refine Zh h (fun i _ st=>IV [(1,.bp 0 0),(49,.p false [.c (.sl 60 5 (A0 ZK append_0.cond))]),(50,.p false [.c (.int .i64 ((append_0.cond.length:Nat):Int))]),(51,.p false [.c (.int .i64 ((i:Nat):Int))])] [.box 104 [.c (.str append_0.name),.c (.int .i64 append_0.priority),.c (.sl 60 5 (A0 ZK append_0.cond)),.c (.sl 166 3 (A0 ZD append_0.thn))]] st) [] [0] (by decide) ?_ ?_ ?_
 simp only[*,go_sem,seval]
 rintro _ _ ⟨⟩ ⟨sl,ob,n⟩ _ a g w h b
 simp only[go_sem,seval,Zc] at g
 obtain ⟨⟨_,x,_,_⟩,_,hn⟩:=g
 subst hn
 have y:=WF.slotL w x (j:=0) rfl
 have:=ZB a
 have:=ZC a
 have:=Zj (ZA a) y
 simp only[*,go_sem,seval]
 refine Za h fun _ z h=>Zb (Zfj z) ?_
 simp only[*,go_sem,seval]
 iterate 3 refine Ze h (fun _ h=>?_) fun _ h=>?_<;>try simp only[*,go_sem,seval]
 replace h:=Zo h b
 cases h
 simp only[*,go_sem,seval]
 refine Za h fun _ A h=>Zb (ZgJ A) ?_
 simp only[*,go_sem,seval]
 refine Ze h (fun _ h=>?_) fun _ h=>?_<;>try simp only[*,go_sem,seval]
 refine ⟨_,[],[0],(A3 h).symm,by decide,?_⟩
 simp only[*,go_sem,seval]
 replace h:=Zo h b
 cases h
 simp only[*,go_sem,seval]
 refine Za h fun _ B h=>Zb (ZgJ B) ?_
 simp only[*,go_sem,seval]
 refine Ze h (fun _ h=>?_) fun _ h=>?_<;>try simp only[*,go_sem,seval]
 refine ⟨_,[],[0],(A3 h).symm,by decide,?_⟩
 iterate 2 (simp only[*,go_sem,seval];replace h:=Zo h b;cases h)
 simp only[*,go_sem,seval]
 rintro ⟨⟩ ⟨sl,ob,n⟩ k _ h
 simp only[go_sem,seval,Zc] at k
 obtain ⟨⟨_,_,_,_⟩,_,hn⟩:=k
 subst hn
 have:=Zz (append_0.cond.length)
 simp only[*,go_sem,seval]
 refine Za h fun l C h=>Zb (ZcQ C) ?_
 simp only[*,go_sem,seval]
 refine Zh h (fun i _ st=>IV [(1,.bp 0 0),(5,.p false [.row 1]),(81,.p false [.c (.sl 166 3 (A0 ZD append_0.thn))]),(82,.p false [.c (.int .i64 ((append_0.thn.length:Nat):Int))]),(83,.p false [.c (.int .i64 ((i:Nat):Int))])] [.box 104 [.c (.str append_0.name),.c (.int .i64 append_0.priority),.c (.sl 60 5 (A0 ZK append_0.cond)),.c (.sl 166 3 (A0 ZD append_0.thn))],.row 9 1 (A0 Zw l) 2] st) [] [0,81] (by decide) ?_ ?_ ?_
 simp only[*,go_sem,seval]
 rintro D _ ⟨⟩ ⟨sl,ob,n⟩ _ d m E h o
 simp only[go_sem,seval,Zc] at m
 obtain ⟨⟨_,_,F,_,_⟩,_,_,hn⟩:=m
 subst hn
 have G:=WF.slotL E F (j:=0) rfl
 have:=ZB d
 have:=ZC d
 have:=Zj (ZA d) G
 simp only[*,go_sem,seval]
 refine Za h fun _ H h=>Zb (Zl0 H) ?_
 simp only[*,go_sem,seval]
 refine Ze h (fun _ h=>?_) fun _ h=>?_<;>try simp only[*,go_sem,seval]
 refine Za h fun e I h=>Zb (Zc1 I) ?_
 simp only[*,go_sem,seval]
 refine Zh h (fun i _ st=>IV [(1,.bp 0 0),(5,.p false [.row 1]),(81,.p false [.c (.sl 166 3 (A0 ZD append_0.thn))]),(82,.p false [.c (.int .i64 ((append_0.thn.length:Nat):Int))]),(83,.p false [.c (.int .i64 ((D:Nat):Int))]),(93,.p false [.row 2]),(94,.p false [.c (.int .i64 ((e.length:Nat):Int))]),(95,.p false [.c (.int .i64 ((i:Nat):Int))])] [.box 104 [.c (.str append_0.name),.c (.int .i64 append_0.priority),.c (.sl 60 5 (A0 ZK append_0.cond)),.c (.sl 166 3 (A0 ZD append_0.thn))],.row 9 1 (A0 Zw l) 2,.row 9 1 (A0 Zw e) 2] st) [] [0,1,178] (by decide) ?_ ?_ ?_
 simp only[*,go_sem,seval]
 rintro _ _ ⟨⟩ ⟨sl,ob,n⟩ _ f q J h K
 simp only[go_sem,seval,Zc] at q
 obtain ⟨⟨_,_,_,_,_,_,_,_⟩,_,_,L,hn⟩:=q
 subst hn
 have M:=WF.rowL J L
 have:=ZB f
 have:=ZC f
 have:=Zj (ZA f) M
 simp only[*,go_sem,seval]
 refine Za h fun _ N h=>Zb (QT N) ?_
 simp only[*,go_sem,seval]
 refine Ze h (fun _ h=>?_) fun _ h=>?_<;>try simp only[*,go_sem,seval]
 refine ⟨_,[],[0,1,2],(A3 h).symm,by decide,?_⟩
 simp only[*,go_sem,seval]
 replace h:=Zo h K
 replace h:=Zo h o
 cases h
 simp only[*,go_sem,seval]
 rintro ⟨⟩ ⟨sl,ob,n⟩ t _ h
 simp only[go_sem,seval,Zc] at t
 obtain ⟨⟨_,_,_,_,_,_,_,_⟩,_,_,_,hn⟩:=t
 subst hn
 have:=Zz (e.length)
 simp only[*,go_sem,seval]
 refine ⟨_,[],[0,1],(A3 h).symm,by decide,?_⟩
 simp only[*,go_sem,seval]
 replace h:=Zo h o
 cases h
 simp only[*,go_sem,seval]
 rintro ⟨⟩ ⟨sl,ob,n⟩ u _ h
 simp only[go_sem,seval,Zc] at u
 obtain ⟨⟨_,_,_,_,_⟩,_,_,hn⟩:=u
 subst hn
 have:=Zz (append_0.thn.length)
 simp only[*,go_sem,seval]
 refine Za h fun _ O h=>Zb (Zjn O) ?_
 simp only[*,go_sem,seval]
 refine Za h fun _ P h=>Zb (XK P) ?_
 iterate 2 (cases h;simp only[*,go_sem,seval])
theorem Zf4 {x_0:Zr} {r:Bool} (h:ZaT x_0=some r):Zl prog J0 152 [(true,ZK x_0)] [(false,[(false,.bool r)])]:=by
 refine fnk func152 rfl ?_
 unfold ZaT at h
 simp only[fnS,f152,Zm,go_sem,seval]
 refine Za h fun _ a h=>Zb (Zdw a) ?_
 simp only[*,go_sem,seval]
 refine Ze h (fun _ h=>?_) fun _ h=>?_<;>try simp only[*,go_sem,seval]
 iterate 2 (cases h;simp only[*,go_sem,seval])
theorem Zdh {p_0:Zv} {b_1:(List Zp)} {facts_2:(List Zd)} {r:(List Zd)} (h:Xf p_0 b_1 facts_2=some r):Zl prog J0 90 [(true,Qz p_0),(false,[.sl 135 2 (A0 ZZ b_1)]),(false,[.sl 71 2 (A0 Zq facts_2)])] [(false,[(false,.sl 71 2 (A0 Zq r))])]:=by
 refine fnk func90 rfl ?_
 unfold Xf at h
 simp only[fnS,f90,Zm,go_sem,seval]
 refine Zh h (fun i a st=>IV [(1,.p false [.c (.sl 135 2 (A0 ZZ b_1))]),(2,.p false [.c (.sl 71 2 (A0 Zq facts_2))]),(3,.bp 0 0),(7,.p false [.row 1]),(8,.p false [.c (.int .i64 ((i:Nat):Int))])] [.box 58 [.c (.str p_0.rel),.c (.sl 9 1 (A0 Zw p_0.args))],.row 71 2 (A0 Zq a) 2] st) [] [0,32] (by decide) ?_ ?_ ?_
 simp only[*,go_sem,seval]
 rintro _ _ a ⟨sl,ob,n⟩ _ b d f h _
 simp only[go_sem,seval,Zc] at d
 obtain ⟨⟨_,g,_,_,_⟩,_,_,hn⟩:=d
 subst hn
 have k:=WF.slotL f g (j:=0) rfl
 have:=ZB b
 have:=ZC b
 have:=Zj (ZA b) k
 simp only[*,go_sem,seval]
 refine Za h fun _ l h=>Zb (ZfU l) ?_
 simp only[*,go_sem,seval]
 refine Ze h (fun _ h=>?_) fun _ h=>?_<;>try simp only[*,go_sem,seval]
 refine Za h fun _ m h=>Zb (Xr m) ?_
 obtain ⟨o,h⟩:=Zs h
 try simp only[Nat.reduceLeDiff] at o
 simp only[*,go_sem,seval]
 refine ⟨_,[],[0,386],(A3 h).symm,by decide,?_⟩
 simp only[*,go_sem,seval]
 refine ⟨_,[],[0,1],(A3 h).symm,by decide,?_⟩
 simp only[*,go_sem,seval]
 rintro a ⟨sl,ob,n⟩ e _ h
 simp only[go_sem,seval,Zc] at e
 obtain ⟨⟨_,_,_,_,_⟩,_,_,hn⟩:=e
 subst hn
 have:=Zz (facts_2.length)
 cases h
 simp only[*,go_sem,seval]
theorem ZjL {append_0:Zf} {String_1:Int} {a_2:Zt} {a_3:(List Zd)} {r:Zg} (h:ZaD append_0 String_1 a_2 a_3=some r):Zl prog J0 168 [(true,ZG append_0),(false,[.int .i64 String_1]),(true,YE a_2),(false,[.sl 71 2 (A0 Zq a_3)])] [(true,[(false,.int .i64 r.for_),(false,.sl 3 1 (A0 Z5 r.inn)),(false,.sl 3 1 (A0 Z5 r.outs))])]:=by
 refine fnk func168 rfl ?_
 unfold ZaD at h
 simp only[fnS,f168,Zm,go_sem,seval]
 obtain ⟨_,_,_,_,h⟩:=Zci h
 simp only[*,go_sem,seval]
 refine Za h fun d g h=>Zb (ZdM g) ?_
 simp only[*,go_sem,seval]
 refine Zh h (fun i a st=>IV [(3,.p false [.c (.sl 71 2 (A0 Zq a_3))]),(4,.bp 0 0),(6,.bp 1 0),(8,.bp 2 0),(9,.bp 3 0),(11,.p false [.row 5]),(12,.p false [.c (.int .i64 ((i:Nat):Int))])] [.box 104 [.c (.str append_0.name),.c (.int .i64 append_0.priority),.c (.sl 60 5 (A0 ZK append_0.cond)),.c (.sl 166 3 (A0 ZD append_0.thn))],.box 118 [.c (.sl 71 2 (A0 Zq a_2.facts)),.c (.sl 135 2 (A0 ZZ a_2.binding))],.box 144 [.c (.int .i64 0),.nil 3 1,.nil 3 1],.box 71 [.c (.str d.1.rel),.row 4],.row 9 1 (A0 Zw d.1.args) 2,.row 71 2 (A0 Zq a) 2] st) [] [0,16,32,240,176,288] (by decide) ?_ ?_ ?_
 simp only[*,go_sem,seval]
 rintro _ _ a ⟨sl,ob,n⟩ _ b e k h _
 simp only[go_sem,seval,Zc] at e
 obtain ⟨⟨_,_,_,_,_,_,_⟩,l,_,_,_,_,_,hn⟩:=e
 subst hn
 have m:=WF.boxL k l (j:=2) rfl
 have:=ZB b
 have:=ZC b
 have:=Zj (ZA b) m
 simp only[*,go_sem,seval]
 refine Ze h (fun _ h=>?_) fun _ h=>?_<;>try simp only[*,go_sem,seval]
 refine Za h fun _ o h=>Zb (ZdM o) ?_
 obtain ⟨q,h⟩:=Zs h
 try simp only[Nat.reduceLeDiff] at q
 simp only[*,go_sem,seval]
 refine ⟨_,[],[0,1,2,3,4,486],(A3 h).symm,by decide,?_⟩
 simp only[*,go_sem,seval]
 refine ⟨_,[],[0,1,2,3,4,5],(A3 h).symm,by decide,?_⟩
 simp only[*,go_sem,seval]
 rintro a ⟨sl,ob,n⟩ f _ h
 simp only[go_sem,seval,Zc] at f
 obtain ⟨⟨_,_,_,_,_,_,_⟩,_,_,_,_,_,_,hn⟩:=f
 subst hn
 have:=Zz (append_0.cond.length)
 simp only[*,go_sem,seval]
 refine Za h fun _ t h=>Zb (ZbJ t) ?_
 simp only[*,go_sem,seval]
 refine Za h fun _ u h=>Zb (ZgA u) ?_
 simp only[*,go_sem,seval]
 refine Za h fun _ v h=>Zb (ZgA v) ?_
 cases h
 simp only[*,go_sem,seval]
theorem ZJj {b_0:Zu} {r:(List Bool)} (h:ZIN b_0=some r):Zl prog J0 147 [(true,Qw b_0)] [(false,[(false,.sl 4 1 (A0 ZgO r))])]:=by
 refine fnk func147 rfl ?_
 unfold ZIN at h
 simp only[fnS,f147,Zm,go_sem,seval]
 refine Za h fun d g h=>Zb (ZGg g) ?_
 simp only[*,go_sem,seval]
 refine Zh h (fun i a st=>IV [(3,.p false [.row 0]),(4,.p false [.row 1]),(5,.p false [.c (.int .i64 ((i:Nat):Int))])] [.row 3 1 (A0 Z5 d) 2,.row 4 1 (A0 ZgO a) 2] st) [] [48,80] (by decide) ?_ ?_ ?_
 simp only[*,go_sem,seval]
 rintro _ _ a ⟨sl,ob,n⟩ _ b e j h _
 simp only[go_sem,seval,Zc] at e
 obtain ⟨⟨_,_,_⟩,k,_,hn⟩:=e
 subst hn
 have l:=WF.rowL j k
 have:=ZB b
 have:=ZC b
 have:=Zj (ZA b) l
 obtain ⟨m,h⟩:=Zs h
 try simp only[Nat.reduceLeDiff] at m
 simp only[*,go_sem,seval]
 refine ⟨_,[],[0,178],(A3 h).symm,by decide,?_⟩
 simp only[*,go_sem,seval]
 rintro a ⟨sl,ob,n⟩ f _ h
 simp only[go_sem,seval,Zc] at f
 obtain ⟨⟨_,_,_⟩,_,_,hn⟩:=f
 subst hn
 have:=Zz (d.length)
 cases h
 simp only[*,go_sem,seval]
end
section
set_option linter.unusedSimpArgs false
set_option linter.unusedVariables false
set_option maxRecDepth 1000000
set_option maxHeartbeats 4000000
theorem Zlm {x_0:Zr} {b_1:(List Zp)} {facts_2:(List Zd)} {r:Bool} (h:Zb5 x_0 b_1 facts_2=some r):Zl prog J0 137 [(true,ZK x_0),(false,[.sl 135 2 (A0 ZZ b_1)]),(false,[.sl 71 2 (A0 Zq facts_2)])] [(false,[(false,.bool r)])]:=by
 refine fnk func137 rfl ?_
 unfold Zb5 at h
 simp only[fnS,f137,Zm,go_sem,seval]
 refine Za h fun _ a h=>Zb (Zfj a) ?_
 simp only[*,go_sem,seval]
 refine Ze h (fun _ h=>?_) fun _ h=>?_<;>try simp only[*,go_sem,seval]
 refine Za h fun _ b h=>Zb (Qk b) ?_
 simp only[*,go_sem,seval]
 iterate 2 refine Ze h (fun _ h=>?_) fun _ h=>?_<;>try simp only[*,go_sem,seval]
 refine Za h fun _ c h=>Zb (Zcx c) ?_
 cases h
 simp only[*,go_sem,seval]
 refine Ze h (fun _ h=>?_) fun _ h=>?_<;>try simp only[*,go_sem,seval]
 refine Za h fun _ d h=>Zb (Zcx d) ?_
 cases h
 simp only[*,go_sem,seval]
 refine Za h fun _ e h=>Zb (ZjX e) ?_
 iterate 3 (cases h;simp only[*,go_sem,seval])
theorem ZlH {l_0:(List Zf)} {r:Bool} (h:ZcN l_0=some r):Zl prog J0 274 [(false,[.sl 104 4 (A0 ZG l_0)])] [(false,[(false,.bool r)])]:=by
 refine fnk func274 rfl ?_
 unfold ZcN at h
 simp only[fnS,f274,Zm,go_sem,seval]
 refine Ze h (fun _ h=>?_) fun _ h=>?_<;>try simp only[*,go_sem,seval]
 cases h
 simp only[*,go_sem,seval]
 refine Zh h (fun i _ st=>IV [(0,.p false [.c (.sl 104 4 (A0 ZG l_0))]),(8,.p false [.c (.sl 104 4 (A0 ZG l_0))]),(9,.p false [.c (.int .i64 ((l_0.length:Nat):Int))]),(10,.p false [.c (.int .i64 ((i:Nat):Int))])] [] st) [] [] (by decide) ?_ ?_ ?_
 simp only[*,go_sem,seval]
 rintro _ _ ⟨⟩ ⟨sl,ob,n⟩ _ a b f h d
 simp only[go_sem,seval,Zc] at b
 obtain ⟨⟨g,_,_,_⟩,hn⟩:=b
 subst hn
 have k:=WF.slotL f g (j:=0) rfl
 have:=ZB a
 have:=ZC a
 have:=Zj (ZA a) k
 simp only[*,go_sem,seval]
 refine Za h fun _ l h=>Zb (Zji l) ?_
 simp only[*,go_sem,seval]
 refine Ze h (fun _ h=>?_) fun _ h=>?_<;>try simp only[*,go_sem,seval]
 refine Za h fun _ m h=>Zb (ZlR m) ?_
 simp only[*,go_sem,seval]
 refine Ze h (fun _ h=>?_) fun _ h=>?_<;>try simp only[*,go_sem,seval]
 replace h:=Zo h d
 cases h
 simp only[*,go_sem,seval]
 refine ⟨_,[],[],(A3 h).symm,by decide,?_⟩
 simp only[*,go_sem,seval]
 replace h:=Zo h d
 cases h
 simp only[*,go_sem,seval]
 rintro ⟨⟩ ⟨sl,ob,n⟩ e _ h
 simp only[go_sem,seval,Zc] at e
 obtain ⟨⟨_,_,_,_⟩,hn⟩:=e
 subst hn
 have:=Zz (l_0.length)
 cases h
 simp only[*,go_sem,seval]
theorem ZkE {r_0:Zf} {r:Bool} (h:ZbU r_0=some r):Zl prog J0 275 [(true,ZG r_0)] [(false,[(false,.bool r)])]:=by
 refine fnk func275 rfl ?_
 unfold ZbU at h
 simp only[fnS,f275,Zm,go_sem,seval]
 refine Za h fun _ l h=>Zb (Zji l) ?_
 simp only[*,go_sem,seval]
 refine Ze h (fun _ h=>?_) fun _ h=>?_<;>try simp only[*,go_sem,seval]
 refine Za h fun _ m h=>Zb (ZlZ m) ?_
 simp only[*,go_sem,seval]
 refine Ze h (fun _ h=>?_) fun _ h=>?_<;>try simp only[*,go_sem,seval]
 refine Zh h (fun i _ st=>IV [(1,.bp 0 0),(17,.p false [.c (.sl 60 5 (A0 ZK r_0.cond))]),(18,.p false [.c (.int .i64 ((r_0.cond.length:Nat):Int))]),(19,.p false [.c (.int .i64 ((i:Nat):Int))])] [.box 104 [.c (.str r_0.name),.c (.int .i64 r_0.priority),.c (.sl 60 5 (A0 ZK r_0.cond)),.c (.sl 166 3 (A0 ZD r_0.thn))]] st) [] [0] (by decide) ?_ ?_ ?_
 simp only[*,go_sem,seval]
 rintro o _ ⟨⟩ ⟨sl,ob,n⟩ _ a e q h t
 simp only[go_sem,seval,Zc] at e
 obtain ⟨⟨_,u,_,_⟩,_,hn⟩:=e
 subst hn
 have v:=WF.slotL q u (j:=0) rfl
 have:=ZB a
 have:=ZC a
 have:=Zj (ZA a) v
 simp only[*,go_sem,seval]
 refine Ze h (fun _ h=>?_) fun _ h=>?_<;>try simp only[*,go_sem,seval]
 refine ⟨_,[],[0],(A3 h).symm,by decide,?_⟩
 simp only[*,go_sem,seval]
 refine Za h fun w x h=>Zb (ZcQ x) ?_
 simp only[*,go_sem,seval]
 refine Za h fun b y h=>Zb (ZbA y) ?_
 simp only[*,go_sem,seval]
 refine Zh h (fun i _ st=>IV [(1,.bp 0 0),(5,.p false [.row 1]),(17,.p false [.c (.sl 60 5 (A0 ZK r_0.cond))]),(18,.p false [.c (.int .i64 ((r_0.cond.length:Nat):Int))]),(19,.p false [.c (.int .i64 ((o:Nat):Int))]),(31,.p false [.row 2]),(32,.p false [.c (.int .i64 ((b.length:Nat):Int))]),(33,.p false [.c (.int .i64 ((i:Nat):Int))])] [.box 104 [.c (.str r_0.name),.c (.int .i64 r_0.priority),.c (.sl 60 5 (A0 ZK r_0.cond)),.c (.sl 166 3 (A0 ZD r_0.thn))],.row 9 1 (A0 Zw w) 2,.row 9 1 (A0 Zw b) 2] st) [] [0,193,241] (by decide) ?_ ?_ ?_
 simp only[*,go_sem,seval]
 rintro _ _ ⟨⟩ ⟨sl,ob,n⟩ _ d f z h A
 simp only[go_sem,seval,Zc] at f
 obtain ⟨⟨_,_,_,_,_,_,_,_⟩,_,_,B,hn⟩:=f
 subst hn
 have C:=WF.rowL z B
 have:=ZB d
 have:=ZC d
 have:=Zj (ZA d) C
 simp only[*,go_sem,seval]
 refine Za h fun _ D h=>Zb (QT D) ?_
 simp only[*,go_sem,seval]
 refine Ze h (fun _ h=>?_) fun _ h=>?_<;>try simp only[*,go_sem,seval]
 refine ⟨_,[],[0,1,2],(A3 h).symm,by decide,?_⟩
 simp only[*,go_sem,seval]
 replace h:=Zo h A
 replace h:=Zo h t
 cases h
 simp only[*,go_sem,seval]
 rintro ⟨⟩ ⟨sl,ob,n⟩ g _ h
 simp only[go_sem,seval,Zc] at g
 obtain ⟨⟨_,_,_,_,_,_,_,_⟩,_,_,_,hn⟩:=g
 subst hn
 have:=Zz (b.length)
 simp only[*,go_sem,seval]
 refine ⟨_,[],[0],(A3 h).symm,by decide,?_⟩
 simp only[*,go_sem,seval]
 rintro ⟨⟩ ⟨sl,ob,n⟩ k _ h
 simp only[go_sem,seval,Zc] at k
 obtain ⟨⟨_,_,_,_⟩,_,hn⟩:=k
 subst hn
 have:=Zz (r_0.cond.length)
 iterate 3 (cases h;simp only[*,go_sem,seval])
theorem Zf1 {append_0:Zf} {r:Bool} (h:ZbX append_0=some r):Zl prog J0 87 [(true,ZG append_0)] [(false,[(false,.bool r)])]:=by
 refine fnk func87 rfl ?_
 unfold ZbX at h
 simp only[fnS,f87,Zm,go_sem,seval]
 refine Za h fun _ H h=>Zb (ZfW H) ?_
 simp only[*,go_sem,seval]
 refine Ze h (fun _ h=>?_) fun _ h=>?_<;>try simp only[*,go_sem,seval]
 refine Za h fun _ I h=>Zb (Zat I) ?_
 simp only[*,go_sem,seval]
 refine Ze h (fun _ h=>?_) fun _ h=>?_<;>try simp only[*,go_sem,seval]
 refine Za h fun _ J h=>Zb (Zat J) ?_
 simp only[*,go_sem,seval]
 refine Ze h (fun _ h=>?_) fun _ h=>?_<;>try simp only[*,go_sem,seval]
 refine Za h fun _ K h=>Zb (Zat K) ?_
 simp only[*,go_sem,seval]
 refine Ze h (fun _ h=>?_) fun _ h=>?_<;>try simp only[*,go_sem,seval]
 refine Za h fun e L h=>Zb (ZaS L) ?_
 simp only[*,go_sem,seval]
 refine Zh h (fun i _ st=>IV [(1,.bp 0 0),(3,.p false [.row 1]),(4,.p false [.c (.int .i64 ((i:Nat):Int))])] [.box 104 [.c (.str append_0.name),.c (.int .i64 append_0.priority),.c (.sl 60 5 (A0 ZK append_0.cond)),.c (.sl 166 3 (A0 ZD append_0.thn))],.row 9 1 (A0 Zw e) 2] st) [] [0,480] (by decide) ?_ ?_ ?_
 simp only[*,go_sem,seval]
 rintro b a ⟨⟩ ⟨sl,ob,n⟩ _ f o M h d
 simp only[go_sem,seval,Zc] at o
 obtain ⟨⟨_,_,_⟩,N,_,hn⟩:=o
 subst hn
 have O:=WF.boxL M N (j:=2) rfl
 have:=ZB f
 have:=ZC f
 have:=Zj (ZA f) O
 simp only[*,go_sem,seval]
 refine Za h fun _ P h=>Zb (Zdw P) ?_
 simp only[*,go_sem,seval]
 iterate 3 refine Ze h (fun _ h=>?_) fun _ h=>?_<;>try simp only[*,go_sem,seval]
 replace h:=Zo h d
 cases h
 simp only[*,go_sem,seval]
 refine Za h fun Q R h=>Zb (ZaS R) ?_
 simp only[*,go_sem,seval]
 refine Za h fun q S h=>Zb (Q7 S) ?_
 simp only[*,go_sem,seval]
 refine Zh h (fun i _ st=>IV [(1,.bp 0 0),(3,.p false [.row 1]),(4,.p false [.c (.int .i64 ((b:Nat):Int))]),(5,.bp 2 0),(6,.p false [.row 3]),(7,.p false [.row 4]),(8,.p false [.c (.int .i64 ((i:Nat):Int))]),(58,.p false [.c (.int .i64 ((b:Nat):Int))]),(59,.p false [.c (.bool (((b:Nat):Int)==0))]),(60,.p false [.c (.bool (((b:Nat):Int)==0))]),(61,.bp 2 0),(62,.p false [.c (.int .i64 a.kind)]),(63,.p false [.c (.bool (a.kind != 1))]),(64,.p false [.c (.bool (a.kind != 1))])] [.box 104 [.c (.str append_0.name),.c (.int .i64 append_0.priority),.c (.sl 60 5 (A0 ZK append_0.cond)),.c (.sl 166 3 (A0 ZD append_0.thn))],.row 9 1 (A0 Zw e) 2,.box 60 [.c (.int .i64 a.kind),.c (.str a.pattern.rel),.c (.sl 9 1 (A0 Zw a.pattern.args)),.c (.str a.left),.c (.str a.right)],.row 9 1 (A0 Zw Q) 2,.row 9 1 (A0 Zw q) 2] st) [] [0,1,162,418,466] (by decide) ?_ ?_ ?_
 simp only[*,go_sem,seval]
 rintro _ _ ⟨⟩ ⟨sl,ob,n⟩ _ g t T h u
 simp only[go_sem,seval,Zc] at t
 obtain ⟨⟨_,_,_,_,_,_,_,_,_,_,_,_,_,_⟩,_,_,_,_,U,hn⟩:=t
 subst hn
 have V:=WF.rowL T U
 have:=ZB g
 have:=ZC g
 have:=Zj (ZA g) V
 simp only[*,go_sem,seval]
 refine Za h fun _ W h=>Zb (Ym W) ?_
 simp only[*,go_sem,seval]
 refine Za h fun _ X h=>Zb (Zf4 X) ?_
 simp only[*,go_sem,seval]
 iterate 3 refine Ze h (fun _ h=>?_) fun _ h=>?_<;>try simp only[*,go_sem,seval]
 refine ⟨_,[],[0,1,2,3,4],(A3 h).symm,by decide,?_⟩
 simp only[*,go_sem,seval]
 refine ⟨_,[],[0,1,2,3,4],(A3 h).symm,by decide,?_⟩
 simp only[*,go_sem,seval]
 replace h:=Zo h u
 replace h:=Zo h d
 cases h
 simp only[*,go_sem,seval]
 iterate 2 refine Ze h (fun _ h=>?_) fun _ h=>?_<;>try simp only[*,go_sem,seval]
 refine ⟨_,[],[0,1,2,3,4],(A3 h).symm,by decide,?_⟩
 simp only[*,go_sem,seval]
 refine Za h fun _ Y h=>Zb (Zem Y) ?_
 simp only[*,go_sem,seval]
 refine Ze h (fun _ h=>?_) fun _ h=>?_<;>try simp only[*,go_sem,seval]
 replace h:=Zo h u
 replace h:=Zo h d
 cases h
 simp only[*,go_sem,seval]
 refine ⟨_,[],[0,1,2,3,4],(A3 h).symm,by decide,?_⟩
 simp only[*,go_sem,seval]
 refine ⟨_,[],[0,1,2,3,4],(A3 h).symm,by decide,?_⟩
 simp only[*,go_sem,seval]
 rintro ⟨⟩ ⟨sl,ob,n⟩ v _ h
 simp only[go_sem,seval,Zc] at v
 obtain ⟨⟨_,_,_,_,_,_,_,_,_,_,_,_,_,_⟩,_,_,_,_,_,hn⟩:=v
 subst hn
 have:=Zz (q.length)
 simp only[*,go_sem,seval]
 refine ⟨_,[],[0,1],(A3 h).symm,by decide,?_⟩
 simp only[*,go_sem,seval]
 refine Za h fun Z aa h=>Zb (ZaS aa) ?_
 simp only[*,go_sem,seval]
 refine Za h fun w ab h=>Zb (Q7 ab) ?_
 simp only[*,go_sem,seval]
 refine Zh h (fun i _ st=>IV [(1,.bp 0 0),(3,.p false [.row 1]),(4,.p false [.c (.int .i64 ((b:Nat):Int))]),(5,.bp 2 0),(6,.p false [.row 3]),(7,.p false [.row 4]),(8,.p false [.c (.int .i64 ((i:Nat):Int))]),(58,.p false [.c (.int .i64 ((b:Nat):Int))]),(59,.p false [.c (.bool (((b:Nat):Int)==0))]),(60,.p false [.c (.bool (((b:Nat):Int)==0))]),(64,.p false [.c (.bool false)])] [.box 104 [.c (.str append_0.name),.c (.int .i64 append_0.priority),.c (.sl 60 5 (A0 ZK append_0.cond)),.c (.sl 166 3 (A0 ZD append_0.thn))],.row 9 1 (A0 Zw e) 2,.box 60 [.c (.int .i64 a.kind),.c (.str a.pattern.rel),.c (.sl 9 1 (A0 Zw a.pattern.args)),.c (.str a.left),.c (.str a.right)],.row 9 1 (A0 Zw Z) 2,.row 9 1 (A0 Zw w) 2] st) [] [0,1,162,418,466] (by decide) ?_ ?_ ?_
 simp only[*,go_sem,seval]
 rintro _ _ ⟨⟩ ⟨sl,ob,n⟩ _ k x ac h y
 simp only[go_sem,seval,Zc] at x
 obtain ⟨⟨_,_,_,_,_,_,_,_,_,_,_⟩,_,_,_,_,ad,hn⟩:=x
 subst hn
 have ae:=WF.rowL ac ad
 have:=ZB k
 have:=ZC k
 have:=Zj (ZA k) ae
 simp only[*,go_sem,seval]
 refine Za h fun _ af h=>Zb (Ym af) ?_
 simp only[*,go_sem,seval]
 refine Za h fun _ ag h=>Zb (Zf4 ag) ?_
 simp only[*,go_sem,seval]
 iterate 3 refine Ze h (fun _ h=>?_) fun _ h=>?_<;>try simp only[*,go_sem,seval]
 refine ⟨_,[],[0,1,2,3,4],(A3 h).symm,by decide,?_⟩
 simp only[*,go_sem,seval]
 refine ⟨_,[],[0,1,2,3,4],(A3 h).symm,by decide,?_⟩
 simp only[*,go_sem,seval]
 replace h:=Zo h y
 replace h:=Zo h d
 cases h
 simp only[*,go_sem,seval]
 iterate 2 refine Ze h (fun _ h=>?_) fun _ h=>?_<;>try simp only[*,go_sem,seval]
 refine ⟨_,[],[0,1,2,3,4],(A3 h).symm,by decide,?_⟩
 simp only[*,go_sem,seval]
 refine Za h fun _ ah h=>Zb (Zem ah) ?_
 simp only[*,go_sem,seval]
 refine Ze h (fun _ h=>?_) fun _ h=>?_<;>try simp only[*,go_sem,seval]
 replace h:=Zo h y
 replace h:=Zo h d
 cases h
 simp only[*,go_sem,seval]
 refine ⟨_,[],[0,1,2,3,4],(A3 h).symm,by decide,?_⟩
 simp only[*,go_sem,seval]
 refine ⟨_,[],[0,1,2,3,4],(A3 h).symm,by decide,?_⟩
 simp only[*,go_sem,seval]
 rintro ⟨⟩ ⟨sl,ob,n⟩ z _ h
 simp only[go_sem,seval,Zc] at z
 obtain ⟨⟨_,_,_,_,_,_,_,_,_,_,_⟩,_,_,_,_,_,hn⟩:=z
 subst hn
 have:=Zz (w.length)
 simp only[*,go_sem,seval]
 refine ⟨_,[],[0,1],(A3 h).symm,by decide,?_⟩
 simp only[*,go_sem,seval]
 replace h:=Zo h d
 cases h
 simp only[*,go_sem,seval]
 rintro ⟨⟩ ⟨sl,ob,n⟩ A _ h
 simp only[go_sem,seval,Zc] at A
 obtain ⟨⟨_,_,_⟩,_,_,hn⟩:=A
 subst hn
 have:=Zz (append_0.cond.length)
 simp only[*,go_sem,seval]
 refine Zh h (fun i _ st=>IV [(1,.bp 0 0),(3,.p false [.row 1]),(10,.p false [.c (.int .i64 ((i:Nat):Int))])] [.box 104 [.c (.str append_0.name),.c (.int .i64 append_0.priority),.c (.sl 60 5 (A0 ZK append_0.cond)),.c (.sl 166 3 (A0 ZD append_0.thn))],.row 9 1 (A0 Zw e) 2] st) [] [0,1] (by decide) ?_ ?_ ?_
 simp only[*,go_sem,seval]
 rintro ai _ ⟨⟩ ⟨sl,ob,n⟩ _ l B aj h C
 simp only[go_sem,seval,Zc] at B
 obtain ⟨⟨_,_,_⟩,ak,_,hn⟩:=B
 subst hn
 have al:=WF.boxL aj ak (j:=3) rfl
 have:=ZB l
 have:=ZC l
 have:=Zj (ZA l) al
 simp only[*,go_sem,seval]
 refine Za h fun _ am h=>Zb (ZlF am) ?_
 simp only[*,go_sem,seval]
 refine Ze h (fun _ h=>?_) fun _ h=>?_<;>try simp only[*,go_sem,seval]
 refine Za h fun D an h=>Zb (ZbQ an) ?_
 simp only[*,go_sem,seval]
 refine Zh h (fun i _ st=>IV [(1,.bp 0 0),(3,.p false [.row 1]),(10,.p false [.c (.int .i64 ((ai:Nat):Int))]),(11,.p false [.row 2]),(12,.p false [.c (.int .i64 ((i:Nat):Int))])] [.box 104 [.c (.str append_0.name),.c (.int .i64 append_0.priority),.c (.sl 60 5 (A0 ZK append_0.cond)),.c (.sl 166 3 (A0 ZD append_0.thn))],.row 9 1 (A0 Zw e) 2,.row 9 1 (A0 Zw D) 2] st) [] [0,1,290] (by decide) ?_ ?_ ?_
 simp only[*,go_sem,seval]
 rintro _ _ ⟨⟩ ⟨sl,ob,n⟩ _ m E ao h ap
 simp only[go_sem,seval,Zc] at E
 obtain ⟨⟨_,_,_,_,_⟩,_,_,aq,hn⟩:=E
 subst hn
 have ar:=WF.rowL ao aq
 have:=ZB m
 have:=ZC m
 have:=Zj (ZA m) ar
 simp only[*,go_sem,seval]
 refine Za h fun _ au h=>Zb (Ym au) ?_
 simp only[*,go_sem,seval]
 refine Ze h (fun _ h=>?_) fun _ h=>?_<;>try simp only[*,go_sem,seval]
 refine ⟨_,[],[0,1,2],(A3 h).symm,by decide,?_⟩
 simp only[*,go_sem,seval]
 replace h:=Zo h ap
 replace h:=Zo h C
 cases h
 simp only[*,go_sem,seval]
 rintro ⟨⟩ ⟨sl,ob,n⟩ F _ h
 simp only[go_sem,seval,Zc] at F
 obtain ⟨⟨_,_,_,_,_⟩,_,_,_,hn⟩:=F
 subst hn
 have:=Zz (D.length)
 simp only[*,go_sem,seval]
 refine ⟨_,[],[0,1],(A3 h).symm,by decide,?_⟩
 simp only[*,go_sem,seval]
 replace h:=Zo h C
 cases h
 simp only[*,go_sem,seval]
 rintro ⟨⟩ ⟨sl,ob,n⟩ G _ h
 simp only[go_sem,seval,Zc] at G
 obtain ⟨⟨_,_,_⟩,_,_,hn⟩:=G
 subst hn
 have:=Zz (append_0.thn.length)
 simp only[*,go_sem,seval]
 refine Za h fun _ av h=>Zb (Zl1 av) ?_
 iterate 5 (cases h;simp only[*,go_sem,seval])
theorem ZjR {x_0:Zr} {b_1:(List Zp)} {r:Bool} (h:ZbO x_0 b_1=some r):Zl prog J0 91 [(true,ZK x_0),(false,[.sl 135 2 (A0 ZZ b_1)])] [(false,[(false,.bool r)])]:=by
 refine fnk func91 rfl ?_
 unfold ZbO at h
 simp only[fnS,f91,Zm,go_sem,seval]
 refine Za h fun _ a h=>Zb (Zf4 a) ?_
 simp only[*,go_sem,seval]
 refine Ze h (fun _ h=>?_) fun _ h=>?_<;>try simp only[*,go_sem,seval]
 refine Za h fun _ b h=>Zb (Qy b) ?_
 simp only[*,go_sem,seval]
 refine Ze h (fun _ h=>?_) fun _ h=>?_<;>try simp only[*,go_sem,seval]
 refine Za h fun _ c h=>Zb (Zcl c) ?_
 simp only[*,go_sem,seval]
 refine Za h fun _ d h=>Zb (Zcl d) ?_
 simp only[*,go_sem,seval]
 iterate 3 refine Ze h (fun _ h=>?_) fun _ h=>?_<;>try simp only[*,go_sem,seval]
 cases h
 simp only[*,go_sem,seval]
 refine Ze h (fun _ h=>?_) fun _ h=>?_<;>try simp only[*,go_sem,seval]
 cases h
 simp only[*,go_sem,seval]
 refine Za h fun _ e h=>Zb (ZgK e) ?_
 simp only[*,go_sem,seval]
 refine Ze h (fun _ h=>?_) fun _ h=>?_<;>try simp only[*,go_sem,seval]
 refine Za h fun _ f h=>Zb (ZgK f) ?_
 simp only[*,go_sem,seval]
 refine Ze h (fun _ h=>?_) fun _ h=>?_<;>try simp only[*,go_sem,seval]
 refine Za h fun _ g h=>Zb (Zdr g) ?_
 iterate 7 (cases h;simp only[*,go_sem,seval])
theorem ZJE {l_0:(List Zd)} {b_1:Zu} {r:(List Zd)} (h:ZI0 l_0 b_1=some r):Zl prog J0 86 [(false,[.sl 71 2 (A0 Zq l_0)]),(true,Qw b_1)] [(false,[(false,.sl 71 2 (A0 Zq r))])]:=by
 refine fnk func86 rfl ?_
 unfold ZI0 at h
 simp only[fnS,f86,Zm,go_sem,seval]
 refine Za h fun f g h=>Zb (ZJj g) ?_
 simp only[*,go_sem,seval]
 refine Zh h (fun i a st=>IV [(0,.p false [.c (.sl 71 2 (A0 Zq l_0))]),(5,.p false [.row 0]),(6,.p false [.row 1]),(7,.p false [.c (.int .i64 ((i:Nat):Int))])] [.row 71 2 (A0 Zq a) 2,.row 4 1 (A0 ZgO f) 2] st) [] [32,80] (by decide) ?_ ?_ ?_
 simp only[*,go_sem,seval]
 rintro _ _ a ⟨sl,ob,n⟩ _ b d k h l
 simp only[go_sem,seval,Zc] at d
 obtain ⟨⟨m,_,_,_⟩,_,_,hn⟩:=d
 subst hn
 have o:=WF.slotL k m (j:=0) rfl
 have:=ZB b
 have:=ZC b
 have:=Zj (ZA b) o
 simp only[*,go_sem,seval]
 refine Ze h (fun _ h=>?_) fun _ h=>?_<;>try simp only[*,go_sem,seval]
 obtain ⟨_,h⟩:=Zs h
 obtain ⟨_,_,h⟩:=ZJ h
 simp only[*,go_sem,seval]
 refine Ze h (fun _ h=>?_) fun _ h=>?_<;>try simp only[*,go_sem,seval]
 refine Za h fun _ q h=>Zb (Xr q) ?_
 obtain ⟨t,h⟩:=Zs h
 try simp only[Nat.reduceLeDiff] at t
 simp only[*,go_sem,seval]
 refine ⟨_,[],[338,1],(A3 h).symm,by decide,?_⟩
 simp only[*,go_sem,seval]
 refine ⟨_,[],[0,1],(A3 h).symm,by decide,?_⟩
 simp only[*,go_sem,seval]
 replace h:=Zo h l
 cases h
 simp only[*,go_sem,seval]
 rintro a ⟨sl,ob,n⟩ e _ h
 simp only[go_sem,seval,Zc] at e
 obtain ⟨⟨_,_,_,_⟩,_,_,hn⟩:=e
 subst hn
 have:=Zz (l_0.length)
 cases h
 simp only[*,go_sem,seval]
end
section
set_option linter.unusedSimpArgs false
set_option linter.unusedVariables false
set_option maxRecDepth 1000000
set_option maxHeartbeats 4000000
theorem ZgT {append_0:(List Zr)} {String_1:(List Zd)} {r:(List Zt)} (h:Zam append_0 String_1=some r):Zl prog J0 77 [(false,[.sl 60 5 (A0 ZK append_0)]),(false,[.sl 71 2 (A0 Zq String_1)])] [(false,[(true,.sl 118 2 (A0 YE r))])]:=by
 refine fnk func77 rfl ?_
 unfold Zam at h
 simp only[fnS,f77,Zm,go_sem,seval]
 refine Zh h (fun i b st=>IV [(1,.p false [.c (.sl 71 2 (A0 Zq String_1))]),(5,.p false [.row 0]),(17,.p false [.c (.sl 60 5 (A0 ZK append_0))]),(18,.p false [.c (.int .i64 ((append_0.length:Nat):Int))]),(19,.p false [.c (.int .i64 ((i:Nat):Int))])] [.row 118 2 (A0 YE b) 1] st) [(true,32,1)] [32] (by decide) ?_ ?_ ?_
 simp only[*,go_sem,seval]
 rintro l a b ⟨sl,ob,n⟩ _ d m x h _
 simp only[go_sem,seval,Zc] at m
 obtain ⟨⟨_,_,y,_,_⟩,_,hn⟩:=m
 subst hn
 have z:=WF.slotL x y (j:=0) rfl
 have:=ZB d
 have:=ZC d
 have:=Zj (ZA d) z
 simp only[*,go_sem,seval]
 refine Zh h (fun i e st=>IV [(1,.p false [.c (.sl 71 2 (A0 Zq String_1))]),(7,.bp 0 0),(8,.p false [.row 1]),(17,.p false [.c (.sl 60 5 (A0 ZK append_0))]),(18,.p false [.c (.int .i64 ((append_0.length:Nat):Int))]),(19,.p false [.c (.int .i64 ((l:Nat):Int))]),(23,.p false [.row 2]),(24,.p false [.c (.int .i64 ((b.length:Nat):Int))]),(25,.p false [.c (.int .i64 ((i:Nat):Int))])] [.box 60 [.c (.int .i64 a.kind),.c (.str a.pattern.rel),.c (.sl 9 1 (A0 Zw a.pattern.args)),.c (.str a.left),.c (.str a.right)],.row 118 2 (A0 YE e) 1,.row 118 2 (A0 YE b) 1] st) [(false,8,0),(true,145,1)] [49,145,0] (by decide) ?_ ?_ ?_
 simp only[*,go_sem,seval]
 rintro A o e ⟨sl,ob,n⟩ _ f q B h _
 simp only[go_sem,seval,Zc] at q
 obtain ⟨⟨_,_,_,_,_,_,_,_,_⟩,_,_,C,hn⟩:=q
 subst hn
 have D:=WF.rowL B C
 have:=ZB f
 have:=ZC f
 have:=Zj (ZA f) D
 simp only[*,go_sem,seval]
 refine Ze h (fun _ h=>?_) fun _ h=>?_<;>try simp only[*,go_sem,seval]
 refine Za h fun _ E h=>Zb (Zlm E) ?_
 simp only[*,go_sem,seval]
 refine Ze h (fun _ h=>?_) fun _ h=>?_<;>try simp only[*,go_sem,seval]
 obtain ⟨F,h⟩:=Zs h
 try simp only[Nat.reduceLeDiff] at F
 simp only[*,go_sem,seval]
 refine ⟨_,[],[0,259,2],(A3 h).symm,by decide,?_⟩
 simp only[*,go_sem,seval]
 refine ⟨_,[],[0,1,2],(A3 h).symm,by decide,?_⟩
 simp only[*,go_sem,seval]
 refine Zh h (fun i g st=>IV [(1,.p false [.c (.sl 71 2 (A0 Zq String_1))]),(7,.bp 0 0),(8,.p false [.row 1]),(10,.bp 2 0),(17,.p false [.c (.sl 60 5 (A0 ZK append_0))]),(18,.p false [.c (.int .i64 ((append_0.length:Nat):Int))]),(19,.p false [.c (.int .i64 ((l:Nat):Int))]),(23,.p false [.row 3]),(24,.p false [.c (.int .i64 ((b.length:Nat):Int))]),(25,.p false [.c (.int .i64 ((A:Nat):Int))]),(41,.p false [.c (.sl 71 2 (A0 Zq String_1))]),(42,.p false [.c (.int .i64 ((String_1.length:Nat):Int))]),(43,.p false [.c (.int .i64 ((i:Nat):Int))])] [.box 60 [.c (.int .i64 a.kind),.c (.str a.pattern.rel),.c (.sl 9 1 (A0 Zw a.pattern.args)),.c (.str a.left),.c (.str a.right)],.row 118 2 (A0 YE g) 1,.box 118 [.c (.sl 71 2 (A0 Zq o.facts)),.c (.sl 135 2 (A0 ZZ o.binding))],.row 118 2 (A0 YE b) 1] st) [] [0,1,51,2] (by decide) ?_ ?_ ?_
 simp only[*,go_sem,seval]
 rintro _ _ g ⟨sl,ob,n⟩ _ k t G h _
 simp only[go_sem,seval,Zc] at t
 obtain ⟨⟨H,_,_,_,_,_,_,_,_,_,_,_,_⟩,_,_,_,_,hn⟩:=t
 subst hn
 have I:=WF.slotL G H (j:=0) rfl
 have:=ZB k
 have:=ZC k
 have:=Zj (ZA k) I
 simp only[*,go_sem,seval]
 refine Za h fun _ J h=>Zb (Zfk J) ?_
 simp only[*,go_sem,seval]
 refine Ze h (fun _ h=>?_) fun _ h=>?_<;>try simp only[*,go_sem,seval]
 refine Za h fun _ K h=>Zb (ZfY K) ?_
 simp only[*,go_sem,seval]
 refine Za h fun _ L h=>Zb (YC L) ?_
 obtain ⟨M,h⟩:=Zs h
 try simp only[Nat.reduceLeDiff] at M
 obtain ⟨N,h⟩:=Zs h
 try simp only[Nat.reduceLeDiff] at N
 simp only[*,go_sem,seval]
 refine ⟨_,[],[0,452,2,3],(A3 h).symm,by decide,?_⟩
 simp only[*,go_sem,seval]
 refine ⟨_,[],[0,1,2,3],(A3 h).symm,by decide,?_⟩
 simp only[*,go_sem,seval]
 rintro g ⟨sl,ob,n⟩ u _ h
 simp only[go_sem,seval,Zc] at u
 obtain ⟨⟨_,_,_,_,_,_,_,_,_,_,_,_,_⟩,_,_,_,_,hn⟩:=u
 subst hn
 have:=Zz (String_1.length)
 simp only[*,go_sem,seval]
 refine ⟨_,[],[0,1,3],(A3 h).symm,by decide,?_⟩
 simp only[*,go_sem,seval]
 rintro e ⟨sl,ob,n⟩ v _ h
 simp only[go_sem,seval,Zc] at v
 obtain ⟨⟨_,_,_,_,_,_,_,_,_⟩,_,_,_,hn⟩:=v
 subst hn
 have:=Zz (b.length)
 simp only[*,go_sem,seval]
 refine ⟨_,[],[1],(A3 h).symm,by decide,?_⟩
 simp only[*,go_sem,seval]
 rintro b ⟨sl,ob,n⟩ w _ h
 simp only[go_sem,seval,Zc] at w
 obtain ⟨⟨_,_,_,_,_⟩,_,hn⟩:=w
 subst hn
 have:=Zz (append_0.length)
 cases h
 simp only[*,go_sem,seval]
theorem Zjl {rules_0:(List Zf)} {r:Bool} (h:ZaP rules_0=some r):Zl prog J0 234 [(false,[.sl 104 4 (A0 ZG rules_0)])] [(false,[(false,.bool r)])]:=by
 refine fnk func234 rfl ?_
 unfold ZaP at h
 simp only[fnS,f234,Zm,go_sem,seval]
 refine Za h fun _ y h=>Zb (ZlH y) ?_
 simp only[*,go_sem,seval]
 refine Ze h (fun _ h=>?_) fun _ h=>?_<;>try simp only[*,go_sem,seval]
 refine Zh h (fun i _ st=>IV [(0,.p false [.c (.sl 104 4 (A0 ZG rules_0))]),(13,.p false [.c (.sl 104 4 (A0 ZG rules_0))]),(14,.p false [.c (.int .i64 ((rules_0.length:Nat):Int))]),(15,.p false [.c (.int .i64 ((i:Nat):Int))])] [] st) [] [] (by decide) ?_ ?_ ?_
 simp only[*,go_sem,seval]
 rintro l a ⟨⟩ ⟨sl,ob,n⟩ _ d m z h e
 simp only[go_sem,seval,Zc] at m
 obtain ⟨⟨A,_,_,_⟩,hn⟩:=m
 subst hn
 have B:=WF.slotL z A (j:=0) rfl
 have:=ZB d
 have:=ZC d
 have:=Zj (ZA d) B
 simp only[*,go_sem,seval]
 refine Za h fun _ C h=>Zb (ZkE C) ?_
 simp only[*,go_sem,seval]
 refine Ze h (fun _ h=>?_) fun _ h=>?_<;>try simp only[*,go_sem,seval]
 refine Zh h (fun i _ st=>IV [(0,.p false [.c (.sl 104 4 (A0 ZG rules_0))]),(4,.bp 0 0),(13,.p false [.c (.sl 104 4 (A0 ZG rules_0))]),(14,.p false [.c (.int .i64 ((rules_0.length:Nat):Int))]),(15,.p false [.c (.int .i64 ((l:Nat):Int))]),(23,.p false [.c (.sl 60 5 (A0 ZK a.cond))]),(24,.p false [.c (.int .i64 ((a.cond.length:Nat):Int))]),(25,.p false [.c (.int .i64 ((i:Nat):Int))])] [.box 104 [.c (.str a.name),.c (.int .i64 a.priority),.c (.sl 60 5 (A0 ZK a.cond)),.c (.sl 166 3 (A0 ZD a.thn))]] st) [] [48] (by decide) ?_ ?_ ?_
 simp only[*,go_sem,seval]
 rintro D b ⟨⟩ ⟨sl,ob,n⟩ _ f o E h q
 simp only[go_sem,seval,Zc] at o
 obtain ⟨⟨_,_,_,_,_,F,_,_⟩,_,hn⟩:=o
 subst hn
 have G:=WF.slotL E F (j:=0) rfl
 have:=ZB f
 have:=ZC f
 have:=Zj (ZA f) G
 simp only[*,go_sem,seval]
 refine Ze h (fun _ h=>?_) fun _ h=>?_<;>try simp only[*,go_sem,seval]
 refine ⟨_,[],[0],(A3 h).symm,by decide,?_⟩
 simp only[*,go_sem,seval]
 obtain ⟨H,I,h⟩:=ZJ h
 refine Zyh (ZlX I) ?_
 simp only[*,go_sem,seval]
 refine Za h fun g J h=>Zb (ZgC J) ?_
 simp only[*,go_sem,seval]
 refine Zh h (fun i _ st=>IV [(0,.p false [.c (.sl 104 4 (A0 ZG rules_0))]),(4,.bp 0 0),(6,.bp 1 0),(7,.p false [.row 2]),(13,.p false [.c (.sl 104 4 (A0 ZG rules_0))]),(14,.p false [.c (.int .i64 ((rules_0.length:Nat):Int))]),(15,.p false [.c (.int .i64 ((l:Nat):Int))]),(23,.p false [.c (.sl 60 5 (A0 ZK a.cond))]),(24,.p false [.c (.int .i64 ((a.cond.length:Nat):Int))]),(25,.p false [.c (.int .i64 ((D:Nat):Int))]),(38,.p false [.row 3]),(39,.p false [.c (.int .i64 ((g.length:Nat):Int))]),(40,.p false [.c (.int .i64 ((i:Nat):Int))])] [.box 104 [.c (.str a.name),.c (.int .i64 a.priority),.c (.sl 60 5 (A0 ZK a.cond)),.c (.sl 166 3 (A0 ZD a.thn))],.box 60 [.c (.int .i64 b.kind),.c (.str b.pattern.rel),.c (.sl 9 1 (A0 Zw b.pattern.args)),.c (.str b.left),.c (.str b.right)],.map .str .bool (A0 eSB H),.row 9 1 (A0 Zw g) 2] st) [] [0,49,193,241] (by decide) ?_ ?_ ?_
 simp only[*,go_sem,seval]
 rintro _ _ ⟨⟩ ⟨sl,ob,n⟩ _ k t K h u
 simp only[go_sem,seval,Zc] at t
 obtain ⟨⟨_,_,_,_,_,_,_,_,_,_,_,_,_⟩,_,_,_,L,hn⟩:=t
 subst hn
 have M:=WF.rowL K L
 have:=ZB k
 have:=ZC k
 have:=Zj (ZA k) M
 simp only[*,go_sem,seval]
 refine Ze h (fun _ h=>?_) fun _ h=>?_<;>try simp only[*,go_sem,seval]
 replace h:=Zo h u
 replace h:=Zo h q
 replace h:=Zo h e
 cases h
 simp only[*,go_sem,seval]
 refine Ze h (fun _ h=>?_) fun _ h=>?_<;>try simp only[*,go_sem,seval]
 replace h:=Zo h u
 replace h:=Zo h q
 replace h:=Zo h e
 cases h
 simp only[*,go_sem,seval]
 refine ⟨_,[],[0,1,2,3],(A3 h).symm,by decide,?_⟩
 simp only[*,go_sem,seval]
 rintro ⟨⟩ ⟨sl,ob,n⟩ v _ h
 simp only[go_sem,seval,Zc] at v
 obtain ⟨⟨_,_,_,_,_,_,_,_,_,_,_,_,_⟩,_,_,_,_,hn⟩:=v
 subst hn
 have:=Zz (g.length)
 simp only[*,go_sem,seval]
 refine ⟨_,[],[0],(A3 h).symm,by decide,?_⟩
 simp only[*,go_sem,seval]
 rintro ⟨⟩ ⟨sl,ob,n⟩ w _ h
 simp only[go_sem,seval,Zc] at w
 obtain ⟨⟨_,_,_,_,_,_,_,_⟩,_,hn⟩:=w
 subst hn
 have:=Zz (a.cond.length)
 simp only[*,go_sem,seval]
 refine ⟨_,[],[],(A3 h).symm,by decide,?_⟩
 simp only[*,go_sem,seval]
 replace h:=Zo h e
 cases h
 simp only[*,go_sem,seval]
 rintro ⟨⟩ ⟨sl,ob,n⟩ x _ h
 simp only[go_sem,seval,Zc] at x
 obtain ⟨⟨_,_,_,_⟩,hn⟩:=x
 subst hn
 have:=Zz (rules_0.length)
 iterate 2 (cases h;simp only[*,go_sem,seval])
theorem ZkG {r_0:Zf} {r:Bool} (h:ZbL r_0=some r):Zl prog J0 184 [(true,ZG r_0)] [(false,[(false,.bool r)])]:=by
 refine fnk func184 rfl ?_
 unfold ZbL at h
 simp only[fnS,f184,Zm,go_sem,seval]
 refine Za h fun _ k h=>Zb (Zf1 k) ?_
 simp only[*,go_sem,seval]
 refine Ze h (fun _ h=>?_) fun _ h=>?_<;>try simp only[*,go_sem,seval]
 refine Zh h (fun i _ st=>IV [(1,.bp 0 0),(3,.p false [.c (.int .i64 ((i:Nat):Int))])] [.box 104 [.c (.str r_0.name),.c (.int .i64 r_0.priority),.c (.sl 60 5 (A0 ZK r_0.cond)),.c (.sl 166 3 (A0 ZD r_0.thn))]] st) [] [0] (by decide) ?_ ?_ ?_
 simp only[*,go_sem,seval]
 rintro _ _ ⟨⟩ ⟨sl,ob,n⟩ _ a d l h m
 simp only[go_sem,seval,Zc] at d
 obtain ⟨⟨_,_⟩,o,hn⟩:=d
 subst hn
 have q:=WF.boxL l o (j:=2) rfl
 have:=ZB a
 have:=ZC a
 have:=Zj (ZA a) q
 simp only[*,go_sem,seval]
 refine Ze h (fun _ h=>?_) fun _ h=>?_<;>try simp only[*,go_sem,seval]
 refine Za h fun _ t h=>Zb (Q7 t) ?_
 simp only[*,go_sem,seval]
 refine Za h fun _ u h=>Zb (ZaS u) ?_
 simp only[*,go_sem,seval]
 refine Za h fun _ v h=>Zb (ZlG v) ?_
 simp only[*,go_sem,seval]
 refine Ze h (fun _ h=>?_) fun _ h=>?_<;>try simp only[*,go_sem,seval]
 refine ⟨_,[],[0],(A3 h).symm,by decide,?_⟩
 simp only[*,go_sem,seval]
 replace h:=Zo h m
 cases h
 simp only[*,go_sem,seval]
 refine ⟨_,[],[0],(A3 h).symm,by decide,?_⟩
 simp only[*,go_sem,seval]
 rintro ⟨⟩ ⟨sl,ob,n⟩ e _ h
 simp only[go_sem,seval,Zc] at e
 obtain ⟨⟨_,_⟩,_,hn⟩:=e
 subst hn
 have:=Zz (r_0.cond.length)
 simp only[*,go_sem,seval]
 refine Zh h (fun i _ st=>IV [(1,.bp 0 0),(4,.p false [.c (.int .i64 ((i:Nat):Int))])] [.box 104 [.c (.str r_0.name),.c (.int .i64 r_0.priority),.c (.sl 60 5 (A0 ZK r_0.cond)),.c (.sl 166 3 (A0 ZD r_0.thn))]] st) [] [0] (by decide) ?_ ?_ ?_
 simp only[*,go_sem,seval]
 rintro _ _ ⟨⟩ ⟨sl,ob,n⟩ _ b f w h x
 simp only[go_sem,seval,Zc] at f
 obtain ⟨⟨_,_⟩,y,hn⟩:=f
 subst hn
 have z:=WF.boxL w y (j:=3) rfl
 have:=ZB b
 have:=ZC b
 have:=Zj (ZA b) z
 simp only[*,go_sem,seval]
 refine Ze h (fun _ h=>?_) fun _ h=>?_<;>try simp only[*,go_sem,seval]
 replace h:=Zo h x
 cases h
 simp only[*,go_sem,seval]
 refine ⟨_,[],[0],(A3 h).symm,by decide,?_⟩
 simp only[*,go_sem,seval]
 rintro ⟨⟩ ⟨sl,ob,n⟩ g _ h
 simp only[go_sem,seval,Zc] at g
 obtain ⟨⟨_,_⟩,_,hn⟩:=g
 subst hn
 have:=Zz (r_0.thn.length)
 iterate 2 (cases h;simp only[*,go_sem,seval])
theorem Zls {l_0:(List Zf)} {r:Bool} (h:Zcz l_0=some r):Zl prog J0 187 [(false,[.sl 104 4 (A0 ZG l_0)])] [(false,[(false,.bool r)])]:=by
 refine fnk func187 rfl ?_
 unfold Zcz at h
 simp only[fnS,f187,Zm,go_sem,seval]
 refine Zh h (fun i _ st=>IV [(0,.p false [.c (.sl 104 4 (A0 ZG l_0))]),(3,.p false [.c (.int .i64 ((i:Nat):Int))])] [] st) [] [] (by decide) ?_ ?_ ?_
 simp only[*,go_sem,seval]
 rintro _ _ ⟨⟩ ⟨sl,ob,n⟩ _ a b f h d
 simp only[go_sem,seval,Zc] at b
 obtain ⟨⟨g,_⟩,hn⟩:=b
 subst hn
 have k:=WF.slotL f g (j:=0) rfl
 have:=ZB a
 have:=ZC a
 have:=Zj (ZA a) k
 simp only[*,go_sem,seval]
 refine Za h fun _ l h=>Zb (Zf1 l) ?_
 simp only[*,go_sem,seval]
 refine Ze h (fun _ h=>?_) fun _ h=>?_<;>try simp only[*,go_sem,seval]
 refine Za h fun _ m h=>Zb (ZlV m) ?_
 simp only[*,go_sem,seval]
 refine Ze h (fun _ h=>?_) fun _ h=>?_<;>try simp only[*,go_sem,seval]
 replace h:=Zo h d
 cases h
 simp only[*,go_sem,seval]
 refine ⟨_,[],[],(A3 h).symm,by decide,?_⟩
 simp only[*,go_sem,seval]
 replace h:=Zo h d
 cases h
 simp only[*,go_sem,seval]
 rintro ⟨⟩ ⟨sl,ob,n⟩ e _ h
 simp only[go_sem,seval,Zc] at e
 obtain ⟨⟨_,_⟩,hn⟩:=e
 subst hn
 have:=Zz (l_0.length)
 cases h
 simp only[*,go_sem,seval]
theorem ZjH {x_0:Zr} {b_1:(List Zp)} {facts_2:(List Zd)} {r:Bool} (h:ZbV x_0 b_1 facts_2=some r):Zl prog J0 34 [(true,ZK x_0),(false,[.sl 135 2 (A0 ZZ b_1)]),(false,[.sl 71 2 (A0 Zq facts_2)])] [(false,[(false,.bool r)])]:=by
 refine fnk func34 rfl ?_
 unfold ZbV at h
 simp only[fnS,f34,Zm,go_sem,seval]
 refine Za h fun _ a h=>Zb (Zdw a) ?_
 simp only[*,go_sem,seval]
 refine Ze h (fun _ h=>?_) fun _ h=>?_<;>try simp only[*,go_sem,seval]
 refine Za h fun _ b h=>Zb (Qy b) ?_
 simp only[*,go_sem,seval]
 iterate 2 refine Ze h (fun _ h=>?_) fun _ h=>?_<;>try simp only[*,go_sem,seval]
 refine Za h fun _ c h=>Zb (Zdh c) ?_
 cases h
 simp only[*,go_sem,seval]
 refine Ze h (fun _ h=>?_) fun _ h=>?_<;>try simp only[*,go_sem,seval]
 refine Za h fun _ d h=>Zb (Zdh d) ?_
 cases h
 simp only[*,go_sem,seval]
 refine Za h fun _ e h=>Zb (ZjR e) ?_
 iterate 3 (cases h;simp only[*,go_sem,seval])
end
section
set_option linter.unusedSimpArgs false
set_option linter.unusedVariables false
set_option maxRecDepth 1000000
set_option maxHeartbeats 4000000
theorem Zg5 {a:(List Zf)} {String_1:(List Zd)} {r:((List Zd) × Bool)} (h:Yf a String_1=some r):Zl prog J0 172 [(false,[.sl 104 4 (A0 ZG a)]),(false,[.sl 71 2 (A0 Zq String_1)])] [(false,[(false,.sl 71 2 (A0 Zq r.1))]),(false,[(false,.bool r.2)])]:=by
 refine fnn 4 func172 rfl ?_
 unfold Yf at h
 simp only[fnN,f172,Zm,go_sem,seval]
 refine Za h fun _ H h=>Zb (Zjl H) ?_
 simp only[*,go_sem,seval]
 refine Ze h (fun _ h=>?_) fun _ h=>?_<;>try simp only[*,go_sem,seval]
 refine Za h fun _ I h=>Zb (ZlA I) ?_
 simp only[*,go_sem,seval]
 refine Ze h (fun _ h=>?_) fun _ h=>?_<;>try simp only[*,go_sem,seval]
 refine Za h fun _ J h=>Zb (ZfY J) ?_
 simp only[*,go_sem,seval]
 refine XH h (fun s st=>match s with | (v,w)=>IV [(0,.p false [.c (.sl 104 4 (A0 ZG a))]),(6,.p false [.n (.sl 71 2 (A0 Zq v))]),(7,.p false [.c (.bool w)])] [] st) [(false,6,4096)] [] (by decide) ?_ ?_
 simp only[*,go_sem,seval]
 rintro ⟨v,w⟩ ⟨sl,ob,n⟩ _ x _ h y
 simp only[go_sem,seval,Zc] at x
 obtain ⟨⟨_,_,_⟩,hn⟩:=x
 subst hn
 simp only[*,go_sem,seval]
 refine Ze h (fun _ h=>?_) fun _ h=>?_<;>try simp only[*,go_sem,seval]
 refine Zh h (fun i s st=>match s with | (f,g)=>IV [(0,.p false [.c (.sl 104 4 (A0 ZG a))]),(6,.p false [.n (.sl 71 2 (A0 Zq f))]),(7,.p false [.c (.bool g)]),(27,.p false [.c (.sl 104 4 (A0 ZG a))]),(28,.p false [.c (.int .i64 ((a.length:Nat):Int))]),(29,.p false [.c (.int .i64 ((i:Nat):Int))])] [] st) [] [] (by decide) ?_ ?_ ?_
 simp only[*,go_sem,seval]
 rintro z d ⟨f,g⟩ ⟨sl,ob,n⟩ _ k A K h L
 simp only[go_sem,seval,Zc] at A
 obtain ⟨⟨M,_,_,_,_,_⟩,hn⟩:=A
 subst hn
 have N:=WF.slotL K M (j:=0) rfl
 have:=ZB k
 have:=ZC k
 have:=Zj (ZA k) N
 simp only[*,go_sem,seval]
 obtain ⟨_,O,h⟩:=ZJ h
 refine ZkJ (Zeh O) ?_
 simp only[*,go_sem,seval]
 obtain ⟨e,P,h⟩:=ZJ h
 refine ZkJ (ZgT P) ?_
 simp only[*,go_sem,seval]
 refine Zh h (fun i s st=>match s with | (l,m)=>IV [(0,.p false [.c (.sl 104 4 (A0 ZG a))]),(6,.p false [.n (.sl 71 2 (A0 Zq l))]),(7,.p false [.c (.bool m)]),(9,.bp 0 0),(27,.p false [.c (.sl 104 4 (A0 ZG a))]),(28,.p false [.c (.int .i64 ((a.length:Nat):Int))]),(29,.p false [.c (.int .i64 ((z:Nat):Int))]),(36,.p false [.c (.sl 118 2 (A0 YE e))]),(37,.p false [.c (.int .i64 ((e.length:Nat):Int))]),(38,.p false [.c (.int .i64 ((i:Nat):Int))])] [.box 104 [.c (.str d.name),.c (.int .i64 d.priority),.c (.sl 60 5 (A0 ZK d.cond)),.c (.sl 166 3 (A0 ZD d.thn))]] st) [] [48] (by decide) ?_ ?_ ?_
 simp only[*,go_sem,seval]
 rintro Q B ⟨l,m⟩ ⟨sl,ob,n⟩ _ o C R h S
 simp only[go_sem,seval,Zc] at C
 obtain ⟨⟨_,_,_,_,_,_,_,T,_,_⟩,_,hn⟩:=C
 subst hn
 have U:=WF.slotL R T (j:=0) rfl
 have:=ZB o
 have:=ZC o
 have:=Zj (ZA o) U
 simp only[*,go_sem,seval]
 refine Zh h (fun i s st=>match s with | (q,t)=>IV [(0,.p false [.c (.sl 104 4 (A0 ZG a))]),(6,.p false [.n (.sl 71 2 (A0 Zq q))]),(7,.p false [.c (.bool t)]),(9,.bp 0 0),(11,.bp 1 0),(27,.p false [.c (.sl 104 4 (A0 ZG a))]),(28,.p false [.c (.int .i64 ((a.length:Nat):Int))]),(29,.p false [.c (.int .i64 ((z:Nat):Int))]),(36,.p false [.c (.sl 118 2 (A0 YE e))]),(37,.p false [.c (.int .i64 ((e.length:Nat):Int))]),(38,.p false [.c (.int .i64 ((Q:Nat):Int))]),(43,.p false [.c (.sl 166 3 (A0 ZD d.thn))]),(44,.p false [.c (.int .i64 ((d.thn.length:Nat):Int))]),(45,.p false [.c (.int .i64 ((i:Nat):Int))])] [.box 104 [.c (.str d.name),.c (.int .i64 d.priority),.c (.sl 60 5 (A0 ZK d.cond)),.c (.sl 166 3 (A0 ZD d.thn))],.box 118 [.c (.sl 71 2 (A0 Zq B.facts)),.c (.sl 135 2 (A0 ZZ B.binding))]] st) [] [0,49] (by decide) ?_ ?_ ?_
 simp only[*,go_sem,seval]
 rintro _ _ ⟨q,t⟩ ⟨sl,ob,n⟩ _ u D V h W
 simp only[go_sem,seval,Zc] at D
 obtain ⟨⟨_,_,_,_,_,_,_,_,_,_,_,X,_,_⟩,_,_,hn⟩:=D
 subst hn
 have Y:=WF.slotL V X (j:=0) rfl
 have:=ZB u
 have:=ZC u
 have:=Zj (ZA u) Y
 simp only[*,go_sem,seval]
 refine Za h fun _ Z h=>Zb (ZdP Z) ?_
 simp only[*,go_sem,seval]
 refine Za h fun _ aa h=>Zb (ZbG aa) ?_
 simp only[*,go_sem,seval]
 refine Ze h (fun _ h=>?_) fun _ h=>?_<;>try simp only[*,go_sem,seval]
 refine ⟨_,[],[0,1],(A3 h).symm,by decide,?_⟩
 simp only[*,go_sem,seval]
 refine Ze h (fun _ h=>?_) fun _ h=>?_<;>try simp only[*,go_sem,seval]
 replace h:=Zo h W
 replace h:=Zo h S
 replace h:=Zo h L
 replace h:=Zo h y
 cases h
 simp only[*,go_sem,seval]
 refine Za h fun _ ab h=>Zb (ZnM ab) ?_
 simp only[*,go_sem,seval]
 refine ⟨_,[(false,6,4096)],[0,1],(A3 h).symm,by decide,?_⟩
 simp only[*,go_sem,seval]
 rintro ⟨q,t⟩ ⟨sl,ob,n⟩ E _ h
 simp only[go_sem,seval,Zc] at E
 obtain ⟨⟨_,_,_,_,_,_,_,_,_,_,_,_,_,_⟩,_,_,hn⟩:=E
 subst hn
 have:=Zz (d.thn.length)
 simp only[*,go_sem,seval]
 refine ⟨_,[],[0],(A3 h).symm,by decide,?_⟩
 simp only[*,go_sem,seval]
 rintro ⟨l,m⟩ ⟨sl,ob,n⟩ F _ h
 simp only[go_sem,seval,Zc] at F
 obtain ⟨⟨_,_,_,_,_,_,_,_,_,_⟩,_,hn⟩:=F
 subst hn
 have:=Zz (e.length)
 simp only[*,go_sem,seval]
 refine ⟨_,[],[],(A3 h).symm,by decide,?_⟩
 simp only[*,go_sem,seval]
 rintro ⟨f,g⟩ ⟨sl,ob,n⟩ G _ h
 simp only[go_sem,seval,Zc] at G
 obtain ⟨⟨_,_,_,_,_,_⟩,hn⟩:=G
 subst hn
 have:=Zz (a.length)
 simp only[*,go_sem,seval]
 refine ⟨_,[],[],(A3 h).symm,by decide,?_⟩
 simp only[*,go_sem,seval]
 replace h:=Zo h y
 iterate 3 (cases h;simp only[*,go_sem,seval])
theorem Zju {append_0:(List Zf)} {r:Bool} (h:ZaM append_0=some r):Zl prog J0 111 [(false,[.sl 104 4 (A0 ZG append_0)])] [(false,[(false,.bool r)])]:=by
 refine fnk func111 rfl ?_
 unfold ZaM at h
 simp only[fnS,f111,Zm,go_sem,seval]
 refine Zh h (fun i _ st=>IV [(0,.p false [.c (.sl 104 4 (A0 ZG append_0))]),(3,.p false [.c (.int .i64 ((i:Nat):Int))])] [] st) [] [] (by decide) ?_ ?_ ?_
 simp only[*,go_sem,seval]
 rintro l x ⟨⟩ ⟨sl,ob,n⟩ _ b m y h d
 simp only[go_sem,seval,Zc] at m
 obtain ⟨⟨z,_⟩,hn⟩:=m
 subst hn
 have A:=WF.slotL y z (j:=0) rfl
 have:=ZB b
 have:=ZC b
 have:=Zj (ZA b) A
 simp only[*,go_sem,seval]
 refine Za h fun _ B h=>Zb (ZkG B) ?_
 simp only[*,go_sem,seval]
 refine Ze h (fun _ h=>?_) fun _ h=>?_<;>try simp only[*,go_sem,seval]
 refine Za h fun e C h=>Zb (ZgL C) ?_
 simp only[*,go_sem,seval]
 refine Zh h (fun i _ st=>IV [(0,.p false [.c (.sl 104 4 (A0 ZG append_0))]),(3,.p false [.c (.int .i64 ((l:Nat):Int))]),(4,.p false [.row 0]),(5,.p false [.c (.int .i64 ((i:Nat):Int))])] [.row 9 1 (A0 Zw e) 2] st) [] [224] (by decide) ?_ ?_ ?_
 simp only[*,go_sem,seval]
 rintro D a ⟨⟩ ⟨sl,ob,n⟩ _ f o E h q
 simp only[go_sem,seval,Zc] at o
 obtain ⟨⟨F,_,_,_⟩,_,hn⟩:=o
 subst hn
 have G:=WF.elL (WF.slotD E F (j:=0) rfl) b (j:=2) rfl
 have:=ZB f
 have:=ZC f
 have:=Zj (ZA f) G
 simp only[*,go_sem,seval]
 refine Zh h (fun i _ st=>IV [(0,.p false [.c (.sl 104 4 (A0 ZG append_0))]),(3,.p false [.c (.int .i64 ((l:Nat):Int))]),(4,.p false [.row 0]),(5,.p false [.c (.int .i64 ((D:Nat):Int))]),(6,.bp 1 0),(7,.p false [.c (.int .i64 ((i:Nat):Int))])] [.row 9 1 (A0 Zw e) 2,.box 60 [.c (.int .i64 a.kind),.c (.str a.pattern.rel),.c (.sl 9 1 (A0 Zw a.pattern.args)),.c (.str a.left),.c (.str a.right)]] st) [] [0,257] (by decide) ?_ ?_ ?_
 simp only[*,go_sem,seval]
 rintro _ _ ⟨⟩ ⟨sl,ob,n⟩ _ g t H h k
 simp only[go_sem,seval,Zc] at t
 obtain ⟨⟨_,_,_,_,_,_⟩,I,_,hn⟩:=t
 subst hn
 have J:=WF.rowL H I
 have:=ZB g
 have:=ZC g
 have:=Zj (ZA g) J
 simp only[*,go_sem,seval]
 iterate 2 refine Ze h (fun _ h=>?_) fun _ h=>?_<;>try simp only[*,go_sem,seval]
 replace h:=Zo h k
 replace h:=Zo h q
 replace h:=Zo h d
 cases h
 simp only[*,go_sem,seval]
 refine Za h fun _ K h=>Zb (Zjm K) ?_
 simp only[*,go_sem,seval]
 refine Ze h (fun _ h=>?_) fun _ h=>?_<;>try simp only[*,go_sem,seval]
 replace h:=Zo h k
 replace h:=Zo h q
 replace h:=Zo h d
 cases h
 simp only[*,go_sem,seval]
 refine ⟨_,[],[0,1],(A3 h).symm,by decide,?_⟩
 simp only[*,go_sem,seval]
 replace h:=Zo h k
 refine ⟨_,[],[0],(A3 h).symm,by decide,?_⟩
 simp only[*,go_sem,seval]
 rintro ⟨⟩ ⟨sl,ob,n⟩ u _ h
 simp only[go_sem,seval,Zc] at u
 obtain ⟨⟨_,_,_,_,_,_⟩,_,_,hn⟩:=u
 subst hn
 have:=Zz (e.length)
 simp only[*,go_sem,seval]
 refine ⟨_,[],[0],(A3 h).symm,by decide,?_⟩
 simp only[*,go_sem,seval]
 rintro ⟨⟩ ⟨sl,ob,n⟩ v _ h
 simp only[go_sem,seval,Zc] at v
 obtain ⟨⟨_,_,_,_⟩,_,hn⟩:=v
 subst hn
 have:=Zz (x.cond.length)
 simp only[*,go_sem,seval]
 refine ⟨_,[],[],(A3 h).symm,by decide,?_⟩
 simp only[*,go_sem,seval]
 replace h:=Zo h d
 cases h
 simp only[*,go_sem,seval]
 rintro ⟨⟩ ⟨sl,ob,n⟩ w _ h
 simp only[go_sem,seval,Zc] at w
 obtain ⟨⟨_,_⟩,hn⟩:=w
 subst hn
 have:=Zz (append_0.length)
 simp only[*,go_sem,seval]
 refine Za h fun _ L h=>Zb (Zls L) ?_
 cases h
 simp only[*,go_sem,seval]
theorem Zpg {append_0:(List Zt)} {a:Zr} {a_2:(List Zd)} {r:(List Zt)} (h:Zfi append_0 a a_2=some r):Zl prog J0 189 [(false,[.sl 118 2 (A0 YE append_0)]),(true,ZK a),(false,[.sl 71 2 (A0 Zq a_2)])] [(false,[(false,.sl 118 2 (A0 YE r))])]:=by
 refine fnk func189 rfl ?_
 unfold Zfi at h
 simp only[fnS,f189,Zm,go_sem,seval]
 refine Zh h (fun i b st=>IV [(0,.p false [.c (.sl 118 2 (A0 YE append_0))]),(2,.p false [.c (.sl 71 2 (A0 Zq a_2))]),(4,.bp 0 0),(7,.p false [.row 1]),(8,.p false [.c (.int .i64 ((i:Nat):Int))])] [.box 60 [.c (.int .i64 a.kind),.c (.str a.pattern.rel),.c (.sl 9 1 (A0 Zw a.pattern.args)),.c (.str a.left),.c (.str a.right)],.row 118 2 (A0 YE b) 2] st) [] [0,32] (by decide) ?_ ?_ ?_
 simp only[*,go_sem,seval]
 rintro o _ b ⟨sl,ob,n⟩ _ d g q h _
 simp only[go_sem,seval,Zc] at g
 obtain ⟨⟨t,_,_,_,_⟩,_,_,hn⟩:=g
 subst hn
 have u:=WF.slotL q t (j:=0) rfl
 have:=ZB d
 have:=ZC d
 have:=Zj (ZA d) u
 simp only[*,go_sem,seval]
 refine Ze h (fun _ h=>?_) fun _ h=>?_<;>try simp only[*,go_sem,seval]
 refine Za h fun _ v h=>Zb (ZjH v) ?_
 simp only[*,go_sem,seval]
 refine Ze h (fun _ h=>?_) fun _ h=>?_<;>try simp only[*,go_sem,seval]
 refine Za h fun _ w h=>Zb (Zoi w) ?_
 obtain ⟨x,h⟩:=Zs h
 try simp only[Nat.reduceLeDiff] at x
 simp only[*,go_sem,seval]
 refine ⟨_,[],[0,354],(A3 h).symm,by decide,?_⟩
 simp only[*,go_sem,seval]
 refine ⟨_,[],[0,1],(A3 h).symm,by decide,?_⟩
 simp only[*,go_sem,seval]
 refine Zh h (fun i e st=>IV [(0,.p false [.c (.sl 118 2 (A0 YE append_0))]),(2,.p false [.c (.sl 71 2 (A0 Zq a_2))]),(4,.bp 0 0),(7,.p false [.row 1]),(8,.p false [.c (.int .i64 ((o:Nat):Int))]),(9,.p false [.c (.int .i64 ((i:Nat):Int))])] [.box 60 [.c (.int .i64 a.kind),.c (.str a.pattern.rel),.c (.sl 9 1 (A0 Zw a.pattern.args)),.c (.str a.left),.c (.str a.right)],.row 118 2 (A0 YE e) 2] st) [] [0,1] (by decide) ?_ ?_ ?_
 simp only[*,go_sem,seval]
 rintro _ _ e ⟨sl,ob,n⟩ _ f k y h _
 simp only[go_sem,seval,Zc] at k
 obtain ⟨⟨_,z,_,_,_,_⟩,_,_,hn⟩:=k
 subst hn
 have A:=WF.slotL y z (j:=0) rfl
 have:=ZB f
 have:=ZC f
 have:=Zj (ZA f) A
 simp only[*,go_sem,seval]
 refine Za h fun _ B h=>Zb (ZfU B) ?_
 simp only[*,go_sem,seval]
 refine Ze h (fun _ h=>?_) fun _ h=>?_<;>try simp only[*,go_sem,seval]
 refine Za h fun _ C h=>Zb (ZdO C) ?_
 simp only[*,go_sem,seval]
 refine Za h fun _ D h=>Zb (Xr D) ?_
 obtain ⟨E,h⟩:=Zs h
 try simp only[Nat.reduceLeDiff] at E
 obtain ⟨F,h⟩:=Zs h
 try simp only[Nat.reduceLeDiff] at F
 simp only[*,go_sem,seval]
 refine ⟨_,[],[0,626],(A3 h).symm,by decide,?_⟩
 simp only[*,go_sem,seval]
 refine ⟨_,[],[0,1],(A3 h).symm,by decide,?_⟩
 simp only[*,go_sem,seval]
 rintro e ⟨sl,ob,n⟩ l _ h
 simp only[go_sem,seval,Zc] at l
 obtain ⟨⟨_,_,_,_,_,_⟩,_,_,hn⟩:=l
 subst hn
 have:=Zz (a_2.length)
 simp only[*,go_sem,seval]
 refine ⟨_,[],[0,1],(A3 h).symm,by decide,?_⟩
 simp only[*,go_sem,seval]
 rintro b ⟨sl,ob,n⟩ m _ h
 simp only[go_sem,seval,Zc] at m
 obtain ⟨⟨_,_,_,_,_⟩,_,_,hn⟩:=m
 subst hn
 have:=Zz (append_0.length)
 cases h
 simp only[*,go_sem,seval]
end
section
set_option linter.unusedSimpArgs false
set_option linter.unusedVariables false
set_option maxRecDepth 1000000
set_option maxHeartbeats 4000000
theorem ZgQ {l_0:(List Zr)} {facts_1:(List Zd)} {r:(List Zt)} (h:Zai l_0 facts_1=some r):Zl prog J0 114 [(false,[.sl 60 5 (A0 ZK l_0)]),(false,[.sl 71 2 (A0 Zq facts_1)])] [(false,[(false,.sl 118 2 (A0 YE r))])]:=by
 refine fnk func114 rfl ?_
 unfold Zai at h
 simp only[fnS,f114,Zm,go_sem,seval]
 refine Zh h (fun i a st=>IV [(0,.p false [.c (.sl 60 5 (A0 ZK l_0))]),(1,.p false [.c (.sl 71 2 (A0 Zq facts_1))]),(5,.p false [.row 0]),(6,.p false [.c (.int .i64 ((i:Nat):Int))])] [.row 118 2 (A0 YE a) 2] st) [] [32] (by decide) ?_ ?_ ?_
 simp only[*,go_sem,seval]
 rintro _ _ a ⟨sl,ob,n⟩ _ b d f h _
 simp only[go_sem,seval,Zc] at d
 obtain ⟨⟨g,_,_,_⟩,_,hn⟩:=d
 subst hn
 have k:=WF.slotL f g (j:=0) rfl
 have:=ZB b
 have:=ZC b
 have:=Zj (ZA b) k
 simp only[*,go_sem,seval]
 refine Za h fun _ l h=>Zb (Zpg l) ?_
 simp only[*,go_sem,seval]
 refine ⟨_,[],[161],(A3 h).symm,by decide,?_⟩
 simp only[*,go_sem,seval]
 rintro a ⟨sl,ob,n⟩ e _ h
 simp only[go_sem,seval,Zc] at e
 obtain ⟨⟨_,_,_,_⟩,_,hn⟩:=e
 subst hn
 have:=Zz (l_0.length)
 cases h
 simp only[*,go_sem,seval]
end
section
set_option linter.unusedSimpArgs false
set_option linter.unusedVariables false
set_option maxRecDepth 1000000
set_option maxHeartbeats 4000000
theorem Zox {d:(List Zf)} {g:(List Zd)} {r:((List Zd) × Zu × (List Zac) × Bool)} (h:ZaJ d g=some r):Zl prog J0 101 [(false,[.sl 104 4 (A0 ZG d)]),(false,[.sl 71 2 (A0 Zq g)])] [(false,[(false,.sl 71 2 (A0 Zq r.1))]),(true,[(false,.int .i64 r.2.1.nodes),(false,.sl 144 3 (A0 ZL r.2.1.reasons))]),(false,[(false,.any)]),(false,[(false,.bool r.2.2.2)])]:=by
 refine fnn 4 func101 rfl ?_
 unfold ZaJ at h
 simp only[fnN,f101,Zm,go_sem,seval]
 refine Za h fun e P h=>Zb (Zg5 P) ?_
 simp only[*,go_sem,seval]
 refine Ze h (fun _ h=>?_) fun _ h=>?_<;>try simp only[*,go_sem,seval]
 refine Zh h (fun i s st=>match s with | (q,t)=>IV [(0,.p false [.c (.sl 104 4 (A0 ZG d))]),(5,.bp 0 0),(8,.p false [.n (.sl 71 2 (A0 Zq e.1))]),(10,.bp 1 0),(11,.p false [.row 3]),(40,.p false [.c (.sl 71 2 (A0 Zq g))]),(41,.p false [.c (.int .i64 ((g.length:Nat):Int))]),(42,.p false [.c (.int .i64 ((i:Nat):Int))])] [.box 91 [.c (.int .i64 0),.nil 144 3],.box 91 [.c (.int .i64 ((e.1.length:Nat):Int)),.row 2],.row 144 3 (A0 ZL q) 2,.row 153 2 (A0 Zgg t) 2] st) [(false,8,4096),(false,11,0),(true,272,1)] [16,272,369,368] (by decide) ?_ ?_ ?_
 simp only[*,go_sem,seval]
 rintro _ _ ⟨q,t⟩ ⟨sl,ob,n⟩ _ u E Q h _
 simp only[go_sem,seval,Zc] at E
 obtain ⟨⟨_,_,_,_,_,R,_,_⟩,_,_,_,_,hn⟩:=E
 subst hn
 have S:=WF.slotL Q R (j:=0) rfl
 have:=ZB u
 have:=ZC u
 have:=Zj (ZA u) S
 simp only[*,go_sem,seval]
 refine Za h fun _ T h=>Zb (ZbG T) ?_
 obtain ⟨U,h⟩:=Zs h
 try simp only[Nat.reduceLeDiff] at U
 obtain ⟨V,h⟩:=Zs h
 try simp only[Nat.reduceLeDiff] at V
 simp only[*,go_sem,seval]
 refine ⟨_,[],[0,1,196,292],(A3 h).symm,by decide,?_⟩
 simp only[*,go_sem,seval]
 rintro ⟨q,t⟩ ⟨sl,ob,n⟩ F _ h
 simp only[go_sem,seval,Zc] at F
 obtain ⟨⟨_,_,_,_,_,_,_,_⟩,_,_,_,_,hn⟩:=F
 subst hn
 have:=Zz (g.length)
 simp only[*,go_sem,seval]
 refine Zh h (fun i s st=>match s with | (v,w)=>IV [(5,.bp 0 0),(8,.p false [.n (.sl 71 2 (A0 Zq e.1))]),(10,.bp 1 0),(11,.p false [.row 3]),(60,.p false [.c (.sl 104 4 (A0 ZG d))]),(61,.p false [.c (.int .i64 ((d.length:Nat):Int))]),(62,.p false [.c (.int .i64 ((i:Nat):Int))])] [.box 91 [.c (.int .i64 0),.nil 144 3],.box 91 [.c (.int .i64 ((e.1.length:Nat):Int)),.row 2],.row 144 3 (A0 ZL v) 2,.row 153 2 (A0 Zgg w) 1] st) [(true,3,1)] [0,1,2,3] (by decide) ?_ ?_ ?_
 simp only[*,go_sem,seval]
 rintro x b ⟨v,w⟩ ⟨sl,ob,n⟩ _ y G W h _
 simp only[go_sem,seval,Zc] at G
 obtain ⟨⟨_,_,_,_,X,_,_⟩,_,_,_,_,hn⟩:=G
 subst hn
 have Y:=WF.slotL W X (j:=0) rfl
 have:=ZB y
 have:=ZC y
 have:=Zj (ZA y) Y
 simp only[*,go_sem,seval]
 obtain ⟨_,Z,h⟩:=ZJ h
 refine ZkJ (Zeh Z) ?_
 simp only[*,go_sem,seval]
 obtain ⟨f,aa,h⟩:=ZJ h
 refine ZkJ (ZgT aa) ?_
 simp only[*,go_sem,seval]
 refine Zh h (fun i s st=>match s with | (k,l)=>IV [(5,.bp 0 0),(8,.p false [.n (.sl 71 2 (A0 Zq e.1))]),(10,.bp 1 0),(11,.p false [.row 3]),(15,.bp 4 0),(60,.p false [.c (.sl 104 4 (A0 ZG d))]),(61,.p false [.c (.int .i64 ((d.length:Nat):Int))]),(62,.p false [.c (.int .i64 ((x:Nat):Int))]),(69,.p false [.c (.sl 118 2 (A0 YE f))]),(70,.p false [.c (.int .i64 ((f.length:Nat):Int))]),(71,.p false [.c (.int .i64 ((i:Nat):Int))])] [.box 91 [.c (.int .i64 0),.nil 144 3],.box 91 [.c (.int .i64 ((e.1.length:Nat):Int)),.row 2],.row 144 3 (A0 ZL k) 2,.row 153 2 (A0 Zgg l) 1,.box 104 [.c (.str b.name),.c (.int .i64 b.priority),.c (.sl 60 5 (A0 ZK b.cond)),.c (.sl 166 3 (A0 ZD b.thn))]] st) [] [0,1,2,3,52] (by decide) ?_ ?_ ?_
 simp only[*,go_sem,seval]
 rintro H m ⟨k,l⟩ ⟨sl,ob,n⟩ _ z I ab h _
 simp only[go_sem,seval,Zc] at I
 obtain ⟨⟨_,_,_,_,_,_,_,_,ac,_,_⟩,_,_,_,_,_,hn⟩:=I
 subst hn
 have ad:=WF.slotL ab ac (j:=0) rfl
 have:=ZB z
 have:=ZC z
 have:=Zj (ZA z) ad
 simp only[*,go_sem,seval]
 refine Zh h (fun i o st=>IV [(5,.bp 0 0),(8,.p false [.n (.sl 71 2 (A0 Zq e.1))]),(10,.bp 1 0),(11,.p false [.row 3]),(15,.bp 4 0),(17,.bp 5 0),(18,.p false [.row 6]),(60,.p false [.c (.sl 104 4 (A0 ZG d))]),(61,.p false [.c (.int .i64 ((d.length:Nat):Int))]),(62,.p false [.c (.int .i64 ((x:Nat):Int))]),(69,.p false [.c (.sl 118 2 (A0 YE f))]),(70,.p false [.c (.int .i64 ((f.length:Nat):Int))]),(71,.p false [.c (.int .i64 ((H:Nat):Int))]),(76,.p false [.c (.sl 60 5 (A0 ZK b.cond))]),(77,.p false [.c (.int .i64 ((b.cond.length:Nat):Int))]),(78,.p false [.c (.int .i64 ((i:Nat):Int))])] [.box 91 [.c (.int .i64 0),.nil 144 3],.box 91 [.c (.int .i64 ((e.1.length:Nat):Int)),.row 2],.row 144 3 (A0 ZL k) 2,.row 153 2 (A0 Zgg l) 1,.box 104 [.c (.str b.name),.c (.int .i64 b.priority),.c (.sl 60 5 (A0 ZK b.cond)),.c (.sl 166 3 (A0 ZD b.thn))],.box 118 [.c (.sl 71 2 (A0 Zq m.facts)),.c (.sl 135 2 (A0 ZZ m.binding))],.row 71 2 (A0 Zq o) 2] st) [(false,18,0)] [0,1,2,3,4,53,165] (by decide) ?_ ?_ ?_
 simp only[*,go_sem,seval]
 rintro _ _ o ⟨sl,ob,n⟩ _ A J ae h _
 simp only[go_sem,seval,Zc] at J
 obtain ⟨⟨_,_,_,_,_,_,_,_,_,_,_,_,_,af,_,_⟩,_,_,_,_,_,_,_,hn⟩:=J
 subst hn
 have ag:=WF.slotL ae af (j:=0) rfl
 have:=ZB A
 have:=ZC A
 have:=Zj (ZA A) ag
 simp only[*,go_sem,seval]
 refine Ze h (fun _ h=>?_) fun _ h=>?_<;>try simp only[*,go_sem,seval]
 refine Za h fun _ ah h=>Zb (ZdP ah) ?_
 obtain ⟨ai,h⟩:=Zs h
 try simp only[Nat.reduceLeDiff] at ai
 simp only[*,go_sem,seval]
 refine ⟨_,[],[0,1,2,3,4,5,359],(A3 h).symm,by decide,?_⟩
 simp only[*,go_sem,seval]
 refine ⟨_,[],[0,1,2,3,4,5,6],(A3 h).symm,by decide,?_⟩
 simp only[*,go_sem,seval]
 rintro o ⟨sl,ob,n⟩ K _ h
 simp only[go_sem,seval,Zc] at K
 obtain ⟨⟨_,_,_,_,_,_,_,_,_,_,_,_,_,_,_,_⟩,_,_,_,_,_,_,_,hn⟩:=K
 subst hn
 have:=Zz (b.cond.length)
 simp only[*,go_sem,seval]
 refine Zh h (fun i s st=>match s with | (B,C)=>IV [(5,.bp 0 0),(8,.p false [.n (.sl 71 2 (A0 Zq e.1))]),(10,.bp 1 0),(11,.p false [.row 3]),(15,.bp 4 0),(17,.bp 5 0),(18,.p false [.row 6]),(60,.p false [.c (.sl 104 4 (A0 ZG d))]),(61,.p false [.c (.int .i64 ((d.length:Nat):Int))]),(62,.p false [.c (.int .i64 ((x:Nat):Int))]),(69,.p false [.c (.sl 118 2 (A0 YE f))]),(70,.p false [.c (.int .i64 ((f.length:Nat):Int))]),(71,.p false [.c (.int .i64 ((H:Nat):Int))]),(99,.p false [.c (.sl 166 3 (A0 ZD b.thn))]),(100,.p false [.c (.int .i64 ((b.thn.length:Nat):Int))]),(101,.p false [.c (.int .i64 ((i:Nat):Int))])] [.box 91 [.c (.int .i64 0),.nil 144 3],.box 91 [.c (.int .i64 ((e.1.length:Nat):Int)),.row 2],.row 144 3 (A0 ZL B) 2,.row 153 2 (A0 Zgg C) 1,.box 104 [.c (.str b.name),.c (.int .i64 b.priority),.c (.sl 60 5 (A0 ZK b.cond)),.c (.sl 166 3 (A0 ZD b.thn))],.box 118 [.c (.sl 71 2 (A0 Zq m.facts)),.c (.sl 135 2 (A0 ZZ m.binding))],.row 71 2 (A0 Zq o) 2] st) [] [0,1,2,3,4,5,6] (by decide) ?_ ?_ ?_
 simp only[*,go_sem,seval]
 rintro _ _ ⟨B,C⟩ ⟨sl,ob,n⟩ _ D L aj h _
 simp only[go_sem,seval,Zc] at L
 obtain ⟨⟨_,_,_,_,_,_,_,_,_,_,_,_,_,ak,_,_⟩,_,_,_,_,_,_,_,hn⟩:=L
 subst hn
 have al:=WF.slotL aj ak (j:=0) rfl
 have:=ZB D
 have:=ZC D
 have:=Zj (ZA D) al
 simp only[*,go_sem,seval]
 refine Za h fun _ am h=>Zb (ZdP am) ?_
 simp only[*,go_sem,seval]
 refine Za h fun _ an h=>Zb (ZbG an) ?_
 simp only[*,go_sem,seval]
 refine Za h fun _ ao h=>Zb (ZhC ao) ?_
 simp only[*,go_sem,seval]
 refine Za h fun _ ap h=>Zb (ZhC ap) ?_
 simp only[*,go_sem,seval]
 refine Za h fun _ aq h=>Zb (Zkz aq) ?_
 simp only[*,go_sem,seval]
 refine Ze h (fun _ h=>?_) fun _ h=>?_<;>try simp only[*,go_sem,seval]
 refine ⟨_,[],[0,1,2,3,4,5,6],(A3 h).symm,by decide,?_⟩
 simp only[*,go_sem,seval]
 obtain ⟨ar,h⟩:=Zs h
 try simp only[Nat.reduceLeDiff] at ar
 obtain ⟨au,h⟩:=Zs h
 try simp only[Nat.reduceLeDiff] at au
 simp only[*,go_sem,seval]
 refine ⟨_,[],[0,1,615,775,4,5,6],(A3 h).symm,by decide,?_⟩
 simp only[*,go_sem,seval]
 rintro ⟨B,C⟩ ⟨sl,ob,n⟩ M _ h
 simp only[go_sem,seval,Zc] at M
 obtain ⟨⟨_,_,_,_,_,_,_,_,_,_,_,_,_,_,_,_⟩,_,_,_,_,_,_,_,hn⟩:=M
 subst hn
 have:=Zz (b.thn.length)
 simp only[*,go_sem,seval]
 refine ⟨_,[],[0,1,2,3,4],(A3 h).symm,by decide,?_⟩
 simp only[*,go_sem,seval]
 rintro ⟨k,l⟩ ⟨sl,ob,n⟩ N _ h
 simp only[go_sem,seval,Zc] at N
 obtain ⟨⟨_,_,_,_,_,_,_,_,_,_,_⟩,_,_,_,_,_,hn⟩:=N
 subst hn
 have:=Zz (f.length)
 simp only[*,go_sem,seval]
 refine ⟨_,[],[0,1,2,3],(A3 h).symm,by decide,?_⟩
 simp only[*,go_sem,seval]
 rintro ⟨v,w⟩ ⟨sl,ob,n⟩ O _ h
 simp only[go_sem,seval,Zc] at O
 obtain ⟨⟨_,_,_,_,_,_,_⟩,_,_,_,_,hn⟩:=O
 subst hn
 have:=Zz (d.length)
 simp only[*,go_sem,seval]
 refine Ze h (fun _ h=>?_) fun _ h=>?_<;>try simp only[*,go_sem,seval]
 iterate 3 (cases h;simp only[*,go_sem,seval])
end
section
set_option linter.unusedSimpArgs false
set_option linter.unusedVariables false
set_option maxRecDepth 1000000
set_option maxHeartbeats 4000000
theorem Zdb {rules_0:(List Zf)} {base_1:(List Zd)} {r:((List Zd) × Zu × Bool)} (h:Xe rules_0 base_1=some r):Zl prog J0 57 [(false,[.sl 104 4 (A0 ZG rules_0)]),(false,[.sl 71 2 (A0 Zq base_1)])] [(false,[(false,.sl 71 2 (A0 Zq r.1))]),(true,[(false,.int .i64 r.2.1.nodes),(false,.sl 144 3 (A0 ZL r.2.1.reasons))]),(false,[(false,.bool r.2.2)])]:=by
 refine fnk func57 rfl ?_
 unfold Xe at h
 simp only[fnS,f57,Zm,go_sem,seval]
 refine Za h fun _ a h=>Zb (Zox a) ?_
 cases h
 simp only[*,go_sem,seval]
theorem Zg0 {a:(List Zf)} {String_1:(List Zd)} {r:((List Zd) × Bool)} (h:Yg a String_1=some r):Zl prog J0 48 [(false,[.sl 104 4 (A0 ZG a)]),(false,[.sl 71 2 (A0 Zq String_1)])] [(false,[(false,.sl 71 2 (A0 Zq r.1))]),(false,[(false,.bool r.2)])]:=by
 refine fnn 4 func48 rfl ?_
 unfold Yg at h
 simp only[fnN,f48,Zm,go_sem,seval]
 refine Za h fun _ B h=>Zb (Zju B) ?_
 simp only[*,go_sem,seval]
 refine Ze h (fun _ h=>?_) fun _ h=>?_<;>try simp only[*,go_sem,seval]
 refine Za h fun _ C h=>Zb (ZlI C) ?_
 simp only[*,go_sem,seval]
 refine Ze h (fun _ h=>?_) fun _ h=>?_<;>try simp only[*,go_sem,seval]
 refine Za h fun _ D h=>Zb (ZdO D) ?_
 simp only[*,go_sem,seval]
 refine XH h (fun s st=>match s with | (b,o)=>IV [(0,.p false [.c (.sl 104 4 (A0 ZG a))]),(6,.p false [.n (.sl 71 2 (A0 Zq b))]),(7,.p false [.c (.bool o)])] [] st) [(false,6,4096)] [] (by decide) ?_ ?_
 simp only[*,go_sem,seval]
 rintro ⟨b,o⟩ ⟨sl,ob,n⟩ _ q _ h t
 simp only[go_sem,seval,Zc] at q
 obtain ⟨⟨_,_,_⟩,hn⟩:=q
 subst hn
 simp only[*,go_sem,seval]
 refine Ze h (fun _ h=>?_) fun _ h=>?_<;>try simp only[*,go_sem,seval]
 refine Zh h (fun i e st=>IV [(0,.p false [.c (.sl 104 4 (A0 ZG a))]),(6,.p false [.n (.sl 71 2 (A0 Zq e))]),(8,.p false [.n (.sl 71 2 (A0 Zq b))]),(9,.p false [.c (.int .i64 ((i:Nat):Int))])] [] st) [] [] (by decide) ?_ ?_ ?_
 simp only[*,go_sem,seval]
 rintro u E e ⟨sl,ob,n⟩ _ d v F h G
 simp only[go_sem,seval,Zc] at v
 obtain ⟨⟨H,_,_,_⟩,hn⟩:=v
 subst hn
 have I:=WF.slotL F H (j:=0) rfl
 have:=ZB d
 have:=ZC d
 have:=Zj (ZA d) I
 simp only[*,go_sem,seval]
 obtain ⟨_,J,h⟩:=ZJ h
 refine ZkJ (Zee J) ?_
 simp only[*,go_sem,seval]
 refine Za h fun f K h=>Zb (ZgQ K) ?_
 simp only[*,go_sem,seval]
 refine Zh h (fun i g st=>IV [(0,.p false [.c (.sl 104 4 (A0 ZG a))]),(6,.p false [.n (.sl 71 2 (A0 Zq g))]),(8,.p false [.n (.sl 71 2 (A0 Zq b))]),(9,.p false [.c (.int .i64 ((u:Nat):Int))]),(10,.p false [.row 0]),(11,.p false [.c (.int .i64 ((i:Nat):Int))])] [.row 118 2 (A0 YE f) 2] st) [] [160] (by decide) ?_ ?_ ?_
 simp only[*,go_sem,seval]
 rintro L _ g ⟨sl,ob,n⟩ _ k w M h _
 simp only[go_sem,seval,Zc] at w
 obtain ⟨⟨_,_,_,_,_,_⟩,N,hn⟩:=w
 subst hn
 have O:=WF.rowL M N
 have:=ZB k
 have:=ZC k
 have:=Zj (ZA k) O
 simp only[*,go_sem,seval]
 refine Zh h (fun i l st=>IV [(0,.p false [.c (.sl 104 4 (A0 ZG a))]),(6,.p false [.n (.sl 71 2 (A0 Zq l))]),(8,.p false [.n (.sl 71 2 (A0 Zq b))]),(9,.p false [.c (.int .i64 ((u:Nat):Int))]),(10,.p false [.row 0]),(11,.p false [.c (.int .i64 ((L:Nat):Int))]),(12,.p false [.c (.int .i64 ((i:Nat):Int))])] [.row 118 2 (A0 YE f) 2] st) [] [0] (by decide) ?_ ?_ ?_
 simp only[*,go_sem,seval]
 rintro _ _ l ⟨sl,ob,n⟩ _ m x P h _
 simp only[go_sem,seval,Zc] at x
 obtain ⟨⟨Q,_,_,_,_,_,_⟩,_,hn⟩:=x
 subst hn
 have R:=WF.elL (WF.slotD P Q (j:=0) rfl) d (j:=3) rfl
 have:=ZB m
 have:=ZC m
 have:=Zj (ZA m) R
 simp only[*,go_sem,seval]
 refine Za h fun _ S h=>Zb (ZdM S) ?_
 simp only[*,go_sem,seval]
 refine Za h fun _ T h=>Zb (Zdi T) ?_
 simp only[*,go_sem,seval]
 refine ⟨_,[(false,6,4096)],[0],(A3 h).symm,by decide,?_⟩
 simp only[*,go_sem,seval]
 rintro l ⟨sl,ob,n⟩ y _ h
 simp only[go_sem,seval,Zc] at y
 obtain ⟨⟨_,_,_,_,_,_,_⟩,_,hn⟩:=y
 subst hn
 have:=Zz (E.thn.length)
 simp only[*,go_sem,seval]
 refine ⟨_,[],[0],(A3 h).symm,by decide,?_⟩
 simp only[*,go_sem,seval]
 rintro g ⟨sl,ob,n⟩ z _ h
 simp only[go_sem,seval,Zc] at z
 obtain ⟨⟨_,_,_,_,_,_⟩,_,hn⟩:=z
 subst hn
 have:=Zz (f.length)
 simp only[*,go_sem,seval]
 refine Ze h (fun _ h=>?_) fun _ h=>?_<;>try simp only[*,go_sem,seval]
 replace h:=Zo h G
 replace h:=Zo h t
 cases h
 simp only[*,go_sem,seval]
 refine ⟨_,[],[],(A3 h).symm,by decide,?_⟩
 simp only[*,go_sem,seval]
 rintro e ⟨sl,ob,n⟩ A _ h
 simp only[go_sem,seval,Zc] at A
 obtain ⟨⟨_,_,_,_⟩,hn⟩:=A
 subst hn
 have:=Zz (a.length)
 simp only[*,go_sem,seval]
 refine ⟨_,[],[],(A3 h).symm,by decide,?_⟩
 simp only[*,go_sem,seval]
 replace h:=Zo h t
 iterate 3 (cases h;simp only[*,go_sem,seval])
end
section
set_option linter.unusedSimpArgs false
set_option linter.unusedVariables false
set_option maxRecDepth 1000000
set_option maxHeartbeats 4000000
theorem Zn1 {rules_0:(List Zf)} {base_1:(List Zd)} {r:((List Zd) × Bool)} (h:Zbg rules_0 base_1=some r):Zl prog J0 56 [(false,[.sl 104 4 (A0 ZG rules_0)]),(false,[.sl 71 2 (A0 Zq base_1)])] [(false,[(false,.sl 71 2 (A0 Zq r.1))]),(false,[(false,.bool r.2)])]:=by
 refine fnk func56 rfl ?_
 unfold Zbg at h
 simp only[fnS,f56,Zm,go_sem,seval]
 refine Za h fun _ a h=>Zb (Zdb a) ?_
 simp only[*,go_sem,seval]
 refine Ze h (fun _ h=>?_) fun _ h=>?_<;>try simp only[*,go_sem,seval]
 refine Za h fun _ b h=>Zb (ZlQ b) ?_
 iterate 2 (cases h;simp only[*,go_sem,seval])
theorem ZjG {d:(List Zf)} {e:(List Zd)} {r:((List Zd) × Zu × (List Xd) × Bool)} (h:Xl d e=some r):Zl prog J0 96 [(false,[.sl 104 4 (A0 ZG d)]),(false,[.sl 71 2 (A0 Zq e)])] [(false,[(false,.sl 71 2 (A0 Zq r.1))]),(true,[(false,.int .i64 r.2.1.nodes),(false,.sl 144 3 (A0 ZL r.2.1.reasons))]),(false,[(false,.any)]),(false,[(false,.bool r.2.2.2)])]:=by
 refine fnk func96 rfl ?_
 unfold Xl at h
 simp only[fnS,f96,Zm,go_sem,seval]
 refine Za h fun b I h=>Zb (Zg0 I) ?_
 simp only[*,go_sem,seval]
 refine Ze h (fun _ h=>?_) fun _ h=>?_<;>try simp only[*,go_sem,seval]
 refine Zh h (fun i s st=>match s with | (g,k)=>IV [(0,.p false [.c (.sl 104 4 (A0 ZG d))]),(1,.p false [.c (.sl 71 2 (A0 Zq e))]),(5,.bp 0 0),(8,.p false [.row 1]),(10,.bp 2 0),(11,.p false [.row 4]),(12,.p false [.c (.int .i64 ((i:Nat):Int))])] [.box 91 [.c (.int .i64 0),.nil 144 3],.row 71 2 (A0 Zq b.1) 2,.box 91 [.c (.int .i64 ((b.1.length:Nat):Int)),.row 3],.row 144 3 (A0 ZL g) 2,.row 146 3 (A0 Zd3 k) 2] st) [(true,240,1)] [16,96,240,352,272] (by decide) ?_ ?_ ?_
 simp only[*,go_sem,seval]
 rintro _ _ ⟨g,k⟩ ⟨sl,ob,n⟩ _ l z J h _
 simp only[go_sem,seval,Zc] at z
 obtain ⟨⟨_,K,_,_,_,_,_⟩,_,_,_,_,_,hn⟩:=z
 subst hn
 have L:=WF.slotL J K (j:=0) rfl
 have:=ZB l
 have:=ZC l
 have:=Zj (ZA l) L
 simp only[*,go_sem,seval]
 refine Za h fun _ M h=>Zb (ZbJ M) ?_
 obtain ⟨N,h⟩:=Zs h
 try simp only[Nat.reduceLeDiff] at N
 obtain ⟨O,h⟩:=Zs h
 try simp only[Nat.reduceLeDiff] at O
 simp only[*,go_sem,seval]
 refine ⟨_,[],[0,1,2,229,325],(A3 h).symm,by decide,?_⟩
 simp only[*,go_sem,seval]
 rintro ⟨g,k⟩ ⟨sl,ob,n⟩ A _ h
 simp only[go_sem,seval,Zc] at A
 obtain ⟨⟨_,_,_,_,_,_,_⟩,_,_,_,_,_,hn⟩:=A
 subst hn
 have:=Zz (e.length)
 simp only[*,go_sem,seval]
 refine Zh h (fun i s st=>match s with | (m,o)=>IV [(0,.p false [.c (.sl 104 4 (A0 ZG d))]),(5,.bp 0 0),(8,.p false [.row 1]),(10,.bp 2 0),(11,.p false [.row 4]),(13,.p false [.c (.int .i64 ((i:Nat):Int))])] [.box 91 [.c (.int .i64 0),.nil 144 3],.row 71 2 (A0 Zq b.1) 2,.box 91 [.c (.int .i64 ((b.1.length:Nat):Int)),.row 3],.row 144 3 (A0 ZL m) 2,.row 146 3 (A0 Zd3 o) 1] st) [(true,4,1)] [0,1,2,3,4] (by decide) ?_ ?_ ?_
 simp only[*,go_sem,seval]
 rintro B P ⟨m,o⟩ ⟨sl,ob,n⟩ _ f C Q h R
 simp only[go_sem,seval,Zc] at C
 obtain ⟨⟨S,_,_,_,_,_⟩,_,_,_,_,_,hn⟩:=C
 subst hn
 have T:=WF.slotL Q S (j:=0) rfl
 have:=ZB f
 have:=ZC f
 have:=Zj (ZA f) T
 simp only[*,go_sem,seval]
 obtain ⟨_,U,h⟩:=ZJ h
 refine ZkJ (Zee U) ?_
 simp only[*,go_sem,seval]
 refine Za h fun q V h=>Zb (ZgQ V) ?_
 simp only[*,go_sem,seval]
 refine Zh h (fun i s st=>match s with | (t,u)=>IV [(0,.p false [.c (.sl 104 4 (A0 ZG d))]),(5,.bp 0 0),(8,.p false [.row 1]),(10,.bp 2 0),(11,.p false [.row 4]),(13,.p false [.c (.int .i64 ((B:Nat):Int))]),(14,.p false [.row 5]),(15,.p false [.c (.int .i64 ((i:Nat):Int))])] [.box 91 [.c (.int .i64 0),.nil 144 3],.row 71 2 (A0 Zq b.1) 2,.box 91 [.c (.int .i64 ((b.1.length:Nat):Int)),.row 3],.row 144 3 (A0 ZL t) 2,.row 146 3 (A0 Zd3 u) 1,.row 118 2 (A0 YE q) 2] st) [] [0,1,2,3,4,165] (by decide) ?_ ?_ ?_
 simp only[*,go_sem,seval]
 rintro W _ ⟨t,u⟩ ⟨sl,ob,n⟩ _ v D X h Y
 simp only[go_sem,seval,Zc] at D
 obtain ⟨⟨_,_,_,_,_,_,_,_⟩,_,_,_,_,_,Z,hn⟩:=D
 subst hn
 have aa:=WF.rowL X Z
 have:=ZB v
 have:=ZC v
 have:=Zj (ZA v) aa
 simp only[*,go_sem,seval]
 refine Zh h (fun i s st=>match s with | (w,x)=>IV [(0,.p false [.c (.sl 104 4 (A0 ZG d))]),(5,.bp 0 0),(8,.p false [.row 1]),(10,.bp 2 0),(11,.p false [.row 4]),(13,.p false [.c (.int .i64 ((B:Nat):Int))]),(14,.p false [.row 5]),(15,.p false [.c (.int .i64 ((W:Nat):Int))]),(16,.p false [.c (.int .i64 ((i:Nat):Int))])] [.box 91 [.c (.int .i64 0),.nil 144 3],.row 71 2 (A0 Zq b.1) 2,.box 91 [.c (.int .i64 ((b.1.length:Nat):Int)),.row 3],.row 144 3 (A0 ZL w) 2,.row 146 3 (A0 Zd3 x) 1,.row 118 2 (A0 YE q) 2] st) [] [0,1,2,3,4,5] (by decide) ?_ ?_ ?_
 simp only[*,go_sem,seval]
 rintro _ _ ⟨w,x⟩ ⟨sl,ob,n⟩ _ y E ab h ac
 simp only[go_sem,seval,Zc] at E
 obtain ⟨⟨ad,_,_,_,_,_,_,_,_⟩,_,_,_,_,_,_,hn⟩:=E
 subst hn
 have ae:=WF.elL (WF.slotD ab ad (j:=0) rfl) f (j:=3) rfl
 have:=ZB y
 have:=ZC y
 have:=Zj (ZA y) ae
 simp only[*,go_sem,seval]
 refine Za h fun _ af h=>Zb (ZjL af) ?_
 simp only[*,go_sem,seval]
 refine Za h fun _ ag h=>Zb (ZnD ag) ?_
 simp only[*,go_sem,seval]
 refine Ze h (fun _ h=>?_) fun _ h=>?_<;>try simp only[*,go_sem,seval]
 refine ⟨_,[],[0,1,2,3,4,5],(A3 h).symm,by decide,?_⟩
 simp only[*,go_sem,seval]
 refine Ze h (fun _ h=>?_) fun _ h=>?_<;>try simp only[*,go_sem,seval]
 replace h:=Zo h ac
 replace h:=Zo h Y
 replace h:=Zo h R
 cases h
 simp only[*,go_sem,seval]
 obtain ⟨ah,h⟩:=Zs h
 try simp only[Nat.reduceLeDiff] at ah
 obtain ⟨ai,h⟩:=Zs h
 try simp only[Nat.reduceLeDiff] at ai
 simp only[*,go_sem,seval]
 refine ⟨_,[],[0,1,2,550,790,5],(A3 h).symm,by decide,?_⟩
 simp only[*,go_sem,seval]
 rintro ⟨w,x⟩ ⟨sl,ob,n⟩ F _ h
 simp only[go_sem,seval,Zc] at F
 obtain ⟨⟨_,_,_,_,_,_,_,_,_⟩,_,_,_,_,_,_,hn⟩:=F
 subst hn
 have:=Zz (P.thn.length)
 simp only[*,go_sem,seval]
 refine ⟨_,[],[0,1,2,3,4,5],(A3 h).symm,by decide,?_⟩
 simp only[*,go_sem,seval]
 rintro ⟨t,u⟩ ⟨sl,ob,n⟩ G _ h
 simp only[go_sem,seval,Zc] at G
 obtain ⟨⟨_,_,_,_,_,_,_,_⟩,_,_,_,_,_,_,hn⟩:=G
 subst hn
 have:=Zz (q.length)
 simp only[*,go_sem,seval]
 refine ⟨_,[],[0,1,2,3,4],(A3 h).symm,by decide,?_⟩
 simp only[*,go_sem,seval]
 rintro ⟨m,o⟩ ⟨sl,ob,n⟩ H _ h
 simp only[go_sem,seval,Zc] at H
 obtain ⟨⟨_,_,_,_,_,_⟩,_,_,_,_,_,hn⟩:=H
 subst hn
 have:=Zz (d.length)
 iterate 2 (cases h;simp only[*,go_sem,seval])
end
section
section
variable {α σ ρ:Type} {body:Nat→α→σ→Option (σ ⊕ ρ)} {fin:σ→Option ρ}
theorem ZkA (i:Nat) (s:σ):Zn body fin [] i s=fin s:=rfl
theorem ZV {x:α} {l:List α} {i:Nat} {s s':σ} (h:body i x s=some (.inl s')):Zn body fin (x::l) i s=Zn body fin l (i+1) s':=by simp only[Zn,h]
theorem Ya {x:α} {l:List α} {i:Nat} {s:σ} {r:ρ} (h:body i x s=some (.inr r)):Zn body fin (x::l) i s=some r:=by simp only[Zn,h]
theorem ZW {p:α→Bool} {r:ρ}:∀{l:List α} {i:Nat} {s:σ},(∀i x,x∈l→body i x s=some (bif p x then .inl s else .inr r))→Zn body fin l i s=if l.all p=true then fin s else some r
 | [],_,_,_=>by simp [Zn]
 | x::l,i,s,h=>by
  have hx:=h i x (by simp)
  by_cases hp:p x=true
  ·rw [hp,cond_true] at hx
   rw [ZV hx,ZW fun j y my=>h j y (by simp [my])]
   simp [hp]
  ·rw [eq_false_of_ne_true hp,cond_false] at hx
   rw [Ya hx]
   simp [hp]
theorem Zc7 {p:α→Bool} {r:ρ}:∀{l:List α} {i:Nat} {s:σ},(∀i x,x∈l→body i x s=some (bif p x then .inr r else .inl s))→Zn body fin l i s=if l.any p=true then some r else fin s
 | [],_,_,_=>by simp [Zn]
 | x::l,i,s,h=>by
  have hx:=h i x (by simp)
  by_cases hp:p x=true
  ·rw [hp,cond_true] at hx
   rw [Ya hx]
   simp [hp]
  ·rw [eq_false_of_ne_true hp,cond_false] at hx
   rw [ZV hx,Zc7 fun j y my=>h j y (by simp [my])]
   simp [hp]
theorem XE {f:σ→α→σ} (I:Nat→σ→Prop):∀{l:List α} {i:Nat} {s:σ},I i s→(∀j x s,x∈l→i≤j→j<i+l.length→I j s→body j x s=some (.inl (f s x))∧I (j+1) (f s x))→Zn body fin l i s=fin (l.foldl f s)
 | [],_,_,_,_=>rfl
 | x::l,i,s,h0,h=>by
  obtain ⟨h1,h2⟩:=h i x s (by simp) (by omega) (by simp) h0
  rw [ZV h1,XE I h2 fun j y s my hj hl=>h j y s (by simp [my]) (by omega) (by simp at hl ⊢;omega)]
  rfl
theorem Zke {f:σ→α→σ} {l:List α} {i:Nat} {s:σ} (h:∀j x s,x∈l→body j x s=some (.inl (f s x))):Zn body fin l i s=fin (l.foldl f s):=
 XE (fun _ _=>True) trivial fun j x s mx _ _ _=>⟨h j x s mx,trivial⟩
theorem Q6 (g:List α→Nat→σ→Option ρ) (I:List α→Nat→σ→Prop) (h0:∀i s,I [] i s→fin s=g [] i s)
  (h1:∀x l i s,I (x::l) i s→(∃s',body i x s=some (.inl s')∧I l (i+1) s'∧g (x::l) i s=g l (i+1) s')∨(∃r,body i x s=some (.inr r)∧g (x::l) i s=some r)):∀(l:List α) (i:Nat) (s:σ),I l i s→Zn body fin l i s=g l i s
 | [],i,s,h=>h0 i s h
 | x::l,i,s,h=>by
  rcases h1 x l i s h with ⟨s',e1,e2,e3⟩ | ⟨r,e1,e2⟩
  ·rw [ZV e1,Q6 g I h0 h1 l (i+1) s' e2,e3]
  ·rw [Ya e1,e2]
end
def Zar {α:Type} (p:Nat→α→Bool):List α→Nat→Bool
 | [],_=>true
 | x::l,i=>p i x&&Zar p l (i+1)
theorem ZnB {α:Type} {p:Nat→α→Bool}:∀{l:List α} {i:Nat},Zar p l i=true→∀j x,l[j]?=some x→p (i+j) x=true
 | [],_,_,j,x,hx=>by simp at hx
 | y::l,i,h,0,x,hx=>by simp only[Zar,A6] at h;simp at hx;subst hx;exact h.1
 | y::l,i,h,j+1,x,hx=>by
  simp only[Zar,A6] at h
  have:=ZnB h.2 j x (by simpa using hx)
  rwa [show i+(j+1)=i+1+j by omega]
section
variable {α σ ρ:Type} {body:Nat→α→σ→Option (σ ⊕ ρ)} {fin:σ→Option ρ}
theorem Xh {p:Nat→α→Bool} {r:ρ}:∀{l:List α} {i:Nat} {s:σ},(∀j x,l[j]?=some x→body (i+j) x s=some (bif p (i+j) x then .inl s else .inr r))→Zn body fin l i s=if Zar p l i=true then fin s else some r
 | [],_,_,_=>by simp [Zn,Zar]
 | x::l,i,s,h=>by
  have hx:=h 0 x (by simp)
  simp only[Nat.add_zero] at hx
  by_cases hp:p i x=true
  ·rw [hp,cond_true] at hx
   rw [ZV hx,Xh fun j y hy=>by have:=h (j+1) y (by simpa using hy);rwa [show i+(j+1)=i+1+j by omega] at this]
   simp [Zar,hp]
  ·rw [eq_false_of_ne_true hp,cond_false] at hx
   rw [Ya hx]
   simp [Zar,hp]
theorem Yk {β:Type} {g:α→Option β} {fin:List β→Option ρ} {body:Nat→α→List β→Option (List β ⊕ ρ)}:∀{l:List α} {i:Nat} {acc:List β},(∀j x s,x∈l→s.length+1≤acc.length+l.length→body j x s=some (.inl (s++(g x).toList)))→Zn body fin l i acc=fin (acc++l.filterMap g)
 | [],_,acc,_=>by simp [Zn]
 | x::l,i,acc,h=>by
  rw [ZV (h i x acc (by simp) (by simp))]
  rw [Yk fun j y s my hs=>h j y s (by simp [my]) (by cases hg:g x<;>simp [hg] at hs ⊢<;>omega)]
  congr 1
  cases hg:g x<;>simp [hg]
theorem Zk3 {β:Type} {g:α→β} {fin:List β→Option ρ} {body:Nat→α→List β→Option (List β ⊕ ρ)} {l:List α} {i:Nat} {acc:List β} (h:∀j x s,x∈l→s.length+1≤acc.length+l.length→body j x s=some (.inl (s++[g x]))):Zn body fin l i acc=fin (acc++l.map g):=by
 rw [Yk (g:=fun x=>some (g x)) h,List.filterMap_eq_map']
theorem ZdF {p:α→Bool} {fin:List α→Option ρ} {body:Nat→α→List α→Option (List α ⊕ ρ)} {l:List α} {i:Nat} {acc:List α} (h:∀j x s,x∈l→s.length+1≤acc.length+l.length→body j x s=some (.inl (if p x=true then s++[x] else s))):Zn body fin l i acc=fin (acc++l.filter p):=by
 rw [Yk (g:=fun x=>if p x=true then some x else none) fun j x s mx hs=>by rw [h j x s mx hs];split<;>simp]
 congr 2
 induction l with
 | nil=>rfl
 | cons x l ih=>
  have ih:=ih fun j y s my hs=>h j y s (by simp [my]) (by simp at hs ⊢;omega)
  by_cases hp:p x=true<;>simp [hp,ih]
end
/- texts -/
theorem ZN {x y:ByteArray}:sEq x y=true↔x=y:=by simp [sEq]
theorem ZrS {x y:ByteArray}:sEq x y=false↔¬x=y:=by simp [sEq]
theorem ZtY (x:ByteArray):sEq x x=true:=ZN.2 rfl
theorem ZeP {x y:ByteArray} (h:toL x=toL y):x=y:=by rw [←Zh4 x,←Zh4 y,h]
theorem Zco (x:ByteArray):(toL x).length=x.size:=by rw [toL,AJ,Array.length_toList]
theorem ZgP:∀(a b:List UInt8),Op.bytesLess a b=true↔a<b
 | [],[]=>by simp [Op.bytesLess]
 | [],_::_=>by simp [Op.bytesLess]
 | _::_,[]=>by simp [Op.bytesLess]
 | x::a,y::b=>by
  rw [List.cons_lt_cons_iff,←ZgP a b]
  simp only[Op.bytesLess]
  by_cases h:x<y
  ·simp [h]
  ·by_cases h2:x=y
   ·subst h2;simp [h]
   ·simp [h,h2]
theorem ZeM {x y:ByteArray}:sLt x y=true↔toL x<toL y:=by
 unfold sLt toL
 rw [ZgP,AA,AA]
theorem Zhi (x:ByteArray):sLt x x=false:=by
 cases h:sLt x x with
 | false=>rfl
 | true=>exact absurd (ZeM.1 h) (List.lt_irrefl _)
theorem ZdU {x y z:ByteArray} (h1:sLt x y=true) (h2:sLt y z=true):sLt x z=true:=ZeM.2 (List.lt_trans (ZeM.1 h1) (ZeM.1 h2))
theorem ZiN {x y:ByteArray} (h1:sLt x y=true):sLt y x=false:=by
 cases h:sLt y x with
 | false=>rfl
 | true=>have:=ZdU h1 h;rw [Zhi] at this;simp at this
theorem ZnR {x y:ByteArray} (h:sLt x y=true):¬x=y:=fun e=>by rw [e,Zhi] at h;simp at h
theorem Zd2 {x y:ByteArray} (h1:sLt x y=false) (h2:¬x=y):sLt y x=true:=by
 rcases Std.lt_trichotomy (toL x) (toL y) with h | h | h
 ·rw [ZeM.2 h] at h1;simp at h1
 ·exact absurd (ZeP h) h2
 ·exact ZeM.2 h
def Asc (l:List ByteArray):Prop:=l.Pairwise fun x y=>sLt x y=true
theorem Znf:∀{a b:List ByteArray},Asc a→Asc b→(∀x,x∈a↔x∈b)→a=b
 | [],[],_,_,_=>rfl
 | [],y::b,_,_,h=>by have:=(h y).2 (by simp);simp at this
 | x::a,[],_,_,h=>by have:=(h x).1 (by simp);simp at this
 | x::a,y::b,ha,hb,h=>by
  unfold Asc at ha hb
  rw [A9] at ha hb
  have hxy:x=y:=by
   have h1:=(h x).1 (by simp)
   have h2:=(h y).2 (by simp)
   rcases A5.1 h1 with h1 | h1
   ·exact h1
   ·rcases A5.1 h2 with h2 | h2
    ·exact h2.symm
    ·have:=ZiN (ha.1 y h2);rw [hb.1 x h1] at this;simp at this
  subst hxy
  congr 1
  refine Znf ha.2 hb.2 fun z=>?_
  have hz:=h z
  simp only[A5] at hz
  constructor
  ·intro m
   rcases hz.1 (.inr m) with e | m'
   ·exact absurd e.symm (ZnR (ha.1 z m))
   ·exact m'
  ·intro m
   rcases hz.2 (.inr m) with e | m'
   ·exact absurd e.symm (ZnR (hb.1 z m))
   ·exact m'
def XW:List ByteArray→ByteArray→List ByteArray
 | [],s=>[s]
 | x::r,s=>if sLt x s=true then x::XW r s else if sEq x s=true then x::r else s::x::r
theorem Zhu {y s:ByteArray}:∀{l:List ByteArray},y∈XW l s↔y=s∨y∈l
 | []=>by simp [XW]
 | x::r=>by
  simp only[XW]
  split
  ·simp only[A5,Zhu (l:=r)]
   constructor<;>(intro h;rcases h with h | h | h<;>simp [h])
  ·split
   ·rename_i h
    have:=ZN.1 h
    subst this
    simp
   ·simp
theorem ZfN {s:ByteArray}:∀{l:List ByteArray},Asc l→Asc (XW l s)
 | [],_=>by simp [XW,Asc]
 | x::r,h=>by
  have h':=h
  unfold Asc at h'
  rw [A9] at h'
  simp only[XW]
  split
  ·rename_i hx
   refine A9.2 ⟨fun y my=>?_,ZfN h'.2⟩
   rcases Zhu.1 my with rfl | my
   ·exact hx
   ·exact h'.1 y my
  ·split
   ·exact h
   ·rename_i hx hne
    have hsx:sLt s x=true:=Zd2 (by simpa using hx) (fun e=>hne (ZN.2 e))
    refine A9.2 ⟨fun y my=>?_,h⟩
    rcases A5.1 my with rfl | my
    ·exact hsx
    ·exact ZdU hsx (h'.1 y my)
theorem Zc6 (s:ByteArray):∀l:List ByteArray,(XW l s).length≤l.length+1
 | []=>by simp [XW]
 | x::r=>by
  have:=Zc6 s r
  simp only[XW]
  split
  ·simp;omega
  ·split<;>simp
def ZQ (l:List ByteArray):List ByteArray:=l.foldl XW []
theorem XC:∀(l acc:List ByteArray),Asc acc→Asc (l.foldl XW acc)∧(∀x,x∈l.foldl XW acc↔x∈l∨x∈acc)∧(l.foldl XW acc).length≤l.length+acc.length
 | [],acc,h=>⟨h,fun x=>by simp,by simp⟩
 | y::l,acc,h=>by
  obtain ⟨h1,h2,h3⟩:=XC l (XW acc y) (ZfN h)
  refine ⟨h1,fun x=>?_,?_⟩
  ·rw [AK,h2 x,Zhu]
   rw [A5]
   constructor
   ·rintro (h | h | h)<;>simp [h]
   ·rintro ((h | h) | h)<;>simp [h]
  ·have:=Zc6 y acc
   rw [AK]
   simp only[AC]
   omega
theorem ZbR (l:List ByteArray):Asc (ZQ l):=(XC l [] AD).1
theorem ZS {x:ByteArray} {l:List ByteArray}:x∈ZQ l↔x∈l:=by have:=(XC l [] AD).2.1 x;rw [ZQ,this];simp
theorem Zdy (l:List ByteArray):(ZQ l).length≤l.length:=(XC l [] AD).2.2
theorem Zez {a l:List ByteArray} (h:Asc a) (hm:∀x,x∈a↔x∈l):a=ZQ l:=Znf h (ZbR l) fun x=>by rw [hm,ZS]
theorem Zlx {a b:List ByteArray} (h:∀x,x∈a↔x∈b):ZQ a=ZQ b:=Zez (ZbR a) fun x=>by rw [ZS,h]
def Yj (l:List ByteArray) (s:ByteArray):Bool:=l.any fun x=>sEq x s
theorem XD {l:List ByteArray} {s:ByteArray}:Yj l s=true↔s∈l:=by
 simp only[Yj,List.any_eq_true,ZN]
 constructor
 ·rintro ⟨x,h,rfl⟩;exact h
 ·exact fun h=>⟨s,h,rfl⟩
/- sorting -/
theorem ZrE {x:ByteArray} {l:List ByteArray}:x∈Zeg l↔x∈l:=by
 simp only[Zeg,AL,List.mem_mergeSort]
 constructor
 ·rintro ⟨y,⟨z,hz,rfl⟩,rfl⟩;rw [Zh4];exact hz
 ·exact fun h=>⟨toL x,⟨x,h,rfl⟩,Zh4 x⟩
theorem ZsJ (l:List ByteArray):(Zeg l).length=l.length:=by simp [Zeg]
theorem Zto (l:List ByteArray):(Zeg l).Pairwise fun x y=>sLt y x=false:=by
 unfold Zeg
 rw [List.pairwise_map]
 have:=List.pairwise_mergeSort (le:=fun x y:List UInt8=>decide (x≤y)) (fun a b c h1 h2=>by simp at h1 h2 ⊢;exact List.le_trans h1 h2) (fun a b=>by simp;exact List.le_total a b) (l.map toL)
 refine this.imp fun {a b} h=>?_
 cases hh:sLt (ofL b) (ofL a) with
 | false=>rfl
 | true=>
  have h1:=ZeM.1 hh
  rw [ZbD,ZbD] at h1
  have h2:a≤b:=by simpa using h
  exact absurd h1 (List.not_lt.2 h2)
end
theorem Zde (a b:ByteArray):toL (a++b)=toL a++toL b:=by simp [toL]
theorem ZqQ (a b:List UInt8):ofL (a++b)=ofL a++ofL b:=ZeP (by rw [Zde,ZbD,ZbD,ZbD])
theorem Zff (a:List UInt8):(ofL a).size=a.length:=by rw [←Zco,ZbD]
theorem Zui (a b c:ByteArray):(a++b)++c=a++(b++c):=ZeP (by simp only[Zde,List.append_assoc])
theorem ZuK (a b:ByteArray):(a++b).size=a.size+b.size:=by rw [←Zco,←Zco,←Zco,Zde,List.length_append]
theorem Zdu {n:Int} (h0:-9223372036854775808≤n) (h1:n≤9223372036854775807):IntKind.i64.wrap n=n:=by rw [IntKind.wrap_i64];omega
theorem ZsN (u:Nat) (hu:u<9223372036854775808):YQ [IntKind.u8.wrap (IntKind.i64.wrap (48+Int.tmod (u:Int) 10))]=ofL [AE (48+u % 10)]:=by
 have h1:Int.tmod (u:Int) 10=((u % 10:Nat):Int):=by rw [Int.tmod_eq_emod_of_nonneg (by omega)];omega
 rw [h1,Zdu (by omega) (by omega),IntKind.wrap_u8,show (48+((u % 10:Nat):Int)) % 256=((48+u % 10:Nat):Int) by omega]
 apply ZeP
 rw [ZbD]
 simp only[YQ,List.map_cons,List.map_nil,toL,A8]
theorem ZuH (u:Nat) (hu:u<9223372036854775808):IntKind.i64.wrap (Int.tdiv (u:Int) 10)=((u / 10:Nat):Int):=by
 rw [Int.tdiv_eq_ediv_of_nonneg (by omega),Zdu (by omega) (by omega)]
 omega
theorem Ztj {body:Int × ByteArray→Option ((Int × ByteArray) ⊕ ByteArray)} (hb:∀n t,body (n,t)=chk ((YQ [IntKind.u8.wrap (IntKind.i64.wrap (48+Int.tmod n 10))]).size+t.size≤9223372036854775807)
   (if (IntKind.i64.wrap (Int.tdiv n 10)==0)=true then some (.inr (YQ [IntKind.u8.wrap (IntKind.i64.wrap (48+Int.tmod n 10))]++t)) else some (.inl (IntKind.i64.wrap (Int.tdiv n 10),YQ [IntKind.u8.wrap (IntKind.i64.wrap (48+Int.tmod n 10))]++t)))):
  ∀(u:Nat) (t:ByteArray),u<9223372036854775808→t.size+Lib.nDigits u≤1000→Y5 body ((u:Int),t)=some (ofL (Lib.decDigits u)++t):=by
 intro u
 induction u using Nat.strongRecOn with
 | ind u ih=>
  intro t hu ht
  rw [Zig,hb,ZsN u hu,ZuH u hu]
  have hp:=Lib.nDigits_pos u
  rw [Zi _ (by rw [Zff];simp;omega)]
  by_cases h:u<10
  ·have h0:u / 10=0:=by omega
   rw [h0,Lib.decDigits_one h,show u % 10=u by omega]
   rfl
  ·have h0:¬(((u / 10:Nat):Int)==0)=true:=by simp;omega
   rw [if_neg h0]
   have hd:=Lib.nDigits_big h
   show Y5 body (((u / 10:Nat):Int),ofL [AE (48+u % 10)]++t)=_
   rw [ih (u / 10) (by omega) _ (by omega) (by rw [ZuK,Zff];simp;omega),←Zui,←ZqQ]
   congr 2
   rw [show Lib.decDigits u=Lib.decDigits (u / 10)++[AE (48+u % 10)] by rw [Lib.decDigits,dif_neg h]]
theorem ZyO (t:ByteArray):t++(⟨#[]⟩:ByteArray)=t:=ZeP (by rw [Zde];simp [toL])
theorem Zmt {body:Int × ByteArray→Option ((Int × ByteArray) ⊕ ByteArray)} (hb:∀n t,body (n,t)=chk ((YQ [IntKind.u8.wrap (IntKind.i64.wrap (48+Int.tmod n 10))]).size+t.size≤9223372036854775807)
   (if (IntKind.i64.wrap (Int.tdiv n 10)==0)=true then some (.inr (YQ [IntKind.u8.wrap (IntKind.i64.wrap (48+Int.tmod n 10))]++t)) else some (.inl (IntKind.i64.wrap (Int.tdiv n 10),YQ [IntKind.u8.wrap (IntKind.i64.wrap (48+Int.tmod n 10))]++t))))
  {n:Int} (h0:0≤n) (h1:n≤9223372036854775807):Y5 body (n,⟨#[]⟩)=some (ofL (Lib.itoa n)):=by
 obtain ⟨u,rfl⟩:∃u:Nat,n=(u:Int):=⟨n.toNat,by omega⟩
 have:=Lib.nDigits_le20 u (by omega)
 rw [Ztj hb u _ (by omega) (by show 0+_≤_;omega),ZyO,Lib.itoa_nonneg]
theorem ZqM:ofL (Lib.itoa (-9223372036854775808))=(⟨#[45,57,50,50,51,51,55,50,48,51,54,56,53,52,55,55,53,56,48,56]⟩:ByteArray):=by
 rw [show (-9223372036854775808:Int)=-((9223372036854775808:Nat):Int) by rfl,Lib.itoa_neg _ (by omega),Lib.decDigits_eq,Lib.nDigits_unique 18 _ (by decide) (by decide)]
 decide +kernel
theorem Zin {n:Int} (h0:0≤n) (h1:n≤9223372036854775807):Q4 n=some (ofL (Lib.itoa n)):=by
 unfold Q4
 rw [if_neg (by simp;omega),if_neg (by simp;omega)]
 exact Zmt (fun _ _=>rfl) h0 h1
theorem ZfT {n:Int} (h:ZoN n):XO n=some (ofL (Lib.itoa n)):=by
 unfold XO
 by_cases hm:n=-9223372036854775808
 ·subst hm
  rw [if_pos (by decide),ZqM]
 ·rw [if_neg (by simpa using hm)]
  by_cases hn:n<0
  ·have h2:ZoN n:=h
   unfold ZoN at h2
   rw [if_pos (by simpa using hn),Zdu (by omega) (by omega),Zin (by omega) (by omega),A4]
   obtain ⟨u,rfl⟩:∃u:Nat,n=-(u:Int):=⟨n.natAbs,by omega⟩
   rw [show (0 - -(u:Int))=(u:Int) by omega,Lib.itoa_nonneg,Lib.itoa_neg u (by omega)]
   have:=Lib.nDigits_le20 u (by omega)
   rw [Zi _ (by rw [Zff,Lib.decDigits_length];show 1+_≤_;omega)]
   exact congrArg some (ZeP (by rw [Zde,ZbD,ZbD];rfl))
  ·rw [if_neg (by simpa using hn)]
   exact Zmt (fun _ _=>rfl) (by omega) h.2
theorem ZcV {n:Int} (h:ZoN n):Zav n=some (ofL (Lib.itoa n)):=by
 have h2:-9223372036854775808≤n∧n≤9223372036854775807:=h
 unfold Zav Zno
 rw [Zi _ h2]
 rfl
def ZaY (b:UInt8):Bool:=(decide (97≤b.toNat)&&decide (b.toNat≤122))||(decide (48≤b.toNat)&&decide (b.toNat≤57))
def ZP (s:ByteArray):Bool:=decide (1≤s.size)&&decide (s.size≤8)&&(toL s).all ZaY
theorem Zgf (x a b:Int):Za5 x a b=some (decide (a≤x)&&decide (x≤b)):=by
 unfold Za5
 by_cases h:a≤x<;>simp [h]
theorem Zmj (b:UInt8):IntKind.i64.wrap ((b.toNat:Nat):Int)=((b.toNat:Nat):Int):=Xn (by omega) (by have:=b.toNat_lt;omega)
theorem QQ {b:UInt8}:ZaY b=true↔(97≤b.toNat∧b.toNat≤122)∨(48≤b.toNat∧b.toNat≤57):=by
 simp only[ZaY,AM,A6,decide_eq_true_eq]
theorem XQ (s:ByteArray):X3 s=some (ZP s):=by
 unfold X3 ZP
 rw [show s.data.toList=toL s from rfl,ZW (p:=ZaY) (r:=false)]
 ·simp only[Zgf,A4]
  cases (toL s).all ZaY with
  | true=>
   simp only[if_true,Bool.and_true]
   congr 1
   rw [AF]
   simp only[A6,decide_eq_true_eq]
   omega
  | false=>simp
 ·intro i x _
  simp only[Zgf,A4,Zmj,A6,decide_eq_true_eq]
  cases hp:ZaY x with
  | true=>
   have:=QQ.1 hp
   repeat' split
   all_goals first | rfl | (exfalso;omega) | (exfalso;simp_all;done)
  | false=>
   have:=mt (QQ (b:=x)).2 (by simp [hp])
   repeat' split
   all_goals first | rfl | (exfalso;omega) | (exfalso;simp_all;done)
theorem XP (s:ByteArray):X5 s=some (ZP s):=by
 unfold X5 ZP
 simp only[decide_eq_true_eq]
 rw [show s.data.toList=toL s from rfl,ZW (p:=ZaY) (r:=false)]
 ·repeat' split
  ·rw [decide_eq_false (show ¬1≤s.size by omega)];rfl
  ·rw [decide_eq_false (show ¬s.size≤8 by omega)];simp
  ·rename_i h;rw [h,decide_eq_true (show 1≤s.size by omega),decide_eq_true (show s.size≤8 by omega)];rfl
  ·rename_i h;rw [eq_false_of_ne_true h];simp
 ·intro i x _
  cases hp:ZaY x with
  | true=>
   have:=QQ.1 hp
   repeat' split
   all_goals first | rfl | (exfalso;omega) | (exfalso;simp_all;done)
  | false=>
   have:=mt (QQ (b:=x)).2 (by simp [hp])
   repeat' split
   all_goals first | rfl | (exfalso;omega) | (exfalso;simp_all;done)
def ZgS (s:ByteArray):UInt8:=(toL s).headD 0
theorem ZhG {s:ByteArray} (h:1≤s.size):sAt s 0=some (ZgS s):=by
 unfold sAt ZgS
 have hl:0<(toL s).length:=by rw [Zco];omega
 have:(toL s)[0]?=some ((toL s).headD 0):=by
  cases hh:toL s with
  | nil=>rw [hh] at hl;simp at hl
  | cons a r=>simp
 rw [if_pos (by omega)]
 exact Znm this
def Qc (s:ByteArray):Bool:=ZP s&&decide (97≤(ZgS s).toNat)
theorem ZeH {s:ByteArray} (h:ZP s=true):1≤s.size∧s.size≤8:=by
 simp only[ZP,A6,decide_eq_true_eq] at h
 exact h.1
theorem ZhU {s:ByteArray} (h:ZP s=true):ZaY (ZgS s)=true:=by
 have hs:=ZeH h
 simp only[ZP,A6] at h
 have hl:0<(toL s).length:=by rw [Zco];omega
 refine List.all_eq_true.1 h.2 _ ?_
 unfold ZgS
 cases hh:toL s with
 | nil=>rw [hh] at hl;simp at hl
 | cons a r=>simp
theorem ZfH (s:ByteArray):ZcY s=some (Qc s):=by
 unfold ZcY Qc
 rw [XQ,A4]
 cases h:ZP s with
 | false=>simp
 | true=>
  simp only[if_true,ZhG (ZeH h).1,A4,Zgf,Zmj,AB]
  have hb:=QQ.1 (ZhU h)
  congr 1
  rw [AF]
  simp only[A6,decide_eq_true_eq]
  omega
theorem Zft (s:ByteArray):Zdg s=some (Qc s):=by
 unfold Zdg Qc
 rw [XP,A4]
 cases h:ZP s with
 | false=>simp
 | true=>
  simp only[if_true,ZhG (ZeH h).1,A4,AB]
  congr 1
  rw [AF]
  simp only[decide_eq_true_eq]
  omega
def ZsT (s:ByteArray):ByteArray:=s.extract 1 s.size
def Ye (s:ByteArray):Bool:=decide (1<s.size)&&decide ((ZgS s).toNat=63)&&ZP (ZsT s)
theorem Qt (s:ByteArray):Zab s=some (Ye s):=by
 unfold Zab Ye ZsT
 by_cases h:1<s.size
 ·have h':(1:Int)<((s.size:Nat):Int):=by omega
  simp only[h',h,decide_true,if_true,ZhG (show 1≤s.size by omega),A4,AB]
  rw [Zi _ ⟨by omega,by omega⟩,show Int.toNat 1=1 from rfl,XQ,A4]
  by_cases h2:(ZgS s).toNat=63
  ·simp [h2]
  ·have:¬((ZgS s).toNat:Int)=63:=by omega
   simp [h2,this]
 ·have h':¬(1:Int)<((s.size:Nat):Int):=by omega
  simp [h',h]
theorem ZcI (s:ByteArray):Zcp s=some (Ye s):=by
 unfold Zcp Ye ZsT
 by_cases h:1<s.size
 ·have h':(1:Int)<((s.size:Nat):Int):=by omega
  simp only[h',h,decide_true,if_true,ZhG (show 1≤s.size by omega),A4,AB]
  rw [Zi _ ⟨by omega,by omega⟩,show Int.toNat 1=1 from rfl,XP,A4]
  by_cases h2:(ZgS s).toNat=63
  ·simp [h2]
  ·have:¬((ZgS s).toNat:Int)=63:=by omega
   simp [h2,this]
 ·have h':¬(1:Int)<((s.size:Nat):Int):=by omega
  simp [h',h]
def Yi (s:ByteArray):Bool:=ZP s||Ye s
theorem Zi3 (s:ByteArray):Qv s=some (Yi s):=by
 unfold Qv Yi
 rw [XQ,Qt]
 cases ZP s<;>simp
theorem ZiT (s:ByteArray):Qx s=some (Yi s):=by
 unfold Qx Yi
 rw [XP,ZcI]
 cases ZP s<;>simp
theorem YF (l:List ByteArray) (s:ByteArray):ZR l s=some (Yj l s):=by
 unfold ZR Yj
 rw [Zc7 (p:=fun x=>sEq x s) (r:=true)]
 ·cases l.any fun x=>sEq x s<;>simp
 ·intro i x _
  cases sEq x s<;>simp
theorem QO (l:List ByteArray) (s:ByteArray):YV l s=some (Yj l s):=by
 unfold YV Yj
 rw [Zc7 (p:=fun x=>sEq x s) (r:=true)]
 ·cases l.any fun x=>sEq x s<;>simp
 ·intro i x _
  cases sEq x s<;>simp
theorem XV (l:List ByteArray) (s:ByteArray) (h:l.length+1≤1073741824):XA l s=some (XW l s):=by
 unfold XA
 refine (Q6 (fun l _ (st:List ByteArray × Bool)=>some (if st.2=true then st.1++l else st.1++XW l s)) (fun l _ (st:List ByteArray × Bool)=>st.1.length+l.length+(if st.2=true then 0 else 1)≤1073741824) ?_ ?_ l 0 ([],false) (by simpa using h)).trans (by simp)
 ·rintro i ⟨row,d⟩ hI
  cases d with
  | true=>simp
  | false=>simp only[A7,if_false,XW];simp at hI;rw [Zi _ (by omega)]
 ·rintro x l i ⟨row,d⟩ hI
  left
  cases d with
  | true=>
   simp at hI
   exact ⟨(row++[x],true),by simp only[if_true];rw [Zi _ (by omega)],by simp;omega,by simp⟩
  | false=>
   simp at hI
   cases h1:sLt x s with
   | true=>exact ⟨(row++[x],false),by simp only[A7,if_false,if_true];rw [Zi _ (by omega)],by simp;omega,by simp [XW,h1]⟩
   | false=>
    cases h2:sEq x s with
    | true=>exact ⟨(row++[x],true),by simp only[A7,if_false,if_true];rw [Zi _ (by omega)],by simp;omega,by simp [XW,h1,h2]⟩
    | false=>exact ⟨(row++[s]++[x],true),by simp only[A7,if_false];rw [Zi _ (by omega),Zi _ (by omega)],by simp;omega,by simp [XW,h1,h2]⟩
def YX:ByteArray→List ByteArray→List ByteArray
 | _,[]=>[]
 | y,x::r=>if sEq y x=true then YX x r else x::YX x r
def ZkN:List ByteArray→List ByteArray
 | []=>[]
 | x::r=>x::YX x r
theorem Zey {z:ByteArray}:∀{l:List ByteArray} {y:ByteArray},z∈YX y l→z∈l
 | [],_,h=>by simp [YX] at h
 | x::r,y,h=>by
  simp only[YX] at h
  split at h
  ·exact AG _ (Zey h)
  ·rcases A5.1 h with rfl | h
   ·simp
   ·exact AG _ (Zey h)
theorem Zh9 {z:ByteArray}:∀{l:List ByteArray} {y:ByteArray},z∈l→z=y∨z∈YX y l
 | [],_,h=>by simp at h
 | x::r,y,h=>by
  simp only[YX]
  rcases A5.1 h with rfl | h
  ·split
   ·rename_i e;exact .inl (ZN.1 e).symm
   ·simp
  ·rcases Zh9 (y:=x) h with rfl | h'
   ·split
    ·rename_i e;exact .inl (ZN.1 e).symm
    ·simp
   ·split
    ·exact .inr h'
    ·exact .inr (AG _ h')
theorem Zhv:∀{l:List ByteArray} {y:ByteArray},(y::l).Pairwise (fun a b=>sLt b a=false)→Asc (y::YX y l)
 | [],_,_=>by simp [YX,Asc]
 | x::r,y,h=>by
  rw [A9] at h
  have ih:=Zhv h.2
  simp only[YX]
  split
  ·rename_i e
   have e':=ZN.1 e
   subst e'
   exact ih
  ·rename_i e
   have hyx:sLt y x=true:=Zd2 (h.1 x (by simp)) (fun h=>e (ZN.2 h.symm))
   refine A9.2 ⟨fun z mz=>?_,ih⟩
   rcases A5.1 mz with rfl | mz
   ·exact hyx
   ·exact ZdU hyx ((A9.1 ih).1 z mz)
theorem ZnU (l:List ByteArray):ZkN (Zeg l)=ZQ l:=by
 have hs:=Zto l
 refine Zez ?_ fun x=>?_
 ·cases h:Zeg l with
  | nil=>simp [ZkN,Asc]
  | cons y r=>rw [h] at hs;exact Zhv hs
 ·rw [←ZrE (l:=l)]
  cases h:Zeg l with
  | nil=>simp [ZkN]
  | cons y r=>
   simp only[ZkN,A5]
   constructor
   ·rintro (rfl | h)
    ·exact .inl rfl
    ·exact .inr (Zey h)
   ·rintro (rfl | h)
    ·exact .inl rfl
    ·exact Zh9 h
theorem XG (l:List ByteArray) (h:l.length≤1073741824):Yb l=some (ZQ l):=by
 unfold Yb
 rw [Zi _ h,ZbK,Zi _ (by omega),A4]
 have hl:=ZsJ l
 rw [←ZnU]
 generalize Zeg l=v at hl
 refine (Q6 (fun r i (row:List ByteArray)=>some (row++match i with | 0=>ZkN r | i+1=>(match v[i]? with | some y=>YX y r | none=>[]))) (fun r i row=>v.drop i=r∧row.length≤i∧i≤v.length) ?_ ?_ v 0 [] ⟨by simp,by simp,by simp⟩).trans (by simp)
 ·rintro i row ⟨h1,h2,h3⟩
  cases i with
  | zero=>simp [ZkN]
  | succ i=>cases hv:v[i]?<;>simp [YX,hv]
 ·rintro x r i row ⟨h1,h2,h3⟩
  left
  have hi:v[i]?=some x:=by have:=congrArg (fun l=>l[0]?) h1;simpa using this
  have hlt:i<v.length:=(AH.1 hi).1
  have hr:v.drop (i+1)=r:=by have:=congrArg List.tail h1;simpa using this
  cases i with
  | zero=>
   refine ⟨row++[x],?_,⟨hr,by simp at h2 ⊢;simp [h2],by omega⟩,?_⟩
   ·simp only[Int.natCast_zero,beq_self_eq_true,if_true]
    rw [Zi _ (by omega)]
   ·simp [ZkN,hi]
  | succ i=>
   have hw:IntKind.i64.wrap (((i+1:Nat):Int) - 1)=((i:Nat):Int):=by rw [Xn (by omega) (by omega)];omega
   have hne:((((i+1:Nat):Int))==0)=false:=by rw [beq_eq_false_iff_ne];omega
   obtain ⟨y,hy⟩:∃y,v[i]?=some y:=⟨v[i],by simp⟩
   simp only[hne,A7,if_false,hw,A8,hy,A4]
   cases he:sEq y x with
   | true=>
    refine ⟨row,?_,⟨hr,by omega,by omega⟩,?_⟩
    ·rw [Zi _ ⟨by omega,by omega⟩];rfl
    ·simp [YX,he,hi]
   | false=>
    refine ⟨row++[x],?_,⟨hr,by simp;omega,by omega⟩,?_⟩
    ·rw [Zi _ ⟨by omega,by omega⟩]
     simp only[A7,if_false]
     rw [Zi _ (by omega)]
    ·simp [YX,he,hi]
theorem Zfl (l:List ByteArray) (h:l.length≤1073741824):Zaw l=some l:=by
 unfold Zaw
 rw [Zi _ h]
theorem ZnL (l:List ByteArray) (h:l.length≤1073741824):Zeq l=some l:=by
 unfold Zeq
 rw [Zi _ h]
theorem Zkw {ρ:Type} {fin:List ByteArray→Option ρ} {body:Nat→ByteArray→List ByteArray→Option (List ByteArray ⊕ ρ)} (hb:∀j x s,body j x s=(XA s x).bind fun v=>some (.inl v)) {l acc:List ByteArray} (h:acc.length+l.length≤1073741824):Zn body fin l 0 acc=fin (l.foldl XW acc):=by
 refine XE (f:=XW) (fun j s=>s.length≤acc.length+j) (by omega) fun j x s mx hj hl hI=>?_
 have hp:=Zc6 x s
 exact ⟨by rw [hb,XV _ _ (by omega)];rfl,by omega⟩
theorem QL {α σ ρ:Type} {body:Nat→α→σ→Option (σ ⊕ ρ)} {fin:σ→Option ρ} (st:List α→σ) (l:List α) (h:∀p x q,l=p++x::q→body p.length x (st p)=some (.inl (st (p++[x])))):Zn body fin l 0 (st [])=fin (st l):=by
 have key:∀(q p:List α),l=p++q→Zn body fin q p.length (st p)=fin (st l):=by
  intro q
  induction q with
  | nil=>intro p e;rw [ZkA,e,List.append_nil]
  | cons x q ih=>
   intro p e
   rw [ZV (h p x q e)]
   have:=ih (p++[x]) (by rw [e];simp)
   simpa using this
 exact key l [] rfl
def YH (f:Zd):Bool:=Qc f.rel&&decide (f.args.length≤3)&&f.args.all ZP
theorem ZiZ (f:Zd):ZdZ f=some (YH f):=by
 unfold ZdZ YH
 rw [ZW (p:=ZP) (r:=false)]
 ·rw [ZfH,A4]
  cases Qc f.rel<;>cases h:f.args.all ZP<;>simp<;>omega
 ·intro i x _
  rw [XQ,A4]
  cases ZP x<;>rfl
theorem ZiS (f:Zd):Zej f=some (YH f):=by
 unfold Zej YH
 rw [Zft,A4]
 cases Qc f.rel with
 | false=>rfl
 | true=>
  rw [if_pos rfl]
  by_cases h:f.args.length≤3
  ·rw [if_neg (by simp;omega),ZW (p:=ZP) (r:=false)]
   ·cases h2:f.args.all ZP<;>simp [h]
   ·intro i x _
    rw [XP,A4]
    cases ZP x<;>rfl
  ·rw [if_pos (by simp;omega)]
   simp [h]
structure Zm9 {α:Type} (c:α→α→Int):Prop where
 eq:∀a b,c a b=0↔a=b
 anti:∀a b,c b a=- c a b
 tr:∀a b d,c a b<0→c b d<0→c a d<0
def Zg6 (a b:ByteArray):Int:=Lib.compareBytes (toL a) (toL b)
theorem ZgY:∀(x y:List UInt8),Lib.compareBytes x y=if Op.bytesLess x y=true then -1 else if x=y then 0 else 1
 | [],[]=>by simp [Lib.compareBytes,Op.bytesLess]
 | [],_::_=>by simp [Lib.compareBytes,Op.bytesLess]
 | _::_,[]=>by simp [Lib.compareBytes,Op.bytesLess]
 | a::x,b::y=>by
  have ih:=ZgY x y
  unfold Lib.compareBytes Op.bytesLess
  by_cases h1:a<b
  ·simp [h1]
  ·rw [if_neg h1]
   by_cases h2:b<a
   ·have h3:¬a=b:=fun e=>by rw [e] at h2;exact absurd h2 (UInt8.lt_irrefl _)
    rw [if_pos h2]
    simp [h1,h3]
   ·have h3:a=b:=by
     apply UInt8.toNat_inj.1
     rw [UInt8.lt_iff_toNat_lt] at h1 h2
     omega
    subst h3
    rw [if_neg h2,ih]
    simp [h1]
theorem Zgp (a b:ByteArray):Zg6 a b=if sLt a b=true then -1 else if a=b then 0 else 1:=by
 unfold Zg6
 rw [ZgY]
 have h1:Op.bytesLess (toL a) (toL b)=sLt a b:=by unfold sLt toL;rw [AA,AA]
 rw [h1]
 by_cases h:a=b
 ·subst h;simp
 ·rw [if_neg h,if_neg (fun e=>h (ZeP e))]
theorem ZaW:Zm9 Zg6 where
 eq:=fun a b=>by
  rw [Zgp]
  by_cases h:sLt a b=true
  ·simp [h,ZnR h]
  ·rw [if_neg h]
   by_cases h2:a=b<;>simp [h2]
 anti:=fun a b=>by
  rw [Zgp,Zgp]
  by_cases h:sLt a b=true
  ·have h2:=ZiN h
   have h3:=ZnR h
   rw [if_pos h,if_neg (by simp [h2]),if_neg (fun e=>h3 e.symm)];rfl
  ·rw [if_neg h]
   by_cases h2:a=b
   ·subst h2;rw [if_neg h];simp
   ·rw [if_pos (Zd2 (by simpa using h) h2),if_neg h2]
 tr:=fun a b d h1 h2=>by
  have key:∀x y,Zg6 x y<0→sLt x y=true:=fun x y h=>by
   rw [Zgp] at h
   by_cases hx:sLt x y=true
   ·exact hx
   ·rw [if_neg hx] at h;split at h<;>omega
  rw [Zgp,if_pos (ZdU (key _ _ h1) (key _ _ h2))]
  omega
theorem Zkt (a b:ByteArray):Zgl a b=some (Zg6 a b):=by
 unfold Zgl
 rw [Zgp]
 by_cases h:sLt a b=true
 ·rw [if_pos h,if_pos h]
 ·rw [if_neg h,if_neg h]
  by_cases h2:a=b
  ·subst h2;rw [if_pos (by rw [ZtY];simp),if_pos rfl]
  ·rw [if_neg (by simp only[AM,ZN];rintro (h3 | h3);exact h h3;exact h2 h3),if_neg h2]
theorem ZhQ (a b:ByteArray):Zd1 a b=some (Zg6 a b):=rfl
/- numbers -/
theorem Zl3 {u:Nat} {b:UInt8} (h:b∈Lib.decDigits u):48≤b.toNat∧b.toNat≤57:=by
 rw [Lib.decDigits_eq,AL] at h
 obtain ⟨t,_,rfl⟩:=h
 unfold Lib.dg
 have:u / 10 ^ (Lib.nDigits u - 1 - t) % 10<10:=Nat.mod_lt _ (by omega)
 rw [UInt8.toNat_ofNat']
 omega
def Qg (s:ByteArray):Option Nat:=
 if 1≤s.size∧s.size≤4 then (match Lib.decNat (toL s) with | some n=>if ofL (Lib.decDigits n)=s then some n else none | none=>none) else none
def ZcZ (s:ByteArray):Int × Bool:=match Qg s with | some n=>((n:Int),true) | none=>(0,false)
theorem Ziz {s:ByteArray} {n:Nat} (h:Qg s=some n):s=ofL (Lib.decDigits n)∧n≤9999:=by
 unfold Qg at h
 split at h
 ·rename_i hs
  split at h
  ·split at h
   ·rename_i m _ he
    obtain rfl:=A3 h
    refine ⟨he.symm,?_⟩
    have hl:Lib.nDigits m≤4:=by
     have:=congrArg AJ he
     rw [Zff,Lib.decDigits_length] at this
     omega
    have:=Lib.lt_pow_nDigits m
    have h2:10 ^ Lib.nDigits m≤10 ^ 4:=AN (by omega) hl
    omega
   ·simp at h
  ·simp at h
 ·simp at h
theorem Zs0 {a b:ByteArray} {n:Nat} (h1:Qg a=some n) (h2:Qg b=some n):a=b:=(Ziz h1).1.trans (Ziz h2).1.symm
theorem ZoS {body:Nat→UInt8→Int→Option (Int ⊕ (Int × Bool))} {fin:Int→Option (Int × Bool)}
  (hb:∀i (x:UInt8) n,body i x n=if (decide (((x.toNat:Nat):Int)<48))=true then some (.inr (0,false)) else if (decide (57<((x.toNat:Nat):Int)))=true then some (.inr (0,false)) else some (.inl (IntKind.i64.wrap ((IntKind.i64.wrap (10 * n))+IntKind.i64.wrap (IntKind.u8.wrap (((x.toNat:Nat):Int) - 48)))))):
  ∀(l:List UInt8) (i acc:Nat),(acc+1) * 10 ^ l.length≤100000→Zn body fin l i (acc:Int)=match Lib.decFrom acc l with | some n=>fin (n:Int) | none=>some (0,false)
 | [],i,acc,_=>rfl
 | x::l,i,acc,h=>by
  unfold Lib.decFrom Lib.digitVal
  by_cases h1:48≤x.toNat∧x.toNat≤57
  ·have e:body i x (acc:Int)=some (.inl ((acc * 10+(x.toNat - 48):Nat):Int)):=by
    have hp:1≤10 ^ (x::l).length:=Nat.one_le_pow _ _ (by omega)
    have h2:acc+1≤100000:=AI (Nat.le_mul_of_pos_right _ hp) h
    rw [hb,if_neg (by simp;omega),if_neg (by simp;omega),Zdu (n:=10 * (acc:Int)) (by omega) (by omega),IntKind.wrap_u8,Zdu (n:=(((x.toNat:Nat):Int) - 48) % 256) (by omega) (by omega),Zdu (by omega) (by omega)]
    congr 2
    omega
   rw [ZV e,if_pos h1]
   refine ZoS hb l (i+1) _ ?_
   rw [AC,Nat.pow_succ] at h
   refine AI ?_ h
   rw [show (acc+1) * (10 ^ l.length * 10)=((acc+1) * 10) * 10 ^ l.length by rw [Nat.mul_assoc,Nat.mul_comm 10]]
   exact Nat.mul_le_mul_right _ (by omega)
  ·have e:body i x (acc:Int)=some (.inr (0,false)):=by
    rw [hb]
    by_cases h2:x.toNat<48
    ·rw [if_pos (by simp;omega)]
    ·rw [if_neg (by simp;omega),if_pos (by simp;omega)]
   rw [Ya e,if_neg h1]
theorem Zt2 (n a b:Int):Za5 n a b=some (decide (a≤n)&&decide (n≤b)):=by
 unfold Za5
 by_cases h:a≤n<;>simp [h]
theorem s_ParseInt_eq (s:ByteArray):X0 s=some (ZcZ s):=by
 unfold X0 ZcZ Qg
 rw [Zt2,A4]
 by_cases hs:1≤s.size∧s.size≤4
 ·rw [if_pos (by simp;omega),if_pos hs]
  have hl:s.data.toList.length=s.size:=Zco s
  refine (ZoS (fun _ _ _=>rfl) s.data.toList 0 0 (by
   rw [hl,Nat.zero_add,Nat.one_mul]
   exact AI (AN (by omega) hs.2) (by omega))).trans ?_
  have hd:Lib.decNat (toL s)=Lib.decFrom 0 s.data.toList:=by
   unfold Lib.decNat
   rw [if_neg]
   ·rfl
   ·intro e
    have:=Zco s
    rw [List.isEmpty_iff.1 e] at this
    simp at this;omega
  rw [hd]
  cases hv:Lib.decFrom 0 s.data.toList with
  | none=>rfl
  | some n=>
   have hb:n<1000000000000000000:=Lib.decFrom_lt18 hv (by omega)
   show (XO ((n:Nat):Int)).bind _=_
   rw [ZfT ⟨by omega,by omega⟩,A4,Lib.itoa_nonneg]
   by_cases he:ofL (Lib.decDigits n)=s
   ·rw [if_pos (ZN.2 he)]
    simp only[he,if_true]
   ·rw [if_neg (by rw [ZN];exact he)]
    simp only[he,if_false]
 ·rw [if_neg (by simp;omega),if_neg hs]
theorem Zs4 {b:UInt8} {r:List UInt8} (h:b=45∨b=43):Lib.decNat (b::r)=none:=by
 rcases h with rfl | rfl<;>simp [Lib.decNat,Lib.decFrom,Lib.digitVal]
theorem Zl7 {s:ByteArray} (h:Lib.decNat (toL s)=none):Qg s=none:=by
 unfold Qg
 rw [h]
 split<;>rfl
theorem Zbx (s:ByteArray):QD s=some (ZcZ s):=by
 unfold QD
 by_cases h1:s.size<1
 ·rw [if_pos (by simp;omega)]
  unfold ZcZ Qg
  rw [if_neg (by omega)]
 by_cases h2:4<s.size
 ·rw [if_neg (by simp;omega),if_pos (by simp;omega)]
  unfold ZcZ Qg
  rw [if_neg (by omega)]
 rw [if_neg (by simp;omega),if_neg (by simp;omega)]
 have hl:=Zco s
 have hx:Zkj s=some (match Lib.atoi (toL s) with | some n=>(n,true) | none=>(0,false)):=by
  unfold Zkj
  exact Zi _ (by omega)
 rw [hx,A4]
 cases hL:toL s with
 | nil=>rw [hL] at hl;simp at hl;omega
 | cons b r=>
  have sgn:b=45∨b=43→ZcZ s=(0,false):=fun h=>by
   unfold ZcZ
   rw [Zl7 (by rw [hL];exact Zs4 h)]
  have bad:∀m,(b=45∨b=43)→¬ofL (Lib.decDigits m)=s:=fun m h e=>by
   have hm:b∈Lib.decDigits m:=by
    have:toL s=Lib.decDigits m:=by rw [←e,ZbD]
    rw [←this,hL];simp
   have:=Zl3 hm
   rcases h with rfl | rfl<;>simp at this
  by_cases hb1:b=45
  ·rw [sgn (.inl hb1)]
   cases hd:Lib.decNat r with
   | none=>simp [Lib.atoi,hb1,hd]
   | some m=>
    have e:Lib.atoi (b::r)=some (-(m:Int)):=by simp [Lib.atoi,hb1,hd]
    rw [e]
    simp only[if_true]
    by_cases hm:m=0
    ·subst hm
     rw [if_neg (by simp),if_neg (by simp)]
     show (Zav ((0:Nat):Int)).bind _=_
     rw [ZcV ⟨by omega,by omega⟩,A4,Lib.itoa_nonneg,if_neg (by rw [ZN];exact bad 0 (.inl hb1))]
    ·rw [if_pos (by simp;omega)]
  ·by_cases hb2:b=43
   ·rw [sgn (.inr hb2)]
    cases hd:Lib.decNat r with
    | none=>simp [Lib.atoi,hb2,hd]
    | some m=>
     have e:Lib.atoi (b::r)=some (m:Int):=by simp [Lib.atoi,hb2,hd]
     rw [e]
     simp only[if_true]
     rw [if_neg (by simp)]
     by_cases hm:9999<m
     ·rw [if_pos (by simp;omega)]
     ·rw [if_neg (by simp;omega),ZcV ⟨by omega,by omega⟩,A4,Lib.itoa_nonneg,if_neg (by rw [ZN];exact bad m (.inr hb2))]
   ·have e:Lib.atoi (b::r)=(Lib.decNat (b::r)).map fun (m:Nat)=>(m:Int):=by simp [Lib.atoi,hb1,hb2]
    rw [e]
    cases hd:Lib.decNat (b::r) with
    | none=>
     unfold ZcZ
     rw [Zl7 (by rw [hL];exact hd)]
     rfl
    | some m=>
     simp only[Option.map_some,if_true]
     rw [if_neg (by simp)]
     have hn:Qg s=if ofL (Lib.decDigits m)=s then some m else none:=by
      unfold Qg
      rw [if_pos (by omega),hL,hd]
     by_cases hm:9999<m
     ·rw [if_pos (by simp;omega)]
      have:Qg s=none:=by
       cases hq:Qg s with
       | none=>rfl
       | some n=>
        have h3:=(Ziz hq).2
        rw [hn] at hq
        split at hq
        ·obtain rfl:=A3 hq;omega
        ·simp at hq
      unfold ZcZ
      rw [this]
     ·rw [if_neg (by simp;omega),ZcV ⟨by omega,by omega⟩,A4,Lib.itoa_nonneg]
      unfold ZcZ
      rw [hn]
      by_cases he:ofL (Lib.decDigits m)=s
      ·rw [if_pos (ZN.2 he),if_pos he]
      ·rw [if_neg (by rw [ZN];exact he),if_neg he]
def Zjj (x y:Nat):Int:=if x<y then -1 else if y<x then 1 else 0
theorem Zn3:Zm9 Zjj where
 eq:=fun a b=>by unfold Zjj;split<;>(try split)<;>omega
 anti:=fun a b=>by unfold Zjj;split<;>(try split)<;>(try split)<;>omega
 tr:=fun a b d h1 h2=>by
  unfold Zjj at *
  split at h1
  ·split at h2
   ·rw [if_pos (by omega)];omega
   ·split at h2<;>omega
  ·split at h1<;>omega
def Ze7 (a b:ByteArray):Int:=
 match Qg a,Qg b with
 | some x,some y=>Zjj x y
 | some _,none=>-1
 | none,some _=>1
 | none,none=>Zg6 a b
theorem ZnS:Zm9 Ze7 where
 eq:=fun a b=>by
  unfold Ze7
  cases ha:Qg a with
  | none=>
   cases hb:Qg b with
   | none=>exact ZaW.eq a b
   | some y=>simp only;exact ⟨fun h=>by omega,fun h=>by rw [h,hb] at ha;simp at ha⟩
  | some x=>
   cases hb:Qg b with
   | none=>simp only;exact ⟨fun h=>by omega,fun h=>by rw [h,hb] at ha;simp at ha⟩
   | some y=>
    simp only
    rw [Zn3.eq]
    exact ⟨fun h=>Zs0 ha (h ▸ hb),fun h=>by rw [h,hb] at ha;exact (A3 ha).symm⟩
 anti:=fun a b=>by
  unfold Ze7
  cases Qg a<;>cases Qg b<;>simp only
  ·exact ZaW.anti a b
  ·rfl
  ·exact Zn3.anti _ _
 tr:=fun a b d h1 h2=>by
  unfold Ze7 at *
  cases ha:Qg a<;>cases hb:Qg b<;>cases hd:Qg d<;>simp only[ha,hb,hd] at h1 h2 ⊢<;>first | omega | exact ZaW.tr a b d h1 h2 | exact Zn3.tr _ _ _ h1 h2
theorem Zbf (x y:Nat):Xw (x:Int) (y:Int)=some (Zjj x y):=by
 unfold Xw Zjj
 by_cases h1:x<y
 ·rw [if_pos (by simpa using h1),if_pos h1]
 ·rw [if_neg (by simpa using h1),if_neg h1]
  by_cases h2:y<x
  ·rw [if_pos (by simpa using h2),if_pos h2]
  ·rw [if_neg (by simpa using h2),if_neg h2]
theorem Zdt (a b:ByteArray):Y0 a b=some (Ze7 a b):=by
 unfold Y0 Ze7
 rw [s_ParseInt_eq,A4,s_ParseInt_eq,A4]
 unfold ZcZ
 cases Qg a with
 | none=>
  cases Qg b with
  | none=>simp only[A7,if_false];rw [Zkt];rfl
  | some y=>rfl
 | some x=>
  cases Qg b with
  | none=>rfl
  | some y=>
   simp only[if_true]
   unfold Zjj
   by_cases h1:x<y
   ·rw [if_pos (by simpa using h1),if_pos h1]
   ·rw [if_neg (by simpa using h1),if_neg h1]
    by_cases h2:y<x
    ·rw [if_pos (by simpa using h2),if_pos h2]
    ·rw [if_neg (by simpa using h2),if_neg h2]
theorem ZhT (a b:ByteArray):Qj a b=some (Ze7 a b):=by
 unfold Qj Ze7
 rw [Zbx,A4,Zbx,A4]
 unfold ZcZ
 cases Qg a with
 | none=>
  cases Qg b with
  | none=>simp only[A7,if_false];rw [ZhQ];rfl
  | some y=>rfl
 | some x=>
  cases Qg b with
  | none=>rfl
  | some y=>simp only[if_true];rw [Zbf];rfl
def ZfB {α:Type} (c:α→α→Int):List α→List α→Int
 | [],[]=>0
 | [],_::_=>-1
 | _::_,[]=>1
 | x::l,y::r=>if c x y=0 then ZfB c l r else c x y
theorem ZnA {α:Type} {c:α→α→Int} (h:Zm9 c):Zm9 (ZfB c) where
 eq:=fun a=>by
  induction a with
  | nil=>intro b;cases b<;>simp [ZfB]
  | cons x l ih=>
   intro b
   cases b with
   | nil=>simp [ZfB]
   | cons y r=>
    simp only[ZfB]
    by_cases hx:c x y=0
    ·rw [if_pos hx,ih,(h.eq x y).1 hx];simp
    ·rw [if_neg hx]
     exact ⟨fun e=>absurd e hx,fun e=>absurd ((h.eq x y).2 (by simp at e;exact e.1)) hx⟩
 anti:=fun a=>by
  induction a with
  | nil=>intro b;cases b<;>simp [ZfB]
  | cons x l ih=>
   intro b
   cases b with
   | nil=>simp [ZfB]
   | cons y r=>
    simp only[ZfB]
    have hy:=h.anti x y
    by_cases hx:c x y=0
    ·rw [if_pos hx,if_pos (by omega),ih]
    ·rw [if_neg hx,if_neg (by omega),hy]
 tr:=fun a=>by
  induction a with
  | nil=>
   intro b d h1 h2
   cases b with
   | nil=>simp [ZfB] at h1
   | cons y r=>cases d with
    | nil=>simp [ZfB] at h2
    | cons z q=>simp [ZfB]
  | cons x l ih=>
   intro b d h1 h2
   cases b with
   | nil=>simp [ZfB] at h1
   | cons y r=>cases d with
    | nil=>simp [ZfB] at h2
    | cons z q=>
     simp only[ZfB] at h1 h2 ⊢
     by_cases hx:c x y=0
     ·rw [if_pos hx] at h1
      obtain rfl:=(h.eq x y).1 hx
      by_cases hz:c x z=0
      ·rw [if_pos hz] at h2 ⊢;exact ih r q h1 h2
      ·rw [if_neg hz] at h2 ⊢;exact h2
     ·rw [if_neg hx] at h1
      by_cases hz:c y z=0
      ·obtain rfl:=(h.eq y z).1 hz
       rw [if_neg hx];exact h1
      ·rw [if_neg hz] at h2
       have:=h.tr x y z h1 h2
       rw [if_neg (by omega)];exact this
def Zdl (a b:Zd):Int:=if Zg6 a.rel b.rel=0 then ZfB Ze7 a.args b.args else Zg6 a.rel b.rel
theorem Zo6 {a b:Zd} (h1:a.rel=b.rel) (h2:a.args=b.args):a=b:=by cases a;cases b;simp_all
theorem Zdq:Zm9 Zdl where
 eq:=fun a b=>by
  unfold Zdl
  by_cases h:Zg6 a.rel b.rel=0
  ·rw [if_pos h,(ZnA ZnS).eq]
   exact ⟨fun e=>Zo6 ((ZaW.eq _ _).1 h) e,fun e=>by rw [e]⟩
  ·rw [if_neg h]
   exact ⟨fun e=>absurd e h,fun e=>absurd ((ZaW.eq _ _).2 (by rw [e])) h⟩
 anti:=fun a b=>by
  unfold Zdl
  have hy:=ZaW.anti a.rel b.rel
  by_cases h:Zg6 a.rel b.rel=0
  ·rw [if_pos h,if_pos (by omega),(ZnA ZnS).anti]
  ·rw [if_neg h,if_neg (by omega),hy]
 tr:=fun a b d h1 h2=>by
  unfold Zdl at *
  by_cases hx:Zg6 a.rel b.rel=0
  ·rw [if_pos hx] at h1
   have e:=(ZaW.eq _ _).1 hx
   rw [e]
   by_cases hz:Zg6 b.rel d.rel=0
   ·rw [if_pos hz] at h2 ⊢;exact (ZnA ZnS).tr _ _ _ h1 h2
   ·rw [if_neg hz] at h2 ⊢;exact h2
  ·rw [if_neg hx] at h1
   by_cases hz:Zg6 b.rel d.rel=0
   ·rw [←(ZaW.eq _ _).1 hz,if_neg hx];exact h1
   ·rw [if_neg hz] at h2
    have:=ZaW.tr _ _ _ h1 h2
    rw [if_neg (by omega)];exact this
theorem Zby {α:Type} (l:List α) (i:Nat):atI l (i:Int)=l[i]?:=by unfold atI;rw [if_pos (by omega),A8]
theorem ZiG {A B:List ByteArray} {body:Nat→ByteArray→Unit→Option (Unit ⊕ Int)} {fin:Unit→Option Int}
  (hlt:∀i x y,B[i]?=some y→body i x ()=if Ze7 x y=0 then some (.inl ()) else some (.inr (Ze7 x y))) (hge:∀x,B.length<A.length→body B.length x ()=some (.inr 1)) (hfin:A.length≤B.length→fin ()=some (if A.length<B.length then -1 else 0)):
  ∀(l:List ByteArray) (i:Nat),i+l.length=A.length→i≤B.length→Zn body fin l i ()=some (ZfB Ze7 l (B.drop i))
 | [],i,h,hi=>by
  simp at h
  rw [ZkA,hfin (by omega)]
  by_cases hb:A.length<B.length
  ·rw [if_pos hb]
   cases hd:B.drop i with
   | nil=>have:=congrArg List.length hd;simp at this;omega
   | cons y r=>rfl
  ·rw [if_neg hb,AO (by omega)]
   rfl
 | x::l,i,h,hi=>by
  simp only[AC] at h
  by_cases hb:i<B.length
  ·have hy:B[i]?=some B[i]:=List.getElem?_eq_getElem hb
   rw [List.drop_eq_getElem_cons hb]
   simp only[ZfB]
   by_cases hc:Ze7 x B[i]=0
   ·rw [ZV (by rw [hlt i x _ hy,if_pos hc]),if_pos hc]
    exact ZiG hlt hge hfin l (i+1) (by omega) (by omega)
   ·rw [Ya (by rw [hlt i x _ hy,if_neg hc]),if_neg hc]
  ·obtain rfl:i=B.length:=by omega
   rw [Ya (hge x (by omega)),AO (Nat.le_refl _)]
   rfl
theorem ZdC (a b:Zd):YZ a b=some (Zdl a b):=by
 unfold YZ Zdl
 by_cases h:a.rel=b.rel
 ·rw [if_pos (ZN.2 h),if_pos ((ZaW.eq _ _).2 h)]
  refine ZiG (A:=a.args) (B:=b.args) (fun i x y hy=>?_) (fun x hx=>?_) (fun hx=>?_) a.args 0 (by simp) (Nat.zero_le _)
  ·have hi:=(AH.1 hy).1
   rw [if_pos (by simpa using hi),Zby,hy,A4,Zdt,A4]
   by_cases hc:Ze7 x y=0
   ·rw [hc];rfl
   ·rw [if_pos (by simpa using hc),if_neg hc]
  ·rw [if_neg (by simp),if_neg (by simp;omega),if_pos (by simpa using hx)]
  ·by_cases h2:a.args.length<b.args.length
   ·rw [if_pos (by simpa using h2),if_pos h2]
   ·rw [if_neg (by simpa using h2),if_neg (by simp;omega),if_neg h2]
 ·rw [if_neg (by rw [ZN];exact h),if_neg (fun e=>h ((ZaW.eq _ _).1 e)),Zkt]
  rfl
theorem Zdo (a b:Zd):XJ a b=some (Zdl a b):=by
 unfold XJ Zdl
 rw [ZhQ,A4]
 by_cases h:Zg6 a.rel b.rel=0
 ·rw [if_neg (by simpa using h),if_pos h]
  refine ZiG (A:=a.args) (B:=b.args) (fun i x y hy=>?_) (fun x hx=>?_) (fun hx=>?_) a.args 0 (by simp) (Nat.zero_le _)
  ·have hi:=(AH.1 hy).1
   rw [if_pos (by simpa using hi),Zby,hy,A4,ZhT,A4]
   by_cases hc:Ze7 x y=0
   ·rw [hc];rfl
   ·rw [if_pos (by simpa using hc),if_neg hc]
  ·rw [if_neg (by simp),Zbf]
   unfold Zjj
   rw [if_neg (by omega),if_pos hx]
   rfl
  ·rw [Zbf]
   unfold Zjj
   by_cases h2:a.args.length<b.args.length
   ·rw [if_pos h2,if_pos h2];rfl
   ·rw [if_neg h2,if_neg (by omega),if_neg h2];rfl
 ·rw [if_pos (by simpa using h),if_neg h]
end Go.Proofs.YtekbmedphidcgaaGreatDoor
