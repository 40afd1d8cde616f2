/- Texts of this proof, joined: Dp5, Dp4, Dp6, Dp7, Dp8, Dp10, Dp9, Dp11, Dp12, Dp13, Dp14, Dp15. What each holds is said at its theorems. -/
import Derived.Test.YtfehfkfdfmcgfaaGreatDoorRelevantQ6
set_option linter.unusedSimpArgs false
set_option linter.unusedVariables false
open Int renaming toNat_natCast→A2
open List renaming map→A0
open Option.some renaming inj→A1
open Go.Proofs.Tryz
namespace Go.Proofs.YtfehfkfdfmcgfaaGreatDoor
section
set_option linter.unusedSimpArgs false
set_option linter.unusedVariables false
set_option maxRecDepth 1000000
set_option maxHeartbeats 4000000
theorem ZgV {s_0:ByteArray} {r:Bool} (h:ZdP s_0=some r):Zk prog J0 141 [(false,[.str s_0])] [(false,[(false,.bool r)])]:=by
 refine fnk func141 rfl ?_
 unfold ZdP at h
 simp only[fnS,f141,Zm,go_sem,seval]
 refine ZMH h fun _ a h=>Zd (X0 a) ?_
 simp only[*,go_sem,seval]
 refine Ze h (fun _ h=>?_) fun _ h=>?_<;>try simp only[*,go_sem,seval]
 obtain ⟨_,_,b,h⟩:=ZpS h
 try simp only[seval] at b
 simp only[*,go_sem,seval]
 refine ZMH h fun _ c h=>Zd (XU c) ?_
 iterate 2 (cases h;simp only[*,go_sem,seval])
theorem Q3 {s_0:ByteArray} {r:Bool} (h:Zaz s_0=some r):Zk prog J0 142 [(false,[.str s_0])] [(false,[(false,.bool r)])]:=by
 refine fnk func142 rfl ?_
 unfold Zaz at h
 simp only[fnS,f142,Zm,go_sem,seval]
 refine Ze h (fun _ h=>?_) fun _ h=>?_<;>try simp only[*,go_sem,seval]
 obtain ⟨_,_,a,h⟩:=ZpS h
 try simp only[seval] at a
 simp only[*,go_sem,seval]
 refine Ze h (fun _ h=>?_) fun _ h=>?_<;>try simp only[*,go_sem,seval]
 obtain ⟨_,h⟩:=Zq h
 simp only[*,go_sem,seval]
 refine ZMH h fun _ b h=>Zd (X0 b) ?_
 iterate 3 (cases h;simp only[*,go_sem,seval])
theorem Zk5 {c_0:ZJ} {list_1:(List ByteArray)} {r:(ByteArray × ZJ)} (h:Zd8 c_0 list_1=some r):Zbx prog J0 JF0 126 (.box 152 (Zbj c_0)) [(false,[.sl 9 1 (A0 Zx list_1)])] [(false,[(false,.str r.1)])] (.box 152 (Zbj r.2)):=by
 refine fnh func126 rfl ?_
 unfold Zd8 at h
 have a:Z9 ⟨#[]⟩=true:=by decide
 simp only[fnH,f126,Zdh,Zdg,Xp,go_sem,seval,a]
 obtain ⟨_,b,h⟩:=Za h
 refine QL (Q7 b) ?_
 obtain ⟨_,_,_,_,h⟩:=ZbQ h
 cases h
 simp only[*,go_sem,seval]
theorem Zej {a_0:ByteArray} {b_1:ByteArray} {r:Int} (h:Xd a_0 b_1=some r):Zk prog J0 75 [(false,[.str a_0]),(false,[.str b_1])] [(false,[(false,.int .i64 r)])]:=by
 refine fnk func75 rfl ?_
 unfold Xd at h
 simp only[fnS,f75,Zm,go_sem,seval]
 refine ZMH h fun _ a h=>Zd (Zb1 a) ?_
 simp only[*,go_sem,seval]
 refine ZMH h fun _ b h=>Zd (Zb1 b) ?_
 simp only[*,go_sem,seval]
 iterate 3 refine Ze h (fun _ h=>?_) fun _ h=>?_<;>try simp only[*,go_sem,seval]
 cases h
 simp only[*,go_sem,seval]
 refine Ze h (fun _ h=>?_) fun _ h=>?_<;>try simp only[*,go_sem,seval]
 iterate 3 (cases h;simp only[*,go_sem,seval])
 refine Ze h (fun _ h=>?_) fun _ h=>?_<;>try simp only[*,go_sem,seval]
 cases h
 simp only[*,go_sem,seval]
 refine ZMH h fun _ c h=>Zd (Zle c) ?_
 cases h
 simp only[*,go_sem,seval]
theorem Zky {f_0:Zb} {r:Bool} (h:ZeG f_0=some r):Zk prog J0 134 [(true,Zl f_0)] [(false,[(false,.bool r)])]:=by
 refine fnk func134 rfl ?_
 unfold ZeG at h
 simp only[fnS,f134,Zm,go_sem,seval]
 refine ZMH h fun _ e h=>Zd (Zgl e) ?_
 simp only[*,go_sem,seval]
 iterate 2 refine Ze h (fun _ h=>?_) fun _ h=>?_<;>try simp only[*,go_sem,seval]
 cases h
 simp only[*,go_sem,seval]
 refine Zi h (fun i _ st=>IV [(16,.p false [.c (.sl 9 1 (A0 Zx f_0.args))]),(17,.p false [.c (.int .i64 ((f_0.args.length:Nat):Int))]),(18,.p false [.c (.int .i64 ((i:Nat):Int))])] [] st) [] [] (by decide) ?_ ?_ ?_
 simp only[*,go_sem,seval]
 rintro _ _ ⟨⟩ ⟨sl,ob,n⟩ _ a b f h g
 simp only[go_sem,seval,Zc] at b
 obtain ⟨⟨k,_,_⟩,hn⟩:=b
 subst hn
 have l:=WF.slotL f k (j:=0) rfl
 have:=ZA a
 have:=ZC a
 have:=Zj (ZB a) l
 simp only[*,go_sem,seval]
 refine ZMH h fun _ m h=>Zd (X4 m) ?_
 simp only[*,go_sem,seval]
 refine Ze h (fun _ h=>?_) fun _ h=>?_<;>try simp only[*,go_sem,seval]
 refine ⟨_,[],[],(A1 h).symm,by decide,?_⟩
 simp only[*,go_sem,seval]
 replace h:=Zn h g
 cases h
 simp only[*,go_sem,seval]
 rintro ⟨⟩ ⟨sl,ob,n⟩ d _ h
 simp only[go_sem,seval,Zc] at d
 obtain ⟨⟨_,_,_⟩,hn⟩:=d
 subst hn
 have:=Zy (f_0.args.length)
 iterate 2 (cases h;simp only[*,go_sem,seval])
theorem Ziz {a_0:ByteArray} {b_1:ByteArray} {r:Int} (h:QV a_0 b_1=some r):Zk prog J0 204 [(false,[.str a_0]),(false,[.str b_1])] [(false,[(false,.int .i64 r)])]:=by
 refine fnk func204 rfl ?_
 unfold QV at h
 simp only[fnS,f204,Zm,go_sem,seval]
 refine ZMH h fun _ a h=>Zd (Zcf a) ?_
 simp only[*,go_sem,seval]
 refine ZMH h fun _ b h=>Zd (Zcf b) ?_
 simp only[*,go_sem,seval]
 iterate 2 refine Ze h (fun _ h=>?_) fun _ h=>?_<;>try simp only[*,go_sem,seval]
 refine ZMH h fun _ c h=>Zd (ZbW c) ?_
 iterate 2 (cases h;simp only[*,go_sem,seval])
 refine Ze h (fun _ h=>?_) fun _ h=>?_<;>try simp only[*,go_sem,seval]
 cases h
 simp only[*,go_sem,seval]
 refine ZMH h fun _ d h=>Zd (Zjc d) ?_
 cases h
 simp only[*,go_sem,seval]
theorem QH {s_0:ByteArray} {r:Bool} (h:QI s_0=some r):Zk prog J0 206 [(false,[.str s_0])] [(false,[(false,.bool r)])]:=by
 refine fnk func206 rfl ?_
 unfold QI at h
 simp only[fnS,f206,Zm,go_sem,seval]
 refine ZMH h fun _ a h=>Zd (X4 a) ?_
 simp only[*,go_sem,seval]
 refine Ze h (fun _ h=>?_) fun _ h=>?_<;>try simp only[*,go_sem,seval]
 cases h
 simp only[*,go_sem,seval]
 refine ZMH h fun _ b h=>Zd (Zdc b) ?_
 cases h
 simp only[*,go_sem,seval]
theorem QO {b_0:(List Zs)} {r:Bool} (h:Xz b_0=some r):Zk prog J0 137 [(false,[.sl 166 2 (A0 Z4 b_0)])] [(false,[(false,.bool r)])]:=by
 refine fnk func137 rfl ?_
 unfold Xz at h
 simp only[fnS,f137,Zm,go_sem,seval]
 refine Ze h (fun _ h=>?_) fun _ h=>?_<;>try simp only[*,go_sem,seval]
 cases h
 simp only[*,go_sem,seval]
 refine Zi h (fun i _ st=>IV [(0,.p false [.c (.sl 166 2 (A0 Z4 b_0))]),(8,.p false [.c (.sl 166 2 (A0 Z4 b_0))]),(9,.p false [.c (.int .i64 ((b_0.length:Nat):Int))]),(10,.p false [.c (.int .i64 ((i:Nat):Int))])] [] st) [] [] (by decide) ?_ ?_ ?_
 simp only[*,go_sem,seval]
 rintro _ _ ⟨⟩ ⟨sl,ob,n⟩ _ a b f h d
 simp only[go_sem,seval,Zc] at b
 obtain ⟨⟨g,_,_,_⟩,hn⟩:=b
 subst hn
 have k:=WF.slotL f g (j:=0) rfl
 have:=ZA a
 have:=ZC a
 have:=Zj (ZB a) k
 simp only[*,go_sem,seval]
 refine ZMH h fun _ l h=>Zd (Zdc l) ?_
 simp only[*,go_sem,seval]
 refine Ze h (fun _ h=>?_) fun _ h=>?_<;>try simp only[*,go_sem,seval]
 refine ZMH h fun _ m h=>Zd (X4 m) ?_
 simp only[*,go_sem,seval]
 iterate 2 refine Ze h (fun _ h=>?_) fun _ h=>?_<;>try simp only[*,go_sem,seval]
 obtain ⟨_,_,_,_,h⟩:=ZbQ h
 simp only[*,go_sem,seval]
 refine Ze h (fun _ h=>?_) fun _ h=>?_<;>try simp only[*,go_sem,seval]
 refine ⟨_,[],[],(A1 h).symm,by decide,?_⟩
 simp only[*,go_sem,seval]
 replace h:=Zn h d
 cases h
 simp only[*,go_sem,seval]
 refine ⟨_,[],[],(A1 h).symm,by decide,?_⟩
 iterate 2 (simp only[*,go_sem,seval];replace h:=Zn h d;cases h)
 simp only[*,go_sem,seval]
 rintro ⟨⟩ ⟨sl,ob,n⟩ e _ h
 simp only[go_sem,seval,Zc] at e
 obtain ⟨⟨_,_,_,_⟩,hn⟩:=e
 subst hn
 have:=Zy (b_0.length)
 cases h
 simp only[*,go_sem,seval]
theorem ZcR {b_0:(List Zs)} {term_1:ByteArray} {r:(ByteArray × Bool)} (h:ZaP b_0 term_1=some r):Zk prog J0 138 [(false,[.sl 166 2 (A0 Z4 b_0)]),(false,[.str term_1])] [(false,[(false,.str r.1)]),(false,[(false,.bool r.2)])]:=by
 refine fnk func138 rfl ?_
 unfold ZaP at h
 have e:Z9 ⟨#[]⟩=true:=by decide
 simp only[fnS,f138,Zm,go_sem,seval,e]
 refine ZMH h fun _ f h=>Zd (X4 f) ?_
 simp only[*,go_sem,seval]
 refine Ze h (fun _ h=>?_) fun _ h=>?_<;>try simp only[*,go_sem,seval]
 cases h
 simp only[*,go_sem,seval]
 refine ZMH h fun _ g h=>Zd (Zdc g) ?_
 simp only[*,go_sem,seval]
 refine Ze h (fun _ h=>?_) fun _ h=>?_<;>try simp only[*,go_sem,seval]
 refine Zi h (fun i _ st=>IV [(1,.p false [.c (.str term_1)]),(14,.p false [.c (.sl 166 2 (A0 Z4 b_0))]),(15,.p false [.c (.int .i64 ((b_0.length:Nat):Int))]),(16,.p false [.c (.int .i64 ((i:Nat):Int))])] [] st) [] [] (by decide) ?_ ?_ ?_
 simp only[*,go_sem,seval]
 rintro _ _ ⟨⟩ ⟨sl,ob,n⟩ _ a b k h l
 simp only[go_sem,seval,Zc] at b
 obtain ⟨⟨_,m,_,_⟩,hn⟩:=b
 subst hn
 have o:=WF.slotL k m (j:=0) rfl
 have:=ZA a
 have:=ZC a
 have:=Zj (ZB a) o
 simp only[*,go_sem,seval]
 refine Ze h (fun _ h=>?_) fun _ h=>?_<;>try simp only[*,go_sem,seval]
 replace h:=Zn h l
 cases h
 simp only[*,go_sem,seval]
 refine ⟨_,[],[],(A1 h).symm,by decide,?_⟩
 simp only[*,go_sem,seval]
 rintro ⟨⟩ ⟨sl,ob,n⟩ d _ h
 simp only[go_sem,seval,Zc] at d
 obtain ⟨⟨_,_,_,_⟩,hn⟩:=d
 subst hn
 have:=Zy (b_0.length)
 iterate 2 (cases h;simp only[*,go_sem,seval])
theorem Qq {l_0:(List Zb)} {f_1:Zb} {r:Int} (h:Yc l_0 f_1=some r):Zk prog J0 69 [(false,[.sl 45 2 (A0 Zl l_0)]),(true,Zl f_1)] [(false,[(false,.int .i64 r)])]:=by
 refine fnk func69 rfl ?_
 unfold Yc at h
 simp only[fnS,f69,Zm,go_sem,seval]
 refine Zi h (fun i _ st=>IV [(3,.bp 0 0),(7,.p false [.c (.sl 45 2 (A0 Zl l_0))]),(8,.p false [.c (.int .i64 ((l_0.length:Nat):Int))]),(9,.p false [.c (.int .i64 ((i:Nat):Int))])] [.box 45 [.c (.str f_1.rel),.c (.sl 9 1 (A0 Zx f_1.args))]] st) [] [0] (by decide) ?_ ?_ ?_
 simp only[*,go_sem,seval]
 rintro _ _ ⟨⟩ ⟨sl,ob,n⟩ _ a b e h f
 simp only[go_sem,seval,Zc] at b
 obtain ⟨⟨_,g,_,_⟩,_,hn⟩:=b
 subst hn
 have k:=WF.slotL e g (j:=0) rfl
 have:=ZA a
 have:=ZC a
 have:=Zj (ZB a) k
 simp only[*,go_sem,seval]
 refine ZMH h fun _ l h=>Zd (ZmL l) ?_
 simp only[*,go_sem,seval]
 refine Ze h (fun _ h=>?_) fun _ h=>?_<;>try simp only[*,go_sem,seval]
 replace h:=Zn h f
 cases h
 simp only[*,go_sem,seval]
 refine ⟨_,[],[0],(A1 h).symm,by decide,?_⟩
 simp only[*,go_sem,seval]
 rintro ⟨⟩ ⟨sl,ob,n⟩ d _ h
 simp only[go_sem,seval,Zc] at d
 obtain ⟨⟨_,_,_,_⟩,_,hn⟩:=d
 subst hn
 have:=Zy (l_0.length)
 cases h
 simp only[*,go_sem,seval]
theorem ZdX {l_0:(List ByteArray)} {r:(List ByteArray)} (h:QM l_0=some r):Zk prog J0 200 [(false,[.sl 9 1 (A0 Zx l_0)])] [(false,[(false,.sl 9 1 (A0 Zx r))])]:=by
 refine fnk func200 rfl ?_
 unfold QM at h
 simp only[fnS,f200,Zm,go_sem,seval]
 refine Zi h (fun i a st=>IV [(3,.p false [.row 0]),(6,.p false [.c (.sl 9 1 (A0 Zx l_0))]),(7,.p false [.c (.int .i64 ((l_0.length:Nat):Int))]),(8,.p false [.c (.int .i64 ((i:Nat):Int))])] [.row 9 1 (A0 Zx a) 2] st) [(false,3,0)] [80] (by decide) ?_ ?_ ?_
 simp only[*,go_sem,seval]
 rintro _ _ a ⟨sl,ob,n⟩ _ b d f h _
 simp only[go_sem,seval,Zc] at d
 obtain ⟨⟨_,g,_,_⟩,_,hn⟩:=d
 subst hn
 have k:=WF.slotL f g (j:=0) rfl
 have:=ZA b
 have:=ZC b
 have:=Zj (ZB b) k
 simp only[*,go_sem,seval]
 refine ZMH h fun _ l h=>Zd (Zdc l) ?_
 simp only[*,go_sem,seval]
 refine Ze h (fun _ h=>?_) fun _ h=>?_<;>try simp only[*,go_sem,seval]
 obtain ⟨m,h⟩:=Zq h
 try simp only[Nat.reduceLeDiff] at m
 simp only[*,go_sem,seval]
 refine ⟨_,[],[145],(A1 h).symm,by decide,?_⟩
 simp only[*,go_sem,seval]
 refine ⟨_,[],[0],(A1 h).symm,by decide,?_⟩
 simp only[*,go_sem,seval]
 rintro a ⟨sl,ob,n⟩ e _ h
 simp only[go_sem,seval,Zc] at e
 obtain ⟨⟨_,_,_,_⟩,_,hn⟩:=e
 subst hn
 have:=Zy (l_0.length)
 cases h
 simp only[*,go_sem,seval]
theorem Znl {a:(List Zg)} {a_1:ByteArray} {r:(List (ByteArray × Bool))} (h:Zde a a_1=some r):Zmx prog J0 77 [(false,[.sl 42 4 (A0 ZF a)]),(false,[.str a_1])] (.map .str .bool (A0 eSB r)):=by
 refine fnb func77 rfl ?_
 unfold Zde at h
 simp only[fnB,f77,Zm,go_sem,seval]
 refine Yo h (fun s st=>match s with | (o,q)=>IV [(0,.p false [.c (.sl 42 4 (A0 ZF a))]),(5,.p false [.row 0]),(6,.p false [.row 1])] [.map .str .bool (A0 eSB o),.row 9 1 (A0 Zx q) 2] st) [] [16,64] (by decide) ?_ ?_
 simp only[*,go_sem,seval]
 rintro ⟨o,q⟩ ⟨sl,ob,n⟩ _ t _ h z
 simp only[go_sem,seval,Zc] at t
 obtain ⟨⟨_,_,_⟩,_,_,hn⟩:=t
 subst hn
 simp only[*,go_sem,seval]
 refine Ze h (fun _ h=>?_) fun _ h=>?_<;>try simp only[*,go_sem,seval]
 obtain ⟨_,h⟩:=Zq h
 obtain ⟨u,A,h⟩:=Za h
 try simp only[seval] at A
 obtain ⟨_,h⟩:=Zq h
 simp only[*,go_sem,seval]
 refine Zi h (fun i s st=>match s with | (d,e)=>IV [(0,.p false [.c (.sl 42 4 (A0 ZF a))]),(5,.p false [.row 0]),(6,.p false [.row 1]),(7,.p false [.c (.str u)]),(23,.p false [.c (.sl 42 4 (A0 ZF a))]),(24,.p false [.c (.int .i64 ((a.length:Nat):Int))]),(25,.p false [.c (.int .i64 ((i:Nat):Int))])] [.map .str .bool (A0 eSB d),.row 9 1 (A0 Zx e) 2] st) [] [0,130] (by decide) ?_ ?_ ?_
 simp only[*,go_sem,seval]
 rintro B _ ⟨d,e⟩ ⟨sl,ob,n⟩ _ f v C h _
 simp only[go_sem,seval,Zc] at v
 obtain ⟨⟨D,_,_,_,_,_,_⟩,_,_,hn⟩:=v
 subst hn
 have E:=WF.slotL C D (j:=0) rfl
 have:=ZA f
 have:=ZC f
 have:=Zj (ZB f) E
 simp only[*,go_sem,seval]
 refine ZMH h fun _ F h=>Zd (ZhN F) ?_
 simp only[*,go_sem,seval]
 refine ZMH h fun _ G h=>Zd (Zac G) ?_
 simp only[*,go_sem,seval]
 refine Ze h (fun _ h=>?_) fun _ h=>?_<;>try simp only[*,go_sem,seval]
 refine ZMH h fun g H h=>Zd (Zo9 H) ?_
 simp only[*,go_sem,seval]
 refine Zi h (fun i s st=>match s with | (k,l)=>IV [(0,.p false [.c (.sl 42 4 (A0 ZF a))]),(5,.p false [.row 0]),(6,.p false [.row 1]),(7,.p false [.c (.str u)]),(23,.p false [.c (.sl 42 4 (A0 ZF a))]),(24,.p false [.c (.int .i64 ((a.length:Nat):Int))]),(25,.p false [.c (.int .i64 ((B:Nat):Int))]),(35,.p false [.row 2]),(36,.p false [.c (.int .i64 ((g.length:Nat):Int))]),(37,.p false [.c (.int .i64 ((i:Nat):Int))])] [.map .str .bool (A0 eSB k),.row 9 1 (A0 Zx l) 2,.row 9 1 (A0 Zx g) 2] st) [] [0,1,178] (by decide) ?_ ?_ ?_
 simp only[*,go_sem,seval]
 rintro _ _ ⟨k,l⟩ ⟨sl,ob,n⟩ _ m w I h _
 simp only[go_sem,seval,Zc] at w
 obtain ⟨⟨_,_,_,_,_,_,_,_,_,_⟩,_,_,J,hn⟩:=w
 subst hn
 have K:=WF.rowL I J
 have:=ZA m
 have:=ZC m
 have:=Zj (ZB m) K
 simp only[*,go_sem,seval]
 refine Ze h (fun _ h=>?_) fun _ h=>?_<;>try simp only[*,go_sem,seval]
 refine ⟨_,[],[0,1,2],(A1 h).symm,by decide,?_⟩
 simp only[*,go_sem,seval]
 obtain ⟨L,h⟩:=Zq h
 try simp only[Nat.reduceLeDiff] at L
 simp only[*,go_sem,seval]
 refine ⟨_,[],[0,227,2],(A1 h).symm,by decide,?_⟩
 simp only[*,go_sem,seval]
 rintro ⟨k,l⟩ ⟨sl,ob,n⟩ x _ h
 simp only[go_sem,seval,Zc] at x
 obtain ⟨⟨_,_,_,_,_,_,_,_,_,_⟩,_,_,_,hn⟩:=x
 subst hn
 have:=Zy (g.length)
 simp only[*,go_sem,seval]
 refine ⟨_,[],[0,1],(A1 h).symm,by decide,?_⟩
 simp only[*,go_sem,seval]
 refine ⟨_,[],[0,1],(A1 h).symm,by decide,?_⟩
 simp only[*,go_sem,seval]
 rintro ⟨d,e⟩ ⟨sl,ob,n⟩ y _ h
 simp only[go_sem,seval,Zc] at y
 obtain ⟨⟨_,_,_,_,_,_,_⟩,_,_,hn⟩:=y
 subst hn
 have:=Zy (a.length)
 simp only[*,go_sem,seval]
 refine ⟨_,[],[0,1],(A1 h).symm,by decide,?_⟩
 simp only[*,go_sem,seval]
 replace h:=Zn h z
 cases h
 simp only[*,go_sem,seval]
theorem ZgI {l_0:(List Zb)} {r:(List Zb)} (h:Za7 l_0=some r):Zk prog J0 83 [(false,[.sl 45 2 (A0 Zl l_0)])] [(false,[(false,.sl 45 2 (A0 Zl r))])]:=by
 refine fnk func83 rfl ?_
 unfold Za7 at h
 simp only[fnS,f83,Zm,go_sem,seval]
 refine Zi h (fun i a st=>IV [(3,.p false [.row 0]),(6,.p false [.c (.sl 45 2 (A0 Zl l_0))]),(7,.p false [.c (.int .i64 ((l_0.length:Nat):Int))]),(8,.p false [.c (.int .i64 ((i:Nat):Int))])] [.row 45 2 (A0 Zl a) 2] st) [(false,3,0)] [80] (by decide) ?_ ?_ ?_
 simp only[*,go_sem,seval]
 rintro _ _ a ⟨sl,ob,n⟩ _ b d f h _
 simp only[go_sem,seval,Zc] at d
 obtain ⟨⟨_,g,_,_⟩,_,hn⟩:=d
 subst hn
 have k:=WF.slotL f g (j:=0) rfl
 have:=ZA b
 have:=ZC b
 have:=Zj (ZB b) k
 simp only[*,go_sem,seval]
 refine ZMH h fun _ l h=>Zd (YO l) ?_
 obtain ⟨m,h⟩:=Zq h
 try simp only[Nat.reduceLeDiff] at m
 simp only[*,go_sem,seval]
 refine ⟨_,[],[145],(A1 h).symm,by decide,?_⟩
 simp only[*,go_sem,seval]
 rintro a ⟨sl,ob,n⟩ e _ h
 simp only[go_sem,seval,Zc] at e
 obtain ⟨⟨_,_,_,_⟩,_,hn⟩:=e
 subst hn
 have:=Zy (l_0.length)
 cases h
 simp only[*,go_sem,seval]
theorem Zma {l_0:(List Zf)} {r_1:Zf} {r:Bool} (h:Za5 l_0 r_1=some r):Zk prog J0 190 [(false,[.sl 199 3 (A0 ZE l_0)]),(true,ZE r_1)] [(false,[(false,.bool r)])]:=by
 refine fnk func190 rfl ?_
 unfold Za5 at h
 simp only[fnS,f190,Zm,go_sem,seval]
 refine Zi h (fun i _ st=>IV [(3,.bp 0 0),(7,.p false [.c (.sl 199 3 (A0 ZE l_0))]),(8,.p false [.c (.int .i64 ((l_0.length:Nat):Int))]),(9,.p false [.c (.int .i64 ((i:Nat):Int))])] [.box 199 [.c (.int .i64 r_1.for_),.c (.sl 3 1 (A0 ZI r_1.inn)),.c (.sl 3 1 (A0 ZI r_1.outs))]] st) [] [0] (by decide) ?_ ?_ ?_
 simp only[*,go_sem,seval]
 rintro _ _ ⟨⟩ ⟨sl,ob,n⟩ _ a b e h f
 simp only[go_sem,seval,Zc] at b
 obtain ⟨⟨_,g,_,_⟩,_,hn⟩:=b
 subst hn
 have k:=WF.slotL e g (j:=0) rfl
 have:=ZA a
 have:=ZC a
 have:=Zj (ZB a) k
 simp only[*,go_sem,seval]
 refine ZMH h fun _ l h=>Zd (ZkG l) ?_
 simp only[*,go_sem,seval]
 refine Ze h (fun _ h=>?_) fun _ h=>?_<;>try simp only[*,go_sem,seval]
 replace h:=Zn h f
 cases h
 simp only[*,go_sem,seval]
 refine ⟨_,[],[0],(A1 h).symm,by decide,?_⟩
 simp only[*,go_sem,seval]
 rintro ⟨⟩ ⟨sl,ob,n⟩ d _ h
 simp only[go_sem,seval,Zc] at d
 obtain ⟨⟨_,_,_,_⟩,_,hn⟩:=d
 subst hn
 have:=Zy (l_0.length)
 cases h
 simp only[*,go_sem,seval]
theorem Zq9 {b_0:Zr} {r:(List Bool)} (h:Zgt b_0=some r):Zk prog J0 129 [(true,XY b_0)] [(false,[(false,.sl 4 1 (A0 ZfM r))])]:=by
 refine fnk func129 rfl ?_
 unfold Zgt at h
 simp only[fnS,f129,Zm,go_sem,seval]
 refine ZMH h fun a g h=>Zd (Zqy g) ?_
 simp only[*,go_sem,seval]
 refine Zi h (fun i b st=>IV [(3,.p false [.row 0]),(7,.p false [.row 1]),(8,.p false [.c (.int .i64 ((a.length:Nat):Int))]),(9,.p false [.c (.int .i64 ((i:Nat):Int))])] [.row 4 1 (A0 ZfM b) 2,.row 3 1 (A0 ZI a) 2] st) [(false,3,0)] [112,64] (by decide) ?_ ?_ ?_
 simp only[*,go_sem,seval]
 rintro _ _ b ⟨sl,ob,n⟩ _ d e j h _
 simp only[go_sem,seval,Zc] at e
 obtain ⟨⟨_,_,_,_⟩,_,k,hn⟩:=e
 subst hn
 have l:=WF.rowL j k
 have:=ZA d
 have:=ZC d
 have:=Zj (ZB d) l
 obtain ⟨m,h⟩:=Zq h
 try simp only[Nat.reduceLeDiff] at m
 simp only[*,go_sem,seval]
 refine ⟨_,[],[130,1],(A1 h).symm,by decide,?_⟩
 simp only[*,go_sem,seval]
 rintro b ⟨sl,ob,n⟩ f _ h
 simp only[go_sem,seval,Zc] at f
 obtain ⟨⟨_,_,_,_⟩,_,_,hn⟩:=f
 subst hn
 have:=Zy (a.length)
 cases h
 simp only[*,go_sem,seval]
theorem Zb0 {l_0:(List Zb)} {f_1:Zb} {r:Int} (h:QT l_0 f_1=some r):Zk prog J0 76 [(false,[.sl 45 2 (A0 Zl l_0)]),(true,Zl f_1)] [(false,[(false,.int .i64 r)])]:=by
 refine fnk func76 rfl ?_
 unfold QT at h
 simp only[fnS,f76,Zm,go_sem,seval]
 refine Zi h (fun i _ st=>IV [(0,.p false [.c (.sl 45 2 (A0 Zl l_0))]),(3,.bp 0 0),(5,.p false [.c (.int .i64 ((i:Nat):Int))])] [.box 45 [.c (.str f_1.rel),.c (.sl 9 1 (A0 Zx f_1.args))]] st) [] [0] (by decide) ?_ ?_ ?_
 simp only[*,go_sem,seval]
 rintro _ _ ⟨⟩ ⟨sl,ob,n⟩ _ a b e h f
 simp only[go_sem,seval,Zc] at b
 obtain ⟨⟨g,_,_⟩,_,hn⟩:=b
 subst hn
 have k:=WF.slotL e g (j:=0) rfl
 have:=ZA a
 have:=ZC a
 have:=Zj (ZB a) k
 simp only[*,go_sem,seval]
 refine ZMH h fun _ l h=>Zd (Zry l) ?_
 simp only[*,go_sem,seval]
 refine Ze h (fun _ h=>?_) fun _ h=>?_<;>try simp only[*,go_sem,seval]
 replace h:=Zn h f
 cases h
 simp only[*,go_sem,seval]
 refine ⟨_,[],[0],(A1 h).symm,by decide,?_⟩
 simp only[*,go_sem,seval]
 rintro ⟨⟩ ⟨sl,ob,n⟩ d _ h
 simp only[go_sem,seval,Zc] at d
 obtain ⟨⟨_,_,_⟩,_,hn⟩:=d
 subst hn
 have:=Zy (l_0.length)
 cases h
 simp only[*,go_sem,seval]
theorem Zeq {l_0:(List Zb)} {r:(List Zb)} (h:ZaJ l_0=some r):Zk prog J0 88 [(false,[.sl 45 2 (A0 Zl l_0)])] [(false,[(false,.sl 45 2 (A0 Zl r))])]:=by
 refine fnk func88 rfl ?_
 unfold ZaJ at h
 simp only[fnS,f88,Zm,go_sem,seval]
 refine Zi h (fun i a st=>IV [(0,.p false [.c (.sl 45 2 (A0 Zl l_0))]),(3,.p false [.row 0]),(4,.p false [.c (.int .i64 ((i:Nat):Int))])] [.row 45 2 (A0 Zl a) 2] st) [] [16] (by decide) ?_ ?_ ?_
 simp only[*,go_sem,seval]
 rintro _ _ a ⟨sl,ob,n⟩ _ b d f h _
 simp only[go_sem,seval,Zc] at d
 obtain ⟨⟨g,_,_⟩,_,hn⟩:=d
 subst hn
 have k:=WF.slotL f g (j:=0) rfl
 have:=ZA b
 have:=ZC b
 have:=Zj (ZB b) k
 simp only[*,go_sem,seval]
 refine ZMH h fun _ l h=>Zd (Xa l) ?_
 obtain ⟨m,h⟩:=Zq h
 try simp only[Nat.reduceLeDiff] at m
 simp only[*,go_sem,seval]
 refine ⟨_,[],[177],(A1 h).symm,by decide,?_⟩
 simp only[*,go_sem,seval]
 rintro a ⟨sl,ob,n⟩ e _ h
 simp only[go_sem,seval,Zc] at e
 obtain ⟨⟨_,_,_⟩,_,hn⟩:=e
 subst hn
 have:=Zy (l_0.length)
 cases h
 simp only[*,go_sem,seval]
theorem ZkF {a:(List Zg)} {String_1:ByteArray} {b:ByteArray} {r:Bool} (h:Zbg a String_1 b=some r):Zk prog J0 236 [(false,[.sl 42 4 (A0 ZF a)]),(false,[.str String_1]),(false,[.str b])] [(false,[(false,.bool r)])]:=by
 refine fnk func236 rfl ?_
 unfold Zbg at h
 simp only[fnS,f236,Zm,go_sem,seval]
 refine Yo h (fun s st=>match s with | (m,e)=>IV [(0,.p false [.c (.sl 42 4 (A0 ZF a))]),(2,.p false [.c (.str b)]),(7,.p false [.row 0]),(8,.p false [.c (.int .i64 e)])] [.row 9 1 (A0 Zx m) 2] st) [] [32] (by decide) ?_ ?_
 simp only[*,go_sem,seval]
 rintro ⟨m,e⟩ ⟨sl,ob,n⟩ _ o _ h q
 simp only[go_sem,seval,Zc] at o
 obtain ⟨⟨_,_,_,_⟩,_,hn⟩:=o
 subst hn
 simp only[*,go_sem,seval]
 refine Ze h (fun _ h=>?_) fun _ h=>?_<;>try simp only[*,go_sem,seval]
 refine Zi h (fun i f st=>IV [(0,.p false [.c (.sl 42 4 (A0 ZF a))]),(2,.p false [.c (.str b)]),(7,.p false [.row 0]),(8,.p false [.c (.int .i64 e)]),(9,.p false [.c (.int .i64 ((i:Nat):Int))])] [.row 9 1 (A0 Zx f) 2] st) [] [0] (by decide) ?_ ?_ ?_
 simp only[*,go_sem,seval]
 rintro y _ f ⟨sl,ob,n⟩ _ g t z h A
 simp only[go_sem,seval,Zc] at t
 obtain ⟨⟨B,_,_,_,_⟩,_,hn⟩:=t
 subst hn
 have C:=WF.slotL z B (j:=0) rfl
 have:=ZA g
 have:=ZC g
 have:=Zj (ZB g) C
 simp only[*,go_sem,seval]
 refine ZMH h fun _ D h=>Zd (ZhE D) ?_
 obtain ⟨_,h⟩:=Zq h
 obtain ⟨_,_,h⟩:=Za h
 simp only[*,go_sem,seval]
 refine ZMH h fun _ E h=>Zd (Yz E) ?_
 simp only[*,go_sem,seval]
 refine Ze h (fun _ h=>?_) fun _ h=>?_<;>try simp only[*,go_sem,seval]
 refine ZMH h fun u F h=>Zd (Zpg F) ?_
 simp only[*,go_sem,seval]
 refine ZMH h fun _ G h=>Zd (Yz G) ?_
 simp only[*,go_sem,seval]
 refine Ze h (fun _ h=>?_) fun _ h=>?_<;>try simp only[*,go_sem,seval]
 replace h:=Zn h A
 replace h:=Zn h q
 cases h
 simp only[*,go_sem,seval]
 refine Zi h (fun i k st=>IV [(0,.p false [.c (.sl 42 4 (A0 ZF a))]),(2,.p false [.c (.str b)]),(7,.p false [.row 0]),(8,.p false [.c (.int .i64 e)]),(9,.p false [.c (.int .i64 ((y:Nat):Int))]),(10,.p false [.row 1]),(11,.p false [.c (.int .i64 ((i:Nat):Int))])] [.row 9 1 (A0 Zx k) 2,.row 9 1 (A0 Zx u) 2] st) [] [0,305] (by decide) ?_ ?_ ?_
 simp only[*,go_sem,seval]
 rintro _ _ k ⟨sl,ob,n⟩ _ l v H h _
 simp only[go_sem,seval,Zc] at v
 obtain ⟨⟨_,_,_,_,_,_,_⟩,_,I,hn⟩:=v
 subst hn
 have J:=WF.rowL H I
 have:=ZA l
 have:=ZC l
 have:=Zj (ZB l) J
 simp only[*,go_sem,seval]
 refine ZMH h fun _ K h=>Zd (Yz K) ?_
 simp only[*,go_sem,seval]
 refine Ze h (fun _ h=>?_) fun _ h=>?_<;>try simp only[*,go_sem,seval]
 refine ⟨_,[],[0,1],(A1 h).symm,by decide,?_⟩
 simp only[*,go_sem,seval]
 obtain ⟨L,h⟩:=Zq h
 try simp only[Nat.reduceLeDiff] at L
 simp only[*,go_sem,seval]
 refine ⟨_,[],[274,1],(A1 h).symm,by decide,?_⟩
 simp only[*,go_sem,seval]
 rintro k ⟨sl,ob,n⟩ w _ h
 simp only[go_sem,seval,Zc] at w
 obtain ⟨⟨_,_,_,_,_,_,_⟩,_,_,hn⟩:=w
 subst hn
 have:=Zy (u.length)
 simp only[*,go_sem,seval]
 refine ⟨_,[],[0],(A1 h).symm,by decide,?_⟩
 simp only[*,go_sem,seval]
 refine ⟨_,[],[0],(A1 h).symm,by decide,?_⟩
 simp only[*,go_sem,seval]
 rintro f ⟨sl,ob,n⟩ x _ h
 simp only[go_sem,seval,Zc] at x
 obtain ⟨⟨_,_,_,_,_⟩,_,hn⟩:=x
 subst hn
 have:=Zy (a.length)
 simp only[*,go_sem,seval]
 refine ⟨_,[],[0],(A1 h).symm,by decide,?_⟩
 simp only[*,go_sem,seval]
 replace h:=Zn h q
 cases h
 simp only[*,go_sem,seval]
theorem ZhK {s_0:ByteArray} {r:Bool} (h:ZdN s_0=some r):Zk prog J0 338 [(false,[.str s_0])] [(false,[(false,.bool r)])]:=by
 refine fnk func338 rfl ?_
 unfold ZdN at h
 simp only[fnS,f338,Zm,go_sem,seval]
 refine ZMH h fun _ a h=>Zd (Zb1 a) ?_
 cases h
 simp only[*,go_sem,seval]
end
section
set_option linter.unusedSimpArgs false
set_option linter.unusedVariables false
set_option maxRecDepth 1000000
set_option maxHeartbeats 4000000
theorem ZmY {append_0:Zr} {String_1:Int} {r:(List Bool)} (h:Zdf append_0 String_1=some r):Zk prog J0 293 [(true,XY append_0),(false,[.int .i64 String_1])] [(false,[(false,.sl 4 1 (A0 ZfM r))])]:=by
 refine fnk func293 rfl ?_
 unfold Zdf at h
 simp only[fnS,f293,Zm,go_sem,seval]
 obtain ⟨p1,h⟩:=Zq h
 simp only[*,go_sem,seval]
 refine Yo h (fun s st=>match s with | (row_53,row_54,u_55)=>IV [(2,.bp 0 0),(5,.p false [.row 1]),(6,.p false [.row 2]),(7,.p false [.c (.int .i64 u_55)])] [.box 64 [.c (.int .i64 append_0.nodes),.c (.sl 199 3 (A0 ZE append_0.reasons))],.row 4 1 (A0 ZfM row_53) 2,.row 3 1 (A0 ZI row_54) 2] st) [] [0,64,112] (by decide) ?_ ?_
 ·simp only[*,go_sem,seval]
 ·rintro ⟨row_53,row_54,u_55⟩ ⟨sl,ob,n⟩ y2 hI3 hW4 h hy2
  simp only[go_sem,seval,Zc] at hI3
  obtain ⟨⟨g5_2,g5_5,g5_6,g5_7⟩,og5_0,og5_1,og5_2,hn⟩:=hI3
  subst hn
  simp only[*,go_sem,seval]
  refine Ze h (fun _ h=>?_) fun _ h=>?_<;>try simp only[*,go_sem,seval]
  ·refine Zi h (fun i s st=>match s with | (row_81,row_82)=>IV [(2,.bp 0 0),(5,.p false [.row 1]),(6,.p false [.row 2]),(7,.p false [.c (.int .i64 u_55)]),(8,.p false [.c (.int .i64 ((i:Nat):Int))])] [.box 64 [.c (.int .i64 append_0.nodes),.c (.sl 199 3 (A0 ZE append_0.reasons))],.row 4 1 (A0 ZfM row_81) 2,.row 3 1 (A0 ZI row_82) 2] st) [] [0,1,2] (by decide) ?_ ?_ ?_
   ·simp only[*,go_sem,seval]
   ·rintro i95 x96 ⟨row_81,row_82⟩ ⟨sl,ob,n⟩ y7 hx8 hI9 hW10 h hy7
    simp only[go_sem,seval,Zc] at hI9
    obtain ⟨⟨g11_2,g11_5,g11_6,g11_7,g11_8⟩,og11_0,og11_1,og11_2,hn⟩:=hI9
    subst hn
    have hlhx8:=WF.boxL hW10 og11_0 (j:=1) rfl
    have q12:=ZA hx8
    have q13:=ZC hx8
    have q14:=Zj (ZB hx8) hlhx8
    obtain ⟨p15,h⟩:=Zq h
    obtain ⟨x97,e16,h⟩:=Za h
    simp only[*,go_sem,seval]
    refine Ze h (fun _ h=>?_) fun _ h=>?_<;>try simp only[*,go_sem,seval]
    ·refine ⟨_,[],[0,1,2],(A1 h).symm,by decide,?_⟩
     simp only[*,go_sem,seval]
    ·refine ZMH h fun v98 e18 h=>Zd (ZqB e18) ?_
     obtain ⟨p19,h⟩:=Zq h
     simp only[*,go_sem,seval]
     refine Yo h (fun s st=>match s with | (row_104,row_105,u_101)=>IV [(2,.bp 0 0),(5,.p false [.row 1]),(6,.p false [.row 2]),(7,.p false [.c (.int .i64 u_55)]),(8,.p false [.c (.int .i64 ((i95:Nat):Int))]),(9,.p false [.row 3]),(10,.p false [.c (.int .i64 u_101)])] [.box 64 [.c (.int .i64 append_0.nodes),.c (.sl 199 3 (A0 ZE append_0.reasons))],.row 4 1 (A0 ZfM row_104) 2,.row 3 1 (A0 ZI row_105) 2,.row 3 1 (A0 ZI (v98++x96.outs)) 2] st) [] [0,1,2,467] (by decide) ?_ ?_
     ·simp only[*,go_sem,seval]
     ·rintro ⟨row_104,row_105,u_101⟩ ⟨sl,ob,n⟩ y20 hI21 hW22 h hy20
      simp only[go_sem,seval,Zc] at hI21
      obtain ⟨⟨g23_2,g23_5,g23_6,g23_7,g23_8,g23_9,g23_10⟩,og23_0,og23_1,og23_2,og23_3,hn⟩:=hI21
      subst hn
      simp only[*,go_sem,seval]
      refine Ze h (fun _ h=>?_) fun _ h=>?_<;>try simp only[*,go_sem,seval]
      ·obtain ⟨p25,h⟩:=Zq h
       obtain ⟨x106,e26,h⟩:=Za h
       have e27:(A0 ZI v98++A0 ZI x96.outs)[(Int.toNat u_101)]?=some (ZI x106):=by rw [←List.map_append,List.getElem?_map,e26];rfl
       obtain ⟨p28,h⟩:=Zq h
       obtain ⟨x107,e29,h⟩:=Za h
       simp only[*,go_sem,seval]
       refine Ze h (fun _ h=>?_) fun _ h=>?_<;>try simp only[*,go_sem,seval]
       ·refine ⟨_,[],[0,1,2,3],(A1 h).symm,by decide,?_⟩
        simp only[*,go_sem,seval]
       ·obtain ⟨p31,h⟩:=Zq h
        try simp only[Nat.reduceLeDiff] at p31
        simp only[*,go_sem,seval]
        refine ⟨_,[],[0,1,404,3],(A1 h).symm,by decide,?_⟩
        simp only[*,go_sem,seval]
      ·replace h:=Zn h hy20
       refine ⟨_,[],[0,1,2],(A1 h).symm,by decide,?_⟩
       simp only[*,go_sem,seval]
   ·rintro ⟨row_81,row_82⟩ ⟨sl,ob,n⟩ hI32 hW33 h
    simp only[go_sem,seval,Zc] at hI32
    obtain ⟨⟨g34_2,g34_5,g34_6,g34_7,g34_8⟩,og34_0,og34_1,og34_2,hn⟩:=hI32
    subst hn
    have q35:=Zy (append_0.reasons.length)
    simp only[*,go_sem,seval]
    refine ⟨_,[],[0,1,2],(A1 h).symm,by decide,?_⟩
    simp only[*,go_sem,seval]
  ·replace h:=Zn h hy2
   cases h
   simp only[*,go_sem,seval]
theorem ZhT {append_0:Zr} {String_1:(List Int)} {a_2:Int} {a_3:(List Int)} {a_4:Int} {r:(List Int)} (h:ZbH append_0 String_1 a_2 a_3 a_4=some r):Zk prog J0 262 [(true,XY append_0),(false,[.sl 3 1 (A0 ZI String_1)]),(false,[.int .i64 a_2]),(false,[.sl 3 1 (A0 ZI a_3)]),(false,[.int .i64 a_4])] [(false,[(false,.sl 3 1 (A0 ZI r))])]:=by
 refine fnk func262 rfl ?_
 unfold ZbH at h
 simp only[fnS,f262,Zm,go_sem,seval]
 refine Yo h (fun s st=>match s with | (row_28,u_14)=>IV [(1,.p false [.c (.sl 3 1 (A0 ZI String_1))]),(2,.p false [.c (.int .i64 a_2)]),(3,.p false [.c (.sl 3 1 (A0 ZI a_3))]),(4,.p false [.c (.int .i64 a_4)]),(5,.bp 0 0),(11,.p false [.row 1]),(12,.p false [.c (.int .i64 u_14)])] [.box 64 [.c (.int .i64 append_0.nodes),.c (.sl 199 3 (A0 ZE append_0.reasons))],.row 3 1 (A0 ZI row_28) 2] st) [] [0,32] (by decide) ?_ ?_
 ·simp only[*,go_sem,seval]
 ·rintro ⟨row_28,u_14⟩ ⟨sl,ob,n⟩ y1 hI2 hW3 h hy1
  simp only[go_sem,seval,Zc] at hI2
  obtain ⟨⟨g4_1,g4_2,g4_3,g4_4,g4_5,g4_11,g4_12⟩,og4_0,og4_1,hn⟩:=hI2
  subst hn
  simp only[*,go_sem,seval]
  refine Ze h (fun _ h=>?_) fun _ h=>?_<;>try simp only[*,go_sem,seval]
  ·obtain ⟨x29,a6,a7,e8,h⟩:=ZbQ h
   simp only[*,go_sem,seval]
   refine Ze h (fun _ h=>?_) fun _ h=>?_<;>try simp only[*,go_sem,seval]
   ·refine ⟨_,[],[0,1],(A1 h).symm,by decide,?_⟩
    simp only[*,go_sem,seval]
   ·obtain ⟨x30,a10,a11,e12,h⟩:=ZbQ h
    simp only[*,go_sem,seval]
    refine Ze h (fun _ h=>?_) fun _ h=>?_<;>try simp only[*,go_sem,seval]
    ·refine ⟨_,[],[0,1],(A1 h).symm,by decide,?_⟩
     simp only[*,go_sem,seval]
    ·refine Zi h (fun i _ st=>IV [(1,.p false [.c (.sl 3 1 (A0 ZI String_1))]),(2,.p false [.c (.int .i64 a_2)]),(3,.p false [.c (.sl 3 1 (A0 ZI a_3))]),(4,.p false [.c (.int .i64 a_4)]),(5,.bp 0 0),(11,.p false [.row 1]),(12,.p false [.c (.int .i64 u_14)]),(13,.p false [.c (.int .i64 ((i:Nat):Int))]),(29,.p false [.c (.sl 3 1 (A0 ZI a_3))]),(30,.p false [.c (.int .i64 u_14)]),(32,.p false [.c (.int .i64 x30)]),(33,.p false [.c (.bool (decide (0≤x30)))])] [.box 64 [.c (.int .i64 append_0.nodes),.c (.sl 199 3 (A0 ZE append_0.reasons))],.row 3 1 (A0 ZI row_28) 2] st) [] [0,1] (by decide) ?_ ?_ ?_
     ·simp only[*,go_sem,seval]
     ·rintro i38 x39 ⟨⟩ ⟨sl,ob,n⟩ y14 hx15 hI16 hW17 h hy14
      simp only[go_sem,seval,Zc] at hI16
      obtain ⟨⟨g18_1,g18_2,g18_3,g18_4,g18_5,g18_11,g18_12,g18_13,g18_29,g18_30,g18_32,g18_33⟩,og18_0,og18_1,hn⟩:=hI16
      subst hn
      have hlhx15:=WF.boxL hW17 og18_0 (j:=1) rfl
      have q19:=ZA hx15
      have q20:=ZC hx15
      have q21:=Zj (ZB hx15) hlhx15
      simp only[*,go_sem,seval]
      refine Ze h (fun _ h=>?_) fun _ h=>?_<;>try simp only[*,go_sem,seval]
      ·refine ZMH h fun v40 e23 h=>Zd (Zmj e23) ?_
       simp only[*,go_sem,seval]
       refine Ze h (fun _ h=>?_) fun _ h=>?_<;>try simp only[*,go_sem,seval]
       ·refine ZMH h fun v41 e25 h=>Zd (Zpl e25) ?_
        simp only[*,go_sem,seval]
        refine Ze h (fun _ h=>?_) fun _ h=>?_<;>try simp only[*,go_sem,seval]
        ·obtain ⟨p27,h⟩:=Zq h
         try simp only[Nat.reduceLeDiff] at p27
         replace h:=Zn h hy14
         simp only[*,go_sem,seval]
         refine ⟨_,[],[0,514],(A1 h).symm,by decide,?_⟩
         simp only[*,go_sem,seval]
        ·refine ⟨_,[],[0,1],(A1 h).symm,by decide,?_⟩
         simp only[*,go_sem,seval]
       ·refine ⟨_,[],[0,1],(A1 h).symm,by decide,?_⟩
        simp only[*,go_sem,seval]
      ·refine ⟨_,[],[0,1],(A1 h).symm,by decide,?_⟩
       simp only[*,go_sem,seval]
     ·rintro ⟨⟩ ⟨sl,ob,n⟩ hI28 hW29 h
      simp only[go_sem,seval,Zc] at hI28
      obtain ⟨⟨g30_1,g30_2,g30_3,g30_4,g30_5,g30_11,g30_12,g30_13,g30_29,g30_30,g30_32,g30_33⟩,og30_0,og30_1,hn⟩:=hI28
      subst hn
      have q31:=Zy (append_0.reasons.length)
      simp only[*,go_sem,seval]
      refine ⟨_,[],[0,1],(A1 h).symm,by decide,?_⟩
      simp only[*,go_sem,seval]
  ·replace h:=Zn h hy1
   cases h
   simp only[*,go_sem,seval]
theorem ZMP {p_0:Zv} {r:Zv} (h:ZMJ p_0=some r):Zk prog J0 149 [(true,QA p_0)] [(true,[(false,.str r.rel),(false,.sl 9 1 (A0 Zx r.args))])]:=by
 refine fnk func149 rfl ?_
 unfold ZMJ at h
 simp only[fnS,f149,Zm,go_sem,seval]
 refine ZMH h fun _ a h=>Zd (Zgx a) ?_
 cases h
 simp only[*,go_sem,seval]
end
section
set_option linter.unusedSimpArgs false
set_option linter.unusedVariables false
set_option maxRecDepth 1000000
set_option maxHeartbeats 4000000
theorem Zlu {b_0:Zr} {r:Bool} (h:Zcr b_0=some r):Zk prog J0 281 [(true,XY b_0)] [(false,[(false,.bool r)])]:=by
 refine fnk func281 rfl ?_
 unfold Zcr at h
 simp only[fnS,f281,Zm,go_sem,seval]
 refine Zi h (fun i _ st=>IV [(1,.bp 0 0),(3,.p false [.c (.int .i64 ((i:Nat):Int))])] [.box 64 [.c (.int .i64 b_0.nodes),.c (.sl 199 3 (A0 ZE b_0.reasons))]] st) [] [0] (by decide) ?_ ?_ ?_
 simp only[*,go_sem,seval]
 rintro _ _ ⟨⟩ ⟨sl,ob,n⟩ _ a b e h f
 simp only[go_sem,seval,Zc] at b
 obtain ⟨⟨_,_⟩,g,hn⟩:=b
 subst hn
 have k:=WF.boxL e g (j:=1) rfl
 have:=ZA a
 have:=ZC a
 have:=Zj (ZB a) k
 simp only[*,go_sem,seval]
 refine ZMH h fun _ l h=>Zd (XU l) ?_
 simp only[*,go_sem,seval]
 refine Ze h (fun _ h=>?_) fun _ h=>?_<;>try simp only[*,go_sem,seval]
 refine ZMH h fun _ m h=>Zd (Zi0 m) ?_
 simp only[*,go_sem,seval]
 refine Ze h (fun _ h=>?_) fun _ h=>?_<;>try simp only[*,go_sem,seval]
 refine ZMH h fun _ o h=>Zd (Zi0 o) ?_
 simp only[*,go_sem,seval]
 refine Ze h (fun _ h=>?_) fun _ h=>?_<;>try simp only[*,go_sem,seval]
 refine ⟨_,[],[0],(A1 h).symm,by decide,?_⟩
 iterate 3 (simp only[*,go_sem,seval];replace h:=Zn h f;cases h)
 simp only[*,go_sem,seval]
 rintro ⟨⟩ ⟨sl,ob,n⟩ d _ h
 simp only[go_sem,seval,Zc] at d
 obtain ⟨⟨_,_⟩,_,hn⟩:=d
 subst hn
 have:=Zy (b_0.reasons.length)
 simp only[*,go_sem,seval]
 refine ZMH h fun _ q h=>Zd (XU q) ?_
 simp only[*,go_sem,seval]
 refine Ze h (fun _ h=>?_) fun _ h=>?_<;>try simp only[*,go_sem,seval]
 iterate 2 (cases h;simp only[*,go_sem,seval])
theorem ZM3 {x_0:Zt} {r:Zt} (h:ZMO x_0=some r):Zk prog J0 211 [(true,ZK x_0)] [(true,[(false,.int .i64 r.kind),(false,.str r.pattern.rel),(false,.sl 9 1 (A0 Zx r.pattern.args)),(false,.str r.left),(false,.str r.right)])]:=by
 refine fnk func211 rfl ?_
 unfold ZMO at h
 simp only[fnS,f211,Zm,go_sem,seval]
 refine ZMH h fun _ a h=>Zd (ZMP a) ?_
 cases h
 simp only[*,go_sem,seval]
theorem ZFw {a_0:(List Zb)} {b_1:(List Zb)} {r:Bool} (h:ZFe a_0 b_1=some r):Zk prog J0 25 [(false,[.sl 45 2 (A0 Zl a_0)]),(false,[.sl 45 2 (A0 Zl b_1)])] [(false,[(false,.bool r)])]:=by
 refine fnk func25 rfl ?_
 unfold ZFe at h
 simp only[fnS,f25,Zm,go_sem,seval]
 refine Ze h (fun _ h=>?_) fun _ h=>?_<;>try simp only[*,go_sem,seval]
 cases h
 simp only[*,go_sem,seval]
 refine Zi h (fun i _ st=>IV [(0,.p false [.c (.sl 45 2 (A0 Zl a_0))]),(1,.p false [.c (.sl 45 2 (A0 Zl b_1))]),(5,.p false [.c (.int .i64 ((i:Nat):Int))])] [] st) [] [] (by decide) ?_ ?_ ?_
 simp only[*,go_sem,seval]
 rintro _ _ ⟨⟩ ⟨sl,ob,n⟩ _ a b e h f
 simp only[go_sem,seval,Zc] at b
 obtain ⟨⟨g,_,_⟩,hn⟩:=b
 subst hn
 have k:=WF.slotL e g (j:=0) rfl
 have:=ZA a
 have:=ZC a
 have:=Zj (ZB a) k
 obtain ⟨_,_,_,l,h⟩:=ZbQ h
 simp only[A2] at l
 simp only[*,go_sem,seval]
 refine ZMH h fun _ m h=>Zd (Zry m) ?_
 simp only[*,go_sem,seval]
 refine Ze h (fun _ h=>?_) fun _ h=>?_<;>try simp only[*,go_sem,seval]
 refine ⟨_,[],[],(A1 h).symm,by decide,?_⟩
 simp only[*,go_sem,seval]
 replace h:=Zn h f
 cases h
 simp only[*,go_sem,seval]
 rintro ⟨⟩ ⟨sl,ob,n⟩ d _ h
 simp only[go_sem,seval,Zc] at d
 obtain ⟨⟨_,_,_⟩,hn⟩:=d
 subst hn
 have:=Zy (a_0.length)
 cases h
 simp only[*,go_sem,seval]
theorem ZGJ {l_0:(List Zb)} {rel_1:ByteArray} {r:(List Zb)} (h:ZFU l_0 rel_1=some r):Zk prog J0 26 [(false,[.sl 45 2 (A0 Zl l_0)]),(false,[.str rel_1])] [(false,[(false,.sl 45 2 (A0 Zl r))])]:=by
 refine fnk func26 rfl ?_
 unfold ZFU at h
 simp only[fnS,f26,Zm,go_sem,seval]
 refine Zi h (fun i a st=>IV [(0,.p false [.c (.sl 45 2 (A0 Zl l_0))]),(1,.p false [.c (.str rel_1)]),(5,.p false [.row 0]),(6,.p false [.c (.int .i64 ((i:Nat):Int))])] [.row 45 2 (A0 Zl a) 2] st) [] [16] (by decide) ?_ ?_ ?_
 simp only[*,go_sem,seval]
 rintro _ _ a ⟨sl,ob,n⟩ _ b d f h _
 simp only[go_sem,seval,Zc] at d
 obtain ⟨⟨g,_,_,_⟩,_,hn⟩:=d
 subst hn
 have k:=WF.slotL f g (j:=0) rfl
 have:=ZA b
 have:=ZC b
 have:=Zj (ZB b) k
 simp only[*,go_sem,seval]
 refine Ze h (fun _ h=>?_) fun _ h=>?_<;>try simp only[*,go_sem,seval]
 refine ZMH h fun _ l h=>Zd (Xa l) ?_
 obtain ⟨m,h⟩:=Zq h
 try simp only[Nat.reduceLeDiff] at m
 simp only[*,go_sem,seval]
 refine ⟨_,[],[289],(A1 h).symm,by decide,?_⟩
 simp only[*,go_sem,seval]
 refine ⟨_,[],[0],(A1 h).symm,by decide,?_⟩
 simp only[*,go_sem,seval]
 rintro a ⟨sl,ob,n⟩ e _ h
 simp only[go_sem,seval,Zc] at e
 obtain ⟨⟨_,_,_,_⟩,_,hn⟩:=e
 subst hn
 have:=Zy (l_0.length)
 cases h
 simp only[*,go_sem,seval]
end
section
set_option linter.unusedSimpArgs false
set_option linter.unusedVariables false
set_option maxRecDepth 1000000
set_option maxHeartbeats 4000000
theorem Zcw {p_0:Zv} {r:(List ByteArray)} (h:Zba p_0=some r):Zk prog J0 226 [(true,QA p_0)] [(false,[(false,.sl 9 1 (A0 Zx r))])]:=by
 refine fnk func226 rfl ?_
 unfold Zba at h
 simp only[fnS,f226,Zm,go_sem,seval]
 refine Zi h (fun i a st=>IV [(1,.bp 0 0),(3,.p false [.row 1]),(4,.p false [.c (.int .i64 ((i:Nat):Int))])] [.box 48 [.c (.str p_0.rel),.c (.sl 9 1 (A0 Zx p_0.args))],.row 9 1 (A0 Zx a) 2] st) [] [0,32] (by decide) ?_ ?_ ?_
 simp only[*,go_sem,seval]
 rintro _ _ a ⟨sl,ob,n⟩ _ b d f h _
 simp only[go_sem,seval,Zc] at d
 obtain ⟨⟨_,_,_⟩,g,_,hn⟩:=d
 subst hn
 have k:=WF.boxL f g (j:=1) rfl
 have:=ZA b
 have:=ZC b
 have:=Zj (ZB b) k
 simp only[*,go_sem,seval]
 refine ZMH h fun _ l h=>Zd (Q3 l) ?_
 simp only[*,go_sem,seval]
 refine Ze h (fun _ h=>?_) fun _ h=>?_<;>try simp only[*,go_sem,seval]
 refine ZMH h fun _ m h=>Zd (Xg m) ?_
 simp only[*,go_sem,seval]
 refine ⟨_,[],[0,274],(A1 h).symm,by decide,?_⟩
 simp only[*,go_sem,seval]
 refine ⟨_,[],[0,1],(A1 h).symm,by decide,?_⟩
 simp only[*,go_sem,seval]
 rintro a ⟨sl,ob,n⟩ e _ h
 simp only[go_sem,seval,Zc] at e
 obtain ⟨⟨_,_,_⟩,_,_,hn⟩:=e
 subst hn
 have:=Zy (p_0.args.length)
 cases h
 simp only[*,go_sem,seval]
theorem QY {s_0:ByteArray} {r:Bool} (h:QS s_0=some r):Zk prog J0 140 [(false,[.str s_0])] [(false,[(false,.bool r)])]:=by
 refine fnk func140 rfl ?_
 unfold QS at h
 simp only[fnS,f140,Zm,go_sem,seval]
 refine ZMH h fun _ a h=>Zd (X0 a) ?_
 simp only[*,go_sem,seval]
 refine Ze h (fun _ h=>?_) fun _ h=>?_<;>try simp only[*,go_sem,seval]
 cases h
 simp only[*,go_sem,seval]
 refine ZMH h fun _ b h=>Zd (Q3 b) ?_
 cases h
 simp only[*,go_sem,seval]
theorem Qv {a_0:Zb} {b_1:Zb} {r:Int} (h:Yn a_0 b_1=some r):Zk prog J0 21 [(true,Zl a_0),(true,Zl b_1)] [(false,[(false,.int .i64 r)])]:=by
 refine fnk func21 rfl ?_
 unfold Yn at h
 simp only[fnS,f21,Zm,go_sem,seval]
 refine Ze h (fun _ h=>?_) fun _ h=>?_<;>try simp only[*,go_sem,seval]
 ·refine Zi h (fun i _ st=>IV [(2,.bp 0 0),(3,.bp 1 0),(5,.p false [.c (.int .i64 ((i:Nat):Int))])] [.box 45 [.c (.str a_0.rel),.c (.sl 9 1 (A0 Zx a_0.args))],.box 45 [.c (.str b_1.rel),.c (.sl 9 1 (A0 Zx b_1.args))]] st) [] [0,16] (by decide) ?_ ?_ ?_
  ·simp only[*,go_sem,seval]
  ·rintro i8 x9 ⟨⟩ ⟨sl,ob,n⟩ y2 hx3 hI4 hW5 h hy2
   simp only[go_sem,seval,Zc] at hI4
   obtain ⟨⟨g6_2,g6_3,g6_5⟩,og6_0,og6_1,hn⟩:=hI4
   subst hn
   have hlhx3:=WF.boxL hW5 og6_0 (j:=1) rfl
   have q7:=ZA hx3
   have q8:=ZC hx3
   have q9:=Zj (ZB hx3) hlhx3
   simp only[*,go_sem,seval]
   refine Ze h (fun _ h=>?_) fun _ h=>?_<;>try simp only[*,go_sem,seval]
   ·obtain ⟨x10,a11,a12,e13,h⟩:=ZbQ h
    simp only[A2] at e13
    simp only[*,go_sem,seval]
    refine ZMH h fun v11 e14 h=>Zd (Zej e14) ?_
    simp only[*,go_sem,seval]
    refine Ze h (fun _ h=>?_) fun _ h=>?_<;>try simp only[*,go_sem,seval]
    ·replace h:=Zn h hy2
     cases h
     simp only[*,go_sem,seval]
    ·refine ⟨_,[],[0,1],(A1 h).symm,by decide,?_⟩
     simp only[*,go_sem,seval]
   ·refine Ze h (fun _ h=>?_) fun _ h=>?_<;>try simp only[*,go_sem,seval]
    ·replace h:=Zn h hy2
     cases h
     simp only[*,go_sem,seval]
    ·refine Ze h (fun _ h=>?_) fun _ h=>?_<;>try simp only[*,go_sem,seval]
     ·replace h:=Zn h hy2
      cases h
      simp only[*,go_sem,seval]
     ·replace h:=Zn h hy2
      cases h
      simp only[*,go_sem,seval]
  ·rintro ⟨⟩ ⟨sl,ob,n⟩ hI18 hW19 h
   simp only[go_sem,seval,Zc] at hI18
   obtain ⟨⟨g20_2,g20_3,g20_5⟩,og20_0,og20_1,hn⟩:=hI18
   subst hn
   have q21:=Zy (a_0.args.length)
   simp only[*,go_sem,seval]
   refine Ze h (fun _ h=>?_) fun _ h=>?_<;>try simp only[*,go_sem,seval]
   ·cases h
    simp only[*,go_sem,seval]
   ·refine Ze h (fun _ h=>?_) fun _ h=>?_<;>try simp only[*,go_sem,seval]
    ·cases h
     simp only[*,go_sem,seval]
    ·cases h
     simp only[*,go_sem,seval]
 ·refine ZMH h fun v12 e24 h=>Zd (Zle e24) ?_
  cases h
  simp only[*,go_sem,seval]
theorem Zd7 {a_0:Zb} {b_1:Zb} {r:Int} (h:XV a_0 b_1=some r):Zk prog J0 135 [(true,Zl a_0),(true,Zl b_1)] [(false,[(false,.int .i64 r)])]:=by
 refine fnk func135 rfl ?_
 unfold XV at h
 simp only[fnS,f135,Zm,go_sem,seval]
 refine ZMH h fun _ f h=>Zd (Zjc f) ?_
 simp only[*,go_sem,seval]
 refine Ze h (fun _ h=>?_) fun _ h=>?_<;>try simp only[*,go_sem,seval]
 cases h
 simp only[*,go_sem,seval]
 refine Zi h (fun i _ st=>IV [(2,.bp 0 0),(3,.bp 1 0),(6,.p false [.c (.int .i64 ((i:Nat):Int))])] [.box 45 [.c (.str a_0.rel),.c (.sl 9 1 (A0 Zx a_0.args))],.box 45 [.c (.str b_1.rel),.c (.sl 9 1 (A0 Zx b_1.args))]] st) [] [0,16] (by decide) ?_ ?_ ?_
 simp only[*,go_sem,seval]
 rintro _ _ ⟨⟩ ⟨sl,ob,n⟩ _ a b g h d
 simp only[go_sem,seval,Zc] at b
 obtain ⟨⟨_,_,_⟩,k,_,hn⟩:=b
 subst hn
 have l:=WF.boxL g k (j:=1) rfl
 have:=ZA a
 have:=ZC a
 have:=Zj (ZB a) l
 simp only[*,go_sem,seval]
 refine Ze h (fun _ h=>?_) fun _ h=>?_<;>try simp only[*,go_sem,seval]
 obtain ⟨_,_,_,m,h⟩:=ZbQ h
 simp only[A2] at m
 simp only[*,go_sem,seval]
 refine ZMH h fun _ o h=>Zd (Ziz o) ?_
 simp only[*,go_sem,seval]
 refine Ze h (fun _ h=>?_) fun _ h=>?_<;>try simp only[*,go_sem,seval]
 replace h:=Zn h d
 cases h
 simp only[*,go_sem,seval]
 refine ⟨_,[],[0,1],(A1 h).symm,by decide,?_⟩
 simp only[*,go_sem,seval]
 refine ZMH h fun _ q h=>Zd (ZbW q) ?_
 replace h:=Zn h d
 cases h
 simp only[*,go_sem,seval]
 rintro ⟨⟩ ⟨sl,ob,n⟩ e _ h
 simp only[go_sem,seval,Zc] at e
 obtain ⟨⟨_,_,_⟩,_,_,hn⟩:=e
 subst hn
 have:=Zy (a_0.args.length)
 simp only[*,go_sem,seval]
 refine ZMH h fun _ t h=>Zd (ZbW t) ?_
 cases h
 simp only[*,go_sem,seval]
theorem XQ {p_0:Zv} {r:Bool} (h:Y9 p_0=some r):Zk prog J0 136 [(true,QA p_0)] [(false,[(false,.bool r)])]:=by
 refine fnk func136 rfl ?_
 unfold Y9 at h
 simp only[fnS,f136,Zm,go_sem,seval]
 refine ZMH h fun _ e h=>Zd (Zgl e) ?_
 simp only[*,go_sem,seval]
 iterate 2 refine Ze h (fun _ h=>?_) fun _ h=>?_<;>try simp only[*,go_sem,seval]
 cases h
 simp only[*,go_sem,seval]
 refine Zi h (fun i _ st=>IV [(16,.p false [.c (.sl 9 1 (A0 Zx p_0.args))]),(17,.p false [.c (.int .i64 ((p_0.args.length:Nat):Int))]),(18,.p false [.c (.int .i64 ((i:Nat):Int))])] [] st) [] [] (by decide) ?_ ?_ ?_
 simp only[*,go_sem,seval]
 rintro _ _ ⟨⟩ ⟨sl,ob,n⟩ _ a b f h g
 simp only[go_sem,seval,Zc] at b
 obtain ⟨⟨k,_,_⟩,hn⟩:=b
 subst hn
 have l:=WF.slotL f k (j:=0) rfl
 have:=ZA a
 have:=ZC a
 have:=Zj (ZB a) l
 simp only[*,go_sem,seval]
 refine ZMH h fun _ m h=>Zd (QH m) ?_
 simp only[*,go_sem,seval]
 refine Ze h (fun _ h=>?_) fun _ h=>?_<;>try simp only[*,go_sem,seval]
 refine ⟨_,[],[],(A1 h).symm,by decide,?_⟩
 simp only[*,go_sem,seval]
 replace h:=Zn h g
 cases h
 simp only[*,go_sem,seval]
 rintro ⟨⟩ ⟨sl,ob,n⟩ d _ h
 simp only[go_sem,seval,Zc] at d
 obtain ⟨⟨_,_,_⟩,hn⟩:=d
 subst hn
 have:=Zy (p_0.args.length)
 iterate 2 (cases h;simp only[*,go_sem,seval])
theorem ZdH {r_0:Zg} {n_1:Int} {r:(List ByteArray)} (h:QN r_0 n_1=some r):Zk prog J0 198 [(true,ZF r_0),(false,[.int .i64 n_1])] [(false,[(false,.sl 9 1 (A0 Zx r))])]:=by
 refine fnk func198 rfl ?_
 unfold QN at h
 simp only[fnS,f198,Zm,go_sem,seval]
 refine Zi h (fun i a st=>IV [(1,.p false [.c (.int .i64 n_1)]),(5,.p false [.row 0]),(9,.p false [.c (.sl 173 5 (A0 ZK r_0.cond))]),(10,.p false [.c (.int .i64 ((r_0.cond.length:Nat):Int))]),(11,.p false [.c (.int .i64 ((i:Nat):Int))])] [.row 9 1 (A0 Zx a) 2] st) [(false,5,0)] [112] (by decide) ?_ ?_ ?_
 simp only[*,go_sem,seval]
 rintro _ _ a ⟨sl,ob,n⟩ _ b d f h _
 simp only[go_sem,seval,Zc] at d
 obtain ⟨⟨_,_,g,_,_⟩,_,hn⟩:=d
 subst hn
 have k:=WF.slotL f g (j:=0) rfl
 have:=ZA b
 have:=ZC b
 have:=Zj (ZB b) k
 simp only[*,go_sem,seval]
 iterate 2 refine Ze h (fun _ h=>?_) fun _ h=>?_<;>try simp only[*,go_sem,seval]
 refine ZMH h fun _ l h=>Zd (ZdX l) ?_
 obtain ⟨_,h⟩:=Zq h
 simp only[*,go_sem,seval]
 refine ⟨_,[],[321],(A1 h).symm,by decide,?_⟩
 simp only[*,go_sem,seval]
 refine ⟨_,[],[0],(A1 h).symm,by decide,?_⟩
 simp only[*,go_sem,seval]
 refine ⟨_,[],[0],(A1 h).symm,by decide,?_⟩
 simp only[*,go_sem,seval]
 rintro a ⟨sl,ob,n⟩ e _ h
 simp only[go_sem,seval,Zc] at e
 obtain ⟨⟨_,_,_,_,_⟩,_,hn⟩:=e
 subst hn
 have:=Zy (r_0.cond.length)
 simp only[*,go_sem,seval]
 refine ZMH h fun _ m h=>Zd (XX m) ?_
 cases h
 simp only[*,go_sem,seval]
theorem Zb9 {x_0:Zt} {r:(List ByteArray)} (h:Qa x_0=some r):Zk prog J0 212 [(true,ZK x_0)] [(false,[(false,.sl 9 1 (A0 Zx r))])]:=by
 refine fnk func212 rfl ?_
 unfold Qa at h
 simp only[fnS,f212,Zm,go_sem,seval]
 refine ZMH h fun _ a h=>Zd (ZpH a) ?_
 simp only[*,go_sem,seval]
 refine ZMH h fun _ b h=>Zd (ZdX b) ?_
 simp only[*,go_sem,seval]
 refine ZMH h fun _ c h=>Zd (XX c) ?_
 cases h
 simp only[*,go_sem,seval]
theorem Zq8 {a:(List Zs)} {b:ByteArray} {d:ByteArray} {r:((List Zs) × Bool)} (h:ZgK a b d=some r):Zk prog J0 216 [(false,[.sl 166 2 (A0 Z4 a)]),(false,[.str b]),(false,[.str d])] [(false,[(false,.sl 166 2 (A0 Z4 r.1))]),(false,[(false,.bool r.2)])]:=by
 refine fnk func216 rfl ?_
 unfold ZgK at h
 simp only[fnS,f216,Zm,go_sem,seval]
 refine ZMH h fun _ o h=>Zd (QO o) ?_
 simp only[*,go_sem,seval]
 refine Ze h (fun _ h=>?_) fun _ h=>?_<;>try simp only[*,go_sem,seval]
 refine ZMH h fun _ q h=>Zd (Zdc q) ?_
 simp only[*,go_sem,seval]
 refine Ze h (fun _ h=>?_) fun _ h=>?_<;>try simp only[*,go_sem,seval]
 refine ZMH h fun _ t h=>Zd (X4 t) ?_
 simp only[*,go_sem,seval]
 refine Ze h (fun _ h=>?_) fun _ h=>?_<;>try simp only[*,go_sem,seval]
 refine ZMH h fun _ u h=>Zd (ZcR u) ?_
 simp only[*,go_sem,seval]
 iterate 2 refine Ze h (fun _ h=>?_) fun _ h=>?_<;>try simp only[*,go_sem,seval]
 refine ZMH h fun _ v h=>Zd (Zgp v) ?_
 iterate 2 (cases h;simp only[*,go_sem,seval])
 refine Ze h (fun _ h=>?_) fun _ h=>?_<;>try simp only[*,go_sem,seval]
 cases h
 simp only[*,go_sem,seval]
 refine Zi h (fun i s st=>match s with | (e,f)=>IV [(1,.p false [.c (.str b)]),(2,.p false [.c (.str d)]),(10,.p false [.row 0]),(11,.p false [.c (.bool f)]),(42,.p false [.c (.sl 166 2 (A0 Z4 a))]),(43,.p false [.c (.int .i64 ((a.length:Nat):Int))]),(44,.p false [.c (.int .i64 ((i:Nat):Int))])] [.row 166 2 (A0 Z4 e) 2] st) [(false,10,0)] [512] (by decide) ?_ ?_ ?_
 simp only[*,go_sem,seval]
 rintro _ _ ⟨e,f⟩ ⟨sl,ob,n⟩ _ g l x h _
 simp only[go_sem,seval,Zc] at l
 obtain ⟨⟨_,_,_,_,y,_,_⟩,_,hn⟩:=l
 subst hn
 have z:=WF.slotL x y (j:=0) rfl
 have:=ZA g
 have:=ZC g
 have:=Zj (ZB g) z
 simp only[*,go_sem,seval]
 refine Ze h (fun _ h=>?_) fun _ h=>?_<;>try simp only[*,go_sem,seval]
 obtain ⟨A,h⟩:=Zq h
 try simp only[Nat.reduceLeDiff] at A
 simp only[*,go_sem,seval]
 refine ⟨_,[],[257],(A1 h).symm,by decide,?_⟩
 simp only[*,go_sem,seval]
 refine Ze h (fun k h=>?_) (fun k h=>?_)
 have B:=k
 obtain ⟨C,h⟩:=Zq h
 try simp only[Nat.reduceLeDiff] at C
 simp only[*,go_sem,seval]
 refine ⟨_,[],[257],(A1 h).symm,by decide,?_⟩
 simp only[*,go_sem,seval]
 have B:=k
 obtain ⟨D,h⟩:=Zq h
 try simp only[Nat.reduceLeDiff] at D
 obtain ⟨E,h⟩:=Zq h
 try simp only[Nat.reduceLeDiff] at E
 simp only[*,go_sem,seval]
 refine ⟨_,[],[385],(A1 h).symm,by decide,?_⟩
 simp only[*,go_sem,seval]
 rintro ⟨e,f⟩ ⟨sl,ob,n⟩ m _ h
 simp only[go_sem,seval,Zc] at m
 obtain ⟨⟨_,_,_,_,_,_,_⟩,_,hn⟩:=m
 subst hn
 have:=Zy (a.length)
 simp only[*,go_sem,seval]
 refine Ze h (fun _ h=>?_) fun _ h=>?_<;>try simp only[*,go_sem,seval]
 cases h
 simp only[*,go_sem,seval]
 obtain ⟨F,h⟩:=Zq h
 try simp only[Nat.reduceLeDiff] at F
 iterate 4 (cases h;simp only[*,go_sem,seval])
theorem ZiX {facts_0:(List Zb)} {l_1:(List Zb)} {r:(List Int)} (h:Zc0 facts_0 l_1=some r):Zk prog J0 95 [(false,[.sl 45 2 (A0 Zl facts_0)]),(false,[.sl 45 2 (A0 Zl l_1)])] [(false,[(false,.sl 3 1 (A0 ZI r))])]:=by
 refine fnk func95 rfl ?_
 unfold Zc0 at h
 simp only[fnS,f95,Zm,go_sem,seval]
 refine Zi h (fun i a st=>IV [(0,.p false [.c (.sl 45 2 (A0 Zl facts_0))]),(5,.p false [.row 0]),(9,.p false [.c (.sl 45 2 (A0 Zl l_1))]),(10,.p false [.c (.int .i64 ((l_1.length:Nat):Int))]),(11,.p false [.c (.int .i64 ((i:Nat):Int))])] [.row 3 1 (A0 ZI a) 2] st) [(false,5,0)] [80] (by decide) ?_ ?_ ?_
 simp only[*,go_sem,seval]
 rintro _ _ a ⟨sl,ob,n⟩ _ b d f h _
 simp only[go_sem,seval,Zc] at d
 obtain ⟨⟨_,_,g,_,_⟩,_,hn⟩:=d
 subst hn
 have k:=WF.slotL f g (j:=0) rfl
 have:=ZA b
 have:=ZC b
 have:=Zj (ZB b) k
 simp only[*,go_sem,seval]
 refine ZMH h fun _ l h=>Zd (Qq l) ?_
 simp only[*,go_sem,seval]
 refine Ze h (fun _ h=>?_) fun _ h=>?_<;>try simp only[*,go_sem,seval]
 refine ZMH h fun _ m h=>Zd (ZqS m) ?_
 simp only[*,go_sem,seval]
 refine Ze h (fun _ h=>?_) fun _ h=>?_<;>try simp only[*,go_sem,seval]
 refine ⟨_,[],[0],(A1 h).symm,by decide,?_⟩
 simp only[*,go_sem,seval]
 obtain ⟨o,h⟩:=Zq h
 try simp only[Nat.reduceLeDiff] at o
 simp only[*,go_sem,seval]
 refine ⟨_,[],[321],(A1 h).symm,by decide,?_⟩
 simp only[*,go_sem,seval]
 refine ⟨_,[],[0],(A1 h).symm,by decide,?_⟩
 simp only[*,go_sem,seval]
 rintro a ⟨sl,ob,n⟩ e _ h
 simp only[go_sem,seval,Zc] at e
 obtain ⟨⟨_,_,_,_,_⟩,_,hn⟩:=e
 subst hn
 have:=Zy (l_1.length)
 simp only[*,go_sem,seval]
 obtain ⟨_,q,h⟩:=Za h
 refine QL (ZmZ q) ?_
 cases h
 simp only[*,go_sem,seval]
theorem ZmQ {facts_0:(List Zb)} {b_1:Zr} {r:(List Zb)} (h:Zdo facts_0 b_1=some r):Zk prog J0 62 [(false,[.sl 45 2 (A0 Zl facts_0)]),(true,XY b_1)] [(false,[(false,.sl 45 2 (A0 Zl r))])]:=by
 refine fnk func62 rfl ?_
 unfold Zdo at h
 simp only[fnS,f62,Zm,go_sem,seval]
 refine ZMH h fun a g h=>Zd (Zq9 g) ?_
 simp only[*,go_sem,seval]
 refine Zi h (fun i b st=>IV [(0,.p false [.c (.sl 45 2 (A0 Zl facts_0))]),(5,.p false [.row 0]),(9,.p false [.row 1]),(10,.p false [.c (.int .i64 ((a.length:Nat):Int))]),(11,.p false [.c (.int .i64 ((i:Nat):Int))])] [.row 45 2 (A0 Zl b) 2,.row 4 1 (A0 ZfM a) 2] st) [(false,5,0)] [112,64] (by decide) ?_ ?_ ?_
 simp only[*,go_sem,seval]
 rintro _ _ b ⟨sl,ob,n⟩ _ d e j h _
 simp only[go_sem,seval,Zc] at e
 obtain ⟨⟨_,_,_,_,_⟩,_,k,hn⟩:=e
 subst hn
 have l:=WF.rowL j k
 have:=ZA d
 have:=ZC d
 have:=Zj (ZB d) l
 simp only[*,go_sem,seval]
 refine Ze h (fun _ h=>?_) fun _ h=>?_<;>try simp only[*,go_sem,seval]
 obtain ⟨_,_,_,m,h⟩:=ZbQ h
 simp only[A2] at m
 simp only[*,go_sem,seval]
 refine ZMH h fun _ o h=>Zd (YO o) ?_
 obtain ⟨q,h⟩:=Zq h
 try simp only[Nat.reduceLeDiff] at q
 simp only[*,go_sem,seval]
 refine ⟨_,[],[226,1],(A1 h).symm,by decide,?_⟩
 simp only[*,go_sem,seval]
 refine ⟨_,[],[0,1],(A1 h).symm,by decide,?_⟩
 simp only[*,go_sem,seval]
 rintro b ⟨sl,ob,n⟩ f _ h
 simp only[go_sem,seval,Zc] at f
 obtain ⟨⟨_,_,_,_,_⟩,_,_,hn⟩:=f
 subst hn
 have:=Zy (a.length)
 cases h
 simp only[*,go_sem,seval]
theorem QX {b_0:(List Zs)} {r:Bool} (h:XE b_0=some r):Zk prog J0 72 [(false,[.sl 166 2 (A0 Z4 b_0)])] [(false,[(false,.bool r)])]:=by
 refine fnk func72 rfl ?_
 unfold XE at h
 simp only[fnS,f72,Zm,go_sem,seval]
 refine Zi h (fun i _ st=>IV [(0,.p false [.c (.sl 166 2 (A0 Z4 b_0))]),(3,.p false [.c (.int .i64 ((i:Nat):Int))])] [] st) [] [] (by decide) ?_ ?_ ?_
 simp only[*,go_sem,seval]
 rintro _ _ ⟨⟩ ⟨sl,ob,n⟩ _ a b f h d
 simp only[go_sem,seval,Zc] at b
 obtain ⟨⟨g,_⟩,hn⟩:=b
 subst hn
 have k:=WF.slotL f g (j:=0) rfl
 have:=ZA a
 have:=ZC a
 have:=Zj (ZB a) k
 simp only[*,go_sem,seval]
 refine ZMH h fun _ l h=>Zd (Q3 l) ?_
 simp only[*,go_sem,seval]
 refine Ze h (fun _ h=>?_) fun _ h=>?_<;>try simp only[*,go_sem,seval]
 refine ZMH h fun _ m h=>Zd (X0 m) ?_
 simp only[*,go_sem,seval]
 iterate 2 refine Ze h (fun _ h=>?_) fun _ h=>?_<;>try simp only[*,go_sem,seval]
 obtain ⟨_,_,_,_,h⟩:=ZbQ h
 simp only[*,go_sem,seval]
 refine Ze h (fun _ h=>?_) fun _ h=>?_<;>try simp only[*,go_sem,seval]
 refine ⟨_,[],[],(A1 h).symm,by decide,?_⟩
 simp only[*,go_sem,seval]
 replace h:=Zn h d
 cases h
 simp only[*,go_sem,seval]
 refine ⟨_,[],[],(A1 h).symm,by decide,?_⟩
 iterate 2 (simp only[*,go_sem,seval];replace h:=Zn h d;cases h)
 simp only[*,go_sem,seval]
 rintro ⟨⟩ ⟨sl,ob,n⟩ e _ h
 simp only[go_sem,seval,Zc] at e
 obtain ⟨⟨_,_⟩,hn⟩:=e
 subst hn
 have:=Zy (b_0.length)
 cases h
 simp only[*,go_sem,seval]
theorem ZcO {b_0:(List Zs)} {term_1:ByteArray} {r:(ByteArray × Bool)} (h:ZaQ b_0 term_1=some r):Zk prog J0 73 [(false,[.sl 166 2 (A0 Z4 b_0)]),(false,[.str term_1])] [(false,[(false,.str r.1)]),(false,[(false,.bool r.2)])]:=by
 refine fnk func73 rfl ?_
 unfold ZaQ at h
 have e:Z9 ⟨#[]⟩=true:=by decide
 simp only[fnS,f73,Zm,go_sem,seval,e]
 refine ZMH h fun _ f h=>Zd (X0 f) ?_
 simp only[*,go_sem,seval]
 refine Ze h (fun _ h=>?_) fun _ h=>?_<;>try simp only[*,go_sem,seval]
 cases h
 simp only[*,go_sem,seval]
 refine Zi h (fun i _ st=>IV [(0,.p false [.c (.sl 166 2 (A0 Z4 b_0))]),(1,.p false [.c (.str term_1)]),(6,.p false [.c (.int .i64 ((i:Nat):Int))])] [] st) [] [] (by decide) ?_ ?_ ?_
 simp only[*,go_sem,seval]
 rintro _ _ ⟨⟩ ⟨sl,ob,n⟩ _ a b g h k
 simp only[go_sem,seval,Zc] at b
 obtain ⟨⟨l,_,_⟩,hn⟩:=b
 subst hn
 have m:=WF.slotL g l (j:=0) rfl
 have:=ZA a
 have:=ZC a
 have:=Zj (ZB a) m
 simp only[*,go_sem,seval]
 refine Ze h (fun _ h=>?_) fun _ h=>?_<;>try simp only[*,go_sem,seval]
 refine ZMH h fun _ o h=>Zd (Q3 o) ?_
 simp only[*,go_sem,seval]
 refine Ze h (fun _ h=>?_) fun _ h=>?_<;>try simp only[*,go_sem,seval]
 replace h:=Zn h k
 cases h
 simp only[*,go_sem,seval]
 refine ⟨_,[],[],(A1 h).symm,by decide,?_⟩
 simp only[*,go_sem,seval]
 refine ⟨_,[],[],(A1 h).symm,by decide,?_⟩
 simp only[*,go_sem,seval]
 rintro ⟨⟩ ⟨sl,ob,n⟩ d _ h
 simp only[go_sem,seval,Zc] at d
 obtain ⟨⟨_,_,_⟩,hn⟩:=d
 subst hn
 have:=Zy (b_0.length)
 cases h
 simp only[*,go_sem,seval]
theorem Zj9 {f_0:Zb} {r:Bool} (h:Ze7 f_0=some r):Zk prog J0 155 [(true,Zl f_0)] [(false,[(false,.bool r)])]:=by
 refine fnk func155 rfl ?_
 unfold Ze7 at h
 simp only[fnS,f155,Zm,go_sem,seval]
 refine Zi h (fun i _ st=>IV [(1,.bp 0 0),(3,.p false [.c (.int .i64 ((i:Nat):Int))])] [.box 45 [.c (.str f_0.rel),.c (.sl 9 1 (A0 Zx f_0.args))]] st) [] [0] (by decide) ?_ ?_ ?_
 simp only[*,go_sem,seval]
 rintro _ _ ⟨⟩ ⟨sl,ob,n⟩ _ a b e h f
 simp only[go_sem,seval,Zc] at b
 obtain ⟨⟨_,_⟩,g,hn⟩:=b
 subst hn
 have k:=WF.boxL e g (j:=1) rfl
 have:=ZA a
 have:=ZC a
 have:=Zj (ZB a) k
 simp only[*,go_sem,seval]
 refine ZMH h fun _ l h=>Zd (X0 l) ?_
 simp only[*,go_sem,seval]
 refine Ze h (fun _ h=>?_) fun _ h=>?_<;>try simp only[*,go_sem,seval]
 refine ⟨_,[],[0],(A1 h).symm,by decide,?_⟩
 simp only[*,go_sem,seval]
 replace h:=Zn h f
 cases h
 simp only[*,go_sem,seval]
 rintro ⟨⟩ ⟨sl,ob,n⟩ d _ h
 simp only[go_sem,seval,Zc] at d
 obtain ⟨⟨_,_⟩,_,hn⟩:=d
 subst hn
 have:=Zy (f_0.args.length)
 simp only[*,go_sem,seval]
 refine ZMH h fun _ m h=>Zd (ZgV m) ?_
 simp only[*,go_sem,seval]
 refine Ze h (fun _ h=>?_) fun _ h=>?_<;>try simp only[*,go_sem,seval]
 iterate 2 (cases h;simp only[*,go_sem,seval])
theorem ZrC {t_0:Zu} {r:Zu} (h:Zf4 t_0=some r):Zk prog J0 279 [(true,YK t_0)] [(true,[(false,.sl 45 2 (A0 Zl r.facts)),(false,.sl 166 2 (A0 Z4 r.binding))])]:=by
 refine fnk func279 rfl ?_
 unfold Zf4 at h
 simp only[fnS,f279,Zm,go_sem,seval]
 refine ZMH h fun _ a h=>Zd (Zeq a) ?_
 simp only[*,go_sem,seval]
 refine ZMH h fun _ b h=>Zd (ZgL b) ?_
 cases h
 simp only[*,go_sem,seval]
theorem ZhF {l_0:(List Zb)} {facts_1:(List Zb)} {r:(List Int)} (h:ZbP l_0 facts_1=some r):Zk prog J0 92 [(false,[.sl 45 2 (A0 Zl l_0)]),(false,[.sl 45 2 (A0 Zl facts_1)])] [(false,[(false,.sl 3 1 (A0 ZI r))])]:=by
 refine fnk func92 rfl ?_
 unfold ZbP at h
 simp only[fnS,f92,Zm,go_sem,seval]
 refine Zi h (fun i a st=>IV [(0,.p false [.c (.sl 45 2 (A0 Zl l_0))]),(1,.p false [.c (.sl 45 2 (A0 Zl facts_1))]),(5,.p false [.row 0]),(6,.p false [.c (.int .i64 ((i:Nat):Int))])] [.row 3 1 (A0 ZI a) 2] st) [] [16] (by decide) ?_ ?_ ?_
 simp only[*,go_sem,seval]
 rintro _ _ a ⟨sl,ob,n⟩ _ b d f h _
 simp only[go_sem,seval,Zc] at d
 obtain ⟨⟨_,g,_,_⟩,_,hn⟩:=d
 subst hn
 have k:=WF.slotL f g (j:=0) rfl
 have:=ZA b
 have:=ZC b
 have:=Zj (ZB b) k
 simp only[*,go_sem,seval]
 refine ZMH h fun _ l h=>Zd (Zb0 l) ?_
 simp only[*,go_sem,seval]
 refine Ze h (fun _ h=>?_) fun _ h=>?_<;>try simp only[*,go_sem,seval]
 refine ZMH h fun _ m h=>Zd (ZpR m) ?_
 simp only[*,go_sem,seval]
 refine ⟨_,[],[241],(A1 h).symm,by decide,?_⟩
 simp only[*,go_sem,seval]
 refine ⟨_,[],[0],(A1 h).symm,by decide,?_⟩
 simp only[*,go_sem,seval]
 rintro a ⟨sl,ob,n⟩ e _ h
 simp only[go_sem,seval,Zc] at e
 obtain ⟨⟨_,_,_,_⟩,_,hn⟩:=e
 subst hn
 have:=Zy (facts_1.length)
 cases h
 simp only[*,go_sem,seval]
theorem Zek {b_0:Zr} {r:Bool} (h:XR b_0=some r):Zk prog J0 260 [(true,XY b_0)] [(false,[(false,.bool r)])]:=by
 refine fnk func260 rfl ?_
 unfold XR at h
 simp only[fnS,f260,Zm,go_sem,seval]
 refine ZMH h fun _ o h=>Zd (Zlu o) ?_
 simp only[*,go_sem,seval]
 refine Ze h (fun _ h=>?_) fun _ h=>?_<;>try simp only[*,go_sem,seval]
 refine Zi h (fun i _ st=>IV [(1,.bp 0 0),(3,.p false [.c (.int .i64 ((i:Nat):Int))])] [.box 64 [.c (.int .i64 b_0.nodes),.c (.sl 199 3 (A0 ZE b_0.reasons))]] st) [] [0] (by decide) ?_ ?_ ?_
 simp only[*,go_sem,seval]
 rintro q d ⟨⟩ ⟨sl,ob,n⟩ _ a e t h f
 simp only[go_sem,seval,Zc] at e
 obtain ⟨⟨_,_⟩,u,hn⟩:=e
 subst hn
 have v:=WF.boxL t u (j:=1) rfl
 have:=ZA a
 have:=ZC a
 have:=Zj (ZB a) v
 simp only[*,go_sem,seval]
 refine Zi h (fun i _ st=>IV [(1,.bp 0 0),(3,.p false [.c (.int .i64 ((q:Nat):Int))]),(4,.p false [.c (.int .i64 d.for_)]),(5,.p false [.c (.int .i64 ((i:Nat):Int))])] [.box 64 [.c (.int .i64 b_0.nodes),.c (.sl 199 3 (A0 ZE b_0.reasons))]] st) [] [0] (by decide) ?_ ?_ ?_
 simp only[*,go_sem,seval]
 rintro _ _ ⟨⟩ ⟨sl,ob,n⟩ _ b g w h k
 simp only[go_sem,seval,Zc] at g
 obtain ⟨⟨_,_,_,_⟩,x,hn⟩:=g
 subst hn
 have y:=WF.elL (WF.boxD w x (j:=1) rfl) a (j:=2) rfl
 have:=ZA b
 have:=ZC b
 have:=Zj (ZB b) y
 simp only[*,go_sem,seval]
 refine Ze h (fun _ h=>?_) fun _ h=>?_<;>try simp only[*,go_sem,seval]
 replace h:=Zn h k
 replace h:=Zn h f
 cases h
 simp only[*,go_sem,seval]
 refine ZMH h fun _ z h=>Zd (ZmY z) ?_
 obtain ⟨_,h⟩:=Zq h
 obtain ⟨_,_,h⟩:=Za h
 simp only[*,go_sem,seval]
 refine Ze h (fun _ h=>?_) fun _ h=>?_<;>try simp only[*,go_sem,seval]
 replace h:=Zn h k
 replace h:=Zn h f
 cases h
 simp only[*,go_sem,seval]
 refine ⟨_,[],[0],(A1 h).symm,by decide,?_⟩
 simp only[*,go_sem,seval]
 rintro ⟨⟩ ⟨sl,ob,n⟩ l _ h
 simp only[go_sem,seval,Zc] at l
 obtain ⟨⟨_,_,_,_⟩,_,hn⟩:=l
 subst hn
 have:=Zy (d.outs.length)
 simp only[*,go_sem,seval]
 refine ⟨_,[],[0],(A1 h).symm,by decide,?_⟩
 simp only[*,go_sem,seval]
 rintro ⟨⟩ ⟨sl,ob,n⟩ m _ h
 simp only[go_sem,seval,Zc] at m
 obtain ⟨⟨_,_⟩,_,hn⟩:=m
 subst hn
 have:=Zy (b_0.reasons.length)
 iterate 2 (cases h;simp only[*,go_sem,seval])
end
section
set_option linter.unusedSimpArgs false
set_option linter.unusedVariables false
set_option maxRecDepth 1000000
set_option maxHeartbeats 4000000
theorem ZMY {l_0:(List Zt)} {r:(List Zt)} (h:ZML l_0=some r):Zk prog J0 148 [(false,[.sl 173 5 (A0 ZK l_0)])] [(false,[(false,.sl 173 5 (A0 ZK r))])]:=by
 refine fnk func148 rfl ?_
 unfold ZML at h
 simp only[fnS,f148,Zm,go_sem,seval]
 refine Zi h (fun i a st=>IV [(3,.p false [.row 0]),(6,.p false [.c (.sl 173 5 (A0 ZK l_0))]),(7,.p false [.c (.int .i64 ((l_0.length:Nat):Int))]),(8,.p false [.c (.int .i64 ((i:Nat):Int))])] [.row 173 5 (A0 ZK a) 2] st) [(false,3,0)] [80] (by decide) ?_ ?_ ?_
 simp only[*,go_sem,seval]
 rintro _ _ a ⟨sl,ob,n⟩ _ b d f h _
 simp only[go_sem,seval,Zc] at d
 obtain ⟨⟨_,g,_,_⟩,_,hn⟩:=d
 subst hn
 have k:=WF.slotL f g (j:=0) rfl
 have:=ZA b
 have:=ZC b
 have:=Zj (ZB b) k
 simp only[*,go_sem,seval]
 refine ZMH h fun _ l h=>Zd (ZM3 l) ?_
 obtain ⟨m,h⟩:=Zq h
 try simp only[Nat.reduceLeDiff] at m
 simp only[*,go_sem,seval]
 refine ⟨_,[],[145],(A1 h).symm,by decide,?_⟩
 simp only[*,go_sem,seval]
 rintro a ⟨sl,ob,n⟩ e _ h
 simp only[go_sem,seval,Zc] at e
 obtain ⟨⟨_,_,_,_⟩,_,hn⟩:=e
 subst hn
 have:=Zy (l_0.length)
 cases h
 simp only[*,go_sem,seval]
end
section
set_option linter.unusedSimpArgs false
set_option linter.unusedVariables false
set_option maxRecDepth 1000000
set_option maxHeartbeats 4000000
theorem Znd {l_0:(List Zb)} {r:Bool} (h:Zdv l_0=some r):Zk prog J0 87 [(false,[.sl 45 2 (A0 Zl l_0)])] [(false,[(false,.bool r)])]:=by
 refine fnk func87 rfl ?_
 unfold Zdv at h
 simp only[fnS,f87,Zm,go_sem,seval]
 refine Zi h (fun i _ st=>IV [(0,.p false [.c (.sl 45 2 (A0 Zl l_0))]),(3,.p false [.c (.int .i64 ((i:Nat):Int))])] [] st) [] [] (by decide) ?_ ?_ ?_
 simp only[*,go_sem,seval]
 rintro _ _ ⟨⟩ ⟨sl,ob,n⟩ _ a b f h d
 simp only[go_sem,seval,Zc] at b
 obtain ⟨⟨g,_⟩,hn⟩:=b
 subst hn
 have k:=WF.slotL f g (j:=0) rfl
 have:=ZA a
 have:=ZC a
 have:=Zj (ZB a) k
 simp only[*,go_sem,seval]
 refine ZMH h fun _ l h=>Zd (Zj9 l) ?_
 simp only[*,go_sem,seval]
 iterate 2 refine Ze h (fun _ h=>?_) fun _ h=>?_<;>try simp only[*,go_sem,seval]
 obtain ⟨_,_,_,_,h⟩:=ZbQ h
 simp only[*,go_sem,seval]
 refine ZMH h fun _ m h=>Zd (Qv m) ?_
 simp only[*,go_sem,seval]
 refine Ze h (fun _ h=>?_) fun _ h=>?_<;>try simp only[*,go_sem,seval]
 replace h:=Zn h d
 cases h
 simp only[*,go_sem,seval]
 refine ⟨_,[],[],(A1 h).symm,by decide,?_⟩
 simp only[*,go_sem,seval]
 refine ⟨_,[],[],(A1 h).symm,by decide,?_⟩
 simp only[*,go_sem,seval]
 replace h:=Zn h d
 cases h
 simp only[*,go_sem,seval]
 rintro ⟨⟩ ⟨sl,ob,n⟩ e _ h
 simp only[go_sem,seval,Zc] at e
 obtain ⟨⟨_,_⟩,hn⟩:=e
 subst hn
 have:=Zy (l_0.length)
 cases h
 simp only[*,go_sem,seval]
theorem ZqF {b_0:(List Zs)} {v_1:ByteArray} {value_2:ByteArray} {r:((List Zs) × Bool)} (h:ZgN b_0 v_1 value_2=some r):Zk prog J0 314 [(false,[.sl 166 2 (A0 Z4 b_0)]),(false,[.str v_1]),(false,[.str value_2])] [(false,[(false,.sl 166 2 (A0 Z4 r.1))]),(false,[(false,.bool r.2)])]:=by
 refine fnk func314 rfl ?_
 unfold ZgN at h
 simp only[fnS,f314,Zm,go_sem,seval]
 refine ZMH h fun _ a h=>Zd (QX a) ?_
 simp only[*,go_sem,seval]
 refine Ze h (fun _ h=>?_) fun _ h=>?_<;>try simp only[*,go_sem,seval]
 refine ZMH h fun _ b h=>Zd (Q3 b) ?_
 simp only[*,go_sem,seval]
 refine Ze h (fun _ h=>?_) fun _ h=>?_<;>try simp only[*,go_sem,seval]
 refine ZMH h fun _ c h=>Zd (X0 c) ?_
 simp only[*,go_sem,seval]
 refine Ze h (fun _ h=>?_) fun _ h=>?_<;>try simp only[*,go_sem,seval]
 refine ZMH h fun _ d h=>Zd (ZcO d) ?_
 simp only[*,go_sem,seval]
 iterate 2 refine Ze h (fun _ h=>?_) fun _ h=>?_<;>try simp only[*,go_sem,seval]
 refine ZMH h fun _ e h=>Zd (ZgL e) ?_
 iterate 2 (cases h;simp only[*,go_sem,seval])
 refine Ze h (fun _ h=>?_) fun _ h=>?_<;>try simp only[*,go_sem,seval]
 cases h
 simp only[*,go_sem,seval]
 refine ZMH h fun _ f h=>Zd (ZsA f) ?_
 iterate 4 (cases h;simp only[*,go_sem,seval])
theorem Zm6 {b:Zr} {r:(List Int)} (h:Zds b=some r):Zk prog J0 261 [(true,XY b)] [(false,[(false,.sl 3 1 (A0 ZI r))])]:=by
 refine fnk func261 rfl ?_
 unfold Zds at h
 simp only[fnS,f261,Zm,go_sem,seval]
 refine ZMH h fun _ B h=>Zd (Zek B) ?_
 simp only[*,go_sem,seval]
 refine Ze h (fun _ h=>?_) fun _ h=>?_<;>try simp only[*,go_sem,seval]
 obtain ⟨_,h⟩:=Zq h
 simp only[*,go_sem,seval]
 refine Yo h (fun s st=>match s with | (q,e)=>IV [(1,.bp 0 0),(3,.p false [.row 1]),(4,.p false [.c (.int .i64 e)])] [.box 64 [.c (.int .i64 b.nodes),.c (.sl 199 3 (A0 ZE b.reasons))],.row 3 1 (A0 ZI q) 2] st) [] [0,112] (by decide) ?_ ?_
 simp only[*,go_sem,seval]
 rintro ⟨q,e⟩ ⟨sl,ob,n⟩ _ t _ h C
 simp only[go_sem,seval,Zc] at t
 obtain ⟨⟨_,_,_⟩,_,_,hn⟩:=t
 subst hn
 simp only[*,go_sem,seval]
 refine Ze h (fun _ h=>?_) fun _ h=>?_<;>try simp only[*,go_sem,seval]
 refine Zi h (fun i f st=>IV [(1,.bp 0 0),(3,.p false [.row 1]),(4,.p false [.c (.int .i64 e)]),(5,.p false [.c (.int .i64 ((i:Nat):Int))])] [.box 64 [.c (.int .i64 b.nodes),.c (.sl 199 3 (A0 ZE b.reasons))],.row 3 1 (A0 ZI f) 2] st) [] [0,1] (by decide) ?_ ?_ ?_
 simp only[*,go_sem,seval]
 rintro u d f ⟨sl,ob,n⟩ _ g v D h _
 simp only[go_sem,seval,Zc] at v
 obtain ⟨⟨_,_,_,_⟩,E,_,hn⟩:=v
 subst hn
 have F:=WF.boxL D E (j:=1) rfl
 have:=ZA g
 have:=ZC g
 have:=Zj (ZB g) F
 simp only[*,go_sem,seval]
 refine Zi h (fun i k st=>IV [(1,.bp 0 0),(3,.p false [.row 1]),(4,.p false [.c (.int .i64 e)]),(5,.p false [.c (.int .i64 ((u:Nat):Int))]),(6,.bp 2 0),(7,.p false [.c (.int .i64 ((i:Nat):Int))])] [.box 64 [.c (.int .i64 b.nodes),.c (.sl 199 3 (A0 ZE b.reasons))],.row 3 1 (A0 ZI k) 2,.box 199 [.c (.int .i64 d.for_),.c (.sl 3 1 (A0 ZI d.inn)),.c (.sl 3 1 (A0 ZI d.outs))]] st) [] [0,1,162] (by decide) ?_ ?_ ?_
 simp only[*,go_sem,seval]
 rintro _ _ k ⟨sl,ob,n⟩ _ l w G h _
 simp only[go_sem,seval,Zc] at w
 obtain ⟨⟨_,_,_,_,_,_⟩,_,_,H,hn⟩:=w
 subst hn
 have I:=WF.boxL G H (j:=1) rfl
 have:=ZA l
 have:=ZC l
 have:=Zj (ZB l) I
 obtain ⟨_,h⟩:=Zq h
 obtain ⟨_,_,h⟩:=Za h
 obtain ⟨_,h⟩:=Zq h
 obtain ⟨_,_,h⟩:=Za h
 simp only[*,go_sem,seval]
 refine ⟨_,[],[0,1,2],(A1 h).symm,by decide,?_⟩
 simp only[*,go_sem,seval]
 rintro k ⟨sl,ob,n⟩ x _ h
 simp only[go_sem,seval,Zc] at x
 obtain ⟨⟨_,_,_,_,_,_⟩,_,_,_,hn⟩:=x
 subst hn
 have:=Zy (d.inn.length)
 simp only[*,go_sem,seval]
 refine Zi h (fun i m st=>IV [(1,.bp 0 0),(3,.p false [.row 1]),(4,.p false [.c (.int .i64 e)]),(5,.p false [.c (.int .i64 ((u:Nat):Int))]),(6,.bp 2 0),(8,.p false [.c (.int .i64 ((i:Nat):Int))])] [.box 64 [.c (.int .i64 b.nodes),.c (.sl 199 3 (A0 ZE b.reasons))],.row 3 1 (A0 ZI m) 2,.box 199 [.c (.int .i64 d.for_),.c (.sl 3 1 (A0 ZI d.inn)),.c (.sl 3 1 (A0 ZI d.outs))]] st) [] [0,1,2] (by decide) ?_ ?_ ?_
 simp only[*,go_sem,seval]
 rintro _ _ m ⟨sl,ob,n⟩ _ o y J h _
 simp only[go_sem,seval,Zc] at y
 obtain ⟨⟨_,_,_,_,_,_⟩,_,_,K,hn⟩:=y
 subst hn
 have L:=WF.boxL J K (j:=2) rfl
 have:=ZA o
 have:=ZC o
 have:=Zj (ZB o) L
 obtain ⟨_,h⟩:=Zq h
 obtain ⟨_,_,h⟩:=Za h
 obtain ⟨_,h⟩:=Zq h
 obtain ⟨_,_,h⟩:=Za h
 simp only[*,go_sem,seval]
 refine ⟨_,[],[0,1,2],(A1 h).symm,by decide,?_⟩
 simp only[*,go_sem,seval]
 rintro m ⟨sl,ob,n⟩ z _ h
 simp only[go_sem,seval,Zc] at z
 obtain ⟨⟨_,_,_,_,_,_⟩,_,_,_,hn⟩:=z
 subst hn
 have:=Zy (d.outs.length)
 simp only[*,go_sem,seval]
 refine ⟨_,[],[0,1],(A1 h).symm,by decide,?_⟩
 simp only[*,go_sem,seval]
 rintro f ⟨sl,ob,n⟩ A _ h
 simp only[go_sem,seval,Zc] at A
 obtain ⟨⟨_,_,_,_⟩,_,_,hn⟩:=A
 subst hn
 have:=Zy (b.reasons.length)
 simp only[*,go_sem,seval]
 refine ⟨_,[],[0,1],(A1 h).symm,by decide,?_⟩
 simp only[*,go_sem,seval]
 replace h:=Zn h C
 iterate 2 (cases h;simp only[*,go_sem,seval])
theorem ZM2 {r_0:Zg} {r:Zg} (h:ZMN r_0=some r):Zk prog J0 79 [(true,ZF r_0)] [(true,[(false,.str r.name),(false,.int .i64 r.priority),(false,.sl 173 5 (A0 ZK r.cond)),(false,.sl 50 3 (A0 ZG r.thn))])]:=by
 refine fnk func79 rfl ?_
 unfold ZMN at h
 simp only[fnS,f79,Zm,go_sem,seval]
 refine ZMH h fun f g h=>Zd (ZMY g) ?_
 simp only[*,go_sem,seval]
 refine Zi h (fun i a st=>IV [(2,.bp 0 0),(3,.bp 1 0),(15,.p false [.c (.sl 50 3 (A0 ZG r_0.thn))]),(16,.p false [.c (.int .i64 ((r_0.thn.length:Nat):Int))]),(17,.p false [.c (.int .i64 ((i:Nat):Int))])] [.box 42 [.c (.str ⟨#[]⟩),.c (.int .i64 0),.nil 173 5,.nil 50 3],.box 42 [.c (.str r_0.name),.c (.int .i64 r_0.priority),.row 2,.row 3],.row 173 5 (A0 ZK f) 2,.row 50 3 (A0 ZG a) 2] st) [(true,160,3)] [16,160,128,256] (by decide) ?_ ?_ ?_
 simp only[*,go_sem,seval]
 rintro _ _ a ⟨sl,ob,n⟩ _ b d k h _
 simp only[go_sem,seval,Zc] at d
 obtain ⟨⟨_,_,l,_,_⟩,_,_,_,_,hn⟩:=d
 subst hn
 have m:=WF.slotL k l (j:=0) rfl
 have:=ZA b
 have:=ZC b
 have:=Zj (ZB b) m
 simp only[*,go_sem,seval]
 refine ZMH h fun _ o h=>Zd (ZMP o) ?_
 obtain ⟨q,h⟩:=Zq h
 try simp only[Nat.reduceLeDiff] at q
 simp only[*,go_sem,seval]
 refine ⟨_,[],[0,1,2,228],(A1 h).symm,by decide,?_⟩
 simp only[*,go_sem,seval]
 rintro a ⟨sl,ob,n⟩ e _ h
 simp only[go_sem,seval,Zc] at e
 obtain ⟨⟨_,_,_,_,_⟩,_,_,_,_,hn⟩:=e
 subst hn
 have:=Zy (r_0.thn.length)
 cases h
 simp only[*,go_sem,seval]
end
section
set_option linter.unusedSimpArgs false
set_option linter.unusedVariables false
set_option maxRecDepth 1000000
set_option maxHeartbeats 4000000
theorem Zbq {r_0:Zg} {n_1:Int} {r:(List ByteArray)} (h:X5 r_0 n_1=some r):Zk prog J0 219 [(true,ZF r_0),(false,[.int .i64 n_1])] [(false,[(false,.sl 9 1 (A0 Zx r))])]:=by
 refine fnk func219 rfl ?_
 unfold X5 at h
 simp only[fnS,f219,Zm,go_sem,seval]
 refine Zi h (fun i a st=>IV [(1,.p false [.c (.int .i64 n_1)]),(2,.bp 0 0),(5,.p false [.row 1]),(6,.p false [.c (.int .i64 ((i:Nat):Int))])] [.box 42 [.c (.str r_0.name),.c (.int .i64 r_0.priority),.c (.sl 173 5 (A0 ZK r_0.cond)),.c (.sl 50 3 (A0 ZG r_0.thn))],.row 9 1 (A0 Zx a) 2] st) [] [0,32] (by decide) ?_ ?_ ?_
 simp only[*,go_sem,seval]
 rintro b _ a ⟨sl,ob,n⟩ _ d g q h t
 simp only[go_sem,seval,Zc] at g
 obtain ⟨⟨_,_,_,_⟩,u,_,hn⟩:=g
 subst hn
 have v:=WF.boxL q u (j:=2) rfl
 have:=ZA d
 have:=ZC d
 have:=Zj (ZB d) v
 simp only[*,go_sem,seval]
 iterate 2 refine Ze h (fun _ h=>?_) fun _ h=>?_<;>try simp only[*,go_sem,seval]
 refine ZMH h fun k w h=>Zd (Zcw w) ?_
 simp only[*,go_sem,seval]
 refine Zi h (fun i e st=>IV [(1,.p false [.c (.int .i64 n_1)]),(2,.bp 0 0),(5,.p false [.row 1]),(6,.p false [.c (.int .i64 ((b:Nat):Int))]),(7,.p false [.row 2]),(8,.p false [.c (.int .i64 ((i:Nat):Int))]),(16,.p false [.c (.int .i64 ((b:Nat):Int))]),(17,.p false [.c (.int .i64 n_1)]),(18,.p false [.c (.bool (decide (((b:Nat):Int)<n_1)))])] [.box 42 [.c (.str r_0.name),.c (.int .i64 r_0.priority),.c (.sl 173 5 (A0 ZK r_0.cond)),.c (.sl 50 3 (A0 ZG r_0.thn))],.row 9 1 (A0 Zx e) 2,.row 9 1 (A0 Zx k) 2] st) [] [0,1,370] (by decide) ?_ ?_ ?_
 simp only[*,go_sem,seval]
 rintro _ _ e ⟨sl,ob,n⟩ _ f l x h _
 simp only[go_sem,seval,Zc] at l
 obtain ⟨⟨_,_,_,_,_,_,_,_,_⟩,_,_,y,hn⟩:=l
 subst hn
 have z:=WF.rowL x y
 have:=ZA f
 have:=ZC f
 have:=Zj (ZB f) z
 simp only[*,go_sem,seval]
 refine ZMH h fun _ A h=>Zd (Xg A) ?_
 simp only[*,go_sem,seval]
 refine ⟨_,[],[0,147,2],(A1 h).symm,by decide,?_⟩
 simp only[*,go_sem,seval]
 rintro e ⟨sl,ob,n⟩ m _ h
 simp only[go_sem,seval,Zc] at m
 obtain ⟨⟨_,_,_,_,_,_,_,_,_⟩,_,_,_,hn⟩:=m
 subst hn
 have:=Zy (k.length)
 simp only[*,go_sem,seval]
 refine ⟨_,[],[0,1],(A1 h).symm,by decide,?_⟩
 simp only[*,go_sem,seval]
 refine ⟨_,[],[0,1],(A1 h).symm,by decide,?_⟩
 simp only[*,go_sem,seval]
 replace h:=Zn h t
 cases h
 simp only[*,go_sem,seval]
 rintro a ⟨sl,ob,n⟩ o _ h
 simp only[go_sem,seval,Zc] at o
 obtain ⟨⟨_,_,_,_⟩,_,_,hn⟩:=o
 subst hn
 have:=Zy (r_0.cond.length)
 cases h
 simp only[*,go_sem,seval]
theorem Xi {p_0:Zv} {r:Bool} (h:YS p_0=some r):Zk prog J0 71 [(true,QA p_0)] [(false,[(false,.bool r)])]:=by
 refine fnk func71 rfl ?_
 unfold YS at h
 simp only[fnS,f71,Zm,go_sem,seval]
 refine Zi h (fun i _ st=>IV [(1,.bp 0 0),(3,.p false [.c (.int .i64 ((i:Nat):Int))])] [.box 48 [.c (.str p_0.rel),.c (.sl 9 1 (A0 Zx p_0.args))]] st) [] [0] (by decide) ?_ ?_ ?_
 simp only[*,go_sem,seval]
 rintro _ _ ⟨⟩ ⟨sl,ob,n⟩ _ a b e h f
 simp only[go_sem,seval,Zc] at b
 obtain ⟨⟨_,_⟩,g,hn⟩:=b
 subst hn
 have k:=WF.boxL e g (j:=1) rfl
 have:=ZA a
 have:=ZC a
 have:=Zj (ZB a) k
 simp only[*,go_sem,seval]
 refine ZMH h fun _ l h=>Zd (QY l) ?_
 simp only[*,go_sem,seval]
 refine Ze h (fun _ h=>?_) fun _ h=>?_<;>try simp only[*,go_sem,seval]
 refine ⟨_,[],[0],(A1 h).symm,by decide,?_⟩
 simp only[*,go_sem,seval]
 replace h:=Zn h f
 cases h
 simp only[*,go_sem,seval]
 rintro ⟨⟩ ⟨sl,ob,n⟩ d _ h
 simp only[go_sem,seval,Zc] at d
 obtain ⟨⟨_,_⟩,_,hn⟩:=d
 subst hn
 have:=Zy (p_0.args.length)
 simp only[*,go_sem,seval]
 refine ZMH h fun _ m h=>Zd (ZgV m) ?_
 simp only[*,go_sem,seval]
 refine Ze h (fun _ h=>?_) fun _ h=>?_<;>try simp only[*,go_sem,seval]
 iterate 2 (cases h;simp only[*,go_sem,seval])
theorem Zas {x_0:Zt} {r:(List ByteArray)} (h:XH x_0=some r):Zk prog J0 221 [(true,ZK x_0)] [(false,[(false,.sl 9 1 (A0 Zx r))])]:=by
 refine fnk func221 rfl ?_
 unfold XH at h
 simp only[fnS,f221,Zm,go_sem,seval]
 refine ZMH h fun _ a h=>Zd (Zcw a) ?_
 simp only[*,go_sem,seval]
 refine ZMH h fun _ b h=>Zd (Q3 b) ?_
 simp only[*,go_sem,seval]
 refine Ze h (fun _ h=>?_) fun _ h=>?_<;>try simp only[*,go_sem,seval]
 refine ZMH h fun _ c h=>Zd (Xg c) ?_
 simp only[*,go_sem,seval]
 refine ZMH h fun _ d h=>Zd (Q3 d) ?_
 simp only[*,go_sem,seval]
 refine Ze h (fun _ h=>?_) fun _ h=>?_<;>try simp only[*,go_sem,seval]
 refine ZMH h fun _ e h=>Zd (Xg e) ?_
 iterate 2 (cases h;simp only[*,go_sem,seval])
 refine ZMH h fun _ f h=>Zd (Q3 f) ?_
 simp only[*,go_sem,seval]
 refine Ze h (fun _ h=>?_) fun _ h=>?_<;>try simp only[*,go_sem,seval]
 refine ZMH h fun _ g h=>Zd (Xg g) ?_
 iterate 2 (cases h;simp only[*,go_sem,seval])
theorem Zdw {a:(List Zb)} {f_1:Zb} {r:(List Zb)} (h:YX a f_1=some r):Zk prog J0 127 [(false,[.sl 45 2 (A0 Zl a)]),(true,Zl f_1)] [(false,[(false,.sl 45 2 (A0 Zl r))])]:=by
 refine fnk func127 rfl ?_
 unfold YX at h
 simp only[fnS,f127,Zm,go_sem,seval]
 refine Zi h (fun i s st=>match s with | (b,d)=>IV [(0,.p false [.c (.sl 45 2 (A0 Zl a))]),(3,.bp 0 0),(5,.p false [.row 1]),(6,.p false [.c (.bool d)]),(7,.p false [.c (.int .i64 ((i:Nat):Int))])] [.box 45 [.c (.str f_1.rel),.c (.sl 9 1 (A0 Zx f_1.args))],.row 45 2 (A0 Zl b) 2] st) [] [0,32] (by decide) ?_ ?_ ?_
 simp only[*,go_sem,seval]
 rintro _ _ ⟨b,d⟩ ⟨sl,ob,n⟩ _ e f k h _
 simp only[go_sem,seval,Zc] at f
 obtain ⟨⟨l,_,_,_,_⟩,_,_,hn⟩:=f
 subst hn
 have m:=WF.slotL k l (j:=0) rfl
 have:=ZA e
 have:=ZC e
 have:=Zj (ZB e) m
 simp only[*,go_sem,seval]
 refine Ze h (fun _ h=>?_) fun _ h=>?_<;>try simp only[*,go_sem,seval]
 refine ZMH h fun _ o h=>Zd (Xa o) ?_
 obtain ⟨q,h⟩:=Zq h
 try simp only[Nat.reduceLeDiff] at q
 simp only[*,go_sem,seval]
 refine ⟨_,[],[0,354],(A1 h).symm,by decide,?_⟩
 simp only[*,go_sem,seval]
 refine ZMH h fun _ t h=>Zd (Qv t) ?_
 simp only[*,go_sem,seval]
 refine Ze h (fun _ h=>?_) fun _ h=>?_<;>try simp only[*,go_sem,seval]
 refine ZMH h fun _ u h=>Zd (Qv u) ?_
 simp only[*,go_sem,seval]
 refine Ze h (fun _ h=>?_) fun _ h=>?_<;>try simp only[*,go_sem,seval]
 refine ZMH h fun _ v h=>Zd (Xa v) ?_
 obtain ⟨w,h⟩:=Zq h
 try simp only[Nat.reduceLeDiff] at w
 simp only[*,go_sem,seval]
 refine ZMH h fun _ x h=>Zd (Xa x) ?_
 obtain ⟨y,h⟩:=Zq h
 try simp only[Nat.reduceLeDiff] at y
 simp only[*,go_sem,seval]
 refine ⟨_,[],[0,578],(A1 h).symm,by decide,?_⟩
 simp only[*,go_sem,seval]
 refine ZMH h fun _ z h=>Zd (Xa z) ?_
 obtain ⟨A,h⟩:=Zq h
 try simp only[Nat.reduceLeDiff] at A
 simp only[*,go_sem,seval]
 refine ⟨_,[],[0,482],(A1 h).symm,by decide,?_⟩
 simp only[*,go_sem,seval]
 refine ZMH h fun _ B h=>Zd (Xa B) ?_
 obtain ⟨C,h⟩:=Zq h
 try simp only[Nat.reduceLeDiff] at C
 simp only[*,go_sem,seval]
 refine ⟨_,[],[0,354],(A1 h).symm,by decide,?_⟩
 simp only[*,go_sem,seval]
 rintro ⟨b,d⟩ ⟨sl,ob,n⟩ g _ h
 simp only[go_sem,seval,Zc] at g
 obtain ⟨⟨_,_,_,_,_⟩,_,_,hn⟩:=g
 subst hn
 have:=Zy (a.length)
 simp only[*,go_sem,seval]
 refine Ze h (fun _ h=>?_) fun _ h=>?_<;>try simp only[*,go_sem,seval]
 cases h
 simp only[*,go_sem,seval]
 refine ZMH h fun _ D h=>Zd (Xa D) ?_
 obtain ⟨E,h⟩:=Zq h
 try simp only[Nat.reduceLeDiff] at E
 cases h
 simp only[*,go_sem,seval]
theorem Zep {l_0:(List Zb)} {r:Bool} (h:ZaH l_0=some r):Zk prog J0 66 [(false,[.sl 45 2 (A0 Zl l_0)])] [(false,[(false,.bool r)])]:=by
 refine fnk func66 rfl ?_
 unfold ZaH at h
 simp only[fnS,f66,Zm,go_sem,seval]
 refine Ze h (fun _ h=>?_) fun _ h=>?_<;>try simp only[*,go_sem,seval]
 cases h
 simp only[*,go_sem,seval]
 refine Zi h (fun i _ st=>IV [(0,.p false [.c (.sl 45 2 (A0 Zl l_0))]),(8,.p false [.c (.sl 45 2 (A0 Zl l_0))]),(9,.p false [.c (.int .i64 ((l_0.length:Nat):Int))]),(10,.p false [.c (.int .i64 ((i:Nat):Int))])] [] st) [] [] (by decide) ?_ ?_ ?_
 simp only[*,go_sem,seval]
 rintro _ _ ⟨⟩ ⟨sl,ob,n⟩ _ a b f h d
 simp only[go_sem,seval,Zc] at b
 obtain ⟨⟨g,_,_,_⟩,hn⟩:=b
 subst hn
 have k:=WF.slotL f g (j:=0) rfl
 have:=ZA a
 have:=ZC a
 have:=Zj (ZB a) k
 simp only[*,go_sem,seval]
 refine ZMH h fun _ l h=>Zd (Zky l) ?_
 simp only[*,go_sem,seval]
 iterate 2 refine Ze h (fun _ h=>?_) fun _ h=>?_<;>try simp only[*,go_sem,seval]
 obtain ⟨_,_,_,_,h⟩:=ZbQ h
 simp only[*,go_sem,seval]
 refine ZMH h fun _ m h=>Zd (Zd7 m) ?_
 simp only[*,go_sem,seval]
 refine Ze h (fun _ h=>?_) fun _ h=>?_<;>try simp only[*,go_sem,seval]
 replace h:=Zn h d
 cases h
 simp only[*,go_sem,seval]
 refine ⟨_,[],[],(A1 h).symm,by decide,?_⟩
 simp only[*,go_sem,seval]
 refine ⟨_,[],[],(A1 h).symm,by decide,?_⟩
 simp only[*,go_sem,seval]
 replace h:=Zn h d
 cases h
 simp only[*,go_sem,seval]
 rintro ⟨⟩ ⟨sl,ob,n⟩ e _ h
 simp only[go_sem,seval,Zc] at e
 obtain ⟨⟨_,_,_,_⟩,hn⟩:=e
 subst hn
 have:=Zy (l_0.length)
 cases h
 simp only[*,go_sem,seval]
theorem Zce {p_0:Zv} {b_1:(List Zs)} {r:(Zb × Bool)} (h:XL p_0 b_1=some r):Zk prog J0 68 [(true,QA p_0),(false,[.sl 166 2 (A0 Z4 b_1)])] [(true,[(false,.str r.1.rel),(false,.sl 9 1 (A0 Zx r.1.args))]),(false,[(false,.bool r.2)])]:=by
 refine fnk func68 rfl ?_
 unfold XL at h
 simp only[fnS,f68,Zm,go_sem,seval]
 refine ZMH h fun _ f h=>Zd (XQ f) ?_
 simp only[*,go_sem,seval]
 refine Ze h (fun _ h=>?_) fun _ h=>?_<;>try simp only[*,go_sem,seval]
 refine ZMH h fun _ g h=>Zd (QO g) ?_
 simp only[*,go_sem,seval]
 refine Ze h (fun _ h=>?_) fun _ h=>?_<;>try simp only[*,go_sem,seval]
 refine Zi h (fun i a st=>IV [(1,.p false [.c (.sl 166 2 (A0 Z4 b_1))]),(4,.bp 0 0),(6,.bp 1 0),(24,.p false [.c (.sl 9 1 (A0 Zx p_0.args))]),(25,.p false [.c (.int .i64 ((p_0.args.length:Nat):Int))]),(26,.p false [.c (.int .i64 ((i:Nat):Int))])] [.box 45 [.c (.str ⟨#[]⟩),.nil 9 1],.box 45 [.c (.str p_0.rel),.row 2],.row 9 1 (A0 Zx a) 2] st) [(true,224,1)] [16,224,320] (by decide) ?_ ?_ ?_
 simp only[*,go_sem,seval]
 rintro _ _ a ⟨sl,ob,n⟩ _ b d k h l
 simp only[go_sem,seval,Zc] at d
 obtain ⟨⟨_,_,_,m,_,_⟩,_,_,_,hn⟩:=d
 subst hn
 have o:=WF.slotL k m (j:=0) rfl
 have:=ZA b
 have:=ZC b
 have:=Zj (ZB b) o
 simp only[*,go_sem,seval]
 refine ZMH h fun _ q h=>Zd (ZcR q) ?_
 simp only[*,go_sem,seval]
 refine Ze h (fun _ h=>?_) fun _ h=>?_<;>try simp only[*,go_sem,seval]
 obtain ⟨t,h⟩:=Zq h
 try simp only[Nat.reduceLeDiff] at t
 simp only[*,go_sem,seval]
 refine ⟨_,[],[0,1,291],(A1 h).symm,by decide,?_⟩
 simp only[*,go_sem,seval]
 replace h:=Zn h l
 cases h
 simp only[*,go_sem,seval]
 rintro a ⟨sl,ob,n⟩ e _ h
 simp only[go_sem,seval,Zc] at e
 obtain ⟨⟨_,_,_,_,_,_⟩,_,_,_,hn⟩:=e
 subst hn
 have:=Zy (p_0.args.length)
 iterate 3 (cases h;simp only[*,go_sem,seval])
theorem Zgc {x_0:Zt} {r:Bool} (h:ZdA x_0=some r):Zk prog J0 196 [(true,ZK x_0)] [(false,[(false,.bool r)])]:=by
 refine fnk func196 rfl ?_
 unfold ZdA at h
 have a:Z9 ⟨#[]⟩=true:=by decide
 simp only[fnS,f196,Zm,go_sem,seval,a]
 refine Ze h (fun _ h=>?_) fun _ h=>?_<;>try simp only[*,go_sem,seval]
 refine ZMH h fun _ b h=>Zd (XQ b) ?_
 simp only[*,go_sem,seval]
 iterate 2 refine Ze h (fun _ h=>?_) fun _ h=>?_<;>try simp only[*,go_sem,seval]
 iterate 3 (cases h;simp only[*,go_sem,seval])
 refine Ze h (fun _ h=>?_) fun _ h=>?_<;>try simp only[*,go_sem,seval]
 refine ZMH h fun _ c h=>Zd (XQ c) ?_
 simp only[*,go_sem,seval]
 iterate 2 refine Ze h (fun _ h=>?_) fun _ h=>?_<;>try simp only[*,go_sem,seval]
 iterate 3 (cases h;simp only[*,go_sem,seval])
 refine Ze h (fun _ h=>?_) fun _ h=>?_<;>try simp only[*,go_sem,seval]
 refine ZMH h fun _ d h=>Zd (QH d) ?_
 simp only[*,go_sem,seval]
 refine Ze h (fun _ h=>?_) fun _ h=>?_<;>try simp only[*,go_sem,seval]
 refine ZMH h fun _ e h=>Zd (QH e) ?_
 simp only[*,go_sem,seval]
 refine Ze h (fun _ h=>?_) fun _ h=>?_<;>try simp only[*,go_sem,seval]
 refine ZMH h fun _ f h=>Zd (Q8 f) ?_
 iterate 3 (cases h;simp only[*,go_sem,seval])
 refine Ze h (fun _ h=>?_) fun _ h=>?_<;>try simp only[*,go_sem,seval]
 refine ZMH h fun _ g h=>Zd (QH g) ?_
 simp only[*,go_sem,seval]
 refine Ze h (fun _ h=>?_) fun _ h=>?_<;>try simp only[*,go_sem,seval]
 refine ZMH h fun _ i h=>Zd (QH i) ?_
 simp only[*,go_sem,seval]
 refine Ze h (fun _ h=>?_) fun _ h=>?_<;>try simp only[*,go_sem,seval]
 refine ZMH h fun _ j h=>Zd (Q8 j) ?_
 iterate 3 (cases h;simp only[*,go_sem,seval])
 refine Ze h (fun _ h=>?_) fun _ h=>?_<;>try simp only[*,go_sem,seval]
 refine ZMH h fun _ k h=>Zd (QH k) ?_
 simp only[*,go_sem,seval]
 refine Ze h (fun _ h=>?_) fun _ h=>?_<;>try simp only[*,go_sem,seval]
 refine ZMH h fun _ l h=>Zd (QH l) ?_
 simp only[*,go_sem,seval]
 refine Ze h (fun _ h=>?_) fun _ h=>?_<;>try simp only[*,go_sem,seval]
 refine ZMH h fun _ m h=>Zd (Q8 m) ?_
 iterate 4 (cases h;simp only[*,go_sem,seval])
theorem Zgm {r_0:Zg} {k_1:Int} {v_2:ByteArray} {r:Bool} (h:XC r_0 k_1 v_2=some r):Zk prog J0 264 [(true,ZF r_0),(false,[.int .i64 k_1]),(false,[.str v_2])] [(false,[(false,.bool r)])]:=by
 refine fnk func264 rfl ?_
 unfold XC at h
 simp only[fnS,f264,Zm,go_sem,seval]
 refine Zi h (fun i _ st=>IV [(1,.p false [.c (.int .i64 k_1)]),(2,.p false [.c (.str v_2)]),(3,.bp 0 0),(12,.p false [.c (.sl 173 5 (A0 ZK r_0.cond))]),(13,.p false [.c (.int .i64 ((r_0.cond.length:Nat):Int))]),(14,.p false [.c (.int .i64 ((i:Nat):Int))])] [.box 42 [.c (.str r_0.name),.c (.int .i64 r_0.priority),.c (.sl 173 5 (A0 ZK r_0.cond)),.c (.sl 50 3 (A0 ZG r_0.thn))]] st) [] [0] (by decide) ?_ ?_ ?_
 simp only[*,go_sem,seval]
 rintro _ _ ⟨⟩ ⟨sl,ob,n⟩ _ a d k h l
 simp only[go_sem,seval,Zc] at d
 obtain ⟨⟨_,_,_,m,_,_⟩,_,hn⟩:=d
 subst hn
 have o:=WF.slotL k m (j:=0) rfl
 have:=ZA a
 have:=ZC a
 have:=Zj (ZB a) o
 simp only[*,go_sem,seval]
 refine Ze h (fun _ h=>?_) fun _ h=>?_<;>try simp only[*,go_sem,seval]
 refine ZMH h fun _ q h=>Zd (Zb9 q) ?_
 simp only[*,go_sem,seval]
 refine ZMH h fun _ t h=>Zd (Zac t) ?_
 simp only[*,go_sem,seval]
 refine Ze h (fun _ h=>?_) fun _ h=>?_<;>try simp only[*,go_sem,seval]
 replace h:=Zn h l
 cases h
 simp only[*,go_sem,seval]
 refine ⟨_,[],[0],(A1 h).symm,by decide,?_⟩
 simp only[*,go_sem,seval]
 refine ⟨_,[],[0],(A1 h).symm,by decide,?_⟩
 simp only[*,go_sem,seval]
 rintro ⟨⟩ ⟨sl,ob,n⟩ e _ h
 simp only[go_sem,seval,Zc] at e
 obtain ⟨⟨_,_,_,_,_,_⟩,_,hn⟩:=e
 subst hn
 have:=Zy (r_0.cond.length)
 simp only[*,go_sem,seval]
 refine Zi h (fun i _ st=>IV [(2,.p false [.c (.str v_2)]),(30,.p false [.c (.sl 50 3 (A0 ZG r_0.thn))]),(31,.p false [.c (.int .i64 ((r_0.thn.length:Nat):Int))]),(32,.p false [.c (.int .i64 ((i:Nat):Int))])] [] st) [] [] (by decide) ?_ ?_ ?_
 simp only[*,go_sem,seval]
 rintro _ _ ⟨⟩ ⟨sl,ob,n⟩ _ b f u h v
 simp only[go_sem,seval,Zc] at f
 obtain ⟨⟨_,w,_,_⟩,hn⟩:=f
 subst hn
 have x:=WF.slotL u w (j:=0) rfl
 have:=ZA b
 have:=ZC b
 have:=Zj (ZB b) x
 simp only[*,go_sem,seval]
 refine ZMH h fun _ y h=>Zd (Zac y) ?_
 simp only[*,go_sem,seval]
 refine Ze h (fun _ h=>?_) fun _ h=>?_<;>try simp only[*,go_sem,seval]
 replace h:=Zn h v
 cases h
 simp only[*,go_sem,seval]
 refine ⟨_,[],[],(A1 h).symm,by decide,?_⟩
 simp only[*,go_sem,seval]
 rintro ⟨⟩ ⟨sl,ob,n⟩ g _ h
 simp only[go_sem,seval,Zc] at g
 obtain ⟨⟨_,_,_,_⟩,hn⟩:=g
 subst hn
 have:=Zy (r_0.thn.length)
 cases h
 simp only[*,go_sem,seval]
theorem ZmO {a_0:Zz} {r:Bool} (h:Zdl a_0=some r):Zk prog J0 199 [(true,ZG a_0)] [(false,[(false,.bool r)])]:=by
 refine fnk func199 rfl ?_
 unfold Zdl at h
 simp only[fnS,f199,Zm,go_sem,seval]
 refine Ze h (fun _ h=>?_) fun _ h=>?_<;>try simp only[*,go_sem,seval]
 refine ZMH h fun _ a h=>Zd (XQ a) ?_
 cases h
 simp only[*,go_sem,seval]
 refine Ze h (fun _ h=>?_) fun _ h=>?_<;>try simp only[*,go_sem,seval]
 refine ZMH h fun _ b h=>Zd (XQ b) ?_
 cases h
 simp only[*,go_sem,seval]
 refine Ze h (fun _ h=>?_) fun _ h=>?_<;>try simp only[*,go_sem,seval]
 refine ZMH h fun _ c h=>Zd (Q8 c) ?_
 iterate 2 (cases h;simp only[*,go_sem,seval])
theorem ZkH {l_0:(List Zt)} {r:(List ByteArray)} (h:Zbp l_0=some r):Zk prog J0 201 [(false,[.sl 173 5 (A0 ZK l_0)])] [(false,[(false,.sl 9 1 (A0 Zx r))])]:=by
 refine fnk func201 rfl ?_
 unfold Zbp at h
 simp only[fnS,f201,Zm,go_sem,seval]
 refine Zi h (fun i a st=>IV [(3,.p false [.row 0]),(6,.p false [.c (.sl 173 5 (A0 ZK l_0))]),(7,.p false [.c (.int .i64 ((l_0.length:Nat):Int))]),(8,.p false [.c (.int .i64 ((i:Nat):Int))])] [.row 9 1 (A0 Zx a) 2] st) [(false,3,0)] [80] (by decide) ?_ ?_ ?_
 simp only[*,go_sem,seval]
 rintro _ _ a ⟨sl,ob,n⟩ _ b d f h _
 simp only[go_sem,seval,Zc] at d
 obtain ⟨⟨_,g,_,_⟩,_,hn⟩:=d
 subst hn
 have k:=WF.slotL f g (j:=0) rfl
 have:=ZA b
 have:=ZC b
 have:=Zj (ZB b) k
 simp only[*,go_sem,seval]
 refine ZMH h fun _ l h=>Zd (Zb9 l) ?_
 obtain ⟨_,h⟩:=Zq h
 simp only[*,go_sem,seval]
 refine ⟨_,[],[129],(A1 h).symm,by decide,?_⟩
 simp only[*,go_sem,seval]
 rintro a ⟨sl,ob,n⟩ e _ h
 simp only[go_sem,seval,Zc] at e
 obtain ⟨⟨_,_,_,_⟩,_,hn⟩:=e
 subst hn
 have:=Zy (l_0.length)
 cases h
 simp only[*,go_sem,seval]
theorem ZgE {append_0:Zv} {String_1:Zb} {a_2:(List Zs)} {r:((List Zs) × Bool)} (h:Za0 append_0 String_1 a_2=some r):Zk prog J0 154 [(true,QA append_0),(true,Zl String_1),(false,[.sl 166 2 (A0 Z4 a_2)])] [(false,[(false,.sl 166 2 (A0 Z4 r.1))]),(false,[(false,.bool r.2)])]:=by
 refine fnk func154 rfl ?_
 unfold Za0 at h
 simp only[fnS,f154,Zm,go_sem,seval]
 refine ZMH h fun _ g h=>Zd (XQ g) ?_
 simp only[*,go_sem,seval]
 refine Ze h (fun _ h=>?_) fun _ h=>?_<;>try simp only[*,go_sem,seval]
 refine ZMH h fun _ k h=>Zd (Zky k) ?_
 simp only[*,go_sem,seval]
 refine Ze h (fun _ h=>?_) fun _ h=>?_<;>try simp only[*,go_sem,seval]
 refine ZMH h fun _ l h=>Zd (QO l) ?_
 simp only[*,go_sem,seval]
 iterate 3 refine Ze h (fun _ h=>?_) fun _ h=>?_<;>try simp only[*,go_sem,seval]
 cases h
 simp only[*,go_sem,seval]
 refine ZMH h fun _ m h=>Zd (Zgp m) ?_
 simp only[*,go_sem,seval]
 refine Zi h (fun i a st=>IV [(4,.bp 0 0),(8,.p false [.row 1]),(45,.p false [.c (.sl 9 1 (A0 Zx append_0.args))]),(46,.p false [.c (.int .i64 ((append_0.args.length:Nat):Int))]),(47,.p false [.c (.int .i64 ((i:Nat):Int))])] [.box 45 [.c (.str String_1.rel),.c (.sl 9 1 (A0 Zx String_1.args))],.row 166 2 (A0 Z4 a) 2] st) [] [16,544] (by decide) ?_ ?_ ?_
 simp only[*,go_sem,seval]
 rintro _ _ a ⟨sl,ob,n⟩ _ b d o h e
 simp only[go_sem,seval,Zc] at d
 obtain ⟨⟨_,_,q,_,_⟩,_,_,hn⟩:=d
 subst hn
 have t:=WF.slotL o q (j:=0) rfl
 have:=ZA b
 have:=ZC b
 have:=Zj (ZB b) t
 simp only[*,go_sem,seval]
 refine ZMH h fun _ u h=>Zd (X4 u) ?_
 simp only[*,go_sem,seval]
 refine Ze h (fun _ h=>?_) fun _ h=>?_<;>try simp only[*,go_sem,seval]
 obtain ⟨_,_,_,v,h⟩:=ZbQ h
 simp only[A2] at v
 simp only[*,go_sem,seval]
 refine Ze h (fun _ h=>?_) fun _ h=>?_<;>try simp only[*,go_sem,seval]
 refine ⟨_,[],[0,1],(A1 h).symm,by decide,?_⟩
 simp only[*,go_sem,seval]
 replace h:=Zn h e
 cases h
 simp only[*,go_sem,seval]
 obtain ⟨_,_,_,w,h⟩:=ZbQ h
 simp only[A2] at w
 simp only[*,go_sem,seval]
 refine ZMH h fun _ x h=>Zd (Zq8 x) ?_
 simp only[*,go_sem,seval]
 refine Ze h (fun _ h=>?_) fun _ h=>?_<;>try simp only[*,go_sem,seval]
 refine ⟨_,[],[0,242],(A1 h).symm,by decide,?_⟩
 simp only[*,go_sem,seval]
 replace h:=Zn h e
 cases h
 simp only[*,go_sem,seval]
 rintro a ⟨sl,ob,n⟩ f _ h
 simp only[go_sem,seval,Zc] at f
 obtain ⟨⟨_,_,_,_,_⟩,_,_,hn⟩:=f
 subst hn
 have:=Zy (append_0.args.length)
 iterate 5 (cases h;simp only[*,go_sem,seval])
theorem Zo5 {a:(List Zb)} {f_1:Zb} {r:(List Zb)} (h:XW a f_1=some r):Zk prog J0 86 [(false,[.sl 45 2 (A0 Zl a)]),(true,Zl f_1)] [(false,[(false,.sl 45 2 (A0 Zl r))])]:=by
 refine fnk func86 rfl ?_
 unfold XW at h
 simp only[fnS,f86,Zm,go_sem,seval]
 refine Zi h (fun i s st=>match s with | (b,d)=>IV [(3,.bp 0 0),(5,.p false [.row 1]),(6,.p false [.c (.bool d)]),(9,.p false [.c (.sl 45 2 (A0 Zl a))]),(10,.p false [.c (.int .i64 ((a.length:Nat):Int))]),(11,.p false [.c (.int .i64 ((i:Nat):Int))])] [.box 45 [.c (.str f_1.rel),.c (.sl 9 1 (A0 Zx f_1.args))],.row 45 2 (A0 Zl b) 2] st) [(false,5,0)] [0,112] (by decide) ?_ ?_ ?_
 simp only[*,go_sem,seval]
 rintro _ _ ⟨b,d⟩ ⟨sl,ob,n⟩ _ e f l h _
 simp only[go_sem,seval,Zc] at f
 obtain ⟨⟨_,_,_,m,_,_⟩,_,_,hn⟩:=f
 subst hn
 have o:=WF.slotL l m (j:=0) rfl
 have:=ZA e
 have:=ZC e
 have:=Zj (ZB e) o
 simp only[*,go_sem,seval]
 refine Ze h (fun _ h=>?_) fun _ h=>?_<;>try simp only[*,go_sem,seval]
 refine ZMH h fun _ q h=>Zd (YO q) ?_
 obtain ⟨t,h⟩:=Zq h
 try simp only[Nat.reduceLeDiff] at t
 simp only[*,go_sem,seval]
 refine ⟨_,[],[0,274],(A1 h).symm,by decide,?_⟩
 simp only[*,go_sem,seval]
 refine ZMH h fun _ u h=>Zd (Zd7 u) ?_
 simp only[*,go_sem,seval]
 refine Ze h (fun _ h=>?_) fun _ h=>?_<;>try simp only[*,go_sem,seval]
 refine ZMH h fun _ v h=>Zd (YO v) ?_
 obtain ⟨w,h⟩:=Zq h
 try simp only[Nat.reduceLeDiff] at w
 simp only[*,go_sem,seval]
 refine ZMH h fun _ x h=>Zd (YO x) ?_
 obtain ⟨y,h⟩:=Zq h
 try simp only[Nat.reduceLeDiff] at y
 simp only[*,go_sem,seval]
 refine ⟨_,[],[0,386],(A1 h).symm,by decide,?_⟩
 simp only[*,go_sem,seval]
 refine ZMH h fun _ z h=>Zd (YO z) ?_
 obtain ⟨A,h⟩:=Zq h
 try simp only[Nat.reduceLeDiff] at A
 simp only[*,go_sem,seval]
 refine ⟨_,[],[0,274],(A1 h).symm,by decide,?_⟩
 simp only[*,go_sem,seval]
 rintro ⟨b,d⟩ ⟨sl,ob,n⟩ g _ h
 simp only[go_sem,seval,Zc] at g
 obtain ⟨⟨_,_,_,_,_,_⟩,_,_,hn⟩:=g
 subst hn
 have:=Zy (a.length)
 simp only[*,go_sem,seval]
 refine Ze h (fun _ h=>?_) fun _ h=>?_<;>try simp only[*,go_sem,seval]
 cases h
 simp only[*,go_sem,seval]
 refine ZMH h fun _ B h=>Zd (YO B) ?_
 obtain ⟨C,h⟩:=Zq h
 try simp only[Nat.reduceLeDiff] at C
 cases h
 simp only[*,go_sem,seval]
end
section
set_option linter.unusedSimpArgs false
set_option linter.unusedVariables false
set_option maxRecDepth 1000000
set_option maxHeartbeats 4000000
theorem Zem {x_0:Zt} {r:Bool} (h:Zcn x_0=some r):Zk prog J0 220 [(true,ZK x_0)] [(false,[(false,.bool r)])]:=by
 refine fnk func220 rfl ?_
 unfold Zcn at h
 have a:Z9 ⟨#[]⟩=true:=by decide
 simp only[fnS,f220,Zm,go_sem,seval,a]
 refine Ze h (fun _ h=>?_) fun _ h=>?_<;>try simp only[*,go_sem,seval]
 refine ZMH h fun _ b h=>Zd (Xi b) ?_
 simp only[*,go_sem,seval]
 iterate 2 refine Ze h (fun _ h=>?_) fun _ h=>?_<;>try simp only[*,go_sem,seval]
 iterate 3 (cases h;simp only[*,go_sem,seval])
 refine Ze h (fun _ h=>?_) fun _ h=>?_<;>try simp only[*,go_sem,seval]
 refine ZMH h fun _ c h=>Zd (Xi c) ?_
 simp only[*,go_sem,seval]
 iterate 2 refine Ze h (fun _ h=>?_) fun _ h=>?_<;>try simp only[*,go_sem,seval]
 iterate 3 (cases h;simp only[*,go_sem,seval])
 iterate 3 refine Ze h (fun _ h=>?_) fun _ h=>?_<;>try simp only[*,go_sem,seval]
 refine ZMH h fun _ d h=>Zd (QY d) ?_
 simp only[*,go_sem,seval]
 refine Ze h (fun _ h=>?_) fun _ h=>?_<;>try simp only[*,go_sem,seval]
 refine ZMH h fun _ e h=>Zd (QY e) ?_
 iterate 4 (cases h;simp only[*,go_sem,seval])
 iterate 3 refine Ze h (fun _ h=>?_) fun _ h=>?_<;>try simp only[*,go_sem,seval]
 refine ZMH h fun _ f h=>Zd (QY f) ?_
 simp only[*,go_sem,seval]
 refine Ze h (fun _ h=>?_) fun _ h=>?_<;>try simp only[*,go_sem,seval]
 refine ZMH h fun _ g h=>Zd (QY g) ?_
 iterate 4 (cases h;simp only[*,go_sem,seval])
 iterate 3 refine Ze h (fun _ h=>?_) fun _ h=>?_<;>try simp only[*,go_sem,seval]
 refine ZMH h fun _ i h=>Zd (QY i) ?_
 simp only[*,go_sem,seval]
 refine Ze h (fun _ h=>?_) fun _ h=>?_<;>try simp only[*,go_sem,seval]
 refine ZMH h fun _ j h=>Zd (QY j) ?_
 iterate 5 (cases h;simp only[*,go_sem,seval])
theorem Ze4 {r_0:Zg} {i_1:Int} {v_2:ByteArray} {r:Bool} (h:XK r_0 i_1 v_2=some r):Zk prog J0 224 [(true,ZF r_0),(false,[.int .i64 i_1]),(false,[.str v_2])] [(false,[(false,.bool r)])]:=by
 refine fnk func224 rfl ?_
 unfold XK at h
 simp only[fnS,f224,Zm,go_sem,seval]
 refine Zi h (fun i _ st=>IV [(1,.p false [.c (.int .i64 i_1)]),(2,.p false [.c (.str v_2)]),(3,.bp 0 0),(7,.p false [.c (.int .i64 ((i:Nat):Int))])] [.box 42 [.c (.str r_0.name),.c (.int .i64 r_0.priority),.c (.sl 173 5 (A0 ZK r_0.cond)),.c (.sl 50 3 (A0 ZG r_0.thn))]] st) [] [0] (by decide) ?_ ?_ ?_
 simp only[*,go_sem,seval]
 rintro _ _ ⟨⟩ ⟨sl,ob,n⟩ _ a d k h l
 simp only[go_sem,seval,Zc] at d
 obtain ⟨⟨_,_,_,_⟩,m,hn⟩:=d
 subst hn
 have o:=WF.boxL k m (j:=2) rfl
 have:=ZA a
 have:=ZC a
 have:=Zj (ZB a) o
 simp only[*,go_sem,seval]
 refine Ze h (fun _ h=>?_) fun _ h=>?_<;>try simp only[*,go_sem,seval]
 refine ZMH h fun _ q h=>Zd (Zas q) ?_
 simp only[*,go_sem,seval]
 refine ZMH h fun _ t h=>Zd (Yz t) ?_
 simp only[*,go_sem,seval]
 refine Ze h (fun _ h=>?_) fun _ h=>?_<;>try simp only[*,go_sem,seval]
 replace h:=Zn h l
 cases h
 simp only[*,go_sem,seval]
 refine ⟨_,[],[0],(A1 h).symm,by decide,?_⟩
 simp only[*,go_sem,seval]
 refine ⟨_,[],[0],(A1 h).symm,by decide,?_⟩
 simp only[*,go_sem,seval]
 rintro ⟨⟩ ⟨sl,ob,n⟩ e _ h
 simp only[go_sem,seval,Zc] at e
 obtain ⟨⟨_,_,_,_⟩,_,hn⟩:=e
 subst hn
 have:=Zy (r_0.cond.length)
 simp only[*,go_sem,seval]
 refine Zi h (fun i _ st=>IV [(2,.p false [.c (.str v_2)]),(3,.bp 0 0),(8,.p false [.c (.int .i64 ((i:Nat):Int))])] [.box 42 [.c (.str r_0.name),.c (.int .i64 r_0.priority),.c (.sl 173 5 (A0 ZK r_0.cond)),.c (.sl 50 3 (A0 ZG r_0.thn))]] st) [] [0] (by decide) ?_ ?_ ?_
 simp only[*,go_sem,seval]
 rintro _ _ ⟨⟩ ⟨sl,ob,n⟩ _ b f u h v
 simp only[go_sem,seval,Zc] at f
 obtain ⟨⟨_,_,_⟩,w,hn⟩:=f
 subst hn
 have x:=WF.boxL u w (j:=3) rfl
 have:=ZA b
 have:=ZC b
 have:=Zj (ZB b) x
 simp only[*,go_sem,seval]
 refine ZMH h fun _ y h=>Zd (Zcw y) ?_
 simp only[*,go_sem,seval]
 refine ZMH h fun _ z h=>Zd (Yz z) ?_
 simp only[*,go_sem,seval]
 refine Ze h (fun _ h=>?_) fun _ h=>?_<;>try simp only[*,go_sem,seval]
 replace h:=Zn h v
 cases h
 simp only[*,go_sem,seval]
 refine ⟨_,[],[0],(A1 h).symm,by decide,?_⟩
 simp only[*,go_sem,seval]
 rintro ⟨⟩ ⟨sl,ob,n⟩ g _ h
 simp only[go_sem,seval,Zc] at g
 obtain ⟨⟨_,_,_⟩,_,hn⟩:=g
 subst hn
 have:=Zy (r_0.thn.length)
 cases h
 simp only[*,go_sem,seval]
theorem Znb {a_0:Zz} {r:Bool} (h:Zdd a_0=some r):Zk prog J0 225 [(true,ZG a_0)] [(false,[(false,.bool r)])]:=by
 refine fnk func225 rfl ?_
 unfold Zdd at h
 have a:Z9 ⟨#[]⟩=true:=by decide
 simp only[fnS,f225,Zm,go_sem,seval,a]
 refine Ze h (fun _ h=>?_) fun _ h=>?_<;>try simp only[*,go_sem,seval]
 refine ZMH h fun _ b h=>Zd (Xi b) ?_
 cases h
 simp only[*,go_sem,seval]
 refine Ze h (fun _ h=>?_) fun _ h=>?_<;>try simp only[*,go_sem,seval]
 refine ZMH h fun _ c h=>Zd (Xi c) ?_
 cases h
 simp only[*,go_sem,seval]
 iterate 2 refine Ze h (fun _ h=>?_) fun _ h=>?_<;>try simp only[*,go_sem,seval]
 iterate 3 (cases h;simp only[*,go_sem,seval])
theorem ZmN {r_0:Zg} {r:(List ByteArray)} (h:ZdB r_0=some r):Zk prog J0 227 [(true,ZF r_0)] [(false,[(false,.sl 9 1 (A0 Zx r))])]:=by
 refine fnk func227 rfl ?_
 unfold ZdB at h
 simp only[fnS,f227,Zm,go_sem,seval]
 refine Zi h (fun i a st=>IV [(1,.bp 0 0),(3,.p false [.row 1]),(4,.p false [.c (.int .i64 ((i:Nat):Int))])] [.box 42 [.c (.str r_0.name),.c (.int .i64 r_0.priority),.c (.sl 173 5 (A0 ZK r_0.cond)),.c (.sl 50 3 (A0 ZG r_0.thn))],.row 9 1 (A0 Zx a) 2] st) [] [0,32] (by decide) ?_ ?_ ?_
 simp only[*,go_sem,seval]
 rintro A _ a ⟨sl,ob,n⟩ _ b m B h _
 simp only[go_sem,seval,Zc] at m
 obtain ⟨⟨_,_,_⟩,C,_,hn⟩:=m
 subst hn
 have D:=WF.boxL B C (j:=2) rfl
 have:=ZA b
 have:=ZC b
 have:=Zj (ZB b) D
 simp only[*,go_sem,seval]
 refine ZMH h fun o E h=>Zd (Zas E) ?_
 simp only[*,go_sem,seval]
 refine Zi h (fun i d st=>IV [(1,.bp 0 0),(3,.p false [.row 1]),(4,.p false [.c (.int .i64 ((A:Nat):Int))]),(5,.p false [.row 2]),(6,.p false [.c (.int .i64 ((i:Nat):Int))])] [.box 42 [.c (.str r_0.name),.c (.int .i64 r_0.priority),.c (.sl 173 5 (A0 ZK r_0.cond)),.c (.sl 50 3 (A0 ZG r_0.thn))],.row 9 1 (A0 Zx d) 2,.row 9 1 (A0 Zx o) 2] st) [] [0,1,162] (by decide) ?_ ?_ ?_
 simp only[*,go_sem,seval]
 rintro _ _ d ⟨sl,ob,n⟩ _ e q F h _
 simp only[go_sem,seval,Zc] at q
 obtain ⟨⟨_,_,_,_,_⟩,_,_,G,hn⟩:=q
 subst hn
 have H:=WF.rowL F G
 have:=ZA e
 have:=ZC e
 have:=Zj (ZB e) H
 simp only[*,go_sem,seval]
 refine ZMH h fun _ I h=>Zd (Xg I) ?_
 simp only[*,go_sem,seval]
 refine ⟨_,[],[0,147,2],(A1 h).symm,by decide,?_⟩
 simp only[*,go_sem,seval]
 rintro d ⟨sl,ob,n⟩ t _ h
 simp only[go_sem,seval,Zc] at t
 obtain ⟨⟨_,_,_,_,_⟩,_,_,_,hn⟩:=t
 subst hn
 have:=Zy (o.length)
 simp only[*,go_sem,seval]
 refine ⟨_,[],[0,1],(A1 h).symm,by decide,?_⟩
 simp only[*,go_sem,seval]
 rintro a ⟨sl,ob,n⟩ u _ h
 simp only[go_sem,seval,Zc] at u
 obtain ⟨⟨_,_,_⟩,_,_,hn⟩:=u
 subst hn
 have:=Zy (r_0.cond.length)
 simp only[*,go_sem,seval]
 refine Zi h (fun i f st=>IV [(1,.bp 0 0),(3,.p false [.row 1]),(7,.p false [.c (.int .i64 ((i:Nat):Int))])] [.box 42 [.c (.str r_0.name),.c (.int .i64 r_0.priority),.c (.sl 173 5 (A0 ZK r_0.cond)),.c (.sl 50 3 (A0 ZG r_0.thn))],.row 9 1 (A0 Zx f) 2] st) [] [0,1] (by decide) ?_ ?_ ?_
 simp only[*,go_sem,seval]
 rintro J _ f ⟨sl,ob,n⟩ _ g v K h _
 simp only[go_sem,seval,Zc] at v
 obtain ⟨⟨_,_,_⟩,L,_,hn⟩:=v
 subst hn
 have M:=WF.boxL K L (j:=3) rfl
 have:=ZA g
 have:=ZC g
 have:=Zj (ZB g) M
 simp only[*,go_sem,seval]
 refine ZMH h fun w N h=>Zd (Zcw N) ?_
 simp only[*,go_sem,seval]
 refine Zi h (fun i k st=>IV [(1,.bp 0 0),(3,.p false [.row 1]),(7,.p false [.c (.int .i64 ((J:Nat):Int))]),(8,.p false [.row 2]),(9,.p false [.c (.int .i64 ((i:Nat):Int))])] [.box 42 [.c (.str r_0.name),.c (.int .i64 r_0.priority),.c (.sl 173 5 (A0 ZK r_0.cond)),.c (.sl 50 3 (A0 ZG r_0.thn))],.row 9 1 (A0 Zx k) 2,.row 9 1 (A0 Zx w) 2] st) [] [0,1,178] (by decide) ?_ ?_ ?_
 simp only[*,go_sem,seval]
 rintro _ _ k ⟨sl,ob,n⟩ _ l x O h _
 simp only[go_sem,seval,Zc] at x
 obtain ⟨⟨_,_,_,_,_⟩,_,_,P,hn⟩:=x
 subst hn
 have Q:=WF.rowL O P
 have:=ZA l
 have:=ZC l
 have:=Zj (ZB l) Q
 simp only[*,go_sem,seval]
 refine ZMH h fun _ R h=>Zd (Xg R) ?_
 simp only[*,go_sem,seval]
 refine ⟨_,[],[0,147,2],(A1 h).symm,by decide,?_⟩
 simp only[*,go_sem,seval]
 rintro k ⟨sl,ob,n⟩ y _ h
 simp only[go_sem,seval,Zc] at y
 obtain ⟨⟨_,_,_,_,_⟩,_,_,_,hn⟩:=y
 subst hn
 have:=Zy (w.length)
 simp only[*,go_sem,seval]
 refine ⟨_,[],[0,1],(A1 h).symm,by decide,?_⟩
 simp only[*,go_sem,seval]
 rintro f ⟨sl,ob,n⟩ z _ h
 simp only[go_sem,seval,Zc] at z
 obtain ⟨⟨_,_,_⟩,_,_,hn⟩:=z
 subst hn
 have:=Zy (r_0.thn.length)
 cases h
 simp only[*,go_sem,seval]
theorem XD {s_0:ByteArray} {r:(Zv × Bool)} (h:Yl s_0=some r):Zk prog J0 319 [(false,[.str s_0])] [(true,[(false,.str r.1.rel),(false,.sl 9 1 (A0 Zx r.1.args))]),(false,[(false,.bool r.2)])]:=by
 refine fnk func319 rfl ?_
 unfold Yl at h
 simp only[fnS,f319,Zm,go_sem,seval]
 refine ZMH h fun _ a h=>Zd (ZoF a) ?_
 simp only[*,go_sem,seval]
 refine Ze h (fun _ h=>?_) fun _ h=>?_<;>try simp only[*,go_sem,seval]
 refine ZMH h fun _ b h=>Zd (Xi b) ?_
 simp only[*,go_sem,seval]
 refine Ze h (fun _ h=>?_) fun _ h=>?_<;>try simp only[*,go_sem,seval]
 iterate 3 (cases h;simp only[*,go_sem,seval])
theorem ZoJ {c_0:ZJ} {most_1:Int} {r:((List Zb) × ZJ)} (h:ZeM c_0 most_1=some r):Zbx prog J0 JF0 60 (.box 152 (Zbj c_0)) [(false,[.int .i64 most_1])] [(false,[(false,.sl 45 2 (A0 Zl r.1))])] (.box 152 (Zbj r.2)):=by
 refine fnh func60 rfl ?_
 unfold ZeM at h
 have j:Z9 ⟨#[111,110]⟩=true:=by decide
 have k:Z9 ⟨#[112]⟩=true:=by decide
 have l:Z9 ⟨#[113]⟩=true:=by decide
 have m:Z9 ⟨#[49]⟩=true:=by decide
 have o:Z9 ⟨#[50]⟩=true:=by decide
 have q:Z9 ⟨#[97,116]⟩=true:=by decide
 have t:Z9 ⟨#[97]⟩=true:=by decide
 have u:Z9 ⟨#[98]⟩=true:=by decide
 simp only[fnH,f60,Zdh,Zdg,Xp,go_sem,seval,j,k,l,m,o,q,t,u]
 obtain ⟨_,v,h⟩:=Za h
 refine QL (Q7 v) ?_
 simp only[*,go_sem,seval]
 refine Yo h (fun s st=>match s with | (b,d,e,f,g)=>IV [(0,.bp 0 0),(5,.p false [.row 1]),(6,.p false [.c (.int .i64 g)])] [.box 152 [.c (.sl 5 1 (A0 ZeK b)),.c (.int .i64 d),.c (.int .i64 e)],.row 45 2 (A0 Zl f) 2] st) [] [0,17] (by decide) ?_ ?_
 simp only[*,go_sem,seval]
 rintro ⟨b,d,e,f,g⟩ ⟨sl,ob,n⟩ _ i _ h w
 simp only[go_sem,seval,Zc] at i
 obtain ⟨⟨_,_,_⟩,_,_,hn⟩:=i
 subst hn
 simp only[*,go_sem,seval]
 refine Ze h (fun _ h=>?_) fun _ h=>?_<;>try simp only[*,go_sem,seval]
 obtain ⟨_,x,h⟩:=Za h
 refine QL (Zk5 x) ?_
 simp only[*,go_sem,seval]
 obtain ⟨_,y,h⟩:=Za h
 refine QL (Zk5 y) ?_
 simp only[*,go_sem,seval]
 obtain ⟨_,z,h⟩:=Za h
 refine QL (Q7 z) ?_
 simp only[*,go_sem,seval]
 refine Ze h (fun _ h=>?_) fun _ h=>?_<;>try simp only[*,go_sem,seval]
 refine ZMH h fun _ A h=>Zd (Zdw A) ?_
 simp only[*,go_sem,seval]
 refine ⟨_,[],[0,290],(A1 h).symm,by decide,?_⟩
 simp only[*,go_sem,seval]
 refine Ze h (fun _ h=>?_) fun _ h=>?_<;>try simp only[*,go_sem,seval]
 refine ZMH h fun _ B h=>Zd (Zdw B) ?_
 simp only[*,go_sem,seval]
 refine ⟨_,[],[0,338],(A1 h).symm,by decide,?_⟩
 simp only[*,go_sem,seval]
 refine Ze h (fun _ h=>?_) fun _ h=>?_<;>try simp only[*,go_sem,seval]
 refine ZMH h fun _ C h=>Zd (Zdw C) ?_
 simp only[*,go_sem,seval]
 refine ⟨_,[],[0,354],(A1 h).symm,by decide,?_⟩
 simp only[*,go_sem,seval]
 refine ZMH h fun _ D h=>Zd (Zdw D) ?_
 simp only[*,go_sem,seval]
 refine ⟨_,[],[0,370],(A1 h).symm,by decide,?_⟩
 simp only[*,go_sem,seval]
 replace h:=Zn h w
 cases h
 simp only[*,go_sem,seval]
theorem ZhQ {r_0:Zg} {k_1:Int} {r:Bool} (h:ZbT r_0 k_1=some r):Zk prog J0 197 [(true,ZF r_0),(false,[.int .i64 k_1])] [(false,[(false,.bool r)])]:=by
 refine fnk func197 rfl ?_
 unfold ZbT at h
 simp only[fnS,f197,Zm,go_sem,seval]
 obtain ⟨a,_,_,_,h⟩:=ZbQ h
 simp only[*,go_sem,seval]
 refine ZMH h fun j k h=>Zd (ZdH k) ?_
 simp only[*,go_sem,seval]
 refine ZMH h fun b l h=>Zd (Zb9 l) ?_
 simp only[*,go_sem,seval]
 refine Zi h (fun i _ st=>IV [(1,.p false [.c (.int .i64 k_1)]),(2,.bp 0 0),(5,.bp 1 0),(6,.p false [.row 2]),(18,.p false [.row 3]),(19,.p false [.c (.int .i64 ((b.length:Nat):Int))]),(20,.p false [.c (.int .i64 ((i:Nat):Int))])] [.box 42 [.c (.str r_0.name),.c (.int .i64 r_0.priority),.c (.sl 173 5 (A0 ZK r_0.cond)),.c (.sl 50 3 (A0 ZG r_0.thn))],.box 173 [.c (.int .i64 a.kind),.c (.str a.pattern.rel),.c (.sl 9 1 (A0 Zx a.pattern.args)),.c (.str a.left),.c (.str a.right)],.row 9 1 (A0 Zx j) 2,.row 9 1 (A0 Zx b) 2] st) [] [0,112,176,224] (by decide) ?_ ?_ ?_
 simp only[*,go_sem,seval]
 rintro _ _ ⟨⟩ ⟨sl,ob,n⟩ _ d e m h f
 simp only[go_sem,seval,Zc] at e
 obtain ⟨⟨_,_,_,_,_,_,_⟩,_,_,_,o,hn⟩:=e
 subst hn
 have q:=WF.rowL m o
 have:=ZA d
 have:=ZC d
 have:=Zj (ZB d) q
 simp only[*,go_sem,seval]
 refine Ze h (fun _ h=>?_) fun _ h=>?_<;>try simp only[*,go_sem,seval]
 refine ⟨_,[],[0,1,2,3],(A1 h).symm,by decide,?_⟩
 simp only[*,go_sem,seval]
 refine ZMH h fun _ t h=>Zd (Zac t) ?_
 simp only[*,go_sem,seval]
 refine Ze h (fun _ h=>?_) fun _ h=>?_<;>try simp only[*,go_sem,seval]
 refine ⟨_,[],[0,1,2,3],(A1 h).symm,by decide,?_⟩
 simp only[*,go_sem,seval]
 refine Ze h (fun _ h=>?_) fun _ h=>?_<;>try simp only[*,go_sem,seval]
 replace h:=Zn h f
 cases h
 simp only[*,go_sem,seval]
 refine ZMH h fun _ u h=>Zd (Zgm u) ?_
 simp only[*,go_sem,seval]
 refine Ze h (fun _ h=>?_) fun _ h=>?_<;>try simp only[*,go_sem,seval]
 replace h:=Zn h f
 cases h
 simp only[*,go_sem,seval]
 refine ⟨_,[],[0,1,2,3],(A1 h).symm,by decide,?_⟩
 simp only[*,go_sem,seval]
 rintro ⟨⟩ ⟨sl,ob,n⟩ g _ h
 simp only[go_sem,seval,Zc] at g
 obtain ⟨⟨_,_,_,_,_,_,_⟩,_,_,_,_,hn⟩:=g
 subst hn
 have:=Zy (b.length)
 cases h
 simp only[*,go_sem,seval]
theorem ZdD {p_0:Zv} {b_1:(List Zs)} {facts_2:(List Zb)} {r:(List Zb)} (h:Xt p_0 b_1 facts_2=some r):Zk prog J0 213 [(true,QA p_0),(false,[.sl 166 2 (A0 Z4 b_1)]),(false,[.sl 45 2 (A0 Zl facts_2)])] [(false,[(false,.sl 45 2 (A0 Zl r))])]:=by
 refine fnk func213 rfl ?_
 unfold Xt at h
 simp only[fnS,f213,Zm,go_sem,seval]
 refine Zi h (fun i a st=>IV [(1,.p false [.c (.sl 166 2 (A0 Z4 b_1))]),(3,.bp 0 0),(7,.p false [.row 1]),(12,.p false [.c (.sl 45 2 (A0 Zl facts_2))]),(13,.p false [.c (.int .i64 ((facts_2.length:Nat):Int))]),(14,.p false [.c (.int .i64 ((i:Nat):Int))])] [.box 48 [.c (.str p_0.rel),.c (.sl 9 1 (A0 Zx p_0.args))],.row 45 2 (A0 Zl a) 2] st) [(false,7,0)] [0,96] (by decide) ?_ ?_ ?_
 simp only[*,go_sem,seval]
 rintro _ _ a ⟨sl,ob,n⟩ _ b d f h _
 simp only[go_sem,seval,Zc] at d
 obtain ⟨⟨_,_,_,g,_,_⟩,_,_,hn⟩:=d
 subst hn
 have k:=WF.slotL f g (j:=0) rfl
 have:=ZA b
 have:=ZC b
 have:=Zj (ZB b) k
 simp only[*,go_sem,seval]
 refine ZMH h fun _ l h=>Zd (ZgE l) ?_
 simp only[*,go_sem,seval]
 refine Ze h (fun _ h=>?_) fun _ h=>?_<;>try simp only[*,go_sem,seval]
 refine ZMH h fun _ m h=>Zd (YO m) ?_
 obtain ⟨o,h⟩:=Zq h
 try simp only[Nat.reduceLeDiff] at o
 simp only[*,go_sem,seval]
 refine ⟨_,[],[0,306],(A1 h).symm,by decide,?_⟩
 simp only[*,go_sem,seval]
 refine ⟨_,[],[0,1],(A1 h).symm,by decide,?_⟩
 simp only[*,go_sem,seval]
 rintro a ⟨sl,ob,n⟩ e _ h
 simp only[go_sem,seval,Zc] at e
 obtain ⟨⟨_,_,_,_,_,_⟩,_,_,hn⟩:=e
 subst hn
 have:=Zy (facts_2.length)
 cases h
 simp only[*,go_sem,seval]
theorem Zrq {x_0:Zt} {r:Bool} (h:Zi1 x_0=some r):Zk prog J0 269 [(true,ZK x_0)] [(false,[(false,.bool r)])]:=by
 refine fnk func269 rfl ?_
 unfold Zi1 at h
 simp only[fnS,f269,Zm,go_sem,seval]
 refine ZMH h fun _ a h=>Zd (Zgc a) ?_
 simp only[*,go_sem,seval]
 refine Ze h (fun _ h=>?_) fun _ h=>?_<;>try simp only[*,go_sem,seval]
 iterate 2 (cases h;simp only[*,go_sem,seval])
theorem Zb8 {p_0:Zv} {b_1:(List Zs)} {r:(Zb × Bool)} (h:Yy p_0 b_1=some r):Zk prog J0 20 [(true,QA p_0),(false,[.sl 166 2 (A0 Z4 b_1)])] [(true,[(false,.str r.1.rel),(false,.sl 9 1 (A0 Zx r.1.args))]),(false,[(false,.bool r.2)])]:=by
 refine fnk func20 rfl ?_
 unfold Yy at h
 simp only[fnS,f20,Zm,go_sem,seval]
 refine ZMH h fun _ f h=>Zd (Xi f) ?_
 simp only[*,go_sem,seval]
 refine Ze h (fun _ h=>?_) fun _ h=>?_<;>try simp only[*,go_sem,seval]
 refine ZMH h fun _ g h=>Zd (QX g) ?_
 simp only[*,go_sem,seval]
 refine Ze h (fun _ h=>?_) fun _ h=>?_<;>try simp only[*,go_sem,seval]
 refine Zi h (fun i a st=>IV [(1,.p false [.c (.sl 166 2 (A0 Z4 b_1))]),(2,.bp 0 0),(4,.bp 1 0),(6,.bp 2 0),(7,.p false [.c (.int .i64 ((i:Nat):Int))])] [.box 48 [.c (.str p_0.rel),.c (.sl 9 1 (A0 Zx p_0.args))],.box 45 [.c (.str ⟨#[]⟩),.nil 9 1],.box 45 [.c (.str p_0.rel),.row 3],.row 9 1 (A0 Zx a) 2] st) [(true,224,1)] [0,16,224,272] (by decide) ?_ ?_ ?_
 simp only[*,go_sem,seval]
 rintro _ _ a ⟨sl,ob,n⟩ _ b d k h l
 simp only[go_sem,seval,Zc] at d
 obtain ⟨⟨_,_,_,_,_⟩,m,_,_,_,hn⟩:=d
 subst hn
 have o:=WF.boxL k m (j:=1) rfl
 have:=ZA b
 have:=ZC b
 have:=Zj (ZB b) o
 simp only[*,go_sem,seval]
 refine ZMH h fun _ q h=>Zd (ZcO q) ?_
 simp only[*,go_sem,seval]
 refine Ze h (fun _ h=>?_) fun _ h=>?_<;>try simp only[*,go_sem,seval]
 obtain ⟨t,h⟩:=Zq h
 try simp only[Nat.reduceLeDiff] at t
 simp only[*,go_sem,seval]
 refine ⟨_,[],[0,1,2,372],(A1 h).symm,by decide,?_⟩
 simp only[*,go_sem,seval]
 replace h:=Zn h l
 cases h
 simp only[*,go_sem,seval]
 rintro a ⟨sl,ob,n⟩ e _ h
 simp only[go_sem,seval,Zc] at e
 obtain ⟨⟨_,_,_,_,_⟩,_,_,_,_,hn⟩:=e
 subst hn
 have:=Zy (p_0.args.length)
 iterate 3 (cases h;simp only[*,go_sem,seval])
theorem Zf2 {append_0:Zv} {String_1:Zb} {a_2:(List Zs)} {r:((List Zs) × Bool)} (h:Za3 append_0 String_1 a_2=some r):Zk prog J0 280 [(true,QA append_0),(true,Zl String_1),(false,[.sl 166 2 (A0 Z4 a_2)])] [(false,[(false,.sl 166 2 (A0 Z4 r.1))]),(false,[(false,.bool r.2)])]:=by
 refine fnk func280 rfl ?_
 unfold Za3 at h
 simp only[fnS,f280,Zm,go_sem,seval]
 refine ZMH h fun _ g h=>Zd (Xi g) ?_
 simp only[*,go_sem,seval]
 refine Ze h (fun _ h=>?_) fun _ h=>?_<;>try simp only[*,go_sem,seval]
 refine ZMH h fun _ k h=>Zd (Zj9 k) ?_
 simp only[*,go_sem,seval]
 refine Ze h (fun _ h=>?_) fun _ h=>?_<;>try simp only[*,go_sem,seval]
 refine ZMH h fun _ l h=>Zd (QX l) ?_
 simp only[*,go_sem,seval]
 iterate 3 refine Ze h (fun _ h=>?_) fun _ h=>?_<;>try simp only[*,go_sem,seval]
 cases h
 simp only[*,go_sem,seval]
 refine ZMH h fun _ m h=>Zd (ZgL m) ?_
 simp only[*,go_sem,seval]
 refine Zi h (fun i a st=>IV [(3,.bp 0 0),(4,.bp 1 0),(8,.p false [.row 2]),(9,.p false [.c (.int .i64 ((i:Nat):Int))])] [.box 48 [.c (.str append_0.rel),.c (.sl 9 1 (A0 Zx append_0.args))],.box 45 [.c (.str String_1.rel),.c (.sl 9 1 (A0 Zx String_1.args))],.row 166 2 (A0 Z4 a) 2] st) [] [0,16,544] (by decide) ?_ ?_ ?_
 simp only[*,go_sem,seval]
 rintro _ _ a ⟨sl,ob,n⟩ _ b d o h e
 simp only[go_sem,seval,Zc] at d
 obtain ⟨⟨_,_,_,_⟩,q,_,_,hn⟩:=d
 subst hn
 have t:=WF.boxL o q (j:=1) rfl
 have:=ZA b
 have:=ZC b
 have:=Zj (ZB b) t
 simp only[*,go_sem,seval]
 refine ZMH h fun _ u h=>Zd (X0 u) ?_
 simp only[*,go_sem,seval]
 refine Ze h (fun _ h=>?_) fun _ h=>?_<;>try simp only[*,go_sem,seval]
 obtain ⟨_,_,_,v,h⟩:=ZbQ h
 simp only[A2] at v
 simp only[*,go_sem,seval]
 refine Ze h (fun _ h=>?_) fun _ h=>?_<;>try simp only[*,go_sem,seval]
 refine ⟨_,[],[0,1,2],(A1 h).symm,by decide,?_⟩
 simp only[*,go_sem,seval]
 replace h:=Zn h e
 cases h
 simp only[*,go_sem,seval]
 obtain ⟨_,_,_,w,h⟩:=ZbQ h
 simp only[A2] at w
 simp only[*,go_sem,seval]
 refine ZMH h fun _ x h=>Zd (ZqF x) ?_
 simp only[*,go_sem,seval]
 refine Ze h (fun _ h=>?_) fun _ h=>?_<;>try simp only[*,go_sem,seval]
 refine ⟨_,[],[0,1,355],(A1 h).symm,by decide,?_⟩
 simp only[*,go_sem,seval]
 replace h:=Zn h e
 cases h
 simp only[*,go_sem,seval]
 rintro a ⟨sl,ob,n⟩ f _ h
 simp only[go_sem,seval,Zc] at f
 obtain ⟨⟨_,_,_,_⟩,_,_,_,hn⟩:=f
 subst hn
 have:=Zy (append_0.args.length)
 iterate 5 (cases h;simp only[*,go_sem,seval])
end
section
set_option linter.unusedSimpArgs false
set_option linter.unusedVariables false
set_option maxRecDepth 1000000
set_option maxHeartbeats 4000000
theorem Znh {b:Zr} {r:(List Int)} (h:ZdF b=some r):Zk prog J0 194 [(true,XY b)] [(false,[(false,.sl 3 1 (A0 ZI r))])]:=by
 refine fnk func194 rfl ?_
 unfold ZdF at h
 simp only[fnS,f194,Zm,go_sem,seval]
 refine ZMH h fun _ z h=>Zd (Zek z) ?_
 simp only[*,go_sem,seval]
 refine Ze h (fun _ h=>?_) fun _ h=>?_<;>try simp only[*,go_sem,seval]
 refine ZMH h fun d A h=>Zd (Zm6 A) ?_
 simp only[*,go_sem,seval]
 refine Yo h (fun s st=>match s with | (l,m)=>IV [(1,.bp 0 0),(3,.p false [.row 1]),(4,.p false [.row 2]),(5,.p false [.c (.int .i64 m)])] [.box 64 [.c (.int .i64 b.nodes),.c (.sl 199 3 (A0 ZE b.reasons))],.row 3 1 (A0 ZI d) 2,.row 3 1 (A0 ZI l) 2] st) [] [0,96,128] (by decide) ?_ ?_
 simp only[*,go_sem,seval]
 rintro ⟨l,m⟩ ⟨sl,ob,n⟩ _ o _ h B
 simp only[go_sem,seval,Zc] at o
 obtain ⟨⟨_,_,_,_⟩,_,_,_,hn⟩:=o
 subst hn
 simp only[*,go_sem,seval]
 refine Ze h (fun _ h=>?_) fun _ h=>?_<;>try simp only[*,go_sem,seval]
 obtain ⟨C,h⟩:=Zq h
 try simp only[Nat.reduceLeDiff] at C
 simp only[*,go_sem,seval]
 refine ⟨_,[],[0,1,99],(A1 h).symm,by decide,?_⟩
 simp only[*,go_sem,seval]
 refine Yo h (fun s st=>match s with | (q,t,e)=>IV [(1,.bp 0 0),(3,.p false [.row 1]),(4,.p false [.row 2]),(6,.p false [.c (.int .i64 t)]),(7,.p false [.c (.int .i64 e)])] [.box 64 [.c (.int .i64 b.nodes),.c (.sl 199 3 (A0 ZE b.reasons))],.row 3 1 (A0 ZI d) 2,.row 3 1 (A0 ZI q) 2] st) [] [0,1,2] (by decide) ?_ ?_
 simp only[*,go_sem,seval]
 rintro ⟨q,t,e⟩ ⟨sl,ob,n⟩ _ u _ h D
 simp only[go_sem,seval,Zc] at u
 obtain ⟨⟨_,_,_,_,_⟩,_,_,_,hn⟩:=u
 subst hn
 simp only[*,go_sem,seval]
 refine Ze h (fun _ h=>?_) fun _ h=>?_<;>try simp only[*,go_sem,seval]
 refine ZMH h fun _ E h=>Zd (ZhT E) ?_
 simp only[*,go_sem,seval]
 refine Yo h (fun s st=>match s with | (v,f,g)=>IV [(1,.bp 0 0),(3,.p false [.row 1]),(4,.p false [.row 2]),(6,.p false [.c (.int .i64 g)]),(7,.p false [.c (.int .i64 e)]),(8,.p false [.row 3])] [.box 64 [.c (.int .i64 b.nodes),.c (.sl 199 3 (A0 ZE b.reasons))],.row 3 1 (A0 ZI d) 2,.row 3 1 (A0 ZI v) 2,.row 3 1 (A0 ZI f) 2] st) [] [0,1,2,147] (by decide) ?_ ?_
 simp only[*,go_sem,seval]
 rintro ⟨v,f,g⟩ ⟨sl,ob,n⟩ _ w _ h F
 simp only[go_sem,seval,Zc] at w
 obtain ⟨⟨_,_,_,_,_,_⟩,_,_,_,_,hn⟩:=w
 subst hn
 simp only[*,go_sem,seval]
 refine Ze h (fun _ h=>?_) fun _ h=>?_<;>try simp only[*,go_sem,seval]
 refine Zi h (fun i j st=>IV [(1,.bp 0 0),(3,.p false [.row 1]),(4,.p false [.row 2]),(6,.p false [.c (.int .i64 g)]),(7,.p false [.c (.int .i64 e)]),(8,.p false [.row 3]),(9,.p false [.c (.int .i64 ((i:Nat):Int))])] [.box 64 [.c (.int .i64 b.nodes),.c (.sl 199 3 (A0 ZE b.reasons))],.row 3 1 (A0 ZI d) 2,.row 3 1 (A0 ZI j) 2,.row 3 1 (A0 ZI f) 2] st) [] [0,1,2,3] (by decide) ?_ ?_ ?_
 simp only[*,go_sem,seval]
 rintro _ _ j ⟨sl,ob,n⟩ _ k x G h _
 simp only[go_sem,seval,Zc] at x
 obtain ⟨⟨_,_,_,_,_,_,_⟩,_,_,_,H,hn⟩:=x
 subst hn
 have I:=WF.rowL G H
 have:=ZA k
 have:=ZC k
 have:=Zj (ZB k) I
 obtain ⟨_,h⟩:=Zq h
 obtain ⟨_,_,h⟩:=Za h
 simp only[*,go_sem,seval]
 refine ⟨_,[],[0,1,2,3],(A1 h).symm,by decide,?_⟩
 simp only[*,go_sem,seval]
 rintro j ⟨sl,ob,n⟩ y _ h
 simp only[go_sem,seval,Zc] at y
 obtain ⟨⟨_,_,_,_,_,_,_⟩,_,_,_,_,hn⟩:=y
 subst hn
 have:=Zy (f.length)
 simp only[*,go_sem,seval]
 refine ZMH h fun _ J h=>Zd (ZhT J) ?_
 simp only[*,go_sem,seval]
 refine ⟨_,[],[0,1,2,196],(A1 h).symm,by decide,?_⟩
 simp only[*,go_sem,seval]
 replace h:=Zn h F
 refine ⟨_,[],[0,1,2],(A1 h).symm,by decide,?_⟩
 simp only[*,go_sem,seval]
 replace h:=Zn h D
 replace h:=Zn h B
 iterate 2 (cases h;simp only[*,go_sem,seval])
theorem ZMS {rules_0:(List Zg)} {rel_1:ByteArray} {r:(List Zg)} (h:ZMI rules_0 rel_1=some r):Zk prog J0 24 [(false,[.sl 42 4 (A0 ZF rules_0)]),(false,[.str rel_1])] [(false,[(false,.sl 42 4 (A0 ZF r))])]:=by
 refine fnk func24 rfl ?_
 unfold ZMI at h
 simp only[fnS,f24,Zm,go_sem,seval]
 obtain ⟨g,q,h⟩:=Za h
 refine ZA1 (Znl q) ?_
 simp only[*,go_sem,seval]
 refine Zi h (fun i a st=>IV [(5,.p false [.row 0]),(6,.p false [.row 1]),(16,.p false [.c (.sl 42 4 (A0 ZF rules_0))]),(17,.p false [.c (.int .i64 ((rules_0.length:Nat):Int))]),(18,.p false [.c (.int .i64 ((i:Nat):Int))])] [.map .str .bool (A0 eSB (Zfn g rel_1 true)),.row 42 4 (A0 ZF a) 2] st) [(false,6,0)] [48,192] (by decide) ?_ ?_ ?_
 simp only[*,go_sem,seval]
 rintro t b a ⟨sl,ob,n⟩ _ d k u h _
 simp only[go_sem,seval,Zc] at k
 obtain ⟨⟨_,_,v,_,_⟩,_,_,hn⟩:=k
 subst hn
 have w:=WF.slotL u v (j:=0) rfl
 have:=ZA d
 have:=ZC d
 have:=Zj (ZB d) w
 simp only[*,go_sem,seval]
 refine ZMH h fun e x h=>Zd (ZhN x) ?_
 simp only[*,go_sem,seval]
 refine Zi h (fun i _ st=>IV [(5,.p false [.row 0]),(6,.p false [.row 1]),(8,.bp 2 0),(16,.p false [.c (.sl 42 4 (A0 ZF rules_0))]),(17,.p false [.c (.int .i64 ((rules_0.length:Nat):Int))]),(18,.p false [.c (.int .i64 ((t:Nat):Int))]),(23,.p false [.row 3]),(24,.p false [.c (.int .i64 ((e.length:Nat):Int))]),(25,.p false [.c (.int .i64 ((i:Nat):Int))])] [.map .str .bool (A0 eSB (Zfn g rel_1 true)),.row 42 4 (A0 ZF a) 2,.box 42 [.c (.str b.name),.c (.int .i64 b.priority),.c (.sl 173 5 (A0 ZK b.cond)),.c (.sl 50 3 (A0 ZG b.thn))],.row 9 1 (A0 Zx e) 2] st) [] [0,1,50,98] (by decide) ?_ ?_ ?_
 simp only[*,go_sem,seval]
 rintro _ _ ⟨⟩ ⟨sl,ob,n⟩ _ f l y h z
 simp only[go_sem,seval,Zc] at l
 obtain ⟨⟨_,_,_,_,_,_,_,_,_⟩,_,_,_,A,hn⟩:=l
 subst hn
 have B:=WF.rowL y A
 have:=ZA f
 have:=ZC f
 have:=Zj (ZB f) B
 simp only[*,go_sem,seval]
 refine Ze h (fun _ h=>?_) fun _ h=>?_<;>try simp only[*,go_sem,seval]
 refine ZMH h fun _ C h=>Zd (ZM2 C) ?_
 obtain ⟨D,h⟩:=Zq h
 try simp only[Nat.reduceLeDiff] at D
 replace h:=Zn h z
 simp only[*,go_sem,seval]
 refine ⟨_,[],[0,180],(A1 h).symm,by decide,?_⟩
 simp only[*,go_sem,seval]
 refine ⟨_,[],[0,1,2,3],(A1 h).symm,by decide,?_⟩
 simp only[*,go_sem,seval]
 rintro ⟨⟩ ⟨sl,ob,n⟩ m _ h
 simp only[go_sem,seval,Zc] at m
 obtain ⟨⟨_,_,_,_,_,_,_,_,_⟩,_,_,_,_,hn⟩:=m
 subst hn
 have:=Zy (e.length)
 simp only[*,go_sem,seval]
 refine ⟨_,[],[0,1],(A1 h).symm,by decide,?_⟩
 simp only[*,go_sem,seval]
 rintro a ⟨sl,ob,n⟩ o _ h
 simp only[go_sem,seval,Zc] at o
 obtain ⟨⟨_,_,_,_,_⟩,_,_,hn⟩:=o
 subst hn
 have:=Zy (rules_0.length)
 cases h
 simp only[*,go_sem,seval]
end
section
set_option linter.unusedSimpArgs false
set_option linter.unusedVariables false
set_option maxRecDepth 1000000
set_option maxHeartbeats 4000000
theorem Zgo {x_0:Zt} {r:Bool} (h:Zbf x_0=some r):Zk prog J0 223 [(true,ZK x_0)] [(false,[(false,.bool r)])]:=by
 refine fnk func223 rfl ?_
 unfold Zbf at h
 simp only[fnS,f223,Zm,go_sem,seval]
 refine ZMH h fun _ a h=>Zd (Zem a) ?_
 simp only[*,go_sem,seval]
 refine Ze h (fun _ h=>?_) fun _ h=>?_<;>try simp only[*,go_sem,seval]
 iterate 2 (cases h;simp only[*,go_sem,seval])
theorem ZlU {s_0:ByteArray} {r:(Zt × Bool)} (h:Za1 s_0=some r):Zk prog J0 290 [(false,[.str s_0])] [(true,[(false,.int .i64 r.1.kind),(false,.str r.1.pattern.rel),(false,.sl 9 1 (A0 Zx r.1.pattern.args)),(false,.str r.1.left),(false,.str r.1.right)]),(false,[(false,.bool r.2)])]:=by
 refine fnk func290 rfl ?_
 unfold Za1 at h
 have f:Z9 ⟨#[110,111,116,32]⟩=true:=by decide
 simp only[fnS,f290,Zm,go_sem,seval,f]
 refine Yo h (fun b st=>IV [(0,.p false [.c (.str s_0)]),(2,.bp 0 0),(4,.p false [.c (.int .i64 b)])] [.box 173 [.c (.int .i64 0),.c (.str ⟨#[]⟩),.nil 9 1,.c (.str ⟨#[]⟩),.c (.str ⟨#[]⟩)]] st) [] [0] (by decide) ?_ ?_
 simp only[*,go_sem,seval]
 rintro b ⟨sl,ob,n⟩ _ d _ h a
 simp only[go_sem,seval,Zc] at d
 obtain ⟨⟨_,_,_⟩,_,hn⟩:=d
 subst hn
 simp only[*,go_sem,seval]
 refine Ze h (fun _ h=>?_) fun _ h=>?_<;>try simp only[*,go_sem,seval]
 refine ZMH h fun _ g h=>Zd (ZrB g) ?_
 simp only[*,go_sem,seval]
 refine ZMH h fun _ i h=>Zd (Qd i) ?_
 simp only[*,go_sem,seval]
 refine Ze h (fun _ h=>?_) fun _ h=>?_<;>try simp only[*,go_sem,seval]
 obtain ⟨_,h⟩:=Zq h
 obtain ⟨_,j,h⟩:=Za h
 try simp only[seval] at j
 obtain ⟨_,h⟩:=Zq h
 obtain ⟨_,k,h⟩:=Za h
 try simp only[seval] at k
 simp only[*,go_sem,seval]
 refine ZMH h fun _ l h=>Zd (Zem l) ?_
 simp only[*,go_sem,seval]
 refine Ze h (fun _ h=>?_) fun _ h=>?_<;>try simp only[*,go_sem,seval]
 replace h:=Zn h a
 cases h
 simp only[*,go_sem,seval]
 refine ⟨_,[],[0],(A1 h).symm,by decide,?_⟩
 simp only[*,go_sem,seval]
 refine ⟨_,[],[0],(A1 h).symm,by decide,?_⟩
 simp only[*,go_sem,seval]
 refine Ze h (fun _ h=>?_) fun _ h=>?_<;>try simp only[*,go_sem,seval]
 obtain ⟨_,h⟩:=Zq h
 simp only[*,go_sem,seval]
 refine Ze h (fun e h=>?_) (fun e h=>?_)<;>(try simp only[seval] at e)<;>try simp only[*,go_sem,seval]
 refine ZMH h fun _ m h=>Zd (XD m) ?_
 simp only[*,go_sem,seval]
 refine Ze h (fun _ h=>?_) fun _ h=>?_<;>try simp only[*,go_sem,seval]
 iterate 2 (replace h:=Zn h a;cases h;simp only[*,go_sem,seval])
 refine ZMH h fun _ o h=>Zd (XD o) ?_
 simp only[*,go_sem,seval]
 refine Ze h (fun _ h=>?_) fun _ h=>?_<;>try simp only[*,go_sem,seval]
 iterate 2 (replace h:=Zn h a;cases h;simp only[*,go_sem,seval])
 refine ZMH h fun _ q h=>Zd (XD q) ?_
 simp only[*,go_sem,seval]
 refine Ze h (fun _ h=>?_) fun _ h=>?_<;>try simp only[*,go_sem,seval]
 iterate 2 (replace h:=Zn h a;cases h;simp only[*,go_sem,seval])
theorem Zng {s_0:ByteArray} {r:(Zz × Bool)} (h:ZaE s_0=some r):Zk prog J0 291 [(false,[.str s_0])] [(true,[(false,.int .i64 r.1.kind),(false,.str r.1.pattern.rel),(false,.sl 9 1 (A0 Zx r.1.pattern.args))]),(false,[(false,.bool r.2)])]:=by
 refine fnk func291 rfl ?_
 unfold ZaE at h
 have a:Z9 ⟨#[100,114,111,112]⟩=true:=by decide
 have b:Z9 ⟨#[115,116,111,112]⟩=true:=by decide
 have c:Z9 ⟨#[32]⟩=true:=by decide
 have d:Z9 ⟨#[97,100,100]⟩=true:=by decide
 simp only[fnS,f291,Zm,go_sem,seval,a,b,c,d]
 refine Ze h (fun _ h=>?_) fun _ h=>?_<;>try simp only[*,go_sem,seval]
 cases h
 simp only[*,go_sem,seval]
 refine ZMH h fun _ e h=>Zd (Qd e) ?_
 simp only[*,go_sem,seval]
 refine Ze h (fun _ h=>?_) fun _ h=>?_<;>try simp only[*,go_sem,seval]
 cases h
 simp only[*,go_sem,seval]
 obtain ⟨_,h⟩:=Zq h
 obtain ⟨_,f,h⟩:=Za h
 try simp only[seval] at f
 simp only[*,go_sem,seval]
 refine Ze h (fun _ h=>?_) fun _ h=>?_<;>try simp only[*,go_sem,seval]
 obtain ⟨_,h⟩:=Zq h
 obtain ⟨_,g,h⟩:=Za h
 try simp only[seval] at g
 simp only[*,go_sem,seval]
 refine ZMH h fun _ i h=>Zd (XD i) ?_
 cases h
 simp only[*,go_sem,seval]
 refine Ze h (fun _ h=>?_) fun _ h=>?_<;>try simp only[*,go_sem,seval]
 obtain ⟨_,h⟩:=Zq h
 obtain ⟨_,j,h⟩:=Za h
 try simp only[seval] at j
 simp only[*,go_sem,seval]
 refine ZMH h fun _ k h=>Zd (XD k) ?_
 iterate 2 (cases h;simp only[*,go_sem,seval])
theorem Zkv {append_0:Zg} {r:Bool} (h:Zfe append_0=some r):Zk prog J0 132 [(true,ZF append_0)] [(false,[(false,.bool r)])]:=by
 refine fnk func132 rfl ?_
 unfold Zfe at h
 simp only[fnS,f132,Zm,go_sem,seval]
 refine ZMH h fun _ v h=>Zd (Zgl v) ?_
 simp only[*,go_sem,seval]
 iterate 2 refine Ze h (fun _ h=>?_) fun _ h=>?_<;>try simp only[*,go_sem,seval]
 iterate 5 (cases h;simp only[*,go_sem,seval];refine Ze h (fun _ h=>?_) fun _ h=>?_<;>try simp only[*,go_sem,seval])
 cases h
 simp only[*,go_sem,seval]
 refine Zi h (fun i _ st=>IV [(1,.bp 0 0),(49,.p false [.c (.sl 173 5 (A0 ZK append_0.cond))]),(50,.p false [.c (.int .i64 ((append_0.cond.length:Nat):Int))]),(51,.p false [.c (.int .i64 ((i:Nat):Int))])] [.box 42 [.c (.str append_0.name),.c (.int .i64 append_0.priority),.c (.sl 173 5 (A0 ZK append_0.cond)),.c (.sl 50 3 (A0 ZG append_0.thn))]] st) [] [0] (by decide) ?_ ?_ ?_
 simp only[*,go_sem,seval]
 rintro _ _ ⟨⟩ ⟨sl,ob,n⟩ _ a g w h b
 simp only[go_sem,seval,Zc] at g
 obtain ⟨⟨_,x,_,_⟩,_,hn⟩:=g
 subst hn
 have y:=WF.slotL w x (j:=0) rfl
 have:=ZA a
 have:=ZC a
 have:=Zj (ZB a) y
 simp only[*,go_sem,seval]
 refine ZMH h fun _ z h=>Zd (Zgc z) ?_
 simp only[*,go_sem,seval]
 iterate 3 refine Ze h (fun _ h=>?_) fun _ h=>?_<;>try simp only[*,go_sem,seval]
 replace h:=Zn h b
 cases h
 simp only[*,go_sem,seval]
 refine ZMH h fun _ A h=>Zd (ZhQ A) ?_
 simp only[*,go_sem,seval]
 refine Ze h (fun _ h=>?_) fun _ h=>?_<;>try simp only[*,go_sem,seval]
 refine ⟨_,[],[0],(A1 h).symm,by decide,?_⟩
 simp only[*,go_sem,seval]
 replace h:=Zn h b
 cases h
 simp only[*,go_sem,seval]
 refine ZMH h fun _ B h=>Zd (ZhQ B) ?_
 simp only[*,go_sem,seval]
 refine Ze h (fun _ h=>?_) fun _ h=>?_<;>try simp only[*,go_sem,seval]
 refine ⟨_,[],[0],(A1 h).symm,by decide,?_⟩
 iterate 2 (simp only[*,go_sem,seval];replace h:=Zn h b;cases h)
 simp only[*,go_sem,seval]
 rintro ⟨⟩ ⟨sl,ob,n⟩ k _ h
 simp only[go_sem,seval,Zc] at k
 obtain ⟨⟨_,_,_,_⟩,_,hn⟩:=k
 subst hn
 have:=Zy (append_0.cond.length)
 simp only[*,go_sem,seval]
 refine ZMH h fun l C h=>Zd (ZdH C) ?_
 simp only[*,go_sem,seval]
 refine Zi h (fun i _ st=>IV [(1,.bp 0 0),(5,.p false [.row 1]),(81,.p false [.c (.sl 50 3 (A0 ZG append_0.thn))]),(82,.p false [.c (.int .i64 ((append_0.thn.length:Nat):Int))]),(83,.p false [.c (.int .i64 ((i:Nat):Int))])] [.box 42 [.c (.str append_0.name),.c (.int .i64 append_0.priority),.c (.sl 173 5 (A0 ZK append_0.cond)),.c (.sl 50 3 (A0 ZG append_0.thn))],.row 9 1 (A0 Zx l) 2] st) [] [0,81] (by decide) ?_ ?_ ?_
 simp only[*,go_sem,seval]
 rintro D _ ⟨⟩ ⟨sl,ob,n⟩ _ d m E h o
 simp only[go_sem,seval,Zc] at m
 obtain ⟨⟨_,_,F,_,_⟩,_,_,hn⟩:=m
 subst hn
 have G:=WF.slotL E F (j:=0) rfl
 have:=ZA d
 have:=ZC d
 have:=Zj (ZB d) G
 simp only[*,go_sem,seval]
 refine ZMH h fun _ H h=>Zd (ZmO H) ?_
 simp only[*,go_sem,seval]
 refine Ze h (fun _ h=>?_) fun _ h=>?_<;>try simp only[*,go_sem,seval]
 refine ZMH h fun e I h=>Zd (ZdX I) ?_
 simp only[*,go_sem,seval]
 refine Zi h (fun i _ st=>IV [(1,.bp 0 0),(5,.p false [.row 1]),(81,.p false [.c (.sl 50 3 (A0 ZG append_0.thn))]),(82,.p false [.c (.int .i64 ((append_0.thn.length:Nat):Int))]),(83,.p false [.c (.int .i64 ((D:Nat):Int))]),(93,.p false [.row 2]),(94,.p false [.c (.int .i64 ((e.length:Nat):Int))]),(95,.p false [.c (.int .i64 ((i:Nat):Int))])] [.box 42 [.c (.str append_0.name),.c (.int .i64 append_0.priority),.c (.sl 173 5 (A0 ZK append_0.cond)),.c (.sl 50 3 (A0 ZG append_0.thn))],.row 9 1 (A0 Zx l) 2,.row 9 1 (A0 Zx e) 2] st) [] [0,1,178] (by decide) ?_ ?_ ?_
 simp only[*,go_sem,seval]
 rintro _ _ ⟨⟩ ⟨sl,ob,n⟩ _ f q J h K
 simp only[go_sem,seval,Zc] at q
 obtain ⟨⟨_,_,_,_,_,_,_,_⟩,_,_,L,hn⟩:=q
 subst hn
 have M:=WF.rowL J L
 have:=ZA f
 have:=ZC f
 have:=Zj (ZB f) M
 simp only[*,go_sem,seval]
 refine ZMH h fun _ N h=>Zd (Zac N) ?_
 simp only[*,go_sem,seval]
 refine Ze h (fun _ h=>?_) fun _ h=>?_<;>try simp only[*,go_sem,seval]
 refine ⟨_,[],[0,1,2],(A1 h).symm,by decide,?_⟩
 simp only[*,go_sem,seval]
 replace h:=Zn h K
 replace h:=Zn h o
 cases h
 simp only[*,go_sem,seval]
 rintro ⟨⟩ ⟨sl,ob,n⟩ t _ h
 simp only[go_sem,seval,Zc] at t
 obtain ⟨⟨_,_,_,_,_,_,_,_⟩,_,_,_,hn⟩:=t
 subst hn
 have:=Zy (e.length)
 simp only[*,go_sem,seval]
 refine ⟨_,[],[0,1],(A1 h).symm,by decide,?_⟩
 simp only[*,go_sem,seval]
 replace h:=Zn h o
 cases h
 simp only[*,go_sem,seval]
 rintro ⟨⟩ ⟨sl,ob,n⟩ u _ h
 simp only[go_sem,seval,Zc] at u
 obtain ⟨⟨_,_,_,_,_⟩,_,_,hn⟩:=u
 subst hn
 have:=Zy (append_0.thn.length)
 simp only[*,go_sem,seval]
 refine ZMH h fun _ O h=>Zd (ZkH O) ?_
 simp only[*,go_sem,seval]
 refine ZMH h fun _ P h=>Zd (XX P) ?_
 iterate 2 (cases h;simp only[*,go_sem,seval])
theorem Zms {append_0:Zt} {String_1:(List Zs)} {r:Bool} (h:Zcs append_0 String_1=some r):Zk prog J0 214 [(true,ZK append_0),(false,[.sl 166 2 (A0 Z4 String_1)])] [(false,[(false,.bool r)])]:=by
 refine fnk func214 rfl ?_
 unfold Zcs at h
 simp only[fnS,f214,Zm,go_sem,seval]
 refine ZMH h fun _ a h=>Zd (Zrq a) ?_
 simp only[*,go_sem,seval]
 refine Ze h (fun _ h=>?_) fun _ h=>?_<;>try simp only[*,go_sem,seval]
 refine ZMH h fun _ b h=>Zd (QO b) ?_
 simp only[*,go_sem,seval]
 refine Ze h (fun _ h=>?_) fun _ h=>?_<;>try simp only[*,go_sem,seval]
 refine ZMH h fun _ c h=>Zd (ZcR c) ?_
 simp only[*,go_sem,seval]
 refine ZMH h fun _ d h=>Zd (ZcR d) ?_
 simp only[*,go_sem,seval]
 iterate 3 refine Ze h (fun _ h=>?_) fun _ h=>?_<;>try simp only[*,go_sem,seval]
 cases h
 simp only[*,go_sem,seval]
 refine Ze h (fun _ h=>?_) fun _ h=>?_<;>try simp only[*,go_sem,seval]
 cases h
 simp only[*,go_sem,seval]
 refine ZMH h fun _ e h=>Zd (Zcf e) ?_
 simp only[*,go_sem,seval]
 refine ZMH h fun _ f h=>Zd (Zcf f) ?_
 simp only[*,go_sem,seval]
 iterate 2 refine Ze h (fun _ h=>?_) fun _ h=>?_<;>try simp only[*,go_sem,seval]
 iterate 7 (cases h;simp only[*,go_sem,seval])
theorem ZdS {p_0:Zv} {b_1:(List Zs)} {facts_2:(List Zb)} {r:(List Zb)} (h:Xs p_0 b_1 facts_2=some r):Zk prog J0 311 [(true,QA p_0),(false,[.sl 166 2 (A0 Z4 b_1)]),(false,[.sl 45 2 (A0 Zl facts_2)])] [(false,[(false,.sl 45 2 (A0 Zl r))])]:=by
 refine fnk func311 rfl ?_
 unfold Xs at h
 simp only[fnS,f311,Zm,go_sem,seval]
 refine Zi h (fun i a st=>IV [(1,.p false [.c (.sl 166 2 (A0 Z4 b_1))]),(2,.p false [.c (.sl 45 2 (A0 Zl facts_2))]),(3,.bp 0 0),(7,.p false [.row 1]),(8,.p false [.c (.int .i64 ((i:Nat):Int))])] [.box 48 [.c (.str p_0.rel),.c (.sl 9 1 (A0 Zx p_0.args))],.row 45 2 (A0 Zl a) 2] st) [] [0,32] (by decide) ?_ ?_ ?_
 simp only[*,go_sem,seval]
 rintro _ _ a ⟨sl,ob,n⟩ _ b d f h _
 simp only[go_sem,seval,Zc] at d
 obtain ⟨⟨_,g,_,_,_⟩,_,_,hn⟩:=d
 subst hn
 have k:=WF.slotL f g (j:=0) rfl
 have:=ZA b
 have:=ZC b
 have:=Zj (ZB b) k
 simp only[*,go_sem,seval]
 refine ZMH h fun _ l h=>Zd (Zf2 l) ?_
 simp only[*,go_sem,seval]
 refine Ze h (fun _ h=>?_) fun _ h=>?_<;>try simp only[*,go_sem,seval]
 refine ZMH h fun _ m h=>Zd (Xa m) ?_
 obtain ⟨o,h⟩:=Zq h
 try simp only[Nat.reduceLeDiff] at o
 simp only[*,go_sem,seval]
 refine ⟨_,[],[0,386],(A1 h).symm,by decide,?_⟩
 simp only[*,go_sem,seval]
 refine ⟨_,[],[0,1],(A1 h).symm,by decide,?_⟩
 simp only[*,go_sem,seval]
 rintro a ⟨sl,ob,n⟩ e _ h
 simp only[go_sem,seval,Zc] at e
 obtain ⟨⟨_,_,_,_,_⟩,_,_,hn⟩:=e
 subst hn
 have:=Zy (facts_2.length)
 cases h
 simp only[*,go_sem,seval]
theorem ZkZ {append_0:Zg} {String_1:Int} {a_2:Zu} {a_3:(List Zb)} {r:Zf} (h:ZaS append_0 String_1 a_2 a_3=some r):Zk prog J0 192 [(true,ZF append_0),(false,[.int .i64 String_1]),(true,YK a_2),(false,[.sl 45 2 (A0 Zl a_3)])] [(true,[(false,.int .i64 r.for_),(false,.sl 3 1 (A0 ZI r.inn)),(false,.sl 3 1 (A0 ZI r.outs))])]:=by
 refine fnk func192 rfl ?_
 unfold ZaS at h
 simp only[fnS,f192,Zm,go_sem,seval]
 obtain ⟨_,_,_,_,h⟩:=ZbQ h
 simp only[*,go_sem,seval]
 refine ZMH h fun d g h=>Zd (Zb8 g) ?_
 simp only[*,go_sem,seval]
 refine Zi h (fun i a st=>IV [(3,.p false [.c (.sl 45 2 (A0 Zl a_3))]),(4,.bp 0 0),(6,.bp 1 0),(8,.bp 2 0),(9,.bp 3 0),(11,.p false [.row 5]),(12,.p false [.c (.int .i64 ((i:Nat):Int))])] [.box 42 [.c (.str append_0.name),.c (.int .i64 append_0.priority),.c (.sl 173 5 (A0 ZK append_0.cond)),.c (.sl 50 3 (A0 ZG append_0.thn))],.box 120 [.c (.sl 45 2 (A0 Zl a_2.facts)),.c (.sl 166 2 (A0 Z4 a_2.binding))],.box 199 [.c (.int .i64 0),.nil 3 1,.nil 3 1],.box 45 [.c (.str d.1.rel),.row 4],.row 9 1 (A0 Zx d.1.args) 2,.row 45 2 (A0 Zl a) 2] st) [] [0,16,32,240,176,288] (by decide) ?_ ?_ ?_
 simp only[*,go_sem,seval]
 rintro _ _ a ⟨sl,ob,n⟩ _ b e k h _
 simp only[go_sem,seval,Zc] at e
 obtain ⟨⟨_,_,_,_,_,_,_⟩,l,_,_,_,_,_,hn⟩:=e
 subst hn
 have m:=WF.boxL k l (j:=2) rfl
 have:=ZA b
 have:=ZC b
 have:=Zj (ZB b) m
 simp only[*,go_sem,seval]
 refine Ze h (fun _ h=>?_) fun _ h=>?_<;>try simp only[*,go_sem,seval]
 refine ZMH h fun _ o h=>Zd (Zb8 o) ?_
 obtain ⟨q,h⟩:=Zq h
 try simp only[Nat.reduceLeDiff] at q
 simp only[*,go_sem,seval]
 refine ⟨_,[],[0,1,2,3,4,486],(A1 h).symm,by decide,?_⟩
 simp only[*,go_sem,seval]
 refine ⟨_,[],[0,1,2,3,4,5],(A1 h).symm,by decide,?_⟩
 simp only[*,go_sem,seval]
 rintro a ⟨sl,ob,n⟩ f _ h
 simp only[go_sem,seval,Zc] at f
 obtain ⟨⟨_,_,_,_,_,_,_⟩,_,_,_,_,_,_,hn⟩:=f
 subst hn
 have:=Zy (append_0.cond.length)
 simp only[*,go_sem,seval]
 refine ZMH h fun _ t h=>Zd (Zb0 t) ?_
 simp only[*,go_sem,seval]
 refine ZMH h fun _ u h=>Zd (ZhF u) ?_
 simp only[*,go_sem,seval]
 refine ZMH h fun _ v h=>Zd (ZhF v) ?_
 cases h
 simp only[*,go_sem,seval]
theorem Znf {b_0:Zr} {r:(List Bool)} (h:Zd0 b_0=some r):Zk prog J0 131 [(true,XY b_0)] [(false,[(false,.sl 4 1 (A0 ZfM r))])]:=by
 refine fnk func131 rfl ?_
 unfold Zd0 at h
 simp only[fnS,f131,Zm,go_sem,seval]
 refine ZMH h fun d g h=>Zd (Znh g) ?_
 simp only[*,go_sem,seval]
 refine Zi h (fun i a st=>IV [(3,.p false [.row 0]),(4,.p false [.row 1]),(5,.p false [.c (.int .i64 ((i:Nat):Int))])] [.row 3 1 (A0 ZI d) 2,.row 4 1 (A0 ZfM a) 2] st) [] [48,80] (by decide) ?_ ?_ ?_
 simp only[*,go_sem,seval]
 rintro _ _ a ⟨sl,ob,n⟩ _ b e j h _
 simp only[go_sem,seval,Zc] at e
 obtain ⟨⟨_,_,_⟩,k,_,hn⟩:=e
 subst hn
 have l:=WF.rowL j k
 have:=ZA b
 have:=ZC b
 have:=Zj (ZB b) l
 obtain ⟨m,h⟩:=Zq h
 try simp only[Nat.reduceLeDiff] at m
 simp only[*,go_sem,seval]
 refine ⟨_,[],[0,178],(A1 h).symm,by decide,?_⟩
 simp only[*,go_sem,seval]
 rintro a ⟨sl,ob,n⟩ f _ h
 simp only[go_sem,seval,Zc] at f
 obtain ⟨⟨_,_,_⟩,_,_,hn⟩:=f
 subst hn
 have:=Zy (d.length)
 cases h
 simp only[*,go_sem,seval]
end
section
set_option linter.unusedSimpArgs false
set_option linter.unusedVariables false
set_option maxRecDepth 1000000
set_option maxHeartbeats 4000000
theorem ZgS {append_0:Zg} {r:Bool} (h:Zcu append_0=some r):Zk prog J0 158 [(true,ZF append_0)] [(false,[(false,.bool r)])]:=by
 refine fnk func158 rfl ?_
 unfold Zcu at h
 simp only[fnS,f158,Zm,go_sem,seval]
 refine ZMH h fun _ H h=>Zd (ZgV H) ?_
 simp only[*,go_sem,seval]
 refine Ze h (fun _ h=>?_) fun _ h=>?_<;>try simp only[*,go_sem,seval]
 refine ZMH h fun _ I h=>Zd (XU I) ?_
 simp only[*,go_sem,seval]
 refine Ze h (fun _ h=>?_) fun _ h=>?_<;>try simp only[*,go_sem,seval]
 refine ZMH h fun _ J h=>Zd (XU J) ?_
 simp only[*,go_sem,seval]
 refine Ze h (fun _ h=>?_) fun _ h=>?_<;>try simp only[*,go_sem,seval]
 refine ZMH h fun _ K h=>Zd (XU K) ?_
 simp only[*,go_sem,seval]
 refine Ze h (fun _ h=>?_) fun _ h=>?_<;>try simp only[*,go_sem,seval]
 refine ZMH h fun e L h=>Zd (Zbq L) ?_
 simp only[*,go_sem,seval]
 refine Zi h (fun i _ st=>IV [(1,.bp 0 0),(3,.p false [.row 1]),(4,.p false [.c (.int .i64 ((i:Nat):Int))])] [.box 42 [.c (.str append_0.name),.c (.int .i64 append_0.priority),.c (.sl 173 5 (A0 ZK append_0.cond)),.c (.sl 50 3 (A0 ZG append_0.thn))],.row 9 1 (A0 Zx e) 2] st) [] [0,480] (by decide) ?_ ?_ ?_
 simp only[*,go_sem,seval]
 rintro b a ⟨⟩ ⟨sl,ob,n⟩ _ f o M h d
 simp only[go_sem,seval,Zc] at o
 obtain ⟨⟨_,_,_⟩,N,_,hn⟩:=o
 subst hn
 have O:=WF.boxL M N (j:=2) rfl
 have:=ZA f
 have:=ZC f
 have:=Zj (ZB f) O
 simp only[*,go_sem,seval]
 refine ZMH h fun _ P h=>Zd (Zem P) ?_
 simp only[*,go_sem,seval]
 iterate 3 refine Ze h (fun _ h=>?_) fun _ h=>?_<;>try simp only[*,go_sem,seval]
 replace h:=Zn h d
 cases h
 simp only[*,go_sem,seval]
 refine ZMH h fun Q R h=>Zd (Zbq R) ?_
 simp only[*,go_sem,seval]
 refine ZMH h fun q S h=>Zd (Zas S) ?_
 simp only[*,go_sem,seval]
 refine Zi h (fun i _ st=>IV [(1,.bp 0 0),(3,.p false [.row 1]),(4,.p false [.c (.int .i64 ((b:Nat):Int))]),(5,.bp 2 0),(6,.p false [.row 3]),(7,.p false [.row 4]),(8,.p false [.c (.int .i64 ((i:Nat):Int))]),(58,.p false [.c (.int .i64 ((b:Nat):Int))]),(59,.p false [.c (.bool (((b:Nat):Int)==0))]),(60,.p false [.c (.bool (((b:Nat):Int)==0))]),(61,.bp 2 0),(62,.p false [.c (.int .i64 a.kind)]),(63,.p false [.c (.bool (a.kind != 1))]),(64,.p false [.c (.bool (a.kind != 1))])] [.box 42 [.c (.str append_0.name),.c (.int .i64 append_0.priority),.c (.sl 173 5 (A0 ZK append_0.cond)),.c (.sl 50 3 (A0 ZG append_0.thn))],.row 9 1 (A0 Zx e) 2,.box 173 [.c (.int .i64 a.kind),.c (.str a.pattern.rel),.c (.sl 9 1 (A0 Zx a.pattern.args)),.c (.str a.left),.c (.str a.right)],.row 9 1 (A0 Zx Q) 2,.row 9 1 (A0 Zx q) 2] st) [] [0,1,162,418,466] (by decide) ?_ ?_ ?_
 simp only[*,go_sem,seval]
 rintro _ _ ⟨⟩ ⟨sl,ob,n⟩ _ g t T h u
 simp only[go_sem,seval,Zc] at t
 obtain ⟨⟨_,_,_,_,_,_,_,_,_,_,_,_,_,_⟩,_,_,_,_,U,hn⟩:=t
 subst hn
 have V:=WF.rowL T U
 have:=ZA g
 have:=ZC g
 have:=Zj (ZB g) V
 simp only[*,go_sem,seval]
 refine ZMH h fun _ W h=>Zd (Yz W) ?_
 simp only[*,go_sem,seval]
 refine ZMH h fun _ X h=>Zd (Zgo X) ?_
 simp only[*,go_sem,seval]
 iterate 3 refine Ze h (fun _ h=>?_) fun _ h=>?_<;>try simp only[*,go_sem,seval]
 refine ⟨_,[],[0,1,2,3,4],(A1 h).symm,by decide,?_⟩
 simp only[*,go_sem,seval]
 refine ⟨_,[],[0,1,2,3,4],(A1 h).symm,by decide,?_⟩
 simp only[*,go_sem,seval]
 replace h:=Zn h u
 replace h:=Zn h d
 cases h
 simp only[*,go_sem,seval]
 iterate 2 refine Ze h (fun _ h=>?_) fun _ h=>?_<;>try simp only[*,go_sem,seval]
 refine ⟨_,[],[0,1,2,3,4],(A1 h).symm,by decide,?_⟩
 simp only[*,go_sem,seval]
 refine ZMH h fun _ Y h=>Zd (Ze4 Y) ?_
 simp only[*,go_sem,seval]
 refine Ze h (fun _ h=>?_) fun _ h=>?_<;>try simp only[*,go_sem,seval]
 replace h:=Zn h u
 replace h:=Zn h d
 cases h
 simp only[*,go_sem,seval]
 refine ⟨_,[],[0,1,2,3,4],(A1 h).symm,by decide,?_⟩
 simp only[*,go_sem,seval]
 refine ⟨_,[],[0,1,2,3,4],(A1 h).symm,by decide,?_⟩
 simp only[*,go_sem,seval]
 rintro ⟨⟩ ⟨sl,ob,n⟩ v _ h
 simp only[go_sem,seval,Zc] at v
 obtain ⟨⟨_,_,_,_,_,_,_,_,_,_,_,_,_,_⟩,_,_,_,_,_,hn⟩:=v
 subst hn
 have:=Zy (q.length)
 simp only[*,go_sem,seval]
 refine ⟨_,[],[0,1],(A1 h).symm,by decide,?_⟩
 simp only[*,go_sem,seval]
 refine ZMH h fun Z aa h=>Zd (Zbq aa) ?_
 simp only[*,go_sem,seval]
 refine ZMH h fun w ab h=>Zd (Zas ab) ?_
 simp only[*,go_sem,seval]
 refine Zi h (fun i _ st=>IV [(1,.bp 0 0),(3,.p false [.row 1]),(4,.p false [.c (.int .i64 ((b:Nat):Int))]),(5,.bp 2 0),(6,.p false [.row 3]),(7,.p false [.row 4]),(8,.p false [.c (.int .i64 ((i:Nat):Int))]),(58,.p false [.c (.int .i64 ((b:Nat):Int))]),(59,.p false [.c (.bool (((b:Nat):Int)==0))]),(60,.p false [.c (.bool (((b:Nat):Int)==0))]),(64,.p false [.c (.bool false)])] [.box 42 [.c (.str append_0.name),.c (.int .i64 append_0.priority),.c (.sl 173 5 (A0 ZK append_0.cond)),.c (.sl 50 3 (A0 ZG append_0.thn))],.row 9 1 (A0 Zx e) 2,.box 173 [.c (.int .i64 a.kind),.c (.str a.pattern.rel),.c (.sl 9 1 (A0 Zx a.pattern.args)),.c (.str a.left),.c (.str a.right)],.row 9 1 (A0 Zx Z) 2,.row 9 1 (A0 Zx w) 2] st) [] [0,1,162,418,466] (by decide) ?_ ?_ ?_
 simp only[*,go_sem,seval]
 rintro _ _ ⟨⟩ ⟨sl,ob,n⟩ _ k x ac h y
 simp only[go_sem,seval,Zc] at x
 obtain ⟨⟨_,_,_,_,_,_,_,_,_,_,_⟩,_,_,_,_,ad,hn⟩:=x
 subst hn
 have ae:=WF.rowL ac ad
 have:=ZA k
 have:=ZC k
 have:=Zj (ZB k) ae
 simp only[*,go_sem,seval]
 refine ZMH h fun _ af h=>Zd (Yz af) ?_
 simp only[*,go_sem,seval]
 refine ZMH h fun _ ag h=>Zd (Zgo ag) ?_
 simp only[*,go_sem,seval]
 iterate 3 refine Ze h (fun _ h=>?_) fun _ h=>?_<;>try simp only[*,go_sem,seval]
 refine ⟨_,[],[0,1,2,3,4],(A1 h).symm,by decide,?_⟩
 simp only[*,go_sem,seval]
 refine ⟨_,[],[0,1,2,3,4],(A1 h).symm,by decide,?_⟩
 simp only[*,go_sem,seval]
 replace h:=Zn h y
 replace h:=Zn h d
 cases h
 simp only[*,go_sem,seval]
 iterate 2 refine Ze h (fun _ h=>?_) fun _ h=>?_<;>try simp only[*,go_sem,seval]
 refine ⟨_,[],[0,1,2,3,4],(A1 h).symm,by decide,?_⟩
 simp only[*,go_sem,seval]
 refine ZMH h fun _ ah h=>Zd (Ze4 ah) ?_
 simp only[*,go_sem,seval]
 refine Ze h (fun _ h=>?_) fun _ h=>?_<;>try simp only[*,go_sem,seval]
 replace h:=Zn h y
 replace h:=Zn h d
 cases h
 simp only[*,go_sem,seval]
 refine ⟨_,[],[0,1,2,3,4],(A1 h).symm,by decide,?_⟩
 simp only[*,go_sem,seval]
 refine ⟨_,[],[0,1,2,3,4],(A1 h).symm,by decide,?_⟩
 simp only[*,go_sem,seval]
 rintro ⟨⟩ ⟨sl,ob,n⟩ z _ h
 simp only[go_sem,seval,Zc] at z
 obtain ⟨⟨_,_,_,_,_,_,_,_,_,_,_⟩,_,_,_,_,_,hn⟩:=z
 subst hn
 have:=Zy (w.length)
 simp only[*,go_sem,seval]
 refine ⟨_,[],[0,1],(A1 h).symm,by decide,?_⟩
 simp only[*,go_sem,seval]
 replace h:=Zn h d
 cases h
 simp only[*,go_sem,seval]
 rintro ⟨⟩ ⟨sl,ob,n⟩ A _ h
 simp only[go_sem,seval,Zc] at A
 obtain ⟨⟨_,_,_⟩,_,_,hn⟩:=A
 subst hn
 have:=Zy (append_0.cond.length)
 simp only[*,go_sem,seval]
 refine Zi h (fun i _ st=>IV [(1,.bp 0 0),(3,.p false [.row 1]),(10,.p false [.c (.int .i64 ((i:Nat):Int))])] [.box 42 [.c (.str append_0.name),.c (.int .i64 append_0.priority),.c (.sl 173 5 (A0 ZK append_0.cond)),.c (.sl 50 3 (A0 ZG append_0.thn))],.row 9 1 (A0 Zx e) 2] st) [] [0,1] (by decide) ?_ ?_ ?_
 simp only[*,go_sem,seval]
 rintro ai _ ⟨⟩ ⟨sl,ob,n⟩ _ l B aj h C
 simp only[go_sem,seval,Zc] at B
 obtain ⟨⟨_,_,_⟩,ak,_,hn⟩:=B
 subst hn
 have al:=WF.boxL aj ak (j:=3) rfl
 have:=ZA l
 have:=ZC l
 have:=Zj (ZB l) al
 simp only[*,go_sem,seval]
 refine ZMH h fun _ am h=>Zd (Znb am) ?_
 simp only[*,go_sem,seval]
 refine Ze h (fun _ h=>?_) fun _ h=>?_<;>try simp only[*,go_sem,seval]
 refine ZMH h fun D an h=>Zd (Zcw an) ?_
 simp only[*,go_sem,seval]
 refine Zi h (fun i _ st=>IV [(1,.bp 0 0),(3,.p false [.row 1]),(10,.p false [.c (.int .i64 ((ai:Nat):Int))]),(11,.p false [.row 2]),(12,.p false [.c (.int .i64 ((i:Nat):Int))])] [.box 42 [.c (.str append_0.name),.c (.int .i64 append_0.priority),.c (.sl 173 5 (A0 ZK append_0.cond)),.c (.sl 50 3 (A0 ZG append_0.thn))],.row 9 1 (A0 Zx e) 2,.row 9 1 (A0 Zx D) 2] st) [] [0,1,290] (by decide) ?_ ?_ ?_
 simp only[*,go_sem,seval]
 rintro _ _ ⟨⟩ ⟨sl,ob,n⟩ _ m E ao h ap
 simp only[go_sem,seval,Zc] at E
 obtain ⟨⟨_,_,_,_,_⟩,_,_,aq,hn⟩:=E
 subst hn
 have ar:=WF.rowL ao aq
 have:=ZA m
 have:=ZC m
 have:=Zj (ZB m) ar
 simp only[*,go_sem,seval]
 refine ZMH h fun _ au h=>Zd (Yz au) ?_
 simp only[*,go_sem,seval]
 refine Ze h (fun _ h=>?_) fun _ h=>?_<;>try simp only[*,go_sem,seval]
 refine ⟨_,[],[0,1,2],(A1 h).symm,by decide,?_⟩
 simp only[*,go_sem,seval]
 replace h:=Zn h ap
 replace h:=Zn h C
 cases h
 simp only[*,go_sem,seval]
 rintro ⟨⟩ ⟨sl,ob,n⟩ F _ h
 simp only[go_sem,seval,Zc] at F
 obtain ⟨⟨_,_,_,_,_⟩,_,_,_,hn⟩:=F
 subst hn
 have:=Zy (D.length)
 simp only[*,go_sem,seval]
 refine ⟨_,[],[0,1],(A1 h).symm,by decide,?_⟩
 simp only[*,go_sem,seval]
 replace h:=Zn h C
 cases h
 simp only[*,go_sem,seval]
 rintro ⟨⟩ ⟨sl,ob,n⟩ G _ h
 simp only[go_sem,seval,Zc] at G
 obtain ⟨⟨_,_,_⟩,_,_,hn⟩:=G
 subst hn
 have:=Zy (append_0.thn.length)
 simp only[*,go_sem,seval]
 refine ZMH h fun _ av h=>Zd (ZmN av) ?_
 iterate 5 (cases h;simp only[*,go_sem,seval])
theorem Zer {l_0:(List Zg)} {r:Bool} (h:ZaL l_0=some r):Zk prog J0 65 [(false,[.sl 42 4 (A0 ZF l_0)])] [(false,[(false,.bool r)])]:=by
 refine fnk func65 rfl ?_
 unfold ZaL at h
 simp only[fnS,f65,Zm,go_sem,seval]
 refine Ze h (fun _ h=>?_) fun _ h=>?_<;>try simp only[*,go_sem,seval]
 cases h
 simp only[*,go_sem,seval]
 refine Zi h (fun i _ st=>IV [(0,.p false [.c (.sl 42 4 (A0 ZF l_0))]),(8,.p false [.c (.sl 42 4 (A0 ZF l_0))]),(9,.p false [.c (.int .i64 ((l_0.length:Nat):Int))]),(10,.p false [.c (.int .i64 ((i:Nat):Int))])] [] st) [] [] (by decide) ?_ ?_ ?_
 simp only[*,go_sem,seval]
 rintro _ _ ⟨⟩ ⟨sl,ob,n⟩ _ a b f h d
 simp only[go_sem,seval,Zc] at b
 obtain ⟨⟨g,_,_,_⟩,hn⟩:=b
 subst hn
 have k:=WF.slotL f g (j:=0) rfl
 have:=ZA a
 have:=ZC a
 have:=Zj (ZB a) k
 simp only[*,go_sem,seval]
 refine ZMH h fun _ l h=>Zd (Zkv l) ?_
 simp only[*,go_sem,seval]
 refine Ze h (fun _ h=>?_) fun _ h=>?_<;>try simp only[*,go_sem,seval]
 refine ZMH h fun _ m h=>Zd (ZmU m) ?_
 simp only[*,go_sem,seval]
 refine Ze h (fun _ h=>?_) fun _ h=>?_<;>try simp only[*,go_sem,seval]
 replace h:=Zn h d
 cases h
 simp only[*,go_sem,seval]
 refine ⟨_,[],[],(A1 h).symm,by decide,?_⟩
 simp only[*,go_sem,seval]
 replace h:=Zn h d
 cases h
 simp only[*,go_sem,seval]
 rintro ⟨⟩ ⟨sl,ob,n⟩ e _ h
 simp only[go_sem,seval,Zc] at e
 obtain ⟨⟨_,_,_,_⟩,hn⟩:=e
 subst hn
 have:=Zy (l_0.length)
 cases h
 simp only[*,go_sem,seval]
theorem Zmf {r_0:Zg} {r:Bool} (h:Zci r_0=some r):Zk prog J0 152 [(true,ZF r_0)] [(false,[(false,.bool r)])]:=by
 refine fnk func152 rfl ?_
 unfold Zci at h
 simp only[fnS,f152,Zm,go_sem,seval]
 refine ZMH h fun _ l h=>Zd (Zkv l) ?_
 simp only[*,go_sem,seval]
 refine Ze h (fun _ h=>?_) fun _ h=>?_<;>try simp only[*,go_sem,seval]
 refine ZMH h fun _ m h=>Zd (Zm5 m) ?_
 simp only[*,go_sem,seval]
 refine Ze h (fun _ h=>?_) fun _ h=>?_<;>try simp only[*,go_sem,seval]
 refine Zi h (fun i _ st=>IV [(1,.bp 0 0),(17,.p false [.c (.sl 173 5 (A0 ZK r_0.cond))]),(18,.p false [.c (.int .i64 ((r_0.cond.length:Nat):Int))]),(19,.p false [.c (.int .i64 ((i:Nat):Int))])] [.box 42 [.c (.str r_0.name),.c (.int .i64 r_0.priority),.c (.sl 173 5 (A0 ZK r_0.cond)),.c (.sl 50 3 (A0 ZG r_0.thn))]] st) [] [0] (by decide) ?_ ?_ ?_
 simp only[*,go_sem,seval]
 rintro o _ ⟨⟩ ⟨sl,ob,n⟩ _ a e q h t
 simp only[go_sem,seval,Zc] at e
 obtain ⟨⟨_,u,_,_⟩,_,hn⟩:=e
 subst hn
 have v:=WF.slotL q u (j:=0) rfl
 have:=ZA a
 have:=ZC a
 have:=Zj (ZB a) v
 simp only[*,go_sem,seval]
 refine Ze h (fun _ h=>?_) fun _ h=>?_<;>try simp only[*,go_sem,seval]
 refine ⟨_,[],[0],(A1 h).symm,by decide,?_⟩
 simp only[*,go_sem,seval]
 refine ZMH h fun w x h=>Zd (ZdH x) ?_
 simp only[*,go_sem,seval]
 refine ZMH h fun b y h=>Zd (Zb9 y) ?_
 simp only[*,go_sem,seval]
 refine Zi h (fun i _ st=>IV [(1,.bp 0 0),(5,.p false [.row 1]),(17,.p false [.c (.sl 173 5 (A0 ZK r_0.cond))]),(18,.p false [.c (.int .i64 ((r_0.cond.length:Nat):Int))]),(19,.p false [.c (.int .i64 ((o:Nat):Int))]),(31,.p false [.row 2]),(32,.p false [.c (.int .i64 ((b.length:Nat):Int))]),(33,.p false [.c (.int .i64 ((i:Nat):Int))])] [.box 42 [.c (.str r_0.name),.c (.int .i64 r_0.priority),.c (.sl 173 5 (A0 ZK r_0.cond)),.c (.sl 50 3 (A0 ZG r_0.thn))],.row 9 1 (A0 Zx w) 2,.row 9 1 (A0 Zx b) 2] st) [] [0,193,241] (by decide) ?_ ?_ ?_
 simp only[*,go_sem,seval]
 rintro _ _ ⟨⟩ ⟨sl,ob,n⟩ _ d f z h A
 simp only[go_sem,seval,Zc] at f
 obtain ⟨⟨_,_,_,_,_,_,_,_⟩,_,_,B,hn⟩:=f
 subst hn
 have C:=WF.rowL z B
 have:=ZA d
 have:=ZC d
 have:=Zj (ZB d) C
 simp only[*,go_sem,seval]
 refine ZMH h fun _ D h=>Zd (Zac D) ?_
 simp only[*,go_sem,seval]
 refine Ze h (fun _ h=>?_) fun _ h=>?_<;>try simp only[*,go_sem,seval]
 refine ⟨_,[],[0,1,2],(A1 h).symm,by decide,?_⟩
 simp only[*,go_sem,seval]
 replace h:=Zn h A
 replace h:=Zn h t
 cases h
 simp only[*,go_sem,seval]
 rintro ⟨⟩ ⟨sl,ob,n⟩ g _ h
 simp only[go_sem,seval,Zc] at g
 obtain ⟨⟨_,_,_,_,_,_,_,_⟩,_,_,_,hn⟩:=g
 subst hn
 have:=Zy (b.length)
 simp only[*,go_sem,seval]
 refine ⟨_,[],[0],(A1 h).symm,by decide,?_⟩
 simp only[*,go_sem,seval]
 rintro ⟨⟩ ⟨sl,ob,n⟩ k _ h
 simp only[go_sem,seval,Zc] at k
 obtain ⟨⟨_,_,_,_⟩,_,hn⟩:=k
 subst hn
 have:=Zy (r_0.cond.length)
 iterate 3 (cases h;simp only[*,go_sem,seval])
theorem Zll {x_0:Zt} {b_1:(List Zs)} {facts_2:(List Zb)} {r:Bool} (h:ZcD x_0 b_1 facts_2=some r):Zk prog J0 153 [(true,ZK x_0),(false,[.sl 166 2 (A0 Z4 b_1)]),(false,[.sl 45 2 (A0 Zl facts_2)])] [(false,[(false,.bool r)])]:=by
 refine fnk func153 rfl ?_
 unfold ZcD at h
 simp only[fnS,f153,Zm,go_sem,seval]
 refine ZMH h fun _ a h=>Zd (Zgc a) ?_
 simp only[*,go_sem,seval]
 refine Ze h (fun _ h=>?_) fun _ h=>?_<;>try simp only[*,go_sem,seval]
 refine ZMH h fun _ b h=>Zd (QO b) ?_
 simp only[*,go_sem,seval]
 iterate 2 refine Ze h (fun _ h=>?_) fun _ h=>?_<;>try simp only[*,go_sem,seval]
 refine ZMH h fun _ c h=>Zd (ZdD c) ?_
 cases h
 simp only[*,go_sem,seval]
 refine Ze h (fun _ h=>?_) fun _ h=>?_<;>try simp only[*,go_sem,seval]
 refine ZMH h fun _ d h=>Zd (ZdD d) ?_
 cases h
 simp only[*,go_sem,seval]
 refine ZMH h fun _ e h=>Zd (Zms e) ?_
 iterate 3 (cases h;simp only[*,go_sem,seval])
theorem Zk7 {x_0:Zt} {b_1:(List Zs)} {r:Bool} (h:Zcj x_0 b_1=some r):Zk prog J0 312 [(true,ZK x_0),(false,[.sl 166 2 (A0 Z4 b_1)])] [(false,[(false,.bool r)])]:=by
 refine fnk func312 rfl ?_
 unfold Zcj at h
 simp only[fnS,f312,Zm,go_sem,seval]
 refine ZMH h fun _ a h=>Zd (Zgo a) ?_
 simp only[*,go_sem,seval]
 refine Ze h (fun _ h=>?_) fun _ h=>?_<;>try simp only[*,go_sem,seval]
 refine ZMH h fun _ b h=>Zd (QX b) ?_
 simp only[*,go_sem,seval]
 refine Ze h (fun _ h=>?_) fun _ h=>?_<;>try simp only[*,go_sem,seval]
 refine ZMH h fun _ c h=>Zd (ZcO c) ?_
 simp only[*,go_sem,seval]
 refine ZMH h fun _ d h=>Zd (ZcO d) ?_
 simp only[*,go_sem,seval]
 iterate 3 refine Ze h (fun _ h=>?_) fun _ h=>?_<;>try simp only[*,go_sem,seval]
 cases h
 simp only[*,go_sem,seval]
 refine Ze h (fun _ h=>?_) fun _ h=>?_<;>try simp only[*,go_sem,seval]
 cases h
 simp only[*,go_sem,seval]
 refine ZMH h fun _ e h=>Zd (ZhK e) ?_
 simp only[*,go_sem,seval]
 refine Ze h (fun _ h=>?_) fun _ h=>?_<;>try simp only[*,go_sem,seval]
 refine ZMH h fun _ f h=>Zd (ZhK f) ?_
 simp only[*,go_sem,seval]
 refine Ze h (fun _ h=>?_) fun _ h=>?_<;>try simp only[*,go_sem,seval]
 refine ZMH h fun _ g h=>Zd (Zej g) ?_
 iterate 7 (cases h;simp only[*,go_sem,seval])
theorem Zr1 {l_0:(List Zb)} {b_1:Zr} {r:(List Zb)} (h:Zjd l_0 b_1=some r):Zk prog J0 64 [(false,[.sl 45 2 (A0 Zl l_0)]),(true,XY b_1)] [(false,[(false,.sl 45 2 (A0 Zl r))])]:=by
 refine fnk func64 rfl ?_
 unfold Zjd at h
 simp only[fnS,f64,Zm,go_sem,seval]
 refine ZMH h fun f g h=>Zd (Znf g) ?_
 simp only[*,go_sem,seval]
 refine Zi h (fun i a st=>IV [(0,.p false [.c (.sl 45 2 (A0 Zl l_0))]),(5,.p false [.row 0]),(6,.p false [.row 1]),(7,.p false [.c (.int .i64 ((i:Nat):Int))])] [.row 45 2 (A0 Zl a) 2,.row 4 1 (A0 ZfM f) 2] st) [] [32,80] (by decide) ?_ ?_ ?_
 simp only[*,go_sem,seval]
 rintro _ _ a ⟨sl,ob,n⟩ _ b d k h l
 simp only[go_sem,seval,Zc] at d
 obtain ⟨⟨m,_,_,_⟩,_,_,hn⟩:=d
 subst hn
 have o:=WF.slotL k m (j:=0) rfl
 have:=ZA b
 have:=ZC b
 have:=Zj (ZB b) o
 simp only[*,go_sem,seval]
 refine Ze h (fun _ h=>?_) fun _ h=>?_<;>try simp only[*,go_sem,seval]
 obtain ⟨_,h⟩:=Zq h
 obtain ⟨_,_,h⟩:=Za h
 simp only[*,go_sem,seval]
 refine Ze h (fun _ h=>?_) fun _ h=>?_<;>try simp only[*,go_sem,seval]
 refine ZMH h fun _ q h=>Zd (Xa q) ?_
 obtain ⟨t,h⟩:=Zq h
 try simp only[Nat.reduceLeDiff] at t
 simp only[*,go_sem,seval]
 refine ⟨_,[],[338,1],(A1 h).symm,by decide,?_⟩
 simp only[*,go_sem,seval]
 refine ⟨_,[],[0,1],(A1 h).symm,by decide,?_⟩
 simp only[*,go_sem,seval]
 replace h:=Zn h l
 cases h
 simp only[*,go_sem,seval]
 rintro a ⟨sl,ob,n⟩ e _ h
 simp only[go_sem,seval,Zc] at e
 obtain ⟨⟨_,_,_,_⟩,_,_,hn⟩:=e
 subst hn
 have:=Zy (l_0.length)
 cases h
 simp only[*,go_sem,seval]
end
section
set_option linter.unusedSimpArgs false
set_option linter.unusedVariables false
set_option maxRecDepth 1000000
set_option maxHeartbeats 4000000
theorem Zpa {append_0:Zg} {String_1:ByteArray} {a_2:ByteArray} {r:(Zg × Bool)} (h:ZeJ append_0 String_1 a_2=some r):Zk prog J0 255 [(true,[.str append_0.name,.int .i64 append_0.priority,.nl 173 5,.nl 50 3]),(false,[.str String_1]),(false,[.str a_2])] [(true,[(false,.str r.1.name),(false,.int .i64 r.1.priority),(false,.sl 173 5 (A0 ZK r.1.cond)),(false,.sl 50 3 (A0 ZG r.1.thn))]),(false,[(false,.bool r.2)])]:=by
 refine fnk func255 rfl ?_
 unfold ZeJ at h
 have o:Z9 ⟨#[32,38,32]⟩=true:=by decide
 simp only[fnS,f255,Zm,go_sem,seval,o]
 refine ZMH h fun f q h=>Zd (Qd q) ?_
 simp only[*,go_sem,seval]
 refine Zi h (fun i a st=>IV [(2,.p false [.c (.str a_2)]),(3,.bp 0 0),(6,.bp 2 0),(8,.p false [.row 3]),(9,.p false [.c (.int .i64 ((i:Nat):Int))])] [.box 42 [.c (.str append_0.name),.c (.int .i64 append_0.priority),.row 1,.nil 50 3],.row 173 5 (A0 ZK a) 2,.box 42 [.c (.str ⟨#[]⟩),.c (.int .i64 0),.nil 173 5,.nil 50 3],.row 9 1 (A0 Zx f) 2] st) [(true,0,2)] [0,112,16,64] (by decide) ?_ ?_ ?_
 simp only[*,go_sem,seval]
 rintro _ _ a ⟨sl,ob,n⟩ _ b g t h u
 simp only[go_sem,seval,Zc] at g
 obtain ⟨⟨_,_,_,_,_⟩,_,_,_,v,hn⟩:=g
 subst hn
 have w:=WF.rowL t v
 have:=ZA b
 have:=ZC b
 have:=Zj (ZB b) w
 simp only[*,go_sem,seval]
 refine ZMH h fun _ x h=>Zd (ZlU x) ?_
 simp only[*,go_sem,seval]
 refine Ze h (fun _ h=>?_) fun _ h=>?_<;>try simp only[*,go_sem,seval]
 obtain ⟨y,h⟩:=Zq h
 try simp only[Nat.reduceLeDiff] at y
 simp only[*,go_sem,seval]
 refine ⟨_,[],[0,340,2,3],(A1 h).symm,by decide,?_⟩
 simp only[*,go_sem,seval]
 replace h:=Zn h u
 cases h
 simp only[*,go_sem,seval]
 rintro a ⟨sl,ob,n⟩ j _ h
 simp only[go_sem,seval,Zc] at j
 obtain ⟨⟨_,_,_,_,_⟩,_,_,_,_,hn⟩:=j
 subst hn
 have:=Zy (f.length)
 simp only[*,go_sem,seval]
 refine ZMH h fun k z h=>Zd (Qd z) ?_
 simp only[*,go_sem,seval]
 refine Zi h (fun i d st=>IV [(3,.bp 0 0),(6,.bp 3 0),(12,.p false [.row 4]),(13,.p false [.c (.int .i64 ((i:Nat):Int))])] [.box 42 [.c (.str append_0.name),.c (.int .i64 append_0.priority),.row 1,.row 2],.row 173 5 (A0 ZK a) 2,.row 50 3 (A0 ZG d) 2,.box 42 [.c (.str ⟨#[]⟩),.c (.int .i64 0),.nil 173 5,.nil 50 3],.row 9 1 (A0 Zx k) 2] st) [(true,0,3)] [0,1,132,2,84] (by decide) ?_ ?_ ?_
 simp only[*,go_sem,seval]
 rintro _ _ d ⟨sl,ob,n⟩ _ e l A h B
 simp only[go_sem,seval,Zc] at l
 obtain ⟨⟨_,_,_,_⟩,_,_,_,_,C,hn⟩:=l
 subst hn
 have D:=WF.rowL A C
 have:=ZA e
 have:=ZC e
 have:=Zj (ZB e) D
 simp only[*,go_sem,seval]
 refine ZMH h fun _ E h=>Zd (Zng E) ?_
 simp only[*,go_sem,seval]
 refine Ze h (fun _ h=>?_) fun _ h=>?_<;>try simp only[*,go_sem,seval]
 obtain ⟨F,h⟩:=Zq h
 try simp only[Nat.reduceLeDiff] at F
 simp only[*,go_sem,seval]
 refine ⟨_,[],[0,1,341,3,4],(A1 h).symm,by decide,?_⟩
 simp only[*,go_sem,seval]
 replace h:=Zn h B
 cases h
 simp only[*,go_sem,seval]
 rintro d ⟨sl,ob,n⟩ m _ h
 simp only[go_sem,seval,Zc] at m
 obtain ⟨⟨_,_,_,_⟩,_,_,_,_,_,hn⟩:=m
 subst hn
 have:=Zy (k.length)
 simp only[*,go_sem,seval]
 refine ZMH h fun _ G h=>Zd (ZgS G) ?_
 cases h
 simp only[*,go_sem,seval]
theorem ZkJ {rules_0:(List Zg)} {r:Bool} (h:Zbt rules_0=some r):Zk prog J0 82 [(false,[.sl 42 4 (A0 ZF rules_0)])] [(false,[(false,.bool r)])]:=by
 refine fnk func82 rfl ?_
 unfold Zbt at h
 simp only[fnS,f82,Zm,go_sem,seval]
 refine ZMH h fun _ y h=>Zd (Zer y) ?_
 simp only[*,go_sem,seval]
 refine Ze h (fun _ h=>?_) fun _ h=>?_<;>try simp only[*,go_sem,seval]
 refine Zi h (fun i _ st=>IV [(0,.p false [.c (.sl 42 4 (A0 ZF rules_0))]),(13,.p false [.c (.sl 42 4 (A0 ZF rules_0))]),(14,.p false [.c (.int .i64 ((rules_0.length:Nat):Int))]),(15,.p false [.c (.int .i64 ((i:Nat):Int))])] [] st) [] [] (by decide) ?_ ?_ ?_
 simp only[*,go_sem,seval]
 rintro l a ⟨⟩ ⟨sl,ob,n⟩ _ d m z h e
 simp only[go_sem,seval,Zc] at m
 obtain ⟨⟨A,_,_,_⟩,hn⟩:=m
 subst hn
 have B:=WF.slotL z A (j:=0) rfl
 have:=ZA d
 have:=ZC d
 have:=Zj (ZB d) B
 simp only[*,go_sem,seval]
 refine ZMH h fun _ C h=>Zd (Zmf C) ?_
 simp only[*,go_sem,seval]
 refine Ze h (fun _ h=>?_) fun _ h=>?_<;>try simp only[*,go_sem,seval]
 refine Zi h (fun i _ st=>IV [(0,.p false [.c (.sl 42 4 (A0 ZF rules_0))]),(4,.bp 0 0),(13,.p false [.c (.sl 42 4 (A0 ZF rules_0))]),(14,.p false [.c (.int .i64 ((rules_0.length:Nat):Int))]),(15,.p false [.c (.int .i64 ((l:Nat):Int))]),(23,.p false [.c (.sl 173 5 (A0 ZK a.cond))]),(24,.p false [.c (.int .i64 ((a.cond.length:Nat):Int))]),(25,.p false [.c (.int .i64 ((i:Nat):Int))])] [.box 42 [.c (.str a.name),.c (.int .i64 a.priority),.c (.sl 173 5 (A0 ZK a.cond)),.c (.sl 50 3 (A0 ZG a.thn))]] st) [] [48] (by decide) ?_ ?_ ?_
 simp only[*,go_sem,seval]
 rintro D b ⟨⟩ ⟨sl,ob,n⟩ _ f o E h q
 simp only[go_sem,seval,Zc] at o
 obtain ⟨⟨_,_,_,_,_,F,_,_⟩,_,hn⟩:=o
 subst hn
 have G:=WF.slotL E F (j:=0) rfl
 have:=ZA f
 have:=ZC f
 have:=Zj (ZB f) G
 simp only[*,go_sem,seval]
 refine Ze h (fun _ h=>?_) fun _ h=>?_<;>try simp only[*,go_sem,seval]
 refine ⟨_,[],[0],(A1 h).symm,by decide,?_⟩
 simp only[*,go_sem,seval]
 obtain ⟨H,I,h⟩:=Za h
 refine ZA1 (Znl I) ?_
 simp only[*,go_sem,seval]
 refine ZMH h fun g J h=>Zd (ZhN J) ?_
 simp only[*,go_sem,seval]
 refine Zi h (fun i _ st=>IV [(0,.p false [.c (.sl 42 4 (A0 ZF rules_0))]),(4,.bp 0 0),(6,.bp 1 0),(7,.p false [.row 2]),(13,.p false [.c (.sl 42 4 (A0 ZF rules_0))]),(14,.p false [.c (.int .i64 ((rules_0.length:Nat):Int))]),(15,.p false [.c (.int .i64 ((l:Nat):Int))]),(23,.p false [.c (.sl 173 5 (A0 ZK a.cond))]),(24,.p false [.c (.int .i64 ((a.cond.length:Nat):Int))]),(25,.p false [.c (.int .i64 ((D:Nat):Int))]),(38,.p false [.row 3]),(39,.p false [.c (.int .i64 ((g.length:Nat):Int))]),(40,.p false [.c (.int .i64 ((i:Nat):Int))])] [.box 42 [.c (.str a.name),.c (.int .i64 a.priority),.c (.sl 173 5 (A0 ZK a.cond)),.c (.sl 50 3 (A0 ZG a.thn))],.box 173 [.c (.int .i64 b.kind),.c (.str b.pattern.rel),.c (.sl 9 1 (A0 Zx b.pattern.args)),.c (.str b.left),.c (.str b.right)],.map .str .bool (A0 eSB H),.row 9 1 (A0 Zx g) 2] st) [] [0,49,193,241] (by decide) ?_ ?_ ?_
 simp only[*,go_sem,seval]
 rintro _ _ ⟨⟩ ⟨sl,ob,n⟩ _ k t K h u
 simp only[go_sem,seval,Zc] at t
 obtain ⟨⟨_,_,_,_,_,_,_,_,_,_,_,_,_⟩,_,_,_,L,hn⟩:=t
 subst hn
 have M:=WF.rowL K L
 have:=ZA k
 have:=ZC k
 have:=Zj (ZB k) M
 simp only[*,go_sem,seval]
 refine Ze h (fun _ h=>?_) fun _ h=>?_<;>try simp only[*,go_sem,seval]
 replace h:=Zn h u
 replace h:=Zn h q
 replace h:=Zn h e
 cases h
 simp only[*,go_sem,seval]
 refine Ze h (fun _ h=>?_) fun _ h=>?_<;>try simp only[*,go_sem,seval]
 replace h:=Zn h u
 replace h:=Zn h q
 replace h:=Zn h e
 cases h
 simp only[*,go_sem,seval]
 refine ⟨_,[],[0,1,2,3],(A1 h).symm,by decide,?_⟩
 simp only[*,go_sem,seval]
 rintro ⟨⟩ ⟨sl,ob,n⟩ v _ h
 simp only[go_sem,seval,Zc] at v
 obtain ⟨⟨_,_,_,_,_,_,_,_,_,_,_,_,_⟩,_,_,_,_,hn⟩:=v
 subst hn
 have:=Zy (g.length)
 simp only[*,go_sem,seval]
 refine ⟨_,[],[0],(A1 h).symm,by decide,?_⟩
 simp only[*,go_sem,seval]
 rintro ⟨⟩ ⟨sl,ob,n⟩ w _ h
 simp only[go_sem,seval,Zc] at w
 obtain ⟨⟨_,_,_,_,_,_,_,_⟩,_,hn⟩:=w
 subst hn
 have:=Zy (a.cond.length)
 simp only[*,go_sem,seval]
 refine ⟨_,[],[],(A1 h).symm,by decide,?_⟩
 simp only[*,go_sem,seval]
 replace h:=Zn h e
 cases h
 simp only[*,go_sem,seval]
 rintro ⟨⟩ ⟨sl,ob,n⟩ x _ h
 simp only[go_sem,seval,Zc] at x
 obtain ⟨⟨_,_,_,_⟩,hn⟩:=x
 subst hn
 have:=Zy (rules_0.length)
 iterate 2 (cases h;simp only[*,go_sem,seval])
theorem Zet {append_0:(List Zt)} {String_1:(List Zb)} {r:(List Zu)} (h:QU append_0 String_1=some r):Zk prog J0 84 [(false,[.sl 173 5 (A0 ZK append_0)]),(false,[.sl 45 2 (A0 Zl String_1)])] [(false,[(true,.sl 120 2 (A0 YK r))])]:=by
 refine fnk func84 rfl ?_
 unfold QU at h
 simp only[fnS,f84,Zm,go_sem,seval]
 refine Zi h (fun i b st=>IV [(1,.p false [.c (.sl 45 2 (A0 Zl String_1))]),(5,.p false [.row 0]),(17,.p false [.c (.sl 173 5 (A0 ZK append_0))]),(18,.p false [.c (.int .i64 ((append_0.length:Nat):Int))]),(19,.p false [.c (.int .i64 ((i:Nat):Int))])] [.row 120 2 (A0 YK b) 1] st) [(true,32,1)] [32] (by decide) ?_ ?_ ?_
 simp only[*,go_sem,seval]
 rintro l a b ⟨sl,ob,n⟩ _ d m x h _
 simp only[go_sem,seval,Zc] at m
 obtain ⟨⟨_,_,y,_,_⟩,_,hn⟩:=m
 subst hn
 have z:=WF.slotL x y (j:=0) rfl
 have:=ZA d
 have:=ZC d
 have:=Zj (ZB d) z
 simp only[*,go_sem,seval]
 refine Zi h (fun i e st=>IV [(1,.p false [.c (.sl 45 2 (A0 Zl String_1))]),(7,.bp 0 0),(8,.p false [.row 1]),(17,.p false [.c (.sl 173 5 (A0 ZK append_0))]),(18,.p false [.c (.int .i64 ((append_0.length:Nat):Int))]),(19,.p false [.c (.int .i64 ((l:Nat):Int))]),(23,.p false [.row 2]),(24,.p false [.c (.int .i64 ((b.length:Nat):Int))]),(25,.p false [.c (.int .i64 ((i:Nat):Int))])] [.box 173 [.c (.int .i64 a.kind),.c (.str a.pattern.rel),.c (.sl 9 1 (A0 Zx a.pattern.args)),.c (.str a.left),.c (.str a.right)],.row 120 2 (A0 YK e) 1,.row 120 2 (A0 YK b) 1] st) [(false,8,0),(true,145,1)] [49,145,0] (by decide) ?_ ?_ ?_
 simp only[*,go_sem,seval]
 rintro A o e ⟨sl,ob,n⟩ _ f q B h _
 simp only[go_sem,seval,Zc] at q
 obtain ⟨⟨_,_,_,_,_,_,_,_,_⟩,_,_,C,hn⟩:=q
 subst hn
 have D:=WF.rowL B C
 have:=ZA f
 have:=ZC f
 have:=Zj (ZB f) D
 simp only[*,go_sem,seval]
 refine Ze h (fun _ h=>?_) fun _ h=>?_<;>try simp only[*,go_sem,seval]
 refine ZMH h fun _ E h=>Zd (Zll E) ?_
 simp only[*,go_sem,seval]
 refine Ze h (fun _ h=>?_) fun _ h=>?_<;>try simp only[*,go_sem,seval]
 obtain ⟨F,h⟩:=Zq h
 try simp only[Nat.reduceLeDiff] at F
 simp only[*,go_sem,seval]
 refine ⟨_,[],[0,259,2],(A1 h).symm,by decide,?_⟩
 simp only[*,go_sem,seval]
 refine ⟨_,[],[0,1,2],(A1 h).symm,by decide,?_⟩
 simp only[*,go_sem,seval]
 refine Zi h (fun i g st=>IV [(1,.p false [.c (.sl 45 2 (A0 Zl String_1))]),(7,.bp 0 0),(8,.p false [.row 1]),(10,.bp 2 0),(17,.p false [.c (.sl 173 5 (A0 ZK append_0))]),(18,.p false [.c (.int .i64 ((append_0.length:Nat):Int))]),(19,.p false [.c (.int .i64 ((l:Nat):Int))]),(23,.p false [.row 3]),(24,.p false [.c (.int .i64 ((b.length:Nat):Int))]),(25,.p false [.c (.int .i64 ((A:Nat):Int))]),(41,.p false [.c (.sl 45 2 (A0 Zl String_1))]),(42,.p false [.c (.int .i64 ((String_1.length:Nat):Int))]),(43,.p false [.c (.int .i64 ((i:Nat):Int))])] [.box 173 [.c (.int .i64 a.kind),.c (.str a.pattern.rel),.c (.sl 9 1 (A0 Zx a.pattern.args)),.c (.str a.left),.c (.str a.right)],.row 120 2 (A0 YK g) 1,.box 120 [.c (.sl 45 2 (A0 Zl o.facts)),.c (.sl 166 2 (A0 Z4 o.binding))],.row 120 2 (A0 YK b) 1] st) [] [0,1,51,2] (by decide) ?_ ?_ ?_
 simp only[*,go_sem,seval]
 rintro _ _ g ⟨sl,ob,n⟩ _ k t G h _
 simp only[go_sem,seval,Zc] at t
 obtain ⟨⟨H,_,_,_,_,_,_,_,_,_,_,_,_⟩,_,_,_,_,hn⟩:=t
 subst hn
 have I:=WF.slotL G H (j:=0) rfl
 have:=ZA k
 have:=ZC k
 have:=Zj (ZB k) I
 simp only[*,go_sem,seval]
 refine ZMH h fun _ J h=>Zd (ZgE J) ?_
 simp only[*,go_sem,seval]
 refine Ze h (fun _ h=>?_) fun _ h=>?_<;>try simp only[*,go_sem,seval]
 refine ZMH h fun _ K h=>Zd (ZgI K) ?_
 simp only[*,go_sem,seval]
 refine ZMH h fun _ L h=>Zd (YO L) ?_
 obtain ⟨M,h⟩:=Zq h
 try simp only[Nat.reduceLeDiff] at M
 obtain ⟨N,h⟩:=Zq h
 try simp only[Nat.reduceLeDiff] at N
 simp only[*,go_sem,seval]
 refine ⟨_,[],[0,452,2,3],(A1 h).symm,by decide,?_⟩
 simp only[*,go_sem,seval]
 refine ⟨_,[],[0,1,2,3],(A1 h).symm,by decide,?_⟩
 simp only[*,go_sem,seval]
 rintro g ⟨sl,ob,n⟩ u _ h
 simp only[go_sem,seval,Zc] at u
 obtain ⟨⟨_,_,_,_,_,_,_,_,_,_,_,_,_⟩,_,_,_,_,hn⟩:=u
 subst hn
 have:=Zy (String_1.length)
 simp only[*,go_sem,seval]
 refine ⟨_,[],[0,1,3],(A1 h).symm,by decide,?_⟩
 simp only[*,go_sem,seval]
 rintro e ⟨sl,ob,n⟩ v _ h
 simp only[go_sem,seval,Zc] at v
 obtain ⟨⟨_,_,_,_,_,_,_,_,_⟩,_,_,_,hn⟩:=v
 subst hn
 have:=Zy (b.length)
 simp only[*,go_sem,seval]
 refine ⟨_,[],[1],(A1 h).symm,by decide,?_⟩
 simp only[*,go_sem,seval]
 rintro b ⟨sl,ob,n⟩ w _ h
 simp only[go_sem,seval,Zc] at w
 obtain ⟨⟨_,_,_,_,_⟩,_,hn⟩:=w
 subst hn
 have:=Zy (append_0.length)
 cases h
 simp only[*,go_sem,seval]
theorem ZlW {r_0:Zg} {r:Bool} (h:Zcx r_0=some r):Zk prog J0 234 [(true,ZF r_0)] [(false,[(false,.bool r)])]:=by
 refine fnk func234 rfl ?_
 unfold Zcx at h
 simp only[fnS,f234,Zm,go_sem,seval]
 refine ZMH h fun _ k h=>Zd (ZgS k) ?_
 simp only[*,go_sem,seval]
 refine Ze h (fun _ h=>?_) fun _ h=>?_<;>try simp only[*,go_sem,seval]
 refine Zi h (fun i _ st=>IV [(1,.bp 0 0),(3,.p false [.c (.int .i64 ((i:Nat):Int))])] [.box 42 [.c (.str r_0.name),.c (.int .i64 r_0.priority),.c (.sl 173 5 (A0 ZK r_0.cond)),.c (.sl 50 3 (A0 ZG r_0.thn))]] st) [] [0] (by decide) ?_ ?_ ?_
 simp only[*,go_sem,seval]
 rintro _ _ ⟨⟩ ⟨sl,ob,n⟩ _ a d l h m
 simp only[go_sem,seval,Zc] at d
 obtain ⟨⟨_,_⟩,o,hn⟩:=d
 subst hn
 have q:=WF.boxL l o (j:=2) rfl
 have:=ZA a
 have:=ZC a
 have:=Zj (ZB a) q
 simp only[*,go_sem,seval]
 refine Ze h (fun _ h=>?_) fun _ h=>?_<;>try simp only[*,go_sem,seval]
 refine ZMH h fun _ t h=>Zd (Zas t) ?_
 simp only[*,go_sem,seval]
 refine ZMH h fun _ u h=>Zd (Zbq u) ?_
 simp only[*,go_sem,seval]
 refine ZMH h fun _ v h=>Zd (Znk v) ?_
 simp only[*,go_sem,seval]
 refine Ze h (fun _ h=>?_) fun _ h=>?_<;>try simp only[*,go_sem,seval]
 refine ⟨_,[],[0],(A1 h).symm,by decide,?_⟩
 simp only[*,go_sem,seval]
 replace h:=Zn h m
 cases h
 simp only[*,go_sem,seval]
 refine ⟨_,[],[0],(A1 h).symm,by decide,?_⟩
 simp only[*,go_sem,seval]
 rintro ⟨⟩ ⟨sl,ob,n⟩ e _ h
 simp only[go_sem,seval,Zc] at e
 obtain ⟨⟨_,_⟩,_,hn⟩:=e
 subst hn
 have:=Zy (r_0.cond.length)
 simp only[*,go_sem,seval]
 refine Zi h (fun i _ st=>IV [(1,.bp 0 0),(4,.p false [.c (.int .i64 ((i:Nat):Int))])] [.box 42 [.c (.str r_0.name),.c (.int .i64 r_0.priority),.c (.sl 173 5 (A0 ZK r_0.cond)),.c (.sl 50 3 (A0 ZG r_0.thn))]] st) [] [0] (by decide) ?_ ?_ ?_
 simp only[*,go_sem,seval]
 rintro _ _ ⟨⟩ ⟨sl,ob,n⟩ _ b f w h x
 simp only[go_sem,seval,Zc] at f
 obtain ⟨⟨_,_⟩,y,hn⟩:=f
 subst hn
 have z:=WF.boxL w y (j:=3) rfl
 have:=ZA b
 have:=ZC b
 have:=Zj (ZB b) z
 simp only[*,go_sem,seval]
 refine Ze h (fun _ h=>?_) fun _ h=>?_<;>try simp only[*,go_sem,seval]
 replace h:=Zn h x
 cases h
 simp only[*,go_sem,seval]
 refine ⟨_,[],[0],(A1 h).symm,by decide,?_⟩
 simp only[*,go_sem,seval]
 rintro ⟨⟩ ⟨sl,ob,n⟩ g _ h
 simp only[go_sem,seval,Zc] at g
 obtain ⟨⟨_,_⟩,_,hn⟩:=g
 subst hn
 have:=Zy (r_0.thn.length)
 iterate 2 (cases h;simp only[*,go_sem,seval])
theorem Zm3 {l_0:(List Zg)} {r:Bool} (h:ZdU l_0=some r):Zk prog J0 237 [(false,[.sl 42 4 (A0 ZF l_0)])] [(false,[(false,.bool r)])]:=by
 refine fnk func237 rfl ?_
 unfold ZdU at h
 simp only[fnS,f237,Zm,go_sem,seval]
 refine Zi h (fun i _ st=>IV [(0,.p false [.c (.sl 42 4 (A0 ZF l_0))]),(3,.p false [.c (.int .i64 ((i:Nat):Int))])] [] st) [] [] (by decide) ?_ ?_ ?_
 simp only[*,go_sem,seval]
 rintro _ _ ⟨⟩ ⟨sl,ob,n⟩ _ a b f h d
 simp only[go_sem,seval,Zc] at b
 obtain ⟨⟨g,_⟩,hn⟩:=b
 subst hn
 have k:=WF.slotL f g (j:=0) rfl
 have:=ZA a
 have:=ZC a
 have:=Zj (ZB a) k
 simp only[*,go_sem,seval]
 refine ZMH h fun _ l h=>Zd (ZgS l) ?_
 simp only[*,go_sem,seval]
 refine Ze h (fun _ h=>?_) fun _ h=>?_<;>try simp only[*,go_sem,seval]
 refine ZMH h fun _ m h=>Zd (ZhP m) ?_
 simp only[*,go_sem,seval]
 refine Ze h (fun _ h=>?_) fun _ h=>?_<;>try simp only[*,go_sem,seval]
 replace h:=Zn h d
 cases h
 simp only[*,go_sem,seval]
 refine ⟨_,[],[],(A1 h).symm,by decide,?_⟩
 simp only[*,go_sem,seval]
 replace h:=Zn h d
 cases h
 simp only[*,go_sem,seval]
 rintro ⟨⟩ ⟨sl,ob,n⟩ e _ h
 simp only[go_sem,seval,Zc] at e
 obtain ⟨⟨_,_⟩,hn⟩:=e
 subst hn
 have:=Zy (l_0.length)
 cases h
 simp only[*,go_sem,seval]
theorem ZkW {x_0:Zt} {b_1:(List Zs)} {facts_2:(List Zb)} {r:Bool} (h:Zcl x_0 b_1 facts_2=some r):Zk prog J0 278 [(true,ZK x_0),(false,[.sl 166 2 (A0 Z4 b_1)]),(false,[.sl 45 2 (A0 Zl facts_2)])] [(false,[(false,.bool r)])]:=by
 refine fnk func278 rfl ?_
 unfold Zcl at h
 simp only[fnS,f278,Zm,go_sem,seval]
 refine ZMH h fun _ a h=>Zd (Zem a) ?_
 simp only[*,go_sem,seval]
 refine Ze h (fun _ h=>?_) fun _ h=>?_<;>try simp only[*,go_sem,seval]
 refine ZMH h fun _ b h=>Zd (QX b) ?_
 simp only[*,go_sem,seval]
 iterate 2 refine Ze h (fun _ h=>?_) fun _ h=>?_<;>try simp only[*,go_sem,seval]
 refine ZMH h fun _ c h=>Zd (ZdS c) ?_
 cases h
 simp only[*,go_sem,seval]
 refine Ze h (fun _ h=>?_) fun _ h=>?_<;>try simp only[*,go_sem,seval]
 refine ZMH h fun _ d h=>Zd (ZdS d) ?_
 cases h
 simp only[*,go_sem,seval]
 refine ZMH h fun _ e h=>Zd (Zk7 e) ?_
 iterate 3 (cases h;simp only[*,go_sem,seval])
end
end Go.Proofs.YtfehfkfdfmcgfaaGreatDoor
