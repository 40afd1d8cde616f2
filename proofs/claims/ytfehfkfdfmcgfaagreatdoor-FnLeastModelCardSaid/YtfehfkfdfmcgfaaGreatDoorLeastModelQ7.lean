/- Texts of this proof, joined: Dp5, Dp4, Dp6, Dp7, Dp10, Dp9, Dp11, Dp12, Dp13, Dp14. What each holds is said at its theorems. -/
import Derived.Test.YtfehfkfdfmcgfaaGreatDoorLeastModelQ6
set_option linter.unusedSimpArgs false
set_option linter.unusedVariables false
namespace Go.Proofs.YtfehfkfdfmcgfaaGreatDoor
open Go.Proofs.Tryz
set_option linter.unusedSimpArgs false
set_option linter.unusedVariables false
set_option maxRecDepth 1000000
set_option maxHeartbeats 4000000
theorem ZgV {s_0:ByteArray} {r:Bool} (h:ZdP s_0=some r):Zk Tryz.prog J0 141 [(false,[.str s_0])] [(false,[(false,.bool r)])]:=by
 refine fnk Tryz.func141 (by kernel_rfl) rfl (by kernel_rfl) (by kernel_rfl) ?_
 unfold ZdP at h
 simp only [fnS,f141,Zm,go_sem,seval]
 obtain ⟨d,a,h⟩:=Za h
 refine Zd (X0 a) ?_
 try simp only [*,go_sem,seval]
 refine Ze h (fun _ h=>?_) fun _ h=>?_<;>try simp only [*,go_sem,seval]
 obtain ⟨e,f,b,h⟩:=ZpS h
 try simp only [seval] at b
 try simp only [*,go_sem,seval]
 obtain ⟨g,c,h⟩:=Za h
 refine Zd (XU c) ?_
 iterate 2 (cases h;try simp only [*,go_sem,seval])
theorem Q3 {s_0:ByteArray} {r:Bool} (h:Zaz s_0=some r):Zk Tryz.prog J0 142 [(false,[.str s_0])] [(false,[(false,.bool r)])]:=by
 refine fnk Tryz.func142 (by kernel_rfl) rfl (by kernel_rfl) (by kernel_rfl) ?_
 unfold Zaz at h
 simp only [fnS,f142,Zm,go_sem,seval]
 refine Ze h (fun _ h=>?_) fun _ h=>?_<;>try simp only [*,go_sem,seval]
 obtain ⟨c,d,a,h⟩:=ZpS h
 try simp only [seval] at a
 try simp only [*,go_sem,seval]
 refine Ze h (fun _ h=>?_) fun _ h=>?_<;>try simp only [*,go_sem,seval]
 obtain ⟨e,h⟩:=Zq h
 try simp only [*,go_sem,seval]
 obtain ⟨f,b,h⟩:=Za h
 refine Zd (X0 b) ?_
 iterate 3 (cases h;try simp only [*,go_sem,seval])
theorem Zk5 {c_0:ZJ} {list_1:(List ByteArray)} {r:(ByteArray × ZJ)} (h:Zd8 c_0 list_1=some r):Zbx Tryz.prog J0 JF0 126 (.box 152 (Zbj c_0)) [(false,[.sl 9 1 (List.map Zx list_1)])] [(false,[(false,.str r.1)])] (.box 152 (Zbj r.2)):=by
 refine fnh Tryz.func126 (by kernel_rfl) rfl (by kernel_rfl) (by kernel_rfl) ?_
 unfold Zd8 at h
 have a:Z9 ⟨#[]⟩=true:=by decide
 simp only [fnH,f126,Zdh,Zdg,Xp,go_sem,seval,a]
 obtain ⟨c,b,h⟩:=Za h
 refine QL (Q7 b) ?_
 obtain ⟨d,e,f,g,h⟩:=ZbQ h
 cases h
 try simp only [*,go_sem,seval]
theorem Zej {a_0:ByteArray} {b_1:ByteArray} {r:Int} (h:Xd a_0 b_1=some r):Zk Tryz.prog J0 75 [(false,[.str a_0]),(false,[.str b_1])] [(false,[(false,.int .i64 r)])]:=by
 refine fnk Tryz.func75 (by kernel_rfl) rfl (by kernel_rfl) (by kernel_rfl) ?_
 unfold Xd at h
 simp only [fnS,f75,Zm,go_sem,seval]
 obtain ⟨d,a,h⟩:=Za h
 refine Zd (Zb1 a) ?_
 try simp only [*,go_sem,seval]
 obtain ⟨e,b,h⟩:=Za h
 refine Zd (Zb1 b) ?_
 try simp only [*,go_sem,seval]
 iterate 3 refine Ze h (fun _ h=>?_) fun _ h=>?_<;>try simp only [*,go_sem,seval]
 cases h
 try simp only [*,go_sem,seval]
 refine Ze h (fun _ h=>?_) fun _ h=>?_<;>try simp only [*,go_sem,seval]
 iterate 3 (cases h;try simp only [*,go_sem,seval])
 refine Ze h (fun _ h=>?_) fun _ h=>?_<;>try simp only [*,go_sem,seval]
 cases h
 try simp only [*,go_sem,seval]
 obtain ⟨f,c,h⟩:=Za h
 refine Zd (Zle c) ?_
 cases h
 try simp only [*,go_sem,seval]
theorem Zky {f_0:Zb} {r:Bool} (h:ZeG f_0=some r):Zk Tryz.prog J0 134 [(true,Zl f_0)] [(false,[(false,.bool r)])]:=by
 refine fnk Tryz.func134 (by kernel_rfl) rfl (by kernel_rfl) (by kernel_rfl) ?_
 unfold ZeG at h
 simp only [fnS,f134,Zm,go_sem,seval]
 obtain ⟨o,e,h⟩:=Za h
 refine Zd (Zgl e) ?_
 try simp only [*,go_sem,seval]
 iterate 2 refine Ze h (fun _ h=>?_) fun _ h=>?_<;>try simp only [*,go_sem,seval]
 cases h
 try simp only [*,go_sem,seval]
 refine Zi h (fun i _ st=>IV [(16,.p false [.c (.sl 9 1 (List.map Zx f_0.args))]),(17,.p false [.c (.int .i64 ((f_0.args.length:Nat):Int))]),(18,.p false [.c (.int .i64 ((i:Nat):Int))])] [] st) [] [] (by decide) ?_ ?_ ?_
 simp only [*,go_sem,seval]
 rintro q t ⟨⟩ ⟨sl,ob,n⟩ u a b f h g
 simp only [go_sem,seval,Zc] at b
 obtain ⟨⟨k,v,w⟩,hn⟩:=b
 subst hn
 have l:=WF.slotL f k (j:=0) rfl
 have x:=ZA a
 have y:=ZC a
 have z:=Zj (ZB a) l
 try simp only [*,go_sem,seval]
 obtain ⟨A,m,h⟩:=Za h
 refine Zd (X4 m) ?_
 try simp only [*,go_sem,seval]
 refine Ze h (fun _ h=>?_) fun _ h=>?_<;>try simp only [*,go_sem,seval]
 refine ⟨_,[],[],(Option.some.inj h).symm,by decide,?_⟩
 try simp only [*,go_sem,seval]
 replace h:=Zn h g
 cases h
 try simp only [*,go_sem,seval]
 rintro ⟨⟩ ⟨sl,ob,n⟩ d B h
 simp only [go_sem,seval,Zc] at d
 obtain ⟨⟨C,D,E⟩,hn⟩:=d
 subst hn
 have F:=Zy (f_0.args.length)
 iterate 2 (cases h;try simp only [*,go_sem,seval])
theorem Ziz {a_0:ByteArray} {b_1:ByteArray} {r:Int} (h:QV a_0 b_1=some r):Zk Tryz.prog J0 204 [(false,[.str a_0]),(false,[.str b_1])] [(false,[(false,.int .i64 r)])]:=by
 refine fnk Tryz.func204 (by kernel_rfl) rfl (by kernel_rfl) (by kernel_rfl) ?_
 unfold QV at h
 simp only [fnS,f204,Zm,go_sem,seval]
 obtain ⟨e,a,h⟩:=Za h
 refine Zd (Zcf a) ?_
 try simp only [*,go_sem,seval]
 obtain ⟨f,b,h⟩:=Za h
 refine Zd (Zcf b) ?_
 try simp only [*,go_sem,seval]
 iterate 2 refine Ze h (fun _ h=>?_) fun _ h=>?_<;>try simp only [*,go_sem,seval]
 obtain ⟨g,c,h⟩:=Za h
 refine Zd (ZbW c) ?_
 iterate 2 (cases h;try simp only [*,go_sem,seval])
 refine Ze h (fun _ h=>?_) fun _ h=>?_<;>try simp only [*,go_sem,seval]
 cases h
 try simp only [*,go_sem,seval]
 obtain ⟨i,d,h⟩:=Za h
 refine Zd (Zjc d) ?_
 cases h
 try simp only [*,go_sem,seval]
theorem QH {s_0:ByteArray} {r:Bool} (h:QI s_0=some r):Zk Tryz.prog J0 206 [(false,[.str s_0])] [(false,[(false,.bool r)])]:=by
 refine fnk Tryz.func206 (by kernel_rfl) rfl (by kernel_rfl) (by kernel_rfl) ?_
 unfold QI at h
 simp only [fnS,f206,Zm,go_sem,seval]
 obtain ⟨c,a,h⟩:=Za h
 refine Zd (X4 a) ?_
 try simp only [*,go_sem,seval]
 refine Ze h (fun _ h=>?_) fun _ h=>?_<;>try simp only [*,go_sem,seval]
 cases h
 try simp only [*,go_sem,seval]
 obtain ⟨d,b,h⟩:=Za h
 refine Zd (Zdc b) ?_
 cases h
 try simp only [*,go_sem,seval]
theorem QO {b_0:(List Zs)} {r:Bool} (h:Xz b_0=some r):Zk Tryz.prog J0 137 [(false,[.sl 166 2 (List.map Z4 b_0)])] [(false,[(false,.bool r)])]:=by
 refine fnk Tryz.func137 (by kernel_rfl) rfl (by kernel_rfl) (by kernel_rfl) ?_
 unfold Xz at h
 simp only [fnS,f137,Zm,go_sem,seval]
 refine Ze h (fun _ h=>?_) fun _ h=>?_<;>try simp only [*,go_sem,seval]
 cases h
 try simp only [*,go_sem,seval]
 refine Zi h (fun i _ st=>IV [(0,.p false [.c (.sl 166 2 (List.map Z4 b_0))]),(8,.p false [.c (.sl 166 2 (List.map Z4 b_0))]),(9,.p false [.c (.int .i64 ((b_0.length:Nat):Int))]),(10,.p false [.c (.int .i64 ((i:Nat):Int))])] [] st) [] [] (by decide) ?_ ?_ ?_
 simp only [*,go_sem,seval]
 rintro o q ⟨⟩ ⟨sl,ob,n⟩ t a b f h d
 simp only [go_sem,seval,Zc] at b
 obtain ⟨⟨g,u,v,w⟩,hn⟩:=b
 subst hn
 have k:=WF.slotL f g (j:=0) rfl
 have x:=ZA a
 have y:=ZC a
 have z:=Zj (ZB a) k
 try simp only [*,go_sem,seval]
 obtain ⟨A,l,h⟩:=Za h
 refine Zd (Zdc l) ?_
 try simp only [*,go_sem,seval]
 refine Ze h (fun _ h=>?_) fun _ h=>?_<;>try simp only [*,go_sem,seval]
 obtain ⟨B,m,h⟩:=Za h
 refine Zd (X4 m) ?_
 try simp only [*,go_sem,seval]
 iterate 2 refine Ze h (fun _ h=>?_) fun _ h=>?_<;>try simp only [*,go_sem,seval]
 obtain ⟨C,D,E,F,h⟩:=ZbQ h
 try simp only [*,go_sem,seval]
 refine Ze h (fun _ h=>?_) fun _ h=>?_<;>try simp only [*,go_sem,seval]
 refine ⟨_,[],[],(Option.some.inj h).symm,by decide,?_⟩
 try simp only [*,go_sem,seval]
 replace h:=Zn h d
 cases h
 try simp only [*,go_sem,seval]
 refine ⟨_,[],[],(Option.some.inj h).symm,by decide,?_⟩
 iterate 2 ((try simp only [*,go_sem,seval]);replace h:=Zn h d;cases h)
 try simp only [*,go_sem,seval]
 rintro ⟨⟩ ⟨sl,ob,n⟩ e G h
 simp only [go_sem,seval,Zc] at e
 obtain ⟨⟨H,I,J,K⟩,hn⟩:=e
 subst hn
 have L:=Zy (b_0.length)
 cases h
 try simp only [*,go_sem,seval]
theorem ZcR {b_0:(List Zs)} {term_1:ByteArray} {r:(ByteArray × Bool)} (h:ZaP b_0 term_1=some r):Zk Tryz.prog J0 138 [(false,[.sl 166 2 (List.map Z4 b_0)]),(false,[.str term_1])] [(false,[(false,.str r.1)]),(false,[(false,.bool r.2)])]:=by
 refine fnk Tryz.func138 (by kernel_rfl) rfl (by kernel_rfl) (by kernel_rfl) ?_
 unfold ZaP at h
 have e:Z9 ⟨#[]⟩=true:=by decide
 simp only [fnS,f138,Zm,go_sem,seval,e]
 obtain ⟨q,f,h⟩:=Za h
 refine Zd (X4 f) ?_
 try simp only [*,go_sem,seval]
 refine Ze h (fun _ h=>?_) fun _ h=>?_<;>try simp only [*,go_sem,seval]
 cases h
 try simp only [*,go_sem,seval]
 obtain ⟨t,g,h⟩:=Za h
 refine Zd (Zdc g) ?_
 try simp only [*,go_sem,seval]
 refine Ze h (fun _ h=>?_) fun _ h=>?_<;>try simp only [*,go_sem,seval]
 refine Zi h (fun i _ st=>IV [(1,.p false [.c (.str term_1)]),(14,.p false [.c (.sl 166 2 (List.map Z4 b_0))]),(15,.p false [.c (.int .i64 ((b_0.length:Nat):Int))]),(16,.p false [.c (.int .i64 ((i:Nat):Int))])] [] st) [] [] (by decide) ?_ ?_ ?_
 simp only [*,go_sem,seval]
 rintro u v ⟨⟩ ⟨sl,ob,n⟩ w a b k h l
 simp only [go_sem,seval,Zc] at b
 obtain ⟨⟨x,m,y,z⟩,hn⟩:=b
 subst hn
 have o:=WF.slotL k m (j:=0) rfl
 have A:=ZA a
 have B:=ZC a
 have C:=Zj (ZB a) o
 try simp only [*,go_sem,seval]
 refine Ze h (fun _ h=>?_) fun _ h=>?_<;>try simp only [*,go_sem,seval]
 replace h:=Zn h l
 cases h
 try simp only [*,go_sem,seval]
 refine ⟨_,[],[],(Option.some.inj h).symm,by decide,?_⟩
 try simp only [*,go_sem,seval]
 rintro ⟨⟩ ⟨sl,ob,n⟩ d D h
 simp only [go_sem,seval,Zc] at d
 obtain ⟨⟨E,F,G,H⟩,hn⟩:=d
 subst hn
 have I:=Zy (b_0.length)
 iterate 2 (cases h;try simp only [*,go_sem,seval])
theorem Qq {l_0:(List Zb)} {f_1:Zb} {r:Int} (h:Yc l_0 f_1=some r):Zk Tryz.prog J0 69 [(false,[.sl 45 2 (List.map Zl l_0)]),(true,Zl f_1)] [(false,[(false,.int .i64 r)])]:=by
 refine fnk Tryz.func69 (by kernel_rfl) rfl (by kernel_rfl) (by kernel_rfl) ?_
 unfold Yc at h
 simp only [fnS,f69,Zm,go_sem,seval]
 refine Zi h (fun i _ st=>IV [(3,.bp 0 0),(7,.p false [.c (.sl 45 2 (List.map Zl l_0))]),(8,.p false [.c (.int .i64 ((l_0.length:Nat):Int))]),(9,.p false [.c (.int .i64 ((i:Nat):Int))])] [.box 45 [.c (.str f_1.rel),.c (.sl 9 1 (List.map Zx f_1.args))]] st) [] [0] (by decide) ?_ ?_ ?_
 simp only [*,go_sem,seval]
 rintro m o ⟨⟩ ⟨sl,ob,n⟩ q a b e h f
 simp only [go_sem,seval,Zc] at b
 obtain ⟨⟨t,g,u,v⟩,w,hn⟩:=b
 subst hn
 have k:=WF.slotL e g (j:=0) rfl
 have x:=ZA a
 have y:=ZC a
 have z:=Zj (ZB a) k
 try simp only [*,go_sem,seval]
 obtain ⟨A,l,h⟩:=Za h
 refine Zd (ZmL l) ?_
 try simp only [*,go_sem,seval]
 refine Ze h (fun _ h=>?_) fun _ h=>?_<;>try simp only [*,go_sem,seval]
 replace h:=Zn h f
 cases h
 try simp only [*,go_sem,seval]
 refine ⟨_,[],[0],(Option.some.inj h).symm,by decide,?_⟩
 try simp only [*,go_sem,seval]
 rintro ⟨⟩ ⟨sl,ob,n⟩ d B h
 simp only [go_sem,seval,Zc] at d
 obtain ⟨⟨C,D,E,F⟩,G,hn⟩:=d
 subst hn
 have H:=Zy (l_0.length)
 cases h
 try simp only [*,go_sem,seval]
theorem ZdX {l_0:(List ByteArray)} {r:(List ByteArray)} (h:QM l_0=some r):Zk Tryz.prog J0 200 [(false,[.sl 9 1 (List.map Zx l_0)])] [(false,[(false,.sl 9 1 (List.map Zx r))])]:=by
 refine fnk Tryz.func200 (by kernel_rfl) rfl (by kernel_rfl) (by kernel_rfl) ?_
 unfold QM at h
 simp only [fnS,f200,Zm,go_sem,seval]
 refine Zi h (fun i a st=>IV [(3,.p false [.row 0]),(6,.p false [.c (.sl 9 1 (List.map Zx l_0))]),(7,.p false [.c (.int .i64 ((l_0.length:Nat):Int))]),(8,.p false [.c (.int .i64 ((i:Nat):Int))])] [.row 9 1 (List.map Zx a) 2] st) [(false,3,0)] [80] (by decide) ?_ ?_ ?_
 simp only [*,go_sem,seval]
 rintro o q a ⟨sl,ob,n⟩ t b d f h u
 simp only [go_sem,seval,Zc] at d
 obtain ⟨⟨v,g,w,x⟩,y,hn⟩:=d
 subst hn
 have k:=WF.slotL f g (j:=0) rfl
 have z:=ZA b
 have A:=ZC b
 have B:=Zj (ZB b) k
 try simp only [*,go_sem,seval]
 obtain ⟨C,l,h⟩:=Za h
 refine Zd (Zdc l) ?_
 try simp only [*,go_sem,seval]
 refine Ze h (fun _ h=>?_) fun _ h=>?_<;>try simp only [*,go_sem,seval]
 obtain ⟨m,h⟩:=Zq h
 try simp only [Nat.reduceLeDiff] at m
 try simp only [*,go_sem,seval]
 refine ⟨_,[],[145],(Option.some.inj h).symm,by decide,?_⟩
 try simp only [*,go_sem,seval]
 refine ⟨_,[],[0],(Option.some.inj h).symm,by decide,?_⟩
 try simp only [*,go_sem,seval]
 rintro a ⟨sl,ob,n⟩ e D h
 simp only [go_sem,seval,Zc] at e
 obtain ⟨⟨E,F,G,H⟩,I,hn⟩:=e
 subst hn
 have J:=Zy (l_0.length)
 cases h
 try simp only [*,go_sem,seval]
theorem Znl {rules_0:(List Zg)} {a_1:ByteArray} {r:(List (ByteArray × Bool))} (h:Zde rules_0 a_1=some r):Zmx Tryz.prog J0 77 [(false,[.sl 42 4 (List.map ZF rules_0)]),(false,[.str a_1])] (.map .str .bool (List.map eSB r)):=by
 refine fnb Tryz.func77 (by kernel_rfl) rfl (by kernel_rfl) (by kernel_rfl) ?_
 unfold Zde at h
 simp only [fnB,f77,Zm,go_sem,seval]
 refine Yo h (fun s st=>match s with | (mp_42,row_43)=>IV [(0,.p false [.c (.sl 42 4 (List.map ZF rules_0))]),(5,.p false [.row 0]),(6,.p false [.row 1])] [.map .str .bool (List.map eSB mp_42),.row 9 1 (List.map Zx row_43) 2] st) [] [16,64] (by decide) ?_ ?_
 ·simp only [*,go_sem,seval]
 ·rintro ⟨mp_42,row_43⟩ ⟨sl,ob,n⟩ y1 hI2 hW3 h hy1
  simp only [go_sem,seval,Zc] at hI2
  obtain ⟨⟨g4_0,g4_5,g4_6⟩,og4_0,og4_1,hn⟩:=hI2
  subst hn
  try simp only [*,go_sem,seval]
  refine Ze h (fun _ h=>?_) fun _ h=>?_<;>try simp only [*,go_sem,seval]
  ·obtain ⟨p6,h⟩:=Zq h
   obtain ⟨x44,e7,h⟩:=Za h
   try simp only [seval] at e7
   obtain ⟨p8,h⟩:=Zq h
   try simp only [*,go_sem,seval]
   refine Zi h (fun i s st=>match s with | (mp_57,row_58)=>IV [(0,.p false [.c (.sl 42 4 (List.map ZF rules_0))]),(5,.p false [.row 0]),(6,.p false [.row 1]),(7,.p false [.c (.str x44)]),(23,.p false [.c (.sl 42 4 (List.map ZF rules_0))]),(24,.p false [.c (.int .i64 ((rules_0.length:Nat):Int))]),(25,.p false [.c (.int .i64 ((i:Nat):Int))])] [.map .str .bool (List.map eSB mp_57),.row 9 1 (List.map Zx row_58) 2] st) [] [0,130] (by decide) ?_ ?_ ?_
   ·simp only [*,go_sem,seval]
   ·rintro i72 x73 ⟨mp_57,row_58⟩ ⟨sl,ob,n⟩ y9 hx10 hI11 hW12 h hy9
    simp only [go_sem,seval,Zc] at hI11
    obtain ⟨⟨g13_0,g13_5,g13_6,g13_7,g13_23,g13_24,g13_25⟩,og13_0,og13_1,hn⟩:=hI11
    subst hn
    have hlhx10:=WF.slotL hW12 g13_0 (j:=0) rfl
    have q14:=ZA hx10
    have q15:=ZC hx10
    have q16:=Zj (ZB hx10) hlhx10
    try simp only [*,go_sem,seval]
    obtain ⟨v74,e17,h⟩:=Za h
    refine Zd (by have hh:=ZhN e17;first|exact hh|(simp only [*,go_sem] at hh;exact hh)) ?_
    try simp only [*,go_sem,seval]
    obtain ⟨v75,e18,h⟩:=Za h
    refine Zd (by have hh:=Zac e18;first|exact hh|(simp only [*,go_sem] at hh;exact hh)) ?_
    try simp only [*,go_sem,seval]
    refine Ze h (fun _ h=>?_) fun _ h=>?_<;>try simp only [*,go_sem,seval]
    ·obtain ⟨v76,e20,h⟩:=Za h
     refine Zd (by have hh:=Zo9 e20;first|exact hh|(simp only [*,go_sem] at hh;exact hh)) ?_
     try simp only [*,go_sem,seval]
     refine Zi h (fun i s st=>match s with | (mp_80,row_81)=>IV [(0,.p false [.c (.sl 42 4 (List.map ZF rules_0))]),(5,.p false [.row 0]),(6,.p false [.row 1]),(7,.p false [.c (.str x44)]),(23,.p false [.c (.sl 42 4 (List.map ZF rules_0))]),(24,.p false [.c (.int .i64 ((rules_0.length:Nat):Int))]),(25,.p false [.c (.int .i64 ((i72:Nat):Int))]),(35,.p false [.row 2]),(36,.p false [.c (.int .i64 ((v76.length:Nat):Int))]),(37,.p false [.c (.int .i64 ((i:Nat):Int))])] [.map .str .bool (List.map eSB mp_80),.row 9 1 (List.map Zx row_81) 2,.row 9 1 (List.map Zx v76) 2] st) [] [0,1,178] (by decide) ?_ ?_ ?_
     ·simp only [*,go_sem,seval]
     ·rintro i83 x84 ⟨mp_80,row_81⟩ ⟨sl,ob,n⟩ y21 hx22 hI23 hW24 h hy21
      simp only [go_sem,seval,Zc] at hI23
      obtain ⟨⟨g25_0,g25_5,g25_6,g25_7,g25_23,g25_24,g25_25,g25_35,g25_36,g25_37⟩,og25_0,og25_1,og25_2,hn⟩:=hI23
      subst hn
      have hlhx22:=WF.rowL hW24 og25_2
      have q26:=ZA hx22
      have q27:=ZC hx22
      have q28:=Zj (ZB hx22) hlhx22
      try simp only [*,go_sem,seval]
      refine Ze h (fun _ h=>?_) fun _ h=>?_<;>try simp only [*,go_sem,seval]
      ·refine ⟨_,[],[0,1,2],(Option.some.inj h).symm,by decide,?_⟩
       try simp only [*,go_sem,seval]
      ·obtain ⟨p30,h⟩:=Zq h
       try simp only [Nat.reduceLeDiff] at p30
       try simp only [*,go_sem,seval]
       refine ⟨_,[],[0,227,2],(Option.some.inj h).symm,by decide,?_⟩
       try simp only [*,go_sem,seval]
     ·rintro ⟨mp_80,row_81⟩ ⟨sl,ob,n⟩ hI31 hW32 h
      simp only [go_sem,seval,Zc] at hI31
      obtain ⟨⟨g33_0,g33_5,g33_6,g33_7,g33_23,g33_24,g33_25,g33_35,g33_36,g33_37⟩,og33_0,og33_1,og33_2,hn⟩:=hI31
      subst hn
      have q34:=Zy (v76.length)
      try simp only [*,go_sem,seval]
      refine ⟨_,[],[0,1],(Option.some.inj h).symm,by decide,?_⟩
      try simp only [*,go_sem,seval]
    ·refine ⟨_,[],[0,1],(Option.some.inj h).symm,by decide,?_⟩
     try simp only [*,go_sem,seval]
   ·rintro ⟨mp_57,row_58⟩ ⟨sl,ob,n⟩ hI35 hW36 h
    simp only [go_sem,seval,Zc] at hI35
    obtain ⟨⟨g37_0,g37_5,g37_6,g37_7,g37_23,g37_24,g37_25⟩,og37_0,og37_1,hn⟩:=hI35
    subst hn
    have q38:=Zy (rules_0.length)
    try simp only [*,go_sem,seval]
    refine ⟨_,[],[0,1],(Option.some.inj h).symm,by decide,?_⟩
    try simp only [*,go_sem,seval]
  ·replace h:=Zn h hy1
   cases h
   try simp only [*,go_sem,seval]
theorem ZgI {l_0:(List Zb)} {r:(List Zb)} (h:Za7 l_0=some r):Zk Tryz.prog J0 83 [(false,[.sl 45 2 (List.map Zl l_0)])] [(false,[(false,.sl 45 2 (List.map Zl r))])]:=by
 refine fnk Tryz.func83 (by kernel_rfl) rfl (by kernel_rfl) (by kernel_rfl) ?_
 unfold Za7 at h
 simp only [fnS,f83,Zm,go_sem,seval]
 refine Zi h (fun i a st=>IV [(3,.p false [.row 0]),(6,.p false [.c (.sl 45 2 (List.map Zl l_0))]),(7,.p false [.c (.int .i64 ((l_0.length:Nat):Int))]),(8,.p false [.c (.int .i64 ((i:Nat):Int))])] [.row 45 2 (List.map Zl a) 2] st) [(false,3,0)] [80] (by decide) ?_ ?_ ?_
 simp only [*,go_sem,seval]
 rintro o q a ⟨sl,ob,n⟩ t b d f h u
 simp only [go_sem,seval,Zc] at d
 obtain ⟨⟨v,g,w,x⟩,y,hn⟩:=d
 subst hn
 have k:=WF.slotL f g (j:=0) rfl
 have z:=ZA b
 have A:=ZC b
 have B:=Zj (ZB b) k
 try simp only [*,go_sem,seval]
 obtain ⟨C,l,h⟩:=Za h
 refine Zd (YO l) ?_
 obtain ⟨m,h⟩:=Zq h
 try simp only [Nat.reduceLeDiff] at m
 try simp only [*,go_sem,seval]
 refine ⟨_,[],[145],(Option.some.inj h).symm,by decide,?_⟩
 try simp only [*,go_sem,seval]
 rintro a ⟨sl,ob,n⟩ e D h
 simp only [go_sem,seval,Zc] at e
 obtain ⟨⟨E,F,G,H⟩,I,hn⟩:=e
 subst hn
 have J:=Zy (l_0.length)
 cases h
 try simp only [*,go_sem,seval]
theorem Zma {l_0:(List Zf)} {r_1:Zf} {r:Bool} (h:Za5 l_0 r_1=some r):Zk Tryz.prog J0 190 [(false,[.sl 199 3 (List.map ZE l_0)]),(true,ZE r_1)] [(false,[(false,.bool r)])]:=by
 refine fnk Tryz.func190 (by kernel_rfl) rfl (by kernel_rfl) (by kernel_rfl) ?_
 unfold Za5 at h
 simp only [fnS,f190,Zm,go_sem,seval]
 refine Zi h (fun i _ st=>IV [(3,.bp 0 0),(7,.p false [.c (.sl 199 3 (List.map ZE l_0))]),(8,.p false [.c (.int .i64 ((l_0.length:Nat):Int))]),(9,.p false [.c (.int .i64 ((i:Nat):Int))])] [.box 199 [.c (.int .i64 r_1.for_),.c (.sl 3 1 (List.map ZI r_1.inn)),.c (.sl 3 1 (List.map ZI r_1.outs))]] st) [] [0] (by decide) ?_ ?_ ?_
 simp only [*,go_sem,seval]
 rintro m o ⟨⟩ ⟨sl,ob,n⟩ q a b e h f
 simp only [go_sem,seval,Zc] at b
 obtain ⟨⟨t,g,u,v⟩,w,hn⟩:=b
 subst hn
 have k:=WF.slotL e g (j:=0) rfl
 have x:=ZA a
 have y:=ZC a
 have z:=Zj (ZB a) k
 try simp only [*,go_sem,seval]
 obtain ⟨A,l,h⟩:=Za h
 refine Zd (ZkG l) ?_
 try simp only [*,go_sem,seval]
 refine Ze h (fun _ h=>?_) fun _ h=>?_<;>try simp only [*,go_sem,seval]
 replace h:=Zn h f
 cases h
 try simp only [*,go_sem,seval]
 refine ⟨_,[],[0],(Option.some.inj h).symm,by decide,?_⟩
 try simp only [*,go_sem,seval]
 rintro ⟨⟩ ⟨sl,ob,n⟩ d B h
 simp only [go_sem,seval,Zc] at d
 obtain ⟨⟨C,D,E,F⟩,G,hn⟩:=d
 subst hn
 have H:=Zy (l_0.length)
 cases h
 try simp only [*,go_sem,seval]
theorem Zq9 {b_0:Zr} {r:(List Bool)} (h:Zgt b_0=some r):Zk Tryz.prog J0 129 [(true,XY b_0)] [(false,[(false,.sl 4 1 (List.map ZfM r))])]:=by
 refine fnk Tryz.func129 (by kernel_rfl) rfl (by kernel_rfl) (by kernel_rfl) ?_
 unfold Zgt at h
 simp only [fnS,f129,Zm,go_sem,seval]
 obtain ⟨a,g,h⟩:=Za h
 refine Zd (Zqy g) ?_
 try simp only [*,go_sem,seval]
 refine Zi h (fun i b st=>IV [(3,.p false [.row 0]),(7,.p false [.row 1]),(8,.p false [.c (.int .i64 ((a.length:Nat):Int))]),(9,.p false [.c (.int .i64 ((i:Nat):Int))])] [.row 4 1 (List.map ZfM b) 2,.row 3 1 (List.map ZI a) 2] st) [(false,3,0)] [112,64] (by decide) ?_ ?_ ?_
 simp only [*,go_sem,seval]
 rintro o q b ⟨sl,ob,n⟩ t d e j h u
 simp only [go_sem,seval,Zc] at e
 obtain ⟨⟨v,w,x,y⟩,z,k,hn⟩:=e
 subst hn
 have l:=WF.rowL j k
 have A:=ZA d
 have B:=ZC d
 have C:=Zj (ZB d) l
 obtain ⟨m,h⟩:=Zq h
 try simp only [Nat.reduceLeDiff] at m
 try simp only [*,go_sem,seval]
 refine ⟨_,[],[130,1],(Option.some.inj h).symm,by decide,?_⟩
 try simp only [*,go_sem,seval]
 rintro b ⟨sl,ob,n⟩ f D h
 simp only [go_sem,seval,Zc] at f
 obtain ⟨⟨E,F,G,H⟩,I,J,hn⟩:=f
 subst hn
 have K:=Zy (a.length)
 cases h
 try simp only [*,go_sem,seval]
theorem Zb0 {l_0:(List Zb)} {f_1:Zb} {r:Int} (h:QT l_0 f_1=some r):Zk Tryz.prog J0 76 [(false,[.sl 45 2 (List.map Zl l_0)]),(true,Zl f_1)] [(false,[(false,.int .i64 r)])]:=by
 refine fnk Tryz.func76 (by kernel_rfl) rfl (by kernel_rfl) (by kernel_rfl) ?_
 unfold QT at h
 simp only [fnS,f76,Zm,go_sem,seval]
 refine Zi h (fun i _ st=>IV [(0,.p false [.c (.sl 45 2 (List.map Zl l_0))]),(3,.bp 0 0),(5,.p false [.c (.int .i64 ((i:Nat):Int))])] [.box 45 [.c (.str f_1.rel),.c (.sl 9 1 (List.map Zx f_1.args))]] st) [] [0] (by decide) ?_ ?_ ?_
 simp only [*,go_sem,seval]
 rintro m o ⟨⟩ ⟨sl,ob,n⟩ q a b e h f
 simp only [go_sem,seval,Zc] at b
 obtain ⟨⟨g,t,u⟩,v,hn⟩:=b
 subst hn
 have k:=WF.slotL e g (j:=0) rfl
 have w:=ZA a
 have x:=ZC a
 have y:=Zj (ZB a) k
 try simp only [*,go_sem,seval]
 obtain ⟨z,l,h⟩:=Za h
 refine Zd (Zry l) ?_
 try simp only [*,go_sem,seval]
 refine Ze h (fun _ h=>?_) fun _ h=>?_<;>try simp only [*,go_sem,seval]
 replace h:=Zn h f
 cases h
 try simp only [*,go_sem,seval]
 refine ⟨_,[],[0],(Option.some.inj h).symm,by decide,?_⟩
 try simp only [*,go_sem,seval]
 rintro ⟨⟩ ⟨sl,ob,n⟩ d A h
 simp only [go_sem,seval,Zc] at d
 obtain ⟨⟨B,C,D⟩,E,hn⟩:=d
 subst hn
 have F:=Zy (l_0.length)
 cases h
 try simp only [*,go_sem,seval]
theorem Zeq {l_0:(List Zb)} {r:(List Zb)} (h:ZaJ l_0=some r):Zk Tryz.prog J0 88 [(false,[.sl 45 2 (List.map Zl l_0)])] [(false,[(false,.sl 45 2 (List.map Zl r))])]:=by
 refine fnk Tryz.func88 (by kernel_rfl) rfl (by kernel_rfl) (by kernel_rfl) ?_
 unfold ZaJ at h
 simp only [fnS,f88,Zm,go_sem,seval]
 refine Zi h (fun i a st=>IV [(0,.p false [.c (.sl 45 2 (List.map Zl l_0))]),(3,.p false [.row 0]),(4,.p false [.c (.int .i64 ((i:Nat):Int))])] [.row 45 2 (List.map Zl a) 2] st) [] [16] (by decide) ?_ ?_ ?_
 simp only [*,go_sem,seval]
 rintro o q a ⟨sl,ob,n⟩ t b d f h u
 simp only [go_sem,seval,Zc] at d
 obtain ⟨⟨g,v,w⟩,x,hn⟩:=d
 subst hn
 have k:=WF.slotL f g (j:=0) rfl
 have y:=ZA b
 have z:=ZC b
 have A:=Zj (ZB b) k
 try simp only [*,go_sem,seval]
 obtain ⟨B,l,h⟩:=Za h
 refine Zd (Xa l) ?_
 obtain ⟨m,h⟩:=Zq h
 try simp only [Nat.reduceLeDiff] at m
 try simp only [*,go_sem,seval]
 refine ⟨_,[],[177],(Option.some.inj h).symm,by decide,?_⟩
 try simp only [*,go_sem,seval]
 rintro a ⟨sl,ob,n⟩ e C h
 simp only [go_sem,seval,Zc] at e
 obtain ⟨⟨D,E,F⟩,G,hn⟩:=e
 subst hn
 have H:=Zy (l_0.length)
 cases h
 try simp only [*,go_sem,seval]
theorem ZkF {append_0:(List Zg)} {String_1:ByteArray} {a_2:ByteArray} {r:Bool} (h:Zbg append_0 String_1 a_2=some r):Zk Tryz.prog J0 236 [(false,[.sl 42 4 (List.map ZF append_0)]),(false,[.str String_1]),(false,[.str a_2])] [(false,[(false,.bool r)])]:=by
 refine fnk Tryz.func236 (by kernel_rfl) rfl (by kernel_rfl) (by kernel_rfl) ?_
 unfold Zbg at h
 simp only [fnS,f236,Zm,go_sem,seval]
 refine Yo h (fun s st=>match s with | (row_55,u_56)=>IV [(0,.p false [.c (.sl 42 4 (List.map ZF append_0))]),(2,.p false [.c (.str a_2)]),(7,.p false [.row 0]),(8,.p false [.c (.int .i64 u_56)])] [.row 9 1 (List.map Zx row_55) 2] st) [] [32] (by decide) ?_ ?_
 ·simp only [*,go_sem,seval]
 ·rintro ⟨row_55,u_56⟩ ⟨sl,ob,n⟩ y1 hI2 hW3 h hy1
  simp only [go_sem,seval,Zc] at hI2
  obtain ⟨⟨g4_0,g4_2,g4_7,g4_8⟩,og4_0,hn⟩:=hI2
  subst hn
  try simp only [*,go_sem,seval]
  refine Ze h (fun _ h=>?_) fun _ h=>?_<;>try simp only [*,go_sem,seval]
  ·refine Zi h (fun i row_74 st=>IV [(0,.p false [.c (.sl 42 4 (List.map ZF append_0))]),(2,.p false [.c (.str a_2)]),(7,.p false [.row 0]),(8,.p false [.c (.int .i64 u_56)]),(9,.p false [.c (.int .i64 ((i:Nat):Int))])] [.row 9 1 (List.map Zx row_74) 2] st) [] [0] (by decide) ?_ ?_ ?_
   ·simp only [*,go_sem,seval]
   ·rintro i93 x94 row_74 ⟨sl,ob,n⟩ y6 hx7 hI8 hW9 h hy6
    simp only [go_sem,seval,Zc] at hI8
    obtain ⟨⟨g10_0,g10_2,g10_7,g10_8,g10_9⟩,og10_0,hn⟩:=hI8
    subst hn
    have hlhx7:=WF.slotL hW9 g10_0 (j:=0) rfl
    have q11:=ZA hx7
    have q12:=ZC hx7
    have q13:=Zj (ZB hx7) hlhx7
    try simp only [*,go_sem,seval]
    obtain ⟨v95,e14,h⟩:=Za h
    refine Zd (by have hh:=ZhE e14;first|exact hh|(simp only [*,go_sem] at hh;exact hh)) ?_
    obtain ⟨p15,h⟩:=Zq h
    obtain ⟨x96,e16,h⟩:=Za h
    try simp only [*,go_sem,seval]
    obtain ⟨v97,e17,h⟩:=Za h
    refine Zd (by have hh:=Yz e17;first|exact hh|(simp only [*,go_sem] at hh;exact hh)) ?_
    try simp only [*,go_sem,seval]
    refine Ze h (fun _ h=>?_) fun _ h=>?_<;>try simp only [*,go_sem,seval]
    ·obtain ⟨v98,e19,h⟩:=Za h
     refine Zd (by have hh:=Zpg e19;first|exact hh|(simp only [*,go_sem] at hh;exact hh)) ?_
     try simp only [*,go_sem,seval]
     obtain ⟨v99,e20,h⟩:=Za h
     refine Zd (by have hh:=Yz e20;first|exact hh|(simp only [*,go_sem] at hh;exact hh)) ?_
     try simp only [*,go_sem,seval]
     refine Ze h (fun _ h=>?_) fun _ h=>?_<;>try simp only [*,go_sem,seval]
     ·replace h:=Zn h hy6
      replace h:=Zn h hy1
      cases h
      try simp only [*,go_sem,seval]
     ·refine Zi h (fun i row_105 st=>IV [(0,.p false [.c (.sl 42 4 (List.map ZF append_0))]),(2,.p false [.c (.str a_2)]),(7,.p false [.row 0]),(8,.p false [.c (.int .i64 u_56)]),(9,.p false [.c (.int .i64 ((i93:Nat):Int))]),(10,.p false [.row 1]),(11,.p false [.c (.int .i64 ((i:Nat):Int))])] [.row 9 1 (List.map Zx row_105) 2,.row 9 1 (List.map Zx v98) 2] st) [] [0,305] (by decide) ?_ ?_ ?_
      ·simp only [*,go_sem,seval]
      ·rintro i108 x109 row_105 ⟨sl,ob,n⟩ y22 hx23 hI24 hW25 h hy22
       simp only [go_sem,seval,Zc] at hI24
       obtain ⟨⟨g26_0,g26_2,g26_7,g26_8,g26_9,g26_10,g26_11⟩,og26_0,og26_1,hn⟩:=hI24
       subst hn
       have hlhx23:=WF.rowL hW25 og26_1
       have q27:=ZA hx23
       have q28:=ZC hx23
       have q29:=Zj (ZB hx23) hlhx23
       try simp only [*,go_sem,seval]
       obtain ⟨v110,e30,h⟩:=Za h
       refine Zd (by have hh:=Yz e30;first|exact hh|(simp only [*,go_sem] at hh;exact hh)) ?_
       try simp only [*,go_sem,seval]
       refine Ze h (fun _ h=>?_) fun _ h=>?_<;>try simp only [*,go_sem,seval]
       ·refine ⟨_,[],[0,1],(Option.some.inj h).symm,by decide,?_⟩
        try simp only [*,go_sem,seval]
       ·obtain ⟨p32,h⟩:=Zq h
        try simp only [Nat.reduceLeDiff] at p32
        try simp only [*,go_sem,seval]
        refine ⟨_,[],[274,1],(Option.some.inj h).symm,by decide,?_⟩
        try simp only [*,go_sem,seval]
      ·rintro row_105 ⟨sl,ob,n⟩ hI33 hW34 h
       simp only [go_sem,seval,Zc] at hI33
       obtain ⟨⟨g35_0,g35_2,g35_7,g35_8,g35_9,g35_10,g35_11⟩,og35_0,og35_1,hn⟩:=hI33
       subst hn
       have q36:=Zy (v98.length)
       try simp only [*,go_sem,seval]
       refine ⟨_,[],[0],(Option.some.inj h).symm,by decide,?_⟩
       try simp only [*,go_sem,seval]
    ·refine ⟨_,[],[0],(Option.some.inj h).symm,by decide,?_⟩
     try simp only [*,go_sem,seval]
   ·rintro row_74 ⟨sl,ob,n⟩ hI37 hW38 h
    simp only [go_sem,seval,Zc] at hI37
    obtain ⟨⟨g39_0,g39_2,g39_7,g39_8,g39_9⟩,og39_0,hn⟩:=hI37
    subst hn
    have q40:=Zy (append_0.length)
    try simp only [*,go_sem,seval]
    refine ⟨_,[],[0],(Option.some.inj h).symm,by decide,?_⟩
    try simp only [*,go_sem,seval]
  ·replace h:=Zn h hy1
   cases h
   try simp only [*,go_sem,seval]
theorem ZhK {s_0:ByteArray} {r:Bool} (h:ZdN s_0=some r):Zk Tryz.prog J0 338 [(false,[.str s_0])] [(false,[(false,.bool r)])]:=by
 refine fnk Tryz.func338 (by kernel_rfl) rfl (by kernel_rfl) (by kernel_rfl) ?_
 unfold ZdN at h
 simp only [fnS,f338,Zm,go_sem,seval]
 obtain ⟨b,a,h⟩:=Za h
 refine Zd (Zb1 a) ?_
 cases h
 try simp only [*,go_sem,seval]
end Go.Proofs.YtfehfkfdfmcgfaaGreatDoor
namespace Go.Proofs.YtfehfkfdfmcgfaaGreatDoor
open Go.Proofs.Tryz
set_option linter.unusedSimpArgs false
set_option linter.unusedVariables false
set_option maxRecDepth 1000000
set_option maxHeartbeats 4000000
theorem ZmY {append_0:Zr} {String_1:Int} {r:(List Bool)} (h:Zdf append_0 String_1=some r):Zk Tryz.prog J0 293 [(true,XY append_0),(false,[.int .i64 String_1])] [(false,[(false,.sl 4 1 (List.map ZfM r))])]:=by
 refine fnk Tryz.func293 (by kernel_rfl) rfl (by kernel_rfl) (by kernel_rfl) ?_
 unfold Zdf at h
 simp only [fnS,f293,Zm,go_sem,seval]
 obtain ⟨p1,h⟩:=Zq h
 try simp only [*,go_sem,seval]
 refine Yo h (fun s st=>match s with | (row_53,row_54,u_55)=>IV [(2,.bp 0 0),(5,.p false [.row 1]),(6,.p false [.row 2]),(7,.p false [.c (.int .i64 u_55)])] [.box 64 [.c (.int .i64 append_0.nodes),.c (.sl 199 3 (List.map ZE append_0.reasons))],.row 4 1 (List.map ZfM row_53) 2,.row 3 1 (List.map ZI row_54) 2] st) [] [0,64,112] (by decide) ?_ ?_
 ·simp only [*,go_sem,seval]
 ·rintro ⟨row_53,row_54,u_55⟩ ⟨sl,ob,n⟩ y2 hI3 hW4 h hy2
  simp only [go_sem,seval,Zc] at hI3
  obtain ⟨⟨g5_2,g5_5,g5_6,g5_7⟩,og5_0,og5_1,og5_2,hn⟩:=hI3
  subst hn
  try simp only [*,go_sem,seval]
  refine Ze h (fun _ h=>?_) fun _ h=>?_<;>try simp only [*,go_sem,seval]
  ·refine Zi h (fun i s st=>match s with | (row_81,row_82)=>IV [(2,.bp 0 0),(5,.p false [.row 1]),(6,.p false [.row 2]),(7,.p false [.c (.int .i64 u_55)]),(8,.p false [.c (.int .i64 ((i:Nat):Int))])] [.box 64 [.c (.int .i64 append_0.nodes),.c (.sl 199 3 (List.map ZE append_0.reasons))],.row 4 1 (List.map ZfM row_81) 2,.row 3 1 (List.map ZI row_82) 2] st) [] [0,1,2] (by decide) ?_ ?_ ?_
   ·simp only [*,go_sem,seval]
   ·rintro i95 x96 ⟨row_81,row_82⟩ ⟨sl,ob,n⟩ y7 hx8 hI9 hW10 h hy7
    simp only [go_sem,seval,Zc] at hI9
    obtain ⟨⟨g11_2,g11_5,g11_6,g11_7,g11_8⟩,og11_0,og11_1,og11_2,hn⟩:=hI9
    subst hn
    have hlhx8:=WF.boxL hW10 og11_0 (j:=1) rfl
    have q12:=ZA hx8
    have q13:=ZC hx8
    have q14:=Zj (ZB hx8) hlhx8
    obtain ⟨p15,h⟩:=Zq h
    obtain ⟨x97,e16,h⟩:=Za h
    try simp only [*,go_sem,seval]
    refine Ze h (fun _ h=>?_) fun _ h=>?_<;>try simp only [*,go_sem,seval]
    ·refine ⟨_,[],[0,1,2],(Option.some.inj h).symm,by decide,?_⟩
     try simp only [*,go_sem,seval]
    ·obtain ⟨v98,e18,h⟩:=Za h
     refine Zd (by have hh:=ZqB e18;first|exact hh|(simp only [*,go_sem] at hh;exact hh)) ?_
     obtain ⟨p19,h⟩:=Zq h
     try simp only [Nat.reduceLeDiff] at p19
     try simp only [*,go_sem,seval]
     refine Yo h (fun s st=>match s with | (row_104,row_105,u_101)=>IV [(2,.bp 0 0),(5,.p false [.row 1]),(6,.p false [.row 2]),(7,.p false [.c (.int .i64 u_55)]),(8,.p false [.c (.int .i64 ((i95:Nat):Int))]),(9,.p false [.row 3]),(10,.p false [.c (.int .i64 u_101)])] [.box 64 [.c (.int .i64 append_0.nodes),.c (.sl 199 3 (List.map ZE append_0.reasons))],.row 4 1 (List.map ZfM row_104) 2,.row 3 1 (List.map ZI row_105) 2,.row 3 1 (List.map ZI (v98++x96.outs)) 2] st) [] [0,1,2,467] (by decide) ?_ ?_
     ·simp only [*,go_sem,seval]
     ·rintro ⟨row_104,row_105,u_101⟩ ⟨sl,ob,n⟩ y20 hI21 hW22 h hy20
      simp only [go_sem,seval,Zc] at hI21
      obtain ⟨⟨g23_2,g23_5,g23_6,g23_7,g23_8,g23_9,g23_10⟩,og23_0,og23_1,og23_2,og23_3,hn⟩:=hI21
      subst hn
      try simp only [*,go_sem,seval]
      refine Ze h (fun _ h=>?_) fun _ h=>?_<;>try simp only [*,go_sem,seval]
      ·obtain ⟨p25,h⟩:=Zq h
       obtain ⟨x106,e26,h⟩:=Za h
       have e27:(List.map ZI v98++List.map ZI x96.outs)[(Int.toNat u_101)]?=some (ZI x106):=by rw [←List.map_append,List.getElem?_map,e26];rfl
       obtain ⟨p28,h⟩:=Zq h
       obtain ⟨x107,e29,h⟩:=Za h
       try simp only [*,go_sem,seval]
       refine Ze h (fun _ h=>?_) fun _ h=>?_<;>try simp only [*,go_sem,seval]
       ·refine ⟨_,[],[0,1,2,3],(Option.some.inj h).symm,by decide,?_⟩
        try simp only [*,go_sem,seval]
       ·obtain ⟨p31,h⟩:=Zq h
        try simp only [Nat.reduceLeDiff] at p31
        try simp only [*,go_sem,seval]
        refine ⟨_,[],[0,1,404,3],(Option.some.inj h).symm,by decide,?_⟩
        try simp only [*,go_sem,seval]
      ·replace h:=Zn h hy20
       refine ⟨_,[],[0,1,2],(Option.some.inj h).symm,by decide,?_⟩
       try simp only [*,go_sem,seval]
   ·rintro ⟨row_81,row_82⟩ ⟨sl,ob,n⟩ hI32 hW33 h
    simp only [go_sem,seval,Zc] at hI32
    obtain ⟨⟨g34_2,g34_5,g34_6,g34_7,g34_8⟩,og34_0,og34_1,og34_2,hn⟩:=hI32
    subst hn
    have q35:=Zy (append_0.reasons.length)
    try simp only [*,go_sem,seval]
    refine ⟨_,[],[0,1,2],(Option.some.inj h).symm,by decide,?_⟩
    try simp only [*,go_sem,seval]
  ·replace h:=Zn h hy2
   cases h
   try simp only [*,go_sem,seval]
theorem ZhT {append_0:Zr} {String_1:(List Int)} {a_2:Int} {a_3:(List Int)} {a_4:Int} {r:(List Int)} (h:ZbH append_0 String_1 a_2 a_3 a_4=some r):Zk Tryz.prog J0 262 [(true,XY append_0),(false,[.sl 3 1 (List.map ZI String_1)]),(false,[.int .i64 a_2]),(false,[.sl 3 1 (List.map ZI a_3)]),(false,[.int .i64 a_4])] [(false,[(false,.sl 3 1 (List.map ZI r))])]:=by
 refine fnk Tryz.func262 (by kernel_rfl) rfl (by kernel_rfl) (by kernel_rfl) ?_
 unfold ZbH at h
 simp only [fnS,f262,Zm,go_sem,seval]
 refine Yo h (fun s st=>match s with | (row_28,u_14)=>IV [(1,.p false [.c (.sl 3 1 (List.map ZI String_1))]),(2,.p false [.c (.int .i64 a_2)]),(3,.p false [.c (.sl 3 1 (List.map ZI a_3))]),(4,.p false [.c (.int .i64 a_4)]),(5,.bp 0 0),(11,.p false [.row 1]),(12,.p false [.c (.int .i64 u_14)])] [.box 64 [.c (.int .i64 append_0.nodes),.c (.sl 199 3 (List.map ZE append_0.reasons))],.row 3 1 (List.map ZI row_28) 2] st) [] [0,32] (by decide) ?_ ?_
 ·simp only [*,go_sem,seval]
 ·rintro ⟨row_28,u_14⟩ ⟨sl,ob,n⟩ y1 hI2 hW3 h hy1
  simp only [go_sem,seval,Zc] at hI2
  obtain ⟨⟨g4_1,g4_2,g4_3,g4_4,g4_5,g4_11,g4_12⟩,og4_0,og4_1,hn⟩:=hI2
  subst hn
  try simp only [*,go_sem,seval]
  refine Ze h (fun _ h=>?_) fun _ h=>?_<;>try simp only [*,go_sem,seval]
  ·obtain ⟨x29,a6,a7,e8,h⟩:=ZbQ h
   try simp only [*,go_sem,seval]
   refine Ze h (fun _ h=>?_) fun _ h=>?_<;>try simp only [*,go_sem,seval]
   ·refine ⟨_,[],[0,1],(Option.some.inj h).symm,by decide,?_⟩
    try simp only [*,go_sem,seval]
   ·obtain ⟨x30,a10,a11,e12,h⟩:=ZbQ h
    try simp only [*,go_sem,seval]
    refine Ze h (fun _ h=>?_) fun _ h=>?_<;>try simp only [*,go_sem,seval]
    ·refine ⟨_,[],[0,1],(Option.some.inj h).symm,by decide,?_⟩
     try simp only [*,go_sem,seval]
    ·refine Zi h (fun i _ st=>IV [(1,.p false [.c (.sl 3 1 (List.map ZI String_1))]),(2,.p false [.c (.int .i64 a_2)]),(3,.p false [.c (.sl 3 1 (List.map ZI a_3))]),(4,.p false [.c (.int .i64 a_4)]),(5,.bp 0 0),(11,.p false [.row 1]),(12,.p false [.c (.int .i64 u_14)]),(13,.p false [.c (.int .i64 ((i:Nat):Int))]),(29,.p false [.c (.sl 3 1 (List.map ZI a_3))]),(30,.p false [.c (.int .i64 u_14)]),(32,.p false [.c (.int .i64 x30)]),(33,.p false [.c (.bool (decide (0≤x30)))])] [.box 64 [.c (.int .i64 append_0.nodes),.c (.sl 199 3 (List.map ZE append_0.reasons))],.row 3 1 (List.map ZI row_28) 2] st) [] [0,1] (by decide) ?_ ?_ ?_
     ·simp only [*,go_sem,seval]
     ·rintro i38 x39 ⟨⟩ ⟨sl,ob,n⟩ y14 hx15 hI16 hW17 h hy14
      simp only [go_sem,seval,Zc] at hI16
      obtain ⟨⟨g18_1,g18_2,g18_3,g18_4,g18_5,g18_11,g18_12,g18_13,g18_29,g18_30,g18_32,g18_33⟩,og18_0,og18_1,hn⟩:=hI16
      subst hn
      have hlhx15:=WF.boxL hW17 og18_0 (j:=1) rfl
      have q19:=ZA hx15
      have q20:=ZC hx15
      have q21:=Zj (ZB hx15) hlhx15
      try simp only [*,go_sem,seval]
      refine Ze h (fun _ h=>?_) fun _ h=>?_<;>try simp only [*,go_sem,seval]
      ·obtain ⟨v40,e23,h⟩:=Za h
       refine Zd (by have hh:=Zmj e23;first|exact hh|(simp only [*,go_sem] at hh;exact hh)) ?_
       try simp only [*,go_sem,seval]
       refine Ze h (fun _ h=>?_) fun _ h=>?_<;>try simp only [*,go_sem,seval]
       ·obtain ⟨v41,e25,h⟩:=Za h
        refine Zd (by have hh:=Zpl e25;first|exact hh|(simp only [*,go_sem] at hh;exact hh)) ?_
        try simp only [*,go_sem,seval]
        refine Ze h (fun _ h=>?_) fun _ h=>?_<;>try simp only [*,go_sem,seval]
        ·obtain ⟨p27,h⟩:=Zq h
         try simp only [Nat.reduceLeDiff] at p27
         replace h:=Zn h hy14
         try simp only [*,go_sem,seval]
         refine ⟨_,[],[0,514],(Option.some.inj h).symm,by decide,?_⟩
         try simp only [*,go_sem,seval]
        ·refine ⟨_,[],[0,1],(Option.some.inj h).symm,by decide,?_⟩
         try simp only [*,go_sem,seval]
       ·refine ⟨_,[],[0,1],(Option.some.inj h).symm,by decide,?_⟩
        try simp only [*,go_sem,seval]
      ·refine ⟨_,[],[0,1],(Option.some.inj h).symm,by decide,?_⟩
       try simp only [*,go_sem,seval]
     ·rintro ⟨⟩ ⟨sl,ob,n⟩ hI28 hW29 h
      simp only [go_sem,seval,Zc] at hI28
      obtain ⟨⟨g30_1,g30_2,g30_3,g30_4,g30_5,g30_11,g30_12,g30_13,g30_29,g30_30,g30_32,g30_33⟩,og30_0,og30_1,hn⟩:=hI28
      subst hn
      have q31:=Zy (append_0.reasons.length)
      try simp only [*,go_sem,seval]
      refine ⟨_,[],[0,1],(Option.some.inj h).symm,by decide,?_⟩
      try simp only [*,go_sem,seval]
  ·replace h:=Zn h hy1
   cases h
   try simp only [*,go_sem,seval]
end Go.Proofs.YtfehfkfdfmcgfaaGreatDoor
namespace Go.Proofs.YtfehfkfdfmcgfaaGreatDoor
open Go.Proofs.Tryz
set_option linter.unusedSimpArgs false
set_option linter.unusedVariables false
set_option maxRecDepth 1000000
set_option maxHeartbeats 4000000
theorem Zlu {b_0:Zr} {r:Bool} (h:Zcr b_0=some r):Zk Tryz.prog J0 281 [(true,XY b_0)] [(false,[(false,.bool r)])]:=by
 refine fnk Tryz.func281 (by kernel_rfl) rfl (by kernel_rfl) (by kernel_rfl) ?_
 unfold Zcr at h
 simp only [fnS,f281,Zm,go_sem,seval]
 refine Zi h (fun i _ st=>IV [(1,.bp 0 0),(3,.p false [.c (.int .i64 ((i:Nat):Int))])] [.box 64 [.c (.int .i64 b_0.nodes),.c (.sl 199 3 (List.map ZE b_0.reasons))]] st) [] [0] (by decide) ?_ ?_ ?_
 simp only [*,go_sem,seval]
 rintro t u ⟨⟩ ⟨sl,ob,n⟩ v a b e h f
 simp only [go_sem,seval,Zc] at b
 obtain ⟨⟨w,x⟩,g,hn⟩:=b
 subst hn
 have k:=WF.boxL e g (j:=1) rfl
 have y:=ZA a
 have z:=ZC a
 have A:=Zj (ZB a) k
 try simp only [*,go_sem,seval]
 obtain ⟨B,l,h⟩:=Za h
 refine Zd (XU l) ?_
 try simp only [*,go_sem,seval]
 refine Ze h (fun _ h=>?_) fun _ h=>?_<;>try simp only [*,go_sem,seval]
 obtain ⟨C,m,h⟩:=Za h
 refine Zd (Zi0 m) ?_
 try simp only [*,go_sem,seval]
 refine Ze h (fun _ h=>?_) fun _ h=>?_<;>try simp only [*,go_sem,seval]
 obtain ⟨D,o,h⟩:=Za h
 refine Zd (Zi0 o) ?_
 try simp only [*,go_sem,seval]
 refine Ze h (fun _ h=>?_) fun _ h=>?_<;>try simp only [*,go_sem,seval]
 refine ⟨_,[],[0],(Option.some.inj h).symm,by decide,?_⟩
 iterate 3 ((try simp only [*,go_sem,seval]);replace h:=Zn h f;cases h)
 try simp only [*,go_sem,seval]
 rintro ⟨⟩ ⟨sl,ob,n⟩ d E h
 simp only [go_sem,seval,Zc] at d
 obtain ⟨⟨F,G⟩,H,hn⟩:=d
 subst hn
 have I:=Zy (b_0.reasons.length)
 try simp only [*,go_sem,seval]
 obtain ⟨J,q,h⟩:=Za h
 refine Zd (XU q) ?_
 try simp only [*,go_sem,seval]
 refine Ze h (fun _ h=>?_) fun _ h=>?_<;>try simp only [*,go_sem,seval]
 iterate 2 (cases h;try simp only [*,go_sem,seval])
theorem ZFw {a_0:(List Zb)} {b_1:(List Zb)} {r:Bool} (h:ZFe a_0 b_1=some r):Zk Tryz.prog J0 25 [(false,[.sl 45 2 (List.map Zl a_0)]),(false,[.sl 45 2 (List.map Zl b_1)])] [(false,[(false,.bool r)])]:=by
 refine fnk Tryz.func25 (by kernel_rfl) rfl (by kernel_rfl) (by kernel_rfl) ?_
 unfold ZFe at h
 simp only [fnS,f25,Zm,go_sem,seval]
 refine Ze h (fun _ h=>?_) fun _ h=>?_<;>try simp only [*,go_sem,seval]
 cases h
 try simp only [*,go_sem,seval]
 refine Zi h (fun i _ st=>IV [(0,.p false [.c (.sl 45 2 (List.map Zl a_0))]),(1,.p false [.c (.sl 45 2 (List.map Zl b_1))]),(5,.p false [.c (.int .i64 ((i:Nat):Int))])] [] st) [] [] (by decide) ?_ ?_ ?_
 simp only [*,go_sem,seval]
 rintro o q ⟨⟩ ⟨sl,ob,n⟩ t a b e h f
 simp only [go_sem,seval,Zc] at b
 obtain ⟨⟨g,u,v⟩,hn⟩:=b
 subst hn
 have k:=WF.slotL e g (j:=0) rfl
 have w:=ZA a
 have x:=ZC a
 have y:=Zj (ZB a) k
 obtain ⟨z,A,B,l,h⟩:=ZbQ h
 simp only [Int.toNat_natCast] at l
 try simp only [*,go_sem,seval]
 obtain ⟨C,m,h⟩:=Za h
 refine Zd (Zry m) ?_
 try simp only [*,go_sem,seval]
 refine Ze h (fun _ h=>?_) fun _ h=>?_<;>try simp only [*,go_sem,seval]
 refine ⟨_,[],[],(Option.some.inj h).symm,by decide,?_⟩
 try simp only [*,go_sem,seval]
 replace h:=Zn h f
 cases h
 try simp only [*,go_sem,seval]
 rintro ⟨⟩ ⟨sl,ob,n⟩ d D h
 simp only [go_sem,seval,Zc] at d
 obtain ⟨⟨E,F,G⟩,hn⟩:=d
 subst hn
 have H:=Zy (a_0.length)
 cases h
 try simp only [*,go_sem,seval]
theorem ZFy {l_0:(List Zb)} {f_1:Zb} {r:(List Zb)} (h:ZFf l_0 f_1=some r):Zk Tryz.prog J0 89 [(false,[.sl 45 2 (List.map Zl l_0)]),(true,Zl f_1)] [(false,[(false,.sl 45 2 (List.map Zl r))])]:=by
 refine fnk Tryz.func89 (by kernel_rfl) rfl (by kernel_rfl) (by kernel_rfl) ?_
 unfold ZFf at h
 simp only [fnS,f89,Zm,go_sem,seval]
 refine Zi h (fun i a st=>IV [(0,.p false [.c (.sl 45 2 (List.map Zl l_0))]),(3,.bp 0 0),(5,.p false [.row 1]),(6,.p false [.c (.int .i64 ((i:Nat):Int))])] [.box 45 [.c (.str f_1.rel),.c (.sl 9 1 (List.map Zx f_1.args))],.row 45 2 (List.map Zl a) 2] st) [] [0,32] (by decide) ?_ ?_ ?_
 simp only [*,go_sem,seval]
 rintro q t a ⟨sl,ob,n⟩ u b d f h v
 simp only [go_sem,seval,Zc] at d
 obtain ⟨⟨g,w,x,y⟩,z,A,hn⟩:=d
 subst hn
 have k:=WF.slotL f g (j:=0) rfl
 have B:=ZA b
 have C:=ZC b
 have D:=Zj (ZB b) k
 try simp only [*,go_sem,seval]
 obtain ⟨E,l,h⟩:=Za h
 refine Zd (Zry l) ?_
 try simp only [*,go_sem,seval]
 refine Ze h (fun _ h=>?_) fun _ h=>?_<;>try simp only [*,go_sem,seval]
 refine ⟨_,[],[0,1],(Option.some.inj h).symm,by decide,?_⟩
 try simp only [*,go_sem,seval]
 obtain ⟨F,m,h⟩:=Za h
 refine Zd (Xa m) ?_
 obtain ⟨o,h⟩:=Zq h
 try simp only [Nat.reduceLeDiff] at o
 try simp only [*,go_sem,seval]
 refine ⟨_,[],[0,290],(Option.some.inj h).symm,by decide,?_⟩
 try simp only [*,go_sem,seval]
 rintro a ⟨sl,ob,n⟩ e G h
 simp only [go_sem,seval,Zc] at e
 obtain ⟨⟨H,I,J,K⟩,L,M,hn⟩:=e
 subst hn
 have N:=Zy (l_0.length)
 cases h
 try simp only [*,go_sem,seval]
end Go.Proofs.YtfehfkfdfmcgfaaGreatDoor
namespace Go.Proofs.YtfehfkfdfmcgfaaGreatDoor
open Go.Proofs.Tryz
set_option linter.unusedSimpArgs false
set_option linter.unusedVariables false
set_option maxRecDepth 1000000
set_option maxHeartbeats 4000000
theorem Zcw {p_0:Zv} {r:(List ByteArray)} (h:Zba p_0=some r):Zk Tryz.prog J0 226 [(true,QA p_0)] [(false,[(false,.sl 9 1 (List.map Zx r))])]:=by
 refine fnk Tryz.func226 (by kernel_rfl) rfl (by kernel_rfl) (by kernel_rfl) ?_
 unfold Zba at h
 simp only [fnS,f226,Zm,go_sem,seval]
 refine Zi h (fun i a st=>IV [(1,.bp 0 0),(3,.p false [.row 1]),(4,.p false [.c (.int .i64 ((i:Nat):Int))])] [.box 48 [.c (.str p_0.rel),.c (.sl 9 1 (List.map Zx p_0.args))],.row 9 1 (List.map Zx a) 2] st) [] [0,32] (by decide) ?_ ?_ ?_
 simp only [*,go_sem,seval]
 rintro o q a ⟨sl,ob,n⟩ t b d f h u
 simp only [go_sem,seval,Zc] at d
 obtain ⟨⟨v,w,x⟩,g,y,hn⟩:=d
 subst hn
 have k:=WF.boxL f g (j:=1) rfl
 have z:=ZA b
 have A:=ZC b
 have B:=Zj (ZB b) k
 try simp only [*,go_sem,seval]
 obtain ⟨C,l,h⟩:=Za h
 refine Zd (Q3 l) ?_
 try simp only [*,go_sem,seval]
 refine Ze h (fun _ h=>?_) fun _ h=>?_<;>try simp only [*,go_sem,seval]
 obtain ⟨D,m,h⟩:=Za h
 refine Zd (Xg m) ?_
 try simp only [*,go_sem,seval]
 refine ⟨_,[],[0,274],(Option.some.inj h).symm,by decide,?_⟩
 try simp only [*,go_sem,seval]
 refine ⟨_,[],[0,1],(Option.some.inj h).symm,by decide,?_⟩
 try simp only [*,go_sem,seval]
 rintro a ⟨sl,ob,n⟩ e E h
 simp only [go_sem,seval,Zc] at e
 obtain ⟨⟨F,G,H⟩,I,J,hn⟩:=e
 subst hn
 have K:=Zy (p_0.args.length)
 cases h
 try simp only [*,go_sem,seval]
theorem QY {s_0:ByteArray} {r:Bool} (h:QS s_0=some r):Zk Tryz.prog J0 140 [(false,[.str s_0])] [(false,[(false,.bool r)])]:=by
 refine fnk Tryz.func140 (by kernel_rfl) rfl (by kernel_rfl) (by kernel_rfl) ?_
 unfold QS at h
 simp only [fnS,f140,Zm,go_sem,seval]
 obtain ⟨c,a,h⟩:=Za h
 refine Zd (X0 a) ?_
 try simp only [*,go_sem,seval]
 refine Ze h (fun _ h=>?_) fun _ h=>?_<;>try simp only [*,go_sem,seval]
 cases h
 try simp only [*,go_sem,seval]
 obtain ⟨d,b,h⟩:=Za h
 refine Zd (Q3 b) ?_
 cases h
 try simp only [*,go_sem,seval]
theorem Qv {a_0:Zb} {b_1:Zb} {r:Int} (h:Yn a_0 b_1=some r):Zk Tryz.prog J0 21 [(true,Zl a_0),(true,Zl b_1)] [(false,[(false,.int .i64 r)])]:=by
 refine fnk Tryz.func21 (by kernel_rfl) rfl (by kernel_rfl) (by kernel_rfl) ?_
 unfold Yn at h
 simp only [fnS,f21,Zm,go_sem,seval]
 refine Ze h (fun _ h=>?_) fun _ h=>?_<;>try simp only [*,go_sem,seval]
 ·refine Zi h (fun i _ st=>IV [(2,.bp 0 0),(3,.bp 1 0),(5,.p false [.c (.int .i64 ((i:Nat):Int))])] [.box 45 [.c (.str a_0.rel),.c (.sl 9 1 (List.map Zx a_0.args))],.box 45 [.c (.str b_1.rel),.c (.sl 9 1 (List.map Zx b_1.args))]] st) [] [0,16] (by decide) ?_ ?_ ?_
  ·simp only [*,go_sem,seval]
  ·rintro i8 x9 ⟨⟩ ⟨sl,ob,n⟩ y2 hx3 hI4 hW5 h hy2
   simp only [go_sem,seval,Zc] at hI4
   obtain ⟨⟨g6_2,g6_3,g6_5⟩,og6_0,og6_1,hn⟩:=hI4
   subst hn
   have hlhx3:=WF.boxL hW5 og6_0 (j:=1) rfl
   have q7:=ZA hx3
   have q8:=ZC hx3
   have q9:=Zj (ZB hx3) hlhx3
   try simp only [*,go_sem,seval]
   refine Ze h (fun _ h=>?_) fun _ h=>?_<;>try simp only [*,go_sem,seval]
   ·obtain ⟨x10,a11,a12,e13,h⟩:=ZbQ h
    simp only [Int.toNat_natCast] at e13
    try simp only [*,go_sem,seval]
    obtain ⟨v11,e14,h⟩:=Za h
    refine Zd (by have hh:=Zej e14;first|exact hh|(simp only [*,go_sem] at hh;exact hh)) ?_
    try simp only [*,go_sem,seval]
    refine Ze h (fun _ h=>?_) fun _ h=>?_<;>try simp only [*,go_sem,seval]
    ·replace h:=Zn h hy2
     cases h
     try simp only [*,go_sem,seval]
    ·refine ⟨_,[],[0,1],(Option.some.inj h).symm,by decide,?_⟩
     try simp only [*,go_sem,seval]
   ·refine Ze h (fun _ h=>?_) fun _ h=>?_<;>try simp only [*,go_sem,seval]
    ·replace h:=Zn h hy2
     cases h
     try simp only [*,go_sem,seval]
    ·refine Ze h (fun _ h=>?_) fun _ h=>?_<;>try simp only [*,go_sem,seval]
     ·replace h:=Zn h hy2
      cases h
      try simp only [*,go_sem,seval]
     ·replace h:=Zn h hy2
      cases h
      try simp only [*,go_sem,seval]
  ·rintro ⟨⟩ ⟨sl,ob,n⟩ hI18 hW19 h
   simp only [go_sem,seval,Zc] at hI18
   obtain ⟨⟨g20_2,g20_3,g20_5⟩,og20_0,og20_1,hn⟩:=hI18
   subst hn
   have q21:=Zy (a_0.args.length)
   try simp only [*,go_sem,seval]
   refine Ze h (fun _ h=>?_) fun _ h=>?_<;>try simp only [*,go_sem,seval]
   ·cases h
    try simp only [*,go_sem,seval]
   ·refine Ze h (fun _ h=>?_) fun _ h=>?_<;>try simp only [*,go_sem,seval]
    ·cases h
     try simp only [*,go_sem,seval]
    ·cases h
     try simp only [*,go_sem,seval]
 ·obtain ⟨v12,e24,h⟩:=Za h
  refine Zd (by have hh:=Zle e24;first|exact hh|(simp only [*,go_sem] at hh;exact hh)) ?_
  cases h
  try simp only [*,go_sem,seval]
theorem Zd7 {a_0:Zb} {b_1:Zb} {r:Int} (h:XV a_0 b_1=some r):Zk Tryz.prog J0 135 [(true,Zl a_0),(true,Zl b_1)] [(false,[(false,.int .i64 r)])]:=by
 refine fnk Tryz.func135 (by kernel_rfl) rfl (by kernel_rfl) (by kernel_rfl) ?_
 unfold XV at h
 simp only [fnS,f135,Zm,go_sem,seval]
 obtain ⟨u,f,h⟩:=Za h
 refine Zd (Zjc f) ?_
 try simp only [*,go_sem,seval]
 refine Ze h (fun _ h=>?_) fun _ h=>?_<;>try simp only [*,go_sem,seval]
 cases h
 try simp only [*,go_sem,seval]
 refine Zi h (fun i _ st=>IV [(2,.bp 0 0),(3,.bp 1 0),(6,.p false [.c (.int .i64 ((i:Nat):Int))])] [.box 45 [.c (.str a_0.rel),.c (.sl 9 1 (List.map Zx a_0.args))],.box 45 [.c (.str b_1.rel),.c (.sl 9 1 (List.map Zx b_1.args))]] st) [] [0,16] (by decide) ?_ ?_ ?_
 simp only [*,go_sem,seval]
 rintro v w ⟨⟩ ⟨sl,ob,n⟩ x a b g h d
 simp only [go_sem,seval,Zc] at b
 obtain ⟨⟨y,z,A⟩,k,B,hn⟩:=b
 subst hn
 have l:=WF.boxL g k (j:=1) rfl
 have C:=ZA a
 have D:=ZC a
 have E:=Zj (ZB a) l
 try simp only [*,go_sem,seval]
 refine Ze h (fun _ h=>?_) fun _ h=>?_<;>try simp only [*,go_sem,seval]
 obtain ⟨F,G,H,m,h⟩:=ZbQ h
 simp only [Int.toNat_natCast] at m
 try simp only [*,go_sem,seval]
 obtain ⟨I,o,h⟩:=Za h
 refine Zd (Ziz o) ?_
 try simp only [*,go_sem,seval]
 refine Ze h (fun _ h=>?_) fun _ h=>?_<;>try simp only [*,go_sem,seval]
 replace h:=Zn h d
 cases h
 try simp only [*,go_sem,seval]
 refine ⟨_,[],[0,1],(Option.some.inj h).symm,by decide,?_⟩
 try simp only [*,go_sem,seval]
 obtain ⟨J,q,h⟩:=Za h
 refine Zd (ZbW q) ?_
 replace h:=Zn h d
 cases h
 try simp only [*,go_sem,seval]
 rintro ⟨⟩ ⟨sl,ob,n⟩ e K h
 simp only [go_sem,seval,Zc] at e
 obtain ⟨⟨L,M,N⟩,O,P,hn⟩:=e
 subst hn
 have Q:=Zy (a_0.args.length)
 try simp only [*,go_sem,seval]
 obtain ⟨R,t,h⟩:=Za h
 refine Zd (ZbW t) ?_
 cases h
 try simp only [*,go_sem,seval]
theorem XQ {p_0:Zv} {r:Bool} (h:Y9 p_0=some r):Zk Tryz.prog J0 136 [(true,QA p_0)] [(false,[(false,.bool r)])]:=by
 refine fnk Tryz.func136 (by kernel_rfl) rfl (by kernel_rfl) (by kernel_rfl) ?_
 unfold Y9 at h
 simp only [fnS,f136,Zm,go_sem,seval]
 obtain ⟨o,e,h⟩:=Za h
 refine Zd (Zgl e) ?_
 try simp only [*,go_sem,seval]
 iterate 2 refine Ze h (fun _ h=>?_) fun _ h=>?_<;>try simp only [*,go_sem,seval]
 cases h
 try simp only [*,go_sem,seval]
 refine Zi h (fun i _ st=>IV [(16,.p false [.c (.sl 9 1 (List.map Zx p_0.args))]),(17,.p false [.c (.int .i64 ((p_0.args.length:Nat):Int))]),(18,.p false [.c (.int .i64 ((i:Nat):Int))])] [] st) [] [] (by decide) ?_ ?_ ?_
 simp only [*,go_sem,seval]
 rintro q t ⟨⟩ ⟨sl,ob,n⟩ u a b f h g
 simp only [go_sem,seval,Zc] at b
 obtain ⟨⟨k,v,w⟩,hn⟩:=b
 subst hn
 have l:=WF.slotL f k (j:=0) rfl
 have x:=ZA a
 have y:=ZC a
 have z:=Zj (ZB a) l
 try simp only [*,go_sem,seval]
 obtain ⟨A,m,h⟩:=Za h
 refine Zd (QH m) ?_
 try simp only [*,go_sem,seval]
 refine Ze h (fun _ h=>?_) fun _ h=>?_<;>try simp only [*,go_sem,seval]
 refine ⟨_,[],[],(Option.some.inj h).symm,by decide,?_⟩
 try simp only [*,go_sem,seval]
 replace h:=Zn h g
 cases h
 try simp only [*,go_sem,seval]
 rintro ⟨⟩ ⟨sl,ob,n⟩ d B h
 simp only [go_sem,seval,Zc] at d
 obtain ⟨⟨C,D,E⟩,hn⟩:=d
 subst hn
 have F:=Zy (p_0.args.length)
 iterate 2 (cases h;try simp only [*,go_sem,seval])
theorem ZdH {r_0:Zg} {n_1:Int} {r:(List ByteArray)} (h:QN r_0 n_1=some r):Zk Tryz.prog J0 198 [(true,ZF r_0),(false,[.int .i64 n_1])] [(false,[(false,.sl 9 1 (List.map Zx r))])]:=by
 refine fnk Tryz.func198 (by kernel_rfl) rfl (by kernel_rfl) (by kernel_rfl) ?_
 unfold QN at h
 simp only [fnS,f198,Zm,go_sem,seval]
 refine Zi h (fun i a st=>IV [(1,.p false [.c (.int .i64 n_1)]),(5,.p false [.row 0]),(9,.p false [.c (.sl 173 5 (List.map ZK r_0.cond))]),(10,.p false [.c (.int .i64 ((r_0.cond.length:Nat):Int))]),(11,.p false [.c (.int .i64 ((i:Nat):Int))])] [.row 9 1 (List.map Zx a) 2] st) [(false,5,0)] [112] (by decide) ?_ ?_ ?_
 simp only [*,go_sem,seval]
 rintro q t a ⟨sl,ob,n⟩ u b d f h v
 simp only [go_sem,seval,Zc] at d
 obtain ⟨⟨w,x,g,y,z⟩,A,hn⟩:=d
 subst hn
 have k:=WF.slotL f g (j:=0) rfl
 have B:=ZA b
 have C:=ZC b
 have D:=Zj (ZB b) k
 try simp only [*,go_sem,seval]
 iterate 2 refine Ze h (fun _ h=>?_) fun _ h=>?_<;>try simp only [*,go_sem,seval]
 obtain ⟨E,l,h⟩:=Za h
 refine Zd (ZdX l) ?_
 obtain ⟨m,h⟩:=Zq h
 try simp only [Nat.reduceLeDiff] at m
 try simp only [*,go_sem,seval]
 refine ⟨_,[],[321],(Option.some.inj h).symm,by decide,?_⟩
 try simp only [*,go_sem,seval]
 refine ⟨_,[],[0],(Option.some.inj h).symm,by decide,?_⟩
 try simp only [*,go_sem,seval]
 refine ⟨_,[],[0],(Option.some.inj h).symm,by decide,?_⟩
 try simp only [*,go_sem,seval]
 rintro a ⟨sl,ob,n⟩ e F h
 simp only [go_sem,seval,Zc] at e
 obtain ⟨⟨G,H,I,J,K⟩,L,hn⟩:=e
 subst hn
 have M:=Zy (r_0.cond.length)
 try simp only [*,go_sem,seval]
 obtain ⟨N,o,h⟩:=Za h
 refine Zd (XX o) ?_
 cases h
 try simp only [*,go_sem,seval]
theorem Zb9 {x_0:Zt} {r:(List ByteArray)} (h:Qa x_0=some r):Zk Tryz.prog J0 212 [(true,ZK x_0)] [(false,[(false,.sl 9 1 (List.map Zx r))])]:=by
 refine fnk Tryz.func212 (by kernel_rfl) rfl (by kernel_rfl) (by kernel_rfl) ?_
 unfold Qa at h
 simp only [fnS,f212,Zm,go_sem,seval]
 obtain ⟨d,a,h⟩:=Za h
 refine Zd (ZpH a) ?_
 try simp only [*,go_sem,seval]
 obtain ⟨e,b,h⟩:=Za h
 refine Zd (ZdX b) ?_
 try simp only [*,go_sem,seval]
 obtain ⟨f,c,h⟩:=Za h
 refine Zd (XX c) ?_
 cases h
 try simp only [*,go_sem,seval]
theorem Zq8 {a:(List Zs)} {b:ByteArray} {d:ByteArray} {r:((List Zs) × Bool)} (h:ZgK a b d=some r):Zk Tryz.prog J0 216 [(false,[.sl 166 2 (List.map Z4 a)]),(false,[.str b]),(false,[.str d])] [(false,[(false,.sl 166 2 (List.map Z4 r.1))]),(false,[(false,.bool r.2)])]:=by
 refine fnk Tryz.func216 (by kernel_rfl) rfl (by kernel_rfl) (by kernel_rfl) ?_
 unfold ZgK at h
 simp only [fnS,f216,Zm,go_sem,seval]
 obtain ⟨M,y,h⟩:=Za h
 refine Zd (QO y) ?_
 try simp only [*,go_sem,seval]
 refine Ze h (fun e h=>?_) (fun e h=>?_)<;>try simp only [*,go_sem,seval]
 obtain ⟨N,z,h⟩:=Za h
 refine Zd (Zdc z) ?_
 try simp only [*,go_sem,seval]
 refine Ze h (fun f h=>?_) (fun f h=>?_)<;>try simp only [*,go_sem,seval]
 obtain ⟨O,A,h⟩:=Za h
 refine Zd (X4 A) ?_
 try simp only [*,go_sem,seval]
 refine Ze h (fun g h=>?_) (fun g h=>?_)<;>try simp only [*,go_sem,seval]
 obtain ⟨P,B,h⟩:=Za h
 refine Zd (ZcR B) ?_
 try simp only [*,go_sem,seval]
 refine Ze h (fun k h=>?_) (fun k h=>?_)<;>try simp only [*,go_sem,seval]
 refine Ze h (fun _ h=>?_) fun _ h=>?_<;>try simp only [*,go_sem,seval]
 obtain ⟨Q,C,h⟩:=Za h
 refine Zd (Zgp C) ?_
 iterate 2 (cases h;try simp only [*,go_sem,seval])
 refine Ze h (fun l h=>?_) (fun l h=>?_)<;>try simp only [*,go_sem,seval]
 cases h
 try simp only [*,go_sem,seval]
 refine Zi h (fun i s st=>match s with | (m,o)=>IV [(1,.p false [.c (.str b)]),(2,.p false [.c (.str d)]),(10,.p false [.row 0]),(11,.p false [.c (.bool o)]),(42,.p false [.c (.sl 166 2 (List.map Z4 a))]),(43,.p false [.c (.int .i64 ((a.length:Nat):Int))]),(44,.p false [.c (.int .i64 ((i:Nat):Int))])] [.row 166 2 (List.map Z4 m) 2] st) [(false,10,0)] [512] (by decide) ?_ ?_ ?_
 simp only [*,go_sem,seval]
 rintro R S ⟨m,o⟩ ⟨sl,ob,n⟩ T q w E h U
 simp only [go_sem,seval,Zc] at w
 obtain ⟨⟨V,W,X,Y,F,Z,aa⟩,ab,hn⟩:=w
 subst hn
 have G:=WF.slotL E F (j:=0) rfl
 have ac:=ZA q
 have ad:=ZC q
 have ae:=Zj (ZB q) G
 try simp only [*,go_sem,seval]
 refine Ze h (fun t h=>?_) (fun t h=>?_)<;>try simp only [*,go_sem,seval]
 obtain ⟨H,h⟩:=Zq h
 try simp only [Nat.reduceLeDiff] at H
 try simp only [*,go_sem,seval]
 refine ⟨_,[],[257],(Option.some.inj h).symm,by decide,?_⟩
 try simp only [*,go_sem,seval]
 refine Ze h (fun u h=>?_) (fun u h=>?_)
 have v:=u
 try simp only [e,f,g,k,l,t,Bool.false_or,Bool.or_false] at v
 obtain ⟨I,h⟩:=Zq h
 try simp only [Nat.reduceLeDiff] at I
 try simp only [*,go_sem,seval]
 refine ⟨_,[],[257],(Option.some.inj h).symm,by decide,?_⟩
 try simp only [*,go_sem,seval]
 have v:=u
 try simp only [e,f,g,k,l,t,Bool.false_or,Bool.or_false] at v
 obtain ⟨J,h⟩:=Zq h
 try simp only [Nat.reduceLeDiff] at J
 obtain ⟨K,h⟩:=Zq h
 try simp only [Nat.reduceLeDiff] at K
 try simp only [*,go_sem,seval]
 refine ⟨_,[],[385],(Option.some.inj h).symm,by decide,?_⟩
 try simp only [*,go_sem,seval]
 rintro ⟨m,o⟩ ⟨sl,ob,n⟩ x af h
 simp only [go_sem,seval,Zc] at x
 obtain ⟨⟨ag,ah,ai,aj,ak,al,am⟩,an,hn⟩:=x
 subst hn
 have ao:=Zy (a.length)
 try simp only [*,go_sem,seval]
 refine Ze h (fun _ h=>?_) fun _ h=>?_<;>try simp only [*,go_sem,seval]
 cases h
 try simp only [*,go_sem,seval]
 obtain ⟨L,h⟩:=Zq h
 try simp only [Nat.reduceLeDiff] at L
 iterate 4 (cases h;try simp only [*,go_sem,seval])
theorem ZiX {facts_0:(List Zb)} {l_1:(List Zb)} {r:(List Int)} (h:Zc0 facts_0 l_1=some r):Zk Tryz.prog J0 95 [(false,[.sl 45 2 (List.map Zl facts_0)]),(false,[.sl 45 2 (List.map Zl l_1)])] [(false,[(false,.sl 3 1 (List.map ZI r))])]:=by
 refine fnk Tryz.func95 (by kernel_rfl) rfl (by kernel_rfl) (by kernel_rfl) ?_
 unfold Zc0 at h
 simp only [fnS,f95,Zm,go_sem,seval]
 refine Zi h (fun i a st=>IV [(0,.p false [.c (.sl 45 2 (List.map Zl facts_0))]),(5,.p false [.row 0]),(9,.p false [.c (.sl 45 2 (List.map Zl l_1))]),(10,.p false [.c (.int .i64 ((l_1.length:Nat):Int))]),(11,.p false [.c (.int .i64 ((i:Nat):Int))])] [.row 3 1 (List.map ZI a) 2] st) [(false,5,0)] [80] (by decide) ?_ ?_ ?_
 simp only [*,go_sem,seval]
 rintro t u a ⟨sl,ob,n⟩ v b d f h w
 simp only [go_sem,seval,Zc] at d
 obtain ⟨⟨x,y,g,z,A⟩,B,hn⟩:=d
 subst hn
 have k:=WF.slotL f g (j:=0) rfl
 have C:=ZA b
 have D:=ZC b
 have E:=Zj (ZB b) k
 try simp only [*,go_sem,seval]
 obtain ⟨F,l,h⟩:=Za h
 refine Zd (Qq l) ?_
 try simp only [*,go_sem,seval]
 refine Ze h (fun _ h=>?_) fun _ h=>?_<;>try simp only [*,go_sem,seval]
 obtain ⟨G,m,h⟩:=Za h
 refine Zd (ZqS m) ?_
 try simp only [*,go_sem,seval]
 refine Ze h (fun _ h=>?_) fun _ h=>?_<;>try simp only [*,go_sem,seval]
 refine ⟨_,[],[0],(Option.some.inj h).symm,by decide,?_⟩
 try simp only [*,go_sem,seval]
 obtain ⟨o,h⟩:=Zq h
 try simp only [Nat.reduceLeDiff] at o
 try simp only [*,go_sem,seval]
 refine ⟨_,[],[321],(Option.some.inj h).symm,by decide,?_⟩
 try simp only [*,go_sem,seval]
 refine ⟨_,[],[0],(Option.some.inj h).symm,by decide,?_⟩
 try simp only [*,go_sem,seval]
 rintro a ⟨sl,ob,n⟩ e H h
 simp only [go_sem,seval,Zc] at e
 obtain ⟨⟨I,J,K,L,M⟩,N,hn⟩:=e
 subst hn
 have O:=Zy (l_1.length)
 try simp only [*,go_sem,seval]
 obtain ⟨P,q,h⟩:=Za h
 refine QL (ZmZ q) ?_
 cases h
 try simp only [*,go_sem,seval]
theorem ZmQ {facts_0:(List Zb)} {b_1:Zr} {r:(List Zb)} (h:Zdo facts_0 b_1=some r):Zk Tryz.prog J0 62 [(false,[.sl 45 2 (List.map Zl facts_0)]),(true,XY b_1)] [(false,[(false,.sl 45 2 (List.map Zl r))])]:=by
 refine fnk Tryz.func62 (by kernel_rfl) rfl (by kernel_rfl) (by kernel_rfl) ?_
 unfold Zdo at h
 simp only [fnS,f62,Zm,go_sem,seval]
 obtain ⟨a,g,h⟩:=Za h
 refine Zd (Zq9 g) ?_
 try simp only [*,go_sem,seval]
 refine Zi h (fun i b st=>IV [(0,.p false [.c (.sl 45 2 (List.map Zl facts_0))]),(5,.p false [.row 0]),(9,.p false [.row 1]),(10,.p false [.c (.int .i64 ((a.length:Nat):Int))]),(11,.p false [.c (.int .i64 ((i:Nat):Int))])] [.row 45 2 (List.map Zl b) 2,.row 4 1 (List.map ZfM a) 2] st) [(false,5,0)] [112,64] (by decide) ?_ ?_ ?_
 simp only [*,go_sem,seval]
 rintro t u b ⟨sl,ob,n⟩ v d e j h w
 simp only [go_sem,seval,Zc] at e
 obtain ⟨⟨x,y,z,A,B⟩,C,k,hn⟩:=e
 subst hn
 have l:=WF.rowL j k
 have D:=ZA d
 have E:=ZC d
 have F:=Zj (ZB d) l
 try simp only [*,go_sem,seval]
 refine Ze h (fun _ h=>?_) fun _ h=>?_<;>try simp only [*,go_sem,seval]
 obtain ⟨G,H,I,m,h⟩:=ZbQ h
 simp only [Int.toNat_natCast] at m
 try simp only [*,go_sem,seval]
 obtain ⟨J,o,h⟩:=Za h
 refine Zd (YO o) ?_
 obtain ⟨q,h⟩:=Zq h
 try simp only [Nat.reduceLeDiff] at q
 try simp only [*,go_sem,seval]
 refine ⟨_,[],[226,1],(Option.some.inj h).symm,by decide,?_⟩
 try simp only [*,go_sem,seval]
 refine ⟨_,[],[0,1],(Option.some.inj h).symm,by decide,?_⟩
 try simp only [*,go_sem,seval]
 rintro b ⟨sl,ob,n⟩ f K h
 simp only [go_sem,seval,Zc] at f
 obtain ⟨⟨L,M,N,O,P⟩,Q,R,hn⟩:=f
 subst hn
 have S:=Zy (a.length)
 cases h
 try simp only [*,go_sem,seval]
theorem QX {b_0:(List Zs)} {r:Bool} (h:XE b_0=some r):Zk Tryz.prog J0 72 [(false,[.sl 166 2 (List.map Z4 b_0)])] [(false,[(false,.bool r)])]:=by
 refine fnk Tryz.func72 (by kernel_rfl) rfl (by kernel_rfl) (by kernel_rfl) ?_
 unfold XE at h
 simp only [fnS,f72,Zm,go_sem,seval]
 refine Zi h (fun i _ st=>IV [(0,.p false [.c (.sl 166 2 (List.map Z4 b_0))]),(3,.p false [.c (.int .i64 ((i:Nat):Int))])] [] st) [] [] (by decide) ?_ ?_ ?_
 simp only [*,go_sem,seval]
 rintro o q ⟨⟩ ⟨sl,ob,n⟩ t a b f h d
 simp only [go_sem,seval,Zc] at b
 obtain ⟨⟨g,u⟩,hn⟩:=b
 subst hn
 have k:=WF.slotL f g (j:=0) rfl
 have v:=ZA a
 have w:=ZC a
 have x:=Zj (ZB a) k
 try simp only [*,go_sem,seval]
 obtain ⟨y,l,h⟩:=Za h
 refine Zd (Q3 l) ?_
 try simp only [*,go_sem,seval]
 refine Ze h (fun _ h=>?_) fun _ h=>?_<;>try simp only [*,go_sem,seval]
 obtain ⟨z,m,h⟩:=Za h
 refine Zd (X0 m) ?_
 try simp only [*,go_sem,seval]
 iterate 2 refine Ze h (fun _ h=>?_) fun _ h=>?_<;>try simp only [*,go_sem,seval]
 obtain ⟨A,B,C,D,h⟩:=ZbQ h
 try simp only [*,go_sem,seval]
 refine Ze h (fun _ h=>?_) fun _ h=>?_<;>try simp only [*,go_sem,seval]
 refine ⟨_,[],[],(Option.some.inj h).symm,by decide,?_⟩
 try simp only [*,go_sem,seval]
 replace h:=Zn h d
 cases h
 try simp only [*,go_sem,seval]
 refine ⟨_,[],[],(Option.some.inj h).symm,by decide,?_⟩
 iterate 2 ((try simp only [*,go_sem,seval]);replace h:=Zn h d;cases h)
 try simp only [*,go_sem,seval]
 rintro ⟨⟩ ⟨sl,ob,n⟩ e E h
 simp only [go_sem,seval,Zc] at e
 obtain ⟨⟨F,G⟩,hn⟩:=e
 subst hn
 have H:=Zy (b_0.length)
 cases h
 try simp only [*,go_sem,seval]
theorem ZcO {b_0:(List Zs)} {term_1:ByteArray} {r:(ByteArray × Bool)} (h:ZaQ b_0 term_1=some r):Zk Tryz.prog J0 73 [(false,[.sl 166 2 (List.map Z4 b_0)]),(false,[.str term_1])] [(false,[(false,.str r.1)]),(false,[(false,.bool r.2)])]:=by
 refine fnk Tryz.func73 (by kernel_rfl) rfl (by kernel_rfl) (by kernel_rfl) ?_
 unfold ZaQ at h
 have e:Z9 ⟨#[]⟩=true:=by decide
 simp only [fnS,f73,Zm,go_sem,seval,e]
 obtain ⟨q,f,h⟩:=Za h
 refine Zd (X0 f) ?_
 try simp only [*,go_sem,seval]
 refine Ze h (fun _ h=>?_) fun _ h=>?_<;>try simp only [*,go_sem,seval]
 cases h
 try simp only [*,go_sem,seval]
 refine Zi h (fun i _ st=>IV [(0,.p false [.c (.sl 166 2 (List.map Z4 b_0))]),(1,.p false [.c (.str term_1)]),(6,.p false [.c (.int .i64 ((i:Nat):Int))])] [] st) [] [] (by decide) ?_ ?_ ?_
 simp only [*,go_sem,seval]
 rintro t u ⟨⟩ ⟨sl,ob,n⟩ v a b g h k
 simp only [go_sem,seval,Zc] at b
 obtain ⟨⟨l,w,x⟩,hn⟩:=b
 subst hn
 have m:=WF.slotL g l (j:=0) rfl
 have y:=ZA a
 have z:=ZC a
 have A:=Zj (ZB a) m
 try simp only [*,go_sem,seval]
 refine Ze h (fun _ h=>?_) fun _ h=>?_<;>try simp only [*,go_sem,seval]
 obtain ⟨B,o,h⟩:=Za h
 refine Zd (Q3 o) ?_
 try simp only [*,go_sem,seval]
 refine Ze h (fun _ h=>?_) fun _ h=>?_<;>try simp only [*,go_sem,seval]
 replace h:=Zn h k
 cases h
 try simp only [*,go_sem,seval]
 refine ⟨_,[],[],(Option.some.inj h).symm,by decide,?_⟩
 try simp only [*,go_sem,seval]
 refine ⟨_,[],[],(Option.some.inj h).symm,by decide,?_⟩
 try simp only [*,go_sem,seval]
 rintro ⟨⟩ ⟨sl,ob,n⟩ d C h
 simp only [go_sem,seval,Zc] at d
 obtain ⟨⟨D,E,F⟩,hn⟩:=d
 subst hn
 have G:=Zy (b_0.length)
 cases h
 try simp only [*,go_sem,seval]
theorem Zj9 {f_0:Zb} {r:Bool} (h:Ze7 f_0=some r):Zk Tryz.prog J0 155 [(true,Zl f_0)] [(false,[(false,.bool r)])]:=by
 refine fnk Tryz.func155 (by kernel_rfl) rfl (by kernel_rfl) (by kernel_rfl) ?_
 unfold Ze7 at h
 simp only [fnS,f155,Zm,go_sem,seval]
 refine Zi h (fun i _ st=>IV [(1,.bp 0 0),(3,.p false [.c (.int .i64 ((i:Nat):Int))])] [.box 45 [.c (.str f_0.rel),.c (.sl 9 1 (List.map Zx f_0.args))]] st) [] [0] (by decide) ?_ ?_ ?_
 simp only [*,go_sem,seval]
 rintro o q ⟨⟩ ⟨sl,ob,n⟩ t a b e h f
 simp only [go_sem,seval,Zc] at b
 obtain ⟨⟨u,v⟩,g,hn⟩:=b
 subst hn
 have k:=WF.boxL e g (j:=1) rfl
 have w:=ZA a
 have x:=ZC a
 have y:=Zj (ZB a) k
 try simp only [*,go_sem,seval]
 obtain ⟨z,l,h⟩:=Za h
 refine Zd (X0 l) ?_
 try simp only [*,go_sem,seval]
 refine Ze h (fun _ h=>?_) fun _ h=>?_<;>try simp only [*,go_sem,seval]
 refine ⟨_,[],[0],(Option.some.inj h).symm,by decide,?_⟩
 try simp only [*,go_sem,seval]
 replace h:=Zn h f
 cases h
 try simp only [*,go_sem,seval]
 rintro ⟨⟩ ⟨sl,ob,n⟩ d A h
 simp only [go_sem,seval,Zc] at d
 obtain ⟨⟨B,C⟩,D,hn⟩:=d
 subst hn
 have E:=Zy (f_0.args.length)
 try simp only [*,go_sem,seval]
 obtain ⟨F,m,h⟩:=Za h
 refine Zd (ZgV m) ?_
 try simp only [*,go_sem,seval]
 refine Ze h (fun _ h=>?_) fun _ h=>?_<;>try simp only [*,go_sem,seval]
 iterate 2 (cases h;try simp only [*,go_sem,seval])
theorem ZrC {t_0:Zu} {r:Zu} (h:Zf4 t_0=some r):Zk Tryz.prog J0 279 [(true,YK t_0)] [(true,[(false,.sl 45 2 (List.map Zl r.facts)),(false,.sl 166 2 (List.map Z4 r.binding))])]:=by
 refine fnk Tryz.func279 (by kernel_rfl) rfl (by kernel_rfl) (by kernel_rfl) ?_
 unfold Zf4 at h
 simp only [fnS,f279,Zm,go_sem,seval]
 obtain ⟨c,a,h⟩:=Za h
 refine Zd (Zeq a) ?_
 try simp only [*,go_sem,seval]
 obtain ⟨d,b,h⟩:=Za h
 refine Zd (ZgL b) ?_
 cases h
 try simp only [*,go_sem,seval]
theorem ZhF {l_0:(List Zb)} {facts_1:(List Zb)} {r:(List Int)} (h:ZbP l_0 facts_1=some r):Zk Tryz.prog J0 92 [(false,[.sl 45 2 (List.map Zl l_0)]),(false,[.sl 45 2 (List.map Zl facts_1)])] [(false,[(false,.sl 3 1 (List.map ZI r))])]:=by
 refine fnk Tryz.func92 (by kernel_rfl) rfl (by kernel_rfl) (by kernel_rfl) ?_
 unfold ZbP at h
 simp only [fnS,f92,Zm,go_sem,seval]
 refine Zi h (fun i a st=>IV [(0,.p false [.c (.sl 45 2 (List.map Zl l_0))]),(1,.p false [.c (.sl 45 2 (List.map Zl facts_1))]),(5,.p false [.row 0]),(6,.p false [.c (.int .i64 ((i:Nat):Int))])] [.row 3 1 (List.map ZI a) 2] st) [] [16] (by decide) ?_ ?_ ?_
 simp only [*,go_sem,seval]
 rintro o q a ⟨sl,ob,n⟩ t b d f h u
 simp only [go_sem,seval,Zc] at d
 obtain ⟨⟨v,g,w,x⟩,y,hn⟩:=d
 subst hn
 have k:=WF.slotL f g (j:=0) rfl
 have z:=ZA b
 have A:=ZC b
 have B:=Zj (ZB b) k
 try simp only [*,go_sem,seval]
 obtain ⟨C,l,h⟩:=Za h
 refine Zd (Zb0 l) ?_
 try simp only [*,go_sem,seval]
 refine Ze h (fun _ h=>?_) fun _ h=>?_<;>try simp only [*,go_sem,seval]
 obtain ⟨D,m,h⟩:=Za h
 refine Zd (ZpR m) ?_
 try simp only [*,go_sem,seval]
 refine ⟨_,[],[241],(Option.some.inj h).symm,by decide,?_⟩
 try simp only [*,go_sem,seval]
 refine ⟨_,[],[0],(Option.some.inj h).symm,by decide,?_⟩
 try simp only [*,go_sem,seval]
 rintro a ⟨sl,ob,n⟩ e E h
 simp only [go_sem,seval,Zc] at e
 obtain ⟨⟨F,G,H,I⟩,J,hn⟩:=e
 subst hn
 have K:=Zy (facts_1.length)
 cases h
 try simp only [*,go_sem,seval]
theorem Zek {b_0:Zr} {r:Bool} (h:XR b_0=some r):Zk Tryz.prog J0 260 [(true,XY b_0)] [(false,[(false,.bool r)])]:=by
 refine fnk Tryz.func260 (by kernel_rfl) rfl (by kernel_rfl) (by kernel_rfl) ?_
 unfold XR at h
 simp only [fnS,f260,Zm,go_sem,seval]
 obtain ⟨A,o,h⟩:=Za h
 refine Zd (Zlu o) ?_
 try simp only [*,go_sem,seval]
 refine Ze h (fun _ h=>?_) fun _ h=>?_<;>try simp only [*,go_sem,seval]
 refine Zi h (fun i _ st=>IV [(1,.bp 0 0),(3,.p false [.c (.int .i64 ((i:Nat):Int))])] [.box 64 [.c (.int .i64 b_0.nodes),.c (.sl 199 3 (List.map ZE b_0.reasons))]] st) [] [0] (by decide) ?_ ?_ ?_
 simp only [*,go_sem,seval]
 rintro q d ⟨⟩ ⟨sl,ob,n⟩ B a e t h f
 simp only [go_sem,seval,Zc] at e
 obtain ⟨⟨C,D⟩,u,hn⟩:=e
 subst hn
 have v:=WF.boxL t u (j:=1) rfl
 have E:=ZA a
 have F:=ZC a
 have G:=Zj (ZB a) v
 try simp only [*,go_sem,seval]
 refine Zi h (fun i _ st=>IV [(1,.bp 0 0),(3,.p false [.c (.int .i64 ((q:Nat):Int))]),(4,.p false [.c (.int .i64 d.for_)]),(5,.p false [.c (.int .i64 ((i:Nat):Int))])] [.box 64 [.c (.int .i64 b_0.nodes),.c (.sl 199 3 (List.map ZE b_0.reasons))]] st) [] [0] (by decide) ?_ ?_ ?_
 simp only [*,go_sem,seval]
 rintro H I ⟨⟩ ⟨sl,ob,n⟩ J b g w h k
 simp only [go_sem,seval,Zc] at g
 obtain ⟨⟨K,L,M,N⟩,x,hn⟩:=g
 subst hn
 have y:=WF.elL (WF.boxD w x (j:=1) rfl) a (j:=2) rfl
 have O:=ZA b
 have P:=ZC b
 have Q:=Zj (ZB b) y
 try simp only [*,go_sem,seval]
 refine Ze h (fun _ h=>?_) fun _ h=>?_<;>try simp only [*,go_sem,seval]
 replace h:=Zn h k
 replace h:=Zn h f
 cases h
 try simp only [*,go_sem,seval]
 obtain ⟨R,z,h⟩:=Za h
 refine Zd (ZmY z) ?_
 obtain ⟨S,h⟩:=Zq h
 obtain ⟨T,U,h⟩:=Za h
 try simp only [*,go_sem,seval]
 refine Ze h (fun _ h=>?_) fun _ h=>?_<;>try simp only [*,go_sem,seval]
 replace h:=Zn h k
 replace h:=Zn h f
 cases h
 try simp only [*,go_sem,seval]
 refine ⟨_,[],[0],(Option.some.inj h).symm,by decide,?_⟩
 try simp only [*,go_sem,seval]
 rintro ⟨⟩ ⟨sl,ob,n⟩ l V h
 simp only [go_sem,seval,Zc] at l
 obtain ⟨⟨W,X,Y,Z⟩,aa,hn⟩:=l
 subst hn
 have ab:=Zy (d.outs.length)
 try simp only [*,go_sem,seval]
 refine ⟨_,[],[0],(Option.some.inj h).symm,by decide,?_⟩
 try simp only [*,go_sem,seval]
 rintro ⟨⟩ ⟨sl,ob,n⟩ m ac h
 simp only [go_sem,seval,Zc] at m
 obtain ⟨⟨ad,ae⟩,af,hn⟩:=m
 subst hn
 have ag:=Zy (b_0.reasons.length)
 iterate 2 (cases h;try simp only [*,go_sem,seval])
theorem Zid {l_0:(List Zb)} {f_1:Zb} {r:Bool} (h:ZfI l_0 f_1=some r):Zk Tryz.prog J0 22 [(false,[.sl 45 2 (List.map Zl l_0)]),(true,Zl f_1)] [(false,[(false,.bool r)])]:=by
 refine fnk Tryz.func22 (by kernel_rfl) rfl (by kernel_rfl) (by kernel_rfl) ?_
 unfold ZfI at h
 simp only [fnS,f22,Zm,go_sem,seval]
 obtain ⟨b,a,h⟩:=Za h
 refine Zd (Zb0 a) ?_
 cases h
 try simp only [*,go_sem,seval]
end Go.Proofs.YtfehfkfdfmcgfaaGreatDoor
namespace Go.Proofs.YtfehfkfdfmcgfaaGreatDoor
open Go.Proofs.Tryz
set_option linter.unusedSimpArgs false
set_option linter.unusedVariables false
set_option maxRecDepth 1000000
set_option maxHeartbeats 4000000
theorem Znd {l_0:(List Zb)} {r:Bool} (h:Zdv l_0=some r):Zk Tryz.prog J0 87 [(false,[.sl 45 2 (List.map Zl l_0)])] [(false,[(false,.bool r)])]:=by
 refine fnk Tryz.func87 (by kernel_rfl) rfl (by kernel_rfl) (by kernel_rfl) ?_
 unfold Zdv at h
 simp only [fnS,f87,Zm,go_sem,seval]
 refine Zi h (fun i _ st=>IV [(0,.p false [.c (.sl 45 2 (List.map Zl l_0))]),(3,.p false [.c (.int .i64 ((i:Nat):Int))])] [] st) [] [] (by decide) ?_ ?_ ?_
 simp only [*,go_sem,seval]
 rintro o q ⟨⟩ ⟨sl,ob,n⟩ t a b f h d
 simp only [go_sem,seval,Zc] at b
 obtain ⟨⟨g,u⟩,hn⟩:=b
 subst hn
 have k:=WF.slotL f g (j:=0) rfl
 have v:=ZA a
 have w:=ZC a
 have x:=Zj (ZB a) k
 try simp only [*,go_sem,seval]
 obtain ⟨y,l,h⟩:=Za h
 refine Zd (Zj9 l) ?_
 try simp only [*,go_sem,seval]
 iterate 2 refine Ze h (fun _ h=>?_) fun _ h=>?_<;>try simp only [*,go_sem,seval]
 obtain ⟨z,A,B,C,h⟩:=ZbQ h
 try simp only [*,go_sem,seval]
 obtain ⟨D,m,h⟩:=Za h
 refine Zd (Qv m) ?_
 try simp only [*,go_sem,seval]
 refine Ze h (fun _ h=>?_) fun _ h=>?_<;>try simp only [*,go_sem,seval]
 replace h:=Zn h d
 cases h
 try simp only [*,go_sem,seval]
 refine ⟨_,[],[],(Option.some.inj h).symm,by decide,?_⟩
 try simp only [*,go_sem,seval]
 refine ⟨_,[],[],(Option.some.inj h).symm,by decide,?_⟩
 try simp only [*,go_sem,seval]
 replace h:=Zn h d
 cases h
 try simp only [*,go_sem,seval]
 rintro ⟨⟩ ⟨sl,ob,n⟩ e E h
 simp only [go_sem,seval,Zc] at e
 obtain ⟨⟨F,G⟩,hn⟩:=e
 subst hn
 have H:=Zy (l_0.length)
 cases h
 try simp only [*,go_sem,seval]
theorem ZqF {b_0:(List Zs)} {v_1:ByteArray} {value_2:ByteArray} {r:((List Zs) × Bool)} (h:ZgN b_0 v_1 value_2=some r):Zk Tryz.prog J0 314 [(false,[.sl 166 2 (List.map Z4 b_0)]),(false,[.str v_1]),(false,[.str value_2])] [(false,[(false,.sl 166 2 (List.map Z4 r.1))]),(false,[(false,.bool r.2)])]:=by
 refine fnk Tryz.func314 (by kernel_rfl) rfl (by kernel_rfl) (by kernel_rfl) ?_
 unfold ZgN at h
 simp only [fnS,f314,Zm,go_sem,seval]
 obtain ⟨g,a,h⟩:=Za h
 refine Zd (QX a) ?_
 try simp only [*,go_sem,seval]
 refine Ze h (fun _ h=>?_) fun _ h=>?_<;>try simp only [*,go_sem,seval]
 obtain ⟨i,b,h⟩:=Za h
 refine Zd (Q3 b) ?_
 try simp only [*,go_sem,seval]
 refine Ze h (fun _ h=>?_) fun _ h=>?_<;>try simp only [*,go_sem,seval]
 obtain ⟨j,c,h⟩:=Za h
 refine Zd (X0 c) ?_
 try simp only [*,go_sem,seval]
 refine Ze h (fun _ h=>?_) fun _ h=>?_<;>try simp only [*,go_sem,seval]
 obtain ⟨k,d,h⟩:=Za h
 refine Zd (ZcO d) ?_
 try simp only [*,go_sem,seval]
 iterate 2 refine Ze h (fun _ h=>?_) fun _ h=>?_<;>try simp only [*,go_sem,seval]
 obtain ⟨l,e,h⟩:=Za h
 refine Zd (ZgL e) ?_
 iterate 2 (cases h;try simp only [*,go_sem,seval])
 refine Ze h (fun _ h=>?_) fun _ h=>?_<;>try simp only [*,go_sem,seval]
 cases h
 try simp only [*,go_sem,seval]
 obtain ⟨m,f,h⟩:=Za h
 refine Zd (ZsA f) ?_
 iterate 4 (cases h;try simp only [*,go_sem,seval])
theorem Zm6 {append_0:Zr} {r:(List Int)} (h:Zds append_0=some r):Zk Tryz.prog J0 261 [(true,XY append_0)] [(false,[(false,.sl 3 1 (List.map ZI r))])]:=by
 refine fnk Tryz.func261 (by kernel_rfl) rfl (by kernel_rfl) (by kernel_rfl) ?_
 unfold Zds at h
 simp only [fnS,f261,Zm,go_sem,seval]
 obtain ⟨v1,e1,h⟩:=Za h
 refine Zd (by have hh:=Zek e1;first|exact hh|(simp only [*,go_sem] at hh;exact hh)) ?_
 try simp only [*,go_sem,seval]
 refine Ze h (fun _ h=>?_) fun _ h=>?_<;>try simp only [*,go_sem,seval]
 ·obtain ⟨p3,h⟩:=Zq h
  try simp only [*,go_sem,seval]
  refine Yo h (fun s st=>match s with | (row_116,u_117)=>IV [(1,.bp 0 0),(3,.p false [.row 1]),(4,.p false [.c (.int .i64 u_117)])] [.box 64 [.c (.int .i64 append_0.nodes),.c (.sl 199 3 (List.map ZE append_0.reasons))],.row 3 1 (List.map ZI row_116) 2] st) [] [0,112] (by decide) ?_ ?_
  ·simp only [*,go_sem,seval]
  ·rintro ⟨row_116,u_117⟩ ⟨sl,ob,n⟩ y4 hI5 hW6 h hy4
   simp only [go_sem,seval,Zc] at hI5
   obtain ⟨⟨g7_1,g7_3,g7_4⟩,og7_0,og7_1,hn⟩:=hI5
   subst hn
   try simp only [*,go_sem,seval]
   refine Ze h (fun _ h=>?_) fun _ h=>?_<;>try simp only [*,go_sem,seval]
   ·refine Zi h (fun i row_155 st=>IV [(1,.bp 0 0),(3,.p false [.row 1]),(4,.p false [.c (.int .i64 u_117)]),(5,.p false [.c (.int .i64 ((i:Nat):Int))])] [.box 64 [.c (.int .i64 append_0.nodes),.c (.sl 199 3 (List.map ZE append_0.reasons))],.row 3 1 (List.map ZI row_155) 2] st) [] [0,1] (by decide) ?_ ?_ ?_
    ·simp only [*,go_sem,seval]
    ·rintro i194 x195 row_155 ⟨sl,ob,n⟩ y9 hx10 hI11 hW12 h hy9
     simp only [go_sem,seval,Zc] at hI11
     obtain ⟨⟨g13_1,g13_3,g13_4,g13_5⟩,og13_0,og13_1,hn⟩:=hI11
     subst hn
     have hlhx10:=WF.boxL hW12 og13_0 (j:=1) rfl
     have q14:=ZA hx10
     have q15:=ZC hx10
     have q16:=Zj (ZB hx10) hlhx10
     try simp only [*,go_sem,seval]
     refine Zi h (fun i row_199 st=>IV [(1,.bp 0 0),(3,.p false [.row 1]),(4,.p false [.c (.int .i64 u_117)]),(5,.p false [.c (.int .i64 ((i194:Nat):Int))]),(6,.bp 2 0),(7,.p false [.c (.int .i64 ((i:Nat):Int))])] [.box 64 [.c (.int .i64 append_0.nodes),.c (.sl 199 3 (List.map ZE append_0.reasons))],.row 3 1 (List.map ZI row_199) 2,.box 199 [.c (.int .i64 x195.for_),.c (.sl 3 1 (List.map ZI x195.inn)),.c (.sl 3 1 (List.map ZI x195.outs))]] st) [] [0,1,162] (by decide) ?_ ?_ ?_
     ·simp only [*,go_sem,seval]
     ·rintro i216 x217 row_199 ⟨sl,ob,n⟩ y17 hx18 hI19 hW20 h hy17
      simp only [go_sem,seval,Zc] at hI19
      obtain ⟨⟨g21_1,g21_3,g21_4,g21_5,g21_6,g21_7⟩,og21_0,og21_1,og21_2,hn⟩:=hI19
      subst hn
      have hlhx18:=WF.boxL hW20 og21_2 (j:=1) rfl
      have q22:=ZA hx18
      have q23:=ZC hx18
      have q24:=Zj (ZB hx18) hlhx18
      obtain ⟨p25,h⟩:=Zq h
      obtain ⟨x218,e26,h⟩:=Za h
      obtain ⟨p27,h⟩:=Zq h
      obtain ⟨x219,e28,h⟩:=Za h
      try simp only [*,go_sem,seval]
      refine ⟨_,[],[0,1,2],(Option.some.inj h).symm,by decide,?_⟩
      try simp only [*,go_sem,seval]
     ·rintro row_199 ⟨sl,ob,n⟩ hI29 hW30 h
      simp only [go_sem,seval,Zc] at hI29
      obtain ⟨⟨g31_1,g31_3,g31_4,g31_5,g31_6,g31_7⟩,og31_0,og31_1,og31_2,hn⟩:=hI29
      subst hn
      have q32:=Zy (x195.inn.length)
      try simp only [*,go_sem,seval]
      refine Zi h (fun i row_223 st=>IV [(1,.bp 0 0),(3,.p false [.row 1]),(4,.p false [.c (.int .i64 u_117)]),(5,.p false [.c (.int .i64 ((i194:Nat):Int))]),(6,.bp 2 0),(8,.p false [.c (.int .i64 ((i:Nat):Int))])] [.box 64 [.c (.int .i64 append_0.nodes),.c (.sl 199 3 (List.map ZE append_0.reasons))],.row 3 1 (List.map ZI row_223) 2,.box 199 [.c (.int .i64 x195.for_),.c (.sl 3 1 (List.map ZI x195.inn)),.c (.sl 3 1 (List.map ZI x195.outs))]] st) [] [0,1,2] (by decide) ?_ ?_ ?_
      ·simp only [*,go_sem,seval]
      ·rintro i228 x229 row_223 ⟨sl,ob,n⟩ y33 hx34 hI35 hW36 h hy33
       simp only [go_sem,seval,Zc] at hI35
       obtain ⟨⟨g37_1,g37_3,g37_4,g37_5,g37_6,g37_8⟩,og37_0,og37_1,og37_2,hn⟩:=hI35
       subst hn
       have hlhx34:=WF.boxL hW36 og37_2 (j:=2) rfl
       have q38:=ZA hx34
       have q39:=ZC hx34
       have q40:=Zj (ZB hx34) hlhx34
       obtain ⟨p41,h⟩:=Zq h
       obtain ⟨x230,e42,h⟩:=Za h
       obtain ⟨p43,h⟩:=Zq h
       obtain ⟨x231,e44,h⟩:=Za h
       try simp only [*,go_sem,seval]
       refine ⟨_,[],[0,1,2],(Option.some.inj h).symm,by decide,?_⟩
       try simp only [*,go_sem,seval]
      ·rintro row_223 ⟨sl,ob,n⟩ hI45 hW46 h
       simp only [go_sem,seval,Zc] at hI45
       obtain ⟨⟨g47_1,g47_3,g47_4,g47_5,g47_6,g47_8⟩,og47_0,og47_1,og47_2,hn⟩:=hI45
       subst hn
       have q48:=Zy (x195.outs.length)
       try simp only [*,go_sem,seval]
       refine ⟨_,[],[0,1],(Option.some.inj h).symm,by decide,?_⟩
       try simp only [*,go_sem,seval]
    ·rintro row_155 ⟨sl,ob,n⟩ hI49 hW50 h
     simp only [go_sem,seval,Zc] at hI49
     obtain ⟨⟨g51_1,g51_3,g51_4,g51_5⟩,og51_0,og51_1,hn⟩:=hI49
     subst hn
     have q52:=Zy (append_0.reasons.length)
     try simp only [*,go_sem,seval]
     refine ⟨_,[],[0,1],(Option.some.inj h).symm,by decide,?_⟩
     try simp only [*,go_sem,seval]
   ·replace h:=Zn h hy4
    cases h
    try simp only [*,go_sem,seval]
 ·cases h
  try simp only [*,go_sem,seval]
theorem Zru {a_0:(List Zb)} {b_1:(List Zb)} {r:Bool} (h:ZeN a_0 b_1=some r):Zk Tryz.prog J0 15 [(false,[.sl 45 2 (List.map Zl a_0)]),(false,[.sl 45 2 (List.map Zl b_1)])] [(false,[(false,.bool r)])]:=by
 refine fnk Tryz.func15 (by kernel_rfl) rfl (by kernel_rfl) (by kernel_rfl) ?_
 unfold ZeN at h
 simp only [fnS,f15,Zm,go_sem,seval]
 refine Zi h (fun i _ st=>IV [(0,.p false [.c (.sl 45 2 (List.map Zl a_0))]),(1,.p false [.c (.sl 45 2 (List.map Zl b_1))]),(5,.p false [.c (.int .i64 ((i:Nat):Int))])] [] st) [] [] (by decide) ?_ ?_ ?_
 simp only [*,go_sem,seval]
 rintro m o ⟨⟩ ⟨sl,ob,n⟩ q a b e h f
 simp only [go_sem,seval,Zc] at b
 obtain ⟨⟨g,t,u⟩,hn⟩:=b
 subst hn
 have k:=WF.slotL e g (j:=0) rfl
 have v:=ZA a
 have w:=ZC a
 have x:=Zj (ZB a) k
 try simp only [*,go_sem,seval]
 obtain ⟨y,l,h⟩:=Za h
 refine Zd (Zid l) ?_
 try simp only [*,go_sem,seval]
 refine Ze h (fun _ h=>?_) fun _ h=>?_<;>try simp only [*,go_sem,seval]
 refine ⟨_,[],[],(Option.some.inj h).symm,by decide,?_⟩
 try simp only [*,go_sem,seval]
 replace h:=Zn h f
 cases h
 try simp only [*,go_sem,seval]
 rintro ⟨⟩ ⟨sl,ob,n⟩ d z h
 simp only [go_sem,seval,Zc] at d
 obtain ⟨⟨A,B,C⟩,hn⟩:=d
 subst hn
 have D:=Zy (a_0.length)
 cases h
 try simp only [*,go_sem,seval]
end Go.Proofs.YtfehfkfdfmcgfaaGreatDoor
namespace Go.Proofs.YtfehfkfdfmcgfaaGreatDoor
open Go.Proofs.Tryz
set_option linter.unusedSimpArgs false
set_option linter.unusedVariables false
set_option maxRecDepth 1000000
set_option maxHeartbeats 4000000
theorem Zbq {r_0:Zg} {n_1:Int} {r:(List ByteArray)} (h:X5 r_0 n_1=some r):Zk Tryz.prog J0 219 [(true,ZF r_0),(false,[.int .i64 n_1])] [(false,[(false,.sl 9 1 (List.map Zx r))])]:=by
 refine fnk Tryz.func219 (by kernel_rfl) rfl (by kernel_rfl) (by kernel_rfl) ?_
 unfold X5 at h
 simp only [fnS,f219,Zm,go_sem,seval]
 refine Zi h (fun i row_12 st=>IV [(1,.p false [.c (.int .i64 n_1)]),(2,.bp 0 0),(5,.p false [.row 1]),(6,.p false [.c (.int .i64 ((i:Nat):Int))])] [.box 42 [.c (.str r_0.name),.c (.int .i64 r_0.priority),.c (.sl 173 5 (List.map ZK r_0.cond)),.c (.sl 50 3 (List.map ZG r_0.thn))],.row 9 1 (List.map Zx row_12) 2] st) [] [0,32] (by decide) ?_ ?_ ?_
 ·simp only [*,go_sem,seval]
 ·rintro i25 x26 row_12 ⟨sl,ob,n⟩ y1 hx2 hI3 hW4 h hy1
  simp only [go_sem,seval,Zc] at hI3
  obtain ⟨⟨g5_1,g5_2,g5_5,g5_6⟩,og5_0,og5_1,hn⟩:=hI3
  subst hn
  have hlhx2:=WF.boxL hW4 og5_0 (j:=2) rfl
  have q6:=ZA hx2
  have q7:=ZC hx2
  have q8:=Zj (ZB hx2) hlhx2
  try simp only [*,go_sem,seval]
  refine Ze h (fun _ h=>?_) fun _ h=>?_<;>try simp only [*,go_sem,seval]
  ·refine Ze h (fun _ h=>?_) fun _ h=>?_<;>try simp only [*,go_sem,seval]
   ·obtain ⟨v27,e11,h⟩:=Za h
    refine Zd (by have hh:=Zcw e11;first|exact hh|(simp only [*,go_sem] at hh;exact hh)) ?_
    try simp only [*,go_sem,seval]
    refine Zi h (fun i row_30 st=>IV [(1,.p false [.c (.int .i64 n_1)]),(2,.bp 0 0),(5,.p false [.row 1]),(6,.p false [.c (.int .i64 ((i25:Nat):Int))]),(7,.p false [.row 2]),(8,.p false [.c (.int .i64 ((i:Nat):Int))]),(16,.p false [.c (.int .i64 ((i25:Nat):Int))]),(17,.p false [.c (.int .i64 n_1)]),(18,.p false [.c (.bool (decide (((i25:Nat):Int)<n_1)))])] [.box 42 [.c (.str r_0.name),.c (.int .i64 r_0.priority),.c (.sl 173 5 (List.map ZK r_0.cond)),.c (.sl 50 3 (List.map ZG r_0.thn))],.row 9 1 (List.map Zx row_30) 2,.row 9 1 (List.map Zx v27) 2] st) [] [0,1,370] (by decide) ?_ ?_ ?_
    ·simp only [*,go_sem,seval]
    ·rintro i34 x35 row_30 ⟨sl,ob,n⟩ y12 hx13 hI14 hW15 h hy12
     simp only [go_sem,seval,Zc] at hI14
     obtain ⟨⟨g16_1,g16_2,g16_5,g16_6,g16_7,g16_8,g16_16,g16_17,g16_18⟩,og16_0,og16_1,og16_2,hn⟩:=hI14
     subst hn
     have hlhx13:=WF.rowL hW15 og16_2
     have q17:=ZA hx13
     have q18:=ZC hx13
     have q19:=Zj (ZB hx13) hlhx13
     try simp only [*,go_sem,seval]
     obtain ⟨v36,e20,h⟩:=Za h
     refine Zd (by have hh:=Xg e20;first|exact hh|(simp only [*,go_sem] at hh;exact hh)) ?_
     try simp only [*,go_sem,seval]
     refine ⟨_,[],[0,147,2],(Option.some.inj h).symm,by decide,?_⟩
     try simp only [*,go_sem,seval]
    ·rintro row_30 ⟨sl,ob,n⟩ hI21 hW22 h
     simp only [go_sem,seval,Zc] at hI21
     obtain ⟨⟨g23_1,g23_2,g23_5,g23_6,g23_7,g23_8,g23_16,g23_17,g23_18⟩,og23_0,og23_1,og23_2,hn⟩:=hI21
     subst hn
     have q24:=Zy (v27.length)
     try simp only [*,go_sem,seval]
     refine ⟨_,[],[0,1],(Option.some.inj h).symm,by decide,?_⟩
     try simp only [*,go_sem,seval]
   ·refine ⟨_,[],[0,1],(Option.some.inj h).symm,by decide,?_⟩
    try simp only [*,go_sem,seval]
  ·replace h:=Zn h hy1
   cases h
   try simp only [*,go_sem,seval]
 ·rintro row_12 ⟨sl,ob,n⟩ hI25 hW26 h
  simp only [go_sem,seval,Zc] at hI25
  obtain ⟨⟨g27_1,g27_2,g27_5,g27_6⟩,og27_0,og27_1,hn⟩:=hI25
  subst hn
  have q28:=Zy (r_0.cond.length)
  cases h
  try simp only [*,go_sem,seval]
theorem Xi {p_0:Zv} {r:Bool} (h:YS p_0=some r):Zk Tryz.prog J0 71 [(true,QA p_0)] [(false,[(false,.bool r)])]:=by
 refine fnk Tryz.func71 (by kernel_rfl) rfl (by kernel_rfl) (by kernel_rfl) ?_
 unfold YS at h
 simp only [fnS,f71,Zm,go_sem,seval]
 refine Zi h (fun i _ st=>IV [(1,.bp 0 0),(3,.p false [.c (.int .i64 ((i:Nat):Int))])] [.box 48 [.c (.str p_0.rel),.c (.sl 9 1 (List.map Zx p_0.args))]] st) [] [0] (by decide) ?_ ?_ ?_
 simp only [*,go_sem,seval]
 rintro o q ⟨⟩ ⟨sl,ob,n⟩ t a b e h f
 simp only [go_sem,seval,Zc] at b
 obtain ⟨⟨u,v⟩,g,hn⟩:=b
 subst hn
 have k:=WF.boxL e g (j:=1) rfl
 have w:=ZA a
 have x:=ZC a
 have y:=Zj (ZB a) k
 try simp only [*,go_sem,seval]
 obtain ⟨z,l,h⟩:=Za h
 refine Zd (QY l) ?_
 try simp only [*,go_sem,seval]
 refine Ze h (fun _ h=>?_) fun _ h=>?_<;>try simp only [*,go_sem,seval]
 refine ⟨_,[],[0],(Option.some.inj h).symm,by decide,?_⟩
 try simp only [*,go_sem,seval]
 replace h:=Zn h f
 cases h
 try simp only [*,go_sem,seval]
 rintro ⟨⟩ ⟨sl,ob,n⟩ d A h
 simp only [go_sem,seval,Zc] at d
 obtain ⟨⟨B,C⟩,D,hn⟩:=d
 subst hn
 have E:=Zy (p_0.args.length)
 try simp only [*,go_sem,seval]
 obtain ⟨F,m,h⟩:=Za h
 refine Zd (ZgV m) ?_
 try simp only [*,go_sem,seval]
 refine Ze h (fun _ h=>?_) fun _ h=>?_<;>try simp only [*,go_sem,seval]
 iterate 2 (cases h;try simp only [*,go_sem,seval])
theorem Zas {x_0:Zt} {r:(List ByteArray)} (h:XH x_0=some r):Zk Tryz.prog J0 221 [(true,ZK x_0)] [(false,[(false,.sl 9 1 (List.map Zx r))])]:=by
 refine fnk Tryz.func221 (by kernel_rfl) rfl (by kernel_rfl) (by kernel_rfl) ?_
 unfold XH at h
 simp only [fnS,f221,Zm,go_sem,seval]
 obtain ⟨i,a,h⟩:=Za h
 refine Zd (Zcw a) ?_
 try simp only [*,go_sem,seval]
 obtain ⟨j,b,h⟩:=Za h
 refine Zd (Q3 b) ?_
 try simp only [*,go_sem,seval]
 refine Ze h (fun _ h=>?_) fun _ h=>?_<;>try simp only [*,go_sem,seval]
 obtain ⟨k,c,h⟩:=Za h
 refine Zd (Xg c) ?_
 try simp only [*,go_sem,seval]
 obtain ⟨l,d,h⟩:=Za h
 refine Zd (Q3 d) ?_
 try simp only [*,go_sem,seval]
 refine Ze h (fun _ h=>?_) fun _ h=>?_<;>try simp only [*,go_sem,seval]
 obtain ⟨m,e,h⟩:=Za h
 refine Zd (Xg e) ?_
 iterate 2 (cases h;try simp only [*,go_sem,seval])
 obtain ⟨o,f,h⟩:=Za h
 refine Zd (Q3 f) ?_
 try simp only [*,go_sem,seval]
 refine Ze h (fun _ h=>?_) fun _ h=>?_<;>try simp only [*,go_sem,seval]
 obtain ⟨p,g,h⟩:=Za h
 refine Zd (Xg g) ?_
 iterate 2 (cases h;try simp only [*,go_sem,seval])
theorem Zdw {a:(List Zb)} {f_1:Zb} {r:(List Zb)} (h:YX a f_1=some r):Zk Tryz.prog J0 127 [(false,[.sl 45 2 (List.map Zl a)]),(true,Zl f_1)] [(false,[(false,.sl 45 2 (List.map Zl r))])]:=by
 refine fnk Tryz.func127 (by kernel_rfl) rfl (by kernel_rfl) (by kernel_rfl) ?_
 unfold YX at h
 simp only [fnS,f127,Zm,go_sem,seval]
 refine Zi h (fun i s st=>match s with | (b,d)=>IV [(0,.p false [.c (.sl 45 2 (List.map Zl a))]),(3,.bp 0 0),(5,.p false [.row 1]),(6,.p false [.c (.bool d)]),(7,.p false [.c (.int .i64 ((i:Nat):Int))])] [.box 45 [.c (.str f_1.rel),.c (.sl 9 1 (List.map Zx f_1.args))],.row 45 2 (List.map Zl b) 2] st) [] [0,32] (by decide) ?_ ?_ ?_
 simp only [*,go_sem,seval]
 rintro G H ⟨b,d⟩ ⟨sl,ob,n⟩ I e f k h J
 simp only [go_sem,seval,Zc] at f
 obtain ⟨⟨l,K,L,M,N⟩,O,P,hn⟩:=f
 subst hn
 have m:=WF.slotL k l (j:=0) rfl
 have Q:=ZA e
 have R:=ZC e
 have S:=Zj (ZB e) m
 try simp only [*,go_sem,seval]
 refine Ze h (fun _ h=>?_) fun _ h=>?_<;>try simp only [*,go_sem,seval]
 obtain ⟨T,o,h⟩:=Za h
 refine Zd (Xa o) ?_
 obtain ⟨q,h⟩:=Zq h
 try simp only [Nat.reduceLeDiff] at q
 try simp only [*,go_sem,seval]
 refine ⟨_,[],[0,354],(Option.some.inj h).symm,by decide,?_⟩
 try simp only [*,go_sem,seval]
 obtain ⟨U,t,h⟩:=Za h
 refine Zd (Qv t) ?_
 try simp only [*,go_sem,seval]
 refine Ze h (fun _ h=>?_) fun _ h=>?_<;>try simp only [*,go_sem,seval]
 obtain ⟨V,u,h⟩:=Za h
 refine Zd (Qv u) ?_
 try simp only [*,go_sem,seval]
 refine Ze h (fun _ h=>?_) fun _ h=>?_<;>try simp only [*,go_sem,seval]
 obtain ⟨W,v,h⟩:=Za h
 refine Zd (Xa v) ?_
 obtain ⟨w,h⟩:=Zq h
 try simp only [Nat.reduceLeDiff] at w
 try simp only [*,go_sem,seval]
 obtain ⟨X,x,h⟩:=Za h
 refine Zd (Xa x) ?_
 obtain ⟨y,h⟩:=Zq h
 try simp only [Nat.reduceLeDiff] at y
 try simp only [*,go_sem,seval]
 refine ⟨_,[],[0,578],(Option.some.inj h).symm,by decide,?_⟩
 try simp only [*,go_sem,seval]
 obtain ⟨Y,z,h⟩:=Za h
 refine Zd (Xa z) ?_
 obtain ⟨A,h⟩:=Zq h
 try simp only [Nat.reduceLeDiff] at A
 try simp only [*,go_sem,seval]
 refine ⟨_,[],[0,482],(Option.some.inj h).symm,by decide,?_⟩
 try simp only [*,go_sem,seval]
 obtain ⟨Z,B,h⟩:=Za h
 refine Zd (Xa B) ?_
 obtain ⟨C,h⟩:=Zq h
 try simp only [Nat.reduceLeDiff] at C
 try simp only [*,go_sem,seval]
 refine ⟨_,[],[0,354],(Option.some.inj h).symm,by decide,?_⟩
 try simp only [*,go_sem,seval]
 rintro ⟨b,d⟩ ⟨sl,ob,n⟩ g aa h
 simp only [go_sem,seval,Zc] at g
 obtain ⟨⟨ab,ac,ad,ae,af⟩,ag,ah,hn⟩:=g
 subst hn
 have ai:=Zy (a.length)
 try simp only [*,go_sem,seval]
 refine Ze h (fun _ h=>?_) fun _ h=>?_<;>try simp only [*,go_sem,seval]
 cases h
 try simp only [*,go_sem,seval]
 obtain ⟨aj,D,h⟩:=Za h
 refine Zd (Xa D) ?_
 obtain ⟨E,h⟩:=Zq h
 try simp only [Nat.reduceLeDiff] at E
 cases h
 try simp only [*,go_sem,seval]
theorem Zep {l_0:(List Zb)} {r:Bool} (h:ZaH l_0=some r):Zk Tryz.prog J0 66 [(false,[.sl 45 2 (List.map Zl l_0)])] [(false,[(false,.bool r)])]:=by
 refine fnk Tryz.func66 (by kernel_rfl) rfl (by kernel_rfl) (by kernel_rfl) ?_
 unfold ZaH at h
 simp only [fnS,f66,Zm,go_sem,seval]
 refine Ze h (fun _ h=>?_) fun _ h=>?_<;>try simp only [*,go_sem,seval]
 cases h
 try simp only [*,go_sem,seval]
 refine Zi h (fun i _ st=>IV [(0,.p false [.c (.sl 45 2 (List.map Zl l_0))]),(8,.p false [.c (.sl 45 2 (List.map Zl l_0))]),(9,.p false [.c (.int .i64 ((l_0.length:Nat):Int))]),(10,.p false [.c (.int .i64 ((i:Nat):Int))])] [] st) [] [] (by decide) ?_ ?_ ?_
 simp only [*,go_sem,seval]
 rintro o q ⟨⟩ ⟨sl,ob,n⟩ t a b f h d
 simp only [go_sem,seval,Zc] at b
 obtain ⟨⟨g,u,v,w⟩,hn⟩:=b
 subst hn
 have k:=WF.slotL f g (j:=0) rfl
 have x:=ZA a
 have y:=ZC a
 have z:=Zj (ZB a) k
 try simp only [*,go_sem,seval]
 obtain ⟨A,l,h⟩:=Za h
 refine Zd (Zky l) ?_
 try simp only [*,go_sem,seval]
 iterate 2 refine Ze h (fun _ h=>?_) fun _ h=>?_<;>try simp only [*,go_sem,seval]
 obtain ⟨B,C,D,E,h⟩:=ZbQ h
 try simp only [*,go_sem,seval]
 obtain ⟨F,m,h⟩:=Za h
 refine Zd (Zd7 m) ?_
 try simp only [*,go_sem,seval]
 refine Ze h (fun _ h=>?_) fun _ h=>?_<;>try simp only [*,go_sem,seval]
 replace h:=Zn h d
 cases h
 try simp only [*,go_sem,seval]
 refine ⟨_,[],[],(Option.some.inj h).symm,by decide,?_⟩
 try simp only [*,go_sem,seval]
 refine ⟨_,[],[],(Option.some.inj h).symm,by decide,?_⟩
 try simp only [*,go_sem,seval]
 replace h:=Zn h d
 cases h
 try simp only [*,go_sem,seval]
 rintro ⟨⟩ ⟨sl,ob,n⟩ e G h
 simp only [go_sem,seval,Zc] at e
 obtain ⟨⟨H,I,J,K⟩,hn⟩:=e
 subst hn
 have L:=Zy (l_0.length)
 cases h
 try simp only [*,go_sem,seval]
theorem Zce {p_0:Zv} {b_1:(List Zs)} {r:(Zb × Bool)} (h:XL p_0 b_1=some r):Zk Tryz.prog J0 68 [(true,QA p_0),(false,[.sl 166 2 (List.map Z4 b_1)])] [(true,[(false,.str r.1.rel),(false,.sl 9 1 (List.map Zx r.1.args))]),(false,[(false,.bool r.2)])]:=by
 refine fnk Tryz.func68 (by kernel_rfl) rfl (by kernel_rfl) (by kernel_rfl) ?_
 unfold XL at h
 simp only [fnS,f68,Zm,go_sem,seval]
 obtain ⟨u,f,h⟩:=Za h
 refine Zd (XQ f) ?_
 try simp only [*,go_sem,seval]
 refine Ze h (fun _ h=>?_) fun _ h=>?_<;>try simp only [*,go_sem,seval]
 obtain ⟨v,g,h⟩:=Za h
 refine Zd (QO g) ?_
 try simp only [*,go_sem,seval]
 refine Ze h (fun _ h=>?_) fun _ h=>?_<;>try simp only [*,go_sem,seval]
 refine Zi h (fun i a st=>IV [(1,.p false [.c (.sl 166 2 (List.map Z4 b_1))]),(4,.bp 0 0),(6,.bp 1 0),(24,.p false [.c (.sl 9 1 (List.map Zx p_0.args))]),(25,.p false [.c (.int .i64 ((p_0.args.length:Nat):Int))]),(26,.p false [.c (.int .i64 ((i:Nat):Int))])] [.box 45 [.c (.str ⟨#[]⟩),.nil 9 1],.box 45 [.c (.str p_0.rel),.row 2],.row 9 1 (List.map Zx a) 2] st) [(true,224,1)] [16,224,320] (by decide) ?_ ?_ ?_
 simp only [*,go_sem,seval]
 rintro w x a ⟨sl,ob,n⟩ y b d k h l
 simp only [go_sem,seval,Zc] at d
 obtain ⟨⟨z,A,B,m,C,D⟩,E,F,G,hn⟩:=d
 subst hn
 have o:=WF.slotL k m (j:=0) rfl
 have H:=ZA b
 have I:=ZC b
 have J:=Zj (ZB b) o
 try simp only [*,go_sem,seval]
 obtain ⟨K,q,h⟩:=Za h
 refine Zd (ZcR q) ?_
 try simp only [*,go_sem,seval]
 refine Ze h (fun _ h=>?_) fun _ h=>?_<;>try simp only [*,go_sem,seval]
 obtain ⟨t,h⟩:=Zq h
 try simp only [Nat.reduceLeDiff] at t
 try simp only [*,go_sem,seval]
 refine ⟨_,[],[0,1,291],(Option.some.inj h).symm,by decide,?_⟩
 try simp only [*,go_sem,seval]
 replace h:=Zn h l
 cases h
 try simp only [*,go_sem,seval]
 rintro a ⟨sl,ob,n⟩ e L h
 simp only [go_sem,seval,Zc] at e
 obtain ⟨⟨M,N,O,P,Q,R⟩,S,T,U,hn⟩:=e
 subst hn
 have V:=Zy (p_0.args.length)
 iterate 3 (cases h;try simp only [*,go_sem,seval])
theorem Zgc {x_0:Zt} {r:Bool} (h:ZdA x_0=some r):Zk Tryz.prog J0 196 [(true,ZK x_0)] [(false,[(false,.bool r)])]:=by
 refine fnk Tryz.func196 (by kernel_rfl) rfl (by kernel_rfl) (by kernel_rfl) ?_
 unfold ZdA at h
 have a:Z9 ⟨#[]⟩=true:=by decide
 simp only [fnS,f196,Zm,go_sem,seval,a]
 refine Ze h (fun _ h=>?_) fun _ h=>?_<;>try simp only [*,go_sem,seval]
 obtain ⟨o,b,h⟩:=Za h
 refine Zd (XQ b) ?_
 try simp only [*,go_sem,seval]
 iterate 2 refine Ze h (fun _ h=>?_) fun _ h=>?_<;>try simp only [*,go_sem,seval]
 iterate 3 (cases h;try simp only [*,go_sem,seval])
 refine Ze h (fun _ h=>?_) fun _ h=>?_<;>try simp only [*,go_sem,seval]
 obtain ⟨p,c,h⟩:=Za h
 refine Zd (XQ c) ?_
 try simp only [*,go_sem,seval]
 iterate 2 refine Ze h (fun _ h=>?_) fun _ h=>?_<;>try simp only [*,go_sem,seval]
 iterate 3 (cases h;try simp only [*,go_sem,seval])
 refine Ze h (fun _ h=>?_) fun _ h=>?_<;>try simp only [*,go_sem,seval]
 obtain ⟨q,d,h⟩:=Za h
 refine Zd (QH d) ?_
 try simp only [*,go_sem,seval]
 refine Ze h (fun _ h=>?_) fun _ h=>?_<;>try simp only [*,go_sem,seval]
 obtain ⟨t,e,h⟩:=Za h
 refine Zd (QH e) ?_
 try simp only [*,go_sem,seval]
 refine Ze h (fun _ h=>?_) fun _ h=>?_<;>try simp only [*,go_sem,seval]
 obtain ⟨u,f,h⟩:=Za h
 refine Zd (Q8 f) ?_
 iterate 3 (cases h;try simp only [*,go_sem,seval])
 refine Ze h (fun _ h=>?_) fun _ h=>?_<;>try simp only [*,go_sem,seval]
 obtain ⟨v,g,h⟩:=Za h
 refine Zd (QH g) ?_
 try simp only [*,go_sem,seval]
 refine Ze h (fun _ h=>?_) fun _ h=>?_<;>try simp only [*,go_sem,seval]
 obtain ⟨w,i,h⟩:=Za h
 refine Zd (QH i) ?_
 try simp only [*,go_sem,seval]
 refine Ze h (fun _ h=>?_) fun _ h=>?_<;>try simp only [*,go_sem,seval]
 obtain ⟨x,j,h⟩:=Za h
 refine Zd (Q8 j) ?_
 iterate 3 (cases h;try simp only [*,go_sem,seval])
 refine Ze h (fun _ h=>?_) fun _ h=>?_<;>try simp only [*,go_sem,seval]
 obtain ⟨y,k,h⟩:=Za h
 refine Zd (QH k) ?_
 try simp only [*,go_sem,seval]
 refine Ze h (fun _ h=>?_) fun _ h=>?_<;>try simp only [*,go_sem,seval]
 obtain ⟨z,l,h⟩:=Za h
 refine Zd (QH l) ?_
 try simp only [*,go_sem,seval]
 refine Ze h (fun _ h=>?_) fun _ h=>?_<;>try simp only [*,go_sem,seval]
 obtain ⟨A,m,h⟩:=Za h
 refine Zd (Q8 m) ?_
 iterate 4 (cases h;try simp only [*,go_sem,seval])
theorem Zgm {r_0:Zg} {k_1:Int} {v_2:ByteArray} {r:Bool} (h:XC r_0 k_1 v_2=some r):Zk Tryz.prog J0 264 [(true,ZF r_0),(false,[.int .i64 k_1]),(false,[.str v_2])] [(false,[(false,.bool r)])]:=by
 refine fnk Tryz.func264 (by kernel_rfl) rfl (by kernel_rfl) (by kernel_rfl) ?_
 unfold XC at h
 simp only [fnS,f264,Zm,go_sem,seval]
 refine Zi h (fun i _ st=>IV [(1,.p false [.c (.int .i64 k_1)]),(2,.p false [.c (.str v_2)]),(3,.bp 0 0),(12,.p false [.c (.sl 173 5 (List.map ZK r_0.cond))]),(13,.p false [.c (.int .i64 ((r_0.cond.length:Nat):Int))]),(14,.p false [.c (.int .i64 ((i:Nat):Int))])] [.box 42 [.c (.str r_0.name),.c (.int .i64 r_0.priority),.c (.sl 173 5 (List.map ZK r_0.cond)),.c (.sl 50 3 (List.map ZG r_0.thn))]] st) [] [0] (by decide) ?_ ?_ ?_
 simp only [*,go_sem,seval]
 rintro z A ⟨⟩ ⟨sl,ob,n⟩ B a d k h l
 simp only [go_sem,seval,Zc] at d
 obtain ⟨⟨C,D,E,m,F,G⟩,H,hn⟩:=d
 subst hn
 have o:=WF.slotL k m (j:=0) rfl
 have I:=ZA a
 have J:=ZC a
 have K:=Zj (ZB a) o
 try simp only [*,go_sem,seval]
 refine Ze h (fun _ h=>?_) fun _ h=>?_<;>try simp only [*,go_sem,seval]
 obtain ⟨L,q,h⟩:=Za h
 refine Zd (Zb9 q) ?_
 try simp only [*,go_sem,seval]
 obtain ⟨M,t,h⟩:=Za h
 refine Zd (Zac t) ?_
 try simp only [*,go_sem,seval]
 refine Ze h (fun _ h=>?_) fun _ h=>?_<;>try simp only [*,go_sem,seval]
 replace h:=Zn h l
 cases h
 try simp only [*,go_sem,seval]
 refine ⟨_,[],[0],(Option.some.inj h).symm,by decide,?_⟩
 try simp only [*,go_sem,seval]
 refine ⟨_,[],[0],(Option.some.inj h).symm,by decide,?_⟩
 try simp only [*,go_sem,seval]
 rintro ⟨⟩ ⟨sl,ob,n⟩ e N h
 simp only [go_sem,seval,Zc] at e
 obtain ⟨⟨O,P,Q,R,S,T⟩,U,hn⟩:=e
 subst hn
 have V:=Zy (r_0.cond.length)
 try simp only [*,go_sem,seval]
 refine Zi h (fun i _ st=>IV [(2,.p false [.c (.str v_2)]),(30,.p false [.c (.sl 50 3 (List.map ZG r_0.thn))]),(31,.p false [.c (.int .i64 ((r_0.thn.length:Nat):Int))]),(32,.p false [.c (.int .i64 ((i:Nat):Int))])] [] st) [] [] (by decide) ?_ ?_ ?_
 simp only [*,go_sem,seval]
 rintro W X ⟨⟩ ⟨sl,ob,n⟩ Y b f u h v
 simp only [go_sem,seval,Zc] at f
 obtain ⟨⟨Z,w,aa,ab⟩,hn⟩:=f
 subst hn
 have x:=WF.slotL u w (j:=0) rfl
 have ac:=ZA b
 have ad:=ZC b
 have ae:=Zj (ZB b) x
 try simp only [*,go_sem,seval]
 obtain ⟨af,y,h⟩:=Za h
 refine Zd (Zac y) ?_
 try simp only [*,go_sem,seval]
 refine Ze h (fun _ h=>?_) fun _ h=>?_<;>try simp only [*,go_sem,seval]
 replace h:=Zn h v
 cases h
 try simp only [*,go_sem,seval]
 refine ⟨_,[],[],(Option.some.inj h).symm,by decide,?_⟩
 try simp only [*,go_sem,seval]
 rintro ⟨⟩ ⟨sl,ob,n⟩ g ag h
 simp only [go_sem,seval,Zc] at g
 obtain ⟨⟨ah,ai,aj,ak⟩,hn⟩:=g
 subst hn
 have al:=Zy (r_0.thn.length)
 cases h
 try simp only [*,go_sem,seval]
theorem ZmO {a_0:Zz} {r:Bool} (h:Zdl a_0=some r):Zk Tryz.prog J0 199 [(true,ZG a_0)] [(false,[(false,.bool r)])]:=by
 refine fnk Tryz.func199 (by kernel_rfl) rfl (by kernel_rfl) (by kernel_rfl) ?_
 unfold Zdl at h
 simp only [fnS,f199,Zm,go_sem,seval]
 refine Ze h (fun _ h=>?_) fun _ h=>?_<;>try simp only [*,go_sem,seval]
 obtain ⟨d,a,h⟩:=Za h
 refine Zd (XQ a) ?_
 cases h
 try simp only [*,go_sem,seval]
 refine Ze h (fun _ h=>?_) fun _ h=>?_<;>try simp only [*,go_sem,seval]
 obtain ⟨e,b,h⟩:=Za h
 refine Zd (XQ b) ?_
 cases h
 try simp only [*,go_sem,seval]
 refine Ze h (fun _ h=>?_) fun _ h=>?_<;>try simp only [*,go_sem,seval]
 obtain ⟨f,c,h⟩:=Za h
 refine Zd (Q8 c) ?_
 iterate 2 (cases h;try simp only [*,go_sem,seval])
theorem ZkH {l_0:(List Zt)} {r:(List ByteArray)} (h:Zbp l_0=some r):Zk Tryz.prog J0 201 [(false,[.sl 173 5 (List.map ZK l_0)])] [(false,[(false,.sl 9 1 (List.map Zx r))])]:=by
 refine fnk Tryz.func201 (by kernel_rfl) rfl (by kernel_rfl) (by kernel_rfl) ?_
 unfold Zbp at h
 simp only [fnS,f201,Zm,go_sem,seval]
 refine Zi h (fun i a st=>IV [(3,.p false [.row 0]),(6,.p false [.c (.sl 173 5 (List.map ZK l_0))]),(7,.p false [.c (.int .i64 ((l_0.length:Nat):Int))]),(8,.p false [.c (.int .i64 ((i:Nat):Int))])] [.row 9 1 (List.map Zx a) 2] st) [(false,3,0)] [80] (by decide) ?_ ?_ ?_
 simp only [*,go_sem,seval]
 rintro o q a ⟨sl,ob,n⟩ t b d f h u
 simp only [go_sem,seval,Zc] at d
 obtain ⟨⟨v,g,w,x⟩,y,hn⟩:=d
 subst hn
 have k:=WF.slotL f g (j:=0) rfl
 have z:=ZA b
 have A:=ZC b
 have B:=Zj (ZB b) k
 try simp only [*,go_sem,seval]
 obtain ⟨C,l,h⟩:=Za h
 refine Zd (Zb9 l) ?_
 obtain ⟨m,h⟩:=Zq h
 try simp only [Nat.reduceLeDiff] at m
 try simp only [*,go_sem,seval]
 refine ⟨_,[],[129],(Option.some.inj h).symm,by decide,?_⟩
 try simp only [*,go_sem,seval]
 rintro a ⟨sl,ob,n⟩ e D h
 simp only [go_sem,seval,Zc] at e
 obtain ⟨⟨E,F,G,H⟩,I,hn⟩:=e
 subst hn
 have J:=Zy (l_0.length)
 cases h
 try simp only [*,go_sem,seval]
theorem ZgE {append_0:Zv} {String_1:Zb} {a_2:(List Zs)} {r:((List Zs) × Bool)} (h:Za0 append_0 String_1 a_2=some r):Zk Tryz.prog J0 154 [(true,QA append_0),(true,Zl String_1),(false,[.sl 166 2 (List.map Z4 a_2)])] [(false,[(false,.sl 166 2 (List.map Z4 r.1))]),(false,[(false,.bool r.2)])]:=by
 refine fnk Tryz.func154 (by kernel_rfl) rfl (by kernel_rfl) (by kernel_rfl) ?_
 unfold Za0 at h
 simp only [fnS,f154,Zm,go_sem,seval]
 obtain ⟨y,g,h⟩:=Za h
 refine Zd (XQ g) ?_
 try simp only [*,go_sem,seval]
 refine Ze h (fun _ h=>?_) fun _ h=>?_<;>try simp only [*,go_sem,seval]
 obtain ⟨z,k,h⟩:=Za h
 refine Zd (Zky k) ?_
 try simp only [*,go_sem,seval]
 refine Ze h (fun _ h=>?_) fun _ h=>?_<;>try simp only [*,go_sem,seval]
 obtain ⟨A,l,h⟩:=Za h
 refine Zd (QO l) ?_
 try simp only [*,go_sem,seval]
 iterate 3 refine Ze h (fun _ h=>?_) fun _ h=>?_<;>try simp only [*,go_sem,seval]
 cases h
 try simp only [*,go_sem,seval]
 obtain ⟨B,m,h⟩:=Za h
 refine Zd (Zgp m) ?_
 try simp only [*,go_sem,seval]
 refine Zi h (fun i a st=>IV [(4,.bp 0 0),(8,.p false [.row 1]),(45,.p false [.c (.sl 9 1 (List.map Zx append_0.args))]),(46,.p false [.c (.int .i64 ((append_0.args.length:Nat):Int))]),(47,.p false [.c (.int .i64 ((i:Nat):Int))])] [.box 45 [.c (.str String_1.rel),.c (.sl 9 1 (List.map Zx String_1.args))],.row 166 2 (List.map Z4 a) 2] st) [] [16,544] (by decide) ?_ ?_ ?_
 simp only [*,go_sem,seval]
 rintro C D a ⟨sl,ob,n⟩ E b d o h e
 simp only [go_sem,seval,Zc] at d
 obtain ⟨⟨F,G,q,H,I⟩,J,K,hn⟩:=d
 subst hn
 have t:=WF.slotL o q (j:=0) rfl
 have L:=ZA b
 have M:=ZC b
 have N:=Zj (ZB b) t
 try simp only [*,go_sem,seval]
 obtain ⟨O,u,h⟩:=Za h
 refine Zd (X4 u) ?_
 try simp only [*,go_sem,seval]
 refine Ze h (fun _ h=>?_) fun _ h=>?_<;>try simp only [*,go_sem,seval]
 obtain ⟨P,Q,R,v,h⟩:=ZbQ h
 simp only [Int.toNat_natCast] at v
 try simp only [*,go_sem,seval]
 refine Ze h (fun _ h=>?_) fun _ h=>?_<;>try simp only [*,go_sem,seval]
 refine ⟨_,[],[0,1],(Option.some.inj h).symm,by decide,?_⟩
 try simp only [*,go_sem,seval]
 replace h:=Zn h e
 cases h
 try simp only [*,go_sem,seval]
 obtain ⟨S,T,U,w,h⟩:=ZbQ h
 simp only [Int.toNat_natCast] at w
 try simp only [*,go_sem,seval]
 obtain ⟨V,x,h⟩:=Za h
 refine Zd (Zq8 x) ?_
 try simp only [*,go_sem,seval]
 refine Ze h (fun _ h=>?_) fun _ h=>?_<;>try simp only [*,go_sem,seval]
 refine ⟨_,[],[0,242],(Option.some.inj h).symm,by decide,?_⟩
 try simp only [*,go_sem,seval]
 replace h:=Zn h e
 cases h
 try simp only [*,go_sem,seval]
 rintro a ⟨sl,ob,n⟩ f W h
 simp only [go_sem,seval,Zc] at f
 obtain ⟨⟨X,Y,Z,aa,ab⟩,ac,ad,hn⟩:=f
 subst hn
 have ae:=Zy (append_0.args.length)
 iterate 5 (cases h;try simp only [*,go_sem,seval])
theorem Zo5 {a:(List Zb)} {f_1:Zb} {r:(List Zb)} (h:XW a f_1=some r):Zk Tryz.prog J0 86 [(false,[.sl 45 2 (List.map Zl a)]),(true,Zl f_1)] [(false,[(false,.sl 45 2 (List.map Zl r))])]:=by
 refine fnk Tryz.func86 (by kernel_rfl) rfl (by kernel_rfl) (by kernel_rfl) ?_
 unfold XW at h
 simp only [fnS,f86,Zm,go_sem,seval]
 refine Zi h (fun i s st=>match s with | (b,d)=>IV [(3,.bp 0 0),(5,.p false [.row 1]),(6,.p false [.c (.bool d)]),(9,.p false [.c (.sl 45 2 (List.map Zl a))]),(10,.p false [.c (.int .i64 ((a.length:Nat):Int))]),(11,.p false [.c (.int .i64 ((i:Nat):Int))])] [.box 45 [.c (.str f_1.rel),.c (.sl 9 1 (List.map Zx f_1.args))],.row 45 2 (List.map Zl b) 2] st) [(false,5,0)] [0,112] (by decide) ?_ ?_ ?_
 simp only [*,go_sem,seval]
 rintro D E ⟨b,d⟩ ⟨sl,ob,n⟩ F e f l h G
 simp only [go_sem,seval,Zc] at f
 obtain ⟨⟨H,I,J,m,K,L⟩,M,N,hn⟩:=f
 subst hn
 have o:=WF.slotL l m (j:=0) rfl
 have O:=ZA e
 have P:=ZC e
 have Q:=Zj (ZB e) o
 try simp only [*,go_sem,seval]
 refine Ze h (fun _ h=>?_) fun _ h=>?_<;>try simp only [*,go_sem,seval]
 obtain ⟨R,q,h⟩:=Za h
 refine Zd (YO q) ?_
 obtain ⟨t,h⟩:=Zq h
 try simp only [Nat.reduceLeDiff] at t
 try simp only [*,go_sem,seval]
 refine ⟨_,[],[0,274],(Option.some.inj h).symm,by decide,?_⟩
 try simp only [*,go_sem,seval]
 obtain ⟨S,u,h⟩:=Za h
 refine Zd (Zd7 u) ?_
 try simp only [*,go_sem,seval]
 refine Ze h (fun _ h=>?_) fun _ h=>?_<;>try simp only [*,go_sem,seval]
 obtain ⟨T,v,h⟩:=Za h
 refine Zd (YO v) ?_
 obtain ⟨w,h⟩:=Zq h
 try simp only [Nat.reduceLeDiff] at w
 try simp only [*,go_sem,seval]
 obtain ⟨U,x,h⟩:=Za h
 refine Zd (YO x) ?_
 obtain ⟨y,h⟩:=Zq h
 try simp only [Nat.reduceLeDiff] at y
 try simp only [*,go_sem,seval]
 refine ⟨_,[],[0,386],(Option.some.inj h).symm,by decide,?_⟩
 try simp only [*,go_sem,seval]
 obtain ⟨V,z,h⟩:=Za h
 refine Zd (YO z) ?_
 obtain ⟨A,h⟩:=Zq h
 try simp only [Nat.reduceLeDiff] at A
 try simp only [*,go_sem,seval]
 refine ⟨_,[],[0,274],(Option.some.inj h).symm,by decide,?_⟩
 try simp only [*,go_sem,seval]
 rintro ⟨b,d⟩ ⟨sl,ob,n⟩ g W h
 simp only [go_sem,seval,Zc] at g
 obtain ⟨⟨X,Y,Z,aa,ab,ac⟩,ad,ae,hn⟩:=g
 subst hn
 have af:=Zy (a.length)
 try simp only [*,go_sem,seval]
 refine Ze h (fun _ h=>?_) fun _ h=>?_<;>try simp only [*,go_sem,seval]
 cases h
 try simp only [*,go_sem,seval]
 obtain ⟨ag,B,h⟩:=Za h
 refine Zd (YO B) ?_
 obtain ⟨C,h⟩:=Zq h
 try simp only [Nat.reduceLeDiff] at C
 cases h
 try simp only [*,go_sem,seval]
end Go.Proofs.YtfehfkfdfmcgfaaGreatDoor
namespace Go.Proofs.YtfehfkfdfmcgfaaGreatDoor
open Go.Proofs.Tryz
set_option linter.unusedSimpArgs false
set_option linter.unusedVariables false
set_option maxRecDepth 1000000
set_option maxHeartbeats 4000000
theorem Zem {x_0:Zt} {r:Bool} (h:Zcn x_0=some r):Zk Tryz.prog J0 220 [(true,ZK x_0)] [(false,[(false,.bool r)])]:=by
 refine fnk Tryz.func220 (by kernel_rfl) rfl (by kernel_rfl) (by kernel_rfl) ?_
 unfold Zcn at h
 have a:Z9 ⟨#[]⟩=true:=by decide
 simp only [fnS,f220,Zm,go_sem,seval,a]
 refine Ze h (fun _ h=>?_) fun _ h=>?_<;>try simp only [*,go_sem,seval]
 obtain ⟨k,b,h⟩:=Za h
 refine Zd (Xi b) ?_
 try simp only [*,go_sem,seval]
 iterate 2 refine Ze h (fun _ h=>?_) fun _ h=>?_<;>try simp only [*,go_sem,seval]
 iterate 3 (cases h;try simp only [*,go_sem,seval])
 refine Ze h (fun _ h=>?_) fun _ h=>?_<;>try simp only [*,go_sem,seval]
 obtain ⟨l,c,h⟩:=Za h
 refine Zd (Xi c) ?_
 try simp only [*,go_sem,seval]
 iterate 2 refine Ze h (fun _ h=>?_) fun _ h=>?_<;>try simp only [*,go_sem,seval]
 iterate 3 (cases h;try simp only [*,go_sem,seval])
 iterate 3 refine Ze h (fun _ h=>?_) fun _ h=>?_<;>try simp only [*,go_sem,seval]
 obtain ⟨m,d,h⟩:=Za h
 refine Zd (QY d) ?_
 try simp only [*,go_sem,seval]
 refine Ze h (fun _ h=>?_) fun _ h=>?_<;>try simp only [*,go_sem,seval]
 obtain ⟨o,e,h⟩:=Za h
 refine Zd (QY e) ?_
 iterate 4 (cases h;try simp only [*,go_sem,seval])
 iterate 3 refine Ze h (fun _ h=>?_) fun _ h=>?_<;>try simp only [*,go_sem,seval]
 obtain ⟨p,f,h⟩:=Za h
 refine Zd (QY f) ?_
 try simp only [*,go_sem,seval]
 refine Ze h (fun _ h=>?_) fun _ h=>?_<;>try simp only [*,go_sem,seval]
 obtain ⟨q,g,h⟩:=Za h
 refine Zd (QY g) ?_
 iterate 4 (cases h;try simp only [*,go_sem,seval])
 iterate 3 refine Ze h (fun _ h=>?_) fun _ h=>?_<;>try simp only [*,go_sem,seval]
 obtain ⟨t,i,h⟩:=Za h
 refine Zd (QY i) ?_
 try simp only [*,go_sem,seval]
 refine Ze h (fun _ h=>?_) fun _ h=>?_<;>try simp only [*,go_sem,seval]
 obtain ⟨u,j,h⟩:=Za h
 refine Zd (QY j) ?_
 iterate 5 (cases h;try simp only [*,go_sem,seval])
theorem Ze4 {r_0:Zg} {i_1:Int} {v_2:ByteArray} {r:Bool} (h:XK r_0 i_1 v_2=some r):Zk Tryz.prog J0 224 [(true,ZF r_0),(false,[.int .i64 i_1]),(false,[.str v_2])] [(false,[(false,.bool r)])]:=by
 refine fnk Tryz.func224 (by kernel_rfl) rfl (by kernel_rfl) (by kernel_rfl) ?_
 unfold XK at h
 simp only [fnS,f224,Zm,go_sem,seval]
 refine Zi h (fun i _ st=>IV [(1,.p false [.c (.int .i64 i_1)]),(2,.p false [.c (.str v_2)]),(3,.bp 0 0),(7,.p false [.c (.int .i64 ((i:Nat):Int))])] [.box 42 [.c (.str r_0.name),.c (.int .i64 r_0.priority),.c (.sl 173 5 (List.map ZK r_0.cond)),.c (.sl 50 3 (List.map ZG r_0.thn))]] st) [] [0] (by decide) ?_ ?_ ?_
 simp only [*,go_sem,seval]
 rintro A B ⟨⟩ ⟨sl,ob,n⟩ C a d k h l
 simp only [go_sem,seval,Zc] at d
 obtain ⟨⟨D,E,F,G⟩,m,hn⟩:=d
 subst hn
 have o:=WF.boxL k m (j:=2) rfl
 have H:=ZA a
 have I:=ZC a
 have J:=Zj (ZB a) o
 try simp only [*,go_sem,seval]
 refine Ze h (fun _ h=>?_) fun _ h=>?_<;>try simp only [*,go_sem,seval]
 obtain ⟨K,q,h⟩:=Za h
 refine Zd (Zas q) ?_
 try simp only [*,go_sem,seval]
 obtain ⟨L,t,h⟩:=Za h
 refine Zd (Yz t) ?_
 try simp only [*,go_sem,seval]
 refine Ze h (fun _ h=>?_) fun _ h=>?_<;>try simp only [*,go_sem,seval]
 replace h:=Zn h l
 cases h
 try simp only [*,go_sem,seval]
 refine ⟨_,[],[0],(Option.some.inj h).symm,by decide,?_⟩
 try simp only [*,go_sem,seval]
 refine ⟨_,[],[0],(Option.some.inj h).symm,by decide,?_⟩
 try simp only [*,go_sem,seval]
 rintro ⟨⟩ ⟨sl,ob,n⟩ e M h
 simp only [go_sem,seval,Zc] at e
 obtain ⟨⟨N,O,P,Q⟩,R,hn⟩:=e
 subst hn
 have S:=Zy (r_0.cond.length)
 try simp only [*,go_sem,seval]
 refine Zi h (fun i _ st=>IV [(2,.p false [.c (.str v_2)]),(3,.bp 0 0),(8,.p false [.c (.int .i64 ((i:Nat):Int))])] [.box 42 [.c (.str r_0.name),.c (.int .i64 r_0.priority),.c (.sl 173 5 (List.map ZK r_0.cond)),.c (.sl 50 3 (List.map ZG r_0.thn))]] st) [] [0] (by decide) ?_ ?_ ?_
 simp only [*,go_sem,seval]
 rintro T U ⟨⟩ ⟨sl,ob,n⟩ V b f u h v
 simp only [go_sem,seval,Zc] at f
 obtain ⟨⟨W,X,Y⟩,w,hn⟩:=f
 subst hn
 have x:=WF.boxL u w (j:=3) rfl
 have Z:=ZA b
 have aa:=ZC b
 have ab:=Zj (ZB b) x
 try simp only [*,go_sem,seval]
 obtain ⟨ac,y,h⟩:=Za h
 refine Zd (Zcw y) ?_
 try simp only [*,go_sem,seval]
 obtain ⟨ad,z,h⟩:=Za h
 refine Zd (Yz z) ?_
 try simp only [*,go_sem,seval]
 refine Ze h (fun _ h=>?_) fun _ h=>?_<;>try simp only [*,go_sem,seval]
 replace h:=Zn h v
 cases h
 try simp only [*,go_sem,seval]
 refine ⟨_,[],[0],(Option.some.inj h).symm,by decide,?_⟩
 try simp only [*,go_sem,seval]
 rintro ⟨⟩ ⟨sl,ob,n⟩ g ae h
 simp only [go_sem,seval,Zc] at g
 obtain ⟨⟨af,ag,ah⟩,ai,hn⟩:=g
 subst hn
 have aj:=Zy (r_0.thn.length)
 cases h
 try simp only [*,go_sem,seval]
theorem Znb {a_0:Zz} {r:Bool} (h:Zdd a_0=some r):Zk Tryz.prog J0 225 [(true,ZG a_0)] [(false,[(false,.bool r)])]:=by
 refine fnk Tryz.func225 (by kernel_rfl) rfl (by kernel_rfl) (by kernel_rfl) ?_
 unfold Zdd at h
 have a:Z9 ⟨#[]⟩=true:=by decide
 simp only [fnS,f225,Zm,go_sem,seval,a]
 refine Ze h (fun _ h=>?_) fun _ h=>?_<;>try simp only [*,go_sem,seval]
 obtain ⟨d,b,h⟩:=Za h
 refine Zd (Xi b) ?_
 cases h
 try simp only [*,go_sem,seval]
 refine Ze h (fun _ h=>?_) fun _ h=>?_<;>try simp only [*,go_sem,seval]
 obtain ⟨e,c,h⟩:=Za h
 refine Zd (Xi c) ?_
 cases h
 try simp only [*,go_sem,seval]
 iterate 2 refine Ze h (fun _ h=>?_) fun _ h=>?_<;>try simp only [*,go_sem,seval]
 iterate 3 (cases h;try simp only [*,go_sem,seval])
theorem ZmN {r_0:Zg} {r:(List ByteArray)} (h:ZdB r_0=some r):Zk Tryz.prog J0 227 [(true,ZF r_0)] [(false,[(false,.sl 9 1 (List.map Zx r))])]:=by
 refine fnk Tryz.func227 (by kernel_rfl) rfl (by kernel_rfl) (by kernel_rfl) ?_
 unfold ZdB at h
 simp only [fnS,f227,Zm,go_sem,seval]
 refine Zi h (fun i row_12 st=>IV [(1,.bp 0 0),(3,.p false [.row 1]),(4,.p false [.c (.int .i64 ((i:Nat):Int))])] [.box 42 [.c (.str r_0.name),.c (.int .i64 r_0.priority),.c (.sl 173 5 (List.map ZK r_0.cond)),.c (.sl 50 3 (List.map ZG r_0.thn))],.row 9 1 (List.map Zx row_12) 2] st) [] [0,32] (by decide) ?_ ?_ ?_
 ·simp only [*,go_sem,seval]
 ·rintro i61 x62 row_12 ⟨sl,ob,n⟩ y1 hx2 hI3 hW4 h hy1
  simp only [go_sem,seval,Zc] at hI3
  obtain ⟨⟨g5_1,g5_3,g5_4⟩,og5_0,og5_1,hn⟩:=hI3
  subst hn
  have hlhx2:=WF.boxL hW4 og5_0 (j:=2) rfl
  have q6:=ZA hx2
  have q7:=ZC hx2
  have q8:=Zj (ZB hx2) hlhx2
  try simp only [*,go_sem,seval]
  obtain ⟨v63,e9,h⟩:=Za h
  refine Zd (by have hh:=Zas e9;first|exact hh|(simp only [*,go_sem] at hh;exact hh)) ?_
  try simp only [*,go_sem,seval]
  refine Zi h (fun i row_66 st=>IV [(1,.bp 0 0),(3,.p false [.row 1]),(4,.p false [.c (.int .i64 ((i61:Nat):Int))]),(5,.p false [.row 2]),(6,.p false [.c (.int .i64 ((i:Nat):Int))])] [.box 42 [.c (.str r_0.name),.c (.int .i64 r_0.priority),.c (.sl 173 5 (List.map ZK r_0.cond)),.c (.sl 50 3 (List.map ZG r_0.thn))],.row 9 1 (List.map Zx row_66) 2,.row 9 1 (List.map Zx v63) 2] st) [] [0,1,162] (by decide) ?_ ?_ ?_
  ·simp only [*,go_sem,seval]
  ·rintro i70 x71 row_66 ⟨sl,ob,n⟩ y10 hx11 hI12 hW13 h hy10
   simp only [go_sem,seval,Zc] at hI12
   obtain ⟨⟨g14_1,g14_3,g14_4,g14_5,g14_6⟩,og14_0,og14_1,og14_2,hn⟩:=hI12
   subst hn
   have hlhx11:=WF.rowL hW13 og14_2
   have q15:=ZA hx11
   have q16:=ZC hx11
   have q17:=Zj (ZB hx11) hlhx11
   try simp only [*,go_sem,seval]
   obtain ⟨v72,e18,h⟩:=Za h
   refine Zd (by have hh:=Xg e18;first|exact hh|(simp only [*,go_sem] at hh;exact hh)) ?_
   try simp only [*,go_sem,seval]
   refine ⟨_,[],[0,147,2],(Option.some.inj h).symm,by decide,?_⟩
   try simp only [*,go_sem,seval]
  ·rintro row_66 ⟨sl,ob,n⟩ hI19 hW20 h
   simp only [go_sem,seval,Zc] at hI19
   obtain ⟨⟨g21_1,g21_3,g21_4,g21_5,g21_6⟩,og21_0,og21_1,og21_2,hn⟩:=hI19
   subst hn
   have q22:=Zy (v63.length)
   try simp only [*,go_sem,seval]
   refine ⟨_,[],[0,1],(Option.some.inj h).symm,by decide,?_⟩
   try simp only [*,go_sem,seval]
 ·rintro row_12 ⟨sl,ob,n⟩ hI23 hW24 h
  simp only [go_sem,seval,Zc] at hI23
  obtain ⟨⟨g25_1,g25_3,g25_4⟩,og25_0,og25_1,hn⟩:=hI23
  subst hn
  have q26:=Zy (r_0.cond.length)
  try simp only [*,go_sem,seval]
  refine Zi h (fun i row_84 st=>IV [(1,.bp 0 0),(3,.p false [.row 1]),(7,.p false [.c (.int .i64 ((i:Nat):Int))])] [.box 42 [.c (.str r_0.name),.c (.int .i64 r_0.priority),.c (.sl 173 5 (List.map ZK r_0.cond)),.c (.sl 50 3 (List.map ZG r_0.thn))],.row 9 1 (List.map Zx row_84) 2] st) [] [0,1] (by decide) ?_ ?_ ?_
  ·simp only [*,go_sem,seval]
  ·rintro i97 x98 row_84 ⟨sl,ob,n⟩ y27 hx28 hI29 hW30 h hy27
   simp only [go_sem,seval,Zc] at hI29
   obtain ⟨⟨g31_1,g31_3,g31_7⟩,og31_0,og31_1,hn⟩:=hI29
   subst hn
   have hlhx28:=WF.boxL hW30 og31_0 (j:=3) rfl
   have q32:=ZA hx28
   have q33:=ZC hx28
   have q34:=Zj (ZB hx28) hlhx28
   try simp only [*,go_sem,seval]
   obtain ⟨v99,e35,h⟩:=Za h
   refine Zd (by have hh:=Zcw e35;first|exact hh|(simp only [*,go_sem] at hh;exact hh)) ?_
   try simp only [*,go_sem,seval]
   refine Zi h (fun i row_102 st=>IV [(1,.bp 0 0),(3,.p false [.row 1]),(7,.p false [.c (.int .i64 ((i97:Nat):Int))]),(8,.p false [.row 2]),(9,.p false [.c (.int .i64 ((i:Nat):Int))])] [.box 42 [.c (.str r_0.name),.c (.int .i64 r_0.priority),.c (.sl 173 5 (List.map ZK r_0.cond)),.c (.sl 50 3 (List.map ZG r_0.thn))],.row 9 1 (List.map Zx row_102) 2,.row 9 1 (List.map Zx v99) 2] st) [] [0,1,178] (by decide) ?_ ?_ ?_
   ·simp only [*,go_sem,seval]
   ·rintro i106 x107 row_102 ⟨sl,ob,n⟩ y36 hx37 hI38 hW39 h hy36
    simp only [go_sem,seval,Zc] at hI38
    obtain ⟨⟨g40_1,g40_3,g40_7,g40_8,g40_9⟩,og40_0,og40_1,og40_2,hn⟩:=hI38
    subst hn
    have hlhx37:=WF.rowL hW39 og40_2
    have q41:=ZA hx37
    have q42:=ZC hx37
    have q43:=Zj (ZB hx37) hlhx37
    try simp only [*,go_sem,seval]
    obtain ⟨v108,e44,h⟩:=Za h
    refine Zd (by have hh:=Xg e44;first|exact hh|(simp only [*,go_sem] at hh;exact hh)) ?_
    try simp only [*,go_sem,seval]
    refine ⟨_,[],[0,147,2],(Option.some.inj h).symm,by decide,?_⟩
    try simp only [*,go_sem,seval]
   ·rintro row_102 ⟨sl,ob,n⟩ hI45 hW46 h
    simp only [go_sem,seval,Zc] at hI45
    obtain ⟨⟨g47_1,g47_3,g47_7,g47_8,g47_9⟩,og47_0,og47_1,og47_2,hn⟩:=hI45
    subst hn
    have q48:=Zy (v99.length)
    try simp only [*,go_sem,seval]
    refine ⟨_,[],[0,1],(Option.some.inj h).symm,by decide,?_⟩
    try simp only [*,go_sem,seval]
  ·rintro row_84 ⟨sl,ob,n⟩ hI49 hW50 h
   simp only [go_sem,seval,Zc] at hI49
   obtain ⟨⟨g51_1,g51_3,g51_7⟩,og51_0,og51_1,hn⟩:=hI49
   subst hn
   have q52:=Zy (r_0.thn.length)
   cases h
   try simp only [*,go_sem,seval]
theorem XD {s_0:ByteArray} {r:(Zv × Bool)} (h:Yl s_0=some r):Zk Tryz.prog J0 319 [(false,[.str s_0])] [(true,[(false,.str r.1.rel),(false,.sl 9 1 (List.map Zx r.1.args))]),(false,[(false,.bool r.2)])]:=by
 refine fnk Tryz.func319 (by kernel_rfl) rfl (by kernel_rfl) (by kernel_rfl) ?_
 unfold Yl at h
 simp only [fnS,f319,Zm,go_sem,seval]
 obtain ⟨c,a,h⟩:=Za h
 refine Zd (ZoF a) ?_
 try simp only [*,go_sem,seval]
 refine Ze h (fun _ h=>?_) fun _ h=>?_<;>try simp only [*,go_sem,seval]
 obtain ⟨d,b,h⟩:=Za h
 refine Zd (Xi b) ?_
 try simp only [*,go_sem,seval]
 refine Ze h (fun _ h=>?_) fun _ h=>?_<;>try simp only [*,go_sem,seval]
 iterate 3 (cases h;try simp only [*,go_sem,seval])
theorem ZoJ {c_0:ZJ} {most_1:Int} {r:((List Zb) × ZJ)} (h:ZeM c_0 most_1=some r):Zbx Tryz.prog J0 JF0 60 (.box 152 (Zbj c_0)) [(false,[.int .i64 most_1])] [(false,[(false,.sl 45 2 (List.map Zl r.1))])] (.box 152 (Zbj r.2)):=by
 refine fnh Tryz.func60 (by kernel_rfl) rfl (by kernel_rfl) (by kernel_rfl) ?_
 unfold ZeM at h
 have j:Z9 ⟨#[111,110]⟩=true:=by decide
 have k:Z9 ⟨#[112]⟩=true:=by decide
 have l:Z9 ⟨#[113]⟩=true:=by decide
 have m:Z9 ⟨#[49]⟩=true:=by decide
 have o:Z9 ⟨#[50]⟩=true:=by decide
 have q:Z9 ⟨#[97,116]⟩=true:=by decide
 have t:Z9 ⟨#[97]⟩=true:=by decide
 have u:Z9 ⟨#[98]⟩=true:=by decide
 simp only [fnH,f60,Zdh,Zdg,Xp,go_sem,seval,j,k,l,m,o,q,t,u]
 obtain ⟨E,v,h⟩:=Za h
 refine QL (Q7 v) ?_
 try simp only [*,go_sem,seval]
 refine Yo h (fun s st=>match s with | (b,d,e,f,g)=>IV [(0,.bp 0 0),(5,.p false [.row 1]),(6,.p false [.c (.int .i64 g)])] [.box 152 [.c (.sl 5 1 (List.map ZeK b)),.c (.int .i64 d),.c (.int .i64 e)],.row 45 2 (List.map Zl f) 2] st) [] [0,17] (by decide) ?_ ?_
 simp only [*,go_sem,seval]
 rintro ⟨b,d,e,f,g⟩ ⟨sl,ob,n⟩ F i G h w
 simp only [go_sem,seval,Zc] at i
 obtain ⟨⟨H,I,J⟩,K,L,hn⟩:=i
 subst hn
 try simp only [*,go_sem,seval]
 refine Ze h (fun _ h=>?_) fun _ h=>?_<;>try simp only [*,go_sem,seval]
 obtain ⟨M,x,h⟩:=Za h
 refine QL (Zk5 x) ?_
 try simp only [*,go_sem,seval]
 obtain ⟨N,y,h⟩:=Za h
 refine QL (Zk5 y) ?_
 try simp only [*,go_sem,seval]
 obtain ⟨O,z,h⟩:=Za h
 refine QL (Q7 z) ?_
 try simp only [*,go_sem,seval]
 refine Ze h (fun _ h=>?_) fun _ h=>?_<;>try simp only [*,go_sem,seval]
 obtain ⟨P,A,h⟩:=Za h
 refine Zd (Zdw A) ?_
 try simp only [*,go_sem,seval]
 refine ⟨_,[],[0,290],(Option.some.inj h).symm,by decide,?_⟩
 try simp only [*,go_sem,seval]
 refine Ze h (fun _ h=>?_) fun _ h=>?_<;>try simp only [*,go_sem,seval]
 obtain ⟨Q,B,h⟩:=Za h
 refine Zd (Zdw B) ?_
 try simp only [*,go_sem,seval]
 refine ⟨_,[],[0,338],(Option.some.inj h).symm,by decide,?_⟩
 try simp only [*,go_sem,seval]
 refine Ze h (fun _ h=>?_) fun _ h=>?_<;>try simp only [*,go_sem,seval]
 obtain ⟨R,C,h⟩:=Za h
 refine Zd (Zdw C) ?_
 try simp only [*,go_sem,seval]
 refine ⟨_,[],[0,354],(Option.some.inj h).symm,by decide,?_⟩
 try simp only [*,go_sem,seval]
 obtain ⟨S,D,h⟩:=Za h
 refine Zd (Zdw D) ?_
 try simp only [*,go_sem,seval]
 refine ⟨_,[],[0,370],(Option.some.inj h).symm,by decide,?_⟩
 try simp only [*,go_sem,seval]
 replace h:=Zn h w
 cases h
 try simp only [*,go_sem,seval]
theorem ZhQ {r_0:Zg} {k_1:Int} {r:Bool} (h:ZbT r_0 k_1=some r):Zk Tryz.prog J0 197 [(true,ZF r_0),(false,[.int .i64 k_1])] [(false,[(false,.bool r)])]:=by
 refine fnk Tryz.func197 (by kernel_rfl) rfl (by kernel_rfl) (by kernel_rfl) ?_
 unfold ZbT at h
 simp only [fnS,f197,Zm,go_sem,seval]
 obtain ⟨a,v,w,x,h⟩:=ZbQ h
 try simp only [*,go_sem,seval]
 obtain ⟨j,k,h⟩:=Za h
 refine Zd (ZdH k) ?_
 try simp only [*,go_sem,seval]
 obtain ⟨b,l,h⟩:=Za h
 refine Zd (Zb9 l) ?_
 try simp only [*,go_sem,seval]
 refine Zi h (fun i _ st=>IV [(1,.p false [.c (.int .i64 k_1)]),(2,.bp 0 0),(5,.bp 1 0),(6,.p false [.row 2]),(18,.p false [.row 3]),(19,.p false [.c (.int .i64 ((b.length:Nat):Int))]),(20,.p false [.c (.int .i64 ((i:Nat):Int))])] [.box 42 [.c (.str r_0.name),.c (.int .i64 r_0.priority),.c (.sl 173 5 (List.map ZK r_0.cond)),.c (.sl 50 3 (List.map ZG r_0.thn))],.box 173 [.c (.int .i64 a.kind),.c (.str a.pattern.rel),.c (.sl 9 1 (List.map Zx a.pattern.args)),.c (.str a.left),.c (.str a.right)],.row 9 1 (List.map Zx j) 2,.row 9 1 (List.map Zx b) 2] st) [] [0,112,176,224] (by decide) ?_ ?_ ?_
 simp only [*,go_sem,seval]
 rintro y z ⟨⟩ ⟨sl,ob,n⟩ A d e m h f
 simp only [go_sem,seval,Zc] at e
 obtain ⟨⟨B,C,D,E,F,G,H⟩,I,J,K,o,hn⟩:=e
 subst hn
 have q:=WF.rowL m o
 have L:=ZA d
 have M:=ZC d
 have N:=Zj (ZB d) q
 try simp only [*,go_sem,seval]
 refine Ze h (fun _ h=>?_) fun _ h=>?_<;>try simp only [*,go_sem,seval]
 refine ⟨_,[],[0,1,2,3],(Option.some.inj h).symm,by decide,?_⟩
 try simp only [*,go_sem,seval]
 obtain ⟨O,t,h⟩:=Za h
 refine Zd (Zac t) ?_
 try simp only [*,go_sem,seval]
 refine Ze h (fun _ h=>?_) fun _ h=>?_<;>try simp only [*,go_sem,seval]
 refine ⟨_,[],[0,1,2,3],(Option.some.inj h).symm,by decide,?_⟩
 try simp only [*,go_sem,seval]
 refine Ze h (fun _ h=>?_) fun _ h=>?_<;>try simp only [*,go_sem,seval]
 replace h:=Zn h f
 cases h
 try simp only [*,go_sem,seval]
 obtain ⟨P,u,h⟩:=Za h
 refine Zd (Zgm u) ?_
 try simp only [*,go_sem,seval]
 refine Ze h (fun _ h=>?_) fun _ h=>?_<;>try simp only [*,go_sem,seval]
 replace h:=Zn h f
 cases h
 try simp only [*,go_sem,seval]
 refine ⟨_,[],[0,1,2,3],(Option.some.inj h).symm,by decide,?_⟩
 try simp only [*,go_sem,seval]
 rintro ⟨⟩ ⟨sl,ob,n⟩ g Q h
 simp only [go_sem,seval,Zc] at g
 obtain ⟨⟨R,S,T,U,V,W,X⟩,Y,Z,aa,ab,hn⟩:=g
 subst hn
 have ac:=Zy (b.length)
 cases h
 try simp only [*,go_sem,seval]
theorem ZdD {p_0:Zv} {b_1:(List Zs)} {facts_2:(List Zb)} {r:(List Zb)} (h:Xt p_0 b_1 facts_2=some r):Zk Tryz.prog J0 213 [(true,QA p_0),(false,[.sl 166 2 (List.map Z4 b_1)]),(false,[.sl 45 2 (List.map Zl facts_2)])] [(false,[(false,.sl 45 2 (List.map Zl r))])]:=by
 refine fnk Tryz.func213 (by kernel_rfl) rfl (by kernel_rfl) (by kernel_rfl) ?_
 unfold Xt at h
 simp only [fnS,f213,Zm,go_sem,seval]
 refine Zi h (fun i a st=>IV [(1,.p false [.c (.sl 166 2 (List.map Z4 b_1))]),(3,.bp 0 0),(7,.p false [.row 1]),(12,.p false [.c (.sl 45 2 (List.map Zl facts_2))]),(13,.p false [.c (.int .i64 ((facts_2.length:Nat):Int))]),(14,.p false [.c (.int .i64 ((i:Nat):Int))])] [.box 48 [.c (.str p_0.rel),.c (.sl 9 1 (List.map Zx p_0.args))],.row 45 2 (List.map Zl a) 2] st) [(false,7,0)] [0,96] (by decide) ?_ ?_ ?_
 simp only [*,go_sem,seval]
 rintro q t a ⟨sl,ob,n⟩ u b d f h v
 simp only [go_sem,seval,Zc] at d
 obtain ⟨⟨w,x,y,g,z,A⟩,B,C,hn⟩:=d
 subst hn
 have k:=WF.slotL f g (j:=0) rfl
 have D:=ZA b
 have E:=ZC b
 have F:=Zj (ZB b) k
 try simp only [*,go_sem,seval]
 obtain ⟨G,l,h⟩:=Za h
 refine Zd (ZgE l) ?_
 try simp only [*,go_sem,seval]
 refine Ze h (fun _ h=>?_) fun _ h=>?_<;>try simp only [*,go_sem,seval]
 obtain ⟨H,m,h⟩:=Za h
 refine Zd (YO m) ?_
 obtain ⟨o,h⟩:=Zq h
 try simp only [Nat.reduceLeDiff] at o
 try simp only [*,go_sem,seval]
 refine ⟨_,[],[0,306],(Option.some.inj h).symm,by decide,?_⟩
 try simp only [*,go_sem,seval]
 refine ⟨_,[],[0,1],(Option.some.inj h).symm,by decide,?_⟩
 try simp only [*,go_sem,seval]
 rintro a ⟨sl,ob,n⟩ e I h
 simp only [go_sem,seval,Zc] at e
 obtain ⟨⟨J,K,L,M,N,O⟩,P,Q,hn⟩:=e
 subst hn
 have R:=Zy (facts_2.length)
 cases h
 try simp only [*,go_sem,seval]
theorem Zrq {x_0:Zt} {r:Bool} (h:Zi1 x_0=some r):Zk Tryz.prog J0 269 [(true,ZK x_0)] [(false,[(false,.bool r)])]:=by
 refine fnk Tryz.func269 (by kernel_rfl) rfl (by kernel_rfl) (by kernel_rfl) ?_
 unfold Zi1 at h
 simp only [fnS,f269,Zm,go_sem,seval]
 obtain ⟨b,a,h⟩:=Za h
 refine Zd (Zgc a) ?_
 try simp only [*,go_sem,seval]
 refine Ze h (fun _ h=>?_) fun _ h=>?_<;>try simp only [*,go_sem,seval]
 iterate 2 (cases h;try simp only [*,go_sem,seval])
theorem Zb8 {p_0:Zv} {b_1:(List Zs)} {r:(Zb × Bool)} (h:Yy p_0 b_1=some r):Zk Tryz.prog J0 20 [(true,QA p_0),(false,[.sl 166 2 (List.map Z4 b_1)])] [(true,[(false,.str r.1.rel),(false,.sl 9 1 (List.map Zx r.1.args))]),(false,[(false,.bool r.2)])]:=by
 refine fnk Tryz.func20 (by kernel_rfl) rfl (by kernel_rfl) (by kernel_rfl) ?_
 unfold Yy at h
 simp only [fnS,f20,Zm,go_sem,seval]
 obtain ⟨u,f,h⟩:=Za h
 refine Zd (Xi f) ?_
 try simp only [*,go_sem,seval]
 refine Ze h (fun _ h=>?_) fun _ h=>?_<;>try simp only [*,go_sem,seval]
 obtain ⟨v,g,h⟩:=Za h
 refine Zd (QX g) ?_
 try simp only [*,go_sem,seval]
 refine Ze h (fun _ h=>?_) fun _ h=>?_<;>try simp only [*,go_sem,seval]
 refine Zi h (fun i a st=>IV [(1,.p false [.c (.sl 166 2 (List.map Z4 b_1))]),(2,.bp 0 0),(4,.bp 1 0),(6,.bp 2 0),(7,.p false [.c (.int .i64 ((i:Nat):Int))])] [.box 48 [.c (.str p_0.rel),.c (.sl 9 1 (List.map Zx p_0.args))],.box 45 [.c (.str ⟨#[]⟩),.nil 9 1],.box 45 [.c (.str p_0.rel),.row 3],.row 9 1 (List.map Zx a) 2] st) [(true,224,1)] [0,16,224,272] (by decide) ?_ ?_ ?_
 simp only [*,go_sem,seval]
 rintro w x a ⟨sl,ob,n⟩ y b d k h l
 simp only [go_sem,seval,Zc] at d
 obtain ⟨⟨z,A,B,C,D⟩,m,E,F,G,hn⟩:=d
 subst hn
 have o:=WF.boxL k m (j:=1) rfl
 have H:=ZA b
 have I:=ZC b
 have J:=Zj (ZB b) o
 try simp only [*,go_sem,seval]
 obtain ⟨K,q,h⟩:=Za h
 refine Zd (ZcO q) ?_
 try simp only [*,go_sem,seval]
 refine Ze h (fun _ h=>?_) fun _ h=>?_<;>try simp only [*,go_sem,seval]
 obtain ⟨t,h⟩:=Zq h
 try simp only [Nat.reduceLeDiff] at t
 try simp only [*,go_sem,seval]
 refine ⟨_,[],[0,1,2,372],(Option.some.inj h).symm,by decide,?_⟩
 try simp only [*,go_sem,seval]
 replace h:=Zn h l
 cases h
 try simp only [*,go_sem,seval]
 rintro a ⟨sl,ob,n⟩ e L h
 simp only [go_sem,seval,Zc] at e
 obtain ⟨⟨M,N,O,P,Q⟩,R,S,T,U,hn⟩:=e
 subst hn
 have V:=Zy (p_0.args.length)
 iterate 3 (cases h;try simp only [*,go_sem,seval])
theorem Zf2 {append_0:Zv} {String_1:Zb} {a_2:(List Zs)} {r:((List Zs) × Bool)} (h:Za3 append_0 String_1 a_2=some r):Zk Tryz.prog J0 280 [(true,QA append_0),(true,Zl String_1),(false,[.sl 166 2 (List.map Z4 a_2)])] [(false,[(false,.sl 166 2 (List.map Z4 r.1))]),(false,[(false,.bool r.2)])]:=by
 refine fnk Tryz.func280 (by kernel_rfl) rfl (by kernel_rfl) (by kernel_rfl) ?_
 unfold Za3 at h
 simp only [fnS,f280,Zm,go_sem,seval]
 obtain ⟨y,g,h⟩:=Za h
 refine Zd (Xi g) ?_
 try simp only [*,go_sem,seval]
 refine Ze h (fun _ h=>?_) fun _ h=>?_<;>try simp only [*,go_sem,seval]
 obtain ⟨z,k,h⟩:=Za h
 refine Zd (Zj9 k) ?_
 try simp only [*,go_sem,seval]
 refine Ze h (fun _ h=>?_) fun _ h=>?_<;>try simp only [*,go_sem,seval]
 obtain ⟨A,l,h⟩:=Za h
 refine Zd (QX l) ?_
 try simp only [*,go_sem,seval]
 iterate 3 refine Ze h (fun _ h=>?_) fun _ h=>?_<;>try simp only [*,go_sem,seval]
 cases h
 try simp only [*,go_sem,seval]
 obtain ⟨B,m,h⟩:=Za h
 refine Zd (ZgL m) ?_
 try simp only [*,go_sem,seval]
 refine Zi h (fun i a st=>IV [(3,.bp 0 0),(4,.bp 1 0),(8,.p false [.row 2]),(9,.p false [.c (.int .i64 ((i:Nat):Int))])] [.box 48 [.c (.str append_0.rel),.c (.sl 9 1 (List.map Zx append_0.args))],.box 45 [.c (.str String_1.rel),.c (.sl 9 1 (List.map Zx String_1.args))],.row 166 2 (List.map Z4 a) 2] st) [] [0,16,544] (by decide) ?_ ?_ ?_
 simp only [*,go_sem,seval]
 rintro C D a ⟨sl,ob,n⟩ E b d o h e
 simp only [go_sem,seval,Zc] at d
 obtain ⟨⟨F,G,H,I⟩,q,J,K,hn⟩:=d
 subst hn
 have t:=WF.boxL o q (j:=1) rfl
 have L:=ZA b
 have M:=ZC b
 have N:=Zj (ZB b) t
 try simp only [*,go_sem,seval]
 obtain ⟨O,u,h⟩:=Za h
 refine Zd (X0 u) ?_
 try simp only [*,go_sem,seval]
 refine Ze h (fun _ h=>?_) fun _ h=>?_<;>try simp only [*,go_sem,seval]
 obtain ⟨P,Q,R,v,h⟩:=ZbQ h
 simp only [Int.toNat_natCast] at v
 try simp only [*,go_sem,seval]
 refine Ze h (fun _ h=>?_) fun _ h=>?_<;>try simp only [*,go_sem,seval]
 refine ⟨_,[],[0,1,2],(Option.some.inj h).symm,by decide,?_⟩
 try simp only [*,go_sem,seval]
 replace h:=Zn h e
 cases h
 try simp only [*,go_sem,seval]
 obtain ⟨S,T,U,w,h⟩:=ZbQ h
 simp only [Int.toNat_natCast] at w
 try simp only [*,go_sem,seval]
 obtain ⟨V,x,h⟩:=Za h
 refine Zd (ZqF x) ?_
 try simp only [*,go_sem,seval]
 refine Ze h (fun _ h=>?_) fun _ h=>?_<;>try simp only [*,go_sem,seval]
 refine ⟨_,[],[0,1,355],(Option.some.inj h).symm,by decide,?_⟩
 try simp only [*,go_sem,seval]
 replace h:=Zn h e
 cases h
 try simp only [*,go_sem,seval]
 rintro a ⟨sl,ob,n⟩ f W h
 simp only [go_sem,seval,Zc] at f
 obtain ⟨⟨X,Y,Z,aa⟩,ab,ac,ad,hn⟩:=f
 subst hn
 have ae:=Zy (append_0.args.length)
 iterate 5 (cases h;try simp only [*,go_sem,seval])
end Go.Proofs.YtfehfkfdfmcgfaaGreatDoor
namespace Go.Proofs.YtfehfkfdfmcgfaaGreatDoor
open Go.Proofs.Tryz
set_option linter.unusedSimpArgs false
set_option linter.unusedVariables false
set_option maxRecDepth 1000000
set_option maxHeartbeats 4000000
theorem Znh {b_0:Zr} {r:(List Int)} (h:ZdF b_0=some r):Zk Tryz.prog J0 194 [(true,XY b_0)] [(false,[(false,.sl 3 1 (List.map ZI r))])]:=by
 refine fnk Tryz.func194 (by kernel_rfl) rfl (by kernel_rfl) (by kernel_rfl) ?_
 unfold ZdF at h
 simp only [fnS,f194,Zm,go_sem,seval]
 obtain ⟨v1,e1,h⟩:=Za h
 refine Zd (by have hh:=Zek e1;first|exact hh|(simp only [*,go_sem] at hh;exact hh)) ?_
 try simp only [*,go_sem,seval]
 refine Ze h (fun _ h=>?_) fun _ h=>?_<;>try simp only [*,go_sem,seval]
 ·obtain ⟨v2,e3,h⟩:=Za h
  refine Zd (by have hh:=Zm6 e3;first|exact hh|(simp only [*,go_sem] at hh;exact hh)) ?_
  try simp only [*,go_sem,seval]
  refine Yo h (fun s st=>match s with | (row_3,i_4)=>IV [(1,.bp 0 0),(3,.p false [.row 1]),(4,.p false [.row 2]),(5,.p false [.c (.int .i64 i_4)])] [.box 64 [.c (.int .i64 b_0.nodes),.c (.sl 199 3 (List.map ZE b_0.reasons))],.row 3 1 (List.map ZI v2) 2,.row 3 1 (List.map ZI row_3) 2] st) [] [0,96,128] (by decide) ?_ ?_
  ·simp only [*,go_sem,seval]
  ·rintro ⟨row_3,i_4⟩ ⟨sl,ob,n⟩ y4 hI5 hW6 h hy4
   simp only [go_sem,seval,Zc] at hI5
   obtain ⟨⟨g7_1,g7_3,g7_4,g7_5⟩,og7_0,og7_1,og7_2,hn⟩:=hI5
   subst hn
   try simp only [*,go_sem,seval]
   refine Ze h (fun _ h=>?_) fun _ h=>?_<;>try simp only [*,go_sem,seval]
   ·obtain ⟨p9,h⟩:=Zq h
    try simp only [Nat.reduceLeDiff] at p9
    try simp only [*,go_sem,seval]
    refine ⟨_,[],[0,1,99],(Option.some.inj h).symm,by decide,?_⟩
    try simp only [*,go_sem,seval]
   ·refine Yo h (fun s st=>match s with | (row_31,round_32,s_33)=>IV [(1,.bp 0 0),(3,.p false [.row 1]),(4,.p false [.row 2]),(6,.p false [.c (.int .i64 round_32)]),(7,.p false [.c (.int .i64 s_33)])] [.box 64 [.c (.int .i64 b_0.nodes),.c (.sl 199 3 (List.map ZE b_0.reasons))],.row 3 1 (List.map ZI v2) 2,.row 3 1 (List.map ZI row_31) 2] st) [] [0,1,2] (by decide) ?_ ?_
    ·simp only [*,go_sem,seval]
    ·rintro ⟨row_31,round_32,s_33⟩ ⟨sl,ob,n⟩ y10 hI11 hW12 h hy10
     simp only [go_sem,seval,Zc] at hI11
     obtain ⟨⟨g13_1,g13_3,g13_4,g13_6,g13_7⟩,og13_0,og13_1,og13_2,hn⟩:=hI11
     subst hn
     try simp only [*,go_sem,seval]
     refine Ze h (fun _ h=>?_) fun _ h=>?_<;>try simp only [*,go_sem,seval]
     ·obtain ⟨v34,e15,h⟩:=Za h
      refine Zd (by have hh:=ZhT e15;first|exact hh|(simp only [*,go_sem] at hh;exact hh)) ?_
      try simp only [*,go_sem,seval]
      refine Yo h (fun s st=>match s with | (row_46,row_47,round_48)=>IV [(1,.bp 0 0),(3,.p false [.row 1]),(4,.p false [.row 2]),(6,.p false [.c (.int .i64 round_48)]),(7,.p false [.c (.int .i64 s_33)]),(8,.p false [.row 3])] [.box 64 [.c (.int .i64 b_0.nodes),.c (.sl 199 3 (List.map ZE b_0.reasons))],.row 3 1 (List.map ZI v2) 2,.row 3 1 (List.map ZI row_46) 2,.row 3 1 (List.map ZI row_47) 2] st) [] [0,1,2,147] (by decide) ?_ ?_
      ·simp only [*,go_sem,seval]
      ·rintro ⟨row_46,row_47,round_48⟩ ⟨sl,ob,n⟩ y16 hI17 hW18 h hy16
       simp only [go_sem,seval,Zc] at hI17
       obtain ⟨⟨g19_1,g19_3,g19_4,g19_6,g19_7,g19_8⟩,og19_0,og19_1,og19_2,og19_3,hn⟩:=hI17
       subst hn
       try simp only [*,go_sem,seval]
       refine Ze h (fun _ h=>?_) fun _ h=>?_<;>try simp only [*,go_sem,seval]
       ·refine Zi h (fun i row_51 st=>IV [(1,.bp 0 0),(3,.p false [.row 1]),(4,.p false [.row 2]),(6,.p false [.c (.int .i64 round_48)]),(7,.p false [.c (.int .i64 s_33)]),(8,.p false [.row 3]),(9,.p false [.c (.int .i64 ((i:Nat):Int))])] [.box 64 [.c (.int .i64 b_0.nodes),.c (.sl 199 3 (List.map ZE b_0.reasons))],.row 3 1 (List.map ZI v2) 2,.row 3 1 (List.map ZI row_51) 2,.row 3 1 (List.map ZI row_47) 2] st) [] [0,1,2,3] (by decide) ?_ ?_ ?_
        ·simp only [*,go_sem,seval]
        ·rintro i56 x57 row_51 ⟨sl,ob,n⟩ y21 hx22 hI23 hW24 h hy21
         simp only [go_sem,seval,Zc] at hI23
         obtain ⟨⟨g25_1,g25_3,g25_4,g25_6,g25_7,g25_8,g25_9⟩,og25_0,og25_1,og25_2,og25_3,hn⟩:=hI23
         subst hn
         have hlhx22:=WF.rowL hW24 og25_3
         have q26:=ZA hx22
         have q27:=ZC hx22
         have q28:=Zj (ZB hx22) hlhx22
         obtain ⟨p29,h⟩:=Zq h
         obtain ⟨x58,e30,h⟩:=Za h
         try simp only [*,go_sem,seval]
         refine ⟨_,[],[0,1,2,3],(Option.some.inj h).symm,by decide,?_⟩
         try simp only [*,go_sem,seval]
        ·rintro row_51 ⟨sl,ob,n⟩ hI31 hW32 h
         simp only [go_sem,seval,Zc] at hI31
         obtain ⟨⟨g33_1,g33_3,g33_4,g33_6,g33_7,g33_8,g33_9⟩,og33_0,og33_1,og33_2,og33_3,hn⟩:=hI31
         subst hn
         have q34:=Zy (row_47.length)
         try simp only [*,go_sem,seval]
         obtain ⟨v59,e35,h⟩:=Za h
         refine Zd (by have hh:=ZhT e35;first|exact hh|(simp only [*,go_sem] at hh;exact hh)) ?_
         try simp only [*,go_sem,seval]
         refine ⟨_,[],[0,1,2,196],(Option.some.inj h).symm,by decide,?_⟩
         try simp only [*,go_sem,seval]
       ·replace h:=Zn h hy16
        refine ⟨_,[],[0,1,2],(Option.some.inj h).symm,by decide,?_⟩
        try simp only [*,go_sem,seval]
     ·replace h:=Zn h hy10
      replace h:=Zn h hy4
      cases h
      try simp only [*,go_sem,seval]
 ·cases h
  try simp only [*,go_sem,seval]
theorem ZFr {l_0:(List Zb)} {f_1:Zb} {r:((List Zb) × Bool)} (h:ZFc l_0 f_1=some r):Zk Tryz.prog J0 29 [(false,[.sl 45 2 (List.map Zl l_0)]),(true,Zl f_1)] [(false,[(false,.sl 45 2 (List.map Zl r.1))]),(false,[(false,.bool r.2)])]:=by
 refine fnk Tryz.func29 (by kernel_rfl) rfl (by kernel_rfl) (by kernel_rfl) ?_
 unfold ZFc at h
 simp only [fnS,f29,Zm,go_sem,seval]
 obtain ⟨f,a,h⟩:=Za h
 refine Zd (Znd a) ?_
 try simp only [*,go_sem,seval]
 refine Ze h (fun _ h=>?_) fun _ h=>?_<;>try simp only [*,go_sem,seval]
 obtain ⟨g,b,h⟩:=Za h
 refine Zd (Zb0 b) ?_
 try simp only [*,go_sem,seval]
 refine Ze h (fun _ h=>?_) fun _ h=>?_<;>try simp only [*,go_sem,seval]
 obtain ⟨i,c,h⟩:=Za h
 refine Zd (Zeq c) ?_
 cases h
 try simp only [*,go_sem,seval]
 obtain ⟨j,d,h⟩:=Za h
 refine Zd (ZFy d) ?_
 cases h
 try simp only [*,go_sem,seval]
 obtain ⟨k,e,h⟩:=Za h
 refine Zd (Zeq e) ?_
 cases h
 try simp only [*,go_sem,seval]
end Go.Proofs.YtfehfkfdfmcgfaaGreatDoor
namespace Go.Proofs.YtfehfkfdfmcgfaaGreatDoor
open Go.Proofs.Tryz
set_option linter.unusedSimpArgs false
set_option linter.unusedVariables false
set_option maxRecDepth 1000000
set_option maxHeartbeats 4000000
theorem Zgo {x_0:Zt} {r:Bool} (h:Zbf x_0=some r):Zk Tryz.prog J0 223 [(true,ZK x_0)] [(false,[(false,.bool r)])]:=by
 refine fnk Tryz.func223 (by kernel_rfl) rfl (by kernel_rfl) (by kernel_rfl) ?_
 unfold Zbf at h
 simp only [fnS,f223,Zm,go_sem,seval]
 obtain ⟨b,a,h⟩:=Za h
 refine Zd (Zem a) ?_
 try simp only [*,go_sem,seval]
 refine Ze h (fun _ h=>?_) fun _ h=>?_<;>try simp only [*,go_sem,seval]
 iterate 2 (cases h;try simp only [*,go_sem,seval])
theorem ZlU {s_0:ByteArray} {r:(Zt × Bool)} (h:Za1 s_0=some r):Zk Tryz.prog J0 290 [(false,[.str s_0])] [(true,[(false,.int .i64 r.1.kind),(false,.str r.1.pattern.rel),(false,.sl 9 1 (List.map Zx r.1.pattern.args)),(false,.str r.1.left),(false,.str r.1.right)]),(false,[(false,.bool r.2)])]:=by
 refine fnk Tryz.func290 (by kernel_rfl) rfl (by kernel_rfl) (by kernel_rfl) ?_
 unfold Za1 at h
 have f:Z9 ⟨#[110,111,116,32]⟩=true:=by decide
 simp only [fnS,f290,Zm,go_sem,seval,f]
 refine Yo h (fun b st=>IV [(0,.p false [.c (.str s_0)]),(2,.bp 0 0),(4,.p false [.c (.int .i64 b)])] [.box 173 [.c (.int .i64 0),.c (.str ⟨#[]⟩),.nil 9 1,.c (.str ⟨#[]⟩),.c (.str ⟨#[]⟩)]] st) [] [0] (by decide) ?_ ?_
 simp only [*,go_sem,seval]
 rintro b ⟨sl,ob,n⟩ t d u h a
 simp only [go_sem,seval,Zc] at d
 obtain ⟨⟨v,w,x⟩,y,hn⟩:=d
 subst hn
 try simp only [*,go_sem,seval]
 refine Ze h (fun _ h=>?_) fun _ h=>?_<;>try simp only [*,go_sem,seval]
 obtain ⟨z,g,h⟩:=Za h
 refine Zd (ZrB g) ?_
 try simp only [*,go_sem,seval]
 obtain ⟨A,i,h⟩:=Za h
 refine Zd (Qd i) ?_
 try simp only [*,go_sem,seval]
 refine Ze h (fun _ h=>?_) fun _ h=>?_<;>try simp only [*,go_sem,seval]
 obtain ⟨B,h⟩:=Zq h
 obtain ⟨C,j,h⟩:=Za h
 try simp only [seval] at j
 obtain ⟨D,h⟩:=Zq h
 obtain ⟨E,k,h⟩:=Za h
 try simp only [seval] at k
 try simp only [*,go_sem,seval]
 obtain ⟨F,l,h⟩:=Za h
 refine Zd (Zem l) ?_
 try simp only [*,go_sem,seval]
 refine Ze h (fun _ h=>?_) fun _ h=>?_<;>try simp only [*,go_sem,seval]
 replace h:=Zn h a
 cases h
 try simp only [*,go_sem,seval]
 refine ⟨_,[],[0],(Option.some.inj h).symm,by decide,?_⟩
 try simp only [*,go_sem,seval]
 refine ⟨_,[],[0],(Option.some.inj h).symm,by decide,?_⟩
 try simp only [*,go_sem,seval]
 refine Ze h (fun _ h=>?_) fun _ h=>?_<;>try simp only [*,go_sem,seval]
 obtain ⟨G,h⟩:=Zq h
 try simp only [*,go_sem,seval]
 refine Ze h (fun e h=>?_) (fun e h=>?_)<;>(try simp only [seval] at e)<;>try simp only [*,go_sem,seval]
 obtain ⟨H,m,h⟩:=Za h
 refine Zd (XD m) ?_
 try simp only [*,go_sem,seval]
 refine Ze h (fun _ h=>?_) fun _ h=>?_<;>try simp only [*,go_sem,seval]
 iterate 2 (replace h:=Zn h a;cases h;try simp only [*,go_sem,seval])
 obtain ⟨I,o,h⟩:=Za h
 refine Zd (XD o) ?_
 try simp only [*,go_sem,seval]
 refine Ze h (fun _ h=>?_) fun _ h=>?_<;>try simp only [*,go_sem,seval]
 iterate 2 (replace h:=Zn h a;cases h;try simp only [*,go_sem,seval])
 obtain ⟨J,q,h⟩:=Za h
 refine Zd (XD q) ?_
 try simp only [*,go_sem,seval]
 refine Ze h (fun _ h=>?_) fun _ h=>?_<;>try simp only [*,go_sem,seval]
 iterate 2 (replace h:=Zn h a;cases h;try simp only [*,go_sem,seval])
theorem Zng {s_0:ByteArray} {r:(Zz × Bool)} (h:ZaE s_0=some r):Zk Tryz.prog J0 291 [(false,[.str s_0])] [(true,[(false,.int .i64 r.1.kind),(false,.str r.1.pattern.rel),(false,.sl 9 1 (List.map Zx r.1.pattern.args))]),(false,[(false,.bool r.2)])]:=by
 refine fnk Tryz.func291 (by kernel_rfl) rfl (by kernel_rfl) (by kernel_rfl) ?_
 unfold ZaE at h
 have a:Z9 ⟨#[100,114,111,112]⟩=true:=by decide
 have b:Z9 ⟨#[115,116,111,112]⟩=true:=by decide
 have c:Z9 ⟨#[32]⟩=true:=by decide
 have d:Z9 ⟨#[97,100,100]⟩=true:=by decide
 simp only [fnS,f291,Zm,go_sem,seval,a,b,c,d]
 refine Ze h (fun _ h=>?_) fun _ h=>?_<;>try simp only [*,go_sem,seval]
 cases h
 try simp only [*,go_sem,seval]
 obtain ⟨l,e,h⟩:=Za h
 refine Zd (Qd e) ?_
 try simp only [*,go_sem,seval]
 refine Ze h (fun _ h=>?_) fun _ h=>?_<;>try simp only [*,go_sem,seval]
 cases h
 try simp only [*,go_sem,seval]
 obtain ⟨m,h⟩:=Zq h
 obtain ⟨o,f,h⟩:=Za h
 try simp only [seval] at f
 try simp only [*,go_sem,seval]
 refine Ze h (fun _ h=>?_) fun _ h=>?_<;>try simp only [*,go_sem,seval]
 obtain ⟨p,h⟩:=Zq h
 obtain ⟨q,g,h⟩:=Za h
 try simp only [seval] at g
 try simp only [*,go_sem,seval]
 obtain ⟨t,i,h⟩:=Za h
 refine Zd (XD i) ?_
 cases h
 try simp only [*,go_sem,seval]
 refine Ze h (fun _ h=>?_) fun _ h=>?_<;>try simp only [*,go_sem,seval]
 obtain ⟨u,h⟩:=Zq h
 obtain ⟨v,j,h⟩:=Za h
 try simp only [seval] at j
 try simp only [*,go_sem,seval]
 obtain ⟨w,k,h⟩:=Za h
 refine Zd (XD k) ?_
 iterate 2 (cases h;try simp only [*,go_sem,seval])
theorem Zkv {append_0:Zg} {r:Bool} (h:Zfe append_0=some r):Zk Tryz.prog J0 132 [(true,ZF append_0)] [(false,[(false,.bool r)])]:=by
 refine fnk Tryz.func132 (by kernel_rfl) rfl (by kernel_rfl) (by kernel_rfl) ?_
 unfold Zfe at h
 simp only [fnS,f132,Zm,go_sem,seval]
 obtain ⟨v1,e1,h⟩:=Za h
 refine Zd (by have hh:=Zgl e1;first|exact hh|(simp only [*,go_sem] at hh;exact hh)) ?_
 try simp only [*,go_sem,seval]
 refine Ze h (fun _ h=>?_) fun _ h=>?_<;>try simp only [*,go_sem,seval]
 ·refine Ze h (fun _ h=>?_) fun _ h=>?_<;>try simp only [*,go_sem,seval]
  ·cases h
   try simp only [*,go_sem,seval]
  ·refine Ze h (fun _ h=>?_) fun _ h=>?_<;>try simp only [*,go_sem,seval]
   ·cases h
    try simp only [*,go_sem,seval]
   ·refine Ze h (fun _ h=>?_) fun _ h=>?_<;>try simp only [*,go_sem,seval]
    ·cases h
     try simp only [*,go_sem,seval]
    ·refine Ze h (fun _ h=>?_) fun _ h=>?_<;>try simp only [*,go_sem,seval]
     ·cases h
      try simp only [*,go_sem,seval]
     ·refine Ze h (fun _ h=>?_) fun _ h=>?_<;>try simp only [*,go_sem,seval]
      ·cases h
       try simp only [*,go_sem,seval]
      ·refine Ze h (fun _ h=>?_) fun _ h=>?_<;>try simp only [*,go_sem,seval]
       ·cases h
        try simp only [*,go_sem,seval]
       ·refine Zi h (fun i _ st=>IV [(1,.bp 0 0),(49,.p false [.c (.sl 173 5 (List.map ZK append_0.cond))]),(50,.p false [.c (.int .i64 ((append_0.cond.length:Nat):Int))]),(51,.p false [.c (.int .i64 ((i:Nat):Int))])] [.box 42 [.c (.str append_0.name),.c (.int .i64 append_0.priority),.c (.sl 173 5 (List.map ZK append_0.cond)),.c (.sl 50 3 (List.map ZG append_0.thn))]] st) [] [0] (by decide) ?_ ?_ ?_
        ·simp only [*,go_sem,seval]
        ·rintro i50 x51 ⟨⟩ ⟨sl,ob,n⟩ y9 hx10 hI11 hW12 h hy9
         simp only [go_sem,seval,Zc] at hI11
         obtain ⟨⟨g13_1,g13_49,g13_50,g13_51⟩,og13_0,hn⟩:=hI11
         subst hn
         have hlhx10:=WF.slotL hW12 g13_49 (j:=0) rfl
         have q14:=ZA hx10
         have q15:=ZC hx10
         have q16:=Zj (ZB hx10) hlhx10
         try simp only [*,go_sem,seval]
         obtain ⟨v52,e17,h⟩:=Za h
         refine Zd (by have hh:=Zgc e17;first|exact hh|(simp only [*,go_sem] at hh;exact hh)) ?_
         try simp only [*,go_sem,seval]
         refine Ze h (fun _ h=>?_) fun _ h=>?_<;>try simp only [*,go_sem,seval]
         ·refine Ze h (fun _ h=>?_) fun _ h=>?_<;>try simp only [*,go_sem,seval]
          ·refine Ze h (fun _ h=>?_) fun _ h=>?_<;>try simp only [*,go_sem,seval]
           ·replace h:=Zn h hy9
            cases h
            try simp only [*,go_sem,seval]
           ·obtain ⟨v53,e21,h⟩:=Za h
            refine Zd (by have hh:=ZhQ e21;first|exact hh|(simp only [*,go_sem] at hh;exact hh)) ?_
            try simp only [*,go_sem,seval]
            refine Ze h (fun _ h=>?_) fun _ h=>?_<;>try simp only [*,go_sem,seval]
            ·refine ⟨_,[],[0],(Option.some.inj h).symm,by decide,?_⟩
             try simp only [*,go_sem,seval]
            ·replace h:=Zn h hy9
             cases h
             try simp only [*,go_sem,seval]
          ·obtain ⟨v54,e23,h⟩:=Za h
           refine Zd (by have hh:=ZhQ e23;first|exact hh|(simp only [*,go_sem] at hh;exact hh)) ?_
           try simp only [*,go_sem,seval]
           refine Ze h (fun _ h=>?_) fun _ h=>?_<;>try simp only [*,go_sem,seval]
           ·refine ⟨_,[],[0],(Option.some.inj h).symm,by decide,?_⟩
            try simp only [*,go_sem,seval]
           ·replace h:=Zn h hy9
            cases h
            try simp only [*,go_sem,seval]
         ·replace h:=Zn h hy9
          cases h
          try simp only [*,go_sem,seval]
        ·rintro ⟨⟩ ⟨sl,ob,n⟩ hI25 hW26 h
         simp only [go_sem,seval,Zc] at hI25
         obtain ⟨⟨g27_1,g27_49,g27_50,g27_51⟩,og27_0,hn⟩:=hI25
         subst hn
         have q28:=Zy (append_0.cond.length)
         try simp only [*,go_sem,seval]
         obtain ⟨v55,e29,h⟩:=Za h
         refine Zd (by have hh:=ZdH e29;first|exact hh|(simp only [*,go_sem] at hh;exact hh)) ?_
         try simp only [*,go_sem,seval]
         refine Zi h (fun i _ st=>IV [(1,.bp 0 0),(5,.p false [.row 1]),(81,.p false [.c (.sl 50 3 (List.map ZG append_0.thn))]),(82,.p false [.c (.int .i64 ((append_0.thn.length:Nat):Int))]),(83,.p false [.c (.int .i64 ((i:Nat):Int))])] [.box 42 [.c (.str append_0.name),.c (.int .i64 append_0.priority),.c (.sl 173 5 (List.map ZK append_0.cond)),.c (.sl 50 3 (List.map ZG append_0.thn))],.row 9 1 (List.map Zx v55) 2] st) [] [0,81] (by decide) ?_ ?_ ?_
         ·simp only [*,go_sem,seval]
         ·rintro i81 x82 ⟨⟩ ⟨sl,ob,n⟩ y30 hx31 hI32 hW33 h hy30
          simp only [go_sem,seval,Zc] at hI32
          obtain ⟨⟨g34_1,g34_5,g34_81,g34_82,g34_83⟩,og34_0,og34_1,hn⟩:=hI32
          subst hn
          have hlhx31:=WF.slotL hW33 g34_81 (j:=0) rfl
          have q35:=ZA hx31
          have q36:=ZC hx31
          have q37:=Zj (ZB hx31) hlhx31
          try simp only [*,go_sem,seval]
          obtain ⟨v83,e38,h⟩:=Za h
          refine Zd (by have hh:=ZmO e38;first|exact hh|(simp only [*,go_sem] at hh;exact hh)) ?_
          try simp only [*,go_sem,seval]
          refine Ze h (fun _ h=>?_) fun _ h=>?_<;>try simp only [*,go_sem,seval]
          ·obtain ⟨v84,e40,h⟩:=Za h
           refine Zd (by have hh:=ZdX e40;first|exact hh|(simp only [*,go_sem] at hh;exact hh)) ?_
           try simp only [*,go_sem,seval]
           refine Zi h (fun i _ st=>IV [(1,.bp 0 0),(5,.p false [.row 1]),(81,.p false [.c (.sl 50 3 (List.map ZG append_0.thn))]),(82,.p false [.c (.int .i64 ((append_0.thn.length:Nat):Int))]),(83,.p false [.c (.int .i64 ((i81:Nat):Int))]),(93,.p false [.row 2]),(94,.p false [.c (.int .i64 ((v84.length:Nat):Int))]),(95,.p false [.c (.int .i64 ((i:Nat):Int))])] [.box 42 [.c (.str append_0.name),.c (.int .i64 append_0.priority),.c (.sl 173 5 (List.map ZK append_0.cond)),.c (.sl 50 3 (List.map ZG append_0.thn))],.row 9 1 (List.map Zx v55) 2,.row 9 1 (List.map Zx v84) 2] st) [] [0,1,178] (by decide) ?_ ?_ ?_
           ·simp only [*,go_sem,seval]
           ·rintro i90 x91 ⟨⟩ ⟨sl,ob,n⟩ y41 hx42 hI43 hW44 h hy41
            simp only [go_sem,seval,Zc] at hI43
            obtain ⟨⟨g45_1,g45_5,g45_81,g45_82,g45_83,g45_93,g45_94,g45_95⟩,og45_0,og45_1,og45_2,hn⟩:=hI43
            subst hn
            have hlhx42:=WF.rowL hW44 og45_2
            have q46:=ZA hx42
            have q47:=ZC hx42
            have q48:=Zj (ZB hx42) hlhx42
            try simp only [*,go_sem,seval]
            obtain ⟨v92,e49,h⟩:=Za h
            refine Zd (by have hh:=Zac e49;first|exact hh|(simp only [*,go_sem] at hh;exact hh)) ?_
            try simp only [*,go_sem,seval]
            refine Ze h (fun _ h=>?_) fun _ h=>?_<;>try simp only [*,go_sem,seval]
            ·refine ⟨_,[],[0,1,2],(Option.some.inj h).symm,by decide,?_⟩
             try simp only [*,go_sem,seval]
            ·replace h:=Zn h hy41
             replace h:=Zn h hy30
             cases h
             try simp only [*,go_sem,seval]
           ·rintro ⟨⟩ ⟨sl,ob,n⟩ hI51 hW52 h
            simp only [go_sem,seval,Zc] at hI51
            obtain ⟨⟨g53_1,g53_5,g53_81,g53_82,g53_83,g53_93,g53_94,g53_95⟩,og53_0,og53_1,og53_2,hn⟩:=hI51
            subst hn
            have q54:=Zy (v84.length)
            try simp only [*,go_sem,seval]
            refine ⟨_,[],[0,1],(Option.some.inj h).symm,by decide,?_⟩
            try simp only [*,go_sem,seval]
          ·replace h:=Zn h hy30
           cases h
           try simp only [*,go_sem,seval]
         ·rintro ⟨⟩ ⟨sl,ob,n⟩ hI55 hW56 h
          simp only [go_sem,seval,Zc] at hI55
          obtain ⟨⟨g57_1,g57_5,g57_81,g57_82,g57_83⟩,og57_0,og57_1,hn⟩:=hI55
          subst hn
          have q58:=Zy (append_0.thn.length)
          try simp only [*,go_sem,seval]
          obtain ⟨v93,e59,h⟩:=Za h
          refine Zd (by have hh:=ZkH e59;first|exact hh|(simp only [*,go_sem] at hh;exact hh)) ?_
          try simp only [*,go_sem,seval]
          obtain ⟨v94,e60,h⟩:=Za h
          refine Zd (by have hh:=XX e60;first|exact hh|(simp only [*,go_sem] at hh;exact hh)) ?_
          cases h
          try simp only [*,go_sem,seval]
 ·cases h
  try simp only [*,go_sem,seval]
theorem Zms {append_0:Zt} {String_1:(List Zs)} {r:Bool} (h:Zcs append_0 String_1=some r):Zk Tryz.prog J0 214 [(true,ZK append_0),(false,[.sl 166 2 (List.map Z4 String_1)])] [(false,[(false,.bool r)])]:=by
 refine fnk Tryz.func214 (by kernel_rfl) rfl (by kernel_rfl) (by kernel_rfl) ?_
 unfold Zcs at h
 simp only [fnS,f214,Zm,go_sem,seval]
 obtain ⟨g,a,h⟩:=Za h
 refine Zd (Zrq a) ?_
 try simp only [*,go_sem,seval]
 refine Ze h (fun _ h=>?_) fun _ h=>?_<;>try simp only [*,go_sem,seval]
 obtain ⟨i,b,h⟩:=Za h
 refine Zd (QO b) ?_
 try simp only [*,go_sem,seval]
 refine Ze h (fun _ h=>?_) fun _ h=>?_<;>try simp only [*,go_sem,seval]
 obtain ⟨j,c,h⟩:=Za h
 refine Zd (ZcR c) ?_
 try simp only [*,go_sem,seval]
 obtain ⟨k,d,h⟩:=Za h
 refine Zd (ZcR d) ?_
 try simp only [*,go_sem,seval]
 iterate 3 refine Ze h (fun _ h=>?_) fun _ h=>?_<;>try simp only [*,go_sem,seval]
 cases h
 try simp only [*,go_sem,seval]
 refine Ze h (fun _ h=>?_) fun _ h=>?_<;>try simp only [*,go_sem,seval]
 cases h
 try simp only [*,go_sem,seval]
 obtain ⟨l,e,h⟩:=Za h
 refine Zd (Zcf e) ?_
 try simp only [*,go_sem,seval]
 obtain ⟨m,f,h⟩:=Za h
 refine Zd (Zcf f) ?_
 try simp only [*,go_sem,seval]
 iterate 2 refine Ze h (fun _ h=>?_) fun _ h=>?_<;>try simp only [*,go_sem,seval]
 iterate 7 (cases h;try simp only [*,go_sem,seval])
theorem ZdS {p_0:Zv} {b_1:(List Zs)} {facts_2:(List Zb)} {r:(List Zb)} (h:Xs p_0 b_1 facts_2=some r):Zk Tryz.prog J0 311 [(true,QA p_0),(false,[.sl 166 2 (List.map Z4 b_1)]),(false,[.sl 45 2 (List.map Zl facts_2)])] [(false,[(false,.sl 45 2 (List.map Zl r))])]:=by
 refine fnk Tryz.func311 (by kernel_rfl) rfl (by kernel_rfl) (by kernel_rfl) ?_
 unfold Xs at h
 simp only [fnS,f311,Zm,go_sem,seval]
 refine Zi h (fun i a st=>IV [(1,.p false [.c (.sl 166 2 (List.map Z4 b_1))]),(2,.p false [.c (.sl 45 2 (List.map Zl facts_2))]),(3,.bp 0 0),(7,.p false [.row 1]),(8,.p false [.c (.int .i64 ((i:Nat):Int))])] [.box 48 [.c (.str p_0.rel),.c (.sl 9 1 (List.map Zx p_0.args))],.row 45 2 (List.map Zl a) 2] st) [] [0,32] (by decide) ?_ ?_ ?_
 simp only [*,go_sem,seval]
 rintro q t a ⟨sl,ob,n⟩ u b d f h v
 simp only [go_sem,seval,Zc] at d
 obtain ⟨⟨w,g,x,y,z⟩,A,B,hn⟩:=d
 subst hn
 have k:=WF.slotL f g (j:=0) rfl
 have C:=ZA b
 have D:=ZC b
 have E:=Zj (ZB b) k
 try simp only [*,go_sem,seval]
 obtain ⟨F,l,h⟩:=Za h
 refine Zd (Zf2 l) ?_
 try simp only [*,go_sem,seval]
 refine Ze h (fun _ h=>?_) fun _ h=>?_<;>try simp only [*,go_sem,seval]
 obtain ⟨G,m,h⟩:=Za h
 refine Zd (Xa m) ?_
 obtain ⟨o,h⟩:=Zq h
 try simp only [Nat.reduceLeDiff] at o
 try simp only [*,go_sem,seval]
 refine ⟨_,[],[0,386],(Option.some.inj h).symm,by decide,?_⟩
 try simp only [*,go_sem,seval]
 refine ⟨_,[],[0,1],(Option.some.inj h).symm,by decide,?_⟩
 try simp only [*,go_sem,seval]
 rintro a ⟨sl,ob,n⟩ e H h
 simp only [go_sem,seval,Zc] at e
 obtain ⟨⟨I,J,K,L,M⟩,N,O,hn⟩:=e
 subst hn
 have P:=Zy (facts_2.length)
 cases h
 try simp only [*,go_sem,seval]
theorem ZkZ {append_0:Zg} {String_1:Int} {a_2:Zu} {a_3:(List Zb)} {r:Zf} (h:ZaS append_0 String_1 a_2 a_3=some r):Zk Tryz.prog J0 192 [(true,ZF append_0),(false,[.int .i64 String_1]),(true,YK a_2),(false,[.sl 45 2 (List.map Zl a_3)])] [(true,[(false,.int .i64 r.for_),(false,.sl 3 1 (List.map ZI r.inn)),(false,.sl 3 1 (List.map ZI r.outs))])]:=by
 refine fnk Tryz.func192 (by kernel_rfl) rfl (by kernel_rfl) (by kernel_rfl) ?_
 unfold ZaS at h
 simp only [fnS,f192,Zm,go_sem,seval]
 obtain ⟨w,x,y,z,h⟩:=ZbQ h
 try simp only [*,go_sem,seval]
 obtain ⟨d,g,h⟩:=Za h
 refine Zd (Zb8 g) ?_
 try simp only [*,go_sem,seval]
 refine Zi h (fun i a st=>IV [(3,.p false [.c (.sl 45 2 (List.map Zl a_3))]),(4,.bp 0 0),(6,.bp 1 0),(8,.bp 2 0),(9,.bp 3 0),(11,.p false [.row 5]),(12,.p false [.c (.int .i64 ((i:Nat):Int))])] [.box 42 [.c (.str append_0.name),.c (.int .i64 append_0.priority),.c (.sl 173 5 (List.map ZK append_0.cond)),.c (.sl 50 3 (List.map ZG append_0.thn))],.box 120 [.c (.sl 45 2 (List.map Zl a_2.facts)),.c (.sl 166 2 (List.map Z4 a_2.binding))],.box 199 [.c (.int .i64 0),.nil 3 1,.nil 3 1],.box 45 [.c (.str d.1.rel),.row 4],.row 9 1 (List.map Zx d.1.args) 2,.row 45 2 (List.map Zl a) 2] st) [] [0,16,32,240,176,288] (by decide) ?_ ?_ ?_
 simp only [*,go_sem,seval]
 rintro A B a ⟨sl,ob,n⟩ C b e k h D
 simp only [go_sem,seval,Zc] at e
 obtain ⟨⟨E,F,G,H,I,J,K⟩,l,L,M,N,O,P,hn⟩:=e
 subst hn
 have m:=WF.boxL k l (j:=2) rfl
 have Q:=ZA b
 have R:=ZC b
 have S:=Zj (ZB b) m
 try simp only [*,go_sem,seval]
 refine Ze h (fun _ h=>?_) fun _ h=>?_<;>try simp only [*,go_sem,seval]
 obtain ⟨T,o,h⟩:=Za h
 refine Zd (Zb8 o) ?_
 obtain ⟨q,h⟩:=Zq h
 try simp only [Nat.reduceLeDiff] at q
 try simp only [*,go_sem,seval]
 refine ⟨_,[],[0,1,2,3,4,486],(Option.some.inj h).symm,by decide,?_⟩
 try simp only [*,go_sem,seval]
 refine ⟨_,[],[0,1,2,3,4,5],(Option.some.inj h).symm,by decide,?_⟩
 try simp only [*,go_sem,seval]
 rintro a ⟨sl,ob,n⟩ f U h
 simp only [go_sem,seval,Zc] at f
 obtain ⟨⟨V,W,X,Y,Z,aa,ab⟩,ac,ad,ae,af,ag,ah,hn⟩:=f
 subst hn
 have ai:=Zy (append_0.cond.length)
 try simp only [*,go_sem,seval]
 obtain ⟨aj,t,h⟩:=Za h
 refine Zd (Zb0 t) ?_
 try simp only [*,go_sem,seval]
 obtain ⟨ak,u,h⟩:=Za h
 refine Zd (ZhF u) ?_
 try simp only [*,go_sem,seval]
 obtain ⟨al,v,h⟩:=Za h
 refine Zd (ZhF v) ?_
 cases h
 try simp only [*,go_sem,seval]
theorem Znf {b_0:Zr} {r:(List Bool)} (h:Zd0 b_0=some r):Zk Tryz.prog J0 131 [(true,XY b_0)] [(false,[(false,.sl 4 1 (List.map ZfM r))])]:=by
 refine fnk Tryz.func131 (by kernel_rfl) rfl (by kernel_rfl) (by kernel_rfl) ?_
 unfold Zd0 at h
 simp only [fnS,f131,Zm,go_sem,seval]
 obtain ⟨d,g,h⟩:=Za h
 refine Zd (Znh g) ?_
 try simp only [*,go_sem,seval]
 refine Zi h (fun i a st=>IV [(3,.p false [.row 0]),(4,.p false [.row 1]),(5,.p false [.c (.int .i64 ((i:Nat):Int))])] [.row 3 1 (List.map ZI d) 2,.row 4 1 (List.map ZfM a) 2] st) [] [48,80] (by decide) ?_ ?_ ?_
 simp only [*,go_sem,seval]
 rintro o q a ⟨sl,ob,n⟩ t b e j h u
 simp only [go_sem,seval,Zc] at e
 obtain ⟨⟨v,w,x⟩,k,y,hn⟩:=e
 subst hn
 have l:=WF.rowL j k
 have z:=ZA b
 have A:=ZC b
 have B:=Zj (ZB b) l
 obtain ⟨m,h⟩:=Zq h
 try simp only [Nat.reduceLeDiff] at m
 try simp only [*,go_sem,seval]
 refine ⟨_,[],[0,178],(Option.some.inj h).symm,by decide,?_⟩
 try simp only [*,go_sem,seval]
 rintro a ⟨sl,ob,n⟩ f C h
 simp only [go_sem,seval,Zc] at f
 obtain ⟨⟨D,E,F⟩,G,H,hn⟩:=f
 subst hn
 have I:=Zy (d.length)
 cases h
 try simp only [*,go_sem,seval]
end Go.Proofs.YtfehfkfdfmcgfaaGreatDoor
namespace Go.Proofs.YtfehfkfdfmcgfaaGreatDoor
open Go.Proofs.Tryz
set_option linter.unusedSimpArgs false
set_option linter.unusedVariables false
set_option maxRecDepth 1000000
set_option maxHeartbeats 4000000
theorem ZgS {append_0:Zg} {r:Bool} (h:Zcu append_0=some r):Zk Tryz.prog J0 158 [(true,ZF append_0)] [(false,[(false,.bool r)])]:=by
 refine fnk Tryz.func158 (by kernel_rfl) rfl (by kernel_rfl) (by kernel_rfl) ?_
 unfold Zcu at h
 simp only [fnS,f158,Zm,go_sem,seval]
 obtain ⟨v1,e1,h⟩:=Za h
 refine Zd (by have hh:=ZgV e1;first|exact hh|(simp only [*,go_sem] at hh;exact hh)) ?_
 try simp only [*,go_sem,seval]
 refine Ze h (fun _ h=>?_) fun _ h=>?_<;>try simp only [*,go_sem,seval]
 ·obtain ⟨v2,e3,h⟩:=Za h
  refine Zd (by have hh:=XU e3;first|exact hh|(simp only [*,go_sem] at hh;exact hh)) ?_
  try simp only [*,go_sem,seval]
  refine Ze h (fun _ h=>?_) fun _ h=>?_<;>try simp only [*,go_sem,seval]
  ·obtain ⟨v3,e5,h⟩:=Za h
   refine Zd (by have hh:=XU e5;first|exact hh|(simp only [*,go_sem] at hh;exact hh)) ?_
   try simp only [*,go_sem,seval]
   refine Ze h (fun _ h=>?_) fun _ h=>?_<;>try simp only [*,go_sem,seval]
   ·obtain ⟨v4,e7,h⟩:=Za h
    refine Zd (by have hh:=XU e7;first|exact hh|(simp only [*,go_sem] at hh;exact hh)) ?_
    try simp only [*,go_sem,seval]
    refine Ze h (fun _ h=>?_) fun _ h=>?_<;>try simp only [*,go_sem,seval]
    ·obtain ⟨v5,e9,h⟩:=Za h
     refine Zd (by have hh:=Zbq e9;first|exact hh|(simp only [*,go_sem] at hh;exact hh)) ?_
     try simp only [*,go_sem,seval]
     refine Zi h (fun i _ st=>IV [(1,.bp 0 0),(3,.p false [.row 1]),(4,.p false [.c (.int .i64 ((i:Nat):Int))])] [.box 42 [.c (.str append_0.name),.c (.int .i64 append_0.priority),.c (.sl 173 5 (List.map ZK append_0.cond)),.c (.sl 50 3 (List.map ZG append_0.thn))],.row 9 1 (List.map Zx v5) 2] st) [] [0,480] (by decide) ?_ ?_ ?_
     ·simp only [*,go_sem,seval]
     ·rintro i96 x97 ⟨⟩ ⟨sl,ob,n⟩ y10 hx11 hI12 hW13 h hy10
      simp only [go_sem,seval,Zc] at hI12
      obtain ⟨⟨g14_1,g14_3,g14_4⟩,og14_0,og14_1,hn⟩:=hI12
      subst hn
      have hlhx11:=WF.boxL hW13 og14_0 (j:=2) rfl
      have q15:=ZA hx11
      have q16:=ZC hx11
      have q17:=Zj (ZB hx11) hlhx11
      try simp only [*,go_sem,seval]
      obtain ⟨v98,e18,h⟩:=Za h
      refine Zd (by have hh:=Zem e18;first|exact hh|(simp only [*,go_sem] at hh;exact hh)) ?_
      try simp only [*,go_sem,seval]
      refine Ze h (fun _ h=>?_) fun _ h=>?_<;>try simp only [*,go_sem,seval]
      ·refine Ze h (fun _ h=>?_) fun _ h=>?_<;>try simp only [*,go_sem,seval]
       ·refine Ze h (fun _ h=>?_) fun _ h=>?_<;>try simp only [*,go_sem,seval]
        ·replace h:=Zn h hy10
         cases h
         try simp only [*,go_sem,seval]
        ·obtain ⟨v99,e22,h⟩:=Za h
         refine Zd (by have hh:=Zbq e22;first|exact hh|(simp only [*,go_sem] at hh;exact hh)) ?_
         try simp only [*,go_sem,seval]
         obtain ⟨v100,e23,h⟩:=Za h
         refine Zd (by have hh:=Zas e23;first|exact hh|(simp only [*,go_sem] at hh;exact hh)) ?_
         try simp only [*,go_sem,seval]
         refine Zi h (fun i _ st=>IV [(1,.bp 0 0),(3,.p false [.row 1]),(4,.p false [.c (.int .i64 ((i96:Nat):Int))]),(5,.bp 2 0),(6,.p false [.row 3]),(7,.p false [.row 4]),(8,.p false [.c (.int .i64 ((i:Nat):Int))]),(58,.p false [.c (.int .i64 ((i96:Nat):Int))]),(59,.p false [.c (.bool (((i96:Nat):Int)==0))]),(60,.p false [.c (.bool (((i96:Nat):Int)==0))]),(61,.bp 2 0),(62,.p false [.c (.int .i64 x97.kind)]),(63,.p false [.c (.bool (x97.kind != 1))]),(64,.p false [.c (.bool (x97.kind != 1))])] [.box 42 [.c (.str append_0.name),.c (.int .i64 append_0.priority),.c (.sl 173 5 (List.map ZK append_0.cond)),.c (.sl 50 3 (List.map ZG append_0.thn))],.row 9 1 (List.map Zx v5) 2,.box 173 [.c (.int .i64 x97.kind),.c (.str x97.pattern.rel),.c (.sl 9 1 (List.map Zx x97.pattern.args)),.c (.str x97.left),.c (.str x97.right)],.row 9 1 (List.map Zx v99) 2,.row 9 1 (List.map Zx v100) 2] st) [] [0,1,162,418,466] (by decide) ?_ ?_ ?_
         ·simp only [*,go_sem,seval]
         ·rintro i110 x111 ⟨⟩ ⟨sl,ob,n⟩ y24 hx25 hI26 hW27 h hy24
          simp only [go_sem,seval,Zc] at hI26
          obtain ⟨⟨g28_1,g28_3,g28_4,g28_5,g28_6,g28_7,g28_8,g28_58,g28_59,g28_60,g28_61,g28_62,g28_63,g28_64⟩,og28_0,og28_1,og28_2,og28_3,og28_4,hn⟩:=hI26
          subst hn
          have hlhx25:=WF.rowL hW27 og28_4
          have q29:=ZA hx25
          have q30:=ZC hx25
          have q31:=Zj (ZB hx25) hlhx25
          try simp only [*,go_sem,seval]
          obtain ⟨v112,e32,h⟩:=Za h
          refine Zd (by have hh:=Yz e32;first|exact hh|(simp only [*,go_sem] at hh;exact hh)) ?_
          try simp only [*,go_sem,seval]
          obtain ⟨v113,e33,h⟩:=Za h
          refine Zd (by have hh:=Zgo e33;first|exact hh|(simp only [*,go_sem] at hh;exact hh)) ?_
          try simp only [*,go_sem,seval]
          refine Ze h (fun _ h=>?_) fun _ h=>?_<;>try simp only [*,go_sem,seval]
          ·refine Ze h (fun _ h=>?_) fun _ h=>?_<;>try simp only [*,go_sem,seval]
           ·refine Ze h (fun _ h=>?_) fun _ h=>?_<;>try simp only [*,go_sem,seval]
            ·refine ⟨_,[],[0,1,2,3,4],(Option.some.inj h).symm,by decide,?_⟩
             try simp only [*,go_sem,seval]
            ·refine ⟨_,[],[0,1,2,3,4],(Option.some.inj h).symm,by decide,?_⟩
             try simp only [*,go_sem,seval]
           ·replace h:=Zn h hy24
            replace h:=Zn h hy10
            cases h
            try simp only [*,go_sem,seval]
          ·refine Ze h (fun _ h=>?_) fun _ h=>?_<;>try simp only [*,go_sem,seval]
           ·refine Ze h (fun _ h=>?_) fun _ h=>?_<;>try simp only [*,go_sem,seval]
            ·refine ⟨_,[],[0,1,2,3,4],(Option.some.inj h).symm,by decide,?_⟩
             try simp only [*,go_sem,seval]
            ·obtain ⟨v114,e39,h⟩:=Za h
             refine Zd (by have hh:=Ze4 e39;first|exact hh|(simp only [*,go_sem] at hh;exact hh)) ?_
             try simp only [*,go_sem,seval]
             refine Ze h (fun _ h=>?_) fun _ h=>?_<;>try simp only [*,go_sem,seval]
             ·replace h:=Zn h hy24
              replace h:=Zn h hy10
              cases h
              try simp only [*,go_sem,seval]
             ·refine ⟨_,[],[0,1,2,3,4],(Option.some.inj h).symm,by decide,?_⟩
              try simp only [*,go_sem,seval]
           ·refine ⟨_,[],[0,1,2,3,4],(Option.some.inj h).symm,by decide,?_⟩
            try simp only [*,go_sem,seval]
         ·rintro ⟨⟩ ⟨sl,ob,n⟩ hI41 hW42 h
          simp only [go_sem,seval,Zc] at hI41
          obtain ⟨⟨g43_1,g43_3,g43_4,g43_5,g43_6,g43_7,g43_8,g43_58,g43_59,g43_60,g43_61,g43_62,g43_63,g43_64⟩,og43_0,og43_1,og43_2,og43_3,og43_4,hn⟩:=hI41
          subst hn
          have q44:=Zy (v100.length)
          try simp only [*,go_sem,seval]
          refine ⟨_,[],[0,1],(Option.some.inj h).symm,by decide,?_⟩
          try simp only [*,go_sem,seval]
       ·obtain ⟨v115,e45,h⟩:=Za h
        refine Zd (by have hh:=Zbq e45;first|exact hh|(simp only [*,go_sem] at hh;exact hh)) ?_
        try simp only [*,go_sem,seval]
        obtain ⟨v116,e46,h⟩:=Za h
        refine Zd (by have hh:=Zas e46;first|exact hh|(simp only [*,go_sem] at hh;exact hh)) ?_
        try simp only [*,go_sem,seval]
        refine Zi h (fun i _ st=>IV [(1,.bp 0 0),(3,.p false [.row 1]),(4,.p false [.c (.int .i64 ((i96:Nat):Int))]),(5,.bp 2 0),(6,.p false [.row 3]),(7,.p false [.row 4]),(8,.p false [.c (.int .i64 ((i:Nat):Int))]),(58,.p false [.c (.int .i64 ((i96:Nat):Int))]),(59,.p false [.c (.bool (((i96:Nat):Int)==0))]),(60,.p false [.c (.bool (((i96:Nat):Int)==0))]),(64,.p false [.c (.bool false)])] [.box 42 [.c (.str append_0.name),.c (.int .i64 append_0.priority),.c (.sl 173 5 (List.map ZK append_0.cond)),.c (.sl 50 3 (List.map ZG append_0.thn))],.row 9 1 (List.map Zx v5) 2,.box 173 [.c (.int .i64 x97.kind),.c (.str x97.pattern.rel),.c (.sl 9 1 (List.map Zx x97.pattern.args)),.c (.str x97.left),.c (.str x97.right)],.row 9 1 (List.map Zx v115) 2,.row 9 1 (List.map Zx v116) 2] st) [] [0,1,162,418,466] (by decide) ?_ ?_ ?_
        ·simp only [*,go_sem,seval]
        ·rintro i126 x127 ⟨⟩ ⟨sl,ob,n⟩ y47 hx48 hI49 hW50 h hy47
         simp only [go_sem,seval,Zc] at hI49
         obtain ⟨⟨g51_1,g51_3,g51_4,g51_5,g51_6,g51_7,g51_8,g51_58,g51_59,g51_60,g51_64⟩,og51_0,og51_1,og51_2,og51_3,og51_4,hn⟩:=hI49
         subst hn
         have hlhx48:=WF.rowL hW50 og51_4
         have q52:=ZA hx48
         have q53:=ZC hx48
         have q54:=Zj (ZB hx48) hlhx48
         try simp only [*,go_sem,seval]
         obtain ⟨v128,e55,h⟩:=Za h
         refine Zd (by have hh:=Yz e55;first|exact hh|(simp only [*,go_sem] at hh;exact hh)) ?_
         try simp only [*,go_sem,seval]
         obtain ⟨v129,e56,h⟩:=Za h
         refine Zd (by have hh:=Zgo e56;first|exact hh|(simp only [*,go_sem] at hh;exact hh)) ?_
         try simp only [*,go_sem,seval]
         refine Ze h (fun _ h=>?_) fun _ h=>?_<;>try simp only [*,go_sem,seval]
         ·refine Ze h (fun _ h=>?_) fun _ h=>?_<;>try simp only [*,go_sem,seval]
          ·refine Ze h (fun _ h=>?_) fun _ h=>?_<;>try simp only [*,go_sem,seval]
           ·refine ⟨_,[],[0,1,2,3,4],(Option.some.inj h).symm,by decide,?_⟩
            try simp only [*,go_sem,seval]
           ·refine ⟨_,[],[0,1,2,3,4],(Option.some.inj h).symm,by decide,?_⟩
            try simp only [*,go_sem,seval]
          ·replace h:=Zn h hy47
           replace h:=Zn h hy10
           cases h
           try simp only [*,go_sem,seval]
         ·refine Ze h (fun _ h=>?_) fun _ h=>?_<;>try simp only [*,go_sem,seval]
          ·refine Ze h (fun _ h=>?_) fun _ h=>?_<;>try simp only [*,go_sem,seval]
           ·refine ⟨_,[],[0,1,2,3,4],(Option.some.inj h).symm,by decide,?_⟩
            try simp only [*,go_sem,seval]
           ·obtain ⟨v130,e62,h⟩:=Za h
            refine Zd (by have hh:=Ze4 e62;first|exact hh|(simp only [*,go_sem] at hh;exact hh)) ?_
            try simp only [*,go_sem,seval]
            refine Ze h (fun _ h=>?_) fun _ h=>?_<;>try simp only [*,go_sem,seval]
            ·replace h:=Zn h hy47
             replace h:=Zn h hy10
             cases h
             try simp only [*,go_sem,seval]
            ·refine ⟨_,[],[0,1,2,3,4],(Option.some.inj h).symm,by decide,?_⟩
             try simp only [*,go_sem,seval]
          ·refine ⟨_,[],[0,1,2,3,4],(Option.some.inj h).symm,by decide,?_⟩
           try simp only [*,go_sem,seval]
        ·rintro ⟨⟩ ⟨sl,ob,n⟩ hI64 hW65 h
         simp only [go_sem,seval,Zc] at hI64
         obtain ⟨⟨g66_1,g66_3,g66_4,g66_5,g66_6,g66_7,g66_8,g66_58,g66_59,g66_60,g66_64⟩,og66_0,og66_1,og66_2,og66_3,og66_4,hn⟩:=hI64
         subst hn
         have q67:=Zy (v116.length)
         try simp only [*,go_sem,seval]
         refine ⟨_,[],[0,1],(Option.some.inj h).symm,by decide,?_⟩
         try simp only [*,go_sem,seval]
      ·replace h:=Zn h hy10
       cases h
       try simp only [*,go_sem,seval]
     ·rintro ⟨⟩ ⟨sl,ob,n⟩ hI68 hW69 h
      simp only [go_sem,seval,Zc] at hI68
      obtain ⟨⟨g70_1,g70_3,g70_4⟩,og70_0,og70_1,hn⟩:=hI68
      subst hn
      have q71:=Zy (append_0.cond.length)
      try simp only [*,go_sem,seval]
      refine Zi h (fun i _ st=>IV [(1,.bp 0 0),(3,.p false [.row 1]),(10,.p false [.c (.int .i64 ((i:Nat):Int))])] [.box 42 [.c (.str append_0.name),.c (.int .i64 append_0.priority),.c (.sl 173 5 (List.map ZK append_0.cond)),.c (.sl 50 3 (List.map ZG append_0.thn))],.row 9 1 (List.map Zx v5) 2] st) [] [0,1] (by decide) ?_ ?_ ?_
      ·simp only [*,go_sem,seval]
      ·rintro i155 x156 ⟨⟩ ⟨sl,ob,n⟩ y72 hx73 hI74 hW75 h hy72
       simp only [go_sem,seval,Zc] at hI74
       obtain ⟨⟨g76_1,g76_3,g76_10⟩,og76_0,og76_1,hn⟩:=hI74
       subst hn
       have hlhx73:=WF.boxL hW75 og76_0 (j:=3) rfl
       have q77:=ZA hx73
       have q78:=ZC hx73
       have q79:=Zj (ZB hx73) hlhx73
       try simp only [*,go_sem,seval]
       obtain ⟨v157,e80,h⟩:=Za h
       refine Zd (by have hh:=Znb e80;first|exact hh|(simp only [*,go_sem] at hh;exact hh)) ?_
       try simp only [*,go_sem,seval]
       refine Ze h (fun _ h=>?_) fun _ h=>?_<;>try simp only [*,go_sem,seval]
       ·obtain ⟨v158,e82,h⟩:=Za h
        refine Zd (by have hh:=Zcw e82;first|exact hh|(simp only [*,go_sem] at hh;exact hh)) ?_
        try simp only [*,go_sem,seval]
        refine Zi h (fun i _ st=>IV [(1,.bp 0 0),(3,.p false [.row 1]),(10,.p false [.c (.int .i64 ((i155:Nat):Int))]),(11,.p false [.row 2]),(12,.p false [.c (.int .i64 ((i:Nat):Int))])] [.box 42 [.c (.str append_0.name),.c (.int .i64 append_0.priority),.c (.sl 173 5 (List.map ZK append_0.cond)),.c (.sl 50 3 (List.map ZG append_0.thn))],.row 9 1 (List.map Zx v5) 2,.row 9 1 (List.map Zx v158) 2] st) [] [0,1,290] (by decide) ?_ ?_ ?_
        ·simp only [*,go_sem,seval]
        ·rintro i164 x165 ⟨⟩ ⟨sl,ob,n⟩ y83 hx84 hI85 hW86 h hy83
         simp only [go_sem,seval,Zc] at hI85
         obtain ⟨⟨g87_1,g87_3,g87_10,g87_11,g87_12⟩,og87_0,og87_1,og87_2,hn⟩:=hI85
         subst hn
         have hlhx84:=WF.rowL hW86 og87_2
         have q88:=ZA hx84
         have q89:=ZC hx84
         have q90:=Zj (ZB hx84) hlhx84
         try simp only [*,go_sem,seval]
         obtain ⟨v166,e91,h⟩:=Za h
         refine Zd (by have hh:=Yz e91;first|exact hh|(simp only [*,go_sem] at hh;exact hh)) ?_
         try simp only [*,go_sem,seval]
         refine Ze h (fun _ h=>?_) fun _ h=>?_<;>try simp only [*,go_sem,seval]
         ·refine ⟨_,[],[0,1,2],(Option.some.inj h).symm,by decide,?_⟩
          try simp only [*,go_sem,seval]
         ·replace h:=Zn h hy83
          replace h:=Zn h hy72
          cases h
          try simp only [*,go_sem,seval]
        ·rintro ⟨⟩ ⟨sl,ob,n⟩ hI93 hW94 h
         simp only [go_sem,seval,Zc] at hI93
         obtain ⟨⟨g95_1,g95_3,g95_10,g95_11,g95_12⟩,og95_0,og95_1,og95_2,hn⟩:=hI93
         subst hn
         have q96:=Zy (v158.length)
         try simp only [*,go_sem,seval]
         refine ⟨_,[],[0,1],(Option.some.inj h).symm,by decide,?_⟩
         try simp only [*,go_sem,seval]
       ·replace h:=Zn h hy72
        cases h
        try simp only [*,go_sem,seval]
      ·rintro ⟨⟩ ⟨sl,ob,n⟩ hI97 hW98 h
       simp only [go_sem,seval,Zc] at hI97
       obtain ⟨⟨g99_1,g99_3,g99_10⟩,og99_0,og99_1,hn⟩:=hI97
       subst hn
       have q100:=Zy (append_0.thn.length)
       try simp only [*,go_sem,seval]
       obtain ⟨v167,e101,h⟩:=Za h
       refine Zd (by have hh:=ZmN e101;first|exact hh|(simp only [*,go_sem] at hh;exact hh)) ?_
       cases h
       try simp only [*,go_sem,seval]
    ·cases h
     try simp only [*,go_sem,seval]
   ·cases h
    try simp only [*,go_sem,seval]
  ·cases h
   try simp only [*,go_sem,seval]
 ·cases h
  try simp only [*,go_sem,seval]
theorem Zer {l_0:(List Zg)} {r:Bool} (h:ZaL l_0=some r):Zk Tryz.prog J0 65 [(false,[.sl 42 4 (List.map ZF l_0)])] [(false,[(false,.bool r)])]:=by
 refine fnk Tryz.func65 (by kernel_rfl) rfl (by kernel_rfl) (by kernel_rfl) ?_
 unfold ZaL at h
 simp only [fnS,f65,Zm,go_sem,seval]
 refine Ze h (fun _ h=>?_) fun _ h=>?_<;>try simp only [*,go_sem,seval]
 cases h
 try simp only [*,go_sem,seval]
 refine Zi h (fun i _ st=>IV [(0,.p false [.c (.sl 42 4 (List.map ZF l_0))]),(8,.p false [.c (.sl 42 4 (List.map ZF l_0))]),(9,.p false [.c (.int .i64 ((l_0.length:Nat):Int))]),(10,.p false [.c (.int .i64 ((i:Nat):Int))])] [] st) [] [] (by decide) ?_ ?_ ?_
 simp only [*,go_sem,seval]
 rintro o q ⟨⟩ ⟨sl,ob,n⟩ t a b f h d
 simp only [go_sem,seval,Zc] at b
 obtain ⟨⟨g,u,v,w⟩,hn⟩:=b
 subst hn
 have k:=WF.slotL f g (j:=0) rfl
 have x:=ZA a
 have y:=ZC a
 have z:=Zj (ZB a) k
 try simp only [*,go_sem,seval]
 obtain ⟨A,l,h⟩:=Za h
 refine Zd (Zkv l) ?_
 try simp only [*,go_sem,seval]
 refine Ze h (fun _ h=>?_) fun _ h=>?_<;>try simp only [*,go_sem,seval]
 obtain ⟨B,m,h⟩:=Za h
 refine Zd (ZmU m) ?_
 try simp only [*,go_sem,seval]
 refine Ze h (fun _ h=>?_) fun _ h=>?_<;>try simp only [*,go_sem,seval]
 replace h:=Zn h d
 cases h
 try simp only [*,go_sem,seval]
 refine ⟨_,[],[],(Option.some.inj h).symm,by decide,?_⟩
 try simp only [*,go_sem,seval]
 replace h:=Zn h d
 cases h
 try simp only [*,go_sem,seval]
 rintro ⟨⟩ ⟨sl,ob,n⟩ e C h
 simp only [go_sem,seval,Zc] at e
 obtain ⟨⟨D,E,F,G⟩,hn⟩:=e
 subst hn
 have H:=Zy (l_0.length)
 cases h
 try simp only [*,go_sem,seval]
theorem Zmf {r_0:Zg} {r:Bool} (h:Zci r_0=some r):Zk Tryz.prog J0 152 [(true,ZF r_0)] [(false,[(false,.bool r)])]:=by
 refine fnk Tryz.func152 (by kernel_rfl) rfl (by kernel_rfl) (by kernel_rfl) ?_
 unfold Zci at h
 simp only [fnS,f152,Zm,go_sem,seval]
 obtain ⟨v1,e1,h⟩:=Za h
 refine Zd (by have hh:=Zkv e1;first|exact hh|(simp only [*,go_sem] at hh;exact hh)) ?_
 try simp only [*,go_sem,seval]
 refine Ze h (fun _ h=>?_) fun _ h=>?_<;>try simp only [*,go_sem,seval]
 ·obtain ⟨v2,e3,h⟩:=Za h
  refine Zd (by have hh:=Zm5 e3;first|exact hh|(simp only [*,go_sem] at hh;exact hh)) ?_
  try simp only [*,go_sem,seval]
  refine Ze h (fun _ h=>?_) fun _ h=>?_<;>try simp only [*,go_sem,seval]
  ·refine Zi h (fun i _ st=>IV [(1,.bp 0 0),(17,.p false [.c (.sl 173 5 (List.map ZK r_0.cond))]),(18,.p false [.c (.int .i64 ((r_0.cond.length:Nat):Int))]),(19,.p false [.c (.int .i64 ((i:Nat):Int))])] [.box 42 [.c (.str r_0.name),.c (.int .i64 r_0.priority),.c (.sl 173 5 (List.map ZK r_0.cond)),.c (.sl 50 3 (List.map ZG r_0.thn))]] st) [] [0] (by decide) ?_ ?_ ?_
   ·simp only [*,go_sem,seval]
   ·rintro i26 x27 ⟨⟩ ⟨sl,ob,n⟩ y5 hx6 hI7 hW8 h hy5
    simp only [go_sem,seval,Zc] at hI7
    obtain ⟨⟨g9_1,g9_17,g9_18,g9_19⟩,og9_0,hn⟩:=hI7
    subst hn
    have hlhx6:=WF.slotL hW8 g9_17 (j:=0) rfl
    have q10:=ZA hx6
    have q11:=ZC hx6
    have q12:=Zj (ZB hx6) hlhx6
    try simp only [*,go_sem,seval]
    refine Ze h (fun _ h=>?_) fun _ h=>?_<;>try simp only [*,go_sem,seval]
    ·refine ⟨_,[],[0],(Option.some.inj h).symm,by decide,?_⟩
     try simp only [*,go_sem,seval]
    ·obtain ⟨v28,e14,h⟩:=Za h
     refine Zd (by have hh:=ZdH e14;first|exact hh|(simp only [*,go_sem] at hh;exact hh)) ?_
     try simp only [*,go_sem,seval]
     obtain ⟨v29,e15,h⟩:=Za h
     refine Zd (by have hh:=Zb9 e15;first|exact hh|(simp only [*,go_sem] at hh;exact hh)) ?_
     try simp only [*,go_sem,seval]
     refine Zi h (fun i _ st=>IV [(1,.bp 0 0),(5,.p false [.row 1]),(17,.p false [.c (.sl 173 5 (List.map ZK r_0.cond))]),(18,.p false [.c (.int .i64 ((r_0.cond.length:Nat):Int))]),(19,.p false [.c (.int .i64 ((i26:Nat):Int))]),(31,.p false [.row 2]),(32,.p false [.c (.int .i64 ((v29.length:Nat):Int))]),(33,.p false [.c (.int .i64 ((i:Nat):Int))])] [.box 42 [.c (.str r_0.name),.c (.int .i64 r_0.priority),.c (.sl 173 5 (List.map ZK r_0.cond)),.c (.sl 50 3 (List.map ZG r_0.thn))],.row 9 1 (List.map Zx v28) 2,.row 9 1 (List.map Zx v29) 2] st) [] [0,193,241] (by decide) ?_ ?_ ?_
     ·simp only [*,go_sem,seval]
     ·rintro i35 x36 ⟨⟩ ⟨sl,ob,n⟩ y16 hx17 hI18 hW19 h hy16
      simp only [go_sem,seval,Zc] at hI18
      obtain ⟨⟨g20_1,g20_5,g20_17,g20_18,g20_19,g20_31,g20_32,g20_33⟩,og20_0,og20_1,og20_2,hn⟩:=hI18
      subst hn
      have hlhx17:=WF.rowL hW19 og20_2
      have q21:=ZA hx17
      have q22:=ZC hx17
      have q23:=Zj (ZB hx17) hlhx17
      try simp only [*,go_sem,seval]
      obtain ⟨v37,e24,h⟩:=Za h
      refine Zd (by have hh:=Zac e24;first|exact hh|(simp only [*,go_sem] at hh;exact hh)) ?_
      try simp only [*,go_sem,seval]
      refine Ze h (fun _ h=>?_) fun _ h=>?_<;>try simp only [*,go_sem,seval]
      ·refine ⟨_,[],[0,1,2],(Option.some.inj h).symm,by decide,?_⟩
       try simp only [*,go_sem,seval]
      ·replace h:=Zn h hy16
       replace h:=Zn h hy5
       cases h
       try simp only [*,go_sem,seval]
     ·rintro ⟨⟩ ⟨sl,ob,n⟩ hI26 hW27 h
      simp only [go_sem,seval,Zc] at hI26
      obtain ⟨⟨g28_1,g28_5,g28_17,g28_18,g28_19,g28_31,g28_32,g28_33⟩,og28_0,og28_1,og28_2,hn⟩:=hI26
      subst hn
      have q29:=Zy (v29.length)
      try simp only [*,go_sem,seval]
      refine ⟨_,[],[0],(Option.some.inj h).symm,by decide,?_⟩
      try simp only [*,go_sem,seval]
   ·rintro ⟨⟩ ⟨sl,ob,n⟩ hI30 hW31 h
    simp only [go_sem,seval,Zc] at hI30
    obtain ⟨⟨g32_1,g32_17,g32_18,g32_19⟩,og32_0,hn⟩:=hI30
    subst hn
    have q33:=Zy (r_0.cond.length)
    cases h
    try simp only [*,go_sem,seval]
  ·cases h
   try simp only [*,go_sem,seval]
 ·cases h
  try simp only [*,go_sem,seval]
theorem Zll {x_0:Zt} {b_1:(List Zs)} {facts_2:(List Zb)} {r:Bool} (h:ZcD x_0 b_1 facts_2=some r):Zk Tryz.prog J0 153 [(true,ZK x_0),(false,[.sl 166 2 (List.map Z4 b_1)]),(false,[.sl 45 2 (List.map Zl facts_2)])] [(false,[(false,.bool r)])]:=by
 refine fnk Tryz.func153 (by kernel_rfl) rfl (by kernel_rfl) (by kernel_rfl) ?_
 unfold ZcD at h
 simp only [fnS,f153,Zm,go_sem,seval]
 obtain ⟨f,a,h⟩:=Za h
 refine Zd (Zgc a) ?_
 try simp only [*,go_sem,seval]
 refine Ze h (fun _ h=>?_) fun _ h=>?_<;>try simp only [*,go_sem,seval]
 obtain ⟨g,b,h⟩:=Za h
 refine Zd (QO b) ?_
 try simp only [*,go_sem,seval]
 iterate 2 refine Ze h (fun _ h=>?_) fun _ h=>?_<;>try simp only [*,go_sem,seval]
 obtain ⟨i,c,h⟩:=Za h
 refine Zd (ZdD c) ?_
 cases h
 try simp only [*,go_sem,seval]
 refine Ze h (fun _ h=>?_) fun _ h=>?_<;>try simp only [*,go_sem,seval]
 obtain ⟨j,d,h⟩:=Za h
 refine Zd (ZdD d) ?_
 cases h
 try simp only [*,go_sem,seval]
 obtain ⟨k,e,h⟩:=Za h
 refine Zd (Zms e) ?_
 iterate 3 (cases h;try simp only [*,go_sem,seval])
theorem Zk7 {x_0:Zt} {b_1:(List Zs)} {r:Bool} (h:Zcj x_0 b_1=some r):Zk Tryz.prog J0 312 [(true,ZK x_0),(false,[.sl 166 2 (List.map Z4 b_1)])] [(false,[(false,.bool r)])]:=by
 refine fnk Tryz.func312 (by kernel_rfl) rfl (by kernel_rfl) (by kernel_rfl) ?_
 unfold Zcj at h
 simp only [fnS,f312,Zm,go_sem,seval]
 obtain ⟨i,a,h⟩:=Za h
 refine Zd (Zgo a) ?_
 try simp only [*,go_sem,seval]
 refine Ze h (fun _ h=>?_) fun _ h=>?_<;>try simp only [*,go_sem,seval]
 obtain ⟨j,b,h⟩:=Za h
 refine Zd (QX b) ?_
 try simp only [*,go_sem,seval]
 refine Ze h (fun _ h=>?_) fun _ h=>?_<;>try simp only [*,go_sem,seval]
 obtain ⟨k,c,h⟩:=Za h
 refine Zd (ZcO c) ?_
 try simp only [*,go_sem,seval]
 obtain ⟨l,d,h⟩:=Za h
 refine Zd (ZcO d) ?_
 try simp only [*,go_sem,seval]
 iterate 3 refine Ze h (fun _ h=>?_) fun _ h=>?_<;>try simp only [*,go_sem,seval]
 cases h
 try simp only [*,go_sem,seval]
 refine Ze h (fun _ h=>?_) fun _ h=>?_<;>try simp only [*,go_sem,seval]
 cases h
 try simp only [*,go_sem,seval]
 obtain ⟨m,e,h⟩:=Za h
 refine Zd (ZhK e) ?_
 try simp only [*,go_sem,seval]
 refine Ze h (fun _ h=>?_) fun _ h=>?_<;>try simp only [*,go_sem,seval]
 obtain ⟨o,f,h⟩:=Za h
 refine Zd (ZhK f) ?_
 try simp only [*,go_sem,seval]
 refine Ze h (fun _ h=>?_) fun _ h=>?_<;>try simp only [*,go_sem,seval]
 obtain ⟨p,g,h⟩:=Za h
 refine Zd (Zej g) ?_
 iterate 7 (cases h;try simp only [*,go_sem,seval])
theorem Zr1 {l_0:(List Zb)} {b_1:Zr} {r:(List Zb)} (h:Zjd l_0 b_1=some r):Zk Tryz.prog J0 64 [(false,[.sl 45 2 (List.map Zl l_0)]),(true,XY b_1)] [(false,[(false,.sl 45 2 (List.map Zl r))])]:=by
 refine fnk Tryz.func64 (by kernel_rfl) rfl (by kernel_rfl) (by kernel_rfl) ?_
 unfold Zjd at h
 simp only [fnS,f64,Zm,go_sem,seval]
 obtain ⟨f,g,h⟩:=Za h
 refine Zd (Znf g) ?_
 try simp only [*,go_sem,seval]
 refine Zi h (fun i a st=>IV [(0,.p false [.c (.sl 45 2 (List.map Zl l_0))]),(5,.p false [.row 0]),(6,.p false [.row 1]),(7,.p false [.c (.int .i64 ((i:Nat):Int))])] [.row 45 2 (List.map Zl a) 2,.row 4 1 (List.map ZfM f) 2] st) [] [32,80] (by decide) ?_ ?_ ?_
 simp only [*,go_sem,seval]
 rintro u v a ⟨sl,ob,n⟩ w b d k h l
 simp only [go_sem,seval,Zc] at d
 obtain ⟨⟨m,x,y,z⟩,A,B,hn⟩:=d
 subst hn
 have o:=WF.slotL k m (j:=0) rfl
 have C:=ZA b
 have D:=ZC b
 have E:=Zj (ZB b) o
 try simp only [*,go_sem,seval]
 refine Ze h (fun _ h=>?_) fun _ h=>?_<;>try simp only [*,go_sem,seval]
 obtain ⟨F,h⟩:=Zq h
 obtain ⟨G,H,h⟩:=Za h
 try simp only [*,go_sem,seval]
 refine Ze h (fun _ h=>?_) fun _ h=>?_<;>try simp only [*,go_sem,seval]
 obtain ⟨I,q,h⟩:=Za h
 refine Zd (Xa q) ?_
 obtain ⟨t,h⟩:=Zq h
 try simp only [Nat.reduceLeDiff] at t
 try simp only [*,go_sem,seval]
 refine ⟨_,[],[338,1],(Option.some.inj h).symm,by decide,?_⟩
 try simp only [*,go_sem,seval]
 refine ⟨_,[],[0,1],(Option.some.inj h).symm,by decide,?_⟩
 try simp only [*,go_sem,seval]
 replace h:=Zn h l
 cases h
 try simp only [*,go_sem,seval]
 rintro a ⟨sl,ob,n⟩ e J h
 simp only [go_sem,seval,Zc] at e
 obtain ⟨⟨K,L,M,N⟩,O,P,hn⟩:=e
 subst hn
 have Q:=Zy (l_0.length)
 cases h
 try simp only [*,go_sem,seval]
end Go.Proofs.YtfehfkfdfmcgfaaGreatDoor
