/- Texts of this proof, joined: Dp10, Dp11, Dp13, Dp14, Dp16, Dp17, Dp18, Dp19, Dp20, Dp21, Dp22, BStd, DE, Sz, To. What each holds is said at its theorems. -/
import Derived.Test.YtfehfkfdfmcgfaaGreatDoorFrameOfQ5
import Derived.Test.YtfehfkfdfmcgfaaGreatDoorFrameOfQ4
import Derived.Test.YtfehfkfdfmcgfaaGreatDoorFrameOfQ1
import Derived.Test.YtfehfkfdfmcgfaaGreatDoorProg
import Derived.Outline
import Derived.WalkSpells
import Derived.StillTailTactics
set_option linter.unusedSimpArgs false
set_option linter.unusedVariables false
namespace Go.Proofs.YtfehfkfdfmcgfaaGreatDoor
open Go.Proofs.Tryz
set_option linter.unusedSimpArgs false
set_option linter.unusedVariables false
set_option maxRecDepth 1000000
set_option maxHeartbeats 4000000
theorem Znd {l_0:(List Zb)} {r:Bool} (h:Zdv l_0=some r):Zk Tryz.prog J0 87 [(false,[.sl 45 2 (List.map Zl l_0)])] [(false,[(false,.bool r)])]:=by
 refine fnk Tryz.func87 (by kernel_rfl) rfl (by kernel_rfl) (by kernel_rfl) ?_
 unfold Zdv at h
 simp only [fnS,f87,Zm,go_sem,seval]
 refine Zi h (fun i _ st=>IV [(0,.p false [.c (.sl 45 2 (List.map Zl l_0))]),(3,.p false [.c (.int .i64 ((i:Nat):Int))])] [] st) [] [] (by decide) ?_ ?_ ?_
 simp only [*,go_sem,seval]
 rintro o q ⟨⟩ ⟨sl,ob,n⟩ t a b f h d
 simp only [go_sem,seval,Zc] at b
 obtain ⟨⟨g,u⟩,hn⟩:=b
 subst hn
 have k:=WF.slotL f g (j:=0) rfl
 have v:=ZA a
 have w:=ZC a
 have x:=Zj (ZB a) k
 try simp only [*,go_sem,seval]
 obtain ⟨y,l,h⟩:=Za h
 refine Zd (Zj9 l) ?_
 try simp only [*,go_sem,seval]
 iterate 2 refine Ze h (fun _ h=>?_) fun _ h=>?_<;>try simp only [*,go_sem,seval]
 obtain ⟨z,A,B,C,h⟩:=ZbQ h
 try simp only [*,go_sem,seval]
 obtain ⟨D,m,h⟩:=Za h
 refine Zd (Qv m) ?_
 try simp only [*,go_sem,seval]
 refine Ze h (fun _ h=>?_) fun _ h=>?_<;>try simp only [*,go_sem,seval]
 replace h:=Zn h d
 cases h
 try simp only [*,go_sem,seval]
 refine ⟨_,[],[],(Option.some.inj h).symm,by decide,?_⟩
 try simp only [*,go_sem,seval]
 refine ⟨_,[],[],(Option.some.inj h).symm,by decide,?_⟩
 try simp only [*,go_sem,seval]
 replace h:=Zn h d
 cases h
 try simp only [*,go_sem,seval]
 rintro ⟨⟩ ⟨sl,ob,n⟩ e E h
 simp only [go_sem,seval,Zc] at e
 obtain ⟨⟨F,G⟩,hn⟩:=e
 subst hn
 have H:=Zy (l_0.length)
 cases h
 try simp only [*,go_sem,seval]
theorem ZqF {b_0:(List Zs)} {v_1:ByteArray} {value_2:ByteArray} {r:((List Zs) × Bool)} (h:ZgN b_0 v_1 value_2=some r):Zk Tryz.prog J0 314 [(false,[.sl 166 2 (List.map Z4 b_0)]),(false,[.str v_1]),(false,[.str value_2])] [(false,[(false,.sl 166 2 (List.map Z4 r.1))]),(false,[(false,.bool r.2)])]:=by
 refine fnk Tryz.func314 (by kernel_rfl) rfl (by kernel_rfl) (by kernel_rfl) ?_
 unfold ZgN at h
 simp only [fnS,f314,Zm,go_sem,seval]
 obtain ⟨g,a,h⟩:=Za h
 refine Zd (QX a) ?_
 try simp only [*,go_sem,seval]
 refine Ze h (fun _ h=>?_) fun _ h=>?_<;>try simp only [*,go_sem,seval]
 obtain ⟨i,b,h⟩:=Za h
 refine Zd (Q3 b) ?_
 try simp only [*,go_sem,seval]
 refine Ze h (fun _ h=>?_) fun _ h=>?_<;>try simp only [*,go_sem,seval]
 obtain ⟨j,c,h⟩:=Za h
 refine Zd (X0 c) ?_
 try simp only [*,go_sem,seval]
 refine Ze h (fun _ h=>?_) fun _ h=>?_<;>try simp only [*,go_sem,seval]
 obtain ⟨k,d,h⟩:=Za h
 refine Zd (ZcO d) ?_
 try simp only [*,go_sem,seval]
 iterate 2 refine Ze h (fun _ h=>?_) fun _ h=>?_<;>try simp only [*,go_sem,seval]
 obtain ⟨l,e,h⟩:=Za h
 refine Zd (ZgL e) ?_
 iterate 2 (cases h;try simp only [*,go_sem,seval])
 refine Ze h (fun _ h=>?_) fun _ h=>?_<;>try simp only [*,go_sem,seval]
 cases h
 try simp only [*,go_sem,seval]
 obtain ⟨m,f,h⟩:=Za h
 refine Zd (ZsA f) ?_
 iterate 4 (cases h;try simp only [*,go_sem,seval])
end Go.Proofs.YtfehfkfdfmcgfaaGreatDoor
namespace Go.Proofs.YtfehfkfdfmcgfaaGreatDoor
open Go.Proofs.Tryz
set_option linter.unusedSimpArgs false
set_option linter.unusedVariables false
set_option maxRecDepth 1000000
set_option maxHeartbeats 4000000
theorem Zem {x_0:Zt} {r:Bool} (h:Zcn x_0=some r):Zk Tryz.prog J0 220 [(true,ZK x_0)] [(false,[(false,.bool r)])]:=by
 refine fnk Tryz.func220 (by kernel_rfl) rfl (by kernel_rfl) (by kernel_rfl) ?_
 unfold Zcn at h
 have a:Z9 ⟨#[]⟩=true:=by decide
 simp only [fnS,f220,Zm,go_sem,seval,a]
 refine Ze h (fun _ h=>?_) fun _ h=>?_<;>try simp only [*,go_sem,seval]
 obtain ⟨k,b,h⟩:=Za h
 refine Zd (Xi b) ?_
 try simp only [*,go_sem,seval]
 iterate 2 refine Ze h (fun _ h=>?_) fun _ h=>?_<;>try simp only [*,go_sem,seval]
 iterate 3 (cases h;try simp only [*,go_sem,seval])
 refine Ze h (fun _ h=>?_) fun _ h=>?_<;>try simp only [*,go_sem,seval]
 obtain ⟨l,c,h⟩:=Za h
 refine Zd (Xi c) ?_
 try simp only [*,go_sem,seval]
 iterate 2 refine Ze h (fun _ h=>?_) fun _ h=>?_<;>try simp only [*,go_sem,seval]
 iterate 3 (cases h;try simp only [*,go_sem,seval])
 iterate 3 refine Ze h (fun _ h=>?_) fun _ h=>?_<;>try simp only [*,go_sem,seval]
 obtain ⟨m,d,h⟩:=Za h
 refine Zd (QY d) ?_
 try simp only [*,go_sem,seval]
 refine Ze h (fun _ h=>?_) fun _ h=>?_<;>try simp only [*,go_sem,seval]
 obtain ⟨o,e,h⟩:=Za h
 refine Zd (QY e) ?_
 iterate 4 (cases h;try simp only [*,go_sem,seval])
 iterate 3 refine Ze h (fun _ h=>?_) fun _ h=>?_<;>try simp only [*,go_sem,seval]
 obtain ⟨p,f,h⟩:=Za h
 refine Zd (QY f) ?_
 try simp only [*,go_sem,seval]
 refine Ze h (fun _ h=>?_) fun _ h=>?_<;>try simp only [*,go_sem,seval]
 obtain ⟨q,g,h⟩:=Za h
 refine Zd (QY g) ?_
 iterate 4 (cases h;try simp only [*,go_sem,seval])
 iterate 3 refine Ze h (fun _ h=>?_) fun _ h=>?_<;>try simp only [*,go_sem,seval]
 obtain ⟨t,i,h⟩:=Za h
 refine Zd (QY i) ?_
 try simp only [*,go_sem,seval]
 refine Ze h (fun _ h=>?_) fun _ h=>?_<;>try simp only [*,go_sem,seval]
 obtain ⟨u,j,h⟩:=Za h
 refine Zd (QY j) ?_
 iterate 5 (cases h;try simp only [*,go_sem,seval])
theorem Ze4 {r_0:Zg} {i_1:Int} {v_2:ByteArray} {r:Bool} (h:XK r_0 i_1 v_2=some r):Zk Tryz.prog J0 224 [(true,ZF r_0),(false,[.int .i64 i_1]),(false,[.str v_2])] [(false,[(false,.bool r)])]:=by
 refine fnk Tryz.func224 (by kernel_rfl) rfl (by kernel_rfl) (by kernel_rfl) ?_
 unfold XK at h
 simp only [fnS,f224,Zm,go_sem,seval]
 refine Zi h (fun i _ st=>IV [(1,.p false [.c (.int .i64 i_1)]),(2,.p false [.c (.str v_2)]),(3,.bp 0 0),(7,.p false [.c (.int .i64 ((i:Nat):Int))])] [.box 42 [.c (.str r_0.name),.c (.int .i64 r_0.priority),.c (.sl 173 5 (List.map ZK r_0.cond)),.c (.sl 50 3 (List.map ZG r_0.thn))]] st) [] [0] (by decide) ?_ ?_ ?_
 simp only [*,go_sem,seval]
 rintro A B ⟨⟩ ⟨sl,ob,n⟩ C a d k h l
 simp only [go_sem,seval,Zc] at d
 obtain ⟨⟨D,E,F,G⟩,m,hn⟩:=d
 subst hn
 have o:=WF.boxL k m (j:=2) rfl
 have H:=ZA a
 have I:=ZC a
 have J:=Zj (ZB a) o
 try simp only [*,go_sem,seval]
 refine Ze h (fun _ h=>?_) fun _ h=>?_<;>try simp only [*,go_sem,seval]
 obtain ⟨K,q,h⟩:=Za h
 refine Zd (Zas q) ?_
 try simp only [*,go_sem,seval]
 obtain ⟨L,t,h⟩:=Za h
 refine Zd (Yz t) ?_
 try simp only [*,go_sem,seval]
 refine Ze h (fun _ h=>?_) fun _ h=>?_<;>try simp only [*,go_sem,seval]
 replace h:=Zn h l
 cases h
 try simp only [*,go_sem,seval]
 refine ⟨_,[],[0],(Option.some.inj h).symm,by decide,?_⟩
 try simp only [*,go_sem,seval]
 refine ⟨_,[],[0],(Option.some.inj h).symm,by decide,?_⟩
 try simp only [*,go_sem,seval]
 rintro ⟨⟩ ⟨sl,ob,n⟩ e M h
 simp only [go_sem,seval,Zc] at e
 obtain ⟨⟨N,O,P,Q⟩,R,hn⟩:=e
 subst hn
 have S:=Zy (r_0.cond.length)
 try simp only [*,go_sem,seval]
 refine Zi h (fun i _ st=>IV [(2,.p false [.c (.str v_2)]),(3,.bp 0 0),(8,.p false [.c (.int .i64 ((i:Nat):Int))])] [.box 42 [.c (.str r_0.name),.c (.int .i64 r_0.priority),.c (.sl 173 5 (List.map ZK r_0.cond)),.c (.sl 50 3 (List.map ZG r_0.thn))]] st) [] [0] (by decide) ?_ ?_ ?_
 simp only [*,go_sem,seval]
 rintro T U ⟨⟩ ⟨sl,ob,n⟩ V b f u h v
 simp only [go_sem,seval,Zc] at f
 obtain ⟨⟨W,X,Y⟩,w,hn⟩:=f
 subst hn
 have x:=WF.boxL u w (j:=3) rfl
 have Z:=ZA b
 have aa:=ZC b
 have ab:=Zj (ZB b) x
 try simp only [*,go_sem,seval]
 obtain ⟨ac,y,h⟩:=Za h
 refine Zd (Zcw y) ?_
 try simp only [*,go_sem,seval]
 obtain ⟨ad,z,h⟩:=Za h
 refine Zd (Yz z) ?_
 try simp only [*,go_sem,seval]
 refine Ze h (fun _ h=>?_) fun _ h=>?_<;>try simp only [*,go_sem,seval]
 replace h:=Zn h v
 cases h
 try simp only [*,go_sem,seval]
 refine ⟨_,[],[0],(Option.some.inj h).symm,by decide,?_⟩
 try simp only [*,go_sem,seval]
 rintro ⟨⟩ ⟨sl,ob,n⟩ g ae h
 simp only [go_sem,seval,Zc] at g
 obtain ⟨⟨af,ag,ah⟩,ai,hn⟩:=g
 subst hn
 have aj:=Zy (r_0.thn.length)
 cases h
 try simp only [*,go_sem,seval]
theorem Znb {a_0:Zz} {r:Bool} (h:Zdd a_0=some r):Zk Tryz.prog J0 225 [(true,ZG a_0)] [(false,[(false,.bool r)])]:=by
 refine fnk Tryz.func225 (by kernel_rfl) rfl (by kernel_rfl) (by kernel_rfl) ?_
 unfold Zdd at h
 have a:Z9 ⟨#[]⟩=true:=by decide
 simp only [fnS,f225,Zm,go_sem,seval,a]
 refine Ze h (fun _ h=>?_) fun _ h=>?_<;>try simp only [*,go_sem,seval]
 obtain ⟨d,b,h⟩:=Za h
 refine Zd (Xi b) ?_
 cases h
 try simp only [*,go_sem,seval]
 refine Ze h (fun _ h=>?_) fun _ h=>?_<;>try simp only [*,go_sem,seval]
 obtain ⟨e,c,h⟩:=Za h
 refine Zd (Xi c) ?_
 cases h
 try simp only [*,go_sem,seval]
 iterate 2 refine Ze h (fun _ h=>?_) fun _ h=>?_<;>try simp only [*,go_sem,seval]
 iterate 3 (cases h;try simp only [*,go_sem,seval])
theorem ZmN {r_0:Zg} {r:(List ByteArray)} (h:ZdB r_0=some r):Zk Tryz.prog J0 227 [(true,ZF r_0)] [(false,[(false,.sl 9 1 (List.map Zx r))])]:=by
 refine fnk Tryz.func227 (by kernel_rfl) rfl (by kernel_rfl) (by kernel_rfl) ?_
 unfold ZdB at h
 simp only [fnS,f227,Zm,go_sem,seval]
 refine Zi h (fun i row_12 st=>IV [(1,.bp 0 0),(3,.p false [.row 1]),(4,.p false [.c (.int .i64 ((i:Nat):Int))])] [.box 42 [.c (.str r_0.name),.c (.int .i64 r_0.priority),.c (.sl 173 5 (List.map ZK r_0.cond)),.c (.sl 50 3 (List.map ZG r_0.thn))],.row 9 1 (List.map Zx row_12) 2] st) [] [0,32] (by decide) ?_ ?_ ?_
 ·simp only [*,go_sem,seval]
 ·rintro i61 x62 row_12 ⟨sl,ob,n⟩ y1 hx2 hI3 hW4 h hy1
  simp only [go_sem,seval,Zc] at hI3
  obtain ⟨⟨g5_1,g5_3,g5_4⟩,og5_0,og5_1,hn⟩:=hI3
  subst hn
  have hlhx2:=WF.boxL hW4 og5_0 (j:=2) rfl
  have q6:=ZA hx2
  have q7:=ZC hx2
  have q8:=Zj (ZB hx2) hlhx2
  try simp only [*,go_sem,seval]
  obtain ⟨v63,e9,h⟩:=Za h
  refine Zd (by have hh:=Zas e9;first|exact hh|(simp only [*,go_sem] at hh;exact hh)) ?_
  try simp only [*,go_sem,seval]
  refine Zi h (fun i row_66 st=>IV [(1,.bp 0 0),(3,.p false [.row 1]),(4,.p false [.c (.int .i64 ((i61:Nat):Int))]),(5,.p false [.row 2]),(6,.p false [.c (.int .i64 ((i:Nat):Int))])] [.box 42 [.c (.str r_0.name),.c (.int .i64 r_0.priority),.c (.sl 173 5 (List.map ZK r_0.cond)),.c (.sl 50 3 (List.map ZG r_0.thn))],.row 9 1 (List.map Zx row_66) 2,.row 9 1 (List.map Zx v63) 2] st) [] [0,1,162] (by decide) ?_ ?_ ?_
  ·simp only [*,go_sem,seval]
  ·rintro i70 x71 row_66 ⟨sl,ob,n⟩ y10 hx11 hI12 hW13 h hy10
   simp only [go_sem,seval,Zc] at hI12
   obtain ⟨⟨g14_1,g14_3,g14_4,g14_5,g14_6⟩,og14_0,og14_1,og14_2,hn⟩:=hI12
   subst hn
   have hlhx11:=WF.rowL hW13 og14_2
   have q15:=ZA hx11
   have q16:=ZC hx11
   have q17:=Zj (ZB hx11) hlhx11
   try simp only [*,go_sem,seval]
   obtain ⟨v72,e18,h⟩:=Za h
   refine Zd (by have hh:=Xg e18;first|exact hh|(simp only [*,go_sem] at hh;exact hh)) ?_
   try simp only [*,go_sem,seval]
   refine ⟨_,[],[0,147,2],(Option.some.inj h).symm,by decide,?_⟩
   try simp only [*,go_sem,seval]
  ·rintro row_66 ⟨sl,ob,n⟩ hI19 hW20 h
   simp only [go_sem,seval,Zc] at hI19
   obtain ⟨⟨g21_1,g21_3,g21_4,g21_5,g21_6⟩,og21_0,og21_1,og21_2,hn⟩:=hI19
   subst hn
   have q22:=Zy (v63.length)
   try simp only [*,go_sem,seval]
   refine ⟨_,[],[0,1],(Option.some.inj h).symm,by decide,?_⟩
   try simp only [*,go_sem,seval]
 ·rintro row_12 ⟨sl,ob,n⟩ hI23 hW24 h
  simp only [go_sem,seval,Zc] at hI23
  obtain ⟨⟨g25_1,g25_3,g25_4⟩,og25_0,og25_1,hn⟩:=hI23
  subst hn
  have q26:=Zy (r_0.cond.length)
  try simp only [*,go_sem,seval]
  refine Zi h (fun i row_84 st=>IV [(1,.bp 0 0),(3,.p false [.row 1]),(7,.p false [.c (.int .i64 ((i:Nat):Int))])] [.box 42 [.c (.str r_0.name),.c (.int .i64 r_0.priority),.c (.sl 173 5 (List.map ZK r_0.cond)),.c (.sl 50 3 (List.map ZG r_0.thn))],.row 9 1 (List.map Zx row_84) 2] st) [] [0,1] (by decide) ?_ ?_ ?_
  ·simp only [*,go_sem,seval]
  ·rintro i97 x98 row_84 ⟨sl,ob,n⟩ y27 hx28 hI29 hW30 h hy27
   simp only [go_sem,seval,Zc] at hI29
   obtain ⟨⟨g31_1,g31_3,g31_7⟩,og31_0,og31_1,hn⟩:=hI29
   subst hn
   have hlhx28:=WF.boxL hW30 og31_0 (j:=3) rfl
   have q32:=ZA hx28
   have q33:=ZC hx28
   have q34:=Zj (ZB hx28) hlhx28
   try simp only [*,go_sem,seval]
   obtain ⟨v99,e35,h⟩:=Za h
   refine Zd (by have hh:=Zcw e35;first|exact hh|(simp only [*,go_sem] at hh;exact hh)) ?_
   try simp only [*,go_sem,seval]
   refine Zi h (fun i row_102 st=>IV [(1,.bp 0 0),(3,.p false [.row 1]),(7,.p false [.c (.int .i64 ((i97:Nat):Int))]),(8,.p false [.row 2]),(9,.p false [.c (.int .i64 ((i:Nat):Int))])] [.box 42 [.c (.str r_0.name),.c (.int .i64 r_0.priority),.c (.sl 173 5 (List.map ZK r_0.cond)),.c (.sl 50 3 (List.map ZG r_0.thn))],.row 9 1 (List.map Zx row_102) 2,.row 9 1 (List.map Zx v99) 2] st) [] [0,1,178] (by decide) ?_ ?_ ?_
   ·simp only [*,go_sem,seval]
   ·rintro i106 x107 row_102 ⟨sl,ob,n⟩ y36 hx37 hI38 hW39 h hy36
    simp only [go_sem,seval,Zc] at hI38
    obtain ⟨⟨g40_1,g40_3,g40_7,g40_8,g40_9⟩,og40_0,og40_1,og40_2,hn⟩:=hI38
    subst hn
    have hlhx37:=WF.rowL hW39 og40_2
    have q41:=ZA hx37
    have q42:=ZC hx37
    have q43:=Zj (ZB hx37) hlhx37
    try simp only [*,go_sem,seval]
    obtain ⟨v108,e44,h⟩:=Za h
    refine Zd (by have hh:=Xg e44;first|exact hh|(simp only [*,go_sem] at hh;exact hh)) ?_
    try simp only [*,go_sem,seval]
    refine ⟨_,[],[0,147,2],(Option.some.inj h).symm,by decide,?_⟩
    try simp only [*,go_sem,seval]
   ·rintro row_102 ⟨sl,ob,n⟩ hI45 hW46 h
    simp only [go_sem,seval,Zc] at hI45
    obtain ⟨⟨g47_1,g47_3,g47_7,g47_8,g47_9⟩,og47_0,og47_1,og47_2,hn⟩:=hI45
    subst hn
    have q48:=Zy (v99.length)
    try simp only [*,go_sem,seval]
    refine ⟨_,[],[0,1],(Option.some.inj h).symm,by decide,?_⟩
    try simp only [*,go_sem,seval]
  ·rintro row_84 ⟨sl,ob,n⟩ hI49 hW50 h
   simp only [go_sem,seval,Zc] at hI49
   obtain ⟨⟨g51_1,g51_3,g51_7⟩,og51_0,og51_1,hn⟩:=hI49
   subst hn
   have q52:=Zy (r_0.thn.length)
   cases h
   try simp only [*,go_sem,seval]
theorem ZhQ {r_0:Zg} {k_1:Int} {r:Bool} (h:ZbT r_0 k_1=some r):Zk Tryz.prog J0 197 [(true,ZF r_0),(false,[.int .i64 k_1])] [(false,[(false,.bool r)])]:=by
 refine fnk Tryz.func197 (by kernel_rfl) rfl (by kernel_rfl) (by kernel_rfl) ?_
 unfold ZbT at h
 simp only [fnS,f197,Zm,go_sem,seval]
 obtain ⟨a,v,w,x,h⟩:=ZbQ h
 try simp only [*,go_sem,seval]
 obtain ⟨j,k,h⟩:=Za h
 refine Zd (ZdH k) ?_
 try simp only [*,go_sem,seval]
 obtain ⟨b,l,h⟩:=Za h
 refine Zd (Zb9 l) ?_
 try simp only [*,go_sem,seval]
 refine Zi h (fun i _ st=>IV [(1,.p false [.c (.int .i64 k_1)]),(2,.bp 0 0),(5,.bp 1 0),(6,.p false [.row 2]),(18,.p false [.row 3]),(19,.p false [.c (.int .i64 ((b.length:Nat):Int))]),(20,.p false [.c (.int .i64 ((i:Nat):Int))])] [.box 42 [.c (.str r_0.name),.c (.int .i64 r_0.priority),.c (.sl 173 5 (List.map ZK r_0.cond)),.c (.sl 50 3 (List.map ZG r_0.thn))],.box 173 [.c (.int .i64 a.kind),.c (.str a.pattern.rel),.c (.sl 9 1 (List.map Zx a.pattern.args)),.c (.str a.left),.c (.str a.right)],.row 9 1 (List.map Zx j) 2,.row 9 1 (List.map Zx b) 2] st) [] [0,112,176,224] (by decide) ?_ ?_ ?_
 simp only [*,go_sem,seval]
 rintro y z ⟨⟩ ⟨sl,ob,n⟩ A d e m h f
 simp only [go_sem,seval,Zc] at e
 obtain ⟨⟨B,C,D,E,F,G,H⟩,I,J,K,o,hn⟩:=e
 subst hn
 have q:=WF.rowL m o
 have L:=ZA d
 have M:=ZC d
 have N:=Zj (ZB d) q
 try simp only [*,go_sem,seval]
 refine Ze h (fun _ h=>?_) fun _ h=>?_<;>try simp only [*,go_sem,seval]
 refine ⟨_,[],[0,1,2,3],(Option.some.inj h).symm,by decide,?_⟩
 try simp only [*,go_sem,seval]
 obtain ⟨O,t,h⟩:=Za h
 refine Zd (Zac t) ?_
 try simp only [*,go_sem,seval]
 refine Ze h (fun _ h=>?_) fun _ h=>?_<;>try simp only [*,go_sem,seval]
 refine ⟨_,[],[0,1,2,3],(Option.some.inj h).symm,by decide,?_⟩
 try simp only [*,go_sem,seval]
 refine Ze h (fun _ h=>?_) fun _ h=>?_<;>try simp only [*,go_sem,seval]
 replace h:=Zn h f
 cases h
 try simp only [*,go_sem,seval]
 obtain ⟨P,u,h⟩:=Za h
 refine Zd (Zgm u) ?_
 try simp only [*,go_sem,seval]
 refine Ze h (fun _ h=>?_) fun _ h=>?_<;>try simp only [*,go_sem,seval]
 replace h:=Zn h f
 cases h
 try simp only [*,go_sem,seval]
 refine ⟨_,[],[0,1,2,3],(Option.some.inj h).symm,by decide,?_⟩
 try simp only [*,go_sem,seval]
 rintro ⟨⟩ ⟨sl,ob,n⟩ g Q h
 simp only [go_sem,seval,Zc] at g
 obtain ⟨⟨R,S,T,U,V,W,X⟩,Y,Z,aa,ab,hn⟩:=g
 subst hn
 have ac:=Zy (b.length)
 cases h
 try simp only [*,go_sem,seval]
theorem ZdD {p_0:Zv} {b_1:(List Zs)} {facts_2:(List Zb)} {r:(List Zb)} (h:Xt p_0 b_1 facts_2=some r):Zk Tryz.prog J0 213 [(true,QA p_0),(false,[.sl 166 2 (List.map Z4 b_1)]),(false,[.sl 45 2 (List.map Zl facts_2)])] [(false,[(false,.sl 45 2 (List.map Zl r))])]:=by
 refine fnk Tryz.func213 (by kernel_rfl) rfl (by kernel_rfl) (by kernel_rfl) ?_
 unfold Xt at h
 simp only [fnS,f213,Zm,go_sem,seval]
 refine Zi h (fun i a st=>IV [(1,.p false [.c (.sl 166 2 (List.map Z4 b_1))]),(3,.bp 0 0),(7,.p false [.row 1]),(12,.p false [.c (.sl 45 2 (List.map Zl facts_2))]),(13,.p false [.c (.int .i64 ((facts_2.length:Nat):Int))]),(14,.p false [.c (.int .i64 ((i:Nat):Int))])] [.box 48 [.c (.str p_0.rel),.c (.sl 9 1 (List.map Zx p_0.args))],.row 45 2 (List.map Zl a) 2] st) [(false,7,0)] [0,96] (by decide) ?_ ?_ ?_
 simp only [*,go_sem,seval]
 rintro q t a ⟨sl,ob,n⟩ u b d f h v
 simp only [go_sem,seval,Zc] at d
 obtain ⟨⟨w,x,y,g,z,A⟩,B,C,hn⟩:=d
 subst hn
 have k:=WF.slotL f g (j:=0) rfl
 have D:=ZA b
 have E:=ZC b
 have F:=Zj (ZB b) k
 try simp only [*,go_sem,seval]
 obtain ⟨G,l,h⟩:=Za h
 refine Zd (ZgE l) ?_
 try simp only [*,go_sem,seval]
 refine Ze h (fun _ h=>?_) fun _ h=>?_<;>try simp only [*,go_sem,seval]
 obtain ⟨H,m,h⟩:=Za h
 refine Zd (YO m) ?_
 obtain ⟨o,h⟩:=Zq h
 try simp only [Nat.reduceLeDiff] at o
 try simp only [*,go_sem,seval]
 refine ⟨_,[],[0,306],(Option.some.inj h).symm,by decide,?_⟩
 try simp only [*,go_sem,seval]
 refine ⟨_,[],[0,1],(Option.some.inj h).symm,by decide,?_⟩
 try simp only [*,go_sem,seval]
 rintro a ⟨sl,ob,n⟩ e I h
 simp only [go_sem,seval,Zc] at e
 obtain ⟨⟨J,K,L,M,N,O⟩,P,Q,hn⟩:=e
 subst hn
 have R:=Zy (facts_2.length)
 cases h
 try simp only [*,go_sem,seval]
theorem Zrq {x_0:Zt} {r:Bool} (h:Zi1 x_0=some r):Zk Tryz.prog J0 269 [(true,ZK x_0)] [(false,[(false,.bool r)])]:=by
 refine fnk Tryz.func269 (by kernel_rfl) rfl (by kernel_rfl) (by kernel_rfl) ?_
 unfold Zi1 at h
 simp only [fnS,f269,Zm,go_sem,seval]
 obtain ⟨b,a,h⟩:=Za h
 refine Zd (Zgc a) ?_
 try simp only [*,go_sem,seval]
 refine Ze h (fun _ h=>?_) fun _ h=>?_<;>try simp only [*,go_sem,seval]
 iterate 2 (cases h;try simp only [*,go_sem,seval])
theorem Zb8 {p_0:Zv} {b_1:(List Zs)} {r:(Zb × Bool)} (h:Yy p_0 b_1=some r):Zk Tryz.prog J0 20 [(true,QA p_0),(false,[.sl 166 2 (List.map Z4 b_1)])] [(true,[(false,.str r.1.rel),(false,.sl 9 1 (List.map Zx r.1.args))]),(false,[(false,.bool r.2)])]:=by
 refine fnk Tryz.func20 (by kernel_rfl) rfl (by kernel_rfl) (by kernel_rfl) ?_
 unfold Yy at h
 simp only [fnS,f20,Zm,go_sem,seval]
 obtain ⟨u,f,h⟩:=Za h
 refine Zd (Xi f) ?_
 try simp only [*,go_sem,seval]
 refine Ze h (fun _ h=>?_) fun _ h=>?_<;>try simp only [*,go_sem,seval]
 obtain ⟨v,g,h⟩:=Za h
 refine Zd (QX g) ?_
 try simp only [*,go_sem,seval]
 refine Ze h (fun _ h=>?_) fun _ h=>?_<;>try simp only [*,go_sem,seval]
 refine Zi h (fun i a st=>IV [(1,.p false [.c (.sl 166 2 (List.map Z4 b_1))]),(2,.bp 0 0),(4,.bp 1 0),(6,.bp 2 0),(7,.p false [.c (.int .i64 ((i:Nat):Int))])] [.box 48 [.c (.str p_0.rel),.c (.sl 9 1 (List.map Zx p_0.args))],.box 45 [.c (.str ⟨#[]⟩),.nil 9 1],.box 45 [.c (.str p_0.rel),.row 3],.row 9 1 (List.map Zx a) 2] st) [(true,224,1)] [0,16,224,272] (by decide) ?_ ?_ ?_
 simp only [*,go_sem,seval]
 rintro w x a ⟨sl,ob,n⟩ y b d k h l
 simp only [go_sem,seval,Zc] at d
 obtain ⟨⟨z,A,B,C,D⟩,m,E,F,G,hn⟩:=d
 subst hn
 have o:=WF.boxL k m (j:=1) rfl
 have H:=ZA b
 have I:=ZC b
 have J:=Zj (ZB b) o
 try simp only [*,go_sem,seval]
 obtain ⟨K,q,h⟩:=Za h
 refine Zd (ZcO q) ?_
 try simp only [*,go_sem,seval]
 refine Ze h (fun _ h=>?_) fun _ h=>?_<;>try simp only [*,go_sem,seval]
 obtain ⟨t,h⟩:=Zq h
 try simp only [Nat.reduceLeDiff] at t
 try simp only [*,go_sem,seval]
 refine ⟨_,[],[0,1,2,372],(Option.some.inj h).symm,by decide,?_⟩
 try simp only [*,go_sem,seval]
 replace h:=Zn h l
 cases h
 try simp only [*,go_sem,seval]
 rintro a ⟨sl,ob,n⟩ e L h
 simp only [go_sem,seval,Zc] at e
 obtain ⟨⟨M,N,O,P,Q⟩,R,S,T,U,hn⟩:=e
 subst hn
 have V:=Zy (p_0.args.length)
 iterate 3 (cases h;try simp only [*,go_sem,seval])
theorem Zf2 {append_0:Zv} {String_1:Zb} {a_2:(List Zs)} {r:((List Zs) × Bool)} (h:Za3 append_0 String_1 a_2=some r):Zk Tryz.prog J0 280 [(true,QA append_0),(true,Zl String_1),(false,[.sl 166 2 (List.map Z4 a_2)])] [(false,[(false,.sl 166 2 (List.map Z4 r.1))]),(false,[(false,.bool r.2)])]:=by
 refine fnk Tryz.func280 (by kernel_rfl) rfl (by kernel_rfl) (by kernel_rfl) ?_
 unfold Za3 at h
 simp only [fnS,f280,Zm,go_sem,seval]
 obtain ⟨y,g,h⟩:=Za h
 refine Zd (Xi g) ?_
 try simp only [*,go_sem,seval]
 refine Ze h (fun _ h=>?_) fun _ h=>?_<;>try simp only [*,go_sem,seval]
 obtain ⟨z,k,h⟩:=Za h
 refine Zd (Zj9 k) ?_
 try simp only [*,go_sem,seval]
 refine Ze h (fun _ h=>?_) fun _ h=>?_<;>try simp only [*,go_sem,seval]
 obtain ⟨A,l,h⟩:=Za h
 refine Zd (QX l) ?_
 try simp only [*,go_sem,seval]
 iterate 3 refine Ze h (fun _ h=>?_) fun _ h=>?_<;>try simp only [*,go_sem,seval]
 cases h
 try simp only [*,go_sem,seval]
 obtain ⟨B,m,h⟩:=Za h
 refine Zd (ZgL m) ?_
 try simp only [*,go_sem,seval]
 refine Zi h (fun i a st=>IV [(3,.bp 0 0),(4,.bp 1 0),(8,.p false [.row 2]),(9,.p false [.c (.int .i64 ((i:Nat):Int))])] [.box 48 [.c (.str append_0.rel),.c (.sl 9 1 (List.map Zx append_0.args))],.box 45 [.c (.str String_1.rel),.c (.sl 9 1 (List.map Zx String_1.args))],.row 166 2 (List.map Z4 a) 2] st) [] [0,16,544] (by decide) ?_ ?_ ?_
 simp only [*,go_sem,seval]
 rintro C D a ⟨sl,ob,n⟩ E b d o h e
 simp only [go_sem,seval,Zc] at d
 obtain ⟨⟨F,G,H,I⟩,q,J,K,hn⟩:=d
 subst hn
 have t:=WF.boxL o q (j:=1) rfl
 have L:=ZA b
 have M:=ZC b
 have N:=Zj (ZB b) t
 try simp only [*,go_sem,seval]
 obtain ⟨O,u,h⟩:=Za h
 refine Zd (X0 u) ?_
 try simp only [*,go_sem,seval]
 refine Ze h (fun _ h=>?_) fun _ h=>?_<;>try simp only [*,go_sem,seval]
 obtain ⟨P,Q,R,v,h⟩:=ZbQ h
 simp only [Int.toNat_natCast] at v
 try simp only [*,go_sem,seval]
 refine Ze h (fun _ h=>?_) fun _ h=>?_<;>try simp only [*,go_sem,seval]
 refine ⟨_,[],[0,1,2],(Option.some.inj h).symm,by decide,?_⟩
 try simp only [*,go_sem,seval]
 replace h:=Zn h e
 cases h
 try simp only [*,go_sem,seval]
 obtain ⟨S,T,U,w,h⟩:=ZbQ h
 simp only [Int.toNat_natCast] at w
 try simp only [*,go_sem,seval]
 obtain ⟨V,x,h⟩:=Za h
 refine Zd (ZqF x) ?_
 try simp only [*,go_sem,seval]
 refine Ze h (fun _ h=>?_) fun _ h=>?_<;>try simp only [*,go_sem,seval]
 refine ⟨_,[],[0,1,355],(Option.some.inj h).symm,by decide,?_⟩
 try simp only [*,go_sem,seval]
 replace h:=Zn h e
 cases h
 try simp only [*,go_sem,seval]
 rintro a ⟨sl,ob,n⟩ f W h
 simp only [go_sem,seval,Zc] at f
 obtain ⟨⟨X,Y,Z,aa⟩,ab,ac,ad,hn⟩:=f
 subst hn
 have ae:=Zy (append_0.args.length)
 iterate 5 (cases h;try simp only [*,go_sem,seval])
end Go.Proofs.YtfehfkfdfmcgfaaGreatDoor
namespace Go.Proofs.YtfehfkfdfmcgfaaGreatDoor
open Go.Proofs.Tryz
set_option linter.unusedSimpArgs false
set_option linter.unusedVariables false
set_option maxRecDepth 1000000
set_option maxHeartbeats 4000000
theorem Zgo {x_0:Zt} {r:Bool} (h:Zbf x_0=some r):Zk Tryz.prog J0 223 [(true,ZK x_0)] [(false,[(false,.bool r)])]:=by
 refine fnk Tryz.func223 (by kernel_rfl) rfl (by kernel_rfl) (by kernel_rfl) ?_
 unfold Zbf at h
 simp only [fnS,f223,Zm,go_sem,seval]
 obtain ⟨b,a,h⟩:=Za h
 refine Zd (Zem a) ?_
 try simp only [*,go_sem,seval]
 refine Ze h (fun _ h=>?_) fun _ h=>?_<;>try simp only [*,go_sem,seval]
 iterate 2 (cases h;try simp only [*,go_sem,seval])
theorem Zkv {append_0:Zg} {r:Bool} (h:Zfe append_0=some r):Zk Tryz.prog J0 132 [(true,ZF append_0)] [(false,[(false,.bool r)])]:=by
 refine fnk Tryz.func132 (by kernel_rfl) rfl (by kernel_rfl) (by kernel_rfl) ?_
 unfold Zfe at h
 simp only [fnS,f132,Zm,go_sem,seval]
 obtain ⟨v1,e1,h⟩:=Za h
 refine Zd (by have hh:=Zgl e1;first|exact hh|(simp only [*,go_sem] at hh;exact hh)) ?_
 try simp only [*,go_sem,seval]
 refine Ze h (fun _ h=>?_) fun _ h=>?_<;>try simp only [*,go_sem,seval]
 ·refine Ze h (fun _ h=>?_) fun _ h=>?_<;>try simp only [*,go_sem,seval]
  ·cases h
   try simp only [*,go_sem,seval]
  ·refine Ze h (fun _ h=>?_) fun _ h=>?_<;>try simp only [*,go_sem,seval]
   ·cases h
    try simp only [*,go_sem,seval]
   ·refine Ze h (fun _ h=>?_) fun _ h=>?_<;>try simp only [*,go_sem,seval]
    ·cases h
     try simp only [*,go_sem,seval]
    ·refine Ze h (fun _ h=>?_) fun _ h=>?_<;>try simp only [*,go_sem,seval]
     ·cases h
      try simp only [*,go_sem,seval]
     ·refine Ze h (fun _ h=>?_) fun _ h=>?_<;>try simp only [*,go_sem,seval]
      ·cases h
       try simp only [*,go_sem,seval]
      ·refine Ze h (fun _ h=>?_) fun _ h=>?_<;>try simp only [*,go_sem,seval]
       ·cases h
        try simp only [*,go_sem,seval]
       ·refine Zi h (fun i _ st=>IV [(1,.bp 0 0),(49,.p false [.c (.sl 173 5 (List.map ZK append_0.cond))]),(50,.p false [.c (.int .i64 ((append_0.cond.length:Nat):Int))]),(51,.p false [.c (.int .i64 ((i:Nat):Int))])] [.box 42 [.c (.str append_0.name),.c (.int .i64 append_0.priority),.c (.sl 173 5 (List.map ZK append_0.cond)),.c (.sl 50 3 (List.map ZG append_0.thn))]] st) [] [0] (by decide) ?_ ?_ ?_
        ·simp only [*,go_sem,seval]
        ·rintro i50 x51 ⟨⟩ ⟨sl,ob,n⟩ y9 hx10 hI11 hW12 h hy9
         simp only [go_sem,seval,Zc] at hI11
         obtain ⟨⟨g13_1,g13_49,g13_50,g13_51⟩,og13_0,hn⟩:=hI11
         subst hn
         have hlhx10:=WF.slotL hW12 g13_49 (j:=0) rfl
         have q14:=ZA hx10
         have q15:=ZC hx10
         have q16:=Zj (ZB hx10) hlhx10
         try simp only [*,go_sem,seval]
         obtain ⟨v52,e17,h⟩:=Za h
         refine Zd (by have hh:=Zgc e17;first|exact hh|(simp only [*,go_sem] at hh;exact hh)) ?_
         try simp only [*,go_sem,seval]
         refine Ze h (fun _ h=>?_) fun _ h=>?_<;>try simp only [*,go_sem,seval]
         ·refine Ze h (fun _ h=>?_) fun _ h=>?_<;>try simp only [*,go_sem,seval]
          ·refine Ze h (fun _ h=>?_) fun _ h=>?_<;>try simp only [*,go_sem,seval]
           ·replace h:=Zn h hy9
            cases h
            try simp only [*,go_sem,seval]
           ·obtain ⟨v53,e21,h⟩:=Za h
            refine Zd (by have hh:=ZhQ e21;first|exact hh|(simp only [*,go_sem] at hh;exact hh)) ?_
            try simp only [*,go_sem,seval]
            refine Ze h (fun _ h=>?_) fun _ h=>?_<;>try simp only [*,go_sem,seval]
            ·refine ⟨_,[],[0],(Option.some.inj h).symm,by decide,?_⟩
             try simp only [*,go_sem,seval]
            ·replace h:=Zn h hy9
             cases h
             try simp only [*,go_sem,seval]
          ·obtain ⟨v54,e23,h⟩:=Za h
           refine Zd (by have hh:=ZhQ e23;first|exact hh|(simp only [*,go_sem] at hh;exact hh)) ?_
           try simp only [*,go_sem,seval]
           refine Ze h (fun _ h=>?_) fun _ h=>?_<;>try simp only [*,go_sem,seval]
           ·refine ⟨_,[],[0],(Option.some.inj h).symm,by decide,?_⟩
            try simp only [*,go_sem,seval]
           ·replace h:=Zn h hy9
            cases h
            try simp only [*,go_sem,seval]
         ·replace h:=Zn h hy9
          cases h
          try simp only [*,go_sem,seval]
        ·rintro ⟨⟩ ⟨sl,ob,n⟩ hI25 hW26 h
         simp only [go_sem,seval,Zc] at hI25
         obtain ⟨⟨g27_1,g27_49,g27_50,g27_51⟩,og27_0,hn⟩:=hI25
         subst hn
         have q28:=Zy (append_0.cond.length)
         try simp only [*,go_sem,seval]
         obtain ⟨v55,e29,h⟩:=Za h
         refine Zd (by have hh:=ZdH e29;first|exact hh|(simp only [*,go_sem] at hh;exact hh)) ?_
         try simp only [*,go_sem,seval]
         refine Zi h (fun i _ st=>IV [(1,.bp 0 0),(5,.p false [.row 1]),(81,.p false [.c (.sl 50 3 (List.map ZG append_0.thn))]),(82,.p false [.c (.int .i64 ((append_0.thn.length:Nat):Int))]),(83,.p false [.c (.int .i64 ((i:Nat):Int))])] [.box 42 [.c (.str append_0.name),.c (.int .i64 append_0.priority),.c (.sl 173 5 (List.map ZK append_0.cond)),.c (.sl 50 3 (List.map ZG append_0.thn))],.row 9 1 (List.map Zx v55) 2] st) [] [0,81] (by decide) ?_ ?_ ?_
         ·simp only [*,go_sem,seval]
         ·rintro i81 x82 ⟨⟩ ⟨sl,ob,n⟩ y30 hx31 hI32 hW33 h hy30
          simp only [go_sem,seval,Zc] at hI32
          obtain ⟨⟨g34_1,g34_5,g34_81,g34_82,g34_83⟩,og34_0,og34_1,hn⟩:=hI32
          subst hn
          have hlhx31:=WF.slotL hW33 g34_81 (j:=0) rfl
          have q35:=ZA hx31
          have q36:=ZC hx31
          have q37:=Zj (ZB hx31) hlhx31
          try simp only [*,go_sem,seval]
          obtain ⟨v83,e38,h⟩:=Za h
          refine Zd (by have hh:=ZmO e38;first|exact hh|(simp only [*,go_sem] at hh;exact hh)) ?_
          try simp only [*,go_sem,seval]
          refine Ze h (fun _ h=>?_) fun _ h=>?_<;>try simp only [*,go_sem,seval]
          ·obtain ⟨v84,e40,h⟩:=Za h
           refine Zd (by have hh:=ZdX e40;first|exact hh|(simp only [*,go_sem] at hh;exact hh)) ?_
           try simp only [*,go_sem,seval]
           refine Zi h (fun i _ st=>IV [(1,.bp 0 0),(5,.p false [.row 1]),(81,.p false [.c (.sl 50 3 (List.map ZG append_0.thn))]),(82,.p false [.c (.int .i64 ((append_0.thn.length:Nat):Int))]),(83,.p false [.c (.int .i64 ((i81:Nat):Int))]),(93,.p false [.row 2]),(94,.p false [.c (.int .i64 ((v84.length:Nat):Int))]),(95,.p false [.c (.int .i64 ((i:Nat):Int))])] [.box 42 [.c (.str append_0.name),.c (.int .i64 append_0.priority),.c (.sl 173 5 (List.map ZK append_0.cond)),.c (.sl 50 3 (List.map ZG append_0.thn))],.row 9 1 (List.map Zx v55) 2,.row 9 1 (List.map Zx v84) 2] st) [] [0,1,178] (by decide) ?_ ?_ ?_
           ·simp only [*,go_sem,seval]
           ·rintro i90 x91 ⟨⟩ ⟨sl,ob,n⟩ y41 hx42 hI43 hW44 h hy41
            simp only [go_sem,seval,Zc] at hI43
            obtain ⟨⟨g45_1,g45_5,g45_81,g45_82,g45_83,g45_93,g45_94,g45_95⟩,og45_0,og45_1,og45_2,hn⟩:=hI43
            subst hn
            have hlhx42:=WF.rowL hW44 og45_2
            have q46:=ZA hx42
            have q47:=ZC hx42
            have q48:=Zj (ZB hx42) hlhx42
            try simp only [*,go_sem,seval]
            obtain ⟨v92,e49,h⟩:=Za h
            refine Zd (by have hh:=Zac e49;first|exact hh|(simp only [*,go_sem] at hh;exact hh)) ?_
            try simp only [*,go_sem,seval]
            refine Ze h (fun _ h=>?_) fun _ h=>?_<;>try simp only [*,go_sem,seval]
            ·refine ⟨_,[],[0,1,2],(Option.some.inj h).symm,by decide,?_⟩
             try simp only [*,go_sem,seval]
            ·replace h:=Zn h hy41
             replace h:=Zn h hy30
             cases h
             try simp only [*,go_sem,seval]
           ·rintro ⟨⟩ ⟨sl,ob,n⟩ hI51 hW52 h
            simp only [go_sem,seval,Zc] at hI51
            obtain ⟨⟨g53_1,g53_5,g53_81,g53_82,g53_83,g53_93,g53_94,g53_95⟩,og53_0,og53_1,og53_2,hn⟩:=hI51
            subst hn
            have q54:=Zy (v84.length)
            try simp only [*,go_sem,seval]
            refine ⟨_,[],[0,1],(Option.some.inj h).symm,by decide,?_⟩
            try simp only [*,go_sem,seval]
          ·replace h:=Zn h hy30
           cases h
           try simp only [*,go_sem,seval]
         ·rintro ⟨⟩ ⟨sl,ob,n⟩ hI55 hW56 h
          simp only [go_sem,seval,Zc] at hI55
          obtain ⟨⟨g57_1,g57_5,g57_81,g57_82,g57_83⟩,og57_0,og57_1,hn⟩:=hI55
          subst hn
          have q58:=Zy (append_0.thn.length)
          try simp only [*,go_sem,seval]
          obtain ⟨v93,e59,h⟩:=Za h
          refine Zd (by have hh:=ZkH e59;first|exact hh|(simp only [*,go_sem] at hh;exact hh)) ?_
          try simp only [*,go_sem,seval]
          obtain ⟨v94,e60,h⟩:=Za h
          refine Zd (by have hh:=XX e60;first|exact hh|(simp only [*,go_sem] at hh;exact hh)) ?_
          cases h
          try simp only [*,go_sem,seval]
 ·cases h
  try simp only [*,go_sem,seval]
theorem Zms {append_0:Zt} {String_1:(List Zs)} {r:Bool} (h:Zcs append_0 String_1=some r):Zk Tryz.prog J0 214 [(true,ZK append_0),(false,[.sl 166 2 (List.map Z4 String_1)])] [(false,[(false,.bool r)])]:=by
 refine fnk Tryz.func214 (by kernel_rfl) rfl (by kernel_rfl) (by kernel_rfl) ?_
 unfold Zcs at h
 simp only [fnS,f214,Zm,go_sem,seval]
 obtain ⟨g,a,h⟩:=Za h
 refine Zd (Zrq a) ?_
 try simp only [*,go_sem,seval]
 refine Ze h (fun _ h=>?_) fun _ h=>?_<;>try simp only [*,go_sem,seval]
 obtain ⟨i,b,h⟩:=Za h
 refine Zd (QO b) ?_
 try simp only [*,go_sem,seval]
 refine Ze h (fun _ h=>?_) fun _ h=>?_<;>try simp only [*,go_sem,seval]
 obtain ⟨j,c,h⟩:=Za h
 refine Zd (ZcR c) ?_
 try simp only [*,go_sem,seval]
 obtain ⟨k,d,h⟩:=Za h
 refine Zd (ZcR d) ?_
 try simp only [*,go_sem,seval]
 iterate 3 refine Ze h (fun _ h=>?_) fun _ h=>?_<;>try simp only [*,go_sem,seval]
 cases h
 try simp only [*,go_sem,seval]
 refine Ze h (fun _ h=>?_) fun _ h=>?_<;>try simp only [*,go_sem,seval]
 cases h
 try simp only [*,go_sem,seval]
 obtain ⟨l,e,h⟩:=Za h
 refine Zd (Zcf e) ?_
 try simp only [*,go_sem,seval]
 obtain ⟨m,f,h⟩:=Za h
 refine Zd (Zcf f) ?_
 try simp only [*,go_sem,seval]
 iterate 2 refine Ze h (fun _ h=>?_) fun _ h=>?_<;>try simp only [*,go_sem,seval]
 iterate 7 (cases h;try simp only [*,go_sem,seval])
theorem ZdS {p_0:Zv} {b_1:(List Zs)} {facts_2:(List Zb)} {r:(List Zb)} (h:Xs p_0 b_1 facts_2=some r):Zk Tryz.prog J0 311 [(true,QA p_0),(false,[.sl 166 2 (List.map Z4 b_1)]),(false,[.sl 45 2 (List.map Zl facts_2)])] [(false,[(false,.sl 45 2 (List.map Zl r))])]:=by
 refine fnk Tryz.func311 (by kernel_rfl) rfl (by kernel_rfl) (by kernel_rfl) ?_
 unfold Xs at h
 simp only [fnS,f311,Zm,go_sem,seval]
 refine Zi h (fun i a st=>IV [(1,.p false [.c (.sl 166 2 (List.map Z4 b_1))]),(2,.p false [.c (.sl 45 2 (List.map Zl facts_2))]),(3,.bp 0 0),(7,.p false [.row 1]),(8,.p false [.c (.int .i64 ((i:Nat):Int))])] [.box 48 [.c (.str p_0.rel),.c (.sl 9 1 (List.map Zx p_0.args))],.row 45 2 (List.map Zl a) 2] st) [] [0,32] (by decide) ?_ ?_ ?_
 simp only [*,go_sem,seval]
 rintro q t a ⟨sl,ob,n⟩ u b d f h v
 simp only [go_sem,seval,Zc] at d
 obtain ⟨⟨w,g,x,y,z⟩,A,B,hn⟩:=d
 subst hn
 have k:=WF.slotL f g (j:=0) rfl
 have C:=ZA b
 have D:=ZC b
 have E:=Zj (ZB b) k
 try simp only [*,go_sem,seval]
 obtain ⟨F,l,h⟩:=Za h
 refine Zd (Zf2 l) ?_
 try simp only [*,go_sem,seval]
 refine Ze h (fun _ h=>?_) fun _ h=>?_<;>try simp only [*,go_sem,seval]
 obtain ⟨G,m,h⟩:=Za h
 refine Zd (Xa m) ?_
 obtain ⟨o,h⟩:=Zq h
 try simp only [Nat.reduceLeDiff] at o
 try simp only [*,go_sem,seval]
 refine ⟨_,[],[0,386],(Option.some.inj h).symm,by decide,?_⟩
 try simp only [*,go_sem,seval]
 refine ⟨_,[],[0,1],(Option.some.inj h).symm,by decide,?_⟩
 try simp only [*,go_sem,seval]
 rintro a ⟨sl,ob,n⟩ e H h
 simp only [go_sem,seval,Zc] at e
 obtain ⟨⟨I,J,K,L,M⟩,N,O,hn⟩:=e
 subst hn
 have P:=Zy (facts_2.length)
 cases h
 try simp only [*,go_sem,seval]
theorem ZkZ {append_0:Zg} {String_1:Int} {a_2:Zu} {a_3:(List Zb)} {r:Zf} (h:ZaS append_0 String_1 a_2 a_3=some r):Zk Tryz.prog J0 192 [(true,ZF append_0),(false,[.int .i64 String_1]),(true,YK a_2),(false,[.sl 45 2 (List.map Zl a_3)])] [(true,[(false,.int .i64 r.for_),(false,.sl 3 1 (List.map ZI r.inn)),(false,.sl 3 1 (List.map ZI r.outs))])]:=by
 refine fnk Tryz.func192 (by kernel_rfl) rfl (by kernel_rfl) (by kernel_rfl) ?_
 unfold ZaS at h
 simp only [fnS,f192,Zm,go_sem,seval]
 obtain ⟨w,x,y,z,h⟩:=ZbQ h
 try simp only [*,go_sem,seval]
 obtain ⟨d,g,h⟩:=Za h
 refine Zd (Zb8 g) ?_
 try simp only [*,go_sem,seval]
 refine Zi h (fun i a st=>IV [(3,.p false [.c (.sl 45 2 (List.map Zl a_3))]),(4,.bp 0 0),(6,.bp 1 0),(8,.bp 2 0),(9,.bp 3 0),(11,.p false [.row 5]),(12,.p false [.c (.int .i64 ((i:Nat):Int))])] [.box 42 [.c (.str append_0.name),.c (.int .i64 append_0.priority),.c (.sl 173 5 (List.map ZK append_0.cond)),.c (.sl 50 3 (List.map ZG append_0.thn))],.box 120 [.c (.sl 45 2 (List.map Zl a_2.facts)),.c (.sl 166 2 (List.map Z4 a_2.binding))],.box 199 [.c (.int .i64 0),.nil 3 1,.nil 3 1],.box 45 [.c (.str d.1.rel),.row 4],.row 9 1 (List.map Zx d.1.args) 2,.row 45 2 (List.map Zl a) 2] st) [] [0,16,32,240,176,288] (by decide) ?_ ?_ ?_
 simp only [*,go_sem,seval]
 rintro A B a ⟨sl,ob,n⟩ C b e k h D
 simp only [go_sem,seval,Zc] at e
 obtain ⟨⟨E,F,G,H,I,J,K⟩,l,L,M,N,O,P,hn⟩:=e
 subst hn
 have m:=WF.boxL k l (j:=2) rfl
 have Q:=ZA b
 have R:=ZC b
 have S:=Zj (ZB b) m
 try simp only [*,go_sem,seval]
 refine Ze h (fun _ h=>?_) fun _ h=>?_<;>try simp only [*,go_sem,seval]
 obtain ⟨T,o,h⟩:=Za h
 refine Zd (Zb8 o) ?_
 obtain ⟨q,h⟩:=Zq h
 try simp only [Nat.reduceLeDiff] at q
 try simp only [*,go_sem,seval]
 refine ⟨_,[],[0,1,2,3,4,486],(Option.some.inj h).symm,by decide,?_⟩
 try simp only [*,go_sem,seval]
 refine ⟨_,[],[0,1,2,3,4,5],(Option.some.inj h).symm,by decide,?_⟩
 try simp only [*,go_sem,seval]
 rintro a ⟨sl,ob,n⟩ f U h
 simp only [go_sem,seval,Zc] at f
 obtain ⟨⟨V,W,X,Y,Z,aa,ab⟩,ac,ad,ae,af,ag,ah,hn⟩:=f
 subst hn
 have ai:=Zy (append_0.cond.length)
 try simp only [*,go_sem,seval]
 obtain ⟨aj,t,h⟩:=Za h
 refine Zd (Zb0 t) ?_
 try simp only [*,go_sem,seval]
 obtain ⟨ak,u,h⟩:=Za h
 refine Zd (ZhF u) ?_
 try simp only [*,go_sem,seval]
 obtain ⟨al,v,h⟩:=Za h
 refine Zd (ZhF v) ?_
 cases h
 try simp only [*,go_sem,seval]
end Go.Proofs.YtfehfkfdfmcgfaaGreatDoor
namespace Go.Proofs.YtfehfkfdfmcgfaaGreatDoor
open Go.Proofs.Tryz
set_option linter.unusedSimpArgs false
set_option linter.unusedVariables false
set_option maxRecDepth 1000000
set_option maxHeartbeats 4000000
theorem ZgS {append_0:Zg} {r:Bool} (h:Zcu append_0=some r):Zk Tryz.prog J0 158 [(true,ZF append_0)] [(false,[(false,.bool r)])]:=by
 refine fnk Tryz.func158 (by kernel_rfl) rfl (by kernel_rfl) (by kernel_rfl) ?_
 unfold Zcu at h
 simp only [fnS,f158,Zm,go_sem,seval]
 obtain ⟨v1,e1,h⟩:=Za h
 refine Zd (by have hh:=ZgV e1;first|exact hh|(simp only [*,go_sem] at hh;exact hh)) ?_
 try simp only [*,go_sem,seval]
 refine Ze h (fun _ h=>?_) fun _ h=>?_<;>try simp only [*,go_sem,seval]
 ·obtain ⟨v2,e3,h⟩:=Za h
  refine Zd (by have hh:=XU e3;first|exact hh|(simp only [*,go_sem] at hh;exact hh)) ?_
  try simp only [*,go_sem,seval]
  refine Ze h (fun _ h=>?_) fun _ h=>?_<;>try simp only [*,go_sem,seval]
  ·obtain ⟨v3,e5,h⟩:=Za h
   refine Zd (by have hh:=XU e5;first|exact hh|(simp only [*,go_sem] at hh;exact hh)) ?_
   try simp only [*,go_sem,seval]
   refine Ze h (fun _ h=>?_) fun _ h=>?_<;>try simp only [*,go_sem,seval]
   ·obtain ⟨v4,e7,h⟩:=Za h
    refine Zd (by have hh:=XU e7;first|exact hh|(simp only [*,go_sem] at hh;exact hh)) ?_
    try simp only [*,go_sem,seval]
    refine Ze h (fun _ h=>?_) fun _ h=>?_<;>try simp only [*,go_sem,seval]
    ·obtain ⟨v5,e9,h⟩:=Za h
     refine Zd (by have hh:=Zbq e9;first|exact hh|(simp only [*,go_sem] at hh;exact hh)) ?_
     try simp only [*,go_sem,seval]
     refine Zi h (fun i _ st=>IV [(1,.bp 0 0),(3,.p false [.row 1]),(4,.p false [.c (.int .i64 ((i:Nat):Int))])] [.box 42 [.c (.str append_0.name),.c (.int .i64 append_0.priority),.c (.sl 173 5 (List.map ZK append_0.cond)),.c (.sl 50 3 (List.map ZG append_0.thn))],.row 9 1 (List.map Zx v5) 2] st) [] [0,480] (by decide) ?_ ?_ ?_
     ·simp only [*,go_sem,seval]
     ·rintro i96 x97 ⟨⟩ ⟨sl,ob,n⟩ y10 hx11 hI12 hW13 h hy10
      simp only [go_sem,seval,Zc] at hI12
      obtain ⟨⟨g14_1,g14_3,g14_4⟩,og14_0,og14_1,hn⟩:=hI12
      subst hn
      have hlhx11:=WF.boxL hW13 og14_0 (j:=2) rfl
      have q15:=ZA hx11
      have q16:=ZC hx11
      have q17:=Zj (ZB hx11) hlhx11
      try simp only [*,go_sem,seval]
      obtain ⟨v98,e18,h⟩:=Za h
      refine Zd (by have hh:=Zem e18;first|exact hh|(simp only [*,go_sem] at hh;exact hh)) ?_
      try simp only [*,go_sem,seval]
      refine Ze h (fun _ h=>?_) fun _ h=>?_<;>try simp only [*,go_sem,seval]
      ·refine Ze h (fun _ h=>?_) fun _ h=>?_<;>try simp only [*,go_sem,seval]
       ·refine Ze h (fun _ h=>?_) fun _ h=>?_<;>try simp only [*,go_sem,seval]
        ·replace h:=Zn h hy10
         cases h
         try simp only [*,go_sem,seval]
        ·obtain ⟨v99,e22,h⟩:=Za h
         refine Zd (by have hh:=Zbq e22;first|exact hh|(simp only [*,go_sem] at hh;exact hh)) ?_
         try simp only [*,go_sem,seval]
         obtain ⟨v100,e23,h⟩:=Za h
         refine Zd (by have hh:=Zas e23;first|exact hh|(simp only [*,go_sem] at hh;exact hh)) ?_
         try simp only [*,go_sem,seval]
         refine Zi h (fun i _ st=>IV [(1,.bp 0 0),(3,.p false [.row 1]),(4,.p false [.c (.int .i64 ((i96:Nat):Int))]),(5,.bp 2 0),(6,.p false [.row 3]),(7,.p false [.row 4]),(8,.p false [.c (.int .i64 ((i:Nat):Int))]),(58,.p false [.c (.int .i64 ((i96:Nat):Int))]),(59,.p false [.c (.bool (((i96:Nat):Int)==0))]),(60,.p false [.c (.bool (((i96:Nat):Int)==0))]),(61,.bp 2 0),(62,.p false [.c (.int .i64 x97.kind)]),(63,.p false [.c (.bool (x97.kind != 1))]),(64,.p false [.c (.bool (x97.kind != 1))])] [.box 42 [.c (.str append_0.name),.c (.int .i64 append_0.priority),.c (.sl 173 5 (List.map ZK append_0.cond)),.c (.sl 50 3 (List.map ZG append_0.thn))],.row 9 1 (List.map Zx v5) 2,.box 173 [.c (.int .i64 x97.kind),.c (.str x97.pattern.rel),.c (.sl 9 1 (List.map Zx x97.pattern.args)),.c (.str x97.left),.c (.str x97.right)],.row 9 1 (List.map Zx v99) 2,.row 9 1 (List.map Zx v100) 2] st) [] [0,1,162,418,466] (by decide) ?_ ?_ ?_
         ·simp only [*,go_sem,seval]
         ·rintro i110 x111 ⟨⟩ ⟨sl,ob,n⟩ y24 hx25 hI26 hW27 h hy24
          simp only [go_sem,seval,Zc] at hI26
          obtain ⟨⟨g28_1,g28_3,g28_4,g28_5,g28_6,g28_7,g28_8,g28_58,g28_59,g28_60,g28_61,g28_62,g28_63,g28_64⟩,og28_0,og28_1,og28_2,og28_3,og28_4,hn⟩:=hI26
          subst hn
          have hlhx25:=WF.rowL hW27 og28_4
          have q29:=ZA hx25
          have q30:=ZC hx25
          have q31:=Zj (ZB hx25) hlhx25
          try simp only [*,go_sem,seval]
          obtain ⟨v112,e32,h⟩:=Za h
          refine Zd (by have hh:=Yz e32;first|exact hh|(simp only [*,go_sem] at hh;exact hh)) ?_
          try simp only [*,go_sem,seval]
          obtain ⟨v113,e33,h⟩:=Za h
          refine Zd (by have hh:=Zgo e33;first|exact hh|(simp only [*,go_sem] at hh;exact hh)) ?_
          try simp only [*,go_sem,seval]
          refine Ze h (fun _ h=>?_) fun _ h=>?_<;>try simp only [*,go_sem,seval]
          ·refine Ze h (fun _ h=>?_) fun _ h=>?_<;>try simp only [*,go_sem,seval]
           ·refine Ze h (fun _ h=>?_) fun _ h=>?_<;>try simp only [*,go_sem,seval]
            ·refine ⟨_,[],[0,1,2,3,4],(Option.some.inj h).symm,by decide,?_⟩
             try simp only [*,go_sem,seval]
            ·refine ⟨_,[],[0,1,2,3,4],(Option.some.inj h).symm,by decide,?_⟩
             try simp only [*,go_sem,seval]
           ·replace h:=Zn h hy24
            replace h:=Zn h hy10
            cases h
            try simp only [*,go_sem,seval]
          ·refine Ze h (fun _ h=>?_) fun _ h=>?_<;>try simp only [*,go_sem,seval]
           ·refine Ze h (fun _ h=>?_) fun _ h=>?_<;>try simp only [*,go_sem,seval]
            ·refine ⟨_,[],[0,1,2,3,4],(Option.some.inj h).symm,by decide,?_⟩
             try simp only [*,go_sem,seval]
            ·obtain ⟨v114,e39,h⟩:=Za h
             refine Zd (by have hh:=Ze4 e39;first|exact hh|(simp only [*,go_sem] at hh;exact hh)) ?_
             try simp only [*,go_sem,seval]
             refine Ze h (fun _ h=>?_) fun _ h=>?_<;>try simp only [*,go_sem,seval]
             ·replace h:=Zn h hy24
              replace h:=Zn h hy10
              cases h
              try simp only [*,go_sem,seval]
             ·refine ⟨_,[],[0,1,2,3,4],(Option.some.inj h).symm,by decide,?_⟩
              try simp only [*,go_sem,seval]
           ·refine ⟨_,[],[0,1,2,3,4],(Option.some.inj h).symm,by decide,?_⟩
            try simp only [*,go_sem,seval]
         ·rintro ⟨⟩ ⟨sl,ob,n⟩ hI41 hW42 h
          simp only [go_sem,seval,Zc] at hI41
          obtain ⟨⟨g43_1,g43_3,g43_4,g43_5,g43_6,g43_7,g43_8,g43_58,g43_59,g43_60,g43_61,g43_62,g43_63,g43_64⟩,og43_0,og43_1,og43_2,og43_3,og43_4,hn⟩:=hI41
          subst hn
          have q44:=Zy (v100.length)
          try simp only [*,go_sem,seval]
          refine ⟨_,[],[0,1],(Option.some.inj h).symm,by decide,?_⟩
          try simp only [*,go_sem,seval]
       ·obtain ⟨v115,e45,h⟩:=Za h
        refine Zd (by have hh:=Zbq e45;first|exact hh|(simp only [*,go_sem] at hh;exact hh)) ?_
        try simp only [*,go_sem,seval]
        obtain ⟨v116,e46,h⟩:=Za h
        refine Zd (by have hh:=Zas e46;first|exact hh|(simp only [*,go_sem] at hh;exact hh)) ?_
        try simp only [*,go_sem,seval]
        refine Zi h (fun i _ st=>IV [(1,.bp 0 0),(3,.p false [.row 1]),(4,.p false [.c (.int .i64 ((i96:Nat):Int))]),(5,.bp 2 0),(6,.p false [.row 3]),(7,.p false [.row 4]),(8,.p false [.c (.int .i64 ((i:Nat):Int))]),(58,.p false [.c (.int .i64 ((i96:Nat):Int))]),(59,.p false [.c (.bool (((i96:Nat):Int)==0))]),(60,.p false [.c (.bool (((i96:Nat):Int)==0))]),(64,.p false [.c (.bool false)])] [.box 42 [.c (.str append_0.name),.c (.int .i64 append_0.priority),.c (.sl 173 5 (List.map ZK append_0.cond)),.c (.sl 50 3 (List.map ZG append_0.thn))],.row 9 1 (List.map Zx v5) 2,.box 173 [.c (.int .i64 x97.kind),.c (.str x97.pattern.rel),.c (.sl 9 1 (List.map Zx x97.pattern.args)),.c (.str x97.left),.c (.str x97.right)],.row 9 1 (List.map Zx v115) 2,.row 9 1 (List.map Zx v116) 2] st) [] [0,1,162,418,466] (by decide) ?_ ?_ ?_
        ·simp only [*,go_sem,seval]
        ·rintro i126 x127 ⟨⟩ ⟨sl,ob,n⟩ y47 hx48 hI49 hW50 h hy47
         simp only [go_sem,seval,Zc] at hI49
         obtain ⟨⟨g51_1,g51_3,g51_4,g51_5,g51_6,g51_7,g51_8,g51_58,g51_59,g51_60,g51_64⟩,og51_0,og51_1,og51_2,og51_3,og51_4,hn⟩:=hI49
         subst hn
         have hlhx48:=WF.rowL hW50 og51_4
         have q52:=ZA hx48
         have q53:=ZC hx48
         have q54:=Zj (ZB hx48) hlhx48
         try simp only [*,go_sem,seval]
         obtain ⟨v128,e55,h⟩:=Za h
         refine Zd (by have hh:=Yz e55;first|exact hh|(simp only [*,go_sem] at hh;exact hh)) ?_
         try simp only [*,go_sem,seval]
         obtain ⟨v129,e56,h⟩:=Za h
         refine Zd (by have hh:=Zgo e56;first|exact hh|(simp only [*,go_sem] at hh;exact hh)) ?_
         try simp only [*,go_sem,seval]
         refine Ze h (fun _ h=>?_) fun _ h=>?_<;>try simp only [*,go_sem,seval]
         ·refine Ze h (fun _ h=>?_) fun _ h=>?_<;>try simp only [*,go_sem,seval]
          ·refine Ze h (fun _ h=>?_) fun _ h=>?_<;>try simp only [*,go_sem,seval]
           ·refine ⟨_,[],[0,1,2,3,4],(Option.some.inj h).symm,by decide,?_⟩
            try simp only [*,go_sem,seval]
           ·refine ⟨_,[],[0,1,2,3,4],(Option.some.inj h).symm,by decide,?_⟩
            try simp only [*,go_sem,seval]
          ·replace h:=Zn h hy47
           replace h:=Zn h hy10
           cases h
           try simp only [*,go_sem,seval]
         ·refine Ze h (fun _ h=>?_) fun _ h=>?_<;>try simp only [*,go_sem,seval]
          ·refine Ze h (fun _ h=>?_) fun _ h=>?_<;>try simp only [*,go_sem,seval]
           ·refine ⟨_,[],[0,1,2,3,4],(Option.some.inj h).symm,by decide,?_⟩
            try simp only [*,go_sem,seval]
           ·obtain ⟨v130,e62,h⟩:=Za h
            refine Zd (by have hh:=Ze4 e62;first|exact hh|(simp only [*,go_sem] at hh;exact hh)) ?_
            try simp only [*,go_sem,seval]
            refine Ze h (fun _ h=>?_) fun _ h=>?_<;>try simp only [*,go_sem,seval]
            ·replace h:=Zn h hy47
             replace h:=Zn h hy10
             cases h
             try simp only [*,go_sem,seval]
            ·refine ⟨_,[],[0,1,2,3,4],(Option.some.inj h).symm,by decide,?_⟩
             try simp only [*,go_sem,seval]
          ·refine ⟨_,[],[0,1,2,3,4],(Option.some.inj h).symm,by decide,?_⟩
           try simp only [*,go_sem,seval]
        ·rintro ⟨⟩ ⟨sl,ob,n⟩ hI64 hW65 h
         simp only [go_sem,seval,Zc] at hI64
         obtain ⟨⟨g66_1,g66_3,g66_4,g66_5,g66_6,g66_7,g66_8,g66_58,g66_59,g66_60,g66_64⟩,og66_0,og66_1,og66_2,og66_3,og66_4,hn⟩:=hI64
         subst hn
         have q67:=Zy (v116.length)
         try simp only [*,go_sem,seval]
         refine ⟨_,[],[0,1],(Option.some.inj h).symm,by decide,?_⟩
         try simp only [*,go_sem,seval]
      ·replace h:=Zn h hy10
       cases h
       try simp only [*,go_sem,seval]
     ·rintro ⟨⟩ ⟨sl,ob,n⟩ hI68 hW69 h
      simp only [go_sem,seval,Zc] at hI68
      obtain ⟨⟨g70_1,g70_3,g70_4⟩,og70_0,og70_1,hn⟩:=hI68
      subst hn
      have q71:=Zy (append_0.cond.length)
      try simp only [*,go_sem,seval]
      refine Zi h (fun i _ st=>IV [(1,.bp 0 0),(3,.p false [.row 1]),(10,.p false [.c (.int .i64 ((i:Nat):Int))])] [.box 42 [.c (.str append_0.name),.c (.int .i64 append_0.priority),.c (.sl 173 5 (List.map ZK append_0.cond)),.c (.sl 50 3 (List.map ZG append_0.thn))],.row 9 1 (List.map Zx v5) 2] st) [] [0,1] (by decide) ?_ ?_ ?_
      ·simp only [*,go_sem,seval]
      ·rintro i155 x156 ⟨⟩ ⟨sl,ob,n⟩ y72 hx73 hI74 hW75 h hy72
       simp only [go_sem,seval,Zc] at hI74
       obtain ⟨⟨g76_1,g76_3,g76_10⟩,og76_0,og76_1,hn⟩:=hI74
       subst hn
       have hlhx73:=WF.boxL hW75 og76_0 (j:=3) rfl
       have q77:=ZA hx73
       have q78:=ZC hx73
       have q79:=Zj (ZB hx73) hlhx73
       try simp only [*,go_sem,seval]
       obtain ⟨v157,e80,h⟩:=Za h
       refine Zd (by have hh:=Znb e80;first|exact hh|(simp only [*,go_sem] at hh;exact hh)) ?_
       try simp only [*,go_sem,seval]
       refine Ze h (fun _ h=>?_) fun _ h=>?_<;>try simp only [*,go_sem,seval]
       ·obtain ⟨v158,e82,h⟩:=Za h
        refine Zd (by have hh:=Zcw e82;first|exact hh|(simp only [*,go_sem] at hh;exact hh)) ?_
        try simp only [*,go_sem,seval]
        refine Zi h (fun i _ st=>IV [(1,.bp 0 0),(3,.p false [.row 1]),(10,.p false [.c (.int .i64 ((i155:Nat):Int))]),(11,.p false [.row 2]),(12,.p false [.c (.int .i64 ((i:Nat):Int))])] [.box 42 [.c (.str append_0.name),.c (.int .i64 append_0.priority),.c (.sl 173 5 (List.map ZK append_0.cond)),.c (.sl 50 3 (List.map ZG append_0.thn))],.row 9 1 (List.map Zx v5) 2,.row 9 1 (List.map Zx v158) 2] st) [] [0,1,290] (by decide) ?_ ?_ ?_
        ·simp only [*,go_sem,seval]
        ·rintro i164 x165 ⟨⟩ ⟨sl,ob,n⟩ y83 hx84 hI85 hW86 h hy83
         simp only [go_sem,seval,Zc] at hI85
         obtain ⟨⟨g87_1,g87_3,g87_10,g87_11,g87_12⟩,og87_0,og87_1,og87_2,hn⟩:=hI85
         subst hn
         have hlhx84:=WF.rowL hW86 og87_2
         have q88:=ZA hx84
         have q89:=ZC hx84
         have q90:=Zj (ZB hx84) hlhx84
         try simp only [*,go_sem,seval]
         obtain ⟨v166,e91,h⟩:=Za h
         refine Zd (by have hh:=Yz e91;first|exact hh|(simp only [*,go_sem] at hh;exact hh)) ?_
         try simp only [*,go_sem,seval]
         refine Ze h (fun _ h=>?_) fun _ h=>?_<;>try simp only [*,go_sem,seval]
         ·refine ⟨_,[],[0,1,2],(Option.some.inj h).symm,by decide,?_⟩
          try simp only [*,go_sem,seval]
         ·replace h:=Zn h hy83
          replace h:=Zn h hy72
          cases h
          try simp only [*,go_sem,seval]
        ·rintro ⟨⟩ ⟨sl,ob,n⟩ hI93 hW94 h
         simp only [go_sem,seval,Zc] at hI93
         obtain ⟨⟨g95_1,g95_3,g95_10,g95_11,g95_12⟩,og95_0,og95_1,og95_2,hn⟩:=hI93
         subst hn
         have q96:=Zy (v158.length)
         try simp only [*,go_sem,seval]
         refine ⟨_,[],[0,1],(Option.some.inj h).symm,by decide,?_⟩
         try simp only [*,go_sem,seval]
       ·replace h:=Zn h hy72
        cases h
        try simp only [*,go_sem,seval]
      ·rintro ⟨⟩ ⟨sl,ob,n⟩ hI97 hW98 h
       simp only [go_sem,seval,Zc] at hI97
       obtain ⟨⟨g99_1,g99_3,g99_10⟩,og99_0,og99_1,hn⟩:=hI97
       subst hn
       have q100:=Zy (append_0.thn.length)
       try simp only [*,go_sem,seval]
       obtain ⟨v167,e101,h⟩:=Za h
       refine Zd (by have hh:=ZmN e101;first|exact hh|(simp only [*,go_sem] at hh;exact hh)) ?_
       cases h
       try simp only [*,go_sem,seval]
    ·cases h
     try simp only [*,go_sem,seval]
   ·cases h
    try simp only [*,go_sem,seval]
  ·cases h
   try simp only [*,go_sem,seval]
 ·cases h
  try simp only [*,go_sem,seval]
theorem Zer {l_0:(List Zg)} {r:Bool} (h:ZaL l_0=some r):Zk Tryz.prog J0 65 [(false,[.sl 42 4 (List.map ZF l_0)])] [(false,[(false,.bool r)])]:=by
 refine fnk Tryz.func65 (by kernel_rfl) rfl (by kernel_rfl) (by kernel_rfl) ?_
 unfold ZaL at h
 simp only [fnS,f65,Zm,go_sem,seval]
 refine Ze h (fun _ h=>?_) fun _ h=>?_<;>try simp only [*,go_sem,seval]
 cases h
 try simp only [*,go_sem,seval]
 refine Zi h (fun i _ st=>IV [(0,.p false [.c (.sl 42 4 (List.map ZF l_0))]),(8,.p false [.c (.sl 42 4 (List.map ZF l_0))]),(9,.p false [.c (.int .i64 ((l_0.length:Nat):Int))]),(10,.p false [.c (.int .i64 ((i:Nat):Int))])] [] st) [] [] (by decide) ?_ ?_ ?_
 simp only [*,go_sem,seval]
 rintro o q ⟨⟩ ⟨sl,ob,n⟩ t a b f h d
 simp only [go_sem,seval,Zc] at b
 obtain ⟨⟨g,u,v,w⟩,hn⟩:=b
 subst hn
 have k:=WF.slotL f g (j:=0) rfl
 have x:=ZA a
 have y:=ZC a
 have z:=Zj (ZB a) k
 try simp only [*,go_sem,seval]
 obtain ⟨A,l,h⟩:=Za h
 refine Zd (Zkv l) ?_
 try simp only [*,go_sem,seval]
 refine Ze h (fun _ h=>?_) fun _ h=>?_<;>try simp only [*,go_sem,seval]
 obtain ⟨B,m,h⟩:=Za h
 refine Zd (ZmU m) ?_
 try simp only [*,go_sem,seval]
 refine Ze h (fun _ h=>?_) fun _ h=>?_<;>try simp only [*,go_sem,seval]
 replace h:=Zn h d
 cases h
 try simp only [*,go_sem,seval]
 refine ⟨_,[],[],(Option.some.inj h).symm,by decide,?_⟩
 try simp only [*,go_sem,seval]
 replace h:=Zn h d
 cases h
 try simp only [*,go_sem,seval]
 rintro ⟨⟩ ⟨sl,ob,n⟩ e C h
 simp only [go_sem,seval,Zc] at e
 obtain ⟨⟨D,E,F,G⟩,hn⟩:=e
 subst hn
 have H:=Zy (l_0.length)
 cases h
 try simp only [*,go_sem,seval]
theorem Zmf {r_0:Zg} {r:Bool} (h:Zci r_0=some r):Zk Tryz.prog J0 152 [(true,ZF r_0)] [(false,[(false,.bool r)])]:=by
 refine fnk Tryz.func152 (by kernel_rfl) rfl (by kernel_rfl) (by kernel_rfl) ?_
 unfold Zci at h
 simp only [fnS,f152,Zm,go_sem,seval]
 obtain ⟨v1,e1,h⟩:=Za h
 refine Zd (by have hh:=Zkv e1;first|exact hh|(simp only [*,go_sem] at hh;exact hh)) ?_
 try simp only [*,go_sem,seval]
 refine Ze h (fun _ h=>?_) fun _ h=>?_<;>try simp only [*,go_sem,seval]
 ·obtain ⟨v2,e3,h⟩:=Za h
  refine Zd (by have hh:=Zm5 e3;first|exact hh|(simp only [*,go_sem] at hh;exact hh)) ?_
  try simp only [*,go_sem,seval]
  refine Ze h (fun _ h=>?_) fun _ h=>?_<;>try simp only [*,go_sem,seval]
  ·refine Zi h (fun i _ st=>IV [(1,.bp 0 0),(17,.p false [.c (.sl 173 5 (List.map ZK r_0.cond))]),(18,.p false [.c (.int .i64 ((r_0.cond.length:Nat):Int))]),(19,.p false [.c (.int .i64 ((i:Nat):Int))])] [.box 42 [.c (.str r_0.name),.c (.int .i64 r_0.priority),.c (.sl 173 5 (List.map ZK r_0.cond)),.c (.sl 50 3 (List.map ZG r_0.thn))]] st) [] [0] (by decide) ?_ ?_ ?_
   ·simp only [*,go_sem,seval]
   ·rintro i26 x27 ⟨⟩ ⟨sl,ob,n⟩ y5 hx6 hI7 hW8 h hy5
    simp only [go_sem,seval,Zc] at hI7
    obtain ⟨⟨g9_1,g9_17,g9_18,g9_19⟩,og9_0,hn⟩:=hI7
    subst hn
    have hlhx6:=WF.slotL hW8 g9_17 (j:=0) rfl
    have q10:=ZA hx6
    have q11:=ZC hx6
    have q12:=Zj (ZB hx6) hlhx6
    try simp only [*,go_sem,seval]
    refine Ze h (fun _ h=>?_) fun _ h=>?_<;>try simp only [*,go_sem,seval]
    ·refine ⟨_,[],[0],(Option.some.inj h).symm,by decide,?_⟩
     try simp only [*,go_sem,seval]
    ·obtain ⟨v28,e14,h⟩:=Za h
     refine Zd (by have hh:=ZdH e14;first|exact hh|(simp only [*,go_sem] at hh;exact hh)) ?_
     try simp only [*,go_sem,seval]
     obtain ⟨v29,e15,h⟩:=Za h
     refine Zd (by have hh:=Zb9 e15;first|exact hh|(simp only [*,go_sem] at hh;exact hh)) ?_
     try simp only [*,go_sem,seval]
     refine Zi h (fun i _ st=>IV [(1,.bp 0 0),(5,.p false [.row 1]),(17,.p false [.c (.sl 173 5 (List.map ZK r_0.cond))]),(18,.p false [.c (.int .i64 ((r_0.cond.length:Nat):Int))]),(19,.p false [.c (.int .i64 ((i26:Nat):Int))]),(31,.p false [.row 2]),(32,.p false [.c (.int .i64 ((v29.length:Nat):Int))]),(33,.p false [.c (.int .i64 ((i:Nat):Int))])] [.box 42 [.c (.str r_0.name),.c (.int .i64 r_0.priority),.c (.sl 173 5 (List.map ZK r_0.cond)),.c (.sl 50 3 (List.map ZG r_0.thn))],.row 9 1 (List.map Zx v28) 2,.row 9 1 (List.map Zx v29) 2] st) [] [0,193,241] (by decide) ?_ ?_ ?_
     ·simp only [*,go_sem,seval]
     ·rintro i35 x36 ⟨⟩ ⟨sl,ob,n⟩ y16 hx17 hI18 hW19 h hy16
      simp only [go_sem,seval,Zc] at hI18
      obtain ⟨⟨g20_1,g20_5,g20_17,g20_18,g20_19,g20_31,g20_32,g20_33⟩,og20_0,og20_1,og20_2,hn⟩:=hI18
      subst hn
      have hlhx17:=WF.rowL hW19 og20_2
      have q21:=ZA hx17
      have q22:=ZC hx17
      have q23:=Zj (ZB hx17) hlhx17
      try simp only [*,go_sem,seval]
      obtain ⟨v37,e24,h⟩:=Za h
      refine Zd (by have hh:=Zac e24;first|exact hh|(simp only [*,go_sem] at hh;exact hh)) ?_
      try simp only [*,go_sem,seval]
      refine Ze h (fun _ h=>?_) fun _ h=>?_<;>try simp only [*,go_sem,seval]
      ·refine ⟨_,[],[0,1,2],(Option.some.inj h).symm,by decide,?_⟩
       try simp only [*,go_sem,seval]
      ·replace h:=Zn h hy16
       replace h:=Zn h hy5
       cases h
       try simp only [*,go_sem,seval]
     ·rintro ⟨⟩ ⟨sl,ob,n⟩ hI26 hW27 h
      simp only [go_sem,seval,Zc] at hI26
      obtain ⟨⟨g28_1,g28_5,g28_17,g28_18,g28_19,g28_31,g28_32,g28_33⟩,og28_0,og28_1,og28_2,hn⟩:=hI26
      subst hn
      have q29:=Zy (v29.length)
      try simp only [*,go_sem,seval]
      refine ⟨_,[],[0],(Option.some.inj h).symm,by decide,?_⟩
      try simp only [*,go_sem,seval]
   ·rintro ⟨⟩ ⟨sl,ob,n⟩ hI30 hW31 h
    simp only [go_sem,seval,Zc] at hI30
    obtain ⟨⟨g32_1,g32_17,g32_18,g32_19⟩,og32_0,hn⟩:=hI30
    subst hn
    have q33:=Zy (r_0.cond.length)
    cases h
    try simp only [*,go_sem,seval]
  ·cases h
   try simp only [*,go_sem,seval]
 ·cases h
  try simp only [*,go_sem,seval]
theorem Zll {x_0:Zt} {b_1:(List Zs)} {facts_2:(List Zb)} {r:Bool} (h:ZcD x_0 b_1 facts_2=some r):Zk Tryz.prog J0 153 [(true,ZK x_0),(false,[.sl 166 2 (List.map Z4 b_1)]),(false,[.sl 45 2 (List.map Zl facts_2)])] [(false,[(false,.bool r)])]:=by
 refine fnk Tryz.func153 (by kernel_rfl) rfl (by kernel_rfl) (by kernel_rfl) ?_
 unfold ZcD at h
 simp only [fnS,f153,Zm,go_sem,seval]
 obtain ⟨f,a,h⟩:=Za h
 refine Zd (Zgc a) ?_
 try simp only [*,go_sem,seval]
 refine Ze h (fun _ h=>?_) fun _ h=>?_<;>try simp only [*,go_sem,seval]
 obtain ⟨g,b,h⟩:=Za h
 refine Zd (QO b) ?_
 try simp only [*,go_sem,seval]
 iterate 2 refine Ze h (fun _ h=>?_) fun _ h=>?_<;>try simp only [*,go_sem,seval]
 obtain ⟨i,c,h⟩:=Za h
 refine Zd (ZdD c) ?_
 cases h
 try simp only [*,go_sem,seval]
 refine Ze h (fun _ h=>?_) fun _ h=>?_<;>try simp only [*,go_sem,seval]
 obtain ⟨j,d,h⟩:=Za h
 refine Zd (ZdD d) ?_
 cases h
 try simp only [*,go_sem,seval]
 obtain ⟨k,e,h⟩:=Za h
 refine Zd (Zms e) ?_
 iterate 3 (cases h;try simp only [*,go_sem,seval])
theorem Zk7 {x_0:Zt} {b_1:(List Zs)} {r:Bool} (h:Zcj x_0 b_1=some r):Zk Tryz.prog J0 312 [(true,ZK x_0),(false,[.sl 166 2 (List.map Z4 b_1)])] [(false,[(false,.bool r)])]:=by
 refine fnk Tryz.func312 (by kernel_rfl) rfl (by kernel_rfl) (by kernel_rfl) ?_
 unfold Zcj at h
 simp only [fnS,f312,Zm,go_sem,seval]
 obtain ⟨i,a,h⟩:=Za h
 refine Zd (Zgo a) ?_
 try simp only [*,go_sem,seval]
 refine Ze h (fun _ h=>?_) fun _ h=>?_<;>try simp only [*,go_sem,seval]
 obtain ⟨j,b,h⟩:=Za h
 refine Zd (QX b) ?_
 try simp only [*,go_sem,seval]
 refine Ze h (fun _ h=>?_) fun _ h=>?_<;>try simp only [*,go_sem,seval]
 obtain ⟨k,c,h⟩:=Za h
 refine Zd (ZcO c) ?_
 try simp only [*,go_sem,seval]
 obtain ⟨l,d,h⟩:=Za h
 refine Zd (ZcO d) ?_
 try simp only [*,go_sem,seval]
 iterate 3 refine Ze h (fun _ h=>?_) fun _ h=>?_<;>try simp only [*,go_sem,seval]
 cases h
 try simp only [*,go_sem,seval]
 refine Ze h (fun _ h=>?_) fun _ h=>?_<;>try simp only [*,go_sem,seval]
 cases h
 try simp only [*,go_sem,seval]
 obtain ⟨m,e,h⟩:=Za h
 refine Zd (ZhK e) ?_
 try simp only [*,go_sem,seval]
 refine Ze h (fun _ h=>?_) fun _ h=>?_<;>try simp only [*,go_sem,seval]
 obtain ⟨o,f,h⟩:=Za h
 refine Zd (ZhK f) ?_
 try simp only [*,go_sem,seval]
 refine Ze h (fun _ h=>?_) fun _ h=>?_<;>try simp only [*,go_sem,seval]
 obtain ⟨p,g,h⟩:=Za h
 refine Zd (Zej g) ?_
 iterate 7 (cases h;try simp only [*,go_sem,seval])
theorem ZHl {r_0:Zg} {r:Bool} (h:ZF5 r_0=some r):Zk Tryz.prog J0 94 [(true,ZF r_0)] [(false,[(false,.bool r)])]:=by
 refine fnk Tryz.func94 (by kernel_rfl) rfl (by kernel_rfl) (by kernel_rfl) ?_
 unfold ZF5 at h
 simp only [fnS,f94,Zm,go_sem,seval]
 refine Zi h (fun i _ st=>IV [(1,.bp 0 0),(6,.p false [.c (.sl 173 5 (List.map ZK r_0.cond))]),(7,.p false [.c (.int .i64 ((r_0.cond.length:Nat):Int))]),(8,.p false [.c (.int .i64 ((i:Nat):Int))])] [.box 42 [.c (.str r_0.name),.c (.int .i64 r_0.priority),.c (.sl 173 5 (List.map ZK r_0.cond)),.c (.sl 50 3 (List.map ZG r_0.thn))]] st) [] [0] (by decide) ?_ ?_ ?_
 simp only [*,go_sem,seval]
 rintro o q ⟨⟩ ⟨sl,ob,n⟩ t a b e h f
 simp only [go_sem,seval,Zc] at b
 obtain ⟨⟨u,g,v,w⟩,x,hn⟩:=b
 subst hn
 have k:=WF.slotL e g (j:=0) rfl
 have y:=ZA a
 have z:=ZC a
 have A:=Zj (ZB a) k
 try simp only [*,go_sem,seval]
 refine Ze h (fun _ h=>?_) fun _ h=>?_<;>try simp only [*,go_sem,seval]
 replace h:=Zn h f
 cases h
 try simp only [*,go_sem,seval]
 refine ⟨_,[],[0],(Option.some.inj h).symm,by decide,?_⟩
 try simp only [*,go_sem,seval]
 rintro ⟨⟩ ⟨sl,ob,n⟩ d B h
 simp only [go_sem,seval,Zc] at d
 obtain ⟨⟨C,D,E,F⟩,G,hn⟩:=d
 subst hn
 have H:=Zy (r_0.cond.length)
 try simp only [*,go_sem,seval]
 obtain ⟨I,l,h⟩:=Za h
 refine Zd (Zkv l) ?_
 try simp only [*,go_sem,seval]
 refine Ze h (fun _ h=>?_) fun _ h=>?_<;>try simp only [*,go_sem,seval]
 obtain ⟨J,m,h⟩:=Za h
 refine Zd (Zm5 m) ?_
 iterate 2 (cases h;try simp only [*,go_sem,seval])
end Go.Proofs.YtfehfkfdfmcgfaaGreatDoor
namespace Go.Proofs.YtfehfkfdfmcgfaaGreatDoor
open Go.Proofs.Tryz
set_option linter.unusedSimpArgs false
set_option linter.unusedVariables false
set_option maxRecDepth 1000000
set_option maxHeartbeats 4000000
theorem ZkJ {rules_0:(List Zg)} {r:Bool} (h:Zbt rules_0=some r):Zk Tryz.prog J0 82 [(false,[.sl 42 4 (List.map ZF rules_0)])] [(false,[(false,.bool r)])]:=by
 refine fnk Tryz.func82 (by kernel_rfl) rfl (by kernel_rfl) (by kernel_rfl) ?_
 unfold Zbt at h
 simp only [fnS,f82,Zm,go_sem,seval]
 obtain ⟨v1,e1,h⟩:=Za h
 refine Zd (by have hh:=Zer e1;first|exact hh|(simp only [*,go_sem] at hh;exact hh)) ?_
 try simp only [*,go_sem,seval]
 refine Ze h (fun _ h=>?_) fun _ h=>?_<;>try simp only [*,go_sem,seval]
 ·refine Zi h (fun i _ st=>IV [(0,.p false [.c (.sl 42 4 (List.map ZF rules_0))]),(13,.p false [.c (.sl 42 4 (List.map ZF rules_0))]),(14,.p false [.c (.int .i64 ((rules_0.length:Nat):Int))]),(15,.p false [.c (.int .i64 ((i:Nat):Int))])] [] st) [] [] (by decide) ?_ ?_ ?_
  ·simp only [*,go_sem,seval]
  ·rintro i59 x60 ⟨⟩ ⟨sl,ob,n⟩ y3 hx4 hI5 hW6 h hy3
   simp only [go_sem,seval,Zc] at hI5
   obtain ⟨⟨g7_0,g7_13,g7_14,g7_15⟩,hn⟩:=hI5
   subst hn
   have hlhx4:=WF.slotL hW6 g7_0 (j:=0) rfl
   have q8:=ZA hx4
   have q9:=ZC hx4
   have q10:=Zj (ZB hx4) hlhx4
   try simp only [*,go_sem,seval]
   obtain ⟨v61,e11,h⟩:=Za h
   refine Zd (by have hh:=Zmf e11;first|exact hh|(simp only [*,go_sem] at hh;exact hh)) ?_
   try simp only [*,go_sem,seval]
   refine Ze h (fun _ h=>?_) fun _ h=>?_<;>try simp only [*,go_sem,seval]
   ·refine Zi h (fun i _ st=>IV [(0,.p false [.c (.sl 42 4 (List.map ZF rules_0))]),(4,.bp 0 0),(13,.p false [.c (.sl 42 4 (List.map ZF rules_0))]),(14,.p false [.c (.int .i64 ((rules_0.length:Nat):Int))]),(15,.p false [.c (.int .i64 ((i59:Nat):Int))]),(23,.p false [.c (.sl 173 5 (List.map ZK x60.cond))]),(24,.p false [.c (.int .i64 ((x60.cond.length:Nat):Int))]),(25,.p false [.c (.int .i64 ((i:Nat):Int))])] [.box 42 [.c (.str x60.name),.c (.int .i64 x60.priority),.c (.sl 173 5 (List.map ZK x60.cond)),.c (.sl 50 3 (List.map ZG x60.thn))]] st) [] [48] (by decide) ?_ ?_ ?_
    ·simp only [*,go_sem,seval]
    ·rintro i79 x80 ⟨⟩ ⟨sl,ob,n⟩ y13 hx14 hI15 hW16 h hy13
     simp only [go_sem,seval,Zc] at hI15
     obtain ⟨⟨g17_0,g17_4,g17_13,g17_14,g17_15,g17_23,g17_24,g17_25⟩,og17_0,hn⟩:=hI15
     subst hn
     have hlhx14:=WF.slotL hW16 g17_23 (j:=0) rfl
     have q18:=ZA hx14
     have q19:=ZC hx14
     have q20:=Zj (ZB hx14) hlhx14
     try simp only [*,go_sem,seval]
     refine Ze h (fun _ h=>?_) fun _ h=>?_<;>try simp only [*,go_sem,seval]
     ·refine ⟨_,[],[0],(Option.some.inj h).symm,by decide,?_⟩
      try simp only [*,go_sem,seval]
     ·obtain ⟨v81,e22,h⟩:=Za h
      refine ZA1 (by have hh:=Znl e22;first|exact hh|(simp only [*,go_sem] at hh;exact hh)) ?_
      try simp only [*,go_sem,seval]
      obtain ⟨v82,e23,h⟩:=Za h
      refine Zd (by have hh:=ZhN e23;first|exact hh|(simp only [*,go_sem] at hh;exact hh)) ?_
      try simp only [*,go_sem,seval]
      refine Zi h (fun i _ st=>IV [(0,.p false [.c (.sl 42 4 (List.map ZF rules_0))]),(4,.bp 0 0),(6,.bp 1 0),(7,.p false [.row 2]),(13,.p false [.c (.sl 42 4 (List.map ZF rules_0))]),(14,.p false [.c (.int .i64 ((rules_0.length:Nat):Int))]),(15,.p false [.c (.int .i64 ((i59:Nat):Int))]),(23,.p false [.c (.sl 173 5 (List.map ZK x60.cond))]),(24,.p false [.c (.int .i64 ((x60.cond.length:Nat):Int))]),(25,.p false [.c (.int .i64 ((i79:Nat):Int))]),(38,.p false [.row 3]),(39,.p false [.c (.int .i64 ((v82.length:Nat):Int))]),(40,.p false [.c (.int .i64 ((i:Nat):Int))])] [.box 42 [.c (.str x60.name),.c (.int .i64 x60.priority),.c (.sl 173 5 (List.map ZK x60.cond)),.c (.sl 50 3 (List.map ZG x60.thn))],.box 173 [.c (.int .i64 x80.kind),.c (.str x80.pattern.rel),.c (.sl 9 1 (List.map Zx x80.pattern.args)),.c (.str x80.left),.c (.str x80.right)],.map .str .bool (List.map eSB v81),.row 9 1 (List.map Zx v82) 2] st) [] [0,49,193,241] (by decide) ?_ ?_ ?_
      ·simp only [*,go_sem,seval]
      ·rintro i86 x87 ⟨⟩ ⟨sl,ob,n⟩ y24 hx25 hI26 hW27 h hy24
       simp only [go_sem,seval,Zc] at hI26
       obtain ⟨⟨g28_0,g28_4,g28_6,g28_7,g28_13,g28_14,g28_15,g28_23,g28_24,g28_25,g28_38,g28_39,g28_40⟩,og28_0,og28_1,og28_2,og28_3,hn⟩:=hI26
       subst hn
       have hlhx25:=WF.rowL hW27 og28_3
       have q29:=ZA hx25
       have q30:=ZC hx25
       have q31:=Zj (ZB hx25) hlhx25
       try simp only [*,go_sem,seval]
       refine Ze h (fun _ h=>?_) fun _ h=>?_<;>try simp only [*,go_sem,seval]
       ·replace h:=Zn h hy24
        replace h:=Zn h hy13
        replace h:=Zn h hy3
        cases h
        try simp only [*,go_sem,seval]
       ·refine Ze h (fun _ h=>?_) fun _ h=>?_<;>try simp only [*,go_sem,seval]
        ·replace h:=Zn h hy24
         replace h:=Zn h hy13
         replace h:=Zn h hy3
         cases h
         try simp only [*,go_sem,seval]
        ·refine ⟨_,[],[0,1,2,3],(Option.some.inj h).symm,by decide,?_⟩
         try simp only [*,go_sem,seval]
      ·rintro ⟨⟩ ⟨sl,ob,n⟩ hI34 hW35 h
       simp only [go_sem,seval,Zc] at hI34
       obtain ⟨⟨g36_0,g36_4,g36_6,g36_7,g36_13,g36_14,g36_15,g36_23,g36_24,g36_25,g36_38,g36_39,g36_40⟩,og36_0,og36_1,og36_2,og36_3,hn⟩:=hI34
       subst hn
       have q37:=Zy (v82.length)
       try simp only [*,go_sem,seval]
       refine ⟨_,[],[0],(Option.some.inj h).symm,by decide,?_⟩
       try simp only [*,go_sem,seval]
    ·rintro ⟨⟩ ⟨sl,ob,n⟩ hI38 hW39 h
     simp only [go_sem,seval,Zc] at hI38
     obtain ⟨⟨g40_0,g40_4,g40_13,g40_14,g40_15,g40_23,g40_24,g40_25⟩,og40_0,hn⟩:=hI38
     subst hn
     have q41:=Zy (x60.cond.length)
     try simp only [*,go_sem,seval]
     refine ⟨_,[],[],(Option.some.inj h).symm,by decide,?_⟩
     try simp only [*,go_sem,seval]
   ·replace h:=Zn h hy3
    cases h
    try simp only [*,go_sem,seval]
  ·rintro ⟨⟩ ⟨sl,ob,n⟩ hI42 hW43 h
   simp only [go_sem,seval,Zc] at hI42
   obtain ⟨⟨g44_0,g44_13,g44_14,g44_15⟩,hn⟩:=hI42
   subst hn
   have q45:=Zy (rules_0.length)
   cases h
   try simp only [*,go_sem,seval]
 ·cases h
  try simp only [*,go_sem,seval]
theorem Zet {append_0:(List Zt)} {String_1:(List Zb)} {r:(List Zu)} (h:QU append_0 String_1=some r):Zk Tryz.prog J0 84 [(false,[.sl 173 5 (List.map ZK append_0)]),(false,[.sl 45 2 (List.map Zl String_1)])] [(false,[(true,.sl 120 2 (List.map YK r))])]:=by
 refine fnk Tryz.func84 (by kernel_rfl) rfl (by kernel_rfl) (by kernel_rfl) ?_
 unfold QU at h
 simp only [fnS,f84,Zm,go_sem,seval]
 refine Zi h (fun i row_151 st=>IV [(1,.p false [.c (.sl 45 2 (List.map Zl String_1))]),(5,.p false [.row 0]),(17,.p false [.c (.sl 173 5 (List.map ZK append_0))]),(18,.p false [.c (.int .i64 ((append_0.length:Nat):Int))]),(19,.p false [.c (.int .i64 ((i:Nat):Int))])] [.row 120 2 (List.map YK row_151) 1] st) [(true,32,1)] [32] (by decide) ?_ ?_ ?_
 ·simp only [*,go_sem,seval]
 ·rintro i246 x247 row_151 ⟨sl,ob,n⟩ y1 hx2 hI3 hW4 h hy1
  simp only [go_sem,seval,Zc] at hI3
  obtain ⟨⟨g5_1,g5_5,g5_17,g5_18,g5_19⟩,og5_0,hn⟩:=hI3
  subst hn
  have hlhx2:=WF.slotL hW4 g5_17 (j:=0) rfl
  have q6:=ZA hx2
  have q7:=ZC hx2
  have q8:=Zj (ZB hx2) hlhx2
  try simp only [*,go_sem,seval]
  refine Zi h (fun i row_303 st=>IV [(1,.p false [.c (.sl 45 2 (List.map Zl String_1))]),(7,.bp 0 0),(8,.p false [.row 1]),(17,.p false [.c (.sl 173 5 (List.map ZK append_0))]),(18,.p false [.c (.int .i64 ((append_0.length:Nat):Int))]),(19,.p false [.c (.int .i64 ((i246:Nat):Int))]),(23,.p false [.row 2]),(24,.p false [.c (.int .i64 ((row_151.length:Nat):Int))]),(25,.p false [.c (.int .i64 ((i:Nat):Int))])] [.box 173 [.c (.int .i64 x247.kind),.c (.str x247.pattern.rel),.c (.sl 9 1 (List.map Zx x247.pattern.args)),.c (.str x247.left),.c (.str x247.right)],.row 120 2 (List.map YK row_303) 1,.row 120 2 (List.map YK row_151) 1] st) [(false,8,0),(true,145,1)] [49,145,0] (by decide) ?_ ?_ ?_
  ·simp only [*,go_sem,seval]
  ·rintro i322 x323 row_303 ⟨sl,ob,n⟩ y9 hx10 hI11 hW12 h hy9
   simp only [go_sem,seval,Zc] at hI11
   obtain ⟨⟨g13_1,g13_7,g13_8,g13_17,g13_18,g13_19,g13_23,g13_24,g13_25⟩,og13_0,og13_1,og13_2,hn⟩:=hI11
   subst hn
   have hlhx10:=WF.rowL hW12 og13_2
   have q14:=ZA hx10
   have q15:=ZC hx10
   have q16:=Zj (ZB hx10) hlhx10
   try simp only [*,go_sem,seval]
   refine Ze h (fun _ h=>?_) fun _ h=>?_<;>try simp only [*,go_sem,seval]
   ·obtain ⟨v324,e18,h⟩:=Za h
    refine Zd (by have hh:=Zll e18;first|exact hh|(simp only [*,go_sem] at hh;exact hh)) ?_
    try simp only [*,go_sem,seval]
    refine Ze h (fun _ h=>?_) fun _ h=>?_<;>try simp only [*,go_sem,seval]
    ·obtain ⟨p20,h⟩:=Zq h
     try simp only [Nat.reduceLeDiff] at p20
     try simp only [*,go_sem,seval]
     refine ⟨_,[],[0,259,2],(Option.some.inj h).symm,by decide,?_⟩
     try simp only [*,go_sem,seval]
    ·refine ⟨_,[],[0,1,2],(Option.some.inj h).symm,by decide,?_⟩
     try simp only [*,go_sem,seval]
   ·refine Zi h (fun i row_329 st=>IV [(1,.p false [.c (.sl 45 2 (List.map Zl String_1))]),(7,.bp 0 0),(8,.p false [.row 1]),(10,.bp 2 0),(17,.p false [.c (.sl 173 5 (List.map ZK append_0))]),(18,.p false [.c (.int .i64 ((append_0.length:Nat):Int))]),(19,.p false [.c (.int .i64 ((i246:Nat):Int))]),(23,.p false [.row 3]),(24,.p false [.c (.int .i64 ((row_151.length:Nat):Int))]),(25,.p false [.c (.int .i64 ((i322:Nat):Int))]),(41,.p false [.c (.sl 45 2 (List.map Zl String_1))]),(42,.p false [.c (.int .i64 ((String_1.length:Nat):Int))]),(43,.p false [.c (.int .i64 ((i:Nat):Int))])] [.box 173 [.c (.int .i64 x247.kind),.c (.str x247.pattern.rel),.c (.sl 9 1 (List.map Zx x247.pattern.args)),.c (.str x247.left),.c (.str x247.right)],.row 120 2 (List.map YK row_329) 1,.box 120 [.c (.sl 45 2 (List.map Zl x323.facts)),.c (.sl 166 2 (List.map Z4 x323.binding))],.row 120 2 (List.map YK row_151) 1] st) [] [0,1,51,2] (by decide) ?_ ?_ ?_
    ·simp only [*,go_sem,seval]
    ·rintro i335 x336 row_329 ⟨sl,ob,n⟩ y21 hx22 hI23 hW24 h hy21
     simp only [go_sem,seval,Zc] at hI23
     obtain ⟨⟨g25_1,g25_7,g25_8,g25_10,g25_17,g25_18,g25_19,g25_23,g25_24,g25_25,g25_41,g25_42,g25_43⟩,og25_0,og25_1,og25_2,og25_3,hn⟩:=hI23
     subst hn
     have hlhx22:=WF.slotL hW24 g25_1 (j:=0) rfl
     have q26:=ZA hx22
     have q27:=ZC hx22
     have q28:=Zj (ZB hx22) hlhx22
     try simp only [*,go_sem,seval]
     obtain ⟨v337,e29,h⟩:=Za h
     refine Zd (by have hh:=ZgE e29;first|exact hh|(simp only [*,go_sem] at hh;exact hh)) ?_
     try simp only [*,go_sem,seval]
     refine Ze h (fun _ h=>?_) fun _ h=>?_<;>try simp only [*,go_sem,seval]
     ·obtain ⟨v338,e31,h⟩:=Za h
      refine Zd (by have hh:=ZgI e31;first|exact hh|(simp only [*,go_sem] at hh;exact hh)) ?_
      try simp only [*,go_sem,seval]
      obtain ⟨v339,e32,h⟩:=Za h
      refine Zd (by have hh:=YO e32;first|exact hh|(simp only [*,go_sem] at hh;exact hh)) ?_
      obtain ⟨p33,h⟩:=Zq h
      try simp only [Nat.reduceLeDiff] at p33
      obtain ⟨p34,h⟩:=Zq h
      try simp only [Nat.reduceLeDiff] at p34
      try simp only [*,go_sem,seval]
      refine ⟨_,[],[0,452,2,3],(Option.some.inj h).symm,by decide,?_⟩
      try simp only [*,go_sem,seval]
     ·refine ⟨_,[],[0,1,2,3],(Option.some.inj h).symm,by decide,?_⟩
      try simp only [*,go_sem,seval]
    ·rintro row_329 ⟨sl,ob,n⟩ hI35 hW36 h
     simp only [go_sem,seval,Zc] at hI35
     obtain ⟨⟨g37_1,g37_7,g37_8,g37_10,g37_17,g37_18,g37_19,g37_23,g37_24,g37_25,g37_41,g37_42,g37_43⟩,og37_0,og37_1,og37_2,og37_3,hn⟩:=hI35
     subst hn
     have q38:=Zy (String_1.length)
     try simp only [*,go_sem,seval]
     refine ⟨_,[],[0,1,3],(Option.some.inj h).symm,by decide,?_⟩
     try simp only [*,go_sem,seval]
  ·rintro row_303 ⟨sl,ob,n⟩ hI39 hW40 h
   simp only [go_sem,seval,Zc] at hI39
   obtain ⟨⟨g41_1,g41_7,g41_8,g41_17,g41_18,g41_19,g41_23,g41_24,g41_25⟩,og41_0,og41_1,og41_2,hn⟩:=hI39
   subst hn
   have q42:=Zy (row_151.length)
   try simp only [*,go_sem,seval]
   refine ⟨_,[],[1],(Option.some.inj h).symm,by decide,?_⟩
   try simp only [*,go_sem,seval]
 ·rintro row_151 ⟨sl,ob,n⟩ hI43 hW44 h
  simp only [go_sem,seval,Zc] at hI43
  obtain ⟨⟨g45_1,g45_5,g45_17,g45_18,g45_19⟩,og45_0,hn⟩:=hI43
  subst hn
  have q46:=Zy (append_0.length)
  cases h
  try simp only [*,go_sem,seval]
theorem ZlW {r_0:Zg} {r:Bool} (h:Zcx r_0=some r):Zk Tryz.prog J0 234 [(true,ZF r_0)] [(false,[(false,.bool r)])]:=by
 refine fnk Tryz.func234 (by kernel_rfl) rfl (by kernel_rfl) (by kernel_rfl) ?_
 unfold Zcx at h
 simp only [fnS,f234,Zm,go_sem,seval]
 obtain ⟨A,k,h⟩:=Za h
 refine Zd (ZgS k) ?_
 try simp only [*,go_sem,seval]
 refine Ze h (fun _ h=>?_) fun _ h=>?_<;>try simp only [*,go_sem,seval]
 refine Zi h (fun i _ st=>IV [(1,.bp 0 0),(3,.p false [.c (.int .i64 ((i:Nat):Int))])] [.box 42 [.c (.str r_0.name),.c (.int .i64 r_0.priority),.c (.sl 173 5 (List.map ZK r_0.cond)),.c (.sl 50 3 (List.map ZG r_0.thn))]] st) [] [0] (by decide) ?_ ?_ ?_
 simp only [*,go_sem,seval]
 rintro B C ⟨⟩ ⟨sl,ob,n⟩ D a d l h m
 simp only [go_sem,seval,Zc] at d
 obtain ⟨⟨E,F⟩,o,hn⟩:=d
 subst hn
 have q:=WF.boxL l o (j:=2) rfl
 have G:=ZA a
 have H:=ZC a
 have I:=Zj (ZB a) q
 try simp only [*,go_sem,seval]
 refine Ze h (fun _ h=>?_) fun _ h=>?_<;>try simp only [*,go_sem,seval]
 obtain ⟨J,t,h⟩:=Za h
 refine Zd (Zas t) ?_
 try simp only [*,go_sem,seval]
 obtain ⟨K,u,h⟩:=Za h
 refine Zd (Zbq u) ?_
 try simp only [*,go_sem,seval]
 obtain ⟨L,v,h⟩:=Za h
 refine Zd (Znk v) ?_
 try simp only [*,go_sem,seval]
 refine Ze h (fun _ h=>?_) fun _ h=>?_<;>try simp only [*,go_sem,seval]
 refine ⟨_,[],[0],(Option.some.inj h).symm,by decide,?_⟩
 try simp only [*,go_sem,seval]
 replace h:=Zn h m
 cases h
 try simp only [*,go_sem,seval]
 refine ⟨_,[],[0],(Option.some.inj h).symm,by decide,?_⟩
 try simp only [*,go_sem,seval]
 rintro ⟨⟩ ⟨sl,ob,n⟩ e M h
 simp only [go_sem,seval,Zc] at e
 obtain ⟨⟨N,O⟩,P,hn⟩:=e
 subst hn
 have Q:=Zy (r_0.cond.length)
 try simp only [*,go_sem,seval]
 refine Zi h (fun i _ st=>IV [(1,.bp 0 0),(4,.p false [.c (.int .i64 ((i:Nat):Int))])] [.box 42 [.c (.str r_0.name),.c (.int .i64 r_0.priority),.c (.sl 173 5 (List.map ZK r_0.cond)),.c (.sl 50 3 (List.map ZG r_0.thn))]] st) [] [0] (by decide) ?_ ?_ ?_
 simp only [*,go_sem,seval]
 rintro R S ⟨⟩ ⟨sl,ob,n⟩ T b f w h x
 simp only [go_sem,seval,Zc] at f
 obtain ⟨⟨U,V⟩,y,hn⟩:=f
 subst hn
 have z:=WF.boxL w y (j:=3) rfl
 have W:=ZA b
 have X:=ZC b
 have Y:=Zj (ZB b) z
 try simp only [*,go_sem,seval]
 refine Ze h (fun _ h=>?_) fun _ h=>?_<;>try simp only [*,go_sem,seval]
 replace h:=Zn h x
 cases h
 try simp only [*,go_sem,seval]
 refine ⟨_,[],[0],(Option.some.inj h).symm,by decide,?_⟩
 try simp only [*,go_sem,seval]
 rintro ⟨⟩ ⟨sl,ob,n⟩ g Z h
 simp only [go_sem,seval,Zc] at g
 obtain ⟨⟨aa,ab⟩,ac,hn⟩:=g
 subst hn
 have ad:=Zy (r_0.thn.length)
 iterate 2 (cases h;try simp only [*,go_sem,seval])
theorem Zm3 {l_0:(List Zg)} {r:Bool} (h:ZdU l_0=some r):Zk Tryz.prog J0 237 [(false,[.sl 42 4 (List.map ZF l_0)])] [(false,[(false,.bool r)])]:=by
 refine fnk Tryz.func237 (by kernel_rfl) rfl (by kernel_rfl) (by kernel_rfl) ?_
 unfold ZdU at h
 simp only [fnS,f237,Zm,go_sem,seval]
 refine Zi h (fun i _ st=>IV [(0,.p false [.c (.sl 42 4 (List.map ZF l_0))]),(3,.p false [.c (.int .i64 ((i:Nat):Int))])] [] st) [] [] (by decide) ?_ ?_ ?_
 simp only [*,go_sem,seval]
 rintro o q ⟨⟩ ⟨sl,ob,n⟩ t a b f h d
 simp only [go_sem,seval,Zc] at b
 obtain ⟨⟨g,u⟩,hn⟩:=b
 subst hn
 have k:=WF.slotL f g (j:=0) rfl
 have v:=ZA a
 have w:=ZC a
 have x:=Zj (ZB a) k
 try simp only [*,go_sem,seval]
 obtain ⟨y,l,h⟩:=Za h
 refine Zd (ZgS l) ?_
 try simp only [*,go_sem,seval]
 refine Ze h (fun _ h=>?_) fun _ h=>?_<;>try simp only [*,go_sem,seval]
 obtain ⟨z,m,h⟩:=Za h
 refine Zd (ZhP m) ?_
 try simp only [*,go_sem,seval]
 refine Ze h (fun _ h=>?_) fun _ h=>?_<;>try simp only [*,go_sem,seval]
 replace h:=Zn h d
 cases h
 try simp only [*,go_sem,seval]
 refine ⟨_,[],[],(Option.some.inj h).symm,by decide,?_⟩
 try simp only [*,go_sem,seval]
 replace h:=Zn h d
 cases h
 try simp only [*,go_sem,seval]
 rintro ⟨⟩ ⟨sl,ob,n⟩ e A h
 simp only [go_sem,seval,Zc] at e
 obtain ⟨⟨B,C⟩,hn⟩:=e
 subst hn
 have D:=Zy (l_0.length)
 cases h
 try simp only [*,go_sem,seval]
theorem ZkW {x_0:Zt} {b_1:(List Zs)} {facts_2:(List Zb)} {r:Bool} (h:Zcl x_0 b_1 facts_2=some r):Zk Tryz.prog J0 278 [(true,ZK x_0),(false,[.sl 166 2 (List.map Z4 b_1)]),(false,[.sl 45 2 (List.map Zl facts_2)])] [(false,[(false,.bool r)])]:=by
 refine fnk Tryz.func278 (by kernel_rfl) rfl (by kernel_rfl) (by kernel_rfl) ?_
 unfold Zcl at h
 simp only [fnS,f278,Zm,go_sem,seval]
 obtain ⟨f,a,h⟩:=Za h
 refine Zd (Zem a) ?_
 try simp only [*,go_sem,seval]
 refine Ze h (fun _ h=>?_) fun _ h=>?_<;>try simp only [*,go_sem,seval]
 obtain ⟨g,b,h⟩:=Za h
 refine Zd (QX b) ?_
 try simp only [*,go_sem,seval]
 iterate 2 refine Ze h (fun _ h=>?_) fun _ h=>?_<;>try simp only [*,go_sem,seval]
 obtain ⟨i,c,h⟩:=Za h
 refine Zd (ZdS c) ?_
 cases h
 try simp only [*,go_sem,seval]
 refine Ze h (fun _ h=>?_) fun _ h=>?_<;>try simp only [*,go_sem,seval]
 obtain ⟨j,d,h⟩:=Za h
 refine Zd (ZdS d) ?_
 cases h
 try simp only [*,go_sem,seval]
 obtain ⟨k,e,h⟩:=Za h
 refine Zd (Zk7 e) ?_
 iterate 3 (cases h;try simp only [*,go_sem,seval])
theorem ZHt {r_0:Zg} {r:Bool} (h:ZFV r_0=some r):Zk Tryz.prog J0 91 [(true,ZF r_0)] [(false,[(false,.bool r)])]:=by
 refine fnk Tryz.func91 (by kernel_rfl) rfl (by kernel_rfl) (by kernel_rfl) ?_
 unfold ZFV at h
 simp only [fnS,f91,Zm,go_sem,seval]
 refine Zi h (fun i _ st=>IV [(1,.bp 0 0),(3,.p false [.c (.int .i64 ((i:Nat):Int))])] [.box 42 [.c (.str r_0.name),.c (.int .i64 r_0.priority),.c (.sl 173 5 (List.map ZK r_0.cond)),.c (.sl 50 3 (List.map ZG r_0.thn))]] st) [] [0] (by decide) ?_ ?_ ?_
 simp only [*,go_sem,seval]
 rintro x y ⟨⟩ ⟨sl,ob,n⟩ z a d k h l
 simp only [go_sem,seval,Zc] at d
 obtain ⟨⟨A,B⟩,m,hn⟩:=d
 subst hn
 have o:=WF.boxL k m (j:=2) rfl
 have C:=ZA a
 have D:=ZC a
 have E:=Zj (ZB a) o
 try simp only [*,go_sem,seval]
 refine Ze h (fun _ h=>?_) fun _ h=>?_<;>try simp only [*,go_sem,seval]
 replace h:=Zn h l
 cases h
 try simp only [*,go_sem,seval]
 refine ⟨_,[],[0],(Option.some.inj h).symm,by decide,?_⟩
 try simp only [*,go_sem,seval]
 rintro ⟨⟩ ⟨sl,ob,n⟩ e F h
 simp only [go_sem,seval,Zc] at e
 obtain ⟨⟨G,H⟩,I,hn⟩:=e
 subst hn
 have J:=Zy (r_0.cond.length)
 try simp only [*,go_sem,seval]
 refine Zi h (fun i _ st=>IV [(1,.bp 0 0),(4,.p false [.c (.int .i64 ((i:Nat):Int))])] [.box 42 [.c (.str r_0.name),.c (.int .i64 r_0.priority),.c (.sl 173 5 (List.map ZK r_0.cond)),.c (.sl 50 3 (List.map ZG r_0.thn))]] st) [] [0] (by decide) ?_ ?_ ?_
 simp only [*,go_sem,seval]
 rintro K L ⟨⟩ ⟨sl,ob,n⟩ M b f q h t
 simp only [go_sem,seval,Zc] at f
 obtain ⟨⟨N,O⟩,u,hn⟩:=f
 subst hn
 have v:=WF.boxL q u (j:=3) rfl
 have P:=ZA b
 have Q:=ZC b
 have R:=Zj (ZB b) v
 try simp only [*,go_sem,seval]
 refine Ze h (fun _ h=>?_) fun _ h=>?_<;>try simp only [*,go_sem,seval]
 replace h:=Zn h t
 cases h
 try simp only [*,go_sem,seval]
 refine ⟨_,[],[0],(Option.some.inj h).symm,by decide,?_⟩
 try simp only [*,go_sem,seval]
 rintro ⟨⟩ ⟨sl,ob,n⟩ g S h
 simp only [go_sem,seval,Zc] at g
 obtain ⟨⟨T,U⟩,V,hn⟩:=g
 subst hn
 have W:=Zy (r_0.thn.length)
 try simp only [*,go_sem,seval]
 obtain ⟨X,w,h⟩:=Za h
 refine Zd (ZgS w) ?_
 cases h
 try simp only [*,go_sem,seval]
end Go.Proofs.YtfehfkfdfmcgfaaGreatDoor
namespace Go.Proofs.YtfehfkfdfmcgfaaGreatDoor
open Go.Proofs.Tryz
set_option linter.unusedSimpArgs false
set_option linter.unusedVariables false
set_option maxRecDepth 1000000
set_option maxHeartbeats 4000000
theorem ZhZ {append_0:(List Zg)} {String_1:(List Zb)} {r:((List Zb) × Bool)} (h:Yt append_0 String_1=some r):Zk Tryz.prog J0 28 [(false,[.sl 42 4 (List.map ZF append_0)]),(false,[.sl 45 2 (List.map Zl String_1)])] [(false,[(false,.sl 45 2 (List.map Zl r.1))]),(false,[(false,.bool r.2)])]:=by
 refine fnn 4 Tryz.func28 (by kernel_rfl) rfl (by kernel_rfl) (by kernel_rfl) ?_
 unfold Yt at h
 simp only [fnN,f28,Zm,go_sem,seval]
 obtain ⟨v1,e1,h⟩:=Za h
 refine Zd (by have hh:=ZkJ e1;first|exact hh|(simp only [*,go_sem] at hh;exact hh)) ?_
 try simp only [*,go_sem,seval]
 refine Ze h (fun _ h=>?_) fun _ h=>?_<;>try simp only [*,go_sem,seval]
 ·obtain ⟨v2,e3,h⟩:=Za h
  refine Zd (by have hh:=Zep e3;first|exact hh|(simp only [*,go_sem] at hh;exact hh)) ?_
  try simp only [*,go_sem,seval]
  refine Ze h (fun _ h=>?_) fun _ h=>?_<;>try simp only [*,go_sem,seval]
  ·obtain ⟨v3,e5,h⟩:=Za h
   refine Zd (by have hh:=ZgI e5;first|exact hh|(simp only [*,go_sem] at hh;exact hh)) ?_
   try simp only [*,go_sem,seval]
   refine Yo h (fun s st=>match s with | (u_254,u_255)=>IV [(0,.p false [.c (.sl 42 4 (List.map ZF append_0))]),(6,.p false [.n (.sl 45 2 (List.map Zl u_254))]),(7,.p false [.c (.bool u_255)])] [] st) [(false,6,4096)] [] (by decide) ?_ ?_
   ·simp only [*,go_sem,seval]
   ·rintro ⟨u_254,u_255⟩ ⟨sl,ob,n⟩ y6 hI7 hW8 h hy6
    simp only [go_sem,seval,Zc] at hI7
    obtain ⟨⟨g9_0,g9_6,g9_7⟩,hn⟩:=hI7
    subst hn
    try simp only [*,go_sem,seval]
    refine Ze h (fun _ h=>?_) fun _ h=>?_<;>try simp only [*,go_sem,seval]
    ·refine Zi h (fun i s st=>match s with | (u_339,u_340)=>IV [(0,.p false [.c (.sl 42 4 (List.map ZF append_0))]),(6,.p false [.n (.sl 45 2 (List.map Zl u_339))]),(7,.p false [.c (.bool u_340)]),(27,.p false [.c (.sl 42 4 (List.map ZF append_0))]),(28,.p false [.c (.int .i64 ((append_0.length:Nat):Int))]),(29,.p false [.c (.int .i64 ((i:Nat):Int))])] [] st) [] [] (by decide) ?_ ?_ ?_
     ·simp only [*,go_sem,seval]
     ·rintro i423 x424 ⟨u_339,u_340⟩ ⟨sl,ob,n⟩ y11 hx12 hI13 hW14 h hy11
      simp only [go_sem,seval,Zc] at hI13
      obtain ⟨⟨g15_0,g15_6,g15_7,g15_27,g15_28,g15_29⟩,hn⟩:=hI13
      subst hn
      have hlhx12:=WF.slotL hW14 g15_0 (j:=0) rfl
      have q16:=ZA hx12
      have q17:=ZC hx12
      have q18:=Zj (ZB hx12) hlhx12
      try simp only [*,go_sem,seval]
      obtain ⟨v425,e19,h⟩:=Za h
      refine ZfP (by have hh:=ZeI e19;first|exact hh|(simp only [*,go_sem] at hh;exact hh)) ?_
      try simp only [*,go_sem,seval]
      obtain ⟨v426,e20,h⟩:=Za h
      refine ZfP (by have hh:=Zet e20;first|exact hh|(simp only [*,go_sem] at hh;exact hh)) ?_
      try simp only [*,go_sem,seval]
      refine Zi h (fun i s st=>match s with | (u_453,u_454)=>IV [(0,.p false [.c (.sl 42 4 (List.map ZF append_0))]),(6,.p false [.n (.sl 45 2 (List.map Zl u_453))]),(7,.p false [.c (.bool u_454)]),(9,.bp 0 0),(27,.p false [.c (.sl 42 4 (List.map ZF append_0))]),(28,.p false [.c (.int .i64 ((append_0.length:Nat):Int))]),(29,.p false [.c (.int .i64 ((i423:Nat):Int))]),(36,.p false [.c (.sl 120 2 (List.map YK v426))]),(37,.p false [.c (.int .i64 ((v426.length:Nat):Int))]),(38,.p false [.c (.int .i64 ((i:Nat):Int))])] [.box 42 [.c (.str x424.name),.c (.int .i64 x424.priority),.c (.sl 173 5 (List.map ZK x424.cond)),.c (.sl 50 3 (List.map ZG x424.thn))]] st) [] [48] (by decide) ?_ ?_ ?_
      ·simp only [*,go_sem,seval]
      ·rintro i480 x481 ⟨u_453,u_454⟩ ⟨sl,ob,n⟩ y21 hx22 hI23 hW24 h hy21
       simp only [go_sem,seval,Zc] at hI23
       obtain ⟨⟨g25_0,g25_6,g25_7,g25_9,g25_27,g25_28,g25_29,g25_36,g25_37,g25_38⟩,og25_0,hn⟩:=hI23
       subst hn
       have hlhx22:=WF.slotL hW24 g25_36 (j:=0) rfl
       have q26:=ZA hx22
       have q27:=ZC hx22
       have q28:=Zj (ZB hx22) hlhx22
       try simp only [*,go_sem,seval]
       refine Zi h (fun i s st=>match s with | (u_495,u_496)=>IV [(0,.p false [.c (.sl 42 4 (List.map ZF append_0))]),(6,.p false [.n (.sl 45 2 (List.map Zl u_495))]),(7,.p false [.c (.bool u_496)]),(9,.bp 0 0),(11,.bp 1 0),(27,.p false [.c (.sl 42 4 (List.map ZF append_0))]),(28,.p false [.c (.int .i64 ((append_0.length:Nat):Int))]),(29,.p false [.c (.int .i64 ((i423:Nat):Int))]),(36,.p false [.c (.sl 120 2 (List.map YK v426))]),(37,.p false [.c (.int .i64 ((v426.length:Nat):Int))]),(38,.p false [.c (.int .i64 ((i480:Nat):Int))]),(43,.p false [.c (.sl 50 3 (List.map ZG x424.thn))]),(44,.p false [.c (.int .i64 ((x424.thn.length:Nat):Int))]),(45,.p false [.c (.int .i64 ((i:Nat):Int))])] [.box 42 [.c (.str x424.name),.c (.int .i64 x424.priority),.c (.sl 173 5 (List.map ZK x424.cond)),.c (.sl 50 3 (List.map ZG x424.thn))],.box 120 [.c (.sl 45 2 (List.map Zl x481.facts)),.c (.sl 166 2 (List.map Z4 x481.binding))]] st) [] [0,49] (by decide) ?_ ?_ ?_
       ·simp only [*,go_sem,seval]
       ·rintro i501 x502 ⟨u_495,u_496⟩ ⟨sl,ob,n⟩ y29 hx30 hI31 hW32 h hy29
        simp only [go_sem,seval,Zc] at hI31
        obtain ⟨⟨g33_0,g33_6,g33_7,g33_9,g33_11,g33_27,g33_28,g33_29,g33_36,g33_37,g33_38,g33_43,g33_44,g33_45⟩,og33_0,og33_1,hn⟩:=hI31
        subst hn
        have hlhx30:=WF.slotL hW32 g33_43 (j:=0) rfl
        have q34:=ZA hx30
        have q35:=ZC hx30
        have q36:=Zj (ZB hx30) hlhx30
        try simp only [*,go_sem,seval]
        obtain ⟨v503,e37,h⟩:=Za h
        refine Zd (by have hh:=Zce e37;first|exact hh|(simp only [*,go_sem] at hh;exact hh)) ?_
        try simp only [*,go_sem,seval]
        obtain ⟨v504,e38,h⟩:=Za h
        refine Zd (by have hh:=Qq e38;first|exact hh|(simp only [*,go_sem] at hh;exact hh)) ?_
        try simp only [*,go_sem,seval]
        refine Ze h (fun _ h=>?_) fun _ h=>?_<;>try simp only [*,go_sem,seval]
        ·refine ⟨_,[],[0,1],(Option.some.inj h).symm,by decide,?_⟩
         try simp only [*,go_sem,seval]
        ·refine Ze h (fun _ h=>?_) fun _ h=>?_<;>try simp only [*,go_sem,seval]
         ·replace h:=Zn h hy29
          replace h:=Zn h hy21
          replace h:=Zn h hy11
          replace h:=Zn h hy6
          cases h
          try simp only [*,go_sem,seval]
         ·obtain ⟨v505,e41,h⟩:=Za h
          refine Zd (by have hh:=Zo5 e41;first|exact hh|(simp only [*,go_sem] at hh;exact hh)) ?_
          try simp only [*,go_sem,seval]
          refine ⟨_,[(false,6,4096)],[0,1],(Option.some.inj h).symm,by decide,?_⟩
          try simp only [*,go_sem,seval]
       ·rintro ⟨u_495,u_496⟩ ⟨sl,ob,n⟩ hI42 hW43 h
        simp only [go_sem,seval,Zc] at hI42
        obtain ⟨⟨g44_0,g44_6,g44_7,g44_9,g44_11,g44_27,g44_28,g44_29,g44_36,g44_37,g44_38,g44_43,g44_44,g44_45⟩,og44_0,og44_1,hn⟩:=hI42
        subst hn
        have q45:=Zy (x424.thn.length)
        try simp only [*,go_sem,seval]
        refine ⟨_,[],[0],(Option.some.inj h).symm,by decide,?_⟩
        try simp only [*,go_sem,seval]
      ·rintro ⟨u_453,u_454⟩ ⟨sl,ob,n⟩ hI46 hW47 h
       simp only [go_sem,seval,Zc] at hI46
       obtain ⟨⟨g48_0,g48_6,g48_7,g48_9,g48_27,g48_28,g48_29,g48_36,g48_37,g48_38⟩,og48_0,hn⟩:=hI46
       subst hn
       have q49:=Zy (v426.length)
       try simp only [*,go_sem,seval]
       refine ⟨_,[],[],(Option.some.inj h).symm,by decide,?_⟩
       try simp only [*,go_sem,seval]
     ·rintro ⟨u_339,u_340⟩ ⟨sl,ob,n⟩ hI50 hW51 h
      simp only [go_sem,seval,Zc] at hI50
      obtain ⟨⟨g52_0,g52_6,g52_7,g52_27,g52_28,g52_29⟩,hn⟩:=hI50
      subst hn
      have q53:=Zy (append_0.length)
      try simp only [*,go_sem,seval]
      refine ⟨_,[],[],(Option.some.inj h).symm,by decide,?_⟩
      try simp only [*,go_sem,seval]
    ·replace h:=Zn h hy6
     cases h
     try simp only [*,go_sem,seval]
  ·cases h
   try simp only [*,go_sem,seval]
 ·cases h
  try simp only [*,go_sem,seval]
theorem ZkN {append_0:(List Zg)} {r:Bool} (h:Zbs append_0=some r):Zk Tryz.prog J0 170 [(false,[.sl 42 4 (List.map ZF append_0)])] [(false,[(false,.bool r)])]:=by
 refine fnk Tryz.func170 (by kernel_rfl) rfl (by kernel_rfl) (by kernel_rfl) ?_
 unfold Zbs at h
 simp only [fnS,f170,Zm,go_sem,seval]
 refine Zi h (fun i _ st=>IV [(0,.p false [.c (.sl 42 4 (List.map ZF append_0))]),(3,.p false [.c (.int .i64 ((i:Nat):Int))])] [] st) [] [] (by decide) ?_ ?_ ?_
 ·simp only [*,go_sem,seval]
 ·rintro i67 x68 ⟨⟩ ⟨sl,ob,n⟩ y1 hx2 hI3 hW4 h hy1
  simp only [go_sem,seval,Zc] at hI3
  obtain ⟨⟨g5_0,g5_3⟩,hn⟩:=hI3
  subst hn
  have hlhx2:=WF.slotL hW4 g5_0 (j:=0) rfl
  have q6:=ZA hx2
  have q7:=ZC hx2
  have q8:=Zj (ZB hx2) hlhx2
  try simp only [*,go_sem,seval]
  obtain ⟨v69,e9,h⟩:=Za h
  refine Zd (by have hh:=ZlW e9;first|exact hh|(simp only [*,go_sem] at hh;exact hh)) ?_
  try simp only [*,go_sem,seval]
  refine Ze h (fun _ h=>?_) fun _ h=>?_<;>try simp only [*,go_sem,seval]
  ·obtain ⟨v70,e11,h⟩:=Za h
   refine Zd (by have hh:=ZhE e11;first|exact hh|(simp only [*,go_sem] at hh;exact hh)) ?_
   try simp only [*,go_sem,seval]
   refine Zi h (fun i _ st=>IV [(0,.p false [.c (.sl 42 4 (List.map ZF append_0))]),(3,.p false [.c (.int .i64 ((i67:Nat):Int))]),(4,.p false [.row 0]),(5,.p false [.c (.int .i64 ((i:Nat):Int))])] [.row 9 1 (List.map Zx v70) 2] st) [] [224] (by decide) ?_ ?_ ?_
   ·simp only [*,go_sem,seval]
   ·rintro i90 x91 ⟨⟩ ⟨sl,ob,n⟩ y12 hx13 hI14 hW15 h hy12
    simp only [go_sem,seval,Zc] at hI14
    obtain ⟨⟨g16_0,g16_3,g16_4,g16_5⟩,og16_0,hn⟩:=hI14
    subst hn
    have hlhx13:=WF.elL (WF.slotD hW15 g16_0 (j:=0) rfl) hx2 (j:=2) rfl
    have q17:=ZA hx13
    have q18:=ZC hx13
    have q19:=Zj (ZB hx13) hlhx13
    try simp only [*,go_sem,seval]
    refine Zi h (fun i _ st=>IV [(0,.p false [.c (.sl 42 4 (List.map ZF append_0))]),(3,.p false [.c (.int .i64 ((i67:Nat):Int))]),(4,.p false [.row 0]),(5,.p false [.c (.int .i64 ((i90:Nat):Int))]),(6,.bp 1 0),(7,.p false [.c (.int .i64 ((i:Nat):Int))])] [.row 9 1 (List.map Zx v70) 2,.box 173 [.c (.int .i64 x91.kind),.c (.str x91.pattern.rel),.c (.sl 9 1 (List.map Zx x91.pattern.args)),.c (.str x91.left),.c (.str x91.right)]] st) [] [0,257] (by decide) ?_ ?_ ?_
    ·simp only [*,go_sem,seval]
    ·rintro i97 x98 ⟨⟩ ⟨sl,ob,n⟩ y20 hx21 hI22 hW23 h hy20
     simp only [go_sem,seval,Zc] at hI22
     obtain ⟨⟨g24_0,g24_3,g24_4,g24_5,g24_6,g24_7⟩,og24_0,og24_1,hn⟩:=hI22
     subst hn
     have hlhx21:=WF.rowL hW23 og24_0
     have q25:=ZA hx21
     have q26:=ZC hx21
     have q27:=Zj (ZB hx21) hlhx21
     try simp only [*,go_sem,seval]
     refine Ze h (fun _ h=>?_) fun _ h=>?_<;>try simp only [*,go_sem,seval]
     ·refine Ze h (fun _ h=>?_) fun _ h=>?_<;>try simp only [*,go_sem,seval]
      ·replace h:=Zn h hy20
       replace h:=Zn h hy12
       replace h:=Zn h hy1
       cases h
       try simp only [*,go_sem,seval]
      ·obtain ⟨v99,e30,h⟩:=Za h
       refine Zd (by have hh:=ZkF e30;first|exact hh|(simp only [*,go_sem] at hh;exact hh)) ?_
       try simp only [*,go_sem,seval]
       refine Ze h (fun _ h=>?_) fun _ h=>?_<;>try simp only [*,go_sem,seval]
       ·replace h:=Zn h hy20
        replace h:=Zn h hy12
        replace h:=Zn h hy1
        cases h
        try simp only [*,go_sem,seval]
       ·refine ⟨_,[],[0,1],(Option.some.inj h).symm,by decide,?_⟩
        try simp only [*,go_sem,seval]
     ·replace h:=Zn h hy20
      refine ⟨_,[],[0],(Option.some.inj h).symm,by decide,?_⟩
      try simp only [*,go_sem,seval]
    ·rintro ⟨⟩ ⟨sl,ob,n⟩ hI32 hW33 h
     simp only [go_sem,seval,Zc] at hI32
     obtain ⟨⟨g34_0,g34_3,g34_4,g34_5,g34_6,g34_7⟩,og34_0,og34_1,hn⟩:=hI32
     subst hn
     have q35:=Zy (v70.length)
     try simp only [*,go_sem,seval]
     refine ⟨_,[],[0],(Option.some.inj h).symm,by decide,?_⟩
     try simp only [*,go_sem,seval]
   ·rintro ⟨⟩ ⟨sl,ob,n⟩ hI36 hW37 h
    simp only [go_sem,seval,Zc] at hI36
    obtain ⟨⟨g38_0,g38_3,g38_4,g38_5⟩,og38_0,hn⟩:=hI36
    subst hn
    have q39:=Zy (x68.cond.length)
    try simp only [*,go_sem,seval]
    refine ⟨_,[],[],(Option.some.inj h).symm,by decide,?_⟩
    try simp only [*,go_sem,seval]
  ·replace h:=Zn h hy1
   cases h
   try simp only [*,go_sem,seval]
 ·rintro ⟨⟩ ⟨sl,ob,n⟩ hI40 hW41 h
  simp only [go_sem,seval,Zc] at hI40
  obtain ⟨⟨g42_0,g42_3⟩,hn⟩:=hI40
  subst hn
  have q43:=Zy (append_0.length)
  try simp only [*,go_sem,seval]
  obtain ⟨v100,e44,h⟩:=Za h
  refine Zd (by have hh:=Zm3 e44;first|exact hh|(simp only [*,go_sem] at hh;exact hh)) ?_
  cases h
  try simp only [*,go_sem,seval]
theorem Zqk {append_0:(List Zu)} {String_1:Zt} {a_2:(List Zb)} {r:(List Zu)} (h:Zf9 append_0 String_1 a_2=some r):Zk Tryz.prog J0 238 [(false,[.sl 120 2 (List.map YK append_0)]),(true,ZK String_1),(false,[.sl 45 2 (List.map Zl a_2)])] [(false,[(false,.sl 120 2 (List.map YK r))])]:=by
 refine fnk Tryz.func238 (by kernel_rfl) rfl (by kernel_rfl) (by kernel_rfl) ?_
 unfold Zf9 at h
 simp only [fnS,f238,Zm,go_sem,seval]
 refine Zi h (fun i row_22 st=>IV [(0,.p false [.c (.sl 120 2 (List.map YK append_0))]),(2,.p false [.c (.sl 45 2 (List.map Zl a_2))]),(4,.bp 0 0),(7,.p false [.row 1]),(8,.p false [.c (.int .i64 ((i:Nat):Int))])] [.box 173 [.c (.int .i64 String_1.kind),.c (.str String_1.pattern.rel),.c (.sl 9 1 (List.map Zx String_1.pattern.args)),.c (.str String_1.left),.c (.str String_1.right)],.row 120 2 (List.map YK row_22) 2] st) [] [0,32] (by decide) ?_ ?_ ?_
 ·simp only [*,go_sem,seval]
 ·rintro i45 x46 row_22 ⟨sl,ob,n⟩ y1 hx2 hI3 hW4 h hy1
  simp only [go_sem,seval,Zc] at hI3
  obtain ⟨⟨g5_0,g5_2,g5_4,g5_7,g5_8⟩,og5_0,og5_1,hn⟩:=hI3
  subst hn
  have hlhx2:=WF.slotL hW4 g5_0 (j:=0) rfl
  have q6:=ZA hx2
  have q7:=ZC hx2
  have q8:=Zj (ZB hx2) hlhx2
  try simp only [*,go_sem,seval]
  refine Ze h (fun _ h=>?_) fun _ h=>?_<;>try simp only [*,go_sem,seval]
  ·obtain ⟨v47,e10,h⟩:=Za h
   refine Zd (by have hh:=ZkW e10;first|exact hh|(simp only [*,go_sem] at hh;exact hh)) ?_
   try simp only [*,go_sem,seval]
   refine Ze h (fun _ h=>?_) fun _ h=>?_<;>try simp only [*,go_sem,seval]
   ·obtain ⟨v48,e12,h⟩:=Za h
    refine Zd (by have hh:=ZrC e12;first|exact hh|(simp only [*,go_sem] at hh;exact hh)) ?_
    obtain ⟨p13,h⟩:=Zq h
    try simp only [Nat.reduceLeDiff] at p13
    try simp only [*,go_sem,seval]
    refine ⟨_,[],[0,354],(Option.some.inj h).symm,by decide,?_⟩
    try simp only [*,go_sem,seval]
   ·refine ⟨_,[],[0,1],(Option.some.inj h).symm,by decide,?_⟩
    try simp only [*,go_sem,seval]
  ·refine Zi h (fun i row_53 st=>IV [(0,.p false [.c (.sl 120 2 (List.map YK append_0))]),(2,.p false [.c (.sl 45 2 (List.map Zl a_2))]),(4,.bp 0 0),(7,.p false [.row 1]),(8,.p false [.c (.int .i64 ((i45:Nat):Int))]),(9,.p false [.c (.int .i64 ((i:Nat):Int))])] [.box 173 [.c (.int .i64 String_1.kind),.c (.str String_1.pattern.rel),.c (.sl 9 1 (List.map Zx String_1.pattern.args)),.c (.str String_1.left),.c (.str String_1.right)],.row 120 2 (List.map YK row_53) 2] st) [] [0,1] (by decide) ?_ ?_ ?_
   ·simp only [*,go_sem,seval]
   ·rintro i59 x60 row_53 ⟨sl,ob,n⟩ y14 hx15 hI16 hW17 h hy14
    simp only [go_sem,seval,Zc] at hI16
    obtain ⟨⟨g18_0,g18_2,g18_4,g18_7,g18_8,g18_9⟩,og18_0,og18_1,hn⟩:=hI16
    subst hn
    have hlhx15:=WF.slotL hW17 g18_2 (j:=0) rfl
    have q19:=ZA hx15
    have q20:=ZC hx15
    have q21:=Zj (ZB hx15) hlhx15
    try simp only [*,go_sem,seval]
    obtain ⟨v61,e22,h⟩:=Za h
    refine Zd (by have hh:=Zf2 e22;first|exact hh|(simp only [*,go_sem] at hh;exact hh)) ?_
    try simp only [*,go_sem,seval]
    refine Ze h (fun _ h=>?_) fun _ h=>?_<;>try simp only [*,go_sem,seval]
    ·obtain ⟨v62,e24,h⟩:=Za h
     refine Zd (by have hh:=Zeq e24;first|exact hh|(simp only [*,go_sem] at hh;exact hh)) ?_
     try simp only [*,go_sem,seval]
     obtain ⟨v63,e25,h⟩:=Za h
     refine Zd (by have hh:=Xa e25;first|exact hh|(simp only [*,go_sem] at hh;exact hh)) ?_
     obtain ⟨p26,h⟩:=Zq h
     try simp only [Nat.reduceLeDiff] at p26
     obtain ⟨p27,h⟩:=Zq h
     try simp only [Nat.reduceLeDiff] at p27
     try simp only [*,go_sem,seval]
     refine ⟨_,[],[0,626],(Option.some.inj h).symm,by decide,?_⟩
     try simp only [*,go_sem,seval]
    ·refine ⟨_,[],[0,1],(Option.some.inj h).symm,by decide,?_⟩
     try simp only [*,go_sem,seval]
   ·rintro row_53 ⟨sl,ob,n⟩ hI28 hW29 h
    simp only [go_sem,seval,Zc] at hI28
    obtain ⟨⟨g30_0,g30_2,g30_4,g30_7,g30_8,g30_9⟩,og30_0,og30_1,hn⟩:=hI28
    subst hn
    have q31:=Zy (a_2.length)
    try simp only [*,go_sem,seval]
    refine ⟨_,[],[0,1],(Option.some.inj h).symm,by decide,?_⟩
    try simp only [*,go_sem,seval]
 ·rintro row_22 ⟨sl,ob,n⟩ hI32 hW33 h
  simp only [go_sem,seval,Zc] at hI32
  obtain ⟨⟨g34_0,g34_2,g34_4,g34_7,g34_8⟩,og34_0,og34_1,hn⟩:=hI32
  subst hn
  have q35:=Zy (append_0.length)
  cases h
  try simp only [*,go_sem,seval]
end Go.Proofs.YtfehfkfdfmcgfaaGreatDoor
namespace Go.Proofs.YtfehfkfdfmcgfaaGreatDoor
open Go.Proofs.Tryz
set_option linter.unusedSimpArgs false
set_option linter.unusedVariables false
set_option maxRecDepth 1000000
set_option maxHeartbeats 4000000
theorem ZqY {append_0:(List Zg)} {String_1:(List Zb)} {r:((List Zb) × Zr × (List ZaA) × Bool)} (h:Zbh append_0 String_1=some r):Zk Tryz.prog J0 128 [(false,[.sl 42 4 (List.map ZF append_0)]),(false,[.sl 45 2 (List.map Zl String_1)])] [(false,[(false,.sl 45 2 (List.map Zl r.1))]),(true,[(false,.int .i64 r.2.1.nodes),(false,.sl 199 3 (List.map ZE r.2.1.reasons))]),(false,[(false,.any)]),(false,[(false,.bool r.2.2.2)])]:=by
 refine fnn 4 Tryz.func128 (by kernel_rfl) rfl (by kernel_rfl) (by kernel_rfl) ?_
 unfold Zbh at h
 simp only [fnN,f128,Zm,go_sem,seval]
 obtain ⟨v1,e1,h⟩:=Za h
 refine Zd (by have hh:=ZhZ e1;first|exact hh|(simp only [*,go_sem] at hh;exact hh)) ?_
 try simp only [*,go_sem,seval]
 refine Ze h (fun _ h=>?_) fun _ h=>?_<;>try simp only [*,go_sem,seval]
 ·refine Zi h (fun i s st=>match s with | (row_8,row_9)=>IV [(0,.p false [.c (.sl 42 4 (List.map ZF append_0))]),(5,.bp 0 0),(8,.p false [.n (.sl 45 2 (List.map Zl v1.1))]),(10,.bp 1 0),(11,.p false [.row 3]),(40,.p false [.c (.sl 45 2 (List.map Zl String_1))]),(41,.p false [.c (.int .i64 ((String_1.length:Nat):Int))]),(42,.p false [.c (.int .i64 ((i:Nat):Int))])] [.box 64 [.c (.int .i64 0),.nil 199 3],.box 64 [.c (.int .i64 ((v1.1.length:Nat):Int)),.row 2],.row 199 3 (List.map ZE row_8) 2,.row 204 2 (List.map Zhi row_9) 2] st) [(false,8,4096),(false,11,0),(true,272,1)] [16,272,369,368] (by decide) ?_ ?_ ?_
  ·simp only [*,go_sem,seval]
  ·rintro i941 x942 ⟨row_8,row_9⟩ ⟨sl,ob,n⟩ y3 hx4 hI5 hW6 h hy3
   simp only [go_sem,seval,Zc] at hI5
   obtain ⟨⟨g7_0,g7_5,g7_8,g7_10,g7_11,g7_40,g7_41,g7_42⟩,og7_0,og7_1,og7_2,og7_3,hn⟩:=hI5
   subst hn
   have hlhx4:=WF.slotL hW6 g7_40 (j:=0) rfl
   have q8:=ZA hx4
   have q9:=ZC hx4
   have q10:=Zj (ZB hx4) hlhx4
   try simp only [*,go_sem,seval]
   obtain ⟨v943,e11,h⟩:=Za h
   refine Zd (by have hh:=Qq e11;first|exact hh|(simp only [*,go_sem] at hh;exact hh)) ?_
   obtain ⟨p12,h⟩:=Zq h
   try simp only [Nat.reduceLeDiff] at p12
   obtain ⟨p13,h⟩:=Zq h
   try simp only [Nat.reduceLeDiff] at p13
   try simp only [*,go_sem,seval]
   refine ⟨_,[],[0,1,196,292],(Option.some.inj h).symm,by decide,?_⟩
   try simp only [*,go_sem,seval]
  ·rintro ⟨row_8,row_9⟩ ⟨sl,ob,n⟩ hI14 hW15 h
   simp only [go_sem,seval,Zc] at hI14
   obtain ⟨⟨g16_0,g16_5,g16_8,g16_10,g16_11,g16_40,g16_41,g16_42⟩,og16_0,og16_1,og16_2,og16_3,hn⟩:=hI14
   subst hn
   have q17:=Zy (String_1.length)
   try simp only [*,go_sem,seval]
   refine Zi h (fun i s st=>match s with | (row_1446,row_1447)=>IV [(5,.bp 0 0),(8,.p false [.n (.sl 45 2 (List.map Zl v1.1))]),(10,.bp 1 0),(11,.p false [.row 3]),(60,.p false [.c (.sl 42 4 (List.map ZF append_0))]),(61,.p false [.c (.int .i64 ((append_0.length:Nat):Int))]),(62,.p false [.c (.int .i64 ((i:Nat):Int))])] [.box 64 [.c (.int .i64 0),.nil 199 3],.box 64 [.c (.int .i64 ((v1.1.length:Nat):Int)),.row 2],.row 199 3 (List.map ZE row_1446) 2,.row 204 2 (List.map Zhi row_1447) 1] st) [(true,3,1)] [0,1,2,3] (by decide) ?_ ?_ ?_
   ·simp only [*,go_sem,seval]
   ·rintro i1660 x1661 ⟨row_1446,row_1447⟩ ⟨sl,ob,n⟩ y18 hx19 hI20 hW21 h hy18
    simp only [go_sem,seval,Zc] at hI20
    obtain ⟨⟨g22_5,g22_8,g22_10,g22_11,g22_60,g22_61,g22_62⟩,og22_0,og22_1,og22_2,og22_3,hn⟩:=hI20
    subst hn
    have hlhx19:=WF.slotL hW21 g22_60 (j:=0) rfl
    have q23:=ZA hx19
    have q24:=ZC hx19
    have q25:=Zj (ZB hx19) hlhx19
    try simp only [*,go_sem,seval]
    obtain ⟨v1662,e26,h⟩:=Za h
    refine ZfP (by have hh:=ZeI e26;first|exact hh|(simp only [*,go_sem] at hh;exact hh)) ?_
    try simp only [*,go_sem,seval]
    obtain ⟨v1663,e27,h⟩:=Za h
    refine ZfP (by have hh:=Zet e27;first|exact hh|(simp only [*,go_sem] at hh;exact hh)) ?_
    try simp only [*,go_sem,seval]
    refine Zi h (fun i s st=>match s with | (row_1732,row_1733)=>IV [(5,.bp 0 0),(8,.p false [.n (.sl 45 2 (List.map Zl v1.1))]),(10,.bp 1 0),(11,.p false [.row 3]),(15,.bp 4 0),(60,.p false [.c (.sl 42 4 (List.map ZF append_0))]),(61,.p false [.c (.int .i64 ((append_0.length:Nat):Int))]),(62,.p false [.c (.int .i64 ((i1660:Nat):Int))]),(69,.p false [.c (.sl 120 2 (List.map YK v1663))]),(70,.p false [.c (.int .i64 ((v1663.length:Nat):Int))]),(71,.p false [.c (.int .i64 ((i:Nat):Int))])] [.box 64 [.c (.int .i64 0),.nil 199 3],.box 64 [.c (.int .i64 ((v1.1.length:Nat):Int)),.row 2],.row 199 3 (List.map ZE row_1732) 2,.row 204 2 (List.map Zhi row_1733) 1,.box 42 [.c (.str x1661.name),.c (.int .i64 x1661.priority),.c (.sl 173 5 (List.map ZK x1661.cond)),.c (.sl 50 3 (List.map ZG x1661.thn))]] st) [] [0,1,2,3,52] (by decide) ?_ ?_ ?_
    ·simp only [*,go_sem,seval]
    ·rintro i1803 x1804 ⟨row_1732,row_1733⟩ ⟨sl,ob,n⟩ y28 hx29 hI30 hW31 h hy28
     simp only [go_sem,seval,Zc] at hI30
     obtain ⟨⟨g32_5,g32_8,g32_10,g32_11,g32_15,g32_60,g32_61,g32_62,g32_69,g32_70,g32_71⟩,og32_0,og32_1,og32_2,og32_3,og32_4,hn⟩:=hI30
     subst hn
     have hlhx29:=WF.slotL hW31 g32_69 (j:=0) rfl
     have q33:=ZA hx29
     have q34:=ZC hx29
     have q35:=Zj (ZB hx29) hlhx29
     try simp only [*,go_sem,seval]
     refine Zi h (fun i row_1809 st=>IV [(5,.bp 0 0),(8,.p false [.n (.sl 45 2 (List.map Zl v1.1))]),(10,.bp 1 0),(11,.p false [.row 3]),(15,.bp 4 0),(17,.bp 5 0),(18,.p false [.row 6]),(60,.p false [.c (.sl 42 4 (List.map ZF append_0))]),(61,.p false [.c (.int .i64 ((append_0.length:Nat):Int))]),(62,.p false [.c (.int .i64 ((i1660:Nat):Int))]),(69,.p false [.c (.sl 120 2 (List.map YK v1663))]),(70,.p false [.c (.int .i64 ((v1663.length:Nat):Int))]),(71,.p false [.c (.int .i64 ((i1803:Nat):Int))]),(76,.p false [.c (.sl 173 5 (List.map ZK x1661.cond))]),(77,.p false [.c (.int .i64 ((x1661.cond.length:Nat):Int))]),(78,.p false [.c (.int .i64 ((i:Nat):Int))])] [.box 64 [.c (.int .i64 0),.nil 199 3],.box 64 [.c (.int .i64 ((v1.1.length:Nat):Int)),.row 2],.row 199 3 (List.map ZE row_1732) 2,.row 204 2 (List.map Zhi row_1733) 1,.box 42 [.c (.str x1661.name),.c (.int .i64 x1661.priority),.c (.sl 173 5 (List.map ZK x1661.cond)),.c (.sl 50 3 (List.map ZG x1661.thn))],.box 120 [.c (.sl 45 2 (List.map Zl x1804.facts)),.c (.sl 166 2 (List.map Z4 x1804.binding))],.row 45 2 (List.map Zl row_1809) 2] st) [(false,18,0)] [0,1,2,3,4,53,165] (by decide) ?_ ?_ ?_
     ·simp only [*,go_sem,seval]
     ·rintro i1841 x1842 row_1809 ⟨sl,ob,n⟩ y36 hx37 hI38 hW39 h hy36
      simp only [go_sem,seval,Zc] at hI38
      obtain ⟨⟨g40_5,g40_8,g40_10,g40_11,g40_15,g40_17,g40_18,g40_60,g40_61,g40_62,g40_69,g40_70,g40_71,g40_76,g40_77,g40_78⟩,og40_0,og40_1,og40_2,og40_3,og40_4,og40_5,og40_6,hn⟩:=hI38
      subst hn
      have hlhx37:=WF.slotL hW39 g40_76 (j:=0) rfl
      have q41:=ZA hx37
      have q42:=ZC hx37
      have q43:=Zj (ZB hx37) hlhx37
      try simp only [*,go_sem,seval]
      refine Ze h (fun _ h=>?_) fun _ h=>?_<;>try simp only [*,go_sem,seval]
      ·obtain ⟨v1843,e45,h⟩:=Za h
       refine Zd (by have hh:=Zce e45;first|exact hh|(simp only [*,go_sem] at hh;exact hh)) ?_
       obtain ⟨p46,h⟩:=Zq h
       try simp only [Nat.reduceLeDiff] at p46
       try simp only [*,go_sem,seval]
       refine ⟨_,[],[0,1,2,3,4,5,359],(Option.some.inj h).symm,by decide,?_⟩
       try simp only [*,go_sem,seval]
      ·refine ⟨_,[],[0,1,2,3,4,5,6],(Option.some.inj h).symm,by decide,?_⟩
       try simp only [*,go_sem,seval]
     ·rintro row_1809 ⟨sl,ob,n⟩ hI47 hW48 h
      simp only [go_sem,seval,Zc] at hI47
      obtain ⟨⟨g49_5,g49_8,g49_10,g49_11,g49_15,g49_17,g49_18,g49_60,g49_61,g49_62,g49_69,g49_70,g49_71,g49_76,g49_77,g49_78⟩,og49_0,og49_1,og49_2,og49_3,og49_4,og49_5,og49_6,hn⟩:=hI47
      subst hn
      have q50:=Zy (x1661.cond.length)
      try simp only [*,go_sem,seval]
      refine Zi h (fun i s st=>match s with | (row_1857,row_1858)=>IV [(5,.bp 0 0),(8,.p false [.n (.sl 45 2 (List.map Zl v1.1))]),(10,.bp 1 0),(11,.p false [.row 3]),(15,.bp 4 0),(17,.bp 5 0),(18,.p false [.row 6]),(60,.p false [.c (.sl 42 4 (List.map ZF append_0))]),(61,.p false [.c (.int .i64 ((append_0.length:Nat):Int))]),(62,.p false [.c (.int .i64 ((i1660:Nat):Int))]),(69,.p false [.c (.sl 120 2 (List.map YK v1663))]),(70,.p false [.c (.int .i64 ((v1663.length:Nat):Int))]),(71,.p false [.c (.int .i64 ((i1803:Nat):Int))]),(99,.p false [.c (.sl 50 3 (List.map ZG x1661.thn))]),(100,.p false [.c (.int .i64 ((x1661.thn.length:Nat):Int))]),(101,.p false [.c (.int .i64 ((i:Nat):Int))])] [.box 64 [.c (.int .i64 0),.nil 199 3],.box 64 [.c (.int .i64 ((v1.1.length:Nat):Int)),.row 2],.row 199 3 (List.map ZE row_1857) 2,.row 204 2 (List.map Zhi row_1858) 1,.box 42 [.c (.str x1661.name),.c (.int .i64 x1661.priority),.c (.sl 173 5 (List.map ZK x1661.cond)),.c (.sl 50 3 (List.map ZG x1661.thn))],.box 120 [.c (.sl 45 2 (List.map Zl x1804.facts)),.c (.sl 166 2 (List.map Z4 x1804.binding))],.row 45 2 (List.map Zl row_1809) 2] st) [] [0,1,2,3,4,5,6] (by decide) ?_ ?_ ?_
      ·simp only [*,go_sem,seval]
      ·rintro i1865 x1866 ⟨row_1857,row_1858⟩ ⟨sl,ob,n⟩ y51 hx52 hI53 hW54 h hy51
       simp only [go_sem,seval,Zc] at hI53
       obtain ⟨⟨g55_5,g55_8,g55_10,g55_11,g55_15,g55_17,g55_18,g55_60,g55_61,g55_62,g55_69,g55_70,g55_71,g55_99,g55_100,g55_101⟩,og55_0,og55_1,og55_2,og55_3,og55_4,og55_5,og55_6,hn⟩:=hI53
       subst hn
       have hlhx52:=WF.slotL hW54 g55_99 (j:=0) rfl
       have q56:=ZA hx52
       have q57:=ZC hx52
       have q58:=Zj (ZB hx52) hlhx52
       try simp only [*,go_sem,seval]
       obtain ⟨v1867,e59,h⟩:=Za h
       refine Zd (by have hh:=Zce e59;first|exact hh|(simp only [*,go_sem] at hh;exact hh)) ?_
       try simp only [*,go_sem,seval]
       obtain ⟨v1868,e60,h⟩:=Za h
       refine Zd (by have hh:=Qq e60;first|exact hh|(simp only [*,go_sem] at hh;exact hh)) ?_
       try simp only [*,go_sem,seval]
       obtain ⟨v1869,e61,h⟩:=Za h
       refine Zd (by have hh:=ZiX e61;first|exact hh|(simp only [*,go_sem] at hh;exact hh)) ?_
       try simp only [*,go_sem,seval]
       obtain ⟨v1870,e62,h⟩:=Za h
       refine Zd (by have hh:=ZiX e62;first|exact hh|(simp only [*,go_sem] at hh;exact hh)) ?_
       try simp only [*,go_sem,seval]
       obtain ⟨v1871,e63,h⟩:=Za h
       refine Zd (by have hh:=Zma e63;first|exact hh|(simp only [*,go_sem] at hh;exact hh)) ?_
       try simp only [*,go_sem,seval]
       refine Ze h (fun _ h=>?_) fun _ h=>?_<;>try simp only [*,go_sem,seval]
       ·refine ⟨_,[],[0,1,2,3,4,5,6],(Option.some.inj h).symm,by decide,?_⟩
        try simp only [*,go_sem,seval]
       ·obtain ⟨p65,h⟩:=Zq h
        try simp only [Nat.reduceLeDiff] at p65
        obtain ⟨p66,h⟩:=Zq h
        try simp only [Nat.reduceLeDiff] at p66
        try simp only [*,go_sem,seval]
        refine ⟨_,[],[0,1,615,775,4,5,6],(Option.some.inj h).symm,by decide,?_⟩
        try simp only [*,go_sem,seval]
      ·rintro ⟨row_1857,row_1858⟩ ⟨sl,ob,n⟩ hI67 hW68 h
       simp only [go_sem,seval,Zc] at hI67
       obtain ⟨⟨g69_5,g69_8,g69_10,g69_11,g69_15,g69_17,g69_18,g69_60,g69_61,g69_62,g69_69,g69_70,g69_71,g69_99,g69_100,g69_101⟩,og69_0,og69_1,og69_2,og69_3,og69_4,og69_5,og69_6,hn⟩:=hI67
       subst hn
       have q70:=Zy (x1661.thn.length)
       try simp only [*,go_sem,seval]
       refine ⟨_,[],[0,1,2,3,4],(Option.some.inj h).symm,by decide,?_⟩
       try simp only [*,go_sem,seval]
    ·rintro ⟨row_1732,row_1733⟩ ⟨sl,ob,n⟩ hI71 hW72 h
     simp only [go_sem,seval,Zc] at hI71
     obtain ⟨⟨g73_5,g73_8,g73_10,g73_11,g73_15,g73_60,g73_61,g73_62,g73_69,g73_70,g73_71⟩,og73_0,og73_1,og73_2,og73_3,og73_4,hn⟩:=hI71
     subst hn
     have q74:=Zy (v1663.length)
     try simp only [*,go_sem,seval]
     refine ⟨_,[],[0,1,2,3],(Option.some.inj h).symm,by decide,?_⟩
     try simp only [*,go_sem,seval]
   ·rintro ⟨row_1446,row_1447⟩ ⟨sl,ob,n⟩ hI75 hW76 h
    simp only [go_sem,seval,Zc] at hI75
    obtain ⟨⟨g77_5,g77_8,g77_10,g77_11,g77_60,g77_61,g77_62⟩,og77_0,og77_1,og77_2,og77_3,hn⟩:=hI75
    subst hn
    have q78:=Zy (append_0.length)
    try simp only [*,go_sem,seval]
    refine Ze h (fun _ h=>?_) fun _ h=>?_<;>try simp only [*,go_sem,seval]
    ·cases h
     try simp only [*,go_sem,seval]
    ·cases h
     try simp only [*,go_sem,seval]
 ·cases h
  try simp only [*,go_sem,seval]
theorem ZhS {l_0:(List Zt)} {facts_1:(List Zb)} {r:(List Zu)} (h:ZaF l_0 facts_1=some r):Zk Tryz.prog J0 171 [(false,[.sl 173 5 (List.map ZK l_0)]),(false,[.sl 45 2 (List.map Zl facts_1)])] [(false,[(false,.sl 120 2 (List.map YK r))])]:=by
 refine fnk Tryz.func171 (by kernel_rfl) rfl (by kernel_rfl) (by kernel_rfl) ?_
 unfold ZaF at h
 simp only [fnS,f171,Zm,go_sem,seval]
 refine Zi h (fun i a st=>IV [(0,.p false [.c (.sl 173 5 (List.map ZK l_0))]),(1,.p false [.c (.sl 45 2 (List.map Zl facts_1))]),(5,.p false [.row 0]),(6,.p false [.c (.int .i64 ((i:Nat):Int))])] [.row 120 2 (List.map YK a) 2] st) [] [32] (by decide) ?_ ?_ ?_
 simp only [*,go_sem,seval]
 rintro m o a ⟨sl,ob,n⟩ q b d f h t
 simp only [go_sem,seval,Zc] at d
 obtain ⟨⟨g,u,v,w⟩,x,hn⟩:=d
 subst hn
 have k:=WF.slotL f g (j:=0) rfl
 have y:=ZA b
 have z:=ZC b
 have A:=Zj (ZB b) k
 try simp only [*,go_sem,seval]
 obtain ⟨B,l,h⟩:=Za h
 refine Zd (Zqk l) ?_
 try simp only [*,go_sem,seval]
 refine ⟨_,[],[161],(Option.some.inj h).symm,by decide,?_⟩
 try simp only [*,go_sem,seval]
 rintro a ⟨sl,ob,n⟩ e C h
 simp only [go_sem,seval,Zc] at e
 obtain ⟨⟨D,E,F,G⟩,H,hn⟩:=e
 subst hn
 have I:=Zy (l_0.length)
 cases h
 try simp only [*,go_sem,seval]
end Go.Proofs.YtfehfkfdfmcgfaaGreatDoor
namespace Go.Proofs.YtfehfkfdfmcgfaaGreatDoor
open Go.Proofs.Tryz
set_option linter.unusedSimpArgs false
set_option linter.unusedVariables false
set_option maxRecDepth 1000000
set_option maxHeartbeats 4000000
theorem Zig {rules_0:(List Zg)} {base_1:(List Zb)} {r:((List Zb) × Zr × Bool)} (h:Ql rules_0 base_1=some r):Zk Tryz.prog J0 61 [(false,[.sl 42 4 (List.map ZF rules_0)]),(false,[.sl 45 2 (List.map Zl base_1)])] [(false,[(false,.sl 45 2 (List.map Zl r.1))]),(true,[(false,.int .i64 r.2.1.nodes),(false,.sl 199 3 (List.map ZE r.2.1.reasons))]),(false,[(false,.bool r.2.2)])]:=by
 refine fnk Tryz.func61 (by kernel_rfl) rfl (by kernel_rfl) (by kernel_rfl) ?_
 unfold Ql at h
 simp only [fnS,f61,Zm,go_sem,seval]
 obtain ⟨b,a,h⟩:=Za h
 refine Zd (ZqY a) ?_
 cases h
 try simp only [*,go_sem,seval]
theorem Zit {append_0:(List Zg)} {String_1:(List Zb)} {r:((List Zb) × Bool)} (h:Yu append_0 String_1=some r):Zk Tryz.prog J0 109 [(false,[.sl 42 4 (List.map ZF append_0)]),(false,[.sl 45 2 (List.map Zl String_1)])] [(false,[(false,.sl 45 2 (List.map Zl r.1))]),(false,[(false,.bool r.2)])]:=by
 refine fnn 4 Tryz.func109 (by kernel_rfl) rfl (by kernel_rfl) (by kernel_rfl) ?_
 unfold Yu at h
 simp only [fnN,f109,Zm,go_sem,seval]
 obtain ⟨v1,e1,h⟩:=Za h
 refine Zd (by have hh:=ZkN e1;first|exact hh|(simp only [*,go_sem] at hh;exact hh)) ?_
 try simp only [*,go_sem,seval]
 refine Ze h (fun _ h=>?_) fun _ h=>?_<;>try simp only [*,go_sem,seval]
 ·obtain ⟨v2,e3,h⟩:=Za h
  refine Zd (by have hh:=Znd e3;first|exact hh|(simp only [*,go_sem] at hh;exact hh)) ?_
  try simp only [*,go_sem,seval]
  refine Ze h (fun _ h=>?_) fun _ h=>?_<;>try simp only [*,go_sem,seval]
  ·obtain ⟨v3,e5,h⟩:=Za h
   refine Zd (by have hh:=Zeq e5;first|exact hh|(simp only [*,go_sem] at hh;exact hh)) ?_
   try simp only [*,go_sem,seval]
   refine Yo h (fun s st=>match s with | (u_187,u_188)=>IV [(0,.p false [.c (.sl 42 4 (List.map ZF append_0))]),(6,.p false [.n (.sl 45 2 (List.map Zl u_187))]),(7,.p false [.c (.bool u_188)])] [] st) [(false,6,4096)] [] (by decide) ?_ ?_
   ·simp only [*,go_sem,seval]
   ·rintro ⟨u_187,u_188⟩ ⟨sl,ob,n⟩ y6 hI7 hW8 h hy6
    simp only [go_sem,seval,Zc] at hI7
    obtain ⟨⟨g9_0,g9_6,g9_7⟩,hn⟩:=hI7
    subst hn
    try simp only [*,go_sem,seval]
    refine Ze h (fun _ h=>?_) fun _ h=>?_<;>try simp only [*,go_sem,seval]
    ·refine Zi h (fun i u_249 st=>IV [(0,.p false [.c (.sl 42 4 (List.map ZF append_0))]),(6,.p false [.n (.sl 45 2 (List.map Zl u_249))]),(8,.p false [.n (.sl 45 2 (List.map Zl u_187))]),(9,.p false [.c (.int .i64 ((i:Nat):Int))])] [] st) [] [] (by decide) ?_ ?_ ?_
     ·simp only [*,go_sem,seval]
     ·rintro i311 x312 u_249 ⟨sl,ob,n⟩ y11 hx12 hI13 hW14 h hy11
      simp only [go_sem,seval,Zc] at hI13
      obtain ⟨⟨g15_0,g15_6,g15_8,g15_9⟩,hn⟩:=hI13
      subst hn
      have hlhx12:=WF.slotL hW14 g15_0 (j:=0) rfl
      have q16:=ZA hx12
      have q17:=ZC hx12
      have q18:=Zj (ZB hx12) hlhx12
      try simp only [*,go_sem,seval]
      obtain ⟨v313,e19,h⟩:=Za h
      refine ZfP (by have hh:=ZeY e19;first|exact hh|(simp only [*,go_sem] at hh;exact hh)) ?_
      try simp only [*,go_sem,seval]
      obtain ⟨v314,e20,h⟩:=Za h
      refine Zd (by have hh:=ZhS e20;first|exact hh|(simp only [*,go_sem] at hh;exact hh)) ?_
      try simp only [*,go_sem,seval]
      refine Zi h (fun i u_335 st=>IV [(0,.p false [.c (.sl 42 4 (List.map ZF append_0))]),(6,.p false [.n (.sl 45 2 (List.map Zl u_335))]),(8,.p false [.n (.sl 45 2 (List.map Zl u_187))]),(9,.p false [.c (.int .i64 ((i311:Nat):Int))]),(10,.p false [.row 0]),(11,.p false [.c (.int .i64 ((i:Nat):Int))])] [.row 120 2 (List.map YK v314) 2] st) [] [160] (by decide) ?_ ?_ ?_
      ·simp only [*,go_sem,seval]
      ·rintro i355 x356 u_335 ⟨sl,ob,n⟩ y21 hx22 hI23 hW24 h hy21
       simp only [go_sem,seval,Zc] at hI23
       obtain ⟨⟨g25_0,g25_6,g25_8,g25_9,g25_10,g25_11⟩,og25_0,hn⟩:=hI23
       subst hn
       have hlhx22:=WF.rowL hW24 og25_0
       have q26:=ZA hx22
       have q27:=ZC hx22
       have q28:=Zj (ZB hx22) hlhx22
       try simp only [*,go_sem,seval]
       refine Zi h (fun i u_364 st=>IV [(0,.p false [.c (.sl 42 4 (List.map ZF append_0))]),(6,.p false [.n (.sl 45 2 (List.map Zl u_364))]),(8,.p false [.n (.sl 45 2 (List.map Zl u_187))]),(9,.p false [.c (.int .i64 ((i311:Nat):Int))]),(10,.p false [.row 0]),(11,.p false [.c (.int .i64 ((i355:Nat):Int))]),(12,.p false [.c (.int .i64 ((i:Nat):Int))])] [.row 120 2 (List.map YK v314) 2] st) [] [0] (by decide) ?_ ?_ ?_
       ·simp only [*,go_sem,seval]
       ·rintro i368 x369 u_364 ⟨sl,ob,n⟩ y29 hx30 hI31 hW32 h hy29
        simp only [go_sem,seval,Zc] at hI31
        obtain ⟨⟨g33_0,g33_6,g33_8,g33_9,g33_10,g33_11,g33_12⟩,og33_0,hn⟩:=hI31
        subst hn
        have hlhx30:=WF.elL (WF.slotD hW32 g33_0 (j:=0) rfl) hx12 (j:=3) rfl
        have q34:=ZA hx30
        have q35:=ZC hx30
        have q36:=Zj (ZB hx30) hlhx30
        try simp only [*,go_sem,seval]
        obtain ⟨v370,e37,h⟩:=Za h
        refine Zd (by have hh:=Zb8 e37;first|exact hh|(simp only [*,go_sem] at hh;exact hh)) ?_
        try simp only [*,go_sem,seval]
        obtain ⟨v371,e38,h⟩:=Za h
        refine Zd (by have hh:=Zdw e38;first|exact hh|(simp only [*,go_sem] at hh;exact hh)) ?_
        try simp only [*,go_sem,seval]
        refine ⟨_,[(false,6,4096)],[0],(Option.some.inj h).symm,by decide,?_⟩
        try simp only [*,go_sem,seval]
       ·rintro u_364 ⟨sl,ob,n⟩ hI39 hW40 h
        simp only [go_sem,seval,Zc] at hI39
        obtain ⟨⟨g41_0,g41_6,g41_8,g41_9,g41_10,g41_11,g41_12⟩,og41_0,hn⟩:=hI39
        subst hn
        have q42:=Zy (x312.thn.length)
        try simp only [*,go_sem,seval]
        refine ⟨_,[],[0],(Option.some.inj h).symm,by decide,?_⟩
        try simp only [*,go_sem,seval]
      ·rintro u_335 ⟨sl,ob,n⟩ hI43 hW44 h
       simp only [go_sem,seval,Zc] at hI43
       obtain ⟨⟨g45_0,g45_6,g45_8,g45_9,g45_10,g45_11⟩,og45_0,hn⟩:=hI43
       subst hn
       have q46:=Zy (v314.length)
       try simp only [*,go_sem,seval]
       refine Ze h (fun _ h=>?_) fun _ h=>?_<;>try simp only [*,go_sem,seval]
       ·replace h:=Zn h hy11
        replace h:=Zn h hy6
        cases h
        try simp only [*,go_sem,seval]
       ·refine ⟨_,[],[],(Option.some.inj h).symm,by decide,?_⟩
        try simp only [*,go_sem,seval]
     ·rintro u_249 ⟨sl,ob,n⟩ hI48 hW49 h
      simp only [go_sem,seval,Zc] at hI48
      obtain ⟨⟨g50_0,g50_6,g50_8,g50_9⟩,hn⟩:=hI48
      subst hn
      have q51:=Zy (append_0.length)
      try simp only [*,go_sem,seval]
      refine ⟨_,[],[],(Option.some.inj h).symm,by decide,?_⟩
      try simp only [*,go_sem,seval]
    ·replace h:=Zn h hy6
     cases h
     try simp only [*,go_sem,seval]
  ·cases h
   try simp only [*,go_sem,seval]
 ·cases h
  try simp only [*,go_sem,seval]
end Go.Proofs.YtfehfkfdfmcgfaaGreatDoor
namespace Go.Proofs.YtfehfkfdfmcgfaaGreatDoor
open Go.Proofs.Tryz
set_option linter.unusedSimpArgs false
set_option linter.unusedVariables false
set_option maxRecDepth 1000000
set_option maxHeartbeats 4000000
theorem Zlw {append_0:(List Zg)} {String_1:(List Zb)} {r:((List Zb) × Zr × (List Xr) × Bool)} (h:Xy append_0 String_1=some r):Zk Tryz.prog J0 130 [(false,[.sl 42 4 (List.map ZF append_0)]),(false,[.sl 45 2 (List.map Zl String_1)])] [(false,[(false,.sl 45 2 (List.map Zl r.1))]),(true,[(false,.int .i64 r.2.1.nodes),(false,.sl 199 3 (List.map ZE r.2.1.reasons))]),(false,[(false,.any)]),(false,[(false,.bool r.2.2.2)])]:=by
 refine fnk Tryz.func130 (by kernel_rfl) rfl (by kernel_rfl) (by kernel_rfl) ?_
 unfold Xy at h
 simp only [fnS,f130,Zm,go_sem,seval]
 obtain ⟨v1,e1,h⟩:=Za h
 refine Zd (by have hh:=Zit e1;first|exact hh|(simp only [*,go_sem] at hh;exact hh)) ?_
 try simp only [*,go_sem,seval]
 refine Ze h (fun _ h=>?_) fun _ h=>?_<;>try simp only [*,go_sem,seval]
 ·refine Zi h (fun i s st=>match s with | (row_6,row_7)=>IV [(0,.p false [.c (.sl 42 4 (List.map ZF append_0))]),(1,.p false [.c (.sl 45 2 (List.map Zl String_1))]),(5,.bp 0 0),(8,.p false [.row 1]),(10,.bp 2 0),(11,.p false [.row 4]),(12,.p false [.c (.int .i64 ((i:Nat):Int))])] [.box 64 [.c (.int .i64 0),.nil 199 3],.row 45 2 (List.map Zl v1.1) 2,.box 64 [.c (.int .i64 ((v1.1.length:Nat):Int)),.row 3],.row 199 3 (List.map ZE row_6) 2,.row 208 3 (List.map Ze9 row_7) 2] st) [(true,240,1)] [16,96,240,352,272] (by decide) ?_ ?_ ?_
  ·simp only [*,go_sem,seval]
  ·rintro i255 x256 ⟨row_6,row_7⟩ ⟨sl,ob,n⟩ y3 hx4 hI5 hW6 h hy3
   simp only [go_sem,seval,Zc] at hI5
   obtain ⟨⟨g7_0,g7_1,g7_5,g7_8,g7_10,g7_11,g7_12⟩,og7_0,og7_1,og7_2,og7_3,og7_4,hn⟩:=hI5
   subst hn
   have hlhx4:=WF.slotL hW6 g7_1 (j:=0) rfl
   have q8:=ZA hx4
   have q9:=ZC hx4
   have q10:=Zj (ZB hx4) hlhx4
   try simp only [*,go_sem,seval]
   obtain ⟨v257,e11,h⟩:=Za h
   refine Zd (by have hh:=Zb0 e11;first|exact hh|(simp only [*,go_sem] at hh;exact hh)) ?_
   obtain ⟨p12,h⟩:=Zq h
   try simp only [Nat.reduceLeDiff] at p12
   obtain ⟨p13,h⟩:=Zq h
   try simp only [Nat.reduceLeDiff] at p13
   try simp only [*,go_sem,seval]
   refine ⟨_,[],[0,1,2,229,325],(Option.some.inj h).symm,by decide,?_⟩
   try simp only [*,go_sem,seval]
  ·rintro ⟨row_6,row_7⟩ ⟨sl,ob,n⟩ hI14 hW15 h
   simp only [go_sem,seval,Zc] at hI14
   obtain ⟨⟨g16_0,g16_1,g16_5,g16_8,g16_10,g16_11,g16_12⟩,og16_0,og16_1,og16_2,og16_3,og16_4,hn⟩:=hI14
   subst hn
   have q17:=Zy (String_1.length)
   try simp only [*,go_sem,seval]
   refine Zi h (fun i s st=>match s with | (row_388,row_389)=>IV [(0,.p false [.c (.sl 42 4 (List.map ZF append_0))]),(5,.bp 0 0),(8,.p false [.row 1]),(10,.bp 2 0),(11,.p false [.row 4]),(13,.p false [.c (.int .i64 ((i:Nat):Int))])] [.box 64 [.c (.int .i64 0),.nil 199 3],.row 45 2 (List.map Zl v1.1) 2,.box 64 [.c (.int .i64 ((v1.1.length:Nat):Int)),.row 3],.row 199 3 (List.map ZE row_388) 2,.row 208 3 (List.map Ze9 row_389) 1] st) [(true,4,1)] [0,1,2,3,4] (by decide) ?_ ?_ ?_
   ·simp only [*,go_sem,seval]
   ·rintro i446 x447 ⟨row_388,row_389⟩ ⟨sl,ob,n⟩ y18 hx19 hI20 hW21 h hy18
    simp only [go_sem,seval,Zc] at hI20
    obtain ⟨⟨g22_0,g22_5,g22_8,g22_10,g22_11,g22_13⟩,og22_0,og22_1,og22_2,og22_3,og22_4,hn⟩:=hI20
    subst hn
    have hlhx19:=WF.slotL hW21 g22_0 (j:=0) rfl
    have q23:=ZA hx19
    have q24:=ZC hx19
    have q25:=Zj (ZB hx19) hlhx19
    try simp only [*,go_sem,seval]
    obtain ⟨v448,e26,h⟩:=Za h
    refine ZfP (by have hh:=ZeY e26;first|exact hh|(simp only [*,go_sem] at hh;exact hh)) ?_
    try simp only [*,go_sem,seval]
    obtain ⟨v449,e27,h⟩:=Za h
    refine Zd (by have hh:=ZhS e27;first|exact hh|(simp only [*,go_sem] at hh;exact hh)) ?_
    try simp only [*,go_sem,seval]
    refine Zi h (fun i s st=>match s with | (row_467,row_468)=>IV [(0,.p false [.c (.sl 42 4 (List.map ZF append_0))]),(5,.bp 0 0),(8,.p false [.row 1]),(10,.bp 2 0),(11,.p false [.row 4]),(13,.p false [.c (.int .i64 ((i446:Nat):Int))]),(14,.p false [.row 5]),(15,.p false [.c (.int .i64 ((i:Nat):Int))])] [.box 64 [.c (.int .i64 0),.nil 199 3],.row 45 2 (List.map Zl v1.1) 2,.box 64 [.c (.int .i64 ((v1.1.length:Nat):Int)),.row 3],.row 199 3 (List.map ZE row_467) 2,.row 208 3 (List.map Ze9 row_468) 1,.row 120 2 (List.map YK v449) 2] st) [] [0,1,2,3,4,165] (by decide) ?_ ?_ ?_
    ·simp only [*,go_sem,seval]
    ·rintro i487 x488 ⟨row_467,row_468⟩ ⟨sl,ob,n⟩ y28 hx29 hI30 hW31 h hy28
     simp only [go_sem,seval,Zc] at hI30
     obtain ⟨⟨g32_0,g32_5,g32_8,g32_10,g32_11,g32_13,g32_14,g32_15⟩,og32_0,og32_1,og32_2,og32_3,og32_4,og32_5,hn⟩:=hI30
     subst hn
     have hlhx29:=WF.rowL hW31 og32_5
     have q33:=ZA hx29
     have q34:=ZC hx29
     have q35:=Zj (ZB hx29) hlhx29
     try simp only [*,go_sem,seval]
     refine Zi h (fun i s st=>match s with | (row_494,row_495)=>IV [(0,.p false [.c (.sl 42 4 (List.map ZF append_0))]),(5,.bp 0 0),(8,.p false [.row 1]),(10,.bp 2 0),(11,.p false [.row 4]),(13,.p false [.c (.int .i64 ((i446:Nat):Int))]),(14,.p false [.row 5]),(15,.p false [.c (.int .i64 ((i487:Nat):Int))]),(16,.p false [.c (.int .i64 ((i:Nat):Int))])] [.box 64 [.c (.int .i64 0),.nil 199 3],.row 45 2 (List.map Zl v1.1) 2,.box 64 [.c (.int .i64 ((v1.1.length:Nat):Int)),.row 3],.row 199 3 (List.map ZE row_494) 2,.row 208 3 (List.map Ze9 row_495) 1,.row 120 2 (List.map YK v449) 2] st) [] [0,1,2,3,4,5] (by decide) ?_ ?_ ?_
     ·simp only [*,go_sem,seval]
     ·rintro i498 x499 ⟨row_494,row_495⟩ ⟨sl,ob,n⟩ y36 hx37 hI38 hW39 h hy36
      simp only [go_sem,seval,Zc] at hI38
      obtain ⟨⟨g40_0,g40_5,g40_8,g40_10,g40_11,g40_13,g40_14,g40_15,g40_16⟩,og40_0,og40_1,og40_2,og40_3,og40_4,og40_5,hn⟩:=hI38
      subst hn
      have hlhx37:=WF.elL (WF.slotD hW39 g40_0 (j:=0) rfl) hx19 (j:=3) rfl
      have q41:=ZA hx37
      have q42:=ZC hx37
      have q43:=Zj (ZB hx37) hlhx37
      try simp only [*,go_sem,seval]
      obtain ⟨v500,e44,h⟩:=Za h
      refine Zd (by have hh:=ZkZ e44;first|exact hh|(simp only [*,go_sem] at hh;exact hh)) ?_
      try simp only [*,go_sem,seval]
      obtain ⟨v501,e45,h⟩:=Za h
      refine Zd (by have hh:=Zo7 e45;first|exact hh|(simp only [*,go_sem] at hh;exact hh)) ?_
      try simp only [*,go_sem,seval]
      refine Ze h (fun _ h=>?_) fun _ h=>?_<;>try simp only [*,go_sem,seval]
      ·refine ⟨_,[],[0,1,2,3,4,5],(Option.some.inj h).symm,by decide,?_⟩
       try simp only [*,go_sem,seval]
      ·refine Ze h (fun _ h=>?_) fun _ h=>?_<;>try simp only [*,go_sem,seval]
       ·replace h:=Zn h hy36
        replace h:=Zn h hy28
        replace h:=Zn h hy18
        cases h
        try simp only [*,go_sem,seval]
       ·obtain ⟨p48,h⟩:=Zq h
        try simp only [Nat.reduceLeDiff] at p48
        obtain ⟨p49,h⟩:=Zq h
        try simp only [Nat.reduceLeDiff] at p49
        try simp only [*,go_sem,seval]
        refine ⟨_,[],[0,1,2,550,790,5],(Option.some.inj h).symm,by decide,?_⟩
        try simp only [*,go_sem,seval]
     ·rintro ⟨row_494,row_495⟩ ⟨sl,ob,n⟩ hI50 hW51 h
      simp only [go_sem,seval,Zc] at hI50
      obtain ⟨⟨g52_0,g52_5,g52_8,g52_10,g52_11,g52_13,g52_14,g52_15,g52_16⟩,og52_0,og52_1,og52_2,og52_3,og52_4,og52_5,hn⟩:=hI50
      subst hn
      have q53:=Zy (x447.thn.length)
      try simp only [*,go_sem,seval]
      refine ⟨_,[],[0,1,2,3,4,5],(Option.some.inj h).symm,by decide,?_⟩
      try simp only [*,go_sem,seval]
    ·rintro ⟨row_467,row_468⟩ ⟨sl,ob,n⟩ hI54 hW55 h
     simp only [go_sem,seval,Zc] at hI54
     obtain ⟨⟨g56_0,g56_5,g56_8,g56_10,g56_11,g56_13,g56_14,g56_15⟩,og56_0,og56_1,og56_2,og56_3,og56_4,og56_5,hn⟩:=hI54
     subst hn
     have q57:=Zy (v449.length)
     try simp only [*,go_sem,seval]
     refine ⟨_,[],[0,1,2,3,4],(Option.some.inj h).symm,by decide,?_⟩
     try simp only [*,go_sem,seval]
   ·rintro ⟨row_388,row_389⟩ ⟨sl,ob,n⟩ hI58 hW59 h
    simp only [go_sem,seval,Zc] at hI58
    obtain ⟨⟨g60_0,g60_5,g60_8,g60_10,g60_11,g60_13⟩,og60_0,og60_1,og60_2,og60_3,og60_4,hn⟩:=hI58
    subst hn
    have q61:=Zy (append_0.length)
    cases h
    try simp only [*,go_sem,seval]
 ·cases h
  try simp only [*,go_sem,seval]
theorem ZIm {append_0:(List Zg)} {String_1:(List Zb)} {a_2:ByteArray} {r:((List Zb) × QZ × Bool)} (h:ZGx append_0 String_1 a_2=some r):Zk Tryz.prog J0 36 [(false,[.sl 42 4 (List.map ZF append_0)]),(false,[.sl 45 2 (List.map Zl String_1)]),(false,[.str a_2])] [(false,[(false,.sl 45 2 (List.map Zl r.1))]),(true,[(false,.int .i64 r.2.1.beliefs.nodes),(false,.sl 199 3 (List.map ZE r.2.1.beliefs.reasons)),(false,.sl 3 1 (List.map ZI r.2.1.assumed)),(false,.sl 3 1 (List.map ZI r.2.1.bad))]),(false,[(false,.bool r.2.2)])]:=by
 refine ZJu [(10,[2,3,4,5,6,0,1,7,8,9,10,11,12,13],false)] Tryz.func36 (by kernel_rfl) rfl (by kernel_rfl) (by kernel_rfl) ?_
 unfold ZGx at h
 simp only [fnS,f36,Zm,go_sem,ZFO,seval]
 obtain ⟨v1,e1,h⟩:=Za h
 refine Zd (by have hh:=Zig e1;first | exact hh | (simp only [go_sem,ZFO, *] at hh;exact hh)) ?_
 try simp only [go_sem,ZFO,seval, *]
 refine Ze h (fun c2 h=>?_) (fun c2 h=>?_)<;>try simp only [go_sem,ZFO,seval, *]
 ·refine Ze h (fun c3 h=>?_) (fun c3 h=>?_)<;>try simp only [go_sem,ZFO,seval, *]
  ·obtain rfl:=Option.some.inj h
   try simp only [go_sem,ZFO,seval, *]
  ·refine Zi h (fun i _ st=>IV [(1,.p false [.c (.sl 45 2 (List.map Zl String_1))]),(2,.p false [.c (.str a_2)]),(7,.bp 0 0),(9,.p false [.row 1]),(10,.bp 2 0),(32,.p false [.c (.sl 42 4 (List.map ZF append_0))]),(33,.p false [.c (.int .i64 ((append_0.length:Nat):Int))]),(34,.p false [.c (.int .i64 ((i:Nat):Int))])] [.box 67 [.c (.int .i64 0),.nil 199 3,.nil 3 1,.nil 3 1],.row 45 2 (List.map Zl v1.1) 2,.box 64 [.c (.int .i64 v1.2.1.nodes),.row 3],.row 199 3 (List.map ZE v1.2.1.reasons) 2] st) [] [16,80,160,81] (by decide) ?_ ?_ ?_
   ·simp only [go_sem,ZFO,seval, *]
   ·rintro i15 x16 ⟨⟩ ⟨sl,ob,n⟩ y4 hx5 hI6 hW7 h hy4
    simp only [go_sem,ZFO,seval,Zc] at hI6
    obtain ⟨⟨g8_1,g8_2,g8_7,g8_9,g8_10,g8_32,g8_33,g8_34⟩,og8_0,og8_1,og8_2,og8_3,hn⟩:=hI6
    subst hn
    have hlhx5:=WF.slotL hW7 g8_32 (j:=0) rfl
    have q9:=ZA hx5
    have q10:=ZC hx5
    have q11:=Zj (ZB hx5) hlhx5
    try simp only [go_sem,ZFO,seval, *]
    obtain ⟨v17,e12,h⟩:=Za h
    refine Zd (by have hh:=ZHl e12;first | exact hh | (simp only [go_sem,ZFO, *] at hh;exact hh)) ?_
    try simp only [go_sem,ZFO,seval, *]
    refine Ze h (fun c13 h=>?_) (fun c13 h=>?_)<;>try simp only [go_sem,ZFO,seval, *]
    ·refine ⟨_,[],[0,1,2,3],(Option.some.inj h).symm,by decide,?_⟩
     try simp only [go_sem,ZFO,seval, *]
    ·replace h:=Zn h hy4
     obtain rfl:=Option.some.inj h
     try simp only [go_sem,ZFO,seval, *]
   ·rintro ⟨⟩ ⟨sl,ob,n⟩ hI14 hW15 h
    simp only [go_sem,ZFO,seval,Zc] at hI14
    obtain ⟨⟨g16_1,g16_2,g16_7,g16_9,g16_10,g16_32,g16_33,g16_34⟩,og16_0,og16_1,og16_2,og16_3,hn⟩:=hI14
    subst hn
    have q17:=Zy (append_0.length)
    obtain ⟨p18,h⟩:=Zq h
    try simp only [go_sem,ZFO,seval, *]
    obtain ⟨v18,e19,h⟩:=Za h
    refine Zd (by have hh:=ZiX e19;first | exact hh | (simp only [go_sem,ZFO, *] at hh;exact hh)) ?_
    try simp only [go_sem,ZFO,seval, *]
    refine Zi h (fun i row_21 st=>IV [(2,.p false [.c (.str a_2)]),(7,.bp 0 0),(9,.p false [.row 1]),(14,.bp 2 0),(55,.p false [.row 1]),(56,.p false [.c (.int .i64 ((v1.1.length:Nat):Int))]),(57,.p false [.c (.int .i64 ((i:Nat):Int))])] [.box 67 [.c (.int .i64 0),.nil 199 3,.nil 3 1,.nil 3 1],.row 45 2 (List.map Zl v1.1) 2,.box 67 [.c (.int .i64 v1.2.1.nodes),.row 3,.row 4,.row 5],.row 199 3 (List.map ZE (List.drop String_1.length v1.2.1.reasons)) 2,.row 3 1 (List.map ZI v18) 2,.row 3 1 (List.map ZI row_21) 2] st) [(true,212,3)] [0,1,212,116,180,292] (by decide) ?_ ?_ ?_
    ·simp only [go_sem,ZFO,seval, *]
    ·rintro i24 x25 row_21 ⟨sl,ob,n⟩ y20 hx21 hI22 hW23 h hy20
     simp only [go_sem,ZFO,seval,Zc] at hI22
     obtain ⟨⟨g24_2,g24_7,g24_9,g24_14,g24_55,g24_56,g24_57⟩,og24_0,og24_1,og24_2,og24_3,og24_4,og24_5,hn⟩:=hI22
     subst hn
     have hlhx21:=WF.rowL hW23 og24_1
     have q25:=ZA hx21
     have q26:=ZC hx21
     have q27:=Zj (ZB hx21) hlhx21
     try simp only [go_sem,ZFO,seval, *]
     refine Ze h (fun c28 h=>?_) (fun c28 h=>?_)<;>try simp only [go_sem,ZFO,seval, *]
     ·obtain ⟨p29,h⟩:=Zq h
      try simp only [Nat.reduceLeDiff] at p29
      try simp only [go_sem,ZFO,seval, *]
      refine ⟨_,[],[0,1,2,3,4,246],(Option.some.inj h).symm,by decide,?_⟩
      try simp only [go_sem,ZFO,seval, *]
     ·refine ⟨_,[],[0,1,2,3,4,5],(Option.some.inj h).symm,by decide,?_⟩
      try simp only [go_sem,ZFO,seval, *]
    ·rintro row_21 ⟨sl,ob,n⟩ hI30 hW31 h
     simp only [go_sem,ZFO,seval,Zc] at hI30
     obtain ⟨⟨g32_2,g32_7,g32_9,g32_14,g32_55,g32_56,g32_57⟩,og32_0,og32_1,og32_2,og32_3,og32_4,og32_5,hn⟩:=hI30
     subst hn
     have q33:=Zy (v1.1.length)
     obtain rfl:=Option.some.inj h
     try simp only [go_sem,ZFO,seval, *]
 ·obtain rfl:=Option.some.inj h
  try simp only [go_sem,ZFO,seval, *]
end Go.Proofs.YtfehfkfdfmcgfaaGreatDoor
namespace Go.Proofs.YtfehfkfdfmcgfaaGreatDoor
open Go.Proofs.Tryz
set_option linter.unusedSimpArgs false
set_option linter.unusedVariables false
set_option maxRecDepth 1000000
set_option maxHeartbeats 4000000
theorem Zir {rules_0:(List Zg)} {base_1:(List Zb)} {r:((List Zb) × Zr × Bool)} (h:Qi rules_0 base_1=some r):Zk Tryz.prog J0 63 [(false,[.sl 42 4 (List.map ZF rules_0)]),(false,[.sl 45 2 (List.map Zl base_1)])] [(false,[(false,.sl 45 2 (List.map Zl r.1))]),(true,[(false,.int .i64 r.2.1.nodes),(false,.sl 199 3 (List.map ZE r.2.1.reasons))]),(false,[(false,.bool r.2.2)])]:=by
 refine fnk Tryz.func63 (by kernel_rfl) rfl (by kernel_rfl) (by kernel_rfl) ?_
 unfold Qi at h
 simp only [fnS,f63,Zm,go_sem,seval]
 obtain ⟨b,a,h⟩:=Za h
 refine Zd (Zlw a) ?_
 try simp only [*,go_sem,seval]
 refine Ze h (fun _ h=>?_) fun _ h=>?_<;>try simp only [*,go_sem,seval]
 iterate 2 (cases h;try simp only [*,go_sem,seval])
end Go.Proofs.YtfehfkfdfmcgfaaGreatDoor
namespace Go.Proofs.YtfehfkfdfmcgfaaGreatDoor
open Go.Proofs.Tryz
set_option linter.unusedSimpArgs false
set_option linter.unusedVariables false
set_option maxRecDepth 1000000
set_option maxHeartbeats 4000000
theorem ZIb {rules_0:(List Zg)} {base_1:(List Zb)} {bad_2:ByteArray} {r:((List Zb) × QZ × Bool)} (h:ZGr rules_0 base_1 bad_2=some r):Zk Tryz.prog J0 33 [(false,[.sl 42 4 (List.map ZF rules_0)]),(false,[.sl 45 2 (List.map Zl base_1)]),(false,[.str bad_2])] [(false,[(false,.sl 45 2 (List.map Zl r.1))]),(true,[(false,.int .i64 r.2.1.beliefs.nodes),(false,.sl 199 3 (List.map ZE r.2.1.beliefs.reasons)),(false,.sl 3 1 (List.map ZI r.2.1.assumed)),(false,.sl 3 1 (List.map ZI r.2.1.bad))]),(false,[(false,.bool r.2.2)])]:=by
 refine ZJu [(8,[2,3,4,5,6,0,1,7,8,9,10,11,12,13,14,15,16,17,18],false)] Tryz.func33 (by kernel_rfl) rfl (by kernel_rfl) (by kernel_rfl) ?_
 unfold ZGr at h
 simp only [fnS,f33,Zm,go_sem,ZFO,seval]
 obtain ⟨v1,e1,h⟩:=Za h
 refine Zd (by have hh:=Zir e1;first | exact hh | (simp only [go_sem,ZFO, *] at hh;exact hh)) ?_
 try simp only [go_sem,ZFO,seval, *]
 refine Zi h (fun i ok_4 st=>IV [(0,.p false [.c (.sl 42 4 (List.map ZF rules_0))]),(1,.p false [.c (.sl 45 2 (List.map Zl base_1))]),(2,.p false [.c (.str bad_2)]),(7,.bp 0 0),(9,.p false [.row 1]),(10,.bp 2 0),(11,.p false [.c (.bool ok_4)]),(12,.p false [.c (.int .i64 ((i:Nat):Int))])] [.box 67 [.c (.int .i64 0),.nil 199 3,.nil 3 1,.nil 3 1],.row 45 2 (List.map Zl v1.1) 2,.box 64 [.c (.int .i64 v1.2.1.nodes),.row 3],.row 199 3 (List.map ZE v1.2.1.reasons) 2] st) [] [16,80,160,81] (by decide) ?_ ?_ ?_
 ·simp only [go_sem,ZFO,seval, *]
 ·rintro i11 x12 ok_4 ⟨sl,ob,n⟩ y2 hx3 hI4 hW5 h hy2
  simp only [go_sem,ZFO,seval,Zc] at hI4
  obtain ⟨⟨g6_0,g6_1,g6_2,g6_7,g6_9,g6_10,g6_11,g6_12⟩,og6_0,og6_1,og6_2,og6_3,hn⟩:=hI4
  subst hn
  have hlhx3:=WF.slotL hW5 g6_0 (j:=0) rfl
  have q7:=ZA hx3
  have q8:=ZC hx3
  have q9:=Zj (ZB hx3) hlhx3
  try simp only [go_sem,ZFO,seval, *]
  refine Ze h (fun c10 h=>?_) (fun c10 h=>?_)<;>try simp only [go_sem,ZFO,seval, *]
  ·obtain ⟨v13,e11,h⟩:=Za h
   refine Zd (by have hh:=ZHt e11;first | exact hh | (simp only [go_sem,ZFO, *] at hh;exact hh)) ?_
   try simp only [go_sem,ZFO,seval, *]
   refine ⟨_,[],[0,1,2,3],(Option.some.inj h).symm,by decide,?_⟩
   try simp only [go_sem,ZFO,seval, *]
  ·refine ⟨_,[],[0,1,2,3],(Option.some.inj h).symm,by decide,?_⟩
   try simp only [go_sem,ZFO,seval, *]
 ·rintro ok_4 ⟨sl,ob,n⟩ hI12 hW13 h
  simp only [go_sem,ZFO,seval,Zc] at hI12
  obtain ⟨⟨g14_0,g14_1,g14_2,g14_7,g14_9,g14_10,g14_11,g14_12⟩,og14_0,og14_1,og14_2,og14_3,hn⟩:=hI12
  subst hn
  have q15:=Zy (rules_0.length)
  try simp only [go_sem,ZFO,seval, *]
  refine Ze h (fun c16 h=>?_) (fun c16 h=>?_)<;>try simp only [go_sem,ZFO,seval, *]
  ·refine Ze h (fun c17 h=>?_) (fun c17 h=>?_)<;>try simp only [go_sem,ZFO,seval, *]
   ·obtain rfl:=Option.some.inj h
    try simp only [go_sem,ZFO,seval, *]
   ·obtain ⟨p18,h⟩:=Zq h
    try simp only [go_sem,ZFO,seval, *]
    obtain ⟨v14,e19,h⟩:=Za h
    refine Zd (by have hh:=ZhF e19;first | exact hh | (simp only [go_sem,ZFO, *] at hh;exact hh)) ?_
    try simp only [go_sem,ZFO,seval, *]
    obtain ⟨v15,e20,h⟩:=Za h
    refine Zd (by have hh:=ZGJ e20;first | exact hh | (simp only [go_sem,ZFO, *] at hh;exact hh)) ?_
    try simp only [go_sem,ZFO,seval, *]
    obtain ⟨v16,e21,h⟩:=Za h
    refine Zd (by have hh:=ZhF e21;first | exact hh | (simp only [go_sem,ZFO, *] at hh;exact hh)) ?_
    obtain rfl:=Option.some.inj h
    try simp only [go_sem,ZFO,seval, *]
  ·obtain rfl:=Option.some.inj h
   try simp only [go_sem,ZFO,seval, *]
end Go.Proofs.YtfehfkfdfmcgfaaGreatDoor
namespace Go.Proofs.YtfehfkfdfmcgfaaGreatDoor
open Go.RowKit
structure Enc {α:Type} (c:ZbC α) (f:α→List CT):Prop where
 to:∀{w:World} {cs:List Value} {x:α} {L:List Nat},c.rep w cs x L→RCs w (f x) cs L
 of:∀{w:World} {cs:List Value} {x:α} {L:List Nat},RCs w (f x) cs L→c.rep w cs x L
section
variable {α:Type} {c:ZbC α} {f:α→List CT} {w:World}
theorem Enc.reps (h:Enc c f):∀{ds:List α} {xs:List Value} {L:List Nat},c.reps w xs ds L→REs w c.size (ds.map f) xs L
 | [],_,_,h1=>h1
 | _::_,_,_,⟨c1,c2,L1,L2,h1,h2,h3,h4⟩=>⟨c1,c2,L1,L2,h1,h2,⟨h.to h3,c.len h3⟩,h.reps h4⟩
theorem Enc.reps_of (h:Enc c f):∀{ds:List α} {xs:List Value} {L:List Nat},REs w c.size (ds.map f) xs L→c.reps w xs ds L
 | [],_,_,h1=>h1
 | _::_,_,_,⟨c1,c2,L1,L2,h1,h2,h3,h4⟩=>⟨c1,c2,L1,L2,h1,h2,h.of h3.1,h.reps_of h4⟩
theorem Enc.sl (h:Enc c f) (e:Nat) {v:Value} {ds:List α} {L:List Nat}:(ZlE c).rep w [v] ds L↔RC w (.sl e c.size (ds.map f)) v L:=by
 constructor
 ·rintro ⟨A,cap,hv,h1,h2,xs,L0,L1,hL,h3,h4⟩
  obtain rfl:v=_:=by simpa using hv
  exact ⟨A,cap,xs,L0,L1,by simp,by simpa using h1,h2,hL,c.pos,by simpa using h3,h.reps h4⟩
 ·rintro ⟨A,cap,xs,L0,L1,hv,h1,h2,hL,h0,h3,h4⟩
  exact ⟨A,cap,by simpa using hv,by simpa using h1,h2,xs,L0,L1,hL,by simpa using h3,h.reps_of h4⟩
theorem RCs.solo {x:CT} {v:Value} {L:List Nat} (h:RC w x v L):RCs w [x] [v] L:=⟨v,[],L,[],rfl,by simp,h,rfl,rfl⟩
theorem RCs.more {x:CT} {v:Value} {L M:List Nat} {r:List CT} {cs:List Value} (h:RC w x v L) (k:RCs w r cs M):RCs w (x::r) (v::cs) (L++M):=⟨v,cs,L,M,rfl,rfl,h,k⟩
end
theorem ZKL:Enc ZKt ZI where
 to:=fun ⟨h1,h2⟩=>by subst h1;subst h2;exact RCs.solo ⟨rfl,rfl⟩
 of:=fun ⟨v,cs',L1,L2,h1,h2,h3,h4,h5⟩=>by
  obtain ⟨rfl,rfl⟩:=h3
  subst h4;subst h5;exact ⟨h1,h2⟩
theorem encStr:Enc ZEr Zx where
 to:=fun ⟨h1,h2,h3⟩=>by subst h1;subst h2;exact RCs.solo ⟨rfl,rfl,h3⟩
 of:=fun ⟨v,cs',L1,L2,h1,h2,h3,h4,h5⟩=>by
  obtain ⟨rfl,rfl,t⟩:=h3
  subst h4;subst h5;exact ⟨h1,h2,t⟩
def Zz7 (w:World):Bool × List CT→Value→Prop:=ZkB w fun _=>False
theorem ZCc {α:Type} {c:ZbC α} {f:α→List CT} (h:Enc c f) (e:Nat) {w:World} {v:Value} {ds:List α} {L:List Nat} (hr:(ZlE c).rep w [v] ds L):Zz7 w (false,[.sl e c.size (ds.map f)]) v:=.inr ⟨rfl,_,L,rfl,(h.sl e).1 hr,fun _ _ h=>h⟩
theorem ZMz (w:World) (s:ByteArray) (h:s.size≤9223372036854775807):Zz7 w (false,[.str s]) (.string s):=.inr ⟨rfl,_,[],rfl,⟨rfl,rfl,h⟩,fun _ _ h=>h⟩
section
variable {w w':World} {v:Value} {e:Ending}
end
section
variable {P:Program} {J:World→Prop} {f:FuncId} {args:List (Bool × List CT)} {res:List RT}
theorem Zk.calls (h:Zk P J f args res) {w:World} {vs:List Value} (hj:J w) (ha:ZL (Zz7 w) args vs):Calls P f vs.toArray w fun e w'=>∃v n,e=.returned v∧ZjD w' w.heap.size n res v∧Below w.heap.size w w':=
 (h.2 w (fun _=>False) vs hj (fun _ h=>h.elim) ha).mono fun _ _ ⟨v,n,h1,h2,_,h3⟩=>⟨v,n,h1,h2,h3⟩
theorem ZMp {w:World} {B:Nat} {n:Nat→Prop}:∀{l:List CT} {cs:List Value} {F:List Nat},OCs w B n (l.map fun y=>(false,y)) cs F→∃F',F'.Sublist F∧RCs w l cs F'
 | [],_,_,⟨h1,h2⟩=>⟨[],by simp,h1,rfl⟩
 | x::l,_,_,⟨v,vs,F1,F2,rfl,rfl,h1,h2⟩=>by
  obtain ⟨F2',s2,r2⟩:=ZMp h2
  have key:∃F1',F1'.Sublist F1∧RC w x v F1':=by
   cases x with
   | sl e q xs=>
    obtain ⟨hm,cs,L,o1,o2,o3,o4⟩:=h1
    obtain ⟨A,cap,L0,s1,s2,s3,s4,s5⟩:=Sl.row o1
    exact ⟨L0++L,by rw [o3];exact List.Sublist.append s5 (List.Sublist.refl _),A,cap,cs,L0,L,s1,s2,s3,rfl,hm,s4,o2⟩
   | int k i=>exact ⟨[],by simp,h1.1⟩
   | bool b=>exact ⟨[],by simp,h1.1⟩
   | str s=>exact ⟨[],by simp,h1.1⟩
   | ifc s=>exact ⟨[],by simp,h1.1⟩
   | any=>exact ⟨[],by simp,h1.1⟩
   | _=>exact h1.elim
  obtain ⟨F1',s1,r1⟩:=key
  exact ⟨F1'++F2',List.Sublist.append s1 s2,v,vs,F1',F2',rfl,rfl,r1,r2⟩
def ZLr {α β:Type} (c:ZbC α) (c2:ZbC β) (w:World) (ds:List α) (x:β) (b:Bool):Ending→World→Prop:=fun e w'=>∃A cap cs L0 L1,e=.returned (.tuple #[.slice A ds.length cap,.agg (cs:List Value).toArray,.bool b])∧Got (ZlE c) w.heap.size [.slice A ds.length cap] ds L0 w'∧Got c2 w.heap.size cs x L1 w'∧(∀y∈L0,y∉L1)∧Below w.heap.size w w'
theorem Zk.givesSXB {α β:Type} {c:ZbC α} {g:α→List CT} {c2:ZbC β} {g2:β→List CT} {t:Nat} {ds:List α} {x:β} {b:Bool} (h:Zk P J f args [(false,[(false,.sl t c.size (ds.map g))]),(true,(g2 x).map fun y=>(false,y)),(false,[(false,.bool b)])]) (hg:Enc c g) (hg2:Enc c2 g2) {w:World} {vs:List Value} (hj:J w) (ha:ZL (Zz7 w) args vs):Calls P f vs.toArray w (ZLr c c2 w ds x b):=
 (h.calls hj ha).mono fun _ w' ⟨v,n,h1,⟨us,F,⟨u,us',F1,F2,e1,e2,p1,u2,us2,F3,F4,e3,e4,p2,u3,us3,F5,F6,e5,e6,p3,e7,e8⟩,hO,e9⟩,h3⟩=>by
  subst e7 e8 e5 e6 e3 e4 e1 e2
  rcases p3 with ⟨p3,_⟩ | ⟨_,ct,p3,p4⟩
  ·simp at p3
  obtain rfl:_=ct:=by simpa using p3
  obtain ⟨⟨p5,_⟩,rfl⟩:=p4
  subst p5
  rcases p2 with ⟨_,cs,rfl,p2⟩ | ⟨p2,_⟩
  rotate_left
  ·simp at p2
  rcases p1 with ⟨p1,_⟩ | ⟨_,ct,p1,p4⟩
  ·simp at p1
  obtain rfl:_=ct:=by simpa using p1
  obtain ⟨L0,s0,r0⟩:=ZMp (l:=[.sl t c.size (ds.map g)]) (cs:=[u]) (F:=F1) ⟨u,[],F1,[],rfl,by simp,p4,rfl,rfl⟩
  obtain ⟨u',_,L01,L02,e1,rfl,r1,rfl,rfl⟩:=r0
  simp only [List.cons.injEq,and_true] at e1
  subst e1
  simp only [List.append_nil] at hO s0
  obtain ⟨L1,s1,r2⟩:=ZMp p2
  have hr:=(hg.sl t).2 r1
  obtain ⟨A,cap,e2,_⟩:=id hr
  simp only [List.cons.injEq,and_true] at e2
  subst e2
  have hnd:=hO.nodup
  rw [List.nodup_append] at hnd
  exact ⟨A,cap,cs,L01,L1,by rw [h1,e9];rfl,⟨hr,hO.sub (s0.trans (List.sublist_append_left _ _))⟩,⟨hg2.of r2,hO.sub (s1.trans (List.sublist_append_right _ _))⟩,fun y m m'=>hnd.2.2 y (s0.subset m) y (s1.subset m') rfl,h3⟩
end
end Go.Proofs.YtfehfkfdfmcgfaaGreatDoor
namespace Go.Proofs.YtfehfkfdfmcgfaaGreatDoor
theorem ZLq:Enc ZJZ Zl where
 to:=fun {w cs x L} h=>by
  obtain ⟨A1,c1,L1,rfl,rfl,t0,n1,m1,s1⟩:=h
  have hh:RCs w (Zl x) _ _:=RCs.more ⟨rfl,rfl,t0⟩ (RCs.solo ((encStr.sl 9).1 ⟨A1,c1,rfl,n1,m1,s1⟩))
  simpa only [List.nil_append,List.append_nil,List.append_assoc] using hh
 of:=fun {w cs x L} h=>by
  obtain ⟨v0,r0,K0,M0,rfl,rfl,h0,v1,r1,K1,M1,rfl,rfl,h1,rfl,rfl⟩:=h
  obtain ⟨rfl,rfl,t0⟩:=h0
  obtain ⟨A1,c1,e1,n1,m1,s1⟩:=(encStr.sl 9).2 h1
  cases e1
  exact ⟨A1,c1,_,rfl,by simp only [List.nil_append,List.append_nil,List.append_assoc],t0,n1,m1,s1⟩
theorem ZMx:Enc ZKb ZK where
 to:=fun {w cs x L} h=>by
  obtain ⟨A1,c1,L1,rfl,rfl,t0,t1,t2,n1,m1,s1⟩:=h
  have hh:RCs w (ZK x) _ _:=RCs.more ⟨rfl,rfl⟩ (RCs.more ⟨rfl,rfl,t0⟩ (RCs.more ((encStr.sl 9).1 ⟨A1,c1,rfl,n1,m1,s1⟩) (RCs.more ⟨rfl,rfl,t1⟩ (RCs.solo ⟨rfl,rfl,t2⟩))))
  simpa only [List.nil_append,List.append_nil,List.append_assoc] using hh
 of:=fun {w cs x L} h=>by
  obtain ⟨v0,r0,K0,M0,rfl,rfl,h0,v1,r1,K1,M1,rfl,rfl,h1,v2,r2,K2,M2,rfl,rfl,h2,v3,r3,K3,M3,rfl,rfl,h3,v4,r4,K4,M4,rfl,rfl,h4,rfl,rfl⟩:=h
  obtain ⟨rfl,rfl⟩:=h0
  obtain ⟨rfl,rfl,t0⟩:=h1
  obtain ⟨A1,c1,e1,n1,m1,s1⟩:=(encStr.sl 9).2 h2
  cases e1
  obtain ⟨rfl,rfl,t1⟩:=h3
  obtain ⟨rfl,rfl,t2⟩:=h4
  exact ⟨A1,c1,_,rfl,by simp only [List.nil_append,List.append_nil,List.append_assoc],t0,t1,t2,n1,m1,s1⟩
theorem ZLQ:Enc ZJM ZG where
 to:=fun {w cs x L} h=>by
  obtain ⟨A1,c1,L1,rfl,rfl,t0,n1,m1,s1⟩:=h
  have hh:RCs w (ZG x) _ _:=RCs.more ⟨rfl,rfl⟩ (RCs.more ⟨rfl,rfl,t0⟩ (RCs.solo ((encStr.sl 9).1 ⟨A1,c1,rfl,n1,m1,s1⟩)))
  simpa only [List.nil_append,List.append_nil,List.append_assoc] using hh
 of:=fun {w cs x L} h=>by
  obtain ⟨v0,r0,K0,M0,rfl,rfl,h0,v1,r1,K1,M1,rfl,rfl,h1,v2,r2,K2,M2,rfl,rfl,h2,rfl,rfl⟩:=h
  obtain ⟨rfl,rfl⟩:=h0
  obtain ⟨rfl,rfl,t0⟩:=h1
  obtain ⟨A1,c1,e1,n1,m1,s1⟩:=(encStr.sl 9).2 h2
  cases e1
  exact ⟨A1,c1,_,rfl,by simp only [List.nil_append,List.append_nil,List.append_assoc],t0,n1,m1,s1⟩
theorem ZMy:Enc ZKa ZF where
 to:=fun {w cs x L} h=>by
  obtain ⟨A1,c1,L1,A2,c2,L2,rfl,rfl,t0,n1,m1,s1,n2,m2,s2⟩:=h
  have hh:RCs w (ZF x) _ _:=RCs.more ⟨rfl,rfl,t0⟩ (RCs.more ⟨rfl,rfl⟩ (RCs.more ((ZMx.sl 173).1 ⟨A1,c1,rfl,n1,m1,s1⟩) (RCs.solo ((ZLQ.sl 50).1 ⟨A2,c2,rfl,n2,m2,s2⟩))))
  simpa only [List.nil_append,List.append_nil,List.append_assoc] using hh
 of:=fun {w cs x L} h=>by
  obtain ⟨v0,r0,K0,M0,rfl,rfl,h0,v1,r1,K1,M1,rfl,rfl,h1,v2,r2,K2,M2,rfl,rfl,h2,v3,r3,K3,M3,rfl,rfl,h3,rfl,rfl⟩:=h
  obtain ⟨rfl,rfl,t0⟩:=h0
  obtain ⟨rfl,rfl⟩:=h1
  obtain ⟨A1,c1,e1,n1,m1,s1⟩:=(ZMx.sl 173).2 h2
  cases e1
  obtain ⟨A2,c2,e2,n2,m2,s2⟩:=(ZLQ.sl 50).2 h3
  cases e2
  exact ⟨A1,c1,_,A2,c2,_,rfl,by simp only [List.nil_append,List.append_nil,List.append_assoc],t0,n1,m1,s1,n2,m2,s2⟩
theorem ZLP:Enc ZJV ZE where
 to:=fun {w cs x L} h=>by
  obtain ⟨A1,c1,L1,A2,c2,L2,rfl,rfl,n1,m1,s1,n2,m2,s2⟩:=h
  have hh:RCs w (ZE x) _ _:=RCs.more ⟨rfl,rfl⟩ (RCs.more ((ZKL.sl 3).1 ⟨A1,c1,rfl,n1,m1,s1⟩) (RCs.solo ((ZKL.sl 3).1 ⟨A2,c2,rfl,n2,m2,s2⟩)))
  simpa only [List.nil_append,List.append_nil,List.append_assoc] using hh
 of:=fun {w cs x L} h=>by
  obtain ⟨v0,r0,K0,M0,rfl,rfl,h0,v1,r1,K1,M1,rfl,rfl,h1,v2,r2,K2,M2,rfl,rfl,h2,rfl,rfl⟩:=h
  obtain ⟨rfl,rfl⟩:=h0
  obtain ⟨A1,c1,e1,n1,m1,s1⟩:=(ZKL.sl 3).2 h1
  cases e1
  obtain ⟨A2,c2,e2,n2,m2,s2⟩:=(ZKL.sl 3).2 h2
  cases e2
  exact ⟨A1,c1,_,A2,c2,_,rfl,by simp only [List.nil_append,List.append_nil,List.append_assoc],n1,m1,s1,n2,m2,s2⟩
theorem ZMf:Enc ZKx ZAT where
 to:=fun {w cs x L} h=>by
  obtain ⟨A1,c1,L1,A2,c2,L2,A3,c3,L3,rfl,rfl,n1,m1,s1,n2,m2,s2,n3,m3,s3⟩:=h
  have hh:RCs w (ZAT x) _ _:=RCs.more ⟨rfl,rfl⟩ (RCs.more ((ZLP.sl 199).1 ⟨A1,c1,rfl,n1,m1,s1⟩) (RCs.more ((ZKL.sl 3).1 ⟨A2,c2,rfl,n2,m2,s2⟩) (RCs.solo ((ZKL.sl 3).1 ⟨A3,c3,rfl,n3,m3,s3⟩))))
  simpa only [List.nil_append,List.append_nil,List.append_assoc] using hh
 of:=fun {w cs x L} h=>by
  obtain ⟨v0,r0,K0,M0,rfl,rfl,h0,v1,r1,K1,M1,rfl,rfl,h1,v2,r2,K2,M2,rfl,rfl,h2,v3,r3,K3,M3,rfl,rfl,h3,rfl,rfl⟩:=h
  obtain ⟨rfl,rfl⟩:=h0
  obtain ⟨A1,c1,e1,n1,m1,s1⟩:=(ZLP.sl 199).2 h1
  cases e1
  obtain ⟨A2,c2,e2,n2,m2,s2⟩:=(ZKL.sl 3).2 h2
  cases e2
  obtain ⟨A3,c3,e3,n3,m3,s3⟩:=(ZKL.sl 3).2 h3
  cases e3
  exact ⟨A1,c1,_,A2,c2,_,A3,c3,_,rfl,by simp only [List.nil_append,List.append_nil,List.append_assoc],n1,m1,s1,n2,m2,s2,n3,m3,s3⟩
end Go.Proofs.YtfehfkfdfmcgfaaGreatDoor
namespace Go.Proofs.YtfehfkfdfmcgfaaGreatDoor
open Go.RowKit
set_option maxHeartbeats 400000 in
theorem ZKX (A:Option Addr) (n c:Nat) (ds:List ByteArray) (L:List Nat) (left:Int) (w:World) (hn:n=ds.length) (hm:n≤9223372036854775807) (h0:0≤left) (h1:left≤1048576) (h:Sli ZEr w A ds L):
  Calls Tryz.prog 121 #[.slice A n c,.int .i64 left] w (ZKF (ZrM ds) left w):=by
 have H:=Lib.hid h
 have HN:=Lib.hid hn
 clear h hn
 by_cases hlen:(n:Int)≤left
 ·go_enter Tryz.func121,Tryz.ntmps121
  go_wp2
  go_loop [1,5] (fun q i=>∃(k:Nat) (l:Int),k≤n∧i=.int .i64 k∧q=.int .i64 l∧0≤l∧l≤left∧Hid (szR ((ds.drop k).map ByteArray.size).sum l=szR (ZrM ds) left)) (fun _ i=>n - (intOf i).toNat)
  case atStart=>exact ⟨0,left - n,Nat.zero_le _,rfl,rfl,by omega,by omega,Lib.hid (by
    have e:=HN.out
    exact ZKh _ _ _ _ (by omega) (by simp [ZrM];omega))⟩
  case round=>
   obtain ⟨k,l,hk,rfl,rfl,hl0,hl1,HE⟩:=hrel
   by_cases hlt:k<n
   ·obtain ⟨b,off,cs,Lk,rfl,_,_,hrep,hc⟩:=H.out.at_ (show k<ds.length by have:=HN.out;omega)
    obtain ⟨rfl,_,hss⟩:=ZMF hrep
    have hc0:=hc 0 _ rfl
    clear hc hrep
    have hd:Hid (ds.drop k=ds[k]'(by have:=HN.out;omega)::ds.drop (k+1)):=List.drop_eq_getElem_cons _
    generalize ds[k]'(by have:=HN.out;omega)=s at hc0 hd hss
    simp only [show ZEr.size=1 from rfl,Nat.mul_one,Nat.add_zero] at hc0
    by_cases hs:(s.size:Int)≤l
    ·go_wp2
     go_round
     case rel=>exact ⟨k+1,l - s.size,by omega,by go_num,rfl,by omega,by omega,Lib.hid (by rw [←HE.out,hd.out];exact ZKh _ _ _ _ (by omega) (by simp))⟩
     case measure=>simp [intOf];omega
    ·go_wp2
     go_ret
     exact ⟨ZJK (by rw [←HE.out,hd.out,ZJD (by simp;omega)]),Below.refl _ _⟩
   ·go_wp2
    go_ret
    exact ⟨ZJK (by rw [←HE.out,List.drop_of_length_le (by have:=HN.out;omega)];simp [szR,hl0]),Below.refl _ _⟩
 ·go_enter Tryz.func121,Tryz.ntmps121
  go_wp2
  go_ret
  exact ⟨ZJK (by rw [ZJD (by have:=HN.out;simp [ZrM];omega)]),Below.refl _ _⟩
set_option maxHeartbeats 400000 in
set_option maxHeartbeats 800000 in
theorem ZLs (cs:List Value) (x:Zb) (L:List Nat) (left:Int) (w:World) (h0:0≤left) (h1:left≤1048576) (h:ZJZ.rep w cs x L):
  Calls Tryz.prog 51 #[.agg cs.toArray,.int .i64 left] w (ZKF (ZgB x) left w):=by
 obtain ⟨A1,c1,L1,rfl,_hL,t0,n1,m1,s1⟩:=h
 unfold maxLen at m1
 have S1:=Lib.hid s1
 clear s1
 have B0:Hid (Below w.heap.size w (w.alloc (.cells #[.string x.rel,.slice A1 x.args.length c1] 86))):=(Below.refl _ _).alloc (Nat.le_refl _) _
 have K0:Hid (Blk (w.alloc (.cells #[.string x.rel,.slice A1 x.args.length c1] 86)) w.heap.size 86 #[.string x.rel,.slice A1 x.args.length c1]):=Blk.new _ _ _
 go_enter Tryz.func51,Tryz.ntmps51
 by_cases k1:(x.rel.size:Int)≤left
 rotate_left
 ·go_wp2_with fail
  go_ret
  exact ⟨ZJK (by rw [ZJD (by simp only [ZgB];omega)]),B0.out⟩
 go_wp2_with fail
 refine (ZKX A1 _ c1 x.args L1 _ _ rfl (by omega) (by omega) (by omega) (S1.out.below B0.out)).mono ?_
 rintro e w1 ⟨rfl,hb1⟩
 have B1:=Lib.hid (B0.out.trans (hb1.mono B0.out.size))
 have K1:=Lib.hid (K0.out.later hb1)
 have f0:=K1.out.at (i:=0) rfl
 have f1:=K1.out.at (i:=1) rfl
 clear hb1
 by_cases k2:((ZrM x.args:Nat):Int)≤left - x.rel.size
 rotate_left
 ·rw [ZJD k2]
  go_wp2_with fail
  go_ret
  exact ⟨ZJK (by rw [ZJD (by simp only [ZgB];omega)]),B1.out⟩
 rw [ZJ0 k2]
 go_wp2_with fail
 go_ret
 exact ⟨ZJK (by rw [ZJ0 (by simp only [ZgB];omega)]<;>simp only [ZgB]<;>omega),B1.out⟩
set_option maxHeartbeats 800000 in
theorem ZL5 (A:Option Addr) (n c:Nat) (ds:List Zb) (L:List Nat) (left:Int) (w:World) (hn:n=ds.length) (hm:n≤9223372036854775807) (h0:0≤left) (h1:left≤1048576) (h:Sli ZJZ w A ds L):
  Calls Tryz.prog 32 #[.slice A n c,.int .i64 left] w (ZKF (Zc1 ds) left w):=by
 have H:=Lib.hid h
 have HN:=Lib.hid hn
 clear h hn
 by_cases hlen:(n:Int)≤left
 ·go_enter Tryz.func32,Tryz.ntmps32
  go_wp2
  go_loopw [1,5] (fun q i wr=>∃(k:Nat) (l:Int),k≤n∧i=.int .i64 k∧q=.int .i64 l∧0≤l∧l≤left∧Hid (Below w.heap.size w wr)∧Hid (szR ((ds.drop k).map ZgB).sum l=szR (Zc1 ds) left)) (fun _ i _=>n - (intOf i).toNat)
  case atStart=>exact ⟨0,left - n,Nat.zero_le _,rfl,rfl,by omega,by omega,Below.refl _ _,Lib.hid (by
    have e:=HN.out
    exact ZKh _ _ _ _ (by omega) (by simp only [Zc1,List.drop_zero];omega))⟩
  case round=>
   obtain ⟨k,l,hk,rfl,rfl,hl0,hl1,HB,HE⟩:=hrel
   by_cases hlt:k<n
   ·have hkl:k<ds.length:=by have:=HN.out;omega
    obtain ⟨b,off,cs,Lk,rfl,hbL,hLk,hrep,hc⟩:=H.out.at_ hkl
    have hbl:b<w.heap.size:=H.out.lt b hbL
    have HR:=Lib.hid (ZJZ.keep hrep (ZdM HB.out (fun y m=>H.out.lt y (hLk y m))))
    obtain ⟨A1,c1,rfl⟩:=ZKl hrep
    have q0:wr.cell? ⟨b,off+k * 2,none⟩=_:=(HB.out.cell (p:=⟨b,off+(k * 2+0),none⟩) hbl).trans (hc 0 _ rfl)
    have q1:wr.cell? ⟨b,off+k * 2+1,none⟩=_:=(HB.out.cell (p:=⟨b,off+(k * 2+1),none⟩) hbl).trans (hc 1 _ rfl)
    have hd:Hid (ds.drop k=ds[k]::ds.drop (k+1)):=List.drop_eq_getElem_cons _
    generalize ds[k]=x at *
    clear hc hrep
    by_cases hs:(ZgB x:Int)≤l
    ·go_wp2_with (go_at_call 51;refine (ZLs _ x Lk _ _ (by omega) (by omega) HR.out).mono ?_;rintro e w1 ⟨rfl,hb1⟩;rw [ZJ0 hs];have HB1:=Lib.hid (HB.out.trans (hb1.mono HB.out.size));clear hb1)
     go_roundw
     case rel=>exact ⟨k+1,l - ZgB x,by omega,by go_num,rfl,by omega,by omega,HB1.out,Lib.hid (by rw [←HE.out,hd.out];exact ZKh _ _ _ _ (by omega) (by simp))⟩
     case measure=>simp [intOf];omega
    ·go_wp2_with (go_at_call 51;refine (ZLs _ x Lk _ _ (by omega) (by omega) HR.out).mono ?_;rintro e w1 ⟨rfl,hb1⟩;rw [ZJD hs];have HB1:=Lib.hid (HB.out.trans (hb1.mono HB.out.size));clear hb1)
     go_ret
     exact ⟨ZJK (by rw [←HE.out,hd.out,ZJD (by simp;omega)]),HB1.out⟩
   ·go_wp2
    go_ret
    exact ⟨ZJK (by rw [←HE.out,List.drop_of_length_le (by have:=HN.out;omega)];simp [szR,hl0]),HB.out⟩
 ·go_enter Tryz.func32,Tryz.ntmps32
  go_wp2
  go_ret
  exact ⟨ZJK (by rw [ZJD (by have:=HN.out;simp only [Zc1];omega)]),Below.refl _ _⟩
set_option maxHeartbeats 800000 in
theorem ZKS (cs:List Value) (x:Zv) (L:List Nat) (left:Int) (w:World) (h0:0≤left) (h1:left≤1048576) (h:ZKv.rep w cs x L):
  Calls Tryz.prog 270 #[.agg cs.toArray,.int .i64 left] w (ZKF (ZJH x) left w):=by
 obtain ⟨A1,c1,L1,rfl,_hL,t0,n1,m1,s1⟩:=h
 unfold maxLen at m1
 have S1:=Lib.hid s1
 clear s1
 have B0:Hid (Below w.heap.size w (w.alloc (.cells #[.string x.rel,.slice A1 x.args.length c1] 226))):=(Below.refl _ _).alloc (Nat.le_refl _) _
 have K0:Hid (Blk (w.alloc (.cells #[.string x.rel,.slice A1 x.args.length c1] 226)) w.heap.size 226 #[.string x.rel,.slice A1 x.args.length c1]):=Blk.new _ _ _
 go_enter Tryz.func270,Tryz.ntmps270
 by_cases k1:(x.rel.size:Int)≤left
 rotate_left
 ·go_wp2_with fail
  go_ret
  exact ⟨ZJK (by rw [ZJD (by simp only [ZJH];omega)]),B0.out⟩
 go_wp2_with fail
 refine (ZKX A1 _ c1 x.args L1 _ _ rfl (by omega) (by omega) (by omega) (S1.out.below B0.out)).mono ?_
 rintro e w1 ⟨rfl,hb1⟩
 have B1:=Lib.hid (B0.out.trans (hb1.mono B0.out.size))
 have K1:=Lib.hid (K0.out.later hb1)
 have f0:=K1.out.at (i:=0) rfl
 have f1:=K1.out.at (i:=1) rfl
 clear hb1
 by_cases k2:((ZrM x.args:Nat):Int)≤left - x.rel.size
 rotate_left
 ·rw [ZJD k2]
  go_wp2_with fail
  go_ret
  exact ⟨ZJK (by rw [ZJD (by simp only [ZJH];omega)]),B1.out⟩
 rw [ZJ0 k2]
 go_wp2_with fail
 go_ret
 exact ⟨ZJK (by rw [ZJ0 (by simp only [ZJH];omega)]<;>simp only [ZJH]<;>omega),B1.out⟩
set_option maxHeartbeats 800000 in
theorem ZLx (cs:List Value) (x:Zt) (L:List Nat) (left:Int) (w:World) (h0:0≤left) (h1:left≤1048576) (h:ZKb.rep w cs x L):
  Calls Tryz.prog 217 #[.agg cs.toArray,.int .i64 left] w (ZKF (ZJY x) left w):=by
 obtain ⟨A1,c1,L1,rfl,_hL,t0,t1,t2,n1,m1,s1⟩:=h
 unfold maxLen at m1
 have S1:=Lib.hid s1
 clear s1
 have B0:Hid (Below w.heap.size w (w.alloc (.cells #[.int .i64 x.kind,.string x.pattern.rel,.slice A1 x.pattern.args.length c1,.string x.left,.string x.right] 228))):=(Below.refl _ _).alloc (Nat.le_refl _) _
 have K0:Hid (Blk (w.alloc (.cells #[.int .i64 x.kind,.string x.pattern.rel,.slice A1 x.pattern.args.length c1,.string x.left,.string x.right] 228)) w.heap.size 228 #[.int .i64 x.kind,.string x.pattern.rel,.slice A1 x.pattern.args.length c1,.string x.left,.string x.right]):=Blk.new _ _ _
 go_enter Tryz.func217,Tryz.ntmps217
 go_wp2_with fail
 refine (ZKS [.string x.pattern.rel,.slice A1 x.pattern.args.length c1] x.pattern _ _ _ (by omega) (by omega) ⟨A1,c1,L1,rfl,rfl,t0,n1,(by unfold maxLen;omega),S1.out.below B0.out⟩).mono ?_
 rintro e w1 ⟨rfl,hb1⟩
 have B1:=Lib.hid (B0.out.trans (hb1.mono B0.out.size))
 have K1:=Lib.hid (K0.out.later hb1)
 have f0:=K1.out.at (i:=0) rfl
 have f1:=K1.out.at (i:=1) rfl
 have f2:=K1.out.at (i:=2) rfl
 have f3:=K1.out.at (i:=3) rfl
 have f4:=K1.out.at (i:=4) rfl
 clear hb1
 by_cases k1:((ZJH x.pattern:Nat):Int)≤left
 rotate_left
 ·rw [ZJD k1]
  go_wp2_with fail
  go_ret
  exact ⟨ZJK (by rw [ZJD (by simp only [ZJY];omega)]),B1.out⟩
 rw [ZJ0 k1]
 by_cases k2:(x.left.size:Int)≤left - (ZJH x.pattern:Nat)
 rotate_left
 ·go_wp2_with fail
  go_ret
  exact ⟨ZJK (by rw [ZJD (by simp only [ZJY];omega)]),B1.out⟩
 by_cases k3:(x.right.size:Int)≤left - (ZJH x.pattern:Nat) - x.left.size
 rotate_left
 ·go_wp2_with fail
  go_ret
  exact ⟨ZJK (by rw [ZJD (by simp only [ZJY];omega)]),B1.out⟩
 go_wp2_with fail
 go_ret
 exact ⟨ZJK (by rw [ZJ0 (by simp only [ZJY];omega)]<;>simp only [ZJY]<;>omega),B1.out⟩
set_option maxHeartbeats 800000 in
theorem ZMh (A:Option Addr) (n c:Nat) (ds:List Zt) (L:List Nat) (left:Int) (w:World) (hn:n=ds.length) (hm:n≤9223372036854775807) (h0:0≤left) (h1:left≤1048576) (h:Sli ZKb w A ds L):
  Calls Tryz.prog 156 #[.slice A n c,.int .i64 left] w (ZKF (ZJR ds) left w):=by
 have H:=Lib.hid h
 have HN:=Lib.hid hn
 clear h hn
 by_cases hlen:(n:Int)≤left
 ·go_enter Tryz.func156,Tryz.ntmps156
  go_wp2
  go_loopw [1,5] (fun q i wr=>∃(k:Nat) (l:Int),k≤n∧i=.int .i64 k∧q=.int .i64 l∧0≤l∧l≤left∧Hid (Below w.heap.size w wr)∧Hid (szR ((ds.drop k).map ZJY).sum l=szR (ZJR ds) left)) (fun _ i _=>n - (intOf i).toNat)
  case atStart=>exact ⟨0,left - n,Nat.zero_le _,rfl,rfl,by omega,by omega,Below.refl _ _,Lib.hid (by
    have e:=HN.out
    exact ZKh _ _ _ _ (by omega) (by simp only [ZJR,List.drop_zero];omega))⟩
  case round=>
   obtain ⟨k,l,hk,rfl,rfl,hl0,hl1,HB,HE⟩:=hrel
   by_cases hlt:k<n
   ·have hkl:k<ds.length:=by have:=HN.out;omega
    obtain ⟨b,off,cs,Lk,rfl,hbL,hLk,hrep,hc⟩:=H.out.at_ hkl
    have hbl:b<w.heap.size:=H.out.lt b hbL
    have HR:=Lib.hid (ZKb.keep hrep (ZdM HB.out (fun y m=>H.out.lt y (hLk y m))))
    obtain ⟨A1,c1,rfl⟩:=ZKn hrep
    have q0:wr.cell? ⟨b,off+k * 5,none⟩=_:=(HB.out.cell (p:=⟨b,off+(k * 5+0),none⟩) hbl).trans (hc 0 _ rfl)
    have q1:wr.cell? ⟨b,off+k * 5+1,none⟩=_:=(HB.out.cell (p:=⟨b,off+(k * 5+1),none⟩) hbl).trans (hc 1 _ rfl)
    have q2:wr.cell? ⟨b,off+k * 5+2,none⟩=_:=(HB.out.cell (p:=⟨b,off+(k * 5+2),none⟩) hbl).trans (hc 2 _ rfl)
    have q3:wr.cell? ⟨b,off+k * 5+3,none⟩=_:=(HB.out.cell (p:=⟨b,off+(k * 5+3),none⟩) hbl).trans (hc 3 _ rfl)
    have q4:wr.cell? ⟨b,off+k * 5+4,none⟩=_:=(HB.out.cell (p:=⟨b,off+(k * 5+4),none⟩) hbl).trans (hc 4 _ rfl)
    have hd:Hid (ds.drop k=ds[k]::ds.drop (k+1)):=List.drop_eq_getElem_cons _
    generalize ds[k]=x at *
    clear hc hrep
    by_cases hs:(ZJY x:Int)≤l
    ·go_wp2_with (go_at_call 217;refine (ZLx _ x Lk _ _ (by omega) (by omega) HR.out).mono ?_;rintro e w1 ⟨rfl,hb1⟩;rw [ZJ0 hs];have HB1:=Lib.hid (HB.out.trans (hb1.mono HB.out.size));clear hb1)
     go_roundw
     case rel=>exact ⟨k+1,l - ZJY x,by omega,by go_num,rfl,by omega,by omega,HB1.out,Lib.hid (by rw [←HE.out,hd.out];exact ZKh _ _ _ _ (by omega) (by simp))⟩
     case measure=>simp [intOf];omega
    ·go_wp2_with (go_at_call 217;refine (ZLx _ x Lk _ _ (by omega) (by omega) HR.out).mono ?_;rintro e w1 ⟨rfl,hb1⟩;rw [ZJD hs];have HB1:=Lib.hid (HB.out.trans (hb1.mono HB.out.size));clear hb1)
     go_ret
     exact ⟨ZJK (by rw [←HE.out,hd.out,ZJD (by simp;omega)]),HB1.out⟩
   ·go_wp2
    go_ret
    exact ⟨ZJK (by rw [←HE.out,List.drop_of_length_le (by have:=HN.out;omega)];simp [szR,hl0]),HB.out⟩
 ·go_enter Tryz.func156,Tryz.ntmps156
  go_wp2
  go_ret
  exact ⟨ZJK (by rw [ZJD (by have:=HN.out;simp only [ZJR];omega)]),Below.refl _ _⟩
set_option maxHeartbeats 800000 in
theorem ZLb (cs:List Value) (x:Zz) (L:List Nat) (left:Int) (w:World) (h0:0≤left) (h1:left≤1048576) (h:ZJM.rep w cs x L):
  Calls Tryz.prog 218 #[.agg cs.toArray,.int .i64 left] w (ZKF (ZJN x) left w):=by
 obtain ⟨A1,c1,L1,rfl,_hL,t0,n1,m1,s1⟩:=h
 unfold maxLen at m1
 have S1:=Lib.hid s1
 clear s1
 have B0:Hid (Below w.heap.size w (w.alloc (.cells #[.int .i64 x.kind,.string x.pattern.rel,.slice A1 x.pattern.args.length c1] 231))):=(Below.refl _ _).alloc (Nat.le_refl _) _
 have K0:Hid (Blk (w.alloc (.cells #[.int .i64 x.kind,.string x.pattern.rel,.slice A1 x.pattern.args.length c1] 231)) w.heap.size 231 #[.int .i64 x.kind,.string x.pattern.rel,.slice A1 x.pattern.args.length c1]):=Blk.new _ _ _
 go_enter Tryz.func218,Tryz.ntmps218
 go_wp2_with fail
 refine (ZKS [.string x.pattern.rel,.slice A1 x.pattern.args.length c1] x.pattern _ _ _ (by omega) (by omega) ⟨A1,c1,L1,rfl,rfl,t0,n1,(by unfold maxLen;omega),S1.out.below B0.out⟩).mono ?_
 rintro e w1 ⟨rfl,hb1⟩
 have B1:=Lib.hid (B0.out.trans (hb1.mono B0.out.size))
 have K1:=Lib.hid (K0.out.later hb1)
 have f0:=K1.out.at (i:=0) rfl
 have f1:=K1.out.at (i:=1) rfl
 have f2:=K1.out.at (i:=2) rfl
 clear hb1
 by_cases k1:((ZJH x.pattern:Nat):Int)≤left
 rotate_left
 ·rw [ZJD k1]
  go_wp2_with fail
  go_ret
  exact ⟨ZJK (by rw [ZJD (by simp only [ZJN];omega)]),B1.out⟩
 rw [ZJ0 k1]
 go_wp2_with fail
 go_ret
 exact ⟨ZJK (by rw [ZJ0 (by simp only [ZJN];omega)]<;>simp only [ZJN]<;>omega),B1.out⟩
set_option maxHeartbeats 800000 in
theorem ZLF (A:Option Addr) (n c:Nat) (ds:List Zz) (L:List Nat) (left:Int) (w:World) (hn:n=ds.length) (hm:n≤9223372036854775807) (h0:0≤left) (h1:left≤1048576) (h:Sli ZJM w A ds L):
  Calls Tryz.prog 157 #[.slice A n c,.int .i64 left] w (ZKF (ZJJ ds) left w):=by
 have H:=Lib.hid h
 have HN:=Lib.hid hn
 clear h hn
 by_cases hlen:(n:Int)≤left
 ·go_enter Tryz.func157,Tryz.ntmps157
  go_wp2
  go_loopw [1,5] (fun q i wr=>∃(k:Nat) (l:Int),k≤n∧i=.int .i64 k∧q=.int .i64 l∧0≤l∧l≤left∧Hid (Below w.heap.size w wr)∧Hid (szR ((ds.drop k).map ZJN).sum l=szR (ZJJ ds) left)) (fun _ i _=>n - (intOf i).toNat)
  case atStart=>exact ⟨0,left - n,Nat.zero_le _,rfl,rfl,by omega,by omega,Below.refl _ _,Lib.hid (by
    have e:=HN.out
    exact ZKh _ _ _ _ (by omega) (by simp only [ZJJ,List.drop_zero];omega))⟩
  case round=>
   obtain ⟨k,l,hk,rfl,rfl,hl0,hl1,HB,HE⟩:=hrel
   by_cases hlt:k<n
   ·have hkl:k<ds.length:=by have:=HN.out;omega
    obtain ⟨b,off,cs,Lk,rfl,hbL,hLk,hrep,hc⟩:=H.out.at_ hkl
    have hbl:b<w.heap.size:=H.out.lt b hbL
    have HR:=Lib.hid (ZJM.keep hrep (ZdM HB.out (fun y m=>H.out.lt y (hLk y m))))
    obtain ⟨A1,c1,rfl⟩:=ZKg hrep
    have q0:wr.cell? ⟨b,off+k * 3,none⟩=_:=(HB.out.cell (p:=⟨b,off+(k * 3+0),none⟩) hbl).trans (hc 0 _ rfl)
    have q1:wr.cell? ⟨b,off+k * 3+1,none⟩=_:=(HB.out.cell (p:=⟨b,off+(k * 3+1),none⟩) hbl).trans (hc 1 _ rfl)
    have q2:wr.cell? ⟨b,off+k * 3+2,none⟩=_:=(HB.out.cell (p:=⟨b,off+(k * 3+2),none⟩) hbl).trans (hc 2 _ rfl)
    have hd:Hid (ds.drop k=ds[k]::ds.drop (k+1)):=List.drop_eq_getElem_cons _
    generalize ds[k]=x at *
    clear hc hrep
    by_cases hs:(ZJN x:Int)≤l
    ·go_wp2_with (go_at_call 218;refine (ZLb _ x Lk _ _ (by omega) (by omega) HR.out).mono ?_;rintro e w1 ⟨rfl,hb1⟩;rw [ZJ0 hs];have HB1:=Lib.hid (HB.out.trans (hb1.mono HB.out.size));clear hb1)
     go_roundw
     case rel=>exact ⟨k+1,l - ZJN x,by omega,by go_num,rfl,by omega,by omega,HB1.out,Lib.hid (by rw [←HE.out,hd.out];exact ZKh _ _ _ _ (by omega) (by simp))⟩
     case measure=>simp [intOf];omega
    ·go_wp2_with (go_at_call 218;refine (ZLb _ x Lk _ _ (by omega) (by omega) HR.out).mono ?_;rintro e w1 ⟨rfl,hb1⟩;rw [ZJD hs];have HB1:=Lib.hid (HB.out.trans (hb1.mono HB.out.size));clear hb1)
     go_ret
     exact ⟨ZJK (by rw [←HE.out,hd.out,ZJD (by simp;omega)]),HB1.out⟩
   ·go_wp2
    go_ret
    exact ⟨ZJK (by rw [←HE.out,List.drop_of_length_le (by have:=HN.out;omega)];simp [szR,hl0]),HB.out⟩
 ·go_enter Tryz.func157,Tryz.ntmps157
  go_wp2
  go_ret
  exact ⟨ZJK (by rw [ZJD (by have:=HN.out;simp only [ZJJ];omega)]),Below.refl _ _⟩
set_option maxHeartbeats 800000 in
theorem ZLA (cs:List Value) (x:Zg) (L:List Nat) (left:Int) (w:World) (h0:0≤left) (h1:left≤1048576) (h:ZKa.rep w cs x L):
  Calls Tryz.prog 90 #[.agg cs.toArray,.int .i64 left] w (ZKF (ZJO x) left w):=by
 obtain ⟨A1,c1,L1,A2,c2,L2,rfl,_hL,t0,n1,m1,s1,n2,m2,s2⟩:=h
 unfold maxLen at m1 m2
 have S1:=Lib.hid s1
 clear s1
 have S2:=Lib.hid s2
 clear s2
 have B0:Hid (Below w.heap.size w (w.alloc (.cells #[.string x.name,.int .i64 x.priority,.slice A1 x.cond.length c1,.slice A2 x.thn.length c2] 126))):=(Below.refl _ _).alloc (Nat.le_refl _) _
 have K0:Hid (Blk (w.alloc (.cells #[.string x.name,.int .i64 x.priority,.slice A1 x.cond.length c1,.slice A2 x.thn.length c2] 126)) w.heap.size 126 #[.string x.name,.int .i64 x.priority,.slice A1 x.cond.length c1,.slice A2 x.thn.length c2]):=Blk.new _ _ _
 go_enter Tryz.func90,Tryz.ntmps90
 by_cases k1:(x.name.size:Int)≤left
 rotate_left
 ·go_wp2_with fail
  go_ret
  exact ⟨ZJK (by rw [ZJD (by simp only [ZJO];omega)]),B0.out⟩
 go_wp2_with fail
 refine (ZMh A1 _ c1 x.cond L1 _ _ rfl (by omega) (by omega) (by omega) (S1.out.below B0.out)).mono ?_
 rintro e w1 ⟨rfl,hb1⟩
 have B1:=Lib.hid (B0.out.trans (hb1.mono B0.out.size))
 have K1:=Lib.hid (K0.out.later hb1)
 have f0:=K1.out.at (i:=0) rfl
 have f1:=K1.out.at (i:=1) rfl
 have f2:=K1.out.at (i:=2) rfl
 have f3:=K1.out.at (i:=3) rfl
 clear hb1
 by_cases k2:((ZJR x.cond:Nat):Int)≤left - x.name.size
 rotate_left
 ·rw [ZJD k2]
  go_wp2_with fail
  go_ret
  exact ⟨ZJK (by rw [ZJD (by simp only [ZJO];omega)]),B1.out⟩
 rw [ZJ0 k2]
 go_wp2_with fail
 refine (ZLF A2 _ c2 x.thn L2 _ _ rfl (by omega) (by omega) (by omega) (S2.out.below B1.out)).mono ?_
 rintro e w2 ⟨rfl,hb2⟩
 have B2:=Lib.hid (B1.out.trans (hb2.mono B1.out.size))
 have K2:=Lib.hid (K1.out.later hb2)
 clear f0 f1 f2 f3
 have f0:=K2.out.at (i:=0) rfl
 have f1:=K2.out.at (i:=1) rfl
 have f2:=K2.out.at (i:=2) rfl
 have f3:=K2.out.at (i:=3) rfl
 clear hb2
 by_cases k3:((ZJJ x.thn:Nat):Int)≤left - x.name.size - (ZJR x.cond:Nat)
 rotate_left
 ·rw [ZJD k3]
  go_wp2_with fail
  go_ret
  exact ⟨ZJK (by rw [ZJD (by simp only [ZJO];omega)]),B2.out⟩
 rw [ZJ0 k3]
 go_wp2_with fail
 go_ret
 exact ⟨ZJK (by rw [ZJ0 (by simp only [ZJO];omega)]<;>simp only [ZJO]<;>omega),B2.out⟩
set_option maxHeartbeats 800000 in
theorem ZMj (A:Option Addr) (n c:Nat) (ds:List Zg) (L:List Nat) (left:Int) (w:World) (hn:n=ds.length) (hm:n≤9223372036854775807) (h0:0≤left) (h1:left≤1048576) (h:Sli ZKa w A ds L):
  Calls Tryz.prog 31 #[.slice A n c,.int .i64 left] w (ZKF (ZJL ds) left w):=by
 have H:=Lib.hid h
 have HN:=Lib.hid hn
 clear h hn
 by_cases hlen:(n:Int)≤left
 ·go_enter Tryz.func31,Tryz.ntmps31
  go_wp2
  go_loopw [1,5] (fun q i wr=>∃(k:Nat) (l:Int),k≤n∧i=.int .i64 k∧q=.int .i64 l∧0≤l∧l≤left∧Hid (Below w.heap.size w wr)∧Hid (szR ((ds.drop k).map ZJO).sum l=szR (ZJL ds) left)) (fun _ i _=>n - (intOf i).toNat)
  case atStart=>exact ⟨0,left - n,Nat.zero_le _,rfl,rfl,by omega,by omega,Below.refl _ _,Lib.hid (by
    have e:=HN.out
    exact ZKh _ _ _ _ (by omega) (by simp only [ZJL,List.drop_zero];omega))⟩
  case round=>
   obtain ⟨k,l,hk,rfl,rfl,hl0,hl1,HB,HE⟩:=hrel
   by_cases hlt:k<n
   ·have hkl:k<ds.length:=by have:=HN.out;omega
    obtain ⟨b,off,cs,Lk,rfl,hbL,hLk,hrep,hc⟩:=H.out.at_ hkl
    have hbl:b<w.heap.size:=H.out.lt b hbL
    have HR:=Lib.hid (ZKa.keep hrep (ZdM HB.out (fun y m=>H.out.lt y (hLk y m))))
    obtain ⟨A1,c1,A2,c2,rfl⟩:=ZKm hrep
    have q0:wr.cell? ⟨b,off+k * 4,none⟩=_:=(HB.out.cell (p:=⟨b,off+(k * 4+0),none⟩) hbl).trans (hc 0 _ rfl)
    have q1:wr.cell? ⟨b,off+k * 4+1,none⟩=_:=(HB.out.cell (p:=⟨b,off+(k * 4+1),none⟩) hbl).trans (hc 1 _ rfl)
    have q2:wr.cell? ⟨b,off+k * 4+2,none⟩=_:=(HB.out.cell (p:=⟨b,off+(k * 4+2),none⟩) hbl).trans (hc 2 _ rfl)
    have q3:wr.cell? ⟨b,off+k * 4+3,none⟩=_:=(HB.out.cell (p:=⟨b,off+(k * 4+3),none⟩) hbl).trans (hc 3 _ rfl)
    have hd:Hid (ds.drop k=ds[k]::ds.drop (k+1)):=List.drop_eq_getElem_cons _
    generalize ds[k]=x at *
    clear hc hrep
    by_cases hs:(ZJO x:Int)≤l
    ·go_wp2_with (go_at_call 90;refine (ZLA _ x Lk _ _ (by omega) (by omega) HR.out).mono ?_;rintro e w1 ⟨rfl,hb1⟩;rw [ZJ0 hs];have HB1:=Lib.hid (HB.out.trans (hb1.mono HB.out.size));clear hb1)
     go_roundw
     case rel=>exact ⟨k+1,l - ZJO x,by omega,by go_num,rfl,by omega,by omega,HB1.out,Lib.hid (by rw [←HE.out,hd.out];exact ZKh _ _ _ _ (by omega) (by simp))⟩
     case measure=>simp [intOf];omega
    ·go_wp2_with (go_at_call 90;refine (ZLA _ x Lk _ _ (by omega) (by omega) HR.out).mono ?_;rintro e w1 ⟨rfl,hb1⟩;rw [ZJD hs];have HB1:=Lib.hid (HB.out.trans (hb1.mono HB.out.size));clear hb1)
     go_ret
     exact ⟨ZJK (by rw [←HE.out,hd.out,ZJD (by simp;omega)]),HB1.out⟩
   ·go_wp2
    go_ret
    exact ⟨ZJK (by rw [←HE.out,List.drop_of_length_le (by have:=HN.out;omega)];simp [szR,hl0]),HB.out⟩
 ·go_enter Tryz.func31,Tryz.ntmps31
  go_wp2
  go_ret
  exact ⟨ZJK (by rw [ZJD (by have:=HN.out;simp only [ZJL];omega)]),Below.refl _ _⟩
end Go.Proofs.YtfehfkfdfmcgfaaGreatDoor
namespace Go.Proofs.YtfehfkfdfmcgfaaGreatDoor
open Go.RowKit
theorem Tryz.infoString_:(Tryz.prog.info? 9).map (fun i=>(i.zero,i.size,i.bytes))=some (some (.string ⟨#[]⟩),1,16):=by kernel_rfl
set_option maxHeartbeats 1600000 in
theorem ZKW (A:Option Addr) (n c:Nat) (ds:List ByteArray) (L:List Nat) (w:World) (hn:n=ds.length) (hm:ds.length≤1099511627776) (h:Sli ZEr w A ds L):
  Calls Tryz.prog 122 #[.slice A n c] w (ZLt ZEr 9 w ds):=by
 obtain ⟨i0,hi,hz0,hz1,hz2⟩:=info_parts Tryz.infoString_
 rw [←hn] at hm
 have H:=Lib.hid h
 have HN:=Lib.hid hn
 clear h hn
 go_enter Tryz.func122,Tryz.ntmps122
 go_wp2_with (at_make;refine wpList_make_full _ rfl _ _ 43 rfl w.heap.size 9 i0 _ 1 Tryz.underlying43 hi hz0 hz1 .i64 .i64 _ _ n rfl rfl rfl rfl (by rw [hz2];omega) (by unfold maxLen;omega) (Nat.le_refl _) ?_;intro w1 hown hg)
 have hb:Below w.heap.size w w1:=(Below.refl _ _).grown hg (Nat.le_refl _) (by simp)
 have HF0:Hid (X8 ZEr 9 w n ds 0 w1):=X8.start hown hb
 clear hown hg hb
 go_wp2
 go_loopw [4] (fun i wr=>∃(k:Nat),k≤n∧i=.int .i64 k∧Hid (X8 ZEr 9 w n ds k wr)) (fun i _=>n - (intOf i).toNat)
 case atStart=>exact ⟨0,Nat.zero_le _,rfl,HF0⟩
 case round=>
  obtain ⟨k,hk,rfl,HF⟩:=hrel
  by_cases hlt:k<n
  ·have hkl:k<ds.length:=by have:=HN.out;omega
   obtain ⟨b,off,cs,Lk,rfl,hbL,hLk,hrep,hc⟩:=H.out.at_ hkl
   have hbl:b<w.heap.size:=H.out.lt b hbL
   have hrep0:=hrep
   obtain ⟨rfl,_,hss⟩:=hrep0
   have q0:=(HF.out.below.cell (p:=⟨b,off+(k * ZEr.size+0),none⟩) hbl).trans (hc 0 _ rfl)
   have HS:=Lib.hid (HF.out.store (w2:=wr) (x:=ds[k]) (M:=[]) hlt HN.out (fun _=>rfl) (Below.refl _ _) ⟨⟨rfl,rfl,hss⟩,Own.nil _ _⟩)
   obtain ⟨d0,e0⟩:=HF.out.cell hlt (j:=0) (by decide)
   have z0:=HF.out.frozen k
   simp only [show ZEr.size=1 from rfl,Nat.mul_one,Nat.add_zero] at q0 HS e0
   generalize ds[k]=x at *
   clear hc hrep
   go_wp2_with fail
   go_roundw
   case rel=>exact ⟨k+1,by omega,by go_num,HS.out⟩
   case measure=>simp [intOf];omega
  ·obtain rfl:k=n:=by omega
   go_wp2
   go_ret
   exact ⟨_,rfl,HF.out.done HN.out⟩
set_option maxHeartbeats 1600000 in
theorem ZMs (cs:List Value) (x:Zb) (L:List Nat) (w:World) (hz:ZgB x≤1048576) (h:ZJZ.rep w cs x L):
  Calls Tryz.prog 52 #[.agg cs.toArray] w (ZLR ZJZ w x):=by
 obtain ⟨A1,c1,L1,rfl,_hL,t0,n1,m1,s1⟩:=h
 unfold maxLen at m1
 have S1:=Lib.hid s1
 clear s1
 simp only [ZgB] at hz
 go_enter Tryz.func52,Tryz.ntmps52
 go_wp2_with fail
 refine (ZKW A1 _ c1 x.args L1 _ rfl (by simp only [ZrM] at hz;omega) (S1.out.below (by repeat (first | refine Below.setCell ?_ (by dsimp only;omega) _ | refine Below.alloc ?_ (by first | (simp;done) | (simp;omega) | omega) _ | exact Below.refl _ _)))).mono ?_
 rintro e w1 ⟨v1,rfl,a1⟩
 obtain ⟨vA1,vc1,rfl⟩:=a1.shape
 have hb1:=a1.below
 obtain ⟨M1,g1⟩:=a1.got
 clear a1
 have G1:=Lib.hid (g1.mono (show w.heap.size+3≤_ by simp))
 have lt1:=Lib.hid g1.lt
 clear g1
 have B1:Hid (Below w.heap.size w w1):=Below.trans (by repeat (first | refine Below.setCell ?_ (by dsimp only;omega) _ | refine Below.alloc ?_ (by first | (simp;done) | (simp;omega) | omega) _ | exact Below.refl _ _)) (hb1.mono (by first | (simp;done) | (simp;omega) | omega))
 have K0:Hid (Blk w1 w.heap.size 86 #[.string x.rel,.slice A1 x.args.length c1]):=Blk.later (Blk.alloc (Blk.alloc (Blk.new _ _ _) _) _) hb1
 have K1:Hid (Blk w1 (w.heap.size+1) 45 #[.string ⟨#[]⟩,.slice none 0 0]):=Blk.later (Blk.alloc (Blk.new_at (by simp)) _) hb1
 have K2:Hid (Blk w1 (w.heap.size+1+1) 45 #[.string x.rel,.slice none 0 0]):=Blk.later (Blk.new_at (by simp)) hb1
 have f0:=K0.out.at (i:=0) rfl
 have r0:=K1.out.at (i:=0) rfl
 have o0:=K2.out.at (i:=0) rfl
 have rz0:=K1.out.frozen 0
 have oz0:=K2.out.frozen 0
 have f1:=K0.out.at (i:=1) rfl
 have r1:=K1.out.at (i:=1) rfl
 have o1:=K2.out.at (i:=1) rfl
 have rz1:=K1.out.frozen 1
 have oz1:=K2.out.frozen 1
 have hz1:w.heap.size+2<w1.heap.size:=by have:=hb1.size;simp at this;omega
 clear hb1
 go_wp2_with fail
 refine bodyPost_ret (v:=.agg #[.string x.rel,.slice vA1 x.args.length vc1]) (by simp [results,Tryz.results52,go_sem,r0,r1]) rfl ?_
 obtain ⟨nn1,mm1,ss1⟩:=ZJB G1.out.rep
 exact ZKQ (wr:=w1) (M1) ⟨⟨vA1,vc1,M1,rfl,rfl,t0,nn1,mm1,ss1⟩,by have o:=G1.out.own;simpa only [List.append_assoc] using o⟩ (by intro b hb;repeat rw [Below.heap_setCell _ _ _ _ (by dsimp only;omega)]) (by repeat (first | refine Below.setCell ?_ (by dsimp only;omega) _ | refine Below.alloc ?_ (by first | (simp;done) | (simp;omega) | omega) _ | exact B1.out))
theorem Tryz.infoFact:(Tryz.prog.info? 45).map (fun i=>(i.zero,i.size,i.bytes))=some (some (.agg #[.string ⟨#[]⟩,.slice none 0 0]),2,40):=by kernel_rfl
set_option maxHeartbeats 1600000 in
theorem ZKE (A:Option Addr) (n c:Nat) (ds:List Zb) (L:List Nat) (w:World) (hn:n=ds.length) (hz:Zc1 ds≤1048576) (h:Sli ZJZ w A ds L):
  Calls Tryz.prog 35 #[.slice A n c] w (ZLt ZJZ 45 w ds):=by
 obtain ⟨i0,hi,hz0,hz1,hz2⟩:=info_parts Tryz.infoFact
 have H:=Lib.hid h
 have HN:=Lib.hid hn
 have hm:n≤1048576:=by simp only [Zc1] at hz;omega
 have HZ:=Lib.hid hz
 clear h hn hz
 go_enter Tryz.func35,Tryz.ntmps35
 go_wp2_with (at_make;refine wpList_make_full _ rfl _ _ 25 rfl w.heap.size 45 i0 _ 2 Tryz.underlying25 hi hz0 hz1 .i64 .i64 _ _ n rfl rfl rfl rfl (by rw [hz2];omega) (by unfold maxLen;omega) (Nat.le_refl _) ?_;intro w1 hown hg)
 have hb:Below w.heap.size w w1:=(Below.refl _ _).grown hg (Nat.le_refl _) (by simp)
 have HF0:Hid (X8 ZJZ 45 w n ds 0 w1):=X8.start hown hb
 clear hown hg hb
 go_wp2
 go_loopw [4] (fun i wr=>∃(k:Nat),k≤n∧i=.int .i64 k∧Hid (X8 ZJZ 45 w n ds k wr)) (fun i _=>n - (intOf i).toNat)
 case atStart=>exact ⟨0,Nat.zero_le _,rfl,HF0⟩
 case round=>
  obtain ⟨k,hk,rfl,HF⟩:=hrel
  by_cases hlt:k<n
  ·have hkl:k<ds.length:=by have:=HN.out;omega
   obtain ⟨b,off,cs,Lk,rfl,hbL,hLk,hrep,hc⟩:=H.out.at_ hkl
   have hbl:b<w.heap.size:=H.out.lt b hbL
   have HR:=Lib.hid (ZJZ.keep hrep (ZdM HF.out.below (fun y m=>H.out.lt y (hLk y m))))
   obtain ⟨A1,c1,rfl⟩:=ZKl hrep
   have q0:wr.cell? ⟨b,off+k * 2,none⟩=_:=(HF.out.below.cell (p:=⟨b,off+(k * 2+0),none⟩) hbl).trans (hc 0 _ rfl)
   have q1:wr.cell? ⟨b,off+k * 2+1,none⟩=_:=(HF.out.below.cell (p:=⟨b,off+(k * 2+1),none⟩) hbl).trans (hc 1 _ rfl)
   have hcx:Hid (ZgB ds[k]≤1048576):=ZLp ZgB ds k hkl (by have:=HZ.out;simp only [Zc1] at this;omega)
   obtain ⟨x,hx⟩:∃x,x=ds[k]:=⟨_,rfl⟩
   have HX:=Lib.hid hx
   rw [←hx] at HR q0 q1 hcx
   clear hc hrep hx
   go_wp2_with fail
   refine (ZMs _ x Lk _ hcx.out HR.out).mono ?_
   rintro e w2 ⟨cs2,M2,rfl,g2,hb2⟩
   have HF2:=Lib.hid (HF.out.later hb2)
   have HS:=Lib.hid (HF.out.store hlt HN.out (fun _=>HX.out) hb2 g2)
   obtain ⟨vA1,vc1,rfl⟩:=ZKl g2.rep
   clear g2 hb2
   obtain ⟨d0,e0⟩:∃d,w2.cell? ⟨w.heap.size,k * 2,none⟩=some d:=HF2.out.cell hlt (j:=0) (by decide)
   have z0:=HF2.out.frozen (k * 2)
   obtain ⟨d1,e1⟩:∃d,w2.cell? ⟨w.heap.size,k * 2+1,none⟩=some d:=HF2.out.cell hlt (j:=1) (by decide)
   have z1:=HF2.out.frozen (k * 2+1)
   go_wp2_with fail
   go_roundw
   case rel=>exact ⟨k+1,by omega,by go_num,HS.out⟩
   case measure=>simp [intOf];omega
  ·obtain rfl:k=n:=by omega
   go_wp2
   go_ret
   exact ⟨_,rfl,HF.out.done HN.out⟩
set_option maxHeartbeats 1600000 in
theorem ZKT (cs:List Value) (x:Zv) (L:List Nat) (w:World) (hz:ZJH x≤1048576) (h:ZKv.rep w cs x L):
  Calls Tryz.prog 272 #[.agg cs.toArray] w (ZLR ZKv w x):=by
 obtain ⟨A1,c1,L1,rfl,_hL,t0,n1,m1,s1⟩:=h
 unfold maxLen at m1
 have S1:=Lib.hid s1
 clear s1
 simp only [ZJH] at hz
 go_enter Tryz.func272,Tryz.ntmps272
 go_wp2_with fail
 refine (ZKW A1 _ c1 x.args L1 _ rfl (by simp only [ZrM] at hz;omega) (S1.out.below (by repeat (first | refine Below.setCell ?_ (by dsimp only;omega) _ | refine Below.alloc ?_ (by first | (simp;done) | (simp;omega) | omega) _ | exact Below.refl _ _)))).mono ?_
 rintro e w1 ⟨v1,rfl,a1⟩
 obtain ⟨vA1,vc1,rfl⟩:=a1.shape
 have hb1:=a1.below
 obtain ⟨M1,g1⟩:=a1.got
 clear a1
 have G1:=Lib.hid (g1.mono (show w.heap.size+3≤_ by simp))
 have lt1:=Lib.hid g1.lt
 clear g1
 have B1:Hid (Below w.heap.size w w1):=Below.trans (by repeat (first | refine Below.setCell ?_ (by dsimp only;omega) _ | refine Below.alloc ?_ (by first | (simp;done) | (simp;omega) | omega) _ | exact Below.refl _ _)) (hb1.mono (by first | (simp;done) | (simp;omega) | omega))
 have K0:Hid (Blk w1 w.heap.size 226 #[.string x.rel,.slice A1 x.args.length c1]):=Blk.later (Blk.alloc (Blk.alloc (Blk.new _ _ _) _) _) hb1
 have K1:Hid (Blk w1 (w.heap.size+1) 48 #[.string ⟨#[]⟩,.slice none 0 0]):=Blk.later (Blk.alloc (Blk.new_at (by simp)) _) hb1
 have K2:Hid (Blk w1 (w.heap.size+1+1) 48 #[.string x.rel,.slice none 0 0]):=Blk.later (Blk.new_at (by simp)) hb1
 have f0:=K0.out.at (i:=0) rfl
 have r0:=K1.out.at (i:=0) rfl
 have o0:=K2.out.at (i:=0) rfl
 have rz0:=K1.out.frozen 0
 have oz0:=K2.out.frozen 0
 have f1:=K0.out.at (i:=1) rfl
 have r1:=K1.out.at (i:=1) rfl
 have o1:=K2.out.at (i:=1) rfl
 have rz1:=K1.out.frozen 1
 have oz1:=K2.out.frozen 1
 have hz1:w.heap.size+2<w1.heap.size:=by have:=hb1.size;simp at this;omega
 clear hb1
 go_wp2_with fail
 refine bodyPost_ret (v:=.agg #[.string x.rel,.slice vA1 x.args.length vc1]) (by simp [results,Tryz.results272,go_sem,r0,r1]) rfl ?_
 obtain ⟨nn1,mm1,ss1⟩:=ZJB G1.out.rep
 exact ZKQ (wr:=w1) (M1) ⟨⟨vA1,vc1,M1,rfl,rfl,t0,nn1,mm1,ss1⟩,by have o:=G1.out.own;simpa only [List.append_assoc] using o⟩ (by intro b hb;repeat rw [Below.heap_setCell _ _ _ _ (by dsimp only;omega)]) (by repeat (first | refine Below.setCell ?_ (by dsimp only;omega) _ | refine Below.alloc ?_ (by first | (simp;done) | (simp;omega) | omega) _ | exact B1.out))
set_option maxHeartbeats 1600000 in
theorem ZMu (cs:List Value) (x:Zt) (L:List Nat) (w:World) (hz:ZJY x≤1048576) (h:ZKb.rep w cs x L):
  Calls Tryz.prog 228 #[.agg cs.toArray] w (ZLR ZKb w x):=by
 obtain ⟨A1,c1,L1,rfl,_hL,t0,t1,t2,n1,m1,s1⟩:=h
 unfold maxLen at m1
 have S1:=Lib.hid s1
 clear s1
 simp only [ZJY] at hz
 go_enter Tryz.func228,Tryz.ntmps228
 go_wp2_with fail
 refine (ZKT [.string x.pattern.rel,.slice A1 x.pattern.args.length c1] x.pattern _ _ (by omega) ⟨A1,c1,L1,rfl,rfl,t0,n1,(by unfold maxLen;omega),S1.out.below (by repeat (first | refine Below.setCell ?_ (by dsimp only;omega) _ | refine Below.alloc ?_ (by first | (simp;done) | (simp;omega) | omega) _ | exact Below.refl _ _))⟩).mono ?_
 rintro e w1 ⟨cs1,M1,rfl,g1,hb1⟩
 obtain ⟨vA1,vc1,rfl⟩:=ZKN g1.rep
 have G1:=Lib.hid (g1.mono (show w.heap.size+3≤_ by simp))
 have lt1:=Lib.hid g1.lt
 clear g1
 have B1:Hid (Below w.heap.size w w1):=Below.trans (by repeat (first | refine Below.setCell ?_ (by dsimp only;omega) _ | refine Below.alloc ?_ (by first | (simp;done) | (simp;omega) | omega) _ | exact Below.refl _ _)) (hb1.mono (by first | (simp;done) | (simp;omega) | omega))
 have K0:Hid (Blk w1 w.heap.size 228 #[.int .i64 x.kind,.string x.pattern.rel,.slice A1 x.pattern.args.length c1,.string x.left,.string x.right]):=Blk.later (Blk.alloc (Blk.alloc (Blk.new _ _ _) _) _) hb1
 have K1:Hid (Blk w1 (w.heap.size+1) 173 #[.int .i64 0,.string ⟨#[]⟩,.slice none 0 0,.string ⟨#[]⟩,.string ⟨#[]⟩]):=Blk.later (Blk.alloc (Blk.new_at (by simp)) _) hb1
 have K2:Hid (Blk w1 (w.heap.size+1+1) 173 #[.int .i64 x.kind,.string ⟨#[]⟩,.slice none 0 0,.string ⟨#[]⟩,.string ⟨#[]⟩]):=Blk.later (Blk.new_at (by simp)) hb1
 have f0:=K0.out.at (i:=0) rfl
 have r0:=K1.out.at (i:=0) rfl
 have o0:=K2.out.at (i:=0) rfl
 have rz0:=K1.out.frozen 0
 have oz0:=K2.out.frozen 0
 have f1:=K0.out.at (i:=1) rfl
 have r1:=K1.out.at (i:=1) rfl
 have o1:=K2.out.at (i:=1) rfl
 have rz1:=K1.out.frozen 1
 have oz1:=K2.out.frozen 1
 have f2:=K0.out.at (i:=2) rfl
 have r2:=K1.out.at (i:=2) rfl
 have o2:=K2.out.at (i:=2) rfl
 have rz2:=K1.out.frozen 2
 have oz2:=K2.out.frozen 2
 have f3:=K0.out.at (i:=3) rfl
 have r3:=K1.out.at (i:=3) rfl
 have o3:=K2.out.at (i:=3) rfl
 have rz3:=K1.out.frozen 3
 have oz3:=K2.out.frozen 3
 have f4:=K0.out.at (i:=4) rfl
 have r4:=K1.out.at (i:=4) rfl
 have o4:=K2.out.at (i:=4) rfl
 have rz4:=K1.out.frozen 4
 have oz4:=K2.out.frozen 4
 have hz1:w.heap.size+2<w1.heap.size:=by have:=hb1.size;simp at this;omega
 clear hb1
 go_wp2_with fail
 refine bodyPost_ret (v:=.agg #[.int .i64 x.kind,.string x.pattern.rel,.slice vA1 x.pattern.args.length vc1,.string x.left,.string x.right]) (by simp [results,Tryz.results228,go_sem,r0,r1,r2,r3,r4]) rfl ?_
 obtain ⟨_,_,N1,hcs1,hL1,_,nn1,mm1,ss1⟩:=G1.out.rep
 cases hcs1
 subst hL1
 exact ZKQ (wr:=w1) (M1) ⟨⟨vA1,vc1,M1,rfl,rfl,t0,t1,t2,nn1,mm1,ss1⟩,by have o:=G1.out.own;simpa only [List.append_assoc] using o⟩ (by intro b hb;repeat rw [Below.heap_setCell _ _ _ _ (by dsimp only;omega)]) (by repeat (first | refine Below.setCell ?_ (by dsimp only;omega) _ | refine Below.alloc ?_ (by first | (simp;done) | (simp;omega) | omega) _ | exact B1.out))
theorem Tryz.infoCond:(Tryz.prog.info? 173).map (fun i=>(i.zero,i.size,i.bytes))=some (some (.agg #[.int .i64 0,.string ⟨#[]⟩,.slice none 0 0,.string ⟨#[]⟩,.string ⟨#[]⟩]),5,80):=by kernel_rfl
set_option maxHeartbeats 1600000 in
theorem ZMe (A:Option Addr) (n c:Nat) (ds:List Zt) (L:List Nat) (w:World) (hn:n=ds.length) (hz:ZJR ds≤1048576) (h:Sli ZKb w A ds L):
  Calls Tryz.prog 160 #[.slice A n c] w (ZLt ZKb 173 w ds):=by
 obtain ⟨i0,hi,hz0,hz1,hz2⟩:=info_parts Tryz.infoCond
 have H:=Lib.hid h
 have HN:=Lib.hid hn
 have hm:n≤1048576:=by simp only [ZJR] at hz;omega
 have HZ:=Lib.hid hz
 clear h hn hz
 go_enter Tryz.func160,Tryz.ntmps160
 go_wp2_with (at_make;refine wpList_make_full _ rfl _ _ 39 rfl w.heap.size 173 i0 _ 5 Tryz.underlying39 hi hz0 hz1 .i64 .i64 _ _ n rfl rfl rfl rfl (by rw [hz2];omega) (by unfold maxLen;omega) (Nat.le_refl _) ?_;intro w1 hown hg)
 have hb:Below w.heap.size w w1:=(Below.refl _ _).grown hg (Nat.le_refl _) (by simp)
 have HF0:Hid (X8 ZKb 173 w n ds 0 w1):=X8.start hown hb
 clear hown hg hb
 go_wp2
 go_loopw [4] (fun i wr=>∃(k:Nat),k≤n∧i=.int .i64 k∧Hid (X8 ZKb 173 w n ds k wr)) (fun i _=>n - (intOf i).toNat)
 case atStart=>exact ⟨0,Nat.zero_le _,rfl,HF0⟩
 case round=>
  obtain ⟨k,hk,rfl,HF⟩:=hrel
  by_cases hlt:k<n
  ·have hkl:k<ds.length:=by have:=HN.out;omega
   obtain ⟨b,off,cs,Lk,rfl,hbL,hLk,hrep,hc⟩:=H.out.at_ hkl
   have hbl:b<w.heap.size:=H.out.lt b hbL
   have HR:=Lib.hid (ZKb.keep hrep (ZdM HF.out.below (fun y m=>H.out.lt y (hLk y m))))
   obtain ⟨A1,c1,rfl⟩:=ZKn hrep
   have q0:wr.cell? ⟨b,off+k * 5,none⟩=_:=(HF.out.below.cell (p:=⟨b,off+(k * 5+0),none⟩) hbl).trans (hc 0 _ rfl)
   have q1:wr.cell? ⟨b,off+k * 5+1,none⟩=_:=(HF.out.below.cell (p:=⟨b,off+(k * 5+1),none⟩) hbl).trans (hc 1 _ rfl)
   have q2:wr.cell? ⟨b,off+k * 5+2,none⟩=_:=(HF.out.below.cell (p:=⟨b,off+(k * 5+2),none⟩) hbl).trans (hc 2 _ rfl)
   have q3:wr.cell? ⟨b,off+k * 5+3,none⟩=_:=(HF.out.below.cell (p:=⟨b,off+(k * 5+3),none⟩) hbl).trans (hc 3 _ rfl)
   have q4:wr.cell? ⟨b,off+k * 5+4,none⟩=_:=(HF.out.below.cell (p:=⟨b,off+(k * 5+4),none⟩) hbl).trans (hc 4 _ rfl)
   have hcx:Hid (ZJY ds[k]≤1048576):=ZLp ZJY ds k hkl (by have:=HZ.out;simp only [ZJR] at this;omega)
   obtain ⟨x,hx⟩:∃x,x=ds[k]:=⟨_,rfl⟩
   have HX:=Lib.hid hx
   rw [←hx] at HR q0 q1 q2 q3 q4 hcx
   clear hc hrep hx
   go_wp2_with fail
   refine (ZMu _ x Lk _ hcx.out HR.out).mono ?_
   rintro e w2 ⟨cs2,M2,rfl,g2,hb2⟩
   have HF2:=Lib.hid (HF.out.later hb2)
   have HS:=Lib.hid (HF.out.store hlt HN.out (fun _=>HX.out) hb2 g2)
   obtain ⟨vA1,vc1,rfl⟩:=ZKn g2.rep
   clear g2 hb2
   obtain ⟨d0,e0⟩:∃d,w2.cell? ⟨w.heap.size,k * 5,none⟩=some d:=HF2.out.cell hlt (j:=0) (by decide)
   have z0:=HF2.out.frozen (k * 5)
   obtain ⟨d1,e1⟩:∃d,w2.cell? ⟨w.heap.size,k * 5+1,none⟩=some d:=HF2.out.cell hlt (j:=1) (by decide)
   have z1:=HF2.out.frozen (k * 5+1)
   obtain ⟨d2,e2⟩:∃d,w2.cell? ⟨w.heap.size,k * 5+2,none⟩=some d:=HF2.out.cell hlt (j:=2) (by decide)
   have z2:=HF2.out.frozen (k * 5+2)
   obtain ⟨d3,e3⟩:∃d,w2.cell? ⟨w.heap.size,k * 5+3,none⟩=some d:=HF2.out.cell hlt (j:=3) (by decide)
   have z3:=HF2.out.frozen (k * 5+3)
   obtain ⟨d4,e4⟩:∃d,w2.cell? ⟨w.heap.size,k * 5+4,none⟩=some d:=HF2.out.cell hlt (j:=4) (by decide)
   have z4:=HF2.out.frozen (k * 5+4)
   go_wp2_with fail
   go_roundw
   case rel=>exact ⟨k+1,by omega,by go_num,HS.out⟩
   case measure=>simp [intOf];omega
  ·obtain rfl:k=n:=by omega
   go_wp2
   go_ret
   exact ⟨_,rfl,HF.out.done HN.out⟩
set_option maxHeartbeats 1600000 in
theorem ZLX (cs:List Value) (x:Zz) (L:List Nat) (w:World) (hz:ZJN x≤1048576) (h:ZJM.rep w cs x L):
  Calls Tryz.prog 229 #[.agg cs.toArray] w (ZLR ZJM w x):=by
 obtain ⟨A1,c1,L1,rfl,_hL,t0,n1,m1,s1⟩:=h
 unfold maxLen at m1
 have S1:=Lib.hid s1
 clear s1
 simp only [ZJN] at hz
 go_enter Tryz.func229,Tryz.ntmps229
 go_wp2_with fail
 refine (ZKT [.string x.pattern.rel,.slice A1 x.pattern.args.length c1] x.pattern _ _ (by omega) ⟨A1,c1,L1,rfl,rfl,t0,n1,(by unfold maxLen;omega),S1.out.below (by repeat (first | refine Below.setCell ?_ (by dsimp only;omega) _ | refine Below.alloc ?_ (by first | (simp;done) | (simp;omega) | omega) _ | exact Below.refl _ _))⟩).mono ?_
 rintro e w1 ⟨cs1,M1,rfl,g1,hb1⟩
 obtain ⟨vA1,vc1,rfl⟩:=ZKN g1.rep
 have G1:=Lib.hid (g1.mono (show w.heap.size+3≤_ by simp))
 have lt1:=Lib.hid g1.lt
 clear g1
 have B1:Hid (Below w.heap.size w w1):=Below.trans (by repeat (first | refine Below.setCell ?_ (by dsimp only;omega) _ | refine Below.alloc ?_ (by first | (simp;done) | (simp;omega) | omega) _ | exact Below.refl _ _)) (hb1.mono (by first | (simp;done) | (simp;omega) | omega))
 have K0:Hid (Blk w1 w.heap.size 231 #[.int .i64 x.kind,.string x.pattern.rel,.slice A1 x.pattern.args.length c1]):=Blk.later (Blk.alloc (Blk.alloc (Blk.new _ _ _) _) _) hb1
 have K1:Hid (Blk w1 (w.heap.size+1) 50 #[.int .i64 0,.string ⟨#[]⟩,.slice none 0 0]):=Blk.later (Blk.alloc (Blk.new_at (by simp)) _) hb1
 have K2:Hid (Blk w1 (w.heap.size+1+1) 50 #[.int .i64 x.kind,.string ⟨#[]⟩,.slice none 0 0]):=Blk.later (Blk.new_at (by simp)) hb1
 have f0:=K0.out.at (i:=0) rfl
 have r0:=K1.out.at (i:=0) rfl
 have o0:=K2.out.at (i:=0) rfl
 have rz0:=K1.out.frozen 0
 have oz0:=K2.out.frozen 0
 have f1:=K0.out.at (i:=1) rfl
 have r1:=K1.out.at (i:=1) rfl
 have o1:=K2.out.at (i:=1) rfl
 have rz1:=K1.out.frozen 1
 have oz1:=K2.out.frozen 1
 have f2:=K0.out.at (i:=2) rfl
 have r2:=K1.out.at (i:=2) rfl
 have o2:=K2.out.at (i:=2) rfl
 have rz2:=K1.out.frozen 2
 have oz2:=K2.out.frozen 2
 have hz1:w.heap.size+2<w1.heap.size:=by have:=hb1.size;simp at this;omega
 clear hb1
 go_wp2_with fail
 refine bodyPost_ret (v:=.agg #[.int .i64 x.kind,.string x.pattern.rel,.slice vA1 x.pattern.args.length vc1]) (by simp [results,Tryz.results229,go_sem,r0,r1,r2]) rfl ?_
 obtain ⟨_,_,N1,hcs1,hL1,_,nn1,mm1,ss1⟩:=G1.out.rep
 cases hcs1
 subst hL1
 exact ZKQ (wr:=w1) (M1) ⟨⟨vA1,vc1,M1,rfl,rfl,t0,nn1,mm1,ss1⟩,by have o:=G1.out.own;simpa only [List.append_assoc] using o⟩ (by intro b hb;repeat rw [Below.heap_setCell _ _ _ _ (by dsimp only;omega)]) (by repeat (first | refine Below.setCell ?_ (by dsimp only;omega) _ | refine Below.alloc ?_ (by first | (simp;done) | (simp;omega) | omega) _ | exact B1.out))
theorem Tryz.infoAction:(Tryz.prog.info? 50).map (fun i=>(i.zero,i.size,i.bytes))=some (some (.agg #[.int .i64 0,.string ⟨#[]⟩,.slice none 0 0]),3,48):=by kernel_rfl
set_option maxHeartbeats 1600000 in
theorem ZLH (A:Option Addr) (n c:Nat) (ds:List Zz) (L:List Nat) (w:World) (hn:n=ds.length) (hz:ZJJ ds≤1048576) (h:Sli ZJM w A ds L):
  Calls Tryz.prog 161 #[.slice A n c] w (ZLt ZJM 50 w ds):=by
 obtain ⟨i0,hi,hz0,hz1,hz2⟩:=info_parts Tryz.infoAction
 have H:=Lib.hid h
 have HN:=Lib.hid hn
 have hm:n≤1048576:=by simp only [ZJJ] at hz;omega
 have HZ:=Lib.hid hz
 clear h hn hz
 go_enter Tryz.func161,Tryz.ntmps161
 go_wp2_with (at_make;refine wpList_make_full _ rfl _ _ 40 rfl w.heap.size 50 i0 _ 3 Tryz.underlying40 hi hz0 hz1 .i64 .i64 _ _ n rfl rfl rfl rfl (by rw [hz2];omega) (by unfold maxLen;omega) (Nat.le_refl _) ?_;intro w1 hown hg)
 have hb:Below w.heap.size w w1:=(Below.refl _ _).grown hg (Nat.le_refl _) (by simp)
 have HF0:Hid (X8 ZJM 50 w n ds 0 w1):=X8.start hown hb
 clear hown hg hb
 go_wp2
 go_loopw [4] (fun i wr=>∃(k:Nat),k≤n∧i=.int .i64 k∧Hid (X8 ZJM 50 w n ds k wr)) (fun i _=>n - (intOf i).toNat)
 case atStart=>exact ⟨0,Nat.zero_le _,rfl,HF0⟩
 case round=>
  obtain ⟨k,hk,rfl,HF⟩:=hrel
  by_cases hlt:k<n
  ·have hkl:k<ds.length:=by have:=HN.out;omega
   obtain ⟨b,off,cs,Lk,rfl,hbL,hLk,hrep,hc⟩:=H.out.at_ hkl
   have hbl:b<w.heap.size:=H.out.lt b hbL
   have HR:=Lib.hid (ZJM.keep hrep (ZdM HF.out.below (fun y m=>H.out.lt y (hLk y m))))
   obtain ⟨A1,c1,rfl⟩:=ZKg hrep
   have q0:wr.cell? ⟨b,off+k * 3,none⟩=_:=(HF.out.below.cell (p:=⟨b,off+(k * 3+0),none⟩) hbl).trans (hc 0 _ rfl)
   have q1:wr.cell? ⟨b,off+k * 3+1,none⟩=_:=(HF.out.below.cell (p:=⟨b,off+(k * 3+1),none⟩) hbl).trans (hc 1 _ rfl)
   have q2:wr.cell? ⟨b,off+k * 3+2,none⟩=_:=(HF.out.below.cell (p:=⟨b,off+(k * 3+2),none⟩) hbl).trans (hc 2 _ rfl)
   have hcx:Hid (ZJN ds[k]≤1048576):=ZLp ZJN ds k hkl (by have:=HZ.out;simp only [ZJJ] at this;omega)
   obtain ⟨x,hx⟩:∃x,x=ds[k]:=⟨_,rfl⟩
   have HX:=Lib.hid hx
   rw [←hx] at HR q0 q1 q2 hcx
   clear hc hrep hx
   go_wp2_with fail
   refine (ZLX _ x Lk _ hcx.out HR.out).mono ?_
   rintro e w2 ⟨cs2,M2,rfl,g2,hb2⟩
   have HF2:=Lib.hid (HF.out.later hb2)
   have HS:=Lib.hid (HF.out.store hlt HN.out (fun _=>HX.out) hb2 g2)
   obtain ⟨vA1,vc1,rfl⟩:=ZKg g2.rep
   clear g2 hb2
   obtain ⟨d0,e0⟩:∃d,w2.cell? ⟨w.heap.size,k * 3,none⟩=some d:=HF2.out.cell hlt (j:=0) (by decide)
   have z0:=HF2.out.frozen (k * 3)
   obtain ⟨d1,e1⟩:∃d,w2.cell? ⟨w.heap.size,k * 3+1,none⟩=some d:=HF2.out.cell hlt (j:=1) (by decide)
   have z1:=HF2.out.frozen (k * 3+1)
   obtain ⟨d2,e2⟩:∃d,w2.cell? ⟨w.heap.size,k * 3+2,none⟩=some d:=HF2.out.cell hlt (j:=2) (by decide)
   have z2:=HF2.out.frozen (k * 3+2)
   go_wp2_with fail
   go_roundw
   case rel=>exact ⟨k+1,by omega,by go_num,HS.out⟩
   case measure=>simp [intOf];omega
  ·obtain rfl:k=n:=by omega
   go_wp2
   go_ret
   exact ⟨_,rfl,HF.out.done HN.out⟩
set_option maxHeartbeats 1600000 in
theorem ZMq (cs:List Value) (x:Zg) (L:List Nat) (w:World) (hz:ZJO x≤1048576) (h:ZKa.rep w cs x L):
  Calls Tryz.prog 93 #[.agg cs.toArray] w (ZLR ZKa w x):=by
 obtain ⟨A1,c1,L1,A2,c2,L2,rfl,_hL,t0,n1,m1,s1,n2,m2,s2⟩:=h
 unfold maxLen at m1 m2
 have S1:=Lib.hid s1
 clear s1
 have S2:=Lib.hid s2
 clear s2
 simp only [ZJO] at hz
 go_enter Tryz.func93,Tryz.ntmps93
 go_wp2_with fail
 refine (ZMe A1 _ c1 x.cond L1 _ rfl (by omega) (S1.out.below (by repeat (first | refine Below.setCell ?_ (by dsimp only;omega) _ | refine Below.alloc ?_ (by first | (simp;done) | (simp;omega) | omega) _ | exact Below.refl _ _)))).mono ?_
 rintro e w1 ⟨v1,rfl,a1⟩
 obtain ⟨vA1,vc1,rfl⟩:=a1.shape
 have hb1:=a1.below
 obtain ⟨M1,g1⟩:=a1.got
 clear a1
 have G1:=Lib.hid (g1.mono (show w.heap.size+3≤_ by simp))
 have lt1:=Lib.hid g1.lt
 clear g1
 have B1:Hid (Below w.heap.size w w1):=Below.trans (by repeat (first | refine Below.setCell ?_ (by dsimp only;omega) _ | refine Below.alloc ?_ (by first | (simp;done) | (simp;omega) | omega) _ | exact Below.refl _ _)) (hb1.mono (by first | (simp;done) | (simp;omega) | omega))
 have K0:Hid (Blk w1 w.heap.size 126 #[.string x.name,.int .i64 x.priority,.slice A1 x.cond.length c1,.slice A2 x.thn.length c2]):=Blk.later (Blk.alloc (Blk.alloc (Blk.new _ _ _) _) _) hb1
 have K1:Hid (Blk w1 (w.heap.size+1) 42 #[.string ⟨#[]⟩,.int .i64 0,.slice none 0 0,.slice none 0 0]):=Blk.later (Blk.alloc (Blk.new_at (by simp)) _) hb1
 have K2:Hid (Blk w1 (w.heap.size+1+1) 42 #[.string x.name,.int .i64 x.priority,.slice none 0 0,.slice none 0 0]):=Blk.later (Blk.new_at (by simp)) hb1
 have f0:=K0.out.at (i:=0) rfl
 have r0:=K1.out.at (i:=0) rfl
 have o0:=K2.out.at (i:=0) rfl
 have rz0:=K1.out.frozen 0
 have oz0:=K2.out.frozen 0
 have f1:=K0.out.at (i:=1) rfl
 have r1:=K1.out.at (i:=1) rfl
 have o1:=K2.out.at (i:=1) rfl
 have rz1:=K1.out.frozen 1
 have oz1:=K2.out.frozen 1
 have f2:=K0.out.at (i:=2) rfl
 have r2:=K1.out.at (i:=2) rfl
 have o2:=K2.out.at (i:=2) rfl
 have rz2:=K1.out.frozen 2
 have oz2:=K2.out.frozen 2
 have f3:=K0.out.at (i:=3) rfl
 have r3:=K1.out.at (i:=3) rfl
 have o3:=K2.out.at (i:=3) rfl
 have rz3:=K1.out.frozen 3
 have oz3:=K2.out.frozen 3
 have hz1:w.heap.size+2<w1.heap.size:=by have:=hb1.size;simp at this;omega
 clear hb1
 go_wp2_with fail
 refine (ZLH A2 _ c2 x.thn L2 _ rfl (by omega) (S2.out.below (by repeat (first | refine Below.setCell ?_ (by dsimp only;omega) _ | refine Below.alloc ?_ (by first | (simp;done) | (simp;omega) | omega) _ | exact B1.out)))).mono ?_
 rintro e w2 ⟨v2,rfl,a2⟩
 obtain ⟨vA2,vc2,rfl⟩:=a2.shape
 have hb2:=a2.below
 obtain ⟨M2,g2⟩:=a2.got
 clear a2
 have G2:=Lib.hid (g2.mono (show w1.heap.size≤_ by simp))
 have lt2:=Lib.hid g2.lt
 clear g2
 have B2:Hid (Below w.heap.size w w2):=Below.trans (by repeat (first | refine Below.setCell ?_ (by dsimp only;omega) _ | refine Below.alloc ?_ (by first | (simp;done) | (simp;omega) | omega) _ | exact B1.out)) (hb2.mono (by first | (simp;done) | (simp;omega) | omega))
 have G1:Hid (Got (ZlE ZKb) (w.heap.size+3) [.slice vA1 x.cond.length vc1] x.cond M1 w2):=Got.later (by repeat (first | refine Got.setCell ?_ (by dsimp only;omega) _ | exact G1.out)) hb2
 have K0:=Lib.hid (Blk.later (Blk.far K0.out (by dsimp only;omega) _) hb2)
 have K1:=Lib.hid (Blk.later (Blk.far K1.out (by dsimp only;omega) _) hb2)
 have K2:=Lib.hid (Blk.later (Blk.set_ K2.out 2 _) hb2)
 clear f0 r0 o0 rz0 oz0 f1 r1 o1 rz1 oz1 f2 r2 o2 rz2 oz2 f3 r3 o3 rz3 oz3
 have f0:=K0.out.at (i:=0) rfl
 have r0:=K1.out.at (i:=0) rfl
 have o0:=K2.out.at (i:=0) rfl
 have rz0:=K1.out.frozen 0
 have oz0:=K2.out.frozen 0
 have f1:=K0.out.at (i:=1) rfl
 have r1:=K1.out.at (i:=1) rfl
 have o1:=K2.out.at (i:=1) rfl
 have rz1:=K1.out.frozen 1
 have oz1:=K2.out.frozen 1
 have f2:=K0.out.at (i:=2) rfl
 have r2:=K1.out.at (i:=2) rfl
 have o2:=K2.out.at (i:=2) rfl
 have rz2:=K1.out.frozen 2
 have oz2:=K2.out.frozen 2
 have f3:=K0.out.at (i:=3) rfl
 have r3:=K1.out.at (i:=3) rfl
 have o3:=K2.out.at (i:=3) rfl
 have rz3:=K1.out.frozen 3
 have oz3:=K2.out.frozen 3
 have hz2:w.heap.size+2<w2.heap.size:=by have:=hb2.size;simp at this;omega
 have hy2:w1.heap.size≤w2.heap.size:=by have:=hb2.size;simp at this;omega
 clear hb2
 go_wp2_with fail
 refine bodyPost_ret (v:=.agg #[.string x.name,.int .i64 x.priority,.slice vA1 x.cond.length vc1,.slice vA2 x.thn.length vc2]) (by simp [results,Tryz.results93,go_sem,r0,r1,r2,r3]) rfl ?_
 obtain ⟨nn1,mm1,ss1⟩:=ZJB G1.out.rep
 obtain ⟨nn2,mm2,ss2⟩:=ZJB G2.out.rep
 exact ZKQ (wr:=w2) (M1++M2) ⟨⟨vA1,vc1,M1,vA2,vc2,M2,rfl,rfl,t0,nn1,mm1,ss1,nn2,mm2,ss2⟩,by have o:=(Own.append G1.out.own G2.out.own (by omega) lt1.out);simpa only [List.append_assoc] using o⟩ (by intro b hb;repeat rw [Below.heap_setCell _ _ _ _ (by dsimp only;omega)]) (by repeat (first | refine Below.setCell ?_ (by dsimp only;omega) _ | refine Below.alloc ?_ (by first | (simp;done) | (simp;omega) | omega) _ | exact B2.out))
theorem Tryz.infoRule:(Tryz.prog.info? 42).map (fun i=>(i.zero,i.size,i.bytes))=some (some (.agg #[.string ⟨#[]⟩,.int .i64 0,.slice none 0 0,.slice none 0 0]),4,72):=by kernel_rfl
set_option maxHeartbeats 1600000 in
theorem ZKB (A:Option Addr) (n c:Nat) (ds:List Zg) (L:List Nat) (w:World) (hn:n=ds.length) (hz:ZJL ds≤1048576) (h:Sli ZKa w A ds L):
  Calls Tryz.prog 34 #[.slice A n c] w (ZLt ZKa 42 w ds):=by
 obtain ⟨i0,hi,hz0,hz1,hz2⟩:=info_parts Tryz.infoRule
 have H:=Lib.hid h
 have HN:=Lib.hid hn
 have hm:n≤1048576:=by simp only [ZJL] at hz;omega
 have HZ:=Lib.hid hz
 clear h hn hz
 go_enter Tryz.func34,Tryz.ntmps34
 go_wp2_with (at_make;refine wpList_make_full _ rfl _ _ 24 rfl w.heap.size 42 i0 _ 4 Tryz.underlying24 hi hz0 hz1 .i64 .i64 _ _ n rfl rfl rfl rfl (by rw [hz2];omega) (by unfold maxLen;omega) (Nat.le_refl _) ?_;intro w1 hown hg)
 have hb:Below w.heap.size w w1:=(Below.refl _ _).grown hg (Nat.le_refl _) (by simp)
 have HF0:Hid (X8 ZKa 42 w n ds 0 w1):=X8.start hown hb
 clear hown hg hb
 go_wp2
 go_loopw [4] (fun i wr=>∃(k:Nat),k≤n∧i=.int .i64 k∧Hid (X8 ZKa 42 w n ds k wr)) (fun i _=>n - (intOf i).toNat)
 case atStart=>exact ⟨0,Nat.zero_le _,rfl,HF0⟩
 case round=>
  obtain ⟨k,hk,rfl,HF⟩:=hrel
  by_cases hlt:k<n
  ·have hkl:k<ds.length:=by have:=HN.out;omega
   obtain ⟨b,off,cs,Lk,rfl,hbL,hLk,hrep,hc⟩:=H.out.at_ hkl
   have hbl:b<w.heap.size:=H.out.lt b hbL
   have HR:=Lib.hid (ZKa.keep hrep (ZdM HF.out.below (fun y m=>H.out.lt y (hLk y m))))
   obtain ⟨A1,c1,A2,c2,rfl⟩:=ZKm hrep
   have q0:wr.cell? ⟨b,off+k * 4,none⟩=_:=(HF.out.below.cell (p:=⟨b,off+(k * 4+0),none⟩) hbl).trans (hc 0 _ rfl)
   have q1:wr.cell? ⟨b,off+k * 4+1,none⟩=_:=(HF.out.below.cell (p:=⟨b,off+(k * 4+1),none⟩) hbl).trans (hc 1 _ rfl)
   have q2:wr.cell? ⟨b,off+k * 4+2,none⟩=_:=(HF.out.below.cell (p:=⟨b,off+(k * 4+2),none⟩) hbl).trans (hc 2 _ rfl)
   have q3:wr.cell? ⟨b,off+k * 4+3,none⟩=_:=(HF.out.below.cell (p:=⟨b,off+(k * 4+3),none⟩) hbl).trans (hc 3 _ rfl)
   have hcx:Hid (ZJO ds[k]≤1048576):=ZLp ZJO ds k hkl (by have:=HZ.out;simp only [ZJL] at this;omega)
   obtain ⟨x,hx⟩:∃x,x=ds[k]:=⟨_,rfl⟩
   have HX:=Lib.hid hx
   rw [←hx] at HR q0 q1 q2 q3 hcx
   clear hc hrep hx
   go_wp2_with fail
   refine (ZMq _ x Lk _ hcx.out HR.out).mono ?_
   rintro e w2 ⟨cs2,M2,rfl,g2,hb2⟩
   have HF2:=Lib.hid (HF.out.later hb2)
   have HS:=Lib.hid (HF.out.store hlt HN.out (fun _=>HX.out) hb2 g2)
   obtain ⟨vA1,vc1,vA2,vc2,rfl⟩:=ZKm g2.rep
   clear g2 hb2
   obtain ⟨d0,e0⟩:∃d,w2.cell? ⟨w.heap.size,k * 4,none⟩=some d:=HF2.out.cell hlt (j:=0) (by decide)
   have z0:=HF2.out.frozen (k * 4)
   obtain ⟨d1,e1⟩:∃d,w2.cell? ⟨w.heap.size,k * 4+1,none⟩=some d:=HF2.out.cell hlt (j:=1) (by decide)
   have z1:=HF2.out.frozen (k * 4+1)
   obtain ⟨d2,e2⟩:∃d,w2.cell? ⟨w.heap.size,k * 4+2,none⟩=some d:=HF2.out.cell hlt (j:=2) (by decide)
   have z2:=HF2.out.frozen (k * 4+2)
   obtain ⟨d3,e3⟩:∃d,w2.cell? ⟨w.heap.size,k * 4+3,none⟩=some d:=HF2.out.cell hlt (j:=3) (by decide)
   have z3:=HF2.out.frozen (k * 4+3)
   go_wp2_with fail
   go_roundw
   case rel=>exact ⟨k+1,by omega,by go_num,HS.out⟩
   case measure=>simp [intOf];omega
  ·obtain rfl:k=n:=by omega
   go_wp2
   go_ret
   exact ⟨_,rfl,HF.out.done HN.out⟩
end Go.Proofs.YtfehfkfdfmcgfaaGreatDoor
