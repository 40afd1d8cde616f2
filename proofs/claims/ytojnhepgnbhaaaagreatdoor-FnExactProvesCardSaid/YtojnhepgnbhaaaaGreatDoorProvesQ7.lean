/- Texts of this proof, joined: Dp12, Dp13, Dp14, Dp15, Dp16, Dp17, Dp18, Dp19, Dp20, BStd, DE, Sz, To, Eq, Open, ExactProves. What each holds is said at its theorems. -/
import Derived.Test.YtojnhepgnbhaaaaGreatDoorProvesQ5
import Derived.Test.YtojnhepgnbhaaaaGreatDoorProvesQ6
import Derived.Test.YtojnhepgnbhaaaaGreatDoorProvesQ4
import Derived.Test.YtojnhepgnbhaaaaGreatDoorProvesQ1
import Derived.Test.YtojnhepgnbhaaaaGreatDoorProg
import Derived.Outline
import Derived.WalkSpells
import Derived.StillTailTactics
import Derived.Deep.Slices
import Derived.ChangeArms
import Derived.ProofKit
import Derived.Test.YtojnhepgnbhaaaaGreatDoorProvesQ3
import Derived.Deep.RegionHeld3
set_option linter.unusedSimpArgs false
set_option linter.unusedVariables false
namespace Go.Proofs.YtojnhepgnbhaaaaGreatDoor
open Go.Proofs.Tryz
set_option linter.unusedSimpArgs false
set_option linter.unusedVariables false
set_option maxRecDepth 1000000
set_option maxHeartbeats 4000000
theorem Zj1 {x_0:Zm} {b_1:(List Zl)} {facts_2:(List Zc)} {r:Bool} (h:Zb4 x_0 b_1 facts_2=some r):Zn Tryz.prog J0 173 [(true,ZM x_0),(false,[.sl 192 2 (List.map Z6 b_1)]),(false,[.sl 57 2 (List.map Zq facts_2)])] [(false,[(false,.bool r)])]:=by
 refine fnk Tryz.func173 (by kernel_rfl) rfl (by kernel_rfl) (by kernel_rfl) ?_
 unfold Zb4 at h
 simp only [fnS,f173,Zo,go_sem,seval]
 obtain ⟨f,a,h⟩:=Za h
 refine Zb (ZfK a) ?_
 try simp only [*,go_sem,seval]
 refine Ze h (fun _ h=>?_) fun _ h=>?_<;>try simp only [*,go_sem,seval]
 obtain ⟨g,b,h⟩:=Za h
 refine Zb (QM b) ?_
 try simp only [*,go_sem,seval]
 iterate 2 refine Ze h (fun _ h=>?_) fun _ h=>?_<;>try simp only [*,go_sem,seval]
 obtain ⟨i,c,h⟩:=Za h
 refine Zb (ZcR c) ?_
 cases h
 try simp only [*,go_sem,seval]
 refine Ze h (fun _ h=>?_) fun _ h=>?_<;>try simp only [*,go_sem,seval]
 obtain ⟨j,d,h⟩:=Za h
 refine Zb (ZcR d) ?_
 cases h
 try simp only [*,go_sem,seval]
 obtain ⟨k,e,h⟩:=Za h
 refine Zb (Zj8 e) ?_
 iterate 3 (cases h;try simp only [*,go_sem,seval])
theorem Zkx {r_0:Zf} {r:Bool} (h:Zb6 r_0=some r):Zn Tryz.prog J0 168 [(true,ZB r_0)] [(false,[(false,.bool r)])]:=by
 refine fnk Tryz.func168 (by kernel_rfl) rfl (by kernel_rfl) (by kernel_rfl) ?_
 unfold Zb6 at h
 simp only [fnS,f168,Zo,go_sem,seval]
 obtain ⟨A,k,h⟩:=Za h
 refine Zb (Zjm k) ?_
 try simp only [*,go_sem,seval]
 refine Ze h (fun _ h=>?_) fun _ h=>?_<;>try simp only [*,go_sem,seval]
 refine Zg h (fun i _ st=>IV [(1,.bp 0 0),(3,.p false [.c (.int .i64 ((i:Nat):Int))])] [.box 82 [.c (.str r_0.name),.c (.int .i64 r_0.priority),.c (.sl 130 5 (List.map ZM r_0.cond)),.c (.sl 134 3 (List.map ZA r_0.thn))]] st) [] [0] (by decide) ?_ ?_ ?_
 simp only [*,go_sem,seval]
 rintro B C ⟨⟩ ⟨sl,ob,n⟩ D a d l h m
 simp only [go_sem,seval,Zd] at d
 obtain ⟨⟨E,F⟩,o,hn⟩:=d
 subst hn
 have q:=WF.boxL l o (j:=2) rfl
 have G:=ZF a
 have H:=ZJ a
 have I:=Zi (ZE a) q
 try simp only [*,go_sem,seval]
 refine Ze h (fun _ h=>?_) fun _ h=>?_<;>try simp only [*,go_sem,seval]
 obtain ⟨J,t,h⟩:=Za h
 refine Zb (Zae t) ?_
 try simp only [*,go_sem,seval]
 obtain ⟨K,u,h⟩:=Za h
 refine Zb (Za3 u) ?_
 try simp only [*,go_sem,seval]
 obtain ⟨L,v,h⟩:=Za h
 refine Zb (Zl3 v) ?_
 try simp only [*,go_sem,seval]
 refine Ze h (fun _ h=>?_) fun _ h=>?_<;>try simp only [*,go_sem,seval]
 refine ⟨_,[],[0],(Option.some.inj h).symm,by decide,?_⟩
 try simp only [*,go_sem,seval]
 replace h:=Zs h m
 cases h
 try simp only [*,go_sem,seval]
 refine ⟨_,[],[0],(Option.some.inj h).symm,by decide,?_⟩
 try simp only [*,go_sem,seval]
 rintro ⟨⟩ ⟨sl,ob,n⟩ e M h
 simp only [go_sem,seval,Zd] at e
 obtain ⟨⟨N,O⟩,P,hn⟩:=e
 subst hn
 have Q:=ZC (r_0.cond.length)
 try simp only [*,go_sem,seval]
 refine Zg h (fun i _ st=>IV [(1,.bp 0 0),(4,.p false [.c (.int .i64 ((i:Nat):Int))])] [.box 82 [.c (.str r_0.name),.c (.int .i64 r_0.priority),.c (.sl 130 5 (List.map ZM r_0.cond)),.c (.sl 134 3 (List.map ZA r_0.thn))]] st) [] [0] (by decide) ?_ ?_ ?_
 simp only [*,go_sem,seval]
 rintro R S ⟨⟩ ⟨sl,ob,n⟩ T b f w h x
 simp only [go_sem,seval,Zd] at f
 obtain ⟨⟨U,V⟩,y,hn⟩:=f
 subst hn
 have z:=WF.boxL w y (j:=3) rfl
 have W:=ZF b
 have X:=ZJ b
 have Y:=Zi (ZE b) z
 try simp only [*,go_sem,seval]
 refine Ze h (fun _ h=>?_) fun _ h=>?_<;>try simp only [*,go_sem,seval]
 replace h:=Zs h x
 cases h
 try simp only [*,go_sem,seval]
 refine ⟨_,[],[0],(Option.some.inj h).symm,by decide,?_⟩
 try simp only [*,go_sem,seval]
 rintro ⟨⟩ ⟨sl,ob,n⟩ g Z h
 simp only [go_sem,seval,Zd] at g
 obtain ⟨⟨aa,ab⟩,ac,hn⟩:=g
 subst hn
 have ad:=ZC (r_0.thn.length)
 iterate 2 (cases h;try simp only [*,go_sem,seval])
theorem ZlF {l_0:(List Zf)} {r:Bool} (h:Zde l_0=some r):Zn Tryz.prog J0 171 [(false,[.sl 82 4 (List.map ZB l_0)])] [(false,[(false,.bool r)])]:=by
 refine fnk Tryz.func171 (by kernel_rfl) rfl (by kernel_rfl) (by kernel_rfl) ?_
 unfold Zde at h
 simp only [fnS,f171,Zo,go_sem,seval]
 refine Zg h (fun i _ st=>IV [(0,.p false [.c (.sl 82 4 (List.map ZB l_0))]),(3,.p false [.c (.int .i64 ((i:Nat):Int))])] [] st) [] [] (by decide) ?_ ?_ ?_
 simp only [*,go_sem,seval]
 rintro o q ⟨⟩ ⟨sl,ob,n⟩ t a b f h d
 simp only [go_sem,seval,Zd] at b
 obtain ⟨⟨g,u⟩,hn⟩:=b
 subst hn
 have k:=WF.slotL f g (j:=0) rfl
 have v:=ZF a
 have w:=ZJ a
 have x:=Zi (ZE a) k
 try simp only [*,go_sem,seval]
 obtain ⟨y,l,h⟩:=Za h
 refine Zb (Zjm l) ?_
 try simp only [*,go_sem,seval]
 refine Ze h (fun _ h=>?_) fun _ h=>?_<;>try simp only [*,go_sem,seval]
 obtain ⟨z,m,h⟩:=Za h
 refine Zb (ZlB m) ?_
 try simp only [*,go_sem,seval]
 refine Ze h (fun _ h=>?_) fun _ h=>?_<;>try simp only [*,go_sem,seval]
 replace h:=Zs h d
 cases h
 try simp only [*,go_sem,seval]
 refine ⟨_,[],[],(Option.some.inj h).symm,by decide,?_⟩
 try simp only [*,go_sem,seval]
 replace h:=Zs h d
 cases h
 try simp only [*,go_sem,seval]
 rintro ⟨⟩ ⟨sl,ob,n⟩ e A h
 simp only [go_sem,seval,Zd] at e
 obtain ⟨⟨B,C⟩,hn⟩:=e
 subst hn
 have D:=ZC (l_0.length)
 cases h
 try simp only [*,go_sem,seval]
theorem ZgN {append_0:(List Zm)} {String_1:(List Zc)} {r:(List Zt)} (h:Zaw append_0 String_1=some r):Zn Tryz.prog J0 87 [(false,[.sl 130 5 (List.map ZM append_0)]),(false,[.sl 57 2 (List.map Zq String_1)])] [(false,[(true,.sl 117 2 (List.map YZ r))])]:=by
 refine fnk Tryz.func87 (by kernel_rfl) rfl (by kernel_rfl) (by kernel_rfl) ?_
 unfold Zaw at h
 simp only [fnS,f87,Zo,go_sem,seval]
 refine Zg h (fun i row_151 st=>IV [(1,.p false [.c (.sl 57 2 (List.map Zq String_1))]),(5,.p false [.row 0]),(17,.p false [.c (.sl 130 5 (List.map ZM append_0))]),(18,.p false [.c (.int .i64 ((append_0.length:Nat):Int))]),(19,.p false [.c (.int .i64 ((i:Nat):Int))])] [.row 117 2 (List.map YZ row_151) 1] st) [(true,32,1)] [32] (by decide) ?_ ?_ ?_
 ·simp only [*,go_sem,seval]
 ·rintro i246 x247 row_151 ⟨sl,ob,n⟩ y1 hx2 hI3 hW4 h hy1
  simp only [go_sem,seval,Zd] at hI3
  obtain ⟨⟨g5_1,g5_5,g5_17,g5_18,g5_19⟩,og5_0,hn⟩:=hI3
  subst hn
  have hlhx2:=WF.slotL hW4 g5_17 (j:=0) rfl
  have q6:=ZF hx2
  have q7:=ZJ hx2
  have q8:=Zi (ZE hx2) hlhx2
  try simp only [*,go_sem,seval]
  refine Zg h (fun i row_303 st=>IV [(1,.p false [.c (.sl 57 2 (List.map Zq String_1))]),(7,.bp 0 0),(8,.p false [.row 1]),(17,.p false [.c (.sl 130 5 (List.map ZM append_0))]),(18,.p false [.c (.int .i64 ((append_0.length:Nat):Int))]),(19,.p false [.c (.int .i64 ((i246:Nat):Int))]),(23,.p false [.row 2]),(24,.p false [.c (.int .i64 ((row_151.length:Nat):Int))]),(25,.p false [.c (.int .i64 ((i:Nat):Int))])] [.box 130 [.c (.int .i64 x247.kind),.c (.str x247.pattern.rel),.c (.sl 9 1 (List.map Zu x247.pattern.args)),.c (.str x247.left),.c (.str x247.right)],.row 117 2 (List.map YZ row_303) 1,.row 117 2 (List.map YZ row_151) 1] st) [(false,8,0),(true,145,1)] [49,145,0] (by decide) ?_ ?_ ?_
  ·simp only [*,go_sem,seval]
  ·rintro i322 x323 row_303 ⟨sl,ob,n⟩ y9 hx10 hI11 hW12 h hy9
   simp only [go_sem,seval,Zd] at hI11
   obtain ⟨⟨g13_1,g13_7,g13_8,g13_17,g13_18,g13_19,g13_23,g13_24,g13_25⟩,og13_0,og13_1,og13_2,hn⟩:=hI11
   subst hn
   have hlhx10:=WF.rowL hW12 og13_2
   have q14:=ZF hx10
   have q15:=ZJ hx10
   have q16:=Zi (ZE hx10) hlhx10
   try simp only [*,go_sem,seval]
   refine Ze h (fun _ h=>?_) fun _ h=>?_<;>try simp only [*,go_sem,seval]
   ·obtain ⟨v324,e18,h⟩:=Za h
    refine Zb (by have hh:=Zka e18;first|exact hh|(simp only [*,go_sem] at hh;exact hh)) ?_
    try simp only [*,go_sem,seval]
    refine Ze h (fun _ h=>?_) fun _ h=>?_<;>try simp only [*,go_sem,seval]
    ·obtain ⟨p20,h⟩:=Zx h
     try simp only [Nat.reduceLeDiff] at p20
     try simp only [*,go_sem,seval]
     refine ⟨_,[],[0,259,2],(Option.some.inj h).symm,by decide,?_⟩
     try simp only [*,go_sem,seval]
    ·refine ⟨_,[],[0,1,2],(Option.some.inj h).symm,by decide,?_⟩
     try simp only [*,go_sem,seval]
   ·refine Zg h (fun i row_329 st=>IV [(1,.p false [.c (.sl 57 2 (List.map Zq String_1))]),(7,.bp 0 0),(8,.p false [.row 1]),(10,.bp 2 0),(17,.p false [.c (.sl 130 5 (List.map ZM append_0))]),(18,.p false [.c (.int .i64 ((append_0.length:Nat):Int))]),(19,.p false [.c (.int .i64 ((i246:Nat):Int))]),(23,.p false [.row 3]),(24,.p false [.c (.int .i64 ((row_151.length:Nat):Int))]),(25,.p false [.c (.int .i64 ((i322:Nat):Int))]),(41,.p false [.c (.sl 57 2 (List.map Zq String_1))]),(42,.p false [.c (.int .i64 ((String_1.length:Nat):Int))]),(43,.p false [.c (.int .i64 ((i:Nat):Int))])] [.box 130 [.c (.int .i64 x247.kind),.c (.str x247.pattern.rel),.c (.sl 9 1 (List.map Zu x247.pattern.args)),.c (.str x247.left),.c (.str x247.right)],.row 117 2 (List.map YZ row_329) 1,.box 117 [.c (.sl 57 2 (List.map Zq x323.facts)),.c (.sl 192 2 (List.map Z6 x323.binding))],.row 117 2 (List.map YZ row_151) 1] st) [] [0,1,51,2] (by decide) ?_ ?_ ?_
    ·simp only [*,go_sem,seval]
    ·rintro i335 x336 row_329 ⟨sl,ob,n⟩ y21 hx22 hI23 hW24 h hy21
     simp only [go_sem,seval,Zd] at hI23
     obtain ⟨⟨g25_1,g25_7,g25_8,g25_10,g25_17,g25_18,g25_19,g25_23,g25_24,g25_25,g25_41,g25_42,g25_43⟩,og25_0,og25_1,og25_2,og25_3,hn⟩:=hI23
     subst hn
     have hlhx22:=WF.slotL hW24 g25_1 (j:=0) rfl
     have q26:=ZF hx22
     have q27:=ZJ hx22
     have q28:=Zi (ZE hx22) hlhx22
     try simp only [*,go_sem,seval]
     obtain ⟨v337,e29,h⟩:=Za h
     refine Zb (by have hh:=ZfI e29;first|exact hh|(simp only [*,go_sem] at hh;exact hh)) ?_
     try simp only [*,go_sem,seval]
     refine Ze h (fun _ h=>?_) fun _ h=>?_<;>try simp only [*,go_sem,seval]
     ·obtain ⟨v338,e31,h⟩:=Za h
      refine Zb (by have hh:=ZfB e31;first|exact hh|(simp only [*,go_sem] at hh;exact hh)) ?_
      try simp only [*,go_sem,seval]
      obtain ⟨v339,e32,h⟩:=Za h
      refine Zb (by have hh:=Xf e32;first|exact hh|(simp only [*,go_sem] at hh;exact hh)) ?_
      obtain ⟨p33,h⟩:=Zx h
      try simp only [Nat.reduceLeDiff] at p33
      obtain ⟨p34,h⟩:=Zx h
      try simp only [Nat.reduceLeDiff] at p34
      try simp only [*,go_sem,seval]
      refine ⟨_,[],[0,452,2,3],(Option.some.inj h).symm,by decide,?_⟩
      try simp only [*,go_sem,seval]
     ·refine ⟨_,[],[0,1,2,3],(Option.some.inj h).symm,by decide,?_⟩
      try simp only [*,go_sem,seval]
    ·rintro row_329 ⟨sl,ob,n⟩ hI35 hW36 h
     simp only [go_sem,seval,Zd] at hI35
     obtain ⟨⟨g37_1,g37_7,g37_8,g37_10,g37_17,g37_18,g37_19,g37_23,g37_24,g37_25,g37_41,g37_42,g37_43⟩,og37_0,og37_1,og37_2,og37_3,hn⟩:=hI35
     subst hn
     have q38:=ZC (String_1.length)
     try simp only [*,go_sem,seval]
     refine ⟨_,[],[0,1,3],(Option.some.inj h).symm,by decide,?_⟩
     try simp only [*,go_sem,seval]
  ·rintro row_303 ⟨sl,ob,n⟩ hI39 hW40 h
   simp only [go_sem,seval,Zd] at hI39
   obtain ⟨⟨g41_1,g41_7,g41_8,g41_17,g41_18,g41_19,g41_23,g41_24,g41_25⟩,og41_0,og41_1,og41_2,hn⟩:=hI39
   subst hn
   have q42:=ZC (row_151.length)
   try simp only [*,go_sem,seval]
   refine ⟨_,[],[1],(Option.some.inj h).symm,by decide,?_⟩
   try simp only [*,go_sem,seval]
 ·rintro row_151 ⟨sl,ob,n⟩ hI43 hW44 h
  simp only [go_sem,seval,Zd] at hI43
  obtain ⟨⟨g45_1,g45_5,g45_17,g45_18,g45_19⟩,og45_0,hn⟩:=hI43
  subst hn
  have q46:=ZC (append_0.length)
  cases h
  try simp only [*,go_sem,seval]
theorem ZjB {rules_0:(List Zf)} {r:Bool} (h:Za7 rules_0=some r):Zn Tryz.prog J0 132 [(false,[.sl 82 4 (List.map ZB rules_0)])] [(false,[(false,.bool r)])]:=by
 refine fnk Tryz.func132 (by kernel_rfl) rfl (by kernel_rfl) (by kernel_rfl) ?_
 unfold Za7 at h
 simp only [fnS,f132,Zo,go_sem,seval]
 obtain ⟨v1,e1,h⟩:=Za h
 refine Zb (by have hh:=Zly e1;first|exact hh|(simp only [*,go_sem] at hh;exact hh)) ?_
 try simp only [*,go_sem,seval]
 refine Ze h (fun _ h=>?_) fun _ h=>?_<;>try simp only [*,go_sem,seval]
 ·refine Zg h (fun i _ st=>IV [(0,.p false [.c (.sl 82 4 (List.map ZB rules_0))]),(13,.p false [.c (.sl 82 4 (List.map ZB rules_0))]),(14,.p false [.c (.int .i64 ((rules_0.length:Nat):Int))]),(15,.p false [.c (.int .i64 ((i:Nat):Int))])] [] st) [] [] (by decide) ?_ ?_ ?_
  ·simp only [*,go_sem,seval]
  ·rintro i59 x60 ⟨⟩ ⟨sl,ob,n⟩ y3 hx4 hI5 hW6 h hy3
   simp only [go_sem,seval,Zd] at hI5
   obtain ⟨⟨g7_0,g7_13,g7_14,g7_15⟩,hn⟩:=hI5
   subst hn
   have hlhx4:=WF.slotL hW6 g7_0 (j:=0) rfl
   have q8:=ZF hx4
   have q9:=ZJ hx4
   have q10:=Zi (ZE hx4) hlhx4
   try simp only [*,go_sem,seval]
   obtain ⟨v61,e11,h⟩:=Za h
   refine Zb (by have hh:=Zlq e11;first|exact hh|(simp only [*,go_sem] at hh;exact hh)) ?_
   try simp only [*,go_sem,seval]
   refine Ze h (fun _ h=>?_) fun _ h=>?_<;>try simp only [*,go_sem,seval]
   ·refine Zg h (fun i _ st=>IV [(0,.p false [.c (.sl 82 4 (List.map ZB rules_0))]),(4,.bp 0 0),(13,.p false [.c (.sl 82 4 (List.map ZB rules_0))]),(14,.p false [.c (.int .i64 ((rules_0.length:Nat):Int))]),(15,.p false [.c (.int .i64 ((i59:Nat):Int))]),(23,.p false [.c (.sl 130 5 (List.map ZM x60.cond))]),(24,.p false [.c (.int .i64 ((x60.cond.length:Nat):Int))]),(25,.p false [.c (.int .i64 ((i:Nat):Int))])] [.box 82 [.c (.str x60.name),.c (.int .i64 x60.priority),.c (.sl 130 5 (List.map ZM x60.cond)),.c (.sl 134 3 (List.map ZA x60.thn))]] st) [] [48] (by decide) ?_ ?_ ?_
    ·simp only [*,go_sem,seval]
    ·rintro i79 x80 ⟨⟩ ⟨sl,ob,n⟩ y13 hx14 hI15 hW16 h hy13
     simp only [go_sem,seval,Zd] at hI15
     obtain ⟨⟨g17_0,g17_4,g17_13,g17_14,g17_15,g17_23,g17_24,g17_25⟩,og17_0,hn⟩:=hI15
     subst hn
     have hlhx14:=WF.slotL hW16 g17_23 (j:=0) rfl
     have q18:=ZF hx14
     have q19:=ZJ hx14
     have q20:=Zi (ZE hx14) hlhx14
     try simp only [*,go_sem,seval]
     refine Ze h (fun _ h=>?_) fun _ h=>?_<;>try simp only [*,go_sem,seval]
     ·refine ⟨_,[],[0],(Option.some.inj h).symm,by decide,?_⟩
      try simp only [*,go_sem,seval]
     ·obtain ⟨v81,e22,h⟩:=Za h
      refine Zve (by have hh:=Zl4 e22;first|exact hh|(simp only [*,go_sem] at hh;exact hh)) ?_
      try simp only [*,go_sem,seval]
      obtain ⟨v82,e23,h⟩:=Za h
      refine Zb (by have hh:=ZgR e23;first|exact hh|(simp only [*,go_sem] at hh;exact hh)) ?_
      try simp only [*,go_sem,seval]
      refine Zg h (fun i _ st=>IV [(0,.p false [.c (.sl 82 4 (List.map ZB rules_0))]),(4,.bp 0 0),(6,.bp 1 0),(7,.p false [.row 2]),(13,.p false [.c (.sl 82 4 (List.map ZB rules_0))]),(14,.p false [.c (.int .i64 ((rules_0.length:Nat):Int))]),(15,.p false [.c (.int .i64 ((i59:Nat):Int))]),(23,.p false [.c (.sl 130 5 (List.map ZM x60.cond))]),(24,.p false [.c (.int .i64 ((x60.cond.length:Nat):Int))]),(25,.p false [.c (.int .i64 ((i79:Nat):Int))]),(38,.p false [.row 3]),(39,.p false [.c (.int .i64 ((v82.length:Nat):Int))]),(40,.p false [.c (.int .i64 ((i:Nat):Int))])] [.box 82 [.c (.str x60.name),.c (.int .i64 x60.priority),.c (.sl 130 5 (List.map ZM x60.cond)),.c (.sl 134 3 (List.map ZA x60.thn))],.box 130 [.c (.int .i64 x80.kind),.c (.str x80.pattern.rel),.c (.sl 9 1 (List.map Zu x80.pattern.args)),.c (.str x80.left),.c (.str x80.right)],.map .str .bool (List.map eSB v81),.row 9 1 (List.map Zu v82) 2] st) [] [0,49,193,241] (by decide) ?_ ?_ ?_
      ·simp only [*,go_sem,seval]
      ·rintro i86 x87 ⟨⟩ ⟨sl,ob,n⟩ y24 hx25 hI26 hW27 h hy24
       simp only [go_sem,seval,Zd] at hI26
       obtain ⟨⟨g28_0,g28_4,g28_6,g28_7,g28_13,g28_14,g28_15,g28_23,g28_24,g28_25,g28_38,g28_39,g28_40⟩,og28_0,og28_1,og28_2,og28_3,hn⟩:=hI26
       subst hn
       have hlhx25:=WF.rowL hW27 og28_3
       have q29:=ZF hx25
       have q30:=ZJ hx25
       have q31:=Zi (ZE hx25) hlhx25
       try simp only [*,go_sem,seval]
       refine Ze h (fun _ h=>?_) fun _ h=>?_<;>try simp only [*,go_sem,seval]
       ·replace h:=Zs h hy24
        replace h:=Zs h hy13
        replace h:=Zs h hy3
        cases h
        try simp only [*,go_sem,seval]
       ·refine Ze h (fun _ h=>?_) fun _ h=>?_<;>try simp only [*,go_sem,seval]
        ·replace h:=Zs h hy24
         replace h:=Zs h hy13
         replace h:=Zs h hy3
         cases h
         try simp only [*,go_sem,seval]
        ·refine ⟨_,[],[0,1,2,3],(Option.some.inj h).symm,by decide,?_⟩
         try simp only [*,go_sem,seval]
      ·rintro ⟨⟩ ⟨sl,ob,n⟩ hI34 hW35 h
       simp only [go_sem,seval,Zd] at hI34
       obtain ⟨⟨g36_0,g36_4,g36_6,g36_7,g36_13,g36_14,g36_15,g36_23,g36_24,g36_25,g36_38,g36_39,g36_40⟩,og36_0,og36_1,og36_2,og36_3,hn⟩:=hI34
       subst hn
       have q37:=ZC (v82.length)
       try simp only [*,go_sem,seval]
       refine ⟨_,[],[0],(Option.some.inj h).symm,by decide,?_⟩
       try simp only [*,go_sem,seval]
    ·rintro ⟨⟩ ⟨sl,ob,n⟩ hI38 hW39 h
     simp only [go_sem,seval,Zd] at hI38
     obtain ⟨⟨g40_0,g40_4,g40_13,g40_14,g40_15,g40_23,g40_24,g40_25⟩,og40_0,hn⟩:=hI38
     subst hn
     have q41:=ZC (x60.cond.length)
     try simp only [*,go_sem,seval]
     refine ⟨_,[],[],(Option.some.inj h).symm,by decide,?_⟩
     try simp only [*,go_sem,seval]
   ·replace h:=Zs h hy3
    cases h
    try simp only [*,go_sem,seval]
  ·rintro ⟨⟩ ⟨sl,ob,n⟩ hI42 hW43 h
   simp only [go_sem,seval,Zd] at hI42
   obtain ⟨⟨g44_0,g44_13,g44_14,g44_15⟩,hn⟩:=hI42
   subst hn
   have q45:=ZC (rules_0.length)
   cases h
   try simp only [*,go_sem,seval]
 ·cases h
  try simp only [*,go_sem,seval]
end Go.Proofs.YtojnhepgnbhaaaaGreatDoor
namespace Go.Proofs.YtojnhepgnbhaaaaGreatDoor
open Go.Proofs.Tryz
set_option linter.unusedSimpArgs false
set_option linter.unusedVariables false
set_option maxRecDepth 1000000
set_option maxHeartbeats 4000000
theorem ZoB {append_0:(List Zt)} {String_1:Zm} {a_2:(List Zc)} {r:(List Zt)} (h:Zf1 append_0 String_1 a_2=some r):Zn Tryz.prog J0 127 [(false,[.sl 117 2 (List.map YZ append_0)]),(true,ZM String_1),(false,[.sl 57 2 (List.map Zq a_2)])] [(false,[(false,.sl 117 2 (List.map YZ r))])]:=by
 refine fnk Tryz.func127 (by kernel_rfl) rfl (by kernel_rfl) (by kernel_rfl) ?_
 unfold Zf1 at h
 simp only [fnS,f127,Zo,go_sem,seval]
 refine Zg h (fun i row_22 st=>IV [(0,.p false [.c (.sl 117 2 (List.map YZ append_0))]),(2,.p false [.c (.sl 57 2 (List.map Zq a_2))]),(4,.bp 0 0),(7,.p false [.row 1]),(8,.p false [.c (.int .i64 ((i:Nat):Int))])] [.box 130 [.c (.int .i64 String_1.kind),.c (.str String_1.pattern.rel),.c (.sl 9 1 (List.map Zu String_1.pattern.args)),.c (.str String_1.left),.c (.str String_1.right)],.row 117 2 (List.map YZ row_22) 2] st) [] [0,32] (by decide) ?_ ?_ ?_
 ·simp only [*,go_sem,seval]
 ·rintro i45 x46 row_22 ⟨sl,ob,n⟩ y1 hx2 hI3 hW4 h hy1
  simp only [go_sem,seval,Zd] at hI3
  obtain ⟨⟨g5_0,g5_2,g5_4,g5_7,g5_8⟩,og5_0,og5_1,hn⟩:=hI3
  subst hn
  have hlhx2:=WF.slotL hW4 g5_0 (j:=0) rfl
  have q6:=ZF hx2
  have q7:=ZJ hx2
  have q8:=Zi (ZE hx2) hlhx2
  try simp only [*,go_sem,seval]
  refine Ze h (fun _ h=>?_) fun _ h=>?_<;>try simp only [*,go_sem,seval]
  ·obtain ⟨v47,e10,h⟩:=Za h
   refine Zb (by have hh:=Zj1 e10;first|exact hh|(simp only [*,go_sem] at hh;exact hh)) ?_
   try simp only [*,go_sem,seval]
   refine Ze h (fun _ h=>?_) fun _ h=>?_<;>try simp only [*,go_sem,seval]
   ·obtain ⟨v48,e12,h⟩:=Za h
    refine Zb (by have hh:=Zon e12;first|exact hh|(simp only [*,go_sem] at hh;exact hh)) ?_
    obtain ⟨p13,h⟩:=Zx h
    try simp only [Nat.reduceLeDiff] at p13
    try simp only [*,go_sem,seval]
    refine ⟨_,[],[0,354],(Option.some.inj h).symm,by decide,?_⟩
    try simp only [*,go_sem,seval]
   ·refine ⟨_,[],[0,1],(Option.some.inj h).symm,by decide,?_⟩
    try simp only [*,go_sem,seval]
  ·refine Zg h (fun i row_53 st=>IV [(0,.p false [.c (.sl 117 2 (List.map YZ append_0))]),(2,.p false [.c (.sl 57 2 (List.map Zq a_2))]),(4,.bp 0 0),(7,.p false [.row 1]),(8,.p false [.c (.int .i64 ((i45:Nat):Int))]),(9,.p false [.c (.int .i64 ((i:Nat):Int))])] [.box 130 [.c (.int .i64 String_1.kind),.c (.str String_1.pattern.rel),.c (.sl 9 1 (List.map Zu String_1.pattern.args)),.c (.str String_1.left),.c (.str String_1.right)],.row 117 2 (List.map YZ row_53) 2] st) [] [0,1] (by decide) ?_ ?_ ?_
   ·simp only [*,go_sem,seval]
   ·rintro i59 x60 row_53 ⟨sl,ob,n⟩ y14 hx15 hI16 hW17 h hy14
    simp only [go_sem,seval,Zd] at hI16
    obtain ⟨⟨g18_0,g18_2,g18_4,g18_7,g18_8,g18_9⟩,og18_0,og18_1,hn⟩:=hI16
    subst hn
    have hlhx15:=WF.slotL hW17 g18_2 (j:=0) rfl
    have q19:=ZF hx15
    have q20:=ZJ hx15
    have q21:=Zi (ZE hx15) hlhx15
    try simp only [*,go_sem,seval]
    obtain ⟨v61,e22,h⟩:=Za h
    refine Zb (by have hh:=Zfh e22;first|exact hh|(simp only [*,go_sem] at hh;exact hh)) ?_
    try simp only [*,go_sem,seval]
    refine Ze h (fun _ h=>?_) fun _ h=>?_<;>try simp only [*,go_sem,seval]
    ·obtain ⟨v62,e24,h⟩:=Za h
     refine Zb (by have hh:=Zd1 e24;first|exact hh|(simp only [*,go_sem] at hh;exact hh)) ?_
     try simp only [*,go_sem,seval]
     obtain ⟨v63,e25,h⟩:=Za h
     refine Zb (by have hh:=XF e25;first|exact hh|(simp only [*,go_sem] at hh;exact hh)) ?_
     obtain ⟨p26,h⟩:=Zx h
     try simp only [Nat.reduceLeDiff] at p26
     obtain ⟨p27,h⟩:=Zx h
     try simp only [Nat.reduceLeDiff] at p27
     try simp only [*,go_sem,seval]
     refine ⟨_,[],[0,626],(Option.some.inj h).symm,by decide,?_⟩
     try simp only [*,go_sem,seval]
    ·refine ⟨_,[],[0,1],(Option.some.inj h).symm,by decide,?_⟩
     try simp only [*,go_sem,seval]
   ·rintro row_53 ⟨sl,ob,n⟩ hI28 hW29 h
    simp only [go_sem,seval,Zd] at hI28
    obtain ⟨⟨g30_0,g30_2,g30_4,g30_7,g30_8,g30_9⟩,og30_0,og30_1,hn⟩:=hI28
    subst hn
    have q31:=ZC (a_2.length)
    try simp only [*,go_sem,seval]
    refine ⟨_,[],[0,1],(Option.some.inj h).symm,by decide,?_⟩
    try simp only [*,go_sem,seval]
 ·rintro row_22 ⟨sl,ob,n⟩ hI32 hW33 h
  simp only [go_sem,seval,Zd] at hI32
  obtain ⟨⟨g34_0,g34_2,g34_4,g34_7,g34_8⟩,og34_0,og34_1,hn⟩:=hI32
  subst hn
  have q35:=ZC (append_0.length)
  cases h
  try simp only [*,go_sem,seval]
theorem ZjD {append_0:(List Zf)} {r:Bool} (h:Zbg append_0=some r):Zn Tryz.prog J0 123 [(false,[.sl 82 4 (List.map ZB append_0)])] [(false,[(false,.bool r)])]:=by
 refine fnk Tryz.func123 (by kernel_rfl) rfl (by kernel_rfl) (by kernel_rfl) ?_
 unfold Zbg at h
 simp only [fnS,f123,Zo,go_sem,seval]
 refine Zg h (fun i _ st=>IV [(0,.p false [.c (.sl 82 4 (List.map ZB append_0))]),(3,.p false [.c (.int .i64 ((i:Nat):Int))])] [] st) [] [] (by decide) ?_ ?_ ?_
 ·simp only [*,go_sem,seval]
 ·rintro i67 x68 ⟨⟩ ⟨sl,ob,n⟩ y1 hx2 hI3 hW4 h hy1
  simp only [go_sem,seval,Zd] at hI3
  obtain ⟨⟨g5_0,g5_3⟩,hn⟩:=hI3
  subst hn
  have hlhx2:=WF.slotL hW4 g5_0 (j:=0) rfl
  have q6:=ZF hx2
  have q7:=ZJ hx2
  have q8:=Zi (ZE hx2) hlhx2
  try simp only [*,go_sem,seval]
  obtain ⟨v69,e9,h⟩:=Za h
  refine Zb (by have hh:=Zkx e9;first|exact hh|(simp only [*,go_sem] at hh;exact hh)) ?_
  try simp only [*,go_sem,seval]
  refine Ze h (fun _ h=>?_) fun _ h=>?_<;>try simp only [*,go_sem,seval]
  ·obtain ⟨v70,e11,h⟩:=Za h
   refine Zb (by have hh:=ZgD e11;first|exact hh|(simp only [*,go_sem] at hh;exact hh)) ?_
   try simp only [*,go_sem,seval]
   refine Zg h (fun i _ st=>IV [(0,.p false [.c (.sl 82 4 (List.map ZB append_0))]),(3,.p false [.c (.int .i64 ((i67:Nat):Int))]),(4,.p false [.row 0]),(5,.p false [.c (.int .i64 ((i:Nat):Int))])] [.row 9 1 (List.map Zu v70) 2] st) [] [224] (by decide) ?_ ?_ ?_
   ·simp only [*,go_sem,seval]
   ·rintro i90 x91 ⟨⟩ ⟨sl,ob,n⟩ y12 hx13 hI14 hW15 h hy12
    simp only [go_sem,seval,Zd] at hI14
    obtain ⟨⟨g16_0,g16_3,g16_4,g16_5⟩,og16_0,hn⟩:=hI14
    subst hn
    have hlhx13:=WF.elL (WF.slotD hW15 g16_0 (j:=0) rfl) hx2 (j:=2) rfl
    have q17:=ZF hx13
    have q18:=ZJ hx13
    have q19:=Zi (ZE hx13) hlhx13
    try simp only [*,go_sem,seval]
    refine Zg h (fun i _ st=>IV [(0,.p false [.c (.sl 82 4 (List.map ZB append_0))]),(3,.p false [.c (.int .i64 ((i67:Nat):Int))]),(4,.p false [.row 0]),(5,.p false [.c (.int .i64 ((i90:Nat):Int))]),(6,.bp 1 0),(7,.p false [.c (.int .i64 ((i:Nat):Int))])] [.row 9 1 (List.map Zu v70) 2,.box 130 [.c (.int .i64 x91.kind),.c (.str x91.pattern.rel),.c (.sl 9 1 (List.map Zu x91.pattern.args)),.c (.str x91.left),.c (.str x91.right)]] st) [] [0,257] (by decide) ?_ ?_ ?_
    ·simp only [*,go_sem,seval]
    ·rintro i97 x98 ⟨⟩ ⟨sl,ob,n⟩ y20 hx21 hI22 hW23 h hy20
     simp only [go_sem,seval,Zd] at hI22
     obtain ⟨⟨g24_0,g24_3,g24_4,g24_5,g24_6,g24_7⟩,og24_0,og24_1,hn⟩:=hI22
     subst hn
     have hlhx21:=WF.rowL hW23 og24_0
     have q25:=ZF hx21
     have q26:=ZJ hx21
     have q27:=Zi (ZE hx21) hlhx21
     try simp only [*,go_sem,seval]
     refine Ze h (fun _ h=>?_) fun _ h=>?_<;>try simp only [*,go_sem,seval]
     ·refine Ze h (fun _ h=>?_) fun _ h=>?_<;>try simp only [*,go_sem,seval]
      ·replace h:=Zs h hy20
       replace h:=Zs h hy12
       replace h:=Zs h hy1
       cases h
       try simp only [*,go_sem,seval]
      ·obtain ⟨v99,e30,h⟩:=Za h
       refine Zb (by have hh:=Zjw e30;first|exact hh|(simp only [*,go_sem] at hh;exact hh)) ?_
       try simp only [*,go_sem,seval]
       refine Ze h (fun _ h=>?_) fun _ h=>?_<;>try simp only [*,go_sem,seval]
       ·replace h:=Zs h hy20
        replace h:=Zs h hy12
        replace h:=Zs h hy1
        cases h
        try simp only [*,go_sem,seval]
       ·refine ⟨_,[],[0,1],(Option.some.inj h).symm,by decide,?_⟩
        try simp only [*,go_sem,seval]
     ·replace h:=Zs h hy20
      refine ⟨_,[],[0],(Option.some.inj h).symm,by decide,?_⟩
      try simp only [*,go_sem,seval]
    ·rintro ⟨⟩ ⟨sl,ob,n⟩ hI32 hW33 h
     simp only [go_sem,seval,Zd] at hI32
     obtain ⟨⟨g34_0,g34_3,g34_4,g34_5,g34_6,g34_7⟩,og34_0,og34_1,hn⟩:=hI32
     subst hn
     have q35:=ZC (v70.length)
     try simp only [*,go_sem,seval]
     refine ⟨_,[],[0],(Option.some.inj h).symm,by decide,?_⟩
     try simp only [*,go_sem,seval]
   ·rintro ⟨⟩ ⟨sl,ob,n⟩ hI36 hW37 h
    simp only [go_sem,seval,Zd] at hI36
    obtain ⟨⟨g38_0,g38_3,g38_4,g38_5⟩,og38_0,hn⟩:=hI36
    subst hn
    have q39:=ZC (x68.cond.length)
    try simp only [*,go_sem,seval]
    refine ⟨_,[],[],(Option.some.inj h).symm,by decide,?_⟩
    try simp only [*,go_sem,seval]
  ·replace h:=Zs h hy1
   cases h
   try simp only [*,go_sem,seval]
 ·rintro ⟨⟩ ⟨sl,ob,n⟩ hI40 hW41 h
  simp only [go_sem,seval,Zd] at hI40
  obtain ⟨⟨g42_0,g42_3⟩,hn⟩:=hI40
  subst hn
  have q43:=ZC (append_0.length)
  try simp only [*,go_sem,seval]
  obtain ⟨v100,e44,h⟩:=Za h
  refine Zb (by have hh:=ZlF e44;first|exact hh|(simp only [*,go_sem] at hh;exact hh)) ?_
  cases h
  try simp only [*,go_sem,seval]
theorem Zho {append_0:(List Zf)} {String_1:(List Zc)} {r:((List Zc) × Bool)} (h:Yv append_0 String_1=some r):Zn Tryz.prog J0 86 [(false,[.sl 82 4 (List.map ZB append_0)]),(false,[.sl 57 2 (List.map Zq String_1)])] [(false,[(false,.sl 57 2 (List.map Zq r.1))]),(false,[(false,.bool r.2)])]:=by
 refine fnn 4 Tryz.func86 (by kernel_rfl) rfl (by kernel_rfl) (by kernel_rfl) ?_
 unfold Yv at h
 simp only [fnN,f86,Zo,go_sem,seval]
 obtain ⟨v1,e1,h⟩:=Za h
 refine Zb (by have hh:=ZjB e1;first|exact hh|(simp only [*,go_sem] at hh;exact hh)) ?_
 try simp only [*,go_sem,seval]
 refine Ze h (fun _ h=>?_) fun _ h=>?_<;>try simp only [*,go_sem,seval]
 ·obtain ⟨v2,e3,h⟩:=Za h
  refine Zb (by have hh:=ZlL e3;first|exact hh|(simp only [*,go_sem] at hh;exact hh)) ?_
  try simp only [*,go_sem,seval]
  refine Ze h (fun _ h=>?_) fun _ h=>?_<;>try simp only [*,go_sem,seval]
  ·obtain ⟨v3,e5,h⟩:=Za h
   refine Zb (by have hh:=ZfB e5;first|exact hh|(simp only [*,go_sem] at hh;exact hh)) ?_
   try simp only [*,go_sem,seval]
   refine Zeh h (fun s st=>match s with | (u_254,u_255)=>IV [(0,.p false [.c (.sl 82 4 (List.map ZB append_0))]),(6,.p false [.n (.sl 57 2 (List.map Zq u_254))]),(7,.p false [.c (.bool u_255)])] [] st) [(false,6,4096)] [] (by decide) ?_ ?_
   ·simp only [*,go_sem,seval]
   ·rintro ⟨u_254,u_255⟩ ⟨sl,ob,n⟩ y6 hI7 hW8 h hy6
    simp only [go_sem,seval,Zd] at hI7
    obtain ⟨⟨g9_0,g9_6,g9_7⟩,hn⟩:=hI7
    subst hn
    try simp only [*,go_sem,seval]
    refine Ze h (fun _ h=>?_) fun _ h=>?_<;>try simp only [*,go_sem,seval]
    ·refine Zg h (fun i s st=>match s with | (u_339,u_340)=>IV [(0,.p false [.c (.sl 82 4 (List.map ZB append_0))]),(6,.p false [.n (.sl 57 2 (List.map Zq u_339))]),(7,.p false [.c (.bool u_340)]),(27,.p false [.c (.sl 82 4 (List.map ZB append_0))]),(28,.p false [.c (.int .i64 ((append_0.length:Nat):Int))]),(29,.p false [.c (.int .i64 ((i:Nat):Int))])] [] st) [] [] (by decide) ?_ ?_ ?_
     ·simp only [*,go_sem,seval]
     ·rintro i423 x424 ⟨u_339,u_340⟩ ⟨sl,ob,n⟩ y11 hx12 hI13 hW14 h hy11
      simp only [go_sem,seval,Zd] at hI13
      obtain ⟨⟨g15_0,g15_6,g15_7,g15_27,g15_28,g15_29⟩,hn⟩:=hI13
      subst hn
      have hlhx12:=WF.slotL hW14 g15_0 (j:=0) rfl
      have q16:=ZF hx12
      have q17:=ZJ hx12
      have q18:=Zi (ZE hx12) hlhx12
      try simp only [*,go_sem,seval]
      obtain ⟨v425,e19,h⟩:=Za h
      refine Zmo (by have hh:=Zep e19;first|exact hh|(simp only [*,go_sem] at hh;exact hh)) ?_
      try simp only [*,go_sem,seval]
      obtain ⟨v426,e20,h⟩:=Za h
      refine Zmo (by have hh:=ZgN e20;first|exact hh|(simp only [*,go_sem] at hh;exact hh)) ?_
      try simp only [*,go_sem,seval]
      refine Zg h (fun i s st=>match s with | (u_453,u_454)=>IV [(0,.p false [.c (.sl 82 4 (List.map ZB append_0))]),(6,.p false [.n (.sl 57 2 (List.map Zq u_453))]),(7,.p false [.c (.bool u_454)]),(9,.bp 0 0),(27,.p false [.c (.sl 82 4 (List.map ZB append_0))]),(28,.p false [.c (.int .i64 ((append_0.length:Nat):Int))]),(29,.p false [.c (.int .i64 ((i423:Nat):Int))]),(36,.p false [.c (.sl 117 2 (List.map YZ v426))]),(37,.p false [.c (.int .i64 ((v426.length:Nat):Int))]),(38,.p false [.c (.int .i64 ((i:Nat):Int))])] [.box 82 [.c (.str x424.name),.c (.int .i64 x424.priority),.c (.sl 130 5 (List.map ZM x424.cond)),.c (.sl 134 3 (List.map ZA x424.thn))]] st) [] [48] (by decide) ?_ ?_ ?_
      ·simp only [*,go_sem,seval]
      ·rintro i480 x481 ⟨u_453,u_454⟩ ⟨sl,ob,n⟩ y21 hx22 hI23 hW24 h hy21
       simp only [go_sem,seval,Zd] at hI23
       obtain ⟨⟨g25_0,g25_6,g25_7,g25_9,g25_27,g25_28,g25_29,g25_36,g25_37,g25_38⟩,og25_0,hn⟩:=hI23
       subst hn
       have hlhx22:=WF.slotL hW24 g25_36 (j:=0) rfl
       have q26:=ZF hx22
       have q27:=ZJ hx22
       have q28:=Zi (ZE hx22) hlhx22
       try simp only [*,go_sem,seval]
       refine Zg h (fun i s st=>match s with | (u_495,u_496)=>IV [(0,.p false [.c (.sl 82 4 (List.map ZB append_0))]),(6,.p false [.n (.sl 57 2 (List.map Zq u_495))]),(7,.p false [.c (.bool u_496)]),(9,.bp 0 0),(11,.bp 1 0),(27,.p false [.c (.sl 82 4 (List.map ZB append_0))]),(28,.p false [.c (.int .i64 ((append_0.length:Nat):Int))]),(29,.p false [.c (.int .i64 ((i423:Nat):Int))]),(36,.p false [.c (.sl 117 2 (List.map YZ v426))]),(37,.p false [.c (.int .i64 ((v426.length:Nat):Int))]),(38,.p false [.c (.int .i64 ((i480:Nat):Int))]),(43,.p false [.c (.sl 134 3 (List.map ZA x424.thn))]),(44,.p false [.c (.int .i64 ((x424.thn.length:Nat):Int))]),(45,.p false [.c (.int .i64 ((i:Nat):Int))])] [.box 82 [.c (.str x424.name),.c (.int .i64 x424.priority),.c (.sl 130 5 (List.map ZM x424.cond)),.c (.sl 134 3 (List.map ZA x424.thn))],.box 117 [.c (.sl 57 2 (List.map Zq x481.facts)),.c (.sl 192 2 (List.map Z6 x481.binding))]] st) [] [0,49] (by decide) ?_ ?_ ?_
       ·simp only [*,go_sem,seval]
       ·rintro i501 x502 ⟨u_495,u_496⟩ ⟨sl,ob,n⟩ y29 hx30 hI31 hW32 h hy29
        simp only [go_sem,seval,Zd] at hI31
        obtain ⟨⟨g33_0,g33_6,g33_7,g33_9,g33_11,g33_27,g33_28,g33_29,g33_36,g33_37,g33_38,g33_43,g33_44,g33_45⟩,og33_0,og33_1,hn⟩:=hI31
        subst hn
        have hlhx30:=WF.slotL hW32 g33_43 (j:=0) rfl
        have q34:=ZF hx30
        have q35:=ZJ hx30
        have q36:=Zi (ZE hx30) hlhx30
        try simp only [*,go_sem,seval]
        obtain ⟨v503,e37,h⟩:=Za h
        refine Zb (by have hh:=Zd4 e37;first|exact hh|(simp only [*,go_sem] at hh;exact hh)) ?_
        try simp only [*,go_sem,seval]
        obtain ⟨v504,e38,h⟩:=Za h
        refine Zb (by have hh:=ZbR e38;first|exact hh|(simp only [*,go_sem] at hh;exact hh)) ?_
        try simp only [*,go_sem,seval]
        refine Ze h (fun _ h=>?_) fun _ h=>?_<;>try simp only [*,go_sem,seval]
        ·refine ⟨_,[],[0,1],(Option.some.inj h).symm,by decide,?_⟩
         try simp only [*,go_sem,seval]
        ·refine Ze h (fun _ h=>?_) fun _ h=>?_<;>try simp only [*,go_sem,seval]
         ·replace h:=Zs h hy29
          replace h:=Zs h hy21
          replace h:=Zs h hy11
          replace h:=Zs h hy6
          cases h
          try simp only [*,go_sem,seval]
         ·obtain ⟨v505,e41,h⟩:=Za h
          refine Zb (by have hh:=ZnP e41;first|exact hh|(simp only [*,go_sem] at hh;exact hh)) ?_
          try simp only [*,go_sem,seval]
          refine ⟨_,[(false,6,4096)],[0,1],(Option.some.inj h).symm,by decide,?_⟩
          try simp only [*,go_sem,seval]
       ·rintro ⟨u_495,u_496⟩ ⟨sl,ob,n⟩ hI42 hW43 h
        simp only [go_sem,seval,Zd] at hI42
        obtain ⟨⟨g44_0,g44_6,g44_7,g44_9,g44_11,g44_27,g44_28,g44_29,g44_36,g44_37,g44_38,g44_43,g44_44,g44_45⟩,og44_0,og44_1,hn⟩:=hI42
        subst hn
        have q45:=ZC (x424.thn.length)
        try simp only [*,go_sem,seval]
        refine ⟨_,[],[0],(Option.some.inj h).symm,by decide,?_⟩
        try simp only [*,go_sem,seval]
      ·rintro ⟨u_453,u_454⟩ ⟨sl,ob,n⟩ hI46 hW47 h
       simp only [go_sem,seval,Zd] at hI46
       obtain ⟨⟨g48_0,g48_6,g48_7,g48_9,g48_27,g48_28,g48_29,g48_36,g48_37,g48_38⟩,og48_0,hn⟩:=hI46
       subst hn
       have q49:=ZC (v426.length)
       try simp only [*,go_sem,seval]
       refine ⟨_,[],[],(Option.some.inj h).symm,by decide,?_⟩
       try simp only [*,go_sem,seval]
     ·rintro ⟨u_339,u_340⟩ ⟨sl,ob,n⟩ hI50 hW51 h
      simp only [go_sem,seval,Zd] at hI50
      obtain ⟨⟨g52_0,g52_6,g52_7,g52_27,g52_28,g52_29⟩,hn⟩:=hI50
      subst hn
      have q53:=ZC (append_0.length)
      try simp only [*,go_sem,seval]
      refine ⟨_,[],[],(Option.some.inj h).symm,by decide,?_⟩
      try simp only [*,go_sem,seval]
    ·replace h:=Zs h hy6
     cases h
     try simp only [*,go_sem,seval]
  ·cases h
   try simp only [*,go_sem,seval]
 ·cases h
  try simp only [*,go_sem,seval]
theorem ZDZ {r_0:Zf} {n_1:Int} {facts_2:(List Zc)} {r:(List Zt)} (h:ZDI r_0 n_1 facts_2=some r):Zn Tryz.prog J0 166 [(true,ZB r_0),(false,[.int .i64 n_1]),(false,[.sl 57 2 (List.map Zq facts_2)])] [(false,[(true,.sl 117 2 (List.map YZ r))])]:=by
 refine fnk Tryz.func166 (by kernel_rfl) rfl (by kernel_rfl) (by kernel_rfl) ?_
 unfold ZDI at h
 simp only [fnS,f166,Zo,go_sem,seval]
 obtain ⟨d,a,h⟩:=Za h
 refine Zb (by have hh:=Zje a;first|exact hh|(simp only [*,go_sem] at hh;exact hh)) ?_
 try simp only [*,go_sem,seval]
 refine Ze h (fun _ h=>?_) fun _ h=>?_<;>try simp only [*,go_sem,seval]
 obtain ⟨e,b,h⟩:=Za h
 refine Zb (by have hh:=ZlL b;first|exact hh|(simp only [*,go_sem] at hh;exact hh)) ?_
 try simp only [*,go_sem,seval]
 iterate 2 refine Ze h (fun _ h=>?_) fun _ h=>?_<;>try simp only [*,go_sem,seval]
 cases h
 try simp only [*,go_sem,seval]
 refine Ze h (fun _ h=>?_) fun _ h=>?_<;>try simp only [*,go_sem,seval]
 cases h
 try simp only [*,go_sem,seval]
 obtain ⟨f,h⟩:=Zx h
 try simp only [*,go_sem,seval]
 obtain ⟨g,c,h⟩:=Za h
 refine Zmo (by have hh:=ZgN c;first|exact hh|(simp only [*,go_sem] at hh;exact hh)) ?_
 iterate 3 (cases h;try simp only [*,go_sem,seval])
end Go.Proofs.YtojnhepgnbhaaaaGreatDoor
namespace Go.Proofs.YtojnhepgnbhaaaaGreatDoor
open Go.Proofs.Tryz
set_option linter.unusedSimpArgs false
set_option linter.unusedVariables false
set_option maxRecDepth 1000000
set_option maxHeartbeats 4000000
theorem Zgu {l_0:(List Zm)} {facts_1:(List Zc)} {r:(List Zt)} (h:Zay l_0 facts_1=some r):Zn Tryz.prog J0 80 [(false,[.sl 130 5 (List.map ZM l_0)]),(false,[.sl 57 2 (List.map Zq facts_1)])] [(false,[(false,.sl 117 2 (List.map YZ r))])]:=by
 refine fnk Tryz.func80 (by kernel_rfl) rfl (by kernel_rfl) (by kernel_rfl) ?_
 unfold Zay at h
 simp only [fnS,f80,Zo,go_sem,seval]
 refine Zg h (fun i a st=>IV [(0,.p false [.c (.sl 130 5 (List.map ZM l_0))]),(1,.p false [.c (.sl 57 2 (List.map Zq facts_1))]),(5,.p false [.row 0]),(6,.p false [.c (.int .i64 ((i:Nat):Int))])] [.row 117 2 (List.map YZ a) 2] st) [] [32] (by decide) ?_ ?_ ?_
 simp only [*,go_sem,seval]
 rintro m o a ⟨sl,ob,n⟩ q b d f h t
 simp only [go_sem,seval,Zd] at d
 obtain ⟨⟨g,u,v,w⟩,x,hn⟩:=d
 subst hn
 have k:=WF.slotL f g (j:=0) rfl
 have y:=ZF b
 have z:=ZJ b
 have A:=Zi (ZE b) k
 try simp only [*,go_sem,seval]
 obtain ⟨B,l,h⟩:=Za h
 refine Zb (ZoB l) ?_
 try simp only [*,go_sem,seval]
 refine ⟨_,[],[161],(Option.some.inj h).symm,by decide,?_⟩
 try simp only [*,go_sem,seval]
 rintro a ⟨sl,ob,n⟩ e C h
 simp only [go_sem,seval,Zd] at e
 obtain ⟨⟨D,E,F,G⟩,H,hn⟩:=e
 subst hn
 have I:=ZC (l_0.length)
 cases h
 try simp only [*,go_sem,seval]
theorem Zol {append_0:(List Zf)} {String_1:(List Zc)} {r:((List Zc) × ZK × (List Zaj) × Bool)} (h:Zbe append_0 String_1=some r):Zn Tryz.prog J0 47 [(false,[.sl 82 4 (List.map ZB append_0)]),(false,[.sl 57 2 (List.map Zq String_1)])] [(false,[(false,.sl 57 2 (List.map Zq r.1))]),(true,[(false,.int .i64 r.2.1.nodes),(false,.sl 114 3 (List.map Yn r.2.1.reasons))]),(false,[(false,.any)]),(false,[(false,.bool r.2.2.2)])]:=by
 refine fnn 4 Tryz.func47 (by kernel_rfl) rfl (by kernel_rfl) (by kernel_rfl) ?_
 unfold Zbe at h
 simp only [fnN,f47,Zo,go_sem,seval]
 obtain ⟨v1,e1,h⟩:=Za h
 refine Zb (by have hh:=Zho e1;first|exact hh|(simp only [*,go_sem] at hh;exact hh)) ?_
 try simp only [*,go_sem,seval]
 refine Ze h (fun _ h=>?_) fun _ h=>?_<;>try simp only [*,go_sem,seval]
 ·refine Zg h (fun i s st=>match s with | (row_8,row_9)=>IV [(0,.p false [.c (.sl 82 4 (List.map ZB append_0))]),(5,.bp 0 0),(8,.p false [.n (.sl 57 2 (List.map Zq v1.1))]),(10,.bp 1 0),(11,.p false [.row 3]),(40,.p false [.c (.sl 57 2 (List.map Zq String_1))]),(41,.p false [.c (.int .i64 ((String_1.length:Nat):Int))]),(42,.p false [.c (.int .i64 ((i:Nat):Int))])] [.box 29 [.c (.int .i64 0),.nil 114 3],.box 29 [.c (.int .i64 ((v1.1.length:Nat):Int)),.row 2],.row 114 3 (List.map Yn row_8) 2,.row 128 2 (List.map Zgf row_9) 2] st) [(false,8,4096),(false,11,0),(true,272,1)] [16,272,369,368] (by decide) ?_ ?_ ?_
  ·simp only [*,go_sem,seval]
  ·rintro i941 x942 ⟨row_8,row_9⟩ ⟨sl,ob,n⟩ y3 hx4 hI5 hW6 h hy3
   simp only [go_sem,seval,Zd] at hI5
   obtain ⟨⟨g7_0,g7_5,g7_8,g7_10,g7_11,g7_40,g7_41,g7_42⟩,og7_0,og7_1,og7_2,og7_3,hn⟩:=hI5
   subst hn
   have hlhx4:=WF.slotL hW6 g7_40 (j:=0) rfl
   have q8:=ZF hx4
   have q9:=ZJ hx4
   have q10:=Zi (ZE hx4) hlhx4
   try simp only [*,go_sem,seval]
   obtain ⟨v943,e11,h⟩:=Za h
   refine Zb (by have hh:=ZbR e11;first|exact hh|(simp only [*,go_sem] at hh;exact hh)) ?_
   obtain ⟨p12,h⟩:=Zx h
   try simp only [Nat.reduceLeDiff] at p12
   obtain ⟨p13,h⟩:=Zx h
   try simp only [Nat.reduceLeDiff] at p13
   try simp only [*,go_sem,seval]
   refine ⟨_,[],[0,1,196,292],(Option.some.inj h).symm,by decide,?_⟩
   try simp only [*,go_sem,seval]
  ·rintro ⟨row_8,row_9⟩ ⟨sl,ob,n⟩ hI14 hW15 h
   simp only [go_sem,seval,Zd] at hI14
   obtain ⟨⟨g16_0,g16_5,g16_8,g16_10,g16_11,g16_40,g16_41,g16_42⟩,og16_0,og16_1,og16_2,og16_3,hn⟩:=hI14
   subst hn
   have q17:=ZC (String_1.length)
   try simp only [*,go_sem,seval]
   refine Zg h (fun i s st=>match s with | (row_1446,row_1447)=>IV [(5,.bp 0 0),(8,.p false [.n (.sl 57 2 (List.map Zq v1.1))]),(10,.bp 1 0),(11,.p false [.row 3]),(60,.p false [.c (.sl 82 4 (List.map ZB append_0))]),(61,.p false [.c (.int .i64 ((append_0.length:Nat):Int))]),(62,.p false [.c (.int .i64 ((i:Nat):Int))])] [.box 29 [.c (.int .i64 0),.nil 114 3],.box 29 [.c (.int .i64 ((v1.1.length:Nat):Int)),.row 2],.row 114 3 (List.map Yn row_1446) 2,.row 128 2 (List.map Zgf row_1447) 1] st) [(true,3,1)] [0,1,2,3] (by decide) ?_ ?_ ?_
   ·simp only [*,go_sem,seval]
   ·rintro i1660 x1661 ⟨row_1446,row_1447⟩ ⟨sl,ob,n⟩ y18 hx19 hI20 hW21 h hy18
    simp only [go_sem,seval,Zd] at hI20
    obtain ⟨⟨g22_5,g22_8,g22_10,g22_11,g22_60,g22_61,g22_62⟩,og22_0,og22_1,og22_2,og22_3,hn⟩:=hI20
    subst hn
    have hlhx19:=WF.slotL hW21 g22_60 (j:=0) rfl
    have q23:=ZF hx19
    have q24:=ZJ hx19
    have q25:=Zi (ZE hx19) hlhx19
    try simp only [*,go_sem,seval]
    obtain ⟨v1662,e26,h⟩:=Za h
    refine Zmo (by have hh:=Zep e26;first|exact hh|(simp only [*,go_sem] at hh;exact hh)) ?_
    try simp only [*,go_sem,seval]
    obtain ⟨v1663,e27,h⟩:=Za h
    refine Zmo (by have hh:=ZgN e27;first|exact hh|(simp only [*,go_sem] at hh;exact hh)) ?_
    try simp only [*,go_sem,seval]
    refine Zg h (fun i s st=>match s with | (row_1732,row_1733)=>IV [(5,.bp 0 0),(8,.p false [.n (.sl 57 2 (List.map Zq v1.1))]),(10,.bp 1 0),(11,.p false [.row 3]),(15,.bp 4 0),(60,.p false [.c (.sl 82 4 (List.map ZB append_0))]),(61,.p false [.c (.int .i64 ((append_0.length:Nat):Int))]),(62,.p false [.c (.int .i64 ((i1660:Nat):Int))]),(69,.p false [.c (.sl 117 2 (List.map YZ v1663))]),(70,.p false [.c (.int .i64 ((v1663.length:Nat):Int))]),(71,.p false [.c (.int .i64 ((i:Nat):Int))])] [.box 29 [.c (.int .i64 0),.nil 114 3],.box 29 [.c (.int .i64 ((v1.1.length:Nat):Int)),.row 2],.row 114 3 (List.map Yn row_1732) 2,.row 128 2 (List.map Zgf row_1733) 1,.box 82 [.c (.str x1661.name),.c (.int .i64 x1661.priority),.c (.sl 130 5 (List.map ZM x1661.cond)),.c (.sl 134 3 (List.map ZA x1661.thn))]] st) [] [0,1,2,3,52] (by decide) ?_ ?_ ?_
    ·simp only [*,go_sem,seval]
    ·rintro i1803 x1804 ⟨row_1732,row_1733⟩ ⟨sl,ob,n⟩ y28 hx29 hI30 hW31 h hy28
     simp only [go_sem,seval,Zd] at hI30
     obtain ⟨⟨g32_5,g32_8,g32_10,g32_11,g32_15,g32_60,g32_61,g32_62,g32_69,g32_70,g32_71⟩,og32_0,og32_1,og32_2,og32_3,og32_4,hn⟩:=hI30
     subst hn
     have hlhx29:=WF.slotL hW31 g32_69 (j:=0) rfl
     have q33:=ZF hx29
     have q34:=ZJ hx29
     have q35:=Zi (ZE hx29) hlhx29
     try simp only [*,go_sem,seval]
     refine Zg h (fun i row_1809 st=>IV [(5,.bp 0 0),(8,.p false [.n (.sl 57 2 (List.map Zq v1.1))]),(10,.bp 1 0),(11,.p false [.row 3]),(15,.bp 4 0),(17,.bp 5 0),(18,.p false [.row 6]),(60,.p false [.c (.sl 82 4 (List.map ZB append_0))]),(61,.p false [.c (.int .i64 ((append_0.length:Nat):Int))]),(62,.p false [.c (.int .i64 ((i1660:Nat):Int))]),(69,.p false [.c (.sl 117 2 (List.map YZ v1663))]),(70,.p false [.c (.int .i64 ((v1663.length:Nat):Int))]),(71,.p false [.c (.int .i64 ((i1803:Nat):Int))]),(76,.p false [.c (.sl 130 5 (List.map ZM x1661.cond))]),(77,.p false [.c (.int .i64 ((x1661.cond.length:Nat):Int))]),(78,.p false [.c (.int .i64 ((i:Nat):Int))])] [.box 29 [.c (.int .i64 0),.nil 114 3],.box 29 [.c (.int .i64 ((v1.1.length:Nat):Int)),.row 2],.row 114 3 (List.map Yn row_1732) 2,.row 128 2 (List.map Zgf row_1733) 1,.box 82 [.c (.str x1661.name),.c (.int .i64 x1661.priority),.c (.sl 130 5 (List.map ZM x1661.cond)),.c (.sl 134 3 (List.map ZA x1661.thn))],.box 117 [.c (.sl 57 2 (List.map Zq x1804.facts)),.c (.sl 192 2 (List.map Z6 x1804.binding))],.row 57 2 (List.map Zq row_1809) 2] st) [(false,18,0)] [0,1,2,3,4,53,165] (by decide) ?_ ?_ ?_
     ·simp only [*,go_sem,seval]
     ·rintro i1841 x1842 row_1809 ⟨sl,ob,n⟩ y36 hx37 hI38 hW39 h hy36
      simp only [go_sem,seval,Zd] at hI38
      obtain ⟨⟨g40_5,g40_8,g40_10,g40_11,g40_15,g40_17,g40_18,g40_60,g40_61,g40_62,g40_69,g40_70,g40_71,g40_76,g40_77,g40_78⟩,og40_0,og40_1,og40_2,og40_3,og40_4,og40_5,og40_6,hn⟩:=hI38
      subst hn
      have hlhx37:=WF.slotL hW39 g40_76 (j:=0) rfl
      have q41:=ZF hx37
      have q42:=ZJ hx37
      have q43:=Zi (ZE hx37) hlhx37
      try simp only [*,go_sem,seval]
      refine Ze h (fun _ h=>?_) fun _ h=>?_<;>try simp only [*,go_sem,seval]
      ·obtain ⟨v1843,e45,h⟩:=Za h
       refine Zb (by have hh:=Zd4 e45;first|exact hh|(simp only [*,go_sem] at hh;exact hh)) ?_
       obtain ⟨p46,h⟩:=Zx h
       try simp only [Nat.reduceLeDiff] at p46
       try simp only [*,go_sem,seval]
       refine ⟨_,[],[0,1,2,3,4,5,359],(Option.some.inj h).symm,by decide,?_⟩
       try simp only [*,go_sem,seval]
      ·refine ⟨_,[],[0,1,2,3,4,5,6],(Option.some.inj h).symm,by decide,?_⟩
       try simp only [*,go_sem,seval]
     ·rintro row_1809 ⟨sl,ob,n⟩ hI47 hW48 h
      simp only [go_sem,seval,Zd] at hI47
      obtain ⟨⟨g49_5,g49_8,g49_10,g49_11,g49_15,g49_17,g49_18,g49_60,g49_61,g49_62,g49_69,g49_70,g49_71,g49_76,g49_77,g49_78⟩,og49_0,og49_1,og49_2,og49_3,og49_4,og49_5,og49_6,hn⟩:=hI47
      subst hn
      have q50:=ZC (x1661.cond.length)
      try simp only [*,go_sem,seval]
      refine Zg h (fun i s st=>match s with | (row_1857,row_1858)=>IV [(5,.bp 0 0),(8,.p false [.n (.sl 57 2 (List.map Zq v1.1))]),(10,.bp 1 0),(11,.p false [.row 3]),(15,.bp 4 0),(17,.bp 5 0),(18,.p false [.row 6]),(60,.p false [.c (.sl 82 4 (List.map ZB append_0))]),(61,.p false [.c (.int .i64 ((append_0.length:Nat):Int))]),(62,.p false [.c (.int .i64 ((i1660:Nat):Int))]),(69,.p false [.c (.sl 117 2 (List.map YZ v1663))]),(70,.p false [.c (.int .i64 ((v1663.length:Nat):Int))]),(71,.p false [.c (.int .i64 ((i1803:Nat):Int))]),(99,.p false [.c (.sl 134 3 (List.map ZA x1661.thn))]),(100,.p false [.c (.int .i64 ((x1661.thn.length:Nat):Int))]),(101,.p false [.c (.int .i64 ((i:Nat):Int))])] [.box 29 [.c (.int .i64 0),.nil 114 3],.box 29 [.c (.int .i64 ((v1.1.length:Nat):Int)),.row 2],.row 114 3 (List.map Yn row_1857) 2,.row 128 2 (List.map Zgf row_1858) 1,.box 82 [.c (.str x1661.name),.c (.int .i64 x1661.priority),.c (.sl 130 5 (List.map ZM x1661.cond)),.c (.sl 134 3 (List.map ZA x1661.thn))],.box 117 [.c (.sl 57 2 (List.map Zq x1804.facts)),.c (.sl 192 2 (List.map Z6 x1804.binding))],.row 57 2 (List.map Zq row_1809) 2] st) [] [0,1,2,3,4,5,6] (by decide) ?_ ?_ ?_
      ·simp only [*,go_sem,seval]
      ·rintro i1865 x1866 ⟨row_1857,row_1858⟩ ⟨sl,ob,n⟩ y51 hx52 hI53 hW54 h hy51
       simp only [go_sem,seval,Zd] at hI53
       obtain ⟨⟨g55_5,g55_8,g55_10,g55_11,g55_15,g55_17,g55_18,g55_60,g55_61,g55_62,g55_69,g55_70,g55_71,g55_99,g55_100,g55_101⟩,og55_0,og55_1,og55_2,og55_3,og55_4,og55_5,og55_6,hn⟩:=hI53
       subst hn
       have hlhx52:=WF.slotL hW54 g55_99 (j:=0) rfl
       have q56:=ZF hx52
       have q57:=ZJ hx52
       have q58:=Zi (ZE hx52) hlhx52
       try simp only [*,go_sem,seval]
       obtain ⟨v1867,e59,h⟩:=Za h
       refine Zb (by have hh:=Zd4 e59;first|exact hh|(simp only [*,go_sem] at hh;exact hh)) ?_
       try simp only [*,go_sem,seval]
       obtain ⟨v1868,e60,h⟩:=Za h
       refine Zb (by have hh:=ZbR e60;first|exact hh|(simp only [*,go_sem] at hh;exact hh)) ?_
       try simp only [*,go_sem,seval]
       obtain ⟨v1869,e61,h⟩:=Za h
       refine Zb (by have hh:=Zhz e61;first|exact hh|(simp only [*,go_sem] at hh;exact hh)) ?_
       try simp only [*,go_sem,seval]
       obtain ⟨v1870,e62,h⟩:=Za h
       refine Zb (by have hh:=Zhz e62;first|exact hh|(simp only [*,go_sem] at hh;exact hh)) ?_
       try simp only [*,go_sem,seval]
       obtain ⟨v1871,e63,h⟩:=Za h
       refine Zb (by have hh:=Zlp e63;first|exact hh|(simp only [*,go_sem] at hh;exact hh)) ?_
       try simp only [*,go_sem,seval]
       refine Ze h (fun _ h=>?_) fun _ h=>?_<;>try simp only [*,go_sem,seval]
       ·refine ⟨_,[],[0,1,2,3,4,5,6],(Option.some.inj h).symm,by decide,?_⟩
        try simp only [*,go_sem,seval]
       ·obtain ⟨p65,h⟩:=Zx h
        try simp only [Nat.reduceLeDiff] at p65
        obtain ⟨p66,h⟩:=Zx h
        try simp only [Nat.reduceLeDiff] at p66
        try simp only [*,go_sem,seval]
        refine ⟨_,[],[0,1,615,775,4,5,6],(Option.some.inj h).symm,by decide,?_⟩
        try simp only [*,go_sem,seval]
      ·rintro ⟨row_1857,row_1858⟩ ⟨sl,ob,n⟩ hI67 hW68 h
       simp only [go_sem,seval,Zd] at hI67
       obtain ⟨⟨g69_5,g69_8,g69_10,g69_11,g69_15,g69_17,g69_18,g69_60,g69_61,g69_62,g69_69,g69_70,g69_71,g69_99,g69_100,g69_101⟩,og69_0,og69_1,og69_2,og69_3,og69_4,og69_5,og69_6,hn⟩:=hI67
       subst hn
       have q70:=ZC (x1661.thn.length)
       try simp only [*,go_sem,seval]
       refine ⟨_,[],[0,1,2,3,4],(Option.some.inj h).symm,by decide,?_⟩
       try simp only [*,go_sem,seval]
    ·rintro ⟨row_1732,row_1733⟩ ⟨sl,ob,n⟩ hI71 hW72 h
     simp only [go_sem,seval,Zd] at hI71
     obtain ⟨⟨g73_5,g73_8,g73_10,g73_11,g73_15,g73_60,g73_61,g73_62,g73_69,g73_70,g73_71⟩,og73_0,og73_1,og73_2,og73_3,og73_4,hn⟩:=hI71
     subst hn
     have q74:=ZC (v1663.length)
     try simp only [*,go_sem,seval]
     refine ⟨_,[],[0,1,2,3],(Option.some.inj h).symm,by decide,?_⟩
     try simp only [*,go_sem,seval]
   ·rintro ⟨row_1446,row_1447⟩ ⟨sl,ob,n⟩ hI75 hW76 h
    simp only [go_sem,seval,Zd] at hI75
    obtain ⟨⟨g77_5,g77_8,g77_10,g77_11,g77_60,g77_61,g77_62⟩,og77_0,og77_1,og77_2,og77_3,hn⟩:=hI75
    subst hn
    have q78:=ZC (append_0.length)
    try simp only [*,go_sem,seval]
    refine Ze h (fun _ h=>?_) fun _ h=>?_<;>try simp only [*,go_sem,seval]
    ·cases h
     try simp only [*,go_sem,seval]
    ·cases h
     try simp only [*,go_sem,seval]
 ·cases h
  try simp only [*,go_sem,seval]
theorem ZDS {r_0:Zf} {model_1:(List Zc)} {l_2:(List Zc)} {r:(Zt × Bool)} (h:ZDB r_0 model_1 l_2=some r):Zn Tryz.prog J0 119 [(true,ZB r_0),(false,[.sl 57 2 (List.map Zq model_1)]),(false,[.sl 57 2 (List.map Zq l_2)])] [(true,[(true,.sl 57 2 (List.map Zq r.1.facts)),(true,.sl 192 2 (List.map Z6 r.1.binding))]),(false,[(false,.bool r.2)])]:=by
 refine fnk Tryz.func119 (by kernel_rfl) rfl (by kernel_rfl) (by kernel_rfl) ?_
 unfold ZDB at h
 simp only [fnS,f119,Zo,go_sem,seval]
 obtain ⟨a,f,h⟩:=Za h
 refine Zmo (ZDZ f) ?_
 try simp only [*,go_sem,seval]
 refine Zg h (fun i _ st=>IV [(2,.p false [.c (.sl 57 2 (List.map Zq l_2))]),(6,.bp 0 0),(15,.p false [.c (.sl 117 2 (List.map YZ a))]),(16,.p false [.c (.int .i64 ((a.length:Nat):Int))]),(17,.p false [.c (.int .i64 ((i:Nat):Int))])] [.box 117 [.nil 57 2,.nil 192 2]] st) [] [16] (by decide) ?_ ?_ ?_
 simp only [*,go_sem,seval]
 rintro q t ⟨⟩ ⟨sl,ob,n⟩ u b d g h k
 simp only [go_sem,seval,Zd] at d
 obtain ⟨⟨v,w,l,x,y⟩,z,hn⟩:=d
 subst hn
 have m:=WF.slotL g l (j:=0) rfl
 have A:=ZF b
 have B:=ZJ b
 have C:=Zi (ZE b) m
 try simp only [*,go_sem,seval]
 obtain ⟨D,o,h⟩:=Za h
 refine Zb (ZDR o) ?_
 try simp only [*,go_sem,seval]
 refine Ze h (fun _ h=>?_) fun _ h=>?_<;>try simp only [*,go_sem,seval]
 replace h:=Zs h k
 cases h
 try simp only [*,go_sem,seval]
 refine ⟨_,[],[0],(Option.some.inj h).symm,by decide,?_⟩
 try simp only [*,go_sem,seval]
 rintro ⟨⟩ ⟨sl,ob,n⟩ e E h
 simp only [go_sem,seval,Zd] at e
 obtain ⟨⟨F,G,H,I,J⟩,K,hn⟩:=e
 subst hn
 have L:=ZC (a.length)
 cases h
 try simp only [*,go_sem,seval]
end Go.Proofs.YtojnhepgnbhaaaaGreatDoor
namespace Go.Proofs.YtojnhepgnbhaaaaGreatDoor
open Go.Proofs.Tryz
set_option linter.unusedSimpArgs false
set_option linter.unusedVariables false
set_option maxRecDepth 1000000
set_option maxHeartbeats 4000000
theorem Zhb {append_0:(List Zf)} {String_1:(List Zc)} {r:((List Zc) × Bool)} (h:Yu append_0 String_1=some r):Zn Tryz.prog J0 79 [(false,[.sl 82 4 (List.map ZB append_0)]),(false,[.sl 57 2 (List.map Zq String_1)])] [(false,[(false,.sl 57 2 (List.map Zq r.1))]),(false,[(false,.bool r.2)])]:=by
 refine fnn 4 Tryz.func79 (by kernel_rfl) rfl (by kernel_rfl) (by kernel_rfl) ?_
 unfold Yu at h
 simp only [fnN,f79,Zo,go_sem,seval]
 obtain ⟨v1,e1,h⟩:=Za h
 refine Zb (by have hh:=ZjD e1;first|exact hh|(simp only [*,go_sem] at hh;exact hh)) ?_
 try simp only [*,go_sem,seval]
 refine Ze h (fun _ h=>?_) fun _ h=>?_<;>try simp only [*,go_sem,seval]
 ·obtain ⟨v2,e3,h⟩:=Za h
  refine Zb (by have hh:=Zl8 e3;first|exact hh|(simp only [*,go_sem] at hh;exact hh)) ?_
  try simp only [*,go_sem,seval]
  refine Ze h (fun _ h=>?_) fun _ h=>?_<;>try simp only [*,go_sem,seval]
  ·obtain ⟨v3,e5,h⟩:=Za h
   refine Zb (by have hh:=Zd1 e5;first|exact hh|(simp only [*,go_sem] at hh;exact hh)) ?_
   try simp only [*,go_sem,seval]
   refine Zeh h (fun s st=>match s with | (u_187,u_188)=>IV [(0,.p false [.c (.sl 82 4 (List.map ZB append_0))]),(6,.p false [.n (.sl 57 2 (List.map Zq u_187))]),(7,.p false [.c (.bool u_188)])] [] st) [(false,6,4096)] [] (by decide) ?_ ?_
   ·simp only [*,go_sem,seval]
   ·rintro ⟨u_187,u_188⟩ ⟨sl,ob,n⟩ y6 hI7 hW8 h hy6
    simp only [go_sem,seval,Zd] at hI7
    obtain ⟨⟨g9_0,g9_6,g9_7⟩,hn⟩:=hI7
    subst hn
    try simp only [*,go_sem,seval]
    refine Ze h (fun _ h=>?_) fun _ h=>?_<;>try simp only [*,go_sem,seval]
    ·refine Zg h (fun i u_249 st=>IV [(0,.p false [.c (.sl 82 4 (List.map ZB append_0))]),(6,.p false [.n (.sl 57 2 (List.map Zq u_249))]),(8,.p false [.n (.sl 57 2 (List.map Zq u_187))]),(9,.p false [.c (.int .i64 ((i:Nat):Int))])] [] st) [] [] (by decide) ?_ ?_ ?_
     ·simp only [*,go_sem,seval]
     ·rintro i311 x312 u_249 ⟨sl,ob,n⟩ y11 hx12 hI13 hW14 h hy11
      simp only [go_sem,seval,Zd] at hI13
      obtain ⟨⟨g15_0,g15_6,g15_8,g15_9⟩,hn⟩:=hI13
      subst hn
      have hlhx12:=WF.slotL hW14 g15_0 (j:=0) rfl
      have q16:=ZF hx12
      have q17:=ZJ hx12
      have q18:=Zi (ZE hx12) hlhx12
      try simp only [*,go_sem,seval]
      obtain ⟨v313,e19,h⟩:=Za h
      refine Zmo (by have hh:=Zei e19;first|exact hh|(simp only [*,go_sem] at hh;exact hh)) ?_
      try simp only [*,go_sem,seval]
      obtain ⟨v314,e20,h⟩:=Za h
      refine Zb (by have hh:=Zgu e20;first|exact hh|(simp only [*,go_sem] at hh;exact hh)) ?_
      try simp only [*,go_sem,seval]
      refine Zg h (fun i u_335 st=>IV [(0,.p false [.c (.sl 82 4 (List.map ZB append_0))]),(6,.p false [.n (.sl 57 2 (List.map Zq u_335))]),(8,.p false [.n (.sl 57 2 (List.map Zq u_187))]),(9,.p false [.c (.int .i64 ((i311:Nat):Int))]),(10,.p false [.row 0]),(11,.p false [.c (.int .i64 ((i:Nat):Int))])] [.row 117 2 (List.map YZ v314) 2] st) [] [160] (by decide) ?_ ?_ ?_
      ·simp only [*,go_sem,seval]
      ·rintro i355 x356 u_335 ⟨sl,ob,n⟩ y21 hx22 hI23 hW24 h hy21
       simp only [go_sem,seval,Zd] at hI23
       obtain ⟨⟨g25_0,g25_6,g25_8,g25_9,g25_10,g25_11⟩,og25_0,hn⟩:=hI23
       subst hn
       have hlhx22:=WF.rowL hW24 og25_0
       have q26:=ZF hx22
       have q27:=ZJ hx22
       have q28:=Zi (ZE hx22) hlhx22
       try simp only [*,go_sem,seval]
       refine Zg h (fun i u_364 st=>IV [(0,.p false [.c (.sl 82 4 (List.map ZB append_0))]),(6,.p false [.n (.sl 57 2 (List.map Zq u_364))]),(8,.p false [.n (.sl 57 2 (List.map Zq u_187))]),(9,.p false [.c (.int .i64 ((i311:Nat):Int))]),(10,.p false [.row 0]),(11,.p false [.c (.int .i64 ((i355:Nat):Int))]),(12,.p false [.c (.int .i64 ((i:Nat):Int))])] [.row 117 2 (List.map YZ v314) 2] st) [] [0] (by decide) ?_ ?_ ?_
       ·simp only [*,go_sem,seval]
       ·rintro i368 x369 u_364 ⟨sl,ob,n⟩ y29 hx30 hI31 hW32 h hy29
        simp only [go_sem,seval,Zd] at hI31
        obtain ⟨⟨g33_0,g33_6,g33_8,g33_9,g33_10,g33_11,g33_12⟩,og33_0,hn⟩:=hI31
        subst hn
        have hlhx30:=WF.elL (WF.slotD hW32 g33_0 (j:=0) rfl) hx12 (j:=3) rfl
        have q34:=ZF hx30
        have q35:=ZJ hx30
        have q36:=Zi (ZE hx30) hlhx30
        try simp only [*,go_sem,seval]
        obtain ⟨v370,e37,h⟩:=Za h
        refine Zb (by have hh:=ZdZ e37;first|exact hh|(simp only [*,go_sem] at hh;exact hh)) ?_
        try simp only [*,go_sem,seval]
        obtain ⟨v371,e38,h⟩:=Za h
        refine Zb (by have hh:=Zqa e38;first|exact hh|(simp only [*,go_sem] at hh;exact hh)) ?_
        try simp only [*,go_sem,seval]
        refine ⟨_,[(false,6,4096)],[0],(Option.some.inj h).symm,by decide,?_⟩
        try simp only [*,go_sem,seval]
       ·rintro u_364 ⟨sl,ob,n⟩ hI39 hW40 h
        simp only [go_sem,seval,Zd] at hI39
        obtain ⟨⟨g41_0,g41_6,g41_8,g41_9,g41_10,g41_11,g41_12⟩,og41_0,hn⟩:=hI39
        subst hn
        have q42:=ZC (x312.thn.length)
        try simp only [*,go_sem,seval]
        refine ⟨_,[],[0],(Option.some.inj h).symm,by decide,?_⟩
        try simp only [*,go_sem,seval]
      ·rintro u_335 ⟨sl,ob,n⟩ hI43 hW44 h
       simp only [go_sem,seval,Zd] at hI43
       obtain ⟨⟨g45_0,g45_6,g45_8,g45_9,g45_10,g45_11⟩,og45_0,hn⟩:=hI43
       subst hn
       have q46:=ZC (v314.length)
       try simp only [*,go_sem,seval]
       refine Ze h (fun _ h=>?_) fun _ h=>?_<;>try simp only [*,go_sem,seval]
       ·replace h:=Zs h hy11
        replace h:=Zs h hy6
        cases h
        try simp only [*,go_sem,seval]
       ·refine ⟨_,[],[],(Option.some.inj h).symm,by decide,?_⟩
        try simp only [*,go_sem,seval]
     ·rintro u_249 ⟨sl,ob,n⟩ hI48 hW49 h
      simp only [go_sem,seval,Zd] at hI48
      obtain ⟨⟨g50_0,g50_6,g50_8,g50_9⟩,hn⟩:=hI48
      subst hn
      have q51:=ZC (append_0.length)
      try simp only [*,go_sem,seval]
      refine ⟨_,[],[],(Option.some.inj h).symm,by decide,?_⟩
      try simp only [*,go_sem,seval]
    ·replace h:=Zs h hy6
     cases h
     try simp only [*,go_sem,seval]
  ·cases h
   try simp only [*,go_sem,seval]
 ·cases h
  try simp only [*,go_sem,seval]
theorem Zhe {rules_0:(List Zf)} {base_1:(List Zc)} {r:((List Zc) × ZK × Bool)} (h:Xz rules_0 base_1=some r):Zn Tryz.prog J0 14 [(false,[.sl 82 4 (List.map ZB rules_0)]),(false,[.sl 57 2 (List.map Zq base_1)])] [(false,[(false,.sl 57 2 (List.map Zq r.1))]),(true,[(false,.int .i64 r.2.1.nodes),(false,.sl 114 3 (List.map Yn r.2.1.reasons))]),(false,[(false,.bool r.2.2)])]:=by
 refine fnk Tryz.func14 (by kernel_rfl) rfl (by kernel_rfl) (by kernel_rfl) ?_
 unfold Xz at h
 simp only [fnS,f14,Zo,go_sem,seval]
 obtain ⟨b,a,h⟩:=Za h
 refine Zb (Zol a) ?_
 cases h
 try simp only [*,go_sem,seval]
theorem ZD2 {r_0:Zf} {n_1:Int} {facts_2:(List Zc)} {r:(List Zt)} (h:ZDG r_0 n_1 facts_2=some r):Zn Tryz.prog J0 163 [(true,ZB r_0),(false,[.int .i64 n_1]),(false,[.sl 57 2 (List.map Zq facts_2)])] [(false,[(false,.sl 117 2 (List.map YZ r))])]:=by
 refine fnk Tryz.func163 (by kernel_rfl) rfl (by kernel_rfl) (by kernel_rfl) ?_
 unfold ZDG at h
 simp only [fnS,f163,Zo,go_sem,seval]
 obtain ⟨e,a,h⟩:=Za h
 refine Zb (by have hh:=Zjm a;first|exact hh|(simp only [*,go_sem] at hh;exact hh)) ?_
 try simp only [*,go_sem,seval]
 refine Ze h (fun _ h=>?_) fun _ h=>?_<;>try simp only [*,go_sem,seval]
 obtain ⟨f,b,h⟩:=Za h
 refine Zb (by have hh:=Zl8 b;first|exact hh|(simp only [*,go_sem] at hh;exact hh)) ?_
 try simp only [*,go_sem,seval]
 refine Ze h (fun _ h=>?_) fun _ h=>?_<;>try simp only [*,go_sem,seval]
 obtain ⟨g,c,h⟩:=Za h
 refine Zb (by have hh:=ZaS c;first|exact hh|(simp only [*,go_sem] at hh;exact hh)) ?_
 try simp only [*,go_sem,seval]
 refine Ze h (fun _ h=>?_) fun _ h=>?_<;>try simp only [*,go_sem,seval]
 obtain ⟨i,h⟩:=Zx h
 try simp only [*,go_sem,seval]
 obtain ⟨j,d,h⟩:=Za h
 refine Zb (by have hh:=Zgu d;first|exact hh|(simp only [*,go_sem] at hh;exact hh)) ?_
 iterate 4 (cases h;try simp only [*,go_sem,seval])
theorem ZDY {append_0:(List Zf)} {String_1:(List Zc)} {a_2:(List Zc)} {a_3:(List Zuw)} {a_4:Zuw} {r:Bool} (h:ZDF append_0 String_1 a_2 a_3 a_4=some r):Zn Tryz.prog J0 73 [(false,[.sl 82 4 (List.map ZB append_0)]),(false,[.sl 57 2 (List.map Zq String_1)]),(false,[.sl 57 2 (List.map Zq a_2)]),(false,[.sl 107 4 (List.map ZyU a_3)]),(true,ZyU a_4)] [(false,[(false,.bool r)])]:=by
 refine fnk Tryz.func73 (by kernel_rfl) rfl (by kernel_rfl) (by kernel_rfl) ?_
 unfold ZDF at h
 have ks0:Zcf ⟨#[]⟩=true:=by decide
 simp only [fnS,f73,Zo,go_sem,seval,ks0]
 refine Ze h (fun _ h=>?_) fun _ h=>?_<;>try simp only [*,go_sem,seval]
 ·refine Ze h (fun _ h=>?_) fun _ h=>?_<;>try simp only [*,go_sem,seval]
  ·obtain ⟨v1,e3,h⟩:=Za h
   refine Zb (by have hh:=ZbR e3;first|exact hh|(simp only [*,go_sem] at hh;exact hh)) ?_
   cases h
   try simp only [*,go_sem,seval]
  ·cases h
   try simp only [*,go_sem,seval]
 ·obtain ⟨v2,e4,h⟩:=Za h
  refine Zb (by have hh:=ZlM e4;first|exact hh|(simp only [*,go_sem] at hh;exact hh)) ?_
  try simp only [*,go_sem,seval]
  refine Ze h (fun _ h=>?_) fun _ h=>?_<;>try simp only [*,go_sem,seval]
  ·cases h
   try simp only [*,go_sem,seval]
  ·refine Zg h (fun i row_9 st=>IV [(0,.p false [.c (.sl 82 4 (List.map ZB append_0))]),(2,.p false [.c (.sl 57 2 (List.map Zq a_2))]),(3,.p false [.c (.sl 107 4 (List.map ZyU a_3))]),(9,.bp 0 0),(11,.p false [.c (.int .i64 v2)]),(12,.p false [.row 1]),(42,.p false [.c (.sl 3 1 (List.map Qv a_4.uses))]),(43,.p false [.c (.int .i64 ((a_4.uses.length:Nat):Int))]),(44,.p false [.c (.int .i64 ((i:Nat):Int))])] [.box 107 [.c (.str a_4.fact.rel),.c (.sl 9 1 (List.map Zu a_4.fact.args)),.c (.str a_4.rule),.c (.sl 3 1 (List.map Qv a_4.uses))],.row 57 2 (List.map Zq row_9) 1] st) [(false,12,0),(true,272,1)] [0,272] (by decide) ?_ ?_ ?_
   ·simp only [*,go_sem,seval]
   ·rintro i26 x27 row_9 ⟨sl,ob,n⟩ y6 hx7 hI8 hW9 h hy6
    simp only [go_sem,seval,Zd] at hI8
    obtain ⟨⟨g10_0,g10_2,g10_3,g10_9,g10_11,g10_12,g10_42,g10_43,g10_44⟩,og10_0,og10_1,hn⟩:=hI8
    subst hn
    have hlhx7:=WF.slotL hW9 g10_42 (j:=0) rfl
    have q11:=ZF hx7
    have q12:=ZJ hx7
    have q13:=Zi (ZE hx7) hlhx7
    try simp only [*,go_sem,seval]
    refine Ze h (fun _ h=>?_) fun _ h=>?_<;>try simp only [*,go_sem,seval]
    ·replace h:=Zs h hy6
     cases h
     try simp only [*,go_sem,seval]
    ·refine Ze h (fun _ h=>?_) fun _ h=>?_<;>try simp only [*,go_sem,seval]
     ·replace h:=Zs h hy6
      cases h
      try simp only [*,go_sem,seval]
     ·obtain ⟨x28,a16,a17,e18,h⟩:=Zgn h
      obtain ⟨p19,h⟩:=Zx h
      try simp only [Nat.reduceLeDiff] at p19
      try simp only [*,go_sem,seval]
      refine ⟨_,[],[0,306],(Option.some.inj h).symm,by decide,?_⟩
      try simp only [*,go_sem,seval]
   ·rintro row_9 ⟨sl,ob,n⟩ hI20 hW21 h
    simp only [go_sem,seval,Zd] at hI20
    obtain ⟨⟨g22_0,g22_2,g22_3,g22_9,g22_11,g22_12,g22_42,g22_43,g22_44⟩,og22_0,og22_1,hn⟩:=hI20
    subst hn
    have q23:=ZC (a_4.uses.length)
    obtain ⟨x29,a24,a25,e26,h⟩:=Zgn h
    try simp only [*,go_sem,seval]
    obtain ⟨v30,e27,h⟩:=Za h
    refine Zmo (by have hh:=ZDS e27;first|exact hh|(simp only [*,go_sem] at hh;exact hh)) ?_
    try simp only [*,go_sem,seval]
    refine Ze h (fun _ h=>?_) fun _ h=>?_<;>try simp only [*,go_sem,seval]
    ·refine Zg h (fun i _ st=>IV [(9,.bp 0 0),(15,.bp 1 0),(81,.p false [.c (.sl 134 3 (List.map ZA x29.thn))]),(82,.p false [.c (.int .i64 ((x29.thn.length:Nat):Int))]),(83,.p false [.c (.int .i64 ((i:Nat):Int))])] [.box 107 [.c (.str a_4.fact.rel),.c (.sl 9 1 (List.map Zu a_4.fact.args)),.c (.str a_4.rule),.c (.sl 3 1 (List.map Qv a_4.uses))],.box 117 [.c (.sl 57 2 (List.map Zq v30.1.facts)),.c (.sl 192 2 (List.map Z6 v30.1.binding))]] st) [] [0,178] (by decide) ?_ ?_ ?_
     ·simp only [*,go_sem,seval]
     ·rintro i38 x39 ⟨⟩ ⟨sl,ob,n⟩ y29 hx30 hI31 hW32 h hy29
      simp only [go_sem,seval,Zd] at hI31
      obtain ⟨⟨g33_9,g33_15,g33_81,g33_82,g33_83⟩,og33_0,og33_1,hn⟩:=hI31
      subst hn
      have hlhx30:=WF.slotL hW32 g33_81 (j:=0) rfl
      have q34:=ZF hx30
      have q35:=ZJ hx30
      have q36:=Zi (ZE hx30) hlhx30
      try simp only [*,go_sem,seval]
      obtain ⟨v40,e37,h⟩:=Za h
      refine Zb (by have hh:=Zd4 e37;first|exact hh|(simp only [*,go_sem] at hh;exact hh)) ?_
      try simp only [*,go_sem,seval]
      refine Ze h (fun _ h=>?_) fun _ h=>?_<;>try simp only [*,go_sem,seval]
      ·obtain ⟨v41,e39,h⟩:=Za h
       refine Zb (by have hh:=ZlP e39;first|exact hh|(simp only [*,go_sem] at hh;exact hh)) ?_
       try simp only [*,go_sem,seval]
       refine Ze h (fun _ h=>?_) fun _ h=>?_<;>try simp only [*,go_sem,seval]
       ·replace h:=Zs h hy29
        cases h
        try simp only [*,go_sem,seval]
       ·refine ⟨_,[],[0,1],(Option.some.inj h).symm,by decide,?_⟩
        try simp only [*,go_sem,seval]
      ·refine ⟨_,[],[0,1],(Option.some.inj h).symm,by decide,?_⟩
       try simp only [*,go_sem,seval]
     ·rintro ⟨⟩ ⟨sl,ob,n⟩ hI41 hW42 h
      simp only [go_sem,seval,Zd] at hI41
      obtain ⟨⟨g43_9,g43_15,g43_81,g43_82,g43_83⟩,og43_0,og43_1,hn⟩:=hI41
      subst hn
      have q44:=ZC (x29.thn.length)
      cases h
      try simp only [*,go_sem,seval]
    ·cases h
     try simp only [*,go_sem,seval]
end Go.Proofs.YtojnhepgnbhaaaaGreatDoor
namespace Go.Proofs.YtojnhepgnbhaaaaGreatDoor
open Go.Proofs.Tryz
set_option linter.unusedSimpArgs false
set_option linter.unusedVariables false
set_option maxRecDepth 1000000
set_option maxHeartbeats 4000000
theorem ZkH {append_0:(List Zf)} {String_1:(List Zc)} {r:((List Zc) × ZK × (List Xx) × Bool)} (h:XG append_0 String_1=some r):Zn Tryz.prog J0 45 [(false,[.sl 82 4 (List.map ZB append_0)]),(false,[.sl 57 2 (List.map Zq String_1)])] [(false,[(false,.sl 57 2 (List.map Zq r.1))]),(true,[(false,.int .i64 r.2.1.nodes),(false,.sl 114 3 (List.map Yn r.2.1.reasons))]),(false,[(false,.any)]),(false,[(false,.bool r.2.2.2)])]:=by
 refine fnk Tryz.func45 (by kernel_rfl) rfl (by kernel_rfl) (by kernel_rfl) ?_
 unfold XG at h
 simp only [fnS,f45,Zo,go_sem,seval]
 obtain ⟨v1,e1,h⟩:=Za h
 refine Zb (by have hh:=Zhb e1;first|exact hh|(simp only [*,go_sem] at hh;exact hh)) ?_
 try simp only [*,go_sem,seval]
 refine Ze h (fun _ h=>?_) fun _ h=>?_<;>try simp only [*,go_sem,seval]
 ·refine Zg h (fun i s st=>match s with | (row_6,row_7)=>IV [(0,.p false [.c (.sl 82 4 (List.map ZB append_0))]),(1,.p false [.c (.sl 57 2 (List.map Zq String_1))]),(5,.bp 0 0),(8,.p false [.row 1]),(10,.bp 2 0),(11,.p false [.row 4]),(12,.p false [.c (.int .i64 ((i:Nat):Int))])] [.box 29 [.c (.int .i64 0),.nil 114 3],.row 57 2 (List.map Zq v1.1) 2,.box 29 [.c (.int .i64 ((v1.1.length:Nat):Int)),.row 3],.row 114 3 (List.map Yn row_6) 2,.row 119 3 (List.map Zeo row_7) 2] st) [(true,240,1)] [16,96,240,352,272] (by decide) ?_ ?_ ?_
  ·simp only [*,go_sem,seval]
  ·rintro i255 x256 ⟨row_6,row_7⟩ ⟨sl,ob,n⟩ y3 hx4 hI5 hW6 h hy3
   simp only [go_sem,seval,Zd] at hI5
   obtain ⟨⟨g7_0,g7_1,g7_5,g7_8,g7_10,g7_11,g7_12⟩,og7_0,og7_1,og7_2,og7_3,og7_4,hn⟩:=hI5
   subst hn
   have hlhx4:=WF.slotL hW6 g7_1 (j:=0) rfl
   have q8:=ZF hx4
   have q9:=ZJ hx4
   have q10:=Zi (ZE hx4) hlhx4
   try simp only [*,go_sem,seval]
   obtain ⟨v257,e11,h⟩:=Za h
   refine Zb (by have hh:=Zd2 e11;first|exact hh|(simp only [*,go_sem] at hh;exact hh)) ?_
   obtain ⟨p12,h⟩:=Zx h
   try simp only [Nat.reduceLeDiff] at p12
   obtain ⟨p13,h⟩:=Zx h
   try simp only [Nat.reduceLeDiff] at p13
   try simp only [*,go_sem,seval]
   refine ⟨_,[],[0,1,2,229,325],(Option.some.inj h).symm,by decide,?_⟩
   try simp only [*,go_sem,seval]
  ·rintro ⟨row_6,row_7⟩ ⟨sl,ob,n⟩ hI14 hW15 h
   simp only [go_sem,seval,Zd] at hI14
   obtain ⟨⟨g16_0,g16_1,g16_5,g16_8,g16_10,g16_11,g16_12⟩,og16_0,og16_1,og16_2,og16_3,og16_4,hn⟩:=hI14
   subst hn
   have q17:=ZC (String_1.length)
   try simp only [*,go_sem,seval]
   refine Zg h (fun i s st=>match s with | (row_388,row_389)=>IV [(0,.p false [.c (.sl 82 4 (List.map ZB append_0))]),(5,.bp 0 0),(8,.p false [.row 1]),(10,.bp 2 0),(11,.p false [.row 4]),(13,.p false [.c (.int .i64 ((i:Nat):Int))])] [.box 29 [.c (.int .i64 0),.nil 114 3],.row 57 2 (List.map Zq v1.1) 2,.box 29 [.c (.int .i64 ((v1.1.length:Nat):Int)),.row 3],.row 114 3 (List.map Yn row_388) 2,.row 119 3 (List.map Zeo row_389) 1] st) [(true,4,1)] [0,1,2,3,4] (by decide) ?_ ?_ ?_
   ·simp only [*,go_sem,seval]
   ·rintro i446 x447 ⟨row_388,row_389⟩ ⟨sl,ob,n⟩ y18 hx19 hI20 hW21 h hy18
    simp only [go_sem,seval,Zd] at hI20
    obtain ⟨⟨g22_0,g22_5,g22_8,g22_10,g22_11,g22_13⟩,og22_0,og22_1,og22_2,og22_3,og22_4,hn⟩:=hI20
    subst hn
    have hlhx19:=WF.slotL hW21 g22_0 (j:=0) rfl
    have q23:=ZF hx19
    have q24:=ZJ hx19
    have q25:=Zi (ZE hx19) hlhx19
    try simp only [*,go_sem,seval]
    obtain ⟨v448,e26,h⟩:=Za h
    refine Zmo (by have hh:=Zei e26;first|exact hh|(simp only [*,go_sem] at hh;exact hh)) ?_
    try simp only [*,go_sem,seval]
    obtain ⟨v449,e27,h⟩:=Za h
    refine Zb (by have hh:=Zgu e27;first|exact hh|(simp only [*,go_sem] at hh;exact hh)) ?_
    try simp only [*,go_sem,seval]
    refine Zg h (fun i s st=>match s with | (row_467,row_468)=>IV [(0,.p false [.c (.sl 82 4 (List.map ZB append_0))]),(5,.bp 0 0),(8,.p false [.row 1]),(10,.bp 2 0),(11,.p false [.row 4]),(13,.p false [.c (.int .i64 ((i446:Nat):Int))]),(14,.p false [.row 5]),(15,.p false [.c (.int .i64 ((i:Nat):Int))])] [.box 29 [.c (.int .i64 0),.nil 114 3],.row 57 2 (List.map Zq v1.1) 2,.box 29 [.c (.int .i64 ((v1.1.length:Nat):Int)),.row 3],.row 114 3 (List.map Yn row_467) 2,.row 119 3 (List.map Zeo row_468) 1,.row 117 2 (List.map YZ v449) 2] st) [] [0,1,2,3,4,165] (by decide) ?_ ?_ ?_
    ·simp only [*,go_sem,seval]
    ·rintro i487 x488 ⟨row_467,row_468⟩ ⟨sl,ob,n⟩ y28 hx29 hI30 hW31 h hy28
     simp only [go_sem,seval,Zd] at hI30
     obtain ⟨⟨g32_0,g32_5,g32_8,g32_10,g32_11,g32_13,g32_14,g32_15⟩,og32_0,og32_1,og32_2,og32_3,og32_4,og32_5,hn⟩:=hI30
     subst hn
     have hlhx29:=WF.rowL hW31 og32_5
     have q33:=ZF hx29
     have q34:=ZJ hx29
     have q35:=Zi (ZE hx29) hlhx29
     try simp only [*,go_sem,seval]
     refine Zg h (fun i s st=>match s with | (row_494,row_495)=>IV [(0,.p false [.c (.sl 82 4 (List.map ZB append_0))]),(5,.bp 0 0),(8,.p false [.row 1]),(10,.bp 2 0),(11,.p false [.row 4]),(13,.p false [.c (.int .i64 ((i446:Nat):Int))]),(14,.p false [.row 5]),(15,.p false [.c (.int .i64 ((i487:Nat):Int))]),(16,.p false [.c (.int .i64 ((i:Nat):Int))])] [.box 29 [.c (.int .i64 0),.nil 114 3],.row 57 2 (List.map Zq v1.1) 2,.box 29 [.c (.int .i64 ((v1.1.length:Nat):Int)),.row 3],.row 114 3 (List.map Yn row_494) 2,.row 119 3 (List.map Zeo row_495) 1,.row 117 2 (List.map YZ v449) 2] st) [] [0,1,2,3,4,5] (by decide) ?_ ?_ ?_
     ·simp only [*,go_sem,seval]
     ·rintro i498 x499 ⟨row_494,row_495⟩ ⟨sl,ob,n⟩ y36 hx37 hI38 hW39 h hy36
      simp only [go_sem,seval,Zd] at hI38
      obtain ⟨⟨g40_0,g40_5,g40_8,g40_10,g40_11,g40_13,g40_14,g40_15,g40_16⟩,og40_0,og40_1,og40_2,og40_3,og40_4,og40_5,hn⟩:=hI38
      subst hn
      have hlhx37:=WF.elL (WF.slotD hW39 g40_0 (j:=0) rfl) hx19 (j:=3) rfl
      have q41:=ZF hx37
      have q42:=ZJ hx37
      have q43:=Zi (ZE hx37) hlhx37
      try simp only [*,go_sem,seval]
      obtain ⟨v500,e44,h⟩:=Za h
      refine Zb (by have hh:=Zkw e44;first|exact hh|(simp only [*,go_sem] at hh;exact hh)) ?_
      try simp only [*,go_sem,seval]
      obtain ⟨v501,e45,h⟩:=Za h
      refine Zb (by have hh:=Zm4 e45;first|exact hh|(simp only [*,go_sem] at hh;exact hh)) ?_
      try simp only [*,go_sem,seval]
      refine Ze h (fun _ h=>?_) fun _ h=>?_<;>try simp only [*,go_sem,seval]
      ·refine ⟨_,[],[0,1,2,3,4,5],(Option.some.inj h).symm,by decide,?_⟩
       try simp only [*,go_sem,seval]
      ·refine Ze h (fun _ h=>?_) fun _ h=>?_<;>try simp only [*,go_sem,seval]
       ·replace h:=Zs h hy36
        replace h:=Zs h hy28
        replace h:=Zs h hy18
        cases h
        try simp only [*,go_sem,seval]
       ·obtain ⟨p48,h⟩:=Zx h
        try simp only [Nat.reduceLeDiff] at p48
        obtain ⟨p49,h⟩:=Zx h
        try simp only [Nat.reduceLeDiff] at p49
        try simp only [*,go_sem,seval]
        refine ⟨_,[],[0,1,2,550,790,5],(Option.some.inj h).symm,by decide,?_⟩
        try simp only [*,go_sem,seval]
     ·rintro ⟨row_494,row_495⟩ ⟨sl,ob,n⟩ hI50 hW51 h
      simp only [go_sem,seval,Zd] at hI50
      obtain ⟨⟨g52_0,g52_5,g52_8,g52_10,g52_11,g52_13,g52_14,g52_15,g52_16⟩,og52_0,og52_1,og52_2,og52_3,og52_4,og52_5,hn⟩:=hI50
      subst hn
      have q53:=ZC (x447.thn.length)
      try simp only [*,go_sem,seval]
      refine ⟨_,[],[0,1,2,3,4,5],(Option.some.inj h).symm,by decide,?_⟩
      try simp only [*,go_sem,seval]
    ·rintro ⟨row_467,row_468⟩ ⟨sl,ob,n⟩ hI54 hW55 h
     simp only [go_sem,seval,Zd] at hI54
     obtain ⟨⟨g56_0,g56_5,g56_8,g56_10,g56_11,g56_13,g56_14,g56_15⟩,og56_0,og56_1,og56_2,og56_3,og56_4,og56_5,hn⟩:=hI54
     subst hn
     have q57:=ZC (v449.length)
     try simp only [*,go_sem,seval]
     refine ⟨_,[],[0,1,2,3,4],(Option.some.inj h).symm,by decide,?_⟩
     try simp only [*,go_sem,seval]
   ·rintro ⟨row_388,row_389⟩ ⟨sl,ob,n⟩ hI58 hW59 h
    simp only [go_sem,seval,Zd] at hI58
    obtain ⟨⟨g60_0,g60_5,g60_8,g60_10,g60_11,g60_13⟩,og60_0,og60_1,og60_2,og60_3,og60_4,hn⟩:=hI58
    subst hn
    have q61:=ZC (append_0.length)
    cases h
    try simp only [*,go_sem,seval]
 ·cases h
  try simp only [*,go_sem,seval]
theorem ZCl {rules_0:(List Zf)} {base_1:(List Zc)} {r:((List Zc) × Bool)} (h:ZAv rules_0 base_1=some r):Zn Tryz.prog J0 24 [(false,[.sl 82 4 (List.map ZB rules_0)]),(false,[.sl 57 2 (List.map Zq base_1)])] [(false,[(false,.sl 57 2 (List.map Zq r.1))]),(false,[(false,.bool r.2)])]:=by
 refine fnk Tryz.func24 (by kernel_rfl) rfl (by kernel_rfl) (by kernel_rfl) ?_
 unfold ZAv at h
 simp only [fnS,f24,Zo,go_sem,seval]
 obtain ⟨c,a,h⟩:=Za h
 refine Zb (Zhe a) ?_
 try simp only [*,go_sem,seval]
 refine Ze h (fun _ h=>?_) fun _ h=>?_<;>try simp only [*,go_sem,seval]
 obtain ⟨d,b,h⟩:=Za h
 refine Zb (ZBS b) ?_
 iterate 2 (cases h;try simp only [*,go_sem,seval])
theorem ZD4 {r_0:Zf} {model_1:(List Zc)} {facts_2:(List Zc)} {r:(Zt × Bool)} (h:ZDH r_0 model_1 facts_2=some r):Zn Tryz.prog J0 115 [(true,ZB r_0),(false,[.sl 57 2 (List.map Zq model_1)]),(false,[.sl 57 2 (List.map Zq facts_2)])] [(true,[(true,.sl 57 2 (List.map Zq r.1.facts)),(true,.sl 192 2 (List.map Z6 r.1.binding))]),(false,[(false,.bool r.2)])]:=by
 refine fnk Tryz.func115 (by kernel_rfl) rfl (by kernel_rfl) (by kernel_rfl) ?_
 unfold ZDH at h
 simp only [fnS,f115,Zo,go_sem,seval]
 obtain ⟨b,f,h⟩:=Za h
 refine Zb (ZD2 f) ?_
 try simp only [*,go_sem,seval]
 refine Zg h (fun i _ st=>IV [(2,.p false [.c (.sl 57 2 (List.map Zq facts_2))]),(6,.bp 0 0),(8,.p false [.row 1]),(9,.p false [.c (.int .i64 ((i:Nat):Int))])] [.box 117 [.nil 57 2,.nil 192 2],.row 117 2 (List.map YZ b) 2] st) [] [16,128] (by decide) ?_ ?_ ?_
 simp only [*,go_sem,seval]
 rintro o q ⟨⟩ ⟨sl,ob,n⟩ t a d g h j
 simp only [go_sem,seval,Zd] at d
 obtain ⟨⟨u,v,w,x⟩,y,k,hn⟩:=d
 subst hn
 have l:=WF.rowL g k
 have z:=ZF a
 have A:=ZJ a
 have B:=Zi (ZE a) l
 try simp only [*,go_sem,seval]
 obtain ⟨C,m,h⟩:=Za h
 refine Zb (ZDQ m) ?_
 try simp only [*,go_sem,seval]
 refine Ze h (fun _ h=>?_) fun _ h=>?_<;>try simp only [*,go_sem,seval]
 replace h:=Zs h j
 cases h
 try simp only [*,go_sem,seval]
 refine ⟨_,[],[0,1],(Option.some.inj h).symm,by decide,?_⟩
 try simp only [*,go_sem,seval]
 rintro ⟨⟩ ⟨sl,ob,n⟩ e D h
 simp only [go_sem,seval,Zd] at e
 obtain ⟨⟨E,F,G,H⟩,I,J,hn⟩:=e
 subst hn
 have K:=ZC (b.length)
 cases h
 try simp only [*,go_sem,seval]
end Go.Proofs.YtojnhepgnbhaaaaGreatDoor
namespace Go.Proofs.YtojnhepgnbhaaaaGreatDoor
open Go.Proofs.Tryz
set_option linter.unusedSimpArgs false
set_option linter.unusedVariables false
set_option maxRecDepth 1000000
set_option maxHeartbeats 4000000
theorem Zhk {rules_0:(List Zf)} {base_1:(List Zc)} {r:((List Zc) × ZK × Bool)} (h:Xw rules_0 base_1=some r):Zn Tryz.prog J0 11 [(false,[.sl 82 4 (List.map ZB rules_0)]),(false,[.sl 57 2 (List.map Zq base_1)])] [(false,[(false,.sl 57 2 (List.map Zq r.1))]),(true,[(false,.int .i64 r.2.1.nodes),(false,.sl 114 3 (List.map Yn r.2.1.reasons))]),(false,[(false,.bool r.2.2)])]:=by
 refine fnk Tryz.func11 (by kernel_rfl) rfl (by kernel_rfl) (by kernel_rfl) ?_
 unfold Xw at h
 simp only [fnS,f11,Zo,go_sem,seval]
 obtain ⟨b,a,h⟩:=Za h
 refine Zb (ZkH a) ?_
 try simp only [*,go_sem,seval]
 refine Ze h (fun _ h=>?_) fun _ h=>?_<;>try simp only [*,go_sem,seval]
 iterate 2 (cases h;try simp only [*,go_sem,seval])
theorem ZEb {append_0:(List Zf)} {String_1:(List Zc)} {a_2:(List Zc)} {a_3:(List Zuw)} {a_4:Zuw} {r:Bool} (h:ZDK append_0 String_1 a_2 a_3 a_4=some r):Zn Tryz.prog J0 71 [(false,[.sl 82 4 (List.map ZB append_0)]),(false,[.sl 57 2 (List.map Zq String_1)]),(false,[.sl 57 2 (List.map Zq a_2)]),(false,[.sl 107 4 (List.map ZyU a_3)]),(true,ZyU a_4)] [(false,[(false,.bool r)])]:=by
 refine fnk Tryz.func71 (by kernel_rfl) rfl (by kernel_rfl) (by kernel_rfl) ?_
 unfold ZDK at h
 have ks0:Zcf ⟨#[]⟩=true:=by decide
 simp only [fnS,f71,Zo,go_sem,seval,ks0]
 refine Ze h (fun _ h=>?_) fun _ h=>?_<;>try simp only [*,go_sem,seval]
 ·refine Ze h (fun _ h=>?_) fun _ h=>?_<;>try simp only [*,go_sem,seval]
  ·obtain ⟨v1,e3,h⟩:=Za h
   refine Zb (by have hh:=Zd2 e3;first|exact hh|(simp only [*,go_sem] at hh;exact hh)) ?_
   cases h
   try simp only [*,go_sem,seval]
  ·cases h
   try simp only [*,go_sem,seval]
 ·obtain ⟨v2,e4,h⟩:=Za h
  refine Zb (by have hh:=ZlB e4;first|exact hh|(simp only [*,go_sem] at hh;exact hh)) ?_
  try simp only [*,go_sem,seval]
  refine Zg h (fun i row_9 st=>IV [(0,.p false [.c (.sl 82 4 (List.map ZB append_0))]),(2,.p false [.c (.sl 57 2 (List.map Zq a_2))]),(3,.p false [.c (.sl 107 4 (List.map ZyU a_3))]),(9,.bp 0 0),(11,.p false [.c (.int .i64 v2)]),(12,.p false [.row 1]),(13,.p false [.c (.int .i64 ((i:Nat):Int))])] [.box 107 [.c (.str a_4.fact.rel),.c (.sl 9 1 (List.map Zu a_4.fact.args)),.c (.str a_4.rule),.c (.sl 3 1 (List.map Qv a_4.uses))],.row 57 2 (List.map Zq row_9) 1] st) [(true,160,1)] [0,160] (by decide) ?_ ?_ ?_
  ·simp only [*,go_sem,seval]
  ·rintro i28 x29 row_9 ⟨sl,ob,n⟩ y5 hx6 hI7 hW8 h hy5
   simp only [go_sem,seval,Zd] at hI7
   obtain ⟨⟨g9_0,g9_2,g9_3,g9_9,g9_11,g9_12,g9_13⟩,og9_0,og9_1,hn⟩:=hI7
   subst hn
   have hlhx6:=WF.boxL hW8 og9_0 (j:=3) rfl
   have q10:=ZF hx6
   have q11:=ZJ hx6
   have q12:=Zi (ZE hx6) hlhx6
   try simp only [*,go_sem,seval]
   obtain ⟨v30,e13,h⟩:=Za h
   refine Zb (by have hh:=ZaS e13;first|exact hh|(simp only [*,go_sem] at hh;exact hh)) ?_
   try simp only [*,go_sem,seval]
   refine Ze h (fun _ h=>?_) fun _ h=>?_<;>try simp only [*,go_sem,seval]
   ·obtain ⟨x31,a15,a16,e17,h⟩:=Zgn h
    obtain ⟨p18,h⟩:=Zx h
    try simp only [Nat.reduceLeDiff] at p18
    try simp only [*,go_sem,seval]
    refine ⟨_,[],[0,418],(Option.some.inj h).symm,by decide,?_⟩
    try simp only [*,go_sem,seval]
   ·replace h:=Zs h hy5
    cases h
    try simp only [*,go_sem,seval]
  ·rintro row_9 ⟨sl,ob,n⟩ hI19 hW20 h
   simp only [go_sem,seval,Zd] at hI19
   obtain ⟨⟨g21_0,g21_2,g21_3,g21_9,g21_11,g21_12,g21_13⟩,og21_0,og21_1,hn⟩:=hI19
   subst hn
   have q22:=ZC (a_4.uses.length)
   try simp only [*,go_sem,seval]
   refine Ze h (fun _ h=>?_) fun _ h=>?_<;>try simp only [*,go_sem,seval]
   ·cases h
    try simp only [*,go_sem,seval]
   ·obtain ⟨x32,a24,a25,e26,h⟩:=Zgn h
    try simp only [*,go_sem,seval]
    obtain ⟨v33,e27,h⟩:=Za h
    refine Zmo (by have hh:=ZD4 e27;first|exact hh|(simp only [*,go_sem] at hh;exact hh)) ?_
    try simp only [*,go_sem,seval]
    refine Zg h (fun i u_37 st=>IV [(0,.p false [.c (.sl 82 4 (List.map ZB append_0))]),(9,.bp 0 0),(11,.p false [.c (.int .i64 v2)]),(14,.bp 1 0),(15,.p false [.c (.bool u_37)]),(16,.p false [.c (.int .i64 ((i:Nat):Int))])] [.box 107 [.c (.str a_4.fact.rel),.c (.sl 9 1 (List.map Zu a_4.fact.args)),.c (.str a_4.rule),.c (.sl 3 1 (List.map Qv a_4.uses))],.box 117 [.c (.sl 57 2 (List.map Zq v33.1.facts)),.c (.sl 192 2 (List.map Z6 v33.1.binding))]] st) [] [0,274] (by decide) ?_ ?_ ?_
    ·simp only [*,go_sem,seval]
    ·rintro i42 x43 u_37 ⟨sl,ob,n⟩ y28 hx29 hI30 hW31 h hy28
     simp only [go_sem,seval,Zd] at hI30
     obtain ⟨⟨g32_0,g32_9,g32_11,g32_14,g32_15,g32_16⟩,og32_0,og32_1,hn⟩:=hI30
     subst hn
     have hlhx29:=WF.elL (WF.slotD hW31 g32_0 (j:=0) rfl) e26 (j:=3) rfl
     have q33:=ZF hx29
     have q34:=ZJ hx29
     have q35:=Zi (ZE hx29) hlhx29
     try simp only [*,go_sem,seval]
     refine Ze h (fun _ h=>?_) fun _ h=>?_<;>try simp only [*,go_sem,seval]
     ·obtain ⟨v44,e37,h⟩:=Za h
      refine Zb (by have hh:=ZdZ e37;first|exact hh|(simp only [*,go_sem] at hh;exact hh)) ?_
      try simp only [*,go_sem,seval]
      refine Ze h (fun _ h=>?_) fun _ h=>?_<;>try simp only [*,go_sem,seval]
      ·obtain ⟨v45,e39,h⟩:=Za h
       refine Zb (by have hh:=Zo0 e39;first|exact hh|(simp only [*,go_sem] at hh;exact hh)) ?_
       try simp only [*,go_sem,seval]
       refine Ze h (fun _ h=>?_) fun _ h=>?_<;>try simp only [*,go_sem,seval]
       ·replace h:=Zs h hy28
        cases h
        try simp only [*,go_sem,seval]
       ·refine ⟨_,[],[0,1],(Option.some.inj h).symm,by decide,?_⟩
        try simp only [*,go_sem,seval]
      ·refine ⟨_,[],[0,1],(Option.some.inj h).symm,by decide,?_⟩
       try simp only [*,go_sem,seval]
     ·replace h:=Zs h hy28
      cases h
      try simp only [*,go_sem,seval]
    ·rintro u_37 ⟨sl,ob,n⟩ hI41 hW42 h
     simp only [go_sem,seval,Zd] at hI41
     obtain ⟨⟨g43_0,g43_9,g43_11,g43_14,g43_15,g43_16⟩,og43_0,og43_1,hn⟩:=hI41
     subst hn
     have q44:=ZC (x32.thn.length)
     cases h
     try simp only [*,go_sem,seval]
theorem ZD6 {rules_0:(List Zf)} {base_1:(List Zc)} {steps_2:(List Zuw)} {r:Bool} (h:ZDD rules_0 base_1 steps_2=some r):Zn Tryz.prog J0 40 [(false,[.sl 82 4 (List.map ZB rules_0)]),(false,[.sl 57 2 (List.map Zq base_1)]),(false,[.sl 107 4 (List.map ZyU steps_2)])] [(false,[(false,.bool r)])]:=by
 refine fnk Tryz.func40 (by kernel_rfl) rfl (by kernel_rfl) (by kernel_rfl) ?_
 unfold ZDD at h
 simp only [fnS,f40,Zo,go_sem,seval]
 obtain ⟨e,f,h⟩:=Za h
 refine Zb (by have hh:=ZCl f;first|exact hh|(simp only [*,go_sem] at hh;exact hh)) ?_
 try simp only [*,go_sem,seval]
 iterate 2 refine Ze h (fun _ h=>?_) fun _ h=>?_<;>try simp only [*,go_sem,seval]
 cases h
 try simp only [*,go_sem,seval]
 refine Zg h (fun i _ st=>IV [(0,.p false [.c (.sl 82 4 (List.map ZB rules_0))]),(1,.p false [.c (.sl 57 2 (List.map Zq base_1))]),(2,.p false [.c (.sl 107 4 (List.map ZyU steps_2))]),(7,.p false [.row 0]),(24,.p false [.c (.sl 107 4 (List.map ZyU steps_2))]),(25,.p false [.c (.int .i64 ((steps_2.length:Nat):Int))]),(26,.p false [.c (.int .i64 ((i:Nat):Int))])] [.row 57 2 (List.map Zq e.1) 2] st) [] [48] (by decide) ?_ ?_ ?_
 simp only [*,go_sem,seval]
 rintro q t ⟨⟩ ⟨sl,ob,n⟩ u a b g h k
 simp only [go_sem,seval,Zd] at b
 obtain ⟨⟨v,w,l,x,y,z,A⟩,B,hn⟩:=b
 subst hn
 have m:=WF.slotL g l (j:=0) rfl
 have C:=ZF a
 have D:=ZJ a
 have E:=Zi (ZE a) m
 obtain ⟨F,h⟩:=Zx h
 try simp only [*,go_sem,seval]
 obtain ⟨G,o,h⟩:=Za h
 refine Zb (by have hh:=ZDY o;first|exact hh|(simp only [*,go_sem] at hh;exact hh)) ?_
 try simp only [*,go_sem,seval]
 refine Ze h (fun _ h=>?_) fun _ h=>?_<;>try simp only [*,go_sem,seval]
 refine ⟨_,[],[0],(Option.some.inj h).symm,by decide,?_⟩
 try simp only [*,go_sem,seval]
 replace h:=Zs h k
 cases h
 try simp only [*,go_sem,seval]
 rintro ⟨⟩ ⟨sl,ob,n⟩ d H h
 simp only [go_sem,seval,Zd] at d
 obtain ⟨⟨I,J,K,L,M,N,O⟩,P,hn⟩:=d
 subst hn
 have Q:=ZC (steps_2.length)
 iterate 2 (cases h;try simp only [*,go_sem,seval])
end Go.Proofs.YtojnhepgnbhaaaaGreatDoor
namespace Go.Proofs.YtojnhepgnbhaaaaGreatDoor
open Go.Proofs.Tryz
set_option linter.unusedSimpArgs false
set_option linter.unusedVariables false
set_option maxRecDepth 1000000
set_option maxHeartbeats 4000000
theorem ZCh {rules_0:(List Zf)} {base_1:(List Zc)} {r:((List Zc) × Bool)} (h:ZAw rules_0 base_1=some r):Zn Tryz.prog J0 23 [(false,[.sl 82 4 (List.map ZB rules_0)]),(false,[.sl 57 2 (List.map Zq base_1)])] [(false,[(false,.sl 57 2 (List.map Zq r.1))]),(false,[(false,.bool r.2)])]:=by
 refine fnk Tryz.func23 (by kernel_rfl) rfl (by kernel_rfl) (by kernel_rfl) ?_
 unfold ZAw at h
 simp only [fnS,f23,Zo,go_sem,seval]
 obtain ⟨c,a,h⟩:=Za h
 refine Zb (Zhk a) ?_
 try simp only [*,go_sem,seval]
 refine Ze h (fun _ h=>?_) fun _ h=>?_<;>try simp only [*,go_sem,seval]
 obtain ⟨d,b,h⟩:=Za h
 refine Zb (ZCM b) ?_
 iterate 2 (cases h;try simp only [*,go_sem,seval])
theorem ZFw {rules_0:(List Zf)} {base_1:(List Zc)} {steps_2:(List Zuw)} {f_3:Zc} {r:Bool} (h:ZFo rules_0 base_1 steps_2 f_3=some r):Zn Tryz.prog J0 43 [(false,[.sl 82 4 (List.map ZB rules_0)]),(false,[.sl 57 2 (List.map Zq base_1)]),(false,[.sl 107 4 (List.map ZyU steps_2)]),(true,Zq f_3)] [(false,[(false,.bool r)])]:=by
 refine fnk Tryz.func43 (by kernel_rfl) rfl (by kernel_rfl) (by kernel_rfl) ?_
 unfold ZFo at h
 simp only [fnS,f43,Zo,go_sem,seval]
 obtain ⟨c,a,h⟩:=Za h
 refine Zb (ZFr a) ?_
 try simp only [*,go_sem,seval]
 refine Ze h (fun _ h=>?_) fun _ h=>?_<;>try simp only [*,go_sem,seval]
 obtain ⟨d,b,h⟩:=Za h
 refine Zb (ZD6 b) ?_
 iterate 2 (cases h;try simp only [*,go_sem,seval])
end Go.Proofs.YtojnhepgnbhaaaaGreatDoor
namespace Go.Proofs.YtojnhepgnbhaaaaGreatDoor
open Go.Proofs.Tryz
set_option linter.unusedSimpArgs false
set_option linter.unusedVariables false
set_option maxRecDepth 1000000
set_option maxHeartbeats 4000000
theorem ZD9 {rules_0:(List Zf)} {base_1:(List Zc)} {steps_2:(List Zuw)} {r:Bool} (h:ZDE rules_0 base_1 steps_2=some r):Zn Tryz.prog J0 38 [(false,[.sl 82 4 (List.map ZB rules_0)]),(false,[.sl 57 2 (List.map Zq base_1)]),(false,[.sl 107 4 (List.map ZyU steps_2)])] [(false,[(false,.bool r)])]:=by
 refine fnk Tryz.func38 (by kernel_rfl) rfl (by kernel_rfl) (by kernel_rfl) ?_
 unfold ZDE at h
 simp only [fnS,f38,Zo,go_sem,seval]
 obtain ⟨e,f,h⟩:=Za h
 refine Zb (by have hh:=ZCh f;first|exact hh|(simp only [*,go_sem] at hh;exact hh)) ?_
 try simp only [*,go_sem,seval]
 iterate 2 refine Ze h (fun _ h=>?_) fun _ h=>?_<;>try simp only [*,go_sem,seval]
 cases h
 try simp only [*,go_sem,seval]
 refine Zg h (fun i _ st=>IV [(0,.p false [.c (.sl 82 4 (List.map ZB rules_0))]),(1,.p false [.c (.sl 57 2 (List.map Zq base_1))]),(2,.p false [.c (.sl 107 4 (List.map ZyU steps_2))]),(7,.p false [.row 0]),(9,.p false [.c (.int .i64 ((i:Nat):Int))])] [.row 57 2 (List.map Zq e.1) 2] st) [] [48] (by decide) ?_ ?_ ?_
 simp only [*,go_sem,seval]
 rintro q t ⟨⟩ ⟨sl,ob,n⟩ u a b g h k
 simp only [go_sem,seval,Zd] at b
 obtain ⟨⟨v,w,l,x,y⟩,z,hn⟩:=b
 subst hn
 have m:=WF.slotL g l (j:=0) rfl
 have A:=ZF a
 have B:=ZJ a
 have C:=Zi (ZE a) m
 obtain ⟨D,h⟩:=Zx h
 try simp only [*,go_sem,seval]
 obtain ⟨E,o,h⟩:=Za h
 refine Zb (by have hh:=ZEb o;first|exact hh|(simp only [*,go_sem] at hh;exact hh)) ?_
 try simp only [*,go_sem,seval]
 refine Ze h (fun _ h=>?_) fun _ h=>?_<;>try simp only [*,go_sem,seval]
 refine ⟨_,[],[0],(Option.some.inj h).symm,by decide,?_⟩
 try simp only [*,go_sem,seval]
 replace h:=Zs h k
 cases h
 try simp only [*,go_sem,seval]
 rintro ⟨⟩ ⟨sl,ob,n⟩ d F h
 simp only [go_sem,seval,Zd] at d
 obtain ⟨⟨G,H,I,J,K⟩,L,hn⟩:=d
 subst hn
 have M:=ZC (steps_2.length)
 iterate 2 (cases h;try simp only [*,go_sem,seval])
end Go.Proofs.YtojnhepgnbhaaaaGreatDoor
namespace Go.Proofs.YtojnhepgnbhaaaaGreatDoor
open Go.Proofs.Tryz
set_option linter.unusedSimpArgs false
set_option linter.unusedVariables false
set_option maxRecDepth 1000000
set_option maxHeartbeats 4000000
theorem ZFx {rules_0:(List Zf)} {base_1:(List Zc)} {steps_2:(List Zuw)} {f_3:Zc} {r:Bool} (h:ZFn rules_0 base_1 steps_2 f_3=some r):Zn Tryz.prog J0 42 [(false,[.sl 82 4 (List.map ZB rules_0)]),(false,[.sl 57 2 (List.map Zq base_1)]),(false,[.sl 107 4 (List.map ZyU steps_2)]),(true,Zq f_3)] [(false,[(false,.bool r)])]:=by
 refine fnk Tryz.func42 (by kernel_rfl) rfl (by kernel_rfl) (by kernel_rfl) ?_
 unfold ZFn at h
 simp only [fnS,f42,Zo,go_sem,seval]
 obtain ⟨c,a,h⟩:=Za h
 refine Zb (ZD9 a) ?_
 try simp only [*,go_sem,seval]
 refine Ze h (fun _ h=>?_) fun _ h=>?_<;>try simp only [*,go_sem,seval]
 obtain ⟨d,b,h⟩:=Za h
 refine Zb (ZFs b) ?_
 iterate 2 (cases h;try simp only [*,go_sem,seval])
end Go.Proofs.YtojnhepgnbhaaaaGreatDoor
namespace Go.Proofs.YtojnhepgnbhaaaaGreatDoor
open Go.RowKit
structure Enc {α:Type} (c:YL α) (f:α→List CT):Prop where
 to:∀{w:World} {cs:List Value} {x:α} {L:List Nat},c.rep w cs x L→RCs w (f x) cs L
 of:∀{w:World} {cs:List Value} {x:α} {L:List Nat},RCs w (f x) cs L→c.rep w cs x L
section
variable {α:Type} {c:YL α} {f:α→List CT} {w:World}
theorem Enc.reps (h:Enc c f):∀{ds:List α} {xs:List Value} {L:List Nat},c.reps w xs ds L→REs w c.size (ds.map f) xs L
 | [],_,_,h1=>h1
 | _::_,_,_,⟨c1,c2,L1,L2,h1,h2,h3,h4⟩=>⟨c1,c2,L1,L2,h1,h2,⟨h.to h3,c.len h3⟩,h.reps h4⟩
theorem Enc.reps_of (h:Enc c f):∀{ds:List α} {xs:List Value} {L:List Nat},REs w c.size (ds.map f) xs L→c.reps w xs ds L
 | [],_,_,h1=>h1
 | _::_,_,_,⟨c1,c2,L1,L2,h1,h2,h3,h4⟩=>⟨c1,c2,L1,L2,h1,h2,h.of h3.1,h.reps_of h4⟩
theorem Enc.sl (h:Enc c f) (e:Nat) {v:Value} {ds:List α} {L:List Nat}:(ZY c).rep w [v] ds L↔RC w (.sl e c.size (ds.map f)) v L:=by
 constructor
 ·rintro ⟨A,cap,hv,h1,h2,xs,L0,L1,hL,h3,h4⟩
  obtain rfl:v=_:=by simpa using hv
  exact ⟨A,cap,xs,L0,L1,by simp,by simpa using h1,h2,hL,c.pos,by simpa using h3,h.reps h4⟩
 ·rintro ⟨A,cap,xs,L0,L1,hv,h1,h2,hL,h0,h3,h4⟩
  exact ⟨A,cap,by simpa using hv,by simpa using h1,h2,xs,L0,L1,hL,by simpa using h3,h.reps_of h4⟩
theorem RCs.solo {x:CT} {v:Value} {L:List Nat} (h:RC w x v L):RCs w [x] [v] L:=⟨v,[],L,[],rfl,by simp,h,rfl,rfl⟩
theorem RCs.more {x:CT} {v:Value} {L M:List Nat} {r:List CT} {cs:List Value} (h:RC w x v L) (k:RCs w r cs M):RCs w (x::r) (v::cs) (L++M):=⟨v,cs,L,M,rfl,rfl,h,k⟩
end
theorem Znh:Enc Zgq Qv where
 to:=fun ⟨h1,h2⟩=>by subst h1;subst h2;exact RCs.solo ⟨rfl,rfl⟩
 of:=fun ⟨v,cs',L1,L2,h1,h2,h3,h4,h5⟩=>by
  obtain ⟨rfl,rfl⟩:=h3
  subst h4;subst h5;exact ⟨h1,h2⟩
theorem encStr:Enc Zbm Zu where
 to:=fun ⟨h1,h2,h3⟩=>by subst h1;subst h2;exact RCs.solo ⟨rfl,rfl,h3⟩
 of:=fun ⟨v,cs',L1,L2,h1,h2,h3,h4,h5⟩=>by
  obtain ⟨rfl,rfl,t⟩:=h3
  subst h4;subst h5;exact ⟨h1,h2,t⟩
def ZuT (w:World):Bool × List CT→Value→Prop:=Zkk w fun _=>False
theorem Znw {α:Type} {c:YL α} {f:α→List CT} (h:Enc c f) (e:Nat) {w:World} {v:Value} {ds:List α} {L:List Nat} (hr:(ZY c).rep w [v] ds L):ZuT w (false,[.sl e c.size (ds.map f)]) v:=.inr ⟨rfl,_,L,rfl,(h.sl e).1 hr,fun _ _ h=>h⟩
theorem ZEN {α:Type} {c:YL α} {f:α→List CT} (h:Enc c f) {w:World} {vs:List Value} {x:α} {L:List Nat} (hr:c.rep w vs x L):ZuT w (true,f x) (.agg vs.toArray):=.inl ⟨rfl,vs,L,rfl,h.to hr,fun _ _ h=>h⟩
section
variable {w w':World} {v:Value} {e:Ending}
theorem ZDm {B:Nat} {n:Nat→Prop} {x:RT} (h:Zma w B n [x] v):∃F,OP w B n x v F∧Own w B F:=by
 obtain ⟨vs,F,⟨u,vs',F1,F2,rfl,rfl,h1,rfl,rfl⟩,h2,rfl⟩:=h
 rw [List.append_nil] at h2
 exact ⟨F1,by simpa using h1,h2⟩
theorem ZEu {b:Bool} {B:Nat} {m:Nat→Prop} (hr:Zma w B m [(false,[(false,.bool b)])] v):v=.bool b:=by
 obtain ⟨F,h1,h2⟩:=ZDm hr
 rcases h1 with ⟨h1,_⟩ | ⟨_,ct,h1,h3⟩
 ·simp at h1
 ·obtain rfl:_=ct:=by simpa using h1
  exact h3.1.1
end
section
variable {P:Program} {J:World→Prop} {f:FuncId} {args:List (Bool × List CT)} {res:List RT}
theorem Zn.calls (h:Zn P J f args res) {w:World} {vs:List Value} (hj:J w) (ha:ZH (ZuT w) args vs):Calls P f vs.toArray w fun e w'=>∃v n,e=.returned v∧Zma w' w.heap.size n res v∧Below w.heap.size w w':=
 (h.2 w (fun _=>False) vs hj (fun _ h=>h.elim) ha).mono fun _ _ ⟨v,n,h1,h2,_,h3⟩=>⟨v,n,h1,h2,h3⟩
theorem Zn.givesB {b:Bool} (h:Zn P J f args [(false,[(false,.bool b)])]) {w:World} {vs:List Value} (hj:J w) (ha:ZH (ZuT w) args vs):Calls P f vs.toArray w fun e w'=>e=.returned (.bool b)∧Below w.heap.size w w':=
 (h.calls hj ha).mono fun _ _ ⟨v,_,h1,h2,h3⟩=>⟨by rw [h1,ZEu h2],h3⟩
end
end Go.Proofs.YtojnhepgnbhaaaaGreatDoor
namespace Go.Proofs.YtojnhepgnbhaaaaGreatDoor
theorem ZjV:Enc Y4 Zq where
 to:=fun {w cs x L} h=>by
  obtain ⟨A1,c1,L1,rfl,rfl,t0,n1,m1,s1⟩:=h
  have hh:RCs w (Zq x) _ _:=RCs.more ⟨rfl,rfl,t0⟩ (RCs.solo ((encStr.sl 9).1 ⟨A1,c1,rfl,n1,m1,s1⟩))
  simpa only [List.nil_append,List.append_nil,List.append_assoc] using hh
 of:=fun {w cs x L} h=>by
  obtain ⟨v0,r0,K0,M0,rfl,rfl,h0,v1,r1,K1,M1,rfl,rfl,h1,rfl,rfl⟩:=h
  obtain ⟨rfl,rfl,t0⟩:=h0
  obtain ⟨A1,c1,e1,n1,m1,s1⟩:=(encStr.sl 9).2 h1
  cases e1
  exact ⟨A1,c1,_,rfl,by simp only [List.nil_append,List.append_nil,List.append_assoc],t0,n1,m1,s1⟩
theorem ZqA:Enc XV ZM where
 to:=fun {w cs x L} h=>by
  obtain ⟨A1,c1,L1,rfl,rfl,t0,t1,t2,n1,m1,s1⟩:=h
  have hh:RCs w (ZM x) _ _:=RCs.more ⟨rfl,rfl⟩ (RCs.more ⟨rfl,rfl,t0⟩ (RCs.more ((encStr.sl 9).1 ⟨A1,c1,rfl,n1,m1,s1⟩) (RCs.more ⟨rfl,rfl,t1⟩ (RCs.solo ⟨rfl,rfl,t2⟩))))
  simpa only [List.nil_append,List.append_nil,List.append_assoc] using hh
 of:=fun {w cs x L} h=>by
  obtain ⟨v0,r0,K0,M0,rfl,rfl,h0,v1,r1,K1,M1,rfl,rfl,h1,v2,r2,K2,M2,rfl,rfl,h2,v3,r3,K3,M3,rfl,rfl,h3,v4,r4,K4,M4,rfl,rfl,h4,rfl,rfl⟩:=h
  obtain ⟨rfl,rfl⟩:=h0
  obtain ⟨rfl,rfl,t0⟩:=h1
  obtain ⟨A1,c1,e1,n1,m1,s1⟩:=(encStr.sl 9).2 h2
  cases e1
  obtain ⟨rfl,rfl,t1⟩:=h3
  obtain ⟨rfl,rfl,t2⟩:=h4
  exact ⟨A1,c1,_,rfl,by simp only [List.nil_append,List.append_nil,List.append_assoc],t0,t1,t2,n1,m1,s1⟩
theorem ZmY:Enc Yk ZA where
 to:=fun {w cs x L} h=>by
  obtain ⟨A1,c1,L1,rfl,rfl,t0,n1,m1,s1⟩:=h
  have hh:RCs w (ZA x) _ _:=RCs.more ⟨rfl,rfl⟩ (RCs.more ⟨rfl,rfl,t0⟩ (RCs.solo ((encStr.sl 9).1 ⟨A1,c1,rfl,n1,m1,s1⟩)))
  simpa only [List.nil_append,List.append_nil,List.append_assoc] using hh
 of:=fun {w cs x L} h=>by
  obtain ⟨v0,r0,K0,M0,rfl,rfl,h0,v1,r1,K1,M1,rfl,rfl,h1,v2,r2,K2,M2,rfl,rfl,h2,rfl,rfl⟩:=h
  obtain ⟨rfl,rfl⟩:=h0
  obtain ⟨rfl,rfl,t0⟩:=h1
  obtain ⟨A1,c1,e1,n1,m1,s1⟩:=(encStr.sl 9).2 h2
  cases e1
  exact ⟨A1,c1,_,rfl,by simp only [List.nil_append,List.append_nil,List.append_assoc],t0,n1,m1,s1⟩
theorem ZqW:Enc XU ZB where
 to:=fun {w cs x L} h=>by
  obtain ⟨A1,c1,L1,A2,c2,L2,rfl,rfl,t0,n1,m1,s1,n2,m2,s2⟩:=h
  have hh:RCs w (ZB x) _ _:=RCs.more ⟨rfl,rfl,t0⟩ (RCs.more ⟨rfl,rfl⟩ (RCs.more ((ZqA.sl 130).1 ⟨A1,c1,rfl,n1,m1,s1⟩) (RCs.solo ((ZmY.sl 134).1 ⟨A2,c2,rfl,n2,m2,s2⟩))))
  simpa only [List.nil_append,List.append_nil,List.append_assoc] using hh
 of:=fun {w cs x L} h=>by
  obtain ⟨v0,r0,K0,M0,rfl,rfl,h0,v1,r1,K1,M1,rfl,rfl,h1,v2,r2,K2,M2,rfl,rfl,h2,v3,r3,K3,M3,rfl,rfl,h3,rfl,rfl⟩:=h
  obtain ⟨rfl,rfl,t0⟩:=h0
  obtain ⟨rfl,rfl⟩:=h1
  obtain ⟨A1,c1,e1,n1,m1,s1⟩:=(ZqA.sl 130).2 h2
  cases e1
  obtain ⟨A2,c2,e2,n2,m2,s2⟩:=(ZmY.sl 134).2 h3
  cases e2
  exact ⟨A1,c1,_,A2,c2,_,rfl,by simp only [List.nil_append,List.append_nil,List.append_assoc],t0,n1,m1,s1,n2,m2,s2⟩
theorem ZEo:Enc ZDz ZyU where
 to:=fun {w cs x L} h=>by
  obtain ⟨A1,c1,L1,A2,c2,L2,rfl,rfl,t0,t1,n1,m1,s1,n2,m2,s2⟩:=h
  have hh:RCs w (ZyU x) _ _:=RCs.more ⟨rfl,rfl,t0⟩ (RCs.more ((encStr.sl 9).1 ⟨A1,c1,rfl,n1,m1,s1⟩) (RCs.more ⟨rfl,rfl,t1⟩ (RCs.solo ((Znh.sl 3).1 ⟨A2,c2,rfl,n2,m2,s2⟩))))
  simpa only [List.nil_append,List.append_nil,List.append_assoc] using hh
 of:=fun {w cs x L} h=>by
  obtain ⟨v0,r0,K0,M0,rfl,rfl,h0,v1,r1,K1,M1,rfl,rfl,h1,v2,r2,K2,M2,rfl,rfl,h2,v3,r3,K3,M3,rfl,rfl,h3,rfl,rfl⟩:=h
  obtain ⟨rfl,rfl,t0⟩:=h0
  obtain ⟨A1,c1,e1,n1,m1,s1⟩:=(encStr.sl 9).2 h1
  cases e1
  obtain ⟨rfl,rfl,t1⟩:=h2
  obtain ⟨A2,c2,e2,n2,m2,s2⟩:=(Znh.sl 3).2 h3
  cases e2
  exact ⟨A1,c1,_,A2,c2,_,rfl,by simp only [List.nil_append,List.append_nil,List.append_assoc],t0,t1,n1,m1,s1,n2,m2,s2⟩
end Go.Proofs.YtojnhepgnbhaaaaGreatDoor
namespace Go.Proofs.YtojnhepgnbhaaaaGreatDoor
open Go.RowKit
set_option maxHeartbeats 400000 in
theorem ZgS (A:Option Addr) (n c:Nat) (ds:List ByteArray) (L:List Nat) (left:Int) (w:World) (hn:n=ds.length) (hm:n≤9223372036854775807) (h0:0≤left) (h1:left≤1048576) (h:Sli Zbm w A ds L):
  Calls Tryz.prog 59 #[.slice A n c,.int .i64 left] w (ZdY (Xm ds) left w):=by
 have H:=Lib.hid h
 have HN:=Lib.hid hn
 clear h hn
 by_cases hlen:(n:Int)≤left
 ·go_enter Tryz.func59,Tryz.ntmps59
  go_wp2
  go_loop [1,5] (fun q i=>∃(k:Nat) (l:Int),k≤n∧i=.int .i64 k∧q=.int .i64 l∧0≤l∧l≤left∧Hid (szR ((ds.drop k).map ByteArray.size).sum l=szR (Xm ds) left)) (fun _ i=>n - (intOf i).toNat)
  case atStart=>exact ⟨0,left - n,Nat.zero_le _,rfl,rfl,by omega,by omega,Lib.hid (by
    have e:=HN.out
    exact Zag _ _ _ _ (by omega) (by simp [Xm];omega))⟩
  case round=>
   obtain ⟨k,l,hk,rfl,rfl,hl0,hl1,HE⟩:=hrel
   by_cases hlt:k<n
   ·obtain ⟨b,off,cs,Lk,rfl,_,_,hrep,hc⟩:=H.out.at_ (show k<ds.length by have:=HN.out;omega)
    obtain ⟨rfl,_,hss⟩:=Zul hrep
    have hc0:=hc 0 _ rfl
    clear hc hrep
    have hd:Hid (ds.drop k=ds[k]'(by have:=HN.out;omega)::ds.drop (k+1)):=List.drop_eq_getElem_cons _
    generalize ds[k]'(by have:=HN.out;omega)=s at hc0 hd hss
    simp only [show Zbm.size=1 from rfl,Nat.mul_one,Nat.add_zero] at hc0
    by_cases hs:(s.size:Int)≤l
    ·go_wp2
     go_round
     case rel=>exact ⟨k+1,l - s.size,by omega,by go_num,rfl,by omega,by omega,Lib.hid (by rw [←HE.out,hd.out];exact Zag _ _ _ _ (by omega) (by simp))⟩
     case measure=>simp [intOf];omega
    ·go_wp2
     go_ret
     exact ⟨Yo (by rw [←HE.out,hd.out,ZX (by simp;omega)]),Below.refl _ _⟩
   ·go_wp2
    go_ret
    exact ⟨Yo (by rw [←HE.out,List.drop_of_length_le (by have:=HN.out;omega)];simp [szR,hl0]),Below.refl _ _⟩
 ·go_enter Tryz.func59,Tryz.ntmps59
  go_wp2
  go_ret
  exact ⟨Yo (by rw [ZX (by have:=HN.out;simp [Xm];omega)]),Below.refl _ _⟩
set_option maxHeartbeats 400000 in
theorem ZEj (A:Option Addr) (n c:Nat) (left:Int) (w:World) (hm:n≤9223372036854775807) (h0:0≤left) (h1:left≤1048576):
  Calls Tryz.prog 112 #[.slice A n c,.int .i64 left] w (ZdY n left w):=by
 by_cases hlen:(n:Int)≤left
 all_goals
  go_enter Tryz.func112,Tryz.ntmps112
  go_wp2
  go_ret
 ·exact ⟨Yo (by rw [Y8 hlen]),Below.refl _ _⟩
 ·exact ⟨Yo (by rw [ZX (by omega)]),Below.refl _ _⟩
set_option maxHeartbeats 800000 in
theorem Zk1 (cs:List Value) (x:Zc) (L:List Nat) (left:Int) (w:World) (h0:0≤left) (h1:left≤1048576) (h:Y4.rep w cs x L):
  Calls Tryz.prog 31 #[.agg cs.toArray,.int .i64 left] w (ZdY (YP x) left w):=by
 obtain ⟨A1,c1,L1,rfl,_hL,t0,n1,m1,s1⟩:=h
 unfold maxLen at m1
 have S1:=Lib.hid s1
 clear s1
 have B0:Hid (Below w.heap.size w (w.alloc (.cells #[.string x.rel,.slice A1 x.args.length c1] 54))):=(Below.refl _ _).alloc (Nat.le_refl _) _
 have K0:Hid (Blk (w.alloc (.cells #[.string x.rel,.slice A1 x.args.length c1] 54)) w.heap.size 54 #[.string x.rel,.slice A1 x.args.length c1]):=Blk.new _ _ _
 go_enter Tryz.func31,Tryz.ntmps31
 by_cases k1:(x.rel.size:Int)≤left
 rotate_left
 ·go_wp2_with fail
  go_ret
  exact ⟨Yo (by rw [ZX (by simp only [YP];omega)]),B0.out⟩
 go_wp2_with fail
 refine (ZgS A1 _ c1 x.args L1 _ _ rfl (by omega) (by omega) (by omega) (S1.out.below B0.out)).mono ?_
 rintro e w1 ⟨rfl,hb1⟩
 have B1:=Lib.hid (B0.out.trans (hb1.mono B0.out.size))
 have K1:=Lib.hid (K0.out.later hb1)
 have f0:=K1.out.at (i:=0) rfl
 have f1:=K1.out.at (i:=1) rfl
 clear hb1
 by_cases k2:((Xm x.args:Nat):Int)≤left - x.rel.size
 rotate_left
 ·rw [ZX k2]
  go_wp2_with fail
  go_ret
  exact ⟨Yo (by rw [ZX (by simp only [YP];omega)]),B1.out⟩
 rw [Y8 k2]
 go_wp2_with fail
 go_ret
 exact ⟨Yo (by rw [Y8 (by simp only [YP];omega)]<;>simp only [YP]<;>omega),B1.out⟩
set_option maxHeartbeats 800000 in
theorem Zpq (A:Option Addr) (n c:Nat) (ds:List Zc) (L:List Nat) (left:Int) (w:World) (hn:n=ds.length) (hm:n≤9223372036854775807) (h0:0≤left) (h1:left≤1048576) (h:Sli Y4 w A ds L):
  Calls Tryz.prog 10 #[.slice A n c,.int .i64 left] w (ZdY (Yd ds) left w):=by
 have H:=Lib.hid h
 have HN:=Lib.hid hn
 clear h hn
 by_cases hlen:(n:Int)≤left
 ·go_enter Tryz.func10,Tryz.ntmps10
  go_wp2
  go_loopw [1,5] (fun q i wr=>∃(k:Nat) (l:Int),k≤n∧i=.int .i64 k∧q=.int .i64 l∧0≤l∧l≤left∧Hid (Below w.heap.size w wr)∧Hid (szR ((ds.drop k).map YP).sum l=szR (Yd ds) left)) (fun _ i _=>n - (intOf i).toNat)
  case atStart=>exact ⟨0,left - n,Nat.zero_le _,rfl,rfl,by omega,by omega,Below.refl _ _,Lib.hid (by
    have e:=HN.out
    exact Zag _ _ _ _ (by omega) (by simp only [Yd,List.drop_zero];omega))⟩
  case round=>
   obtain ⟨k,l,hk,rfl,rfl,hl0,hl1,HB,HE⟩:=hrel
   by_cases hlt:k<n
   ·have hkl:k<ds.length:=by have:=HN.out;omega
    obtain ⟨b,off,cs,Lk,rfl,hbL,hLk,hrep,hc⟩:=H.out.at_ hkl
    have hbl:b<w.heap.size:=H.out.lt b hbL
    have HR:=Lib.hid (Y4.keep hrep (ZN HB.out (fun y m=>H.out.lt y (hLk y m))))
    obtain ⟨A1,c1,rfl⟩:=Zcc hrep
    have q0:wr.cell? ⟨b,off+k * 2,none⟩=_:=(HB.out.cell (p:=⟨b,off+(k * 2+0),none⟩) hbl).trans (hc 0 _ rfl)
    have q1:wr.cell? ⟨b,off+k * 2+1,none⟩=_:=(HB.out.cell (p:=⟨b,off+(k * 2+1),none⟩) hbl).trans (hc 1 _ rfl)
    have hd:Hid (ds.drop k=ds[k]::ds.drop (k+1)):=List.drop_eq_getElem_cons _
    generalize ds[k]=x at *
    clear hc hrep
    by_cases hs:(YP x:Int)≤l
    ·go_wp2_with (go_at_call 31;refine (Zk1 _ x Lk _ _ (by omega) (by omega) HR.out).mono ?_;rintro e w1 ⟨rfl,hb1⟩;rw [Y8 hs];have HB1:=Lib.hid (HB.out.trans (hb1.mono HB.out.size));clear hb1)
     go_roundw
     case rel=>exact ⟨k+1,l - YP x,by omega,by go_num,rfl,by omega,by omega,HB1.out,Lib.hid (by rw [←HE.out,hd.out];exact Zag _ _ _ _ (by omega) (by simp))⟩
     case measure=>simp [intOf];omega
    ·go_wp2_with (go_at_call 31;refine (Zk1 _ x Lk _ _ (by omega) (by omega) HR.out).mono ?_;rintro e w1 ⟨rfl,hb1⟩;rw [ZX hs];have HB1:=Lib.hid (HB.out.trans (hb1.mono HB.out.size));clear hb1)
     go_ret
     exact ⟨Yo (by rw [←HE.out,hd.out,ZX (by simp;omega)]),HB1.out⟩
   ·go_wp2
    go_ret
    exact ⟨Yo (by rw [←HE.out,List.drop_of_length_le (by have:=HN.out;omega)];simp [szR,hl0]),HB.out⟩
 ·go_enter Tryz.func10,Tryz.ntmps10
  go_wp2
  go_ret
  exact ⟨Yo (by rw [ZX (by have:=HN.out;simp only [Yd];omega)]),Below.refl _ _⟩
set_option maxHeartbeats 800000 in
theorem ZgE (cs:List Value) (x:Zv) (L:List Nat) (left:Int) (w:World) (h0:0≤left) (h1:left≤1048576) (h:ZcY.rep w cs x L):
  Calls Tryz.prog 25 #[.agg cs.toArray,.int .i64 left] w (ZdY (Z5 x) left w):=by
 obtain ⟨A1,c1,L1,rfl,_hL,t0,n1,m1,s1⟩:=h
 unfold maxLen at m1
 have S1:=Lib.hid s1
 clear s1
 have B0:Hid (Below w.heap.size w (w.alloc (.cells #[.string x.rel,.slice A1 x.args.length c1] 46))):=(Below.refl _ _).alloc (Nat.le_refl _) _
 have K0:Hid (Blk (w.alloc (.cells #[.string x.rel,.slice A1 x.args.length c1] 46)) w.heap.size 46 #[.string x.rel,.slice A1 x.args.length c1]):=Blk.new _ _ _
 go_enter Tryz.func25,Tryz.ntmps25
 by_cases k1:(x.rel.size:Int)≤left
 rotate_left
 ·go_wp2_with fail
  go_ret
  exact ⟨Yo (by rw [ZX (by simp only [Z5];omega)]),B0.out⟩
 go_wp2_with fail
 refine (ZgS A1 _ c1 x.args L1 _ _ rfl (by omega) (by omega) (by omega) (S1.out.below B0.out)).mono ?_
 rintro e w1 ⟨rfl,hb1⟩
 have B1:=Lib.hid (B0.out.trans (hb1.mono B0.out.size))
 have K1:=Lib.hid (K0.out.later hb1)
 have f0:=K1.out.at (i:=0) rfl
 have f1:=K1.out.at (i:=1) rfl
 clear hb1
 by_cases k2:((Xm x.args:Nat):Int)≤left - x.rel.size
 rotate_left
 ·rw [ZX k2]
  go_wp2_with fail
  go_ret
  exact ⟨Yo (by rw [ZX (by simp only [Z5];omega)]),B1.out⟩
 rw [Y8 k2]
 go_wp2_with fail
 go_ret
 exact ⟨Yo (by rw [Y8 (by simp only [Z5];omega)]<;>simp only [Z5]<;>omega),B1.out⟩
set_option maxHeartbeats 800000 in
theorem Zkc (cs:List Value) (x:Zm) (L:List Nat) (left:Int) (w:World) (h0:0≤left) (h1:left≤1048576) (h:XV.rep w cs x L):
  Calls Tryz.prog 121 #[.agg cs.toArray,.int .i64 left] w (ZdY (YO x) left w):=by
 obtain ⟨A1,c1,L1,rfl,_hL,t0,t1,t2,n1,m1,s1⟩:=h
 unfold maxLen at m1
 have S1:=Lib.hid s1
 clear s1
 have B0:Hid (Below w.heap.size w (w.alloc (.cells #[.int .i64 x.kind,.string x.pattern.rel,.slice A1 x.pattern.args.length c1,.string x.left,.string x.right] 158))):=(Below.refl _ _).alloc (Nat.le_refl _) _
 have K0:Hid (Blk (w.alloc (.cells #[.int .i64 x.kind,.string x.pattern.rel,.slice A1 x.pattern.args.length c1,.string x.left,.string x.right] 158)) w.heap.size 158 #[.int .i64 x.kind,.string x.pattern.rel,.slice A1 x.pattern.args.length c1,.string x.left,.string x.right]):=Blk.new _ _ _
 go_enter Tryz.func121,Tryz.ntmps121
 go_wp2_with fail
 refine (ZgE [.string x.pattern.rel,.slice A1 x.pattern.args.length c1] x.pattern _ _ _ (by omega) (by omega) ⟨A1,c1,L1,rfl,rfl,t0,n1,(by unfold maxLen;omega),S1.out.below B0.out⟩).mono ?_
 rintro e w1 ⟨rfl,hb1⟩
 have B1:=Lib.hid (B0.out.trans (hb1.mono B0.out.size))
 have K1:=Lib.hid (K0.out.later hb1)
 have f0:=K1.out.at (i:=0) rfl
 have f1:=K1.out.at (i:=1) rfl
 have f2:=K1.out.at (i:=2) rfl
 have f3:=K1.out.at (i:=3) rfl
 have f4:=K1.out.at (i:=4) rfl
 clear hb1
 by_cases k1:((Z5 x.pattern:Nat):Int)≤left
 rotate_left
 ·rw [ZX k1]
  go_wp2_with fail
  go_ret
  exact ⟨Yo (by rw [ZX (by simp only [YO];omega)]),B1.out⟩
 rw [Y8 k1]
 by_cases k2:(x.left.size:Int)≤left - (Z5 x.pattern:Nat)
 rotate_left
 ·go_wp2_with fail
  go_ret
  exact ⟨Yo (by rw [ZX (by simp only [YO];omega)]),B1.out⟩
 by_cases k3:(x.right.size:Int)≤left - (Z5 x.pattern:Nat) - x.left.size
 rotate_left
 ·go_wp2_with fail
  go_ret
  exact ⟨Yo (by rw [ZX (by simp only [YO];omega)]),B1.out⟩
 go_wp2_with fail
 go_ret
 exact ⟨Yo (by rw [Y8 (by simp only [YO];omega)]<;>simp only [YO]<;>omega),B1.out⟩
set_option maxHeartbeats 800000 in
theorem Zoh (A:Option Addr) (n c:Nat) (ds:List Zm) (L:List Nat) (left:Int) (w:World) (hn:n=ds.length) (hm:n≤9223372036854775807) (h0:0≤left) (h1:left≤1048576) (h:Sli XV w A ds L):
  Calls Tryz.prog 77 #[.slice A n c,.int .i64 left] w (ZdY (YA ds) left w):=by
 have H:=Lib.hid h
 have HN:=Lib.hid hn
 clear h hn
 by_cases hlen:(n:Int)≤left
 ·go_enter Tryz.func77,Tryz.ntmps77
  go_wp2
  go_loopw [1,5] (fun q i wr=>∃(k:Nat) (l:Int),k≤n∧i=.int .i64 k∧q=.int .i64 l∧0≤l∧l≤left∧Hid (Below w.heap.size w wr)∧Hid (szR ((ds.drop k).map YO).sum l=szR (YA ds) left)) (fun _ i _=>n - (intOf i).toNat)
  case atStart=>exact ⟨0,left - n,Nat.zero_le _,rfl,rfl,by omega,by omega,Below.refl _ _,Lib.hid (by
    have e:=HN.out
    exact Zag _ _ _ _ (by omega) (by simp only [YA,List.drop_zero];omega))⟩
  case round=>
   obtain ⟨k,l,hk,rfl,rfl,hl0,hl1,HB,HE⟩:=hrel
   by_cases hlt:k<n
   ·have hkl:k<ds.length:=by have:=HN.out;omega
    obtain ⟨b,off,cs,Lk,rfl,hbL,hLk,hrep,hc⟩:=H.out.at_ hkl
    have hbl:b<w.heap.size:=H.out.lt b hbL
    have HR:=Lib.hid (XV.keep hrep (ZN HB.out (fun y m=>H.out.lt y (hLk y m))))
    obtain ⟨A1,c1,rfl⟩:=Zcb hrep
    have q0:wr.cell? ⟨b,off+k * 5,none⟩=_:=(HB.out.cell (p:=⟨b,off+(k * 5+0),none⟩) hbl).trans (hc 0 _ rfl)
    have q1:wr.cell? ⟨b,off+k * 5+1,none⟩=_:=(HB.out.cell (p:=⟨b,off+(k * 5+1),none⟩) hbl).trans (hc 1 _ rfl)
    have q2:wr.cell? ⟨b,off+k * 5+2,none⟩=_:=(HB.out.cell (p:=⟨b,off+(k * 5+2),none⟩) hbl).trans (hc 2 _ rfl)
    have q3:wr.cell? ⟨b,off+k * 5+3,none⟩=_:=(HB.out.cell (p:=⟨b,off+(k * 5+3),none⟩) hbl).trans (hc 3 _ rfl)
    have q4:wr.cell? ⟨b,off+k * 5+4,none⟩=_:=(HB.out.cell (p:=⟨b,off+(k * 5+4),none⟩) hbl).trans (hc 4 _ rfl)
    have hd:Hid (ds.drop k=ds[k]::ds.drop (k+1)):=List.drop_eq_getElem_cons _
    generalize ds[k]=x at *
    clear hc hrep
    by_cases hs:(YO x:Int)≤l
    ·go_wp2_with (go_at_call 121;refine (Zkc _ x Lk _ _ (by omega) (by omega) HR.out).mono ?_;rintro e w1 ⟨rfl,hb1⟩;rw [Y8 hs];have HB1:=Lib.hid (HB.out.trans (hb1.mono HB.out.size));clear hb1)
     go_roundw
     case rel=>exact ⟨k+1,l - YO x,by omega,by go_num,rfl,by omega,by omega,HB1.out,Lib.hid (by rw [←HE.out,hd.out];exact Zag _ _ _ _ (by omega) (by simp))⟩
     case measure=>simp [intOf];omega
    ·go_wp2_with (go_at_call 121;refine (Zkc _ x Lk _ _ (by omega) (by omega) HR.out).mono ?_;rintro e w1 ⟨rfl,hb1⟩;rw [ZX hs];have HB1:=Lib.hid (HB.out.trans (hb1.mono HB.out.size));clear hb1)
     go_ret
     exact ⟨Yo (by rw [←HE.out,hd.out,ZX (by simp;omega)]),HB1.out⟩
   ·go_wp2
    go_ret
    exact ⟨Yo (by rw [←HE.out,List.drop_of_length_le (by have:=HN.out;omega)];simp [szR,hl0]),HB.out⟩
 ·go_enter Tryz.func77,Tryz.ntmps77
  go_wp2
  go_ret
  exact ⟨Yo (by rw [ZX (by have:=HN.out;simp only [YA];omega)]),Below.refl _ _⟩
set_option maxHeartbeats 800000 in
theorem ZhD (cs:List Value) (x:Zr) (L:List Nat) (left:Int) (w:World) (h0:0≤left) (h1:left≤1048576) (h:Yk.rep w cs x L):
  Calls Tryz.prog 122 #[.agg cs.toArray,.int .i64 left] w (ZdY (Yl x) left w):=by
 obtain ⟨A1,c1,L1,rfl,_hL,t0,n1,m1,s1⟩:=h
 unfold maxLen at m1
 have S1:=Lib.hid s1
 clear s1
 have B0:Hid (Below w.heap.size w (w.alloc (.cells #[.int .i64 x.kind,.string x.pattern.rel,.slice A1 x.pattern.args.length c1] 161))):=(Below.refl _ _).alloc (Nat.le_refl _) _
 have K0:Hid (Blk (w.alloc (.cells #[.int .i64 x.kind,.string x.pattern.rel,.slice A1 x.pattern.args.length c1] 161)) w.heap.size 161 #[.int .i64 x.kind,.string x.pattern.rel,.slice A1 x.pattern.args.length c1]):=Blk.new _ _ _
 go_enter Tryz.func122,Tryz.ntmps122
 go_wp2_with fail
 refine (ZgE [.string x.pattern.rel,.slice A1 x.pattern.args.length c1] x.pattern _ _ _ (by omega) (by omega) ⟨A1,c1,L1,rfl,rfl,t0,n1,(by unfold maxLen;omega),S1.out.below B0.out⟩).mono ?_
 rintro e w1 ⟨rfl,hb1⟩
 have B1:=Lib.hid (B0.out.trans (hb1.mono B0.out.size))
 have K1:=Lib.hid (K0.out.later hb1)
 have f0:=K1.out.at (i:=0) rfl
 have f1:=K1.out.at (i:=1) rfl
 have f2:=K1.out.at (i:=2) rfl
 clear hb1
 by_cases k1:((Z5 x.pattern:Nat):Int)≤left
 rotate_left
 ·rw [ZX k1]
  go_wp2_with fail
  go_ret
  exact ⟨Yo (by rw [ZX (by simp only [Yl];omega)]),B1.out⟩
 rw [Y8 k1]
 go_wp2_with fail
 go_ret
 exact ⟨Yo (by rw [Y8 (by simp only [Yl];omega)]<;>simp only [Yl]<;>omega),B1.out⟩
set_option maxHeartbeats 800000 in
theorem ZlD (A:Option Addr) (n c:Nat) (ds:List Zr) (L:List Nat) (left:Int) (w:World) (hn:n=ds.length) (hm:n≤9223372036854775807) (h0:0≤left) (h1:left≤1048576) (h:Sli Yk w A ds L):
  Calls Tryz.prog 78 #[.slice A n c,.int .i64 left] w (ZdY (Yg ds) left w):=by
 have H:=Lib.hid h
 have HN:=Lib.hid hn
 clear h hn
 by_cases hlen:(n:Int)≤left
 ·go_enter Tryz.func78,Tryz.ntmps78
  go_wp2
  go_loopw [1,5] (fun q i wr=>∃(k:Nat) (l:Int),k≤n∧i=.int .i64 k∧q=.int .i64 l∧0≤l∧l≤left∧Hid (Below w.heap.size w wr)∧Hid (szR ((ds.drop k).map Yl).sum l=szR (Yg ds) left)) (fun _ i _=>n - (intOf i).toNat)
  case atStart=>exact ⟨0,left - n,Nat.zero_le _,rfl,rfl,by omega,by omega,Below.refl _ _,Lib.hid (by
    have e:=HN.out
    exact Zag _ _ _ _ (by omega) (by simp only [Yg,List.drop_zero];omega))⟩
  case round=>
   obtain ⟨k,l,hk,rfl,rfl,hl0,hl1,HB,HE⟩:=hrel
   by_cases hlt:k<n
   ·have hkl:k<ds.length:=by have:=HN.out;omega
    obtain ⟨b,off,cs,Lk,rfl,hbL,hLk,hrep,hc⟩:=H.out.at_ hkl
    have hbl:b<w.heap.size:=H.out.lt b hbL
    have HR:=Lib.hid (Yk.keep hrep (ZN HB.out (fun y m=>H.out.lt y (hLk y m))))
    obtain ⟨A1,c1,rfl⟩:=Q9 hrep
    have q0:wr.cell? ⟨b,off+k * 3,none⟩=_:=(HB.out.cell (p:=⟨b,off+(k * 3+0),none⟩) hbl).trans (hc 0 _ rfl)
    have q1:wr.cell? ⟨b,off+k * 3+1,none⟩=_:=(HB.out.cell (p:=⟨b,off+(k * 3+1),none⟩) hbl).trans (hc 1 _ rfl)
    have q2:wr.cell? ⟨b,off+k * 3+2,none⟩=_:=(HB.out.cell (p:=⟨b,off+(k * 3+2),none⟩) hbl).trans (hc 2 _ rfl)
    have hd:Hid (ds.drop k=ds[k]::ds.drop (k+1)):=List.drop_eq_getElem_cons _
    generalize ds[k]=x at *
    clear hc hrep
    by_cases hs:(Yl x:Int)≤l
    ·go_wp2_with (go_at_call 122;refine (ZhD _ x Lk _ _ (by omega) (by omega) HR.out).mono ?_;rintro e w1 ⟨rfl,hb1⟩;rw [Y8 hs];have HB1:=Lib.hid (HB.out.trans (hb1.mono HB.out.size));clear hb1)
     go_roundw
     case rel=>exact ⟨k+1,l - Yl x,by omega,by go_num,rfl,by omega,by omega,HB1.out,Lib.hid (by rw [←HE.out,hd.out];exact Zag _ _ _ _ (by omega) (by simp))⟩
     case measure=>simp [intOf];omega
    ·go_wp2_with (go_at_call 122;refine (ZhD _ x Lk _ _ (by omega) (by omega) HR.out).mono ?_;rintro e w1 ⟨rfl,hb1⟩;rw [ZX hs];have HB1:=Lib.hid (HB.out.trans (hb1.mono HB.out.size));clear hb1)
     go_ret
     exact ⟨Yo (by rw [←HE.out,hd.out,ZX (by simp;omega)]),HB1.out⟩
   ·go_wp2
    go_ret
    exact ⟨Yo (by rw [←HE.out,List.drop_of_length_le (by have:=HN.out;omega)];simp [szR,hl0]),HB.out⟩
 ·go_enter Tryz.func78,Tryz.ntmps78
  go_wp2
  go_ret
  exact ⟨Yo (by rw [ZX (by have:=HN.out;simp only [Yg];omega)]),Below.refl _ _⟩
set_option maxHeartbeats 800000 in
theorem Zj3 (cs:List Value) (x:Zf) (L:List Nat) (left:Int) (w:World) (h0:0≤left) (h1:left≤1048576) (h:XU.rep w cs x L):
  Calls Tryz.prog 44 #[.agg cs.toArray,.int .i64 left] w (ZdY (Yq x) left w):=by
 obtain ⟨A1,c1,L1,A2,c2,L2,rfl,_hL,t0,n1,m1,s1,n2,m2,s2⟩:=h
 unfold maxLen at m1 m2
 have S1:=Lib.hid s1
 clear s1
 have S2:=Lib.hid s2
 clear s2
 have B0:Hid (Below w.heap.size w (w.alloc (.cells #[.string x.name,.int .i64 x.priority,.slice A1 x.cond.length c1,.slice A2 x.thn.length c2] 75))):=(Below.refl _ _).alloc (Nat.le_refl _) _
 have K0:Hid (Blk (w.alloc (.cells #[.string x.name,.int .i64 x.priority,.slice A1 x.cond.length c1,.slice A2 x.thn.length c2] 75)) w.heap.size 75 #[.string x.name,.int .i64 x.priority,.slice A1 x.cond.length c1,.slice A2 x.thn.length c2]):=Blk.new _ _ _
 go_enter Tryz.func44,Tryz.ntmps44
 by_cases k1:(x.name.size:Int)≤left
 rotate_left
 ·go_wp2_with fail
  go_ret
  exact ⟨Yo (by rw [ZX (by simp only [Yq];omega)]),B0.out⟩
 go_wp2_with fail
 refine (Zoh A1 _ c1 x.cond L1 _ _ rfl (by omega) (by omega) (by omega) (S1.out.below B0.out)).mono ?_
 rintro e w1 ⟨rfl,hb1⟩
 have B1:=Lib.hid (B0.out.trans (hb1.mono B0.out.size))
 have K1:=Lib.hid (K0.out.later hb1)
 have f0:=K1.out.at (i:=0) rfl
 have f1:=K1.out.at (i:=1) rfl
 have f2:=K1.out.at (i:=2) rfl
 have f3:=K1.out.at (i:=3) rfl
 clear hb1
 by_cases k2:((YA x.cond:Nat):Int)≤left - x.name.size
 rotate_left
 ·rw [ZX k2]
  go_wp2_with fail
  go_ret
  exact ⟨Yo (by rw [ZX (by simp only [Yq];omega)]),B1.out⟩
 rw [Y8 k2]
 go_wp2_with fail
 refine (ZlD A2 _ c2 x.thn L2 _ _ rfl (by omega) (by omega) (by omega) (S2.out.below B1.out)).mono ?_
 rintro e w2 ⟨rfl,hb2⟩
 have B2:=Lib.hid (B1.out.trans (hb2.mono B1.out.size))
 have K2:=Lib.hid (K1.out.later hb2)
 clear f0 f1 f2 f3
 have f0:=K2.out.at (i:=0) rfl
 have f1:=K2.out.at (i:=1) rfl
 have f2:=K2.out.at (i:=2) rfl
 have f3:=K2.out.at (i:=3) rfl
 clear hb2
 by_cases k3:((Yg x.thn:Nat):Int)≤left - x.name.size - (YA x.cond:Nat)
 rotate_left
 ·rw [ZX k3]
  go_wp2_with fail
  go_ret
  exact ⟨Yo (by rw [ZX (by simp only [Yq];omega)]),B2.out⟩
 rw [Y8 k3]
 go_wp2_with fail
 go_ret
 exact ⟨Yo (by rw [Y8 (by simp only [Yq];omega)]<;>simp only [Yq]<;>omega),B2.out⟩
set_option maxHeartbeats 800000 in
theorem Zn6 (A:Option Addr) (n c:Nat) (ds:List Zf) (L:List Nat) (left:Int) (w:World) (hn:n=ds.length) (hm:n≤9223372036854775807) (h0:0≤left) (h1:left≤1048576) (h:Sli XU w A ds L):
  Calls Tryz.prog 9 #[.slice A n c,.int .i64 left] w (ZdY (Yj ds) left w):=by
 have H:=Lib.hid h
 have HN:=Lib.hid hn
 clear h hn
 by_cases hlen:(n:Int)≤left
 ·go_enter Tryz.func9,Tryz.ntmps9
  go_wp2
  go_loopw [1,5] (fun q i wr=>∃(k:Nat) (l:Int),k≤n∧i=.int .i64 k∧q=.int .i64 l∧0≤l∧l≤left∧Hid (Below w.heap.size w wr)∧Hid (szR ((ds.drop k).map Yq).sum l=szR (Yj ds) left)) (fun _ i _=>n - (intOf i).toNat)
  case atStart=>exact ⟨0,left - n,Nat.zero_le _,rfl,rfl,by omega,by omega,Below.refl _ _,Lib.hid (by
    have e:=HN.out
    exact Zag _ _ _ _ (by omega) (by simp only [Yj,List.drop_zero];omega))⟩
  case round=>
   obtain ⟨k,l,hk,rfl,rfl,hl0,hl1,HB,HE⟩:=hrel
   by_cases hlt:k<n
   ·have hkl:k<ds.length:=by have:=HN.out;omega
    obtain ⟨b,off,cs,Lk,rfl,hbL,hLk,hrep,hc⟩:=H.out.at_ hkl
    have hbl:b<w.heap.size:=H.out.lt b hbL
    have HR:=Lib.hid (XU.keep hrep (ZN HB.out (fun y m=>H.out.lt y (hLk y m))))
    obtain ⟨A1,c1,A2,c2,rfl⟩:=Zb5 hrep
    have q0:wr.cell? ⟨b,off+k * 4,none⟩=_:=(HB.out.cell (p:=⟨b,off+(k * 4+0),none⟩) hbl).trans (hc 0 _ rfl)
    have q1:wr.cell? ⟨b,off+k * 4+1,none⟩=_:=(HB.out.cell (p:=⟨b,off+(k * 4+1),none⟩) hbl).trans (hc 1 _ rfl)
    have q2:wr.cell? ⟨b,off+k * 4+2,none⟩=_:=(HB.out.cell (p:=⟨b,off+(k * 4+2),none⟩) hbl).trans (hc 2 _ rfl)
    have q3:wr.cell? ⟨b,off+k * 4+3,none⟩=_:=(HB.out.cell (p:=⟨b,off+(k * 4+3),none⟩) hbl).trans (hc 3 _ rfl)
    have hd:Hid (ds.drop k=ds[k]::ds.drop (k+1)):=List.drop_eq_getElem_cons _
    generalize ds[k]=x at *
    clear hc hrep
    by_cases hs:(Yq x:Int)≤l
    ·go_wp2_with (go_at_call 44;refine (Zj3 _ x Lk _ _ (by omega) (by omega) HR.out).mono ?_;rintro e w1 ⟨rfl,hb1⟩;rw [Y8 hs];have HB1:=Lib.hid (HB.out.trans (hb1.mono HB.out.size));clear hb1)
     go_roundw
     case rel=>exact ⟨k+1,l - Yq x,by omega,by go_num,rfl,by omega,by omega,HB1.out,Lib.hid (by rw [←HE.out,hd.out];exact Zag _ _ _ _ (by omega) (by simp))⟩
     case measure=>simp [intOf];omega
    ·go_wp2_with (go_at_call 44;refine (Zj3 _ x Lk _ _ (by omega) (by omega) HR.out).mono ?_;rintro e w1 ⟨rfl,hb1⟩;rw [ZX hs];have HB1:=Lib.hid (HB.out.trans (hb1.mono HB.out.size));clear hb1)
     go_ret
     exact ⟨Yo (by rw [←HE.out,hd.out,ZX (by simp;omega)]),HB1.out⟩
   ·go_wp2
    go_ret
    exact ⟨Yo (by rw [←HE.out,List.drop_of_length_le (by have:=HN.out;omega)];simp [szR,hl0]),HB.out⟩
 ·go_enter Tryz.func9,Tryz.ntmps9
  go_wp2
  go_ret
  exact ⟨Yo (by rw [ZX (by have:=HN.out;simp only [Yj];omega)]),Below.refl _ _⟩
set_option maxHeartbeats 800000 in
theorem ZDW (cs:List Value) (x:Zuw) (L:List Nat) (left:Int) (w:World) (h0:0≤left) (h1:left≤1048576) (h:ZDz.rep w cs x L):
  Calls Tryz.prog 70 #[.agg cs.toArray,.int .i64 left] w (ZdY (Q0 x) left w):=by
 obtain ⟨A1,c1,L1,A2,c2,L2,rfl,_hL,t0,t1,n1,m1,s1,n2,m2,s2⟩:=h
 unfold maxLen at m1 m2
 have S1:=Lib.hid s1
 clear s1
 have S2:=Lib.hid s2
 clear s2
 have B0:Hid (Below w.heap.size w (w.alloc (.cells #[.string x.fact.rel,.slice A1 x.fact.args.length c1,.string x.rule,.slice A2 x.uses.length c2] 104))):=(Below.refl _ _).alloc (Nat.le_refl _) _
 have K0:Hid (Blk (w.alloc (.cells #[.string x.fact.rel,.slice A1 x.fact.args.length c1,.string x.rule,.slice A2 x.uses.length c2] 104)) w.heap.size 104 #[.string x.fact.rel,.slice A1 x.fact.args.length c1,.string x.rule,.slice A2 x.uses.length c2]):=Blk.new _ _ _
 go_enter Tryz.func70,Tryz.ntmps70
 go_wp2_with fail
 refine (Zk1 [.string x.fact.rel,.slice A1 x.fact.args.length c1] x.fact _ _ _ (by omega) (by omega) ⟨A1,c1,L1,rfl,rfl,t0,n1,(by unfold maxLen;omega),S1.out.below B0.out⟩).mono ?_
 rintro e w1 ⟨rfl,hb1⟩
 have B1:=Lib.hid (B0.out.trans (hb1.mono B0.out.size))
 have K1:=Lib.hid (K0.out.later hb1)
 have f0:=K1.out.at (i:=0) rfl
 have f1:=K1.out.at (i:=1) rfl
 have f2:=K1.out.at (i:=2) rfl
 have f3:=K1.out.at (i:=3) rfl
 clear hb1
 by_cases k1:((YP x.fact:Nat):Int)≤left
 rotate_left
 ·rw [ZX k1]
  go_wp2_with fail
  go_ret
  exact ⟨Yo (by rw [ZX (by simp only [Q0];omega)]),B1.out⟩
 rw [Y8 k1]
 by_cases k2:(x.rule.size:Int)≤left - (YP x.fact:Nat)
 rotate_left
 ·go_wp2_with fail
  go_ret
  exact ⟨Yo (by rw [ZX (by simp only [Q0];omega)]),B1.out⟩
 go_wp2_with fail
 refine (ZEj A2 _ c2 _ _ (by omega) (by omega) (by omega)).mono ?_
 rintro e w2 ⟨rfl,hb2⟩
 have B2:=Lib.hid (B1.out.trans (hb2.mono B1.out.size))
 have K2:=Lib.hid (K1.out.later hb2)
 clear f0 f1 f2 f3
 have f0:=K2.out.at (i:=0) rfl
 have f1:=K2.out.at (i:=1) rfl
 have f2:=K2.out.at (i:=2) rfl
 have f3:=K2.out.at (i:=3) rfl
 clear hb2
 by_cases k3:((x.uses.length:Nat):Int)≤left - (YP x.fact:Nat) - x.rule.size
 rotate_left
 ·rw [ZX k3]
  go_wp2_with fail
  go_ret
  exact ⟨Yo (by rw [ZX (by simp only [Q0];omega)]),B2.out⟩
 rw [Y8 k3]
 go_wp2_with fail
 go_ret
 exact ⟨Yo (by rw [Y8 (by simp only [Q0];omega)]<;>simp only [Q0]<;>omega),B2.out⟩
set_option maxHeartbeats 800000 in
theorem ZEe (A:Option Addr) (n c:Nat) (ds:List Zuw) (L:List Nat) (left:Int) (w:World) (hn:n=ds.length) (hm:n≤9223372036854775807) (h0:0≤left) (h1:left≤1048576) (h:Sli ZDz w A ds L):
  Calls Tryz.prog 37 #[.slice A n c,.int .i64 left] w (ZdY (Q1 ds) left w):=by
 have H:=Lib.hid h
 have HN:=Lib.hid hn
 clear h hn
 by_cases hlen:(n:Int)≤left
 ·go_enter Tryz.func37,Tryz.ntmps37
  go_wp2
  go_loopw [1,5] (fun q i wr=>∃(k:Nat) (l:Int),k≤n∧i=.int .i64 k∧q=.int .i64 l∧0≤l∧l≤left∧Hid (Below w.heap.size w wr)∧Hid (szR ((ds.drop k).map Q0).sum l=szR (Q1 ds) left)) (fun _ i _=>n - (intOf i).toNat)
  case atStart=>exact ⟨0,left - n,Nat.zero_le _,rfl,rfl,by omega,by omega,Below.refl _ _,Lib.hid (by
    have e:=HN.out
    exact Zag _ _ _ _ (by omega) (by simp only [Q1,List.drop_zero];omega))⟩
  case round=>
   obtain ⟨k,l,hk,rfl,rfl,hl0,hl1,HB,HE⟩:=hrel
   by_cases hlt:k<n
   ·have hkl:k<ds.length:=by have:=HN.out;omega
    obtain ⟨b,off,cs,Lk,rfl,hbL,hLk,hrep,hc⟩:=H.out.at_ hkl
    have hbl:b<w.heap.size:=H.out.lt b hbL
    have HR:=Lib.hid (ZDz.keep hrep (ZN HB.out (fun y m=>H.out.lt y (hLk y m))))
    obtain ⟨A1,c1,A2,c2,rfl⟩:=ZDC hrep
    have q0:wr.cell? ⟨b,off+k * 4,none⟩=_:=(HB.out.cell (p:=⟨b,off+(k * 4+0),none⟩) hbl).trans (hc 0 _ rfl)
    have q1:wr.cell? ⟨b,off+k * 4+1,none⟩=_:=(HB.out.cell (p:=⟨b,off+(k * 4+1),none⟩) hbl).trans (hc 1 _ rfl)
    have q2:wr.cell? ⟨b,off+k * 4+2,none⟩=_:=(HB.out.cell (p:=⟨b,off+(k * 4+2),none⟩) hbl).trans (hc 2 _ rfl)
    have q3:wr.cell? ⟨b,off+k * 4+3,none⟩=_:=(HB.out.cell (p:=⟨b,off+(k * 4+3),none⟩) hbl).trans (hc 3 _ rfl)
    have hd:Hid (ds.drop k=ds[k]::ds.drop (k+1)):=List.drop_eq_getElem_cons _
    generalize ds[k]=x at *
    clear hc hrep
    by_cases hs:(Q0 x:Int)≤l
    ·go_wp2_with (go_at_call 70;refine (ZDW _ x Lk _ _ (by omega) (by omega) HR.out).mono ?_;rintro e w1 ⟨rfl,hb1⟩;rw [Y8 hs];have HB1:=Lib.hid (HB.out.trans (hb1.mono HB.out.size));clear hb1)
     go_roundw
     case rel=>exact ⟨k+1,l - Q0 x,by omega,by go_num,rfl,by omega,by omega,HB1.out,Lib.hid (by rw [←HE.out,hd.out];exact Zag _ _ _ _ (by omega) (by simp))⟩
     case measure=>simp [intOf];omega
    ·go_wp2_with (go_at_call 70;refine (ZDW _ x Lk _ _ (by omega) (by omega) HR.out).mono ?_;rintro e w1 ⟨rfl,hb1⟩;rw [ZX hs];have HB1:=Lib.hid (HB.out.trans (hb1.mono HB.out.size));clear hb1)
     go_ret
     exact ⟨Yo (by rw [←HE.out,hd.out,ZX (by simp;omega)]),HB1.out⟩
   ·go_wp2
    go_ret
    exact ⟨Yo (by rw [←HE.out,List.drop_of_length_le (by have:=HN.out;omega)];simp [szR,hl0]),HB.out⟩
 ·go_enter Tryz.func37,Tryz.ntmps37
  go_wp2
  go_ret
  exact ⟨Yo (by rw [ZX (by have:=HN.out;simp only [Q1];omega)]),Below.refl _ _⟩
end Go.Proofs.YtojnhepgnbhaaaaGreatDoor
namespace Go.Proofs.YtojnhepgnbhaaaaGreatDoor
open Go.RowKit
theorem Tryz.infoString_:(Tryz.prog.info? 9).map (fun i=>(i.zero,i.size,i.bytes))=some (some (.string ⟨#[]⟩),1,16):=by kernel_rfl
set_option maxHeartbeats 1600000 in
theorem ZgH (A:Option Addr) (n c:Nat) (ds:List ByteArray) (L:List Nat) (w:World) (hn:n=ds.length) (hm:ds.length≤1099511627776) (h:Sli Zbm w A ds L):
  Calls Tryz.prog 62 #[.slice A n c] w (Zkp Zbm 9 w ds):=by
 obtain ⟨i0,hi,hz0,hz1,hz2⟩:=info_parts Tryz.infoString_
 rw [←hn] at hm
 have H:=Lib.hid h
 have HN:=Lib.hid hn
 clear h hn
 go_enter Tryz.func62,Tryz.ntmps62
 go_wp2_with (at_make;refine wpList_make_full _ rfl _ _ 44 rfl w.heap.size 9 i0 _ 1 Tryz.underlying44 hi hz0 hz1 .i64 .i64 _ _ n rfl rfl rfl rfl (by rw [hz2];omega) (by unfold maxLen;omega) (Nat.le_refl _) ?_;intro w1 hown hg)
 have hb:Below w.heap.size w w1:=(Below.refl _ _).grown hg (Nat.le_refl _) (by simp)
 have HF0:Hid (Z9 Zbm 9 w n ds 0 w1):=Z9.start hown hb
 clear hown hg hb
 go_wp2
 go_loopw [4] (fun i wr=>∃(k:Nat),k≤n∧i=.int .i64 k∧Hid (Z9 Zbm 9 w n ds k wr)) (fun i _=>n - (intOf i).toNat)
 case atStart=>exact ⟨0,Nat.zero_le _,rfl,HF0⟩
 case round=>
  obtain ⟨k,hk,rfl,HF⟩:=hrel
  by_cases hlt:k<n
  ·have hkl:k<ds.length:=by have:=HN.out;omega
   obtain ⟨b,off,cs,Lk,rfl,hbL,hLk,hrep,hc⟩:=H.out.at_ hkl
   have hbl:b<w.heap.size:=H.out.lt b hbL
   have hrep0:=hrep
   obtain ⟨rfl,_,hss⟩:=hrep0
   have q0:=(HF.out.below.cell (p:=⟨b,off+(k * Zbm.size+0),none⟩) hbl).trans (hc 0 _ rfl)
   have HS:=Lib.hid (HF.out.store (w2:=wr) (x:=ds[k]) (M:=[]) hlt HN.out (fun _=>rfl) (Below.refl _ _) ⟨⟨rfl,rfl,hss⟩,Own.nil _ _⟩)
   obtain ⟨d0,e0⟩:=HF.out.cell hlt (j:=0) (by decide)
   have z0:=HF.out.frozen k
   simp only [show Zbm.size=1 from rfl,Nat.mul_one,Nat.add_zero] at q0 HS e0
   generalize ds[k]=x at *
   clear hc hrep
   go_wp2_with fail
   go_roundw
   case rel=>exact ⟨k+1,by omega,by go_num,HS.out⟩
   case measure=>simp [intOf];omega
  ·obtain rfl:k=n:=by omega
   go_wp2
   go_ret
   exact ⟨_,rfl,HF.out.done HN.out⟩
theorem Tryz.infoInt_:(Tryz.prog.info? 3).map (fun i=>(i.zero,i.size,i.bytes))=some (some (.int .i64 0),1,8):=by kernel_rfl
set_option maxHeartbeats 1600000 in
theorem ZEh (A:Option Addr) (n c:Nat) (ds:List Int) (L:List Nat) (w:World) (hn:n=ds.length) (hm:ds.length≤1099511627776) (h:Sli Zgq w A ds L):
  Calls Tryz.prog 117 #[.slice A n c] w (Zkp Zgq 3 w ds):=by
 obtain ⟨i0,hi,hz0,hz1,hz2⟩:=info_parts Tryz.infoInt_
 rw [←hn] at hm
 have H:=Lib.hid h
 have HN:=Lib.hid hn
 clear h hn
 go_enter Tryz.func117,Tryz.ntmps117
 go_wp2_with (at_make;refine wpList_make_full _ rfl _ _ 101 rfl w.heap.size 3 i0 _ 1 Tryz.underlying101 hi hz0 hz1 .i64 .i64 _ _ n rfl rfl rfl rfl (by rw [hz2];omega) (by unfold maxLen;omega) (Nat.le_refl _) ?_;intro w1 hown hg)
 have hb:Below w.heap.size w w1:=(Below.refl _ _).grown hg (Nat.le_refl _) (by simp)
 have HF0:Hid (Z9 Zgq 3 w n ds 0 w1):=Z9.start hown hb
 clear hown hg hb
 go_wp2
 go_loopw [4] (fun i wr=>∃(k:Nat),k≤n∧i=.int .i64 k∧Hid (Z9 Zgq 3 w n ds k wr)) (fun i _=>n - (intOf i).toNat)
 case atStart=>exact ⟨0,Nat.zero_le _,rfl,HF0⟩
 case round=>
  obtain ⟨k,hk,rfl,HF⟩:=hrel
  by_cases hlt:k<n
  ·have hkl:k<ds.length:=by have:=HN.out;omega
   obtain ⟨b,off,cs,Lk,rfl,hbL,hLk,hrep,hc⟩:=H.out.at_ hkl
   have hbl:b<w.heap.size:=H.out.lt b hbL
   have hrep0:=hrep
   obtain ⟨rfl,_⟩:=hrep0
   have q0:=(HF.out.below.cell (p:=⟨b,off+(k * Zgq.size+0),none⟩) hbl).trans (hc 0 _ rfl)
   have HS:=Lib.hid (HF.out.store (w2:=wr) (x:=ds[k]) (M:=[]) hlt HN.out (fun _=>rfl) (Below.refl _ _) ⟨⟨rfl,rfl⟩,Own.nil _ _⟩)
   obtain ⟨d0,e0⟩:=HF.out.cell hlt (j:=0) (by decide)
   have z0:=HF.out.frozen k
   simp only [show Zgq.size=1 from rfl,Nat.mul_one,Nat.add_zero] at q0 HS e0
   generalize ds[k]=x at *
   clear hc hrep
   go_wp2_with fail
   go_roundw
   case rel=>exact ⟨k+1,by omega,by go_num,HS.out⟩
   case measure=>simp [intOf];omega
  ·obtain rfl:k=n:=by omega
   go_wp2
   go_ret
   exact ⟨_,rfl,HF.out.done HN.out⟩
set_option maxHeartbeats 1600000 in
theorem ZpQ (cs:List Value) (x:Zc) (L:List Nat) (w:World) (hz:YP x≤1048576) (h:Y4.rep w cs x L):
  Calls Tryz.prog 33 #[.agg cs.toArray] w (Zmx Y4 w x):=by
 obtain ⟨A1,c1,L1,rfl,_hL,t0,n1,m1,s1⟩:=h
 unfold maxLen at m1
 have S1:=Lib.hid s1
 clear s1
 simp only [YP] at hz
 go_enter Tryz.func33,Tryz.ntmps33
 go_wp2_with fail
 refine (ZgH A1 _ c1 x.args L1 _ rfl (by simp only [Xm] at hz;omega) (S1.out.below (by repeat (first | refine Below.setCell ?_ (by dsimp only;omega) _ | refine Below.alloc ?_ (by first | (simp;done) | (simp;omega) | omega) _ | exact Below.refl _ _)))).mono ?_
 rintro e w1 ⟨v1,rfl,a1⟩
 obtain ⟨vA1,vc1,rfl⟩:=a1.shape
 have hb1:=a1.below
 obtain ⟨M1,g1⟩:=a1.got
 clear a1
 have G1:=Lib.hid (g1.mono (show w.heap.size+3≤_ by simp))
 have lt1:=Lib.hid g1.lt
 clear g1
 have B1:Hid (Below w.heap.size w w1):=Below.trans (by repeat (first | refine Below.setCell ?_ (by dsimp only;omega) _ | refine Below.alloc ?_ (by first | (simp;done) | (simp;omega) | omega) _ | exact Below.refl _ _)) (hb1.mono (by first | (simp;done) | (simp;omega) | omega))
 have K0:Hid (Blk w1 w.heap.size 54 #[.string x.rel,.slice A1 x.args.length c1]):=Blk.later (Blk.alloc (Blk.alloc (Blk.new _ _ _) _) _) hb1
 have K1:Hid (Blk w1 (w.heap.size+1) 57 #[.string ⟨#[]⟩,.slice none 0 0]):=Blk.later (Blk.alloc (Blk.new_at (by simp)) _) hb1
 have K2:Hid (Blk w1 (w.heap.size+1+1) 57 #[.string x.rel,.slice none 0 0]):=Blk.later (Blk.new_at (by simp)) hb1
 have f0:=K0.out.at (i:=0) rfl
 have r0:=K1.out.at (i:=0) rfl
 have o0:=K2.out.at (i:=0) rfl
 have rz0:=K1.out.frozen 0
 have oz0:=K2.out.frozen 0
 have f1:=K0.out.at (i:=1) rfl
 have r1:=K1.out.at (i:=1) rfl
 have o1:=K2.out.at (i:=1) rfl
 have rz1:=K1.out.frozen 1
 have oz1:=K2.out.frozen 1
 have hz1:w.heap.size+2<w1.heap.size:=by have:=hb1.size;simp at this;omega
 clear hb1
 go_wp2_with fail
 refine bodyPost_ret (v:=.agg #[.string x.rel,.slice vA1 x.args.length vc1]) (by simp [results,Tryz.results33,go_sem,r0,r1]) rfl ?_
 obtain ⟨nn1,mm1,ss1⟩:=ZU G1.out.rep
 exact Zfy (wr:=w1) (M1) ⟨⟨vA1,vc1,M1,rfl,rfl,t0,nn1,mm1,ss1⟩,by have o:=G1.out.own;simpa only [List.append_assoc] using o⟩ (by intro b hb;repeat rw [Below.heap_setCell _ _ _ _ (by dsimp only;omega)]) (by repeat (first | refine Below.setCell ?_ (by dsimp only;omega) _ | refine Below.alloc ?_ (by first | (simp;done) | (simp;omega) | omega) _ | exact B1.out))
theorem Tryz.infoFact:(Tryz.prog.info? 57).map (fun i=>(i.zero,i.size,i.bytes))=some (some (.agg #[.string ⟨#[]⟩,.slice none 0 0]),2,40):=by kernel_rfl
set_option maxHeartbeats 1600000 in
theorem ZdN (A:Option Addr) (n c:Nat) (ds:List Zc) (L:List Nat) (w:World) (hn:n=ds.length) (hz:Yd ds≤1048576) (h:Sli Y4 w A ds L):
  Calls Tryz.prog 13 #[.slice A n c] w (Zkp Y4 57 w ds):=by
 obtain ⟨i0,hi,hz0,hz1,hz2⟩:=info_parts Tryz.infoFact
 have H:=Lib.hid h
 have HN:=Lib.hid hn
 have hm:n≤1048576:=by simp only [Yd] at hz;omega
 have HZ:=Lib.hid hz
 clear h hn hz
 go_enter Tryz.func13,Tryz.ntmps13
 go_wp2_with (at_make;refine wpList_make_full _ rfl _ _ 26 rfl w.heap.size 57 i0 _ 2 Tryz.underlying26 hi hz0 hz1 .i64 .i64 _ _ n rfl rfl rfl rfl (by rw [hz2];omega) (by unfold maxLen;omega) (Nat.le_refl _) ?_;intro w1 hown hg)
 have hb:Below w.heap.size w w1:=(Below.refl _ _).grown hg (Nat.le_refl _) (by simp)
 have HF0:Hid (Z9 Y4 57 w n ds 0 w1):=Z9.start hown hb
 clear hown hg hb
 go_wp2
 go_loopw [4] (fun i wr=>∃(k:Nat),k≤n∧i=.int .i64 k∧Hid (Z9 Y4 57 w n ds k wr)) (fun i _=>n - (intOf i).toNat)
 case atStart=>exact ⟨0,Nat.zero_le _,rfl,HF0⟩
 case round=>
  obtain ⟨k,hk,rfl,HF⟩:=hrel
  by_cases hlt:k<n
  ·have hkl:k<ds.length:=by have:=HN.out;omega
   obtain ⟨b,off,cs,Lk,rfl,hbL,hLk,hrep,hc⟩:=H.out.at_ hkl
   have hbl:b<w.heap.size:=H.out.lt b hbL
   have HR:=Lib.hid (Y4.keep hrep (ZN HF.out.below (fun y m=>H.out.lt y (hLk y m))))
   obtain ⟨A1,c1,rfl⟩:=Zcc hrep
   have q0:wr.cell? ⟨b,off+k * 2,none⟩=_:=(HF.out.below.cell (p:=⟨b,off+(k * 2+0),none⟩) hbl).trans (hc 0 _ rfl)
   have q1:wr.cell? ⟨b,off+k * 2+1,none⟩=_:=(HF.out.below.cell (p:=⟨b,off+(k * 2+1),none⟩) hbl).trans (hc 1 _ rfl)
   have hcx:Hid (YP ds[k]≤1048576):=ZjX YP ds k hkl (by have:=HZ.out;simp only [Yd] at this;omega)
   obtain ⟨x,hx⟩:∃x,x=ds[k]:=⟨_,rfl⟩
   have HX:=Lib.hid hx
   rw [←hx] at HR q0 q1 hcx
   clear hc hrep hx
   go_wp2_with fail
   refine (ZpQ _ x Lk _ hcx.out HR.out).mono ?_
   rintro e w2 ⟨cs2,M2,rfl,g2,hb2⟩
   have HF2:=Lib.hid (HF.out.later hb2)
   have HS:=Lib.hid (HF.out.store hlt HN.out (fun _=>HX.out) hb2 g2)
   obtain ⟨vA1,vc1,rfl⟩:=Zcc g2.rep
   clear g2 hb2
   obtain ⟨d0,e0⟩:∃d,w2.cell? ⟨w.heap.size,k * 2,none⟩=some d:=HF2.out.cell hlt (j:=0) (by decide)
   have z0:=HF2.out.frozen (k * 2)
   obtain ⟨d1,e1⟩:∃d,w2.cell? ⟨w.heap.size,k * 2+1,none⟩=some d:=HF2.out.cell hlt (j:=1) (by decide)
   have z1:=HF2.out.frozen (k * 2+1)
   go_wp2_with fail
   go_roundw
   case rel=>exact ⟨k+1,by omega,by go_num,HS.out⟩
   case measure=>simp [intOf];omega
  ·obtain rfl:k=n:=by omega
   go_wp2
   go_ret
   exact ⟨_,rfl,HF.out.done HN.out⟩
set_option maxHeartbeats 1600000 in
theorem ZgU (cs:List Value) (x:Zv) (L:List Nat) (w:World) (hz:Z5 x≤1048576) (h:ZcY.rep w cs x L):
  Calls Tryz.prog 27 #[.agg cs.toArray] w (Zmx ZcY w x):=by
 obtain ⟨A1,c1,L1,rfl,_hL,t0,n1,m1,s1⟩:=h
 unfold maxLen at m1
 have S1:=Lib.hid s1
 clear s1
 simp only [Z5] at hz
 go_enter Tryz.func27,Tryz.ntmps27
 go_wp2_with fail
 refine (ZgH A1 _ c1 x.args L1 _ rfl (by simp only [Xm] at hz;omega) (S1.out.below (by repeat (first | refine Below.setCell ?_ (by dsimp only;omega) _ | refine Below.alloc ?_ (by first | (simp;done) | (simp;omega) | omega) _ | exact Below.refl _ _)))).mono ?_
 rintro e w1 ⟨v1,rfl,a1⟩
 obtain ⟨vA1,vc1,rfl⟩:=a1.shape
 have hb1:=a1.below
 obtain ⟨M1,g1⟩:=a1.got
 clear a1
 have G1:=Lib.hid (g1.mono (show w.heap.size+3≤_ by simp))
 have lt1:=Lib.hid g1.lt
 clear g1
 have B1:Hid (Below w.heap.size w w1):=Below.trans (by repeat (first | refine Below.setCell ?_ (by dsimp only;omega) _ | refine Below.alloc ?_ (by first | (simp;done) | (simp;omega) | omega) _ | exact Below.refl _ _)) (hb1.mono (by first | (simp;done) | (simp;omega) | omega))
 have K0:Hid (Blk w1 w.heap.size 46 #[.string x.rel,.slice A1 x.args.length c1]):=Blk.later (Blk.alloc (Blk.alloc (Blk.new _ _ _) _) _) hb1
 have K1:Hid (Blk w1 (w.heap.size+1) 49 #[.string ⟨#[]⟩,.slice none 0 0]):=Blk.later (Blk.alloc (Blk.new_at (by simp)) _) hb1
 have K2:Hid (Blk w1 (w.heap.size+1+1) 49 #[.string x.rel,.slice none 0 0]):=Blk.later (Blk.new_at (by simp)) hb1
 have f0:=K0.out.at (i:=0) rfl
 have r0:=K1.out.at (i:=0) rfl
 have o0:=K2.out.at (i:=0) rfl
 have rz0:=K1.out.frozen 0
 have oz0:=K2.out.frozen 0
 have f1:=K0.out.at (i:=1) rfl
 have r1:=K1.out.at (i:=1) rfl
 have o1:=K2.out.at (i:=1) rfl
 have rz1:=K1.out.frozen 1
 have oz1:=K2.out.frozen 1
 have hz1:w.heap.size+2<w1.heap.size:=by have:=hb1.size;simp at this;omega
 clear hb1
 go_wp2_with fail
 refine bodyPost_ret (v:=.agg #[.string x.rel,.slice vA1 x.args.length vc1]) (by simp [results,Tryz.results27,go_sem,r0,r1]) rfl ?_
 obtain ⟨nn1,mm1,ss1⟩:=ZU G1.out.rep
 exact Zfy (wr:=w1) (M1) ⟨⟨vA1,vc1,M1,rfl,rfl,t0,nn1,mm1,ss1⟩,by have o:=G1.out.own;simpa only [List.append_assoc] using o⟩ (by intro b hb;repeat rw [Below.heap_setCell _ _ _ _ (by dsimp only;omega)]) (by repeat (first | refine Below.setCell ?_ (by dsimp only;omega) _ | refine Below.alloc ?_ (by first | (simp;done) | (simp;omega) | omega) _ | exact B1.out))
set_option maxHeartbeats 1600000 in
theorem ZpV (cs:List Value) (x:Zm) (L:List Nat) (w:World) (hz:YO x≤1048576) (h:XV.rep w cs x L):
  Calls Tryz.prog 130 #[.agg cs.toArray] w (Zmx XV w x):=by
 obtain ⟨A1,c1,L1,rfl,_hL,t0,t1,t2,n1,m1,s1⟩:=h
 unfold maxLen at m1
 have S1:=Lib.hid s1
 clear s1
 simp only [YO] at hz
 go_enter Tryz.func130,Tryz.ntmps130
 go_wp2_with fail
 refine (ZgU [.string x.pattern.rel,.slice A1 x.pattern.args.length c1] x.pattern _ _ (by omega) ⟨A1,c1,L1,rfl,rfl,t0,n1,(by unfold maxLen;omega),S1.out.below (by repeat (first | refine Below.setCell ?_ (by dsimp only;omega) _ | refine Below.alloc ?_ (by first | (simp;done) | (simp;omega) | omega) _ | exact Below.refl _ _))⟩).mono ?_
 rintro e w1 ⟨cs1,M1,rfl,g1,hb1⟩
 obtain ⟨vA1,vc1,rfl⟩:=ZfO g1.rep
 have G1:=Lib.hid (g1.mono (show w.heap.size+3≤_ by simp))
 have lt1:=Lib.hid g1.lt
 clear g1
 have B1:Hid (Below w.heap.size w w1):=Below.trans (by repeat (first | refine Below.setCell ?_ (by dsimp only;omega) _ | refine Below.alloc ?_ (by first | (simp;done) | (simp;omega) | omega) _ | exact Below.refl _ _)) (hb1.mono (by first | (simp;done) | (simp;omega) | omega))
 have K0:Hid (Blk w1 w.heap.size 158 #[.int .i64 x.kind,.string x.pattern.rel,.slice A1 x.pattern.args.length c1,.string x.left,.string x.right]):=Blk.later (Blk.alloc (Blk.alloc (Blk.new _ _ _) _) _) hb1
 have K1:Hid (Blk w1 (w.heap.size+1) 130 #[.int .i64 0,.string ⟨#[]⟩,.slice none 0 0,.string ⟨#[]⟩,.string ⟨#[]⟩]):=Blk.later (Blk.alloc (Blk.new_at (by simp)) _) hb1
 have K2:Hid (Blk w1 (w.heap.size+1+1) 130 #[.int .i64 x.kind,.string ⟨#[]⟩,.slice none 0 0,.string ⟨#[]⟩,.string ⟨#[]⟩]):=Blk.later (Blk.new_at (by simp)) hb1
 have f0:=K0.out.at (i:=0) rfl
 have r0:=K1.out.at (i:=0) rfl
 have o0:=K2.out.at (i:=0) rfl
 have rz0:=K1.out.frozen 0
 have oz0:=K2.out.frozen 0
 have f1:=K0.out.at (i:=1) rfl
 have r1:=K1.out.at (i:=1) rfl
 have o1:=K2.out.at (i:=1) rfl
 have rz1:=K1.out.frozen 1
 have oz1:=K2.out.frozen 1
 have f2:=K0.out.at (i:=2) rfl
 have r2:=K1.out.at (i:=2) rfl
 have o2:=K2.out.at (i:=2) rfl
 have rz2:=K1.out.frozen 2
 have oz2:=K2.out.frozen 2
 have f3:=K0.out.at (i:=3) rfl
 have r3:=K1.out.at (i:=3) rfl
 have o3:=K2.out.at (i:=3) rfl
 have rz3:=K1.out.frozen 3
 have oz3:=K2.out.frozen 3
 have f4:=K0.out.at (i:=4) rfl
 have r4:=K1.out.at (i:=4) rfl
 have o4:=K2.out.at (i:=4) rfl
 have rz4:=K1.out.frozen 4
 have oz4:=K2.out.frozen 4
 have hz1:w.heap.size+2<w1.heap.size:=by have:=hb1.size;simp at this;omega
 clear hb1
 go_wp2_with fail
 refine bodyPost_ret (v:=.agg #[.int .i64 x.kind,.string x.pattern.rel,.slice vA1 x.pattern.args.length vc1,.string x.left,.string x.right]) (by simp [results,Tryz.results130,go_sem,r0,r1,r2,r3,r4]) rfl ?_
 obtain ⟨_,_,N1,hcs1,hL1,_,nn1,mm1,ss1⟩:=G1.out.rep
 cases hcs1
 subst hL1
 exact Zfy (wr:=w1) (M1) ⟨⟨vA1,vc1,M1,rfl,rfl,t0,t1,t2,nn1,mm1,ss1⟩,by have o:=G1.out.own;simpa only [List.append_assoc] using o⟩ (by intro b hb;repeat rw [Below.heap_setCell _ _ _ _ (by dsimp only;omega)]) (by repeat (first | refine Below.setCell ?_ (by dsimp only;omega) _ | refine Below.alloc ?_ (by first | (simp;done) | (simp;omega) | omega) _ | exact B1.out))
theorem Tryz.infoCond:(Tryz.prog.info? 130).map (fun i=>(i.zero,i.size,i.bytes))=some (some (.agg #[.int .i64 0,.string ⟨#[]⟩,.slice none 0 0,.string ⟨#[]⟩,.string ⟨#[]⟩]),5,80):=by kernel_rfl
set_option maxHeartbeats 1600000 in
theorem Zpt (A:Option Addr) (n c:Nat) (ds:List Zm) (L:List Nat) (w:World) (hn:n=ds.length) (hz:YA ds≤1048576) (h:Sli XV w A ds L):
  Calls Tryz.prog 84 #[.slice A n c] w (Zkp XV 130 w ds):=by
 obtain ⟨i0,hi,hz0,hz1,hz2⟩:=info_parts Tryz.infoCond
 have H:=Lib.hid h
 have HN:=Lib.hid hn
 have hm:n≤1048576:=by simp only [YA] at hz;omega
 have HZ:=Lib.hid hz
 clear h hn hz
 go_enter Tryz.func84,Tryz.ntmps84
 go_wp2_with (at_make;refine wpList_make_full _ rfl _ _ 79 rfl w.heap.size 130 i0 _ 5 Tryz.underlying79 hi hz0 hz1 .i64 .i64 _ _ n rfl rfl rfl rfl (by rw [hz2];omega) (by unfold maxLen;omega) (Nat.le_refl _) ?_;intro w1 hown hg)
 have hb:Below w.heap.size w w1:=(Below.refl _ _).grown hg (Nat.le_refl _) (by simp)
 have HF0:Hid (Z9 XV 130 w n ds 0 w1):=Z9.start hown hb
 clear hown hg hb
 go_wp2
 go_loopw [4] (fun i wr=>∃(k:Nat),k≤n∧i=.int .i64 k∧Hid (Z9 XV 130 w n ds k wr)) (fun i _=>n - (intOf i).toNat)
 case atStart=>exact ⟨0,Nat.zero_le _,rfl,HF0⟩
 case round=>
  obtain ⟨k,hk,rfl,HF⟩:=hrel
  by_cases hlt:k<n
  ·have hkl:k<ds.length:=by have:=HN.out;omega
   obtain ⟨b,off,cs,Lk,rfl,hbL,hLk,hrep,hc⟩:=H.out.at_ hkl
   have hbl:b<w.heap.size:=H.out.lt b hbL
   have HR:=Lib.hid (XV.keep hrep (ZN HF.out.below (fun y m=>H.out.lt y (hLk y m))))
   obtain ⟨A1,c1,rfl⟩:=Zcb hrep
   have q0:wr.cell? ⟨b,off+k * 5,none⟩=_:=(HF.out.below.cell (p:=⟨b,off+(k * 5+0),none⟩) hbl).trans (hc 0 _ rfl)
   have q1:wr.cell? ⟨b,off+k * 5+1,none⟩=_:=(HF.out.below.cell (p:=⟨b,off+(k * 5+1),none⟩) hbl).trans (hc 1 _ rfl)
   have q2:wr.cell? ⟨b,off+k * 5+2,none⟩=_:=(HF.out.below.cell (p:=⟨b,off+(k * 5+2),none⟩) hbl).trans (hc 2 _ rfl)
   have q3:wr.cell? ⟨b,off+k * 5+3,none⟩=_:=(HF.out.below.cell (p:=⟨b,off+(k * 5+3),none⟩) hbl).trans (hc 3 _ rfl)
   have q4:wr.cell? ⟨b,off+k * 5+4,none⟩=_:=(HF.out.below.cell (p:=⟨b,off+(k * 5+4),none⟩) hbl).trans (hc 4 _ rfl)
   have hcx:Hid (YO ds[k]≤1048576):=ZjX YO ds k hkl (by have:=HZ.out;simp only [YA] at this;omega)
   obtain ⟨x,hx⟩:∃x,x=ds[k]:=⟨_,rfl⟩
   have HX:=Lib.hid hx
   rw [←hx] at HR q0 q1 q2 q3 q4 hcx
   clear hc hrep hx
   go_wp2_with fail
   refine (ZpV _ x Lk _ hcx.out HR.out).mono ?_
   rintro e w2 ⟨cs2,M2,rfl,g2,hb2⟩
   have HF2:=Lib.hid (HF.out.later hb2)
   have HS:=Lib.hid (HF.out.store hlt HN.out (fun _=>HX.out) hb2 g2)
   obtain ⟨vA1,vc1,rfl⟩:=Zcb g2.rep
   clear g2 hb2
   obtain ⟨d0,e0⟩:∃d,w2.cell? ⟨w.heap.size,k * 5,none⟩=some d:=HF2.out.cell hlt (j:=0) (by decide)
   have z0:=HF2.out.frozen (k * 5)
   obtain ⟨d1,e1⟩:∃d,w2.cell? ⟨w.heap.size,k * 5+1,none⟩=some d:=HF2.out.cell hlt (j:=1) (by decide)
   have z1:=HF2.out.frozen (k * 5+1)
   obtain ⟨d2,e2⟩:∃d,w2.cell? ⟨w.heap.size,k * 5+2,none⟩=some d:=HF2.out.cell hlt (j:=2) (by decide)
   have z2:=HF2.out.frozen (k * 5+2)
   obtain ⟨d3,e3⟩:∃d,w2.cell? ⟨w.heap.size,k * 5+3,none⟩=some d:=HF2.out.cell hlt (j:=3) (by decide)
   have z3:=HF2.out.frozen (k * 5+3)
   obtain ⟨d4,e4⟩:∃d,w2.cell? ⟨w.heap.size,k * 5+4,none⟩=some d:=HF2.out.cell hlt (j:=4) (by decide)
   have z4:=HF2.out.frozen (k * 5+4)
   go_wp2_with fail
   go_roundw
   case rel=>exact ⟨k+1,by omega,by go_num,HS.out⟩
   case measure=>simp [intOf];omega
  ·obtain rfl:k=n:=by omega
   go_wp2
   go_ret
   exact ⟨_,rfl,HF.out.done HN.out⟩
set_option maxHeartbeats 1600000 in
theorem Znb (cs:List Value) (x:Zr) (L:List Nat) (w:World) (hz:Yl x≤1048576) (h:Yk.rep w cs x L):
  Calls Tryz.prog 131 #[.agg cs.toArray] w (Zmx Yk w x):=by
 obtain ⟨A1,c1,L1,rfl,_hL,t0,n1,m1,s1⟩:=h
 unfold maxLen at m1
 have S1:=Lib.hid s1
 clear s1
 simp only [Yl] at hz
 go_enter Tryz.func131,Tryz.ntmps131
 go_wp2_with fail
 refine (ZgU [.string x.pattern.rel,.slice A1 x.pattern.args.length c1] x.pattern _ _ (by omega) ⟨A1,c1,L1,rfl,rfl,t0,n1,(by unfold maxLen;omega),S1.out.below (by repeat (first | refine Below.setCell ?_ (by dsimp only;omega) _ | refine Below.alloc ?_ (by first | (simp;done) | (simp;omega) | omega) _ | exact Below.refl _ _))⟩).mono ?_
 rintro e w1 ⟨cs1,M1,rfl,g1,hb1⟩
 obtain ⟨vA1,vc1,rfl⟩:=ZfO g1.rep
 have G1:=Lib.hid (g1.mono (show w.heap.size+3≤_ by simp))
 have lt1:=Lib.hid g1.lt
 clear g1
 have B1:Hid (Below w.heap.size w w1):=Below.trans (by repeat (first | refine Below.setCell ?_ (by dsimp only;omega) _ | refine Below.alloc ?_ (by first | (simp;done) | (simp;omega) | omega) _ | exact Below.refl _ _)) (hb1.mono (by first | (simp;done) | (simp;omega) | omega))
 have K0:Hid (Blk w1 w.heap.size 161 #[.int .i64 x.kind,.string x.pattern.rel,.slice A1 x.pattern.args.length c1]):=Blk.later (Blk.alloc (Blk.alloc (Blk.new _ _ _) _) _) hb1
 have K1:Hid (Blk w1 (w.heap.size+1) 134 #[.int .i64 0,.string ⟨#[]⟩,.slice none 0 0]):=Blk.later (Blk.alloc (Blk.new_at (by simp)) _) hb1
 have K2:Hid (Blk w1 (w.heap.size+1+1) 134 #[.int .i64 x.kind,.string ⟨#[]⟩,.slice none 0 0]):=Blk.later (Blk.new_at (by simp)) hb1
 have f0:=K0.out.at (i:=0) rfl
 have r0:=K1.out.at (i:=0) rfl
 have o0:=K2.out.at (i:=0) rfl
 have rz0:=K1.out.frozen 0
 have oz0:=K2.out.frozen 0
 have f1:=K0.out.at (i:=1) rfl
 have r1:=K1.out.at (i:=1) rfl
 have o1:=K2.out.at (i:=1) rfl
 have rz1:=K1.out.frozen 1
 have oz1:=K2.out.frozen 1
 have f2:=K0.out.at (i:=2) rfl
 have r2:=K1.out.at (i:=2) rfl
 have o2:=K2.out.at (i:=2) rfl
 have rz2:=K1.out.frozen 2
 have oz2:=K2.out.frozen 2
 have hz1:w.heap.size+2<w1.heap.size:=by have:=hb1.size;simp at this;omega
 clear hb1
 go_wp2_with fail
 refine bodyPost_ret (v:=.agg #[.int .i64 x.kind,.string x.pattern.rel,.slice vA1 x.pattern.args.length vc1]) (by simp [results,Tryz.results131,go_sem,r0,r1,r2]) rfl ?_
 obtain ⟨_,_,N1,hcs1,hL1,_,nn1,mm1,ss1⟩:=G1.out.rep
 cases hcs1
 subst hL1
 exact Zfy (wr:=w1) (M1) ⟨⟨vA1,vc1,M1,rfl,rfl,t0,nn1,mm1,ss1⟩,by have o:=G1.out.own;simpa only [List.append_assoc] using o⟩ (by intro b hb;repeat rw [Below.heap_setCell _ _ _ _ (by dsimp only;omega)]) (by repeat (first | refine Below.setCell ?_ (by dsimp only;omega) _ | refine Below.alloc ?_ (by first | (simp;done) | (simp;omega) | omega) _ | exact B1.out))
theorem Tryz.infoAction:(Tryz.prog.info? 134).map (fun i=>(i.zero,i.size,i.bytes))=some (some (.agg #[.int .i64 0,.string ⟨#[]⟩,.slice none 0 0]),3,48):=by kernel_rfl
set_option maxHeartbeats 1600000 in
theorem ZlJ (A:Option Addr) (n c:Nat) (ds:List Zr) (L:List Nat) (w:World) (hn:n=ds.length) (hz:Yg ds≤1048576) (h:Sli Yk w A ds L):
  Calls Tryz.prog 85 #[.slice A n c] w (Zkp Yk 134 w ds):=by
 obtain ⟨i0,hi,hz0,hz1,hz2⟩:=info_parts Tryz.infoAction
 have H:=Lib.hid h
 have HN:=Lib.hid hn
 have hm:n≤1048576:=by simp only [Yg] at hz;omega
 have HZ:=Lib.hid hz
 clear h hn hz
 go_enter Tryz.func85,Tryz.ntmps85
 go_wp2_with (at_make;refine wpList_make_full _ rfl _ _ 80 rfl w.heap.size 134 i0 _ 3 Tryz.underlying80 hi hz0 hz1 .i64 .i64 _ _ n rfl rfl rfl rfl (by rw [hz2];omega) (by unfold maxLen;omega) (Nat.le_refl _) ?_;intro w1 hown hg)
 have hb:Below w.heap.size w w1:=(Below.refl _ _).grown hg (Nat.le_refl _) (by simp)
 have HF0:Hid (Z9 Yk 134 w n ds 0 w1):=Z9.start hown hb
 clear hown hg hb
 go_wp2
 go_loopw [4] (fun i wr=>∃(k:Nat),k≤n∧i=.int .i64 k∧Hid (Z9 Yk 134 w n ds k wr)) (fun i _=>n - (intOf i).toNat)
 case atStart=>exact ⟨0,Nat.zero_le _,rfl,HF0⟩
 case round=>
  obtain ⟨k,hk,rfl,HF⟩:=hrel
  by_cases hlt:k<n
  ·have hkl:k<ds.length:=by have:=HN.out;omega
   obtain ⟨b,off,cs,Lk,rfl,hbL,hLk,hrep,hc⟩:=H.out.at_ hkl
   have hbl:b<w.heap.size:=H.out.lt b hbL
   have HR:=Lib.hid (Yk.keep hrep (ZN HF.out.below (fun y m=>H.out.lt y (hLk y m))))
   obtain ⟨A1,c1,rfl⟩:=Q9 hrep
   have q0:wr.cell? ⟨b,off+k * 3,none⟩=_:=(HF.out.below.cell (p:=⟨b,off+(k * 3+0),none⟩) hbl).trans (hc 0 _ rfl)
   have q1:wr.cell? ⟨b,off+k * 3+1,none⟩=_:=(HF.out.below.cell (p:=⟨b,off+(k * 3+1),none⟩) hbl).trans (hc 1 _ rfl)
   have q2:wr.cell? ⟨b,off+k * 3+2,none⟩=_:=(HF.out.below.cell (p:=⟨b,off+(k * 3+2),none⟩) hbl).trans (hc 2 _ rfl)
   have hcx:Hid (Yl ds[k]≤1048576):=ZjX Yl ds k hkl (by have:=HZ.out;simp only [Yg] at this;omega)
   obtain ⟨x,hx⟩:∃x,x=ds[k]:=⟨_,rfl⟩
   have HX:=Lib.hid hx
   rw [←hx] at HR q0 q1 q2 hcx
   clear hc hrep hx
   go_wp2_with fail
   refine (Znb _ x Lk _ hcx.out HR.out).mono ?_
   rintro e w2 ⟨cs2,M2,rfl,g2,hb2⟩
   have HF2:=Lib.hid (HF.out.later hb2)
   have HS:=Lib.hid (HF.out.store hlt HN.out (fun _=>HX.out) hb2 g2)
   obtain ⟨vA1,vc1,rfl⟩:=Q9 g2.rep
   clear g2 hb2
   obtain ⟨d0,e0⟩:∃d,w2.cell? ⟨w.heap.size,k * 3,none⟩=some d:=HF2.out.cell hlt (j:=0) (by decide)
   have z0:=HF2.out.frozen (k * 3)
   obtain ⟨d1,e1⟩:∃d,w2.cell? ⟨w.heap.size,k * 3+1,none⟩=some d:=HF2.out.cell hlt (j:=1) (by decide)
   have z1:=HF2.out.frozen (k * 3+1)
   obtain ⟨d2,e2⟩:∃d,w2.cell? ⟨w.heap.size,k * 3+2,none⟩=some d:=HF2.out.cell hlt (j:=2) (by decide)
   have z2:=HF2.out.frozen (k * 3+2)
   go_wp2_with fail
   go_roundw
   case rel=>exact ⟨k+1,by omega,by go_num,HS.out⟩
   case measure=>simp [intOf];omega
  ·obtain rfl:k=n:=by omega
   go_wp2
   go_ret
   exact ⟨_,rfl,HF.out.done HN.out⟩
set_option maxHeartbeats 1600000 in
theorem Zqc (cs:List Value) (x:Zf) (L:List Nat) (w:World) (hz:Yq x≤1048576) (h:XU.rep w cs x L):
  Calls Tryz.prog 46 #[.agg cs.toArray] w (Zmx XU w x):=by
 obtain ⟨A1,c1,L1,A2,c2,L2,rfl,_hL,t0,n1,m1,s1,n2,m2,s2⟩:=h
 unfold maxLen at m1 m2
 have S1:=Lib.hid s1
 clear s1
 have S2:=Lib.hid s2
 clear s2
 simp only [Yq] at hz
 go_enter Tryz.func46,Tryz.ntmps46
 go_wp2_with fail
 refine (Zpt A1 _ c1 x.cond L1 _ rfl (by omega) (S1.out.below (by repeat (first | refine Below.setCell ?_ (by dsimp only;omega) _ | refine Below.alloc ?_ (by first | (simp;done) | (simp;omega) | omega) _ | exact Below.refl _ _)))).mono ?_
 rintro e w1 ⟨v1,rfl,a1⟩
 obtain ⟨vA1,vc1,rfl⟩:=a1.shape
 have hb1:=a1.below
 obtain ⟨M1,g1⟩:=a1.got
 clear a1
 have G1:=Lib.hid (g1.mono (show w.heap.size+3≤_ by simp))
 have lt1:=Lib.hid g1.lt
 clear g1
 have B1:Hid (Below w.heap.size w w1):=Below.trans (by repeat (first | refine Below.setCell ?_ (by dsimp only;omega) _ | refine Below.alloc ?_ (by first | (simp;done) | (simp;omega) | omega) _ | exact Below.refl _ _)) (hb1.mono (by first | (simp;done) | (simp;omega) | omega))
 have K0:Hid (Blk w1 w.heap.size 75 #[.string x.name,.int .i64 x.priority,.slice A1 x.cond.length c1,.slice A2 x.thn.length c2]):=Blk.later (Blk.alloc (Blk.alloc (Blk.new _ _ _) _) _) hb1
 have K1:Hid (Blk w1 (w.heap.size+1) 82 #[.string ⟨#[]⟩,.int .i64 0,.slice none 0 0,.slice none 0 0]):=Blk.later (Blk.alloc (Blk.new_at (by simp)) _) hb1
 have K2:Hid (Blk w1 (w.heap.size+1+1) 82 #[.string x.name,.int .i64 x.priority,.slice none 0 0,.slice none 0 0]):=Blk.later (Blk.new_at (by simp)) hb1
 have f0:=K0.out.at (i:=0) rfl
 have r0:=K1.out.at (i:=0) rfl
 have o0:=K2.out.at (i:=0) rfl
 have rz0:=K1.out.frozen 0
 have oz0:=K2.out.frozen 0
 have f1:=K0.out.at (i:=1) rfl
 have r1:=K1.out.at (i:=1) rfl
 have o1:=K2.out.at (i:=1) rfl
 have rz1:=K1.out.frozen 1
 have oz1:=K2.out.frozen 1
 have f2:=K0.out.at (i:=2) rfl
 have r2:=K1.out.at (i:=2) rfl
 have o2:=K2.out.at (i:=2) rfl
 have rz2:=K1.out.frozen 2
 have oz2:=K2.out.frozen 2
 have f3:=K0.out.at (i:=3) rfl
 have r3:=K1.out.at (i:=3) rfl
 have o3:=K2.out.at (i:=3) rfl
 have rz3:=K1.out.frozen 3
 have oz3:=K2.out.frozen 3
 have hz1:w.heap.size+2<w1.heap.size:=by have:=hb1.size;simp at this;omega
 clear hb1
 go_wp2_with fail
 refine (ZlJ A2 _ c2 x.thn L2 _ rfl (by omega) (S2.out.below (by repeat (first | refine Below.setCell ?_ (by dsimp only;omega) _ | refine Below.alloc ?_ (by first | (simp;done) | (simp;omega) | omega) _ | exact B1.out)))).mono ?_
 rintro e w2 ⟨v2,rfl,a2⟩
 obtain ⟨vA2,vc2,rfl⟩:=a2.shape
 have hb2:=a2.below
 obtain ⟨M2,g2⟩:=a2.got
 clear a2
 have G2:=Lib.hid (g2.mono (show w1.heap.size≤_ by simp))
 have lt2:=Lib.hid g2.lt
 clear g2
 have B2:Hid (Below w.heap.size w w2):=Below.trans (by repeat (first | refine Below.setCell ?_ (by dsimp only;omega) _ | refine Below.alloc ?_ (by first | (simp;done) | (simp;omega) | omega) _ | exact B1.out)) (hb2.mono (by first | (simp;done) | (simp;omega) | omega))
 have G1:Hid (Got (ZY XV) (w.heap.size+3) [.slice vA1 x.cond.length vc1] x.cond M1 w2):=Got.later (by repeat (first | refine Got.setCell ?_ (by dsimp only;omega) _ | exact G1.out)) hb2
 have K0:=Lib.hid (Blk.later (Blk.far K0.out (by dsimp only;omega) _) hb2)
 have K1:=Lib.hid (Blk.later (Blk.far K1.out (by dsimp only;omega) _) hb2)
 have K2:=Lib.hid (Blk.later (Blk.set_ K2.out 2 _) hb2)
 clear f0 r0 o0 rz0 oz0 f1 r1 o1 rz1 oz1 f2 r2 o2 rz2 oz2 f3 r3 o3 rz3 oz3
 have f0:=K0.out.at (i:=0) rfl
 have r0:=K1.out.at (i:=0) rfl
 have o0:=K2.out.at (i:=0) rfl
 have rz0:=K1.out.frozen 0
 have oz0:=K2.out.frozen 0
 have f1:=K0.out.at (i:=1) rfl
 have r1:=K1.out.at (i:=1) rfl
 have o1:=K2.out.at (i:=1) rfl
 have rz1:=K1.out.frozen 1
 have oz1:=K2.out.frozen 1
 have f2:=K0.out.at (i:=2) rfl
 have r2:=K1.out.at (i:=2) rfl
 have o2:=K2.out.at (i:=2) rfl
 have rz2:=K1.out.frozen 2
 have oz2:=K2.out.frozen 2
 have f3:=K0.out.at (i:=3) rfl
 have r3:=K1.out.at (i:=3) rfl
 have o3:=K2.out.at (i:=3) rfl
 have rz3:=K1.out.frozen 3
 have oz3:=K2.out.frozen 3
 have hz2:w.heap.size+2<w2.heap.size:=by have:=hb2.size;simp at this;omega
 have hy2:w1.heap.size≤w2.heap.size:=by have:=hb2.size;simp at this;omega
 clear hb2
 go_wp2_with fail
 refine bodyPost_ret (v:=.agg #[.string x.name,.int .i64 x.priority,.slice vA1 x.cond.length vc1,.slice vA2 x.thn.length vc2]) (by simp [results,Tryz.results46,go_sem,r0,r1,r2,r3]) rfl ?_
 obtain ⟨nn1,mm1,ss1⟩:=ZU G1.out.rep
 obtain ⟨nn2,mm2,ss2⟩:=ZU G2.out.rep
 exact Zfy (wr:=w2) (M1++M2) ⟨⟨vA1,vc1,M1,vA2,vc2,M2,rfl,rfl,t0,nn1,mm1,ss1,nn2,mm2,ss2⟩,by have o:=(Own.append G1.out.own G2.out.own (by omega) lt1.out);simpa only [List.append_assoc] using o⟩ (by intro b hb;repeat rw [Below.heap_setCell _ _ _ _ (by dsimp only;omega)]) (by repeat (first | refine Below.setCell ?_ (by dsimp only;omega) _ | refine Below.alloc ?_ (by first | (simp;done) | (simp;omega) | omega) _ | exact B2.out))
theorem Tryz.infoRule:(Tryz.prog.info? 82).map (fun i=>(i.zero,i.size,i.bytes))=some (some (.agg #[.string ⟨#[]⟩,.int .i64 0,.slice none 0 0,.slice none 0 0]),4,72):=by kernel_rfl
set_option maxHeartbeats 1600000 in
theorem Zdw (A:Option Addr) (n c:Nat) (ds:List Zf) (L:List Nat) (w:World) (hn:n=ds.length) (hz:Yj ds≤1048576) (h:Sli XU w A ds L):
  Calls Tryz.prog 12 #[.slice A n c] w (Zkp XU 82 w ds):=by
 obtain ⟨i0,hi,hz0,hz1,hz2⟩:=info_parts Tryz.infoRule
 have H:=Lib.hid h
 have HN:=Lib.hid hn
 have hm:n≤1048576:=by simp only [Yj] at hz;omega
 have HZ:=Lib.hid hz
 clear h hn hz
 go_enter Tryz.func12,Tryz.ntmps12
 go_wp2_with (at_make;refine wpList_make_full _ rfl _ _ 32 rfl w.heap.size 82 i0 _ 4 Tryz.underlying32 hi hz0 hz1 .i64 .i64 _ _ n rfl rfl rfl rfl (by rw [hz2];omega) (by unfold maxLen;omega) (Nat.le_refl _) ?_;intro w1 hown hg)
 have hb:Below w.heap.size w w1:=(Below.refl _ _).grown hg (Nat.le_refl _) (by simp)
 have HF0:Hid (Z9 XU 82 w n ds 0 w1):=Z9.start hown hb
 clear hown hg hb
 go_wp2
 go_loopw [4] (fun i wr=>∃(k:Nat),k≤n∧i=.int .i64 k∧Hid (Z9 XU 82 w n ds k wr)) (fun i _=>n - (intOf i).toNat)
 case atStart=>exact ⟨0,Nat.zero_le _,rfl,HF0⟩
 case round=>
  obtain ⟨k,hk,rfl,HF⟩:=hrel
  by_cases hlt:k<n
  ·have hkl:k<ds.length:=by have:=HN.out;omega
   obtain ⟨b,off,cs,Lk,rfl,hbL,hLk,hrep,hc⟩:=H.out.at_ hkl
   have hbl:b<w.heap.size:=H.out.lt b hbL
   have HR:=Lib.hid (XU.keep hrep (ZN HF.out.below (fun y m=>H.out.lt y (hLk y m))))
   obtain ⟨A1,c1,A2,c2,rfl⟩:=Zb5 hrep
   have q0:wr.cell? ⟨b,off+k * 4,none⟩=_:=(HF.out.below.cell (p:=⟨b,off+(k * 4+0),none⟩) hbl).trans (hc 0 _ rfl)
   have q1:wr.cell? ⟨b,off+k * 4+1,none⟩=_:=(HF.out.below.cell (p:=⟨b,off+(k * 4+1),none⟩) hbl).trans (hc 1 _ rfl)
   have q2:wr.cell? ⟨b,off+k * 4+2,none⟩=_:=(HF.out.below.cell (p:=⟨b,off+(k * 4+2),none⟩) hbl).trans (hc 2 _ rfl)
   have q3:wr.cell? ⟨b,off+k * 4+3,none⟩=_:=(HF.out.below.cell (p:=⟨b,off+(k * 4+3),none⟩) hbl).trans (hc 3 _ rfl)
   have hcx:Hid (Yq ds[k]≤1048576):=ZjX Yq ds k hkl (by have:=HZ.out;simp only [Yj] at this;omega)
   obtain ⟨x,hx⟩:∃x,x=ds[k]:=⟨_,rfl⟩
   have HX:=Lib.hid hx
   rw [←hx] at HR q0 q1 q2 q3 hcx
   clear hc hrep hx
   go_wp2_with fail
   refine (Zqc _ x Lk _ hcx.out HR.out).mono ?_
   rintro e w2 ⟨cs2,M2,rfl,g2,hb2⟩
   have HF2:=Lib.hid (HF.out.later hb2)
   have HS:=Lib.hid (HF.out.store hlt HN.out (fun _=>HX.out) hb2 g2)
   obtain ⟨vA1,vc1,vA2,vc2,rfl⟩:=Zb5 g2.rep
   clear g2 hb2
   obtain ⟨d0,e0⟩:∃d,w2.cell? ⟨w.heap.size,k * 4,none⟩=some d:=HF2.out.cell hlt (j:=0) (by decide)
   have z0:=HF2.out.frozen (k * 4)
   obtain ⟨d1,e1⟩:∃d,w2.cell? ⟨w.heap.size,k * 4+1,none⟩=some d:=HF2.out.cell hlt (j:=1) (by decide)
   have z1:=HF2.out.frozen (k * 4+1)
   obtain ⟨d2,e2⟩:∃d,w2.cell? ⟨w.heap.size,k * 4+2,none⟩=some d:=HF2.out.cell hlt (j:=2) (by decide)
   have z2:=HF2.out.frozen (k * 4+2)
   obtain ⟨d3,e3⟩:∃d,w2.cell? ⟨w.heap.size,k * 4+3,none⟩=some d:=HF2.out.cell hlt (j:=3) (by decide)
   have z3:=HF2.out.frozen (k * 4+3)
   go_wp2_with fail
   go_roundw
   case rel=>exact ⟨k+1,by omega,by go_num,HS.out⟩
   case measure=>simp [intOf];omega
  ·obtain rfl:k=n:=by omega
   go_wp2
   go_ret
   exact ⟨_,rfl,HF.out.done HN.out⟩
set_option maxHeartbeats 1600000 in
theorem ZEg (cs:List Value) (x:Zuw) (L:List Nat) (w:World) (hz:Q0 x≤1048576) (h:ZDz.rep w cs x L):
  Calls Tryz.prog 72 #[.agg cs.toArray] w (Zmx ZDz w x):=by
 obtain ⟨A1,c1,L1,A2,c2,L2,rfl,_hL,t0,t1,n1,m1,s1,n2,m2,s2⟩:=h
 unfold maxLen at m1 m2
 have S1:=Lib.hid s1
 clear s1
 have S2:=Lib.hid s2
 clear s2
 simp only [Q0] at hz
 go_enter Tryz.func72,Tryz.ntmps72
 go_wp2_with fail
 refine (ZpQ [.string x.fact.rel,.slice A1 x.fact.args.length c1] x.fact _ _ (by omega) ⟨A1,c1,L1,rfl,rfl,t0,n1,(by unfold maxLen;omega),S1.out.below (by repeat (first | refine Below.setCell ?_ (by dsimp only;omega) _ | refine Below.alloc ?_ (by first | (simp;done) | (simp;omega) | omega) _ | exact Below.refl _ _))⟩).mono ?_
 rintro e w1 ⟨cs1,M1,rfl,g1,hb1⟩
 obtain ⟨vA1,vc1,rfl⟩:=Zcc g1.rep
 have G1:=Lib.hid (g1.mono (show w.heap.size+3≤_ by simp))
 have lt1:=Lib.hid g1.lt
 clear g1
 have B1:Hid (Below w.heap.size w w1):=Below.trans (by repeat (first | refine Below.setCell ?_ (by dsimp only;omega) _ | refine Below.alloc ?_ (by first | (simp;done) | (simp;omega) | omega) _ | exact Below.refl _ _)) (hb1.mono (by first | (simp;done) | (simp;omega) | omega))
 have K0:Hid (Blk w1 w.heap.size 104 #[.string x.fact.rel,.slice A1 x.fact.args.length c1,.string x.rule,.slice A2 x.uses.length c2]):=Blk.later (Blk.alloc (Blk.alloc (Blk.new _ _ _) _) _) hb1
 have K1:Hid (Blk w1 (w.heap.size+1) 107 #[.string ⟨#[]⟩,.slice none 0 0,.string ⟨#[]⟩,.slice none 0 0]):=Blk.later (Blk.alloc (Blk.new_at (by simp)) _) hb1
 have K2:Hid (Blk w1 (w.heap.size+1+1) 107 #[.string ⟨#[]⟩,.slice none 0 0,.string ⟨#[]⟩,.slice none 0 0]):=Blk.later (Blk.new_at (by simp)) hb1
 have f0:=K0.out.at (i:=0) rfl
 have r0:=K1.out.at (i:=0) rfl
 have o0:=K2.out.at (i:=0) rfl
 have rz0:=K1.out.frozen 0
 have oz0:=K2.out.frozen 0
 have f1:=K0.out.at (i:=1) rfl
 have r1:=K1.out.at (i:=1) rfl
 have o1:=K2.out.at (i:=1) rfl
 have rz1:=K1.out.frozen 1
 have oz1:=K2.out.frozen 1
 have f2:=K0.out.at (i:=2) rfl
 have r2:=K1.out.at (i:=2) rfl
 have o2:=K2.out.at (i:=2) rfl
 have rz2:=K1.out.frozen 2
 have oz2:=K2.out.frozen 2
 have f3:=K0.out.at (i:=3) rfl
 have r3:=K1.out.at (i:=3) rfl
 have o3:=K2.out.at (i:=3) rfl
 have rz3:=K1.out.frozen 3
 have oz3:=K2.out.frozen 3
 have hz1:w.heap.size+2<w1.heap.size:=by have:=hb1.size;simp at this;omega
 clear hb1
 go_wp2_with fail
 refine (ZEh A2 _ c2 x.uses L2 _ rfl (by omega) (S2.out.below (by repeat (first | refine Below.setCell ?_ (by dsimp only;omega) _ | refine Below.alloc ?_ (by first | (simp;done) | (simp;omega) | omega) _ | exact B1.out)))).mono ?_
 rintro e w2 ⟨v2,rfl,a2⟩
 obtain ⟨vA2,vc2,rfl⟩:=a2.shape
 have hb2:=a2.below
 obtain ⟨M2,g2⟩:=a2.got
 clear a2
 have G2:=Lib.hid (g2.mono (show w1.heap.size≤_ by simp))
 have lt2:=Lib.hid g2.lt
 clear g2
 have B2:Hid (Below w.heap.size w w2):=Below.trans (by repeat (first | refine Below.setCell ?_ (by dsimp only;omega) _ | refine Below.alloc ?_ (by first | (simp;done) | (simp;omega) | omega) _ | exact B1.out)) (hb2.mono (by first | (simp;done) | (simp;omega) | omega))
 have G1:Hid (Got Y4 (w.heap.size+3) [.string x.fact.rel,.slice vA1 x.fact.args.length vc1] x.fact M1 w2):=Got.later (by repeat (first | refine Got.setCell ?_ (by dsimp only;omega) _ | exact G1.out)) hb2
 have K0:=Lib.hid (Blk.later (Blk.far (Blk.far (Blk.far K0.out (by dsimp only;omega) _) (by dsimp only;omega) _) (by dsimp only;omega) _) hb2)
 have K1:=Lib.hid (Blk.later (Blk.far (Blk.far (Blk.far K1.out (by dsimp only;omega) _) (by dsimp only;omega) _) (by dsimp only;omega) _) hb2)
 have K2:=Lib.hid (Blk.later (Blk.set_ (Blk.set_ (Blk.set_ K2.out 0 _) 1 _) 2 _) hb2)
 clear f0 r0 o0 rz0 oz0 f1 r1 o1 rz1 oz1 f2 r2 o2 rz2 oz2 f3 r3 o3 rz3 oz3
 have f0:=K0.out.at (i:=0) rfl
 have r0:=K1.out.at (i:=0) rfl
 have o0:=K2.out.at (i:=0) rfl
 have rz0:=K1.out.frozen 0
 have oz0:=K2.out.frozen 0
 have f1:=K0.out.at (i:=1) rfl
 have r1:=K1.out.at (i:=1) rfl
 have o1:=K2.out.at (i:=1) rfl
 have rz1:=K1.out.frozen 1
 have oz1:=K2.out.frozen 1
 have f2:=K0.out.at (i:=2) rfl
 have r2:=K1.out.at (i:=2) rfl
 have o2:=K2.out.at (i:=2) rfl
 have rz2:=K1.out.frozen 2
 have oz2:=K2.out.frozen 2
 have f3:=K0.out.at (i:=3) rfl
 have r3:=K1.out.at (i:=3) rfl
 have o3:=K2.out.at (i:=3) rfl
 have rz3:=K1.out.frozen 3
 have oz3:=K2.out.frozen 3
 have hz2:w.heap.size+2<w2.heap.size:=by have:=hb2.size;simp at this;omega
 have hy2:w1.heap.size≤w2.heap.size:=by have:=hb2.size;simp at this;omega
 clear hb2
 go_wp2_with fail
 refine bodyPost_ret (v:=.agg #[.string x.fact.rel,.slice vA1 x.fact.args.length vc1,.string x.rule,.slice vA2 x.uses.length vc2]) (by simp [results,Tryz.results72,go_sem,r0,r1,r2,r3]) rfl ?_
 obtain ⟨_,_,N1,hcs1,hL1,_,nn1,mm1,ss1⟩:=G1.out.rep
 cases hcs1
 subst hL1
 obtain ⟨nn2,mm2,ss2⟩:=ZU G2.out.rep
 exact Zfy (wr:=w2) (M1++M2) ⟨⟨vA1,vc1,M1,vA2,vc2,M2,rfl,rfl,t0,t1,nn1,mm1,ss1,nn2,mm2,ss2⟩,by have o:=(Own.append G1.out.own G2.out.own (by omega) lt1.out);simpa only [List.append_assoc] using o⟩ (by intro b hb;repeat rw [Below.heap_setCell _ _ _ _ (by dsimp only;omega)]) (by repeat (first | refine Below.setCell ?_ (by dsimp only;omega) _ | refine Below.alloc ?_ (by first | (simp;done) | (simp;omega) | omega) _ | exact B2.out))
theorem Tryz.infoStep:(Tryz.prog.info? 107).map (fun i=>(i.zero,i.size,i.bytes))=some (some (.agg #[.string ⟨#[]⟩,.slice none 0 0,.string ⟨#[]⟩,.slice none 0 0]),4,80):=by kernel_rfl
set_option maxHeartbeats 1600000 in
theorem ZDM (A:Option Addr) (n c:Nat) (ds:List Zuw) (L:List Nat) (w:World) (hn:n=ds.length) (hz:Q1 ds≤1048576) (h:Sli ZDz w A ds L):
  Calls Tryz.prog 39 #[.slice A n c] w (Zkp ZDz 107 w ds):=by
 obtain ⟨i0,hi,hz0,hz1,hz2⟩:=info_parts Tryz.infoStep
 have H:=Lib.hid h
 have HN:=Lib.hid hn
 have hm:n≤1048576:=by simp only [Q1] at hz;omega
 have HZ:=Lib.hid hz
 clear h hn hz
 go_enter Tryz.func39,Tryz.ntmps39
 go_wp2_with (at_make;refine wpList_make_full _ rfl _ _ 65 rfl w.heap.size 107 i0 _ 4 Tryz.underlying65 hi hz0 hz1 .i64 .i64 _ _ n rfl rfl rfl rfl (by rw [hz2];omega) (by unfold maxLen;omega) (Nat.le_refl _) ?_;intro w1 hown hg)
 have hb:Below w.heap.size w w1:=(Below.refl _ _).grown hg (Nat.le_refl _) (by simp)
 have HF0:Hid (Z9 ZDz 107 w n ds 0 w1):=Z9.start hown hb
 clear hown hg hb
 go_wp2
 go_loopw [4] (fun i wr=>∃(k:Nat),k≤n∧i=.int .i64 k∧Hid (Z9 ZDz 107 w n ds k wr)) (fun i _=>n - (intOf i).toNat)
 case atStart=>exact ⟨0,Nat.zero_le _,rfl,HF0⟩
 case round=>
  obtain ⟨k,hk,rfl,HF⟩:=hrel
  by_cases hlt:k<n
  ·have hkl:k<ds.length:=by have:=HN.out;omega
   obtain ⟨b,off,cs,Lk,rfl,hbL,hLk,hrep,hc⟩:=H.out.at_ hkl
   have hbl:b<w.heap.size:=H.out.lt b hbL
   have HR:=Lib.hid (ZDz.keep hrep (ZN HF.out.below (fun y m=>H.out.lt y (hLk y m))))
   obtain ⟨A1,c1,A2,c2,rfl⟩:=ZDC hrep
   have q0:wr.cell? ⟨b,off+k * 4,none⟩=_:=(HF.out.below.cell (p:=⟨b,off+(k * 4+0),none⟩) hbl).trans (hc 0 _ rfl)
   have q1:wr.cell? ⟨b,off+k * 4+1,none⟩=_:=(HF.out.below.cell (p:=⟨b,off+(k * 4+1),none⟩) hbl).trans (hc 1 _ rfl)
   have q2:wr.cell? ⟨b,off+k * 4+2,none⟩=_:=(HF.out.below.cell (p:=⟨b,off+(k * 4+2),none⟩) hbl).trans (hc 2 _ rfl)
   have q3:wr.cell? ⟨b,off+k * 4+3,none⟩=_:=(HF.out.below.cell (p:=⟨b,off+(k * 4+3),none⟩) hbl).trans (hc 3 _ rfl)
   have hcx:Hid (Q0 ds[k]≤1048576):=ZjX Q0 ds k hkl (by have:=HZ.out;simp only [Q1] at this;omega)
   obtain ⟨x,hx⟩:∃x,x=ds[k]:=⟨_,rfl⟩
   have HX:=Lib.hid hx
   rw [←hx] at HR q0 q1 q2 q3 hcx
   clear hc hrep hx
   go_wp2_with fail
   refine (ZEg _ x Lk _ hcx.out HR.out).mono ?_
   rintro e w2 ⟨cs2,M2,rfl,g2,hb2⟩
   have HF2:=Lib.hid (HF.out.later hb2)
   have HS:=Lib.hid (HF.out.store hlt HN.out (fun _=>HX.out) hb2 g2)
   obtain ⟨vA1,vc1,vA2,vc2,rfl⟩:=ZDC g2.rep
   clear g2 hb2
   obtain ⟨d0,e0⟩:∃d,w2.cell? ⟨w.heap.size,k * 4,none⟩=some d:=HF2.out.cell hlt (j:=0) (by decide)
   have z0:=HF2.out.frozen (k * 4)
   obtain ⟨d1,e1⟩:∃d,w2.cell? ⟨w.heap.size,k * 4+1,none⟩=some d:=HF2.out.cell hlt (j:=1) (by decide)
   have z1:=HF2.out.frozen (k * 4+1)
   obtain ⟨d2,e2⟩:∃d,w2.cell? ⟨w.heap.size,k * 4+2,none⟩=some d:=HF2.out.cell hlt (j:=2) (by decide)
   have z2:=HF2.out.frozen (k * 4+2)
   obtain ⟨d3,e3⟩:∃d,w2.cell? ⟨w.heap.size,k * 4+3,none⟩=some d:=HF2.out.cell hlt (j:=3) (by decide)
   have z3:=HF2.out.frozen (k * 4+3)
   go_wp2_with fail
   go_roundw
   case rel=>exact ⟨k+1,by omega,by go_num,HS.out⟩
   case measure=>simp [intOf];omega
  ·obtain rfl:k=n:=by omega
   go_wp2
   go_ret
   exact ⟨_,rfl,HF.out.done HN.out⟩
end Go.Proofs.YtojnhepgnbhaaaaGreatDoor
namespace Go.Proofs.YtojnhepgnbhaaaaGreatDoor
open Go.RowKit
def XJ (w:World) (e:Ending) (w':World):Prop:=e=.returned (.bool true)∧Below w.heap.size w w'
set_option maxHeartbeats 1600000 in
theorem Zgw (A B:Option Addr) (n c d:Nat) (ds:List ByteArray) (L M:List Nat) (w:World) (hn:n=ds.length) (hm:n≤9223372036854775807) (h1:Sli Zbm w A ds L) (h2:Sli Zbm w B ds M):
  Calls Tryz.prog 65 #[.slice A n c,.slice B n d] w (XJ w):=by
 have H1:=Lib.hid h1
 have H2:=Lib.hid h2
 have HN:=Lib.hid hn
 clear h1 h2 hn
 have hne:((n:Int) != n)=false:=by simp
 go_enter Tryz.func65,Tryz.ntmps65
 go_wp2
 go_loopw [5] (fun i wr=>∃(k:Nat),k≤n∧i=.int .i64 k∧Hid (∃q,wr=w.drewN q)) (fun i _=>n - (intOf i).toNat)
 case atStart=>exact ⟨0,Nat.zero_le _,rfl,0,rfl⟩
 case round=>
  obtain ⟨k,hk,rfl,hq⟩:=hrel
  obtain ⟨q,rfl⟩:=hq.out
  by_cases hlt:k<n
  ·have hkl:k<ds.length:=by have:=HN.out;omega
   obtain ⟨b,off,cs,Lk,rfl,_,_,hrep,hc⟩:=H1.out.at_ hkl
   obtain ⟨b',off',cs',Mk,rfl,_,_,hrep',hc'⟩:=H2.out.at_ hkl
   generalize ds[k]=x at *
   obtain ⟨rfl,_,_⟩:=hrep
   obtain ⟨rfl,_,_⟩:=hrep'
   have q0:=hc 0 _ rfl
   have p0:=hc' 0 _ rfl
   simp only [show Zbm.size=1 from rfl,Nat.mul_one,Nat.add_zero] at q0 p0
   clear hc hc'
   have k0:(0:Int)≤k:=by omega
   have k1:(k:Int)<n:=by omega
   go_wp2_with fail
   go_quiet (fail)
   go_wp2_with fail
   go_roundw
   case rel=>exact ⟨k+1,by omega,by go_num,by first | exact ZqK _ _ _ | exact Zpj _ _⟩
   case measure=>simp [intOf];omega
  ·go_wp2
   go_ret
   exact ⟨rfl,ZfN _ _ _⟩
set_option maxHeartbeats 1600000 in
theorem Zj6 (A B:Option Addr) (n c d:Nat) (ds:List Int) (L M:List Nat) (w:World) (hn:n=ds.length) (hm:n≤9223372036854775807) (h1:Sli Zgq w A ds L) (h2:Sli Zgq w B ds M):
  Calls Tryz.prog 120 #[.slice A n c,.slice B n d] w (XJ w):=by
 have H1:=Lib.hid h1
 have H2:=Lib.hid h2
 have HN:=Lib.hid hn
 clear h1 h2 hn
 have hne:((n:Int) != n)=false:=by simp
 go_enter Tryz.func120,Tryz.ntmps120
 go_wp2
 go_loopw [5] (fun i wr=>∃(k:Nat),k≤n∧i=.int .i64 k∧Hid (∃q,wr=w.drewN q)) (fun i _=>n - (intOf i).toNat)
 case atStart=>exact ⟨0,Nat.zero_le _,rfl,0,rfl⟩
 case round=>
  obtain ⟨k,hk,rfl,hq⟩:=hrel
  obtain ⟨q,rfl⟩:=hq.out
  by_cases hlt:k<n
  ·have hkl:k<ds.length:=by have:=HN.out;omega
   obtain ⟨b,off,cs,Lk,rfl,_,_,hrep,hc⟩:=H1.out.at_ hkl
   obtain ⟨b',off',cs',Mk,rfl,_,_,hrep',hc'⟩:=H2.out.at_ hkl
   generalize ds[k]=x at *
   obtain ⟨rfl,_⟩:=hrep
   obtain ⟨rfl,_⟩:=hrep'
   have q0:=hc 0 _ rfl
   have p0:=hc' 0 _ rfl
   simp only [show Zgq.size=1 from rfl,Nat.mul_one,Nat.add_zero] at q0 p0
   clear hc hc'
   have k0:(0:Int)≤k:=by omega
   have k1:(k:Int)<n:=by omega
   go_wp2_with fail
   go_quiet (fail)
   go_wp2_with fail
   go_roundw
   case rel=>exact ⟨k+1,by omega,by go_num,by first | exact ZqK _ _ _ | exact Zpj _ _⟩
   case measure=>simp [intOf];omega
  ·go_wp2
   go_ret
   exact ⟨rfl,ZfN _ _ _⟩
set_option maxHeartbeats 1600000 in
theorem ZpY (cs ds:List Value) (x:Zc) (L M:List Nat) (w:World) (h1:Y4.rep w cs x L) (h2:Y4.rep w ds x M):
  Calls Tryz.prog 35 #[.agg cs.toArray,.agg ds.toArray] w (XJ w):=by
 obtain ⟨aA1,ac1,aL1,rfl,_ahL,at0,an1,am1,as1⟩:=h1
 obtain ⟨bA1,bc1,bL1,rfl,_bhL,bt0,bn1,bm1,bs1⟩:=h2
 unfold maxLen at am1 bm1
 have SA1:=Lib.hid as1
 have SB1:=Lib.hid bs1
 clear as1 bs1
 go_enter Tryz.func35,Tryz.ntmps35
 go_wp2_with fail
 refine (Zgw aA1 bA1 _ ac1 bc1 x.args aL1 bL1 _ rfl (by omega) (SA1.out.below (by repeat (first | refine Below.setCell ?_ (by dsimp only;omega) _ | refine Below.alloc ?_ (by first | (simp;done) | (simp;omega) | omega) _ | exact Below.refl _ _))) (SB1.out.below (by repeat (first | refine Below.setCell ?_ (by dsimp only;omega) _ | refine Below.alloc ?_ (by first | (simp;done) | (simp;omega) | omega) _ | exact Below.refl _ _)))).mono ?_
 rintro e w1 ⟨rfl,hb1⟩
 have B1:Hid (Below w.heap.size w w1):=Below.trans (by repeat (first | refine Below.setCell ?_ (by dsimp only;omega) _ | refine Below.alloc ?_ (by first | (simp;done) | (simp;omega) | omega) _ | exact Below.refl _ _)) (hb1.mono (by first | (simp;done) | (simp;omega) | omega))
 have K0:Hid (Blk w1 w.heap.size 57 #[.string x.rel,.slice aA1 x.args.length ac1]):=Blk.later (Blk.alloc (Blk.new _ _ _) _) hb1
 have K1:Hid (Blk w1 (w.heap.size+1) 57 #[.string x.rel,.slice bA1 x.args.length bc1]):=Blk.later (Blk.new_at (by simp)) hb1
 have f0:=K0.out.at (i:=0) rfl
 have r0:=K1.out.at (i:=0) rfl
 have f1:=K0.out.at (i:=1) rfl
 have r1:=K1.out.at (i:=1) rfl
 clear hb1
 have hz1:=B1.out.size
 go_wp2_with fail
 go_ret
 exact ⟨rfl,(by repeat (first | refine Below.setCell ?_ (by dsimp only;omega) _ | refine Below.alloc ?_ (by first | (simp;done) | (simp;omega) | omega) _ | exact B1.out))⟩
set_option maxRecDepth 100000 in
set_option maxHeartbeats 1600000 in
theorem ZdB (A B:Option Addr) (n c d:Nat) (ds:List Zc) (L M:List Nat) (w:World) (hn:n=ds.length) (hm:n≤9223372036854775807) (h1:Sli Y4 w A ds L) (h2:Sli Y4 w B ds M):
  Calls Tryz.prog 15 #[.slice A n c,.slice B n d] w (XJ w):=by
 have H1:=Lib.hid h1
 have H2:=Lib.hid h2
 have HN:=Lib.hid hn
 clear h1 h2 hn
 have hne:((n:Int) != n)=false:=by simp
 go_enter Tryz.func15,Tryz.ntmps15
 go_wp2
 go_loopw [5] (fun i wr=>∃(k:Nat),k≤n∧i=.int .i64 k∧Hid (Below w.heap.size w wr)) (fun i _=>n - (intOf i).toNat)
 case atStart=>exact ⟨0,Nat.zero_le _,rfl,Below.refl _ _⟩
 case round=>
  obtain ⟨k,hk,rfl,HB⟩:=hrel
  by_cases hlt:k<n
  ·have hkl:k<ds.length:=by have:=HN.out;omega
   obtain ⟨b,off,cs,Lk,rfl,hbL,hLk,hrep,hc⟩:=H1.out.at_ hkl
   obtain ⟨b',off',cs',Mk,rfl,hbM,hMk,hrep',hc'⟩:=H2.out.at_ hkl
   have hbl:b<w.heap.size:=H1.out.lt b hbL
   have hbl':b'<w.heap.size:=H2.out.lt b' hbM
   have HR:=Lib.hid (Y4.keep hrep (ZN HB.out (fun y m=>H1.out.lt y (hLk y m))))
   have HR':=Lib.hid (Y4.keep hrep' (ZN HB.out (fun y m=>H2.out.lt y (hMk y m))))
   generalize ds[k]=x at *
   obtain ⟨aA1,ac1,rfl⟩:=Zcc hrep
   obtain ⟨bA1,bc1,rfl⟩:=Zcc hrep'
   have q0:wr.cell? ⟨b,off+k * 2,none⟩=_:=(HB.out.cell (p:=⟨b,off+(k * 2+0),none⟩) hbl).trans (hc 0 _ rfl)
   have p0:wr.cell? ⟨b',off'+k * 2,none⟩=_:=(HB.out.cell (p:=⟨b',off'+(k * 2+0),none⟩) hbl').trans (hc' 0 _ rfl)
   have q1:wr.cell? ⟨b,off+k * 2+1,none⟩=_:=(HB.out.cell (p:=⟨b,off+(k * 2+1),none⟩) hbl).trans (hc 1 _ rfl)
   have p1:wr.cell? ⟨b',off'+k * 2+1,none⟩=_:=(HB.out.cell (p:=⟨b',off'+(k * 2+1),none⟩) hbl').trans (hc' 1 _ rfl)
   clear hc hc' hrep hrep'
   have k0:(0:Int)≤k:=by omega
   have k1:(k:Int)<n:=by omega
   go_wp2_with fail
   go_still_tail 8,(by kernel_rfl)
   change wpList _ _ _ _ _ wr.drew
   go_wp2_with (go_at_call 35;(refine (ZpY _ _ x Lk Mk wr.drew (Y4.keep HR.out (fun _ _=>rfl)) (Y4.keep HR'.out (fun _ _=>rfl))).mono ?_;rintro e w1 ⟨rfl,hb1⟩;have HB1:=Lib.hid (HB.out.drew.trans (hb1.mono HB.out.size));clear hb1))
   go_roundw
   case rel=>exact ⟨k+1,by omega,by go_num,HB1.out⟩
   case measure=>simp [intOf];omega
  ·go_wp2
   go_ret
   exact ⟨rfl,HB.out⟩
set_option maxHeartbeats 1600000 in
theorem ZgT (cs ds:List Value) (x:Zv) (L M:List Nat) (w:World) (h1:ZcY.rep w cs x L) (h2:ZcY.rep w ds x M):
  Calls Tryz.prog 29 #[.agg cs.toArray,.agg ds.toArray] w (XJ w):=by
 obtain ⟨aA1,ac1,aL1,rfl,_ahL,at0,an1,am1,as1⟩:=h1
 obtain ⟨bA1,bc1,bL1,rfl,_bhL,bt0,bn1,bm1,bs1⟩:=h2
 unfold maxLen at am1 bm1
 have SA1:=Lib.hid as1
 have SB1:=Lib.hid bs1
 clear as1 bs1
 go_enter Tryz.func29,Tryz.ntmps29
 go_wp2_with fail
 refine (Zgw aA1 bA1 _ ac1 bc1 x.args aL1 bL1 _ rfl (by omega) (SA1.out.below (by repeat (first | refine Below.setCell ?_ (by dsimp only;omega) _ | refine Below.alloc ?_ (by first | (simp;done) | (simp;omega) | omega) _ | exact Below.refl _ _))) (SB1.out.below (by repeat (first | refine Below.setCell ?_ (by dsimp only;omega) _ | refine Below.alloc ?_ (by first | (simp;done) | (simp;omega) | omega) _ | exact Below.refl _ _)))).mono ?_
 rintro e w1 ⟨rfl,hb1⟩
 have B1:Hid (Below w.heap.size w w1):=Below.trans (by repeat (first | refine Below.setCell ?_ (by dsimp only;omega) _ | refine Below.alloc ?_ (by first | (simp;done) | (simp;omega) | omega) _ | exact Below.refl _ _)) (hb1.mono (by first | (simp;done) | (simp;omega) | omega))
 have K0:Hid (Blk w1 w.heap.size 49 #[.string x.rel,.slice aA1 x.args.length ac1]):=Blk.later (Blk.alloc (Blk.new _ _ _) _) hb1
 have K1:Hid (Blk w1 (w.heap.size+1) 49 #[.string x.rel,.slice bA1 x.args.length bc1]):=Blk.later (Blk.new_at (by simp)) hb1
 have f0:=K0.out.at (i:=0) rfl
 have r0:=K1.out.at (i:=0) rfl
 have f1:=K0.out.at (i:=1) rfl
 have r1:=K1.out.at (i:=1) rfl
 clear hb1
 have hz1:=B1.out.size
 go_wp2_with fail
 go_ret
 exact ⟨rfl,(by repeat (first | refine Below.setCell ?_ (by dsimp only;omega) _ | refine Below.alloc ?_ (by first | (simp;done) | (simp;omega) | omega) _ | exact B1.out))⟩
set_option maxHeartbeats 1600000 in
theorem ZpW (cs ds:List Value) (x:Zm) (L M:List Nat) (w:World) (h1:XV.rep w cs x L) (h2:XV.rep w ds x M):
  Calls Tryz.prog 141 #[.agg cs.toArray,.agg ds.toArray] w (XJ w):=by
 obtain ⟨aA1,ac1,aL1,rfl,_ahL,at0,at1,at2,an1,am1,as1⟩:=h1
 obtain ⟨bA1,bc1,bL1,rfl,_bhL,bt0,bt1,bt2,bn1,bm1,bs1⟩:=h2
 unfold maxLen at am1 bm1
 have SA1:=Lib.hid as1
 have SB1:=Lib.hid bs1
 clear as1 bs1
 go_enter Tryz.func141,Tryz.ntmps141
 go_wp2_with fail
 refine (ZgT [.string x.pattern.rel,.slice aA1 x.pattern.args.length ac1] [.string x.pattern.rel,.slice bA1 x.pattern.args.length bc1] x.pattern _ _ _ ⟨aA1,ac1,aL1,rfl,rfl,at0,an1,(by unfold maxLen;omega),SA1.out.below (by repeat (first | refine Below.setCell ?_ (by dsimp only;omega) _ | refine Below.alloc ?_ (by first | (simp;done) | (simp;omega) | omega) _ | exact Below.refl _ _))⟩ ⟨bA1,bc1,bL1,rfl,rfl,bt0,bn1,(by unfold maxLen;omega),SB1.out.below (by repeat (first | refine Below.setCell ?_ (by dsimp only;omega) _ | refine Below.alloc ?_ (by first | (simp;done) | (simp;omega) | omega) _ | exact Below.refl _ _))⟩).mono ?_
 rintro e w1 ⟨rfl,hb1⟩
 have B1:Hid (Below w.heap.size w w1):=Below.trans (by repeat (first | refine Below.setCell ?_ (by dsimp only;omega) _ | refine Below.alloc ?_ (by first | (simp;done) | (simp;omega) | omega) _ | exact Below.refl _ _)) (hb1.mono (by first | (simp;done) | (simp;omega) | omega))
 have K0:Hid (Blk w1 w.heap.size 130 #[.int .i64 x.kind,.string x.pattern.rel,.slice aA1 x.pattern.args.length ac1,.string x.left,.string x.right]):=Blk.later (Blk.alloc (Blk.new _ _ _) _) hb1
 have K1:Hid (Blk w1 (w.heap.size+1) 130 #[.int .i64 x.kind,.string x.pattern.rel,.slice bA1 x.pattern.args.length bc1,.string x.left,.string x.right]):=Blk.later (Blk.new_at (by simp)) hb1
 have f0:=K0.out.at (i:=0) rfl
 have r0:=K1.out.at (i:=0) rfl
 have f1:=K0.out.at (i:=1) rfl
 have r1:=K1.out.at (i:=1) rfl
 have f2:=K0.out.at (i:=2) rfl
 have r2:=K1.out.at (i:=2) rfl
 have f3:=K0.out.at (i:=3) rfl
 have r3:=K1.out.at (i:=3) rfl
 have f4:=K0.out.at (i:=4) rfl
 have r4:=K1.out.at (i:=4) rfl
 clear hb1
 have hz1:=B1.out.size
 go_wp2_with fail
 go_ret
 exact ⟨rfl,(by repeat (first | refine Below.setCell ?_ (by dsimp only;omega) _ | refine Below.alloc ?_ (by first | (simp;done) | (simp;omega) | omega) _ | exact B1.out))⟩
set_option maxRecDepth 100000 in
set_option maxHeartbeats 1600000 in
theorem Zoo (A B:Option Addr) (n c d:Nat) (ds:List Zm) (L M:List Nat) (w:World) (hn:n=ds.length) (hm:n≤9223372036854775807) (h1:Sli XV w A ds L) (h2:Sli XV w B ds M):
  Calls Tryz.prog 93 #[.slice A n c,.slice B n d] w (XJ w):=by
 have H1:=Lib.hid h1
 have H2:=Lib.hid h2
 have HN:=Lib.hid hn
 clear h1 h2 hn
 have hne:((n:Int) != n)=false:=by simp
 go_enter Tryz.func93,Tryz.ntmps93
 go_wp2
 go_loopw [5] (fun i wr=>∃(k:Nat),k≤n∧i=.int .i64 k∧Hid (Below w.heap.size w wr)) (fun i _=>n - (intOf i).toNat)
 case atStart=>exact ⟨0,Nat.zero_le _,rfl,Below.refl _ _⟩
 case round=>
  obtain ⟨k,hk,rfl,HB⟩:=hrel
  by_cases hlt:k<n
  ·have hkl:k<ds.length:=by have:=HN.out;omega
   obtain ⟨b,off,cs,Lk,rfl,hbL,hLk,hrep,hc⟩:=H1.out.at_ hkl
   obtain ⟨b',off',cs',Mk,rfl,hbM,hMk,hrep',hc'⟩:=H2.out.at_ hkl
   have hbl:b<w.heap.size:=H1.out.lt b hbL
   have hbl':b'<w.heap.size:=H2.out.lt b' hbM
   have HR:=Lib.hid (XV.keep hrep (ZN HB.out (fun y m=>H1.out.lt y (hLk y m))))
   have HR':=Lib.hid (XV.keep hrep' (ZN HB.out (fun y m=>H2.out.lt y (hMk y m))))
   generalize ds[k]=x at *
   obtain ⟨aA1,ac1,rfl⟩:=Zcb hrep
   obtain ⟨bA1,bc1,rfl⟩:=Zcb hrep'
   have q0:wr.cell? ⟨b,off+k * 5,none⟩=_:=(HB.out.cell (p:=⟨b,off+(k * 5+0),none⟩) hbl).trans (hc 0 _ rfl)
   have p0:wr.cell? ⟨b',off'+k * 5,none⟩=_:=(HB.out.cell (p:=⟨b',off'+(k * 5+0),none⟩) hbl').trans (hc' 0 _ rfl)
   have q1:wr.cell? ⟨b,off+k * 5+1,none⟩=_:=(HB.out.cell (p:=⟨b,off+(k * 5+1),none⟩) hbl).trans (hc 1 _ rfl)
   have p1:wr.cell? ⟨b',off'+k * 5+1,none⟩=_:=(HB.out.cell (p:=⟨b',off'+(k * 5+1),none⟩) hbl').trans (hc' 1 _ rfl)
   have q2:wr.cell? ⟨b,off+k * 5+2,none⟩=_:=(HB.out.cell (p:=⟨b,off+(k * 5+2),none⟩) hbl).trans (hc 2 _ rfl)
   have p2:wr.cell? ⟨b',off'+k * 5+2,none⟩=_:=(HB.out.cell (p:=⟨b',off'+(k * 5+2),none⟩) hbl').trans (hc' 2 _ rfl)
   have q3:wr.cell? ⟨b,off+k * 5+3,none⟩=_:=(HB.out.cell (p:=⟨b,off+(k * 5+3),none⟩) hbl).trans (hc 3 _ rfl)
   have p3:wr.cell? ⟨b',off'+k * 5+3,none⟩=_:=(HB.out.cell (p:=⟨b',off'+(k * 5+3),none⟩) hbl').trans (hc' 3 _ rfl)
   have q4:wr.cell? ⟨b,off+k * 5+4,none⟩=_:=(HB.out.cell (p:=⟨b,off+(k * 5+4),none⟩) hbl).trans (hc 4 _ rfl)
   have p4:wr.cell? ⟨b',off'+k * 5+4,none⟩=_:=(HB.out.cell (p:=⟨b',off'+(k * 5+4),none⟩) hbl').trans (hc' 4 _ rfl)
   clear hc hc' hrep hrep'
   have k0:(0:Int)≤k:=by omega
   have k1:(k:Int)<n:=by omega
   go_wp2_with fail
   go_still_tail 8,(by kernel_rfl)
   change wpList _ _ _ _ _ wr.drew
   go_wp2_with (go_at_call 141;(refine (ZpW _ _ x Lk Mk wr.drew (XV.keep HR.out (fun _ _=>rfl)) (XV.keep HR'.out (fun _ _=>rfl))).mono ?_;rintro e w1 ⟨rfl,hb1⟩;have HB1:=Lib.hid (HB.out.drew.trans (hb1.mono HB.out.size));clear hb1))
   go_roundw
   case rel=>exact ⟨k+1,by omega,by go_num,HB1.out⟩
   case measure=>simp [intOf];omega
  ·go_wp2
   go_ret
   exact ⟨rfl,HB.out⟩
set_option maxHeartbeats 1600000 in
theorem Zm8 (cs ds:List Value) (x:Zr) (L M:List Nat) (w:World) (h1:Yk.rep w cs x L) (h2:Yk.rep w ds x M):
  Calls Tryz.prog 142 #[.agg cs.toArray,.agg ds.toArray] w (XJ w):=by
 obtain ⟨aA1,ac1,aL1,rfl,_ahL,at0,an1,am1,as1⟩:=h1
 obtain ⟨bA1,bc1,bL1,rfl,_bhL,bt0,bn1,bm1,bs1⟩:=h2
 unfold maxLen at am1 bm1
 have SA1:=Lib.hid as1
 have SB1:=Lib.hid bs1
 clear as1 bs1
 go_enter Tryz.func142,Tryz.ntmps142
 go_wp2_with fail
 refine (ZgT [.string x.pattern.rel,.slice aA1 x.pattern.args.length ac1] [.string x.pattern.rel,.slice bA1 x.pattern.args.length bc1] x.pattern _ _ _ ⟨aA1,ac1,aL1,rfl,rfl,at0,an1,(by unfold maxLen;omega),SA1.out.below (by repeat (first | refine Below.setCell ?_ (by dsimp only;omega) _ | refine Below.alloc ?_ (by first | (simp;done) | (simp;omega) | omega) _ | exact Below.refl _ _))⟩ ⟨bA1,bc1,bL1,rfl,rfl,bt0,bn1,(by unfold maxLen;omega),SB1.out.below (by repeat (first | refine Below.setCell ?_ (by dsimp only;omega) _ | refine Below.alloc ?_ (by first | (simp;done) | (simp;omega) | omega) _ | exact Below.refl _ _))⟩).mono ?_
 rintro e w1 ⟨rfl,hb1⟩
 have B1:Hid (Below w.heap.size w w1):=Below.trans (by repeat (first | refine Below.setCell ?_ (by dsimp only;omega) _ | refine Below.alloc ?_ (by first | (simp;done) | (simp;omega) | omega) _ | exact Below.refl _ _)) (hb1.mono (by first | (simp;done) | (simp;omega) | omega))
 have K0:Hid (Blk w1 w.heap.size 134 #[.int .i64 x.kind,.string x.pattern.rel,.slice aA1 x.pattern.args.length ac1]):=Blk.later (Blk.alloc (Blk.new _ _ _) _) hb1
 have K1:Hid (Blk w1 (w.heap.size+1) 134 #[.int .i64 x.kind,.string x.pattern.rel,.slice bA1 x.pattern.args.length bc1]):=Blk.later (Blk.new_at (by simp)) hb1
 have f0:=K0.out.at (i:=0) rfl
 have r0:=K1.out.at (i:=0) rfl
 have f1:=K0.out.at (i:=1) rfl
 have r1:=K1.out.at (i:=1) rfl
 have f2:=K0.out.at (i:=2) rfl
 have r2:=K1.out.at (i:=2) rfl
 clear hb1
 have hz1:=B1.out.size
 go_wp2_with fail
 go_ret
 exact ⟨rfl,(by repeat (first | refine Below.setCell ?_ (by dsimp only;omega) _ | refine Below.alloc ?_ (by first | (simp;done) | (simp;omega) | omega) _ | exact B1.out))⟩
set_option maxRecDepth 100000 in
set_option maxHeartbeats 1600000 in
theorem ZlT (A B:Option Addr) (n c d:Nat) (ds:List Zr) (L M:List Nat) (w:World) (hn:n=ds.length) (hm:n≤9223372036854775807) (h1:Sli Yk w A ds L) (h2:Sli Yk w B ds M):
  Calls Tryz.prog 94 #[.slice A n c,.slice B n d] w (XJ w):=by
 have H1:=Lib.hid h1
 have H2:=Lib.hid h2
 have HN:=Lib.hid hn
 clear h1 h2 hn
 have hne:((n:Int) != n)=false:=by simp
 go_enter Tryz.func94,Tryz.ntmps94
 go_wp2
 go_loopw [5] (fun i wr=>∃(k:Nat),k≤n∧i=.int .i64 k∧Hid (Below w.heap.size w wr)) (fun i _=>n - (intOf i).toNat)
 case atStart=>exact ⟨0,Nat.zero_le _,rfl,Below.refl _ _⟩
 case round=>
  obtain ⟨k,hk,rfl,HB⟩:=hrel
  by_cases hlt:k<n
  ·have hkl:k<ds.length:=by have:=HN.out;omega
   obtain ⟨b,off,cs,Lk,rfl,hbL,hLk,hrep,hc⟩:=H1.out.at_ hkl
   obtain ⟨b',off',cs',Mk,rfl,hbM,hMk,hrep',hc'⟩:=H2.out.at_ hkl
   have hbl:b<w.heap.size:=H1.out.lt b hbL
   have hbl':b'<w.heap.size:=H2.out.lt b' hbM
   have HR:=Lib.hid (Yk.keep hrep (ZN HB.out (fun y m=>H1.out.lt y (hLk y m))))
   have HR':=Lib.hid (Yk.keep hrep' (ZN HB.out (fun y m=>H2.out.lt y (hMk y m))))
   generalize ds[k]=x at *
   obtain ⟨aA1,ac1,rfl⟩:=Q9 hrep
   obtain ⟨bA1,bc1,rfl⟩:=Q9 hrep'
   have q0:wr.cell? ⟨b,off+k * 3,none⟩=_:=(HB.out.cell (p:=⟨b,off+(k * 3+0),none⟩) hbl).trans (hc 0 _ rfl)
   have p0:wr.cell? ⟨b',off'+k * 3,none⟩=_:=(HB.out.cell (p:=⟨b',off'+(k * 3+0),none⟩) hbl').trans (hc' 0 _ rfl)
   have q1:wr.cell? ⟨b,off+k * 3+1,none⟩=_:=(HB.out.cell (p:=⟨b,off+(k * 3+1),none⟩) hbl).trans (hc 1 _ rfl)
   have p1:wr.cell? ⟨b',off'+k * 3+1,none⟩=_:=(HB.out.cell (p:=⟨b',off'+(k * 3+1),none⟩) hbl').trans (hc' 1 _ rfl)
   have q2:wr.cell? ⟨b,off+k * 3+2,none⟩=_:=(HB.out.cell (p:=⟨b,off+(k * 3+2),none⟩) hbl).trans (hc 2 _ rfl)
   have p2:wr.cell? ⟨b',off'+k * 3+2,none⟩=_:=(HB.out.cell (p:=⟨b',off'+(k * 3+2),none⟩) hbl').trans (hc' 2 _ rfl)
   clear hc hc' hrep hrep'
   have k0:(0:Int)≤k:=by omega
   have k1:(k:Int)<n:=by omega
   go_wp2_with fail
   go_still_tail 8,(by kernel_rfl)
   change wpList _ _ _ _ _ wr.drew
   go_wp2_with (go_at_call 142;(refine (Zm8 _ _ x Lk Mk wr.drew (Yk.keep HR.out (fun _ _=>rfl)) (Yk.keep HR'.out (fun _ _=>rfl))).mono ?_;rintro e w1 ⟨rfl,hb1⟩;have HB1:=Lib.hid (HB.out.drew.trans (hb1.mono HB.out.size));clear hb1))
   go_roundw
   case rel=>exact ⟨k+1,by omega,by go_num,HB1.out⟩
   case measure=>simp [intOf];omega
  ·go_wp2
   go_ret
   exact ⟨rfl,HB.out⟩
set_option maxHeartbeats 1600000 in
theorem ZpF (cs ds:List Value) (x:Zf) (L M:List Nat) (w:World) (h1:XU.rep w cs x L) (h2:XU.rep w ds x M):
  Calls Tryz.prog 49 #[.agg cs.toArray,.agg ds.toArray] w (XJ w):=by
 obtain ⟨aA1,ac1,aL1,aA2,ac2,aL2,rfl,_ahL,at0,an1,am1,as1,an2,am2,as2⟩:=h1
 obtain ⟨bA1,bc1,bL1,bA2,bc2,bL2,rfl,_bhL,bt0,bn1,bm1,bs1,bn2,bm2,bs2⟩:=h2
 unfold maxLen at am1 bm1 am2 bm2
 have SA1:=Lib.hid as1
 have SB1:=Lib.hid bs1
 clear as1 bs1
 have SA2:=Lib.hid as2
 have SB2:=Lib.hid bs2
 clear as2 bs2
 go_enter Tryz.func49,Tryz.ntmps49
 go_wp2_with fail
 refine (Zoo aA1 bA1 _ ac1 bc1 x.cond aL1 bL1 _ rfl (by omega) (SA1.out.below (by repeat (first | refine Below.setCell ?_ (by dsimp only;omega) _ | refine Below.alloc ?_ (by first | (simp;done) | (simp;omega) | omega) _ | exact Below.refl _ _))) (SB1.out.below (by repeat (first | refine Below.setCell ?_ (by dsimp only;omega) _ | refine Below.alloc ?_ (by first | (simp;done) | (simp;omega) | omega) _ | exact Below.refl _ _)))).mono ?_
 rintro e w1 ⟨rfl,hb1⟩
 have B1:Hid (Below w.heap.size w w1):=Below.trans (by repeat (first | refine Below.setCell ?_ (by dsimp only;omega) _ | refine Below.alloc ?_ (by first | (simp;done) | (simp;omega) | omega) _ | exact Below.refl _ _)) (hb1.mono (by first | (simp;done) | (simp;omega) | omega))
 have K0:Hid (Blk w1 w.heap.size 82 #[.string x.name,.int .i64 x.priority,.slice aA1 x.cond.length ac1,.slice aA2 x.thn.length ac2]):=Blk.later (Blk.alloc (Blk.new _ _ _) _) hb1
 have K1:Hid (Blk w1 (w.heap.size+1) 82 #[.string x.name,.int .i64 x.priority,.slice bA1 x.cond.length bc1,.slice bA2 x.thn.length bc2]):=Blk.later (Blk.new_at (by simp)) hb1
 have f0:=K0.out.at (i:=0) rfl
 have r0:=K1.out.at (i:=0) rfl
 have f1:=K0.out.at (i:=1) rfl
 have r1:=K1.out.at (i:=1) rfl
 have f2:=K0.out.at (i:=2) rfl
 have r2:=K1.out.at (i:=2) rfl
 have f3:=K0.out.at (i:=3) rfl
 have r3:=K1.out.at (i:=3) rfl
 clear hb1
 have hz1:=B1.out.size
 go_wp2_with fail
 refine (ZlT aA2 bA2 _ ac2 bc2 x.thn aL2 bL2 _ rfl (by omega) (SA2.out.below (by repeat (first | refine Below.setCell ?_ (by dsimp only;omega) _ | refine Below.alloc ?_ (by first | (simp;done) | (simp;omega) | omega) _ | exact B1.out))) (SB2.out.below (by repeat (first | refine Below.setCell ?_ (by dsimp only;omega) _ | refine Below.alloc ?_ (by first | (simp;done) | (simp;omega) | omega) _ | exact B1.out)))).mono ?_
 rintro e w2 ⟨rfl,hb2⟩
 have B2:Hid (Below w.heap.size w w2):=Below.trans (by repeat (first | refine Below.setCell ?_ (by dsimp only;omega) _ | refine Below.alloc ?_ (by first | (simp;done) | (simp;omega) | omega) _ | exact B1.out)) (hb2.mono (by first | (simp;done) | (simp;omega) | omega))
 have K0:=Lib.hid (K0.out.later hb2)
 have K1:=Lib.hid (K1.out.later hb2)
 clear f0 r0 f1 r1 f2 r2 f3 r3
 have f0:=K0.out.at (i:=0) rfl
 have r0:=K1.out.at (i:=0) rfl
 have f1:=K0.out.at (i:=1) rfl
 have r1:=K1.out.at (i:=1) rfl
 have f2:=K0.out.at (i:=2) rfl
 have r2:=K1.out.at (i:=2) rfl
 have f3:=K0.out.at (i:=3) rfl
 have r3:=K1.out.at (i:=3) rfl
 clear hb2
 have hz2:=B2.out.size
 go_wp2_with fail
 go_ret
 exact ⟨rfl,(by repeat (first | refine Below.setCell ?_ (by dsimp only;omega) _ | refine Below.alloc ?_ (by first | (simp;done) | (simp;omega) | omega) _ | exact B2.out))⟩
set_option maxRecDepth 100000 in
set_option maxHeartbeats 1600000 in
theorem ZoU (A B:Option Addr) (n c d:Nat) (ds:List Zf) (L M:List Nat) (w:World) (hn:n=ds.length) (hm:n≤9223372036854775807) (h1:Sli XU w A ds L) (h2:Sli XU w B ds M):
  Calls Tryz.prog 17 #[.slice A n c,.slice B n d] w (XJ w):=by
 have H1:=Lib.hid h1
 have H2:=Lib.hid h2
 have HN:=Lib.hid hn
 clear h1 h2 hn
 have hne:((n:Int) != n)=false:=by simp
 go_enter Tryz.func17,Tryz.ntmps17
 go_wp2
 go_loopw [5] (fun i wr=>∃(k:Nat),k≤n∧i=.int .i64 k∧Hid (Below w.heap.size w wr)) (fun i _=>n - (intOf i).toNat)
 case atStart=>exact ⟨0,Nat.zero_le _,rfl,Below.refl _ _⟩
 case round=>
  obtain ⟨k,hk,rfl,HB⟩:=hrel
  by_cases hlt:k<n
  ·have hkl:k<ds.length:=by have:=HN.out;omega
   obtain ⟨b,off,cs,Lk,rfl,hbL,hLk,hrep,hc⟩:=H1.out.at_ hkl
   obtain ⟨b',off',cs',Mk,rfl,hbM,hMk,hrep',hc'⟩:=H2.out.at_ hkl
   have hbl:b<w.heap.size:=H1.out.lt b hbL
   have hbl':b'<w.heap.size:=H2.out.lt b' hbM
   have HR:=Lib.hid (XU.keep hrep (ZN HB.out (fun y m=>H1.out.lt y (hLk y m))))
   have HR':=Lib.hid (XU.keep hrep' (ZN HB.out (fun y m=>H2.out.lt y (hMk y m))))
   generalize ds[k]=x at *
   obtain ⟨aA1,ac1,aA2,ac2,rfl⟩:=Zb5 hrep
   obtain ⟨bA1,bc1,bA2,bc2,rfl⟩:=Zb5 hrep'
   have q0:wr.cell? ⟨b,off+k * 4,none⟩=_:=(HB.out.cell (p:=⟨b,off+(k * 4+0),none⟩) hbl).trans (hc 0 _ rfl)
   have p0:wr.cell? ⟨b',off'+k * 4,none⟩=_:=(HB.out.cell (p:=⟨b',off'+(k * 4+0),none⟩) hbl').trans (hc' 0 _ rfl)
   have q1:wr.cell? ⟨b,off+k * 4+1,none⟩=_:=(HB.out.cell (p:=⟨b,off+(k * 4+1),none⟩) hbl).trans (hc 1 _ rfl)
   have p1:wr.cell? ⟨b',off'+k * 4+1,none⟩=_:=(HB.out.cell (p:=⟨b',off'+(k * 4+1),none⟩) hbl').trans (hc' 1 _ rfl)
   have q2:wr.cell? ⟨b,off+k * 4+2,none⟩=_:=(HB.out.cell (p:=⟨b,off+(k * 4+2),none⟩) hbl).trans (hc 2 _ rfl)
   have p2:wr.cell? ⟨b',off'+k * 4+2,none⟩=_:=(HB.out.cell (p:=⟨b',off'+(k * 4+2),none⟩) hbl').trans (hc' 2 _ rfl)
   have q3:wr.cell? ⟨b,off+k * 4+3,none⟩=_:=(HB.out.cell (p:=⟨b,off+(k * 4+3),none⟩) hbl).trans (hc 3 _ rfl)
   have p3:wr.cell? ⟨b',off'+k * 4+3,none⟩=_:=(HB.out.cell (p:=⟨b',off'+(k * 4+3),none⟩) hbl').trans (hc' 3 _ rfl)
   clear hc hc' hrep hrep'
   have k0:(0:Int)≤k:=by omega
   have k1:(k:Int)<n:=by omega
   go_wp2_with fail
   go_still_tail 8,(by kernel_rfl)
   change wpList _ _ _ _ _ wr.drew
   go_wp2_with (go_at_call 49;(refine (ZpF _ _ x Lk Mk wr.drew (XU.keep HR.out (fun _ _=>rfl)) (XU.keep HR'.out (fun _ _=>rfl))).mono ?_;rintro e w1 ⟨rfl,hb1⟩;have HB1:=Lib.hid (HB.out.drew.trans (hb1.mono HB.out.size));clear hb1))
   go_roundw
   case rel=>exact ⟨k+1,by omega,by go_num,HB1.out⟩
   case measure=>simp [intOf];omega
  ·go_wp2
   go_ret
   exact ⟨rfl,HB.out⟩
set_option maxHeartbeats 1600000 in
theorem ZEk (cs ds:List Value) (x:Zuw) (L M:List Nat) (w:World) (h1:ZDz.rep w cs x L) (h2:ZDz.rep w ds x M):
  Calls Tryz.prog 74 #[.agg cs.toArray,.agg ds.toArray] w (XJ w):=by
 obtain ⟨aA1,ac1,aL1,aA2,ac2,aL2,rfl,_ahL,at0,at1,an1,am1,as1,an2,am2,as2⟩:=h1
 obtain ⟨bA1,bc1,bL1,bA2,bc2,bL2,rfl,_bhL,bt0,bt1,bn1,bm1,bs1,bn2,bm2,bs2⟩:=h2
 unfold maxLen at am1 bm1 am2 bm2
 have SA1:=Lib.hid as1
 have SB1:=Lib.hid bs1
 clear as1 bs1
 have SA2:=Lib.hid as2
 have SB2:=Lib.hid bs2
 clear as2 bs2
 go_enter Tryz.func74,Tryz.ntmps74
 go_wp2_with fail
 refine (ZpY [.string x.fact.rel,.slice aA1 x.fact.args.length ac1] [.string x.fact.rel,.slice bA1 x.fact.args.length bc1] x.fact _ _ _ ⟨aA1,ac1,aL1,rfl,rfl,at0,an1,(by unfold maxLen;omega),SA1.out.below (by repeat (first | refine Below.setCell ?_ (by dsimp only;omega) _ | refine Below.alloc ?_ (by first | (simp;done) | (simp;omega) | omega) _ | exact Below.refl _ _))⟩ ⟨bA1,bc1,bL1,rfl,rfl,bt0,bn1,(by unfold maxLen;omega),SB1.out.below (by repeat (first | refine Below.setCell ?_ (by dsimp only;omega) _ | refine Below.alloc ?_ (by first | (simp;done) | (simp;omega) | omega) _ | exact Below.refl _ _))⟩).mono ?_
 rintro e w1 ⟨rfl,hb1⟩
 have B1:Hid (Below w.heap.size w w1):=Below.trans (by repeat (first | refine Below.setCell ?_ (by dsimp only;omega) _ | refine Below.alloc ?_ (by first | (simp;done) | (simp;omega) | omega) _ | exact Below.refl _ _)) (hb1.mono (by first | (simp;done) | (simp;omega) | omega))
 have K0:Hid (Blk w1 w.heap.size 107 #[.string x.fact.rel,.slice aA1 x.fact.args.length ac1,.string x.rule,.slice aA2 x.uses.length ac2]):=Blk.later (Blk.alloc (Blk.new _ _ _) _) hb1
 have K1:Hid (Blk w1 (w.heap.size+1) 107 #[.string x.fact.rel,.slice bA1 x.fact.args.length bc1,.string x.rule,.slice bA2 x.uses.length bc2]):=Blk.later (Blk.new_at (by simp)) hb1
 have f0:=K0.out.at (i:=0) rfl
 have r0:=K1.out.at (i:=0) rfl
 have f1:=K0.out.at (i:=1) rfl
 have r1:=K1.out.at (i:=1) rfl
 have f2:=K0.out.at (i:=2) rfl
 have r2:=K1.out.at (i:=2) rfl
 have f3:=K0.out.at (i:=3) rfl
 have r3:=K1.out.at (i:=3) rfl
 clear hb1
 have hz1:=B1.out.size
 go_wp2_with fail
 refine (Zj6 aA2 bA2 _ ac2 bc2 x.uses aL2 bL2 _ rfl (by omega) (SA2.out.below (by repeat (first | refine Below.setCell ?_ (by dsimp only;omega) _ | refine Below.alloc ?_ (by first | (simp;done) | (simp;omega) | omega) _ | exact B1.out))) (SB2.out.below (by repeat (first | refine Below.setCell ?_ (by dsimp only;omega) _ | refine Below.alloc ?_ (by first | (simp;done) | (simp;omega) | omega) _ | exact B1.out)))).mono ?_
 rintro e w2 ⟨rfl,hb2⟩
 have B2:Hid (Below w.heap.size w w2):=Below.trans (by repeat (first | refine Below.setCell ?_ (by dsimp only;omega) _ | refine Below.alloc ?_ (by first | (simp;done) | (simp;omega) | omega) _ | exact B1.out)) (hb2.mono (by first | (simp;done) | (simp;omega) | omega))
 have K0:=Lib.hid (K0.out.later hb2)
 have K1:=Lib.hid (K1.out.later hb2)
 clear f0 r0 f1 r1 f2 r2 f3 r3
 have f0:=K0.out.at (i:=0) rfl
 have r0:=K1.out.at (i:=0) rfl
 have f1:=K0.out.at (i:=1) rfl
 have r1:=K1.out.at (i:=1) rfl
 have f2:=K0.out.at (i:=2) rfl
 have r2:=K1.out.at (i:=2) rfl
 have f3:=K0.out.at (i:=3) rfl
 have r3:=K1.out.at (i:=3) rfl
 clear hb2
 have hz2:=B2.out.size
 go_wp2_with fail
 go_ret
 exact ⟨rfl,(by repeat (first | refine Below.setCell ?_ (by dsimp only;omega) _ | refine Below.alloc ?_ (by first | (simp;done) | (simp;omega) | omega) _ | exact B2.out))⟩
set_option maxRecDepth 100000 in
set_option maxHeartbeats 1600000 in
theorem ZEf (A B:Option Addr) (n c d:Nat) (ds:List Zuw) (L M:List Nat) (w:World) (hn:n=ds.length) (hm:n≤9223372036854775807) (h1:Sli ZDz w A ds L) (h2:Sli ZDz w B ds M):
  Calls Tryz.prog 41 #[.slice A n c,.slice B n d] w (XJ w):=by
 have H1:=Lib.hid h1
 have H2:=Lib.hid h2
 have HN:=Lib.hid hn
 clear h1 h2 hn
 have hne:((n:Int) != n)=false:=by simp
 go_enter Tryz.func41,Tryz.ntmps41
 go_wp2
 go_loopw [5] (fun i wr=>∃(k:Nat),k≤n∧i=.int .i64 k∧Hid (Below w.heap.size w wr)) (fun i _=>n - (intOf i).toNat)
 case atStart=>exact ⟨0,Nat.zero_le _,rfl,Below.refl _ _⟩
 case round=>
  obtain ⟨k,hk,rfl,HB⟩:=hrel
  by_cases hlt:k<n
  ·have hkl:k<ds.length:=by have:=HN.out;omega
   obtain ⟨b,off,cs,Lk,rfl,hbL,hLk,hrep,hc⟩:=H1.out.at_ hkl
   obtain ⟨b',off',cs',Mk,rfl,hbM,hMk,hrep',hc'⟩:=H2.out.at_ hkl
   have hbl:b<w.heap.size:=H1.out.lt b hbL
   have hbl':b'<w.heap.size:=H2.out.lt b' hbM
   have HR:=Lib.hid (ZDz.keep hrep (ZN HB.out (fun y m=>H1.out.lt y (hLk y m))))
   have HR':=Lib.hid (ZDz.keep hrep' (ZN HB.out (fun y m=>H2.out.lt y (hMk y m))))
   generalize ds[k]=x at *
   obtain ⟨aA1,ac1,aA2,ac2,rfl⟩:=ZDC hrep
   obtain ⟨bA1,bc1,bA2,bc2,rfl⟩:=ZDC hrep'
   have q0:wr.cell? ⟨b,off+k * 4,none⟩=_:=(HB.out.cell (p:=⟨b,off+(k * 4+0),none⟩) hbl).trans (hc 0 _ rfl)
   have p0:wr.cell? ⟨b',off'+k * 4,none⟩=_:=(HB.out.cell (p:=⟨b',off'+(k * 4+0),none⟩) hbl').trans (hc' 0 _ rfl)
   have q1:wr.cell? ⟨b,off+k * 4+1,none⟩=_:=(HB.out.cell (p:=⟨b,off+(k * 4+1),none⟩) hbl).trans (hc 1 _ rfl)
   have p1:wr.cell? ⟨b',off'+k * 4+1,none⟩=_:=(HB.out.cell (p:=⟨b',off'+(k * 4+1),none⟩) hbl').trans (hc' 1 _ rfl)
   have q2:wr.cell? ⟨b,off+k * 4+2,none⟩=_:=(HB.out.cell (p:=⟨b,off+(k * 4+2),none⟩) hbl).trans (hc 2 _ rfl)
   have p2:wr.cell? ⟨b',off'+k * 4+2,none⟩=_:=(HB.out.cell (p:=⟨b',off'+(k * 4+2),none⟩) hbl').trans (hc' 2 _ rfl)
   have q3:wr.cell? ⟨b,off+k * 4+3,none⟩=_:=(HB.out.cell (p:=⟨b,off+(k * 4+3),none⟩) hbl).trans (hc 3 _ rfl)
   have p3:wr.cell? ⟨b',off'+k * 4+3,none⟩=_:=(HB.out.cell (p:=⟨b',off'+(k * 4+3),none⟩) hbl').trans (hc' 3 _ rfl)
   clear hc hc' hrep hrep'
   have k0:(0:Int)≤k:=by omega
   have k1:(k:Int)<n:=by omega
   go_wp2_with fail
   go_still_tail 8,(by kernel_rfl)
   change wpList _ _ _ _ _ wr.drew
   go_wp2_with (go_at_call 74;(refine (ZEk _ _ x Lk Mk wr.drew (ZDz.keep HR.out (fun _ _=>rfl)) (ZDz.keep HR'.out (fun _ _=>rfl))).mono ?_;rintro e w1 ⟨rfl,hb1⟩;have HB1:=Lib.hid (HB.out.drew.trans (hb1.mono HB.out.size));clear hb1))
   go_roundw
   case rel=>exact ⟨k+1,by omega,by go_num,HB1.out⟩
   case measure=>simp [intOf];omega
  ·go_wp2
   go_ret
   exact ⟨rfl,HB.out⟩
end Go.Proofs.YtojnhepgnbhaaaaGreatDoor
namespace Go.Proofs.YtojnhepgnbhaaaaGreatDoor
open Go.RowKit Go.Deep
def ZhR {α:Type} (P:Program) (t:TypeId) (c:YL α) (wf:α→Prop):Prop:=
 ∀{H:Type} {enc:TypeId × Value→H} {w:World} {base:Nat} {spare:Nat→Bool} {held:Bool} {fuel:Nat} {cs:List Value} {x:DataW H × List MemPlace},
  DataW.trod enc P w base spare held fuel t cs=some x→∃d L,c.rep w cs d L∧wf d
theorem Zin {P:Program} {t:TypeId} (ht:P.underlying t=some (.int .i64)):ZhR P t Zgq Zjk:=by
 intro H enc w base spare held fuel cs x h
 obtain ⟨n,rfl,_,hw⟩:=DataW.trod_int ht h
 refine ⟨n,[],⟨rfl,rfl⟩,?_⟩
 simp [Lit.wf,IntKind.min,IntKind.max,IntKind.signed,IntKind.bits] at hw
 exact ⟨by omega,by omega⟩
theorem Qp {P:Program} {t:TypeId} (ht:P.underlying t=some .string):ZhR P t Zbm (fun _=>True):=by
 intro H enc w base spare held fuel cs x h
 obtain ⟨s,rfl,_,hs⟩:=DataW.trod_string ht h
 exact ⟨s,[],⟨rfl,rfl,by unfold maxLen at hs;omega⟩,trivial⟩
theorem ZaH {α:Type} {c:YL α} {wf:α→Prop} {P:Program} {t e:TypeId} (ht:P.underlying t=some (.slice e)) (hc:P.cellsOf e=c.size) (ho:ZhR P e c wf):ZhR P t (ZY c) (fun ds=>∀d∈ds,wf d):=by
 intro H enc w base spare held fuel cs x h
 rcases open_slice ht h with ⟨rfl,_⟩ | ⟨a,len,cap,m,n,D,Pl,rfl,hb,hl,hm,hmm,_,hx⟩
 ·exact ⟨[],[],⟨none,0,rfl,Nat.le_refl _,Nat.zero_le _,Sli.nil _ _⟩,by simp⟩
 ·have hlm:len≤m:=by rw [hmm];split<;>omega
  have key:∀q,q≤len→∃(xs:List Value) (ds:List α) (L:List Nat),ds.length=q∧(∀j u,xs[j]?=some u→w.cell? (a.add j)=some u)∧c.reps w xs ds L∧∀d∈ds,wf d:=by
   intro q
   induction q with
   | zero=>exact fun _=>⟨[],[],[],rfl,by simp,⟨rfl,rfl⟩,by simp⟩
   | succ q ih=>
    intro hq
    obtain ⟨xs,ds,L,hd,hcell,hr,hwf⟩:=ih (by omega)
    obtain ⟨cs',h1,h2⟩:=hx q (by omega)
    obtain ⟨d,Lq,hrep,hwd⟩:=ho h2
    obtain ⟨_,hlen,hat⟩:=World.cells?_some h1
    refine ⟨xs++cs',ds++[d],L++Lq,by simp [hd],fun j u hu=>?_,Zdz hr (Zjn hrep),?_⟩
    ·have hxl:xs.length=q * c.size:=by rw [ZfZ hr,hd]
     rw [List.getElem?_append] at hu
     split at hu
     ·exact hcell j u hu
     ·rename_i hj
      have hj2:=(List.getElem?_eq_some_iff.1 hu).1
      have:=hat (j - xs.length) (by omega)
      rw [←hu,←this,Go.Deep.add_add,hc,←hxl]
      congr 2
      omega
    ·intro y hy
     rcases List.mem_append.1 hy with hy | hy
     ·exact hwf y hy
     ·simp at hy;subst hy;exact hwd
  obtain ⟨xs,ds,L,hd,hcell,hr,hwf⟩:=key len (Nat.le_refl _)
  have hxl:=ZfZ hr
  rcases Nat.eq_zero_or_pos len with h0 | h0
  ·have:ds=[]:=List.eq_nil_of_length_eq_zero (by omega)
   subst this
   refine ⟨[],[],⟨some a,cap,by simp at hd;rw [←hd];rfl,by simp,hm,Sli.nil _ _⟩,by simp⟩
  ·obtain ⟨b,off,sp⟩:=a
   have hp:0<xs.length:=by rw [hxl,hd];exact Nat.mul_pos h0 c.pos
   have hsp:sp=none:=by
    have h1:=hcell 0 _ (List.getElem?_eq_getElem hp)
    have e:(⟨b,off,sp⟩:Addr).add 0=⟨b,off,sp⟩:=by simp [Addr.add]
    rw [e] at h1
    cases sp with
    | none=>rfl
    | some q=>
     simp only [World.cell?] at h1
     split at h1<;>simp at h1
   subst hsp
   refine ⟨ds,[b]++L,⟨some ⟨b,off,none⟩,cap,by rw [hd],by omega,hm,xs,[b],L,rfl,⟨by rw [hxl],.inr ⟨by omega,b,off,rfl,rfl,fun j u hu=>?_⟩⟩,hr⟩,hwf⟩
   have:=hcell j u hu
   rwa [ZcL] at this
end Go.Proofs.YtojnhepgnbhaaaaGreatDoor
namespace Go.Proofs.YtojnhepgnbhaaaaGreatDoor
open Go.RowKit
theorem ZEz {w w1:World} {B:Nat} (h:Below w.drew.heap.size w.drew w1) (hB:B≤w.heap.size):Below B w w1:=⟨h.os,h.tape,h.output,h.size,fun k hk=>h.block k (Nat.lt_of_lt_of_le hk hB)⟩
theorem ZFv {aRules:List Zf} {aBase:List Zc} {aSteps:List Zuw} {aF:Zc} {r:Bool} (hh:ZFn aRules aBase aSteps aF=some r) (w:World) (hj:J0 w) (AaRules:Option Addr) (caRules:Nat) (LaRules:List Nat) (haRules:(ZY XU).rep w [.slice AaRules aRules.length caRules] aRules LaRules) (AaBase:Option Addr) (caBase:Nat) (LaBase:List Nat) (haBase:(ZY Y4).rep w [.slice AaBase aBase.length caBase] aBase LaBase) (AaSteps:Option Addr) (caSteps:Nat) (LaSteps:List Nat) (haSteps:(ZY ZDz).rep w [.slice AaSteps aSteps.length caSteps] aSteps LaSteps) (qaF:List Value) (LaF:List Nat) (haF:Y4.rep w qaF aF LaF):
  Calls Tryz.prog 42 #[.slice AaRules aRules.length caRules,.slice AaBase aBase.length caBase,.slice AaSteps aSteps.length caSteps,.agg qaF.toArray] w (fun e w'=>e=.returned (.bool r)∧Below w.heap.size w w'):=
 Zn.givesB (ZFx hh) hj (vs:=[_,_,_,_]) ⟨Znw ZqW _ haRules,Znw ZjV _ haBase,Znw ZEo _ haSteps,ZEN ZjV haF,trivial⟩
theorem ZFu {aRules:List Zf} {aBase:List Zc} {aSteps:List Zuw} {aF:Zc} {r:Bool} (hh:ZFo aRules aBase aSteps aF=some r) (w:World) (hj:J0 w) (AaRules:Option Addr) (caRules:Nat) (LaRules:List Nat) (haRules:(ZY XU).rep w [.slice AaRules aRules.length caRules] aRules LaRules) (AaBase:Option Addr) (caBase:Nat) (LaBase:List Nat) (haBase:(ZY Y4).rep w [.slice AaBase aBase.length caBase] aBase LaBase) (AaSteps:Option Addr) (caSteps:Nat) (LaSteps:List Nat) (haSteps:(ZY ZDz).rep w [.slice AaSteps aSteps.length caSteps] aSteps LaSteps) (qaF:List Value) (LaF:List Nat) (haF:Y4.rep w qaF aF LaF):
  Calls Tryz.prog 43 #[.slice AaRules aRules.length caRules,.slice AaBase aBase.length caBase,.slice AaSteps aSteps.length caSteps,.agg qaF.toArray] w (fun e w'=>e=.returned (.bool r)∧Below w.heap.size w w'):=
 Zn.givesB (ZFw hh) hj (vs:=[_,_,_,_]) ⟨Znw ZqW _ haRules,Znw ZjV _ haBase,Znw ZEo _ haSteps,ZEN ZjV haF,trivial⟩
set_option maxRecDepth 100000 in
set_option maxHeartbeats 8000000 in
theorem ZFp (w:World) (hJ:J0 w) (A_aRules:Option Addr) (c_aRules:Nat) (aRules:List Zf) (L_aRules:List Nat) (ln_aRules:aRules.length≤9223372036854775807) (h_aRules:Sli XU w A_aRules aRules L_aRules) (A_aBase:Option Addr) (c_aBase:Nat) (aBase:List Zc) (L_aBase:List Nat) (ln_aBase:aBase.length≤9223372036854775807) (h_aBase:Sli Y4 w A_aBase aBase L_aBase) (A_aSteps:Option Addr) (c_aSteps:Nat) (aSteps:List Zuw) (L_aSteps:List Nat) (ln_aSteps:aSteps.length≤9223372036854775807) (h_aSteps:Sli ZDz w A_aSteps aSteps L_aSteps) (cs_aF:List Value) (aF:Zc) (L_aF:List Nat) (h_aF:Y4.rep w cs_aF aF L_aF) (wf_aRules:(fun ds=>∀d∈ds,ZpL d) aRules) (wf_aBase:(fun ds=>∀d∈ds,ZpO d) aBase) (wf_aSteps:(fun ds=>∀d∈ds,ZEi d) aSteps) (wf_aF:ZpO aF):
  Calls Tryz.prog 8 #[.slice A_aRules aRules.length c_aRules,.slice A_aBase aBase.length c_aBase,.slice A_aSteps aSteps.length c_aSteps,.agg cs_aF.toArray] w fun e w'=>e=.returned (.bool true)∧Below w.heap.size w w':=by
 have HJ:=Lib.hid hJ
 clear hJ
 have H_aRules:=Lib.hid h_aRules
 clear h_aRules
 have H_aBase:=Lib.hid h_aBase
 clear h_aBase
 have H_aSteps:=Lib.hid h_aSteps
 clear h_aSteps
 have H_aF:=Lib.hid h_aF
 clear h_aF
 obtain ⟨aF_A1,aF_c1,rfl⟩:=Zcc H_aF.out
 have B0:Hid (Below w.heap.size w (w.alloc (.cells #[.string aF.rel,.slice aF_A1 aF.args.length aF_c1] 54))):=(Below.alloc (Below.refl _ _) (Nat.le_refl _) _)
 have sz0:w.heap.size+1≤((w.alloc (.cells #[.string aF.rel,.slice aF_A1 aF.args.length aF_c1] 54))).heap.size:=Nat.le_of_eq (by simp only [World.alloc,Array.size_push])
 have K_aF:Hid (Blk (w.alloc (.cells #[.string aF.rel,.slice aF_A1 aF.args.length aF_c1] 54)) (w.heap.size) 54 #[.string aF.rel,.slice aF_A1 aF.args.length aF_c1]):=(Blk.new _ _ _)
 go_enter Tryz.func8,Tryz.ntmps8
 go_wp2_with fail
 refine (Zn6 A_aRules _ c_aRules aRules L_aRules _ _ rfl ln_aRules (by omega) (by omega) (H_aRules.out.below B0.out)).mono ?_
 rintro e w1 ⟨rfl,hb⟩
 have B1:=Lib.hid (B0.out.trans (hb.mono B0.out.size))
 have sz1:=hb.size
 have K_aF:=Lib.hid (K_aF.out.later hb)
 have f_aF_0:=K_aF.out.at (i:=0) rfl
 have f_aF_1:=K_aF.out.at (i:=1) rfl
 clear hb
 by_cases cc_aRules:((Yj aRules:Nat):Int)≤1048576
 rotate_left
 ·rw [ZX cc_aRules]
  go_wp2
  go_ret
  exact ⟨rfl,B1.out⟩
 rw [Y8 cc_aRules]
 have cz_aRules:Yj aRules≤1048576:=by omega
 have cl_aRules:aRules.length≤1048576:=by have:=cz_aRules;simp only [Yj] at this;omega
 have nn_aRules:¬(1048576 - ((Yj aRules:Nat):Int)<0):=by omega
 go_wp2_with fail
 refine (Zpq A_aBase _ c_aBase aBase L_aBase _ _ rfl ln_aBase (by omega) (by omega) (H_aBase.out.below B1.out)).mono ?_
 rintro e w2 ⟨rfl,hb⟩
 have B2:=Lib.hid (B1.out.trans (hb.mono B1.out.size))
 have sz2:=hb.size
 have K_aF:=Lib.hid (K_aF.out.later hb)
 clear f_aF_0 f_aF_1
 have f_aF_0:=K_aF.out.at (i:=0) rfl
 have f_aF_1:=K_aF.out.at (i:=1) rfl
 clear B1
 clear hb
 by_cases cc_aBase:((Yd aBase:Nat):Int)≤1048576 - ((Yj aRules:Nat):Int)
 rotate_left
 ·rw [ZX cc_aBase]
  go_wp2
  go_ret
  exact ⟨rfl,B2.out⟩
 rw [Y8 cc_aBase]
 have cz_aBase:Yd aBase≤1048576:=by omega
 have cl_aBase:aBase.length≤1048576:=by have:=cz_aBase;simp only [Yd] at this;omega
 have nn_aBase:¬(1048576 - ((Yj aRules:Nat):Int) - ((Yd aBase:Nat):Int)<0):=by omega
 go_wp2_with fail
 refine (ZEe A_aSteps _ c_aSteps aSteps L_aSteps _ _ rfl ln_aSteps (by omega) (by omega) (H_aSteps.out.below B2.out)).mono ?_
 rintro e w3 ⟨rfl,hb⟩
 have B3:=Lib.hid (B2.out.trans (hb.mono B2.out.size))
 have sz3:=hb.size
 have K_aF:=Lib.hid (K_aF.out.later hb)
 clear f_aF_0 f_aF_1
 have f_aF_0:=K_aF.out.at (i:=0) rfl
 have f_aF_1:=K_aF.out.at (i:=1) rfl
 clear B2
 clear hb
 by_cases cc_aSteps:((Q1 aSteps:Nat):Int)≤1048576 - ((Yj aRules:Nat):Int) - ((Yd aBase:Nat):Int)
 rotate_left
 ·rw [ZX cc_aSteps]
  go_wp2
  go_ret
  exact ⟨rfl,B3.out⟩
 rw [Y8 cc_aSteps]
 have cz_aSteps:Q1 aSteps≤1048576:=by omega
 have cl_aSteps:aSteps.length≤1048576:=by have:=cz_aSteps;simp only [Q1] at this;omega
 have nn_aSteps:¬(1048576 - ((Yj aRules:Nat):Int) - ((Yd aBase:Nat):Int) - ((Q1 aSteps:Nat):Int)<0):=by omega
 go_wp2_with fail
 refine (Zk1 [.string aF.rel,.slice aF_A1 aF.args.length aF_c1] aF L_aF _ _ (by omega) (by omega) (Y4.keep H_aF.out (ZN B3.out (Y4.lt H_aF.out)))).mono ?_
 rintro e w4 ⟨rfl,hb⟩
 have B4:=Lib.hid (B3.out.trans (hb.mono B3.out.size))
 have sz4:=hb.size
 have K_aF:=Lib.hid (K_aF.out.later hb)
 clear f_aF_0 f_aF_1
 have f_aF_0:=K_aF.out.at (i:=0) rfl
 have f_aF_1:=K_aF.out.at (i:=1) rfl
 clear B3
 clear hb
 by_cases cc_aF:((YP aF:Nat):Int)≤1048576 - ((Yj aRules:Nat):Int) - ((Yd aBase:Nat):Int) - ((Q1 aSteps:Nat):Int)
 rotate_left
 ·rw [ZX cc_aF]
  go_wp2
  go_ret
  exact ⟨rfl,B4.out⟩
 rw [Y8 cc_aF]
 have cz_aF:YP aF≤1048576:=by omega
 have nn_aF:¬(1048576 - ((Yj aRules:Nat):Int) - ((Yd aBase:Nat):Int) - ((Q1 aSteps:Nat):Int) - ((YP aF:Nat):Int)<0):=by omega
 obtain ⟨R0,hs0,hi0⟩:=ZFt aRules cz_aRules wf_aRules aBase cz_aBase wf_aBase aSteps cz_aSteps wf_aSteps aF cz_aF wf_aF
 go_wp2_with fail
 go_region_held3 (fun W=>W.cell? ⟨w.heap.size,0,none⟩=some (.string aF.rel)∧W.cell? ⟨w.heap.size,1,none⟩=some (.slice aF_A1 aF.args.length aF_c1)) (first | exact ⟨f_aF_0,f_aF_1⟩) (first | (go_at_call 12;refine (Zdw A_aRules _ c_aRules aRules L_aRules _ rfl cz_aRules (H_aRules.out.below B4.out.drew)).mono ?_;rintro e w5 ⟨v,rfl,acc⟩;obtain ⟨A_t4aRules,c_t4aRules,rfl⟩:=acc.shape;have hb:=ZEz acc.below (Nat.le_refl _);obtain ⟨L_t4aRules,gt⟩:=acc.got;have B5:=Lib.hid (B4.out.trans (hb.mono B4.out.size));have sz5:=hb.size;have K_aF:=Lib.hid (K_aF.out.later hb);clear f_aF_0 f_aF_1;have f_aF_0:=K_aF.out.at (i:=0) rfl;have f_aF_1:=K_aF.out.at (i:=1) rfl;clear B4;have V_t4aRules:=Lib.hid gt;have ge_t4aRules:=Lib.hid gt.own.ge;have lt_t4aRules:=Lib.hid gt.lt;clear gt hb acc) | (go_at_call 13;refine (ZdN A_aBase _ c_aBase aBase L_aBase _ rfl cz_aBase (H_aBase.out.below B5.out)).mono ?_;rintro e w6 ⟨v,rfl,acc⟩;obtain ⟨A_t5aBase,c_t5aBase,rfl⟩:=acc.shape;have hb:=acc.below;obtain ⟨L_t5aBase,gt⟩:=acc.got;have B6:=Lib.hid (B5.out.trans (hb.mono B5.out.size));have sz6:=hb.size;have V_t4aRules:=Lib.hid (V_t4aRules.out.later hb);have K_aF:=Lib.hid (K_aF.out.later hb);clear f_aF_0 f_aF_1;have f_aF_0:=K_aF.out.at (i:=0) rfl;have f_aF_1:=K_aF.out.at (i:=1) rfl;clear B5;have V_t5aBase:=Lib.hid gt;have ge_t5aBase:=Lib.hid gt.own.ge;have lt_t5aBase:=Lib.hid gt.lt;clear gt hb acc) | (go_at_call 39;refine (ZDM A_aSteps _ c_aSteps aSteps L_aSteps _ rfl cz_aSteps (H_aSteps.out.below B6.out)).mono ?_;rintro e w7 ⟨v,rfl,acc⟩;obtain ⟨A_t6aSteps,c_t6aSteps,rfl⟩:=acc.shape;have hb:=acc.below;obtain ⟨L_t6aSteps,gt⟩:=acc.got;have B7:=Lib.hid (B6.out.trans (hb.mono B6.out.size));have sz7:=hb.size;have V_t4aRules:=Lib.hid (V_t4aRules.out.later hb);have V_t5aBase:=Lib.hid (V_t5aBase.out.later hb);have K_aF:=Lib.hid (K_aF.out.later hb);clear f_aF_0 f_aF_1;have f_aF_0:=K_aF.out.at (i:=0) rfl;have f_aF_1:=K_aF.out.at (i:=1) rfl;clear B6;have V_t6aSteps:=Lib.hid gt;have ge_t6aSteps:=Lib.hid gt.own.ge;have lt_t6aSteps:=Lib.hid gt.lt;clear gt hb acc) | (go_at_call 33;refine (ZpQ [.string aF.rel,.slice aF_A1 aF.args.length aF_c1] aF L_aF _ cz_aF (Y4.keep H_aF.out (ZN B7.out (Y4.lt H_aF.out)))).mono ?_;rintro e w8 ⟨cs,L_t7aF,rfl,gt,hb⟩;obtain ⟨t7aF_A1,t7aF_c1,rfl⟩:=Zcc gt.rep;have B8:=Lib.hid (B7.out.trans (hb.mono B7.out.size));have sz8:=hb.size;have V_t4aRules:=Lib.hid (V_t4aRules.out.later hb);have V_t5aBase:=Lib.hid (V_t5aBase.out.later hb);have V_t6aSteps:=Lib.hid (V_t6aSteps.out.later hb);have K_aF:=Lib.hid (K_aF.out.later hb);clear f_aF_0 f_aF_1;have f_aF_0:=K_aF.out.at (i:=0) rfl;have f_aF_1:=K_aF.out.at (i:=1) rfl;clear B7;have V_t7aF:=Lib.hid gt;have ge_t7aF:=Lib.hid gt.own.ge;have lt_t7aF:=Lib.hid gt.lt;clear gt hb) | (go_at_call 42;refine (ZFv hs0 _ (ZiG hJ0 HJ.out B8.out) A_t4aRules c_t4aRules L_t4aRules V_t4aRules.out.rep A_t5aBase c_t5aBase L_t5aBase V_t5aBase.out.rep A_t6aSteps c_t6aSteps L_t6aSteps V_t6aSteps.out.rep [.string aF.rel,.slice t7aF_A1 aF.args.length t7aF_c1] L_t7aF V_t7aF.out.rep).mono ?_;rintro e w9 ⟨rfl,hb⟩;have B9:=Lib.hid (B8.out.trans (hb.mono B8.out.size));have sz9:=hb.size;have V_t4aRules:=Lib.hid (V_t4aRules.out.later hb);have V_t5aBase:=Lib.hid (V_t5aBase.out.later hb);have V_t6aSteps:=Lib.hid (V_t6aSteps.out.later hb);have V_t7aF:=Lib.hid (V_t7aF.out.later hb);have K_aF:=Lib.hid (K_aF.out.later hb);clear f_aF_0 f_aF_1;have f_aF_0:=K_aF.out.at (i:=0) rfl;have f_aF_1:=K_aF.out.at (i:=1) rfl;clear B8;clear hb))
 clear V_t4aRules
 clear V_t5aBase
 clear V_t6aSteps
 clear V_t7aF
 go_wp2_with fail
 refine (Zdw A_aRules _ c_aRules aRules L_aRules _ rfl cz_aRules (H_aRules.out.below B9.out)).mono ?_
 rintro e w10 ⟨v,rfl,acc⟩
 obtain ⟨A_x0,c_x0,rfl⟩:=acc.shape
 have hb:=acc.below
 obtain ⟨L_x0,gt⟩:=acc.got
 have B10:=Lib.hid (B9.out.trans (hb.mono B9.out.size))
 have sz10:=hb.size
 have K_aF:=Lib.hid (K_aF.out.later hb)
 clear f_aF_0 f_aF_1
 have f_aF_0:=K_aF.out.at (i:=0) rfl
 have f_aF_1:=K_aF.out.at (i:=1) rfl
 clear B9
 have V_x0:=Lib.hid gt
 have ge_x0:=Lib.hid gt.own.ge
 have lt_x0:=Lib.hid gt.lt
 clear gt hb acc
 go_wp2_with fail
 refine (ZdN A_aBase _ c_aBase aBase L_aBase _ rfl cz_aBase (H_aBase.out.below B10.out)).mono ?_
 rintro e w11 ⟨v,rfl,acc⟩
 obtain ⟨A_x1,c_x1,rfl⟩:=acc.shape
 have hb:=acc.below
 obtain ⟨L_x1,gt⟩:=acc.got
 have B11:=Lib.hid (B10.out.trans (hb.mono B10.out.size))
 have sz11:=hb.size
 have V_x0:=Lib.hid (V_x0.out.later hb)
 have K_aF:=Lib.hid (K_aF.out.later hb)
 clear f_aF_0 f_aF_1
 have f_aF_0:=K_aF.out.at (i:=0) rfl
 have f_aF_1:=K_aF.out.at (i:=1) rfl
 clear B10
 have V_x1:=Lib.hid gt
 have ge_x1:=Lib.hid gt.own.ge
 have lt_x1:=Lib.hid gt.lt
 clear gt hb acc
 go_wp2_with fail
 refine (ZDM A_aSteps _ c_aSteps aSteps L_aSteps _ rfl cz_aSteps (H_aSteps.out.below B11.out)).mono ?_
 rintro e w12 ⟨v,rfl,acc⟩
 obtain ⟨A_x2,c_x2,rfl⟩:=acc.shape
 have hb:=acc.below
 obtain ⟨L_x2,gt⟩:=acc.got
 have B12:=Lib.hid (B11.out.trans (hb.mono B11.out.size))
 have sz12:=hb.size
 have V_x0:=Lib.hid (V_x0.out.later hb)
 have V_x1:=Lib.hid (V_x1.out.later hb)
 have K_aF:=Lib.hid (K_aF.out.later hb)
 clear f_aF_0 f_aF_1
 have f_aF_0:=K_aF.out.at (i:=0) rfl
 have f_aF_1:=K_aF.out.at (i:=1) rfl
 clear B11
 have V_x2:=Lib.hid gt
 have ge_x2:=Lib.hid gt.own.ge
 have lt_x2:=Lib.hid gt.lt
 clear gt hb acc
 go_wp2_with fail
 refine (ZpQ [.string aF.rel,.slice aF_A1 aF.args.length aF_c1] aF L_aF _ cz_aF (Y4.keep H_aF.out (ZN B12.out (Y4.lt H_aF.out)))).mono ?_
 rintro e w13 ⟨cs,L_x3,rfl,gt,hb⟩
 obtain ⟨x3_A1,x3_c1,rfl⟩:=Zcc gt.rep
 have B13:=Lib.hid (B12.out.trans (hb.mono B12.out.size))
 have sz13:=hb.size
 have V_x0:=Lib.hid (V_x0.out.later hb)
 have V_x1:=Lib.hid (V_x1.out.later hb)
 have V_x2:=Lib.hid (V_x2.out.later hb)
 have K_aF:=Lib.hid (K_aF.out.later hb)
 clear f_aF_0 f_aF_1
 have f_aF_0:=K_aF.out.at (i:=0) rfl
 have f_aF_1:=K_aF.out.at (i:=1) rfl
 clear B12
 have V_x3:=Lib.hid gt
 have ge_x3:=Lib.hid gt.own.ge
 have lt_x3:=Lib.hid gt.lt
 clear gt hb
 have hb:=(Below.refl w13.heap.size w13).alloc (Nat.le_refl _) (.cells #[.string aF.rel,.slice x3_A1 aF.args.length x3_c1] 57)
 have B14:=Lib.hid (B13.out.trans (hb.mono B13.out.size))
 have sz14:=hb.size
 have V_x0:=Lib.hid (V_x0.out.later hb)
 have V_x1:=Lib.hid (V_x1.out.later hb)
 have V_x2:=Lib.hid (V_x2.out.later hb)
 have V_x3:=Lib.hid (V_x3.out.later hb)
 have K_aF:=Lib.hid (K_aF.out.later hb)
 clear f_aF_0 f_aF_1
 have f_aF_0:=K_aF.out.at (i:=0) rfl
 have f_aF_1:=K_aF.out.at (i:=1) rfl
 clear B13
 have szb_x3:w13.heap.size+1≤(w13.alloc (.cells #[.string aF.rel,.slice x3_A1 aF.args.length x3_c1] 57)).heap.size:=Nat.le_of_eq (by simp only [World.alloc,Array.size_push])
 have K_x3:Hid (Blk (w13.alloc (.cells #[.string aF.rel,.slice x3_A1 aF.args.length x3_c1] 57)) w13.heap.size 57 #[.string aF.rel,.slice x3_A1 aF.args.length x3_c1]):=Blk.new _ _ _
 have f_x3_0:=K_x3.out.at (i:=0) rfl
 have f_x3_1:=K_x3.out.at (i:=1) rfl
 clear hb
 go_wp2_with fail
 refine (ZFu hi0 _ (ZiG hJ0 HJ.out B14.out) A_x0 c_x0 L_x0 V_x0.out.rep A_x1 c_x1 L_x1 V_x1.out.rep A_x2 c_x2 L_x2 V_x2.out.rep [.string aF.rel,.slice x3_A1 aF.args.length x3_c1] L_x3 V_x3.out.rep).mono ?_
 rintro e w15 ⟨rfl,hb⟩
 have B15:=Lib.hid (B14.out.trans (hb.mono B14.out.size))
 have sz15:=hb.size
 have V_x0:=Lib.hid (V_x0.out.later hb)
 have V_x1:=Lib.hid (V_x1.out.later hb)
 have V_x2:=Lib.hid (V_x2.out.later hb)
 have V_x3:=Lib.hid (V_x3.out.later hb)
 have K_aF:=Lib.hid (K_aF.out.later hb)
 clear f_aF_0 f_aF_1
 have f_aF_0:=K_aF.out.at (i:=0) rfl
 have f_aF_1:=K_aF.out.at (i:=1) rfl
 have K_x3:=Lib.hid (K_x3.out.later hb)
 clear f_x3_0 f_x3_1
 have f_x3_0:=K_x3.out.at (i:=0) rfl
 have f_x3_1:=K_x3.out.at (i:=1) rfl
 clear B14
 clear hb
 have hne:(R0 != R0)=false:=by simp
 go_wp2_with fail
 refine (Zdw A_aRules _ c_aRules aRules L_aRules _ rfl cz_aRules (H_aRules.out.below B15.out)).mono ?_
 rintro e w16 ⟨v,rfl,acc⟩
 obtain ⟨A_t15aRules,c_t15aRules,rfl⟩:=acc.shape
 have hb:=acc.below
 obtain ⟨L_t15aRules,gt⟩:=acc.got
 have B16:=Lib.hid (B15.out.trans (hb.mono B15.out.size))
 have sz16:=hb.size
 have V_x0:=Lib.hid (V_x0.out.later hb)
 have V_x1:=Lib.hid (V_x1.out.later hb)
 have V_x2:=Lib.hid (V_x2.out.later hb)
 have V_x3:=Lib.hid (V_x3.out.later hb)
 have K_aF:=Lib.hid (K_aF.out.later hb)
 clear f_aF_0 f_aF_1
 have f_aF_0:=K_aF.out.at (i:=0) rfl
 have f_aF_1:=K_aF.out.at (i:=1) rfl
 have K_x3:=Lib.hid (K_x3.out.later hb)
 clear f_x3_0 f_x3_1
 have f_x3_0:=K_x3.out.at (i:=0) rfl
 have f_x3_1:=K_x3.out.at (i:=1) rfl
 clear B15
 have V_t15aRules:=Lib.hid gt
 have ge_t15aRules:=Lib.hid gt.own.ge
 have lt_t15aRules:=Lib.hid gt.lt
 clear gt hb acc
 go_wp2_with fail
 refine (ZoU A_x0 A_t15aRules _ c_x0 c_t15aRules _ L_x0 L_t15aRules _ rfl (by omega) (ZU V_x0.out.rep).2.2 (ZU V_t15aRules.out.rep).2.2).mono ?_
 rintro e w17 ⟨rfl,hb⟩
 have B17:=Lib.hid (B16.out.trans (hb.mono B16.out.size))
 have sz17:=hb.size
 have V_x0:=Lib.hid (V_x0.out.later hb)
 have V_x1:=Lib.hid (V_x1.out.later hb)
 have V_x2:=Lib.hid (V_x2.out.later hb)
 have V_x3:=Lib.hid (V_x3.out.later hb)
 have V_t15aRules:=Lib.hid (V_t15aRules.out.later hb)
 have K_aF:=Lib.hid (K_aF.out.later hb)
 clear f_aF_0 f_aF_1
 have f_aF_0:=K_aF.out.at (i:=0) rfl
 have f_aF_1:=K_aF.out.at (i:=1) rfl
 have K_x3:=Lib.hid (K_x3.out.later hb)
 clear f_x3_0 f_x3_1
 have f_x3_0:=K_x3.out.at (i:=0) rfl
 have f_x3_1:=K_x3.out.at (i:=1) rfl
 clear B16
 clear hb
 clear V_t15aRules
 go_wp2_with fail
 refine (ZdN A_aBase _ c_aBase aBase L_aBase _ rfl cz_aBase (H_aBase.out.below B17.out)).mono ?_
 rintro e w18 ⟨v,rfl,acc⟩
 obtain ⟨A_t17aBase,c_t17aBase,rfl⟩:=acc.shape
 have hb:=acc.below
 obtain ⟨L_t17aBase,gt⟩:=acc.got
 have B18:=Lib.hid (B17.out.trans (hb.mono B17.out.size))
 have sz18:=hb.size
 have V_x0:=Lib.hid (V_x0.out.later hb)
 have V_x1:=Lib.hid (V_x1.out.later hb)
 have V_x2:=Lib.hid (V_x2.out.later hb)
 have V_x3:=Lib.hid (V_x3.out.later hb)
 have K_aF:=Lib.hid (K_aF.out.later hb)
 clear f_aF_0 f_aF_1
 have f_aF_0:=K_aF.out.at (i:=0) rfl
 have f_aF_1:=K_aF.out.at (i:=1) rfl
 have K_x3:=Lib.hid (K_x3.out.later hb)
 clear f_x3_0 f_x3_1
 have f_x3_0:=K_x3.out.at (i:=0) rfl
 have f_x3_1:=K_x3.out.at (i:=1) rfl
 clear B17
 have V_t17aBase:=Lib.hid gt
 have ge_t17aBase:=Lib.hid gt.own.ge
 have lt_t17aBase:=Lib.hid gt.lt
 clear gt hb acc
 go_wp2_with fail
 refine (ZdB A_x1 A_t17aBase _ c_x1 c_t17aBase _ L_x1 L_t17aBase _ rfl (by omega) (ZU V_x1.out.rep).2.2 (ZU V_t17aBase.out.rep).2.2).mono ?_
 rintro e w19 ⟨rfl,hb⟩
 have B19:=Lib.hid (B18.out.trans (hb.mono B18.out.size))
 have sz19:=hb.size
 have V_x0:=Lib.hid (V_x0.out.later hb)
 have V_x1:=Lib.hid (V_x1.out.later hb)
 have V_x2:=Lib.hid (V_x2.out.later hb)
 have V_x3:=Lib.hid (V_x3.out.later hb)
 have V_t17aBase:=Lib.hid (V_t17aBase.out.later hb)
 have K_aF:=Lib.hid (K_aF.out.later hb)
 clear f_aF_0 f_aF_1
 have f_aF_0:=K_aF.out.at (i:=0) rfl
 have f_aF_1:=K_aF.out.at (i:=1) rfl
 have K_x3:=Lib.hid (K_x3.out.later hb)
 clear f_x3_0 f_x3_1
 have f_x3_0:=K_x3.out.at (i:=0) rfl
 have f_x3_1:=K_x3.out.at (i:=1) rfl
 clear B18
 clear hb
 clear V_t17aBase
 go_wp2_with fail
 refine (ZDM A_aSteps _ c_aSteps aSteps L_aSteps _ rfl cz_aSteps (H_aSteps.out.below B19.out)).mono ?_
 rintro e w20 ⟨v,rfl,acc⟩
 obtain ⟨A_t19aSteps,c_t19aSteps,rfl⟩:=acc.shape
 have hb:=acc.below
 obtain ⟨L_t19aSteps,gt⟩:=acc.got
 have B20:=Lib.hid (B19.out.trans (hb.mono B19.out.size))
 have sz20:=hb.size
 have V_x0:=Lib.hid (V_x0.out.later hb)
 have V_x1:=Lib.hid (V_x1.out.later hb)
 have V_x2:=Lib.hid (V_x2.out.later hb)
 have V_x3:=Lib.hid (V_x3.out.later hb)
 have K_aF:=Lib.hid (K_aF.out.later hb)
 clear f_aF_0 f_aF_1
 have f_aF_0:=K_aF.out.at (i:=0) rfl
 have f_aF_1:=K_aF.out.at (i:=1) rfl
 have K_x3:=Lib.hid (K_x3.out.later hb)
 clear f_x3_0 f_x3_1
 have f_x3_0:=K_x3.out.at (i:=0) rfl
 have f_x3_1:=K_x3.out.at (i:=1) rfl
 clear B19
 have V_t19aSteps:=Lib.hid gt
 have ge_t19aSteps:=Lib.hid gt.own.ge
 have lt_t19aSteps:=Lib.hid gt.lt
 clear gt hb acc
 go_wp2_with fail
 refine (ZEf A_x2 A_t19aSteps _ c_x2 c_t19aSteps _ L_x2 L_t19aSteps _ rfl (by omega) (ZU V_x2.out.rep).2.2 (ZU V_t19aSteps.out.rep).2.2).mono ?_
 rintro e w21 ⟨rfl,hb⟩
 have B21:=Lib.hid (B20.out.trans (hb.mono B20.out.size))
 have sz21:=hb.size
 have V_x0:=Lib.hid (V_x0.out.later hb)
 have V_x1:=Lib.hid (V_x1.out.later hb)
 have V_x2:=Lib.hid (V_x2.out.later hb)
 have V_x3:=Lib.hid (V_x3.out.later hb)
 have V_t19aSteps:=Lib.hid (V_t19aSteps.out.later hb)
 have K_aF:=Lib.hid (K_aF.out.later hb)
 clear f_aF_0 f_aF_1
 have f_aF_0:=K_aF.out.at (i:=0) rfl
 have f_aF_1:=K_aF.out.at (i:=1) rfl
 have K_x3:=Lib.hid (K_x3.out.later hb)
 clear f_x3_0 f_x3_1
 have f_x3_0:=K_x3.out.at (i:=0) rfl
 have f_x3_1:=K_x3.out.at (i:=1) rfl
 clear B20
 clear hb
 clear V_t19aSteps
 go_wp2_with fail
 go_region_held3 (fun W=>W.cell? ⟨w13.heap.size,0,none⟩=some (.string aF.rel)∧W.cell? ⟨w13.heap.size,1,none⟩=some (.slice x3_A1 aF.args.length x3_c1)∧W.cell? ⟨w.heap.size,0,none⟩=some (.string aF.rel)∧W.cell? ⟨w.heap.size,1,none⟩=some (.slice aF_A1 aF.args.length aF_c1)) (first | exact ⟨f_x3_0,f_x3_1,f_aF_0,f_aF_1⟩ | exact ⟨r_x3_0,r_x3_1,r_aF_0,r_aF_1⟩) (first | (go_at_call 33;refine (ZpQ [.string aF.rel,.slice aF_A1 aF.args.length aF_c1] aF L_aF _ cz_aF (Y4.keep H_aF.out (ZN B21.out.drew (Y4.lt H_aF.out)))).mono ?_;rintro e w22 ⟨cs,L_t21aF,rfl,gt,hb⟩;obtain ⟨t21aF_A1,t21aF_c1,rfl⟩:=Zcc gt.rep;replace hb:=ZEz hb (Nat.le_refl _);have KA:=K_aF.out.later hb;have KX:=K_x3.out.later hb;have r_x3_0:=KX.at (i:=0) rfl;have r_x3_1:=KX.at (i:=1) rfl;have r_aF_0:=KA.at (i:=0) rfl;have r_aF_1:=KA.at (i:=1) rfl) | (go_at_call 35;refine (ZpY [.string aF.rel,.slice x3_A1 aF.args.length x3_c1] [.string aF.rel,.slice t21aF_A1 aF.args.length t21aF_c1] aF L_x3 L_t21aF _ (V_x3.out.later hb).rep gt.rep).mono ?_;rintro e w23 ⟨rfl,hb2⟩;have KX2:=KX.later hb2;have KA2:=KA.later hb2;replace r_x3_0:=KX2.at (i:=0) rfl;replace r_x3_1:=KX2.at (i:=1) rfl;replace r_aF_0:=KA2.at (i:=0) rfl;replace r_aF_1:=KA2.at (i:=1) rfl))
 clear KA KX KA2 KX2 r_x3_0 r_x3_1 r_aF_0 r_aF_1
 have B22:=Lib.hid (B21.out.trans (hb.mono B21.out.size))
 have sz22:=hb.size
 have V_x0:=Lib.hid (V_x0.out.later hb)
 have V_x1:=Lib.hid (V_x1.out.later hb)
 have V_x2:=Lib.hid (V_x2.out.later hb)
 have V_x3:=Lib.hid (V_x3.out.later hb)
 have K_aF:=Lib.hid (K_aF.out.later hb)
 clear f_aF_0 f_aF_1
 have f_aF_0:=K_aF.out.at (i:=0) rfl
 have f_aF_1:=K_aF.out.at (i:=1) rfl
 have K_x3:=Lib.hid (K_x3.out.later hb)
 clear f_x3_0 f_x3_1
 have f_x3_0:=K_x3.out.at (i:=0) rfl
 have f_x3_1:=K_x3.out.at (i:=1) rfl
 clear B21
 clear hb gt
 have B23:=Lib.hid (B22.out.trans (hb2.mono B22.out.size))
 have sz23:=hb2.size
 have V_x0:=Lib.hid (V_x0.out.later hb2)
 have V_x1:=Lib.hid (V_x1.out.later hb2)
 have V_x2:=Lib.hid (V_x2.out.later hb2)
 have V_x3:=Lib.hid (V_x3.out.later hb2)
 have K_aF:=Lib.hid (K_aF.out.later hb2)
 clear f_aF_0 f_aF_1
 have f_aF_0:=K_aF.out.at (i:=0) rfl
 have f_aF_1:=K_aF.out.at (i:=1) rfl
 have K_x3:=Lib.hid (K_x3.out.later hb2)
 clear f_x3_0 f_x3_1
 have f_x3_0:=K_x3.out.at (i:=0) rfl
 have f_x3_1:=K_x3.out.at (i:=1) rfl
 clear B22
 clear hb2
 go_wp2_with fail
 go_ret
 exact ⟨rfl,B23.out⟩
end Go.Proofs.YtojnhepgnbhaaaaGreatDoor
