/- Texts of this proof, joined: Dp12, Dp13, Dp14, Dp15, Dp16, Dp17, Dp18, BStd, DE, Sz, To, Eq, MText, Mk, Mark, Held, Open. What each holds is said at its theorems. -/
import Derived.Test.YtojnhepgnbhaaaaGreatDoorWithdrawFactQ5
import Derived.Test.YtojnhepgnbhaaaaGreatDoorWithdrawFactQ6
import Derived.Test.YtojnhepgnbhaaaaGreatDoorWithdrawFactQ4
import Derived.Test.YtojnhepgnbhaaaaGreatDoorWithdrawFactQ1
import Derived.Test.YtojnhepgnbhaaaaGreatDoorProg
import Derived.Outline
import Derived.WalkSpells
import Derived.StillTailTactics
import Derived.WalkLawsBesides
import Derived.Deep.RegionHeld3
import Derived.Deep.Slices
import Derived.ChangeArms
import Derived.ProofKit
set_option linter.unusedSimpArgs false
set_option linter.unusedVariables false
namespace Go.Proofs.YtojnhepgnbhaaaaGreatDoor
open Go.Proofs.Tryz
set_option linter.unusedSimpArgs false
set_option linter.unusedVariables false
set_option maxRecDepth 1000000
set_option maxHeartbeats 4000000
theorem Zj1 {x_0:Zm} {b_1:(List Zl)} {facts_2:(List Zc)} {r:Bool} (h:Zb4 x_0 b_1 facts_2=some r):Zn Tryz.prog J0 173 [(true,ZM x_0),(false,[.sl 192 2 (List.map Z6 b_1)]),(false,[.sl 57 2 (List.map Zq facts_2)])] [(false,[(false,.bool r)])]:=by
 refine fnk Tryz.func173 (by kernel_rfl) rfl (by kernel_rfl) (by kernel_rfl) ?_
 unfold Zb4 at h
 simp only [fnS,f173,Zo,go_sem,seval]
 obtain ⟨f,a,h⟩:=Za h
 refine Zb (ZfK a) ?_
 try simp only [*,go_sem,seval]
 refine Ze h (fun _ h=>?_) fun _ h=>?_<;>try simp only [*,go_sem,seval]
 obtain ⟨g,b,h⟩:=Za h
 refine Zb (QM b) ?_
 try simp only [*,go_sem,seval]
 iterate 2 refine Ze h (fun _ h=>?_) fun _ h=>?_<;>try simp only [*,go_sem,seval]
 obtain ⟨i,c,h⟩:=Za h
 refine Zb (ZcR c) ?_
 cases h
 try simp only [*,go_sem,seval]
 refine Ze h (fun _ h=>?_) fun _ h=>?_<;>try simp only [*,go_sem,seval]
 obtain ⟨j,d,h⟩:=Za h
 refine Zb (ZcR d) ?_
 cases h
 try simp only [*,go_sem,seval]
 obtain ⟨k,e,h⟩:=Za h
 refine Zb (Zj8 e) ?_
 iterate 3 (cases h;try simp only [*,go_sem,seval])
theorem Zkx {r_0:Zf} {r:Bool} (h:Zb6 r_0=some r):Zn Tryz.prog J0 168 [(true,ZB r_0)] [(false,[(false,.bool r)])]:=by
 refine fnk Tryz.func168 (by kernel_rfl) rfl (by kernel_rfl) (by kernel_rfl) ?_
 unfold Zb6 at h
 simp only [fnS,f168,Zo,go_sem,seval]
 obtain ⟨A,k,h⟩:=Za h
 refine Zb (Zjm k) ?_
 try simp only [*,go_sem,seval]
 refine Ze h (fun _ h=>?_) fun _ h=>?_<;>try simp only [*,go_sem,seval]
 refine Zg h (fun i _ st=>IV [(1,.bp 0 0),(3,.p false [.c (.int .i64 ((i:Nat):Int))])] [.box 82 [.c (.str r_0.name),.c (.int .i64 r_0.priority),.c (.sl 130 5 (List.map ZM r_0.cond)),.c (.sl 134 3 (List.map ZA r_0.thn))]] st) [] [0] (by decide) ?_ ?_ ?_
 simp only [*,go_sem,seval]
 rintro B C ⟨⟩ ⟨sl,ob,n⟩ D a d l h m
 simp only [go_sem,seval,Zd] at d
 obtain ⟨⟨E,F⟩,o,hn⟩:=d
 subst hn
 have q:=WF.boxL l o (j:=2) rfl
 have G:=ZF a
 have H:=ZJ a
 have I:=Zi (ZE a) q
 try simp only [*,go_sem,seval]
 refine Ze h (fun _ h=>?_) fun _ h=>?_<;>try simp only [*,go_sem,seval]
 obtain ⟨J,t,h⟩:=Za h
 refine Zb (Zae t) ?_
 try simp only [*,go_sem,seval]
 obtain ⟨K,u,h⟩:=Za h
 refine Zb (Za3 u) ?_
 try simp only [*,go_sem,seval]
 obtain ⟨L,v,h⟩:=Za h
 refine Zb (Zl3 v) ?_
 try simp only [*,go_sem,seval]
 refine Ze h (fun _ h=>?_) fun _ h=>?_<;>try simp only [*,go_sem,seval]
 refine ⟨_,[],[0],(Option.some.inj h).symm,by decide,?_⟩
 try simp only [*,go_sem,seval]
 replace h:=Zs h m
 cases h
 try simp only [*,go_sem,seval]
 refine ⟨_,[],[0],(Option.some.inj h).symm,by decide,?_⟩
 try simp only [*,go_sem,seval]
 rintro ⟨⟩ ⟨sl,ob,n⟩ e M h
 simp only [go_sem,seval,Zd] at e
 obtain ⟨⟨N,O⟩,P,hn⟩:=e
 subst hn
 have Q:=ZC (r_0.cond.length)
 try simp only [*,go_sem,seval]
 refine Zg h (fun i _ st=>IV [(1,.bp 0 0),(4,.p false [.c (.int .i64 ((i:Nat):Int))])] [.box 82 [.c (.str r_0.name),.c (.int .i64 r_0.priority),.c (.sl 130 5 (List.map ZM r_0.cond)),.c (.sl 134 3 (List.map ZA r_0.thn))]] st) [] [0] (by decide) ?_ ?_ ?_
 simp only [*,go_sem,seval]
 rintro R S ⟨⟩ ⟨sl,ob,n⟩ T b f w h x
 simp only [go_sem,seval,Zd] at f
 obtain ⟨⟨U,V⟩,y,hn⟩:=f
 subst hn
 have z:=WF.boxL w y (j:=3) rfl
 have W:=ZF b
 have X:=ZJ b
 have Y:=Zi (ZE b) z
 try simp only [*,go_sem,seval]
 refine Ze h (fun _ h=>?_) fun _ h=>?_<;>try simp only [*,go_sem,seval]
 replace h:=Zs h x
 cases h
 try simp only [*,go_sem,seval]
 refine ⟨_,[],[0],(Option.some.inj h).symm,by decide,?_⟩
 try simp only [*,go_sem,seval]
 rintro ⟨⟩ ⟨sl,ob,n⟩ g Z h
 simp only [go_sem,seval,Zd] at g
 obtain ⟨⟨aa,ab⟩,ac,hn⟩:=g
 subst hn
 have ad:=ZC (r_0.thn.length)
 iterate 2 (cases h;try simp only [*,go_sem,seval])
theorem ZlF {l_0:(List Zf)} {r:Bool} (h:Zde l_0=some r):Zn Tryz.prog J0 171 [(false,[.sl 82 4 (List.map ZB l_0)])] [(false,[(false,.bool r)])]:=by
 refine fnk Tryz.func171 (by kernel_rfl) rfl (by kernel_rfl) (by kernel_rfl) ?_
 unfold Zde at h
 simp only [fnS,f171,Zo,go_sem,seval]
 refine Zg h (fun i _ st=>IV [(0,.p false [.c (.sl 82 4 (List.map ZB l_0))]),(3,.p false [.c (.int .i64 ((i:Nat):Int))])] [] st) [] [] (by decide) ?_ ?_ ?_
 simp only [*,go_sem,seval]
 rintro o q ⟨⟩ ⟨sl,ob,n⟩ t a b f h d
 simp only [go_sem,seval,Zd] at b
 obtain ⟨⟨g,u⟩,hn⟩:=b
 subst hn
 have k:=WF.slotL f g (j:=0) rfl
 have v:=ZF a
 have w:=ZJ a
 have x:=Zi (ZE a) k
 try simp only [*,go_sem,seval]
 obtain ⟨y,l,h⟩:=Za h
 refine Zb (Zjm l) ?_
 try simp only [*,go_sem,seval]
 refine Ze h (fun _ h=>?_) fun _ h=>?_<;>try simp only [*,go_sem,seval]
 obtain ⟨z,m,h⟩:=Za h
 refine Zb (ZlB m) ?_
 try simp only [*,go_sem,seval]
 refine Ze h (fun _ h=>?_) fun _ h=>?_<;>try simp only [*,go_sem,seval]
 replace h:=Zs h d
 cases h
 try simp only [*,go_sem,seval]
 refine ⟨_,[],[],(Option.some.inj h).symm,by decide,?_⟩
 try simp only [*,go_sem,seval]
 replace h:=Zs h d
 cases h
 try simp only [*,go_sem,seval]
 rintro ⟨⟩ ⟨sl,ob,n⟩ e A h
 simp only [go_sem,seval,Zd] at e
 obtain ⟨⟨B,C⟩,hn⟩:=e
 subst hn
 have D:=ZC (l_0.length)
 cases h
 try simp only [*,go_sem,seval]
theorem ZgN {append_0:(List Zm)} {String_1:(List Zc)} {r:(List Zt)} (h:Zaw append_0 String_1=some r):Zn Tryz.prog J0 87 [(false,[.sl 130 5 (List.map ZM append_0)]),(false,[.sl 57 2 (List.map Zq String_1)])] [(false,[(true,.sl 117 2 (List.map YZ r))])]:=by
 refine fnk Tryz.func87 (by kernel_rfl) rfl (by kernel_rfl) (by kernel_rfl) ?_
 unfold Zaw at h
 simp only [fnS,f87,Zo,go_sem,seval]
 refine Zg h (fun i row_151 st=>IV [(1,.p false [.c (.sl 57 2 (List.map Zq String_1))]),(5,.p false [.row 0]),(17,.p false [.c (.sl 130 5 (List.map ZM append_0))]),(18,.p false [.c (.int .i64 ((append_0.length:Nat):Int))]),(19,.p false [.c (.int .i64 ((i:Nat):Int))])] [.row 117 2 (List.map YZ row_151) 1] st) [(true,32,1)] [32] (by decide) ?_ ?_ ?_
 ·simp only [*,go_sem,seval]
 ·rintro i246 x247 row_151 ⟨sl,ob,n⟩ y1 hx2 hI3 hW4 h hy1
  simp only [go_sem,seval,Zd] at hI3
  obtain ⟨⟨g5_1,g5_5,g5_17,g5_18,g5_19⟩,og5_0,hn⟩:=hI3
  subst hn
  have hlhx2:=WF.slotL hW4 g5_17 (j:=0) rfl
  have q6:=ZF hx2
  have q7:=ZJ hx2
  have q8:=Zi (ZE hx2) hlhx2
  try simp only [*,go_sem,seval]
  refine Zg h (fun i row_303 st=>IV [(1,.p false [.c (.sl 57 2 (List.map Zq String_1))]),(7,.bp 0 0),(8,.p false [.row 1]),(17,.p false [.c (.sl 130 5 (List.map ZM append_0))]),(18,.p false [.c (.int .i64 ((append_0.length:Nat):Int))]),(19,.p false [.c (.int .i64 ((i246:Nat):Int))]),(23,.p false [.row 2]),(24,.p false [.c (.int .i64 ((row_151.length:Nat):Int))]),(25,.p false [.c (.int .i64 ((i:Nat):Int))])] [.box 130 [.c (.int .i64 x247.kind),.c (.str x247.pattern.rel),.c (.sl 9 1 (List.map Zu x247.pattern.args)),.c (.str x247.left),.c (.str x247.right)],.row 117 2 (List.map YZ row_303) 1,.row 117 2 (List.map YZ row_151) 1] st) [(false,8,0),(true,145,1)] [49,145,0] (by decide) ?_ ?_ ?_
  ·simp only [*,go_sem,seval]
  ·rintro i322 x323 row_303 ⟨sl,ob,n⟩ y9 hx10 hI11 hW12 h hy9
   simp only [go_sem,seval,Zd] at hI11
   obtain ⟨⟨g13_1,g13_7,g13_8,g13_17,g13_18,g13_19,g13_23,g13_24,g13_25⟩,og13_0,og13_1,og13_2,hn⟩:=hI11
   subst hn
   have hlhx10:=WF.rowL hW12 og13_2
   have q14:=ZF hx10
   have q15:=ZJ hx10
   have q16:=Zi (ZE hx10) hlhx10
   try simp only [*,go_sem,seval]
   refine Ze h (fun _ h=>?_) fun _ h=>?_<;>try simp only [*,go_sem,seval]
   ·obtain ⟨v324,e18,h⟩:=Za h
    refine Zb (by have hh:=Zka e18;first|exact hh|(simp only [*,go_sem] at hh;exact hh)) ?_
    try simp only [*,go_sem,seval]
    refine Ze h (fun _ h=>?_) fun _ h=>?_<;>try simp only [*,go_sem,seval]
    ·obtain ⟨p20,h⟩:=Zx h
     try simp only [Nat.reduceLeDiff] at p20
     try simp only [*,go_sem,seval]
     refine ⟨_,[],[0,259,2],(Option.some.inj h).symm,by decide,?_⟩
     try simp only [*,go_sem,seval]
    ·refine ⟨_,[],[0,1,2],(Option.some.inj h).symm,by decide,?_⟩
     try simp only [*,go_sem,seval]
   ·refine Zg h (fun i row_329 st=>IV [(1,.p false [.c (.sl 57 2 (List.map Zq String_1))]),(7,.bp 0 0),(8,.p false [.row 1]),(10,.bp 2 0),(17,.p false [.c (.sl 130 5 (List.map ZM append_0))]),(18,.p false [.c (.int .i64 ((append_0.length:Nat):Int))]),(19,.p false [.c (.int .i64 ((i246:Nat):Int))]),(23,.p false [.row 3]),(24,.p false [.c (.int .i64 ((row_151.length:Nat):Int))]),(25,.p false [.c (.int .i64 ((i322:Nat):Int))]),(41,.p false [.c (.sl 57 2 (List.map Zq String_1))]),(42,.p false [.c (.int .i64 ((String_1.length:Nat):Int))]),(43,.p false [.c (.int .i64 ((i:Nat):Int))])] [.box 130 [.c (.int .i64 x247.kind),.c (.str x247.pattern.rel),.c (.sl 9 1 (List.map Zu x247.pattern.args)),.c (.str x247.left),.c (.str x247.right)],.row 117 2 (List.map YZ row_329) 1,.box 117 [.c (.sl 57 2 (List.map Zq x323.facts)),.c (.sl 192 2 (List.map Z6 x323.binding))],.row 117 2 (List.map YZ row_151) 1] st) [] [0,1,51,2] (by decide) ?_ ?_ ?_
    ·simp only [*,go_sem,seval]
    ·rintro i335 x336 row_329 ⟨sl,ob,n⟩ y21 hx22 hI23 hW24 h hy21
     simp only [go_sem,seval,Zd] at hI23
     obtain ⟨⟨g25_1,g25_7,g25_8,g25_10,g25_17,g25_18,g25_19,g25_23,g25_24,g25_25,g25_41,g25_42,g25_43⟩,og25_0,og25_1,og25_2,og25_3,hn⟩:=hI23
     subst hn
     have hlhx22:=WF.slotL hW24 g25_1 (j:=0) rfl
     have q26:=ZF hx22
     have q27:=ZJ hx22
     have q28:=Zi (ZE hx22) hlhx22
     try simp only [*,go_sem,seval]
     obtain ⟨v337,e29,h⟩:=Za h
     refine Zb (by have hh:=ZfI e29;first|exact hh|(simp only [*,go_sem] at hh;exact hh)) ?_
     try simp only [*,go_sem,seval]
     refine Ze h (fun _ h=>?_) fun _ h=>?_<;>try simp only [*,go_sem,seval]
     ·obtain ⟨v338,e31,h⟩:=Za h
      refine Zb (by have hh:=ZfB e31;first|exact hh|(simp only [*,go_sem] at hh;exact hh)) ?_
      try simp only [*,go_sem,seval]
      obtain ⟨v339,e32,h⟩:=Za h
      refine Zb (by have hh:=Xf e32;first|exact hh|(simp only [*,go_sem] at hh;exact hh)) ?_
      obtain ⟨p33,h⟩:=Zx h
      try simp only [Nat.reduceLeDiff] at p33
      obtain ⟨p34,h⟩:=Zx h
      try simp only [Nat.reduceLeDiff] at p34
      try simp only [*,go_sem,seval]
      refine ⟨_,[],[0,452,2,3],(Option.some.inj h).symm,by decide,?_⟩
      try simp only [*,go_sem,seval]
     ·refine ⟨_,[],[0,1,2,3],(Option.some.inj h).symm,by decide,?_⟩
      try simp only [*,go_sem,seval]
    ·rintro row_329 ⟨sl,ob,n⟩ hI35 hW36 h
     simp only [go_sem,seval,Zd] at hI35
     obtain ⟨⟨g37_1,g37_7,g37_8,g37_10,g37_17,g37_18,g37_19,g37_23,g37_24,g37_25,g37_41,g37_42,g37_43⟩,og37_0,og37_1,og37_2,og37_3,hn⟩:=hI35
     subst hn
     have q38:=ZC (String_1.length)
     try simp only [*,go_sem,seval]
     refine ⟨_,[],[0,1,3],(Option.some.inj h).symm,by decide,?_⟩
     try simp only [*,go_sem,seval]
  ·rintro row_303 ⟨sl,ob,n⟩ hI39 hW40 h
   simp only [go_sem,seval,Zd] at hI39
   obtain ⟨⟨g41_1,g41_7,g41_8,g41_17,g41_18,g41_19,g41_23,g41_24,g41_25⟩,og41_0,og41_1,og41_2,hn⟩:=hI39
   subst hn
   have q42:=ZC (row_151.length)
   try simp only [*,go_sem,seval]
   refine ⟨_,[],[1],(Option.some.inj h).symm,by decide,?_⟩
   try simp only [*,go_sem,seval]
 ·rintro row_151 ⟨sl,ob,n⟩ hI43 hW44 h
  simp only [go_sem,seval,Zd] at hI43
  obtain ⟨⟨g45_1,g45_5,g45_17,g45_18,g45_19⟩,og45_0,hn⟩:=hI43
  subst hn
  have q46:=ZC (append_0.length)
  cases h
  try simp only [*,go_sem,seval]
theorem ZjB {rules_0:(List Zf)} {r:Bool} (h:Za7 rules_0=some r):Zn Tryz.prog J0 132 [(false,[.sl 82 4 (List.map ZB rules_0)])] [(false,[(false,.bool r)])]:=by
 refine fnk Tryz.func132 (by kernel_rfl) rfl (by kernel_rfl) (by kernel_rfl) ?_
 unfold Za7 at h
 simp only [fnS,f132,Zo,go_sem,seval]
 obtain ⟨v1,e1,h⟩:=Za h
 refine Zb (by have hh:=Zly e1;first|exact hh|(simp only [*,go_sem] at hh;exact hh)) ?_
 try simp only [*,go_sem,seval]
 refine Ze h (fun _ h=>?_) fun _ h=>?_<;>try simp only [*,go_sem,seval]
 ·refine Zg h (fun i _ st=>IV [(0,.p false [.c (.sl 82 4 (List.map ZB rules_0))]),(13,.p false [.c (.sl 82 4 (List.map ZB rules_0))]),(14,.p false [.c (.int .i64 ((rules_0.length:Nat):Int))]),(15,.p false [.c (.int .i64 ((i:Nat):Int))])] [] st) [] [] (by decide) ?_ ?_ ?_
  ·simp only [*,go_sem,seval]
  ·rintro i59 x60 ⟨⟩ ⟨sl,ob,n⟩ y3 hx4 hI5 hW6 h hy3
   simp only [go_sem,seval,Zd] at hI5
   obtain ⟨⟨g7_0,g7_13,g7_14,g7_15⟩,hn⟩:=hI5
   subst hn
   have hlhx4:=WF.slotL hW6 g7_0 (j:=0) rfl
   have q8:=ZF hx4
   have q9:=ZJ hx4
   have q10:=Zi (ZE hx4) hlhx4
   try simp only [*,go_sem,seval]
   obtain ⟨v61,e11,h⟩:=Za h
   refine Zb (by have hh:=Zlq e11;first|exact hh|(simp only [*,go_sem] at hh;exact hh)) ?_
   try simp only [*,go_sem,seval]
   refine Ze h (fun _ h=>?_) fun _ h=>?_<;>try simp only [*,go_sem,seval]
   ·refine Zg h (fun i _ st=>IV [(0,.p false [.c (.sl 82 4 (List.map ZB rules_0))]),(4,.bp 0 0),(13,.p false [.c (.sl 82 4 (List.map ZB rules_0))]),(14,.p false [.c (.int .i64 ((rules_0.length:Nat):Int))]),(15,.p false [.c (.int .i64 ((i59:Nat):Int))]),(23,.p false [.c (.sl 130 5 (List.map ZM x60.cond))]),(24,.p false [.c (.int .i64 ((x60.cond.length:Nat):Int))]),(25,.p false [.c (.int .i64 ((i:Nat):Int))])] [.box 82 [.c (.str x60.name),.c (.int .i64 x60.priority),.c (.sl 130 5 (List.map ZM x60.cond)),.c (.sl 134 3 (List.map ZA x60.thn))]] st) [] [48] (by decide) ?_ ?_ ?_
    ·simp only [*,go_sem,seval]
    ·rintro i79 x80 ⟨⟩ ⟨sl,ob,n⟩ y13 hx14 hI15 hW16 h hy13
     simp only [go_sem,seval,Zd] at hI15
     obtain ⟨⟨g17_0,g17_4,g17_13,g17_14,g17_15,g17_23,g17_24,g17_25⟩,og17_0,hn⟩:=hI15
     subst hn
     have hlhx14:=WF.slotL hW16 g17_23 (j:=0) rfl
     have q18:=ZF hx14
     have q19:=ZJ hx14
     have q20:=Zi (ZE hx14) hlhx14
     try simp only [*,go_sem,seval]
     refine Ze h (fun _ h=>?_) fun _ h=>?_<;>try simp only [*,go_sem,seval]
     ·refine ⟨_,[],[0],(Option.some.inj h).symm,by decide,?_⟩
      try simp only [*,go_sem,seval]
     ·obtain ⟨v81,e22,h⟩:=Za h
      refine Zve (by have hh:=Zl4 e22;first|exact hh|(simp only [*,go_sem] at hh;exact hh)) ?_
      try simp only [*,go_sem,seval]
      obtain ⟨v82,e23,h⟩:=Za h
      refine Zb (by have hh:=ZgR e23;first|exact hh|(simp only [*,go_sem] at hh;exact hh)) ?_
      try simp only [*,go_sem,seval]
      refine Zg h (fun i _ st=>IV [(0,.p false [.c (.sl 82 4 (List.map ZB rules_0))]),(4,.bp 0 0),(6,.bp 1 0),(7,.p false [.row 2]),(13,.p false [.c (.sl 82 4 (List.map ZB rules_0))]),(14,.p false [.c (.int .i64 ((rules_0.length:Nat):Int))]),(15,.p false [.c (.int .i64 ((i59:Nat):Int))]),(23,.p false [.c (.sl 130 5 (List.map ZM x60.cond))]),(24,.p false [.c (.int .i64 ((x60.cond.length:Nat):Int))]),(25,.p false [.c (.int .i64 ((i79:Nat):Int))]),(38,.p false [.row 3]),(39,.p false [.c (.int .i64 ((v82.length:Nat):Int))]),(40,.p false [.c (.int .i64 ((i:Nat):Int))])] [.box 82 [.c (.str x60.name),.c (.int .i64 x60.priority),.c (.sl 130 5 (List.map ZM x60.cond)),.c (.sl 134 3 (List.map ZA x60.thn))],.box 130 [.c (.int .i64 x80.kind),.c (.str x80.pattern.rel),.c (.sl 9 1 (List.map Zu x80.pattern.args)),.c (.str x80.left),.c (.str x80.right)],.map .str .bool (List.map eSB v81),.row 9 1 (List.map Zu v82) 2] st) [] [0,49,193,241] (by decide) ?_ ?_ ?_
      ·simp only [*,go_sem,seval]
      ·rintro i86 x87 ⟨⟩ ⟨sl,ob,n⟩ y24 hx25 hI26 hW27 h hy24
       simp only [go_sem,seval,Zd] at hI26
       obtain ⟨⟨g28_0,g28_4,g28_6,g28_7,g28_13,g28_14,g28_15,g28_23,g28_24,g28_25,g28_38,g28_39,g28_40⟩,og28_0,og28_1,og28_2,og28_3,hn⟩:=hI26
       subst hn
       have hlhx25:=WF.rowL hW27 og28_3
       have q29:=ZF hx25
       have q30:=ZJ hx25
       have q31:=Zi (ZE hx25) hlhx25
       try simp only [*,go_sem,seval]
       refine Ze h (fun _ h=>?_) fun _ h=>?_<;>try simp only [*,go_sem,seval]
       ·replace h:=Zs h hy24
        replace h:=Zs h hy13
        replace h:=Zs h hy3
        cases h
        try simp only [*,go_sem,seval]
       ·refine Ze h (fun _ h=>?_) fun _ h=>?_<;>try simp only [*,go_sem,seval]
        ·replace h:=Zs h hy24
         replace h:=Zs h hy13
         replace h:=Zs h hy3
         cases h
         try simp only [*,go_sem,seval]
        ·refine ⟨_,[],[0,1,2,3],(Option.some.inj h).symm,by decide,?_⟩
         try simp only [*,go_sem,seval]
      ·rintro ⟨⟩ ⟨sl,ob,n⟩ hI34 hW35 h
       simp only [go_sem,seval,Zd] at hI34
       obtain ⟨⟨g36_0,g36_4,g36_6,g36_7,g36_13,g36_14,g36_15,g36_23,g36_24,g36_25,g36_38,g36_39,g36_40⟩,og36_0,og36_1,og36_2,og36_3,hn⟩:=hI34
       subst hn
       have q37:=ZC (v82.length)
       try simp only [*,go_sem,seval]
       refine ⟨_,[],[0],(Option.some.inj h).symm,by decide,?_⟩
       try simp only [*,go_sem,seval]
    ·rintro ⟨⟩ ⟨sl,ob,n⟩ hI38 hW39 h
     simp only [go_sem,seval,Zd] at hI38
     obtain ⟨⟨g40_0,g40_4,g40_13,g40_14,g40_15,g40_23,g40_24,g40_25⟩,og40_0,hn⟩:=hI38
     subst hn
     have q41:=ZC (x60.cond.length)
     try simp only [*,go_sem,seval]
     refine ⟨_,[],[],(Option.some.inj h).symm,by decide,?_⟩
     try simp only [*,go_sem,seval]
   ·replace h:=Zs h hy3
    cases h
    try simp only [*,go_sem,seval]
  ·rintro ⟨⟩ ⟨sl,ob,n⟩ hI42 hW43 h
   simp only [go_sem,seval,Zd] at hI42
   obtain ⟨⟨g44_0,g44_13,g44_14,g44_15⟩,hn⟩:=hI42
   subst hn
   have q45:=ZC (rules_0.length)
   cases h
   try simp only [*,go_sem,seval]
 ·cases h
  try simp only [*,go_sem,seval]
end Go.Proofs.YtojnhepgnbhaaaaGreatDoor
namespace Go.Proofs.YtojnhepgnbhaaaaGreatDoor
open Go.Proofs.Tryz
set_option linter.unusedSimpArgs false
set_option linter.unusedVariables false
set_option maxRecDepth 1000000
set_option maxHeartbeats 4000000
theorem ZoB {append_0:(List Zt)} {String_1:Zm} {a_2:(List Zc)} {r:(List Zt)} (h:Zf1 append_0 String_1 a_2=some r):Zn Tryz.prog J0 127 [(false,[.sl 117 2 (List.map YZ append_0)]),(true,ZM String_1),(false,[.sl 57 2 (List.map Zq a_2)])] [(false,[(false,.sl 117 2 (List.map YZ r))])]:=by
 refine fnk Tryz.func127 (by kernel_rfl) rfl (by kernel_rfl) (by kernel_rfl) ?_
 unfold Zf1 at h
 simp only [fnS,f127,Zo,go_sem,seval]
 refine Zg h (fun i row_22 st=>IV [(0,.p false [.c (.sl 117 2 (List.map YZ append_0))]),(2,.p false [.c (.sl 57 2 (List.map Zq a_2))]),(4,.bp 0 0),(7,.p false [.row 1]),(8,.p false [.c (.int .i64 ((i:Nat):Int))])] [.box 130 [.c (.int .i64 String_1.kind),.c (.str String_1.pattern.rel),.c (.sl 9 1 (List.map Zu String_1.pattern.args)),.c (.str String_1.left),.c (.str String_1.right)],.row 117 2 (List.map YZ row_22) 2] st) [] [0,32] (by decide) ?_ ?_ ?_
 ·simp only [*,go_sem,seval]
 ·rintro i45 x46 row_22 ⟨sl,ob,n⟩ y1 hx2 hI3 hW4 h hy1
  simp only [go_sem,seval,Zd] at hI3
  obtain ⟨⟨g5_0,g5_2,g5_4,g5_7,g5_8⟩,og5_0,og5_1,hn⟩:=hI3
  subst hn
  have hlhx2:=WF.slotL hW4 g5_0 (j:=0) rfl
  have q6:=ZF hx2
  have q7:=ZJ hx2
  have q8:=Zi (ZE hx2) hlhx2
  try simp only [*,go_sem,seval]
  refine Ze h (fun _ h=>?_) fun _ h=>?_<;>try simp only [*,go_sem,seval]
  ·obtain ⟨v47,e10,h⟩:=Za h
   refine Zb (by have hh:=Zj1 e10;first|exact hh|(simp only [*,go_sem] at hh;exact hh)) ?_
   try simp only [*,go_sem,seval]
   refine Ze h (fun _ h=>?_) fun _ h=>?_<;>try simp only [*,go_sem,seval]
   ·obtain ⟨v48,e12,h⟩:=Za h
    refine Zb (by have hh:=Zon e12;first|exact hh|(simp only [*,go_sem] at hh;exact hh)) ?_
    obtain ⟨p13,h⟩:=Zx h
    try simp only [Nat.reduceLeDiff] at p13
    try simp only [*,go_sem,seval]
    refine ⟨_,[],[0,354],(Option.some.inj h).symm,by decide,?_⟩
    try simp only [*,go_sem,seval]
   ·refine ⟨_,[],[0,1],(Option.some.inj h).symm,by decide,?_⟩
    try simp only [*,go_sem,seval]
  ·refine Zg h (fun i row_53 st=>IV [(0,.p false [.c (.sl 117 2 (List.map YZ append_0))]),(2,.p false [.c (.sl 57 2 (List.map Zq a_2))]),(4,.bp 0 0),(7,.p false [.row 1]),(8,.p false [.c (.int .i64 ((i45:Nat):Int))]),(9,.p false [.c (.int .i64 ((i:Nat):Int))])] [.box 130 [.c (.int .i64 String_1.kind),.c (.str String_1.pattern.rel),.c (.sl 9 1 (List.map Zu String_1.pattern.args)),.c (.str String_1.left),.c (.str String_1.right)],.row 117 2 (List.map YZ row_53) 2] st) [] [0,1] (by decide) ?_ ?_ ?_
   ·simp only [*,go_sem,seval]
   ·rintro i59 x60 row_53 ⟨sl,ob,n⟩ y14 hx15 hI16 hW17 h hy14
    simp only [go_sem,seval,Zd] at hI16
    obtain ⟨⟨g18_0,g18_2,g18_4,g18_7,g18_8,g18_9⟩,og18_0,og18_1,hn⟩:=hI16
    subst hn
    have hlhx15:=WF.slotL hW17 g18_2 (j:=0) rfl
    have q19:=ZF hx15
    have q20:=ZJ hx15
    have q21:=Zi (ZE hx15) hlhx15
    try simp only [*,go_sem,seval]
    obtain ⟨v61,e22,h⟩:=Za h
    refine Zb (by have hh:=Zfh e22;first|exact hh|(simp only [*,go_sem] at hh;exact hh)) ?_
    try simp only [*,go_sem,seval]
    refine Ze h (fun _ h=>?_) fun _ h=>?_<;>try simp only [*,go_sem,seval]
    ·obtain ⟨v62,e24,h⟩:=Za h
     refine Zb (by have hh:=Zd1 e24;first|exact hh|(simp only [*,go_sem] at hh;exact hh)) ?_
     try simp only [*,go_sem,seval]
     obtain ⟨v63,e25,h⟩:=Za h
     refine Zb (by have hh:=XF e25;first|exact hh|(simp only [*,go_sem] at hh;exact hh)) ?_
     obtain ⟨p26,h⟩:=Zx h
     try simp only [Nat.reduceLeDiff] at p26
     obtain ⟨p27,h⟩:=Zx h
     try simp only [Nat.reduceLeDiff] at p27
     try simp only [*,go_sem,seval]
     refine ⟨_,[],[0,626],(Option.some.inj h).symm,by decide,?_⟩
     try simp only [*,go_sem,seval]
    ·refine ⟨_,[],[0,1],(Option.some.inj h).symm,by decide,?_⟩
     try simp only [*,go_sem,seval]
   ·rintro row_53 ⟨sl,ob,n⟩ hI28 hW29 h
    simp only [go_sem,seval,Zd] at hI28
    obtain ⟨⟨g30_0,g30_2,g30_4,g30_7,g30_8,g30_9⟩,og30_0,og30_1,hn⟩:=hI28
    subst hn
    have q31:=ZC (a_2.length)
    try simp only [*,go_sem,seval]
    refine ⟨_,[],[0,1],(Option.some.inj h).symm,by decide,?_⟩
    try simp only [*,go_sem,seval]
 ·rintro row_22 ⟨sl,ob,n⟩ hI32 hW33 h
  simp only [go_sem,seval,Zd] at hI32
  obtain ⟨⟨g34_0,g34_2,g34_4,g34_7,g34_8⟩,og34_0,og34_1,hn⟩:=hI32
  subst hn
  have q35:=ZC (append_0.length)
  cases h
  try simp only [*,go_sem,seval]
theorem ZjD {append_0:(List Zf)} {r:Bool} (h:Zbg append_0=some r):Zn Tryz.prog J0 123 [(false,[.sl 82 4 (List.map ZB append_0)])] [(false,[(false,.bool r)])]:=by
 refine fnk Tryz.func123 (by kernel_rfl) rfl (by kernel_rfl) (by kernel_rfl) ?_
 unfold Zbg at h
 simp only [fnS,f123,Zo,go_sem,seval]
 refine Zg h (fun i _ st=>IV [(0,.p false [.c (.sl 82 4 (List.map ZB append_0))]),(3,.p false [.c (.int .i64 ((i:Nat):Int))])] [] st) [] [] (by decide) ?_ ?_ ?_
 ·simp only [*,go_sem,seval]
 ·rintro i67 x68 ⟨⟩ ⟨sl,ob,n⟩ y1 hx2 hI3 hW4 h hy1
  simp only [go_sem,seval,Zd] at hI3
  obtain ⟨⟨g5_0,g5_3⟩,hn⟩:=hI3
  subst hn
  have hlhx2:=WF.slotL hW4 g5_0 (j:=0) rfl
  have q6:=ZF hx2
  have q7:=ZJ hx2
  have q8:=Zi (ZE hx2) hlhx2
  try simp only [*,go_sem,seval]
  obtain ⟨v69,e9,h⟩:=Za h
  refine Zb (by have hh:=Zkx e9;first|exact hh|(simp only [*,go_sem] at hh;exact hh)) ?_
  try simp only [*,go_sem,seval]
  refine Ze h (fun _ h=>?_) fun _ h=>?_<;>try simp only [*,go_sem,seval]
  ·obtain ⟨v70,e11,h⟩:=Za h
   refine Zb (by have hh:=ZgD e11;first|exact hh|(simp only [*,go_sem] at hh;exact hh)) ?_
   try simp only [*,go_sem,seval]
   refine Zg h (fun i _ st=>IV [(0,.p false [.c (.sl 82 4 (List.map ZB append_0))]),(3,.p false [.c (.int .i64 ((i67:Nat):Int))]),(4,.p false [.row 0]),(5,.p false [.c (.int .i64 ((i:Nat):Int))])] [.row 9 1 (List.map Zu v70) 2] st) [] [224] (by decide) ?_ ?_ ?_
   ·simp only [*,go_sem,seval]
   ·rintro i90 x91 ⟨⟩ ⟨sl,ob,n⟩ y12 hx13 hI14 hW15 h hy12
    simp only [go_sem,seval,Zd] at hI14
    obtain ⟨⟨g16_0,g16_3,g16_4,g16_5⟩,og16_0,hn⟩:=hI14
    subst hn
    have hlhx13:=WF.elL (WF.slotD hW15 g16_0 (j:=0) rfl) hx2 (j:=2) rfl
    have q17:=ZF hx13
    have q18:=ZJ hx13
    have q19:=Zi (ZE hx13) hlhx13
    try simp only [*,go_sem,seval]
    refine Zg h (fun i _ st=>IV [(0,.p false [.c (.sl 82 4 (List.map ZB append_0))]),(3,.p false [.c (.int .i64 ((i67:Nat):Int))]),(4,.p false [.row 0]),(5,.p false [.c (.int .i64 ((i90:Nat):Int))]),(6,.bp 1 0),(7,.p false [.c (.int .i64 ((i:Nat):Int))])] [.row 9 1 (List.map Zu v70) 2,.box 130 [.c (.int .i64 x91.kind),.c (.str x91.pattern.rel),.c (.sl 9 1 (List.map Zu x91.pattern.args)),.c (.str x91.left),.c (.str x91.right)]] st) [] [0,257] (by decide) ?_ ?_ ?_
    ·simp only [*,go_sem,seval]
    ·rintro i97 x98 ⟨⟩ ⟨sl,ob,n⟩ y20 hx21 hI22 hW23 h hy20
     simp only [go_sem,seval,Zd] at hI22
     obtain ⟨⟨g24_0,g24_3,g24_4,g24_5,g24_6,g24_7⟩,og24_0,og24_1,hn⟩:=hI22
     subst hn
     have hlhx21:=WF.rowL hW23 og24_0
     have q25:=ZF hx21
     have q26:=ZJ hx21
     have q27:=Zi (ZE hx21) hlhx21
     try simp only [*,go_sem,seval]
     refine Ze h (fun _ h=>?_) fun _ h=>?_<;>try simp only [*,go_sem,seval]
     ·refine Ze h (fun _ h=>?_) fun _ h=>?_<;>try simp only [*,go_sem,seval]
      ·replace h:=Zs h hy20
       replace h:=Zs h hy12
       replace h:=Zs h hy1
       cases h
       try simp only [*,go_sem,seval]
      ·obtain ⟨v99,e30,h⟩:=Za h
       refine Zb (by have hh:=Zjw e30;first|exact hh|(simp only [*,go_sem] at hh;exact hh)) ?_
       try simp only [*,go_sem,seval]
       refine Ze h (fun _ h=>?_) fun _ h=>?_<;>try simp only [*,go_sem,seval]
       ·replace h:=Zs h hy20
        replace h:=Zs h hy12
        replace h:=Zs h hy1
        cases h
        try simp only [*,go_sem,seval]
       ·refine ⟨_,[],[0,1],(Option.some.inj h).symm,by decide,?_⟩
        try simp only [*,go_sem,seval]
     ·replace h:=Zs h hy20
      refine ⟨_,[],[0],(Option.some.inj h).symm,by decide,?_⟩
      try simp only [*,go_sem,seval]
    ·rintro ⟨⟩ ⟨sl,ob,n⟩ hI32 hW33 h
     simp only [go_sem,seval,Zd] at hI32
     obtain ⟨⟨g34_0,g34_3,g34_4,g34_5,g34_6,g34_7⟩,og34_0,og34_1,hn⟩:=hI32
     subst hn
     have q35:=ZC (v70.length)
     try simp only [*,go_sem,seval]
     refine ⟨_,[],[0],(Option.some.inj h).symm,by decide,?_⟩
     try simp only [*,go_sem,seval]
   ·rintro ⟨⟩ ⟨sl,ob,n⟩ hI36 hW37 h
    simp only [go_sem,seval,Zd] at hI36
    obtain ⟨⟨g38_0,g38_3,g38_4,g38_5⟩,og38_0,hn⟩:=hI36
    subst hn
    have q39:=ZC (x68.cond.length)
    try simp only [*,go_sem,seval]
    refine ⟨_,[],[],(Option.some.inj h).symm,by decide,?_⟩
    try simp only [*,go_sem,seval]
  ·replace h:=Zs h hy1
   cases h
   try simp only [*,go_sem,seval]
 ·rintro ⟨⟩ ⟨sl,ob,n⟩ hI40 hW41 h
  simp only [go_sem,seval,Zd] at hI40
  obtain ⟨⟨g42_0,g42_3⟩,hn⟩:=hI40
  subst hn
  have q43:=ZC (append_0.length)
  try simp only [*,go_sem,seval]
  obtain ⟨v100,e44,h⟩:=Za h
  refine Zb (by have hh:=ZlF e44;first|exact hh|(simp only [*,go_sem] at hh;exact hh)) ?_
  cases h
  try simp only [*,go_sem,seval]
theorem Zho {append_0:(List Zf)} {String_1:(List Zc)} {r:((List Zc) × Bool)} (h:Yv append_0 String_1=some r):Zn Tryz.prog J0 86 [(false,[.sl 82 4 (List.map ZB append_0)]),(false,[.sl 57 2 (List.map Zq String_1)])] [(false,[(false,.sl 57 2 (List.map Zq r.1))]),(false,[(false,.bool r.2)])]:=by
 refine fnn 4 Tryz.func86 (by kernel_rfl) rfl (by kernel_rfl) (by kernel_rfl) ?_
 unfold Yv at h
 simp only [fnN,f86,Zo,go_sem,seval]
 obtain ⟨v1,e1,h⟩:=Za h
 refine Zb (by have hh:=ZjB e1;first|exact hh|(simp only [*,go_sem] at hh;exact hh)) ?_
 try simp only [*,go_sem,seval]
 refine Ze h (fun _ h=>?_) fun _ h=>?_<;>try simp only [*,go_sem,seval]
 ·obtain ⟨v2,e3,h⟩:=Za h
  refine Zb (by have hh:=ZlL e3;first|exact hh|(simp only [*,go_sem] at hh;exact hh)) ?_
  try simp only [*,go_sem,seval]
  refine Ze h (fun _ h=>?_) fun _ h=>?_<;>try simp only [*,go_sem,seval]
  ·obtain ⟨v3,e5,h⟩:=Za h
   refine Zb (by have hh:=ZfB e5;first|exact hh|(simp only [*,go_sem] at hh;exact hh)) ?_
   try simp only [*,go_sem,seval]
   refine Zeh h (fun s st=>match s with | (u_254,u_255)=>IV [(0,.p false [.c (.sl 82 4 (List.map ZB append_0))]),(6,.p false [.n (.sl 57 2 (List.map Zq u_254))]),(7,.p false [.c (.bool u_255)])] [] st) [(false,6,4096)] [] (by decide) ?_ ?_
   ·simp only [*,go_sem,seval]
   ·rintro ⟨u_254,u_255⟩ ⟨sl,ob,n⟩ y6 hI7 hW8 h hy6
    simp only [go_sem,seval,Zd] at hI7
    obtain ⟨⟨g9_0,g9_6,g9_7⟩,hn⟩:=hI7
    subst hn
    try simp only [*,go_sem,seval]
    refine Ze h (fun _ h=>?_) fun _ h=>?_<;>try simp only [*,go_sem,seval]
    ·refine Zg h (fun i s st=>match s with | (u_339,u_340)=>IV [(0,.p false [.c (.sl 82 4 (List.map ZB append_0))]),(6,.p false [.n (.sl 57 2 (List.map Zq u_339))]),(7,.p false [.c (.bool u_340)]),(27,.p false [.c (.sl 82 4 (List.map ZB append_0))]),(28,.p false [.c (.int .i64 ((append_0.length:Nat):Int))]),(29,.p false [.c (.int .i64 ((i:Nat):Int))])] [] st) [] [] (by decide) ?_ ?_ ?_
     ·simp only [*,go_sem,seval]
     ·rintro i423 x424 ⟨u_339,u_340⟩ ⟨sl,ob,n⟩ y11 hx12 hI13 hW14 h hy11
      simp only [go_sem,seval,Zd] at hI13
      obtain ⟨⟨g15_0,g15_6,g15_7,g15_27,g15_28,g15_29⟩,hn⟩:=hI13
      subst hn
      have hlhx12:=WF.slotL hW14 g15_0 (j:=0) rfl
      have q16:=ZF hx12
      have q17:=ZJ hx12
      have q18:=Zi (ZE hx12) hlhx12
      try simp only [*,go_sem,seval]
      obtain ⟨v425,e19,h⟩:=Za h
      refine Zmo (by have hh:=Zep e19;first|exact hh|(simp only [*,go_sem] at hh;exact hh)) ?_
      try simp only [*,go_sem,seval]
      obtain ⟨v426,e20,h⟩:=Za h
      refine Zmo (by have hh:=ZgN e20;first|exact hh|(simp only [*,go_sem] at hh;exact hh)) ?_
      try simp only [*,go_sem,seval]
      refine Zg h (fun i s st=>match s with | (u_453,u_454)=>IV [(0,.p false [.c (.sl 82 4 (List.map ZB append_0))]),(6,.p false [.n (.sl 57 2 (List.map Zq u_453))]),(7,.p false [.c (.bool u_454)]),(9,.bp 0 0),(27,.p false [.c (.sl 82 4 (List.map ZB append_0))]),(28,.p false [.c (.int .i64 ((append_0.length:Nat):Int))]),(29,.p false [.c (.int .i64 ((i423:Nat):Int))]),(36,.p false [.c (.sl 117 2 (List.map YZ v426))]),(37,.p false [.c (.int .i64 ((v426.length:Nat):Int))]),(38,.p false [.c (.int .i64 ((i:Nat):Int))])] [.box 82 [.c (.str x424.name),.c (.int .i64 x424.priority),.c (.sl 130 5 (List.map ZM x424.cond)),.c (.sl 134 3 (List.map ZA x424.thn))]] st) [] [48] (by decide) ?_ ?_ ?_
      ·simp only [*,go_sem,seval]
      ·rintro i480 x481 ⟨u_453,u_454⟩ ⟨sl,ob,n⟩ y21 hx22 hI23 hW24 h hy21
       simp only [go_sem,seval,Zd] at hI23
       obtain ⟨⟨g25_0,g25_6,g25_7,g25_9,g25_27,g25_28,g25_29,g25_36,g25_37,g25_38⟩,og25_0,hn⟩:=hI23
       subst hn
       have hlhx22:=WF.slotL hW24 g25_36 (j:=0) rfl
       have q26:=ZF hx22
       have q27:=ZJ hx22
       have q28:=Zi (ZE hx22) hlhx22
       try simp only [*,go_sem,seval]
       refine Zg h (fun i s st=>match s with | (u_495,u_496)=>IV [(0,.p false [.c (.sl 82 4 (List.map ZB append_0))]),(6,.p false [.n (.sl 57 2 (List.map Zq u_495))]),(7,.p false [.c (.bool u_496)]),(9,.bp 0 0),(11,.bp 1 0),(27,.p false [.c (.sl 82 4 (List.map ZB append_0))]),(28,.p false [.c (.int .i64 ((append_0.length:Nat):Int))]),(29,.p false [.c (.int .i64 ((i423:Nat):Int))]),(36,.p false [.c (.sl 117 2 (List.map YZ v426))]),(37,.p false [.c (.int .i64 ((v426.length:Nat):Int))]),(38,.p false [.c (.int .i64 ((i480:Nat):Int))]),(43,.p false [.c (.sl 134 3 (List.map ZA x424.thn))]),(44,.p false [.c (.int .i64 ((x424.thn.length:Nat):Int))]),(45,.p false [.c (.int .i64 ((i:Nat):Int))])] [.box 82 [.c (.str x424.name),.c (.int .i64 x424.priority),.c (.sl 130 5 (List.map ZM x424.cond)),.c (.sl 134 3 (List.map ZA x424.thn))],.box 117 [.c (.sl 57 2 (List.map Zq x481.facts)),.c (.sl 192 2 (List.map Z6 x481.binding))]] st) [] [0,49] (by decide) ?_ ?_ ?_
       ·simp only [*,go_sem,seval]
       ·rintro i501 x502 ⟨u_495,u_496⟩ ⟨sl,ob,n⟩ y29 hx30 hI31 hW32 h hy29
        simp only [go_sem,seval,Zd] at hI31
        obtain ⟨⟨g33_0,g33_6,g33_7,g33_9,g33_11,g33_27,g33_28,g33_29,g33_36,g33_37,g33_38,g33_43,g33_44,g33_45⟩,og33_0,og33_1,hn⟩:=hI31
        subst hn
        have hlhx30:=WF.slotL hW32 g33_43 (j:=0) rfl
        have q34:=ZF hx30
        have q35:=ZJ hx30
        have q36:=Zi (ZE hx30) hlhx30
        try simp only [*,go_sem,seval]
        obtain ⟨v503,e37,h⟩:=Za h
        refine Zb (by have hh:=Zd4 e37;first|exact hh|(simp only [*,go_sem] at hh;exact hh)) ?_
        try simp only [*,go_sem,seval]
        obtain ⟨v504,e38,h⟩:=Za h
        refine Zb (by have hh:=ZbR e38;first|exact hh|(simp only [*,go_sem] at hh;exact hh)) ?_
        try simp only [*,go_sem,seval]
        refine Ze h (fun _ h=>?_) fun _ h=>?_<;>try simp only [*,go_sem,seval]
        ·refine ⟨_,[],[0,1],(Option.some.inj h).symm,by decide,?_⟩
         try simp only [*,go_sem,seval]
        ·refine Ze h (fun _ h=>?_) fun _ h=>?_<;>try simp only [*,go_sem,seval]
         ·replace h:=Zs h hy29
          replace h:=Zs h hy21
          replace h:=Zs h hy11
          replace h:=Zs h hy6
          cases h
          try simp only [*,go_sem,seval]
         ·obtain ⟨v505,e41,h⟩:=Za h
          refine Zb (by have hh:=ZnP e41;first|exact hh|(simp only [*,go_sem] at hh;exact hh)) ?_
          try simp only [*,go_sem,seval]
          refine ⟨_,[(false,6,4096)],[0,1],(Option.some.inj h).symm,by decide,?_⟩
          try simp only [*,go_sem,seval]
       ·rintro ⟨u_495,u_496⟩ ⟨sl,ob,n⟩ hI42 hW43 h
        simp only [go_sem,seval,Zd] at hI42
        obtain ⟨⟨g44_0,g44_6,g44_7,g44_9,g44_11,g44_27,g44_28,g44_29,g44_36,g44_37,g44_38,g44_43,g44_44,g44_45⟩,og44_0,og44_1,hn⟩:=hI42
        subst hn
        have q45:=ZC (x424.thn.length)
        try simp only [*,go_sem,seval]
        refine ⟨_,[],[0],(Option.some.inj h).symm,by decide,?_⟩
        try simp only [*,go_sem,seval]
      ·rintro ⟨u_453,u_454⟩ ⟨sl,ob,n⟩ hI46 hW47 h
       simp only [go_sem,seval,Zd] at hI46
       obtain ⟨⟨g48_0,g48_6,g48_7,g48_9,g48_27,g48_28,g48_29,g48_36,g48_37,g48_38⟩,og48_0,hn⟩:=hI46
       subst hn
       have q49:=ZC (v426.length)
       try simp only [*,go_sem,seval]
       refine ⟨_,[],[],(Option.some.inj h).symm,by decide,?_⟩
       try simp only [*,go_sem,seval]
     ·rintro ⟨u_339,u_340⟩ ⟨sl,ob,n⟩ hI50 hW51 h
      simp only [go_sem,seval,Zd] at hI50
      obtain ⟨⟨g52_0,g52_6,g52_7,g52_27,g52_28,g52_29⟩,hn⟩:=hI50
      subst hn
      have q53:=ZC (append_0.length)
      try simp only [*,go_sem,seval]
      refine ⟨_,[],[],(Option.some.inj h).symm,by decide,?_⟩
      try simp only [*,go_sem,seval]
    ·replace h:=Zs h hy6
     cases h
     try simp only [*,go_sem,seval]
  ·cases h
   try simp only [*,go_sem,seval]
 ·cases h
  try simp only [*,go_sem,seval]
end Go.Proofs.YtojnhepgnbhaaaaGreatDoor
namespace Go.Proofs.YtojnhepgnbhaaaaGreatDoor
open Go.Proofs.Tryz
set_option linter.unusedSimpArgs false
set_option linter.unusedVariables false
set_option maxRecDepth 1000000
set_option maxHeartbeats 4000000
theorem Zgu {l_0:(List Zm)} {facts_1:(List Zc)} {r:(List Zt)} (h:Zay l_0 facts_1=some r):Zn Tryz.prog J0 80 [(false,[.sl 130 5 (List.map ZM l_0)]),(false,[.sl 57 2 (List.map Zq facts_1)])] [(false,[(false,.sl 117 2 (List.map YZ r))])]:=by
 refine fnk Tryz.func80 (by kernel_rfl) rfl (by kernel_rfl) (by kernel_rfl) ?_
 unfold Zay at h
 simp only [fnS,f80,Zo,go_sem,seval]
 refine Zg h (fun i a st=>IV [(0,.p false [.c (.sl 130 5 (List.map ZM l_0))]),(1,.p false [.c (.sl 57 2 (List.map Zq facts_1))]),(5,.p false [.row 0]),(6,.p false [.c (.int .i64 ((i:Nat):Int))])] [.row 117 2 (List.map YZ a) 2] st) [] [32] (by decide) ?_ ?_ ?_
 simp only [*,go_sem,seval]
 rintro m o a ⟨sl,ob,n⟩ q b d f h t
 simp only [go_sem,seval,Zd] at d
 obtain ⟨⟨g,u,v,w⟩,x,hn⟩:=d
 subst hn
 have k:=WF.slotL f g (j:=0) rfl
 have y:=ZF b
 have z:=ZJ b
 have A:=Zi (ZE b) k
 try simp only [*,go_sem,seval]
 obtain ⟨B,l,h⟩:=Za h
 refine Zb (ZoB l) ?_
 try simp only [*,go_sem,seval]
 refine ⟨_,[],[161],(Option.some.inj h).symm,by decide,?_⟩
 try simp only [*,go_sem,seval]
 rintro a ⟨sl,ob,n⟩ e C h
 simp only [go_sem,seval,Zd] at e
 obtain ⟨⟨D,E,F,G⟩,H,hn⟩:=e
 subst hn
 have I:=ZC (l_0.length)
 cases h
 try simp only [*,go_sem,seval]
theorem Zol {append_0:(List Zf)} {String_1:(List Zc)} {r:((List Zc) × ZK × (List Zaj) × Bool)} (h:Zbe append_0 String_1=some r):Zn Tryz.prog J0 47 [(false,[.sl 82 4 (List.map ZB append_0)]),(false,[.sl 57 2 (List.map Zq String_1)])] [(false,[(false,.sl 57 2 (List.map Zq r.1))]),(true,[(false,.int .i64 r.2.1.nodes),(false,.sl 114 3 (List.map Yn r.2.1.reasons))]),(false,[(false,.any)]),(false,[(false,.bool r.2.2.2)])]:=by
 refine fnn 4 Tryz.func47 (by kernel_rfl) rfl (by kernel_rfl) (by kernel_rfl) ?_
 unfold Zbe at h
 simp only [fnN,f47,Zo,go_sem,seval]
 obtain ⟨v1,e1,h⟩:=Za h
 refine Zb (by have hh:=Zho e1;first|exact hh|(simp only [*,go_sem] at hh;exact hh)) ?_
 try simp only [*,go_sem,seval]
 refine Ze h (fun _ h=>?_) fun _ h=>?_<;>try simp only [*,go_sem,seval]
 ·refine Zg h (fun i s st=>match s with | (row_8,row_9)=>IV [(0,.p false [.c (.sl 82 4 (List.map ZB append_0))]),(5,.bp 0 0),(8,.p false [.n (.sl 57 2 (List.map Zq v1.1))]),(10,.bp 1 0),(11,.p false [.row 3]),(40,.p false [.c (.sl 57 2 (List.map Zq String_1))]),(41,.p false [.c (.int .i64 ((String_1.length:Nat):Int))]),(42,.p false [.c (.int .i64 ((i:Nat):Int))])] [.box 29 [.c (.int .i64 0),.nil 114 3],.box 29 [.c (.int .i64 ((v1.1.length:Nat):Int)),.row 2],.row 114 3 (List.map Yn row_8) 2,.row 128 2 (List.map Zgf row_9) 2] st) [(false,8,4096),(false,11,0),(true,272,1)] [16,272,369,368] (by decide) ?_ ?_ ?_
  ·simp only [*,go_sem,seval]
  ·rintro i941 x942 ⟨row_8,row_9⟩ ⟨sl,ob,n⟩ y3 hx4 hI5 hW6 h hy3
   simp only [go_sem,seval,Zd] at hI5
   obtain ⟨⟨g7_0,g7_5,g7_8,g7_10,g7_11,g7_40,g7_41,g7_42⟩,og7_0,og7_1,og7_2,og7_3,hn⟩:=hI5
   subst hn
   have hlhx4:=WF.slotL hW6 g7_40 (j:=0) rfl
   have q8:=ZF hx4
   have q9:=ZJ hx4
   have q10:=Zi (ZE hx4) hlhx4
   try simp only [*,go_sem,seval]
   obtain ⟨v943,e11,h⟩:=Za h
   refine Zb (by have hh:=ZbR e11;first|exact hh|(simp only [*,go_sem] at hh;exact hh)) ?_
   obtain ⟨p12,h⟩:=Zx h
   try simp only [Nat.reduceLeDiff] at p12
   obtain ⟨p13,h⟩:=Zx h
   try simp only [Nat.reduceLeDiff] at p13
   try simp only [*,go_sem,seval]
   refine ⟨_,[],[0,1,196,292],(Option.some.inj h).symm,by decide,?_⟩
   try simp only [*,go_sem,seval]
  ·rintro ⟨row_8,row_9⟩ ⟨sl,ob,n⟩ hI14 hW15 h
   simp only [go_sem,seval,Zd] at hI14
   obtain ⟨⟨g16_0,g16_5,g16_8,g16_10,g16_11,g16_40,g16_41,g16_42⟩,og16_0,og16_1,og16_2,og16_3,hn⟩:=hI14
   subst hn
   have q17:=ZC (String_1.length)
   try simp only [*,go_sem,seval]
   refine Zg h (fun i s st=>match s with | (row_1446,row_1447)=>IV [(5,.bp 0 0),(8,.p false [.n (.sl 57 2 (List.map Zq v1.1))]),(10,.bp 1 0),(11,.p false [.row 3]),(60,.p false [.c (.sl 82 4 (List.map ZB append_0))]),(61,.p false [.c (.int .i64 ((append_0.length:Nat):Int))]),(62,.p false [.c (.int .i64 ((i:Nat):Int))])] [.box 29 [.c (.int .i64 0),.nil 114 3],.box 29 [.c (.int .i64 ((v1.1.length:Nat):Int)),.row 2],.row 114 3 (List.map Yn row_1446) 2,.row 128 2 (List.map Zgf row_1447) 1] st) [(true,3,1)] [0,1,2,3] (by decide) ?_ ?_ ?_
   ·simp only [*,go_sem,seval]
   ·rintro i1660 x1661 ⟨row_1446,row_1447⟩ ⟨sl,ob,n⟩ y18 hx19 hI20 hW21 h hy18
    simp only [go_sem,seval,Zd] at hI20
    obtain ⟨⟨g22_5,g22_8,g22_10,g22_11,g22_60,g22_61,g22_62⟩,og22_0,og22_1,og22_2,og22_3,hn⟩:=hI20
    subst hn
    have hlhx19:=WF.slotL hW21 g22_60 (j:=0) rfl
    have q23:=ZF hx19
    have q24:=ZJ hx19
    have q25:=Zi (ZE hx19) hlhx19
    try simp only [*,go_sem,seval]
    obtain ⟨v1662,e26,h⟩:=Za h
    refine Zmo (by have hh:=Zep e26;first|exact hh|(simp only [*,go_sem] at hh;exact hh)) ?_
    try simp only [*,go_sem,seval]
    obtain ⟨v1663,e27,h⟩:=Za h
    refine Zmo (by have hh:=ZgN e27;first|exact hh|(simp only [*,go_sem] at hh;exact hh)) ?_
    try simp only [*,go_sem,seval]
    refine Zg h (fun i s st=>match s with | (row_1732,row_1733)=>IV [(5,.bp 0 0),(8,.p false [.n (.sl 57 2 (List.map Zq v1.1))]),(10,.bp 1 0),(11,.p false [.row 3]),(15,.bp 4 0),(60,.p false [.c (.sl 82 4 (List.map ZB append_0))]),(61,.p false [.c (.int .i64 ((append_0.length:Nat):Int))]),(62,.p false [.c (.int .i64 ((i1660:Nat):Int))]),(69,.p false [.c (.sl 117 2 (List.map YZ v1663))]),(70,.p false [.c (.int .i64 ((v1663.length:Nat):Int))]),(71,.p false [.c (.int .i64 ((i:Nat):Int))])] [.box 29 [.c (.int .i64 0),.nil 114 3],.box 29 [.c (.int .i64 ((v1.1.length:Nat):Int)),.row 2],.row 114 3 (List.map Yn row_1732) 2,.row 128 2 (List.map Zgf row_1733) 1,.box 82 [.c (.str x1661.name),.c (.int .i64 x1661.priority),.c (.sl 130 5 (List.map ZM x1661.cond)),.c (.sl 134 3 (List.map ZA x1661.thn))]] st) [] [0,1,2,3,52] (by decide) ?_ ?_ ?_
    ·simp only [*,go_sem,seval]
    ·rintro i1803 x1804 ⟨row_1732,row_1733⟩ ⟨sl,ob,n⟩ y28 hx29 hI30 hW31 h hy28
     simp only [go_sem,seval,Zd] at hI30
     obtain ⟨⟨g32_5,g32_8,g32_10,g32_11,g32_15,g32_60,g32_61,g32_62,g32_69,g32_70,g32_71⟩,og32_0,og32_1,og32_2,og32_3,og32_4,hn⟩:=hI30
     subst hn
     have hlhx29:=WF.slotL hW31 g32_69 (j:=0) rfl
     have q33:=ZF hx29
     have q34:=ZJ hx29
     have q35:=Zi (ZE hx29) hlhx29
     try simp only [*,go_sem,seval]
     refine Zg h (fun i row_1809 st=>IV [(5,.bp 0 0),(8,.p false [.n (.sl 57 2 (List.map Zq v1.1))]),(10,.bp 1 0),(11,.p false [.row 3]),(15,.bp 4 0),(17,.bp 5 0),(18,.p false [.row 6]),(60,.p false [.c (.sl 82 4 (List.map ZB append_0))]),(61,.p false [.c (.int .i64 ((append_0.length:Nat):Int))]),(62,.p false [.c (.int .i64 ((i1660:Nat):Int))]),(69,.p false [.c (.sl 117 2 (List.map YZ v1663))]),(70,.p false [.c (.int .i64 ((v1663.length:Nat):Int))]),(71,.p false [.c (.int .i64 ((i1803:Nat):Int))]),(76,.p false [.c (.sl 130 5 (List.map ZM x1661.cond))]),(77,.p false [.c (.int .i64 ((x1661.cond.length:Nat):Int))]),(78,.p false [.c (.int .i64 ((i:Nat):Int))])] [.box 29 [.c (.int .i64 0),.nil 114 3],.box 29 [.c (.int .i64 ((v1.1.length:Nat):Int)),.row 2],.row 114 3 (List.map Yn row_1732) 2,.row 128 2 (List.map Zgf row_1733) 1,.box 82 [.c (.str x1661.name),.c (.int .i64 x1661.priority),.c (.sl 130 5 (List.map ZM x1661.cond)),.c (.sl 134 3 (List.map ZA x1661.thn))],.box 117 [.c (.sl 57 2 (List.map Zq x1804.facts)),.c (.sl 192 2 (List.map Z6 x1804.binding))],.row 57 2 (List.map Zq row_1809) 2] st) [(false,18,0)] [0,1,2,3,4,53,165] (by decide) ?_ ?_ ?_
     ·simp only [*,go_sem,seval]
     ·rintro i1841 x1842 row_1809 ⟨sl,ob,n⟩ y36 hx37 hI38 hW39 h hy36
      simp only [go_sem,seval,Zd] at hI38
      obtain ⟨⟨g40_5,g40_8,g40_10,g40_11,g40_15,g40_17,g40_18,g40_60,g40_61,g40_62,g40_69,g40_70,g40_71,g40_76,g40_77,g40_78⟩,og40_0,og40_1,og40_2,og40_3,og40_4,og40_5,og40_6,hn⟩:=hI38
      subst hn
      have hlhx37:=WF.slotL hW39 g40_76 (j:=0) rfl
      have q41:=ZF hx37
      have q42:=ZJ hx37
      have q43:=Zi (ZE hx37) hlhx37
      try simp only [*,go_sem,seval]
      refine Ze h (fun _ h=>?_) fun _ h=>?_<;>try simp only [*,go_sem,seval]
      ·obtain ⟨v1843,e45,h⟩:=Za h
       refine Zb (by have hh:=Zd4 e45;first|exact hh|(simp only [*,go_sem] at hh;exact hh)) ?_
       obtain ⟨p46,h⟩:=Zx h
       try simp only [Nat.reduceLeDiff] at p46
       try simp only [*,go_sem,seval]
       refine ⟨_,[],[0,1,2,3,4,5,359],(Option.some.inj h).symm,by decide,?_⟩
       try simp only [*,go_sem,seval]
      ·refine ⟨_,[],[0,1,2,3,4,5,6],(Option.some.inj h).symm,by decide,?_⟩
       try simp only [*,go_sem,seval]
     ·rintro row_1809 ⟨sl,ob,n⟩ hI47 hW48 h
      simp only [go_sem,seval,Zd] at hI47
      obtain ⟨⟨g49_5,g49_8,g49_10,g49_11,g49_15,g49_17,g49_18,g49_60,g49_61,g49_62,g49_69,g49_70,g49_71,g49_76,g49_77,g49_78⟩,og49_0,og49_1,og49_2,og49_3,og49_4,og49_5,og49_6,hn⟩:=hI47
      subst hn
      have q50:=ZC (x1661.cond.length)
      try simp only [*,go_sem,seval]
      refine Zg h (fun i s st=>match s with | (row_1857,row_1858)=>IV [(5,.bp 0 0),(8,.p false [.n (.sl 57 2 (List.map Zq v1.1))]),(10,.bp 1 0),(11,.p false [.row 3]),(15,.bp 4 0),(17,.bp 5 0),(18,.p false [.row 6]),(60,.p false [.c (.sl 82 4 (List.map ZB append_0))]),(61,.p false [.c (.int .i64 ((append_0.length:Nat):Int))]),(62,.p false [.c (.int .i64 ((i1660:Nat):Int))]),(69,.p false [.c (.sl 117 2 (List.map YZ v1663))]),(70,.p false [.c (.int .i64 ((v1663.length:Nat):Int))]),(71,.p false [.c (.int .i64 ((i1803:Nat):Int))]),(99,.p false [.c (.sl 134 3 (List.map ZA x1661.thn))]),(100,.p false [.c (.int .i64 ((x1661.thn.length:Nat):Int))]),(101,.p false [.c (.int .i64 ((i:Nat):Int))])] [.box 29 [.c (.int .i64 0),.nil 114 3],.box 29 [.c (.int .i64 ((v1.1.length:Nat):Int)),.row 2],.row 114 3 (List.map Yn row_1857) 2,.row 128 2 (List.map Zgf row_1858) 1,.box 82 [.c (.str x1661.name),.c (.int .i64 x1661.priority),.c (.sl 130 5 (List.map ZM x1661.cond)),.c (.sl 134 3 (List.map ZA x1661.thn))],.box 117 [.c (.sl 57 2 (List.map Zq x1804.facts)),.c (.sl 192 2 (List.map Z6 x1804.binding))],.row 57 2 (List.map Zq row_1809) 2] st) [] [0,1,2,3,4,5,6] (by decide) ?_ ?_ ?_
      ·simp only [*,go_sem,seval]
      ·rintro i1865 x1866 ⟨row_1857,row_1858⟩ ⟨sl,ob,n⟩ y51 hx52 hI53 hW54 h hy51
       simp only [go_sem,seval,Zd] at hI53
       obtain ⟨⟨g55_5,g55_8,g55_10,g55_11,g55_15,g55_17,g55_18,g55_60,g55_61,g55_62,g55_69,g55_70,g55_71,g55_99,g55_100,g55_101⟩,og55_0,og55_1,og55_2,og55_3,og55_4,og55_5,og55_6,hn⟩:=hI53
       subst hn
       have hlhx52:=WF.slotL hW54 g55_99 (j:=0) rfl
       have q56:=ZF hx52
       have q57:=ZJ hx52
       have q58:=Zi (ZE hx52) hlhx52
       try simp only [*,go_sem,seval]
       obtain ⟨v1867,e59,h⟩:=Za h
       refine Zb (by have hh:=Zd4 e59;first|exact hh|(simp only [*,go_sem] at hh;exact hh)) ?_
       try simp only [*,go_sem,seval]
       obtain ⟨v1868,e60,h⟩:=Za h
       refine Zb (by have hh:=ZbR e60;first|exact hh|(simp only [*,go_sem] at hh;exact hh)) ?_
       try simp only [*,go_sem,seval]
       obtain ⟨v1869,e61,h⟩:=Za h
       refine Zb (by have hh:=Zhz e61;first|exact hh|(simp only [*,go_sem] at hh;exact hh)) ?_
       try simp only [*,go_sem,seval]
       obtain ⟨v1870,e62,h⟩:=Za h
       refine Zb (by have hh:=Zhz e62;first|exact hh|(simp only [*,go_sem] at hh;exact hh)) ?_
       try simp only [*,go_sem,seval]
       obtain ⟨v1871,e63,h⟩:=Za h
       refine Zb (by have hh:=Zlp e63;first|exact hh|(simp only [*,go_sem] at hh;exact hh)) ?_
       try simp only [*,go_sem,seval]
       refine Ze h (fun _ h=>?_) fun _ h=>?_<;>try simp only [*,go_sem,seval]
       ·refine ⟨_,[],[0,1,2,3,4,5,6],(Option.some.inj h).symm,by decide,?_⟩
        try simp only [*,go_sem,seval]
       ·obtain ⟨p65,h⟩:=Zx h
        try simp only [Nat.reduceLeDiff] at p65
        obtain ⟨p66,h⟩:=Zx h
        try simp only [Nat.reduceLeDiff] at p66
        try simp only [*,go_sem,seval]
        refine ⟨_,[],[0,1,615,775,4,5,6],(Option.some.inj h).symm,by decide,?_⟩
        try simp only [*,go_sem,seval]
      ·rintro ⟨row_1857,row_1858⟩ ⟨sl,ob,n⟩ hI67 hW68 h
       simp only [go_sem,seval,Zd] at hI67
       obtain ⟨⟨g69_5,g69_8,g69_10,g69_11,g69_15,g69_17,g69_18,g69_60,g69_61,g69_62,g69_69,g69_70,g69_71,g69_99,g69_100,g69_101⟩,og69_0,og69_1,og69_2,og69_3,og69_4,og69_5,og69_6,hn⟩:=hI67
       subst hn
       have q70:=ZC (x1661.thn.length)
       try simp only [*,go_sem,seval]
       refine ⟨_,[],[0,1,2,3,4],(Option.some.inj h).symm,by decide,?_⟩
       try simp only [*,go_sem,seval]
    ·rintro ⟨row_1732,row_1733⟩ ⟨sl,ob,n⟩ hI71 hW72 h
     simp only [go_sem,seval,Zd] at hI71
     obtain ⟨⟨g73_5,g73_8,g73_10,g73_11,g73_15,g73_60,g73_61,g73_62,g73_69,g73_70,g73_71⟩,og73_0,og73_1,og73_2,og73_3,og73_4,hn⟩:=hI71
     subst hn
     have q74:=ZC (v1663.length)
     try simp only [*,go_sem,seval]
     refine ⟨_,[],[0,1,2,3],(Option.some.inj h).symm,by decide,?_⟩
     try simp only [*,go_sem,seval]
   ·rintro ⟨row_1446,row_1447⟩ ⟨sl,ob,n⟩ hI75 hW76 h
    simp only [go_sem,seval,Zd] at hI75
    obtain ⟨⟨g77_5,g77_8,g77_10,g77_11,g77_60,g77_61,g77_62⟩,og77_0,og77_1,og77_2,og77_3,hn⟩:=hI75
    subst hn
    have q78:=ZC (append_0.length)
    try simp only [*,go_sem,seval]
    refine Ze h (fun _ h=>?_) fun _ h=>?_<;>try simp only [*,go_sem,seval]
    ·cases h
     try simp only [*,go_sem,seval]
    ·cases h
     try simp only [*,go_sem,seval]
 ·cases h
  try simp only [*,go_sem,seval]
end Go.Proofs.YtojnhepgnbhaaaaGreatDoor
namespace Go.Proofs.YtojnhepgnbhaaaaGreatDoor
open Go.Proofs.Tryz
set_option linter.unusedSimpArgs false
set_option linter.unusedVariables false
set_option maxRecDepth 1000000
set_option maxHeartbeats 4000000
theorem Zhb {append_0:(List Zf)} {String_1:(List Zc)} {r:((List Zc) × Bool)} (h:Yu append_0 String_1=some r):Zn Tryz.prog J0 79 [(false,[.sl 82 4 (List.map ZB append_0)]),(false,[.sl 57 2 (List.map Zq String_1)])] [(false,[(false,.sl 57 2 (List.map Zq r.1))]),(false,[(false,.bool r.2)])]:=by
 refine fnn 4 Tryz.func79 (by kernel_rfl) rfl (by kernel_rfl) (by kernel_rfl) ?_
 unfold Yu at h
 simp only [fnN,f79,Zo,go_sem,seval]
 obtain ⟨v1,e1,h⟩:=Za h
 refine Zb (by have hh:=ZjD e1;first|exact hh|(simp only [*,go_sem] at hh;exact hh)) ?_
 try simp only [*,go_sem,seval]
 refine Ze h (fun _ h=>?_) fun _ h=>?_<;>try simp only [*,go_sem,seval]
 ·obtain ⟨v2,e3,h⟩:=Za h
  refine Zb (by have hh:=Zl8 e3;first|exact hh|(simp only [*,go_sem] at hh;exact hh)) ?_
  try simp only [*,go_sem,seval]
  refine Ze h (fun _ h=>?_) fun _ h=>?_<;>try simp only [*,go_sem,seval]
  ·obtain ⟨v3,e5,h⟩:=Za h
   refine Zb (by have hh:=Zd1 e5;first|exact hh|(simp only [*,go_sem] at hh;exact hh)) ?_
   try simp only [*,go_sem,seval]
   refine Zeh h (fun s st=>match s with | (u_187,u_188)=>IV [(0,.p false [.c (.sl 82 4 (List.map ZB append_0))]),(6,.p false [.n (.sl 57 2 (List.map Zq u_187))]),(7,.p false [.c (.bool u_188)])] [] st) [(false,6,4096)] [] (by decide) ?_ ?_
   ·simp only [*,go_sem,seval]
   ·rintro ⟨u_187,u_188⟩ ⟨sl,ob,n⟩ y6 hI7 hW8 h hy6
    simp only [go_sem,seval,Zd] at hI7
    obtain ⟨⟨g9_0,g9_6,g9_7⟩,hn⟩:=hI7
    subst hn
    try simp only [*,go_sem,seval]
    refine Ze h (fun _ h=>?_) fun _ h=>?_<;>try simp only [*,go_sem,seval]
    ·refine Zg h (fun i u_249 st=>IV [(0,.p false [.c (.sl 82 4 (List.map ZB append_0))]),(6,.p false [.n (.sl 57 2 (List.map Zq u_249))]),(8,.p false [.n (.sl 57 2 (List.map Zq u_187))]),(9,.p false [.c (.int .i64 ((i:Nat):Int))])] [] st) [] [] (by decide) ?_ ?_ ?_
     ·simp only [*,go_sem,seval]
     ·rintro i311 x312 u_249 ⟨sl,ob,n⟩ y11 hx12 hI13 hW14 h hy11
      simp only [go_sem,seval,Zd] at hI13
      obtain ⟨⟨g15_0,g15_6,g15_8,g15_9⟩,hn⟩:=hI13
      subst hn
      have hlhx12:=WF.slotL hW14 g15_0 (j:=0) rfl
      have q16:=ZF hx12
      have q17:=ZJ hx12
      have q18:=Zi (ZE hx12) hlhx12
      try simp only [*,go_sem,seval]
      obtain ⟨v313,e19,h⟩:=Za h
      refine Zmo (by have hh:=Zei e19;first|exact hh|(simp only [*,go_sem] at hh;exact hh)) ?_
      try simp only [*,go_sem,seval]
      obtain ⟨v314,e20,h⟩:=Za h
      refine Zb (by have hh:=Zgu e20;first|exact hh|(simp only [*,go_sem] at hh;exact hh)) ?_
      try simp only [*,go_sem,seval]
      refine Zg h (fun i u_335 st=>IV [(0,.p false [.c (.sl 82 4 (List.map ZB append_0))]),(6,.p false [.n (.sl 57 2 (List.map Zq u_335))]),(8,.p false [.n (.sl 57 2 (List.map Zq u_187))]),(9,.p false [.c (.int .i64 ((i311:Nat):Int))]),(10,.p false [.row 0]),(11,.p false [.c (.int .i64 ((i:Nat):Int))])] [.row 117 2 (List.map YZ v314) 2] st) [] [160] (by decide) ?_ ?_ ?_
      ·simp only [*,go_sem,seval]
      ·rintro i355 x356 u_335 ⟨sl,ob,n⟩ y21 hx22 hI23 hW24 h hy21
       simp only [go_sem,seval,Zd] at hI23
       obtain ⟨⟨g25_0,g25_6,g25_8,g25_9,g25_10,g25_11⟩,og25_0,hn⟩:=hI23
       subst hn
       have hlhx22:=WF.rowL hW24 og25_0
       have q26:=ZF hx22
       have q27:=ZJ hx22
       have q28:=Zi (ZE hx22) hlhx22
       try simp only [*,go_sem,seval]
       refine Zg h (fun i u_364 st=>IV [(0,.p false [.c (.sl 82 4 (List.map ZB append_0))]),(6,.p false [.n (.sl 57 2 (List.map Zq u_364))]),(8,.p false [.n (.sl 57 2 (List.map Zq u_187))]),(9,.p false [.c (.int .i64 ((i311:Nat):Int))]),(10,.p false [.row 0]),(11,.p false [.c (.int .i64 ((i355:Nat):Int))]),(12,.p false [.c (.int .i64 ((i:Nat):Int))])] [.row 117 2 (List.map YZ v314) 2] st) [] [0] (by decide) ?_ ?_ ?_
       ·simp only [*,go_sem,seval]
       ·rintro i368 x369 u_364 ⟨sl,ob,n⟩ y29 hx30 hI31 hW32 h hy29
        simp only [go_sem,seval,Zd] at hI31
        obtain ⟨⟨g33_0,g33_6,g33_8,g33_9,g33_10,g33_11,g33_12⟩,og33_0,hn⟩:=hI31
        subst hn
        have hlhx30:=WF.elL (WF.slotD hW32 g33_0 (j:=0) rfl) hx12 (j:=3) rfl
        have q34:=ZF hx30
        have q35:=ZJ hx30
        have q36:=Zi (ZE hx30) hlhx30
        try simp only [*,go_sem,seval]
        obtain ⟨v370,e37,h⟩:=Za h
        refine Zb (by have hh:=ZdZ e37;first|exact hh|(simp only [*,go_sem] at hh;exact hh)) ?_
        try simp only [*,go_sem,seval]
        obtain ⟨v371,e38,h⟩:=Za h
        refine Zb (by have hh:=Zqa e38;first|exact hh|(simp only [*,go_sem] at hh;exact hh)) ?_
        try simp only [*,go_sem,seval]
        refine ⟨_,[(false,6,4096)],[0],(Option.some.inj h).symm,by decide,?_⟩
        try simp only [*,go_sem,seval]
       ·rintro u_364 ⟨sl,ob,n⟩ hI39 hW40 h
        simp only [go_sem,seval,Zd] at hI39
        obtain ⟨⟨g41_0,g41_6,g41_8,g41_9,g41_10,g41_11,g41_12⟩,og41_0,hn⟩:=hI39
        subst hn
        have q42:=ZC (x312.thn.length)
        try simp only [*,go_sem,seval]
        refine ⟨_,[],[0],(Option.some.inj h).symm,by decide,?_⟩
        try simp only [*,go_sem,seval]
      ·rintro u_335 ⟨sl,ob,n⟩ hI43 hW44 h
       simp only [go_sem,seval,Zd] at hI43
       obtain ⟨⟨g45_0,g45_6,g45_8,g45_9,g45_10,g45_11⟩,og45_0,hn⟩:=hI43
       subst hn
       have q46:=ZC (v314.length)
       try simp only [*,go_sem,seval]
       refine Ze h (fun _ h=>?_) fun _ h=>?_<;>try simp only [*,go_sem,seval]
       ·replace h:=Zs h hy11
        replace h:=Zs h hy6
        cases h
        try simp only [*,go_sem,seval]
       ·refine ⟨_,[],[],(Option.some.inj h).symm,by decide,?_⟩
        try simp only [*,go_sem,seval]
     ·rintro u_249 ⟨sl,ob,n⟩ hI48 hW49 h
      simp only [go_sem,seval,Zd] at hI48
      obtain ⟨⟨g50_0,g50_6,g50_8,g50_9⟩,hn⟩:=hI48
      subst hn
      have q51:=ZC (append_0.length)
      try simp only [*,go_sem,seval]
      refine ⟨_,[],[],(Option.some.inj h).symm,by decide,?_⟩
      try simp only [*,go_sem,seval]
    ·replace h:=Zs h hy6
     cases h
     try simp only [*,go_sem,seval]
  ·cases h
   try simp only [*,go_sem,seval]
 ·cases h
  try simp only [*,go_sem,seval]
theorem Zhe {rules_0:(List Zf)} {base_1:(List Zc)} {r:((List Zc) × ZK × Bool)} (h:Xz rules_0 base_1=some r):Zn Tryz.prog J0 14 [(false,[.sl 82 4 (List.map ZB rules_0)]),(false,[.sl 57 2 (List.map Zq base_1)])] [(false,[(false,.sl 57 2 (List.map Zq r.1))]),(true,[(false,.int .i64 r.2.1.nodes),(false,.sl 114 3 (List.map Yn r.2.1.reasons))]),(false,[(false,.bool r.2.2)])]:=by
 refine fnk Tryz.func14 (by kernel_rfl) rfl (by kernel_rfl) (by kernel_rfl) ?_
 unfold Xz at h
 simp only [fnS,f14,Zo,go_sem,seval]
 obtain ⟨b,a,h⟩:=Za h
 refine Zb (Zol a) ?_
 cases h
 try simp only [*,go_sem,seval]
end Go.Proofs.YtojnhepgnbhaaaaGreatDoor
namespace Go.Proofs.YtojnhepgnbhaaaaGreatDoor
open Go.Proofs.Tryz
set_option linter.unusedSimpArgs false
set_option linter.unusedVariables false
set_option maxRecDepth 1000000
set_option maxHeartbeats 4000000
theorem ZkH {append_0:(List Zf)} {String_1:(List Zc)} {r:((List Zc) × ZK × (List Xx) × Bool)} (h:XG append_0 String_1=some r):Zn Tryz.prog J0 45 [(false,[.sl 82 4 (List.map ZB append_0)]),(false,[.sl 57 2 (List.map Zq String_1)])] [(false,[(false,.sl 57 2 (List.map Zq r.1))]),(true,[(false,.int .i64 r.2.1.nodes),(false,.sl 114 3 (List.map Yn r.2.1.reasons))]),(false,[(false,.any)]),(false,[(false,.bool r.2.2.2)])]:=by
 refine fnk Tryz.func45 (by kernel_rfl) rfl (by kernel_rfl) (by kernel_rfl) ?_
 unfold XG at h
 simp only [fnS,f45,Zo,go_sem,seval]
 obtain ⟨v1,e1,h⟩:=Za h
 refine Zb (by have hh:=Zhb e1;first|exact hh|(simp only [*,go_sem] at hh;exact hh)) ?_
 try simp only [*,go_sem,seval]
 refine Ze h (fun _ h=>?_) fun _ h=>?_<;>try simp only [*,go_sem,seval]
 ·refine Zg h (fun i s st=>match s with | (row_6,row_7)=>IV [(0,.p false [.c (.sl 82 4 (List.map ZB append_0))]),(1,.p false [.c (.sl 57 2 (List.map Zq String_1))]),(5,.bp 0 0),(8,.p false [.row 1]),(10,.bp 2 0),(11,.p false [.row 4]),(12,.p false [.c (.int .i64 ((i:Nat):Int))])] [.box 29 [.c (.int .i64 0),.nil 114 3],.row 57 2 (List.map Zq v1.1) 2,.box 29 [.c (.int .i64 ((v1.1.length:Nat):Int)),.row 3],.row 114 3 (List.map Yn row_6) 2,.row 119 3 (List.map Zeo row_7) 2] st) [(true,240,1)] [16,96,240,352,272] (by decide) ?_ ?_ ?_
  ·simp only [*,go_sem,seval]
  ·rintro i255 x256 ⟨row_6,row_7⟩ ⟨sl,ob,n⟩ y3 hx4 hI5 hW6 h hy3
   simp only [go_sem,seval,Zd] at hI5
   obtain ⟨⟨g7_0,g7_1,g7_5,g7_8,g7_10,g7_11,g7_12⟩,og7_0,og7_1,og7_2,og7_3,og7_4,hn⟩:=hI5
   subst hn
   have hlhx4:=WF.slotL hW6 g7_1 (j:=0) rfl
   have q8:=ZF hx4
   have q9:=ZJ hx4
   have q10:=Zi (ZE hx4) hlhx4
   try simp only [*,go_sem,seval]
   obtain ⟨v257,e11,h⟩:=Za h
   refine Zb (by have hh:=Zd2 e11;first|exact hh|(simp only [*,go_sem] at hh;exact hh)) ?_
   obtain ⟨p12,h⟩:=Zx h
   try simp only [Nat.reduceLeDiff] at p12
   obtain ⟨p13,h⟩:=Zx h
   try simp only [Nat.reduceLeDiff] at p13
   try simp only [*,go_sem,seval]
   refine ⟨_,[],[0,1,2,229,325],(Option.some.inj h).symm,by decide,?_⟩
   try simp only [*,go_sem,seval]
  ·rintro ⟨row_6,row_7⟩ ⟨sl,ob,n⟩ hI14 hW15 h
   simp only [go_sem,seval,Zd] at hI14
   obtain ⟨⟨g16_0,g16_1,g16_5,g16_8,g16_10,g16_11,g16_12⟩,og16_0,og16_1,og16_2,og16_3,og16_4,hn⟩:=hI14
   subst hn
   have q17:=ZC (String_1.length)
   try simp only [*,go_sem,seval]
   refine Zg h (fun i s st=>match s with | (row_388,row_389)=>IV [(0,.p false [.c (.sl 82 4 (List.map ZB append_0))]),(5,.bp 0 0),(8,.p false [.row 1]),(10,.bp 2 0),(11,.p false [.row 4]),(13,.p false [.c (.int .i64 ((i:Nat):Int))])] [.box 29 [.c (.int .i64 0),.nil 114 3],.row 57 2 (List.map Zq v1.1) 2,.box 29 [.c (.int .i64 ((v1.1.length:Nat):Int)),.row 3],.row 114 3 (List.map Yn row_388) 2,.row 119 3 (List.map Zeo row_389) 1] st) [(true,4,1)] [0,1,2,3,4] (by decide) ?_ ?_ ?_
   ·simp only [*,go_sem,seval]
   ·rintro i446 x447 ⟨row_388,row_389⟩ ⟨sl,ob,n⟩ y18 hx19 hI20 hW21 h hy18
    simp only [go_sem,seval,Zd] at hI20
    obtain ⟨⟨g22_0,g22_5,g22_8,g22_10,g22_11,g22_13⟩,og22_0,og22_1,og22_2,og22_3,og22_4,hn⟩:=hI20
    subst hn
    have hlhx19:=WF.slotL hW21 g22_0 (j:=0) rfl
    have q23:=ZF hx19
    have q24:=ZJ hx19
    have q25:=Zi (ZE hx19) hlhx19
    try simp only [*,go_sem,seval]
    obtain ⟨v448,e26,h⟩:=Za h
    refine Zmo (by have hh:=Zei e26;first|exact hh|(simp only [*,go_sem] at hh;exact hh)) ?_
    try simp only [*,go_sem,seval]
    obtain ⟨v449,e27,h⟩:=Za h
    refine Zb (by have hh:=Zgu e27;first|exact hh|(simp only [*,go_sem] at hh;exact hh)) ?_
    try simp only [*,go_sem,seval]
    refine Zg h (fun i s st=>match s with | (row_467,row_468)=>IV [(0,.p false [.c (.sl 82 4 (List.map ZB append_0))]),(5,.bp 0 0),(8,.p false [.row 1]),(10,.bp 2 0),(11,.p false [.row 4]),(13,.p false [.c (.int .i64 ((i446:Nat):Int))]),(14,.p false [.row 5]),(15,.p false [.c (.int .i64 ((i:Nat):Int))])] [.box 29 [.c (.int .i64 0),.nil 114 3],.row 57 2 (List.map Zq v1.1) 2,.box 29 [.c (.int .i64 ((v1.1.length:Nat):Int)),.row 3],.row 114 3 (List.map Yn row_467) 2,.row 119 3 (List.map Zeo row_468) 1,.row 117 2 (List.map YZ v449) 2] st) [] [0,1,2,3,4,165] (by decide) ?_ ?_ ?_
    ·simp only [*,go_sem,seval]
    ·rintro i487 x488 ⟨row_467,row_468⟩ ⟨sl,ob,n⟩ y28 hx29 hI30 hW31 h hy28
     simp only [go_sem,seval,Zd] at hI30
     obtain ⟨⟨g32_0,g32_5,g32_8,g32_10,g32_11,g32_13,g32_14,g32_15⟩,og32_0,og32_1,og32_2,og32_3,og32_4,og32_5,hn⟩:=hI30
     subst hn
     have hlhx29:=WF.rowL hW31 og32_5
     have q33:=ZF hx29
     have q34:=ZJ hx29
     have q35:=Zi (ZE hx29) hlhx29
     try simp only [*,go_sem,seval]
     refine Zg h (fun i s st=>match s with | (row_494,row_495)=>IV [(0,.p false [.c (.sl 82 4 (List.map ZB append_0))]),(5,.bp 0 0),(8,.p false [.row 1]),(10,.bp 2 0),(11,.p false [.row 4]),(13,.p false [.c (.int .i64 ((i446:Nat):Int))]),(14,.p false [.row 5]),(15,.p false [.c (.int .i64 ((i487:Nat):Int))]),(16,.p false [.c (.int .i64 ((i:Nat):Int))])] [.box 29 [.c (.int .i64 0),.nil 114 3],.row 57 2 (List.map Zq v1.1) 2,.box 29 [.c (.int .i64 ((v1.1.length:Nat):Int)),.row 3],.row 114 3 (List.map Yn row_494) 2,.row 119 3 (List.map Zeo row_495) 1,.row 117 2 (List.map YZ v449) 2] st) [] [0,1,2,3,4,5] (by decide) ?_ ?_ ?_
     ·simp only [*,go_sem,seval]
     ·rintro i498 x499 ⟨row_494,row_495⟩ ⟨sl,ob,n⟩ y36 hx37 hI38 hW39 h hy36
      simp only [go_sem,seval,Zd] at hI38
      obtain ⟨⟨g40_0,g40_5,g40_8,g40_10,g40_11,g40_13,g40_14,g40_15,g40_16⟩,og40_0,og40_1,og40_2,og40_3,og40_4,og40_5,hn⟩:=hI38
      subst hn
      have hlhx37:=WF.elL (WF.slotD hW39 g40_0 (j:=0) rfl) hx19 (j:=3) rfl
      have q41:=ZF hx37
      have q42:=ZJ hx37
      have q43:=Zi (ZE hx37) hlhx37
      try simp only [*,go_sem,seval]
      obtain ⟨v500,e44,h⟩:=Za h
      refine Zb (by have hh:=Zkw e44;first|exact hh|(simp only [*,go_sem] at hh;exact hh)) ?_
      try simp only [*,go_sem,seval]
      obtain ⟨v501,e45,h⟩:=Za h
      refine Zb (by have hh:=Zm4 e45;first|exact hh|(simp only [*,go_sem] at hh;exact hh)) ?_
      try simp only [*,go_sem,seval]
      refine Ze h (fun _ h=>?_) fun _ h=>?_<;>try simp only [*,go_sem,seval]
      ·refine ⟨_,[],[0,1,2,3,4,5],(Option.some.inj h).symm,by decide,?_⟩
       try simp only [*,go_sem,seval]
      ·refine Ze h (fun _ h=>?_) fun _ h=>?_<;>try simp only [*,go_sem,seval]
       ·replace h:=Zs h hy36
        replace h:=Zs h hy28
        replace h:=Zs h hy18
        cases h
        try simp only [*,go_sem,seval]
       ·obtain ⟨p48,h⟩:=Zx h
        try simp only [Nat.reduceLeDiff] at p48
        obtain ⟨p49,h⟩:=Zx h
        try simp only [Nat.reduceLeDiff] at p49
        try simp only [*,go_sem,seval]
        refine ⟨_,[],[0,1,2,550,790,5],(Option.some.inj h).symm,by decide,?_⟩
        try simp only [*,go_sem,seval]
     ·rintro ⟨row_494,row_495⟩ ⟨sl,ob,n⟩ hI50 hW51 h
      simp only [go_sem,seval,Zd] at hI50
      obtain ⟨⟨g52_0,g52_5,g52_8,g52_10,g52_11,g52_13,g52_14,g52_15,g52_16⟩,og52_0,og52_1,og52_2,og52_3,og52_4,og52_5,hn⟩:=hI50
      subst hn
      have q53:=ZC (x447.thn.length)
      try simp only [*,go_sem,seval]
      refine ⟨_,[],[0,1,2,3,4,5],(Option.some.inj h).symm,by decide,?_⟩
      try simp only [*,go_sem,seval]
    ·rintro ⟨row_467,row_468⟩ ⟨sl,ob,n⟩ hI54 hW55 h
     simp only [go_sem,seval,Zd] at hI54
     obtain ⟨⟨g56_0,g56_5,g56_8,g56_10,g56_11,g56_13,g56_14,g56_15⟩,og56_0,og56_1,og56_2,og56_3,og56_4,og56_5,hn⟩:=hI54
     subst hn
     have q57:=ZC (v449.length)
     try simp only [*,go_sem,seval]
     refine ⟨_,[],[0,1,2,3,4],(Option.some.inj h).symm,by decide,?_⟩
     try simp only [*,go_sem,seval]
   ·rintro ⟨row_388,row_389⟩ ⟨sl,ob,n⟩ hI58 hW59 h
    simp only [go_sem,seval,Zd] at hI58
    obtain ⟨⟨g60_0,g60_5,g60_8,g60_10,g60_11,g60_13⟩,og60_0,og60_1,og60_2,og60_3,og60_4,hn⟩:=hI58
    subst hn
    have q61:=ZC (append_0.length)
    cases h
    try simp only [*,go_sem,seval]
 ·cases h
  try simp only [*,go_sem,seval]
theorem ZE6 {rules_0:(List Zf)} {base_1:(List Zc)} {f_2:Zc} {r:((List Zc) × Bool)} (h:ZEO rules_0 base_1 f_2=some r):Zn Tryz.prog J0 34 [(false,[.sl 82 4 (List.map ZB rules_0)]),(false,[.sl 57 2 (List.map Zq base_1)]),(true,Zq f_2)] [(false,[(false,.sl 57 2 (List.map Zq r.1))]),(false,[(false,.bool r.2)])]:=by
 refine fnk Tryz.func34 (by kernel_rfl) rfl (by kernel_rfl) (by kernel_rfl) ?_
 unfold ZEO at h
 simp only [fnS,f34,Zo,go_sem,seval]
 obtain ⟨e,a,h⟩:=Za h
 refine Zb (Zhe a) ?_
 try simp only [*,go_sem,seval]
 obtain ⟨f,b,h⟩:=Za h
 refine Zb (ZbR b) ?_
 try simp only [*,go_sem,seval]
 iterate 2 refine Ze h (fun _ h=>?_) fun _ h=>?_<;>try simp only [*,go_sem,seval]
 cases h
 try simp only [*,go_sem,seval]
 obtain ⟨g,c,h⟩:=Za h
 refine Zb (ZE7 c) ?_
 try simp only [*,go_sem,seval]
 obtain ⟨i,d,h⟩:=Za h
 refine Zb (ZBS d) ?_
 iterate 2 (cases h;try simp only [*,go_sem,seval])
end Go.Proofs.YtojnhepgnbhaaaaGreatDoor
namespace Go.Proofs.YtojnhepgnbhaaaaGreatDoor
open Go.Proofs.Tryz
set_option linter.unusedSimpArgs false
set_option linter.unusedVariables false
set_option maxRecDepth 1000000
set_option maxHeartbeats 4000000
theorem Zhk {rules_0:(List Zf)} {base_1:(List Zc)} {r:((List Zc) × ZK × Bool)} (h:Xw rules_0 base_1=some r):Zn Tryz.prog J0 11 [(false,[.sl 82 4 (List.map ZB rules_0)]),(false,[.sl 57 2 (List.map Zq base_1)])] [(false,[(false,.sl 57 2 (List.map Zq r.1))]),(true,[(false,.int .i64 r.2.1.nodes),(false,.sl 114 3 (List.map Yn r.2.1.reasons))]),(false,[(false,.bool r.2.2)])]:=by
 refine fnk Tryz.func11 (by kernel_rfl) rfl (by kernel_rfl) (by kernel_rfl) ?_
 unfold Xw at h
 simp only [fnS,f11,Zo,go_sem,seval]
 obtain ⟨b,a,h⟩:=Za h
 refine Zb (ZkH a) ?_
 try simp only [*,go_sem,seval]
 refine Ze h (fun _ h=>?_) fun _ h=>?_<;>try simp only [*,go_sem,seval]
 iterate 2 (cases h;try simp only [*,go_sem,seval])
end Go.Proofs.YtojnhepgnbhaaaaGreatDoor
namespace Go.Proofs.YtojnhepgnbhaaaaGreatDoor
open Go.Proofs.Tryz
set_option linter.unusedSimpArgs false
set_option linter.unusedVariables false
set_option maxRecDepth 1000000
set_option maxHeartbeats 4000000
theorem ZE3 {rules_0:(List Zf)} {base_1:(List Zc)} {f_2:Zc} {r:((List Zc) × Bool)} (h:ZEP rules_0 base_1 f_2=some r):Zn Tryz.prog J0 32 [(false,[.sl 82 4 (List.map ZB rules_0)]),(false,[.sl 57 2 (List.map Zq base_1)]),(true,Zq f_2)] [(false,[(false,.sl 57 2 (List.map Zq r.1))]),(false,[(false,.bool r.2)])]:=by
 refine fnk Tryz.func32 (by kernel_rfl) rfl (by kernel_rfl) (by kernel_rfl) ?_
 unfold ZEP at h
 simp only [fnS,f32,Zo,go_sem,seval]
 obtain ⟨e,a,h⟩:=Za h
 refine Zb (Zhk a) ?_
 try simp only [*,go_sem,seval]
 obtain ⟨f,b,h⟩:=Za h
 refine Zb (Zd2 b) ?_
 try simp only [*,go_sem,seval]
 iterate 2 refine Ze h (fun _ h=>?_) fun _ h=>?_<;>try simp only [*,go_sem,seval]
 cases h
 try simp only [*,go_sem,seval]
 obtain ⟨g,c,h⟩:=Za h
 refine Zb (ZE8 c) ?_
 try simp only [*,go_sem,seval]
 obtain ⟨i,d,h⟩:=Za h
 refine Zb (ZCM d) ?_
 iterate 2 (cases h;try simp only [*,go_sem,seval])
end Go.Proofs.YtojnhepgnbhaaaaGreatDoor
namespace Go.Proofs.YtojnhepgnbhaaaaGreatDoor
open Go.RowKit
structure Enc {α:Type} (c:YL α) (f:α→List CT):Prop where
 to:∀{w:World} {cs:List Value} {x:α} {L:List Nat},c.rep w cs x L→RCs w (f x) cs L
 of:∀{w:World} {cs:List Value} {x:α} {L:List Nat},RCs w (f x) cs L→c.rep w cs x L
section
variable {α:Type} {c:YL α} {f:α→List CT} {w:World}
theorem Enc.reps (h:Enc c f):∀{ds:List α} {xs:List Value} {L:List Nat},c.reps w xs ds L→REs w c.size (ds.map f) xs L
 | [],_,_,h1=>h1
 | _::_,_,_,⟨c1,c2,L1,L2,h1,h2,h3,h4⟩=>⟨c1,c2,L1,L2,h1,h2,⟨h.to h3,c.len h3⟩,h.reps h4⟩
theorem Enc.reps_of (h:Enc c f):∀{ds:List α} {xs:List Value} {L:List Nat},REs w c.size (ds.map f) xs L→c.reps w xs ds L
 | [],_,_,h1=>h1
 | _::_,_,_,⟨c1,c2,L1,L2,h1,h2,h3,h4⟩=>⟨c1,c2,L1,L2,h1,h2,h.of h3.1,h.reps_of h4⟩
theorem Enc.sl (h:Enc c f) (e:Nat) {v:Value} {ds:List α} {L:List Nat}:(ZY c).rep w [v] ds L↔RC w (.sl e c.size (ds.map f)) v L:=by
 constructor
 ·rintro ⟨A,cap,hv,h1,h2,xs,L0,L1,hL,h3,h4⟩
  obtain rfl:v=_:=by simpa using hv
  exact ⟨A,cap,xs,L0,L1,by simp,by simpa using h1,h2,hL,c.pos,by simpa using h3,h.reps h4⟩
 ·rintro ⟨A,cap,xs,L0,L1,hv,h1,h2,hL,h0,h3,h4⟩
  exact ⟨A,cap,by simpa using hv,by simpa using h1,h2,xs,L0,L1,hL,by simpa using h3,h.reps_of h4⟩
theorem RCs.solo {x:CT} {v:Value} {L:List Nat} (h:RC w x v L):RCs w [x] [v] L:=⟨v,[],L,[],rfl,by simp,h,rfl,rfl⟩
theorem RCs.more {x:CT} {v:Value} {L M:List Nat} {r:List CT} {cs:List Value} (h:RC w x v L) (k:RCs w r cs M):RCs w (x::r) (v::cs) (L++M):=⟨v,cs,L,M,rfl,rfl,h,k⟩
end
theorem encStr:Enc Zbm Zu where
 to:=fun ⟨h1,h2,h3⟩=>by subst h1;subst h2;exact RCs.solo ⟨rfl,rfl,h3⟩
 of:=fun ⟨v,cs',L1,L2,h1,h2,h3,h4,h5⟩=>by
  obtain ⟨rfl,rfl,t⟩:=h3
  subst h4;subst h5;exact ⟨h1,h2,t⟩
def ZuT (w:World):Bool × List CT→Value→Prop:=Zkk w fun _=>False
theorem Znw {α:Type} {c:YL α} {f:α→List CT} (h:Enc c f) (e:Nat) {w:World} {v:Value} {ds:List α} {L:List Nat} (hr:(ZY c).rep w [v] ds L):ZuT w (false,[.sl e c.size (ds.map f)]) v:=.inr ⟨rfl,_,L,rfl,(h.sl e).1 hr,fun _ _ h=>h⟩
theorem ZEN {α:Type} {c:YL α} {f:α→List CT} (h:Enc c f) {w:World} {vs:List Value} {x:α} {L:List Nat} (hr:c.rep w vs x L):ZuT w (true,f x) (.agg vs.toArray):=.inl ⟨rfl,vs,L,rfl,h.to hr,fun _ _ h=>h⟩
section
variable {w w':World} {v:Value} {e:Ending}
theorem ZDm {B:Nat} {n:Nat→Prop} {x:RT} (h:Zma w B n [x] v):∃F,OP w B n x v F∧Own w B F:=by
 obtain ⟨vs,F,⟨u,vs',F1,F2,rfl,rfl,h1,rfl,rfl⟩,h2,rfl⟩:=h
 rw [List.append_nil] at h2
 exact ⟨F1,by simpa using h1,h2⟩
theorem ZDw {α:Type} {c:YL α} {f:α→List CT} (h:Enc c f) {t:Nat} {ds:List α} {n:Nat→Prop} (hr:Zma w' w.heap.size n [(false,[(false,.sl t c.size (ds.map f))])] v) (hb:Below w.heap.size w w'):ZrS c t w v ds w':=by
 obtain ⟨F,h1,h2⟩:=ZDm hr
 rcases h1 with ⟨h1,_⟩ | ⟨_,ct,h1,h3⟩
 ·simp at h1
 ·obtain rfl:_=ct:=by simpa using h1
  obtain ⟨_,cs,L,h4,h5,rfl,_⟩:=h3
  exact ⟨⟨cs,L,by simpa using h4,h.reps_of h5,h2⟩,hb⟩
end
section
variable {P:Program} {J:World→Prop} {f:FuncId} {args:List (Bool × List CT)} {res:List RT}
theorem Zn.calls (h:Zn P J f args res) {w:World} {vs:List Value} (hj:J w) (ha:ZH (ZuT w) args vs):Calls P f vs.toArray w fun e w'=>∃v n,e=.returned v∧Zma w' w.heap.size n res v∧Below w.heap.size w w':=
 (h.2 w (fun _=>False) vs hj (fun _ h=>h.elim) ha).mono fun _ _ ⟨v,n,h1,h2,_,h3⟩=>⟨v,n,h1,h2,h3⟩
def ZCj {α:Type} (c:YL α) (t:Nat) (w:World) (ds:List α) (b:Bool):Ending→World→Prop:=fun e w'=>∃v,e=.returned (.tuple #[v,.bool b])∧ZrS c t w v ds w'
theorem Zn.givesSB {α:Type} {c:YL α} {g:α→List CT} {t:Nat} {ds:List α} {b:Bool} (h:Zn P J f args [(false,[(false,.sl t c.size (ds.map g))]),(false,[(false,.bool b)])]) (hg:Enc c g) {w:World} {vs:List Value} (hj:J w) (ha:ZH (ZuT w) args vs):Calls P f vs.toArray w (ZCj c t w ds b):=
 (h.calls hj ha).mono fun _ w' ⟨v,n,h1,⟨us,F,⟨u,us',F1,F2,e1,e2,p1,u2,us2,F3,F4,e3,e4,p2,e5,e6⟩,hO,e7⟩,h3⟩=>by
  subst e5 e6 e3 e4 e1 e2
  rcases p2 with ⟨p2,_⟩ | ⟨_,ct,p2,p3⟩
  ·simp at p2
  ·obtain rfl:_=ct:=by simpa using p2
   obtain ⟨⟨p4,_⟩,rfl⟩:=p3
   subst p4
   simp only [List.append_nil] at hO
   exact ⟨u,by rw [h1,e7];rfl,ZDw (n:=n) hg ⟨[u],F1,⟨u,[],F1,[],rfl,by simp,p1,rfl,rfl⟩,hO,rfl⟩ h3⟩
end
end Go.Proofs.YtojnhepgnbhaaaaGreatDoor
namespace Go.Proofs.YtojnhepgnbhaaaaGreatDoor
theorem ZjV:Enc Y4 Zq where
 to:=fun {w cs x L} h=>by
  obtain ⟨A1,c1,L1,rfl,rfl,t0,n1,m1,s1⟩:=h
  have hh:RCs w (Zq x) _ _:=RCs.more ⟨rfl,rfl,t0⟩ (RCs.solo ((encStr.sl 9).1 ⟨A1,c1,rfl,n1,m1,s1⟩))
  simpa only [List.nil_append,List.append_nil,List.append_assoc] using hh
 of:=fun {w cs x L} h=>by
  obtain ⟨v0,r0,K0,M0,rfl,rfl,h0,v1,r1,K1,M1,rfl,rfl,h1,rfl,rfl⟩:=h
  obtain ⟨rfl,rfl,t0⟩:=h0
  obtain ⟨A1,c1,e1,n1,m1,s1⟩:=(encStr.sl 9).2 h1
  cases e1
  exact ⟨A1,c1,_,rfl,by simp only [List.nil_append,List.append_nil,List.append_assoc],t0,n1,m1,s1⟩
theorem ZqA:Enc XV ZM where
 to:=fun {w cs x L} h=>by
  obtain ⟨A1,c1,L1,rfl,rfl,t0,t1,t2,n1,m1,s1⟩:=h
  have hh:RCs w (ZM x) _ _:=RCs.more ⟨rfl,rfl⟩ (RCs.more ⟨rfl,rfl,t0⟩ (RCs.more ((encStr.sl 9).1 ⟨A1,c1,rfl,n1,m1,s1⟩) (RCs.more ⟨rfl,rfl,t1⟩ (RCs.solo ⟨rfl,rfl,t2⟩))))
  simpa only [List.nil_append,List.append_nil,List.append_assoc] using hh
 of:=fun {w cs x L} h=>by
  obtain ⟨v0,r0,K0,M0,rfl,rfl,h0,v1,r1,K1,M1,rfl,rfl,h1,v2,r2,K2,M2,rfl,rfl,h2,v3,r3,K3,M3,rfl,rfl,h3,v4,r4,K4,M4,rfl,rfl,h4,rfl,rfl⟩:=h
  obtain ⟨rfl,rfl⟩:=h0
  obtain ⟨rfl,rfl,t0⟩:=h1
  obtain ⟨A1,c1,e1,n1,m1,s1⟩:=(encStr.sl 9).2 h2
  cases e1
  obtain ⟨rfl,rfl,t1⟩:=h3
  obtain ⟨rfl,rfl,t2⟩:=h4
  exact ⟨A1,c1,_,rfl,by simp only [List.nil_append,List.append_nil,List.append_assoc],t0,t1,t2,n1,m1,s1⟩
theorem ZmY:Enc Yk ZA where
 to:=fun {w cs x L} h=>by
  obtain ⟨A1,c1,L1,rfl,rfl,t0,n1,m1,s1⟩:=h
  have hh:RCs w (ZA x) _ _:=RCs.more ⟨rfl,rfl⟩ (RCs.more ⟨rfl,rfl,t0⟩ (RCs.solo ((encStr.sl 9).1 ⟨A1,c1,rfl,n1,m1,s1⟩)))
  simpa only [List.nil_append,List.append_nil,List.append_assoc] using hh
 of:=fun {w cs x L} h=>by
  obtain ⟨v0,r0,K0,M0,rfl,rfl,h0,v1,r1,K1,M1,rfl,rfl,h1,v2,r2,K2,M2,rfl,rfl,h2,rfl,rfl⟩:=h
  obtain ⟨rfl,rfl⟩:=h0
  obtain ⟨rfl,rfl,t0⟩:=h1
  obtain ⟨A1,c1,e1,n1,m1,s1⟩:=(encStr.sl 9).2 h2
  cases e1
  exact ⟨A1,c1,_,rfl,by simp only [List.nil_append,List.append_nil,List.append_assoc],t0,n1,m1,s1⟩
theorem ZqW:Enc XU ZB where
 to:=fun {w cs x L} h=>by
  obtain ⟨A1,c1,L1,A2,c2,L2,rfl,rfl,t0,n1,m1,s1,n2,m2,s2⟩:=h
  have hh:RCs w (ZB x) _ _:=RCs.more ⟨rfl,rfl,t0⟩ (RCs.more ⟨rfl,rfl⟩ (RCs.more ((ZqA.sl 130).1 ⟨A1,c1,rfl,n1,m1,s1⟩) (RCs.solo ((ZmY.sl 134).1 ⟨A2,c2,rfl,n2,m2,s2⟩))))
  simpa only [List.nil_append,List.append_nil,List.append_assoc] using hh
 of:=fun {w cs x L} h=>by
  obtain ⟨v0,r0,K0,M0,rfl,rfl,h0,v1,r1,K1,M1,rfl,rfl,h1,v2,r2,K2,M2,rfl,rfl,h2,v3,r3,K3,M3,rfl,rfl,h3,rfl,rfl⟩:=h
  obtain ⟨rfl,rfl,t0⟩:=h0
  obtain ⟨rfl,rfl⟩:=h1
  obtain ⟨A1,c1,e1,n1,m1,s1⟩:=(ZqA.sl 130).2 h2
  cases e1
  obtain ⟨A2,c2,e2,n2,m2,s2⟩:=(ZmY.sl 134).2 h3
  cases e2
  exact ⟨A1,c1,_,A2,c2,_,rfl,by simp only [List.nil_append,List.append_nil,List.append_assoc],t0,n1,m1,s1,n2,m2,s2⟩
end Go.Proofs.YtojnhepgnbhaaaaGreatDoor
namespace Go.Proofs.YtojnhepgnbhaaaaGreatDoor
open Go.RowKit
set_option maxHeartbeats 400000 in
theorem ZgS (A:Option Addr) (n c:Nat) (ds:List ByteArray) (L:List Nat) (left:Int) (w:World) (hn:n=ds.length) (hm:n≤9223372036854775807) (h0:0≤left) (h1:left≤1048576) (h:Sli Zbm w A ds L):
  Calls Tryz.prog 59 #[.slice A n c,.int .i64 left] w (ZdY (Xm ds) left w):=by
 have H:=Lib.hid h
 have HN:=Lib.hid hn
 clear h hn
 by_cases hlen:(n:Int)≤left
 ·go_enter Tryz.func59,Tryz.ntmps59
  go_wp2
  go_loop [1,5] (fun q i=>∃(k:Nat) (l:Int),k≤n∧i=.int .i64 k∧q=.int .i64 l∧0≤l∧l≤left∧Hid (szR ((ds.drop k).map ByteArray.size).sum l=szR (Xm ds) left)) (fun _ i=>n - (intOf i).toNat)
  case atStart=>exact ⟨0,left - n,Nat.zero_le _,rfl,rfl,by omega,by omega,Lib.hid (by
    have e:=HN.out
    exact Zag _ _ _ _ (by omega) (by simp [Xm];omega))⟩
  case round=>
   obtain ⟨k,l,hk,rfl,rfl,hl0,hl1,HE⟩:=hrel
   by_cases hlt:k<n
   ·obtain ⟨b,off,cs,Lk,rfl,_,_,hrep,hc⟩:=H.out.at_ (show k<ds.length by have:=HN.out;omega)
    obtain ⟨rfl,_,hss⟩:=Zul hrep
    have hc0:=hc 0 _ rfl
    clear hc hrep
    have hd:Hid (ds.drop k=ds[k]'(by have:=HN.out;omega)::ds.drop (k+1)):=List.drop_eq_getElem_cons _
    generalize ds[k]'(by have:=HN.out;omega)=s at hc0 hd hss
    simp only [show Zbm.size=1 from rfl,Nat.mul_one,Nat.add_zero] at hc0
    by_cases hs:(s.size:Int)≤l
    ·go_wp2
     go_round
     case rel=>exact ⟨k+1,l - s.size,by omega,by go_num,rfl,by omega,by omega,Lib.hid (by rw [←HE.out,hd.out];exact Zag _ _ _ _ (by omega) (by simp))⟩
     case measure=>simp [intOf];omega
    ·go_wp2
     go_ret
     exact ⟨Yo (by rw [←HE.out,hd.out,ZX (by simp;omega)]),Below.refl _ _⟩
   ·go_wp2
    go_ret
    exact ⟨Yo (by rw [←HE.out,List.drop_of_length_le (by have:=HN.out;omega)];simp [szR,hl0]),Below.refl _ _⟩
 ·go_enter Tryz.func59,Tryz.ntmps59
  go_wp2
  go_ret
  exact ⟨Yo (by rw [ZX (by have:=HN.out;simp [Xm];omega)]),Below.refl _ _⟩
set_option maxHeartbeats 800000 in
theorem Zk1 (cs:List Value) (x:Zc) (L:List Nat) (left:Int) (w:World) (h0:0≤left) (h1:left≤1048576) (h:Y4.rep w cs x L):
  Calls Tryz.prog 31 #[.agg cs.toArray,.int .i64 left] w (ZdY (YP x) left w):=by
 obtain ⟨A1,c1,L1,rfl,_hL,t0,n1,m1,s1⟩:=h
 unfold maxLen at m1
 have S1:=Lib.hid s1
 clear s1
 have B0:Hid (Below w.heap.size w (w.alloc (.cells #[.string x.rel,.slice A1 x.args.length c1] 54))):=(Below.refl _ _).alloc (Nat.le_refl _) _
 have K0:Hid (Blk (w.alloc (.cells #[.string x.rel,.slice A1 x.args.length c1] 54)) w.heap.size 54 #[.string x.rel,.slice A1 x.args.length c1]):=Blk.new _ _ _
 go_enter Tryz.func31,Tryz.ntmps31
 by_cases k1:(x.rel.size:Int)≤left
 rotate_left
 ·go_wp2_with fail
  go_ret
  exact ⟨Yo (by rw [ZX (by simp only [YP];omega)]),B0.out⟩
 go_wp2_with fail
 refine (ZgS A1 _ c1 x.args L1 _ _ rfl (by omega) (by omega) (by omega) (S1.out.below B0.out)).mono ?_
 rintro e w1 ⟨rfl,hb1⟩
 have B1:=Lib.hid (B0.out.trans (hb1.mono B0.out.size))
 have K1:=Lib.hid (K0.out.later hb1)
 have f0:=K1.out.at (i:=0) rfl
 have f1:=K1.out.at (i:=1) rfl
 clear hb1
 by_cases k2:((Xm x.args:Nat):Int)≤left - x.rel.size
 rotate_left
 ·rw [ZX k2]
  go_wp2_with fail
  go_ret
  exact ⟨Yo (by rw [ZX (by simp only [YP];omega)]),B1.out⟩
 rw [Y8 k2]
 go_wp2_with fail
 go_ret
 exact ⟨Yo (by rw [Y8 (by simp only [YP];omega)]<;>simp only [YP]<;>omega),B1.out⟩
set_option maxHeartbeats 800000 in
theorem Zpq (A:Option Addr) (n c:Nat) (ds:List Zc) (L:List Nat) (left:Int) (w:World) (hn:n=ds.length) (hm:n≤9223372036854775807) (h0:0≤left) (h1:left≤1048576) (h:Sli Y4 w A ds L):
  Calls Tryz.prog 10 #[.slice A n c,.int .i64 left] w (ZdY (Yd ds) left w):=by
 have H:=Lib.hid h
 have HN:=Lib.hid hn
 clear h hn
 by_cases hlen:(n:Int)≤left
 ·go_enter Tryz.func10,Tryz.ntmps10
  go_wp2
  go_loopw [1,5] (fun q i wr=>∃(k:Nat) (l:Int),k≤n∧i=.int .i64 k∧q=.int .i64 l∧0≤l∧l≤left∧Hid (Below w.heap.size w wr)∧Hid (szR ((ds.drop k).map YP).sum l=szR (Yd ds) left)) (fun _ i _=>n - (intOf i).toNat)
  case atStart=>exact ⟨0,left - n,Nat.zero_le _,rfl,rfl,by omega,by omega,Below.refl _ _,Lib.hid (by
    have e:=HN.out
    exact Zag _ _ _ _ (by omega) (by simp only [Yd,List.drop_zero];omega))⟩
  case round=>
   obtain ⟨k,l,hk,rfl,rfl,hl0,hl1,HB,HE⟩:=hrel
   by_cases hlt:k<n
   ·have hkl:k<ds.length:=by have:=HN.out;omega
    obtain ⟨b,off,cs,Lk,rfl,hbL,hLk,hrep,hc⟩:=H.out.at_ hkl
    have hbl:b<w.heap.size:=H.out.lt b hbL
    have HR:=Lib.hid (Y4.keep hrep (ZN HB.out (fun y m=>H.out.lt y (hLk y m))))
    obtain ⟨A1,c1,rfl⟩:=Zcc hrep
    have q0:wr.cell? ⟨b,off+k * 2,none⟩=_:=(HB.out.cell (p:=⟨b,off+(k * 2+0),none⟩) hbl).trans (hc 0 _ rfl)
    have q1:wr.cell? ⟨b,off+k * 2+1,none⟩=_:=(HB.out.cell (p:=⟨b,off+(k * 2+1),none⟩) hbl).trans (hc 1 _ rfl)
    have hd:Hid (ds.drop k=ds[k]::ds.drop (k+1)):=List.drop_eq_getElem_cons _
    generalize ds[k]=x at *
    clear hc hrep
    by_cases hs:(YP x:Int)≤l
    ·go_wp2_with (go_at_call 31;refine (Zk1 _ x Lk _ _ (by omega) (by omega) HR.out).mono ?_;rintro e w1 ⟨rfl,hb1⟩;rw [Y8 hs];have HB1:=Lib.hid (HB.out.trans (hb1.mono HB.out.size));clear hb1)
     go_roundw
     case rel=>exact ⟨k+1,l - YP x,by omega,by go_num,rfl,by omega,by omega,HB1.out,Lib.hid (by rw [←HE.out,hd.out];exact Zag _ _ _ _ (by omega) (by simp))⟩
     case measure=>simp [intOf];omega
    ·go_wp2_with (go_at_call 31;refine (Zk1 _ x Lk _ _ (by omega) (by omega) HR.out).mono ?_;rintro e w1 ⟨rfl,hb1⟩;rw [ZX hs];have HB1:=Lib.hid (HB.out.trans (hb1.mono HB.out.size));clear hb1)
     go_ret
     exact ⟨Yo (by rw [←HE.out,hd.out,ZX (by simp;omega)]),HB1.out⟩
   ·go_wp2
    go_ret
    exact ⟨Yo (by rw [←HE.out,List.drop_of_length_le (by have:=HN.out;omega)];simp [szR,hl0]),HB.out⟩
 ·go_enter Tryz.func10,Tryz.ntmps10
  go_wp2
  go_ret
  exact ⟨Yo (by rw [ZX (by have:=HN.out;simp only [Yd];omega)]),Below.refl _ _⟩
set_option maxHeartbeats 800000 in
theorem ZgE (cs:List Value) (x:Zv) (L:List Nat) (left:Int) (w:World) (h0:0≤left) (h1:left≤1048576) (h:ZcY.rep w cs x L):
  Calls Tryz.prog 25 #[.agg cs.toArray,.int .i64 left] w (ZdY (Z5 x) left w):=by
 obtain ⟨A1,c1,L1,rfl,_hL,t0,n1,m1,s1⟩:=h
 unfold maxLen at m1
 have S1:=Lib.hid s1
 clear s1
 have B0:Hid (Below w.heap.size w (w.alloc (.cells #[.string x.rel,.slice A1 x.args.length c1] 46))):=(Below.refl _ _).alloc (Nat.le_refl _) _
 have K0:Hid (Blk (w.alloc (.cells #[.string x.rel,.slice A1 x.args.length c1] 46)) w.heap.size 46 #[.string x.rel,.slice A1 x.args.length c1]):=Blk.new _ _ _
 go_enter Tryz.func25,Tryz.ntmps25
 by_cases k1:(x.rel.size:Int)≤left
 rotate_left
 ·go_wp2_with fail
  go_ret
  exact ⟨Yo (by rw [ZX (by simp only [Z5];omega)]),B0.out⟩
 go_wp2_with fail
 refine (ZgS A1 _ c1 x.args L1 _ _ rfl (by omega) (by omega) (by omega) (S1.out.below B0.out)).mono ?_
 rintro e w1 ⟨rfl,hb1⟩
 have B1:=Lib.hid (B0.out.trans (hb1.mono B0.out.size))
 have K1:=Lib.hid (K0.out.later hb1)
 have f0:=K1.out.at (i:=0) rfl
 have f1:=K1.out.at (i:=1) rfl
 clear hb1
 by_cases k2:((Xm x.args:Nat):Int)≤left - x.rel.size
 rotate_left
 ·rw [ZX k2]
  go_wp2_with fail
  go_ret
  exact ⟨Yo (by rw [ZX (by simp only [Z5];omega)]),B1.out⟩
 rw [Y8 k2]
 go_wp2_with fail
 go_ret
 exact ⟨Yo (by rw [Y8 (by simp only [Z5];omega)]<;>simp only [Z5]<;>omega),B1.out⟩
set_option maxHeartbeats 800000 in
theorem Zkc (cs:List Value) (x:Zm) (L:List Nat) (left:Int) (w:World) (h0:0≤left) (h1:left≤1048576) (h:XV.rep w cs x L):
  Calls Tryz.prog 121 #[.agg cs.toArray,.int .i64 left] w (ZdY (YO x) left w):=by
 obtain ⟨A1,c1,L1,rfl,_hL,t0,t1,t2,n1,m1,s1⟩:=h
 unfold maxLen at m1
 have S1:=Lib.hid s1
 clear s1
 have B0:Hid (Below w.heap.size w (w.alloc (.cells #[.int .i64 x.kind,.string x.pattern.rel,.slice A1 x.pattern.args.length c1,.string x.left,.string x.right] 158))):=(Below.refl _ _).alloc (Nat.le_refl _) _
 have K0:Hid (Blk (w.alloc (.cells #[.int .i64 x.kind,.string x.pattern.rel,.slice A1 x.pattern.args.length c1,.string x.left,.string x.right] 158)) w.heap.size 158 #[.int .i64 x.kind,.string x.pattern.rel,.slice A1 x.pattern.args.length c1,.string x.left,.string x.right]):=Blk.new _ _ _
 go_enter Tryz.func121,Tryz.ntmps121
 go_wp2_with fail
 refine (ZgE [.string x.pattern.rel,.slice A1 x.pattern.args.length c1] x.pattern _ _ _ (by omega) (by omega) ⟨A1,c1,L1,rfl,rfl,t0,n1,(by unfold maxLen;omega),S1.out.below B0.out⟩).mono ?_
 rintro e w1 ⟨rfl,hb1⟩
 have B1:=Lib.hid (B0.out.trans (hb1.mono B0.out.size))
 have K1:=Lib.hid (K0.out.later hb1)
 have f0:=K1.out.at (i:=0) rfl
 have f1:=K1.out.at (i:=1) rfl
 have f2:=K1.out.at (i:=2) rfl
 have f3:=K1.out.at (i:=3) rfl
 have f4:=K1.out.at (i:=4) rfl
 clear hb1
 by_cases k1:((Z5 x.pattern:Nat):Int)≤left
 rotate_left
 ·rw [ZX k1]
  go_wp2_with fail
  go_ret
  exact ⟨Yo (by rw [ZX (by simp only [YO];omega)]),B1.out⟩
 rw [Y8 k1]
 by_cases k2:(x.left.size:Int)≤left - (Z5 x.pattern:Nat)
 rotate_left
 ·go_wp2_with fail
  go_ret
  exact ⟨Yo (by rw [ZX (by simp only [YO];omega)]),B1.out⟩
 by_cases k3:(x.right.size:Int)≤left - (Z5 x.pattern:Nat) - x.left.size
 rotate_left
 ·go_wp2_with fail
  go_ret
  exact ⟨Yo (by rw [ZX (by simp only [YO];omega)]),B1.out⟩
 go_wp2_with fail
 go_ret
 exact ⟨Yo (by rw [Y8 (by simp only [YO];omega)]<;>simp only [YO]<;>omega),B1.out⟩
set_option maxHeartbeats 800000 in
theorem Zoh (A:Option Addr) (n c:Nat) (ds:List Zm) (L:List Nat) (left:Int) (w:World) (hn:n=ds.length) (hm:n≤9223372036854775807) (h0:0≤left) (h1:left≤1048576) (h:Sli XV w A ds L):
  Calls Tryz.prog 77 #[.slice A n c,.int .i64 left] w (ZdY (YA ds) left w):=by
 have H:=Lib.hid h
 have HN:=Lib.hid hn
 clear h hn
 by_cases hlen:(n:Int)≤left
 ·go_enter Tryz.func77,Tryz.ntmps77
  go_wp2
  go_loopw [1,5] (fun q i wr=>∃(k:Nat) (l:Int),k≤n∧i=.int .i64 k∧q=.int .i64 l∧0≤l∧l≤left∧Hid (Below w.heap.size w wr)∧Hid (szR ((ds.drop k).map YO).sum l=szR (YA ds) left)) (fun _ i _=>n - (intOf i).toNat)
  case atStart=>exact ⟨0,left - n,Nat.zero_le _,rfl,rfl,by omega,by omega,Below.refl _ _,Lib.hid (by
    have e:=HN.out
    exact Zag _ _ _ _ (by omega) (by simp only [YA,List.drop_zero];omega))⟩
  case round=>
   obtain ⟨k,l,hk,rfl,rfl,hl0,hl1,HB,HE⟩:=hrel
   by_cases hlt:k<n
   ·have hkl:k<ds.length:=by have:=HN.out;omega
    obtain ⟨b,off,cs,Lk,rfl,hbL,hLk,hrep,hc⟩:=H.out.at_ hkl
    have hbl:b<w.heap.size:=H.out.lt b hbL
    have HR:=Lib.hid (XV.keep hrep (ZN HB.out (fun y m=>H.out.lt y (hLk y m))))
    obtain ⟨A1,c1,rfl⟩:=Zcb hrep
    have q0:wr.cell? ⟨b,off+k * 5,none⟩=_:=(HB.out.cell (p:=⟨b,off+(k * 5+0),none⟩) hbl).trans (hc 0 _ rfl)
    have q1:wr.cell? ⟨b,off+k * 5+1,none⟩=_:=(HB.out.cell (p:=⟨b,off+(k * 5+1),none⟩) hbl).trans (hc 1 _ rfl)
    have q2:wr.cell? ⟨b,off+k * 5+2,none⟩=_:=(HB.out.cell (p:=⟨b,off+(k * 5+2),none⟩) hbl).trans (hc 2 _ rfl)
    have q3:wr.cell? ⟨b,off+k * 5+3,none⟩=_:=(HB.out.cell (p:=⟨b,off+(k * 5+3),none⟩) hbl).trans (hc 3 _ rfl)
    have q4:wr.cell? ⟨b,off+k * 5+4,none⟩=_:=(HB.out.cell (p:=⟨b,off+(k * 5+4),none⟩) hbl).trans (hc 4 _ rfl)
    have hd:Hid (ds.drop k=ds[k]::ds.drop (k+1)):=List.drop_eq_getElem_cons _
    generalize ds[k]=x at *
    clear hc hrep
    by_cases hs:(YO x:Int)≤l
    ·go_wp2_with (go_at_call 121;refine (Zkc _ x Lk _ _ (by omega) (by omega) HR.out).mono ?_;rintro e w1 ⟨rfl,hb1⟩;rw [Y8 hs];have HB1:=Lib.hid (HB.out.trans (hb1.mono HB.out.size));clear hb1)
     go_roundw
     case rel=>exact ⟨k+1,l - YO x,by omega,by go_num,rfl,by omega,by omega,HB1.out,Lib.hid (by rw [←HE.out,hd.out];exact Zag _ _ _ _ (by omega) (by simp))⟩
     case measure=>simp [intOf];omega
    ·go_wp2_with (go_at_call 121;refine (Zkc _ x Lk _ _ (by omega) (by omega) HR.out).mono ?_;rintro e w1 ⟨rfl,hb1⟩;rw [ZX hs];have HB1:=Lib.hid (HB.out.trans (hb1.mono HB.out.size));clear hb1)
     go_ret
     exact ⟨Yo (by rw [←HE.out,hd.out,ZX (by simp;omega)]),HB1.out⟩
   ·go_wp2
    go_ret
    exact ⟨Yo (by rw [←HE.out,List.drop_of_length_le (by have:=HN.out;omega)];simp [szR,hl0]),HB.out⟩
 ·go_enter Tryz.func77,Tryz.ntmps77
  go_wp2
  go_ret
  exact ⟨Yo (by rw [ZX (by have:=HN.out;simp only [YA];omega)]),Below.refl _ _⟩
set_option maxHeartbeats 800000 in
theorem ZhD (cs:List Value) (x:Zr) (L:List Nat) (left:Int) (w:World) (h0:0≤left) (h1:left≤1048576) (h:Yk.rep w cs x L):
  Calls Tryz.prog 122 #[.agg cs.toArray,.int .i64 left] w (ZdY (Yl x) left w):=by
 obtain ⟨A1,c1,L1,rfl,_hL,t0,n1,m1,s1⟩:=h
 unfold maxLen at m1
 have S1:=Lib.hid s1
 clear s1
 have B0:Hid (Below w.heap.size w (w.alloc (.cells #[.int .i64 x.kind,.string x.pattern.rel,.slice A1 x.pattern.args.length c1] 161))):=(Below.refl _ _).alloc (Nat.le_refl _) _
 have K0:Hid (Blk (w.alloc (.cells #[.int .i64 x.kind,.string x.pattern.rel,.slice A1 x.pattern.args.length c1] 161)) w.heap.size 161 #[.int .i64 x.kind,.string x.pattern.rel,.slice A1 x.pattern.args.length c1]):=Blk.new _ _ _
 go_enter Tryz.func122,Tryz.ntmps122
 go_wp2_with fail
 refine (ZgE [.string x.pattern.rel,.slice A1 x.pattern.args.length c1] x.pattern _ _ _ (by omega) (by omega) ⟨A1,c1,L1,rfl,rfl,t0,n1,(by unfold maxLen;omega),S1.out.below B0.out⟩).mono ?_
 rintro e w1 ⟨rfl,hb1⟩
 have B1:=Lib.hid (B0.out.trans (hb1.mono B0.out.size))
 have K1:=Lib.hid (K0.out.later hb1)
 have f0:=K1.out.at (i:=0) rfl
 have f1:=K1.out.at (i:=1) rfl
 have f2:=K1.out.at (i:=2) rfl
 clear hb1
 by_cases k1:((Z5 x.pattern:Nat):Int)≤left
 rotate_left
 ·rw [ZX k1]
  go_wp2_with fail
  go_ret
  exact ⟨Yo (by rw [ZX (by simp only [Yl];omega)]),B1.out⟩
 rw [Y8 k1]
 go_wp2_with fail
 go_ret
 exact ⟨Yo (by rw [Y8 (by simp only [Yl];omega)]<;>simp only [Yl]<;>omega),B1.out⟩
set_option maxHeartbeats 800000 in
theorem ZlD (A:Option Addr) (n c:Nat) (ds:List Zr) (L:List Nat) (left:Int) (w:World) (hn:n=ds.length) (hm:n≤9223372036854775807) (h0:0≤left) (h1:left≤1048576) (h:Sli Yk w A ds L):
  Calls Tryz.prog 78 #[.slice A n c,.int .i64 left] w (ZdY (Yg ds) left w):=by
 have H:=Lib.hid h
 have HN:=Lib.hid hn
 clear h hn
 by_cases hlen:(n:Int)≤left
 ·go_enter Tryz.func78,Tryz.ntmps78
  go_wp2
  go_loopw [1,5] (fun q i wr=>∃(k:Nat) (l:Int),k≤n∧i=.int .i64 k∧q=.int .i64 l∧0≤l∧l≤left∧Hid (Below w.heap.size w wr)∧Hid (szR ((ds.drop k).map Yl).sum l=szR (Yg ds) left)) (fun _ i _=>n - (intOf i).toNat)
  case atStart=>exact ⟨0,left - n,Nat.zero_le _,rfl,rfl,by omega,by omega,Below.refl _ _,Lib.hid (by
    have e:=HN.out
    exact Zag _ _ _ _ (by omega) (by simp only [Yg,List.drop_zero];omega))⟩
  case round=>
   obtain ⟨k,l,hk,rfl,rfl,hl0,hl1,HB,HE⟩:=hrel
   by_cases hlt:k<n
   ·have hkl:k<ds.length:=by have:=HN.out;omega
    obtain ⟨b,off,cs,Lk,rfl,hbL,hLk,hrep,hc⟩:=H.out.at_ hkl
    have hbl:b<w.heap.size:=H.out.lt b hbL
    have HR:=Lib.hid (Yk.keep hrep (ZN HB.out (fun y m=>H.out.lt y (hLk y m))))
    obtain ⟨A1,c1,rfl⟩:=Q9 hrep
    have q0:wr.cell? ⟨b,off+k * 3,none⟩=_:=(HB.out.cell (p:=⟨b,off+(k * 3+0),none⟩) hbl).trans (hc 0 _ rfl)
    have q1:wr.cell? ⟨b,off+k * 3+1,none⟩=_:=(HB.out.cell (p:=⟨b,off+(k * 3+1),none⟩) hbl).trans (hc 1 _ rfl)
    have q2:wr.cell? ⟨b,off+k * 3+2,none⟩=_:=(HB.out.cell (p:=⟨b,off+(k * 3+2),none⟩) hbl).trans (hc 2 _ rfl)
    have hd:Hid (ds.drop k=ds[k]::ds.drop (k+1)):=List.drop_eq_getElem_cons _
    generalize ds[k]=x at *
    clear hc hrep
    by_cases hs:(Yl x:Int)≤l
    ·go_wp2_with (go_at_call 122;refine (ZhD _ x Lk _ _ (by omega) (by omega) HR.out).mono ?_;rintro e w1 ⟨rfl,hb1⟩;rw [Y8 hs];have HB1:=Lib.hid (HB.out.trans (hb1.mono HB.out.size));clear hb1)
     go_roundw
     case rel=>exact ⟨k+1,l - Yl x,by omega,by go_num,rfl,by omega,by omega,HB1.out,Lib.hid (by rw [←HE.out,hd.out];exact Zag _ _ _ _ (by omega) (by simp))⟩
     case measure=>simp [intOf];omega
    ·go_wp2_with (go_at_call 122;refine (ZhD _ x Lk _ _ (by omega) (by omega) HR.out).mono ?_;rintro e w1 ⟨rfl,hb1⟩;rw [ZX hs];have HB1:=Lib.hid (HB.out.trans (hb1.mono HB.out.size));clear hb1)
     go_ret
     exact ⟨Yo (by rw [←HE.out,hd.out,ZX (by simp;omega)]),HB1.out⟩
   ·go_wp2
    go_ret
    exact ⟨Yo (by rw [←HE.out,List.drop_of_length_le (by have:=HN.out;omega)];simp [szR,hl0]),HB.out⟩
 ·go_enter Tryz.func78,Tryz.ntmps78
  go_wp2
  go_ret
  exact ⟨Yo (by rw [ZX (by have:=HN.out;simp only [Yg];omega)]),Below.refl _ _⟩
set_option maxHeartbeats 800000 in
theorem Zj3 (cs:List Value) (x:Zf) (L:List Nat) (left:Int) (w:World) (h0:0≤left) (h1:left≤1048576) (h:XU.rep w cs x L):
  Calls Tryz.prog 44 #[.agg cs.toArray,.int .i64 left] w (ZdY (Yq x) left w):=by
 obtain ⟨A1,c1,L1,A2,c2,L2,rfl,_hL,t0,n1,m1,s1,n2,m2,s2⟩:=h
 unfold maxLen at m1 m2
 have S1:=Lib.hid s1
 clear s1
 have S2:=Lib.hid s2
 clear s2
 have B0:Hid (Below w.heap.size w (w.alloc (.cells #[.string x.name,.int .i64 x.priority,.slice A1 x.cond.length c1,.slice A2 x.thn.length c2] 75))):=(Below.refl _ _).alloc (Nat.le_refl _) _
 have K0:Hid (Blk (w.alloc (.cells #[.string x.name,.int .i64 x.priority,.slice A1 x.cond.length c1,.slice A2 x.thn.length c2] 75)) w.heap.size 75 #[.string x.name,.int .i64 x.priority,.slice A1 x.cond.length c1,.slice A2 x.thn.length c2]):=Blk.new _ _ _
 go_enter Tryz.func44,Tryz.ntmps44
 by_cases k1:(x.name.size:Int)≤left
 rotate_left
 ·go_wp2_with fail
  go_ret
  exact ⟨Yo (by rw [ZX (by simp only [Yq];omega)]),B0.out⟩
 go_wp2_with fail
 refine (Zoh A1 _ c1 x.cond L1 _ _ rfl (by omega) (by omega) (by omega) (S1.out.below B0.out)).mono ?_
 rintro e w1 ⟨rfl,hb1⟩
 have B1:=Lib.hid (B0.out.trans (hb1.mono B0.out.size))
 have K1:=Lib.hid (K0.out.later hb1)
 have f0:=K1.out.at (i:=0) rfl
 have f1:=K1.out.at (i:=1) rfl
 have f2:=K1.out.at (i:=2) rfl
 have f3:=K1.out.at (i:=3) rfl
 clear hb1
 by_cases k2:((YA x.cond:Nat):Int)≤left - x.name.size
 rotate_left
 ·rw [ZX k2]
  go_wp2_with fail
  go_ret
  exact ⟨Yo (by rw [ZX (by simp only [Yq];omega)]),B1.out⟩
 rw [Y8 k2]
 go_wp2_with fail
 refine (ZlD A2 _ c2 x.thn L2 _ _ rfl (by omega) (by omega) (by omega) (S2.out.below B1.out)).mono ?_
 rintro e w2 ⟨rfl,hb2⟩
 have B2:=Lib.hid (B1.out.trans (hb2.mono B1.out.size))
 have K2:=Lib.hid (K1.out.later hb2)
 clear f0 f1 f2 f3
 have f0:=K2.out.at (i:=0) rfl
 have f1:=K2.out.at (i:=1) rfl
 have f2:=K2.out.at (i:=2) rfl
 have f3:=K2.out.at (i:=3) rfl
 clear hb2
 by_cases k3:((Yg x.thn:Nat):Int)≤left - x.name.size - (YA x.cond:Nat)
 rotate_left
 ·rw [ZX k3]
  go_wp2_with fail
  go_ret
  exact ⟨Yo (by rw [ZX (by simp only [Yq];omega)]),B2.out⟩
 rw [Y8 k3]
 go_wp2_with fail
 go_ret
 exact ⟨Yo (by rw [Y8 (by simp only [Yq];omega)]<;>simp only [Yq]<;>omega),B2.out⟩
set_option maxHeartbeats 800000 in
theorem Zn6 (A:Option Addr) (n c:Nat) (ds:List Zf) (L:List Nat) (left:Int) (w:World) (hn:n=ds.length) (hm:n≤9223372036854775807) (h0:0≤left) (h1:left≤1048576) (h:Sli XU w A ds L):
  Calls Tryz.prog 9 #[.slice A n c,.int .i64 left] w (ZdY (Yj ds) left w):=by
 have H:=Lib.hid h
 have HN:=Lib.hid hn
 clear h hn
 by_cases hlen:(n:Int)≤left
 ·go_enter Tryz.func9,Tryz.ntmps9
  go_wp2
  go_loopw [1,5] (fun q i wr=>∃(k:Nat) (l:Int),k≤n∧i=.int .i64 k∧q=.int .i64 l∧0≤l∧l≤left∧Hid (Below w.heap.size w wr)∧Hid (szR ((ds.drop k).map Yq).sum l=szR (Yj ds) left)) (fun _ i _=>n - (intOf i).toNat)
  case atStart=>exact ⟨0,left - n,Nat.zero_le _,rfl,rfl,by omega,by omega,Below.refl _ _,Lib.hid (by
    have e:=HN.out
    exact Zag _ _ _ _ (by omega) (by simp only [Yj,List.drop_zero];omega))⟩
  case round=>
   obtain ⟨k,l,hk,rfl,rfl,hl0,hl1,HB,HE⟩:=hrel
   by_cases hlt:k<n
   ·have hkl:k<ds.length:=by have:=HN.out;omega
    obtain ⟨b,off,cs,Lk,rfl,hbL,hLk,hrep,hc⟩:=H.out.at_ hkl
    have hbl:b<w.heap.size:=H.out.lt b hbL
    have HR:=Lib.hid (XU.keep hrep (ZN HB.out (fun y m=>H.out.lt y (hLk y m))))
    obtain ⟨A1,c1,A2,c2,rfl⟩:=Zb5 hrep
    have q0:wr.cell? ⟨b,off+k * 4,none⟩=_:=(HB.out.cell (p:=⟨b,off+(k * 4+0),none⟩) hbl).trans (hc 0 _ rfl)
    have q1:wr.cell? ⟨b,off+k * 4+1,none⟩=_:=(HB.out.cell (p:=⟨b,off+(k * 4+1),none⟩) hbl).trans (hc 1 _ rfl)
    have q2:wr.cell? ⟨b,off+k * 4+2,none⟩=_:=(HB.out.cell (p:=⟨b,off+(k * 4+2),none⟩) hbl).trans (hc 2 _ rfl)
    have q3:wr.cell? ⟨b,off+k * 4+3,none⟩=_:=(HB.out.cell (p:=⟨b,off+(k * 4+3),none⟩) hbl).trans (hc 3 _ rfl)
    have hd:Hid (ds.drop k=ds[k]::ds.drop (k+1)):=List.drop_eq_getElem_cons _
    generalize ds[k]=x at *
    clear hc hrep
    by_cases hs:(Yq x:Int)≤l
    ·go_wp2_with (go_at_call 44;refine (Zj3 _ x Lk _ _ (by omega) (by omega) HR.out).mono ?_;rintro e w1 ⟨rfl,hb1⟩;rw [Y8 hs];have HB1:=Lib.hid (HB.out.trans (hb1.mono HB.out.size));clear hb1)
     go_roundw
     case rel=>exact ⟨k+1,l - Yq x,by omega,by go_num,rfl,by omega,by omega,HB1.out,Lib.hid (by rw [←HE.out,hd.out];exact Zag _ _ _ _ (by omega) (by simp))⟩
     case measure=>simp [intOf];omega
    ·go_wp2_with (go_at_call 44;refine (Zj3 _ x Lk _ _ (by omega) (by omega) HR.out).mono ?_;rintro e w1 ⟨rfl,hb1⟩;rw [ZX hs];have HB1:=Lib.hid (HB.out.trans (hb1.mono HB.out.size));clear hb1)
     go_ret
     exact ⟨Yo (by rw [←HE.out,hd.out,ZX (by simp;omega)]),HB1.out⟩
   ·go_wp2
    go_ret
    exact ⟨Yo (by rw [←HE.out,List.drop_of_length_le (by have:=HN.out;omega)];simp [szR,hl0]),HB.out⟩
 ·go_enter Tryz.func9,Tryz.ntmps9
  go_wp2
  go_ret
  exact ⟨Yo (by rw [ZX (by have:=HN.out;simp only [Yj];omega)]),Below.refl _ _⟩
end Go.Proofs.YtojnhepgnbhaaaaGreatDoor
namespace Go.Proofs.YtojnhepgnbhaaaaGreatDoor
open Go.RowKit
theorem Tryz.infoString_:(Tryz.prog.info? 9).map (fun i=>(i.zero,i.size,i.bytes))=some (some (.string ⟨#[]⟩),1,16):=by kernel_rfl
set_option maxHeartbeats 1600000 in
theorem ZgH (A:Option Addr) (n c:Nat) (ds:List ByteArray) (L:List Nat) (w:World) (hn:n=ds.length) (hm:ds.length≤1099511627776) (h:Sli Zbm w A ds L):
  Calls Tryz.prog 62 #[.slice A n c] w (Zkp Zbm 9 w ds):=by
 obtain ⟨i0,hi,hz0,hz1,hz2⟩:=info_parts Tryz.infoString_
 rw [←hn] at hm
 have H:=Lib.hid h
 have HN:=Lib.hid hn
 clear h hn
 go_enter Tryz.func62,Tryz.ntmps62
 go_wp2_with (at_make;refine wpList_make_full _ rfl _ _ 44 rfl w.heap.size 9 i0 _ 1 Tryz.underlying44 hi hz0 hz1 .i64 .i64 _ _ n rfl rfl rfl rfl (by rw [hz2];omega) (by unfold maxLen;omega) (Nat.le_refl _) ?_;intro w1 hown hg)
 have hb:Below w.heap.size w w1:=(Below.refl _ _).grown hg (Nat.le_refl _) (by simp)
 have HF0:Hid (Z9 Zbm 9 w n ds 0 w1):=Z9.start hown hb
 clear hown hg hb
 go_wp2
 go_loopw [4] (fun i wr=>∃(k:Nat),k≤n∧i=.int .i64 k∧Hid (Z9 Zbm 9 w n ds k wr)) (fun i _=>n - (intOf i).toNat)
 case atStart=>exact ⟨0,Nat.zero_le _,rfl,HF0⟩
 case round=>
  obtain ⟨k,hk,rfl,HF⟩:=hrel
  by_cases hlt:k<n
  ·have hkl:k<ds.length:=by have:=HN.out;omega
   obtain ⟨b,off,cs,Lk,rfl,hbL,hLk,hrep,hc⟩:=H.out.at_ hkl
   have hbl:b<w.heap.size:=H.out.lt b hbL
   have hrep0:=hrep
   obtain ⟨rfl,_,hss⟩:=hrep0
   have q0:=(HF.out.below.cell (p:=⟨b,off+(k * Zbm.size+0),none⟩) hbl).trans (hc 0 _ rfl)
   have HS:=Lib.hid (HF.out.store (w2:=wr) (x:=ds[k]) (M:=[]) hlt HN.out (fun _=>rfl) (Below.refl _ _) ⟨⟨rfl,rfl,hss⟩,Own.nil _ _⟩)
   obtain ⟨d0,e0⟩:=HF.out.cell hlt (j:=0) (by decide)
   have z0:=HF.out.frozen k
   simp only [show Zbm.size=1 from rfl,Nat.mul_one,Nat.add_zero] at q0 HS e0
   generalize ds[k]=x at *
   clear hc hrep
   go_wp2_with fail
   go_roundw
   case rel=>exact ⟨k+1,by omega,by go_num,HS.out⟩
   case measure=>simp [intOf];omega
  ·obtain rfl:k=n:=by omega
   go_wp2
   go_ret
   exact ⟨_,rfl,HF.out.done HN.out⟩
set_option maxHeartbeats 1600000 in
theorem ZpQ (cs:List Value) (x:Zc) (L:List Nat) (w:World) (hz:YP x≤1048576) (h:Y4.rep w cs x L):
  Calls Tryz.prog 33 #[.agg cs.toArray] w (Zmx Y4 w x):=by
 obtain ⟨A1,c1,L1,rfl,_hL,t0,n1,m1,s1⟩:=h
 unfold maxLen at m1
 have S1:=Lib.hid s1
 clear s1
 simp only [YP] at hz
 go_enter Tryz.func33,Tryz.ntmps33
 go_wp2_with fail
 refine (ZgH A1 _ c1 x.args L1 _ rfl (by simp only [Xm] at hz;omega) (S1.out.below (by repeat (first | refine Below.setCell ?_ (by dsimp only;omega) _ | refine Below.alloc ?_ (by first | (simp;done) | (simp;omega) | omega) _ | exact Below.refl _ _)))).mono ?_
 rintro e w1 ⟨v1,rfl,a1⟩
 obtain ⟨vA1,vc1,rfl⟩:=a1.shape
 have hb1:=a1.below
 obtain ⟨M1,g1⟩:=a1.got
 clear a1
 have G1:=Lib.hid (g1.mono (show w.heap.size+3≤_ by simp))
 have lt1:=Lib.hid g1.lt
 clear g1
 have B1:Hid (Below w.heap.size w w1):=Below.trans (by repeat (first | refine Below.setCell ?_ (by dsimp only;omega) _ | refine Below.alloc ?_ (by first | (simp;done) | (simp;omega) | omega) _ | exact Below.refl _ _)) (hb1.mono (by first | (simp;done) | (simp;omega) | omega))
 have K0:Hid (Blk w1 w.heap.size 54 #[.string x.rel,.slice A1 x.args.length c1]):=Blk.later (Blk.alloc (Blk.alloc (Blk.new _ _ _) _) _) hb1
 have K1:Hid (Blk w1 (w.heap.size+1) 57 #[.string ⟨#[]⟩,.slice none 0 0]):=Blk.later (Blk.alloc (Blk.new_at (by simp)) _) hb1
 have K2:Hid (Blk w1 (w.heap.size+1+1) 57 #[.string x.rel,.slice none 0 0]):=Blk.later (Blk.new_at (by simp)) hb1
 have f0:=K0.out.at (i:=0) rfl
 have r0:=K1.out.at (i:=0) rfl
 have o0:=K2.out.at (i:=0) rfl
 have rz0:=K1.out.frozen 0
 have oz0:=K2.out.frozen 0
 have f1:=K0.out.at (i:=1) rfl
 have r1:=K1.out.at (i:=1) rfl
 have o1:=K2.out.at (i:=1) rfl
 have rz1:=K1.out.frozen 1
 have oz1:=K2.out.frozen 1
 have hz1:w.heap.size+2<w1.heap.size:=by have:=hb1.size;simp at this;omega
 clear hb1
 go_wp2_with fail
 refine bodyPost_ret (v:=.agg #[.string x.rel,.slice vA1 x.args.length vc1]) (by simp [results,Tryz.results33,go_sem,r0,r1]) rfl ?_
 obtain ⟨nn1,mm1,ss1⟩:=ZU G1.out.rep
 exact Zfy (wr:=w1) (M1) ⟨⟨vA1,vc1,M1,rfl,rfl,t0,nn1,mm1,ss1⟩,by have o:=G1.out.own;simpa only [List.append_assoc] using o⟩ (by intro b hb;repeat rw [Below.heap_setCell _ _ _ _ (by dsimp only;omega)]) (by repeat (first | refine Below.setCell ?_ (by dsimp only;omega) _ | refine Below.alloc ?_ (by first | (simp;done) | (simp;omega) | omega) _ | exact B1.out))
theorem Tryz.infoFact:(Tryz.prog.info? 57).map (fun i=>(i.zero,i.size,i.bytes))=some (some (.agg #[.string ⟨#[]⟩,.slice none 0 0]),2,40):=by kernel_rfl
set_option maxHeartbeats 1600000 in
theorem ZdN (A:Option Addr) (n c:Nat) (ds:List Zc) (L:List Nat) (w:World) (hn:n=ds.length) (hz:Yd ds≤1048576) (h:Sli Y4 w A ds L):
  Calls Tryz.prog 13 #[.slice A n c] w (Zkp Y4 57 w ds):=by
 obtain ⟨i0,hi,hz0,hz1,hz2⟩:=info_parts Tryz.infoFact
 have H:=Lib.hid h
 have HN:=Lib.hid hn
 have hm:n≤1048576:=by simp only [Yd] at hz;omega
 have HZ:=Lib.hid hz
 clear h hn hz
 go_enter Tryz.func13,Tryz.ntmps13
 go_wp2_with (at_make;refine wpList_make_full _ rfl _ _ 26 rfl w.heap.size 57 i0 _ 2 Tryz.underlying26 hi hz0 hz1 .i64 .i64 _ _ n rfl rfl rfl rfl (by rw [hz2];omega) (by unfold maxLen;omega) (Nat.le_refl _) ?_;intro w1 hown hg)
 have hb:Below w.heap.size w w1:=(Below.refl _ _).grown hg (Nat.le_refl _) (by simp)
 have HF0:Hid (Z9 Y4 57 w n ds 0 w1):=Z9.start hown hb
 clear hown hg hb
 go_wp2
 go_loopw [4] (fun i wr=>∃(k:Nat),k≤n∧i=.int .i64 k∧Hid (Z9 Y4 57 w n ds k wr)) (fun i _=>n - (intOf i).toNat)
 case atStart=>exact ⟨0,Nat.zero_le _,rfl,HF0⟩
 case round=>
  obtain ⟨k,hk,rfl,HF⟩:=hrel
  by_cases hlt:k<n
  ·have hkl:k<ds.length:=by have:=HN.out;omega
   obtain ⟨b,off,cs,Lk,rfl,hbL,hLk,hrep,hc⟩:=H.out.at_ hkl
   have hbl:b<w.heap.size:=H.out.lt b hbL
   have HR:=Lib.hid (Y4.keep hrep (ZN HF.out.below (fun y m=>H.out.lt y (hLk y m))))
   obtain ⟨A1,c1,rfl⟩:=Zcc hrep
   have q0:wr.cell? ⟨b,off+k * 2,none⟩=_:=(HF.out.below.cell (p:=⟨b,off+(k * 2+0),none⟩) hbl).trans (hc 0 _ rfl)
   have q1:wr.cell? ⟨b,off+k * 2+1,none⟩=_:=(HF.out.below.cell (p:=⟨b,off+(k * 2+1),none⟩) hbl).trans (hc 1 _ rfl)
   have hcx:Hid (YP ds[k]≤1048576):=ZjX YP ds k hkl (by have:=HZ.out;simp only [Yd] at this;omega)
   obtain ⟨x,hx⟩:∃x,x=ds[k]:=⟨_,rfl⟩
   have HX:=Lib.hid hx
   rw [←hx] at HR q0 q1 hcx
   clear hc hrep hx
   go_wp2_with fail
   refine (ZpQ _ x Lk _ hcx.out HR.out).mono ?_
   rintro e w2 ⟨cs2,M2,rfl,g2,hb2⟩
   have HF2:=Lib.hid (HF.out.later hb2)
   have HS:=Lib.hid (HF.out.store hlt HN.out (fun _=>HX.out) hb2 g2)
   obtain ⟨vA1,vc1,rfl⟩:=Zcc g2.rep
   clear g2 hb2
   obtain ⟨d0,e0⟩:∃d,w2.cell? ⟨w.heap.size,k * 2,none⟩=some d:=HF2.out.cell hlt (j:=0) (by decide)
   have z0:=HF2.out.frozen (k * 2)
   obtain ⟨d1,e1⟩:∃d,w2.cell? ⟨w.heap.size,k * 2+1,none⟩=some d:=HF2.out.cell hlt (j:=1) (by decide)
   have z1:=HF2.out.frozen (k * 2+1)
   go_wp2_with fail
   go_roundw
   case rel=>exact ⟨k+1,by omega,by go_num,HS.out⟩
   case measure=>simp [intOf];omega
  ·obtain rfl:k=n:=by omega
   go_wp2
   go_ret
   exact ⟨_,rfl,HF.out.done HN.out⟩
set_option maxHeartbeats 1600000 in
theorem ZgU (cs:List Value) (x:Zv) (L:List Nat) (w:World) (hz:Z5 x≤1048576) (h:ZcY.rep w cs x L):
  Calls Tryz.prog 27 #[.agg cs.toArray] w (Zmx ZcY w x):=by
 obtain ⟨A1,c1,L1,rfl,_hL,t0,n1,m1,s1⟩:=h
 unfold maxLen at m1
 have S1:=Lib.hid s1
 clear s1
 simp only [Z5] at hz
 go_enter Tryz.func27,Tryz.ntmps27
 go_wp2_with fail
 refine (ZgH A1 _ c1 x.args L1 _ rfl (by simp only [Xm] at hz;omega) (S1.out.below (by repeat (first | refine Below.setCell ?_ (by dsimp only;omega) _ | refine Below.alloc ?_ (by first | (simp;done) | (simp;omega) | omega) _ | exact Below.refl _ _)))).mono ?_
 rintro e w1 ⟨v1,rfl,a1⟩
 obtain ⟨vA1,vc1,rfl⟩:=a1.shape
 have hb1:=a1.below
 obtain ⟨M1,g1⟩:=a1.got
 clear a1
 have G1:=Lib.hid (g1.mono (show w.heap.size+3≤_ by simp))
 have lt1:=Lib.hid g1.lt
 clear g1
 have B1:Hid (Below w.heap.size w w1):=Below.trans (by repeat (first | refine Below.setCell ?_ (by dsimp only;omega) _ | refine Below.alloc ?_ (by first | (simp;done) | (simp;omega) | omega) _ | exact Below.refl _ _)) (hb1.mono (by first | (simp;done) | (simp;omega) | omega))
 have K0:Hid (Blk w1 w.heap.size 46 #[.string x.rel,.slice A1 x.args.length c1]):=Blk.later (Blk.alloc (Blk.alloc (Blk.new _ _ _) _) _) hb1
 have K1:Hid (Blk w1 (w.heap.size+1) 49 #[.string ⟨#[]⟩,.slice none 0 0]):=Blk.later (Blk.alloc (Blk.new_at (by simp)) _) hb1
 have K2:Hid (Blk w1 (w.heap.size+1+1) 49 #[.string x.rel,.slice none 0 0]):=Blk.later (Blk.new_at (by simp)) hb1
 have f0:=K0.out.at (i:=0) rfl
 have r0:=K1.out.at (i:=0) rfl
 have o0:=K2.out.at (i:=0) rfl
 have rz0:=K1.out.frozen 0
 have oz0:=K2.out.frozen 0
 have f1:=K0.out.at (i:=1) rfl
 have r1:=K1.out.at (i:=1) rfl
 have o1:=K2.out.at (i:=1) rfl
 have rz1:=K1.out.frozen 1
 have oz1:=K2.out.frozen 1
 have hz1:w.heap.size+2<w1.heap.size:=by have:=hb1.size;simp at this;omega
 clear hb1
 go_wp2_with fail
 refine bodyPost_ret (v:=.agg #[.string x.rel,.slice vA1 x.args.length vc1]) (by simp [results,Tryz.results27,go_sem,r0,r1]) rfl ?_
 obtain ⟨nn1,mm1,ss1⟩:=ZU G1.out.rep
 exact Zfy (wr:=w1) (M1) ⟨⟨vA1,vc1,M1,rfl,rfl,t0,nn1,mm1,ss1⟩,by have o:=G1.out.own;simpa only [List.append_assoc] using o⟩ (by intro b hb;repeat rw [Below.heap_setCell _ _ _ _ (by dsimp only;omega)]) (by repeat (first | refine Below.setCell ?_ (by dsimp only;omega) _ | refine Below.alloc ?_ (by first | (simp;done) | (simp;omega) | omega) _ | exact B1.out))
set_option maxHeartbeats 1600000 in
theorem ZpV (cs:List Value) (x:Zm) (L:List Nat) (w:World) (hz:YO x≤1048576) (h:XV.rep w cs x L):
  Calls Tryz.prog 130 #[.agg cs.toArray] w (Zmx XV w x):=by
 obtain ⟨A1,c1,L1,rfl,_hL,t0,t1,t2,n1,m1,s1⟩:=h
 unfold maxLen at m1
 have S1:=Lib.hid s1
 clear s1
 simp only [YO] at hz
 go_enter Tryz.func130,Tryz.ntmps130
 go_wp2_with fail
 refine (ZgU [.string x.pattern.rel,.slice A1 x.pattern.args.length c1] x.pattern _ _ (by omega) ⟨A1,c1,L1,rfl,rfl,t0,n1,(by unfold maxLen;omega),S1.out.below (by repeat (first | refine Below.setCell ?_ (by dsimp only;omega) _ | refine Below.alloc ?_ (by first | (simp;done) | (simp;omega) | omega) _ | exact Below.refl _ _))⟩).mono ?_
 rintro e w1 ⟨cs1,M1,rfl,g1,hb1⟩
 obtain ⟨vA1,vc1,rfl⟩:=ZfO g1.rep
 have G1:=Lib.hid (g1.mono (show w.heap.size+3≤_ by simp))
 have lt1:=Lib.hid g1.lt
 clear g1
 have B1:Hid (Below w.heap.size w w1):=Below.trans (by repeat (first | refine Below.setCell ?_ (by dsimp only;omega) _ | refine Below.alloc ?_ (by first | (simp;done) | (simp;omega) | omega) _ | exact Below.refl _ _)) (hb1.mono (by first | (simp;done) | (simp;omega) | omega))
 have K0:Hid (Blk w1 w.heap.size 158 #[.int .i64 x.kind,.string x.pattern.rel,.slice A1 x.pattern.args.length c1,.string x.left,.string x.right]):=Blk.later (Blk.alloc (Blk.alloc (Blk.new _ _ _) _) _) hb1
 have K1:Hid (Blk w1 (w.heap.size+1) 130 #[.int .i64 0,.string ⟨#[]⟩,.slice none 0 0,.string ⟨#[]⟩,.string ⟨#[]⟩]):=Blk.later (Blk.alloc (Blk.new_at (by simp)) _) hb1
 have K2:Hid (Blk w1 (w.heap.size+1+1) 130 #[.int .i64 x.kind,.string ⟨#[]⟩,.slice none 0 0,.string ⟨#[]⟩,.string ⟨#[]⟩]):=Blk.later (Blk.new_at (by simp)) hb1
 have f0:=K0.out.at (i:=0) rfl
 have r0:=K1.out.at (i:=0) rfl
 have o0:=K2.out.at (i:=0) rfl
 have rz0:=K1.out.frozen 0
 have oz0:=K2.out.frozen 0
 have f1:=K0.out.at (i:=1) rfl
 have r1:=K1.out.at (i:=1) rfl
 have o1:=K2.out.at (i:=1) rfl
 have rz1:=K1.out.frozen 1
 have oz1:=K2.out.frozen 1
 have f2:=K0.out.at (i:=2) rfl
 have r2:=K1.out.at (i:=2) rfl
 have o2:=K2.out.at (i:=2) rfl
 have rz2:=K1.out.frozen 2
 have oz2:=K2.out.frozen 2
 have f3:=K0.out.at (i:=3) rfl
 have r3:=K1.out.at (i:=3) rfl
 have o3:=K2.out.at (i:=3) rfl
 have rz3:=K1.out.frozen 3
 have oz3:=K2.out.frozen 3
 have f4:=K0.out.at (i:=4) rfl
 have r4:=K1.out.at (i:=4) rfl
 have o4:=K2.out.at (i:=4) rfl
 have rz4:=K1.out.frozen 4
 have oz4:=K2.out.frozen 4
 have hz1:w.heap.size+2<w1.heap.size:=by have:=hb1.size;simp at this;omega
 clear hb1
 go_wp2_with fail
 refine bodyPost_ret (v:=.agg #[.int .i64 x.kind,.string x.pattern.rel,.slice vA1 x.pattern.args.length vc1,.string x.left,.string x.right]) (by simp [results,Tryz.results130,go_sem,r0,r1,r2,r3,r4]) rfl ?_
 obtain ⟨_,_,N1,hcs1,hL1,_,nn1,mm1,ss1⟩:=G1.out.rep
 cases hcs1
 subst hL1
 exact Zfy (wr:=w1) (M1) ⟨⟨vA1,vc1,M1,rfl,rfl,t0,t1,t2,nn1,mm1,ss1⟩,by have o:=G1.out.own;simpa only [List.append_assoc] using o⟩ (by intro b hb;repeat rw [Below.heap_setCell _ _ _ _ (by dsimp only;omega)]) (by repeat (first | refine Below.setCell ?_ (by dsimp only;omega) _ | refine Below.alloc ?_ (by first | (simp;done) | (simp;omega) | omega) _ | exact B1.out))
theorem Tryz.infoCond:(Tryz.prog.info? 130).map (fun i=>(i.zero,i.size,i.bytes))=some (some (.agg #[.int .i64 0,.string ⟨#[]⟩,.slice none 0 0,.string ⟨#[]⟩,.string ⟨#[]⟩]),5,80):=by kernel_rfl
set_option maxHeartbeats 1600000 in
theorem Zpt (A:Option Addr) (n c:Nat) (ds:List Zm) (L:List Nat) (w:World) (hn:n=ds.length) (hz:YA ds≤1048576) (h:Sli XV w A ds L):
  Calls Tryz.prog 84 #[.slice A n c] w (Zkp XV 130 w ds):=by
 obtain ⟨i0,hi,hz0,hz1,hz2⟩:=info_parts Tryz.infoCond
 have H:=Lib.hid h
 have HN:=Lib.hid hn
 have hm:n≤1048576:=by simp only [YA] at hz;omega
 have HZ:=Lib.hid hz
 clear h hn hz
 go_enter Tryz.func84,Tryz.ntmps84
 go_wp2_with (at_make;refine wpList_make_full _ rfl _ _ 79 rfl w.heap.size 130 i0 _ 5 Tryz.underlying79 hi hz0 hz1 .i64 .i64 _ _ n rfl rfl rfl rfl (by rw [hz2];omega) (by unfold maxLen;omega) (Nat.le_refl _) ?_;intro w1 hown hg)
 have hb:Below w.heap.size w w1:=(Below.refl _ _).grown hg (Nat.le_refl _) (by simp)
 have HF0:Hid (Z9 XV 130 w n ds 0 w1):=Z9.start hown hb
 clear hown hg hb
 go_wp2
 go_loopw [4] (fun i wr=>∃(k:Nat),k≤n∧i=.int .i64 k∧Hid (Z9 XV 130 w n ds k wr)) (fun i _=>n - (intOf i).toNat)
 case atStart=>exact ⟨0,Nat.zero_le _,rfl,HF0⟩
 case round=>
  obtain ⟨k,hk,rfl,HF⟩:=hrel
  by_cases hlt:k<n
  ·have hkl:k<ds.length:=by have:=HN.out;omega
   obtain ⟨b,off,cs,Lk,rfl,hbL,hLk,hrep,hc⟩:=H.out.at_ hkl
   have hbl:b<w.heap.size:=H.out.lt b hbL
   have HR:=Lib.hid (XV.keep hrep (ZN HF.out.below (fun y m=>H.out.lt y (hLk y m))))
   obtain ⟨A1,c1,rfl⟩:=Zcb hrep
   have q0:wr.cell? ⟨b,off+k * 5,none⟩=_:=(HF.out.below.cell (p:=⟨b,off+(k * 5+0),none⟩) hbl).trans (hc 0 _ rfl)
   have q1:wr.cell? ⟨b,off+k * 5+1,none⟩=_:=(HF.out.below.cell (p:=⟨b,off+(k * 5+1),none⟩) hbl).trans (hc 1 _ rfl)
   have q2:wr.cell? ⟨b,off+k * 5+2,none⟩=_:=(HF.out.below.cell (p:=⟨b,off+(k * 5+2),none⟩) hbl).trans (hc 2 _ rfl)
   have q3:wr.cell? ⟨b,off+k * 5+3,none⟩=_:=(HF.out.below.cell (p:=⟨b,off+(k * 5+3),none⟩) hbl).trans (hc 3 _ rfl)
   have q4:wr.cell? ⟨b,off+k * 5+4,none⟩=_:=(HF.out.below.cell (p:=⟨b,off+(k * 5+4),none⟩) hbl).trans (hc 4 _ rfl)
   have hcx:Hid (YO ds[k]≤1048576):=ZjX YO ds k hkl (by have:=HZ.out;simp only [YA] at this;omega)
   obtain ⟨x,hx⟩:∃x,x=ds[k]:=⟨_,rfl⟩
   have HX:=Lib.hid hx
   rw [←hx] at HR q0 q1 q2 q3 q4 hcx
   clear hc hrep hx
   go_wp2_with fail
   refine (ZpV _ x Lk _ hcx.out HR.out).mono ?_
   rintro e w2 ⟨cs2,M2,rfl,g2,hb2⟩
   have HF2:=Lib.hid (HF.out.later hb2)
   have HS:=Lib.hid (HF.out.store hlt HN.out (fun _=>HX.out) hb2 g2)
   obtain ⟨vA1,vc1,rfl⟩:=Zcb g2.rep
   clear g2 hb2
   obtain ⟨d0,e0⟩:∃d,w2.cell? ⟨w.heap.size,k * 5,none⟩=some d:=HF2.out.cell hlt (j:=0) (by decide)
   have z0:=HF2.out.frozen (k * 5)
   obtain ⟨d1,e1⟩:∃d,w2.cell? ⟨w.heap.size,k * 5+1,none⟩=some d:=HF2.out.cell hlt (j:=1) (by decide)
   have z1:=HF2.out.frozen (k * 5+1)
   obtain ⟨d2,e2⟩:∃d,w2.cell? ⟨w.heap.size,k * 5+2,none⟩=some d:=HF2.out.cell hlt (j:=2) (by decide)
   have z2:=HF2.out.frozen (k * 5+2)
   obtain ⟨d3,e3⟩:∃d,w2.cell? ⟨w.heap.size,k * 5+3,none⟩=some d:=HF2.out.cell hlt (j:=3) (by decide)
   have z3:=HF2.out.frozen (k * 5+3)
   obtain ⟨d4,e4⟩:∃d,w2.cell? ⟨w.heap.size,k * 5+4,none⟩=some d:=HF2.out.cell hlt (j:=4) (by decide)
   have z4:=HF2.out.frozen (k * 5+4)
   go_wp2_with fail
   go_roundw
   case rel=>exact ⟨k+1,by omega,by go_num,HS.out⟩
   case measure=>simp [intOf];omega
  ·obtain rfl:k=n:=by omega
   go_wp2
   go_ret
   exact ⟨_,rfl,HF.out.done HN.out⟩
set_option maxHeartbeats 1600000 in
theorem Znb (cs:List Value) (x:Zr) (L:List Nat) (w:World) (hz:Yl x≤1048576) (h:Yk.rep w cs x L):
  Calls Tryz.prog 131 #[.agg cs.toArray] w (Zmx Yk w x):=by
 obtain ⟨A1,c1,L1,rfl,_hL,t0,n1,m1,s1⟩:=h
 unfold maxLen at m1
 have S1:=Lib.hid s1
 clear s1
 simp only [Yl] at hz
 go_enter Tryz.func131,Tryz.ntmps131
 go_wp2_with fail
 refine (ZgU [.string x.pattern.rel,.slice A1 x.pattern.args.length c1] x.pattern _ _ (by omega) ⟨A1,c1,L1,rfl,rfl,t0,n1,(by unfold maxLen;omega),S1.out.below (by repeat (first | refine Below.setCell ?_ (by dsimp only;omega) _ | refine Below.alloc ?_ (by first | (simp;done) | (simp;omega) | omega) _ | exact Below.refl _ _))⟩).mono ?_
 rintro e w1 ⟨cs1,M1,rfl,g1,hb1⟩
 obtain ⟨vA1,vc1,rfl⟩:=ZfO g1.rep
 have G1:=Lib.hid (g1.mono (show w.heap.size+3≤_ by simp))
 have lt1:=Lib.hid g1.lt
 clear g1
 have B1:Hid (Below w.heap.size w w1):=Below.trans (by repeat (first | refine Below.setCell ?_ (by dsimp only;omega) _ | refine Below.alloc ?_ (by first | (simp;done) | (simp;omega) | omega) _ | exact Below.refl _ _)) (hb1.mono (by first | (simp;done) | (simp;omega) | omega))
 have K0:Hid (Blk w1 w.heap.size 161 #[.int .i64 x.kind,.string x.pattern.rel,.slice A1 x.pattern.args.length c1]):=Blk.later (Blk.alloc (Blk.alloc (Blk.new _ _ _) _) _) hb1
 have K1:Hid (Blk w1 (w.heap.size+1) 134 #[.int .i64 0,.string ⟨#[]⟩,.slice none 0 0]):=Blk.later (Blk.alloc (Blk.new_at (by simp)) _) hb1
 have K2:Hid (Blk w1 (w.heap.size+1+1) 134 #[.int .i64 x.kind,.string ⟨#[]⟩,.slice none 0 0]):=Blk.later (Blk.new_at (by simp)) hb1
 have f0:=K0.out.at (i:=0) rfl
 have r0:=K1.out.at (i:=0) rfl
 have o0:=K2.out.at (i:=0) rfl
 have rz0:=K1.out.frozen 0
 have oz0:=K2.out.frozen 0
 have f1:=K0.out.at (i:=1) rfl
 have r1:=K1.out.at (i:=1) rfl
 have o1:=K2.out.at (i:=1) rfl
 have rz1:=K1.out.frozen 1
 have oz1:=K2.out.frozen 1
 have f2:=K0.out.at (i:=2) rfl
 have r2:=K1.out.at (i:=2) rfl
 have o2:=K2.out.at (i:=2) rfl
 have rz2:=K1.out.frozen 2
 have oz2:=K2.out.frozen 2
 have hz1:w.heap.size+2<w1.heap.size:=by have:=hb1.size;simp at this;omega
 clear hb1
 go_wp2_with fail
 refine bodyPost_ret (v:=.agg #[.int .i64 x.kind,.string x.pattern.rel,.slice vA1 x.pattern.args.length vc1]) (by simp [results,Tryz.results131,go_sem,r0,r1,r2]) rfl ?_
 obtain ⟨_,_,N1,hcs1,hL1,_,nn1,mm1,ss1⟩:=G1.out.rep
 cases hcs1
 subst hL1
 exact Zfy (wr:=w1) (M1) ⟨⟨vA1,vc1,M1,rfl,rfl,t0,nn1,mm1,ss1⟩,by have o:=G1.out.own;simpa only [List.append_assoc] using o⟩ (by intro b hb;repeat rw [Below.heap_setCell _ _ _ _ (by dsimp only;omega)]) (by repeat (first | refine Below.setCell ?_ (by dsimp only;omega) _ | refine Below.alloc ?_ (by first | (simp;done) | (simp;omega) | omega) _ | exact B1.out))
theorem Tryz.infoAction:(Tryz.prog.info? 134).map (fun i=>(i.zero,i.size,i.bytes))=some (some (.agg #[.int .i64 0,.string ⟨#[]⟩,.slice none 0 0]),3,48):=by kernel_rfl
set_option maxHeartbeats 1600000 in
theorem ZlJ (A:Option Addr) (n c:Nat) (ds:List Zr) (L:List Nat) (w:World) (hn:n=ds.length) (hz:Yg ds≤1048576) (h:Sli Yk w A ds L):
  Calls Tryz.prog 85 #[.slice A n c] w (Zkp Yk 134 w ds):=by
 obtain ⟨i0,hi,hz0,hz1,hz2⟩:=info_parts Tryz.infoAction
 have H:=Lib.hid h
 have HN:=Lib.hid hn
 have hm:n≤1048576:=by simp only [Yg] at hz;omega
 have HZ:=Lib.hid hz
 clear h hn hz
 go_enter Tryz.func85,Tryz.ntmps85
 go_wp2_with (at_make;refine wpList_make_full _ rfl _ _ 80 rfl w.heap.size 134 i0 _ 3 Tryz.underlying80 hi hz0 hz1 .i64 .i64 _ _ n rfl rfl rfl rfl (by rw [hz2];omega) (by unfold maxLen;omega) (Nat.le_refl _) ?_;intro w1 hown hg)
 have hb:Below w.heap.size w w1:=(Below.refl _ _).grown hg (Nat.le_refl _) (by simp)
 have HF0:Hid (Z9 Yk 134 w n ds 0 w1):=Z9.start hown hb
 clear hown hg hb
 go_wp2
 go_loopw [4] (fun i wr=>∃(k:Nat),k≤n∧i=.int .i64 k∧Hid (Z9 Yk 134 w n ds k wr)) (fun i _=>n - (intOf i).toNat)
 case atStart=>exact ⟨0,Nat.zero_le _,rfl,HF0⟩
 case round=>
  obtain ⟨k,hk,rfl,HF⟩:=hrel
  by_cases hlt:k<n
  ·have hkl:k<ds.length:=by have:=HN.out;omega
   obtain ⟨b,off,cs,Lk,rfl,hbL,hLk,hrep,hc⟩:=H.out.at_ hkl
   have hbl:b<w.heap.size:=H.out.lt b hbL
   have HR:=Lib.hid (Yk.keep hrep (ZN HF.out.below (fun y m=>H.out.lt y (hLk y m))))
   obtain ⟨A1,c1,rfl⟩:=Q9 hrep
   have q0:wr.cell? ⟨b,off+k * 3,none⟩=_:=(HF.out.below.cell (p:=⟨b,off+(k * 3+0),none⟩) hbl).trans (hc 0 _ rfl)
   have q1:wr.cell? ⟨b,off+k * 3+1,none⟩=_:=(HF.out.below.cell (p:=⟨b,off+(k * 3+1),none⟩) hbl).trans (hc 1 _ rfl)
   have q2:wr.cell? ⟨b,off+k * 3+2,none⟩=_:=(HF.out.below.cell (p:=⟨b,off+(k * 3+2),none⟩) hbl).trans (hc 2 _ rfl)
   have hcx:Hid (Yl ds[k]≤1048576):=ZjX Yl ds k hkl (by have:=HZ.out;simp only [Yg] at this;omega)
   obtain ⟨x,hx⟩:∃x,x=ds[k]:=⟨_,rfl⟩
   have HX:=Lib.hid hx
   rw [←hx] at HR q0 q1 q2 hcx
   clear hc hrep hx
   go_wp2_with fail
   refine (Znb _ x Lk _ hcx.out HR.out).mono ?_
   rintro e w2 ⟨cs2,M2,rfl,g2,hb2⟩
   have HF2:=Lib.hid (HF.out.later hb2)
   have HS:=Lib.hid (HF.out.store hlt HN.out (fun _=>HX.out) hb2 g2)
   obtain ⟨vA1,vc1,rfl⟩:=Q9 g2.rep
   clear g2 hb2
   obtain ⟨d0,e0⟩:∃d,w2.cell? ⟨w.heap.size,k * 3,none⟩=some d:=HF2.out.cell hlt (j:=0) (by decide)
   have z0:=HF2.out.frozen (k * 3)
   obtain ⟨d1,e1⟩:∃d,w2.cell? ⟨w.heap.size,k * 3+1,none⟩=some d:=HF2.out.cell hlt (j:=1) (by decide)
   have z1:=HF2.out.frozen (k * 3+1)
   obtain ⟨d2,e2⟩:∃d,w2.cell? ⟨w.heap.size,k * 3+2,none⟩=some d:=HF2.out.cell hlt (j:=2) (by decide)
   have z2:=HF2.out.frozen (k * 3+2)
   go_wp2_with fail
   go_roundw
   case rel=>exact ⟨k+1,by omega,by go_num,HS.out⟩
   case measure=>simp [intOf];omega
  ·obtain rfl:k=n:=by omega
   go_wp2
   go_ret
   exact ⟨_,rfl,HF.out.done HN.out⟩
set_option maxHeartbeats 1600000 in
theorem Zqc (cs:List Value) (x:Zf) (L:List Nat) (w:World) (hz:Yq x≤1048576) (h:XU.rep w cs x L):
  Calls Tryz.prog 46 #[.agg cs.toArray] w (Zmx XU w x):=by
 obtain ⟨A1,c1,L1,A2,c2,L2,rfl,_hL,t0,n1,m1,s1,n2,m2,s2⟩:=h
 unfold maxLen at m1 m2
 have S1:=Lib.hid s1
 clear s1
 have S2:=Lib.hid s2
 clear s2
 simp only [Yq] at hz
 go_enter Tryz.func46,Tryz.ntmps46
 go_wp2_with fail
 refine (Zpt A1 _ c1 x.cond L1 _ rfl (by omega) (S1.out.below (by repeat (first | refine Below.setCell ?_ (by dsimp only;omega) _ | refine Below.alloc ?_ (by first | (simp;done) | (simp;omega) | omega) _ | exact Below.refl _ _)))).mono ?_
 rintro e w1 ⟨v1,rfl,a1⟩
 obtain ⟨vA1,vc1,rfl⟩:=a1.shape
 have hb1:=a1.below
 obtain ⟨M1,g1⟩:=a1.got
 clear a1
 have G1:=Lib.hid (g1.mono (show w.heap.size+3≤_ by simp))
 have lt1:=Lib.hid g1.lt
 clear g1
 have B1:Hid (Below w.heap.size w w1):=Below.trans (by repeat (first | refine Below.setCell ?_ (by dsimp only;omega) _ | refine Below.alloc ?_ (by first | (simp;done) | (simp;omega) | omega) _ | exact Below.refl _ _)) (hb1.mono (by first | (simp;done) | (simp;omega) | omega))
 have K0:Hid (Blk w1 w.heap.size 75 #[.string x.name,.int .i64 x.priority,.slice A1 x.cond.length c1,.slice A2 x.thn.length c2]):=Blk.later (Blk.alloc (Blk.alloc (Blk.new _ _ _) _) _) hb1
 have K1:Hid (Blk w1 (w.heap.size+1) 82 #[.string ⟨#[]⟩,.int .i64 0,.slice none 0 0,.slice none 0 0]):=Blk.later (Blk.alloc (Blk.new_at (by simp)) _) hb1
 have K2:Hid (Blk w1 (w.heap.size+1+1) 82 #[.string x.name,.int .i64 x.priority,.slice none 0 0,.slice none 0 0]):=Blk.later (Blk.new_at (by simp)) hb1
 have f0:=K0.out.at (i:=0) rfl
 have r0:=K1.out.at (i:=0) rfl
 have o0:=K2.out.at (i:=0) rfl
 have rz0:=K1.out.frozen 0
 have oz0:=K2.out.frozen 0
 have f1:=K0.out.at (i:=1) rfl
 have r1:=K1.out.at (i:=1) rfl
 have o1:=K2.out.at (i:=1) rfl
 have rz1:=K1.out.frozen 1
 have oz1:=K2.out.frozen 1
 have f2:=K0.out.at (i:=2) rfl
 have r2:=K1.out.at (i:=2) rfl
 have o2:=K2.out.at (i:=2) rfl
 have rz2:=K1.out.frozen 2
 have oz2:=K2.out.frozen 2
 have f3:=K0.out.at (i:=3) rfl
 have r3:=K1.out.at (i:=3) rfl
 have o3:=K2.out.at (i:=3) rfl
 have rz3:=K1.out.frozen 3
 have oz3:=K2.out.frozen 3
 have hz1:w.heap.size+2<w1.heap.size:=by have:=hb1.size;simp at this;omega
 clear hb1
 go_wp2_with fail
 refine (ZlJ A2 _ c2 x.thn L2 _ rfl (by omega) (S2.out.below (by repeat (first | refine Below.setCell ?_ (by dsimp only;omega) _ | refine Below.alloc ?_ (by first | (simp;done) | (simp;omega) | omega) _ | exact B1.out)))).mono ?_
 rintro e w2 ⟨v2,rfl,a2⟩
 obtain ⟨vA2,vc2,rfl⟩:=a2.shape
 have hb2:=a2.below
 obtain ⟨M2,g2⟩:=a2.got
 clear a2
 have G2:=Lib.hid (g2.mono (show w1.heap.size≤_ by simp))
 have lt2:=Lib.hid g2.lt
 clear g2
 have B2:Hid (Below w.heap.size w w2):=Below.trans (by repeat (first | refine Below.setCell ?_ (by dsimp only;omega) _ | refine Below.alloc ?_ (by first | (simp;done) | (simp;omega) | omega) _ | exact B1.out)) (hb2.mono (by first | (simp;done) | (simp;omega) | omega))
 have G1:Hid (Got (ZY XV) (w.heap.size+3) [.slice vA1 x.cond.length vc1] x.cond M1 w2):=Got.later (by repeat (first | refine Got.setCell ?_ (by dsimp only;omega) _ | exact G1.out)) hb2
 have K0:=Lib.hid (Blk.later (Blk.far K0.out (by dsimp only;omega) _) hb2)
 have K1:=Lib.hid (Blk.later (Blk.far K1.out (by dsimp only;omega) _) hb2)
 have K2:=Lib.hid (Blk.later (Blk.set_ K2.out 2 _) hb2)
 clear f0 r0 o0 rz0 oz0 f1 r1 o1 rz1 oz1 f2 r2 o2 rz2 oz2 f3 r3 o3 rz3 oz3
 have f0:=K0.out.at (i:=0) rfl
 have r0:=K1.out.at (i:=0) rfl
 have o0:=K2.out.at (i:=0) rfl
 have rz0:=K1.out.frozen 0
 have oz0:=K2.out.frozen 0
 have f1:=K0.out.at (i:=1) rfl
 have r1:=K1.out.at (i:=1) rfl
 have o1:=K2.out.at (i:=1) rfl
 have rz1:=K1.out.frozen 1
 have oz1:=K2.out.frozen 1
 have f2:=K0.out.at (i:=2) rfl
 have r2:=K1.out.at (i:=2) rfl
 have o2:=K2.out.at (i:=2) rfl
 have rz2:=K1.out.frozen 2
 have oz2:=K2.out.frozen 2
 have f3:=K0.out.at (i:=3) rfl
 have r3:=K1.out.at (i:=3) rfl
 have o3:=K2.out.at (i:=3) rfl
 have rz3:=K1.out.frozen 3
 have oz3:=K2.out.frozen 3
 have hz2:w.heap.size+2<w2.heap.size:=by have:=hb2.size;simp at this;omega
 have hy2:w1.heap.size≤w2.heap.size:=by have:=hb2.size;simp at this;omega
 clear hb2
 go_wp2_with fail
 refine bodyPost_ret (v:=.agg #[.string x.name,.int .i64 x.priority,.slice vA1 x.cond.length vc1,.slice vA2 x.thn.length vc2]) (by simp [results,Tryz.results46,go_sem,r0,r1,r2,r3]) rfl ?_
 obtain ⟨nn1,mm1,ss1⟩:=ZU G1.out.rep
 obtain ⟨nn2,mm2,ss2⟩:=ZU G2.out.rep
 exact Zfy (wr:=w2) (M1++M2) ⟨⟨vA1,vc1,M1,vA2,vc2,M2,rfl,rfl,t0,nn1,mm1,ss1,nn2,mm2,ss2⟩,by have o:=(Own.append G1.out.own G2.out.own (by omega) lt1.out);simpa only [List.append_assoc] using o⟩ (by intro b hb;repeat rw [Below.heap_setCell _ _ _ _ (by dsimp only;omega)]) (by repeat (first | refine Below.setCell ?_ (by dsimp only;omega) _ | refine Below.alloc ?_ (by first | (simp;done) | (simp;omega) | omega) _ | exact B2.out))
theorem Tryz.infoRule:(Tryz.prog.info? 82).map (fun i=>(i.zero,i.size,i.bytes))=some (some (.agg #[.string ⟨#[]⟩,.int .i64 0,.slice none 0 0,.slice none 0 0]),4,72):=by kernel_rfl
set_option maxHeartbeats 1600000 in
theorem Zdw (A:Option Addr) (n c:Nat) (ds:List Zf) (L:List Nat) (w:World) (hn:n=ds.length) (hz:Yj ds≤1048576) (h:Sli XU w A ds L):
  Calls Tryz.prog 12 #[.slice A n c] w (Zkp XU 82 w ds):=by
 obtain ⟨i0,hi,hz0,hz1,hz2⟩:=info_parts Tryz.infoRule
 have H:=Lib.hid h
 have HN:=Lib.hid hn
 have hm:n≤1048576:=by simp only [Yj] at hz;omega
 have HZ:=Lib.hid hz
 clear h hn hz
 go_enter Tryz.func12,Tryz.ntmps12
 go_wp2_with (at_make;refine wpList_make_full _ rfl _ _ 32 rfl w.heap.size 82 i0 _ 4 Tryz.underlying32 hi hz0 hz1 .i64 .i64 _ _ n rfl rfl rfl rfl (by rw [hz2];omega) (by unfold maxLen;omega) (Nat.le_refl _) ?_;intro w1 hown hg)
 have hb:Below w.heap.size w w1:=(Below.refl _ _).grown hg (Nat.le_refl _) (by simp)
 have HF0:Hid (Z9 XU 82 w n ds 0 w1):=Z9.start hown hb
 clear hown hg hb
 go_wp2
 go_loopw [4] (fun i wr=>∃(k:Nat),k≤n∧i=.int .i64 k∧Hid (Z9 XU 82 w n ds k wr)) (fun i _=>n - (intOf i).toNat)
 case atStart=>exact ⟨0,Nat.zero_le _,rfl,HF0⟩
 case round=>
  obtain ⟨k,hk,rfl,HF⟩:=hrel
  by_cases hlt:k<n
  ·have hkl:k<ds.length:=by have:=HN.out;omega
   obtain ⟨b,off,cs,Lk,rfl,hbL,hLk,hrep,hc⟩:=H.out.at_ hkl
   have hbl:b<w.heap.size:=H.out.lt b hbL
   have HR:=Lib.hid (XU.keep hrep (ZN HF.out.below (fun y m=>H.out.lt y (hLk y m))))
   obtain ⟨A1,c1,A2,c2,rfl⟩:=Zb5 hrep
   have q0:wr.cell? ⟨b,off+k * 4,none⟩=_:=(HF.out.below.cell (p:=⟨b,off+(k * 4+0),none⟩) hbl).trans (hc 0 _ rfl)
   have q1:wr.cell? ⟨b,off+k * 4+1,none⟩=_:=(HF.out.below.cell (p:=⟨b,off+(k * 4+1),none⟩) hbl).trans (hc 1 _ rfl)
   have q2:wr.cell? ⟨b,off+k * 4+2,none⟩=_:=(HF.out.below.cell (p:=⟨b,off+(k * 4+2),none⟩) hbl).trans (hc 2 _ rfl)
   have q3:wr.cell? ⟨b,off+k * 4+3,none⟩=_:=(HF.out.below.cell (p:=⟨b,off+(k * 4+3),none⟩) hbl).trans (hc 3 _ rfl)
   have hcx:Hid (Yq ds[k]≤1048576):=ZjX Yq ds k hkl (by have:=HZ.out;simp only [Yj] at this;omega)
   obtain ⟨x,hx⟩:∃x,x=ds[k]:=⟨_,rfl⟩
   have HX:=Lib.hid hx
   rw [←hx] at HR q0 q1 q2 q3 hcx
   clear hc hrep hx
   go_wp2_with fail
   refine (Zqc _ x Lk _ hcx.out HR.out).mono ?_
   rintro e w2 ⟨cs2,M2,rfl,g2,hb2⟩
   have HF2:=Lib.hid (HF.out.later hb2)
   have HS:=Lib.hid (HF.out.store hlt HN.out (fun _=>HX.out) hb2 g2)
   obtain ⟨vA1,vc1,vA2,vc2,rfl⟩:=Zb5 g2.rep
   clear g2 hb2
   obtain ⟨d0,e0⟩:∃d,w2.cell? ⟨w.heap.size,k * 4,none⟩=some d:=HF2.out.cell hlt (j:=0) (by decide)
   have z0:=HF2.out.frozen (k * 4)
   obtain ⟨d1,e1⟩:∃d,w2.cell? ⟨w.heap.size,k * 4+1,none⟩=some d:=HF2.out.cell hlt (j:=1) (by decide)
   have z1:=HF2.out.frozen (k * 4+1)
   obtain ⟨d2,e2⟩:∃d,w2.cell? ⟨w.heap.size,k * 4+2,none⟩=some d:=HF2.out.cell hlt (j:=2) (by decide)
   have z2:=HF2.out.frozen (k * 4+2)
   obtain ⟨d3,e3⟩:∃d,w2.cell? ⟨w.heap.size,k * 4+3,none⟩=some d:=HF2.out.cell hlt (j:=3) (by decide)
   have z3:=HF2.out.frozen (k * 4+3)
   go_wp2_with fail
   go_roundw
   case rel=>exact ⟨k+1,by omega,by go_num,HS.out⟩
   case measure=>simp [intOf];omega
  ·obtain rfl:k=n:=by omega
   go_wp2
   go_ret
   exact ⟨_,rfl,HF.out.done HN.out⟩
end Go.Proofs.YtojnhepgnbhaaaaGreatDoor
namespace Go.Proofs.YtojnhepgnbhaaaaGreatDoor
open Go.RowKit
def XJ (w:World) (e:Ending) (w':World):Prop:=e=.returned (.bool true)∧Below w.heap.size w w'
set_option maxHeartbeats 1600000 in
theorem Zgw (A B:Option Addr) (n c d:Nat) (ds:List ByteArray) (L M:List Nat) (w:World) (hn:n=ds.length) (hm:n≤9223372036854775807) (h1:Sli Zbm w A ds L) (h2:Sli Zbm w B ds M):
  Calls Tryz.prog 65 #[.slice A n c,.slice B n d] w (XJ w):=by
 have H1:=Lib.hid h1
 have H2:=Lib.hid h2
 have HN:=Lib.hid hn
 clear h1 h2 hn
 have hne:((n:Int) != n)=false:=by simp
 go_enter Tryz.func65,Tryz.ntmps65
 go_wp2
 go_loopw [5] (fun i wr=>∃(k:Nat),k≤n∧i=.int .i64 k∧Hid (∃q,wr=w.drewN q)) (fun i _=>n - (intOf i).toNat)
 case atStart=>exact ⟨0,Nat.zero_le _,rfl,0,rfl⟩
 case round=>
  obtain ⟨k,hk,rfl,hq⟩:=hrel
  obtain ⟨q,rfl⟩:=hq.out
  by_cases hlt:k<n
  ·have hkl:k<ds.length:=by have:=HN.out;omega
   obtain ⟨b,off,cs,Lk,rfl,_,_,hrep,hc⟩:=H1.out.at_ hkl
   obtain ⟨b',off',cs',Mk,rfl,_,_,hrep',hc'⟩:=H2.out.at_ hkl
   generalize ds[k]=x at *
   obtain ⟨rfl,_,_⟩:=hrep
   obtain ⟨rfl,_,_⟩:=hrep'
   have q0:=hc 0 _ rfl
   have p0:=hc' 0 _ rfl
   simp only [show Zbm.size=1 from rfl,Nat.mul_one,Nat.add_zero] at q0 p0
   clear hc hc'
   have k0:(0:Int)≤k:=by omega
   have k1:(k:Int)<n:=by omega
   go_wp2_with fail
   go_quiet (fail)
   go_wp2_with fail
   go_roundw
   case rel=>exact ⟨k+1,by omega,by go_num,by first | exact ZqK _ _ _ | exact Zpj _ _⟩
   case measure=>simp [intOf];omega
  ·go_wp2
   go_ret
   exact ⟨rfl,ZfN _ _ _⟩
set_option maxHeartbeats 1600000 in
theorem ZpY (cs ds:List Value) (x:Zc) (L M:List Nat) (w:World) (h1:Y4.rep w cs x L) (h2:Y4.rep w ds x M):
  Calls Tryz.prog 35 #[.agg cs.toArray,.agg ds.toArray] w (XJ w):=by
 obtain ⟨aA1,ac1,aL1,rfl,_ahL,at0,an1,am1,as1⟩:=h1
 obtain ⟨bA1,bc1,bL1,rfl,_bhL,bt0,bn1,bm1,bs1⟩:=h2
 unfold maxLen at am1 bm1
 have SA1:=Lib.hid as1
 have SB1:=Lib.hid bs1
 clear as1 bs1
 go_enter Tryz.func35,Tryz.ntmps35
 go_wp2_with fail
 refine (Zgw aA1 bA1 _ ac1 bc1 x.args aL1 bL1 _ rfl (by omega) (SA1.out.below (by repeat (first | refine Below.setCell ?_ (by dsimp only;omega) _ | refine Below.alloc ?_ (by first | (simp;done) | (simp;omega) | omega) _ | exact Below.refl _ _))) (SB1.out.below (by repeat (first | refine Below.setCell ?_ (by dsimp only;omega) _ | refine Below.alloc ?_ (by first | (simp;done) | (simp;omega) | omega) _ | exact Below.refl _ _)))).mono ?_
 rintro e w1 ⟨rfl,hb1⟩
 have B1:Hid (Below w.heap.size w w1):=Below.trans (by repeat (first | refine Below.setCell ?_ (by dsimp only;omega) _ | refine Below.alloc ?_ (by first | (simp;done) | (simp;omega) | omega) _ | exact Below.refl _ _)) (hb1.mono (by first | (simp;done) | (simp;omega) | omega))
 have K0:Hid (Blk w1 w.heap.size 57 #[.string x.rel,.slice aA1 x.args.length ac1]):=Blk.later (Blk.alloc (Blk.new _ _ _) _) hb1
 have K1:Hid (Blk w1 (w.heap.size+1) 57 #[.string x.rel,.slice bA1 x.args.length bc1]):=Blk.later (Blk.new_at (by simp)) hb1
 have f0:=K0.out.at (i:=0) rfl
 have r0:=K1.out.at (i:=0) rfl
 have f1:=K0.out.at (i:=1) rfl
 have r1:=K1.out.at (i:=1) rfl
 clear hb1
 have hz1:=B1.out.size
 go_wp2_with fail
 go_ret
 exact ⟨rfl,(by repeat (first | refine Below.setCell ?_ (by dsimp only;omega) _ | refine Below.alloc ?_ (by first | (simp;done) | (simp;omega) | omega) _ | exact B1.out))⟩
set_option maxRecDepth 100000 in
set_option maxHeartbeats 1600000 in
theorem ZdB (A B:Option Addr) (n c d:Nat) (ds:List Zc) (L M:List Nat) (w:World) (hn:n=ds.length) (hm:n≤9223372036854775807) (h1:Sli Y4 w A ds L) (h2:Sli Y4 w B ds M):
  Calls Tryz.prog 15 #[.slice A n c,.slice B n d] w (XJ w):=by
 have H1:=Lib.hid h1
 have H2:=Lib.hid h2
 have HN:=Lib.hid hn
 clear h1 h2 hn
 have hne:((n:Int) != n)=false:=by simp
 go_enter Tryz.func15,Tryz.ntmps15
 go_wp2
 go_loopw [5] (fun i wr=>∃(k:Nat),k≤n∧i=.int .i64 k∧Hid (Below w.heap.size w wr)) (fun i _=>n - (intOf i).toNat)
 case atStart=>exact ⟨0,Nat.zero_le _,rfl,Below.refl _ _⟩
 case round=>
  obtain ⟨k,hk,rfl,HB⟩:=hrel
  by_cases hlt:k<n
  ·have hkl:k<ds.length:=by have:=HN.out;omega
   obtain ⟨b,off,cs,Lk,rfl,hbL,hLk,hrep,hc⟩:=H1.out.at_ hkl
   obtain ⟨b',off',cs',Mk,rfl,hbM,hMk,hrep',hc'⟩:=H2.out.at_ hkl
   have hbl:b<w.heap.size:=H1.out.lt b hbL
   have hbl':b'<w.heap.size:=H2.out.lt b' hbM
   have HR:=Lib.hid (Y4.keep hrep (ZN HB.out (fun y m=>H1.out.lt y (hLk y m))))
   have HR':=Lib.hid (Y4.keep hrep' (ZN HB.out (fun y m=>H2.out.lt y (hMk y m))))
   generalize ds[k]=x at *
   obtain ⟨aA1,ac1,rfl⟩:=Zcc hrep
   obtain ⟨bA1,bc1,rfl⟩:=Zcc hrep'
   have q0:wr.cell? ⟨b,off+k * 2,none⟩=_:=(HB.out.cell (p:=⟨b,off+(k * 2+0),none⟩) hbl).trans (hc 0 _ rfl)
   have p0:wr.cell? ⟨b',off'+k * 2,none⟩=_:=(HB.out.cell (p:=⟨b',off'+(k * 2+0),none⟩) hbl').trans (hc' 0 _ rfl)
   have q1:wr.cell? ⟨b,off+k * 2+1,none⟩=_:=(HB.out.cell (p:=⟨b,off+(k * 2+1),none⟩) hbl).trans (hc 1 _ rfl)
   have p1:wr.cell? ⟨b',off'+k * 2+1,none⟩=_:=(HB.out.cell (p:=⟨b',off'+(k * 2+1),none⟩) hbl').trans (hc' 1 _ rfl)
   clear hc hc' hrep hrep'
   have k0:(0:Int)≤k:=by omega
   have k1:(k:Int)<n:=by omega
   go_wp2_with fail
   go_still_tail 8,(by kernel_rfl)
   change wpList _ _ _ _ _ wr.drew
   go_wp2_with (go_at_call 35;(refine (ZpY _ _ x Lk Mk wr.drew (Y4.keep HR.out (fun _ _=>rfl)) (Y4.keep HR'.out (fun _ _=>rfl))).mono ?_;rintro e w1 ⟨rfl,hb1⟩;have HB1:=Lib.hid (HB.out.drew.trans (hb1.mono HB.out.size));clear hb1))
   go_roundw
   case rel=>exact ⟨k+1,by omega,by go_num,HB1.out⟩
   case measure=>simp [intOf];omega
  ·go_wp2
   go_ret
   exact ⟨rfl,HB.out⟩
set_option maxHeartbeats 1600000 in
theorem ZgT (cs ds:List Value) (x:Zv) (L M:List Nat) (w:World) (h1:ZcY.rep w cs x L) (h2:ZcY.rep w ds x M):
  Calls Tryz.prog 29 #[.agg cs.toArray,.agg ds.toArray] w (XJ w):=by
 obtain ⟨aA1,ac1,aL1,rfl,_ahL,at0,an1,am1,as1⟩:=h1
 obtain ⟨bA1,bc1,bL1,rfl,_bhL,bt0,bn1,bm1,bs1⟩:=h2
 unfold maxLen at am1 bm1
 have SA1:=Lib.hid as1
 have SB1:=Lib.hid bs1
 clear as1 bs1
 go_enter Tryz.func29,Tryz.ntmps29
 go_wp2_with fail
 refine (Zgw aA1 bA1 _ ac1 bc1 x.args aL1 bL1 _ rfl (by omega) (SA1.out.below (by repeat (first | refine Below.setCell ?_ (by dsimp only;omega) _ | refine Below.alloc ?_ (by first | (simp;done) | (simp;omega) | omega) _ | exact Below.refl _ _))) (SB1.out.below (by repeat (first | refine Below.setCell ?_ (by dsimp only;omega) _ | refine Below.alloc ?_ (by first | (simp;done) | (simp;omega) | omega) _ | exact Below.refl _ _)))).mono ?_
 rintro e w1 ⟨rfl,hb1⟩
 have B1:Hid (Below w.heap.size w w1):=Below.trans (by repeat (first | refine Below.setCell ?_ (by dsimp only;omega) _ | refine Below.alloc ?_ (by first | (simp;done) | (simp;omega) | omega) _ | exact Below.refl _ _)) (hb1.mono (by first | (simp;done) | (simp;omega) | omega))
 have K0:Hid (Blk w1 w.heap.size 49 #[.string x.rel,.slice aA1 x.args.length ac1]):=Blk.later (Blk.alloc (Blk.new _ _ _) _) hb1
 have K1:Hid (Blk w1 (w.heap.size+1) 49 #[.string x.rel,.slice bA1 x.args.length bc1]):=Blk.later (Blk.new_at (by simp)) hb1
 have f0:=K0.out.at (i:=0) rfl
 have r0:=K1.out.at (i:=0) rfl
 have f1:=K0.out.at (i:=1) rfl
 have r1:=K1.out.at (i:=1) rfl
 clear hb1
 have hz1:=B1.out.size
 go_wp2_with fail
 go_ret
 exact ⟨rfl,(by repeat (first | refine Below.setCell ?_ (by dsimp only;omega) _ | refine Below.alloc ?_ (by first | (simp;done) | (simp;omega) | omega) _ | exact B1.out))⟩
set_option maxHeartbeats 1600000 in
theorem ZpW (cs ds:List Value) (x:Zm) (L M:List Nat) (w:World) (h1:XV.rep w cs x L) (h2:XV.rep w ds x M):
  Calls Tryz.prog 141 #[.agg cs.toArray,.agg ds.toArray] w (XJ w):=by
 obtain ⟨aA1,ac1,aL1,rfl,_ahL,at0,at1,at2,an1,am1,as1⟩:=h1
 obtain ⟨bA1,bc1,bL1,rfl,_bhL,bt0,bt1,bt2,bn1,bm1,bs1⟩:=h2
 unfold maxLen at am1 bm1
 have SA1:=Lib.hid as1
 have SB1:=Lib.hid bs1
 clear as1 bs1
 go_enter Tryz.func141,Tryz.ntmps141
 go_wp2_with fail
 refine (ZgT [.string x.pattern.rel,.slice aA1 x.pattern.args.length ac1] [.string x.pattern.rel,.slice bA1 x.pattern.args.length bc1] x.pattern _ _ _ ⟨aA1,ac1,aL1,rfl,rfl,at0,an1,(by unfold maxLen;omega),SA1.out.below (by repeat (first | refine Below.setCell ?_ (by dsimp only;omega) _ | refine Below.alloc ?_ (by first | (simp;done) | (simp;omega) | omega) _ | exact Below.refl _ _))⟩ ⟨bA1,bc1,bL1,rfl,rfl,bt0,bn1,(by unfold maxLen;omega),SB1.out.below (by repeat (first | refine Below.setCell ?_ (by dsimp only;omega) _ | refine Below.alloc ?_ (by first | (simp;done) | (simp;omega) | omega) _ | exact Below.refl _ _))⟩).mono ?_
 rintro e w1 ⟨rfl,hb1⟩
 have B1:Hid (Below w.heap.size w w1):=Below.trans (by repeat (first | refine Below.setCell ?_ (by dsimp only;omega) _ | refine Below.alloc ?_ (by first | (simp;done) | (simp;omega) | omega) _ | exact Below.refl _ _)) (hb1.mono (by first | (simp;done) | (simp;omega) | omega))
 have K0:Hid (Blk w1 w.heap.size 130 #[.int .i64 x.kind,.string x.pattern.rel,.slice aA1 x.pattern.args.length ac1,.string x.left,.string x.right]):=Blk.later (Blk.alloc (Blk.new _ _ _) _) hb1
 have K1:Hid (Blk w1 (w.heap.size+1) 130 #[.int .i64 x.kind,.string x.pattern.rel,.slice bA1 x.pattern.args.length bc1,.string x.left,.string x.right]):=Blk.later (Blk.new_at (by simp)) hb1
 have f0:=K0.out.at (i:=0) rfl
 have r0:=K1.out.at (i:=0) rfl
 have f1:=K0.out.at (i:=1) rfl
 have r1:=K1.out.at (i:=1) rfl
 have f2:=K0.out.at (i:=2) rfl
 have r2:=K1.out.at (i:=2) rfl
 have f3:=K0.out.at (i:=3) rfl
 have r3:=K1.out.at (i:=3) rfl
 have f4:=K0.out.at (i:=4) rfl
 have r4:=K1.out.at (i:=4) rfl
 clear hb1
 have hz1:=B1.out.size
 go_wp2_with fail
 go_ret
 exact ⟨rfl,(by repeat (first | refine Below.setCell ?_ (by dsimp only;omega) _ | refine Below.alloc ?_ (by first | (simp;done) | (simp;omega) | omega) _ | exact B1.out))⟩
set_option maxRecDepth 100000 in
set_option maxHeartbeats 1600000 in
theorem Zoo (A B:Option Addr) (n c d:Nat) (ds:List Zm) (L M:List Nat) (w:World) (hn:n=ds.length) (hm:n≤9223372036854775807) (h1:Sli XV w A ds L) (h2:Sli XV w B ds M):
  Calls Tryz.prog 93 #[.slice A n c,.slice B n d] w (XJ w):=by
 have H1:=Lib.hid h1
 have H2:=Lib.hid h2
 have HN:=Lib.hid hn
 clear h1 h2 hn
 have hne:((n:Int) != n)=false:=by simp
 go_enter Tryz.func93,Tryz.ntmps93
 go_wp2
 go_loopw [5] (fun i wr=>∃(k:Nat),k≤n∧i=.int .i64 k∧Hid (Below w.heap.size w wr)) (fun i _=>n - (intOf i).toNat)
 case atStart=>exact ⟨0,Nat.zero_le _,rfl,Below.refl _ _⟩
 case round=>
  obtain ⟨k,hk,rfl,HB⟩:=hrel
  by_cases hlt:k<n
  ·have hkl:k<ds.length:=by have:=HN.out;omega
   obtain ⟨b,off,cs,Lk,rfl,hbL,hLk,hrep,hc⟩:=H1.out.at_ hkl
   obtain ⟨b',off',cs',Mk,rfl,hbM,hMk,hrep',hc'⟩:=H2.out.at_ hkl
   have hbl:b<w.heap.size:=H1.out.lt b hbL
   have hbl':b'<w.heap.size:=H2.out.lt b' hbM
   have HR:=Lib.hid (XV.keep hrep (ZN HB.out (fun y m=>H1.out.lt y (hLk y m))))
   have HR':=Lib.hid (XV.keep hrep' (ZN HB.out (fun y m=>H2.out.lt y (hMk y m))))
   generalize ds[k]=x at *
   obtain ⟨aA1,ac1,rfl⟩:=Zcb hrep
   obtain ⟨bA1,bc1,rfl⟩:=Zcb hrep'
   have q0:wr.cell? ⟨b,off+k * 5,none⟩=_:=(HB.out.cell (p:=⟨b,off+(k * 5+0),none⟩) hbl).trans (hc 0 _ rfl)
   have p0:wr.cell? ⟨b',off'+k * 5,none⟩=_:=(HB.out.cell (p:=⟨b',off'+(k * 5+0),none⟩) hbl').trans (hc' 0 _ rfl)
   have q1:wr.cell? ⟨b,off+k * 5+1,none⟩=_:=(HB.out.cell (p:=⟨b,off+(k * 5+1),none⟩) hbl).trans (hc 1 _ rfl)
   have p1:wr.cell? ⟨b',off'+k * 5+1,none⟩=_:=(HB.out.cell (p:=⟨b',off'+(k * 5+1),none⟩) hbl').trans (hc' 1 _ rfl)
   have q2:wr.cell? ⟨b,off+k * 5+2,none⟩=_:=(HB.out.cell (p:=⟨b,off+(k * 5+2),none⟩) hbl).trans (hc 2 _ rfl)
   have p2:wr.cell? ⟨b',off'+k * 5+2,none⟩=_:=(HB.out.cell (p:=⟨b',off'+(k * 5+2),none⟩) hbl').trans (hc' 2 _ rfl)
   have q3:wr.cell? ⟨b,off+k * 5+3,none⟩=_:=(HB.out.cell (p:=⟨b,off+(k * 5+3),none⟩) hbl).trans (hc 3 _ rfl)
   have p3:wr.cell? ⟨b',off'+k * 5+3,none⟩=_:=(HB.out.cell (p:=⟨b',off'+(k * 5+3),none⟩) hbl').trans (hc' 3 _ rfl)
   have q4:wr.cell? ⟨b,off+k * 5+4,none⟩=_:=(HB.out.cell (p:=⟨b,off+(k * 5+4),none⟩) hbl).trans (hc 4 _ rfl)
   have p4:wr.cell? ⟨b',off'+k * 5+4,none⟩=_:=(HB.out.cell (p:=⟨b',off'+(k * 5+4),none⟩) hbl').trans (hc' 4 _ rfl)
   clear hc hc' hrep hrep'
   have k0:(0:Int)≤k:=by omega
   have k1:(k:Int)<n:=by omega
   go_wp2_with fail
   go_still_tail 8,(by kernel_rfl)
   change wpList _ _ _ _ _ wr.drew
   go_wp2_with (go_at_call 141;(refine (ZpW _ _ x Lk Mk wr.drew (XV.keep HR.out (fun _ _=>rfl)) (XV.keep HR'.out (fun _ _=>rfl))).mono ?_;rintro e w1 ⟨rfl,hb1⟩;have HB1:=Lib.hid (HB.out.drew.trans (hb1.mono HB.out.size));clear hb1))
   go_roundw
   case rel=>exact ⟨k+1,by omega,by go_num,HB1.out⟩
   case measure=>simp [intOf];omega
  ·go_wp2
   go_ret
   exact ⟨rfl,HB.out⟩
set_option maxHeartbeats 1600000 in
theorem Zm8 (cs ds:List Value) (x:Zr) (L M:List Nat) (w:World) (h1:Yk.rep w cs x L) (h2:Yk.rep w ds x M):
  Calls Tryz.prog 142 #[.agg cs.toArray,.agg ds.toArray] w (XJ w):=by
 obtain ⟨aA1,ac1,aL1,rfl,_ahL,at0,an1,am1,as1⟩:=h1
 obtain ⟨bA1,bc1,bL1,rfl,_bhL,bt0,bn1,bm1,bs1⟩:=h2
 unfold maxLen at am1 bm1
 have SA1:=Lib.hid as1
 have SB1:=Lib.hid bs1
 clear as1 bs1
 go_enter Tryz.func142,Tryz.ntmps142
 go_wp2_with fail
 refine (ZgT [.string x.pattern.rel,.slice aA1 x.pattern.args.length ac1] [.string x.pattern.rel,.slice bA1 x.pattern.args.length bc1] x.pattern _ _ _ ⟨aA1,ac1,aL1,rfl,rfl,at0,an1,(by unfold maxLen;omega),SA1.out.below (by repeat (first | refine Below.setCell ?_ (by dsimp only;omega) _ | refine Below.alloc ?_ (by first | (simp;done) | (simp;omega) | omega) _ | exact Below.refl _ _))⟩ ⟨bA1,bc1,bL1,rfl,rfl,bt0,bn1,(by unfold maxLen;omega),SB1.out.below (by repeat (first | refine Below.setCell ?_ (by dsimp only;omega) _ | refine Below.alloc ?_ (by first | (simp;done) | (simp;omega) | omega) _ | exact Below.refl _ _))⟩).mono ?_
 rintro e w1 ⟨rfl,hb1⟩
 have B1:Hid (Below w.heap.size w w1):=Below.trans (by repeat (first | refine Below.setCell ?_ (by dsimp only;omega) _ | refine Below.alloc ?_ (by first | (simp;done) | (simp;omega) | omega) _ | exact Below.refl _ _)) (hb1.mono (by first | (simp;done) | (simp;omega) | omega))
 have K0:Hid (Blk w1 w.heap.size 134 #[.int .i64 x.kind,.string x.pattern.rel,.slice aA1 x.pattern.args.length ac1]):=Blk.later (Blk.alloc (Blk.new _ _ _) _) hb1
 have K1:Hid (Blk w1 (w.heap.size+1) 134 #[.int .i64 x.kind,.string x.pattern.rel,.slice bA1 x.pattern.args.length bc1]):=Blk.later (Blk.new_at (by simp)) hb1
 have f0:=K0.out.at (i:=0) rfl
 have r0:=K1.out.at (i:=0) rfl
 have f1:=K0.out.at (i:=1) rfl
 have r1:=K1.out.at (i:=1) rfl
 have f2:=K0.out.at (i:=2) rfl
 have r2:=K1.out.at (i:=2) rfl
 clear hb1
 have hz1:=B1.out.size
 go_wp2_with fail
 go_ret
 exact ⟨rfl,(by repeat (first | refine Below.setCell ?_ (by dsimp only;omega) _ | refine Below.alloc ?_ (by first | (simp;done) | (simp;omega) | omega) _ | exact B1.out))⟩
set_option maxRecDepth 100000 in
set_option maxHeartbeats 1600000 in
theorem ZlT (A B:Option Addr) (n c d:Nat) (ds:List Zr) (L M:List Nat) (w:World) (hn:n=ds.length) (hm:n≤9223372036854775807) (h1:Sli Yk w A ds L) (h2:Sli Yk w B ds M):
  Calls Tryz.prog 94 #[.slice A n c,.slice B n d] w (XJ w):=by
 have H1:=Lib.hid h1
 have H2:=Lib.hid h2
 have HN:=Lib.hid hn
 clear h1 h2 hn
 have hne:((n:Int) != n)=false:=by simp
 go_enter Tryz.func94,Tryz.ntmps94
 go_wp2
 go_loopw [5] (fun i wr=>∃(k:Nat),k≤n∧i=.int .i64 k∧Hid (Below w.heap.size w wr)) (fun i _=>n - (intOf i).toNat)
 case atStart=>exact ⟨0,Nat.zero_le _,rfl,Below.refl _ _⟩
 case round=>
  obtain ⟨k,hk,rfl,HB⟩:=hrel
  by_cases hlt:k<n
  ·have hkl:k<ds.length:=by have:=HN.out;omega
   obtain ⟨b,off,cs,Lk,rfl,hbL,hLk,hrep,hc⟩:=H1.out.at_ hkl
   obtain ⟨b',off',cs',Mk,rfl,hbM,hMk,hrep',hc'⟩:=H2.out.at_ hkl
   have hbl:b<w.heap.size:=H1.out.lt b hbL
   have hbl':b'<w.heap.size:=H2.out.lt b' hbM
   have HR:=Lib.hid (Yk.keep hrep (ZN HB.out (fun y m=>H1.out.lt y (hLk y m))))
   have HR':=Lib.hid (Yk.keep hrep' (ZN HB.out (fun y m=>H2.out.lt y (hMk y m))))
   generalize ds[k]=x at *
   obtain ⟨aA1,ac1,rfl⟩:=Q9 hrep
   obtain ⟨bA1,bc1,rfl⟩:=Q9 hrep'
   have q0:wr.cell? ⟨b,off+k * 3,none⟩=_:=(HB.out.cell (p:=⟨b,off+(k * 3+0),none⟩) hbl).trans (hc 0 _ rfl)
   have p0:wr.cell? ⟨b',off'+k * 3,none⟩=_:=(HB.out.cell (p:=⟨b',off'+(k * 3+0),none⟩) hbl').trans (hc' 0 _ rfl)
   have q1:wr.cell? ⟨b,off+k * 3+1,none⟩=_:=(HB.out.cell (p:=⟨b,off+(k * 3+1),none⟩) hbl).trans (hc 1 _ rfl)
   have p1:wr.cell? ⟨b',off'+k * 3+1,none⟩=_:=(HB.out.cell (p:=⟨b',off'+(k * 3+1),none⟩) hbl').trans (hc' 1 _ rfl)
   have q2:wr.cell? ⟨b,off+k * 3+2,none⟩=_:=(HB.out.cell (p:=⟨b,off+(k * 3+2),none⟩) hbl).trans (hc 2 _ rfl)
   have p2:wr.cell? ⟨b',off'+k * 3+2,none⟩=_:=(HB.out.cell (p:=⟨b',off'+(k * 3+2),none⟩) hbl').trans (hc' 2 _ rfl)
   clear hc hc' hrep hrep'
   have k0:(0:Int)≤k:=by omega
   have k1:(k:Int)<n:=by omega
   go_wp2_with fail
   go_still_tail 8,(by kernel_rfl)
   change wpList _ _ _ _ _ wr.drew
   go_wp2_with (go_at_call 142;(refine (Zm8 _ _ x Lk Mk wr.drew (Yk.keep HR.out (fun _ _=>rfl)) (Yk.keep HR'.out (fun _ _=>rfl))).mono ?_;rintro e w1 ⟨rfl,hb1⟩;have HB1:=Lib.hid (HB.out.drew.trans (hb1.mono HB.out.size));clear hb1))
   go_roundw
   case rel=>exact ⟨k+1,by omega,by go_num,HB1.out⟩
   case measure=>simp [intOf];omega
  ·go_wp2
   go_ret
   exact ⟨rfl,HB.out⟩
set_option maxHeartbeats 1600000 in
theorem ZpF (cs ds:List Value) (x:Zf) (L M:List Nat) (w:World) (h1:XU.rep w cs x L) (h2:XU.rep w ds x M):
  Calls Tryz.prog 49 #[.agg cs.toArray,.agg ds.toArray] w (XJ w):=by
 obtain ⟨aA1,ac1,aL1,aA2,ac2,aL2,rfl,_ahL,at0,an1,am1,as1,an2,am2,as2⟩:=h1
 obtain ⟨bA1,bc1,bL1,bA2,bc2,bL2,rfl,_bhL,bt0,bn1,bm1,bs1,bn2,bm2,bs2⟩:=h2
 unfold maxLen at am1 bm1 am2 bm2
 have SA1:=Lib.hid as1
 have SB1:=Lib.hid bs1
 clear as1 bs1
 have SA2:=Lib.hid as2
 have SB2:=Lib.hid bs2
 clear as2 bs2
 go_enter Tryz.func49,Tryz.ntmps49
 go_wp2_with fail
 refine (Zoo aA1 bA1 _ ac1 bc1 x.cond aL1 bL1 _ rfl (by omega) (SA1.out.below (by repeat (first | refine Below.setCell ?_ (by dsimp only;omega) _ | refine Below.alloc ?_ (by first | (simp;done) | (simp;omega) | omega) _ | exact Below.refl _ _))) (SB1.out.below (by repeat (first | refine Below.setCell ?_ (by dsimp only;omega) _ | refine Below.alloc ?_ (by first | (simp;done) | (simp;omega) | omega) _ | exact Below.refl _ _)))).mono ?_
 rintro e w1 ⟨rfl,hb1⟩
 have B1:Hid (Below w.heap.size w w1):=Below.trans (by repeat (first | refine Below.setCell ?_ (by dsimp only;omega) _ | refine Below.alloc ?_ (by first | (simp;done) | (simp;omega) | omega) _ | exact Below.refl _ _)) (hb1.mono (by first | (simp;done) | (simp;omega) | omega))
 have K0:Hid (Blk w1 w.heap.size 82 #[.string x.name,.int .i64 x.priority,.slice aA1 x.cond.length ac1,.slice aA2 x.thn.length ac2]):=Blk.later (Blk.alloc (Blk.new _ _ _) _) hb1
 have K1:Hid (Blk w1 (w.heap.size+1) 82 #[.string x.name,.int .i64 x.priority,.slice bA1 x.cond.length bc1,.slice bA2 x.thn.length bc2]):=Blk.later (Blk.new_at (by simp)) hb1
 have f0:=K0.out.at (i:=0) rfl
 have r0:=K1.out.at (i:=0) rfl
 have f1:=K0.out.at (i:=1) rfl
 have r1:=K1.out.at (i:=1) rfl
 have f2:=K0.out.at (i:=2) rfl
 have r2:=K1.out.at (i:=2) rfl
 have f3:=K0.out.at (i:=3) rfl
 have r3:=K1.out.at (i:=3) rfl
 clear hb1
 have hz1:=B1.out.size
 go_wp2_with fail
 refine (ZlT aA2 bA2 _ ac2 bc2 x.thn aL2 bL2 _ rfl (by omega) (SA2.out.below (by repeat (first | refine Below.setCell ?_ (by dsimp only;omega) _ | refine Below.alloc ?_ (by first | (simp;done) | (simp;omega) | omega) _ | exact B1.out))) (SB2.out.below (by repeat (first | refine Below.setCell ?_ (by dsimp only;omega) _ | refine Below.alloc ?_ (by first | (simp;done) | (simp;omega) | omega) _ | exact B1.out)))).mono ?_
 rintro e w2 ⟨rfl,hb2⟩
 have B2:Hid (Below w.heap.size w w2):=Below.trans (by repeat (first | refine Below.setCell ?_ (by dsimp only;omega) _ | refine Below.alloc ?_ (by first | (simp;done) | (simp;omega) | omega) _ | exact B1.out)) (hb2.mono (by first | (simp;done) | (simp;omega) | omega))
 have K0:=Lib.hid (K0.out.later hb2)
 have K1:=Lib.hid (K1.out.later hb2)
 clear f0 r0 f1 r1 f2 r2 f3 r3
 have f0:=K0.out.at (i:=0) rfl
 have r0:=K1.out.at (i:=0) rfl
 have f1:=K0.out.at (i:=1) rfl
 have r1:=K1.out.at (i:=1) rfl
 have f2:=K0.out.at (i:=2) rfl
 have r2:=K1.out.at (i:=2) rfl
 have f3:=K0.out.at (i:=3) rfl
 have r3:=K1.out.at (i:=3) rfl
 clear hb2
 have hz2:=B2.out.size
 go_wp2_with fail
 go_ret
 exact ⟨rfl,(by repeat (first | refine Below.setCell ?_ (by dsimp only;omega) _ | refine Below.alloc ?_ (by first | (simp;done) | (simp;omega) | omega) _ | exact B2.out))⟩
set_option maxRecDepth 100000 in
set_option maxHeartbeats 1600000 in
theorem ZoU (A B:Option Addr) (n c d:Nat) (ds:List Zf) (L M:List Nat) (w:World) (hn:n=ds.length) (hm:n≤9223372036854775807) (h1:Sli XU w A ds L) (h2:Sli XU w B ds M):
  Calls Tryz.prog 17 #[.slice A n c,.slice B n d] w (XJ w):=by
 have H1:=Lib.hid h1
 have H2:=Lib.hid h2
 have HN:=Lib.hid hn
 clear h1 h2 hn
 have hne:((n:Int) != n)=false:=by simp
 go_enter Tryz.func17,Tryz.ntmps17
 go_wp2
 go_loopw [5] (fun i wr=>∃(k:Nat),k≤n∧i=.int .i64 k∧Hid (Below w.heap.size w wr)) (fun i _=>n - (intOf i).toNat)
 case atStart=>exact ⟨0,Nat.zero_le _,rfl,Below.refl _ _⟩
 case round=>
  obtain ⟨k,hk,rfl,HB⟩:=hrel
  by_cases hlt:k<n
  ·have hkl:k<ds.length:=by have:=HN.out;omega
   obtain ⟨b,off,cs,Lk,rfl,hbL,hLk,hrep,hc⟩:=H1.out.at_ hkl
   obtain ⟨b',off',cs',Mk,rfl,hbM,hMk,hrep',hc'⟩:=H2.out.at_ hkl
   have hbl:b<w.heap.size:=H1.out.lt b hbL
   have hbl':b'<w.heap.size:=H2.out.lt b' hbM
   have HR:=Lib.hid (XU.keep hrep (ZN HB.out (fun y m=>H1.out.lt y (hLk y m))))
   have HR':=Lib.hid (XU.keep hrep' (ZN HB.out (fun y m=>H2.out.lt y (hMk y m))))
   generalize ds[k]=x at *
   obtain ⟨aA1,ac1,aA2,ac2,rfl⟩:=Zb5 hrep
   obtain ⟨bA1,bc1,bA2,bc2,rfl⟩:=Zb5 hrep'
   have q0:wr.cell? ⟨b,off+k * 4,none⟩=_:=(HB.out.cell (p:=⟨b,off+(k * 4+0),none⟩) hbl).trans (hc 0 _ rfl)
   have p0:wr.cell? ⟨b',off'+k * 4,none⟩=_:=(HB.out.cell (p:=⟨b',off'+(k * 4+0),none⟩) hbl').trans (hc' 0 _ rfl)
   have q1:wr.cell? ⟨b,off+k * 4+1,none⟩=_:=(HB.out.cell (p:=⟨b,off+(k * 4+1),none⟩) hbl).trans (hc 1 _ rfl)
   have p1:wr.cell? ⟨b',off'+k * 4+1,none⟩=_:=(HB.out.cell (p:=⟨b',off'+(k * 4+1),none⟩) hbl').trans (hc' 1 _ rfl)
   have q2:wr.cell? ⟨b,off+k * 4+2,none⟩=_:=(HB.out.cell (p:=⟨b,off+(k * 4+2),none⟩) hbl).trans (hc 2 _ rfl)
   have p2:wr.cell? ⟨b',off'+k * 4+2,none⟩=_:=(HB.out.cell (p:=⟨b',off'+(k * 4+2),none⟩) hbl').trans (hc' 2 _ rfl)
   have q3:wr.cell? ⟨b,off+k * 4+3,none⟩=_:=(HB.out.cell (p:=⟨b,off+(k * 4+3),none⟩) hbl).trans (hc 3 _ rfl)
   have p3:wr.cell? ⟨b',off'+k * 4+3,none⟩=_:=(HB.out.cell (p:=⟨b',off'+(k * 4+3),none⟩) hbl').trans (hc' 3 _ rfl)
   clear hc hc' hrep hrep'
   have k0:(0:Int)≤k:=by omega
   have k1:(k:Int)<n:=by omega
   go_wp2_with fail
   go_still_tail 8,(by kernel_rfl)
   change wpList _ _ _ _ _ wr.drew
   go_wp2_with (go_at_call 49;(refine (ZpF _ _ x Lk Mk wr.drew (XU.keep HR.out (fun _ _=>rfl)) (XU.keep HR'.out (fun _ _=>rfl))).mono ?_;rintro e w1 ⟨rfl,hb1⟩;have HB1:=Lib.hid (HB.out.drew.trans (hb1.mono HB.out.size));clear hb1))
   go_roundw
   case rel=>exact ⟨k+1,by omega,by go_num,HB1.out⟩
   case measure=>simp [intOf];omega
  ·go_wp2
   go_ret
   exact ⟨rfl,HB.out⟩
end Go.Proofs.YtojnhepgnbhaaaaGreatDoor
namespace Go.Proofs.YtojnhepgnbhaaaaGreatDoor
open Go.RowKit
def ZjI:Nat→Nat→List UInt8→List UInt8
 | 0,_,acc=>acc
 | f+1,k,acc=>if k=0 then acc else ZjI f (k / 10) ((48+UInt8.ofNat (k % 10))::acc)
def Zpw (k:Nat):ByteArray:=⟨(109::ZjI (k+1) k []).toArray⟩
theorem ZjK (W:World) (z:Int):(convert 140 9 (.slice (some ⟨W.heap.size,0,none⟩) 1 1)).run Tryz.prog (W.alloc (.cells #[.int .u8 z] 5))=.ok (.string ⟨#[UInt8.ofNat z.toNat]⟩) (W.alloc (.cells #[.int .u8 z] 5)):=by
 rw [run_convert_bytes_string _ _ _ _ _ _ _ Tryz.underlying140 Tryz.underlying5 Tryz.underlying9,run_bytesToString _ _ _ _ [z] (by simp [loadCells,go_sem])]
 rfl
set_option maxHeartbeats 800000 in
set_option maxRecDepth 100000 in
theorem ZnI (k:Nat) (w:World) (h0:1≤k) (h1:k≤4611686018427387904):
  Calls Tryz.prog 50 #[.int .i64 k] w fun e w'=>e=.returned (.string (Zpw k))∧Below w.heap.size w w':=by
 have hle:¬((k:Int)≤0):=by omega
 have kc:=ZjK
 go_enter Tryz.func50,Tryz.ntmps50
 go_wp2
 go_loopw [0,3] (fun i s wr=>∃(f q:Nat) (acc:List UInt8),i=.int .i64 q∧s=.string ⟨acc.toArray⟩∧q≤k∧q<f∧acc.length+q≤k∧Hid (ZjI f q acc=ZjI (k+1) k [])∧Hid (Below w.heap.size w wr)) (fun i _ _=>(intOf i).toNat)
 case atStart=>exact ⟨k+1,k,[],rfl,rfl,Nat.le_refl _,by omega,by simp,Lib.hid rfl,Below.refl _ _⟩
 case round=>
  obtain ⟨f,q,acc,rfl,rfl,hqk,hqf,hal,HE,HB⟩:=hrel
  by_cases hq:0<q
  ·have hq':(0:Int)<q:=by omega
   have HEn:Hid (ZjI (f - 1) (q / 10) ((48+UInt8.ofNat (q % 10))::acc)=ZjI (k+1) k []):=by
    rw [Hid,←HE.out]
    obtain ⟨f,rfl⟩:∃g,f=g+1:=⟨f - 1,by omega⟩
    rw [ZjI,if_neg (by omega)];rfl
   go_wp2
   go_roundw
   case rel=>exact ⟨f - 1,q / 10,_,by go_num,congrArg Value.string (by rw [ByteArray.mk_append_mk];simp),by omega,by omega,by simp only [List.length_cons];omega,HEn,HB.out.alloc HB.out.size _⟩
   case measure=>simp [intOf];omega
  ·obtain rfl:q=0:=by omega
   have e:Hid (ZjI (k+1) k []=acc):=by
    rw [Hid,←HE.out]
    obtain ⟨f,rfl⟩:∃g,f=g+1:=⟨f - 1,by omega⟩
    simp [ZjI]
   have hq':¬(0:Int)<(0:Nat):=by omega
   go_wp2
   go_ret
   exact ⟨congrArg (fun s=>Ending.returned (.string s)) (by rw [Zpw,e.out,ByteArray.mk_append_mk];simp),HB.out⟩
theorem ZoH:∀(f k:Nat) (acc:List UInt8),(ZjI f k acc).length≤acc.length+f
 | 0,_,acc=>by simp [ZjI]
 | f+1,k,acc=>by
  rw [ZjI]
  split
  ·omega
  ·have:=ZoH f (k / 10) ((48+UInt8.ofNat (k % 10))::acc)
   simp at this;omega
theorem ZpK (k:Nat) (h:k≤4611686018427387904):(Zpw k).size≤9223372036854775807:=by
 have:=ZoH (k+1) k []
 simp [Zpw,ByteArray.size] at this ⊢
 omega
end Go.Proofs.YtojnhepgnbhaaaaGreatDoor
namespace Go.Proofs.YtojnhepgnbhaaaaGreatDoor
open Go.RowKit
def mTx (k:Int):ByteArray:=Zpw k.toNat
theorem Y7 (k:Int) (w:World) (h0:1≤k) (h1:k≤4611686018427387904):
  Calls Tryz.prog 50 #[.int .i64 k] w fun e w'=>e=.returned (.string (mTx k))∧Below w.heap.size w w':=by
 obtain ⟨n,rfl⟩:=Int.eq_ofNat_of_zero_le (show 0≤k by omega)
 exact ZnI n w (by omega) (by omega)
theorem ZcS (k:Int) (h:k≤4611686018427387904):(mTx k).size≤9223372036854775807:=ZpK _ (by omega)
def Ya:Int→List ByteArray→List ByteArray
 | _,[]=>[]
 | k,_::r=>mTx k::Ya (k+1) r
def ZG (k:Int) (l:List ByteArray):Int:=k+l.length
theorem Zai (k:Int) (l:List ByteArray):(Ya k l).length=l.length:=by induction l generalizing k with | nil=>rfl | cons x r ih=>simp [Ya,ih]
theorem Xl (k:Int) (l:List ByteArray):k≤ZG k l:=by unfold ZG;omega
theorem Zdd (k:Int) (l:List ByteArray):ZG k l≤k+16 * Xm l:=by unfold ZG Xm;omega
def Zfl (k:Int) (x:Zc):Zc:=⟨mTx (k),Ya (k+1) x.args⟩
def Ys (k:Int) (x:Zc):Int:=ZG (k+1) x.args
def Xp:Int→List Zc→List Zc
 | _,[]=>[]
 | k,x::r=>Zfl k x::Xp (Ys k x) r
def Zy:Int→List Zc→Int
 | k,[]=>k
 | k,x::r=>Zy (Ys k x) r
theorem Zo1 (k:Int) (l:List Zc):(Xp k l).length=l.length:=by induction l generalizing k with | nil=>rfl | cons x r ih=>simp [Xp,ih]
theorem Zfn (k:Int) (x:Zc):k≤Ys k x:=by
 unfold Ys
 have:=Xl (k+1) x.args
 omega
theorem Zcq (k:Int) (l:List Zc):k≤Zy k l:=by
 induction l generalizing k with
 | nil=>exact Int.le_refl _
 | cons x r ih=>exact Int.le_trans (Zfn k x) (ih _)
theorem ZoP (k:Int) (x:Zc):Ys k x≤k+1+16 * YP x:=by
 unfold Ys
 have:=Zdd (k+1) x.args
 simp only [YP]
 omega
theorem Zht (k:Int) (l:List Zc):Zy k l≤k+16 * Yd l:=by
 induction l generalizing k with
 | nil=>simp [Zy,Yd]
 | cons x r ih=>
  have h1:=ZoP k x
  have h2:=ih (Ys k x)
  simp only [Zy,Yd,List.length_cons,List.map_cons,List.sum_cons] at h2 ⊢
  omega
def Zhq (k:Int) (x:Zm):Zm:=⟨(k),⟨mTx (k+1),Ya (k+1+1) x.pattern.args⟩,mTx (ZG (k+1+1) x.pattern.args),mTx (ZG (k+1+1) x.pattern.args+1)⟩
def XD (k:Int) (x:Zm):Int:=ZG (k+1+1) x.pattern.args+1+1
def Zao:Int→List Zm→List Zm
 | _,[]=>[]
 | k,x::r=>Zhq k x::Zao (XD k x) r
def Yz:Int→List Zm→Int
 | k,[]=>k
 | k,x::r=>Yz (XD k x) r
theorem ZoK (k:Int) (l:List Zm):(Zao k l).length=l.length:=by induction l generalizing k with | nil=>rfl | cons x r ih=>simp [Zao,ih]
theorem ZiT (k:Int) (x:Zm):k≤XD k x:=by
 unfold XD
 have:=Xl (k+1+1) x.pattern.args
 omega
theorem ZeT (k:Int) (l:List Zm):k≤Yz k l:=by
 induction l generalizing k with
 | nil=>exact Int.le_refl _
 | cons x r ih=>exact Int.le_trans (ZiT k x) (ih _)
theorem ZoZ (k:Int) (x:Zm):XD k x≤k+4+16 * YO x:=by
 unfold XD
 have:=Zdd (k+1+1) x.pattern.args
 simp only [YO,Z5]
 omega
theorem Zng (k:Int) (l:List Zm):Yz k l≤k+16 * YA l:=by
 induction l generalizing k with
 | nil=>simp [Yz,YA]
 | cons x r ih=>
  have h1:=ZoZ k x
  have h2:=ih (XD k x)
  simp only [Yz,YA,List.length_cons,List.map_cons,List.sum_cons] at h2 ⊢
  omega
def Zdj (k:Int) (x:Zr):Zr:=⟨(k),⟨mTx (k+1),Ya (k+1+1) x.pattern.args⟩⟩
def YH (k:Int) (x:Zr):Int:=ZG (k+1+1) x.pattern.args
def XA:Int→List Zr→List Zr
 | _,[]=>[]
 | k,x::r=>Zdj k x::XA (YH k x) r
def YB:Int→List Zr→Int
 | k,[]=>k
 | k,x::r=>YB (YH k x) r
theorem ZlZ (k:Int) (l:List Zr):(XA k l).length=l.length:=by induction l generalizing k with | nil=>rfl | cons x r ih=>simp [XA,ih]
theorem Zgy (k:Int) (x:Zr):k≤YH k x:=by
 unfold YH
 have:=Xl (k+1+1) x.pattern.args
 omega
theorem Zdb (k:Int) (l:List Zr):k≤YB k l:=by
 induction l generalizing k with
 | nil=>exact Int.le_refl _
 | cons x r ih=>exact Int.le_trans (Zgy k x) (ih _)
theorem ZlR (k:Int) (x:Zr):YH k x≤k+2+16 * Yl x:=by
 unfold YH
 have:=Zdd (k+1+1) x.pattern.args
 simp only [Yl,Z5]
 omega
theorem Zlj (k:Int) (l:List Zr):YB k l≤k+16 * Yg l:=by
 induction l generalizing k with
 | nil=>simp [YB,Yg]
 | cons x r ih=>
  have h1:=ZlR k x
  have h2:=ih (YH k x)
  simp only [YB,Yg,List.length_cons,List.map_cons,List.sum_cons] at h2 ⊢
  omega
def Zg2 (k:Int) (x:Zf):Zf:=⟨mTx (k),(k+1),Zao (k+1+1) x.cond,XA (Yz (k+1+1) x.cond) x.thn⟩
def XK (k:Int) (x:Zf):Int:=YB (Yz (k+1+1) x.cond) x.thn
def Zco:Int→List Zf→List Zf
 | _,[]=>[]
 | k,x::r=>Zg2 k x::Zco (XK k x) r
def YC:Int→List Zf→Int
 | k,[]=>k
 | k,x::r=>YC (XK k x) r
theorem Zi4 (k:Int) (x:Zf):k≤XK k x:=by
 unfold XK
 have:=ZeT (k+1+1) x.cond
 have:=Zdb (Yz (k+1+1) x.cond) x.thn
 omega
theorem ZhJ (k:Int) (l:List Zf):k≤YC k l:=by
 induction l generalizing k with
 | nil=>exact Int.le_refl _
 | cons x r ih=>exact Int.le_trans (Zi4 k x) (ih _)
theorem Zou (k:Int) (x:Zf):XK k x≤k+2+16 * Yq x:=by
 unfold XK
 have:=Zng (k+1+1) x.cond
 have:=Zlj (Yz (k+1+1) x.cond) x.thn
 simp only [Yq]
 omega
theorem ZnJ (k:Int) (l:List Zf):YC k l≤k+16 * Yj l:=by
 induction l generalizing k with
 | nil=>simp [YC,Yj]
 | cons x r ih=>
  have h1:=Zou k x
  have h2:=ih (XK k x)
  simp only [YC,Yj,List.length_cons,List.map_cons,List.sum_cons] at h2 ⊢
  omega
end Go.Proofs.YtojnhepgnbhaaaaGreatDoor
namespace Go.Proofs.YtojnhepgnbhaaaaGreatDoor
open Go.RowKit
theorem Zba {w w1:World} {g:Nat} {t:TypeId} {cs:Array Value} {M:List Nat} (h:Blk w g t cs) (ho:YF M w w1) (hg:g∉M):Blk w1 g t cs:=(ho.block g h.lt hg).trans h
set_option maxHeartbeats 1600000 in
theorem Zcd (A:Option Addr) (n c:Nat) (ds:List ByteArray) (L:List Nat) (base:Nat) (k:Int) (w:World) (hn:n=ds.length) (hk0:1≤k) (hk1:ZG k ds≤4611686018427387904) (h:Got (ZY Zbm) base [.slice A n c] ds L w):
  Calls Tryz.prog 53 #[.slice A n c,.int .i64 k] w fun e w'=>e=.returned (.int .i64 (ZG k ds))∧Got (ZY Zbm) base [.slice A n c] (Ya k ds) L w'∧YF L w w':=by
 have H:=Lib.hid h
 have HN:=Lib.hid hn
 have hk1':k+n≤4611686018427387904:=by simp only [ZG] at hk1;omega
 clear h hn hk1
 go_enter Tryz.func53,Tryz.ntmps53
 go_wp2
 go_loopw [1,5] (fun q j wr=>∃(i:Nat) (kk:Int) (D:List ByteArray),i≤n∧j=.int .i64 i∧q=.int .i64 kk∧1≤kk∧kk+(n - i:Nat)≤4611686018427387904∧Hid (kk=k+i∧D.length=i∧D++Ya kk (ds.drop i)=Ya k ds)∧Hid (Got (ZY Zbm) base [.slice A n c] (D++ds.drop i) L wr)∧Hid (YF L w wr)) (fun _ j _=>n - (intOf j).toNat)
 case atStart=>exact ⟨0,k,[],Nat.zero_le _,rfl,rfl,hk0,by omega,⟨by omega,rfl,rfl⟩,H.out,YF.refl _ _⟩
 case round=>
  obtain ⟨i,kk,D,hi,rfl,rfl,h1,h2,HD,HG,HO⟩:=hrel
  by_cases hlt:i<n
  ·have hil:i<ds.length:=by have:=HN.out;omega
   obtain ⟨hkk,hDl,hDm⟩:=HD.out
   have hcl:i<(D++ds.drop i).length:=by simp;omega
   obtain ⟨b,off,cs,Lk,rfl,hbL,hLk,hown,hrep,hcells,hput⟩:=HG.out.focus hcl
   obtain ⟨rfl,hlk,_⟩:=hrep
   have HEl:=Lib.hid (ZbD.start (m:=1) hcells rfl hown)
   have hnext:Hid (ds.drop i=ds[i]::ds.drop (i+1)):=List.drop_eq_getElem_cons _
   have HPut:=Lib.hid hput
   have HOwn:=Lib.hid hown
   have HLk:=Lib.hid hLk
   have HLe:=Lib.hid hlk
   have HDn:Hid (kk+1=k+(i+1:Nat)∧(D++[mTx kk]).length=i+1∧(D++[mTx kk])++Ya (kk+1) (ds.drop (i+1))=Ya k ds):=by
    refine ⟨by omega,by simp [hDl],?_⟩
    rw [←hDm,hnext.out];simp [Ya]
   have hset:Hid ((D++ds.drop i).set i (mTx kk)=(D++[mTx kk])++ds.drop (i+1)):=by
    rw [Hid,List.set_append_right _ _ (by omega),show i - D.length=0 by omega,hnext.out,List.set_cons_zero];simp
   clear hput hown hLk hcells hkk hDl hDm hlk
   simp only [show Zbm.size=1 from rfl,Nat.mul_one] at HEl HPut
   go_wp2_with (go_at_call 50;refine (Y7 _ _ (by omega) (by omega)).mono ?_;rintro e w1 ⟨rfl,hb1⟩;have E1:=Lib.hid (HEl.out.later hb1);have q1:=E1.out.at (j:=0) rfl;have z1:=E1.out.frozen (off+i);clear hb1;simp only [Nat.add_zero] at q1)
   have E2:=Lib.hid (E1.out.set 0 (by omega) (.string (mTx kk)))
   have hO2:=Lib.hid (XO HOwn.out E2.out.plain E2.out.only (by rw [HLe.out];simp))
   have HGn:=Lib.hid (HPut.out _ _ (mTx kk) E2.out.only E2.out.cells E2.out.rest (by rw [HLe.out];exact ⟨rfl,rfl,ZcS _ (by omega)⟩) hO2.out)
   have HOn:=Lib.hid (HO.out.trans (E2.out.only.mono (fun y m=>by rcases List.mem_cons.1 m with rfl | m;exact hbL;exact HLk.out y m)))
   rw [hset.out] at HGn
   simp only [Nat.add_zero] at HGn HOn
   clear E2 hO2 HPut
   go_wp2_with fail
   go_roundw
   case rel=>exact ⟨i+1,kk+1,_,by omega,by go_num,rfl,by omega,by omega,HDn,HGn,HOn⟩
   case measure=>simp [intOf];omega
  ·obtain rfl:i=n:=by omega
   have hf:Hid (ZG k ds=kk∧D=Ya k ds):=by
    obtain ⟨h1,h2,h3⟩:=HD.out
    have e:ds.drop i=[]:=List.drop_of_length_le (by have:=HN.out;omega)
    rw [e] at h3
    simp [Ya] at h3
    exact ⟨by have:=HN.out;simp only [ZG];omega,h3⟩
   have e:Hid (ds.drop i=[]):=List.drop_of_length_le (by have:=HN.out;omega)
   rw [e.out,List.append_nil] at HG
   go_wp2
   go_ret
   exact ⟨Yo hf.out.1.symm,by rw [←hf.out.2];exact HG.out,HO.out⟩
set_option maxRecDepth 100000 in
set_option maxHeartbeats 4000000 in
theorem ZgC (A:Option Addr) (n c:Nat) (ds:List Zc) (L:List Nat) (base:Nat) (k:Int) (w:World) (hn:n=ds.length) (hm:n≤9223372036854775807) (hk0:1≤k) (hk1:Zy k ds≤4611686018427387904) (h:Got (ZY Y4) base [.slice A n c] ds L w):
  Calls Tryz.prog 19 #[.slice A n c,.int .i64 k] w fun e w'=>e=.returned (.int .i64 (Zy k ds))∧Got (ZY Y4) base [.slice A n c] (Xp k ds) L w'∧YF L w w':=by
 have H:=Lib.hid h
 have HN:=Lib.hid hn
 have HK:=Lib.hid hk1
 clear h hn hk1
 go_enter Tryz.func19,Tryz.ntmps19
 go_wp2
 go_loopw [1,5] (fun q j wr=>∃(i:Nat) (kk:Int) (D:List Zc),i≤n∧j=.int .i64 i∧q=.int .i64 kk∧1≤kk∧Hid (Zy kk (ds.drop i)=Zy k ds∧D.length=i∧D++Xp kk (ds.drop i)=Xp k ds)∧Hid (Got (ZY Y4) base [.slice A n c] (D++ds.drop i) L wr)∧Hid (YF L w wr)) (fun _ j _=>n - (intOf j).toNat)
 case atStart=>exact ⟨0,k,[],Nat.zero_le _,rfl,rfl,hk0,⟨rfl,rfl,rfl⟩,H.out,YF.refl _ _⟩
 case round=>
  obtain ⟨i,kk,D,hi,rfl,rfl,h1,HD,HG,HO⟩:=hrel
  by_cases hlt:i<n
  ·have hil:i<ds.length:=by have:=HN.out;omega
   obtain ⟨hkk,hDl,hDm⟩:=HD.out
   have hcl:i<(D++ds.drop i).length:=by simp;omega
   obtain ⟨b,off,cs,Lk,rfl,hbL,hLk,hown,hrep,hcells,hput⟩:=HG.out.focus hcl
   have hnext:Hid (ds.drop i=ds[i]::ds.drop (i+1)):=List.drop_eq_getElem_cons _
   have hxi:(D++ds.drop i)[i]=ds[i]:=by
    rw [List.getElem_append_right (by omega)];simp [hDl]
   rw [hxi] at hrep
   clear hxi
   generalize ds[i]=x at hrep hnext
   have hnb:Hid (Ys kk x≤4611686018427387904):=by
    have:=Zcq (Ys kk x) (ds.drop (i+1))
    rw [hnext.out] at hkk
    have hk:=HK.out
    rw [←hkk] at hk
    exact Int.le_trans this hk
   have hnb1:=hnb.out
   have hnb2:=Zfn kk x
   unfold Ys at hnb1 hnb2
   have HDn:Hid (Zy (Ys kk x) (ds.drop (i+1))=Zy k ds∧(D++[Zfl kk x]).length=i+1∧(D++[Zfl kk x])++Xp (Ys kk x) (ds.drop (i+1))=Xp k ds):=by
    refine ⟨by rw [←hkk,hnext.out];rfl,by simp [hDl],?_⟩
    rw [←hDm,hnext.out];simp [Xp]
   have hset:Hid ((D++ds.drop i).set i (Zfl kk x)=(D++[Zfl kk x])++ds.drop (i+1)):=by
    rw [Hid,List.set_append_right _ _ (by omega),show i - D.length=0 by omega,hnext.out,List.set_cons_zero];simp
   obtain ⟨A1,c1,L1,rfl,hLL,t0,n1,m1,s1⟩:=hrep
   unfold maxLen at m1
   subst Lk
   have HEl:=Lib.hid (ZbD.start (m:=2) hcells rfl hown)
   have hbn:=Lib.hid hown.head
   have G1:Hid (Got (ZY Zbm) base [.slice A1 x.args.length c1] x.args L1 wr):=⟨⟨A1,c1,rfl,n1,(by unfold maxLen;omega),s1⟩,hown.tail⟩
   have bn1:Hid (b∉L1):=fun m=>hown.head (by simp [m])
   have sb1:Hid (∀y∈L1,y∈L1):=fun y m=>by simp [m]
   clear s1
   have HPut:=Lib.hid hput
   have HOwn:=Lib.hid hown
   have HLk:=Lib.hid hLk
   clear hput hown hLk hcells hkk hDl hDm
   simp only [show Y4.size=2 from rfl] at HEl HPut
   have q0:=HEl.out.at (j:=0) rfl
   have z0:=HEl.out.frozen (off+i * 2)
   have q1:=HEl.out.at (j:=1) rfl
   have z1:=HEl.out.frozen (off+i * 2+1)
   simp only [Nat.add_zero] at q0
   have gm0:(0:Int)≤0:=by omega
   have mono_x_args:=Xl (kk+1) x.args
   go_wp2_with fail
   refine (Y7 _ _ (by omega) (by omega)).mono ?_
   rintro e w1 ⟨rfl,hb1⟩
   have HEl:=Lib.hid (HEl.out.later hb1)
   have G1:=Lib.hid (G1.out.later hb1)
   clear hb1
   clear q0 z0 q1 z1
   have q0:=HEl.out.at (j:=0) rfl
   have z0:=HEl.out.frozen (off+i * 2)
   have q1:=HEl.out.at (j:=1) rfl
   have z1:=HEl.out.frozen (off+i * 2+1)
   simp only [Nat.add_zero] at q0
   go_wp2_with fail
   have G1:=Lib.hid (G1.out.setFar (p:=⟨b,off+i * 2+0,none⟩) bn1.out (.string (mTx (kk))))
   refine (Zcd A1 _ c1 x.args L1 base _ _ rfl (by omega) (by omega) G1.out).mono ?_
   rintro e w2 ⟨rfl,g2,on2⟩
   have HEl:=Lib.hid ((HEl.out.set 0 (by omega) (.string (mTx (kk)))).marked on2 sb1.out bn1.out)
   have G1:=Lib.hid g2
   clear g2 on2
   clear q0 z0 q1 z1
   have q0:=HEl.out.at (j:=0) rfl
   have z0:=HEl.out.frozen (off+i * 2)
   have q1:=HEl.out.at (j:=1) rfl
   have z1:=HEl.out.frozen (off+i * 2+1)
   simp only [Nat.add_zero] at q0
   obtain ⟨nn1,mm1,ss1⟩:=ZU G1.out.rep
   have hO2:=Lib.hid (XO HOwn.out HEl.out.plain HEl.out.only (fun y m=>by (try simp only [List.mem_append] at m);exact G1.out.own.plain y m))
   have HGn:=Lib.hid (HPut.out _ _ (Zfl kk x) HEl.out.only HEl.out.cells HEl.out.rest ⟨A1,c1,L1,by simp [Zfl,Zai],rfl,ZcS _ (by omega),nn1,mm1,ss1⟩ hO2.out)
   have HOn:=Lib.hid (HO.out.trans (HEl.out.only.mono (fun y m=>by rcases List.mem_cons.1 m with rfl | m;exact hbL;exact HLk.out y m)))
   rw [hset.out] at HGn
   try simp only [Nat.add_zero] at HGn HOn
   clear HEl hO2 HPut G1 nn1 mm1 ss1
   go_wp2_with fail
   go_roundw
   case rel=>exact ⟨i+1,Ys kk x,_,by omega,by go_num,rfl,by unfold Ys;omega,HDn,HGn,HOn⟩
   case measure=>simp [intOf];omega
  ·obtain rfl:i=n:=by omega
   have e:Hid (ds.drop i=[]):=List.drop_of_length_le (by have:=HN.out;omega)
   have hf:Hid (Zy k ds=kk∧D=Xp k ds):=by
    obtain ⟨h1,h2,h3⟩:=HD.out
    rw [e.out] at h3 h1
    simp [Xp] at h3
    exact ⟨h1.symm,h3⟩
   rw [e.out,List.append_nil] at HG
   go_wp2
   go_ret
   exact ⟨Yo hf.out.1.symm,by rw [←hf.out.2];exact HG.out,HO.out⟩
def ZFh (k:Int) (x:Zc):Zc:=⟨x.rel,Ya (k) x.args⟩
def ZEQ (k:Int) (x:Zc):Int:=ZG (k) x.args
theorem ZFd (k:Int) (x:Zc):k≤ZEQ k x:=by
 unfold ZEQ
 have:=Xl (k) x.args
 omega
theorem ZFc (k:Int) (x:Zc):ZEQ k x≤k+16 * YP x:=by
 unfold ZEQ
 have:=Zdd (k) x.args
 simp only [YP]
 omega
set_option maxHeartbeats 1600000 in
theorem ZFf (x:Zc) (A1:Option Addr) (c1:Nat) (L1:List Nat) (base:Nat) (k:Int) (w:World) (hk0:1≤k) (hk1:ZEQ k x≤4611686018427387904) (l1:x.args.length≤9223372036854775807) (g1:Got (ZY Zbm) base [.slice A1 x.args.length c1] (x.args) L1 w):
  Calls Tryz.prog 36 #[.agg #[.string x.rel,.slice A1 x.args.length c1],.int .i64 k] w fun e w'=>e=.returned (.int .i64 (ZEQ k x))∧Got (ZY Zbm) base [.slice A1 x.args.length c1] (Ya (k) x.args) L1 w'∧YF (L1) w w':=by
 have bn1:Hid (w.heap.size∉L1):=fun m=>Nat.lt_irrefl _ (g1.lt _ m)
 have G1:=Lib.hid (g1.alloc (.cells #[.string x.rel,.slice A1 x.args.length c1] 57))
 have K0:Hid (Blk (w.alloc (.cells #[.string x.rel,.slice A1 x.args.length c1] 57)) w.heap.size 57 #[.string x.rel,.slice A1 x.args.length c1]):=Blk.new _ _ _
 have O0:Hid (YF (L1) w (w.alloc (.cells #[.string x.rel,.slice A1 x.args.length c1] 57))):=YF.of_below ((Below.refl _ _).alloc (Nat.le_refl _) _) _
 clear g1
 unfold ZEQ at hk1
 have:=Xl (k) x.args
 go_enter Tryz.func36,Tryz.ntmps36
 go_wp2_with fail
 refine (Zcd A1 _ c1 x.args L1 base _ _ rfl (by omega) (by omega) G1.out).mono ?_
 rintro e w1 ⟨rfl,h1,on1⟩
 have G1:=Lib.hid h1
 have K1:=Lib.hid (Zba K0.out on1 bn1.out)
 have f0:=K1.out.at (i:=0) rfl
 have f1:=K1.out.at (i:=1) rfl
 have O1:Hid (YF (L1) w w1):=O0.out.trans (on1.mono (fun y m=>by first | exact m | simp [m] | (simp only [List.mem_append] at m ⊢;rcases m with m | m<;>simp [m])))
 clear on1 h1
 go_wp2_with fail
 go_ret
 exact ⟨Yo rfl,G1.out,O1.out⟩
theorem ZFe (cs:List Value) (x:Zc) (L:List Nat) (base:Nat) (k:Int) (w:World) (hk0:1≤k) (hk1:ZEQ k x≤4611686018427387904) (h:Got Y4 base cs x L w):
  Calls Tryz.prog 36 #[.agg cs.toArray,.int .i64 k] w fun e w'=>e=.returned (.int .i64 (ZEQ k x))∧Got Y4 base cs (ZFh k x) L w'∧YF L w w':=by
 obtain ⟨hrep,ho⟩:=h
 obtain ⟨A1,c1,L1,rfl,hLL,t0,n1,m1,s1⟩:=hrep
 subst L
 refine (ZFf x A1 c1 L1 base k w hk0 hk1 (by unfold maxLen at m1;omega) ⟨⟨A1,c1,rfl,n1,m1,s1⟩,ho⟩ ).mono ?_
 rintro e w' ⟨rfl,g1,on⟩
 obtain ⟨nn1,mm1,ss1⟩:=ZU g1.rep
 refine ⟨rfl,⟨⟨A1,c1,L1,by simp [ZFh,Zai],rfl,t0,nn1,mm1,ss1⟩,ho.nodup,ho.ge,fun y m=>?_⟩,on⟩
 try simp only [List.mem_append] at m
 exact g1.own.plain y m
set_option maxRecDepth 100000 in
set_option maxHeartbeats 4000000 in
theorem Zl7 (A:Option Addr) (n c:Nat) (ds:List Zm) (L:List Nat) (base:Nat) (k:Int) (w:World) (hn:n=ds.length) (hm:n≤9223372036854775807) (hk0:1≤k) (hk1:Yz k ds≤4611686018427387904) (h:Got (ZY XV) base [.slice A n c] ds L w):
  Calls Tryz.prog 51 #[.slice A n c,.int .i64 k] w fun e w'=>e=.returned (.int .i64 (Yz k ds))∧Got (ZY XV) base [.slice A n c] (Zao k ds) L w'∧YF L w w':=by
 have H:=Lib.hid h
 have HN:=Lib.hid hn
 have HK:=Lib.hid hk1
 clear h hn hk1
 go_enter Tryz.func51,Tryz.ntmps51
 go_wp2
 go_loopw [1,5] (fun q j wr=>∃(i:Nat) (kk:Int) (D:List Zm),i≤n∧j=.int .i64 i∧q=.int .i64 kk∧1≤kk∧Hid (Yz kk (ds.drop i)=Yz k ds∧D.length=i∧D++Zao kk (ds.drop i)=Zao k ds)∧Hid (Got (ZY XV) base [.slice A n c] (D++ds.drop i) L wr)∧Hid (YF L w wr)) (fun _ j _=>n - (intOf j).toNat)
 case atStart=>exact ⟨0,k,[],Nat.zero_le _,rfl,rfl,hk0,⟨rfl,rfl,rfl⟩,H.out,YF.refl _ _⟩
 case round=>
  obtain ⟨i,kk,D,hi,rfl,rfl,h1,HD,HG,HO⟩:=hrel
  by_cases hlt:i<n
  ·have hil:i<ds.length:=by have:=HN.out;omega
   obtain ⟨hkk,hDl,hDm⟩:=HD.out
   have hcl:i<(D++ds.drop i).length:=by simp;omega
   obtain ⟨b,off,cs,Lk,rfl,hbL,hLk,hown,hrep,hcells,hput⟩:=HG.out.focus hcl
   have hnext:Hid (ds.drop i=ds[i]::ds.drop (i+1)):=List.drop_eq_getElem_cons _
   have hxi:(D++ds.drop i)[i]=ds[i]:=by
    rw [List.getElem_append_right (by omega)];simp [hDl]
   rw [hxi] at hrep
   clear hxi
   generalize ds[i]=x at hrep hnext
   have hnb:Hid (XD kk x≤4611686018427387904):=by
    have:=ZeT (XD kk x) (ds.drop (i+1))
    rw [hnext.out] at hkk
    have hk:=HK.out
    rw [←hkk] at hk
    exact Int.le_trans this hk
   have hnb1:=hnb.out
   have hnb2:=ZiT kk x
   unfold XD at hnb1 hnb2
   have HDn:Hid (Yz (XD kk x) (ds.drop (i+1))=Yz k ds∧(D++[Zhq kk x]).length=i+1∧(D++[Zhq kk x])++Zao (XD kk x) (ds.drop (i+1))=Zao k ds):=by
    refine ⟨by rw [←hkk,hnext.out];rfl,by simp [hDl],?_⟩
    rw [←hDm,hnext.out];simp [Zao]
   have hset:Hid ((D++ds.drop i).set i (Zhq kk x)=(D++[Zhq kk x])++ds.drop (i+1)):=by
    rw [Hid,List.set_append_right _ _ (by omega),show i - D.length=0 by omega,hnext.out,List.set_cons_zero];simp
   obtain ⟨A1,c1,L1,rfl,hLL,t0,t1,t2,n1,m1,s1⟩:=hrep
   unfold maxLen at m1
   subst Lk
   have HEl:=Lib.hid (ZbD.start (m:=5) hcells rfl hown)
   have hbn:=Lib.hid hown.head
   have G1:Hid (Got (ZY Zbm) base [.slice A1 x.pattern.args.length c1] x.pattern.args L1 wr):=⟨⟨A1,c1,rfl,n1,(by unfold maxLen;omega),s1⟩,hown.tail⟩
   have bn1:Hid (b∉L1):=fun m=>hown.head (by simp [m])
   have sb1:Hid (∀y∈L1,y∈L1):=fun y m=>by simp [m]
   clear s1
   have HPut:=Lib.hid hput
   have HOwn:=Lib.hid hown
   have HLk:=Lib.hid hLk
   clear hput hown hLk hcells hkk hDl hDm
   simp only [show XV.size=5 from rfl] at HEl HPut
   have q0:=HEl.out.at (j:=0) rfl
   have z0:=HEl.out.frozen (off+i * 5)
   have q1:=HEl.out.at (j:=1) rfl
   have z1:=HEl.out.frozen (off+i * 5+1)
   have q2:=HEl.out.at (j:=2) rfl
   have z2:=HEl.out.frozen (off+i * 5+2)
   have q3:=HEl.out.at (j:=3) rfl
   have z3:=HEl.out.frozen (off+i * 5+3)
   have q4:=HEl.out.at (j:=4) rfl
   have z4:=HEl.out.frozen (off+i * 5+4)
   simp only [Nat.add_zero] at q0
   have gm0:(0:Int)≤0:=by omega
   have mono_x_pattern_args:=Xl (kk+1+1) x.pattern.args
   go_wp2_with fail
   refine (Y7 _ _ (by omega) (by omega)).mono ?_
   rintro e w1 ⟨rfl,hb1⟩
   have HEl:=Lib.hid ((HEl.out.set 0 (by omega) (.int .i64 (kk))).later hb1)
   have G1:=Lib.hid ((G1.out.setFar (p:=⟨b,off+i * 5+0,none⟩) bn1.out (.int .i64 (kk))).later hb1)
   clear hb1
   clear q0 z0 q1 z1 q2 z2 q3 z3 q4 z4
   have q0:=HEl.out.at (j:=0) rfl
   have z0:=HEl.out.frozen (off+i * 5)
   have q1:=HEl.out.at (j:=1) rfl
   have z1:=HEl.out.frozen (off+i * 5+1)
   have q2:=HEl.out.at (j:=2) rfl
   have z2:=HEl.out.frozen (off+i * 5+2)
   have q3:=HEl.out.at (j:=3) rfl
   have z3:=HEl.out.frozen (off+i * 5+3)
   have q4:=HEl.out.at (j:=4) rfl
   have z4:=HEl.out.frozen (off+i * 5+4)
   simp only [Nat.add_zero] at q0
   go_wp2_with fail
   have G1:=Lib.hid (G1.out.setFar (p:=⟨b,off+i * 5+1,none⟩) bn1.out (.string (mTx (kk+1))))
   refine (Zcd A1 _ c1 x.pattern.args L1 base _ _ rfl (by omega) (by omega) G1.out).mono ?_
   rintro e w2 ⟨rfl,g2,on2⟩
   have HEl:=Lib.hid ((HEl.out.set 1 (by omega) (.string (mTx (kk+1)))).marked on2 sb1.out bn1.out)
   have G1:=Lib.hid g2
   clear g2 on2
   clear q0 z0 q1 z1 q2 z2 q3 z3 q4 z4
   have q0:=HEl.out.at (j:=0) rfl
   have z0:=HEl.out.frozen (off+i * 5)
   have q1:=HEl.out.at (j:=1) rfl
   have z1:=HEl.out.frozen (off+i * 5+1)
   have q2:=HEl.out.at (j:=2) rfl
   have z2:=HEl.out.frozen (off+i * 5+2)
   have q3:=HEl.out.at (j:=3) rfl
   have z3:=HEl.out.frozen (off+i * 5+3)
   have q4:=HEl.out.at (j:=4) rfl
   have z4:=HEl.out.frozen (off+i * 5+4)
   simp only [Nat.add_zero] at q0
   go_wp2_with fail
   refine (Y7 _ _ (by omega) (by omega)).mono ?_
   rintro e w3 ⟨rfl,hb3⟩
   have HEl:=Lib.hid (HEl.out.later hb3)
   have G1:=Lib.hid (G1.out.later hb3)
   clear hb3
   clear q0 z0 q1 z1 q2 z2 q3 z3 q4 z4
   have q0:=HEl.out.at (j:=0) rfl
   have z0:=HEl.out.frozen (off+i * 5)
   have q1:=HEl.out.at (j:=1) rfl
   have z1:=HEl.out.frozen (off+i * 5+1)
   have q2:=HEl.out.at (j:=2) rfl
   have z2:=HEl.out.frozen (off+i * 5+2)
   have q3:=HEl.out.at (j:=3) rfl
   have z3:=HEl.out.frozen (off+i * 5+3)
   have q4:=HEl.out.at (j:=4) rfl
   have z4:=HEl.out.frozen (off+i * 5+4)
   simp only [Nat.add_zero] at q0
   go_wp2_with fail
   refine (Y7 _ _ (by omega) (by omega)).mono ?_
   rintro e w4 ⟨rfl,hb4⟩
   have HEl:=Lib.hid ((HEl.out.set 3 (by omega) (.string (mTx (ZG (kk+1+1) x.pattern.args)))).later hb4)
   have G1:=Lib.hid ((G1.out.setFar (p:=⟨b,off+i * 5+3,none⟩) bn1.out (.string (mTx (ZG (kk+1+1) x.pattern.args)))).later hb4)
   clear hb4
   clear q0 z0 q1 z1 q2 z2 q3 z3 q4 z4
   have q0:=HEl.out.at (j:=0) rfl
   have z0:=HEl.out.frozen (off+i * 5)
   have q1:=HEl.out.at (j:=1) rfl
   have z1:=HEl.out.frozen (off+i * 5+1)
   have q2:=HEl.out.at (j:=2) rfl
   have z2:=HEl.out.frozen (off+i * 5+2)
   have q3:=HEl.out.at (j:=3) rfl
   have z3:=HEl.out.frozen (off+i * 5+3)
   have q4:=HEl.out.at (j:=4) rfl
   have z4:=HEl.out.frozen (off+i * 5+4)
   simp only [Nat.add_zero] at q0
   have HEl:=Lib.hid (HEl.out.set 4 (by omega) (.string (mTx (ZG (kk+1+1) x.pattern.args+1))))
   have G1:=Lib.hid (G1.out.setFar (p:=⟨b,off+i * 5+4,none⟩) bn1.out (.string (mTx (ZG (kk+1+1) x.pattern.args+1))))
   obtain ⟨nn1,mm1,ss1⟩:=ZU G1.out.rep
   have hO2:=Lib.hid (XO HOwn.out HEl.out.plain HEl.out.only (fun y m=>by (try simp only [List.mem_append] at m);exact G1.out.own.plain y m))
   have HGn:=Lib.hid (HPut.out _ _ (Zhq kk x) HEl.out.only HEl.out.cells HEl.out.rest ⟨A1,c1,L1,by simp [Zhq,Zai],rfl,ZcS _ (by omega),ZcS _ (by omega),ZcS _ (by omega),nn1,mm1,ss1⟩ hO2.out)
   have HOn:=Lib.hid (HO.out.trans (HEl.out.only.mono (fun y m=>by rcases List.mem_cons.1 m with rfl | m;exact hbL;exact HLk.out y m)))
   rw [hset.out] at HGn
   try simp only [Nat.add_zero] at HGn HOn
   clear HEl hO2 HPut G1 nn1 mm1 ss1
   go_wp2_with fail
   go_roundw
   case rel=>exact ⟨i+1,XD kk x,_,by omega,by go_num,rfl,by unfold XD;omega,HDn,HGn,HOn⟩
   case measure=>simp [intOf];omega
  ·obtain rfl:i=n:=by omega
   have e:Hid (ds.drop i=[]):=List.drop_of_length_le (by have:=HN.out;omega)
   have hf:Hid (Yz k ds=kk∧D=Zao k ds):=by
    obtain ⟨h1,h2,h3⟩:=HD.out
    rw [e.out] at h3 h1
    simp [Zao] at h3
    exact ⟨h1.symm,h3⟩
   rw [e.out,List.append_nil] at HG
   go_wp2
   go_ret
   exact ⟨Yo hf.out.1.symm,by rw [←hf.out.2];exact HG.out,HO.out⟩
set_option maxRecDepth 100000 in
set_option maxHeartbeats 4000000 in
theorem ZjG (A:Option Addr) (n c:Nat) (ds:List Zr) (L:List Nat) (base:Nat) (k:Int) (w:World) (hn:n=ds.length) (hm:n≤9223372036854775807) (hk0:1≤k) (hk1:YB k ds≤4611686018427387904) (h:Got (ZY Yk) base [.slice A n c] ds L w):
  Calls Tryz.prog 52 #[.slice A n c,.int .i64 k] w fun e w'=>e=.returned (.int .i64 (YB k ds))∧Got (ZY Yk) base [.slice A n c] (XA k ds) L w'∧YF L w w':=by
 have H:=Lib.hid h
 have HN:=Lib.hid hn
 have HK:=Lib.hid hk1
 clear h hn hk1
 go_enter Tryz.func52,Tryz.ntmps52
 go_wp2
 go_loopw [1,5] (fun q j wr=>∃(i:Nat) (kk:Int) (D:List Zr),i≤n∧j=.int .i64 i∧q=.int .i64 kk∧1≤kk∧Hid (YB kk (ds.drop i)=YB k ds∧D.length=i∧D++XA kk (ds.drop i)=XA k ds)∧Hid (Got (ZY Yk) base [.slice A n c] (D++ds.drop i) L wr)∧Hid (YF L w wr)) (fun _ j _=>n - (intOf j).toNat)
 case atStart=>exact ⟨0,k,[],Nat.zero_le _,rfl,rfl,hk0,⟨rfl,rfl,rfl⟩,H.out,YF.refl _ _⟩
 case round=>
  obtain ⟨i,kk,D,hi,rfl,rfl,h1,HD,HG,HO⟩:=hrel
  by_cases hlt:i<n
  ·have hil:i<ds.length:=by have:=HN.out;omega
   obtain ⟨hkk,hDl,hDm⟩:=HD.out
   have hcl:i<(D++ds.drop i).length:=by simp;omega
   obtain ⟨b,off,cs,Lk,rfl,hbL,hLk,hown,hrep,hcells,hput⟩:=HG.out.focus hcl
   have hnext:Hid (ds.drop i=ds[i]::ds.drop (i+1)):=List.drop_eq_getElem_cons _
   have hxi:(D++ds.drop i)[i]=ds[i]:=by
    rw [List.getElem_append_right (by omega)];simp [hDl]
   rw [hxi] at hrep
   clear hxi
   generalize ds[i]=x at hrep hnext
   have hnb:Hid (YH kk x≤4611686018427387904):=by
    have:=Zdb (YH kk x) (ds.drop (i+1))
    rw [hnext.out] at hkk
    have hk:=HK.out
    rw [←hkk] at hk
    exact Int.le_trans this hk
   have hnb1:=hnb.out
   have hnb2:=Zgy kk x
   unfold YH at hnb1 hnb2
   have HDn:Hid (YB (YH kk x) (ds.drop (i+1))=YB k ds∧(D++[Zdj kk x]).length=i+1∧(D++[Zdj kk x])++XA (YH kk x) (ds.drop (i+1))=XA k ds):=by
    refine ⟨by rw [←hkk,hnext.out];rfl,by simp [hDl],?_⟩
    rw [←hDm,hnext.out];simp [XA]
   have hset:Hid ((D++ds.drop i).set i (Zdj kk x)=(D++[Zdj kk x])++ds.drop (i+1)):=by
    rw [Hid,List.set_append_right _ _ (by omega),show i - D.length=0 by omega,hnext.out,List.set_cons_zero];simp
   obtain ⟨A1,c1,L1,rfl,hLL,t0,n1,m1,s1⟩:=hrep
   unfold maxLen at m1
   subst Lk
   have HEl:=Lib.hid (ZbD.start (m:=3) hcells rfl hown)
   have hbn:=Lib.hid hown.head
   have G1:Hid (Got (ZY Zbm) base [.slice A1 x.pattern.args.length c1] x.pattern.args L1 wr):=⟨⟨A1,c1,rfl,n1,(by unfold maxLen;omega),s1⟩,hown.tail⟩
   have bn1:Hid (b∉L1):=fun m=>hown.head (by simp [m])
   have sb1:Hid (∀y∈L1,y∈L1):=fun y m=>by simp [m]
   clear s1
   have HPut:=Lib.hid hput
   have HOwn:=Lib.hid hown
   have HLk:=Lib.hid hLk
   clear hput hown hLk hcells hkk hDl hDm
   simp only [show Yk.size=3 from rfl] at HEl HPut
   have q0:=HEl.out.at (j:=0) rfl
   have z0:=HEl.out.frozen (off+i * 3)
   have q1:=HEl.out.at (j:=1) rfl
   have z1:=HEl.out.frozen (off+i * 3+1)
   have q2:=HEl.out.at (j:=2) rfl
   have z2:=HEl.out.frozen (off+i * 3+2)
   simp only [Nat.add_zero] at q0
   have gm0:(0:Int)≤0:=by omega
   have mono_x_pattern_args:=Xl (kk+1+1) x.pattern.args
   go_wp2_with fail
   refine (Y7 _ _ (by omega) (by omega)).mono ?_
   rintro e w1 ⟨rfl,hb1⟩
   have HEl:=Lib.hid ((HEl.out.set 0 (by omega) (.int .i64 (kk))).later hb1)
   have G1:=Lib.hid ((G1.out.setFar (p:=⟨b,off+i * 3+0,none⟩) bn1.out (.int .i64 (kk))).later hb1)
   clear hb1
   clear q0 z0 q1 z1 q2 z2
   have q0:=HEl.out.at (j:=0) rfl
   have z0:=HEl.out.frozen (off+i * 3)
   have q1:=HEl.out.at (j:=1) rfl
   have z1:=HEl.out.frozen (off+i * 3+1)
   have q2:=HEl.out.at (j:=2) rfl
   have z2:=HEl.out.frozen (off+i * 3+2)
   simp only [Nat.add_zero] at q0
   go_wp2_with fail
   have G1:=Lib.hid (G1.out.setFar (p:=⟨b,off+i * 3+1,none⟩) bn1.out (.string (mTx (kk+1))))
   refine (Zcd A1 _ c1 x.pattern.args L1 base _ _ rfl (by omega) (by omega) G1.out).mono ?_
   rintro e w2 ⟨rfl,g2,on2⟩
   have HEl:=Lib.hid ((HEl.out.set 1 (by omega) (.string (mTx (kk+1)))).marked on2 sb1.out bn1.out)
   have G1:=Lib.hid g2
   clear g2 on2
   clear q0 z0 q1 z1 q2 z2
   have q0:=HEl.out.at (j:=0) rfl
   have z0:=HEl.out.frozen (off+i * 3)
   have q1:=HEl.out.at (j:=1) rfl
   have z1:=HEl.out.frozen (off+i * 3+1)
   have q2:=HEl.out.at (j:=2) rfl
   have z2:=HEl.out.frozen (off+i * 3+2)
   simp only [Nat.add_zero] at q0
   obtain ⟨nn1,mm1,ss1⟩:=ZU G1.out.rep
   have hO2:=Lib.hid (XO HOwn.out HEl.out.plain HEl.out.only (fun y m=>by (try simp only [List.mem_append] at m);exact G1.out.own.plain y m))
   have HGn:=Lib.hid (HPut.out _ _ (Zdj kk x) HEl.out.only HEl.out.cells HEl.out.rest ⟨A1,c1,L1,by simp [Zdj,Zai],rfl,ZcS _ (by omega),nn1,mm1,ss1⟩ hO2.out)
   have HOn:=Lib.hid (HO.out.trans (HEl.out.only.mono (fun y m=>by rcases List.mem_cons.1 m with rfl | m;exact hbL;exact HLk.out y m)))
   rw [hset.out] at HGn
   try simp only [Nat.add_zero] at HGn HOn
   clear HEl hO2 HPut G1 nn1 mm1 ss1
   go_wp2_with fail
   go_roundw
   case rel=>exact ⟨i+1,YH kk x,_,by omega,by go_num,rfl,by unfold YH;omega,HDn,HGn,HOn⟩
   case measure=>simp [intOf];omega
  ·obtain rfl:i=n:=by omega
   have e:Hid (ds.drop i=[]):=List.drop_of_length_le (by have:=HN.out;omega)
   have hf:Hid (YB k ds=kk∧D=XA k ds):=by
    obtain ⟨h1,h2,h3⟩:=HD.out
    rw [e.out] at h3 h1
    simp [XA] at h3
    exact ⟨h1.symm,h3⟩
   rw [e.out,List.append_nil] at HG
   go_wp2
   go_ret
   exact ⟨Yo hf.out.1.symm,by rw [←hf.out.2];exact HG.out,HO.out⟩
set_option maxRecDepth 100000 in
set_option maxHeartbeats 4000000 in
theorem ZlE (A:Option Addr) (n c:Nat) (ds:List Zf) (L:List Nat) (base:Nat) (k:Int) (w:World) (hn:n=ds.length) (hm:n≤9223372036854775807) (hk0:1≤k) (hk1:YC k ds≤4611686018427387904) (h:Got (ZY XU) base [.slice A n c] ds L w):
  Calls Tryz.prog 18 #[.slice A n c,.int .i64 k] w fun e w'=>e=.returned (.int .i64 (YC k ds))∧Got (ZY XU) base [.slice A n c] (Zco k ds) L w'∧YF L w w':=by
 have H:=Lib.hid h
 have HN:=Lib.hid hn
 have HK:=Lib.hid hk1
 clear h hn hk1
 go_enter Tryz.func18,Tryz.ntmps18
 go_wp2
 go_loopw [1,5] (fun q j wr=>∃(i:Nat) (kk:Int) (D:List Zf),i≤n∧j=.int .i64 i∧q=.int .i64 kk∧1≤kk∧Hid (YC kk (ds.drop i)=YC k ds∧D.length=i∧D++Zco kk (ds.drop i)=Zco k ds)∧Hid (Got (ZY XU) base [.slice A n c] (D++ds.drop i) L wr)∧Hid (YF L w wr)) (fun _ j _=>n - (intOf j).toNat)
 case atStart=>exact ⟨0,k,[],Nat.zero_le _,rfl,rfl,hk0,⟨rfl,rfl,rfl⟩,H.out,YF.refl _ _⟩
 case round=>
  obtain ⟨i,kk,D,hi,rfl,rfl,h1,HD,HG,HO⟩:=hrel
  by_cases hlt:i<n
  ·have hil:i<ds.length:=by have:=HN.out;omega
   obtain ⟨hkk,hDl,hDm⟩:=HD.out
   have hcl:i<(D++ds.drop i).length:=by simp;omega
   obtain ⟨b,off,cs,Lk,rfl,hbL,hLk,hown,hrep,hcells,hput⟩:=HG.out.focus hcl
   have hnext:Hid (ds.drop i=ds[i]::ds.drop (i+1)):=List.drop_eq_getElem_cons _
   have hxi:(D++ds.drop i)[i]=ds[i]:=by
    rw [List.getElem_append_right (by omega)];simp [hDl]
   rw [hxi] at hrep
   clear hxi
   generalize ds[i]=x at hrep hnext
   have hnb:Hid (XK kk x≤4611686018427387904):=by
    have:=ZhJ (XK kk x) (ds.drop (i+1))
    rw [hnext.out] at hkk
    have hk:=HK.out
    rw [←hkk] at hk
    exact Int.le_trans this hk
   have hnb1:=hnb.out
   have hnb2:=Zi4 kk x
   unfold XK at hnb1 hnb2
   have HDn:Hid (YC (XK kk x) (ds.drop (i+1))=YC k ds∧(D++[Zg2 kk x]).length=i+1∧(D++[Zg2 kk x])++Zco (XK kk x) (ds.drop (i+1))=Zco k ds):=by
    refine ⟨by rw [←hkk,hnext.out];rfl,by simp [hDl],?_⟩
    rw [←hDm,hnext.out];simp [Zco]
   have hset:Hid ((D++ds.drop i).set i (Zg2 kk x)=(D++[Zg2 kk x])++ds.drop (i+1)):=by
    rw [Hid,List.set_append_right _ _ (by omega),show i - D.length=0 by omega,hnext.out,List.set_cons_zero];simp
   obtain ⟨A1,c1,L1,A2,c2,L2,rfl,hLL,t0,n1,m1,s1,n2,m2,s2⟩:=hrep
   unfold maxLen at m1 m2
   subst hLL
   have HEl:=Lib.hid (ZbD.start (m:=4) hcells rfl hown)
   have hbn:=Lib.hid hown.head
   have G1:Hid (Got (ZY XV) base [.slice A1 x.cond.length c1] x.cond L1 wr):=⟨⟨A1,c1,rfl,n1,(by unfold maxLen;omega),s1⟩,hown.tail.left⟩
   have bn1:Hid (b∉L1):=fun m=>hown.head (by simp [m])
   have sb1:Hid (∀y∈L1,y∈L1++L2):=fun y m=>by simp [m]
   have ap1_2:Hid (∀y∈L1,y∉L2):=fun y m m'=>hown.tail.apart y m (by simp [m'])
   have ap2_1:Hid (∀y∈L2,y∉L1):=fun y m m'=>ap1_2.out y m' m
   have G2:Hid (Got (ZY Yk) base [.slice A2 x.thn.length c2] x.thn L2 wr):=⟨⟨A2,c2,rfl,n2,(by unfold maxLen;omega),s2⟩,hown.tail.right⟩
   have bn2:Hid (b∉L2):=fun m=>hown.head (by simp [m])
   have sb2:Hid (∀y∈L2,y∈L1++L2):=fun y m=>by simp [m]
   clear s1
   clear s2
   have HPut:=Lib.hid hput
   have HOwn:=Lib.hid hown
   have HLk:=Lib.hid hLk
   clear hput hown hLk hcells hkk hDl hDm
   simp only [show XU.size=4 from rfl] at HEl HPut
   have q0:=HEl.out.at (j:=0) rfl
   have z0:=HEl.out.frozen (off+i * 4)
   have q1:=HEl.out.at (j:=1) rfl
   have z1:=HEl.out.frozen (off+i * 4+1)
   have q2:=HEl.out.at (j:=2) rfl
   have z2:=HEl.out.frozen (off+i * 4+2)
   have q3:=HEl.out.at (j:=3) rfl
   have z3:=HEl.out.frozen (off+i * 4+3)
   simp only [Nat.add_zero] at q0
   have gm0:(0:Int)≤0:=by omega
   have mono_x_cond:=ZeT (kk+1+1) x.cond
   have mono_x_thn:=Zdb (Yz (kk+1+1) x.cond) x.thn
   go_wp2_with fail
   refine (Y7 _ _ (by omega) (by omega)).mono ?_
   rintro e w1 ⟨rfl,hb1⟩
   have HEl:=Lib.hid (HEl.out.later hb1)
   have G1:=Lib.hid (G1.out.later hb1)
   have G2:=Lib.hid (G2.out.later hb1)
   clear hb1
   clear q0 z0 q1 z1 q2 z2 q3 z3
   have q0:=HEl.out.at (j:=0) rfl
   have z0:=HEl.out.frozen (off+i * 4)
   have q1:=HEl.out.at (j:=1) rfl
   have z1:=HEl.out.frozen (off+i * 4+1)
   have q2:=HEl.out.at (j:=2) rfl
   have z2:=HEl.out.frozen (off+i * 4+2)
   have q3:=HEl.out.at (j:=3) rfl
   have z3:=HEl.out.frozen (off+i * 4+3)
   simp only [Nat.add_zero] at q0
   go_wp2_with fail
   have G1:=Lib.hid ((G1.out.setFar (p:=⟨b,off+i * 4+0,none⟩) bn1.out (.string (mTx (kk)))).setFar (p:=⟨b,off+i * 4+1,none⟩) bn1.out (.int .i64 (kk+1)))
   refine (Zl7 A1 _ c1 x.cond L1 base _ _ rfl (by omega) (by omega) (by omega) G1.out).mono ?_
   rintro e w2 ⟨rfl,g2,on2⟩
   have HEl:=Lib.hid (((HEl.out.set 0 (by omega) (.string (mTx (kk)))).set 1 (by omega) (.int .i64 (kk+1))).marked on2 sb1.out bn1.out)
   have G1:=Lib.hid g2
   have G2:=Lib.hid (((G2.out.setFar (p:=⟨b,off+i * 4+0,none⟩) bn2.out (.string (mTx (kk)))).setFar (p:=⟨b,off+i * 4+1,none⟩) bn2.out (.int .i64 (kk+1))).only on2 ap2_1.out)
   clear g2 on2
   clear q0 z0 q1 z1 q2 z2 q3 z3
   have q0:=HEl.out.at (j:=0) rfl
   have z0:=HEl.out.frozen (off+i * 4)
   have q1:=HEl.out.at (j:=1) rfl
   have z1:=HEl.out.frozen (off+i * 4+1)
   have q2:=HEl.out.at (j:=2) rfl
   have z2:=HEl.out.frozen (off+i * 4+2)
   have q3:=HEl.out.at (j:=3) rfl
   have z3:=HEl.out.frozen (off+i * 4+3)
   simp only [Nat.add_zero] at q0
   go_wp2_with fail
   refine (ZjG A2 _ c2 x.thn L2 base _ _ rfl (by omega) (by omega) (by omega) G2.out).mono ?_
   rintro e w3 ⟨rfl,g3,on3⟩
   have HEl:=Lib.hid (HEl.out.marked on3 sb2.out bn2.out)
   have G1:=Lib.hid (G1.out.only on3 ap1_2.out)
   have G2:=Lib.hid g3
   clear g3 on3
   clear q0 z0 q1 z1 q2 z2 q3 z3
   have q0:=HEl.out.at (j:=0) rfl
   have z0:=HEl.out.frozen (off+i * 4)
   have q1:=HEl.out.at (j:=1) rfl
   have z1:=HEl.out.frozen (off+i * 4+1)
   have q2:=HEl.out.at (j:=2) rfl
   have z2:=HEl.out.frozen (off+i * 4+2)
   have q3:=HEl.out.at (j:=3) rfl
   have z3:=HEl.out.frozen (off+i * 4+3)
   simp only [Nat.add_zero] at q0
   obtain ⟨nn1,mm1,ss1⟩:=ZU G1.out.rep
   obtain ⟨nn2,mm2,ss2⟩:=ZU G2.out.rep
   have hO2:=Lib.hid (XO HOwn.out HEl.out.plain HEl.out.only (fun y m=>by (try simp only [List.mem_append] at m);rcases m with m | m<;>first | exact G1.out.own.plain y m | exact G2.out.own.plain y m))
   have HGn:=Lib.hid (HPut.out _ _ (Zg2 kk x) HEl.out.only HEl.out.cells HEl.out.rest ⟨A1,c1,L1,A2,c2,L2,by simp [Zg2,ZoK,ZlZ],rfl,ZcS _ (by omega),nn1,mm1,ss1,nn2,mm2,ss2⟩ hO2.out)
   have HOn:=Lib.hid (HO.out.trans (HEl.out.only.mono (fun y m=>by rcases List.mem_cons.1 m with rfl | m;exact hbL;exact HLk.out y m)))
   rw [hset.out] at HGn
   try simp only [Nat.add_zero] at HGn HOn
   clear HEl hO2 HPut G1 G2 nn1 nn2 mm1 mm2 ss1 ss2
   go_wp2_with fail
   go_roundw
   case rel=>exact ⟨i+1,XK kk x,_,by omega,by go_num,rfl,by unfold XK;omega,HDn,HGn,HOn⟩
   case measure=>simp [intOf];omega
  ·obtain rfl:i=n:=by omega
   have e:Hid (ds.drop i=[]):=List.drop_of_length_le (by have:=HN.out;omega)
   have hf:Hid (YC k ds=kk∧D=Zco k ds):=by
    obtain ⟨h1,h2,h3⟩:=HD.out
    rw [e.out] at h3 h1
    simp [Zco] at h3
    exact ⟨h1.symm,h3⟩
   rw [e.out,List.append_nil] at HG
   go_wp2
   go_ret
   exact ⟨Yo hf.out.1.symm,by rw [←hf.out.2];exact HG.out,HO.out⟩
end Go.Proofs.YtojnhepgnbhaaaaGreatDoor
namespace Go.Proofs.YtojnhepgnbhaaaaGreatDoor
open Go.RowKit
theorem Zgt {w w1:World} {B:Nat} (h:Below w.drew.heap.size w.drew w1) (hB:B≤w.heap.size):Below B w w1:=⟨h.os,h.tape,h.output,h.size,fun k hk=>h.block k (Nat.lt_of_lt_of_le hk hB)⟩
set_option maxHeartbeats 1600000 in
theorem Zjx (A:Option Addr) (n c:Nat) (ds:List ByteArray) (L:List Nat) (k:Int) (w:World) (hn:n=ds.length) (hk0:1≤k) (hk1:ZG k ds≤4611686018427387904) (h:Sli Zbm w A (Ya k ds) L):
  Calls Tryz.prog 55 #[.slice A n c,.int .i64 k] w fun e w'=>e=.returned (.int .i64 (ZG k ds))∧Below w.heap.size w w':=by
 have H:=Lib.hid h
 have HN:=Lib.hid hn
 have hk1':k+n≤4611686018427387904:=by simp only [ZG] at hk1;omega
 clear h hn hk1
 go_enter Tryz.func55,Tryz.ntmps55
 go_wp2
 go_loopw [1,5] (fun q j wr=>∃(i:Nat) (kk:Int),i≤n∧j=.int .i64 i∧q=.int .i64 kk∧1≤kk∧kk+(n - i:Nat)≤4611686018427387904∧Hid (kk=k+i∧(Ya k ds).drop i=Ya kk (ds.drop i))∧Hid (Below w.heap.size w wr)) (fun _ j _=>n - (intOf j).toNat)
 case atStart=>exact ⟨0,k,Nat.zero_le _,rfl,rfl,hk0,by omega,⟨by omega,rfl⟩,Below.refl _ _⟩
 case round=>
  obtain ⟨i,kk,hi,rfl,rfl,h1,h2,HD,HB⟩:=hrel
  by_cases hlt:i<n
  ·have hil:i<ds.length:=by have:=HN.out;omega
   obtain ⟨hkk,hdr⟩:=HD.out
   have hml:i<(Ya k ds).length:=by rw [Zai];exact hil
   obtain ⟨b,off,cs,Lk,rfl,hbL,_,hrep,hc⟩:=H.out.at_ hml
   have hdr2:=hdr
   rw [List.drop_eq_getElem_cons hml,List.drop_eq_getElem_cons hil,Ya] at hdr2
   injection hdr2 with e1 e2
   rw [e1] at hrep
   obtain ⟨rfl,_,_⟩:=hrep
   have hbl:b<w.heap.size:=H.out.lt b hbL
   have hbr:b<wr.heap.size:=Nat.lt_of_lt_of_le hbl HB.out.size
   have q0:=(HB.out.cell (p:=⟨b,off+(i * Zbm.size+0),none⟩) hbl).trans (hc 0 _ rfl)
   simp only [show Zbm.size=1 from rfl,Nat.mul_one,Nat.add_zero] at q0
   have HDn:Hid (kk+1=k+(i+1:Nat)∧(Ya k ds).drop (i+1)=Ya (kk+1) (ds.drop (i+1))):=⟨by omega,e2⟩
   clear hc hkk hdr e1 e2
   have i0:(0:Int)≤i:=by omega
   have i1:(i:Int)<n:=by omega
   go_wp2_with fail
   go_region_held3 (fun w'=>w'.cell? ⟨b,off+i,none⟩=some (.string (mTx kk))) (first | go_keep | exact (hb1.cell (p:=⟨b,off+i,none⟩) hbr).trans q0) (first | (go_at_call 50;refine (Y7 _ _ (by omega) (by omega)).mono ?_;rintro e w1 ⟨rfl,hb1⟩))
   have HBn:=Lib.hid (HB.out.trans (Zgt hb1 HB.out.size))
   clear hb1
   go_wp2_with fail
   go_roundw
   case rel=>exact ⟨i+1,kk+1,by omega,by go_num,rfl,by omega,by omega,HDn,HBn⟩
   case measure=>simp [intOf];omega
  ·obtain rfl:i=n:=by omega
   have hf:Hid (ZG k ds=kk):=by
    obtain ⟨h1,_⟩:=HD.out
    have:=HN.out;rw [Hid];simp only [ZG];omega
   go_wp2
   go_ret
   exact ⟨Yo hf.out.symm,HB.out⟩
set_option maxRecDepth 100000 in
set_option maxHeartbeats 4000000 in
theorem ZgJ (A:Option Addr) (n c:Nat) (ds:List Zc) (L:List Nat) (k:Int) (w:World) (hn:n=ds.length) (hm:n≤9223372036854775807) (hk0:1≤k) (hk1:Zy k ds≤4611686018427387904) (h:Sli Y4 w A (Xp k ds) L):
  Calls Tryz.prog 21 #[.slice A n c,.int .i64 k] w fun e w'=>e=.returned (.int .i64 (Zy k ds))∧Below w.heap.size w w':=by
 have H:=Lib.hid h
 have HN:=Lib.hid hn
 have HK:=Lib.hid hk1
 clear h hn hk1
 go_enter Tryz.func21,Tryz.ntmps21
 go_wp2
 go_loopw [1,5] (fun q j wr=>∃(i:Nat) (kk:Int),i≤n∧j=.int .i64 i∧q=.int .i64 kk∧1≤kk∧Hid (Zy kk (ds.drop i)=Zy k ds∧(Xp k ds).drop i=Xp kk (ds.drop i))∧Hid (Below w.heap.size w wr)) (fun _ j _=>n - (intOf j).toNat)
 case atStart=>exact ⟨0,k,Nat.zero_le _,rfl,rfl,hk0,⟨rfl,rfl⟩,Below.refl _ _⟩
 case round=>
  obtain ⟨i,kk,hi,rfl,rfl,h1,HD,HB⟩:=hrel
  by_cases hlt:i<n
  ·have hil:i<ds.length:=by have:=HN.out;omega
   obtain ⟨hkk,hdr⟩:=HD.out
   have hml:i<(Xp k ds).length:=by rw [Zo1];exact hil
   obtain ⟨b,off,cs,Lk,rfl,hbL,hLk,hrep,hc⟩:=H.out.at_ hml
   rw [List.drop_eq_getElem_cons hml,List.drop_eq_getElem_cons hil,Xp] at hdr
   injection hdr with e1 e2
   rw [e1] at hrep
   clear e1
   have hnext:ds.drop i=ds[i]::ds.drop (i+1):=List.drop_eq_getElem_cons _
   rw [hnext] at hkk
   clear hnext
   generalize ds[i]=x at hrep hkk e2
   have hnb:Hid (Ys kk x≤4611686018427387904):=by
    have:=Zcq (Ys kk x) (ds.drop (i+1))
    have hk:=HK.out
    rw [←hkk] at hk
    exact Int.le_trans this hk
   have hnb1:=hnb.out
   have hnb2:=Zfn kk x
   unfold Ys at hnb1 hnb2
   have HDn:Hid (Zy (Ys kk x) (ds.drop (i+1))=Zy k ds∧(Xp k ds).drop (i+1)=Xp (Ys kk x) (ds.drop (i+1))):=⟨hkk,e2⟩
   have hbl:b<w.heap.size:=H.out.lt b hbL
   clear hkk e2
   obtain ⟨A1,c1,L1,rfl,hLL,t0,n1,m1,s1⟩:=hrep
   have S1:=Lib.hid s1
   have lL1:Hid (∀y∈L1,y<w.heap.size):=fun y m=>H.out.lt y (hLk y (by rw [hLL];simp [m]))
   have ll1:(Zfl kk x).args.length=x.args.length:=Zai _ _
   clear s1
   have Q0:=Lib.hid (hc 0 _ rfl)
   have Q1:=Lib.hid (hc 1 _ rfl)
   unfold maxLen at m1
   rw [ll1] at Q1 n1
   clear hc ll1
   have i0:(0:Int)≤i:=by omega
   have i1:(i:Int)<n:=by omega
   have mono_x_args:=Xl (kk+1) x.args
   have q0:wr.cell? ⟨b,off+i * 2,none⟩=some (.string (mTx (kk))):=(HB.out.cell (p:=⟨b,off+(i * 2+0),none⟩) hbl).trans Q0.out
   have q1:wr.cell? ⟨b,off+i * 2+1,none⟩=some (.slice A1 x.args.length c1):=(HB.out.cell (p:=⟨b,off+(i * 2+1),none⟩) hbl).trans Q1.out
   have hbr:b<wr.heap.size:=Nat.lt_of_lt_of_le hbl HB.out.size
   go_wp2_with fail
   go_region_held3 (fun w'=>w'.cell? ⟨b,off+i * 2,none⟩=some (.string (mTx (kk)))) (first | go_keep | exact (hb1.cell (p:=⟨b,off+i * 2,none⟩) hbr).trans q0) (first | (go_at_call 50;refine (Y7 _ _ (by omega) (by omega)).mono ?_;rintro e w1 ⟨rfl,hb1⟩))
   have HB:=Lib.hid (HB.out.trans (Zgt hb1 HB.out.size))
   clear hb1
   clear q0 q1
   have q0:w1.cell? ⟨b,off+i * 2,none⟩=some (.string (mTx (kk))):=(HB.out.cell (p:=⟨b,off+(i * 2+0),none⟩) hbl).trans Q0.out
   have q1:w1.cell? ⟨b,off+i * 2+1,none⟩=some (.slice A1 x.args.length c1):=(HB.out.cell (p:=⟨b,off+(i * 2+1),none⟩) hbl).trans Q1.out
   replace hbr:b<w1.heap.size:=Nat.lt_of_lt_of_le hbl HB.out.size
   go_wp2_with fail
   refine (Zjx A1 _ c1 x.args L1 _ _ rfl (by omega) (by omega) (S1.out.keep (ZN HB.out lL1.out))).mono ?_
   rintro e w2 ⟨rfl,hb2⟩
   have HB:=Lib.hid (HB.out.trans (hb2.mono HB.out.size))
   clear hb2
   clear q0 q1
   have q0:w2.cell? ⟨b,off+i * 2,none⟩=some (.string (mTx (kk))):=(HB.out.cell (p:=⟨b,off+(i * 2+0),none⟩) hbl).trans Q0.out
   have q1:w2.cell? ⟨b,off+i * 2+1,none⟩=some (.slice A1 x.args.length c1):=(HB.out.cell (p:=⟨b,off+(i * 2+1),none⟩) hbl).trans Q1.out
   replace hbr:b<w2.heap.size:=Nat.lt_of_lt_of_le hbl HB.out.size
   have ge2:¬(ZG (kk+1) x.args<0):=by omega
   go_wp2_with fail
   go_roundw
   case rel=>exact ⟨i+1,Ys kk x,by omega,by go_num,rfl,by unfold Ys;omega,HDn,HB⟩
   case measure=>simp [intOf];omega
  ·obtain rfl:i=n:=by omega
   have hf:Hid (Zy k ds=kk):=by
    obtain ⟨h1,_⟩:=HD.out
    rw [Hid,←h1,List.drop_of_length_le (by have:=HN.out;omega)];rfl
   go_wp2
   go_ret
   exact ⟨Yo hf.out.symm,HB.out⟩
end Go.Proofs.YtojnhepgnbhaaaaGreatDoor
namespace Go.Proofs.YtojnhepgnbhaaaaGreatDoor
open Go.RowKit Go.Deep
def ZhR {α:Type} (P:Program) (t:TypeId) (c:YL α) (wf:α→Prop):Prop:=
 ∀{H:Type} {enc:TypeId × Value→H} {w:World} {base:Nat} {spare:Nat→Bool} {held:Bool} {fuel:Nat} {cs:List Value} {x:DataW H × List MemPlace},
  DataW.trod enc P w base spare held fuel t cs=some x→∃d L,c.rep w cs d L∧wf d
theorem Zin {P:Program} {t:TypeId} (ht:P.underlying t=some (.int .i64)):ZhR P t Zgq Zjk:=by
 intro H enc w base spare held fuel cs x h
 obtain ⟨n,rfl,_,hw⟩:=DataW.trod_int ht h
 refine ⟨n,[],⟨rfl,rfl⟩,?_⟩
 simp [Lit.wf,IntKind.min,IntKind.max,IntKind.signed,IntKind.bits] at hw
 exact ⟨by omega,by omega⟩
theorem Qp {P:Program} {t:TypeId} (ht:P.underlying t=some .string):ZhR P t Zbm (fun _=>True):=by
 intro H enc w base spare held fuel cs x h
 obtain ⟨s,rfl,_,hs⟩:=DataW.trod_string ht h
 exact ⟨s,[],⟨rfl,rfl,by unfold maxLen at hs;omega⟩,trivial⟩
theorem ZaH {α:Type} {c:YL α} {wf:α→Prop} {P:Program} {t e:TypeId} (ht:P.underlying t=some (.slice e)) (hc:P.cellsOf e=c.size) (ho:ZhR P e c wf):ZhR P t (ZY c) (fun ds=>∀d∈ds,wf d):=by
 intro H enc w base spare held fuel cs x h
 rcases open_slice ht h with ⟨rfl,_⟩ | ⟨a,len,cap,m,n,D,Pl,rfl,hb,hl,hm,hmm,_,hx⟩
 ·exact ⟨[],[],⟨none,0,rfl,Nat.le_refl _,Nat.zero_le _,Sli.nil _ _⟩,by simp⟩
 ·have hlm:len≤m:=by rw [hmm];split<;>omega
  have key:∀q,q≤len→∃(xs:List Value) (ds:List α) (L:List Nat),ds.length=q∧(∀j u,xs[j]?=some u→w.cell? (a.add j)=some u)∧c.reps w xs ds L∧∀d∈ds,wf d:=by
   intro q
   induction q with
   | zero=>exact fun _=>⟨[],[],[],rfl,by simp,⟨rfl,rfl⟩,by simp⟩
   | succ q ih=>
    intro hq
    obtain ⟨xs,ds,L,hd,hcell,hr,hwf⟩:=ih (by omega)
    obtain ⟨cs',h1,h2⟩:=hx q (by omega)
    obtain ⟨d,Lq,hrep,hwd⟩:=ho h2
    obtain ⟨_,hlen,hat⟩:=World.cells?_some h1
    refine ⟨xs++cs',ds++[d],L++Lq,by simp [hd],fun j u hu=>?_,Zdz hr (Zjn hrep),?_⟩
    ·have hxl:xs.length=q * c.size:=by rw [ZfZ hr,hd]
     rw [List.getElem?_append] at hu
     split at hu
     ·exact hcell j u hu
     ·rename_i hj
      have hj2:=(List.getElem?_eq_some_iff.1 hu).1
      have:=hat (j - xs.length) (by omega)
      rw [←hu,←this,Go.Deep.add_add,hc,←hxl]
      congr 2
      omega
    ·intro y hy
     rcases List.mem_append.1 hy with hy | hy
     ·exact hwf y hy
     ·simp at hy;subst hy;exact hwd
  obtain ⟨xs,ds,L,hd,hcell,hr,hwf⟩:=key len (Nat.le_refl _)
  have hxl:=ZfZ hr
  rcases Nat.eq_zero_or_pos len with h0 | h0
  ·have:ds=[]:=List.eq_nil_of_length_eq_zero (by omega)
   subst this
   refine ⟨[],[],⟨some a,cap,by simp at hd;rw [←hd];rfl,by simp,hm,Sli.nil _ _⟩,by simp⟩
  ·obtain ⟨b,off,sp⟩:=a
   have hp:0<xs.length:=by rw [hxl,hd];exact Nat.mul_pos h0 c.pos
   have hsp:sp=none:=by
    have h1:=hcell 0 _ (List.getElem?_eq_getElem hp)
    have e:(⟨b,off,sp⟩:Addr).add 0=⟨b,off,sp⟩:=by simp [Addr.add]
    rw [e] at h1
    cases sp with
    | none=>rfl
    | some q=>
     simp only [World.cell?] at h1
     split at h1<;>simp at h1
   subst hsp
   refine ⟨ds,[b]++L,⟨some ⟨b,off,none⟩,cap,by rw [hd],by omega,hm,xs,[b],L,rfl,⟨by rw [hxl],.inr ⟨by omega,b,off,rfl,rfl,fun j u hu=>?_⟩⟩,hr⟩,hwf⟩
   have:=hcell j u hu
   rwa [ZcL] at this
end Go.Proofs.YtojnhepgnbhaaaaGreatDoor
