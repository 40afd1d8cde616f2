/- Texts of this proof, joined: Dp16, Dp17, Dp18, Dp19, Dp20, Dp21, Dp22, Dp23, BStd, Open, LawFnModel. What each holds is said at its theorems. -/
import Derived.Test.YtfehfkfdfmcgfaaGreatDoorModelQ6
import Derived.Test.YtfehfkfdfmcgfaaGreatDoorModelQ7
import Derived.Test.YtfehfkfdfmcgfaaGreatDoorModelQ5
import Derived.Test.YtfehfkfdfmcgfaaGreatDoorModelQ1
import Derived.Deep.Slices
import Derived.ChangeArms
import Derived.ProofKit
import Derived.Test.YtfehfkfdfmcgfaaGreatDoorModelQ4
set_option linter.unusedSimpArgs false
set_option linter.unusedVariables false
namespace Go.Proofs.YtfehfkfdfmcgfaaGreatDoor
open Go.Proofs.Tryz
set_option linter.unusedSimpArgs false
set_option linter.unusedVariables false
set_option maxRecDepth 1000000
set_option maxHeartbeats 4000000
theorem Zpa {append_0:Zg} {String_1:ByteArray} {a_2:ByteArray} {r:(Zg × Bool)} (h:ZeJ append_0 String_1 a_2=some r):Zk Tryz.prog J0 255 [(true,[.str append_0.name,.int .i64 append_0.priority,.nl 173 5,.nl 50 3]),(false,[.str String_1]),(false,[.str a_2])] [(true,[(false,.str r.1.name),(false,.int .i64 r.1.priority),(false,.sl 173 5 (List.map ZK r.1.cond)),(false,.sl 50 3 (List.map ZG r.1.thn))]),(false,[(false,.bool r.2)])]:=by
 refine fnk Tryz.func255 (by kernel_rfl) rfl (by kernel_rfl) (by kernel_rfl) ?_
 unfold ZeJ at h
 have ks0:Z9 ⟨#[32,38,32]⟩=true:=by decide
 simp only [fnS,f255,Zm,go_sem,seval,ks0]
 obtain ⟨v1,e1,h⟩:=Za h
 refine Zd (by have hh:=Qd e1;first|exact hh|(simp only [*,go_sem] at hh;exact hh)) ?_
 try simp only [*,go_sem,seval]
 refine Zi h (fun i row_6 st=>IV [(2,.p false [.c (.str a_2)]),(3,.bp 0 0),(6,.bp 2 0),(8,.p false [.row 3]),(9,.p false [.c (.int .i64 ((i:Nat):Int))])] [.box 42 [.c (.str append_0.name),.c (.int .i64 append_0.priority),.row 1,.nil 50 3],.row 173 5 (List.map ZK row_6) 2,.box 42 [.c (.str ⟨#[]⟩),.c (.int .i64 0),.nil 173 5,.nil 50 3],.row 9 1 (List.map Zx v1) 2] st) [(true,0,2)] [0,112,16,64] (by decide) ?_ ?_ ?_
 ·simp only [*,go_sem,seval]
 ·rintro i24 x25 row_6 ⟨sl,ob,n⟩ y2 hx3 hI4 hW5 h hy2
  simp only [go_sem,seval,Zc] at hI4
  obtain ⟨⟨g6_2,g6_3,g6_6,g6_8,g6_9⟩,og6_0,og6_1,og6_2,og6_3,hn⟩:=hI4
  subst hn
  have hlhx3:=WF.rowL hW5 og6_3
  have q7:=ZA hx3
  have q8:=ZC hx3
  have q9:=Zj (ZB hx3) hlhx3
  try simp only [*,go_sem,seval]
  obtain ⟨v26,e10,h⟩:=Za h
  refine Zd (by have hh:=ZlU e10;first|exact hh|(simp only [*,go_sem] at hh;exact hh)) ?_
  try simp only [*,go_sem,seval]
  refine Ze h (fun _ h=>?_) fun _ h=>?_<;>try simp only [*,go_sem,seval]
  ·obtain ⟨p12,h⟩:=Zq h
   try simp only [Nat.reduceLeDiff] at p12
   try simp only [*,go_sem,seval]
   refine ⟨_,[],[0,340,2,3],(Option.some.inj h).symm,by decide,?_⟩
   try simp only [*,go_sem,seval]
  ·replace h:=Zn h hy2
   cases h
   try simp only [*,go_sem,seval]
 ·rintro row_6 ⟨sl,ob,n⟩ hI13 hW14 h
  simp only [go_sem,seval,Zc] at hI13
  obtain ⟨⟨g15_2,g15_3,g15_6,g15_8,g15_9⟩,og15_0,og15_1,og15_2,og15_3,hn⟩:=hI13
  subst hn
  have q16:=Zy (v1.length)
  try simp only [*,go_sem,seval]
  obtain ⟨v27,e17,h⟩:=Za h
  refine Zd (by have hh:=Qd e17;first|exact hh|(simp only [*,go_sem] at hh;exact hh)) ?_
  try simp only [*,go_sem,seval]
  refine Zi h (fun i row_32 st=>IV [(3,.bp 0 0),(6,.bp 3 0),(12,.p false [.row 4]),(13,.p false [.c (.int .i64 ((i:Nat):Int))])] [.box 42 [.c (.str append_0.name),.c (.int .i64 append_0.priority),.row 1,.row 2],.row 173 5 (List.map ZK row_6) 2,.row 50 3 (List.map ZG row_32) 2,.box 42 [.c (.str ⟨#[]⟩),.c (.int .i64 0),.nil 173 5,.nil 50 3],.row 9 1 (List.map Zx v27) 2] st) [(true,0,3)] [0,1,132,2,84] (by decide) ?_ ?_ ?_
  ·simp only [*,go_sem,seval]
  ·rintro i37 x38 row_32 ⟨sl,ob,n⟩ y18 hx19 hI20 hW21 h hy18
   simp only [go_sem,seval,Zc] at hI20
   obtain ⟨⟨g22_3,g22_6,g22_12,g22_13⟩,og22_0,og22_1,og22_2,og22_3,og22_4,hn⟩:=hI20
   subst hn
   have hlhx19:=WF.rowL hW21 og22_4
   have q23:=ZA hx19
   have q24:=ZC hx19
   have q25:=Zj (ZB hx19) hlhx19
   try simp only [*,go_sem,seval]
   obtain ⟨v39,e26,h⟩:=Za h
   refine Zd (by have hh:=Zng e26;first|exact hh|(simp only [*,go_sem] at hh;exact hh)) ?_
   try simp only [*,go_sem,seval]
   refine Ze h (fun _ h=>?_) fun _ h=>?_<;>try simp only [*,go_sem,seval]
   ·obtain ⟨p28,h⟩:=Zq h
    try simp only [Nat.reduceLeDiff] at p28
    try simp only [*,go_sem,seval]
    refine ⟨_,[],[0,1,341,3,4],(Option.some.inj h).symm,by decide,?_⟩
    try simp only [*,go_sem,seval]
   ·replace h:=Zn h hy18
    cases h
    try simp only [*,go_sem,seval]
  ·rintro row_32 ⟨sl,ob,n⟩ hI29 hW30 h
   simp only [go_sem,seval,Zc] at hI29
   obtain ⟨⟨g31_3,g31_6,g31_12,g31_13⟩,og31_0,og31_1,og31_2,og31_3,og31_4,hn⟩:=hI29
   subst hn
   have q32:=Zy (v27.length)
   try simp only [*,go_sem,seval]
   obtain ⟨v40,e33,h⟩:=Za h
   refine Zd (by have hh:=ZgS e33;first|exact hh|(simp only [*,go_sem] at hh;exact hh)) ?_
   cases h
   try simp only [*,go_sem,seval]
theorem ZkJ {rules_0:(List Zg)} {r:Bool} (h:Zbt rules_0=some r):Zk Tryz.prog J0 82 [(false,[.sl 42 4 (List.map ZF rules_0)])] [(false,[(false,.bool r)])]:=by
 refine fnk Tryz.func82 (by kernel_rfl) rfl (by kernel_rfl) (by kernel_rfl) ?_
 unfold Zbt at h
 simp only [fnS,f82,Zm,go_sem,seval]
 obtain ⟨v1,e1,h⟩:=Za h
 refine Zd (by have hh:=Zer e1;first|exact hh|(simp only [*,go_sem] at hh;exact hh)) ?_
 try simp only [*,go_sem,seval]
 refine Ze h (fun _ h=>?_) fun _ h=>?_<;>try simp only [*,go_sem,seval]
 ·refine Zi h (fun i _ st=>IV [(0,.p false [.c (.sl 42 4 (List.map ZF rules_0))]),(13,.p false [.c (.sl 42 4 (List.map ZF rules_0))]),(14,.p false [.c (.int .i64 ((rules_0.length:Nat):Int))]),(15,.p false [.c (.int .i64 ((i:Nat):Int))])] [] st) [] [] (by decide) ?_ ?_ ?_
  ·simp only [*,go_sem,seval]
  ·rintro i59 x60 ⟨⟩ ⟨sl,ob,n⟩ y3 hx4 hI5 hW6 h hy3
   simp only [go_sem,seval,Zc] at hI5
   obtain ⟨⟨g7_0,g7_13,g7_14,g7_15⟩,hn⟩:=hI5
   subst hn
   have hlhx4:=WF.slotL hW6 g7_0 (j:=0) rfl
   have q8:=ZA hx4
   have q9:=ZC hx4
   have q10:=Zj (ZB hx4) hlhx4
   try simp only [*,go_sem,seval]
   obtain ⟨v61,e11,h⟩:=Za h
   refine Zd (by have hh:=Zmf e11;first|exact hh|(simp only [*,go_sem] at hh;exact hh)) ?_
   try simp only [*,go_sem,seval]
   refine Ze h (fun _ h=>?_) fun _ h=>?_<;>try simp only [*,go_sem,seval]
   ·refine Zi h (fun i _ st=>IV [(0,.p false [.c (.sl 42 4 (List.map ZF rules_0))]),(4,.bp 0 0),(13,.p false [.c (.sl 42 4 (List.map ZF rules_0))]),(14,.p false [.c (.int .i64 ((rules_0.length:Nat):Int))]),(15,.p false [.c (.int .i64 ((i59:Nat):Int))]),(23,.p false [.c (.sl 173 5 (List.map ZK x60.cond))]),(24,.p false [.c (.int .i64 ((x60.cond.length:Nat):Int))]),(25,.p false [.c (.int .i64 ((i:Nat):Int))])] [.box 42 [.c (.str x60.name),.c (.int .i64 x60.priority),.c (.sl 173 5 (List.map ZK x60.cond)),.c (.sl 50 3 (List.map ZG x60.thn))]] st) [] [48] (by decide) ?_ ?_ ?_
    ·simp only [*,go_sem,seval]
    ·rintro i79 x80 ⟨⟩ ⟨sl,ob,n⟩ y13 hx14 hI15 hW16 h hy13
     simp only [go_sem,seval,Zc] at hI15
     obtain ⟨⟨g17_0,g17_4,g17_13,g17_14,g17_15,g17_23,g17_24,g17_25⟩,og17_0,hn⟩:=hI15
     subst hn
     have hlhx14:=WF.slotL hW16 g17_23 (j:=0) rfl
     have q18:=ZA hx14
     have q19:=ZC hx14
     have q20:=Zj (ZB hx14) hlhx14
     try simp only [*,go_sem,seval]
     refine Ze h (fun _ h=>?_) fun _ h=>?_<;>try simp only [*,go_sem,seval]
     ·refine ⟨_,[],[0],(Option.some.inj h).symm,by decide,?_⟩
      try simp only [*,go_sem,seval]
     ·obtain ⟨v81,e22,h⟩:=Za h
      refine ZA1 (by have hh:=Znl e22;first|exact hh|(simp only [*,go_sem] at hh;exact hh)) ?_
      try simp only [*,go_sem,seval]
      obtain ⟨v82,e23,h⟩:=Za h
      refine Zd (by have hh:=ZhN e23;first|exact hh|(simp only [*,go_sem] at hh;exact hh)) ?_
      try simp only [*,go_sem,seval]
      refine Zi h (fun i _ st=>IV [(0,.p false [.c (.sl 42 4 (List.map ZF rules_0))]),(4,.bp 0 0),(6,.bp 1 0),(7,.p false [.row 2]),(13,.p false [.c (.sl 42 4 (List.map ZF rules_0))]),(14,.p false [.c (.int .i64 ((rules_0.length:Nat):Int))]),(15,.p false [.c (.int .i64 ((i59:Nat):Int))]),(23,.p false [.c (.sl 173 5 (List.map ZK x60.cond))]),(24,.p false [.c (.int .i64 ((x60.cond.length:Nat):Int))]),(25,.p false [.c (.int .i64 ((i79:Nat):Int))]),(38,.p false [.row 3]),(39,.p false [.c (.int .i64 ((v82.length:Nat):Int))]),(40,.p false [.c (.int .i64 ((i:Nat):Int))])] [.box 42 [.c (.str x60.name),.c (.int .i64 x60.priority),.c (.sl 173 5 (List.map ZK x60.cond)),.c (.sl 50 3 (List.map ZG x60.thn))],.box 173 [.c (.int .i64 x80.kind),.c (.str x80.pattern.rel),.c (.sl 9 1 (List.map Zx x80.pattern.args)),.c (.str x80.left),.c (.str x80.right)],.map .str .bool (List.map eSB v81),.row 9 1 (List.map Zx v82) 2] st) [] [0,49,193,241] (by decide) ?_ ?_ ?_
      ·simp only [*,go_sem,seval]
      ·rintro i86 x87 ⟨⟩ ⟨sl,ob,n⟩ y24 hx25 hI26 hW27 h hy24
       simp only [go_sem,seval,Zc] at hI26
       obtain ⟨⟨g28_0,g28_4,g28_6,g28_7,g28_13,g28_14,g28_15,g28_23,g28_24,g28_25,g28_38,g28_39,g28_40⟩,og28_0,og28_1,og28_2,og28_3,hn⟩:=hI26
       subst hn
       have hlhx25:=WF.rowL hW27 og28_3
       have q29:=ZA hx25
       have q30:=ZC hx25
       have q31:=Zj (ZB hx25) hlhx25
       try simp only [*,go_sem,seval]
       refine Ze h (fun _ h=>?_) fun _ h=>?_<;>try simp only [*,go_sem,seval]
       ·replace h:=Zn h hy24
        replace h:=Zn h hy13
        replace h:=Zn h hy3
        cases h
        try simp only [*,go_sem,seval]
       ·refine Ze h (fun _ h=>?_) fun _ h=>?_<;>try simp only [*,go_sem,seval]
        ·replace h:=Zn h hy24
         replace h:=Zn h hy13
         replace h:=Zn h hy3
         cases h
         try simp only [*,go_sem,seval]
        ·refine ⟨_,[],[0,1,2,3],(Option.some.inj h).symm,by decide,?_⟩
         try simp only [*,go_sem,seval]
      ·rintro ⟨⟩ ⟨sl,ob,n⟩ hI34 hW35 h
       simp only [go_sem,seval,Zc] at hI34
       obtain ⟨⟨g36_0,g36_4,g36_6,g36_7,g36_13,g36_14,g36_15,g36_23,g36_24,g36_25,g36_38,g36_39,g36_40⟩,og36_0,og36_1,og36_2,og36_3,hn⟩:=hI34
       subst hn
       have q37:=Zy (v82.length)
       try simp only [*,go_sem,seval]
       refine ⟨_,[],[0],(Option.some.inj h).symm,by decide,?_⟩
       try simp only [*,go_sem,seval]
    ·rintro ⟨⟩ ⟨sl,ob,n⟩ hI38 hW39 h
     simp only [go_sem,seval,Zc] at hI38
     obtain ⟨⟨g40_0,g40_4,g40_13,g40_14,g40_15,g40_23,g40_24,g40_25⟩,og40_0,hn⟩:=hI38
     subst hn
     have q41:=Zy (x60.cond.length)
     try simp only [*,go_sem,seval]
     refine ⟨_,[],[],(Option.some.inj h).symm,by decide,?_⟩
     try simp only [*,go_sem,seval]
   ·replace h:=Zn h hy3
    cases h
    try simp only [*,go_sem,seval]
  ·rintro ⟨⟩ ⟨sl,ob,n⟩ hI42 hW43 h
   simp only [go_sem,seval,Zc] at hI42
   obtain ⟨⟨g44_0,g44_13,g44_14,g44_15⟩,hn⟩:=hI42
   subst hn
   have q45:=Zy (rules_0.length)
   cases h
   try simp only [*,go_sem,seval]
 ·cases h
  try simp only [*,go_sem,seval]
theorem Zet {append_0:(List Zt)} {String_1:(List Zb)} {r:(List Zu)} (h:QU append_0 String_1=some r):Zk Tryz.prog J0 84 [(false,[.sl 173 5 (List.map ZK append_0)]),(false,[.sl 45 2 (List.map Zl String_1)])] [(false,[(true,.sl 120 2 (List.map YK r))])]:=by
 refine fnk Tryz.func84 (by kernel_rfl) rfl (by kernel_rfl) (by kernel_rfl) ?_
 unfold QU at h
 simp only [fnS,f84,Zm,go_sem,seval]
 refine Zi h (fun i row_151 st=>IV [(1,.p false [.c (.sl 45 2 (List.map Zl String_1))]),(5,.p false [.row 0]),(17,.p false [.c (.sl 173 5 (List.map ZK append_0))]),(18,.p false [.c (.int .i64 ((append_0.length:Nat):Int))]),(19,.p false [.c (.int .i64 ((i:Nat):Int))])] [.row 120 2 (List.map YK row_151) 1] st) [(true,32,1)] [32] (by decide) ?_ ?_ ?_
 ·simp only [*,go_sem,seval]
 ·rintro i246 x247 row_151 ⟨sl,ob,n⟩ y1 hx2 hI3 hW4 h hy1
  simp only [go_sem,seval,Zc] at hI3
  obtain ⟨⟨g5_1,g5_5,g5_17,g5_18,g5_19⟩,og5_0,hn⟩:=hI3
  subst hn
  have hlhx2:=WF.slotL hW4 g5_17 (j:=0) rfl
  have q6:=ZA hx2
  have q7:=ZC hx2
  have q8:=Zj (ZB hx2) hlhx2
  try simp only [*,go_sem,seval]
  refine Zi h (fun i row_303 st=>IV [(1,.p false [.c (.sl 45 2 (List.map Zl String_1))]),(7,.bp 0 0),(8,.p false [.row 1]),(17,.p false [.c (.sl 173 5 (List.map ZK append_0))]),(18,.p false [.c (.int .i64 ((append_0.length:Nat):Int))]),(19,.p false [.c (.int .i64 ((i246:Nat):Int))]),(23,.p false [.row 2]),(24,.p false [.c (.int .i64 ((row_151.length:Nat):Int))]),(25,.p false [.c (.int .i64 ((i:Nat):Int))])] [.box 173 [.c (.int .i64 x247.kind),.c (.str x247.pattern.rel),.c (.sl 9 1 (List.map Zx x247.pattern.args)),.c (.str x247.left),.c (.str x247.right)],.row 120 2 (List.map YK row_303) 1,.row 120 2 (List.map YK row_151) 1] st) [(false,8,0),(true,145,1)] [49,145,0] (by decide) ?_ ?_ ?_
  ·simp only [*,go_sem,seval]
  ·rintro i322 x323 row_303 ⟨sl,ob,n⟩ y9 hx10 hI11 hW12 h hy9
   simp only [go_sem,seval,Zc] at hI11
   obtain ⟨⟨g13_1,g13_7,g13_8,g13_17,g13_18,g13_19,g13_23,g13_24,g13_25⟩,og13_0,og13_1,og13_2,hn⟩:=hI11
   subst hn
   have hlhx10:=WF.rowL hW12 og13_2
   have q14:=ZA hx10
   have q15:=ZC hx10
   have q16:=Zj (ZB hx10) hlhx10
   try simp only [*,go_sem,seval]
   refine Ze h (fun _ h=>?_) fun _ h=>?_<;>try simp only [*,go_sem,seval]
   ·obtain ⟨v324,e18,h⟩:=Za h
    refine Zd (by have hh:=Zll e18;first|exact hh|(simp only [*,go_sem] at hh;exact hh)) ?_
    try simp only [*,go_sem,seval]
    refine Ze h (fun _ h=>?_) fun _ h=>?_<;>try simp only [*,go_sem,seval]
    ·obtain ⟨p20,h⟩:=Zq h
     try simp only [Nat.reduceLeDiff] at p20
     try simp only [*,go_sem,seval]
     refine ⟨_,[],[0,259,2],(Option.some.inj h).symm,by decide,?_⟩
     try simp only [*,go_sem,seval]
    ·refine ⟨_,[],[0,1,2],(Option.some.inj h).symm,by decide,?_⟩
     try simp only [*,go_sem,seval]
   ·refine Zi h (fun i row_329 st=>IV [(1,.p false [.c (.sl 45 2 (List.map Zl String_1))]),(7,.bp 0 0),(8,.p false [.row 1]),(10,.bp 2 0),(17,.p false [.c (.sl 173 5 (List.map ZK append_0))]),(18,.p false [.c (.int .i64 ((append_0.length:Nat):Int))]),(19,.p false [.c (.int .i64 ((i246:Nat):Int))]),(23,.p false [.row 3]),(24,.p false [.c (.int .i64 ((row_151.length:Nat):Int))]),(25,.p false [.c (.int .i64 ((i322:Nat):Int))]),(41,.p false [.c (.sl 45 2 (List.map Zl String_1))]),(42,.p false [.c (.int .i64 ((String_1.length:Nat):Int))]),(43,.p false [.c (.int .i64 ((i:Nat):Int))])] [.box 173 [.c (.int .i64 x247.kind),.c (.str x247.pattern.rel),.c (.sl 9 1 (List.map Zx x247.pattern.args)),.c (.str x247.left),.c (.str x247.right)],.row 120 2 (List.map YK row_329) 1,.box 120 [.c (.sl 45 2 (List.map Zl x323.facts)),.c (.sl 166 2 (List.map Z4 x323.binding))],.row 120 2 (List.map YK row_151) 1] st) [] [0,1,51,2] (by decide) ?_ ?_ ?_
    ·simp only [*,go_sem,seval]
    ·rintro i335 x336 row_329 ⟨sl,ob,n⟩ y21 hx22 hI23 hW24 h hy21
     simp only [go_sem,seval,Zc] at hI23
     obtain ⟨⟨g25_1,g25_7,g25_8,g25_10,g25_17,g25_18,g25_19,g25_23,g25_24,g25_25,g25_41,g25_42,g25_43⟩,og25_0,og25_1,og25_2,og25_3,hn⟩:=hI23
     subst hn
     have hlhx22:=WF.slotL hW24 g25_1 (j:=0) rfl
     have q26:=ZA hx22
     have q27:=ZC hx22
     have q28:=Zj (ZB hx22) hlhx22
     try simp only [*,go_sem,seval]
     obtain ⟨v337,e29,h⟩:=Za h
     refine Zd (by have hh:=ZgE e29;first|exact hh|(simp only [*,go_sem] at hh;exact hh)) ?_
     try simp only [*,go_sem,seval]
     refine Ze h (fun _ h=>?_) fun _ h=>?_<;>try simp only [*,go_sem,seval]
     ·obtain ⟨v338,e31,h⟩:=Za h
      refine Zd (by have hh:=ZgI e31;first|exact hh|(simp only [*,go_sem] at hh;exact hh)) ?_
      try simp only [*,go_sem,seval]
      obtain ⟨v339,e32,h⟩:=Za h
      refine Zd (by have hh:=YO e32;first|exact hh|(simp only [*,go_sem] at hh;exact hh)) ?_
      obtain ⟨p33,h⟩:=Zq h
      try simp only [Nat.reduceLeDiff] at p33
      obtain ⟨p34,h⟩:=Zq h
      try simp only [Nat.reduceLeDiff] at p34
      try simp only [*,go_sem,seval]
      refine ⟨_,[],[0,452,2,3],(Option.some.inj h).symm,by decide,?_⟩
      try simp only [*,go_sem,seval]
     ·refine ⟨_,[],[0,1,2,3],(Option.some.inj h).symm,by decide,?_⟩
      try simp only [*,go_sem,seval]
    ·rintro row_329 ⟨sl,ob,n⟩ hI35 hW36 h
     simp only [go_sem,seval,Zc] at hI35
     obtain ⟨⟨g37_1,g37_7,g37_8,g37_10,g37_17,g37_18,g37_19,g37_23,g37_24,g37_25,g37_41,g37_42,g37_43⟩,og37_0,og37_1,og37_2,og37_3,hn⟩:=hI35
     subst hn
     have q38:=Zy (String_1.length)
     try simp only [*,go_sem,seval]
     refine ⟨_,[],[0,1,3],(Option.some.inj h).symm,by decide,?_⟩
     try simp only [*,go_sem,seval]
  ·rintro row_303 ⟨sl,ob,n⟩ hI39 hW40 h
   simp only [go_sem,seval,Zc] at hI39
   obtain ⟨⟨g41_1,g41_7,g41_8,g41_17,g41_18,g41_19,g41_23,g41_24,g41_25⟩,og41_0,og41_1,og41_2,hn⟩:=hI39
   subst hn
   have q42:=Zy (row_151.length)
   try simp only [*,go_sem,seval]
   refine ⟨_,[],[1],(Option.some.inj h).symm,by decide,?_⟩
   try simp only [*,go_sem,seval]
 ·rintro row_151 ⟨sl,ob,n⟩ hI43 hW44 h
  simp only [go_sem,seval,Zc] at hI43
  obtain ⟨⟨g45_1,g45_5,g45_17,g45_18,g45_19⟩,og45_0,hn⟩:=hI43
  subst hn
  have q46:=Zy (append_0.length)
  cases h
  try simp only [*,go_sem,seval]
theorem ZlW {r_0:Zg} {r:Bool} (h:Zcx r_0=some r):Zk Tryz.prog J0 234 [(true,ZF r_0)] [(false,[(false,.bool r)])]:=by
 refine fnk Tryz.func234 (by kernel_rfl) rfl (by kernel_rfl) (by kernel_rfl) ?_
 unfold Zcx at h
 simp only [fnS,f234,Zm,go_sem,seval]
 obtain ⟨A,k,h⟩:=Za h
 refine Zd (ZgS k) ?_
 try simp only [*,go_sem,seval]
 refine Ze h (fun _ h=>?_) fun _ h=>?_<;>try simp only [*,go_sem,seval]
 refine Zi h (fun i _ st=>IV [(1,.bp 0 0),(3,.p false [.c (.int .i64 ((i:Nat):Int))])] [.box 42 [.c (.str r_0.name),.c (.int .i64 r_0.priority),.c (.sl 173 5 (List.map ZK r_0.cond)),.c (.sl 50 3 (List.map ZG r_0.thn))]] st) [] [0] (by decide) ?_ ?_ ?_
 simp only [*,go_sem,seval]
 rintro B C ⟨⟩ ⟨sl,ob,n⟩ D a d l h m
 simp only [go_sem,seval,Zc] at d
 obtain ⟨⟨E,F⟩,o,hn⟩:=d
 subst hn
 have q:=WF.boxL l o (j:=2) rfl
 have G:=ZA a
 have H:=ZC a
 have I:=Zj (ZB a) q
 try simp only [*,go_sem,seval]
 refine Ze h (fun _ h=>?_) fun _ h=>?_<;>try simp only [*,go_sem,seval]
 obtain ⟨J,t,h⟩:=Za h
 refine Zd (Zas t) ?_
 try simp only [*,go_sem,seval]
 obtain ⟨K,u,h⟩:=Za h
 refine Zd (Zbq u) ?_
 try simp only [*,go_sem,seval]
 obtain ⟨L,v,h⟩:=Za h
 refine Zd (Znk v) ?_
 try simp only [*,go_sem,seval]
 refine Ze h (fun _ h=>?_) fun _ h=>?_<;>try simp only [*,go_sem,seval]
 refine ⟨_,[],[0],(Option.some.inj h).symm,by decide,?_⟩
 try simp only [*,go_sem,seval]
 replace h:=Zn h m
 cases h
 try simp only [*,go_sem,seval]
 refine ⟨_,[],[0],(Option.some.inj h).symm,by decide,?_⟩
 try simp only [*,go_sem,seval]
 rintro ⟨⟩ ⟨sl,ob,n⟩ e M h
 simp only [go_sem,seval,Zc] at e
 obtain ⟨⟨N,O⟩,P,hn⟩:=e
 subst hn
 have Q:=Zy (r_0.cond.length)
 try simp only [*,go_sem,seval]
 refine Zi h (fun i _ st=>IV [(1,.bp 0 0),(4,.p false [.c (.int .i64 ((i:Nat):Int))])] [.box 42 [.c (.str r_0.name),.c (.int .i64 r_0.priority),.c (.sl 173 5 (List.map ZK r_0.cond)),.c (.sl 50 3 (List.map ZG r_0.thn))]] st) [] [0] (by decide) ?_ ?_ ?_
 simp only [*,go_sem,seval]
 rintro R S ⟨⟩ ⟨sl,ob,n⟩ T b f w h x
 simp only [go_sem,seval,Zc] at f
 obtain ⟨⟨U,V⟩,y,hn⟩:=f
 subst hn
 have z:=WF.boxL w y (j:=3) rfl
 have W:=ZA b
 have X:=ZC b
 have Y:=Zj (ZB b) z
 try simp only [*,go_sem,seval]
 refine Ze h (fun _ h=>?_) fun _ h=>?_<;>try simp only [*,go_sem,seval]
 replace h:=Zn h x
 cases h
 try simp only [*,go_sem,seval]
 refine ⟨_,[],[0],(Option.some.inj h).symm,by decide,?_⟩
 try simp only [*,go_sem,seval]
 rintro ⟨⟩ ⟨sl,ob,n⟩ g Z h
 simp only [go_sem,seval,Zc] at g
 obtain ⟨⟨aa,ab⟩,ac,hn⟩:=g
 subst hn
 have ad:=Zy (r_0.thn.length)
 iterate 2 (cases h;try simp only [*,go_sem,seval])
theorem Zm3 {l_0:(List Zg)} {r:Bool} (h:ZdU l_0=some r):Zk Tryz.prog J0 237 [(false,[.sl 42 4 (List.map ZF l_0)])] [(false,[(false,.bool r)])]:=by
 refine fnk Tryz.func237 (by kernel_rfl) rfl (by kernel_rfl) (by kernel_rfl) ?_
 unfold ZdU at h
 simp only [fnS,f237,Zm,go_sem,seval]
 refine Zi h (fun i _ st=>IV [(0,.p false [.c (.sl 42 4 (List.map ZF l_0))]),(3,.p false [.c (.int .i64 ((i:Nat):Int))])] [] st) [] [] (by decide) ?_ ?_ ?_
 simp only [*,go_sem,seval]
 rintro o q ⟨⟩ ⟨sl,ob,n⟩ t a b f h d
 simp only [go_sem,seval,Zc] at b
 obtain ⟨⟨g,u⟩,hn⟩:=b
 subst hn
 have k:=WF.slotL f g (j:=0) rfl
 have v:=ZA a
 have w:=ZC a
 have x:=Zj (ZB a) k
 try simp only [*,go_sem,seval]
 obtain ⟨y,l,h⟩:=Za h
 refine Zd (ZgS l) ?_
 try simp only [*,go_sem,seval]
 refine Ze h (fun _ h=>?_) fun _ h=>?_<;>try simp only [*,go_sem,seval]
 obtain ⟨z,m,h⟩:=Za h
 refine Zd (ZhP m) ?_
 try simp only [*,go_sem,seval]
 refine Ze h (fun _ h=>?_) fun _ h=>?_<;>try simp only [*,go_sem,seval]
 replace h:=Zn h d
 cases h
 try simp only [*,go_sem,seval]
 refine ⟨_,[],[],(Option.some.inj h).symm,by decide,?_⟩
 try simp only [*,go_sem,seval]
 replace h:=Zn h d
 cases h
 try simp only [*,go_sem,seval]
 rintro ⟨⟩ ⟨sl,ob,n⟩ e A h
 simp only [go_sem,seval,Zc] at e
 obtain ⟨⟨B,C⟩,hn⟩:=e
 subst hn
 have D:=Zy (l_0.length)
 cases h
 try simp only [*,go_sem,seval]
theorem ZkW {x_0:Zt} {b_1:(List Zs)} {facts_2:(List Zb)} {r:Bool} (h:Zcl x_0 b_1 facts_2=some r):Zk Tryz.prog J0 278 [(true,ZK x_0),(false,[.sl 166 2 (List.map Z4 b_1)]),(false,[.sl 45 2 (List.map Zl facts_2)])] [(false,[(false,.bool r)])]:=by
 refine fnk Tryz.func278 (by kernel_rfl) rfl (by kernel_rfl) (by kernel_rfl) ?_
 unfold Zcl at h
 simp only [fnS,f278,Zm,go_sem,seval]
 obtain ⟨f,a,h⟩:=Za h
 refine Zd (Zem a) ?_
 try simp only [*,go_sem,seval]
 refine Ze h (fun _ h=>?_) fun _ h=>?_<;>try simp only [*,go_sem,seval]
 obtain ⟨g,b,h⟩:=Za h
 refine Zd (QX b) ?_
 try simp only [*,go_sem,seval]
 iterate 2 refine Ze h (fun _ h=>?_) fun _ h=>?_<;>try simp only [*,go_sem,seval]
 obtain ⟨i,c,h⟩:=Za h
 refine Zd (ZdS c) ?_
 cases h
 try simp only [*,go_sem,seval]
 refine Ze h (fun _ h=>?_) fun _ h=>?_<;>try simp only [*,go_sem,seval]
 obtain ⟨j,d,h⟩:=Za h
 refine Zd (ZdS d) ?_
 cases h
 try simp only [*,go_sem,seval]
 obtain ⟨k,e,h⟩:=Za h
 refine Zd (Zk7 e) ?_
 iterate 3 (cases h;try simp only [*,go_sem,seval])
end Go.Proofs.YtfehfkfdfmcgfaaGreatDoor
namespace Go.Proofs.YtfehfkfdfmcgfaaGreatDoor
open Go.Proofs.Tryz
set_option linter.unusedSimpArgs false
set_option linter.unusedVariables false
set_option maxRecDepth 1000000
set_option maxHeartbeats 4000000
theorem ZgT {s_0:ByteArray} {r:(Zg × Bool)} (h:QD s_0=some r):Zk Tryz.prog J0 189 [(false,[.str s_0])] [(true,[(false,.str r.1.name),(false,.int .i64 r.1.priority),(false,.sl 173 5 (List.map ZK r.1.cond)),(false,.sl 50 3 (List.map ZG r.1.thn))]),(false,[(false,.bool r.2)])]:=by
 refine fnk Tryz.func189 (by kernel_rfl) rfl (by kernel_rfl) (by kernel_rfl) ?_
 unfold QD at h
 have a:Z9 ⟨#[32,45,62,32]⟩=true:=by decide
 have b:Z9 ⟨#[32]⟩=true:=by decide
 have c:Z9 ⟨#[58,32]⟩=true:=by decide
 simp only [fnS,f189,Zm,go_sem,seval,a,b,c]
 obtain ⟨q,d,h⟩:=Za h
 refine Zd (Qd d) ?_
 try simp only [*,go_sem,seval]
 refine Ze h (fun _ h=>?_) fun _ h=>?_<;>try simp only [*,go_sem,seval]
 cases h
 try simp only [*,go_sem,seval]
 obtain ⟨t,h⟩:=Zq h
 obtain ⟨u,e,h⟩:=Za h
 try simp only [seval] at e
 try simp only [*,go_sem,seval]
 obtain ⟨v,f,h⟩:=Za h
 refine Zd (Qd f) ?_
 obtain ⟨w,h⟩:=Zq h
 obtain ⟨x,g,h⟩:=Za h
 try simp only [seval] at g
 try simp only [*,go_sem,seval]
 obtain ⟨y,i,h⟩:=Za h
 refine Zd (Qd i) ?_
 iterate 2 ((try simp only [*,go_sem,seval]);refine Ze h (fun _ h=>?_) fun _ h=>?_<;>try simp only [*,go_sem,seval];cases h)
 try simp only [*,go_sem,seval]
 obtain ⟨z,h⟩:=Zq h
 obtain ⟨A,j,h⟩:=Za h
 try simp only [seval] at j
 try simp only [*,go_sem,seval]
 obtain ⟨B,k,h⟩:=Za h
 refine Zd (Zb1 k) ?_
 try simp only [*,go_sem,seval]
 refine Ze h (fun _ h=>?_) fun _ h=>?_<;>try simp only [*,go_sem,seval]
 obtain ⟨C,h⟩:=Zq h
 obtain ⟨D,l,h⟩:=Za h
 try simp only [seval] at l
 obtain ⟨E,h⟩:=Zq h
 obtain ⟨F,m,h⟩:=Za h
 try simp only [seval] at m
 obtain ⟨G,h⟩:=Zq h
 obtain ⟨H,o,h⟩:=Za h
 try simp only [seval] at o
 try simp only [*,go_sem,seval]
 obtain ⟨I,p,h⟩:=Za h
 refine Zd (Zpa p) ?_
 try simp only [*,go_sem,seval]
 refine Ze h (fun _ h=>?_) fun _ h=>?_<;>try simp only [*,go_sem,seval]
 iterate 3 (cases h;try simp only [*,go_sem,seval])
theorem ZhZ {append_0:(List Zg)} {String_1:(List Zb)} {r:((List Zb) × Bool)} (h:Yt append_0 String_1=some r):Zk Tryz.prog J0 28 [(false,[.sl 42 4 (List.map ZF append_0)]),(false,[.sl 45 2 (List.map Zl String_1)])] [(false,[(false,.sl 45 2 (List.map Zl r.1))]),(false,[(false,.bool r.2)])]:=by
 refine fnn 4 Tryz.func28 (by kernel_rfl) rfl (by kernel_rfl) (by kernel_rfl) ?_
 unfold Yt at h
 simp only [fnN,f28,Zm,go_sem,seval]
 obtain ⟨v1,e1,h⟩:=Za h
 refine Zd (by have hh:=ZkJ e1;first|exact hh|(simp only [*,go_sem] at hh;exact hh)) ?_
 try simp only [*,go_sem,seval]
 refine Ze h (fun _ h=>?_) fun _ h=>?_<;>try simp only [*,go_sem,seval]
 ·obtain ⟨v2,e3,h⟩:=Za h
  refine Zd (by have hh:=Zep e3;first|exact hh|(simp only [*,go_sem] at hh;exact hh)) ?_
  try simp only [*,go_sem,seval]
  refine Ze h (fun _ h=>?_) fun _ h=>?_<;>try simp only [*,go_sem,seval]
  ·obtain ⟨v3,e5,h⟩:=Za h
   refine Zd (by have hh:=ZgI e5;first|exact hh|(simp only [*,go_sem] at hh;exact hh)) ?_
   try simp only [*,go_sem,seval]
   refine Yo h (fun s st=>match s with | (u_254,u_255)=>IV [(0,.p false [.c (.sl 42 4 (List.map ZF append_0))]),(6,.p false [.n (.sl 45 2 (List.map Zl u_254))]),(7,.p false [.c (.bool u_255)])] [] st) [(false,6,4096)] [] (by decide) ?_ ?_
   ·simp only [*,go_sem,seval]
   ·rintro ⟨u_254,u_255⟩ ⟨sl,ob,n⟩ y6 hI7 hW8 h hy6
    simp only [go_sem,seval,Zc] at hI7
    obtain ⟨⟨g9_0,g9_6,g9_7⟩,hn⟩:=hI7
    subst hn
    try simp only [*,go_sem,seval]
    refine Ze h (fun _ h=>?_) fun _ h=>?_<;>try simp only [*,go_sem,seval]
    ·refine Zi h (fun i s st=>match s with | (u_339,u_340)=>IV [(0,.p false [.c (.sl 42 4 (List.map ZF append_0))]),(6,.p false [.n (.sl 45 2 (List.map Zl u_339))]),(7,.p false [.c (.bool u_340)]),(27,.p false [.c (.sl 42 4 (List.map ZF append_0))]),(28,.p false [.c (.int .i64 ((append_0.length:Nat):Int))]),(29,.p false [.c (.int .i64 ((i:Nat):Int))])] [] st) [] [] (by decide) ?_ ?_ ?_
     ·simp only [*,go_sem,seval]
     ·rintro i423 x424 ⟨u_339,u_340⟩ ⟨sl,ob,n⟩ y11 hx12 hI13 hW14 h hy11
      simp only [go_sem,seval,Zc] at hI13
      obtain ⟨⟨g15_0,g15_6,g15_7,g15_27,g15_28,g15_29⟩,hn⟩:=hI13
      subst hn
      have hlhx12:=WF.slotL hW14 g15_0 (j:=0) rfl
      have q16:=ZA hx12
      have q17:=ZC hx12
      have q18:=Zj (ZB hx12) hlhx12
      try simp only [*,go_sem,seval]
      obtain ⟨v425,e19,h⟩:=Za h
      refine ZfP (by have hh:=ZeI e19;first|exact hh|(simp only [*,go_sem] at hh;exact hh)) ?_
      try simp only [*,go_sem,seval]
      obtain ⟨v426,e20,h⟩:=Za h
      refine ZfP (by have hh:=Zet e20;first|exact hh|(simp only [*,go_sem] at hh;exact hh)) ?_
      try simp only [*,go_sem,seval]
      refine Zi h (fun i s st=>match s with | (u_453,u_454)=>IV [(0,.p false [.c (.sl 42 4 (List.map ZF append_0))]),(6,.p false [.n (.sl 45 2 (List.map Zl u_453))]),(7,.p false [.c (.bool u_454)]),(9,.bp 0 0),(27,.p false [.c (.sl 42 4 (List.map ZF append_0))]),(28,.p false [.c (.int .i64 ((append_0.length:Nat):Int))]),(29,.p false [.c (.int .i64 ((i423:Nat):Int))]),(36,.p false [.c (.sl 120 2 (List.map YK v426))]),(37,.p false [.c (.int .i64 ((v426.length:Nat):Int))]),(38,.p false [.c (.int .i64 ((i:Nat):Int))])] [.box 42 [.c (.str x424.name),.c (.int .i64 x424.priority),.c (.sl 173 5 (List.map ZK x424.cond)),.c (.sl 50 3 (List.map ZG x424.thn))]] st) [] [48] (by decide) ?_ ?_ ?_
      ·simp only [*,go_sem,seval]
      ·rintro i480 x481 ⟨u_453,u_454⟩ ⟨sl,ob,n⟩ y21 hx22 hI23 hW24 h hy21
       simp only [go_sem,seval,Zc] at hI23
       obtain ⟨⟨g25_0,g25_6,g25_7,g25_9,g25_27,g25_28,g25_29,g25_36,g25_37,g25_38⟩,og25_0,hn⟩:=hI23
       subst hn
       have hlhx22:=WF.slotL hW24 g25_36 (j:=0) rfl
       have q26:=ZA hx22
       have q27:=ZC hx22
       have q28:=Zj (ZB hx22) hlhx22
       try simp only [*,go_sem,seval]
       refine Zi h (fun i s st=>match s with | (u_495,u_496)=>IV [(0,.p false [.c (.sl 42 4 (List.map ZF append_0))]),(6,.p false [.n (.sl 45 2 (List.map Zl u_495))]),(7,.p false [.c (.bool u_496)]),(9,.bp 0 0),(11,.bp 1 0),(27,.p false [.c (.sl 42 4 (List.map ZF append_0))]),(28,.p false [.c (.int .i64 ((append_0.length:Nat):Int))]),(29,.p false [.c (.int .i64 ((i423:Nat):Int))]),(36,.p false [.c (.sl 120 2 (List.map YK v426))]),(37,.p false [.c (.int .i64 ((v426.length:Nat):Int))]),(38,.p false [.c (.int .i64 ((i480:Nat):Int))]),(43,.p false [.c (.sl 50 3 (List.map ZG x424.thn))]),(44,.p false [.c (.int .i64 ((x424.thn.length:Nat):Int))]),(45,.p false [.c (.int .i64 ((i:Nat):Int))])] [.box 42 [.c (.str x424.name),.c (.int .i64 x424.priority),.c (.sl 173 5 (List.map ZK x424.cond)),.c (.sl 50 3 (List.map ZG x424.thn))],.box 120 [.c (.sl 45 2 (List.map Zl x481.facts)),.c (.sl 166 2 (List.map Z4 x481.binding))]] st) [] [0,49] (by decide) ?_ ?_ ?_
       ·simp only [*,go_sem,seval]
       ·rintro i501 x502 ⟨u_495,u_496⟩ ⟨sl,ob,n⟩ y29 hx30 hI31 hW32 h hy29
        simp only [go_sem,seval,Zc] at hI31
        obtain ⟨⟨g33_0,g33_6,g33_7,g33_9,g33_11,g33_27,g33_28,g33_29,g33_36,g33_37,g33_38,g33_43,g33_44,g33_45⟩,og33_0,og33_1,hn⟩:=hI31
        subst hn
        have hlhx30:=WF.slotL hW32 g33_43 (j:=0) rfl
        have q34:=ZA hx30
        have q35:=ZC hx30
        have q36:=Zj (ZB hx30) hlhx30
        try simp only [*,go_sem,seval]
        obtain ⟨v503,e37,h⟩:=Za h
        refine Zd (by have hh:=Zce e37;first|exact hh|(simp only [*,go_sem] at hh;exact hh)) ?_
        try simp only [*,go_sem,seval]
        obtain ⟨v504,e38,h⟩:=Za h
        refine Zd (by have hh:=Qq e38;first|exact hh|(simp only [*,go_sem] at hh;exact hh)) ?_
        try simp only [*,go_sem,seval]
        refine Ze h (fun _ h=>?_) fun _ h=>?_<;>try simp only [*,go_sem,seval]
        ·refine ⟨_,[],[0,1],(Option.some.inj h).symm,by decide,?_⟩
         try simp only [*,go_sem,seval]
        ·refine Ze h (fun _ h=>?_) fun _ h=>?_<;>try simp only [*,go_sem,seval]
         ·replace h:=Zn h hy29
          replace h:=Zn h hy21
          replace h:=Zn h hy11
          replace h:=Zn h hy6
          cases h
          try simp only [*,go_sem,seval]
         ·obtain ⟨v505,e41,h⟩:=Za h
          refine Zd (by have hh:=Zo5 e41;first|exact hh|(simp only [*,go_sem] at hh;exact hh)) ?_
          try simp only [*,go_sem,seval]
          refine ⟨_,[(false,6,4096)],[0,1],(Option.some.inj h).symm,by decide,?_⟩
          try simp only [*,go_sem,seval]
       ·rintro ⟨u_495,u_496⟩ ⟨sl,ob,n⟩ hI42 hW43 h
        simp only [go_sem,seval,Zc] at hI42
        obtain ⟨⟨g44_0,g44_6,g44_7,g44_9,g44_11,g44_27,g44_28,g44_29,g44_36,g44_37,g44_38,g44_43,g44_44,g44_45⟩,og44_0,og44_1,hn⟩:=hI42
        subst hn
        have q45:=Zy (x424.thn.length)
        try simp only [*,go_sem,seval]
        refine ⟨_,[],[0],(Option.some.inj h).symm,by decide,?_⟩
        try simp only [*,go_sem,seval]
      ·rintro ⟨u_453,u_454⟩ ⟨sl,ob,n⟩ hI46 hW47 h
       simp only [go_sem,seval,Zc] at hI46
       obtain ⟨⟨g48_0,g48_6,g48_7,g48_9,g48_27,g48_28,g48_29,g48_36,g48_37,g48_38⟩,og48_0,hn⟩:=hI46
       subst hn
       have q49:=Zy (v426.length)
       try simp only [*,go_sem,seval]
       refine ⟨_,[],[],(Option.some.inj h).symm,by decide,?_⟩
       try simp only [*,go_sem,seval]
     ·rintro ⟨u_339,u_340⟩ ⟨sl,ob,n⟩ hI50 hW51 h
      simp only [go_sem,seval,Zc] at hI50
      obtain ⟨⟨g52_0,g52_6,g52_7,g52_27,g52_28,g52_29⟩,hn⟩:=hI50
      subst hn
      have q53:=Zy (append_0.length)
      try simp only [*,go_sem,seval]
      refine ⟨_,[],[],(Option.some.inj h).symm,by decide,?_⟩
      try simp only [*,go_sem,seval]
    ·replace h:=Zn h hy6
     cases h
     try simp only [*,go_sem,seval]
  ·cases h
   try simp only [*,go_sem,seval]
 ·cases h
  try simp only [*,go_sem,seval]
theorem ZkN {append_0:(List Zg)} {r:Bool} (h:Zbs append_0=some r):Zk Tryz.prog J0 170 [(false,[.sl 42 4 (List.map ZF append_0)])] [(false,[(false,.bool r)])]:=by
 refine fnk Tryz.func170 (by kernel_rfl) rfl (by kernel_rfl) (by kernel_rfl) ?_
 unfold Zbs at h
 simp only [fnS,f170,Zm,go_sem,seval]
 refine Zi h (fun i _ st=>IV [(0,.p false [.c (.sl 42 4 (List.map ZF append_0))]),(3,.p false [.c (.int .i64 ((i:Nat):Int))])] [] st) [] [] (by decide) ?_ ?_ ?_
 ·simp only [*,go_sem,seval]
 ·rintro i67 x68 ⟨⟩ ⟨sl,ob,n⟩ y1 hx2 hI3 hW4 h hy1
  simp only [go_sem,seval,Zc] at hI3
  obtain ⟨⟨g5_0,g5_3⟩,hn⟩:=hI3
  subst hn
  have hlhx2:=WF.slotL hW4 g5_0 (j:=0) rfl
  have q6:=ZA hx2
  have q7:=ZC hx2
  have q8:=Zj (ZB hx2) hlhx2
  try simp only [*,go_sem,seval]
  obtain ⟨v69,e9,h⟩:=Za h
  refine Zd (by have hh:=ZlW e9;first|exact hh|(simp only [*,go_sem] at hh;exact hh)) ?_
  try simp only [*,go_sem,seval]
  refine Ze h (fun _ h=>?_) fun _ h=>?_<;>try simp only [*,go_sem,seval]
  ·obtain ⟨v70,e11,h⟩:=Za h
   refine Zd (by have hh:=ZhE e11;first|exact hh|(simp only [*,go_sem] at hh;exact hh)) ?_
   try simp only [*,go_sem,seval]
   refine Zi h (fun i _ st=>IV [(0,.p false [.c (.sl 42 4 (List.map ZF append_0))]),(3,.p false [.c (.int .i64 ((i67:Nat):Int))]),(4,.p false [.row 0]),(5,.p false [.c (.int .i64 ((i:Nat):Int))])] [.row 9 1 (List.map Zx v70) 2] st) [] [224] (by decide) ?_ ?_ ?_
   ·simp only [*,go_sem,seval]
   ·rintro i90 x91 ⟨⟩ ⟨sl,ob,n⟩ y12 hx13 hI14 hW15 h hy12
    simp only [go_sem,seval,Zc] at hI14
    obtain ⟨⟨g16_0,g16_3,g16_4,g16_5⟩,og16_0,hn⟩:=hI14
    subst hn
    have hlhx13:=WF.elL (WF.slotD hW15 g16_0 (j:=0) rfl) hx2 (j:=2) rfl
    have q17:=ZA hx13
    have q18:=ZC hx13
    have q19:=Zj (ZB hx13) hlhx13
    try simp only [*,go_sem,seval]
    refine Zi h (fun i _ st=>IV [(0,.p false [.c (.sl 42 4 (List.map ZF append_0))]),(3,.p false [.c (.int .i64 ((i67:Nat):Int))]),(4,.p false [.row 0]),(5,.p false [.c (.int .i64 ((i90:Nat):Int))]),(6,.bp 1 0),(7,.p false [.c (.int .i64 ((i:Nat):Int))])] [.row 9 1 (List.map Zx v70) 2,.box 173 [.c (.int .i64 x91.kind),.c (.str x91.pattern.rel),.c (.sl 9 1 (List.map Zx x91.pattern.args)),.c (.str x91.left),.c (.str x91.right)]] st) [] [0,257] (by decide) ?_ ?_ ?_
    ·simp only [*,go_sem,seval]
    ·rintro i97 x98 ⟨⟩ ⟨sl,ob,n⟩ y20 hx21 hI22 hW23 h hy20
     simp only [go_sem,seval,Zc] at hI22
     obtain ⟨⟨g24_0,g24_3,g24_4,g24_5,g24_6,g24_7⟩,og24_0,og24_1,hn⟩:=hI22
     subst hn
     have hlhx21:=WF.rowL hW23 og24_0
     have q25:=ZA hx21
     have q26:=ZC hx21
     have q27:=Zj (ZB hx21) hlhx21
     try simp only [*,go_sem,seval]
     refine Ze h (fun _ h=>?_) fun _ h=>?_<;>try simp only [*,go_sem,seval]
     ·refine Ze h (fun _ h=>?_) fun _ h=>?_<;>try simp only [*,go_sem,seval]
      ·replace h:=Zn h hy20
       replace h:=Zn h hy12
       replace h:=Zn h hy1
       cases h
       try simp only [*,go_sem,seval]
      ·obtain ⟨v99,e30,h⟩:=Za h
       refine Zd (by have hh:=ZkF e30;first|exact hh|(simp only [*,go_sem] at hh;exact hh)) ?_
       try simp only [*,go_sem,seval]
       refine Ze h (fun _ h=>?_) fun _ h=>?_<;>try simp only [*,go_sem,seval]
       ·replace h:=Zn h hy20
        replace h:=Zn h hy12
        replace h:=Zn h hy1
        cases h
        try simp only [*,go_sem,seval]
       ·refine ⟨_,[],[0,1],(Option.some.inj h).symm,by decide,?_⟩
        try simp only [*,go_sem,seval]
     ·replace h:=Zn h hy20
      refine ⟨_,[],[0],(Option.some.inj h).symm,by decide,?_⟩
      try simp only [*,go_sem,seval]
    ·rintro ⟨⟩ ⟨sl,ob,n⟩ hI32 hW33 h
     simp only [go_sem,seval,Zc] at hI32
     obtain ⟨⟨g34_0,g34_3,g34_4,g34_5,g34_6,g34_7⟩,og34_0,og34_1,hn⟩:=hI32
     subst hn
     have q35:=Zy (v70.length)
     try simp only [*,go_sem,seval]
     refine ⟨_,[],[0],(Option.some.inj h).symm,by decide,?_⟩
     try simp only [*,go_sem,seval]
   ·rintro ⟨⟩ ⟨sl,ob,n⟩ hI36 hW37 h
    simp only [go_sem,seval,Zc] at hI36
    obtain ⟨⟨g38_0,g38_3,g38_4,g38_5⟩,og38_0,hn⟩:=hI36
    subst hn
    have q39:=Zy (x68.cond.length)
    try simp only [*,go_sem,seval]
    refine ⟨_,[],[],(Option.some.inj h).symm,by decide,?_⟩
    try simp only [*,go_sem,seval]
  ·replace h:=Zn h hy1
   cases h
   try simp only [*,go_sem,seval]
 ·rintro ⟨⟩ ⟨sl,ob,n⟩ hI40 hW41 h
  simp only [go_sem,seval,Zc] at hI40
  obtain ⟨⟨g42_0,g42_3⟩,hn⟩:=hI40
  subst hn
  have q43:=Zy (append_0.length)
  try simp only [*,go_sem,seval]
  obtain ⟨v100,e44,h⟩:=Za h
  refine Zd (by have hh:=Zm3 e44;first|exact hh|(simp only [*,go_sem] at hh;exact hh)) ?_
  cases h
  try simp only [*,go_sem,seval]
theorem Zqk {append_0:(List Zu)} {String_1:Zt} {a_2:(List Zb)} {r:(List Zu)} (h:Zf9 append_0 String_1 a_2=some r):Zk Tryz.prog J0 238 [(false,[.sl 120 2 (List.map YK append_0)]),(true,ZK String_1),(false,[.sl 45 2 (List.map Zl a_2)])] [(false,[(false,.sl 120 2 (List.map YK r))])]:=by
 refine fnk Tryz.func238 (by kernel_rfl) rfl (by kernel_rfl) (by kernel_rfl) ?_
 unfold Zf9 at h
 simp only [fnS,f238,Zm,go_sem,seval]
 refine Zi h (fun i row_22 st=>IV [(0,.p false [.c (.sl 120 2 (List.map YK append_0))]),(2,.p false [.c (.sl 45 2 (List.map Zl a_2))]),(4,.bp 0 0),(7,.p false [.row 1]),(8,.p false [.c (.int .i64 ((i:Nat):Int))])] [.box 173 [.c (.int .i64 String_1.kind),.c (.str String_1.pattern.rel),.c (.sl 9 1 (List.map Zx String_1.pattern.args)),.c (.str String_1.left),.c (.str String_1.right)],.row 120 2 (List.map YK row_22) 2] st) [] [0,32] (by decide) ?_ ?_ ?_
 ·simp only [*,go_sem,seval]
 ·rintro i45 x46 row_22 ⟨sl,ob,n⟩ y1 hx2 hI3 hW4 h hy1
  simp only [go_sem,seval,Zc] at hI3
  obtain ⟨⟨g5_0,g5_2,g5_4,g5_7,g5_8⟩,og5_0,og5_1,hn⟩:=hI3
  subst hn
  have hlhx2:=WF.slotL hW4 g5_0 (j:=0) rfl
  have q6:=ZA hx2
  have q7:=ZC hx2
  have q8:=Zj (ZB hx2) hlhx2
  try simp only [*,go_sem,seval]
  refine Ze h (fun _ h=>?_) fun _ h=>?_<;>try simp only [*,go_sem,seval]
  ·obtain ⟨v47,e10,h⟩:=Za h
   refine Zd (by have hh:=ZkW e10;first|exact hh|(simp only [*,go_sem] at hh;exact hh)) ?_
   try simp only [*,go_sem,seval]
   refine Ze h (fun _ h=>?_) fun _ h=>?_<;>try simp only [*,go_sem,seval]
   ·obtain ⟨v48,e12,h⟩:=Za h
    refine Zd (by have hh:=ZrC e12;first|exact hh|(simp only [*,go_sem] at hh;exact hh)) ?_
    obtain ⟨p13,h⟩:=Zq h
    try simp only [Nat.reduceLeDiff] at p13
    try simp only [*,go_sem,seval]
    refine ⟨_,[],[0,354],(Option.some.inj h).symm,by decide,?_⟩
    try simp only [*,go_sem,seval]
   ·refine ⟨_,[],[0,1],(Option.some.inj h).symm,by decide,?_⟩
    try simp only [*,go_sem,seval]
  ·refine Zi h (fun i row_53 st=>IV [(0,.p false [.c (.sl 120 2 (List.map YK append_0))]),(2,.p false [.c (.sl 45 2 (List.map Zl a_2))]),(4,.bp 0 0),(7,.p false [.row 1]),(8,.p false [.c (.int .i64 ((i45:Nat):Int))]),(9,.p false [.c (.int .i64 ((i:Nat):Int))])] [.box 173 [.c (.int .i64 String_1.kind),.c (.str String_1.pattern.rel),.c (.sl 9 1 (List.map Zx String_1.pattern.args)),.c (.str String_1.left),.c (.str String_1.right)],.row 120 2 (List.map YK row_53) 2] st) [] [0,1] (by decide) ?_ ?_ ?_
   ·simp only [*,go_sem,seval]
   ·rintro i59 x60 row_53 ⟨sl,ob,n⟩ y14 hx15 hI16 hW17 h hy14
    simp only [go_sem,seval,Zc] at hI16
    obtain ⟨⟨g18_0,g18_2,g18_4,g18_7,g18_8,g18_9⟩,og18_0,og18_1,hn⟩:=hI16
    subst hn
    have hlhx15:=WF.slotL hW17 g18_2 (j:=0) rfl
    have q19:=ZA hx15
    have q20:=ZC hx15
    have q21:=Zj (ZB hx15) hlhx15
    try simp only [*,go_sem,seval]
    obtain ⟨v61,e22,h⟩:=Za h
    refine Zd (by have hh:=Zf2 e22;first|exact hh|(simp only [*,go_sem] at hh;exact hh)) ?_
    try simp only [*,go_sem,seval]
    refine Ze h (fun _ h=>?_) fun _ h=>?_<;>try simp only [*,go_sem,seval]
    ·obtain ⟨v62,e24,h⟩:=Za h
     refine Zd (by have hh:=Zeq e24;first|exact hh|(simp only [*,go_sem] at hh;exact hh)) ?_
     try simp only [*,go_sem,seval]
     obtain ⟨v63,e25,h⟩:=Za h
     refine Zd (by have hh:=Xa e25;first|exact hh|(simp only [*,go_sem] at hh;exact hh)) ?_
     obtain ⟨p26,h⟩:=Zq h
     try simp only [Nat.reduceLeDiff] at p26
     obtain ⟨p27,h⟩:=Zq h
     try simp only [Nat.reduceLeDiff] at p27
     try simp only [*,go_sem,seval]
     refine ⟨_,[],[0,626],(Option.some.inj h).symm,by decide,?_⟩
     try simp only [*,go_sem,seval]
    ·refine ⟨_,[],[0,1],(Option.some.inj h).symm,by decide,?_⟩
     try simp only [*,go_sem,seval]
   ·rintro row_53 ⟨sl,ob,n⟩ hI28 hW29 h
    simp only [go_sem,seval,Zc] at hI28
    obtain ⟨⟨g30_0,g30_2,g30_4,g30_7,g30_8,g30_9⟩,og30_0,og30_1,hn⟩:=hI28
    subst hn
    have q31:=Zy (a_2.length)
    try simp only [*,go_sem,seval]
    refine ⟨_,[],[0,1],(Option.some.inj h).symm,by decide,?_⟩
    try simp only [*,go_sem,seval]
 ·rintro row_22 ⟨sl,ob,n⟩ hI32 hW33 h
  simp only [go_sem,seval,Zc] at hI32
  obtain ⟨⟨g34_0,g34_2,g34_4,g34_7,g34_8⟩,og34_0,og34_1,hn⟩:=hI32
  subst hn
  have q35:=Zy (append_0.length)
  cases h
  try simp only [*,go_sem,seval]
theorem ZgW {r_0:Zg} {facts_1:(List Zb)} {r:(List Qg)} (h:ZaV r_0 facts_1=some r):Zk Tryz.prog J0 67 [(true,ZF r_0),(false,[.sl 45 2 (List.map Zl facts_1)])] [(false,[(true,.sl 38 3 (List.map Zc8 r))])]:=by
 refine fnk Tryz.func67 (by kernel_rfl) rfl (by kernel_rfl) (by kernel_rfl) ?_
 unfold ZaV at h
 simp only [fnS,f67,Zm,go_sem,seval]
 obtain ⟨a,g,h⟩:=Za h
 refine ZfP (Zet g) ?_
 try simp only [*,go_sem,seval]
 refine Zi h (fun i b st=>IV [(2,.bp 0 0),(5,.p false [.row 1]),(11,.p false [.c (.sl 120 2 (List.map YK a))]),(12,.p false [.c (.int .i64 ((a.length:Nat):Int))]),(13,.p false [.c (.int .i64 ((i:Nat):Int))])] [.box 42 [.c (.str r_0.name),.c (.int .i64 r_0.priority),.c (.sl 173 5 (List.map ZK r_0.cond)),.c (.sl 50 3 (List.map ZG r_0.thn))],.row 38 3 (List.map Zc8 b) 1] st) [(false,5,0),(true,144,1)] [0,144] (by decide) ?_ ?_ ?_
 simp only [*,go_sem,seval]
 rintro q t b ⟨sl,ob,n⟩ u d e k h v
 simp only [go_sem,seval,Zc] at e
 obtain ⟨⟨w,x,l,y,z⟩,A,B,hn⟩:=e
 subst hn
 have m:=WF.slotL k l (j:=0) rfl
 have C:=ZA d
 have D:=ZC d
 have E:=Zj (ZB d) m
 obtain ⟨o,h⟩:=Zq h
 try simp only [Nat.reduceLeDiff] at o
 try simp only [*,go_sem,seval]
 refine ⟨_,[],[0,226],(Option.some.inj h).symm,by decide,?_⟩
 try simp only [*,go_sem,seval]
 rintro b ⟨sl,ob,n⟩ f F h
 simp only [go_sem,seval,Zc] at f
 obtain ⟨⟨G,H,I,J,K⟩,L,M,hn⟩:=f
 subst hn
 have N:=Zy (a.length)
 cases h
 try simp only [*,go_sem,seval]
end Go.Proofs.YtfehfkfdfmcgfaaGreatDoor
namespace Go.Proofs.YtfehfkfdfmcgfaaGreatDoor
open Go.Proofs.Tryz
set_option linter.unusedSimpArgs false
set_option linter.unusedVariables false
set_option maxRecDepth 1000000
set_option maxHeartbeats 4000000
theorem Zm2 {c_0:ZJ} {nots_1:Bool} {r:(Zg × ZJ)} (h:ZbM c_0 nots_1=some r):Zbx Tryz.prog J0 JF0 124 (.box 152 (Zbj c_0)) [(false,[.bool nots_1])] [(true,[(false,.str r.1.name),(false,.int .i64 r.1.priority),(false,.sl 173 5 (List.map ZK r.1.cond)),(false,.sl 50 3 (List.map ZG r.1.thn))])] (.box 152 (Zbj r.2)):=by
 refine fnh Tryz.func124 (by kernel_rfl) rfl (by kernel_rfl) (by kernel_rfl) ?_
 unfold ZbM at h
 have a:Z9 ⟨#[114,32,48,58,32,112,40,63,120,41,32,38,32,111,110,40,63,120,44,63,121,41,32,38,32,63,120,32,33,61,32,63,121,32,45,62,32,97,100,100,32,113,40,63,121,41]⟩=true:=by decide
 have b:Z9 ⟨#[114,32,48,58,32,115,40,63,120,41,32,38,32,110,111,116,32,122,40,41,32,38,32,110,111,116,32,112,40,63,120,41,32,45,62,32,97,100,100,32,98,97,100,40,41]⟩=true:=by decide
 have c:Z9 ⟨#[114,32,49,58,32,111,110,40,63,120,44,63,121,41,32,38,32,111,110,40,63,121,44,63,122,41,32,45,62,32,97,100,100,32,111,110,40,63,120,44,63,122,41]⟩=true:=by decide
 have d:Z9 ⟨#[114,32,49,58,32,113,40,63,120,41,32,38,32,111,110,40,63,120,44,63,121,41,32,38,32,110,111,116,32,113,40,63,121,41,32,45,62,32,97,100,100,32,115,40,63,120,41]⟩=true:=by decide
 have e:Z9 ⟨#[114,32,49,58,32,113,40,63,120,41,32,38,32,112,40,63,120,41,32,45,62,32,97,100,100,32,98,97,100,40,41]⟩=true:=by decide
 have f:Z9 ⟨#[114,32,49,58,32,97,116,40,63,120,44,63,121,41,32,45,62,32,97,100,100,32,111,110,40,63,120,44,63,121,41]⟩=true:=by decide
 have g:Z9 ⟨#[114,32,50,58,32,111,110,40,63,120,44,63,121,41,32,38,32,112,40,63,121,41,32,45,62,32,97,100,100,32,112,40,63,120,41]⟩=true:=by decide
 have i:Z9 ⟨#[114,32,50,58,32,112,40,63,120,41,32,38,32,110,111,116,32,113,40,63,120,41,32,45,62,32,97,100,100,32,115,40,63,120,41]⟩=true:=by decide
 have j:Z9 ⟨#[114,32,51,58,32,112,40,63,120,41,32,38,32,112,40,63,121,41,32,38,32,63,120,32,60,32,63,121,32,45,62,32,97,100,100,32,122,40,41]⟩=true:=by decide
 have k:Z9 ⟨#[114,32,52,58,32,111,110,40,63,120,44,97,41,32,45,62,32,97,100,100,32,113,40,63,120,41,32,38,32,97,100,100,32,112,40,97,41]⟩=true:=by decide
 have l:Z9 ⟨#[114,32,53,58,32,111,110,40,63,120,44,63,121,41,32,38,32,110,111,116,32,112,40,63,121,41,32,45,62,32,97,100,100,32,115,40,63,121,41]⟩=true:=by decide
 simp only [fnH,f124,Zdh,Zdg,Xp,go_sem,seval,a,b,c,d,e,f,g,i,j,k,l]
 refine Ze h (fun _ h=>?_) fun _ h=>?_<;>try simp only [*,go_sem,seval]
 obtain ⟨m,o,h⟩:=Za h
 refine QL (Q7 o) ?_
 obtain ⟨p,h⟩:=Zq h
 try simp only [seval] at p
 obtain ⟨q,t,h⟩:=Za h
 have u:(List.map Zx [(⟨#[114,32,49,58,32,111,110,40,63,120,44,63,121,41,32,38,32,111,110,40,63,121,44,63,122,41,32,45,62,32,97,100,100,32,111,110,40,63,120,44,63,122,41]⟩),(⟨#[114,32,50,58,32,111,110,40,63,120,44,63,121,41,32,38,32,112,40,63,121,41,32,45,62,32,97,100,100,32,112,40,63,120,41]⟩),(⟨#[114,32,48,58,32,112,40,63,120,41,32,38,32,111,110,40,63,120,44,63,121,41,32,38,32,63,120,32,33,61,32,63,121,32,45,62,32,97,100,100,32,113,40,63,121,41]⟩),(⟨#[114,32,51,58,32,112,40,63,120,41,32,38,32,112,40,63,121,41,32,38,32,63,120,32,60,32,63,121,32,45,62,32,97,100,100,32,122,40,41]⟩),(⟨#[114,32,52,58,32,111,110,40,63,120,44,97,41,32,45,62,32,97,100,100,32,113,40,63,120,41,32,38,32,97,100,100,32,112,40,97,41]⟩),(⟨#[114,32,49,58,32,113,40,63,120,41,32,38,32,112,40,63,120,41,32,45,62,32,97,100,100,32,98,97,100,40,41]⟩),(⟨#[114,32,49,58,32,97,116,40,63,120,44,63,121,41,32,45,62,32,97,100,100,32,111,110,40,63,120,44,63,121,41]⟩),(⟨#[114,32,50,58,32,112,40,63,120,41,32,38,32,110,111,116,32,113,40,63,120,41,32,45,62,32,97,100,100,32,115,40,63,120,41]⟩),(⟨#[114,32,53,58,32,111,110,40,63,120,44,63,121,41,32,38,32,110,111,116,32,112,40,63,121,41,32,45,62,32,97,100,100,32,115,40,63,121,41]⟩),(⟨#[114,32,48,58,32,115,40,63,120,41,32,38,32,110,111,116,32,122,40,41,32,38,32,110,111,116,32,112,40,63,120,41,32,45,62,32,97,100,100,32,98,97,100,40,41]⟩),(⟨#[114,32,49,58,32,113,40,63,120,41,32,38,32,111,110,40,63,120,44,63,121,41,32,38,32,110,111,116,32,113,40,63,121,41,32,45,62,32,97,100,100,32,115,40,63,120,41]⟩)])[(Int.toNat m.1)]?=some (Zx q):=by rw [List.getElem?_map,t];rfl
 simp only [List.map_cons,List.map_nil,ZoT] at u
 try simp only [*,go_sem,seval]
 obtain ⟨D,v,h⟩:=Za h
 refine Zd (ZgT v) ?_
 cases h
 try simp only [*,go_sem,seval]
 obtain ⟨w,x,h⟩:=Za h
 refine QL (Q7 x) ?_
 obtain ⟨y,h⟩:=Zq h
 try simp only [seval] at y
 obtain ⟨z,A,h⟩:=Za h
 have B:(List.map Zx [(⟨#[114,32,49,58,32,111,110,40,63,120,44,63,121,41,32,38,32,111,110,40,63,121,44,63,122,41,32,45,62,32,97,100,100,32,111,110,40,63,120,44,63,122,41]⟩),(⟨#[114,32,50,58,32,111,110,40,63,120,44,63,121,41,32,38,32,112,40,63,121,41,32,45,62,32,97,100,100,32,112,40,63,120,41]⟩),(⟨#[114,32,48,58,32,112,40,63,120,41,32,38,32,111,110,40,63,120,44,63,121,41,32,38,32,63,120,32,33,61,32,63,121,32,45,62,32,97,100,100,32,113,40,63,121,41]⟩),(⟨#[114,32,51,58,32,112,40,63,120,41,32,38,32,112,40,63,121,41,32,38,32,63,120,32,60,32,63,121,32,45,62,32,97,100,100,32,122,40,41]⟩),(⟨#[114,32,52,58,32,111,110,40,63,120,44,97,41,32,45,62,32,97,100,100,32,113,40,63,120,41,32,38,32,97,100,100,32,112,40,97,41]⟩),(⟨#[114,32,49,58,32,113,40,63,120,41,32,38,32,112,40,63,120,41,32,45,62,32,97,100,100,32,98,97,100,40,41]⟩),(⟨#[114,32,49,58,32,97,116,40,63,120,44,63,121,41,32,45,62,32,97,100,100,32,111,110,40,63,120,44,63,121,41]⟩),(⟨#[114,32,50,58,32,112,40,63,120,41,32,38,32,110,111,116,32,113,40,63,120,41,32,45,62,32,97,100,100,32,115,40,63,120,41]⟩),(⟨#[114,32,53,58,32,111,110,40,63,120,44,63,121,41,32,38,32,110,111,116,32,112,40,63,121,41,32,45,62,32,97,100,100,32,115,40,63,121,41]⟩),(⟨#[114,32,48,58,32,115,40,63,120,41,32,38,32,110,111,116,32,122,40,41,32,38,32,110,111,116,32,112,40,63,120,41,32,45,62,32,97,100,100,32,98,97,100,40,41]⟩),(⟨#[114,32,49,58,32,113,40,63,120,41,32,38,32,111,110,40,63,120,44,63,121,41,32,38,32,110,111,116,32,113,40,63,121,41,32,45,62,32,97,100,100,32,115,40,63,120,41]⟩)])[(Int.toNat w.1)]?=some (Zx z):=by rw [List.getElem?_map,A];rfl
 simp only [List.map_cons,List.map_nil,ZoT] at B
 try simp only [*,go_sem,seval]
 obtain ⟨E,C,h⟩:=Za h
 refine Zd (ZgT C) ?_
 cases h
 try simp only [*,go_sem,seval]
theorem ZqY {append_0:(List Zg)} {String_1:(List Zb)} {r:((List Zb) × Zr × (List ZaA) × Bool)} (h:Zbh append_0 String_1=some r):Zk Tryz.prog J0 128 [(false,[.sl 42 4 (List.map ZF append_0)]),(false,[.sl 45 2 (List.map Zl String_1)])] [(false,[(false,.sl 45 2 (List.map Zl r.1))]),(true,[(false,.int .i64 r.2.1.nodes),(false,.sl 199 3 (List.map ZE r.2.1.reasons))]),(false,[(false,.any)]),(false,[(false,.bool r.2.2.2)])]:=by
 refine fnn 4 Tryz.func128 (by kernel_rfl) rfl (by kernel_rfl) (by kernel_rfl) ?_
 unfold Zbh at h
 simp only [fnN,f128,Zm,go_sem,seval]
 obtain ⟨v1,e1,h⟩:=Za h
 refine Zd (by have hh:=ZhZ e1;first|exact hh|(simp only [*,go_sem] at hh;exact hh)) ?_
 try simp only [*,go_sem,seval]
 refine Ze h (fun _ h=>?_) fun _ h=>?_<;>try simp only [*,go_sem,seval]
 ·refine Zi h (fun i s st=>match s with | (row_8,row_9)=>IV [(0,.p false [.c (.sl 42 4 (List.map ZF append_0))]),(5,.bp 0 0),(8,.p false [.n (.sl 45 2 (List.map Zl v1.1))]),(10,.bp 1 0),(11,.p false [.row 3]),(40,.p false [.c (.sl 45 2 (List.map Zl String_1))]),(41,.p false [.c (.int .i64 ((String_1.length:Nat):Int))]),(42,.p false [.c (.int .i64 ((i:Nat):Int))])] [.box 64 [.c (.int .i64 0),.nil 199 3],.box 64 [.c (.int .i64 ((v1.1.length:Nat):Int)),.row 2],.row 199 3 (List.map ZE row_8) 2,.row 204 2 (List.map Zhi row_9) 2] st) [(false,8,4096),(false,11,0),(true,272,1)] [16,272,369,368] (by decide) ?_ ?_ ?_
  ·simp only [*,go_sem,seval]
  ·rintro i941 x942 ⟨row_8,row_9⟩ ⟨sl,ob,n⟩ y3 hx4 hI5 hW6 h hy3
   simp only [go_sem,seval,Zc] at hI5
   obtain ⟨⟨g7_0,g7_5,g7_8,g7_10,g7_11,g7_40,g7_41,g7_42⟩,og7_0,og7_1,og7_2,og7_3,hn⟩:=hI5
   subst hn
   have hlhx4:=WF.slotL hW6 g7_40 (j:=0) rfl
   have q8:=ZA hx4
   have q9:=ZC hx4
   have q10:=Zj (ZB hx4) hlhx4
   try simp only [*,go_sem,seval]
   obtain ⟨v943,e11,h⟩:=Za h
   refine Zd (by have hh:=Qq e11;first|exact hh|(simp only [*,go_sem] at hh;exact hh)) ?_
   obtain ⟨p12,h⟩:=Zq h
   try simp only [Nat.reduceLeDiff] at p12
   obtain ⟨p13,h⟩:=Zq h
   try simp only [Nat.reduceLeDiff] at p13
   try simp only [*,go_sem,seval]
   refine ⟨_,[],[0,1,196,292],(Option.some.inj h).symm,by decide,?_⟩
   try simp only [*,go_sem,seval]
  ·rintro ⟨row_8,row_9⟩ ⟨sl,ob,n⟩ hI14 hW15 h
   simp only [go_sem,seval,Zc] at hI14
   obtain ⟨⟨g16_0,g16_5,g16_8,g16_10,g16_11,g16_40,g16_41,g16_42⟩,og16_0,og16_1,og16_2,og16_3,hn⟩:=hI14
   subst hn
   have q17:=Zy (String_1.length)
   try simp only [*,go_sem,seval]
   refine Zi h (fun i s st=>match s with | (row_1446,row_1447)=>IV [(5,.bp 0 0),(8,.p false [.n (.sl 45 2 (List.map Zl v1.1))]),(10,.bp 1 0),(11,.p false [.row 3]),(60,.p false [.c (.sl 42 4 (List.map ZF append_0))]),(61,.p false [.c (.int .i64 ((append_0.length:Nat):Int))]),(62,.p false [.c (.int .i64 ((i:Nat):Int))])] [.box 64 [.c (.int .i64 0),.nil 199 3],.box 64 [.c (.int .i64 ((v1.1.length:Nat):Int)),.row 2],.row 199 3 (List.map ZE row_1446) 2,.row 204 2 (List.map Zhi row_1447) 1] st) [(true,3,1)] [0,1,2,3] (by decide) ?_ ?_ ?_
   ·simp only [*,go_sem,seval]
   ·rintro i1660 x1661 ⟨row_1446,row_1447⟩ ⟨sl,ob,n⟩ y18 hx19 hI20 hW21 h hy18
    simp only [go_sem,seval,Zc] at hI20
    obtain ⟨⟨g22_5,g22_8,g22_10,g22_11,g22_60,g22_61,g22_62⟩,og22_0,og22_1,og22_2,og22_3,hn⟩:=hI20
    subst hn
    have hlhx19:=WF.slotL hW21 g22_60 (j:=0) rfl
    have q23:=ZA hx19
    have q24:=ZC hx19
    have q25:=Zj (ZB hx19) hlhx19
    try simp only [*,go_sem,seval]
    obtain ⟨v1662,e26,h⟩:=Za h
    refine ZfP (by have hh:=ZeI e26;first|exact hh|(simp only [*,go_sem] at hh;exact hh)) ?_
    try simp only [*,go_sem,seval]
    obtain ⟨v1663,e27,h⟩:=Za h
    refine ZfP (by have hh:=Zet e27;first|exact hh|(simp only [*,go_sem] at hh;exact hh)) ?_
    try simp only [*,go_sem,seval]
    refine Zi h (fun i s st=>match s with | (row_1732,row_1733)=>IV [(5,.bp 0 0),(8,.p false [.n (.sl 45 2 (List.map Zl v1.1))]),(10,.bp 1 0),(11,.p false [.row 3]),(15,.bp 4 0),(60,.p false [.c (.sl 42 4 (List.map ZF append_0))]),(61,.p false [.c (.int .i64 ((append_0.length:Nat):Int))]),(62,.p false [.c (.int .i64 ((i1660:Nat):Int))]),(69,.p false [.c (.sl 120 2 (List.map YK v1663))]),(70,.p false [.c (.int .i64 ((v1663.length:Nat):Int))]),(71,.p false [.c (.int .i64 ((i:Nat):Int))])] [.box 64 [.c (.int .i64 0),.nil 199 3],.box 64 [.c (.int .i64 ((v1.1.length:Nat):Int)),.row 2],.row 199 3 (List.map ZE row_1732) 2,.row 204 2 (List.map Zhi row_1733) 1,.box 42 [.c (.str x1661.name),.c (.int .i64 x1661.priority),.c (.sl 173 5 (List.map ZK x1661.cond)),.c (.sl 50 3 (List.map ZG x1661.thn))]] st) [] [0,1,2,3,52] (by decide) ?_ ?_ ?_
    ·simp only [*,go_sem,seval]
    ·rintro i1803 x1804 ⟨row_1732,row_1733⟩ ⟨sl,ob,n⟩ y28 hx29 hI30 hW31 h hy28
     simp only [go_sem,seval,Zc] at hI30
     obtain ⟨⟨g32_5,g32_8,g32_10,g32_11,g32_15,g32_60,g32_61,g32_62,g32_69,g32_70,g32_71⟩,og32_0,og32_1,og32_2,og32_3,og32_4,hn⟩:=hI30
     subst hn
     have hlhx29:=WF.slotL hW31 g32_69 (j:=0) rfl
     have q33:=ZA hx29
     have q34:=ZC hx29
     have q35:=Zj (ZB hx29) hlhx29
     try simp only [*,go_sem,seval]
     refine Zi h (fun i row_1809 st=>IV [(5,.bp 0 0),(8,.p false [.n (.sl 45 2 (List.map Zl v1.1))]),(10,.bp 1 0),(11,.p false [.row 3]),(15,.bp 4 0),(17,.bp 5 0),(18,.p false [.row 6]),(60,.p false [.c (.sl 42 4 (List.map ZF append_0))]),(61,.p false [.c (.int .i64 ((append_0.length:Nat):Int))]),(62,.p false [.c (.int .i64 ((i1660:Nat):Int))]),(69,.p false [.c (.sl 120 2 (List.map YK v1663))]),(70,.p false [.c (.int .i64 ((v1663.length:Nat):Int))]),(71,.p false [.c (.int .i64 ((i1803:Nat):Int))]),(76,.p false [.c (.sl 173 5 (List.map ZK x1661.cond))]),(77,.p false [.c (.int .i64 ((x1661.cond.length:Nat):Int))]),(78,.p false [.c (.int .i64 ((i:Nat):Int))])] [.box 64 [.c (.int .i64 0),.nil 199 3],.box 64 [.c (.int .i64 ((v1.1.length:Nat):Int)),.row 2],.row 199 3 (List.map ZE row_1732) 2,.row 204 2 (List.map Zhi row_1733) 1,.box 42 [.c (.str x1661.name),.c (.int .i64 x1661.priority),.c (.sl 173 5 (List.map ZK x1661.cond)),.c (.sl 50 3 (List.map ZG x1661.thn))],.box 120 [.c (.sl 45 2 (List.map Zl x1804.facts)),.c (.sl 166 2 (List.map Z4 x1804.binding))],.row 45 2 (List.map Zl row_1809) 2] st) [(false,18,0)] [0,1,2,3,4,53,165] (by decide) ?_ ?_ ?_
     ·simp only [*,go_sem,seval]
     ·rintro i1841 x1842 row_1809 ⟨sl,ob,n⟩ y36 hx37 hI38 hW39 h hy36
      simp only [go_sem,seval,Zc] at hI38
      obtain ⟨⟨g40_5,g40_8,g40_10,g40_11,g40_15,g40_17,g40_18,g40_60,g40_61,g40_62,g40_69,g40_70,g40_71,g40_76,g40_77,g40_78⟩,og40_0,og40_1,og40_2,og40_3,og40_4,og40_5,og40_6,hn⟩:=hI38
      subst hn
      have hlhx37:=WF.slotL hW39 g40_76 (j:=0) rfl
      have q41:=ZA hx37
      have q42:=ZC hx37
      have q43:=Zj (ZB hx37) hlhx37
      try simp only [*,go_sem,seval]
      refine Ze h (fun _ h=>?_) fun _ h=>?_<;>try simp only [*,go_sem,seval]
      ·obtain ⟨v1843,e45,h⟩:=Za h
       refine Zd (by have hh:=Zce e45;first|exact hh|(simp only [*,go_sem] at hh;exact hh)) ?_
       obtain ⟨p46,h⟩:=Zq h
       try simp only [Nat.reduceLeDiff] at p46
       try simp only [*,go_sem,seval]
       refine ⟨_,[],[0,1,2,3,4,5,359],(Option.some.inj h).symm,by decide,?_⟩
       try simp only [*,go_sem,seval]
      ·refine ⟨_,[],[0,1,2,3,4,5,6],(Option.some.inj h).symm,by decide,?_⟩
       try simp only [*,go_sem,seval]
     ·rintro row_1809 ⟨sl,ob,n⟩ hI47 hW48 h
      simp only [go_sem,seval,Zc] at hI47
      obtain ⟨⟨g49_5,g49_8,g49_10,g49_11,g49_15,g49_17,g49_18,g49_60,g49_61,g49_62,g49_69,g49_70,g49_71,g49_76,g49_77,g49_78⟩,og49_0,og49_1,og49_2,og49_3,og49_4,og49_5,og49_6,hn⟩:=hI47
      subst hn
      have q50:=Zy (x1661.cond.length)
      try simp only [*,go_sem,seval]
      refine Zi h (fun i s st=>match s with | (row_1857,row_1858)=>IV [(5,.bp 0 0),(8,.p false [.n (.sl 45 2 (List.map Zl v1.1))]),(10,.bp 1 0),(11,.p false [.row 3]),(15,.bp 4 0),(17,.bp 5 0),(18,.p false [.row 6]),(60,.p false [.c (.sl 42 4 (List.map ZF append_0))]),(61,.p false [.c (.int .i64 ((append_0.length:Nat):Int))]),(62,.p false [.c (.int .i64 ((i1660:Nat):Int))]),(69,.p false [.c (.sl 120 2 (List.map YK v1663))]),(70,.p false [.c (.int .i64 ((v1663.length:Nat):Int))]),(71,.p false [.c (.int .i64 ((i1803:Nat):Int))]),(99,.p false [.c (.sl 50 3 (List.map ZG x1661.thn))]),(100,.p false [.c (.int .i64 ((x1661.thn.length:Nat):Int))]),(101,.p false [.c (.int .i64 ((i:Nat):Int))])] [.box 64 [.c (.int .i64 0),.nil 199 3],.box 64 [.c (.int .i64 ((v1.1.length:Nat):Int)),.row 2],.row 199 3 (List.map ZE row_1857) 2,.row 204 2 (List.map Zhi row_1858) 1,.box 42 [.c (.str x1661.name),.c (.int .i64 x1661.priority),.c (.sl 173 5 (List.map ZK x1661.cond)),.c (.sl 50 3 (List.map ZG x1661.thn))],.box 120 [.c (.sl 45 2 (List.map Zl x1804.facts)),.c (.sl 166 2 (List.map Z4 x1804.binding))],.row 45 2 (List.map Zl row_1809) 2] st) [] [0,1,2,3,4,5,6] (by decide) ?_ ?_ ?_
      ·simp only [*,go_sem,seval]
      ·rintro i1865 x1866 ⟨row_1857,row_1858⟩ ⟨sl,ob,n⟩ y51 hx52 hI53 hW54 h hy51
       simp only [go_sem,seval,Zc] at hI53
       obtain ⟨⟨g55_5,g55_8,g55_10,g55_11,g55_15,g55_17,g55_18,g55_60,g55_61,g55_62,g55_69,g55_70,g55_71,g55_99,g55_100,g55_101⟩,og55_0,og55_1,og55_2,og55_3,og55_4,og55_5,og55_6,hn⟩:=hI53
       subst hn
       have hlhx52:=WF.slotL hW54 g55_99 (j:=0) rfl
       have q56:=ZA hx52
       have q57:=ZC hx52
       have q58:=Zj (ZB hx52) hlhx52
       try simp only [*,go_sem,seval]
       obtain ⟨v1867,e59,h⟩:=Za h
       refine Zd (by have hh:=Zce e59;first|exact hh|(simp only [*,go_sem] at hh;exact hh)) ?_
       try simp only [*,go_sem,seval]
       obtain ⟨v1868,e60,h⟩:=Za h
       refine Zd (by have hh:=Qq e60;first|exact hh|(simp only [*,go_sem] at hh;exact hh)) ?_
       try simp only [*,go_sem,seval]
       obtain ⟨v1869,e61,h⟩:=Za h
       refine Zd (by have hh:=ZiX e61;first|exact hh|(simp only [*,go_sem] at hh;exact hh)) ?_
       try simp only [*,go_sem,seval]
       obtain ⟨v1870,e62,h⟩:=Za h
       refine Zd (by have hh:=ZiX e62;first|exact hh|(simp only [*,go_sem] at hh;exact hh)) ?_
       try simp only [*,go_sem,seval]
       obtain ⟨v1871,e63,h⟩:=Za h
       refine Zd (by have hh:=Zma e63;first|exact hh|(simp only [*,go_sem] at hh;exact hh)) ?_
       try simp only [*,go_sem,seval]
       refine Ze h (fun _ h=>?_) fun _ h=>?_<;>try simp only [*,go_sem,seval]
       ·refine ⟨_,[],[0,1,2,3,4,5,6],(Option.some.inj h).symm,by decide,?_⟩
        try simp only [*,go_sem,seval]
       ·obtain ⟨p65,h⟩:=Zq h
        try simp only [Nat.reduceLeDiff] at p65
        obtain ⟨p66,h⟩:=Zq h
        try simp only [Nat.reduceLeDiff] at p66
        try simp only [*,go_sem,seval]
        refine ⟨_,[],[0,1,615,775,4,5,6],(Option.some.inj h).symm,by decide,?_⟩
        try simp only [*,go_sem,seval]
      ·rintro ⟨row_1857,row_1858⟩ ⟨sl,ob,n⟩ hI67 hW68 h
       simp only [go_sem,seval,Zc] at hI67
       obtain ⟨⟨g69_5,g69_8,g69_10,g69_11,g69_15,g69_17,g69_18,g69_60,g69_61,g69_62,g69_69,g69_70,g69_71,g69_99,g69_100,g69_101⟩,og69_0,og69_1,og69_2,og69_3,og69_4,og69_5,og69_6,hn⟩:=hI67
       subst hn
       have q70:=Zy (x1661.thn.length)
       try simp only [*,go_sem,seval]
       refine ⟨_,[],[0,1,2,3,4],(Option.some.inj h).symm,by decide,?_⟩
       try simp only [*,go_sem,seval]
    ·rintro ⟨row_1732,row_1733⟩ ⟨sl,ob,n⟩ hI71 hW72 h
     simp only [go_sem,seval,Zc] at hI71
     obtain ⟨⟨g73_5,g73_8,g73_10,g73_11,g73_15,g73_60,g73_61,g73_62,g73_69,g73_70,g73_71⟩,og73_0,og73_1,og73_2,og73_3,og73_4,hn⟩:=hI71
     subst hn
     have q74:=Zy (v1663.length)
     try simp only [*,go_sem,seval]
     refine ⟨_,[],[0,1,2,3],(Option.some.inj h).symm,by decide,?_⟩
     try simp only [*,go_sem,seval]
   ·rintro ⟨row_1446,row_1447⟩ ⟨sl,ob,n⟩ hI75 hW76 h
    simp only [go_sem,seval,Zc] at hI75
    obtain ⟨⟨g77_5,g77_8,g77_10,g77_11,g77_60,g77_61,g77_62⟩,og77_0,og77_1,og77_2,og77_3,hn⟩:=hI75
    subst hn
    have q78:=Zy (append_0.length)
    try simp only [*,go_sem,seval]
    refine Ze h (fun _ h=>?_) fun _ h=>?_<;>try simp only [*,go_sem,seval]
    ·cases h
     try simp only [*,go_sem,seval]
    ·cases h
     try simp only [*,go_sem,seval]
 ·cases h
  try simp only [*,go_sem,seval]
theorem ZhS {l_0:(List Zt)} {facts_1:(List Zb)} {r:(List Zu)} (h:ZaF l_0 facts_1=some r):Zk Tryz.prog J0 171 [(false,[.sl 173 5 (List.map ZK l_0)]),(false,[.sl 45 2 (List.map Zl facts_1)])] [(false,[(false,.sl 120 2 (List.map YK r))])]:=by
 refine fnk Tryz.func171 (by kernel_rfl) rfl (by kernel_rfl) (by kernel_rfl) ?_
 unfold ZaF at h
 simp only [fnS,f171,Zm,go_sem,seval]
 refine Zi h (fun i a st=>IV [(0,.p false [.c (.sl 173 5 (List.map ZK l_0))]),(1,.p false [.c (.sl 45 2 (List.map Zl facts_1))]),(5,.p false [.row 0]),(6,.p false [.c (.int .i64 ((i:Nat):Int))])] [.row 120 2 (List.map YK a) 2] st) [] [32] (by decide) ?_ ?_ ?_
 simp only [*,go_sem,seval]
 rintro m o a ⟨sl,ob,n⟩ q b d f h t
 simp only [go_sem,seval,Zc] at d
 obtain ⟨⟨g,u,v,w⟩,x,hn⟩:=d
 subst hn
 have k:=WF.slotL f g (j:=0) rfl
 have y:=ZA b
 have z:=ZC b
 have A:=Zj (ZB b) k
 try simp only [*,go_sem,seval]
 obtain ⟨B,l,h⟩:=Za h
 refine Zd (Zqk l) ?_
 try simp only [*,go_sem,seval]
 refine ⟨_,[],[161],(Option.some.inj h).symm,by decide,?_⟩
 try simp only [*,go_sem,seval]
 rintro a ⟨sl,ob,n⟩ e C h
 simp only [go_sem,seval,Zc] at e
 obtain ⟨⟨D,E,F,G⟩,H,hn⟩:=e
 subst hn
 have I:=Zy (l_0.length)
 cases h
 try simp only [*,go_sem,seval]
theorem ZmT {rules_0:(List Zg)} {facts_1:(List Zb)} {r:Bool} (h:Zdk rules_0 facts_1=some r):Zk Tryz.prog J0 16 [(false,[.sl 42 4 (List.map ZF rules_0)]),(false,[.sl 45 2 (List.map Zl facts_1)])] [(false,[(false,.bool r)])]:=by
 refine fnk Tryz.func16 (by kernel_rfl) rfl (by kernel_rfl) (by kernel_rfl) ?_
 unfold Zdk at h
 simp only [fnS,f16,Zm,go_sem,seval]
 obtain ⟨v1,e1,h⟩:=Za h
 refine Zd (by have hh:=Zer e1;first|exact hh|(simp only [*,go_sem] at hh;exact hh)) ?_
 try simp only [*,go_sem,seval]
 refine Ze h (fun _ h=>?_) fun _ h=>?_<;>try simp only [*,go_sem,seval]
 ·obtain ⟨v2,e3,h⟩:=Za h
  refine Zd (by have hh:=Zep e3;first|exact hh|(simp only [*,go_sem] at hh;exact hh)) ?_
  try simp only [*,go_sem,seval]
  refine Ze h (fun _ h=>?_) fun _ h=>?_<;>try simp only [*,go_sem,seval]
  ·refine Zi h (fun i _ st=>IV [(1,.p false [.c (.sl 45 2 (List.map Zl facts_1))]),(21,.p false [.c (.sl 42 4 (List.map ZF rules_0))]),(22,.p false [.c (.int .i64 ((rules_0.length:Nat):Int))]),(23,.p false [.c (.int .i64 ((i:Nat):Int))])] [] st) [] [] (by decide) ?_ ?_ ?_
   ·simp only [*,go_sem,seval]
   ·rintro i84 x85 ⟨⟩ ⟨sl,ob,n⟩ y5 hx6 hI7 hW8 h hy5
    simp only [go_sem,seval,Zc] at hI7
    obtain ⟨⟨g9_1,g9_21,g9_22,g9_23⟩,hn⟩:=hI7
    subst hn
    have hlhx6:=WF.slotL hW8 g9_21 (j:=0) rfl
    have q10:=ZA hx6
    have q11:=ZC hx6
    have q12:=Zj (ZB hx6) hlhx6
    try simp only [*,go_sem,seval]
    obtain ⟨v86,e13,h⟩:=Za h
    refine ZfP (by have hh:=ZgW e13;first|exact hh|(simp only [*,go_sem] at hh;exact hh)) ?_
    try simp only [*,go_sem,seval]
    refine Zi h (fun i _ st=>IV [(1,.p false [.c (.sl 45 2 (List.map Zl facts_1))]),(6,.bp 0 0),(21,.p false [.c (.sl 42 4 (List.map ZF rules_0))]),(22,.p false [.c (.int .i64 ((rules_0.length:Nat):Int))]),(23,.p false [.c (.int .i64 ((i84:Nat):Int))]),(29,.p false [.c (.sl 38 3 (List.map Zc8 v86))]),(30,.p false [.c (.int .i64 ((v86.length:Nat):Int))]),(31,.p false [.c (.int .i64 ((i:Nat):Int))])] [.box 42 [.c (.str x85.name),.c (.int .i64 x85.priority),.c (.sl 173 5 (List.map ZK x85.cond)),.c (.sl 50 3 (List.map ZG x85.thn))]] st) [] [48] (by decide) ?_ ?_ ?_
    ·simp only [*,go_sem,seval]
    ·rintro i112 x113 ⟨⟩ ⟨sl,ob,n⟩ y14 hx15 hI16 hW17 h hy14
     simp only [go_sem,seval,Zc] at hI16
     obtain ⟨⟨g18_1,g18_6,g18_21,g18_22,g18_23,g18_29,g18_30,g18_31⟩,og18_0,hn⟩:=hI16
     subst hn
     have hlhx15:=WF.slotL hW17 g18_29 (j:=0) rfl
     have q19:=ZA hx15
     have q20:=ZC hx15
     have q21:=Zj (ZB hx15) hlhx15
     try simp only [*,go_sem,seval]
     refine Zi h (fun i _ st=>IV [(1,.p false [.c (.sl 45 2 (List.map Zl facts_1))]),(6,.bp 0 0),(8,.bp 1 0),(21,.p false [.c (.sl 42 4 (List.map ZF rules_0))]),(22,.p false [.c (.int .i64 ((rules_0.length:Nat):Int))]),(23,.p false [.c (.int .i64 ((i84:Nat):Int))]),(29,.p false [.c (.sl 38 3 (List.map Zc8 v86))]),(30,.p false [.c (.int .i64 ((v86.length:Nat):Int))]),(31,.p false [.c (.int .i64 ((i112:Nat):Int))]),(36,.p false [.c (.sl 50 3 (List.map ZG x85.thn))]),(37,.p false [.c (.int .i64 ((x85.thn.length:Nat):Int))]),(38,.p false [.c (.int .i64 ((i:Nat):Int))])] [.box 42 [.c (.str x85.name),.c (.int .i64 x85.priority),.c (.sl 173 5 (List.map ZK x85.cond)),.c (.sl 50 3 (List.map ZG x85.thn))],.box 38 [.c (.str x113.rule),.c (.sl 45 2 (List.map Zl x113.facts)),.c (.sl 166 2 (List.map Z4 x113.binding))]] st) [] [0,49] (by decide) ?_ ?_ ?_
     ·simp only [*,go_sem,seval]
     ·rintro i121 x122 ⟨⟩ ⟨sl,ob,n⟩ y22 hx23 hI24 hW25 h hy22
      simp only [go_sem,seval,Zc] at hI24
      obtain ⟨⟨g26_1,g26_6,g26_8,g26_21,g26_22,g26_23,g26_29,g26_30,g26_31,g26_36,g26_37,g26_38⟩,og26_0,og26_1,hn⟩:=hI24
      subst hn
      have hlhx23:=WF.slotL hW25 g26_36 (j:=0) rfl
      have q27:=ZA hx23
      have q28:=ZC hx23
      have q29:=Zj (ZB hx23) hlhx23
      try simp only [*,go_sem,seval]
      refine Ze h (fun _ h=>?_) fun _ h=>?_<;>try simp only [*,go_sem,seval]
      ·refine ⟨_,[],[0,1],(Option.some.inj h).symm,by decide,?_⟩
       try simp only [*,go_sem,seval]
      ·obtain ⟨v123,e31,h⟩:=Za h
       refine Zd (by have hh:=Zce e31;first|exact hh|(simp only [*,go_sem] at hh;exact hh)) ?_
       try simp only [*,go_sem,seval]
       obtain ⟨v124,e32,h⟩:=Za h
       refine Zd (by have hh:=Qq e32;first|exact hh|(simp only [*,go_sem] at hh;exact hh)) ?_
       try simp only [*,go_sem,seval]
       refine Ze h (fun _ h=>?_) fun _ h=>?_<;>try simp only [*,go_sem,seval]
       ·replace h:=Zn h hy22
        replace h:=Zn h hy14
        replace h:=Zn h hy5
        cases h
        try simp only [*,go_sem,seval]
       ·refine ⟨_,[],[0,1],(Option.some.inj h).symm,by decide,?_⟩
        try simp only [*,go_sem,seval]
     ·rintro ⟨⟩ ⟨sl,ob,n⟩ hI34 hW35 h
      simp only [go_sem,seval,Zc] at hI34
      obtain ⟨⟨g36_1,g36_6,g36_8,g36_21,g36_22,g36_23,g36_29,g36_30,g36_31,g36_36,g36_37,g36_38⟩,og36_0,og36_1,hn⟩:=hI34
      subst hn
      have q37:=Zy (x85.thn.length)
      try simp only [*,go_sem,seval]
      refine ⟨_,[],[0],(Option.some.inj h).symm,by decide,?_⟩
      try simp only [*,go_sem,seval]
    ·rintro ⟨⟩ ⟨sl,ob,n⟩ hI38 hW39 h
     simp only [go_sem,seval,Zc] at hI38
     obtain ⟨⟨g40_1,g40_6,g40_21,g40_22,g40_23,g40_29,g40_30,g40_31⟩,og40_0,hn⟩:=hI38
     subst hn
     have q41:=Zy (v86.length)
     try simp only [*,go_sem,seval]
     refine ⟨_,[],[],(Option.some.inj h).symm,by decide,?_⟩
     try simp only [*,go_sem,seval]
   ·rintro ⟨⟩ ⟨sl,ob,n⟩ hI42 hW43 h
    simp only [go_sem,seval,Zc] at hI42
    obtain ⟨⟨g44_1,g44_21,g44_22,g44_23⟩,hn⟩:=hI42
    subst hn
    have q45:=Zy (rules_0.length)
    cases h
    try simp only [*,go_sem,seval]
  ·cases h
   try simp only [*,go_sem,seval]
 ·cases h
  try simp only [*,go_sem,seval]
theorem ZkO {rules_0:(List Zg)} {facts_1:(List Zb)} {r:(List Qg)} (h:ZcS rules_0 facts_1=some r):Zk Tryz.prog J0 70 [(false,[.sl 42 4 (List.map ZF rules_0)]),(false,[.sl 45 2 (List.map Zl facts_1)])] [(false,[(true,.sl 38 3 (List.map Zc8 r))])]:=by
 refine fnk Tryz.func70 (by kernel_rfl) rfl (by kernel_rfl) (by kernel_rfl) ?_
 unfold ZcS at h
 simp only [fnS,f70,Zm,go_sem,seval]
 refine Zi h (fun i a st=>IV [(1,.p false [.c (.sl 45 2 (List.map Zl facts_1))]),(5,.p false [.row 0]),(8,.p false [.c (.sl 42 4 (List.map ZF rules_0))]),(9,.p false [.c (.int .i64 ((rules_0.length:Nat):Int))]),(10,.p false [.c (.int .i64 ((i:Nat):Int))])] [.row 38 3 (List.map Zc8 a) 1] st) [(false,5,0),(true,80,1)] [80] (by decide) ?_ ?_ ?_
 simp only [*,go_sem,seval]
 rintro o q a ⟨sl,ob,n⟩ t b d f h u
 simp only [go_sem,seval,Zc] at d
 obtain ⟨⟨v,w,g,x,y⟩,z,hn⟩:=d
 subst hn
 have k:=WF.slotL f g (j:=0) rfl
 have A:=ZA b
 have B:=ZC b
 have C:=Zj (ZB b) k
 try simp only [*,go_sem,seval]
 obtain ⟨D,l,h⟩:=Za h
 refine ZfP (ZgW l) ?_
 obtain ⟨m,h⟩:=Zq h
 try simp only [Nat.reduceLeDiff] at m
 try simp only [*,go_sem,seval]
 refine ⟨_,[],[145],(Option.some.inj h).symm,by decide,?_⟩
 try simp only [*,go_sem,seval]
 rintro a ⟨sl,ob,n⟩ e E h
 simp only [go_sem,seval,Zc] at e
 obtain ⟨⟨F,G,H,I,J⟩,K,hn⟩:=e
 subst hn
 have L:=Zy (rules_0.length)
 cases h
 try simp only [*,go_sem,seval]
end Go.Proofs.YtfehfkfdfmcgfaaGreatDoor
namespace Go.Proofs.YtfehfkfdfmcgfaaGreatDoor
open Go.Proofs.Tryz
set_option linter.unusedSimpArgs false
set_option linter.unusedVariables false
set_option maxRecDepth 1000000
set_option maxHeartbeats 4000000
theorem Zm1 {c_0:ZJ} {a:Bool} {r:((List Zg) × ZJ)} (h:Zd3 c_0 a=some r):Zbx Tryz.prog J0 JF0 59 (.box 152 (Zbj c_0)) [(false,[.bool a])] [(false,[(false,.sl 42 4 (List.map ZF r.1))])] (.box 152 (Zbj r.2)):=by
 refine fnh Tryz.func59 (by kernel_rfl) rfl (by kernel_rfl) (by kernel_rfl) ?_
 unfold Zd3 at h
 have l:Z9 ⟨#[114]⟩=true:=by decide
 simp only [fnH,f59,Zdh,Zdg,Xp,go_sem,seval,l]
 obtain ⟨v,m,h⟩:=Za h
 refine QL (Q7 m) ?_
 try simp only [*,go_sem,seval]
 refine Yo h (fun s st=>match s with | (b,d,e,f,g)=>IV [(0,.bp 0 0),(1,.p false [.c (.bool a)]),(5,.p false [.row 1]),(6,.p false [.c (.int .i64 g)])] [.box 152 [.c (.sl 5 1 (List.map ZeK b)),.c (.int .i64 d),.c (.int .i64 e)],.row 42 4 (List.map ZF f) 2] st) [] [0,17] (by decide) ?_ ?_
 simp only [*,go_sem,seval]
 rintro ⟨b,d,e,f,g⟩ ⟨sl,ob,n⟩ w j x h o
 simp only [go_sem,seval,Zc] at j
 obtain ⟨⟨y,z,A,B⟩,C,D,hn⟩:=j
 subst hn
 try simp only [*,go_sem,seval]
 refine Ze h (fun _ h=>?_) fun _ h=>?_<;>try simp only [*,go_sem,seval]
 obtain ⟨E,q,h⟩:=Za h
 refine QL (Zm2 q) ?_
 try simp only [*,go_sem,seval]
 obtain ⟨F,t,h⟩:=Za h
 refine Zd (ZgG t) ?_
 obtain ⟨k,h⟩:=Zq h
 try simp only [Nat.reduceLeDiff] at k
 try simp only [go_sem] at k
 obtain ⟨u,h⟩:=Zq h
 try simp only [Nat.reduceLeDiff] at u
 try simp only [*,go_sem,seval]
 refine ⟨_,[],[0,242],(Option.some.inj h).symm,by decide,?_⟩
 try simp only [*,go_sem,seval]
 replace h:=Zn h o
 cases h
 try simp only [*,go_sem,seval]
theorem Zig {rules_0:(List Zg)} {base_1:(List Zb)} {r:((List Zb) × Zr × Bool)} (h:Ql rules_0 base_1=some r):Zk Tryz.prog J0 61 [(false,[.sl 42 4 (List.map ZF rules_0)]),(false,[.sl 45 2 (List.map Zl base_1)])] [(false,[(false,.sl 45 2 (List.map Zl r.1))]),(true,[(false,.int .i64 r.2.1.nodes),(false,.sl 199 3 (List.map ZE r.2.1.reasons))]),(false,[(false,.bool r.2.2)])]:=by
 refine fnk Tryz.func61 (by kernel_rfl) rfl (by kernel_rfl) (by kernel_rfl) ?_
 unfold Ql at h
 simp only [fnS,f61,Zm,go_sem,seval]
 obtain ⟨b,a,h⟩:=Za h
 refine Zd (ZqY a) ?_
 cases h
 try simp only [*,go_sem,seval]
theorem Zit {append_0:(List Zg)} {String_1:(List Zb)} {r:((List Zb) × Bool)} (h:Yu append_0 String_1=some r):Zk Tryz.prog J0 109 [(false,[.sl 42 4 (List.map ZF append_0)]),(false,[.sl 45 2 (List.map Zl String_1)])] [(false,[(false,.sl 45 2 (List.map Zl r.1))]),(false,[(false,.bool r.2)])]:=by
 refine fnn 4 Tryz.func109 (by kernel_rfl) rfl (by kernel_rfl) (by kernel_rfl) ?_
 unfold Yu at h
 simp only [fnN,f109,Zm,go_sem,seval]
 obtain ⟨v1,e1,h⟩:=Za h
 refine Zd (by have hh:=ZkN e1;first|exact hh|(simp only [*,go_sem] at hh;exact hh)) ?_
 try simp only [*,go_sem,seval]
 refine Ze h (fun _ h=>?_) fun _ h=>?_<;>try simp only [*,go_sem,seval]
 ·obtain ⟨v2,e3,h⟩:=Za h
  refine Zd (by have hh:=Znd e3;first|exact hh|(simp only [*,go_sem] at hh;exact hh)) ?_
  try simp only [*,go_sem,seval]
  refine Ze h (fun _ h=>?_) fun _ h=>?_<;>try simp only [*,go_sem,seval]
  ·obtain ⟨v3,e5,h⟩:=Za h
   refine Zd (by have hh:=Zeq e5;first|exact hh|(simp only [*,go_sem] at hh;exact hh)) ?_
   try simp only [*,go_sem,seval]
   refine Yo h (fun s st=>match s with | (u_187,u_188)=>IV [(0,.p false [.c (.sl 42 4 (List.map ZF append_0))]),(6,.p false [.n (.sl 45 2 (List.map Zl u_187))]),(7,.p false [.c (.bool u_188)])] [] st) [(false,6,4096)] [] (by decide) ?_ ?_
   ·simp only [*,go_sem,seval]
   ·rintro ⟨u_187,u_188⟩ ⟨sl,ob,n⟩ y6 hI7 hW8 h hy6
    simp only [go_sem,seval,Zc] at hI7
    obtain ⟨⟨g9_0,g9_6,g9_7⟩,hn⟩:=hI7
    subst hn
    try simp only [*,go_sem,seval]
    refine Ze h (fun _ h=>?_) fun _ h=>?_<;>try simp only [*,go_sem,seval]
    ·refine Zi h (fun i u_249 st=>IV [(0,.p false [.c (.sl 42 4 (List.map ZF append_0))]),(6,.p false [.n (.sl 45 2 (List.map Zl u_249))]),(8,.p false [.n (.sl 45 2 (List.map Zl u_187))]),(9,.p false [.c (.int .i64 ((i:Nat):Int))])] [] st) [] [] (by decide) ?_ ?_ ?_
     ·simp only [*,go_sem,seval]
     ·rintro i311 x312 u_249 ⟨sl,ob,n⟩ y11 hx12 hI13 hW14 h hy11
      simp only [go_sem,seval,Zc] at hI13
      obtain ⟨⟨g15_0,g15_6,g15_8,g15_9⟩,hn⟩:=hI13
      subst hn
      have hlhx12:=WF.slotL hW14 g15_0 (j:=0) rfl
      have q16:=ZA hx12
      have q17:=ZC hx12
      have q18:=Zj (ZB hx12) hlhx12
      try simp only [*,go_sem,seval]
      obtain ⟨v313,e19,h⟩:=Za h
      refine ZfP (by have hh:=ZeY e19;first|exact hh|(simp only [*,go_sem] at hh;exact hh)) ?_
      try simp only [*,go_sem,seval]
      obtain ⟨v314,e20,h⟩:=Za h
      refine Zd (by have hh:=ZhS e20;first|exact hh|(simp only [*,go_sem] at hh;exact hh)) ?_
      try simp only [*,go_sem,seval]
      refine Zi h (fun i u_335 st=>IV [(0,.p false [.c (.sl 42 4 (List.map ZF append_0))]),(6,.p false [.n (.sl 45 2 (List.map Zl u_335))]),(8,.p false [.n (.sl 45 2 (List.map Zl u_187))]),(9,.p false [.c (.int .i64 ((i311:Nat):Int))]),(10,.p false [.row 0]),(11,.p false [.c (.int .i64 ((i:Nat):Int))])] [.row 120 2 (List.map YK v314) 2] st) [] [160] (by decide) ?_ ?_ ?_
      ·simp only [*,go_sem,seval]
      ·rintro i355 x356 u_335 ⟨sl,ob,n⟩ y21 hx22 hI23 hW24 h hy21
       simp only [go_sem,seval,Zc] at hI23
       obtain ⟨⟨g25_0,g25_6,g25_8,g25_9,g25_10,g25_11⟩,og25_0,hn⟩:=hI23
       subst hn
       have hlhx22:=WF.rowL hW24 og25_0
       have q26:=ZA hx22
       have q27:=ZC hx22
       have q28:=Zj (ZB hx22) hlhx22
       try simp only [*,go_sem,seval]
       refine Zi h (fun i u_364 st=>IV [(0,.p false [.c (.sl 42 4 (List.map ZF append_0))]),(6,.p false [.n (.sl 45 2 (List.map Zl u_364))]),(8,.p false [.n (.sl 45 2 (List.map Zl u_187))]),(9,.p false [.c (.int .i64 ((i311:Nat):Int))]),(10,.p false [.row 0]),(11,.p false [.c (.int .i64 ((i355:Nat):Int))]),(12,.p false [.c (.int .i64 ((i:Nat):Int))])] [.row 120 2 (List.map YK v314) 2] st) [] [0] (by decide) ?_ ?_ ?_
       ·simp only [*,go_sem,seval]
       ·rintro i368 x369 u_364 ⟨sl,ob,n⟩ y29 hx30 hI31 hW32 h hy29
        simp only [go_sem,seval,Zc] at hI31
        obtain ⟨⟨g33_0,g33_6,g33_8,g33_9,g33_10,g33_11,g33_12⟩,og33_0,hn⟩:=hI31
        subst hn
        have hlhx30:=WF.elL (WF.slotD hW32 g33_0 (j:=0) rfl) hx12 (j:=3) rfl
        have q34:=ZA hx30
        have q35:=ZC hx30
        have q36:=Zj (ZB hx30) hlhx30
        try simp only [*,go_sem,seval]
        obtain ⟨v370,e37,h⟩:=Za h
        refine Zd (by have hh:=Zb8 e37;first|exact hh|(simp only [*,go_sem] at hh;exact hh)) ?_
        try simp only [*,go_sem,seval]
        obtain ⟨v371,e38,h⟩:=Za h
        refine Zd (by have hh:=Zdw e38;first|exact hh|(simp only [*,go_sem] at hh;exact hh)) ?_
        try simp only [*,go_sem,seval]
        refine ⟨_,[(false,6,4096)],[0],(Option.some.inj h).symm,by decide,?_⟩
        try simp only [*,go_sem,seval]
       ·rintro u_364 ⟨sl,ob,n⟩ hI39 hW40 h
        simp only [go_sem,seval,Zc] at hI39
        obtain ⟨⟨g41_0,g41_6,g41_8,g41_9,g41_10,g41_11,g41_12⟩,og41_0,hn⟩:=hI39
        subst hn
        have q42:=Zy (x312.thn.length)
        try simp only [*,go_sem,seval]
        refine ⟨_,[],[0],(Option.some.inj h).symm,by decide,?_⟩
        try simp only [*,go_sem,seval]
      ·rintro u_335 ⟨sl,ob,n⟩ hI43 hW44 h
       simp only [go_sem,seval,Zc] at hI43
       obtain ⟨⟨g45_0,g45_6,g45_8,g45_9,g45_10,g45_11⟩,og45_0,hn⟩:=hI43
       subst hn
       have q46:=Zy (v314.length)
       try simp only [*,go_sem,seval]
       refine Ze h (fun _ h=>?_) fun _ h=>?_<;>try simp only [*,go_sem,seval]
       ·replace h:=Zn h hy11
        replace h:=Zn h hy6
        cases h
        try simp only [*,go_sem,seval]
       ·refine ⟨_,[],[],(Option.some.inj h).symm,by decide,?_⟩
        try simp only [*,go_sem,seval]
     ·rintro u_249 ⟨sl,ob,n⟩ hI48 hW49 h
      simp only [go_sem,seval,Zc] at hI48
      obtain ⟨⟨g50_0,g50_6,g50_8,g50_9⟩,hn⟩:=hI48
      subst hn
      have q51:=Zy (append_0.length)
      try simp only [*,go_sem,seval]
      refine ⟨_,[],[],(Option.some.inj h).symm,by decide,?_⟩
      try simp only [*,go_sem,seval]
    ·replace h:=Zn h hy6
     cases h
     try simp only [*,go_sem,seval]
  ·cases h
   try simp only [*,go_sem,seval]
 ·cases h
  try simp only [*,go_sem,seval]
theorem ZkM {rules_0:(List Zg)} {facts_1:(List Zb)} {r:(List Qg)} (h:Zbd rules_0 facts_1=some r):Zk Tryz.prog J0 18 [(false,[.sl 42 4 (List.map ZF rules_0)]),(false,[.sl 45 2 (List.map Zl facts_1)])] [(false,[(true,.sl 38 3 (List.map Zc8 r))])]:=by
 refine fnk Tryz.func18 (by kernel_rfl) rfl (by kernel_rfl) (by kernel_rfl) ?_
 unfold Zbd at h
 simp only [fnS,f18,Zm,go_sem,seval]
 obtain ⟨d,a,h⟩:=Za h
 refine Zd (Zer a) ?_
 try simp only [*,go_sem,seval]
 refine Ze h (fun _ h=>?_) fun _ h=>?_<;>try simp only [*,go_sem,seval]
 obtain ⟨e,b,h⟩:=Za h
 refine Zd (Zep b) ?_
 try simp only [*,go_sem,seval]
 refine Ze h (fun _ h=>?_) fun _ h=>?_<;>try simp only [*,go_sem,seval]
 obtain ⟨f,c,h⟩:=Za h
 refine ZfP (ZkO c) ?_
 iterate 3 (cases h;try simp only [*,go_sem,seval])
end Go.Proofs.YtfehfkfdfmcgfaaGreatDoor
namespace Go.Proofs.YtfehfkfdfmcgfaaGreatDoor
open Go.Proofs.Tryz
set_option linter.unusedSimpArgs false
set_option linter.unusedVariables false
set_option maxRecDepth 1000000
set_option maxHeartbeats 4000000
theorem ZjG {code_0:(List Int)} {r:((List Zg) × (List Zb))} (h:Zau code_0=some r):Zk Tryz.prog J0 12 [(false,[.sl 5 1 (List.map ZeK code_0)])] [(false,[(false,.sl 42 4 (List.map ZF r.1))]),(false,[(false,.sl 45 2 (List.map Zl r.2))])]:=by
 refine fnk Tryz.func12 (by kernel_rfl) rfl (by kernel_rfl) (by kernel_rfl) ?_
 unfold Zau at h
 simp only [fnS,f12,Zm,go_sem,seval]
 obtain ⟨d,a,h⟩:=Za h
 refine ZCT (Zsi a) ?_
 try simp only [*,go_sem,seval]
 obtain ⟨e,b,h⟩:=Za h
 refine QL (Zm1 b) ?_
 try simp only [*,go_sem,seval]
 obtain ⟨f,c,h⟩:=Za h
 refine QL (ZoJ c) ?_
 cases h
 try simp only [*,go_sem,seval]
theorem ZiC {rules_0:(List Zg)} {base_1:(List Zb)} {r:((List Zb) × Bool)} (h:ZbK rules_0 base_1=some r):Zk Tryz.prog J0 13 [(false,[.sl 42 4 (List.map ZF rules_0)]),(false,[.sl 45 2 (List.map Zl base_1)])] [(false,[(false,.sl 45 2 (List.map Zl r.1))]),(false,[(false,.bool r.2)])]:=by
 refine fnk Tryz.func13 (by kernel_rfl) rfl (by kernel_rfl) (by kernel_rfl) ?_
 unfold ZbK at h
 simp only [fnS,f13,Zm,go_sem,seval]
 obtain ⟨c,a,h⟩:=Za h
 refine Zd (Zig a) ?_
 try simp only [*,go_sem,seval]
 refine Ze h (fun _ h=>?_) fun _ h=>?_<;>try simp only [*,go_sem,seval]
 obtain ⟨d,b,h⟩:=Za h
 refine Zd (ZmQ b) ?_
 iterate 2 (cases h;try simp only [*,go_sem,seval])
theorem Zlw {append_0:(List Zg)} {String_1:(List Zb)} {r:((List Zb) × Zr × (List Xr) × Bool)} (h:Xy append_0 String_1=some r):Zk Tryz.prog J0 130 [(false,[.sl 42 4 (List.map ZF append_0)]),(false,[.sl 45 2 (List.map Zl String_1)])] [(false,[(false,.sl 45 2 (List.map Zl r.1))]),(true,[(false,.int .i64 r.2.1.nodes),(false,.sl 199 3 (List.map ZE r.2.1.reasons))]),(false,[(false,.any)]),(false,[(false,.bool r.2.2.2)])]:=by
 refine fnk Tryz.func130 (by kernel_rfl) rfl (by kernel_rfl) (by kernel_rfl) ?_
 unfold Xy at h
 simp only [fnS,f130,Zm,go_sem,seval]
 obtain ⟨v1,e1,h⟩:=Za h
 refine Zd (by have hh:=Zit e1;first|exact hh|(simp only [*,go_sem] at hh;exact hh)) ?_
 try simp only [*,go_sem,seval]
 refine Ze h (fun _ h=>?_) fun _ h=>?_<;>try simp only [*,go_sem,seval]
 ·refine Zi h (fun i s st=>match s with | (row_6,row_7)=>IV [(0,.p false [.c (.sl 42 4 (List.map ZF append_0))]),(1,.p false [.c (.sl 45 2 (List.map Zl String_1))]),(5,.bp 0 0),(8,.p false [.row 1]),(10,.bp 2 0),(11,.p false [.row 4]),(12,.p false [.c (.int .i64 ((i:Nat):Int))])] [.box 64 [.c (.int .i64 0),.nil 199 3],.row 45 2 (List.map Zl v1.1) 2,.box 64 [.c (.int .i64 ((v1.1.length:Nat):Int)),.row 3],.row 199 3 (List.map ZE row_6) 2,.row 208 3 (List.map Ze9 row_7) 2] st) [(true,240,1)] [16,96,240,352,272] (by decide) ?_ ?_ ?_
  ·simp only [*,go_sem,seval]
  ·rintro i255 x256 ⟨row_6,row_7⟩ ⟨sl,ob,n⟩ y3 hx4 hI5 hW6 h hy3
   simp only [go_sem,seval,Zc] at hI5
   obtain ⟨⟨g7_0,g7_1,g7_5,g7_8,g7_10,g7_11,g7_12⟩,og7_0,og7_1,og7_2,og7_3,og7_4,hn⟩:=hI5
   subst hn
   have hlhx4:=WF.slotL hW6 g7_1 (j:=0) rfl
   have q8:=ZA hx4
   have q9:=ZC hx4
   have q10:=Zj (ZB hx4) hlhx4
   try simp only [*,go_sem,seval]
   obtain ⟨v257,e11,h⟩:=Za h
   refine Zd (by have hh:=Zb0 e11;first|exact hh|(simp only [*,go_sem] at hh;exact hh)) ?_
   obtain ⟨p12,h⟩:=Zq h
   try simp only [Nat.reduceLeDiff] at p12
   obtain ⟨p13,h⟩:=Zq h
   try simp only [Nat.reduceLeDiff] at p13
   try simp only [*,go_sem,seval]
   refine ⟨_,[],[0,1,2,229,325],(Option.some.inj h).symm,by decide,?_⟩
   try simp only [*,go_sem,seval]
  ·rintro ⟨row_6,row_7⟩ ⟨sl,ob,n⟩ hI14 hW15 h
   simp only [go_sem,seval,Zc] at hI14
   obtain ⟨⟨g16_0,g16_1,g16_5,g16_8,g16_10,g16_11,g16_12⟩,og16_0,og16_1,og16_2,og16_3,og16_4,hn⟩:=hI14
   subst hn
   have q17:=Zy (String_1.length)
   try simp only [*,go_sem,seval]
   refine Zi h (fun i s st=>match s with | (row_388,row_389)=>IV [(0,.p false [.c (.sl 42 4 (List.map ZF append_0))]),(5,.bp 0 0),(8,.p false [.row 1]),(10,.bp 2 0),(11,.p false [.row 4]),(13,.p false [.c (.int .i64 ((i:Nat):Int))])] [.box 64 [.c (.int .i64 0),.nil 199 3],.row 45 2 (List.map Zl v1.1) 2,.box 64 [.c (.int .i64 ((v1.1.length:Nat):Int)),.row 3],.row 199 3 (List.map ZE row_388) 2,.row 208 3 (List.map Ze9 row_389) 1] st) [(true,4,1)] [0,1,2,3,4] (by decide) ?_ ?_ ?_
   ·simp only [*,go_sem,seval]
   ·rintro i446 x447 ⟨row_388,row_389⟩ ⟨sl,ob,n⟩ y18 hx19 hI20 hW21 h hy18
    simp only [go_sem,seval,Zc] at hI20
    obtain ⟨⟨g22_0,g22_5,g22_8,g22_10,g22_11,g22_13⟩,og22_0,og22_1,og22_2,og22_3,og22_4,hn⟩:=hI20
    subst hn
    have hlhx19:=WF.slotL hW21 g22_0 (j:=0) rfl
    have q23:=ZA hx19
    have q24:=ZC hx19
    have q25:=Zj (ZB hx19) hlhx19
    try simp only [*,go_sem,seval]
    obtain ⟨v448,e26,h⟩:=Za h
    refine ZfP (by have hh:=ZeY e26;first|exact hh|(simp only [*,go_sem] at hh;exact hh)) ?_
    try simp only [*,go_sem,seval]
    obtain ⟨v449,e27,h⟩:=Za h
    refine Zd (by have hh:=ZhS e27;first|exact hh|(simp only [*,go_sem] at hh;exact hh)) ?_
    try simp only [*,go_sem,seval]
    refine Zi h (fun i s st=>match s with | (row_467,row_468)=>IV [(0,.p false [.c (.sl 42 4 (List.map ZF append_0))]),(5,.bp 0 0),(8,.p false [.row 1]),(10,.bp 2 0),(11,.p false [.row 4]),(13,.p false [.c (.int .i64 ((i446:Nat):Int))]),(14,.p false [.row 5]),(15,.p false [.c (.int .i64 ((i:Nat):Int))])] [.box 64 [.c (.int .i64 0),.nil 199 3],.row 45 2 (List.map Zl v1.1) 2,.box 64 [.c (.int .i64 ((v1.1.length:Nat):Int)),.row 3],.row 199 3 (List.map ZE row_467) 2,.row 208 3 (List.map Ze9 row_468) 1,.row 120 2 (List.map YK v449) 2] st) [] [0,1,2,3,4,165] (by decide) ?_ ?_ ?_
    ·simp only [*,go_sem,seval]
    ·rintro i487 x488 ⟨row_467,row_468⟩ ⟨sl,ob,n⟩ y28 hx29 hI30 hW31 h hy28
     simp only [go_sem,seval,Zc] at hI30
     obtain ⟨⟨g32_0,g32_5,g32_8,g32_10,g32_11,g32_13,g32_14,g32_15⟩,og32_0,og32_1,og32_2,og32_3,og32_4,og32_5,hn⟩:=hI30
     subst hn
     have hlhx29:=WF.rowL hW31 og32_5
     have q33:=ZA hx29
     have q34:=ZC hx29
     have q35:=Zj (ZB hx29) hlhx29
     try simp only [*,go_sem,seval]
     refine Zi h (fun i s st=>match s with | (row_494,row_495)=>IV [(0,.p false [.c (.sl 42 4 (List.map ZF append_0))]),(5,.bp 0 0),(8,.p false [.row 1]),(10,.bp 2 0),(11,.p false [.row 4]),(13,.p false [.c (.int .i64 ((i446:Nat):Int))]),(14,.p false [.row 5]),(15,.p false [.c (.int .i64 ((i487:Nat):Int))]),(16,.p false [.c (.int .i64 ((i:Nat):Int))])] [.box 64 [.c (.int .i64 0),.nil 199 3],.row 45 2 (List.map Zl v1.1) 2,.box 64 [.c (.int .i64 ((v1.1.length:Nat):Int)),.row 3],.row 199 3 (List.map ZE row_494) 2,.row 208 3 (List.map Ze9 row_495) 1,.row 120 2 (List.map YK v449) 2] st) [] [0,1,2,3,4,5] (by decide) ?_ ?_ ?_
     ·simp only [*,go_sem,seval]
     ·rintro i498 x499 ⟨row_494,row_495⟩ ⟨sl,ob,n⟩ y36 hx37 hI38 hW39 h hy36
      simp only [go_sem,seval,Zc] at hI38
      obtain ⟨⟨g40_0,g40_5,g40_8,g40_10,g40_11,g40_13,g40_14,g40_15,g40_16⟩,og40_0,og40_1,og40_2,og40_3,og40_4,og40_5,hn⟩:=hI38
      subst hn
      have hlhx37:=WF.elL (WF.slotD hW39 g40_0 (j:=0) rfl) hx19 (j:=3) rfl
      have q41:=ZA hx37
      have q42:=ZC hx37
      have q43:=Zj (ZB hx37) hlhx37
      try simp only [*,go_sem,seval]
      obtain ⟨v500,e44,h⟩:=Za h
      refine Zd (by have hh:=ZkZ e44;first|exact hh|(simp only [*,go_sem] at hh;exact hh)) ?_
      try simp only [*,go_sem,seval]
      obtain ⟨v501,e45,h⟩:=Za h
      refine Zd (by have hh:=Zo7 e45;first|exact hh|(simp only [*,go_sem] at hh;exact hh)) ?_
      try simp only [*,go_sem,seval]
      refine Ze h (fun _ h=>?_) fun _ h=>?_<;>try simp only [*,go_sem,seval]
      ·refine ⟨_,[],[0,1,2,3,4,5],(Option.some.inj h).symm,by decide,?_⟩
       try simp only [*,go_sem,seval]
      ·refine Ze h (fun _ h=>?_) fun _ h=>?_<;>try simp only [*,go_sem,seval]
       ·replace h:=Zn h hy36
        replace h:=Zn h hy28
        replace h:=Zn h hy18
        cases h
        try simp only [*,go_sem,seval]
       ·obtain ⟨p48,h⟩:=Zq h
        try simp only [Nat.reduceLeDiff] at p48
        obtain ⟨p49,h⟩:=Zq h
        try simp only [Nat.reduceLeDiff] at p49
        try simp only [*,go_sem,seval]
        refine ⟨_,[],[0,1,2,550,790,5],(Option.some.inj h).symm,by decide,?_⟩
        try simp only [*,go_sem,seval]
     ·rintro ⟨row_494,row_495⟩ ⟨sl,ob,n⟩ hI50 hW51 h
      simp only [go_sem,seval,Zc] at hI50
      obtain ⟨⟨g52_0,g52_5,g52_8,g52_10,g52_11,g52_13,g52_14,g52_15,g52_16⟩,og52_0,og52_1,og52_2,og52_3,og52_4,og52_5,hn⟩:=hI50
      subst hn
      have q53:=Zy (x447.thn.length)
      try simp only [*,go_sem,seval]
      refine ⟨_,[],[0,1,2,3,4,5],(Option.some.inj h).symm,by decide,?_⟩
      try simp only [*,go_sem,seval]
    ·rintro ⟨row_467,row_468⟩ ⟨sl,ob,n⟩ hI54 hW55 h
     simp only [go_sem,seval,Zc] at hI54
     obtain ⟨⟨g56_0,g56_5,g56_8,g56_10,g56_11,g56_13,g56_14,g56_15⟩,og56_0,og56_1,og56_2,og56_3,og56_4,og56_5,hn⟩:=hI54
     subst hn
     have q57:=Zy (v449.length)
     try simp only [*,go_sem,seval]
     refine ⟨_,[],[0,1,2,3,4],(Option.some.inj h).symm,by decide,?_⟩
     try simp only [*,go_sem,seval]
   ·rintro ⟨row_388,row_389⟩ ⟨sl,ob,n⟩ hI58 hW59 h
    simp only [go_sem,seval,Zc] at hI58
    obtain ⟨⟨g60_0,g60_5,g60_8,g60_10,g60_11,g60_13⟩,og60_0,og60_1,og60_2,og60_3,og60_4,hn⟩:=hI58
    subst hn
    have q61:=Zy (append_0.length)
    cases h
    try simp only [*,go_sem,seval]
 ·cases h
  try simp only [*,go_sem,seval]
end Go.Proofs.YtfehfkfdfmcgfaaGreatDoor
namespace Go.Proofs.YtfehfkfdfmcgfaaGreatDoor
open Go.Proofs.Tryz
set_option linter.unusedSimpArgs false
set_option linter.unusedVariables false
set_option maxRecDepth 1000000
set_option maxHeartbeats 4000000
theorem Zir {rules_0:(List Zg)} {base_1:(List Zb)} {r:((List Zb) × Zr × Bool)} (h:Qi rules_0 base_1=some r):Zk Tryz.prog J0 63 [(false,[.sl 42 4 (List.map ZF rules_0)]),(false,[.sl 45 2 (List.map Zl base_1)])] [(false,[(false,.sl 45 2 (List.map Zl r.1))]),(true,[(false,.int .i64 r.2.1.nodes),(false,.sl 199 3 (List.map ZE r.2.1.reasons))]),(false,[(false,.bool r.2.2)])]:=by
 refine fnk Tryz.func63 (by kernel_rfl) rfl (by kernel_rfl) (by kernel_rfl) ?_
 unfold Qi at h
 simp only [fnS,f63,Zm,go_sem,seval]
 obtain ⟨b,a,h⟩:=Za h
 refine Zd (Zlw a) ?_
 try simp only [*,go_sem,seval]
 refine Ze h (fun _ h=>?_) fun _ h=>?_<;>try simp only [*,go_sem,seval]
 iterate 2 (cases h;try simp only [*,go_sem,seval])
theorem ZmF {rules_0:(List Zg)} {base_1:(List Zb)} {r:(List Zb)} (h:ZcE rules_0 base_1=some r):Zk Tryz.prog J0 17 [(false,[.sl 42 4 (List.map ZF rules_0)]),(false,[.sl 45 2 (List.map Zl base_1)])] [(false,[(true,.sl 45 2 (List.map Zl r))])]:=by
 refine fnk Tryz.func17 (by kernel_rfl) rfl (by kernel_rfl) (by kernel_rfl) ?_
 unfold ZcE at h
 simp only [fnS,f17,Zm,go_sem,seval]
 obtain ⟨a,g,h⟩:=Za h
 refine Zd (ZiC g) ?_
 try simp only [*,go_sem,seval]
 refine Zi h (fun i b st=>IV [(1,.p false [.c (.sl 45 2 (List.map Zl base_1))]),(7,.p false [.row 0]),(16,.p false [.row 1]),(17,.p false [.c (.int .i64 ((a.1.length:Nat):Int))]),(18,.p false [.c (.int .i64 ((i:Nat):Int))])] [.row 45 2 (List.map Zl b) 1,.row 45 2 (List.map Zl a.1) 2] st) [(false,7,0),(true,208,1)] [208,48] (by decide) ?_ ?_ ?_
 simp only [*,go_sem,seval]
 rintro q t b ⟨sl,ob,n⟩ u d e j h v
 simp only [go_sem,seval,Zc] at e
 obtain ⟨⟨w,x,y,z,A⟩,B,k,hn⟩:=e
 subst hn
 have l:=WF.rowL j k
 have C:=ZA d
 have D:=ZC d
 have E:=Zj (ZB d) l
 try simp only [*,go_sem,seval]
 obtain ⟨F,m,h⟩:=Za h
 refine Zd (Qq m) ?_
 try simp only [*,go_sem,seval]
 refine Ze h (fun _ h=>?_) fun _ h=>?_<;>try simp only [*,go_sem,seval]
 obtain ⟨o,h⟩:=Zq h
 try simp only [Nat.reduceLeDiff] at o
 try simp only [*,go_sem,seval]
 refine ⟨_,[],[194,1],(Option.some.inj h).symm,by decide,?_⟩
 try simp only [*,go_sem,seval]
 refine ⟨_,[],[0,1],(Option.some.inj h).symm,by decide,?_⟩
 try simp only [*,go_sem,seval]
 rintro b ⟨sl,ob,n⟩ f G h
 simp only [go_sem,seval,Zc] at f
 obtain ⟨⟨H,I,J,K,L⟩,M,N,hn⟩:=f
 subst hn
 have O:=Zy (a.1.length)
 cases h
 try simp only [*,go_sem,seval]
end Go.Proofs.YtfehfkfdfmcgfaaGreatDoor
namespace Go.Proofs.YtfehfkfdfmcgfaaGreatDoor
open Go.Proofs.Tryz
set_option linter.unusedSimpArgs false
set_option linter.unusedVariables false
set_option maxRecDepth 1000000
set_option maxHeartbeats 4000000
theorem Zpb {rules_0:(List Zg)} {base_1:(List Zb)} {r:((List Zb) × Bool)} (h:Ze1 rules_0 base_1=some r):Zk Tryz.prog J0 14 [(false,[.sl 42 4 (List.map ZF rules_0)]),(false,[.sl 45 2 (List.map Zl base_1)])] [(false,[(false,.sl 45 2 (List.map Zl r.1))]),(false,[(false,.bool r.2)])]:=by
 refine fnk Tryz.func14 (by kernel_rfl) rfl (by kernel_rfl) (by kernel_rfl) ?_
 unfold Ze1 at h
 simp only [fnS,f14,Zm,go_sem,seval]
 obtain ⟨c,a,h⟩:=Za h
 refine Zd (Zir a) ?_
 try simp only [*,go_sem,seval]
 refine Ze h (fun _ h=>?_) fun _ h=>?_<;>try simp only [*,go_sem,seval]
 obtain ⟨d,b,h⟩:=Za h
 refine Zd (Zr1 b) ?_
 iterate 2 (cases h;try simp only [*,go_sem,seval])
end Go.Proofs.YtfehfkfdfmcgfaaGreatDoor
namespace Go.Proofs.YtfehfkfdfmcgfaaGreatDoor
open Go.Proofs.Tryz
set_option linter.unusedSimpArgs false
set_option linter.unusedVariables false
set_option maxRecDepth 1000000
set_option maxHeartbeats 4000000
theorem ZoN {append_0:(List Int)} {r:Bool} (h:Zhr append_0=some r):Zk Tryz.prog J0 3 [(false,[.sl 5 1 (List.map ZeK append_0)])] [(false,[(false,.bool r)])]:=by
 refine fnk Tryz.func3 (by kernel_rfl) rfl (by kernel_rfl) (by kernel_rfl) ?_
 unfold Zhr at h
 simp only [fnS,f3,Zm,go_sem,seval]
 obtain ⟨v1,e1,h⟩:=Za h
 refine Zd (by have hh:=ZvY e1;first|exact hh|(simp only [*,go_sem] at hh;exact hh)) ?_
 try simp only [*,go_sem,seval]
 refine Ze h (fun _ h=>?_) fun _ h=>?_<;>try simp only [*,go_sem,seval]
 ·cases h
  try simp only [*,go_sem,seval]
 ·obtain ⟨v2,e3,h⟩:=Za h
  refine Zd (by have hh:=ZjG e3;first|exact hh|(simp only [*,go_sem] at hh;exact hh)) ?_
  try simp only [*,go_sem,seval]
  obtain ⟨v3,e4,h⟩:=Za h
  refine Zd (by have hh:=ZiC e4;first|exact hh|(simp only [*,go_sem] at hh;exact hh)) ?_
  try simp only [*,go_sem,seval]
  obtain ⟨v4,e5,h⟩:=Za h
  refine Zd (by have hh:=Zpb e5;first|exact hh|(simp only [*,go_sem] at hh;exact hh)) ?_
  try simp only [*,go_sem,seval]
  refine Ze h (fun _ h=>?_) fun _ h=>?_<;>try simp only [*,go_sem,seval]
  ·refine Ze h (fun _ h=>?_) fun _ h=>?_<;>try simp only [*,go_sem,seval]
   ·obtain ⟨v5,e8,h⟩:=Za h
    refine Zd (by have hh:=Zru e8;first|exact hh|(simp only [*,go_sem] at hh;exact hh)) ?_
    try simp only [*,go_sem,seval]
    refine Ze h (fun _ h=>?_) fun _ h=>?_<;>try simp only [*,go_sem,seval]
    ·obtain ⟨v6,e10,h⟩:=Za h
     refine Zd (by have hh:=ZmT e10;first|exact hh|(simp only [*,go_sem] at hh;exact hh)) ?_
     try simp only [*,go_sem,seval]
     refine Ze h (fun _ h=>?_) fun _ h=>?_<;>try simp only [*,go_sem,seval]
     ·obtain ⟨v7,e12,h⟩:=Za h
      refine ZfP (by have hh:=ZmF e12;first|exact hh|(simp only [*,go_sem] at hh;exact hh)) ?_
      try simp only [*,go_sem,seval]
      obtain ⟨v8,e13,h⟩:=Za h
      refine ZfP (by have hh:=ZkM e13;first|exact hh|(simp only [*,go_sem] at hh;exact hh)) ?_
      try simp only [*,go_sem,seval]
      refine Zi h (fun i _ st=>IV [(3,.p false [.row 0]),(4,.p false [.row 1]),(5,.p false [.row 2]),(9,.p false [.c (.sl 45 2 (List.map Zl v7))]),(10,.p false [.c (.sl 38 3 (List.map Zc8 v8))]),(11,.p false [.c (.int .i64 ((i:Nat):Int))])] [.row 42 4 (List.map ZF v2.1) 0,.row 45 2 (List.map Zl v2.2) 0,.row 45 2 (List.map Zl v3.1) 0] st) [] [64,65,192] (by decide) ?_ ?_ ?_
      ·simp only [*,go_sem,seval]
      ·rintro i112 x113 ⟨⟩ ⟨sl,ob,n⟩ y14 hx15 hI16 hW17 h hy14
       simp only [go_sem,seval,Zc] at hI16
       obtain ⟨⟨g18_3,g18_4,g18_5,g18_9,g18_10,g18_11⟩,og18_0,og18_1,og18_2,hn⟩:=hI16
       subst hn
       have hlhx15:=WF.slotL hW17 g18_9 (j:=0) rfl
       have q19:=ZA hx15
       have q20:=ZC hx15
       have q21:=Zj (ZB hx15) hlhx15
       try simp only [*,go_sem,seval]
       refine Zi h (fun i u_126 st=>IV [(3,.p false [.row 0]),(4,.p false [.row 1]),(5,.p false [.row 2]),(9,.p false [.c (.sl 45 2 (List.map Zl v7))]),(10,.p false [.c (.sl 38 3 (List.map Zc8 v8))]),(11,.p false [.c (.int .i64 ((i112:Nat):Int))]),(12,.p false [.c (.bool u_126)]),(13,.p false [.c (.int .i64 ((i:Nat):Int))])] [.row 42 4 (List.map ZF v2.1) 0,.row 45 2 (List.map Zl v2.2) 0,.row 45 2 (List.map Zl v3.1) 0] st) [] [0,1,2] (by decide) ?_ ?_ ?_
       ·simp only [*,go_sem,seval]
       ·rintro i142 x143 u_126 ⟨sl,ob,n⟩ y22 hx23 hI24 hW25 h hy22
        simp only [go_sem,seval,Zc] at hI24
        obtain ⟨⟨g26_3,g26_4,g26_5,g26_9,g26_10,g26_11,g26_12,g26_13⟩,og26_0,og26_1,og26_2,hn⟩:=hI24
        subst hn
        have hlhx23:=WF.slotL hW25 g26_10 (j:=0) rfl
        have q27:=ZA hx23
        have q28:=ZC hx23
        have q29:=Zj (ZB hx23) hlhx23
        try simp only [*,go_sem,seval]
        obtain ⟨v144,e30,h⟩:=Za h
        refine Zd (by have hh:=ZhP e30;first|exact hh|(simp only [*,go_sem] at hh;exact hh)) ?_
        try simp only [*,go_sem,seval]
        refine Yo h (fun s st=>match s with | (u_149,u_150)=>IV [(3,.p false [.row 0]),(4,.p false [.row 1]),(5,.p false [.row 2]),(9,.p false [.c (.sl 45 2 (List.map Zl v7))]),(10,.p false [.c (.sl 38 3 (List.map Zc8 v8))]),(11,.p false [.c (.int .i64 ((i112:Nat):Int))]),(12,.p false [.c (.bool u_149)]),(13,.p false [.c (.int .i64 ((i142:Nat):Int))]),(14,.p false [.c (.int .i64 v144)]),(15,.p false [.c (.int .i64 u_150)])] [.row 42 4 (List.map ZF v2.1) 0,.row 45 2 (List.map Zl v2.2) 0,.row 45 2 (List.map Zl v3.1) 0] st) [] [0,1,2] (by decide) ?_ ?_
        ·simp only [*,go_sem,seval]
        ·rintro ⟨u_149,u_150⟩ ⟨sl,ob,n⟩ y31 hI32 hW33 h hy31
         simp only [go_sem,seval,Zc] at hI32
         obtain ⟨⟨g34_3,g34_4,g34_5,g34_9,g34_10,g34_11,g34_12,g34_13,g34_14,g34_15⟩,og34_0,og34_1,og34_2,hn⟩:=hI32
         subst hn
         try simp only [*,go_sem,seval]
         refine Ze h (fun _ h=>?_) fun _ h=>?_<;>try simp only [*,go_sem,seval]
         ·obtain ⟨p36,h⟩:=Zq h
          obtain ⟨x151,e37,h⟩:=Za h
          try simp only [*,go_sem,seval]
          refine Ze h (fun _ h=>?_) fun _ h=>?_<;>try simp only [*,go_sem,seval]
          ·obtain ⟨x152,a39,a40,e41,h⟩:=ZbQ h
           try simp only [*,go_sem,seval]
           obtain ⟨v153,e42,h⟩:=Za h
           refine Zd (by have hh:=Zb8 e42;first|exact hh|(simp only [*,go_sem] at hh;exact hh)) ?_
           try simp only [*,go_sem,seval]
           refine Ze h (fun _ h=>?_) fun _ h=>?_<;>try simp only [*,go_sem,seval]
           ·refine ⟨_,[],[0,1,2],(Option.some.inj h).symm,by decide,?_⟩
            try simp only [*,go_sem,seval]
           ·refine Ze h (fun _ h=>?_) fun _ h=>?_<;>try simp only [*,go_sem,seval]
            ·obtain ⟨v154,e45,h⟩:=Za h
             refine Zd (by have hh:=Qv e45;first|exact hh|(simp only [*,go_sem] at hh;exact hh)) ?_
             try simp only [*,go_sem,seval]
             refine ⟨_,[],[0,1,2],(Option.some.inj h).symm,by decide,?_⟩
             try simp only [*,go_sem,seval]
            ·refine ⟨_,[],[0,1,2],(Option.some.inj h).symm,by decide,?_⟩
             try simp only [*,go_sem,seval]
          ·replace h:=Zn h hy31
           refine ⟨_,[],[0,1,2],(Option.some.inj h).symm,by decide,?_⟩
           try simp only [*,go_sem,seval]
         ·replace h:=Zn h hy31
          refine ⟨_,[],[0,1,2],(Option.some.inj h).symm,by decide,?_⟩
          try simp only [*,go_sem,seval]
       ·rintro u_126 ⟨sl,ob,n⟩ hI46 hW47 h
        simp only [go_sem,seval,Zc] at hI46
        obtain ⟨⟨g48_3,g48_4,g48_5,g48_9,g48_10,g48_11,g48_12,g48_13⟩,og48_0,og48_1,og48_2,hn⟩:=hI46
        subst hn
        have q49:=Zy (v8.length)
        try simp only [*,go_sem,seval]
        refine Ze h (fun _ h=>?_) fun _ h=>?_<;>try simp only [*,go_sem,seval]
        ·obtain ⟨v155,e51,h⟩:=Za h
         refine Zd (by have hh:=Zid e51;first|exact hh|(simp only [*,go_sem] at hh;exact hh)) ?_
         try simp only [*,go_sem,seval]
         refine Ze h (fun _ h=>?_) fun _ h=>?_<;>try simp only [*,go_sem,seval]
         ·replace h:=Zn h hy14
          cases h
          try simp only [*,go_sem,seval]
         ·obtain ⟨v156,e53,h⟩:=Za h
          refine Zd (by have hh:=Zid e53;first|exact hh|(simp only [*,go_sem] at hh;exact hh)) ?_
          try simp only [*,go_sem,seval]
          refine Ze h (fun _ h=>?_) fun _ h=>?_<;>try simp only [*,go_sem,seval]
          ·refine ⟨_,[],[0,1,2],(Option.some.inj h).symm,by decide,?_⟩
           try simp only [*,go_sem,seval]
          ·replace h:=Zn h hy14
           cases h
           try simp only [*,go_sem,seval]
        ·replace h:=Zn h hy14
         cases h
         try simp only [*,go_sem,seval]
      ·rintro ⟨⟩ ⟨sl,ob,n⟩ hI55 hW56 h
       simp only [go_sem,seval,Zc] at hI55
       obtain ⟨⟨g57_3,g57_4,g57_5,g57_9,g57_10,g57_11⟩,og57_0,og57_1,og57_2,hn⟩:=hI55
       subst hn
       have q58:=Zy (v7.length)
       cases h
       try simp only [*,go_sem,seval]
     ·cases h
      try simp only [*,go_sem,seval]
    ·cases h
     try simp only [*,go_sem,seval]
   ·cases h
    try simp only [*,go_sem,seval]
  ·cases h
   try simp only [*,go_sem,seval]
end Go.Proofs.YtfehfkfdfmcgfaaGreatDoor
namespace Go.Proofs.YtfehfkfdfmcgfaaGreatDoor
open Go.RowKit
structure Enc {α:Type} (c:ZbC α) (f:α→List CT):Prop where
 to:∀{w:World} {cs:List Value} {x:α} {L:List Nat},c.rep w cs x L→RCs w (f x) cs L
 of:∀{w:World} {cs:List Value} {x:α} {L:List Nat},RCs w (f x) cs L→c.rep w cs x L
section
variable {α:Type} {c:ZbC α} {f:α→List CT} {w:World}
theorem Enc.reps (h:Enc c f):∀{ds:List α} {xs:List Value} {L:List Nat},c.reps w xs ds L→REs w c.size (ds.map f) xs L
 | [],_,_,h1=>h1
 | _::_,_,_,⟨c1,c2,L1,L2,h1,h2,h3,h4⟩=>⟨c1,c2,L1,L2,h1,h2,⟨h.to h3,c.len h3⟩,h.reps h4⟩
theorem Enc.reps_of (h:Enc c f):∀{ds:List α} {xs:List Value} {L:List Nat},REs w c.size (ds.map f) xs L→c.reps w xs ds L
 | [],_,_,h1=>h1
 | _::_,_,_,⟨c1,c2,L1,L2,h1,h2,h3,h4⟩=>⟨c1,c2,L1,L2,h1,h2,h.of h3.1,h.reps_of h4⟩
theorem Enc.sl (h:Enc c f) (e:Nat) {v:Value} {ds:List α} {L:List Nat}:(ZlE c).rep w [v] ds L↔RC w (.sl e c.size (ds.map f)) v L:=by
 constructor
 ·rintro ⟨A,cap,hv,h1,h2,xs,L0,L1,hL,h3,h4⟩
  obtain rfl:v=_:=by simpa using hv
  exact ⟨A,cap,xs,L0,L1,by simp,by simpa using h1,h2,hL,c.pos,by simpa using h3,h.reps h4⟩
 ·rintro ⟨A,cap,xs,L0,L1,hv,h1,h2,hL,h0,h3,h4⟩
  exact ⟨A,cap,by simpa using hv,by simpa using h1,h2,xs,L0,L1,hL,by simpa using h3,h.reps_of h4⟩
theorem RCs.solo {x:CT} {v:Value} {L:List Nat} (h:RC w x v L):RCs w [x] [v] L:=⟨v,[],L,[],rfl,by simp,h,rfl,rfl⟩
end
theorem Zxy:Enc Zvd ZeK where
 to:=fun ⟨h1,h2⟩=>by subst h1;subst h2;exact RCs.solo ⟨rfl,rfl⟩
 of:=fun ⟨v,cs',L1,L2,h1,h2,h3,h4,h5⟩=>by
  obtain ⟨rfl,rfl⟩:=h3
  subst h4;subst h5;exact ⟨h1,h2⟩
theorem encStr:Enc ZEr Zx where
 to:=fun ⟨h1,h2,h3⟩=>by subst h1;subst h2;exact RCs.solo ⟨rfl,rfl,h3⟩
 of:=fun ⟨v,cs',L1,L2,h1,h2,h3,h4,h5⟩=>by
  obtain ⟨rfl,rfl,t⟩:=h3
  subst h4;subst h5;exact ⟨h1,h2,t⟩
def Zz7 (w:World):Bool × List CT→Value→Prop:=ZkB w fun _=>False
theorem ZCc {α:Type} {c:ZbC α} {f:α→List CT} (h:Enc c f) (e:Nat) {w:World} {v:Value} {ds:List α} {L:List Nat} (hr:(ZlE c).rep w [v] ds L):Zz7 w (false,[.sl e c.size (ds.map f)]) v:=.inr ⟨rfl,_,L,rfl,(h.sl e).1 hr,fun _ _ h=>h⟩
section
variable {w w':World} {v:Value} {e:Ending}
theorem Zxc {B:Nat} {n:Nat→Prop} {x:RT} (h:ZjD w B n [x] v):∃F,OP w B n x v F∧Own w B F:=by
 obtain ⟨vs,F,⟨u,vs',F1,F2,rfl,rfl,h1,rfl,rfl⟩,h2,rfl⟩:=h
 rw [List.append_nil] at h2
 exact ⟨F1,by simpa using h1,h2⟩
theorem Zvp {b:Bool} {B:Nat} {m:Nat→Prop} (hr:ZjD w B m [(false,[(false,.bool b)])] v):v=.bool b:=by
 obtain ⟨F,h1,h2⟩:=Zxc hr
 rcases h1 with ⟨h1,_⟩ | ⟨_,ct,h1,h3⟩
 ·simp at h1
 ·obtain rfl:_=ct:=by simpa using h1
  exact h3.1.1
end
section
variable {P:Program} {J:World→Prop} {f:FuncId} {args:List (Bool × List CT)} {res:List RT}
theorem Zk.calls (h:Zk P J f args res) {w:World} {vs:List Value} (hj:J w) (ha:ZL (Zz7 w) args vs):Calls P f vs.toArray w fun e w'=>∃v n,e=.returned v∧ZjD w' w.heap.size n res v∧Below w.heap.size w w':=
 (h.2 w (fun _=>False) vs hj (fun _ h=>h.elim) ha).mono fun _ _ ⟨v,n,h1,h2,_,h3⟩=>⟨v,n,h1,h2,h3⟩
theorem Zk.givesB {b:Bool} (h:Zk P J f args [(false,[(false,.bool b)])]) {w:World} {vs:List Value} (hj:J w) (ha:ZL (Zz7 w) args vs):Calls P f vs.toArray w fun e w'=>e=.returned (.bool b)∧Below w.heap.size w w':=
 (h.calls hj ha).mono fun _ _ ⟨v,_,h1,h2,h3⟩=>⟨by rw [h1,Zvp h2],h3⟩
end
end Go.Proofs.YtfehfkfdfmcgfaaGreatDoor
namespace Go.Proofs.YtfehfkfdfmcgfaaGreatDoor
open Go.RowKit Go.Deep
def ZvE {α:Type} (P:Program) (t:TypeId) (c:ZbC α) (wf:α→Prop):Prop:=
 ∀{H:Type} {enc:TypeId × Value→H} {w:World} {base:Nat} {spare:Nat→Bool} {held:Bool} {fuel:Nat} {cs:List Value} {x:DataW H × List MemPlace},
  DataW.trod enc P w base spare held fuel t cs=some x→∃d L,c.rep w cs d L∧wf d
theorem ZrU {P:Program} {t:TypeId} (ht:P.underlying t=some (.int .u8)):ZvE P t Zvd (fun n=>0≤n∧n≤255):=by
 intro H enc w base spare held fuel cs x h
 obtain ⟨n,rfl,_,hw⟩:=DataW.trod_int ht h
 refine ⟨n,[],⟨rfl,rfl⟩,?_⟩
 simp [Lit.wf,IntKind.min,IntKind.max,IntKind.signed,IntKind.bits] at hw
 exact ⟨by omega,by omega⟩
theorem ZrJ {α:Type} {c:ZbC α} {wf:α→Prop} {P:Program} {t e:TypeId} (ht:P.underlying t=some (.slice e)) (hc:P.cellsOf e=c.size) (ho:ZvE P e c wf):ZvE P t (ZlE c) (fun ds=>∀d∈ds,wf d):=by
 intro H enc w base spare held fuel cs x h
 rcases open_slice ht h with ⟨rfl,_⟩ | ⟨a,len,cap,m,n,D,Pl,rfl,hb,hl,hm,hmm,_,hx⟩
 ·exact ⟨[],[],⟨none,0,rfl,Nat.le_refl _,Nat.zero_le _,Sli.nil _ _⟩,by simp⟩
 ·have hlm:len≤m:=by rw [hmm];split<;>omega
  have key:∀q,q≤len→∃(xs:List Value) (ds:List α) (L:List Nat),ds.length=q∧(∀j u,xs[j]?=some u→w.cell? (a.add j)=some u)∧c.reps w xs ds L∧∀d∈ds,wf d:=by
   intro q
   induction q with
   | zero=>exact fun _=>⟨[],[],[],rfl,by simp,⟨rfl,rfl⟩,by simp⟩
   | succ q ih=>
    intro hq
    obtain ⟨xs,ds,L,hd,hcell,hr,hwf⟩:=ih (by omega)
    obtain ⟨cs',h1,h2⟩:=hx q (by omega)
    obtain ⟨d,Lq,hrep,hwd⟩:=ho h2
    obtain ⟨_,hlen,hat⟩:=World.cells?_some h1
    refine ⟨xs++cs',ds++[d],L++Lq,by simp [hd],fun j u hu=>?_,ZgC hr (Zj5 hrep),?_⟩
    ·have hxl:xs.length=q * c.size:=by rw [ZgQ hr,hd]
     rw [List.getElem?_append] at hu
     split at hu
     ·exact hcell j u hu
     ·rename_i hj
      have hj2:=(List.getElem?_eq_some_iff.1 hu).1
      have:=hat (j - xs.length) (by omega)
      rw [←hu,←this,Go.Deep.add_add,hc,←hxl]
      congr 2
      omega
    ·intro y hy
     rcases List.mem_append.1 hy with hy | hy
     ·exact hwf y hy
     ·simp at hy;subst hy;exact hwd
  obtain ⟨xs,ds,L,hd,hcell,hr,hwf⟩:=key len (Nat.le_refl _)
  have hxl:=ZgQ hr
  rcases Nat.eq_zero_or_pos len with h0 | h0
  ·have:ds=[]:=List.eq_nil_of_length_eq_zero (by omega)
   subst this
   refine ⟨[],[],⟨some a,cap,by simp at hd;rw [←hd];rfl,by simp,hm,Sli.nil _ _⟩,by simp⟩
  ·obtain ⟨b,off,sp⟩:=a
   have hp:0<xs.length:=by rw [hxl,hd];exact Nat.mul_pos h0 c.pos
   have hsp:sp=none:=by
    have h1:=hcell 0 _ (List.getElem?_eq_getElem hp)
    have e:(⟨b,off,sp⟩:Addr).add 0=⟨b,off,sp⟩:=by simp [Addr.add]
    rw [e] at h1
    cases sp with
    | none=>rfl
    | some q=>
     simp only [World.cell?] at h1
     split at h1<;>simp at h1
   subst hsp
   refine ⟨ds,[b]++L,⟨some ⟨b,off,none⟩,cap,by rw [hd],by omega,hm,xs,[b],L,rfl,⟨by rw [hxl],.inr ⟨by omega,b,off,rfl,rfl,fun j u hu=>?_⟩⟩,hr⟩,hwf⟩
   have:=hcell j u hu
   rwa [Zdn] at this
end Go.Proofs.YtfehfkfdfmcgfaaGreatDoor
namespace Go.Proofs.YtfehfkfdfmcgfaaGreatDoor
open Go.RowKit
theorem Zpw (w:World) (hJ:J0 w) (A:Option Addr) (c:Nat) (code:List Int) (L:List Nat) (h:(ZlE Zvd).rep w [.slice A code.length c] code L):
  Calls Tryz.prog 3 #[.slice A code.length c] w (fun e w'=>e=.returned (.bool true)∧Below w.heap.size w w'):=
 Zk.givesB (ZoN (Zm8 code)) hJ (vs:=[_]) ⟨ZCc Zxy _ h,trivial⟩
end Go.Proofs.YtfehfkfdfmcgfaaGreatDoor
