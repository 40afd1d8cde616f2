/- Texts of this proof, joined: Dp4, Dp3, Dp5, Dp6, Dp7, Dp8, Dp9, Dp10, Dp11. What each holds is said at its theorems. -/
import Derived.Test.YtojnhepgnbhaaaaGreatDoorWithdrawFactQ5
set_option linter.unusedSimpArgs false
set_option linter.unusedVariables false
namespace Go.Proofs.YtojnhepgnbhaaaaGreatDoor
open Go.Proofs.Tryz
set_option linter.unusedSimpArgs false
set_option linter.unusedVariables false
set_option maxRecDepth 1000000
set_option maxHeartbeats 4000000
theorem Zd2 {l_0:(List Zc)} {f_1:Zc} {r:Int} (h:Zau l_0 f_1=some r):Zn Tryz.prog J0 66 [(false,[.sl 57 2 (List.map Zq l_0)]),(true,Zq f_1)] [(false,[(false,.int .i64 r)])]:=by
 refine fnk Tryz.func66 (by kernel_rfl) rfl (by kernel_rfl) (by kernel_rfl) ?_
 unfold Zau at h
 simp only [fnS,f66,Zo,go_sem,seval]
 refine Zg h (fun i _ st=>IV [(0,.p false [.c (.sl 57 2 (List.map Zq l_0))]),(3,.bp 0 0),(5,.p false [.c (.int .i64 ((i:Nat):Int))])] [.box 57 [.c (.str f_1.rel),.c (.sl 9 1 (List.map Zu f_1.args))]] st) [] [0] (by decide) ?_ ?_ ?_
 simp only [*,go_sem,seval]
 rintro m o ⟨⟩ ⟨sl,ob,n⟩ q a b e h f
 simp only [go_sem,seval,Zd] at b
 obtain ⟨⟨g,t,u⟩,v,hn⟩:=b
 subst hn
 have k:=WF.slotL e g (j:=0) rfl
 have w:=ZF a
 have x:=ZJ a
 have y:=Zi (ZE a) k
 try simp only [*,go_sem,seval]
 obtain ⟨z,l,h⟩:=Za h
 refine Zb (Zo0 l) ?_
 try simp only [*,go_sem,seval]
 refine Ze h (fun _ h=>?_) fun _ h=>?_<;>try simp only [*,go_sem,seval]
 replace h:=Zs h f
 cases h
 try simp only [*,go_sem,seval]
 refine ⟨_,[],[0],(Option.some.inj h).symm,by decide,?_⟩
 try simp only [*,go_sem,seval]
 rintro ⟨⟩ ⟨sl,ob,n⟩ d A h
 simp only [go_sem,seval,Zd] at d
 obtain ⟨⟨B,C,D⟩,E,hn⟩:=d
 subst hn
 have F:=ZC (l_0.length)
 cases h
 try simp only [*,go_sem,seval]
theorem QE {s_0:ByteArray} {r:Bool} (h:Zap s_0=some r):Zn Tryz.prog J0 148 [(false,[.str s_0])] [(false,[(false,.bool r)])]:=by
 refine fnk Tryz.func148 (by kernel_rfl) rfl (by kernel_rfl) (by kernel_rfl) ?_
 unfold Zap at h
 simp only [fnS,f148,Zo,go_sem,seval]
 refine Ze h (fun _ h=>?_) fun _ h=>?_<;>try simp only [*,go_sem,seval]
 obtain ⟨c,d,a,h⟩:=Zqp h
 try simp only [seval] at a
 try simp only [*,go_sem,seval]
 refine Ze h (fun _ h=>?_) fun _ h=>?_<;>try simp only [*,go_sem,seval]
 obtain ⟨e,h⟩:=Zx h
 try simp only [*,go_sem,seval]
 obtain ⟨f,b,h⟩:=Za h
 refine Zb (Qc b) ?_
 iterate 3 (cases h;try simp only [*,go_sem,seval])
theorem Zfs {s_0:ByteArray} {r:Bool} (h:Zc4 s_0=some r):Zn Tryz.prog J0 102 [(false,[.str s_0])] [(false,[(false,.bool r)])]:=by
 refine fnk Tryz.func102 (by kernel_rfl) rfl (by kernel_rfl) (by kernel_rfl) ?_
 unfold Zc4 at h
 simp only [fnS,f102,Zo,go_sem,seval]
 obtain ⟨d,a,h⟩:=Za h
 refine Zb (Qc a) ?_
 try simp only [*,go_sem,seval]
 refine Ze h (fun _ h=>?_) fun _ h=>?_<;>try simp only [*,go_sem,seval]
 obtain ⟨e,f,b,h⟩:=Zqp h
 try simp only [seval] at b
 try simp only [*,go_sem,seval]
 obtain ⟨g,c,h⟩:=Za h
 refine Zb (ZaS c) ?_
 iterate 2 (cases h;try simp only [*,go_sem,seval])
theorem Zd1 {l_0:(List Zc)} {r:(List Zc)} (h:Zax l_0=some r):Zn Tryz.prog J0 125 [(false,[.sl 57 2 (List.map Zq l_0)])] [(false,[(false,.sl 57 2 (List.map Zq r))])]:=by
 refine fnk Tryz.func125 (by kernel_rfl) rfl (by kernel_rfl) (by kernel_rfl) ?_
 unfold Zax at h
 simp only [fnS,f125,Zo,go_sem,seval]
 refine Zg h (fun i a st=>IV [(0,.p false [.c (.sl 57 2 (List.map Zq l_0))]),(3,.p false [.row 0]),(4,.p false [.c (.int .i64 ((i:Nat):Int))])] [.row 57 2 (List.map Zq a) 2] st) [] [16] (by decide) ?_ ?_ ?_
 simp only [*,go_sem,seval]
 rintro o q a ⟨sl,ob,n⟩ t b d f h u
 simp only [go_sem,seval,Zd] at d
 obtain ⟨⟨g,v,w⟩,x,hn⟩:=d
 subst hn
 have k:=WF.slotL f g (j:=0) rfl
 have y:=ZF b
 have z:=ZJ b
 have A:=Zi (ZE b) k
 try simp only [*,go_sem,seval]
 obtain ⟨B,l,h⟩:=Za h
 refine Zb (XF l) ?_
 obtain ⟨m,h⟩:=Zx h
 try simp only [Nat.reduceLeDiff] at m
 try simp only [*,go_sem,seval]
 refine ⟨_,[],[177],(Option.some.inj h).symm,by decide,?_⟩
 try simp only [*,go_sem,seval]
 rintro a ⟨sl,ob,n⟩ e C h
 simp only [go_sem,seval,Zd] at e
 obtain ⟨⟨D,E,F⟩,G,hn⟩:=e
 subst hn
 have H:=ZC (l_0.length)
 cases h
 try simp only [*,go_sem,seval]
theorem Zdv {a_0:ByteArray} {b_1:ByteArray} {r:Int} (h:Xo a_0 b_1=some r):Zn Tryz.prog J0 201 [(false,[.str a_0]),(false,[.str b_1])] [(false,[(false,.int .i64 r)])]:=by
 refine fnk Tryz.func201 (by kernel_rfl) rfl (by kernel_rfl) (by kernel_rfl) ?_
 unfold Xo at h
 simp only [fnS,f201,Zo,go_sem,seval]
 obtain ⟨d,a,h⟩:=Za h
 refine Zb (Zd0 a) ?_
 try simp only [*,go_sem,seval]
 obtain ⟨e,b,h⟩:=Za h
 refine Zb (Zd0 b) ?_
 try simp only [*,go_sem,seval]
 iterate 3 refine Ze h (fun _ h=>?_) fun _ h=>?_<;>try simp only [*,go_sem,seval]
 cases h
 try simp only [*,go_sem,seval]
 refine Ze h (fun _ h=>?_) fun _ h=>?_<;>try simp only [*,go_sem,seval]
 iterate 3 (cases h;try simp only [*,go_sem,seval])
 refine Ze h (fun _ h=>?_) fun _ h=>?_<;>try simp only [*,go_sem,seval]
 cases h
 try simp only [*,go_sem,seval]
 obtain ⟨f,c,h⟩:=Za h
 refine Zb (ZjZ c) ?_
 cases h
 try simp only [*,go_sem,seval]
theorem ZgP {s_0:ByteArray} {r:Bool} (h:ZcD s_0=some r):Zn Tryz.prog J0 232 [(false,[.str s_0])] [(false,[(false,.bool r)])]:=by
 refine fnk Tryz.func232 (by kernel_rfl) rfl (by kernel_rfl) (by kernel_rfl) ?_
 unfold ZcD at h
 simp only [fnS,f232,Zo,go_sem,seval]
 obtain ⟨b,a,h⟩:=Za h
 refine Zb (Zd0 a) ?_
 cases h
 try simp only [*,go_sem,seval]
theorem Zjw {append_0:(List Zf)} {String_1:ByteArray} {a_2:ByteArray} {r:Bool} (h:Za0 append_0 String_1 a_2=some r):Zn Tryz.prog J0 170 [(false,[.sl 82 4 (List.map ZB append_0)]),(false,[.str String_1]),(false,[.str a_2])] [(false,[(false,.bool r)])]:=by
 refine fnk Tryz.func170 (by kernel_rfl) rfl (by kernel_rfl) (by kernel_rfl) ?_
 unfold Za0 at h
 simp only [fnS,f170,Zo,go_sem,seval]
 refine Zeh h (fun s st=>match s with | (row_55,u_56)=>IV [(0,.p false [.c (.sl 82 4 (List.map ZB append_0))]),(2,.p false [.c (.str a_2)]),(7,.p false [.row 0]),(8,.p false [.c (.int .i64 u_56)])] [.row 9 1 (List.map Zu row_55) 2] st) [] [32] (by decide) ?_ ?_
 ·simp only [*,go_sem,seval]
 ·rintro ⟨row_55,u_56⟩ ⟨sl,ob,n⟩ y1 hI2 hW3 h hy1
  simp only [go_sem,seval,Zd] at hI2
  obtain ⟨⟨g4_0,g4_2,g4_7,g4_8⟩,og4_0,hn⟩:=hI2
  subst hn
  try simp only [*,go_sem,seval]
  refine Ze h (fun _ h=>?_) fun _ h=>?_<;>try simp only [*,go_sem,seval]
  ·refine Zg h (fun i row_74 st=>IV [(0,.p false [.c (.sl 82 4 (List.map ZB append_0))]),(2,.p false [.c (.str a_2)]),(7,.p false [.row 0]),(8,.p false [.c (.int .i64 u_56)]),(9,.p false [.c (.int .i64 ((i:Nat):Int))])] [.row 9 1 (List.map Zu row_74) 2] st) [] [0] (by decide) ?_ ?_ ?_
   ·simp only [*,go_sem,seval]
   ·rintro i93 x94 row_74 ⟨sl,ob,n⟩ y6 hx7 hI8 hW9 h hy6
    simp only [go_sem,seval,Zd] at hI8
    obtain ⟨⟨g10_0,g10_2,g10_7,g10_8,g10_9⟩,og10_0,hn⟩:=hI8
    subst hn
    have hlhx7:=WF.slotL hW9 g10_0 (j:=0) rfl
    have q11:=ZF hx7
    have q12:=ZJ hx7
    have q13:=Zi (ZE hx7) hlhx7
    try simp only [*,go_sem,seval]
    obtain ⟨v95,e14,h⟩:=Za h
    refine Zb (by have hh:=ZgD e14;first|exact hh|(simp only [*,go_sem] at hh;exact hh)) ?_
    obtain ⟨p15,h⟩:=Zx h
    obtain ⟨x96,e16,h⟩:=Za h
    try simp only [*,go_sem,seval]
    obtain ⟨v97,e17,h⟩:=Za h
    refine Zb (by have hh:=YG e17;first|exact hh|(simp only [*,go_sem] at hh;exact hh)) ?_
    try simp only [*,go_sem,seval]
    refine Ze h (fun _ h=>?_) fun _ h=>?_<;>try simp only [*,go_sem,seval]
    ·obtain ⟨v98,e19,h⟩:=Za h
     refine Zb (by have hh:=Zny e19;first|exact hh|(simp only [*,go_sem] at hh;exact hh)) ?_
     try simp only [*,go_sem,seval]
     obtain ⟨v99,e20,h⟩:=Za h
     refine Zb (by have hh:=YG e20;first|exact hh|(simp only [*,go_sem] at hh;exact hh)) ?_
     try simp only [*,go_sem,seval]
     refine Ze h (fun _ h=>?_) fun _ h=>?_<;>try simp only [*,go_sem,seval]
     ·replace h:=Zs h hy6
      replace h:=Zs h hy1
      cases h
      try simp only [*,go_sem,seval]
     ·refine Zg h (fun i row_105 st=>IV [(0,.p false [.c (.sl 82 4 (List.map ZB append_0))]),(2,.p false [.c (.str a_2)]),(7,.p false [.row 0]),(8,.p false [.c (.int .i64 u_56)]),(9,.p false [.c (.int .i64 ((i93:Nat):Int))]),(10,.p false [.row 1]),(11,.p false [.c (.int .i64 ((i:Nat):Int))])] [.row 9 1 (List.map Zu row_105) 2,.row 9 1 (List.map Zu v98) 2] st) [] [0,305] (by decide) ?_ ?_ ?_
      ·simp only [*,go_sem,seval]
      ·rintro i108 x109 row_105 ⟨sl,ob,n⟩ y22 hx23 hI24 hW25 h hy22
       simp only [go_sem,seval,Zd] at hI24
       obtain ⟨⟨g26_0,g26_2,g26_7,g26_8,g26_9,g26_10,g26_11⟩,og26_0,og26_1,hn⟩:=hI24
       subst hn
       have hlhx23:=WF.rowL hW25 og26_1
       have q27:=ZF hx23
       have q28:=ZJ hx23
       have q29:=Zi (ZE hx23) hlhx23
       try simp only [*,go_sem,seval]
       obtain ⟨v110,e30,h⟩:=Za h
       refine Zb (by have hh:=YG e30;first|exact hh|(simp only [*,go_sem] at hh;exact hh)) ?_
       try simp only [*,go_sem,seval]
       refine Ze h (fun _ h=>?_) fun _ h=>?_<;>try simp only [*,go_sem,seval]
       ·refine ⟨_,[],[0,1],(Option.some.inj h).symm,by decide,?_⟩
        try simp only [*,go_sem,seval]
       ·obtain ⟨p32,h⟩:=Zx h
        try simp only [Nat.reduceLeDiff] at p32
        try simp only [*,go_sem,seval]
        refine ⟨_,[],[274,1],(Option.some.inj h).symm,by decide,?_⟩
        try simp only [*,go_sem,seval]
      ·rintro row_105 ⟨sl,ob,n⟩ hI33 hW34 h
       simp only [go_sem,seval,Zd] at hI33
       obtain ⟨⟨g35_0,g35_2,g35_7,g35_8,g35_9,g35_10,g35_11⟩,og35_0,og35_1,hn⟩:=hI33
       subst hn
       have q36:=ZC (v98.length)
       try simp only [*,go_sem,seval]
       refine ⟨_,[],[0],(Option.some.inj h).symm,by decide,?_⟩
       try simp only [*,go_sem,seval]
    ·refine ⟨_,[],[0],(Option.some.inj h).symm,by decide,?_⟩
     try simp only [*,go_sem,seval]
   ·rintro row_74 ⟨sl,ob,n⟩ hI37 hW38 h
    simp only [go_sem,seval,Zd] at hI37
    obtain ⟨⟨g39_0,g39_2,g39_7,g39_8,g39_9⟩,og39_0,hn⟩:=hI37
    subst hn
    have q40:=ZC (append_0.length)
    try simp only [*,go_sem,seval]
    refine ⟨_,[],[0],(Option.some.inj h).symm,by decide,?_⟩
    try simp only [*,go_sem,seval]
  ·replace h:=Zs h hy1
   cases h
   try simp only [*,go_sem,seval]
theorem ZbR {l_0:(List Zc)} {f_1:Zc} {r:Int} (h:Yh l_0 f_1=some r):Zn Tryz.prog J0 68 [(false,[.sl 57 2 (List.map Zq l_0)]),(true,Zq f_1)] [(false,[(false,.int .i64 r)])]:=by
 refine fnk Tryz.func68 (by kernel_rfl) rfl (by kernel_rfl) (by kernel_rfl) ?_
 unfold Yh at h
 simp only [fnS,f68,Zo,go_sem,seval]
 refine Zg h (fun i _ st=>IV [(3,.bp 0 0),(7,.p false [.c (.sl 57 2 (List.map Zq l_0))]),(8,.p false [.c (.int .i64 ((l_0.length:Nat):Int))]),(9,.p false [.c (.int .i64 ((i:Nat):Int))])] [.box 57 [.c (.str f_1.rel),.c (.sl 9 1 (List.map Zu f_1.args))]] st) [] [0] (by decide) ?_ ?_ ?_
 simp only [*,go_sem,seval]
 rintro m o ⟨⟩ ⟨sl,ob,n⟩ q a b e h f
 simp only [go_sem,seval,Zd] at b
 obtain ⟨⟨t,g,u,v⟩,w,hn⟩:=b
 subst hn
 have k:=WF.slotL e g (j:=0) rfl
 have x:=ZF a
 have y:=ZJ a
 have z:=Zi (ZE a) k
 try simp only [*,go_sem,seval]
 obtain ⟨A,l,h⟩:=Za h
 refine Zb (ZlP l) ?_
 try simp only [*,go_sem,seval]
 refine Ze h (fun _ h=>?_) fun _ h=>?_<;>try simp only [*,go_sem,seval]
 replace h:=Zs h f
 cases h
 try simp only [*,go_sem,seval]
 refine ⟨_,[],[0],(Option.some.inj h).symm,by decide,?_⟩
 try simp only [*,go_sem,seval]
 rintro ⟨⟩ ⟨sl,ob,n⟩ d B h
 simp only [go_sem,seval,Zd] at d
 obtain ⟨⟨C,D,E,F⟩,G,hn⟩:=d
 subst hn
 have H:=ZC (l_0.length)
 cases h
 try simp only [*,go_sem,seval]
theorem QP {s_0:ByteArray} {r:Bool} (h:QU s_0=some r):Zn Tryz.prog J0 105 [(false,[.str s_0])] [(false,[(false,.bool r)])]:=by
 refine fnk Tryz.func105 (by kernel_rfl) rfl (by kernel_rfl) (by kernel_rfl) ?_
 unfold QU at h
 simp only [fnS,f105,Zo,go_sem,seval]
 obtain ⟨c,a,h⟩:=Za h
 refine Zb (Qg a) ?_
 try simp only [*,go_sem,seval]
 refine Ze h (fun _ h=>?_) fun _ h=>?_<;>try simp only [*,go_sem,seval]
 cases h
 try simp only [*,go_sem,seval]
 obtain ⟨d,b,h⟩:=Za h
 refine Zb (ZcP b) ?_
 cases h
 try simp only [*,go_sem,seval]
theorem QF {b_0:(List Zl)} {r:Bool} (h:XL b_0=some r):Zn Tryz.prog J0 137 [(false,[.sl 192 2 (List.map Z6 b_0)])] [(false,[(false,.bool r)])]:=by
 refine fnk Tryz.func137 (by kernel_rfl) rfl (by kernel_rfl) (by kernel_rfl) ?_
 unfold XL at h
 simp only [fnS,f137,Zo,go_sem,seval]
 refine Ze h (fun _ h=>?_) fun _ h=>?_<;>try simp only [*,go_sem,seval]
 cases h
 try simp only [*,go_sem,seval]
 refine Zg h (fun i _ st=>IV [(0,.p false [.c (.sl 192 2 (List.map Z6 b_0))]),(8,.p false [.c (.sl 192 2 (List.map Z6 b_0))]),(9,.p false [.c (.int .i64 ((b_0.length:Nat):Int))]),(10,.p false [.c (.int .i64 ((i:Nat):Int))])] [] st) [] [] (by decide) ?_ ?_ ?_
 simp only [*,go_sem,seval]
 rintro o q ⟨⟩ ⟨sl,ob,n⟩ t a b f h d
 simp only [go_sem,seval,Zd] at b
 obtain ⟨⟨g,u,v,w⟩,hn⟩:=b
 subst hn
 have k:=WF.slotL f g (j:=0) rfl
 have x:=ZF a
 have y:=ZJ a
 have z:=Zi (ZE a) k
 try simp only [*,go_sem,seval]
 obtain ⟨A,l,h⟩:=Za h
 refine Zb (ZcP l) ?_
 try simp only [*,go_sem,seval]
 refine Ze h (fun _ h=>?_) fun _ h=>?_<;>try simp only [*,go_sem,seval]
 obtain ⟨B,m,h⟩:=Za h
 refine Zb (Qg m) ?_
 try simp only [*,go_sem,seval]
 iterate 2 refine Ze h (fun _ h=>?_) fun _ h=>?_<;>try simp only [*,go_sem,seval]
 obtain ⟨C,D,E,F,h⟩:=Zgn h
 try simp only [*,go_sem,seval]
 refine Ze h (fun _ h=>?_) fun _ h=>?_<;>try simp only [*,go_sem,seval]
 refine ⟨_,[],[],(Option.some.inj h).symm,by decide,?_⟩
 try simp only [*,go_sem,seval]
 replace h:=Zs h d
 cases h
 try simp only [*,go_sem,seval]
 refine ⟨_,[],[],(Option.some.inj h).symm,by decide,?_⟩
 iterate 2 ((try simp only [*,go_sem,seval]);replace h:=Zs h d;cases h)
 try simp only [*,go_sem,seval]
 rintro ⟨⟩ ⟨sl,ob,n⟩ e G h
 simp only [go_sem,seval,Zd] at e
 obtain ⟨⟨H,I,J,K⟩,hn⟩:=e
 subst hn
 have L:=ZC (b_0.length)
 cases h
 try simp only [*,go_sem,seval]
theorem Zjc {f_0:Zc} {r:Bool} (h:Zen f_0=some r):Zn Tryz.prog J0 155 [(true,Zq f_0)] [(false,[(false,.bool r)])]:=by
 refine fnk Tryz.func155 (by kernel_rfl) rfl (by kernel_rfl) (by kernel_rfl) ?_
 unfold Zen at h
 simp only [fnS,f155,Zo,go_sem,seval]
 obtain ⟨o,e,h⟩:=Za h
 refine Zb (ZfF e) ?_
 try simp only [*,go_sem,seval]
 iterate 2 refine Ze h (fun _ h=>?_) fun _ h=>?_<;>try simp only [*,go_sem,seval]
 cases h
 try simp only [*,go_sem,seval]
 refine Zg h (fun i _ st=>IV [(16,.p false [.c (.sl 9 1 (List.map Zu f_0.args))]),(17,.p false [.c (.int .i64 ((f_0.args.length:Nat):Int))]),(18,.p false [.c (.int .i64 ((i:Nat):Int))])] [] st) [] [] (by decide) ?_ ?_ ?_
 simp only [*,go_sem,seval]
 rintro q t ⟨⟩ ⟨sl,ob,n⟩ u a b f h g
 simp only [go_sem,seval,Zd] at b
 obtain ⟨⟨k,v,w⟩,hn⟩:=b
 subst hn
 have l:=WF.slotL f k (j:=0) rfl
 have x:=ZF a
 have y:=ZJ a
 have z:=Zi (ZE a) l
 try simp only [*,go_sem,seval]
 obtain ⟨A,m,h⟩:=Za h
 refine Zb (Qg m) ?_
 try simp only [*,go_sem,seval]
 refine Ze h (fun _ h=>?_) fun _ h=>?_<;>try simp only [*,go_sem,seval]
 refine ⟨_,[],[],(Option.some.inj h).symm,by decide,?_⟩
 try simp only [*,go_sem,seval]
 replace h:=Zs h g
 cases h
 try simp only [*,go_sem,seval]
 rintro ⟨⟩ ⟨sl,ob,n⟩ d B h
 simp only [go_sem,seval,Zd] at d
 obtain ⟨⟨C,D,E⟩,hn⟩:=d
 subst hn
 have F:=ZC (f_0.args.length)
 iterate 2 (cases h;try simp only [*,go_sem,seval])
theorem Zcp {b_0:(List Zl)} {term_1:ByteArray} {r:(ByteArray × Bool)} (h:ZaL b_0 term_1=some r):Zn Tryz.prog J0 138 [(false,[.sl 192 2 (List.map Z6 b_0)]),(false,[.str term_1])] [(false,[(false,.str r.1)]),(false,[(false,.bool r.2)])]:=by
 refine fnk Tryz.func138 (by kernel_rfl) rfl (by kernel_rfl) (by kernel_rfl) ?_
 unfold ZaL at h
 have e:Zcf ⟨#[]⟩=true:=by decide
 simp only [fnS,f138,Zo,go_sem,seval,e]
 obtain ⟨q,f,h⟩:=Za h
 refine Zb (Qg f) ?_
 try simp only [*,go_sem,seval]
 refine Ze h (fun _ h=>?_) fun _ h=>?_<;>try simp only [*,go_sem,seval]
 cases h
 try simp only [*,go_sem,seval]
 obtain ⟨t,g,h⟩:=Za h
 refine Zb (ZcP g) ?_
 try simp only [*,go_sem,seval]
 refine Ze h (fun _ h=>?_) fun _ h=>?_<;>try simp only [*,go_sem,seval]
 refine Zg h (fun i _ st=>IV [(1,.p false [.c (.str term_1)]),(14,.p false [.c (.sl 192 2 (List.map Z6 b_0))]),(15,.p false [.c (.int .i64 ((b_0.length:Nat):Int))]),(16,.p false [.c (.int .i64 ((i:Nat):Int))])] [] st) [] [] (by decide) ?_ ?_ ?_
 simp only [*,go_sem,seval]
 rintro u v ⟨⟩ ⟨sl,ob,n⟩ w a b k h l
 simp only [go_sem,seval,Zd] at b
 obtain ⟨⟨x,m,y,z⟩,hn⟩:=b
 subst hn
 have o:=WF.slotL k m (j:=0) rfl
 have A:=ZF a
 have B:=ZJ a
 have C:=Zi (ZE a) o
 try simp only [*,go_sem,seval]
 refine Ze h (fun _ h=>?_) fun _ h=>?_<;>try simp only [*,go_sem,seval]
 replace h:=Zs h l
 cases h
 try simp only [*,go_sem,seval]
 refine ⟨_,[],[],(Option.some.inj h).symm,by decide,?_⟩
 try simp only [*,go_sem,seval]
 rintro ⟨⟩ ⟨sl,ob,n⟩ d D h
 simp only [go_sem,seval,Zd] at d
 obtain ⟨⟨E,F,G,H⟩,hn⟩:=d
 subst hn
 have I:=ZC (b_0.length)
 iterate 2 (cases h;try simp only [*,go_sem,seval])
theorem ZfB {l_0:(List Zc)} {r:(List Zc)} (h:ZaF l_0=some r):Zn Tryz.prog J0 134 [(false,[.sl 57 2 (List.map Zq l_0)])] [(false,[(false,.sl 57 2 (List.map Zq r))])]:=by
 refine fnk Tryz.func134 (by kernel_rfl) rfl (by kernel_rfl) (by kernel_rfl) ?_
 unfold ZaF at h
 simp only [fnS,f134,Zo,go_sem,seval]
 refine Zg h (fun i a st=>IV [(3,.p false [.row 0]),(6,.p false [.c (.sl 57 2 (List.map Zq l_0))]),(7,.p false [.c (.int .i64 ((l_0.length:Nat):Int))]),(8,.p false [.c (.int .i64 ((i:Nat):Int))])] [.row 57 2 (List.map Zq a) 2] st) [(false,3,0)] [80] (by decide) ?_ ?_ ?_
 simp only [*,go_sem,seval]
 rintro o q a ⟨sl,ob,n⟩ t b d f h u
 simp only [go_sem,seval,Zd] at d
 obtain ⟨⟨v,g,w,x⟩,y,hn⟩:=d
 subst hn
 have k:=WF.slotL f g (j:=0) rfl
 have z:=ZF b
 have A:=ZJ b
 have B:=Zi (ZE b) k
 try simp only [*,go_sem,seval]
 obtain ⟨C,l,h⟩:=Za h
 refine Zb (Xf l) ?_
 obtain ⟨m,h⟩:=Zx h
 try simp only [Nat.reduceLeDiff] at m
 try simp only [*,go_sem,seval]
 refine ⟨_,[],[145],(Option.some.inj h).symm,by decide,?_⟩
 try simp only [*,go_sem,seval]
 rintro a ⟨sl,ob,n⟩ e D h
 simp only [go_sem,seval,Zd] at e
 obtain ⟨⟨E,F,G,H⟩,I,hn⟩:=e
 subst hn
 have J:=ZC (l_0.length)
 cases h
 try simp only [*,go_sem,seval]
theorem Zc2 {l_0:(List ByteArray)} {r:(List ByteArray)} (h:QJ l_0=some r):Zn Tryz.prog J0 229 [(false,[.sl 9 1 (List.map Zu l_0)])] [(false,[(false,.sl 9 1 (List.map Zu r))])]:=by
 refine fnk Tryz.func229 (by kernel_rfl) rfl (by kernel_rfl) (by kernel_rfl) ?_
 unfold QJ at h
 simp only [fnS,f229,Zo,go_sem,seval]
 refine Zg h (fun i a st=>IV [(3,.p false [.row 0]),(6,.p false [.c (.sl 9 1 (List.map Zu l_0))]),(7,.p false [.c (.int .i64 ((l_0.length:Nat):Int))]),(8,.p false [.c (.int .i64 ((i:Nat):Int))])] [.row 9 1 (List.map Zu a) 2] st) [(false,3,0)] [80] (by decide) ?_ ?_ ?_
 simp only [*,go_sem,seval]
 rintro o q a ⟨sl,ob,n⟩ t b d f h u
 simp only [go_sem,seval,Zd] at d
 obtain ⟨⟨v,g,w,x⟩,y,hn⟩:=d
 subst hn
 have k:=WF.slotL f g (j:=0) rfl
 have z:=ZF b
 have A:=ZJ b
 have B:=Zi (ZE b) k
 try simp only [*,go_sem,seval]
 obtain ⟨C,l,h⟩:=Za h
 refine Zb (ZcP l) ?_
 try simp only [*,go_sem,seval]
 refine Ze h (fun _ h=>?_) fun _ h=>?_<;>try simp only [*,go_sem,seval]
 obtain ⟨m,h⟩:=Zx h
 try simp only [Nat.reduceLeDiff] at m
 try simp only [*,go_sem,seval]
 refine ⟨_,[],[145],(Option.some.inj h).symm,by decide,?_⟩
 try simp only [*,go_sem,seval]
 refine ⟨_,[],[0],(Option.some.inj h).symm,by decide,?_⟩
 try simp only [*,go_sem,seval]
 rintro a ⟨sl,ob,n⟩ e D h
 simp only [go_sem,seval,Zd] at e
 obtain ⟨⟨E,F,G,H⟩,I,hn⟩:=e
 subst hn
 have J:=ZC (l_0.length)
 cases h
 try simp only [*,go_sem,seval]
theorem Zl4 {rules_0:(List Zf)} {a_1:ByteArray} {r:(List (ByteArray × Bool))} (h:ZcM rules_0 a_1=some r):ZnF Tryz.prog J0 178 [(false,[.sl 82 4 (List.map ZB rules_0)]),(false,[.str a_1])] (.map .str .bool (List.map eSB r)):=by
 refine fnb Tryz.func178 (by kernel_rfl) rfl (by kernel_rfl) (by kernel_rfl) ?_
 unfold ZcM at h
 simp only [fnB,f178,Zo,go_sem,seval]
 refine Zeh h (fun s st=>match s with | (mp_42,row_43)=>IV [(0,.p false [.c (.sl 82 4 (List.map ZB rules_0))]),(5,.p false [.row 0]),(6,.p false [.row 1])] [.map .str .bool (List.map eSB mp_42),.row 9 1 (List.map Zu row_43) 2] st) [] [16,64] (by decide) ?_ ?_
 ·simp only [*,go_sem,seval]
 ·rintro ⟨mp_42,row_43⟩ ⟨sl,ob,n⟩ y1 hI2 hW3 h hy1
  simp only [go_sem,seval,Zd] at hI2
  obtain ⟨⟨g4_0,g4_5,g4_6⟩,og4_0,og4_1,hn⟩:=hI2
  subst hn
  try simp only [*,go_sem,seval]
  refine Ze h (fun _ h=>?_) fun _ h=>?_<;>try simp only [*,go_sem,seval]
  ·obtain ⟨p6,h⟩:=Zx h
   obtain ⟨x44,e7,h⟩:=Za h
   try simp only [seval] at e7
   obtain ⟨p8,h⟩:=Zx h
   try simp only [*,go_sem,seval]
   refine Zg h (fun i s st=>match s with | (mp_57,row_58)=>IV [(0,.p false [.c (.sl 82 4 (List.map ZB rules_0))]),(5,.p false [.row 0]),(6,.p false [.row 1]),(7,.p false [.c (.str x44)]),(23,.p false [.c (.sl 82 4 (List.map ZB rules_0))]),(24,.p false [.c (.int .i64 ((rules_0.length:Nat):Int))]),(25,.p false [.c (.int .i64 ((i:Nat):Int))])] [.map .str .bool (List.map eSB mp_57),.row 9 1 (List.map Zu row_58) 2] st) [] [0,130] (by decide) ?_ ?_ ?_
   ·simp only [*,go_sem,seval]
   ·rintro i72 x73 ⟨mp_57,row_58⟩ ⟨sl,ob,n⟩ y9 hx10 hI11 hW12 h hy9
    simp only [go_sem,seval,Zd] at hI11
    obtain ⟨⟨g13_0,g13_5,g13_6,g13_7,g13_23,g13_24,g13_25⟩,og13_0,og13_1,hn⟩:=hI11
    subst hn
    have hlhx10:=WF.slotL hW12 g13_0 (j:=0) rfl
    have q14:=ZF hx10
    have q15:=ZJ hx10
    have q16:=Zi (ZE hx10) hlhx10
    try simp only [*,go_sem,seval]
    obtain ⟨v74,e17,h⟩:=Za h
    refine Zb (by have hh:=ZgR e17;first|exact hh|(simp only [*,go_sem] at hh;exact hh)) ?_
    try simp only [*,go_sem,seval]
    obtain ⟨v75,e18,h⟩:=Za h
    refine Zb (by have hh:=Q5 e18;first|exact hh|(simp only [*,go_sem] at hh;exact hh)) ?_
    try simp only [*,go_sem,seval]
    refine Ze h (fun _ h=>?_) fun _ h=>?_<;>try simp only [*,go_sem,seval]
    ·obtain ⟨v76,e20,h⟩:=Za h
     refine Zb (by have hh:=Znk e20;first|exact hh|(simp only [*,go_sem] at hh;exact hh)) ?_
     try simp only [*,go_sem,seval]
     refine Zg h (fun i s st=>match s with | (mp_80,row_81)=>IV [(0,.p false [.c (.sl 82 4 (List.map ZB rules_0))]),(5,.p false [.row 0]),(6,.p false [.row 1]),(7,.p false [.c (.str x44)]),(23,.p false [.c (.sl 82 4 (List.map ZB rules_0))]),(24,.p false [.c (.int .i64 ((rules_0.length:Nat):Int))]),(25,.p false [.c (.int .i64 ((i72:Nat):Int))]),(35,.p false [.row 2]),(36,.p false [.c (.int .i64 ((v76.length:Nat):Int))]),(37,.p false [.c (.int .i64 ((i:Nat):Int))])] [.map .str .bool (List.map eSB mp_80),.row 9 1 (List.map Zu row_81) 2,.row 9 1 (List.map Zu v76) 2] st) [] [0,1,178] (by decide) ?_ ?_ ?_
     ·simp only [*,go_sem,seval]
     ·rintro i83 x84 ⟨mp_80,row_81⟩ ⟨sl,ob,n⟩ y21 hx22 hI23 hW24 h hy21
      simp only [go_sem,seval,Zd] at hI23
      obtain ⟨⟨g25_0,g25_5,g25_6,g25_7,g25_23,g25_24,g25_25,g25_35,g25_36,g25_37⟩,og25_0,og25_1,og25_2,hn⟩:=hI23
      subst hn
      have hlhx22:=WF.rowL hW24 og25_2
      have q26:=ZF hx22
      have q27:=ZJ hx22
      have q28:=Zi (ZE hx22) hlhx22
      try simp only [*,go_sem,seval]
      refine Ze h (fun _ h=>?_) fun _ h=>?_<;>try simp only [*,go_sem,seval]
      ·refine ⟨_,[],[0,1,2],(Option.some.inj h).symm,by decide,?_⟩
       try simp only [*,go_sem,seval]
      ·obtain ⟨p30,h⟩:=Zx h
       try simp only [Nat.reduceLeDiff] at p30
       try simp only [*,go_sem,seval]
       refine ⟨_,[],[0,227,2],(Option.some.inj h).symm,by decide,?_⟩
       try simp only [*,go_sem,seval]
     ·rintro ⟨mp_80,row_81⟩ ⟨sl,ob,n⟩ hI31 hW32 h
      simp only [go_sem,seval,Zd] at hI31
      obtain ⟨⟨g33_0,g33_5,g33_6,g33_7,g33_23,g33_24,g33_25,g33_35,g33_36,g33_37⟩,og33_0,og33_1,og33_2,hn⟩:=hI31
      subst hn
      have q34:=ZC (v76.length)
      try simp only [*,go_sem,seval]
      refine ⟨_,[],[0,1],(Option.some.inj h).symm,by decide,?_⟩
      try simp only [*,go_sem,seval]
    ·refine ⟨_,[],[0,1],(Option.some.inj h).symm,by decide,?_⟩
     try simp only [*,go_sem,seval]
   ·rintro ⟨mp_57,row_58⟩ ⟨sl,ob,n⟩ hI35 hW36 h
    simp only [go_sem,seval,Zd] at hI35
    obtain ⟨⟨g37_0,g37_5,g37_6,g37_7,g37_23,g37_24,g37_25⟩,og37_0,og37_1,hn⟩:=hI35
    subst hn
    have q38:=ZC (rules_0.length)
    try simp only [*,go_sem,seval]
    refine ⟨_,[],[0,1],(Option.some.inj h).symm,by decide,?_⟩
    try simp only [*,go_sem,seval]
  ·replace h:=Zs h hy1
   cases h
   try simp only [*,go_sem,seval]
theorem ZhA {a_0:ByteArray} {b_1:ByteArray} {r:Int} (h:QI a_0 b_1=some r):Zn Tryz.prog J0 211 [(false,[.str a_0]),(false,[.str b_1])] [(false,[(false,.int .i64 r)])]:=by
 refine fnk Tryz.func211 (by kernel_rfl) rfl (by kernel_rfl) (by kernel_rfl) ?_
 unfold QI at h
 simp only [fnS,f211,Zo,go_sem,seval]
 obtain ⟨e,a,h⟩:=Za h
 refine Zb (ZbS a) ?_
 try simp only [*,go_sem,seval]
 obtain ⟨f,b,h⟩:=Za h
 refine Zb (ZbS b) ?_
 try simp only [*,go_sem,seval]
 iterate 2 refine Ze h (fun _ h=>?_) fun _ h=>?_<;>try simp only [*,go_sem,seval]
 obtain ⟨g,c,h⟩:=Za h
 refine Zb (ZbC c) ?_
 iterate 2 (cases h;try simp only [*,go_sem,seval])
 refine Ze h (fun _ h=>?_) fun _ h=>?_<;>try simp only [*,go_sem,seval]
 cases h
 try simp only [*,go_sem,seval]
 obtain ⟨i,d,h⟩:=Za h
 refine Zb (Zh6 d) ?_
 cases h
 try simp only [*,go_sem,seval]
theorem Zlp {l_0:(List Zh)} {r_1:Zh} {r:Bool} (h:ZaK l_0 r_1=some r):Zn Tryz.prog J0 91 [(false,[.sl 114 3 (List.map Yn l_0)]),(true,Yn r_1)] [(false,[(false,.bool r)])]:=by
 refine fnk Tryz.func91 (by kernel_rfl) rfl (by kernel_rfl) (by kernel_rfl) ?_
 unfold ZaK at h
 simp only [fnS,f91,Zo,go_sem,seval]
 refine Zg h (fun i _ st=>IV [(3,.bp 0 0),(7,.p false [.c (.sl 114 3 (List.map Yn l_0))]),(8,.p false [.c (.int .i64 ((l_0.length:Nat):Int))]),(9,.p false [.c (.int .i64 ((i:Nat):Int))])] [.box 114 [.c (.int .i64 r_1.for_),.c (.sl 3 1 (List.map Qv r_1.inn)),.c (.sl 3 1 (List.map Qv r_1.outs))]] st) [] [0] (by decide) ?_ ?_ ?_
 simp only [*,go_sem,seval]
 rintro m o ⟨⟩ ⟨sl,ob,n⟩ q a b e h f
 simp only [go_sem,seval,Zd] at b
 obtain ⟨⟨t,g,u,v⟩,w,hn⟩:=b
 subst hn
 have k:=WF.slotL e g (j:=0) rfl
 have x:=ZF a
 have y:=ZJ a
 have z:=Zi (ZE a) k
 try simp only [*,go_sem,seval]
 obtain ⟨A,l,h⟩:=Za h
 refine Zb (ZjE l) ?_
 try simp only [*,go_sem,seval]
 refine Ze h (fun _ h=>?_) fun _ h=>?_<;>try simp only [*,go_sem,seval]
 replace h:=Zs h f
 cases h
 try simp only [*,go_sem,seval]
 refine ⟨_,[],[0],(Option.some.inj h).symm,by decide,?_⟩
 try simp only [*,go_sem,seval]
 rintro ⟨⟩ ⟨sl,ob,n⟩ d B h
 simp only [go_sem,seval,Zd] at d
 obtain ⟨⟨C,D,E,F⟩,G,hn⟩:=d
 subst hn
 have H:=ZC (l_0.length)
 cases h
 try simp only [*,go_sem,seval]
theorem ZBG {b_0:ZK} {r:Bool} (h:ZAr b_0=some r):Zn Tryz.prog J0 218 [(true,Zff b_0)] [(false,[(false,.bool r)])]:=by
 refine fnk Tryz.func218 (by kernel_rfl) rfl (by kernel_rfl) (by kernel_rfl) ?_
 unfold ZAr at h
 simp only [fnS,f218,Zo,go_sem,seval]
 refine Zg h (fun i _ st=>IV [(1,.bp 0 0),(3,.p false [.c (.int .i64 ((i:Nat):Int))])] [.box 29 [.c (.int .i64 b_0.nodes),.c (.sl 114 3 (List.map Yn b_0.reasons))]] st) [] [0] (by decide) ?_ ?_ ?_
 simp only [*,go_sem,seval]
 rintro t u ⟨⟩ ⟨sl,ob,n⟩ v a b e h f
 simp only [go_sem,seval,Zd] at b
 obtain ⟨⟨w,x⟩,g,hn⟩:=b
 subst hn
 have k:=WF.boxL e g (j:=1) rfl
 have y:=ZF a
 have z:=ZJ a
 have A:=Zi (ZE a) k
 try simp only [*,go_sem,seval]
 obtain ⟨B,l,h⟩:=Za h
 refine Zb (ZaS l) ?_
 try simp only [*,go_sem,seval]
 refine Ze h (fun _ h=>?_) fun _ h=>?_<;>try simp only [*,go_sem,seval]
 obtain ⟨C,m,h⟩:=Za h
 refine Zb (ZBe m) ?_
 try simp only [*,go_sem,seval]
 refine Ze h (fun _ h=>?_) fun _ h=>?_<;>try simp only [*,go_sem,seval]
 obtain ⟨D,o,h⟩:=Za h
 refine Zb (ZBe o) ?_
 try simp only [*,go_sem,seval]
 refine Ze h (fun _ h=>?_) fun _ h=>?_<;>try simp only [*,go_sem,seval]
 refine ⟨_,[],[0],(Option.some.inj h).symm,by decide,?_⟩
 iterate 3 ((try simp only [*,go_sem,seval]);replace h:=Zs h f;cases h)
 try simp only [*,go_sem,seval]
 rintro ⟨⟩ ⟨sl,ob,n⟩ d E h
 simp only [go_sem,seval,Zd] at d
 obtain ⟨⟨F,G⟩,H,hn⟩:=d
 subst hn
 have I:=ZC (b_0.reasons.length)
 try simp only [*,go_sem,seval]
 obtain ⟨J,q,h⟩:=Za h
 refine Zb (ZaS q) ?_
 try simp only [*,go_sem,seval]
 refine Ze h (fun _ h=>?_) fun _ h=>?_<;>try simp only [*,go_sem,seval]
 iterate 2 (cases h;try simp only [*,go_sem,seval])
end Go.Proofs.YtojnhepgnbhaaaaGreatDoor
namespace Go.Proofs.YtojnhepgnbhaaaaGreatDoor
open Go.Proofs.Tryz
set_option linter.unusedSimpArgs false
set_option linter.unusedVariables false
set_option maxRecDepth 1000000
set_option maxHeartbeats 4000000
theorem ZCs {append_0:ZK} {r:(List Int)} (h:ZAU append_0=some r):Zn Tryz.prog J0 145 [(true,Zff append_0)] [(false,[(false,.sl 3 1 (List.map Qv r))])]:=by
 refine fnk Tryz.func145 (by kernel_rfl) rfl (by kernel_rfl) (by kernel_rfl) ?_
 unfold ZAU at h
 simp only [fnS,f145,Zo,go_sem,seval]
 obtain ⟨v1,e1,h⟩:=Za h
 refine Zb (by have hh:=ZCv e1;first|exact hh|(simp only [*,go_sem] at hh;exact hh)) ?_
 obtain ⟨p2,h⟩:=Zx h
 try simp only [*,go_sem,seval]
 refine Zeh h (fun s st=>match s with | (row_4,u_5,u_6)=>IV [(1,.bp 0 0),(3,.p false [.row 1]),(4,.p false [.row 2]),(5,.p false [.c (.int .i64 u_6)]),(20,.p false [.c (.int .i64 ((Int.toNat append_0.nodes:Nat):Int))]),(21,.p false [.c (.int .i64 u_5)])] [.box 29 [.c (.int .i64 append_0.nodes),.c (.sl 114 3 (List.map Yn append_0.reasons))],.row 3 1 (List.map Qv v1) 2,.row 3 1 (List.map Qv row_4) 2] st) [] [0,48,112] (by decide) ?_ ?_
 ·simp only [*,go_sem,seval]
 ·rintro ⟨row_4,u_5,u_6⟩ ⟨sl,ob,n⟩ y3 hI4 hW5 h hy3
  simp only [go_sem,seval,Zd] at hI4
  obtain ⟨⟨g6_1,g6_3,g6_4,g6_5,g6_20,g6_21⟩,og6_0,og6_1,og6_2,hn⟩:=hI4
  subst hn
  try simp only [*,go_sem,seval]
  refine Ze h (fun _ h=>?_) fun _ h=>?_<;>try simp only [*,go_sem,seval]
  ·obtain ⟨p8,h⟩:=Zx h
   obtain ⟨x7,e9,h⟩:=Za h
   obtain ⟨p10,h⟩:=Zx h
   obtain ⟨x8,e11,h⟩:=Za h
   try simp only [*,go_sem,seval]
   refine ⟨_,[],[0,1,2],(Option.some.inj h).symm,by decide,?_⟩
   try simp only [*,go_sem,seval]
  ·refine Zeh h (fun s st=>match s with | (row_84,u_85,u_46)=>IV [(1,.bp 0 0),(3,.p false [.row 1]),(4,.p false [.row 2]),(5,.p false [.c (.int .i64 u_6)]),(7,.p false [.c (.int .i64 u_85)]),(8,.p false [.c (.int .i64 u_46)])] [.box 29 [.c (.int .i64 append_0.nodes),.c (.sl 114 3 (List.map Yn append_0.reasons))],.row 3 1 (List.map Qv v1) 2,.row 3 1 (List.map Qv row_84) 2] st) [] [0,1,2] (by decide) ?_ ?_
   ·simp only [*,go_sem,seval]
   ·rintro ⟨row_84,u_85,u_46⟩ ⟨sl,ob,n⟩ y12 hI13 hW14 h hy12
    simp only [go_sem,seval,Zd] at hI13
    obtain ⟨⟨g15_1,g15_3,g15_4,g15_5,g15_7,g15_8⟩,og15_0,og15_1,og15_2,hn⟩:=hI13
    subst hn
    try simp only [*,go_sem,seval]
    refine Ze h (fun _ h=>?_) fun _ h=>?_<;>try simp only [*,go_sem,seval]
    ·refine Zg h (fun i row_94 st=>IV [(1,.bp 0 0),(3,.p false [.row 1]),(4,.p false [.row 2]),(5,.p false [.c (.int .i64 u_6)]),(7,.p false [.c (.int .i64 u_85)]),(8,.p false [.c (.int .i64 u_46)]),(9,.p false [.row 3]),(38,.p false [.c (.sl 114 3 (List.map Yn append_0.reasons))]),(39,.p false [.c (.int .i64 ((append_0.reasons.length:Nat):Int))]),(40,.p false [.c (.int .i64 ((i:Nat):Int))])] [.box 29 [.c (.int .i64 append_0.nodes),.c (.sl 114 3 (List.map Yn append_0.reasons))],.row 3 1 (List.map Qv v1) 2,.row 3 1 (List.map Qv row_84) 2,.row 3 1 (List.map Qv row_94) 2] st) [(false,9,0)] [0,1,2,131] (by decide) ?_ ?_ ?_
     ·simp only [*,go_sem,seval]
     ·rintro i109 x110 row_94 ⟨sl,ob,n⟩ y17 hx18 hI19 hW20 h hy17
      simp only [go_sem,seval,Zd] at hI19
      obtain ⟨⟨g21_1,g21_3,g21_4,g21_5,g21_7,g21_8,g21_9,g21_38,g21_39,g21_40⟩,og21_0,og21_1,og21_2,og21_3,hn⟩:=hI19
      subst hn
      have hlhx18:=WF.slotL hW20 g21_38 (j:=0) rfl
      have q22:=ZF hx18
      have q23:=ZJ hx18
      have q24:=Zi (ZE hx18) hlhx18
      obtain ⟨p25,h⟩:=Zx h
      obtain ⟨x111,e26,h⟩:=Za h
      try simp only [*,go_sem,seval]
      refine Ze h (fun _ h=>?_) fun _ h=>?_<;>try simp only [*,go_sem,seval]
      ·obtain ⟨p28,h⟩:=Zx h
       obtain ⟨x112,e29,h⟩:=Za h
       try simp only [*,go_sem,seval]
       refine Ze h (fun _ h=>?_) fun _ h=>?_<;>try simp only [*,go_sem,seval]
       ·obtain ⟨v113,e31,h⟩:=Za h
        refine Zb (by have hh:=ZBv e31;first|exact hh|(simp only [*,go_sem] at hh;exact hh)) ?_
        try simp only [*,go_sem,seval]
        refine Ze h (fun _ h=>?_) fun _ h=>?_<;>try simp only [*,go_sem,seval]
        ·obtain ⟨p33,h⟩:=Zx h
         try simp only [Nat.reduceLeDiff] at p33
         try simp only [*,go_sem,seval]
         refine ⟨_,[],[0,1,2,484],(Option.some.inj h).symm,by decide,?_⟩
         try simp only [*,go_sem,seval]
        ·refine ⟨_,[],[0,1,2,3],(Option.some.inj h).symm,by decide,?_⟩
         try simp only [*,go_sem,seval]
       ·refine ⟨_,[],[0,1,2,3],(Option.some.inj h).symm,by decide,?_⟩
        try simp only [*,go_sem,seval]
      ·refine ⟨_,[],[0,1,2,3],(Option.some.inj h).symm,by decide,?_⟩
       try simp only [*,go_sem,seval]
     ·rintro row_94 ⟨sl,ob,n⟩ hI34 hW35 h
      simp only [go_sem,seval,Zd] at hI34
      obtain ⟨⟨g36_1,g36_3,g36_4,g36_5,g36_7,g36_8,g36_9,g36_38,g36_39,g36_40⟩,og36_0,og36_1,og36_2,og36_3,hn⟩:=hI34
      subst hn
      have q37:=ZC (append_0.reasons.length)
      try simp only [*,go_sem,seval]
      refine Ze h (fun _ h=>?_) fun _ h=>?_<;>try simp only [*,go_sem,seval]
      ·refine ⟨_,[],[0,1,2],(Option.some.inj h).symm,by decide,?_⟩
       try simp only [*,go_sem,seval]
      ·refine Zg h (fun i row_116 st=>IV [(1,.bp 0 0),(3,.p false [.row 1]),(4,.p false [.row 2]),(5,.p false [.c (.int .i64 u_6)]),(7,.p false [.c (.int .i64 u_85)]),(8,.p false [.c (.int .i64 u_46)]),(76,.p false [.row 3]),(77,.p false [.c (.int .i64 ((row_94.length:Nat):Int))]),(78,.p false [.c (.int .i64 ((i:Nat):Int))])] [.box 29 [.c (.int .i64 append_0.nodes),.c (.sl 114 3 (List.map Yn append_0.reasons))],.row 3 1 (List.map Qv v1) 2,.row 3 1 (List.map Qv row_116) 2,.row 3 1 (List.map Qv row_94) 2] st) [] [0,1,2,3] (by decide) ?_ ?_ ?_
       ·simp only [*,go_sem,seval]
       ·rintro i120 x121 row_116 ⟨sl,ob,n⟩ y39 hx40 hI41 hW42 h hy39
        simp only [go_sem,seval,Zd] at hI41
        obtain ⟨⟨g43_1,g43_3,g43_4,g43_5,g43_7,g43_8,g43_76,g43_77,g43_78⟩,og43_0,og43_1,og43_2,og43_3,hn⟩:=hI41
        subst hn
        have hlhx40:=WF.rowL hW42 og43_3
        have q44:=ZF hx40
        have q45:=ZJ hx40
        have q46:=Zi (ZE hx40) hlhx40
        obtain ⟨p47,h⟩:=Zx h
        obtain ⟨x122,e48,h⟩:=Za h
        try simp only [*,go_sem,seval]
        refine ⟨_,[],[0,1,2,3],(Option.some.inj h).symm,by decide,?_⟩
        try simp only [*,go_sem,seval]
       ·rintro row_116 ⟨sl,ob,n⟩ hI49 hW50 h
        simp only [go_sem,seval,Zd] at hI49
        obtain ⟨⟨g51_1,g51_3,g51_4,g51_5,g51_7,g51_8,g51_76,g51_77,g51_78⟩,og51_0,og51_1,og51_2,og51_3,hn⟩:=hI49
        subst hn
        have q52:=ZC (row_94.length)
        try simp only [*,go_sem,seval]
        refine ⟨_,[],[0,1,2],(Option.some.inj h).symm,by decide,?_⟩
        try simp only [*,go_sem,seval]
    ·replace h:=Zs h hy12
     replace h:=Zs h hy3
     cases h
     try simp only [*,go_sem,seval]
theorem ZE2 {r_0:Zh} {r:Zh} (h:ZET r_0=some r):Zn Tryz.prog J0 160 [(true,Yn r_0)] [(true,[(false,.int .i64 r.for_),(false,.sl 3 1 (List.map Qv r.inn)),(false,.sl 3 1 (List.map Qv r.outs))])]:=by
 refine fnk Tryz.func160 (by kernel_rfl) rfl (by kernel_rfl) (by kernel_rfl) ?_
 unfold ZET at h
 simp only [fnS,f160,Zo,go_sem,seval]
 obtain ⟨c,a,h⟩:=Za h
 refine Zb (ZCA a) ?_
 try simp only [*,go_sem,seval]
 obtain ⟨d,b,h⟩:=Za h
 refine Zb (ZCA b) ?_
 cases h
 try simp only [*,go_sem,seval]
theorem ZE9 {r_0:Zh} {r:Zh} (h:ZEV r_0=some r):Zn Tryz.prog J0 111 [(true,Yn r_0)] [(true,[(false,.int .i64 r.for_),(false,.sl 3 1 (List.map Qv r.inn)),(false,.sl 3 1 (List.map Qv r.outs))])]:=by
 refine fnk Tryz.func111 (by kernel_rfl) rfl (by kernel_rfl) (by kernel_rfl) ?_
 unfold ZEV at h
 simp only [fnS,f111,Zo,go_sem,seval]
 obtain ⟨c,a,h⟩:=Za h
 refine Zb (ZE0 a) ?_
 try simp only [*,go_sem,seval]
 obtain ⟨d,b,h⟩:=Za h
 refine Zb (ZE0 b) ?_
 cases h
 try simp only [*,go_sem,seval]
end Go.Proofs.YtojnhepgnbhaaaaGreatDoor
namespace Go.Proofs.YtojnhepgnbhaaaaGreatDoor
open Go.Proofs.Tryz
set_option linter.unusedSimpArgs false
set_option linter.unusedVariables false
set_option maxRecDepth 1000000
set_option maxHeartbeats 4000000
theorem ZCB {b_0:ZK} {r:(List Bool)} (h:ZAV b_0=some r):Zn Tryz.prog J0 99 [(true,Zff b_0)] [(false,[(false,.sl 4 1 (List.map Zuz r))])]:=by
 refine fnk Tryz.func99 (by kernel_rfl) rfl (by kernel_rfl) (by kernel_rfl) ?_
 unfold ZAV at h
 simp only [fnS,f99,Zo,go_sem,seval]
 obtain ⟨a,g,h⟩:=Za h
 refine Zb (ZCs g) ?_
 try simp only [*,go_sem,seval]
 refine Zg h (fun i b st=>IV [(3,.p false [.row 0]),(7,.p false [.row 1]),(8,.p false [.c (.int .i64 ((a.length:Nat):Int))]),(9,.p false [.c (.int .i64 ((i:Nat):Int))])] [.row 4 1 (List.map Zuz b) 2,.row 3 1 (List.map Qv a) 2] st) [(false,3,0)] [112,64] (by decide) ?_ ?_ ?_
 simp only [*,go_sem,seval]
 rintro o q b ⟨sl,ob,n⟩ t d e j h u
 simp only [go_sem,seval,Zd] at e
 obtain ⟨⟨v,w,x,y⟩,z,k,hn⟩:=e
 subst hn
 have l:=WF.rowL j k
 have A:=ZF d
 have B:=ZJ d
 have C:=Zi (ZE d) l
 obtain ⟨m,h⟩:=Zx h
 try simp only [Nat.reduceLeDiff] at m
 try simp only [*,go_sem,seval]
 refine ⟨_,[],[130,1],(Option.some.inj h).symm,by decide,?_⟩
 try simp only [*,go_sem,seval]
 rintro b ⟨sl,ob,n⟩ f D h
 simp only [go_sem,seval,Zd] at f
 obtain ⟨⟨E,F,G,H⟩,I,J,hn⟩:=f
 subst hn
 have K:=ZC (a.length)
 cases h
 try simp only [*,go_sem,seval]
theorem ZFa {b_0:ZK} {l_1:(List Int)} {r:ZK} (h:ZEU b_0 l_1=some r):Zn Tryz.prog J0 108 [(true,Zff b_0),(false,[.sl 3 1 (List.map Qv l_1)])] [(true,[(false,.int .i64 r.nodes),(false,.sl 114 3 (List.map Yn r.reasons))])]:=by
 refine fnk Tryz.func108 (by kernel_rfl) rfl (by kernel_rfl) (by kernel_rfl) ?_
 unfold ZEU at h
 simp only [fnS,f108,Zo,go_sem,seval]
 refine Zg h (fun i a st=>IV [(1,.p false [.c (.sl 3 1 (List.map Qv l_1))]),(2,.bp 0 0),(4,.bp 1 0),(5,.bp 2 0),(6,.p false [.c (.int .i64 ((i:Nat):Int))])] [.box 29 [.c (.int .i64 b_0.nodes),.c (.sl 114 3 (List.map Yn b_0.reasons))],.box 29 [.c (.int .i64 0),.nil 114 3],.box 29 [.c (.int .i64 b_0.nodes),.row 3],.row 114 3 (List.map Yn a) 2] st) [(true,80,1)] [0,16,80,128] (by decide) ?_ ?_ ?_
 simp only [*,go_sem,seval]
 rintro q t a ⟨sl,ob,n⟩ u b d f h v
 simp only [go_sem,seval,Zd] at d
 obtain ⟨⟨w,x,y,z,A⟩,g,B,C,D,hn⟩:=d
 subst hn
 have k:=WF.boxL f g (j:=1) rfl
 have E:=ZF b
 have F:=ZJ b
 have G:=Zi (ZE b) k
 try simp only [*,go_sem,seval]
 obtain ⟨H,l,h⟩:=Za h
 refine Zb (ZFg l) ?_
 try simp only [*,go_sem,seval]
 refine Ze h (fun _ h=>?_) fun _ h=>?_<;>try simp only [*,go_sem,seval]
 refine ⟨_,[],[0,1,2,3],(Option.some.inj h).symm,by decide,?_⟩
 try simp only [*,go_sem,seval]
 obtain ⟨I,m,h⟩:=Za h
 refine Zb (ZE2 m) ?_
 obtain ⟨o,h⟩:=Zx h
 try simp only [Nat.reduceLeDiff] at o
 try simp only [*,go_sem,seval]
 refine ⟨_,[],[0,1,2,292],(Option.some.inj h).symm,by decide,?_⟩
 try simp only [*,go_sem,seval]
 rintro a ⟨sl,ob,n⟩ e J h
 simp only [go_sem,seval,Zd] at e
 obtain ⟨⟨K,L,M,N,O⟩,P,Q,R,S,hn⟩:=e
 subst hn
 have T:=ZC (b_0.reasons.length)
 cases h
 try simp only [*,go_sem,seval]
theorem ZE7 {b_0:ZK} {l_1:(List Int)} {r:ZK} (h:ZES b_0 l_1=some r):Zn Tryz.prog J0 69 [(true,Zff b_0),(false,[.sl 3 1 (List.map Qv l_1)])] [(true,[(false,.int .i64 r.nodes),(false,.sl 114 3 (List.map Yn r.reasons))])]:=by
 refine fnk Tryz.func69 (by kernel_rfl) rfl (by kernel_rfl) (by kernel_rfl) ?_
 unfold ZES at h
 simp only [fnS,f69,Zo,go_sem,seval]
 refine Zg h (fun i a st=>IV [(1,.p false [.c (.sl 3 1 (List.map Qv l_1))]),(4,.bp 0 0),(5,.bp 1 0),(12,.p false [.c (.sl 114 3 (List.map Yn b_0.reasons))]),(13,.p false [.c (.int .i64 ((b_0.reasons.length:Nat):Int))]),(14,.p false [.c (.int .i64 ((i:Nat):Int))])] [.box 29 [.c (.int .i64 0),.nil 114 3],.box 29 [.c (.int .i64 b_0.nodes),.row 2],.row 114 3 (List.map Yn a) 2] st) [(true,80,1)] [16,80,176] (by decide) ?_ ?_ ?_
 simp only [*,go_sem,seval]
 rintro q t a ⟨sl,ob,n⟩ u b d f h v
 simp only [go_sem,seval,Zd] at d
 obtain ⟨⟨w,x,y,g,z,A⟩,B,C,D,hn⟩:=d
 subst hn
 have k:=WF.slotL f g (j:=0) rfl
 have E:=ZF b
 have F:=ZJ b
 have G:=Zi (ZE b) k
 try simp only [*,go_sem,seval]
 obtain ⟨H,l,h⟩:=Za h
 refine Zb (ZoY l) ?_
 try simp only [*,go_sem,seval]
 refine Ze h (fun _ h=>?_) fun _ h=>?_<;>try simp only [*,go_sem,seval]
 refine ⟨_,[],[0,1,2],(Option.some.inj h).symm,by decide,?_⟩
 try simp only [*,go_sem,seval]
 obtain ⟨I,m,h⟩:=Za h
 refine Zb (ZE9 m) ?_
 obtain ⟨o,h⟩:=Zx h
 try simp only [Nat.reduceLeDiff] at o
 try simp only [*,go_sem,seval]
 refine ⟨_,[],[0,1,259],(Option.some.inj h).symm,by decide,?_⟩
 try simp only [*,go_sem,seval]
 rintro a ⟨sl,ob,n⟩ e J h
 simp only [go_sem,seval,Zd] at e
 obtain ⟨⟨K,L,M,N,O,P⟩,Q,R,S,hn⟩:=e
 subst hn
 have T:=ZC (b_0.reasons.length)
 cases h
 try simp only [*,go_sem,seval]
end Go.Proofs.YtojnhepgnbhaaaaGreatDoor
namespace Go.Proofs.YtojnhepgnbhaaaaGreatDoor
open Go.Proofs.Tryz
set_option linter.unusedSimpArgs false
set_option linter.unusedVariables false
set_option maxRecDepth 1000000
set_option maxHeartbeats 4000000
theorem QB {s_0:ByteArray} {r:Bool} (h:QL s_0=some r):Zn Tryz.prog J0 101 [(false,[.str s_0])] [(false,[(false,.bool r)])]:=by
 refine fnk Tryz.func101 (by kernel_rfl) rfl (by kernel_rfl) (by kernel_rfl) ?_
 unfold QL at h
 simp only [fnS,f101,Zo,go_sem,seval]
 obtain ⟨c,a,h⟩:=Za h
 refine Zb (Qc a) ?_
 try simp only [*,go_sem,seval]
 refine Ze h (fun _ h=>?_) fun _ h=>?_<;>try simp only [*,go_sem,seval]
 cases h
 try simp only [*,go_sem,seval]
 obtain ⟨d,b,h⟩:=Za h
 refine Zb (QE b) ?_
 cases h
 try simp only [*,go_sem,seval]
theorem Zjl {f_0:Zc} {r:Bool} (h:Zey f_0=some r):Zn Tryz.prog J0 149 [(true,Zq f_0)] [(false,[(false,.bool r)])]:=by
 refine fnk Tryz.func149 (by kernel_rfl) rfl (by kernel_rfl) (by kernel_rfl) ?_
 unfold Zey at h
 simp only [fnS,f149,Zo,go_sem,seval]
 refine Zg h (fun i _ st=>IV [(1,.bp 0 0),(3,.p false [.c (.int .i64 ((i:Nat):Int))])] [.box 57 [.c (.str f_0.rel),.c (.sl 9 1 (List.map Zu f_0.args))]] st) [] [0] (by decide) ?_ ?_ ?_
 simp only [*,go_sem,seval]
 rintro o q ⟨⟩ ⟨sl,ob,n⟩ t a b e h f
 simp only [go_sem,seval,Zd] at b
 obtain ⟨⟨u,v⟩,g,hn⟩:=b
 subst hn
 have k:=WF.boxL e g (j:=1) rfl
 have w:=ZF a
 have x:=ZJ a
 have y:=Zi (ZE a) k
 try simp only [*,go_sem,seval]
 obtain ⟨z,l,h⟩:=Za h
 refine Zb (Qc l) ?_
 try simp only [*,go_sem,seval]
 refine Ze h (fun _ h=>?_) fun _ h=>?_<;>try simp only [*,go_sem,seval]
 refine ⟨_,[],[0],(Option.some.inj h).symm,by decide,?_⟩
 try simp only [*,go_sem,seval]
 replace h:=Zs h f
 cases h
 try simp only [*,go_sem,seval]
 rintro ⟨⟩ ⟨sl,ob,n⟩ d A h
 simp only [go_sem,seval,Zd] at d
 obtain ⟨⟨B,C⟩,D,hn⟩:=d
 subst hn
 have E:=ZC (f_0.args.length)
 try simp only [*,go_sem,seval]
 obtain ⟨F,m,h⟩:=Za h
 refine Zb (Zfs m) ?_
 try simp only [*,go_sem,seval]
 refine Ze h (fun _ h=>?_) fun _ h=>?_<;>try simp only [*,go_sem,seval]
 iterate 2 (cases h;try simp only [*,go_sem,seval])
theorem QM {b_0:(List Zl)} {r:Bool} (h:XI b_0=some r):Zn Tryz.prog J0 150 [(false,[.sl 192 2 (List.map Z6 b_0)])] [(false,[(false,.bool r)])]:=by
 refine fnk Tryz.func150 (by kernel_rfl) rfl (by kernel_rfl) (by kernel_rfl) ?_
 unfold XI at h
 simp only [fnS,f150,Zo,go_sem,seval]
 refine Zg h (fun i _ st=>IV [(0,.p false [.c (.sl 192 2 (List.map Z6 b_0))]),(3,.p false [.c (.int .i64 ((i:Nat):Int))])] [] st) [] [] (by decide) ?_ ?_ ?_
 simp only [*,go_sem,seval]
 rintro o q ⟨⟩ ⟨sl,ob,n⟩ t a b f h d
 simp only [go_sem,seval,Zd] at b
 obtain ⟨⟨g,u⟩,hn⟩:=b
 subst hn
 have k:=WF.slotL f g (j:=0) rfl
 have v:=ZF a
 have w:=ZJ a
 have x:=Zi (ZE a) k
 try simp only [*,go_sem,seval]
 obtain ⟨y,l,h⟩:=Za h
 refine Zb (QE l) ?_
 try simp only [*,go_sem,seval]
 refine Ze h (fun _ h=>?_) fun _ h=>?_<;>try simp only [*,go_sem,seval]
 obtain ⟨z,m,h⟩:=Za h
 refine Zb (Qc m) ?_
 try simp only [*,go_sem,seval]
 iterate 2 refine Ze h (fun _ h=>?_) fun _ h=>?_<;>try simp only [*,go_sem,seval]
 obtain ⟨A,B,C,D,h⟩:=Zgn h
 try simp only [*,go_sem,seval]
 refine Ze h (fun _ h=>?_) fun _ h=>?_<;>try simp only [*,go_sem,seval]
 refine ⟨_,[],[],(Option.some.inj h).symm,by decide,?_⟩
 try simp only [*,go_sem,seval]
 replace h:=Zs h d
 cases h
 try simp only [*,go_sem,seval]
 refine ⟨_,[],[],(Option.some.inj h).symm,by decide,?_⟩
 iterate 2 ((try simp only [*,go_sem,seval]);replace h:=Zs h d;cases h)
 try simp only [*,go_sem,seval]
 rintro ⟨⟩ ⟨sl,ob,n⟩ e E h
 simp only [go_sem,seval,Zd] at e
 obtain ⟨⟨F,G⟩,hn⟩:=e
 subst hn
 have H:=ZC (b_0.length)
 cases h
 try simp only [*,go_sem,seval]
theorem Zcl {b_0:(List Zl)} {term_1:ByteArray} {r:(ByteArray × Bool)} (h:ZaC b_0 term_1=some r):Zn Tryz.prog J0 165 [(false,[.sl 192 2 (List.map Z6 b_0)]),(false,[.str term_1])] [(false,[(false,.str r.1)]),(false,[(false,.bool r.2)])]:=by
 refine fnk Tryz.func165 (by kernel_rfl) rfl (by kernel_rfl) (by kernel_rfl) ?_
 unfold ZaC at h
 have e:Zcf ⟨#[]⟩=true:=by decide
 simp only [fnS,f165,Zo,go_sem,seval,e]
 obtain ⟨q,f,h⟩:=Za h
 refine Zb (Qc f) ?_
 try simp only [*,go_sem,seval]
 refine Ze h (fun _ h=>?_) fun _ h=>?_<;>try simp only [*,go_sem,seval]
 cases h
 try simp only [*,go_sem,seval]
 refine Zg h (fun i _ st=>IV [(0,.p false [.c (.sl 192 2 (List.map Z6 b_0))]),(1,.p false [.c (.str term_1)]),(6,.p false [.c (.int .i64 ((i:Nat):Int))])] [] st) [] [] (by decide) ?_ ?_ ?_
 simp only [*,go_sem,seval]
 rintro t u ⟨⟩ ⟨sl,ob,n⟩ v a b g h k
 simp only [go_sem,seval,Zd] at b
 obtain ⟨⟨l,w,x⟩,hn⟩:=b
 subst hn
 have m:=WF.slotL g l (j:=0) rfl
 have y:=ZF a
 have z:=ZJ a
 have A:=Zi (ZE a) m
 try simp only [*,go_sem,seval]
 refine Ze h (fun _ h=>?_) fun _ h=>?_<;>try simp only [*,go_sem,seval]
 obtain ⟨B,o,h⟩:=Za h
 refine Zb (QE o) ?_
 try simp only [*,go_sem,seval]
 refine Ze h (fun _ h=>?_) fun _ h=>?_<;>try simp only [*,go_sem,seval]
 replace h:=Zs h k
 cases h
 try simp only [*,go_sem,seval]
 refine ⟨_,[],[],(Option.some.inj h).symm,by decide,?_⟩
 try simp only [*,go_sem,seval]
 refine ⟨_,[],[],(Option.some.inj h).symm,by decide,?_⟩
 try simp only [*,go_sem,seval]
 rintro ⟨⟩ ⟨sl,ob,n⟩ d C h
 simp only [go_sem,seval,Zd] at d
 obtain ⟨⟨D,E,F⟩,hn⟩:=d
 subst hn
 have G:=ZC (b_0.length)
 cases h
 try simp only [*,go_sem,seval]
theorem Zon {t_0:Zt} {r:Zt} (h:Zfp t_0=some r):Zn Tryz.prog J0 174 [(true,YZ t_0)] [(true,[(false,.sl 57 2 (List.map Zq r.facts)),(false,.sl 192 2 (List.map Z6 r.binding))])]:=by
 refine fnk Tryz.func174 (by kernel_rfl) rfl (by kernel_rfl) (by kernel_rfl) ?_
 unfold Zfp at h
 simp only [fnS,f174,Zo,go_sem,seval]
 obtain ⟨c,a,h⟩:=Za h
 refine Zb (Zd1 a) ?_
 try simp only [*,go_sem,seval]
 obtain ⟨d,b,h⟩:=Za h
 refine Zb (Zf4 b) ?_
 cases h
 try simp only [*,go_sem,seval]
theorem Zb1 {p_0:Zv} {r:(List ByteArray)} (h:Za4 p_0=some r):Zn Tryz.prog J0 225 [(true,QQ p_0)] [(false,[(false,.sl 9 1 (List.map Zu r))])]:=by
 refine fnk Tryz.func225 (by kernel_rfl) rfl (by kernel_rfl) (by kernel_rfl) ?_
 unfold Za4 at h
 simp only [fnS,f225,Zo,go_sem,seval]
 refine Zg h (fun i a st=>IV [(1,.bp 0 0),(3,.p false [.row 1]),(4,.p false [.c (.int .i64 ((i:Nat):Int))])] [.box 49 [.c (.str p_0.rel),.c (.sl 9 1 (List.map Zu p_0.args))],.row 9 1 (List.map Zu a) 2] st) [] [0,32] (by decide) ?_ ?_ ?_
 simp only [*,go_sem,seval]
 rintro o q a ⟨sl,ob,n⟩ t b d f h u
 simp only [go_sem,seval,Zd] at d
 obtain ⟨⟨v,w,x⟩,g,y,hn⟩:=d
 subst hn
 have k:=WF.boxL f g (j:=1) rfl
 have z:=ZF b
 have A:=ZJ b
 have B:=Zi (ZE b) k
 try simp only [*,go_sem,seval]
 obtain ⟨C,l,h⟩:=Za h
 refine Zb (QE l) ?_
 try simp only [*,go_sem,seval]
 refine Ze h (fun _ h=>?_) fun _ h=>?_<;>try simp only [*,go_sem,seval]
 obtain ⟨D,m,h⟩:=Za h
 refine Zb (Xn m) ?_
 try simp only [*,go_sem,seval]
 refine ⟨_,[],[0,274],(Option.some.inj h).symm,by decide,?_⟩
 try simp only [*,go_sem,seval]
 refine ⟨_,[],[0,1],(Option.some.inj h).symm,by decide,?_⟩
 try simp only [*,go_sem,seval]
 rintro a ⟨sl,ob,n⟩ e E h
 simp only [go_sem,seval,Zd] at e
 obtain ⟨⟨F,G,H⟩,I,J,hn⟩:=e
 subst hn
 have K:=ZC (p_0.args.length)
 cases h
 try simp only [*,go_sem,seval]
theorem ZaV {a_0:Zc} {b_1:Zc} {r:Int} (h:Xj a_0 b_1=some r):Zn Tryz.prog J0 172 [(true,Zq a_0),(true,Zq b_1)] [(false,[(false,.int .i64 r)])]:=by
 refine fnk Tryz.func172 (by kernel_rfl) rfl (by kernel_rfl) (by kernel_rfl) ?_
 unfold Xj at h
 simp only [fnS,f172,Zo,go_sem,seval]
 refine Ze h (fun _ h=>?_) fun _ h=>?_<;>try simp only [*,go_sem,seval]
 ·refine Zg h (fun i _ st=>IV [(2,.bp 0 0),(3,.bp 1 0),(5,.p false [.c (.int .i64 ((i:Nat):Int))])] [.box 57 [.c (.str a_0.rel),.c (.sl 9 1 (List.map Zu a_0.args))],.box 57 [.c (.str b_1.rel),.c (.sl 9 1 (List.map Zu b_1.args))]] st) [] [0,16] (by decide) ?_ ?_ ?_
  ·simp only [*,go_sem,seval]
  ·rintro i8 x9 ⟨⟩ ⟨sl,ob,n⟩ y2 hx3 hI4 hW5 h hy2
   simp only [go_sem,seval,Zd] at hI4
   obtain ⟨⟨g6_2,g6_3,g6_5⟩,og6_0,og6_1,hn⟩:=hI4
   subst hn
   have hlhx3:=WF.boxL hW5 og6_0 (j:=1) rfl
   have q7:=ZF hx3
   have q8:=ZJ hx3
   have q9:=Zi (ZE hx3) hlhx3
   try simp only [*,go_sem,seval]
   refine Ze h (fun _ h=>?_) fun _ h=>?_<;>try simp only [*,go_sem,seval]
   ·obtain ⟨x10,a11,a12,e13,h⟩:=Zgn h
    simp only [Int.toNat_natCast] at e13
    try simp only [*,go_sem,seval]
    obtain ⟨v11,e14,h⟩:=Za h
    refine Zb (by have hh:=Zdv e14;first|exact hh|(simp only [*,go_sem] at hh;exact hh)) ?_
    try simp only [*,go_sem,seval]
    refine Ze h (fun _ h=>?_) fun _ h=>?_<;>try simp only [*,go_sem,seval]
    ·replace h:=Zs h hy2
     cases h
     try simp only [*,go_sem,seval]
    ·refine ⟨_,[],[0,1],(Option.some.inj h).symm,by decide,?_⟩
     try simp only [*,go_sem,seval]
   ·refine Ze h (fun _ h=>?_) fun _ h=>?_<;>try simp only [*,go_sem,seval]
    ·replace h:=Zs h hy2
     cases h
     try simp only [*,go_sem,seval]
    ·refine Ze h (fun _ h=>?_) fun _ h=>?_<;>try simp only [*,go_sem,seval]
     ·replace h:=Zs h hy2
      cases h
      try simp only [*,go_sem,seval]
     ·replace h:=Zs h hy2
      cases h
      try simp only [*,go_sem,seval]
  ·rintro ⟨⟩ ⟨sl,ob,n⟩ hI18 hW19 h
   simp only [go_sem,seval,Zd] at hI18
   obtain ⟨⟨g20_2,g20_3,g20_5⟩,og20_0,og20_1,hn⟩:=hI18
   subst hn
   have q21:=ZC (a_0.args.length)
   try simp only [*,go_sem,seval]
   refine Ze h (fun _ h=>?_) fun _ h=>?_<;>try simp only [*,go_sem,seval]
   ·cases h
    try simp only [*,go_sem,seval]
   ·refine Ze h (fun _ h=>?_) fun _ h=>?_<;>try simp only [*,go_sem,seval]
    ·cases h
     try simp only [*,go_sem,seval]
    ·cases h
     try simp only [*,go_sem,seval]
 ·obtain ⟨v12,e24,h⟩:=Za h
  refine Zb (by have hh:=ZjZ e24;first|exact hh|(simp only [*,go_sem] at hh;exact hh)) ?_
  cases h
  try simp only [*,go_sem,seval]
theorem ZgF {l_0:(List Zc)} {facts_1:(List Zc)} {r:(List Int)} (h:Zbz l_0 facts_1=some r):Zn Tryz.prog J0 128 [(false,[.sl 57 2 (List.map Zq l_0)]),(false,[.sl 57 2 (List.map Zq facts_1)])] [(false,[(false,.sl 3 1 (List.map Qv r))])]:=by
 refine fnk Tryz.func128 (by kernel_rfl) rfl (by kernel_rfl) (by kernel_rfl) ?_
 unfold Zbz at h
 simp only [fnS,f128,Zo,go_sem,seval]
 refine Zg h (fun i a st=>IV [(0,.p false [.c (.sl 57 2 (List.map Zq l_0))]),(1,.p false [.c (.sl 57 2 (List.map Zq facts_1))]),(5,.p false [.row 0]),(6,.p false [.c (.int .i64 ((i:Nat):Int))])] [.row 3 1 (List.map Qv a) 2] st) [] [16] (by decide) ?_ ?_ ?_
 simp only [*,go_sem,seval]
 rintro o q a ⟨sl,ob,n⟩ t b d f h u
 simp only [go_sem,seval,Zd] at d
 obtain ⟨⟨v,g,w,x⟩,y,hn⟩:=d
 subst hn
 have k:=WF.slotL f g (j:=0) rfl
 have z:=ZF b
 have A:=ZJ b
 have B:=Zi (ZE b) k
 try simp only [*,go_sem,seval]
 obtain ⟨C,l,h⟩:=Za h
 refine Zb (Zd2 l) ?_
 try simp only [*,go_sem,seval]
 refine Ze h (fun _ h=>?_) fun _ h=>?_<;>try simp only [*,go_sem,seval]
 obtain ⟨D,m,h⟩:=Za h
 refine Zb (ZnR m) ?_
 try simp only [*,go_sem,seval]
 refine ⟨_,[],[241],(Option.some.inj h).symm,by decide,?_⟩
 try simp only [*,go_sem,seval]
 refine ⟨_,[],[0],(Option.some.inj h).symm,by decide,?_⟩
 try simp only [*,go_sem,seval]
 rintro a ⟨sl,ob,n⟩ e E h
 simp only [go_sem,seval,Zd] at e
 obtain ⟨⟨F,G,H,I⟩,J,hn⟩:=e
 subst hn
 have K:=ZC (facts_1.length)
 cases h
 try simp only [*,go_sem,seval]
theorem Qa {p_0:Zv} {r:Bool} (h:Xe p_0=some r):Zn Tryz.prog J0 63 [(true,QQ p_0)] [(false,[(false,.bool r)])]:=by
 refine fnk Tryz.func63 (by kernel_rfl) rfl (by kernel_rfl) (by kernel_rfl) ?_
 unfold Xe at h
 simp only [fnS,f63,Zo,go_sem,seval]
 obtain ⟨o,e,h⟩:=Za h
 refine Zb (ZfF e) ?_
 try simp only [*,go_sem,seval]
 iterate 2 refine Ze h (fun _ h=>?_) fun _ h=>?_<;>try simp only [*,go_sem,seval]
 cases h
 try simp only [*,go_sem,seval]
 refine Zg h (fun i _ st=>IV [(16,.p false [.c (.sl 9 1 (List.map Zu p_0.args))]),(17,.p false [.c (.int .i64 ((p_0.args.length:Nat):Int))]),(18,.p false [.c (.int .i64 ((i:Nat):Int))])] [] st) [] [] (by decide) ?_ ?_ ?_
 simp only [*,go_sem,seval]
 rintro q t ⟨⟩ ⟨sl,ob,n⟩ u a b f h g
 simp only [go_sem,seval,Zd] at b
 obtain ⟨⟨k,v,w⟩,hn⟩:=b
 subst hn
 have l:=WF.slotL f k (j:=0) rfl
 have x:=ZF a
 have y:=ZJ a
 have z:=Zi (ZE a) l
 try simp only [*,go_sem,seval]
 obtain ⟨A,m,h⟩:=Za h
 refine Zb (QP m) ?_
 try simp only [*,go_sem,seval]
 refine Ze h (fun _ h=>?_) fun _ h=>?_<;>try simp only [*,go_sem,seval]
 refine ⟨_,[],[],(Option.some.inj h).symm,by decide,?_⟩
 try simp only [*,go_sem,seval]
 replace h:=Zs h g
 cases h
 try simp only [*,go_sem,seval]
 rintro ⟨⟩ ⟨sl,ob,n⟩ d B h
 simp only [go_sem,seval,Zd] at d
 obtain ⟨⟨C,D,E⟩,hn⟩:=d
 subst hn
 have F:=ZC (p_0.args.length)
 iterate 2 (cases h;try simp only [*,go_sem,seval])
theorem ZnU {a:(List Zl)} {b:ByteArray} {d:ByteArray} {r:((List Zl) × Bool)} (h:ZfW a b d=some r):Zn Tryz.prog J0 157 [(false,[.sl 192 2 (List.map Z6 a)]),(false,[.str b]),(false,[.str d])] [(false,[(false,.sl 192 2 (List.map Z6 r.1))]),(false,[(false,.bool r.2)])]:=by
 refine fnk Tryz.func157 (by kernel_rfl) rfl (by kernel_rfl) (by kernel_rfl) ?_
 unfold ZfW at h
 simp only [fnS,f157,Zo,go_sem,seval]
 obtain ⟨M,y,h⟩:=Za h
 refine Zb (QF y) ?_
 try simp only [*,go_sem,seval]
 refine Ze h (fun e h=>?_) (fun e h=>?_)<;>try simp only [*,go_sem,seval]
 obtain ⟨N,z,h⟩:=Za h
 refine Zb (ZcP z) ?_
 try simp only [*,go_sem,seval]
 refine Ze h (fun f h=>?_) (fun f h=>?_)<;>try simp only [*,go_sem,seval]
 obtain ⟨O,A,h⟩:=Za h
 refine Zb (Qg A) ?_
 try simp only [*,go_sem,seval]
 refine Ze h (fun g h=>?_) (fun g h=>?_)<;>try simp only [*,go_sem,seval]
 obtain ⟨P,B,h⟩:=Za h
 refine Zb (Zcp B) ?_
 try simp only [*,go_sem,seval]
 refine Ze h (fun k h=>?_) (fun k h=>?_)<;>try simp only [*,go_sem,seval]
 refine Ze h (fun _ h=>?_) fun _ h=>?_<;>try simp only [*,go_sem,seval]
 obtain ⟨Q,C,h⟩:=Za h
 refine Zb (ZfS C) ?_
 iterate 2 (cases h;try simp only [*,go_sem,seval])
 refine Ze h (fun l h=>?_) (fun l h=>?_)<;>try simp only [*,go_sem,seval]
 cases h
 try simp only [*,go_sem,seval]
 refine Zg h (fun i s st=>match s with | (m,o)=>IV [(1,.p false [.c (.str b)]),(2,.p false [.c (.str d)]),(10,.p false [.row 0]),(11,.p false [.c (.bool o)]),(42,.p false [.c (.sl 192 2 (List.map Z6 a))]),(43,.p false [.c (.int .i64 ((a.length:Nat):Int))]),(44,.p false [.c (.int .i64 ((i:Nat):Int))])] [.row 192 2 (List.map Z6 m) 2] st) [(false,10,0)] [512] (by decide) ?_ ?_ ?_
 simp only [*,go_sem,seval]
 rintro R S ⟨m,o⟩ ⟨sl,ob,n⟩ T q w E h U
 simp only [go_sem,seval,Zd] at w
 obtain ⟨⟨V,W,X,Y,F,Z,aa⟩,ab,hn⟩:=w
 subst hn
 have G:=WF.slotL E F (j:=0) rfl
 have ac:=ZF q
 have ad:=ZJ q
 have ae:=Zi (ZE q) G
 try simp only [*,go_sem,seval]
 refine Ze h (fun t h=>?_) (fun t h=>?_)<;>try simp only [*,go_sem,seval]
 obtain ⟨H,h⟩:=Zx h
 try simp only [Nat.reduceLeDiff] at H
 try simp only [*,go_sem,seval]
 refine ⟨_,[],[257],(Option.some.inj h).symm,by decide,?_⟩
 try simp only [*,go_sem,seval]
 refine Ze h (fun u h=>?_) (fun u h=>?_)
 have v:=u
 try simp only [e,f,g,k,l,t,Bool.false_or,Bool.or_false] at v
 obtain ⟨I,h⟩:=Zx h
 try simp only [Nat.reduceLeDiff] at I
 try simp only [*,go_sem,seval]
 refine ⟨_,[],[257],(Option.some.inj h).symm,by decide,?_⟩
 try simp only [*,go_sem,seval]
 have v:=u
 try simp only [e,f,g,k,l,t,Bool.false_or,Bool.or_false] at v
 obtain ⟨J,h⟩:=Zx h
 try simp only [Nat.reduceLeDiff] at J
 obtain ⟨K,h⟩:=Zx h
 try simp only [Nat.reduceLeDiff] at K
 try simp only [*,go_sem,seval]
 refine ⟨_,[],[385],(Option.some.inj h).symm,by decide,?_⟩
 try simp only [*,go_sem,seval]
 rintro ⟨m,o⟩ ⟨sl,ob,n⟩ x af h
 simp only [go_sem,seval,Zd] at x
 obtain ⟨⟨ag,ah,ai,aj,ak,al,am⟩,an,hn⟩:=x
 subst hn
 have ao:=ZC (a.length)
 try simp only [*,go_sem,seval]
 refine Ze h (fun _ h=>?_) fun _ h=>?_<;>try simp only [*,go_sem,seval]
 cases h
 try simp only [*,go_sem,seval]
 obtain ⟨L,h⟩:=Zx h
 try simp only [Nat.reduceLeDiff] at L
 iterate 4 (cases h;try simp only [*,go_sem,seval])
theorem ZcE {r_0:Zf} {n_1:Int} {r:(List ByteArray)} (h:QR r_0 n_1=some r):Zn Tryz.prog J0 205 [(true,ZB r_0),(false,[.int .i64 n_1])] [(false,[(false,.sl 9 1 (List.map Zu r))])]:=by
 refine fnk Tryz.func205 (by kernel_rfl) rfl (by kernel_rfl) (by kernel_rfl) ?_
 unfold QR at h
 simp only [fnS,f205,Zo,go_sem,seval]
 refine Zg h (fun i a st=>IV [(1,.p false [.c (.int .i64 n_1)]),(5,.p false [.row 0]),(9,.p false [.c (.sl 130 5 (List.map ZM r_0.cond))]),(10,.p false [.c (.int .i64 ((r_0.cond.length:Nat):Int))]),(11,.p false [.c (.int .i64 ((i:Nat):Int))])] [.row 9 1 (List.map Zu a) 2] st) [(false,5,0)] [112] (by decide) ?_ ?_ ?_
 simp only [*,go_sem,seval]
 rintro q t a ⟨sl,ob,n⟩ u b d f h v
 simp only [go_sem,seval,Zd] at d
 obtain ⟨⟨w,x,g,y,z⟩,A,hn⟩:=d
 subst hn
 have k:=WF.slotL f g (j:=0) rfl
 have B:=ZF b
 have C:=ZJ b
 have D:=Zi (ZE b) k
 try simp only [*,go_sem,seval]
 iterate 2 refine Ze h (fun _ h=>?_) fun _ h=>?_<;>try simp only [*,go_sem,seval]
 obtain ⟨E,l,h⟩:=Za h
 refine Zb (Zc2 l) ?_
 obtain ⟨m,h⟩:=Zx h
 try simp only [Nat.reduceLeDiff] at m
 try simp only [*,go_sem,seval]
 refine ⟨_,[],[321],(Option.some.inj h).symm,by decide,?_⟩
 try simp only [*,go_sem,seval]
 refine ⟨_,[],[0],(Option.some.inj h).symm,by decide,?_⟩
 try simp only [*,go_sem,seval]
 refine ⟨_,[],[0],(Option.some.inj h).symm,by decide,?_⟩
 try simp only [*,go_sem,seval]
 rintro a ⟨sl,ob,n⟩ e F h
 simp only [go_sem,seval,Zd] at e
 obtain ⟨⟨G,H,I,J,K⟩,L,hn⟩:=e
 subst hn
 have M:=ZC (r_0.cond.length)
 try simp only [*,go_sem,seval]
 obtain ⟨N,o,h⟩:=Za h
 refine Zb (X5 o) ?_
 cases h
 try simp only [*,go_sem,seval]
theorem ZbT {x_0:Zm} {r:(List ByteArray)} (h:Qn x_0=some r):Zn Tryz.prog J0 206 [(true,ZM x_0)] [(false,[(false,.sl 9 1 (List.map Zu r))])]:=by
 refine fnk Tryz.func206 (by kernel_rfl) rfl (by kernel_rfl) (by kernel_rfl) ?_
 unfold Qn at h
 simp only [fnS,f206,Zo,go_sem,seval]
 obtain ⟨d,a,h⟩:=Za h
 refine Zb (ZnB a) ?_
 try simp only [*,go_sem,seval]
 obtain ⟨e,b,h⟩:=Za h
 refine Zb (Zc2 b) ?_
 try simp only [*,go_sem,seval]
 obtain ⟨f,c,h⟩:=Za h
 refine Zb (X5 c) ?_
 cases h
 try simp only [*,go_sem,seval]
theorem ZdF {a_0:Zc} {b_1:Zc} {r:Int} (h:Qb a_0 b_1=some r):Zn Tryz.prog J0 180 [(true,Zq a_0),(true,Zq b_1)] [(false,[(false,.int .i64 r)])]:=by
 refine fnk Tryz.func180 (by kernel_rfl) rfl (by kernel_rfl) (by kernel_rfl) ?_
 unfold Qb at h
 simp only [fnS,f180,Zo,go_sem,seval]
 obtain ⟨u,f,h⟩:=Za h
 refine Zb (Zh6 f) ?_
 try simp only [*,go_sem,seval]
 refine Ze h (fun _ h=>?_) fun _ h=>?_<;>try simp only [*,go_sem,seval]
 cases h
 try simp only [*,go_sem,seval]
 refine Zg h (fun i _ st=>IV [(2,.bp 0 0),(3,.bp 1 0),(6,.p false [.c (.int .i64 ((i:Nat):Int))])] [.box 57 [.c (.str a_0.rel),.c (.sl 9 1 (List.map Zu a_0.args))],.box 57 [.c (.str b_1.rel),.c (.sl 9 1 (List.map Zu b_1.args))]] st) [] [0,16] (by decide) ?_ ?_ ?_
 simp only [*,go_sem,seval]
 rintro v w ⟨⟩ ⟨sl,ob,n⟩ x a b g h d
 simp only [go_sem,seval,Zd] at b
 obtain ⟨⟨y,z,A⟩,k,B,hn⟩:=b
 subst hn
 have l:=WF.boxL g k (j:=1) rfl
 have C:=ZF a
 have D:=ZJ a
 have E:=Zi (ZE a) l
 try simp only [*,go_sem,seval]
 refine Ze h (fun _ h=>?_) fun _ h=>?_<;>try simp only [*,go_sem,seval]
 obtain ⟨F,G,H,m,h⟩:=Zgn h
 simp only [Int.toNat_natCast] at m
 try simp only [*,go_sem,seval]
 obtain ⟨I,o,h⟩:=Za h
 refine Zb (ZhA o) ?_
 try simp only [*,go_sem,seval]
 refine Ze h (fun _ h=>?_) fun _ h=>?_<;>try simp only [*,go_sem,seval]
 replace h:=Zs h d
 cases h
 try simp only [*,go_sem,seval]
 refine ⟨_,[],[0,1],(Option.some.inj h).symm,by decide,?_⟩
 try simp only [*,go_sem,seval]
 obtain ⟨J,q,h⟩:=Za h
 refine Zb (ZbC q) ?_
 replace h:=Zs h d
 cases h
 try simp only [*,go_sem,seval]
 rintro ⟨⟩ ⟨sl,ob,n⟩ e K h
 simp only [go_sem,seval,Zd] at e
 obtain ⟨⟨L,M,N⟩,O,P,hn⟩:=e
 subst hn
 have Q:=ZC (a_0.args.length)
 try simp only [*,go_sem,seval]
 obtain ⟨R,t,h⟩:=Za h
 refine Zb (ZbC t) ?_
 cases h
 try simp only [*,go_sem,seval]
theorem Zhz {facts_0:(List Zc)} {l_1:(List Zc)} {r:(List Int)} (h:Zcy facts_0 l_1=some r):Zn Tryz.prog J0 90 [(false,[.sl 57 2 (List.map Zq facts_0)]),(false,[.sl 57 2 (List.map Zq l_1)])] [(false,[(false,.sl 3 1 (List.map Qv r))])]:=by
 refine fnk Tryz.func90 (by kernel_rfl) rfl (by kernel_rfl) (by kernel_rfl) ?_
 unfold Zcy at h
 simp only [fnS,f90,Zo,go_sem,seval]
 refine Zg h (fun i a st=>IV [(0,.p false [.c (.sl 57 2 (List.map Zq facts_0))]),(5,.p false [.row 0]),(9,.p false [.c (.sl 57 2 (List.map Zq l_1))]),(10,.p false [.c (.int .i64 ((l_1.length:Nat):Int))]),(11,.p false [.c (.int .i64 ((i:Nat):Int))])] [.row 3 1 (List.map Qv a) 2] st) [(false,5,0)] [80] (by decide) ?_ ?_ ?_
 simp only [*,go_sem,seval]
 rintro t u a ⟨sl,ob,n⟩ v b d f h w
 simp only [go_sem,seval,Zd] at d
 obtain ⟨⟨x,y,g,z,A⟩,B,hn⟩:=d
 subst hn
 have k:=WF.slotL f g (j:=0) rfl
 have C:=ZF b
 have D:=ZJ b
 have E:=Zi (ZE b) k
 try simp only [*,go_sem,seval]
 obtain ⟨F,l,h⟩:=Za h
 refine Zb (ZbR l) ?_
 try simp only [*,go_sem,seval]
 refine Ze h (fun _ h=>?_) fun _ h=>?_<;>try simp only [*,go_sem,seval]
 obtain ⟨G,m,h⟩:=Za h
 refine Zb (ZoY m) ?_
 try simp only [*,go_sem,seval]
 refine Ze h (fun _ h=>?_) fun _ h=>?_<;>try simp only [*,go_sem,seval]
 refine ⟨_,[],[0],(Option.some.inj h).symm,by decide,?_⟩
 try simp only [*,go_sem,seval]
 obtain ⟨o,h⟩:=Zx h
 try simp only [Nat.reduceLeDiff] at o
 try simp only [*,go_sem,seval]
 refine ⟨_,[],[321],(Option.some.inj h).symm,by decide,?_⟩
 try simp only [*,go_sem,seval]
 refine ⟨_,[],[0],(Option.some.inj h).symm,by decide,?_⟩
 try simp only [*,go_sem,seval]
 rintro a ⟨sl,ob,n⟩ e H h
 simp only [go_sem,seval,Zd] at e
 obtain ⟨⟨I,J,K,L,M⟩,N,hn⟩:=e
 subst hn
 have O:=ZC (l_1.length)
 try simp only [*,go_sem,seval]
 obtain ⟨P,q,h⟩:=Za h
 refine ZsX (Zl1 q) ?_
 cases h
 try simp only [*,go_sem,seval]
theorem ZAE {b_0:ZK} {r:Bool} (h:ZAd b_0=some r):Zn Tryz.prog J0 185 [(true,Zff b_0)] [(false,[(false,.bool r)])]:=by
 refine fnk Tryz.func185 (by kernel_rfl) rfl (by kernel_rfl) (by kernel_rfl) ?_
 unfold ZAd at h
 simp only [fnS,f185,Zo,go_sem,seval]
 obtain ⟨A,o,h⟩:=Za h
 refine Zb (ZBG o) ?_
 try simp only [*,go_sem,seval]
 refine Ze h (fun _ h=>?_) fun _ h=>?_<;>try simp only [*,go_sem,seval]
 refine Zg h (fun i _ st=>IV [(1,.bp 0 0),(3,.p false [.c (.int .i64 ((i:Nat):Int))])] [.box 29 [.c (.int .i64 b_0.nodes),.c (.sl 114 3 (List.map Yn b_0.reasons))]] st) [] [0] (by decide) ?_ ?_ ?_
 simp only [*,go_sem,seval]
 rintro q d ⟨⟩ ⟨sl,ob,n⟩ B a e t h f
 simp only [go_sem,seval,Zd] at e
 obtain ⟨⟨C,D⟩,u,hn⟩:=e
 subst hn
 have v:=WF.boxL t u (j:=1) rfl
 have E:=ZF a
 have F:=ZJ a
 have G:=Zi (ZE a) v
 try simp only [*,go_sem,seval]
 refine Zg h (fun i _ st=>IV [(1,.bp 0 0),(3,.p false [.c (.int .i64 ((q:Nat):Int))]),(4,.p false [.c (.int .i64 d.for_)]),(5,.p false [.c (.int .i64 ((i:Nat):Int))])] [.box 29 [.c (.int .i64 b_0.nodes),.c (.sl 114 3 (List.map Yn b_0.reasons))]] st) [] [0] (by decide) ?_ ?_ ?_
 simp only [*,go_sem,seval]
 rintro H I ⟨⟩ ⟨sl,ob,n⟩ J b g w h k
 simp only [go_sem,seval,Zd] at g
 obtain ⟨⟨K,L,M,N⟩,x,hn⟩:=g
 subst hn
 have y:=WF.elL (WF.boxD w x (j:=1) rfl) a (j:=2) rfl
 have O:=ZF b
 have P:=ZJ b
 have Q:=Zi (ZE b) y
 try simp only [*,go_sem,seval]
 refine Ze h (fun _ h=>?_) fun _ h=>?_<;>try simp only [*,go_sem,seval]
 replace h:=Zs h k
 replace h:=Zs h f
 cases h
 try simp only [*,go_sem,seval]
 obtain ⟨R,z,h⟩:=Za h
 refine Zb (ZBO z) ?_
 obtain ⟨S,h⟩:=Zx h
 obtain ⟨T,U,h⟩:=Za h
 try simp only [*,go_sem,seval]
 refine Ze h (fun _ h=>?_) fun _ h=>?_<;>try simp only [*,go_sem,seval]
 replace h:=Zs h k
 replace h:=Zs h f
 cases h
 try simp only [*,go_sem,seval]
 refine ⟨_,[],[0],(Option.some.inj h).symm,by decide,?_⟩
 try simp only [*,go_sem,seval]
 rintro ⟨⟩ ⟨sl,ob,n⟩ l V h
 simp only [go_sem,seval,Zd] at l
 obtain ⟨⟨W,X,Y,Z⟩,aa,hn⟩:=l
 subst hn
 have ab:=ZC (d.outs.length)
 try simp only [*,go_sem,seval]
 refine ⟨_,[],[0],(Option.some.inj h).symm,by decide,?_⟩
 try simp only [*,go_sem,seval]
 rintro ⟨⟩ ⟨sl,ob,n⟩ m ac h
 simp only [go_sem,seval,Zd] at m
 obtain ⟨⟨ad,ae⟩,af,hn⟩:=m
 subst hn
 have ag:=ZC (b_0.reasons.length)
 iterate 2 (cases h;try simp only [*,go_sem,seval])
theorem ZBS {facts_0:(List Zc)} {b_1:ZK} {r:(List Zc)} (h:ZAy facts_0 b_1=some r):Zn Tryz.prog J0 58 [(false,[.sl 57 2 (List.map Zq facts_0)]),(true,Zff b_1)] [(false,[(false,.sl 57 2 (List.map Zq r))])]:=by
 refine fnk Tryz.func58 (by kernel_rfl) rfl (by kernel_rfl) (by kernel_rfl) ?_
 unfold ZAy at h
 simp only [fnS,f58,Zo,go_sem,seval]
 obtain ⟨a,g,h⟩:=Za h
 refine Zb (ZCB g) ?_
 try simp only [*,go_sem,seval]
 refine Zg h (fun i b st=>IV [(0,.p false [.c (.sl 57 2 (List.map Zq facts_0))]),(5,.p false [.row 0]),(9,.p false [.row 1]),(10,.p false [.c (.int .i64 ((a.length:Nat):Int))]),(11,.p false [.c (.int .i64 ((i:Nat):Int))])] [.row 57 2 (List.map Zq b) 2,.row 4 1 (List.map Zuz a) 2] st) [(false,5,0)] [112,64] (by decide) ?_ ?_ ?_
 simp only [*,go_sem,seval]
 rintro t u b ⟨sl,ob,n⟩ v d e j h w
 simp only [go_sem,seval,Zd] at e
 obtain ⟨⟨x,y,z,A,B⟩,C,k,hn⟩:=e
 subst hn
 have l:=WF.rowL j k
 have D:=ZF d
 have E:=ZJ d
 have F:=Zi (ZE d) l
 try simp only [*,go_sem,seval]
 refine Ze h (fun _ h=>?_) fun _ h=>?_<;>try simp only [*,go_sem,seval]
 obtain ⟨G,H,I,m,h⟩:=Zgn h
 simp only [Int.toNat_natCast] at m
 try simp only [*,go_sem,seval]
 obtain ⟨J,o,h⟩:=Za h
 refine Zb (Xf o) ?_
 obtain ⟨q,h⟩:=Zx h
 try simp only [Nat.reduceLeDiff] at q
 try simp only [*,go_sem,seval]
 refine ⟨_,[],[226,1],(Option.some.inj h).symm,by decide,?_⟩
 try simp only [*,go_sem,seval]
 refine ⟨_,[],[0,1],(Option.some.inj h).symm,by decide,?_⟩
 try simp only [*,go_sem,seval]
 rintro b ⟨sl,ob,n⟩ f K h
 simp only [go_sem,seval,Zd] at f
 obtain ⟨⟨L,M,N,O,P⟩,Q,R,hn⟩:=f
 subst hn
 have S:=ZC (a.length)
 cases h
 try simp only [*,go_sem,seval]
theorem ZE8 {b_0:ZK} {l_1:(List Int)} {r:ZK} (h:ZER b_0 l_1=some r):Zn Tryz.prog J0 67 [(true,Zff b_0),(false,[.sl 3 1 (List.map Qv l_1)])] [(true,[(false,.int .i64 r.nodes),(false,.sl 114 3 (List.map Yn r.reasons))])]:=by
 refine fnk Tryz.func67 (by kernel_rfl) rfl (by kernel_rfl) (by kernel_rfl) ?_
 unfold ZER at h
 simp only [fnS,f67,Zo,go_sem,seval]
 obtain ⟨b,a,h⟩:=Za h
 refine Zb (ZFa a) ?_
 cases h
 try simp only [*,go_sem,seval]
end Go.Proofs.YtojnhepgnbhaaaaGreatDoor
namespace Go.Proofs.YtojnhepgnbhaaaaGreatDoor
open Go.Proofs.Tryz
set_option linter.unusedSimpArgs false
set_option linter.unusedVariables false
set_option maxRecDepth 1000000
set_option maxHeartbeats 4000000
theorem X3 {p_0:Zv} {r:Bool} (h:Xb p_0=some r):Zn Tryz.prog J0 60 [(true,QQ p_0)] [(false,[(false,.bool r)])]:=by
 refine fnk Tryz.func60 (by kernel_rfl) rfl (by kernel_rfl) (by kernel_rfl) ?_
 unfold Xb at h
 simp only [fnS,f60,Zo,go_sem,seval]
 refine Zg h (fun i _ st=>IV [(1,.bp 0 0),(3,.p false [.c (.int .i64 ((i:Nat):Int))])] [.box 49 [.c (.str p_0.rel),.c (.sl 9 1 (List.map Zu p_0.args))]] st) [] [0] (by decide) ?_ ?_ ?_
 simp only [*,go_sem,seval]
 rintro o q ⟨⟩ ⟨sl,ob,n⟩ t a b e h f
 simp only [go_sem,seval,Zd] at b
 obtain ⟨⟨u,v⟩,g,hn⟩:=b
 subst hn
 have k:=WF.boxL e g (j:=1) rfl
 have w:=ZF a
 have x:=ZJ a
 have y:=Zi (ZE a) k
 try simp only [*,go_sem,seval]
 obtain ⟨z,l,h⟩:=Za h
 refine Zb (QB l) ?_
 try simp only [*,go_sem,seval]
 refine Ze h (fun _ h=>?_) fun _ h=>?_<;>try simp only [*,go_sem,seval]
 refine ⟨_,[],[0],(Option.some.inj h).symm,by decide,?_⟩
 try simp only [*,go_sem,seval]
 replace h:=Zs h f
 cases h
 try simp only [*,go_sem,seval]
 rintro ⟨⟩ ⟨sl,ob,n⟩ d A h
 simp only [go_sem,seval,Zd] at d
 obtain ⟨⟨B,C⟩,D,hn⟩:=d
 subst hn
 have E:=ZC (p_0.args.length)
 try simp only [*,go_sem,seval]
 obtain ⟨F,m,h⟩:=Za h
 refine Zb (Zfs m) ?_
 try simp only [*,go_sem,seval]
 refine Ze h (fun _ h=>?_) fun _ h=>?_<;>try simp only [*,go_sem,seval]
 iterate 2 (cases h;try simp only [*,go_sem,seval])
theorem Zpe {b_0:(List Zl)} {v_1:ByteArray} {value_2:ByteArray} {r:((List Zl) × Bool)} (h:Zfx b_0 v_1 value_2=some r):Zn Tryz.prog J0 152 [(false,[.sl 192 2 (List.map Z6 b_0)]),(false,[.str v_1]),(false,[.str value_2])] [(false,[(false,.sl 192 2 (List.map Z6 r.1))]),(false,[(false,.bool r.2)])]:=by
 refine fnk Tryz.func152 (by kernel_rfl) rfl (by kernel_rfl) (by kernel_rfl) ?_
 unfold Zfx at h
 simp only [fnS,f152,Zo,go_sem,seval]
 obtain ⟨g,a,h⟩:=Za h
 refine Zb (QM a) ?_
 try simp only [*,go_sem,seval]
 refine Ze h (fun _ h=>?_) fun _ h=>?_<;>try simp only [*,go_sem,seval]
 obtain ⟨i,b,h⟩:=Za h
 refine Zb (QE b) ?_
 try simp only [*,go_sem,seval]
 refine Ze h (fun _ h=>?_) fun _ h=>?_<;>try simp only [*,go_sem,seval]
 obtain ⟨j,c,h⟩:=Za h
 refine Zb (Qc c) ?_
 try simp only [*,go_sem,seval]
 refine Ze h (fun _ h=>?_) fun _ h=>?_<;>try simp only [*,go_sem,seval]
 obtain ⟨k,d,h⟩:=Za h
 refine Zb (Zcl d) ?_
 try simp only [*,go_sem,seval]
 iterate 2 refine Ze h (fun _ h=>?_) fun _ h=>?_<;>try simp only [*,go_sem,seval]
 obtain ⟨l,e,h⟩:=Za h
 refine Zb (Zf4 e) ?_
 iterate 2 (cases h;try simp only [*,go_sem,seval])
 refine Ze h (fun _ h=>?_) fun _ h=>?_<;>try simp only [*,go_sem,seval]
 cases h
 try simp only [*,go_sem,seval]
 obtain ⟨m,f,h⟩:=Za h
 refine Zb (Zqk f) ?_
 iterate 4 (cases h;try simp only [*,go_sem,seval])
theorem Zae {x_0:Zm} {r:(List ByteArray)} (h:XR x_0=some r):Zn Tryz.prog J0 195 [(true,ZM x_0)] [(false,[(false,.sl 9 1 (List.map Zu r))])]:=by
 refine fnk Tryz.func195 (by kernel_rfl) rfl (by kernel_rfl) (by kernel_rfl) ?_
 unfold XR at h
 simp only [fnS,f195,Zo,go_sem,seval]
 obtain ⟨i,a,h⟩:=Za h
 refine Zb (Zb1 a) ?_
 try simp only [*,go_sem,seval]
 obtain ⟨j,b,h⟩:=Za h
 refine Zb (QE b) ?_
 try simp only [*,go_sem,seval]
 refine Ze h (fun _ h=>?_) fun _ h=>?_<;>try simp only [*,go_sem,seval]
 obtain ⟨k,c,h⟩:=Za h
 refine Zb (Xn c) ?_
 try simp only [*,go_sem,seval]
 obtain ⟨l,d,h⟩:=Za h
 refine Zb (QE d) ?_
 try simp only [*,go_sem,seval]
 refine Ze h (fun _ h=>?_) fun _ h=>?_<;>try simp only [*,go_sem,seval]
 obtain ⟨m,e,h⟩:=Za h
 refine Zb (Xn e) ?_
 iterate 2 (cases h;try simp only [*,go_sem,seval])
 obtain ⟨o,f,h⟩:=Za h
 refine Zb (QE f) ?_
 try simp only [*,go_sem,seval]
 refine Ze h (fun _ h=>?_) fun _ h=>?_<;>try simp only [*,go_sem,seval]
 obtain ⟨p,g,h⟩:=Za h
 refine Zb (Xn g) ?_
 iterate 2 (cases h;try simp only [*,go_sem,seval])
theorem Za3 {r_0:Zf} {n_1:Int} {r:(List ByteArray)} (h:Qf r_0 n_1=some r):Zn Tryz.prog J0 196 [(true,ZB r_0),(false,[.int .i64 n_1])] [(false,[(false,.sl 9 1 (List.map Zu r))])]:=by
 refine fnk Tryz.func196 (by kernel_rfl) rfl (by kernel_rfl) (by kernel_rfl) ?_
 unfold Qf at h
 simp only [fnS,f196,Zo,go_sem,seval]
 refine Zg h (fun i row_12 st=>IV [(1,.p false [.c (.int .i64 n_1)]),(2,.bp 0 0),(5,.p false [.row 1]),(6,.p false [.c (.int .i64 ((i:Nat):Int))])] [.box 82 [.c (.str r_0.name),.c (.int .i64 r_0.priority),.c (.sl 130 5 (List.map ZM r_0.cond)),.c (.sl 134 3 (List.map ZA r_0.thn))],.row 9 1 (List.map Zu row_12) 2] st) [] [0,32] (by decide) ?_ ?_ ?_
 ·simp only [*,go_sem,seval]
 ·rintro i25 x26 row_12 ⟨sl,ob,n⟩ y1 hx2 hI3 hW4 h hy1
  simp only [go_sem,seval,Zd] at hI3
  obtain ⟨⟨g5_1,g5_2,g5_5,g5_6⟩,og5_0,og5_1,hn⟩:=hI3
  subst hn
  have hlhx2:=WF.boxL hW4 og5_0 (j:=2) rfl
  have q6:=ZF hx2
  have q7:=ZJ hx2
  have q8:=Zi (ZE hx2) hlhx2
  try simp only [*,go_sem,seval]
  refine Ze h (fun _ h=>?_) fun _ h=>?_<;>try simp only [*,go_sem,seval]
  ·refine Ze h (fun _ h=>?_) fun _ h=>?_<;>try simp only [*,go_sem,seval]
   ·obtain ⟨v27,e11,h⟩:=Za h
    refine Zb (by have hh:=Zb1 e11;first|exact hh|(simp only [*,go_sem] at hh;exact hh)) ?_
    try simp only [*,go_sem,seval]
    refine Zg h (fun i row_30 st=>IV [(1,.p false [.c (.int .i64 n_1)]),(2,.bp 0 0),(5,.p false [.row 1]),(6,.p false [.c (.int .i64 ((i25:Nat):Int))]),(7,.p false [.row 2]),(8,.p false [.c (.int .i64 ((i:Nat):Int))]),(16,.p false [.c (.int .i64 ((i25:Nat):Int))]),(17,.p false [.c (.int .i64 n_1)]),(18,.p false [.c (.bool (decide (((i25:Nat):Int)<n_1)))])] [.box 82 [.c (.str r_0.name),.c (.int .i64 r_0.priority),.c (.sl 130 5 (List.map ZM r_0.cond)),.c (.sl 134 3 (List.map ZA r_0.thn))],.row 9 1 (List.map Zu row_30) 2,.row 9 1 (List.map Zu v27) 2] st) [] [0,1,370] (by decide) ?_ ?_ ?_
    ·simp only [*,go_sem,seval]
    ·rintro i34 x35 row_30 ⟨sl,ob,n⟩ y12 hx13 hI14 hW15 h hy12
     simp only [go_sem,seval,Zd] at hI14
     obtain ⟨⟨g16_1,g16_2,g16_5,g16_6,g16_7,g16_8,g16_16,g16_17,g16_18⟩,og16_0,og16_1,og16_2,hn⟩:=hI14
     subst hn
     have hlhx13:=WF.rowL hW15 og16_2
     have q17:=ZF hx13
     have q18:=ZJ hx13
     have q19:=Zi (ZE hx13) hlhx13
     try simp only [*,go_sem,seval]
     obtain ⟨v36,e20,h⟩:=Za h
     refine Zb (by have hh:=Xn e20;first|exact hh|(simp only [*,go_sem] at hh;exact hh)) ?_
     try simp only [*,go_sem,seval]
     refine ⟨_,[],[0,147,2],(Option.some.inj h).symm,by decide,?_⟩
     try simp only [*,go_sem,seval]
    ·rintro row_30 ⟨sl,ob,n⟩ hI21 hW22 h
     simp only [go_sem,seval,Zd] at hI21
     obtain ⟨⟨g23_1,g23_2,g23_5,g23_6,g23_7,g23_8,g23_16,g23_17,g23_18⟩,og23_0,og23_1,og23_2,hn⟩:=hI21
     subst hn
     have q24:=ZC (v27.length)
     try simp only [*,go_sem,seval]
     refine ⟨_,[],[0,1],(Option.some.inj h).symm,by decide,?_⟩
     try simp only [*,go_sem,seval]
   ·refine ⟨_,[],[0,1],(Option.some.inj h).symm,by decide,?_⟩
    try simp only [*,go_sem,seval]
  ·replace h:=Zs h hy1
   cases h
   try simp only [*,go_sem,seval]
 ·rintro row_12 ⟨sl,ob,n⟩ hI25 hW26 h
  simp only [go_sem,seval,Zd] at hI25
  obtain ⟨⟨g27_1,g27_2,g27_5,g27_6⟩,og27_0,og27_1,hn⟩:=hI25
  subst hn
  have q28:=ZC (r_0.cond.length)
  cases h
  try simp only [*,go_sem,seval]
theorem Zl8 {l_0:(List Zc)} {r:Bool} (h:ZcW l_0=some r):Zn Tryz.prog J0 124 [(false,[.sl 57 2 (List.map Zq l_0)])] [(false,[(false,.bool r)])]:=by
 refine fnk Tryz.func124 (by kernel_rfl) rfl (by kernel_rfl) (by kernel_rfl) ?_
 unfold ZcW at h
 simp only [fnS,f124,Zo,go_sem,seval]
 refine Zg h (fun i _ st=>IV [(0,.p false [.c (.sl 57 2 (List.map Zq l_0))]),(3,.p false [.c (.int .i64 ((i:Nat):Int))])] [] st) [] [] (by decide) ?_ ?_ ?_
 simp only [*,go_sem,seval]
 rintro o q ⟨⟩ ⟨sl,ob,n⟩ t a b f h d
 simp only [go_sem,seval,Zd] at b
 obtain ⟨⟨g,u⟩,hn⟩:=b
 subst hn
 have k:=WF.slotL f g (j:=0) rfl
 have v:=ZF a
 have w:=ZJ a
 have x:=Zi (ZE a) k
 try simp only [*,go_sem,seval]
 obtain ⟨y,l,h⟩:=Za h
 refine Zb (Zjl l) ?_
 try simp only [*,go_sem,seval]
 iterate 2 refine Ze h (fun _ h=>?_) fun _ h=>?_<;>try simp only [*,go_sem,seval]
 obtain ⟨z,A,B,C,h⟩:=Zgn h
 try simp only [*,go_sem,seval]
 obtain ⟨D,m,h⟩:=Za h
 refine Zb (ZaV m) ?_
 try simp only [*,go_sem,seval]
 refine Ze h (fun _ h=>?_) fun _ h=>?_<;>try simp only [*,go_sem,seval]
 replace h:=Zs h d
 cases h
 try simp only [*,go_sem,seval]
 refine ⟨_,[],[],(Option.some.inj h).symm,by decide,?_⟩
 try simp only [*,go_sem,seval]
 refine ⟨_,[],[],(Option.some.inj h).symm,by decide,?_⟩
 try simp only [*,go_sem,seval]
 replace h:=Zs h d
 cases h
 try simp only [*,go_sem,seval]
 rintro ⟨⟩ ⟨sl,ob,n⟩ e E h
 simp only [go_sem,seval,Zd] at e
 obtain ⟨⟨F,G⟩,hn⟩:=e
 subst hn
 have H:=ZC (l_0.length)
 cases h
 try simp only [*,go_sem,seval]
theorem Zqa {a:(List Zc)} {f_1:Zc} {r:(List Zc)} (h:ZbK a f_1=some r):Zn Tryz.prog J0 126 [(false,[.sl 57 2 (List.map Zq a)]),(true,Zq f_1)] [(false,[(false,.sl 57 2 (List.map Zq r))])]:=by
 refine fnk Tryz.func126 (by kernel_rfl) rfl (by kernel_rfl) (by kernel_rfl) ?_
 unfold ZbK at h
 simp only [fnS,f126,Zo,go_sem,seval]
 refine Zg h (fun i s st=>match s with | (b,d)=>IV [(0,.p false [.c (.sl 57 2 (List.map Zq a))]),(3,.bp 0 0),(5,.p false [.row 1]),(6,.p false [.c (.bool d)]),(7,.p false [.c (.int .i64 ((i:Nat):Int))])] [.box 57 [.c (.str f_1.rel),.c (.sl 9 1 (List.map Zu f_1.args))],.row 57 2 (List.map Zq b) 2] st) [] [0,32] (by decide) ?_ ?_ ?_
 simp only [*,go_sem,seval]
 rintro G H ⟨b,d⟩ ⟨sl,ob,n⟩ I e f k h J
 simp only [go_sem,seval,Zd] at f
 obtain ⟨⟨l,K,L,M,N⟩,O,P,hn⟩:=f
 subst hn
 have m:=WF.slotL k l (j:=0) rfl
 have Q:=ZF e
 have R:=ZJ e
 have S:=Zi (ZE e) m
 try simp only [*,go_sem,seval]
 refine Ze h (fun _ h=>?_) fun _ h=>?_<;>try simp only [*,go_sem,seval]
 obtain ⟨T,o,h⟩:=Za h
 refine Zb (XF o) ?_
 obtain ⟨q,h⟩:=Zx h
 try simp only [Nat.reduceLeDiff] at q
 try simp only [*,go_sem,seval]
 refine ⟨_,[],[0,354],(Option.some.inj h).symm,by decide,?_⟩
 try simp only [*,go_sem,seval]
 obtain ⟨U,t,h⟩:=Za h
 refine Zb (ZaV t) ?_
 try simp only [*,go_sem,seval]
 refine Ze h (fun _ h=>?_) fun _ h=>?_<;>try simp only [*,go_sem,seval]
 obtain ⟨V,u,h⟩:=Za h
 refine Zb (ZaV u) ?_
 try simp only [*,go_sem,seval]
 refine Ze h (fun _ h=>?_) fun _ h=>?_<;>try simp only [*,go_sem,seval]
 obtain ⟨W,v,h⟩:=Za h
 refine Zb (XF v) ?_
 obtain ⟨w,h⟩:=Zx h
 try simp only [Nat.reduceLeDiff] at w
 try simp only [*,go_sem,seval]
 obtain ⟨X,x,h⟩:=Za h
 refine Zb (XF x) ?_
 obtain ⟨y,h⟩:=Zx h
 try simp only [Nat.reduceLeDiff] at y
 try simp only [*,go_sem,seval]
 refine ⟨_,[],[0,578],(Option.some.inj h).symm,by decide,?_⟩
 try simp only [*,go_sem,seval]
 obtain ⟨Y,z,h⟩:=Za h
 refine Zb (XF z) ?_
 obtain ⟨A,h⟩:=Zx h
 try simp only [Nat.reduceLeDiff] at A
 try simp only [*,go_sem,seval]
 refine ⟨_,[],[0,482],(Option.some.inj h).symm,by decide,?_⟩
 try simp only [*,go_sem,seval]
 obtain ⟨Z,B,h⟩:=Za h
 refine Zb (XF B) ?_
 obtain ⟨C,h⟩:=Zx h
 try simp only [Nat.reduceLeDiff] at C
 try simp only [*,go_sem,seval]
 refine ⟨_,[],[0,354],(Option.some.inj h).symm,by decide,?_⟩
 try simp only [*,go_sem,seval]
 rintro ⟨b,d⟩ ⟨sl,ob,n⟩ g aa h
 simp only [go_sem,seval,Zd] at g
 obtain ⟨⟨ab,ac,ad,ae,af⟩,ag,ah,hn⟩:=g
 subst hn
 have ai:=ZC (a.length)
 try simp only [*,go_sem,seval]
 refine Ze h (fun _ h=>?_) fun _ h=>?_<;>try simp only [*,go_sem,seval]
 cases h
 try simp only [*,go_sem,seval]
 obtain ⟨aj,D,h⟩:=Za h
 refine Zb (XF D) ?_
 obtain ⟨E,h⟩:=Zx h
 try simp only [Nat.reduceLeDiff] at E
 cases h
 try simp only [*,go_sem,seval]
theorem ZfI {append_0:Zv} {String_1:Zc} {a_2:(List Zl)} {r:((List Zl) × Bool)} (h:ZaD append_0 String_1 a_2=some r):Zn Tryz.prog J0 106 [(true,QQ append_0),(true,Zq String_1),(false,[.sl 192 2 (List.map Z6 a_2)])] [(false,[(false,.sl 192 2 (List.map Z6 r.1))]),(false,[(false,.bool r.2)])]:=by
 refine fnk Tryz.func106 (by kernel_rfl) rfl (by kernel_rfl) (by kernel_rfl) ?_
 unfold ZaD at h
 simp only [fnS,f106,Zo,go_sem,seval]
 obtain ⟨y,g,h⟩:=Za h
 refine Zb (Qa g) ?_
 try simp only [*,go_sem,seval]
 refine Ze h (fun _ h=>?_) fun _ h=>?_<;>try simp only [*,go_sem,seval]
 obtain ⟨z,k,h⟩:=Za h
 refine Zb (Zjc k) ?_
 try simp only [*,go_sem,seval]
 refine Ze h (fun _ h=>?_) fun _ h=>?_<;>try simp only [*,go_sem,seval]
 obtain ⟨A,l,h⟩:=Za h
 refine Zb (QF l) ?_
 try simp only [*,go_sem,seval]
 iterate 3 refine Ze h (fun _ h=>?_) fun _ h=>?_<;>try simp only [*,go_sem,seval]
 cases h
 try simp only [*,go_sem,seval]
 obtain ⟨B,m,h⟩:=Za h
 refine Zb (ZfS m) ?_
 try simp only [*,go_sem,seval]
 refine Zg h (fun i a st=>IV [(4,.bp 0 0),(8,.p false [.row 1]),(45,.p false [.c (.sl 9 1 (List.map Zu append_0.args))]),(46,.p false [.c (.int .i64 ((append_0.args.length:Nat):Int))]),(47,.p false [.c (.int .i64 ((i:Nat):Int))])] [.box 57 [.c (.str String_1.rel),.c (.sl 9 1 (List.map Zu String_1.args))],.row 192 2 (List.map Z6 a) 2] st) [] [16,544] (by decide) ?_ ?_ ?_
 simp only [*,go_sem,seval]
 rintro C D a ⟨sl,ob,n⟩ E b d o h e
 simp only [go_sem,seval,Zd] at d
 obtain ⟨⟨F,G,q,H,I⟩,J,K,hn⟩:=d
 subst hn
 have t:=WF.slotL o q (j:=0) rfl
 have L:=ZF b
 have M:=ZJ b
 have N:=Zi (ZE b) t
 try simp only [*,go_sem,seval]
 obtain ⟨O,u,h⟩:=Za h
 refine Zb (Qg u) ?_
 try simp only [*,go_sem,seval]
 refine Ze h (fun _ h=>?_) fun _ h=>?_<;>try simp only [*,go_sem,seval]
 obtain ⟨P,Q,R,v,h⟩:=Zgn h
 simp only [Int.toNat_natCast] at v
 try simp only [*,go_sem,seval]
 refine Ze h (fun _ h=>?_) fun _ h=>?_<;>try simp only [*,go_sem,seval]
 refine ⟨_,[],[0,1],(Option.some.inj h).symm,by decide,?_⟩
 try simp only [*,go_sem,seval]
 replace h:=Zs h e
 cases h
 try simp only [*,go_sem,seval]
 obtain ⟨S,T,U,w,h⟩:=Zgn h
 simp only [Int.toNat_natCast] at w
 try simp only [*,go_sem,seval]
 obtain ⟨V,x,h⟩:=Za h
 refine Zb (ZnU x) ?_
 try simp only [*,go_sem,seval]
 refine Ze h (fun _ h=>?_) fun _ h=>?_<;>try simp only [*,go_sem,seval]
 refine ⟨_,[],[0,242],(Option.some.inj h).symm,by decide,?_⟩
 try simp only [*,go_sem,seval]
 replace h:=Zs h e
 cases h
 try simp only [*,go_sem,seval]
 rintro a ⟨sl,ob,n⟩ f W h
 simp only [go_sem,seval,Zd] at f
 obtain ⟨⟨X,Y,Z,aa,ab⟩,ac,ad,hn⟩:=f
 subst hn
 have ae:=ZC (append_0.args.length)
 iterate 5 (cases h;try simp only [*,go_sem,seval])
theorem ZfQ {x_0:Zm} {r:Bool} (h:Zdf x_0=some r):Zn Tryz.prog J0 181 [(true,ZM x_0)] [(false,[(false,.bool r)])]:=by
 refine fnk Tryz.func181 (by kernel_rfl) rfl (by kernel_rfl) (by kernel_rfl) ?_
 unfold Zdf at h
 have a:Zcf ⟨#[]⟩=true:=by decide
 simp only [fnS,f181,Zo,go_sem,seval,a]
 refine Ze h (fun _ h=>?_) fun _ h=>?_<;>try simp only [*,go_sem,seval]
 obtain ⟨o,b,h⟩:=Za h
 refine Zb (Qa b) ?_
 try simp only [*,go_sem,seval]
 iterate 2 refine Ze h (fun _ h=>?_) fun _ h=>?_<;>try simp only [*,go_sem,seval]
 iterate 3 (cases h;try simp only [*,go_sem,seval])
 refine Ze h (fun _ h=>?_) fun _ h=>?_<;>try simp only [*,go_sem,seval]
 obtain ⟨p,c,h⟩:=Za h
 refine Zb (Qa c) ?_
 try simp only [*,go_sem,seval]
 iterate 2 refine Ze h (fun _ h=>?_) fun _ h=>?_<;>try simp only [*,go_sem,seval]
 iterate 3 (cases h;try simp only [*,go_sem,seval])
 refine Ze h (fun _ h=>?_) fun _ h=>?_<;>try simp only [*,go_sem,seval]
 obtain ⟨q,d,h⟩:=Za h
 refine Zb (QP d) ?_
 try simp only [*,go_sem,seval]
 refine Ze h (fun _ h=>?_) fun _ h=>?_<;>try simp only [*,go_sem,seval]
 obtain ⟨t,e,h⟩:=Za h
 refine Zb (QP e) ?_
 try simp only [*,go_sem,seval]
 refine Ze h (fun _ h=>?_) fun _ h=>?_<;>try simp only [*,go_sem,seval]
 obtain ⟨u,f,h⟩:=Za h
 refine Zb (QZ f) ?_
 iterate 3 (cases h;try simp only [*,go_sem,seval])
 refine Ze h (fun _ h=>?_) fun _ h=>?_<;>try simp only [*,go_sem,seval]
 obtain ⟨v,g,h⟩:=Za h
 refine Zb (QP g) ?_
 try simp only [*,go_sem,seval]
 refine Ze h (fun _ h=>?_) fun _ h=>?_<;>try simp only [*,go_sem,seval]
 obtain ⟨w,i,h⟩:=Za h
 refine Zb (QP i) ?_
 try simp only [*,go_sem,seval]
 refine Ze h (fun _ h=>?_) fun _ h=>?_<;>try simp only [*,go_sem,seval]
 obtain ⟨x,j,h⟩:=Za h
 refine Zb (QZ j) ?_
 iterate 3 (cases h;try simp only [*,go_sem,seval])
 refine Ze h (fun _ h=>?_) fun _ h=>?_<;>try simp only [*,go_sem,seval]
 obtain ⟨y,k,h⟩:=Za h
 refine Zb (QP k) ?_
 try simp only [*,go_sem,seval]
 refine Ze h (fun _ h=>?_) fun _ h=>?_<;>try simp only [*,go_sem,seval]
 obtain ⟨z,l,h⟩:=Za h
 refine Zb (QP l) ?_
 try simp only [*,go_sem,seval]
 refine Ze h (fun _ h=>?_) fun _ h=>?_<;>try simp only [*,go_sem,seval]
 obtain ⟨A,m,h⟩:=Za h
 refine Zb (QZ m) ?_
 iterate 4 (cases h;try simp only [*,go_sem,seval])
theorem Zd4 {p_0:Zv} {b_1:(List Zl)} {r:(Zc × Bool)} (h:Ql p_0 b_1=some r):Zn Tryz.prog J0 89 [(true,QQ p_0),(false,[.sl 192 2 (List.map Z6 b_1)])] [(true,[(false,.str r.1.rel),(false,.sl 9 1 (List.map Zu r.1.args))]),(false,[(false,.bool r.2)])]:=by
 refine fnk Tryz.func89 (by kernel_rfl) rfl (by kernel_rfl) (by kernel_rfl) ?_
 unfold Ql at h
 simp only [fnS,f89,Zo,go_sem,seval]
 obtain ⟨u,f,h⟩:=Za h
 refine Zb (Qa f) ?_
 try simp only [*,go_sem,seval]
 refine Ze h (fun _ h=>?_) fun _ h=>?_<;>try simp only [*,go_sem,seval]
 obtain ⟨v,g,h⟩:=Za h
 refine Zb (QF g) ?_
 try simp only [*,go_sem,seval]
 refine Ze h (fun _ h=>?_) fun _ h=>?_<;>try simp only [*,go_sem,seval]
 refine Zg h (fun i a st=>IV [(1,.p false [.c (.sl 192 2 (List.map Z6 b_1))]),(4,.bp 0 0),(6,.bp 1 0),(24,.p false [.c (.sl 9 1 (List.map Zu p_0.args))]),(25,.p false [.c (.int .i64 ((p_0.args.length:Nat):Int))]),(26,.p false [.c (.int .i64 ((i:Nat):Int))])] [.box 57 [.c (.str ⟨#[]⟩),.nil 9 1],.box 57 [.c (.str p_0.rel),.row 2],.row 9 1 (List.map Zu a) 2] st) [(true,224,1)] [16,224,320] (by decide) ?_ ?_ ?_
 simp only [*,go_sem,seval]
 rintro w x a ⟨sl,ob,n⟩ y b d k h l
 simp only [go_sem,seval,Zd] at d
 obtain ⟨⟨z,A,B,m,C,D⟩,E,F,G,hn⟩:=d
 subst hn
 have o:=WF.slotL k m (j:=0) rfl
 have H:=ZF b
 have I:=ZJ b
 have J:=Zi (ZE b) o
 try simp only [*,go_sem,seval]
 obtain ⟨K,q,h⟩:=Za h
 refine Zb (Zcp q) ?_
 try simp only [*,go_sem,seval]
 refine Ze h (fun _ h=>?_) fun _ h=>?_<;>try simp only [*,go_sem,seval]
 obtain ⟨t,h⟩:=Zx h
 try simp only [Nat.reduceLeDiff] at t
 try simp only [*,go_sem,seval]
 refine ⟨_,[],[0,1,291],(Option.some.inj h).symm,by decide,?_⟩
 try simp only [*,go_sem,seval]
 replace h:=Zs h l
 cases h
 try simp only [*,go_sem,seval]
 rintro a ⟨sl,ob,n⟩ e L h
 simp only [go_sem,seval,Zd] at e
 obtain ⟨⟨M,N,O,P,Q,R⟩,S,T,U,hn⟩:=e
 subst hn
 have V:=ZC (p_0.args.length)
 iterate 3 (cases h;try simp only [*,go_sem,seval])
theorem Zfg {r_0:Zf} {k_1:Int} {v_2:ByteArray} {r:Bool} (h:XB r_0 k_1 v_2=some r):Zn Tryz.prog J0 250 [(true,ZB r_0),(false,[.int .i64 k_1]),(false,[.str v_2])] [(false,[(false,.bool r)])]:=by
 refine fnk Tryz.func250 (by kernel_rfl) rfl (by kernel_rfl) (by kernel_rfl) ?_
 unfold XB at h
 simp only [fnS,f250,Zo,go_sem,seval]
 refine Zg h (fun i _ st=>IV [(1,.p false [.c (.int .i64 k_1)]),(2,.p false [.c (.str v_2)]),(3,.bp 0 0),(12,.p false [.c (.sl 130 5 (List.map ZM r_0.cond))]),(13,.p false [.c (.int .i64 ((r_0.cond.length:Nat):Int))]),(14,.p false [.c (.int .i64 ((i:Nat):Int))])] [.box 82 [.c (.str r_0.name),.c (.int .i64 r_0.priority),.c (.sl 130 5 (List.map ZM r_0.cond)),.c (.sl 134 3 (List.map ZA r_0.thn))]] st) [] [0] (by decide) ?_ ?_ ?_
 simp only [*,go_sem,seval]
 rintro z A ⟨⟩ ⟨sl,ob,n⟩ B a d k h l
 simp only [go_sem,seval,Zd] at d
 obtain ⟨⟨C,D,E,m,F,G⟩,H,hn⟩:=d
 subst hn
 have o:=WF.slotL k m (j:=0) rfl
 have I:=ZF a
 have J:=ZJ a
 have K:=Zi (ZE a) o
 try simp only [*,go_sem,seval]
 refine Ze h (fun _ h=>?_) fun _ h=>?_<;>try simp only [*,go_sem,seval]
 obtain ⟨L,q,h⟩:=Za h
 refine Zb (ZbT q) ?_
 try simp only [*,go_sem,seval]
 obtain ⟨M,t,h⟩:=Za h
 refine Zb (Q5 t) ?_
 try simp only [*,go_sem,seval]
 refine Ze h (fun _ h=>?_) fun _ h=>?_<;>try simp only [*,go_sem,seval]
 replace h:=Zs h l
 cases h
 try simp only [*,go_sem,seval]
 refine ⟨_,[],[0],(Option.some.inj h).symm,by decide,?_⟩
 try simp only [*,go_sem,seval]
 refine ⟨_,[],[0],(Option.some.inj h).symm,by decide,?_⟩
 try simp only [*,go_sem,seval]
 rintro ⟨⟩ ⟨sl,ob,n⟩ e N h
 simp only [go_sem,seval,Zd] at e
 obtain ⟨⟨O,P,Q,R,S,T⟩,U,hn⟩:=e
 subst hn
 have V:=ZC (r_0.cond.length)
 try simp only [*,go_sem,seval]
 refine Zg h (fun i _ st=>IV [(2,.p false [.c (.str v_2)]),(30,.p false [.c (.sl 134 3 (List.map ZA r_0.thn))]),(31,.p false [.c (.int .i64 ((r_0.thn.length:Nat):Int))]),(32,.p false [.c (.int .i64 ((i:Nat):Int))])] [] st) [] [] (by decide) ?_ ?_ ?_
 simp only [*,go_sem,seval]
 rintro W X ⟨⟩ ⟨sl,ob,n⟩ Y b f u h v
 simp only [go_sem,seval,Zd] at f
 obtain ⟨⟨Z,w,aa,ab⟩,hn⟩:=f
 subst hn
 have x:=WF.slotL u w (j:=0) rfl
 have ac:=ZF b
 have ad:=ZJ b
 have ae:=Zi (ZE b) x
 try simp only [*,go_sem,seval]
 obtain ⟨af,y,h⟩:=Za h
 refine Zb (Q5 y) ?_
 try simp only [*,go_sem,seval]
 refine Ze h (fun _ h=>?_) fun _ h=>?_<;>try simp only [*,go_sem,seval]
 replace h:=Zs h v
 cases h
 try simp only [*,go_sem,seval]
 refine ⟨_,[],[],(Option.some.inj h).symm,by decide,?_⟩
 try simp only [*,go_sem,seval]
 rintro ⟨⟩ ⟨sl,ob,n⟩ g ag h
 simp only [go_sem,seval,Zd] at g
 obtain ⟨⟨ah,ai,aj,ak⟩,hn⟩:=g
 subst hn
 have al:=ZC (r_0.thn.length)
 cases h
 try simp only [*,go_sem,seval]
theorem ZlN {a_0:Zr} {r:Bool} (h:ZcH a_0=some r):Zn Tryz.prog J0 228 [(true,ZA a_0)] [(false,[(false,.bool r)])]:=by
 refine fnk Tryz.func228 (by kernel_rfl) rfl (by kernel_rfl) (by kernel_rfl) ?_
 unfold ZcH at h
 simp only [fnS,f228,Zo,go_sem,seval]
 refine Ze h (fun _ h=>?_) fun _ h=>?_<;>try simp only [*,go_sem,seval]
 obtain ⟨d,a,h⟩:=Za h
 refine Zb (Qa a) ?_
 cases h
 try simp only [*,go_sem,seval]
 refine Ze h (fun _ h=>?_) fun _ h=>?_<;>try simp only [*,go_sem,seval]
 obtain ⟨e,b,h⟩:=Za h
 refine Zb (Qa b) ?_
 cases h
 try simp only [*,go_sem,seval]
 refine Ze h (fun _ h=>?_) fun _ h=>?_<;>try simp only [*,go_sem,seval]
 obtain ⟨f,c,h⟩:=Za h
 refine Zb (QZ c) ?_
 iterate 2 (cases h;try simp only [*,go_sem,seval])
theorem ZjC {l_0:(List Zm)} {r:(List ByteArray)} (h:Zbj l_0=some r):Zn Tryz.prog J0 230 [(false,[.sl 130 5 (List.map ZM l_0)])] [(false,[(false,.sl 9 1 (List.map Zu r))])]:=by
 refine fnk Tryz.func230 (by kernel_rfl) rfl (by kernel_rfl) (by kernel_rfl) ?_
 unfold Zbj at h
 simp only [fnS,f230,Zo,go_sem,seval]
 refine Zg h (fun i a st=>IV [(3,.p false [.row 0]),(6,.p false [.c (.sl 130 5 (List.map ZM l_0))]),(7,.p false [.c (.int .i64 ((l_0.length:Nat):Int))]),(8,.p false [.c (.int .i64 ((i:Nat):Int))])] [.row 9 1 (List.map Zu a) 2] st) [(false,3,0)] [80] (by decide) ?_ ?_ ?_
 simp only [*,go_sem,seval]
 rintro o q a ⟨sl,ob,n⟩ t b d f h u
 simp only [go_sem,seval,Zd] at d
 obtain ⟨⟨v,g,w,x⟩,y,hn⟩:=d
 subst hn
 have k:=WF.slotL f g (j:=0) rfl
 have z:=ZF b
 have A:=ZJ b
 have B:=Zi (ZE b) k
 try simp only [*,go_sem,seval]
 obtain ⟨C,l,h⟩:=Za h
 refine Zb (ZbT l) ?_
 obtain ⟨m,h⟩:=Zx h
 try simp only [Nat.reduceLeDiff] at m
 try simp only [*,go_sem,seval]
 refine ⟨_,[],[129],(Option.some.inj h).symm,by decide,?_⟩
 try simp only [*,go_sem,seval]
 rintro a ⟨sl,ob,n⟩ e D h
 simp only [go_sem,seval,Zd] at e
 obtain ⟨⟨E,F,G,H⟩,I,hn⟩:=e
 subst hn
 have J:=ZC (l_0.length)
 cases h
 try simp only [*,go_sem,seval]
end Go.Proofs.YtojnhepgnbhaaaaGreatDoor
namespace Go.Proofs.YtojnhepgnbhaaaaGreatDoor
open Go.Proofs.Tryz
set_option linter.unusedSimpArgs false
set_option linter.unusedVariables false
set_option maxRecDepth 1000000
set_option maxHeartbeats 4000000
theorem ZlL {l_0:(List Zc)} {r:Bool} (h:ZcU l_0=some r):Zn Tryz.prog J0 133 [(false,[.sl 57 2 (List.map Zq l_0)])] [(false,[(false,.bool r)])]:=by
 refine fnk Tryz.func133 (by kernel_rfl) rfl (by kernel_rfl) (by kernel_rfl) ?_
 unfold ZcU at h
 simp only [fnS,f133,Zo,go_sem,seval]
 refine Ze h (fun _ h=>?_) fun _ h=>?_<;>try simp only [*,go_sem,seval]
 cases h
 try simp only [*,go_sem,seval]
 refine Zg h (fun i _ st=>IV [(0,.p false [.c (.sl 57 2 (List.map Zq l_0))]),(8,.p false [.c (.sl 57 2 (List.map Zq l_0))]),(9,.p false [.c (.int .i64 ((l_0.length:Nat):Int))]),(10,.p false [.c (.int .i64 ((i:Nat):Int))])] [] st) [] [] (by decide) ?_ ?_ ?_
 simp only [*,go_sem,seval]
 rintro o q ⟨⟩ ⟨sl,ob,n⟩ t a b f h d
 simp only [go_sem,seval,Zd] at b
 obtain ⟨⟨g,u,v,w⟩,hn⟩:=b
 subst hn
 have k:=WF.slotL f g (j:=0) rfl
 have x:=ZF a
 have y:=ZJ a
 have z:=Zi (ZE a) k
 try simp only [*,go_sem,seval]
 obtain ⟨A,l,h⟩:=Za h
 refine Zb (Zjc l) ?_
 try simp only [*,go_sem,seval]
 iterate 2 refine Ze h (fun _ h=>?_) fun _ h=>?_<;>try simp only [*,go_sem,seval]
 obtain ⟨B,C,D,E,h⟩:=Zgn h
 try simp only [*,go_sem,seval]
 obtain ⟨F,m,h⟩:=Za h
 refine Zb (ZdF m) ?_
 try simp only [*,go_sem,seval]
 refine Ze h (fun _ h=>?_) fun _ h=>?_<;>try simp only [*,go_sem,seval]
 replace h:=Zs h d
 cases h
 try simp only [*,go_sem,seval]
 refine ⟨_,[],[],(Option.some.inj h).symm,by decide,?_⟩
 try simp only [*,go_sem,seval]
 refine ⟨_,[],[],(Option.some.inj h).symm,by decide,?_⟩
 try simp only [*,go_sem,seval]
 replace h:=Zs h d
 cases h
 try simp only [*,go_sem,seval]
 rintro ⟨⟩ ⟨sl,ob,n⟩ e G h
 simp only [go_sem,seval,Zd] at e
 obtain ⟨⟨H,I,J,K⟩,hn⟩:=e
 subst hn
 have L:=ZC (l_0.length)
 cases h
 try simp only [*,go_sem,seval]
theorem ZnP {a:(List Zc)} {f_1:Zc} {r:(List Zc)} (h:X2 a f_1=some r):Zn Tryz.prog J0 135 [(false,[.sl 57 2 (List.map Zq a)]),(true,Zq f_1)] [(false,[(false,.sl 57 2 (List.map Zq r))])]:=by
 refine fnk Tryz.func135 (by kernel_rfl) rfl (by kernel_rfl) (by kernel_rfl) ?_
 unfold X2 at h
 simp only [fnS,f135,Zo,go_sem,seval]
 refine Zg h (fun i s st=>match s with | (b,d)=>IV [(3,.bp 0 0),(5,.p false [.row 1]),(6,.p false [.c (.bool d)]),(9,.p false [.c (.sl 57 2 (List.map Zq a))]),(10,.p false [.c (.int .i64 ((a.length:Nat):Int))]),(11,.p false [.c (.int .i64 ((i:Nat):Int))])] [.box 57 [.c (.str f_1.rel),.c (.sl 9 1 (List.map Zu f_1.args))],.row 57 2 (List.map Zq b) 2] st) [(false,5,0)] [0,112] (by decide) ?_ ?_ ?_
 simp only [*,go_sem,seval]
 rintro D E ⟨b,d⟩ ⟨sl,ob,n⟩ F e f l h G
 simp only [go_sem,seval,Zd] at f
 obtain ⟨⟨H,I,J,m,K,L⟩,M,N,hn⟩:=f
 subst hn
 have o:=WF.slotL l m (j:=0) rfl
 have O:=ZF e
 have P:=ZJ e
 have Q:=Zi (ZE e) o
 try simp only [*,go_sem,seval]
 refine Ze h (fun _ h=>?_) fun _ h=>?_<;>try simp only [*,go_sem,seval]
 obtain ⟨R,q,h⟩:=Za h
 refine Zb (Xf q) ?_
 obtain ⟨t,h⟩:=Zx h
 try simp only [Nat.reduceLeDiff] at t
 try simp only [*,go_sem,seval]
 refine ⟨_,[],[0,274],(Option.some.inj h).symm,by decide,?_⟩
 try simp only [*,go_sem,seval]
 obtain ⟨S,u,h⟩:=Za h
 refine Zb (ZdF u) ?_
 try simp only [*,go_sem,seval]
 refine Ze h (fun _ h=>?_) fun _ h=>?_<;>try simp only [*,go_sem,seval]
 obtain ⟨T,v,h⟩:=Za h
 refine Zb (Xf v) ?_
 obtain ⟨w,h⟩:=Zx h
 try simp only [Nat.reduceLeDiff] at w
 try simp only [*,go_sem,seval]
 obtain ⟨U,x,h⟩:=Za h
 refine Zb (Xf x) ?_
 obtain ⟨y,h⟩:=Zx h
 try simp only [Nat.reduceLeDiff] at y
 try simp only [*,go_sem,seval]
 refine ⟨_,[],[0,386],(Option.some.inj h).symm,by decide,?_⟩
 try simp only [*,go_sem,seval]
 obtain ⟨V,z,h⟩:=Za h
 refine Zb (Xf z) ?_
 obtain ⟨A,h⟩:=Zx h
 try simp only [Nat.reduceLeDiff] at A
 try simp only [*,go_sem,seval]
 refine ⟨_,[],[0,274],(Option.some.inj h).symm,by decide,?_⟩
 try simp only [*,go_sem,seval]
 rintro ⟨b,d⟩ ⟨sl,ob,n⟩ g W h
 simp only [go_sem,seval,Zd] at g
 obtain ⟨⟨X,Y,Z,aa,ab,ac⟩,ad,ae,hn⟩:=g
 subst hn
 have af:=ZC (a.length)
 try simp only [*,go_sem,seval]
 refine Ze h (fun _ h=>?_) fun _ h=>?_<;>try simp only [*,go_sem,seval]
 cases h
 try simp only [*,go_sem,seval]
 obtain ⟨ag,B,h⟩:=Za h
 refine Zb (Xf B) ?_
 obtain ⟨C,h⟩:=Zx h
 try simp only [Nat.reduceLeDiff] at C
 cases h
 try simp only [*,go_sem,seval]
theorem ZBR {append_0:ZK} {r:(List Int)} (h:ZAz append_0=some r):Zn Tryz.prog J0 186 [(true,Zff append_0)] [(false,[(false,.sl 3 1 (List.map Qv r))])]:=by
 refine fnk Tryz.func186 (by kernel_rfl) rfl (by kernel_rfl) (by kernel_rfl) ?_
 unfold ZAz at h
 simp only [fnS,f186,Zo,go_sem,seval]
 obtain ⟨v1,e1,h⟩:=Za h
 refine Zb (by have hh:=ZAE e1;first|exact hh|(simp only [*,go_sem] at hh;exact hh)) ?_
 try simp only [*,go_sem,seval]
 refine Ze h (fun _ h=>?_) fun _ h=>?_<;>try simp only [*,go_sem,seval]
 ·obtain ⟨p3,h⟩:=Zx h
  try simp only [*,go_sem,seval]
  refine Zeh h (fun s st=>match s with | (row_116,u_117)=>IV [(1,.bp 0 0),(3,.p false [.row 1]),(4,.p false [.c (.int .i64 u_117)])] [.box 29 [.c (.int .i64 append_0.nodes),.c (.sl 114 3 (List.map Yn append_0.reasons))],.row 3 1 (List.map Qv row_116) 2] st) [] [0,112] (by decide) ?_ ?_
  ·simp only [*,go_sem,seval]
  ·rintro ⟨row_116,u_117⟩ ⟨sl,ob,n⟩ y4 hI5 hW6 h hy4
   simp only [go_sem,seval,Zd] at hI5
   obtain ⟨⟨g7_1,g7_3,g7_4⟩,og7_0,og7_1,hn⟩:=hI5
   subst hn
   try simp only [*,go_sem,seval]
   refine Ze h (fun _ h=>?_) fun _ h=>?_<;>try simp only [*,go_sem,seval]
   ·refine Zg h (fun i row_155 st=>IV [(1,.bp 0 0),(3,.p false [.row 1]),(4,.p false [.c (.int .i64 u_117)]),(5,.p false [.c (.int .i64 ((i:Nat):Int))])] [.box 29 [.c (.int .i64 append_0.nodes),.c (.sl 114 3 (List.map Yn append_0.reasons))],.row 3 1 (List.map Qv row_155) 2] st) [] [0,1] (by decide) ?_ ?_ ?_
    ·simp only [*,go_sem,seval]
    ·rintro i194 x195 row_155 ⟨sl,ob,n⟩ y9 hx10 hI11 hW12 h hy9
     simp only [go_sem,seval,Zd] at hI11
     obtain ⟨⟨g13_1,g13_3,g13_4,g13_5⟩,og13_0,og13_1,hn⟩:=hI11
     subst hn
     have hlhx10:=WF.boxL hW12 og13_0 (j:=1) rfl
     have q14:=ZF hx10
     have q15:=ZJ hx10
     have q16:=Zi (ZE hx10) hlhx10
     try simp only [*,go_sem,seval]
     refine Zg h (fun i row_199 st=>IV [(1,.bp 0 0),(3,.p false [.row 1]),(4,.p false [.c (.int .i64 u_117)]),(5,.p false [.c (.int .i64 ((i194:Nat):Int))]),(6,.bp 2 0),(7,.p false [.c (.int .i64 ((i:Nat):Int))])] [.box 29 [.c (.int .i64 append_0.nodes),.c (.sl 114 3 (List.map Yn append_0.reasons))],.row 3 1 (List.map Qv row_199) 2,.box 114 [.c (.int .i64 x195.for_),.c (.sl 3 1 (List.map Qv x195.inn)),.c (.sl 3 1 (List.map Qv x195.outs))]] st) [] [0,1,162] (by decide) ?_ ?_ ?_
     ·simp only [*,go_sem,seval]
     ·rintro i216 x217 row_199 ⟨sl,ob,n⟩ y17 hx18 hI19 hW20 h hy17
      simp only [go_sem,seval,Zd] at hI19
      obtain ⟨⟨g21_1,g21_3,g21_4,g21_5,g21_6,g21_7⟩,og21_0,og21_1,og21_2,hn⟩:=hI19
      subst hn
      have hlhx18:=WF.boxL hW20 og21_2 (j:=1) rfl
      have q22:=ZF hx18
      have q23:=ZJ hx18
      have q24:=Zi (ZE hx18) hlhx18
      obtain ⟨p25,h⟩:=Zx h
      obtain ⟨x218,e26,h⟩:=Za h
      obtain ⟨p27,h⟩:=Zx h
      obtain ⟨x219,e28,h⟩:=Za h
      try simp only [*,go_sem,seval]
      refine ⟨_,[],[0,1,2],(Option.some.inj h).symm,by decide,?_⟩
      try simp only [*,go_sem,seval]
     ·rintro row_199 ⟨sl,ob,n⟩ hI29 hW30 h
      simp only [go_sem,seval,Zd] at hI29
      obtain ⟨⟨g31_1,g31_3,g31_4,g31_5,g31_6,g31_7⟩,og31_0,og31_1,og31_2,hn⟩:=hI29
      subst hn
      have q32:=ZC (x195.inn.length)
      try simp only [*,go_sem,seval]
      refine Zg h (fun i row_223 st=>IV [(1,.bp 0 0),(3,.p false [.row 1]),(4,.p false [.c (.int .i64 u_117)]),(5,.p false [.c (.int .i64 ((i194:Nat):Int))]),(6,.bp 2 0),(8,.p false [.c (.int .i64 ((i:Nat):Int))])] [.box 29 [.c (.int .i64 append_0.nodes),.c (.sl 114 3 (List.map Yn append_0.reasons))],.row 3 1 (List.map Qv row_223) 2,.box 114 [.c (.int .i64 x195.for_),.c (.sl 3 1 (List.map Qv x195.inn)),.c (.sl 3 1 (List.map Qv x195.outs))]] st) [] [0,1,2] (by decide) ?_ ?_ ?_
      ·simp only [*,go_sem,seval]
      ·rintro i228 x229 row_223 ⟨sl,ob,n⟩ y33 hx34 hI35 hW36 h hy33
       simp only [go_sem,seval,Zd] at hI35
       obtain ⟨⟨g37_1,g37_3,g37_4,g37_5,g37_6,g37_8⟩,og37_0,og37_1,og37_2,hn⟩:=hI35
       subst hn
       have hlhx34:=WF.boxL hW36 og37_2 (j:=2) rfl
       have q38:=ZF hx34
       have q39:=ZJ hx34
       have q40:=Zi (ZE hx34) hlhx34
       obtain ⟨p41,h⟩:=Zx h
       obtain ⟨x230,e42,h⟩:=Za h
       obtain ⟨p43,h⟩:=Zx h
       obtain ⟨x231,e44,h⟩:=Za h
       try simp only [*,go_sem,seval]
       refine ⟨_,[],[0,1,2],(Option.some.inj h).symm,by decide,?_⟩
       try simp only [*,go_sem,seval]
      ·rintro row_223 ⟨sl,ob,n⟩ hI45 hW46 h
       simp only [go_sem,seval,Zd] at hI45
       obtain ⟨⟨g47_1,g47_3,g47_4,g47_5,g47_6,g47_8⟩,og47_0,og47_1,og47_2,hn⟩:=hI45
       subst hn
       have q48:=ZC (x195.outs.length)
       try simp only [*,go_sem,seval]
       refine ⟨_,[],[0,1],(Option.some.inj h).symm,by decide,?_⟩
       try simp only [*,go_sem,seval]
    ·rintro row_155 ⟨sl,ob,n⟩ hI49 hW50 h
     simp only [go_sem,seval,Zd] at hI49
     obtain ⟨⟨g51_1,g51_3,g51_4,g51_5⟩,og51_0,og51_1,hn⟩:=hI49
     subst hn
     have q52:=ZC (append_0.reasons.length)
     try simp only [*,go_sem,seval]
     refine ⟨_,[],[0,1],(Option.some.inj h).symm,by decide,?_⟩
     try simp only [*,go_sem,seval]
   ·replace h:=Zs h hy4
    cases h
    try simp only [*,go_sem,seval]
 ·cases h
  try simp only [*,go_sem,seval]
end Go.Proofs.YtojnhepgnbhaaaaGreatDoor
namespace Go.Proofs.YtojnhepgnbhaaaaGreatDoor
open Go.Proofs.Tryz
set_option linter.unusedSimpArgs false
set_option linter.unusedVariables false
set_option maxRecDepth 1000000
set_option maxHeartbeats 4000000
theorem Zfh {append_0:Zv} {String_1:Zc} {a_2:(List Zl)} {r:((List Zl) × Bool)} (h:ZaO append_0 String_1 a_2=some r):Zn Tryz.prog J0 103 [(true,QQ append_0),(true,Zq String_1),(false,[.sl 192 2 (List.map Z6 a_2)])] [(false,[(false,.sl 192 2 (List.map Z6 r.1))]),(false,[(false,.bool r.2)])]:=by
 refine fnk Tryz.func103 (by kernel_rfl) rfl (by kernel_rfl) (by kernel_rfl) ?_
 unfold ZaO at h
 simp only [fnS,f103,Zo,go_sem,seval]
 obtain ⟨y,g,h⟩:=Za h
 refine Zb (X3 g) ?_
 try simp only [*,go_sem,seval]
 refine Ze h (fun _ h=>?_) fun _ h=>?_<;>try simp only [*,go_sem,seval]
 obtain ⟨z,k,h⟩:=Za h
 refine Zb (Zjl k) ?_
 try simp only [*,go_sem,seval]
 refine Ze h (fun _ h=>?_) fun _ h=>?_<;>try simp only [*,go_sem,seval]
 obtain ⟨A,l,h⟩:=Za h
 refine Zb (QM l) ?_
 try simp only [*,go_sem,seval]
 iterate 3 refine Ze h (fun _ h=>?_) fun _ h=>?_<;>try simp only [*,go_sem,seval]
 cases h
 try simp only [*,go_sem,seval]
 obtain ⟨B,m,h⟩:=Za h
 refine Zb (Zf4 m) ?_
 try simp only [*,go_sem,seval]
 refine Zg h (fun i a st=>IV [(3,.bp 0 0),(4,.bp 1 0),(8,.p false [.row 2]),(9,.p false [.c (.int .i64 ((i:Nat):Int))])] [.box 49 [.c (.str append_0.rel),.c (.sl 9 1 (List.map Zu append_0.args))],.box 57 [.c (.str String_1.rel),.c (.sl 9 1 (List.map Zu String_1.args))],.row 192 2 (List.map Z6 a) 2] st) [] [0,16,544] (by decide) ?_ ?_ ?_
 simp only [*,go_sem,seval]
 rintro C D a ⟨sl,ob,n⟩ E b d o h e
 simp only [go_sem,seval,Zd] at d
 obtain ⟨⟨F,G,H,I⟩,q,J,K,hn⟩:=d
 subst hn
 have t:=WF.boxL o q (j:=1) rfl
 have L:=ZF b
 have M:=ZJ b
 have N:=Zi (ZE b) t
 try simp only [*,go_sem,seval]
 obtain ⟨O,u,h⟩:=Za h
 refine Zb (Qc u) ?_
 try simp only [*,go_sem,seval]
 refine Ze h (fun _ h=>?_) fun _ h=>?_<;>try simp only [*,go_sem,seval]
 obtain ⟨P,Q,R,v,h⟩:=Zgn h
 simp only [Int.toNat_natCast] at v
 try simp only [*,go_sem,seval]
 refine Ze h (fun _ h=>?_) fun _ h=>?_<;>try simp only [*,go_sem,seval]
 refine ⟨_,[],[0,1,2],(Option.some.inj h).symm,by decide,?_⟩
 try simp only [*,go_sem,seval]
 replace h:=Zs h e
 cases h
 try simp only [*,go_sem,seval]
 obtain ⟨S,T,U,w,h⟩:=Zgn h
 simp only [Int.toNat_natCast] at w
 try simp only [*,go_sem,seval]
 obtain ⟨V,x,h⟩:=Za h
 refine Zb (Zpe x) ?_
 try simp only [*,go_sem,seval]
 refine Ze h (fun _ h=>?_) fun _ h=>?_<;>try simp only [*,go_sem,seval]
 refine ⟨_,[],[0,1,355],(Option.some.inj h).symm,by decide,?_⟩
 try simp only [*,go_sem,seval]
 replace h:=Zs h e
 cases h
 try simp only [*,go_sem,seval]
 rintro a ⟨sl,ob,n⟩ f W h
 simp only [go_sem,seval,Zd] at f
 obtain ⟨⟨X,Y,Z,aa⟩,ab,ac,ad,hn⟩:=f
 subst hn
 have ae:=ZC (append_0.args.length)
 iterate 5 (cases h;try simp only [*,go_sem,seval])
theorem ZfK {x_0:Zm} {r:Bool} (h:Zc9 x_0=some r):Zn Tryz.prog J0 202 [(true,ZM x_0)] [(false,[(false,.bool r)])]:=by
 refine fnk Tryz.func202 (by kernel_rfl) rfl (by kernel_rfl) (by kernel_rfl) ?_
 unfold Zc9 at h
 have a:Zcf ⟨#[]⟩=true:=by decide
 simp only [fnS,f202,Zo,go_sem,seval,a]
 refine Ze h (fun _ h=>?_) fun _ h=>?_<;>try simp only [*,go_sem,seval]
 obtain ⟨k,b,h⟩:=Za h
 refine Zb (X3 b) ?_
 try simp only [*,go_sem,seval]
 iterate 2 refine Ze h (fun _ h=>?_) fun _ h=>?_<;>try simp only [*,go_sem,seval]
 iterate 3 (cases h;try simp only [*,go_sem,seval])
 refine Ze h (fun _ h=>?_) fun _ h=>?_<;>try simp only [*,go_sem,seval]
 obtain ⟨l,c,h⟩:=Za h
 refine Zb (X3 c) ?_
 try simp only [*,go_sem,seval]
 iterate 2 refine Ze h (fun _ h=>?_) fun _ h=>?_<;>try simp only [*,go_sem,seval]
 iterate 3 (cases h;try simp only [*,go_sem,seval])
 iterate 3 refine Ze h (fun _ h=>?_) fun _ h=>?_<;>try simp only [*,go_sem,seval]
 obtain ⟨m,d,h⟩:=Za h
 refine Zb (QB d) ?_
 try simp only [*,go_sem,seval]
 refine Ze h (fun _ h=>?_) fun _ h=>?_<;>try simp only [*,go_sem,seval]
 obtain ⟨o,e,h⟩:=Za h
 refine Zb (QB e) ?_
 iterate 4 (cases h;try simp only [*,go_sem,seval])
 iterate 3 refine Ze h (fun _ h=>?_) fun _ h=>?_<;>try simp only [*,go_sem,seval]
 obtain ⟨p,f,h⟩:=Za h
 refine Zb (QB f) ?_
 try simp only [*,go_sem,seval]
 refine Ze h (fun _ h=>?_) fun _ h=>?_<;>try simp only [*,go_sem,seval]
 obtain ⟨q,g,h⟩:=Za h
 refine Zb (QB g) ?_
 iterate 4 (cases h;try simp only [*,go_sem,seval])
 iterate 3 refine Ze h (fun _ h=>?_) fun _ h=>?_<;>try simp only [*,go_sem,seval]
 obtain ⟨t,i,h⟩:=Za h
 refine Zb (QB i) ?_
 try simp only [*,go_sem,seval]
 refine Ze h (fun _ h=>?_) fun _ h=>?_<;>try simp only [*,go_sem,seval]
 obtain ⟨u,j,h⟩:=Za h
 refine Zb (QB j) ?_
 iterate 5 (cases h;try simp only [*,go_sem,seval])
theorem ZdZ {p_0:Zv} {b_1:(List Zl)} {r:(Zc × Bool)} (h:Xi p_0 b_1=some r):Zn Tryz.prog J0 116 [(true,QQ p_0),(false,[.sl 192 2 (List.map Z6 b_1)])] [(true,[(false,.str r.1.rel),(false,.sl 9 1 (List.map Zu r.1.args))]),(false,[(false,.bool r.2)])]:=by
 refine fnk Tryz.func116 (by kernel_rfl) rfl (by kernel_rfl) (by kernel_rfl) ?_
 unfold Xi at h
 simp only [fnS,f116,Zo,go_sem,seval]
 obtain ⟨u,f,h⟩:=Za h
 refine Zb (X3 f) ?_
 try simp only [*,go_sem,seval]
 refine Ze h (fun _ h=>?_) fun _ h=>?_<;>try simp only [*,go_sem,seval]
 obtain ⟨v,g,h⟩:=Za h
 refine Zb (QM g) ?_
 try simp only [*,go_sem,seval]
 refine Ze h (fun _ h=>?_) fun _ h=>?_<;>try simp only [*,go_sem,seval]
 refine Zg h (fun i a st=>IV [(1,.p false [.c (.sl 192 2 (List.map Z6 b_1))]),(2,.bp 0 0),(4,.bp 1 0),(6,.bp 2 0),(7,.p false [.c (.int .i64 ((i:Nat):Int))])] [.box 49 [.c (.str p_0.rel),.c (.sl 9 1 (List.map Zu p_0.args))],.box 57 [.c (.str ⟨#[]⟩),.nil 9 1],.box 57 [.c (.str p_0.rel),.row 3],.row 9 1 (List.map Zu a) 2] st) [(true,224,1)] [0,16,224,272] (by decide) ?_ ?_ ?_
 simp only [*,go_sem,seval]
 rintro w x a ⟨sl,ob,n⟩ y b d k h l
 simp only [go_sem,seval,Zd] at d
 obtain ⟨⟨z,A,B,C,D⟩,m,E,F,G,hn⟩:=d
 subst hn
 have o:=WF.boxL k m (j:=1) rfl
 have H:=ZF b
 have I:=ZJ b
 have J:=Zi (ZE b) o
 try simp only [*,go_sem,seval]
 obtain ⟨K,q,h⟩:=Za h
 refine Zb (Zcl q) ?_
 try simp only [*,go_sem,seval]
 refine Ze h (fun _ h=>?_) fun _ h=>?_<;>try simp only [*,go_sem,seval]
 obtain ⟨t,h⟩:=Zx h
 try simp only [Nat.reduceLeDiff] at t
 try simp only [*,go_sem,seval]
 refine ⟨_,[],[0,1,2,372],(Option.some.inj h).symm,by decide,?_⟩
 try simp only [*,go_sem,seval]
 replace h:=Zs h l
 cases h
 try simp only [*,go_sem,seval]
 rintro a ⟨sl,ob,n⟩ e L h
 simp only [go_sem,seval,Zd] at e
 obtain ⟨⟨M,N,O,P,Q⟩,R,S,T,U,hn⟩:=e
 subst hn
 have V:=ZC (p_0.args.length)
 iterate 3 (cases h;try simp only [*,go_sem,seval])
theorem Zea {r_0:Zf} {i_1:Int} {v_2:ByteArray} {r:Bool} (h:XS r_0 i_1 v_2=some r):Zn Tryz.prog J0 223 [(true,ZB r_0),(false,[.int .i64 i_1]),(false,[.str v_2])] [(false,[(false,.bool r)])]:=by
 refine fnk Tryz.func223 (by kernel_rfl) rfl (by kernel_rfl) (by kernel_rfl) ?_
 unfold XS at h
 simp only [fnS,f223,Zo,go_sem,seval]
 refine Zg h (fun i _ st=>IV [(1,.p false [.c (.int .i64 i_1)]),(2,.p false [.c (.str v_2)]),(3,.bp 0 0),(7,.p false [.c (.int .i64 ((i:Nat):Int))])] [.box 82 [.c (.str r_0.name),.c (.int .i64 r_0.priority),.c (.sl 130 5 (List.map ZM r_0.cond)),.c (.sl 134 3 (List.map ZA r_0.thn))]] st) [] [0] (by decide) ?_ ?_ ?_
 simp only [*,go_sem,seval]
 rintro A B ⟨⟩ ⟨sl,ob,n⟩ C a d k h l
 simp only [go_sem,seval,Zd] at d
 obtain ⟨⟨D,E,F,G⟩,m,hn⟩:=d
 subst hn
 have o:=WF.boxL k m (j:=2) rfl
 have H:=ZF a
 have I:=ZJ a
 have J:=Zi (ZE a) o
 try simp only [*,go_sem,seval]
 refine Ze h (fun _ h=>?_) fun _ h=>?_<;>try simp only [*,go_sem,seval]
 obtain ⟨K,q,h⟩:=Za h
 refine Zb (Zae q) ?_
 try simp only [*,go_sem,seval]
 obtain ⟨L,t,h⟩:=Za h
 refine Zb (YG t) ?_
 try simp only [*,go_sem,seval]
 refine Ze h (fun _ h=>?_) fun _ h=>?_<;>try simp only [*,go_sem,seval]
 replace h:=Zs h l
 cases h
 try simp only [*,go_sem,seval]
 refine ⟨_,[],[0],(Option.some.inj h).symm,by decide,?_⟩
 try simp only [*,go_sem,seval]
 refine ⟨_,[],[0],(Option.some.inj h).symm,by decide,?_⟩
 try simp only [*,go_sem,seval]
 rintro ⟨⟩ ⟨sl,ob,n⟩ e M h
 simp only [go_sem,seval,Zd] at e
 obtain ⟨⟨N,O,P,Q⟩,R,hn⟩:=e
 subst hn
 have S:=ZC (r_0.cond.length)
 try simp only [*,go_sem,seval]
 refine Zg h (fun i _ st=>IV [(2,.p false [.c (.str v_2)]),(3,.bp 0 0),(8,.p false [.c (.int .i64 ((i:Nat):Int))])] [.box 82 [.c (.str r_0.name),.c (.int .i64 r_0.priority),.c (.sl 130 5 (List.map ZM r_0.cond)),.c (.sl 134 3 (List.map ZA r_0.thn))]] st) [] [0] (by decide) ?_ ?_ ?_
 simp only [*,go_sem,seval]
 rintro T U ⟨⟩ ⟨sl,ob,n⟩ V b f u h v
 simp only [go_sem,seval,Zd] at f
 obtain ⟨⟨W,X,Y⟩,w,hn⟩:=f
 subst hn
 have x:=WF.boxL u w (j:=3) rfl
 have Z:=ZF b
 have aa:=ZJ b
 have ab:=Zi (ZE b) x
 try simp only [*,go_sem,seval]
 obtain ⟨ac,y,h⟩:=Za h
 refine Zb (Zb1 y) ?_
 try simp only [*,go_sem,seval]
 obtain ⟨ad,z,h⟩:=Za h
 refine Zb (YG z) ?_
 try simp only [*,go_sem,seval]
 refine Ze h (fun _ h=>?_) fun _ h=>?_<;>try simp only [*,go_sem,seval]
 replace h:=Zs h v
 cases h
 try simp only [*,go_sem,seval]
 refine ⟨_,[],[0],(Option.some.inj h).symm,by decide,?_⟩
 try simp only [*,go_sem,seval]
 rintro ⟨⟩ ⟨sl,ob,n⟩ g ae h
 simp only [go_sem,seval,Zd] at g
 obtain ⟨⟨af,ag,ah⟩,ai,hn⟩:=g
 subst hn
 have aj:=ZC (r_0.thn.length)
 cases h
 try simp only [*,go_sem,seval]
theorem Zl9 {a_0:Zr} {r:Bool} (h:Zdm a_0=some r):Zn Tryz.prog J0 224 [(true,ZA a_0)] [(false,[(false,.bool r)])]:=by
 refine fnk Tryz.func224 (by kernel_rfl) rfl (by kernel_rfl) (by kernel_rfl) ?_
 unfold Zdm at h
 have a:Zcf ⟨#[]⟩=true:=by decide
 simp only [fnS,f224,Zo,go_sem,seval,a]
 refine Ze h (fun _ h=>?_) fun _ h=>?_<;>try simp only [*,go_sem,seval]
 obtain ⟨d,b,h⟩:=Za h
 refine Zb (X3 b) ?_
 cases h
 try simp only [*,go_sem,seval]
 refine Ze h (fun _ h=>?_) fun _ h=>?_<;>try simp only [*,go_sem,seval]
 obtain ⟨e,c,h⟩:=Za h
 refine Zb (X3 c) ?_
 cases h
 try simp only [*,go_sem,seval]
 iterate 2 refine Ze h (fun _ h=>?_) fun _ h=>?_<;>try simp only [*,go_sem,seval]
 iterate 3 (cases h;try simp only [*,go_sem,seval])
theorem ZlS {r_0:Zf} {r:(List ByteArray)} (h:Zdg r_0=some r):Zn Tryz.prog J0 226 [(true,ZB r_0)] [(false,[(false,.sl 9 1 (List.map Zu r))])]:=by
 refine fnk Tryz.func226 (by kernel_rfl) rfl (by kernel_rfl) (by kernel_rfl) ?_
 unfold Zdg at h
 simp only [fnS,f226,Zo,go_sem,seval]
 refine Zg h (fun i row_12 st=>IV [(1,.bp 0 0),(3,.p false [.row 1]),(4,.p false [.c (.int .i64 ((i:Nat):Int))])] [.box 82 [.c (.str r_0.name),.c (.int .i64 r_0.priority),.c (.sl 130 5 (List.map ZM r_0.cond)),.c (.sl 134 3 (List.map ZA r_0.thn))],.row 9 1 (List.map Zu row_12) 2] st) [] [0,32] (by decide) ?_ ?_ ?_
 ·simp only [*,go_sem,seval]
 ·rintro i61 x62 row_12 ⟨sl,ob,n⟩ y1 hx2 hI3 hW4 h hy1
  simp only [go_sem,seval,Zd] at hI3
  obtain ⟨⟨g5_1,g5_3,g5_4⟩,og5_0,og5_1,hn⟩:=hI3
  subst hn
  have hlhx2:=WF.boxL hW4 og5_0 (j:=2) rfl
  have q6:=ZF hx2
  have q7:=ZJ hx2
  have q8:=Zi (ZE hx2) hlhx2
  try simp only [*,go_sem,seval]
  obtain ⟨v63,e9,h⟩:=Za h
  refine Zb (by have hh:=Zae e9;first|exact hh|(simp only [*,go_sem] at hh;exact hh)) ?_
  try simp only [*,go_sem,seval]
  refine Zg h (fun i row_66 st=>IV [(1,.bp 0 0),(3,.p false [.row 1]),(4,.p false [.c (.int .i64 ((i61:Nat):Int))]),(5,.p false [.row 2]),(6,.p false [.c (.int .i64 ((i:Nat):Int))])] [.box 82 [.c (.str r_0.name),.c (.int .i64 r_0.priority),.c (.sl 130 5 (List.map ZM r_0.cond)),.c (.sl 134 3 (List.map ZA r_0.thn))],.row 9 1 (List.map Zu row_66) 2,.row 9 1 (List.map Zu v63) 2] st) [] [0,1,162] (by decide) ?_ ?_ ?_
  ·simp only [*,go_sem,seval]
  ·rintro i70 x71 row_66 ⟨sl,ob,n⟩ y10 hx11 hI12 hW13 h hy10
   simp only [go_sem,seval,Zd] at hI12
   obtain ⟨⟨g14_1,g14_3,g14_4,g14_5,g14_6⟩,og14_0,og14_1,og14_2,hn⟩:=hI12
   subst hn
   have hlhx11:=WF.rowL hW13 og14_2
   have q15:=ZF hx11
   have q16:=ZJ hx11
   have q17:=Zi (ZE hx11) hlhx11
   try simp only [*,go_sem,seval]
   obtain ⟨v72,e18,h⟩:=Za h
   refine Zb (by have hh:=Xn e18;first|exact hh|(simp only [*,go_sem] at hh;exact hh)) ?_
   try simp only [*,go_sem,seval]
   refine ⟨_,[],[0,147,2],(Option.some.inj h).symm,by decide,?_⟩
   try simp only [*,go_sem,seval]
  ·rintro row_66 ⟨sl,ob,n⟩ hI19 hW20 h
   simp only [go_sem,seval,Zd] at hI19
   obtain ⟨⟨g21_1,g21_3,g21_4,g21_5,g21_6⟩,og21_0,og21_1,og21_2,hn⟩:=hI19
   subst hn
   have q22:=ZC (v63.length)
   try simp only [*,go_sem,seval]
   refine ⟨_,[],[0,1],(Option.some.inj h).symm,by decide,?_⟩
   try simp only [*,go_sem,seval]
 ·rintro row_12 ⟨sl,ob,n⟩ hI23 hW24 h
  simp only [go_sem,seval,Zd] at hI23
  obtain ⟨⟨g25_1,g25_3,g25_4⟩,og25_0,og25_1,hn⟩:=hI23
  subst hn
  have q26:=ZC (r_0.cond.length)
  try simp only [*,go_sem,seval]
  refine Zg h (fun i row_84 st=>IV [(1,.bp 0 0),(3,.p false [.row 1]),(7,.p false [.c (.int .i64 ((i:Nat):Int))])] [.box 82 [.c (.str r_0.name),.c (.int .i64 r_0.priority),.c (.sl 130 5 (List.map ZM r_0.cond)),.c (.sl 134 3 (List.map ZA r_0.thn))],.row 9 1 (List.map Zu row_84) 2] st) [] [0,1] (by decide) ?_ ?_ ?_
  ·simp only [*,go_sem,seval]
  ·rintro i97 x98 row_84 ⟨sl,ob,n⟩ y27 hx28 hI29 hW30 h hy27
   simp only [go_sem,seval,Zd] at hI29
   obtain ⟨⟨g31_1,g31_3,g31_7⟩,og31_0,og31_1,hn⟩:=hI29
   subst hn
   have hlhx28:=WF.boxL hW30 og31_0 (j:=3) rfl
   have q32:=ZF hx28
   have q33:=ZJ hx28
   have q34:=Zi (ZE hx28) hlhx28
   try simp only [*,go_sem,seval]
   obtain ⟨v99,e35,h⟩:=Za h
   refine Zb (by have hh:=Zb1 e35;first|exact hh|(simp only [*,go_sem] at hh;exact hh)) ?_
   try simp only [*,go_sem,seval]
   refine Zg h (fun i row_102 st=>IV [(1,.bp 0 0),(3,.p false [.row 1]),(7,.p false [.c (.int .i64 ((i97:Nat):Int))]),(8,.p false [.row 2]),(9,.p false [.c (.int .i64 ((i:Nat):Int))])] [.box 82 [.c (.str r_0.name),.c (.int .i64 r_0.priority),.c (.sl 130 5 (List.map ZM r_0.cond)),.c (.sl 134 3 (List.map ZA r_0.thn))],.row 9 1 (List.map Zu row_102) 2,.row 9 1 (List.map Zu v99) 2] st) [] [0,1,178] (by decide) ?_ ?_ ?_
   ·simp only [*,go_sem,seval]
   ·rintro i106 x107 row_102 ⟨sl,ob,n⟩ y36 hx37 hI38 hW39 h hy36
    simp only [go_sem,seval,Zd] at hI38
    obtain ⟨⟨g40_1,g40_3,g40_7,g40_8,g40_9⟩,og40_0,og40_1,og40_2,hn⟩:=hI38
    subst hn
    have hlhx37:=WF.rowL hW39 og40_2
    have q41:=ZF hx37
    have q42:=ZJ hx37
    have q43:=Zi (ZE hx37) hlhx37
    try simp only [*,go_sem,seval]
    obtain ⟨v108,e44,h⟩:=Za h
    refine Zb (by have hh:=Xn e44;first|exact hh|(simp only [*,go_sem] at hh;exact hh)) ?_
    try simp only [*,go_sem,seval]
    refine ⟨_,[],[0,147,2],(Option.some.inj h).symm,by decide,?_⟩
    try simp only [*,go_sem,seval]
   ·rintro row_102 ⟨sl,ob,n⟩ hI45 hW46 h
    simp only [go_sem,seval,Zd] at hI45
    obtain ⟨⟨g47_1,g47_3,g47_7,g47_8,g47_9⟩,og47_0,og47_1,og47_2,hn⟩:=hI45
    subst hn
    have q48:=ZC (v99.length)
    try simp only [*,go_sem,seval]
    refine ⟨_,[],[0,1],(Option.some.inj h).symm,by decide,?_⟩
    try simp only [*,go_sem,seval]
  ·rintro row_84 ⟨sl,ob,n⟩ hI49 hW50 h
   simp only [go_sem,seval,Zd] at hI49
   obtain ⟨⟨g51_1,g51_3,g51_7⟩,og51_0,og51_1,hn⟩:=hI49
   subst hn
   have q52:=ZC (r_0.thn.length)
   cases h
   try simp only [*,go_sem,seval]
theorem ZcQ {p_0:Zv} {b_1:(List Zl)} {facts_2:(List Zc)} {r:(List Zc)} (h:Xy p_0 b_1 facts_2=some r):Zn Tryz.prog J0 64 [(true,QQ p_0),(false,[.sl 192 2 (List.map Z6 b_1)]),(false,[.sl 57 2 (List.map Zq facts_2)])] [(false,[(false,.sl 57 2 (List.map Zq r))])]:=by
 refine fnk Tryz.func64 (by kernel_rfl) rfl (by kernel_rfl) (by kernel_rfl) ?_
 unfold Xy at h
 simp only [fnS,f64,Zo,go_sem,seval]
 refine Zg h (fun i a st=>IV [(1,.p false [.c (.sl 192 2 (List.map Z6 b_1))]),(3,.bp 0 0),(7,.p false [.row 1]),(12,.p false [.c (.sl 57 2 (List.map Zq facts_2))]),(13,.p false [.c (.int .i64 ((facts_2.length:Nat):Int))]),(14,.p false [.c (.int .i64 ((i:Nat):Int))])] [.box 49 [.c (.str p_0.rel),.c (.sl 9 1 (List.map Zu p_0.args))],.row 57 2 (List.map Zq a) 2] st) [(false,7,0)] [0,96] (by decide) ?_ ?_ ?_
 simp only [*,go_sem,seval]
 rintro q t a ⟨sl,ob,n⟩ u b d f h v
 simp only [go_sem,seval,Zd] at d
 obtain ⟨⟨w,x,y,g,z,A⟩,B,C,hn⟩:=d
 subst hn
 have k:=WF.slotL f g (j:=0) rfl
 have D:=ZF b
 have E:=ZJ b
 have F:=Zi (ZE b) k
 try simp only [*,go_sem,seval]
 obtain ⟨G,l,h⟩:=Za h
 refine Zb (ZfI l) ?_
 try simp only [*,go_sem,seval]
 refine Ze h (fun _ h=>?_) fun _ h=>?_<;>try simp only [*,go_sem,seval]
 obtain ⟨H,m,h⟩:=Za h
 refine Zb (Xf m) ?_
 obtain ⟨o,h⟩:=Zx h
 try simp only [Nat.reduceLeDiff] at o
 try simp only [*,go_sem,seval]
 refine ⟨_,[],[0,306],(Option.some.inj h).symm,by decide,?_⟩
 try simp only [*,go_sem,seval]
 refine ⟨_,[],[0,1],(Option.some.inj h).symm,by decide,?_⟩
 try simp only [*,go_sem,seval]
 rintro a ⟨sl,ob,n⟩ e I h
 simp only [go_sem,seval,Zd] at e
 obtain ⟨⟨J,K,L,M,N,O⟩,P,Q,hn⟩:=e
 subst hn
 have R:=ZC (facts_2.length)
 cases h
 try simp only [*,go_sem,seval]
theorem ZoJ {x_0:Zm} {r:Bool} (h:Zh1 x_0=some r):Zn Tryz.prog J0 214 [(true,ZM x_0)] [(false,[(false,.bool r)])]:=by
 refine fnk Tryz.func214 (by kernel_rfl) rfl (by kernel_rfl) (by kernel_rfl) ?_
 unfold Zh1 at h
 simp only [fnS,f214,Zo,go_sem,seval]
 obtain ⟨b,a,h⟩:=Za h
 refine Zb (ZfQ a) ?_
 try simp only [*,go_sem,seval]
 refine Ze h (fun _ h=>?_) fun _ h=>?_<;>try simp only [*,go_sem,seval]
 iterate 2 (cases h;try simp only [*,go_sem,seval])
theorem Zgz {r_0:Zf} {k_1:Int} {r:Bool} (h:ZbE r_0 k_1=some r):Zn Tryz.prog J0 227 [(true,ZB r_0),(false,[.int .i64 k_1])] [(false,[(false,.bool r)])]:=by
 refine fnk Tryz.func227 (by kernel_rfl) rfl (by kernel_rfl) (by kernel_rfl) ?_
 unfold ZbE at h
 simp only [fnS,f227,Zo,go_sem,seval]
 obtain ⟨a,v,w,x,h⟩:=Zgn h
 try simp only [*,go_sem,seval]
 obtain ⟨j,k,h⟩:=Za h
 refine Zb (ZcE k) ?_
 try simp only [*,go_sem,seval]
 obtain ⟨b,l,h⟩:=Za h
 refine Zb (ZbT l) ?_
 try simp only [*,go_sem,seval]
 refine Zg h (fun i _ st=>IV [(1,.p false [.c (.int .i64 k_1)]),(2,.bp 0 0),(5,.bp 1 0),(6,.p false [.row 2]),(18,.p false [.row 3]),(19,.p false [.c (.int .i64 ((b.length:Nat):Int))]),(20,.p false [.c (.int .i64 ((i:Nat):Int))])] [.box 82 [.c (.str r_0.name),.c (.int .i64 r_0.priority),.c (.sl 130 5 (List.map ZM r_0.cond)),.c (.sl 134 3 (List.map ZA r_0.thn))],.box 130 [.c (.int .i64 a.kind),.c (.str a.pattern.rel),.c (.sl 9 1 (List.map Zu a.pattern.args)),.c (.str a.left),.c (.str a.right)],.row 9 1 (List.map Zu j) 2,.row 9 1 (List.map Zu b) 2] st) [] [0,112,176,224] (by decide) ?_ ?_ ?_
 simp only [*,go_sem,seval]
 rintro y z ⟨⟩ ⟨sl,ob,n⟩ A d e m h f
 simp only [go_sem,seval,Zd] at e
 obtain ⟨⟨B,C,D,E,F,G,H⟩,I,J,K,o,hn⟩:=e
 subst hn
 have q:=WF.rowL m o
 have L:=ZF d
 have M:=ZJ d
 have N:=Zi (ZE d) q
 try simp only [*,go_sem,seval]
 refine Ze h (fun _ h=>?_) fun _ h=>?_<;>try simp only [*,go_sem,seval]
 refine ⟨_,[],[0,1,2,3],(Option.some.inj h).symm,by decide,?_⟩
 try simp only [*,go_sem,seval]
 obtain ⟨O,t,h⟩:=Za h
 refine Zb (Q5 t) ?_
 try simp only [*,go_sem,seval]
 refine Ze h (fun _ h=>?_) fun _ h=>?_<;>try simp only [*,go_sem,seval]
 refine ⟨_,[],[0,1,2,3],(Option.some.inj h).symm,by decide,?_⟩
 try simp only [*,go_sem,seval]
 refine Ze h (fun _ h=>?_) fun _ h=>?_<;>try simp only [*,go_sem,seval]
 replace h:=Zs h f
 cases h
 try simp only [*,go_sem,seval]
 obtain ⟨P,u,h⟩:=Za h
 refine Zb (Zfg u) ?_
 try simp only [*,go_sem,seval]
 refine Ze h (fun _ h=>?_) fun _ h=>?_<;>try simp only [*,go_sem,seval]
 replace h:=Zs h f
 cases h
 try simp only [*,go_sem,seval]
 refine ⟨_,[],[0,1,2,3],(Option.some.inj h).symm,by decide,?_⟩
 try simp only [*,go_sem,seval]
 rintro ⟨⟩ ⟨sl,ob,n⟩ g Q h
 simp only [go_sem,seval,Zd] at g
 obtain ⟨⟨R,S,T,U,V,W,X⟩,Y,Z,aa,ab,hn⟩:=g
 subst hn
 have ac:=ZC (b.length)
 cases h
 try simp only [*,go_sem,seval]
theorem ZBN {b_0:ZK} {r:(List Int)} (h:ZAB b_0=some r):Zn Tryz.prog J0 143 [(true,Zff b_0)] [(false,[(false,.sl 3 1 (List.map Qv r))])]:=by
 refine fnk Tryz.func143 (by kernel_rfl) rfl (by kernel_rfl) (by kernel_rfl) ?_
 unfold ZAB at h
 simp only [fnS,f143,Zo,go_sem,seval]
 obtain ⟨v1,e1,h⟩:=Za h
 refine Zb (by have hh:=ZAE e1;first|exact hh|(simp only [*,go_sem] at hh;exact hh)) ?_
 try simp only [*,go_sem,seval]
 refine Ze h (fun _ h=>?_) fun _ h=>?_<;>try simp only [*,go_sem,seval]
 ·obtain ⟨v2,e3,h⟩:=Za h
  refine Zb (by have hh:=ZBR e3;first|exact hh|(simp only [*,go_sem] at hh;exact hh)) ?_
  try simp only [*,go_sem,seval]
  refine Zeh h (fun s st=>match s with | (row_3,i_4)=>IV [(1,.bp 0 0),(3,.p false [.row 1]),(4,.p false [.row 2]),(5,.p false [.c (.int .i64 i_4)])] [.box 29 [.c (.int .i64 b_0.nodes),.c (.sl 114 3 (List.map Yn b_0.reasons))],.row 3 1 (List.map Qv v2) 2,.row 3 1 (List.map Qv row_3) 2] st) [] [0,96,128] (by decide) ?_ ?_
  ·simp only [*,go_sem,seval]
  ·rintro ⟨row_3,i_4⟩ ⟨sl,ob,n⟩ y4 hI5 hW6 h hy4
   simp only [go_sem,seval,Zd] at hI5
   obtain ⟨⟨g7_1,g7_3,g7_4,g7_5⟩,og7_0,og7_1,og7_2,hn⟩:=hI5
   subst hn
   try simp only [*,go_sem,seval]
   refine Ze h (fun _ h=>?_) fun _ h=>?_<;>try simp only [*,go_sem,seval]
   ·obtain ⟨p9,h⟩:=Zx h
    try simp only [Nat.reduceLeDiff] at p9
    try simp only [*,go_sem,seval]
    refine ⟨_,[],[0,1,99],(Option.some.inj h).symm,by decide,?_⟩
    try simp only [*,go_sem,seval]
   ·refine Zeh h (fun s st=>match s with | (row_31,round_32,s_33)=>IV [(1,.bp 0 0),(3,.p false [.row 1]),(4,.p false [.row 2]),(6,.p false [.c (.int .i64 round_32)]),(7,.p false [.c (.int .i64 s_33)])] [.box 29 [.c (.int .i64 b_0.nodes),.c (.sl 114 3 (List.map Yn b_0.reasons))],.row 3 1 (List.map Qv v2) 2,.row 3 1 (List.map Qv row_31) 2] st) [] [0,1,2] (by decide) ?_ ?_
    ·simp only [*,go_sem,seval]
    ·rintro ⟨row_31,round_32,s_33⟩ ⟨sl,ob,n⟩ y10 hI11 hW12 h hy10
     simp only [go_sem,seval,Zd] at hI11
     obtain ⟨⟨g13_1,g13_3,g13_4,g13_6,g13_7⟩,og13_0,og13_1,og13_2,hn⟩:=hI11
     subst hn
     try simp only [*,go_sem,seval]
     refine Ze h (fun _ h=>?_) fun _ h=>?_<;>try simp only [*,go_sem,seval]
     ·obtain ⟨v34,e15,h⟩:=Za h
      refine Zb (by have hh:=ZA5 e15;first|exact hh|(simp only [*,go_sem] at hh;exact hh)) ?_
      try simp only [*,go_sem,seval]
      refine Zeh h (fun s st=>match s with | (row_46,row_47,round_48)=>IV [(1,.bp 0 0),(3,.p false [.row 1]),(4,.p false [.row 2]),(6,.p false [.c (.int .i64 round_48)]),(7,.p false [.c (.int .i64 s_33)]),(8,.p false [.row 3])] [.box 29 [.c (.int .i64 b_0.nodes),.c (.sl 114 3 (List.map Yn b_0.reasons))],.row 3 1 (List.map Qv v2) 2,.row 3 1 (List.map Qv row_46) 2,.row 3 1 (List.map Qv row_47) 2] st) [] [0,1,2,147] (by decide) ?_ ?_
      ·simp only [*,go_sem,seval]
      ·rintro ⟨row_46,row_47,round_48⟩ ⟨sl,ob,n⟩ y16 hI17 hW18 h hy16
       simp only [go_sem,seval,Zd] at hI17
       obtain ⟨⟨g19_1,g19_3,g19_4,g19_6,g19_7,g19_8⟩,og19_0,og19_1,og19_2,og19_3,hn⟩:=hI17
       subst hn
       try simp only [*,go_sem,seval]
       refine Ze h (fun _ h=>?_) fun _ h=>?_<;>try simp only [*,go_sem,seval]
       ·refine Zg h (fun i row_51 st=>IV [(1,.bp 0 0),(3,.p false [.row 1]),(4,.p false [.row 2]),(6,.p false [.c (.int .i64 round_48)]),(7,.p false [.c (.int .i64 s_33)]),(8,.p false [.row 3]),(9,.p false [.c (.int .i64 ((i:Nat):Int))])] [.box 29 [.c (.int .i64 b_0.nodes),.c (.sl 114 3 (List.map Yn b_0.reasons))],.row 3 1 (List.map Qv v2) 2,.row 3 1 (List.map Qv row_51) 2,.row 3 1 (List.map Qv row_47) 2] st) [] [0,1,2,3] (by decide) ?_ ?_ ?_
        ·simp only [*,go_sem,seval]
        ·rintro i56 x57 row_51 ⟨sl,ob,n⟩ y21 hx22 hI23 hW24 h hy21
         simp only [go_sem,seval,Zd] at hI23
         obtain ⟨⟨g25_1,g25_3,g25_4,g25_6,g25_7,g25_8,g25_9⟩,og25_0,og25_1,og25_2,og25_3,hn⟩:=hI23
         subst hn
         have hlhx22:=WF.rowL hW24 og25_3
         have q26:=ZF hx22
         have q27:=ZJ hx22
         have q28:=Zi (ZE hx22) hlhx22
         obtain ⟨p29,h⟩:=Zx h
         obtain ⟨x58,e30,h⟩:=Za h
         try simp only [*,go_sem,seval]
         refine ⟨_,[],[0,1,2,3],(Option.some.inj h).symm,by decide,?_⟩
         try simp only [*,go_sem,seval]
        ·rintro row_51 ⟨sl,ob,n⟩ hI31 hW32 h
         simp only [go_sem,seval,Zd] at hI31
         obtain ⟨⟨g33_1,g33_3,g33_4,g33_6,g33_7,g33_8,g33_9⟩,og33_0,og33_1,og33_2,og33_3,hn⟩:=hI31
         subst hn
         have q34:=ZC (row_47.length)
         try simp only [*,go_sem,seval]
         obtain ⟨v59,e35,h⟩:=Za h
         refine Zb (by have hh:=ZA5 e35;first|exact hh|(simp only [*,go_sem] at hh;exact hh)) ?_
         try simp only [*,go_sem,seval]
         refine ⟨_,[],[0,1,2,196],(Option.some.inj h).symm,by decide,?_⟩
         try simp only [*,go_sem,seval]
       ·replace h:=Zs h hy16
        refine ⟨_,[],[0,1,2],(Option.some.inj h).symm,by decide,?_⟩
        try simp only [*,go_sem,seval]
     ·replace h:=Zs h hy10
      replace h:=Zs h hy4
      cases h
      try simp only [*,go_sem,seval]
 ·cases h
  try simp only [*,go_sem,seval]
end Go.Proofs.YtojnhepgnbhaaaaGreatDoor
namespace Go.Proofs.YtojnhepgnbhaaaaGreatDoor
open Go.Proofs.Tryz
set_option linter.unusedSimpArgs false
set_option linter.unusedVariables false
set_option maxRecDepth 1000000
set_option maxHeartbeats 4000000
theorem ZcR {p_0:Zv} {b_1:(List Zl)} {facts_2:(List Zc)} {r:(List Zc)} (h:Xv p_0 b_1 facts_2=some r):Zn Tryz.prog J0 61 [(true,QQ p_0),(false,[.sl 192 2 (List.map Z6 b_1)]),(false,[.sl 57 2 (List.map Zq facts_2)])] [(false,[(false,.sl 57 2 (List.map Zq r))])]:=by
 refine fnk Tryz.func61 (by kernel_rfl) rfl (by kernel_rfl) (by kernel_rfl) ?_
 unfold Xv at h
 simp only [fnS,f61,Zo,go_sem,seval]
 refine Zg h (fun i a st=>IV [(1,.p false [.c (.sl 192 2 (List.map Z6 b_1))]),(2,.p false [.c (.sl 57 2 (List.map Zq facts_2))]),(3,.bp 0 0),(7,.p false [.row 1]),(8,.p false [.c (.int .i64 ((i:Nat):Int))])] [.box 49 [.c (.str p_0.rel),.c (.sl 9 1 (List.map Zu p_0.args))],.row 57 2 (List.map Zq a) 2] st) [] [0,32] (by decide) ?_ ?_ ?_
 simp only [*,go_sem,seval]
 rintro q t a ⟨sl,ob,n⟩ u b d f h v
 simp only [go_sem,seval,Zd] at d
 obtain ⟨⟨w,g,x,y,z⟩,A,B,hn⟩:=d
 subst hn
 have k:=WF.slotL f g (j:=0) rfl
 have C:=ZF b
 have D:=ZJ b
 have E:=Zi (ZE b) k
 try simp only [*,go_sem,seval]
 obtain ⟨F,l,h⟩:=Za h
 refine Zb (Zfh l) ?_
 try simp only [*,go_sem,seval]
 refine Ze h (fun _ h=>?_) fun _ h=>?_<;>try simp only [*,go_sem,seval]
 obtain ⟨G,m,h⟩:=Za h
 refine Zb (XF m) ?_
 obtain ⟨o,h⟩:=Zx h
 try simp only [Nat.reduceLeDiff] at o
 try simp only [*,go_sem,seval]
 refine ⟨_,[],[0,386],(Option.some.inj h).symm,by decide,?_⟩
 try simp only [*,go_sem,seval]
 refine ⟨_,[],[0,1],(Option.some.inj h).symm,by decide,?_⟩
 try simp only [*,go_sem,seval]
 rintro a ⟨sl,ob,n⟩ e H h
 simp only [go_sem,seval,Zd] at e
 obtain ⟨⟨I,J,K,L,M⟩,N,O,hn⟩:=e
 subst hn
 have P:=ZC (facts_2.length)
 cases h
 try simp only [*,go_sem,seval]
theorem Zfo {x_0:Zm} {r:Bool} (h:Za9 x_0=some r):Zn Tryz.prog J0 222 [(true,ZM x_0)] [(false,[(false,.bool r)])]:=by
 refine fnk Tryz.func222 (by kernel_rfl) rfl (by kernel_rfl) (by kernel_rfl) ?_
 unfold Za9 at h
 simp only [fnS,f222,Zo,go_sem,seval]
 obtain ⟨b,a,h⟩:=Za h
 refine Zb (ZfK a) ?_
 try simp only [*,go_sem,seval]
 refine Ze h (fun _ h=>?_) fun _ h=>?_<;>try simp only [*,go_sem,seval]
 iterate 2 (cases h;try simp only [*,go_sem,seval])
theorem Zkw {append_0:Zf} {String_1:Int} {a_2:Zt} {a_3:(List Zc)} {r:Zh} (h:ZaT append_0 String_1 a_2 a_3=some r):Zn Tryz.prog J0 82 [(true,ZB append_0),(false,[.int .i64 String_1]),(true,YZ a_2),(false,[.sl 57 2 (List.map Zq a_3)])] [(true,[(false,.int .i64 r.for_),(false,.sl 3 1 (List.map Qv r.inn)),(false,.sl 3 1 (List.map Qv r.outs))])]:=by
 refine fnk Tryz.func82 (by kernel_rfl) rfl (by kernel_rfl) (by kernel_rfl) ?_
 unfold ZaT at h
 simp only [fnS,f82,Zo,go_sem,seval]
 obtain ⟨w,x,y,z,h⟩:=Zgn h
 try simp only [*,go_sem,seval]
 obtain ⟨d,g,h⟩:=Za h
 refine Zb (ZdZ g) ?_
 try simp only [*,go_sem,seval]
 refine Zg h (fun i a st=>IV [(3,.p false [.c (.sl 57 2 (List.map Zq a_3))]),(4,.bp 0 0),(6,.bp 1 0),(8,.bp 2 0),(9,.bp 3 0),(11,.p false [.row 5]),(12,.p false [.c (.int .i64 ((i:Nat):Int))])] [.box 82 [.c (.str append_0.name),.c (.int .i64 append_0.priority),.c (.sl 130 5 (List.map ZM append_0.cond)),.c (.sl 134 3 (List.map ZA append_0.thn))],.box 117 [.c (.sl 57 2 (List.map Zq a_2.facts)),.c (.sl 192 2 (List.map Z6 a_2.binding))],.box 114 [.c (.int .i64 0),.nil 3 1,.nil 3 1],.box 57 [.c (.str d.1.rel),.row 4],.row 9 1 (List.map Zu d.1.args) 2,.row 57 2 (List.map Zq a) 2] st) [] [0,16,32,240,176,288] (by decide) ?_ ?_ ?_
 simp only [*,go_sem,seval]
 rintro A B a ⟨sl,ob,n⟩ C b e k h D
 simp only [go_sem,seval,Zd] at e
 obtain ⟨⟨E,F,G,H,I,J,K⟩,l,L,M,N,O,P,hn⟩:=e
 subst hn
 have m:=WF.boxL k l (j:=2) rfl
 have Q:=ZF b
 have R:=ZJ b
 have S:=Zi (ZE b) m
 try simp only [*,go_sem,seval]
 refine Ze h (fun _ h=>?_) fun _ h=>?_<;>try simp only [*,go_sem,seval]
 obtain ⟨T,o,h⟩:=Za h
 refine Zb (ZdZ o) ?_
 obtain ⟨q,h⟩:=Zx h
 try simp only [Nat.reduceLeDiff] at q
 try simp only [*,go_sem,seval]
 refine ⟨_,[],[0,1,2,3,4,486],(Option.some.inj h).symm,by decide,?_⟩
 try simp only [*,go_sem,seval]
 refine ⟨_,[],[0,1,2,3,4,5],(Option.some.inj h).symm,by decide,?_⟩
 try simp only [*,go_sem,seval]
 rintro a ⟨sl,ob,n⟩ f U h
 simp only [go_sem,seval,Zd] at f
 obtain ⟨⟨V,W,X,Y,Z,aa,ab⟩,ac,ad,ae,af,ag,ah,hn⟩:=f
 subst hn
 have ai:=ZC (append_0.cond.length)
 try simp only [*,go_sem,seval]
 obtain ⟨aj,t,h⟩:=Za h
 refine Zb (Zd2 t) ?_
 try simp only [*,go_sem,seval]
 obtain ⟨ak,u,h⟩:=Za h
 refine Zb (ZgF u) ?_
 try simp only [*,go_sem,seval]
 obtain ⟨al,v,h⟩:=Za h
 refine Zb (ZgF v) ?_
 cases h
 try simp only [*,go_sem,seval]
theorem Zkd {append_0:Zm} {String_1:(List Zl)} {r:Bool} (h:Zb7 append_0 String_1=some r):Zn Tryz.prog J0 182 [(true,ZM append_0),(false,[.sl 192 2 (List.map Z6 String_1)])] [(false,[(false,.bool r)])]:=by
 refine fnk Tryz.func182 (by kernel_rfl) rfl (by kernel_rfl) (by kernel_rfl) ?_
 unfold Zb7 at h
 simp only [fnS,f182,Zo,go_sem,seval]
 obtain ⟨g,a,h⟩:=Za h
 refine Zb (ZoJ a) ?_
 try simp only [*,go_sem,seval]
 refine Ze h (fun _ h=>?_) fun _ h=>?_<;>try simp only [*,go_sem,seval]
 obtain ⟨i,b,h⟩:=Za h
 refine Zb (QF b) ?_
 try simp only [*,go_sem,seval]
 refine Ze h (fun _ h=>?_) fun _ h=>?_<;>try simp only [*,go_sem,seval]
 obtain ⟨j,c,h⟩:=Za h
 refine Zb (Zcp c) ?_
 try simp only [*,go_sem,seval]
 obtain ⟨k,d,h⟩:=Za h
 refine Zb (Zcp d) ?_
 try simp only [*,go_sem,seval]
 iterate 3 refine Ze h (fun _ h=>?_) fun _ h=>?_<;>try simp only [*,go_sem,seval]
 cases h
 try simp only [*,go_sem,seval]
 refine Ze h (fun _ h=>?_) fun _ h=>?_<;>try simp only [*,go_sem,seval]
 cases h
 try simp only [*,go_sem,seval]
 obtain ⟨l,e,h⟩:=Za h
 refine Zb (ZbS e) ?_
 try simp only [*,go_sem,seval]
 obtain ⟨m,f,h⟩:=Za h
 refine Zb (ZbS f) ?_
 try simp only [*,go_sem,seval]
 iterate 2 refine Ze h (fun _ h=>?_) fun _ h=>?_<;>try simp only [*,go_sem,seval]
 iterate 7 (cases h;try simp only [*,go_sem,seval])
theorem Zje {append_0:Zf} {r:Bool} (h:Zek append_0=some r):Zn Tryz.prog J0 193 [(true,ZB append_0)] [(false,[(false,.bool r)])]:=by
 refine fnk Tryz.func193 (by kernel_rfl) rfl (by kernel_rfl) (by kernel_rfl) ?_
 unfold Zek at h
 simp only [fnS,f193,Zo,go_sem,seval]
 obtain ⟨v1,e1,h⟩:=Za h
 refine Zb (by have hh:=ZfF e1;first|exact hh|(simp only [*,go_sem] at hh;exact hh)) ?_
 try simp only [*,go_sem,seval]
 refine Ze h (fun _ h=>?_) fun _ h=>?_<;>try simp only [*,go_sem,seval]
 ·refine Ze h (fun _ h=>?_) fun _ h=>?_<;>try simp only [*,go_sem,seval]
  ·cases h
   try simp only [*,go_sem,seval]
  ·refine Ze h (fun _ h=>?_) fun _ h=>?_<;>try simp only [*,go_sem,seval]
   ·cases h
    try simp only [*,go_sem,seval]
   ·refine Ze h (fun _ h=>?_) fun _ h=>?_<;>try simp only [*,go_sem,seval]
    ·cases h
     try simp only [*,go_sem,seval]
    ·refine Ze h (fun _ h=>?_) fun _ h=>?_<;>try simp only [*,go_sem,seval]
     ·cases h
      try simp only [*,go_sem,seval]
     ·refine Ze h (fun _ h=>?_) fun _ h=>?_<;>try simp only [*,go_sem,seval]
      ·cases h
       try simp only [*,go_sem,seval]
      ·refine Ze h (fun _ h=>?_) fun _ h=>?_<;>try simp only [*,go_sem,seval]
       ·cases h
        try simp only [*,go_sem,seval]
       ·refine Zg h (fun i _ st=>IV [(1,.bp 0 0),(49,.p false [.c (.sl 130 5 (List.map ZM append_0.cond))]),(50,.p false [.c (.int .i64 ((append_0.cond.length:Nat):Int))]),(51,.p false [.c (.int .i64 ((i:Nat):Int))])] [.box 82 [.c (.str append_0.name),.c (.int .i64 append_0.priority),.c (.sl 130 5 (List.map ZM append_0.cond)),.c (.sl 134 3 (List.map ZA append_0.thn))]] st) [] [0] (by decide) ?_ ?_ ?_
        ·simp only [*,go_sem,seval]
        ·rintro i50 x51 ⟨⟩ ⟨sl,ob,n⟩ y9 hx10 hI11 hW12 h hy9
         simp only [go_sem,seval,Zd] at hI11
         obtain ⟨⟨g13_1,g13_49,g13_50,g13_51⟩,og13_0,hn⟩:=hI11
         subst hn
         have hlhx10:=WF.slotL hW12 g13_49 (j:=0) rfl
         have q14:=ZF hx10
         have q15:=ZJ hx10
         have q16:=Zi (ZE hx10) hlhx10
         try simp only [*,go_sem,seval]
         obtain ⟨v52,e17,h⟩:=Za h
         refine Zb (by have hh:=ZfQ e17;first|exact hh|(simp only [*,go_sem] at hh;exact hh)) ?_
         try simp only [*,go_sem,seval]
         refine Ze h (fun _ h=>?_) fun _ h=>?_<;>try simp only [*,go_sem,seval]
         ·refine Ze h (fun _ h=>?_) fun _ h=>?_<;>try simp only [*,go_sem,seval]
          ·refine Ze h (fun _ h=>?_) fun _ h=>?_<;>try simp only [*,go_sem,seval]
           ·replace h:=Zs h hy9
            cases h
            try simp only [*,go_sem,seval]
           ·obtain ⟨v53,e21,h⟩:=Za h
            refine Zb (by have hh:=Zgz e21;first|exact hh|(simp only [*,go_sem] at hh;exact hh)) ?_
            try simp only [*,go_sem,seval]
            refine Ze h (fun _ h=>?_) fun _ h=>?_<;>try simp only [*,go_sem,seval]
            ·refine ⟨_,[],[0],(Option.some.inj h).symm,by decide,?_⟩
             try simp only [*,go_sem,seval]
            ·replace h:=Zs h hy9
             cases h
             try simp only [*,go_sem,seval]
          ·obtain ⟨v54,e23,h⟩:=Za h
           refine Zb (by have hh:=Zgz e23;first|exact hh|(simp only [*,go_sem] at hh;exact hh)) ?_
           try simp only [*,go_sem,seval]
           refine Ze h (fun _ h=>?_) fun _ h=>?_<;>try simp only [*,go_sem,seval]
           ·refine ⟨_,[],[0],(Option.some.inj h).symm,by decide,?_⟩
            try simp only [*,go_sem,seval]
           ·replace h:=Zs h hy9
            cases h
            try simp only [*,go_sem,seval]
         ·replace h:=Zs h hy9
          cases h
          try simp only [*,go_sem,seval]
        ·rintro ⟨⟩ ⟨sl,ob,n⟩ hI25 hW26 h
         simp only [go_sem,seval,Zd] at hI25
         obtain ⟨⟨g27_1,g27_49,g27_50,g27_51⟩,og27_0,hn⟩:=hI25
         subst hn
         have q28:=ZC (append_0.cond.length)
         try simp only [*,go_sem,seval]
         obtain ⟨v55,e29,h⟩:=Za h
         refine Zb (by have hh:=ZcE e29;first|exact hh|(simp only [*,go_sem] at hh;exact hh)) ?_
         try simp only [*,go_sem,seval]
         refine Zg h (fun i _ st=>IV [(1,.bp 0 0),(5,.p false [.row 1]),(81,.p false [.c (.sl 134 3 (List.map ZA append_0.thn))]),(82,.p false [.c (.int .i64 ((append_0.thn.length:Nat):Int))]),(83,.p false [.c (.int .i64 ((i:Nat):Int))])] [.box 82 [.c (.str append_0.name),.c (.int .i64 append_0.priority),.c (.sl 130 5 (List.map ZM append_0.cond)),.c (.sl 134 3 (List.map ZA append_0.thn))],.row 9 1 (List.map Zu v55) 2] st) [] [0,81] (by decide) ?_ ?_ ?_
         ·simp only [*,go_sem,seval]
         ·rintro i81 x82 ⟨⟩ ⟨sl,ob,n⟩ y30 hx31 hI32 hW33 h hy30
          simp only [go_sem,seval,Zd] at hI32
          obtain ⟨⟨g34_1,g34_5,g34_81,g34_82,g34_83⟩,og34_0,og34_1,hn⟩:=hI32
          subst hn
          have hlhx31:=WF.slotL hW33 g34_81 (j:=0) rfl
          have q35:=ZF hx31
          have q36:=ZJ hx31
          have q37:=Zi (ZE hx31) hlhx31
          try simp only [*,go_sem,seval]
          obtain ⟨v83,e38,h⟩:=Za h
          refine Zb (by have hh:=ZlN e38;first|exact hh|(simp only [*,go_sem] at hh;exact hh)) ?_
          try simp only [*,go_sem,seval]
          refine Ze h (fun _ h=>?_) fun _ h=>?_<;>try simp only [*,go_sem,seval]
          ·obtain ⟨v84,e40,h⟩:=Za h
           refine Zb (by have hh:=Zc2 e40;first|exact hh|(simp only [*,go_sem] at hh;exact hh)) ?_
           try simp only [*,go_sem,seval]
           refine Zg h (fun i _ st=>IV [(1,.bp 0 0),(5,.p false [.row 1]),(81,.p false [.c (.sl 134 3 (List.map ZA append_0.thn))]),(82,.p false [.c (.int .i64 ((append_0.thn.length:Nat):Int))]),(83,.p false [.c (.int .i64 ((i81:Nat):Int))]),(93,.p false [.row 2]),(94,.p false [.c (.int .i64 ((v84.length:Nat):Int))]),(95,.p false [.c (.int .i64 ((i:Nat):Int))])] [.box 82 [.c (.str append_0.name),.c (.int .i64 append_0.priority),.c (.sl 130 5 (List.map ZM append_0.cond)),.c (.sl 134 3 (List.map ZA append_0.thn))],.row 9 1 (List.map Zu v55) 2,.row 9 1 (List.map Zu v84) 2] st) [] [0,1,178] (by decide) ?_ ?_ ?_
           ·simp only [*,go_sem,seval]
           ·rintro i90 x91 ⟨⟩ ⟨sl,ob,n⟩ y41 hx42 hI43 hW44 h hy41
            simp only [go_sem,seval,Zd] at hI43
            obtain ⟨⟨g45_1,g45_5,g45_81,g45_82,g45_83,g45_93,g45_94,g45_95⟩,og45_0,og45_1,og45_2,hn⟩:=hI43
            subst hn
            have hlhx42:=WF.rowL hW44 og45_2
            have q46:=ZF hx42
            have q47:=ZJ hx42
            have q48:=Zi (ZE hx42) hlhx42
            try simp only [*,go_sem,seval]
            obtain ⟨v92,e49,h⟩:=Za h
            refine Zb (by have hh:=Q5 e49;first|exact hh|(simp only [*,go_sem] at hh;exact hh)) ?_
            try simp only [*,go_sem,seval]
            refine Ze h (fun _ h=>?_) fun _ h=>?_<;>try simp only [*,go_sem,seval]
            ·refine ⟨_,[],[0,1,2],(Option.some.inj h).symm,by decide,?_⟩
             try simp only [*,go_sem,seval]
            ·replace h:=Zs h hy41
             replace h:=Zs h hy30
             cases h
             try simp only [*,go_sem,seval]
           ·rintro ⟨⟩ ⟨sl,ob,n⟩ hI51 hW52 h
            simp only [go_sem,seval,Zd] at hI51
            obtain ⟨⟨g53_1,g53_5,g53_81,g53_82,g53_83,g53_93,g53_94,g53_95⟩,og53_0,og53_1,og53_2,hn⟩:=hI51
            subst hn
            have q54:=ZC (v84.length)
            try simp only [*,go_sem,seval]
            refine ⟨_,[],[0,1],(Option.some.inj h).symm,by decide,?_⟩
            try simp only [*,go_sem,seval]
          ·replace h:=Zs h hy30
           cases h
           try simp only [*,go_sem,seval]
         ·rintro ⟨⟩ ⟨sl,ob,n⟩ hI55 hW56 h
          simp only [go_sem,seval,Zd] at hI55
          obtain ⟨⟨g57_1,g57_5,g57_81,g57_82,g57_83⟩,og57_0,og57_1,hn⟩:=hI55
          subst hn
          have q58:=ZC (append_0.thn.length)
          try simp only [*,go_sem,seval]
          obtain ⟨v93,e59,h⟩:=Za h
          refine Zb (by have hh:=ZjC e59;first|exact hh|(simp only [*,go_sem] at hh;exact hh)) ?_
          try simp only [*,go_sem,seval]
          obtain ⟨v94,e60,h⟩:=Za h
          refine Zb (by have hh:=X5 e60;first|exact hh|(simp only [*,go_sem] at hh;exact hh)) ?_
          cases h
          try simp only [*,go_sem,seval]
 ·cases h
  try simp only [*,go_sem,seval]
theorem ZBQ {b_0:ZK} {r:(List Bool)} (h:ZAA b_0=some r):Zn Tryz.prog J0 97 [(true,Zff b_0)] [(false,[(false,.sl 4 1 (List.map Zuz r))])]:=by
 refine fnk Tryz.func97 (by kernel_rfl) rfl (by kernel_rfl) (by kernel_rfl) ?_
 unfold ZAA at h
 simp only [fnS,f97,Zo,go_sem,seval]
 obtain ⟨d,g,h⟩:=Za h
 refine Zb (ZBN g) ?_
 try simp only [*,go_sem,seval]
 refine Zg h (fun i a st=>IV [(3,.p false [.row 0]),(4,.p false [.row 1]),(5,.p false [.c (.int .i64 ((i:Nat):Int))])] [.row 3 1 (List.map Qv d) 2,.row 4 1 (List.map Zuz a) 2] st) [] [48,80] (by decide) ?_ ?_ ?_
 simp only [*,go_sem,seval]
 rintro o q a ⟨sl,ob,n⟩ t b e j h u
 simp only [go_sem,seval,Zd] at e
 obtain ⟨⟨v,w,x⟩,k,y,hn⟩:=e
 subst hn
 have l:=WF.rowL j k
 have z:=ZF b
 have A:=ZJ b
 have B:=Zi (ZE b) l
 obtain ⟨m,h⟩:=Zx h
 try simp only [Nat.reduceLeDiff] at m
 try simp only [*,go_sem,seval]
 refine ⟨_,[],[0,178],(Option.some.inj h).symm,by decide,?_⟩
 try simp only [*,go_sem,seval]
 rintro a ⟨sl,ob,n⟩ f C h
 simp only [go_sem,seval,Zd] at f
 obtain ⟨⟨D,E,F⟩,G,H,hn⟩:=f
 subst hn
 have I:=ZC (d.length)
 cases h
 try simp only [*,go_sem,seval]
end Go.Proofs.YtojnhepgnbhaaaaGreatDoor
namespace Go.Proofs.YtojnhepgnbhaaaaGreatDoor
open Go.Proofs.Tryz
set_option linter.unusedSimpArgs false
set_option linter.unusedVariables false
set_option maxRecDepth 1000000
set_option maxHeartbeats 4000000
theorem Zj8 {x_0:Zm} {b_1:(List Zl)} {r:Bool} (h:ZbV x_0 b_1=some r):Zn Tryz.prog J0 203 [(true,ZM x_0),(false,[.sl 192 2 (List.map Z6 b_1)])] [(false,[(false,.bool r)])]:=by
 refine fnk Tryz.func203 (by kernel_rfl) rfl (by kernel_rfl) (by kernel_rfl) ?_
 unfold ZbV at h
 simp only [fnS,f203,Zo,go_sem,seval]
 obtain ⟨i,a,h⟩:=Za h
 refine Zb (Zfo a) ?_
 try simp only [*,go_sem,seval]
 refine Ze h (fun _ h=>?_) fun _ h=>?_<;>try simp only [*,go_sem,seval]
 obtain ⟨j,b,h⟩:=Za h
 refine Zb (QM b) ?_
 try simp only [*,go_sem,seval]
 refine Ze h (fun _ h=>?_) fun _ h=>?_<;>try simp only [*,go_sem,seval]
 obtain ⟨k,c,h⟩:=Za h
 refine Zb (Zcl c) ?_
 try simp only [*,go_sem,seval]
 obtain ⟨l,d,h⟩:=Za h
 refine Zb (Zcl d) ?_
 try simp only [*,go_sem,seval]
 iterate 3 refine Ze h (fun _ h=>?_) fun _ h=>?_<;>try simp only [*,go_sem,seval]
 cases h
 try simp only [*,go_sem,seval]
 refine Ze h (fun _ h=>?_) fun _ h=>?_<;>try simp only [*,go_sem,seval]
 cases h
 try simp only [*,go_sem,seval]
 obtain ⟨m,e,h⟩:=Za h
 refine Zb (ZgP e) ?_
 try simp only [*,go_sem,seval]
 refine Ze h (fun _ h=>?_) fun _ h=>?_<;>try simp only [*,go_sem,seval]
 obtain ⟨o,f,h⟩:=Za h
 refine Zb (ZgP f) ?_
 try simp only [*,go_sem,seval]
 refine Ze h (fun _ h=>?_) fun _ h=>?_<;>try simp only [*,go_sem,seval]
 obtain ⟨p,g,h⟩:=Za h
 refine Zb (Zdv g) ?_
 iterate 7 (cases h;try simp only [*,go_sem,seval])
theorem Zjm {append_0:Zf} {r:Bool} (h:Zev append_0=some r):Zn Tryz.prog J0 192 [(true,ZB append_0)] [(false,[(false,.bool r)])]:=by
 refine fnk Tryz.func192 (by kernel_rfl) rfl (by kernel_rfl) (by kernel_rfl) ?_
 unfold Zev at h
 simp only [fnS,f192,Zo,go_sem,seval]
 obtain ⟨v1,e1,h⟩:=Za h
 refine Zb (by have hh:=Zfs e1;first|exact hh|(simp only [*,go_sem] at hh;exact hh)) ?_
 try simp only [*,go_sem,seval]
 refine Ze h (fun _ h=>?_) fun _ h=>?_<;>try simp only [*,go_sem,seval]
 ·obtain ⟨v2,e3,h⟩:=Za h
  refine Zb (by have hh:=ZaS e3;first|exact hh|(simp only [*,go_sem] at hh;exact hh)) ?_
  try simp only [*,go_sem,seval]
  refine Ze h (fun _ h=>?_) fun _ h=>?_<;>try simp only [*,go_sem,seval]
  ·obtain ⟨v3,e5,h⟩:=Za h
   refine Zb (by have hh:=ZaS e5;first|exact hh|(simp only [*,go_sem] at hh;exact hh)) ?_
   try simp only [*,go_sem,seval]
   refine Ze h (fun _ h=>?_) fun _ h=>?_<;>try simp only [*,go_sem,seval]
   ·obtain ⟨v4,e7,h⟩:=Za h
    refine Zb (by have hh:=ZaS e7;first|exact hh|(simp only [*,go_sem] at hh;exact hh)) ?_
    try simp only [*,go_sem,seval]
    refine Ze h (fun _ h=>?_) fun _ h=>?_<;>try simp only [*,go_sem,seval]
    ·obtain ⟨v5,e9,h⟩:=Za h
     refine Zb (by have hh:=Za3 e9;first|exact hh|(simp only [*,go_sem] at hh;exact hh)) ?_
     try simp only [*,go_sem,seval]
     refine Zg h (fun i _ st=>IV [(1,.bp 0 0),(3,.p false [.row 1]),(4,.p false [.c (.int .i64 ((i:Nat):Int))])] [.box 82 [.c (.str append_0.name),.c (.int .i64 append_0.priority),.c (.sl 130 5 (List.map ZM append_0.cond)),.c (.sl 134 3 (List.map ZA append_0.thn))],.row 9 1 (List.map Zu v5) 2] st) [] [0,480] (by decide) ?_ ?_ ?_
     ·simp only [*,go_sem,seval]
     ·rintro i96 x97 ⟨⟩ ⟨sl,ob,n⟩ y10 hx11 hI12 hW13 h hy10
      simp only [go_sem,seval,Zd] at hI12
      obtain ⟨⟨g14_1,g14_3,g14_4⟩,og14_0,og14_1,hn⟩:=hI12
      subst hn
      have hlhx11:=WF.boxL hW13 og14_0 (j:=2) rfl
      have q15:=ZF hx11
      have q16:=ZJ hx11
      have q17:=Zi (ZE hx11) hlhx11
      try simp only [*,go_sem,seval]
      obtain ⟨v98,e18,h⟩:=Za h
      refine Zb (by have hh:=ZfK e18;first|exact hh|(simp only [*,go_sem] at hh;exact hh)) ?_
      try simp only [*,go_sem,seval]
      refine Ze h (fun _ h=>?_) fun _ h=>?_<;>try simp only [*,go_sem,seval]
      ·refine Ze h (fun _ h=>?_) fun _ h=>?_<;>try simp only [*,go_sem,seval]
       ·refine Ze h (fun _ h=>?_) fun _ h=>?_<;>try simp only [*,go_sem,seval]
        ·replace h:=Zs h hy10
         cases h
         try simp only [*,go_sem,seval]
        ·obtain ⟨v99,e22,h⟩:=Za h
         refine Zb (by have hh:=Za3 e22;first|exact hh|(simp only [*,go_sem] at hh;exact hh)) ?_
         try simp only [*,go_sem,seval]
         obtain ⟨v100,e23,h⟩:=Za h
         refine Zb (by have hh:=Zae e23;first|exact hh|(simp only [*,go_sem] at hh;exact hh)) ?_
         try simp only [*,go_sem,seval]
         refine Zg h (fun i _ st=>IV [(1,.bp 0 0),(3,.p false [.row 1]),(4,.p false [.c (.int .i64 ((i96:Nat):Int))]),(5,.bp 2 0),(6,.p false [.row 3]),(7,.p false [.row 4]),(8,.p false [.c (.int .i64 ((i:Nat):Int))]),(58,.p false [.c (.int .i64 ((i96:Nat):Int))]),(59,.p false [.c (.bool (((i96:Nat):Int)==0))]),(60,.p false [.c (.bool (((i96:Nat):Int)==0))]),(61,.bp 2 0),(62,.p false [.c (.int .i64 x97.kind)]),(63,.p false [.c (.bool (x97.kind != 1))]),(64,.p false [.c (.bool (x97.kind != 1))])] [.box 82 [.c (.str append_0.name),.c (.int .i64 append_0.priority),.c (.sl 130 5 (List.map ZM append_0.cond)),.c (.sl 134 3 (List.map ZA append_0.thn))],.row 9 1 (List.map Zu v5) 2,.box 130 [.c (.int .i64 x97.kind),.c (.str x97.pattern.rel),.c (.sl 9 1 (List.map Zu x97.pattern.args)),.c (.str x97.left),.c (.str x97.right)],.row 9 1 (List.map Zu v99) 2,.row 9 1 (List.map Zu v100) 2] st) [] [0,1,162,418,466] (by decide) ?_ ?_ ?_
         ·simp only [*,go_sem,seval]
         ·rintro i110 x111 ⟨⟩ ⟨sl,ob,n⟩ y24 hx25 hI26 hW27 h hy24
          simp only [go_sem,seval,Zd] at hI26
          obtain ⟨⟨g28_1,g28_3,g28_4,g28_5,g28_6,g28_7,g28_8,g28_58,g28_59,g28_60,g28_61,g28_62,g28_63,g28_64⟩,og28_0,og28_1,og28_2,og28_3,og28_4,hn⟩:=hI26
          subst hn
          have hlhx25:=WF.rowL hW27 og28_4
          have q29:=ZF hx25
          have q30:=ZJ hx25
          have q31:=Zi (ZE hx25) hlhx25
          try simp only [*,go_sem,seval]
          obtain ⟨v112,e32,h⟩:=Za h
          refine Zb (by have hh:=YG e32;first|exact hh|(simp only [*,go_sem] at hh;exact hh)) ?_
          try simp only [*,go_sem,seval]
          obtain ⟨v113,e33,h⟩:=Za h
          refine Zb (by have hh:=Zfo e33;first|exact hh|(simp only [*,go_sem] at hh;exact hh)) ?_
          try simp only [*,go_sem,seval]
          refine Ze h (fun _ h=>?_) fun _ h=>?_<;>try simp only [*,go_sem,seval]
          ·refine Ze h (fun _ h=>?_) fun _ h=>?_<;>try simp only [*,go_sem,seval]
           ·refine Ze h (fun _ h=>?_) fun _ h=>?_<;>try simp only [*,go_sem,seval]
            ·refine ⟨_,[],[0,1,2,3,4],(Option.some.inj h).symm,by decide,?_⟩
             try simp only [*,go_sem,seval]
            ·refine ⟨_,[],[0,1,2,3,4],(Option.some.inj h).symm,by decide,?_⟩
             try simp only [*,go_sem,seval]
           ·replace h:=Zs h hy24
            replace h:=Zs h hy10
            cases h
            try simp only [*,go_sem,seval]
          ·refine Ze h (fun _ h=>?_) fun _ h=>?_<;>try simp only [*,go_sem,seval]
           ·refine Ze h (fun _ h=>?_) fun _ h=>?_<;>try simp only [*,go_sem,seval]
            ·refine ⟨_,[],[0,1,2,3,4],(Option.some.inj h).symm,by decide,?_⟩
             try simp only [*,go_sem,seval]
            ·obtain ⟨v114,e39,h⟩:=Za h
             refine Zb (by have hh:=Zea e39;first|exact hh|(simp only [*,go_sem] at hh;exact hh)) ?_
             try simp only [*,go_sem,seval]
             refine Ze h (fun _ h=>?_) fun _ h=>?_<;>try simp only [*,go_sem,seval]
             ·replace h:=Zs h hy24
              replace h:=Zs h hy10
              cases h
              try simp only [*,go_sem,seval]
             ·refine ⟨_,[],[0,1,2,3,4],(Option.some.inj h).symm,by decide,?_⟩
              try simp only [*,go_sem,seval]
           ·refine ⟨_,[],[0,1,2,3,4],(Option.some.inj h).symm,by decide,?_⟩
            try simp only [*,go_sem,seval]
         ·rintro ⟨⟩ ⟨sl,ob,n⟩ hI41 hW42 h
          simp only [go_sem,seval,Zd] at hI41
          obtain ⟨⟨g43_1,g43_3,g43_4,g43_5,g43_6,g43_7,g43_8,g43_58,g43_59,g43_60,g43_61,g43_62,g43_63,g43_64⟩,og43_0,og43_1,og43_2,og43_3,og43_4,hn⟩:=hI41
          subst hn
          have q44:=ZC (v100.length)
          try simp only [*,go_sem,seval]
          refine ⟨_,[],[0,1],(Option.some.inj h).symm,by decide,?_⟩
          try simp only [*,go_sem,seval]
       ·obtain ⟨v115,e45,h⟩:=Za h
        refine Zb (by have hh:=Za3 e45;first|exact hh|(simp only [*,go_sem] at hh;exact hh)) ?_
        try simp only [*,go_sem,seval]
        obtain ⟨v116,e46,h⟩:=Za h
        refine Zb (by have hh:=Zae e46;first|exact hh|(simp only [*,go_sem] at hh;exact hh)) ?_
        try simp only [*,go_sem,seval]
        refine Zg h (fun i _ st=>IV [(1,.bp 0 0),(3,.p false [.row 1]),(4,.p false [.c (.int .i64 ((i96:Nat):Int))]),(5,.bp 2 0),(6,.p false [.row 3]),(7,.p false [.row 4]),(8,.p false [.c (.int .i64 ((i:Nat):Int))]),(58,.p false [.c (.int .i64 ((i96:Nat):Int))]),(59,.p false [.c (.bool (((i96:Nat):Int)==0))]),(60,.p false [.c (.bool (((i96:Nat):Int)==0))]),(64,.p false [.c (.bool false)])] [.box 82 [.c (.str append_0.name),.c (.int .i64 append_0.priority),.c (.sl 130 5 (List.map ZM append_0.cond)),.c (.sl 134 3 (List.map ZA append_0.thn))],.row 9 1 (List.map Zu v5) 2,.box 130 [.c (.int .i64 x97.kind),.c (.str x97.pattern.rel),.c (.sl 9 1 (List.map Zu x97.pattern.args)),.c (.str x97.left),.c (.str x97.right)],.row 9 1 (List.map Zu v115) 2,.row 9 1 (List.map Zu v116) 2] st) [] [0,1,162,418,466] (by decide) ?_ ?_ ?_
        ·simp only [*,go_sem,seval]
        ·rintro i126 x127 ⟨⟩ ⟨sl,ob,n⟩ y47 hx48 hI49 hW50 h hy47
         simp only [go_sem,seval,Zd] at hI49
         obtain ⟨⟨g51_1,g51_3,g51_4,g51_5,g51_6,g51_7,g51_8,g51_58,g51_59,g51_60,g51_64⟩,og51_0,og51_1,og51_2,og51_3,og51_4,hn⟩:=hI49
         subst hn
         have hlhx48:=WF.rowL hW50 og51_4
         have q52:=ZF hx48
         have q53:=ZJ hx48
         have q54:=Zi (ZE hx48) hlhx48
         try simp only [*,go_sem,seval]
         obtain ⟨v128,e55,h⟩:=Za h
         refine Zb (by have hh:=YG e55;first|exact hh|(simp only [*,go_sem] at hh;exact hh)) ?_
         try simp only [*,go_sem,seval]
         obtain ⟨v129,e56,h⟩:=Za h
         refine Zb (by have hh:=Zfo e56;first|exact hh|(simp only [*,go_sem] at hh;exact hh)) ?_
         try simp only [*,go_sem,seval]
         refine Ze h (fun _ h=>?_) fun _ h=>?_<;>try simp only [*,go_sem,seval]
         ·refine Ze h (fun _ h=>?_) fun _ h=>?_<;>try simp only [*,go_sem,seval]
          ·refine Ze h (fun _ h=>?_) fun _ h=>?_<;>try simp only [*,go_sem,seval]
           ·refine ⟨_,[],[0,1,2,3,4],(Option.some.inj h).symm,by decide,?_⟩
            try simp only [*,go_sem,seval]
           ·refine ⟨_,[],[0,1,2,3,4],(Option.some.inj h).symm,by decide,?_⟩
            try simp only [*,go_sem,seval]
          ·replace h:=Zs h hy47
           replace h:=Zs h hy10
           cases h
           try simp only [*,go_sem,seval]
         ·refine Ze h (fun _ h=>?_) fun _ h=>?_<;>try simp only [*,go_sem,seval]
          ·refine Ze h (fun _ h=>?_) fun _ h=>?_<;>try simp only [*,go_sem,seval]
           ·refine ⟨_,[],[0,1,2,3,4],(Option.some.inj h).symm,by decide,?_⟩
            try simp only [*,go_sem,seval]
           ·obtain ⟨v130,e62,h⟩:=Za h
            refine Zb (by have hh:=Zea e62;first|exact hh|(simp only [*,go_sem] at hh;exact hh)) ?_
            try simp only [*,go_sem,seval]
            refine Ze h (fun _ h=>?_) fun _ h=>?_<;>try simp only [*,go_sem,seval]
            ·replace h:=Zs h hy47
             replace h:=Zs h hy10
             cases h
             try simp only [*,go_sem,seval]
            ·refine ⟨_,[],[0,1,2,3,4],(Option.some.inj h).symm,by decide,?_⟩
             try simp only [*,go_sem,seval]
          ·refine ⟨_,[],[0,1,2,3,4],(Option.some.inj h).symm,by decide,?_⟩
           try simp only [*,go_sem,seval]
        ·rintro ⟨⟩ ⟨sl,ob,n⟩ hI64 hW65 h
         simp only [go_sem,seval,Zd] at hI64
         obtain ⟨⟨g66_1,g66_3,g66_4,g66_5,g66_6,g66_7,g66_8,g66_58,g66_59,g66_60,g66_64⟩,og66_0,og66_1,og66_2,og66_3,og66_4,hn⟩:=hI64
         subst hn
         have q67:=ZC (v116.length)
         try simp only [*,go_sem,seval]
         refine ⟨_,[],[0,1],(Option.some.inj h).symm,by decide,?_⟩
         try simp only [*,go_sem,seval]
      ·replace h:=Zs h hy10
       cases h
       try simp only [*,go_sem,seval]
     ·rintro ⟨⟩ ⟨sl,ob,n⟩ hI68 hW69 h
      simp only [go_sem,seval,Zd] at hI68
      obtain ⟨⟨g70_1,g70_3,g70_4⟩,og70_0,og70_1,hn⟩:=hI68
      subst hn
      have q71:=ZC (append_0.cond.length)
      try simp only [*,go_sem,seval]
      refine Zg h (fun i _ st=>IV [(1,.bp 0 0),(3,.p false [.row 1]),(10,.p false [.c (.int .i64 ((i:Nat):Int))])] [.box 82 [.c (.str append_0.name),.c (.int .i64 append_0.priority),.c (.sl 130 5 (List.map ZM append_0.cond)),.c (.sl 134 3 (List.map ZA append_0.thn))],.row 9 1 (List.map Zu v5) 2] st) [] [0,1] (by decide) ?_ ?_ ?_
      ·simp only [*,go_sem,seval]
      ·rintro i155 x156 ⟨⟩ ⟨sl,ob,n⟩ y72 hx73 hI74 hW75 h hy72
       simp only [go_sem,seval,Zd] at hI74
       obtain ⟨⟨g76_1,g76_3,g76_10⟩,og76_0,og76_1,hn⟩:=hI74
       subst hn
       have hlhx73:=WF.boxL hW75 og76_0 (j:=3) rfl
       have q77:=ZF hx73
       have q78:=ZJ hx73
       have q79:=Zi (ZE hx73) hlhx73
       try simp only [*,go_sem,seval]
       obtain ⟨v157,e80,h⟩:=Za h
       refine Zb (by have hh:=Zl9 e80;first|exact hh|(simp only [*,go_sem] at hh;exact hh)) ?_
       try simp only [*,go_sem,seval]
       refine Ze h (fun _ h=>?_) fun _ h=>?_<;>try simp only [*,go_sem,seval]
       ·obtain ⟨v158,e82,h⟩:=Za h
        refine Zb (by have hh:=Zb1 e82;first|exact hh|(simp only [*,go_sem] at hh;exact hh)) ?_
        try simp only [*,go_sem,seval]
        refine Zg h (fun i _ st=>IV [(1,.bp 0 0),(3,.p false [.row 1]),(10,.p false [.c (.int .i64 ((i155:Nat):Int))]),(11,.p false [.row 2]),(12,.p false [.c (.int .i64 ((i:Nat):Int))])] [.box 82 [.c (.str append_0.name),.c (.int .i64 append_0.priority),.c (.sl 130 5 (List.map ZM append_0.cond)),.c (.sl 134 3 (List.map ZA append_0.thn))],.row 9 1 (List.map Zu v5) 2,.row 9 1 (List.map Zu v158) 2] st) [] [0,1,290] (by decide) ?_ ?_ ?_
        ·simp only [*,go_sem,seval]
        ·rintro i164 x165 ⟨⟩ ⟨sl,ob,n⟩ y83 hx84 hI85 hW86 h hy83
         simp only [go_sem,seval,Zd] at hI85
         obtain ⟨⟨g87_1,g87_3,g87_10,g87_11,g87_12⟩,og87_0,og87_1,og87_2,hn⟩:=hI85
         subst hn
         have hlhx84:=WF.rowL hW86 og87_2
         have q88:=ZF hx84
         have q89:=ZJ hx84
         have q90:=Zi (ZE hx84) hlhx84
         try simp only [*,go_sem,seval]
         obtain ⟨v166,e91,h⟩:=Za h
         refine Zb (by have hh:=YG e91;first|exact hh|(simp only [*,go_sem] at hh;exact hh)) ?_
         try simp only [*,go_sem,seval]
         refine Ze h (fun _ h=>?_) fun _ h=>?_<;>try simp only [*,go_sem,seval]
         ·refine ⟨_,[],[0,1,2],(Option.some.inj h).symm,by decide,?_⟩
          try simp only [*,go_sem,seval]
         ·replace h:=Zs h hy83
          replace h:=Zs h hy72
          cases h
          try simp only [*,go_sem,seval]
        ·rintro ⟨⟩ ⟨sl,ob,n⟩ hI93 hW94 h
         simp only [go_sem,seval,Zd] at hI93
         obtain ⟨⟨g95_1,g95_3,g95_10,g95_11,g95_12⟩,og95_0,og95_1,og95_2,hn⟩:=hI93
         subst hn
         have q96:=ZC (v158.length)
         try simp only [*,go_sem,seval]
         refine ⟨_,[],[0,1],(Option.some.inj h).symm,by decide,?_⟩
         try simp only [*,go_sem,seval]
       ·replace h:=Zs h hy72
        cases h
        try simp only [*,go_sem,seval]
      ·rintro ⟨⟩ ⟨sl,ob,n⟩ hI97 hW98 h
       simp only [go_sem,seval,Zd] at hI97
       obtain ⟨⟨g99_1,g99_3,g99_10⟩,og99_0,og99_1,hn⟩:=hI97
       subst hn
       have q100:=ZC (append_0.thn.length)
       try simp only [*,go_sem,seval]
       obtain ⟨v167,e101,h⟩:=Za h
       refine Zb (by have hh:=ZlS e101;first|exact hh|(simp only [*,go_sem] at hh;exact hh)) ?_
       cases h
       try simp only [*,go_sem,seval]
    ·cases h
     try simp only [*,go_sem,seval]
   ·cases h
    try simp only [*,go_sem,seval]
  ·cases h
   try simp only [*,go_sem,seval]
 ·cases h
  try simp only [*,go_sem,seval]
theorem Zka {x_0:Zm} {b_1:(List Zl)} {facts_2:(List Zc)} {r:Bool} (h:ZbZ x_0 b_1 facts_2=some r):Zn Tryz.prog J0 136 [(true,ZM x_0),(false,[.sl 192 2 (List.map Z6 b_1)]),(false,[.sl 57 2 (List.map Zq facts_2)])] [(false,[(false,.bool r)])]:=by
 refine fnk Tryz.func136 (by kernel_rfl) rfl (by kernel_rfl) (by kernel_rfl) ?_
 unfold ZbZ at h
 simp only [fnS,f136,Zo,go_sem,seval]
 obtain ⟨f,a,h⟩:=Za h
 refine Zb (ZfQ a) ?_
 try simp only [*,go_sem,seval]
 refine Ze h (fun _ h=>?_) fun _ h=>?_<;>try simp only [*,go_sem,seval]
 obtain ⟨g,b,h⟩:=Za h
 refine Zb (QF b) ?_
 try simp only [*,go_sem,seval]
 iterate 2 refine Ze h (fun _ h=>?_) fun _ h=>?_<;>try simp only [*,go_sem,seval]
 obtain ⟨i,c,h⟩:=Za h
 refine Zb (ZcQ c) ?_
 cases h
 try simp only [*,go_sem,seval]
 refine Ze h (fun _ h=>?_) fun _ h=>?_<;>try simp only [*,go_sem,seval]
 obtain ⟨j,d,h⟩:=Za h
 refine Zb (ZcQ d) ?_
 cases h
 try simp only [*,go_sem,seval]
 obtain ⟨k,e,h⟩:=Za h
 refine Zb (Zkd e) ?_
 iterate 3 (cases h;try simp only [*,go_sem,seval])
theorem Zly {l_0:(List Zf)} {r:Bool} (h:ZcX l_0=some r):Zn Tryz.prog J0 176 [(false,[.sl 82 4 (List.map ZB l_0)])] [(false,[(false,.bool r)])]:=by
 refine fnk Tryz.func176 (by kernel_rfl) rfl (by kernel_rfl) (by kernel_rfl) ?_
 unfold ZcX at h
 simp only [fnS,f176,Zo,go_sem,seval]
 refine Ze h (fun _ h=>?_) fun _ h=>?_<;>try simp only [*,go_sem,seval]
 cases h
 try simp only [*,go_sem,seval]
 refine Zg h (fun i _ st=>IV [(0,.p false [.c (.sl 82 4 (List.map ZB l_0))]),(8,.p false [.c (.sl 82 4 (List.map ZB l_0))]),(9,.p false [.c (.int .i64 ((l_0.length:Nat):Int))]),(10,.p false [.c (.int .i64 ((i:Nat):Int))])] [] st) [] [] (by decide) ?_ ?_ ?_
 simp only [*,go_sem,seval]
 rintro o q ⟨⟩ ⟨sl,ob,n⟩ t a b f h d
 simp only [go_sem,seval,Zd] at b
 obtain ⟨⟨g,u,v,w⟩,hn⟩:=b
 subst hn
 have k:=WF.slotL f g (j:=0) rfl
 have x:=ZF a
 have y:=ZJ a
 have z:=Zi (ZE a) k
 try simp only [*,go_sem,seval]
 obtain ⟨A,l,h⟩:=Za h
 refine Zb (Zje l) ?_
 try simp only [*,go_sem,seval]
 refine Ze h (fun _ h=>?_) fun _ h=>?_<;>try simp only [*,go_sem,seval]
 obtain ⟨B,m,h⟩:=Za h
 refine Zb (ZlM m) ?_
 try simp only [*,go_sem,seval]
 refine Ze h (fun _ h=>?_) fun _ h=>?_<;>try simp only [*,go_sem,seval]
 replace h:=Zs h d
 cases h
 try simp only [*,go_sem,seval]
 refine ⟨_,[],[],(Option.some.inj h).symm,by decide,?_⟩
 try simp only [*,go_sem,seval]
 replace h:=Zs h d
 cases h
 try simp only [*,go_sem,seval]
 rintro ⟨⟩ ⟨sl,ob,n⟩ e C h
 simp only [go_sem,seval,Zd] at e
 obtain ⟨⟨D,E,F,G⟩,hn⟩:=e
 subst hn
 have H:=ZC (l_0.length)
 cases h
 try simp only [*,go_sem,seval]
theorem Zlq {r_0:Zf} {r:Bool} (h:ZbY r_0=some r):Zn Tryz.prog J0 177 [(true,ZB r_0)] [(false,[(false,.bool r)])]:=by
 refine fnk Tryz.func177 (by kernel_rfl) rfl (by kernel_rfl) (by kernel_rfl) ?_
 unfold ZbY at h
 simp only [fnS,f177,Zo,go_sem,seval]
 obtain ⟨v1,e1,h⟩:=Za h
 refine Zb (by have hh:=Zje e1;first|exact hh|(simp only [*,go_sem] at hh;exact hh)) ?_
 try simp only [*,go_sem,seval]
 refine Ze h (fun _ h=>?_) fun _ h=>?_<;>try simp only [*,go_sem,seval]
 ·obtain ⟨v2,e3,h⟩:=Za h
  refine Zb (by have hh:=ZlO e3;first|exact hh|(simp only [*,go_sem] at hh;exact hh)) ?_
  try simp only [*,go_sem,seval]
  refine Ze h (fun _ h=>?_) fun _ h=>?_<;>try simp only [*,go_sem,seval]
  ·refine Zg h (fun i _ st=>IV [(1,.bp 0 0),(17,.p false [.c (.sl 130 5 (List.map ZM r_0.cond))]),(18,.p false [.c (.int .i64 ((r_0.cond.length:Nat):Int))]),(19,.p false [.c (.int .i64 ((i:Nat):Int))])] [.box 82 [.c (.str r_0.name),.c (.int .i64 r_0.priority),.c (.sl 130 5 (List.map ZM r_0.cond)),.c (.sl 134 3 (List.map ZA r_0.thn))]] st) [] [0] (by decide) ?_ ?_ ?_
   ·simp only [*,go_sem,seval]
   ·rintro i26 x27 ⟨⟩ ⟨sl,ob,n⟩ y5 hx6 hI7 hW8 h hy5
    simp only [go_sem,seval,Zd] at hI7
    obtain ⟨⟨g9_1,g9_17,g9_18,g9_19⟩,og9_0,hn⟩:=hI7
    subst hn
    have hlhx6:=WF.slotL hW8 g9_17 (j:=0) rfl
    have q10:=ZF hx6
    have q11:=ZJ hx6
    have q12:=Zi (ZE hx6) hlhx6
    try simp only [*,go_sem,seval]
    refine Ze h (fun _ h=>?_) fun _ h=>?_<;>try simp only [*,go_sem,seval]
    ·refine ⟨_,[],[0],(Option.some.inj h).symm,by decide,?_⟩
     try simp only [*,go_sem,seval]
    ·obtain ⟨v28,e14,h⟩:=Za h
     refine Zb (by have hh:=ZcE e14;first|exact hh|(simp only [*,go_sem] at hh;exact hh)) ?_
     try simp only [*,go_sem,seval]
     obtain ⟨v29,e15,h⟩:=Za h
     refine Zb (by have hh:=ZbT e15;first|exact hh|(simp only [*,go_sem] at hh;exact hh)) ?_
     try simp only [*,go_sem,seval]
     refine Zg h (fun i _ st=>IV [(1,.bp 0 0),(5,.p false [.row 1]),(17,.p false [.c (.sl 130 5 (List.map ZM r_0.cond))]),(18,.p false [.c (.int .i64 ((r_0.cond.length:Nat):Int))]),(19,.p false [.c (.int .i64 ((i26:Nat):Int))]),(31,.p false [.row 2]),(32,.p false [.c (.int .i64 ((v29.length:Nat):Int))]),(33,.p false [.c (.int .i64 ((i:Nat):Int))])] [.box 82 [.c (.str r_0.name),.c (.int .i64 r_0.priority),.c (.sl 130 5 (List.map ZM r_0.cond)),.c (.sl 134 3 (List.map ZA r_0.thn))],.row 9 1 (List.map Zu v28) 2,.row 9 1 (List.map Zu v29) 2] st) [] [0,193,241] (by decide) ?_ ?_ ?_
     ·simp only [*,go_sem,seval]
     ·rintro i35 x36 ⟨⟩ ⟨sl,ob,n⟩ y16 hx17 hI18 hW19 h hy16
      simp only [go_sem,seval,Zd] at hI18
      obtain ⟨⟨g20_1,g20_5,g20_17,g20_18,g20_19,g20_31,g20_32,g20_33⟩,og20_0,og20_1,og20_2,hn⟩:=hI18
      subst hn
      have hlhx17:=WF.rowL hW19 og20_2
      have q21:=ZF hx17
      have q22:=ZJ hx17
      have q23:=Zi (ZE hx17) hlhx17
      try simp only [*,go_sem,seval]
      obtain ⟨v37,e24,h⟩:=Za h
      refine Zb (by have hh:=Q5 e24;first|exact hh|(simp only [*,go_sem] at hh;exact hh)) ?_
      try simp only [*,go_sem,seval]
      refine Ze h (fun _ h=>?_) fun _ h=>?_<;>try simp only [*,go_sem,seval]
      ·refine ⟨_,[],[0,1,2],(Option.some.inj h).symm,by decide,?_⟩
       try simp only [*,go_sem,seval]
      ·replace h:=Zs h hy16
       replace h:=Zs h hy5
       cases h
       try simp only [*,go_sem,seval]
     ·rintro ⟨⟩ ⟨sl,ob,n⟩ hI26 hW27 h
      simp only [go_sem,seval,Zd] at hI26
      obtain ⟨⟨g28_1,g28_5,g28_17,g28_18,g28_19,g28_31,g28_32,g28_33⟩,og28_0,og28_1,og28_2,hn⟩:=hI26
      subst hn
      have q29:=ZC (v29.length)
      try simp only [*,go_sem,seval]
      refine ⟨_,[],[0],(Option.some.inj h).symm,by decide,?_⟩
      try simp only [*,go_sem,seval]
   ·rintro ⟨⟩ ⟨sl,ob,n⟩ hI30 hW31 h
    simp only [go_sem,seval,Zd] at hI30
    obtain ⟨⟨g32_1,g32_17,g32_18,g32_19⟩,og32_0,hn⟩:=hI30
    subst hn
    have q33:=ZC (r_0.cond.length)
    cases h
    try simp only [*,go_sem,seval]
  ·cases h
   try simp only [*,go_sem,seval]
 ·cases h
  try simp only [*,go_sem,seval]
theorem ZCM {l_0:(List Zc)} {b_1:ZK} {r:(List Zc)} (h:ZBh l_0 b_1=some r):Zn Tryz.prog J0 57 [(false,[.sl 57 2 (List.map Zq l_0)]),(true,Zff b_1)] [(false,[(false,.sl 57 2 (List.map Zq r))])]:=by
 refine fnk Tryz.func57 (by kernel_rfl) rfl (by kernel_rfl) (by kernel_rfl) ?_
 unfold ZBh at h
 simp only [fnS,f57,Zo,go_sem,seval]
 obtain ⟨f,g,h⟩:=Za h
 refine Zb (ZBQ g) ?_
 try simp only [*,go_sem,seval]
 refine Zg h (fun i a st=>IV [(0,.p false [.c (.sl 57 2 (List.map Zq l_0))]),(5,.p false [.row 0]),(6,.p false [.row 1]),(7,.p false [.c (.int .i64 ((i:Nat):Int))])] [.row 57 2 (List.map Zq a) 2,.row 4 1 (List.map Zuz f) 2] st) [] [32,80] (by decide) ?_ ?_ ?_
 simp only [*,go_sem,seval]
 rintro u v a ⟨sl,ob,n⟩ w b d k h l
 simp only [go_sem,seval,Zd] at d
 obtain ⟨⟨m,x,y,z⟩,A,B,hn⟩:=d
 subst hn
 have o:=WF.slotL k m (j:=0) rfl
 have C:=ZF b
 have D:=ZJ b
 have E:=Zi (ZE b) o
 try simp only [*,go_sem,seval]
 refine Ze h (fun _ h=>?_) fun _ h=>?_<;>try simp only [*,go_sem,seval]
 obtain ⟨F,h⟩:=Zx h
 obtain ⟨G,H,h⟩:=Za h
 try simp only [*,go_sem,seval]
 refine Ze h (fun _ h=>?_) fun _ h=>?_<;>try simp only [*,go_sem,seval]
 obtain ⟨I,q,h⟩:=Za h
 refine Zb (XF q) ?_
 obtain ⟨t,h⟩:=Zx h
 try simp only [Nat.reduceLeDiff] at t
 try simp only [*,go_sem,seval]
 refine ⟨_,[],[338,1],(Option.some.inj h).symm,by decide,?_⟩
 try simp only [*,go_sem,seval]
 refine ⟨_,[],[0,1],(Option.some.inj h).symm,by decide,?_⟩
 try simp only [*,go_sem,seval]
 replace h:=Zs h l
 cases h
 try simp only [*,go_sem,seval]
 rintro a ⟨sl,ob,n⟩ e J h
 simp only [go_sem,seval,Zd] at e
 obtain ⟨⟨K,L,M,N⟩,O,P,hn⟩:=e
 subst hn
 have Q:=ZC (l_0.length)
 cases h
 try simp only [*,go_sem,seval]
end Go.Proofs.YtojnhepgnbhaaaaGreatDoor
