/- Texts of this proof, joined: Dp0, Dp1, Dp2, Dp4, Dp3, Dp5, Dp6, Dp7, Dp8. What each holds is said at its theorems. -/
import Derived.Test.YtojnhepgnbhaaaaGreatDoorIsProofQ5
set_option linter.unusedSimpArgs false
set_option linter.unusedVariables false
namespace Go.Proofs.YtojnhepgnbhaaaaGreatDoor
open Go.Proofs.Tryz
set_option linter.unusedSimpArgs false
set_option linter.unusedVariables false
set_option maxRecDepth 1000000
set_option maxHeartbeats 4000000
theorem Ziz {a_0:(List ByteArray)} {b_1:(List ByteArray)} {r:Bool} (h:ZdU a_0 b_1=some r):Zn Tryz.prog J0 158 [(false,[.sl 9 1 (List.map Zu a_0)]),(false,[.sl 9 1 (List.map Zu b_1)])] [(false,[(false,.bool r)])]:=by
 refine fnk Tryz.func158 (by kernel_rfl) rfl (by kernel_rfl) (by kernel_rfl) ?_
 unfold ZdU at h
 simp only [fnS,f158,Zo,go_sem,seval]
 refine Ze h (fun _ h=>?_) fun _ h=>?_<;>try simp only [*,go_sem,seval]
 cases h
 try simp only [*,go_sem,seval]
 refine Zg h (fun i _ st=>IV [(0,.p false [.c (.sl 9 1 (List.map Zu a_0))]),(1,.p false [.c (.sl 9 1 (List.map Zu b_1))]),(5,.p false [.c (.int .i64 ((i:Nat):Int))])] [] st) [] [] (by decide) ?_ ?_ ?_
 simp only [*,go_sem,seval]
 rintro m o ⟨⟩ ⟨sl,ob,n⟩ q a b e h f
 simp only [go_sem,seval,Zd] at b
 obtain ⟨⟨g,t,u⟩,hn⟩:=b
 subst hn
 have k:=WF.slotL e g (j:=0) rfl
 have v:=ZF a
 have w:=ZJ a
 have x:=Zi (ZE a) k
 obtain ⟨y,z,A,l,h⟩:=Zgn h
 simp only [Int.toNat_natCast] at l
 try simp only [*,go_sem,seval]
 refine Ze h (fun _ h=>?_) fun _ h=>?_<;>try simp only [*,go_sem,seval]
 refine ⟨_,[],[],(Option.some.inj h).symm,by decide,?_⟩
 try simp only [*,go_sem,seval]
 replace h:=Zs h f
 cases h
 try simp only [*,go_sem,seval]
 rintro ⟨⟩ ⟨sl,ob,n⟩ d B h
 simp only [go_sem,seval,Zd] at d
 obtain ⟨⟨C,D,E⟩,hn⟩:=d
 subst hn
 have F:=ZC (a_0.length)
 cases h
 try simp only [*,go_sem,seval]
theorem ZnL {l_0:(List ByteArray)} {r:(List ByteArray)} (h:Zee l_0=some r):Zn Tryz.prog J0 144 [(false,[.sl 9 1 (List.map Zu l_0)])] [(false,[(false,.sl 9 1 (List.map Zu r))])]:=by
 refine fnk Tryz.func144 (by kernel_rfl) rfl (by kernel_rfl) (by kernel_rfl) ?_
 unfold Zee at h
 simp only [fnS,f144,Zo,go_sem,seval]
 obtain ⟨a,h⟩:=Zx h
 try simp only [Nat.reduceLeDiff] at a
 cases h
 try simp only [*,go_sem,seval]
theorem ZaS {x_0:Int} {least_1:Int} {most_2:Int} {r:Bool} (h:ZaU x_0 least_1 most_2=some r):Zn Tryz.prog J0 114 [(false,[.int .i64 x_0]),(false,[.int .i64 least_1]),(false,[.int .i64 most_2])] [(false,[(false,.bool r)])]:=by
 refine fnk Tryz.func114 (by kernel_rfl) rfl (by kernel_rfl) (by kernel_rfl) ?_
 unfold ZaU at h
 simp only [fnS,f114,Zo,go_sem,seval]
 refine Ze h (fun _ h=>?_) fun _ h=>?_<;>try simp only [*,go_sem,seval]
 iterate 2 (cases h;try simp only [*,go_sem,seval])
theorem Zf4 {b_0:(List Zl)} {r:(List Zl)} (h:ZbX b_0=some r):Zn Tryz.prog J0 151 [(false,[.sl 192 2 (List.map Z6 b_0)])] [(false,[(false,.sl 192 2 (List.map Z6 r))])]:=by
 refine fnk Tryz.func151 (by kernel_rfl) rfl (by kernel_rfl) (by kernel_rfl) ?_
 unfold ZbX at h
 simp only [fnS,f151,Zo,go_sem,seval]
 obtain ⟨a,h⟩:=Zx h
 try simp only [Nat.reduceLeDiff] at a
 cases h
 try simp only [*,go_sem,seval]
theorem Zqk {a:(List Zl)} {b:ByteArray} {d:ByteArray} {r:(List Zl)} (h:ZhY a b d=some r):Zn Tryz.prog J0 190 [(false,[.sl 192 2 (List.map Z6 a)]),(false,[.str b]),(false,[.str d])] [(false,[(false,.sl 192 2 (List.map Z6 r))])]:=by
 refine fnk Tryz.func190 (by kernel_rfl) rfl (by kernel_rfl) (by kernel_rfl) ?_
 unfold ZhY at h
 simp only [fnS,f190,Zo,go_sem,seval]
 refine Zg h (fun i s st=>match s with | (e,f)=>IV [(0,.p false [.c (.sl 192 2 (List.map Z6 a))]),(1,.p false [.c (.str b)]),(2,.p false [.c (.str d)]),(7,.p false [.row 0]),(8,.p false [.c (.bool f)]),(9,.p false [.c (.int .i64 ((i:Nat):Int))])] [.row 192 2 (List.map Z6 e) 2] st) [] [16] (by decide) ?_ ?_ ?_
 simp only [*,go_sem,seval]
 rintro C D ⟨e,f⟩ ⟨sl,ob,n⟩ E g o t h F
 simp only [go_sem,seval,Zd] at o
 obtain ⟨⟨u,G,H,I,J,K⟩,L,hn⟩:=o
 subst hn
 have v:=WF.slotL t u (j:=0) rfl
 have M:=ZF g
 have N:=ZJ g
 have O:=Zi (ZE g) v
 try simp only [*,go_sem,seval]
 refine Ze h (fun k h=>?_) (fun k h=>?_)<;>try simp only [*,go_sem,seval]
 obtain ⟨w,h⟩:=Zx h
 try simp only [Nat.reduceLeDiff] at w
 try simp only [*,go_sem,seval]
 refine ⟨_,[],[337],(Option.some.inj h).symm,by decide,?_⟩
 try simp only [*,go_sem,seval]
 refine Ze h (fun l h=>?_) (fun l h=>?_)
 have m:=l
 try simp only [k,Bool.false_or,Bool.or_false] at m
 obtain ⟨x,h⟩:=Zx h
 try simp only [Nat.reduceLeDiff] at x
 try simp only [*,go_sem,seval]
 refine ⟨_,[],[337],(Option.some.inj h).symm,by decide,?_⟩
 try simp only [*,go_sem,seval]
 have m:=l
 try simp only [k,Bool.false_or,Bool.or_false] at m
 obtain ⟨y,h⟩:=Zx h
 try simp only [Nat.reduceLeDiff] at y
 obtain ⟨z,h⟩:=Zx h
 try simp only [Nat.reduceLeDiff] at z
 try simp only [*,go_sem,seval]
 refine ⟨_,[],[465],(Option.some.inj h).symm,by decide,?_⟩
 try simp only [*,go_sem,seval]
 rintro ⟨e,f⟩ ⟨sl,ob,n⟩ q P h
 simp only [go_sem,seval,Zd] at q
 obtain ⟨⟨Q,R,S,T,U,V⟩,W,hn⟩:=q
 subst hn
 have X:=ZC (a.length)
 try simp only [*,go_sem,seval]
 refine Ze h (fun _ h=>?_) fun _ h=>?_<;>try simp only [*,go_sem,seval]
 cases h
 try simp only [*,go_sem,seval]
 obtain ⟨A,h⟩:=Zx h
 try simp only [Nat.reduceLeDiff] at A
 cases h
 try simp only [*,go_sem,seval]
theorem ZjZ {a_0:ByteArray} {b_1:ByteArray} {r:Int} (h:Zgh a_0 b_1=some r):Zn Tryz.prog J0 200 [(false,[.str a_0]),(false,[.str b_1])] [(false,[(false,.int .i64 r)])]:=by
 refine fnk Tryz.func200 (by kernel_rfl) rfl (by kernel_rfl) (by kernel_rfl) ?_
 unfold Zgh at h
 simp only [fnS,f200,Zo,go_sem,seval]
 refine Ze h (fun a h=>?_) (fun a h=>?_)<;>try simp only [*,go_sem,seval]
 cases h
 try simp only [*,go_sem,seval]
 refine Ze h (fun b h=>?_) (fun b h=>?_)
 have c:=b
 try simp only [a,Bool.false_or,Bool.or_false] at c
 cases h
 try simp only [*,go_sem,seval]
 have c:=b
 try simp only [a,Bool.false_or,Bool.or_false] at c
 cases h
 try simp only [*,go_sem,seval]
theorem Zio {n_0:Int} {r:ByteArray} (h:Zab n_0=some r):Zn Tryz.prog J0 251 [(false,[.int .i64 n_0])] [(false,[(false,.str r)])]:=by
 refine fnk Tryz.func251 (by kernel_rfl) rfl (by kernel_rfl) (by kernel_rfl) ?_
 unfold Zab at h
 have g:Zcf ⟨#[45,57,50,50,51,51,55,50,48,51,54,56,53,52,55,55,53,56,48,56]⟩=true:=by decide
 have i:Zcf ⟨#[]⟩=true:=by decide
 have j:¬((10:Int)=0):=by decide
 simp only [fnS,f251,Zo,go_sem,seval,g,i,j]
 refine Ze h (fun _ h=>?_) fun _ h=>?_<;>try simp only [*,go_sem,seval]
 cases h
 try simp only [*,go_sem,seval]
 refine Ze h (fun _ h=>?_) fun _ h=>?_<;>try simp only [*,go_sem,seval]
 cases h
 refine Zeh h (fun s st=>match s with | (a,b)=>IV [(0,.p false [.c (.int .i64 a)]),(3,.p false [.c (.str b)])] [] st) [] [] (by decide) ?_ ?_
 simp only [*,go_sem,seval]
 rintro ⟨a,b⟩ ⟨sl,ob,n⟩ l d m h k
 simp only [go_sem,seval,Zd] at d
 obtain ⟨⟨o,q⟩,hn⟩:=d
 subst hn
 obtain ⟨e,h⟩:=Zx h
 try simp only [Nat.reduceLeDiff] at e
 try simp only [go_sem] at e
 try simp only [*,go_sem,seval]
 refine Ze h (fun _ h=>?_) fun _ h=>?_<;>try simp only [*,go_sem,seval]
 replace h:=Zs h k
 cases h
 try simp only [*,go_sem,seval]
 refine ⟨_,[],[],(Option.some.inj h).symm,by decide,?_⟩
 try simp only [*,go_sem,seval]
theorem Zku {n_0:Int} {r:ByteArray} (h:ZaQ n_0=some r):Zn Tryz.prog J0 251 [(false,[.int .i64 n_0])] [(false,[(false,.str r)])]:=by
 refine fnk Tryz.func251 (by kernel_rfl) rfl (by kernel_rfl) (by kernel_rfl) ?_
 unfold ZaQ at h
 have i:Zcf ⟨#[45,57,50,50,51,51,55,50,48,51,54,56,53,52,55,55,53,56,48,56]⟩=true:=by decide
 have j:Zcf ⟨#[45]⟩=true:=by decide
 have k:Zcf ⟨#[]⟩=true:=by decide
 have l:¬((10:Int)=0):=by decide
 simp only [fnS,f251,Zo,go_sem,seval,i,j,k,l]
 refine Ze h (fun _ h=>?_) fun _ h=>?_<;>try simp only [*,go_sem,seval]
 cases h
 try simp only [*,go_sem,seval]
 refine Ze h (fun _ h=>?_) fun _ h=>?_<;>try simp only [*,go_sem,seval]
 obtain ⟨q,m,h⟩:=Za h
 refine Zb (Zio m) ?_
 obtain ⟨a,h⟩:=Zx h
 try simp only [Nat.reduceLeDiff] at a
 try simp only [go_sem] at a
 cases h
 try simp only [*,go_sem,seval]
 refine Zeh h (fun s st=>match s with | (b,d)=>IV [(0,.p false [.c (.int .i64 b)]),(3,.p false [.c (.str d)])] [] st) [] [] (by decide) ?_ ?_
 simp only [*,go_sem,seval]
 rintro ⟨b,d⟩ ⟨sl,ob,n⟩ t e u h o
 simp only [go_sem,seval,Zd] at e
 obtain ⟨⟨v,w⟩,hn⟩:=e
 subst hn
 obtain ⟨f,h⟩:=Zx h
 try simp only [Nat.reduceLeDiff] at f
 try simp only [go_sem] at f
 try simp only [*,go_sem,seval]
 refine Ze h (fun _ h=>?_) fun _ h=>?_<;>try simp only [*,go_sem,seval]
 replace h:=Zs h o
 cases h
 try simp only [*,go_sem,seval]
 refine ⟨_,[],[],(Option.some.inj h).symm,by decide,?_⟩
 try simp only [*,go_sem,seval]
theorem Zei {r_0:Zf} {r:(List Zm)} (h:XQ r_0=some r):Zn Tryz.prog J0 81 [(true,ZB r_0)] [(false,[(true,.sl 130 5 (List.map ZM r))])]:=by
 refine fnk Tryz.func81 (by kernel_rfl) rfl (by kernel_rfl) (by kernel_rfl) ?_
 unfold XQ at h
 simp only [fnS,f81,Zo,go_sem,seval]
 refine Zg h (fun i a st=>IV [(1,.bp 0 0),(3,.p false [.row 1]),(4,.p false [.c (.int .i64 ((i:Nat):Int))])] [.box 82 [.c (.str r_0.name),.c (.int .i64 r_0.priority),.c (.sl 130 5 (List.map ZM r_0.cond)),.c (.sl 134 3 (List.map ZA r_0.thn))],.row 130 5 (List.map ZM a) 1] st) [(true,32,1)] [0,32] (by decide) ?_ ?_ ?_
 simp only [*,go_sem,seval]
 rintro m o a ⟨sl,ob,n⟩ q b d f h t
 simp only [go_sem,seval,Zd] at d
 obtain ⟨⟨u,v,w⟩,g,x,hn⟩:=d
 subst hn
 have k:=WF.boxL f g (j:=2) rfl
 have y:=ZF b
 have z:=ZJ b
 have A:=Zi (ZE b) k
 try simp only [*,go_sem,seval]
 refine Ze h (fun _ h=>?_) fun _ h=>?_<;>try simp only [*,go_sem,seval]
 obtain ⟨l,h⟩:=Zx h
 try simp only [Nat.reduceLeDiff] at l
 try simp only [*,go_sem,seval]
 refine ⟨_,[],[0,306],(Option.some.inj h).symm,by decide,?_⟩
 try simp only [*,go_sem,seval]
 refine ⟨_,[],[0,1],(Option.some.inj h).symm,by decide,?_⟩
 try simp only [*,go_sem,seval]
 rintro a ⟨sl,ob,n⟩ e B h
 simp only [go_sem,seval,Zd] at e
 obtain ⟨⟨C,D,E⟩,F,G,hn⟩:=e
 subst hn
 have H:=ZC (r_0.cond.length)
 cases h
 try simp only [*,go_sem,seval]
theorem Xn {a:(List ByteArray)} {b:ByteArray} {r:(List ByteArray)} (h:XW a b=some r):Zn Tryz.prog J0 197 [(false,[.sl 9 1 (List.map Zu a)]),(false,[.str b])] [(false,[(false,.sl 9 1 (List.map Zu r))])]:=by
 refine fnk Tryz.func197 (by kernel_rfl) rfl (by kernel_rfl) (by kernel_rfl) ?_
 unfold XW at h
 simp only [fnS,f197,Zo,go_sem,seval]
 refine Zg h (fun i s st=>match s with | (d,e)=>IV [(0,.p false [.c (.sl 9 1 (List.map Zu a))]),(1,.p false [.c (.str b)]),(5,.p false [.row 0]),(6,.p false [.c (.bool e)]),(7,.p false [.c (.int .i64 ((i:Nat):Int))])] [.row 9 1 (List.map Zu d) 2] st) [] [16] (by decide) ?_ ?_ ?_
 simp only [*,go_sem,seval]
 rintro z A ⟨d,e⟩ ⟨sl,ob,n⟩ B f g l h C
 simp only [go_sem,seval,Zd] at g
 obtain ⟨⟨m,D,E,F,G⟩,H,hn⟩:=g
 subst hn
 have o:=WF.slotL l m (j:=0) rfl
 have I:=ZF f
 have J:=ZJ f
 have K:=Zi (ZE f) o
 try simp only [*,go_sem,seval]
 refine Ze h (fun _ h=>?_) fun _ h=>?_<;>try simp only [*,go_sem,seval]
 obtain ⟨q,h⟩:=Zx h
 try simp only [Nat.reduceLeDiff] at q
 try simp only [*,go_sem,seval]
 refine ⟨_,[],[321],(Option.some.inj h).symm,by decide,?_⟩
 try simp only [*,go_sem,seval]
 refine Ze h (fun _ h=>?_) fun _ h=>?_<;>try simp only [*,go_sem,seval]
 obtain ⟨t,h⟩:=Zx h
 try simp only [Nat.reduceLeDiff] at t
 try simp only [*,go_sem,seval]
 refine ⟨_,[],[321],(Option.some.inj h).symm,by decide,?_⟩
 try simp only [*,go_sem,seval]
 refine Ze h (fun _ h=>?_) fun _ h=>?_<;>try simp only [*,go_sem,seval]
 obtain ⟨u,h⟩:=Zx h
 try simp only [Nat.reduceLeDiff] at u
 try simp only [*,go_sem,seval]
 refine ⟨_,[],[433],(Option.some.inj h).symm,by decide,?_⟩
 try simp only [*,go_sem,seval]
 obtain ⟨v,h⟩:=Zx h
 try simp only [Nat.reduceLeDiff] at v
 obtain ⟨w,h⟩:=Zx h
 try simp only [Nat.reduceLeDiff] at w
 try simp only [*,go_sem,seval]
 refine ⟨_,[],[513],(Option.some.inj h).symm,by decide,?_⟩
 try simp only [*,go_sem,seval]
 rintro ⟨d,e⟩ ⟨sl,ob,n⟩ k L h
 simp only [go_sem,seval,Zd] at k
 obtain ⟨⟨M,N,O,P,Q⟩,R,hn⟩:=k
 subst hn
 have S:=ZC (a.length)
 try simp only [*,go_sem,seval]
 refine Ze h (fun _ h=>?_) fun _ h=>?_<;>try simp only [*,go_sem,seval]
 cases h
 try simp only [*,go_sem,seval]
 obtain ⟨x,h⟩:=Zx h
 try simp only [Nat.reduceLeDiff] at x
 cases h
 try simp only [*,go_sem,seval]
theorem YG {l_0:(List ByteArray)} {s_1:ByteArray} {r:Bool} (h:ZS l_0 s_1=some r):Zn Tryz.prog J0 198 [(false,[.sl 9 1 (List.map Zu l_0)]),(false,[.str s_1])] [(false,[(false,.bool r)])]:=by
 refine fnk Tryz.func198 (by kernel_rfl) rfl (by kernel_rfl) (by kernel_rfl) ?_
 unfold ZS at h
 simp only [fnS,f198,Zo,go_sem,seval]
 refine Zg h (fun i _ st=>IV [(0,.p false [.c (.sl 9 1 (List.map Zu l_0))]),(1,.p false [.c (.str s_1)]),(5,.p false [.c (.int .i64 ((i:Nat):Int))])] [] st) [] [] (by decide) ?_ ?_ ?_
 simp only [*,go_sem,seval]
 rintro l m ⟨⟩ ⟨sl,ob,n⟩ o a b e h f
 simp only [go_sem,seval,Zd] at b
 obtain ⟨⟨g,q,t⟩,hn⟩:=b
 subst hn
 have k:=WF.slotL e g (j:=0) rfl
 have u:=ZF a
 have v:=ZJ a
 have w:=Zi (ZE a) k
 try simp only [*,go_sem,seval]
 refine Ze h (fun _ h=>?_) fun _ h=>?_<;>try simp only [*,go_sem,seval]
 replace h:=Zs h f
 cases h
 try simp only [*,go_sem,seval]
 refine ⟨_,[],[],(Option.some.inj h).symm,by decide,?_⟩
 try simp only [*,go_sem,seval]
 rintro ⟨⟩ ⟨sl,ob,n⟩ d x h
 simp only [go_sem,seval,Zd] at d
 obtain ⟨⟨y,z,A⟩,hn⟩:=d
 subst hn
 have B:=ZC (l_0.length)
 cases h
 try simp only [*,go_sem,seval]
theorem ZlB {l_0:(List Zf)} {name_1:ByteArray} {r:Int} (h:ZeG l_0 name_1=some r):Zn Tryz.prog J0 113 [(false,[.sl 82 4 (List.map ZB l_0)]),(false,[.str name_1])] [(false,[(false,.int .i64 r)])]:=by
 refine fnk Tryz.func113 (by kernel_rfl) rfl (by kernel_rfl) (by kernel_rfl) ?_
 unfold ZeG at h
 simp only [fnS,f113,Zo,go_sem,seval]
 refine Zg h (fun i _ st=>IV [(0,.p false [.c (.sl 82 4 (List.map ZB l_0))]),(1,.p false [.c (.str name_1)]),(5,.p false [.c (.int .i64 ((i:Nat):Int))])] [] st) [] [] (by decide) ?_ ?_ ?_
 simp only [*,go_sem,seval]
 rintro l m ⟨⟩ ⟨sl,ob,n⟩ o a b e h f
 simp only [go_sem,seval,Zd] at b
 obtain ⟨⟨g,q,t⟩,hn⟩:=b
 subst hn
 have k:=WF.slotL e g (j:=0) rfl
 have u:=ZF a
 have v:=ZJ a
 have w:=Zi (ZE a) k
 try simp only [*,go_sem,seval]
 refine Ze h (fun _ h=>?_) fun _ h=>?_<;>try simp only [*,go_sem,seval]
 replace h:=Zs h f
 cases h
 try simp only [*,go_sem,seval]
 refine ⟨_,[],[],(Option.some.inj h).symm,by decide,?_⟩
 try simp only [*,go_sem,seval]
 rintro ⟨⟩ ⟨sl,ob,n⟩ d x h
 simp only [go_sem,seval,Zd] at d
 obtain ⟨⟨y,z,A⟩,hn⟩:=d
 subst hn
 have B:=ZC (l_0.length)
 cases h
 try simp only [*,go_sem,seval]
theorem ZnR {a:(List Int)} {b:Int} {r:(List Int)} (h:ZfJ a b=some r):Zn Tryz.prog J0 175 [(false,[.sl 3 1 (List.map Qv a)]),(false,[.int .i64 b])] [(false,[(false,.sl 3 1 (List.map Qv r))])]:=by
 refine fnk Tryz.func175 (by kernel_rfl) rfl (by kernel_rfl) (by kernel_rfl) ?_
 unfold ZfJ at h
 simp only [fnS,f175,Zo,go_sem,seval]
 refine Zg h (fun i s st=>match s with | (d,e)=>IV [(0,.p false [.c (.sl 3 1 (List.map Qv a))]),(1,.p false [.c (.int .i64 b)]),(5,.p false [.row 0]),(6,.p false [.c (.bool e)]),(7,.p false [.c (.int .i64 ((i:Nat):Int))])] [.row 3 1 (List.map Qv d) 2] st) [] [16] (by decide) ?_ ?_ ?_
 simp only [*,go_sem,seval]
 rintro z A ⟨d,e⟩ ⟨sl,ob,n⟩ B f k m h C
 simp only [go_sem,seval,Zd] at k
 obtain ⟨⟨o,D,E,F,G⟩,H,hn⟩:=k
 subst hn
 have q:=WF.slotL m o (j:=0) rfl
 have I:=ZF f
 have J:=ZJ f
 have K:=Zi (ZE f) q
 try simp only [*,go_sem,seval]
 refine Ze h (fun _ h=>?_) fun _ h=>?_<;>try simp only [*,go_sem,seval]
 obtain ⟨t,h⟩:=Zx h
 try simp only [Nat.reduceLeDiff] at t
 try simp only [*,go_sem,seval]
 refine ⟨_,[],[321],(Option.some.inj h).symm,by decide,?_⟩
 try simp only [*,go_sem,seval]
 iterate 2 refine Ze h (fun _ h=>?_) fun _ h=>?_<;>try simp only [*,go_sem,seval]
 obtain ⟨u,h⟩:=Zx h
 try simp only [Nat.reduceLeDiff] at u
 obtain ⟨v,h⟩:=Zx h
 try simp only [Nat.reduceLeDiff] at v
 try simp only [*,go_sem,seval]
 refine ⟨_,[],[513],(Option.some.inj h).symm,by decide,?_⟩
 try simp only [*,go_sem,seval]
 obtain ⟨w,h⟩:=Zx h
 try simp only [Nat.reduceLeDiff] at w
 try simp only [*,go_sem,seval]
 refine ⟨_,[],[433],(Option.some.inj h).symm,by decide,?_⟩
 try simp only [*,go_sem,seval]
 obtain ⟨x,h⟩:=Zx h
 try simp only [Nat.reduceLeDiff] at x
 try simp only [*,go_sem,seval]
 refine ⟨_,[],[321],(Option.some.inj h).symm,by decide,?_⟩
 try simp only [*,go_sem,seval]
 rintro ⟨d,e⟩ ⟨sl,ob,n⟩ l L h
 simp only [go_sem,seval,Zd] at l
 obtain ⟨⟨M,N,O,P,Q⟩,R,hn⟩:=l
 subst hn
 have S:=ZC (a.length)
 try simp only [*,go_sem,seval]
 refine Ze h (fun _ h=>?_) fun _ h=>?_<;>try simp only [*,go_sem,seval]
 cases h
 try simp only [*,go_sem,seval]
 obtain ⟨y,h⟩:=Zx h
 try simp only [Nat.reduceLeDiff] at y
 cases h
 try simp only [*,go_sem,seval]
theorem Ze3 {a_0:(List Int)} {b_1:(List Int)} {r:Bool} (h:Zbc a_0 b_1=some r):Zn Tryz.prog J0 129 [(false,[.sl 3 1 (List.map Qv a_0)]),(false,[.sl 3 1 (List.map Qv b_1)])] [(false,[(false,.bool r)])]:=by
 refine fnk Tryz.func129 (by kernel_rfl) rfl (by kernel_rfl) (by kernel_rfl) ?_
 unfold Zbc at h
 simp only [fnS,f129,Zo,go_sem,seval]
 refine Ze h (fun _ h=>?_) fun _ h=>?_<;>try simp only [*,go_sem,seval]
 cases h
 try simp only [*,go_sem,seval]
 refine Zg h (fun i _ st=>IV [(0,.p false [.c (.sl 3 1 (List.map Qv a_0))]),(1,.p false [.c (.sl 3 1 (List.map Qv b_1))]),(5,.p false [.c (.int .i64 ((i:Nat):Int))])] [] st) [] [] (by decide) ?_ ?_ ?_
 simp only [*,go_sem,seval]
 rintro m o ⟨⟩ ⟨sl,ob,n⟩ q a b e h f
 simp only [go_sem,seval,Zd] at b
 obtain ⟨⟨g,t,u⟩,hn⟩:=b
 subst hn
 have k:=WF.slotL e g (j:=0) rfl
 have v:=ZF a
 have w:=ZJ a
 have x:=Zi (ZE a) k
 obtain ⟨y,z,A,l,h⟩:=Zgn h
 simp only [Int.toNat_natCast] at l
 try simp only [*,go_sem,seval]
 refine Ze h (fun _ h=>?_) fun _ h=>?_<;>try simp only [*,go_sem,seval]
 replace h:=Zs h f
 cases h
 try simp only [*,go_sem,seval]
 refine ⟨_,[],[],(Option.some.inj h).symm,by decide,?_⟩
 try simp only [*,go_sem,seval]
 rintro ⟨⟩ ⟨sl,ob,n⟩ d B h
 simp only [go_sem,seval,Zd] at d
 obtain ⟨⟨C,D,E⟩,hn⟩:=d
 subst hn
 have F:=ZC (a_0.length)
 cases h
 try simp only [*,go_sem,seval]
theorem ZkC {a_0:(List ByteArray)} {b_1:(List ByteArray)} {r:Bool} (h:Zb0 a_0 b_1=some r):Zn Tryz.prog J0 161 [(false,[.sl 9 1 (List.map Zu a_0)]),(false,[.sl 9 1 (List.map Zu b_1)])] [(false,[(false,.bool r)])]:=by
 refine fnk Tryz.func161 (by kernel_rfl) rfl (by kernel_rfl) (by kernel_rfl) ?_
 unfold Zb0 at h
 simp only [fnS,f161,Zo,go_sem,seval]
 refine Ze h (fun _ h=>?_) fun _ h=>?_<;>try simp only [*,go_sem,seval]
 cases h
 try simp only [*,go_sem,seval]
 refine Zg h (fun i _ st=>IV [(0,.p false [.c (.sl 9 1 (List.map Zu a_0))]),(1,.p false [.c (.sl 9 1 (List.map Zu b_1))]),(12,.p false [.c (.int .i64 ((a_0.length:Nat):Int))]),(13,.p false [.c (.int .i64 ((i:Nat):Int))])] [] st) [] [] (by decide) ?_ ?_ ?_
 simp only [*,go_sem,seval]
 rintro m o ⟨⟩ ⟨sl,ob,n⟩ q a b e h f
 simp only [go_sem,seval,Zd] at b
 obtain ⟨⟨g,t,u,v⟩,hn⟩:=b
 subst hn
 have k:=WF.slotL e g (j:=0) rfl
 have w:=ZF a
 have x:=ZJ a
 have y:=Zi (ZE a) k
 obtain ⟨z,A,B,l,h⟩:=Zgn h
 simp only [Int.toNat_natCast] at l
 try simp only [*,go_sem,seval]
 refine Ze h (fun _ h=>?_) fun _ h=>?_<;>try simp only [*,go_sem,seval]
 refine ⟨_,[],[],(Option.some.inj h).symm,by decide,?_⟩
 try simp only [*,go_sem,seval]
 replace h:=Zs h f
 cases h
 try simp only [*,go_sem,seval]
 rintro ⟨⟩ ⟨sl,ob,n⟩ d C h
 simp only [go_sem,seval,Zd] at d
 obtain ⟨⟨D,E,F,G⟩,hn⟩:=d
 subst hn
 have H:=ZC (a_0.length)
 cases h
 try simp only [*,go_sem,seval]
theorem Zf2 {l_0:(List ByteArray)} {r:(List ByteArray)} (h:ZaI l_0=some r):Zn Tryz.prog J0 146 [(false,[.sl 9 1 (List.map Zu l_0)])] [(false,[(false,.sl 9 1 (List.map Zu r))])]:=by
 refine fnk Tryz.func146 (by kernel_rfl) rfl (by kernel_rfl) (by kernel_rfl) ?_
 unfold ZaI at h
 simp only [fnS,f146,Zo,go_sem,seval]
 obtain ⟨a,h⟩:=Zx h
 try simp only [Nat.reduceLeDiff] at a
 cases h
 try simp only [*,go_sem,seval]
theorem Qg {s_0:ByteArray} {r:Bool} (h:Qr s_0=some r):Zn Tryz.prog J0 153 [(false,[.str s_0])] [(false,[(false,.bool r)])]:=by
 refine fnk Tryz.func153 (by kernel_rfl) rfl (by kernel_rfl) (by kernel_rfl) ?_
 unfold Qr at h
 simp only [fnS,f153,Zo,go_sem,seval]
 refine Ze h (fun _ h=>?_) fun _ h=>?_<;>try simp only [*,go_sem,seval]
 ·cases h
  try simp only [*,go_sem,seval]
 ·refine Ze h (fun _ h=>?_) fun _ h=>?_<;>try simp only [*,go_sem,seval]
  ·cases h
   try simp only [*,go_sem,seval]
  ·refine Zg h (fun i _ st=>IV [(0,.p false [.c (.str s_0)]),(3,.p false [.c (.int .i64 ((i:Nat):Int))])] [] st) [] [] (by decide) ?_ ?_ ?_
   ·simp only [*,go_sem,seval]
   ·rintro i4 x5 ⟨⟩ ⟨sl,ob,n⟩ y3 hx4 hI5 hW6 h hy3
    simp only [go_sem,seval,Zd] at hI5
    obtain ⟨⟨g7_0,g7_3⟩,hn⟩:=hI5
    subst hn
    have hlhx4:=WF.slotS hW6 g7_0 (j:=0) rfl
    have q8:=ZnD hx4
    have q9:=ZsC hx4
    have q10:=Zi (ZqE hx4) hlhx4
    try simp only [*,go_sem,seval]
    refine Ze h (fun _ h=>?_) fun _ h=>?_<;>try simp only [*,go_sem,seval]
    ·refine Ze h (fun _ h=>?_) fun _ h=>?_<;>try simp only [*,go_sem,seval]
     ·replace h:=Zs h hy3
      cases h
      try simp only [*,go_sem,seval]
     ·refine Ze h (fun _ h=>?_) fun _ h=>?_<;>try simp only [*,go_sem,seval]
      ·replace h:=Zs h hy3
       cases h
       try simp only [*,go_sem,seval]
      ·refine ⟨_,[],[],(Option.some.inj h).symm,by decide,?_⟩
       try simp only [*,go_sem,seval]
    ·refine Ze h (fun _ h=>?_) fun _ h=>?_<;>try simp only [*,go_sem,seval]
     ·refine Ze h (fun _ h=>?_) fun _ h=>?_<;>try simp only [*,go_sem,seval]
      ·replace h:=Zs h hy3
       cases h
       try simp only [*,go_sem,seval]
      ·refine Ze h (fun _ h=>?_) fun _ h=>?_<;>try simp only [*,go_sem,seval]
       ·replace h:=Zs h hy3
        cases h
        try simp only [*,go_sem,seval]
       ·refine ⟨_,[],[],(Option.some.inj h).symm,by decide,?_⟩
        try simp only [*,go_sem,seval]
     ·refine ⟨_,[],[],(Option.some.inj h).symm,by decide,?_⟩
      try simp only [*,go_sem,seval]
   ·rintro ⟨⟩ ⟨sl,ob,n⟩ hI17 hW18 h
    simp only [go_sem,seval,Zd] at hI17
    obtain ⟨⟨g19_0,g19_3⟩,hn⟩:=hI17
    subst hn
    have q20:=ZC (s_0.size)
    cases h
    try simp only [*,go_sem,seval]
theorem ZfS {b_0:(List Zl)} {r:(List Zl)} (h:ZaB b_0=some r):Zn Tryz.prog J0 156 [(false,[.sl 192 2 (List.map Z6 b_0)])] [(false,[(false,.sl 192 2 (List.map Z6 r))])]:=by
 refine fnk Tryz.func156 (by kernel_rfl) rfl (by kernel_rfl) (by kernel_rfl) ?_
 unfold ZaB at h
 simp only [fnS,f156,Zo,go_sem,seval]
 obtain ⟨a,h⟩:=Zx h
 try simp only [Nat.reduceLeDiff] at a
 cases h
 try simp only [*,go_sem,seval]
theorem QZ {p_0:Zv} {r:Bool} (h:Xc p_0=some r):Zn Tryz.prog J0 213 [(true,QQ p_0)] [(false,[(false,.bool r)])]:=by
 refine fnk Tryz.func213 (by kernel_rfl) rfl (by kernel_rfl) (by kernel_rfl) ?_
 unfold Xc at h
 have a:Zcf ⟨#[]⟩=true:=by decide
 simp only [fnS,f213,Zo,go_sem,seval,a]
 refine Ze h (fun _ h=>?_) fun _ h=>?_<;>try simp only [*,go_sem,seval]
 iterate 2 (cases h;try simp only [*,go_sem,seval])
theorem Zkn {n_0:Int} {r:ByteArray} (h:ZaJ n_0=some r):Zn Tryz.prog J0 237 [(false,[.int .i64 n_0])] [(false,[(false,.str r)])]:=by
 refine fnk Tryz.func237 (by kernel_rfl) rfl (by kernel_rfl) (by kernel_rfl) ?_
 unfold ZaJ at h
 have a:Zcf ⟨#[]⟩=true:=by decide
 simp only [fnS,f237,Zo,go_sem,seval,a]
 obtain ⟨c,b,h⟩:=Za h
 refine Zb (ZrM b) ?_
 cases h
 try simp only [*,go_sem,seval]
theorem Zep {r_0:Zf} {r:(List Zm)} (h:YU r_0=some r):Zn Tryz.prog J0 88 [(true,ZB r_0)] [(false,[(true,.sl 130 5 (List.map ZM r))])]:=by
 refine fnk Tryz.func88 (by kernel_rfl) rfl (by kernel_rfl) (by kernel_rfl) ?_
 unfold YU at h
 simp only [fnS,f88,Zo,go_sem,seval]
 refine Zg h (fun i a st=>IV [(3,.p false [.row 0]),(7,.p false [.c (.sl 130 5 (List.map ZM r_0.cond))]),(8,.p false [.c (.int .i64 ((r_0.cond.length:Nat):Int))]),(9,.p false [.c (.int .i64 ((i:Nat):Int))])] [.row 130 5 (List.map ZM a) 1] st) [(false,3,0),(true,112,1)] [112] (by decide) ?_ ?_ ?_
 simp only [*,go_sem,seval]
 rintro m o a ⟨sl,ob,n⟩ q b d f h t
 simp only [go_sem,seval,Zd] at d
 obtain ⟨⟨u,g,v,w⟩,x,hn⟩:=d
 subst hn
 have k:=WF.slotL f g (j:=0) rfl
 have y:=ZF b
 have z:=ZJ b
 have A:=Zi (ZE b) k
 try simp only [*,go_sem,seval]
 refine Ze h (fun _ h=>?_) fun _ h=>?_<;>try simp only [*,go_sem,seval]
 obtain ⟨l,h⟩:=Zx h
 try simp only [Nat.reduceLeDiff] at l
 try simp only [*,go_sem,seval]
 refine ⟨_,[],[177],(Option.some.inj h).symm,by decide,?_⟩
 try simp only [*,go_sem,seval]
 refine ⟨_,[],[0],(Option.some.inj h).symm,by decide,?_⟩
 try simp only [*,go_sem,seval]
 rintro a ⟨sl,ob,n⟩ e B h
 simp only [go_sem,seval,Zd] at e
 obtain ⟨⟨C,D,E,F⟩,G,hn⟩:=e
 subst hn
 have H:=ZC (r_0.cond.length)
 cases h
 try simp only [*,go_sem,seval]
theorem ZlM {a:(List Zf)} {b:ByteArray} {r:Int} (h:Zat a b=some r):Zn Tryz.prog J0 118 [(false,[.sl 82 4 (List.map ZB a)]),(false,[.str b])] [(false,[(false,.int .i64 r)])]:=by
 refine fnk Tryz.func118 (by kernel_rfl) rfl (by kernel_rfl) (by kernel_rfl) ?_
 unfold Zat at h
 simp only [fnS,f118,Zo,go_sem,seval]
 refine Zg h (fun i _ st=>IV [(1,.p false [.c (.str b)]),(7,.p false [.c (.sl 82 4 (List.map ZB a))]),(8,.p false [.c (.int .i64 ((a.length:Nat):Int))]),(9,.p false [.c (.int .i64 ((i:Nat):Int))])] [] st) [] [] (by decide) ?_ ?_ ?_
 simp only [*,go_sem,seval]
 rintro o q ⟨⟩ ⟨sl,ob,n⟩ t d e g h k
 simp only [go_sem,seval,Zd] at e
 obtain ⟨⟨u,l,v,w⟩,hn⟩:=e
 subst hn
 have m:=WF.slotL g l (j:=0) rfl
 have x:=ZF d
 have y:=ZJ d
 have z:=Zi (ZE d) m
 try simp only [*,go_sem,seval]
 refine Ze h (fun _ h=>?_) fun _ h=>?_<;>try simp only [*,go_sem,seval]
 replace h:=Zs h k
 cases h
 try simp only [*,go_sem,seval]
 refine ⟨_,[],[],(Option.some.inj h).symm,by decide,?_⟩
 try simp only [*,go_sem,seval]
 rintro ⟨⟩ ⟨sl,ob,n⟩ f A h
 simp only [go_sem,seval,Zd] at f
 obtain ⟨⟨B,C,D,E⟩,hn⟩:=f
 subst hn
 have F:=ZC (a.length)
 cases h
 try simp only [*,go_sem,seval]
theorem X5 {l_0:(List ByteArray)} {r:(List ByteArray)} (h:Yp l_0=some r):Zn Tryz.prog J0 209 [(false,[.sl 9 1 (List.map Zu l_0)])] [(false,[(false,.sl 9 1 (List.map Zu r))])]:=by
 refine fnk Tryz.func209 (by kernel_rfl) rfl (by kernel_rfl) (by kernel_rfl) ?_
 unfold Yp at h
 simp only [fnS,f209,Zo,go_sem,seval]
 obtain ⟨g,h⟩:=Zx h
 try simp only [Nat.reduceLeDiff] at g
 try simp only [*,go_sem,seval]
 obtain ⟨a,j,h⟩:=Za h
 refine ZsX (ZiP j) ?_
 try simp only [*,go_sem,seval]
 refine Zg h (fun i b st=>IV [(3,.p false [.row 0]),(4,.p false [.row 1]),(11,.p false [.row 0]),(12,.p false [.c (.int .i64 ((a.length:Nat):Int))]),(13,.p false [.c (.int .i64 ((i:Nat):Int))])] [.row 9 1 (List.map Zu a) 2,.row 9 1 (List.map Zu b) 2] st) [(false,4,0)] [32,160] (by decide) ?_ ?_ ?_
 simp only [*,go_sem,seval]
 rintro t u b ⟨sl,ob,n⟩ v d e k h w
 simp only [go_sem,seval,Zd] at e
 obtain ⟨⟨x,y,z,A,B⟩,l,C,hn⟩:=e
 subst hn
 have m:=WF.rowL k l
 have D:=ZF d
 have E:=ZJ d
 have F:=Zi (ZE d) m
 try simp only [*,go_sem,seval]
 refine Ze h (fun _ h=>?_) fun _ h=>?_<;>try simp only [*,go_sem,seval]
 obtain ⟨o,h⟩:=Zx h
 try simp only [Nat.reduceLeDiff] at o
 try simp only [*,go_sem,seval]
 refine ⟨_,[],[0,322],(Option.some.inj h).symm,by decide,?_⟩
 try simp only [*,go_sem,seval]
 obtain ⟨G,h⟩:=Zx h
 obtain ⟨H,I,h⟩:=Za h
 try simp only [*,go_sem,seval]
 refine Ze h (fun _ h=>?_) fun _ h=>?_<;>try simp only [*,go_sem,seval]
 refine ⟨_,[],[0,1],(Option.some.inj h).symm,by decide,?_⟩
 try simp only [*,go_sem,seval]
 obtain ⟨q,h⟩:=Zx h
 try simp only [Nat.reduceLeDiff] at q
 try simp only [*,go_sem,seval]
 refine ⟨_,[],[0,322],(Option.some.inj h).symm,by decide,?_⟩
 try simp only [*,go_sem,seval]
 rintro b ⟨sl,ob,n⟩ f J h
 simp only [go_sem,seval,Zd] at f
 obtain ⟨⟨K,L,M,N,O⟩,P,Q,hn⟩:=f
 subst hn
 have R:=ZC (a.length)
 cases h
 try simp only [*,go_sem,seval]
theorem Q5 {l_0:(List ByteArray)} {s_1:ByteArray} {r:Bool} (h:Xh l_0 s_1=some r):Zn Tryz.prog J0 207 [(false,[.sl 9 1 (List.map Zu l_0)]),(false,[.str s_1])] [(false,[(false,.bool r)])]:=by
 refine fnk Tryz.func207 (by kernel_rfl) rfl (by kernel_rfl) (by kernel_rfl) ?_
 unfold Xh at h
 simp only [fnS,f207,Zo,go_sem,seval]
 refine Zg h (fun i _ st=>IV [(1,.p false [.c (.str s_1)]),(7,.p false [.c (.sl 9 1 (List.map Zu l_0))]),(8,.p false [.c (.int .i64 ((l_0.length:Nat):Int))]),(9,.p false [.c (.int .i64 ((i:Nat):Int))])] [] st) [] [] (by decide) ?_ ?_ ?_
 simp only [*,go_sem,seval]
 rintro l m ⟨⟩ ⟨sl,ob,n⟩ o a b e h f
 simp only [go_sem,seval,Zd] at b
 obtain ⟨⟨q,g,t,u⟩,hn⟩:=b
 subst hn
 have k:=WF.slotL e g (j:=0) rfl
 have v:=ZF a
 have w:=ZJ a
 have x:=Zi (ZE a) k
 try simp only [*,go_sem,seval]
 refine Ze h (fun _ h=>?_) fun _ h=>?_<;>try simp only [*,go_sem,seval]
 replace h:=Zs h f
 cases h
 try simp only [*,go_sem,seval]
 refine ⟨_,[],[],(Option.some.inj h).symm,by decide,?_⟩
 try simp only [*,go_sem,seval]
 rintro ⟨⟩ ⟨sl,ob,n⟩ d y h
 simp only [go_sem,seval,Zd] at d
 obtain ⟨⟨z,A,B,C⟩,hn⟩:=d
 subst hn
 have D:=ZC (l_0.length)
 cases h
 try simp only [*,go_sem,seval]
theorem ZlO {r_0:Zf} {r:Bool} (h:Zdh r_0=some r):Zn Tryz.prog J0 204 [(true,ZB r_0)] [(false,[(false,.bool r)])]:=by
 refine fnk Tryz.func204 (by kernel_rfl) rfl (by kernel_rfl) (by kernel_rfl) ?_
 unfold Zdh at h
 simp only [fnS,f204,Zo,go_sem,seval]
 refine Zg h (fun i _ st=>IV [(6,.p false [.c (.sl 134 3 (List.map ZA r_0.thn))]),(7,.p false [.c (.int .i64 ((r_0.thn.length:Nat):Int))]),(8,.p false [.c (.int .i64 ((i:Nat):Int))])] [] st) [] [] (by decide) ?_ ?_ ?_
 simp only [*,go_sem,seval]
 rintro l m ⟨⟩ ⟨sl,ob,n⟩ o a b e h f
 simp only [go_sem,seval,Zd] at b
 obtain ⟨⟨g,q,t⟩,hn⟩:=b
 subst hn
 have k:=WF.slotL e g (j:=0) rfl
 have u:=ZF a
 have v:=ZJ a
 have w:=Zi (ZE a) k
 try simp only [*,go_sem,seval]
 refine Ze h (fun _ h=>?_) fun _ h=>?_<;>try simp only [*,go_sem,seval]
 replace h:=Zs h f
 cases h
 try simp only [*,go_sem,seval]
 refine ⟨_,[],[],(Option.some.inj h).symm,by decide,?_⟩
 try simp only [*,go_sem,seval]
 rintro ⟨⟩ ⟨sl,ob,n⟩ d x h
 simp only [go_sem,seval,Zd] at d
 obtain ⟨⟨y,z,A⟩,hn⟩:=d
 subst hn
 have B:=ZC (r_0.thn.length)
 cases h
 try simp only [*,go_sem,seval]
end Go.Proofs.YtojnhepgnbhaaaaGreatDoor
namespace Go.Proofs.YtojnhepgnbhaaaaGreatDoor
open Go.Proofs.Tryz
set_option linter.unusedSimpArgs false
set_option linter.unusedVariables false
set_option maxRecDepth 1000000
set_option maxHeartbeats 4000000
theorem ZbC {a_0:Int} {b_1:Int} {r:Int} (h:XP a_0 b_1=some r):Zn Tryz.prog J0 212 [(false,[.int .i64 a_0]),(false,[.int .i64 b_1])] [(false,[(false,.int .i64 r)])]:=by
 refine fnk Tryz.func212 (by kernel_rfl) rfl (by kernel_rfl) (by kernel_rfl) ?_
 unfold XP at h
 simp only [fnS,f212,Zo,go_sem,seval]
 refine Ze h (fun _ h=>?_) fun _ h=>?_<;>try simp only [*,go_sem,seval]
 ·cases h
  try simp only [*,go_sem,seval]
 ·refine Ze h (fun _ h=>?_) fun _ h=>?_<;>try simp only [*,go_sem,seval]
  ·cases h
   try simp only [*,go_sem,seval]
  ·cases h
   try simp only [*,go_sem,seval]
theorem ZoY {l_0:(List Int)} {n_1:Int} {r:Bool} (h:ZfY l_0 n_1=some r):Zn Tryz.prog J0 110 [(false,[.sl 3 1 (List.map Qv l_0)]),(false,[.int .i64 n_1])] [(false,[(false,.bool r)])]:=by
 refine fnk Tryz.func110 (by kernel_rfl) rfl (by kernel_rfl) (by kernel_rfl) ?_
 unfold ZfY at h
 simp only [fnS,f110,Zo,go_sem,seval]
 refine Zg h (fun i _ st=>IV [(1,.p false [.c (.int .i64 n_1)]),(7,.p false [.c (.sl 3 1 (List.map Qv l_0))]),(8,.p false [.c (.int .i64 ((l_0.length:Nat):Int))]),(9,.p false [.c (.int .i64 ((i:Nat):Int))])] [] st) [] [] (by decide) ?_ ?_ ?_
 simp only [*,go_sem,seval]
 rintro l m ⟨⟩ ⟨sl,ob,n⟩ o a b e h f
 simp only [go_sem,seval,Zd] at b
 obtain ⟨⟨q,g,t,u⟩,hn⟩:=b
 subst hn
 have k:=WF.slotL e g (j:=0) rfl
 have v:=ZF a
 have w:=ZJ a
 have x:=Zi (ZE a) k
 try simp only [*,go_sem,seval]
 refine Ze h (fun _ h=>?_) fun _ h=>?_<;>try simp only [*,go_sem,seval]
 replace h:=Zs h f
 cases h
 try simp only [*,go_sem,seval]
 refine ⟨_,[],[],(Option.some.inj h).symm,by decide,?_⟩
 try simp only [*,go_sem,seval]
 rintro ⟨⟩ ⟨sl,ob,n⟩ d y h
 simp only [go_sem,seval,Zd] at d
 obtain ⟨⟨z,A,B,C⟩,hn⟩:=d
 subst hn
 have D:=ZC (l_0.length)
 cases h
 try simp only [*,go_sem,seval]
theorem ZgG {a_0:(List Int)} {b_1:(List Int)} {r:Bool} (h:Zbt a_0 b_1=some r):Zn Tryz.prog J0 184 [(false,[.sl 3 1 (List.map Qv a_0)]),(false,[.sl 3 1 (List.map Qv b_1)])] [(false,[(false,.bool r)])]:=by
 refine fnk Tryz.func184 (by kernel_rfl) rfl (by kernel_rfl) (by kernel_rfl) ?_
 unfold Zbt at h
 simp only [fnS,f184,Zo,go_sem,seval]
 refine Ze h (fun _ h=>?_) fun _ h=>?_<;>try simp only [*,go_sem,seval]
 cases h
 try simp only [*,go_sem,seval]
 refine Zg h (fun i _ st=>IV [(0,.p false [.c (.sl 3 1 (List.map Qv a_0))]),(1,.p false [.c (.sl 3 1 (List.map Qv b_1))]),(12,.p false [.c (.int .i64 ((a_0.length:Nat):Int))]),(13,.p false [.c (.int .i64 ((i:Nat):Int))])] [] st) [] [] (by decide) ?_ ?_ ?_
 simp only [*,go_sem,seval]
 rintro m o ⟨⟩ ⟨sl,ob,n⟩ q a b e h f
 simp only [go_sem,seval,Zd] at b
 obtain ⟨⟨g,t,u,v⟩,hn⟩:=b
 subst hn
 have k:=WF.slotL e g (j:=0) rfl
 have w:=ZF a
 have x:=ZJ a
 have y:=Zi (ZE a) k
 obtain ⟨z,A,B,l,h⟩:=Zgn h
 simp only [Int.toNat_natCast] at l
 try simp only [*,go_sem,seval]
 refine Ze h (fun _ h=>?_) fun _ h=>?_<;>try simp only [*,go_sem,seval]
 replace h:=Zs h f
 cases h
 try simp only [*,go_sem,seval]
 refine ⟨_,[],[],(Option.some.inj h).symm,by decide,?_⟩
 try simp only [*,go_sem,seval]
 rintro ⟨⟩ ⟨sl,ob,n⟩ d C h
 simp only [go_sem,seval,Zd] at d
 obtain ⟨⟨D,E,F,G⟩,hn⟩:=d
 subst hn
 have H:=ZC (a_0.length)
 cases h
 try simp only [*,go_sem,seval]
theorem ZCA {l_0:(List Int)} {r:(List Int)} (h:ZBf l_0=some r):Zn Tryz.prog J0 191 [(false,[.sl 3 1 (List.map Qv l_0)])] [(false,[(false,.sl 3 1 (List.map Qv r))])]:=by
 refine fnk Tryz.func191 (by kernel_rfl) rfl (by kernel_rfl) (by kernel_rfl) ?_
 unfold ZBf at h
 simp only [fnS,f191,Zo,go_sem,seval]
 obtain ⟨a,h⟩:=Zx h
 try simp only [Nat.reduceLeDiff] at a
 cases h
 try simp only [*,go_sem,seval]
theorem ZBB {l_0:(List Int)} {rounds_1:(List Int)} {round_2:Int} {r:Bool} (h:ZAq l_0 rounds_1 round_2=some r):Zn Tryz.prog J0 220 [(false,[.sl 3 1 (List.map Qv l_0)]),(false,[.sl 3 1 (List.map Qv rounds_1)]),(false,[.int .i64 round_2])] [(false,[(false,.bool r)])]:=by
 refine fnk Tryz.func220 (by kernel_rfl) rfl (by kernel_rfl) (by kernel_rfl) ?_
 unfold ZAq at h
 simp only [fnS,f220,Zo,go_sem,seval]
 refine Zg h (fun i _ st=>IV [(0,.p false [.c (.sl 3 1 (List.map Qv l_0))]),(1,.p false [.c (.sl 3 1 (List.map Qv rounds_1))]),(2,.p false [.c (.int .i64 round_2)]),(7,.p false [.c (.int .i64 ((i:Nat):Int))])] [] st) [] [] (by decide) ?_ ?_ ?_
 simp only [*,go_sem,seval]
 rintro l m ⟨⟩ ⟨sl,ob,n⟩ o a b f h d
 simp only [go_sem,seval,Zd] at b
 obtain ⟨⟨g,q,t,u⟩,hn⟩:=b
 subst hn
 have k:=WF.slotL f g (j:=0) rfl
 have v:=ZF a
 have w:=ZJ a
 have x:=Zi (ZE a) k
 obtain ⟨y,z,A,B,h⟩:=Zgn h
 try simp only [*,go_sem,seval]
 refine Ze h (fun _ h=>?_) fun _ h=>?_<;>try simp only [*,go_sem,seval]
 replace h:=Zs h d
 cases h
 try simp only [*,go_sem,seval]
 refine Ze h (fun _ h=>?_) fun _ h=>?_<;>try simp only [*,go_sem,seval]
 replace h:=Zs h d
 cases h
 try simp only [*,go_sem,seval]
 refine ⟨_,[],[],(Option.some.inj h).symm,by decide,?_⟩
 try simp only [*,go_sem,seval]
 rintro ⟨⟩ ⟨sl,ob,n⟩ e C h
 simp only [go_sem,seval,Zd] at e
 obtain ⟨⟨D,E,F,G⟩,hn⟩:=e
 subst hn
 have H:=ZC (l_0.length)
 cases h
 try simp only [*,go_sem,seval]
theorem ZCf {l_0:(List Int)} {rounds_1:(List Int)} {r:Bool} (h:ZAH l_0 rounds_1=some r):Zn Tryz.prog J0 221 [(false,[.sl 3 1 (List.map Qv l_0)]),(false,[.sl 3 1 (List.map Qv rounds_1)])] [(false,[(false,.bool r)])]:=by
 refine fnk Tryz.func221 (by kernel_rfl) rfl (by kernel_rfl) (by kernel_rfl) ?_
 unfold ZAH at h
 simp only [fnS,f221,Zo,go_sem,seval]
 refine Zg h (fun i _ st=>IV [(0,.p false [.c (.sl 3 1 (List.map Qv l_0))]),(1,.p false [.c (.sl 3 1 (List.map Qv rounds_1))]),(5,.p false [.c (.int .i64 ((i:Nat):Int))])] [] st) [] [] (by decide) ?_ ?_ ?_
 simp only [*,go_sem,seval]
 rintro l m ⟨⟩ ⟨sl,ob,n⟩ o a b e h f
 simp only [go_sem,seval,Zd] at b
 obtain ⟨⟨g,q,t⟩,hn⟩:=b
 subst hn
 have k:=WF.slotL e g (j:=0) rfl
 have u:=ZF a
 have v:=ZJ a
 have w:=Zi (ZE a) k
 obtain ⟨x,y,z,A,h⟩:=Zgn h
 try simp only [*,go_sem,seval]
 refine Ze h (fun _ h=>?_) fun _ h=>?_<;>try simp only [*,go_sem,seval]
 replace h:=Zs h f
 cases h
 try simp only [*,go_sem,seval]
 refine ⟨_,[],[],(Option.some.inj h).symm,by decide,?_⟩
 try simp only [*,go_sem,seval]
 rintro ⟨⟩ ⟨sl,ob,n⟩ d B h
 simp only [go_sem,seval,Zd] at d
 obtain ⟨⟨C,D,E⟩,hn⟩:=d
 subst hn
 have F:=ZC (l_0.length)
 cases h
 try simp only [*,go_sem,seval]
theorem ZCv {append_0:ZK} {r:(List Int)} (h:ZAW append_0=some r):Zn Tryz.prog J0 188 [(true,Zff append_0)] [(false,[(false,.sl 3 1 (List.map Qv r))])]:=by
 refine fnk Tryz.func188 (by kernel_rfl) rfl (by kernel_rfl) (by kernel_rfl) ?_
 unfold ZAW at h
 simp only [fnS,f188,Zo,go_sem,seval]
 obtain ⟨p1,h⟩:=Zx h
 try simp only [*,go_sem,seval]
 refine Zeh h (fun s st=>match s with | (row_92,u_93)=>IV [(1,.bp 0 0),(3,.p false [.row 1]),(4,.p false [.c (.bool u_93)])] [.box 29 [.c (.int .i64 append_0.nodes),.c (.sl 114 3 (List.map Yn append_0.reasons))],.row 3 1 (List.map Qv row_92) 2] st) [] [0,64] (by decide) ?_ ?_
 ·simp only [*,go_sem,seval]
 ·rintro ⟨row_92,u_93⟩ ⟨sl,ob,n⟩ y2 hI3 hW4 h hy2
  simp only [go_sem,seval,Zd] at hI3
  obtain ⟨⟨g5_1,g5_3,g5_4⟩,og5_0,og5_1,hn⟩:=hI3
  subst hn
  try simp only [*,go_sem,seval]
  refine Ze h (fun _ h=>?_) fun _ h=>?_<;>try simp only [*,go_sem,seval]
  ·refine Zg h (fun i s st=>match s with | (row_123,u_125)=>IV [(1,.bp 0 0),(3,.p false [.row 1]),(4,.p false [.c (.bool u_125)]),(17,.p false [.c (.sl 114 3 (List.map Yn append_0.reasons))]),(18,.p false [.c (.int .i64 ((append_0.reasons.length:Nat):Int))]),(19,.p false [.c (.int .i64 ((i:Nat):Int))])] [.box 29 [.c (.int .i64 append_0.nodes),.c (.sl 114 3 (List.map Yn append_0.reasons))],.row 3 1 (List.map Qv row_123) 2] st) [] [0,1] (by decide) ?_ ?_ ?_
   ·simp only [*,go_sem,seval]
   ·rintro i155 x156 ⟨row_123,u_125⟩ ⟨sl,ob,n⟩ y7 hx8 hI9 hW10 h hy7
    simp only [go_sem,seval,Zd] at hI9
    obtain ⟨⟨g11_1,g11_3,g11_4,g11_17,g11_18,g11_19⟩,og11_0,og11_1,hn⟩:=hI9
    subst hn
    have hlhx8:=WF.slotL hW10 g11_17 (j:=0) rfl
    have q12:=ZF hx8
    have q13:=ZJ hx8
    have q14:=Zi (ZE hx8) hlhx8
    obtain ⟨p15,h⟩:=Zx h
    obtain ⟨x157,e16,h⟩:=Za h
    try simp only [*,go_sem,seval]
    refine Zg h (fun i u_161 st=>IV [(1,.bp 0 0),(3,.p false [.row 1]),(4,.p false [.c (.bool u_125)]),(6,.bp 2 0),(7,.p false [.c (.int .i64 u_161)]),(17,.p false [.c (.sl 114 3 (List.map Yn append_0.reasons))]),(18,.p false [.c (.int .i64 ((append_0.reasons.length:Nat):Int))]),(19,.p false [.c (.int .i64 ((i155:Nat):Int))]),(29,.p false [.c (.sl 3 1 (List.map Qv x156.inn))]),(30,.p false [.c (.int .i64 ((x156.inn.length:Nat):Int))]),(31,.p false [.c (.int .i64 ((i:Nat):Int))])] [.box 29 [.c (.int .i64 append_0.nodes),.c (.sl 114 3 (List.map Yn append_0.reasons))],.row 3 1 (List.map Qv row_123) 2,.box 114 [.c (.int .i64 x156.for_),.c (.sl 3 1 (List.map Qv x156.inn)),.c (.sl 3 1 (List.map Qv x156.outs))]] st) [] [0,1,50] (by decide) ?_ ?_ ?_
    ·simp only [*,go_sem,seval]
    ·rintro i173 x174 u_161 ⟨sl,ob,n⟩ y17 hx18 hI19 hW20 h hy17
     simp only [go_sem,seval,Zd] at hI19
     obtain ⟨⟨g21_1,g21_3,g21_4,g21_6,g21_7,g21_17,g21_18,g21_19,g21_29,g21_30,g21_31⟩,og21_0,og21_1,og21_2,hn⟩:=hI19
     subst hn
     have hlhx18:=WF.slotL hW20 g21_29 (j:=0) rfl
     have q22:=ZF hx18
     have q23:=ZJ hx18
     have q24:=Zi (ZE hx18) hlhx18
     obtain ⟨p25,h⟩:=Zx h
     obtain ⟨x175,e26,h⟩:=Za h
     try simp only [*,go_sem,seval]
     refine ⟨_,[],[0,1,2],(Option.some.inj h).symm,by decide,?_⟩
     try simp only [*,go_sem,seval]
    ·rintro u_161 ⟨sl,ob,n⟩ hI27 hW28 h
     simp only [go_sem,seval,Zd] at hI27
     obtain ⟨⟨g29_1,g29_3,g29_4,g29_6,g29_7,g29_17,g29_18,g29_19,g29_29,g29_30,g29_31⟩,og29_0,og29_1,og29_2,hn⟩:=hI27
     subst hn
     have q30:=ZC (x156.inn.length)
     try simp only [*,go_sem,seval]
     refine Zg h (fun i u_179 st=>IV [(1,.bp 0 0),(3,.p false [.row 1]),(4,.p false [.c (.bool u_125)]),(6,.bp 2 0),(7,.p false [.c (.int .i64 u_179)]),(17,.p false [.c (.sl 114 3 (List.map Yn append_0.reasons))]),(18,.p false [.c (.int .i64 ((append_0.reasons.length:Nat):Int))]),(19,.p false [.c (.int .i64 ((i155:Nat):Int))]),(43,.p false [.c (.sl 3 1 (List.map Qv x156.outs))]),(44,.p false [.c (.int .i64 ((x156.outs.length:Nat):Int))]),(45,.p false [.c (.int .i64 ((i:Nat):Int))])] [.box 29 [.c (.int .i64 append_0.nodes),.c (.sl 114 3 (List.map Yn append_0.reasons))],.row 3 1 (List.map Qv row_123) 2,.box 114 [.c (.int .i64 x156.for_),.c (.sl 3 1 (List.map Qv x156.inn)),.c (.sl 3 1 (List.map Qv x156.outs))]] st) [] [0,1,2] (by decide) ?_ ?_ ?_
     ·simp only [*,go_sem,seval]
     ·rintro i182 x183 u_179 ⟨sl,ob,n⟩ y31 hx32 hI33 hW34 h hy31
      simp only [go_sem,seval,Zd] at hI33
      obtain ⟨⟨g35_1,g35_3,g35_4,g35_6,g35_7,g35_17,g35_18,g35_19,g35_43,g35_44,g35_45⟩,og35_0,og35_1,og35_2,hn⟩:=hI33
      subst hn
      have hlhx32:=WF.slotL hW34 g35_43 (j:=0) rfl
      have q36:=ZF hx32
      have q37:=ZJ hx32
      have q38:=Zi (ZE hx32) hlhx32
      obtain ⟨p39,h⟩:=Zx h
      obtain ⟨x184,e40,h⟩:=Za h
      try simp only [*,go_sem,seval]
      refine ⟨_,[],[0,1,2],(Option.some.inj h).symm,by decide,?_⟩
      try simp only [*,go_sem,seval]
     ·rintro u_179 ⟨sl,ob,n⟩ hI41 hW42 h
      simp only [go_sem,seval,Zd] at hI41
      obtain ⟨⟨g43_1,g43_3,g43_4,g43_6,g43_7,g43_17,g43_18,g43_19,g43_43,g43_44,g43_45⟩,og43_0,og43_1,og43_2,hn⟩:=hI41
      subst hn
      have q44:=ZC (x156.outs.length)
      try simp only [*,go_sem,seval]
      refine Ze h (fun _ h=>?_) fun _ h=>?_<;>try simp only [*,go_sem,seval]
      ·refine ⟨_,[],[0,1],(Option.some.inj h).symm,by decide,?_⟩
       try simp only [*,go_sem,seval]
      ·refine ⟨_,[],[0,1],(Option.some.inj h).symm,by decide,?_⟩
       try simp only [*,go_sem,seval]
   ·rintro ⟨row_123,u_125⟩ ⟨sl,ob,n⟩ hI46 hW47 h
    simp only [go_sem,seval,Zd] at hI46
    obtain ⟨⟨g48_1,g48_3,g48_4,g48_17,g48_18,g48_19⟩,og48_0,og48_1,hn⟩:=hI46
    subst hn
    have q49:=ZC (append_0.reasons.length)
    try simp only [*,go_sem,seval]
    refine ⟨_,[],[0,1],(Option.some.inj h).symm,by decide,?_⟩
    try simp only [*,go_sem,seval]
  ·replace h:=Zs h hy2
   cases h
   try simp only [*,go_sem,seval]
theorem ZBv {r_0:Zh} {rounds_1:(List Int)} {before_2:Int} {r:Bool} (h:ZAk r_0 rounds_1 before_2=some r):Zn Tryz.prog J0 189 [(true,Yn r_0),(false,[.sl 3 1 (List.map Qv rounds_1)]),(false,[.int .i64 before_2])] [(false,[(false,.bool r)])]:=by
 refine fnk Tryz.func189 (by kernel_rfl) rfl (by kernel_rfl) (by kernel_rfl) ?_
 unfold ZAk at h
 simp only [fnS,f189,Zo,go_sem,seval]
 refine Zg h (fun i _ st=>IV [(1,.p false [.c (.sl 3 1 (List.map Qv rounds_1))]),(2,.p false [.c (.int .i64 before_2)]),(3,.bp 0 0),(12,.p false [.c (.sl 3 1 (List.map Qv r_0.inn))]),(13,.p false [.c (.int .i64 ((r_0.inn.length:Nat):Int))]),(14,.p false [.c (.int .i64 ((i:Nat):Int))])] [.box 114 [.c (.int .i64 r_0.for_),.c (.sl 3 1 (List.map Qv r_0.inn)),.c (.sl 3 1 (List.map Qv r_0.outs))]] st) [] [0] (by decide) ?_ ?_ ?_
 simp only [*,go_sem,seval]
 rintro w x ⟨⟩ ⟨sl,ob,n⟩ y a d l h e
 simp only [go_sem,seval,Zd] at d
 obtain ⟨⟨z,A,B,m,C,D⟩,E,hn⟩:=d
 subst hn
 have o:=WF.slotL l m (j:=0) rfl
 have F:=ZF a
 have G:=ZJ a
 have H:=Zi (ZE a) o
 obtain ⟨I,J,K,L,h⟩:=Zgn h
 try simp only [*,go_sem,seval]
 refine Ze h (fun _ h=>?_) fun _ h=>?_<;>try simp only [*,go_sem,seval]
 replace h:=Zs h e
 cases h
 try simp only [*,go_sem,seval]
 refine Ze h (fun _ h=>?_) fun _ h=>?_<;>try simp only [*,go_sem,seval]
 replace h:=Zs h e
 cases h
 try simp only [*,go_sem,seval]
 refine ⟨_,[],[0],(Option.some.inj h).symm,by decide,?_⟩
 try simp only [*,go_sem,seval]
 rintro ⟨⟩ ⟨sl,ob,n⟩ f M h
 simp only [go_sem,seval,Zd] at f
 obtain ⟨⟨N,O,P,Q,R,S⟩,T,hn⟩:=f
 subst hn
 have U:=ZC (r_0.inn.length)
 try simp only [*,go_sem,seval]
 refine Zg h (fun i _ st=>IV [(1,.p false [.c (.sl 3 1 (List.map Qv rounds_1))]),(33,.p false [.c (.sl 3 1 (List.map Qv r_0.outs))]),(34,.p false [.c (.int .i64 ((r_0.outs.length:Nat):Int))]),(35,.p false [.c (.int .i64 ((i:Nat):Int))])] [] st) [] [] (by decide) ?_ ?_ ?_
 simp only [*,go_sem,seval]
 rintro V W ⟨⟩ ⟨sl,ob,n⟩ X b g q h t
 simp only [go_sem,seval,Zd] at g
 obtain ⟨⟨Y,u,Z,aa⟩,hn⟩:=g
 subst hn
 have v:=WF.slotL q u (j:=0) rfl
 have ab:=ZF b
 have ac:=ZJ b
 have ad:=Zi (ZE b) v
 obtain ⟨ae,af,ag,ah,h⟩:=Zgn h
 try simp only [*,go_sem,seval]
 refine Ze h (fun _ h=>?_) fun _ h=>?_<;>try simp only [*,go_sem,seval]
 replace h:=Zs h t
 cases h
 try simp only [*,go_sem,seval]
 refine ⟨_,[],[],(Option.some.inj h).symm,by decide,?_⟩
 try simp only [*,go_sem,seval]
 rintro ⟨⟩ ⟨sl,ob,n⟩ k ai h
 simp only [go_sem,seval,Zd] at k
 obtain ⟨⟨aj,ak,al,am⟩,hn⟩:=k
 subst hn
 have an:=ZC (r_0.outs.length)
 cases h
 try simp only [*,go_sem,seval]
end Go.Proofs.YtojnhepgnbhaaaaGreatDoor
namespace Go.Proofs.YtojnhepgnbhaaaaGreatDoor
open Go.Proofs.Tryz
set_option linter.unusedSimpArgs false
set_option linter.unusedVariables false
set_option maxRecDepth 1000000
set_option maxHeartbeats 4000000
theorem Zo0 {a_0:Zc} {b_1:Zc} {r:Bool} (h:Zk4 a_0 b_1=some r):Zn Tryz.prog J0 107 [(true,Zq a_0),(true,Zq b_1)] [(false,[(false,.bool r)])]:=by
 refine fnk Tryz.func107 (by kernel_rfl) rfl (by kernel_rfl) (by kernel_rfl) ?_
 unfold Zk4 at h
 simp only [fnS,f107,Zo,go_sem,seval]
 refine Ze h (fun _ h=>?_) fun _ h=>?_<;>try simp only [*,go_sem,seval]
 obtain ⟨b,a,h⟩:=Za h
 refine Zb (Ziz a) ?_
 iterate 2 (cases h;try simp only [*,go_sem,seval])
theorem XF {f_0:Zc} {r:Zc} (h:X1 f_0=some r):Zn Tryz.prog J0 98 [(true,Zq f_0)] [(true,[(false,.str r.rel),(false,.sl 9 1 (List.map Zu r.args))])]:=by
 refine fnk Tryz.func98 (by kernel_rfl) rfl (by kernel_rfl) (by kernel_rfl) ?_
 unfold X1 at h
 simp only [fnS,f98,Zo,go_sem,seval]
 obtain ⟨b,a,h⟩:=Za h
 refine Zb (ZnL a) ?_
 cases h
 try simp only [*,go_sem,seval]
theorem Qc {s_0:ByteArray} {r:Bool} (h:Qq s_0=some r):Zn Tryz.prog J0 147 [(false,[.str s_0])] [(false,[(false,.bool r)])]:=by
 refine fnk Tryz.func147 (by kernel_rfl) rfl (by kernel_rfl) (by kernel_rfl) ?_
 unfold Qq at h
 simp only [fnS,f147,Zo,go_sem,seval]
 refine Zg h (fun i _ st=>IV [(0,.p false [.c (.str s_0)]),(3,.p false [.c (.int .i64 ((i:Nat):Int))])] [] st) [] [] (by decide) ?_ ?_ ?_
 simp only [*,go_sem,seval]
 rintro q t ⟨⟩ ⟨sl,ob,n⟩ u a b e h f
 simp only [go_sem,seval,Zd] at b
 obtain ⟨⟨g,v⟩,hn⟩:=b
 subst hn
 have k:=WF.slotS e g (j:=0) rfl
 have w:=ZnD a
 have x:=ZsC a
 have y:=Zi (ZqE a) k
 try simp only [*,go_sem,seval]
 obtain ⟨z,l,h⟩:=Za h
 refine Zb (ZaS l) ?_
 try simp only [*,go_sem,seval]
 refine Ze h (fun _ h=>?_) fun _ h=>?_<;>try simp only [*,go_sem,seval]
 refine ⟨_,[],[],(Option.some.inj h).symm,by decide,?_⟩
 try simp only [*,go_sem,seval]
 obtain ⟨A,m,h⟩:=Za h
 refine Zb (ZaS m) ?_
 try simp only [*,go_sem,seval]
 refine Ze h (fun _ h=>?_) fun _ h=>?_<;>try simp only [*,go_sem,seval]
 refine ⟨_,[],[],(Option.some.inj h).symm,by decide,?_⟩
 try simp only [*,go_sem,seval]
 replace h:=Zs h f
 cases h
 try simp only [*,go_sem,seval]
 rintro ⟨⟩ ⟨sl,ob,n⟩ d B h
 simp only [go_sem,seval,Zd] at d
 obtain ⟨⟨C,D⟩,hn⟩:=d
 subst hn
 have E:=ZC (s_0.size)
 try simp only [*,go_sem,seval]
 obtain ⟨F,o,h⟩:=Za h
 refine Zb (ZaS o) ?_
 cases h
 try simp only [*,go_sem,seval]
theorem Zd0 {s_0:ByteArray} {r:(Int × Bool)} (h:QS s_0=some r):Zn Tryz.prog J0 231 [(false,[.str s_0])] [(false,[(false,.int .i64 r.1)]),(false,[(false,.bool r.2)])]:=by
 refine fnk Tryz.func231 (by kernel_rfl) rfl (by kernel_rfl) (by kernel_rfl) ?_
 unfold QS at h
 simp only [fnS,f231,Zo,go_sem,seval]
 obtain ⟨q,g,h⟩:=Za h
 refine Zb (ZaS g) ?_
 try simp only [*,go_sem,seval]
 refine Ze h (fun _ h=>?_) fun _ h=>?_<;>try simp only [*,go_sem,seval]
 refine Zg h (fun i a st=>IV [(0,.p false [.c (.str s_0)]),(4,.p false [.c (.int .i64 a)]),(5,.p false [.c (.int .i64 ((i:Nat):Int))])] [] st) [] [] (by decide) ?_ ?_ ?_
 simp only [*,go_sem,seval]
 rintro t u a ⟨sl,ob,n⟩ v b d k h e
 simp only [go_sem,seval,Zd] at d
 obtain ⟨⟨l,w,x⟩,hn⟩:=d
 subst hn
 have m:=WF.slotS k l (j:=0) rfl
 have y:=ZnD b
 have z:=ZsC b
 have A:=Zi (ZqE b) m
 try simp only [*,go_sem,seval]
 refine Ze h (fun _ h=>?_) fun _ h=>?_<;>try simp only [*,go_sem,seval]
 replace h:=Zs h e
 cases h
 try simp only [*,go_sem,seval]
 refine Ze h (fun _ h=>?_) fun _ h=>?_<;>try simp only [*,go_sem,seval]
 replace h:=Zs h e
 cases h
 try simp only [*,go_sem,seval]
 refine ⟨_,[],[],(Option.some.inj h).symm,by decide,?_⟩
 try simp only [*,go_sem,seval]
 rintro a ⟨sl,ob,n⟩ f B h
 simp only [go_sem,seval,Zd] at f
 obtain ⟨⟨C,D,E⟩,hn⟩:=f
 subst hn
 have F:=ZC (s_0.size)
 try simp only [*,go_sem,seval]
 obtain ⟨G,o,h⟩:=Za h
 refine Zb (Zku o) ?_
 try simp only [*,go_sem,seval]
 refine Ze h (fun _ h=>?_) fun _ h=>?_<;>try simp only [*,go_sem,seval]
 iterate 3 (cases h;try simp only [*,go_sem,seval])
theorem Zl3 {a_0:(List ByteArray)} {b_1:(List ByteArray)} {r:Bool} (h:Zc8 a_0 b_1=some r):Zn Tryz.prog J0 194 [(false,[.sl 9 1 (List.map Zu a_0)]),(false,[.sl 9 1 (List.map Zu b_1)])] [(false,[(false,.bool r)])]:=by
 refine fnk Tryz.func194 (by kernel_rfl) rfl (by kernel_rfl) (by kernel_rfl) ?_
 unfold Zc8 at h
 simp only [fnS,f194,Zo,go_sem,seval]
 refine Zg h (fun i _ st=>IV [(0,.p false [.c (.sl 9 1 (List.map Zu a_0))]),(1,.p false [.c (.sl 9 1 (List.map Zu b_1))]),(5,.p false [.c (.int .i64 ((i:Nat):Int))])] [] st) [] [] (by decide) ?_ ?_ ?_
 simp only [*,go_sem,seval]
 rintro m o ⟨⟩ ⟨sl,ob,n⟩ q a b e h f
 simp only [go_sem,seval,Zd] at b
 obtain ⟨⟨g,t,u⟩,hn⟩:=b
 subst hn
 have k:=WF.slotL e g (j:=0) rfl
 have v:=ZF a
 have w:=ZJ a
 have x:=Zi (ZE a) k
 try simp only [*,go_sem,seval]
 obtain ⟨y,l,h⟩:=Za h
 refine Zb (YG l) ?_
 try simp only [*,go_sem,seval]
 refine Ze h (fun _ h=>?_) fun _ h=>?_<;>try simp only [*,go_sem,seval]
 refine ⟨_,[],[],(Option.some.inj h).symm,by decide,?_⟩
 try simp only [*,go_sem,seval]
 replace h:=Zs h f
 cases h
 try simp only [*,go_sem,seval]
 rintro ⟨⟩ ⟨sl,ob,n⟩ d z h
 simp only [go_sem,seval,Zd] at d
 obtain ⟨⟨A,B,C⟩,hn⟩:=d
 subst hn
 have D:=ZC (a_0.length)
 cases h
 try simp only [*,go_sem,seval]
theorem ZgD {r_0:Zf} {r:(List ByteArray)} (h:QW r_0=some r):Zn Tryz.prog J0 169 [(true,ZB r_0)] [(false,[(false,.sl 9 1 (List.map Zu r))])]:=by
 refine fnk Tryz.func169 (by kernel_rfl) rfl (by kernel_rfl) (by kernel_rfl) ?_
 unfold QW at h
 simp only [fnS,f169,Zo,go_sem,seval]
 refine Zg h (fun i a st=>IV [(1,.bp 0 0),(3,.p false [.row 1]),(4,.p false [.c (.int .i64 ((i:Nat):Int))])] [.box 82 [.c (.str r_0.name),.c (.int .i64 r_0.priority),.c (.sl 130 5 (List.map ZM r_0.cond)),.c (.sl 134 3 (List.map ZA r_0.thn))],.row 9 1 (List.map Zu a) 2] st) [] [0,32] (by decide) ?_ ?_ ?_
 simp only [*,go_sem,seval]
 rintro o q a ⟨sl,ob,n⟩ t b d f h u
 simp only [go_sem,seval,Zd] at d
 obtain ⟨⟨v,w,x⟩,g,y,hn⟩:=d
 subst hn
 have k:=WF.boxL f g (j:=3) rfl
 have z:=ZF b
 have A:=ZJ b
 have B:=Zi (ZE b) k
 try simp only [*,go_sem,seval]
 refine Ze h (fun _ h=>?_) fun _ h=>?_<;>try simp only [*,go_sem,seval]
 obtain ⟨C,l,h⟩:=Za h
 refine Zb (Xn l) ?_
 try simp only [*,go_sem,seval]
 refine ⟨_,[],[0,466],(Option.some.inj h).symm,by decide,?_⟩
 try simp only [*,go_sem,seval]
 refine Ze h (fun _ h=>?_) fun _ h=>?_<;>try simp only [*,go_sem,seval]
 obtain ⟨D,m,h⟩:=Za h
 refine Zb (Xn m) ?_
 try simp only [*,go_sem,seval]
 refine ⟨_,[],[0,466],(Option.some.inj h).symm,by decide,?_⟩
 try simp only [*,go_sem,seval]
 refine ⟨_,[],[0,1],(Option.some.inj h).symm,by decide,?_⟩
 try simp only [*,go_sem,seval]
 rintro a ⟨sl,ob,n⟩ e E h
 simp only [go_sem,seval,Zd] at e
 obtain ⟨⟨F,G,H⟩,I,J,hn⟩:=e
 subst hn
 have K:=ZC (r_0.thn.length)
 cases h
 try simp only [*,go_sem,seval]
theorem Zny {r_0:Zf} {r:(List ByteArray)} (h:Zbx r_0=some r):Zn Tryz.prog J0 199 [(true,ZB r_0)] [(false,[(false,.sl 9 1 (List.map Zu r))])]:=by
 refine fnk Tryz.func199 (by kernel_rfl) rfl (by kernel_rfl) (by kernel_rfl) ?_
 unfold Zbx at h
 simp only [fnS,f199,Zo,go_sem,seval]
 refine Zg h (fun i a st=>IV [(1,.bp 0 0),(3,.p false [.row 1]),(4,.p false [.c (.int .i64 ((i:Nat):Int))])] [.box 82 [.c (.str r_0.name),.c (.int .i64 r_0.priority),.c (.sl 130 5 (List.map ZM r_0.cond)),.c (.sl 134 3 (List.map ZA r_0.thn))],.row 9 1 (List.map Zu a) 2] st) [] [0,32] (by decide) ?_ ?_ ?_
 simp only [*,go_sem,seval]
 rintro o q a ⟨sl,ob,n⟩ t b d f h u
 simp only [go_sem,seval,Zd] at d
 obtain ⟨⟨v,w,x⟩,g,y,hn⟩:=d
 subst hn
 have k:=WF.boxL f g (j:=2) rfl
 have z:=ZF b
 have A:=ZJ b
 have B:=Zi (ZE b) k
 try simp only [*,go_sem,seval]
 refine Ze h (fun _ h=>?_) fun _ h=>?_<;>try simp only [*,go_sem,seval]
 obtain ⟨C,l,h⟩:=Za h
 refine Zb (Xn l) ?_
 try simp only [*,go_sem,seval]
 refine ⟨_,[],[0,466],(Option.some.inj h).symm,by decide,?_⟩
 try simp only [*,go_sem,seval]
 refine Ze h (fun _ h=>?_) fun _ h=>?_<;>try simp only [*,go_sem,seval]
 obtain ⟨D,m,h⟩:=Za h
 refine Zb (Xn m) ?_
 try simp only [*,go_sem,seval]
 refine ⟨_,[],[0,466],(Option.some.inj h).symm,by decide,?_⟩
 try simp only [*,go_sem,seval]
 refine ⟨_,[],[0,1],(Option.some.inj h).symm,by decide,?_⟩
 try simp only [*,go_sem,seval]
 rintro a ⟨sl,ob,n⟩ e E h
 simp only [go_sem,seval,Zd] at e
 obtain ⟨⟨F,G,H⟩,I,J,hn⟩:=e
 subst hn
 have K:=ZC (r_0.cond.length)
 cases h
 try simp only [*,go_sem,seval]
theorem Zm4 {l_0:(List Zh)} {r_1:Zh} {r:Int} (h:Zec l_0 r_1=some r):Zn Tryz.prog J0 83 [(false,[.sl 114 3 (List.map Yn l_0)]),(true,Yn r_1)] [(false,[(false,.int .i64 r)])]:=by
 refine fnk Tryz.func83 (by kernel_rfl) rfl (by kernel_rfl) (by kernel_rfl) ?_
 unfold Zec at h
 simp only [fnS,f83,Zo,go_sem,seval]
 refine Zg h (fun i _ st=>IV [(0,.p false [.c (.sl 114 3 (List.map Yn l_0))]),(3,.bp 0 0),(5,.p false [.c (.int .i64 ((i:Nat):Int))])] [.box 114 [.c (.int .i64 r_1.for_),.c (.sl 3 1 (List.map Qv r_1.inn)),.c (.sl 3 1 (List.map Qv r_1.outs))]] st) [] [0] (by decide) ?_ ?_ ?_
 simp only [*,go_sem,seval]
 rintro o q ⟨⟩ ⟨sl,ob,n⟩ t a b e h f
 simp only [go_sem,seval,Zd] at b
 obtain ⟨⟨g,u,v⟩,w,hn⟩:=b
 subst hn
 have k:=WF.slotL e g (j:=0) rfl
 have x:=ZF a
 have y:=ZJ a
 have z:=Zi (ZE a) k
 try simp only [*,go_sem,seval]
 refine Ze h (fun _ h=>?_) fun _ h=>?_<;>try simp only [*,go_sem,seval]
 obtain ⟨A,l,h⟩:=Za h
 refine Zb (Ze3 l) ?_
 try simp only [*,go_sem,seval]
 refine Ze h (fun _ h=>?_) fun _ h=>?_<;>try simp only [*,go_sem,seval]
 obtain ⟨B,m,h⟩:=Za h
 refine Zb (Ze3 m) ?_
 try simp only [*,go_sem,seval]
 refine Ze h (fun _ h=>?_) fun _ h=>?_<;>try simp only [*,go_sem,seval]
 replace h:=Zs h f
 cases h
 try simp only [*,go_sem,seval]
 refine ⟨_,[],[0],(Option.some.inj h).symm,by decide,?_⟩
 try simp only [*,go_sem,seval]
 refine ⟨_,[],[0],(Option.some.inj h).symm,by decide,?_⟩
 try simp only [*,go_sem,seval]
 refine ⟨_,[],[0],(Option.some.inj h).symm,by decide,?_⟩
 try simp only [*,go_sem,seval]
 rintro ⟨⟩ ⟨sl,ob,n⟩ d C h
 simp only [go_sem,seval,Zd] at d
 obtain ⟨⟨D,E,F⟩,G,hn⟩:=d
 subst hn
 have H:=ZC (l_0.length)
 cases h
 try simp only [*,go_sem,seval]
theorem ZlP {a_0:Zc} {b_1:Zc} {r:Bool} (h:Zbp a_0 b_1=some r):Zn Tryz.prog J0 109 [(true,Zq a_0),(true,Zq b_1)] [(false,[(false,.bool r)])]:=by
 refine fnk Tryz.func109 (by kernel_rfl) rfl (by kernel_rfl) (by kernel_rfl) ?_
 unfold Zbp at h
 simp only [fnS,f109,Zo,go_sem,seval]
 refine Ze h (fun _ h=>?_) fun _ h=>?_<;>try simp only [*,go_sem,seval]
 obtain ⟨b,a,h⟩:=Za h
 refine Zb (ZkC a) ?_
 iterate 2 (cases h;try simp only [*,go_sem,seval])
theorem Xf {f_0:Zc} {r:Zc} (h:Y3 f_0=some r):Zn Tryz.prog J0 100 [(true,Zq f_0)] [(true,[(false,.str r.rel),(false,.sl 9 1 (List.map Zu r.args))])]:=by
 refine fnk Tryz.func100 (by kernel_rfl) rfl (by kernel_rfl) (by kernel_rfl) ?_
 unfold Y3 at h
 simp only [fnS,f100,Zo,go_sem,seval]
 obtain ⟨b,a,h⟩:=Za h
 refine Zb (Zf2 a) ?_
 cases h
 try simp only [*,go_sem,seval]
theorem ZfF {s_0:ByteArray} {r:Bool} (h:ZcZ s_0=some r):Zn Tryz.prog J0 104 [(false,[.str s_0])] [(false,[(false,.bool r)])]:=by
 refine fnk Tryz.func104 (by kernel_rfl) rfl (by kernel_rfl) (by kernel_rfl) ?_
 unfold ZcZ at h
 simp only [fnS,f104,Zo,go_sem,seval]
 obtain ⟨c,a,h⟩:=Za h
 refine Zb (Qg a) ?_
 try simp only [*,go_sem,seval]
 refine Ze h (fun _ h=>?_) fun _ h=>?_<;>try simp only [*,go_sem,seval]
 obtain ⟨d,e,b,h⟩:=Zqp h
 try simp only [seval] at b
 iterate 2 (cases h;try simp only [*,go_sem,seval])
theorem ZcP {s_0:ByteArray} {r:Bool} (h:Zcn s_0=some r):Zn Tryz.prog J0 154 [(false,[.str s_0])] [(false,[(false,.bool r)])]:=by
 refine fnk Tryz.func154 (by kernel_rfl) rfl (by kernel_rfl) (by kernel_rfl) ?_
 unfold Zcn at h
 simp only [fnS,f154,Zo,go_sem,seval]
 refine Ze h (fun _ h=>?_) fun _ h=>?_<;>try simp only [*,go_sem,seval]
 obtain ⟨c,d,a,h⟩:=Zqp h
 try simp only [seval] at a
 try simp only [*,go_sem,seval]
 refine Ze h (fun _ h=>?_) fun _ h=>?_<;>try simp only [*,go_sem,seval]
 obtain ⟨e,h⟩:=Zx h
 try simp only [*,go_sem,seval]
 obtain ⟨f,b,h⟩:=Za h
 refine Zb (Qg b) ?_
 iterate 3 (cases h;try simp only [*,go_sem,seval])
theorem ZbS {s_0:ByteArray} {r:(Int × Bool)} (h:QK s_0=some r):Zn Tryz.prog J0 215 [(false,[.str s_0])] [(false,[(false,.int .i64 r.1)]),(false,[(false,.bool r.2)])]:=by
 refine fnk Tryz.func215 (by kernel_rfl) rfl (by kernel_rfl) (by kernel_rfl) ?_
 unfold QK at h
 simp only [fnS,f215,Zo,go_sem,seval]
 refine Ze h (fun _ h=>?_) fun _ h=>?_<;>try simp only [*,go_sem,seval]
 ·cases h
  try simp only [*,go_sem,seval]
 ·refine Ze h (fun _ h=>?_) fun _ h=>?_<;>try simp only [*,go_sem,seval]
  ·cases h
   try simp only [*,go_sem,seval]
  ·obtain ⟨v1,e3,h⟩:=Za h
   refine Zb (by have hh:=Zrz e3;first|exact hh|(simp only [*,go_sem] at hh;exact hh)) ?_
   try simp only [*,go_sem,seval]
   refine Ze h (fun _ h=>?_) fun _ h=>?_<;>try simp only [*,go_sem,seval]
   ·refine Ze h (fun _ h=>?_) fun _ h=>?_<;>try simp only [*,go_sem,seval]
    ·cases h
     try simp only [*,go_sem,seval]
    ·refine Ze h (fun _ h=>?_) fun _ h=>?_<;>try simp only [*,go_sem,seval]
     ·cases h
      try simp only [*,go_sem,seval]
     ·obtain ⟨v2,e7,h⟩:=Za h
      refine Zb (by have hh:=Zkn e7;first|exact hh|(simp only [*,go_sem] at hh;exact hh)) ?_
      try simp only [*,go_sem,seval]
      refine Ze h (fun _ h=>?_) fun _ h=>?_<;>try simp only [*,go_sem,seval]
      ·cases h
       try simp only [*,go_sem,seval]
      ·cases h
       try simp only [*,go_sem,seval]
   ·cases h
    try simp only [*,go_sem,seval]
theorem ZnB {x_0:Zm} {r:(List ByteArray)} (h:Zgk x_0=some r):Zn Tryz.prog J0 233 [(true,ZM x_0)] [(false,[(false,.sl 9 1 (List.map Zu r))])]:=by
 refine fnk Tryz.func233 (by kernel_rfl) rfl (by kernel_rfl) (by kernel_rfl) ?_
 unfold Zgk at h
 simp only [fnS,f233,Zo,go_sem,seval]
 obtain ⟨c,a,h⟩:=Za h
 refine Zb (Zf2 a) ?_
 obtain ⟨b,h⟩:=Zx h
 try simp only [Nat.reduceLeDiff] at b
 cases h
 try simp only [*,go_sem,seval]
theorem ZgR {r_0:Zf} {r:(List ByteArray)} (h:Qm r_0=some r):Zn Tryz.prog J0 179 [(true,ZB r_0)] [(false,[(false,.sl 9 1 (List.map Zu r))])]:=by
 refine fnk Tryz.func179 (by kernel_rfl) rfl (by kernel_rfl) (by kernel_rfl) ?_
 unfold Qm at h
 simp only [fnS,f179,Zo,go_sem,seval]
 refine Zg h (fun i a st=>IV [(3,.p false [.row 0]),(7,.p false [.c (.sl 134 3 (List.map ZA r_0.thn))]),(8,.p false [.c (.int .i64 ((r_0.thn.length:Nat):Int))]),(9,.p false [.c (.int .i64 ((i:Nat):Int))])] [.row 9 1 (List.map Zu a) 2] st) [(false,3,0)] [112] (by decide) ?_ ?_ ?_
 simp only [*,go_sem,seval]
 rintro q t a ⟨sl,ob,n⟩ u b d f h v
 simp only [go_sem,seval,Zd] at d
 obtain ⟨⟨w,g,x,y⟩,z,hn⟩:=d
 subst hn
 have k:=WF.slotL f g (j:=0) rfl
 have A:=ZF b
 have B:=ZJ b
 have C:=Zi (ZE b) k
 try simp only [*,go_sem,seval]
 refine Ze h (fun _ h=>?_) fun _ h=>?_<;>try simp only [*,go_sem,seval]
 obtain ⟨l,h⟩:=Zx h
 try simp only [Nat.reduceLeDiff] at l
 try simp only [*,go_sem,seval]
 refine ⟨_,[],[289],(Option.some.inj h).symm,by decide,?_⟩
 try simp only [*,go_sem,seval]
 refine Ze h (fun _ h=>?_) fun _ h=>?_<;>try simp only [*,go_sem,seval]
 obtain ⟨m,h⟩:=Zx h
 try simp only [Nat.reduceLeDiff] at m
 try simp only [*,go_sem,seval]
 refine ⟨_,[],[289],(Option.some.inj h).symm,by decide,?_⟩
 try simp only [*,go_sem,seval]
 refine ⟨_,[],[0],(Option.some.inj h).symm,by decide,?_⟩
 try simp only [*,go_sem,seval]
 rintro a ⟨sl,ob,n⟩ e D h
 simp only [go_sem,seval,Zd] at e
 obtain ⟨⟨E,F,G,H⟩,I,hn⟩:=e
 subst hn
 have J:=ZC (r_0.thn.length)
 try simp only [*,go_sem,seval]
 obtain ⟨K,o,h⟩:=Za h
 refine Zb (X5 o) ?_
 cases h
 try simp only [*,go_sem,seval]
theorem Znk {r_0:Zf} {r:(List ByteArray)} (h:ZbA r_0=some r):Zn Tryz.prog J0 208 [(true,ZB r_0)] [(false,[(false,.sl 9 1 (List.map Zu r))])]:=by
 refine fnk Tryz.func208 (by kernel_rfl) rfl (by kernel_rfl) (by kernel_rfl) ?_
 unfold ZbA at h
 simp only [fnS,f208,Zo,go_sem,seval]
 refine Zg h (fun i a st=>IV [(3,.p false [.row 0]),(7,.p false [.c (.sl 130 5 (List.map ZM r_0.cond))]),(8,.p false [.c (.int .i64 ((r_0.cond.length:Nat):Int))]),(9,.p false [.c (.int .i64 ((i:Nat):Int))])] [.row 9 1 (List.map Zu a) 2] st) [(false,3,0)] [112] (by decide) ?_ ?_ ?_
 simp only [*,go_sem,seval]
 rintro q t a ⟨sl,ob,n⟩ u b d f h v
 simp only [go_sem,seval,Zd] at d
 obtain ⟨⟨w,g,x,y⟩,z,hn⟩:=d
 subst hn
 have k:=WF.slotL f g (j:=0) rfl
 have A:=ZF b
 have B:=ZJ b
 have C:=Zi (ZE b) k
 try simp only [*,go_sem,seval]
 refine Ze h (fun _ h=>?_) fun _ h=>?_<;>try simp only [*,go_sem,seval]
 obtain ⟨l,h⟩:=Zx h
 try simp only [Nat.reduceLeDiff] at l
 try simp only [*,go_sem,seval]
 refine ⟨_,[],[289],(Option.some.inj h).symm,by decide,?_⟩
 try simp only [*,go_sem,seval]
 refine Ze h (fun _ h=>?_) fun _ h=>?_<;>try simp only [*,go_sem,seval]
 obtain ⟨m,h⟩:=Zx h
 try simp only [Nat.reduceLeDiff] at m
 try simp only [*,go_sem,seval]
 refine ⟨_,[],[289],(Option.some.inj h).symm,by decide,?_⟩
 try simp only [*,go_sem,seval]
 refine ⟨_,[],[0],(Option.some.inj h).symm,by decide,?_⟩
 try simp only [*,go_sem,seval]
 rintro a ⟨sl,ob,n⟩ e D h
 simp only [go_sem,seval,Zd] at e
 obtain ⟨⟨E,F,G,H⟩,I,hn⟩:=e
 subst hn
 have J:=ZC (r_0.cond.length)
 try simp only [*,go_sem,seval]
 obtain ⟨K,o,h⟩:=Za h
 refine Zb (X5 o) ?_
 cases h
 try simp only [*,go_sem,seval]
theorem ZjE {a_0:Zh} {b_1:Zh} {r:Bool} (h:Zbb a_0 b_1=some r):Zn Tryz.prog J0 140 [(true,Yn a_0),(true,Yn b_1)] [(false,[(false,.bool r)])]:=by
 refine fnk Tryz.func140 (by kernel_rfl) rfl (by kernel_rfl) (by kernel_rfl) ?_
 unfold Zbb at h
 simp only [fnS,f140,Zo,go_sem,seval]
 refine Ze h (fun _ h=>?_) fun _ h=>?_<;>try simp only [*,go_sem,seval]
 obtain ⟨c,a,h⟩:=Za h
 refine Zb (ZgG a) ?_
 try simp only [*,go_sem,seval]
 refine Ze h (fun _ h=>?_) fun _ h=>?_<;>try simp only [*,go_sem,seval]
 obtain ⟨d,b,h⟩:=Za h
 refine Zb (ZgG b) ?_
 iterate 3 (cases h;try simp only [*,go_sem,seval])
theorem ZBe {l_0:(List Int)} {n_1:Int} {r:Bool} (h:ZAp l_0 n_1=some r):Zn Tryz.prog J0 249 [(false,[.sl 3 1 (List.map Qv l_0)]),(false,[.int .i64 n_1])] [(false,[(false,.bool r)])]:=by
 refine fnk Tryz.func249 (by kernel_rfl) rfl (by kernel_rfl) (by kernel_rfl) ?_
 unfold ZAp at h
 simp only [fnS,f249,Zo,go_sem,seval]
 refine Zg h (fun i _ st=>IV [(0,.p false [.c (.sl 3 1 (List.map Qv l_0))]),(1,.p false [.c (.int .i64 n_1)]),(5,.p false [.c (.int .i64 ((i:Nat):Int))])] [] st) [] [] (by decide) ?_ ?_ ?_
 simp only [*,go_sem,seval]
 rintro m o ⟨⟩ ⟨sl,ob,n⟩ q a b f h d
 simp only [go_sem,seval,Zd] at b
 obtain ⟨⟨g,t,u⟩,hn⟩:=b
 subst hn
 have k:=WF.slotL f g (j:=0) rfl
 have v:=ZF a
 have w:=ZJ a
 have x:=Zi (ZE a) k
 try simp only [*,go_sem,seval]
 obtain ⟨y,l,h⟩:=Za h
 refine Zb (ZaS l) ?_
 try simp only [*,go_sem,seval]
 iterate 2 refine Ze h (fun _ h=>?_) fun _ h=>?_<;>try simp only [*,go_sem,seval]
 obtain ⟨z,A,B,C,h⟩:=Zgn h
 try simp only [*,go_sem,seval]
 refine Ze h (fun _ h=>?_) fun _ h=>?_<;>try simp only [*,go_sem,seval]
 replace h:=Zs h d
 cases h
 try simp only [*,go_sem,seval]
 refine ⟨_,[],[],(Option.some.inj h).symm,by decide,?_⟩
 try simp only [*,go_sem,seval]
 refine ⟨_,[],[],(Option.some.inj h).symm,by decide,?_⟩
 try simp only [*,go_sem,seval]
 replace h:=Zs h d
 cases h
 try simp only [*,go_sem,seval]
 rintro ⟨⟩ ⟨sl,ob,n⟩ e D h
 simp only [go_sem,seval,Zd] at e
 obtain ⟨⟨E,F,G⟩,hn⟩:=e
 subst hn
 have H:=ZC (l_0.length)
 cases h
 try simp only [*,go_sem,seval]
theorem ZBO {append_0:ZK} {String_1:Int} {r:(List Bool)} (h:ZAC append_0 String_1=some r):Zn Tryz.prog J0 219 [(true,Zff append_0),(false,[.int .i64 String_1])] [(false,[(false,.sl 4 1 (List.map Zuz r))])]:=by
 refine fnk Tryz.func219 (by kernel_rfl) rfl (by kernel_rfl) (by kernel_rfl) ?_
 unfold ZAC at h
 simp only [fnS,f219,Zo,go_sem,seval]
 obtain ⟨p1,h⟩:=Zx h
 try simp only [*,go_sem,seval]
 refine Zeh h (fun s st=>match s with | (row_53,row_54,u_55)=>IV [(2,.bp 0 0),(5,.p false [.row 1]),(6,.p false [.row 2]),(7,.p false [.c (.int .i64 u_55)])] [.box 29 [.c (.int .i64 append_0.nodes),.c (.sl 114 3 (List.map Yn append_0.reasons))],.row 4 1 (List.map Zuz row_53) 2,.row 3 1 (List.map Qv row_54) 2] st) [] [0,64,112] (by decide) ?_ ?_
 ·simp only [*,go_sem,seval]
 ·rintro ⟨row_53,row_54,u_55⟩ ⟨sl,ob,n⟩ y2 hI3 hW4 h hy2
  simp only [go_sem,seval,Zd] at hI3
  obtain ⟨⟨g5_2,g5_5,g5_6,g5_7⟩,og5_0,og5_1,og5_2,hn⟩:=hI3
  subst hn
  try simp only [*,go_sem,seval]
  refine Ze h (fun _ h=>?_) fun _ h=>?_<;>try simp only [*,go_sem,seval]
  ·refine Zg h (fun i s st=>match s with | (row_81,row_82)=>IV [(2,.bp 0 0),(5,.p false [.row 1]),(6,.p false [.row 2]),(7,.p false [.c (.int .i64 u_55)]),(8,.p false [.c (.int .i64 ((i:Nat):Int))])] [.box 29 [.c (.int .i64 append_0.nodes),.c (.sl 114 3 (List.map Yn append_0.reasons))],.row 4 1 (List.map Zuz row_81) 2,.row 3 1 (List.map Qv row_82) 2] st) [] [0,1,2] (by decide) ?_ ?_ ?_
   ·simp only [*,go_sem,seval]
   ·rintro i95 x96 ⟨row_81,row_82⟩ ⟨sl,ob,n⟩ y7 hx8 hI9 hW10 h hy7
    simp only [go_sem,seval,Zd] at hI9
    obtain ⟨⟨g11_2,g11_5,g11_6,g11_7,g11_8⟩,og11_0,og11_1,og11_2,hn⟩:=hI9
    subst hn
    have hlhx8:=WF.boxL hW10 og11_0 (j:=1) rfl
    have q12:=ZF hx8
    have q13:=ZJ hx8
    have q14:=Zi (ZE hx8) hlhx8
    obtain ⟨p15,h⟩:=Zx h
    obtain ⟨x97,e16,h⟩:=Za h
    try simp only [*,go_sem,seval]
    refine Ze h (fun _ h=>?_) fun _ h=>?_<;>try simp only [*,go_sem,seval]
    ·refine ⟨_,[],[0,1,2],(Option.some.inj h).symm,by decide,?_⟩
     try simp only [*,go_sem,seval]
    ·obtain ⟨v98,e18,h⟩:=Za h
     refine Zb (by have hh:=ZCA e18;first|exact hh|(simp only [*,go_sem] at hh;exact hh)) ?_
     obtain ⟨p19,h⟩:=Zx h
     try simp only [Nat.reduceLeDiff] at p19
     try simp only [*,go_sem,seval]
     refine Zeh h (fun s st=>match s with | (row_104,row_105,u_101)=>IV [(2,.bp 0 0),(5,.p false [.row 1]),(6,.p false [.row 2]),(7,.p false [.c (.int .i64 u_55)]),(8,.p false [.c (.int .i64 ((i95:Nat):Int))]),(9,.p false [.row 3]),(10,.p false [.c (.int .i64 u_101)])] [.box 29 [.c (.int .i64 append_0.nodes),.c (.sl 114 3 (List.map Yn append_0.reasons))],.row 4 1 (List.map Zuz row_104) 2,.row 3 1 (List.map Qv row_105) 2,.row 3 1 (List.map Qv (v98++x96.outs)) 2] st) [] [0,1,2,467] (by decide) ?_ ?_
     ·simp only [*,go_sem,seval]
     ·rintro ⟨row_104,row_105,u_101⟩ ⟨sl,ob,n⟩ y20 hI21 hW22 h hy20
      simp only [go_sem,seval,Zd] at hI21
      obtain ⟨⟨g23_2,g23_5,g23_6,g23_7,g23_8,g23_9,g23_10⟩,og23_0,og23_1,og23_2,og23_3,hn⟩:=hI21
      subst hn
      try simp only [*,go_sem,seval]
      refine Ze h (fun _ h=>?_) fun _ h=>?_<;>try simp only [*,go_sem,seval]
      ·obtain ⟨p25,h⟩:=Zx h
       obtain ⟨x106,e26,h⟩:=Za h
       have e27:(List.map Qv v98++List.map Qv x96.outs)[(Int.toNat u_101)]?=some (Qv x106):=by rw [←List.map_append,List.getElem?_map,e26];rfl
       obtain ⟨p28,h⟩:=Zx h
       obtain ⟨x107,e29,h⟩:=Za h
       try simp only [*,go_sem,seval]
       refine Ze h (fun _ h=>?_) fun _ h=>?_<;>try simp only [*,go_sem,seval]
       ·refine ⟨_,[],[0,1,2,3],(Option.some.inj h).symm,by decide,?_⟩
        try simp only [*,go_sem,seval]
       ·obtain ⟨p31,h⟩:=Zx h
        try simp only [Nat.reduceLeDiff] at p31
        try simp only [*,go_sem,seval]
        refine ⟨_,[],[0,1,404,3],(Option.some.inj h).symm,by decide,?_⟩
        try simp only [*,go_sem,seval]
      ·replace h:=Zs h hy20
       refine ⟨_,[],[0,1,2],(Option.some.inj h).symm,by decide,?_⟩
       try simp only [*,go_sem,seval]
   ·rintro ⟨row_81,row_82⟩ ⟨sl,ob,n⟩ hI32 hW33 h
    simp only [go_sem,seval,Zd] at hI32
    obtain ⟨⟨g34_2,g34_5,g34_6,g34_7,g34_8⟩,og34_0,og34_1,og34_2,hn⟩:=hI32
    subst hn
    have q35:=ZC (append_0.reasons.length)
    try simp only [*,go_sem,seval]
    refine ⟨_,[],[0,1,2],(Option.some.inj h).symm,by decide,?_⟩
    try simp only [*,go_sem,seval]
  ·replace h:=Zs h hy2
   cases h
   try simp only [*,go_sem,seval]
theorem ZA5 {append_0:ZK} {String_1:(List Int)} {a_2:Int} {a_3:(List Int)} {a_4:Int} {r:(List Int)} (h:ZAo append_0 String_1 a_2 a_3 a_4=some r):Zn Tryz.prog J0 187 [(true,Zff append_0),(false,[.sl 3 1 (List.map Qv String_1)]),(false,[.int .i64 a_2]),(false,[.sl 3 1 (List.map Qv a_3)]),(false,[.int .i64 a_4])] [(false,[(false,.sl 3 1 (List.map Qv r))])]:=by
 refine fnk Tryz.func187 (by kernel_rfl) rfl (by kernel_rfl) (by kernel_rfl) ?_
 unfold ZAo at h
 simp only [fnS,f187,Zo,go_sem,seval]
 refine Zeh h (fun s st=>match s with | (row_28,u_14)=>IV [(1,.p false [.c (.sl 3 1 (List.map Qv String_1))]),(2,.p false [.c (.int .i64 a_2)]),(3,.p false [.c (.sl 3 1 (List.map Qv a_3))]),(4,.p false [.c (.int .i64 a_4)]),(5,.bp 0 0),(11,.p false [.row 1]),(12,.p false [.c (.int .i64 u_14)])] [.box 29 [.c (.int .i64 append_0.nodes),.c (.sl 114 3 (List.map Yn append_0.reasons))],.row 3 1 (List.map Qv row_28) 2] st) [] [0,32] (by decide) ?_ ?_
 ·simp only [*,go_sem,seval]
 ·rintro ⟨row_28,u_14⟩ ⟨sl,ob,n⟩ y1 hI2 hW3 h hy1
  simp only [go_sem,seval,Zd] at hI2
  obtain ⟨⟨g4_1,g4_2,g4_3,g4_4,g4_5,g4_11,g4_12⟩,og4_0,og4_1,hn⟩:=hI2
  subst hn
  try simp only [*,go_sem,seval]
  refine Ze h (fun _ h=>?_) fun _ h=>?_<;>try simp only [*,go_sem,seval]
  ·obtain ⟨x29,a6,a7,e8,h⟩:=Zgn h
   try simp only [*,go_sem,seval]
   refine Ze h (fun _ h=>?_) fun _ h=>?_<;>try simp only [*,go_sem,seval]
   ·refine ⟨_,[],[0,1],(Option.some.inj h).symm,by decide,?_⟩
    try simp only [*,go_sem,seval]
   ·obtain ⟨x30,a10,a11,e12,h⟩:=Zgn h
    try simp only [*,go_sem,seval]
    refine Ze h (fun _ h=>?_) fun _ h=>?_<;>try simp only [*,go_sem,seval]
    ·refine ⟨_,[],[0,1],(Option.some.inj h).symm,by decide,?_⟩
     try simp only [*,go_sem,seval]
    ·refine Zg h (fun i _ st=>IV [(1,.p false [.c (.sl 3 1 (List.map Qv String_1))]),(2,.p false [.c (.int .i64 a_2)]),(3,.p false [.c (.sl 3 1 (List.map Qv a_3))]),(4,.p false [.c (.int .i64 a_4)]),(5,.bp 0 0),(11,.p false [.row 1]),(12,.p false [.c (.int .i64 u_14)]),(13,.p false [.c (.int .i64 ((i:Nat):Int))]),(29,.p false [.c (.sl 3 1 (List.map Qv a_3))]),(30,.p false [.c (.int .i64 u_14)]),(32,.p false [.c (.int .i64 x30)]),(33,.p false [.c (.bool (decide (0≤x30)))])] [.box 29 [.c (.int .i64 append_0.nodes),.c (.sl 114 3 (List.map Yn append_0.reasons))],.row 3 1 (List.map Qv row_28) 2] st) [] [0,1] (by decide) ?_ ?_ ?_
     ·simp only [*,go_sem,seval]
     ·rintro i38 x39 ⟨⟩ ⟨sl,ob,n⟩ y14 hx15 hI16 hW17 h hy14
      simp only [go_sem,seval,Zd] at hI16
      obtain ⟨⟨g18_1,g18_2,g18_3,g18_4,g18_5,g18_11,g18_12,g18_13,g18_29,g18_30,g18_32,g18_33⟩,og18_0,og18_1,hn⟩:=hI16
      subst hn
      have hlhx15:=WF.boxL hW17 og18_0 (j:=1) rfl
      have q19:=ZF hx15
      have q20:=ZJ hx15
      have q21:=Zi (ZE hx15) hlhx15
      try simp only [*,go_sem,seval]
      refine Ze h (fun _ h=>?_) fun _ h=>?_<;>try simp only [*,go_sem,seval]
      ·obtain ⟨v40,e23,h⟩:=Za h
       refine Zb (by have hh:=ZBB e23;first|exact hh|(simp only [*,go_sem] at hh;exact hh)) ?_
       try simp only [*,go_sem,seval]
       refine Ze h (fun _ h=>?_) fun _ h=>?_<;>try simp only [*,go_sem,seval]
       ·obtain ⟨v41,e25,h⟩:=Za h
        refine Zb (by have hh:=ZCf e25;first|exact hh|(simp only [*,go_sem] at hh;exact hh)) ?_
        try simp only [*,go_sem,seval]
        refine Ze h (fun _ h=>?_) fun _ h=>?_<;>try simp only [*,go_sem,seval]
        ·obtain ⟨p27,h⟩:=Zx h
         try simp only [Nat.reduceLeDiff] at p27
         replace h:=Zs h hy14
         try simp only [*,go_sem,seval]
         refine ⟨_,[],[0,514],(Option.some.inj h).symm,by decide,?_⟩
         try simp only [*,go_sem,seval]
        ·refine ⟨_,[],[0,1],(Option.some.inj h).symm,by decide,?_⟩
         try simp only [*,go_sem,seval]
       ·refine ⟨_,[],[0,1],(Option.some.inj h).symm,by decide,?_⟩
        try simp only [*,go_sem,seval]
      ·refine ⟨_,[],[0,1],(Option.some.inj h).symm,by decide,?_⟩
       try simp only [*,go_sem,seval]
     ·rintro ⟨⟩ ⟨sl,ob,n⟩ hI28 hW29 h
      simp only [go_sem,seval,Zd] at hI28
      obtain ⟨⟨g30_1,g30_2,g30_3,g30_4,g30_5,g30_11,g30_12,g30_13,g30_29,g30_30,g30_32,g30_33⟩,og30_0,og30_1,hn⟩:=hI28
      subst hn
      have q31:=ZC (append_0.reasons.length)
      try simp only [*,go_sem,seval]
      refine ⟨_,[],[0,1],(Option.some.inj h).symm,by decide,?_⟩
      try simp only [*,go_sem,seval]
  ·replace h:=Zs h hy1
   cases h
   try simp only [*,go_sem,seval]
end Go.Proofs.YtojnhepgnbhaaaaGreatDoor
namespace Go.Proofs.YtojnhepgnbhaaaaGreatDoor
open Go.Proofs.Tryz
set_option linter.unusedSimpArgs false
set_option linter.unusedVariables false
set_option maxRecDepth 1000000
set_option maxHeartbeats 4000000
theorem Zd2 {l_0:(List Zc)} {f_1:Zc} {r:Int} (h:Zau l_0 f_1=some r):Zn Tryz.prog J0 66 [(false,[.sl 57 2 (List.map Zq l_0)]),(true,Zq f_1)] [(false,[(false,.int .i64 r)])]:=by
 refine fnk Tryz.func66 (by kernel_rfl) rfl (by kernel_rfl) (by kernel_rfl) ?_
 unfold Zau at h
 simp only [fnS,f66,Zo,go_sem,seval]
 refine Zg h (fun i _ st=>IV [(0,.p false [.c (.sl 57 2 (List.map Zq l_0))]),(3,.bp 0 0),(5,.p false [.c (.int .i64 ((i:Nat):Int))])] [.box 57 [.c (.str f_1.rel),.c (.sl 9 1 (List.map Zu f_1.args))]] st) [] [0] (by decide) ?_ ?_ ?_
 simp only [*,go_sem,seval]
 rintro m o ⟨⟩ ⟨sl,ob,n⟩ q a b e h f
 simp only [go_sem,seval,Zd] at b
 obtain ⟨⟨g,t,u⟩,v,hn⟩:=b
 subst hn
 have k:=WF.slotL e g (j:=0) rfl
 have w:=ZF a
 have x:=ZJ a
 have y:=Zi (ZE a) k
 try simp only [*,go_sem,seval]
 obtain ⟨z,l,h⟩:=Za h
 refine Zb (Zo0 l) ?_
 try simp only [*,go_sem,seval]
 refine Ze h (fun _ h=>?_) fun _ h=>?_<;>try simp only [*,go_sem,seval]
 replace h:=Zs h f
 cases h
 try simp only [*,go_sem,seval]
 refine ⟨_,[],[0],(Option.some.inj h).symm,by decide,?_⟩
 try simp only [*,go_sem,seval]
 rintro ⟨⟩ ⟨sl,ob,n⟩ d A h
 simp only [go_sem,seval,Zd] at d
 obtain ⟨⟨B,C,D⟩,E,hn⟩:=d
 subst hn
 have F:=ZC (l_0.length)
 cases h
 try simp only [*,go_sem,seval]
theorem QE {s_0:ByteArray} {r:Bool} (h:Zap s_0=some r):Zn Tryz.prog J0 148 [(false,[.str s_0])] [(false,[(false,.bool r)])]:=by
 refine fnk Tryz.func148 (by kernel_rfl) rfl (by kernel_rfl) (by kernel_rfl) ?_
 unfold Zap at h
 simp only [fnS,f148,Zo,go_sem,seval]
 refine Ze h (fun _ h=>?_) fun _ h=>?_<;>try simp only [*,go_sem,seval]
 obtain ⟨c,d,a,h⟩:=Zqp h
 try simp only [seval] at a
 try simp only [*,go_sem,seval]
 refine Ze h (fun _ h=>?_) fun _ h=>?_<;>try simp only [*,go_sem,seval]
 obtain ⟨e,h⟩:=Zx h
 try simp only [*,go_sem,seval]
 obtain ⟨f,b,h⟩:=Za h
 refine Zb (Qc b) ?_
 iterate 3 (cases h;try simp only [*,go_sem,seval])
theorem Zfs {s_0:ByteArray} {r:Bool} (h:Zc4 s_0=some r):Zn Tryz.prog J0 102 [(false,[.str s_0])] [(false,[(false,.bool r)])]:=by
 refine fnk Tryz.func102 (by kernel_rfl) rfl (by kernel_rfl) (by kernel_rfl) ?_
 unfold Zc4 at h
 simp only [fnS,f102,Zo,go_sem,seval]
 obtain ⟨d,a,h⟩:=Za h
 refine Zb (Qc a) ?_
 try simp only [*,go_sem,seval]
 refine Ze h (fun _ h=>?_) fun _ h=>?_<;>try simp only [*,go_sem,seval]
 obtain ⟨e,f,b,h⟩:=Zqp h
 try simp only [seval] at b
 try simp only [*,go_sem,seval]
 obtain ⟨g,c,h⟩:=Za h
 refine Zb (ZaS c) ?_
 iterate 2 (cases h;try simp only [*,go_sem,seval])
theorem Zd1 {l_0:(List Zc)} {r:(List Zc)} (h:Zax l_0=some r):Zn Tryz.prog J0 125 [(false,[.sl 57 2 (List.map Zq l_0)])] [(false,[(false,.sl 57 2 (List.map Zq r))])]:=by
 refine fnk Tryz.func125 (by kernel_rfl) rfl (by kernel_rfl) (by kernel_rfl) ?_
 unfold Zax at h
 simp only [fnS,f125,Zo,go_sem,seval]
 refine Zg h (fun i a st=>IV [(0,.p false [.c (.sl 57 2 (List.map Zq l_0))]),(3,.p false [.row 0]),(4,.p false [.c (.int .i64 ((i:Nat):Int))])] [.row 57 2 (List.map Zq a) 2] st) [] [16] (by decide) ?_ ?_ ?_
 simp only [*,go_sem,seval]
 rintro o q a ⟨sl,ob,n⟩ t b d f h u
 simp only [go_sem,seval,Zd] at d
 obtain ⟨⟨g,v,w⟩,x,hn⟩:=d
 subst hn
 have k:=WF.slotL f g (j:=0) rfl
 have y:=ZF b
 have z:=ZJ b
 have A:=Zi (ZE b) k
 try simp only [*,go_sem,seval]
 obtain ⟨B,l,h⟩:=Za h
 refine Zb (XF l) ?_
 obtain ⟨m,h⟩:=Zx h
 try simp only [Nat.reduceLeDiff] at m
 try simp only [*,go_sem,seval]
 refine ⟨_,[],[177],(Option.some.inj h).symm,by decide,?_⟩
 try simp only [*,go_sem,seval]
 rintro a ⟨sl,ob,n⟩ e C h
 simp only [go_sem,seval,Zd] at e
 obtain ⟨⟨D,E,F⟩,G,hn⟩:=e
 subst hn
 have H:=ZC (l_0.length)
 cases h
 try simp only [*,go_sem,seval]
theorem Zdv {a_0:ByteArray} {b_1:ByteArray} {r:Int} (h:Xo a_0 b_1=some r):Zn Tryz.prog J0 201 [(false,[.str a_0]),(false,[.str b_1])] [(false,[(false,.int .i64 r)])]:=by
 refine fnk Tryz.func201 (by kernel_rfl) rfl (by kernel_rfl) (by kernel_rfl) ?_
 unfold Xo at h
 simp only [fnS,f201,Zo,go_sem,seval]
 obtain ⟨d,a,h⟩:=Za h
 refine Zb (Zd0 a) ?_
 try simp only [*,go_sem,seval]
 obtain ⟨e,b,h⟩:=Za h
 refine Zb (Zd0 b) ?_
 try simp only [*,go_sem,seval]
 iterate 3 refine Ze h (fun _ h=>?_) fun _ h=>?_<;>try simp only [*,go_sem,seval]
 cases h
 try simp only [*,go_sem,seval]
 refine Ze h (fun _ h=>?_) fun _ h=>?_<;>try simp only [*,go_sem,seval]
 iterate 3 (cases h;try simp only [*,go_sem,seval])
 refine Ze h (fun _ h=>?_) fun _ h=>?_<;>try simp only [*,go_sem,seval]
 cases h
 try simp only [*,go_sem,seval]
 obtain ⟨f,c,h⟩:=Za h
 refine Zb (ZjZ c) ?_
 cases h
 try simp only [*,go_sem,seval]
theorem ZgP {s_0:ByteArray} {r:Bool} (h:ZcD s_0=some r):Zn Tryz.prog J0 232 [(false,[.str s_0])] [(false,[(false,.bool r)])]:=by
 refine fnk Tryz.func232 (by kernel_rfl) rfl (by kernel_rfl) (by kernel_rfl) ?_
 unfold ZcD at h
 simp only [fnS,f232,Zo,go_sem,seval]
 obtain ⟨b,a,h⟩:=Za h
 refine Zb (Zd0 a) ?_
 cases h
 try simp only [*,go_sem,seval]
theorem Zjw {append_0:(List Zf)} {String_1:ByteArray} {a_2:ByteArray} {r:Bool} (h:Za0 append_0 String_1 a_2=some r):Zn Tryz.prog J0 170 [(false,[.sl 82 4 (List.map ZB append_0)]),(false,[.str String_1]),(false,[.str a_2])] [(false,[(false,.bool r)])]:=by
 refine fnk Tryz.func170 (by kernel_rfl) rfl (by kernel_rfl) (by kernel_rfl) ?_
 unfold Za0 at h
 simp only [fnS,f170,Zo,go_sem,seval]
 refine Zeh h (fun s st=>match s with | (row_55,u_56)=>IV [(0,.p false [.c (.sl 82 4 (List.map ZB append_0))]),(2,.p false [.c (.str a_2)]),(7,.p false [.row 0]),(8,.p false [.c (.int .i64 u_56)])] [.row 9 1 (List.map Zu row_55) 2] st) [] [32] (by decide) ?_ ?_
 ·simp only [*,go_sem,seval]
 ·rintro ⟨row_55,u_56⟩ ⟨sl,ob,n⟩ y1 hI2 hW3 h hy1
  simp only [go_sem,seval,Zd] at hI2
  obtain ⟨⟨g4_0,g4_2,g4_7,g4_8⟩,og4_0,hn⟩:=hI2
  subst hn
  try simp only [*,go_sem,seval]
  refine Ze h (fun _ h=>?_) fun _ h=>?_<;>try simp only [*,go_sem,seval]
  ·refine Zg h (fun i row_74 st=>IV [(0,.p false [.c (.sl 82 4 (List.map ZB append_0))]),(2,.p false [.c (.str a_2)]),(7,.p false [.row 0]),(8,.p false [.c (.int .i64 u_56)]),(9,.p false [.c (.int .i64 ((i:Nat):Int))])] [.row 9 1 (List.map Zu row_74) 2] st) [] [0] (by decide) ?_ ?_ ?_
   ·simp only [*,go_sem,seval]
   ·rintro i93 x94 row_74 ⟨sl,ob,n⟩ y6 hx7 hI8 hW9 h hy6
    simp only [go_sem,seval,Zd] at hI8
    obtain ⟨⟨g10_0,g10_2,g10_7,g10_8,g10_9⟩,og10_0,hn⟩:=hI8
    subst hn
    have hlhx7:=WF.slotL hW9 g10_0 (j:=0) rfl
    have q11:=ZF hx7
    have q12:=ZJ hx7
    have q13:=Zi (ZE hx7) hlhx7
    try simp only [*,go_sem,seval]
    obtain ⟨v95,e14,h⟩:=Za h
    refine Zb (by have hh:=ZgD e14;first|exact hh|(simp only [*,go_sem] at hh;exact hh)) ?_
    obtain ⟨p15,h⟩:=Zx h
    obtain ⟨x96,e16,h⟩:=Za h
    try simp only [*,go_sem,seval]
    obtain ⟨v97,e17,h⟩:=Za h
    refine Zb (by have hh:=YG e17;first|exact hh|(simp only [*,go_sem] at hh;exact hh)) ?_
    try simp only [*,go_sem,seval]
    refine Ze h (fun _ h=>?_) fun _ h=>?_<;>try simp only [*,go_sem,seval]
    ·obtain ⟨v98,e19,h⟩:=Za h
     refine Zb (by have hh:=Zny e19;first|exact hh|(simp only [*,go_sem] at hh;exact hh)) ?_
     try simp only [*,go_sem,seval]
     obtain ⟨v99,e20,h⟩:=Za h
     refine Zb (by have hh:=YG e20;first|exact hh|(simp only [*,go_sem] at hh;exact hh)) ?_
     try simp only [*,go_sem,seval]
     refine Ze h (fun _ h=>?_) fun _ h=>?_<;>try simp only [*,go_sem,seval]
     ·replace h:=Zs h hy6
      replace h:=Zs h hy1
      cases h
      try simp only [*,go_sem,seval]
     ·refine Zg h (fun i row_105 st=>IV [(0,.p false [.c (.sl 82 4 (List.map ZB append_0))]),(2,.p false [.c (.str a_2)]),(7,.p false [.row 0]),(8,.p false [.c (.int .i64 u_56)]),(9,.p false [.c (.int .i64 ((i93:Nat):Int))]),(10,.p false [.row 1]),(11,.p false [.c (.int .i64 ((i:Nat):Int))])] [.row 9 1 (List.map Zu row_105) 2,.row 9 1 (List.map Zu v98) 2] st) [] [0,305] (by decide) ?_ ?_ ?_
      ·simp only [*,go_sem,seval]
      ·rintro i108 x109 row_105 ⟨sl,ob,n⟩ y22 hx23 hI24 hW25 h hy22
       simp only [go_sem,seval,Zd] at hI24
       obtain ⟨⟨g26_0,g26_2,g26_7,g26_8,g26_9,g26_10,g26_11⟩,og26_0,og26_1,hn⟩:=hI24
       subst hn
       have hlhx23:=WF.rowL hW25 og26_1
       have q27:=ZF hx23
       have q28:=ZJ hx23
       have q29:=Zi (ZE hx23) hlhx23
       try simp only [*,go_sem,seval]
       obtain ⟨v110,e30,h⟩:=Za h
       refine Zb (by have hh:=YG e30;first|exact hh|(simp only [*,go_sem] at hh;exact hh)) ?_
       try simp only [*,go_sem,seval]
       refine Ze h (fun _ h=>?_) fun _ h=>?_<;>try simp only [*,go_sem,seval]
       ·refine ⟨_,[],[0,1],(Option.some.inj h).symm,by decide,?_⟩
        try simp only [*,go_sem,seval]
       ·obtain ⟨p32,h⟩:=Zx h
        try simp only [Nat.reduceLeDiff] at p32
        try simp only [*,go_sem,seval]
        refine ⟨_,[],[274,1],(Option.some.inj h).symm,by decide,?_⟩
        try simp only [*,go_sem,seval]
      ·rintro row_105 ⟨sl,ob,n⟩ hI33 hW34 h
       simp only [go_sem,seval,Zd] at hI33
       obtain ⟨⟨g35_0,g35_2,g35_7,g35_8,g35_9,g35_10,g35_11⟩,og35_0,og35_1,hn⟩:=hI33
       subst hn
       have q36:=ZC (v98.length)
       try simp only [*,go_sem,seval]
       refine ⟨_,[],[0],(Option.some.inj h).symm,by decide,?_⟩
       try simp only [*,go_sem,seval]
    ·refine ⟨_,[],[0],(Option.some.inj h).symm,by decide,?_⟩
     try simp only [*,go_sem,seval]
   ·rintro row_74 ⟨sl,ob,n⟩ hI37 hW38 h
    simp only [go_sem,seval,Zd] at hI37
    obtain ⟨⟨g39_0,g39_2,g39_7,g39_8,g39_9⟩,og39_0,hn⟩:=hI37
    subst hn
    have q40:=ZC (append_0.length)
    try simp only [*,go_sem,seval]
    refine ⟨_,[],[0],(Option.some.inj h).symm,by decide,?_⟩
    try simp only [*,go_sem,seval]
  ·replace h:=Zs h hy1
   cases h
   try simp only [*,go_sem,seval]
theorem ZbR {l_0:(List Zc)} {f_1:Zc} {r:Int} (h:Yh l_0 f_1=some r):Zn Tryz.prog J0 68 [(false,[.sl 57 2 (List.map Zq l_0)]),(true,Zq f_1)] [(false,[(false,.int .i64 r)])]:=by
 refine fnk Tryz.func68 (by kernel_rfl) rfl (by kernel_rfl) (by kernel_rfl) ?_
 unfold Yh at h
 simp only [fnS,f68,Zo,go_sem,seval]
 refine Zg h (fun i _ st=>IV [(3,.bp 0 0),(7,.p false [.c (.sl 57 2 (List.map Zq l_0))]),(8,.p false [.c (.int .i64 ((l_0.length:Nat):Int))]),(9,.p false [.c (.int .i64 ((i:Nat):Int))])] [.box 57 [.c (.str f_1.rel),.c (.sl 9 1 (List.map Zu f_1.args))]] st) [] [0] (by decide) ?_ ?_ ?_
 simp only [*,go_sem,seval]
 rintro m o ⟨⟩ ⟨sl,ob,n⟩ q a b e h f
 simp only [go_sem,seval,Zd] at b
 obtain ⟨⟨t,g,u,v⟩,w,hn⟩:=b
 subst hn
 have k:=WF.slotL e g (j:=0) rfl
 have x:=ZF a
 have y:=ZJ a
 have z:=Zi (ZE a) k
 try simp only [*,go_sem,seval]
 obtain ⟨A,l,h⟩:=Za h
 refine Zb (ZlP l) ?_
 try simp only [*,go_sem,seval]
 refine Ze h (fun _ h=>?_) fun _ h=>?_<;>try simp only [*,go_sem,seval]
 replace h:=Zs h f
 cases h
 try simp only [*,go_sem,seval]
 refine ⟨_,[],[0],(Option.some.inj h).symm,by decide,?_⟩
 try simp only [*,go_sem,seval]
 rintro ⟨⟩ ⟨sl,ob,n⟩ d B h
 simp only [go_sem,seval,Zd] at d
 obtain ⟨⟨C,D,E,F⟩,G,hn⟩:=d
 subst hn
 have H:=ZC (l_0.length)
 cases h
 try simp only [*,go_sem,seval]
theorem QP {s_0:ByteArray} {r:Bool} (h:QU s_0=some r):Zn Tryz.prog J0 105 [(false,[.str s_0])] [(false,[(false,.bool r)])]:=by
 refine fnk Tryz.func105 (by kernel_rfl) rfl (by kernel_rfl) (by kernel_rfl) ?_
 unfold QU at h
 simp only [fnS,f105,Zo,go_sem,seval]
 obtain ⟨c,a,h⟩:=Za h
 refine Zb (Qg a) ?_
 try simp only [*,go_sem,seval]
 refine Ze h (fun _ h=>?_) fun _ h=>?_<;>try simp only [*,go_sem,seval]
 cases h
 try simp only [*,go_sem,seval]
 obtain ⟨d,b,h⟩:=Za h
 refine Zb (ZcP b) ?_
 cases h
 try simp only [*,go_sem,seval]
theorem QF {b_0:(List Zl)} {r:Bool} (h:XL b_0=some r):Zn Tryz.prog J0 137 [(false,[.sl 192 2 (List.map Z6 b_0)])] [(false,[(false,.bool r)])]:=by
 refine fnk Tryz.func137 (by kernel_rfl) rfl (by kernel_rfl) (by kernel_rfl) ?_
 unfold XL at h
 simp only [fnS,f137,Zo,go_sem,seval]
 refine Ze h (fun _ h=>?_) fun _ h=>?_<;>try simp only [*,go_sem,seval]
 cases h
 try simp only [*,go_sem,seval]
 refine Zg h (fun i _ st=>IV [(0,.p false [.c (.sl 192 2 (List.map Z6 b_0))]),(8,.p false [.c (.sl 192 2 (List.map Z6 b_0))]),(9,.p false [.c (.int .i64 ((b_0.length:Nat):Int))]),(10,.p false [.c (.int .i64 ((i:Nat):Int))])] [] st) [] [] (by decide) ?_ ?_ ?_
 simp only [*,go_sem,seval]
 rintro o q ⟨⟩ ⟨sl,ob,n⟩ t a b f h d
 simp only [go_sem,seval,Zd] at b
 obtain ⟨⟨g,u,v,w⟩,hn⟩:=b
 subst hn
 have k:=WF.slotL f g (j:=0) rfl
 have x:=ZF a
 have y:=ZJ a
 have z:=Zi (ZE a) k
 try simp only [*,go_sem,seval]
 obtain ⟨A,l,h⟩:=Za h
 refine Zb (ZcP l) ?_
 try simp only [*,go_sem,seval]
 refine Ze h (fun _ h=>?_) fun _ h=>?_<;>try simp only [*,go_sem,seval]
 obtain ⟨B,m,h⟩:=Za h
 refine Zb (Qg m) ?_
 try simp only [*,go_sem,seval]
 iterate 2 refine Ze h (fun _ h=>?_) fun _ h=>?_<;>try simp only [*,go_sem,seval]
 obtain ⟨C,D,E,F,h⟩:=Zgn h
 try simp only [*,go_sem,seval]
 refine Ze h (fun _ h=>?_) fun _ h=>?_<;>try simp only [*,go_sem,seval]
 refine ⟨_,[],[],(Option.some.inj h).symm,by decide,?_⟩
 try simp only [*,go_sem,seval]
 replace h:=Zs h d
 cases h
 try simp only [*,go_sem,seval]
 refine ⟨_,[],[],(Option.some.inj h).symm,by decide,?_⟩
 iterate 2 ((try simp only [*,go_sem,seval]);replace h:=Zs h d;cases h)
 try simp only [*,go_sem,seval]
 rintro ⟨⟩ ⟨sl,ob,n⟩ e G h
 simp only [go_sem,seval,Zd] at e
 obtain ⟨⟨H,I,J,K⟩,hn⟩:=e
 subst hn
 have L:=ZC (b_0.length)
 cases h
 try simp only [*,go_sem,seval]
theorem Zjc {f_0:Zc} {r:Bool} (h:Zen f_0=some r):Zn Tryz.prog J0 155 [(true,Zq f_0)] [(false,[(false,.bool r)])]:=by
 refine fnk Tryz.func155 (by kernel_rfl) rfl (by kernel_rfl) (by kernel_rfl) ?_
 unfold Zen at h
 simp only [fnS,f155,Zo,go_sem,seval]
 obtain ⟨o,e,h⟩:=Za h
 refine Zb (ZfF e) ?_
 try simp only [*,go_sem,seval]
 iterate 2 refine Ze h (fun _ h=>?_) fun _ h=>?_<;>try simp only [*,go_sem,seval]
 cases h
 try simp only [*,go_sem,seval]
 refine Zg h (fun i _ st=>IV [(16,.p false [.c (.sl 9 1 (List.map Zu f_0.args))]),(17,.p false [.c (.int .i64 ((f_0.args.length:Nat):Int))]),(18,.p false [.c (.int .i64 ((i:Nat):Int))])] [] st) [] [] (by decide) ?_ ?_ ?_
 simp only [*,go_sem,seval]
 rintro q t ⟨⟩ ⟨sl,ob,n⟩ u a b f h g
 simp only [go_sem,seval,Zd] at b
 obtain ⟨⟨k,v,w⟩,hn⟩:=b
 subst hn
 have l:=WF.slotL f k (j:=0) rfl
 have x:=ZF a
 have y:=ZJ a
 have z:=Zi (ZE a) l
 try simp only [*,go_sem,seval]
 obtain ⟨A,m,h⟩:=Za h
 refine Zb (Qg m) ?_
 try simp only [*,go_sem,seval]
 refine Ze h (fun _ h=>?_) fun _ h=>?_<;>try simp only [*,go_sem,seval]
 refine ⟨_,[],[],(Option.some.inj h).symm,by decide,?_⟩
 try simp only [*,go_sem,seval]
 replace h:=Zs h g
 cases h
 try simp only [*,go_sem,seval]
 rintro ⟨⟩ ⟨sl,ob,n⟩ d B h
 simp only [go_sem,seval,Zd] at d
 obtain ⟨⟨C,D,E⟩,hn⟩:=d
 subst hn
 have F:=ZC (f_0.args.length)
 iterate 2 (cases h;try simp only [*,go_sem,seval])
theorem Zcp {b_0:(List Zl)} {term_1:ByteArray} {r:(ByteArray × Bool)} (h:ZaL b_0 term_1=some r):Zn Tryz.prog J0 138 [(false,[.sl 192 2 (List.map Z6 b_0)]),(false,[.str term_1])] [(false,[(false,.str r.1)]),(false,[(false,.bool r.2)])]:=by
 refine fnk Tryz.func138 (by kernel_rfl) rfl (by kernel_rfl) (by kernel_rfl) ?_
 unfold ZaL at h
 have e:Zcf ⟨#[]⟩=true:=by decide
 simp only [fnS,f138,Zo,go_sem,seval,e]
 obtain ⟨q,f,h⟩:=Za h
 refine Zb (Qg f) ?_
 try simp only [*,go_sem,seval]
 refine Ze h (fun _ h=>?_) fun _ h=>?_<;>try simp only [*,go_sem,seval]
 cases h
 try simp only [*,go_sem,seval]
 obtain ⟨t,g,h⟩:=Za h
 refine Zb (ZcP g) ?_
 try simp only [*,go_sem,seval]
 refine Ze h (fun _ h=>?_) fun _ h=>?_<;>try simp only [*,go_sem,seval]
 refine Zg h (fun i _ st=>IV [(1,.p false [.c (.str term_1)]),(14,.p false [.c (.sl 192 2 (List.map Z6 b_0))]),(15,.p false [.c (.int .i64 ((b_0.length:Nat):Int))]),(16,.p false [.c (.int .i64 ((i:Nat):Int))])] [] st) [] [] (by decide) ?_ ?_ ?_
 simp only [*,go_sem,seval]
 rintro u v ⟨⟩ ⟨sl,ob,n⟩ w a b k h l
 simp only [go_sem,seval,Zd] at b
 obtain ⟨⟨x,m,y,z⟩,hn⟩:=b
 subst hn
 have o:=WF.slotL k m (j:=0) rfl
 have A:=ZF a
 have B:=ZJ a
 have C:=Zi (ZE a) o
 try simp only [*,go_sem,seval]
 refine Ze h (fun _ h=>?_) fun _ h=>?_<;>try simp only [*,go_sem,seval]
 replace h:=Zs h l
 cases h
 try simp only [*,go_sem,seval]
 refine ⟨_,[],[],(Option.some.inj h).symm,by decide,?_⟩
 try simp only [*,go_sem,seval]
 rintro ⟨⟩ ⟨sl,ob,n⟩ d D h
 simp only [go_sem,seval,Zd] at d
 obtain ⟨⟨E,F,G,H⟩,hn⟩:=d
 subst hn
 have I:=ZC (b_0.length)
 iterate 2 (cases h;try simp only [*,go_sem,seval])
theorem ZfB {l_0:(List Zc)} {r:(List Zc)} (h:ZaF l_0=some r):Zn Tryz.prog J0 134 [(false,[.sl 57 2 (List.map Zq l_0)])] [(false,[(false,.sl 57 2 (List.map Zq r))])]:=by
 refine fnk Tryz.func134 (by kernel_rfl) rfl (by kernel_rfl) (by kernel_rfl) ?_
 unfold ZaF at h
 simp only [fnS,f134,Zo,go_sem,seval]
 refine Zg h (fun i a st=>IV [(3,.p false [.row 0]),(6,.p false [.c (.sl 57 2 (List.map Zq l_0))]),(7,.p false [.c (.int .i64 ((l_0.length:Nat):Int))]),(8,.p false [.c (.int .i64 ((i:Nat):Int))])] [.row 57 2 (List.map Zq a) 2] st) [(false,3,0)] [80] (by decide) ?_ ?_ ?_
 simp only [*,go_sem,seval]
 rintro o q a ⟨sl,ob,n⟩ t b d f h u
 simp only [go_sem,seval,Zd] at d
 obtain ⟨⟨v,g,w,x⟩,y,hn⟩:=d
 subst hn
 have k:=WF.slotL f g (j:=0) rfl
 have z:=ZF b
 have A:=ZJ b
 have B:=Zi (ZE b) k
 try simp only [*,go_sem,seval]
 obtain ⟨C,l,h⟩:=Za h
 refine Zb (Xf l) ?_
 obtain ⟨m,h⟩:=Zx h
 try simp only [Nat.reduceLeDiff] at m
 try simp only [*,go_sem,seval]
 refine ⟨_,[],[145],(Option.some.inj h).symm,by decide,?_⟩
 try simp only [*,go_sem,seval]
 rintro a ⟨sl,ob,n⟩ e D h
 simp only [go_sem,seval,Zd] at e
 obtain ⟨⟨E,F,G,H⟩,I,hn⟩:=e
 subst hn
 have J:=ZC (l_0.length)
 cases h
 try simp only [*,go_sem,seval]
theorem Zc2 {l_0:(List ByteArray)} {r:(List ByteArray)} (h:QJ l_0=some r):Zn Tryz.prog J0 229 [(false,[.sl 9 1 (List.map Zu l_0)])] [(false,[(false,.sl 9 1 (List.map Zu r))])]:=by
 refine fnk Tryz.func229 (by kernel_rfl) rfl (by kernel_rfl) (by kernel_rfl) ?_
 unfold QJ at h
 simp only [fnS,f229,Zo,go_sem,seval]
 refine Zg h (fun i a st=>IV [(3,.p false [.row 0]),(6,.p false [.c (.sl 9 1 (List.map Zu l_0))]),(7,.p false [.c (.int .i64 ((l_0.length:Nat):Int))]),(8,.p false [.c (.int .i64 ((i:Nat):Int))])] [.row 9 1 (List.map Zu a) 2] st) [(false,3,0)] [80] (by decide) ?_ ?_ ?_
 simp only [*,go_sem,seval]
 rintro o q a ⟨sl,ob,n⟩ t b d f h u
 simp only [go_sem,seval,Zd] at d
 obtain ⟨⟨v,g,w,x⟩,y,hn⟩:=d
 subst hn
 have k:=WF.slotL f g (j:=0) rfl
 have z:=ZF b
 have A:=ZJ b
 have B:=Zi (ZE b) k
 try simp only [*,go_sem,seval]
 obtain ⟨C,l,h⟩:=Za h
 refine Zb (ZcP l) ?_
 try simp only [*,go_sem,seval]
 refine Ze h (fun _ h=>?_) fun _ h=>?_<;>try simp only [*,go_sem,seval]
 obtain ⟨m,h⟩:=Zx h
 try simp only [Nat.reduceLeDiff] at m
 try simp only [*,go_sem,seval]
 refine ⟨_,[],[145],(Option.some.inj h).symm,by decide,?_⟩
 try simp only [*,go_sem,seval]
 refine ⟨_,[],[0],(Option.some.inj h).symm,by decide,?_⟩
 try simp only [*,go_sem,seval]
 rintro a ⟨sl,ob,n⟩ e D h
 simp only [go_sem,seval,Zd] at e
 obtain ⟨⟨E,F,G,H⟩,I,hn⟩:=e
 subst hn
 have J:=ZC (l_0.length)
 cases h
 try simp only [*,go_sem,seval]
theorem Zl4 {rules_0:(List Zf)} {a_1:ByteArray} {r:(List (ByteArray × Bool))} (h:ZcM rules_0 a_1=some r):ZnF Tryz.prog J0 178 [(false,[.sl 82 4 (List.map ZB rules_0)]),(false,[.str a_1])] (.map .str .bool (List.map eSB r)):=by
 refine fnb Tryz.func178 (by kernel_rfl) rfl (by kernel_rfl) (by kernel_rfl) ?_
 unfold ZcM at h
 simp only [fnB,f178,Zo,go_sem,seval]
 refine Zeh h (fun s st=>match s with | (mp_42,row_43)=>IV [(0,.p false [.c (.sl 82 4 (List.map ZB rules_0))]),(5,.p false [.row 0]),(6,.p false [.row 1])] [.map .str .bool (List.map eSB mp_42),.row 9 1 (List.map Zu row_43) 2] st) [] [16,64] (by decide) ?_ ?_
 ·simp only [*,go_sem,seval]
 ·rintro ⟨mp_42,row_43⟩ ⟨sl,ob,n⟩ y1 hI2 hW3 h hy1
  simp only [go_sem,seval,Zd] at hI2
  obtain ⟨⟨g4_0,g4_5,g4_6⟩,og4_0,og4_1,hn⟩:=hI2
  subst hn
  try simp only [*,go_sem,seval]
  refine Ze h (fun _ h=>?_) fun _ h=>?_<;>try simp only [*,go_sem,seval]
  ·obtain ⟨p6,h⟩:=Zx h
   obtain ⟨x44,e7,h⟩:=Za h
   try simp only [seval] at e7
   obtain ⟨p8,h⟩:=Zx h
   try simp only [*,go_sem,seval]
   refine Zg h (fun i s st=>match s with | (mp_57,row_58)=>IV [(0,.p false [.c (.sl 82 4 (List.map ZB rules_0))]),(5,.p false [.row 0]),(6,.p false [.row 1]),(7,.p false [.c (.str x44)]),(23,.p false [.c (.sl 82 4 (List.map ZB rules_0))]),(24,.p false [.c (.int .i64 ((rules_0.length:Nat):Int))]),(25,.p false [.c (.int .i64 ((i:Nat):Int))])] [.map .str .bool (List.map eSB mp_57),.row 9 1 (List.map Zu row_58) 2] st) [] [0,130] (by decide) ?_ ?_ ?_
   ·simp only [*,go_sem,seval]
   ·rintro i72 x73 ⟨mp_57,row_58⟩ ⟨sl,ob,n⟩ y9 hx10 hI11 hW12 h hy9
    simp only [go_sem,seval,Zd] at hI11
    obtain ⟨⟨g13_0,g13_5,g13_6,g13_7,g13_23,g13_24,g13_25⟩,og13_0,og13_1,hn⟩:=hI11
    subst hn
    have hlhx10:=WF.slotL hW12 g13_0 (j:=0) rfl
    have q14:=ZF hx10
    have q15:=ZJ hx10
    have q16:=Zi (ZE hx10) hlhx10
    try simp only [*,go_sem,seval]
    obtain ⟨v74,e17,h⟩:=Za h
    refine Zb (by have hh:=ZgR e17;first|exact hh|(simp only [*,go_sem] at hh;exact hh)) ?_
    try simp only [*,go_sem,seval]
    obtain ⟨v75,e18,h⟩:=Za h
    refine Zb (by have hh:=Q5 e18;first|exact hh|(simp only [*,go_sem] at hh;exact hh)) ?_
    try simp only [*,go_sem,seval]
    refine Ze h (fun _ h=>?_) fun _ h=>?_<;>try simp only [*,go_sem,seval]
    ·obtain ⟨v76,e20,h⟩:=Za h
     refine Zb (by have hh:=Znk e20;first|exact hh|(simp only [*,go_sem] at hh;exact hh)) ?_
     try simp only [*,go_sem,seval]
     refine Zg h (fun i s st=>match s with | (mp_80,row_81)=>IV [(0,.p false [.c (.sl 82 4 (List.map ZB rules_0))]),(5,.p false [.row 0]),(6,.p false [.row 1]),(7,.p false [.c (.str x44)]),(23,.p false [.c (.sl 82 4 (List.map ZB rules_0))]),(24,.p false [.c (.int .i64 ((rules_0.length:Nat):Int))]),(25,.p false [.c (.int .i64 ((i72:Nat):Int))]),(35,.p false [.row 2]),(36,.p false [.c (.int .i64 ((v76.length:Nat):Int))]),(37,.p false [.c (.int .i64 ((i:Nat):Int))])] [.map .str .bool (List.map eSB mp_80),.row 9 1 (List.map Zu row_81) 2,.row 9 1 (List.map Zu v76) 2] st) [] [0,1,178] (by decide) ?_ ?_ ?_
     ·simp only [*,go_sem,seval]
     ·rintro i83 x84 ⟨mp_80,row_81⟩ ⟨sl,ob,n⟩ y21 hx22 hI23 hW24 h hy21
      simp only [go_sem,seval,Zd] at hI23
      obtain ⟨⟨g25_0,g25_5,g25_6,g25_7,g25_23,g25_24,g25_25,g25_35,g25_36,g25_37⟩,og25_0,og25_1,og25_2,hn⟩:=hI23
      subst hn
      have hlhx22:=WF.rowL hW24 og25_2
      have q26:=ZF hx22
      have q27:=ZJ hx22
      have q28:=Zi (ZE hx22) hlhx22
      try simp only [*,go_sem,seval]
      refine Ze h (fun _ h=>?_) fun _ h=>?_<;>try simp only [*,go_sem,seval]
      ·refine ⟨_,[],[0,1,2],(Option.some.inj h).symm,by decide,?_⟩
       try simp only [*,go_sem,seval]
      ·obtain ⟨p30,h⟩:=Zx h
       try simp only [Nat.reduceLeDiff] at p30
       try simp only [*,go_sem,seval]
       refine ⟨_,[],[0,227,2],(Option.some.inj h).symm,by decide,?_⟩
       try simp only [*,go_sem,seval]
     ·rintro ⟨mp_80,row_81⟩ ⟨sl,ob,n⟩ hI31 hW32 h
      simp only [go_sem,seval,Zd] at hI31
      obtain ⟨⟨g33_0,g33_5,g33_6,g33_7,g33_23,g33_24,g33_25,g33_35,g33_36,g33_37⟩,og33_0,og33_1,og33_2,hn⟩:=hI31
      subst hn
      have q34:=ZC (v76.length)
      try simp only [*,go_sem,seval]
      refine ⟨_,[],[0,1],(Option.some.inj h).symm,by decide,?_⟩
      try simp only [*,go_sem,seval]
    ·refine ⟨_,[],[0,1],(Option.some.inj h).symm,by decide,?_⟩
     try simp only [*,go_sem,seval]
   ·rintro ⟨mp_57,row_58⟩ ⟨sl,ob,n⟩ hI35 hW36 h
    simp only [go_sem,seval,Zd] at hI35
    obtain ⟨⟨g37_0,g37_5,g37_6,g37_7,g37_23,g37_24,g37_25⟩,og37_0,og37_1,hn⟩:=hI35
    subst hn
    have q38:=ZC (rules_0.length)
    try simp only [*,go_sem,seval]
    refine ⟨_,[],[0,1],(Option.some.inj h).symm,by decide,?_⟩
    try simp only [*,go_sem,seval]
  ·replace h:=Zs h hy1
   cases h
   try simp only [*,go_sem,seval]
theorem ZhA {a_0:ByteArray} {b_1:ByteArray} {r:Int} (h:QI a_0 b_1=some r):Zn Tryz.prog J0 211 [(false,[.str a_0]),(false,[.str b_1])] [(false,[(false,.int .i64 r)])]:=by
 refine fnk Tryz.func211 (by kernel_rfl) rfl (by kernel_rfl) (by kernel_rfl) ?_
 unfold QI at h
 simp only [fnS,f211,Zo,go_sem,seval]
 obtain ⟨e,a,h⟩:=Za h
 refine Zb (ZbS a) ?_
 try simp only [*,go_sem,seval]
 obtain ⟨f,b,h⟩:=Za h
 refine Zb (ZbS b) ?_
 try simp only [*,go_sem,seval]
 iterate 2 refine Ze h (fun _ h=>?_) fun _ h=>?_<;>try simp only [*,go_sem,seval]
 obtain ⟨g,c,h⟩:=Za h
 refine Zb (ZbC c) ?_
 iterate 2 (cases h;try simp only [*,go_sem,seval])
 refine Ze h (fun _ h=>?_) fun _ h=>?_<;>try simp only [*,go_sem,seval]
 cases h
 try simp only [*,go_sem,seval]
 obtain ⟨i,d,h⟩:=Za h
 refine Zb (Zh6 d) ?_
 cases h
 try simp only [*,go_sem,seval]
theorem Zlp {l_0:(List Zh)} {r_1:Zh} {r:Bool} (h:ZaK l_0 r_1=some r):Zn Tryz.prog J0 91 [(false,[.sl 114 3 (List.map Yn l_0)]),(true,Yn r_1)] [(false,[(false,.bool r)])]:=by
 refine fnk Tryz.func91 (by kernel_rfl) rfl (by kernel_rfl) (by kernel_rfl) ?_
 unfold ZaK at h
 simp only [fnS,f91,Zo,go_sem,seval]
 refine Zg h (fun i _ st=>IV [(3,.bp 0 0),(7,.p false [.c (.sl 114 3 (List.map Yn l_0))]),(8,.p false [.c (.int .i64 ((l_0.length:Nat):Int))]),(9,.p false [.c (.int .i64 ((i:Nat):Int))])] [.box 114 [.c (.int .i64 r_1.for_),.c (.sl 3 1 (List.map Qv r_1.inn)),.c (.sl 3 1 (List.map Qv r_1.outs))]] st) [] [0] (by decide) ?_ ?_ ?_
 simp only [*,go_sem,seval]
 rintro m o ⟨⟩ ⟨sl,ob,n⟩ q a b e h f
 simp only [go_sem,seval,Zd] at b
 obtain ⟨⟨t,g,u,v⟩,w,hn⟩:=b
 subst hn
 have k:=WF.slotL e g (j:=0) rfl
 have x:=ZF a
 have y:=ZJ a
 have z:=Zi (ZE a) k
 try simp only [*,go_sem,seval]
 obtain ⟨A,l,h⟩:=Za h
 refine Zb (ZjE l) ?_
 try simp only [*,go_sem,seval]
 refine Ze h (fun _ h=>?_) fun _ h=>?_<;>try simp only [*,go_sem,seval]
 replace h:=Zs h f
 cases h
 try simp only [*,go_sem,seval]
 refine ⟨_,[],[0],(Option.some.inj h).symm,by decide,?_⟩
 try simp only [*,go_sem,seval]
 rintro ⟨⟩ ⟨sl,ob,n⟩ d B h
 simp only [go_sem,seval,Zd] at d
 obtain ⟨⟨C,D,E,F⟩,G,hn⟩:=d
 subst hn
 have H:=ZC (l_0.length)
 cases h
 try simp only [*,go_sem,seval]
theorem ZBG {b_0:ZK} {r:Bool} (h:ZAr b_0=some r):Zn Tryz.prog J0 218 [(true,Zff b_0)] [(false,[(false,.bool r)])]:=by
 refine fnk Tryz.func218 (by kernel_rfl) rfl (by kernel_rfl) (by kernel_rfl) ?_
 unfold ZAr at h
 simp only [fnS,f218,Zo,go_sem,seval]
 refine Zg h (fun i _ st=>IV [(1,.bp 0 0),(3,.p false [.c (.int .i64 ((i:Nat):Int))])] [.box 29 [.c (.int .i64 b_0.nodes),.c (.sl 114 3 (List.map Yn b_0.reasons))]] st) [] [0] (by decide) ?_ ?_ ?_
 simp only [*,go_sem,seval]
 rintro t u ⟨⟩ ⟨sl,ob,n⟩ v a b e h f
 simp only [go_sem,seval,Zd] at b
 obtain ⟨⟨w,x⟩,g,hn⟩:=b
 subst hn
 have k:=WF.boxL e g (j:=1) rfl
 have y:=ZF a
 have z:=ZJ a
 have A:=Zi (ZE a) k
 try simp only [*,go_sem,seval]
 obtain ⟨B,l,h⟩:=Za h
 refine Zb (ZaS l) ?_
 try simp only [*,go_sem,seval]
 refine Ze h (fun _ h=>?_) fun _ h=>?_<;>try simp only [*,go_sem,seval]
 obtain ⟨C,m,h⟩:=Za h
 refine Zb (ZBe m) ?_
 try simp only [*,go_sem,seval]
 refine Ze h (fun _ h=>?_) fun _ h=>?_<;>try simp only [*,go_sem,seval]
 obtain ⟨D,o,h⟩:=Za h
 refine Zb (ZBe o) ?_
 try simp only [*,go_sem,seval]
 refine Ze h (fun _ h=>?_) fun _ h=>?_<;>try simp only [*,go_sem,seval]
 refine ⟨_,[],[0],(Option.some.inj h).symm,by decide,?_⟩
 iterate 3 ((try simp only [*,go_sem,seval]);replace h:=Zs h f;cases h)
 try simp only [*,go_sem,seval]
 rintro ⟨⟩ ⟨sl,ob,n⟩ d E h
 simp only [go_sem,seval,Zd] at d
 obtain ⟨⟨F,G⟩,H,hn⟩:=d
 subst hn
 have I:=ZC (b_0.reasons.length)
 try simp only [*,go_sem,seval]
 obtain ⟨J,q,h⟩:=Za h
 refine Zb (ZaS q) ?_
 try simp only [*,go_sem,seval]
 refine Ze h (fun _ h=>?_) fun _ h=>?_<;>try simp only [*,go_sem,seval]
 iterate 2 (cases h;try simp only [*,go_sem,seval])
end Go.Proofs.YtojnhepgnbhaaaaGreatDoor
namespace Go.Proofs.YtojnhepgnbhaaaaGreatDoor
open Go.Proofs.Tryz
set_option linter.unusedSimpArgs false
set_option linter.unusedVariables false
set_option maxRecDepth 1000000
set_option maxHeartbeats 4000000
theorem ZCs {append_0:ZK} {r:(List Int)} (h:ZAU append_0=some r):Zn Tryz.prog J0 145 [(true,Zff append_0)] [(false,[(false,.sl 3 1 (List.map Qv r))])]:=by
 refine fnk Tryz.func145 (by kernel_rfl) rfl (by kernel_rfl) (by kernel_rfl) ?_
 unfold ZAU at h
 simp only [fnS,f145,Zo,go_sem,seval]
 obtain ⟨v1,e1,h⟩:=Za h
 refine Zb (by have hh:=ZCv e1;first|exact hh|(simp only [*,go_sem] at hh;exact hh)) ?_
 obtain ⟨p2,h⟩:=Zx h
 try simp only [*,go_sem,seval]
 refine Zeh h (fun s st=>match s with | (row_4,u_5,u_6)=>IV [(1,.bp 0 0),(3,.p false [.row 1]),(4,.p false [.row 2]),(5,.p false [.c (.int .i64 u_6)]),(20,.p false [.c (.int .i64 ((Int.toNat append_0.nodes:Nat):Int))]),(21,.p false [.c (.int .i64 u_5)])] [.box 29 [.c (.int .i64 append_0.nodes),.c (.sl 114 3 (List.map Yn append_0.reasons))],.row 3 1 (List.map Qv v1) 2,.row 3 1 (List.map Qv row_4) 2] st) [] [0,48,112] (by decide) ?_ ?_
 ·simp only [*,go_sem,seval]
 ·rintro ⟨row_4,u_5,u_6⟩ ⟨sl,ob,n⟩ y3 hI4 hW5 h hy3
  simp only [go_sem,seval,Zd] at hI4
  obtain ⟨⟨g6_1,g6_3,g6_4,g6_5,g6_20,g6_21⟩,og6_0,og6_1,og6_2,hn⟩:=hI4
  subst hn
  try simp only [*,go_sem,seval]
  refine Ze h (fun _ h=>?_) fun _ h=>?_<;>try simp only [*,go_sem,seval]
  ·obtain ⟨p8,h⟩:=Zx h
   obtain ⟨x7,e9,h⟩:=Za h
   obtain ⟨p10,h⟩:=Zx h
   obtain ⟨x8,e11,h⟩:=Za h
   try simp only [*,go_sem,seval]
   refine ⟨_,[],[0,1,2],(Option.some.inj h).symm,by decide,?_⟩
   try simp only [*,go_sem,seval]
  ·refine Zeh h (fun s st=>match s with | (row_84,u_85,u_46)=>IV [(1,.bp 0 0),(3,.p false [.row 1]),(4,.p false [.row 2]),(5,.p false [.c (.int .i64 u_6)]),(7,.p false [.c (.int .i64 u_85)]),(8,.p false [.c (.int .i64 u_46)])] [.box 29 [.c (.int .i64 append_0.nodes),.c (.sl 114 3 (List.map Yn append_0.reasons))],.row 3 1 (List.map Qv v1) 2,.row 3 1 (List.map Qv row_84) 2] st) [] [0,1,2] (by decide) ?_ ?_
   ·simp only [*,go_sem,seval]
   ·rintro ⟨row_84,u_85,u_46⟩ ⟨sl,ob,n⟩ y12 hI13 hW14 h hy12
    simp only [go_sem,seval,Zd] at hI13
    obtain ⟨⟨g15_1,g15_3,g15_4,g15_5,g15_7,g15_8⟩,og15_0,og15_1,og15_2,hn⟩:=hI13
    subst hn
    try simp only [*,go_sem,seval]
    refine Ze h (fun _ h=>?_) fun _ h=>?_<;>try simp only [*,go_sem,seval]
    ·refine Zg h (fun i row_94 st=>IV [(1,.bp 0 0),(3,.p false [.row 1]),(4,.p false [.row 2]),(5,.p false [.c (.int .i64 u_6)]),(7,.p false [.c (.int .i64 u_85)]),(8,.p false [.c (.int .i64 u_46)]),(9,.p false [.row 3]),(38,.p false [.c (.sl 114 3 (List.map Yn append_0.reasons))]),(39,.p false [.c (.int .i64 ((append_0.reasons.length:Nat):Int))]),(40,.p false [.c (.int .i64 ((i:Nat):Int))])] [.box 29 [.c (.int .i64 append_0.nodes),.c (.sl 114 3 (List.map Yn append_0.reasons))],.row 3 1 (List.map Qv v1) 2,.row 3 1 (List.map Qv row_84) 2,.row 3 1 (List.map Qv row_94) 2] st) [(false,9,0)] [0,1,2,131] (by decide) ?_ ?_ ?_
     ·simp only [*,go_sem,seval]
     ·rintro i109 x110 row_94 ⟨sl,ob,n⟩ y17 hx18 hI19 hW20 h hy17
      simp only [go_sem,seval,Zd] at hI19
      obtain ⟨⟨g21_1,g21_3,g21_4,g21_5,g21_7,g21_8,g21_9,g21_38,g21_39,g21_40⟩,og21_0,og21_1,og21_2,og21_3,hn⟩:=hI19
      subst hn
      have hlhx18:=WF.slotL hW20 g21_38 (j:=0) rfl
      have q22:=ZF hx18
      have q23:=ZJ hx18
      have q24:=Zi (ZE hx18) hlhx18
      obtain ⟨p25,h⟩:=Zx h
      obtain ⟨x111,e26,h⟩:=Za h
      try simp only [*,go_sem,seval]
      refine Ze h (fun _ h=>?_) fun _ h=>?_<;>try simp only [*,go_sem,seval]
      ·obtain ⟨p28,h⟩:=Zx h
       obtain ⟨x112,e29,h⟩:=Za h
       try simp only [*,go_sem,seval]
       refine Ze h (fun _ h=>?_) fun _ h=>?_<;>try simp only [*,go_sem,seval]
       ·obtain ⟨v113,e31,h⟩:=Za h
        refine Zb (by have hh:=ZBv e31;first|exact hh|(simp only [*,go_sem] at hh;exact hh)) ?_
        try simp only [*,go_sem,seval]
        refine Ze h (fun _ h=>?_) fun _ h=>?_<;>try simp only [*,go_sem,seval]
        ·obtain ⟨p33,h⟩:=Zx h
         try simp only [Nat.reduceLeDiff] at p33
         try simp only [*,go_sem,seval]
         refine ⟨_,[],[0,1,2,484],(Option.some.inj h).symm,by decide,?_⟩
         try simp only [*,go_sem,seval]
        ·refine ⟨_,[],[0,1,2,3],(Option.some.inj h).symm,by decide,?_⟩
         try simp only [*,go_sem,seval]
       ·refine ⟨_,[],[0,1,2,3],(Option.some.inj h).symm,by decide,?_⟩
        try simp only [*,go_sem,seval]
      ·refine ⟨_,[],[0,1,2,3],(Option.some.inj h).symm,by decide,?_⟩
       try simp only [*,go_sem,seval]
     ·rintro row_94 ⟨sl,ob,n⟩ hI34 hW35 h
      simp only [go_sem,seval,Zd] at hI34
      obtain ⟨⟨g36_1,g36_3,g36_4,g36_5,g36_7,g36_8,g36_9,g36_38,g36_39,g36_40⟩,og36_0,og36_1,og36_2,og36_3,hn⟩:=hI34
      subst hn
      have q37:=ZC (append_0.reasons.length)
      try simp only [*,go_sem,seval]
      refine Ze h (fun _ h=>?_) fun _ h=>?_<;>try simp only [*,go_sem,seval]
      ·refine ⟨_,[],[0,1,2],(Option.some.inj h).symm,by decide,?_⟩
       try simp only [*,go_sem,seval]
      ·refine Zg h (fun i row_116 st=>IV [(1,.bp 0 0),(3,.p false [.row 1]),(4,.p false [.row 2]),(5,.p false [.c (.int .i64 u_6)]),(7,.p false [.c (.int .i64 u_85)]),(8,.p false [.c (.int .i64 u_46)]),(76,.p false [.row 3]),(77,.p false [.c (.int .i64 ((row_94.length:Nat):Int))]),(78,.p false [.c (.int .i64 ((i:Nat):Int))])] [.box 29 [.c (.int .i64 append_0.nodes),.c (.sl 114 3 (List.map Yn append_0.reasons))],.row 3 1 (List.map Qv v1) 2,.row 3 1 (List.map Qv row_116) 2,.row 3 1 (List.map Qv row_94) 2] st) [] [0,1,2,3] (by decide) ?_ ?_ ?_
       ·simp only [*,go_sem,seval]
       ·rintro i120 x121 row_116 ⟨sl,ob,n⟩ y39 hx40 hI41 hW42 h hy39
        simp only [go_sem,seval,Zd] at hI41
        obtain ⟨⟨g43_1,g43_3,g43_4,g43_5,g43_7,g43_8,g43_76,g43_77,g43_78⟩,og43_0,og43_1,og43_2,og43_3,hn⟩:=hI41
        subst hn
        have hlhx40:=WF.rowL hW42 og43_3
        have q44:=ZF hx40
        have q45:=ZJ hx40
        have q46:=Zi (ZE hx40) hlhx40
        obtain ⟨p47,h⟩:=Zx h
        obtain ⟨x122,e48,h⟩:=Za h
        try simp only [*,go_sem,seval]
        refine ⟨_,[],[0,1,2,3],(Option.some.inj h).symm,by decide,?_⟩
        try simp only [*,go_sem,seval]
       ·rintro row_116 ⟨sl,ob,n⟩ hI49 hW50 h
        simp only [go_sem,seval,Zd] at hI49
        obtain ⟨⟨g51_1,g51_3,g51_4,g51_5,g51_7,g51_8,g51_76,g51_77,g51_78⟩,og51_0,og51_1,og51_2,og51_3,hn⟩:=hI49
        subst hn
        have q52:=ZC (row_94.length)
        try simp only [*,go_sem,seval]
        refine ⟨_,[],[0,1,2],(Option.some.inj h).symm,by decide,?_⟩
        try simp only [*,go_sem,seval]
    ·replace h:=Zs h hy12
     replace h:=Zs h hy3
     cases h
     try simp only [*,go_sem,seval]
end Go.Proofs.YtojnhepgnbhaaaaGreatDoor
namespace Go.Proofs.YtojnhepgnbhaaaaGreatDoor
open Go.Proofs.Tryz
set_option linter.unusedSimpArgs false
set_option linter.unusedVariables false
set_option maxRecDepth 1000000
set_option maxHeartbeats 4000000
theorem ZCB {b_0:ZK} {r:(List Bool)} (h:ZAV b_0=some r):Zn Tryz.prog J0 99 [(true,Zff b_0)] [(false,[(false,.sl 4 1 (List.map Zuz r))])]:=by
 refine fnk Tryz.func99 (by kernel_rfl) rfl (by kernel_rfl) (by kernel_rfl) ?_
 unfold ZAV at h
 simp only [fnS,f99,Zo,go_sem,seval]
 obtain ⟨a,g,h⟩:=Za h
 refine Zb (ZCs g) ?_
 try simp only [*,go_sem,seval]
 refine Zg h (fun i b st=>IV [(3,.p false [.row 0]),(7,.p false [.row 1]),(8,.p false [.c (.int .i64 ((a.length:Nat):Int))]),(9,.p false [.c (.int .i64 ((i:Nat):Int))])] [.row 4 1 (List.map Zuz b) 2,.row 3 1 (List.map Qv a) 2] st) [(false,3,0)] [112,64] (by decide) ?_ ?_ ?_
 simp only [*,go_sem,seval]
 rintro o q b ⟨sl,ob,n⟩ t d e j h u
 simp only [go_sem,seval,Zd] at e
 obtain ⟨⟨v,w,x,y⟩,z,k,hn⟩:=e
 subst hn
 have l:=WF.rowL j k
 have A:=ZF d
 have B:=ZJ d
 have C:=Zi (ZE d) l
 obtain ⟨m,h⟩:=Zx h
 try simp only [Nat.reduceLeDiff] at m
 try simp only [*,go_sem,seval]
 refine ⟨_,[],[130,1],(Option.some.inj h).symm,by decide,?_⟩
 try simp only [*,go_sem,seval]
 rintro b ⟨sl,ob,n⟩ f D h
 simp only [go_sem,seval,Zd] at f
 obtain ⟨⟨E,F,G,H⟩,I,J,hn⟩:=f
 subst hn
 have K:=ZC (a.length)
 cases h
 try simp only [*,go_sem,seval]
theorem ZDQ {a_0:(List Zc)} {b_1:(List Zc)} {r:Bool} (h:ZDJ a_0 b_1=some r):Zn Tryz.prog J0 164 [(false,[.sl 57 2 (List.map Zq a_0)]),(false,[.sl 57 2 (List.map Zq b_1)])] [(false,[(false,.bool r)])]:=by
 refine fnk Tryz.func164 (by kernel_rfl) rfl (by kernel_rfl) (by kernel_rfl) ?_
 unfold ZDJ at h
 simp only [fnS,f164,Zo,go_sem,seval]
 refine Ze h (fun _ h=>?_) fun _ h=>?_<;>try simp only [*,go_sem,seval]
 cases h
 try simp only [*,go_sem,seval]
 refine Zg h (fun i _ st=>IV [(0,.p false [.c (.sl 57 2 (List.map Zq a_0))]),(1,.p false [.c (.sl 57 2 (List.map Zq b_1))]),(5,.p false [.c (.int .i64 ((i:Nat):Int))])] [] st) [] [] (by decide) ?_ ?_ ?_
 simp only [*,go_sem,seval]
 rintro o q ⟨⟩ ⟨sl,ob,n⟩ t a b e h f
 simp only [go_sem,seval,Zd] at b
 obtain ⟨⟨g,u,v⟩,hn⟩:=b
 subst hn
 have k:=WF.slotL e g (j:=0) rfl
 have w:=ZF a
 have x:=ZJ a
 have y:=Zi (ZE a) k
 obtain ⟨z,A,B,l,h⟩:=Zgn h
 simp only [Int.toNat_natCast] at l
 try simp only [*,go_sem,seval]
 obtain ⟨C,m,h⟩:=Za h
 refine Zb (Zo0 m) ?_
 try simp only [*,go_sem,seval]
 refine Ze h (fun _ h=>?_) fun _ h=>?_<;>try simp only [*,go_sem,seval]
 refine ⟨_,[],[],(Option.some.inj h).symm,by decide,?_⟩
 try simp only [*,go_sem,seval]
 replace h:=Zs h f
 cases h
 try simp only [*,go_sem,seval]
 rintro ⟨⟩ ⟨sl,ob,n⟩ d D h
 simp only [go_sem,seval,Zd] at d
 obtain ⟨⟨E,F,G⟩,hn⟩:=d
 subst hn
 have H:=ZC (a_0.length)
 cases h
 try simp only [*,go_sem,seval]
theorem ZDR {a_0:(List Zc)} {b_1:(List Zc)} {r:Bool} (h:ZDA a_0 b_1=some r):Zn Tryz.prog J0 167 [(false,[.sl 57 2 (List.map Zq a_0)]),(false,[.sl 57 2 (List.map Zq b_1)])] [(false,[(false,.bool r)])]:=by
 refine fnk Tryz.func167 (by kernel_rfl) rfl (by kernel_rfl) (by kernel_rfl) ?_
 unfold ZDA at h
 simp only [fnS,f167,Zo,go_sem,seval]
 refine Ze h (fun _ h=>?_) fun _ h=>?_<;>try simp only [*,go_sem,seval]
 cases h
 try simp only [*,go_sem,seval]
 refine Zg h (fun i _ st=>IV [(0,.p false [.c (.sl 57 2 (List.map Zq a_0))]),(1,.p false [.c (.sl 57 2 (List.map Zq b_1))]),(12,.p false [.c (.int .i64 ((a_0.length:Nat):Int))]),(13,.p false [.c (.int .i64 ((i:Nat):Int))])] [] st) [] [] (by decide) ?_ ?_ ?_
 simp only [*,go_sem,seval]
 rintro o q ⟨⟩ ⟨sl,ob,n⟩ t a b e h f
 simp only [go_sem,seval,Zd] at b
 obtain ⟨⟨g,u,v,w⟩,hn⟩:=b
 subst hn
 have k:=WF.slotL e g (j:=0) rfl
 have x:=ZF a
 have y:=ZJ a
 have z:=Zi (ZE a) k
 obtain ⟨A,B,C,l,h⟩:=Zgn h
 simp only [Int.toNat_natCast] at l
 try simp only [*,go_sem,seval]
 obtain ⟨D,m,h⟩:=Za h
 refine Zb (ZlP m) ?_
 try simp only [*,go_sem,seval]
 refine Ze h (fun _ h=>?_) fun _ h=>?_<;>try simp only [*,go_sem,seval]
 refine ⟨_,[],[],(Option.some.inj h).symm,by decide,?_⟩
 try simp only [*,go_sem,seval]
 replace h:=Zs h f
 cases h
 try simp only [*,go_sem,seval]
 rintro ⟨⟩ ⟨sl,ob,n⟩ d E h
 simp only [go_sem,seval,Zd] at d
 obtain ⟨⟨F,G,H,I⟩,hn⟩:=d
 subst hn
 have J:=ZC (a_0.length)
 cases h
 try simp only [*,go_sem,seval]
end Go.Proofs.YtojnhepgnbhaaaaGreatDoor
namespace Go.Proofs.YtojnhepgnbhaaaaGreatDoor
open Go.Proofs.Tryz
set_option linter.unusedSimpArgs false
set_option linter.unusedVariables false
set_option maxRecDepth 1000000
set_option maxHeartbeats 4000000
theorem QB {s_0:ByteArray} {r:Bool} (h:QL s_0=some r):Zn Tryz.prog J0 101 [(false,[.str s_0])] [(false,[(false,.bool r)])]:=by
 refine fnk Tryz.func101 (by kernel_rfl) rfl (by kernel_rfl) (by kernel_rfl) ?_
 unfold QL at h
 simp only [fnS,f101,Zo,go_sem,seval]
 obtain ⟨c,a,h⟩:=Za h
 refine Zb (Qc a) ?_
 try simp only [*,go_sem,seval]
 refine Ze h (fun _ h=>?_) fun _ h=>?_<;>try simp only [*,go_sem,seval]
 cases h
 try simp only [*,go_sem,seval]
 obtain ⟨d,b,h⟩:=Za h
 refine Zb (QE b) ?_
 cases h
 try simp only [*,go_sem,seval]
theorem Zjl {f_0:Zc} {r:Bool} (h:Zey f_0=some r):Zn Tryz.prog J0 149 [(true,Zq f_0)] [(false,[(false,.bool r)])]:=by
 refine fnk Tryz.func149 (by kernel_rfl) rfl (by kernel_rfl) (by kernel_rfl) ?_
 unfold Zey at h
 simp only [fnS,f149,Zo,go_sem,seval]
 refine Zg h (fun i _ st=>IV [(1,.bp 0 0),(3,.p false [.c (.int .i64 ((i:Nat):Int))])] [.box 57 [.c (.str f_0.rel),.c (.sl 9 1 (List.map Zu f_0.args))]] st) [] [0] (by decide) ?_ ?_ ?_
 simp only [*,go_sem,seval]
 rintro o q ⟨⟩ ⟨sl,ob,n⟩ t a b e h f
 simp only [go_sem,seval,Zd] at b
 obtain ⟨⟨u,v⟩,g,hn⟩:=b
 subst hn
 have k:=WF.boxL e g (j:=1) rfl
 have w:=ZF a
 have x:=ZJ a
 have y:=Zi (ZE a) k
 try simp only [*,go_sem,seval]
 obtain ⟨z,l,h⟩:=Za h
 refine Zb (Qc l) ?_
 try simp only [*,go_sem,seval]
 refine Ze h (fun _ h=>?_) fun _ h=>?_<;>try simp only [*,go_sem,seval]
 refine ⟨_,[],[0],(Option.some.inj h).symm,by decide,?_⟩
 try simp only [*,go_sem,seval]
 replace h:=Zs h f
 cases h
 try simp only [*,go_sem,seval]
 rintro ⟨⟩ ⟨sl,ob,n⟩ d A h
 simp only [go_sem,seval,Zd] at d
 obtain ⟨⟨B,C⟩,D,hn⟩:=d
 subst hn
 have E:=ZC (f_0.args.length)
 try simp only [*,go_sem,seval]
 obtain ⟨F,m,h⟩:=Za h
 refine Zb (Zfs m) ?_
 try simp only [*,go_sem,seval]
 refine Ze h (fun _ h=>?_) fun _ h=>?_<;>try simp only [*,go_sem,seval]
 iterate 2 (cases h;try simp only [*,go_sem,seval])
theorem QM {b_0:(List Zl)} {r:Bool} (h:XI b_0=some r):Zn Tryz.prog J0 150 [(false,[.sl 192 2 (List.map Z6 b_0)])] [(false,[(false,.bool r)])]:=by
 refine fnk Tryz.func150 (by kernel_rfl) rfl (by kernel_rfl) (by kernel_rfl) ?_
 unfold XI at h
 simp only [fnS,f150,Zo,go_sem,seval]
 refine Zg h (fun i _ st=>IV [(0,.p false [.c (.sl 192 2 (List.map Z6 b_0))]),(3,.p false [.c (.int .i64 ((i:Nat):Int))])] [] st) [] [] (by decide) ?_ ?_ ?_
 simp only [*,go_sem,seval]
 rintro o q ⟨⟩ ⟨sl,ob,n⟩ t a b f h d
 simp only [go_sem,seval,Zd] at b
 obtain ⟨⟨g,u⟩,hn⟩:=b
 subst hn
 have k:=WF.slotL f g (j:=0) rfl
 have v:=ZF a
 have w:=ZJ a
 have x:=Zi (ZE a) k
 try simp only [*,go_sem,seval]
 obtain ⟨y,l,h⟩:=Za h
 refine Zb (QE l) ?_
 try simp only [*,go_sem,seval]
 refine Ze h (fun _ h=>?_) fun _ h=>?_<;>try simp only [*,go_sem,seval]
 obtain ⟨z,m,h⟩:=Za h
 refine Zb (Qc m) ?_
 try simp only [*,go_sem,seval]
 iterate 2 refine Ze h (fun _ h=>?_) fun _ h=>?_<;>try simp only [*,go_sem,seval]
 obtain ⟨A,B,C,D,h⟩:=Zgn h
 try simp only [*,go_sem,seval]
 refine Ze h (fun _ h=>?_) fun _ h=>?_<;>try simp only [*,go_sem,seval]
 refine ⟨_,[],[],(Option.some.inj h).symm,by decide,?_⟩
 try simp only [*,go_sem,seval]
 replace h:=Zs h d
 cases h
 try simp only [*,go_sem,seval]
 refine ⟨_,[],[],(Option.some.inj h).symm,by decide,?_⟩
 iterate 2 ((try simp only [*,go_sem,seval]);replace h:=Zs h d;cases h)
 try simp only [*,go_sem,seval]
 rintro ⟨⟩ ⟨sl,ob,n⟩ e E h
 simp only [go_sem,seval,Zd] at e
 obtain ⟨⟨F,G⟩,hn⟩:=e
 subst hn
 have H:=ZC (b_0.length)
 cases h
 try simp only [*,go_sem,seval]
theorem Zcl {b_0:(List Zl)} {term_1:ByteArray} {r:(ByteArray × Bool)} (h:ZaC b_0 term_1=some r):Zn Tryz.prog J0 165 [(false,[.sl 192 2 (List.map Z6 b_0)]),(false,[.str term_1])] [(false,[(false,.str r.1)]),(false,[(false,.bool r.2)])]:=by
 refine fnk Tryz.func165 (by kernel_rfl) rfl (by kernel_rfl) (by kernel_rfl) ?_
 unfold ZaC at h
 have e:Zcf ⟨#[]⟩=true:=by decide
 simp only [fnS,f165,Zo,go_sem,seval,e]
 obtain ⟨q,f,h⟩:=Za h
 refine Zb (Qc f) ?_
 try simp only [*,go_sem,seval]
 refine Ze h (fun _ h=>?_) fun _ h=>?_<;>try simp only [*,go_sem,seval]
 cases h
 try simp only [*,go_sem,seval]
 refine Zg h (fun i _ st=>IV [(0,.p false [.c (.sl 192 2 (List.map Z6 b_0))]),(1,.p false [.c (.str term_1)]),(6,.p false [.c (.int .i64 ((i:Nat):Int))])] [] st) [] [] (by decide) ?_ ?_ ?_
 simp only [*,go_sem,seval]
 rintro t u ⟨⟩ ⟨sl,ob,n⟩ v a b g h k
 simp only [go_sem,seval,Zd] at b
 obtain ⟨⟨l,w,x⟩,hn⟩:=b
 subst hn
 have m:=WF.slotL g l (j:=0) rfl
 have y:=ZF a
 have z:=ZJ a
 have A:=Zi (ZE a) m
 try simp only [*,go_sem,seval]
 refine Ze h (fun _ h=>?_) fun _ h=>?_<;>try simp only [*,go_sem,seval]
 obtain ⟨B,o,h⟩:=Za h
 refine Zb (QE o) ?_
 try simp only [*,go_sem,seval]
 refine Ze h (fun _ h=>?_) fun _ h=>?_<;>try simp only [*,go_sem,seval]
 replace h:=Zs h k
 cases h
 try simp only [*,go_sem,seval]
 refine ⟨_,[],[],(Option.some.inj h).symm,by decide,?_⟩
 try simp only [*,go_sem,seval]
 refine ⟨_,[],[],(Option.some.inj h).symm,by decide,?_⟩
 try simp only [*,go_sem,seval]
 rintro ⟨⟩ ⟨sl,ob,n⟩ d C h
 simp only [go_sem,seval,Zd] at d
 obtain ⟨⟨D,E,F⟩,hn⟩:=d
 subst hn
 have G:=ZC (b_0.length)
 cases h
 try simp only [*,go_sem,seval]
theorem Zon {t_0:Zt} {r:Zt} (h:Zfp t_0=some r):Zn Tryz.prog J0 174 [(true,YZ t_0)] [(true,[(false,.sl 57 2 (List.map Zq r.facts)),(false,.sl 192 2 (List.map Z6 r.binding))])]:=by
 refine fnk Tryz.func174 (by kernel_rfl) rfl (by kernel_rfl) (by kernel_rfl) ?_
 unfold Zfp at h
 simp only [fnS,f174,Zo,go_sem,seval]
 obtain ⟨c,a,h⟩:=Za h
 refine Zb (Zd1 a) ?_
 try simp only [*,go_sem,seval]
 obtain ⟨d,b,h⟩:=Za h
 refine Zb (Zf4 b) ?_
 cases h
 try simp only [*,go_sem,seval]
theorem Zb1 {p_0:Zv} {r:(List ByteArray)} (h:Za4 p_0=some r):Zn Tryz.prog J0 225 [(true,QQ p_0)] [(false,[(false,.sl 9 1 (List.map Zu r))])]:=by
 refine fnk Tryz.func225 (by kernel_rfl) rfl (by kernel_rfl) (by kernel_rfl) ?_
 unfold Za4 at h
 simp only [fnS,f225,Zo,go_sem,seval]
 refine Zg h (fun i a st=>IV [(1,.bp 0 0),(3,.p false [.row 1]),(4,.p false [.c (.int .i64 ((i:Nat):Int))])] [.box 49 [.c (.str p_0.rel),.c (.sl 9 1 (List.map Zu p_0.args))],.row 9 1 (List.map Zu a) 2] st) [] [0,32] (by decide) ?_ ?_ ?_
 simp only [*,go_sem,seval]
 rintro o q a ⟨sl,ob,n⟩ t b d f h u
 simp only [go_sem,seval,Zd] at d
 obtain ⟨⟨v,w,x⟩,g,y,hn⟩:=d
 subst hn
 have k:=WF.boxL f g (j:=1) rfl
 have z:=ZF b
 have A:=ZJ b
 have B:=Zi (ZE b) k
 try simp only [*,go_sem,seval]
 obtain ⟨C,l,h⟩:=Za h
 refine Zb (QE l) ?_
 try simp only [*,go_sem,seval]
 refine Ze h (fun _ h=>?_) fun _ h=>?_<;>try simp only [*,go_sem,seval]
 obtain ⟨D,m,h⟩:=Za h
 refine Zb (Xn m) ?_
 try simp only [*,go_sem,seval]
 refine ⟨_,[],[0,274],(Option.some.inj h).symm,by decide,?_⟩
 try simp only [*,go_sem,seval]
 refine ⟨_,[],[0,1],(Option.some.inj h).symm,by decide,?_⟩
 try simp only [*,go_sem,seval]
 rintro a ⟨sl,ob,n⟩ e E h
 simp only [go_sem,seval,Zd] at e
 obtain ⟨⟨F,G,H⟩,I,J,hn⟩:=e
 subst hn
 have K:=ZC (p_0.args.length)
 cases h
 try simp only [*,go_sem,seval]
theorem ZaV {a_0:Zc} {b_1:Zc} {r:Int} (h:Xj a_0 b_1=some r):Zn Tryz.prog J0 172 [(true,Zq a_0),(true,Zq b_1)] [(false,[(false,.int .i64 r)])]:=by
 refine fnk Tryz.func172 (by kernel_rfl) rfl (by kernel_rfl) (by kernel_rfl) ?_
 unfold Xj at h
 simp only [fnS,f172,Zo,go_sem,seval]
 refine Ze h (fun _ h=>?_) fun _ h=>?_<;>try simp only [*,go_sem,seval]
 ·refine Zg h (fun i _ st=>IV [(2,.bp 0 0),(3,.bp 1 0),(5,.p false [.c (.int .i64 ((i:Nat):Int))])] [.box 57 [.c (.str a_0.rel),.c (.sl 9 1 (List.map Zu a_0.args))],.box 57 [.c (.str b_1.rel),.c (.sl 9 1 (List.map Zu b_1.args))]] st) [] [0,16] (by decide) ?_ ?_ ?_
  ·simp only [*,go_sem,seval]
  ·rintro i8 x9 ⟨⟩ ⟨sl,ob,n⟩ y2 hx3 hI4 hW5 h hy2
   simp only [go_sem,seval,Zd] at hI4
   obtain ⟨⟨g6_2,g6_3,g6_5⟩,og6_0,og6_1,hn⟩:=hI4
   subst hn
   have hlhx3:=WF.boxL hW5 og6_0 (j:=1) rfl
   have q7:=ZF hx3
   have q8:=ZJ hx3
   have q9:=Zi (ZE hx3) hlhx3
   try simp only [*,go_sem,seval]
   refine Ze h (fun _ h=>?_) fun _ h=>?_<;>try simp only [*,go_sem,seval]
   ·obtain ⟨x10,a11,a12,e13,h⟩:=Zgn h
    simp only [Int.toNat_natCast] at e13
    try simp only [*,go_sem,seval]
    obtain ⟨v11,e14,h⟩:=Za h
    refine Zb (by have hh:=Zdv e14;first|exact hh|(simp only [*,go_sem] at hh;exact hh)) ?_
    try simp only [*,go_sem,seval]
    refine Ze h (fun _ h=>?_) fun _ h=>?_<;>try simp only [*,go_sem,seval]
    ·replace h:=Zs h hy2
     cases h
     try simp only [*,go_sem,seval]
    ·refine ⟨_,[],[0,1],(Option.some.inj h).symm,by decide,?_⟩
     try simp only [*,go_sem,seval]
   ·refine Ze h (fun _ h=>?_) fun _ h=>?_<;>try simp only [*,go_sem,seval]
    ·replace h:=Zs h hy2
     cases h
     try simp only [*,go_sem,seval]
    ·refine Ze h (fun _ h=>?_) fun _ h=>?_<;>try simp only [*,go_sem,seval]
     ·replace h:=Zs h hy2
      cases h
      try simp only [*,go_sem,seval]
     ·replace h:=Zs h hy2
      cases h
      try simp only [*,go_sem,seval]
  ·rintro ⟨⟩ ⟨sl,ob,n⟩ hI18 hW19 h
   simp only [go_sem,seval,Zd] at hI18
   obtain ⟨⟨g20_2,g20_3,g20_5⟩,og20_0,og20_1,hn⟩:=hI18
   subst hn
   have q21:=ZC (a_0.args.length)
   try simp only [*,go_sem,seval]
   refine Ze h (fun _ h=>?_) fun _ h=>?_<;>try simp only [*,go_sem,seval]
   ·cases h
    try simp only [*,go_sem,seval]
   ·refine Ze h (fun _ h=>?_) fun _ h=>?_<;>try simp only [*,go_sem,seval]
    ·cases h
     try simp only [*,go_sem,seval]
    ·cases h
     try simp only [*,go_sem,seval]
 ·obtain ⟨v12,e24,h⟩:=Za h
  refine Zb (by have hh:=ZjZ e24;first|exact hh|(simp only [*,go_sem] at hh;exact hh)) ?_
  cases h
  try simp only [*,go_sem,seval]
theorem ZgF {l_0:(List Zc)} {facts_1:(List Zc)} {r:(List Int)} (h:Zbz l_0 facts_1=some r):Zn Tryz.prog J0 128 [(false,[.sl 57 2 (List.map Zq l_0)]),(false,[.sl 57 2 (List.map Zq facts_1)])] [(false,[(false,.sl 3 1 (List.map Qv r))])]:=by
 refine fnk Tryz.func128 (by kernel_rfl) rfl (by kernel_rfl) (by kernel_rfl) ?_
 unfold Zbz at h
 simp only [fnS,f128,Zo,go_sem,seval]
 refine Zg h (fun i a st=>IV [(0,.p false [.c (.sl 57 2 (List.map Zq l_0))]),(1,.p false [.c (.sl 57 2 (List.map Zq facts_1))]),(5,.p false [.row 0]),(6,.p false [.c (.int .i64 ((i:Nat):Int))])] [.row 3 1 (List.map Qv a) 2] st) [] [16] (by decide) ?_ ?_ ?_
 simp only [*,go_sem,seval]
 rintro o q a ⟨sl,ob,n⟩ t b d f h u
 simp only [go_sem,seval,Zd] at d
 obtain ⟨⟨v,g,w,x⟩,y,hn⟩:=d
 subst hn
 have k:=WF.slotL f g (j:=0) rfl
 have z:=ZF b
 have A:=ZJ b
 have B:=Zi (ZE b) k
 try simp only [*,go_sem,seval]
 obtain ⟨C,l,h⟩:=Za h
 refine Zb (Zd2 l) ?_
 try simp only [*,go_sem,seval]
 refine Ze h (fun _ h=>?_) fun _ h=>?_<;>try simp only [*,go_sem,seval]
 obtain ⟨D,m,h⟩:=Za h
 refine Zb (ZnR m) ?_
 try simp only [*,go_sem,seval]
 refine ⟨_,[],[241],(Option.some.inj h).symm,by decide,?_⟩
 try simp only [*,go_sem,seval]
 refine ⟨_,[],[0],(Option.some.inj h).symm,by decide,?_⟩
 try simp only [*,go_sem,seval]
 rintro a ⟨sl,ob,n⟩ e E h
 simp only [go_sem,seval,Zd] at e
 obtain ⟨⟨F,G,H,I⟩,J,hn⟩:=e
 subst hn
 have K:=ZC (facts_1.length)
 cases h
 try simp only [*,go_sem,seval]
theorem Qa {p_0:Zv} {r:Bool} (h:Xe p_0=some r):Zn Tryz.prog J0 63 [(true,QQ p_0)] [(false,[(false,.bool r)])]:=by
 refine fnk Tryz.func63 (by kernel_rfl) rfl (by kernel_rfl) (by kernel_rfl) ?_
 unfold Xe at h
 simp only [fnS,f63,Zo,go_sem,seval]
 obtain ⟨o,e,h⟩:=Za h
 refine Zb (ZfF e) ?_
 try simp only [*,go_sem,seval]
 iterate 2 refine Ze h (fun _ h=>?_) fun _ h=>?_<;>try simp only [*,go_sem,seval]
 cases h
 try simp only [*,go_sem,seval]
 refine Zg h (fun i _ st=>IV [(16,.p false [.c (.sl 9 1 (List.map Zu p_0.args))]),(17,.p false [.c (.int .i64 ((p_0.args.length:Nat):Int))]),(18,.p false [.c (.int .i64 ((i:Nat):Int))])] [] st) [] [] (by decide) ?_ ?_ ?_
 simp only [*,go_sem,seval]
 rintro q t ⟨⟩ ⟨sl,ob,n⟩ u a b f h g
 simp only [go_sem,seval,Zd] at b
 obtain ⟨⟨k,v,w⟩,hn⟩:=b
 subst hn
 have l:=WF.slotL f k (j:=0) rfl
 have x:=ZF a
 have y:=ZJ a
 have z:=Zi (ZE a) l
 try simp only [*,go_sem,seval]
 obtain ⟨A,m,h⟩:=Za h
 refine Zb (QP m) ?_
 try simp only [*,go_sem,seval]
 refine Ze h (fun _ h=>?_) fun _ h=>?_<;>try simp only [*,go_sem,seval]
 refine ⟨_,[],[],(Option.some.inj h).symm,by decide,?_⟩
 try simp only [*,go_sem,seval]
 replace h:=Zs h g
 cases h
 try simp only [*,go_sem,seval]
 rintro ⟨⟩ ⟨sl,ob,n⟩ d B h
 simp only [go_sem,seval,Zd] at d
 obtain ⟨⟨C,D,E⟩,hn⟩:=d
 subst hn
 have F:=ZC (p_0.args.length)
 iterate 2 (cases h;try simp only [*,go_sem,seval])
theorem ZnU {a:(List Zl)} {b:ByteArray} {d:ByteArray} {r:((List Zl) × Bool)} (h:ZfW a b d=some r):Zn Tryz.prog J0 157 [(false,[.sl 192 2 (List.map Z6 a)]),(false,[.str b]),(false,[.str d])] [(false,[(false,.sl 192 2 (List.map Z6 r.1))]),(false,[(false,.bool r.2)])]:=by
 refine fnk Tryz.func157 (by kernel_rfl) rfl (by kernel_rfl) (by kernel_rfl) ?_
 unfold ZfW at h
 simp only [fnS,f157,Zo,go_sem,seval]
 obtain ⟨M,y,h⟩:=Za h
 refine Zb (QF y) ?_
 try simp only [*,go_sem,seval]
 refine Ze h (fun e h=>?_) (fun e h=>?_)<;>try simp only [*,go_sem,seval]
 obtain ⟨N,z,h⟩:=Za h
 refine Zb (ZcP z) ?_
 try simp only [*,go_sem,seval]
 refine Ze h (fun f h=>?_) (fun f h=>?_)<;>try simp only [*,go_sem,seval]
 obtain ⟨O,A,h⟩:=Za h
 refine Zb (Qg A) ?_
 try simp only [*,go_sem,seval]
 refine Ze h (fun g h=>?_) (fun g h=>?_)<;>try simp only [*,go_sem,seval]
 obtain ⟨P,B,h⟩:=Za h
 refine Zb (Zcp B) ?_
 try simp only [*,go_sem,seval]
 refine Ze h (fun k h=>?_) (fun k h=>?_)<;>try simp only [*,go_sem,seval]
 refine Ze h (fun _ h=>?_) fun _ h=>?_<;>try simp only [*,go_sem,seval]
 obtain ⟨Q,C,h⟩:=Za h
 refine Zb (ZfS C) ?_
 iterate 2 (cases h;try simp only [*,go_sem,seval])
 refine Ze h (fun l h=>?_) (fun l h=>?_)<;>try simp only [*,go_sem,seval]
 cases h
 try simp only [*,go_sem,seval]
 refine Zg h (fun i s st=>match s with | (m,o)=>IV [(1,.p false [.c (.str b)]),(2,.p false [.c (.str d)]),(10,.p false [.row 0]),(11,.p false [.c (.bool o)]),(42,.p false [.c (.sl 192 2 (List.map Z6 a))]),(43,.p false [.c (.int .i64 ((a.length:Nat):Int))]),(44,.p false [.c (.int .i64 ((i:Nat):Int))])] [.row 192 2 (List.map Z6 m) 2] st) [(false,10,0)] [512] (by decide) ?_ ?_ ?_
 simp only [*,go_sem,seval]
 rintro R S ⟨m,o⟩ ⟨sl,ob,n⟩ T q w E h U
 simp only [go_sem,seval,Zd] at w
 obtain ⟨⟨V,W,X,Y,F,Z,aa⟩,ab,hn⟩:=w
 subst hn
 have G:=WF.slotL E F (j:=0) rfl
 have ac:=ZF q
 have ad:=ZJ q
 have ae:=Zi (ZE q) G
 try simp only [*,go_sem,seval]
 refine Ze h (fun t h=>?_) (fun t h=>?_)<;>try simp only [*,go_sem,seval]
 obtain ⟨H,h⟩:=Zx h
 try simp only [Nat.reduceLeDiff] at H
 try simp only [*,go_sem,seval]
 refine ⟨_,[],[257],(Option.some.inj h).symm,by decide,?_⟩
 try simp only [*,go_sem,seval]
 refine Ze h (fun u h=>?_) (fun u h=>?_)
 have v:=u
 try simp only [e,f,g,k,l,t,Bool.false_or,Bool.or_false] at v
 obtain ⟨I,h⟩:=Zx h
 try simp only [Nat.reduceLeDiff] at I
 try simp only [*,go_sem,seval]
 refine ⟨_,[],[257],(Option.some.inj h).symm,by decide,?_⟩
 try simp only [*,go_sem,seval]
 have v:=u
 try simp only [e,f,g,k,l,t,Bool.false_or,Bool.or_false] at v
 obtain ⟨J,h⟩:=Zx h
 try simp only [Nat.reduceLeDiff] at J
 obtain ⟨K,h⟩:=Zx h
 try simp only [Nat.reduceLeDiff] at K
 try simp only [*,go_sem,seval]
 refine ⟨_,[],[385],(Option.some.inj h).symm,by decide,?_⟩
 try simp only [*,go_sem,seval]
 rintro ⟨m,o⟩ ⟨sl,ob,n⟩ x af h
 simp only [go_sem,seval,Zd] at x
 obtain ⟨⟨ag,ah,ai,aj,ak,al,am⟩,an,hn⟩:=x
 subst hn
 have ao:=ZC (a.length)
 try simp only [*,go_sem,seval]
 refine Ze h (fun _ h=>?_) fun _ h=>?_<;>try simp only [*,go_sem,seval]
 cases h
 try simp only [*,go_sem,seval]
 obtain ⟨L,h⟩:=Zx h
 try simp only [Nat.reduceLeDiff] at L
 iterate 4 (cases h;try simp only [*,go_sem,seval])
theorem ZcE {r_0:Zf} {n_1:Int} {r:(List ByteArray)} (h:QR r_0 n_1=some r):Zn Tryz.prog J0 205 [(true,ZB r_0),(false,[.int .i64 n_1])] [(false,[(false,.sl 9 1 (List.map Zu r))])]:=by
 refine fnk Tryz.func205 (by kernel_rfl) rfl (by kernel_rfl) (by kernel_rfl) ?_
 unfold QR at h
 simp only [fnS,f205,Zo,go_sem,seval]
 refine Zg h (fun i a st=>IV [(1,.p false [.c (.int .i64 n_1)]),(5,.p false [.row 0]),(9,.p false [.c (.sl 130 5 (List.map ZM r_0.cond))]),(10,.p false [.c (.int .i64 ((r_0.cond.length:Nat):Int))]),(11,.p false [.c (.int .i64 ((i:Nat):Int))])] [.row 9 1 (List.map Zu a) 2] st) [(false,5,0)] [112] (by decide) ?_ ?_ ?_
 simp only [*,go_sem,seval]
 rintro q t a ⟨sl,ob,n⟩ u b d f h v
 simp only [go_sem,seval,Zd] at d
 obtain ⟨⟨w,x,g,y,z⟩,A,hn⟩:=d
 subst hn
 have k:=WF.slotL f g (j:=0) rfl
 have B:=ZF b
 have C:=ZJ b
 have D:=Zi (ZE b) k
 try simp only [*,go_sem,seval]
 iterate 2 refine Ze h (fun _ h=>?_) fun _ h=>?_<;>try simp only [*,go_sem,seval]
 obtain ⟨E,l,h⟩:=Za h
 refine Zb (Zc2 l) ?_
 obtain ⟨m,h⟩:=Zx h
 try simp only [Nat.reduceLeDiff] at m
 try simp only [*,go_sem,seval]
 refine ⟨_,[],[321],(Option.some.inj h).symm,by decide,?_⟩
 try simp only [*,go_sem,seval]
 refine ⟨_,[],[0],(Option.some.inj h).symm,by decide,?_⟩
 try simp only [*,go_sem,seval]
 refine ⟨_,[],[0],(Option.some.inj h).symm,by decide,?_⟩
 try simp only [*,go_sem,seval]
 rintro a ⟨sl,ob,n⟩ e F h
 simp only [go_sem,seval,Zd] at e
 obtain ⟨⟨G,H,I,J,K⟩,L,hn⟩:=e
 subst hn
 have M:=ZC (r_0.cond.length)
 try simp only [*,go_sem,seval]
 obtain ⟨N,o,h⟩:=Za h
 refine Zb (X5 o) ?_
 cases h
 try simp only [*,go_sem,seval]
theorem ZbT {x_0:Zm} {r:(List ByteArray)} (h:Qn x_0=some r):Zn Tryz.prog J0 206 [(true,ZM x_0)] [(false,[(false,.sl 9 1 (List.map Zu r))])]:=by
 refine fnk Tryz.func206 (by kernel_rfl) rfl (by kernel_rfl) (by kernel_rfl) ?_
 unfold Qn at h
 simp only [fnS,f206,Zo,go_sem,seval]
 obtain ⟨d,a,h⟩:=Za h
 refine Zb (ZnB a) ?_
 try simp only [*,go_sem,seval]
 obtain ⟨e,b,h⟩:=Za h
 refine Zb (Zc2 b) ?_
 try simp only [*,go_sem,seval]
 obtain ⟨f,c,h⟩:=Za h
 refine Zb (X5 c) ?_
 cases h
 try simp only [*,go_sem,seval]
theorem ZdF {a_0:Zc} {b_1:Zc} {r:Int} (h:Qb a_0 b_1=some r):Zn Tryz.prog J0 180 [(true,Zq a_0),(true,Zq b_1)] [(false,[(false,.int .i64 r)])]:=by
 refine fnk Tryz.func180 (by kernel_rfl) rfl (by kernel_rfl) (by kernel_rfl) ?_
 unfold Qb at h
 simp only [fnS,f180,Zo,go_sem,seval]
 obtain ⟨u,f,h⟩:=Za h
 refine Zb (Zh6 f) ?_
 try simp only [*,go_sem,seval]
 refine Ze h (fun _ h=>?_) fun _ h=>?_<;>try simp only [*,go_sem,seval]
 cases h
 try simp only [*,go_sem,seval]
 refine Zg h (fun i _ st=>IV [(2,.bp 0 0),(3,.bp 1 0),(6,.p false [.c (.int .i64 ((i:Nat):Int))])] [.box 57 [.c (.str a_0.rel),.c (.sl 9 1 (List.map Zu a_0.args))],.box 57 [.c (.str b_1.rel),.c (.sl 9 1 (List.map Zu b_1.args))]] st) [] [0,16] (by decide) ?_ ?_ ?_
 simp only [*,go_sem,seval]
 rintro v w ⟨⟩ ⟨sl,ob,n⟩ x a b g h d
 simp only [go_sem,seval,Zd] at b
 obtain ⟨⟨y,z,A⟩,k,B,hn⟩:=b
 subst hn
 have l:=WF.boxL g k (j:=1) rfl
 have C:=ZF a
 have D:=ZJ a
 have E:=Zi (ZE a) l
 try simp only [*,go_sem,seval]
 refine Ze h (fun _ h=>?_) fun _ h=>?_<;>try simp only [*,go_sem,seval]
 obtain ⟨F,G,H,m,h⟩:=Zgn h
 simp only [Int.toNat_natCast] at m
 try simp only [*,go_sem,seval]
 obtain ⟨I,o,h⟩:=Za h
 refine Zb (ZhA o) ?_
 try simp only [*,go_sem,seval]
 refine Ze h (fun _ h=>?_) fun _ h=>?_<;>try simp only [*,go_sem,seval]
 replace h:=Zs h d
 cases h
 try simp only [*,go_sem,seval]
 refine ⟨_,[],[0,1],(Option.some.inj h).symm,by decide,?_⟩
 try simp only [*,go_sem,seval]
 obtain ⟨J,q,h⟩:=Za h
 refine Zb (ZbC q) ?_
 replace h:=Zs h d
 cases h
 try simp only [*,go_sem,seval]
 rintro ⟨⟩ ⟨sl,ob,n⟩ e K h
 simp only [go_sem,seval,Zd] at e
 obtain ⟨⟨L,M,N⟩,O,P,hn⟩:=e
 subst hn
 have Q:=ZC (a_0.args.length)
 try simp only [*,go_sem,seval]
 obtain ⟨R,t,h⟩:=Za h
 refine Zb (ZbC t) ?_
 cases h
 try simp only [*,go_sem,seval]
theorem Zhz {facts_0:(List Zc)} {l_1:(List Zc)} {r:(List Int)} (h:Zcy facts_0 l_1=some r):Zn Tryz.prog J0 90 [(false,[.sl 57 2 (List.map Zq facts_0)]),(false,[.sl 57 2 (List.map Zq l_1)])] [(false,[(false,.sl 3 1 (List.map Qv r))])]:=by
 refine fnk Tryz.func90 (by kernel_rfl) rfl (by kernel_rfl) (by kernel_rfl) ?_
 unfold Zcy at h
 simp only [fnS,f90,Zo,go_sem,seval]
 refine Zg h (fun i a st=>IV [(0,.p false [.c (.sl 57 2 (List.map Zq facts_0))]),(5,.p false [.row 0]),(9,.p false [.c (.sl 57 2 (List.map Zq l_1))]),(10,.p false [.c (.int .i64 ((l_1.length:Nat):Int))]),(11,.p false [.c (.int .i64 ((i:Nat):Int))])] [.row 3 1 (List.map Qv a) 2] st) [(false,5,0)] [80] (by decide) ?_ ?_ ?_
 simp only [*,go_sem,seval]
 rintro t u a ⟨sl,ob,n⟩ v b d f h w
 simp only [go_sem,seval,Zd] at d
 obtain ⟨⟨x,y,g,z,A⟩,B,hn⟩:=d
 subst hn
 have k:=WF.slotL f g (j:=0) rfl
 have C:=ZF b
 have D:=ZJ b
 have E:=Zi (ZE b) k
 try simp only [*,go_sem,seval]
 obtain ⟨F,l,h⟩:=Za h
 refine Zb (ZbR l) ?_
 try simp only [*,go_sem,seval]
 refine Ze h (fun _ h=>?_) fun _ h=>?_<;>try simp only [*,go_sem,seval]
 obtain ⟨G,m,h⟩:=Za h
 refine Zb (ZoY m) ?_
 try simp only [*,go_sem,seval]
 refine Ze h (fun _ h=>?_) fun _ h=>?_<;>try simp only [*,go_sem,seval]
 refine ⟨_,[],[0],(Option.some.inj h).symm,by decide,?_⟩
 try simp only [*,go_sem,seval]
 obtain ⟨o,h⟩:=Zx h
 try simp only [Nat.reduceLeDiff] at o
 try simp only [*,go_sem,seval]
 refine ⟨_,[],[321],(Option.some.inj h).symm,by decide,?_⟩
 try simp only [*,go_sem,seval]
 refine ⟨_,[],[0],(Option.some.inj h).symm,by decide,?_⟩
 try simp only [*,go_sem,seval]
 rintro a ⟨sl,ob,n⟩ e H h
 simp only [go_sem,seval,Zd] at e
 obtain ⟨⟨I,J,K,L,M⟩,N,hn⟩:=e
 subst hn
 have O:=ZC (l_1.length)
 try simp only [*,go_sem,seval]
 obtain ⟨P,q,h⟩:=Za h
 refine ZsX (Zl1 q) ?_
 cases h
 try simp only [*,go_sem,seval]
theorem ZAE {b_0:ZK} {r:Bool} (h:ZAd b_0=some r):Zn Tryz.prog J0 185 [(true,Zff b_0)] [(false,[(false,.bool r)])]:=by
 refine fnk Tryz.func185 (by kernel_rfl) rfl (by kernel_rfl) (by kernel_rfl) ?_
 unfold ZAd at h
 simp only [fnS,f185,Zo,go_sem,seval]
 obtain ⟨A,o,h⟩:=Za h
 refine Zb (ZBG o) ?_
 try simp only [*,go_sem,seval]
 refine Ze h (fun _ h=>?_) fun _ h=>?_<;>try simp only [*,go_sem,seval]
 refine Zg h (fun i _ st=>IV [(1,.bp 0 0),(3,.p false [.c (.int .i64 ((i:Nat):Int))])] [.box 29 [.c (.int .i64 b_0.nodes),.c (.sl 114 3 (List.map Yn b_0.reasons))]] st) [] [0] (by decide) ?_ ?_ ?_
 simp only [*,go_sem,seval]
 rintro q d ⟨⟩ ⟨sl,ob,n⟩ B a e t h f
 simp only [go_sem,seval,Zd] at e
 obtain ⟨⟨C,D⟩,u,hn⟩:=e
 subst hn
 have v:=WF.boxL t u (j:=1) rfl
 have E:=ZF a
 have F:=ZJ a
 have G:=Zi (ZE a) v
 try simp only [*,go_sem,seval]
 refine Zg h (fun i _ st=>IV [(1,.bp 0 0),(3,.p false [.c (.int .i64 ((q:Nat):Int))]),(4,.p false [.c (.int .i64 d.for_)]),(5,.p false [.c (.int .i64 ((i:Nat):Int))])] [.box 29 [.c (.int .i64 b_0.nodes),.c (.sl 114 3 (List.map Yn b_0.reasons))]] st) [] [0] (by decide) ?_ ?_ ?_
 simp only [*,go_sem,seval]
 rintro H I ⟨⟩ ⟨sl,ob,n⟩ J b g w h k
 simp only [go_sem,seval,Zd] at g
 obtain ⟨⟨K,L,M,N⟩,x,hn⟩:=g
 subst hn
 have y:=WF.elL (WF.boxD w x (j:=1) rfl) a (j:=2) rfl
 have O:=ZF b
 have P:=ZJ b
 have Q:=Zi (ZE b) y
 try simp only [*,go_sem,seval]
 refine Ze h (fun _ h=>?_) fun _ h=>?_<;>try simp only [*,go_sem,seval]
 replace h:=Zs h k
 replace h:=Zs h f
 cases h
 try simp only [*,go_sem,seval]
 obtain ⟨R,z,h⟩:=Za h
 refine Zb (ZBO z) ?_
 obtain ⟨S,h⟩:=Zx h
 obtain ⟨T,U,h⟩:=Za h
 try simp only [*,go_sem,seval]
 refine Ze h (fun _ h=>?_) fun _ h=>?_<;>try simp only [*,go_sem,seval]
 replace h:=Zs h k
 replace h:=Zs h f
 cases h
 try simp only [*,go_sem,seval]
 refine ⟨_,[],[0],(Option.some.inj h).symm,by decide,?_⟩
 try simp only [*,go_sem,seval]
 rintro ⟨⟩ ⟨sl,ob,n⟩ l V h
 simp only [go_sem,seval,Zd] at l
 obtain ⟨⟨W,X,Y,Z⟩,aa,hn⟩:=l
 subst hn
 have ab:=ZC (d.outs.length)
 try simp only [*,go_sem,seval]
 refine ⟨_,[],[0],(Option.some.inj h).symm,by decide,?_⟩
 try simp only [*,go_sem,seval]
 rintro ⟨⟩ ⟨sl,ob,n⟩ m ac h
 simp only [go_sem,seval,Zd] at m
 obtain ⟨⟨ad,ae⟩,af,hn⟩:=m
 subst hn
 have ag:=ZC (b_0.reasons.length)
 iterate 2 (cases h;try simp only [*,go_sem,seval])
theorem ZBS {facts_0:(List Zc)} {b_1:ZK} {r:(List Zc)} (h:ZAy facts_0 b_1=some r):Zn Tryz.prog J0 58 [(false,[.sl 57 2 (List.map Zq facts_0)]),(true,Zff b_1)] [(false,[(false,.sl 57 2 (List.map Zq r))])]:=by
 refine fnk Tryz.func58 (by kernel_rfl) rfl (by kernel_rfl) (by kernel_rfl) ?_
 unfold ZAy at h
 simp only [fnS,f58,Zo,go_sem,seval]
 obtain ⟨a,g,h⟩:=Za h
 refine Zb (ZCB g) ?_
 try simp only [*,go_sem,seval]
 refine Zg h (fun i b st=>IV [(0,.p false [.c (.sl 57 2 (List.map Zq facts_0))]),(5,.p false [.row 0]),(9,.p false [.row 1]),(10,.p false [.c (.int .i64 ((a.length:Nat):Int))]),(11,.p false [.c (.int .i64 ((i:Nat):Int))])] [.row 57 2 (List.map Zq b) 2,.row 4 1 (List.map Zuz a) 2] st) [(false,5,0)] [112,64] (by decide) ?_ ?_ ?_
 simp only [*,go_sem,seval]
 rintro t u b ⟨sl,ob,n⟩ v d e j h w
 simp only [go_sem,seval,Zd] at e
 obtain ⟨⟨x,y,z,A,B⟩,C,k,hn⟩:=e
 subst hn
 have l:=WF.rowL j k
 have D:=ZF d
 have E:=ZJ d
 have F:=Zi (ZE d) l
 try simp only [*,go_sem,seval]
 refine Ze h (fun _ h=>?_) fun _ h=>?_<;>try simp only [*,go_sem,seval]
 obtain ⟨G,H,I,m,h⟩:=Zgn h
 simp only [Int.toNat_natCast] at m
 try simp only [*,go_sem,seval]
 obtain ⟨J,o,h⟩:=Za h
 refine Zb (Xf o) ?_
 obtain ⟨q,h⟩:=Zx h
 try simp only [Nat.reduceLeDiff] at q
 try simp only [*,go_sem,seval]
 refine ⟨_,[],[226,1],(Option.some.inj h).symm,by decide,?_⟩
 try simp only [*,go_sem,seval]
 refine ⟨_,[],[0,1],(Option.some.inj h).symm,by decide,?_⟩
 try simp only [*,go_sem,seval]
 rintro b ⟨sl,ob,n⟩ f K h
 simp only [go_sem,seval,Zd] at f
 obtain ⟨⟨L,M,N,O,P⟩,Q,R,hn⟩:=f
 subst hn
 have S:=ZC (a.length)
 cases h
 try simp only [*,go_sem,seval]
end Go.Proofs.YtojnhepgnbhaaaaGreatDoor
namespace Go.Proofs.YtojnhepgnbhaaaaGreatDoor
open Go.Proofs.Tryz
set_option linter.unusedSimpArgs false
set_option linter.unusedVariables false
set_option maxRecDepth 1000000
set_option maxHeartbeats 4000000
theorem X3 {p_0:Zv} {r:Bool} (h:Xb p_0=some r):Zn Tryz.prog J0 60 [(true,QQ p_0)] [(false,[(false,.bool r)])]:=by
 refine fnk Tryz.func60 (by kernel_rfl) rfl (by kernel_rfl) (by kernel_rfl) ?_
 unfold Xb at h
 simp only [fnS,f60,Zo,go_sem,seval]
 refine Zg h (fun i _ st=>IV [(1,.bp 0 0),(3,.p false [.c (.int .i64 ((i:Nat):Int))])] [.box 49 [.c (.str p_0.rel),.c (.sl 9 1 (List.map Zu p_0.args))]] st) [] [0] (by decide) ?_ ?_ ?_
 simp only [*,go_sem,seval]
 rintro o q ⟨⟩ ⟨sl,ob,n⟩ t a b e h f
 simp only [go_sem,seval,Zd] at b
 obtain ⟨⟨u,v⟩,g,hn⟩:=b
 subst hn
 have k:=WF.boxL e g (j:=1) rfl
 have w:=ZF a
 have x:=ZJ a
 have y:=Zi (ZE a) k
 try simp only [*,go_sem,seval]
 obtain ⟨z,l,h⟩:=Za h
 refine Zb (QB l) ?_
 try simp only [*,go_sem,seval]
 refine Ze h (fun _ h=>?_) fun _ h=>?_<;>try simp only [*,go_sem,seval]
 refine ⟨_,[],[0],(Option.some.inj h).symm,by decide,?_⟩
 try simp only [*,go_sem,seval]
 replace h:=Zs h f
 cases h
 try simp only [*,go_sem,seval]
 rintro ⟨⟩ ⟨sl,ob,n⟩ d A h
 simp only [go_sem,seval,Zd] at d
 obtain ⟨⟨B,C⟩,D,hn⟩:=d
 subst hn
 have E:=ZC (p_0.args.length)
 try simp only [*,go_sem,seval]
 obtain ⟨F,m,h⟩:=Za h
 refine Zb (Zfs m) ?_
 try simp only [*,go_sem,seval]
 refine Ze h (fun _ h=>?_) fun _ h=>?_<;>try simp only [*,go_sem,seval]
 iterate 2 (cases h;try simp only [*,go_sem,seval])
theorem Zpe {b_0:(List Zl)} {v_1:ByteArray} {value_2:ByteArray} {r:((List Zl) × Bool)} (h:Zfx b_0 v_1 value_2=some r):Zn Tryz.prog J0 152 [(false,[.sl 192 2 (List.map Z6 b_0)]),(false,[.str v_1]),(false,[.str value_2])] [(false,[(false,.sl 192 2 (List.map Z6 r.1))]),(false,[(false,.bool r.2)])]:=by
 refine fnk Tryz.func152 (by kernel_rfl) rfl (by kernel_rfl) (by kernel_rfl) ?_
 unfold Zfx at h
 simp only [fnS,f152,Zo,go_sem,seval]
 obtain ⟨g,a,h⟩:=Za h
 refine Zb (QM a) ?_
 try simp only [*,go_sem,seval]
 refine Ze h (fun _ h=>?_) fun _ h=>?_<;>try simp only [*,go_sem,seval]
 obtain ⟨i,b,h⟩:=Za h
 refine Zb (QE b) ?_
 try simp only [*,go_sem,seval]
 refine Ze h (fun _ h=>?_) fun _ h=>?_<;>try simp only [*,go_sem,seval]
 obtain ⟨j,c,h⟩:=Za h
 refine Zb (Qc c) ?_
 try simp only [*,go_sem,seval]
 refine Ze h (fun _ h=>?_) fun _ h=>?_<;>try simp only [*,go_sem,seval]
 obtain ⟨k,d,h⟩:=Za h
 refine Zb (Zcl d) ?_
 try simp only [*,go_sem,seval]
 iterate 2 refine Ze h (fun _ h=>?_) fun _ h=>?_<;>try simp only [*,go_sem,seval]
 obtain ⟨l,e,h⟩:=Za h
 refine Zb (Zf4 e) ?_
 iterate 2 (cases h;try simp only [*,go_sem,seval])
 refine Ze h (fun _ h=>?_) fun _ h=>?_<;>try simp only [*,go_sem,seval]
 cases h
 try simp only [*,go_sem,seval]
 obtain ⟨m,f,h⟩:=Za h
 refine Zb (Zqk f) ?_
 iterate 4 (cases h;try simp only [*,go_sem,seval])
theorem Zae {x_0:Zm} {r:(List ByteArray)} (h:XR x_0=some r):Zn Tryz.prog J0 195 [(true,ZM x_0)] [(false,[(false,.sl 9 1 (List.map Zu r))])]:=by
 refine fnk Tryz.func195 (by kernel_rfl) rfl (by kernel_rfl) (by kernel_rfl) ?_
 unfold XR at h
 simp only [fnS,f195,Zo,go_sem,seval]
 obtain ⟨i,a,h⟩:=Za h
 refine Zb (Zb1 a) ?_
 try simp only [*,go_sem,seval]
 obtain ⟨j,b,h⟩:=Za h
 refine Zb (QE b) ?_
 try simp only [*,go_sem,seval]
 refine Ze h (fun _ h=>?_) fun _ h=>?_<;>try simp only [*,go_sem,seval]
 obtain ⟨k,c,h⟩:=Za h
 refine Zb (Xn c) ?_
 try simp only [*,go_sem,seval]
 obtain ⟨l,d,h⟩:=Za h
 refine Zb (QE d) ?_
 try simp only [*,go_sem,seval]
 refine Ze h (fun _ h=>?_) fun _ h=>?_<;>try simp only [*,go_sem,seval]
 obtain ⟨m,e,h⟩:=Za h
 refine Zb (Xn e) ?_
 iterate 2 (cases h;try simp only [*,go_sem,seval])
 obtain ⟨o,f,h⟩:=Za h
 refine Zb (QE f) ?_
 try simp only [*,go_sem,seval]
 refine Ze h (fun _ h=>?_) fun _ h=>?_<;>try simp only [*,go_sem,seval]
 obtain ⟨p,g,h⟩:=Za h
 refine Zb (Xn g) ?_
 iterate 2 (cases h;try simp only [*,go_sem,seval])
theorem Za3 {r_0:Zf} {n_1:Int} {r:(List ByteArray)} (h:Qf r_0 n_1=some r):Zn Tryz.prog J0 196 [(true,ZB r_0),(false,[.int .i64 n_1])] [(false,[(false,.sl 9 1 (List.map Zu r))])]:=by
 refine fnk Tryz.func196 (by kernel_rfl) rfl (by kernel_rfl) (by kernel_rfl) ?_
 unfold Qf at h
 simp only [fnS,f196,Zo,go_sem,seval]
 refine Zg h (fun i row_12 st=>IV [(1,.p false [.c (.int .i64 n_1)]),(2,.bp 0 0),(5,.p false [.row 1]),(6,.p false [.c (.int .i64 ((i:Nat):Int))])] [.box 82 [.c (.str r_0.name),.c (.int .i64 r_0.priority),.c (.sl 130 5 (List.map ZM r_0.cond)),.c (.sl 134 3 (List.map ZA r_0.thn))],.row 9 1 (List.map Zu row_12) 2] st) [] [0,32] (by decide) ?_ ?_ ?_
 ·simp only [*,go_sem,seval]
 ·rintro i25 x26 row_12 ⟨sl,ob,n⟩ y1 hx2 hI3 hW4 h hy1
  simp only [go_sem,seval,Zd] at hI3
  obtain ⟨⟨g5_1,g5_2,g5_5,g5_6⟩,og5_0,og5_1,hn⟩:=hI3
  subst hn
  have hlhx2:=WF.boxL hW4 og5_0 (j:=2) rfl
  have q6:=ZF hx2
  have q7:=ZJ hx2
  have q8:=Zi (ZE hx2) hlhx2
  try simp only [*,go_sem,seval]
  refine Ze h (fun _ h=>?_) fun _ h=>?_<;>try simp only [*,go_sem,seval]
  ·refine Ze h (fun _ h=>?_) fun _ h=>?_<;>try simp only [*,go_sem,seval]
   ·obtain ⟨v27,e11,h⟩:=Za h
    refine Zb (by have hh:=Zb1 e11;first|exact hh|(simp only [*,go_sem] at hh;exact hh)) ?_
    try simp only [*,go_sem,seval]
    refine Zg h (fun i row_30 st=>IV [(1,.p false [.c (.int .i64 n_1)]),(2,.bp 0 0),(5,.p false [.row 1]),(6,.p false [.c (.int .i64 ((i25:Nat):Int))]),(7,.p false [.row 2]),(8,.p false [.c (.int .i64 ((i:Nat):Int))]),(16,.p false [.c (.int .i64 ((i25:Nat):Int))]),(17,.p false [.c (.int .i64 n_1)]),(18,.p false [.c (.bool (decide (((i25:Nat):Int)<n_1)))])] [.box 82 [.c (.str r_0.name),.c (.int .i64 r_0.priority),.c (.sl 130 5 (List.map ZM r_0.cond)),.c (.sl 134 3 (List.map ZA r_0.thn))],.row 9 1 (List.map Zu row_30) 2,.row 9 1 (List.map Zu v27) 2] st) [] [0,1,370] (by decide) ?_ ?_ ?_
    ·simp only [*,go_sem,seval]
    ·rintro i34 x35 row_30 ⟨sl,ob,n⟩ y12 hx13 hI14 hW15 h hy12
     simp only [go_sem,seval,Zd] at hI14
     obtain ⟨⟨g16_1,g16_2,g16_5,g16_6,g16_7,g16_8,g16_16,g16_17,g16_18⟩,og16_0,og16_1,og16_2,hn⟩:=hI14
     subst hn
     have hlhx13:=WF.rowL hW15 og16_2
     have q17:=ZF hx13
     have q18:=ZJ hx13
     have q19:=Zi (ZE hx13) hlhx13
     try simp only [*,go_sem,seval]
     obtain ⟨v36,e20,h⟩:=Za h
     refine Zb (by have hh:=Xn e20;first|exact hh|(simp only [*,go_sem] at hh;exact hh)) ?_
     try simp only [*,go_sem,seval]
     refine ⟨_,[],[0,147,2],(Option.some.inj h).symm,by decide,?_⟩
     try simp only [*,go_sem,seval]
    ·rintro row_30 ⟨sl,ob,n⟩ hI21 hW22 h
     simp only [go_sem,seval,Zd] at hI21
     obtain ⟨⟨g23_1,g23_2,g23_5,g23_6,g23_7,g23_8,g23_16,g23_17,g23_18⟩,og23_0,og23_1,og23_2,hn⟩:=hI21
     subst hn
     have q24:=ZC (v27.length)
     try simp only [*,go_sem,seval]
     refine ⟨_,[],[0,1],(Option.some.inj h).symm,by decide,?_⟩
     try simp only [*,go_sem,seval]
   ·refine ⟨_,[],[0,1],(Option.some.inj h).symm,by decide,?_⟩
    try simp only [*,go_sem,seval]
  ·replace h:=Zs h hy1
   cases h
   try simp only [*,go_sem,seval]
 ·rintro row_12 ⟨sl,ob,n⟩ hI25 hW26 h
  simp only [go_sem,seval,Zd] at hI25
  obtain ⟨⟨g27_1,g27_2,g27_5,g27_6⟩,og27_0,og27_1,hn⟩:=hI25
  subst hn
  have q28:=ZC (r_0.cond.length)
  cases h
  try simp only [*,go_sem,seval]
theorem Zl8 {l_0:(List Zc)} {r:Bool} (h:ZcW l_0=some r):Zn Tryz.prog J0 124 [(false,[.sl 57 2 (List.map Zq l_0)])] [(false,[(false,.bool r)])]:=by
 refine fnk Tryz.func124 (by kernel_rfl) rfl (by kernel_rfl) (by kernel_rfl) ?_
 unfold ZcW at h
 simp only [fnS,f124,Zo,go_sem,seval]
 refine Zg h (fun i _ st=>IV [(0,.p false [.c (.sl 57 2 (List.map Zq l_0))]),(3,.p false [.c (.int .i64 ((i:Nat):Int))])] [] st) [] [] (by decide) ?_ ?_ ?_
 simp only [*,go_sem,seval]
 rintro o q ⟨⟩ ⟨sl,ob,n⟩ t a b f h d
 simp only [go_sem,seval,Zd] at b
 obtain ⟨⟨g,u⟩,hn⟩:=b
 subst hn
 have k:=WF.slotL f g (j:=0) rfl
 have v:=ZF a
 have w:=ZJ a
 have x:=Zi (ZE a) k
 try simp only [*,go_sem,seval]
 obtain ⟨y,l,h⟩:=Za h
 refine Zb (Zjl l) ?_
 try simp only [*,go_sem,seval]
 iterate 2 refine Ze h (fun _ h=>?_) fun _ h=>?_<;>try simp only [*,go_sem,seval]
 obtain ⟨z,A,B,C,h⟩:=Zgn h
 try simp only [*,go_sem,seval]
 obtain ⟨D,m,h⟩:=Za h
 refine Zb (ZaV m) ?_
 try simp only [*,go_sem,seval]
 refine Ze h (fun _ h=>?_) fun _ h=>?_<;>try simp only [*,go_sem,seval]
 replace h:=Zs h d
 cases h
 try simp only [*,go_sem,seval]
 refine ⟨_,[],[],(Option.some.inj h).symm,by decide,?_⟩
 try simp only [*,go_sem,seval]
 refine ⟨_,[],[],(Option.some.inj h).symm,by decide,?_⟩
 try simp only [*,go_sem,seval]
 replace h:=Zs h d
 cases h
 try simp only [*,go_sem,seval]
 rintro ⟨⟩ ⟨sl,ob,n⟩ e E h
 simp only [go_sem,seval,Zd] at e
 obtain ⟨⟨F,G⟩,hn⟩:=e
 subst hn
 have H:=ZC (l_0.length)
 cases h
 try simp only [*,go_sem,seval]
theorem Zqa {a:(List Zc)} {f_1:Zc} {r:(List Zc)} (h:ZbK a f_1=some r):Zn Tryz.prog J0 126 [(false,[.sl 57 2 (List.map Zq a)]),(true,Zq f_1)] [(false,[(false,.sl 57 2 (List.map Zq r))])]:=by
 refine fnk Tryz.func126 (by kernel_rfl) rfl (by kernel_rfl) (by kernel_rfl) ?_
 unfold ZbK at h
 simp only [fnS,f126,Zo,go_sem,seval]
 refine Zg h (fun i s st=>match s with | (b,d)=>IV [(0,.p false [.c (.sl 57 2 (List.map Zq a))]),(3,.bp 0 0),(5,.p false [.row 1]),(6,.p false [.c (.bool d)]),(7,.p false [.c (.int .i64 ((i:Nat):Int))])] [.box 57 [.c (.str f_1.rel),.c (.sl 9 1 (List.map Zu f_1.args))],.row 57 2 (List.map Zq b) 2] st) [] [0,32] (by decide) ?_ ?_ ?_
 simp only [*,go_sem,seval]
 rintro G H ⟨b,d⟩ ⟨sl,ob,n⟩ I e f k h J
 simp only [go_sem,seval,Zd] at f
 obtain ⟨⟨l,K,L,M,N⟩,O,P,hn⟩:=f
 subst hn
 have m:=WF.slotL k l (j:=0) rfl
 have Q:=ZF e
 have R:=ZJ e
 have S:=Zi (ZE e) m
 try simp only [*,go_sem,seval]
 refine Ze h (fun _ h=>?_) fun _ h=>?_<;>try simp only [*,go_sem,seval]
 obtain ⟨T,o,h⟩:=Za h
 refine Zb (XF o) ?_
 obtain ⟨q,h⟩:=Zx h
 try simp only [Nat.reduceLeDiff] at q
 try simp only [*,go_sem,seval]
 refine ⟨_,[],[0,354],(Option.some.inj h).symm,by decide,?_⟩
 try simp only [*,go_sem,seval]
 obtain ⟨U,t,h⟩:=Za h
 refine Zb (ZaV t) ?_
 try simp only [*,go_sem,seval]
 refine Ze h (fun _ h=>?_) fun _ h=>?_<;>try simp only [*,go_sem,seval]
 obtain ⟨V,u,h⟩:=Za h
 refine Zb (ZaV u) ?_
 try simp only [*,go_sem,seval]
 refine Ze h (fun _ h=>?_) fun _ h=>?_<;>try simp only [*,go_sem,seval]
 obtain ⟨W,v,h⟩:=Za h
 refine Zb (XF v) ?_
 obtain ⟨w,h⟩:=Zx h
 try simp only [Nat.reduceLeDiff] at w
 try simp only [*,go_sem,seval]
 obtain ⟨X,x,h⟩:=Za h
 refine Zb (XF x) ?_
 obtain ⟨y,h⟩:=Zx h
 try simp only [Nat.reduceLeDiff] at y
 try simp only [*,go_sem,seval]
 refine ⟨_,[],[0,578],(Option.some.inj h).symm,by decide,?_⟩
 try simp only [*,go_sem,seval]
 obtain ⟨Y,z,h⟩:=Za h
 refine Zb (XF z) ?_
 obtain ⟨A,h⟩:=Zx h
 try simp only [Nat.reduceLeDiff] at A
 try simp only [*,go_sem,seval]
 refine ⟨_,[],[0,482],(Option.some.inj h).symm,by decide,?_⟩
 try simp only [*,go_sem,seval]
 obtain ⟨Z,B,h⟩:=Za h
 refine Zb (XF B) ?_
 obtain ⟨C,h⟩:=Zx h
 try simp only [Nat.reduceLeDiff] at C
 try simp only [*,go_sem,seval]
 refine ⟨_,[],[0,354],(Option.some.inj h).symm,by decide,?_⟩
 try simp only [*,go_sem,seval]
 rintro ⟨b,d⟩ ⟨sl,ob,n⟩ g aa h
 simp only [go_sem,seval,Zd] at g
 obtain ⟨⟨ab,ac,ad,ae,af⟩,ag,ah,hn⟩:=g
 subst hn
 have ai:=ZC (a.length)
 try simp only [*,go_sem,seval]
 refine Ze h (fun _ h=>?_) fun _ h=>?_<;>try simp only [*,go_sem,seval]
 cases h
 try simp only [*,go_sem,seval]
 obtain ⟨aj,D,h⟩:=Za h
 refine Zb (XF D) ?_
 obtain ⟨E,h⟩:=Zx h
 try simp only [Nat.reduceLeDiff] at E
 cases h
 try simp only [*,go_sem,seval]
theorem ZfI {append_0:Zv} {String_1:Zc} {a_2:(List Zl)} {r:((List Zl) × Bool)} (h:ZaD append_0 String_1 a_2=some r):Zn Tryz.prog J0 106 [(true,QQ append_0),(true,Zq String_1),(false,[.sl 192 2 (List.map Z6 a_2)])] [(false,[(false,.sl 192 2 (List.map Z6 r.1))]),(false,[(false,.bool r.2)])]:=by
 refine fnk Tryz.func106 (by kernel_rfl) rfl (by kernel_rfl) (by kernel_rfl) ?_
 unfold ZaD at h
 simp only [fnS,f106,Zo,go_sem,seval]
 obtain ⟨y,g,h⟩:=Za h
 refine Zb (Qa g) ?_
 try simp only [*,go_sem,seval]
 refine Ze h (fun _ h=>?_) fun _ h=>?_<;>try simp only [*,go_sem,seval]
 obtain ⟨z,k,h⟩:=Za h
 refine Zb (Zjc k) ?_
 try simp only [*,go_sem,seval]
 refine Ze h (fun _ h=>?_) fun _ h=>?_<;>try simp only [*,go_sem,seval]
 obtain ⟨A,l,h⟩:=Za h
 refine Zb (QF l) ?_
 try simp only [*,go_sem,seval]
 iterate 3 refine Ze h (fun _ h=>?_) fun _ h=>?_<;>try simp only [*,go_sem,seval]
 cases h
 try simp only [*,go_sem,seval]
 obtain ⟨B,m,h⟩:=Za h
 refine Zb (ZfS m) ?_
 try simp only [*,go_sem,seval]
 refine Zg h (fun i a st=>IV [(4,.bp 0 0),(8,.p false [.row 1]),(45,.p false [.c (.sl 9 1 (List.map Zu append_0.args))]),(46,.p false [.c (.int .i64 ((append_0.args.length:Nat):Int))]),(47,.p false [.c (.int .i64 ((i:Nat):Int))])] [.box 57 [.c (.str String_1.rel),.c (.sl 9 1 (List.map Zu String_1.args))],.row 192 2 (List.map Z6 a) 2] st) [] [16,544] (by decide) ?_ ?_ ?_
 simp only [*,go_sem,seval]
 rintro C D a ⟨sl,ob,n⟩ E b d o h e
 simp only [go_sem,seval,Zd] at d
 obtain ⟨⟨F,G,q,H,I⟩,J,K,hn⟩:=d
 subst hn
 have t:=WF.slotL o q (j:=0) rfl
 have L:=ZF b
 have M:=ZJ b
 have N:=Zi (ZE b) t
 try simp only [*,go_sem,seval]
 obtain ⟨O,u,h⟩:=Za h
 refine Zb (Qg u) ?_
 try simp only [*,go_sem,seval]
 refine Ze h (fun _ h=>?_) fun _ h=>?_<;>try simp only [*,go_sem,seval]
 obtain ⟨P,Q,R,v,h⟩:=Zgn h
 simp only [Int.toNat_natCast] at v
 try simp only [*,go_sem,seval]
 refine Ze h (fun _ h=>?_) fun _ h=>?_<;>try simp only [*,go_sem,seval]
 refine ⟨_,[],[0,1],(Option.some.inj h).symm,by decide,?_⟩
 try simp only [*,go_sem,seval]
 replace h:=Zs h e
 cases h
 try simp only [*,go_sem,seval]
 obtain ⟨S,T,U,w,h⟩:=Zgn h
 simp only [Int.toNat_natCast] at w
 try simp only [*,go_sem,seval]
 obtain ⟨V,x,h⟩:=Za h
 refine Zb (ZnU x) ?_
 try simp only [*,go_sem,seval]
 refine Ze h (fun _ h=>?_) fun _ h=>?_<;>try simp only [*,go_sem,seval]
 refine ⟨_,[],[0,242],(Option.some.inj h).symm,by decide,?_⟩
 try simp only [*,go_sem,seval]
 replace h:=Zs h e
 cases h
 try simp only [*,go_sem,seval]
 rintro a ⟨sl,ob,n⟩ f W h
 simp only [go_sem,seval,Zd] at f
 obtain ⟨⟨X,Y,Z,aa,ab⟩,ac,ad,hn⟩:=f
 subst hn
 have ae:=ZC (append_0.args.length)
 iterate 5 (cases h;try simp only [*,go_sem,seval])
theorem ZfQ {x_0:Zm} {r:Bool} (h:Zdf x_0=some r):Zn Tryz.prog J0 181 [(true,ZM x_0)] [(false,[(false,.bool r)])]:=by
 refine fnk Tryz.func181 (by kernel_rfl) rfl (by kernel_rfl) (by kernel_rfl) ?_
 unfold Zdf at h
 have a:Zcf ⟨#[]⟩=true:=by decide
 simp only [fnS,f181,Zo,go_sem,seval,a]
 refine Ze h (fun _ h=>?_) fun _ h=>?_<;>try simp only [*,go_sem,seval]
 obtain ⟨o,b,h⟩:=Za h
 refine Zb (Qa b) ?_
 try simp only [*,go_sem,seval]
 iterate 2 refine Ze h (fun _ h=>?_) fun _ h=>?_<;>try simp only [*,go_sem,seval]
 iterate 3 (cases h;try simp only [*,go_sem,seval])
 refine Ze h (fun _ h=>?_) fun _ h=>?_<;>try simp only [*,go_sem,seval]
 obtain ⟨p,c,h⟩:=Za h
 refine Zb (Qa c) ?_
 try simp only [*,go_sem,seval]
 iterate 2 refine Ze h (fun _ h=>?_) fun _ h=>?_<;>try simp only [*,go_sem,seval]
 iterate 3 (cases h;try simp only [*,go_sem,seval])
 refine Ze h (fun _ h=>?_) fun _ h=>?_<;>try simp only [*,go_sem,seval]
 obtain ⟨q,d,h⟩:=Za h
 refine Zb (QP d) ?_
 try simp only [*,go_sem,seval]
 refine Ze h (fun _ h=>?_) fun _ h=>?_<;>try simp only [*,go_sem,seval]
 obtain ⟨t,e,h⟩:=Za h
 refine Zb (QP e) ?_
 try simp only [*,go_sem,seval]
 refine Ze h (fun _ h=>?_) fun _ h=>?_<;>try simp only [*,go_sem,seval]
 obtain ⟨u,f,h⟩:=Za h
 refine Zb (QZ f) ?_
 iterate 3 (cases h;try simp only [*,go_sem,seval])
 refine Ze h (fun _ h=>?_) fun _ h=>?_<;>try simp only [*,go_sem,seval]
 obtain ⟨v,g,h⟩:=Za h
 refine Zb (QP g) ?_
 try simp only [*,go_sem,seval]
 refine Ze h (fun _ h=>?_) fun _ h=>?_<;>try simp only [*,go_sem,seval]
 obtain ⟨w,i,h⟩:=Za h
 refine Zb (QP i) ?_
 try simp only [*,go_sem,seval]
 refine Ze h (fun _ h=>?_) fun _ h=>?_<;>try simp only [*,go_sem,seval]
 obtain ⟨x,j,h⟩:=Za h
 refine Zb (QZ j) ?_
 iterate 3 (cases h;try simp only [*,go_sem,seval])
 refine Ze h (fun _ h=>?_) fun _ h=>?_<;>try simp only [*,go_sem,seval]
 obtain ⟨y,k,h⟩:=Za h
 refine Zb (QP k) ?_
 try simp only [*,go_sem,seval]
 refine Ze h (fun _ h=>?_) fun _ h=>?_<;>try simp only [*,go_sem,seval]
 obtain ⟨z,l,h⟩:=Za h
 refine Zb (QP l) ?_
 try simp only [*,go_sem,seval]
 refine Ze h (fun _ h=>?_) fun _ h=>?_<;>try simp only [*,go_sem,seval]
 obtain ⟨A,m,h⟩:=Za h
 refine Zb (QZ m) ?_
 iterate 4 (cases h;try simp only [*,go_sem,seval])
theorem Zd4 {p_0:Zv} {b_1:(List Zl)} {r:(Zc × Bool)} (h:Ql p_0 b_1=some r):Zn Tryz.prog J0 89 [(true,QQ p_0),(false,[.sl 192 2 (List.map Z6 b_1)])] [(true,[(false,.str r.1.rel),(false,.sl 9 1 (List.map Zu r.1.args))]),(false,[(false,.bool r.2)])]:=by
 refine fnk Tryz.func89 (by kernel_rfl) rfl (by kernel_rfl) (by kernel_rfl) ?_
 unfold Ql at h
 simp only [fnS,f89,Zo,go_sem,seval]
 obtain ⟨u,f,h⟩:=Za h
 refine Zb (Qa f) ?_
 try simp only [*,go_sem,seval]
 refine Ze h (fun _ h=>?_) fun _ h=>?_<;>try simp only [*,go_sem,seval]
 obtain ⟨v,g,h⟩:=Za h
 refine Zb (QF g) ?_
 try simp only [*,go_sem,seval]
 refine Ze h (fun _ h=>?_) fun _ h=>?_<;>try simp only [*,go_sem,seval]
 refine Zg h (fun i a st=>IV [(1,.p false [.c (.sl 192 2 (List.map Z6 b_1))]),(4,.bp 0 0),(6,.bp 1 0),(24,.p false [.c (.sl 9 1 (List.map Zu p_0.args))]),(25,.p false [.c (.int .i64 ((p_0.args.length:Nat):Int))]),(26,.p false [.c (.int .i64 ((i:Nat):Int))])] [.box 57 [.c (.str ⟨#[]⟩),.nil 9 1],.box 57 [.c (.str p_0.rel),.row 2],.row 9 1 (List.map Zu a) 2] st) [(true,224,1)] [16,224,320] (by decide) ?_ ?_ ?_
 simp only [*,go_sem,seval]
 rintro w x a ⟨sl,ob,n⟩ y b d k h l
 simp only [go_sem,seval,Zd] at d
 obtain ⟨⟨z,A,B,m,C,D⟩,E,F,G,hn⟩:=d
 subst hn
 have o:=WF.slotL k m (j:=0) rfl
 have H:=ZF b
 have I:=ZJ b
 have J:=Zi (ZE b) o
 try simp only [*,go_sem,seval]
 obtain ⟨K,q,h⟩:=Za h
 refine Zb (Zcp q) ?_
 try simp only [*,go_sem,seval]
 refine Ze h (fun _ h=>?_) fun _ h=>?_<;>try simp only [*,go_sem,seval]
 obtain ⟨t,h⟩:=Zx h
 try simp only [Nat.reduceLeDiff] at t
 try simp only [*,go_sem,seval]
 refine ⟨_,[],[0,1,291],(Option.some.inj h).symm,by decide,?_⟩
 try simp only [*,go_sem,seval]
 replace h:=Zs h l
 cases h
 try simp only [*,go_sem,seval]
 rintro a ⟨sl,ob,n⟩ e L h
 simp only [go_sem,seval,Zd] at e
 obtain ⟨⟨M,N,O,P,Q,R⟩,S,T,U,hn⟩:=e
 subst hn
 have V:=ZC (p_0.args.length)
 iterate 3 (cases h;try simp only [*,go_sem,seval])
theorem Zfg {r_0:Zf} {k_1:Int} {v_2:ByteArray} {r:Bool} (h:XB r_0 k_1 v_2=some r):Zn Tryz.prog J0 250 [(true,ZB r_0),(false,[.int .i64 k_1]),(false,[.str v_2])] [(false,[(false,.bool r)])]:=by
 refine fnk Tryz.func250 (by kernel_rfl) rfl (by kernel_rfl) (by kernel_rfl) ?_
 unfold XB at h
 simp only [fnS,f250,Zo,go_sem,seval]
 refine Zg h (fun i _ st=>IV [(1,.p false [.c (.int .i64 k_1)]),(2,.p false [.c (.str v_2)]),(3,.bp 0 0),(12,.p false [.c (.sl 130 5 (List.map ZM r_0.cond))]),(13,.p false [.c (.int .i64 ((r_0.cond.length:Nat):Int))]),(14,.p false [.c (.int .i64 ((i:Nat):Int))])] [.box 82 [.c (.str r_0.name),.c (.int .i64 r_0.priority),.c (.sl 130 5 (List.map ZM r_0.cond)),.c (.sl 134 3 (List.map ZA r_0.thn))]] st) [] [0] (by decide) ?_ ?_ ?_
 simp only [*,go_sem,seval]
 rintro z A ⟨⟩ ⟨sl,ob,n⟩ B a d k h l
 simp only [go_sem,seval,Zd] at d
 obtain ⟨⟨C,D,E,m,F,G⟩,H,hn⟩:=d
 subst hn
 have o:=WF.slotL k m (j:=0) rfl
 have I:=ZF a
 have J:=ZJ a
 have K:=Zi (ZE a) o
 try simp only [*,go_sem,seval]
 refine Ze h (fun _ h=>?_) fun _ h=>?_<;>try simp only [*,go_sem,seval]
 obtain ⟨L,q,h⟩:=Za h
 refine Zb (ZbT q) ?_
 try simp only [*,go_sem,seval]
 obtain ⟨M,t,h⟩:=Za h
 refine Zb (Q5 t) ?_
 try simp only [*,go_sem,seval]
 refine Ze h (fun _ h=>?_) fun _ h=>?_<;>try simp only [*,go_sem,seval]
 replace h:=Zs h l
 cases h
 try simp only [*,go_sem,seval]
 refine ⟨_,[],[0],(Option.some.inj h).symm,by decide,?_⟩
 try simp only [*,go_sem,seval]
 refine ⟨_,[],[0],(Option.some.inj h).symm,by decide,?_⟩
 try simp only [*,go_sem,seval]
 rintro ⟨⟩ ⟨sl,ob,n⟩ e N h
 simp only [go_sem,seval,Zd] at e
 obtain ⟨⟨O,P,Q,R,S,T⟩,U,hn⟩:=e
 subst hn
 have V:=ZC (r_0.cond.length)
 try simp only [*,go_sem,seval]
 refine Zg h (fun i _ st=>IV [(2,.p false [.c (.str v_2)]),(30,.p false [.c (.sl 134 3 (List.map ZA r_0.thn))]),(31,.p false [.c (.int .i64 ((r_0.thn.length:Nat):Int))]),(32,.p false [.c (.int .i64 ((i:Nat):Int))])] [] st) [] [] (by decide) ?_ ?_ ?_
 simp only [*,go_sem,seval]
 rintro W X ⟨⟩ ⟨sl,ob,n⟩ Y b f u h v
 simp only [go_sem,seval,Zd] at f
 obtain ⟨⟨Z,w,aa,ab⟩,hn⟩:=f
 subst hn
 have x:=WF.slotL u w (j:=0) rfl
 have ac:=ZF b
 have ad:=ZJ b
 have ae:=Zi (ZE b) x
 try simp only [*,go_sem,seval]
 obtain ⟨af,y,h⟩:=Za h
 refine Zb (Q5 y) ?_
 try simp only [*,go_sem,seval]
 refine Ze h (fun _ h=>?_) fun _ h=>?_<;>try simp only [*,go_sem,seval]
 replace h:=Zs h v
 cases h
 try simp only [*,go_sem,seval]
 refine ⟨_,[],[],(Option.some.inj h).symm,by decide,?_⟩
 try simp only [*,go_sem,seval]
 rintro ⟨⟩ ⟨sl,ob,n⟩ g ag h
 simp only [go_sem,seval,Zd] at g
 obtain ⟨⟨ah,ai,aj,ak⟩,hn⟩:=g
 subst hn
 have al:=ZC (r_0.thn.length)
 cases h
 try simp only [*,go_sem,seval]
theorem ZlN {a_0:Zr} {r:Bool} (h:ZcH a_0=some r):Zn Tryz.prog J0 228 [(true,ZA a_0)] [(false,[(false,.bool r)])]:=by
 refine fnk Tryz.func228 (by kernel_rfl) rfl (by kernel_rfl) (by kernel_rfl) ?_
 unfold ZcH at h
 simp only [fnS,f228,Zo,go_sem,seval]
 refine Ze h (fun _ h=>?_) fun _ h=>?_<;>try simp only [*,go_sem,seval]
 obtain ⟨d,a,h⟩:=Za h
 refine Zb (Qa a) ?_
 cases h
 try simp only [*,go_sem,seval]
 refine Ze h (fun _ h=>?_) fun _ h=>?_<;>try simp only [*,go_sem,seval]
 obtain ⟨e,b,h⟩:=Za h
 refine Zb (Qa b) ?_
 cases h
 try simp only [*,go_sem,seval]
 refine Ze h (fun _ h=>?_) fun _ h=>?_<;>try simp only [*,go_sem,seval]
 obtain ⟨f,c,h⟩:=Za h
 refine Zb (QZ c) ?_
 iterate 2 (cases h;try simp only [*,go_sem,seval])
theorem ZjC {l_0:(List Zm)} {r:(List ByteArray)} (h:Zbj l_0=some r):Zn Tryz.prog J0 230 [(false,[.sl 130 5 (List.map ZM l_0)])] [(false,[(false,.sl 9 1 (List.map Zu r))])]:=by
 refine fnk Tryz.func230 (by kernel_rfl) rfl (by kernel_rfl) (by kernel_rfl) ?_
 unfold Zbj at h
 simp only [fnS,f230,Zo,go_sem,seval]
 refine Zg h (fun i a st=>IV [(3,.p false [.row 0]),(6,.p false [.c (.sl 130 5 (List.map ZM l_0))]),(7,.p false [.c (.int .i64 ((l_0.length:Nat):Int))]),(8,.p false [.c (.int .i64 ((i:Nat):Int))])] [.row 9 1 (List.map Zu a) 2] st) [(false,3,0)] [80] (by decide) ?_ ?_ ?_
 simp only [*,go_sem,seval]
 rintro o q a ⟨sl,ob,n⟩ t b d f h u
 simp only [go_sem,seval,Zd] at d
 obtain ⟨⟨v,g,w,x⟩,y,hn⟩:=d
 subst hn
 have k:=WF.slotL f g (j:=0) rfl
 have z:=ZF b
 have A:=ZJ b
 have B:=Zi (ZE b) k
 try simp only [*,go_sem,seval]
 obtain ⟨C,l,h⟩:=Za h
 refine Zb (ZbT l) ?_
 obtain ⟨m,h⟩:=Zx h
 try simp only [Nat.reduceLeDiff] at m
 try simp only [*,go_sem,seval]
 refine ⟨_,[],[129],(Option.some.inj h).symm,by decide,?_⟩
 try simp only [*,go_sem,seval]
 rintro a ⟨sl,ob,n⟩ e D h
 simp only [go_sem,seval,Zd] at e
 obtain ⟨⟨E,F,G,H⟩,I,hn⟩:=e
 subst hn
 have J:=ZC (l_0.length)
 cases h
 try simp only [*,go_sem,seval]
end Go.Proofs.YtojnhepgnbhaaaaGreatDoor
namespace Go.Proofs.YtojnhepgnbhaaaaGreatDoor
open Go.Proofs.Tryz
set_option linter.unusedSimpArgs false
set_option linter.unusedVariables false
set_option maxRecDepth 1000000
set_option maxHeartbeats 4000000
theorem ZlL {l_0:(List Zc)} {r:Bool} (h:ZcU l_0=some r):Zn Tryz.prog J0 133 [(false,[.sl 57 2 (List.map Zq l_0)])] [(false,[(false,.bool r)])]:=by
 refine fnk Tryz.func133 (by kernel_rfl) rfl (by kernel_rfl) (by kernel_rfl) ?_
 unfold ZcU at h
 simp only [fnS,f133,Zo,go_sem,seval]
 refine Ze h (fun _ h=>?_) fun _ h=>?_<;>try simp only [*,go_sem,seval]
 cases h
 try simp only [*,go_sem,seval]
 refine Zg h (fun i _ st=>IV [(0,.p false [.c (.sl 57 2 (List.map Zq l_0))]),(8,.p false [.c (.sl 57 2 (List.map Zq l_0))]),(9,.p false [.c (.int .i64 ((l_0.length:Nat):Int))]),(10,.p false [.c (.int .i64 ((i:Nat):Int))])] [] st) [] [] (by decide) ?_ ?_ ?_
 simp only [*,go_sem,seval]
 rintro o q ⟨⟩ ⟨sl,ob,n⟩ t a b f h d
 simp only [go_sem,seval,Zd] at b
 obtain ⟨⟨g,u,v,w⟩,hn⟩:=b
 subst hn
 have k:=WF.slotL f g (j:=0) rfl
 have x:=ZF a
 have y:=ZJ a
 have z:=Zi (ZE a) k
 try simp only [*,go_sem,seval]
 obtain ⟨A,l,h⟩:=Za h
 refine Zb (Zjc l) ?_
 try simp only [*,go_sem,seval]
 iterate 2 refine Ze h (fun _ h=>?_) fun _ h=>?_<;>try simp only [*,go_sem,seval]
 obtain ⟨B,C,D,E,h⟩:=Zgn h
 try simp only [*,go_sem,seval]
 obtain ⟨F,m,h⟩:=Za h
 refine Zb (ZdF m) ?_
 try simp only [*,go_sem,seval]
 refine Ze h (fun _ h=>?_) fun _ h=>?_<;>try simp only [*,go_sem,seval]
 replace h:=Zs h d
 cases h
 try simp only [*,go_sem,seval]
 refine ⟨_,[],[],(Option.some.inj h).symm,by decide,?_⟩
 try simp only [*,go_sem,seval]
 refine ⟨_,[],[],(Option.some.inj h).symm,by decide,?_⟩
 try simp only [*,go_sem,seval]
 replace h:=Zs h d
 cases h
 try simp only [*,go_sem,seval]
 rintro ⟨⟩ ⟨sl,ob,n⟩ e G h
 simp only [go_sem,seval,Zd] at e
 obtain ⟨⟨H,I,J,K⟩,hn⟩:=e
 subst hn
 have L:=ZC (l_0.length)
 cases h
 try simp only [*,go_sem,seval]
theorem ZnP {a:(List Zc)} {f_1:Zc} {r:(List Zc)} (h:X2 a f_1=some r):Zn Tryz.prog J0 135 [(false,[.sl 57 2 (List.map Zq a)]),(true,Zq f_1)] [(false,[(false,.sl 57 2 (List.map Zq r))])]:=by
 refine fnk Tryz.func135 (by kernel_rfl) rfl (by kernel_rfl) (by kernel_rfl) ?_
 unfold X2 at h
 simp only [fnS,f135,Zo,go_sem,seval]
 refine Zg h (fun i s st=>match s with | (b,d)=>IV [(3,.bp 0 0),(5,.p false [.row 1]),(6,.p false [.c (.bool d)]),(9,.p false [.c (.sl 57 2 (List.map Zq a))]),(10,.p false [.c (.int .i64 ((a.length:Nat):Int))]),(11,.p false [.c (.int .i64 ((i:Nat):Int))])] [.box 57 [.c (.str f_1.rel),.c (.sl 9 1 (List.map Zu f_1.args))],.row 57 2 (List.map Zq b) 2] st) [(false,5,0)] [0,112] (by decide) ?_ ?_ ?_
 simp only [*,go_sem,seval]
 rintro D E ⟨b,d⟩ ⟨sl,ob,n⟩ F e f l h G
 simp only [go_sem,seval,Zd] at f
 obtain ⟨⟨H,I,J,m,K,L⟩,M,N,hn⟩:=f
 subst hn
 have o:=WF.slotL l m (j:=0) rfl
 have O:=ZF e
 have P:=ZJ e
 have Q:=Zi (ZE e) o
 try simp only [*,go_sem,seval]
 refine Ze h (fun _ h=>?_) fun _ h=>?_<;>try simp only [*,go_sem,seval]
 obtain ⟨R,q,h⟩:=Za h
 refine Zb (Xf q) ?_
 obtain ⟨t,h⟩:=Zx h
 try simp only [Nat.reduceLeDiff] at t
 try simp only [*,go_sem,seval]
 refine ⟨_,[],[0,274],(Option.some.inj h).symm,by decide,?_⟩
 try simp only [*,go_sem,seval]
 obtain ⟨S,u,h⟩:=Za h
 refine Zb (ZdF u) ?_
 try simp only [*,go_sem,seval]
 refine Ze h (fun _ h=>?_) fun _ h=>?_<;>try simp only [*,go_sem,seval]
 obtain ⟨T,v,h⟩:=Za h
 refine Zb (Xf v) ?_
 obtain ⟨w,h⟩:=Zx h
 try simp only [Nat.reduceLeDiff] at w
 try simp only [*,go_sem,seval]
 obtain ⟨U,x,h⟩:=Za h
 refine Zb (Xf x) ?_
 obtain ⟨y,h⟩:=Zx h
 try simp only [Nat.reduceLeDiff] at y
 try simp only [*,go_sem,seval]
 refine ⟨_,[],[0,386],(Option.some.inj h).symm,by decide,?_⟩
 try simp only [*,go_sem,seval]
 obtain ⟨V,z,h⟩:=Za h
 refine Zb (Xf z) ?_
 obtain ⟨A,h⟩:=Zx h
 try simp only [Nat.reduceLeDiff] at A
 try simp only [*,go_sem,seval]
 refine ⟨_,[],[0,274],(Option.some.inj h).symm,by decide,?_⟩
 try simp only [*,go_sem,seval]
 rintro ⟨b,d⟩ ⟨sl,ob,n⟩ g W h
 simp only [go_sem,seval,Zd] at g
 obtain ⟨⟨X,Y,Z,aa,ab,ac⟩,ad,ae,hn⟩:=g
 subst hn
 have af:=ZC (a.length)
 try simp only [*,go_sem,seval]
 refine Ze h (fun _ h=>?_) fun _ h=>?_<;>try simp only [*,go_sem,seval]
 cases h
 try simp only [*,go_sem,seval]
 obtain ⟨ag,B,h⟩:=Za h
 refine Zb (Xf B) ?_
 obtain ⟨C,h⟩:=Zx h
 try simp only [Nat.reduceLeDiff] at C
 cases h
 try simp only [*,go_sem,seval]
theorem ZBR {append_0:ZK} {r:(List Int)} (h:ZAz append_0=some r):Zn Tryz.prog J0 186 [(true,Zff append_0)] [(false,[(false,.sl 3 1 (List.map Qv r))])]:=by
 refine fnk Tryz.func186 (by kernel_rfl) rfl (by kernel_rfl) (by kernel_rfl) ?_
 unfold ZAz at h
 simp only [fnS,f186,Zo,go_sem,seval]
 obtain ⟨v1,e1,h⟩:=Za h
 refine Zb (by have hh:=ZAE e1;first|exact hh|(simp only [*,go_sem] at hh;exact hh)) ?_
 try simp only [*,go_sem,seval]
 refine Ze h (fun _ h=>?_) fun _ h=>?_<;>try simp only [*,go_sem,seval]
 ·obtain ⟨p3,h⟩:=Zx h
  try simp only [*,go_sem,seval]
  refine Zeh h (fun s st=>match s with | (row_116,u_117)=>IV [(1,.bp 0 0),(3,.p false [.row 1]),(4,.p false [.c (.int .i64 u_117)])] [.box 29 [.c (.int .i64 append_0.nodes),.c (.sl 114 3 (List.map Yn append_0.reasons))],.row 3 1 (List.map Qv row_116) 2] st) [] [0,112] (by decide) ?_ ?_
  ·simp only [*,go_sem,seval]
  ·rintro ⟨row_116,u_117⟩ ⟨sl,ob,n⟩ y4 hI5 hW6 h hy4
   simp only [go_sem,seval,Zd] at hI5
   obtain ⟨⟨g7_1,g7_3,g7_4⟩,og7_0,og7_1,hn⟩:=hI5
   subst hn
   try simp only [*,go_sem,seval]
   refine Ze h (fun _ h=>?_) fun _ h=>?_<;>try simp only [*,go_sem,seval]
   ·refine Zg h (fun i row_155 st=>IV [(1,.bp 0 0),(3,.p false [.row 1]),(4,.p false [.c (.int .i64 u_117)]),(5,.p false [.c (.int .i64 ((i:Nat):Int))])] [.box 29 [.c (.int .i64 append_0.nodes),.c (.sl 114 3 (List.map Yn append_0.reasons))],.row 3 1 (List.map Qv row_155) 2] st) [] [0,1] (by decide) ?_ ?_ ?_
    ·simp only [*,go_sem,seval]
    ·rintro i194 x195 row_155 ⟨sl,ob,n⟩ y9 hx10 hI11 hW12 h hy9
     simp only [go_sem,seval,Zd] at hI11
     obtain ⟨⟨g13_1,g13_3,g13_4,g13_5⟩,og13_0,og13_1,hn⟩:=hI11
     subst hn
     have hlhx10:=WF.boxL hW12 og13_0 (j:=1) rfl
     have q14:=ZF hx10
     have q15:=ZJ hx10
     have q16:=Zi (ZE hx10) hlhx10
     try simp only [*,go_sem,seval]
     refine Zg h (fun i row_199 st=>IV [(1,.bp 0 0),(3,.p false [.row 1]),(4,.p false [.c (.int .i64 u_117)]),(5,.p false [.c (.int .i64 ((i194:Nat):Int))]),(6,.bp 2 0),(7,.p false [.c (.int .i64 ((i:Nat):Int))])] [.box 29 [.c (.int .i64 append_0.nodes),.c (.sl 114 3 (List.map Yn append_0.reasons))],.row 3 1 (List.map Qv row_199) 2,.box 114 [.c (.int .i64 x195.for_),.c (.sl 3 1 (List.map Qv x195.inn)),.c (.sl 3 1 (List.map Qv x195.outs))]] st) [] [0,1,162] (by decide) ?_ ?_ ?_
     ·simp only [*,go_sem,seval]
     ·rintro i216 x217 row_199 ⟨sl,ob,n⟩ y17 hx18 hI19 hW20 h hy17
      simp only [go_sem,seval,Zd] at hI19
      obtain ⟨⟨g21_1,g21_3,g21_4,g21_5,g21_6,g21_7⟩,og21_0,og21_1,og21_2,hn⟩:=hI19
      subst hn
      have hlhx18:=WF.boxL hW20 og21_2 (j:=1) rfl
      have q22:=ZF hx18
      have q23:=ZJ hx18
      have q24:=Zi (ZE hx18) hlhx18
      obtain ⟨p25,h⟩:=Zx h
      obtain ⟨x218,e26,h⟩:=Za h
      obtain ⟨p27,h⟩:=Zx h
      obtain ⟨x219,e28,h⟩:=Za h
      try simp only [*,go_sem,seval]
      refine ⟨_,[],[0,1,2],(Option.some.inj h).symm,by decide,?_⟩
      try simp only [*,go_sem,seval]
     ·rintro row_199 ⟨sl,ob,n⟩ hI29 hW30 h
      simp only [go_sem,seval,Zd] at hI29
      obtain ⟨⟨g31_1,g31_3,g31_4,g31_5,g31_6,g31_7⟩,og31_0,og31_1,og31_2,hn⟩:=hI29
      subst hn
      have q32:=ZC (x195.inn.length)
      try simp only [*,go_sem,seval]
      refine Zg h (fun i row_223 st=>IV [(1,.bp 0 0),(3,.p false [.row 1]),(4,.p false [.c (.int .i64 u_117)]),(5,.p false [.c (.int .i64 ((i194:Nat):Int))]),(6,.bp 2 0),(8,.p false [.c (.int .i64 ((i:Nat):Int))])] [.box 29 [.c (.int .i64 append_0.nodes),.c (.sl 114 3 (List.map Yn append_0.reasons))],.row 3 1 (List.map Qv row_223) 2,.box 114 [.c (.int .i64 x195.for_),.c (.sl 3 1 (List.map Qv x195.inn)),.c (.sl 3 1 (List.map Qv x195.outs))]] st) [] [0,1,2] (by decide) ?_ ?_ ?_
      ·simp only [*,go_sem,seval]
      ·rintro i228 x229 row_223 ⟨sl,ob,n⟩ y33 hx34 hI35 hW36 h hy33
       simp only [go_sem,seval,Zd] at hI35
       obtain ⟨⟨g37_1,g37_3,g37_4,g37_5,g37_6,g37_8⟩,og37_0,og37_1,og37_2,hn⟩:=hI35
       subst hn
       have hlhx34:=WF.boxL hW36 og37_2 (j:=2) rfl
       have q38:=ZF hx34
       have q39:=ZJ hx34
       have q40:=Zi (ZE hx34) hlhx34
       obtain ⟨p41,h⟩:=Zx h
       obtain ⟨x230,e42,h⟩:=Za h
       obtain ⟨p43,h⟩:=Zx h
       obtain ⟨x231,e44,h⟩:=Za h
       try simp only [*,go_sem,seval]
       refine ⟨_,[],[0,1,2],(Option.some.inj h).symm,by decide,?_⟩
       try simp only [*,go_sem,seval]
      ·rintro row_223 ⟨sl,ob,n⟩ hI45 hW46 h
       simp only [go_sem,seval,Zd] at hI45
       obtain ⟨⟨g47_1,g47_3,g47_4,g47_5,g47_6,g47_8⟩,og47_0,og47_1,og47_2,hn⟩:=hI45
       subst hn
       have q48:=ZC (x195.outs.length)
       try simp only [*,go_sem,seval]
       refine ⟨_,[],[0,1],(Option.some.inj h).symm,by decide,?_⟩
       try simp only [*,go_sem,seval]
    ·rintro row_155 ⟨sl,ob,n⟩ hI49 hW50 h
     simp only [go_sem,seval,Zd] at hI49
     obtain ⟨⟨g51_1,g51_3,g51_4,g51_5⟩,og51_0,og51_1,hn⟩:=hI49
     subst hn
     have q52:=ZC (append_0.reasons.length)
     try simp only [*,go_sem,seval]
     refine ⟨_,[],[0,1],(Option.some.inj h).symm,by decide,?_⟩
     try simp only [*,go_sem,seval]
   ·replace h:=Zs h hy4
    cases h
    try simp only [*,go_sem,seval]
 ·cases h
  try simp only [*,go_sem,seval]
end Go.Proofs.YtojnhepgnbhaaaaGreatDoor
