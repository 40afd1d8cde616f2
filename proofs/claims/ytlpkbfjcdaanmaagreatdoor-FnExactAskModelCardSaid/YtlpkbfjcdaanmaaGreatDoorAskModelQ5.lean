/- Texts of this proof, joined: Dp2, BStd, DE, Dp4, Dp6, Dp8, Dp3, Dp5, Dp7, Dp9, Dp10, Dp11, Dp12. What each holds is said at its theorems. -/
import Derived.Test.YtlpkbfjcdaanmaaGreatDoorAskModelQ4
import Derived.Test.YtlpkbfjcdaanmaaGreatDoorAskModelQ2
import Derived.Test.YtlpkbfjcdaanmaaGreatDoorAskModelQ3
import Derived.Test.YtlpkbfjcdaanmaaGreatDoorAskModelQ1
open Bool renaming false_or→AB,or_false→AC
open Int renaming toNat_natCast→A9
open List renaming map→A0,append_nil→A4,nil_append→A5,append_assoc→A6
open List.Sublist renaming append→AA
open Option.some renaming inj→A3
open Go.Proofs.Tryz
set_option linter.unusedSimpArgs false
set_option linter.unusedVariables false
set_option maxRecDepth 1000000
set_option maxHeartbeats 4000000
namespace Go.Proofs.YtlpkbfjcdaanmaaGreatDoor
section
theorem Zhr {s_0:ByteArray} {r:Bool} (h:Zey s_0=some r):Zm prog J0 141 [(false,[.str s_0])] [(false,[(false,.bool r)])]:=by
 refine fnk func141 rfl ?_
 unfold Zey at h
 simp only[fnS,f141,Zo,go_sem,seval]
 obtain ⟨_,a,h⟩:=Za h
 refine Zd (QG a) ?_
 try simp only[*,go_sem,seval]
 refine yB h (fun _ h=>?_) fun _ h=>?_
 obtain ⟨_,_,b,h⟩:=ZuE h
 try simp only[seval] at b
 iterate 2 (cases h;try simp only[*,go_sem,seval])
theorem ZdX {s_0:ByteArray} {r:Bool} (h:Zdp s_0=some r):Zm prog J0 207 [(false,[.str s_0])] [(false,[(false,.bool r)])]:=by
 refine fnk func207 rfl ?_
 unfold Zdp at h
 simp only[fnS,f207,Zo,go_sem,seval]
 refine yB h (fun _ h=>?_) fun _ h=>?_
 obtain ⟨_,_,a,h⟩:=ZuE h
 try simp only[seval] at a
 try simp only[*,go_sem,seval]
 refine yB h (fun _ h=>?_) fun _ h=>?_
 obtain ⟨_,h⟩:=Zv h
 try simp only[*,go_sem,seval]
 obtain ⟨_,b,h⟩:=Za h
 refine Zd (QG b) ?_
 iterate 3 (cases h;try simp only[*,go_sem,seval])
theorem YO {f_0:Zc} {r:Zc} (h:YE f_0=some r):Zm prog J0 114 [(true,Zs f_0)] [(true,[(false,.str r.rel),(false,.sl 9 1 (A0 ZA r.args))])]:=by
 refine fnk func114 rfl ?_
 unfold YE at h
 simp only[fnS,f114,Zo,go_sem,seval]
 obtain ⟨_,a,h⟩:=Za h
 refine Zd (Zhb a) ?_
 cases h
 try simp only[*,go_sem,seval]
theorem ZcG {s_0:ByteArray} {r:(Int × Bool)} (h:Zae s_0=some r):Zm prog J0 250 [(false,[.str s_0])] [(false,[(false,.int .i64 r.1)]),(false,[(false,.bool r.2)])]:=by
 refine fnk func250 rfl ?_
 unfold Zae at h
 simp only[fnS,f250,Zo,go_sem,seval]
 iterate 2 ((refine Ze h (fun _ h=>?_) fun _ h=>?_<;>try simp only[*,go_sem,seval]);cases h;try simp only[*,go_sem,seval])
 obtain ⟨_,a,h⟩:=Za h
 refine Zd (Zv1 a) ?_
 try simp only[*,go_sem,seval]
 iterate 2 refine yB h (fun _ h=>?_) fun _ h=>?_
 cases h
 try simp only[*,go_sem,seval]
 refine yB h (fun _ h=>?_) fun _ h=>?_
 cases h
 try simp only[*,go_sem,seval]
 obtain ⟨_,b,h⟩:=Za h
 refine Zd (Zmm b) ?_
 try simp only[*,go_sem,seval]
 refine yB h (fun _ h=>?_) fun _ h=>?_
 iterate 3 (cases h;try simp only[*,go_sem,seval])
theorem ZoB {a_0:Zc} {b_1:Zc} {r:Bool} (h:Zca a_0 b_1=some r):Zm prog J0 143 [(true,Zs a_0),(true,Zs b_1)] [(false,[(false,.bool r)])]:=by
 refine fnk func143 rfl ?_
 unfold Zca at h
 simp only[fnS,f143,Zo,go_sem,seval]
 refine yB h (fun _ h=>?_) fun _ h=>?_
 obtain ⟨_,a,h⟩:=Za h
 refine Zd (Znk a) ?_
 iterate 2 (cases h;try simp only[*,go_sem,seval])
theorem Zp2 {x_0:Zl} {r:(List ByteArray)} (h:ZhS x_0=some r):Zm prog J0 285 [(true,ZJ x_0)] [(false,[(false,.sl 9 1 (A0 ZA r))])]:=by
 refine fnk func285 rfl ?_
 unfold ZhS at h
 simp only[fnS,f285,Zo,go_sem,seval]
 obtain ⟨_,a,h⟩:=Za h
 refine Zd (Zhb a) ?_
 obtain ⟨b,h⟩:=Zv h
 try simp only[Nat.reduceLeDiff] at b
 cases h
 try simp only[*,go_sem,seval]
theorem Zit {r_0:Zg} {r:(List ByteArray)} (h:QR r_0=some r):Zm prog J0 294 [(true,ZL r_0)] [(false,[(false,.sl 9 1 (A0 ZA r))])]:=by
 refine fnk func294 rfl ?_
 unfold QR at h
 simp only[fnS,f294,Zo,go_sem,seval]
 refine Zh h (fun i a st=>IV [(3,.p false [.row 0]),(7,yM (yZ r_0.thn)),(8,yL r_0.thn.length),(9,yL i)] [.row 9 1 (A0 ZA a) 2] st) [(false,3,0)] [112] yF yD ?_ ?_
 rintro _ _ a ⟨_,_,_⟩ _ b d f h _
 simp only[go_sem,seval,Zb] at d
 obtain ⟨⟨_,g,_,_⟩,_,hn⟩:=d
 subst hn
 have k:=WF.slotL f g (j:=0) rfl
 have:=ZC b
 have:=ZE b
 have:=Zk (ZD b) k
 try simp only[*,go_sem,seval]
 refine yB h (fun _ h=>?_) fun _ h=>?_
 obtain ⟨l,h⟩:=Zv h
 try simp only[Nat.reduceLeDiff] at l
 try simp only[*,go_sem,seval]
 refine ⟨_,[],[289],(A3 h).symm,yF,?_⟩
 try simp only[*,go_sem,seval]
 refine yB h (fun _ h=>?_) fun _ h=>?_
 obtain ⟨m,h⟩:=Zv h
 try simp only[Nat.reduceLeDiff] at m
 try simp only[*,go_sem,seval]
 refine ⟨_,[],[289],(A3 h).symm,yF,?_⟩
 try simp only[*,go_sem,seval]
 refine ⟨_,[],[0],(A3 h).symm,yF,?_⟩
 try simp only[*,go_sem,seval]
 rintro a ⟨_,_,_⟩ e _ h
 simp only[go_sem,seval,Zb] at e
 obtain ⟨⟨_,_,_,_⟩,_,hn⟩:=e
 subst hn
 have:=ZB (r_0.thn.length)
 try simp only[*,go_sem,seval]
 obtain ⟨_,o,h⟩:=Za h
 refine Zd (Qy o) ?_
 cases h
 try simp only[*,go_sem,seval]
theorem ZqF {r_0:Zg} {r:(List ByteArray)} (h:Zcp r_0=some r):Zm prog J0 319 [(true,ZL r_0)] [(false,[(false,.sl 9 1 (A0 ZA r))])]:=by
 refine fnk func319 rfl ?_
 unfold Zcp at h
 simp only[fnS,f319,Zo,go_sem,seval]
 refine Zh h (fun i a st=>IV [(3,.p false [.row 0]),(7,yM (yW r_0.cond)),(8,yL r_0.cond.length),(9,yL i)] [.row 9 1 (A0 ZA a) 2] st) [(false,3,0)] [112] yF yD ?_ ?_
 rintro _ _ a ⟨_,_,_⟩ _ b d f h _
 simp only[go_sem,seval,Zb] at d
 obtain ⟨⟨_,g,_,_⟩,_,hn⟩:=d
 subst hn
 have k:=WF.slotL f g (j:=0) rfl
 have:=ZC b
 have:=ZE b
 have:=Zk (ZD b) k
 try simp only[*,go_sem,seval]
 refine yB h (fun _ h=>?_) fun _ h=>?_
 obtain ⟨l,h⟩:=Zv h
 try simp only[Nat.reduceLeDiff] at l
 try simp only[*,go_sem,seval]
 refine ⟨_,[],[289],(A3 h).symm,yF,?_⟩
 try simp only[*,go_sem,seval]
 refine yB h (fun _ h=>?_) fun _ h=>?_
 obtain ⟨m,h⟩:=Zv h
 try simp only[Nat.reduceLeDiff] at m
 try simp only[*,go_sem,seval]
 refine ⟨_,[],[289],(A3 h).symm,yF,?_⟩
 try simp only[*,go_sem,seval]
 refine ⟨_,[],[0],(A3 h).symm,yF,?_⟩
 try simp only[*,go_sem,seval]
 rintro a ⟨_,_,_⟩ e _ h
 simp only[go_sem,seval,Zb] at e
 obtain ⟨⟨_,_,_,_⟩,_,hn⟩:=e
 subst hn
 have:=ZB (r_0.cond.length)
 try simp only[*,go_sem,seval]
 obtain ⟨_,o,h⟩:=Za h
 refine Zd (Qy o) ?_
 cases h
 try simp only[*,go_sem,seval]
theorem ZlS {a_0:Zf} {b_1:Zf} {r:Bool} (h:Zb1 a_0 b_1=some r):Zm prog J0 259 [(true,ZG a_0),(true,ZG b_1)] [(false,[(false,.bool r)])]:=by
 refine fnk func259 rfl ?_
 unfold Zb1 at h
 simp only[fnS,f259,Zo,go_sem,seval]
 refine yB h (fun _ h=>?_) fun _ h=>?_
 obtain ⟨_,a,h⟩:=Za h
 refine Zd (ZiE a) ?_
 try simp only[*,go_sem,seval]
 refine yB h (fun _ h=>?_) fun _ h=>?_
 obtain ⟨_,b,h⟩:=Za h
 refine Zd (ZiE b) ?_
 iterate 3 (cases h;try simp only[*,go_sem,seval])
theorem Zq7 {b:Zt} {r:(List Int)} (h:ZhI b=some r):Zm prog J0 221 [(true,Qu b)] [(false,[(false,.sl 3 1 (A0 ZO r))])]:=by
 refine fnk func221 rfl ?_
 unfold ZhI at h
 simp only[fnS,f221,Zo,go_sem,seval]
 obtain ⟨f,B,h⟩:=Za h
 refine Zd (Zsl B) ?_
 obtain ⟨_,h⟩:=Zv h
 try simp only[*,go_sem,seval]
 refine Xj h (fun s st=>match s with | (t,u,e)=>IV [(1,.bp 0 0),(3,.p false [.row 1]),(4,.p false [.row 2]),(5,yM (.int .i64 e)),(20,yM (.int .i64 ((Int.toNat b.nodes:Nat):Int))),(21,yM (.int .i64 u))] [.box 140 [.c (.int .i64 b.nodes),.c (zA b.reasons)],.row 3 1 (A0 ZO f) 2,.row 3 1 (A0 ZO t) 2] st) [] [0,48,112] yF yD ?_
 rintro ⟨t,u,e⟩ ⟨_,_,_⟩ _ v _ h C
 simp only[go_sem,seval,Zb] at v
 obtain ⟨⟨_,_,_,_,_,_⟩,_,_,_,hn⟩:=v
 subst hn
 try simp only[*,go_sem,seval]
 refine yB h (fun _ h=>?_) fun _ h=>?_
 obtain ⟨_,h⟩:=Zv h
 obtain ⟨_,_,h⟩:=Za h
 obtain ⟨_,h⟩:=Zv h
 obtain ⟨_,_,h⟩:=Za h
 try simp only[*,go_sem,seval]
 refine ⟨_,[],[0,1,2],(A3 h).symm,yF,?_⟩
 try simp only[*,go_sem,seval]
 refine Xj h (fun s st=>match s with | (l,g,k)=>IV [(1,.bp 0 0),(3,.p false [.row 1]),(4,.p false [.row 2]),(5,yM (.int .i64 e)),(7,yM (.int .i64 g)),(8,yM (.int .i64 k))] [.box 140 [.c (.int .i64 b.nodes),.c (zA b.reasons)],.row 3 1 (A0 ZO f) 2,.row 3 1 (A0 ZO l) 2] st) [] [0,1,2] yF yD ?_
 rintro ⟨l,g,k⟩ ⟨_,_,_⟩ _ w _ h D
 simp only[go_sem,seval,Zb] at w
 obtain ⟨⟨_,_,_,_,_,_⟩,_,_,_,hn⟩:=w
 subst hn
 try simp only[*,go_sem,seval]
 refine yB h (fun _ h=>?_) fun _ h=>?_
 refine Zh h (fun i d st=>IV [(1,.bp 0 0),(3,.p false [.row 1]),(4,.p false [.row 2]),(5,yM (.int .i64 e)),(7,yM (.int .i64 g)),(8,yM (.int .i64 k)),(9,.p false [.row 3]),(38,yM (zA b.reasons)),(39,yL b.reasons.length),(40,yL i)] [.box 140 [.c (.int .i64 b.nodes),.c (zA b.reasons)],.row 3 1 (A0 ZO f) 2,.row 3 1 (A0 ZO l) 2,.row 3 1 (A0 ZO d) 2] st) [(false,9,0)] [0,1,2,131] yF yD ?_ ?_
 rintro _ _ d ⟨_,_,_⟩ _ m x E h _
 simp only[go_sem,seval,Zb] at x
 obtain ⟨⟨_,_,_,_,_,_,_,F,_,_⟩,_,_,_,_,hn⟩:=x
 subst hn
 have G:=WF.slotL E F (j:=0) rfl
 have:=ZC m
 have:=ZE m
 have:=Zk (ZD m) G
 obtain ⟨_,h⟩:=Zv h
 obtain ⟨_,_,h⟩:=Za h
 try simp only[*,go_sem,seval]
 refine yB h (fun _ h=>?_) fun _ h=>?_
 obtain ⟨_,h⟩:=Zv h
 obtain ⟨_,_,h⟩:=Za h
 try simp only[*,go_sem,seval]
 refine yB h (fun _ h=>?_) fun _ h=>?_
 obtain ⟨_,H,h⟩:=Za h
 refine Zd (Zm7 H) ?_
 try simp only[*,go_sem,seval]
 refine yB h (fun _ h=>?_) fun _ h=>?_
 obtain ⟨I,h⟩:=Zv h
 try simp only[Nat.reduceLeDiff] at I
 try simp only[*,go_sem,seval]
 refine ⟨_,[],[0,1,2,484],(A3 h).symm,yF,?_⟩
 try simp only[*,go_sem,seval]
 refine ⟨_,[],[0,1,2,3],(A3 h).symm,yF,?_⟩
 try simp only[*,go_sem,seval]
 refine ⟨_,[],[0,1,2,3],(A3 h).symm,yF,?_⟩
 try simp only[*,go_sem,seval]
 refine ⟨_,[],[0,1,2,3],(A3 h).symm,yF,?_⟩
 try simp only[*,go_sem,seval]
 rintro d ⟨_,_,_⟩ y _ h
 simp only[go_sem,seval,Zb] at y
 obtain ⟨⟨_,_,_,_,_,_,_,_,_,_⟩,_,_,_,_,hn⟩:=y
 subst hn
 have:=ZB (b.reasons.length)
 try simp only[*,go_sem,seval]
 refine yB h (fun _ h=>?_) fun _ h=>?_
 refine ⟨_,[],[0,1,2],(A3 h).symm,yF,?_⟩
 try simp only[*,go_sem,seval]
 refine Zh h (fun i o st=>IV [(1,.bp 0 0),(3,.p false [.row 1]),(4,.p false [.row 2]),(5,yM (.int .i64 e)),(7,yM (.int .i64 g)),(8,yM (.int .i64 k)),(76,.p false [.row 3]),(77,yL d.length),(78,yL i)] [.box 140 [.c (.int .i64 b.nodes),.c (zA b.reasons)],.row 3 1 (A0 ZO f) 2,.row 3 1 (A0 ZO o) 2,.row 3 1 (A0 ZO d) 2] st) [] [0,1,2,3] yF yD ?_ ?_
 rintro _ _ o ⟨_,_,_⟩ _ q z J h _
 simp only[go_sem,seval,Zb] at z
 obtain ⟨⟨_,_,_,_,_,_,_,_,_⟩,_,_,_,K,hn⟩:=z
 subst hn
 have L:=WF.rowL J K
 have:=ZC q
 have:=ZE q
 have:=Zk (ZD q) L
 obtain ⟨_,h⟩:=Zv h
 obtain ⟨_,_,h⟩:=Za h
 try simp only[*,go_sem,seval]
 refine ⟨_,[],[0,1,2,3],(A3 h).symm,yF,?_⟩
 try simp only[*,go_sem,seval]
 rintro o ⟨_,_,_⟩ A _ h
 simp only[go_sem,seval,Zb] at A
 obtain ⟨⟨_,_,_,_,_,_,_,_,_⟩,_,_,_,_,hn⟩:=A
 subst hn
 have:=ZB (d.length)
 try simp only[*,go_sem,seval]
 refine ⟨_,[],[0,1,2],(A3 h).symm,yF,?_⟩
 try simp only[*,go_sem,seval]
 replace h:=Zr h D
 replace h:=Zr h C
 cases h
 try simp only[*,go_sem,seval]
theorem Zfh {s_0:ByteArray} {r:(Int × Bool)} (h:Zag s_0=some r):Zm prog J0 176 [(false,[.str s_0])] [(false,[(false,.int .i64 r.1)]),(false,[(false,.bool r.2)])]:=by
 refine fnk func176 rfl ?_
 unfold Zag at h
 simp only[fnS,f176,Zo,go_sem,seval]
 obtain ⟨_,g,h⟩:=Za h
 refine Zd (XM g) ?_
 try simp only[*,go_sem,seval]
 refine yB h (fun _ h=>?_) fun _ h=>?_
 refine Zh h (fun i a st=>IV [(0,yM (.str s_0)),(4,yM (.int .i64 a)),(5,yL i)] [] st) [] [] yF yD ?_ ?_
 rintro _ _ a ⟨_,_,_⟩ _ b d k h e
 simp only[go_sem,seval,Zb] at d
 obtain ⟨⟨l,_,_⟩,hn⟩:=d
 subst hn
 have m:=WF.slotS k l (j:=0) rfl
 have:=Zp3 b
 have:=Zxp b
 have:=Zk (ZuC b) m
 try simp only[*,go_sem,seval]
 refine yB h (fun _ h=>?_) fun _ h=>?_
 replace h:=Zr h e
 cases h
 try simp only[*,go_sem,seval]
 refine yB h (fun _ h=>?_) fun _ h=>?_
 replace h:=Zr h e
 cases h
 try simp only[*,go_sem,seval]
 refine ⟨_,[],[],(A3 h).symm,yF,?_⟩
 try simp only[*,go_sem,seval]
 rintro a ⟨_,_,_⟩ f _ h
 simp only[go_sem,seval,Zb] at f
 obtain ⟨⟨_,_,_⟩,hn⟩:=f
 subst hn
 have:=ZB (s_0.size)
 try simp only[*,go_sem,seval]
 obtain ⟨_,o,h⟩:=Za h
 refine Zd (ZmT o) ?_
 try simp only[*,go_sem,seval]
 refine yB h (fun _ h=>?_) fun _ h=>?_
 iterate 3 (cases h;try simp only[*,go_sem,seval])
theorem QA {s_0:ByteArray} {r:Bool} (h:QT s_0=some r):Zm prog J0 104 [(false,[.str s_0])] [(false,[(false,.bool r)])]:=by
 refine fnk func104 rfl ?_
 unfold QT at h
 simp only[fnS,f104,Zo,go_sem,seval]
 refine Zh h (fun i _ st=>IV [(0,yM (.str s_0)),(3,yL i)] [] st) [] [] yF yD ?_ ?_
 rintro _ _ ⟨⟩ ⟨_,_,_⟩ _ a b e h f
 simp only[go_sem,seval,Zb] at b
 obtain ⟨⟨g,_⟩,hn⟩:=b
 subst hn
 have k:=WF.slotS e g (j:=0) rfl
 have:=Zp3 a
 have:=Zxp a
 have:=Zk (ZuC a) k
 try simp only[*,go_sem,seval]
 obtain ⟨_,l,h⟩:=Za h
 refine Zd (XM l) ?_
 try simp only[*,go_sem,seval]
 refine yB h (fun _ h=>?_) fun _ h=>?_
 refine ⟨_,[],[],(A3 h).symm,yF,?_⟩
 try simp only[*,go_sem,seval]
 obtain ⟨_,m,h⟩:=Za h
 refine Zd (XM m) ?_
 try simp only[*,go_sem,seval]
 refine yB h (fun _ h=>?_) fun _ h=>?_
 refine ⟨_,[],[],(A3 h).symm,yF,?_⟩
 try simp only[*,go_sem,seval]
 replace h:=Zr h f
 cases h
 try simp only[*,go_sem,seval]
 rintro ⟨⟩ ⟨_,_,_⟩ d _ h
 simp only[go_sem,seval,Zb] at d
 obtain ⟨⟨_,_⟩,hn⟩:=d
 subst hn
 have:=ZB (s_0.size)
 try simp only[*,go_sem,seval]
 obtain ⟨_,o,h⟩:=Za h
 refine Zd (XM o) ?_
 cases h
 try simp only[*,go_sem,seval]
theorem Xr {f_0:Zc} {r:Zc} (h:XE f_0=some r):Zm prog J0 153 [(true,Zs f_0)] [(true,[(false,.str r.rel),(false,.sl 9 1 (A0 ZA r.args))])]:=by
 refine fnk func153 rfl ?_
 unfold XE at h
 simp only[fnS,f153,Zo,go_sem,seval]
 obtain ⟨_,a,h⟩:=Za h
 refine Zd (ZqC a) ?_
 cases h
 try simp only[*,go_sem,seval]
theorem Zop {a_0:(List ByteArray)} {b_1:(List ByteArray)} {r:Bool} (h:Zd6 a_0 b_1=some r):Zm prog J0 306 [(false,[.sl 9 1 (A0 ZA a_0)]),(false,[.sl 9 1 (A0 ZA b_1)])] [(false,[(false,.bool r)])]:=by
 refine fnk func306 rfl ?_
 unfold Zd6 at h
 simp only[fnS,f306,Zo,go_sem,seval]
 refine Zh h (fun i _ st=>IV [(0,yM (yU a_0)),(1,yM (yU b_1)),(5,yL i)] [] st) [] [] yF yD ?_ ?_
 rintro _ _ ⟨⟩ ⟨_,_,_⟩ _ a b e h f
 simp only[go_sem,seval,Zb] at b
 obtain ⟨⟨g,_,_⟩,hn⟩:=b
 subst hn
 have k:=WF.slotL e g (j:=0) rfl
 have:=ZC a
 have:=ZE a
 have:=Zk (ZD a) k
 try simp only[*,go_sem,seval]
 obtain ⟨_,l,h⟩:=Za h
 refine Zd (YQ l) ?_
 try simp only[*,go_sem,seval]
 refine yB h (fun _ h=>?_) fun _ h=>?_
 refine ⟨_,[],[],(A3 h).symm,yF,?_⟩
 try simp only[*,go_sem,seval]
 replace h:=Zr h f
 cases h
 try simp only[*,go_sem,seval]
 rintro ⟨⟩ ⟨_,_,_⟩ d _ h
 simp only[go_sem,seval,Zb] at d
 obtain ⟨⟨_,_,_⟩,hn⟩:=d
 subst hn
 have:=ZB (a_0.length)
 cases h
 try simp only[*,go_sem,seval]
theorem Zij {r_0:Zg} {r:(List ByteArray)} (h:Q9 r_0=some r):Zm prog J0 272 [(true,ZL r_0)] [(false,[(false,.sl 9 1 (A0 ZA r))])]:=by
 refine fnk func272 rfl ?_
 unfold Q9 at h
 simp only[fnS,f272,Zo,go_sem,seval]
 refine Zh h (fun i a st=>IV [(1,.bp 0 0),(3,.p false [.row 1]),(4,yL i)] [zC 76 (ZL r_0),.row 9 1 (A0 ZA a) 2] st) [] [0,32] yF yD ?_ ?_
 rintro _ _ a ⟨_,_,_⟩ _ b d f h _
 simp only[go_sem,seval,Zb] at d
 obtain ⟨⟨_,_,_⟩,g,_,hn⟩:=d
 subst hn
 have k:=WF.boxL f g (j:=3) rfl
 have:=ZC b
 have:=ZE b
 have:=Zk (ZD b) k
 try simp only[*,go_sem,seval]
 refine yB h (fun _ h=>?_) fun _ h=>?_
 obtain ⟨_,l,h⟩:=Za h
 refine Zd (XF l) ?_
 try simp only[*,go_sem,seval]
 refine ⟨_,[],[0,466],(A3 h).symm,yF,?_⟩
 try simp only[*,go_sem,seval]
 refine yB h (fun _ h=>?_) fun _ h=>?_
 obtain ⟨_,m,h⟩:=Za h
 refine Zd (XF m) ?_
 try simp only[*,go_sem,seval]
 refine ⟨_,[],[0,466],(A3 h).symm,yF,?_⟩
 try simp only[*,go_sem,seval]
 refine ⟨_,[],[0,1],(A3 h).symm,yF,?_⟩
 try simp only[*,go_sem,seval]
 rintro a ⟨_,_,_⟩ e _ h
 simp only[go_sem,seval,Zb] at e
 obtain ⟨⟨_,_,_⟩,_,_,hn⟩:=e
 subst hn
 have:=ZB (r_0.thn.length)
 cases h
 try simp only[*,go_sem,seval]
end
section
open Go.RowKit
structure Enc {α:Type} (c:Yh α) (f:α→List CT):Prop where
 to:∀{w:World} {cs:List Value} {x:α} {L:List Nat},c.rep w cs x L→RCs w (f x) cs L
 of:∀{w:World} {cs:List Value} {x:α} {L:List Nat},RCs w (f x) cs L→c.rep w cs x L
section
variable {α:Type} {c:Yh α} {f:α→List CT} {w:World}
theorem Enc.reps (h:Enc c f):∀{ds:List α} {xs:List Value} {L:List Nat},c.reps w xs ds L→REs w c.size (ds.map f) xs L
 | [],_,_,h1=>h1
 | _::_,_,_,⟨c1,c2,L1,L2,h1,h2,h3,h4⟩=>⟨c1,c2,L1,L2,h1,h2,⟨h.to h3,c.len h3⟩,h.reps h4⟩
theorem Enc.reps_of (h:Enc c f):∀{ds:List α} {xs:List Value} {L:List Nat},REs w c.size (ds.map f) xs L→c.reps w xs ds L
 | [],_,_,h1=>h1
 | _::_,_,_,⟨c1,c2,L1,L2,h1,h2,h3,h4⟩=>⟨c1,c2,L1,L2,h1,h2,h.of h3.1,h.reps_of h4⟩
theorem Enc.sl (h:Enc c f) (e:Nat) {v:Value} {ds:List α} {L:List Nat}:(Zw c).rep w [v] ds L↔RC w (.sl e c.size (ds.map f)) v L:=by
 constructor
 ·rintro ⟨A,cap,hv,h1,h2,xs,L0,L1,hL,h3,h4⟩
  obtain rfl:v=_:=by simpa using hv
  exact ⟨A,cap,xs,L0,L1,yG,by simpa using h1,h2,hL,c.pos,by simpa using h3,h.reps h4⟩
 ·rintro ⟨A,cap,xs,L0,L1,hv,h1,h2,hL,h0,h3,h4⟩
  exact ⟨A,cap,by simpa using hv,by simpa using h1,h2,xs,L0,L1,hL,by simpa using h3,h.reps_of h4⟩
theorem RCs.solo {x:CT} {v:Value} {L:List Nat} (h:RC w x v L):RCs w [x] [v] L:=⟨v,[],L,[],rfl,yG,h,rfl,rfl⟩
theorem RCs.more {x:CT} {v:Value} {L M:List Nat} {r:List CT} {cs:List Value} (h:RC w x v L) (k:RCs w r cs M):RCs w (x::r) (v::cs) (L++M):=⟨v,cs,L,M,rfl,rfl,h,k⟩
theorem Enc.slice (h:Enc c f) (e:Nat):Enc (Zw c) (fun l=>[.sl e c.size (l.map f)]) where
 to:=fun {w cs x L} hr=>by
  obtain ⟨A,cap,rfl,h1⟩:=id hr
  exact RCs.solo ((h.sl e).1 hr)
 of:=fun {w cs x L} hr=>by
  obtain ⟨v,cs',L1,L2,rfl,rfl,h1,rfl,rfl⟩:=hr
  rw [A4]
  exact (h.sl e).2 h1
end
theorem encStr:Enc Zde ZA where
 to:=fun ⟨h1,h2,h3⟩=>by subst h1;subst h2;exact RCs.solo ⟨rfl,rfl,h3⟩
 of:=fun ⟨v,cs',L1,L2,h1,h2,h3,h4,h5⟩=>by
  obtain ⟨rfl,rfl,t⟩:=h3
  subst h4;subst h5;exact ⟨h1,h2,t⟩
def Ztj (w:World):Bool × List CT→Value→Prop:=ZnX w fun _=>False
theorem Zcs {α:Type} {c:Yh α} {f:α→List CT} (h:Enc c f) (e:Nat) {w:World} {v:Value} {ds:List α} {L:List Nat} (hr:(Zw c).rep w [v] ds L):Ztj w (false,[.sl e c.size (ds.map f)]) v:=.inr ⟨rfl,_,L,rfl,(h.sl e).1 hr,fun _ _ h=>h⟩
theorem Zh9 {α:Type} {c:Yh α} {f:α→List CT} (h:Enc c f) {w:World} {vs:List Value} {x:α} {L:List Nat} (hr:c.rep w vs x L):Ztj w (true,f x) (.agg vs.toArray):=.inl ⟨rfl,vs,L,rfl,h.to hr,fun _ _ h=>h⟩
section
variable {w w':World} {v:Value} {e:Ending}
theorem ZqI {B:Nat} {n:Nat→Prop} {x:RT} (h:ZkF w B n [x] v):∃F,OP w B n x v F∧Own w B F:=by
 obtain ⟨vs,F,⟨u,vs',F1,F2,rfl,rfl,h1,rfl,rfl⟩,h2,rfl⟩:=h
 rw [A4] at h2
 exact ⟨F1,by simpa using h1,h2⟩
theorem Zx4 {α:Type} {c:Yh α} {f:α→List CT} (h:Enc c f) {t:Nat} {ds:List α} {n:Nat→Prop} (hr:ZkF w' w.heap.size n [(false,[(false,.sl t c.size (ds.map f))])] v) (hb:Below w.heap.size w w'):ZeC c t w v ds w':=by
 obtain ⟨F,h1,h2⟩:=ZqI hr
 rcases h1 with ⟨h1,_⟩ | ⟨_,ct,h1,h3⟩
 ·simp at h1
 ·obtain rfl:_=ct:=by simpa using h1
  obtain ⟨_,cs,L,h4,h5,rfl,_⟩:=h3
  exact ⟨⟨cs,L,by simpa using h4,h.reps_of h5,h2⟩,hb⟩
theorem ZwV {b:Bool} {B:Nat} {m:Nat→Prop} (hr:ZkF w B m [(false,[(false,.bool b)])] v):v=.bool b:=by
 obtain ⟨F,h1,h2⟩:=ZqI hr
 rcases h1 with ⟨h1,_⟩ | ⟨_,ct,h1,h3⟩
 ·simp at h1
 ·obtain rfl:_=ct:=by simpa using h1
  exact h3.1.1
end
section
variable {P:Program} {J:World→Prop} {f:FuncId} {args:List (Bool × List CT)} {res:List RT}
theorem Zm.calls (h:Zm P J f args res) {w:World} {vs:List Value} (hj:J w) (ha:ZM (Ztj w) args vs):Calls P f vs.toArray w fun e w'=>∃v n,e=.returned v∧ZkF w' w.heap.size n res v∧Below w.heap.size w w':=
 (h.2 w (fun _=>False) vs hj (fun _ h=>h.elim) ha).mono fun _ _ ⟨v,n,h1,h2,_,h3⟩=>⟨v,n,h1,h2,h3⟩
theorem Zm.givesS {α:Type} {c:Yh α} {g:α→List CT} {t:Nat} {ds:List α} (h:Zm P J f args [(false,[(false,.sl t c.size (ds.map g))])]) (hg:Enc c g) {w:World} {vs:List Value} (hj:J w) (ha:ZM (Ztj w) args vs):Calls P f vs.toArray w (Zi7 c t w ds):=
 (h.calls hj ha).mono fun _ _ ⟨v,_,h1,h2,h3⟩=>⟨v,h1,Zx4 hg h2 h3⟩
theorem Zm.givesB {b:Bool} (h:Zm P J f args [(false,[(false,.bool b)])]) {w:World} {vs:List Value} (hj:J w) (ha:ZM (Ztj w) args vs):Calls P f vs.toArray w fun e w'=>e=.returned (.bool b)∧Below w.heap.size w w':=
 (h.calls hj ha).mono fun _ _ ⟨v,_,h1,h2,h3⟩=>⟨by rw [h1,ZwV h2],h3⟩
def ZlW {α:Type} (c:Yh α) (t:Nat) (w:World) (ds:List α) (b:Bool):Ending→World→Prop:=fun e w'=>∃v,e=.returned (.tuple #[v,.bool b])∧ZeC c t w v ds w'
theorem Zm.givesSB {α:Type} {c:Yh α} {g:α→List CT} {t:Nat} {ds:List α} {b:Bool} (h:Zm P J f args [(false,[(false,.sl t c.size (ds.map g))]),(false,[(false,.bool b)])]) (hg:Enc c g) {w:World} {vs:List Value} (hj:J w) (ha:ZM (Ztj w) args vs):Calls P f vs.toArray w (ZlW c t w ds b):=
 (h.calls hj ha).mono fun _ w' ⟨v,n,h1,⟨us,F,⟨u,us',F1,F2,e1,e2,p1,u2,us2,F3,F4,e3,e4,p2,e5,e6⟩,hO,e7⟩,h3⟩=>by
  subst e5 e6 e3 e4 e1 e2
  rcases p2 with ⟨p2,_⟩ | ⟨_,ct,p2,p3⟩
  ·simp at p2
  ·obtain rfl:_=ct:=by simpa using p2
   obtain ⟨⟨p4,_⟩,rfl⟩:=p3
   subst p4
   simp only[A4] at hO
   exact ⟨u,by rw [h1,e7];rfl,Zx4 (n:=n) hg ⟨[u],F1,⟨u,[],F1,[],rfl,yG,p1,rfl,rfl⟩,hO,rfl⟩ h3⟩
theorem Zwp {w:World} {B:Nat} {n:Nat→Prop}:∀{l:List CT} {cs:List Value} {F:List Nat},OCs w B n (l.map fun y=>(false,y)) cs F→∃F',F'.Sublist F∧RCs w l cs F'
 | [],_,_,⟨h1,h2⟩=>⟨[],yG,h1,rfl⟩
 | x::l,_,_,⟨v,vs,F1,F2,rfl,rfl,h1,h2⟩=>by
  obtain ⟨F2',s2,r2⟩:=Zwp h2
  have key:∃F1',F1'.Sublist F1∧RC w x v F1':=by
   cases x with
   | sl e q xs=>
    obtain ⟨hm,cs,L,o1,o2,o3,o4⟩:=h1
    obtain ⟨A,cap,L0,s1,s2,s3,s4,s5⟩:=Sl.row o1
    exact ⟨L0++L,by rw [o3];exact AA s5 (List.Sublist.refl _),A,cap,cs,L0,L,s1,s2,s3,rfl,hm,s4,o2⟩
   | int k i=>exact ⟨[],yG,h1.1⟩
   | bool b=>exact ⟨[],yG,h1.1⟩
   | str s=>exact ⟨[],yG,h1.1⟩
   | ifc s=>exact ⟨[],yG,h1.1⟩
   | any=>exact ⟨[],yG,h1.1⟩
   | _=>exact h1.elim
  obtain ⟨F1',s1,r1⟩:=key
  exact ⟨F1'++F2',AA s1 s2,v,vs,F1',F2',rfl,rfl,r1,r2⟩
end
end
theorem ZcB:Enc Z8 Zs where
 to:=fun {w cs x L} h=>by
  obtain ⟨A1,c1,L1,rfl,rfl,t0,n1,m1,s1⟩:=h
  have hh:RCs w (Zs x) _ _:=RCs.more ⟨rfl,rfl,t0⟩ (RCs.solo ((encStr.sl 9).1 ⟨A1,c1,rfl,n1,m1,s1⟩))
  simpa only [A5,A4,A6] using hh
 of:=fun {w cs x L} h=>by
  obtain ⟨v0,r0,K0,M0,rfl,rfl,h0,v1,r1,K1,M1,rfl,rfl,h1,rfl,rfl⟩:=h
  obtain ⟨rfl,rfl,t0⟩:=h0
  obtain ⟨A1,c1,e1,n1,m1,s1⟩:=(encStr.sl 9).2 h1
  cases e1
  exact ⟨A1,c1,_,rfl,by simp only[A5,A4,A6],t0,n1,m1,s1⟩
theorem ZmV:Enc Qq Qp where
 to:=fun {w cs x L} h=>by
  obtain ⟨A1,c1,L1,rfl,rfl,t0,n1,m1,s1⟩:=h
  have hh:RCs w (Qp x) _ _:=RCs.more ⟨rfl,rfl,t0⟩ (RCs.solo ((encStr.sl 9).1 ⟨A1,c1,rfl,n1,m1,s1⟩))
  simpa only [A5,A4,A6] using hh
 of:=fun {w cs x L} h=>by
  obtain ⟨v0,r0,K0,M0,rfl,rfl,h0,v1,r1,K1,M1,rfl,rfl,h1,rfl,rfl⟩:=h
  obtain ⟨rfl,rfl,t0⟩:=h0
  obtain ⟨A1,c1,e1,n1,m1,s1⟩:=(encStr.sl 9).2 h1
  cases e1
  exact ⟨A1,c1,_,rfl,by simp only[A5,A4,A6],t0,n1,m1,s1⟩
theorem Zkf:Enc YL ZJ where
 to:=fun {w cs x L} h=>by
  obtain ⟨A1,c1,L1,rfl,rfl,t0,t1,t2,n1,m1,s1⟩:=h
  have hh:RCs w (ZJ x) _ _:=RCs.more ⟨rfl,rfl⟩ (RCs.more ⟨rfl,rfl,t0⟩ (RCs.more ((encStr.sl 9).1 ⟨A1,c1,rfl,n1,m1,s1⟩) (RCs.more ⟨rfl,rfl,t1⟩ (RCs.solo ⟨rfl,rfl,t2⟩))))
  simpa only [A5,A4,A6] using hh
 of:=fun {w cs x L} h=>by
  obtain ⟨v0,r0,K0,M0,rfl,rfl,h0,v1,r1,K1,M1,rfl,rfl,h1,v2,r2,K2,M2,rfl,rfl,h2,v3,r3,K3,M3,rfl,rfl,h3,v4,r4,K4,M4,rfl,rfl,h4,rfl,rfl⟩:=h
  obtain ⟨rfl,rfl⟩:=h0
  obtain ⟨rfl,rfl,t0⟩:=h1
  obtain ⟨A1,c1,e1,n1,m1,s1⟩:=(encStr.sl 9).2 h2
  cases e1
  obtain ⟨rfl,rfl,t1⟩:=h3
  obtain ⟨rfl,rfl,t2⟩:=h4
  exact ⟨A1,c1,_,rfl,by simp only[A5,A4,A6],t0,t1,t2,n1,m1,s1⟩
theorem Zps:Enc Yp ZI where
 to:=fun {w cs x L} h=>by
  obtain ⟨A1,c1,L1,rfl,rfl,t0,n1,m1,s1⟩:=h
  have hh:RCs w (ZI x) _ _:=RCs.more ⟨rfl,rfl⟩ (RCs.more ⟨rfl,rfl,t0⟩ (RCs.solo ((encStr.sl 9).1 ⟨A1,c1,rfl,n1,m1,s1⟩)))
  simpa only [A5,A4,A6] using hh
 of:=fun {w cs x L} h=>by
  obtain ⟨v0,r0,K0,M0,rfl,rfl,h0,v1,r1,K1,M1,rfl,rfl,h1,v2,r2,K2,M2,rfl,rfl,h2,rfl,rfl⟩:=h
  obtain ⟨rfl,rfl⟩:=h0
  obtain ⟨rfl,rfl,t0⟩:=h1
  obtain ⟨A1,c1,e1,n1,m1,s1⟩:=(encStr.sl 9).2 h2
  cases e1
  exact ⟨A1,c1,_,rfl,by simp only[A5,A4,A6],t0,n1,m1,s1⟩
theorem Zu9:Enc XW ZL where
 to:=fun {w cs x L} h=>by
  obtain ⟨A1,c1,L1,A2,c2,L2,rfl,rfl,t0,n1,m1,s1,n2,m2,s2⟩:=h
  have hh:RCs w (ZL x) _ _:=RCs.more ⟨rfl,rfl,t0⟩ (RCs.more ⟨rfl,rfl⟩ (RCs.more ((Zkf.sl 80).1 ⟨A1,c1,rfl,n1,m1,s1⟩) (RCs.solo ((Zps.sl 125).1 ⟨A2,c2,rfl,n2,m2,s2⟩))))
  simpa only [A5,A4,A6] using hh
 of:=fun {w cs x L} h=>by
  obtain ⟨v0,r0,K0,M0,rfl,rfl,h0,v1,r1,K1,M1,rfl,rfl,h1,v2,r2,K2,M2,rfl,rfl,h2,v3,r3,K3,M3,rfl,rfl,h3,rfl,rfl⟩:=h
  obtain ⟨rfl,rfl,t0⟩:=h0
  obtain ⟨rfl,rfl⟩:=h1
  obtain ⟨A1,c1,e1,n1,m1,s1⟩:=(Zkf.sl 80).2 h2
  cases e1
  obtain ⟨A2,c2,e2,n2,m2,s2⟩:=(Zps.sl 125).2 h3
  cases e2
  exact ⟨A1,c1,_,A2,c2,_,rfl,by simp only[A5,A4,A6],t0,n1,m1,s1,n2,m2,s2⟩
theorem ZeK:Enc Yd ZR where
 to:=fun {w cs x L} h=>by
  obtain ⟨rfl,rfl,t0,t1⟩:=h
  have hh:RCs w (ZR x) _ _:=RCs.more ⟨rfl,rfl,t0⟩ (RCs.solo ⟨rfl,rfl,t1⟩)
  simpa only [A5,A4,A6] using hh
 of:=fun {w cs x L} h=>by
  obtain ⟨v0,r0,K0,M0,rfl,rfl,h0,v1,r1,K1,M1,rfl,rfl,h1,rfl,rfl⟩:=h
  obtain ⟨rfl,rfl,t0⟩:=h0
  obtain ⟨rfl,rfl,t1⟩:=h1
  exact ⟨rfl,by simp only[A5,A4,A6],t0,t1⟩
section
theorem Zlb {f_0:Zc} {r:Bool} (h:ZfO f_0=some r):Zm prog J0 84 [(true,Zs f_0)] [(false,[(false,.bool r)])]:=by
 refine fnk func84 rfl ?_
 unfold ZfO at h
 simp only[fnS,f84,Zo,go_sem,seval]
 obtain ⟨_,e,h⟩:=Za h
 refine Zd (Zhr e) ?_
 try simp only[*,go_sem,seval]
 iterate 2 refine yB h (fun _ h=>?_) fun _ h=>?_
 cases h
 try simp only[*,go_sem,seval]
 refine Zh h (fun i _ st=>IV [(16,yM (yU f_0.args)),(17,yL f_0.args.length),(18,yL i)] [] st) [] [] yF yD ?_ ?_
 rintro _ _ ⟨⟩ ⟨_,_,_⟩ _ a b f h g
 simp only[go_sem,seval,Zb] at b
 obtain ⟨⟨k,_,_⟩,hn⟩:=b
 subst hn
 have l:=WF.slotL f k (j:=0) rfl
 have:=ZC a
 have:=ZE a
 have:=Zk (ZD a) l
 try simp only[*,go_sem,seval]
 obtain ⟨_,m,h⟩:=Za h
 refine Zd (QG m) ?_
 try simp only[*,go_sem,seval]
 refine yB h (fun _ h=>?_) fun _ h=>?_
 refine ⟨_,[],[],(A3 h).symm,yF,?_⟩
 try simp only[*,go_sem,seval]
 replace h:=Zr h g
 cases h
 try simp only[*,go_sem,seval]
 rintro ⟨⟩ ⟨_,_,_⟩ d _ h
 simp only[go_sem,seval,Zb] at d
 obtain ⟨⟨_,_,_⟩,hn⟩:=d
 subst hn
 have:=ZB (f_0.args.length)
 iterate 2 (cases h;try simp only[*,go_sem,seval])
theorem Zap {s_0:ByteArray} {r:Bool} (h:Zab s_0=some r):Zm prog J0 206 [(false,[.str s_0])] [(false,[(false,.bool r)])]:=by
 refine fnk func206 rfl ?_
 unfold Zab at h
 simp only[fnS,f206,Zo,go_sem,seval]
 obtain ⟨_,a,h⟩:=Za h
 refine Zd (QG a) ?_
 try simp only[*,go_sem,seval]
 refine yB h (fun _ h=>?_) fun _ h=>?_
 cases h
 try simp only[*,go_sem,seval]
 obtain ⟨_,b,h⟩:=Za h
 refine Zd (ZdX b) ?_
 cases h
 try simp only[*,go_sem,seval]
theorem Zas {b_0:(List Zi)} {r:Bool} (h:XS b_0=some r):Zm prog J0 145 [(false,[.sl 162 2 (A0 ZR b_0)])] [(false,[(false,.bool r)])]:=by
 refine fnk func145 rfl ?_
 unfold XS at h
 simp only[fnS,f145,Zo,go_sem,seval]
 refine yB h (fun _ h=>?_) fun _ h=>?_
 cases h
 try simp only[*,go_sem,seval]
 refine Zh h (fun i _ st=>IV [(0,yM (yX b_0)),(8,yM (yX b_0)),(9,yL b_0.length),(10,yL i)] [] st) [] [] yF yD ?_ ?_
 rintro _ _ ⟨⟩ ⟨_,_,_⟩ _ a b f h d
 simp only[go_sem,seval,Zb] at b
 obtain ⟨⟨g,_,_,_⟩,hn⟩:=b
 subst hn
 have k:=WF.slotL f g (j:=0) rfl
 have:=ZC a
 have:=ZE a
 have:=Zk (ZD a) k
 try simp only[*,go_sem,seval]
 obtain ⟨_,l,h⟩:=Za h
 refine Zd (ZdX l) ?_
 try simp only[*,go_sem,seval]
 refine yB h (fun _ h=>?_) fun _ h=>?_
 obtain ⟨_,m,h⟩:=Za h
 refine Zd (QG m) ?_
 try simp only[*,go_sem,seval]
 iterate 2 refine yB h (fun _ h=>?_) fun _ h=>?_
 obtain ⟨_,_,_,_,h⟩:=ZcM h
 try simp only[*,go_sem,seval]
 refine yB h (fun _ h=>?_) fun _ h=>?_
 refine ⟨_,[],[],(A3 h).symm,yF,?_⟩
 try simp only[*,go_sem,seval]
 replace h:=Zr h d
 cases h
 try simp only[*,go_sem,seval]
 refine ⟨_,[],[],(A3 h).symm,yF,?_⟩
 iterate 2 ((try simp only[*,go_sem,seval]);replace h:=Zr h d;cases h)
 try simp only[*,go_sem,seval]
 rintro ⟨⟩ ⟨_,_,_⟩ e _ h
 simp only[go_sem,seval,Zb] at e
 obtain ⟨⟨_,_,_,_⟩,hn⟩:=e
 subst hn
 have:=ZB (b_0.length)
 cases h
 try simp only[*,go_sem,seval]
theorem Zdw {b_0:(List Zi)} {term_1:ByteArray} {r:(ByteArray × Bool)} (h:Zbt b_0 term_1=some r):Zm prog J0 208 [(false,[.sl 162 2 (A0 ZR b_0)]),(false,[.str term_1])] [(false,[(false,.str r.1)]),(false,[(false,.bool r.2)])]:=by
 refine fnk func208 rfl ?_
 unfold Zbt at h
 have e:ZbS ⟨#[]⟩=true:=by decide
 simp only[fnS,f208,Zo,go_sem,seval,e]
 obtain ⟨_,f,h⟩:=Za h
 refine Zd (QG f) ?_
 try simp only[*,go_sem,seval]
 refine yB h (fun _ h=>?_) fun _ h=>?_
 cases h
 try simp only[*,go_sem,seval]
 obtain ⟨_,g,h⟩:=Za h
 refine Zd (ZdX g) ?_
 try simp only[*,go_sem,seval]
 refine yB h (fun _ h=>?_) fun _ h=>?_
 refine Zh h (fun i _ st=>IV [(1,yM (.str term_1)),(14,yM (yX b_0)),(15,yL b_0.length),(16,yL i)] [] st) [] [] yF yD ?_ ?_
 rintro _ _ ⟨⟩ ⟨_,_,_⟩ _ a b k h l
 simp only[go_sem,seval,Zb] at b
 obtain ⟨⟨_,m,_,_⟩,hn⟩:=b
 subst hn
 have o:=WF.slotL k m (j:=0) rfl
 have:=ZC a
 have:=ZE a
 have:=Zk (ZD a) o
 try simp only[*,go_sem,seval]
 refine yB h (fun _ h=>?_) fun _ h=>?_
 replace h:=Zr h l
 cases h
 try simp only[*,go_sem,seval]
 refine ⟨_,[],[],(A3 h).symm,yF,?_⟩
 try simp only[*,go_sem,seval]
 rintro ⟨⟩ ⟨_,_,_⟩ d _ h
 simp only[go_sem,seval,Zb] at d
 obtain ⟨⟨_,_,_,_⟩,hn⟩:=d
 subst hn
 have:=ZB (b_0.length)
 iterate 2 (cases h;try simp only[*,go_sem,seval])
theorem ZdW {l_0:(List Zc)} {r:(List Zc)} (h:Zad l_0=some r):Zm prog J0 132 [(false,[.sl 53 2 (A0 Zs l_0)])] [(false,[(false,.sl 53 2 (A0 Zs r))])]:=by
 refine fnk func132 rfl ?_
 unfold Zad at h
 simp only[fnS,f132,Zo,go_sem,seval]
 refine Zh h (fun i a st=>IV [(3,.p false [.row 0]),(6,yM (yT l_0)),(7,yL l_0.length),(8,yL i)] [.row 53 2 (A0 Zs a) 2] st) [(false,3,0)] [80] yF yD ?_ ?_
 rintro _ _ a ⟨_,_,_⟩ _ b d f h _
 simp only[go_sem,seval,Zb] at d
 obtain ⟨⟨_,g,_,_⟩,_,hn⟩:=d
 subst hn
 have k:=WF.slotL f g (j:=0) rfl
 have:=ZC b
 have:=ZE b
 have:=Zk (ZD b) k
 try simp only[*,go_sem,seval]
 obtain ⟨_,l,h⟩:=Za h
 refine Zd (YO l) ?_
 obtain ⟨m,h⟩:=Zv h
 try simp only[Nat.reduceLeDiff] at m
 try simp only[*,go_sem,seval]
 refine ⟨_,[],[145],(A3 h).symm,yF,?_⟩
 try simp only[*,go_sem,seval]
 rintro a ⟨_,_,_⟩ e _ h
 simp only[go_sem,seval,Zb] at e
 obtain ⟨⟨_,_,_,_⟩,_,hn⟩:=e
 subst hn
 have:=ZB (l_0.length)
 cases h
 try simp only[*,go_sem,seval]
theorem ZcD {l_0:(List Zc)} {f_1:Zc} {r:Int} (h:Yl l_0 f_1=some r):Zm prog J0 85 [(false,[.sl 53 2 (A0 Zs l_0)]),(true,Zs f_1)] [(false,[(false,.int .i64 r)])]:=by
 refine fnk func85 rfl ?_
 unfold Yl at h
 simp only[fnS,f85,Zo,go_sem,seval]
 refine Zh h (fun i _ st=>IV [(3,.bp 0 0),(7,yM (yT l_0)),(8,yL l_0.length),(9,yL i)] [zC 53 (Zs f_1)] st) [] [0] yF yD ?_ ?_
 rintro _ _ ⟨⟩ ⟨_,_,_⟩ _ a b e h f
 simp only[go_sem,seval,Zb] at b
 obtain ⟨⟨_,g,_,_⟩,_,hn⟩:=b
 subst hn
 have k:=WF.slotL e g (j:=0) rfl
 have:=ZC a
 have:=ZE a
 have:=Zk (ZD a) k
 try simp only[*,go_sem,seval]
 obtain ⟨_,l,h⟩:=Za h
 refine Zd (ZoB l) ?_
 try simp only[*,go_sem,seval]
 refine yB h (fun _ h=>?_) fun _ h=>?_
 replace h:=Zr h f
 cases h
 try simp only[*,go_sem,seval]
 refine ⟨_,[],[0],(A3 h).symm,yF,?_⟩
 try simp only[*,go_sem,seval]
 rintro ⟨⟩ ⟨_,_,_⟩ d _ h
 simp only[go_sem,seval,Zb] at d
 obtain ⟨⟨_,_,_,_⟩,_,hn⟩:=d
 subst hn
 have:=ZB (l_0.length)
 cases h
 try simp only[*,go_sem,seval]
theorem Zjw {a_0:ByteArray} {b_1:ByteArray} {r:Int} (h:Q8 a_0 b_1=some r):Zm prog J0 239 [(false,[.str a_0]),(false,[.str b_1])] [(false,[(false,.int .i64 r)])]:=by
 refine fnk func239 rfl ?_
 unfold Q8 at h
 simp only[fnS,f239,Zo,go_sem,seval]
 obtain ⟨_,a,h⟩:=Za h
 refine Zd (ZcG a) ?_
 try simp only[*,go_sem,seval]
 obtain ⟨_,b,h⟩:=Za h
 refine Zd (ZcG b) ?_
 try simp only[*,go_sem,seval]
 iterate 2 refine yB h (fun _ h=>?_) fun _ h=>?_
 obtain ⟨_,c,h⟩:=Za h
 refine Zd (Zcm c) ?_
 iterate 2 (cases h;try simp only[*,go_sem,seval])
 refine yB h (fun _ h=>?_) fun _ h=>?_
 cases h
 try simp only[*,go_sem,seval]
 obtain ⟨_,d,h⟩:=Za h
 refine Zd (Zki d) ?_
 cases h
 try simp only[*,go_sem,seval]
theorem Zep {l_0:(List ByteArray)} {r:(List ByteArray)} (h:Zai l_0=some r):Zm prog J0 194 [(false,[.sl 9 1 (A0 ZA l_0)])] [(false,[(false,.sl 9 1 (A0 ZA r))])]:=by
 refine fnk func194 rfl ?_
 unfold Zai at h
 simp only[fnS,f194,Zo,go_sem,seval]
 refine Zh h (fun i a st=>IV [(3,.p false [.row 0]),(6,yM (yU l_0)),(7,yL l_0.length),(8,yL i)] [.row 9 1 (A0 ZA a) 2] st) [(false,3,0)] [80] yF yD ?_ ?_
 rintro _ _ a ⟨_,_,_⟩ _ b d f h _
 simp only[go_sem,seval,Zb] at d
 obtain ⟨⟨_,g,_,_⟩,_,hn⟩:=d
 subst hn
 have k:=WF.slotL f g (j:=0) rfl
 have:=ZC b
 have:=ZE b
 have:=Zk (ZD b) k
 try simp only[*,go_sem,seval]
 obtain ⟨_,l,h⟩:=Za h
 refine Zd (ZdX l) ?_
 try simp only[*,go_sem,seval]
 refine yB h (fun _ h=>?_) fun _ h=>?_
 obtain ⟨m,h⟩:=Zv h
 try simp only[Nat.reduceLeDiff] at m
 try simp only[*,go_sem,seval]
 refine ⟨_,[],[145],(A3 h).symm,yF,?_⟩
 try simp only[*,go_sem,seval]
 refine ⟨_,[],[0],(A3 h).symm,yF,?_⟩
 try simp only[*,go_sem,seval]
 rintro a ⟨_,_,_⟩ e _ h
 simp only[go_sem,seval,Zb] at e
 obtain ⟨⟨_,_,_,_⟩,_,hn⟩:=e
 subst hn
 have:=ZB (l_0.length)
 cases h
 try simp only[*,go_sem,seval]
theorem ZoC {a:(List Zg)} {a_1:ByteArray} {r:(List (ByteArray × Bool))} (h:Zeo a a_1=some r):ZqL prog J0 293 [(false,[.sl 76 4 (A0 ZL a)]),(false,[.str a_1])] (.map .str .bool (A0 eSB r)):=by
 refine fnb func293 rfl ?_
 unfold Zeo at h
 simp only[fnB,f293,Zo,go_sem,seval]
 refine Xj h (fun s st=>match s with | (o,q)=>IV [(0,yM (yY a)),(5,.p false [.row 0]),(6,.p false [.row 1])] [.map .str .bool (A0 eSB o),.row 9 1 (A0 ZA q) 2] st) [] [16,64] yF yD ?_
 rintro ⟨o,q⟩ ⟨_,_,_⟩ _ t _ h z
 simp only[go_sem,seval,Zb] at t
 obtain ⟨⟨_,_,_⟩,_,_,hn⟩:=t
 subst hn
 try simp only[*,go_sem,seval]
 refine yB h (fun _ h=>?_) fun _ h=>?_
 obtain ⟨_,h⟩:=Zv h
 obtain ⟨u,A,h⟩:=Za h
 try simp only[seval] at A
 obtain ⟨_,h⟩:=Zv h
 try simp only[*,go_sem,seval]
 refine Zh h (fun i s st=>match s with | (d,e)=>IV [(0,yM (yY a)),(5,.p false [.row 0]),(6,.p false [.row 1]),(7,yM (.str u)),(23,yM (yY a)),(24,yL a.length),(25,yL i)] [.map .str .bool (A0 eSB d),.row 9 1 (A0 ZA e) 2] st) [] [0,130] yF yD ?_ ?_
 rintro B _ ⟨d,e⟩ ⟨_,_,_⟩ _ f v C h _
 simp only[go_sem,seval,Zb] at v
 obtain ⟨⟨D,_,_,_,_,_,_⟩,_,_,hn⟩:=v
 subst hn
 have E:=WF.slotL C D (j:=0) rfl
 have:=ZC f
 have:=ZE f
 have:=Zk (ZD f) E
 try simp only[*,go_sem,seval]
 obtain ⟨_,F,h⟩:=Za h
 refine Zd (Zit F) ?_
 try simp only[*,go_sem,seval]
 obtain ⟨_,G,h⟩:=Za h
 refine Zd (ZaB G) ?_
 try simp only[*,go_sem,seval]
 refine yB h (fun _ h=>?_) fun _ h=>?_
 obtain ⟨g,H,h⟩:=Za h
 refine Zd (ZqF H) ?_
 try simp only[*,go_sem,seval]
 refine Zh h (fun i s st=>match s with | (k,l)=>IV [(0,yM (yY a)),(5,.p false [.row 0]),(6,.p false [.row 1]),(7,yM (.str u)),(23,yM (yY a)),(24,yL a.length),(25,yL B),(35,.p false [.row 2]),(36,yL g.length),(37,yL i)] [.map .str .bool (A0 eSB k),.row 9 1 (A0 ZA l) 2,.row 9 1 (A0 ZA g) 2] st) [] [0,1,178] yF yD ?_ ?_
 rintro _ _ ⟨k,l⟩ ⟨_,_,_⟩ _ m w I h _
 simp only[go_sem,seval,Zb] at w
 obtain ⟨⟨_,_,_,_,_,_,_,_,_,_⟩,_,_,J,hn⟩:=w
 subst hn
 have K:=WF.rowL I J
 have:=ZC m
 have:=ZE m
 have:=Zk (ZD m) K
 try simp only[*,go_sem,seval]
 refine yB h (fun _ h=>?_) fun _ h=>?_
 refine ⟨_,[],[0,1,2],(A3 h).symm,yF,?_⟩
 try simp only[*,go_sem,seval]
 obtain ⟨L,h⟩:=Zv h
 try simp only[Nat.reduceLeDiff] at L
 try simp only[*,go_sem,seval]
 refine ⟨_,[],[0,227,2],(A3 h).symm,yF,?_⟩
 try simp only[*,go_sem,seval]
 rintro ⟨k,l⟩ ⟨_,_,_⟩ x _ h
 simp only[go_sem,seval,Zb] at x
 obtain ⟨⟨_,_,_,_,_,_,_,_,_,_⟩,_,_,_,hn⟩:=x
 subst hn
 have:=ZB (g.length)
 try simp only[*,go_sem,seval]
 refine ⟨_,[],[0,1],(A3 h).symm,yF,?_⟩
 try simp only[*,go_sem,seval]
 refine ⟨_,[],[0,1],(A3 h).symm,yF,?_⟩
 try simp only[*,go_sem,seval]
 rintro ⟨d,e⟩ ⟨_,_,_⟩ y _ h
 simp only[go_sem,seval,Zb] at y
 obtain ⟨⟨_,_,_,_,_,_,_⟩,_,_,hn⟩:=y
 subst hn
 have:=ZB (a.length)
 try simp only[*,go_sem,seval]
 refine ⟨_,[],[0,1],(A3 h).symm,yF,?_⟩
 try simp only[*,go_sem,seval]
 replace h:=Zr h z
 cases h
 try simp only[*,go_sem,seval]
theorem Znn {l_0:(List Zf)} {r_1:Zf} {r:Bool} (h:Zbr l_0 r_1=some r):Zm prog J0 218 [(false,[.sl 179 3 (A0 ZG l_0)]),(true,ZG r_1)] [(false,[(false,.bool r)])]:=by
 refine fnk func218 rfl ?_
 unfold Zbr at h
 simp only[fnS,f218,Zo,go_sem,seval]
 refine Zh h (fun i _ st=>IV [(3,.bp 0 0),(7,yM (zA l_0)),(8,yL l_0.length),(9,yL i)] [zC 179 (ZG r_1)] st) [] [0] yF yD ?_ ?_
 rintro _ _ ⟨⟩ ⟨_,_,_⟩ _ a b e h f
 simp only[go_sem,seval,Zb] at b
 obtain ⟨⟨_,g,_,_⟩,_,hn⟩:=b
 subst hn
 have k:=WF.slotL e g (j:=0) rfl
 have:=ZC a
 have:=ZE a
 have:=Zk (ZD a) k
 try simp only[*,go_sem,seval]
 obtain ⟨_,l,h⟩:=Za h
 refine Zd (ZlS l) ?_
 try simp only[*,go_sem,seval]
 refine yB h (fun _ h=>?_) fun _ h=>?_
 replace h:=Zr h f
 cases h
 try simp only[*,go_sem,seval]
 refine ⟨_,[],[0],(A3 h).symm,yF,?_⟩
 try simp only[*,go_sem,seval]
 rintro ⟨⟩ ⟨_,_,_⟩ d _ h
 simp only[go_sem,seval,Zb] at d
 obtain ⟨⟨_,_,_,_⟩,_,hn⟩:=d
 subst hn
 have:=ZB (l_0.length)
 cases h
 try simp only[*,go_sem,seval]
theorem Zr4 {b_0:Zt} {r:(List Bool)} (h:Zhs b_0=some r):Zm prog J0 190 [(true,Qu b_0)] [(false,[(false,.sl 4 1 (A0 Ze4 r))])]:=by
 refine fnk func190 rfl ?_
 unfold Zhs at h
 simp only[fnS,f190,Zo,go_sem,seval]
 obtain ⟨a,g,h⟩:=Za h
 refine Zd (Zq7 g) ?_
 try simp only[*,go_sem,seval]
 refine Zh h (fun i b st=>IV [(3,.p false [.row 0]),(7,.p false [.row 1]),(8,yL a.length),(9,yL i)] [.row 4 1 (A0 Ze4 b) 2,.row 3 1 (A0 ZO a) 2] st) [(false,3,0)] [112,64] yF yD ?_ ?_
 rintro _ _ b ⟨_,_,_⟩ _ d e j h _
 simp only[go_sem,seval,Zb] at e
 obtain ⟨⟨_,_,_,_⟩,_,k,hn⟩:=e
 subst hn
 have l:=WF.rowL j k
 have:=ZC d
 have:=ZE d
 have:=Zk (ZD d) l
 obtain ⟨m,h⟩:=Zv h
 try simp only[Nat.reduceLeDiff] at m
 try simp only[*,go_sem,seval]
 refine ⟨_,[],[130,1],(A3 h).symm,yF,?_⟩
 try simp only[*,go_sem,seval]
 rintro b ⟨_,_,_⟩ f _ h
 simp only[go_sem,seval,Zb] at f
 obtain ⟨⟨_,_,_,_⟩,_,_,hn⟩:=f
 subst hn
 have:=ZB (a.length)
 cases h
 try simp only[*,go_sem,seval]
theorem Zg3 {s_0:ByteArray} {r:Bool} (h:ZdM s_0=some r):Zm prog J0 105 [(false,[.str s_0])] [(false,[(false,.bool r)])]:=by
 refine fnk func105 rfl ?_
 unfold ZdM at h
 simp only[fnS,f105,Zo,go_sem,seval]
 obtain ⟨_,a,h⟩:=Za h
 refine Zd (QA a) ?_
 try simp only[*,go_sem,seval]
 refine yB h (fun _ h=>?_) fun _ h=>?_
 obtain ⟨_,_,b,h⟩:=ZuE h
 try simp only[seval] at b
 try simp only[*,go_sem,seval]
 obtain ⟨_,c,h⟩:=Za h
 refine Zd (XM c) ?_
 iterate 2 (cases h;try simp only[*,go_sem,seval])
theorem Zah {s_0:ByteArray} {r:Bool} (h:Za3 s_0=some r):Zm prog J0 202 [(false,[.str s_0])] [(false,[(false,.bool r)])]:=by
 refine fnk func202 rfl ?_
 unfold Za3 at h
 simp only[fnS,f202,Zo,go_sem,seval]
 refine yB h (fun _ h=>?_) fun _ h=>?_
 obtain ⟨_,_,a,h⟩:=ZuE h
 try simp only[seval] at a
 try simp only[*,go_sem,seval]
 refine yB h (fun _ h=>?_) fun _ h=>?_
 obtain ⟨_,h⟩:=Zv h
 try simp only[*,go_sem,seval]
 obtain ⟨_,b,h⟩:=Za h
 refine Zd (QA b) ?_
 iterate 3 (cases h;try simp only[*,go_sem,seval])
theorem ZeI {a_0:ByteArray} {b_1:ByteArray} {r:Int} (h:Xz a_0 b_1=some r):Zm prog J0 116 [(false,[.str a_0]),(false,[.str b_1])] [(false,[(false,.int .i64 r)])]:=by
 refine fnk func116 rfl ?_
 unfold Xz at h
 simp only[fnS,f116,Zo,go_sem,seval]
 obtain ⟨_,a,h⟩:=Za h
 refine Zd (Zfh a) ?_
 try simp only[*,go_sem,seval]
 obtain ⟨_,b,h⟩:=Za h
 refine Zd (Zfh b) ?_
 try simp only[*,go_sem,seval]
 iterate 3 refine yB h (fun _ h=>?_) fun _ h=>?_
 cases h
 try simp only[*,go_sem,seval]
 refine yB h (fun _ h=>?_) fun _ h=>?_
 iterate 3 (cases h;try simp only[*,go_sem,seval])
 refine yB h (fun _ h=>?_) fun _ h=>?_
 cases h
 try simp only[*,go_sem,seval]
 obtain ⟨_,c,h⟩:=Za h
 refine Zd (Zmz c) ?_
 cases h
 try simp only[*,go_sem,seval]
theorem Zfo {l_0:(List Zc)} {r:(List Zc)} (h:Zbg l_0=some r):Zm prog J0 228 [(false,[.sl 53 2 (A0 Zs l_0)])] [(false,[(false,.sl 53 2 (A0 Zs r))])]:=by
 refine fnk func228 rfl ?_
 unfold Zbg at h
 simp only[fnS,f228,Zo,go_sem,seval]
 refine Zh h (fun i a st=>IV [(0,yM (yT l_0)),(3,.p false [.row 0]),(4,yL i)] [.row 53 2 (A0 Zs a) 2] st) [] [16] yF yD ?_ ?_
 rintro _ _ a ⟨_,_,_⟩ _ b d f h _
 simp only[go_sem,seval,Zb] at d
 obtain ⟨⟨g,_,_⟩,_,hn⟩:=d
 subst hn
 have k:=WF.slotL f g (j:=0) rfl
 have:=ZC b
 have:=ZE b
 have:=Zk (ZD b) k
 try simp only[*,go_sem,seval]
 obtain ⟨_,l,h⟩:=Za h
 refine Zd (Xr l) ?_
 obtain ⟨m,h⟩:=Zv h
 try simp only[Nat.reduceLeDiff] at m
 try simp only[*,go_sem,seval]
 refine ⟨_,[],[177],(A3 h).symm,yF,?_⟩
 try simp only[*,go_sem,seval]
 rintro a ⟨_,_,_⟩ e _ h
 simp only[go_sem,seval,Zb] at e
 obtain ⟨⟨_,_,_⟩,_,hn⟩:=e
 subst hn
 have:=ZB (l_0.length)
 cases h
 try simp only[*,go_sem,seval]
theorem Ziy {s_0:ByteArray} {r:Bool} (h:Zd3 s_0=some r):Zm prog J0 313 [(false,[.str s_0])] [(false,[(false,.bool r)])]:=by
 refine fnk func313 rfl ?_
 unfold Zd3 at h
 simp only[fnS,f313,Zo,go_sem,seval]
 obtain ⟨_,a,h⟩:=Za h
 refine Zd (Zfh a) ?_
 cases h
 try simp only[*,go_sem,seval]
end
section
theorem Ql {p_0:Zx} {r:Bool} (h:Xp p_0=some r):Zm prog J0 144 [(true,Qp p_0)] [(false,[(false,.bool r)])]:=by
 refine fnk func144 rfl ?_
 unfold Xp at h
 simp only[fnS,f144,Zo,go_sem,seval]
 obtain ⟨_,e,h⟩:=Za h
 refine Zd (Zhr e) ?_
 try simp only[*,go_sem,seval]
 iterate 2 refine yB h (fun _ h=>?_) fun _ h=>?_
 cases h
 try simp only[*,go_sem,seval]
 refine Zh h (fun i _ st=>IV [(16,yM (yU p_0.args)),(17,yL p_0.args.length),(18,yL i)] [] st) [] [] yF yD ?_ ?_
 rintro _ _ ⟨⟩ ⟨_,_,_⟩ _ a b f h g
 simp only[go_sem,seval,Zb] at b
 obtain ⟨⟨k,_,_⟩,hn⟩:=b
 subst hn
 have l:=WF.slotL f k (j:=0) rfl
 have:=ZC a
 have:=ZE a
 have:=Zk (ZD a) l
 try simp only[*,go_sem,seval]
 obtain ⟨_,m,h⟩:=Za h
 refine Zd (Zap m) ?_
 try simp only[*,go_sem,seval]
 refine yB h (fun _ h=>?_) fun _ h=>?_
 refine ⟨_,[],[],(A3 h).symm,yF,?_⟩
 try simp only[*,go_sem,seval]
 replace h:=Zr h g
 cases h
 try simp only[*,go_sem,seval]
 rintro ⟨⟩ ⟨_,_,_⟩ d _ h
 simp only[go_sem,seval,Zb] at d
 obtain ⟨⟨_,_,_⟩,hn⟩:=d
 subst hn
 have:=ZB (p_0.args.length)
 iterate 2 (cases h;try simp only[*,go_sem,seval])
theorem ZrV {a:(List Zi)} {b:ByteArray} {d:ByteArray} {r:((List Zi) × Bool)} (h:Zg4 a b d=some r):Zm prog J0 147 [(false,[.sl 162 2 (A0 ZR a)]),(false,[.str b]),(false,[.str d])] [(false,[(false,.sl 162 2 (A0 ZR r.1))]),(false,[(false,.bool r.2)])]:=by
 refine fnk func147 rfl ?_
 unfold Zg4 at h
 simp only[fnS,f147,Zo,go_sem,seval]
 obtain ⟨_,y,h⟩:=Za h
 refine Zd (Zas y) ?_
 try simp only[*,go_sem,seval]
 refine yB h (fun e h=>?_) fun e h=>?_
 obtain ⟨_,z,h⟩:=Za h
 refine Zd (ZdX z) ?_
 try simp only[*,go_sem,seval]
 refine yB h (fun f h=>?_) fun f h=>?_
 obtain ⟨_,A,h⟩:=Za h
 refine Zd (QG A) ?_
 try simp only[*,go_sem,seval]
 refine yB h (fun g h=>?_) fun g h=>?_
 obtain ⟨_,B,h⟩:=Za h
 refine Zd (Zdw B) ?_
 try simp only[*,go_sem,seval]
 refine yB h (fun k h=>?_) fun k h=>?_
 refine yB h (fun _ h=>?_) fun _ h=>?_
 obtain ⟨_,C,h⟩:=Za h
 refine Zd (Zhq C) ?_
 iterate 2 (cases h;try simp only[*,go_sem,seval])
 refine yB h (fun l h=>?_) fun l h=>?_
 cases h
 try simp only[*,go_sem,seval]
 refine Zh h (fun i s st=>match s with | (m,o)=>IV [(1,yM (.str b)),(2,yM (.str d)),(10,.p false [.row 0]),(11,yM (.bool o)),(42,yM (yX a)),(43,yL a.length),(44,yL i)] [.row 162 2 (A0 ZR m) 2] st) [(false,10,0)] [512] yF yD ?_ ?_
 rintro _ _ ⟨m,o⟩ ⟨_,_,_⟩ _ q w E h _
 simp only[go_sem,seval,Zb] at w
 obtain ⟨⟨_,_,_,_,F,_,_⟩,_,hn⟩:=w
 subst hn
 have G:=WF.slotL E F (j:=0) rfl
 have:=ZC q
 have:=ZE q
 have:=Zk (ZD q) G
 try simp only[*,go_sem,seval]
 refine yB h (fun t h=>?_) fun t h=>?_
 obtain ⟨H,h⟩:=Zv h
 try simp only[Nat.reduceLeDiff] at H
 try simp only[*,go_sem,seval]
 refine ⟨_,[],[257],(A3 h).symm,yF,?_⟩
 try simp only[*,go_sem,seval]
 refine Ze h (fun u h=>?_) (fun u h=>?_)
 have v:=u
 try simp only[e,f,g,k,l,t,AB,AC] at v
 obtain ⟨I,h⟩:=Zv h
 try simp only[Nat.reduceLeDiff] at I
 try simp only[*,go_sem,seval]
 refine ⟨_,[],[257],(A3 h).symm,yF,?_⟩
 try simp only[*,go_sem,seval]
 have v:=u
 try simp only[e,f,g,k,l,t,AB,AC] at v
 obtain ⟨J,h⟩:=Zv h
 try simp only[Nat.reduceLeDiff] at J
 obtain ⟨K,h⟩:=Zv h
 try simp only[Nat.reduceLeDiff] at K
 try simp only[*,go_sem,seval]
 refine ⟨_,[],[385],(A3 h).symm,yF,?_⟩
 try simp only[*,go_sem,seval]
 rintro ⟨m,o⟩ ⟨_,_,_⟩ x _ h
 simp only[go_sem,seval,Zb] at x
 obtain ⟨⟨_,_,_,_,_,_,_⟩,_,hn⟩:=x
 subst hn
 have:=ZB (a.length)
 try simp only[*,go_sem,seval]
 refine yB h (fun _ h=>?_) fun _ h=>?_
 cases h
 try simp only[*,go_sem,seval]
 obtain ⟨L,h⟩:=Zv h
 try simp only[Nat.reduceLeDiff] at L
 iterate 4 (cases h;try simp only[*,go_sem,seval])
theorem ZeY {a_0:Zc} {b_1:Zc} {r:Int} (h:Qn a_0 b_1=some r):Zm prog J0 174 [(true,Zs a_0),(true,Zs b_1)] [(false,[(false,.int .i64 r)])]:=by
 refine fnk func174 rfl ?_
 unfold Qn at h
 simp only[fnS,f174,Zo,go_sem,seval]
 obtain ⟨_,f,h⟩:=Za h
 refine Zd (Zki f) ?_
 try simp only[*,go_sem,seval]
 refine yB h (fun _ h=>?_) fun _ h=>?_
 cases h
 try simp only[*,go_sem,seval]
 refine Zh h (fun i _ st=>IV [(2,.bp 0 0),(3,.bp 1 0),(6,yL i)] [zC 53 (Zs a_0),zC 53 (Zs b_1)] st) [] [0,16] yF yD ?_ ?_
 rintro _ _ ⟨⟩ ⟨_,_,_⟩ _ a b g h d
 simp only[go_sem,seval,Zb] at b
 obtain ⟨⟨_,_,_⟩,k,_,hn⟩:=b
 subst hn
 have l:=WF.boxL g k (j:=1) rfl
 have:=ZC a
 have:=ZE a
 have:=Zk (ZD a) l
 try simp only[*,go_sem,seval]
 refine yB h (fun _ h=>?_) fun _ h=>?_
 obtain ⟨_,_,_,m,h⟩:=ZcM h
 simp only[A9] at m
 try simp only[*,go_sem,seval]
 obtain ⟨_,o,h⟩:=Za h
 refine Zd (Zjw o) ?_
 try simp only[*,go_sem,seval]
 refine yB h (fun _ h=>?_) fun _ h=>?_
 replace h:=Zr h d
 cases h
 try simp only[*,go_sem,seval]
 refine ⟨_,[],[0,1],(A3 h).symm,yF,?_⟩
 try simp only[*,go_sem,seval]
 obtain ⟨_,q,h⟩:=Za h
 refine Zd (Zcm q) ?_
 replace h:=Zr h d
 cases h
 try simp only[*,go_sem,seval]
 rintro ⟨⟩ ⟨_,_,_⟩ e _ h
 simp only[go_sem,seval,Zb] at e
 obtain ⟨⟨_,_,_⟩,_,_,hn⟩:=e
 subst hn
 have:=ZB (a_0.args.length)
 try simp only[*,go_sem,seval]
 obtain ⟨_,t,h⟩:=Za h
 refine Zd (Zcm t) ?_
 cases h
 try simp only[*,go_sem,seval]
theorem ZdR {r_0:Zg} {n_1:Int} {r:(List ByteArray)} (h:Zac r_0 n_1=some r):Zm prog J0 192 [(true,ZL r_0),(false,[.int .i64 n_1])] [(false,[(false,.sl 9 1 (A0 ZA r))])]:=by
 refine fnk func192 rfl ?_
 unfold Zac at h
 simp only[fnS,f192,Zo,go_sem,seval]
 refine Zh h (fun i a st=>IV [(1,yM (.int .i64 n_1)),(5,.p false [.row 0]),(9,yM (yW r_0.cond)),(10,yL r_0.cond.length),(11,yL i)] [.row 9 1 (A0 ZA a) 2] st) [(false,5,0)] [112] yF yD ?_ ?_
 rintro _ _ a ⟨_,_,_⟩ _ b d f h _
 simp only[go_sem,seval,Zb] at d
 obtain ⟨⟨_,_,g,_,_⟩,_,hn⟩:=d
 subst hn
 have k:=WF.slotL f g (j:=0) rfl
 have:=ZC b
 have:=ZE b
 have:=Zk (ZD b) k
 try simp only[*,go_sem,seval]
 iterate 2 refine yB h (fun _ h=>?_) fun _ h=>?_
 obtain ⟨_,l,h⟩:=Za h
 refine Zd (Zep l) ?_
 obtain ⟨m,h⟩:=Zv h
 try simp only[Nat.reduceLeDiff] at m
 try simp only[*,go_sem,seval]
 refine ⟨_,[],[321],(A3 h).symm,yF,?_⟩
 try simp only[*,go_sem,seval]
 refine ⟨_,[],[0],(A3 h).symm,yF,?_⟩
 try simp only[*,go_sem,seval]
 refine ⟨_,[],[0],(A3 h).symm,yF,?_⟩
 try simp only[*,go_sem,seval]
 rintro a ⟨_,_,_⟩ e _ h
 simp only[go_sem,seval,Zb] at e
 obtain ⟨⟨_,_,_,_,_⟩,_,hn⟩:=e
 subst hn
 have:=ZB (r_0.cond.length)
 try simp only[*,go_sem,seval]
 obtain ⟨_,o,h⟩:=Za h
 refine Zd (Qy o) ?_
 cases h
 try simp only[*,go_sem,seval]
theorem ZcA {x_0:Zl} {r:(List ByteArray)} (h:QI x_0=some r):Zm prog J0 246 [(true,ZJ x_0)] [(false,[(false,.sl 9 1 (A0 ZA r))])]:=by
 refine fnk func246 rfl ?_
 unfold QI at h
 simp only[fnS,f246,Zo,go_sem,seval]
 obtain ⟨_,a,h⟩:=Za h
 refine Zd (Zp2 a) ?_
 try simp only[*,go_sem,seval]
 obtain ⟨_,b,h⟩:=Za h
 refine Zd (Zep b) ?_
 try simp only[*,go_sem,seval]
 obtain ⟨_,c,h⟩:=Za h
 refine Zd (Qy c) ?_
 cases h
 try simp only[*,go_sem,seval]
theorem ZjT {facts_0:(List Zc)} {l_1:(List Zc)} {r:(List Int)} (h:ZdB facts_0 l_1=some r):Zm prog J0 217 [(false,[.sl 53 2 (A0 Zs facts_0)]),(false,[.sl 53 2 (A0 Zs l_1)])] [(false,[(false,.sl 3 1 (A0 ZO r))])]:=by
 refine fnk func217 rfl ?_
 unfold ZdB at h
 simp only[fnS,f217,Zo,go_sem,seval]
 refine Zh h (fun i a st=>IV [(0,yM (yT facts_0)),(5,.p false [.row 0]),(9,yM (yT l_1)),(10,yL l_1.length),(11,yL i)] [.row 3 1 (A0 ZO a) 2] st) [(false,5,0)] [80] yF yD ?_ ?_
 rintro _ _ a ⟨_,_,_⟩ _ b d f h _
 simp only[go_sem,seval,Zb] at d
 obtain ⟨⟨_,_,g,_,_⟩,_,hn⟩:=d
 subst hn
 have k:=WF.slotL f g (j:=0) rfl
 have:=ZC b
 have:=ZE b
 have:=Zk (ZD b) k
 try simp only[*,go_sem,seval]
 obtain ⟨_,l,h⟩:=Za h
 refine Zd (ZcD l) ?_
 try simp only[*,go_sem,seval]
 refine yB h (fun _ h=>?_) fun _ h=>?_
 obtain ⟨_,m,h⟩:=Za h
 refine Zd (Zrg m) ?_
 try simp only[*,go_sem,seval]
 refine yB h (fun _ h=>?_) fun _ h=>?_
 refine ⟨_,[],[0],(A3 h).symm,yF,?_⟩
 try simp only[*,go_sem,seval]
 obtain ⟨o,h⟩:=Zv h
 try simp only[Nat.reduceLeDiff] at o
 try simp only[*,go_sem,seval]
 refine ⟨_,[],[321],(A3 h).symm,yF,?_⟩
 try simp only[*,go_sem,seval]
 refine ⟨_,[],[0],(A3 h).symm,yF,?_⟩
 try simp only[*,go_sem,seval]
 rintro a ⟨_,_,_⟩ e _ h
 simp only[go_sem,seval,Zb] at e
 obtain ⟨⟨_,_,_,_,_⟩,_,hn⟩:=e
 subst hn
 have:=ZB (l_1.length)
 try simp only[*,go_sem,seval]
 obtain ⟨_,q,h⟩:=Za h
 refine Zwm (Zn5 q) ?_
 cases h
 try simp only[*,go_sem,seval]
theorem ZoA {facts_0:(List Zc)} {b_1:Zt} {r:(List Zc)} (h:Zec facts_0 b_1=some r):Zm prog J0 128 [(false,[.sl 53 2 (A0 Zs facts_0)]),(true,Qu b_1)] [(false,[(false,.sl 53 2 (A0 Zs r))])]:=by
 refine fnk func128 rfl ?_
 unfold Zec at h
 simp only[fnS,f128,Zo,go_sem,seval]
 obtain ⟨a,g,h⟩:=Za h
 refine Zd (Zr4 g) ?_
 try simp only[*,go_sem,seval]
 refine Zh h (fun i b st=>IV [(0,yM (yT facts_0)),(5,.p false [.row 0]),(9,.p false [.row 1]),(10,yL a.length),(11,yL i)] [.row 53 2 (A0 Zs b) 2,.row 4 1 (A0 Ze4 a) 2] st) [(false,5,0)] [112,64] yF yD ?_ ?_
 rintro _ _ b ⟨_,_,_⟩ _ d e j h _
 simp only[go_sem,seval,Zb] at e
 obtain ⟨⟨_,_,_,_,_⟩,_,k,hn⟩:=e
 subst hn
 have l:=WF.rowL j k
 have:=ZC d
 have:=ZE d
 have:=Zk (ZD d) l
 try simp only[*,go_sem,seval]
 refine yB h (fun _ h=>?_) fun _ h=>?_
 obtain ⟨_,_,_,m,h⟩:=ZcM h
 simp only[A9] at m
 try simp only[*,go_sem,seval]
 obtain ⟨_,o,h⟩:=Za h
 refine Zd (YO o) ?_
 obtain ⟨q,h⟩:=Zv h
 try simp only[Nat.reduceLeDiff] at q
 try simp only[*,go_sem,seval]
 refine ⟨_,[],[226,1],(A3 h).symm,yF,?_⟩
 try simp only[*,go_sem,seval]
 refine ⟨_,[],[0,1],(A3 h).symm,yF,?_⟩
 try simp only[*,go_sem,seval]
 rintro b ⟨_,_,_⟩ f _ h
 simp only[go_sem,seval,Zb] at f
 obtain ⟨⟨_,_,_,_,_⟩,_,_,hn⟩:=f
 subst hn
 have:=ZB (a.length)
 cases h
 try simp only[*,go_sem,seval]
theorem Zar {s_0:ByteArray} {r:Bool} (h:Zaq s_0=some r):Zm prog J0 165 [(false,[.str s_0])] [(false,[(false,.bool r)])]:=by
 refine fnk func165 rfl ?_
 unfold Zaq at h
 simp only[fnS,f165,Zo,go_sem,seval]
 obtain ⟨_,a,h⟩:=Za h
 refine Zd (QA a) ?_
 try simp only[*,go_sem,seval]
 refine yB h (fun _ h=>?_) fun _ h=>?_
 cases h
 try simp only[*,go_sem,seval]
 obtain ⟨_,b,h⟩:=Za h
 refine Zd (Zah b) ?_
 cases h
 try simp only[*,go_sem,seval]
theorem Zc6 {p_0:Zx} {r:(List ByteArray)} (h:Zb5 p_0=some r):Zm prog J0 185 [(true,Qp p_0)] [(false,[(false,.sl 9 1 (A0 ZA r))])]:=by
 refine fnk func185 rfl ?_
 unfold Zb5 at h
 simp only[fnS,f185,Zo,go_sem,seval]
 refine Zh h (fun i a st=>IV [(1,.bp 0 0),(3,.p false [.row 1]),(4,yL i)] [.box 78 [.c (.str p_0.rel),.c (yU p_0.args)],.row 9 1 (A0 ZA a) 2] st) [] [0,32] yF yD ?_ ?_
 rintro _ _ a ⟨_,_,_⟩ _ b d f h _
 simp only[go_sem,seval,Zb] at d
 obtain ⟨⟨_,_,_⟩,g,_,hn⟩:=d
 subst hn
 have k:=WF.boxL f g (j:=1) rfl
 have:=ZC b
 have:=ZE b
 have:=Zk (ZD b) k
 try simp only[*,go_sem,seval]
 obtain ⟨_,l,h⟩:=Za h
 refine Zd (Zah l) ?_
 try simp only[*,go_sem,seval]
 refine yB h (fun _ h=>?_) fun _ h=>?_
 obtain ⟨_,m,h⟩:=Za h
 refine Zd (XF m) ?_
 try simp only[*,go_sem,seval]
 refine ⟨_,[],[0,274],(A3 h).symm,yF,?_⟩
 try simp only[*,go_sem,seval]
 refine ⟨_,[],[0,1],(A3 h).symm,yF,?_⟩
 try simp only[*,go_sem,seval]
 rintro a ⟨_,_,_⟩ e _ h
 simp only[go_sem,seval,Zb] at e
 obtain ⟨⟨_,_,_⟩,_,_,hn⟩:=e
 subst hn
 have:=ZB (p_0.args.length)
 cases h
 try simp only[*,go_sem,seval]
theorem ZbQ {a_0:Zc} {b_1:Zc} {r:Int} (h:Xw a_0 b_1=some r):Zm prog J0 57 [(true,Zs a_0),(true,Zs b_1)] [(false,[(false,.int .i64 r)])]:=by
 refine fnk func57 rfl ?_
 unfold Xw at h
 simp only[fnS,f57,Zo,go_sem,seval]
 refine yB h (fun _ h=>?_) fun _ h=>?_
 refine Zh h (fun i _ st=>IV [(2,.bp 0 0),(3,.bp 1 0),(5,yL i)] [zC 53 (Zs a_0),zC 53 (Zs b_1)] st) [] [0,16] yF yD ?_ ?_
 rintro _ _ ⟨⟩ ⟨_,_,_⟩ _ a d f h b
 simp only[go_sem,seval,Zb] at d
 obtain ⟨⟨_,_,_⟩,g,_,hn⟩:=d
 subst hn
 have k:=WF.boxL f g (j:=1) rfl
 have:=ZC a
 have:=ZE a
 have:=Zk (ZD a) k
 try simp only[*,go_sem,seval]
 refine yB h (fun _ h=>?_) fun _ h=>?_
 obtain ⟨_,_,_,l,h⟩:=ZcM h
 simp only[A9] at l
 try simp only[*,go_sem,seval]
 obtain ⟨_,m,h⟩:=Za h
 refine Zd (ZeI m) ?_
 try simp only[*,go_sem,seval]
 refine yB h (fun _ h=>?_) fun _ h=>?_
 replace h:=Zr h b
 cases h
 try simp only[*,go_sem,seval]
 refine ⟨_,[],[0,1],(A3 h).symm,yF,?_⟩
 try simp only[*,go_sem,seval]
 refine yB h (fun _ h=>?_) fun _ h=>?_
 replace h:=Zr h b
 cases h
 try simp only[*,go_sem,seval]
 refine yB h (fun _ h=>?_) fun _ h=>?_
 iterate 2 (replace h:=Zr h b;cases h;try simp only[*,go_sem,seval])
 rintro ⟨⟩ ⟨_,_,_⟩ e _ h
 simp only[go_sem,seval,Zb] at e
 obtain ⟨⟨_,_,_⟩,_,_,hn⟩:=e
 subst hn
 have:=ZB (a_0.args.length)
 iterate 2 ((try simp only[*,go_sem,seval]);(refine Ze h (fun _ h=>?_) fun _ h=>?_<;>try simp only[*,go_sem,seval]);cases h)
 try simp only[*,go_sem,seval]
 cases h
 try simp only[*,go_sem,seval]
 obtain ⟨_,o,h⟩:=Za h
 refine Zd (Zmz o) ?_
 cases h
 try simp only[*,go_sem,seval]
theorem Zk1 {f_0:Zc} {r:Bool} (h:ZfR f_0=some r):Zm prog J0 43 [(true,Zs f_0)] [(false,[(false,.bool r)])]:=by
 refine fnk func43 rfl ?_
 unfold ZfR at h
 simp only[fnS,f43,Zo,go_sem,seval]
 refine Zh h (fun i _ st=>IV [(1,.bp 0 0),(3,yL i)] [zC 53 (Zs f_0)] st) [] [0] yF yD ?_ ?_
 rintro _ _ ⟨⟩ ⟨_,_,_⟩ _ a b e h f
 simp only[go_sem,seval,Zb] at b
 obtain ⟨⟨_,_⟩,g,hn⟩:=b
 subst hn
 have k:=WF.boxL e g (j:=1) rfl
 have:=ZC a
 have:=ZE a
 have:=Zk (ZD a) k
 try simp only[*,go_sem,seval]
 obtain ⟨_,l,h⟩:=Za h
 refine Zd (QA l) ?_
 try simp only[*,go_sem,seval]
 refine yB h (fun _ h=>?_) fun _ h=>?_
 refine ⟨_,[],[0],(A3 h).symm,yF,?_⟩
 try simp only[*,go_sem,seval]
 replace h:=Zr h f
 cases h
 try simp only[*,go_sem,seval]
 rintro ⟨⟩ ⟨_,_,_⟩ d _ h
 simp only[go_sem,seval,Zb] at d
 obtain ⟨⟨_,_⟩,_,hn⟩:=d
 subst hn
 have:=ZB (f_0.args.length)
 try simp only[*,go_sem,seval]
 obtain ⟨_,m,h⟩:=Za h
 refine Zd (Zg3 m) ?_
 try simp only[*,go_sem,seval]
 refine yB h (fun _ h=>?_) fun _ h=>?_
 iterate 2 (cases h;try simp only[*,go_sem,seval])
theorem Zan {b_0:(List Zi)} {r:Bool} (h:XU b_0=some r):Zm prog J0 138 [(false,[.sl 162 2 (A0 ZR b_0)])] [(false,[(false,.bool r)])]:=by
 refine fnk func138 rfl ?_
 unfold XU at h
 simp only[fnS,f138,Zo,go_sem,seval]
 refine Zh h (fun i _ st=>IV [(0,yM (yX b_0)),(3,yL i)] [] st) [] [] yF yD ?_ ?_
 rintro _ _ ⟨⟩ ⟨_,_,_⟩ _ a b f h d
 simp only[go_sem,seval,Zb] at b
 obtain ⟨⟨g,_⟩,hn⟩:=b
 subst hn
 have k:=WF.slotL f g (j:=0) rfl
 have:=ZC a
 have:=ZE a
 have:=Zk (ZD a) k
 try simp only[*,go_sem,seval]
 obtain ⟨_,l,h⟩:=Za h
 refine Zd (Zah l) ?_
 try simp only[*,go_sem,seval]
 refine yB h (fun _ h=>?_) fun _ h=>?_
 obtain ⟨_,m,h⟩:=Za h
 refine Zd (QA m) ?_
 try simp only[*,go_sem,seval]
 iterate 2 refine yB h (fun _ h=>?_) fun _ h=>?_
 obtain ⟨_,_,_,_,h⟩:=ZcM h
 try simp only[*,go_sem,seval]
 refine yB h (fun _ h=>?_) fun _ h=>?_
 refine ⟨_,[],[],(A3 h).symm,yF,?_⟩
 try simp only[*,go_sem,seval]
 replace h:=Zr h d
 cases h
 try simp only[*,go_sem,seval]
 refine ⟨_,[],[],(A3 h).symm,yF,?_⟩
 iterate 2 ((try simp only[*,go_sem,seval]);replace h:=Zr h d;cases h)
 try simp only[*,go_sem,seval]
 rintro ⟨⟩ ⟨_,_,_⟩ e _ h
 simp only[go_sem,seval,Zb] at e
 obtain ⟨⟨_,_⟩,hn⟩:=e
 subst hn
 have:=ZB (b_0.length)
 cases h
 try simp only[*,go_sem,seval]
theorem Zdu {b_0:(List Zi)} {term_1:ByteArray} {r:(ByteArray × Bool)} (h:Zbj b_0 term_1=some r):Zm prog J0 203 [(false,[.sl 162 2 (A0 ZR b_0)]),(false,[.str term_1])] [(false,[(false,.str r.1)]),(false,[(false,.bool r.2)])]:=by
 refine fnk func203 rfl ?_
 unfold Zbj at h
 have e:ZbS ⟨#[]⟩=true:=by decide
 simp only[fnS,f203,Zo,go_sem,seval,e]
 obtain ⟨_,f,h⟩:=Za h
 refine Zd (QA f) ?_
 try simp only[*,go_sem,seval]
 refine yB h (fun _ h=>?_) fun _ h=>?_
 cases h
 try simp only[*,go_sem,seval]
 refine Zh h (fun i _ st=>IV [(0,yM (yX b_0)),(1,yM (.str term_1)),(6,yL i)] [] st) [] [] yF yD ?_ ?_
 rintro _ _ ⟨⟩ ⟨_,_,_⟩ _ a b g h k
 simp only[go_sem,seval,Zb] at b
 obtain ⟨⟨l,_,_⟩,hn⟩:=b
 subst hn
 have m:=WF.slotL g l (j:=0) rfl
 have:=ZC a
 have:=ZE a
 have:=Zk (ZD a) m
 try simp only[*,go_sem,seval]
 refine yB h (fun _ h=>?_) fun _ h=>?_
 obtain ⟨_,o,h⟩:=Za h
 refine Zd (Zah o) ?_
 try simp only[*,go_sem,seval]
 refine yB h (fun _ h=>?_) fun _ h=>?_
 replace h:=Zr h k
 cases h
 try simp only[*,go_sem,seval]
 refine ⟨_,[],[],(A3 h).symm,yF,?_⟩
 try simp only[*,go_sem,seval]
 refine ⟨_,[],[],(A3 h).symm,yF,?_⟩
 try simp only[*,go_sem,seval]
 rintro ⟨⟩ ⟨_,_,_⟩ d _ h
 simp only[go_sem,seval,Zb] at d
 obtain ⟨⟨_,_,_⟩,hn⟩:=d
 subst hn
 have:=ZB (b_0.length)
 cases h
 try simp only[*,go_sem,seval]
theorem ZrY {t_0:Zq} {r:Zq} (h:ZgP t_0=some r):Zm prog J0 244 [(true,YU t_0)] [(true,[(false,.sl 53 2 (A0 Zs r.facts)),(false,.sl 162 2 (A0 ZR r.binding))])]:=by
 refine fnk func244 rfl ?_
 unfold ZgP at h
 simp only[fnS,f244,Zo,go_sem,seval]
 obtain ⟨_,a,h⟩:=Za h
 refine Zd (Zfo a) ?_
 try simp only[*,go_sem,seval]
 obtain ⟨_,b,h⟩:=Za h
 refine Zd (ZeN b) ?_
 cases h
 try simp only[*,go_sem,seval]
end
section
theorem ZbH {append_0:Zx} {String_1:Zc} {a_2:(List Zi)} {r:((List Zi) × Bool)} (h:QF append_0 String_1 a_2=some r):Zm prog J0 86 [(true,Qp append_0),(true,Zs String_1),(false,[.sl 162 2 (A0 ZR a_2)])] [(false,[(false,.sl 162 2 (A0 ZR r.1))]),(false,[(false,.bool r.2)])]:=by
 refine fnk func86 rfl ?_
 unfold QF at h
 simp only[fnS,f86,Zo,go_sem,seval]
 obtain ⟨_,g,h⟩:=Za h
 refine Zd (Ql g) ?_
 try simp only[*,go_sem,seval]
 refine yB h (fun _ h=>?_) fun _ h=>?_
 obtain ⟨_,k,h⟩:=Za h
 refine Zd (Zlb k) ?_
 try simp only[*,go_sem,seval]
 refine yB h (fun _ h=>?_) fun _ h=>?_
 obtain ⟨_,l,h⟩:=Za h
 refine Zd (Zas l) ?_
 try simp only[*,go_sem,seval]
 iterate 3 refine yB h (fun _ h=>?_) fun _ h=>?_
 cases h
 try simp only[*,go_sem,seval]
 obtain ⟨_,m,h⟩:=Za h
 refine Zd (Zhq m) ?_
 try simp only[*,go_sem,seval]
 refine Zh h (fun i a st=>IV [(4,.bp 0 0),(8,.p false [.row 1]),(45,yM (yU append_0.args)),(46,yL append_0.args.length),(47,yL i)] [zC 53 (Zs String_1),.row 162 2 (A0 ZR a) 2] st) [] [16,544] yF yD ?_ ?_
 rintro _ _ a ⟨_,_,_⟩ _ b d o h e
 simp only[go_sem,seval,Zb] at d
 obtain ⟨⟨_,_,q,_,_⟩,_,_,hn⟩:=d
 subst hn
 have t:=WF.slotL o q (j:=0) rfl
 have:=ZC b
 have:=ZE b
 have:=Zk (ZD b) t
 try simp only[*,go_sem,seval]
 obtain ⟨_,u,h⟩:=Za h
 refine Zd (QG u) ?_
 try simp only[*,go_sem,seval]
 refine yB h (fun _ h=>?_) fun _ h=>?_
 obtain ⟨_,_,_,v,h⟩:=ZcM h
 simp only[A9] at v
 try simp only[*,go_sem,seval]
 refine yB h (fun _ h=>?_) fun _ h=>?_
 refine ⟨_,[],[0,1],(A3 h).symm,yF,?_⟩
 try simp only[*,go_sem,seval]
 replace h:=Zr h e
 cases h
 try simp only[*,go_sem,seval]
 obtain ⟨_,_,_,w,h⟩:=ZcM h
 simp only[A9] at w
 try simp only[*,go_sem,seval]
 obtain ⟨_,x,h⟩:=Za h
 refine Zd (ZrV x) ?_
 try simp only[*,go_sem,seval]
 refine yB h (fun _ h=>?_) fun _ h=>?_
 refine ⟨_,[],[0,242],(A3 h).symm,yF,?_⟩
 try simp only[*,go_sem,seval]
 replace h:=Zr h e
 cases h
 try simp only[*,go_sem,seval]
 rintro a ⟨_,_,_⟩ f _ h
 simp only[go_sem,seval,Zb] at f
 obtain ⟨⟨_,_,_,_,_⟩,_,_,hn⟩:=f
 subst hn
 have:=ZB (append_0.args.length)
 iterate 5 (cases h;try simp only[*,go_sem,seval])
theorem ZhF {x_0:Zl} {r:Bool} (h:Zeh x_0=some r):Zm prog J0 149 [(true,ZJ x_0)] [(false,[(false,.bool r)])]:=by
 refine fnk func149 rfl ?_
 unfold Zeh at h
 have a:ZbS ⟨#[]⟩=true:=by decide
 simp only[fnS,f149,Zo,go_sem,seval,a]
 refine yB h (fun _ h=>?_) fun _ h=>?_
 obtain ⟨_,b,h⟩:=Za h
 refine Zd (Ql b) ?_
 try simp only[*,go_sem,seval]
 iterate 2 refine yB h (fun _ h=>?_) fun _ h=>?_
 iterate 3 (cases h;try simp only[*,go_sem,seval])
 refine yB h (fun _ h=>?_) fun _ h=>?_
 obtain ⟨_,c,h⟩:=Za h
 refine Zd (Ql c) ?_
 try simp only[*,go_sem,seval]
 iterate 2 refine yB h (fun _ h=>?_) fun _ h=>?_
 iterate 3 (cases h;try simp only[*,go_sem,seval])
 refine yB h (fun _ h=>?_) fun _ h=>?_
 obtain ⟨_,d,h⟩:=Za h
 refine Zd (Zap d) ?_
 try simp only[*,go_sem,seval]
 refine yB h (fun _ h=>?_) fun _ h=>?_
 obtain ⟨_,e,h⟩:=Za h
 refine Zd (Zap e) ?_
 try simp only[*,go_sem,seval]
 refine yB h (fun _ h=>?_) fun _ h=>?_
 obtain ⟨_,f,h⟩:=Za h
 refine Zd (ZaA f) ?_
 iterate 3 (cases h;try simp only[*,go_sem,seval])
 refine yB h (fun _ h=>?_) fun _ h=>?_
 obtain ⟨_,g,h⟩:=Za h
 refine Zd (Zap g) ?_
 try simp only[*,go_sem,seval]
 refine yB h (fun _ h=>?_) fun _ h=>?_
 obtain ⟨_,i,h⟩:=Za h
 refine Zd (Zap i) ?_
 try simp only[*,go_sem,seval]
 refine yB h (fun _ h=>?_) fun _ h=>?_
 obtain ⟨_,j,h⟩:=Za h
 refine Zd (ZaA j) ?_
 iterate 3 (cases h;try simp only[*,go_sem,seval])
 refine yB h (fun _ h=>?_) fun _ h=>?_
 obtain ⟨_,k,h⟩:=Za h
 refine Zd (Zap k) ?_
 try simp only[*,go_sem,seval]
 refine yB h (fun _ h=>?_) fun _ h=>?_
 obtain ⟨_,l,h⟩:=Za h
 refine Zd (Zap l) ?_
 try simp only[*,go_sem,seval]
 refine yB h (fun _ h=>?_) fun _ h=>?_
 obtain ⟨_,m,h⟩:=Za h
 refine Zd (ZaA m) ?_
 iterate 4 (cases h;try simp only[*,go_sem,seval])
theorem Zfi {p_0:Zx} {b_1:(List Zi)} {r:(Zc × Bool)} (h:QL p_0 b_1=some r):Zm prog J0 171 [(true,Qp p_0),(false,[.sl 162 2 (A0 ZR b_1)])] [(true,[(false,.str r.1.rel),(false,.sl 9 1 (A0 ZA r.1.args))]),(false,[(false,.bool r.2)])]:=by
 refine fnk func171 rfl ?_
 unfold QL at h
 simp only[fnS,f171,Zo,go_sem,seval]
 obtain ⟨_,f,h⟩:=Za h
 refine Zd (Ql f) ?_
 try simp only[*,go_sem,seval]
 refine yB h (fun _ h=>?_) fun _ h=>?_
 obtain ⟨_,g,h⟩:=Za h
 refine Zd (Zas g) ?_
 try simp only[*,go_sem,seval]
 refine yB h (fun _ h=>?_) fun _ h=>?_
 refine Zh h (fun i a st=>IV [(1,yM (yX b_1)),(4,.bp 0 0),(6,.bp 1 0),(24,yM (yU p_0.args)),(25,yL p_0.args.length),(26,yL i)] [.box 53 [.c (.str ⟨#[]⟩),.nil 9 1],.box 53 [.c (.str p_0.rel),.row 2],.row 9 1 (A0 ZA a) 2] st) [(true,224,1)] [16,224,320] yF yD ?_ ?_
 rintro _ _ a ⟨_,_,_⟩ _ b d k h l
 simp only[go_sem,seval,Zb] at d
 obtain ⟨⟨_,_,_,m,_,_⟩,_,_,_,hn⟩:=d
 subst hn
 have o:=WF.slotL k m (j:=0) rfl
 have:=ZC b
 have:=ZE b
 have:=Zk (ZD b) o
 try simp only[*,go_sem,seval]
 obtain ⟨_,q,h⟩:=Za h
 refine Zd (Zdw q) ?_
 try simp only[*,go_sem,seval]
 refine yB h (fun _ h=>?_) fun _ h=>?_
 obtain ⟨t,h⟩:=Zv h
 try simp only[Nat.reduceLeDiff] at t
 try simp only[*,go_sem,seval]
 refine ⟨_,[],[0,1,291],(A3 h).symm,yF,?_⟩
 try simp only[*,go_sem,seval]
 replace h:=Zr h l
 cases h
 try simp only[*,go_sem,seval]
 rintro a ⟨_,_,_⟩ e _ h
 simp only[go_sem,seval,Zb] at e
 obtain ⟨⟨_,_,_,_,_,_⟩,_,_,_,hn⟩:=e
 subst hn
 have:=ZB (p_0.args.length)
 iterate 3 (cases h;try simp only[*,go_sem,seval])
theorem ZqA {a:(List Zc)} {f_1:Zc} {r:(List Zc)} (h:Qv a f_1=some r):Zm prog J0 113 [(false,[.sl 53 2 (A0 Zs a)]),(true,Zs f_1)] [(false,[(false,.sl 53 2 (A0 Zs r))])]:=by
 refine fnk func113 rfl ?_
 unfold Qv at h
 simp only[fnS,f113,Zo,go_sem,seval]
 refine Zh h (fun i s st=>match s with | (b,d)=>IV [(3,.bp 0 0),(5,.p false [.row 1]),(6,yM (.bool d)),(9,yM (yT a)),(10,yL a.length),(11,yL i)] [zC 53 (Zs f_1),.row 53 2 (A0 Zs b) 2] st) [(false,5,0)] [0,112] yF yD ?_ ?_
 rintro _ _ ⟨b,d⟩ ⟨_,_,_⟩ _ e f l h _
 simp only[go_sem,seval,Zb] at f
 obtain ⟨⟨_,_,_,m,_,_⟩,_,_,hn⟩:=f
 subst hn
 have o:=WF.slotL l m (j:=0) rfl
 have:=ZC e
 have:=ZE e
 have:=Zk (ZD e) o
 try simp only[*,go_sem,seval]
 refine yB h (fun _ h=>?_) fun _ h=>?_
 obtain ⟨_,q,h⟩:=Za h
 refine Zd (YO q) ?_
 obtain ⟨t,h⟩:=Zv h
 try simp only[Nat.reduceLeDiff] at t
 try simp only[*,go_sem,seval]
 refine ⟨_,[],[0,274],(A3 h).symm,yF,?_⟩
 try simp only[*,go_sem,seval]
 obtain ⟨_,u,h⟩:=Za h
 refine Zd (ZeY u) ?_
 try simp only[*,go_sem,seval]
 refine yB h (fun _ h=>?_) fun _ h=>?_
 obtain ⟨_,v,h⟩:=Za h
 refine Zd (YO v) ?_
 obtain ⟨w,h⟩:=Zv h
 try simp only[Nat.reduceLeDiff] at w
 try simp only[*,go_sem,seval]
 obtain ⟨_,x,h⟩:=Za h
 refine Zd (YO x) ?_
 obtain ⟨y,h⟩:=Zv h
 try simp only[Nat.reduceLeDiff] at y
 try simp only[*,go_sem,seval]
 refine ⟨_,[],[0,386],(A3 h).symm,yF,?_⟩
 try simp only[*,go_sem,seval]
 obtain ⟨_,z,h⟩:=Za h
 refine Zd (YO z) ?_
 obtain ⟨A,h⟩:=Zv h
 try simp only[Nat.reduceLeDiff] at A
 try simp only[*,go_sem,seval]
 refine ⟨_,[],[0,274],(A3 h).symm,yF,?_⟩
 try simp only[*,go_sem,seval]
 rintro ⟨b,d⟩ ⟨_,_,_⟩ g _ h
 simp only[go_sem,seval,Zb] at g
 obtain ⟨⟨_,_,_,_,_,_⟩,_,_,hn⟩:=g
 subst hn
 have:=ZB (a.length)
 try simp only[*,go_sem,seval]
 refine yB h (fun _ h=>?_) fun _ h=>?_
 cases h
 try simp only[*,go_sem,seval]
 obtain ⟨_,B,h⟩:=Za h
 refine Zd (YO B) ?_
 obtain ⟨C,h⟩:=Zv h
 try simp only[Nat.reduceLeDiff] at C
 cases h
 try simp only[*,go_sem,seval]
theorem Zhl {r_0:Zg} {k_1:Int} {v_2:ByteArray} {r:Bool} (h:XT r_0 k_1 v_2=some r):Zm prog J0 247 [(true,ZL r_0),(false,[.int .i64 k_1]),(false,[.str v_2])] [(false,[(false,.bool r)])]:=by
 refine fnk func247 rfl ?_
 unfold XT at h
 simp only[fnS,f247,Zo,go_sem,seval]
 refine Zh h (fun i _ st=>IV [(1,yM (.int .i64 k_1)),(2,yM (.str v_2)),(3,.bp 0 0),(12,yM (yW r_0.cond)),(13,yL r_0.cond.length),(14,yL i)] [zC 76 (ZL r_0)] st) [] [0] yF yD ?_ ?_
 rintro _ _ ⟨⟩ ⟨_,_,_⟩ _ a d k h l
 simp only[go_sem,seval,Zb] at d
 obtain ⟨⟨_,_,_,m,_,_⟩,_,hn⟩:=d
 subst hn
 have o:=WF.slotL k m (j:=0) rfl
 have:=ZC a
 have:=ZE a
 have:=Zk (ZD a) o
 try simp only[*,go_sem,seval]
 refine yB h (fun _ h=>?_) fun _ h=>?_
 obtain ⟨_,q,h⟩:=Za h
 refine Zd (ZcA q) ?_
 try simp only[*,go_sem,seval]
 obtain ⟨_,t,h⟩:=Za h
 refine Zd (ZaB t) ?_
 try simp only[*,go_sem,seval]
 refine yB h (fun _ h=>?_) fun _ h=>?_
 replace h:=Zr h l
 cases h
 try simp only[*,go_sem,seval]
 refine ⟨_,[],[0],(A3 h).symm,yF,?_⟩
 try simp only[*,go_sem,seval]
 refine ⟨_,[],[0],(A3 h).symm,yF,?_⟩
 try simp only[*,go_sem,seval]
 rintro ⟨⟩ ⟨_,_,_⟩ e _ h
 simp only[go_sem,seval,Zb] at e
 obtain ⟨⟨_,_,_,_,_,_⟩,_,hn⟩:=e
 subst hn
 have:=ZB (r_0.cond.length)
 try simp only[*,go_sem,seval]
 refine Zh h (fun i _ st=>IV [(2,yM (.str v_2)),(30,yM (yZ r_0.thn)),(31,yL r_0.thn.length),(32,yL i)] [] st) [] [] yF yD ?_ ?_
 rintro _ _ ⟨⟩ ⟨_,_,_⟩ _ b f u h v
 simp only[go_sem,seval,Zb] at f
 obtain ⟨⟨_,w,_,_⟩,hn⟩:=f
 subst hn
 have x:=WF.slotL u w (j:=0) rfl
 have:=ZC b
 have:=ZE b
 have:=Zk (ZD b) x
 try simp only[*,go_sem,seval]
 obtain ⟨_,y,h⟩:=Za h
 refine Zd (ZaB y) ?_
 try simp only[*,go_sem,seval]
 refine yB h (fun _ h=>?_) fun _ h=>?_
 replace h:=Zr h v
 cases h
 try simp only[*,go_sem,seval]
 refine ⟨_,[],[],(A3 h).symm,yF,?_⟩
 try simp only[*,go_sem,seval]
 rintro ⟨⟩ ⟨_,_,_⟩ g _ h
 simp only[go_sem,seval,Zb] at g
 obtain ⟨⟨_,_,_,_⟩,hn⟩:=g
 subst hn
 have:=ZB (r_0.thn.length)
 cases h
 try simp only[*,go_sem,seval]
theorem Zou {a_0:Zu} {r:Bool} (h:ZeA a_0=some r):Zm prog J0 193 [(true,ZI a_0)] [(false,[(false,.bool r)])]:=by
 refine fnk func193 rfl ?_
 unfold ZeA at h
 simp only[fnS,f193,Zo,go_sem,seval]
 refine yB h (fun _ h=>?_) fun _ h=>?_
 obtain ⟨_,a,h⟩:=Za h
 refine Zd (Ql a) ?_
 cases h
 try simp only[*,go_sem,seval]
 refine yB h (fun _ h=>?_) fun _ h=>?_
 obtain ⟨_,b,h⟩:=Za h
 refine Zd (Ql b) ?_
 cases h
 try simp only[*,go_sem,seval]
 refine yB h (fun _ h=>?_) fun _ h=>?_
 obtain ⟨_,c,h⟩:=Za h
 refine Zd (ZaA c) ?_
 iterate 2 (cases h;try simp only[*,go_sem,seval])
theorem ZlB {l_0:(List Zl)} {r:(List ByteArray)} (h:ZbK l_0=some r):Zm prog J0 197 [(false,[.sl 80 5 (A0 ZJ l_0)])] [(false,[(false,.sl 9 1 (A0 ZA r))])]:=by
 refine fnk func197 rfl ?_
 unfold ZbK at h
 simp only[fnS,f197,Zo,go_sem,seval]
 refine Zh h (fun i a st=>IV [(3,.p false [.row 0]),(6,yM (yW l_0)),(7,yL l_0.length),(8,yL i)] [.row 9 1 (A0 ZA a) 2] st) [(false,3,0)] [80] yF yD ?_ ?_
 rintro _ _ a ⟨_,_,_⟩ _ b d f h _
 simp only[go_sem,seval,Zb] at d
 obtain ⟨⟨_,g,_,_⟩,_,hn⟩:=d
 subst hn
 have k:=WF.slotL f g (j:=0) rfl
 have:=ZC b
 have:=ZE b
 have:=Zk (ZD b) k
 try simp only[*,go_sem,seval]
 obtain ⟨_,l,h⟩:=Za h
 refine Zd (ZcA l) ?_
 obtain ⟨m,h⟩:=Zv h
 try simp only[Nat.reduceLeDiff] at m
 try simp only[*,go_sem,seval]
 refine ⟨_,[],[129],(A3 h).symm,yF,?_⟩
 try simp only[*,go_sem,seval]
 rintro a ⟨_,_,_⟩ e _ h
 simp only[go_sem,seval,Zb] at e
 obtain ⟨⟨_,_,_,_⟩,_,hn⟩:=e
 subst hn
 have:=ZB (l_0.length)
 cases h
 try simp only[*,go_sem,seval]
theorem Zom {l_0:(List Zc)} {r:Bool} (h:Zei l_0=some r):Zm prog J0 256 [(false,[.sl 53 2 (A0 Zs l_0)])] [(false,[(false,.bool r)])]:=by
 refine fnk func256 rfl ?_
 unfold Zei at h
 simp only[fnS,f256,Zo,go_sem,seval]
 refine yB h (fun _ h=>?_) fun _ h=>?_
 cases h
 try simp only[*,go_sem,seval]
 refine Zh h (fun i _ st=>IV [(0,yM (yT l_0)),(8,yM (yT l_0)),(9,yL l_0.length),(10,yL i)] [] st) [] [] yF yD ?_ ?_
 rintro _ _ ⟨⟩ ⟨_,_,_⟩ _ a b f h d
 simp only[go_sem,seval,Zb] at b
 obtain ⟨⟨g,_,_,_⟩,hn⟩:=b
 subst hn
 have k:=WF.slotL f g (j:=0) rfl
 have:=ZC a
 have:=ZE a
 have:=Zk (ZD a) k
 try simp only[*,go_sem,seval]
 obtain ⟨_,l,h⟩:=Za h
 refine Zd (Zlb l) ?_
 try simp only[*,go_sem,seval]
 iterate 2 refine yB h (fun _ h=>?_) fun _ h=>?_
 obtain ⟨_,_,_,_,h⟩:=ZcM h
 try simp only[*,go_sem,seval]
 obtain ⟨_,m,h⟩:=Za h
 refine Zd (ZeY m) ?_
 try simp only[*,go_sem,seval]
 refine yB h (fun _ h=>?_) fun _ h=>?_
 replace h:=Zr h d
 cases h
 try simp only[*,go_sem,seval]
 refine ⟨_,[],[],(A3 h).symm,yF,?_⟩
 try simp only[*,go_sem,seval]
 refine ⟨_,[],[],(A3 h).symm,yF,?_⟩
 try simp only[*,go_sem,seval]
 replace h:=Zr h d
 cases h
 try simp only[*,go_sem,seval]
 rintro ⟨⟩ ⟨_,_,_⟩ e _ h
 simp only[go_sem,seval,Zb] at e
 obtain ⟨⟨_,_,_,_⟩,hn⟩:=e
 subst hn
 have:=ZB (l_0.length)
 cases h
 try simp only[*,go_sem,seval]
theorem Qk {p_0:Zx} {r:Bool} (h:Xq p_0=some r):Zm prog J0 137 [(true,Qp p_0)] [(false,[(false,.bool r)])]:=by
 refine fnk func137 rfl ?_
 unfold Xq at h
 simp only[fnS,f137,Zo,go_sem,seval]
 refine Zh h (fun i _ st=>IV [(1,.bp 0 0),(3,yL i)] [.box 78 [.c (.str p_0.rel),.c (yU p_0.args)]] st) [] [0] yF yD ?_ ?_
 rintro _ _ ⟨⟩ ⟨_,_,_⟩ _ a b e h f
 simp only[go_sem,seval,Zb] at b
 obtain ⟨⟨_,_⟩,g,hn⟩:=b
 subst hn
 have k:=WF.boxL e g (j:=1) rfl
 have:=ZC a
 have:=ZE a
 have:=Zk (ZD a) k
 try simp only[*,go_sem,seval]
 obtain ⟨_,l,h⟩:=Za h
 refine Zd (Zar l) ?_
 try simp only[*,go_sem,seval]
 refine yB h (fun _ h=>?_) fun _ h=>?_
 refine ⟨_,[],[0],(A3 h).symm,yF,?_⟩
 try simp only[*,go_sem,seval]
 replace h:=Zr h f
 cases h
 try simp only[*,go_sem,seval]
 rintro ⟨⟩ ⟨_,_,_⟩ d _ h
 simp only[go_sem,seval,Zb] at d
 obtain ⟨⟨_,_⟩,_,hn⟩:=d
 subst hn
 have:=ZB (p_0.args.length)
 try simp only[*,go_sem,seval]
 obtain ⟨_,m,h⟩:=Za h
 refine Zd (Zg3 m) ?_
 try simp only[*,go_sem,seval]
 refine yB h (fun _ h=>?_) fun _ h=>?_
 iterate 2 (cases h;try simp only[*,go_sem,seval])
theorem ZbG {r_0:Zg} {n_1:Int} {r:(List ByteArray)} (h:QH r_0 n_1=some r):Zm prog J0 179 [(true,ZL r_0),(false,[.int .i64 n_1])] [(false,[(false,.sl 9 1 (A0 ZA r))])]:=by
 refine fnk func179 rfl ?_
 unfold QH at h
 simp only[fnS,f179,Zo,go_sem,seval]
 refine Zh h (fun i a st=>IV [(1,yM (.int .i64 n_1)),(2,.bp 0 0),(5,.p false [.row 1]),(6,yL i)] [zC 76 (ZL r_0),.row 9 1 (A0 ZA a) 2] st) [] [0,32] yF yD ?_ ?_
 rintro b _ a ⟨_,_,_⟩ _ d g q h t
 simp only[go_sem,seval,Zb] at g
 obtain ⟨⟨_,_,_,_⟩,u,_,hn⟩:=g
 subst hn
 have v:=WF.boxL q u (j:=2) rfl
 have:=ZC d
 have:=ZE d
 have:=Zk (ZD d) v
 try simp only[*,go_sem,seval]
 iterate 2 refine yB h (fun _ h=>?_) fun _ h=>?_
 obtain ⟨k,w,h⟩:=Za h
 refine Zd (Zc6 w) ?_
 try simp only[*,go_sem,seval]
 refine Zh h (fun i e st=>IV [(1,yM (.int .i64 n_1)),(2,.bp 0 0),(5,.p false [.row 1]),(6,yL b),(7,.p false [.row 2]),(8,yL i),(16,yL b),(17,yM (.int .i64 n_1)),(18,yM (.bool (decide (((b:Nat):Int)<n_1))))] [zC 76 (ZL r_0),.row 9 1 (A0 ZA e) 2,.row 9 1 (A0 ZA k) 2] st) [] [0,1,370] yF yD ?_ ?_
 rintro _ _ e ⟨_,_,_⟩ _ f l x h _
 simp only[go_sem,seval,Zb] at l
 obtain ⟨⟨_,_,_,_,_,_,_,_,_⟩,_,_,y,hn⟩:=l
 subst hn
 have z:=WF.rowL x y
 have:=ZC f
 have:=ZE f
 have:=Zk (ZD f) z
 try simp only[*,go_sem,seval]
 obtain ⟨_,A,h⟩:=Za h
 refine Zd (XF A) ?_
 try simp only[*,go_sem,seval]
 refine ⟨_,[],[0,147,2],(A3 h).symm,yF,?_⟩
 try simp only[*,go_sem,seval]
 rintro e ⟨_,_,_⟩ m _ h
 simp only[go_sem,seval,Zb] at m
 obtain ⟨⟨_,_,_,_,_,_,_,_,_⟩,_,_,_,hn⟩:=m
 subst hn
 have:=ZB (k.length)
 try simp only[*,go_sem,seval]
 refine ⟨_,[],[0,1],(A3 h).symm,yF,?_⟩
 try simp only[*,go_sem,seval]
 refine ⟨_,[],[0,1],(A3 h).symm,yF,?_⟩
 try simp only[*,go_sem,seval]
 replace h:=Zr h t
 cases h
 try simp only[*,go_sem,seval]
 rintro a ⟨_,_,_⟩ o _ h
 simp only[go_sem,seval,Zb] at o
 obtain ⟨⟨_,_,_,_⟩,_,_,hn⟩:=o
 subst hn
 have:=ZB (r_0.cond.length)
 cases h
 try simp only[*,go_sem,seval]
theorem ZaP {x_0:Zl} {r:(List ByteArray)} (h:X3 x_0=some r):Zm prog J0 180 [(true,ZJ x_0)] [(false,[(false,.sl 9 1 (A0 ZA r))])]:=by
 refine fnk func180 rfl ?_
 unfold X3 at h
 simp only[fnS,f180,Zo,go_sem,seval]
 obtain ⟨_,a,h⟩:=Za h
 refine Zd (Zc6 a) ?_
 try simp only[*,go_sem,seval]
 obtain ⟨_,b,h⟩:=Za h
 refine Zd (Zah b) ?_
 try simp only[*,go_sem,seval]
 refine yB h (fun _ h=>?_) fun _ h=>?_
 obtain ⟨_,c,h⟩:=Za h
 refine Zd (XF c) ?_
 try simp only[*,go_sem,seval]
 obtain ⟨_,d,h⟩:=Za h
 refine Zd (Zah d) ?_
 try simp only[*,go_sem,seval]
 refine yB h (fun _ h=>?_) fun _ h=>?_
 obtain ⟨_,e,h⟩:=Za h
 refine Zd (XF e) ?_
 iterate 2 (cases h;try simp only[*,go_sem,seval])
 obtain ⟨_,f,h⟩:=Za h
 refine Zd (Zah f) ?_
 try simp only[*,go_sem,seval]
 refine yB h (fun _ h=>?_) fun _ h=>?_
 obtain ⟨_,g,h⟩:=Za h
 refine Zd (XF g) ?_
 iterate 2 (cases h;try simp only[*,go_sem,seval])
end
section
theorem Zqg {r_0:Zg} {r:(List ByteArray)} (h:Zct r_0=some r):Zm prog J0 307 [(true,ZL r_0)] [(false,[(false,.sl 9 1 (A0 ZA r))])]:=by
 refine fnk func307 rfl ?_
 unfold Zct at h
 simp only[fnS,f307,Zo,go_sem,seval]
 refine Zh h (fun i a st=>IV [(1,.bp 0 0),(3,.p false [.row 1]),(4,yL i)] [zC 76 (ZL r_0),.row 9 1 (A0 ZA a) 2] st) [] [0,32] yF yD ?_ ?_
 rintro _ _ a ⟨_,_,_⟩ _ b d f h _
 simp only[go_sem,seval,Zb] at d
 obtain ⟨⟨_,_,_⟩,g,_,hn⟩:=d
 subst hn
 have k:=WF.boxL f g (j:=2) rfl
 have:=ZC b
 have:=ZE b
 have:=Zk (ZD b) k
 try simp only[*,go_sem,seval]
 refine yB h (fun _ h=>?_) fun _ h=>?_
 obtain ⟨_,l,h⟩:=Za h
 refine Zd (XF l) ?_
 try simp only[*,go_sem,seval]
 refine ⟨_,[],[0,466],(A3 h).symm,yF,?_⟩
 try simp only[*,go_sem,seval]
 refine yB h (fun _ h=>?_) fun _ h=>?_
 obtain ⟨_,m,h⟩:=Za h
 refine Zd (XF m) ?_
 try simp only[*,go_sem,seval]
 refine ⟨_,[],[0,466],(A3 h).symm,yF,?_⟩
 try simp only[*,go_sem,seval]
 refine ⟨_,[],[0,1],(A3 h).symm,yF,?_⟩
 try simp only[*,go_sem,seval]
 rintro a ⟨_,_,_⟩ e _ h
 simp only[go_sem,seval,Zb] at e
 obtain ⟨⟨_,_,_⟩,_,_,hn⟩:=e
 subst hn
 have:=ZB (r_0.cond.length)
 cases h
 try simp only[*,go_sem,seval]
theorem ZrW {a_0:Zc} {b_1:Zc} {r:Bool} (h:Zm2 a_0 b_1=some r):Zm prog J0 136 [(true,Zs a_0),(true,Zs b_1)] [(false,[(false,.bool r)])]:=by
 refine fnk func136 rfl ?_
 unfold Zm2 at h
 simp only[fnS,f136,Zo,go_sem,seval]
 refine yB h (fun _ h=>?_) fun _ h=>?_
 obtain ⟨_,a,h⟩:=Za h
 refine Zd (Zks a) ?_
 iterate 2 (cases h;try simp only[*,go_sem,seval])
theorem ZqY {l_0:(List Zf)} {r_1:Zf} {r:Int} (h:Zfz l_0 r_1=some r):Zm prog J0 212 [(false,[.sl 179 3 (A0 ZG l_0)]),(true,ZG r_1)] [(false,[(false,.int .i64 r)])]:=by
 refine fnk func212 rfl ?_
 unfold Zfz at h
 simp only[fnS,f212,Zo,go_sem,seval]
 refine Zh h (fun i _ st=>IV [(0,yM (zA l_0)),(3,.bp 0 0),(5,yL i)] [zC 179 (ZG r_1)] st) [] [0] yF yD ?_ ?_
 rintro _ _ ⟨⟩ ⟨_,_,_⟩ _ a b e h f
 simp only[go_sem,seval,Zb] at b
 obtain ⟨⟨g,_,_⟩,_,hn⟩:=b
 subst hn
 have k:=WF.slotL e g (j:=0) rfl
 have:=ZC a
 have:=ZE a
 have:=Zk (ZD a) k
 try simp only[*,go_sem,seval]
 refine yB h (fun _ h=>?_) fun _ h=>?_
 obtain ⟨_,l,h⟩:=Za h
 refine Zd (Zgz l) ?_
 try simp only[*,go_sem,seval]
 refine yB h (fun _ h=>?_) fun _ h=>?_
 obtain ⟨_,m,h⟩:=Za h
 refine Zd (Zgz m) ?_
 try simp only[*,go_sem,seval]
 refine yB h (fun _ h=>?_) fun _ h=>?_
 replace h:=Zr h f
 cases h
 try simp only[*,go_sem,seval]
 refine ⟨_,[],[0],(A3 h).symm,yF,?_⟩
 try simp only[*,go_sem,seval]
 refine ⟨_,[],[0],(A3 h).symm,yF,?_⟩
 try simp only[*,go_sem,seval]
 refine ⟨_,[],[0],(A3 h).symm,yF,?_⟩
 try simp only[*,go_sem,seval]
 rintro ⟨⟩ ⟨_,_,_⟩ d _ h
 simp only[go_sem,seval,Zb] at d
 obtain ⟨⟨_,_,_⟩,_,hn⟩:=d
 subst hn
 have:=ZB (l_0.length)
 cases h
 try simp only[*,go_sem,seval]
theorem ZjJ {l_0:(List Int)} {n_1:Int} {r:Bool} (h:Zci l_0 n_1=some r):Zm prog J0 331 [(false,[.sl 3 1 (A0 ZO l_0)]),(false,[.int .i64 n_1])] [(false,[(false,.bool r)])]:=by
 refine fnk func331 rfl ?_
 unfold Zci at h
 simp only[fnS,f331,Zo,go_sem,seval]
 refine Zh h (fun i _ st=>IV [(0,yM (yV l_0)),(1,yM (.int .i64 n_1)),(5,yL i)] [] st) [] [] yF yD ?_ ?_
 rintro _ _ ⟨⟩ ⟨_,_,_⟩ _ a b f h d
 simp only[go_sem,seval,Zb] at b
 obtain ⟨⟨g,_,_⟩,hn⟩:=b
 subst hn
 have k:=WF.slotL f g (j:=0) rfl
 have:=ZC a
 have:=ZE a
 have:=Zk (ZD a) k
 try simp only[*,go_sem,seval]
 obtain ⟨_,l,h⟩:=Za h
 refine Zd (XM l) ?_
 try simp only[*,go_sem,seval]
 iterate 2 refine yB h (fun _ h=>?_) fun _ h=>?_
 obtain ⟨_,_,_,_,h⟩:=ZcM h
 try simp only[*,go_sem,seval]
 refine yB h (fun _ h=>?_) fun _ h=>?_
 replace h:=Zr h d
 cases h
 try simp only[*,go_sem,seval]
 refine ⟨_,[],[],(A3 h).symm,yF,?_⟩
 try simp only[*,go_sem,seval]
 refine ⟨_,[],[],(A3 h).symm,yF,?_⟩
 try simp only[*,go_sem,seval]
 replace h:=Zr h d
 cases h
 try simp only[*,go_sem,seval]
 rintro ⟨⟩ ⟨_,_,_⟩ e _ h
 simp only[go_sem,seval,Zb] at e
 obtain ⟨⟨_,_,_⟩,hn⟩:=e
 subst hn
 have:=ZB (l_0.length)
 cases h
 try simp only[*,go_sem,seval]
theorem Zos {a:Zt} {String_1:Int} {r:(List Bool)} (h:ZdN a String_1=some r):Zm prog J0 309 [(true,Qu a),(false,[.int .i64 String_1])] [(false,[(false,.sl 4 1 (A0 Ze4 r))])]:=by
 refine fnk func309 rfl ?_
 unfold ZdN at h
 simp only[fnS,f309,Zo,go_sem,seval]
 obtain ⟨_,h⟩:=Zv h
 try simp only[*,go_sem,seval]
 refine Xj h (fun s st=>match s with | (l,m,d)=>IV [(2,.bp 0 0),(5,.p false [.row 1]),(6,.p false [.row 2]),(7,yM (.int .i64 d))] [.box 140 [.c (.int .i64 a.nodes),.c (zA a.reasons)],.row 4 1 (A0 Ze4 l) 2,.row 3 1 (A0 ZO m) 2] st) [] [0,64,112] yF yD ?_
 rintro ⟨l,m,d⟩ ⟨_,_,_⟩ _ o _ h z
 simp only[go_sem,seval,Zb] at o
 obtain ⟨⟨_,_,_,_⟩,_,_,_,hn⟩:=o
 subst hn
 try simp only[*,go_sem,seval]
 refine yB h (fun _ h=>?_) fun _ h=>?_
 refine Zh h (fun i s st=>match s with | (e,f)=>IV [(2,.bp 0 0),(5,.p false [.row 1]),(6,.p false [.row 2]),(7,yM (.int .i64 d)),(8,yL i)] [.box 140 [.c (.int .i64 a.nodes),.c (zA a.reasons)],.row 4 1 (A0 Ze4 e) 2,.row 3 1 (A0 ZO f) 2] st) [] [0,1,2] yF yD ?_ ?_
 rintro A q ⟨e,f⟩ ⟨_,_,_⟩ _ g t B h _
 simp only[go_sem,seval,Zb] at t
 obtain ⟨⟨_,_,_,_,_⟩,C,_,_,hn⟩:=t
 subst hn
 have D:=WF.boxL B C (j:=1) rfl
 have:=ZC g
 have:=ZE g
 have:=Zk (ZD g) D
 obtain ⟨_,h⟩:=Zv h
 obtain ⟨_,_,h⟩:=Za h
 try simp only[*,go_sem,seval]
 refine yB h (fun _ h=>?_) fun _ h=>?_
 refine ⟨_,[],[0,1,2],(A3 h).symm,yF,?_⟩
 try simp only[*,go_sem,seval]
 obtain ⟨u,E,h⟩:=Za h
 refine Zd (Zq8 E) ?_
 obtain ⟨F,h⟩:=Zv h
 try simp only[Nat.reduceLeDiff] at F
 try simp only[*,go_sem,seval]
 refine Xj h (fun s st=>match s with | (v,w,k)=>IV [(2,.bp 0 0),(5,.p false [.row 1]),(6,.p false [.row 2]),(7,yM (.int .i64 d)),(8,yL A),(9,.p false [.row 3]),(10,yM (.int .i64 k))] [.box 140 [.c (.int .i64 a.nodes),.c (zA a.reasons)],.row 4 1 (A0 Ze4 v) 2,.row 3 1 (A0 ZO w) 2,.row 3 1 (A0 ZO (u++q.outs)) 2] st) [] [0,1,2,467] yF yD ?_
 rintro ⟨v,w,k⟩ ⟨_,_,_⟩ _ x _ h G
 simp only[go_sem,seval,Zb] at x
 obtain ⟨⟨_,_,_,_,_,_,_⟩,_,_,_,_,hn⟩:=x
 subst hn
 try simp only[*,go_sem,seval]
 refine yB h (fun _ h=>?_) fun _ h=>?_
 obtain ⟨_,h⟩:=Zv h
 obtain ⟨H,I,h⟩:=Za h
 have K:(A0 ZO u++A0 ZO q.outs)[(Int.toNat k)]?=some (ZO H):=by rw [←List.map_append,List.getElem?_map,I];rfl
 obtain ⟨_,h⟩:=Zv h
 obtain ⟨_,_,h⟩:=Za h
 try simp only[*,go_sem,seval]
 refine yB h (fun _ h=>?_) fun _ h=>?_
 refine ⟨_,[],[0,1,2,3],(A3 h).symm,yF,?_⟩
 try simp only[*,go_sem,seval]
 obtain ⟨J,h⟩:=Zv h
 try simp only[Nat.reduceLeDiff] at J
 try simp only[*,go_sem,seval]
 refine ⟨_,[],[0,1,404,3],(A3 h).symm,yF,?_⟩
 try simp only[*,go_sem,seval]
 replace h:=Zr h G
 refine ⟨_,[],[0,1,2],(A3 h).symm,yF,?_⟩
 try simp only[*,go_sem,seval]
 rintro ⟨e,f⟩ ⟨_,_,_⟩ y _ h
 simp only[go_sem,seval,Zb] at y
 obtain ⟨⟨_,_,_,_,_⟩,_,_,_,hn⟩:=y
 subst hn
 have:=ZB (a.reasons.length)
 try simp only[*,go_sem,seval]
 refine ⟨_,[],[0,1,2],(A3 h).symm,yF,?_⟩
 try simp only[*,go_sem,seval]
 replace h:=Zr h z
 cases h
 try simp only[*,go_sem,seval]
theorem ZiI {b:Zt} {e:(List Int)} {f:Int} {d:(List Int)} {g:Int} {r:(List Int)} (h:Zce b e f d g=some r):Zm prog J0 278 [(true,Qu b),(false,[.sl 3 1 (A0 ZO e)]),(false,[.int .i64 f]),(false,[.sl 3 1 (A0 ZO d)]),(false,[.int .i64 g])] [(false,[(false,.sl 3 1 (A0 ZO r))])]:=by
 refine fnk func278 rfl ?_
 unfold Zce at h
 simp only[fnS,f278,Zo,go_sem,seval]
 refine Xj h (fun s st=>match s with | (l,k)=>IV [(1,yM (yV e)),(2,yM (.int .i64 f)),(3,yM (yV d)),(4,yM (.int .i64 g)),(5,.bp 0 0),(11,.p false [.row 1]),(12,yM (.int .i64 k))] [.box 140 [.c (.int .i64 b.nodes),.c (zA b.reasons)],.row 3 1 (A0 ZO l) 2] st) [] [0,32] yF yD ?_
 rintro ⟨l,k⟩ ⟨_,_,_⟩ _ o _ h v
 simp only[go_sem,seval,Zb] at o
 obtain ⟨⟨_,_,_,_,_,_,_⟩,_,_,hn⟩:=o
 subst hn
 try simp only[*,go_sem,seval]
 refine yB h (fun _ h=>?_) fun _ h=>?_
 obtain ⟨_,_,_,_,h⟩:=ZcM h
 try simp only[*,go_sem,seval]
 refine yB h (fun _ h=>?_) fun _ h=>?_
 refine ⟨_,[],[0,1],(A3 h).symm,yF,?_⟩
 try simp only[*,go_sem,seval]
 obtain ⟨q,_,_,_,h⟩:=ZcM h
 try simp only[*,go_sem,seval]
 refine yB h (fun _ h=>?_) fun _ h=>?_
 refine ⟨_,[],[0,1],(A3 h).symm,yF,?_⟩
 try simp only[*,go_sem,seval]
 refine Zh h (fun i _ st=>IV [(1,yM (yV e)),(2,yM (.int .i64 f)),(3,yM (yV d)),(4,yM (.int .i64 g)),(5,.bp 0 0),(11,.p false [.row 1]),(12,yM (.int .i64 k)),(13,yL i),(29,yM (yV d)),(30,yM (.int .i64 k)),(32,yM (.int .i64 q)),(33,yM (.bool (decide (0≤q))))] [.box 140 [.c (.int .i64 b.nodes),.c (zA b.reasons)],.row 3 1 (A0 ZO l) 2] st) [] [0,1] yF yD ?_ ?_
 rintro _ _ ⟨⟩ ⟨_,_,_⟩ _ m t w h x
 simp only[go_sem,seval,Zb] at t
 obtain ⟨⟨_,_,_,_,_,_,_,_,_,_,_,_⟩,y,_,hn⟩:=t
 subst hn
 have z:=WF.boxL w y (j:=1) rfl
 have:=ZC m
 have:=ZE m
 have:=Zk (ZD m) z
 try simp only[*,go_sem,seval]
 refine yB h (fun _ h=>?_) fun _ h=>?_
 obtain ⟨_,A,h⟩:=Za h
 refine Zd (ZmL A) ?_
 try simp only[*,go_sem,seval]
 refine yB h (fun _ h=>?_) fun _ h=>?_
 obtain ⟨_,B,h⟩:=Za h
 refine Zd (Zqc B) ?_
 try simp only[*,go_sem,seval]
 refine yB h (fun _ h=>?_) fun _ h=>?_
 obtain ⟨C,h⟩:=Zv h
 try simp only[Nat.reduceLeDiff] at C
 replace h:=Zr h x
 try simp only[*,go_sem,seval]
 refine ⟨_,[],[0,514],(A3 h).symm,yF,?_⟩
 try simp only[*,go_sem,seval]
 refine ⟨_,[],[0,1],(A3 h).symm,yF,?_⟩
 try simp only[*,go_sem,seval]
 refine ⟨_,[],[0,1],(A3 h).symm,yF,?_⟩
 try simp only[*,go_sem,seval]
 refine ⟨_,[],[0,1],(A3 h).symm,yF,?_⟩
 try simp only[*,go_sem,seval]
 rintro ⟨⟩ ⟨_,_,_⟩ u _ h
 simp only[go_sem,seval,Zb] at u
 obtain ⟨⟨_,_,_,_,_,_,_,_,_,_,_,_⟩,_,_,hn⟩:=u
 subst hn
 have:=ZB (b.reasons.length)
 try simp only[*,go_sem,seval]
 refine ⟨_,[],[0,1],(A3 h).symm,yF,?_⟩
 try simp only[*,go_sem,seval]
 replace h:=Zr h v
 cases h
 try simp only[*,go_sem,seval]
theorem ZlG {a:Zl} {a_1:(List Zi)} {r:Zl} (h:ZbI a a_1=some r):Zm prog J0 188 [(true,ZJ a),(false,[.sl 162 2 (A0 ZR a_1)])] [(true,[(false,.int .i64 r.kind),(false,.str r.pattern.rel),(false,.sl 9 1 (A0 ZA r.pattern.args)),(false,.str r.left),(false,.str r.right)])]:=by
 refine fnk func188 rfl ?_
 unfold ZbI at h
 simp only[fnS,f188,Zo,go_sem,seval]
 obtain ⟨k,l,h⟩:=Za h
 refine Zd (ZdK l) ?_
 try simp only[*,go_sem,seval]
 obtain ⟨m,o,h⟩:=Za h
 refine Zd (ZdK o) ?_
 try simp only[*,go_sem,seval]
 refine Zh h (fun i d st=>IV [(1,yM (yX a_1)),(2,.bp 0 0),(4,.bp 1 0),(5,.bp 2 0),(6,yL i)] [zC 80 (ZJ a),.box 80 [.c (.int .i64 0),.c (.str ⟨#[]⟩),.nil 9 1,.c (.str ⟨#[]⟩),.c (.str ⟨#[]⟩)],.box 80 [.c (.int .i64 a.kind),.c (.str a.pattern.rel),.row 3,.c (.str k),.c (.str m)],.row 9 1 (A0 ZA d) 2] st) [(true,272,2)] [0,16,272,320] yF yD ?_ ?_
 rintro _ _ d ⟨_,_,_⟩ _ e f q h _
 simp only[go_sem,seval,Zb] at f
 obtain ⟨⟨_,_,_,_,_⟩,t,_,_,_,hn⟩:=f
 subst hn
 have u:=WF.boxL q t (j:=2) rfl
 have:=ZC e
 have:=ZE e
 have:=Zk (ZD e) u
 try simp only[*,go_sem,seval]
 obtain ⟨_,v,h⟩:=Za h
 refine Zd (ZdK v) ?_
 obtain ⟨w,h⟩:=Zv h
 try simp only[Nat.reduceLeDiff] at w
 try simp only[*,go_sem,seval]
 refine ⟨_,[],[0,1,2,292],(A3 h).symm,yF,?_⟩
 try simp only[*,go_sem,seval]
 rintro d ⟨_,_,_⟩ g _ h
 simp only[go_sem,seval,Zb] at g
 obtain ⟨⟨_,_,_,_,_⟩,_,_,_,_,hn⟩:=g
 subst hn
 have:=ZB (a.pattern.args.length)
 cases h
 try simp only[*,go_sem,seval]
end
section
theorem ZlL {a:(List Zg)} {String_1:ByteArray} {b:ByteArray} {r:Bool} (h:Zb2 a String_1 b=some r):Zm prog J0 273 [(false,[.sl 76 4 (A0 ZL a)]),(false,[.str String_1]),(false,[.str b])] [(false,[(false,.bool r)])]:=by
 refine fnk func273 rfl ?_
 unfold Zb2 at h
 simp only[fnS,f273,Zo,go_sem,seval]
 refine Xj h (fun s st=>match s with | (m,e)=>IV [(0,yM (yY a)),(2,yM (.str b)),(7,.p false [.row 0]),(8,yM (.int .i64 e))] [.row 9 1 (A0 ZA m) 2] st) [] [32] yF yD ?_
 rintro ⟨m,e⟩ ⟨_,_,_⟩ _ o _ h q
 simp only[go_sem,seval,Zb] at o
 obtain ⟨⟨_,_,_,_⟩,_,hn⟩:=o
 subst hn
 try simp only[*,go_sem,seval]
 refine yB h (fun _ h=>?_) fun _ h=>?_
 refine Zh h (fun i f st=>IV [(0,yM (yY a)),(2,yM (.str b)),(7,.p false [.row 0]),(8,yM (.int .i64 e)),(9,yL i)] [.row 9 1 (A0 ZA f) 2] st) [] [0] yF yD ?_ ?_
 rintro y _ f ⟨_,_,_⟩ _ g t z h A
 simp only[go_sem,seval,Zb] at t
 obtain ⟨⟨B,_,_,_,_⟩,_,hn⟩:=t
 subst hn
 have C:=WF.slotL z B (j:=0) rfl
 have:=ZC g
 have:=ZE g
 have:=Zk (ZD g) C
 try simp only[*,go_sem,seval]
 obtain ⟨_,D,h⟩:=Za h
 refine Zd (Zij D) ?_
 obtain ⟨_,h⟩:=Zv h
 obtain ⟨_,_,h⟩:=Za h
 try simp only[*,go_sem,seval]
 obtain ⟨_,E,h⟩:=Za h
 refine Zd (YQ E) ?_
 try simp only[*,go_sem,seval]
 refine yB h (fun _ h=>?_) fun _ h=>?_
 obtain ⟨u,F,h⟩:=Za h
 refine Zd (Zqg F) ?_
 try simp only[*,go_sem,seval]
 obtain ⟨_,G,h⟩:=Za h
 refine Zd (YQ G) ?_
 try simp only[*,go_sem,seval]
 refine yB h (fun _ h=>?_) fun _ h=>?_
 replace h:=Zr h A
 replace h:=Zr h q
 cases h
 try simp only[*,go_sem,seval]
 refine Zh h (fun i k st=>IV [(0,yM (yY a)),(2,yM (.str b)),(7,.p false [.row 0]),(8,yM (.int .i64 e)),(9,yL y),(10,.p false [.row 1]),(11,yL i)] [.row 9 1 (A0 ZA k) 2,.row 9 1 (A0 ZA u) 2] st) [] [0,305] yF yD ?_ ?_
 rintro _ _ k ⟨_,_,_⟩ _ l v H h _
 simp only[go_sem,seval,Zb] at v
 obtain ⟨⟨_,_,_,_,_,_,_⟩,_,I,hn⟩:=v
 subst hn
 have J:=WF.rowL H I
 have:=ZC l
 have:=ZE l
 have:=Zk (ZD l) J
 try simp only[*,go_sem,seval]
 obtain ⟨_,K,h⟩:=Za h
 refine Zd (YQ K) ?_
 try simp only[*,go_sem,seval]
 refine yB h (fun _ h=>?_) fun _ h=>?_
 refine ⟨_,[],[0,1],(A3 h).symm,yF,?_⟩
 try simp only[*,go_sem,seval]
 obtain ⟨L,h⟩:=Zv h
 try simp only[Nat.reduceLeDiff] at L
 try simp only[*,go_sem,seval]
 refine ⟨_,[],[274,1],(A3 h).symm,yF,?_⟩
 try simp only[*,go_sem,seval]
 rintro k ⟨_,_,_⟩ w _ h
 simp only[go_sem,seval,Zb] at w
 obtain ⟨⟨_,_,_,_,_,_,_⟩,_,_,hn⟩:=w
 subst hn
 have:=ZB (u.length)
 try simp only[*,go_sem,seval]
 refine ⟨_,[],[0],(A3 h).symm,yF,?_⟩
 try simp only[*,go_sem,seval]
 refine ⟨_,[],[0],(A3 h).symm,yF,?_⟩
 try simp only[*,go_sem,seval]
 rintro f ⟨_,_,_⟩ x _ h
 simp only[go_sem,seval,Zb] at x
 obtain ⟨⟨_,_,_,_,_⟩,_,hn⟩:=x
 subst hn
 have:=ZB (a.length)
 try simp only[*,go_sem,seval]
 refine ⟨_,[],[0],(A3 h).symm,yF,?_⟩
 try simp only[*,go_sem,seval]
 replace h:=Zr h q
 cases h
 try simp only[*,go_sem,seval]
theorem Zfa {l_0:(List Zc)} {f_1:Zc} {r:Int} (h:Zbb l_0 f_1=some r):Zm prog J0 80 [(false,[.sl 53 2 (A0 Zs l_0)]),(true,Zs f_1)] [(false,[(false,.int .i64 r)])]:=by
 refine fnk func80 rfl ?_
 unfold Zbb at h
 simp only[fnS,f80,Zo,go_sem,seval]
 refine Zh h (fun i _ st=>IV [(0,yM (yT l_0)),(3,.bp 0 0),(5,yL i)] [zC 53 (Zs f_1)] st) [] [0] yF yD ?_ ?_
 rintro _ _ ⟨⟩ ⟨_,_,_⟩ _ a b e h f
 simp only[go_sem,seval,Zb] at b
 obtain ⟨⟨g,_,_⟩,_,hn⟩:=b
 subst hn
 have k:=WF.slotL e g (j:=0) rfl
 have:=ZC a
 have:=ZE a
 have:=Zk (ZD a) k
 try simp only[*,go_sem,seval]
 obtain ⟨_,l,h⟩:=Za h
 refine Zd (ZrW l) ?_
 try simp only[*,go_sem,seval]
 refine yB h (fun _ h=>?_) fun _ h=>?_
 replace h:=Zr h f
 cases h
 try simp only[*,go_sem,seval]
 refine ⟨_,[],[0],(A3 h).symm,yF,?_⟩
 try simp only[*,go_sem,seval]
 rintro ⟨⟩ ⟨_,_,_⟩ d _ h
 simp only[go_sem,seval,Zb] at d
 obtain ⟨⟨_,_,_⟩,_,hn⟩:=d
 subst hn
 have:=ZB (l_0.length)
 cases h
 try simp only[*,go_sem,seval]
theorem ZnW {b_0:Zt} {r:Bool} (h:ZcJ b_0=some r):Zm prog J0 308 [(true,Qu b_0)] [(false,[(false,.bool r)])]:=by
 refine fnk func308 rfl ?_
 unfold ZcJ at h
 simp only[fnS,f308,Zo,go_sem,seval]
 refine Zh h (fun i _ st=>IV [(1,.bp 0 0),(3,yL i)] [.box 140 [.c (.int .i64 b_0.nodes),.c (zA b_0.reasons)]] st) [] [0] yF yD ?_ ?_
 rintro _ _ ⟨⟩ ⟨_,_,_⟩ _ a b e h f
 simp only[go_sem,seval,Zb] at b
 obtain ⟨⟨_,_⟩,g,hn⟩:=b
 subst hn
 have k:=WF.boxL e g (j:=1) rfl
 have:=ZC a
 have:=ZE a
 have:=Zk (ZD a) k
 try simp only[*,go_sem,seval]
 obtain ⟨_,l,h⟩:=Za h
 refine Zd (XM l) ?_
 try simp only[*,go_sem,seval]
 refine yB h (fun _ h=>?_) fun _ h=>?_
 obtain ⟨_,m,h⟩:=Za h
 refine Zd (ZjJ m) ?_
 try simp only[*,go_sem,seval]
 refine yB h (fun _ h=>?_) fun _ h=>?_
 obtain ⟨_,o,h⟩:=Za h
 refine Zd (ZjJ o) ?_
 try simp only[*,go_sem,seval]
 refine yB h (fun _ h=>?_) fun _ h=>?_
 refine ⟨_,[],[0],(A3 h).symm,yF,?_⟩
 iterate 3 ((try simp only[*,go_sem,seval]);replace h:=Zr h f;cases h)
 try simp only[*,go_sem,seval]
 rintro ⟨⟩ ⟨_,_,_⟩ d _ h
 simp only[go_sem,seval,Zb] at d
 obtain ⟨⟨_,_⟩,_,hn⟩:=d
 subst hn
 have:=ZB (b_0.reasons.length)
 try simp only[*,go_sem,seval]
 obtain ⟨_,q,h⟩:=Za h
 refine Zd (XM q) ?_
 try simp only[*,go_sem,seval]
 refine yB h (fun _ h=>?_) fun _ h=>?_
 iterate 2 (cases h;try simp only[*,go_sem,seval])
theorem ZrL {x_0:Zl} {r:Zl} (h:Zhg x_0=some r):Zm prog J0 124 [(true,ZJ x_0)] [(true,[(false,.int .i64 r.kind),(false,.str r.pattern.rel),(false,.sl 9 1 (A0 ZA r.pattern.args)),(false,.str r.left),(false,.str r.right)])]:=by
 refine fnk func124 rfl ?_
 unfold Zhg at h
 simp only[fnS,f124,Zo,go_sem,seval]
 obtain ⟨_,a,h⟩:=Za h
 refine Zd (ZlG a) ?_
 cases h
 try simp only[*,go_sem,seval]
end
section
theorem ZiF {l_0:(List Zc)} {facts_1:(List Zc)} {r:(List Int)} (h:Zcn l_0 facts_1=some r):Zm prog J0 251 [(false,[.sl 53 2 (A0 Zs l_0)]),(false,[.sl 53 2 (A0 Zs facts_1)])] [(false,[(false,.sl 3 1 (A0 ZO r))])]:=by
 refine fnk func251 rfl ?_
 unfold Zcn at h
 simp only[fnS,f251,Zo,go_sem,seval]
 refine Zh h (fun i a st=>IV [(0,yM (yT l_0)),(1,yM (yT facts_1)),(5,.p false [.row 0]),(6,yL i)] [.row 3 1 (A0 ZO a) 2] st) [] [16] yF yD ?_ ?_
 rintro _ _ a ⟨_,_,_⟩ _ b d f h _
 simp only[go_sem,seval,Zb] at d
 obtain ⟨⟨_,g,_,_⟩,_,hn⟩:=d
 subst hn
 have k:=WF.slotL f g (j:=0) rfl
 have:=ZC b
 have:=ZE b
 have:=Zk (ZD b) k
 try simp only[*,go_sem,seval]
 obtain ⟨_,l,h⟩:=Za h
 refine Zd (Zfa l) ?_
 try simp only[*,go_sem,seval]
 refine yB h (fun _ h=>?_) fun _ h=>?_
 obtain ⟨_,m,h⟩:=Za h
 refine Zd (ZsW m) ?_
 try simp only[*,go_sem,seval]
 refine ⟨_,[],[241],(A3 h).symm,yF,?_⟩
 try simp only[*,go_sem,seval]
 refine ⟨_,[],[0],(A3 h).symm,yF,?_⟩
 try simp only[*,go_sem,seval]
 rintro a ⟨_,_,_⟩ e _ h
 simp only[go_sem,seval,Zb] at e
 obtain ⟨⟨_,_,_,_⟩,_,hn⟩:=e
 subst hn
 have:=ZB (facts_1.length)
 cases h
 try simp only[*,go_sem,seval]
theorem ZeL {b_0:Zt} {r:Bool} (h:Qx b_0=some r):Zm prog J0 276 [(true,Qu b_0)] [(false,[(false,.bool r)])]:=by
 refine fnk func276 rfl ?_
 unfold Qx at h
 simp only[fnS,f276,Zo,go_sem,seval]
 obtain ⟨_,o,h⟩:=Za h
 refine Zd (ZnW o) ?_
 try simp only[*,go_sem,seval]
 refine yB h (fun _ h=>?_) fun _ h=>?_
 refine Zh h (fun i _ st=>IV [(1,.bp 0 0),(3,yL i)] [.box 140 [.c (.int .i64 b_0.nodes),.c (zA b_0.reasons)]] st) [] [0] yF yD ?_ ?_
 rintro q d ⟨⟩ ⟨_,_,_⟩ _ a e t h f
 simp only[go_sem,seval,Zb] at e
 obtain ⟨⟨_,_⟩,u,hn⟩:=e
 subst hn
 have v:=WF.boxL t u (j:=1) rfl
 have:=ZC a
 have:=ZE a
 have:=Zk (ZD a) v
 try simp only[*,go_sem,seval]
 refine Zh h (fun i _ st=>IV [(1,.bp 0 0),(3,yL q),(4,yM (.int .i64 d.for_)),(5,yL i)] [.box 140 [.c (.int .i64 b_0.nodes),.c (zA b_0.reasons)]] st) [] [0] yF yD ?_ ?_
 rintro _ _ ⟨⟩ ⟨_,_,_⟩ _ b g w h k
 simp only[go_sem,seval,Zb] at g
 obtain ⟨⟨_,_,_,_⟩,x,hn⟩:=g
 subst hn
 have y:=WF.elL (WF.boxD w x (j:=1) rfl) a (j:=2) rfl
 have:=ZC b
 have:=ZE b
 have:=Zk (ZD b) y
 try simp only[*,go_sem,seval]
 refine yB h (fun _ h=>?_) fun _ h=>?_
 replace h:=Zr h k
 replace h:=Zr h f
 cases h
 try simp only[*,go_sem,seval]
 obtain ⟨_,z,h⟩:=Za h
 refine Zd (Zos z) ?_
 obtain ⟨_,h⟩:=Zv h
 obtain ⟨_,_,h⟩:=Za h
 try simp only[*,go_sem,seval]
 refine yB h (fun _ h=>?_) fun _ h=>?_
 replace h:=Zr h k
 replace h:=Zr h f
 cases h
 try simp only[*,go_sem,seval]
 refine ⟨_,[],[0],(A3 h).symm,yF,?_⟩
 try simp only[*,go_sem,seval]
 rintro ⟨⟩ ⟨_,_,_⟩ l _ h
 simp only[go_sem,seval,Zb] at l
 obtain ⟨⟨_,_,_,_⟩,_,hn⟩:=l
 subst hn
 have:=ZB (d.outs.length)
 try simp only[*,go_sem,seval]
 refine ⟨_,[],[0],(A3 h).symm,yF,?_⟩
 try simp only[*,go_sem,seval]
 rintro ⟨⟩ ⟨_,_,_⟩ m _ h
 simp only[go_sem,seval,Zb] at m
 obtain ⟨⟨_,_⟩,_,hn⟩:=m
 subst hn
 have:=ZB (b_0.reasons.length)
 iterate 2 (cases h;try simp only[*,go_sem,seval])
theorem ZjM {l_0:(List Zl)} {r:Zg} (h:Zdz l_0=some r):Zm prog J0 63 [(false,[.sl 80 5 (A0 ZJ l_0)])] [(true,[(false,.str r.name),(false,.int .i64 r.priority),(false,.sl 80 5 (A0 ZJ r.cond)),(false,.sl 125 3 (A0 ZI r.thn))])]:=by
 refine fnk func63 rfl ?_
 unfold Zdz at h
 have f:ZbS ⟨#[97,115,107]⟩=true:=by decide
 simp only[fnS,f63,Zo,go_sem,seval,f]
 refine Zh h (fun i a st=>IV [(0,yM (yW l_0)),(2,.bp 0 0),(3,.bp 1 0),(4,yL i)] [.box 76 [.c (.str ⟨#[]⟩),.c (.int .i64 0),.nil 80 5,.nil 125 3],.box 76 [.c (.str ⟨#[97,115,107]⟩),.c (.int .i64 0),.row 2,.row 3],.row 80 5 (A0 ZJ a) 2,.row 125 3 (A0 ZI ([({ kind:=3,pattern:=({ rel:=(⟨#[]⟩),args:=[] }:Zx) }:Zu)])) 2] st) [(true,64,2)] [0,64,112,32] yF yD ?_ ?_
 rintro _ _ a ⟨_,_,_⟩ _ b d g h _
 simp only[go_sem,seval,Zb] at d
 obtain ⟨⟨k,_,_,_⟩,_,_,_,_,hn⟩:=d
 subst hn
 have l:=WF.slotL g k (j:=0) rfl
 have:=ZC b
 have:=ZE b
 have:=Zk (ZD b) l
 try simp only[*,go_sem,seval]
 obtain ⟨_,m,h⟩:=Za h
 refine Zd (ZrL m) ?_
 obtain ⟨o,h⟩:=Zv h
 try simp only[Nat.reduceLeDiff] at o
 try simp only[*,go_sem,seval]
 refine ⟨_,[],[0,1,196,3],(A3 h).symm,yF,?_⟩
 try simp only[*,go_sem,seval]
 rintro a ⟨_,_,_⟩ e _ h
 simp only[go_sem,seval,Zb] at e
 obtain ⟨⟨_,_,_,_⟩,_,_,_,_,hn⟩:=e
 subst hn
 have:=ZB (l_0.length)
 cases h
 try simp only[*,go_sem,seval]
end
section
theorem ZtP {a:(List Zc)} {f_1:Zc} {r:(List Zc)} (h:ZcF a f_1=some r):Zm prog J0 229 [(false,[.sl 53 2 (A0 Zs a)]),(true,Zs f_1)] [(false,[(false,.sl 53 2 (A0 Zs r))])]:=by
 refine fnk func229 rfl ?_
 unfold ZcF at h
 simp only[fnS,f229,Zo,go_sem,seval]
 refine Zh h (fun i s st=>match s with | (b,d)=>IV [(0,yM (yT a)),(3,.bp 0 0),(5,.p false [.row 1]),(6,yM (.bool d)),(7,yL i)] [zC 53 (Zs f_1),.row 53 2 (A0 Zs b) 2] st) [] [0,32] yF yD ?_ ?_
 rintro _ _ ⟨b,d⟩ ⟨_,_,_⟩ _ e f k h _
 simp only[go_sem,seval,Zb] at f
 obtain ⟨⟨l,_,_,_,_⟩,_,_,hn⟩:=f
 subst hn
 have m:=WF.slotL k l (j:=0) rfl
 have:=ZC e
 have:=ZE e
 have:=Zk (ZD e) m
 try simp only[*,go_sem,seval]
 refine yB h (fun _ h=>?_) fun _ h=>?_
 obtain ⟨_,o,h⟩:=Za h
 refine Zd (Xr o) ?_
 obtain ⟨q,h⟩:=Zv h
 try simp only[Nat.reduceLeDiff] at q
 try simp only[*,go_sem,seval]
 refine ⟨_,[],[0,354],(A3 h).symm,yF,?_⟩
 try simp only[*,go_sem,seval]
 obtain ⟨_,t,h⟩:=Za h
 refine Zd (ZbQ t) ?_
 try simp only[*,go_sem,seval]
 refine yB h (fun _ h=>?_) fun _ h=>?_
 obtain ⟨_,u,h⟩:=Za h
 refine Zd (ZbQ u) ?_
 try simp only[*,go_sem,seval]
 refine yB h (fun _ h=>?_) fun _ h=>?_
 obtain ⟨_,v,h⟩:=Za h
 refine Zd (Xr v) ?_
 obtain ⟨w,h⟩:=Zv h
 try simp only[Nat.reduceLeDiff] at w
 try simp only[*,go_sem,seval]
 obtain ⟨_,x,h⟩:=Za h
 refine Zd (Xr x) ?_
 obtain ⟨y,h⟩:=Zv h
 try simp only[Nat.reduceLeDiff] at y
 try simp only[*,go_sem,seval]
 refine ⟨_,[],[0,578],(A3 h).symm,yF,?_⟩
 try simp only[*,go_sem,seval]
 obtain ⟨_,z,h⟩:=Za h
 refine Zd (Xr z) ?_
 obtain ⟨A,h⟩:=Zv h
 try simp only[Nat.reduceLeDiff] at A
 try simp only[*,go_sem,seval]
 refine ⟨_,[],[0,482],(A3 h).symm,yF,?_⟩
 try simp only[*,go_sem,seval]
 obtain ⟨_,B,h⟩:=Za h
 refine Zd (Xr B) ?_
 obtain ⟨C,h⟩:=Zv h
 try simp only[Nat.reduceLeDiff] at C
 try simp only[*,go_sem,seval]
 refine ⟨_,[],[0,354],(A3 h).symm,yF,?_⟩
 try simp only[*,go_sem,seval]
 rintro ⟨b,d⟩ ⟨_,_,_⟩ g _ h
 simp only[go_sem,seval,Zb] at g
 obtain ⟨⟨_,_,_,_,_⟩,_,_,hn⟩:=g
 subst hn
 have:=ZB (a.length)
 try simp only[*,go_sem,seval]
 refine yB h (fun _ h=>?_) fun _ h=>?_
 cases h
 try simp only[*,go_sem,seval]
 obtain ⟨_,D,h⟩:=Za h
 refine Zd (Xr D) ?_
 obtain ⟨E,h⟩:=Zv h
 try simp only[Nat.reduceLeDiff] at E
 cases h
 try simp only[*,go_sem,seval]
theorem Zis {l_0:(List Zc)} {r:Bool} (h:Zcb l_0=some r):Zm prog J0 121 [(false,[.sl 53 2 (A0 Zs l_0)])] [(false,[(false,.bool r)])]:=by
 refine fnk func121 rfl ?_
 unfold Zcb at h
 simp only[fnS,f121,Zo,go_sem,seval]
 refine Zh h (fun i _ st=>IV [(0,yM (yT l_0)),(3,yL i)] [] st) [] [] yF yD ?_ ?_
 rintro _ _ ⟨⟩ ⟨_,_,_⟩ _ a b f h d
 simp only[go_sem,seval,Zb] at b
 obtain ⟨⟨g,_⟩,hn⟩:=b
 subst hn
 have k:=WF.slotL f g (j:=0) rfl
 have:=ZC a
 have:=ZE a
 have:=Zk (ZD a) k
 try simp only[*,go_sem,seval]
 obtain ⟨_,l,h⟩:=Za h
 refine Zd (Zk1 l) ?_
 try simp only[*,go_sem,seval]
 iterate 2 refine yB h (fun _ h=>?_) fun _ h=>?_
 obtain ⟨_,_,_,_,h⟩:=ZcM h
 try simp only[*,go_sem,seval]
 obtain ⟨_,m,h⟩:=Za h
 refine Zd (ZbQ m) ?_
 try simp only[*,go_sem,seval]
 refine yB h (fun _ h=>?_) fun _ h=>?_
 replace h:=Zr h d
 cases h
 try simp only[*,go_sem,seval]
 refine ⟨_,[],[],(A3 h).symm,yF,?_⟩
 try simp only[*,go_sem,seval]
 refine ⟨_,[],[],(A3 h).symm,yF,?_⟩
 try simp only[*,go_sem,seval]
 replace h:=Zr h d
 cases h
 try simp only[*,go_sem,seval]
 rintro ⟨⟩ ⟨_,_,_⟩ e _ h
 simp only[go_sem,seval,Zb] at e
 obtain ⟨⟨_,_⟩,hn⟩:=e
 subst hn
 have:=ZB (l_0.length)
 cases h
 try simp only[*,go_sem,seval]
theorem Zrp {b_0:(List Zi)} {v_1:ByteArray} {value_2:ByteArray} {r:((List Zi) × Bool)} (h:Zhm b_0 v_1 value_2=some r):Zm prog J0 139 [(false,[.sl 162 2 (A0 ZR b_0)]),(false,[.str v_1]),(false,[.str value_2])] [(false,[(false,.sl 162 2 (A0 ZR r.1))]),(false,[(false,.bool r.2)])]:=by
 refine fnk func139 rfl ?_
 unfold Zhm at h
 simp only[fnS,f139,Zo,go_sem,seval]
 obtain ⟨_,a,h⟩:=Za h
 refine Zd (Zan a) ?_
 try simp only[*,go_sem,seval]
 refine yB h (fun _ h=>?_) fun _ h=>?_
 obtain ⟨_,b,h⟩:=Za h
 refine Zd (Zah b) ?_
 try simp only[*,go_sem,seval]
 refine yB h (fun _ h=>?_) fun _ h=>?_
 obtain ⟨_,c,h⟩:=Za h
 refine Zd (QA c) ?_
 try simp only[*,go_sem,seval]
 refine yB h (fun _ h=>?_) fun _ h=>?_
 obtain ⟨_,d,h⟩:=Za h
 refine Zd (Zdu d) ?_
 try simp only[*,go_sem,seval]
 iterate 2 refine yB h (fun _ h=>?_) fun _ h=>?_
 obtain ⟨_,e,h⟩:=Za h
 refine Zd (ZeN e) ?_
 iterate 2 (cases h;try simp only[*,go_sem,seval])
 refine yB h (fun _ h=>?_) fun _ h=>?_
 cases h
 try simp only[*,go_sem,seval]
 obtain ⟨_,f,h⟩:=Za h
 refine Zd (ZtD f) ?_
 iterate 4 (cases h;try simp only[*,go_sem,seval])
theorem Zox {b:Zt} {r:(List Int)} (h:Zeb b=some r):Zm prog J0 277 [(true,Qu b)] [(false,[(false,.sl 3 1 (A0 ZO r))])]:=by
 refine fnk func277 rfl ?_
 unfold Zeb at h
 simp only[fnS,f277,Zo,go_sem,seval]
 obtain ⟨_,B,h⟩:=Za h
 refine Zd (ZeL B) ?_
 try simp only[*,go_sem,seval]
 refine yB h (fun _ h=>?_) fun _ h=>?_
 obtain ⟨_,h⟩:=Zv h
 try simp only[*,go_sem,seval]
 refine Xj h (fun s st=>match s with | (q,e)=>IV [(1,.bp 0 0),(3,.p false [.row 1]),(4,yM (.int .i64 e))] [.box 140 [.c (.int .i64 b.nodes),.c (zA b.reasons)],.row 3 1 (A0 ZO q) 2] st) [] [0,112] yF yD ?_
 rintro ⟨q,e⟩ ⟨_,_,_⟩ _ t _ h C
 simp only[go_sem,seval,Zb] at t
 obtain ⟨⟨_,_,_⟩,_,_,hn⟩:=t
 subst hn
 try simp only[*,go_sem,seval]
 refine yB h (fun _ h=>?_) fun _ h=>?_
 refine Zh h (fun i f st=>IV [(1,.bp 0 0),(3,.p false [.row 1]),(4,yM (.int .i64 e)),(5,yL i)] [.box 140 [.c (.int .i64 b.nodes),.c (zA b.reasons)],.row 3 1 (A0 ZO f) 2] st) [] [0,1] yF yD ?_ ?_
 rintro u d f ⟨_,_,_⟩ _ g v D h _
 simp only[go_sem,seval,Zb] at v
 obtain ⟨⟨_,_,_,_⟩,E,_,hn⟩:=v
 subst hn
 have F:=WF.boxL D E (j:=1) rfl
 have:=ZC g
 have:=ZE g
 have:=Zk (ZD g) F
 try simp only[*,go_sem,seval]
 refine Zh h (fun i k st=>IV [(1,.bp 0 0),(3,.p false [.row 1]),(4,yM (.int .i64 e)),(5,yL u),(6,.bp 2 0),(7,yL i)] [.box 140 [.c (.int .i64 b.nodes),.c (zA b.reasons)],.row 3 1 (A0 ZO k) 2,zC 179 (ZG d)] st) [] [0,1,162] yF yD ?_ ?_
 rintro _ _ k ⟨_,_,_⟩ _ l w G h _
 simp only[go_sem,seval,Zb] at w
 obtain ⟨⟨_,_,_,_,_,_⟩,_,_,H,hn⟩:=w
 subst hn
 have I:=WF.boxL G H (j:=1) rfl
 have:=ZC l
 have:=ZE l
 have:=Zk (ZD l) I
 obtain ⟨_,h⟩:=Zv h
 obtain ⟨_,_,h⟩:=Za h
 obtain ⟨_,h⟩:=Zv h
 obtain ⟨_,_,h⟩:=Za h
 try simp only[*,go_sem,seval]
 refine ⟨_,[],[0,1,2],(A3 h).symm,yF,?_⟩
 try simp only[*,go_sem,seval]
 rintro k ⟨_,_,_⟩ x _ h
 simp only[go_sem,seval,Zb] at x
 obtain ⟨⟨_,_,_,_,_,_⟩,_,_,_,hn⟩:=x
 subst hn
 have:=ZB (d.inn.length)
 try simp only[*,go_sem,seval]
 refine Zh h (fun i m st=>IV [(1,.bp 0 0),(3,.p false [.row 1]),(4,yM (.int .i64 e)),(5,yL u),(6,.bp 2 0),(8,yL i)] [.box 140 [.c (.int .i64 b.nodes),.c (zA b.reasons)],.row 3 1 (A0 ZO m) 2,zC 179 (ZG d)] st) [] [0,1,2] yF yD ?_ ?_
 rintro _ _ m ⟨_,_,_⟩ _ o y J h _
 simp only[go_sem,seval,Zb] at y
 obtain ⟨⟨_,_,_,_,_,_⟩,_,_,K,hn⟩:=y
 subst hn
 have L:=WF.boxL J K (j:=2) rfl
 have:=ZC o
 have:=ZE o
 have:=Zk (ZD o) L
 obtain ⟨_,h⟩:=Zv h
 obtain ⟨_,_,h⟩:=Za h
 obtain ⟨_,h⟩:=Zv h
 obtain ⟨_,_,h⟩:=Za h
 try simp only[*,go_sem,seval]
 refine ⟨_,[],[0,1,2],(A3 h).symm,yF,?_⟩
 try simp only[*,go_sem,seval]
 rintro m ⟨_,_,_⟩ z _ h
 simp only[go_sem,seval,Zb] at z
 obtain ⟨⟨_,_,_,_,_,_⟩,_,_,_,hn⟩:=z
 subst hn
 have:=ZB (d.outs.length)
 try simp only[*,go_sem,seval]
 refine ⟨_,[],[0,1],(A3 h).symm,yF,?_⟩
 try simp only[*,go_sem,seval]
 rintro f ⟨_,_,_⟩ A _ h
 simp only[go_sem,seval,Zb] at A
 obtain ⟨⟨_,_,_,_⟩,_,_,hn⟩:=A
 subst hn
 have:=ZB (b.reasons.length)
 try simp only[*,go_sem,seval]
 refine ⟨_,[],[0,1],(A3 h).symm,yF,?_⟩
 try simp only[*,go_sem,seval]
 replace h:=Zr h C
 iterate 2 (cases h;try simp only[*,go_sem,seval])
end
section
theorem Zes {p_0:Zx} {b_1:(List Zi)} {facts_2:(List Zc)} {r:(List Zc)} (h:XO p_0 b_1 facts_2=some r):Zm prog J0 198 [(true,Qp p_0),(false,[.sl 162 2 (A0 ZR b_1)]),(false,[.sl 53 2 (A0 Zs facts_2)])] [(false,[(false,.sl 53 2 (A0 Zs r))])]:=by
 refine fnk func198 rfl ?_
 unfold XO at h
 simp only[fnS,f198,Zo,go_sem,seval]
 refine Zh h (fun i a st=>IV [(1,yM (yX b_1)),(3,.bp 0 0),(7,.p false [.row 1]),(12,yM (yT facts_2)),(13,yL facts_2.length),(14,yL i)] [.box 78 [.c (.str p_0.rel),.c (yU p_0.args)],.row 53 2 (A0 Zs a) 2] st) [(false,7,0)] [0,96] yF yD ?_ ?_
 rintro _ _ a ⟨_,_,_⟩ _ b d f h _
 simp only[go_sem,seval,Zb] at d
 obtain ⟨⟨_,_,_,g,_,_⟩,_,_,hn⟩:=d
 subst hn
 have k:=WF.slotL f g (j:=0) rfl
 have:=ZC b
 have:=ZE b
 have:=Zk (ZD b) k
 try simp only[*,go_sem,seval]
 obtain ⟨_,l,h⟩:=Za h
 refine Zd (ZbH l) ?_
 try simp only[*,go_sem,seval]
 refine yB h (fun _ h=>?_) fun _ h=>?_
 obtain ⟨_,m,h⟩:=Za h
 refine Zd (YO m) ?_
 obtain ⟨o,h⟩:=Zv h
 try simp only[Nat.reduceLeDiff] at o
 try simp only[*,go_sem,seval]
 refine ⟨_,[],[0,306],(A3 h).symm,yF,?_⟩
 try simp only[*,go_sem,seval]
 refine ⟨_,[],[0,1],(A3 h).symm,yF,?_⟩
 try simp only[*,go_sem,seval]
 rintro a ⟨_,_,_⟩ e _ h
 simp only[go_sem,seval,Zb] at e
 obtain ⟨⟨_,_,_,_,_,_⟩,_,_,hn⟩:=e
 subst hn
 have:=ZB (facts_2.length)
 cases h
 try simp only[*,go_sem,seval]
theorem Zrl {x_0:Zl} {r:Bool} (h:ZjH x_0=some r):Zm prog J0 249 [(true,ZJ x_0)] [(false,[(false,.bool r)])]:=by
 refine fnk func249 rfl ?_
 unfold ZjH at h
 simp only[fnS,f249,Zo,go_sem,seval]
 obtain ⟨_,a,h⟩:=Za h
 refine Zd (ZhF a) ?_
 try simp only[*,go_sem,seval]
 refine yB h (fun _ h=>?_) fun _ h=>?_
 iterate 2 (cases h;try simp only[*,go_sem,seval])
theorem Ziz {r_0:Zg} {k_1:Int} {r:Bool} (h:Zcd r_0 k_1=some r):Zm prog J0 191 [(true,ZL r_0),(false,[.int .i64 k_1])] [(false,[(false,.bool r)])]:=by
 refine fnk func191 rfl ?_
 unfold Zcd at h
 simp only[fnS,f191,Zo,go_sem,seval]
 obtain ⟨a,_,_,_,h⟩:=ZcM h
 try simp only[*,go_sem,seval]
 obtain ⟨j,k,h⟩:=Za h
 refine Zd (ZdR k) ?_
 try simp only[*,go_sem,seval]
 obtain ⟨b,l,h⟩:=Za h
 refine Zd (ZcA l) ?_
 try simp only[*,go_sem,seval]
 refine Zh h (fun i _ st=>IV [(1,yM (.int .i64 k_1)),(2,.bp 0 0),(5,.bp 1 0),(6,.p false [.row 2]),(18,.p false [.row 3]),(19,yL b.length),(20,yL i)] [zC 76 (ZL r_0),zC 80 (ZJ a),.row 9 1 (A0 ZA j) 2,.row 9 1 (A0 ZA b) 2] st) [] [0,112,176,224] yF yD ?_ ?_
 rintro _ _ ⟨⟩ ⟨_,_,_⟩ _ d e m h f
 simp only[go_sem,seval,Zb] at e
 obtain ⟨⟨_,_,_,_,_,_,_⟩,_,_,_,o,hn⟩:=e
 subst hn
 have q:=WF.rowL m o
 have:=ZC d
 have:=ZE d
 have:=Zk (ZD d) q
 try simp only[*,go_sem,seval]
 refine yB h (fun _ h=>?_) fun _ h=>?_
 refine ⟨_,[],[0,1,2,3],(A3 h).symm,yF,?_⟩
 try simp only[*,go_sem,seval]
 obtain ⟨_,t,h⟩:=Za h
 refine Zd (ZaB t) ?_
 try simp only[*,go_sem,seval]
 refine yB h (fun _ h=>?_) fun _ h=>?_
 refine ⟨_,[],[0,1,2,3],(A3 h).symm,yF,?_⟩
 try simp only[*,go_sem,seval]
 refine yB h (fun _ h=>?_) fun _ h=>?_
 replace h:=Zr h f
 cases h
 try simp only[*,go_sem,seval]
 obtain ⟨_,u,h⟩:=Za h
 refine Zd (Zhl u) ?_
 try simp only[*,go_sem,seval]
 refine yB h (fun _ h=>?_) fun _ h=>?_
 replace h:=Zr h f
 cases h
 try simp only[*,go_sem,seval]
 refine ⟨_,[],[0,1,2,3],(A3 h).symm,yF,?_⟩
 try simp only[*,go_sem,seval]
 rintro ⟨⟩ ⟨_,_,_⟩ g _ h
 simp only[go_sem,seval,Zb] at g
 obtain ⟨⟨_,_,_,_,_,_,_⟩,_,_,_,_,hn⟩:=g
 subst hn
 have:=ZB (b.length)
 cases h
 try simp only[*,go_sem,seval]
theorem ZgO {x_0:Zl} {r:Bool} (h:Zej x_0=some r):Zm prog J0 106 [(true,ZJ x_0)] [(false,[(false,.bool r)])]:=by
 refine fnk func106 rfl ?_
 unfold Zej at h
 have a:ZbS ⟨#[]⟩=true:=by decide
 simp only[fnS,f106,Zo,go_sem,seval,a]
 refine yB h (fun _ h=>?_) fun _ h=>?_
 obtain ⟨_,b,h⟩:=Za h
 refine Zd (Qk b) ?_
 try simp only[*,go_sem,seval]
 iterate 2 refine yB h (fun _ h=>?_) fun _ h=>?_
 iterate 3 (cases h;try simp only[*,go_sem,seval])
 refine yB h (fun _ h=>?_) fun _ h=>?_
 obtain ⟨_,c,h⟩:=Za h
 refine Zd (Qk c) ?_
 try simp only[*,go_sem,seval]
 iterate 2 refine yB h (fun _ h=>?_) fun _ h=>?_
 iterate 3 (cases h;try simp only[*,go_sem,seval])
 iterate 3 refine yB h (fun _ h=>?_) fun _ h=>?_
 obtain ⟨_,d,h⟩:=Za h
 refine Zd (Zar d) ?_
 try simp only[*,go_sem,seval]
 refine yB h (fun _ h=>?_) fun _ h=>?_
 obtain ⟨_,e,h⟩:=Za h
 refine Zd (Zar e) ?_
 iterate 4 (cases h;try simp only[*,go_sem,seval])
 iterate 3 refine yB h (fun _ h=>?_) fun _ h=>?_
 obtain ⟨_,f,h⟩:=Za h
 refine Zd (Zar f) ?_
 try simp only[*,go_sem,seval]
 refine yB h (fun _ h=>?_) fun _ h=>?_
 obtain ⟨_,g,h⟩:=Za h
 refine Zd (Zar g) ?_
 iterate 4 (cases h;try simp only[*,go_sem,seval])
 iterate 3 refine yB h (fun _ h=>?_) fun _ h=>?_
 obtain ⟨_,i,h⟩:=Za h
 refine Zd (Zar i) ?_
 try simp only[*,go_sem,seval]
 refine yB h (fun _ h=>?_) fun _ h=>?_
 obtain ⟨_,j,h⟩:=Za h
 refine Zd (Zar j) ?_
 iterate 5 (cases h;try simp only[*,go_sem,seval])
theorem Zfu {r_0:Zg} {i_1:Int} {v_2:ByteArray} {r:Bool} (h:X5 r_0 i_1 v_2=some r):Zm prog J0 183 [(true,ZL r_0),(false,[.int .i64 i_1]),(false,[.str v_2])] [(false,[(false,.bool r)])]:=by
 refine fnk func183 rfl ?_
 unfold X5 at h
 simp only[fnS,f183,Zo,go_sem,seval]
 refine Zh h (fun i _ st=>IV [(1,yM (.int .i64 i_1)),(2,yM (.str v_2)),(3,.bp 0 0),(7,yL i)] [zC 76 (ZL r_0)] st) [] [0] yF yD ?_ ?_
 rintro _ _ ⟨⟩ ⟨_,_,_⟩ _ a d k h l
 simp only[go_sem,seval,Zb] at d
 obtain ⟨⟨_,_,_,_⟩,m,hn⟩:=d
 subst hn
 have o:=WF.boxL k m (j:=2) rfl
 have:=ZC a
 have:=ZE a
 have:=Zk (ZD a) o
 try simp only[*,go_sem,seval]
 refine yB h (fun _ h=>?_) fun _ h=>?_
 obtain ⟨_,q,h⟩:=Za h
 refine Zd (ZaP q) ?_
 try simp only[*,go_sem,seval]
 obtain ⟨_,t,h⟩:=Za h
 refine Zd (YQ t) ?_
 try simp only[*,go_sem,seval]
 refine yB h (fun _ h=>?_) fun _ h=>?_
 replace h:=Zr h l
 cases h
 try simp only[*,go_sem,seval]
 refine ⟨_,[],[0],(A3 h).symm,yF,?_⟩
 try simp only[*,go_sem,seval]
 refine ⟨_,[],[0],(A3 h).symm,yF,?_⟩
 try simp only[*,go_sem,seval]
 rintro ⟨⟩ ⟨_,_,_⟩ e _ h
 simp only[go_sem,seval,Zb] at e
 obtain ⟨⟨_,_,_,_⟩,_,hn⟩:=e
 subst hn
 have:=ZB (r_0.cond.length)
 try simp only[*,go_sem,seval]
 refine Zh h (fun i _ st=>IV [(2,yM (.str v_2)),(3,.bp 0 0),(8,yL i)] [zC 76 (ZL r_0)] st) [] [0] yF yD ?_ ?_
 rintro _ _ ⟨⟩ ⟨_,_,_⟩ _ b f u h v
 simp only[go_sem,seval,Zb] at f
 obtain ⟨⟨_,_,_⟩,w,hn⟩:=f
 subst hn
 have x:=WF.boxL u w (j:=3) rfl
 have:=ZC b
 have:=ZE b
 have:=Zk (ZD b) x
 try simp only[*,go_sem,seval]
 obtain ⟨_,y,h⟩:=Za h
 refine Zd (Zc6 y) ?_
 try simp only[*,go_sem,seval]
 obtain ⟨_,z,h⟩:=Za h
 refine Zd (YQ z) ?_
 try simp only[*,go_sem,seval]
 refine yB h (fun _ h=>?_) fun _ h=>?_
 replace h:=Zr h v
 cases h
 try simp only[*,go_sem,seval]
 refine ⟨_,[],[0],(A3 h).symm,yF,?_⟩
 try simp only[*,go_sem,seval]
 rintro ⟨⟩ ⟨_,_,_⟩ g _ h
 simp only[go_sem,seval,Zb] at g
 obtain ⟨⟨_,_,_⟩,_,hn⟩:=g
 subst hn
 have:=ZB (r_0.thn.length)
 cases h
 try simp only[*,go_sem,seval]
theorem Zn1 {a_0:Zu} {r:Bool} (h:Zer a_0=some r):Zm prog J0 184 [(true,ZI a_0)] [(false,[(false,.bool r)])]:=by
 refine fnk func184 rfl ?_
 unfold Zer at h
 have a:ZbS ⟨#[]⟩=true:=by decide
 simp only[fnS,f184,Zo,go_sem,seval,a]
 refine yB h (fun _ h=>?_) fun _ h=>?_
 obtain ⟨_,b,h⟩:=Za h
 refine Zd (Qk b) ?_
 cases h
 try simp only[*,go_sem,seval]
 refine yB h (fun _ h=>?_) fun _ h=>?_
 obtain ⟨_,c,h⟩:=Za h
 refine Zd (Qk c) ?_
 cases h
 try simp only[*,go_sem,seval]
 iterate 2 refine yB h (fun _ h=>?_) fun _ h=>?_
 iterate 3 (cases h;try simp only[*,go_sem,seval])
theorem Zof {r_0:Zg} {r:(List ByteArray)} (h:Zed r_0=some r):Zm prog J0 186 [(true,ZL r_0)] [(false,[(false,.sl 9 1 (A0 ZA r))])]:=by
 refine fnk func186 rfl ?_
 unfold Zed at h
 simp only[fnS,f186,Zo,go_sem,seval]
 refine Zh h (fun i a st=>IV [(1,.bp 0 0),(3,.p false [.row 1]),(4,yL i)] [zC 76 (ZL r_0),.row 9 1 (A0 ZA a) 2] st) [] [0,32] yF yD ?_ ?_
 rintro A _ a ⟨_,_,_⟩ _ b m B h _
 simp only[go_sem,seval,Zb] at m
 obtain ⟨⟨_,_,_⟩,C,_,hn⟩:=m
 subst hn
 have D:=WF.boxL B C (j:=2) rfl
 have:=ZC b
 have:=ZE b
 have:=Zk (ZD b) D
 try simp only[*,go_sem,seval]
 obtain ⟨o,E,h⟩:=Za h
 refine Zd (ZaP E) ?_
 try simp only[*,go_sem,seval]
 refine Zh h (fun i d st=>IV [(1,.bp 0 0),(3,.p false [.row 1]),(4,yL A),(5,.p false [.row 2]),(6,yL i)] [zC 76 (ZL r_0),.row 9 1 (A0 ZA d) 2,.row 9 1 (A0 ZA o) 2] st) [] [0,1,162] yF yD ?_ ?_
 rintro _ _ d ⟨_,_,_⟩ _ e q F h _
 simp only[go_sem,seval,Zb] at q
 obtain ⟨⟨_,_,_,_,_⟩,_,_,G,hn⟩:=q
 subst hn
 have H:=WF.rowL F G
 have:=ZC e
 have:=ZE e
 have:=Zk (ZD e) H
 try simp only[*,go_sem,seval]
 obtain ⟨_,I,h⟩:=Za h
 refine Zd (XF I) ?_
 try simp only[*,go_sem,seval]
 refine ⟨_,[],[0,147,2],(A3 h).symm,yF,?_⟩
 try simp only[*,go_sem,seval]
 rintro d ⟨_,_,_⟩ t _ h
 simp only[go_sem,seval,Zb] at t
 obtain ⟨⟨_,_,_,_,_⟩,_,_,_,hn⟩:=t
 subst hn
 have:=ZB (o.length)
 try simp only[*,go_sem,seval]
 refine ⟨_,[],[0,1],(A3 h).symm,yF,?_⟩
 try simp only[*,go_sem,seval]
 rintro a ⟨_,_,_⟩ u _ h
 simp only[go_sem,seval,Zb] at u
 obtain ⟨⟨_,_,_⟩,_,_,hn⟩:=u
 subst hn
 have:=ZB (r_0.cond.length)
 try simp only[*,go_sem,seval]
 refine Zh h (fun i f st=>IV [(1,.bp 0 0),(3,.p false [.row 1]),(7,yL i)] [zC 76 (ZL r_0),.row 9 1 (A0 ZA f) 2] st) [] [0,1] yF yD ?_ ?_
 rintro J _ f ⟨_,_,_⟩ _ g v K h _
 simp only[go_sem,seval,Zb] at v
 obtain ⟨⟨_,_,_⟩,L,_,hn⟩:=v
 subst hn
 have M:=WF.boxL K L (j:=3) rfl
 have:=ZC g
 have:=ZE g
 have:=Zk (ZD g) M
 try simp only[*,go_sem,seval]
 obtain ⟨w,N,h⟩:=Za h
 refine Zd (Zc6 N) ?_
 try simp only[*,go_sem,seval]
 refine Zh h (fun i k st=>IV [(1,.bp 0 0),(3,.p false [.row 1]),(7,yL J),(8,.p false [.row 2]),(9,yL i)] [zC 76 (ZL r_0),.row 9 1 (A0 ZA k) 2,.row 9 1 (A0 ZA w) 2] st) [] [0,1,178] yF yD ?_ ?_
 rintro _ _ k ⟨_,_,_⟩ _ l x O h _
 simp only[go_sem,seval,Zb] at x
 obtain ⟨⟨_,_,_,_,_⟩,_,_,P,hn⟩:=x
 subst hn
 have Q:=WF.rowL O P
 have:=ZC l
 have:=ZE l
 have:=Zk (ZD l) Q
 try simp only[*,go_sem,seval]
 obtain ⟨_,R,h⟩:=Za h
 refine Zd (XF R) ?_
 try simp only[*,go_sem,seval]
 refine ⟨_,[],[0,147,2],(A3 h).symm,yF,?_⟩
 try simp only[*,go_sem,seval]
 rintro k ⟨_,_,_⟩ y _ h
 simp only[go_sem,seval,Zb] at y
 obtain ⟨⟨_,_,_,_,_⟩,_,_,_,hn⟩:=y
 subst hn
 have:=ZB (w.length)
 try simp only[*,go_sem,seval]
 refine ⟨_,[],[0,1],(A3 h).symm,yF,?_⟩
 try simp only[*,go_sem,seval]
 rintro f ⟨_,_,_⟩ z _ h
 simp only[go_sem,seval,Zb] at z
 obtain ⟨⟨_,_,_⟩,_,_,hn⟩:=z
 subst hn
 have:=ZB (r_0.thn.length)
 cases h
 try simp only[*,go_sem,seval]
theorem Zg5 {append_0:Zx} {String_1:Zc} {a_2:(List Zi)} {r:((List Zi) × Bool)} (h:Zbp append_0 String_1 a_2=some r):Zm prog J0 81 [(true,Qp append_0),(true,Zs String_1),(false,[.sl 162 2 (A0 ZR a_2)])] [(false,[(false,.sl 162 2 (A0 ZR r.1))]),(false,[(false,.bool r.2)])]:=by
 refine fnk func81 rfl ?_
 unfold Zbp at h
 simp only[fnS,f81,Zo,go_sem,seval]
 obtain ⟨_,g,h⟩:=Za h
 refine Zd (Qk g) ?_
 try simp only[*,go_sem,seval]
 refine yB h (fun _ h=>?_) fun _ h=>?_
 obtain ⟨_,k,h⟩:=Za h
 refine Zd (Zk1 k) ?_
 try simp only[*,go_sem,seval]
 refine yB h (fun _ h=>?_) fun _ h=>?_
 obtain ⟨_,l,h⟩:=Za h
 refine Zd (Zan l) ?_
 try simp only[*,go_sem,seval]
 iterate 3 refine yB h (fun _ h=>?_) fun _ h=>?_
 cases h
 try simp only[*,go_sem,seval]
 obtain ⟨_,m,h⟩:=Za h
 refine Zd (ZeN m) ?_
 try simp only[*,go_sem,seval]
 refine Zh h (fun i a st=>IV [(3,.bp 0 0),(4,.bp 1 0),(8,.p false [.row 2]),(9,yL i)] [.box 78 [.c (.str append_0.rel),.c (yU append_0.args)],zC 53 (Zs String_1),.row 162 2 (A0 ZR a) 2] st) [] [0,16,544] yF yD ?_ ?_
 rintro _ _ a ⟨_,_,_⟩ _ b d o h e
 simp only[go_sem,seval,Zb] at d
 obtain ⟨⟨_,_,_,_⟩,q,_,_,hn⟩:=d
 subst hn
 have t:=WF.boxL o q (j:=1) rfl
 have:=ZC b
 have:=ZE b
 have:=Zk (ZD b) t
 try simp only[*,go_sem,seval]
 obtain ⟨_,u,h⟩:=Za h
 refine Zd (QA u) ?_
 try simp only[*,go_sem,seval]
 refine yB h (fun _ h=>?_) fun _ h=>?_
 obtain ⟨_,_,_,v,h⟩:=ZcM h
 simp only[A9] at v
 try simp only[*,go_sem,seval]
 refine yB h (fun _ h=>?_) fun _ h=>?_
 refine ⟨_,[],[0,1,2],(A3 h).symm,yF,?_⟩
 try simp only[*,go_sem,seval]
 replace h:=Zr h e
 cases h
 try simp only[*,go_sem,seval]
 obtain ⟨_,_,_,w,h⟩:=ZcM h
 simp only[A9] at w
 try simp only[*,go_sem,seval]
 obtain ⟨_,x,h⟩:=Za h
 refine Zd (Zrp x) ?_
 try simp only[*,go_sem,seval]
 refine yB h (fun _ h=>?_) fun _ h=>?_
 refine ⟨_,[],[0,1,355],(A3 h).symm,yF,?_⟩
 try simp only[*,go_sem,seval]
 replace h:=Zr h e
 cases h
 try simp only[*,go_sem,seval]
 rintro a ⟨_,_,_⟩ f _ h
 simp only[go_sem,seval,Zb] at f
 obtain ⟨⟨_,_,_,_⟩,_,_,_,hn⟩:=f
 subst hn
 have:=ZB (append_0.args.length)
 iterate 5 (cases h;try simp only[*,go_sem,seval])
end
section
theorem Zfq {p_0:Zx} {b_1:(List Zi)} {r:(Zc × Bool)} (h:XA p_0 b_1=some r):Zm prog J0 173 [(true,Qp p_0),(false,[.sl 162 2 (A0 ZR b_1)])] [(true,[(false,.str r.1.rel),(false,.sl 9 1 (A0 ZA r.1.args))]),(false,[(false,.bool r.2)])]:=by
 refine fnk func173 rfl ?_
 unfold XA at h
 simp only[fnS,f173,Zo,go_sem,seval]
 obtain ⟨_,f,h⟩:=Za h
 refine Zd (Qk f) ?_
 try simp only[*,go_sem,seval]
 refine yB h (fun _ h=>?_) fun _ h=>?_
 obtain ⟨_,g,h⟩:=Za h
 refine Zd (Zan g) ?_
 try simp only[*,go_sem,seval]
 refine yB h (fun _ h=>?_) fun _ h=>?_
 refine Zh h (fun i a st=>IV [(1,yM (yX b_1)),(2,.bp 0 0),(4,.bp 1 0),(6,.bp 2 0),(7,yL i)] [.box 78 [.c (.str p_0.rel),.c (yU p_0.args)],.box 53 [.c (.str ⟨#[]⟩),.nil 9 1],.box 53 [.c (.str p_0.rel),.row 3],.row 9 1 (A0 ZA a) 2] st) [(true,224,1)] [0,16,224,272] yF yD ?_ ?_
 rintro _ _ a ⟨_,_,_⟩ _ b d k h l
 simp only[go_sem,seval,Zb] at d
 obtain ⟨⟨_,_,_,_,_⟩,m,_,_,_,hn⟩:=d
 subst hn
 have o:=WF.boxL k m (j:=1) rfl
 have:=ZC b
 have:=ZE b
 have:=Zk (ZD b) o
 try simp only[*,go_sem,seval]
 obtain ⟨_,q,h⟩:=Za h
 refine Zd (Zdu q) ?_
 try simp only[*,go_sem,seval]
 refine yB h (fun _ h=>?_) fun _ h=>?_
 obtain ⟨t,h⟩:=Zv h
 try simp only[Nat.reduceLeDiff] at t
 try simp only[*,go_sem,seval]
 refine ⟨_,[],[0,1,2,372],(A3 h).symm,yF,?_⟩
 try simp only[*,go_sem,seval]
 replace h:=Zr h l
 cases h
 try simp only[*,go_sem,seval]
 rintro a ⟨_,_,_⟩ e _ h
 simp only[go_sem,seval,Zb] at e
 obtain ⟨⟨_,_,_,_,_⟩,_,_,_,_,hn⟩:=e
 subst hn
 have:=ZB (p_0.args.length)
 iterate 3 (cases h;try simp only[*,go_sem,seval])
theorem ZoP {b:Zt} {r:(List Int)} (h:Zee b=some r):Zm prog J0 233 [(true,Qu b)] [(false,[(false,.sl 3 1 (A0 ZO r))])]:=by
 refine fnk func233 rfl ?_
 unfold Zee at h
 simp only[fnS,f233,Zo,go_sem,seval]
 obtain ⟨_,z,h⟩:=Za h
 refine Zd (ZeL z) ?_
 try simp only[*,go_sem,seval]
 refine yB h (fun _ h=>?_) fun _ h=>?_
 obtain ⟨d,A,h⟩:=Za h
 refine Zd (Zox A) ?_
 try simp only[*,go_sem,seval]
 refine Xj h (fun s st=>match s with | (l,m)=>IV [(1,.bp 0 0),(3,.p false [.row 1]),(4,.p false [.row 2]),(5,yM (.int .i64 m))] [.box 140 [.c (.int .i64 b.nodes),.c (zA b.reasons)],.row 3 1 (A0 ZO d) 2,.row 3 1 (A0 ZO l) 2] st) [] [0,96,128] yF yD ?_
 rintro ⟨l,m⟩ ⟨_,_,_⟩ _ o _ h B
 simp only[go_sem,seval,Zb] at o
 obtain ⟨⟨_,_,_,_⟩,_,_,_,hn⟩:=o
 subst hn
 try simp only[*,go_sem,seval]
 refine yB h (fun _ h=>?_) fun _ h=>?_
 obtain ⟨C,h⟩:=Zv h
 try simp only[Nat.reduceLeDiff] at C
 try simp only[*,go_sem,seval]
 refine ⟨_,[],[0,1,99],(A3 h).symm,yF,?_⟩
 try simp only[*,go_sem,seval]
 refine Xj h (fun s st=>match s with | (q,t,e)=>IV [(1,.bp 0 0),(3,.p false [.row 1]),(4,.p false [.row 2]),(6,yM (.int .i64 t)),(7,yM (.int .i64 e))] [.box 140 [.c (.int .i64 b.nodes),.c (zA b.reasons)],.row 3 1 (A0 ZO d) 2,.row 3 1 (A0 ZO q) 2] st) [] [0,1,2] yF yD ?_
 rintro ⟨q,t,e⟩ ⟨_,_,_⟩ _ u _ h D
 simp only[go_sem,seval,Zb] at u
 obtain ⟨⟨_,_,_,_,_⟩,_,_,_,hn⟩:=u
 subst hn
 try simp only[*,go_sem,seval]
 refine yB h (fun _ h=>?_) fun _ h=>?_
 obtain ⟨_,E,h⟩:=Za h
 refine Zd (ZiI E) ?_
 try simp only[*,go_sem,seval]
 refine Xj h (fun s st=>match s with | (v,f,g)=>IV [(1,.bp 0 0),(3,.p false [.row 1]),(4,.p false [.row 2]),(6,yM (.int .i64 g)),(7,yM (.int .i64 e)),(8,.p false [.row 3])] [.box 140 [.c (.int .i64 b.nodes),.c (zA b.reasons)],.row 3 1 (A0 ZO d) 2,.row 3 1 (A0 ZO v) 2,.row 3 1 (A0 ZO f) 2] st) [] [0,1,2,147] yF yD ?_
 rintro ⟨v,f,g⟩ ⟨_,_,_⟩ _ w _ h F
 simp only[go_sem,seval,Zb] at w
 obtain ⟨⟨_,_,_,_,_,_⟩,_,_,_,_,hn⟩:=w
 subst hn
 try simp only[*,go_sem,seval]
 refine yB h (fun _ h=>?_) fun _ h=>?_
 refine Zh h (fun i j st=>IV [(1,.bp 0 0),(3,.p false [.row 1]),(4,.p false [.row 2]),(6,yM (.int .i64 g)),(7,yM (.int .i64 e)),(8,.p false [.row 3]),(9,yL i)] [.box 140 [.c (.int .i64 b.nodes),.c (zA b.reasons)],.row 3 1 (A0 ZO d) 2,.row 3 1 (A0 ZO j) 2,.row 3 1 (A0 ZO f) 2] st) [] [0,1,2,3] yF yD ?_ ?_
 rintro _ _ j ⟨_,_,_⟩ _ k x G h _
 simp only[go_sem,seval,Zb] at x
 obtain ⟨⟨_,_,_,_,_,_,_⟩,_,_,_,H,hn⟩:=x
 subst hn
 have I:=WF.rowL G H
 have:=ZC k
 have:=ZE k
 have:=Zk (ZD k) I
 obtain ⟨_,h⟩:=Zv h
 obtain ⟨_,_,h⟩:=Za h
 try simp only[*,go_sem,seval]
 refine ⟨_,[],[0,1,2,3],(A3 h).symm,yF,?_⟩
 try simp only[*,go_sem,seval]
 rintro j ⟨_,_,_⟩ y _ h
 simp only[go_sem,seval,Zb] at y
 obtain ⟨⟨_,_,_,_,_,_,_⟩,_,_,_,_,hn⟩:=y
 subst hn
 have:=ZB (f.length)
 try simp only[*,go_sem,seval]
 obtain ⟨_,J,h⟩:=Za h
 refine Zd (ZiI J) ?_
 try simp only[*,go_sem,seval]
 refine ⟨_,[],[0,1,2,196],(A3 h).symm,yF,?_⟩
 try simp only[*,go_sem,seval]
 replace h:=Zr h F
 refine ⟨_,[],[0,1,2],(A3 h).symm,yF,?_⟩
 try simp only[*,go_sem,seval]
 replace h:=Zr h D
 replace h:=Zr h B
 iterate 2 (cases h;try simp only[*,go_sem,seval])
end
section
theorem ZmA {append_0:Zl} {String_1:(List Zi)} {r:Bool} (h:Zc9 append_0 String_1=some r):Zm prog J0 199 [(true,ZJ append_0),(false,[.sl 162 2 (A0 ZR String_1)])] [(false,[(false,.bool r)])]:=by
 refine fnk func199 rfl ?_
 unfold Zc9 at h
 simp only[fnS,f199,Zo,go_sem,seval]
 obtain ⟨_,a,h⟩:=Za h
 refine Zd (Zrl a) ?_
 try simp only[*,go_sem,seval]
 refine yB h (fun _ h=>?_) fun _ h=>?_
 obtain ⟨_,b,h⟩:=Za h
 refine Zd (Zas b) ?_
 try simp only[*,go_sem,seval]
 refine yB h (fun _ h=>?_) fun _ h=>?_
 obtain ⟨_,c,h⟩:=Za h
 refine Zd (Zdw c) ?_
 try simp only[*,go_sem,seval]
 obtain ⟨_,d,h⟩:=Za h
 refine Zd (Zdw d) ?_
 try simp only[*,go_sem,seval]
 iterate 3 refine yB h (fun _ h=>?_) fun _ h=>?_
 cases h
 try simp only[*,go_sem,seval]
 refine yB h (fun _ h=>?_) fun _ h=>?_
 cases h
 try simp only[*,go_sem,seval]
 obtain ⟨_,e,h⟩:=Za h
 refine Zd (ZcG e) ?_
 try simp only[*,go_sem,seval]
 obtain ⟨_,f,h⟩:=Za h
 refine Zd (ZcG f) ?_
 try simp only[*,go_sem,seval]
 iterate 2 refine yB h (fun _ h=>?_) fun _ h=>?_
 iterate 7 (cases h;try simp only[*,go_sem,seval])
theorem ZhM {append_0:Zg} {r:Bool} (h:Zex append_0=some r):Zm prog J0 129 [(true,ZL append_0)] [(false,[(false,.bool r)])]:=by
 refine fnk func129 rfl ?_
 unfold Zex at h
 simp only[fnS,f129,Zo,go_sem,seval]
 obtain ⟨_,v,h⟩:=Za h
 refine Zd (Zhr v) ?_
 try simp only[*,go_sem,seval]
 iterate 2 refine yB h (fun _ h=>?_) fun _ h=>?_
 iterate 5 (cases h;(try simp only[*,go_sem,seval]);refine Ze h (fun _ h=>?_) fun _ h=>?_<;>try simp only[*,go_sem,seval])
 cases h
 try simp only[*,go_sem,seval]
 refine Zh h (fun i _ st=>IV [(1,.bp 0 0),(49,yM (yW append_0.cond)),(50,yL append_0.cond.length),(51,yL i)] [zC 76 (ZL append_0)] st) [] [0] yF yD ?_ ?_
 rintro _ _ ⟨⟩ ⟨_,_,_⟩ _ a g w h b
 simp only[go_sem,seval,Zb] at g
 obtain ⟨⟨_,x,_,_⟩,_,hn⟩:=g
 subst hn
 have y:=WF.slotL w x (j:=0) rfl
 have:=ZC a
 have:=ZE a
 have:=Zk (ZD a) y
 try simp only[*,go_sem,seval]
 obtain ⟨_,z,h⟩:=Za h
 refine Zd (ZhF z) ?_
 try simp only[*,go_sem,seval]
 iterate 3 refine yB h (fun _ h=>?_) fun _ h=>?_
 replace h:=Zr h b
 cases h
 try simp only[*,go_sem,seval]
 obtain ⟨_,A,h⟩:=Za h
 refine Zd (Ziz A) ?_
 try simp only[*,go_sem,seval]
 refine yB h (fun _ h=>?_) fun _ h=>?_
 refine ⟨_,[],[0],(A3 h).symm,yF,?_⟩
 try simp only[*,go_sem,seval]
 replace h:=Zr h b
 cases h
 try simp only[*,go_sem,seval]
 obtain ⟨_,B,h⟩:=Za h
 refine Zd (Ziz B) ?_
 try simp only[*,go_sem,seval]
 refine yB h (fun _ h=>?_) fun _ h=>?_
 refine ⟨_,[],[0],(A3 h).symm,yF,?_⟩
 iterate 2 ((try simp only[*,go_sem,seval]);replace h:=Zr h b;cases h)
 try simp only[*,go_sem,seval]
 rintro ⟨⟩ ⟨_,_,_⟩ k _ h
 simp only[go_sem,seval,Zb] at k
 obtain ⟨⟨_,_,_,_⟩,_,hn⟩:=k
 subst hn
 have:=ZB (append_0.cond.length)
 try simp only[*,go_sem,seval]
 obtain ⟨l,C,h⟩:=Za h
 refine Zd (ZdR C) ?_
 try simp only[*,go_sem,seval]
 refine Zh h (fun i _ st=>IV [(1,.bp 0 0),(5,.p false [.row 1]),(81,yM (yZ append_0.thn)),(82,yL append_0.thn.length),(83,yL i)] [zC 76 (ZL append_0),.row 9 1 (A0 ZA l) 2] st) [] [0,81] yF yD ?_ ?_
 rintro D _ ⟨⟩ ⟨_,_,_⟩ _ d m E h o
 simp only[go_sem,seval,Zb] at m
 obtain ⟨⟨_,_,F,_,_⟩,_,_,hn⟩:=m
 subst hn
 have G:=WF.slotL E F (j:=0) rfl
 have:=ZC d
 have:=ZE d
 have:=Zk (ZD d) G
 try simp only[*,go_sem,seval]
 obtain ⟨_,H,h⟩:=Za h
 refine Zd (Zou H) ?_
 try simp only[*,go_sem,seval]
 refine yB h (fun _ h=>?_) fun _ h=>?_
 obtain ⟨e,I,h⟩:=Za h
 refine Zd (Zep I) ?_
 try simp only[*,go_sem,seval]
 refine Zh h (fun i _ st=>IV [(1,.bp 0 0),(5,.p false [.row 1]),(81,yM (yZ append_0.thn)),(82,yL append_0.thn.length),(83,yL D),(93,.p false [.row 2]),(94,yL e.length),(95,yL i)] [zC 76 (ZL append_0),.row 9 1 (A0 ZA l) 2,.row 9 1 (A0 ZA e) 2] st) [] [0,1,178] yF yD ?_ ?_
 rintro _ _ ⟨⟩ ⟨_,_,_⟩ _ f q J h K
 simp only[go_sem,seval,Zb] at q
 obtain ⟨⟨_,_,_,_,_,_,_,_⟩,_,_,L,hn⟩:=q
 subst hn
 have M:=WF.rowL J L
 have:=ZC f
 have:=ZE f
 have:=Zk (ZD f) M
 try simp only[*,go_sem,seval]
 obtain ⟨_,N,h⟩:=Za h
 refine Zd (ZaB N) ?_
 try simp only[*,go_sem,seval]
 refine yB h (fun _ h=>?_) fun _ h=>?_
 refine ⟨_,[],[0,1,2],(A3 h).symm,yF,?_⟩
 try simp only[*,go_sem,seval]
 replace h:=Zr h K
 replace h:=Zr h o
 cases h
 try simp only[*,go_sem,seval]
 rintro ⟨⟩ ⟨_,_,_⟩ t _ h
 simp only[go_sem,seval,Zb] at t
 obtain ⟨⟨_,_,_,_,_,_,_,_⟩,_,_,_,hn⟩:=t
 subst hn
 have:=ZB (e.length)
 try simp only[*,go_sem,seval]
 refine ⟨_,[],[0,1],(A3 h).symm,yF,?_⟩
 try simp only[*,go_sem,seval]
 replace h:=Zr h o
 cases h
 try simp only[*,go_sem,seval]
 rintro ⟨⟩ ⟨_,_,_⟩ u _ h
 simp only[go_sem,seval,Zb] at u
 obtain ⟨⟨_,_,_,_,_⟩,_,_,hn⟩:=u
 subst hn
 have:=ZB (append_0.thn.length)
 try simp only[*,go_sem,seval]
 obtain ⟨_,O,h⟩:=Za h
 refine Zd (ZlB O) ?_
 try simp only[*,go_sem,seval]
 obtain ⟨_,P,h⟩:=Za h
 refine Zd (Qy P) ?_
 iterate 2 (cases h;try simp only[*,go_sem,seval])
theorem Zhi {x_0:Zl} {r:Bool} (h:ZbV x_0=some r):Zm prog J0 182 [(true,ZJ x_0)] [(false,[(false,.bool r)])]:=by
 refine fnk func182 rfl ?_
 unfold ZbV at h
 simp only[fnS,f182,Zo,go_sem,seval]
 obtain ⟨_,a,h⟩:=Za h
 refine Zd (ZgO a) ?_
 try simp only[*,go_sem,seval]
 refine yB h (fun _ h=>?_) fun _ h=>?_
 iterate 2 (cases h;try simp only[*,go_sem,seval])
theorem Zd2 {p_0:Zx} {b_1:(List Zi)} {facts_2:(List Zc)} {r:(List Zc)} (h:XQ p_0 b_1 facts_2=some r):Zm prog J0 283 [(true,Qp p_0),(false,[.sl 162 2 (A0 ZR b_1)]),(false,[.sl 53 2 (A0 Zs facts_2)])] [(false,[(false,.sl 53 2 (A0 Zs r))])]:=by
 refine fnk func283 rfl ?_
 unfold XQ at h
 simp only[fnS,f283,Zo,go_sem,seval]
 refine Zh h (fun i a st=>IV [(1,yM (yX b_1)),(2,yM (yT facts_2)),(3,.bp 0 0),(7,.p false [.row 1]),(8,yL i)] [.box 78 [.c (.str p_0.rel),.c (yU p_0.args)],.row 53 2 (A0 Zs a) 2] st) [] [0,32] yF yD ?_ ?_
 rintro _ _ a ⟨_,_,_⟩ _ b d f h _
 simp only[go_sem,seval,Zb] at d
 obtain ⟨⟨_,g,_,_,_⟩,_,_,hn⟩:=d
 subst hn
 have k:=WF.slotL f g (j:=0) rfl
 have:=ZC b
 have:=ZE b
 have:=Zk (ZD b) k
 try simp only[*,go_sem,seval]
 obtain ⟨_,l,h⟩:=Za h
 refine Zd (Zg5 l) ?_
 try simp only[*,go_sem,seval]
 refine yB h (fun _ h=>?_) fun _ h=>?_
 obtain ⟨_,m,h⟩:=Za h
 refine Zd (Xr m) ?_
 obtain ⟨o,h⟩:=Zv h
 try simp only[Nat.reduceLeDiff] at o
 try simp only[*,go_sem,seval]
 refine ⟨_,[],[0,386],(A3 h).symm,yF,?_⟩
 try simp only[*,go_sem,seval]
 refine ⟨_,[],[0,1],(A3 h).symm,yF,?_⟩
 try simp only[*,go_sem,seval]
 rintro a ⟨_,_,_⟩ e _ h
 simp only[go_sem,seval,Zb] at e
 obtain ⟨⟨_,_,_,_,_⟩,_,_,hn⟩:=e
 subst hn
 have:=ZB (facts_2.length)
 cases h
 try simp only[*,go_sem,seval]
theorem ZnO {append_0:Zg} {String_1:Int} {a_2:Zq} {a_3:(List Zc)} {r:Zf} (h:ZbA append_0 String_1 a_2 a_3=some r):Zm prog J0 211 [(true,ZL append_0),(false,[.int .i64 String_1]),(true,YU a_2),(false,[.sl 53 2 (A0 Zs a_3)])] [(true,[(false,.int .i64 r.for_),(false,.sl 3 1 (A0 ZO r.inn)),(false,.sl 3 1 (A0 ZO r.outs))])]:=by
 refine fnk func211 rfl ?_
 unfold ZbA at h
 simp only[fnS,f211,Zo,go_sem,seval]
 obtain ⟨_,_,_,_,h⟩:=ZcM h
 try simp only[*,go_sem,seval]
 obtain ⟨d,g,h⟩:=Za h
 refine Zd (Zfq g) ?_
 try simp only[*,go_sem,seval]
 refine Zh h (fun i a st=>IV [(3,yM (yT a_3)),(4,.bp 0 0),(6,.bp 1 0),(8,.bp 2 0),(9,.bp 3 0),(11,.p false [.row 5]),(12,yL i)] [zC 76 (ZL append_0),zC 111 (YU a_2),.box 179 [.c (.int .i64 0),.nil 3 1,.nil 3 1],.box 53 [.c (.str d.1.rel),.row 4],.row 9 1 (A0 ZA d.1.args) 2,.row 53 2 (A0 Zs a) 2] st) [] [0,16,32,240,176,288] yF yD ?_ ?_
 rintro _ _ a ⟨_,_,_⟩ _ b e k h _
 simp only[go_sem,seval,Zb] at e
 obtain ⟨⟨_,_,_,_,_,_,_⟩,l,_,_,_,_,_,hn⟩:=e
 subst hn
 have m:=WF.boxL k l (j:=2) rfl
 have:=ZC b
 have:=ZE b
 have:=Zk (ZD b) m
 try simp only[*,go_sem,seval]
 refine yB h (fun _ h=>?_) fun _ h=>?_
 obtain ⟨_,o,h⟩:=Za h
 refine Zd (Zfq o) ?_
 obtain ⟨q,h⟩:=Zv h
 try simp only[Nat.reduceLeDiff] at q
 try simp only[*,go_sem,seval]
 refine ⟨_,[],[0,1,2,3,4,486],(A3 h).symm,yF,?_⟩
 try simp only[*,go_sem,seval]
 refine ⟨_,[],[0,1,2,3,4,5],(A3 h).symm,yF,?_⟩
 try simp only[*,go_sem,seval]
 rintro a ⟨_,_,_⟩ f _ h
 simp only[go_sem,seval,Zb] at f
 obtain ⟨⟨_,_,_,_,_,_,_⟩,_,_,_,_,_,_,hn⟩:=f
 subst hn
 have:=ZB (append_0.cond.length)
 try simp only[*,go_sem,seval]
 obtain ⟨_,t,h⟩:=Za h
 refine Zd (Zfa t) ?_
 try simp only[*,go_sem,seval]
 obtain ⟨_,u,h⟩:=Za h
 refine Zd (ZiF u) ?_
 try simp only[*,go_sem,seval]
 obtain ⟨_,v,h⟩:=Za h
 refine Zd (ZiF v) ?_
 cases h
 try simp only[*,go_sem,seval]
theorem Zog {b_0:Zt} {r:(List Bool)} (h:Zeu b_0=some r):Zm prog J0 164 [(true,Qu b_0)] [(false,[(false,.sl 4 1 (A0 Ze4 r))])]:=by
 refine fnk func164 rfl ?_
 unfold Zeu at h
 simp only[fnS,f164,Zo,go_sem,seval]
 obtain ⟨d,g,h⟩:=Za h
 refine Zd (ZoP g) ?_
 try simp only[*,go_sem,seval]
 refine Zh h (fun i a st=>IV [(3,.p false [.row 0]),(4,.p false [.row 1]),(5,yL i)] [.row 3 1 (A0 ZO d) 2,.row 4 1 (A0 Ze4 a) 2] st) [] [48,80] yF yD ?_ ?_
 rintro _ _ a ⟨_,_,_⟩ _ b e j h _
 simp only[go_sem,seval,Zb] at e
 obtain ⟨⟨_,_,_⟩,k,_,hn⟩:=e
 subst hn
 have l:=WF.rowL j k
 have:=ZC b
 have:=ZE b
 have:=Zk (ZD b) l
 obtain ⟨m,h⟩:=Zv h
 try simp only[Nat.reduceLeDiff] at m
 try simp only[*,go_sem,seval]
 refine ⟨_,[],[0,178],(A3 h).symm,yF,?_⟩
 try simp only[*,go_sem,seval]
 rintro a ⟨_,_,_⟩ f _ h
 simp only[go_sem,seval,Zb] at f
 obtain ⟨⟨_,_,_⟩,_,_,hn⟩:=f
 subst hn
 have:=ZB (d.length)
 cases h
 try simp only[*,go_sem,seval]
end
end Go.Proofs.YtlpkbfjcdaanmaaGreatDoor
