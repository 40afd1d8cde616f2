/- Texts of this proof, joined: Dp2, Dp4, Dp6, Dp5, Dp7, BTail, BStd, DE, So, SoI, Fa, Fb, Fc2, Fl, Dp8. What each holds is said at its theorems. -/
import Derived.Test.YtaafhjecikjhbaaGreatDoorFollowsQ6
import Derived.Test.YtaafhjecikjhbaaGreatDoorFollowsQ5
import Derived.Test.YtaafhjecikjhbaaGreatDoorFollowsQ1
import Derived.Test.YtaafhjecikjhbaaGreatDoorProg
import Derived.Outline
import Derived.WalkSpells
import Derived.StillTailTactics
import Derived.Deep.QuietTactic
import Derived.Shelf.RegionOpenPlain
import Derived.Lib.ReflectliteSwap
import Derived.OwnWalk
open Array renaming getElem?_eq_some_iff→AG,range→AJ,getElem?_toList→AK,replicate→AP,getElem?_setIfInBounds→AS
open Int renaming toNat_natCast→AA,toNat→AD
open List renaming map→A0,append_nil→A5,nil_append→A6,append_assoc→A9,getElem?_map→AC,length_map→AE,range→AH,map_cons→AL,map_nil→AN,map_append→AO,mem_append_left→AT,getElem?_take_of_lt→AU,getElem?_drop→AW,getElem?_eq_none→AX
open List.Sublist renaming append→AQ
open Nat renaming le_refl→AB,zero_le→AF,le_trans→AI,add_sub_cancel→AR
open Option.some renaming inj→A4
open Go.Proofs.Tryz
set_option linter.unusedSimpArgs false
set_option linter.unusedVariables false
set_option maxRecDepth 1000000
set_option maxHeartbeats 4000000
open Go.Lib renaming hid→yS
namespace Go.Proofs.YtaafhjecikjhbaaGreatDoor
section
theorem Zhh {c_0:Zp}{n_1:Int}{r:(Bool×Zp)}(h:ZdA c_0 n_1=some r):XQ prog J0 JF0 88 (.box 103 (YO c_0)) [(false,[.int .i64 n_1])] [(false,[(false,.bool r.1)])] (.box 103 (YO r.2)):=by
 refine fnh func88 rfl ?_
 unfold ZdA at h
 simp only[fnH,f88,Qu,Qp,YT,go_sem,seval]
 obtain ⟨_,a,h⟩:=Zy h
 refine Yl (Xm a) ?_
 cases h;exact yD
theorem ZiT {c_0:Zp}{list_1:(List Int)}{r:(Int×Zp)}(h:Zd2 c_0 list_1=some r):XQ prog J0 JF0 21 (.box 103 (YO c_0)) [(false,[.sl 3 1 (A0 Yc list_1)])] [(false,[(false,.int .i64 r.1)])] (.box 103 (YO r.2)):=by
 refine fnh func21 rfl ?_
 unfold Zd2 at h
 simp only[fnH,f21,Qu,Qp,YT,go_sem,seval]
 obtain ⟨_,a,h⟩:=Zy h
 refine Yl (Xm a) ?_
 obtain ⟨_,_,_,_,h⟩:=ZaE h
 cases h;exact yD
theorem Zn1 {c_0:Zp}{list_1:(List ByteArray)}{r:(ByteArray×Zp)}(h:Zii c_0 list_1=some r):XQ prog J0 JF0 91 (.box 103 (YO c_0)) [(false,[.sl 9 1 (A0 ZE list_1)])] [(false,[(false,.str r.1)])] (.box 103 (YO r.2)):=by
 refine fnh func91 rfl ?_
 unfold Zii at h
 have a:Z7 ⟨#[]⟩=true:=by decide
 simp only[fnH,f91,Qu,Qp,YT,go_sem,seval,a]
 obtain ⟨_,b,h⟩:=Zy h
 refine Yl (Xm b) ?_
 obtain ⟨_,_,_,_,h⟩:=ZaE h
 cases h;exact yD
theorem ZcT {s_0:ByteArray}{r:Bool}(h:ZcI s_0=some r):Zm prog J0 134 [(false,[.str s_0])] [(false,[(false,.bool r)])]:=by
 refine fnk func134 rfl ?_
 unfold ZcI at h
 simp only[fnS,f134,Zq,go_sem,seval]
 refine yB h (fun _ h=>?_) fun _ h=>?_
 obtain ⟨_,_,a,h⟩:=Ztv h
 try simp only[seval]at a
 simp only[*,go_sem,seval]
 refine yB h (fun _ h=>?_) fun _ h=>?_
 obtain ⟨_,h⟩:=Zz h
 simp only[*,go_sem,seval]
 refine Zb h fun _ b h=>Za (Zg0 b) ?_
 iterate 3 (cases h;exact yD)
theorem ZlC {s_0:ByteArray}{r:Bool}(h:ZfA s_0=some r):Zm prog J0 166 [(false,[.str s_0])] [(false,[(false,.bool r)])]:=by
 refine fnk func166 rfl ?_
 unfold ZfA at h
 simp only[fnS,f166,Zq,go_sem,seval]
 refine Zb h fun _ a h=>Za (Zg0 a)<|yA ?_
 refine yB h (fun _ h=>?_) fun _ h=>?_
 obtain ⟨_,_,b,h⟩:=Ztv h
 try simp only[seval]at b
 simp only[*,go_sem,seval]
 refine Zb h fun _ c h=>Za (ZbV c) ?_
 iterate 2 (cases h;exact yD)
theorem Zne {c_0:Zp}{r:(ByteArray×Int×Zp)}(h:Zh7 c_0=some r):XQ prog J0 JF0 50 (.box 103 (YO c_0)) [] [(false,[(false,.str r.1)]),(false,[(false,.int .i64 r.2.1)])] (.box 103 (YO r.2.2)):=by
 refine fnh func50 rfl ?_
 unfold Zh7 at h
 have b:Z7 ⟨#[111,110]⟩=true:=by decide
 have c:Z7 ⟨#[112]⟩=true:=by decide
 have d:Z7 ⟨#[113]⟩=true:=by decide
 have e:Z7 ⟨#[122]⟩=true:=by decide
 have f:Z7 ⟨#[97,116]⟩=true:=by decide
 have g:Z7 ⟨#[]⟩=true:=by decide
 simp only[fnH,f50,Qu,Qp,YT,go_sem,seval,b,c,d,e,f,g]
 obtain ⟨a,i,h⟩:=Zy h
 refine Yl (Xm i) ?_
 obtain ⟨j,h⟩:=Zz h
 try simp only[seval]at j
 obtain ⟨k,l,h⟩:=Zy h
 have m:(A0 ZE [(⟨#[111,110]⟩),(⟨#[111,110]⟩),(⟨#[97,116]⟩),(⟨#[112]⟩),(⟨#[113]⟩),(⟨#[122]⟩)])[(AD a.1)]?=some (ZE k):=by rw [AC,l];rfl
 simp only[AL,AN,Zrg]at m
 obtain ⟨o,p,h⟩:=Zy h
 have q:(A0 Yc [2,2,2,1,1,0])[(AD a.1)]?=some (Yc o):=by rw [AC,p];rfl
 simp only[AL,AN,Zl8]at q
 cases h;exact yD
theorem ZaS {s_0:ByteArray}{r:Bool}(h:ZaI s_0=some r):Zm prog J0 115 [(false,[.str s_0])] [(false,[(false,.bool r)])]:=by
 refine fnk func115 rfl ?_
 unfold ZaI at h
 simp only[fnS,f115,Zq,go_sem,seval]
 refine Zb h fun _ a h=>Za (Qe a)<|yA ?_
 refine yB h (fun _ h=>?_) fun _ h=>?_
 cases h;exact yD
 refine Zb h fun _ b h=>Za (Zdd b) ?_
 cases h;exact yD
theorem Zez {l_0:(List ByteArray)}{r:(List ByteArray)}(h:ZaP l_0=some r):Zm prog J0 96 [(false,[.sl 9 1 (A0 ZE l_0)])] [(false,[(false,.sl 9 1 (A0 ZE r))])]:=by
 refine fnk func96 rfl ?_
 unfold ZaP at h
 simp only[fnS,f96,Zq,go_sem,seval]
 refine Zn h (fun i a st=>IV [(3,.p false [.row 0]),(6,yM (yV l_0)),(7,yL l_0.length),(8,yL i)] [.row 9 1 (A0 ZE a) 2] st) [(false,3,0)] [80] yF yD ?_ ?_
 rintro _ _ a ⟨_,_,_⟩ _ b d f h _
 simp only[go_sem,seval,Zd]at d
 obtain ⟨⟨_,g,_,_⟩,_,hn⟩:=d
 subst hn
 have k:=WF.slotL f g (j:=0) rfl
 have:=Z0 b
 have:=Z2 b
 have:=Zt (Z1 b) k
 simp only[*,go_sem,seval]
 refine Zb h fun _ l h=>Za (Zdd l)<|yA ?_
 refine yB h (fun _ h=>?_) fun _ h=>?_
 obtain ⟨m,h⟩:=Zz h
 try simp only[Nat.reduceLeDiff]at m
 simp only[*,go_sem,seval]
 exact yR h [145]
 exact yR h [0]
 rintro a ⟨_,_,_⟩ e _ h
 simp only[go_sem,seval,Zd]at e
 obtain ⟨⟨_,_,_,_⟩,_,hn⟩:=e
 subst hn
 have:=ZW (l_0.length)
 cases h;exact yD
theorem Qn {x_0:Zj}{r:Zj}(h:Y1 x_0=some r):Zm prog J0 76 [(true,ZR x_0)] [(true,[(false,.int .i64 r.kind),(false,.str r.pattern.rel),(false,.sl 9 1 (A0 ZE r.pattern.args)),(false,.str r.left),(false,.str r.right)])]:=by
 refine fnk func76 rfl ?_
 unfold Y1 at h
 simp only[fnS,f76,Zq,go_sem,seval]
 refine Zb h fun _ a h=>Za (Zc4 a) ?_
 cases h;exact yD
theorem Zny {x_0:Z6}{r:Z6}(h:Zfj x_0=some r):Zm prog J0 56 [(true,Yx x_0)] [(true,[(false,.int .i64 r.kind),(false,.str r.rule),(false,.str r.fact.rel),(false,.sl 9 1 (A0 ZE r.fact.args))])]:=by
 refine fnk func56 rfl ?_
 unfold Zfj at h
 simp only[fnS,f56,Zq,go_sem,seval]
 refine Zb h fun _ a h=>Za (Ys a) ?_
 cases h;exact yD
theorem Zgf {l_0:(List Zv)}{r:(List Zg)}(h:Za7 l_0=some r):Zm prog J0 44 [(false,[.sl 98 3 (A0 Z4 l_0)])] [(false,[(false,.sl 36 2 (A0 Zr r))])]:=by
 refine fnk func44 rfl ?_
 unfold Za7 at h
 simp only[fnS,f44,Zq,go_sem,seval]
 refine Zn h (fun i a st=>IV [(3,.p false [.row 0]),(6,yM (zA l_0)),(7,yL l_0.length),(8,yL i)] [.row 36 2 (A0 Zr a) 2] st) [(false,3,0)] [80] yF yD ?_ ?_
 rintro _ _ a ⟨_,_,_⟩ _ b d f h _
 simp only[go_sem,seval,Zd]at d
 obtain ⟨⟨_,g,_,_⟩,_,hn⟩:=d
 subst hn
 have k:=WF.slotL f g (j:=0) rfl
 have:=Z0 b
 have:=Z2 b
 have:=Zt (Z1 b) k
 simp only[*,go_sem,seval]
 refine Zb h fun _ l h=>Za (Ys l) ?_
 obtain ⟨m,h⟩:=Zz h
 try simp only[Nat.reduceLeDiff]at m
 simp only[*,go_sem,seval]
 exact yR h [161]
 rintro a ⟨_,_,_⟩ e _ h
 simp only[go_sem,seval,Zd]at e
 obtain ⟨⟨_,_,_,_⟩,_,hn⟩:=e
 subst hn
 have:=ZW (l_0.length)
 cases h;exact yD
theorem Y9 {f_0:Zg}{r:Bool}(h:XA f_0=some r):Zm prog J0 27 [(true,Zr f_0)] [(false,[(false,.bool r)])]:=by
 refine fnk func27 rfl ?_
 unfold XA at h
 simp only[fnS,f27,Zq,go_sem,seval]
 refine Zb h fun _ e h=>Za (Xr e)<|yA ?_
 iterate 2 refine yB h (fun _ h=>?_) fun _ h=>?_
 cases h;exact yD
 refine Zn h (fun i _ st=>IV [(16,yM (yV f_0.args)),(17,yL f_0.args.length),(18,yL i)] [] st) [] [] yF yD ?_ ?_
 rintro _ _ ⟨⟩ ⟨_,_,_⟩ _ a b f h g
 simp only[go_sem,seval,Zd]at b
 obtain ⟨⟨k,_,_⟩,hn⟩:=b
 subst hn
 have l:=WF.slotL f k (j:=0) rfl
 have:=Z0 a
 have:=Z2 a
 have:=Zt (Z1 a) l
 simp only[*,go_sem,seval]
 refine Zb h fun _ m h=>Za (Qe m)<|yA ?_
 refine yB h (fun _ h=>?_) fun _ h=>?_
 exact yR h []
 replace h:=Zw h g
 cases h;exact yD
 rintro ⟨⟩ ⟨_,_,_⟩ d _ h
 simp only[go_sem,seval,Zd]at d
 obtain ⟨⟨_,_,_⟩,hn⟩:=d
 subst hn
 have:=ZW (f_0.args.length)
 iterate 2 (cases h;exact yD)
theorem Zkf {a_0:ByteArray}{b_1:ByteArray}{r:Int}(h:ZaH a_0 b_1=some r):Zm prog J0 105 [(false,[.str a_0]),(false,[.str b_1])] [(false,[(false,.int .i64 r)])]:=by
 refine fnk func105 rfl ?_
 unfold ZaH at h
 simp only[fnS,f105,Zq,go_sem,seval]
 refine Zb h fun _ a h=>Za (Zdk a)<|yA ?_
 refine Zb h fun _ b h=>Za (Zdk b)<|yA ?_
 iterate 2 refine yB h (fun _ h=>?_) fun _ h=>?_
 refine Zb h fun _ c h=>Za (Yd c) ?_
 iterate 2 (cases h;exact yD)
 refine yB h (fun _ h=>?_) fun _ h=>?_
 cases h;exact yD
 refine Zb h fun _ d h=>Za (Zje d) ?_
 cases h;exact yD
theorem Zbi {l_0:(List Zv)}{f_1:Zg}{r:Bool}(h:Xg l_0 f_1=some r):Zm prog J0 28 [(false,[.sl 98 3 (A0 Z4 l_0)]),(true,Zr f_1)] [(false,[(false,.bool r)])]:=by
 refine fnk func28 rfl ?_
 unfold Xg at h
 simp only[fnS,f28,Zq,go_sem,seval]
 refine Zn h (fun i _ st=>IV [(3,.bp 0 0),(7,yM (zA l_0)),(8,yL l_0.length),(9,yL i)] [zK 36 (Zr f_1)] st) [] [0] yF yD ?_ ?_
 rintro _ _ ⟨⟩ ⟨_,_,_⟩ _ a b e h f
 simp only[go_sem,seval,Zd]at b
 obtain ⟨⟨_,g,_,_⟩,_,hn⟩:=b
 subst hn
 have k:=WF.slotL e g (j:=0) rfl
 have:=Z0 a
 have:=Z2 a
 have:=Zt (Z1 a) k
 simp only[*,go_sem,seval]
 refine Zb h fun _ l h=>Za (Zbq l)<|yA ?_
 refine yB h (fun _ h=>?_) fun _ h=>?_
 replace h:=Zw h f
 cases h;exact yD
 exact yR h [0]
 rintro ⟨⟩ ⟨_,_,_⟩ d _ h
 simp only[go_sem,seval,Zd]at d
 obtain ⟨⟨_,_,_,_⟩,_,hn⟩:=d
 subst hn
 have:=ZW (l_0.length)
 cases h;exact yD
theorem Zcs {a:Zu}{b:Int}{c:ByteArray}{d:Zg}{r:Zu}(h:YJ a b c d=some r):ZdQ prog J0 JF0 33 31 [(false,.sl 86 4 (A0 Zx a.rules)),(false,.sl 98 3 (A0 Z4 a.memory)),(false,.int .i64 a.clock),(false,.sl 81 2 (A0 Z9 a.fired)),(false,.bool a.halted),(false,.sl 38 4 (A0 Yx a.log))] none [(false,[.int .i64 b]),(false,[.str c]),(true,Zr d)] [] [(false,.sl 86 4 (A0 Zx r.rules)),(false,.sl 98 3 (A0 Z4 r.memory)),(false,.int .i64 r.clock),(false,.sl 81 2 (A0 Z9 r.fired)),(false,.bool r.halted),(false,.sl 38 4 (A0 Yx r.log))]:=by
 refine fno func33 rfl ?_
 unfold YJ at h
 simp only[fnO,f33,Zgt,gvC,go_sem,seval]
 refine Zb h fun v1 e1 h=>Za (Ys e1) ?_
 obtain ⟨p2,h⟩:=Zz h
 try simp only[Nat.reduceLeDiff]at p2
 obtain rfl:=A4 h
 simp only[*,go_sem,seval]
theorem Ye {l_0:(List Zg)}{r:(List Zg)}(h:Yb l_0=some r):Zm prog J0 74 [(false,[.sl 36 2 (A0 Zr l_0)])] [(false,[(false,.sl 36 2 (A0 Zr r))])]:=by
 refine fnk func74 rfl ?_
 unfold Yb at h
 simp only[fnS,f74,Zq,go_sem,seval]
 refine Zn h (fun i a st=>IV [(3,.p false [.row 0]),(6,yM (yU l_0)),(7,yL l_0.length),(8,yL i)] [.row 36 2 (A0 Zr a) 2] st) [(false,3,0)] [80] yF yD ?_ ?_
 rintro _ _ a ⟨_,_,_⟩ _ b d f h _
 simp only[go_sem,seval,Zd]at d
 obtain ⟨⟨_,g,_,_⟩,_,hn⟩:=d
 subst hn
 have k:=WF.slotL f g (j:=0) rfl
 have:=Z0 b
 have:=Z2 b
 have:=Zt (Z1 b) k
 simp only[*,go_sem,seval]
 refine Zb h fun _ l h=>Za (Ys l) ?_
 obtain ⟨m,h⟩:=Zz h
 try simp only[Nat.reduceLeDiff]at m
 simp only[*,go_sem,seval]
 exact yR h [145]
 rintro a ⟨_,_,_⟩ e _ h
 simp only[go_sem,seval,Zd]at e
 obtain ⟨⟨_,_,_,_⟩,_,hn⟩:=e
 subst hn
 have:=ZW (l_0.length)
 cases h;exact yD
theorem Zax {b_0:(List Zo)}{r:Bool}(h:Qd b_0=some r):Zm prog J0 70 [(false,[.sl 152 2 (A0 Yg b_0)])] [(false,[(false,.bool r)])]:=by
 refine fnk func70 rfl ?_
 unfold Qd at h
 simp only[fnS,f70,Zq,go_sem,seval]
 refine yB h (fun _ h=>?_) fun _ h=>?_
 cases h;exact yD
 refine Zn h (fun i _ st=>IV [(0,yM (yZ b_0)),(8,yM (yZ b_0)),(9,yL b_0.length),(10,yL i)] [] st) [] [] yF yD ?_ ?_
 rintro _ _ ⟨⟩ ⟨_,_,_⟩ _ a b f h d
 simp only[go_sem,seval,Zd]at b
 obtain ⟨⟨g,_,_,_⟩,hn⟩:=b
 subst hn
 have k:=WF.slotL f g (j:=0) rfl
 have:=Z0 a
 have:=Z2 a
 have:=Zt (Z1 a) k
 simp only[*,go_sem,seval]
 refine Zb h fun _ l h=>Za (Zdd l)<|yA ?_
 refine yB h (fun _ h=>?_) fun _ h=>?_
 refine Zb h fun _ m h=>Za (Qe m)<|yA ?_
 iterate 2 refine yB h (fun _ h=>?_) fun _ h=>?_
 obtain ⟨_,_,_,_,h⟩:=ZaE h
 simp only[*,go_sem,seval]
 refine yB h (fun _ h=>?_) fun _ h=>?_
 exact yR h []
 replace h:=Zw h d
 cases h;exact yD
 refine ⟨_,[],[],(A4 h).symm,yF,?_⟩
 iterate 2 (simp only[*,go_sem,seval];replace h:=Zw h d;cases h)
 simp only[*,go_sem,seval]
 rintro ⟨⟩ ⟨_,_,_⟩ e _ h
 simp only[go_sem,seval,Zd]at e
 obtain ⟨⟨_,_,_,_⟩,hn⟩:=e
 subst hn
 have:=ZW (b_0.length)
 cases h;exact yD
theorem Zch {b_0:(List Zo)}{term_1:ByteArray}{r:(ByteArray×Bool)}(h:Za0 b_0 term_1=some r):Zm prog J0 71 [(false,[.sl 152 2 (A0 Yg b_0)]),(false,[.str term_1])] [(false,[(false,.str r.1)]),(false,[(false,.bool r.2)])]:=by
 refine fnk func71 rfl ?_
 unfold Za0 at h
 have e:Z7 ⟨#[]⟩=true:=by decide
 simp only[fnS,f71,Zq,go_sem,seval,e]
 refine Zb h fun _ f h=>Za (Qe f)<|yA ?_
 refine yB h (fun _ h=>?_) fun _ h=>?_
 cases h;exact yD
 refine Zb h fun _ g h=>Za (Zdd g)<|yA ?_
 refine yB h (fun _ h=>?_) fun _ h=>?_
 refine Zn h (fun i _ st=>IV [(1,yM (.str term_1)),(14,yM (yZ b_0)),(15,yL b_0.length),(16,yL i)] [] st) [] [] yF yD ?_ ?_
 rintro _ _ ⟨⟩ ⟨_,_,_⟩ _ a b k h l
 simp only[go_sem,seval,Zd]at b
 obtain ⟨⟨_,m,_,_⟩,hn⟩:=b
 subst hn
 have o:=WF.slotL k m (j:=0) rfl
 have:=Z0 a
 have:=Z2 a
 have:=Zt (Z1 a) o
 simp only[*,go_sem,seval]
 refine yB h (fun _ h=>?_) fun _ h=>?_
 replace h:=Zw h l
 cases h;exact yD
 exact yR h []
 rintro ⟨⟩ ⟨_,_,_⟩ d _ h
 simp only[go_sem,seval,Zd]at d
 obtain ⟨⟨_,_,_,_⟩,hn⟩:=d
 subst hn
 have:=ZW (b_0.length)
 iterate 2 (cases h;exact yD)
theorem Zso {l_0:(List Zv)}{f_1:Zg}{r:Int}(h:Zhc l_0 f_1=some r):Zm prog J0 144 [(false,[.sl 98 3 (A0 Z4 l_0)]),(true,Zr f_1)] [(false,[(false,.int .i64 r)])]:=by
 refine fnk func144 rfl ?_
 unfold Zhc at h
 simp only[fnS,f144,Zq,go_sem,seval]
 refine Zn h (fun i _ st=>IV [(3,.bp 0 0),(7,yM (zA l_0)),(8,yL l_0.length),(9,yL i)] [zK 36 (Zr f_1)] st) [] [0] yF yD ?_ ?_
 rintro _ _ ⟨⟩ ⟨_,_,_⟩ _ a b e h f
 simp only[go_sem,seval,Zd]at b
 obtain ⟨⟨_,g,_,_⟩,_,hn⟩:=b
 subst hn
 have k:=WF.slotL e g (j:=0) rfl
 have:=Z0 a
 have:=Z2 a
 have:=Zt (Z1 a) k
 simp only[*,go_sem,seval]
 refine Zb h fun _ l h=>Za (Zbq l)<|yA ?_
 refine yB h (fun _ h=>?_) fun _ h=>?_
 replace h:=Zw h f
 cases h;exact yD
 exact yR h [0]
 rintro ⟨⟩ ⟨_,_,_⟩ d _ h
 simp only[go_sem,seval,Zd]at d
 obtain ⟨⟨_,_,_,_⟩,_,hn⟩:=d
 subst hn
 have:=ZW (l_0.length)
 cases h;exact yD
theorem ZgO {a:(List ByteArray)}{r:(List Zo)}(h:Q7 a=some r):Zm prog J0 130 [(false,[.sl 9 1 (A0 ZE a)])] [(false,[(false,.sl 152 2 (A0 Yg r))])]:=by
 refine fnk func130 rfl ?_
 unfold Q7 at h
 have k:Z7 ⟨#[63]⟩=true:=by decide
 simp only[fnS,f130,Zq,go_sem,seval,k]
 refine Zn h (fun i s st=>match s with|(b,d)=>IV [(3,.p false [.row 0]),(4,.p false [.row 1]),(8,yM (yV a)),(9,yL a.length),(10,yL i)] [.row 152 2 (A0 Yg d) 2,.map .str .bool (A0 eSB b)] st) [(false,3,0)] [112,32] yF yD ?_ ?_
 rintro _ _ ⟨b,d⟩ ⟨_,_,_⟩ _ e f m h _
 simp only[go_sem,seval,Zd]at f
 obtain ⟨⟨_,_,o,_,_⟩,_,_,hn⟩:=f
 subst hn
 have q:=WF.slotL m o (j:=0) rfl
 have:=Z0 e
 have:=Z2 e
 have:=Zt (Z1 e) q
 simp only[*,go_sem,seval]
 refine Zb h fun _ t h=>Za (Zdd t)<|yA ?_
 iterate 2 refine yB h (fun _ h=>?_) fun _ h=>?_
 exact yR h [0,1]
 refine Zb h fun _ u h=>Za (Zhk u) ?_
 obtain ⟨v,h⟩:=Zz h
 simp only[go_sem]at v
 obtain ⟨w,h⟩:=Zz h
 try simp only[Nat.reduceLeDiff]at w
 simp only[*,go_sem,seval]
 exact yR h [386,1]
 exact yR h [0,1]
 rintro ⟨b,d⟩ ⟨_,_,_⟩ g _ h
 simp only[go_sem,seval,Zd]at g
 obtain ⟨⟨_,_,_,_,_⟩,_,_,hn⟩:=g
 subst hn
 have:=ZW (a.length)
 cases h;exact yD
theorem Zfw {a_0:Zj}{b_1:Zj}{r:Bool}(h:Zav a_0 b_1=some r):Zm prog J0 127 [(true,ZR a_0),(true,ZR b_1)] [(false,[(false,.bool r)])]:=by
 refine fnk func127 rfl ?_
 unfold Zav at h
 simp only[fnS,f127,Zq,go_sem,seval]
 iterate 3 refine yB h (fun _ h=>?_) fun _ h=>?_
 refine Zb h fun _ a h=>Za (ZaX a) ?_
 iterate 4 (cases h;exact yD)
theorem Zey {b:Ze}{a:Zi}{r:(Int×Ze)}(h:X6 b a=some r):ZdQ prog J0 JF0 152 46 [(false,.sl 86 4 (A0 Zx b.rules)),(false,.sl 3 1 (A0 Yc b.ends)),(false,.sl 134 3 (A0 Yf b.alphas)),(false,.sl 140 8 (A0 YL b.nodes)),(false,.sl 36 2 (A0 Zr b.facts)),(false,.int .i64 b.tries)] (some (true,[(false,.str a.rel),(false,.sl 9 1 (A0 ZE a.args))])) [] [(false,[(false,.int .i64 r.1)])] [(false,.sl 86 4 (A0 Zx r.2.rules)),(false,.sl 3 1 (A0 Yc r.2.ends)),(false,.sl 134 3 (A0 Yf r.2.alphas)),(false,.sl 140 8 (A0 YL r.2.nodes)),(false,.sl 36 2 (A0 Zr r.2.facts)),(false,.int .i64 r.2.tries)]:=by
 refine fno func152 rfl ?_
 unfold X6 at h
 simp only[fnO,f152,Zgt,gvC,go_sem,seval]
 refine Zn h (fun i _ st=>IV [(0,.bp 0 0),(3,.bp 6 0),(10,.p false [.row 3]),(11,.p false [.c (.int .i64 ((b.alphas.length:Nat):Int))]),(12,.p false [.c (.int .i64 ((i:Nat):Int))])] [.box 46 [.row 1,.row 2,.row 3,.row 4,.row 5,.c (.int .i64 b.tries)],.row 86 4 (A0 Zx b.rules) 2,.row 3 1 (A0 Yc b.ends) 2,.row 134 3 (A0 Yf b.alphas) 2,.row 140 8 (A0 YL b.nodes) 2,.row 36 2 (A0 Zr b.facts) 2,.box 87 [.c (.str a.rel),.row 7],.row 9 1 (A0 ZE a.args) 2] st) [] [0,1,2,3,4,5,7,6] yF ?_ ?_ ?_
 .simp only[*,go_sem,seval]
 .rintro i6 x7 ⟨⟩ ⟨sl,ob,n⟩ y1 e j k h l
  simp only[go_sem,seval,Zd]at j
  obtain ⟨⟨g5_0,g5_3,g5_10,g5_11,g5_12⟩,og5_0,og5_1,og5_2,f,og5_4,og5_5,og5_6,og5_7,hn⟩:=j
  subst hn
  have g:=WF.rowL k f
  have q6:=Z0 e
  have q7:=Z2 e
  have q8:=Zt (Z1 e) g
  simp only[*,go_sem,seval]
  refine Zb h fun v8 e9 h=>Za (ZaX e9) ?_
  simp only[*,go_sem,seval]
  refine Zc h (fun m h=>?_) (fun m h=>?_)<;>try simp only[*,go_sem,seval]
  .replace h:=Zw h l
   obtain rfl:=A4 h
   simp only[*,go_sem,seval]
  .refine ⟨_,[],[0,1,2,3,4,5,6,7],(A4 h).symm,yF,?_⟩
   simp only[*,go_sem,seval]
 .rintro ⟨⟩ ⟨sl,ob,n⟩ d hW12 h
  simp only[go_sem,seval,Zd]at d
  obtain ⟨⟨g13_0,g13_3,g13_10,g13_11,g13_12⟩,og13_0,og13_1,og13_2,og13_3,og13_4,og13_5,og13_6,og13_7,hn⟩:=d
  subst hn
  have q14:=ZW (b.alphas.length)
  obtain ⟨o,h⟩:=Zz h
  try simp only[Nat.reduceLeDiff]at o
  obtain rfl:=A4 h
  simp only[*,go_sem,seval]
theorem ZcD {a_0:(List Zg)}{b_1:(List Zg)}{r:Bool}(h:QR a_0 b_1=some r):Zm prog J0 43 [(false,[.sl 36 2 (A0 Zr a_0)]),(false,[.sl 36 2 (A0 Zr b_1)])] [(false,[(false,.bool r)])]:=by
 refine fnk func43 rfl ?_
 unfold QR at h
 simp only[fnS,f43,Zq,go_sem,seval]
 refine yB h (fun _ h=>?_) fun _ h=>?_
 cases h;exact yD
 refine Zn h (fun i _ st=>IV [(0,yM (yU a_0)),(1,yM (yU b_1)),(12,yL a_0.length),(13,yL i)] [] st) [] [] yF yD ?_ ?_
 rintro _ _ ⟨⟩ ⟨_,_,_⟩ _ a b e h f
 simp only[go_sem,seval,Zd]at b
 obtain ⟨⟨g,_,_,_⟩,hn⟩:=b
 subst hn
 have k:=WF.slotL e g (j:=0) rfl
 have:=Z0 a
 have:=Z2 a
 have:=Zt (Z1 a) k
 obtain ⟨_,_,_,l,h⟩:=ZaE h
 simp only[AA]at l
 simp only[*,go_sem,seval]
 refine Zb h fun _ m h=>Za (Zbq m)<|yA ?_
 refine yB h (fun _ h=>?_) fun _ h=>?_
 exact yR h []
 replace h:=Zw h f
 cases h;exact yD
 rintro ⟨⟩ ⟨_,_,_⟩ d _ h
 simp only[go_sem,seval,Zd]at d
 obtain ⟨⟨_,_,_,_⟩,hn⟩:=d
 subst hn
 have:=ZW (a_0.length)
 cases h;exact yD
theorem ZiF {l_0:(List Zg)}{f_1:Zg}{r:Int}(h:ZaV l_0 f_1=some r):Zm prog J0 156 [(false,[.sl 36 2 (A0 Zr l_0)]),(true,Zr f_1)] [(false,[(false,.int .i64 r)])]:=by
 refine fnk func156 rfl ?_
 unfold ZaV at h
 simp only[fnS,f156,Zq,go_sem,seval]
 refine Zn h (fun i _ st=>IV [(3,.bp 0 0),(7,yM (yU l_0)),(8,yL l_0.length),(9,yL i)] [zK 36 (Zr f_1)] st) [] [0] yF yD ?_ ?_
 rintro _ _ ⟨⟩ ⟨_,_,_⟩ _ a b e h f
 simp only[go_sem,seval,Zd]at b
 obtain ⟨⟨_,g,_,_⟩,_,hn⟩:=b
 subst hn
 have k:=WF.slotL e g (j:=0) rfl
 have:=Z0 a
 have:=Z2 a
 have:=Zt (Z1 a) k
 simp only[*,go_sem,seval]
 refine Zb h fun _ l h=>Za (Zbq l)<|yA ?_
 refine yB h (fun _ h=>?_) fun _ h=>?_
 replace h:=Zw h f
 cases h;exact yD
 exact yR h [0]
 rintro ⟨⟩ ⟨_,_,_⟩ d _ h
 simp only[go_sem,seval,Zd]at d
 obtain ⟨⟨_,_,_,_⟩,_,hn⟩:=d
 subst hn
 have:=ZW (l_0.length)
 cases h;exact yD
theorem ZhO {a_0:(List Zg)}{b_1:(List Zg)}{r:Bool}(h:ZdL a_0 b_1=some r):Zm prog J0 12 [(false,[.sl 36 2 (A0 Zr a_0)]),(false,[.sl 36 2 (A0 Zr b_1)])] [(false,[(false,.bool r)])]:=by
 refine fnk func12 rfl ?_
 unfold ZdL at h
 simp only[fnS,f12,Zq,go_sem,seval]
 refine yB h (fun _ h=>?_) fun _ h=>?_
 cases h;exact yD
 refine Zn h (fun i _ st=>IV [(0,yM (yU a_0)),(1,yM (yU b_1)),(5,yL i)] [] st) [] [] yF yD ?_ ?_
 rintro _ _ ⟨⟩ ⟨_,_,_⟩ _ a b e h f
 simp only[go_sem,seval,Zd]at b
 obtain ⟨⟨g,_,_⟩,hn⟩:=b
 subst hn
 have k:=WF.slotL e g (j:=0) rfl
 have:=Z0 a
 have:=Z2 a
 have:=Zt (Z1 a) k
 obtain ⟨_,_,_,l,h⟩:=ZaE h
 simp only[AA]at l
 simp only[*,go_sem,seval]
 refine Zb h fun _ m h=>Za (ZsA m)<|yA ?_
 refine yB h (fun _ h=>?_) fun _ h=>?_
 exact yR h []
 replace h:=Zw h f
 cases h;exact yD
 rintro ⟨⟩ ⟨_,_,_⟩ d _ h
 simp only[go_sem,seval,Zd]at d
 obtain ⟨⟨_,_,_⟩,hn⟩:=d
 subst hn
 have:=ZW (a_0.length)
 cases h;exact yD
end
section
theorem ZhE {c_0:Zp}{r:(ByteArray×Zp)}(h:Zca c_0=some r):XQ prog J0 JF0 51 (.box 103 (YO c_0)) [] [(false,[(false,.str r.1)])] (.box 103 (YO r.2)):=by
 refine fnh func51 rfl ?_
 unfold Zca at h
 have a:Z7 ⟨#[49]⟩=true:=by decide
 have b:Z7 ⟨#[50]⟩=true:=by decide
 have c:Z7 ⟨#[97]⟩=true:=by decide
 have d:Z7 ⟨#[98]⟩=true:=by decide
 have e:Z7 ⟨#[99]⟩=true:=by decide
 have f:Z7 ⟨#[]⟩=true:=by decide
 simp only[fnH,f51,Qu,Qp,YT,go_sem,seval,a,b,c,d,e,f]
 obtain ⟨_,g,h⟩:=Zy h
 refine Yl (Zn1 g) ?_
 cases h;exact yD
theorem Zdv {p_0:Zi}{r:(List ByteArray)}(h:Zcr p_0=some r):Zm prog J0 163 [(true,Ql p_0)] [(false,[(false,.sl 9 1 (A0 ZE r))])]:=by
 refine fnk func163 rfl ?_
 unfold Zcr at h
 simp only[fnS,f163,Zq,go_sem,seval]
 refine Zn h (fun i a st=>IV [(1,.bp 0 0),(3,.p false [.row 1]),(4,yL i)] [.box 87 [.c (.str p_0.rel),.c (yV p_0.args)],.row 9 1 (A0 ZE a) 2] st) [] [0,32] yF yD ?_ ?_
 rintro _ _ a ⟨_,_,_⟩ _ b d f h _
 simp only[go_sem,seval,Zd]at d
 obtain ⟨⟨_,_,_⟩,g,_,hn⟩:=d
 subst hn
 have k:=WF.boxL f g (j:=1) rfl
 have:=Z0 b
 have:=Z2 b
 have:=Zt (Z1 b) k
 simp only[*,go_sem,seval]
 refine Zb h fun _ l h=>Za (ZcT l)<|yA ?_
 refine yB h (fun _ h=>?_) fun _ h=>?_
 refine Zb h fun _ m h=>Za (ZbI m)<|yA ?_
 exact yR h [0,274]
 exact yR h [0,1]
 rintro a ⟨_,_,_⟩ e _ h
 simp only[go_sem,seval,Zd]at e
 obtain ⟨⟨_,_,_⟩,_,_,hn⟩:=e
 subst hn
 have:=ZW (p_0.args.length)
 cases h;exact yD
theorem ZaG {s_0:ByteArray}{r:Bool}(h:ZaA s_0=some r):Zm prog J0 198 [(false,[.str s_0])] [(false,[(false,.bool r)])]:=by
 refine fnk func198 rfl ?_
 unfold ZaA at h
 simp only[fnS,f198,Zq,go_sem,seval]
 refine Zb h fun _ a h=>Za (Zg0 a)<|yA ?_
 refine yB h (fun _ h=>?_) fun _ h=>?_
 cases h;exact yD
 refine Zb h fun _ b h=>Za (ZcT b) ?_
 cases h;exact yD
theorem Zty {c_0:Zp}{l_1:ByteArray}{r_2:ByteArray}{r:(Zj×Zp)}(h:Zko c_0 l_1 r_2=some r):XQ prog J0 JF0 162 (.box 103 (YO c_0)) [(false,[.str l_1]),(false,[.str r_2])] [(true,[(false,.int .i64 r.1.kind),(false,.str r.1.pattern.rel),(false,.sl 9 1 (A0 ZE r.1.pattern.args)),(false,.str r.1.left),(false,.str r.1.right)])] (.box 103 (YO r.2)):=by
 refine fnh func162 rfl ?_
 unfold Zko at h
 simp only[fnH,f162,Qu,Qp,YT,go_sem,seval]
 obtain ⟨_,a,h⟩:=Zy h
 refine Yl (ZiT a) ?_
 cases h;exact yD
theorem QA {p_0:Zi}{r:Bool}(h:XN p_0=some r):Zm prog J0 69 [(true,Ql p_0)] [(false,[(false,.bool r)])]:=by
 refine fnk func69 rfl ?_
 unfold XN at h
 simp only[fnS,f69,Zq,go_sem,seval]
 refine Zb h fun _ e h=>Za (Xr e)<|yA ?_
 iterate 2 refine yB h (fun _ h=>?_) fun _ h=>?_
 cases h;exact yD
 refine Zn h (fun i _ st=>IV [(16,yM (yV p_0.args)),(17,yL p_0.args.length),(18,yL i)] [] st) [] [] yF yD ?_ ?_
 rintro _ _ ⟨⟩ ⟨_,_,_⟩ _ a b f h g
 simp only[go_sem,seval,Zd]at b
 obtain ⟨⟨k,_,_⟩,hn⟩:=b
 subst hn
 have l:=WF.slotL f k (j:=0) rfl
 have:=Z0 a
 have:=Z2 a
 have:=Zt (Z1 a) l
 simp only[*,go_sem,seval]
 refine Zb h fun _ m h=>Za (ZaS m)<|yA ?_
 refine yB h (fun _ h=>?_) fun _ h=>?_
 exact yR h []
 replace h:=Zw h g
 cases h;exact yD
 rintro ⟨⟩ ⟨_,_,_⟩ d _ h
 simp only[go_sem,seval,Zd]at d
 obtain ⟨⟨_,_,_⟩,hn⟩:=d
 subst hn
 have:=ZW (p_0.args.length)
 iterate 2 (cases h;exact yD)
theorem Zhu {r_0:Zh}{n_1:Int}{r:(List ByteArray)}(h:ZbS r_0 n_1=some r):Zm prog J0 94 [(true,Zx r_0),(false,[.int .i64 n_1])] [(false,[(false,.sl 9 1 (A0 ZE r))])]:=by
 refine fnk func94 rfl ?_
 unfold ZbS at h
 simp only[fnS,f94,Zq,go_sem,seval]
 refine Zn h (fun i a st=>IV [(1,yM (.int .i64 n_1)),(5,.p false [.row 0]),(9,yM (yY r_0.cond)),(10,yL r_0.cond.length),(11,yL i)] [.row 9 1 (A0 ZE a) 2] st) [(false,5,0)] [112] yF yD ?_ ?_
 rintro _ _ a ⟨_,_,_⟩ _ b d f h _
 simp only[go_sem,seval,Zd]at d
 obtain ⟨⟨_,_,g,_,_⟩,_,hn⟩:=d
 subst hn
 have k:=WF.slotL f g (j:=0) rfl
 have:=Z0 b
 have:=Z2 b
 have:=Zt (Z1 b) k
 simp only[*,go_sem,seval]
 iterate 2 refine yB h (fun _ h=>?_) fun _ h=>?_
 refine Zb h fun _ l h=>Za (Zez l) ?_
 obtain ⟨_,h⟩:=Zz h
 simp only[*,go_sem,seval]
 exact yR h [321]
 exact yR h [0]
 exact yR h [0]
 rintro a ⟨_,_,_⟩ e _ h
 simp only[go_sem,seval,Zd]at e
 obtain ⟨⟨_,_,_,_,_⟩,_,hn⟩:=e
 subst hn
 have:=ZW (r_0.cond.length)
 simp only[*,go_sem,seval]
 refine Zb h fun _ m h=>Za (Zda m) ?_
 cases h;exact yD
theorem Zfo {x_0:Zj}{r:(List ByteArray)}(h:ZaO x_0=some r):Zm prog J0 139 [(true,ZR x_0)] [(false,[(false,.sl 9 1 (A0 ZE r))])]:=by
 refine fnk func139 rfl ?_
 unfold ZaO at h
 simp only[fnS,f139,Zq,go_sem,seval]
 refine Zb h fun _ a h=>Za (Zka a)<|yA ?_
 refine Zb h fun _ b h=>Za (Zez b)<|yA ?_
 refine Zb h fun _ c h=>Za (Zda c) ?_
 cases h;exact yD
theorem ZmN {l_0:(List Zj)}{r:(List Zj)}(h:ZdG l_0=some r):Zm prog J0 100 [(false,[.sl 137 5 (A0 ZR l_0)])] [(false,[(false,.sl 137 5 (A0 ZR r))])]:=by
 refine fnk func100 rfl ?_
 unfold ZdG at h
 simp only[fnS,f100,Zq,go_sem,seval]
 refine Zn h (fun i a st=>IV [(3,.p false [.row 0]),(6,yM (yY l_0)),(7,yL l_0.length),(8,yL i)] [.row 137 5 (A0 ZR a) 2] st) [(false,3,0)] [80] yF yD ?_ ?_
 rintro _ _ a ⟨_,_,_⟩ _ b d f h _
 simp only[go_sem,seval,Zd]at d
 obtain ⟨⟨_,g,_,_⟩,_,hn⟩:=d
 subst hn
 have k:=WF.slotL f g (j:=0) rfl
 have:=Z0 b
 have:=Z2 b
 have:=Zt (Z1 b) k
 simp only[*,go_sem,seval]
 refine Zb h fun _ l h=>Za (Qn l) ?_
 obtain ⟨m,h⟩:=Zz h
 try simp only[Nat.reduceLeDiff]at m
 simp only[*,go_sem,seval]
 exact yR h [145]
 rintro a ⟨_,_,_⟩ e _ h
 simp only[go_sem,seval,Zd]at e
 obtain ⟨⟨_,_,_,_⟩,_,hn⟩:=e
 subst hn
 have:=ZW (l_0.length)
 cases h;exact yD
theorem Zas {a_0:Zg}{b_1:Zg}{r:Int}(h:YH a_0 b_1=some r):Zm prog J0 64 [(true,Zr a_0),(true,Zr b_1)] [(false,[(false,.int .i64 r)])]:=by
 refine fnk func64 rfl ?_
 unfold YH at h
 simp only[fnS,f64,Zq,go_sem,seval]
 refine Zb h fun _ f h=>Za (Zje f)<|yA ?_
 refine yB h (fun _ h=>?_) fun _ h=>?_
 cases h;exact yD
 refine Zn h (fun i _ st=>IV [(2,.bp 0 0),(3,.bp 1 0),(6,yL i)] [zK 36 (Zr a_0),zK 36 (Zr b_1)] st) [] [0,16] yF yD ?_ ?_
 rintro _ _ ⟨⟩ ⟨_,_,_⟩ _ a b g h d
 simp only[go_sem,seval,Zd]at b
 obtain ⟨⟨_,_,_⟩,k,_,hn⟩:=b
 subst hn
 have l:=WF.boxL g k (j:=1) rfl
 have:=Z0 a
 have:=Z2 a
 have:=Zt (Z1 a) l
 simp only[*,go_sem,seval]
 refine yB h (fun _ h=>?_) fun _ h=>?_
 obtain ⟨_,_,_,m,h⟩:=ZaE h
 simp only[AA]at m
 simp only[*,go_sem,seval]
 refine Zb h fun _ o h=>Za (Zkf o)<|yA ?_
 refine yB h (fun _ h=>?_) fun _ h=>?_
 replace h:=Zw h d
 cases h;exact yD
 exact yR h [0,1]
 refine Zb h fun _ q h=>Za (Yd q) ?_
 replace h:=Zw h d
 cases h;exact yD
 rintro ⟨⟩ ⟨_,_,_⟩ e _ h
 simp only[go_sem,seval,Zd]at e
 obtain ⟨⟨_,_,_⟩,_,_,hn⟩:=e
 subst hn
 have:=ZW (a_0.args.length)
 simp only[*,go_sem,seval]
 refine Zb h fun _ t h=>Za (Yd t) ?_
 cases h;exact yD
theorem Zqv {x_0:Z6}{r:Bool}(h:QC x_0=some r):Zm prog J0 60 [(true,Yx x_0)] [(false,[(false,.bool r)])]:=by
 refine fnk func60 rfl ?_
 unfold QC at h
 have a:Z7 ⟨#[]⟩=true:=by decide
 simp only[fnS,f60,Zq,go_sem,seval,a]
 iterate 3 refine yB h (fun _ h=>?_) fun _ h=>?_
 refine Zb h fun _ b h=>Za (Y9 b) ?_
 iterate 2 (cases h;exact yD)
 iterate 2 refine yB h (fun _ h=>?_) fun _ h=>?_
 refine Zb h fun _ c h=>Za (Y9 c) ?_
 iterate 2 (cases h;exact yD)
 refine yB h (fun _ h=>?_) fun _ h=>?_
 refine Zb h fun _ d h=>Za (Xr d)<|yA ?_
 refine yB h (fun _ h=>?_) fun _ h=>?_
 iterate 2 (cases h;exact yD)
 refine yB h (fun _ h=>?_) fun _ h=>?_
 refine Zb h fun _ e h=>Za (Xr e)<|yA ?_
 refine yB h (fun _ h=>?_) fun _ h=>?_
 iterate 2 (cases h;exact yD)
 refine yB h (fun _ h=>?_) fun _ h=>?_
 refine Zb h fun _ f h=>Za (Xr f)<|yA ?_
 refine yB h (fun _ h=>?_) fun _ h=>?_
 refine Zb h fun _ g h=>Za (Y9 g) ?_
 iterate 2 (cases h;exact yD)
 refine yB h (fun _ h=>?_) fun _ h=>?_
 refine Zb h fun _ i h=>Za (Xr i)<|yA ?_
 refine yB h (fun _ h=>?_) fun _ h=>?_
 refine Zb h fun _ j h=>Za (Y9 j) ?_
 iterate 3 (cases h;exact yD)
 iterate 2 refine yB h (fun _ h=>?_) fun _ h=>?_
 refine Zb h fun _ k h=>Za (Y9 k) ?_
 iterate 2 (cases h;exact yD)
 iterate 2 refine yB h (fun _ h=>?_) fun _ h=>?_
 refine Zb h fun _ l h=>Za (Y9 l) ?_
 iterate 2 (cases h;exact yD)
 refine yB h (fun _ h=>?_) fun _ h=>?_
 refine Zb h fun _ m h=>Za (Xr m)<|yA ?_
 refine yB h (fun _ h=>?_) fun _ h=>?_
 iterate 2 (cases h;exact yD)
 refine yB h (fun _ h=>?_) fun _ h=>?_
 refine Zb h fun _ o h=>Za (Xr o)<|yA ?_
 refine yB h (fun _ h=>?_) fun _ h=>?_
 iterate 2 (cases h;exact yD)
 refine yB h (fun _ h=>?_) fun _ h=>?_
 refine Zb h fun _ p h=>Za (Xr p)<|yA ?_
 refine yB h (fun _ h=>?_) fun _ h=>?_
 refine Zb h fun _ q h=>Za (Y9 q) ?_
 iterate 2 (cases h;exact yD)
 refine yB h (fun _ h=>?_) fun _ h=>?_
 refine Zb h fun _ t h=>Za (Xr t)<|yA ?_
 refine yB h (fun _ h=>?_) fun _ h=>?_
 refine Zb h fun _ u h=>Za (Y9 u) ?_
 iterate 3 (cases h;exact yD)
theorem Zlu {a:(List Zo)}{b:ByteArray}{d:ByteArray}{r:((List Zo)×Bool)}(h:ZfD a b d=some r):Zm prog J0 86 [(false,[.sl 152 2 (A0 Yg a)]),(false,[.str b]),(false,[.str d])] [(false,[(false,.sl 152 2 (A0 Yg r.1))]),(false,[(false,.bool r.2)])]:=by
 refine fnk func86 rfl ?_
 unfold ZfD at h
 simp only[fnS,f86,Zq,go_sem,seval]
 refine Zb h fun _ o h=>Za (Zax o)<|yA ?_
 refine yB h (fun _ h=>?_) fun _ h=>?_
 refine Zb h fun _ q h=>Za (Zdd q)<|yA ?_
 refine yB h (fun _ h=>?_) fun _ h=>?_
 refine Zb h fun _ t h=>Za (Qe t)<|yA ?_
 refine yB h (fun _ h=>?_) fun _ h=>?_
 refine Zb h fun _ u h=>Za (Zch u)<|yA ?_
 iterate 2 refine yB h (fun _ h=>?_) fun _ h=>?_
 refine Zb h fun _ v h=>Za (ZcF v) ?_
 iterate 2 (cases h;exact yD)
 refine yB h (fun _ h=>?_) fun _ h=>?_
 cases h;exact yD
 refine Zn h (fun i s st=>match s with|(e,f)=>IV [(1,yM (.str b)),(2,yM (.str d)),(10,.p false [.row 0]),(11,yM (.bool f)),(42,yM (yZ a)),(43,yL a.length),(44,yL i)] [.row 152 2 (A0 Yg e) 2] st) [(false,10,0)] [512] yF yD ?_ ?_
 rintro _ _ ⟨e,f⟩ ⟨_,_,_⟩ _ g l x h _
 simp only[go_sem,seval,Zd]at l
 obtain ⟨⟨_,_,_,_,y,_,_⟩,_,hn⟩:=l
 subst hn
 have z:=WF.slotL x y (j:=0) rfl
 have:=Z0 g
 have:=Z2 g
 have:=Zt (Z1 g) z
 simp only[*,go_sem,seval]
 refine yB h (fun _ h=>?_) fun _ h=>?_
 obtain ⟨A,h⟩:=Zz h
 try simp only[Nat.reduceLeDiff]at A
 simp only[*,go_sem,seval]
 exact yR h [257]
 refine Zc h (fun k h=>?_) (fun k h=>?_)
 have B:=k
 obtain ⟨C,h⟩:=Zz h
 try simp only[Nat.reduceLeDiff]at C
 simp only[*,go_sem,seval]
 exact yR h [257]
 have B:=k
 obtain ⟨D,h⟩:=Zz h
 try simp only[Nat.reduceLeDiff]at D
 obtain ⟨E,h⟩:=Zz h
 try simp only[Nat.reduceLeDiff]at E
 simp only[*,go_sem,seval]
 exact yR h [385]
 rintro ⟨e,f⟩ ⟨_,_,_⟩ m _ h
 simp only[go_sem,seval,Zd]at m
 obtain ⟨⟨_,_,_,_,_,_,_⟩,_,hn⟩:=m
 subst hn
 have:=ZW (a.length)
 simp only[*,go_sem,seval]
 refine yB h (fun _ h=>?_) fun _ h=>?_
 cases h;exact yD
 obtain ⟨F,h⟩:=Zz h
 try simp only[Nat.reduceLeDiff]at F
 iterate 4 (cases h;exact yD)
theorem Zhb {m_0:Yk}{r:Yk}(h:ZbU m_0=some r):Zm prog J0 108 [(true,Q0 m_0)] [(true,[(false,.str r.rule),(false,.sl 36 2 (A0 Zr r.facts)),(false,.sl 152 2 (A0 Yg r.binding))])]:=by
 refine fnk func108 rfl ?_
 unfold ZbU at h
 simp only[fnS,f108,Zq,go_sem,seval]
 refine Zb h fun _ a h=>Za (Ye a)<|yA ?_
 refine Zb h fun _ b h=>Za (ZcF b) ?_
 cases h;exact yD
theorem Zrw {l_0:(List Zv)}{facts_1:(List Zg)}{r:(List Int)}(h:ZfR l_0 facts_1=some r):Zm prog J0 109 [(false,[.sl 98 3 (A0 Z4 l_0)]),(false,[.sl 36 2 (A0 Zr facts_1)])] [(false,[(false,.sl 3 1 (A0 Yc r))])]:=by
 refine fnk func109 rfl ?_
 unfold ZfR at h
 simp only[fnS,f109,Zq,go_sem,seval]
 refine Zn h (fun i a st=>IV [(0,yM (zA l_0)),(5,.p false [.row 0]),(8,yM (yU facts_1)),(9,yL facts_1.length),(10,yL i)] [.row 3 1 (A0 Yc a) 2] st) [(false,5,0)] [80] yF yD ?_ ?_
 rintro _ _ a ⟨_,_,_⟩ _ b d f h _
 simp only[go_sem,seval,Zd]at d
 obtain ⟨⟨_,_,g,_,_⟩,_,hn⟩:=d
 subst hn
 have k:=WF.slotL f g (j:=0) rfl
 have:=Z0 b
 have:=Z2 b
 have:=Zt (Z1 b) k
 simp only[*,go_sem,seval]
 refine Zb h fun _ l h=>Za (Zso l) ?_
 obtain ⟨m,h⟩:=Zz h
 try simp only[Nat.reduceLeDiff]at m
 simp only[*,go_sem,seval]
 exact yR h [161]
 rintro a ⟨_,_,_⟩ e _ h
 simp only[go_sem,seval,Zd]at e
 obtain ⟨⟨_,_,_,_,_⟩,_,hn⟩:=e
 subst hn
 have:=ZW (facts_1.length)
 cases h;exact yD
theorem ZgN {r_0:Zh}{r:(List Zo)}(h:ZaZ r_0=some r):Zm prog J0 85 [(true,Zx r_0)] [(false,[(false,.sl 152 2 (A0 Yg r))])]:=by
 refine fnk func85 rfl ?_
 unfold ZaZ at h
 simp only[fnS,f85,Zq,go_sem,seval]
 refine Zn h (fun i a st=>IV [(3,.p false [.row 0]),(7,yM (yY r_0.cond)),(8,yL r_0.cond.length),(9,yL i)] [.row 9 1 (A0 ZE a) 2] st) [(false,3,0)] [112] yF yD ?_ ?_
 rintro _ _ a ⟨_,_,_⟩ _ b d f h _
 simp only[go_sem,seval,Zd]at d
 obtain ⟨⟨_,g,_,_⟩,_,hn⟩:=d
 subst hn
 have k:=WF.slotL f g (j:=0) rfl
 have:=Z0 b
 have:=Z2 b
 have:=Zt (Z1 b) k
 simp only[*,go_sem,seval]
 refine Zb h fun _ l h=>Za (Zka l) ?_
 obtain ⟨_,h⟩:=Zz h
 simp only[*,go_sem,seval]
 exact yR h [129]
 rintro a ⟨_,_,_⟩ e _ h
 simp only[go_sem,seval,Zd]at e
 obtain ⟨⟨_,_,_,_⟩,_,hn⟩:=e
 subst hn
 have:=ZW (r_0.cond.length)
 simp only[*,go_sem,seval]
 refine Zb h fun _ m h=>Za (ZgO m) ?_
 cases h;exact yD
theorem Zjy {p_0:Zi}{r:Zi}(h:Zec p_0=some r):Zm prog J0 153 [(true,Ql p_0)] [(true,[(false,.str r.rel),(false,.sl 9 1 (A0 ZE r.args))])]:=by
 refine fnk func153 rfl ?_
 unfold Zec at h
 simp only[fnS,f153,Zq,go_sem,seval]
 refine Zb h fun _ a h=>Za (ZgO a)<|yA ?_
 refine Zb h fun _ b h=>Za (ZgH b) ?_
 cases h;exact yD
theorem ZsH {a:Ze}{node_1:Int}{r:(List Zj)}(h:ZgY a node_1=some r):Zm prog J0 121 [(true,Qg a),(false,[.int .i64 node_1])] [(false,[(false,.sl 137 5 (A0 ZR r))])]:=by
 refine fnk func121 rfl ?_
 unfold ZgY at h
 simp only[fnS,f121,Zq,go_sem,seval]
 iterate 2 ((refine Zc h (fun _ h=>?_) fun _ h=>?_<;>try simp only[*,go_sem,seval]);cases h;simp only[*,go_sem,seval])
 refine XB h (fun s st=>match s with|(b,d)=>IV [(1,yM (.int .i64 d)),(2,.bp 0 0),(5,.p false [.row 1])] [.box 46 [.c (yW a.rules),.c (yX a.ends),.c (zC a.alphas),.c (zD a.nodes),.c (yU a.facts),.c (.int .i64 a.tries)],.row 3 1 (A0 Yc b) 2] st) [(false,5,0)] [0,192] yF yD ?_
 rintro ⟨b,d⟩ ⟨_,_,_⟩ _ i _ h j
 simp only[go_sem,seval,Zd]at i
 obtain ⟨⟨_,_,_⟩,_,_,hn⟩:=i
 subst hn
 obtain ⟨q,h⟩:=Zz h
 try simp only[Nat.reduceLeDiff]at q
 obtain ⟨_,_,_,_,h⟩:=ZaE h
 simp only[*,go_sem,seval]
 refine yB h (fun _ h=>?_) fun _ h=>?_
 refine XB h (fun s st=>match s with|(k,f)=>IV [(2,.bp 0 0),(5,.p false [.row 1]),(7,.p false [.row 2]),(8,yM (.int .i64 f))] [.box 46 [.c (yW a.rules),.c (yX a.ends),.c (zC a.alphas),.c (zD a.nodes),.c (yU a.facts),.c (.int .i64 a.tries)],.row 3 1 (A0 Yc (b++[d])) 2,.row 137 5 (A0 ZR k) 2] st) [(false,7,0)] [0,50,386] yF yD ?_
 rintro ⟨k,f⟩ ⟨_,_,_⟩ _ l _ h t
 simp only[go_sem,seval,Zd]at l
 obtain ⟨⟨_,_,_,_⟩,_,_,_,hn⟩:=l
 subst hn
 simp only[*,go_sem,seval]
 refine yB h (fun _ h=>?_) fun _ h=>?_
 obtain ⟨_,h⟩:=Zz h
 obtain ⟨u,v,h⟩:=Zy h
 have w:(A0 Yc b++[Yc d])[(AD f)]?=some (Yc u):=by rw [show A0 Yc b++[Yc d]=A0 Yc (b++[d]) by rw [AO];rfl,AC,v];rfl
 simp only[Zl8]at w
 obtain ⟨_,_,_,_,h⟩:=ZaE h
 simp only[*,go_sem,seval]
 refine Zb h fun _ x h=>Za (Qn x) ?_
 obtain ⟨y,h⟩:=Zz h
 try simp only[Nat.reduceLeDiff]at y
 simp only[*,go_sem,seval]
 exact yR h [0,1,227]
 replace h:=Zw h t
 replace h:=Zw h j
 cases h;exact yD
 refine yB h (fun _ h=>?_) fun _ h=>?_
 refine XB h (fun s st=>match s with|(m,g)=>IV [(2,.bp 0 0),(5,.p false [.row 1]),(7,.p false [.row 2]),(8,yM (.int .i64 g))] [.box 46 [.c (yW a.rules),.c (yX a.ends),.c (zC a.alphas),.c (zD a.nodes),.c (yU a.facts),.c (.int .i64 a.tries)],.row 3 1 (A0 Yc (b++[d])) 2,.row 137 5 (A0 ZR m) 2] st) [(false,7,0)] [0,50,386] yF yD ?_
 rintro ⟨m,g⟩ ⟨_,_,_⟩ _ o _ h z
 simp only[go_sem,seval,Zd]at o
 obtain ⟨⟨_,_,_,_⟩,_,_,_,hn⟩:=o
 subst hn
 simp only[*,go_sem,seval]
 refine yB h (fun _ h=>?_) fun _ h=>?_
 obtain ⟨_,h⟩:=Zz h
 obtain ⟨A,B,h⟩:=Zy h
 have C:(A0 Yc b++[Yc d])[(AD g)]?=some (Yc A):=by rw [show A0 Yc b++[Yc d]=A0 Yc (b++[d]) by rw [AO];rfl,AC,B];rfl
 simp only[Zl8]at C
 obtain ⟨_,_,_,_,h⟩:=ZaE h
 simp only[*,go_sem,seval]
 refine Zb h fun _ D h=>Za (Qn D) ?_
 obtain ⟨E,h⟩:=Zz h
 try simp only[Nat.reduceLeDiff]at E
 simp only[*,go_sem,seval]
 exact yR h [0,1,227]
 replace h:=Zw h z
 replace h:=Zw h j
 cases h;exact yD
 exact yR h [0,50]
end
section
theorem ZcH {r_0:Zh}{n_1:Int}{r:(List ByteArray)}(h:QX r_0 n_1=some r):Zm prog J0 133 [(true,Zx r_0),(false,[.int .i64 n_1])] [(false,[(false,.sl 9 1 (A0 ZE r))])]:=by
 refine fnk func133 rfl ?_
 unfold QX at h
 simp only[fnS,f133,Zq,go_sem,seval]
 refine Zn h (fun i a st=>IV [(1,yM (.int .i64 n_1)),(2,.bp 0 0),(5,.p false [.row 1]),(6,yL i)] [zK 86 (Zx r_0),.row 9 1 (A0 ZE a) 2] st) [] [0,32] yF yD ?_ ?_
 rintro b _ a ⟨_,_,_⟩ _ d g q h t
 simp only[go_sem,seval,Zd]at g
 obtain ⟨⟨_,_,_,_⟩,u,_,hn⟩:=g
 subst hn
 have v:=WF.boxL q u (j:=2) rfl
 have:=Z0 d
 have:=Z2 d
 have:=Zt (Z1 d) v
 simp only[*,go_sem,seval]
 iterate 2 refine yB h (fun _ h=>?_) fun _ h=>?_
 refine Zb h fun k w h=>Za (Zdv w)<|yA ?_
 refine Zn h (fun i e st=>IV [(1,yM (.int .i64 n_1)),(2,.bp 0 0),(5,.p false [.row 1]),(6,yL b),(7,.p false [.row 2]),(8,yL i),(16,yL b),(17,yM (.int .i64 n_1)),(18,yM (.bool (decide (((b:Nat):Int)<n_1))))] [zK 86 (Zx r_0),.row 9 1 (A0 ZE e) 2,.row 9 1 (A0 ZE k) 2] st) [] [0,1,370] yF yD ?_ ?_
 rintro _ _ e ⟨_,_,_⟩ _ f l x h _
 simp only[go_sem,seval,Zd]at l
 obtain ⟨⟨_,_,_,_,_,_,_,_,_⟩,_,_,y,hn⟩:=l
 subst hn
 have z:=WF.rowL x y
 have:=Z0 f
 have:=Z2 f
 have:=Zt (Z1 f) z
 simp only[*,go_sem,seval]
 refine Zb h fun _ A h=>Za (ZbI A)<|yA ?_
 exact yR h [0,147,2]
 rintro e ⟨_,_,_⟩ m _ h
 simp only[go_sem,seval,Zd]at m
 obtain ⟨⟨_,_,_,_,_,_,_,_,_⟩,_,_,_,hn⟩:=m
 subst hn
 have:=ZW (k.length)
 simp only[*,go_sem,seval]
 exact yR h [0,1]
 exact yR h [0,1]
 replace h:=Zw h t
 cases h;exact yD
 rintro a ⟨_,_,_⟩ o _ h
 simp only[go_sem,seval,Zd]at o
 obtain ⟨⟨_,_,_,_⟩,_,_,hn⟩:=o
 subst hn
 have:=ZW (r_0.cond.length)
 cases h;exact yD
theorem ZaQ {p_0:Zi}{r:Bool}(h:XK p_0=some r):Zm prog J0 197 [(true,Ql p_0)] [(false,[(false,.bool r)])]:=by
 refine fnk func197 rfl ?_
 unfold XK at h
 simp only[fnS,f197,Zq,go_sem,seval]
 refine Zn h (fun i _ st=>IV [(1,.bp 0 0),(3,yL i)] [.box 87 [.c (.str p_0.rel),.c (yV p_0.args)]] st) [] [0] yF yD ?_ ?_
 rintro _ _ ⟨⟩ ⟨_,_,_⟩ _ a b e h f
 simp only[go_sem,seval,Zd]at b
 obtain ⟨⟨_,_⟩,g,hn⟩:=b
 subst hn
 have k:=WF.boxL e g (j:=1) rfl
 have:=Z0 a
 have:=Z2 a
 have:=Zt (Z1 a) k
 simp only[*,go_sem,seval]
 refine Zb h fun _ l h=>Za (ZaG l)<|yA ?_
 refine yB h (fun _ h=>?_) fun _ h=>?_
 exact yR h [0]
 replace h:=Zw h f
 cases h;exact yD
 rintro ⟨⟩ ⟨_,_,_⟩ d _ h
 simp only[go_sem,seval,Zd]at d
 obtain ⟨⟨_,_⟩,_,hn⟩:=d
 subst hn
 have:=ZW (p_0.args.length)
 simp only[*,go_sem,seval]
 refine Zb h fun _ m h=>Za (ZlC m)<|yA ?_
 refine yB h (fun _ h=>?_) fun _ h=>?_
 iterate 2 (cases h;exact yD)
theorem Zdn {x_0:Zj}{r:(List ByteArray)}(h:QZ x_0=some r):Zm prog J0 169 [(true,ZR x_0)] [(false,[(false,.sl 9 1 (A0 ZE r))])]:=by
 refine fnk func169 rfl ?_
 unfold QZ at h
 simp only[fnS,f169,Zq,go_sem,seval]
 refine Zb h fun _ a h=>Za (Zdv a)<|yA ?_
 refine Zb h fun _ b h=>Za (ZcT b)<|yA ?_
 refine yB h (fun _ h=>?_) fun _ h=>?_
 refine Zb h fun _ c h=>Za (ZbI c)<|yA ?_
 refine Zb h fun _ d h=>Za (ZcT d)<|yA ?_
 refine yB h (fun _ h=>?_) fun _ h=>?_
 refine Zb h fun _ e h=>Za (ZbI e) ?_
 iterate 2 (cases h;exact yD)
 refine Zb h fun _ f h=>Za (ZcT f)<|yA ?_
 refine yB h (fun _ h=>?_) fun _ h=>?_
 refine Zb h fun _ g h=>Za (ZbI g) ?_
 iterate 2 (cases h;exact yD)
theorem Zg9 {c_0:Zp}{r:(ByteArray×Zp)}(h:Zdw c_0=some r):XQ prog J0 JF0 161 (.box 103 (YO c_0)) [] [(false,[(false,.str r.1)])] (.box 103 (YO r.2)):=by
 refine fnh func161 rfl ?_
 unfold Zdw at h
 have a:Z7 ⟨#[63,120]⟩=true:=by decide
 have b:Z7 ⟨#[63,121]⟩=true:=by decide
 have c:Z7 ⟨#[63,122]⟩=true:=by decide
 have d:Z7 ⟨#[]⟩=true:=by decide
 simp only[fnH,f161,Qu,Qp,YT,go_sem,seval,a,b,c,d]
 obtain ⟨_,e,h⟩:=Zy h
 refine Yl (Zhh e)<|yA ?_
 refine yB h (fun _ h=>?_) fun _ h=>?_
 obtain ⟨_,f,h⟩:=Zy h
 refine Yl (ZhE f) ?_
 cases h;exact yD
 obtain ⟨_,g,h⟩:=Zy h
 refine Yl (Zn1 g) ?_
 cases h;exact yD
theorem Ztg {b:Zp}{r:(Zg×Zp)}(h:Zf8 b=some r):XQ prog J0 JF0 22 (.box 103 (YO b)) [] [(true,[(false,.str r.1.rel),(false,.sl 9 1 (A0 ZE r.1.args))])] (.box 103 (YO r.2)):=by
 refine ZEv [(6,[0,1,2,3,4,5,6,7],true)] func22 rfl ?_
 unfold Zf8 at h
 simp only[fnH,f22,Qu,Qp,YT,go_sem,Zf,seval]
 obtain ⟨v1,e1,h⟩:=Zy h
 refine Yl (by have hh:=Zne e1;first|exact hh|(simp only[go_sem,Zf, *]at hh;exact hh)) ?_
 simp only[go_sem,Zf,seval, *]
 refine XB h (fun s st=>match s with|(d,e,f,a,g)=>IV [(0,.bp 0 0),(2,.bp 1 0),(4,.p false [.c (.int .i64 v1.2.1)]),(5,.bp 2 0),(6,.p false [.c (.int .i64 g)])] [.box 103 [.c (.sl 5 1 (A0 Zdx d)),.c (.int .i64 e),.c (.int .i64 f)],.box 36 [.c (.str ⟨#[]⟩),.nil 9 1],.box 36 [.c (.str v1.1),.row 3],.row 9 1 (A0 ZE a) 2] st) [(true,161,1)] [0,1,161,209] yF ?_ ?_
 .simp only[go_sem,Zf,seval, *]
 .rintro ⟨d,e,f,a,g⟩ ⟨sl,ob,n⟩ y2 i hW4 h j
  simp only[go_sem,Zf,seval,Zd]at i
  obtain ⟨⟨g5_0,g5_2,g5_4,g5_5,g5_6⟩,og5_0,og5_1,og5_2,og5_3,hn⟩:=i
  subst hn
  simp only[go_sem,Zf,seval, *]
  refine Zc h (fun c6 h=>?_) (fun c6 h=>?_)<;>try simp only[go_sem,Zf,seval, *]
  .obtain ⟨v9,e7,h⟩:=Zy h
   refine Yl (by have hh:=ZhE e7;first|exact hh|(simp only[go_sem,Zf, *]at hh;exact hh)) ?_
   obtain ⟨p8,h⟩:=Zz h
   try simp only[Nat.reduceLeDiff]at p8
   simp only[go_sem,Zf,seval, *]
   refine ⟨_,[],[0,1,2,132],(A4 h).symm,yF,?_⟩
   simp only[go_sem,Zf,seval, *]
  .replace h:=Zw h j
   obtain rfl:=A4 h
   simp only[go_sem,Zf,seval, *]
theorem ZhQ {x_0:Zj}{r:Bool}(h:Zeu x_0=some r):Zm prog J0 92 [(true,ZR x_0)] [(false,[(false,.bool r)])]:=by
 refine fnk func92 rfl ?_
 unfold Zeu at h
 have a:Z7 ⟨#[]⟩=true:=by decide
 simp only[fnS,f92,Zq,go_sem,seval,a]
 refine yB h (fun _ h=>?_) fun _ h=>?_
 refine Zb h fun _ b h=>Za (QA b)<|yA ?_
 iterate 2 refine yB h (fun _ h=>?_) fun _ h=>?_
 iterate 3 (cases h;exact yD)
 refine yB h (fun _ h=>?_) fun _ h=>?_
 refine Zb h fun _ c h=>Za (QA c)<|yA ?_
 iterate 2 refine yB h (fun _ h=>?_) fun _ h=>?_
 iterate 3 (cases h;exact yD)
 refine yB h (fun _ h=>?_) fun _ h=>?_
 refine Zb h fun _ d h=>Za (ZaS d)<|yA ?_
 refine yB h (fun _ h=>?_) fun _ h=>?_
 refine Zb h fun _ e h=>Za (ZaS e)<|yA ?_
 refine yB h (fun _ h=>?_) fun _ h=>?_
 refine Zb h fun _ f h=>Za (Za3 f) ?_
 iterate 3 (cases h;exact yD)
 refine yB h (fun _ h=>?_) fun _ h=>?_
 refine Zb h fun _ g h=>Za (ZaS g)<|yA ?_
 refine yB h (fun _ h=>?_) fun _ h=>?_
 refine Zb h fun _ i h=>Za (ZaS i)<|yA ?_
 refine yB h (fun _ h=>?_) fun _ h=>?_
 refine Zb h fun _ j h=>Za (Za3 j) ?_
 iterate 3 (cases h;exact yD)
 refine yB h (fun _ h=>?_) fun _ h=>?_
 refine Zb h fun _ k h=>Za (ZaS k)<|yA ?_
 refine yB h (fun _ h=>?_) fun _ h=>?_
 refine Zb h fun _ l h=>Za (ZaS l)<|yA ?_
 refine yB h (fun _ h=>?_) fun _ h=>?_
 refine Zb h fun _ m h=>Za (Za3 m) ?_
 iterate 4 (cases h;exact yD)
theorem ZhT {r_0:Zh}{k_1:Int}{v_2:ByteArray}{r:Bool}(h:Qb r_0 k_1 v_2=some r):Zm prog J0 140 [(true,Zx r_0),(false,[.int .i64 k_1]),(false,[.str v_2])] [(false,[(false,.bool r)])]:=by
 refine fnk func140 rfl ?_
 unfold Qb at h
 simp only[fnS,f140,Zq,go_sem,seval]
 refine Zn h (fun i _ st=>IV [(1,yM (.int .i64 k_1)),(2,yM (.str v_2)),(3,.bp 0 0),(12,yM (yY r_0.cond)),(13,yL r_0.cond.length),(14,yL i)] [zK 86 (Zx r_0)] st) [] [0] yF yD ?_ ?_
 rintro _ _ ⟨⟩ ⟨_,_,_⟩ _ a d k h l
 simp only[go_sem,seval,Zd]at d
 obtain ⟨⟨_,_,_,m,_,_⟩,_,hn⟩:=d
 subst hn
 have o:=WF.slotL k m (j:=0) rfl
 have:=Z0 a
 have:=Z2 a
 have:=Zt (Z1 a) o
 simp only[*,go_sem,seval]
 refine yB h (fun _ h=>?_) fun _ h=>?_
 refine Zb h fun _ q h=>Za (Zfo q)<|yA ?_
 refine Zb h fun _ t h=>Za (Zd1 t)<|yA ?_
 refine yB h (fun _ h=>?_) fun _ h=>?_
 replace h:=Zw h l
 cases h;exact yD
 exact yR h [0]
 exact yR h [0]
 rintro ⟨⟩ ⟨_,_,_⟩ e _ h
 simp only[go_sem,seval,Zd]at e
 obtain ⟨⟨_,_,_,_,_,_⟩,_,hn⟩:=e
 subst hn
 have:=ZW (r_0.cond.length)
 simp only[*,go_sem,seval]
 refine Zn h (fun i _ st=>IV [(2,yM (.str v_2)),(30,yM (zB r_0.thn)),(31,yL r_0.thn.length),(32,yL i)] [] st) [] [] yF yD ?_ ?_
 rintro _ _ ⟨⟩ ⟨_,_,_⟩ _ b f u h v
 simp only[go_sem,seval,Zd]at f
 obtain ⟨⟨_,w,_,_⟩,hn⟩:=f
 subst hn
 have x:=WF.slotL u w (j:=0) rfl
 have:=Z0 b
 have:=Z2 b
 have:=Zt (Z1 b) x
 simp only[*,go_sem,seval]
 refine Zb h fun _ y h=>Za (Zd1 y)<|yA ?_
 refine yB h (fun _ h=>?_) fun _ h=>?_
 replace h:=Zw h v
 cases h;exact yD
 exact yR h []
 rintro ⟨⟩ ⟨_,_,_⟩ g _ h
 simp only[go_sem,seval,Zd]at g
 obtain ⟨⟨_,_,_,_⟩,hn⟩:=g
 subst hn
 have:=ZW (r_0.thn.length)
 cases h;exact yD
theorem ZoA {a_0:ZB}{r:Bool}(h:ZeT a_0=some r):Zm prog J0 95 [(true,Z3 a_0)] [(false,[(false,.bool r)])]:=by
 refine fnk func95 rfl ?_
 unfold ZeT at h
 simp only[fnS,f95,Zq,go_sem,seval]
 refine yB h (fun _ h=>?_) fun _ h=>?_
 refine Zb h fun _ a h=>Za (QA a) ?_
 cases h;exact yD
 refine yB h (fun _ h=>?_) fun _ h=>?_
 refine Zb h fun _ b h=>Za (QA b) ?_
 cases h;exact yD
 refine yB h (fun _ h=>?_) fun _ h=>?_
 refine Zb h fun _ c h=>Za (Za3 c) ?_
 iterate 2 (cases h;exact yD)
theorem ZlH {l_0:(List Zj)}{r:(List ByteArray)}(h:Zcq l_0=some r):Zm prog J0 99 [(false,[.sl 137 5 (A0 ZR l_0)])] [(false,[(false,.sl 9 1 (A0 ZE r))])]:=by
 refine fnk func99 rfl ?_
 unfold Zcq at h
 simp only[fnS,f99,Zq,go_sem,seval]
 refine Zn h (fun i a st=>IV [(3,.p false [.row 0]),(6,yM (yY l_0)),(7,yL l_0.length),(8,yL i)] [.row 9 1 (A0 ZE a) 2] st) [(false,3,0)] [80] yF yD ?_ ?_
 rintro _ _ a ⟨_,_,_⟩ _ b d f h _
 simp only[go_sem,seval,Zd]at d
 obtain ⟨⟨_,g,_,_⟩,_,hn⟩:=d
 subst hn
 have k:=WF.slotL f g (j:=0) rfl
 have:=Z0 b
 have:=Z2 b
 have:=Zt (Z1 b) k
 simp only[*,go_sem,seval]
 refine Zb h fun _ l h=>Za (Zfo l) ?_
 obtain ⟨_,h⟩:=Zz h
 simp only[*,go_sem,seval]
 exact yR h [129]
 rintro a ⟨_,_,_⟩ e _ h
 simp only[go_sem,seval,Zd]at e
 obtain ⟨⟨_,_,_,_⟩,_,hn⟩:=e
 subst hn
 have:=ZW (l_0.length)
 cases h;exact yD
theorem ZoN {r_0:Zh}{r:Zh}(h:ZeH r_0=some r):Zm prog J0 54 [(true,Zx r_0)] [(true,[(false,.str r.name),(false,.int .i64 r.priority),(false,.sl 137 5 (A0 ZR r.cond)),(false,.sl 89 3 (A0 Z3 r.thn))])]:=by
 refine fnk func54 rfl ?_
 unfold ZeH at h
 simp only[fnS,f54,Zq,go_sem,seval]
 refine Zb h fun f g h=>Za (ZmN g)<|yA ?_
 refine Zn h (fun i a st=>IV [(2,.bp 0 0),(3,.bp 1 0),(15,yM (zB r_0.thn)),(16,yL r_0.thn.length),(17,yL i)] [.box 86 [.c (.str ⟨#[]⟩),.c (.int .i64 0),.nil 137 5,.nil 89 3],.box 86 [.c (.str r_0.name),.c (.int .i64 r_0.priority),.row 2,.row 3],.row 137 5 (A0 ZR f) 2,.row 89 3 (A0 Z3 a) 2] st) [(true,160,3)] [16,160,128,256] yF yD ?_ ?_
 rintro _ _ a ⟨_,_,_⟩ _ b d k h _
 simp only[go_sem,seval,Zd]at d
 obtain ⟨⟨_,_,l,_,_⟩,_,_,_,_,hn⟩:=d
 subst hn
 have m:=WF.slotL k l (j:=0) rfl
 have:=Z0 b
 have:=Z2 b
 have:=Zt (Z1 b) m
 simp only[*,go_sem,seval]
 refine Zb h fun _ o h=>Za (Zc4 o) ?_
 obtain ⟨q,h⟩:=Zz h
 try simp only[Nat.reduceLeDiff]at q
 simp only[*,go_sem,seval]
 exact yR h [0,1,2,228]
 rintro a ⟨_,_,_⟩ e _ h
 simp only[go_sem,seval,Zd]at e
 obtain ⟨⟨_,_,_,_,_⟩,_,_,_,_,hn⟩:=e
 subst hn
 have:=ZW (r_0.thn.length)
 cases h;exact yD
theorem Zdg {l_0:(List Zg)}{r:Bool}(h:Q3 l_0=some r):Zm prog J0 82 [(false,[.sl 36 2 (A0 Zr l_0)])] [(false,[(false,.bool r)])]:=by
 refine fnk func82 rfl ?_
 unfold Q3 at h
 simp only[fnS,f82,Zq,go_sem,seval]
 refine yB h (fun _ h=>?_) fun _ h=>?_
 cases h;exact yD
 refine Zn h (fun i _ st=>IV [(0,yM (yU l_0)),(8,yM (yU l_0)),(9,yL l_0.length),(10,yL i)] [] st) [] [] yF yD ?_ ?_
 rintro _ _ ⟨⟩ ⟨_,_,_⟩ _ a b f h d
 simp only[go_sem,seval,Zd]at b
 obtain ⟨⟨g,_,_,_⟩,hn⟩:=b
 subst hn
 have k:=WF.slotL f g (j:=0) rfl
 have:=Z0 a
 have:=Z2 a
 have:=Zt (Z1 a) k
 simp only[*,go_sem,seval]
 refine Zb h fun _ l h=>Za (Y9 l)<|yA ?_
 iterate 2 refine yB h (fun _ h=>?_) fun _ h=>?_
 obtain ⟨_,_,_,_,h⟩:=ZaE h
 simp only[*,go_sem,seval]
 refine Zb h fun _ m h=>Za (Zas m)<|yA ?_
 refine yB h (fun _ h=>?_) fun _ h=>?_
 replace h:=Zw h d
 cases h;exact yD
 exact yR h []
 exact yR h []
 replace h:=Zw h d
 cases h;exact yD
 rintro ⟨⟩ ⟨_,_,_⟩ e _ h
 simp only[go_sem,seval,Zd]at e
 obtain ⟨⟨_,_,_,_⟩,hn⟩:=e
 subst hn
 have:=ZW (l_0.length)
 cases h;exact yD
theorem Zcc {append_0:Zi}{String_1:Zg}{a_2:(List Zo)}{r:((List Zo)×Bool)}(h:Qk append_0 String_1 a_2=some r):Zm prog J0 154 [(true,Ql append_0),(true,Zr String_1),(false,[.sl 152 2 (A0 Yg a_2)])] [(false,[(false,.sl 152 2 (A0 Yg r.1))]),(false,[(false,.bool r.2)])]:=by
 refine fnk func154 rfl ?_
 unfold Qk at h
 simp only[fnS,f154,Zq,go_sem,seval]
 refine Zb h fun _ g h=>Za (QA g)<|yA ?_
 refine yB h (fun _ h=>?_) fun _ h=>?_
 refine Zb h fun _ k h=>Za (Y9 k)<|yA ?_
 refine yB h (fun _ h=>?_) fun _ h=>?_
 refine Zb h fun _ l h=>Za (Zax l)<|yA ?_
 iterate 3 refine yB h (fun _ h=>?_) fun _ h=>?_
 cases h;exact yD
 refine Zb h fun _ m h=>Za (ZcF m)<|yA ?_
 refine Zn h (fun i a st=>IV [(4,.bp 0 0),(8,.p false [.row 1]),(45,yM (yV append_0.args)),(46,yL append_0.args.length),(47,yL i)] [zK 36 (Zr String_1),.row 152 2 (A0 Yg a) 2] st) [] [16,544] yF yD ?_ ?_
 rintro _ _ a ⟨_,_,_⟩ _ b d o h e
 simp only[go_sem,seval,Zd]at d
 obtain ⟨⟨_,_,q,_,_⟩,_,_,hn⟩:=d
 subst hn
 have t:=WF.slotL o q (j:=0) rfl
 have:=Z0 b
 have:=Z2 b
 have:=Zt (Z1 b) t
 simp only[*,go_sem,seval]
 refine Zb h fun _ u h=>Za (Qe u)<|yA ?_
 refine yB h (fun _ h=>?_) fun _ h=>?_
 obtain ⟨_,_,_,v,h⟩:=ZaE h
 simp only[AA]at v
 simp only[*,go_sem,seval]
 refine yB h (fun _ h=>?_) fun _ h=>?_
 exact yR h [0,1]
 replace h:=Zw h e
 cases h;exact yD
 obtain ⟨_,_,_,w,h⟩:=ZaE h
 simp only[AA]at w
 simp only[*,go_sem,seval]
 refine Zb h fun _ x h=>Za (Zlu x)<|yA ?_
 refine yB h (fun _ h=>?_) fun _ h=>?_
 exact yR h [0,242]
 replace h:=Zw h e
 cases h;exact yD
 rintro a ⟨_,_,_⟩ f _ h
 simp only[go_sem,seval,Zd]at f
 obtain ⟨⟨_,_,_,_,_⟩,_,_,hn⟩:=f
 subst hn
 have:=ZW (append_0.args.length)
 iterate 5 (cases h;exact yD)
theorem ZoS {rules_0:(List Zh)}{l_1:(List Zv)}{m_2:Yk}{r:(ZC×Bool)}(h:Zc9 rules_0 l_1 m_2=some r):Zm prog J0 66 [(false,[.sl 86 4 (A0 Zx rules_0)]),(false,[.sl 98 3 (A0 Z4 l_1)]),(true,Q0 m_2)] [(true,[(false,.str r.1.mtch.rule),(false,.sl 36 2 (A0 Zr r.1.mtch.facts)),(false,.sl 152 2 (A0 Yg r.1.mtch.binding)),(false,.int .i64 r.1.priority),(false,.sl 3 1 (A0 Yc r.1.times)),(false,.int .i64 r.1.specific),(false,.int .i64 r.1.ordr)]),(false,[(false,.bool r.2)])]:=by
 refine fnk func66 rfl ?_
 unfold Zc9 at h
 simp only[fnS,f66,Zq,go_sem,seval]
 refine Zb h fun e f h=>Za (Zfu f)<|yA ?_
 refine yB h (fun _ h=>?_) fun _ h=>?_
 cases h;exact yD
 refine Zn h (fun i _ st=>IV [(0,yM (yW rules_0)),(1,yM (zA l_1)),(5,.bp 0 0),(6,.bp 1 0),(8,yM (.int .i64 e)),(19,yM (yU m_2.facts)),(20,yL m_2.facts.length),(21,yL i)] [zK 62 (Q0 m_2),.box 64 [.c (.str ⟨#[]⟩),.nil 36 2,.nil 152 2,.c (.int .i64 0),.nil 3 1,.c (.int .i64 0),.c (.int .i64 0)]] st) [] [0,16] yF yD ?_ ?_
 rintro _ _ ⟨⟩ ⟨_,_,_⟩ _ a b g h k
 simp only[go_sem,seval,Zd]at b
 obtain ⟨⟨_,_,_,_,_,l,_,_⟩,_,_,hn⟩:=b
 subst hn
 have m:=WF.slotL g l (j:=0) rfl
 have:=Z0 a
 have:=Z2 a
 have:=Zt (Z1 a) m
 simp only[*,go_sem,seval]
 refine Zb h fun _ o h=>Za (Zbi o)<|yA ?_
 refine yB h (fun _ h=>?_) fun _ h=>?_
 exact yR h [0,1]
 replace h:=Zw h k
 cases h;exact yD
 rintro ⟨⟩ ⟨_,_,_⟩ d _ h
 simp only[go_sem,seval,Zd]at d
 obtain ⟨⟨_,_,_,_,_,_,_,_⟩,_,_,hn⟩:=d
 subst hn
 have:=ZW (m_2.facts.length)
 simp only[*,go_sem,seval]
 refine Zb h fun _ q h=>Za (Zhb q) ?_
 obtain ⟨_,_,_,_,h⟩:=ZaE h
 simp only[*,go_sem,seval]
 refine Zb h fun _ t h=>Za (Zrw t)<|yA ?_
 refine Zb h fun _ u h=>Za (ZkV u) ?_
 cases h;exact yD
theorem ZlM {x_0:ZC}{r:ZC}(h:Q5 x_0=some r):Zm prog J0 111 [(true,Yu x_0)] [(true,[(false,.str r.mtch.rule),(false,.sl 36 2 (A0 Zr r.mtch.facts)),(false,.sl 152 2 (A0 Yg r.mtch.binding)),(false,.int .i64 r.priority),(false,.sl 3 1 (A0 Yc r.times)),(false,.int .i64 r.specific),(false,.int .i64 r.ordr)])]:=by
 refine fnk func111 rfl ?_
 unfold Q5 at h
 simp only[fnS,f111,Zq,go_sem,seval]
 refine Zb h fun _ a h=>Za (Zhb a)<|yA ?_
 refine Zb h fun _ b h=>Za (Zbw b) ?_
 cases h;exact yD
end
section
theorem ZlY {l_0:(List Zs)}{r:(List Zs)}(h:Zcp l_0=some r):Zm prog J0 77 [(false,[.sl 150 2 (A0 XH l_0)])] [(false,[(false,.sl 150 2 (A0 XH r))])]:=by
 refine fnk func77 rfl ?_
 unfold Zcp at h
 simp only[fnS,f77,Zq,go_sem,seval]
 refine Zn h (fun i a st=>IV [(3,.p false [.row 0]),(6,yM (zG l_0)),(7,yL l_0.length),(8,yL i)] [.row 150 2 (A0 XH a) 2] st) [(false,3,0)] [80] yF yD ?_ ?_
 rintro _ _ a ⟨_,_,_⟩ _ b d f h _
 simp only[go_sem,seval,Zd]at d
 obtain ⟨⟨_,g,_,_⟩,_,hn⟩:=d
 subst hn
 have k:=WF.slotL f g (j:=0) rfl
 have:=Z0 b
 have:=Z2 b
 have:=Zt (Z1 b) k
 simp only[*,go_sem,seval]
 refine Zb h fun _ l h=>Za (Ye l)<|yA ?_
 refine Zb h fun _ m h=>Za (ZcF m) ?_
 obtain ⟨o,h⟩:=Zz h
 try simp only[Nat.reduceLeDiff]at o
 simp only[*,go_sem,seval]
 exact yR h [225]
 rintro a ⟨_,_,_⟩ e _ h
 simp only[go_sem,seval,Zd]at e
 obtain ⟨⟨_,_,_,_⟩,_,hn⟩:=e
 subst hn
 have:=ZW (l_0.length)
 cases h;exact yD
theorem Zou {append_0:Zh}{String_1:Zh}{r:Bool}(h:ZeK append_0 String_1=some r):Zm prog J0 84 [(true,Zx append_0),(true,Zx String_1)] [(false,[(false,.bool r)])]:=by
 refine fnk func84 rfl ?_
 unfold ZeK at h
 simp only[fnS,f84,Zq,go_sem,seval]
 iterate 2 refine yB h (fun _ h=>?_) fun _ h=>?_
 iterate 2 (cases h;simp only[*,go_sem,seval];refine Zc h (fun _ h=>?_) fun _ h=>?_<;>try simp only[*,go_sem,seval])
 cases h;exact yD
 refine Zn h (fun i _ st=>IV [(2,.bp 0 0),(3,.bp 1 0),(39,yL append_0.cond.length),(40,yL i)] [zK 86 (Zx append_0),zK 86 (Zx String_1)] st) [] [0,16] yF yD ?_ ?_
 rintro _ _ ⟨⟩ ⟨_,_,_⟩ _ a d l h m
 simp only[go_sem,seval,Zd]at d
 obtain ⟨⟨_,_,_,_⟩,o,_,hn⟩:=d
 subst hn
 have q:=WF.boxL l o (j:=2) rfl
 have:=Z0 a
 have:=Z2 a
 have:=Zt (Z1 a) q
 obtain ⟨_,_,_,t,h⟩:=ZaE h
 simp only[AA]at t
 simp only[*,go_sem,seval]
 refine Zb h fun _ u h=>Za (Zfw u)<|yA ?_
 refine yB h (fun _ h=>?_) fun _ h=>?_
 exact yR h [0,1]
 replace h:=Zw h m
 cases h;exact yD
 rintro ⟨⟩ ⟨_,_,_⟩ e _ h
 simp only[go_sem,seval,Zd]at e
 obtain ⟨⟨_,_,_,_⟩,_,_,hn⟩:=e
 subst hn
 have:=ZW (append_0.cond.length)
 simp only[*,go_sem,seval]
 refine Zn h (fun i _ st=>IV [(2,.bp 0 0),(3,.bp 1 0),(58,yL append_0.thn.length),(59,yL i)] [zK 86 (Zx append_0),zK 86 (Zx String_1)] st) [] [0,1] yF yD ?_ ?_
 rintro _ _ ⟨⟩ ⟨_,_,_⟩ _ b f v h g
 simp only[go_sem,seval,Zd]at f
 obtain ⟨⟨_,_,_,_⟩,w,_,hn⟩:=f
 subst hn
 have x:=WF.boxL v w (j:=3) rfl
 have:=Z0 b
 have:=Z2 b
 have:=Zt (Z1 b) x
 obtain ⟨_,_,_,y,h⟩:=ZaE h
 simp only[AA]at y
 simp only[*,go_sem,seval]
 refine yB h (fun _ h=>?_) fun _ h=>?_
 replace h:=Zw h g
 cases h;exact yD
 refine Zb h fun _ z h=>Za (ZaX z)<|yA ?_
 refine yB h (fun _ h=>?_) fun _ h=>?_
 exact yR h [0,1]
 replace h:=Zw h g
 cases h;exact yD
 rintro ⟨⟩ ⟨_,_,_⟩ k _ h
 simp only[go_sem,seval,Zd]at k
 obtain ⟨⟨_,_,_,_⟩,_,_,hn⟩:=k
 subst hn
 have:=ZW (append_0.thn.length)
 iterate 2 (cases h;exact yD)
theorem ZlR {a_0:(List Zs)}{b_1:(List Zs)}{r:Bool}(h:ZcB a_0 b_1=some r):Zm prog J0 128 [(false,[.sl 150 2 (A0 XH a_0)]),(false,[.sl 150 2 (A0 XH b_1)])] [(false,[(false,.bool r)])]:=by
 refine fnk func128 rfl ?_
 unfold ZcB at h
 simp only[fnS,f128,Zq,go_sem,seval]
 refine yB h (fun _ h=>?_) fun _ h=>?_
 cases h;exact yD
 refine Zn h (fun i _ st=>IV [(0,yM (zG a_0)),(1,yM (zG b_1)),(12,yL a_0.length),(13,yL i)] [] st) [] [] yF yD ?_ ?_
 rintro _ _ ⟨⟩ ⟨_,_,_⟩ _ a b e h f
 simp only[go_sem,seval,Zd]at b
 obtain ⟨⟨g,_,_,_⟩,hn⟩:=b
 subst hn
 have k:=WF.slotL e g (j:=0) rfl
 have:=Z0 a
 have:=Z2 a
 have:=Zt (Z1 a) k
 obtain ⟨_,_,_,l,h⟩:=ZaE h
 simp only[AA]at l
 simp only[*,go_sem,seval]
 refine Zb h fun _ m h=>Za (ZcD m)<|yA ?_
 refine yB h (fun _ h=>?_) fun _ h=>?_
 refine Zb h fun _ o h=>Za (Zoc o)<|yA ?_
 refine yB h (fun _ h=>?_) fun _ h=>?_
 refine ⟨_,[],[],(A4 h).symm,yF,?_⟩
 iterate 2 (simp only[*,go_sem,seval];replace h:=Zw h f;cases h)
 simp only[*,go_sem,seval]
 rintro ⟨⟩ ⟨_,_,_⟩ d _ h
 simp only[go_sem,seval,Zd]at d
 obtain ⟨⟨_,_,_,_⟩,hn⟩:=d
 subst hn
 have:=ZW (a_0.length)
 cases h;exact yD
theorem Zoa {a_0:Yk}{b_1:Yk}{r:Bool}(h:Ze3 a_0 b_1=some r):Zm prog J0 46 [(true,Q0 a_0),(true,Q0 b_1)] [(false,[(false,.bool r)])]:=by
 refine fnk func46 rfl ?_
 unfold Ze3 at h
 simp only[fnS,f46,Zq,go_sem,seval]
 refine yB h (fun _ h=>?_) fun _ h=>?_
 refine Zb h fun _ a h=>Za (ZhO a)<|yA ?_
 refine yB h (fun _ h=>?_) fun _ h=>?_
 refine Zb h fun _ b h=>Za (ZiN b) ?_
 iterate 3 (cases h;exact yD)
end
section
theorem Zam {a_0:(List Zg)}{b_1:(List Zg)}{r:Int}(h:YI a_0 b_1=some r):Zm prog J0 150 [(false,[.sl 36 2 (A0 Zr a_0)]),(false,[.sl 36 2 (A0 Zr b_1)])] [(false,[(false,.int .i64 r)])]:=by
 refine fnk func150 rfl ?_
 unfold YI at h
 simp only[fnS,f150,Zq,go_sem,seval]
 refine Zn h (fun i _ st=>IV [(0,yM (yU a_0)),(1,yM (yU b_1)),(5,yL i)] [] st) [] [] yF yD ?_ ?_
 rintro _ _ ⟨⟩ ⟨_,_,_⟩ _ a b f h d
 simp only[go_sem,seval,Zd]at b
 obtain ⟨⟨g,_,_⟩,hn⟩:=b
 subst hn
 have k:=WF.slotL f g (j:=0) rfl
 have:=Z0 a
 have:=Z2 a
 have:=Zt (Z1 a) k
 simp only[*,go_sem,seval]
 refine yB h (fun _ h=>?_) fun _ h=>?_
 obtain ⟨_,_,_,l,h⟩:=ZaE h
 simp only[AA]at l
 simp only[*,go_sem,seval]
 refine Zb h fun _ m h=>Za (Zas m)<|yA ?_
 refine yB h (fun _ h=>?_) fun _ h=>?_
 replace h:=Zw h d
 cases h;exact yD
 exact yR h []
 refine Zb h fun _ o h=>Za (Yd o) ?_
 replace h:=Zw h d
 cases h;exact yD
 rintro ⟨⟩ ⟨_,_,_⟩ e _ h
 simp only[go_sem,seval,Zd]at e
 obtain ⟨⟨_,_,_⟩,hn⟩:=e
 subst hn
 have:=ZW (a_0.length)
 simp only[*,go_sem,seval]
 refine Zb h fun _ q h=>Za (Yd q) ?_
 cases h;exact yD
theorem ZoF {p_0:Zi}{b_1:(List Zo)}{r:(Zg×Bool)}(h:ZbO p_0 b_1=some r):Zm prog J0 34 [(true,Ql p_0),(false,[.sl 152 2 (A0 Yg b_1)])] [(true,[(false,.str r.1.rel),(false,.sl 9 1 (A0 ZE r.1.args))]),(false,[(false,.bool r.2)])]:=by
 refine fnk func34 rfl ?_
 unfold ZbO at h
 simp only[fnS,f34,Zq,go_sem,seval]
 refine Zb h fun _ f h=>Za (QA f)<|yA ?_
 refine yB h (fun _ h=>?_) fun _ h=>?_
 refine Zb h fun _ g h=>Za (Zax g)<|yA ?_
 refine yB h (fun _ h=>?_) fun _ h=>?_
 refine Zn h (fun i a st=>IV [(1,yM (yZ b_1)),(4,.bp 0 0),(6,.bp 1 0),(24,yM (yV p_0.args)),(25,yL p_0.args.length),(26,yL i)] [.box 36 [.c (.str ⟨#[]⟩),.nil 9 1],.box 36 [.c (.str p_0.rel),.row 2],.row 9 1 (A0 ZE a) 2] st) [(true,224,1)] [16,224,320] yF yD ?_ ?_
 rintro _ _ a ⟨_,_,_⟩ _ b d k h l
 simp only[go_sem,seval,Zd]at d
 obtain ⟨⟨_,_,_,m,_,_⟩,_,_,_,hn⟩:=d
 subst hn
 have o:=WF.slotL k m (j:=0) rfl
 have:=Z0 b
 have:=Z2 b
 have:=Zt (Z1 b) o
 simp only[*,go_sem,seval]
 refine Zb h fun _ q h=>Za (Zch q)<|yA ?_
 refine yB h (fun _ h=>?_) fun _ h=>?_
 obtain ⟨t,h⟩:=Zz h
 try simp only[Nat.reduceLeDiff]at t
 simp only[*,go_sem,seval]
 exact yR h [0,1,291]
 replace h:=Zw h l
 cases h;exact yD
 rintro a ⟨_,_,_⟩ e _ h
 simp only[go_sem,seval,Zd]at e
 obtain ⟨⟨_,_,_,_,_,_⟩,_,_,_,hn⟩:=e
 subst hn
 have:=ZW (p_0.args.length)
 iterate 3 (cases h;exact yD)
theorem ZlO {r_0:Zh}{r:(List Zj)}(h:Zcz r_0=some r):Zm prog J0 117 [(true,Zx r_0)] [(false,[(false,.sl 137 5 (A0 ZR r))])]:=by
 refine fnk func117 rfl ?_
 unfold Zcz at h
 simp only[fnS,f117,Zq,go_sem,seval]
 refine Zb h fun f g h=>Za (ZgN g)<|yA ?_
 refine Zn h (fun i a st=>IV [(3,.p false [.row 0]),(4,.p false [.row 1]),(10,yM (yY r_0.cond)),(11,yL r_0.cond.length),(12,yL i)] [.row 152 2 (A0 Yg f) 2,.row 137 5 (A0 ZR a) 2] st) [(false,4,0)] [48,160] yF yD ?_ ?_
 rintro _ _ a ⟨_,_,_⟩ _ b d k h _
 simp only[go_sem,seval,Zd]at d
 obtain ⟨⟨_,_,l,_,_⟩,_,_,hn⟩:=d
 subst hn
 have m:=WF.slotL k l (j:=0) rfl
 have:=Z0 b
 have:=Z2 b
 have:=Zt (Z1 b) m
 simp only[*,go_sem,seval]
 refine Zb h fun _ o h=>Za (ZgH o) ?_
 obtain ⟨q,h⟩:=Zz h
 try simp only[Nat.reduceLeDiff]at q
 simp only[*,go_sem,seval]
 exact yR h [0,162]
 rintro a ⟨_,_,_⟩ e _ h
 simp only[go_sem,seval,Zd]at e
 obtain ⟨⟨_,_,_,_,_⟩,_,_,hn⟩:=e
 subst hn
 have:=ZW (r_0.cond.length)
 cases h;exact yD
theorem ZiP {a:Ze}{b:Int}{d:Zj}{r:(Int×Ze)}(h:Zab a b d=some r):ZdQ prog J0 JF0 118 46 [(false,.sl 86 4 (A0 Zx a.rules)),(false,.sl 3 1 (A0 Yc a.ends)),(false,.sl 134 3 (A0 Yf a.alphas)),(false,.sl 140 8 (A0 YL a.nodes)),(false,.sl 36 2 (A0 Zr a.facts)),(false,.int .i64 a.tries)] none [(false,[.int .i64 b]),(true,ZR d)] [(false,[(false,.int .i64 r.1)])] [(false,.sl 86 4 (A0 Zx r.2.rules)),(false,.sl 3 1 (A0 Yc r.2.ends)),(false,.sl 134 3 (A0 Yf r.2.alphas)),(false,.sl 140 8 (A0 YL r.2.nodes)),(false,.sl 36 2 (A0 Zr r.2.facts)),(false,.int .i64 r.2.tries)]:=by
 refine fno func118 rfl ?_
 unfold Zab at h
 simp only[fnO,f118,Zgt,gvC,go_sem,seval]
 refine Zn h (fun i _ st=>IV [(0,.bp 0 0),(1,.p false [.c (.int .i64 b)]),(5,.bp 6 0),(13,.p false [.row 4]),(14,.p false [.c (.int .i64 ((a.nodes.length:Nat):Int))]),(15,.p false [.c (.int .i64 ((i:Nat):Int))])] [.box 46 [.row 1,.row 2,.row 3,.row 4,.row 5,.c (.int .i64 a.tries)],.row 86 4 (A0 Zx a.rules) 2,.row 3 1 (A0 Yc a.ends) 2,.row 134 3 (A0 Yf a.alphas) 2,.row 140 8 (A0 YL a.nodes) 2,.row 36 2 (A0 Zr a.facts) 2,.box 137 [.c (.int .i64 d.kind),.c (.str d.pattern.rel),.c (.sl 9 1 (A0 ZE d.pattern.args)),.c (.str d.left),.c (.str d.right)]] st) [] [0,1,2,3,4,5,6] yF ?_ ?_ ?_
 .simp only[*,go_sem,seval]
 .rintro i12 x13 ⟨⟩ ⟨sl,ob,n⟩ y1 f k l h m
  simp only[go_sem,seval,Zd]at k
  obtain ⟨⟨g5_0,g5_1,g5_5,g5_13,g5_14,g5_15⟩,og5_0,og5_1,og5_2,og5_3,g,og5_5,og5_6,hn⟩:=k
  subst hn
  have j:=WF.rowL l g
  have q6:=Z0 f
  have q7:=Z2 f
  have q8:=Zt (Z1 f) j
  simp only[*,go_sem,seval]
  refine Zc h (fun c9 h=>?_) (fun c9 h=>?_)<;>try simp only[*,go_sem,seval]
  .refine Zc h (fun o h=>?_) (fun o h=>?_)<;>try simp only[*,go_sem,seval]
   .refine Zb h fun v14 q h=>Za (Zfw q) ?_
    simp only[*,go_sem,seval]
    refine Zc h (fun t h=>?_) (fun t h=>?_)<;>try simp only[*,go_sem,seval]
    .replace h:=Zw h m
     obtain rfl:=A4 h
     simp only[*,go_sem,seval]
    .refine ⟨_,[],[0,1,2,3,4,5,6],(A4 h).symm,yF,?_⟩
     simp only[*,go_sem,seval]
   .refine ⟨_,[],[0,1,2,3,4,5,6],(A4 h).symm,yF,?_⟩
    simp only[*,go_sem,seval]
  .refine ⟨_,[],[0,1,2,3,4,5,6],(A4 h).symm,yF,?_⟩
   simp only[*,go_sem,seval]
 .rintro ⟨⟩ ⟨sl,ob,n⟩ e hW14 h
  simp only[go_sem,seval,Zd]at e
  obtain ⟨⟨g15_0,g15_1,g15_5,g15_13,g15_14,g15_15⟩,og15_0,og15_1,og15_2,og15_3,og15_4,og15_5,og15_6,hn⟩:=e
  subst hn
  have q16:=ZW (a.nodes.length)
  simp only[*,go_sem,seval]
  refine Zc h (fun u h=>?_) (fun u h=>?_)<;>try simp only[*,go_sem,seval]
  .refine Zb h fun v15 v h=>Za (Zjy v) ?_
   simp only[*,go_sem,seval]
   obtain ⟨v16,w,h⟩:=Zy h
   refine ZeU (Zey w) ?_
   simp only[*,go_sem,seval]
   refine Zb h fun v17 x h=>Za (Qn x) ?_
   obtain ⟨y,h⟩:=Zz h
   try simp only[Nat.reduceLeDiff]at y
   obtain rfl:=A4 h
   simp only[*,go_sem,seval]
  .refine Zc h (fun z h=>?_) (fun z h=>?_)<;>try simp only[*,go_sem,seval]
   .refine Zb h fun v18 A h=>Za (Zjy A) ?_
    simp only[*,go_sem,seval]
    obtain ⟨v19,B,h⟩:=Zy h
    refine ZeU (Zey B) ?_
    simp only[*,go_sem,seval]
    refine Zb h fun v20 C h=>Za (Qn C) ?_
    obtain ⟨D,h⟩:=Zz h
    try simp only[Nat.reduceLeDiff]at D
    obtain rfl:=A4 h
    simp only[*,go_sem,seval]
   .refine Zb h fun v21 E h=>Za (Qn E) ?_
    obtain ⟨F,h⟩:=Zz h
    try simp only[Nat.reduceLeDiff]at F
    obtain rfl:=A4 h
    simp only[*,go_sem,seval]
theorem ZgZ {a_0:(List Zh)}{b_1:(List Zh)}{r:Bool}(h:ZbT a_0 b_1=some r):Zm prog J0 42 [(false,[.sl 86 4 (A0 Zx a_0)]),(false,[.sl 86 4 (A0 Zx b_1)])] [(false,[(false,.bool r)])]:=by
 refine fnk func42 rfl ?_
 unfold ZbT at h
 simp only[fnS,f42,Zq,go_sem,seval]
 refine yB h (fun _ h=>?_) fun _ h=>?_
 cases h;exact yD
 refine Zn h (fun i _ st=>IV [(0,yM (yW a_0)),(1,yM (yW b_1)),(12,yL a_0.length),(13,yL i)] [] st) [] [] yF yD ?_ ?_
 rintro _ _ ⟨⟩ ⟨_,_,_⟩ _ a b e h f
 simp only[go_sem,seval,Zd]at b
 obtain ⟨⟨g,_,_,_⟩,hn⟩:=b
 subst hn
 have k:=WF.slotL e g (j:=0) rfl
 have:=Z0 a
 have:=Z2 a
 have:=Zt (Z1 a) k
 obtain ⟨_,_,_,l,h⟩:=ZaE h
 simp only[AA]at l
 simp only[*,go_sem,seval]
 refine Zb h fun _ m h=>Za (Zou m)<|yA ?_
 refine yB h (fun _ h=>?_) fun _ h=>?_
 exact yR h []
 replace h:=Zw h f
 cases h;exact yD
 rintro ⟨⟩ ⟨_,_,_⟩ d _ h
 simp only[go_sem,seval,Zd]at d
 obtain ⟨⟨_,_,_,_⟩,hn⟩:=d
 subst hn
 have:=ZW (a_0.length)
 cases h;exact yD
theorem Zq5 {a:(List Zg)}{f_1:Zg}{r:(List Zg)}(h:ZfN a f_1=some r):Zm prog J0 157 [(false,[.sl 36 2 (A0 Zr a)]),(true,Zr f_1)] [(false,[(false,.sl 36 2 (A0 Zr r))])]:=by
 refine fnk func157 rfl ?_
 unfold ZfN at h
 simp only[fnS,f157,Zq,go_sem,seval]
 refine Zn h (fun i s st=>match s with|(b,d)=>IV [(3,.bp 0 0),(5,.p false [.row 1]),(6,yM (.bool d)),(9,yM (yU a)),(10,yL a.length),(11,yL i)] [zK 36 (Zr f_1),.row 36 2 (A0 Zr b) 2] st) [(false,5,0)] [0,112] yF yD ?_ ?_
 rintro _ _ ⟨b,d⟩ ⟨_,_,_⟩ _ e f l h _
 simp only[go_sem,seval,Zd]at f
 obtain ⟨⟨_,_,_,m,_,_⟩,_,_,hn⟩:=f
 subst hn
 have o:=WF.slotL l m (j:=0) rfl
 have:=Z0 e
 have:=Z2 e
 have:=Zt (Z1 e) o
 simp only[*,go_sem,seval]
 refine yB h (fun _ h=>?_) fun _ h=>?_
 refine Zb h fun _ q h=>Za (Ys q) ?_
 obtain ⟨t,h⟩:=Zz h
 try simp only[Nat.reduceLeDiff]at t
 simp only[*,go_sem,seval]
 exact yR h [0,274]
 refine Zb h fun _ u h=>Za (Zas u)<|yA ?_
 refine yB h (fun _ h=>?_) fun _ h=>?_
 refine Zb h fun _ v h=>Za (Ys v) ?_
 obtain ⟨w,h⟩:=Zz h
 try simp only[Nat.reduceLeDiff]at w
 simp only[*,go_sem,seval]
 refine Zb h fun _ x h=>Za (Ys x) ?_
 obtain ⟨y,h⟩:=Zz h
 try simp only[Nat.reduceLeDiff]at y
 simp only[*,go_sem,seval]
 exact yR h [0,386]
 refine Zb h fun _ z h=>Za (Ys z) ?_
 obtain ⟨A,h⟩:=Zz h
 try simp only[Nat.reduceLeDiff]at A
 simp only[*,go_sem,seval]
 exact yR h [0,274]
 rintro ⟨b,d⟩ ⟨_,_,_⟩ g _ h
 simp only[go_sem,seval,Zd]at g
 obtain ⟨⟨_,_,_,_,_,_⟩,_,_,hn⟩:=g
 subst hn
 have:=ZW (a.length)
 simp only[*,go_sem,seval]
 refine yB h (fun _ h=>?_) fun _ h=>?_
 cases h;exact yD
 refine Zb h fun _ B h=>Za (Ys B) ?_
 obtain ⟨C,h⟩:=Zz h
 try simp only[Nat.reduceLeDiff]at C
 cases h;exact yD
theorem ZkX {append_0:Ze}{r:(List Yk)}(h:Zbn append_0=some r):Zm prog J0 45 [(true,Qg append_0)] [(false,[(false,.sl 62 3 (A0 Q0 r))])]:=by
 refine fnk func45 rfl ?_
 unfold Zbn at h
 simp only[fnS,f45,Zq,go_sem,seval]
 refine Zn h (fun i f st=>IV [(1,.bp 0 0),(3,.p false [.row 1]),(15,yM (yW append_0.rules)),(16,yL append_0.rules.length),(17,yL i)] [.box 46 [.c (yW append_0.rules),.c (yX append_0.ends),.c (zC append_0.alphas),.c (zD append_0.nodes),.c (yU append_0.facts),.c (.int .i64 append_0.tries)],.row 62 3 (A0 Q0 f) 2] st) [(false,3,0)] [0,112] yF yD ?_ ?_
 rintro o a f ⟨_,_,_⟩ _ g q z h _
 simp only[go_sem,seval,Zd]at q
 obtain ⟨⟨_,_,A,_,_⟩,_,_,hn⟩:=q
 subst hn
 have B:=WF.slotL z A (j:=0) rfl
 have:=Z0 g
 have:=Z2 g
 have:=Zt (Z1 g) B
 simp only[*,go_sem,seval]
 refine Zb h fun d C h=>Za (ZgN C) ?_
 obtain ⟨_,_,_,D,h⟩:=ZaE h
 simp only[AA]at D
 obtain ⟨b,_,_,_,h⟩:=ZaE h
 simp only[*,go_sem,seval]
 refine Zn h (fun i e st=>IV [(1,.bp 0 0),(3,.p false [.row 1]),(5,.bp 2 0),(6,.p false [.row 3]),(15,yM (yW append_0.rules)),(16,yL append_0.rules.length),(17,yL o),(33,yM (zG b.tokens)),(34,yL b.tokens.length),(35,yL i)] [.box 46 [.c (yW append_0.rules),.c (yX append_0.ends),.c (zC append_0.alphas),.c (zD append_0.nodes),.c (yU append_0.facts),.c (.int .i64 append_0.tries)],.row 62 3 (A0 Q0 e) 2,zK 86 (Zx a),.row 152 2 (A0 Yg d) 2] st) [] [0,1,66,130] yF yD ?_ ?_
 rintro E t e ⟨_,_,_⟩ _ k u F h _
 simp only[go_sem,seval,Zd]at u
 obtain ⟨⟨_,_,_,_,_,_,_,G,_,_⟩,_,_,_,_,hn⟩:=u
 subst hn
 have H:=WF.slotL F G (j:=0) rfl
 have:=Z0 k
 have:=Z2 k
 have:=Zt (Z1 k) H
 simp only[*,go_sem,seval]
 refine Zb h fun I J h=>Za (Ye J)<|yA ?_
 refine Zn h (fun i l st=>IV [(1,.bp 0 0),(3,.p false [.row 1]),(5,.bp 2 0),(6,.p false [.row 3]),(8,.bp 4 0),(9,.bp 5 0),(15,yM (yW append_0.rules)),(16,yL append_0.rules.length),(17,yL o),(33,yM (zG b.tokens)),(34,yL b.tokens.length),(35,yL E),(45,.p false [.row 3]),(46,yL d.length),(47,yL i)] [.box 46 [.c (yW append_0.rules),.c (yX append_0.ends),.c (zC append_0.alphas),.c (zD append_0.nodes),.c (yU append_0.facts),.c (.int .i64 append_0.tries)],.row 62 3 (A0 Q0 e) 2,zK 86 (Zx a),.row 152 2 (A0 Yg d) 2,zK 150 (XH t),.box 62 [.c (.str a.name),.row 6,.row 7],.row 36 2 (A0 Zr I) 2,.row 152 2 (A0 Yg l) 2] st) [(true,180,2)] [0,1,2,3,52,180,148,260] yF yD ?_ ?_
 rintro _ _ l ⟨_,_,_⟩ _ m v K h _
 simp only[go_sem,seval,Zd]at v
 obtain ⟨⟨_,_,_,_,_,_,_,_,_,_,_,_,_,_,_⟩,_,_,_,L,_,_,_,_,hn⟩:=v
 subst hn
 have M:=WF.rowL K L
 have:=Z0 m
 have:=Z2 m
 have:=Zt (Z1 m) M
 simp only[*,go_sem,seval]
 refine Zb h fun _ N h=>Za (Zch N)<|yA ?_
 refine yB h (fun _ h=>?_) fun _ h=>?_
 refine Zb h fun _ O h=>Za (Zlu O)<|yA ?_
 exact yR h [0,1,2,3,4,5,6,344]
 exact yR h [0,1,2,3,4,5,6,7]
 rintro l ⟨_,_,_⟩ w _ h
 simp only[go_sem,seval,Zd]at w
 obtain ⟨⟨_,_,_,_,_,_,_,_,_,_,_,_,_,_,_⟩,_,_,_,_,_,_,_,_,hn⟩:=w
 subst hn
 have:=ZW (d.length)
 obtain ⟨P,h⟩:=Zz h
 try simp only[Nat.reduceLeDiff]at P
 simp only[*,go_sem,seval]
 exact yR h [0,72,2,3]
 rintro e ⟨_,_,_⟩ x _ h
 simp only[go_sem,seval,Zd]at x
 obtain ⟨⟨_,_,_,_,_,_,_,_,_,_⟩,_,_,_,_,hn⟩:=x
 subst hn
 have:=ZW (b.tokens.length)
 simp only[*,go_sem,seval]
 exact yR h [0,1]
 rintro f ⟨_,_,_⟩ y _ h
 simp only[go_sem,seval,Zd]at y
 obtain ⟨⟨_,_,_,_,_⟩,_,_,hn⟩:=y
 subst hn
 have:=ZW (append_0.rules.length)
 cases h;exact yD
theorem ZoE {l_0:(List Yk)}{m_1:Yk}{r:Bool}(h:ZeI l_0 m_1=some r):Zm prog J0 17 [(false,[.sl 62 3 (A0 Q0 l_0)]),(true,Q0 m_1)] [(false,[(false,.bool r)])]:=by
 refine fnk func17 rfl ?_
 unfold ZeI at h
 simp only[fnS,f17,Zq,go_sem,seval]
 refine Zn h (fun i _ st=>IV [(0,yM (zJ l_0)),(3,.bp 0 0),(5,yL i)] [zK 62 (Q0 m_1)] st) [] [0] yF yD ?_ ?_
 rintro _ _ ⟨⟩ ⟨_,_,_⟩ _ a b e h f
 simp only[go_sem,seval,Zd]at b
 obtain ⟨⟨g,_,_⟩,_,hn⟩:=b
 subst hn
 have k:=WF.slotL e g (j:=0) rfl
 have:=Z0 a
 have:=Z2 a
 have:=Zt (Z1 a) k
 simp only[*,go_sem,seval]
 refine Zb h fun _ l h=>Za (Zoa l)<|yA ?_
 refine yB h (fun _ h=>?_) fun _ h=>?_
 replace h:=Zw h f
 cases h;exact yD
 exact yR h [0]
 rintro ⟨⟩ ⟨_,_,_⟩ d _ h
 simp only[go_sem,seval,Zd]at d
 obtain ⟨⟨_,_,_⟩,_,hn⟩:=d
 subst hn
 have:=ZW (l_0.length)
 cases h;exact yD
end
section
open Go.RowKit
def ZhC:Nat->Code->Code
 |n+1,.seq a b=>.seq a (ZhC n b)
 |_,_=>.skip
def Zph:Nat->Code->Code
 |n+1,.seq _ b=>Zph n b
 |_,c=>c
theorem Zm8 (c:Code):ZhC 0 c=.skip:=yi rfl
theorem Zp5 (n:Nat) (a b:Code):ZhC (n+1) (.seq a b)=.seq a (ZhC n b):=yi rfl
section
variable {P:Program} {J:World->Prop} {JF:Nat->Prop} {W:QO} {U:Nat->Prop} {st:St} {w w':World} {a:Act} {tt:Nat->Option TI} {od:OD} {g:Gh}
theorem ZuT [NW] {od:OD}(htt:MOk P J JF W tt) (hmix:P.follows .mixedOrders=true) {hds:FuncId->Nat}{k0:Bool}(i:W.hv=none\/k0=true) {N:Nat}{Qs:Ex->St->Prop}{Q:Exit->Act->World->Prop}(hQ:∀ex U' st' a' w',¬ex=.normal->Inv W U' st' a' w'->(∀k,st'.n<=k->¬U' k)->a'.tmps.size=N->Qs ex st'->Q (ZyH ex) a' w'):∀(n:Nat) (c:Code),Xb od tt hds k0 N (ZhC n c)=true->
  (∀U' st' a' w',Inv W U' st' a' w'->(∀k,st'.n<=k->¬U' k)->a'.tmps.size=N->Qs .normal st'->(Zph n c).wp P Q a' w')->
  ∀U st a w,Inv W U st a w->(∀k,st.n<=k->¬U k)->a.tmps.size=N->swp tt (SC P J JF hds) od (ZhC n c) Qs st->c.wp P Q a w:=by
 intro n
 induction n with
 |zero=>
  intro c _ hn U st a w hI hk hs h
  have e:Zph 0 c=c:=by cases c<;>rfl
  rw [<-e]
  have e2:ZhC 0 c=.skip:=by cases c<;>rfl
  rw [e2]at h
  exact hn U st a w hI hk hs h
 |succ n ih=>
  intro c b hn U st a w hI hk hs h
  cases c with
  |seq x y=>
   simp only[ZhC,Xb,Bool.and_eq_true]at b
   refine wp_seq ?_
   refine QB htt hmix i x b.1 (ZgI (swp tt (SC P J JF hds) od (ZhC n y) Qs) Qs) _ ?_ U st a w hI hk hs h
   intro ex U' st' a' w' d f g hq
   cases ex with
   |normal=>exact ih y b.2 hn U' st' a' w' d f g hq
   |exit id=>exact hQ (.exit id) U' st' a' w' yG d f g hq
   |ret=>exact hQ .ret U' st' a' w' yG d f g hq
  |_=>exact hn U st a w hI hk hs h
def ZyB (Hk:St->Prop):Ex->St->Prop
 |.normal,st=>Hk st
 |.exit _,_=>False
 |.ret,_=>False
theorem Zq8 (Hk:St->Prop) (st:St):ZyB Hk .normal st=Hk st:=yi rfl
theorem ZvG (htt : ∀ t i, tt t = some i → TOk P t i) (hJ : JOk J JF) (hmix : P.follows .mixedOrders = true) {hds : FuncId → Nat} {f : FuncId} {fn : Func} {c : Code} {args : List (Bool × List CT)} {res : List RT} (n : Nat) (Hk : St → Prop) (hf : P.funcs[f]? = some fn) (hname : (fn.name == "runtime.NumGoroutine") = false) (hb : fn.body = some c)
  (hok:Xb od tt hds false fn.ntmps (ZhC n c)=true) (hlen:Nat.ble args.length fn.ntmps=true) (h:swp tt (SC P J JF hds) od (ZhC n c) (ZyB Hk) (Zq args))
  (ht:∀[NW] (W:QO) (U:Nat->Prop) (st:St) (a:Act) (w:World),J W.toWorld->(∀b,W.z b->b<W.heap.size)->(∀b,¬(W.x b\/W.y b))->Inv W U st a w->a.tmps.size=fn.ntmps->Hk st->(Zph n c).wp P (bodyPost P fn fun e w'=>∃v m,e=.returned v/\ZhV w' W.heap.size m res v/\(∀b,W.z b->m b)/\Below W.heap.size W.toWorld w') a w):Zm P J f args res:=by
 letI:NW:=nw0
 refine ⟨⟨fn,hf,hname,by rw [hb];rfl⟩,fun w z vs hj hz hargs=>?_⟩
 have hlen':args.length<=fn.ntmps:=Nat.le_of_ble_eq_true hlen
 have hvl:=hargs.len
 refine calls_of_wp hf hb ?_
 let W:QO:={ w with z:=z,x:=fun _=>False,hv:=none }
 let g0:Gh:=⟨fun _=>undef,fun _=>[],fun _=>[],z⟩
 have hg0:∀b,g0.own b->z b:=fun b hb=>by
  rcases hb with ⟨k,m⟩|h
  .simp [g0]at m
  .exact h
 have hI0:Inv W (fun _=>False) (Zq args) { tmps:=vs.toArray++AP (fn.ntmps - vs.toArray.size) undef,defers:=[] } w:=by
  refine ⟨⟨g0,⟨⟨rfl,rfl,rfl,AB _,fun _ _ _=>rfl⟩,fun k=>⟨rfl,rfl⟩,fun k=>by simp [g0],fun k j _ b m=>by simp [g0]at m,fun k b m=>by simp [g0]at m,rfl,fun b hb=>⟨hz b hb,fun h=>h,fun h=>h⟩,fun _ _=>AF _,fun k b m=>by simp [g0]at m⟩,fun t=>?_⟩,⟨fun t=>?_,fun k=>trivial,fun k _=>rfl⟩,rfl,fun v hv=>by simp [W]at hv⟩
  .show SVR g0 w (match args[t]? with|some x=>.p x.1 (x.2.map ZiV)|none=>.und) _
   cases ht:args[t]? with
   |none=>exact ZhA (by have:args.length<=t:=(by simpa using ht);omega)
   |some x=>
    obtain ⟨v,hv,hr⟩:=hargs.at ht
    show SVR g0 w (.p x.1 (x.2.map ZiV)) ((vs.toArray++AP (fn.ntmps - vs.toArray.size) undef).getD t undef)
    rw [ZaM (args:=args) (o:=0) yE v hv]
    exact ZnO hg0 hr
  .show svU _ (match args[t]? with|some x=>.p x.1 (x.2.map ZiV)|none=>.und)
   split
   .exact Zm0 _
   .trivial
 have hM:MOk P J JF W tt:=⟨htt,fun w' hb=>hJ.below (fun _=>False) w w' hj (fun _ h=>h.elim) hb.os hb.tape hb.output hb.size (fun k hk hx=>hb.block k hk hx),fun b hb=>hJ.new w b hj hb,fun b h=>h.elim⟩
 refine ZuT (W:=W) hM hmix (.inl rfl) (Qs:=ZyB Hk) (fun ex U' st' a' w' hne _ _ _ hq=>?_) n c hok (fun U' st' a' w' hI' _ hs' hq=>?_) _ (Zq args) _ w hI0 (fun _ _ h=>h) (by simp;omega) h
 .cases ex with
  |normal=>exact absurd rfl hne
  |exit id=>exact hq.elim
  |ret=>exact hq.elim
 .exact ht W U' st' a' w' hj hz (fun _ h=>h.elim yi yi) hI' hs' hq
end
end
section
open Go.RowKit
structure Enc {α:Type}(c:YK α) (f:α->List CT):Prop where
 to:∀{w:World} {cs:List Value} {x:α} {L:List Nat},c.rep w cs x L->RCs w (f x) cs L
 of:∀{w:World} {cs:List Value} {x:α} {L:List Nat},RCs w (f x) cs L->c.rep w cs x L
section
variable {α:Type} {c:YK α} {f:α->List CT} {w:World}
theorem Enc.reps (h:Enc c f):∀{ds:List α}{xs:List Value}{L:List Nat},c.reps w xs ds L->REs w c.size (ds.map f) xs L
 | [],_,_,h1=>h1
 |_::_,_,_,⟨c1,c2,L1,L2,h1,h2,h3,h4⟩=>⟨c1,c2,L1,L2,h1,h2,⟨h.to h3,c.len h3⟩,h.reps h4⟩
theorem Enc.reps_of (h:Enc c f):∀{ds:List α}{xs:List Value}{L:List Nat},REs w c.size (ds.map f) xs L->c.reps w xs ds L
 | [],_,_,h1=>h1
 |_::_,_,_,⟨c1,c2,L1,L2,h1,h2,h3,h4⟩=>⟨c1,c2,L1,L2,h1,h2,h.of h3.1,h.reps_of h4⟩
theorem Enc.sl (h:Enc c f) (e:Nat) {v:Value}{ds:List α}{L:List Nat}:(X4 c).rep w [v] ds L↔RC w (.sl e c.size (ds.map f)) v L:=by
 constructor
 .rintro ⟨A,cap,hv,h1,h2,xs,L0,L1,hL,h3,h4⟩
  obtain rfl:v=_:=by simpa using hv
  exact ⟨A,cap,xs,L0,L1,yG,by simpa using h1,h2,hL,c.pos,by simpa using h3,h.reps h4⟩
 .rintro ⟨A,cap,xs,L0,L1,hv,h1,h2,hL,h0,h3,h4⟩
  exact ⟨A,cap,by simpa using hv,by simpa using h1,h2,xs,L0,L1,hL,by simpa using h3,h.reps_of h4⟩
theorem RCs.solo {x:CT}{v:Value}{L:List Nat}(h:RC w x v L):RCs w [x] [v] L:=⟨v,[],L,[],rfl,yG,h,rfl,rfl⟩
theorem RCs.more {x:CT}{v:Value}{L M:List Nat}{r:List CT}{cs:List Value}(h:RC w x v L) (k:RCs w r cs M):RCs w (x::r) (v::cs) (L++M):=⟨v,cs,L,M,rfl,rfl,h,k⟩
end
theorem Zzm:Enc ZFX Yc where
 to:=fun ⟨h1,h2⟩=>by subst h1;subst h2;exact RCs.solo ⟨rfl,rfl⟩
 of:=fun ⟨v,cs',L1,L2,h1,h2,h3,h4,h5⟩=>by
  obtain ⟨rfl,rfl⟩:=h3
  subst h4;subst h5;exact ⟨h1,h2⟩
theorem ZCf:Enc ZAm Zdx where
 to:=fun ⟨h1,h2⟩=>by subst h1;subst h2;exact RCs.solo ⟨rfl,rfl⟩
 of:=fun ⟨v,cs',L1,L2,h1,h2,h3,h4,h5⟩=>by
  obtain ⟨rfl,rfl⟩:=h3
  subst h4;subst h5;exact ⟨h1,h2⟩
theorem encStr:Enc ZAo ZE where
 to:=fun ⟨h1,h2,h3⟩=>by subst h1;subst h2;exact RCs.solo ⟨rfl,rfl,h3⟩
 of:=fun ⟨v,cs',L1,L2,h1,h2,h3,h4,h5⟩=>by
  obtain ⟨rfl,rfl,t⟩:=h3
  subst h4;subst h5;exact ⟨h1,h2,t⟩
def ZqX (w:World):Bool×List CT->Value->Prop:=ZhY w fun _=>False
theorem Zk5 {α:Type}{c:YK α}{f:α->List CT}(h:Enc c f) (e:Nat) {w:World}{v:Value}{ds:List α}{L:List Nat}(hr:(X4 c).rep w [v] ds L):ZqX w (false,[.sl e c.size (ds.map f)]) v:=.inr ⟨rfl,_,L,rfl,(h.sl e).1 hr,fun _ _ h=>h⟩
theorem Zu4 (w:World) (n:Int):ZqX w (false,[.int .i64 n]) (.int .i64 n):=.inr ⟨rfl,_,[],rfl,⟨rfl,rfl⟩,fun _ _ h=>h⟩
theorem ZbB {α:Type}{c:YK α}{f:α->List CT}(h:Enc c f) {w:World}{vs:List Value}{x:α}{L:List Nat}(hr:c.rep w vs x L):ZqX w (true,f x) (.agg vs.toArray):=.inl ⟨rfl,vs,L,rfl,h.to hr,fun _ _ h=>h⟩
section
variable {w w':World} {v:Value} {e:Ending}
theorem Zme {B:Nat}{n:Nat->Prop}{x:RT}(h:ZhV w B n [x] v):∃F,OP w B n x v F/\Own w B F:=by
 obtain ⟨vs,F,⟨u,vs',F1,F2,rfl,rfl,h1,rfl,rfl⟩,h2,rfl⟩:=h
 rw [A5]at h2
 exact ⟨F1,by simpa using h1,h2⟩
theorem ZzE {α:Type}{c:YK α}{f:α->List CT}(h:Enc c f) {t:Nat}{ds:List α}{n:Nat->Prop}(hr:ZhV w' w.heap.size n [(false,[(false,.sl t c.size (ds.map f))])] v) (hb:Below w.heap.size w w'):Zge c t w v ds w':=by
 obtain ⟨F,h1,h2⟩:=Zme hr
 rcases h1 with ⟨h1,_⟩|⟨_,ct,h1,h3⟩
 .simp at h1
 .obtain rfl:_=ct:=by simpa using h1
  obtain ⟨_,cs,L,h4,h5,rfl,_⟩:=h3
  exact ⟨⟨cs,L,by simpa using h4,h.reps_of h5,h2⟩,hb⟩
theorem ZCc {n:Int}{B:Nat}{m:Nat->Prop}(hr:ZhV w B m [(false,[(false,.int .i64 n)])] v):v=.int .i64 n:=by
 obtain ⟨F,h1,h2⟩:=Zme hr
 rcases h1 with ⟨h1,_⟩|⟨_,ct,h1,h3⟩
 .simp at h1
 .obtain rfl:_=ct:=by simpa using h1
  exact h3.1.1
theorem ZAe {b:Bool}{B:Nat}{m:Nat->Prop}(hr:ZhV w B m [(false,[(false,.bool b)])] v):v=.bool b:=by
 obtain ⟨F,h1,h2⟩:=Zme hr
 rcases h1 with ⟨h1,_⟩|⟨_,ct,h1,h3⟩
 .simp at h1
 .obtain rfl:_=ct:=by simpa using h1
  exact h3.1.1
end
section
variable {P:Program} {J:World->Prop} {f:FuncId} {args:List (Bool×List CT)} {res:List RT}
theorem Zm.calls (h:Zm P J f args res) {w:World}{vs:List Value}(hj:J w) (ha:ZI (ZqX w) args vs):Calls P f vs.toArray w fun e w'=>∃v n,e=.returned v/\ZhV w' w.heap.size n res v/\Below w.heap.size w w':=
 (h.2 w (fun _=>False) vs hj (fun _ h=>h.elim) ha).mono fun _ _ ⟨v,n,h1,h2,_,h3⟩=>⟨v,n,h1,h2,h3⟩
theorem Zm.givesS {α:Type}{c:YK α}{g:α->List CT}{t:Nat}{ds:List α}(h:Zm P J f args [(false,[(false,.sl t c.size (ds.map g))])]) (hg:Enc c g) {w:World}{vs:List Value}(hj:J w) (ha:ZI (ZqX w) args vs):Calls P f vs.toArray w (Zz2 c t w ds):=
 (h.calls hj ha).mono fun _ _ ⟨v,_,h1,h2,h3⟩=>⟨v,h1,ZzE hg h2 h3⟩
theorem Zm.givesB {b:Bool}(h:Zm P J f args [(false,[(false,.bool b)])]) {w:World}{vs:List Value}(hj:J w) (ha:ZI (ZqX w) args vs):Calls P f vs.toArray w fun e w'=>e=.returned (.bool b)/\Below w.heap.size w w':=
 (h.calls hj ha).mono fun _ _ ⟨v,_,h1,h2,h3⟩=>⟨by rw [h1,ZAe h2],h3⟩
theorem Zm.givesI {b:Int}(h:Zm P J f args [(false,[(false,.int .i64 b)])]) {w:World}{vs:List Value}(hj:J w) (ha:ZI (ZqX w) args vs):Calls P f vs.toArray w fun e w'=>e=.returned (.int .i64 b)/\Below w.heap.size w w':=
 (h.calls hj ha).mono fun _ _ ⟨v,_,h1,h2,h3⟩=>⟨by rw [h1,ZCc h2],h3⟩
def ZB8 {α:Type}(c:YK α) (t:Nat) (w:World) (ds:List α) (b:Bool):Ending->World->Prop:=fun e w'=>∃v,e=.returned (.tuple #[v,.bool b])/\Zge c t w v ds w'
theorem Zm.givesSB {α:Type}{c:YK α}{g:α->List CT}{t:Nat}{ds:List α}{b:Bool}(h:Zm P J f args [(false,[(false,.sl t c.size (ds.map g))]),(false,[(false,.bool b)])]) (hg:Enc c g) {w:World}{vs:List Value}(hj:J w) (ha:ZI (ZqX w) args vs):Calls P f vs.toArray w (ZB8 c t w ds b):=
 (h.calls hj ha).mono fun _ w' ⟨v,n,h1,⟨us,F,⟨u,us',F1,F2,e1,e2,p1,u2,us2,F3,F4,e3,e4,p2,e5,e6⟩,hO,e7⟩,h3⟩=>by
  subst e5 e6 e3 e4 e1 e2
  rcases p2 with ⟨p2,_⟩|⟨_,ct,p2,p3⟩
  .simp at p2
  .obtain rfl:_=ct:=by simpa using p2
   obtain ⟨⟨p4,_⟩,rfl⟩:=p3
   subst p4
   simp only[A5]at hO
   exact ⟨u,by rw [h1,e7];rfl,ZzE (n:=n) hg ⟨[u],F1,⟨u,[],F1,[],rfl,yG,p1,rfl,rfl⟩,hO,rfl⟩ h3⟩
theorem ZzY {w:World}{B:Nat}{n:Nat->Prop}:∀{l:List CT}{cs:List Value}{F:List Nat},OCs w B n (l.map fun y=>(false,y)) cs F->∃F',F'.Sublist F/\RCs w l cs F'
 | [],_,_,⟨h1,h2⟩=>⟨[],yG,h1,rfl⟩
 |x::l,_,_,⟨v,vs,F1,F2,rfl,rfl,h1,h2⟩=>by
  obtain ⟨F2',s2,r2⟩:=ZzY h2
  have key:∃F1',F1'.Sublist F1/\RC w x v F1':=by
   cases x with
   |sl e q xs=>
    obtain ⟨hm,cs,L,o1,o2,o3,o4⟩:=h1
    obtain ⟨A,cap,L0,s1,s2,s3,s4,s5⟩:=Sl.row o1
    exact ⟨L0++L,by rw [o3];exact AQ s5 (List.Sublist.refl _),A,cap,cs,L0,L,s1,s2,s3,rfl,hm,s4,o2⟩
   |int k i=>exact ⟨[],yG,h1.1⟩
   |bool b=>exact ⟨[],yG,h1.1⟩
   |str s=>exact ⟨[],yG,h1.1⟩
   |ifc s=>exact ⟨[],yG,h1.1⟩
   |any=>exact ⟨[],yG,h1.1⟩
   |_=>exact h1.elim
  obtain ⟨F1',s1,r1⟩:=key
  exact ⟨F1'++F2',AQ s1 s2,v,vs,F1',F2',rfl,rfl,r1,r2⟩
end
end
theorem ZnP:Enc Zf4 Ql where
 to:=fun {w cs x L} h=>by
  obtain ⟨A1,c1,L1,rfl,rfl,t0,n1,m1,s1⟩:=h
  have hh:RCs w (Ql x) _ _:=RCs.more ⟨rfl,rfl,t0⟩ (RCs.solo ((encStr.sl 9).1 ⟨A1,c1,rfl,n1,m1,s1⟩))
  simpa only [A6,A5,A9]using hh
 of:=fun {w cs x L} h=>by
  obtain ⟨v0,r0,K0,M0,rfl,rfl,h0,v1,r1,K1,M1,rfl,rfl,h1,rfl,rfl⟩:=h
  obtain ⟨rfl,rfl,t0⟩:=h0
  obtain ⟨A1,c1,e1,n1,m1,s1⟩:=(encStr.sl 9).2 h1
  cases e1
  exact ⟨A1,c1,_,rfl,by simp only[A6,A5,A9],t0,n1,m1,s1⟩
theorem ZvH:Enc Zr5 ZR where
 to:=fun {w cs x L} h=>by
  obtain ⟨A1,c1,L1,rfl,rfl,t0,t1,t2,n1,m1,s1⟩:=h
  have hh:RCs w (ZR x) _ _:=RCs.more ⟨rfl,rfl⟩ (RCs.more ⟨rfl,rfl,t0⟩ (RCs.more ((encStr.sl 9).1 ⟨A1,c1,rfl,n1,m1,s1⟩) (RCs.more ⟨rfl,rfl,t1⟩ (RCs.solo ⟨rfl,rfl,t2⟩))))
  simpa only [A6,A5,A9]using hh
 of:=fun {w cs x L} h=>by
  obtain ⟨v0,r0,K0,M0,rfl,rfl,h0,v1,r1,K1,M1,rfl,rfl,h1,v2,r2,K2,M2,rfl,rfl,h2,v3,r3,K3,M3,rfl,rfl,h3,v4,r4,K4,M4,rfl,rfl,h4,rfl,rfl⟩:=h
  obtain ⟨rfl,rfl⟩:=h0
  obtain ⟨rfl,rfl,t0⟩:=h1
  obtain ⟨A1,c1,e1,n1,m1,s1⟩:=(encStr.sl 9).2 h2
  cases e1
  obtain ⟨rfl,rfl,t1⟩:=h3
  obtain ⟨rfl,rfl,t2⟩:=h4
  exact ⟨A1,c1,_,rfl,by simp only[A6,A5,A9],t0,t1,t2,n1,m1,s1⟩
theorem Xe:Enc YG Zr where
 to:=fun {w cs x L} h=>by
  obtain ⟨A1,c1,L1,rfl,rfl,t0,n1,m1,s1⟩:=h
  have hh:RCs w (Zr x) _ _:=RCs.more ⟨rfl,rfl,t0⟩ (RCs.solo ((encStr.sl 9).1 ⟨A1,c1,rfl,n1,m1,s1⟩))
  simpa only [A6,A5,A9]using hh
 of:=fun {w cs x L} h=>by
  obtain ⟨v0,r0,K0,M0,rfl,rfl,h0,v1,r1,K1,M1,rfl,rfl,h1,rfl,rfl⟩:=h
  obtain ⟨rfl,rfl,t0⟩:=h0
  obtain ⟨A1,c1,e1,n1,m1,s1⟩:=(encStr.sl 9).2 h1
  cases e1
  exact ⟨A1,c1,_,rfl,by simp only[A6,A5,A9],t0,n1,m1,s1⟩
theorem ZsK:Enc Zap Z4 where
 to:=fun {w cs x L} h=>by
  obtain ⟨A1,c1,L1,rfl,rfl,t0,n1,m1,s1⟩:=h
  have hh:RCs w (Z4 x) _ _:=RCs.more ⟨rfl,rfl,t0⟩ (RCs.more ((encStr.sl 9).1 ⟨A1,c1,rfl,n1,m1,s1⟩) (RCs.solo ⟨rfl,rfl⟩))
  simpa only [A6,A5,A9]using hh
 of:=fun {w cs x L} h=>by
  obtain ⟨v0,r0,K0,M0,rfl,rfl,h0,v1,r1,K1,M1,rfl,rfl,h1,v2,r2,K2,M2,rfl,rfl,h2,rfl,rfl⟩:=h
  obtain ⟨rfl,rfl,t0⟩:=h0
  obtain ⟨A1,c1,e1,n1,m1,s1⟩:=(encStr.sl 9).2 h1
  cases e1
  obtain ⟨rfl,rfl⟩:=h2
  exact ⟨A1,c1,_,rfl,by simp only[A6,A5,A9],t0,n1,m1,s1⟩
theorem Zd4:Enc ZgS Yg where
 to:=fun {w cs x L} h=>by
  obtain ⟨rfl,rfl,t0,t1⟩:=h
  have hh:RCs w (Yg x) _ _:=RCs.more ⟨rfl,rfl,t0⟩ (RCs.solo ⟨rfl,rfl,t1⟩)
  simpa only [A6,A5,A9]using hh
 of:=fun {w cs x L} h=>by
  obtain ⟨v0,r0,K0,M0,rfl,rfl,h0,v1,r1,K1,M1,rfl,rfl,h1,rfl,rfl⟩:=h
  obtain ⟨rfl,rfl,t0⟩:=h0
  obtain ⟨rfl,rfl,t1⟩:=h1
  exact ⟨rfl,by simp only[A6,A5,A9],t0,t1⟩
theorem Zyf:Enc Zb8 XH where
 to:=fun {w cs x L} h=>by
  obtain ⟨A1,c1,L1,A2,c2,L2,rfl,rfl,n1,m1,s1,n2,m2,s2⟩:=h
  have hh:RCs w (XH x) _ _:=RCs.more ((Xe.sl 36).1 ⟨A1,c1,rfl,n1,m1,s1⟩) (RCs.solo ((Zd4.sl 152).1 ⟨A2,c2,rfl,n2,m2,s2⟩))
  simpa only [A6,A5,A9]using hh
 of:=fun {w cs x L} h=>by
  obtain ⟨v0,r0,K0,M0,rfl,rfl,h0,v1,r1,K1,M1,rfl,rfl,h1,rfl,rfl⟩:=h
  obtain ⟨A1,c1,e1,n1,m1,s1⟩:=(Xe.sl 36).2 h0
  cases e1
  obtain ⟨A2,c2,e2,n2,m2,s2⟩:=(Zd4.sl 152).2 h1
  cases e2
  exact ⟨A1,c1,_,A2,c2,_,rfl,by simp only[A6,A5,A9],n1,m1,s1,n2,m2,s2⟩
theorem ZpQ:Enc ZqI Yu where
 to:=fun {w cs x L} h=>by
  obtain ⟨A1,c1,L1,A2,c2,L2,A3,c3,L3,rfl,rfl,t0,n1,m1,s1,n2,m2,s2,n3,m3,s3⟩:=h
  have hh:RCs w (Yu x) _ _:=RCs.more ⟨rfl,rfl,t0⟩ (RCs.more ((Xe.sl 36).1 ⟨A1,c1,rfl,n1,m1,s1⟩) (RCs.more ((Zd4.sl 152).1 ⟨A2,c2,rfl,n2,m2,s2⟩) (RCs.more ⟨rfl,rfl⟩ (RCs.more ((Zzm.sl 3).1 ⟨A3,c3,rfl,n3,m3,s3⟩) (RCs.more ⟨rfl,rfl⟩ (RCs.solo ⟨rfl,rfl⟩))))))
  simpa only [A6,A5,A9]using hh
 of:=fun {w cs x L} h=>by
  obtain ⟨v0,r0,K0,M0,rfl,rfl,h0,v1,r1,K1,M1,rfl,rfl,h1,v2,r2,K2,M2,rfl,rfl,h2,v3,r3,K3,M3,rfl,rfl,h3,v4,r4,K4,M4,rfl,rfl,h4,v5,r5,K5,M5,rfl,rfl,h5,v6,r6,K6,M6,rfl,rfl,h6,rfl,rfl⟩:=h
  obtain ⟨rfl,rfl,t0⟩:=h0
  obtain ⟨A1,c1,e1,n1,m1,s1⟩:=(Xe.sl 36).2 h1
  cases e1
  obtain ⟨A2,c2,e2,n2,m2,s2⟩:=(Zd4.sl 152).2 h2
  cases e2
  obtain ⟨rfl,rfl⟩:=h3
  obtain ⟨A3,c3,e3,n3,m3,s3⟩:=(Zzm.sl 3).2 h4
  cases e3
  obtain ⟨rfl,rfl⟩:=h5
  obtain ⟨rfl,rfl⟩:=h6
  exact ⟨A1,c1,_,A2,c2,_,A3,c3,_,rfl,by simp only[A6,A5,A9],t0,n1,m1,s1,n2,m2,s2,n3,m3,s3⟩
section
open Go.RowKit
structure ZgF (I:Array Nat->World->Prop) (n blk g sf:Nat) (lt:Nat->Nat->Bool) (lb sb:Array Value):Prop where
 n62:n<4611686018427387904
 eg:∀args w,(callFunc g args).run prog w=.ok (.enter g args) w
 less:∀dk W (i j:Nat),I dk W->i<n->j<n->Calls prog g (#[.int .i64 i,.int .i64 j]++lb) W fun e w'=>e=.returned (.bool (lt dk[i]! dk[j]!))/\I dk w'/\Below W.heap.size W w'
 swap:∀dk W (i j:Nat),I dk W->i<n->j<n->∃W',(callFunc sf (#[.int .i64 i,.int .i64 j]++sb)).run prog W=.ok (.value (.tuple #[])) W'/\I (swq dk i j) W'/\Y8 [blk] W W'
 ext:∀dk W W',I dk W->Below W.heap.size W W'->I dk W'
 lt:∀dk W,I dk W->blk<W.heap.size
section
variable {I:Array Nat->World->Prop} {n blk g sf:Nat} {lt:Nat->Nat->Bool} {lb sb:Array Value}
def soP (I:Array Nat->World->Prop) (blk:Nat) (W:World) (d:Array Nat):Ending->World->Prop:=fun e w'=>e=.returned (.tuple #[])/\I d w'/\Y8 [blk] W w'
theorem ZgF.box (h:ZgF I n blk g sf lt lb sb) {dk:Array Nat}{W:World}(hI:I dk W) (o:Obj):I dk (W.alloc o)/\Y8 [blk] W (W.alloc o):=
 ⟨h.ext dk W _ hI ((Below.refl _ _).alloc (AB _) o),Y8.of_below ((Below.refl _ _).alloc (AB _) o) _⟩
theorem YC {w w':World}{b t k:Nat}{cs:Array Value}(h:Blk w b t cs) (ho:Y8 [k] w w') (hb:b≠k):Blk w' b t cs:=(ho.block b h.lt (by simpa using hb)).trans h
theorem Zq2 (h:ZgF I n blk g sf lt lb sb) (a b k:Nat) (dk:Array Nat) (W:World) (hI:I dk W) (ha:a+k<=n) (hb:b+k<=n):
  Calls prog 227 #[.agg #[.func (.func g) #[] lb,.func (.func sf) #[] sb],.int .i64 a,.int .i64 b,.int .i64 k] W (soP I blk W (Zto dk a b k)):=by
 have HS:=yS h
 have n62:=h.n62
 have hblk:=h.lt _ _ hI
 obtain ⟨i1,o1⟩:=h.box hI (.cells #[.func (.func g) #[] lb,.func (.func sf) #[] sb] 212)
 have HI1:=yS i1
 have HO1:=yS o1
 have HB1:Hid (Blk (W.alloc (.cells #[.func (.func g) #[] lb,.func (.func sf) #[] sb] 212)) W.heap.size 212 #[.func (.func g) #[] lb,.func (.func sf) #[] sb]):=Blk.new _ _ _
 clear hI h i1 o1
 go_enter func227,ntmps227
 go_wp2
 go_loopw [8] (fun i wr=>∃t:Nat,t<=k/\i=.int .i64 t/\Hid (I (Zto dk a b t) wr)/\Hid (Y8 [blk] W wr)/\Hid (Blk wr W.heap.size 212 #[.func (.func g) #[] lb,.func (.func sf) #[] sb])) (fun i _=>k - (intOf i).toNat)
 case atStart=>exact ⟨0,AF _,rfl,HI1,HO1,HB1⟩
 case round=>
  obtain ⟨t,ht,rfl,HI,HO,HB⟩:=hrel
  by_cases hlt:t<k
  .obtain ⟨W',e1,e2,e3⟩:=HS.out.swap _ wr (a+t) (b+t) HI.out yE yE
   rw [show ((a+t:Nat):Int)=(a:Int)+t by omega,show ((b+t:Nat):Int)=(b:Int)+t by omega]at e1
   have c1:=HB.out.at (i:=1) rfl
   have HB':=yS (YC HB.out e3 yE)
   have HO':=yS (HO.out.trans e3)
   have HI':=yS e2
   clear e2 e3
   go_wp2
   exact ⟨⟨t+1,yE,by go_num,HI',HO',HB'⟩,by simp [intOf];omega⟩
  .obtain rfl:t=k:=by omega
   go_wp2
   go_end0
   exact ⟨rfl,HI.out,HO.out⟩
theorem Zn6 (h:ZgF I n blk g sf lt lb sb) (a b k:Nat) {za zb zk:Int}(ea:za=a) (eb:zb=b) (ek:zk=k) (dk:Array Nat) (W:World) (hI:I dk W) (ha:a+k<=n) (hb:b+k<=n):
  Calls prog 227 #[.agg #[.func (.func g) #[] lb,.func (.func sf) #[] sb],.int .i64 za,.int .i64 zb,.int .i64 zk] W (soP I blk W (Zto dk a b k)):=by
 subst ea eb ek;exact Zq2 h a b k dk W hI ha hb
theorem Zee (h:ZgF I n blk g sf lt lb sb) (a m b:Nat) {za zm zb:Int}(ea:za=a) (em:zm=m) (eb:zb=b) (dk:Array Nat) (W:World) (hI:I dk W) (ham:a<m) (hmb:m<b) (hb:b<=n):
  Calls prog 205 #[.agg #[.func (.func g) #[] lb,.func (.func sf) #[] sb],.int .i64 za,.int .i64 zm,.int .i64 zb] W (soP I blk W (ZxE dk a m b)):=by
 subst ea em eb
 have HS:=yS h
 have n62:=h.n62
 have hblk:=h.lt _ _ hI
 obtain ⟨i1,o1⟩:=h.box hI (.cells #[.func (.func g) #[] lb,.func (.func sf) #[] sb] 212)
 have HI1:=yS i1
 have HO1:=yS o1
 have HB1:Hid (Blk (W.alloc (.cells #[.func (.func g) #[] lb,.func (.func sf) #[] sb] 212)) W.heap.size 212 #[.func (.func g) #[] lb,.func (.func sf) #[] sb]):=Blk.new _ _ _
 clear hI h i1 o1
 go_enter func205,ntmps205
 go_wp2
 go_loopw [8,9] (fun vi vj wr=>∃(i j f:Nat) (d:Array Nat),vi=.int .i64 i/\vj=.int .i64 j/\0<i/\0<j/\i<=m - a/\j<=b - m/\i+j<=f/\Hid (ZqM m f i j d=ZxE dk a m b)/\Hid (I d wr)/\Hid (Y8 [blk] W wr)/\Hid (Blk wr W.heap.size 212 #[.func (.func g) #[] lb,.func (.func sf) #[] sb])) (fun vi vj _=>(intOf vi).toNat+(intOf vj).toNat)
 case atStart=>exact ⟨m - a,b - m,b - a,dk,by go_num,by go_num,yE,yE,AB _,AB _,yE,rfl,HI1,HO1,HB1⟩
 case round=>
  obtain ⟨i,j,f,d,rfl,rfl,hi,hj,hia,hjb,hf,HR,HI,HO,HB⟩:=hrel
  obtain ⟨f,rfl⟩:∃f',f=f'+1:=⟨f - 1,yE⟩
  have c0:=HB.out.at (i:=0) rfl
  have c1:=HB.out.at (i:=1) rfl
  by_cases c:i=j
  .subst c
   have hR:=HR.out
   unfold ZqM at hR
   rw [if_pos rfl]at hR
   have hR:=yS hR
   go_wp2_with (go_at_call 227;refine (Zn6 HS.out (m - i) m i yE rfl rfl d _ HI.out yE yE).mono ?_;rintro e w1 ⟨rfl,i2,o2⟩)
   go_end0
   exact ⟨rfl,by rw [<-hR.out];exact i2,HO.out.trans o2⟩
  .by_cases k:j<i
   .have hR:=HR.out
    unfold ZqM at hR
    rw [if_neg c,if_pos k]at hR
    have hR:=yS hR
    clear HR
    go_wp2_with (go_at_call 227;refine (Zn6 HS.out (m - i) m j yE rfl rfl d _ HI.out yE yE).mono ?_;rintro e w1 ⟨rfl,i2,o2⟩)
    exact ⟨⟨i - j,j,f,_,by go_num,rfl,yE,yE,yE,yE,yE,hR,i2,HO.out.trans o2,YC HB.out o2 yE⟩,by simp [intOf];omega⟩
   .have hR:=HR.out
    unfold ZqM at hR
    rw [if_neg c,if_neg k]at hR
    have hR:=yS hR
    clear HR
    go_wp2_with (go_at_call 227;refine (Zn6 HS.out (m - i) (m+j - i) i yE yE rfl d _ HI.out yE yE).mono ?_;rintro e w1 ⟨rfl,i2,o2⟩)
    exact ⟨⟨i,j - i,f,_,rfl,by go_num,yE,yE,yE,yE,yE,hR,i2,HO.out.trans o2,YC HB.out o2 yE⟩,by simp [intOf];omega⟩
end
end
section
open Go.RowKit
section
variable {I:Array Nat->World->Prop} {n blk g sf:Nat} {lt:Nat->Nat->Bool} {lb sb:Array Value}
theorem ZvP {a j : Nat}{d : Array Nat}(h1 : a < j) (h2 : lt d[j]! d[j - 1]! = true) : Zft lt a j d = Zft lt a (j - 1) (swq d j (j - 1)) := by
  obtain ⟨k, rfl⟩ : ∃ k, j = k + 1 := ⟨j - 1, by omega⟩
  rw [AR]at *
  rw [Zft, if_pos ⟨h1, h2⟩]
theorem Zpo {a j : Nat}{d : Array Nat}(h : ¬ a < j \/ lt d[j]! d[j - 1]! = false) : Zft lt a j d = d := by
  cases j with
  |zero => rfl
  |succ k =>
    rw [AR]at h
    rw [Zft, if_neg fun hh => by rcases h with h|h; exact h hh.1; rw [hh.2]at h; simp at h]
set_option maxRecDepth 100000 in
set_option maxHeartbeats 4000000 in
theorem Zjo (h : ZgF I n blk g sf lt lb sb) (a b : Nat) {za zb : Int} (ea : za = a) (eb : zb = b) (dk : Array Nat) (W : World) (hI : I dk W) (hab : a ≤ b) (hb : b ≤ n) :
    Calls prog 189 #[.agg #[.func (.func g) #[] lb, .func (.func sf) #[] sb], .int .i64 za, .int .i64 zb] W (soP I blk W (Zga lt dk a b)) := by
  subst ea eb
  have HS := Lib.hid h
  have n62 := h.n62
  have eg := h.eg
  have hblk := h.lt _ _ hI
  obtain ⟨i1, o1⟩ := h.box hI (.cells #[.func (.func g) #[] lb, .func (.func sf) #[] sb] 212)
  have HI1 := Lib.hid i1
  have HO1 := Lib.hid o1
  have HB1 : Hid (Blk (W.alloc (.cells #[.func (.func g) #[] lb, .func (.func sf) #[] sb] 212)) W.heap.size 212 #[.func (.func g) #[] lb, .func (.func sf) #[] sb]) := Blk.new _ _ _
  clear hI h i1 o1
  go_enter func189, ntmps189
  go_wp2
  go_loopw [6] (fun vi wr => ∃ (i : Nat) (d : Array Nat), vi = .int .i64 i ∧ a < i ∧ i ≤ b + 1 ∧ Hid (Zq1 lt a (b - i) i d = Zga lt dk a b) ∧ Hid (I d wr) ∧ Hid (Y8 [blk] W wr) ∧ Hid (Blk wr W.heap.size 212 #[.func (.func g) #[] lb, .func (.func sf) #[] sb])) (fun vi _ => b + 1 - (intOf vi).toNat)
  case atStart => exact ⟨a + 1, dk, by go_num, by omega, by omega, rfl, HI1, HO1, HB1⟩
  case round =>
    clear HI1 HO1 HB1
    obtain ⟨i, d, rfl, hai, hib, HR, HI, HO, HB⟩ := hrel
    by_cases hlt : i < b
    · have HR2 : Hid (Zq1 lt a (b - (i + 1)) (i + 1) (Zft lt a i d) = Zga lt dk a b) := by
        have := HR.out
        rw [show b - i = (b - (i + 1)) + 1 by omega, Zq1] at this
        exact this
      clear HR
      go_wp2
      go_loopw [7] (fun vj wr2 => ∃ (j : Nat) (dj : Array Nat), vj = .int .i64 j ∧ a ≤ j ∧ j ≤ i ∧ Hid (Zft lt a j dj = Zft lt a i d) ∧ Hid (I dj wr2) ∧ Hid (Y8 [blk] W wr2) ∧ Hid (Blk wr2 W.heap.size 212 #[.func (.func g) #[] lb, .func (.func sf) #[] sb])) (fun vj _ => (intOf vj).toNat)
      case atStart => exact ⟨i, d, rfl, by omega, AB _, rfl, HI, HO, HB⟩
      case round =>
        clear HI HO HB
        obtain ⟨j, dj, rfl, haj, hji, HR, HI, HO, HB⟩ := hrel
        have c0 := HB.out.at (i := 0) rfl
        have hstop : (¬ a < j ∨ lt dj[j]! dj[j - 1]! = false) → Hid (dj = Zft lt a i d) := fun hh => by
          have := HR.out
          rw [Zpo hh] at this
          exact this
        have hgo : a < j → lt dj[j]! dj[j - 1]! = true → Hid (Zft lt a (j - 1) (swq dj j (j - 1)) = Zft lt a i d) := fun h1 h2 => by
          have := HR.out
          rw [ZvP h1 h2] at this
          exact this
        have HST := Lib.hid hstop
        have HGO := Lib.hid hgo
        clear hstop hgo HR
        by_cases hja : a < j
        · have hl := HS.out.less dj _ j (j - 1) HI.out (by omega) (by omega)
          rw [show (((j - 1 : Nat) : Int)) = (j : Int) - 1 by omega] at hl
          cases hlv : lt dj[j]! dj[j - 1]! with
          | true =>
            rw [hlv] at hl
            go_wp2_with fail
            refine hl.mono ?_
            rintro e w1 ⟨rfl, i2, b2⟩
            have HB2 := Lib.hid (HB.out.later b2)
            have HO2 := Lib.hid (HO.out.trans (Y8.of_below b2 _))
            obtain ⟨W', e1, e2, e3⟩ := HS.out.swap _ w1 j (j - 1) i2 (by omega) (by omega)
            rw [show (((j - 1 : Nat) : Int)) = (j : Int) - 1 by omega] at e1
            have c1 := HB2.out.at (i := 1) rfl
            have HR2 := HGO.out hja hlv
            have HI2 := Lib.hid e2
            have HB3 := Lib.hid (YC HB2.out e3 (by omega))
            have HO3 := Lib.hid (HO2.out.trans e3)
            clear e2 e3 i2 b2
            go_wp2
            exact ⟨⟨j - 1, _, by go_num, by omega, by omega, HR2, HI2, HO3, HB3⟩, by simp [intOf]; omega⟩
          | false =>
            rw [hlv] at hl
            have HR3 := HST.out (.inr hlv)
            go_wp2_with fail
            refine hl.mono ?_
            rintro e w1 ⟨rfl, i2, b2⟩
            go_wp2
            exact ⟨⟨i + 1, _, by go_num, by omega, by omega, by rw [HR3.out]; exact HR2, i2, HO.out.trans (Y8.of_below b2 _), HB.out.later b2⟩, by simp [intOf]; omega⟩
        · have HR3 := HST.out (.inl hja)
          go_wp2
          exact ⟨⟨i + 1, _, by go_num, by omega, by omega, by rw [HR3.out]; exact HR2, HI, HO, HB⟩, by simp [intOf]; omega⟩
    · have HR2 : Hid (d = Zga lt dk a b) := by
        have := HR.out
        rw [show b - i = 0 by omega] at this
        exact this
      go_wp2
      go_end0
      exact ⟨rfl, by rw [← HR2.out]; exact HI.out, HO.out⟩
end
end
section
open Go.RowKit
structure Ztx (I:Array Nat->World->Prop) (n blk T fLen fLess fSwap:Nat) (rv rl rs rn:Value) (lt:Nat->Nat->Bool):Prop where
 n12:n<=12
 lenAt : ∀ dk W, I dk W → ∀ N : Nat, N = prog.types.size + Made.depth → (method N T rv "Len").run prog W = .ok (fLen, rn) W
 lessAt : ∀ dk W, I dk W → ∀ N : Nat, N = prog.types.size + Made.depth → (method N T rv "Less").run prog W = .ok (fLess, rl) W
 swapAt : ∀ dk W, I dk W → ∀ N : Nat, N = prog.types.size + Made.depth → (method N T rv "Swap").run prog W = .ok (fSwap, rs) W
 eLen:∀args w,(callFunc fLen args).run prog w=.ok (.enter fLen args) w
 eLess:∀args w,(callFunc fLess args).run prog w=.ok (.enter fLess args) w
 eSwap:∀args w,(callFunc fSwap args).run prog w=.ok (.enter fSwap args) w
 len:∀dk W,I dk W->Calls prog fLen #[rn] W fun e w'=>e=.returned (.int .i64 n)/\I dk w'/\Below W.heap.size W w'
 less:∀dk W (i j:Nat),I dk W->i<n->j<n->Calls prog fLess #[rl,.int .i64 i,.int .i64 j] W fun e w'=>e=.returned (.bool (lt dk[i]! dk[j]!))/\I dk w'/\Below W.heap.size W w'
 swap:∀dk W (i j:Nat),I dk W->i<n->j<n->Calls prog fSwap #[rs,.int .i64 i,.int .i64 j] W fun e w'=>e=.returned (.tuple #[])/\I (swq dk i j) w'/\Y8 [blk] W w'
section
variable {I:Array Nat->World->Prop} {n blk T fLen fLess fSwap:Nat} {rv rl rs rn:Value} {lt:Nat->Nat->Bool}
set_option maxRecDepth 100000 in
set_option maxHeartbeats 4000000 in
theorem Zql (h : Ztx I n blk T fLen fLess fSwap rv rl rs rn lt) (a b : Nat) {za zb : Int} (ea : za = a) (eb : zb = b) (dk : Array Nat) (W : World) (hI : I dk W) (hab : a ≤ b) (hb : b ≤ n) :
    Calls prog 228 #[.iface T rv, .int .i64 za, .int .i64 zb] W (soP I blk W (Zga lt dk a b)) := by
  subst ea eb
  have HS := Lib.hid h
  have n12 := h.n12
  have eLess := h.eLess
  have eSwap := h.eSwap
  have HI1 := Lib.hid hI
  clear hI h
  go_enter func228, ntmps228
  go_wp2
  go_loopw [6] (fun vi wr => ∃ (i : Nat) (d : Array Nat), vi = .int .i64 i ∧ a < i ∧ i ≤ b + 1 ∧ Hid (Zq1 lt a (b - i) i d = Zga lt dk a b) ∧ Hid (I d wr) ∧ Hid (Y8 [blk] W wr)) (fun vi _ => b + 1 - (intOf vi).toNat)
  case atStart => exact ⟨a + 1, dk, by go_num, by omega, by omega, rfl, HI1, Y8.refl _ _⟩
  case round =>
    clear HI1
    obtain ⟨i, d, rfl, hai, hib, HR, HI, HO⟩ := hrel
    by_cases hlt : i < b
    · have HR2 : Hid (Zq1 lt a (b - (i + 1)) (i + 1) (Zft lt a i d) = Zga lt dk a b) := by
        have := HR.out
        rw [show b - i = (b - (i + 1)) + 1 by omega, Zq1] at this
        exact this
      clear HR
      go_wp2
      go_loopw [7] (fun vj wr2 => ∃ (j : Nat) (dj : Array Nat), vj = .int .i64 j ∧ a ≤ j ∧ j ≤ i ∧ Hid (Zft lt a j dj = Zft lt a i d) ∧ Hid (I dj wr2) ∧ Hid (Y8 [blk] W wr2)) (fun vj _ => (intOf vj).toNat)
      case atStart => exact ⟨i, d, rfl, by omega, AB _, rfl, HI, HO⟩
      case round =>
        clear HI HO
        obtain ⟨j, dj, rfl, haj, hji, HR, HI, HO⟩ := hrel
        have hstop : (¬ a < j ∨ lt dj[j]! dj[j - 1]! = false) → Hid (dj = Zft lt a i d) := fun hh => by
          have := HR.out
          rw [Zpo hh] at this
          exact this
        have hgo : a < j → lt dj[j]! dj[j - 1]! = true → Hid (Zft lt a (j - 1) (swq dj j (j - 1)) = Zft lt a i d) := fun h1 h2 => by
          have := HR.out
          rw [ZvP h1 h2] at this
          exact this
        have HST := Lib.hid hstop
        have HGO := Lib.hid hgo
        clear hstop hgo HR
        by_cases hja : a < j
        · have hl := HS.out.less dj _ j (j - 1) HI.out (by omega) (by omega)
          rw [show (((j - 1 : Nat) : Int)) = (j : Int) - 1 by omega] at hl
          cases hlv : lt dj[j]! dj[j - 1]! with
          | true =>
            rw [hlv] at hl
            go_wp2_with fail
            rw [HS.out.lessAt dj _ HI.out]
            rotate_left
            · kernel_rfl
            simp only[Result.andThen]
            rw [eLess, Oper.upon_enter]
            refine hl.mono ?_
            rintro e w1 ⟨rfl, i2, b2⟩
            have HO2 := Lib.hid (HO.out.trans (Y8.of_below b2 _))
            have hs := HS.out.swap _ w1 j (j - 1) i2 (by omega) (by omega)
            have MS := Lib.hid (HS.out.swapAt _ w1 i2)
            rw [show (((j - 1 : Nat) : Int)) = (j : Int) - 1 by omega] at hs
            have HR2 := HGO.out hja hlv
            clear i2 b2
            go_wp2_with fail
            rw [MS.out]
            rotate_left
            · kernel_rfl
            simp only[Result.andThen]
            rw [eSwap, Oper.upon_enter]
            refine hs.mono ?_
            rintro e w2 ⟨rfl, i3, o3⟩
            go_wp2
            exact ⟨⟨j - 1, _, by go_num, by omega, by omega, HR2, i3, HO2.out.trans o3⟩, by simp [intOf]; omega⟩
          | false =>
            rw [hlv] at hl
            have HR3 := HST.out (.inr hlv)
            go_wp2_with fail
            rw [HS.out.lessAt dj _ HI.out]
            rotate_left
            · kernel_rfl
            simp only[Result.andThen]
            rw [eLess, Oper.upon_enter]
            refine hl.mono ?_
            rintro e w1 ⟨rfl, i2, b2⟩
            go_wp2
            exact ⟨⟨i + 1, _, by go_num, by omega, by omega, by rw [HR3.out]; exact HR2, i2, HO.out.trans (Y8.of_below b2 _)⟩, by simp [intOf]; omega⟩
        · have HR3 := HST.out (.inl hja)
          go_wp2
          exact ⟨⟨i + 1, _, by go_num, by omega, by omega, by rw [HR3.out]; exact HR2, HI, HO⟩, by simp [intOf]; omega⟩
    · have HR2 : Hid (d = Zga lt dk a b) := by
        have := HR.out
        rw [show b - i = 0 by omega] at this
        exact this
      go_wp2
      go_end0
      exact ⟨rfl, by rw [← HR2.out]; exact HI.out, HO.out⟩
theorem ZDK (h:Ztx I n blk T fLen fLess fSwap rv rl rs rn lt) {zn zl:Int}(en:zn=n) (dk:Array Nat) (W:World) (hI:I dk W):
  Calls prog 206 #[.iface T rv,.int .i64 0,.int .i64 zn,.int .i64 zl] W (soP I blk W (Zga lt dk 0 n)):=by
 subst en
 have HS:=yS h
 have n12:=h.n12
 have HI:=yS hI
 clear hI h
 go_enter func206,ntmps206
 go_wp2
 refine wp_loop_rounds 1 ?_
 rw [rounds_succ]
 go_wp2_with (go_at_call 228;refine (Zql HS.out 0 n rfl rfl dk _ HI.out yE (AB _)).mono ?_;rintro e w1 ⟨rfl,i2,o2⟩)
 go_end0
 exact ⟨rfl,i2,o2⟩
theorem Zvf (h:Ztx I n blk T fLen fLess fSwap rv rl rs rn lt) (dk:Array Nat) (W:World) (hI:I dk W):
  Calls prog 191 #[.iface T rv] W (soP I blk W (Zga lt dk 0 n)):=by
 have HS:=yS h
 have n12:=h.n12
 have a:=h.eLen
 have HI:=yS hI
 have hl:=h.len _ _ hI
 have ML:=yS (h.lenAt _ _ hI)
 clear hI h
 go_enter func191,ntmps191
 go_wp2_with fail
 rw [ML.out]
 rotate_left
 .kernel_rfl
 simp only[Result.andThen]
 rw [a,Oper.upon_enter]
 refine hl.mono ?_
 rintro e w1 ⟨rfl,i2,b2⟩
 have HI2:=yS i2
 have HO2:Hid (Y8 [blk] W w1):=Y8.of_below b2 _
 clear i2 b2 hl HI ML
 by_cases h1:n<=1
 .have hX:Zga lt dk 0 n=dk:=by
   unfold Zga
   rw [show n - (0+1)=0 by omega]
   rfl
  go_wp2
  go_end0
  exact ⟨rfl,by rw [hX];exact HI2.out,HO2.out⟩
 .have hw:((n:Int)) % 18446744073709551616=n:=by omega
  go_wp2_with (first|(go_at_call 202;refine (bits_Len _ _ yE yE).mono ?_;rintro e w2 ⟨rfl,rfl⟩)|(go_at_call 206;refine (ZDK HS.out rfl dk _ HI2.out).mono ?_;rintro e w3 ⟨rfl,i3,o3⟩))
  go_end0
  exact ⟨rfl,i3,HO2.out.trans o3⟩
end
end
section
open Go.RowKit
theorem ZtL (nm : String) (hn : nm = "Less") (v : Value) (w : World) : ∀ N : Nat, N = prog.types.size + Made.depth → (method N 243 v nm).run prog w = .ok (287, v) w := by
 rintro N rfl
 subst hn
 kernel_rfl
theorem ZtR (a off c n:Nat) (W:World) (x y:Int) (i j:Nat) (hi:i<n) (hj:j<n) (hn:n<=1000) (ci:W.cell? ⟨a,off+i,none⟩=some (.int .i64 x)) (cj:W.cell? ⟨a,off+j,none⟩=some (.int .i64 y)):
  Calls prog 287 #[.slice (some ⟨a,off,none⟩) n c,.int .i64 i,.int .i64 j] W fun e w'=>e=.returned (.bool (decide (x<y)))/\∃q,w'=W.drewN q:=by
 go_enter func287,ntmps287
 go_wp2
 go_quiet (fail)
 go_wp2
 go_ret
 exact ⟨rfl,nq,rfl⟩
theorem ZuH (a off c n:Nat) (W:World) (x y:Int) (i j:Nat) (hi:i<n) (hj:j<n) (hn:n<=1000) (ci:W.cell? ⟨a,off+i,none⟩=some (.int .i64 x)) (cj:W.cell? ⟨a,off+j,none⟩=some (.int .i64 y)) (fi:W.frozen? ⟨a,off+i,none⟩=false) (fj:W.frozen? ⟨a,off+j,none⟩=false):
  Calls prog 289 #[.slice (some ⟨a,off,none⟩) n c,.int .i64 i,.int .i64 j] W fun e w'=>e=.returned (.tuple #[])/\∃q,w'=((W.setCell ⟨a,off+i,none⟩ (.int .i64 y)).setCell ⟨a,off+j,none⟩ (.int .i64 x)).drewN q:=by
 have mixed:prog.follows .mixedOrders=true:=yO
 obtain ⟨v',hy'⟩:=cell?_setCell_some (w:=W) (p:=⟨a,off+i,none⟩) (x:=.int .i64 y) (q:=⟨a,off+j,none⟩) cj
 go_enter func289,ntmps289
 go_wp2
 go_region_o
 all_goals (try go_wp2)
 all_goals go_end0
 all_goals exact ⟨rfl,1,rfl⟩
theorem ZwW (a off c n:Nat) (W:World):Calls prog 286 #[.slice (some ⟨a,off,none⟩) n c] W fun e w'=>e=.returned (.int .i64 n)/\w'=W:=by
 go_enter func286,ntmps286
 go_wp2
 go_ret
 exact ⟨rfl,rfl⟩
theorem ZtN (A:Option Addr) (c n:Nat) (W:World):Calls prog 286 #[.slice A n c] W fun e w'=>e=.returned (.int .i64 n)/\w'=W:=by
 go_enter func286,ntmps286
 go_wp2
 go_ret
 exact ⟨rfl,rfl⟩
theorem ZuK (v:Value) (W:World):Calls prog 192 #[.iface 243 v] W fun e w'=>e=.returned (.iface 255 (.pointer (some ⟨W.heap.size,0,none⟩)))/\w'=W.alloc (.cells #[.iface 243 v] 257):=by
 go_enter func192,ntmps192
 go_wp2
 go_ret
 exact ⟨rfl,rfl⟩
theorem Zur (blk off c n:Nat) (W:World) (hblk:blk<W.heap.size) (x y:Int) (i j:Nat) (hi:i<n) (hj:j<n) (hn:n<=1000) (ci:W.cell? ⟨blk,off+i,none⟩=some (.int .i64 x)) (cj:W.cell? ⟨blk,off+j,none⟩=some (.int .i64 y)):
  Calls prog 290 #[.agg #[.iface 243 (.slice (some ⟨blk,off,none⟩) n c)],.int .i64 i,.int .i64 j] W fun e w'=>e=.returned (.bool (decide (y<x)))/\Below W.heap.size W w':=by
 have hB:Below W.heap.size W (W.alloc (.cells #[.iface 243 (.slice (some ⟨blk,off,none⟩) n c)] 257)):=(Below.refl _ _).alloc (AB _) _
 have ci':=(hB.cell (p:=⟨blk,off+i,none⟩) hblk).trans ci
 have cj':=(hB.cell (p:=⟨blk,off+j,none⟩) hblk).trans cj
 have HL:=yS (ZtR blk off c n _ y x j i hj hi hn cj' ci')
 have HB:=yS hB
 clear ci' cj' hB ci cj
 go_enter func290,ntmps290
 go_wp2_with fail
 rw [ZtL "Less" rfl]
 rotate_left
 .kernel_rfl
 simp only[Result.andThen]
 rw [enters_of func287 yO rfl,Oper.upon_enter]
 refine HL.out.mono ?_
 rintro e w1 ⟨rfl,q,rfl⟩
 go_wp2
 go_ret
 exact ⟨rfl,HB.out.os,HB.out.tape,HB.out.output,HB.out.size,HB.out.block⟩
end
section
open Go.RowKit
theorem ZBE {W:World}{rb:Nat}{v:Value}(h:W.cell? ⟨rb,0,none⟩=some v):(loadVar 241 ⟨rb,0,none⟩).run prog W=.ok v W:=by
 have a:∀w,(isAgg 241).run prog w=.ok false w:=fun _=>by kernel_rfl
 simp [loadVar,a,h,Result.andThen]
set_option maxRecDepth 1000000 in
theorem ZAA {W : World} {rb : Nat} {v : Value} (h : W.cell? ⟨rb, 0, none⟩ = some v) : (loadVar 257 ⟨rb, 0, none⟩).run prog W = .ok (.agg #[v]) W := by
  have := Lib.rl_loadVar_cells (P := prog) 257 ((prog.info? 257).get (by kernel_rfl)) (by kernel_rfl) (fun _ => by kernel_rfl) rb 0 [v] (by kernel_rfl) W (fun k u hk => by
    cases k with
    | zero => obtain rfl : v = u := by simpa using hk
              exact h
    | succ k => simp at hk)
  simpa using this
theorem ZFa (nm : String) (hn : nm = "Len" ∨ nm = "Swap") (w : World) (rb N : Nat) (hN : N = prog.types.size + Made.depth - 1) : (method (prog.types.size + Made.depth) 255 (.pointer (some ⟨rb, 0, none⟩)) nm).run prog w = ((loadVar 241 ⟨rb, 0, none⟩ >>= fun u => match u with | .iface t' v' => method N t' v' nm | .nilIface => runtimePanic .nilDeref | _ => stuck "method row: interface value expected").run prog w) := by
 subst hN
 rcases hn with rfl|rfl
 .kernel_rfl
 .kernel_rfl
theorem ZzI (nm : String) (f : Nat) (hn : nm = "Len" ∧ f = 286 ∨ nm = "Swap" ∧ f = 289) (v : Value) (w : World) (N : Nat) (hN : N = prog.types.size + Made.depth - 1) : (method N 243 v nm).run prog w = .ok (f, v) w := by
 subst hN
 rcases hn with ⟨rfl,rfl⟩|⟨rfl,rfl⟩
 .kernel_rfl
 .kernel_rfl
theorem Zl7 (nm : String) (f : Nat) (hn : nm = "Len" ∧ f = 286 ∨ nm = "Swap" ∧ f = 289) {W : World} {rb : Nat} {v : Value} (h : W.cell? ⟨rb, 0, none⟩ = some (.iface 243 v)) : (method (prog.types.size + Made.depth) 255 (.pointer (some ⟨rb, 0, none⟩)) nm).run prog W = .ok (f, v) W := by
 obtain ⟨N,hN⟩:∃N,N=prog.types.size+Made.depth - 1:=⟨_,yi rfl⟩
 rw [ZFa nm (hn.elim (fun h=>.inl h.1) fun h=>.inr h.1) W rb N hN]
 have h1:=ZBE h
 have h2:=ZzI nm f hn v W N hN
 simp [h1,h2,Result.andThen]
theorem ZA4 (nm : String) (hn : nm = "Less") (w : World) (rb : Nat) : (method (prog.types.size + Made.depth) 255 (.pointer (some ⟨rb, 0, none⟩)) nm).run prog w = ((loadVar 257 ⟨rb, 0, none⟩ >>= fun u => pure (290, u)).run prog w) := by
 subst hn
 kernel_rfl
theorem Zr7 {W : World} {rb : Nat} {v : Value} (h : W.cell? ⟨rb, 0, none⟩ = some v) : (method (prog.types.size + Made.depth) 255 (.pointer (some ⟨rb, 0, none⟩)) "Less").run prog W = .ok (290, .agg #[v]) W := by
 rw [ZA4 "Less" rfl]
 have h1:=ZAA h
 simp [h1,Result.andThen]
def Zy3 (rb blk off c n sz:Nat) (G:Nat->Int) (dk:Array Nat) (W:World):Prop:=Blk W rb 257 #[.iface 243 (.slice (some ⟨blk,off,none⟩) n c)]/\rb≠blk/\dk.size=n/\∃cs,Blk W blk 3 cs/\cs.size=sz/\∀t,t<n->cs[off+t]?=some (.int .i64 (G dk[t]!))
theorem Zy3.keep {rb a off c n sz:Nat}{G:Nat->Int}{dk:Array Nat}{W W':World}(h:Zy3 rb a off c n sz G dk W) (hb:Below W.heap.size W W'):Zy3 rb a off c n sz G dk W':=by
 obtain ⟨h1,h2,h3,cs,h4,h6,h5⟩:=h
 exact ⟨h1.later hb,h2,h3,cs,h4.later hb,h6,h5⟩
theorem ZzO (rb blk off c n sz:Nat) (G:Nat->Int) (hn:n<=12):Ztx (Zy3 rb blk off c n sz G) n blk 255 286 290 289 (.pointer (some ⟨rb,0,none⟩)) (.agg #[.iface 243 (.slice (some ⟨blk,off,none⟩) n c)]) (.slice (some ⟨blk,off,none⟩) n c) (.slice (some ⟨blk,off,none⟩) n c) (fun i j=>decide (G j<G i)) where
 n12:=hn
 lenAt:=by
  rintro dk W ⟨h1,_⟩ N rfl
  exact Zl7 "Len" _ (.inl ⟨rfl, rfl⟩) (h1.at (i := 0) rfl)
 lessAt:=by
  rintro dk W ⟨h1,_⟩ N rfl
  exact Zr7 (h1.at (i:=0) rfl)
 swapAt:=by
  rintro dk W ⟨h1,_⟩ N rfl
  exact Zl7 "Swap" _ (.inr ⟨rfl, rfl⟩) (h1.at (i := 0) rfl)
 eLen:=enters_of func286 yO rfl
 eLess:=enters_of func290 yO rfl
 eSwap:=enters_of func289 yO rfl
 len:=fun dk W h=>(ZwW blk off c n W).mono fun e w' ⟨h1,h2⟩=>by
  subst h2
  exact ⟨h1,h,Below.refl _ _⟩
 less:=fun dk W i j h hi hj=>by
  obtain ⟨h1,h2,h3,cs,h4,h6,h5⟩:=id h
  refine (Zur blk off c n W h4.lt (G dk[i]!) (G dk[j]!) i j hi hj yE (h4.at (h5 i hi)) (h4.at (h5 j hj))).mono ?_
  rintro e w' ⟨he,hb⟩
  exact ⟨he,h.keep hb,hb⟩
 swap:=fun dk W i j h hi hj=>by
  obtain ⟨h1,h2,h3,cs,h4,h6,h5⟩:=h
  refine (ZuH blk off c n W (G dk[i]!) (G dk[j]!) i j hi hj yE (h4.at (h5 i hi)) (h4.at (h5 j hj)) (h4.frozen _) (h4.frozen _)).mono ?_
  rintro e w' ⟨he,q,rfl⟩
  have hsz:=(Zkw dk i j).1
  refine ⟨he,⟨((h1.far (p:=⟨blk,off+i,none⟩) h2 _).far (p:=⟨blk,off+j,none⟩) h2 _),h2,by rw [hsz];exact h3,_,(h4.set_ (off+i) _).set_ (off+j) _,by simp [h6],fun t ht=>?_⟩,(((Y8.refl [blk] W).setCell (p:=⟨blk,off+i,none⟩) yG _).setCell (p:=⟨blk,off+j,none⟩) yG _).drewN q⟩
  have hci:=(AG.1 (h5 i hi)).1
  have hcj:=(AG.1 (h5 j hj)).1
  unfold swq
  rw [if_pos ⟨yE,yE⟩,Go.Sort.swp_get dk yE yE,AS,AS]
  by_cases e1:t=j
  .subst e1
   rw [if_pos rfl,if_pos (by simpa using hcj),if_pos rfl]
  .rw [if_neg yE,if_neg e1]
   by_cases e2:t=i
   .subst e2
    rw [if_pos rfl,if_pos hci,if_pos rfl]
   .rw [if_neg yE,if_neg e2]
    exact h5 t ht
def ZIz (rb:Nat) (v:Value) (dk:Array Nat) (W:World):Prop:=Blk W rb 257 #[.iface 243 v]
theorem Zxz (rb c:Nat) (A:Option Addr) (lt:Nat->Nat->Bool):Ztx (ZIz rb (.slice A 0 c)) 0 rb 255 286 290 289 (.pointer (some ⟨rb,0,none⟩)) (.agg #[.iface 243 (.slice A 0 c)]) (.slice A 0 c) (.slice A 0 c) lt where
 n12:=AF _
 lenAt:=by
  rintro dk W h1 N rfl
  exact Zl7 "Len" _ (.inl ⟨rfl, rfl⟩) (Blk.at (i := 0) h1 rfl)
 lessAt:=by
  rintro dk W h1 N rfl
  exact Zr7 (Blk.at (i:=0) h1 rfl)
 swapAt:=by
  rintro dk W h1 N rfl
  exact Zl7 "Swap" _ (.inr ⟨rfl, rfl⟩) (Blk.at (i := 0) h1 rfl)
 eLen:=enters_of func286 yO rfl
 eLess:=enters_of func290 yO rfl
 eSwap:=enters_of func289 yO rfl
 len:=fun dk W h=>(ZtN A c 0 W).mono fun e w' ⟨h1,h2⟩=>by
  subst h2
  exact ⟨h1,h,Below.refl _ _⟩
 less:=fun dk W i j h hi hj=>by omega
 swap:=fun dk W i j h hi hj=>by omega
end
section
open Go.RowKit
theorem Zvc (w:World):∀l:List Int,REs w 1 (A0 Yc l) (l.map fun i=>Value.int .i64 i) []
 | []=>⟨rfl,rfl⟩
 |i::l=>⟨[.int .i64 i],l.map fun i=>Value.int .i64 i,[],[],rfl,rfl,⟨RCs.solo (x:=.int .i64 i) (L:=[]) ⟨rfl,rfl⟩,rfl⟩,Zvc w l⟩
theorem Zla {w:World}:∀{l:List Int}{cs:List Value}{L:List Nat},REs w 1 (A0 Yc l) cs L->cs=(l.map fun i=>Value.int .i64 i)/\L=[]
 | [],_,_,⟨h1,h2⟩=>⟨h1,h2⟩
 |i::l,_,_,⟨c1,c2,L1,L2,rfl,rfl,⟨h3,h4⟩,h5⟩=>by
  obtain ⟨rfl,rfl⟩:=Zla h5
  obtain ⟨v,cs,L,M,rfl,rfl,h6,rfl,rfl⟩:=h3
  obtain ⟨rfl,rfl⟩:=h6
  exact ⟨rfl,rfl⟩
def FlK (l:List Int) (st:St):Prop:=st.sl 3=.p false [.row 32]/\st.ob 32=.row 3 1 (A0 Yc l) 2
theorem ZzS [NW] {W:QO}{U:Nat->Prop}{st:St}{a:Act}{w:World}{l:List Int}(hx:∀b,¬(W.x b\/W.y b)) (hI:Inv W U st a w) (hk:FlK l st):
  a.defers=[]/\w.ownsV W.heap.size 3 1 (a.tmps.getD 3 undef) l.length (l.map fun i=>Value.int .i64 i)/\Own w W.heap.size (a.tmps.getD 3 undef).ownBlock.toList/\Bel W w:=by
 obtain ⟨g,hH,hS⟩:=hI.ex
 obtain ⟨k1,k2⟩:=hk
 have h3:=hS 3
 rw [k1]at h3
 obtain ⟨x,e0,e1⟩:=h3
 obtain rfl:AV.row 32=x:=by simpa using e0
 obtain ⟨e1,_⟩:=e1
 have o2:=hH.obs 32
 rw [k2]at o2
 obtain ⟨_,cs,L,p1,p2,p3⟩:=o2
 obtain ⟨q3,q4⟩:g.O 32=(g.val 32).ownBlock.toList/\g.D 32=L:=by
  rcases p3 with ⟨_,h1,h2⟩|⟨h,_⟩|⟨h,_⟩
  .exact ⟨h1,h2⟩
  .simp at h
  .simp at h
 obtain ⟨rfl,rfl⟩:=Zla p2
 have c:∀y∈(g.val 32).ownBlock.toList,W.heap.size<=y:=fun y m=>(hH.plain 32 y (by rw [q3];exact AT _ m)).1.resolve_right (hx y)
 have f:∀y∈(g.val 32).ownBlock.toList,∃j e,w.heap[y]?=some (.cells j e (0,0)):=fun y m=>by
  have h:=(hH.plain 32 y (by rw [q3];exact AT _ m)).2
  rw [k2]at h
  exact h
 have d:=hH.nodup 32
 rw [q3,q4,A5]at d
 rw [AE]at p1
 rw [e1]
 exact ⟨hI.defers,ZmO p1 c,⟨d,c,f⟩,hH.below⟩
theorem Ztt {l:List Value}{n:Nat}(h:l.length=n):∃f:Nat->Value,l=(AH n).map f:=by
 refine ⟨fun i=>l.getD i undef,List.ext_getElem (by simp [h]) fun i h1 h2=>?_⟩
 simp [h1]
theorem ZBh {w:World}{B:Nat}{v:Value}{l:List Int}(a:w.ownsV B 3 1 v l.length (l.map fun i=>Value.int .i64 i)) (hB:B<=w.heap.size) (x:l.length<=12):
  Calls prog 191 #[.iface 255 (.pointer (some ⟨w.heap.size,0,none⟩))] (w.alloc (.cells #[.iface 243 v] 257)) fun e w'=>e=.returned (.tuple #[])/\w'.ownsV B 3 1 v l.length ((Zld l).map fun i=>Value.int .i64 i)/\(∀b∈v.ownBlock.toList,∃d e,w'.heap[b]?=some (.cells d e (0,0)))/\Below B w w':=by
 have f:Below w.heap.size w (w.alloc (.cells #[.iface 243 v] 257)):=(Below.refl _ _).alloc (AB _) _
 have hb:Blk (w.alloc (.cells #[.iface 243 v] 257)) w.heap.size 257 #[.iface 243 v]:=Blk.new _ _ _
 by_cases h0:l.length=0
 .obtain rfl:=List.eq_nil_of_length_eq_zero h0
  obtain ⟨A,c,rfl,p,hcm⟩:=Y2 a
  refine (Zvf (Zxz w.heap.size c A (fun _ _=>false)) #[] _ hb).mono ?_
  rintro e w' ⟨rfl,_,ho⟩
  have hk:∀b∈(Value.slice A 0 c).ownBlock.toList,w'.heap[b]?=w.heap[b]?:=fun b mb=>by
   have q:=Zgh a b mb
   rw [ho.block b (Nat.lt_of_lt_of_le q f.size) (by simp;omega)]
   exact f.block b q
  refine ⟨rfl,XT a hk,fun b mb=>?_,(Below.trans (f.mono hB) ((ho.below (B:=B) (AI hB f.size) (by simpa using hB))))⟩
  rw [hk b mb]
  rcases a.2 with ⟨hv,_⟩|⟨g,o,cap,d,hv,_,hg,_⟩
  .rw [hv]at mb;simp [Value.ownBlock]at mb
  .rw [hv]at mb
   simp [Value.ownBlock]at mb
   subst mb
   exact ⟨_,_,hg⟩
 .rcases a.2 with ⟨_,h1⟩|⟨g,o,cap,d,rfl,u,hg,p,hm,hs,ht⟩
  .exact absurd h1 h0
  have hgl:g<w.heap.size:=(AG.1 hg).1
  have hr:Zy3 w.heap.size g o cap l.length d.size (fun k=>(l[k]?).getD 0) (AJ l.length) (w.alloc (.cells #[.iface 243 (.slice (some ⟨g,o,none⟩) l.length cap)] 257)):=by
   refine ⟨hb,yE,yG,d,Blk.alloc hg _,rfl,fun t m=>?_⟩
   have e:((d.toList.drop o).take (l.length*1))[t]?=some (Value.int .i64 l[t]):=by
    rw [ht,AC,List.getElem?_eq_getElem m];rfl
   rw [AU yE,AW,AK]at e
   rw [e,getElem!_pos (AJ l.length) t (by simpa using m)]
   simp [m]
  refine (Zvf (ZzO w.heap.size g o cap l.length d.size (fun k=>(l[k]?).getD 0) x) _ _ hr).mono ?_
  rintro e w' ⟨rfl,⟨_,_,h3,cs,h4,h5,h6⟩,ho⟩
  refine ⟨rfl,⟨by rw [AE,ZkY];omega,.inr ⟨g,o,cap,cs,rfl,u,h4,p,hm,yE,?_⟩⟩,fun b mb=>?_,Below.trans (f.mono hB) (ho.below (AI hB f.size) (by simpa using u))⟩
  .have hsz:(Zpy l).size=l.length:=by
    have:=(Zsx l).1
    simpa using this
   refine List.ext_getElem? fun t=>?_
   by_cases m:t<l.length
   .rw [AU yE,AW,AK,h6 t m,AC]
    unfold Zld
    rw [AC,AK,Array.getElem?_eq_getElem (by omega:t<(Zpy l).size)]
    have hx:(Zga (fun i j=>decide ((l[j]?).getD 0<(l[i]?).getD 0)) (AJ l.length) 0 l.length)=Zpy l:=rfl
    simp only[hx,Option.map_some]
    rw [getElem!_pos (Zpy l) t yE]
   .rw [AX (by rw [List.length_take];omega),AX (by rw [AE,ZkY];omega)]
  .simp [Value.ownBlock]at mb
   subst mb
   exact ⟨_,_,h4⟩
theorem ZFz {l_0 v1:List Int}(e1:XX l_0=some v1) (i:v1.length<=12):Zm prog J0 149 [(false,[.sl 3 1 (A0 Yc l_0)])] [(false,[(false,.sl 3 1 (A0 Yc (Zld v1)))])]:=by
 refine ZvG (od:=fun _=>none) (hds:=hds) htt hJ0 hmix 2 (FlK v1) func149 yO rfl yO yO ?_ ?_
 .simp only[Zp5,Zm8,f149,Zq,go_sem,seval]
  refine Za (Zbw e1) ?_
  simp only[*,go_sem,seval]
  rw [Zq8]
  exact ⟨by simp only[go_sem,seval],by simp only[go_sem,seval]⟩
 .intro _ W U st a w hJ hz hx hI hN hk
  obtain ⟨j,b,hO,c⟩:=ZzS hx hI hk
  simp only[Zph]
  obtain ⟨d,df⟩:=a
  obtain ⟨tm,rfl⟩:∃l,d=List.toArray l:=⟨d.toList,yG⟩
  obtain rfl:df=[]:=j
  have hN:tm.length=11:=hN
  clear hI hk
  obtain ⟨f,rfl⟩:=Ztt hN
  obtain ⟨v,hv⟩:∃v,f 3=v:=⟨_,rfl⟩
  have g:(({ tmps:=((AH 11).map f).toArray,defers:=[] }:Act).tmps.getD 3 undef)=v:=hv
  rw [g]at b hO
  have hS:=ZBh b c.size i
  have HBW:=yS c
  have HX:=yS hx
  have HZ:=yS hz
  have HO:=yS hO
  clear b c hx hz hN g hO
  simp only[AH,List.range.loop,A0,hv]
  go_wp2_with (first|(go_at_call 192;refine (ZuK v _).mono ?_;rintro e w1 ⟨rfl,rfl⟩)|(go_at_call 191;refine hS.mono ?_;rintro e w' ⟨rfl,k1,k2,k3⟩))
  have K1:=yS k1
  have K2:=yS k2
  have K3:=yS k3
  clear k1 k2 k3 hS
  go_ret
  refine ⟨v,fun _=>True,rfl,⟨[_],v.ownBlock.toList++[],⟨_,[],v.ownBlock.toList++[],[],rfl,yG,.inr ⟨rfl,_,rfl,yF,_,[],by rw [AE,ZkY];exact K1.out,Zvc _ _,rfl,fun _ _=>trivial⟩,rfl,rfl⟩,⟨by rw [A5];exact HO.out.nodup,by rw [A5];exact HO.out.ge,by rw [A5];exact K2.out⟩,rfl⟩,fun _ _=>trivial,?_⟩
  exact ⟨K3.out.os.trans HBW.out.os,K3.out.tape.trans HBW.out.tape,K3.out.output.trans HBW.out.output,AI HBW.out.size K3.out.size,fun k hk=>(K3.out.block k hk).trans (HBW.out.block k hk fun hh=>HX.out k (.inl hh))⟩
theorem Zjh {l_0 r:List Int}(h:Zd9 l_0=some r):Zm prog J0 149 [(false,[.sl 3 1 (A0 Yc l_0)])] [(false,[(false,.sl 3 1 (A0 Yc r))])]:=by
 unfold Zd9 at h
 obtain ⟨v1,e1,h⟩:=Zy h
 by_cases a:v1.length<=12
 .rw [if_pos a]at h
  obtain rfl:=A4 h
  exact ZFz e1 a
 .rw [if_neg a]at h;cases h
end
section
theorem Zhm {x_0:Zj}{r:Bool}(h:ZdM x_0=some r):Zm prog J0 168 [(true,ZR x_0)] [(false,[(false,.bool r)])]:=by
 refine fnk func168 rfl ?_
 unfold ZdM at h
 have a:Z7 ⟨#[]⟩=true:=by decide
 simp only[fnS,f168,Zq,go_sem,seval,a]
 refine yB h (fun _ h=>?_) fun _ h=>?_
 refine Zb h fun _ b h=>Za (ZaQ b)<|yA ?_
 iterate 2 refine yB h (fun _ h=>?_) fun _ h=>?_
 iterate 3 (cases h;exact yD)
 refine yB h (fun _ h=>?_) fun _ h=>?_
 refine Zb h fun _ c h=>Za (ZaQ c)<|yA ?_
 iterate 2 refine yB h (fun _ h=>?_) fun _ h=>?_
 iterate 3 (cases h;exact yD)
 iterate 3 refine yB h (fun _ h=>?_) fun _ h=>?_
 refine Zb h fun _ d h=>Za (ZaG d)<|yA ?_
 refine yB h (fun _ h=>?_) fun _ h=>?_
 refine Zb h fun _ e h=>Za (ZaG e) ?_
 iterate 4 (cases h;exact yD)
 iterate 3 refine yB h (fun _ h=>?_) fun _ h=>?_
 refine Zb h fun _ f h=>Za (ZaG f)<|yA ?_
 refine yB h (fun _ h=>?_) fun _ h=>?_
 refine Zb h fun _ g h=>Za (ZaG g) ?_
 iterate 4 (cases h;exact yD)
 iterate 3 refine yB h (fun _ h=>?_) fun _ h=>?_
 refine Zb h fun _ i h=>Za (ZaG i)<|yA ?_
 refine yB h (fun _ h=>?_) fun _ h=>?_
 refine Zb h fun _ j h=>Za (ZaG j) ?_
 iterate 5 (cases h;exact yD)
theorem ZfX {r_0:Zh}{i_1:Int}{v_2:ByteArray}{r:Bool}(h:Qr r_0 i_1 v_2=some r):Zm prog J0 171 [(true,Zx r_0),(false,[.int .i64 i_1]),(false,[.str v_2])] [(false,[(false,.bool r)])]:=by
 refine fnk func171 rfl ?_
 unfold Qr at h
 simp only[fnS,f171,Zq,go_sem,seval]
 refine Zn h (fun i _ st=>IV [(1,yM (.int .i64 i_1)),(2,yM (.str v_2)),(3,.bp 0 0),(7,yL i)] [zK 86 (Zx r_0)] st) [] [0] yF yD ?_ ?_
 rintro _ _ ⟨⟩ ⟨_,_,_⟩ _ a d k h l
 simp only[go_sem,seval,Zd]at d
 obtain ⟨⟨_,_,_,_⟩,m,hn⟩:=d
 subst hn
 have o:=WF.boxL k m (j:=2) rfl
 have:=Z0 a
 have:=Z2 a
 have:=Zt (Z1 a) o
 simp only[*,go_sem,seval]
 refine yB h (fun _ h=>?_) fun _ h=>?_
 refine Zb h fun _ q h=>Za (Zdn q)<|yA ?_
 refine Zb h fun _ t h=>Za (QH t)<|yA ?_
 refine yB h (fun _ h=>?_) fun _ h=>?_
 replace h:=Zw h l
 cases h;exact yD
 exact yR h [0]
 exact yR h [0]
 rintro ⟨⟩ ⟨_,_,_⟩ e _ h
 simp only[go_sem,seval,Zd]at e
 obtain ⟨⟨_,_,_,_⟩,_,hn⟩:=e
 subst hn
 have:=ZW (r_0.cond.length)
 simp only[*,go_sem,seval]
 refine Zn h (fun i _ st=>IV [(2,yM (.str v_2)),(3,.bp 0 0),(8,yL i)] [zK 86 (Zx r_0)] st) [] [0] yF yD ?_ ?_
 rintro _ _ ⟨⟩ ⟨_,_,_⟩ _ b f u h v
 simp only[go_sem,seval,Zd]at f
 obtain ⟨⟨_,_,_⟩,w,hn⟩:=f
 subst hn
 have x:=WF.boxL u w (j:=3) rfl
 have:=Z0 b
 have:=Z2 b
 have:=Zt (Z1 b) x
 simp only[*,go_sem,seval]
 refine Zb h fun _ y h=>Za (Zdv y)<|yA ?_
 refine Zb h fun _ z h=>Za (QH z)<|yA ?_
 refine yB h (fun _ h=>?_) fun _ h=>?_
 replace h:=Zw h v
 cases h;exact yD
 exact yR h [0]
 rintro ⟨⟩ ⟨_,_,_⟩ g _ h
 simp only[go_sem,seval,Zd]at g
 obtain ⟨⟨_,_,_⟩,_,hn⟩:=g
 subst hn
 have:=ZW (r_0.thn.length)
 cases h;exact yD
theorem Zov {a_0:ZB}{r:Bool}(h:ZeP a_0=some r):Zm prog J0 172 [(true,Z3 a_0)] [(false,[(false,.bool r)])]:=by
 refine fnk func172 rfl ?_
 unfold ZeP at h
 have a:Z7 ⟨#[]⟩=true:=by decide
 simp only[fnS,f172,Zq,go_sem,seval,a]
 refine yB h (fun _ h=>?_) fun _ h=>?_
 refine Zb h fun _ b h=>Za (ZaQ b) ?_
 cases h;exact yD
 refine yB h (fun _ h=>?_) fun _ h=>?_
 refine Zb h fun _ c h=>Za (ZaQ c) ?_
 cases h;exact yD
 iterate 2 refine yB h (fun _ h=>?_) fun _ h=>?_
 iterate 3 (cases h;exact yD)
theorem Zow {r_0:Zh}{r:(List ByteArray)}(h:Zep r_0=some r):Zm prog J0 173 [(true,Zx r_0)] [(false,[(false,.sl 9 1 (A0 ZE r))])]:=by
 refine fnk func173 rfl ?_
 unfold Zep at h
 simp only[fnS,f173,Zq,go_sem,seval]
 refine Zn h (fun i a st=>IV [(1,.bp 0 0),(3,.p false [.row 1]),(4,yL i)] [zK 86 (Zx r_0),.row 9 1 (A0 ZE a) 2] st) [] [0,32] yF yD ?_ ?_
 rintro A _ a ⟨_,_,_⟩ _ b m B h _
 simp only[go_sem,seval,Zd]at m
 obtain ⟨⟨_,_,_⟩,C,_,hn⟩:=m
 subst hn
 have D:=WF.boxL B C (j:=2) rfl
 have:=Z0 b
 have:=Z2 b
 have:=Zt (Z1 b) D
 simp only[*,go_sem,seval]
 refine Zb h fun o E h=>Za (Zdn E)<|yA ?_
 refine Zn h (fun i d st=>IV [(1,.bp 0 0),(3,.p false [.row 1]),(4,yL A),(5,.p false [.row 2]),(6,yL i)] [zK 86 (Zx r_0),.row 9 1 (A0 ZE d) 2,.row 9 1 (A0 ZE o) 2] st) [] [0,1,162] yF yD ?_ ?_
 rintro _ _ d ⟨_,_,_⟩ _ e q F h _
 simp only[go_sem,seval,Zd]at q
 obtain ⟨⟨_,_,_,_,_⟩,_,_,G,hn⟩:=q
 subst hn
 have H:=WF.rowL F G
 have:=Z0 e
 have:=Z2 e
 have:=Zt (Z1 e) H
 simp only[*,go_sem,seval]
 refine Zb h fun _ I h=>Za (ZbI I)<|yA ?_
 exact yR h [0,147,2]
 rintro d ⟨_,_,_⟩ t _ h
 simp only[go_sem,seval,Zd]at t
 obtain ⟨⟨_,_,_,_,_⟩,_,_,_,hn⟩:=t
 subst hn
 have:=ZW (o.length)
 simp only[*,go_sem,seval]
 exact yR h [0,1]
 rintro a ⟨_,_,_⟩ u _ h
 simp only[go_sem,seval,Zd]at u
 obtain ⟨⟨_,_,_⟩,_,_,hn⟩:=u
 subst hn
 have:=ZW (r_0.cond.length)
 simp only[*,go_sem,seval]
 refine Zn h (fun i f st=>IV [(1,.bp 0 0),(3,.p false [.row 1]),(7,yL i)] [zK 86 (Zx r_0),.row 9 1 (A0 ZE f) 2] st) [] [0,1] yF yD ?_ ?_
 rintro J _ f ⟨_,_,_⟩ _ g v K h _
 simp only[go_sem,seval,Zd]at v
 obtain ⟨⟨_,_,_⟩,L,_,hn⟩:=v
 subst hn
 have M:=WF.boxL K L (j:=3) rfl
 have:=Z0 g
 have:=Z2 g
 have:=Zt (Z1 g) M
 simp only[*,go_sem,seval]
 refine Zb h fun w N h=>Za (Zdv N)<|yA ?_
 refine Zn h (fun i k st=>IV [(1,.bp 0 0),(3,.p false [.row 1]),(7,yL J),(8,.p false [.row 2]),(9,yL i)] [zK 86 (Zx r_0),.row 9 1 (A0 ZE k) 2,.row 9 1 (A0 ZE w) 2] st) [] [0,1,178] yF yD ?_ ?_
 rintro _ _ k ⟨_,_,_⟩ _ l x O h _
 simp only[go_sem,seval,Zd]at x
 obtain ⟨⟨_,_,_,_,_⟩,_,_,P,hn⟩:=x
 subst hn
 have Q:=WF.rowL O P
 have:=Z0 l
 have:=Z2 l
 have:=Zt (Z1 l) Q
 simp only[*,go_sem,seval]
 refine Zb h fun _ R h=>Za (ZbI R)<|yA ?_
 exact yR h [0,147,2]
 rintro k ⟨_,_,_⟩ y _ h
 simp only[go_sem,seval,Zd]at y
 obtain ⟨⟨_,_,_,_,_⟩,_,_,_,hn⟩:=y
 subst hn
 have:=ZW (w.length)
 simp only[*,go_sem,seval]
 exact yR h [0,1]
 rintro f ⟨_,_,_⟩ z _ h
 simp only[go_sem,seval,Zd]at z
 obtain ⟨⟨_,_,_⟩,_,_,hn⟩:=z
 subst hn
 have:=ZW (r_0.thn.length)
 cases h;exact yD
theorem Qi {s_0:ByteArray}{r:(Zi×Bool)}(h:Yy s_0=some r):Zm prog J0 210 [(false,[.str s_0])] [(true,[(false,.str r.1.rel),(false,.sl 9 1 (A0 ZE r.1.args))]),(false,[(false,.bool r.2)])]:=by
 refine fnk func210 rfl ?_
 unfold Yy at h
 simp only[fnS,f210,Zq,go_sem,seval]
 refine Zb h fun _ a h=>Za (Zqm a)<|yA ?_
 refine yB h (fun _ h=>?_) fun _ h=>?_
 refine Zb h fun _ b h=>Za (ZaQ b)<|yA ?_
 refine yB h (fun _ h=>?_) fun _ h=>?_
 iterate 3 (cases h;exact yD)
theorem ZdH {b:Zp}{r:(Zi×Zp)}(h:Zbp b=some r):XQ prog J0 JF0 131 (.box 103 (YO b)) [] [(true,[(false,.str r.1.rel),(false,.sl 9 1 (A0 ZE r.1.args))])] (.box 103 (YO r.2)):=by
 refine ZEv [(6,[0,1,2,3,4,5,6,7],true)] func131 rfl ?_
 unfold Zbp at h
 simp only[fnH,f131,Qu,Qp,YT,go_sem,Zf,seval]
 obtain ⟨v1,e1,h⟩:=Zy h
 refine Yl (by have hh:=Zne e1;first|exact hh|(simp only[go_sem,Zf, *]at hh;exact hh)) ?_
 simp only[go_sem,Zf,seval, *]
 refine XB h (fun s st=>match s with|(d,e,f,a,g)=>IV [(0,.bp 0 0),(2,.bp 1 0),(4,.p false [.c (.int .i64 v1.2.1)]),(5,.bp 2 0),(6,.p false [.c (.int .i64 g)])] [.box 103 [.c (.sl 5 1 (A0 Zdx d)),.c (.int .i64 e),.c (.int .i64 f)],.box 87 [.c (.str ⟨#[]⟩),.nil 9 1],.box 87 [.c (.str v1.1),.row 3],.row 9 1 (A0 ZE a) 2] st) [(true,161,1)] [0,1,161,209] yF ?_ ?_
 .simp only[go_sem,Zf,seval, *]
 .rintro ⟨d,e,f,a,g⟩ ⟨sl,ob,n⟩ y2 i hW4 h j
  simp only[go_sem,Zf,seval,Zd]at i
  obtain ⟨⟨g5_0,g5_2,g5_4,g5_5,g5_6⟩,og5_0,og5_1,og5_2,og5_3,hn⟩:=i
  subst hn
  simp only[go_sem,Zf,seval, *]
  refine Zc h (fun c6 h=>?_) (fun c6 h=>?_)<;>try simp only[go_sem,Zf,seval, *]
  .obtain ⟨v9,e7,h⟩:=Zy h
   refine Yl (by have hh:=Zg9 e7;first|exact hh|(simp only[go_sem,Zf, *]at hh;exact hh)) ?_
   obtain ⟨p8,h⟩:=Zz h
   try simp only[Nat.reduceLeDiff]at p8
   simp only[go_sem,Zf,seval, *]
   refine ⟨_,[],[0,1,2,132],(A4 h).symm,yF,?_⟩
   simp only[go_sem,Zf,seval, *]
  .replace h:=Zw h j
   obtain rfl:=A4 h
   simp only[go_sem,Zf,seval, *]
theorem Ziu {r_0:Zh}{k_1:Int}{r:Bool}(h:Zc1 r_0 k_1=some r):Zm prog J0 93 [(true,Zx r_0),(false,[.int .i64 k_1])] [(false,[(false,.bool r)])]:=by
 refine fnk func93 rfl ?_
 unfold Zc1 at h
 simp only[fnS,f93,Zq,go_sem,seval]
 obtain ⟨a,_,_,_,h⟩:=ZaE h
 simp only[*,go_sem,seval]
 refine Zb h fun j k h=>Za (Zhu k)<|yA ?_
 refine Zb h fun b l h=>Za (Zfo l)<|yA ?_
 refine Zn h (fun i _ st=>IV [(1,yM (.int .i64 k_1)),(2,.bp 0 0),(5,.bp 1 0),(6,.p false [.row 2]),(18,.p false [.row 3]),(19,yL b.length),(20,yL i)] [zK 86 (Zx r_0),zK 137 (ZR a),.row 9 1 (A0 ZE j) 2,.row 9 1 (A0 ZE b) 2] st) [] [0,112,176,224] yF yD ?_ ?_
 rintro _ _ ⟨⟩ ⟨_,_,_⟩ _ d e m h f
 simp only[go_sem,seval,Zd]at e
 obtain ⟨⟨_,_,_,_,_,_,_⟩,_,_,_,o,hn⟩:=e
 subst hn
 have q:=WF.rowL m o
 have:=Z0 d
 have:=Z2 d
 have:=Zt (Z1 d) q
 simp only[*,go_sem,seval]
 refine yB h (fun _ h=>?_) fun _ h=>?_
 exact yR h [0,1,2,3]
 refine Zb h fun _ t h=>Za (Zd1 t)<|yA ?_
 refine yB h (fun _ h=>?_) fun _ h=>?_
 exact yR h [0,1,2,3]
 refine yB h (fun _ h=>?_) fun _ h=>?_
 replace h:=Zw h f
 cases h;exact yD
 refine Zb h fun _ u h=>Za (ZhT u)<|yA ?_
 refine yB h (fun _ h=>?_) fun _ h=>?_
 replace h:=Zw h f
 cases h;exact yD
 exact yR h [0,1,2,3]
 rintro ⟨⟩ ⟨_,_,_⟩ g _ h
 simp only[go_sem,seval,Zd]at g
 obtain ⟨⟨_,_,_,_,_,_,_⟩,_,_,_,_,hn⟩:=g
 subst hn
 have:=ZW (b.length)
 cases h;exact yD
theorem Zck {l_0:(List Zh)}{r:(List Zh)}(h:QS l_0=some r):Zm prog J0 24 [(false,[.sl 86 4 (A0 Zx l_0)])] [(false,[(false,.sl 86 4 (A0 Zx r))])]:=by
 refine fnk func24 rfl ?_
 unfold QS at h
 simp only[fnS,f24,Zq,go_sem,seval]
 refine Zn h (fun i a st=>IV [(3,.p false [.row 0]),(6,yM (yW l_0)),(7,yL l_0.length),(8,yL i)] [.row 86 4 (A0 Zx a) 2] st) [(false,3,0)] [80] yF yD ?_ ?_
 rintro _ _ a ⟨_,_,_⟩ _ b d f h _
 simp only[go_sem,seval,Zd]at d
 obtain ⟨⟨_,g,_,_⟩,_,hn⟩:=d
 subst hn
 have k:=WF.slotL f g (j:=0) rfl
 have:=Z0 b
 have:=Z2 b
 have:=Zt (Z1 b) k
 simp only[*,go_sem,seval]
 refine Zb h fun _ l h=>Za (ZoN l) ?_
 obtain ⟨m,h⟩:=Zz h
 try simp only[Nat.reduceLeDiff]at m
 simp only[*,go_sem,seval]
 exact yR h [145]
 rintro a ⟨_,_,_⟩ e _ h
 simp only[go_sem,seval,Zd]at e
 obtain ⟨⟨_,_,_,_⟩,_,hn⟩:=e
 subst hn
 have:=ZW (l_0.length)
 cases h;exact yD
theorem ZiG {l_0:(List Zv)}{r:Bool}(h:ZcX l_0=some r):Zm prog J0 57 [(false,[.sl 98 3 (A0 Z4 l_0)])] [(false,[(false,.bool r)])]:=by
 refine fnk func57 rfl ?_
 unfold ZcX at h
 simp only[fnS,f57,Zq,go_sem,seval]
 refine Zn h (fun i a st=>IV [(0,yM (zA l_0)),(3,.p false [.row 0]),(7,yM (zA l_0)),(8,yL l_0.length),(9,yL i)] [.map (.int .i64) .bool (A0 eIB a)] st) [] [16] yF yD ?_ ?_
 rintro _ _ a ⟨_,_,_⟩ _ b e g h d
 simp only[go_sem,seval,Zd]at e
 obtain ⟨⟨k,_,_,_,_⟩,_,hn⟩:=e
 subst hn
 have l:=WF.slotL g k (j:=0) rfl
 have:=Z0 b
 have:=Z2 b
 have:=Zt (Z1 b) l
 simp only[*,go_sem,seval]
 refine yB h (fun _ h=>?_) fun _ h=>?_
 replace h:=Zw h d
 cases h;exact yD
 refine yB h (fun _ h=>?_) fun _ h=>?_
 replace h:=Zw h d
 cases h;exact yD
 refine yB h (fun _ h=>?_) fun _ h=>?_
 replace h:=Zw h d
 cases h;exact yD
 exact yR h [0]
 rintro a ⟨_,_,_⟩ f _ h
 simp only[go_sem,seval,Zd]at f
 obtain ⟨⟨_,_,_,_,_⟩,_,hn⟩:=f
 subst hn
 have:=ZW (l_0.length)
 simp only[*,go_sem,seval]
 refine Zb h fun _ m h=>Za (Zgf m)<|yA ?_
 refine Zb h fun _ o h=>Za (Zdg o) ?_
 cases h;exact yD
theorem ZbR {p_0:Zi}{b_1:(List Zo)}{facts_2:(List Zg)}{r:(List Zg)}(h:Xx p_0 b_1 facts_2=some r):Zm prog J0 119 [(true,Ql p_0),(false,[.sl 152 2 (A0 Yg b_1)]),(false,[.sl 36 2 (A0 Zr facts_2)])] [(false,[(false,.sl 36 2 (A0 Zr r))])]:=by
 refine fnk func119 rfl ?_
 unfold Xx at h
 simp only[fnS,f119,Zq,go_sem,seval]
 refine Zn h (fun i a st=>IV [(1,yM (yZ b_1)),(3,.bp 0 0),(7,.p false [.row 1]),(12,yM (yU facts_2)),(13,yL facts_2.length),(14,yL i)] [.box 87 [.c (.str p_0.rel),.c (yV p_0.args)],.row 36 2 (A0 Zr a) 2] st) [(false,7,0)] [0,96] yF yD ?_ ?_
 rintro _ _ a ⟨_,_,_⟩ _ b d f h _
 simp only[go_sem,seval,Zd]at d
 obtain ⟨⟨_,_,_,g,_,_⟩,_,_,hn⟩:=d
 subst hn
 have k:=WF.slotL f g (j:=0) rfl
 have:=Z0 b
 have:=Z2 b
 have:=Zt (Z1 b) k
 simp only[*,go_sem,seval]
 refine Zb h fun _ l h=>Za (Zcc l)<|yA ?_
 refine yB h (fun _ h=>?_) fun _ h=>?_
 refine Zb h fun _ m h=>Za (Ys m) ?_
 obtain ⟨o,h⟩:=Zz h
 try simp only[Nat.reduceLeDiff]at o
 simp only[*,go_sem,seval]
 exact yR h [0,306]
 exact yR h [0,1]
 rintro a ⟨_,_,_⟩ e _ h
 simp only[go_sem,seval,Zd]at e
 obtain ⟨⟨_,_,_,_,_,_⟩,_,_,hn⟩:=e
 subst hn
 have:=ZW (facts_2.length)
 cases h;exact yD
theorem ZrS {x_0:Zj}{r:Bool}(h:ZjC x_0=some r):Zm prog J0 207 [(true,ZR x_0)] [(false,[(false,.bool r)])]:=by
 refine fnk func207 rfl ?_
 unfold ZjC at h
 simp only[fnS,f207,Zq,go_sem,seval]
 refine Zb h fun _ a h=>Za (ZhQ a)<|yA ?_
 refine yB h (fun _ h=>?_) fun _ h=>?_
 iterate 2 (cases h;exact yD)
theorem Zin {append_0:ZC}{String_1:ZC}{r:Int}(h:Yp append_0 String_1=some r):Zm prog J0 114 [(true,Yu append_0),(true,Yu String_1)] [(false,[(false,.int .i64 r)])]:=by
 refine fnk func114 rfl ?_
 unfold Yp at h
 simp only[fnS,f114,Zq,go_sem,seval]
 refine yB h (fun _ h=>?_) fun _ h=>?_
 refine Zb h fun _ g h=>Za (Yd g) ?_
 cases h;exact yD
 refine Zb h fun d j h=>Za (Zjh j)<|yA ?_
 refine Zb h fun k l h=>Za (Zjh l)<|yA ?_
 refine Zn h (fun i _ st=>IV [(2,.bp 0 0),(3,.bp 1 0),(5,.p false [.row 2]),(6,.p false [.row 3]),(7,yL i)] [zK 64 (Yu append_0),zK 64 (Yu String_1),.row 3 1 (A0 Yc d) 2,.row 3 1 (A0 Yc k) 2] st) [] [0,16,160,208] yF yD ?_ ?_
 rintro _ _ ⟨⟩ ⟨_,_,_⟩ _ b e m h a
 simp only[go_sem,seval,Zd]at e
 obtain ⟨⟨_,_,_,_,_⟩,_,_,o,_,hn⟩:=e
 subst hn
 have q:=WF.rowL m o
 have:=Z0 b
 have:=Z2 b
 have:=Zt (Z1 b) q
 simp only[*,go_sem,seval]
 refine yB h (fun _ h=>?_) fun _ h=>?_
 obtain ⟨_,h⟩:=Zz h
 obtain ⟨_,_,h⟩:=Zy h
 simp only[*,go_sem,seval]
 refine yB h (fun _ h=>?_) fun _ h=>?_
 refine Zb h fun _ t h=>Za (Yd t) ?_
 replace h:=Zw h a
 cases h;exact yD
 exact yR h [0,1,2,3]
 refine yB h (fun _ h=>?_) fun _ h=>?_
 refine Zb h fun _ u h=>Za (Yd u) ?_
 replace h:=Zw h a
 cases h;exact yD
 refine yB h (fun _ h=>?_) fun _ h=>?_
 refine Zb h fun _ v h=>Za (Yd v) ?_
 replace h:=Zw h a
 cases h;exact yD
 refine yB h (fun _ h=>?_) fun _ h=>?_
 refine Zb h fun _ w h=>Za (Yd w) ?_
 replace h:=Zw h a
 cases h;exact yD
 refine Zb h fun _ x h=>Za (Zam x) ?_
 replace h:=Zw h a
 cases h;exact yD
 rintro ⟨⟩ ⟨_,_,_⟩ f _ h
 simp only[go_sem,seval,Zd]at f
 obtain ⟨⟨_,_,_,_,_⟩,_,_,_,_,hn⟩:=f
 subst hn
 have:=ZW (d.length)
 simp only[*,go_sem,seval]
 refine yB h (fun _ h=>?_) fun _ h=>?_
 refine Zb h fun _ y h=>Za (Yd y) ?_
 cases h;exact yD
 refine yB h (fun _ h=>?_) fun _ h=>?_
 refine Zb h fun _ z h=>Za (Yd z) ?_
 cases h;exact yD
 refine yB h (fun _ h=>?_) fun _ h=>?_
 refine Zb h fun _ A h=>Za (Yd A) ?_
 cases h;exact yD
 refine Zb h fun _ B h=>Za (Zam B) ?_
 cases h;exact yD
end
end Go.Proofs.YtaafhjecikjhbaaGreatDoor
