/- Texts of this proof, joined: Dp10, Dp12, Dp13, Tk, W0, Tw, Ed, Ea, Ts, Dp14, Dp9, Dp11, Dp15, SoN, SoM. What each holds is said at its theorems. -/
import Derived.Test.YtaafhjecikjhbaaGreatDoorFollowsQ6
import Derived.Test.YtaafhjecikjhbaaGreatDoorFollowsQ7
import Derived.Test.YtaafhjecikjhbaaGreatDoorFollowsQ2
import Derived.Test.YtaafhjecikjhbaaGreatDoorProg
import Derived.OwnWalk
import Derived.Outline
import Derived.WalkSpells
import Derived.StillTailTactics
import Derived.Deep.RegionHeld3
open Int renaming toNat_natCast→Ak
open List renaming map→A0,mem_append_right→A6,mem_append→A9,length_map→AA,length_take→AD,length_drop→AE,getElem?_eq_getElem→AF,mem_cons→AG,nodup_append→AH,append_assoc→AI,not_mem_nil→AJ,mem_append_left→AL,sublist_append_right→AP,take_add_one→AQ,getElem?_eq_some_iff→AR,mem_flatten→AS,append_nil→AT,take_of_length_le→AU,mem_cons_of_mem→AW,length_append→AX,sublist_append_left→AY,mem_of_getElem?→AZ,nodup_cons→Aa,map_cons→Ac,map_nil→Ad,flatten_cons→Ae,sublist_cons_self→Ah,drop_of_length_le→Aj
open List.Sublist renaming refl→Ag
open Nat renaming le_refl→A5,le_trans→AB,zero_le→AC,le_succ→AK,lt_or_ge→AN,lt_of_lt_of_le→AO
open Option renaming bind_some→Ai
open Option.some renaming inj→A4
open Go.Proofs.Tryz
set_option linter.unusedSimpArgs false
set_option linter.unusedVariables false
set_option maxRecDepth 1000000
set_option maxHeartbeats 4000000
open Go.Lib renaming hid→yS
namespace Go.Proofs.YtaafhjecikjhbaaGreatDoor
section
theorem Zlz {x_0:Zj}{r:Bool}(h:Zer x_0=some r):Zm prog J0 170 [(true,ZR x_0)] [(false,[(false,.bool r)])]:=by
 refine fnk func170 rfl ?_
 unfold Zer at h
 simp only[fnS,f170,Zq,go_sem,seval]
 refine Zb h fun _ a h=>Za (Zhm a)<|yA ?_
 refine yB h (fun _ h=>?_) fun _ h=>?_
 iterate 2 (cases h;exact yD)
theorem ZmK {s_0:ByteArray}{r:(Zj×Bool)}(h:QT s_0=some r):Zm prog J0 199 [(false,[.str s_0])] [(true,[(false,.int .i64 r.1.kind),(false,.str r.1.pattern.rel),(false,.sl 9 1 (A0 ZE r.1.pattern.args)),(false,.str r.1.left),(false,.str r.1.right)]),(false,[(false,.bool r.2)])]:=by
 refine fnk func199 rfl ?_
 unfold QT at h
 have f:Z7 ⟨#[110,111,116,32]⟩=true:=by decide
 simp only[fnS,f199,Zq,go_sem,seval,f]
 refine XB h (fun b st=>IV [(0,yM (.str s_0)),(2,.bp 0 0),(4,yM (.int .i64 b))] [.box 137 [.c (.int .i64 0),.c (.str ⟨#[]⟩),.nil 9 1,.c (.str ⟨#[]⟩),.c (.str ⟨#[]⟩)]] st) [] [0] yF yD ?_
 rintro b ⟨_,_,_⟩ _ d _ h a
 simp only[go_sem,seval,Zd]at d
 obtain ⟨⟨_,_,_⟩,_,hn⟩:=d
 subst hn
 simp only[*,go_sem,seval]
 refine yB h (fun _ h=>?_) fun _ h=>?_
 refine Zb h fun _ g h=>Za (Zsm g)<|yA ?_
 refine Zb h fun _ i h=>Za (Zaa i)<|yA ?_
 refine yB h (fun _ h=>?_) fun _ h=>?_
 obtain ⟨_,h⟩:=Zz h
 obtain ⟨_,j,h⟩:=Zy h
 try simp only[seval]at j
 obtain ⟨_,h⟩:=Zz h
 obtain ⟨_,k,h⟩:=Zy h
 try simp only[seval]at k
 simp only[*,go_sem,seval]
 refine Zb h fun _ l h=>Za (Zhm l)<|yA ?_
 refine yB h (fun _ h=>?_) fun _ h=>?_
 replace h:=Zw h a
 cases h;exact yD
 exact yR h [0]
 exact yR h [0]
 refine yB h (fun _ h=>?_) fun _ h=>?_
 obtain ⟨_,h⟩:=Zz h
 simp only[*,go_sem,seval]
 refine Zc h (fun e h=>?_) (fun e h=>?_)<;>(try simp only[seval]at e)<;>try simp only[*,go_sem,seval]
 refine Zb h fun _ m h=>Za (Qi m)<|yA ?_
 refine yB h (fun _ h=>?_) fun _ h=>?_
 iterate 2 (replace h:=Zw h a;cases h;simp only[*,go_sem,seval])
 refine Zb h fun _ o h=>Za (Qi o)<|yA ?_
 refine yB h (fun _ h=>?_) fun _ h=>?_
 iterate 2 (replace h:=Zw h a;cases h;simp only[*,go_sem,seval])
 refine Zb h fun _ q h=>Za (Qi q)<|yA ?_
 refine yB h (fun _ h=>?_) fun _ h=>?_
 iterate 2 (replace h:=Zw h a;cases h;simp only[*,go_sem,seval])
theorem ZoD {s_0:ByteArray}{r:(ZB×Bool)}(h:Q9 s_0=some r):Zm prog J0 200 [(false,[.str s_0])] [(true,[(false,.int .i64 r.1.kind),(false,.str r.1.pattern.rel),(false,.sl 9 1 (A0 ZE r.1.pattern.args))]),(false,[(false,.bool r.2)])]:=by
 refine fnk func200 rfl ?_
 unfold Q9 at h
 have a:Z7 ⟨#[100,114,111,112]⟩=true:=by decide
 have b:Z7 ⟨#[115,116,111,112]⟩=true:=by decide
 have c:Z7 ⟨#[32]⟩=true:=by decide
 have d:Z7 ⟨#[97,100,100]⟩=true:=by decide
 simp only[fnS,f200,Zq,go_sem,seval,a,b,c,d]
 refine yB h (fun _ h=>?_) fun _ h=>?_
 cases h;exact yD
 refine Zb h fun _ e h=>Za (Zaa e)<|yA ?_
 refine yB h (fun _ h=>?_) fun _ h=>?_
 cases h;exact yD
 obtain ⟨_,h⟩:=Zz h
 obtain ⟨_,f,h⟩:=Zy h
 try simp only[seval]at f
 simp only[*,go_sem,seval]
 refine yB h (fun _ h=>?_) fun _ h=>?_
 obtain ⟨_,h⟩:=Zz h
 obtain ⟨_,g,h⟩:=Zy h
 try simp only[seval]at g
 simp only[*,go_sem,seval]
 refine Zb h fun _ i h=>Za (Qi i) ?_
 cases h;exact yD
 refine yB h (fun _ h=>?_) fun _ h=>?_
 obtain ⟨_,h⟩:=Zz h
 obtain ⟨_,j,h⟩:=Zy h
 try simp only[seval]at j
 simp only[*,go_sem,seval]
 refine Zb h fun _ k h=>Za (Qi k) ?_
 iterate 2 (cases h;exact yD)
theorem Zsl {c_0:Zp}{r:(Zj×Zp)}(h:ZhN c_0=some r):XQ prog J0 JF0 132 (.box 103 (YO c_0)) [] [(true,[(false,.int .i64 r.1.kind),(false,.str r.1.pattern.rel),(false,.sl 9 1 (A0 ZE r.1.pattern.args)),(false,.str r.1.left),(false,.str r.1.right)])] (.box 103 (YO r.2)):=by
 refine fnh func132 rfl ?_
 unfold ZhN at h
 simp only[fnH,f132,Qu,Qp,YT,go_sem,seval]
 obtain ⟨_,a,h⟩:=Zy h
 refine Yl (Xm a)<|yA ?_
 refine yB h (fun _ h=>?_) fun _ h=>?_
 obtain ⟨_,b,h⟩:=Zy h
 refine Yl (ZdH b) ?_
 cases h;exact yD
 refine yB h (fun _ h=>?_) fun _ h=>?_
 obtain ⟨_,c,h⟩:=Zy h
 refine Yl (ZdH c) ?_
 cases h;exact yD
 refine yB h (fun _ h=>?_) fun _ h=>?_
 obtain ⟨_,d,h⟩:=Zy h
 refine Yl (ZdH d) ?_
 cases h;exact yD
 obtain ⟨_,e,h⟩:=Zy h
 refine Yl (Zg9 e)<|yA ?_
 obtain ⟨_,f,h⟩:=Zy h
 refine Yl (Zg9 f)<|yA ?_
 obtain ⟨_,g,h⟩:=Zy h
 refine Yl (Zty g) ?_
 cases h;exact yD
theorem Zs6 {append_0:Zh}{r:Bool}(h:ZhF append_0=some r):Zm prog J0 52 [(true,Zx append_0)] [(false,[(false,.bool r)])]:=by
 refine fnk func52 rfl ?_
 unfold ZhF at h
 simp only[fnS,f52,Zq,go_sem,seval]
 refine Zb h fun _ v h=>Za (Xr v)<|yA ?_
 iterate 2 refine yB h (fun _ h=>?_) fun _ h=>?_
 iterate 5 (cases h;simp only[*,go_sem,seval];refine Zc h (fun _ h=>?_) fun _ h=>?_<;>try simp only[*,go_sem,seval])
 cases h;exact yD
 refine Zn h (fun i _ st=>IV [(1,.bp 0 0),(49,yM (yY append_0.cond)),(50,yL append_0.cond.length),(51,yL i)] [zK 86 (Zx append_0)] st) [] [0] yF yD ?_ ?_
 rintro _ _ ⟨⟩ ⟨_,_,_⟩ _ a g w h b
 simp only[go_sem,seval,Zd]at g
 obtain ⟨⟨_,x,_,_⟩,_,hn⟩:=g
 subst hn
 have y:=WF.slotL w x (j:=0) rfl
 have:=Z0 a
 have:=Z2 a
 have:=Zt (Z1 a) y
 simp only[*,go_sem,seval]
 refine Zb h fun _ z h=>Za (ZhQ z)<|yA ?_
 iterate 3 refine yB h (fun _ h=>?_) fun _ h=>?_
 replace h:=Zw h b
 cases h;exact yD
 refine Zb h fun _ A h=>Za (Ziu A)<|yA ?_
 refine yB h (fun _ h=>?_) fun _ h=>?_
 exact yR h [0]
 replace h:=Zw h b
 cases h;exact yD
 refine Zb h fun _ B h=>Za (Ziu B)<|yA ?_
 refine yB h (fun _ h=>?_) fun _ h=>?_
 refine ⟨_,[],[0],(A4 h).symm,yF,?_⟩
 iterate 2 (simp only[*,go_sem,seval];replace h:=Zw h b;cases h)
 simp only[*,go_sem,seval]
 rintro ⟨⟩ ⟨_,_,_⟩ k _ h
 simp only[go_sem,seval,Zd]at k
 obtain ⟨⟨_,_,_,_⟩,_,hn⟩:=k
 subst hn
 have:=ZW (append_0.cond.length)
 simp only[*,go_sem,seval]
 refine Zb h fun l C h=>Za (Zhu C)<|yA ?_
 refine Zn h (fun i _ st=>IV [(1,.bp 0 0),(5,.p false [.row 1]),(81,yM (zB append_0.thn)),(82,yL append_0.thn.length),(83,yL i)] [zK 86 (Zx append_0),.row 9 1 (A0 ZE l) 2] st) [] [0,81] yF yD ?_ ?_
 rintro D _ ⟨⟩ ⟨_,_,_⟩ _ d m E h o
 simp only[go_sem,seval,Zd]at m
 obtain ⟨⟨_,_,F,_,_⟩,_,_,hn⟩:=m
 subst hn
 have G:=WF.slotL E F (j:=0) rfl
 have:=Z0 d
 have:=Z2 d
 have:=Zt (Z1 d) G
 simp only[*,go_sem,seval]
 refine Zb h fun _ H h=>Za (ZoA H)<|yA ?_
 refine yB h (fun _ h=>?_) fun _ h=>?_
 refine Zb h fun e I h=>Za (Zez I)<|yA ?_
 refine Zn h (fun i _ st=>IV [(1,.bp 0 0),(5,.p false [.row 1]),(81,yM (zB append_0.thn)),(82,yL append_0.thn.length),(83,yL D),(93,.p false [.row 2]),(94,yL e.length),(95,yL i)] [zK 86 (Zx append_0),.row 9 1 (A0 ZE l) 2,.row 9 1 (A0 ZE e) 2] st) [] [0,1,178] yF yD ?_ ?_
 rintro _ _ ⟨⟩ ⟨_,_,_⟩ _ f q J h K
 simp only[go_sem,seval,Zd]at q
 obtain ⟨⟨_,_,_,_,_,_,_,_⟩,_,_,L,hn⟩:=q
 subst hn
 have M:=WF.rowL J L
 have:=Z0 f
 have:=Z2 f
 have:=Zt (Z1 f) M
 simp only[*,go_sem,seval]
 refine Zb h fun _ N h=>Za (Zd1 N)<|yA ?_
 refine yB h (fun _ h=>?_) fun _ h=>?_
 exact yR h [0,1,2]
 replace h:=Zw h K
 replace h:=Zw h o
 cases h;exact yD
 rintro ⟨⟩ ⟨_,_,_⟩ t _ h
 simp only[go_sem,seval,Zd]at t
 obtain ⟨⟨_,_,_,_,_,_,_,_⟩,_,_,_,hn⟩:=t
 subst hn
 have:=ZW (e.length)
 simp only[*,go_sem,seval]
 exact yR h [0,1]
 replace h:=Zw h o
 cases h;exact yD
 rintro ⟨⟩ ⟨_,_,_⟩ u _ h
 simp only[go_sem,seval,Zd]at u
 obtain ⟨⟨_,_,_,_,_⟩,_,_,hn⟩:=u
 subst hn
 have:=ZW (append_0.thn.length)
 simp only[*,go_sem,seval]
 refine Zb h fun _ O h=>Za (ZlH O)<|yA ?_
 refine Zb h fun _ P h=>Za (Zda P) ?_
 iterate 2 (cases h;exact yD)
theorem ZdT {append_0:Zu}{r:Zu}(h:Q8 append_0=some r):Zm prog J0 25 [(true,Zff append_0)] [(true,[(false,.sl 86 4 (A0 Zx r.rules)),(false,.sl 98 3 (A0 Z4 r.memory)),(false,.int .i64 r.clock),(false,.sl 81 2 (A0 Z9 r.fired)),(false,.bool r.halted),(false,.sl 38 4 (A0 Yx r.log))])]:=by
 refine fnk func25 rfl ?_
 unfold Q8 at h
 simp only[fnS,f25,Zq,go_sem,seval]
 refine Zb h fun d v h=>Za (Zck v)<|yA ?_
 refine Zn h (fun i a st=>IV [(1,.bp 0 0),(2,.bp 1 0),(3,.bp 2 0),(19,yM (zA append_0.memory)),(20,yL append_0.memory.length),(21,yL i)] [.box 31 [.c (yW append_0.rules),.c (zA append_0.memory),.c (.int .i64 append_0.clock),.c (zE append_0.fired),.c (.bool append_0.halted),.c (zF append_0.log)],.box 31 [.nil 86 4,.nil 98 3,.c (.int .i64 0),.nil 81 2,.c (.bool false),.nil 38 4],.box 31 [.row 3,.row 4,.c (.int .i64 append_0.clock),.nil 81 2,.c (.bool append_0.halted),.nil 38 4],.row 86 4 (A0 Zx d) 2,.row 98 3 (A0 Z4 a) 2] st) [(true,160,1)] [0,16,160,64,256] yF yD ?_ ?_
 rintro _ _ a ⟨_,_,_⟩ _ e l w h _
 simp only[go_sem,seval,Zd]at l
 obtain ⟨⟨_,_,_,x,_,_⟩,_,_,_,_,_,hn⟩:=l
 subst hn
 have y:=WF.slotL w x (j:=0) rfl
 have:=Z0 e
 have:=Z2 e
 have:=Zt (Z1 e) y
 simp only[*,go_sem,seval]
 refine Zb h fun _ z h=>Za (Ys z) ?_
 obtain ⟨A,h⟩:=Zz h
 try simp only[Nat.reduceLeDiff]at A
 simp only[*,go_sem,seval]
 exact yR h [0,1,2,3,229]
 rintro a ⟨_,_,_⟩ m _ h
 simp only[go_sem,seval,Zd]at m
 obtain ⟨⟨_,_,_,_,_,_⟩,_,_,_,_,_,hn⟩:=m
 subst hn
 have:=ZW (append_0.memory.length)
 simp only[*,go_sem,seval]
 refine Zn h (fun i b st=>IV [(1,.bp 0 0),(2,.bp 1 0),(3,.bp 2 0),(38,yM (zE append_0.fired)),(39,yL append_0.fired.length),(40,yL i)] [.box 31 [.c (yW append_0.rules),.c (zA append_0.memory),.c (.int .i64 append_0.clock),.c (zE append_0.fired),.c (.bool append_0.halted),.c (zF append_0.log)],.box 31 [.nil 86 4,.nil 98 3,.c (.int .i64 0),.nil 81 2,.c (.bool false),.nil 38 4],.box 31 [.row 3,.row 4,.c (.int .i64 append_0.clock),.row 5,.c (.bool append_0.halted),.nil 38 4],.row 86 4 (A0 Zx d) 2,.row 98 3 (A0 Z4 a) 2,.row 81 2 (A0 Z9 b) 2] st) [(true,2,3)] [0,1,2,3,4,85] yF yD ?_ ?_
 rintro _ _ b ⟨_,_,_⟩ _ f o B h _
 simp only[go_sem,seval,Zd]at o
 obtain ⟨⟨_,_,_,C,_,_⟩,_,_,_,_,_,_,hn⟩:=o
 subst hn
 have D:=WF.slotL B C (j:=0) rfl
 have:=Z0 f
 have:=Z2 f
 have:=Zt (Z1 f) D
 simp only[*,go_sem,seval]
 refine Zb h fun _ E h=>Za (Zbw E) ?_
 obtain ⟨F,h⟩:=Zz h
 try simp only[Nat.reduceLeDiff]at F
 simp only[*,go_sem,seval]
 exact yR h [0,1,2,3,4,230]
 rintro b ⟨_,_,_⟩ q _ h
 simp only[go_sem,seval,Zd]at q
 obtain ⟨⟨_,_,_,_,_,_⟩,_,_,_,_,_,_,hn⟩:=q
 subst hn
 have:=ZW (append_0.fired.length)
 simp only[*,go_sem,seval]
 refine Zn h (fun i g st=>IV [(2,.bp 0 0),(3,.bp 1 0),(57,yM (zF append_0.log)),(58,yL append_0.log.length),(59,yL i)] [.box 31 [.nil 86 4,.nil 98 3,.c (.int .i64 0),.nil 81 2,.c (.bool false),.nil 38 4],.box 31 [.row 2,.row 3,.c (.int .i64 append_0.clock),.row 4,.c (.bool append_0.halted),.row 5],.row 86 4 (A0 Zx d) 2,.row 98 3 (A0 Z4 a) 2,.row 81 2 (A0 Z9 b) 2,.row 38 4 (A0 Yx g) 2] st) [(true,2,5)] [1,2,3,4,5,86] yF yD ?_ ?_
 rintro _ _ g ⟨_,_,_⟩ _ k t G h _
 simp only[go_sem,seval,Zd]at t
 obtain ⟨⟨_,_,H,_,_⟩,_,_,_,_,_,_,hn⟩:=t
 subst hn
 have I:=WF.slotL G H (j:=0) rfl
 have:=Z0 k
 have:=Z2 k
 have:=Zt (Z1 k) I
 simp only[*,go_sem,seval]
 refine Zb h fun _ J h=>Za (Zny J) ?_
 obtain ⟨K,h⟩:=Zz h
 try simp only[Nat.reduceLeDiff]at K
 simp only[*,go_sem,seval]
 exact yR h [0,1,2,3,4,166]
 rintro g ⟨_,_,_⟩ u _ h
 simp only[go_sem,seval,Zd]at u
 obtain ⟨⟨_,_,_,_,_⟩,_,_,_,_,_,_,hn⟩:=u
 subst hn
 have:=ZW (append_0.log.length)
 cases h;exact yD
theorem Zn9 {append_0:Zj}{String_1:(List Zo)}{r:Bool}(h:Zdo append_0 String_1=some r):Zm prog J0 194 [(true,ZR append_0),(false,[.sl 152 2 (A0 Yg String_1)])] [(false,[(false,.bool r)])]:=by
 refine fnk func194 rfl ?_
 unfold Zdo at h
 simp only[fnS,f194,Zq,go_sem,seval]
 refine Zb h fun _ a h=>Za (ZrS a)<|yA ?_
 refine yB h (fun _ h=>?_) fun _ h=>?_
 refine Zb h fun _ b h=>Za (Zax b)<|yA ?_
 refine yB h (fun _ h=>?_) fun _ h=>?_
 refine Zb h fun _ c h=>Za (Zch c)<|yA ?_
 refine Zb h fun _ d h=>Za (Zch d)<|yA ?_
 iterate 3 refine yB h (fun _ h=>?_) fun _ h=>?_
 cases h;exact yD
 refine yB h (fun _ h=>?_) fun _ h=>?_
 cases h;exact yD
 refine Zb h fun _ e h=>Za (Zdk e)<|yA ?_
 refine Zb h fun _ f h=>Za (Zdk f)<|yA ?_
 iterate 2 refine yB h (fun _ h=>?_) fun _ h=>?_
 iterate 7 (cases h;exact yD)
theorem ZiY {i_0:Int}{j_1:Int}{cap_2:(List ZC)}{r:Bool}(h:ZbC i_0 j_1 cap_2=some r):Zm prog J0 113 [(false,[.int .i64 i_0]),(false,[.int .i64 j_1]),(false,[.pt [.sl 64 7 (A0 Yu cap_2)]])] [(false,[(false,.bool r)])]:=by
 refine fnk func113 rfl ?_
 unfold ZbC at h
 simp only[fnS,f113,Zq,go_sem,seval]
 obtain ⟨_,_,_,_,h⟩:=ZaE h
 obtain ⟨_,_,_,_,h⟩:=ZaE h
 simp only[*,go_sem,seval]
 refine Zb h fun _ a h=>Za (Zin a) ?_
 cases h;exact yD
theorem Zns {b:(List Zh)}{r:Ze}(h:Zdp b=some r):Zm prog J0 72 [(false,[.sl 86 4 (A0 Zx b)])] [(true,[(false,.sl 86 4 (A0 Zx r.rules)),(false,.sl 3 1 (A0 Yc r.ends)),(false,.sl 134 3 (A0 Yf r.alphas)),(false,.sl 140 8 (A0 YL r.nodes)),(false,.sl 36 2 (A0 Zr r.facts)),(false,.int .i64 r.tries)])]:=by
 refine fnk func72 rfl ?_
 unfold Zdp at h
 simp only[fnS,f72,Zq,go_sem,seval]
 refine Zb h fun _ E h=>Za (Zck E)<|yA ?_
 refine Zn h (fun i s st=>match s with|(d,e,f,g,k,l)=>IV [(2,.bp 0 0),(3,.bp 1 0),(14,yM (yW b)),(15,yL b.length),(16,yL i)] [.box 46 [.nil 86 4,.nil 3 1,.nil 134 3,.nil 140 8,.nil 36 2,.c (.int .i64 0)],.box 46 [.row 2,.row 3,.row 4,.row 5,.row 6,.c (.int .i64 d)],.row 86 4 (A0 Zx e) 2,.row 3 1 (A0 Yc f) 2,.row 134 3 (A0 Yf g) 2,.row 140 8 (A0 YL k) 2,.row 36 2 (A0 Zr l) 2] st) [(true,96,1),(true,96,2),(true,96,4)] [0,96,32,176,177,64,178] yF yD ?_ ?_
 rintro F _ ⟨d,e,f,g,k,l⟩ ⟨_,_,_⟩ _ m A G h _
 simp only[go_sem,seval,Zd]at A
 obtain ⟨⟨_,_,H,_,_⟩,_,_,_,_,_,_,_,hn⟩:=A
 subst hn
 have I:=WF.slotL G H (j:=0) rfl
 have:=Z0 m
 have:=Z2 m
 have:=Zt (Z1 m) I
 simp only[*,go_sem,seval]
 refine Zb h fun o J h=>Za (ZlO J)<|yA ?_
 refine Zn h (fun i s st=>match s with|(q,t,u,v,w,x,y)=>IV [(2,.bp 0 0),(3,.bp 1 0),(6,yM (.int .i64 y)),(14,yM (yW b)),(15,yL b.length),(16,yL F),(21,.p false [.row 7]),(22,yL o.length),(23,yL i)] [.box 46 [.nil 86 4,.nil 3 1,.nil 134 3,.nil 140 8,.nil 36 2,.c (.int .i64 0)],.box 46 [.row 2,.row 3,.row 4,.row 5,.row 6,.c (.int .i64 q)],.row 86 4 (A0 Zx t) 2,.row 3 1 (A0 Yc u) 2,.row 134 3 (A0 Yf v) 2,.row 140 8 (A0 YL w) 2,.row 36 2 (A0 Zr x) 2,.row 137 5 (A0 ZR o) 2] st) [] [0,1,2,3,4,5,6,119] yF yD ?_ ?_
 rintro _ _ ⟨q,t,u,v,w,x,y⟩ ⟨_,_,_⟩ _ z B K h _
 simp only[go_sem,seval,Zd]at B
 obtain ⟨⟨_,_,_,_,_,_,_,_,_⟩,_,_,_,_,_,_,_,L,hn⟩:=B
 subst hn
 have M:=WF.rowL K L
 have:=Z0 z
 have:=Z2 z
 have:=Zt (Z1 z) M
 simp only[*,go_sem,seval]
 obtain ⟨_,N,h⟩:=Zy h
 refine ZeU (ZiP N)<|yA ?_
 exact yR h [0,1,120,121,122,123,124,7]
 rintro ⟨q,t,u,v,w,x,y⟩ ⟨_,_,_⟩ C _ h
 simp only[go_sem,seval,Zd]at C
 obtain ⟨⟨_,_,_,_,_,_,_,_,_⟩,_,_,_,_,_,_,_,_,hn⟩:=C
 subst hn
 have:=ZW (o.length)
 obtain ⟨O,h⟩:=Zz h
 try simp only[Nat.reduceLeDiff]at O
 simp only[*,go_sem,seval]
 exact yR h [0,1,2,88,4,5,6]
 rintro ⟨d,e,f,g,k,l⟩ ⟨_,_,_⟩ D _ h
 simp only[go_sem,seval,Zd]at D
 obtain ⟨⟨_,_,_,_,_⟩,_,_,_,_,_,_,_,hn⟩:=D
 subst hn
 have:=ZW (b.length)
 cases h;exact yD
end
section
theorem ZhX {append_0:Zh}{r:Bool}(h:Zae append_0=some r):Zm prog J0 136 [(true,Zx append_0)] [(false,[(false,.bool r)])]:=by
 refine fnk func136 rfl ?_
 unfold Zae at h
 simp only[fnS,f136,Zq,go_sem,seval]
 refine Zb h fun _ H h=>Za (ZlC H)<|yA ?_
 refine yB h (fun _ h=>?_) fun _ h=>?_
 refine Zb h fun _ I h=>Za (ZbV I)<|yA ?_
 refine yB h (fun _ h=>?_) fun _ h=>?_
 refine Zb h fun _ J h=>Za (ZbV J)<|yA ?_
 refine yB h (fun _ h=>?_) fun _ h=>?_
 refine Zb h fun _ K h=>Za (ZbV K)<|yA ?_
 refine yB h (fun _ h=>?_) fun _ h=>?_
 refine Zb h fun e L h=>Za (ZcH L)<|yA ?_
 refine Zn h (fun i _ st=>IV [(1,.bp 0 0),(3,.p false [.row 1]),(4,yL i)] [zK 86 (Zx append_0),.row 9 1 (A0 ZE e) 2] st) [] [0,480] yF yD ?_ ?_
 rintro b a ⟨⟩ ⟨_,_,_⟩ _ f o M h d
 simp only[go_sem,seval,Zd]at o
 obtain ⟨⟨_,_,_⟩,N,_,hn⟩:=o
 subst hn
 have O:=WF.boxL M N (j:=2) rfl
 have:=Z0 f
 have:=Z2 f
 have:=Zt (Z1 f) O
 simp only[*,go_sem,seval]
 refine Zb h fun _ P h=>Za (Zhm P)<|yA ?_
 iterate 3 refine yB h (fun _ h=>?_) fun _ h=>?_
 replace h:=Zw h d
 cases h;exact yD
 refine Zb h fun Q R h=>Za (ZcH R)<|yA ?_
 refine Zb h fun q S h=>Za (Zdn S)<|yA ?_
 refine Zn h (fun i _ st=>IV [(1,.bp 0 0),(3,.p false [.row 1]),(4,yL b),(5,.bp 2 0),(6,.p false [.row 3]),(7,.p false [.row 4]),(8,yL i),(58,yL b),(59,yM (.bool (((b:Nat):Int)==0))),(60,yM (.bool (((b:Nat):Int)==0))),(61,.bp 2 0),(62,yM (.int .i64 a.kind)),(63,yM (.bool (a.kind != 1))),(64,yM (.bool (a.kind != 1)))] [zK 86 (Zx append_0),.row 9 1 (A0 ZE e) 2,zK 137 (ZR a),.row 9 1 (A0 ZE Q) 2,.row 9 1 (A0 ZE q) 2] st) [] [0,1,162,418,466] yF yD ?_ ?_
 rintro _ _ ⟨⟩ ⟨_,_,_⟩ _ g t T h u
 simp only[go_sem,seval,Zd]at t
 obtain ⟨⟨_,_,_,_,_,_,_,_,_,_,_,_,_,_⟩,_,_,_,_,U,hn⟩:=t
 subst hn
 have V:=WF.rowL T U
 have:=Z0 g
 have:=Z2 g
 have:=Zt (Z1 g) V
 simp only[*,go_sem,seval]
 refine Zb h fun _ W h=>Za (QH W)<|yA ?_
 refine Zb h fun _ X h=>Za (Zlz X)<|yA ?_
 iterate 3 refine yB h (fun _ h=>?_) fun _ h=>?_
 exact yR h [0,1,2,3,4]
 exact yR h [0,1,2,3,4]
 replace h:=Zw h u
 replace h:=Zw h d
 cases h;exact yD
 iterate 2 refine yB h (fun _ h=>?_) fun _ h=>?_
 exact yR h [0,1,2,3,4]
 refine Zb h fun _ Y h=>Za (ZfX Y)<|yA ?_
 refine yB h (fun _ h=>?_) fun _ h=>?_
 replace h:=Zw h u
 replace h:=Zw h d
 cases h;exact yD
 exact yR h [0,1,2,3,4]
 exact yR h [0,1,2,3,4]
 rintro ⟨⟩ ⟨_,_,_⟩ v _ h
 simp only[go_sem,seval,Zd]at v
 obtain ⟨⟨_,_,_,_,_,_,_,_,_,_,_,_,_,_⟩,_,_,_,_,_,hn⟩:=v
 subst hn
 have:=ZW (q.length)
 simp only[*,go_sem,seval]
 exact yR h [0,1]
 refine Zb h fun Z aa h=>Za (ZcH aa)<|yA ?_
 refine Zb h fun w ab h=>Za (Zdn ab)<|yA ?_
 refine Zn h (fun i _ st=>IV [(1,.bp 0 0),(3,.p false [.row 1]),(4,yL b),(5,.bp 2 0),(6,.p false [.row 3]),(7,.p false [.row 4]),(8,yL i),(58,yL b),(59,yM (.bool (((b:Nat):Int)==0))),(60,yM (.bool (((b:Nat):Int)==0))),(64,yM (.bool false))] [zK 86 (Zx append_0),.row 9 1 (A0 ZE e) 2,zK 137 (ZR a),.row 9 1 (A0 ZE Z) 2,.row 9 1 (A0 ZE w) 2] st) [] [0,1,162,418,466] yF yD ?_ ?_
 rintro _ _ ⟨⟩ ⟨_,_,_⟩ _ k x ac h y
 simp only[go_sem,seval,Zd]at x
 obtain ⟨⟨_,_,_,_,_,_,_,_,_,_,_⟩,_,_,_,_,ad,hn⟩:=x
 subst hn
 have ae:=WF.rowL ac ad
 have:=Z0 k
 have:=Z2 k
 have:=Zt (Z1 k) ae
 simp only[*,go_sem,seval]
 refine Zb h fun _ af h=>Za (QH af)<|yA ?_
 refine Zb h fun _ ag h=>Za (Zlz ag)<|yA ?_
 iterate 3 refine yB h (fun _ h=>?_) fun _ h=>?_
 exact yR h [0,1,2,3,4]
 exact yR h [0,1,2,3,4]
 replace h:=Zw h y
 replace h:=Zw h d
 cases h;exact yD
 iterate 2 refine yB h (fun _ h=>?_) fun _ h=>?_
 exact yR h [0,1,2,3,4]
 refine Zb h fun _ ah h=>Za (ZfX ah)<|yA ?_
 refine yB h (fun _ h=>?_) fun _ h=>?_
 replace h:=Zw h y
 replace h:=Zw h d
 cases h;exact yD
 exact yR h [0,1,2,3,4]
 exact yR h [0,1,2,3,4]
 rintro ⟨⟩ ⟨_,_,_⟩ z _ h
 simp only[go_sem,seval,Zd]at z
 obtain ⟨⟨_,_,_,_,_,_,_,_,_,_,_⟩,_,_,_,_,_,hn⟩:=z
 subst hn
 have:=ZW (w.length)
 simp only[*,go_sem,seval]
 exact yR h [0,1]
 replace h:=Zw h d
 cases h;exact yD
 rintro ⟨⟩ ⟨_,_,_⟩ A _ h
 simp only[go_sem,seval,Zd]at A
 obtain ⟨⟨_,_,_⟩,_,_,hn⟩:=A
 subst hn
 have:=ZW (append_0.cond.length)
 simp only[*,go_sem,seval]
 refine Zn h (fun i _ st=>IV [(1,.bp 0 0),(3,.p false [.row 1]),(10,yL i)] [zK 86 (Zx append_0),.row 9 1 (A0 ZE e) 2] st) [] [0,1] yF yD ?_ ?_
 rintro ai _ ⟨⟩ ⟨_,_,_⟩ _ l B aj h C
 simp only[go_sem,seval,Zd]at B
 obtain ⟨⟨_,_,_⟩,ak,_,hn⟩:=B
 subst hn
 have al:=WF.boxL aj ak (j:=3) rfl
 have:=Z0 l
 have:=Z2 l
 have:=Zt (Z1 l) al
 simp only[*,go_sem,seval]
 refine Zb h fun _ am h=>Za (Zov am)<|yA ?_
 refine yB h (fun _ h=>?_) fun _ h=>?_
 refine Zb h fun D an h=>Za (Zdv an)<|yA ?_
 refine Zn h (fun i _ st=>IV [(1,.bp 0 0),(3,.p false [.row 1]),(10,yL ai),(11,.p false [.row 2]),(12,yL i)] [zK 86 (Zx append_0),.row 9 1 (A0 ZE e) 2,.row 9 1 (A0 ZE D) 2] st) [] [0,1,290] yF yD ?_ ?_
 rintro _ _ ⟨⟩ ⟨_,_,_⟩ _ m E ao h ap
 simp only[go_sem,seval,Zd]at E
 obtain ⟨⟨_,_,_,_,_⟩,_,_,aq,hn⟩:=E
 subst hn
 have ar:=WF.rowL ao aq
 have:=Z0 m
 have:=Z2 m
 have:=Zt (Z1 m) ar
 simp only[*,go_sem,seval]
 refine Zb h fun _ au h=>Za (QH au)<|yA ?_
 refine yB h (fun _ h=>?_) fun _ h=>?_
 exact yR h [0,1,2]
 replace h:=Zw h ap
 replace h:=Zw h C
 cases h;exact yD
 rintro ⟨⟩ ⟨_,_,_⟩ F _ h
 simp only[go_sem,seval,Zd]at F
 obtain ⟨⟨_,_,_,_,_⟩,_,_,_,hn⟩:=F
 subst hn
 have:=ZW (D.length)
 simp only[*,go_sem,seval]
 exact yR h [0,1]
 replace h:=Zw h C
 cases h;exact yD
 rintro ⟨⟩ ⟨_,_,_⟩ G _ h
 simp only[go_sem,seval,Zd]at G
 obtain ⟨⟨_,_,_⟩,_,_,hn⟩:=G
 subst hn
 have:=ZW (append_0.thn.length)
 simp only[*,go_sem,seval]
 refine Zb h fun _ av h=>Za (Zow av) ?_
 iterate 5 (cases h;exact yD)
theorem Zbr {l_0:(List Zh)}{r:Bool}(h:Q6 l_0=some r):Zm prog J0 23 [(false,[.sl 86 4 (A0 Zx l_0)])] [(false,[(false,.bool r)])]:=by
 refine fnk func23 rfl ?_
 unfold Q6 at h
 simp only[fnS,f23,Zq,go_sem,seval]
 refine yB h (fun _ h=>?_) fun _ h=>?_
 cases h;exact yD
 refine Zn h (fun i _ st=>IV [(0,yM (yW l_0)),(8,yM (yW l_0)),(9,yL l_0.length),(10,yL i)] [] st) [] [] yF yD ?_ ?_
 rintro _ _ ⟨⟩ ⟨_,_,_⟩ _ a b f h d
 simp only[go_sem,seval,Zd]at b
 obtain ⟨⟨g,_,_,_⟩,hn⟩:=b
 subst hn
 have k:=WF.slotL f g (j:=0) rfl
 have:=Z0 a
 have:=Z2 a
 have:=Zt (Z1 a) k
 simp only[*,go_sem,seval]
 refine Zb h fun _ l h=>Za (Zs6 l)<|yA ?_
 refine yB h (fun _ h=>?_) fun _ h=>?_
 refine Zb h fun _ m h=>Za (Zfu m)<|yA ?_
 refine yB h (fun _ h=>?_) fun _ h=>?_
 replace h:=Zw h d
 cases h;exact yD
 exact yR h []
 replace h:=Zw h d
 cases h;exact yD
 rintro ⟨⟩ ⟨_,_,_⟩ e _ h
 simp only[go_sem,seval,Zd]at e
 obtain ⟨⟨_,_,_,_⟩,hn⟩:=e
 subst hn
 have:=ZW (l_0.length)
 cases h;exact yD
theorem Znj {x_0:Zj}{b_1:(List Zo)}{facts_2:(List Zg)}{r:Bool}(h:Zdz x_0 b_1 facts_2=some r):Zm prog J0 155 [(true,ZR x_0),(false,[.sl 152 2 (A0 Yg b_1)]),(false,[.sl 36 2 (A0 Zr facts_2)])] [(false,[(false,.bool r)])]:=by
 refine fnk func155 rfl ?_
 unfold Zdz at h
 simp only[fnS,f155,Zq,go_sem,seval]
 refine Zb h fun _ a h=>Za (ZhQ a)<|yA ?_
 refine yB h (fun _ h=>?_) fun _ h=>?_
 refine Zb h fun _ b h=>Za (Zax b)<|yA ?_
 iterate 2 refine yB h (fun _ h=>?_) fun _ h=>?_
 refine Zb h fun _ c h=>Za (ZbR c) ?_
 cases h;exact yD
 refine yB h (fun _ h=>?_) fun _ h=>?_
 refine Zb h fun _ d h=>Za (ZbR d) ?_
 cases h;exact yD
 refine Zb h fun _ e h=>Za (Zn9 e) ?_
 iterate 3 (cases h;exact yD)
end
section
theorem Zrk {append_0:Zh}{String_1:ByteArray}{a_2:ByteArray}{r:(Zh×Bool)}(h:ZcN append_0 String_1 a_2=some r):Zm prog J0 176 [(true,[.str append_0.name,.int .i64 append_0.priority,.nl 137 5,.nl 89 3]),(false,[.str String_1]),(false,[.str a_2])] [(true,[(false,.str r.1.name),(false,.int .i64 r.1.priority),(false,.sl 137 5 (A0 ZR r.1.cond)),(false,.sl 89 3 (A0 Z3 r.1.thn))]),(false,[(false,.bool r.2)])]:=by
 refine fnk func176 rfl ?_
 unfold ZcN at h
 have o:Z7 ⟨#[32,38,32]⟩=true:=by decide
 simp only[fnS,f176,Zq,go_sem,seval,o]
 refine Zb h fun f q h=>Za (Zaa q)<|yA ?_
 refine Zn h (fun i a st=>IV [(2,yM (.str a_2)),(3,.bp 0 0),(6,.bp 2 0),(8,.p false [.row 3]),(9,yL i)] [.box 86 [.c (.str append_0.name),.c (.int .i64 append_0.priority),.row 1,.nil 89 3],.row 137 5 (A0 ZR a) 2,.box 86 [.c (.str ⟨#[]⟩),.c (.int .i64 0),.nil 137 5,.nil 89 3],.row 9 1 (A0 ZE f) 2] st) [(true,0,2)] [0,112,16,64] yF yD ?_ ?_
 rintro _ _ a ⟨_,_,_⟩ _ b g t h u
 simp only[go_sem,seval,Zd]at g
 obtain ⟨⟨_,_,_,_,_⟩,_,_,_,v,hn⟩:=g
 subst hn
 have w:=WF.rowL t v
 have:=Z0 b
 have:=Z2 b
 have:=Zt (Z1 b) w
 simp only[*,go_sem,seval]
 refine Zb h fun _ x h=>Za (ZmK x)<|yA ?_
 refine yB h (fun _ h=>?_) fun _ h=>?_
 obtain ⟨y,h⟩:=Zz h
 try simp only[Nat.reduceLeDiff]at y
 simp only[*,go_sem,seval]
 exact yR h [0,340,2,3]
 replace h:=Zw h u
 cases h;exact yD
 rintro a ⟨_,_,_⟩ j _ h
 simp only[go_sem,seval,Zd]at j
 obtain ⟨⟨_,_,_,_,_⟩,_,_,_,_,hn⟩:=j
 subst hn
 have:=ZW (f.length)
 simp only[*,go_sem,seval]
 refine Zb h fun k z h=>Za (Zaa z)<|yA ?_
 refine Zn h (fun i d st=>IV [(3,.bp 0 0),(6,.bp 3 0),(12,.p false [.row 4]),(13,yL i)] [.box 86 [.c (.str append_0.name),.c (.int .i64 append_0.priority),.row 1,.row 2],.row 137 5 (A0 ZR a) 2,.row 89 3 (A0 Z3 d) 2,.box 86 [.c (.str ⟨#[]⟩),.c (.int .i64 0),.nil 137 5,.nil 89 3],.row 9 1 (A0 ZE k) 2] st) [(true,0,3)] [0,1,132,2,84] yF yD ?_ ?_
 rintro _ _ d ⟨_,_,_⟩ _ e l A h B
 simp only[go_sem,seval,Zd]at l
 obtain ⟨⟨_,_,_,_⟩,_,_,_,_,C,hn⟩:=l
 subst hn
 have D:=WF.rowL A C
 have:=Z0 e
 have:=Z2 e
 have:=Zt (Z1 e) D
 simp only[*,go_sem,seval]
 refine Zb h fun _ E h=>Za (ZoD E)<|yA ?_
 refine yB h (fun _ h=>?_) fun _ h=>?_
 obtain ⟨F,h⟩:=Zz h
 try simp only[Nat.reduceLeDiff]at F
 simp only[*,go_sem,seval]
 exact yR h [0,1,341,3,4]
 replace h:=Zw h B
 cases h;exact yD
 rintro d ⟨_,_,_⟩ m _ h
 simp only[go_sem,seval,Zd]at m
 obtain ⟨⟨_,_,_,_⟩,_,_,_,_,_,hn⟩:=m
 subst hn
 have:=ZW (k.length)
 simp only[*,go_sem,seval]
 refine Zb h fun _ G h=>Za (ZhX G) ?_
 cases h;exact yD
theorem Zmm {rules_0:(List Zh)}{r:(Zu×Bool)}(h:ZdB rules_0=some r):Zm prog J0 6 [(false,[.sl 86 4 (A0 Zx rules_0)])] [(true,[(false,.sl 86 4 (A0 Zx r.1.rules)),(false,.sl 98 3 (A0 Z4 r.1.memory)),(false,.int .i64 r.1.clock),(false,.sl 81 2 (A0 Z9 r.1.fired)),(false,.bool r.1.halted),(false,.sl 38 4 (A0 Yx r.1.log))]),(false,[(false,.bool r.2)])]:=by
 refine fnk func6 rfl ?_
 unfold ZdB at h
 simp only[fnS,f6,Zq,go_sem,seval]
 refine Zb h fun _ a h=>Za (Zbr a)<|yA ?_
 refine yB h (fun _ h=>?_) fun _ h=>?_
 refine Zb h fun _ b h=>Za (Zck b) ?_
 iterate 2 (cases h;exact yD)
theorem Zbh {append_0:Zu}{r:Bool}(h:Qm append_0=some r):Zm prog J0 26 [(true,Zff append_0)] [(false,[(false,.bool r)])]:=by
 refine fnk func26 rfl ?_
 unfold Qm at h
 simp only[fnS,f26,Zq,go_sem,seval]
 refine Zb h fun _ x h=>Za (Zbr x)<|yA ?_
 refine yB h (fun _ h=>?_) fun _ h=>?_
 refine Zb h fun _ y h=>Za (ZiG y)<|yA ?_
 iterate 2 refine yB h (fun _ h=>?_) fun _ h=>?_
 iterate 3 (cases h;simp only[*,go_sem,seval];refine Zc h (fun _ h=>?_) fun _ h=>?_<;>try simp only[*,go_sem,seval])
 cases h;exact yD
 refine Zn h (fun i _ st=>IV [(1,.bp 0 0),(43,yM (zA append_0.memory)),(44,yL append_0.memory.length),(45,yL i)] [.box 31 [.c (yW append_0.rules),.c (zA append_0.memory),.c (.int .i64 append_0.clock),.c (zE append_0.fired),.c (.bool append_0.halted),.c (zF append_0.log)]] st) [] [0] yF yD ?_ ?_
 rintro _ _ ⟨⟩ ⟨_,_,_⟩ _ a e z h A
 simp only[go_sem,seval,Zd]at e
 obtain ⟨⟨_,B,_,_⟩,_,hn⟩:=e
 subst hn
 have C:=WF.slotL z B (j:=0) rfl
 have:=Z0 a
 have:=Z2 a
 have:=Zt (Z1 a) C
 simp only[*,go_sem,seval]
 refine yB h (fun _ h=>?_) fun _ h=>?_
 replace h:=Zw h A
 cases h;exact yD
 exact yR h [0]
 rintro ⟨⟩ ⟨_,_,_⟩ f _ h
 simp only[go_sem,seval,Zd]at f
 obtain ⟨⟨_,_,_,_⟩,_,hn⟩:=f
 subst hn
 have:=ZW (append_0.memory.length)
 simp only[*,go_sem,seval]
 refine Zn h (fun i _ st=>IV [(1,.bp 0 0),(56,yM (zE append_0.fired)),(57,yL append_0.fired.length),(58,yL i)] [.box 31 [.c (yW append_0.rules),.c (zA append_0.memory),.c (.int .i64 append_0.clock),.c (zE append_0.fired),.c (.bool append_0.halted),.c (zF append_0.log)]] st) [] [0] yF yD ?_ ?_
 rintro g k ⟨⟩ ⟨_,_,_⟩ _ b l D h m
 simp only[go_sem,seval,Zd]at l
 obtain ⟨⟨_,E,_,_⟩,_,hn⟩:=l
 subst hn
 have F:=WF.slotL D E (j:=0) rfl
 have:=Z0 b
 have:=Z2 b
 have:=Zt (Z1 b) F
 simp only[*,go_sem,seval]
 refine Zb h fun _ G h=>Za (Zl0 G)<|yA ?_
 refine yB h (fun _ h=>?_) fun _ h=>?_
 refine XB h (fun o st=>IV [(1,.bp 0 0),(5,yL g),(6,.bp 1 0),(7,yM (.int .i64 o)),(56,yM (zE append_0.fired)),(57,yL append_0.fired.length),(58,yL g)] [.box 31 [.c (yW append_0.rules),.c (zA append_0.memory),.c (.int .i64 append_0.clock),.c (zE append_0.fired),.c (.bool append_0.halted),.c (zF append_0.log)],zK 81 (Z9 k)] st) [] [0,65] yF yD ?_
 rintro o ⟨_,_,_⟩ _ q _ h t
 simp only[go_sem,seval,Zd]at q
 obtain ⟨⟨_,_,_,_,_,_,_⟩,_,_,hn⟩:=q
 subst hn
 simp only[*,go_sem,seval]
 refine yB h (fun _ h=>?_) fun _ h=>?_
 obtain ⟨_,_,_,_,h⟩:=ZaE h
 simp only[*,go_sem,seval]
 refine Zb h fun _ H h=>Za (ZlX H)<|yA ?_
 refine yB h (fun _ h=>?_) fun _ h=>?_
 replace h:=Zw h t
 replace h:=Zw h m
 cases h;exact yD
 exact yR h [0,1]
 replace h:=Zw h t
 exact yR h [0]
 replace h:=Zw h m
 cases h;exact yD
 rintro ⟨⟩ ⟨_,_,_⟩ u _ h
 simp only[go_sem,seval,Zd]at u
 obtain ⟨⟨_,_,_,_⟩,_,hn⟩:=u
 subst hn
 have:=ZW (append_0.fired.length)
 simp only[*,go_sem,seval]
 refine Zn h (fun i _ st=>IV [(81,yM (zF append_0.log)),(82,yL append_0.log.length),(83,yL i)] [] st) [] [] yF yD ?_ ?_
 rintro _ _ ⟨⟩ ⟨_,_,_⟩ _ d v I h J
 simp only[go_sem,seval,Zd]at v
 obtain ⟨⟨K,_,_⟩,hn⟩:=v
 subst hn
 have L:=WF.slotL I K (j:=0) rfl
 have:=Z0 d
 have:=Z2 d
 have:=Zt (Z1 d) L
 simp only[*,go_sem,seval]
 refine Zb h fun _ M h=>Za (Zqv M)<|yA ?_
 refine yB h (fun _ h=>?_) fun _ h=>?_
 exact yR h []
 replace h:=Zw h J
 cases h;exact yD
 rintro ⟨⟩ ⟨_,_,_⟩ w _ h
 simp only[go_sem,seval,Zd]at w
 obtain ⟨⟨_,_,_⟩,hn⟩:=w
 subst hn
 have:=ZW (append_0.log.length)
 iterate 3 (cases h;exact yD)
end
section
open Go.RowKit
section
variable {w w':World} {base:Nat} {e:TypeId} {size n:Nat} {v:Value} {xs:List Value}
theorem Zjl (h:w.ownsV base e size v n xs) (o:Obj):(w.alloc o).ownsV base e size v n xs:=XT h (fun b mb=>Below.heap_alloc w o b (Zgh h b mb))
theorem Ztr (h:w.ownsV base e size v n xs):w.drew.ownsV base e size v n xs:=XT h (fun _ _=>rfl)
theorem Za4 (h:w.ownsV base e size v n xs) (hb:Below w.heap.size w w'):w'.ownsV base e size v n xs:=XT h (fun b mb=>hb.block b (Zgh h b mb))
theorem Zza (h:w.ownsV base e size v n xs):∀g,v.ownBlock=some g->base<=g:=fun g hg=>by
 rcases h.2 with ⟨h0,_⟩|⟨g',o,cap,cur,hv,hb,_⟩
 .rw [h0]at hg;simp [Value.ownBlock]at hg
 .rw [hv]at hg;simp [Value.ownBlock]at hg;omega
theorem Ztf (h:w.ownsV base e size v n xs):Own w base v.ownBlock.toList:=by
 rcases h.2 with ⟨h0,_⟩|⟨g,o,cap,a,hv,hg,hc,_⟩
 .subst h0;exact Own.nil w base
 .subst hv;exact ⟨by simp [Value.ownBlock],by simpa [Value.ownBlock]using hg,by simpa [Value.ownBlock]using ⟨a,e,hc⟩⟩
end
theorem ZrZ {P:Program}{o:Oper}{a:Act}{K:Act->World->Prop}{Q:Exit->Act->World->Prop}{w0:World}(s x:Operand) (t:TypeId)
  (ho:o.op=.call { callee:=.builtin .append,args:=#[s,x],argTypes:=#[t,t] })
  (e:TypeId) (z:Value) (size c:Nat) (ht:P.underlying t=some (.slice e)) (hi:(P.info? e).map (fun i=>(i.zero,i.size,i.bytes))=some (some z,size,c)) (A:z.cells.size=size) (B:0<size)
  (base:Nat) (v:Value) (n:Nat) (xs b:List Value) (hs:a.eval s=v) (hx:a.eval x=.slice (some ⟨w0.heap.size,0,none⟩) 1 1) (l:w0.ownsV base e size v n xs)
  (hl:b.length=size) (h1:∀u∈b,u.oneCell'=true) (h63:n+1<=9223372036854775807) (f:(n+1)*c<=140737488355328) (hbase:base<=w0.heap.size) (w2:World) (d:w2=w0.alloc (.cells b.toArray e)\/w2=(w0.alloc (.cells b.toArray e)).drew)
  (h:∀v' w',w'.ownsV base e size v' (n+1) (xs++b)->w0.grownBy w' v.ownBlock->(∀g,v'.ownBlock=some g->v.ownBlock=some g\/w0.heap.size<=g)->K (a.put o.dst v') w'):
  Oper.wp P o a w2 K Q:=by
 obtain ⟨i,C,D,E,F⟩:=info_parts hi
 have hsize:w2.heap.size=w0.heap.size+1:=by rcases d with rfl|rfl<;>simp
 have m:w2.ownsV base e size v n xs:=by
  rcases d with rfl|rfl
  .exact Zjl l _
  .exact Ztr (Zjl l _)
 have q:w2.heap[w0.heap.size]?=some (.cells b.toArray e (0,0)):=by
  rcases d with rfl|rfl
  .exact heap_alloc_new w0 _
  .exact heap_alloc_new w0 _
 have w:∀k,k<w0.heap.size->w2.heap[k]?=w0.heap[k]?:=fun k hk=>by
  rcases d with rfl|rfl
  .exact Below.heap_alloc w0 _ k hk
  .exact Below.heap_alloc w0 _ k hk
 have p:w2.os=w0.os/\w2.tape=w0.tape/\w2.output=w0.output:=by rcases d with rfl|rfl<;>exact ⟨rfl,rfl,rfl⟩
 obtain ⟨v',w',y,h2,h3,h5⟩:=ZgQ (P:=P) w2 base t o.type e i z size c ht C D E F A B v n xs m ⟨w0.heap.size,0,none⟩ 1 1 b
  yE (fun j u hu=>by rw [ZdC];rw [cell_of_row w2 w0.heap.size (0+j) b.toArray e (0,0) q];simpa using hu) h1 (by unfold maxLen;omega) f yE
 unfold Oper.wp execOp
 simp only[ho,resolve,invoke,builtin,Sem.run_bind,Sem.run_pure,Result.andThen_ok,List.map_toArray,Ac,Ad,hs,hx,y]
 refine h v' w' h2 ?_ ?_
 .exact ⟨h3.os.trans p.1,h3.tape.trans p.2.1,h3.output.trans p.2.2,AB yE h3.size,fun k hk hn=>(h3.block k yE hn).trans (w k hk)⟩
 .intro g hg
  rcases h5 with h5|h5<;>rw [h5]at hg
  .exact .inl hg
  .simp at hg
   exact .inr yE
theorem Zhg {P:Program}{k:Array Oper}{f:List Oper}{o:Oper}{a:Act}{Q:Exit->Act->World->Prop}{w0:World}(m:o.guard=none) (s x:Operand) (t:TypeId)
  (ho:o.op=.call { callee:=.builtin .append,args:=#[s,x],argTypes:=#[t,t] })
  (e:TypeId) (z:Value) (size c:Nat) (ht:P.underlying t=some (.slice e)) (hi:(P.info? e).map (fun i=>(i.zero,i.size,i.bytes))=some (some z,size,c)) (p:z.cells.size=size) (q:0<size)
  (base:Nat) (v:Value) (n:Nat) (xs b:List Value) (hs:a.eval s=v) (hx:a.eval x=.slice (some ⟨w0.heap.size,0,none⟩) 1 1) (l:w0.ownsV base e size v n xs)
  (hl:b.length=size) (h1:∀u∈b,u.oneCell'=true) (w:n+1<=9223372036854775807) (d:(n+1)*c<=140737488355328) (j:base<=w0.heap.size)
  (h:∀v' w',w'.ownsV base e size v' (n+1) (xs++b)->w0.grownBy w' v.ownBlock->(∀g,v'.ownBlock=some g->v.ownBlock=some g\/w0.heap.size<=g)->wpList P k Q f (a.put o.dst v') w'):
  wpList P k Q (o::f) a (w0.alloc (.cells b.toArray e)):=
 wpList_plain m fun _ hK=>ZrZ s x t ho e z size c ht hi p q base v n xs b hs hx l hl h1 w d j _ (.inl rfl) fun v' w' h2 h3 h4=>hK _ _ (h v' w' h2 h3 h4)
theorem Zm.givesX {P:Program}{J:World->Prop}{f:FuncId}{args:List (Bool×List CT)}{α:Type}{c:YK α}{g:α->List CT}{x:α}(h:Zm P J f args [(true,(g x).map fun y=>(false,y))]) (hg:Enc c g) {w:World}{vs:List Value}(hj:J w) (ha:ZI (ZqX w) args vs):Calls P f vs.toArray w (ZzT c w x):=
 (h.calls hj ha).mono fun _ w' ⟨v,n,h1,h2,h3⟩=>by
  obtain ⟨F,p1,hO⟩:=Zme h2
  rcases p1 with ⟨_,cs,rfl,hc⟩|⟨hf,_⟩
  .obtain ⟨F',hs,hr⟩:=ZzY hc
   exact ⟨cs,F',h1,⟨hg.of hr,hO.sub hs⟩,h3⟩
  .simp at hf
structure Zan {α:Type}(c:YK α) (E:TypeId) (base:Nat) (w1:World) (Ls:List (List Nat)) (k:Nat) (ds:List α) (v:Value) (w:World):Prop where
 row:∃xs Lp,w.ownsV base E c.size v ds.length xs/\c.reps w xs ds Lp/\Own w base (v.ownBlock.toList++Lp)/\∀y∈Lp,y∈(Ls.take k).flatten\/w1.heap.size<=y
 own:∀g,v.ownBlock=some g->w1.heap.size<=g
 below:Below w1.heap.size w1 w
section
variable {α:Type} {c:YK α} {E:TypeId} {base:Nat} {w1 w w':World} {Ls:List (List Nat)} {k k':Nat} {ds:List α} {v v':Value}
theorem Zan.start:Zan c E base w1 Ls 0 [] (.slice none 0 0) w1:=
 ⟨⟨[],[],ZfQ _ _ _ _,⟨rfl,rfl⟩,by simpa [Value.ownBlock]using Own.nil w1 base,yG⟩,by simp [Value.ownBlock],Below.refl _ _⟩
theorem Zan.later (h:Zan c E base w1 Ls k ds v w) (hb:Below w.heap.size w w'):Zan c E base w1 Ls k ds v w':=by
 obtain ⟨⟨xs,Lp,h1,h2,h3,h4⟩,h5,h6⟩:=h
 have a:=h3.lt
 exact ⟨⟨xs,Lp,Za4 h1 hb,X7 h2 (fun b mb=>hb.block b (a b (by simp [mb]))),h3.keep (fun b mb=>hb.block b (a b mb)),h4⟩,h5,h6.trans (hb.mono h6.size)⟩
theorem ZhU {Ls:List (List Nat)}{k k':Nat}(h:k<=k') {y:Nat}(hy:y∈(Ls.take k).flatten):y∈(Ls.take k').flatten:=by
 obtain ⟨l,ml,hl⟩:=AS.1 hy
 exact AS.2 ⟨l,(List.take_prefix_take_left h).subset ml,hl⟩
theorem Zan.skip (h:Zan c E base w1 Ls k ds v w) (hk:k<=k'):Zan c E base w1 Ls k' ds v w:=by
 obtain ⟨⟨xs,Lp,h1,h2,h3,h4⟩,h5,h6⟩:=h
 exact ⟨⟨xs,Lp,h1,h2,h3,fun y my=>(h4 y my).imp (ZhU hk) id⟩,h5,h6⟩
theorem Zan.add (h:Zan c E base w1 Ls k ds v w) (hk:k<=k') {xs f:List Value}{Lp l:List Nat}{t:α}(hr:c.reps w xs ds Lp) (hs:∀y∈Lp,y∈(Ls.take k).flatten\/w1.heap.size<=y) (x:c.rep w f t l) (hO:Own w base (v.ownBlock.toList++(Lp++l))) (hl:∀y∈l,y∈(Ls.take k').flatten\/w1.heap.size<=y)
  (i:w'.ownsV base E c.size v' (ds.length+1) (xs++f)) (d:w.grownBy w' v.ownBlock) (j:∀g,v'.ownBlock=some g->v.ownBlock=some g\/w.heap.size<=g):Zan c E base w1 Ls k' (ds++[t]) v' w':=by
 have z:=hO.lt
 have A:=AH.1 hO.nodup
 have o:∀y∈Lp++l,w'.heap[y]?=w.heap[y]?:=fun y my=>d.block y (z y (by simp at my ⊢;exact .inr my)) (fun e=>A.2.2 y (by simp [<-e]) y my rfl)
 have p:c.reps w' (xs++f) (ds++[t]) (Lp++l):=X7 (Ze6 hr (Zfb x)) o
 have u:Own w' base (Lp++l):=(hO.sub (AP _ _)).keep o
 have hv:=Ztf i
 refine ⟨⟨xs++f,Lp++l,by rw [AX];exact i,p,⟨AH.2 ⟨hv.nodup,u.nodup,fun a ma b mb e=>?_⟩,fun b mb=>?_,fun b mb=>?_⟩,fun y my=>?_⟩,fun g hg=>?_,?_⟩
 .subst e
  have ha:v'.ownBlock=some a:=by simpa using ma
  rcases j a ha with h1|h1
  .exact A.2.2 a (by simp [h1]) a mb rfl
  .have:=z a (by simp at mb ⊢;exact .inr mb)
   omega
 .rcases A9.1 mb with m|m
  .exact hv.ge b m
  .exact u.ge b m
 .rcases A9.1 mb with m|m
  .exact hv.plain b m
  .exact u.plain b m
 .rcases A9.1 my with m|m
  .exact (hs y m).imp (ZhU hk) id
  .exact hl y m
 .rcases j g hg with h1|h1
  .exact h.own g h1
  .exact AB h.below.size h1
 .exact h.below.trans ⟨d.os,d.tape,d.output,d.size,fun q hq=>d.block q (AO hq h.below.size) (fun e=>by have:=h.own q e.symm;omega)⟩
theorem Zan.done {W:World}(h:Zan c E W.heap.size w1 Ls k ds v w) (hb:Below W.heap.size W w1):Zge c E W v ds w:=by
 obtain ⟨⟨xs,Lp,h1,h2,h3,_⟩,_,h6⟩:=h
 exact ⟨⟨xs,Lp,h1,h2,h3⟩,hb.trans (h6.mono hb.size)⟩
end
end
section
open Go.RowKit
theorem Zjb {α:Type}{c:YK α}{w:World}:∀{ds:List α}{xs:List Value}{L:List Nat},c.reps w xs ds L->∃(css:List (List Value)) (Ls:List (List Nat)),css.length=ds.length/\Ls.length=ds.length/\xs=css.flatten/\L=Ls.flatten/\∀(i:Nat) (d:α) (c1:List Value) (l1:List Nat),ds[i]?=some d->css[i]?=some c1->Ls[i]?=some l1->c.rep w c1 d l1
 | [],_,_,⟨h1,h2⟩=>⟨[],[],rfl,rfl,h1,h2,yG⟩
 |d::ds,_,_,⟨c1,c2,L1,L2,rfl,rfl,h1,h2⟩=>by
  obtain ⟨css,Ls,a1,a2,rfl,rfl,a5⟩:=Zjb h2
  refine ⟨c1::css,L1::Ls,by simp [a1],by simp [a2],yG,yG,fun i e u l hd hc hl=>?_⟩
  cases i with
  |zero=>simp at hd hc hl;subst hd hc hl;exact h1
  |succ i=>exact a5 i e u l (by simpa using hd) (by simpa using hc) (by simpa using hl)
theorem ZvF {α:Type}{m:Nat}:∀{css:List (List α)}{i j:Nat}{c1:List α}{u:α},(∀x∈css,x.length=m)->css[i]?=some c1->c1[j]?=some u->css.flatten[i*m+j]?=some u
 | [],i,_,_,_,_,h,_=>by simp at h
 |c::css,0,j,c1,u,hs,h,hu=>by
  simp at h;subst h
  rw [Ae,Nat.zero_mul,Nat.zero_add,List.getElem?_append_left (AR.1 hu).1]
  exact hu
 |c::css,i+1,j,c1,u,hs,h,hu=>by
  have hc:=hs c yG
  have:=ZvF (css:=css) (i:=i) (fun x mx=>hs x (by simp [mx])) (by simpa using h) hu
  rw [Ae,List.getElem?_append_right (by rw [hc,Nat.add_mul];omega),hc,show (i+1)*m+j - m=i*m+j by rw [Nat.add_mul];omega]
  exact this
structure ZyE {α:Type}(c:YK α) (w:World) (A:Option Addr) (ds:List α) (L:List Nat) (css:List (List Value)) (Ls:List (List Nat)):Prop where
 cl:css.length=ds.length
 ll:Ls.length=ds.length
 el:∀(i:Nat) (d:α) (c1:List Value) (l1:List Nat),ds[i]?=some d->css[i]?=some c1->Ls[i]?=some l1->c.rep w c1 d l1
 sub:Ls.flatten.Sublist L
 at_:∀(i:Nat) (c1:List Value),css[i]?=some c1->∃b off,A=some ⟨b,off,none⟩/\b∈L/\∀j u,c1[j]?=some u->w.cell? ⟨b,off+(i*c.size+j),none⟩=some u
theorem Sli.parts {α:Type}{c:YK α}{w:World}{A:Option Addr}{ds:List α}{L:List Nat}(h:Sli c w A ds L):∃css Ls,ZyE c w A ds L css Ls:=by
 obtain ⟨xs,L0,L1,rfl,h1,h2⟩:=h
 obtain ⟨css,Ls,a1,a2,rfl,rfl,a5⟩:=Zjb h2
 refine ⟨css,Ls,a1,a2,a5,AP _ _,fun i c1 hc=>?_⟩
 have hi:i<ds.length:=by rw [<-a1];exact (AR.1 hc).1
 obtain ⟨b,off,hA,hL,a⟩:=h1.at_ yE
 have hs:∀x∈css,x.length=c.size:=fun x mx=>by
  obtain ⟨j,hj⟩:=List.mem_iff_getElem?.1 mx
  have hjl:=(AR.1 hj).1
  exact c.len (a5 j ds[j] x Ls[j] (AF yE) hj (AF yE))
 exact ⟨b,off,hA,by simp [hL],fun j u hu=>a _ u (ZvF hs hc hu)⟩
theorem Xw {Ls:List (List Nat)}{k:Nat}{l:List Nat}(h:Ls[k]?=some l):(Ls.take (k+1)).flatten=(Ls.take k).flatten++l:=by
 rw [AQ,h];simp
theorem Zg4 {Ls:List (List Nat)}(k:Nat):(Ls.take k).flatten.Sublist Ls.flatten:=by
 conv=>rhs;rw [<-List.take_append_drop k Ls,List.flatten_append]
 exact AY _ _
section
variable {α:Type} {c:YK α} {E:TypeId} {W w1 w w':World} {LA:List Nat} {Ls:List (List Nat)} {M:List α} {p:α->Bool} {k:Nat} {v v':Value} {x:α} {l:List Nat}
theorem Zf2 (hx:M[k]?=some x):(M.take (k+1)).filter p=(M.take k).filter p++(if p x then [x] else []):=by
 rw [AQ,hx,List.filter_append]
 show _++List.filter p [x]=_
 cases hp:p x<;>simp [hp]
end
section
variable {β:Type} {c:YK β} {E:TypeId} {W w1 w w':World} {LA:List Nat} {Ls:List (List Nat)} {ds:List β} {k:Nat} {v v':Value} {y:β} {l l':List Nat}
end
end
section
open Go.RowKit
theorem ZnG:(prog.info? 150).map (fun i=>(i.zero,i.size,i.bytes))=some (some (.agg #[.slice none 0 0,.slice none 0 0]),2,48):=yO
theorem Zxw:(prog.info? 36).map (fun i=>(i.zero,i.size,i.bytes))=some (some (.agg #[.string ⟨#[]⟩,.slice none 0 0]),2,40):=yO
theorem ZqB {B:Nat}{w0 w w':World}{o:Option Nat}(h:Below B w0 w) (g:w.grownBy w' o) (hB:B<=w.heap.size) (ho:∀q,o=some q->B<=q):Below B w0 w':=
 ⟨g.os.trans h.os,g.tape.trans h.tape,g.output.trans h.output,AB h.size g.size,fun q hq=>(g.block q (AO hq hB) (fun e=>by have:=ho q e.symm;omega)).trans (h.block q hq)⟩
theorem Own.permT {w:World}{base:Nat}{L M:List Nat}(h:Own w base L) (p:L.Perm M):Own w base M:=
 ⟨p.nodup_iff.1 h.nodup,fun b m=>h.ge b (p.mem_iff.2 m),fun b m=>h.plain b (p.mem_iff.2 m)⟩
theorem Zib {P:Program}{j:Array Oper}{o:Oper}{a:Act}{K:Act->World->Prop}{Q:Exit->Act->World->Prop}{E:Prop}{w0:World}(l:o.guard=none) (s x:Operand) (t:TypeId)
  (ho:o.op=.call { callee:=.builtin .append,args:=#[s,x],argTypes:=#[t,t] })
  (e:TypeId) (z:Value) (size c:Nat) (ht:P.underlying t=some (.slice e)) (hi:(P.info? e).map (fun i=>(i.zero,i.size,i.bytes))=some (some z,size,c)) (m:z.cells.size=size) (p:0<size)
  (base:Nat) (v:Value) (n:Nat) (xs b:List Value) (hs:a.eval s=v) (hx:a.eval x=.slice (some ⟨w0.heap.size,0,none⟩) 1 1) (k:w0.ownsV base e size v n xs)
  (hl:b.length=size) (h1:∀u∈b,u.oneCell'=true) (q:n+1<=9223372036854775807) (d:(n+1)*c<=140737488355328) (f:base<=w0.heap.size)
  (h:∀v' w',w'.ownsV base e size v' (n+1) (xs++b)->w0.grownBy w' v.ownBlock->(∀g,v'.ownBlock=some g->v.ownBlock=some g\/w0.heap.size<=g)->K (a.put o.dst v') w'):
  if Region.wanted o (yielded j a.tmps)=true then Oper.wp P o a (w0.alloc (.cells b.toArray e)) K Q else E:=by
 have hw:Region.wanted o (yielded j a.tmps)=true:=by simp [Region.wanted,l]
 rw [if_pos hw]
 exact ZrZ s x t ho e z size c ht hi m p base v n xs b hs hx k hl h1 q d f _ (.inl rfl) h
theorem Zge.laterT {α:Type}{c:YK α}{E:TypeId}{W w w':World}{v:Value}{ds:List α}(h:Zge c E W v ds w) (hb:Below w.heap.size w w'):Zge c E W v ds w':=by
 obtain ⟨⟨xs,L,h1,h2,h3⟩,h4⟩:=h
 have a:=h3.lt
 exact ⟨⟨xs,L,Za4 h1 hb,X7 h2 (fun b mb=>hb.block b (a b (by simp [mb]))),h3.keep (fun b mb=>hb.block b (a b mb))⟩,h4.trans (hb.mono h4.size)⟩
theorem ZzM (w:World):Zge Zb8 150 w (.slice (some ⟨w.heap.size,0,none⟩) 1 1) [ZnV] (w.alloc (.cells #[.slice none 0 0,.slice none 0 0] 150)):=by
 have hn:=heap_alloc_new w (.cells #[.slice none 0 0,.slice none 0 0] 150)
 refine ⟨⟨[.slice none 0 0,.slice none 0 0],[],⟨rfl,.inr ⟨w.heap.size,0,1,_,rfl,A5 _,hn,A5 _,by unfold maxLen;omega,by simp [Zb8],by simp [Zb8]⟩⟩,?_,?_⟩,(Below.refl _ w).alloc (A5 _) _⟩
 .exact Zfb ⟨none,0,[],none,0,[],rfl,rfl,A5 _,by unfold maxLen;omega,Sli.nil _ _,A5 _,by unfold maxLen;omega,Sli.nil _ _⟩
 .exact ⟨by simp [Value.ownBlock],by simp [Value.ownBlock],fun b mb=>by simp [Value.ownBlock]at mb;subst mb;exact ⟨_,_,hn⟩⟩
theorem Zyv {l:List Zj}{k:Nat}{x:Zj}{F:List Zg}(h:l[k]?=some x):ZN (l.take (k+1)) F=Zbx x F (ZN (l.take k) F):=by
 rw [AQ,h];exact ZdW _ _ _
theorem Zky {ts:List Zs}{j:Nat}{t:Zs}{x:Zj}{F:List Zg}(h:ts[j]?=some t):(ts.take (j+1)).flatMap (X1 x F)=(ts.take j).flatMap (X1 x F)++X1 x F t:=by
 rw [AQ,h,List.flatMap_append];simp
theorem Zvx {α β:Type}{F:List α}{q:Nat}{f:α}{g:α->Option β}(h:F[q]?=some f):(F.take (q+1)).filterMap g=(F.take q).filterMap g++(g f).toList:=by
 rw [AQ,h,List.filterMap_append]
 cases hg:g f<;>simp [hg]
theorem Zan.taken {base:Nat}{w1 w:World}{LA:List Nat}{Ls:List (List Nat)}{k:Nat}{v:Value}{l Lp:List Nat}(hO:Own w1 base LA) (hs:Ls.flatten.Sublist LA) (hl:Ls[k]?=some l) (hb:Below w1.heap.size w1 w) (hv:Own w base (v.ownBlock.toList++Lp)) (o:∀y∈Lp,y∈(Ls.take k).flatten\/w1.heap.size<=y) (p:∀g,v.ownBlock=some g->w1.heap.size<=g):Own w base (v.ownBlock.toList++(Lp++l)):=by
 have c:((Ls.take (k+1)).flatten).Sublist LA:=(Zg4 _).trans hs
 rw [Xw hl]at c
 have i:=hO.sub c
 have q:=AH.1 i.nodup
 have j:Own w1 base l:=i.sub (AP _ _)
 have d:=j.lt
 have f:Own w base l:=j.keep (fun b mb=>hb.block b (d b mb))
 rw [<-AI]
 refine ⟨AH.2 ⟨hv.nodup,f.nodup,fun a ma b mb e=>?_⟩,fun b mb=>?_,fun b mb=>?_⟩
 .subst e
  rcases A9.1 ma with m|m
  .have:=p a (by simpa using m);have:=d a mb;omega
  .rcases o a m with m|m
   .exact q.2.2 a m a mb rfl
   .have:=d a mb;omega
 .rcases A9.1 mb with m|m
  .exact hv.ge b m
  .exact f.ge b m
 .rcases A9.1 mb with m|m
  .exact hv.plain b m
  .exact f.plain b m
theorem Zge.snocT {α:Type}{c:YK α}{E:TypeId}{W w2 w3:World}{v v':Value}{ds:List α}{x:α}{xs f:List Value}{L l:List Nat}(hB:Below W.heap.size W w2) (hr:c.reps w2 xs ds L) (o:c.rep w2 f x l) (hO:Own w2 W.heap.size (v.ownBlock.toList++(L++l))) (i:w3.ownsV W.heap.size E c.size v' (ds.length+1) (xs++f)) (d:w2.grownBy w3 v.ownBlock) (p:∀g,v'.ownBlock=some g->v.ownBlock=some g\/w2.heap.size<=g):Zge c E W v' (ds++[x]) w3:=by
 have t:=hO.lt
 have u:=AH.1 hO.nodup
 have j:∀y∈L++l,w3.heap[y]?=w2.heap[y]?:=fun y my=>d.block y (t y (by simp at my ⊢;exact .inr my)) (fun e=>u.2.2 y (by simp [<-e]) y my rfl)
 have k:Own w3 W.heap.size (L++l):=(hO.sub (AP _ _)).keep j
 have hv:=Ztf i
 refine ⟨⟨xs++f,L++l,by rw [AX];exact i,X7 (Ze6 hr (Zfb o)) j,⟨AH.2 ⟨hv.nodup,k.nodup,fun a ma b mb e=>?_⟩,fun b mb=>?_,fun b mb=>?_⟩⟩,?_⟩
 .subst e
  have ha:v'.ownBlock=some a:=by simpa using ma
  rcases p a ha with h1|h1
  .exact u.2.2 a (by simp [h1]) a mb rfl
  .have:=t a (by simp at mb ⊢;exact .inr mb)
   omega
 .rcases A9.1 mb with m|m
  .exact hv.ge b m
  .exact k.ge b m
 .rcases A9.1 mb with m|m
  .exact hv.plain b m
  .exact k.plain b m
 .exact hB.trans ⟨d.os,d.tape,d.output,d.size,fun q hq=>d.block q (AO hq hB.size) (fun e=>by have:=hO.ge q (by simp [<-e]);omega)⟩
theorem ZtH {l:List Zj}{F:List Zg}(hl:l.length<=4) (hF:F.length<=24) (hA:∀f∈F,f.args.length<=3) (w:World) (hj:J0 w) (A:Option Addr) (c:Nat) (L:List Nat) (hR:(X4 Zr5).rep w [.slice A l.length c] l L) (B:Option Addr) (d:Nat) (K:List Nat) (hB:(X4 YG).rep w [.slice B F.length d] F K):
  Calls prog 120 #[.slice A l.length c,.slice B F.length d] w (Zz2 Zb8 150 w (ZN l F)):=by
 obtain ⟨al,bg,am⟩:=ZeA hR
 obtain ⟨an,bh,ao⟩:=ZeA hB
 obtain ⟨n,hn⟩:∃n,l.length=n:=⟨_,rfl⟩
 obtain ⟨m,hm⟩:∃m,F.length=m:=⟨_,rfl⟩
 have HN:Hid (l.length=n):=hn
 have HM:Hid (F.length=m):=hm
 have HL4:Hid (l.length<=4):=hl
 have HF24:Hid (F.length<=24):=hF
 rw [hm]at hB
 rw [hn]at hl al ⊢
 rw [hm]at hF an ⊢
 have HR:Hid (Sli Zr5 w A l L):=am
 have HB:=yS hB
 have HSB:Hid (Sli YG w B F K):=ao
 have HJ:=yS hj
 have HA:Hid (∀f∈F,f.args.length<=3):=hA
 clear hR hB am ao hj hn hm hA bg bh al an
 go_enter func120,ntmps120
 go_wp2
 have H:Hid (Zge Zb8 150 w (.slice (some ⟨w.heap.size,0,none⟩) 1 1) (ZN (l.take 0) F) (w.alloc (.cells #[.slice none 0 0,.slice none 0 0] 150))):=ZzM w
 go_loopw [5,19] (fun v i wr=>∃(k:Nat),k<=n/\i=.int .i64 k/\Hid (Zge Zb8 150 w v (ZN (l.take k) F) wr)) (fun _ i _=>n - (intOf i).toNat)
 case atStart=>exact ⟨0,AC _,rfl,H⟩
 case round=>
  clear H
  obtain ⟨k,hk,rfl,HV⟩:=hrel
  by_cases hlt:k<n
  .have ap:k<l.length:=by have:=HN.out;omega
   obtain ⟨bc,oc,cs,Lk,rfl,bi,_,z,hc⟩:=HR.out.at_ ap
   obtain ⟨x,hx⟩:∃x,l[k]=x:=⟨_,rfl⟩
   have HX:Hid (l[k]?=some x):=by rw [AF ap,hx];rfl
   rw [hx]at z
   have HXR:=yS z
   obtain ⟨Ap,cp,Lp,e1,e2,t0,t1,t2,np,mp,sp⟩:=z
   subst e1
   have P:bc<w.heap.size:=HR.out.lt _ bi
   obtain ⟨ts,Y⟩:∃ts,ZN (l.take k) F=ts:=⟨_,rfl⟩
   have HTS:Hid (ZN (l.take k) F=ts):=Y
   rw [Y]at HV
   obtain ⟨Av,cv,e3⟩:=HV.out.shape
   subst e3
   obtain ⟨nt,Z⟩:∃nt,ts.length=nt:=⟨_,rfl⟩
   have HNT:Hid (ts.length=nt):=Z
   have hnt2:nt<=331776:=by rw [<-Z,<-Y];exact QY F HF24.out _ (by have:=HL4.out;simp;omega)
   rw [Z]at HV ⊢
   have HBW:Hid (Below w.heap.size w wr):=HV.out.below
   have q0:wr.cell? ⟨bc,oc+k*5,none⟩=some (.int .i64 x.kind):=(HBW.out.cell (p:=⟨bc,oc+(k*5+0),none⟩) P).trans (hc 0 _ rfl)
   have q1:wr.cell? ⟨bc,oc+k*5+1,none⟩=some (.string x.pattern.rel):=(HBW.out.cell (p:=⟨bc,oc+(k*5+1),none⟩) P).trans (hc 1 _ rfl)
   have q2:wr.cell? ⟨bc,oc+k*5+2,none⟩=some (.slice Ap x.pattern.args.length cp):=(HBW.out.cell (p:=⟨bc,oc+(k*5+2),none⟩) P).trans (hc 2 _ rfl)
   have q3:wr.cell? ⟨bc,oc+k*5+3,none⟩=some (.string x.left):=(HBW.out.cell (p:=⟨bc,oc+(k*5+3),none⟩) P).trans (hc 3 _ rfl)
   have q4:wr.cell? ⟨bc,oc+k*5+4,none⟩=some (.string x.right):=(HBW.out.cell (p:=⟨bc,oc+(k*5+4),none⟩) P).trans (hc 4 _ rfl)
   have HPR:Hid (Zf4.rep w [.string x.pattern.rel,.slice Ap x.pattern.args.length cp] x.pattern Lp):=⟨Ap,cp,Lp,rfl,rfl,t0,np,mp,sp⟩
   clear hc hx Y Z np mp sp t0 t1 t2
   go_wp2
   obtain ⟨w1,I⟩:∃w1,w1=wr.alloc (.cells #[.int .i64 x.kind,.string x.pattern.rel,.slice Ap x.pattern.args.length cp,.string x.left,.string x.right] 137):=⟨_,rfl⟩
   have BA:Hid (Below wr.heap.size wr w1):=by rw [I];exact (Below.refl _ wr).alloc (A5 _) _
   have HSZ:Hid (w1.heap.size=wr.heap.size+1):=by rw [I];show _=_;simp
   have K1:Hid (Blk w1 wr.heap.size 137 #[.int .i64 x.kind,.string x.pattern.rel,.slice Ap x.pattern.args.length cp,.string x.left,.string x.right]):=by rw [I];exact Blk.new _ _ _
   obtain ⟨g,hg⟩:∃g,g=wr.heap.size:=⟨_,rfl⟩
   rw [<-hg]at K1
   have HG:Hid (g=wr.heap.size):=hg
   rw [<-I,<-hg]
   clear I hg q0 q1 q2 q3 q4
   have BW1:Hid (Below w.heap.size w w1):=HBW.out.trans (BA.out.mono HBW.out.size)
   have HV1:=yS (HV.out.laterT BA.out)
   obtain ⟨LA,hG⟩:=HV1.out.got
   obtain ⟨bj,bk,hS⟩:=ZeA hG.rep
   obtain ⟨css,Ls,hP⟩:=hS.parts
   have HP:=yS hP
   have HOA:Hid (Own w1 w.heap.size LA):=hG.own
   clear hG hS hP bj bk HV1 HV
   have H:Hid (Zan Zb8 150 w.heap.size w1 Ls 0 ((ts.take 0).flatMap (X1 x F)) (.slice none 0 0) w1):=Zan.start
   go_loopw [8,25] (fun v i wq=>∃(j:Nat),j<=nt/\i=.int .i64 j/\Hid (Zan Zb8 150 w.heap.size w1 Ls j ((ts.take j).flatMap (X1 x F)) v wq)) (fun _ i _=>nt - (intOf i).toNat)
   case atStart=>exact ⟨0,AC _,rfl,H⟩
   case round=>
    clear H
    obtain ⟨j,hj,rfl,HQ⟩:=hrel
    by_cases hjt:j<nt
    .obtain ⟨t,ht⟩:∃t,ts[j]?=some t:=⟨_,AF (by have:=HNT.out;omega)⟩
     obtain ⟨c1,Q⟩:∃c1,css[j]?=some c1:=⟨_,AF (by have:=HP.out.cl;have:=HNT.out;omega)⟩
     obtain ⟨l1,aa⟩:∃l1,Ls[j]?=some l1:=⟨_,AF (by have:=HP.out.ll;have:=HNT.out;omega)⟩
     obtain ⟨bt,ot,rfl,bl,ae⟩:=HP.out.at_ j c1 Q
     have HTR:=yS (HP.out.el j t c1 l1 ht Q aa)
     obtain ⟨A1,d1,L1,A2,d2,L2,e1,e2,n1,m1,s1,n2,m2,s2⟩:=HTR.out
     subst e1
     have R:bt<w1.heap.size:=HOA.out.lt bt bl
     have HT:Hid (ts[j]?=some t):=ht
     have HL1:Hid (Ls[j]?=some l1):=aa
     have ac:Hid (∀y∈l1,y∈LA):=by
      intro y m
      obtain ⟨a1,a2⟩:=AR.1 aa
      exact HP.out.sub.subset (AS.2 ⟨l1,a2 ▸ List.getElem_mem a1,m⟩)
     have HTK:Hid (ZAI F t):=by
      have h:=Zal F (l.take k) t (by rw [HTS.out];exact AZ ht)
      exact h.s (by have:=HL4.out;simp;omega) HA.out
     obtain ⟨tf,M⟩:∃n,t.facts.length=n:=⟨_,rfl⟩
     obtain ⟨tb,N⟩:∃n,t.binding.length=n:=⟨_,rfl⟩
     have HTF:Hid (t.facts.length=tf):=M
     have HTB:Hid (t.binding.length=tb):=N
     rw [M,N]at HTR
     have r0:wr.cell? ⟨bt,ot+j*2,none⟩=some (.slice A1 tf d1):=(HQ.out.below.cell (p:=⟨bt,ot+(j*2+0),none⟩) R).trans ((ae 0 _ rfl).trans (by rw [M]))
     have r1:wr.cell? ⟨bt,ot+j*2+1,none⟩=some (.slice A2 tb d2):=(HQ.out.below.cell (p:=⟨bt,ot+(j*2+1),none⟩) R).trans ((ae 1 _ rfl).trans (by rw [N]))
     have HQK:=yS (K1.out.later HQ.out.below)
     have HSZ2:Hid (g<wr.heap.size):=by have:=HG.out;have:=HSZ.out;have:=HQ.out.below.size;show _<_;omega
     have k0:∀o,(wr.alloc o).cell? ⟨g,0,none⟩=some (.int .i64 x.kind):=fun o=>(HQK.out.later ((Below.refl _ wr).alloc (A5 _) o)).at (i:=0) rfl
     have k1:∀o,(wr.alloc o).cell? ⟨g,1,none⟩=some (.string x.pattern.rel):=fun o=>(HQK.out.later ((Below.refl _ wr).alloc (A5 _) o)).at (i:=1) rfl
     have k2:∀o,(wr.alloc o).cell? ⟨g,2,none⟩=some (.slice Ap x.pattern.args.length cp):=fun o=>(HQK.out.later ((Below.refl _ wr).alloc (A5 _) o)).at (i:=2) rfl
     have k3:∀o,(wr.alloc o).cell? ⟨g,3,none⟩=some (.string x.left):=fun o=>(HQK.out.later ((Below.refl _ wr).alloc (A5 _) o)).at (i:=3) rfl
     have k4:∀o,(wr.alloc o).cell? ⟨g,4,none⟩=some (.string x.right):=fun o=>(HQK.out.later ((Below.refl _ wr).alloc (A5 _) o)).at (i:=4) rfl
     have B3:Hid (∀o,Below w.heap.size w (wr.alloc o)):=fun o=>BW1.out.trans (HQ.out.below.mono BW1.out.size |>.trans (((Below.refl _ wr).alloc (A5 _) o).mono (AB BW1.out.size HQ.out.below.size)))
     have BQ:Hid (∀o,Below w1.heap.size w1 (wr.alloc o)):=fun o=>HQ.out.below.trans (((Below.refl _ wr).alloc (A5 _) o).mono HQ.out.below.size)
     have HFR1:Hid ((X4 YG).rep w1 [.slice A1 tf d1] t.facts L1):=⟨A1,d1,by rw [M],n1,m1,s1⟩
     have HBR1:Hid ((X4 ZgS).rep w1 [.slice A2 tb d2] t.binding L2):=⟨A2,d2,by rw [N],n2,m2,s2⟩
     have HFR:Hid (∀o,(X4 YG).rep (wr.alloc o) [.slice A1 tf d1] t.facts L1):=fun o=>⟨A1,d1,by rw [M],n1,m1,s1.below (BQ.out o)⟩
     have HBR:Hid (∀o,(X4 ZgS).rep (wr.alloc o) [.slice A2 tb d2] t.binding L2):=fun o=>⟨A2,d2,by rw [N],n2,m2,s2.below (BQ.out o)⟩
     have HLE:Hid (((ts.take j).flatMap (X1 x F)).length<=7962624):=by
      have h:=ZjW x F HF24.out (ts.take j)
      have:(ts.take j).length<=331776:=by simp;omega
      unfold Zbx at h
      show _<=_
      omega
     clear ae ht Q aa M N n1 m1 s1 n2 m2 s2 R
     by_cases ab:x.kind=1
     .go_wp2
      have HK1:Hid (x.kind=1):=ab
      clear ab
      obtain ⟨w3,O⟩:∃w3,w3=wr.alloc (.cells #[.slice A1 tf d1,.slice A2 tb d2] 150):=⟨_,rfl⟩
      obtain ⟨gt,S⟩:∃gt,gt=wr.heap.size:=⟨_,rfl⟩
      have HSZ3:Hid (w3.heap.size=gt+1):=by rw [O,S];show _=_;simp
      have K2:Hid (Blk w3 gt 150 #[.slice A1 tf d1,.slice A2 tb d2]):=by rw [O,S];exact Blk.new _ _ _
      have B13:Hid (Below w1.heap.size w1 w3):=by rw [O];exact BQ.out _
      have HG1:Hid (w1.heap.size<=gt):=by rw [S];exact HQ.out.below.size
      have HGG:Hid (g<w1.heap.size):=by have:=HG.out;have:=HSZ.out;show _<_;omega
      obtain ⟨D,hD⟩:∃D,D=(ts.take j).flatMap (X1 x F):=⟨_,rfl⟩
      have HD:Hid (D=(ts.take j).flatMap (X1 x F)):=hD
      have H:Hid (Zan Zb8 150 w.heap.size w1 Ls j (D++(F.take 0).filterMap fun f=>(Xh x.pattern f t.binding).map fun b=>({ facts:=t.facts++[f],binding:=b }:Zs)) u8 w3/\Blk w3 gt 150 #[.slice A1 tf d1,.slice A2 tb d2]/\∀y,u8.ownBlock=some y->y≠gt):=by
       refine ⟨?_,K2.out,fun y hy e=>?_⟩
       .rw [hD,O,List.take_zero,List.filterMap_nil,AT]
        exact HQ.out.later ((Below.refl _ wr).alloc (A5 _) _)
       .obtain ⟨⟨xs,Lp,ho,_⟩,_⟩:=HQ.out
        have:=Zgh ho y (by simp [hy])
        omega
      have HDL:Hid (D.length<=7962624):=by rw [hD];exact HLE.out
      rw [<-O,<-S]
      clear O S hD k0 k1 k2 k3 k4 r0 r1 HQ HQK HSZ2 B3 BQ HFR HBR HLE
      go_loopw [8,43] (fun v i wq=>∃(q:Nat),q<=m/\i=.int .i64 q/\Hid (Zan Zb8 150 w.heap.size w1 Ls j (D++(F.take q).filterMap fun f=>(Xh x.pattern f t.binding).map fun b=>({ facts:=t.facts++[f],binding:=b }:Zs)) v wq/\Blk wq gt 150 #[.slice A1 tf d1,.slice A2 tb d2]/\∀y,v.ownBlock=some y->y≠gt)) (fun _ i _=>m - (intOf i).toNat)
      case atStart=>exact ⟨0,AC _,rfl,H⟩
      case round=>
       clear H
       obtain ⟨q,hq,rfl,HI⟩:=hrel
       by_cases hqm:q<m
       .have aq:q<F.length:=by have:=HM.out;omega
        obtain ⟨bf,of,cs,Lf,rfl,bm,_,z,hc⟩:=HSB.out.at_ aq
        obtain ⟨f,hf⟩:∃f,F[q]=f:=⟨_,rfl⟩
        have HFQ:Hid (F[q]?=some f):=by rw [AF aq,hf];rfl
        rw [hf]at z
        have HFE:=yS z
        obtain ⟨Af,cf,Lf2,e1,e2,t0,nf,mf,sf⟩:=z
        subst e1
        have ar:bf<w.heap.size:=HSB.out.lt _ bm
        have BWQ:Hid (Below w.heap.size w wr):=BW1.out.trans (HI.out.1.below.mono BW1.out.size)
        have HGT:Hid (gt<wr.heap.size):=HI.out.2.1.lt
        have s0:wr.cell? ⟨bf,of+q*2,none⟩=some (.string f.rel):=(BWQ.out.cell (p:=⟨bf,of+(q*2+0),none⟩) ar).trans (hc 0 _ rfl)
        have s1:wr.cell? ⟨bf,of+q*2+1,none⟩=some (.slice Af f.args.length cf):=(BWQ.out.cell (p:=⟨bf,of+(q*2+1),none⟩) ar).trans (hc 1 _ rfl)
        have BO:Hid (∀o,Below wr.heap.size wr (wr.alloc o)):=fun o=>(Below.refl _ wr).alloc (A5 _) o
        have BWO:Hid (∀o,Below w.heap.size w (wr.alloc o)):=fun o=>BWQ.out.trans ((BO.out o).mono BWQ.out.size)
        have B1O:Hid (∀o,Below w1.heap.size w1 (wr.alloc o)):=fun o=>HI.out.1.below.trans ((BO.out o).mono HI.out.1.below.size)
        have KG:Hid (∀o,Blk (wr.alloc o) g 137 #[.int .i64 x.kind,.string x.pattern.rel,.slice Ap x.pattern.args.length cp,.string x.left,.string x.right]):=fun o=>K1.out.later (B1O.out o)
        have KT:Hid (∀o,Blk (wr.alloc o) gt 150 #[.slice A1 tf d1,.slice A2 tb d2]):=fun o=>HI.out.2.1.later (BO.out o)
        have k1:∀o,(wr.alloc o).cell? ⟨g,1,none⟩=some (.string x.pattern.rel):=fun o=>(KG.out o).at (i:=1) rfl
        have k2:∀o,(wr.alloc o).cell? ⟨g,2,none⟩=some (.slice Ap x.pattern.args.length cp):=fun o=>(KG.out o).at (i:=2) rfl
        have k3:∀o,(wr.alloc o).cell? ⟨gt,1,none⟩=some (.slice A2 tb d2):=fun o=>(KT.out o).at (i:=1) rfl
        have HL1s:Hid (∀y∈l1,y<w1.heap.size):=fun y m=>HOA.out.lt y (ac.out y m)
        clear hc hf t0 nf mf sf
        obtain ⟨E,hE⟩:∃E,E=D++(F.take q).filterMap fun f=>(Xh x.pattern f t.binding).map fun b=>({ facts:=t.facts++[f],binding:=b }:Zs):=⟨_,rfl⟩
        have HE:Hid (E=D++(F.take q).filterMap fun f=>(Xh x.pattern f t.binding).map fun b=>({ facts:=t.facts++[f],binding:=b }:Zs)):=hE
        have hEL:E.length<=8000000:=by
         have h1:=HDL.out
         have h2:=List.length_filterMap_le (fun f=>(Xh x.pattern f t.binding).map fun b=>({ facts:=t.facts++[f],binding:=b }:Zs)) (F.take q)
         have h3:(F.take q).length<=q:=by simp;omega
         rw [hE,AX]
         omega
        rw [<-hE]at HI
        clear hE
        cases hm:Xh x.pattern f t.binding with
        |none=>
         have HC:Qk x.pattern f t.binding=some ([],false):=by rw [Zau,hm];rfl
         go_wp2_with fail
         refine (Zm.givesSB (c:=ZgS) (g:=Yg) (t:=152) (ds:=[]) (b:=false) (Zcc HC) Zd4 (Xu hJ0 HJ.out (BWO.out _)) (vs:=[_,_,_]) ⟨ZbB ZnP (Zf4.keep HPR.out (Z5 (BWO.out _) (fun y m=>Zf4.lt HPR.out y m))),ZbB Xe (YG.keep HFE.out (Z5 (BWO.out _) (fun y m=>YG.lt HFE.out y m))),Zk5 Zd4 _ ((X4 ZgS).keep HBR1.out (Z5 (B1O.out _) (fun y m=>(X4 ZgS).lt HBR1.out y m))),trivial⟩).mono ?_
         rintro e w5 ⟨vb,rfl,G⟩
         have HQ5:=yS ((HI.out.1.later (BO.out _)).later G.below)
         have K5:=yS ((KT.out _).later G.below)
         clear G k1 k2 k3 s0 s1
         go_wp2
         refine ⟨⟨q+1,yE,yG,?_⟩,by simp [intOf];omega⟩
         show Zan _ _ _ _ _ _ _ _ _/\_/\_
         refine ⟨?_,K5.out,HI.out.2.2⟩
         rw [Zvx HFQ.out]
         simp only[hm,Option.map_none,Option.toList_none,AT]
         rw [<-HE.out]
         exact HQ5.out
        |some b=>
         have HC:Qk x.pattern f t.binding=some (b,true):=by rw [Zau,hm];rfl
         go_wp2_with fail
         refine (Zm.givesSB (c:=ZgS) (g:=Yg) (t:=152) (ds:=b) (b:=true) (Zcc HC) Zd4 (Xu hJ0 HJ.out (BWO.out _)) (vs:=[_,_,_]) ⟨ZbB ZnP (Zf4.keep HPR.out (Z5 (BWO.out _) (fun y m=>Zf4.lt HPR.out y m))),ZbB Xe (YG.keep HFE.out (Z5 (BWO.out _) (fun y m=>YG.lt HFE.out y m))),Zk5 Zd4 _ ((X4 ZgS).keep HBR1.out (Z5 (B1O.out _) (fun y m=>(X4 ZgS).lt HBR1.out y m))),trivial⟩).mono ?_
         rintro e w5 ⟨vb,rfl,G⟩
         obtain ⟨Ab,cb,eb⟩:=G.shape
         subst eb
         obtain ⟨Lb,au⟩:=G.got
         have HGb:=yS au
         have W5:Hid (Below wr.heap.size wr w5):=(BO.out _).trans (G.below.mono (BO.out _).size)
         have HQ5:=yS (HI.out.1.later W5.out)
         have KT5:=yS (HI.out.2.1.later W5.out)
         have KF5:Hid (Blk w5 wr.heap.size 36 #[.string f.rel,.slice Af f.args.length cf]):=Blk.later (Blk.new _ _ _) G.below
         have WW5:Hid (Below w.heap.size w w5):=BWQ.out.trans (W5.out.mono BWQ.out.size)
         have W15:Hid (Below w1.heap.size w1 w5):=HQ5.out.below
         have a0:w5.cell? ⟨gt,0,none⟩=some (.slice A1 tf d1):=KT5.out.at (i:=0) rfl
         have a1:w5.cell? ⟨wr.heap.size,0,none⟩=some (.string f.rel):=KF5.out.at (i:=0) rfl
         have a2:w5.cell? ⟨wr.heap.size,1,none⟩=some (.slice Af f.args.length cf):=KF5.out.at (i:=1) rfl
         have JD:Hid (J0 w5.drew):=Xu hJ0 HJ.out WW5.out.drew
         have FD:Hid ((X4 YG).rep w5.drew [.slice A1 tf d1] t.facts L1):=(X4 YG).keep HFR1.out (Z5 W15.out.drew (fun y m=>(X4 YG).lt HFR1.out y m))
         have HCF:Hid (Yb t.facts=some t.facts):=QF _ (by have:=HTK.out.len;omega) (fun g mg=>by have:=HTK.out.args g mg;omega)
         have HCX:Hid (Yw f=some f):=Ym f (by have:=HA.out f (AZ HFQ.out);omega)
         obtain ⟨⟨av,Lp9,aw,ax,ay,ad⟩,az,_⟩:=HI.out.1
         have HO9:=yS aw
         have HR9:=yS (And.intro ax (And.intro ay ad))
         clear G au k1 k2 k3 s0 s1 HC aw ax ay ad az
         have htl:t.facts.length<=4:=HTK.out.len
         go_wp2_with fail
         go_region_held3 (fun W=>W.cell? ⟨gt,0,none⟩=some (.slice A1 tf d1)/\W.cell? ⟨wr.heap.size,0,none⟩=some (.string f.rel)/\W.cell? ⟨wr.heap.size,1,none⟩=some (.slice Af f.args.length cf)) (first|exact ⟨a0,a1,a2⟩|exact ⟨bn,bo,bp⟩|exact ⟨bq,br,bs⟩|exact ⟨bu _,bv _,bw _⟩|exact ⟨bx,bz,b0⟩|exact ⟨b1 _,b2 _,b3 _⟩|exact ⟨b4,b5,b6⟩) (first|(go_at_call 74;refine (Zm.givesS (c:=YG) (g:=Zr) (t:=36) (ds:=t.facts) (Ye HCF.out) Xe JD.out (vs:=[_]) ⟨Zk5 Xe _ FD.out,trivial⟩).mono ?_;rintro e w6 ⟨v6,rfl,af⟩;obtain ⟨T,L6,a3,a4,a5⟩:=af.ex;have HE6:Hid (w6.ownsV w5.heap.size 36 YG.size v6 t.facts.length T/\YG.reps w6 T t.facts L6/\Own w6 w5.heap.size (v6.ownBlock.toList++L6)):=⟨a3,a4,a5⟩;have W6:Hid (Below w5.heap.size w5 w6):=(Below.refl _ w5).drew.trans af.below;have KT6:=yS (KT5.out.later W6.out);have KF6:=yS (KF5.out.later W6.out);have bn:w6.cell? ⟨gt,0,none⟩=some (.slice A1 tf d1):=KT6.out.at (i:=0) rfl;have bo:w6.cell? ⟨wr.heap.size,0,none⟩=some (.string f.rel):=KF6.out.at (i:=0) rfl;have bp:w6.cell? ⟨wr.heap.size,1,none⟩=some (.slice Af f.args.length cf):=KF6.out.at (i:=1) rfl;clear af a3 a4 a5)|(go_at_call 55;refine (Zm.givesX (c:=YG) (g:=Zr) (x:=f) (Ys HCX.out) Xe (Xu hJ0 HJ.out (WW5.out.trans (W6.out.mono WW5.out.size))) (vs:=[_]) ⟨ZbB Xe (YG.keep HFE.out (Z5 (WW5.out.trans (W6.out.mono WW5.out.size)) (fun y m=>YG.lt HFE.out y m))),trivial⟩).mono ?_;rintro e w7 ⟨cs7,L7,rfl,ag,a6⟩;obtain ⟨A7,c7,M7,b7,b8,t7,n7,m7,s7⟩:=ag.rep;subst b7;have H7:=yS ag;have W7:Hid (Below w6.heap.size w6 w7):=a6;have KT7:=yS (KT6.out.later W7.out);have KF7:=yS (KF6.out.later W7.out);have bq:w7.cell? ⟨gt,0,none⟩=some (.slice A1 tf d1):=KT7.out.at (i:=0) rfl;have br:w7.cell? ⟨wr.heap.size,0,none⟩=some (.string f.rel):=KF7.out.at (i:=0) rfl;have bs:w7.cell? ⟨wr.heap.size,1,none⟩=some (.slice Af f.args.length cf):=KF7.out.at (i:=1) rfl;have bu:∀o,(w7.alloc o).cell? ⟨gt,0,none⟩=some (.slice A1 tf d1):=fun o=>(KT7.out.later ((Below.refl _ w7).alloc (A5 _) o)).at (i:=0) rfl;have bv:∀o,(w7.alloc o).cell? ⟨wr.heap.size,0,none⟩=some (.string f.rel):=fun o=>(KF7.out.later ((Below.refl _ w7).alloc (A5 _) o)).at (i:=0) rfl;have bw:∀o,(w7.alloc o).cell? ⟨wr.heap.size,1,none⟩=some (.slice Af f.args.length cf):=fun o=>(KF7.out.later ((Below.refl _ w7).alloc (A5 _) o)).at (i:=1) rfl;have HO7:Hid (w7.ownsV w5.heap.size 36 YG.size v6 t.facts.length T):=Za4 HE6.out.1 W7.out;have HR7:Hid (YG.reps w7 T t.facts L6):=X7 HE6.out.2.1 (fun y m=>W7.out.block y (HE6.out.2.2.lt y (A6 _ m)));have HW7:Hid (Own w7 w5.heap.size (v6.ownBlock.toList++(L6++L7))):=(by rw [<-AI];exact Own.append (HE6.out.2.2.keep (fun y m=>W7.out.block y (HE6.out.2.2.lt y m))) H7.out.own W6.out.size (fun y m=>HE6.out.2.2.lt y m));have W57:Hid (Below w5.heap.size w5 w7):=W6.out.trans (W7.out.mono W6.out.size);have HVG:Hid (∀y,v6.ownBlock=some y->w5.heap.size<=y):=Zza HO7.out;clear ag a6 b8 t7 n7 m7 s7)|(refine Zib rfl (.tmp 60) (.tmp 63) 44 rfl 36 _ 2 40 underlying44 Zxw rfl yE w5.heap.size v6 t.facts.length T [_,_] rfl rfl HO7.out rfl (by intro u hu;simp only[AG,AJ,or_false]at hu;rcases hu with rfl|rfl<;>rfl) yE yE W57.out.size ?_;intro v8 w8 J a U;obtain ⟨A8,c8,e8,_,_⟩:=Y2 J;subst e8;have H8:Hid (Zge YG 36 w5 (.slice A8 (t.facts.length+1) c8) (t.facts++[f]) w8):=Zge.snocT W57.out HR7.out H7.out.rep HW7.out J a U;have W08:Hid (Below wr.heap.size wr w8):=ZqB (W5.out.trans (W57.out.mono W5.out.size)) a (AB W5.out.size W57.out.size) (fun y hy=>AB W5.out.size (HVG.out y hy));have KT8:Hid (Blk w8 gt 150 #[.slice A1 tf d1,.slice A2 tb d2]):=(a.block _ KT7.out.lt (fun e=>(by have h1:=HVG.out _ e.symm;have h2:=KT5.out.lt;omega))).trans KT7.out;have KF8:Hid (Blk w8 wr.heap.size 36 #[.string f.rel,.slice Af f.args.length cf]):=(a.block _ KF7.out.lt (fun e=>(by have h1:=HVG.out _ e.symm;have h2:=KF5.out.lt;omega))).trans KF7.out;have GB8:Hid (∀y∈Lb,w8.heap[y]?=w5.heap[y]?):=(fun y m=>(a.block y (AO (HGb.out.own.lt y m) W57.out.size) (fun e=>(by have h1:=HVG.out _ e.symm;have h2:=HGb.out.own.lt y m;omega))).trans (W57.out.block y (HGb.out.own.lt y m)));have bx:w8.cell? ⟨gt,0,none⟩=some (.slice A1 tf d1):=KT8.out.at (i:=0) rfl;have bz:w8.cell? ⟨wr.heap.size,0,none⟩=some (.string f.rel):=KF8.out.at (i:=0) rfl;have b0:w8.cell? ⟨wr.heap.size,1,none⟩=some (.slice Af f.args.length cf):=KF8.out.at (i:=1) rfl;have b1:∀o,(w8.alloc o).cell? ⟨gt,0,none⟩=some (.slice A1 tf d1):=fun o=>(KT8.out.later ((Below.refl _ w8).alloc (A5 _) o)).at (i:=0) rfl;have b2:∀o,(w8.alloc o).cell? ⟨wr.heap.size,0,none⟩=some (.string f.rel):=fun o=>(KF8.out.later ((Below.refl _ w8).alloc (A5 _) o)).at (i:=0) rfl;have b3:∀o,(w8.alloc o).cell? ⟨wr.heap.size,1,none⟩=some (.slice Af f.args.length cf):=fun o=>(KF8.out.later ((Below.refl _ w8).alloc (A5 _) o)).at (i:=1) rfl;have HS8:Hid (w.heap.size<=w8.heap.size):=AB BWQ.out.size W08.out.size;clear J a U)|(refine Zib rfl (.tmp 57) (.tmp 67) 138 rfl 150 _ 2 48 underlying138 ZnG rfl yE w.heap.size u8 E.length av [_,_] rfl rfl (Za4 HO9.out W08.out) rfl (by intro u hu;simp only[AG,AJ,or_false]at hu;rcases hu with rfl|rfl<;>rfl) yE yE HS8.out ?_;intro v9 w9 V C X;have KT9:Hid (Blk w9 gt 150 #[.slice A1 tf d1,.slice A2 tb d2]):=(C.block _ KT8.out.lt (fun e=>HI.out.2.2 gt e.symm rfl)).trans KT8.out;have KF9:Hid (Blk w9 wr.heap.size 36 #[.string f.rel,.slice Af f.args.length cf]):=(C.block _ KF8.out.lt (fun e=>(by have:=Zgh HO9.out wr.heap.size (by rw [<-e];simp);omega))).trans KF8.out;have b4:w9.cell? ⟨gt,0,none⟩=some (.slice A1 tf d1):=KT9.out.at (i:=0) rfl;have b5:w9.cell? ⟨wr.heap.size,0,none⟩=some (.string f.rel):=KF9.out.at (i:=0) rfl;have b6:w9.cell? ⟨wr.heap.size,1,none⟩=some (.slice Af f.args.length cf):=KF9.out.at (i:=1) rfl;have H9:Hid (w9.ownsV w.heap.size 150 2 v9 (E.length+1) (av++[.slice A8 (t.facts.length+1) c8,.slice Ab b.length cb])/\w8.grownBy w9 u8.ownBlock/\∀g,v9.ownBlock=some g->u8.ownBlock=some g\/w8.heap.size<=g):=⟨V,C,X⟩;clear V C X))
         go_wp2
         refine ⟨⟨q+1,yE,yG,?_⟩,by simp [intOf];omega⟩
         show Zan _ _ _ _ _ _ _ _ _/\_/\_
         rw [Zvx HFQ.out,<-AI,<-HE.out]
         simp only[hm,Option.map_some,Option.toList_some]
         have HQ8:=HI.out.1.later W08.out
         obtain ⟨L8,ah⟩:=H8.out.got
         have b9:∀y∈L8,w5.heap.size<=y:=ah.own.ge
         have a7:∀y∈Lb,wr.heap.size+1<=y/\y<w5.heap.size:=fun y m=>⟨by have:=HGb.out.own.ge y m;simpa using this,HGb.out.own.lt y m⟩
         have h9:∀y∈u8.ownBlock.toList++Lp9,y<wr.heap.size:=HR9.out.2.1.lt
         have a8:Own w8 w.heap.size (u8.ownBlock.toList++Lp9):=HR9.out.2.1.keep (fun y m=>W08.out.block y (h9 y m))
         have ca:Own w8 wr.heap.size Lb:=(HGb.out.own.keep GB8.out).mono yG
         have ai:=(a8.append ca BWQ.out.size h9).append ah.own (AB BWQ.out.size W5.out.size) (fun y m=>by
          rcases A9.1 m with m|m
          .exact AO (h9 y m) W5.out.size
          .exact (a7 y m).2)
         obtain ⟨Q,cc,cd⟩:=ZeA ah.rep
         obtain ⟨ce,cg,ch⟩:=ZeA ((X4 ZgS).keep HGb.out.rep GB8.out)
         have z:Zb8.rep w8 [.slice A8 (t.facts.length+1) c8,.slice Ab b.length cb] ({ facts:=t.facts++[f],binding:=b }:Zs) (L8++Lb):=⟨A8,c8,L8,Ab,cb,Lb,yG,rfl,Q,cc,cd,ce,cg,ch⟩
         refine ⟨HQ8.add (A5 j) (X7 HR9.out.1 (fun y m=>W08.out.block y (h9 y (A6 _ m)))) HR9.out.2.2 z (ai.permT ?_) (fun y m=>.inr ?_) H9.out.1 H9.out.2.1 H9.out.2.2,KT9.out,fun y hy e=>?_⟩
         .rw [AI,AI]
          exact List.Perm.append_left _ (List.Perm.append_left _ List.perm_append_comm)
         .have I:w1.heap.size<=wr.heap.size:=HI.out.1.below.size
          rcases A9.1 m with m|m
          .exact AB I (AB W5.out.size (b9 y m))
          .have:=(a7 y m).1
           omega
         .rcases H9.out.2.2 y hy with h|h
          .exact HI.out.2.2 y h e
          .have h1:=HGT.out
           have h2:=W08.out.size
           omega
       .have ci:q=m:=by omega
        go_wp2
        refine ⟨⟨j+1,yE,yG,?_⟩,by simp [intOf];omega⟩
        show Zan _ _ _ _ _ _ _ _ _
        have h:=HI.out.1.skip (AK j)
        rw [ci,AU (by have:=HM.out;omega)]at h
        rw [Zky HT.out,<-HD.out]
        have e:X1 x F t=F.filterMap fun f=>(Xh x.pattern f t.binding).map fun b=>({ facts:=t.facts++[f],binding:=b }:Zs):=by unfold X1;rw [if_pos HK1.out]
        rw [e]
        exact h
     .go_wp2_with fail
      refine (Zm.givesB (Znj (Zhd x t.binding F (by have:=HF24.out;omega) (fun f mf=>by have:=HA.out f mf;omega))) (Xu hJ0 HJ.out (B3.out _)) (vs:=[_,_,_]) ⟨ZbB ZvH (Zr5.keep HXR.out (Z5 (B3.out _) (fun y m=>Zr5.lt HXR.out y m))),?_,Zk5 Xe _ ((X4 YG).keep HB.out (Z5 (B3.out _) (fun y m=>(X4 YG).lt HB.out y m))),trivial⟩).mono ?_
      .exact Zk5 Zd4 _ (HBR.out _)
      rintro e w4 ⟨rfl,aj⟩
      have K2:Hid (Blk w4 wr.heap.size 150 #[.slice A1 tf d1,.slice A2 tb d2]):=Blk.later (Blk.new _ _ _) aj
      have HQ4:=yS ((HQ.out.later ((Below.refl _ wr).alloc (A5 _) _)).later aj)
      have p0:w4.cell? ⟨wr.heap.size,0,none⟩=some (.slice A1 tf d1):=K2.out.at (i:=0) rfl
      have p1:w4.cell? ⟨wr.heap.size,1,none⟩=some (.slice A2 tb d2):=K2.out.at (i:=1) rfl
      have HTR4:Hid (Zb8.rep w4 [.slice A1 tf d1,.slice A2 tb d2] t l1):=Zb8.keep HTR.out (fun y m=>(HQ4.out.below.block y (HOA.out.lt y (ac.out y m))))
      obtain ⟨⟨xs,Lp,ho,hr,hO,a9⟩,ba,bb⟩:=HQ4.out
      have HO:=yS ho
      have HRS:=yS (And.intro hr (And.intro hO a9))
      have HVO:Hid (∀g,u8.ownBlock=some g->w1.heap.size<=g):=ba
      have HBQ:=yS bb
      have hds:((ts.take j).flatMap (X1 x F)).length<=7962624:=HLE.out
      have cj:Hid (w.heap.size<=w4.heap.size):=AB BW1.out.size HBQ.out.size
      clear aj ho hr hO a9 ba bb k0 k1 k2 k3 k4 r0 r1
      cases hh:ZiK x t.binding F with
      |true=>
       have HH:Hid (X1 x F t=[t]):=by show _=_;unfold X1;rw [if_neg ab,if_pos hh]
       clear hh
       go_wp2_with (at_builtin;(refine Zhg rfl (.tmp 37) (.tmp 39) 138 rfl 150 _ 2 48 underlying138 ZnG rfl yE w.heap.size u8 ((ts.take j).flatMap (X1 x F)).length xs [_,_] rfl rfl HO.out rfl (by intro u hu;simp only[AG,AJ,or_false]at hu;rcases hu with rfl|rfl<;>rfl) yE yE cj.out ?_);intro v' w' bd ak be)
       refine ⟨⟨j+1,yE,yG,?_⟩,by simp [intOf];omega⟩
       show Zan _ _ _ _ _ _ _ _ _
       rw [Zky HT.out,HH.out]
       exact HQ4.out.add (AK j) HRS.out.1 HRS.out.2.2 HTR4.out (Zan.taken HOA.out HP.out.sub HL1.out HBQ.out HRS.out.2.1 HRS.out.2.2 HVO.out) (fun y m=>.inl (by rw [Xw HL1.out];exact A6 _ m)) bd ak be
      |false=>
       have HH:Hid (X1 x F t=[]):=by show _=_;unfold X1;rw [if_neg ab,if_neg (by simp [hh])]
       clear hh
       go_wp2
       refine ⟨⟨j+1,yE,yG,?_⟩,by simp [intOf];omega⟩
       show Zan _ _ _ _ _ _ _ _ _
       rw [Zky HT.out,HH.out,AT]
       exact HQ4.out.skip (AK j)
    .have ck:j=nt:=by omega
     go_wp2
     refine ⟨⟨k+1,yE,yG,?_⟩,by simp [intOf];omega⟩
     show Zge _ _ _ _ _ _
     rw [Zyv HX.out,HTS.out]
     have h:=HQ.out.done BW1.out
     rw [ck,AU (by have:=HNT.out;omega)]at h
     exact h
  .have cm:k=n:=by omega
   go_wp2
   go_ret
   refine ⟨_,rfl,?_⟩
   have h:=HV.out
   rw [cm,AU (by have:=HN.out;omega)]at h
   exact h
end
section
open Go.RowKit
open Classical
theorem ZcU:(prog.info? 98).map (fun i=>(i.zero,i.size,i.bytes))=some (some (.agg #[.string ⟨#[]⟩,.slice none 0 0,.int .i64 0]),3,48):=yO
def csE (e:Zu):List (Bool×CT):=[(false,.sl 86 4 (A0 Zx e.rules)),(false,.sl 98 3 (A0 Z4 e.memory)),(false,.int .i64 e.clock),(false,.sl 81 2 (A0 Z9 e.fired)),(false,.bool e.halted),(false,.sl 38 4 (A0 Yx e.log))]
theorem Zqr {w w':World}{B:Nat}{n m:Nat->Prop}{t k:Nat}{xs:List (List CT)}{v:Value}{F:List Nat}(h:OC w B n (false,.sl t k xs) v F) (hk:∀x∈F,w'.heap[x]?=w.heap[x]?) (hm:∀x∈F,n x->m x):OC w' B m (false,.sl t k xs) v F:=by
 obtain ⟨h1,cs,L,h2,h3,rfl,h4⟩:=h
 exact ⟨h1,cs,L,XT h2 fun b mb=>hk b (AL _ mb),h3.keep fun b mb=>hk b (A6 _ mb),rfl,fun b mb=>hm b (AL _ mb) (h4 b mb)⟩
theorem Zpr {w:World}{n:Nat->Prop}{e:Zu}{us:List Value}{F:List Nat}(h:OCs w 0 n (csE e) us F):∃u0 u1 u3 u5 F0 F1 F3 F5,us=[u0,u1,.int .i64 e.clock,u3,.bool e.halted,u5]/\F=F0++(F1++(F3++F5))/\OC w 0 n (false,.sl 86 4 (A0 Zx e.rules)) u0 F0/\OC w 0 n (false,.sl 98 3 (A0 Z4 e.memory)) u1 F1/\OC w 0 n (false,.sl 81 2 (A0 Z9 e.fired)) u3 F3/\OC w 0 n (false,.sl 38 4 (A0 Yx e.log)) u5 F5:=by
 obtain ⟨u0,r0,F0,G0,rfl,rfl,h0,u1,r1,F1,G1,rfl,rfl,h1,u2,r2,F2,G2,rfl,rfl,h2,u3,r3,F3,G3,rfl,rfl,h3,u4,r4,F4,G4,rfl,rfl,h4,u5,r5,F5,G5,rfl,rfl,h5,rfl,rfl⟩:=h
 obtain ⟨⟨rfl,_⟩,rfl⟩:=h2
 obtain ⟨⟨rfl,_⟩,rfl⟩:=h4
 exact ⟨u0,u1,u3,u5,F0,F1,F3,F5,rfl,yG,h0,h1,h3,h5⟩
theorem Zy9 {w:World}{n:Nat->Prop}{e:Zu}{u0 u1 u3 u5:Value}{F0 F1 F3 F5:List Nat}(h0:OC w 0 n (false,.sl 86 4 (A0 Zx e.rules)) u0 F0) (h1:OC w 0 n (false,.sl 98 3 (A0 Z4 e.memory)) u1 F1) (h3:OC w 0 n (false,.sl 81 2 (A0 Z9 e.fired)) u3 F3) (h5:OC w 0 n (false,.sl 38 4 (A0 Yx e.log)) u5 F5):OCs w 0 n (csE e) [u0,u1,.int .i64 e.clock,u3,.bool e.halted,u5] (F0++(F1++(F3++F5))):=
 ⟨u0,_,F0,_,rfl,rfl,h0,u1,_,F1,_,rfl,rfl,h1,_,_,[],_,rfl,rfl,⟨⟨rfl,rfl⟩,rfl⟩,u3,_,F3,_,rfl,rfl,h3,_,_,[],_,rfl,rfl,⟨⟨rfl,rfl⟩,rfl⟩,u5,[],F5,[],rfl,yG,h5,rfl,rfl⟩
theorem ZxD {A B C M:List Nat}{S:Nat}(h:(A++(B++C)).Nodup) (hM:M.Nodup) (hm:∀y∈M,y∈B\/S<=y) (b:∀y∈A++(B++C),y<S):(A++(M++C)).Nodup:=by
 obtain ⟨hA,d,h1⟩:=AH.1 h
 obtain ⟨hB,hC,h2⟩:=AH.1 d
 refine AH.2 ⟨hA,AH.2 ⟨hM,hC,fun a ma c mc e=>?_⟩,fun a ma c mc e=>?_⟩
 .subst e
  rcases hm a ma with m|m
  .exact h2 a m a mc rfl
  .have:=b a (by simp [mc]);omega
 .subst e
  rcases A9.1 mc with m|m
  .rcases hm a m with m|m
   .exact h1 a ma a (by simp [m]) rfl
   .have:=b a (by simp [ma]);omega
  .exact h1 a ma a (by simp [m]) rfl
theorem Zti {w ws:World}{z q:Nat->Prop}{b:Nat}{e:Zu}{u0 u3 u5 v:Value}{F0 F1 F3 F5:List Nat}{m:List Zv}{ck:Int}{xs:List Value}{Lp Lf:List Nat}{Af:Option Addr}{cf:Nat}{f:Zg}{i:Int}{rule:ByteArray}{r:Zu}
  (hj:J0 w) (j:q b) (G:∀x,q x->JF0 x/\x∈b::(F0++(F1++(F3++F5)))) (hz:∀x,z x->x<w.heap.size/\¬q x/\x∉b::(F0++(F1++(F3++F5)))) (c:Own w 0 (b::(F0++(F1++(F3++F5)))))
  (c0:OC w 0 (fun x=>z x\/q x) (false,.sl 86 4 (A0 Zx e.rules)) u0 F0) (c3:OC w 0 (fun x=>z x\/q x) (false,.sl 81 2 (A0 Z9 e.fired)) u3 F3) (c5:OC w 0 (fun x=>z x\/q x) (false,.sl 38 4 (A0 Yx e.log)) u5 F5)
  (hf:YG.rep w [.string f.rel,.slice Af f.args.length cf] f Lf) (p:∀x∈Lf,¬(z x\/q x)) (L:rule.size<=9223372036854775807)
  (hB:ZuW (fun x=>x=b) w ws) (H:ws.heap[b]?=some (.cells #[u0,v,.int .i64 ck,u3,.bool e.halted,u5] 31 (0,0)))
  (I:ws.ownsV 0 98 3 v m.length xs) (t:Zap.reps ws xs m Lp) (hO:Own ws 0 (v.ownBlock.toList++Lp)) (N:∀y∈Lp,y∈F1\/w.heap.size<=y) (u:∀g,v.ownBlock=some g->w.heap.size<=g)
  (h:YJ ({ rules:=e.rules,memory:=m,clock:=ck,fired:=e.fired,halted:=e.halted,log:=e.log }:Zu) i rule f=some r):
  Calls prog 33 #[.pointer (some ⟨b,0,none⟩),.int .i64 i,.string rule,.agg #[.string f.rel,.slice Af f.args.length cf]] ws fun ed w'=>ed=.returned (.tuple #[])/\∃n D F',(∀x,z x->n x)/\n b/\(∀x,n x->z x\/q x\/w.heap.size<=x)/\Zpm w' n 31 (csE r) (.pointer (some ⟨b,0,none⟩)) b D [] F'/\(∀x∈F',x∈F0++(F1++(F3++F5))\/w.heap.size<=x)/\ZuW q w w':=by
 have E:=c.lt
 have J:b∉F0++(F1++(F3++F5)):=(Aa.1 c.nodup).1
 have hM:∀y∈v.ownBlock.toList++Lp,y∈F1\/w.heap.size<=y:=fun y my=>by
  rcases A9.1 my with my|my
  .exact .inr (u y (by simpa using my))
  .exact N y my
 have a:∀x,x<w.heap.size->x≠b->ws.heap[x]?=w.heap[x]?:=fun x h1 h2=>hB.block x h1 h2
 have K:∀x∈F0++((v.ownBlock.toList++Lp)++(F3++F5)),x∈F0++(F1++(F3++F5))\/w.heap.size<=x:=fun x mx=>by
  rcases A9.1 mx with mx|mx
  .exact .inl (by simp [mx])
  rcases A9.1 mx with mx|mx
  .rcases hM x mx with h|h
   .exact .inl (by simp [h])
   .exact .inr h
  .exact .inl (A6 _ (A6 _ mx))
 have k:∀x∈F0,x<w.heap.size/\x≠b:=fun x mx=>⟨E x (by simp [mx]),fun e=>J (by rw [<-e];simp [mx])⟩
 have d:∀x∈F3++F5,x<w.heap.size/\x≠b:=fun x mx=>⟨E x (AW _ (A6 _ (A6 _ mx))),fun e=>J (by rw [<-e];exact A6 _ (A6 _ mx))⟩
 let q1:Nat->Prop:=fun x=>(q x/\x∈b::(F0++((v.ownBlock.toList++Lp)++(F3++F5))))\/v.ownBlock=some x
 have hn:∀x∈F0++(F3++F5),(z x\/q x)->(z x\/q1 x):=fun x mx h=>by
  rcases h with h|h
  .exact .inl h
  .refine .inr (.inl ⟨h,AW _ ?_⟩)
   rcases A9.1 mx with mx|mx
   .exact AL _ mx
   .exact A6 _ (A6 _ mx)
 have O:J0 ws:=hJ0.below (fun x=>x=b) w ws hj (fun x hx=>hx ▸ (G b j).1) hB.os hB.tape hB.output hB.size hB.block
 have P:OCs ws 0 (fun x=>z x\/q1 x) (csE { rules:=e.rules,memory:=m,clock:=ck,fired:=e.fired,halted:=e.halted,log:=e.log }) [u0,v,.int .i64 ck,u3,.bool e.halted,u5] (F0++((v.ownBlock.toList++Lp)++(F3++F5))):=
  Zy9 (e:={ rules:=e.rules,memory:=m,clock:=ck,fired:=e.fired,halted:=e.halted,log:=e.log }) (Zqr c0 (fun x mx=>a x (k x mx).1 (k x mx).2) fun x mx=>hn x (AL _ mx))
   ⟨yF,xs,Lp,by rw [AA];exact I,ZsK.reps t,rfl,fun x mx=>.inr (.inr (by simpa using mx))⟩
   (Zqr c3 (fun x mx=>a x (d x (AL _ mx)).1 (d x (AL _ mx)).2) fun x mx=>hn x (by simp [mx]))
   (Zqr c5 (fun x mx=>a x (d x (A6 _ mx)).1 (d x (A6 _ mx)).2) fun x mx=>hn x (by simp [mx]))
 have F:Own ws 0 (b::(F0++((v.ownBlock.toList++Lp)++(F3++F5)))):=by
  refine ⟨?_,fun _ _=>AC _,fun x mx=>?_⟩
  .have:=ZxD (A:=b::F0) (B:=F1) (C:=F3++F5) (M:=v.ownBlock.toList++Lp) (S:=w.heap.size) c.nodup hO.nodup hM E
   exact this
  .rcases AG.1 mx with rfl|mx
   .exact ⟨_,_,H⟩
   rcases A9.1 mx with mx|mx
   .rw [a x (k x mx).1 (k x mx).2];exact c.plain x (by simp [mx])
   rcases A9.1 mx with mx|mx
   .exact hO.plain x mx
   .rw [a x (d x mx).1 (d x mx).2];exact c.plain x (AW _ (A6 _ (A6 _ mx)))
 have Q:∀x,v.ownBlock=some x->x∈b::(F0++((v.ownBlock.toList++Lp)++(F3++F5))):=fun x hx=>by rw [hx];simp
 have l:∀x,q1 x->q x\/w.heap.size<=x:=fun x hx=>hx.elim (fun h=>.inl h.1) fun h=>.inr (u x h)
 refine ((Zcs h).2 ws z q1 (.pointer (some ⟨b,0,none⟩)) [] [.int .i64 i,.string rule,.agg #[.string f.rel,.slice Af f.args.length cf]] b [u0,v,.int .i64 ck,u3,.bool e.halted,u5] [] _ O (.inl ⟨j,yG⟩) (fun x hx=>?_) (fun x hx=>?_) rfl ⟨rfl,rfl⟩ ⟨rfl,H,by simpa [gvC,csE]using P,F⟩ ?_).mono ?_
 .rcases hx with hx|hx
  .exact ⟨(G x hx.1).1,hx.2⟩
  .exact ⟨hJ0.new w x hj (u x hx),Q x hx⟩
 .obtain ⟨z1,z2,z3⟩:=hz x hx
  refine ⟨AO z1 hB.size,fun h=>(l x h).elim z2 fun h=>by omega,fun h=>?_⟩
  rcases AG.1 h with h|h
  .exact z3 (by simp [h])
  .rcases K x h with h|h
   .exact z3 (AW _ h)
   .omega
 .have o:∀x∈Lf,x<w.heap.size:=fun x mx=>YG.lt hf x mx
  refine ⟨.inr ⟨rfl,_,[],rfl,⟨rfl,rfl⟩,fun _ h=>absurd h yG⟩,.inr ⟨rfl,_,[],rfl,⟨rfl,rfl,L⟩,fun _ h=>absurd h yG⟩,.inl ⟨rfl,[_,_],Lf,rfl,Xe.to (YG.keep hf fun x mx=>a x (o x mx) fun e=>p x mx (.inr (e ▸ j))),fun x mx h=>?_⟩,trivial⟩
  rcases h with h|h
  .exact p x mx (.inl h)
  .rcases l x h with h|h
   .exact p x mx (.inr h)
   .have:=o x mx;omega
 .rintro ed w' ⟨rv,n,D,F',rfl,⟨rs,RF,⟨rfl,rfl⟩,_,R⟩,k1,k2,k3,k4,k5,k6⟩
  subst R
  refine ⟨rfl,n,D,F',k1,k2,fun x hx=>?_,k4,fun x hx=>?_,⟨k6.os.trans hB.os,k6.tape.trans hB.tape,k6.output.trans hB.output,AB hB.size k6.size,fun x hx hq=>?_⟩⟩
  .rcases k3 x hx with h|h|h
   .exact .inl h
   .exact .inr (l x h)
   .exact .inr (.inr (AB hB.size h))
  .rcases k5 x hx with h|h
   .rcases A9.1 h with h|h
    .exact .inl (by simp [h])
    rcases A9.1 h with h|h
    .rcases hM x h with h|h
     .exact .inl (by simp [h])
     .exact .inr h
    .exact .inl (A6 _ (A6 _ h))
   .exact .inr (AB hB.size h)
  .rw [k6.block x (AO hx hB.size) fun h=>(l x h).elim hq fun h=>by omega]
   exact hB.block x hx fun e=>hq (e ▸ j)
theorem ZCs {w:World}{z:Nat->Prop}{f:Zg}{k:Int}{r:ByteArray}{vs:List Value}(h:ZI (ZhY w z) [(true,Zr f),(false,[.int .i64 k]),(false,[.str r])] vs):∃Af cf Lf,vs=[.agg #[.string f.rel,.slice Af f.args.length cf],.int .i64 k,.string r]/\YG.rep w [.string f.rel,.slice Af f.args.length cf] f Lf/\(∀x∈Lf,¬z x)/\r.size<=9223372036854775807:=by
 match vs,h with
 | [v1,v2,v3],⟨h1,h2,h3,_⟩=>
  rcases h1 with ⟨_,cs,Lf,rfl,hr,hz⟩|⟨hf,_⟩
  .have hr:=Xe.of hr
   obtain ⟨A1,c1,L1,e1,e2,t0,n1,m1,s1⟩:=id hr
   subst e1
   rcases h2 with ⟨hf,_⟩|⟨_,ct,L,e,hc,_⟩
   .simp at hf
   obtain rfl:CT.int .i64 k=ct:=by simpa using e
   obtain ⟨rfl,_⟩:=hc
   rcases h3 with ⟨hf,_⟩|⟨_,ct,L,e,hc,_⟩
   .simp at hf
   obtain rfl:CT.str r=ct:=by simpa using e
   obtain ⟨rfl,_,a⟩:=hc
   exact ⟨A1,c1,Lf,rfl,hr,hz,a⟩
  .simp at hf
theorem ZpP {w:World}{n:Nat->Prop}{M:List Zv}{u:Value}{F:List Nat}(h:OC w 0 n (false,.sl 98 3 (A0 Z4 M)) u F):∃A c css Ls,u=.slice A M.length c/\ZyE Zap w A M F css Ls:=by
 obtain ⟨_,cs,L,a,f,rfl,_⟩:=h
 rw [AA]at a
 obtain ⟨A,c,rfl,_,_⟩:=Y2 a
 obtain ⟨L0,j,k,g⟩:=Sl.of_ownV a
 have hS:Sli Zap w A M (L0++L):=⟨cs,L0,L,rfl,j,ZsK.reps_of f⟩
 obtain ⟨css,Ls,hP⟩:=hS.parts
 have d:(L0++L).Sublist ((Value.slice A M.length c).ownBlock.toList++L):=by
  refine List.Sublist.append ?_ (Ag _)
  cases L0 with
  |nil=>exact List.nil_sublist _
  |cons y L0=>
   obtain ⟨o,rfl⟩:=g y yG
   cases L0 with
   |nil=>exact Ag _
   |cons y' L0=>
    obtain ⟨o',e⟩:=g y' yG
    have l:=k.nodup
    simp at e
    simp [e.1]at l
 exact ⟨A,c,css,Ls,rfl,hP.cl,hP.ll,hP.el,hP.sub.trans d,fun i c1 hc=>by
  obtain ⟨b,off,h1,h2,h3⟩:=hP.at_ i c1 hc
  exact ⟨b,off,h1,d.subset h2,h3⟩⟩
noncomputable def Zhj (f:Zg) (x:Zv):Bool:=!decide (Xi x.fact f=some true)
theorem ZHp {c:Zu}{a:Zg}{j:Int}{l:ByteArray}{r:Zu}(h:Xn c a j l=some r):ZdQ prog J0 JF0 30 31 (csE c) none [(true,Zr a),(false,[.int .i64 j]),(false,[.str l])] [] (csE r):=by
 unfold Xn at h
 split at h
 rotate_left
 .cases h
 rename_i hc
 refine ⟨⟨f30,func30,yO,yO⟩,fun w z q v0 gs vs b us us2 F hj S U hz ai aj ak D=>?_⟩
 obtain ⟨rfl,rfl⟩:=aj
 obtain ⟨rfl,V,J,f⟩:=ak
 obtain ⟨u0,u1,u3,u5,F0,F1,F3,F5,al,rfl,c0,c1,c3,c5⟩:=Zpr (e:=c) (by simpa [gvC]using J)
 subst al
 clear J ai
 obtain ⟨Af,cf,Lf,rfl,hf,W,X⟩:=ZCs D
 clear D
 obtain ⟨AM,cM,css,Ls,rfl,hP⟩:=ZpP c1
 clear c1
 have HTail:=yS (And.intro U (And.intro hz (And.intro c0 (And.intro c3 c5))))
 have HQB:=yS S
 have HOW:=yS f
 have HJ:=yS hj
 have HF:=yS hf
 have HFZ:=yS W
 have HRU:=yS X
 have HP:=yS hP
 have HW:=yS h
 obtain ⟨Y,am⟩:=hc
 obtain ⟨n,hn⟩:∃n,c.memory.length=n:=⟨_,rfl⟩
 obtain ⟨nf,E⟩:∃n,a.args.length=n:=⟨_,rfl⟩
 have HN:Hid (c.memory.length=n):=hn
 have HNF:Hid (a.args.length=nf):=E
 have hbl:b<w.heap.size:=f.lt b yG
 have HLF:Hid (∀x∈Lf,x<w.heap.size):=fun x mx=>YG.lt hf x mx
 have Z:Own w 0 F1:=f.sub ((AY _ _).trans ((AP _ _).trans (Ah _ _)))
 have HO1:=yS Z
 have HBX:Hid (Blk w b 31 #[u0,.slice AM n cM,.int .i64 c.clock,u3,.bool c.halted,u5]):=by rw [<-hn];exact V
 rw [hn]at Y
 rw [E]at am
 show Calls prog 30 #[.pointer (some ⟨b,0,none⟩),.agg #[.string a.rel,.slice Af a.args.length cf],.int .i64 j,.string l] w _
 rw [E]
 clear hj hf W X hP h f V hz U c0 c3 c5 Z S hn E
 have HB1:Hid (Below w.heap.size w (w.alloc (.cells #[.string a.rel,.slice Af nf cf] 36))):=(Below.refl _ w).alloc (A5 _) _
 have HX1:=HBX.out.later HB1.out
 have HK1:Blk (w.alloc (.cells #[.string a.rel,.slice Af nf cf] 36)) w.heap.size 36 #[.string a.rel,.slice Af nf cf]:=Blk.new _ _ _
 go_enter func30,ntmps30
 obtain ⟨w0,L⟩:∃w0,w0=w.alloc (.cells #[.string a.rel,.slice Af nf cf] 36):=⟨_,rfl⟩
 have m1:=HX1.at (i:=1) rfl
 go_wp2
 rw [<-L]at HB1 HX1 HK1 m1
 have HX:=yS HX1
 have HK:=yS HK1
 have HJ0:Hid (J0 w0):=Xu hJ0 HJ.out HB1.out
 have HSW:Hid (w0.heap.size=w.heap.size+1):=by show _=_;rw [L];simp
 have HO0:Hid (Own w0 0 F1):=HO1.out.keep (Z5 HB1.out HO1.out.lt)
 clear HX1 HK1 m1
 go_loopw [8,10,16] (fun v q i wr=>∃k:Nat,k<=n/\i=.int .i64 k/\Hid (Zan Zap 98 0 w0 Ls k ((c.memory.take k).filter (Zhj a)) v wr)) (fun _ _ i _=>n - (intOf i).toNat)
 case atStart=>exact ⟨0,AC _,rfl,by rw [<-L];exact Zan.start⟩
 case round=>
  obtain ⟨k,hk,rfl,HI⟩:=hrel
  have HBW:Hid (Below w.heap.size w wr):=HB1.out.trans (HI.out.below.mono (by have:=HSW.out;omega))
  have HKr:=yS (HK.out.later HI.out.below)
  have HXr:=yS (HX.out.later HI.out.below)
  have HJr:Hid (J0 wr):=Xu hJ0 HJ.out HBW.out
  by_cases hlt:k<n
  .obtain ⟨x,hx⟩:∃x,c.memory[k]?=some x:=⟨_,AF (by have:=HN.out;omega)⟩
   obtain ⟨c1,M⟩:∃c1,css[k]?=some c1:=⟨_,AF (by have:=HP.out.cl;have:=HN.out;omega)⟩
   obtain ⟨l1,N⟩:∃l1,Ls[k]?=some l1:=⟨_,AF (by have:=HP.out.ll;have:=HN.out;omega)⟩
   obtain ⟨bM,off,rfl,an,G⟩:=HP.out.at_ k c1 M
   have HR:=yS (HP.out.el k x c1 l1 hx M N)
   have HL1:=yS N
   have HXE:=yS hx
   obtain ⟨A1,t,L1,e1,e2,t0,n1,m1,s1⟩:=HR.out
   subst e1
   have HSL:Hid (∀y∈l1,y<w.heap.size):=fun y my=>Zap.lt HR.out y my
   have HXF:Hid (YG.rep w [.string x.fact.rel,.slice A1 x.fact.args.length t] x.fact l1):=⟨A1,t,L1,rfl,e2,t0,n1,m1,s1⟩
   have C:∀p:Addr,p.block=bM->wr.cell? p=w.cell? p:=fun p hp=>World.cell?_of_block (by rw [hp];exact HBW.out.block bM (HO1.out.lt bM an))
   have q0:wr.cell? ⟨bM,off+k*3,none⟩=_:=(C ⟨bM,off+(k*3+0),none⟩ rfl).trans (G 0 _ rfl)
   have q1:wr.cell? ⟨bM,off+k*3+1,none⟩=_:=(C ⟨bM,off+(k*3+1),none⟩ rfl).trans (G 1 _ rfl)
   have q2:wr.cell? ⟨bM,off+k*3+2,none⟩=_:=(C ⟨bM,off+(k*3+2),none⟩ rfl).trans (G 2 _ rfl)
   have f0:∀o,(wr.alloc o).cell? ⟨w.heap.size,0,none⟩=some (.string a.rel):=fun o=>(HKr.out.alloc o).at (i:=0) rfl
   have f1:∀o,(wr.alloc o).cell? ⟨w.heap.size,1,none⟩=some (.slice Af nf cf):=fun o=>(HKr.out.alloc o).at (i:=1) rfl
   have BA:Hid (Below wr.heap.size wr (wr.alloc (.cells #[.string x.fact.rel,.slice A1 x.fact.args.length t,.int .i64 x.time] 98))):=(Below.refl _ wr).alloc (A5 _) _
   have BWA:Hid (Below w.heap.size w (wr.alloc (.cells #[.string x.fact.rel,.slice A1 x.fact.args.length t,.int .i64 x.time] 98))):=HBW.out.trans (BA.out.mono HBW.out.size)
   obtain ⟨d,hd⟩:∃d,decide (x.fact=a)=d:=⟨_,rfl⟩
   have HKD:Hid (Zhj a x=!d):=by show _=_;unfold Zhj;rw [YS,hd];simp
   have HCA:Hid (Calls prog 63 #[.agg #[.string x.fact.rel,.slice A1 x.fact.args.length t],.agg #[.string a.rel,.slice Af nf cf]] (wr.alloc (.cells #[.string x.fact.rel,.slice A1 x.fact.args.length t,.int .i64 x.time] 98)) fun e w2=>e=.returned (.bool d)/\Below (wr.alloc (.cells #[.string x.fact.rel,.slice A1 x.fact.args.length t,.int .i64 x.time] 98)).heap.size (wr.alloc (.cells #[.string x.fact.rel,.slice A1 x.fact.args.length t,.int .i64 x.time] 98)) w2):=by
    rw [<-hd,<-HNF.out]
    exact Zm.givesB (Zbq (YS x.fact a)) (Xu hJ0 HJ.out BWA.out) (vs:=[_,_]) ⟨ZbB Xe (YG.keep HXF.out (Z5 BWA.out HSL.out)),ZbB Xe (YG.keep HF.out (Z5 BWA.out HLF.out)),trivial⟩
   clear G C hd N hx M
   go_wp2_with fail
   refine HCA.out.mono ?_
   rintro e w2 ⟨rfl,H⟩
   have HI2:=yS ((HI.out.later BA.out).later H)
   have K2:Hid (Blk w2 wr.heap.size 98 #[.string x.fact.rel,.slice A1 x.fact.args.length t,.int .i64 x.time]):=Blk.later (Blk.new _ _ _) H
   have HB2:Hid (Below w.heap.size w w2):=BWA.out.trans (H.mono BWA.out.size)
   clear HCA H q0 q1 q2 f0 f1
   cases d with
   |false=>
    have p0:=K2.out.at (i:=0) rfl
    have p1:=K2.out.at (i:=1) rfl
    have p2:=K2.out.at (i:=2) rfl
    obtain ⟨⟨xs,Lp,ho,hr,hO,aa⟩,ab,ac⟩:=HI2.out
    have HO:=yS ho
    have HRs:=yS (And.intro hr (And.intro hO aa))
    have HVO:Hid (∀g,u8.ownBlock=some g->w0.heap.size<=g):=ab
    have HBQ:=yS ac
    have hpl:((c.memory.take k).filter (Zhj a)).length<=k:=AB (List.length_filter_le _ _) (by simp;omega)
    clear ho hr hO aa ab ac
    go_wp2_with (at_builtin;(refine Zhg rfl (.tmp 25) (.tmp 27) 28 rfl 98 _ 3 48 underlying28 ZcU rfl yE 0 u8 ((c.memory.take k).filter (Zhj a)).length xs [_,_,_] rfl rfl HO.out rfl (by intro u hu;simp only[AG,AJ,or_false]at hu;rcases hu with rfl|rfl|rfl<;>rfl) yE yE (AC _) ?_);intro v' w' f O ad)
    refine ⟨⟨k+1,yE,yG,?_⟩,by simp [intOf];omega⟩
    show Zan _ _ _ _ _ _ _ _ _
    rw [Zf2 HXE.out,HKD.out]
    exact HI2.out.add (AK k) HRs.out.1 HRs.out.2.2 (Zap.keep HR.out (Z5 HB2.out HSL.out)) (Zan.taken HO0.out HP.out.sub HL1.out HBQ.out HRs.out.2.1 HRs.out.2.2 HVO.out) (fun y m=>.inl (by rw [Xw HL1.out];exact A6 _ m)) f O ad
   |true=>
    go_wp2
    refine ⟨⟨k+1,yE,yG,?_⟩,by simp [intOf];omega⟩
    show Zan _ _ _ _ _ _ _ _ _
    rw [Zf2 HXE.out,HKD.out]
    simpa using HI2.out.skip (AK k)
  .obtain rfl:k=n:=by omega
   have HI':Hid (Zan Zap 98 0 w0 Ls k (c.memory.filter (Zhj a)) u8 wr):=by
    have:=HI.out
    rw [AU (by have:=HN.out;omega)]at this
    exact this
   have fz:=HXr.out.frozen 1
   have m1:=HXr.out.at (i:=1) rfl
   have ae:w.heap.size≠b:=by omega
   have g0:∀u,(wr.setCell ⟨b,1,none⟩ u).cell? ⟨w.heap.size,0,none⟩=some (.string a.rel):=fun u=>(HKr.out.far (p:=⟨b,1,none⟩) ae u).at (i:=0) rfl
   have g1:∀u,(wr.setCell ⟨b,1,none⟩ u).cell? ⟨w.heap.size,1,none⟩=some (.slice Af nf cf):=fun u=>(HKr.out.far (p:=⟨b,1,none⟩) ae u).at (i:=1) rfl
   obtain ⟨xs8,Lp8,P,af,ag,K⟩:=HI'.out.row
   obtain ⟨A8,c8,e8,_,_⟩:=Y2 P
   subst e8
   have HO8:=yS P
   have HR8:=yS (And.intro af (And.intro ag K))
   clear HI P af ag K
   have ah:b∉F0++(F1++(F3++F5)):=(Aa.1 HOW.out.nodup).1
   have B:∀y∈Lp8,y∈F1\/w.heap.size<=y:=fun y my=>(HR8.out.2.2 y my).imp (fun h=>(HP.out.sub.subset ((Zg4 _).subset h))) fun h=>by have:=HSW.out;omega
   have Q:∀g,(Value.slice A8 (c.memory.filter (Zhj a)).length c8).ownBlock=some g->w.heap.size<=g:=fun g hg=>by have:=HI'.out.own g hg;have:=HSW.out;omega
   have I:∀y∈(Value.slice A8 (c.memory.filter (Zhj a)).length c8).ownBlock.toList++Lp8,y≠b:=fun y my e=>by
    rcases A9.1 my with m|m
    .have:=Q y (by simpa using m);omega
    .rcases B y m with h|h
     .exact ah (by rw [<-e];simp [h])
     .omega
   have A:∀y,y≠b->(wr.setCell ⟨b,1,none⟩ (.slice A8 (c.memory.filter (Zhj a)).length c8)).heap[y]?=wr.heap[y]?:=fun y hy=>Below.heap_setCell _ _ _ _ hy
   have T:=Zti (ws:=wr.setCell ⟨b,1,none⟩ (.slice A8 (c.memory.filter (Zhj a)).length c8)) (F1:=F1) HJ.out HQB.out HTail.out.1 HTail.out.2.1 HOW.out HTail.out.2.2.1 HTail.out.2.2.2.1 HTail.out.2.2.2.2 HF.out HFZ.out HRU.out
    ⟨HBW.out.os,HBW.out.tape,HBW.out.output,by simpa [World.setCell]using HBW.out.size,fun y hy hn=>(A y hn).trans (HBW.out.block y hy)⟩
    (by have:=HXr.out.set_ 1 (.slice A8 (c.memory.filter (Zhj a)).length c8);exact this)
    (XT HO8.out fun y my=>A y (I y (AL _ my)))
    (X7 HR8.out.1 fun y my=>A y (I y (A6 _ my)))
    (HR8.out.2.1.keep fun y my=>A y (I y my)) B Q HW.out
   rw [HNF.out]at T
   clear ah B Q I A
   have HT:=yS T
   clear T
   go_wp2_with fail
   refine HT.out.mono ?_
   rintro e w' ⟨rfl,R⟩
   clear HT
   go_wp2
   go_end0
   obtain ⟨n',ao,F',k1,k2,k3,k4,k5,k6⟩:=R
   exact ⟨_,n',ao,F',rfl,⟨[],[],⟨rfl,rfl⟩,Own.nil _ _,rfl⟩,k1,k2,k3,k4,k5,k6⟩
theorem Zf7 {a:Zu}{d:Zg}{b:Int}{c:ByteArray}{r:Zu}(h:Xn a d b c=some r):ZdQ prog J0 JF0 30 31 [(false,.sl 86 4 (A0 Zx a.rules)),(false,.sl 98 3 (A0 Z4 a.memory)),(false,.int .i64 a.clock),(false,.sl 81 2 (A0 Z9 a.fired)),(false,.bool a.halted),(false,.sl 38 4 (A0 Yx a.log))] none [(true,Zr d),(false,[.int .i64 b]),(false,[.str c])] [] [(false,.sl 86 4 (A0 Zx r.rules)),(false,.sl 98 3 (A0 Z4 r.memory)),(false,.int .i64 r.clock),(false,.sl 81 2 (A0 Z9 r.fired)),(false,.bool r.halted),(false,.sl 38 4 (A0 Yx r.log))]:=ZHp h
end
section
open Go.RowKit
open Classical
noncomputable def Zgl (f:Zg) (s:Zv):List Zv->List Zv
 | []=>[s]
 |x::l=>if 0<ZcK x.fact f then s::x::l else x::Zgl f s l
theorem Zvd (f:Zg) (s:Zv):∀l:List Zv,Zub (fun x=>YH x f) s l=some (Zgl f s l)
 | []=>rfl
 |x::l=>by
  unfold Zub Zgl
  rw [Y3,Ai]
  split
  .rfl
  .rw [Zvd f s l];rfl
structure ZIA (f:Zg) (s:Zv) (M:List Zv) (w0:World) (Ls:List (List Nat)) (k:Nat) (d:Bool) (v:Value) (w:World):Prop where
 ex:∃ds,Zan Zap 98 0 w0 Ls k ds v w/\ds.length<=k+1/\(d=true->ds++M.drop k=Zgl f s M)/\(d=false->ds=M.take k/\ds++Zgl f s (M.drop k)=Zgl f s M)
theorem ZqW {α:Type}{l:List α}{k:Nat}{x:α}(h:l[k]?=some x):l.drop k=x::l.drop (k+1):=by
 obtain ⟨h1,h2⟩:=AR.1 h
 rw [List.drop_eq_getElem_cons h1,h2]
theorem ZyE.keep {α:Type}{c:YK α}{w w':World}{A:Option Addr}{ds:List α}{L:List Nat}{css:List (List Value)}{Ls:List (List Nat)}(h:ZyE c w A ds L css Ls) (hk:∀y∈L,w'.heap[y]?=w.heap[y]?):ZyE c w' A ds L css Ls:=
 ⟨h.cl,h.ll,fun i d c1 l1 hd hc hl=>c.keep (h.el i d c1 l1 hd hc hl) fun y m=>hk y (h.sub.subset (AS.2 ⟨l1,AZ hl,m⟩)),h.sub,fun i c1 hc=>by
  obtain ⟨b,off,h1,h2,h3⟩:=h.at_ i c1 hc
  exact ⟨b,off,h1,h2,fun j u hu=>(World.cell?_of_block (hk b h2)).trans (h3 j u hu)⟩⟩
theorem ZHf {f:Zu}{a:Zg}{B:Int}{C:ByteArray}{r:Zu}(h:XF f a B C=some r):ZdQ prog J0 JF0 29 31 (csE f) none [(true,Zr a),(false,[.int .i64 B]),(false,[.str C])] [] (csE r):=by
 unfold XF at h
 split at h
 rotate_left
 .cases h
 rename_i hc
 rw [Zvd,Ai]at h
 refine ⟨⟨f29,func29,yO,yO⟩,fun w z q v0 gs vs b us us2 F hj az a0 hz be bf bg U=>?_⟩
 obtain ⟨rfl,rfl⟩:=bf
 obtain ⟨rfl,a1,ap,l⟩:=bg
 obtain ⟨u0,u1,u3,u5,F0,F1,F3,F5,bh,rfl,c0,c1,c3,c5⟩:=Zpr (e:=f) (by simpa [gvC]using ap)
 subst bh
 clear ap be
 obtain ⟨Af,cf,Lf,rfl,hf,a2,a3⟩:=ZCs U
 clear U
 obtain ⟨AM,cM,css,Ls,rfl,hP⟩:=ZpP c1
 clear c1
 have HTail:=yS (And.intro a0 (And.intro hz (And.intro c0 (And.intro c3 c5))))
 have HQB:=yS az
 have HOW:=yS l
 have HJ:=yS hj
 have HF:=yS hf
 have HFZ:=yS a2
 have HRU:=yS a3
 have HP:=yS hP
 obtain ⟨a4,a5,bi,V⟩:=hc
 have HFA:Hid (a.args.length<=1048576):=a5
 obtain ⟨n,hn⟩:∃n,f.memory.length=n:=⟨_,rfl⟩
 obtain ⟨nf,al⟩:∃n,a.args.length=n:=⟨_,rfl⟩
 obtain ⟨ck,X⟩:∃n:Nat,f.clock=n:=⟨f.clock.toNat,yE⟩
 rw [X]at h
 have HW:=yS h
 have HN:Hid (f.memory.length=n):=hn
 have HNF:Hid (a.args.length=nf):=al
 have HCK:Hid (f.clock=(ck:Int)):=X
 have hbl:b<w.heap.size:=l.lt b yG
 have HLF:Hid (∀x∈Lf,x<w.heap.size):=fun x mx=>YG.lt hf x mx
 have a6:Own w 0 F1:=l.sub ((AY _ _).trans ((AP _ _).trans (Ah _ _)))
 have HO1:=yS a6
 have HBX:Hid (Blk w b 31 #[u0,.slice AM n cM,.int .i64 (ck:Int),u3,.bool f.halted,u5]):=by rw [<-hn,<-X];exact a1
 rw [hn]at a4
 rw [al]at a5
 rw [X]at V
 show Calls prog 29 #[.pointer (some ⟨b,0,none⟩),.agg #[.string a.rel,.slice Af a.args.length cf],.int .i64 B,.string C] w _
 rw [al]
 clear hj hf a2 a3 hP h l a1 hz a0 c0 c3 c5 a6 az hn al X bi
 have HB1:Hid (Below w.heap.size w (w.alloc (.cells #[.string a.rel,.slice Af nf cf] 36))):=(Below.refl _ w).alloc (A5 _) _
 have HX1:=HBX.out.later HB1.out
 have am:w.heap.size≠b:=by omega
 have HK1:Blk (w.alloc (.cells #[.string a.rel,.slice Af nf cf] 36)) w.heap.size 36 #[.string a.rel,.slice Af nf cf]:=Blk.new _ _ _
 have HX2:Blk ((w.setCell ⟨b,2,none⟩ (.int .i64 ((ck:Int)+1))).alloc (.cells #[.string a.rel,.slice Af nf cf] 36)) b 31 #[u0,.slice AM n cM,.int .i64 ((ck:Int)+1),u3,.bool f.halted,u5]:=(HBX.out.set_ 2 _).alloc _
 have HK2:Blk ((w.setCell ⟨b,2,none⟩ (.int .i64 ((ck:Int)+1))).alloc (.cells #[.string a.rel,.slice Af nf cf] 36)) w.heap.size 36 #[.string a.rel,.slice Af nf cf]:=Blk.new_at (by simp [World.setCell])
 have m2:=HX1.at (i:=2) rfl
 have bj:=HX1.frozen 2
 have m1:=HX2.at (i:=1) rfl
 go_enter func29,ntmps29
 obtain ⟨w0,an⟩:∃w0,w0=(w.setCell ⟨b,2,none⟩ (.int .i64 ((ck:Int)+1))).alloc (.cells #[.string a.rel,.slice Af nf cf] 36):=⟨_,rfl⟩
 go_wp2
 rw [<-an]at HX2 HK2 m1
 have HX:=yS HX2
 have HK:=yS HK2
 have HSW:Hid (w0.heap.size=w.heap.size+1):=by show _=_;rw [an];simp [World.setCell]
 have HB0:Hid (ZuW (fun x=>x=b) w w0):=by
  rw [an]
  exact ⟨rfl,rfl,rfl,by simp [World.setCell],fun y hy hn=>(Below.heap_alloc _ _ y (by simpa [World.setCell]using hy)).trans (Below.heap_setCell _ _ _ _ hn)⟩
 have HJ0:Hid (J0 w0):=hJ0.below (fun x=>x=b) w w0 HJ.out (fun x hx=>hx ▸ (HTail.out.1 b HQB.out).1) HB0.out.os HB0.out.tape HB0.out.output HB0.out.size HB0.out.block
 have aq:b∉F0++(F1++(F3++F5)):=(Aa.1 HOW.out.nodup).1
 have ar:∀y∈F1,w0.heap[y]?=w.heap[y]?:=fun y my=>HB0.out.block y (HO1.out.lt y my) fun e=>aq (by rw [<-e];simp [my])
 have HP0:=yS (HP.out.keep ar)
 have HO0:Hid (Own w0 0 F1):=HO1.out.keep ar
 have HF0:Hid (YG.rep w0 [.string a.rel,.slice Af nf cf] a Lf):=by
  rw [<-HNF.out]
  exact YG.keep HF.out fun y my=>HB0.out.block y (HLF.out y my) fun e=>HFZ.out y my (.inr (e ▸ HQB.out))
 have HLF0:Hid (∀x∈Lf,x<w0.heap.size):=fun x mx=>by have:=HLF.out x mx;have:=HSW.out;omega
 have HBF:=yS aq
 clear HX1 HX2 HK1 HK2 m1 m2 bj aq ar
 have FIN:Hid (∀(wl:World) (A8:Option Addr) (c8:Nat),Zan Zap 98 0 w0 Ls n (Zgl a ({ fact:=a,time:=(ck:Int)+1 }:Zv) f.memory) (.slice A8 (Zgl a ({ fact:=a,time:=(ck:Int)+1 }:Zv) f.memory).length c8) wl->Calls prog 33 #[.pointer (some ⟨b,0,none⟩),.int .i64 B,.string C,.agg #[.string a.rel,.slice Af nf cf]] (wl.setCell ⟨b,1,none⟩ (.slice A8 (Zgl a ({ fact:=a,time:=(ck:Int)+1 }:Zv) f.memory).length c8)) fun ed w'=>ed=.returned (.tuple #[])/\∃n Y F',(∀x,z x->n x)/\n b/\(∀x,n x->z x\/q x\/w.heap.size<=x)/\Zpm w' n 31 (csE r) (.pointer (some ⟨b,0,none⟩)) b Y [] F'/\(∀x∈F',x∈F0++(F1++(F3++F5))\/w.heap.size<=x)/\ZuW q w w'):=by
  intro wl A8 c8 hI
  generalize Zgl a ({ fact:=a,time:=(ck:Int)+1 }:Zv) f.memory=m at hI HW ⊢
  obtain ⟨⟨a7,Lp8,O,bk,bl,a8⟩,a9,K⟩:=hI
  have Z:∀y∈Lp8,y∈F1\/w.heap.size<=y:=fun y my=>(a8 y my).imp (fun h=>(HP.out.sub.subset ((Zg4 _).subset h))) fun h=>by have:=HSW.out;omega
  have ba:∀g,(Value.slice A8 m.length c8).ownBlock=some g->w.heap.size<=g:=fun g hg=>by have:=a9 g hg;have:=HSW.out;omega
  have au:∀y∈(Value.slice A8 m.length c8).ownBlock.toList++Lp8,y≠b:=fun y my e=>by
   rcases A9.1 my with m|m
   .have:=ba y (by simpa using m);omega
   .rcases Z y m with h|h
    .exact HBF.out (by rw [<-e];simp [h])
    .omega
  have R:∀y,y≠b->(wl.setCell ⟨b,1,none⟩ (.slice A8 m.length c8)).heap[y]?=wl.heap[y]?:=fun y hy=>Below.heap_setCell _ _ _ _ hy
  have T:=Zti (ws:=wl.setCell ⟨b,1,none⟩ (.slice A8 m.length c8)) (F1:=F1) HJ.out HQB.out HTail.out.1 HTail.out.2.1 HOW.out HTail.out.2.2.1 HTail.out.2.2.2.1 HTail.out.2.2.2.2 HF.out HFZ.out HRU.out
   ⟨K.os.trans HB0.out.os,K.tape.trans HB0.out.tape,K.output.trans HB0.out.output,by have h1:=K.size;have h2:=HSW.out;simp only[World.setCell];simp;omega,fun y hy hn=>(R y hn).trans ((K.block y (by have:=HSW.out;omega)).trans (HB0.out.block y hy hn))⟩
   ((HX.out.later K).set_ 1 (.slice A8 m.length c8))
   (XT O fun y my=>R y (au y (AL _ my)))
   (X7 bk fun y my=>R y (au y (A6 _ my)))
   (bl.keep fun y my=>R y (au y my)) Z ba HW.out
  rw [HNF.out]at T
  exact T
 go_loopw [8,9,11,24] (fun v dn q i wr=>∃(k:Nat) (d:Bool),k<=n/\i=.int .i64 k/\dn=.bool d/\Hid (ZIA a ({ fact:=a,time:=(ck:Int)+1 }:Zv) f.memory w0 Ls k d v wr)) (fun _ _ _ i _=>n - (intOf i).toNat)
 case atStart=>exact ⟨0,false,AC _,rfl,rfl,by rw [<-an];exact ⟨[],Zan.start,yG,yG,fun _=>⟨rfl,rfl⟩⟩⟩
 case round=>
  obtain ⟨k,d,hk,rfl,rfl,HI⟩:=hrel
  obtain ⟨ds,hM,av,bb,bc⟩:=HI.out.ex
  have HM:=yS hM
  have HD:Hid ((d=true->ds++f.memory.drop k=Zgl a ({ fact:=a,time:=(ck:Int)+1 }:Zv) f.memory)/\(d=false->ds=f.memory.take k/\ds++Zgl a ({ fact:=a,time:=(ck:Int)+1 }:Zv) (f.memory.drop k)=Zgl a ({ fact:=a,time:=(ck:Int)+1 }:Zv) f.memory)):=⟨bb,bc⟩
  have HBW:=yS hM.below
  have HKr:=yS (HK.out.later hM.below)
  have HXr:=yS (HX.out.later hM.below)
  have HJr:Hid (J0 wr):=Xu hJ0 HJ0.out hM.below
  clear hM bb bc HI
  by_cases hlt:k<n
  .obtain ⟨x,hx⟩:∃x,f.memory[k]?=some x:=⟨_,AF (by have:=HN.out;omega)⟩
   obtain ⟨c1,V⟩:∃c1,css[k]?=some c1:=⟨_,AF (by have:=HP0.out.cl;have:=HN.out;omega)⟩
   obtain ⟨l1,aw⟩:∃l1,Ls[k]?=some l1:=⟨_,AF (by have:=HP0.out.ll;have:=HN.out;omega)⟩
   obtain ⟨bM,off,rfl,bm,ao⟩:=HP0.out.at_ k c1 V
   have HR:=yS (HP0.out.el k x c1 l1 hx V aw)
   have HL1:=yS aw
   have HXE:=yS hx
   obtain ⟨A1,J,L1,e1,e2,t0,n1,m1,s1⟩:=HR.out
   subst e1
   have HSL:Hid (∀y∈l1,y<w0.heap.size):=fun y my=>Zap.lt HR.out y my
   have HXF:Hid (YG.rep w0 [.string x.fact.rel,.slice A1 x.fact.args.length J] x.fact l1):=⟨A1,J,L1,rfl,e2,t0,n1,m1,s1⟩
   have S:∀p:Addr,p.block=bM->wr.cell? p=w0.cell? p:=fun p hp=>World.cell?_of_block (by rw [hp];exact HBW.out.block bM (HO0.out.lt bM bm))
   have q0:wr.cell? ⟨bM,off+k*3,none⟩=_:=(S ⟨bM,off+(k*3+0),none⟩ rfl).trans (ao 0 _ rfl)
   have q1:wr.cell? ⟨bM,off+k*3+1,none⟩=_:=(S ⟨bM,off+(k*3+1),none⟩ rfl).trans (ao 1 _ rfl)
   have q2:wr.cell? ⟨bM,off+k*3+2,none⟩=_:=(S ⟨bM,off+(k*3+2),none⟩ rfl).trans (ao 2 _ rfl)
   have f0:∀o,(wr.alloc o).cell? ⟨w.heap.size,0,none⟩=some (.string a.rel):=fun o=>(HKr.out.alloc o).at (i:=0) rfl
   have f1:∀o,(wr.alloc o).cell? ⟨w.heap.size,1,none⟩=some (.slice Af nf cf):=fun o=>(HKr.out.alloc o).at (i:=1) rfl
   have BA:Hid (Below wr.heap.size wr (wr.alloc (.cells #[.string x.fact.rel,.slice A1 x.fact.args.length J,.int .i64 x.time] 98))):=(Below.refl _ wr).alloc (A5 _) _
   have BWA:Hid (Below w0.heap.size w0 (wr.alloc (.cells #[.string x.fact.rel,.slice A1 x.fact.args.length J,.int .i64 x.time] 98))):=HBW.out.trans (BA.out.mono HBW.out.size)
   have HMA:=yS (HM.out.later BA.out)
   have HKA:=yS (Blk.new wr 98 #[.string x.fact.rel,.slice A1 x.fact.args.length J,.int .i64 x.time])
   clear ao S aw hx V t0 n1 m1 s1 e2
   cases d with
   |true=>
    obtain ⟨⟨xs,Lp,ho,hr,hO,D⟩,E,L⟩:=HMA.out
    have HO:=yS ho
    have HRs:=yS (And.intro hr (And.intro hO D))
    have HVO:Hid (∀g,u8.ownBlock=some g->w0.heap.size<=g):=E
    clear ho hr hO D E L
    go_wp2_with (at_builtin;(refine Zhg rfl (.tmp 47) (.tmp 49) 28 rfl 98 _ 3 48 underlying28 ZcU rfl yE 0 u8 ds.length xs [_,_,_] rfl (by show Value.slice (some ⟨wr.heap.size+1,0,none⟩) 1 1=_;simp) HO.out rfl (by intro u hu;simp only[AG,AJ,or_false]at hu;rcases hu with rfl|rfl|rfl<;>rfl) yE yE (AC _) ?_);intro v' w' l G M)
    refine ⟨⟨k+1,true,yE,yG,rfl,?_⟩,by simp [intOf];omega⟩
    refine ⟨ds++[x],HMA.out.add (AK k) HRs.out.1 HRs.out.2.2 (Zap.keep HR.out (Z5 BWA.out HSL.out)) (Zan.taken HO0.out HP0.out.sub HL1.out HMA.out.below HRs.out.2.1 HRs.out.2.2 HVO.out) (fun y m=>.inl (by rw [Xw HL1.out];exact A6 _ m)) l G M,by simp;omega,fun _=>?_,yG⟩
    rw [AI,List.singleton_append,<-ZqW HXE.out]
    exact HD.out.1 (by trivial)
   |false=>
    obtain ⟨zc,ax⟩:∃zc,ZcK x.fact a=zc:=⟨_,rfl⟩
    have HZC:=yS ax
    have HCA:Hid (Calls prog 64 #[.agg #[.string x.fact.rel,.slice A1 x.fact.args.length J],.agg #[.string a.rel,.slice Af nf cf]] (wr.alloc (.cells #[.string x.fact.rel,.slice A1 x.fact.args.length J,.int .i64 x.time] 98)) fun e w2=>e=.returned (.int .i64 zc)/\Below (wr.alloc (.cells #[.string x.fact.rel,.slice A1 x.fact.args.length J,.int .i64 x.time] 98)).heap.size (wr.alloc (.cells #[.string x.fact.rel,.slice A1 x.fact.args.length J,.int .i64 x.time] 98)) w2):=by
     have bd:=YG.keep HF0.out (Z5 BWA.out HLF0.out)
     rw [<-HNF.out]at bd ⊢
     rw [<-ax]
     exact Zm.givesI (Zas (Y3 x.fact a)) (Xu hJ0 HJ0.out BWA.out) (vs:=[_,_]) ⟨ZbB Xe (YG.keep HXF.out (Z5 BWA.out HSL.out)),ZbB Xe bd,trivial⟩
    clear ax
    go_wp2_with fail
    refine HCA.out.mono ?_
    rintro e w2 ⟨rfl,aa⟩
    have HB2:Hid (Below w0.heap.size w0 w2):=BWA.out.trans (aa.mono BWA.out.size)
    have HM2:=yS (HMA.out.later aa)
    have HS2:=yS (HKA.out.later aa)
    have HK2:=yS (HK.out.later HB2.out)
    have HX2:=yS (HX.out.later HB2.out)
    have HJ2:Hid (J0 w2):=Xu hJ0 HJ0.out HB2.out
    have HSZ:Hid (wr.heap.size<w2.heap.size):=by have:=aa.size;simp at this;exact this
    obtain ⟨⟨xs,Lp,ho,hr,hO,D⟩,E,L⟩:=HM2.out
    have HO:=yS ho
    have HRs:=yS (And.intro hr (And.intro hO D))
    have HVO:Hid (∀g,u8.ownBlock=some g->w0.heap.size<=g):=E
    have p0:=HS2.out.at (i:=0) rfl
    have p1:=HS2.out.at (i:=1) rfl
    have p2:=HS2.out.at (i:=2) rfl
    clear HCA aa q0 q1 q2 f0 f1 ho hr hO D E L
    by_cases hz:0<zc
    .clear p0 p1 p2
     have f0:w2.cell? ⟨w.heap.size,0,none⟩=some (.string a.rel):=HK2.out.at (i:=0) rfl
     have f1:w2.cell? ⟨w.heap.size,1,none⟩=some (.slice Af nf cf):=HK2.out.at (i:=1) rfl
     have f2:w2.cell? ⟨b,2,none⟩=some (.int .i64 ((ck:Int)+1)):=HX2.out.at (i:=2) rfl
     have HVL:Hid (∀g,u8.ownBlock=some g->g<wr.heap.size):=by
      intro g hg
      obtain ⟨_,_,ho,_⟩:=HM.out.row
      exact Zgh ho g (by rw [hg];simp)
     have HJD:Hid (J0 w2.drew):=Xu hJ0 HJ0.out HB2.out.drew
     have HFD:Hid (YG.rep w2.drew [.string a.rel,.slice Af a.args.length cf] a Lf):=by
      rw [HNF.out]
      exact YG.keep HF0.out (Z5 HB2.out.drew HLF0.out)
     have HCF:Hid (Yw a=some a):=Ym a HFA.out
     have HCA:Hid (Calls prog 55 #[.agg #[.string a.rel,.slice Af nf cf]] w2.drew (ZzT YG w2.drew a)):=by
      have:=Zm.givesX (c:=YG) (g:=Zr) (x:=a) (Ys HCF.out) Xe HJD.out (vs:=[_]) ⟨ZbB Xe HFD.out,trivial⟩
      rw [HNF.out]at this
      exact this
     go_wp2_with fail
     go_region_held3 (fun W=>W.cell? ⟨b,2,none⟩=some (.int .i64 ((ck:Int)+1))/\W.cell? ⟨w.heap.size,0,none⟩=some (.string a.rel)/\W.cell? ⟨w.heap.size,1,none⟩=some (.slice Af nf cf)) (first|exact ⟨f2,f0,f1⟩|exact ⟨ab,ac,ad⟩|exact ⟨ae _,af _,ag _⟩|exact ⟨ah,ai,aj⟩) (first|(go_at_call 55;refine HCA.out.mono ?_;rintro e w7 ⟨bn,L7,rfl,P,ak⟩;obtain ⟨A7,c7,M7,ay,bo,t7,n7,m7,s7⟩:=P.rep;subst ay;have H7:=yS P;have W7:Hid (Below w2.heap.size w2 w7):=(Below.refl _ w2).drew.trans ak;have KX7:=yS (HX2.out.later W7.out);have KF7:=yS (HK2.out.later W7.out);have KS7:=yS (HS2.out.later W7.out);have ab:w7.cell? ⟨b,2,none⟩=some (.int .i64 ((ck:Int)+1)):=KX7.out.at (i:=2) rfl;have ac:w7.cell? ⟨w.heap.size,0,none⟩=some (.string a.rel):=KF7.out.at (i:=0) rfl;have ad:w7.cell? ⟨w.heap.size,1,none⟩=some (.slice Af nf cf):=KF7.out.at (i:=1) rfl;have ae:∀o,(w7.alloc o).cell? ⟨b,2,none⟩=some (.int .i64 ((ck:Int)+1)):=fun o=>(KX7.out.alloc o).at (i:=2) rfl;have af:∀o,(w7.alloc o).cell? ⟨w.heap.size,0,none⟩=some (.string a.rel):=fun o=>(KF7.out.alloc o).at (i:=0) rfl;have ag:∀o,(w7.alloc o).cell? ⟨w.heap.size,1,none⟩=some (.slice Af nf cf):=fun o=>(KF7.out.alloc o).at (i:=1) rfl;have HO7:Hid (w7.ownsV 0 98 Zap.size u8 ds.length xs):=Za4 HO.out W7.out;clear P ak t7 n7 m7 s7)|(refine Zib rfl (.tmp 37) (.tmp 45) 28 rfl 98 _ 3 48 underlying28 ZcU rfl yE 0 u8 ds.length xs [_,_,_] rfl rfl HO7.out rfl (by intro u hu;simp only[AG,AJ,or_false]at hu;rcases hu with rfl|rfl|rfl<;>rfl) yE yE (AC _) ?_;intro v8 w8 H j I;have KX8:Hid (Blk w8 b 31 #[u0,.slice (some ⟨bM,off,none⟩) n cM,.int .i64 ((ck:Int)+1),u3,.bool f.halted,u5]):=(j.block _ KX7.out.lt (fun e=>by have:=HVO.out _ e.symm;have:=HSW.out;omega)).trans KX7.out;have KF8:Hid (Blk w8 w.heap.size 36 #[.string a.rel,.slice Af nf cf]):=(j.block _ KF7.out.lt (fun e=>by have:=HVO.out _ e.symm;have:=HSW.out;omega)).trans KF7.out;have ah:w8.cell? ⟨b,2,none⟩=some (.int .i64 ((ck:Int)+1)):=KX8.out.at (i:=2) rfl;have ai:w8.cell? ⟨w.heap.size,0,none⟩=some (.string a.rel):=KF8.out.at (i:=0) rfl;have aj:w8.cell? ⟨w.heap.size,1,none⟩=some (.slice Af nf cf):=KF8.out.at (i:=1) rfl;have H8:Hid (w8.ownsV 0 98 3 v8 (ds.length+1) (xs++[.string a.rel,.slice A7 a.args.length c7,.int .i64 ((ck:Int)+1)])/\w7.grownBy w8 u8.ownBlock/\∀g,v8.ownBlock=some g->u8.ownBlock=some g\/w7.heap.size<=g):=⟨H,j,I⟩;clear H j I))
     have A:=HRs.out.2.1.lt
     have HO9:Hid (Own w7 0 (u8.ownBlock.toList++(Lp++L7))):=by
      have:=(HRs.out.2.1.keep (Z5 W7.out A)).append H7.out.own (AC _) A
      rw [AI]at this
      exact this
     have N:Zap.rep w7 [.string a.rel,.slice A7 a.args.length c7,.int .i64 ((ck:Int)+1)] ({ fact:=a,time:=(ck:Int)+1 }:Zv) L7:=by
      obtain ⟨A1,c1,M1,e1,e2,t,n,m,s⟩:=H7.out.rep
      obtain ⟨rfl,rfl⟩:A7=A1/\c7=c1:=by simpa using e1
      exact ⟨A7,c7,M1,rfl,e2,t,n,m,s⟩
     have HM8:=yS ((HM2.out.later W7.out).add (A5 k) (X7 HRs.out.1 (Z5 W7.out fun y m=>A y (A6 _ m))) HRs.out.2.2 N HO9.out (fun y m=>.inr (AB HB2.out.size (H7.out.own.ge y m))) H8.out.1 H8.out.2.1 H8.out.2.2)
     have KS8:Hid (Blk w8 wr.heap.size 98 #[.string x.fact.rel,.slice A1 x.fact.args.length J,.int .i64 x.time]):=(H8.out.2.1.block _ KS7.out.lt (fun e=>by have:=HVL.out _ e.symm;omega)).trans KS7.out
     have p0:=KS8.out.at (i:=0) rfl
     have p1:=KS8.out.at (i:=1) rfl
     have p2:=KS8.out.at (i:=2) rfl
     obtain ⟨⟨bp,Lp9,ho,hr,hO,D⟩,E,L⟩:=HM8.out
     have HOb:=yS ho
     have HRb:=yS (And.intro hr (And.intro hO D))
     have HVb:Hid (∀g,v8.ownBlock=some g->w0.heap.size<=g):=E
     have HBb:=yS L
     have hdl9:(ds++[({ fact:=a,time:=(ck:Int)+1 }:Zv)]).length=ds.length+1:=by simp
     clear ho hr hO D E L A N f0 f1 f2 ac ad ab af ag ae ai aj ah
     have hdk:ds.length<=k:=by rw [(HD.out.2 (by trivial)).1];simp;omega
     go_wp2_with (at_builtin;(refine Zhg rfl (.tmp 47) (.tmp 49) 28 rfl 98 _ 3 48 underlying28 ZcU rfl yE 0 v8 (ds++[({ fact:=a,time:=(ck:Int)+1 }:Zv)]).length bp [_,_,_] rfl rfl HOb.out rfl (by intro u hu;simp only[AG,AJ,or_false]at hu;rcases hu with rfl|rfl|rfl<;>rfl) yE yE (AC _) ?_);intro v' w' l G M)
     refine ⟨⟨k+1,true,yE,yG,rfl,?_⟩,by simp [intOf];omega⟩
     refine ⟨ds++[({ fact:=a,time:=(ck:Int)+1 }:Zv)]++[x],HM8.out.add (AK k) HRb.out.1 HRb.out.2.2 (Zap.keep HR.out (Z5 HBb.out HSL.out)) (Zan.taken HO0.out HP0.out.sub HL1.out HBb.out HRb.out.2.1 HRb.out.2.2 HVb.out) (fun y m=>.inl (by rw [Xw HL1.out];exact A6 _ m)) l G M,by simp;omega,fun _=>?_,yG⟩
     obtain ⟨h1,h2⟩:=HD.out.2 (by trivial)
     rw [ZqW HXE.out,Zgl,HZC.out,if_pos yE]at h2
     rw [<-h2]
     simp
    .go_wp2_with (at_builtin;(refine Zhg rfl (.tmp 47) (.tmp 49) 28 rfl 98 _ 3 48 underlying28 ZcU rfl yE 0 u8 ds.length xs [_,_,_] rfl rfl HO.out rfl (by intro u hu;simp only[AG,AJ,or_false]at hu;rcases hu with rfl|rfl|rfl<;>rfl) yE yE (AC _) ?_);intro v' w' l G M)
     refine ⟨⟨k+1,false,yE,yG,rfl,?_⟩,by simp [intOf];omega⟩
     refine ⟨ds++[x],HM2.out.add (AK k) HRs.out.1 HRs.out.2.2 (Zap.keep HR.out (Z5 HB2.out HSL.out)) (Zan.taken HO0.out HP0.out.sub HL1.out HM2.out.below HRs.out.2.1 HRs.out.2.2 HVO.out) (fun y m=>.inl (by rw [Xw HL1.out];exact A6 _ m)) l G M,by simp;omega,yG,fun _=>?_⟩
     obtain ⟨h1,h2⟩:=HD.out.2 (by trivial)
     rw [ZqW HXE.out,Zgl,HZC.out,if_neg yE]at h2
     refine ⟨by rw [AQ,HXE.out,h1];rfl,?_⟩
     rw [AI]
     exact h2
  .obtain rfl:k=n:=by omega
   cases d with
   |true=>
    have hds:ds=Zgl a ({ fact:=a,time:=(ck:Int)+1 }:Zv) f.memory:=by
     have:=HD.out.1 rfl
     rw [Aj (by have:=HN.out;omega),AT]at this
     exact this
    have HMl:=HM.out
    rw [hds]at HMl
    have hnM:(Zgl a ({ fact:=a,time:=(ck:Int)+1 }:Zv) f.memory).length<=k+1:=by rw [<-hds];exact av
    obtain ⟨a7,Lp8,O,_⟩:=HMl.row
    obtain ⟨A8,c8,e8,_,_⟩:=Y2 O
    subst e8
    have HMl:=yS HMl
    have fz:=HXr.out.frozen 1
    have m1:=HXr.out.at (i:=1) rfl
    have g0:∀u,(wr.setCell ⟨b,1,none⟩ u).cell? ⟨w.heap.size,0,none⟩=some (.string a.rel):=fun u=>(HKr.out.far (p:=⟨b,1,none⟩) am u).at (i:=0) rfl
    have g1:∀u,(wr.setCell ⟨b,1,none⟩ u).cell? ⟨w.heap.size,1,none⟩=some (.slice Af nf cf):=fun u=>(HKr.out.far (p:=⟨b,1,none⟩) am u).at (i:=1) rfl
    clear HD hds O av HM
    go_wp2_with fail
    refine (FIN.out _ _ _ HMl.out).mono ?_
    rintro e w' ⟨rfl,Q⟩
    go_wp2
    go_end0
    obtain ⟨n',Y,F',k1,k2,k3,k4,k5,k6⟩:=Q
    exact ⟨_,n',Y,F',rfl,⟨[],[],⟨rfl,rfl⟩,Own.nil _ _,rfl⟩,k1,k2,k3,k4,k5,k6⟩
   |false=>
    obtain ⟨h1,h2⟩:=HD.out.2 rfl
    have hds:ds++[({ fact:=a,time:=(ck:Int)+1 }:Zv)]=Zgl a ({ fact:=a,time:=(ck:Int)+1 }:Zv) f.memory:=by
     rw [Aj (by have:=HN.out;omega),Zgl]at h2
     exact h2
    have HDS:=yS hds
    obtain ⟨⟨xs,Lp,ho,hr,hO,D⟩,E,L⟩:=HM.out
    have HO:=yS ho
    have HRs:=yS (And.intro hr (And.intro hO D))
    have HVO:Hid (∀g,u8.ownBlock=some g->w0.heap.size<=g):=E
    have f0:wr.cell? ⟨w.heap.size,0,none⟩=some (.string a.rel):=HKr.out.at (i:=0) rfl
    have f1:wr.cell? ⟨w.heap.size,1,none⟩=some (.slice Af nf cf):=HKr.out.at (i:=1) rfl
    have f2:wr.cell? ⟨b,2,none⟩=some (.int .i64 ((ck:Int)+1)):=HXr.out.at (i:=2) rfl
    have HJD:Hid (J0 wr.drew):=Xu hJ0 HJ0.out HBW.out.drew
    have HFD:Hid (YG.rep wr.drew [.string a.rel,.slice Af a.args.length cf] a Lf):=by
     rw [HNF.out]
     exact YG.keep HF0.out (Z5 HBW.out.drew HLF0.out)
    have HCF:Hid (Yw a=some a):=Ym a HFA.out
    have HCA:Hid (Calls prog 55 #[.agg #[.string a.rel,.slice Af nf cf]] wr.drew (ZzT YG wr.drew a)):=by
     have:=Zm.givesX (c:=YG) (g:=Zr) (x:=a) (Ys HCF.out) Xe HJD.out (vs:=[_]) ⟨ZbB Xe HFD.out,trivial⟩
     rw [HNF.out]at this
     exact this
    clear ho hr hO D E L hds h1 h2
    go_wp2_with fail
    go_region_held3 (fun W=>W.cell? ⟨b,2,none⟩=some (.int .i64 ((ck:Int)+1))/\W.cell? ⟨w.heap.size,0,none⟩=some (.string a.rel)/\W.cell? ⟨w.heap.size,1,none⟩=some (.slice Af nf cf)) (first|exact ⟨f2,f0,f1⟩|exact ⟨ab,ac,ad⟩|exact ⟨ae _,af _,ag _⟩|exact ⟨ah,ai,aj⟩) (first|(go_at_call 55;refine HCA.out.mono ?_;rintro e w7 ⟨bn,L7,rfl,P,ak⟩;obtain ⟨A7,c7,M7,ay,bo,t7,n7,m7,s7⟩:=P.rep;subst ay;have H7:=yS P;have W7:Hid (Below wr.heap.size wr w7):=(Below.refl _ wr).drew.trans ak;have KX7:=yS (HXr.out.later W7.out);have KF7:=yS (HKr.out.later W7.out);have ab:w7.cell? ⟨b,2,none⟩=some (.int .i64 ((ck:Int)+1)):=KX7.out.at (i:=2) rfl;have ac:w7.cell? ⟨w.heap.size,0,none⟩=some (.string a.rel):=KF7.out.at (i:=0) rfl;have ad:w7.cell? ⟨w.heap.size,1,none⟩=some (.slice Af nf cf):=KF7.out.at (i:=1) rfl;have ae:∀o,(w7.alloc o).cell? ⟨b,2,none⟩=some (.int .i64 ((ck:Int)+1)):=fun o=>(KX7.out.alloc o).at (i:=2) rfl;have af:∀o,(w7.alloc o).cell? ⟨w.heap.size,0,none⟩=some (.string a.rel):=fun o=>(KF7.out.alloc o).at (i:=0) rfl;have ag:∀o,(w7.alloc o).cell? ⟨w.heap.size,1,none⟩=some (.slice Af nf cf):=fun o=>(KF7.out.alloc o).at (i:=1) rfl;have HO7:Hid (w7.ownsV 0 98 Zap.size u8 ds.length xs):=Za4 HO.out W7.out;clear P ak t7 n7 m7 s7)|(refine Zib rfl (.tmp 54) (.tmp 62) 28 rfl 98 _ 3 48 underlying28 ZcU rfl yE 0 u8 ds.length xs [_,_,_] rfl rfl HO7.out rfl (by intro u hu;simp only[AG,AJ,or_false]at hu;rcases hu with rfl|rfl|rfl<;>rfl) yE yE (AC _) ?_;intro v8 w8 H j I;have KX8:Hid (Blk w8 b 31 #[u0,.slice AM k cM,.int .i64 ((ck:Int)+1),u3,.bool f.halted,u5]):=(j.block _ KX7.out.lt (fun e=>by have:=HVO.out _ e.symm;have:=HSW.out;omega)).trans KX7.out;have KF8:Hid (Blk w8 w.heap.size 36 #[.string a.rel,.slice Af nf cf]):=(j.block _ KF7.out.lt (fun e=>by have:=HVO.out _ e.symm;have:=HSW.out;omega)).trans KF7.out;have ah:w8.cell? ⟨b,2,none⟩=some (.int .i64 ((ck:Int)+1)):=KX8.out.at (i:=2) rfl;have ai:w8.cell? ⟨w.heap.size,0,none⟩=some (.string a.rel):=KF8.out.at (i:=0) rfl;have aj:w8.cell? ⟨w.heap.size,1,none⟩=some (.slice Af nf cf):=KF8.out.at (i:=1) rfl;have H8:Hid (w8.ownsV 0 98 3 v8 (ds.length+1) (xs++[.string a.rel,.slice A7 a.args.length c7,.int .i64 ((ck:Int)+1)])/\w7.grownBy w8 u8.ownBlock/\∀g,v8.ownBlock=some g->u8.ownBlock=some g\/w7.heap.size<=g):=⟨H,j,I⟩;clear H j I))
    have A:=HRs.out.2.1.lt
    have HO9:Hid (Own w7 0 (u8.ownBlock.toList++(Lp++L7))):=by
     have:=(HRs.out.2.1.keep (Z5 W7.out A)).append H7.out.own (AC _) A
     rw [AI]at this
     exact this
    have N:Zap.rep w7 [.string a.rel,.slice A7 a.args.length c7,.int .i64 ((ck:Int)+1)] ({ fact:=a,time:=(ck:Int)+1 }:Zv) L7:=by
     obtain ⟨A1,c1,M1,e1,e2,t,n,m,s⟩:=H7.out.rep
     obtain ⟨rfl,rfl⟩:A7=A1/\c7=c1:=by simpa using e1
     exact ⟨A7,c7,M1,rfl,e2,t,n,m,s⟩
    have HMl:=(HM.out.later W7.out).add (A5 k) (X7 HRs.out.1 (Z5 W7.out fun y m=>A y (A6 _ m))) HRs.out.2.2 N HO9.out (fun y m=>.inr (AB HBW.out.size (H7.out.own.ge y m))) H8.out.1 H8.out.2.1 H8.out.2.2
    rw [HDS.out]at HMl
    obtain ⟨a7,Lp8,O,_⟩:=HMl.row
    obtain ⟨A8,c8,e8,_,_⟩:=Y2 O
    subst e8
    have HMl:=yS HMl
    have fz:=KX8.out.frozen 1
    have m1:=KX8.out.at (i:=1) rfl
    have g0:∀u,(w8.setCell ⟨b,1,none⟩ u).cell? ⟨w.heap.size,0,none⟩=some (.string a.rel):=fun u=>(KF8.out.far (p:=⟨b,1,none⟩) am u).at (i:=0) rfl
    have g1:∀u,(w8.setCell ⟨b,1,none⟩ u).cell? ⟨w.heap.size,1,none⟩=some (.slice Af nf cf):=fun u=>(KF8.out.far (p:=⟨b,1,none⟩) am u).at (i:=1) rfl
    clear HD HDS O av HM H8 HO9 N A f0 f1 f2 ac ad ab af ag ae ai aj ah
    go_wp2_with fail
    refine (FIN.out _ _ _ HMl.out).mono ?_
    rintro e w' ⟨rfl,Q⟩
    go_wp2
    go_end0
    obtain ⟨n',Y,F',k1,k2,k3,k4,k5,k6⟩:=Q
    exact ⟨_,n',Y,F',rfl,⟨[],[],⟨rfl,rfl⟩,Own.nil _ _,rfl⟩,k1,k2,k3,k4,k5,k6⟩
theorem ZgP {a:Zu}{d:Zg}{b:Int}{c:ByteArray}{r:Zu}(h:XF a d b c=some r):ZdQ prog J0 JF0 29 31 [(false,.sl 86 4 (A0 Zx a.rules)),(false,.sl 98 3 (A0 Z4 a.memory)),(false,.int .i64 a.clock),(false,.sl 81 2 (A0 Z9 a.fired)),(false,.bool a.halted),(false,.sl 38 4 (A0 Yx a.log))] none [(true,Zr d),(false,[.int .i64 b]),(false,[.str c])] [] [(false,.sl 86 4 (A0 Zx r.rules)),(false,.sl 98 3 (A0 Z4 r.memory)),(false,.int .i64 r.clock),(false,.sl 81 2 (A0 Z9 r.fired)),(false,.bool r.halted),(false,.sl 38 4 (A0 Yx r.log))]:=ZHf h
end
section
open Go.RowKit
theorem ZhM {a:List Zj}{f:List Zg}{r:List Zs}(h:ZbW a f=some r):Zm prog J0 120 [(false,[.sl 137 5 (A0 ZR a)]),(false,[.sl 36 2 (A0 Zr f)])] [(false,[(false,.sl 150 2 (A0 XH r))])]:=by
 unfold ZbW at h
 split at h
 .rename_i hc
  obtain ⟨hl,hF,hA⟩:=hc
  rw [Zdm _ _ hl hF hA]at h
  obtain rfl:=A4 h
  refine ⟨⟨f120,func120,yO,yO⟩,fun w z vs hj hz ha=>?_⟩
  cases vs with
  |nil=>exact ha.elim
  |cons v vs=>
   obtain ⟨ha,hr⟩:=ha
   cases vs with
   |nil=>exact hr.elim
   |cons u vs=>
    obtain ⟨hu,hr⟩:=hr
    cases vs with
    |cons _ _=>exact hr.elim
    |nil=>
     rcases ha with ⟨hf,_⟩|⟨_,ct,L,e1,hx,_⟩
     .simp at hf
     .rcases hu with ⟨hf,_⟩|⟨_,j,L2,e2,k,_⟩
      .simp at hf
      .obtain rfl:(CT.sl 137 5 (A0 ZR a))=ct:=by simpa using e1
       obtain rfl:(CT.sl 36 2 (A0 Zr f))=j:=by simpa using e2
       have h1:=(ZvH.sl 137).2 hx
       have h2:=(Xe.sl 36).2 k
       obtain ⟨A,c,hv,q1,q2,q3⟩:=h1
       obtain ⟨B,d,hu,p1,p2,p3⟩:=h2
       simp only[List.cons.injEq,and_true]at hv hu
       subst hv
       subst hu
       refine (ZtH hl hF hA w hj A c L ⟨A,c,rfl,q1,q2,q3⟩ B d L2 ⟨B,d,rfl,p1,p2,p3⟩).mono ?_
       rintro e w' ⟨v,rfl,⟨xs,Lp,i,g,hO⟩,hB⟩
       exact ⟨v,fun b=>z b\/b∈v.ownBlock.toList,rfl,⟨[v],v.ownBlock.toList++Lp,⟨v,[],v.ownBlock.toList++Lp,[],rfl,yG,.inr ⟨rfl,_,rfl,yF,xs,Lp,by rw [AA];exact i,Zyf.reps g,rfl,fun b m=>.inr m⟩,rfl,rfl⟩,hO,rfl⟩,fun b h=>.inl h,hB⟩
 .cases h
end
section
theorem ZmU {s_0:ByteArray}{r:(Zh×Bool)}(h:X9 s_0=some r):Zm prog J0 137 [(false,[.str s_0])] [(true,[(false,.str r.1.name),(false,.int .i64 r.1.priority),(false,.sl 137 5 (A0 ZR r.1.cond)),(false,.sl 89 3 (A0 Z3 r.1.thn))]),(false,[(false,.bool r.2)])]:=by
 refine fnk func137 rfl ?_
 unfold X9 at h
 have a:Z7 ⟨#[32,45,62,32]⟩=true:=by decide
 have b:Z7 ⟨#[32]⟩=true:=by decide
 have c:Z7 ⟨#[58,32]⟩=true:=by decide
 simp only[fnS,f137,Zq,go_sem,seval,a,b,c]
 refine Zb h fun _ d h=>Za (Zaa d)<|yA ?_
 refine yB h (fun _ h=>?_) fun _ h=>?_
 cases h;exact yD
 obtain ⟨_,h⟩:=Zz h
 obtain ⟨_,e,h⟩:=Zy h
 try simp only[seval]at e
 simp only[*,go_sem,seval]
 refine Zb h fun _ f h=>Za (Zaa f) ?_
 obtain ⟨_,h⟩:=Zz h
 obtain ⟨_,g,h⟩:=Zy h
 try simp only[seval]at g
 simp only[*,go_sem,seval]
 refine Zb h fun _ i h=>Za (Zaa i) ?_
 iterate 2 (simp only[*,go_sem,seval];(refine Zc h (fun _ h=>?_) fun _ h=>?_<;>try simp only[*,go_sem,seval]);cases h)
 simp only[*,go_sem,seval]
 obtain ⟨_,h⟩:=Zz h
 obtain ⟨_,j,h⟩:=Zy h
 try simp only[seval]at j
 simp only[*,go_sem,seval]
 refine Zb h fun _ k h=>Za (Zop k)<|yA ?_
 refine yB h (fun _ h=>?_) fun _ h=>?_
 obtain ⟨_,h⟩:=Zz h
 obtain ⟨_,l,h⟩:=Zy h
 try simp only[seval]at l
 obtain ⟨_,h⟩:=Zz h
 obtain ⟨_,m,h⟩:=Zy h
 try simp only[seval]at m
 obtain ⟨_,h⟩:=Zz h
 obtain ⟨_,o,h⟩:=Zy h
 try simp only[seval]at o
 simp only[*,go_sem,seval]
 refine Zb h fun _ p h=>Za (Zrk p)<|yA ?_
 refine yB h (fun _ h=>?_) fun _ h=>?_
 iterate 3 (cases h;exact yD)
theorem Zrq {e_0:Zu}{f_1:Zg}{r:(Zu×Bool)}(h:Zea e_0 f_1=some r):Zm prog J0 7 [(true,Zff e_0),(true,Zr f_1)] [(true,[(false,.sl 86 4 (A0 Zx r.1.rules)),(false,.sl 98 3 (A0 Z4 r.1.memory)),(false,.int .i64 r.1.clock),(false,.sl 81 2 (A0 Z9 r.1.fired)),(false,.bool r.1.halted),(false,.sl 38 4 (A0 Yx r.1.log))]),(false,[(false,.bool r.2)])]:=by
 refine fnk func7 rfl ?_
 unfold Zea at h
 have a:Z7 ⟨#[]⟩=true:=by decide
 simp only[fnS,f7,Zq,go_sem,seval,a]
 refine Zb h fun _ b h=>Za (ZdT b)<|yA ?_
 refine Zb h fun _ c h=>Za (Zbh c)<|yA ?_
 refine yB h (fun _ h=>?_) fun _ h=>?_
 refine Zb h fun _ d h=>Za (Y9 d)<|yA ?_
 refine yB h (fun _ h=>?_) fun _ h=>?_
 refine Zb h fun _ e h=>Za (Zbi e) ?_
 iterate 4 (simp only[*,go_sem,seval];(refine Zc h (fun _ h=>?_) fun _ h=>?_<;>try simp only[*,go_sem,seval]);cases h)
 simp only[*,go_sem,seval]
 obtain ⟨_,f,h⟩:=Zy h
 refine ZeU (ZgP f) ?_
 iterate 3 (cases h;exact yD)
theorem ZoO {e_0:Zu}{f_1:Zg}{r:(Zu×Bool)}(h:Zc2 e_0 f_1=some r):Zm prog J0 8 [(true,Zff e_0),(true,Zr f_1)] [(true,[(false,.sl 86 4 (A0 Zx r.1.rules)),(false,.sl 98 3 (A0 Z4 r.1.memory)),(false,.int .i64 r.1.clock),(false,.sl 81 2 (A0 Z9 r.1.fired)),(false,.bool r.1.halted),(false,.sl 38 4 (A0 Yx r.1.log))]),(false,[(false,.bool r.2)])]:=by
 refine fnk func8 rfl ?_
 unfold Zc2 at h
 have a:Z7 ⟨#[]⟩=true:=by decide
 simp only[fnS,f8,Zq,go_sem,seval,a]
 refine Zb h fun _ b h=>Za (ZdT b)<|yA ?_
 refine Zb h fun _ c h=>Za (Zbh c)<|yA ?_
 refine yB h (fun _ h=>?_) fun _ h=>?_
 refine Zb h fun _ d h=>Za (Zbi d)<|yA ?_
 iterate 2 refine yB h (fun _ h=>?_) fun _ h=>?_
 cases h;exact yD
 obtain ⟨_,e,h⟩:=Zy h
 refine ZeU (Zf7 e) ?_
 iterate 3 (cases h;exact yD)
theorem Znr {r_0:Zh}{facts_1:(List Zg)}{r:(List Yk)}(h:Zds r_0 facts_1=some r):Zm prog J0 107 [(true,Zx r_0),(false,[.sl 36 2 (A0 Zr facts_1)])] [(false,[(true,.sl 62 3 (A0 Q0 r))])]:=by
 refine fnk func107 rfl ?_
 unfold Zds at h
 simp only[fnS,f107,Zq,go_sem,seval]
 refine Zb h fun a g h=>Za (ZhM g)<|yA ?_
 refine Zn h (fun i b st=>IV [(2,.bp 0 0),(5,.p false [.row 1]),(11,.p false [.row 2]),(12,yL a.length),(13,yL i)] [zK 86 (Zx r_0),.row 62 3 (A0 Q0 b) 1,.row 150 2 (A0 XH a) 2] st) [(false,5,0),(true,144,1)] [0,144,96] yF yD ?_ ?_
 rintro _ _ b ⟨_,_,_⟩ _ d e j h _
 simp only[go_sem,seval,Zd]at e
 obtain ⟨⟨_,_,_,_,_⟩,_,_,k,hn⟩:=e
 subst hn
 have l:=WF.rowL j k
 have:=Z0 d
 have:=Z2 d
 have:=Zt (Z1 d) l
 obtain ⟨m,h⟩:=Zz h
 try simp only[Nat.reduceLeDiff]at m
 simp only[*,go_sem,seval]
 exact yR h [0,227,2]
 rintro b ⟨_,_,_⟩ f _ h
 simp only[go_sem,seval,Zd]at f
 obtain ⟨⟨_,_,_,_,_⟩,_,_,_,hn⟩:=f
 subst hn
 have:=ZW (a.length)
 cases h;exact yD
theorem Zfa {a:Ze}{b:(List Zg)}{r:Ze}(h:QL a b=some r):ZdQ prog J0 JF0 73 46 [(false,.sl 86 4 (A0 Zx a.rules)),(false,.sl 3 1 (A0 Yc a.ends)),(false,.sl 134 3 (A0 Yf a.alphas)),(false,.sl 140 8 (A0 YL a.nodes)),(false,.sl 36 2 (A0 Zr a.facts)),(false,.int .i64 a.tries)] none [(false,[.sl 36 2 (A0 Zr b)])] [] [(false,.sl 86 4 (A0 Zx r.rules)),(false,.sl 3 1 (A0 Yc r.ends)),(false,.sl 134 3 (A0 Yf r.alphas)),(false,.sl 140 8 (A0 YL r.nodes)),(false,.sl 36 2 (A0 Zr r.facts)),(false,.int .i64 r.tries)]:=by
 refine fno func73 rfl ?_
 unfold QL at h
 simp only[fnO,f73,Zgt,gvC,go_sem,seval]
 refine Zb h fun v1 e1 h=>Za (Ye e1) ?_
 simp only[*,go_sem,seval]
 refine XB h (fun s st=>match s with|(d,i)=>IV [(0,.bp 0 0),(1,.p false [.c (.sl 36 2 (A0 Zr b))]),(15,.p false [.c (.int .i64 ((a.alphas.length:Nat):Int))]),(16,.p false [.c (.int .i64 i)])] [.box 46 [.row 1,.row 2,.row 3,.row 4,.row 5,.c (.int .i64 a.tries)],.row 86 4 (A0 Zx a.rules) 2,.row 3 1 (A0 Yc a.ends) 2,.row 134 3 (A0 Yf d) 2,.row 140 8 (A0 YL a.nodes) 2,.row 36 2 (A0 Zr v1) 2] st) [] [0,1,2,3,4,38] yF ?_ ?_
 .simp only[*,go_sem,seval]
 .rintro ⟨d,i⟩ ⟨sl,ob,n⟩ y2 j hW4 h l
  simp only[go_sem,seval,Zd]at j
  obtain ⟨⟨g5_0,g5_1,g5_15,g5_16⟩,og5_0,og5_1,og5_2,og5_3,og5_4,og5_5,hn⟩:=j
  subst hn
  simp only[*,go_sem,seval]
  refine Zc h (fun c6 h=>?_) (fun c6 h=>?_)<;>try simp only[*,go_sem,seval]
  .obtain ⟨p7,h⟩:=Zz h
   obtain ⟨x6,e8,h⟩:=Zy h
   simp only[*,go_sem,seval]
   refine Zb h fun v7 e9 h=>Za (ZbR e9) ?_
   simp only[*,go_sem,seval]
   refine ⟨_,[],[0,1,2,3,4,5],(A4 h).symm,yF,?_⟩
   simp only[*,go_sem,seval]
  .refine XB h (fun s st=>match s with|(e,f)=>IV [(0,.bp 0 0),(1,.p false [.c (.sl 36 2 (A0 Zr b))]),(41,.p false [.c (.int .i64 ((a.nodes.length:Nat):Int))]),(42,.p false [.c (.int .i64 f)])] [.box 46 [.row 1,.row 2,.row 3,.row 4,.row 5,.c (.int .i64 a.tries)],.row 86 4 (A0 Zx a.rules) 2,.row 3 1 (A0 Yc a.ends) 2,.row 134 3 (A0 Yf d) 2,.row 140 8 (A0 YL e) 2,.row 36 2 (A0 Zr v1) 2] st) [] [0,1,2,3,4,5] yF ?_ ?_
   .simp only[*,go_sem,seval]
   .rintro ⟨e,f⟩ ⟨sl,ob,n⟩ y10 g hW12 h k
    simp only[go_sem,seval,Zd]at g
    obtain ⟨⟨g13_0,g13_1,g13_41,g13_42⟩,og13_0,og13_1,og13_2,og13_3,og13_4,og13_5,hn⟩:=g
    subst hn
    simp only[*,go_sem,seval]
    refine Zc h (fun m h=>?_) (fun m h=>?_)<;>try simp only[*,go_sem,seval]
    .refine Zb h fun v13 o h=>Za (ZsH o) ?_
     simp only[*,go_sem,seval]
     refine Zb h fun v14 q h=>Za (ZhM q) ?_
     obtain ⟨p17,h⟩:=Zz h
     obtain ⟨x15,e18,h⟩:=Zy h
     simp only[*,go_sem,seval]
     refine ⟨_,[],[0,1,2,3,4,5],(A4 h).symm,yF,?_⟩
     simp only[*,go_sem,seval]
    .replace h:=Zw h k
     replace h:=Zw h l
     obtain rfl:=A4 h
     simp only[*,go_sem,seval]
end
section
theorem Zkc {a:Ze}{b:Ze}{r:Bool}(h:ZaD a b=some r):Zm prog J0 83 [(true,Qg a),(true,Qg b)] [(false,[(false,.bool r)])]:=by
 refine ZFZ [(12,[0,1,2,3,4,5,6,7,8,9,10,11,12,13],true)] func83 rfl ?_
 unfold ZaD at h
 simp only[fnS,f83,Zq,go_sem,Zf,seval]
 refine Zb h fun v1 e1 h=>Za (by have hh:=ZgZ e1;first|exact hh|(simp only[go_sem,Zf, *]at hh;exact hh)) ?_
 simp only[go_sem,Zf,seval, *]
 refine Zc h (fun c2 h=>?_) (fun c2 h=>?_)<;>try simp only[go_sem,Zf,seval, *]
 .refine Zb h fun v2 e3 h=>Za (by have hh:=Zfl e3;first|exact hh|(simp only[go_sem,Zf, *]at hh;exact hh)) ?_
  simp only[go_sem,Zf,seval, *]
  refine Zc h (fun c4 h=>?_) (fun c4 h=>?_)<;>try simp only[go_sem,Zf,seval, *]
  .refine Zb h fun v3 e5 h=>Za (by have hh:=ZcD e5;first|exact hh|(simp only[go_sem,Zf, *]at hh;exact hh)) ?_
   simp only[go_sem,Zf,seval, *]
   refine Zc h (fun c6 h=>?_) (fun c6 h=>?_)<;>try simp only[go_sem,Zf,seval, *]
   .refine Zc h (fun c7 h=>?_) (fun c7 h=>?_)<;>try simp only[go_sem,Zf,seval, *]
    .obtain rfl:=A4 h
     simp only[go_sem,Zf,seval, *]
    .refine Zc h (fun c8 h=>?_) (fun c8 h=>?_)<;>try simp only[go_sem,Zf,seval, *]
     .obtain rfl:=A4 h
      simp only[go_sem,Zf,seval, *]
     .refine Zn h (fun i _ st=>IV [(2,.bp 0 0),(3,.bp 1 0),(51,.p false [.c (.int .i64 ((a.alphas.length:Nat):Int))]),(52,.p false [.c (.int .i64 ((i:Nat):Int))])] [.box 46 [.c (.sl 86 4 (A0 Zx a.rules)),.c (.sl 3 1 (A0 Yc a.ends)),.c (.sl 134 3 (A0 Yf a.alphas)),.c (.sl 140 8 (A0 YL a.nodes)),.c (.sl 36 2 (A0 Zr a.facts)),.c (.int .i64 a.tries)],.box 46 [.c (.sl 86 4 (A0 Zx b.rules)),.c (.sl 3 1 (A0 Yc b.ends)),.c (.sl 134 3 (A0 Yf b.alphas)),.c (.sl 140 8 (A0 YL b.nodes)),.c (.sl 36 2 (A0 Zr b.facts)),.c (.int .i64 b.tries)]] st) [] [0,16] yF ?_ ?_ ?_
      .simp only[go_sem,Zf,seval, *]
      .rintro i27 x28 ⟨⟩ ⟨sl,ob,n⟩ y9 e o v h w
       simp only[go_sem,Zf,seval,Zd]at o
       obtain ⟨⟨g13_2,g13_3,g13_51,g13_52⟩,g,og13_1,hn⟩:=o
       subst hn
       have k:=WF.boxL v g (j:=2) rfl
       have q14:=Z0 e
       have q15:=Z2 e
       have q16:=Zt (Z1 e) k
       obtain ⟨x29,a17,a18,y,h⟩:=ZaE h
       simp only[Ak]at y
       simp only[go_sem,Zf,seval, *]
       refine Zb h fun v30 z h=>Za (by have hh:=ZaX z;first|exact hh|(simp only[go_sem,Zf, *]at hh;exact hh)) ?_
       simp only[go_sem,Zf,seval, *]
       refine Zc h (fun A h=>?_) (fun A h=>?_)<;>try simp only[go_sem,Zf,seval, *]
       .refine Zb h fun v31 B h=>Za (by have hh:=ZcD B;first|exact hh|(simp only[go_sem,Zf, *]at hh;exact hh)) ?_
        simp only[go_sem,Zf,seval, *]
        refine Zc h (fun C h=>?_) (fun C h=>?_)<;>try simp only[go_sem,Zf,seval, *]
        .refine ⟨_,[],[0,1],(A4 h).symm,yF,?_⟩
         simp only[go_sem,Zf,seval, *]
        .replace h:=Zw h w
         obtain rfl:=A4 h
         simp only[go_sem,Zf,seval, *]
       .replace h:=Zw h w
        obtain rfl:=A4 h
        simp only[go_sem,Zf,seval, *]
      .rintro ⟨⟩ ⟨sl,ob,n⟩ q hW25 h
       simp only[go_sem,Zf,seval,Zd]at q
       obtain ⟨⟨g26_2,g26_3,g26_51,g26_52⟩,og26_0,og26_1,hn⟩:=q
       subst hn
       have q27:=ZW (a.alphas.length)
       simp only[go_sem,Zf,seval, *]
       refine Zn h (fun i _ st=>IV [(2,.bp 0 0),(3,.bp 1 0),(88,.p false [.c (.int .i64 ((a.nodes.length:Nat):Int))]),(89,.p false [.c (.int .i64 ((i:Nat):Int))])] [.box 46 [.c (.sl 86 4 (A0 Zx a.rules)),.c (.sl 3 1 (A0 Yc a.ends)),.c (.sl 134 3 (A0 Yf a.alphas)),.c (.sl 140 8 (A0 YL a.nodes)),.c (.sl 36 2 (A0 Zr a.facts)),.c (.int .i64 a.tries)],.box 46 [.c (.sl 86 4 (A0 Zx b.rules)),.c (.sl 3 1 (A0 Yc b.ends)),.c (.sl 134 3 (A0 Yf b.alphas)),.c (.sl 140 8 (A0 YL b.nodes)),.c (.sl 36 2 (A0 Zr b.facts)),.c (.int .i64 b.tries)]] st) [] [0,1] yF ?_ ?_ ?_
       .simp only[go_sem,Zf,seval, *]
       .rintro i41 x42 ⟨⟩ ⟨sl,ob,n⟩ y28 f t x h d
        simp only[go_sem,Zf,seval,Zd]at t
        obtain ⟨⟨g32_2,g32_3,g32_88,g32_89⟩,l,og32_1,hn⟩:=t
        subst hn
        have m:=WF.boxL x l (j:=3) rfl
        have q33:=Z0 f
        have q34:=Z2 f
        have q35:=Zt (Z1 f) m
        obtain ⟨x43,a36,a37,D,h⟩:=ZaE h
        simp only[Ak]at D
        simp only[go_sem,Zf,seval, *]
        refine Zc h (fun E h=>?_) (fun E h=>?_)<;>try simp only[go_sem,Zf,seval, *]
        .replace h:=Zw h d
         obtain rfl:=A4 h
         simp only[go_sem,Zf,seval, *]
        .refine Zc h (fun F h=>?_) (fun F h=>?_)<;>try simp only[go_sem,Zf,seval, *]
         .replace h:=Zw h d
          obtain rfl:=A4 h
          simp only[go_sem,Zf,seval, *]
         .refine Zb h fun v44 G h=>Za (by have hh:=Zfw G;first|exact hh|(simp only[go_sem,Zf, *]at hh;exact hh)) ?_
          simp only[go_sem,Zf,seval, *]
          refine Zc h (fun H h=>?_) (fun H h=>?_)<;>try simp only[go_sem,Zf,seval, *]
          .refine Zb h fun v45 I h=>Za (by have hh:=ZlR I;first|exact hh|(simp only[go_sem,Zf, *]at hh;exact hh)) ?_
           simp only[go_sem,Zf,seval, *]
           refine Zc h (fun J h=>?_) (fun J h=>?_)<;>try simp only[go_sem,Zf,seval, *]
           .refine ⟨_,[],[0,1],(A4 h).symm,yF,?_⟩
            simp only[go_sem,Zf,seval, *]
           .replace h:=Zw h d
            obtain rfl:=A4 h
            simp only[go_sem,Zf,seval, *]
          .replace h:=Zw h d
           obtain rfl:=A4 h
           simp only[go_sem,Zf,seval, *]
       .rintro ⟨⟩ ⟨sl,ob,n⟩ u hW46 h
        simp only[go_sem,Zf,seval,Zd]at u
        obtain ⟨⟨g47_2,g47_3,g47_88,g47_89⟩,og47_0,og47_1,hn⟩:=u
        subst hn
        have q48:=ZW (a.nodes.length)
        obtain rfl:=A4 h
        simp only[go_sem,Zf,seval, *]
   .obtain rfl:=A4 h
    simp only[go_sem,Zf,seval, *]
  .obtain rfl:=A4 h
   simp only[go_sem,Zf,seval, *]
 .obtain rfl:=A4 h
  simp only[go_sem,Zf,seval, *]
theorem Zqz {l_0:(List Zg)}{f_1:Zg}{r:((List Zg)×Bool)}(h:Zf5 l_0 f_1=some r):Zm prog J0 123 [(false,[.sl 36 2 (A0 Zr l_0)]),(true,Zr f_1)] [(false,[(false,.sl 36 2 (A0 Zr r.1))]),(false,[(false,.bool r.2)])]:=by
 refine fnk func123 rfl ?_
 unfold Zf5 at h
 simp only[fnS,f123,Zq,go_sem,seval]
 refine Zb h fun _ a h=>Za (Zdg a)<|yA ?_
 refine yB h (fun _ h=>?_) fun _ h=>?_
 refine Zb h fun _ b h=>Za (Y9 b)<|yA ?_
 refine yB h (fun _ h=>?_) fun _ h=>?_
 refine Zb h fun _ c h=>Za (ZiF c)<|yA ?_
 refine yB h (fun _ h=>?_) fun _ h=>?_
 refine Zb h fun _ d h=>Za (Ye d) ?_
 cases h;exact yD
 refine yB h (fun _ h=>?_) fun _ h=>?_
 refine Zb h fun _ e h=>Za (Ye e) ?_
 cases h;exact yD
 refine Zb h fun _ f h=>Za (Zq5 f) ?_
 cases h;exact yD
 refine Zb h fun _ g h=>Za (Ye g) ?_
 cases h;exact yD
 refine Zb h fun _ i h=>Za (Ye i) ?_
 cases h;exact yD
theorem Zi6 {a_0:Zs}{b_1:Zs}{r:Int}(h:Zad a_0 b_1=some r):Zm prog J0 195 [(true,XH a_0),(true,XH b_1)] [(false,[(false,.int .i64 r)])]:=by
 refine fnk func195 rfl ?_
 unfold Zad at h
 simp only[fnS,f195,Zq,go_sem,seval]
 refine Zb h fun _ a h=>Za (Zam a) ?_
 cases h;exact yD
theorem ZlV {l_0:(List Zg)}{a:Zg}{r:((List Zg)×Bool)}(h:ZcC l_0 a=some r):Zm prog J0 125 [(false,[.sl 36 2 (A0 Zr l_0)]),(true,Zr a)] [(false,[(false,.sl 36 2 (A0 Zr r.1))]),(false,[(false,.bool r.2)])]:=by
 refine ZFZ [(4,[0,1,2,3,4,5,6,7,8,9,10,11],true)] func125 rfl ?_
 unfold ZcC at h
 simp only[fnS,f125,Zq,go_sem,Zf,slB,AA,AD,AE,seval]
 refine Zb h fun v1 e1 h=>Za (by have hh:=ZiF e1;first|exact hh|(simp only[go_sem,Zf,slB,AA,AD,AE, *]at hh;exact hh)) ?_
 simp only[go_sem,Zf,slB,AA,AD,AE,seval, *]
 refine Zb h fun v2 e2 h=>Za (by have hh:=Zdg e2;first|exact hh|(simp only[go_sem,Zf,slB,AA,AD,AE, *]at hh;exact hh)) ?_
 simp only[go_sem,Zf,slB,AA,AD,AE,seval, *]
 refine Zc h (fun c3 h=>?_) (fun c3 h=>?_)<;>try simp only[go_sem,Zf,slB,AA,AD,AE,seval, *]
 .refine Zc h (fun c4 h=>?_) (fun c4 h=>?_)<;>try simp only[go_sem,Zf,slB,AA,AD,AE,seval, *]
  .refine Zb h fun v3 e5 h=>Za (by have hh:=Ye e5;first|exact hh|(simp only[go_sem,Zf,slB,AA,AD,AE, *]at hh;exact hh)) ?_
   obtain rfl:=A4 h
   simp only[go_sem,Zf,slB,AA,AD,AE,seval, *]
  .obtain ⟨p6,h⟩:=Zz h
   simp only[go_sem,Zf,slB,AA,AD,AE,seval, *]
   refine Zb h fun v4 e7 h=>Za (by have hh:=Ye e7;first|exact hh|(simp only[go_sem,Zf,slB,AA,AD,AE, *]at hh;exact hh)) ?_
   obtain ⟨p8,h⟩:=Zz h
   simp only[go_sem,Zf,slB,AA,AD,AE,seval, *]
   refine Zb h fun v5 e9 h=>Za (by have hh:=Ye e9;first|exact hh|(simp only[go_sem,Zf,slB,AA,AD,AE, *]at hh;exact hh)) ?_
   obtain ⟨p10,h⟩:=Zz h
   obtain rfl:=A4 h
   simp only[go_sem,Zf,slB,AA,AD,AE,seval, *]
 .refine Zb h fun v6 b h=>Za (by have hh:=Ye b;first|exact hh|(simp only[go_sem,Zf,slB,AA,AD,AE, *]at hh;exact hh)) ?_
  obtain rfl:=A4 h
  simp only[go_sem,Zf,slB,AA,AD,AE,seval, *]
end
section
theorem YB {append_0:Ze}{r:Ze}(h:Yt append_0=some r):Zm prog J0 36 [(true,Qg append_0)] [(true,[(false,.sl 86 4 (A0 Zx r.rules)),(false,.sl 3 1 (A0 Yc r.ends)),(false,.sl 134 3 (A0 Yf r.alphas)),(false,.sl 140 8 (A0 YL r.nodes)),(false,.sl 36 2 (A0 Zr r.facts)),(false,.int .i64 r.tries)])]:=by
 refine fnk func36 rfl ?_
 unfold Yt at h
 simp only[fnS,f36,Zq,go_sem,seval]
 refine Zb h fun f t h=>Za (Zck t)<|yA ?_
 refine Zb h fun g u h=>Za (Zbw u)<|yA ?_
 refine Zb h fun k v h=>Za (Ye v)<|yA ?_
 refine Zn h (fun i a st=>IV [(1,.bp 0 0),(2,.bp 1 0),(3,.bp 2 0),(21,yM (zC append_0.alphas)),(22,yL append_0.alphas.length),(23,yL i)] [.box 46 [.c (yW append_0.rules),.c (yX append_0.ends),.c (zC append_0.alphas),.c (zD append_0.nodes),.c (yU append_0.facts),.c (.int .i64 append_0.tries)],.box 46 [.nil 86 4,.nil 3 1,.nil 134 3,.nil 140 8,.nil 36 2,.c (.int .i64 0)],.box 46 [.row 3,.row 4,.row 5,.nil 140 8,.row 6,.c (.int .i64 append_0.tries)],.row 86 4 (A0 Zx f) 2,.row 3 1 (A0 Yc g) 2,.row 134 3 (A0 Yf a) 2,.row 36 2 (A0 Zr k) 2] st) [(true,224,2)] [0,16,224,64,112,320,160] yF yD ?_ ?_
 rintro _ _ a ⟨_,_,_⟩ _ b l w h _
 simp only[go_sem,seval,Zd]at l
 obtain ⟨⟨_,_,_,x,_,_⟩,_,_,_,_,_,_,_,hn⟩:=l
 subst hn
 have y:=WF.slotL w x (j:=0) rfl
 have:=Z0 b
 have:=Z2 b
 have:=Zt (Z1 b) y
 simp only[*,go_sem,seval]
 refine Zb h fun _ z h=>Za (Zc4 z)<|yA ?_
 refine Zb h fun _ A h=>Za (Ye A) ?_
 obtain ⟨B,h⟩:=Zz h
 try simp only[Nat.reduceLeDiff]at B
 simp only[*,go_sem,seval]
 exact yR h [0,1,2,3,4,247,6]
 rintro a ⟨_,_,_⟩ m _ h
 simp only[go_sem,seval,Zd]at m
 obtain ⟨⟨_,_,_,_,_,_⟩,_,_,_,_,_,_,_,hn⟩:=m
 subst hn
 have:=ZW (append_0.alphas.length)
 simp only[*,go_sem,seval]
 refine Zn h (fun i d st=>IV [(2,.bp 0 0),(3,.bp 1 0),(41,yM (zD append_0.nodes)),(42,yL append_0.nodes.length),(43,yL i)] [.box 46 [.nil 86 4,.nil 3 1,.nil 134 3,.nil 140 8,.nil 36 2,.c (.int .i64 0)],.box 46 [.row 2,.row 3,.row 4,.row 5,.row 6,.c (.int .i64 append_0.tries)],.row 86 4 (A0 Zx f) 2,.row 3 1 (A0 Yc g) 2,.row 134 3 (A0 Yf a) 2,.row 140 8 (A0 YL d) 2,.row 36 2 (A0 Zr k) 2] st) [(true,2,3)] [1,2,3,4,5,87,6] yF yD ?_ ?_
 rintro _ _ d ⟨_,_,_⟩ _ e o C h _
 simp only[go_sem,seval,Zd]at o
 obtain ⟨⟨_,_,D,_,_⟩,_,_,_,_,_,_,_,hn⟩:=o
 subst hn
 have E:=WF.slotL C D (j:=0) rfl
 have:=Z0 e
 have:=Z2 e
 have:=Zt (Z1 e) E
 simp only[*,go_sem,seval]
 refine Zb h fun _ F h=>Za (Qn F)<|yA ?_
 refine Zb h fun _ G h=>Za (ZlY G) ?_
 obtain ⟨H,h⟩:=Zz h
 try simp only[Nat.reduceLeDiff]at H
 simp only[*,go_sem,seval]
 exact yR h [0,1,2,3,4,311,6]
 rintro d ⟨_,_,_⟩ q _ h
 simp only[go_sem,seval,Zd]at q
 obtain ⟨⟨_,_,_,_,_⟩,_,_,_,_,_,_,_,hn⟩:=q
 subst hn
 have:=ZW (append_0.nodes.length)
 cases h;exact yD
theorem ZoL {l_0:(List Zs)}{t_1:Zs}{r:Bool}(h:Zeq l_0 t_1=some r):Zm prog J0 158 [(false,[.sl 150 2 (A0 XH l_0)]),(true,XH t_1)] [(false,[(false,.bool r)])]:=by
 refine fnk func158 rfl ?_
 unfold Zeq at h
 simp only[fnS,f158,Zq,go_sem,seval]
 refine Zn h (fun i _ st=>IV [(3,.bp 0 0),(7,yM (zG l_0)),(8,yL l_0.length),(9,yL i)] [zK 150 (XH t_1)] st) [] [0] yF yD ?_ ?_
 rintro _ _ ⟨⟩ ⟨_,_,_⟩ _ a b e h f
 simp only[go_sem,seval,Zd]at b
 obtain ⟨⟨_,g,_,_⟩,_,hn⟩:=b
 subst hn
 have k:=WF.slotL e g (j:=0) rfl
 have:=Z0 a
 have:=Z2 a
 have:=Zt (Z1 a) k
 simp only[*,go_sem,seval]
 refine Zb h fun _ l h=>Za (Zi6 l)<|yA ?_
 refine yB h (fun _ h=>?_) fun _ h=>?_
 replace h:=Zw h f
 cases h;exact yD
 exact yR h [0]
 rintro ⟨⟩ ⟨_,_,_⟩ d _ h
 simp only[go_sem,seval,Zd]at d
 obtain ⟨⟨_,_,_,_⟩,_,hn⟩:=d
 subst hn
 have:=ZW (l_0.length)
 cases h;exact yD
end
section
theorem Zgc {c_0:Zp}{most_1:Int}{r:(Zh×Zp)}(h:Zaj c_0 most_1=some r):XQ prog J0 JF0 90 (.box 103 (YO c_0)) [(false,[.int .i64 most_1])] [(true,[(false,.str r.1.name),(false,.int .i64 r.1.priority),(false,.sl 137 5 (A0 ZR r.1.cond)),(false,.sl 89 3 (A0 Z3 r.1.thn))])] (.box 103 (YO r.2)):=by
 refine fnh func90 rfl ?_
 unfold Zaj at h
 have a:Z7 ⟨#[114,32,48,58,32,112,40,63,120,41,32,38,32,111,110,40,63,120,44,63,121,41,32,38,32,63,120,32,33,61,32,63,121,32,45,62,32,97,100,100,32,97,116,40,63,121,44,63,120,41]⟩=true:=by decide
 have b:Z7 ⟨#[114,32,48,58,32,97,116,40,63,120,44,49,41,32,38,32,97,116,40,63,121,44,50,41,32,38,32,63,120,32,61,32,63,121,32,45,62,32,100,114,111,112,32,97,116,40,63,120,44,49,41,32,38,32,115,116,111,112]⟩=true:=by decide
 have c:Z7 ⟨#[114,32,49,58,32,111,110,40,63,120,44,63,120,41,32,45,62,32,115,116,111,112]⟩=true:=by decide
 have d:Z7 ⟨#[114,32,49,58,32,111,110,40,63,120,44,63,121,41,32,38,32,111,110,40,63,121,44,63,122,41,32,45,62,32,97,100,100,32,111,110,40,63,120,44,63,122,41]⟩=true:=by decide
 have e:Z7 ⟨#[114,32,49,58,32,112,40,63,120,41,32,38,32,110,111,116,32,113,40,63,120,41,32,45,62,32,97,100,100,32,97,116,40,63,120,44,98,41]⟩=true:=by decide
 have f:Z7 ⟨#[114,32,49,58,32,97,116,40,63,120,44,63,120,41,32,38,32,113,40,49,41,32,45,62,32,97,100,100,32,111,110,40,63,120,44,49,41]⟩=true:=by decide
 have g:Z7 ⟨#[114,32,50,58,32,111,110,40,63,120,44,63,121,41,32,38,32,110,111,116,32,97,116,40,63,121,44,63,122,41,32,45,62,32,97,100,100,32,113,40,63,121,41]⟩=true:=by decide
 have i:Z7 ⟨#[114,32,50,58,32,111,110,40,63,120,44,63,121,41,32,38,32,112,40,63,121,41,32,45,62,32,97,100,100,32,112,40,63,120,41]⟩=true:=by decide
 have j:Z7 ⟨#[114,32,51,58,32,97,116,40,63,120,44,63,121,41,32,38,32,112,40,63,120,41,32,38,32,112,40,63,121,41,32,38,32,63,120,32,60,32,63,121,32,45,62,32,97,100,100,32,122,40,41]⟩=true:=by decide
 have k:Z7 ⟨#[114,32,52,58,32,111,110,40,63,120,44,97,41,32,45,62,32,97,100,100,32,113,40,63,120,41,32,38,32,97,100,100,32,112,40,97,41]⟩=true:=by decide
 have l:Z7 ⟨#[114,32,53,58,32,97,116,40,63,120,44,63,121,41,32,38,32,110,111,116,32,112,40,63,121,41,32,38,32,63,120,32,33,61,32,63,121,32,45,62,32,97,100,100,32,122,40,41]⟩=true:=by decide
 have m:Z7 ⟨#[114,32,55,58,32,122,40,41,32,38,32,111,110,40,63,120,44,63,121,41,32,45,62,32,100,114,111,112,32,122,40,41,32,38,32,97,100,100,32,111,110,40,63,121,44,63,120,41]⟩=true:=by decide
 have o:Z7 ⟨#[114,32,57,58,32,113,40,63,120,41,32,38,32,112,40,63,120,41,32,45,62,32,100,114,111,112,32,112,40,63,120,41]⟩=true:=by decide
 simp only[fnH,f90,Qu,Qp,YT,go_sem,seval,a,b,c,d,e,f,g,i,j,k,l,m,o]
 obtain ⟨p,q,h⟩:=Zy h
 refine Yl (Xm q) ?_
 obtain ⟨t,h⟩:=Zz h
 try simp only[seval]at t
 obtain ⟨u,v,h⟩:=Zy h
 have w:(A0 ZE [(⟨#[114,32,49,58,32,111,110,40,63,120,44,63,121,41,32,38,32,111,110,40,63,121,44,63,122,41,32,45,62,32,97,100,100,32,111,110,40,63,120,44,63,122,41]⟩),(⟨#[114,32,50,58,32,111,110,40,63,120,44,63,121,41,32,38,32,112,40,63,121,41,32,45,62,32,97,100,100,32,112,40,63,120,41]⟩),(⟨#[114,32,48,58,32,112,40,63,120,41,32,38,32,111,110,40,63,120,44,63,121,41,32,38,32,63,120,32,33,61,32,63,121,32,45,62,32,97,100,100,32,97,116,40,63,121,44,63,120,41]⟩),(⟨#[114,32,51,58,32,97,116,40,63,120,44,63,121,41,32,38,32,112,40,63,120,41,32,38,32,112,40,63,121,41,32,38,32,63,120,32,60,32,63,121,32,45,62,32,97,100,100,32,122,40,41]⟩),(⟨#[114,32,52,58,32,111,110,40,63,120,44,97,41,32,45,62,32,97,100,100,32,113,40,63,120,41,32,38,32,97,100,100,32,112,40,97,41]⟩),(⟨#[114,32,49,58,32,97,116,40,63,120,44,63,120,41,32,38,32,113,40,49,41,32,45,62,32,97,100,100,32,111,110,40,63,120,44,49,41]⟩),(⟨#[114,32,49,58,32,112,40,63,120,41,32,38,32,110,111,116,32,113,40,63,120,41,32,45,62,32,97,100,100,32,97,116,40,63,120,44,98,41]⟩),(⟨#[114,32,50,58,32,111,110,40,63,120,44,63,121,41,32,38,32,110,111,116,32,97,116,40,63,121,44,63,122,41,32,45,62,32,97,100,100,32,113,40,63,121,41]⟩),(⟨#[114,32,53,58,32,97,116,40,63,120,44,63,121,41,32,38,32,110,111,116,32,112,40,63,121,41,32,38,32,63,120,32,33,61,32,63,121,32,45,62,32,97,100,100,32,122,40,41]⟩),(⟨#[114,32,57,58,32,113,40,63,120,41,32,38,32,112,40,63,120,41,32,45,62,32,100,114,111,112,32,112,40,63,120,41]⟩),(⟨#[114,32,48,58,32,97,116,40,63,120,44,49,41,32,38,32,97,116,40,63,121,44,50,41,32,38,32,63,120,32,61,32,63,121,32,45,62,32,100,114,111,112,32,97,116,40,63,120,44,49,41,32,38,32,115,116,111,112]⟩),(⟨#[114,32,49,58,32,111,110,40,63,120,44,63,120,41,32,45,62,32,115,116,111,112]⟩),(⟨#[114,32,55,58,32,122,40,41,32,38,32,111,110,40,63,120,44,63,121,41,32,45,62,32,100,114,111,112,32,122,40,41,32,38,32,97,100,100,32,111,110,40,63,121,44,63,120,41]⟩)])[(Int.toNat p.1)]?=some (ZE u):=by rw [List.getElem?_map,v];rfl
 simp only[Ac,Ad,Zrg]at w
 simp only[*,go_sem,seval]
 refine Zb h fun _ x h=>Za (ZmU x) ?_
 cases h;exact yD
theorem ZlT {rules_0:(List Zh)}{facts_1:(List Zg)}{r:(List Yk)}(h:Zcd rules_0 facts_1=some r):Zm prog J0 65 [(false,[.sl 86 4 (A0 Zx rules_0)]),(false,[.sl 36 2 (A0 Zr facts_1)])] [(false,[(true,.sl 62 3 (A0 Q0 r))])]:=by
 refine fnk func65 rfl ?_
 unfold Zcd at h
 simp only[fnS,f65,Zq,go_sem,seval]
 refine Zn h (fun i a st=>IV [(1,yM (yU facts_1)),(5,.p false [.row 0]),(8,yM (yW rules_0)),(9,yL rules_0.length),(10,yL i)] [.row 62 3 (A0 Q0 a) 1] st) [(false,5,0),(true,80,1)] [80] yF yD ?_ ?_
 rintro _ _ a ⟨_,_,_⟩ _ b d f h _
 simp only[go_sem,seval,Zd]at d
 obtain ⟨⟨_,_,g,_,_⟩,_,hn⟩:=d
 subst hn
 have k:=WF.slotL f g (j:=0) rfl
 have:=Z0 b
 have:=Z2 b
 have:=Zt (Z1 b) k
 simp only[*,go_sem,seval]
 obtain ⟨_,l,h⟩:=Zy h
 refine ZCC (Znr l) ?_
 obtain ⟨_,h⟩:=Zz h
 simp only[*,go_sem,seval]
 exact yR h [145]
 rintro a ⟨_,_,_⟩ e _ h
 simp only[go_sem,seval,Zd]at e
 obtain ⟨⟨_,_,_,_,_⟩,_,hn⟩:=e
 subst hn
 have:=ZW (rules_0.length)
 cases h;exact yD
theorem ZmF {rules_0:(List Zh)}{facts_1:(List Zg)}{tries_2:Int}{r:Ze}(h:Zh5 rules_0 facts_1 tries_2=some r):Zm prog J0 35 [(false,[.sl 86 4 (A0 Zx rules_0)]),(false,[.sl 36 2 (A0 Zr facts_1)]),(false,[.int .i64 tries_2])] [(true,[(false,.sl 86 4 (A0 Zx r.rules)),(false,.sl 3 1 (A0 Yc r.ends)),(false,.sl 134 3 (A0 Yf r.alphas)),(false,.sl 140 8 (A0 YL r.nodes)),(false,.sl 36 2 (A0 Zr r.facts)),(false,.int .i64 r.tries)])]:=by
 refine fnk func35 rfl ?_
 unfold Zh5 at h
 simp only[fnS,f35,Zq,go_sem,seval]
 refine Zb h fun _ a h=>Za (Zns a)<|yA ?_
 obtain ⟨_,b,h⟩:=Zy h
 refine ZeU (Zfa b) ?_
 cases h;exact yD
theorem Zj7 {append_0:Ze}{String_1:(List Zg)}{a_2:Zg}{r:Ze}(h:Zeg append_0 String_1 a_2=some r):Zm prog J0 124 [(true,Qg append_0),(false,[.sl 36 2 (A0 Zr String_1)]),(true,Zr a_2)] [(true,[(false,.sl 86 4 (A0 Zx r.rules)),(false,.sl 3 1 (A0 Yc r.ends)),(false,.sl 134 3 (A0 Yf r.alphas)),(false,.sl 140 8 (A0 YL r.nodes)),(false,.sl 36 2 (A0 Zr r.facts)),(false,.int .i64 r.tries)])]:=by
 refine fnk func124 rfl ?_
 unfold Zeg at h
 simp only[fnS,f124,Zq,go_sem,seval]
 refine Zb h fun _ v h=>Za (YB v)<|yA ?_
 obtain ⟨b,w,h⟩:=Zy h
 refine ZeU (Zfa w)<|yA ?_
 refine Zn h (fun i e st=>IV [(3,.bp 0 0),(5,.bp 1 0),(6,.bp 2 0),(7,.bp 3 0),(22,.p false [.row 7]),(23,yL b.nodes.length),(24,yL i)] [.box 46 [.c (yW append_0.rules),.c (yX append_0.ends),.c (zC append_0.alphas),.c (zD append_0.nodes),.c (yU append_0.facts),.c (.int .i64 append_0.tries)],zK 36 (Zr a_2),.box 46 [.nil 86 4,.nil 3 1,.nil 134 3,.nil 140 8,.nil 36 2,.c (.int .i64 0)],.box 46 [.row 4,.row 5,.row 6,.row 7,.row 8,.c (.int .i64 e)],.row 86 4 (A0 Zx b.rules) 2,.row 3 1 (A0 Yc b.ends) 2,.row 134 3 (A0 Yf b.alphas) 2,.row 140 8 (A0 YL b.nodes) 2,.row 36 2 (A0 Zr b.facts) 2] st) [] [0,16,32,80,128,129,130,131,132] yF yD ?_ ?_
 rintro x d e ⟨_,_,_⟩ _ f o y h _
 simp only[go_sem,seval,Zd]at o
 obtain ⟨⟨_,_,_,_,_,_,_⟩,_,_,_,_,_,_,_,z,_,hn⟩:=o
 subst hn
 have A:=WF.rowL y z
 have:=Z0 f
 have:=Z2 f
 have:=Zt (Z1 f) A
 simp only[*,go_sem,seval]
 refine yB h (fun _ h=>?_) fun _ h=>?_
 exact yR h [0,1,2,3,4,5,6,7,8]
 obtain ⟨_,h⟩:=Zz h
 obtain ⟨g,_,h⟩:=Zy h
 simp only[*,go_sem,seval]
 refine Zn h (fun i s st=>match s with|(k,l)=>IV [(3,.bp 0 0),(5,.bp 1 0),(6,.bp 2 0),(7,.bp 3 0),(9,.bp 9 0),(10,yM (.int .i64 k)),(11,yM (.int .i64 l)),(22,.p false [.row 7]),(23,yL b.nodes.length),(24,yL x),(37,yM (zG g.tokens)),(38,yL g.tokens.length),(39,yL i)] [.box 46 [.c (yW append_0.rules),.c (yX append_0.ends),.c (zC append_0.alphas),.c (zD append_0.nodes),.c (yU append_0.facts),.c (.int .i64 append_0.tries)],zK 36 (Zr a_2),.box 46 [.nil 86 4,.nil 3 1,.nil 134 3,.nil 140 8,.nil 36 2,.c (.int .i64 0)],.box 46 [.row 4,.row 5,.row 6,.row 7,.row 8,.c (.int .i64 e)],.row 86 4 (A0 Zx b.rules) 2,.row 3 1 (A0 Yc b.ends) 2,.row 134 3 (A0 Yf b.alphas) 2,.row 140 8 (A0 YL b.nodes) 2,.row 36 2 (A0 Zr b.facts) 2,zK 140 (YL d)] st) [] [0,1,2,3,4,5,6,7,8,73] yF yD ?_ ?_
 rintro _ _ ⟨k,l⟩ ⟨_,_,_⟩ _ m q B h _
 simp only[go_sem,seval,Zd]at q
 obtain ⟨⟨_,_,_,_,_,_,_,_,_,_,C,_,_⟩,_,_,_,_,_,_,_,_,_,_,hn⟩:=q
 subst hn
 have D:=WF.slotL B C (j:=0) rfl
 have:=Z0 m
 have:=Z2 m
 have:=Zt (Z1 m) D
 obtain ⟨_,_,_,_,h⟩:=ZaE h
 simp only[*,go_sem,seval]
 refine Zb h fun _ E h=>Za (ZoL E)<|yA ?_
 refine yB h (fun _ h=>?_) fun _ h=>?_
 exact yR h [0,1,2,3,4,5,6,7,8,9]
 exact yR h [0,1,2,3,4,5,6,7,8,9]
 rintro ⟨k,l⟩ ⟨_,_,_⟩ t _ h
 simp only[go_sem,seval,Zd]at t
 obtain ⟨⟨_,_,_,_,_,_,_,_,_,_,_,_,_⟩,_,_,_,_,_,_,_,_,_,_,hn⟩:=t
 subst hn
 have:=ZW (g.tokens.length)
 simp only[*,go_sem,seval]
 refine yB h (fun _ h=>?_) fun _ h=>?_
 exact yR h [0,1,2,3,4,5,6,7,8]
 obtain ⟨_,h⟩:=Zz h
 obtain ⟨_,_,h⟩:=Zy h
 simp only[*,go_sem,seval]
 refine Zb h fun _ F h=>Za (Zcc F)<|yA ?_
 refine yB h (fun _ h=>?_) fun _ h=>?_
 exact yR h [0,1,2,3,4,5,6,7,8]
 exact yR h [0,1,2,3,4,5,6,7,8]
 rintro e ⟨_,_,_⟩ u _ h
 simp only[go_sem,seval,Zd]at u
 obtain ⟨⟨_,_,_,_,_,_,_⟩,_,_,_,_,_,_,_,_,_,hn⟩:=u
 subst hn
 have:=ZW (b.nodes.length)
 cases h;exact yD
end
section
open Go.RowKit
section
variable {I:Array Nat->World->Prop} {n blk g sf:Nat} {lt:Nat->Nat->Bool} {lb sb:Array Value}
theorem ZjB (p:Nat->Bool) (k i:Nat):Zej p k i i=i:=by
 cases k with
 |zero=>rfl
 |succ k=>rw [Zej,if_neg yE]
theorem Zmc {p:Nat->Bool}{k i j:Nat}(h:i<j) (hk:j - i<=k):Zej p k i j=if p ((i+j) / 2)=true then Zej p (k - 1) ((i+j) / 2+1) j else Zej p (k - 1) i ((i+j) / 2):=by
 obtain ⟨k,rfl⟩:∃k',k=k'+1:=⟨k - 1,yE⟩
 rw [Zej,if_pos h,Nat.add_sub_cancel]
def soM (I:Array Nat->World->Prop) (n blk g sf:Nat) (lt:Nat->Nat->Bool) (lb sb:Array Value) (f:Nat):Prop:=∀(a m b:Nat) {za zm zb:Int}(_:za=a) (_:zm=m) (_:zb=b) (dk:Array Nat) (W:World) (_:I dk W) (_:a<m) (_:m<b) (_:b<=n) (_:b - a<=f),
  Calls prog 190 #[.agg #[.func (.func g) #[] lb,.func (.func sf) #[] sb],.int .i64 za,.int .i64 zm,.int .i64 zb] W (soP I blk W (ZdS lt f a m b dk))
theorem Zyi (h:ZgF I n blk g sf lt lb sb) (f:Nat) (HR:Hid (soM I n blk g sf lt lb sb f)) (a m b:Nat) {za zm zb:Int}(ea:za=a) (em:zm=m) (eb:zb=b) (dk:Array Nat) (W:World) (hI:I dk W) (ham:a<m) (hmb:m<b) (hb:b<=n) (hf:b - a<=f+1) (h1:¬m - a=1) (h2:¬b - m=1) (hc:(a+b) / 2<m):
  Calls prog 190 #[.agg #[.func (.func g) #[] lb,.func (.func sf) #[] sb],.int .i64 za,.int .i64 zm,.int .i64 zb] W (soP I blk W (ZdS lt (f+1) a m b dk)):=by
 subst ea em eb
 have HS:=yS h
 have n62:=h.n62
 have eg:=h.eg
 have hblk:=h.lt _ _ hI
 obtain ⟨i1,o1⟩:=h.box hI (.cells #[.func (.func g) #[] lb,.func (.func sf) #[] sb] 212)
 have HI1:=yS i1
 have HO1:=yS o1
 have HB1:Hid (Blk (W.alloc (.cells #[.func (.func g) #[] lb,.func (.func sf) #[] sb] 212)) W.heap.size 212 #[.func (.func g) #[] lb,.func (.func sf) #[] sb]):=Blk.new _ _ _
 clear hI h i1 o1
 go_enter func190,ntmps190
 obtain ⟨d,q⟩:∃d,d=(a+b) / 2:=⟨_,rfl⟩
 obtain ⟨s0,l⟩:∃s0,s0=if d<m then d+m - b else a:=⟨_,rfl⟩
 obtain ⟨r0,o⟩:∃r0,r0=if d<m then d else m:=⟨_,rfl⟩
 have u:Hid (ZgT lt a m b dk=Zej (fun c=>!lt dk[d+m - 1 - c]! dk[c]!) (b - a) s0 r0):=by
  show _=_
  unfold ZgT
  rw [<-q,<-l,<-o]
 have HE:Hid (∀s,ZgT lt a m b dk=s->∀d1 d2 d3,d1=(if s<m/\m<d+m - s then ZxE dk s m (d+m - s) else dk)->d2=(if a<s/\s<d then ZdS lt f a s d d1 else d1)->d3=(if d<d+m - s/\d+m - s<b then ZdS lt f d (d+m - s) b d2 else d2)->ZdS lt (f+1) a m b dk=d3):=by
  rintro s hs d1 d2 d3 rfl rfl rfl
  rw [ZdS,if_neg h1,if_neg h2]
  simp only[hs,<-q]
 have hb1:(((m:Nat):Int) - a==1)=false:=by simp;omega
 have hb2:(((b:Nat):Int) - m==1)=false:=by simp;omega
 have hw0:((a:Int)+b) % 18446744073709551616=a+b:=by omega
 have hm2:((a:Int)+b) / 2=d:=by omega
 have v:a<d/\d<b/\2*d<=a+b/\a+b<=2*d+1:=by omega
 obtain ⟨g1,g2,g3,g4⟩:=v
 have x:a<=s0/\s0<=r0/\r0<=m/\r0<=d/\d+m<=s0+b:=by
  by_cases hc:d<m
  .rw [if_pos hc]at l o;omega
  .rw [if_neg hc]at l o;omega
 obtain ⟨g5,g6,g7,g8,g9⟩:=x
 have w:(d<m->s0=d+m - b/\r0=d)/\(¬d<m->s0=a/\r0=m):=by
  by_cases hc:d<m
  .rw [if_pos hc]at l o;exact ⟨fun _=>⟨l,o⟩,fun h=>absurd hc h⟩
  .rw [if_neg hc]at l o;exact ⟨fun h=>absurd h hc,fun _=>⟨l,o⟩⟩
 clear l o
 obtain ⟨q1,q2⟩:=w
 have Q1:=yS q1
 have Q2:=yS q2
 clear q1 q2
 have t:=q
 clear q
 rw [<-t]at hc
 clear t
 obtain ⟨q1,q2⟩:=Q1.out hc
 clear Q1 Q2
 go_wp2
 go_loopw [18,19] (fun vi vj wr=>∃(i j k:Nat),vi=.int .i64 i/\vj=.int .i64 j/\s0<=i/\i<=j/\j<=r0/\j - i<=k/\Hid (Zej (fun c=>!lt dk[d+m - 1 - c]! dk[c]!) k i j=ZgT lt a m b dk)/\Hid (I dk wr)/\Hid (Y8 [blk] W wr)/\Hid (Blk wr W.heap.size 212 #[.func (.func g) #[] lb,.func (.func sf) #[] sb])) (fun vi vj _=>(intOf vj).toNat - (intOf vi).toNat)
 case atStart=>exact ⟨s0,r0,b - a,by congr 1;omega,by congr 1;omega,A5 _,yE,A5 _,yE,u.out.symm,HI1,HO1,HB1⟩
 case round=>
  clear HI1 HO1 HB1 u
  obtain ⟨i,j,k,rfl,rfl,hmi,hij,hjb,hk,HH,HI,HO,HB⟩:=hrel
  have c0:=HB.out.at (i:=0) rfl
  have c1:=HB.out.at (i:=1) rfl
  by_cases y:i<j
  .have hl:=HS.out.less dk _ (d+m - 1 - (i+j) / 2) ((i+j) / 2) HI.out yE yE
   rw [show ((d+m - 1 - (i+j) / 2:Nat):Int)=(d:Int)+m - 1 - ((i:Int)+j) / 2 by omega,show (((i+j) / 2:Nat):Int)=((i:Int)+j) / 2 by omega]at hl
   have hh:=Zmc (p:=fun c=>!lt dk[d+m - 1 - c]! dk[c]!) y hk
   have hw:((i:Int)+j) % 18446744073709551616=i+j:=by omega
   cases hlv:lt dk[d+m - 1 - (i+j) / 2]! dk[(i+j) / 2]! with
   |false=>
    rw [hlv]at hl
    rw [hlv,if_pos (show (!false)=true from rfl)]at hh
    have HH2:=yS (hh.symm.trans HH.out)
    clear hh HH
    go_wp2_with fail
    refine hl.mono ?_
    rintro e w1 ⟨rfl,i2,b2⟩
    go_wp2
    exact ⟨⟨(i+j) / 2+1,j,k - 1,by go_num,rfl,yE,yE,yE,yE,HH2,i2,HO.out.trans (Y8.of_below b2 _),HB.out.later b2⟩,by simp [intOf];omega⟩
   |true=>
    rw [hlv]at hl
    rw [hlv,if_neg yG]at hh
    have HH2:=yS (hh.symm.trans HH.out)
    clear hh HH
    go_wp2_with fail
    refine hl.mono ?_
    rintro e w1 ⟨rfl,i2,b2⟩
    go_wp2
    exact ⟨⟨i,(i+j) / 2,k - 1,rfl,by go_num,yE,yE,yE,yE,HH2,i2,HO.out.trans (Y8.of_below b2 _),HB.out.later b2⟩,by simp [intOf];omega⟩
  .obtain rfl:i=j:=by omega
   have hX:ZgT lt a m b dk=i:=HH.out.symm.trans (ZjB _ _ _)
   have HE2:=yS (HE.out i hX)
   clear HH HE hX
   rcases AN i m with p1|p1<;>rcases AN i d with p4|p4<;>rcases AN a i with p3|p3<;>rcases AN (d+m - i) b with p6|p6
   all_goals first|(exfalso;omega)|skip
   all_goals (first|have f1:(i:Int)<m:=by omega|have f1:¬(i:Int)<m:=by omega)
   all_goals (first|have f2:(m:Int)<d+m - i:=by omega|have f2:¬(m:Int)<d+m - i:=by omega)
   all_goals (first|have f3:(a:Int)<i:=by omega|have f3:¬(a:Int)<i:=by omega)
   all_goals (first|have f4:(i:Int)<d:=by omega|have f4:¬(i:Int)<d:=by omega)
   all_goals (first|have f5:(d:Int)<d+m - i:=by omega|have f5:¬(d:Int)<d+m - i:=by omega)
   all_goals (first|have f6:(d:Int)+m - i<b:=by omega|have f6:¬(d:Int)+m - i<b:=by omega)
   .skip
    go_wp2_with fail
    refine (Zee HS.out i m (d+m - i) rfl rfl yE _ _ HI.out yE yE yE).mono ?_;rintro e w1 ⟨rfl,i2,o2⟩;replace HI:=yS i2;replace HO:=yS (HO.out.trans o2);replace HB:=yS (YC HB.out o2 yE);replace c0:=HB.out.at (i:=0) rfl;replace c1:=HB.out.at (i:=1) rfl;clear i2 o2
    go_wp2_with fail
    refine (HR.out a i d rfl rfl rfl _ _ HI.out yE yE yE yE).mono ?_;rintro e w1 ⟨rfl,i2,o2⟩;replace HI:=yS i2;replace HO:=yS (HO.out.trans o2);replace HB:=yS (YC HB.out o2 yE);replace c0:=HB.out.at (i:=0) rfl;replace c1:=HB.out.at (i:=1) rfl;clear i2 o2
    go_wp2_with fail
    refine (HR.out d (d+m - i) b rfl yE rfl _ _ HI.out yE yE yE yE).mono ?_;rintro e w1 ⟨rfl,i2,o2⟩;replace HI:=yS i2;replace HO:=yS (HO.out.trans o2);replace HB:=yS (YC HB.out o2 yE);replace c0:=HB.out.at (i:=0) rfl;replace c1:=HB.out.at (i:=1) rfl;clear i2 o2
    go_wp2
    go_end0
    exact ⟨rfl,by rw [HE2.out _ _ _ (if_pos yE).symm (if_pos yE).symm (if_pos yE).symm];exact HI.out,HO.out⟩
   .skip
    go_wp2_with fail
    refine (Zee HS.out i m (d+m - i) rfl rfl yE _ _ HI.out yE yE yE).mono ?_;rintro e w1 ⟨rfl,i2,o2⟩;replace HI:=yS i2;replace HO:=yS (HO.out.trans o2);replace HB:=yS (YC HB.out o2 yE);replace c0:=HB.out.at (i:=0) rfl;replace c1:=HB.out.at (i:=1) rfl;clear i2 o2
    go_wp2_with fail
    refine (HR.out a i d rfl rfl rfl _ _ HI.out yE yE yE yE).mono ?_;rintro e w1 ⟨rfl,i2,o2⟩;replace HI:=yS i2;replace HO:=yS (HO.out.trans o2);replace HB:=yS (YC HB.out o2 yE);replace c0:=HB.out.at (i:=0) rfl;replace c1:=HB.out.at (i:=1) rfl;clear i2 o2
    go_wp2
    go_end0
    exact ⟨rfl,by rw [HE2.out _ _ _ (if_pos yE).symm (if_pos yE).symm (if_neg yE).symm];exact HI.out,HO.out⟩
   .skip
    go_wp2_with fail
    refine (Zee HS.out i m (d+m - i) rfl rfl yE _ _ HI.out yE yE yE).mono ?_;rintro e w1 ⟨rfl,i2,o2⟩;replace HI:=yS i2;replace HO:=yS (HO.out.trans o2);replace HB:=yS (YC HB.out o2 yE);replace c0:=HB.out.at (i:=0) rfl;replace c1:=HB.out.at (i:=1) rfl;clear i2 o2
    go_wp2
    go_end0
    exact ⟨rfl,by rw [HE2.out _ _ _ (if_pos yE).symm (if_neg yE).symm (if_neg yE).symm];exact HI.out,HO.out⟩
   .skip
    go_wp2_with fail
    refine (HR.out d (d+m - i) b rfl yE rfl _ _ HI.out yE yE yE yE).mono ?_;rintro e w1 ⟨rfl,i2,o2⟩;replace HI:=yS i2;replace HO:=yS (HO.out.trans o2);replace HB:=yS (YC HB.out o2 yE);replace c0:=HB.out.at (i:=0) rfl;replace c1:=HB.out.at (i:=1) rfl;clear i2 o2
    go_wp2
    go_end0
    exact ⟨rfl,by rw [HE2.out _ _ _ (if_neg yE).symm (if_neg yE).symm (if_pos yE).symm];exact HI.out,HO.out⟩
theorem Zzl (h:ZgF I n blk g sf lt lb sb) (f:Nat) (HR:Hid (soM I n blk g sf lt lb sb f)) (a m b:Nat) {za zm zb:Int}(ea:za=a) (em:zm=m) (eb:zb=b) (dk:Array Nat) (W:World) (hI:I dk W) (ham:a<m) (hmb:m<b) (hb:b<=n) (hf:b - a<=f+1) (h1:¬m - a=1) (h2:¬b - m=1) (hc:¬(a+b) / 2<m):
  Calls prog 190 #[.agg #[.func (.func g) #[] lb,.func (.func sf) #[] sb],.int .i64 za,.int .i64 zm,.int .i64 zb] W (soP I blk W (ZdS lt (f+1) a m b dk)):=by
 subst ea em eb
 have HS:=yS h
 have n62:=h.n62
 have eg:=h.eg
 have hblk:=h.lt _ _ hI
 obtain ⟨i1,o1⟩:=h.box hI (.cells #[.func (.func g) #[] lb,.func (.func sf) #[] sb] 212)
 have HI1:=yS i1
 have HO1:=yS o1
 have HB1:Hid (Blk (W.alloc (.cells #[.func (.func g) #[] lb,.func (.func sf) #[] sb] 212)) W.heap.size 212 #[.func (.func g) #[] lb,.func (.func sf) #[] sb]):=Blk.new _ _ _
 clear hI h i1 o1
 go_enter func190,ntmps190
 obtain ⟨d,q⟩:∃d,d=(a+b) / 2:=⟨_,rfl⟩
 obtain ⟨s0,l⟩:∃s0,s0=if d<m then d+m - b else a:=⟨_,rfl⟩
 obtain ⟨r0,o⟩:∃r0,r0=if d<m then d else m:=⟨_,rfl⟩
 have u:Hid (ZgT lt a m b dk=Zej (fun c=>!lt dk[d+m - 1 - c]! dk[c]!) (b - a) s0 r0):=by
  show _=_
  unfold ZgT
  rw [<-q,<-l,<-o]
 have HE:Hid (∀s,ZgT lt a m b dk=s->∀d1 d2 d3,d1=(if s<m/\m<d+m - s then ZxE dk s m (d+m - s) else dk)->d2=(if a<s/\s<d then ZdS lt f a s d d1 else d1)->d3=(if d<d+m - s/\d+m - s<b then ZdS lt f d (d+m - s) b d2 else d2)->ZdS lt (f+1) a m b dk=d3):=by
  rintro s hs d1 d2 d3 rfl rfl rfl
  rw [ZdS,if_neg h1,if_neg h2]
  simp only[hs,<-q]
 have hb1:(((m:Nat):Int) - a==1)=false:=by simp;omega
 have hb2:(((b:Nat):Int) - m==1)=false:=by simp;omega
 have hw0:((a:Int)+b) % 18446744073709551616=a+b:=by omega
 have hm2:((a:Int)+b) / 2=d:=by omega
 have v:a<d/\d<b/\2*d<=a+b/\a+b<=2*d+1:=by omega
 obtain ⟨g1,g2,g3,g4⟩:=v
 have x:a<=s0/\s0<=r0/\r0<=m/\r0<=d/\d+m<=s0+b:=by
  by_cases hc:d<m
  .rw [if_pos hc]at l o;omega
  .rw [if_neg hc]at l o;omega
 obtain ⟨g5,g6,g7,g8,g9⟩:=x
 have w:(d<m->s0=d+m - b/\r0=d)/\(¬d<m->s0=a/\r0=m):=by
  by_cases hc:d<m
  .rw [if_pos hc]at l o;exact ⟨fun _=>⟨l,o⟩,fun h=>absurd hc h⟩
  .rw [if_neg hc]at l o;exact ⟨fun h=>absurd h hc,fun _=>⟨l,o⟩⟩
 clear l o
 obtain ⟨q1,q2⟩:=w
 have Q1:=yS q1
 have Q2:=yS q2
 clear q1 q2
 have t:=q
 clear q
 rw [<-t]at hc
 clear t
 obtain ⟨q1,q2⟩:=Q2.out hc
 clear Q1 Q2
 go_wp2
 go_loopw [18,19] (fun vi vj wr=>∃(i j k:Nat),vi=.int .i64 i/\vj=.int .i64 j/\s0<=i/\i<=j/\j<=r0/\j - i<=k/\Hid (Zej (fun c=>!lt dk[d+m - 1 - c]! dk[c]!) k i j=ZgT lt a m b dk)/\Hid (I dk wr)/\Hid (Y8 [blk] W wr)/\Hid (Blk wr W.heap.size 212 #[.func (.func g) #[] lb,.func (.func sf) #[] sb])) (fun vi vj _=>(intOf vj).toNat - (intOf vi).toNat)
 case atStart=>exact ⟨s0,r0,b - a,by congr 1;omega,by congr 1;omega,A5 _,yE,A5 _,yE,u.out.symm,HI1,HO1,HB1⟩
 case round=>
  clear HI1 HO1 HB1 u
  obtain ⟨i,j,k,rfl,rfl,hmi,hij,hjb,hk,HH,HI,HO,HB⟩:=hrel
  have c0:=HB.out.at (i:=0) rfl
  have c1:=HB.out.at (i:=1) rfl
  by_cases y:i<j
  .have hl:=HS.out.less dk _ (d+m - 1 - (i+j) / 2) ((i+j) / 2) HI.out yE yE
   rw [show ((d+m - 1 - (i+j) / 2:Nat):Int)=(d:Int)+m - 1 - ((i:Int)+j) / 2 by omega,show (((i+j) / 2:Nat):Int)=((i:Int)+j) / 2 by omega]at hl
   have hh:=Zmc (p:=fun c=>!lt dk[d+m - 1 - c]! dk[c]!) y hk
   have hw:((i:Int)+j) % 18446744073709551616=i+j:=by omega
   cases hlv:lt dk[d+m - 1 - (i+j) / 2]! dk[(i+j) / 2]! with
   |false=>
    rw [hlv]at hl
    rw [hlv,if_pos (show (!false)=true from rfl)]at hh
    have HH2:=yS (hh.symm.trans HH.out)
    clear hh HH
    go_wp2_with fail
    refine hl.mono ?_
    rintro e w1 ⟨rfl,i2,b2⟩
    go_wp2
    exact ⟨⟨(i+j) / 2+1,j,k - 1,by go_num,rfl,yE,yE,yE,yE,HH2,i2,HO.out.trans (Y8.of_below b2 _),HB.out.later b2⟩,by simp [intOf];omega⟩
   |true=>
    rw [hlv]at hl
    rw [hlv,if_neg yG]at hh
    have HH2:=yS (hh.symm.trans HH.out)
    clear hh HH
    go_wp2_with fail
    refine hl.mono ?_
    rintro e w1 ⟨rfl,i2,b2⟩
    go_wp2
    exact ⟨⟨i,(i+j) / 2,k - 1,rfl,by go_num,yE,yE,yE,yE,HH2,i2,HO.out.trans (Y8.of_below b2 _),HB.out.later b2⟩,by simp [intOf];omega⟩
  .obtain rfl:i=j:=by omega
   have hX:ZgT lt a m b dk=i:=HH.out.symm.trans (ZjB _ _ _)
   have HE2:=yS (HE.out i hX)
   clear HH HE hX
   rcases AN i m with p1|p1<;>rcases AN i d with p4|p4<;>rcases AN a i with p3|p3<;>rcases AN (d+m - i) b with p6|p6
   all_goals first|(exfalso;omega)|skip
   all_goals (first|have f1:(i:Int)<m:=by omega|have f1:¬(i:Int)<m:=by omega)
   all_goals (first|have f2:(m:Int)<d+m - i:=by omega|have f2:¬(m:Int)<d+m - i:=by omega)
   all_goals (first|have f3:(a:Int)<i:=by omega|have f3:¬(a:Int)<i:=by omega)
   all_goals (first|have f4:(i:Int)<d:=by omega|have f4:¬(i:Int)<d:=by omega)
   all_goals (first|have f5:(d:Int)<d+m - i:=by omega|have f5:¬(d:Int)<d+m - i:=by omega)
   all_goals (first|have f6:(d:Int)+m - i<b:=by omega|have f6:¬(d:Int)+m - i<b:=by omega)
   .skip
    go_wp2_with fail
    refine (Zee HS.out i m (d+m - i) rfl rfl yE _ _ HI.out yE yE yE).mono ?_;rintro e w1 ⟨rfl,i2,o2⟩;replace HI:=yS i2;replace HO:=yS (HO.out.trans o2);replace HB:=yS (YC HB.out o2 yE);replace c0:=HB.out.at (i:=0) rfl;replace c1:=HB.out.at (i:=1) rfl;clear i2 o2
    go_wp2_with fail
    refine (HR.out a i d rfl rfl rfl _ _ HI.out yE yE yE yE).mono ?_;rintro e w1 ⟨rfl,i2,o2⟩;replace HI:=yS i2;replace HO:=yS (HO.out.trans o2);replace HB:=yS (YC HB.out o2 yE);replace c0:=HB.out.at (i:=0) rfl;replace c1:=HB.out.at (i:=1) rfl;clear i2 o2
    go_wp2_with fail
    refine (HR.out d (d+m - i) b rfl yE rfl _ _ HI.out yE yE yE yE).mono ?_;rintro e w1 ⟨rfl,i2,o2⟩;replace HI:=yS i2;replace HO:=yS (HO.out.trans o2);replace HB:=yS (YC HB.out o2 yE);replace c0:=HB.out.at (i:=0) rfl;replace c1:=HB.out.at (i:=1) rfl;clear i2 o2
    go_wp2
    go_end0
    exact ⟨rfl,by rw [HE2.out _ _ _ (if_pos yE).symm (if_pos yE).symm (if_pos yE).symm];exact HI.out,HO.out⟩
   .skip
    go_wp2_with fail
    refine (Zee HS.out i m (d+m - i) rfl rfl yE _ _ HI.out yE yE yE).mono ?_;rintro e w1 ⟨rfl,i2,o2⟩;replace HI:=yS i2;replace HO:=yS (HO.out.trans o2);replace HB:=yS (YC HB.out o2 yE);replace c0:=HB.out.at (i:=0) rfl;replace c1:=HB.out.at (i:=1) rfl;clear i2 o2
    go_wp2_with fail
    refine (HR.out d (d+m - i) b rfl yE rfl _ _ HI.out yE yE yE yE).mono ?_;rintro e w1 ⟨rfl,i2,o2⟩;replace HI:=yS i2;replace HO:=yS (HO.out.trans o2);replace HB:=yS (YC HB.out o2 yE);replace c0:=HB.out.at (i:=0) rfl;replace c1:=HB.out.at (i:=1) rfl;clear i2 o2
    go_wp2
    go_end0
    exact ⟨rfl,by rw [HE2.out _ _ _ (if_pos yE).symm (if_neg yE).symm (if_pos yE).symm];exact HI.out,HO.out⟩
   .skip
    go_wp2_with fail
    refine (Zee HS.out i m (d+m - i) rfl rfl yE _ _ HI.out yE yE yE).mono ?_;rintro e w1 ⟨rfl,i2,o2⟩;replace HI:=yS i2;replace HO:=yS (HO.out.trans o2);replace HB:=yS (YC HB.out o2 yE);replace c0:=HB.out.at (i:=0) rfl;replace c1:=HB.out.at (i:=1) rfl;clear i2 o2
    go_wp2
    go_end0
    exact ⟨rfl,by rw [HE2.out _ _ _ (if_pos yE).symm (if_neg yE).symm (if_neg yE).symm];exact HI.out,HO.out⟩
   .skip
    go_wp2_with fail
    refine (HR.out a i d rfl rfl rfl _ _ HI.out yE yE yE yE).mono ?_;rintro e w1 ⟨rfl,i2,o2⟩;replace HI:=yS i2;replace HO:=yS (HO.out.trans o2);replace HB:=yS (YC HB.out o2 yE);replace c0:=HB.out.at (i:=0) rfl;replace c1:=HB.out.at (i:=1) rfl;clear i2 o2
    go_wp2
    go_end0
    exact ⟨rfl,by rw [HE2.out _ _ _ (if_neg yE).symm (if_pos yE).symm (if_neg yE).symm];exact HI.out,HO.out⟩
   .skip
    go_wp2
    go_end0
    exact ⟨rfl,by rw [HE2.out _ _ _ (if_neg yE).symm (if_neg yE).symm (if_neg yE).symm];exact HI.out,HO.out⟩
end
end
section
open Go.RowKit
section
variable {I:Array Nat->World->Prop} {n blk g sf:Nat} {lt:Nat->Nat->Bool} {lb sb:Array Value}
theorem ZtS (h:ZgF I n blk g sf lt lb sb) (f:Nat) (HR:Hid (soM I n blk g sf lt lb sb f)) (a m b:Nat) {za zm zb:Int}(ea:za=a) (em:zm=m) (eb:zb=b) (dk:Array Nat) (W:World) (hI:I dk W) (l:a<m) (o:m<b) (hb:b<=n) (hf:b - a<=f+1):
  Calls prog 190 #[.agg #[.func (.func g) #[] lb,.func (.func sf) #[] sb],.int .i64 za,.int .i64 zm,.int .i64 zb] W (soP I blk W (ZdS lt (f+1) a m b dk)):=by
 subst ea em eb
 by_cases h3:¬m - a=1/\¬b - m=1
 .by_cases hc:(a+b) / 2<m
  .exact Zyi h f HR a m b rfl rfl rfl dk W hI l o hb hf h3.1 h3.2 hc
  .exact Zzl h f HR a m b rfl rfl rfl dk W hI l o hb hf h3.1 h3.2 hc
 have HS:=yS h
 have n62:=h.n62
 have eg:=h.eg
 have hblk:=h.lt _ _ hI
 obtain ⟨i1,o1⟩:=h.box hI (.cells #[.func (.func g) #[] lb,.func (.func sf) #[] sb] 212)
 have HI1:=yS i1
 have HO1:=yS o1
 have HB1:Hid (Blk (W.alloc (.cells #[.func (.func g) #[] lb,.func (.func sf) #[] sb] 212)) W.heap.size 212 #[.func (.func g) #[] lb,.func (.func sf) #[] sb]):=Blk.new _ _ _
 clear hI h i1 o1
 go_enter func190,ntmps190
 by_cases h1:m - a=1
 .have HE:Hid (ZdS lt (f+1) a m b dk=upR dk a (Zej (fun h=>lt dk[h]! dk[a]!) (b - m) m b - 1 - a)):=by
   show _=_
   rw [ZdS,if_pos h1]
  have u:(((m:Nat):Int) - a==1)=true:=by simp;omega
  go_wp2
  go_loopw [8,9] (fun vi vj wr=>∃(i j k:Nat),vi=.int .i64 i/\vj=.int .i64 j/\m<=i/\i<=j/\j<=b/\j - i<=k/\Hid (Zej (fun h=>lt dk[h]! dk[a]!) k i j=Zej (fun h=>lt dk[h]! dk[a]!) (b - m) m b)/\Hid (I dk wr)/\Hid (Y8 [blk] W wr)/\Hid (Blk wr W.heap.size 212 #[.func (.func g) #[] lb,.func (.func sf) #[] sb])) (fun vi vj _=>(intOf vj).toNat - (intOf vi).toNat)
  case atStart=>exact ⟨m,b,b - m,rfl,rfl,A5 _,yE,A5 _,A5 _,rfl,HI1,HO1,HB1⟩
  case round=>
   clear HI1 HO1 HB1
   obtain ⟨i,j,k,rfl,rfl,v,w,x,hk,HH,HI,HO,HB⟩:=hrel
   have c0:=HB.out.at (i:=0) rfl
   have c1:=HB.out.at (i:=1) rfl
   by_cases d:i<j
   .have hl:=HS.out.less dk _ ((i+j) / 2) a HI.out yE yE
    rw [show (((i+j) / 2:Nat):Int)=((i:Int)+j) / 2 by omega]at hl
    have hh:=Zmc (p:=fun h=>lt dk[h]! dk[a]!) d hk
    have hw:((i:Int)+j) % 18446744073709551616=i+j:=by omega
    cases hlv:lt dk[(i+j) / 2]! dk[a]! with
    |true=>
     rw [hlv]at hl
     rw [hlv,if_pos rfl]at hh
     have HH2:=yS (hh.symm.trans HH.out)
     clear hh HH
     go_wp2_with fail
     refine hl.mono ?_
     rintro e w1 ⟨rfl,i2,b2⟩
     go_wp2
     exact ⟨⟨(i+j) / 2+1,j,k - 1,by go_num,rfl,yE,yE,yE,yE,HH2,i2,HO.out.trans (Y8.of_below b2 _),HB.out.later b2⟩,by simp [intOf];omega⟩
    |false=>
     rw [hlv]at hl
     rw [hlv,if_neg yG]at hh
     have HH2:=yS (hh.symm.trans HH.out)
     clear hh HH
     go_wp2_with fail
     refine hl.mono ?_
     rintro e w1 ⟨rfl,i2,b2⟩
     go_wp2
     exact ⟨⟨i,(i+j) / 2,k - 1,rfl,by go_num,yE,yE,yE,yE,HH2,i2,HO.out.trans (Y8.of_below b2 _),HB.out.later b2⟩,by simp [intOf];omega⟩
   .obtain rfl:i=j:=by omega
    have HX:Hid (Zej (fun h=>lt dk[h]! dk[a]!) (b - m) m b=i):=HH.out.symm.trans (ZjB _ _ _)
    clear HH
    go_wp2
    go_loopw [11] (fun vk c=>∃t:Nat,t<=i - 1 - a/\vk=.int .i64 ((a+t:Nat):Int)/\Hid (I (upR dk a t) c)/\Hid (Y8 [blk] W c)/\Hid (Blk c W.heap.size 212 #[.func (.func g) #[] lb,.func (.func sf) #[] sb])) (fun vk _=>i - (intOf vk).toNat)
    case atStart=>exact ⟨0,AC _,rfl,HI,HO,HB⟩
    case round=>
     clear HI HO HB c0 c1
     obtain ⟨t,ht,rfl,HI,HO,HB⟩:=hrel
     have c1:=HB.out.at (i:=1) rfl
     by_cases q:a+t<i - 1
     .obtain ⟨W',e1,e2,e3⟩:=HS.out.swap _ _ (a+t) (a+t+1) HI.out yE yE
      rw [show ((a+t+1:Nat):Int)=((a+t:Nat):Int)+1 by omega]at e1
      have HB':=yS (YC HB.out e3 yE)
      have HO':=yS (HO.out.trans e3)
      have HI':=yS e2
      clear e2 e3
      generalize hq:((a+t:Nat):Int)=z at *
      go_wp2
      exact ⟨⟨t+1,yE,by go_num,HI',HO',HB'⟩,by simp [intOf];omega⟩
     .obtain rfl:t=i - 1 - a:=by omega
      generalize hq:((a+(i - 1 - a):Nat):Int)=z at *
      go_wp2
      go_end0
      exact ⟨rfl,by rw [HE.out,HX.out];exact HI.out,HO.out⟩
 .by_cases h2:b - m=1
  .have HE:Hid (ZdS lt (f+1) a m b dk=Ztq dk m (m - Zej (fun h=>!lt dk[m]! dk[h]!) (m - a) a m)):=by
    show _=_
    rw [ZdS,if_neg h1,if_pos h2]
   have u:(((m:Nat):Int) - a==1)=false:=by simp;omega
   have hb2:(((b:Nat):Int) - m==1)=true:=by simp;omega
   go_wp2
   go_loopw [12,13] (fun vi vj wr=>∃(i j k:Nat),vi=.int .i64 i/\vj=.int .i64 j/\a<=i/\i<=j/\j<=m/\j - i<=k/\Hid (Zej (fun h=>!lt dk[m]! dk[h]!) k i j=Zej (fun h=>!lt dk[m]! dk[h]!) (m - a) a m)/\Hid (I dk wr)/\Hid (Y8 [blk] W wr)/\Hid (Blk wr W.heap.size 212 #[.func (.func g) #[] lb,.func (.func sf) #[] sb])) (fun vi vj _=>(intOf vj).toNat - (intOf vi).toNat)
   case atStart=>exact ⟨a,m,m - a,rfl,rfl,A5 _,yE,A5 _,A5 _,rfl,HI1,HO1,HB1⟩
   case round=>
    clear HI1 HO1 HB1
    obtain ⟨i,j,k,rfl,rfl,v,w,x,hk,HH,HI,HO,HB⟩:=hrel
    have c0:=HB.out.at (i:=0) rfl
    have c1:=HB.out.at (i:=1) rfl
    by_cases d:i<j
    .have hl:=HS.out.less dk _ m ((i+j) / 2) HI.out yE yE
     rw [show (((i+j) / 2:Nat):Int)=((i:Int)+j) / 2 by omega]at hl
     have hh:=Zmc (p:=fun h=>!lt dk[m]! dk[h]!) d hk
     have hw:((i:Int)+j) % 18446744073709551616=i+j:=by omega
     cases hlv:lt dk[m]! dk[(i+j) / 2]! with
     |false=>
      rw [hlv]at hl
      rw [hlv,if_pos (show (!false)=true from rfl)]at hh
      have HH2:=yS (hh.symm.trans HH.out)
      clear hh HH
      go_wp2_with fail
      refine hl.mono ?_
      rintro e w1 ⟨rfl,i2,b2⟩
      go_wp2
      exact ⟨⟨(i+j) / 2+1,j,k - 1,by go_num,rfl,yE,yE,yE,yE,HH2,i2,HO.out.trans (Y8.of_below b2 _),HB.out.later b2⟩,by simp [intOf];omega⟩
     |true=>
      rw [hlv]at hl
      rw [hlv,if_neg yG]at hh
      have HH2:=yS (hh.symm.trans HH.out)
      clear hh HH
      go_wp2_with fail
      refine hl.mono ?_
      rintro e w1 ⟨rfl,i2,b2⟩
      go_wp2
      exact ⟨⟨i,(i+j) / 2,k - 1,rfl,by go_num,yE,yE,yE,yE,HH2,i2,HO.out.trans (Y8.of_below b2 _),HB.out.later b2⟩,by simp [intOf];omega⟩
    .obtain rfl:i=j:=by omega
     have HX:Hid (Zej (fun h=>!lt dk[m]! dk[h]!) (m - a) a m=i):=HH.out.symm.trans (ZjB _ _ _)
     clear HH
     go_wp2
     go_loopw [15] (fun vk c=>∃t:Nat,t<=m - i/\vk=.int .i64 ((m - t:Nat):Int)/\Hid (I (Ztq dk m t) c)/\Hid (Y8 [blk] W c)/\Hid (Blk c W.heap.size 212 #[.func (.func g) #[] lb,.func (.func sf) #[] sb])) (fun vk _=>(intOf vk).toNat)
     case atStart=>exact ⟨0,AC _,rfl,HI,HO,HB⟩
     case round=>
      clear HI HO HB c0 c1
      obtain ⟨t,ht,rfl,HI,HO,HB⟩:=hrel
      have c1:=HB.out.at (i:=1) rfl
      by_cases q:i<m - t
      .obtain ⟨W',e1,e2,e3⟩:=HS.out.swap _ _ (m - t) (m - t - 1) HI.out yE yE
       rw [show ((m - t - 1:Nat):Int)=((m - t:Nat):Int) - 1 by omega]at e1
       have HB':=yS (YC HB.out e3 yE)
       have HO':=yS (HO.out.trans e3)
       have HI':=yS e2
       clear e2 e3
       generalize hq:((m - t:Nat):Int)=z at *
       go_wp2
       exact ⟨⟨t+1,yE,by go_num,HI',HO',HB'⟩,by simp [intOf];omega⟩
      .obtain rfl:t=m - i:=by omega
       generalize hq:((m - (m - i):Nat):Int)=z at *
       go_wp2
       go_end0
       exact ⟨rfl,by rw [HE.out,HX.out];exact HI.out,HO.out⟩
  .exact absurd ⟨h1,h2⟩ h3
theorem Zhf (h:ZgF I n blk g sf lt lb sb):∀f:Nat,soM I n blk g sf lt lb sb f
 |0=>fun a m b _ _ _ _ _ _ dk W hI c d hb hf=>by omega
 |f+1=>fun a m b _ _ _ ea em eb dk W hI c d hb hf=>ZtS h f (Zhf h f) a m b ea em eb dk W hI c d hb hf
end
end
end Go.Proofs.YtaafhjecikjhbaaGreatDoor
