/- Texts of this proof, joined: Dp18, Dp19, Dp20, Dp21, Dp22, Open, LawFnEngineModel. What each holds is said at its theorems. -/
import Derived.Test.YthjnneiibkknhaaGreatDoorEngineModelQ7
import Derived.Test.YthjnneiibkknhaaGreatDoorEngineModelQ8
import Derived.Test.YthjnneiibkknhaaGreatDoorEngineModelQ9
import Derived.Test.YthjnneiibkknhaaGreatDoorEngineModelQ1
import Derived.Deep.Slices
import Derived.ChangeArms
import Derived.ProofKit
import Derived.Test.YthjnneiibkknhaaGreatDoorEngineModelQ4
open List renaming map→A0
open Option.some renaming inj→A4
open Go.Proofs.Tryz
set_option linter.unusedSimpArgs false
set_option linter.unusedVariables false
set_option maxRecDepth 1000000
set_option maxHeartbeats 4000000
namespace Go.Proofs.YthjnneiibkknhaaGreatDoor
section
theorem Zoo {c_0:l1CurD}{a:Bool}{r:((List Zf)×l1CurD)}(h:s_l14Rules c_0 a=some r):SoundH prog J0 JF0 16 (.box 71 (el1Cur c_0)) [(false,[.bool a])] [(false,[(false,.sl 76 4 (A0 eRule r.1))])] (.box 71 (el1Cur r.2)):=by
 refine fnh func16 rfl ?_
 unfold s_l14Rules at h
 have k:Z9 ⟨#[114]⟩=true:=by decide
 simp only[fnH,f16,ZeR,Zez,XY,go_sem,seval,k]
 obtain ⟨_,l,h⟩:=ZE h
 refine Zan (s_l1Below_ok l)<|yA ?_
 refine Yr h (λs st=>match s with|(b,d,e,f,g)=>IV [(0,.bp 0 0),(1,yM (.bool a)),(5,.p false [.row 1]),(6,yM (.int .i64 g))] [.box 71 [.c (zG b),.c (.int .i64 d),.c (.int .i64 e)],.row 76 4 (A0 eRule f) 2] st) [] [0,17] yF yD ?_
 rintro ⟨b,d,e,f,g⟩ ⟨_,_,_⟩ _ j _ h m
 simp only[go_sem,seval,Zc]at j
 obtain ⟨⟨_,_,_,_⟩,_,_,hn⟩:=j
 subst hn
 simp only[*,go_sem,seval]
 refine yB h (λ_ h=>?_) λ_ h=>?_
 obtain ⟨_,o,h⟩:=ZE h
 refine Zan (s_l14Known_ok o)<|yA ?_
 refine Zb h λ_ q h=>Za (s_FormatInt_ok q) ?_
 obtain ⟨t,h⟩:=Zq h
 simp only[go_sem]at t
 obtain ⟨u,h⟩:=Zq h
 try simp only[Nat.reduceLeDiff]at u
 simp only[*,go_sem,seval]
 exact yR h [0,242]
 replace h:=Zn h m
 cases h;exact yD
theorem Zjm {rules_0:(List Zf)}{base_1:(List Zd)}{r:((List Zd)×Zu×Bool)}(h:i_GroundReasons rules_0 base_1=some r):Sound prog J0 18 [(false,[.sl 76 4 (A0 eRule rules_0)]),(false,[.sl 40 2 (A0 eFact base_1)])] [(false,[(false,.sl 40 2 (A0 eFact r.1))]),(true,[(false,.int .i64 r.2.1.nodes),(false,.sl 125 3 (A0 eReason r.2.1.reasons))]),(false,[(false,.bool r.2.2)])]:=by
 refine fnk func18 rfl ?_
 unfold i_GroundReasons at h
 simp only[fnS,f18,Zk,go_sem,seval]
 refine Zb h λ_ a h=>Za (i_ground_ok a) ?_
 cases h;exact yD
theorem Zjn {a:(List Zf)}{String_1:(List Zd)}{r:((List Zd)×Bool)}(h:s_PossibleFacts a String_1=some r):Sound prog J0 74 [(false,[.sl 76 4 (A0 eRule a)]),(false,[.sl 40 2 (A0 eFact String_1)])] [(false,[(false,.sl 40 2 (A0 eFact r.1))]),(false,[(false,.bool r.2)])]:=by
 refine fnn 4 func74 rfl ?_
 unfold s_PossibleFacts at h
 simp only[fnN,f74,Zk,go_sem,seval]
 refine Zb h λ_ B h=>Za (s_AreLogical_ok B)<|yA ?_
 refine yB h (λ_ h=>?_) λ_ h=>?_
 refine Zb h λ_ C h=>Za (s_AreFacts_ok C)<|yA ?_
 refine yB h (λ_ h=>?_) λ_ h=>?_
 refine Zb h λ_ D h=>Za (s_l2Copies_ok D)<|yA ?_
 refine Yr h (λs st=>match s with|(b,o)=>IV [(0,yM (yW a)),(6,.p false [.n (yU b)]),(7,yM (.bool o))] [] st) [(false,6,4096)] [] yF yD ?_
 rintro ⟨b,o⟩ ⟨_,_,_⟩ _ q _ h t
 simp only[go_sem,seval,Zc]at q
 obtain ⟨⟨_,_,_⟩,hn⟩:=q
 subst hn
 simp only[*,go_sem,seval]
 refine yB h (λ_ h=>?_) λ_ h=>?_
 refine Zh h (λi e st=>IV [(0,yM (yW a)),(6,.p false [.n (yU e)]),(8,.p false [.n (yU b)]),(9,yL i)] [] st) [] [] yF yD ?_ ?_
 rintro u E e ⟨_,_,_⟩ _ d v F h G
 simp only[go_sem,seval,Zc]at v
 obtain ⟨⟨H,_,_,_⟩,hn⟩:=v
 subst hn
 have I:=WF.slotL F H (j:=0) rfl
 have:=Zz d
 have:=ZC d
 have:=Zj (ZA d) I
 simp only[*,go_sem,seval]
 obtain ⟨_,J,h⟩:=ZE h
 refine Zkx (s_l14Positive_ok J)<|yA ?_
 refine Zb h λf K h=>Za (s_l6Tokens_ok K)<|yA ?_
 refine Zh h (λi g st=>IV [(0,yM (yW a)),(6,.p false [.n (yU g)]),(8,.p false [.n (yU b)]),(9,yL u),(10,.p false [.row 0]),(11,yL i)] [.row 132 2 (A0 eToken f) 2] st) [] [160] yF yD ?_ ?_
 rintro L _ g ⟨_,_,_⟩ _ k w M h _
 simp only[go_sem,seval,Zc]at w
 obtain ⟨⟨_,_,_,_,_,_⟩,N,hn⟩:=w
 subst hn
 have O:=WF.rowL M N
 have:=Zz k
 have:=ZC k
 have:=Zj (ZA k) O
 simp only[*,go_sem,seval]
 refine Zh h (λi l st=>IV [(0,yM (yW a)),(6,.p false [.n (yU l)]),(8,.p false [.n (yU b)]),(9,yL u),(10,.p false [.row 0]),(11,yL L),(12,yL i)] [.row 132 2 (A0 eToken f) 2] st) [] [0] yF yD ?_ ?_
 rintro _ _ l ⟨_,_,_⟩ _ m x P h _
 simp only[go_sem,seval,Zc]at x
 obtain ⟨⟨Q,_,_,_,_,_,_⟩,_,hn⟩:=x
 subst hn
 have R:=WF.elL (WF.slotD P Q (j:=0) rfl) d (j:=3) rfl
 have:=Zz m
 have:=ZC m
 have:=Zj (ZA m) R
 simp only[*,go_sem,seval]
 refine Zb h λ_ S h=>Za (s_Instance_ok S)<|yA ?_
 refine Zb h λ_ T h=>Za (s_l2Put_ok T)<|yA ?_
 exact yC h [(false,6,4096)] [0]
 rintro l ⟨_,_,_⟩ y _ h
 simp only[go_sem,seval,Zc]at y
 obtain ⟨⟨_,_,_,_,_,_,_⟩,_,hn⟩:=y
 subst hn
 have:=Zx (E.thn.length)
 simp only[*,go_sem,seval]
 exact yR h [0]
 rintro g ⟨_,_,_⟩ z _ h
 simp only[go_sem,seval,Zc]at z
 obtain ⟨⟨_,_,_,_,_,_⟩,_,hn⟩:=z
 subst hn
 have:=Zx (f.length)
 simp only[*,go_sem,seval]
 refine yB h (λ_ h=>?_) λ_ h=>?_
 replace h:=Zn h G
 replace h:=Zn h t
 cases h;exact yD
 exact yR h []
 rintro e ⟨_,_,_⟩ A _ h
 simp only[go_sem,seval,Zc]at A
 obtain ⟨⟨_,_,_,_⟩,hn⟩:=A
 subst hn
 have:=Zx (a.length)
 simp only[*,go_sem,seval]
 exact yR h []
 replace h:=Zn h t
 iterate 3 (cases h;exact yD)
theorem Zfa {rules_0:(List Zf)}{l_1:(List Zr)}{fired_2:(List ZK)}{r:(List ZF)}(h:i_FreshChoices rules_0 l_1 fired_2=some r):Sound prog J0 58 [(false,[.sl 76 4 (A0 eRule rules_0)]),(false,[.sl 64 3 (A0 eStamp l_1)]),(false,[.sl 94 2 (A0 eFiring fired_2)])] [(false,[(false,.sl 112 7 (A0 eChoice r))])]:=by
 refine fnk func58 rfl ?_
 unfold i_FreshChoices at h
 simp only[fnS,f58,Zk,go_sem,seval]
 refine Zb h λ_ g h=>Za (i_AreRules_ok g)<|yA ?_
 refine yB h (λ_ h=>?_) λ_ h=>?_
 refine Zb h λ_ k h=>Za (i_IsMemory_ok k)<|yA ?_
 refine yB h (λ_ h=>?_) λ_ h=>?_
 refine Zb h λ_ l h=>Za (i_FactsIn_ok l)<|yA ?_
 obtain ⟨a,m,h⟩:=ZE h
 refine Zkx (i_allMatches_ok m)<|yA ?_
 refine Zh h (λi b st=>IV [(0,yM (yW rules_0)),(1,yM (zB l_1)),(2,yM (zD fired_2)),(7,.p false [.row 0]),(23,yM (.sl 110 3 (A0 eMatch a))),(24,yL a.length),(25,yL i)] [.row 112 7 (A0 eChoice b) 2] st) [(false,7,0)] [256] yF yD ?_ ?_
 rintro _ _ b ⟨_,_,_⟩ _ d e q h _
 simp only[go_sem,seval,Zc]at e
 obtain ⟨⟨_,_,_,_,t,_,_⟩,_,hn⟩:=e
 subst hn
 have u:=WF.slotL q t (j:=0) rfl
 have:=Zz d
 have:=ZC d
 have:=Zj (ZA d) u
 simp only[*,go_sem,seval]
 refine Zb h λ_ v h=>Za (i_choiceOf_ok v)<|yA ?_
 refine Zb h λ_ w h=>Za (i_HasFired_ok w)<|yA ?_
 refine yB h (λ_ h=>?_) λ_ h=>?_
 exact yR h [0]
 obtain ⟨x,h⟩:=Zq h
 try simp only[Nat.reduceLeDiff]at x
 simp only[*,go_sem,seval]
 exact yR h [353]
 rintro b ⟨_,_,_⟩ f _ h
 simp only[go_sem,seval,Zc]at f
 obtain ⟨⟨_,_,_,_,_,_,_⟩,_,hn⟩:=f
 subst hn
 have:=Zx (a.length)
 simp only[*,go_sem,seval]
 refine Zb h λ_ y h=>Za (i_SortChoices_ok y) ?_
 iterate 3 (cases h;exact yD)
end
section
theorem ZjR {code_0:(List Int)}{r:((List Zf)×(List Zd))}(h:s_DrawMonotone code_0=some r):Sound prog J0 5 [(false,[.sl 5 1 (A0 Zfx code_0)])] [(false,[(false,.sl 76 4 (A0 eRule r.1))]),(false,[(false,.sl 40 2 (A0 eFact r.2))])]:=by
 refine fnk func5 rfl ?_
 unfold s_DrawMonotone at h
 simp only[fnS,f5,Zk,go_sem,seval]
 obtain ⟨_,a,h⟩:=ZE h
 refine ZHv (s_l1New_ok a)<|yA ?_
 obtain ⟨_,b,h⟩:=ZE h
 refine Zan (Zoo b)<|yA ?_
 obtain ⟨_,c,h⟩:=ZE h
 refine Zan (s_l14Base_ok c) ?_
 cases h;exact yD
theorem Zq3 {rules_0:(List Zf)}{base_1:(List Zd)}{r:((List Zd)×Bool)}(h:i_ModelOf rules_0 base_1=some r):Sound prog J0 6 [(false,[.sl 76 4 (A0 eRule rules_0)]),(false,[.sl 40 2 (A0 eFact base_1)])] [(false,[(false,.sl 40 2 (A0 eFact r.1))]),(false,[(false,.bool r.2)])]:=by
 refine fnk func6 rfl ?_
 unfold i_ModelOf at h
 simp only[fnS,f6,Zk,go_sem,seval]
 refine Zb h λ_ a h=>Za (Zjm a)<|yA ?_
 refine yB h (λ_ h=>?_) λ_ h=>?_
 refine Zb h λ_ b h=>Za (i_believed_ok b) ?_
 iterate 2 (cases h;exact yD)
theorem Zn7 {d:(List Zf)}{e:(List Zd)}{r:((List Zd)×Zu×(List l14CauseD)×Bool)}(h:s_l14Ground d e=some r):Sound prog J0 41 [(false,[.sl 76 4 (A0 eRule d)]),(false,[.sl 40 2 (A0 eFact e)])] [(false,[(false,.sl 40 2 (A0 eFact r.1))]),(true,[(false,.int .i64 r.2.1.nodes),(false,.sl 125 3 (A0 eReason r.2.1.reasons))]),(false,[(false,.any)]),(false,[(false,.bool r.2.2.2)])]:=by
 refine fnk func41 rfl ?_
 unfold s_l14Ground at h
 simp only[fnS,f41,Zk,go_sem,seval]
 refine Zb h λb I h=>Za (Zjn I)<|yA ?_
 refine yB h (λ_ h=>?_) λ_ h=>?_
 refine Zh h (λi s st=>match s with|(g,k)=>IV [(0,yM (yW d)),(1,yM (yU e)),(5,.bp 0 0),(8,.p false [.row 1]),(10,.bp 2 0),(11,.p false [.row 4]),(12,yL i)] [.box 52 [.c (.int .i64 0),.nil 125 3],.row 40 2 (A0 eFact b.1) 2,.box 52 [.c (.int .i64 ((b.1.length:Nat):Int)),.row 3],.row 125 3 (A0 eReason g) 2,.row 139 3 (A0 el14Cause k) 2] st) [(true,240,1)] [16,96,240,352,272] yF yD ?_ ?_
 rintro _ _ ⟨g,k⟩ ⟨_,_,_⟩ _ l z J h _
 simp only[go_sem,seval,Zc]at z
 obtain ⟨⟨_,K,_,_,_,_,_⟩,_,_,_,_,_,hn⟩:=z
 subst hn
 have L:=WF.slotL J K (j:=0) rfl
 have:=Zz l
 have:=ZC l
 have:=Zj (ZA l) L
 simp only[*,go_sem,seval]
 refine Zb h λ_ M h=>Za (s_FindFact_ok M) ?_
 obtain ⟨N,h⟩:=Zq h
 try simp only[Nat.reduceLeDiff]at N
 obtain ⟨O,h⟩:=Zq h
 try simp only[Nat.reduceLeDiff]at O
 simp only[*,go_sem,seval]
 exact yR h [0,1,2,229,325]
 rintro ⟨g,k⟩ ⟨_,_,_⟩ A _ h
 simp only[go_sem,seval,Zc]at A
 obtain ⟨⟨_,_,_,_,_,_,_⟩,_,_,_,_,_,hn⟩:=A
 subst hn
 have:=Zx (e.length)
 simp only[*,go_sem,seval]
 refine Zh h (λi s st=>match s with|(m,o)=>IV [(0,yM (yW d)),(5,.bp 0 0),(8,.p false [.row 1]),(10,.bp 2 0),(11,.p false [.row 4]),(13,yL i)] [.box 52 [.c (.int .i64 0),.nil 125 3],.row 40 2 (A0 eFact b.1) 2,.box 52 [.c (.int .i64 ((b.1.length:Nat):Int)),.row 3],.row 125 3 (A0 eReason m) 2,.row 139 3 (A0 el14Cause o) 1] st) [(true,4,1)] [0,1,2,3,4] yF yD ?_ ?_
 rintro B P ⟨m,o⟩ ⟨_,_,_⟩ _ f C Q h R
 simp only[go_sem,seval,Zc]at C
 obtain ⟨⟨S,_,_,_,_,_⟩,_,_,_,_,_,hn⟩:=C
 subst hn
 have T:=WF.slotL Q S (j:=0) rfl
 have:=Zz f
 have:=ZC f
 have:=Zj (ZA f) T
 simp only[*,go_sem,seval]
 obtain ⟨_,U,h⟩:=ZE h
 refine Zkx (s_l14Positive_ok U)<|yA ?_
 refine Zb h λq V h=>Za (s_l6Tokens_ok V)<|yA ?_
 refine Zh h (λi s st=>match s with|(t,u)=>IV [(0,yM (yW d)),(5,.bp 0 0),(8,.p false [.row 1]),(10,.bp 2 0),(11,.p false [.row 4]),(13,yL B),(14,.p false [.row 5]),(15,yL i)] [.box 52 [.c (.int .i64 0),.nil 125 3],.row 40 2 (A0 eFact b.1) 2,.box 52 [.c (.int .i64 ((b.1.length:Nat):Int)),.row 3],.row 125 3 (A0 eReason t) 2,.row 139 3 (A0 el14Cause u) 1,.row 132 2 (A0 eToken q) 2] st) [] [0,1,2,3,4,165] yF yD ?_ ?_
 rintro W _ ⟨t,u⟩ ⟨_,_,_⟩ _ v D X h Y
 simp only[go_sem,seval,Zc]at D
 obtain ⟨⟨_,_,_,_,_,_,_,_⟩,_,_,_,_,_,Z,hn⟩:=D
 subst hn
 have aa:=WF.rowL X Z
 have:=Zz v
 have:=ZC v
 have:=Zj (ZA v) aa
 simp only[*,go_sem,seval]
 refine Zh h (λi s st=>match s with|(w,x)=>IV [(0,yM (yW d)),(5,.bp 0 0),(8,.p false [.row 1]),(10,.bp 2 0),(11,.p false [.row 4]),(13,yL B),(14,.p false [.row 5]),(15,yL W),(16,yL i)] [.box 52 [.c (.int .i64 0),.nil 125 3],.row 40 2 (A0 eFact b.1) 2,.box 52 [.c (.int .i64 ((b.1.length:Nat):Int)),.row 3],.row 125 3 (A0 eReason w) 2,.row 139 3 (A0 el14Cause x) 1,.row 132 2 (A0 eToken q) 2] st) [] [0,1,2,3,4,5] yF yD ?_ ?_
 rintro _ _ ⟨w,x⟩ ⟨_,_,_⟩ _ y E ab h ac
 simp only[go_sem,seval,Zc]at E
 obtain ⟨⟨ad,_,_,_,_,_,_,_,_⟩,_,_,_,_,_,_,hn⟩:=E
 subst hn
 have ae:=WF.elL (WF.slotD ab ad (j:=0) rfl) f (j:=3) rfl
 have:=Zz y
 have:=ZC y
 have:=Zj (ZA y) ae
 simp only[*,go_sem,seval]
 refine Zb h λ_ af h=>Za (s_l14Reason_ok af)<|yA ?_
 refine Zb h λ_ ag h=>Za (s_l14Find_ok ag)<|yA ?_
 refine yB h (λ_ h=>?_) λ_ h=>?_
 exact yR h [0,1,2,3,4,5]
 refine yB h (λ_ h=>?_) λ_ h=>?_
 replace h:=Zn h ac
 replace h:=Zn h Y
 replace h:=Zn h R
 cases h;exact yD
 obtain ⟨ah,h⟩:=Zq h
 try simp only[Nat.reduceLeDiff]at ah
 obtain ⟨ai,h⟩:=Zq h
 try simp only[Nat.reduceLeDiff]at ai
 simp only[*,go_sem,seval]
 exact yR h [0,1,2,550,790,5]
 rintro ⟨w,x⟩ ⟨_,_,_⟩ F _ h
 simp only[go_sem,seval,Zc]at F
 obtain ⟨⟨_,_,_,_,_,_,_,_,_⟩,_,_,_,_,_,_,hn⟩:=F
 subst hn
 have:=Zx (P.thn.length)
 simp only[*,go_sem,seval]
 exact yR h [0,1,2,3,4,5]
 rintro ⟨t,u⟩ ⟨_,_,_⟩ G _ h
 simp only[go_sem,seval,Zc]at G
 obtain ⟨⟨_,_,_,_,_,_,_,_⟩,_,_,_,_,_,_,hn⟩:=G
 subst hn
 have:=Zx (q.length)
 simp only[*,go_sem,seval]
 exact yR h [0,1,2,3,4]
 rintro ⟨m,o⟩ ⟨_,_,_⟩ H _ h
 simp only[go_sem,seval,Zc]at H
 obtain ⟨⟨_,_,_,_,_,_⟩,_,_,_,_,_,hn⟩:=H
 subst hn
 have:=Zx (d.length)
 iterate 2 (cases h;exact yD)
theorem ZlY {append_0:Zo}{r:(Zo×Bool)}(h:i_StepEngine append_0=some r):Sound prog J0 29 [(true,eEngine append_0)] [(true,[(false,.sl 76 4 (A0 eRule r.1.rules)),(false,.sl 64 3 (A0 eStamp r.1.memory)),(false,.int .i64 r.1.clock),(false,.sl 94 2 (A0 eFiring r.1.fired)),(false,.bool r.1.halted),(false,.sl 97 4 (A0 eEvent r.1.log))]),(false,[(false,.bool r.2)])]:=by
 refine fnk func29 rfl ?_
 unfold i_StepEngine at h
 simp only[fnS,f29,Zk,go_sem,seval]
 refine Zb h λ_ u h=>Za (i_copyEngine_ok u)<|yA ?_
 refine Zb h λ_ v h=>Za (i_IsEngine_ok v)<|yA ?_
 iterate 2 refine yB h (λ_ h=>?_) λ_ h=>?_
 iterate 3 (cases h;simp only[*,go_sem,seval];refine Ze h (λ_ h=>?_) λ_ h=>?_<;>try simp only[*,go_sem,seval])
 cases h;exact yD
 refine Zb h λ_ w h=>Za (Zfa w)<|yA ?_
 refine yB h (λ_ h=>?_) λ_ h=>?_
 cases h;exact yD
 obtain ⟨_,h⟩:=Zq h
 obtain ⟨a,x,h⟩:=ZE h
 try simp only[seval]at x
 simp only[*,go_sem,seval]
 refine Zb h λ_ y h=>Za (i_copyInts_ok y) ?_
 obtain ⟨z,h⟩:=Zq h
 try simp only[Nat.reduceLeDiff]at z
 simp only[*,go_sem,seval]
 obtain ⟨_,A,h⟩:=ZE h
 refine ZnB (by have hh:=i_Engine_write_ok A;simp only[*,go_sem]at hh;exact hh) ?_
 obtain ⟨d,_,_,_,h⟩:=ZaV h
 simp only[*,go_sem,seval]
 refine Zh h (λi s st=>match s with|(e,f,g,k,l,m)=>IV [(2,.bp 0 0),(4,.bp 1 0),(6,.bp 6 0),(7,yM (.str a.mtch.rule)),(75,yM (zA d.thn)),(76,yL d.thn.length),(77,yL i)] [.box 34 [.nil 76 4,.nil 64 3,.c (.int .i64 0),.nil 94 2,.c (.bool false),.nil 97 4],.box 34 [.row 2,.row 3,.c (.int .i64 e),.row 4,.c (.bool f),.row 5],.row 76 4 (A0 eRule g) 2,.row 64 3 (A0 eStamp k) 2,.row 94 2 (A0 eFiring l) 2,.row 97 4 (A0 eEvent m) 2,zI 112 (eChoice a)] st) [] [16,80,1024,1025,1026,1027,720] yF yD ?_ ?_
 rintro _ _ ⟨e,f,g,k,l,m⟩ ⟨_,_,_⟩ _ o q B h _
 simp only[go_sem,seval,Zc]at q
 obtain ⟨⟨_,_,_,_,C,_,_⟩,_,_,_,_,_,_,_,hn⟩:=q
 subst hn
 have D:=WF.slotL B C (j:=0) rfl
 have:=Zz o
 have:=ZC o
 have:=Zj (ZA o) D
 simp only[*,go_sem,seval]
 refine Zb h λ_ E h=>Za (i_Instance_ok E)<|yA ?_
 refine yB h (λ_ h=>?_) λ_ h=>?_
 refine Zb h λ_ F h=>Za (i_hasStamp_ok F)<|yA ?_
 refine yB h (λ_ h=>?_) λ_ h=>?_
 exact yR h [0,1,2,3,4,5,6]
 refine yB h (λ_ h=>?_) λ_ h=>?_
 obtain ⟨_,G,h⟩:=ZE h
 refine ZnB (i_Engine_add_ok G)<|yA ?_
 exact yR h [0,1,551,552,553,554,6]
 exact yR h [0,1,2,3,4,5,6]
 refine yB h (λ_ h=>?_) λ_ h=>?_
 refine Zb h λ_ H h=>Za (i_hasStamp_ok H)<|yA ?_
 refine yB h (λ_ h=>?_) λ_ h=>?_
 obtain ⟨_,I,h⟩:=ZE h
 refine ZnB (i_Engine_drop_ok I)<|yA ?_
 exact yR h [0,1,471,472,473,474,6]
 exact yR h [0,1,2,3,4,5,6]
 refine yB h (λ_ h=>?_) λ_ h=>?_
 obtain ⟨_,J,h⟩:=ZE h
 refine ZnB (i_Engine_write_ok J)<|yA ?_
 exact yR h [0,1,471,472,473,474,6]
 exact yR h [0,1,2,3,4,5,6]
 rintro ⟨e,f,g,k,l,m⟩ ⟨_,_,_⟩ t _ h
 simp only[go_sem,seval,Zc]at t
 obtain ⟨⟨_,_,_,_,_,_,_⟩,_,_,_,_,_,_,_,hn⟩:=t
 subst hn
 have:=Zx (d.thn.length)
 iterate 2 (cases h;exact yD)
theorem ZmD {e_0:Zo}{r:(List ZF)}(h:i_Conflicts e_0=some r):Sound prog J0 32 [(true,eEngine e_0)] [(false,[(false,.sl 112 7 (A0 eChoice r))])]:=by
 refine fnk func32 rfl ?_
 unfold i_Conflicts at h
 simp only[fnS,f32,Zk,go_sem,seval]
 refine Zb h λ_ a h=>Za (i_IsEngine_ok a)<|yA ?_
 refine yB h (λ_ h=>?_) λ_ h=>?_
 refine Zb h λ_ b h=>Za (Zfa b) ?_
 iterate 2 (cases h;exact yD)
end
section
theorem Zjv {rules_0:(List Zf)}{base_1:(List Zd)}{r:((List Zd)×Zu×Bool)}(h:s_GroundReasons rules_0 base_1=some r):Sound prog J0 20 [(false,[.sl 76 4 (A0 eRule rules_0)]),(false,[.sl 40 2 (A0 eFact base_1)])] [(false,[(false,.sl 40 2 (A0 eFact r.1))]),(true,[(false,.int .i64 r.2.1.nodes),(false,.sl 125 3 (A0 eReason r.2.1.reasons))]),(false,[(false,.bool r.2.2)])]:=by
 refine fnk func20 rfl ?_
 unfold s_GroundReasons at h
 simp only[fnS,f20,Zk,go_sem,seval]
 refine Zb h λ_ a h=>Za (Zn7 a)<|yA ?_
 refine yB h (λ_ h=>?_) λ_ h=>?_
 iterate 2 (cases h;exact yD)
theorem ZnT {e_0:Zo}{b:Int}{r:(Zo×Int)}(h:i_RunEngine e_0 b=some r):Sound prog J0 10 [(true,eEngine e_0),(false,[.int .i64 b])] [(true,[(false,.sl 76 4 (A0 eRule r.1.rules)),(false,.sl 64 3 (A0 eStamp r.1.memory)),(false,.int .i64 r.1.clock),(false,.sl 94 2 (A0 eFiring r.1.fired)),(false,.bool r.1.halted),(false,.sl 97 4 (A0 eEvent r.1.log))]),(false,[(false,.int .i64 r.2)])]:=by
 refine fnk func10 rfl ?_
 unfold i_RunEngine at h
 simp only[fnS,f10,Zk,go_sem,seval]
 refine Zb h λ_ m h=>Za (i_copyEngine_ok m)<|yA ?_
 refine Yr h (λs st=>match s with|(d,e,f,g,i,j,k)=>IV [(1,yM (.int .i64 b)),(4,.bp 0 0),(6,.bp 1 0),(7,yM (.int .i64 k))] [.box 34 [.nil 76 4,.nil 64 3,.c (.int .i64 0),.nil 94 2,.c (.bool false),.nil 97 4],.box 34 [.row 2,.row 3,.c (.int .i64 d),.row 4,.c (.bool e),.row 5],.row 76 4 (A0 eRule f) 2,.row 64 3 (A0 eStamp g) 2,.row 94 2 (A0 eFiring i) 2,.row 97 4 (A0 eEvent j) 2] st) [] [16,80,64,65,66,67] yF yD ?_
 rintro ⟨d,e,f,g,i,j,k⟩ ⟨_,_,_⟩ _ l _ h o
 simp only[go_sem,seval,Zc]at l
 obtain ⟨⟨_,_,_,_⟩,_,_,_,_,_,_,hn⟩:=l
 subst hn
 simp only[*,go_sem,seval]
 refine yB h (λ_ h=>?_) λ_ h=>?_
 refine Zb h λ_ q h=>Za (ZlY q)<|yA ?_
 refine yB h (λ_ h=>?_) λ_ h=>?_
 refine ⟨_,[],[0,1,70,71,72,73],(A4 h).symm,yF,?_⟩
 iterate 2 (simp only[*,go_sem,seval];replace h:=Zn h o;cases h)
 simp only[*,go_sem,seval]
theorem ZqW {e_0:Zo}{r:Bool}(h:i_IsQuiet e_0=some r):Sound prog J0 13 [(true,eEngine e_0)] [(false,[(false,.bool r)])]:=by
 refine fnk func13 rfl ?_
 unfold i_IsQuiet at h
 simp only[fnS,f13,Zk,go_sem,seval]
 refine Zb h λ_ a h=>Za (i_IsEngine_ok a)<|yA ?_
 refine yB h (λ_ h=>?_) λ_ h=>?_
 refine Zb h λ_ b h=>Za (ZmD b) ?_
 iterate 2 (cases h;exact yD)
end
section
theorem Zrt {rules_0:(List Zf)}{base_1:(List Zd)}{r:((List Zd)×Bool)}(h:s_ModelOf rules_0 base_1=some r):Sound prog J0 7 [(false,[.sl 76 4 (A0 eRule rules_0)]),(false,[.sl 40 2 (A0 eFact base_1)])] [(false,[(false,.sl 40 2 (A0 eFact r.1))]),(false,[(false,.bool r.2)])]:=by
 refine fnk func7 rfl ?_
 unfold s_ModelOf at h
 simp only[fnS,f7,Zk,go_sem,seval]
 refine Zb h λ_ a h=>Za (Zjv a)<|yA ?_
 refine yB h (λ_ h=>?_) λ_ h=>?_
 refine Zb h λ_ b h=>Za (s_l14In_ok b) ?_
 iterate 2 (cases h;exact yD)
end
section
theorem Zjx {append_0:(List Int)}{r:Bool}(h:w_FnEngineModel append_0=some r):Sound prog J0 3 [(false,[.sl 5 1 (A0 Zfx append_0)])] [(false,[(false,.bool r)])]:=by
 refine fnk func3 rfl ?_
 unfold w_FnEngineModel at h
 simp only[fnS,f3,Zk,go_sem,seval]
 refine Zb h λ_ q h=>Za (w_big_ok q)<|yA ?_
 refine yB h (λ_ h=>?_) λ_ h=>?_
 cases h;exact yD
 refine Zb h λk t h=>Za (ZjR t)<|yA ?_
 refine Zb h λl u h=>Za (Zq3 u)<|yA ?_
 refine Zb h λ_ v h=>Za (Zrt v)<|yA ?_
 refine yB h (λ_ h=>?_) λ_ h=>?_
 refine Zb h λw x h=>Za (i_NewEngine_ok x)<|yA ?_
 refine Zh h (λi s st=>match s with|(a,b,d,e,f,g)=>IV [(4,.p false [.row 0]),(5,.p false [.row 1]),(6,yM (.bool l.2)),(9,.bp 2 0),(10,yM (.bool w.2)),(11,yL i)] [.row 40 2 (A0 eFact k.2) 2,.row 40 2 (A0 eFact l.1) 2,.box 34 [.row 3,.row 4,.c (.int .i64 a),.row 5,.c (.bool b),.row 6],.row 76 4 (A0 eRule d) 2,.row 64 3 (A0 eStamp e) 2,.row 94 2 (A0 eFiring f) 2,.row 97 4 (A0 eEvent g) 2] st) [] [65,192,544,480,481,482,483] yF yD ?_ ?_
 rintro _ _ ⟨a,b,d,e,f,g⟩ ⟨_,_,_⟩ _ j m z h _
 simp only[go_sem,seval,Zc]at m
 obtain ⟨⟨_,_,_,_,_,_⟩,A,_,_,_,_,_,_,hn⟩:=m
 subst hn
 have B:=WF.rowL z A
 have:=Zz j
 have:=ZC j
 have:=Zj (ZA j) B
 simp only[*,go_sem,seval]
 refine Zb h λ_ C h=>Za (i_PutFact_ok C)<|yA ?_
 exact yR h [0,1,2,151,152,153,154]
 rintro ⟨a,b,d,e,f,g⟩ ⟨_,_,_⟩ o _ h
 simp only[go_sem,seval,Zc]at o
 obtain ⟨⟨_,_,_,_,_,_⟩,_,_,_,_,_,_,_,hn⟩:=o
 subst hn
 have:=Zx (k.2.length)
 simp only[*,go_sem,seval]
 refine Zb h λ_ D h=>Za (ZnT D)<|yA ?_
 refine Zb h λ_ E h=>Za (i_FactsIn_ok E)<|yA ?_
 iterate 2 refine yB h (λ_ h=>?_) λ_ h=>?_
 refine Zb h λ_ F h=>Za (w_within_ok F)<|yA ?_
 refine yB h (λ_ h=>?_) λ_ h=>?_
 refine Zb h λ_ G h=>Za (w_within_ok G)<|yA ?_
 refine yB h (λ_ h=>?_) λ_ h=>?_
 refine Zb h λ_ H h=>Za (ZqW H)<|yA ?_
 refine yB h (λ_ h=>?_) λ_ h=>?_
 refine Zb h λ_ I h=>Za (s_SameFacts_ok I) ?_
 iterate 7 (cases h;exact yD)
end
section
open Go.RowKit Go.Deep
def Zy5 {α:Type}(P:Program) (t:TypeId) (c:Xy α) (wf:α->Prop):Prop:=
 ∀{H:Type} {enc:TypeId×Value->H} {w:World} {base:Nat} {spare:Nat->Bool} {held:Bool} {fuel:Nat} {cs:List Value} {x:DataW H×List MemPlace},
  DataW.trod enc P w base spare held fuel t cs=some x->∃d L,c.rep w cs d L/\wf d
theorem ZuX {P:Program}{t:TypeId}(ht:P.underlying t=some (.int .u8)):Zy5 P t ZA0 (λn=>0<=n/\n<=255):=by
 intro H enc w base spare held fuel cs x h
 obtain ⟨n,rfl,_,hw⟩:=DataW.trod_int ht h
 refine ⟨n,[],⟨rfl,rfl⟩,?_⟩
 simp [Lit.wf,IntKind.min,IntKind.max,IntKind.signed,IntKind.bits]at hw
 exact ⟨yE,yE⟩
theorem Zr9 {α:Type}{c:Xy α}{wf:α->Prop}{P:Program}{t e:TypeId}(ht:P.underlying t=some (.slice e)) (hc:P.cellsOf e=c.size) (ho:Zy5 P e c wf):Zy5 P t (Zq6 c) (λds=>∀d∈ds,wf d):=by
 intro H enc w base spare held fuel cs x h
 rcases open_slice ht h with ⟨rfl,_⟩|⟨a,len,cap,m,n,D,Pl,rfl,hb,hl,hm,l,_,hx⟩
 .exact ⟨[],[],⟨none,0,rfl,Nat.le_refl _,Nat.zero_le _,Sli.nil _ _⟩,yG⟩
 .have hlm:len<=m:=by rw [l];split<;>omega
  have key:∀q,q<=len->∃(xs:List Value) (ds:List α) (L:List Nat),ds.length=q/\(∀j u,xs[j]?=some u->w.cell? (a.add j)=some u)/\c.reps w xs ds L/\∀d∈ds,wf d:=by
   intro q
   induction q with
   |zero=>exact λ_=>⟨[],[],[],rfl,yG,⟨rfl,rfl⟩,yG⟩
   |succ q ih=>
    intro hq
    obtain ⟨xs,ds,L,hd,f,hr,i⟩:=ih yE
    obtain ⟨o,h1,h2⟩:=hx q yE
    obtain ⟨d,Lq,k,p⟩:=ho h2
    obtain ⟨_,hlen,v⟩:=World.cells?_some h1
    refine ⟨xs++o,ds++[d],L++Lq,by simp [hd],λj u hu=>?_,ZhK hr (ZlA k),?_⟩
    .have g:xs.length=q*c.size:=by rw [Zon hr,hd]
     rw [List.getElem?_append]at hu
     split at hu
     .exact f j u hu
     .rename_i hj
      have hj2:=(List.getElem?_eq_some_iff.1 hu).1
      have:=v (j - xs.length) yE
      rw [<-hu,<-this,Go.Deep.add_add,hc,<-g]
      congr 2
      omega
    .intro y hy
     rcases List.mem_append.1 hy with hy|hy
     .exact i y hy
     .simp at hy;subst hy;exact p
  obtain ⟨xs,ds,L,hd,f,hr,i⟩:=key len (Nat.le_refl _)
  have g:=Zon hr
  rcases Nat.eq_zero_or_pos len with h0|h0
  .have:ds=[]:=List.eq_nil_of_length_eq_zero yE
   subst this
   refine ⟨[],[],⟨some a,cap,by simp at hd;rw [<-hd];rfl,yG,hm,Sli.nil _ _⟩,yG⟩
  .obtain ⟨b,off,sp⟩:=a
   have hp:0<xs.length:=by rw [g,hd];exact Nat.mul_pos h0 c.pos
   have z:sp=none:=by
    have h1:=f 0 _ (List.getElem?_eq_getElem hp)
    have e:(⟨b,off,sp⟩:Addr).add 0=⟨b,off,sp⟩:=by simp [Addr.add]
    rw [e]at h1
    cases sp with
    |none=>rfl
    |some q=>
     simp only[World.cell?]at h1
     split at h1<;>simp at h1
   subst z
   refine ⟨ds,[b]++L,⟨some ⟨b,off,none⟩,cap,by rw [hd],yE,hm,xs,[b],L,rfl,⟨by rw [g],.inr ⟨yE,b,off,rfl,rfl,λj u hu=>?_⟩⟩,hr⟩,i⟩
   have:=f j u hu
   rwa [Zdt]at this
end
section
open Go.RowKit
theorem Zje (w:World) (hJ:J0 w) (A:Option Addr) (c:Nat) (a:List Int) (L:List Nat) (h:(Zq6 ZA0).rep w [.slice A a.length c] a L):
  Calls prog 3 #[.slice A a.length c] w (λe w'=>e=.returned (.bool true)/\Below w.heap.size w w'):=
 Sound.givesB (Zjx (FnEngineModel_plain a)) hJ (vs:=[_]) ⟨arg_sl encByte _ h,trivial⟩
end
end Go.Proofs.YthjnneiibkknhaaGreatDoor
