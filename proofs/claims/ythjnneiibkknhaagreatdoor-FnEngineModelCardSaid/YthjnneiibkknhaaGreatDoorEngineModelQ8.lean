/- Texts of this proof, joined: Dp6, Dp8, Dp7, Dp9, Dp10, BTail, BStd, DE, So, SoI, Fa, Fb, Fc2, Fl, Dp11, Dp12. What each holds is said at its theorems. -/
import Derived.Test.YthjnneiibkknhaaGreatDoorEngineModelQ7
import Derived.Test.YthjnneiibkknhaaGreatDoorEngineModelQ6
import Derived.Test.YthjnneiibkknhaaGreatDoorEngineModelQ5
import Derived.Test.YthjnneiibkknhaaGreatDoorEngineModelQ1
import Derived.Test.YthjnneiibkknhaaGreatDoorProg
import Derived.Outline
import Derived.WalkSpells
import Derived.StillTailTactics
import Derived.Deep.QuietTactic
import Derived.Shelf.RegionOpenPlain
import Derived.Lib.ReflectliteSwap
import Derived.OwnWalk
open Array renaming getElem?_eq_some_iff→AE,range→AH,getElem?_toList→AJ,replicate→AK,getElem?_setIfInBounds→AO
open Int renaming toNat_natCast→A9
open List renaming map→A0,append_nil→A5,nil_append→AA,append_assoc→AB,length_map→AC,range→AF,getElem?_map→AI,mem_append_left→AP,getElem?_take_of_lt→AQ,getElem?_drop→AR,getElem?_eq_none→AS
open List.Sublist renaming append→AL
open Nat renaming le_refl→A6,zero_le→AD,le_trans→AG,add_sub_cancel→AN
open Option.some renaming inj→A4
open Go.Proofs.Tryz
set_option linter.unusedSimpArgs false
set_option linter.unusedVariables false
set_option maxRecDepth 1000000
set_option maxHeartbeats 4000000
open Go.Lib renaming hid→yS
namespace Go.Proofs.YthjnneiibkknhaaGreatDoor
section
theorem ZaE {s_0:ByteArray}{r:Bool}(h:ZaH s_0=some r):Sound prog J0 208 [(false,[.str s_0])] [(false,[(false,.bool r)])]:=by
 refine fnk func208 rfl ?_
 unfold ZaH at h
 simp only[fnS,f208,Zk,go_sem,seval]
 refine Zb h λ_ a h=>Za (QL a)<|yA ?_
 refine yB h (λ_ h=>?_) λ_ h=>?_
 cases h;exact yD
 refine Zb h λ_ b h=>Za (ZaA b) ?_
 cases h;exact yD
theorem Zdl {p_0:Zv}{r:(List ByteArray)}(h:Zcd p_0=some r):Sound prog J0 196 [(true,Q4 p_0)] [(false,[(false,.sl 9 1 (A0 ZB r))])]:=by
 refine fnk func196 rfl ?_
 unfold Zcd at h
 simp only[fnS,f196,Zk,go_sem,seval]
 refine Zh h (λi a st=>IV [(1,.bp 0 0),(3,.p false [.row 1]),(4,yL i)] [.box 113 [.c (.str p_0.rel),.c (yV p_0.args)],.row 9 1 (A0 ZB a) 2] st) [] [0,32] yF yD ?_ ?_
 rintro _ _ a ⟨_,_,_⟩ _ b d f h _
 simp only[go_sem,seval,Zc]at d
 obtain ⟨⟨_,_,_⟩,g,_,hn⟩:=d
 subst hn
 have k:=WF.boxL f g (j:=1) rfl
 have:=Zz b
 have:=ZC b
 have:=Zj (ZA b) k
 simp only[*,go_sem,seval]
 refine Zb h λ_ l h=>Za (ZaA l)<|yA ?_
 refine yB h (λ_ h=>?_) λ_ h=>?_
 refine Zb h λ_ m h=>Za (XQ m)<|yA ?_
 exact yR h [0,274]
 exact yR h [0,1]
 rintro a ⟨_,_,_⟩ e _ h
 simp only[go_sem,seval,Zc]at e
 obtain ⟨⟨_,_,_⟩,_,_,hn⟩:=e
 subst hn
 have:=Zx (p_0.args.length)
 cases h;exact yD
theorem ZbS {a_0:Zd}{b_1:Zd}{r:Int}(h:XF a_0 b_1=some r):Sound prog J0 66 [(true,eFact a_0),(true,eFact b_1)] [(false,[(false,.int .i64 r)])]:=by
 refine fnk func66 rfl ?_
 unfold XF at h
 simp only[fnS,f66,Zk,go_sem,seval]
 refine yB h (λ_ h=>?_) λ_ h=>?_
 refine Zh h (λi _ st=>IV [(2,.bp 0 0),(3,.bp 1 0),(5,yL i)] [zI 40 (eFact a_0),zI 40 (eFact b_1)] st) [] [0,16] yF yD ?_ ?_
 rintro _ _ ⟨⟩ ⟨_,_,_⟩ _ a d f h b
 simp only[go_sem,seval,Zc]at d
 obtain ⟨⟨_,_,_⟩,g,_,hn⟩:=d
 subst hn
 have k:=WF.boxL f g (j:=1) rfl
 have:=Zz a
 have:=ZC a
 have:=Zj (ZA a) k
 simp only[*,go_sem,seval]
 refine yB h (λ_ h=>?_) λ_ h=>?_
 obtain ⟨_,_,_,l,h⟩:=ZaV h
 simp only[A9]at l
 simp only[*,go_sem,seval]
 refine Zb h λ_ m h=>Za (Zfc m)<|yA ?_
 refine yB h (λ_ h=>?_) λ_ h=>?_
 replace h:=Zn h b
 cases h;exact yD
 exact yR h [0,1]
 refine yB h (λ_ h=>?_) λ_ h=>?_
 replace h:=Zn h b
 cases h;exact yD
 refine yB h (λ_ h=>?_) λ_ h=>?_
 iterate 2 (replace h:=Zn h b;cases h;simp only[*,go_sem,seval])
 rintro ⟨⟩ ⟨_,_,_⟩ e _ h
 simp only[go_sem,seval,Zc]at e
 obtain ⟨⟨_,_,_⟩,_,_,hn⟩:=e
 subst hn
 have:=Zx (a_0.args.length)
 iterate 2 (simp only[*,go_sem,seval];(refine Ze h (λ_ h=>?_) λ_ h=>?_<;>try simp only[*,go_sem,seval]);cases h)
 simp only[*,go_sem,seval]
 cases h;exact yD
 refine Zb h λ_ o h=>Za (Znl o) ?_
 cases h;exact yD
theorem Qu {p_0:Zv}{r:Bool}(h:Xu p_0=some r):Sound prog J0 101 [(true,Q4 p_0)] [(false,[(false,.bool r)])]:=by
 refine fnk func101 rfl ?_
 unfold Xu at h
 simp only[fnS,f101,Zk,go_sem,seval]
 refine Zb h λ_ e h=>Za (Y5 e)<|yA ?_
 iterate 2 refine yB h (λ_ h=>?_) λ_ h=>?_
 cases h;exact yD
 refine Zh h (λi _ st=>IV [(16,yM (yV p_0.args)),(17,yL p_0.args.length),(18,yL i)] [] st) [] [] yF yD ?_ ?_
 rintro _ _ ⟨⟩ ⟨_,_,_⟩ _ a b f h g
 simp only[go_sem,seval,Zc]at b
 obtain ⟨⟨k,_,_⟩,hn⟩:=b
 subst hn
 have l:=WF.slotL f k (j:=0) rfl
 have:=Zz a
 have:=ZC a
 have:=Zj (ZA a) l
 simp only[*,go_sem,seval]
 refine Zb h λ_ m h=>Za (Zam m)<|yA ?_
 refine yB h (λ_ h=>?_) λ_ h=>?_
 exact yR h []
 replace h:=Zn h g
 cases h;exact yD
 rintro ⟨⟩ ⟨_,_,_⟩ d _ h
 simp only[go_sem,seval,Zc]at d
 obtain ⟨⟨_,_,_⟩,hn⟩:=d
 subst hn
 have:=Zx (p_0.args.length)
 iterate 2 (cases h;exact yD)
theorem Zr8 {a:(List Zs)}{b:ByteArray}{d:ByteArray}{r:((List Zs)×Bool)}(h:Zhf a b d=some r):Sound prog J0 156 [(false,[.sl 194 2 (A0 ePair a)]),(false,[.str b]),(false,[.str d])] [(false,[(false,.sl 194 2 (A0 ePair r.1))]),(false,[(false,.bool r.2)])]:=by
 refine fnk func156 rfl ?_
 unfold Zhf at h
 simp only[fnS,f156,Zk,go_sem,seval]
 refine Zb h λ_ o h=>Za (Zal o)<|yA ?_
 refine yB h (λ_ h=>?_) λ_ h=>?_
 refine Zb h λ_ q h=>Za (Zef q)<|yA ?_
 refine yB h (λ_ h=>?_) λ_ h=>?_
 refine Zb h λ_ t h=>Za (Qb t)<|yA ?_
 refine yB h (λ_ h=>?_) λ_ h=>?_
 refine Zb h λ_ u h=>Za (ZdJ u)<|yA ?_
 iterate 2 refine yB h (λ_ h=>?_) λ_ h=>?_
 refine Zb h λ_ v h=>Za (Zep v) ?_
 iterate 2 (cases h;exact yD)
 refine yB h (λ_ h=>?_) λ_ h=>?_
 cases h;exact yD
 refine Zh h (λi s st=>match s with|(e,f)=>IV [(1,yM (.str b)),(2,yM (.str d)),(10,.p false [.row 0]),(11,yM (.bool f)),(42,yM (yZ a)),(43,yL a.length),(44,yL i)] [.row 194 2 (A0 ePair e) 2] st) [(false,10,0)] [512] yF yD ?_ ?_
 rintro _ _ ⟨e,f⟩ ⟨_,_,_⟩ _ g l x h _
 simp only[go_sem,seval,Zc]at l
 obtain ⟨⟨_,_,_,_,y,_,_⟩,_,hn⟩:=l
 subst hn
 have z:=WF.slotL x y (j:=0) rfl
 have:=Zz g
 have:=ZC g
 have:=Zj (ZA g) z
 simp only[*,go_sem,seval]
 refine yB h (λ_ h=>?_) λ_ h=>?_
 obtain ⟨A,h⟩:=Zq h
 try simp only[Nat.reduceLeDiff]at A
 simp only[*,go_sem,seval]
 exact yR h [257]
 refine Ze h (λk h=>?_) (λk h=>?_)
 have B:=k
 obtain ⟨C,h⟩:=Zq h
 try simp only[Nat.reduceLeDiff]at C
 simp only[*,go_sem,seval]
 exact yR h [257]
 have B:=k
 obtain ⟨D,h⟩:=Zq h
 try simp only[Nat.reduceLeDiff]at D
 obtain ⟨E,h⟩:=Zq h
 try simp only[Nat.reduceLeDiff]at E
 simp only[*,go_sem,seval]
 exact yR h [385]
 rintro ⟨e,f⟩ ⟨_,_,_⟩ m _ h
 simp only[go_sem,seval,Zc]at m
 obtain ⟨⟨_,_,_,_,_,_,_⟩,_,hn⟩:=m
 subst hn
 have:=Zx (a.length)
 simp only[*,go_sem,seval]
 refine yB h (λ_ h=>?_) λ_ h=>?_
 cases h;exact yD
 obtain ⟨F,h⟩:=Zq h
 try simp only[Nat.reduceLeDiff]at F
 iterate 4 (cases h;exact yD)
theorem Zad {a_0:Zd}{b_1:Zd}{r:Int}(h:Yn a_0 b_1=some r):Sound prog J0 56 [(true,eFact a_0),(true,eFact b_1)] [(false,[(false,.int .i64 r)])]:=by
 refine fnk func56 rfl ?_
 unfold Yn at h
 simp only[fnS,f56,Zk,go_sem,seval]
 refine Zb h λ_ f h=>Za (ZkB f)<|yA ?_
 refine yB h (λ_ h=>?_) λ_ h=>?_
 cases h;exact yD
 refine Zh h (λi _ st=>IV [(2,.bp 0 0),(3,.bp 1 0),(6,yL i)] [zI 40 (eFact a_0),zI 40 (eFact b_1)] st) [] [0,16] yF yD ?_ ?_
 rintro _ _ ⟨⟩ ⟨_,_,_⟩ _ a b g h d
 simp only[go_sem,seval,Zc]at b
 obtain ⟨⟨_,_,_⟩,k,_,hn⟩:=b
 subst hn
 have l:=WF.boxL g k (j:=1) rfl
 have:=Zz a
 have:=ZC a
 have:=Zj (ZA a) l
 simp only[*,go_sem,seval]
 refine yB h (λ_ h=>?_) λ_ h=>?_
 obtain ⟨_,_,_,m,h⟩:=ZaV h
 simp only[A9]at m
 simp only[*,go_sem,seval]
 refine Zb h λ_ o h=>Za (Zkg o)<|yA ?_
 refine yB h (λ_ h=>?_) λ_ h=>?_
 replace h:=Zn h d
 cases h;exact yD
 exact yR h [0,1]
 refine Zb h λ_ q h=>Za (ZY q) ?_
 replace h:=Zn h d
 cases h;exact yD
 rintro ⟨⟩ ⟨_,_,_⟩ e _ h
 simp only[go_sem,seval,Zc]at e
 obtain ⟨⟨_,_,_⟩,_,_,hn⟩:=e
 subst hn
 have:=Zx (a_0.args.length)
 simp only[*,go_sem,seval]
 refine Zb h λ_ t h=>Za (ZY t) ?_
 cases h;exact yD
theorem Zem {r_0:Zf}{n_1:Int}{r:(List ByteArray)}(h:Zax r_0 n_1=some r):Sound prog J0 83 [(true,eRule r_0),(false,[.int .i64 n_1])] [(false,[(false,.sl 9 1 (A0 ZB r))])]:=by
 refine fnk func83 rfl ?_
 unfold Zax at h
 simp only[fnS,f83,Zk,go_sem,seval]
 refine Zh h (λi a st=>IV [(1,yM (.int .i64 n_1)),(5,.p false [.row 0]),(9,yM (yY r_0.cond)),(10,yL r_0.cond.length),(11,yL i)] [.row 9 1 (A0 ZB a) 2] st) [(false,5,0)] [112] yF yD ?_ ?_
 rintro _ _ a ⟨_,_,_⟩ _ b d f h _
 simp only[go_sem,seval,Zc]at d
 obtain ⟨⟨_,_,g,_,_⟩,_,hn⟩:=d
 subst hn
 have k:=WF.slotL f g (j:=0) rfl
 have:=Zz b
 have:=ZC b
 have:=Zj (ZA b) k
 simp only[*,go_sem,seval]
 iterate 2 refine yB h (λ_ h=>?_) λ_ h=>?_
 refine Zb h λ_ l h=>Za (Zek l) ?_
 obtain ⟨_,h⟩:=Zq h
 simp only[*,go_sem,seval]
 exact yR h [321]
 exact yR h [0]
 exact yR h [0]
 rintro a ⟨_,_,_⟩ e _ h
 simp only[go_sem,seval,Zc]at e
 obtain ⟨⟨_,_,_,_,_⟩,_,hn⟩:=e
 subst hn
 have:=Zx (r_0.cond.length)
 simp only[*,go_sem,seval]
 refine Zb h λ_ m h=>Za (QE m) ?_
 cases h;exact yD
theorem ZcI {x_0:Zp}{r:(List ByteArray)}(h:QQ x_0=some r):Sound prog J0 131 [(true,ZO x_0)] [(false,[(false,.sl 9 1 (A0 ZB r))])]:=by
 refine fnk func131 rfl ?_
 unfold QQ at h
 simp only[fnS,f131,Zk,go_sem,seval]
 refine Zb h λ_ a h=>Za (ZrY a)<|yA ?_
 refine Zb h λ_ b h=>Za (Zek b)<|yA ?_
 refine Zb h λ_ c h=>Za (QE c) ?_
 cases h;exact yD
theorem ZkI {facts_0:(List Zd)}{l_1:(List Zd)}{r:(List Int)}(h:ZdX facts_0 l_1=some r):Sound prog J0 71 [(false,[.sl 40 2 (A0 eFact facts_0)]),(false,[.sl 40 2 (A0 eFact l_1)])] [(false,[(false,.sl 3 1 (A0 ZH r))])]:=by
 refine fnk func71 rfl ?_
 unfold ZdX at h
 simp only[fnS,f71,Zk,go_sem,seval]
 refine Zh h (λi a st=>IV [(0,yM (yU facts_0)),(5,.p false [.row 0]),(9,yM (yU l_1)),(10,yL l_1.length),(11,yL i)] [.row 3 1 (A0 ZH a) 2] st) [(false,5,0)] [80] yF yD ?_ ?_
 rintro _ _ a ⟨_,_,_⟩ _ b d f h _
 simp only[go_sem,seval,Zc]at d
 obtain ⟨⟨_,_,g,_,_⟩,_,hn⟩:=d
 subst hn
 have k:=WF.slotL f g (j:=0) rfl
 have:=Zz b
 have:=ZC b
 have:=Zj (ZA b) k
 simp only[*,go_sem,seval]
 refine Zb h λ_ l h=>Za (ZcM l)<|yA ?_
 refine yB h (λ_ h=>?_) λ_ h=>?_
 refine Zb h λ_ m h=>Za (Zst m)<|yA ?_
 refine yB h (λ_ h=>?_) λ_ h=>?_
 exact yR h [0]
 obtain ⟨o,h⟩:=Zq h
 try simp only[Nat.reduceLeDiff]at o
 simp only[*,go_sem,seval]
 exact yR h [321]
 exact yR h [0]
 rintro a ⟨_,_,_⟩ e _ h
 simp only[go_sem,seval,Zc]at e
 obtain ⟨⟨_,_,_,_,_⟩,_,hn⟩:=e
 subst hn
 have:=Zx (l_1.length)
 simp only[*,go_sem,seval]
 obtain ⟨_,q,h⟩:=ZE h
 refine Zan (Zow q) ?_
 cases h;exact yD
theorem i_believed_ok {facts_0:(List Zd)}{b_1:Zu}{r:(List Zd)}(h:Zd6 facts_0 b_1=some r):Sound prog J0 19 [(false,[.sl 40 2 (A0 eFact facts_0)]),(true,QF b_1)] [(false,[(false,.sl 40 2 (A0 eFact r))])]:=by
 refine fnk func19 rfl ?_
 unfold Zd6 at h
 simp only[fnS,f19,Zk,go_sem,seval]
 refine Zb h λa g h=>Za (Ztx g)<|yA ?_
 refine Zh h (λi b st=>IV [(0,yM (yU facts_0)),(5,.p false [.row 0]),(9,.p false [.row 1]),(10,yL a.length),(11,yL i)] [.row 40 2 (A0 eFact b) 2,.row 4 1 (A0 ZgK a) 2] st) [(false,5,0)] [112,64] yF yD ?_ ?_
 rintro _ _ b ⟨_,_,_⟩ _ d e j h _
 simp only[go_sem,seval,Zc]at e
 obtain ⟨⟨_,_,_,_,_⟩,_,k,hn⟩:=e
 subst hn
 have l:=WF.rowL j k
 have:=Zz d
 have:=ZC d
 have:=Zj (ZA d) l
 simp only[*,go_sem,seval]
 refine yB h (λ_ h=>?_) λ_ h=>?_
 obtain ⟨_,_,_,m,h⟩:=ZaV h
 simp only[A9]at m
 simp only[*,go_sem,seval]
 refine Zb h λ_ o h=>Za (Z7 o) ?_
 obtain ⟨q,h⟩:=Zq h
 try simp only[Nat.reduceLeDiff]at q
 simp only[*,go_sem,seval]
 exact yR h [226,1]
 exact yR h [0,1]
 rintro b ⟨_,_,_⟩ f _ h
 simp only[go_sem,seval,Zc]at f
 obtain ⟨⟨_,_,_,_,_⟩,_,_,hn⟩:=f
 subst hn
 have:=Zx (a.length)
 cases h;exact yD
theorem Zas {b_0:(List Zs)}{r:Bool}(h:X6 b_0=some r):Sound prog J0 164 [(false,[.sl 194 2 (A0 ePair b_0)])] [(false,[(false,.bool r)])]:=by
 refine fnk func164 rfl ?_
 unfold X6 at h
 simp only[fnS,f164,Zk,go_sem,seval]
 refine Zh h (λi _ st=>IV [(0,yM (yZ b_0)),(3,yL i)] [] st) [] [] yF yD ?_ ?_
 rintro _ _ ⟨⟩ ⟨_,_,_⟩ _ a b f h d
 simp only[go_sem,seval,Zc]at b
 obtain ⟨⟨g,_⟩,hn⟩:=b
 subst hn
 have k:=WF.slotL f g (j:=0) rfl
 have:=Zz a
 have:=ZC a
 have:=Zj (ZA a) k
 simp only[*,go_sem,seval]
 refine Zb h λ_ l h=>Za (ZaA l)<|yA ?_
 refine yB h (λ_ h=>?_) λ_ h=>?_
 refine Zb h λ_ m h=>Za (QL m)<|yA ?_
 iterate 2 refine yB h (λ_ h=>?_) λ_ h=>?_
 obtain ⟨_,_,_,_,h⟩:=ZaV h
 simp only[*,go_sem,seval]
 refine yB h (λ_ h=>?_) λ_ h=>?_
 exact yR h []
 replace h:=Zn h d
 cases h;exact yD
 refine ⟨_,[],[],(A4 h).symm,yF,?_⟩
 iterate 2 (simp only[*,go_sem,seval];replace h:=Zn h d;cases h)
 simp only[*,go_sem,seval]
 rintro ⟨⟩ ⟨_,_,_⟩ e _ h
 simp only[go_sem,seval,Zc]at e
 obtain ⟨⟨_,_⟩,hn⟩:=e
 subst hn
 have:=Zx (b_0.length)
 cases h;exact yD
theorem ZlS {f_0:Zd}{r:Bool}(h:ZfL f_0=some r):Sound prog J0 162 [(true,eFact f_0)] [(false,[(false,.bool r)])]:=by
 refine fnk func162 rfl ?_
 unfold ZfL at h
 simp only[fnS,f162,Zk,go_sem,seval]
 refine Zh h (λi _ st=>IV [(1,.bp 0 0),(3,yL i)] [zI 40 (eFact f_0)] st) [] [0] yF yD ?_ ?_
 rintro _ _ ⟨⟩ ⟨_,_,_⟩ _ a b e h f
 simp only[go_sem,seval,Zc]at b
 obtain ⟨⟨_,_⟩,g,hn⟩:=b
 subst hn
 have k:=WF.boxL e g (j:=1) rfl
 have:=Zz a
 have:=ZC a
 have:=Zj (ZA a) k
 simp only[*,go_sem,seval]
 refine Zb h λ_ l h=>Za (QL l)<|yA ?_
 refine yB h (λ_ h=>?_) λ_ h=>?_
 exact yR h [0]
 replace h:=Zn h f
 cases h;exact yD
 rintro ⟨⟩ ⟨_,_,_⟩ d _ h
 simp only[go_sem,seval,Zc]at d
 obtain ⟨⟨_,_⟩,_,hn⟩:=d
 subst hn
 have:=Zx (f_0.args.length)
 simp only[*,go_sem,seval]
 refine Zb h λ_ m h=>Za (ZhS m)<|yA ?_
 refine yB h (λ_ h=>?_) λ_ h=>?_
 iterate 2 (cases h;exact yD)
theorem ZdM {b_0:(List Zs)}{term_1:ByteArray}{r:(ByteArray×Bool)}(h:ZbK b_0 term_1=some r):Sound prog J0 165 [(false,[.sl 194 2 (A0 ePair b_0)]),(false,[.str term_1])] [(false,[(false,.str r.1)]),(false,[(false,.bool r.2)])]:=by
 refine fnk func165 rfl ?_
 unfold ZbK at h
 have e:Z9 ⟨#[]⟩=true:=by decide
 simp only[fnS,f165,Zk,go_sem,seval,e]
 refine Zb h λ_ f h=>Za (QL f)<|yA ?_
 refine yB h (λ_ h=>?_) λ_ h=>?_
 cases h;exact yD
 refine Zh h (λi _ st=>IV [(0,yM (yZ b_0)),(1,yM (.str term_1)),(6,yL i)] [] st) [] [] yF yD ?_ ?_
 rintro _ _ ⟨⟩ ⟨_,_,_⟩ _ a b g h k
 simp only[go_sem,seval,Zc]at b
 obtain ⟨⟨l,_,_⟩,hn⟩:=b
 subst hn
 have m:=WF.slotL g l (j:=0) rfl
 have:=Zz a
 have:=ZC a
 have:=Zj (ZA a) m
 simp only[*,go_sem,seval]
 refine yB h (λ_ h=>?_) λ_ h=>?_
 refine Zb h λ_ o h=>Za (ZaA o)<|yA ?_
 refine yB h (λ_ h=>?_) λ_ h=>?_
 replace h:=Zn h k
 cases h;exact yD
 exact yR h []
 exact yR h []
 rintro ⟨⟩ ⟨_,_,_⟩ d _ h
 simp only[go_sem,seval,Zc]at d
 obtain ⟨⟨_,_,_⟩,hn⟩:=d
 subst hn
 have:=Zx (b_0.length)
 cases h;exact yD
theorem ZsT {t_0:Zt}{r:Zt}(h:Zhw t_0=some r):Sound prog J0 167 [(true,eToken t_0)] [(true,[(false,.sl 40 2 (A0 eFact r.facts)),(false,.sl 194 2 (A0 ePair r.binding))])]:=by
 refine fnk func167 rfl ?_
 unfold Zhw at h
 simp only[fnS,f167,Zk,go_sem,seval]
 refine Zb h λ_ a h=>Za (s_l2Copies_ok a)<|yA ?_
 refine Zb h λ_ b h=>Za (ZhL b) ?_
 cases h;exact yD
theorem ZiU {l_0:(List Zd)}{facts_1:(List Zd)}{r:(List Int)}(h:ZcC l_0 facts_1=some r):Sound prog J0 124 [(false,[.sl 40 2 (A0 eFact l_0)]),(false,[.sl 40 2 (A0 eFact facts_1)])] [(false,[(false,.sl 3 1 (A0 ZH r))])]:=by
 refine fnk func124 rfl ?_
 unfold ZcC at h
 simp only[fnS,f124,Zk,go_sem,seval]
 refine Zh h (λi a st=>IV [(0,yM (yU l_0)),(1,yM (yU facts_1)),(5,.p false [.row 0]),(6,yL i)] [.row 3 1 (A0 ZH a) 2] st) [] [16] yF yD ?_ ?_
 rintro _ _ a ⟨_,_,_⟩ _ b d f h _
 simp only[go_sem,seval,Zc]at d
 obtain ⟨⟨_,g,_,_⟩,_,hn⟩:=d
 subst hn
 have k:=WF.slotL f g (j:=0) rfl
 have:=Zz b
 have:=ZC b
 have:=Zj (ZA b) k
 simp only[*,go_sem,seval]
 refine Zb h λ_ l h=>Za (s_FindFact_ok l)<|yA ?_
 refine yB h (λ_ h=>?_) λ_ h=>?_
 refine Zb h λ_ m h=>Za (Ztb m)<|yA ?_
 exact yR h [241]
 exact yR h [0]
 rintro a ⟨_,_,_⟩ e _ h
 simp only[go_sem,seval,Zc]at e
 obtain ⟨⟨_,_,_,_⟩,_,hn⟩:=e
 subst hn
 have:=Zx (facts_1.length)
 cases h;exact yD
theorem Ze7 {b_0:Zu}{r:Bool}(h:Qt b_0=some r):Sound prog J0 126 [(true,QF b_0)] [(false,[(false,.bool r)])]:=by
 refine fnk func126 rfl ?_
 unfold Qt at h
 simp only[fnS,f126,Zk,go_sem,seval]
 refine Zb h λ_ o h=>Za (Zn5 o)<|yA ?_
 refine yB h (λ_ h=>?_) λ_ h=>?_
 refine Zh h (λi _ st=>IV [(1,.bp 0 0),(3,yL i)] [.box 52 [.c (.int .i64 b_0.nodes),.c (zC b_0.reasons)]] st) [] [0] yF yD ?_ ?_
 rintro q d ⟨⟩ ⟨_,_,_⟩ _ a e t h f
 simp only[go_sem,seval,Zc]at e
 obtain ⟨⟨_,_⟩,u,hn⟩:=e
 subst hn
 have v:=WF.boxL t u (j:=1) rfl
 have:=Zz a
 have:=ZC a
 have:=Zj (ZA a) v
 simp only[*,go_sem,seval]
 refine Zh h (λi _ st=>IV [(1,.bp 0 0),(3,yL q),(4,yM (.int .i64 d.for_)),(5,yL i)] [.box 52 [.c (.int .i64 b_0.nodes),.c (zC b_0.reasons)]] st) [] [0] yF yD ?_ ?_
 rintro _ _ ⟨⟩ ⟨_,_,_⟩ _ b g w h k
 simp only[go_sem,seval,Zc]at g
 obtain ⟨⟨_,_,_,_⟩,x,hn⟩:=g
 subst hn
 have y:=WF.elL (WF.boxD w x (j:=1) rfl) a (j:=2) rfl
 have:=Zz b
 have:=ZC b
 have:=Zj (ZA b) y
 simp only[*,go_sem,seval]
 refine yB h (λ_ h=>?_) λ_ h=>?_
 replace h:=Zn h k
 replace h:=Zn h f
 cases h;exact yD
 refine Zb h λ_ z h=>Za (Zo7 z) ?_
 obtain ⟨_,h⟩:=Zq h
 obtain ⟨_,_,h⟩:=ZE h
 simp only[*,go_sem,seval]
 refine yB h (λ_ h=>?_) λ_ h=>?_
 replace h:=Zn h k
 replace h:=Zn h f
 cases h;exact yD
 exact yR h [0]
 rintro ⟨⟩ ⟨_,_,_⟩ l _ h
 simp only[go_sem,seval,Zc]at l
 obtain ⟨⟨_,_,_,_⟩,_,hn⟩:=l
 subst hn
 have:=Zx (d.outs.length)
 simp only[*,go_sem,seval]
 exact yR h [0]
 rintro ⟨⟩ ⟨_,_,_⟩ m _ h
 simp only[go_sem,seval,Zc]at m
 obtain ⟨⟨_,_⟩,_,hn⟩:=m
 subst hn
 have:=Zx (b_0.reasons.length)
 iterate 2 (cases h;exact yD)
theorem ZmG {l_0:(List Zp)}{r:(List Zp)}(h:Zdp l_0=some r):Sound prog J0 89 [(false,[.sl 134 5 (A0 ZO l_0)])] [(false,[(false,.sl 134 5 (A0 ZO r))])]:=by
 refine fnk func89 rfl ?_
 unfold Zdp at h
 simp only[fnS,f89,Zk,go_sem,seval]
 refine Zh h (λi a st=>IV [(3,.p false [.row 0]),(6,yM (yY l_0)),(7,yL l_0.length),(8,yL i)] [.row 134 5 (A0 ZO a) 2] st) [(false,3,0)] [80] yF yD ?_ ?_
 rintro _ _ a ⟨_,_,_⟩ _ b d f h _
 simp only[go_sem,seval,Zc]at d
 obtain ⟨⟨_,g,_,_⟩,_,hn⟩:=d
 subst hn
 have k:=WF.slotL f g (j:=0) rfl
 have:=Zz b
 have:=ZC b
 have:=Zj (ZA b) k
 simp only[*,go_sem,seval]
 refine Zb h λ_ l h=>Za (ZoF l) ?_
 obtain ⟨m,h⟩:=Zq h
 try simp only[Nat.reduceLeDiff]at m
 simp only[*,go_sem,seval]
 exact yR h [145]
 rintro a ⟨_,_,_⟩ e _ h
 simp only[go_sem,seval,Zc]at e
 obtain ⟨⟨_,_,_,_⟩,_,hn⟩:=e
 subst hn
 have:=Zx (l_0.length)
 cases h;exact yD
end
section
theorem XH {p_0:Zv}{r:Bool}(h:Y6 p_0=some r):Sound prog J0 163 [(true,Q4 p_0)] [(false,[(false,.bool r)])]:=by
 refine fnk func163 rfl ?_
 unfold Y6 at h
 simp only[fnS,f163,Zk,go_sem,seval]
 refine Zh h (λi _ st=>IV [(1,.bp 0 0),(3,yL i)] [.box 113 [.c (.str p_0.rel),.c (yV p_0.args)]] st) [] [0] yF yD ?_ ?_
 rintro _ _ ⟨⟩ ⟨_,_,_⟩ _ a b e h f
 simp only[go_sem,seval,Zc]at b
 obtain ⟨⟨_,_⟩,g,hn⟩:=b
 subst hn
 have k:=WF.boxL e g (j:=1) rfl
 have:=Zz a
 have:=ZC a
 have:=Zj (ZA a) k
 simp only[*,go_sem,seval]
 refine Zb h λ_ l h=>Za (ZaE l)<|yA ?_
 refine yB h (λ_ h=>?_) λ_ h=>?_
 exact yR h [0]
 replace h:=Zn h f
 cases h;exact yD
 rintro ⟨⟩ ⟨_,_,_⟩ d _ h
 simp only[go_sem,seval,Zc]at d
 obtain ⟨⟨_,_⟩,_,hn⟩:=d
 subst hn
 have:=Zx (p_0.args.length)
 simp only[*,go_sem,seval]
 refine Zb h λ_ m h=>Za (ZhS m)<|yA ?_
 refine yB h (λ_ h=>?_) λ_ h=>?_
 iterate 2 (cases h;exact yD)
theorem Zca {r_0:Zf}{n_1:Int}{r:(List ByteArray)}(h:QM r_0 n_1=some r):Sound prog J0 190 [(true,eRule r_0),(false,[.int .i64 n_1])] [(false,[(false,.sl 9 1 (A0 ZB r))])]:=by
 refine fnk func190 rfl ?_
 unfold QM at h
 simp only[fnS,f190,Zk,go_sem,seval]
 refine Zh h (λi a st=>IV [(1,yM (.int .i64 n_1)),(2,.bp 0 0),(5,.p false [.row 1]),(6,yL i)] [zI 76 (eRule r_0),.row 9 1 (A0 ZB a) 2] st) [] [0,32] yF yD ?_ ?_
 rintro b _ a ⟨_,_,_⟩ _ d g q h t
 simp only[go_sem,seval,Zc]at g
 obtain ⟨⟨_,_,_,_⟩,u,_,hn⟩:=g
 subst hn
 have v:=WF.boxL q u (j:=2) rfl
 have:=Zz d
 have:=ZC d
 have:=Zj (ZA d) v
 simp only[*,go_sem,seval]
 iterate 2 refine yB h (λ_ h=>?_) λ_ h=>?_
 refine Zb h λk w h=>Za (Zdl w)<|yA ?_
 refine Zh h (λi e st=>IV [(1,yM (.int .i64 n_1)),(2,.bp 0 0),(5,.p false [.row 1]),(6,yL b),(7,.p false [.row 2]),(8,yL i),(16,yL b),(17,yM (.int .i64 n_1)),(18,yM (.bool (decide (((b:Nat):Int)<n_1))))] [zI 76 (eRule r_0),.row 9 1 (A0 ZB e) 2,.row 9 1 (A0 ZB k) 2] st) [] [0,1,370] yF yD ?_ ?_
 rintro _ _ e ⟨_,_,_⟩ _ f l x h _
 simp only[go_sem,seval,Zc]at l
 obtain ⟨⟨_,_,_,_,_,_,_,_,_⟩,_,_,y,hn⟩:=l
 subst hn
 have z:=WF.rowL x y
 have:=Zz f
 have:=ZC f
 have:=Zj (ZA f) z
 simp only[*,go_sem,seval]
 refine Zb h λ_ A h=>Za (XQ A)<|yA ?_
 exact yR h [0,147,2]
 rintro e ⟨_,_,_⟩ m _ h
 simp only[go_sem,seval,Zc]at m
 obtain ⟨⟨_,_,_,_,_,_,_,_,_⟩,_,_,_,hn⟩:=m
 subst hn
 have:=Zx (k.length)
 simp only[*,go_sem,seval]
 exact yR h [0,1]
 exact yR h [0,1]
 replace h:=Zn h t
 cases h;exact yD
 rintro a ⟨_,_,_⟩ o _ h
 simp only[go_sem,seval,Zc]at o
 obtain ⟨⟨_,_,_,_⟩,_,_,hn⟩:=o
 subst hn
 have:=Zx (r_0.cond.length)
 cases h;exact yD
theorem Za7 {x_0:Zp}{r:(List ByteArray)}(h:Qi x_0=some r):Sound prog J0 191 [(true,ZO x_0)] [(false,[(false,.sl 9 1 (A0 ZB r))])]:=by
 refine fnk func191 rfl ?_
 unfold Qi at h
 simp only[fnS,f191,Zk,go_sem,seval]
 refine Zb h λ_ a h=>Za (Zdl a)<|yA ?_
 refine Zb h λ_ b h=>Za (ZaA b)<|yA ?_
 refine yB h (λ_ h=>?_) λ_ h=>?_
 refine Zb h λ_ c h=>Za (XQ c)<|yA ?_
 refine Zb h λ_ d h=>Za (ZaA d)<|yA ?_
 refine yB h (λ_ h=>?_) λ_ h=>?_
 refine Zb h λ_ e h=>Za (XQ e) ?_
 iterate 2 (cases h;exact yD)
 refine Zb h λ_ f h=>Za (ZaA f)<|yA ?_
 refine yB h (λ_ h=>?_) λ_ h=>?_
 refine Zb h λ_ g h=>Za (XQ g) ?_
 iterate 2 (cases h;exact yD)
theorem s_l2Put_ok {a:(List Zd)}{f_1:Zd}{r:(List Zd)}(h:Xe a f_1=some r):Sound prog J0 38 [(false,[.sl 40 2 (A0 eFact a)]),(true,eFact f_1)] [(false,[(false,.sl 40 2 (A0 eFact r))])]:=by
 refine fnk func38 rfl ?_
 unfold Xe at h
 simp only[fnS,f38,Zk,go_sem,seval]
 refine Zh h (λi s st=>match s with|(b,d)=>IV [(0,yM (yU a)),(3,.bp 0 0),(5,.p false [.row 1]),(6,yM (.bool d)),(7,yL i)] [zI 40 (eFact f_1),.row 40 2 (A0 eFact b) 2] st) [] [0,32] yF yD ?_ ?_
 rintro _ _ ⟨b,d⟩ ⟨_,_,_⟩ _ e f k h _
 simp only[go_sem,seval,Zc]at f
 obtain ⟨⟨l,_,_,_,_⟩,_,_,hn⟩:=f
 subst hn
 have m:=WF.slotL k l (j:=0) rfl
 have:=Zz e
 have:=ZC e
 have:=Zj (ZA e) m
 simp only[*,go_sem,seval]
 refine yB h (λ_ h=>?_) λ_ h=>?_
 refine Zb h λ_ o h=>Za (Xw o) ?_
 obtain ⟨q,h⟩:=Zq h
 try simp only[Nat.reduceLeDiff]at q
 simp only[*,go_sem,seval]
 exact yR h [0,354]
 refine Zb h λ_ t h=>Za (ZbS t)<|yA ?_
 refine yB h (λ_ h=>?_) λ_ h=>?_
 refine Zb h λ_ u h=>Za (ZbS u)<|yA ?_
 refine yB h (λ_ h=>?_) λ_ h=>?_
 refine Zb h λ_ v h=>Za (Xw v) ?_
 obtain ⟨w,h⟩:=Zq h
 try simp only[Nat.reduceLeDiff]at w
 simp only[*,go_sem,seval]
 refine Zb h λ_ x h=>Za (Xw x) ?_
 obtain ⟨y,h⟩:=Zq h
 try simp only[Nat.reduceLeDiff]at y
 simp only[*,go_sem,seval]
 exact yR h [0,578]
 refine Zb h λ_ z h=>Za (Xw z) ?_
 obtain ⟨A,h⟩:=Zq h
 try simp only[Nat.reduceLeDiff]at A
 simp only[*,go_sem,seval]
 exact yR h [0,482]
 refine Zb h λ_ B h=>Za (Xw B) ?_
 obtain ⟨C,h⟩:=Zq h
 try simp only[Nat.reduceLeDiff]at C
 simp only[*,go_sem,seval]
 exact yR h [0,354]
 rintro ⟨b,d⟩ ⟨_,_,_⟩ g _ h
 simp only[go_sem,seval,Zc]at g
 obtain ⟨⟨_,_,_,_,_⟩,_,_,hn⟩:=g
 subst hn
 have:=Zx (a.length)
 simp only[*,go_sem,seval]
 refine yB h (λ_ h=>?_) λ_ h=>?_
 cases h;exact yD
 refine Zb h λ_ D h=>Za (Xw D) ?_
 obtain ⟨E,h⟩:=Zq h
 try simp only[Nat.reduceLeDiff]at E
 cases h;exact yD
theorem i_Instance_ok {p_0:Zv}{b_1:(List Zs)}{r:(Zd×Bool)}(h:Xi p_0 b_1=some r):Sound prog J0 59 [(true,Q4 p_0),(false,[.sl 194 2 (A0 ePair b_1)])] [(true,[(false,.str r.1.rel),(false,.sl 9 1 (A0 ZB r.1.args))]),(false,[(false,.bool r.2)])]:=by
 refine fnk func59 rfl ?_
 unfold Xi at h
 simp only[fnS,f59,Zk,go_sem,seval]
 refine Zb h λ_ f h=>Za (Qu f)<|yA ?_
 refine yB h (λ_ h=>?_) λ_ h=>?_
 refine Zb h λ_ g h=>Za (Zal g)<|yA ?_
 refine yB h (λ_ h=>?_) λ_ h=>?_
 refine Zh h (λi a st=>IV [(1,yM (yZ b_1)),(4,.bp 0 0),(6,.bp 1 0),(24,yM (yV p_0.args)),(25,yL p_0.args.length),(26,yL i)] [.box 40 [.c (.str ⟨#[]⟩),.nil 9 1],.box 40 [.c (.str p_0.rel),.row 2],.row 9 1 (A0 ZB a) 2] st) [(true,224,1)] [16,224,320] yF yD ?_ ?_
 rintro _ _ a ⟨_,_,_⟩ _ b d k h l
 simp only[go_sem,seval,Zc]at d
 obtain ⟨⟨_,_,_,m,_,_⟩,_,_,_,hn⟩:=d
 subst hn
 have o:=WF.slotL k m (j:=0) rfl
 have:=Zz b
 have:=ZC b
 have:=Zj (ZA b) o
 simp only[*,go_sem,seval]
 refine Zb h λ_ q h=>Za (ZdJ q)<|yA ?_
 refine yB h (λ_ h=>?_) λ_ h=>?_
 obtain ⟨t,h⟩:=Zq h
 try simp only[Nat.reduceLeDiff]at t
 simp only[*,go_sem,seval]
 exact yR h [0,1,291]
 replace h:=Zn h l
 cases h;exact yD
 rintro a ⟨_,_,_⟩ e _ h
 simp only[go_sem,seval,Zc]at e
 obtain ⟨⟨_,_,_,_,_,_⟩,_,_,_,hn⟩:=e
 subst hn
 have:=Zx (p_0.args.length)
 iterate 3 (cases h;exact yD)
theorem Zht {x_0:Zp}{r:Bool}(h:Zer x_0=some r):Sound prog J0 81 [(true,ZO x_0)] [(false,[(false,.bool r)])]:=by
 refine fnk func81 rfl ?_
 unfold Zer at h
 have a:Z9 ⟨#[]⟩=true:=by decide
 simp only[fnS,f81,Zk,go_sem,seval,a]
 refine yB h (λ_ h=>?_) λ_ h=>?_
 refine Zb h λ_ b h=>Za (Qu b)<|yA ?_
 iterate 2 refine yB h (λ_ h=>?_) λ_ h=>?_
 iterate 3 (cases h;exact yD)
 refine yB h (λ_ h=>?_) λ_ h=>?_
 refine Zb h λ_ c h=>Za (Qu c)<|yA ?_
 iterate 2 refine yB h (λ_ h=>?_) λ_ h=>?_
 iterate 3 (cases h;exact yD)
 refine yB h (λ_ h=>?_) λ_ h=>?_
 refine Zb h λ_ d h=>Za (Zam d)<|yA ?_
 refine yB h (λ_ h=>?_) λ_ h=>?_
 refine Zb h λ_ e h=>Za (Zam e)<|yA ?_
 refine yB h (λ_ h=>?_) λ_ h=>?_
 refine Zb h λ_ f h=>Za (ZaT f) ?_
 iterate 3 (cases h;exact yD)
 refine yB h (λ_ h=>?_) λ_ h=>?_
 refine Zb h λ_ g h=>Za (Zam g)<|yA ?_
 refine yB h (λ_ h=>?_) λ_ h=>?_
 refine Zb h λ_ i h=>Za (Zam i)<|yA ?_
 refine yB h (λ_ h=>?_) λ_ h=>?_
 refine Zb h λ_ j h=>Za (ZaT j) ?_
 iterate 3 (cases h;exact yD)
 refine yB h (λ_ h=>?_) λ_ h=>?_
 refine Zb h λ_ k h=>Za (Zam k)<|yA ?_
 refine yB h (λ_ h=>?_) λ_ h=>?_
 refine Zb h λ_ l h=>Za (Zam l)<|yA ?_
 refine yB h (λ_ h=>?_) λ_ h=>?_
 refine Zb h λ_ m h=>Za (ZaT m) ?_
 iterate 4 (cases h;exact yD)
theorem ZgZ {append_0:Zv}{String_1:Zd}{a_2:(List Zs)}{r:((List Zs)×Bool)}(h:ZbF append_0 String_1 a_2=some r):Sound prog J0 113 [(true,Q4 append_0),(true,eFact String_1),(false,[.sl 194 2 (A0 ePair a_2)])] [(false,[(false,.sl 194 2 (A0 ePair r.1))]),(false,[(false,.bool r.2)])]:=by
 refine fnk func113 rfl ?_
 unfold ZbF at h
 simp only[fnS,f113,Zk,go_sem,seval]
 refine Zb h λ_ g h=>Za (Qu g)<|yA ?_
 refine yB h (λ_ h=>?_) λ_ h=>?_
 refine Zb h λ_ k h=>Za (Y9 k)<|yA ?_
 refine yB h (λ_ h=>?_) λ_ h=>?_
 refine Zb h λ_ l h=>Za (Zal l)<|yA ?_
 iterate 3 refine yB h (λ_ h=>?_) λ_ h=>?_
 cases h;exact yD
 refine Zb h λ_ m h=>Za (Zep m)<|yA ?_
 refine Zh h (λi a st=>IV [(4,.bp 0 0),(8,.p false [.row 1]),(45,yM (yV append_0.args)),(46,yL append_0.args.length),(47,yL i)] [zI 40 (eFact String_1),.row 194 2 (A0 ePair a) 2] st) [] [16,544] yF yD ?_ ?_
 rintro _ _ a ⟨_,_,_⟩ _ b d o h e
 simp only[go_sem,seval,Zc]at d
 obtain ⟨⟨_,_,q,_,_⟩,_,_,hn⟩:=d
 subst hn
 have t:=WF.slotL o q (j:=0) rfl
 have:=Zz b
 have:=ZC b
 have:=Zj (ZA b) t
 simp only[*,go_sem,seval]
 refine Zb h λ_ u h=>Za (Qb u)<|yA ?_
 refine yB h (λ_ h=>?_) λ_ h=>?_
 obtain ⟨_,_,_,v,h⟩:=ZaV h
 simp only[A9]at v
 simp only[*,go_sem,seval]
 refine yB h (λ_ h=>?_) λ_ h=>?_
 exact yR h [0,1]
 replace h:=Zn h e
 cases h;exact yD
 obtain ⟨_,_,_,w,h⟩:=ZaV h
 simp only[A9]at w
 simp only[*,go_sem,seval]
 refine Zb h λ_ x h=>Za (Zr8 x)<|yA ?_
 refine yB h (λ_ h=>?_) λ_ h=>?_
 exact yR h [0,242]
 replace h:=Zn h e
 cases h;exact yD
 rintro a ⟨_,_,_⟩ f _ h
 simp only[go_sem,seval,Zc]at f
 obtain ⟨⟨_,_,_,_,_⟩,_,_,hn⟩:=f
 subst hn
 have:=Zx (append_0.args.length)
 iterate 5 (cases h;exact yD)
theorem ZiH {l_0:(List Zd)}{r:Bool}(h:Zbt l_0=some r):Sound prog J0 91 [(false,[.sl 40 2 (A0 eFact l_0)])] [(false,[(false,.bool r)])]:=by
 refine fnk func91 rfl ?_
 unfold Zbt at h
 simp only[fnS,f91,Zk,go_sem,seval]
 refine yB h (λ_ h=>?_) λ_ h=>?_
 cases h;exact yD
 refine Zh h (λi _ st=>IV [(0,yM (yU l_0)),(8,yM (yU l_0)),(9,yL l_0.length),(10,yL i)] [] st) [] [] yF yD ?_ ?_
 rintro _ _ ⟨⟩ ⟨_,_,_⟩ _ a b f h d
 simp only[go_sem,seval,Zc]at b
 obtain ⟨⟨g,_,_,_⟩,hn⟩:=b
 subst hn
 have k:=WF.slotL f g (j:=0) rfl
 have:=Zz a
 have:=ZC a
 have:=Zj (ZA a) k
 simp only[*,go_sem,seval]
 refine Zb h λ_ l h=>Za (Y9 l)<|yA ?_
 iterate 2 refine yB h (λ_ h=>?_) λ_ h=>?_
 obtain ⟨_,_,_,_,h⟩:=ZaV h
 simp only[*,go_sem,seval]
 refine Zb h λ_ m h=>Za (Zad m)<|yA ?_
 refine yB h (λ_ h=>?_) λ_ h=>?_
 replace h:=Zn h d
 cases h;exact yD
 exact yR h []
 exact yR h []
 replace h:=Zn h d
 cases h;exact yD
 rintro ⟨⟩ ⟨_,_,_⟩ e _ h
 simp only[go_sem,seval,Zc]at e
 obtain ⟨⟨_,_,_,_⟩,hn⟩:=e
 subst hn
 have:=Zx (l_0.length)
 cases h;exact yD
theorem Zhq {r_0:Zf}{k_1:Int}{v_2:ByteArray}{r:Bool}(h:Qe r_0 k_1 v_2=some r):Sound prog J0 132 [(true,eRule r_0),(false,[.int .i64 k_1]),(false,[.str v_2])] [(false,[(false,.bool r)])]:=by
 refine fnk func132 rfl ?_
 unfold Qe at h
 simp only[fnS,f132,Zk,go_sem,seval]
 refine Zh h (λi _ st=>IV [(1,yM (.int .i64 k_1)),(2,yM (.str v_2)),(3,.bp 0 0),(12,yM (yY r_0.cond)),(13,yL r_0.cond.length),(14,yL i)] [zI 76 (eRule r_0)] st) [] [0] yF yD ?_ ?_
 rintro _ _ ⟨⟩ ⟨_,_,_⟩ _ a d k h l
 simp only[go_sem,seval,Zc]at d
 obtain ⟨⟨_,_,_,m,_,_⟩,_,hn⟩:=d
 subst hn
 have o:=WF.slotL k m (j:=0) rfl
 have:=Zz a
 have:=ZC a
 have:=Zj (ZA a) o
 simp only[*,go_sem,seval]
 refine yB h (λ_ h=>?_) λ_ h=>?_
 refine Zb h λ_ q h=>Za (ZcI q)<|yA ?_
 refine Zb h λ_ t h=>Za (ZaS t)<|yA ?_
 refine yB h (λ_ h=>?_) λ_ h=>?_
 replace h:=Zn h l
 cases h;exact yD
 exact yR h [0]
 exact yR h [0]
 rintro ⟨⟩ ⟨_,_,_⟩ e _ h
 simp only[go_sem,seval,Zc]at e
 obtain ⟨⟨_,_,_,_,_,_⟩,_,hn⟩:=e
 subst hn
 have:=Zx (r_0.cond.length)
 simp only[*,go_sem,seval]
 refine Zh h (λi _ st=>IV [(2,yM (.str v_2)),(30,yM (zA r_0.thn)),(31,yL r_0.thn.length),(32,yL i)] [] st) [] [] yF yD ?_ ?_
 rintro _ _ ⟨⟩ ⟨_,_,_⟩ _ b f u h v
 simp only[go_sem,seval,Zc]at f
 obtain ⟨⟨_,w,_,_⟩,hn⟩:=f
 subst hn
 have x:=WF.slotL u w (j:=0) rfl
 have:=Zz b
 have:=ZC b
 have:=Zj (ZA b) x
 simp only[*,go_sem,seval]
 refine Zb h λ_ y h=>Za (ZaS y)<|yA ?_
 refine yB h (λ_ h=>?_) λ_ h=>?_
 replace h:=Zn h v
 cases h;exact yD
 exact yR h []
 rintro ⟨⟩ ⟨_,_,_⟩ g _ h
 simp only[go_sem,seval,Zc]at g
 obtain ⟨⟨_,_,_,_⟩,hn⟩:=g
 subst hn
 have:=Zx (r_0.thn.length)
 cases h;exact yD
theorem ZoP {a_0:Zw}{r:Bool}(h:Zej a_0=some r):Sound prog J0 84 [(true,eAction a_0)] [(false,[(false,.bool r)])]:=by
 refine fnk func84 rfl ?_
 unfold Zej at h
 simp only[fnS,f84,Zk,go_sem,seval]
 refine yB h (λ_ h=>?_) λ_ h=>?_
 refine Zb h λ_ a h=>Za (Qu a) ?_
 cases h;exact yD
 refine yB h (λ_ h=>?_) λ_ h=>?_
 refine Zb h λ_ b h=>Za (Qu b) ?_
 cases h;exact yD
 refine yB h (λ_ h=>?_) λ_ h=>?_
 refine Zb h λ_ c h=>Za (ZaT c) ?_
 iterate 2 (cases h;exact yD)
theorem Zl8 {l_0:(List Zp)}{r:(List ByteArray)}(h:Zb7 l_0=some r):Sound prog J0 88 [(false,[.sl 134 5 (A0 ZO l_0)])] [(false,[(false,.sl 9 1 (A0 ZB r))])]:=by
 refine fnk func88 rfl ?_
 unfold Zb7 at h
 simp only[fnS,f88,Zk,go_sem,seval]
 refine Zh h (λi a st=>IV [(3,.p false [.row 0]),(6,yM (yY l_0)),(7,yL l_0.length),(8,yL i)] [.row 9 1 (A0 ZB a) 2] st) [(false,3,0)] [80] yF yD ?_ ?_
 rintro _ _ a ⟨_,_,_⟩ _ b d f h _
 simp only[go_sem,seval,Zc]at d
 obtain ⟨⟨_,g,_,_⟩,_,hn⟩:=d
 subst hn
 have k:=WF.slotL f g (j:=0) rfl
 have:=Zz b
 have:=ZC b
 have:=Zj (ZA b) k
 simp only[*,go_sem,seval]
 refine Zb h λ_ l h=>Za (ZcI l) ?_
 obtain ⟨_,h⟩:=Zq h
 simp only[*,go_sem,seval]
 exact yR h [129]
 rintro a ⟨_,_,_⟩ e _ h
 simp only[go_sem,seval,Zc]at e
 obtain ⟨⟨_,_,_,_⟩,_,hn⟩:=e
 subst hn
 have:=Zx (l_0.length)
 cases h;exact yD
theorem ZqQ {a:(List Zd)}{f_1:Zd}{r:(List Zd)}(h:Qw a f_1=some r):Sound prog J0 111 [(false,[.sl 40 2 (A0 eFact a)]),(true,eFact f_1)] [(false,[(false,.sl 40 2 (A0 eFact r))])]:=by
 refine fnk func111 rfl ?_
 unfold Qw at h
 simp only[fnS,f111,Zk,go_sem,seval]
 refine Zh h (λi s st=>match s with|(b,d)=>IV [(3,.bp 0 0),(5,.p false [.row 1]),(6,yM (.bool d)),(9,yM (yU a)),(10,yL a.length),(11,yL i)] [zI 40 (eFact f_1),.row 40 2 (A0 eFact b) 2] st) [(false,5,0)] [0,112] yF yD ?_ ?_
 rintro _ _ ⟨b,d⟩ ⟨_,_,_⟩ _ e f l h _
 simp only[go_sem,seval,Zc]at f
 obtain ⟨⟨_,_,_,m,_,_⟩,_,_,hn⟩:=f
 subst hn
 have o:=WF.slotL l m (j:=0) rfl
 have:=Zz e
 have:=ZC e
 have:=Zj (ZA e) o
 simp only[*,go_sem,seval]
 refine yB h (λ_ h=>?_) λ_ h=>?_
 refine Zb h λ_ q h=>Za (Z7 q) ?_
 obtain ⟨t,h⟩:=Zq h
 try simp only[Nat.reduceLeDiff]at t
 simp only[*,go_sem,seval]
 exact yR h [0,274]
 refine Zb h λ_ u h=>Za (Zad u)<|yA ?_
 refine yB h (λ_ h=>?_) λ_ h=>?_
 refine Zb h λ_ v h=>Za (Z7 v) ?_
 obtain ⟨w,h⟩:=Zq h
 try simp only[Nat.reduceLeDiff]at w
 simp only[*,go_sem,seval]
 refine Zb h λ_ x h=>Za (Z7 x) ?_
 obtain ⟨y,h⟩:=Zq h
 try simp only[Nat.reduceLeDiff]at y
 simp only[*,go_sem,seval]
 exact yR h [0,386]
 refine Zb h λ_ z h=>Za (Z7 z) ?_
 obtain ⟨A,h⟩:=Zq h
 try simp only[Nat.reduceLeDiff]at A
 simp only[*,go_sem,seval]
 exact yR h [0,274]
 rintro ⟨b,d⟩ ⟨_,_,_⟩ g _ h
 simp only[go_sem,seval,Zc]at g
 obtain ⟨⟨_,_,_,_,_,_⟩,_,_,hn⟩:=g
 subst hn
 have:=Zx (a.length)
 simp only[*,go_sem,seval]
 refine yB h (λ_ h=>?_) λ_ h=>?_
 cases h;exact yD
 refine Zb h λ_ B h=>Za (Z7 B) ?_
 obtain ⟨C,h⟩:=Zq h
 try simp only[Nat.reduceLeDiff]at C
 cases h;exact yD
end
section
theorem ZrO {x_0:Yp}{r:Bool}(h:Qr x_0=some r):Sound prog J0 52 [(true,eEvent x_0)] [(false,[(false,.bool r)])]:=by
 refine fnk func52 rfl ?_
 unfold Qr at h
 have a:Z9 ⟨#[]⟩=true:=by decide
 simp only[fnS,f52,Zk,go_sem,seval,a]
 iterate 3 refine yB h (λ_ h=>?_) λ_ h=>?_
 refine Zb h λ_ b h=>Za (Y9 b) ?_
 iterate 2 (cases h;exact yD)
 iterate 2 refine yB h (λ_ h=>?_) λ_ h=>?_
 refine Zb h λ_ c h=>Za (Y9 c) ?_
 iterate 2 (cases h;exact yD)
 refine yB h (λ_ h=>?_) λ_ h=>?_
 refine Zb h λ_ d h=>Za (Y5 d)<|yA ?_
 refine yB h (λ_ h=>?_) λ_ h=>?_
 iterate 2 (cases h;exact yD)
 refine yB h (λ_ h=>?_) λ_ h=>?_
 refine Zb h λ_ e h=>Za (Y5 e)<|yA ?_
 refine yB h (λ_ h=>?_) λ_ h=>?_
 iterate 2 (cases h;exact yD)
 refine yB h (λ_ h=>?_) λ_ h=>?_
 refine Zb h λ_ f h=>Za (Y5 f)<|yA ?_
 refine yB h (λ_ h=>?_) λ_ h=>?_
 refine Zb h λ_ g h=>Za (Y9 g) ?_
 iterate 2 (cases h;exact yD)
 refine yB h (λ_ h=>?_) λ_ h=>?_
 refine Zb h λ_ i h=>Za (Y5 i)<|yA ?_
 refine yB h (λ_ h=>?_) λ_ h=>?_
 refine Zb h λ_ j h=>Za (Y9 j) ?_
 iterate 3 (cases h;exact yD)
 iterate 2 refine yB h (λ_ h=>?_) λ_ h=>?_
 refine Zb h λ_ k h=>Za (Y9 k) ?_
 iterate 2 (cases h;exact yD)
 iterate 2 refine yB h (λ_ h=>?_) λ_ h=>?_
 refine Zb h λ_ l h=>Za (Y9 l) ?_
 iterate 2 (cases h;exact yD)
 refine yB h (λ_ h=>?_) λ_ h=>?_
 refine Zb h λ_ m h=>Za (Y5 m)<|yA ?_
 refine yB h (λ_ h=>?_) λ_ h=>?_
 iterate 2 (cases h;exact yD)
 refine yB h (λ_ h=>?_) λ_ h=>?_
 refine Zb h λ_ o h=>Za (Y5 o)<|yA ?_
 refine yB h (λ_ h=>?_) λ_ h=>?_
 iterate 2 (cases h;exact yD)
 refine yB h (λ_ h=>?_) λ_ h=>?_
 refine Zb h λ_ p h=>Za (Y5 p)<|yA ?_
 refine yB h (λ_ h=>?_) λ_ h=>?_
 refine Zb h λ_ q h=>Za (Y9 q) ?_
 iterate 2 (cases h;exact yD)
 refine yB h (λ_ h=>?_) λ_ h=>?_
 refine Zb h λ_ t h=>Za (Y5 t)<|yA ?_
 refine yB h (λ_ h=>?_) λ_ h=>?_
 refine Zb h λ_ u h=>Za (Y9 u) ?_
 iterate 3 (cases h;exact yD)
theorem Zhc {a:Xb}{r:Xb}(h:ZbL a=some r):Sound prog J0 139 [(true,eMatch a)] [(true,[(false,.str r.rule),(false,.sl 40 2 (A0 eFact r.facts)),(false,.sl 194 2 (A0 ePair r.binding))])]:=by
 refine fnk func139 rfl ?_
 unfold ZbL at h
 simp only[fnS,f139,Zk,go_sem,seval]
 refine Zb h λ_ b h=>Za (Zey b)<|yA ?_
 refine Zb h λ_ c h=>Za (Zep c) ?_
 cases h;exact yD
theorem ZrH {l_0:(List Zr)}{facts_1:(List Zd)}{r:(List Int)}(h:Zfs l_0 facts_1=some r):Sound prog J0 140 [(false,[.sl 64 3 (A0 eStamp l_0)]),(false,[.sl 40 2 (A0 eFact facts_1)])] [(false,[(false,.sl 3 1 (A0 ZH r))])]:=by
 refine fnk func140 rfl ?_
 unfold Zfs at h
 simp only[fnS,f140,Zk,go_sem,seval]
 refine Zh h (λi a st=>IV [(0,yM (zB l_0)),(5,.p false [.row 0]),(8,yM (yU facts_1)),(9,yL facts_1.length),(10,yL i)] [.row 3 1 (A0 ZH a) 2] st) [(false,5,0)] [80] yF yD ?_ ?_
 rintro _ _ a ⟨_,_,_⟩ _ b d f h _
 simp only[go_sem,seval,Zc]at d
 obtain ⟨⟨_,_,g,_,_⟩,_,hn⟩:=d
 subst hn
 have k:=WF.slotL f g (j:=0) rfl
 have:=Zz b
 have:=ZC b
 have:=Zj (ZA b) k
 simp only[*,go_sem,seval]
 refine Zb h λ_ l h=>Za (ZsA l) ?_
 obtain ⟨m,h⟩:=Zq h
 try simp only[Nat.reduceLeDiff]at m
 simp only[*,go_sem,seval]
 exact yR h [161]
 rintro a ⟨_,_,_⟩ e _ h
 simp only[go_sem,seval,Zc]at e
 obtain ⟨⟨_,_,_,_,_⟩,_,hn⟩:=e
 subst hn
 have:=Zx (facts_1.length)
 cases h;exact yD
theorem Zu3 {l_0:(List Zd)}{f_1:Zd}{r:Bool}(h:Zku l_0 f_1=some r):Sound prog J0 31 [(false,[.sl 40 2 (A0 eFact l_0)]),(true,eFact f_1)] [(false,[(false,.bool r)])]:=by
 refine fnk func31 rfl ?_
 unfold Zku at h
 simp only[fnS,f31,Zk,go_sem,seval]
 refine Zb h λ_ a h=>Za (s_FindFact_ok a) ?_
 cases h;exact yD
end
section
theorem ZtT {b_0:(List Zs)}{v_1:ByteArray}{value_2:ByteArray}{r:((List Zs)×Bool)}(h:ZhG b_0 v_1 value_2=some r):Sound prog J0 213 [(false,[.sl 194 2 (A0 ePair b_0)]),(false,[.str v_1]),(false,[.str value_2])] [(false,[(false,.sl 194 2 (A0 ePair r.1))]),(false,[(false,.bool r.2)])]:=by
 refine fnk func213 rfl ?_
 unfold ZhG at h
 simp only[fnS,f213,Zk,go_sem,seval]
 refine Zb h λ_ a h=>Za (Zas a)<|yA ?_
 refine yB h (λ_ h=>?_) λ_ h=>?_
 refine Zb h λ_ b h=>Za (ZaA b)<|yA ?_
 refine yB h (λ_ h=>?_) λ_ h=>?_
 refine Zb h λ_ c h=>Za (QL c)<|yA ?_
 refine yB h (λ_ h=>?_) λ_ h=>?_
 refine Zb h λ_ d h=>Za (ZdM d)<|yA ?_
 iterate 2 refine yB h (λ_ h=>?_) λ_ h=>?_
 refine Zb h λ_ e h=>Za (ZhL e) ?_
 iterate 2 (cases h;exact yD)
 refine yB h (λ_ h=>?_) λ_ h=>?_
 cases h;exact yD
 refine Zb h λ_ f h=>Za (Zus f) ?_
 iterate 4 (cases h;exact yD)
theorem s_AreFacts_ok {l_0:(List Zd)}{r:Bool}(h:Zec l_0=some r):Sound prog J0 120 [(false,[.sl 40 2 (A0 eFact l_0)])] [(false,[(false,.bool r)])]:=by
 refine fnk func120 rfl ?_
 unfold Zec at h
 simp only[fnS,f120,Zk,go_sem,seval]
 refine Zh h (λi _ st=>IV [(0,yM (yU l_0)),(3,yL i)] [] st) [] [] yF yD ?_ ?_
 rintro _ _ ⟨⟩ ⟨_,_,_⟩ _ a b f h d
 simp only[go_sem,seval,Zc]at b
 obtain ⟨⟨g,_⟩,hn⟩:=b
 subst hn
 have k:=WF.slotL f g (j:=0) rfl
 have:=Zz a
 have:=ZC a
 have:=Zj (ZA a) k
 simp only[*,go_sem,seval]
 refine Zb h λ_ l h=>Za (ZlS l)<|yA ?_
 iterate 2 refine yB h (λ_ h=>?_) λ_ h=>?_
 obtain ⟨_,_,_,_,h⟩:=ZaV h
 simp only[*,go_sem,seval]
 refine Zb h λ_ m h=>Za (ZbS m)<|yA ?_
 refine yB h (λ_ h=>?_) λ_ h=>?_
 replace h:=Zn h d
 cases h;exact yD
 exact yR h []
 exact yR h []
 replace h:=Zn h d
 cases h;exact yD
 rintro ⟨⟩ ⟨_,_,_⟩ e _ h
 simp only[go_sem,seval,Zc]at e
 obtain ⟨⟨_,_⟩,hn⟩:=e
 subst hn
 have:=Zx (l_0.length)
 cases h;exact yD
theorem Zoz {b:Zu}{r:(List Int)}(h:ZeO b=some r):Sound prog J0 127 [(true,QF b)] [(false,[(false,.sl 3 1 (A0 ZH r))])]:=by
 refine fnk func127 rfl ?_
 unfold ZeO at h
 simp only[fnS,f127,Zk,go_sem,seval]
 refine Zb h λ_ B h=>Za (Ze7 B)<|yA ?_
 refine yB h (λ_ h=>?_) λ_ h=>?_
 obtain ⟨_,h⟩:=Zq h
 simp only[*,go_sem,seval]
 refine Yr h (λs st=>match s with|(q,e)=>IV [(1,.bp 0 0),(3,.p false [.row 1]),(4,yM (.int .i64 e))] [.box 52 [.c (.int .i64 b.nodes),.c (zC b.reasons)],.row 3 1 (A0 ZH q) 2] st) [] [0,112] yF yD ?_
 rintro ⟨q,e⟩ ⟨_,_,_⟩ _ t _ h C
 simp only[go_sem,seval,Zc]at t
 obtain ⟨⟨_,_,_⟩,_,_,hn⟩:=t
 subst hn
 simp only[*,go_sem,seval]
 refine yB h (λ_ h=>?_) λ_ h=>?_
 refine Zh h (λi f st=>IV [(1,.bp 0 0),(3,.p false [.row 1]),(4,yM (.int .i64 e)),(5,yL i)] [.box 52 [.c (.int .i64 b.nodes),.c (zC b.reasons)],.row 3 1 (A0 ZH f) 2] st) [] [0,1] yF yD ?_ ?_
 rintro u d f ⟨_,_,_⟩ _ g v D h _
 simp only[go_sem,seval,Zc]at v
 obtain ⟨⟨_,_,_,_⟩,E,_,hn⟩:=v
 subst hn
 have F:=WF.boxL D E (j:=1) rfl
 have:=Zz g
 have:=ZC g
 have:=Zj (ZA g) F
 simp only[*,go_sem,seval]
 refine Zh h (λi k st=>IV [(1,.bp 0 0),(3,.p false [.row 1]),(4,yM (.int .i64 e)),(5,yL u),(6,.bp 2 0),(7,yL i)] [.box 52 [.c (.int .i64 b.nodes),.c (zC b.reasons)],.row 3 1 (A0 ZH k) 2,zI 125 (eReason d)] st) [] [0,1,162] yF yD ?_ ?_
 rintro _ _ k ⟨_,_,_⟩ _ l w G h _
 simp only[go_sem,seval,Zc]at w
 obtain ⟨⟨_,_,_,_,_,_⟩,_,_,H,hn⟩:=w
 subst hn
 have I:=WF.boxL G H (j:=1) rfl
 have:=Zz l
 have:=ZC l
 have:=Zj (ZA l) I
 obtain ⟨_,h⟩:=Zq h
 obtain ⟨_,_,h⟩:=ZE h
 obtain ⟨_,h⟩:=Zq h
 obtain ⟨_,_,h⟩:=ZE h
 simp only[*,go_sem,seval]
 exact yR h [0,1,2]
 rintro k ⟨_,_,_⟩ x _ h
 simp only[go_sem,seval,Zc]at x
 obtain ⟨⟨_,_,_,_,_,_⟩,_,_,_,hn⟩:=x
 subst hn
 have:=Zx (d.inn.length)
 simp only[*,go_sem,seval]
 refine Zh h (λi m st=>IV [(1,.bp 0 0),(3,.p false [.row 1]),(4,yM (.int .i64 e)),(5,yL u),(6,.bp 2 0),(8,yL i)] [.box 52 [.c (.int .i64 b.nodes),.c (zC b.reasons)],.row 3 1 (A0 ZH m) 2,zI 125 (eReason d)] st) [] [0,1,2] yF yD ?_ ?_
 rintro _ _ m ⟨_,_,_⟩ _ o y J h _
 simp only[go_sem,seval,Zc]at y
 obtain ⟨⟨_,_,_,_,_,_⟩,_,_,K,hn⟩:=y
 subst hn
 have L:=WF.boxL J K (j:=2) rfl
 have:=Zz o
 have:=ZC o
 have:=Zj (ZA o) L
 obtain ⟨_,h⟩:=Zq h
 obtain ⟨_,_,h⟩:=ZE h
 obtain ⟨_,h⟩:=Zq h
 obtain ⟨_,_,h⟩:=ZE h
 simp only[*,go_sem,seval]
 exact yR h [0,1,2]
 rintro m ⟨_,_,_⟩ z _ h
 simp only[go_sem,seval,Zc]at z
 obtain ⟨⟨_,_,_,_,_,_⟩,_,_,_,hn⟩:=z
 subst hn
 have:=Zx (d.outs.length)
 simp only[*,go_sem,seval]
 exact yR h [0,1]
 rintro f ⟨_,_,_⟩ A _ h
 simp only[go_sem,seval,Zc]at A
 obtain ⟨⟨_,_,_,_⟩,_,_,hn⟩:=A
 subst hn
 have:=Zx (b.reasons.length)
 simp only[*,go_sem,seval]
 exact yR h [0,1]
 replace h:=Zn h C
 iterate 2 (cases h;exact yD)
theorem ZoX {r_0:Zf}{r:Zf}(h:Zd5 r_0=some r):Sound prog J0 46 [(true,eRule r_0)] [(true,[(false,.str r.name),(false,.int .i64 r.priority),(false,.sl 134 5 (A0 ZO r.cond)),(false,.sl 115 3 (A0 eAction r.thn))])]:=by
 refine fnk func46 rfl ?_
 unfold Zd5 at h
 simp only[fnS,f46,Zk,go_sem,seval]
 refine Zb h λf g h=>Za (ZmG g)<|yA ?_
 refine Zh h (λi a st=>IV [(2,.bp 0 0),(3,.bp 1 0),(15,yM (zA r_0.thn)),(16,yL r_0.thn.length),(17,yL i)] [.box 76 [.c (.str ⟨#[]⟩),.c (.int .i64 0),.nil 134 5,.nil 115 3],.box 76 [.c (.str r_0.name),.c (.int .i64 r_0.priority),.row 2,.row 3],.row 134 5 (A0 ZO f) 2,.row 115 3 (A0 eAction a) 2] st) [(true,160,3)] [16,160,128,256] yF yD ?_ ?_
 rintro _ _ a ⟨_,_,_⟩ _ b d k h _
 simp only[go_sem,seval,Zc]at d
 obtain ⟨⟨_,_,l,_,_⟩,_,_,_,_,hn⟩:=d
 subst hn
 have m:=WF.slotL k l (j:=0) rfl
 have:=Zz b
 have:=ZC b
 have:=Zj (ZA b) m
 simp only[*,go_sem,seval]
 refine Zb h λ_ o h=>Za (ZfT o) ?_
 obtain ⟨q,h⟩:=Zq h
 try simp only[Nat.reduceLeDiff]at q
 simp only[*,go_sem,seval]
 exact yR h [0,1,2,228]
 rintro a ⟨_,_,_⟩ e _ h
 simp only[go_sem,seval,Zc]at e
 obtain ⟨⟨_,_,_,_,_⟩,_,_,_,_,hn⟩:=e
 subst hn
 have:=Zx (r_0.thn.length)
 cases h;exact yD
theorem i_choiceOf_ok {rules_0:(List Zf)}{l_1:(List Zr)}{a:Xb}{r:(ZF×Bool)}(h:Zcq rules_0 l_1 a=some r):Sound prog J0 98 [(false,[.sl 76 4 (A0 eRule rules_0)]),(false,[.sl 64 3 (A0 eStamp l_1)]),(true,eMatch a)] [(true,[(false,.str r.1.mtch.rule),(false,.sl 40 2 (A0 eFact r.1.mtch.facts)),(false,.sl 194 2 (A0 ePair r.1.mtch.binding)),(false,.int .i64 r.1.priority),(false,.sl 3 1 (A0 ZH r.1.times)),(false,.int .i64 r.1.specific),(false,.int .i64 r.1.ordr)]),(false,[(false,.bool r.2)])]:=by
 refine fnk func98 rfl ?_
 unfold Zcq at h
 simp only[fnS,f98,Zk,go_sem,seval]
 refine Zb h λg k h=>Za (Zfe k)<|yA ?_
 refine yB h (λ_ h=>?_) λ_ h=>?_
 cases h;exact yD
 refine Zh h (λi _ st=>IV [(0,yM (yW rules_0)),(1,yM (zB l_1)),(5,.bp 0 0),(6,.bp 1 0),(8,yM (.int .i64 g)),(19,yM (yU a.facts)),(20,yL a.facts.length),(21,yL i)] [.box 110 [.c (.str a.rule),.c (yU a.facts),.c (yZ a.binding)],.box 112 [.c (.str ⟨#[]⟩),.nil 40 2,.nil 194 2,.c (.int .i64 0),.nil 3 1,.c (.int .i64 0),.c (.int .i64 0)]] st) [] [0,16] yF yD ?_ ?_
 rintro _ _ ⟨⟩ ⟨_,_,_⟩ _ d e l h m
 simp only[go_sem,seval,Zc]at e
 obtain ⟨⟨_,_,_,_,_,o,_,_⟩,_,_,hn⟩:=e
 subst hn
 have q:=WF.slotL l o (j:=0) rfl
 have:=Zz d
 have:=ZC d
 have:=Zj (ZA d) q
 simp only[*,go_sem,seval]
 refine Zb h λ_ t h=>Za (i_hasStamp_ok t)<|yA ?_
 refine yB h (λ_ h=>?_) λ_ h=>?_
 exact yR h [0,1]
 replace h:=Zn h m
 cases h;exact yD
 rintro ⟨⟩ ⟨_,_,_⟩ f _ h
 simp only[go_sem,seval,Zc]at f
 obtain ⟨⟨_,_,_,_,_,_,_,_⟩,_,_,hn⟩:=f
 subst hn
 have:=Zx (a.facts.length)
 simp only[*,go_sem,seval]
 refine Zb h λ_ u h=>Za (Zhc u) ?_
 obtain ⟨_,_,_,_,h⟩:=ZaV h
 simp only[*,go_sem,seval]
 refine Zb h λ_ v h=>Za (ZrH v)<|yA ?_
 refine Zb h λ_ w h=>Za (ZkQ w) ?_
 cases h;exact yD
theorem Zl1 {x_0:ZF}{r:ZF}(h:QR x_0=some r):Sound prog J0 142 [(true,eChoice x_0)] [(true,[(false,.str r.mtch.rule),(false,.sl 40 2 (A0 eFact r.mtch.facts)),(false,.sl 194 2 (A0 ePair r.mtch.binding)),(false,.int .i64 r.priority),(false,.sl 3 1 (A0 ZH r.times)),(false,.int .i64 r.specific),(false,.int .i64 r.ordr)])]:=by
 refine fnk func142 rfl ?_
 unfold QR at h
 simp only[fnS,f142,Zk,go_sem,seval]
 refine Zb h λ_ a h=>Za (Zhc a)<|yA ?_
 refine Zb h λ_ b h=>Za (i_copyInts_ok b) ?_
 cases h;exact yD
theorem Zcj {a_0:(List Zd)}{b_1:(List Zd)}{r:Int}(h:Y0 a_0 b_1=some r):Sound prog J0 185 [(false,[.sl 40 2 (A0 eFact a_0)]),(false,[.sl 40 2 (A0 eFact b_1)])] [(false,[(false,.int .i64 r)])]:=by
 refine fnk func185 rfl ?_
 unfold Y0 at h
 simp only[fnS,f185,Zk,go_sem,seval]
 refine Zh h (λi _ st=>IV [(0,yM (yU a_0)),(1,yM (yU b_1)),(5,yL i)] [] st) [] [] yF yD ?_ ?_
 rintro _ _ ⟨⟩ ⟨_,_,_⟩ _ a b f h d
 simp only[go_sem,seval,Zc]at b
 obtain ⟨⟨g,_,_⟩,hn⟩:=b
 subst hn
 have k:=WF.slotL f g (j:=0) rfl
 have:=Zz a
 have:=ZC a
 have:=Zj (ZA a) k
 simp only[*,go_sem,seval]
 refine yB h (λ_ h=>?_) λ_ h=>?_
 obtain ⟨_,_,_,l,h⟩:=ZaV h
 simp only[A9]at l
 simp only[*,go_sem,seval]
 refine Zb h λ_ m h=>Za (Zad m)<|yA ?_
 refine yB h (λ_ h=>?_) λ_ h=>?_
 replace h:=Zn h d
 cases h;exact yD
 exact yR h []
 refine Zb h λ_ o h=>Za (ZY o) ?_
 replace h:=Zn h d
 cases h;exact yD
 rintro ⟨⟩ ⟨_,_,_⟩ e _ h
 simp only[go_sem,seval,Zc]at e
 obtain ⟨⟨_,_,_⟩,hn⟩:=e
 subst hn
 have:=Zx (a_0.length)
 simp only[*,go_sem,seval]
 refine Zb h λ_ q h=>Za (ZY q) ?_
 cases h;exact yD
theorem w_within_ok {a_0:(List Zd)}{b_1:(List Zd)}{r:Bool}(h:ZeF a_0 b_1=some r):Sound prog J0 12 [(false,[.sl 40 2 (A0 eFact a_0)]),(false,[.sl 40 2 (A0 eFact b_1)])] [(false,[(false,.bool r)])]:=by
 refine fnk func12 rfl ?_
 unfold ZeF at h
 simp only[fnS,f12,Zk,go_sem,seval]
 refine Zh h (λi _ st=>IV [(0,yM (yU a_0)),(1,yM (yU b_1)),(5,yL i)] [] st) [] [] yF yD ?_ ?_
 rintro _ _ ⟨⟩ ⟨_,_,_⟩ _ a b e h f
 simp only[go_sem,seval,Zc]at b
 obtain ⟨⟨g,_,_⟩,hn⟩:=b
 subst hn
 have k:=WF.slotL e g (j:=0) rfl
 have:=Zz a
 have:=ZC a
 have:=Zj (ZA a) k
 simp only[*,go_sem,seval]
 refine Zb h λ_ l h=>Za (Zu3 l)<|yA ?_
 refine yB h (λ_ h=>?_) λ_ h=>?_
 exact yR h []
 replace h:=Zn h f
 cases h;exact yD
 rintro ⟨⟩ ⟨_,_,_⟩ d _ h
 simp only[go_sem,seval,Zc]at d
 obtain ⟨⟨_,_,_⟩,hn⟩:=d
 subst hn
 have:=Zx (a_0.length)
 cases h;exact yD
end
section
theorem ZeW {x_0:Zp}{r:Bool}(h:Zdi x_0=some r):Sound prog J0 187 [(true,ZO x_0)] [(false,[(false,.bool r)])]:=by
 refine fnk func187 rfl ?_
 unfold Zdi at h
 have a:Z9 ⟨#[]⟩=true:=by decide
 simp only[fnS,f187,Zk,go_sem,seval,a]
 refine yB h (λ_ h=>?_) λ_ h=>?_
 refine Zb h λ_ b h=>Za (XH b)<|yA ?_
 iterate 2 refine yB h (λ_ h=>?_) λ_ h=>?_
 iterate 3 (cases h;exact yD)
 refine yB h (λ_ h=>?_) λ_ h=>?_
 refine Zb h λ_ c h=>Za (XH c)<|yA ?_
 iterate 2 refine yB h (λ_ h=>?_) λ_ h=>?_
 iterate 3 (cases h;exact yD)
 iterate 3 refine yB h (λ_ h=>?_) λ_ h=>?_
 refine Zb h λ_ d h=>Za (ZaE d)<|yA ?_
 refine yB h (λ_ h=>?_) λ_ h=>?_
 refine Zb h λ_ e h=>Za (ZaE e) ?_
 iterate 4 (cases h;exact yD)
 iterate 3 refine yB h (λ_ h=>?_) λ_ h=>?_
 refine Zb h λ_ f h=>Za (ZaE f)<|yA ?_
 refine yB h (λ_ h=>?_) λ_ h=>?_
 refine Zb h λ_ g h=>Za (ZaE g) ?_
 iterate 4 (cases h;exact yD)
 iterate 3 refine yB h (λ_ h=>?_) λ_ h=>?_
 refine Zb h λ_ i h=>Za (ZaE i)<|yA ?_
 refine yB h (λ_ h=>?_) λ_ h=>?_
 refine Zb h λ_ j h=>Za (ZaE j) ?_
 iterate 5 (cases h;exact yD)
theorem X8 {s_0:ByteArray}{r:(Zv×Bool)}(h:Yt s_0=some r):Sound prog J0 188 [(false,[.str s_0])] [(true,[(false,.str r.1.rel),(false,.sl 9 1 (A0 ZB r.1.args))]),(false,[(false,.bool r.2)])]:=by
 refine fnk func188 rfl ?_
 unfold Yt at h
 simp only[fnS,f188,Zk,go_sem,seval]
 refine Zb h λ_ a h=>Za (ZrG a)<|yA ?_
 refine yB h (λ_ h=>?_) λ_ h=>?_
 refine Zb h λ_ b h=>Za (XH b)<|yA ?_
 refine yB h (λ_ h=>?_) λ_ h=>?_
 iterate 3 (cases h;exact yD)
theorem ZfJ {r_0:Zf}{i_1:Int}{v_2:ByteArray}{r:Bool}(h:Qj r_0 i_1 v_2=some r):Sound prog J0 194 [(true,eRule r_0),(false,[.int .i64 i_1]),(false,[.str v_2])] [(false,[(false,.bool r)])]:=by
 refine fnk func194 rfl ?_
 unfold Qj at h
 simp only[fnS,f194,Zk,go_sem,seval]
 refine Zh h (λi _ st=>IV [(1,yM (.int .i64 i_1)),(2,yM (.str v_2)),(3,.bp 0 0),(7,yL i)] [zI 76 (eRule r_0)] st) [] [0] yF yD ?_ ?_
 rintro _ _ ⟨⟩ ⟨_,_,_⟩ _ a d k h l
 simp only[go_sem,seval,Zc]at d
 obtain ⟨⟨_,_,_,_⟩,m,hn⟩:=d
 subst hn
 have o:=WF.boxL k m (j:=2) rfl
 have:=Zz a
 have:=ZC a
 have:=Zj (ZA a) o
 simp only[*,go_sem,seval]
 refine yB h (λ_ h=>?_) λ_ h=>?_
 refine Zb h λ_ q h=>Za (Za7 q)<|yA ?_
 refine Zb h λ_ t h=>Za (YK t)<|yA ?_
 refine yB h (λ_ h=>?_) λ_ h=>?_
 replace h:=Zn h l
 cases h;exact yD
 exact yR h [0]
 exact yR h [0]
 rintro ⟨⟩ ⟨_,_,_⟩ e _ h
 simp only[go_sem,seval,Zc]at e
 obtain ⟨⟨_,_,_,_⟩,_,hn⟩:=e
 subst hn
 have:=Zx (r_0.cond.length)
 simp only[*,go_sem,seval]
 refine Zh h (λi _ st=>IV [(2,yM (.str v_2)),(3,.bp 0 0),(8,yL i)] [zI 76 (eRule r_0)] st) [] [0] yF yD ?_ ?_
 rintro _ _ ⟨⟩ ⟨_,_,_⟩ _ b f u h v
 simp only[go_sem,seval,Zc]at f
 obtain ⟨⟨_,_,_⟩,w,hn⟩:=f
 subst hn
 have x:=WF.boxL u w (j:=3) rfl
 have:=Zz b
 have:=ZC b
 have:=Zj (ZA b) x
 simp only[*,go_sem,seval]
 refine Zb h λ_ y h=>Za (Zdl y)<|yA ?_
 refine Zb h λ_ z h=>Za (YK z)<|yA ?_
 refine yB h (λ_ h=>?_) λ_ h=>?_
 replace h:=Zn h v
 cases h;exact yD
 exact yR h [0]
 rintro ⟨⟩ ⟨_,_,_⟩ g _ h
 simp only[go_sem,seval,Zc]at g
 obtain ⟨⟨_,_,_⟩,_,hn⟩:=g
 subst hn
 have:=Zx (r_0.thn.length)
 cases h;exact yD
theorem Zo0 {a_0:Zw}{r:Bool}(h:ZeK a_0=some r):Sound prog J0 195 [(true,eAction a_0)] [(false,[(false,.bool r)])]:=by
 refine fnk func195 rfl ?_
 unfold ZeK at h
 have a:Z9 ⟨#[]⟩=true:=by decide
 simp only[fnS,f195,Zk,go_sem,seval,a]
 refine yB h (λ_ h=>?_) λ_ h=>?_
 refine Zb h λ_ b h=>Za (XH b) ?_
 cases h;exact yD
 refine yB h (λ_ h=>?_) λ_ h=>?_
 refine Zb h λ_ c h=>Za (XH c) ?_
 cases h;exact yD
 iterate 2 refine yB h (λ_ h=>?_) λ_ h=>?_
 iterate 3 (cases h;exact yD)
theorem Zop {r_0:Zf}{r:(List ByteArray)}(h:ZeC r_0=some r):Sound prog J0 197 [(true,eRule r_0)] [(false,[(false,.sl 9 1 (A0 ZB r))])]:=by
 refine fnk func197 rfl ?_
 unfold ZeC at h
 simp only[fnS,f197,Zk,go_sem,seval]
 refine Zh h (λi a st=>IV [(1,.bp 0 0),(3,.p false [.row 1]),(4,yL i)] [zI 76 (eRule r_0),.row 9 1 (A0 ZB a) 2] st) [] [0,32] yF yD ?_ ?_
 rintro A _ a ⟨_,_,_⟩ _ b m B h _
 simp only[go_sem,seval,Zc]at m
 obtain ⟨⟨_,_,_⟩,C,_,hn⟩:=m
 subst hn
 have D:=WF.boxL B C (j:=2) rfl
 have:=Zz b
 have:=ZC b
 have:=Zj (ZA b) D
 simp only[*,go_sem,seval]
 refine Zb h λo E h=>Za (Za7 E)<|yA ?_
 refine Zh h (λi d st=>IV [(1,.bp 0 0),(3,.p false [.row 1]),(4,yL A),(5,.p false [.row 2]),(6,yL i)] [zI 76 (eRule r_0),.row 9 1 (A0 ZB d) 2,.row 9 1 (A0 ZB o) 2] st) [] [0,1,162] yF yD ?_ ?_
 rintro _ _ d ⟨_,_,_⟩ _ e q F h _
 simp only[go_sem,seval,Zc]at q
 obtain ⟨⟨_,_,_,_,_⟩,_,_,G,hn⟩:=q
 subst hn
 have H:=WF.rowL F G
 have:=Zz e
 have:=ZC e
 have:=Zj (ZA e) H
 simp only[*,go_sem,seval]
 refine Zb h λ_ I h=>Za (XQ I)<|yA ?_
 exact yR h [0,147,2]
 rintro d ⟨_,_,_⟩ t _ h
 simp only[go_sem,seval,Zc]at t
 obtain ⟨⟨_,_,_,_,_⟩,_,_,_,hn⟩:=t
 subst hn
 have:=Zx (o.length)
 simp only[*,go_sem,seval]
 exact yR h [0,1]
 rintro a ⟨_,_,_⟩ u _ h
 simp only[go_sem,seval,Zc]at u
 obtain ⟨⟨_,_,_⟩,_,_,hn⟩:=u
 subst hn
 have:=Zx (r_0.cond.length)
 simp only[*,go_sem,seval]
 refine Zh h (λi f st=>IV [(1,.bp 0 0),(3,.p false [.row 1]),(7,yL i)] [zI 76 (eRule r_0),.row 9 1 (A0 ZB f) 2] st) [] [0,1] yF yD ?_ ?_
 rintro J _ f ⟨_,_,_⟩ _ g v K h _
 simp only[go_sem,seval,Zc]at v
 obtain ⟨⟨_,_,_⟩,L,_,hn⟩:=v
 subst hn
 have M:=WF.boxL K L (j:=3) rfl
 have:=Zz g
 have:=ZC g
 have:=Zj (ZA g) M
 simp only[*,go_sem,seval]
 refine Zb h λw N h=>Za (Zdl N)<|yA ?_
 refine Zh h (λi k st=>IV [(1,.bp 0 0),(3,.p false [.row 1]),(7,yL J),(8,.p false [.row 2]),(9,yL i)] [zI 76 (eRule r_0),.row 9 1 (A0 ZB k) 2,.row 9 1 (A0 ZB w) 2] st) [] [0,1,178] yF yD ?_ ?_
 rintro _ _ k ⟨_,_,_⟩ _ l x O h _
 simp only[go_sem,seval,Zc]at x
 obtain ⟨⟨_,_,_,_,_⟩,_,_,P,hn⟩:=x
 subst hn
 have Q:=WF.rowL O P
 have:=Zz l
 have:=ZC l
 have:=Zj (ZA l) Q
 simp only[*,go_sem,seval]
 refine Zb h λ_ R h=>Za (XQ R)<|yA ?_
 exact yR h [0,147,2]
 rintro k ⟨_,_,_⟩ y _ h
 simp only[go_sem,seval,Zc]at y
 obtain ⟨⟨_,_,_,_,_⟩,_,_,_,hn⟩:=y
 subst hn
 have:=Zx (w.length)
 simp only[*,go_sem,seval]
 exact yR h [0,1]
 rintro f ⟨_,_,_⟩ z _ h
 simp only[go_sem,seval,Zc]at z
 obtain ⟨⟨_,_,_⟩,_,_,hn⟩:=z
 subst hn
 have:=Zx (r_0.thn.length)
 cases h;exact yD
theorem s_l14Base_ok {c_0:l1CurD}{most_1:Int}{r:((List Zd)×l1CurD)}(h:ZfG c_0 most_1=some r):SoundH prog J0 JF0 17 (.box 71 (el1Cur c_0)) [(false,[.int .i64 most_1])] [(false,[(false,.sl 40 2 (A0 eFact r.1))])] (.box 71 (el1Cur r.2)):=by
 refine fnh func17 rfl ?_
 unfold ZfG at h
 have j:Z9 ⟨#[111,110]⟩=true:=by decide
 have k:Z9 ⟨#[112]⟩=true:=by decide
 have l:Z9 ⟨#[113]⟩=true:=by decide
 have m:Z9 ⟨#[49]⟩=true:=by decide
 have o:Z9 ⟨#[50]⟩=true:=by decide
 have q:Z9 ⟨#[97,116]⟩=true:=by decide
 have t:Z9 ⟨#[97]⟩=true:=by decide
 have u:Z9 ⟨#[98]⟩=true:=by decide
 simp only[fnH,f17,ZeR,Zez,XY,go_sem,seval,j,k,l,m,o,q,t,u]
 obtain ⟨_,v,h⟩:=ZE h
 refine Zan (s_l1Below_ok v)<|yA ?_
 refine Yr h (λs st=>match s with|(b,d,e,f,g)=>IV [(0,.bp 0 0),(5,.p false [.row 1]),(6,yM (.int .i64 g))] [.box 71 [.c (zG b),.c (.int .i64 d),.c (.int .i64 e)],.row 40 2 (A0 eFact f) 2] st) [] [0,17] yF yD ?_
 rintro ⟨b,d,e,f,g⟩ ⟨_,_,_⟩ _ i _ h w
 simp only[go_sem,seval,Zc]at i
 obtain ⟨⟨_,_,_⟩,_,_,hn⟩:=i
 subst hn
 simp only[*,go_sem,seval]
 refine yB h (λ_ h=>?_) λ_ h=>?_
 obtain ⟨_,x,h⟩:=ZE h
 refine Zan (Zn8 x)<|yA ?_
 obtain ⟨_,y,h⟩:=ZE h
 refine Zan (Zn8 y)<|yA ?_
 obtain ⟨_,z,h⟩:=ZE h
 refine Zan (s_l1Below_ok z)<|yA ?_
 refine yB h (λ_ h=>?_) λ_ h=>?_
 refine Zb h λ_ A h=>Za (s_l2Put_ok A)<|yA ?_
 exact yR h [0,290]
 refine yB h (λ_ h=>?_) λ_ h=>?_
 refine Zb h λ_ B h=>Za (s_l2Put_ok B)<|yA ?_
 exact yR h [0,338]
 refine yB h (λ_ h=>?_) λ_ h=>?_
 refine Zb h λ_ C h=>Za (s_l2Put_ok C)<|yA ?_
 exact yR h [0,354]
 refine Zb h λ_ D h=>Za (s_l2Put_ok D)<|yA ?_
 exact yR h [0,370]
 replace h:=Zn h w
 cases h;exact yD
theorem ZeM {p_0:Zv}{b_1:(List Zs)}{facts_2:(List Zd)}{r:(List Zd)}(h:X0 p_0 b_1 facts_2=some r):Sound prog J0 153 [(true,Q4 p_0),(false,[.sl 194 2 (A0 ePair b_1)]),(false,[.sl 40 2 (A0 eFact facts_2)])] [(false,[(false,.sl 40 2 (A0 eFact r))])]:=by
 refine fnk func153 rfl ?_
 unfold X0 at h
 simp only[fnS,f153,Zk,go_sem,seval]
 refine Zh h (λi a st=>IV [(1,yM (yZ b_1)),(3,.bp 0 0),(7,.p false [.row 1]),(12,yM (yU facts_2)),(13,yL facts_2.length),(14,yL i)] [.box 113 [.c (.str p_0.rel),.c (yV p_0.args)],.row 40 2 (A0 eFact a) 2] st) [(false,7,0)] [0,96] yF yD ?_ ?_
 rintro _ _ a ⟨_,_,_⟩ _ b d f h _
 simp only[go_sem,seval,Zc]at d
 obtain ⟨⟨_,_,_,g,_,_⟩,_,_,hn⟩:=d
 subst hn
 have k:=WF.slotL f g (j:=0) rfl
 have:=Zz b
 have:=ZC b
 have:=Zj (ZA b) k
 simp only[*,go_sem,seval]
 refine Zb h λ_ l h=>Za (ZgZ l)<|yA ?_
 refine yB h (λ_ h=>?_) λ_ h=>?_
 refine Zb h λ_ m h=>Za (Z7 m) ?_
 obtain ⟨o,h⟩:=Zq h
 try simp only[Nat.reduceLeDiff]at o
 simp only[*,go_sem,seval]
 exact yR h [0,306]
 exact yR h [0,1]
 rintro a ⟨_,_,_⟩ e _ h
 simp only[go_sem,seval,Zc]at e
 obtain ⟨⟨_,_,_,_,_,_⟩,_,_,hn⟩:=e
 subst hn
 have:=Zx (facts_2.length)
 cases h;exact yD
theorem ZtI {x_0:Zp}{r:Bool}(h:ZjJ x_0=some r):Sound prog J0 200 [(true,ZO x_0)] [(false,[(false,.bool r)])]:=by
 refine fnk func200 rfl ?_
 unfold ZjJ at h
 simp only[fnS,f200,Zk,go_sem,seval]
 refine Zb h λ_ a h=>Za (Zht a)<|yA ?_
 refine yB h (λ_ h=>?_) λ_ h=>?_
 iterate 2 (cases h;exact yD)
theorem ZiW {r_0:Zf}{k_1:Int}{r:Bool}(h:Zcw r_0 k_1=some r):Sound prog J0 82 [(true,eRule r_0),(false,[.int .i64 k_1])] [(false,[(false,.bool r)])]:=by
 refine fnk func82 rfl ?_
 unfold Zcw at h
 simp only[fnS,f82,Zk,go_sem,seval]
 obtain ⟨a,_,_,_,h⟩:=ZaV h
 simp only[*,go_sem,seval]
 refine Zb h λj k h=>Za (Zem k)<|yA ?_
 refine Zb h λb l h=>Za (ZcI l)<|yA ?_
 refine Zh h (λi _ st=>IV [(1,yM (.int .i64 k_1)),(2,.bp 0 0),(5,.bp 1 0),(6,.p false [.row 2]),(18,.p false [.row 3]),(19,yL b.length),(20,yL i)] [zI 76 (eRule r_0),zI 134 (ZO a),.row 9 1 (A0 ZB j) 2,.row 9 1 (A0 ZB b) 2] st) [] [0,112,176,224] yF yD ?_ ?_
 rintro _ _ ⟨⟩ ⟨_,_,_⟩ _ d e m h f
 simp only[go_sem,seval,Zc]at e
 obtain ⟨⟨_,_,_,_,_,_,_⟩,_,_,_,o,hn⟩:=e
 subst hn
 have q:=WF.rowL m o
 have:=Zz d
 have:=ZC d
 have:=Zj (ZA d) q
 simp only[*,go_sem,seval]
 refine yB h (λ_ h=>?_) λ_ h=>?_
 exact yR h [0,1,2,3]
 refine Zb h λ_ t h=>Za (ZaS t)<|yA ?_
 refine yB h (λ_ h=>?_) λ_ h=>?_
 exact yR h [0,1,2,3]
 refine yB h (λ_ h=>?_) λ_ h=>?_
 replace h:=Zn h f
 cases h;exact yD
 refine Zb h λ_ u h=>Za (Zhq u)<|yA ?_
 refine yB h (λ_ h=>?_) λ_ h=>?_
 replace h:=Zn h f
 cases h;exact yD
 exact yR h [0,1,2,3]
 rintro ⟨⟩ ⟨_,_,_⟩ g _ h
 simp only[go_sem,seval,Zc]at g
 obtain ⟨⟨_,_,_,_,_,_,_⟩,_,_,_,_,hn⟩:=g
 subst hn
 have:=Zx (b.length)
 cases h;exact yD
theorem Zhl {append_0:Zv}{String_1:Zd}{a_2:(List Zs)}{r:((List Zs)×Bool)}(h:ZbP append_0 String_1 a_2=some r):Sound prog J0 168 [(true,Q4 append_0),(true,eFact String_1),(false,[.sl 194 2 (A0 ePair a_2)])] [(false,[(false,.sl 194 2 (A0 ePair r.1))]),(false,[(false,.bool r.2)])]:=by
 refine fnk func168 rfl ?_
 unfold ZbP at h
 simp only[fnS,f168,Zk,go_sem,seval]
 refine Zb h λ_ g h=>Za (XH g)<|yA ?_
 refine yB h (λ_ h=>?_) λ_ h=>?_
 refine Zb h λ_ k h=>Za (ZlS k)<|yA ?_
 refine yB h (λ_ h=>?_) λ_ h=>?_
 refine Zb h λ_ l h=>Za (Zas l)<|yA ?_
 iterate 3 refine yB h (λ_ h=>?_) λ_ h=>?_
 cases h;exact yD
 refine Zb h λ_ m h=>Za (ZhL m)<|yA ?_
 refine Zh h (λi a st=>IV [(3,.bp 0 0),(4,.bp 1 0),(8,.p false [.row 2]),(9,yL i)] [.box 113 [.c (.str append_0.rel),.c (yV append_0.args)],zI 40 (eFact String_1),.row 194 2 (A0 ePair a) 2] st) [] [0,16,544] yF yD ?_ ?_
 rintro _ _ a ⟨_,_,_⟩ _ b d o h e
 simp only[go_sem,seval,Zc]at d
 obtain ⟨⟨_,_,_,_⟩,q,_,_,hn⟩:=d
 subst hn
 have t:=WF.boxL o q (j:=1) rfl
 have:=Zz b
 have:=ZC b
 have:=Zj (ZA b) t
 simp only[*,go_sem,seval]
 refine Zb h λ_ u h=>Za (QL u)<|yA ?_
 refine yB h (λ_ h=>?_) λ_ h=>?_
 obtain ⟨_,_,_,v,h⟩:=ZaV h
 simp only[A9]at v
 simp only[*,go_sem,seval]
 refine yB h (λ_ h=>?_) λ_ h=>?_
 exact yR h [0,1,2]
 replace h:=Zn h e
 cases h;exact yD
 obtain ⟨_,_,_,w,h⟩:=ZaV h
 simp only[A9]at w
 simp only[*,go_sem,seval]
 refine Zb h λ_ x h=>Za (ZtT x)<|yA ?_
 refine yB h (λ_ h=>?_) λ_ h=>?_
 exact yR h [0,1,355]
 replace h:=Zn h e
 cases h;exact yD
 rintro a ⟨_,_,_⟩ f _ h
 simp only[go_sem,seval,Zc]at f
 obtain ⟨⟨_,_,_,_⟩,_,_,_,hn⟩:=f
 subst hn
 have:=Zx (append_0.args.length)
 iterate 5 (cases h;exact yD)
theorem s_Instance_ok {p_0:Zv}{b_1:(List Zs)}{r:(Zd×Bool)}(h:XO p_0 b_1=some r):Sound prog J0 122 [(true,Q4 p_0),(false,[.sl 194 2 (A0 ePair b_1)])] [(true,[(false,.str r.1.rel),(false,.sl 9 1 (A0 ZB r.1.args))]),(false,[(false,.bool r.2)])]:=by
 refine fnk func122 rfl ?_
 unfold XO at h
 simp only[fnS,f122,Zk,go_sem,seval]
 refine Zb h λ_ f h=>Za (XH f)<|yA ?_
 refine yB h (λ_ h=>?_) λ_ h=>?_
 refine Zb h λ_ g h=>Za (Zas g)<|yA ?_
 refine yB h (λ_ h=>?_) λ_ h=>?_
 refine Zh h (λi a st=>IV [(1,yM (yZ b_1)),(2,.bp 0 0),(4,.bp 1 0),(6,.bp 2 0),(7,yL i)] [.box 113 [.c (.str p_0.rel),.c (yV p_0.args)],.box 40 [.c (.str ⟨#[]⟩),.nil 9 1],.box 40 [.c (.str p_0.rel),.row 3],.row 9 1 (A0 ZB a) 2] st) [(true,224,1)] [0,16,224,272] yF yD ?_ ?_
 rintro _ _ a ⟨_,_,_⟩ _ b d k h l
 simp only[go_sem,seval,Zc]at d
 obtain ⟨⟨_,_,_,_,_⟩,m,_,_,_,hn⟩:=d
 subst hn
 have o:=WF.boxL k m (j:=1) rfl
 have:=Zz b
 have:=ZC b
 have:=Zj (ZA b) o
 simp only[*,go_sem,seval]
 refine Zb h λ_ q h=>Za (ZdM q)<|yA ?_
 refine yB h (λ_ h=>?_) λ_ h=>?_
 obtain ⟨t,h⟩:=Zq h
 try simp only[Nat.reduceLeDiff]at t
 simp only[*,go_sem,seval]
 exact yR h [0,1,2,372]
 replace h:=Zn h l
 cases h;exact yD
 rintro a ⟨_,_,_⟩ e _ h
 simp only[go_sem,seval,Zc]at e
 obtain ⟨⟨_,_,_,_,_⟩,_,_,_,_,hn⟩:=e
 subst hn
 have:=Zx (p_0.args.length)
 iterate 3 (cases h;exact yD)
end
section
open Go.RowKit
def ZhY:Nat->Code->Code
 |n+1,.seq a b=>.seq a (ZhY n b)
 |_,_=>.skip
def Zql:Nat->Code->Code
 |n+1,.seq _ b=>Zql n b
 |_,c=>c
theorem Znd (c:Code):ZhY 0 c=.skip:=yi rfl
theorem Zqf (n:Nat) (a b:Code):ZhY (n+1) (.seq a b)=.seq a (ZhY n b):=yi rfl
section
variable {P:Program} {J:World->Prop} {JF:Nat->Prop} {W:Qq} {U:Nat->Prop} {st:St} {w w':World} {a:Act} {tt:Nat->Option TI} {od:OD} {g:Gh}
theorem ZuA [NW] {od:OD}(htt:MOk P J JF W tt) (hmix:P.follows .mixedOrders=true) {hds:FuncId->Nat}{k0:Bool}(i:W.hv=none\/k0=true) {N:Nat}{Qs:Ex->St->Prop}{Q:Exit->Act->World->Prop}(hQ:∀ex U' st' a' w',¬ex=.normal->Inv W U' st' a' w'->(∀k,st'.n<=k->¬U' k)->a'.tmps.size=N->Qs ex st'->Q (Zze ex) a' w'):∀(n:Nat) (c:Code),YR od tt hds k0 N (ZhY n c)=true->
  (∀U' st' a' w',Inv W U' st' a' w'->(∀k,st'.n<=k->¬U' k)->a'.tmps.size=N->Qs .normal st'->(Zql n c).wp P Q a' w')->
  ∀U st a w,Inv W U st a w->(∀k,st.n<=k->¬U k)->a.tmps.size=N->swp tt (SC P J JF hds) od (ZhY n c) Qs st->c.wp P Q a w:=by
 intro n
 induction n with
 |zero=>
  intro c _ hn U st a w hI hk hs h
  have e:Zql 0 c=c:=by cases c<;>rfl
  rw [<-e]
  have e2:ZhY 0 c=.skip:=by cases c<;>rfl
  rw [e2]at h
  exact hn U st a w hI hk hs h
 |succ n ih=>
  intro c b hn U st a w hI hk hs h
  cases c with
  |seq x y=>
   simp only[ZhY,YR,Bool.and_eq_true]at b
   refine wp_seq ?_
   refine X3 htt hmix i x b.1 (ZgI (swp tt (SC P J JF hds) od (ZhY n y) Qs) Qs) _ ?_ U st a w hI hk hs h
   intro ex U' st' a' w' d f g hq
   cases ex with
   |normal=>exact ih y b.2 hn U' st' a' w' d f g hq
   |exit id=>exact hQ (.exit id) U' st' a' w' yG d f g hq
   |ret=>exact hQ .ret U' st' a' w' yG d f g hq
  |_=>exact hn U st a w hI hk hs h
def ZAF (Hk:St->Prop):Ex->St->Prop
 |.normal,st=>Hk st
 |.exit _,_=>False
 |.ret,_=>False
theorem Zrn (Hk:St->Prop) (st:St):ZAF Hk .normal st=Hk st:=yi rfl
theorem Zwn (htt : ∀ t i, tt t = some i → TOk P t i) (hJ : JOk J JF) (hmix : P.follows .mixedOrders = true) {hds : FuncId → Nat} {f : FuncId} {fn : Func} {c : Code} {args : List (Bool × List CT)} {res : List RT} (n : Nat) (Hk : St → Prop) (hf : P.funcs[f]? = some fn) (hname : (fn.name == "runtime.NumGoroutine") = false) (hb : fn.body = some c)
  (hok:YR od tt hds false fn.ntmps (ZhY n c)=true) (hlen:Nat.ble args.length fn.ntmps=true) (h:swp tt (SC P J JF hds) od (ZhY n c) (ZAF Hk) (Zk args))
  (ht:∀[NW] (W:Qq) (U:Nat->Prop) (st:St) (a:Act) (w:World),J W.toWorld->(∀b,W.z b->b<W.heap.size)->(∀b,¬(W.x b\/W.y b))->Inv W U st a w->a.tmps.size=fn.ntmps->Hk st->(Zql n c).wp P (bodyPost P fn λe w'=>∃v m,e=.returned v/\Zhg w' W.heap.size m res v/\(∀b,W.z b->m b)/\Below W.heap.size W.toWorld w') a w):Sound P J f args res:=by
 letI:NW:=nw0
 refine ⟨⟨fn,hf,hname,by rw [hb];rfl⟩,λw z vs hj hz hargs=>?_⟩
 have hlen':args.length<=fn.ntmps:=Nat.le_of_ble_eq_true hlen
 have hvl:=hargs.len
 refine calls_of_wp hf hb ?_
 let W:Qq:={ w with z:=z,x:=λ_=>False,hv:=none }
 let g0:Gh:=⟨λ_=>undef,λ_=>[],λ_=>[],z⟩
 have hg0:∀b,g0.own b->z b:=λb hb=>by
  rcases hb with ⟨k,m⟩|h
  .simp [g0]at m
  .exact h
 have hI0:Inv W (λ_=>False) (Zk args) { tmps:=vs.toArray++AK (fn.ntmps - vs.toArray.size) undef,defers:=[] } w:=by
  refine ⟨⟨g0,⟨⟨rfl,rfl,rfl,A6 _,λ_ _ _=>rfl⟩,λk=>⟨rfl,rfl⟩,λk=>by simp [g0],λk j _ b m=>by simp [g0]at m,λk b m=>by simp [g0]at m,rfl,λb hb=>⟨hz b hb,λh=>h,λh=>h⟩,λ_ _=>AD _,λk b m=>by simp [g0]at m⟩,λt=>?_⟩,⟨λt=>?_,λk=>trivial,λk _=>rfl⟩,rfl,λv hv=>by simp [W]at hv⟩
  .show SVR g0 w (match args[t]? with|some x=>.p x.1 (x.2.map ZgW)|none=>.und) _
   cases ht:args[t]? with
   |none=>exact ZfF (by have:args.length<=t:=(by simpa using ht);omega)
   |some x=>
    obtain ⟨v,hv,hr⟩:=hargs.at ht
    show SVR g0 w (.p x.1 (x.2.map ZgW)) ((vs.toArray++AK (fn.ntmps - vs.toArray.size) undef).getD t undef)
    rw [Q7 (args:=args) (o:=0) yE v hv]
    exact ZkL hg0 hr
  .show svU _ (match args[t]? with|some x=>.p x.1 (x.2.map ZgW)|none=>.und)
   split
   .exact Zke _
   .trivial
 have hM:MOk P J JF W tt:=⟨htt,λw' hb=>hJ.below (λ_=>False) w w' hj (λ_ h=>h.elim) hb.os hb.tape hb.output hb.size (λk hk hx=>hb.block k hk hx),λb hb=>hJ.new w b hj hb,λb h=>h.elim⟩
 refine ZuA (W:=W) hM hmix (.inl rfl) (Qs:=ZAF Hk) (λex U' st' a' w' hne _ _ _ hq=>?_) n c hok (λU' st' a' w' hI' _ hs' hq=>?_) _ (Zk args) _ w hI0 (λ_ _ h=>h) (by simp;omega) h
 .cases ex with
  |normal=>exact absurd rfl hne
  |exit id=>exact hq.elim
  |ret=>exact hq.elim
 .exact ht W U' st' a' w' hj hz (λ_ h=>h.elim yi yi) hI' hs' hq
end
end
section
open Go.RowKit
structure Enc {α:Type}(c:Xy α) (f:α->List CT):Prop where
 to:∀{w:World} {cs:List Value} {x:α} {L:List Nat},c.rep w cs x L->RCs w (f x) cs L
 of:∀{w:World} {cs:List Value} {x:α} {L:List Nat},RCs w (f x) cs L->c.rep w cs x L
section
variable {α:Type} {c:Xy α} {f:α->List CT} {w:World}
theorem Enc.reps (h:Enc c f):∀{ds:List α}{xs:List Value}{L:List Nat},c.reps w xs ds L->REs w c.size (ds.map f) xs L
 | [],_,_,h1=>h1
 |_::_,_,_,⟨c1,c2,L1,L2,h1,h2,h3,h4⟩=>⟨c1,c2,L1,L2,h1,h2,⟨h.to h3,c.len h3⟩,h.reps h4⟩
theorem Enc.reps_of (h:Enc c f):∀{ds:List α}{xs:List Value}{L:List Nat},REs w c.size (ds.map f) xs L->c.reps w xs ds L
 | [],_,_,h1=>h1
 |_::_,_,_,⟨c1,c2,L1,L2,h1,h2,h3,h4⟩=>⟨c1,c2,L1,L2,h1,h2,h.of h3.1,h.reps_of h4⟩
theorem Enc.sl (h:Enc c f) (e:Nat) {v:Value}{ds:List α}{L:List Nat}:(Zq6 c).rep w [v] ds L↔RC w (.sl e c.size (ds.map f)) v L:=by
 constructor
 .rintro ⟨A,cap,hv,h1,h2,xs,L0,L1,hL,h3,h4⟩
  obtain rfl:v=_:=by simpa using hv
  exact ⟨A,cap,xs,L0,L1,yG,by simpa using h1,h2,hL,c.pos,by simpa using h3,h.reps h4⟩
 .rintro ⟨A,cap,xs,L0,L1,hv,h1,h2,hL,h0,h3,h4⟩
  exact ⟨A,cap,by simpa using hv,by simpa using h1,h2,xs,L0,L1,hL,by simpa using h3,h.reps_of h4⟩
theorem RCs.solo {x:CT}{v:Value}{L:List Nat}(h:RC w x v L):RCs w [x] [v] L:=⟨v,[],L,[],rfl,yG,h,rfl,rfl⟩
theorem RCs.more {x:CT}{v:Value}{L M:List Nat}{r:List CT}{cs:List Value}(h:RC w x v L) (k:RCs w r cs M):RCs w (x::r) (v::cs) (L++M):=⟨v,cs,L,M,rfl,rfl,h,k⟩
end
theorem ZyP:Enc ZHo ZH where
 to:=λ⟨h1,h2⟩=>by subst h1;subst h2;exact RCs.solo ⟨rfl,rfl⟩
 of:=λ⟨v,cs',L1,L2,h1,h2,h3,h4,h5⟩=>by
  obtain ⟨rfl,rfl⟩:=h3
  subst h4;subst h5;exact ⟨h1,h2⟩
theorem encByte:Enc ZA0 Zfx where
 to:=λ⟨h1,h2⟩=>by subst h1;subst h2;exact RCs.solo ⟨rfl,rfl⟩
 of:=λ⟨v,cs',L1,L2,h1,h2,h3,h4,h5⟩=>by
  obtain ⟨rfl,rfl⟩:=h3
  subst h4;subst h5;exact ⟨h1,h2⟩
theorem encStr:Enc ZCS ZB where
 to:=λ⟨h1,h2,h3⟩=>by subst h1;subst h2;exact RCs.solo ⟨rfl,rfl,h3⟩
 of:=λ⟨v,cs',L1,L2,h1,h2,h3,h4,h5⟩=>by
  obtain ⟨rfl,rfl,t⟩:=h3
  subst h4;subst h5;exact ⟨h1,h2,t⟩
def Zu0 (w:World):Bool×List CT->Value->Prop:=Zhk w λ_=>False
theorem arg_sl {α:Type}{c:Xy α}{f:α->List CT}(h:Enc c f) (e:Nat) {w:World}{v:Value}{ds:List α}{L:List Nat}(hr:(Zq6 c).rep w [v] ds L):Zu0 w (false,[.sl e c.size (ds.map f)]) v:=.inr ⟨rfl,_,L,rfl,(h.sl e).1 hr,λ_ _ h=>h⟩
theorem ZvK (w:World) (n:Int):Zu0 w (false,[.int .i64 n]) (.int .i64 n):=.inr ⟨rfl,_,[],rfl,⟨rfl,rfl⟩,λ_ _ h=>h⟩
theorem Ziw {α:Type}{c:Xy α}{f:α->List CT}(h:Enc c f) {w:World}{vs:List Value}{x:α}{L:List Nat}(hr:c.rep w vs x L):Zu0 w (true,f x) (.agg vs.toArray):=.inl ⟨rfl,vs,L,rfl,h.to hr,λ_ _ h=>h⟩
section
variable {w w':World} {v:Value} {e:Ending}
theorem ZqZ {B:Nat}{n:Nat->Prop}{x:RT}(h:Zhg w B n [x] v):∃F,OP w B n x v F/\Own w B F:=by
 obtain ⟨vs,F,⟨u,vs',F1,F2,rfl,rfl,h1,rfl,rfl⟩,h2,rfl⟩:=h
 rw [A5]at h2
 exact ⟨F1,by simpa using h1,h2⟩
theorem ZBn {n:Int}{B:Nat}{m:Nat->Prop}(hr:Zhg w B m [(false,[(false,.int .i64 n)])] v):v=.int .i64 n:=by
 obtain ⟨F,h1,h2⟩:=ZqZ hr
 rcases h1 with ⟨h1,_⟩|⟨_,ct,h1,h3⟩
 .simp at h1
 .obtain rfl:_=ct:=by simpa using h1
  exact h3.1.1
theorem Zzu {b:Bool}{B:Nat}{m:Nat->Prop}(hr:Zhg w B m [(false,[(false,.bool b)])] v):v=.bool b:=by
 obtain ⟨F,h1,h2⟩:=ZqZ hr
 rcases h1 with ⟨h1,_⟩|⟨_,ct,h1,h3⟩
 .simp at h1
 .obtain rfl:_=ct:=by simpa using h1
  exact h3.1.1
end
section
variable {P:Program} {J:World->Prop} {f:FuncId} {args:List (Bool×List CT)} {res:List RT}
theorem Sound.calls (h:Sound P J f args res) {w:World}{vs:List Value}(hj:J w) (ha:ZJ (Zu0 w) args vs):Calls P f vs.toArray w λe w'=>∃v n,e=.returned v/\Zhg w' w.heap.size n res v/\Below w.heap.size w w':=
 (h.2 w (λ_=>False) vs hj (λ_ h=>h.elim) ha).mono λ_ _ ⟨v,n,h1,h2,_,h3⟩=>⟨v,n,h1,h2,h3⟩
theorem Sound.givesB {b:Bool}(h:Sound P J f args [(false,[(false,.bool b)])]) {w:World}{vs:List Value}(hj:J w) (ha:ZJ (Zu0 w) args vs):Calls P f vs.toArray w λe w'=>e=.returned (.bool b)/\Below w.heap.size w w':=
 (h.calls hj ha).mono λ_ _ ⟨v,_,h1,h2,h3⟩=>⟨by rw [h1,Zzu h2],h3⟩
theorem Sound.givesI {b:Int}(h:Sound P J f args [(false,[(false,.int .i64 b)])]) {w:World}{vs:List Value}(hj:J w) (ha:ZJ (Zu0 w) args vs):Calls P f vs.toArray w λe w'=>e=.returned (.int .i64 b)/\Below w.heap.size w w':=
 (h.calls hj ha).mono λ_ _ ⟨v,_,h1,h2,h3⟩=>⟨by rw [h1,ZBn h2],h3⟩
theorem ZyM {w:World}{B:Nat}{n:Nat->Prop}:∀{l:List CT}{cs:List Value}{F:List Nat},OCs w B n (l.map λy=>(false,y)) cs F->∃F',F'.Sublist F/\RCs w l cs F'
 | [],_,_,⟨h1,h2⟩=>⟨[],yG,h1,rfl⟩
 |x::l,_,_,⟨v,vs,F1,F2,rfl,rfl,h1,h2⟩=>by
  obtain ⟨F2',s2,r2⟩:=ZyM h2
  have key:∃F1',F1'.Sublist F1/\RC w x v F1':=by
   cases x with
   |sl e q xs=>
    obtain ⟨hm,cs,L,o1,o2,o3,o4⟩:=h1
    obtain ⟨A,cap,L0,s1,s2,s3,s4,s5⟩:=Sl.row o1
    exact ⟨L0++L,by rw [o3];exact AL s5 (List.Sublist.refl _),A,cap,cs,L0,L,s1,s2,s3,rfl,hm,s4,o2⟩
   |int k i=>exact ⟨[],yG,h1.1⟩
   |bool b=>exact ⟨[],yG,h1.1⟩
   |str s=>exact ⟨[],yG,h1.1⟩
   |ifc s=>exact ⟨[],yG,h1.1⟩
   |any=>exact ⟨[],yG,h1.1⟩
   |_=>exact h1.elim
  obtain ⟨F1',s1,r1⟩:=key
  exact ⟨F1'++F2',AL s1 s2,v,vs,F1',F2',rfl,rfl,r1,r2⟩
end
end
theorem Zbn:Enc Zab eFact where
 to:=λ{w cs x L} h=>by
  obtain ⟨A1,c1,L1,rfl,rfl,t0,n1,m1,s1⟩:=h
  have hh:RCs w (eFact x) _ _:=RCs.more ⟨rfl,rfl,t0⟩ (RCs.solo ((encStr.sl 9).1 ⟨A1,c1,rfl,n1,m1,s1⟩))
  simpa only [AA,A5,AB]using hh
 of:=λ{w cs x L} h=>by
  obtain ⟨v0,r0,K0,M0,rfl,rfl,h0,v1,r1,K1,M1,rfl,rfl,h1,rfl,rfl⟩:=h
  obtain ⟨rfl,rfl,t0⟩:=h0
  obtain ⟨A1,c1,e1,n1,m1,s1⟩:=(encStr.sl 9).2 h1
  cases e1
  exact ⟨A1,c1,_,rfl,by simp only[AA,A5,AB],t0,n1,m1,s1⟩
theorem ZtB:Enc Zaa eStamp where
 to:=λ{w cs x L} h=>by
  obtain ⟨A1,c1,L1,rfl,rfl,t0,n1,m1,s1⟩:=h
  have hh:RCs w (eStamp x) _ _:=RCs.more ⟨rfl,rfl,t0⟩ (RCs.more ((encStr.sl 9).1 ⟨A1,c1,rfl,n1,m1,s1⟩) (RCs.solo ⟨rfl,rfl⟩))
  simpa only [AA,A5,AB]using hh
 of:=λ{w cs x L} h=>by
  obtain ⟨v0,r0,K0,M0,rfl,rfl,h0,v1,r1,K1,M1,rfl,rfl,h1,v2,r2,K2,M2,rfl,rfl,h2,rfl,rfl⟩:=h
  obtain ⟨rfl,rfl,t0⟩:=h0
  obtain ⟨A1,c1,e1,n1,m1,s1⟩:=(encStr.sl 9).2 h1
  cases e1
  obtain ⟨rfl,rfl⟩:=h2
  exact ⟨A1,c1,_,rfl,by simp only[AA,A5,AB],t0,n1,m1,s1⟩
theorem Zwh:Enc ZCJ ePair where
 to:=λ{w cs x L} h=>by
  obtain ⟨rfl,rfl,t0,t1⟩:=h
  have hh:RCs w (ePair x) _ _:=RCs.more ⟨rfl,rfl,t0⟩ (RCs.solo ⟨rfl,rfl,t1⟩)
  simpa only [AA,A5,AB]using hh
 of:=λ{w cs x L} h=>by
  obtain ⟨v0,r0,K0,M0,rfl,rfl,h0,v1,r1,K1,M1,rfl,rfl,h1,rfl,rfl⟩:=h
  obtain ⟨rfl,rfl,t0⟩:=h0
  obtain ⟨rfl,rfl,t1⟩:=h1
  exact ⟨rfl,by simp only[AA,A5,AB],t0,t1⟩
theorem Zp6:Enc Zrm eChoice where
 to:=λ{w cs x L} h=>by
  obtain ⟨A1,c1,L1,A2,c2,L2,A3,c3,L3,rfl,rfl,t0,n1,m1,s1,n2,m2,s2,n3,m3,s3⟩:=h
  have hh:RCs w (eChoice x) _ _:=RCs.more ⟨rfl,rfl,t0⟩ (RCs.more ((Zbn.sl 40).1 ⟨A1,c1,rfl,n1,m1,s1⟩) (RCs.more ((Zwh.sl 194).1 ⟨A2,c2,rfl,n2,m2,s2⟩) (RCs.more ⟨rfl,rfl⟩ (RCs.more ((ZyP.sl 3).1 ⟨A3,c3,rfl,n3,m3,s3⟩) (RCs.more ⟨rfl,rfl⟩ (RCs.solo ⟨rfl,rfl⟩))))))
  simpa only [AA,A5,AB]using hh
 of:=λ{w cs x L} h=>by
  obtain ⟨v0,r0,K0,M0,rfl,rfl,h0,v1,r1,K1,M1,rfl,rfl,h1,v2,r2,K2,M2,rfl,rfl,h2,v3,r3,K3,M3,rfl,rfl,h3,v4,r4,K4,M4,rfl,rfl,h4,v5,r5,K5,M5,rfl,rfl,h5,v6,r6,K6,M6,rfl,rfl,h6,rfl,rfl⟩:=h
  obtain ⟨rfl,rfl,t0⟩:=h0
  obtain ⟨A1,c1,e1,n1,m1,s1⟩:=(Zbn.sl 40).2 h1
  cases e1
  obtain ⟨A2,c2,e2,n2,m2,s2⟩:=(Zwh.sl 194).2 h2
  cases e2
  obtain ⟨rfl,rfl⟩:=h3
  obtain ⟨A3,c3,e3,n3,m3,s3⟩:=(ZyP.sl 3).2 h4
  cases e3
  obtain ⟨rfl,rfl⟩:=h5
  obtain ⟨rfl,rfl⟩:=h6
  exact ⟨A1,c1,_,A2,c2,_,A3,c3,_,rfl,by simp only[AA,A5,AB],t0,n1,m1,s1,n2,m2,s2,n3,m3,s3⟩
section
open Go.RowKit
structure ZgH (I:Array Nat->World->Prop) (n blk g sf:Nat) (lt:Nat->Nat->Bool) (lb sb:Array Value):Prop where
 n62:n<4611686018427387904
 eg:∀args w,(callFunc g args).run prog w=.ok (.enter g args) w
 less:∀dk W (i j:Nat),I dk W->i<n->j<n->Calls prog g (#[.int .i64 i,.int .i64 j]++lb) W λe w'=>e=.returned (.bool (lt dk[i]! dk[j]!))/\I dk w'/\Below W.heap.size W w'
 swap:∀dk W (i j:Nat),I dk W->i<n->j<n->∃W',(callFunc sf (#[.int .i64 i,.int .i64 j]++sb)).run prog W=.ok (.value (.tuple #[])) W'/\I (swq dk i j) W'/\YM [blk] W W'
 ext:∀dk W W',I dk W->Below W.heap.size W W'->I dk W'
 lt:∀dk W,I dk W->blk<W.heap.size
section
variable {I:Array Nat->World->Prop} {n blk g sf:Nat} {lt:Nat->Nat->Bool} {lb sb:Array Value}
def soP (I:Array Nat->World->Prop) (blk:Nat) (W:World) (d:Array Nat):Ending->World->Prop:=λe w'=>e=.returned (.tuple #[])/\I d w'/\YM [blk] W w'
theorem ZgH.box (h:ZgH I n blk g sf lt lb sb) {dk:Array Nat}{W:World}(hI:I dk W) (o:Obj):I dk (W.alloc o)/\YM [blk] W (W.alloc o):=
 ⟨h.ext dk W _ hI ((Below.refl _ _).alloc (A6 _) o),YM.of_below ((Below.refl _ _).alloc (A6 _) o) _⟩
theorem Yl {w w':World}{b t k:Nat}{cs:Array Value}(h:Blk w b t cs) (ho:YM [k] w w') (hb:b≠k):Blk w' b t cs:=(ho.block b h.lt (by simpa using hb)).trans h
theorem ZqL (h:ZgH I n blk g sf lt lb sb) (a b k:Nat) (dk:Array Nat) (W:World) (hI:I dk W) (ha:a+k<=n) (hb:b+k<=n):
  Calls prog 278 #[.agg #[.func (.func g) #[] lb,.func (.func sf) #[] sb],.int .i64 a,.int .i64 b,.int .i64 k] W (soP I blk W (Zsm dk a b k)):=by
 have HS:=yS h
 have n62:=h.n62
 have hblk:=h.lt _ _ hI
 obtain ⟨i1,o1⟩:=h.box hI (.cells #[.func (.func g) #[] lb,.func (.func sf) #[] sb] 226)
 have HI1:=yS i1
 have HO1:=yS o1
 have HB1:Hid (Blk (W.alloc (.cells #[.func (.func g) #[] lb,.func (.func sf) #[] sb] 226)) W.heap.size 226 #[.func (.func g) #[] lb,.func (.func sf) #[] sb]):=Blk.new _ _ _
 clear hI h i1 o1
 go_enter func278,ntmps278
 go_wp2
 go_loopw [8] (λi wr=>∃t:Nat,t<=k/\i=.int .i64 t/\Hid (I (Zsm dk a b t) wr)/\Hid (YM [blk] W wr)/\Hid (Blk wr W.heap.size 226 #[.func (.func g) #[] lb,.func (.func sf) #[] sb])) (λi _=>k - (intOf i).toNat)
 case atStart=>exact ⟨0,AD _,rfl,HI1,HO1,HB1⟩
 case round=>
  obtain ⟨t,ht,rfl,HI,HO,HB⟩:=hrel
  by_cases hlt:t<k
  .obtain ⟨W',e1,e2,e3⟩:=HS.out.swap _ wr (a+t) (b+t) HI.out yE yE
   rw [show ((a+t:Nat):Int)=(a:Int)+t by omega,show ((b+t:Nat):Int)=(b:Int)+t by omega]at e1
   have c1:=HB.out.at (i:=1) rfl
   have HB':=yS (Yl HB.out e3 yE)
   have HO':=yS (HO.out.trans e3)
   have HI':=yS e2
   clear e2 e3
   go_wp2
   exact ⟨⟨t+1,yE,by go_num,HI',HO',HB'⟩,by simp [intOf];omega⟩
  .obtain rfl:t=k:=by omega
   go_wp2
   go_end0
   exact ⟨rfl,HI.out,HO.out⟩
theorem Zni (h:ZgH I n blk g sf lt lb sb) (a b k:Nat) {za zb zk:Int}(ea:za=a) (eb:zb=b) (ek:zk=k) (dk:Array Nat) (W:World) (hI:I dk W) (ha:a+k<=n) (hb:b+k<=n):
  Calls prog 278 #[.agg #[.func (.func g) #[] lb,.func (.func sf) #[] sb],.int .i64 za,.int .i64 zb,.int .i64 zk] W (soP I blk W (Zsm dk a b k)):=by
 subst ea eb ek;exact ZqL h a b k dk W hI ha hb
theorem ZdT (h:ZgH I n blk g sf lt lb sb) (a m b:Nat) {za zm zb:Int}(ea:za=a) (em:zm=m) (eb:zb=b) (dk:Array Nat) (W:World) (hI:I dk W) (ham:a<m) (hmb:m<b) (hb:b<=n):
  Calls prog 262 #[.agg #[.func (.func g) #[] lb,.func (.func sf) #[] sb],.int .i64 za,.int .i64 zm,.int .i64 zb] W (soP I blk W (ZwK dk a m b)):=by
 subst ea em eb
 have HS:=yS h
 have n62:=h.n62
 have hblk:=h.lt _ _ hI
 obtain ⟨i1,o1⟩:=h.box hI (.cells #[.func (.func g) #[] lb,.func (.func sf) #[] sb] 226)
 have HI1:=yS i1
 have HO1:=yS o1
 have HB1:Hid (Blk (W.alloc (.cells #[.func (.func g) #[] lb,.func (.func sf) #[] sb] 226)) W.heap.size 226 #[.func (.func g) #[] lb,.func (.func sf) #[] sb]):=Blk.new _ _ _
 clear hI h i1 o1
 go_enter func262,ntmps262
 go_wp2
 go_loopw [8,9] (λvi vj wr=>∃(i j f:Nat) (d:Array Nat),vi=.int .i64 i/\vj=.int .i64 j/\0<i/\0<j/\i<=m - a/\j<=b - m/\i+j<=f/\Hid (Zre m f i j d=ZwK dk a m b)/\Hid (I d wr)/\Hid (YM [blk] W wr)/\Hid (Blk wr W.heap.size 226 #[.func (.func g) #[] lb,.func (.func sf) #[] sb])) (λvi vj _=>(intOf vi).toNat+(intOf vj).toNat)
 case atStart=>exact ⟨m - a,b - m,b - a,dk,by go_num,by go_num,yE,yE,A6 _,A6 _,yE,rfl,HI1,HO1,HB1⟩
 case round=>
  obtain ⟨i,j,f,d,rfl,rfl,hi,hj,hia,hjb,hf,HR,HI,HO,HB⟩:=hrel
  obtain ⟨f,rfl⟩:∃f',f=f'+1:=⟨f - 1,yE⟩
  have c0:=HB.out.at (i:=0) rfl
  have c1:=HB.out.at (i:=1) rfl
  by_cases c:i=j
  .subst c
   have hR:=HR.out
   unfold Zre at hR
   rw [if_pos rfl]at hR
   have hR:=yS hR
   go_wp2_with (go_at_call 278;refine (Zni HS.out (m - i) m i yE rfl rfl d _ HI.out yE yE).mono ?_;rintro e w1 ⟨rfl,i2,o2⟩)
   go_end0
   exact ⟨rfl,by rw [<-hR.out];exact i2,HO.out.trans o2⟩
  .by_cases k:j<i
   .have hR:=HR.out
    unfold Zre at hR
    rw [if_neg c,if_pos k]at hR
    have hR:=yS hR
    clear HR
    go_wp2_with (go_at_call 278;refine (Zni HS.out (m - i) m j yE rfl rfl d _ HI.out yE yE).mono ?_;rintro e w1 ⟨rfl,i2,o2⟩)
    exact ⟨⟨i - j,j,f,_,by go_num,rfl,yE,yE,yE,yE,yE,hR,i2,HO.out.trans o2,Yl HB.out o2 yE⟩,by simp [intOf];omega⟩
   .have hR:=HR.out
    unfold Zre at hR
    rw [if_neg c,if_neg k]at hR
    have hR:=yS hR
    clear HR
    go_wp2_with (go_at_call 278;refine (Zni HS.out (m - i) (m+j - i) i yE yE rfl d _ HI.out yE yE).mono ?_;rintro e w1 ⟨rfl,i2,o2⟩)
    exact ⟨⟨i,j - i,f,_,rfl,by go_num,yE,yE,yE,yE,yE,hR,i2,HO.out.trans o2,Yl HB.out o2 yE⟩,by simp [intOf];omega⟩
end
end
section
open Go.RowKit
section
variable {I:Array Nat->World->Prop} {n blk g sf:Nat} {lt:Nat->Nat->Bool} {lb sb:Array Value}
theorem Zwk {a j : Nat}{d : Array Nat}(h1 : a < j) (h2 : lt d[j]! d[j - 1]! = true) : Zfn lt a j d = Zfn lt a (j - 1) (swq d j (j - 1)) := by
  obtain ⟨k, rfl⟩ : ∃ k, j = k + 1 := ⟨j - 1, by omega⟩
  rw [AN]at *
  rw [Zfn, if_pos ⟨h1, h2⟩]
theorem ZpY {a j : Nat}{d : Array Nat}(h : ¬ a < j \/ lt d[j]! d[j - 1]! = false) : Zfn lt a j d = d := by
  cases j with
  |zero => rfl
  |succ k =>
    rw [AN]at h
    rw [Zfn, if_neg λhh => by rcases h with h|h; exact h hh.1; rw [hh.2]at h; simp at h]
set_option maxRecDepth 100000 in
set_option maxHeartbeats 4000000 in
theorem Zkf (h : ZgH I n blk g sf lt lb sb) (a b : Nat) {za zb : Int} (ea : za = a) (eb : zb = b) (dk : Array Nat) (W : World) (hI : I dk W) (hab : a ≤ b) (hb : b ≤ n) :
    Calls prog 229 #[.agg #[.func (.func g) #[] lb, .func (.func sf) #[] sb], .int .i64 za, .int .i64 zb] W (soP I blk W (Zgw lt dk a b)) := by
  subst ea eb
  have HS := Lib.hid h
  have n62 := h.n62
  have eg := h.eg
  have hblk := h.lt _ _ hI
  obtain ⟨i1, o1⟩ := h.box hI (.cells #[.func (.func g) #[] lb, .func (.func sf) #[] sb] 226)
  have HI1 := Lib.hid i1
  have HO1 := Lib.hid o1
  have HB1 : Hid (Blk (W.alloc (.cells #[.func (.func g) #[] lb, .func (.func sf) #[] sb] 226)) W.heap.size 226 #[.func (.func g) #[] lb, .func (.func sf) #[] sb]) := Blk.new _ _ _
  clear hI h i1 o1
  go_enter func229, ntmps229
  go_wp2
  go_loopw [6] (λvi wr => ∃ (i : Nat) (d : Array Nat), vi = .int .i64 i ∧ a < i ∧ i ≤ b + 1 ∧ Hid (Zr5 lt a (b - i) i d = Zgw lt dk a b) ∧ Hid (I d wr) ∧ Hid (YM [blk] W wr) ∧ Hid (Blk wr W.heap.size 226 #[.func (.func g) #[] lb, .func (.func sf) #[] sb])) (λvi _ => b + 1 - (intOf vi).toNat)
  case atStart => exact ⟨a + 1, dk, by go_num, by omega, by omega, rfl, HI1, HO1, HB1⟩
  case round =>
    clear HI1 HO1 HB1
    obtain ⟨i, d, rfl, hai, hib, HR, HI, HO, HB⟩ := hrel
    by_cases hlt : i < b
    · have HR2 : Hid (Zr5 lt a (b - (i + 1)) (i + 1) (Zfn lt a i d) = Zgw lt dk a b) := by
        have := HR.out
        rw [show b - i = (b - (i + 1)) + 1 by omega, Zr5] at this
        exact this
      clear HR
      go_wp2
      go_loopw [7] (λvj wr2 => ∃ (j : Nat) (dj : Array Nat), vj = .int .i64 j ∧ a ≤ j ∧ j ≤ i ∧ Hid (Zfn lt a j dj = Zfn lt a i d) ∧ Hid (I dj wr2) ∧ Hid (YM [blk] W wr2) ∧ Hid (Blk wr2 W.heap.size 226 #[.func (.func g) #[] lb, .func (.func sf) #[] sb])) (λvj _ => (intOf vj).toNat)
      case atStart => exact ⟨i, d, rfl, by omega, A6 _, rfl, HI, HO, HB⟩
      case round =>
        clear HI HO HB
        obtain ⟨j, dj, rfl, haj, hji, HR, HI, HO, HB⟩ := hrel
        have c0 := HB.out.at (i := 0) rfl
        have hstop : (¬ a < j ∨ lt dj[j]! dj[j - 1]! = false) → Hid (dj = Zfn lt a i d) := λhh => by
          have := HR.out
          rw [ZpY hh] at this
          exact this
        have hgo : a < j → lt dj[j]! dj[j - 1]! = true → Hid (Zfn lt a (j - 1) (swq dj j (j - 1)) = Zfn lt a i d) := λh1 h2 => by
          have := HR.out
          rw [Zwk h1 h2] at this
          exact this
        have HST := Lib.hid hstop
        have HGO := Lib.hid hgo
        clear hstop hgo HR
        by_cases hja : a < j
        · have hl := HS.out.less dj _ j (j - 1) HI.out (by omega) (by omega)
          rw [show (((j - 1 : Nat) : Int)) = (j : Int) - 1 by omega] at hl
          cases hlv : lt dj[j]! dj[j - 1]! with
          | true =>
            rw [hlv] at hl
            go_wp2_with fail
            refine hl.mono ?_
            rintro e w1 ⟨rfl, i2, b2⟩
            have HB2 := Lib.hid (HB.out.later b2)
            have HO2 := Lib.hid (HO.out.trans (YM.of_below b2 _))
            obtain ⟨W', e1, e2, e3⟩ := HS.out.swap _ w1 j (j - 1) i2 (by omega) (by omega)
            rw [show (((j - 1 : Nat) : Int)) = (j : Int) - 1 by omega] at e1
            have c1 := HB2.out.at (i := 1) rfl
            have HR2 := HGO.out hja hlv
            have HI2 := Lib.hid e2
            have HB3 := Lib.hid (Yl HB2.out e3 (by omega))
            have HO3 := Lib.hid (HO2.out.trans e3)
            clear e2 e3 i2 b2
            go_wp2
            exact ⟨⟨j - 1, _, by go_num, by omega, by omega, HR2, HI2, HO3, HB3⟩, by simp [intOf]; omega⟩
          | false =>
            rw [hlv] at hl
            have HR3 := HST.out (.inr hlv)
            go_wp2_with fail
            refine hl.mono ?_
            rintro e w1 ⟨rfl, i2, b2⟩
            go_wp2
            exact ⟨⟨i + 1, _, by go_num, by omega, by omega, by rw [HR3.out]; exact HR2, i2, HO.out.trans (YM.of_below b2 _), HB.out.later b2⟩, by simp [intOf]; omega⟩
        · have HR3 := HST.out (.inl hja)
          go_wp2
          exact ⟨⟨i + 1, _, by go_num, by omega, by omega, by rw [HR3.out]; exact HR2, HI, HO, HB⟩, by simp [intOf]; omega⟩
    · have HR2 : Hid (d = Zgw lt dk a b) := by
        have := HR.out
        rw [show b - i = 0 by omega] at this
        exact this
      go_wp2
      go_end0
      exact ⟨rfl, by rw [← HR2.out]; exact HI.out, HO.out⟩
end
end
section
open Go.RowKit
structure Zsl (I:Array Nat->World->Prop) (n blk T fLen fLess fSwap:Nat) (rv rl rs rn:Value) (lt:Nat->Nat->Bool):Prop where
 n12:n<=12
 lenAt : ∀ dk W, I dk W → ∀ N : Nat, N = prog.types.size + Made.depth → (method N T rv "Len").run prog W = .ok (fLen, rn) W
 lessAt : ∀ dk W, I dk W → ∀ N : Nat, N = prog.types.size + Made.depth → (method N T rv "Less").run prog W = .ok (fLess, rl) W
 swapAt : ∀ dk W, I dk W → ∀ N : Nat, N = prog.types.size + Made.depth → (method N T rv "Swap").run prog W = .ok (fSwap, rs) W
 eLen:∀args w,(callFunc fLen args).run prog w=.ok (.enter fLen args) w
 eLess:∀args w,(callFunc fLess args).run prog w=.ok (.enter fLess args) w
 eSwap:∀args w,(callFunc fSwap args).run prog w=.ok (.enter fSwap args) w
 len:∀dk W,I dk W->Calls prog fLen #[rn] W λe w'=>e=.returned (.int .i64 n)/\I dk w'/\Below W.heap.size W w'
 less:∀dk W (i j:Nat),I dk W->i<n->j<n->Calls prog fLess #[rl,.int .i64 i,.int .i64 j] W λe w'=>e=.returned (.bool (lt dk[i]! dk[j]!))/\I dk w'/\Below W.heap.size W w'
 swap:∀dk W (i j:Nat),I dk W->i<n->j<n->Calls prog fSwap #[rs,.int .i64 i,.int .i64 j] W λe w'=>e=.returned (.tuple #[])/\I (swq dk i j) w'/\YM [blk] W w'
section
variable {I:Array Nat->World->Prop} {n blk T fLen fLess fSwap:Nat} {rv rl rs rn:Value} {lt:Nat->Nat->Bool}
set_option maxRecDepth 100000 in
set_option maxHeartbeats 4000000 in
theorem Zrv (h : Zsl I n blk T fLen fLess fSwap rv rl rs rn lt) (a b : Nat) {za zb : Int} (ea : za = a) (eb : zb = b) (dk : Array Nat) (W : World) (hI : I dk W) (hab : a ≤ b) (hb : b ≤ n) :
    Calls prog 279 #[.iface T rv, .int .i64 za, .int .i64 zb] W (soP I blk W (Zgw lt dk a b)) := by
  subst ea eb
  have HS := Lib.hid h
  have n12 := h.n12
  have eLess := h.eLess
  have eSwap := h.eSwap
  have HI1 := Lib.hid hI
  clear hI h
  go_enter func279, ntmps279
  go_wp2
  go_loopw [6] (λvi wr => ∃ (i : Nat) (d : Array Nat), vi = .int .i64 i ∧ a < i ∧ i ≤ b + 1 ∧ Hid (Zr5 lt a (b - i) i d = Zgw lt dk a b) ∧ Hid (I d wr) ∧ Hid (YM [blk] W wr)) (λvi _ => b + 1 - (intOf vi).toNat)
  case atStart => exact ⟨a + 1, dk, by go_num, by omega, by omega, rfl, HI1, YM.refl _ _⟩
  case round =>
    clear HI1
    obtain ⟨i, d, rfl, hai, hib, HR, HI, HO⟩ := hrel
    by_cases hlt : i < b
    · have HR2 : Hid (Zr5 lt a (b - (i + 1)) (i + 1) (Zfn lt a i d) = Zgw lt dk a b) := by
        have := HR.out
        rw [show b - i = (b - (i + 1)) + 1 by omega, Zr5] at this
        exact this
      clear HR
      go_wp2
      go_loopw [7] (λvj wr2 => ∃ (j : Nat) (dj : Array Nat), vj = .int .i64 j ∧ a ≤ j ∧ j ≤ i ∧ Hid (Zfn lt a j dj = Zfn lt a i d) ∧ Hid (I dj wr2) ∧ Hid (YM [blk] W wr2)) (λvj _ => (intOf vj).toNat)
      case atStart => exact ⟨i, d, rfl, by omega, A6 _, rfl, HI, HO⟩
      case round =>
        clear HI HO
        obtain ⟨j, dj, rfl, haj, hji, HR, HI, HO⟩ := hrel
        have hstop : (¬ a < j ∨ lt dj[j]! dj[j - 1]! = false) → Hid (dj = Zfn lt a i d) := λhh => by
          have := HR.out
          rw [ZpY hh] at this
          exact this
        have hgo : a < j → lt dj[j]! dj[j - 1]! = true → Hid (Zfn lt a (j - 1) (swq dj j (j - 1)) = Zfn lt a i d) := λh1 h2 => by
          have := HR.out
          rw [Zwk h1 h2] at this
          exact this
        have HST := Lib.hid hstop
        have HGO := Lib.hid hgo
        clear hstop hgo HR
        by_cases hja : a < j
        · have hl := HS.out.less dj _ j (j - 1) HI.out (by omega) (by omega)
          rw [show (((j - 1 : Nat) : Int)) = (j : Int) - 1 by omega] at hl
          cases hlv : lt dj[j]! dj[j - 1]! with
          | true =>
            rw [hlv] at hl
            go_wp2_with fail
            rw [HS.out.lessAt dj _ HI.out]
            rotate_left
            · kernel_rfl
            simp only[Result.andThen]
            rw [eLess, Oper.upon_enter]
            refine hl.mono ?_
            rintro e w1 ⟨rfl, i2, b2⟩
            have HO2 := Lib.hid (HO.out.trans (YM.of_below b2 _))
            have hs := HS.out.swap _ w1 j (j - 1) i2 (by omega) (by omega)
            have MS := Lib.hid (HS.out.swapAt _ w1 i2)
            rw [show (((j - 1 : Nat) : Int)) = (j : Int) - 1 by omega] at hs
            have HR2 := HGO.out hja hlv
            clear i2 b2
            go_wp2_with fail
            rw [MS.out]
            rotate_left
            · kernel_rfl
            simp only[Result.andThen]
            rw [eSwap, Oper.upon_enter]
            refine hs.mono ?_
            rintro e w2 ⟨rfl, i3, o3⟩
            go_wp2
            exact ⟨⟨j - 1, _, by go_num, by omega, by omega, HR2, i3, HO2.out.trans o3⟩, by simp [intOf]; omega⟩
          | false =>
            rw [hlv] at hl
            have HR3 := HST.out (.inr hlv)
            go_wp2_with fail
            rw [HS.out.lessAt dj _ HI.out]
            rotate_left
            · kernel_rfl
            simp only[Result.andThen]
            rw [eLess, Oper.upon_enter]
            refine hl.mono ?_
            rintro e w1 ⟨rfl, i2, b2⟩
            go_wp2
            exact ⟨⟨i + 1, _, by go_num, by omega, by omega, by rw [HR3.out]; exact HR2, i2, HO.out.trans (YM.of_below b2 _)⟩, by simp [intOf]; omega⟩
        · have HR3 := HST.out (.inl hja)
          go_wp2
          exact ⟨⟨i + 1, _, by go_num, by omega, by omega, by rw [HR3.out]; exact HR2, HI, HO⟩, by simp [intOf]; omega⟩
    · have HR2 : Hid (d = Zgw lt dk a b) := by
        have := HR.out
        rw [show b - i = 0 by omega] at this
        exact this
      go_wp2
      go_end0
      exact ⟨rfl, by rw [← HR2.out]; exact HI.out, HO.out⟩
theorem ZEO (h:Zsl I n blk T fLen fLess fSwap rv rl rs rn lt) {zn zl:Int}(en:zn=n) (dk:Array Nat) (W:World) (hI:I dk W):
  Calls prog 263 #[.iface T rv,.int .i64 0,.int .i64 zn,.int .i64 zl] W (soP I blk W (Zgw lt dk 0 n)):=by
 subst en
 have HS:=yS h
 have n12:=h.n12
 have HI:=yS hI
 clear hI h
 go_enter func263,ntmps263
 go_wp2
 refine wp_loop_rounds 1 ?_
 rw [rounds_succ]
 go_wp2_with (go_at_call 279;refine (Zrv HS.out 0 n rfl rfl dk _ HI.out yE (A6 _)).mono ?_;rintro e w1 ⟨rfl,i2,o2⟩)
 go_end0
 exact ⟨rfl,i2,o2⟩
theorem ZwE (h:Zsl I n blk T fLen fLess fSwap rv rl rs rn lt) (dk:Array Nat) (W:World) (hI:I dk W):
  Calls prog 231 #[.iface T rv] W (soP I blk W (Zgw lt dk 0 n)):=by
 have HS:=yS h
 have n12:=h.n12
 have a:=h.eLen
 have HI:=yS hI
 have hl:=h.len _ _ hI
 have ML:=yS (h.lenAt _ _ hI)
 clear hI h
 go_enter func231,ntmps231
 go_wp2_with fail
 rw [ML.out]
 rotate_left
 .kernel_rfl
 simp only[Result.andThen]
 rw [a,Oper.upon_enter]
 refine hl.mono ?_
 rintro e w1 ⟨rfl,i2,b2⟩
 have HI2:=yS i2
 have HO2:Hid (YM [blk] W w1):=YM.of_below b2 _
 clear i2 b2 hl HI ML
 by_cases h1:n<=1
 .have hX:Zgw lt dk 0 n=dk:=by
   unfold Zgw
   rw [show n - (0+1)=0 by omega]
   rfl
  go_wp2
  go_end0
  exact ⟨rfl,by rw [hX];exact HI2.out,HO2.out⟩
 .have hw:((n:Int)) % 18446744073709551616=n:=by omega
  go_wp2_with (first|(go_at_call 202;refine (bits_Len _ _ yE yE).mono ?_;rintro e w2 ⟨rfl,rfl⟩)|(go_at_call 263;refine (ZEO HS.out rfl dk _ HI2.out).mono ?_;rintro e w3 ⟨rfl,i3,o3⟩))
  go_end0
  exact ⟨rfl,i3,HO2.out.trans o3⟩
end
end
section
open Go.RowKit
theorem Zvn (nm : String) (hn : nm = "Less") (v : Value) (w : World) : ∀ N : Nat, N = prog.types.size + Made.depth → (method N 246 v nm).run prog w = .ok (328, v) w := by
 rintro N rfl
 subst hn
 kernel_rfl
theorem Zut (a off c n:Nat) (W:World) (x y:Int) (i j:Nat) (hi:i<n) (hj:j<n) (hn:n<=1000) (ci:W.cell? ⟨a,off+i,none⟩=some (.int .i64 x)) (cj:W.cell? ⟨a,off+j,none⟩=some (.int .i64 y)):
  Calls prog 328 #[.slice (some ⟨a,off,none⟩) n c,.int .i64 i,.int .i64 j] W λe w'=>e=.returned (.bool (decide (x<y)))/\∃q,w'=W.drewN q:=by
 go_enter func328,ntmps328
 go_wp2
 go_quiet (fail)
 go_wp2
 go_ret
 exact ⟨rfl,nq,rfl⟩
theorem ZuC (a off c n:Nat) (W:World) (x y:Int) (i j:Nat) (hi:i<n) (hj:j<n) (hn:n<=1000) (ci:W.cell? ⟨a,off+i,none⟩=some (.int .i64 x)) (cj:W.cell? ⟨a,off+j,none⟩=some (.int .i64 y)) (fi:W.frozen? ⟨a,off+i,none⟩=false) (fj:W.frozen? ⟨a,off+j,none⟩=false):
  Calls prog 330 #[.slice (some ⟨a,off,none⟩) n c,.int .i64 i,.int .i64 j] W λe w'=>e=.returned (.tuple #[])/\∃q,w'=((W.setCell ⟨a,off+i,none⟩ (.int .i64 y)).setCell ⟨a,off+j,none⟩ (.int .i64 x)).drewN q:=by
 have mixed:prog.follows .mixedOrders=true:=yO
 obtain ⟨v',hy'⟩:=cell?_setCell_some (w:=W) (p:=⟨a,off+i,none⟩) (x:=.int .i64 y) (q:=⟨a,off+j,none⟩) cj
 go_enter func330,ntmps330
 go_wp2
 go_region_o
 all_goals (try go_wp2)
 all_goals go_end0
 all_goals exact ⟨rfl,1,rfl⟩
theorem Zye (a off c n:Nat) (W:World):Calls prog 327 #[.slice (some ⟨a,off,none⟩) n c] W λe w'=>e=.returned (.int .i64 n)/\w'=W:=by
 go_enter func327,ntmps327
 go_wp2
 go_ret
 exact ⟨rfl,rfl⟩
theorem Zvq (A:Option Addr) (c n:Nat) (W:World):Calls prog 327 #[.slice A n c] W λe w'=>e=.returned (.int .i64 n)/\w'=W:=by
 go_enter func327,ntmps327
 go_wp2
 go_ret
 exact ⟨rfl,rfl⟩
theorem Zvd (v:Value) (W:World):Calls prog 232 #[.iface 246 v] W λe w'=>e=.returned (.iface 274 (.pointer (some ⟨W.heap.size,0,none⟩)))/\w'=W.alloc (.cells #[.iface 246 v] 276):=by
 go_enter func232,ntmps232
 go_wp2
 go_ret
 exact ⟨rfl,rfl⟩
theorem Zvo (blk off c n:Nat) (W:World) (hblk:blk<W.heap.size) (x y:Int) (i j:Nat) (hi:i<n) (hj:j<n) (hn:n<=1000) (ci:W.cell? ⟨blk,off+i,none⟩=some (.int .i64 x)) (cj:W.cell? ⟨blk,off+j,none⟩=some (.int .i64 y)):
  Calls prog 333 #[.agg #[.iface 246 (.slice (some ⟨blk,off,none⟩) n c)],.int .i64 i,.int .i64 j] W λe w'=>e=.returned (.bool (decide (y<x)))/\Below W.heap.size W w':=by
 have hB:Below W.heap.size W (W.alloc (.cells #[.iface 246 (.slice (some ⟨blk,off,none⟩) n c)] 276)):=(Below.refl _ _).alloc (A6 _) _
 have ci':=(hB.cell (p:=⟨blk,off+i,none⟩) hblk).trans ci
 have cj':=(hB.cell (p:=⟨blk,off+j,none⟩) hblk).trans cj
 have HL:=yS (Zut blk off c n _ y x j i hj hi hn cj' ci')
 have HB:=yS hB
 clear ci' cj' hB ci cj
 go_enter func333,ntmps333
 go_wp2_with fail
 rw [Zvn "Less" rfl]
 rotate_left
 .kernel_rfl
 simp only[Result.andThen]
 rw [enters_of func328 yO rfl,Oper.upon_enter]
 refine HL.out.mono ?_
 rintro e w1 ⟨rfl,q,rfl⟩
 go_wp2
 go_ret
 exact ⟨rfl,HB.out.os,HB.out.tape,HB.out.output,HB.out.size,HB.out.block⟩
end
section
open Go.RowKit
theorem ZBK {W:World}{rb:Nat}{v:Value}(h:W.cell? ⟨rb,0,none⟩=some v):(loadVar 244 ⟨rb,0,none⟩).run prog W=.ok v W:=by
 have a:∀w,(isAgg 244).run prog w=.ok false w:=λ_=>by kernel_rfl
 simp [loadVar,a,h,Result.andThen]
set_option maxRecDepth 1000000 in
theorem ZAO {W : World} {rb : Nat} {v : Value} (h : W.cell? ⟨rb, 0, none⟩ = some v) : (loadVar 276 ⟨rb, 0, none⟩).run prog W = .ok (.agg #[v]) W := by
  have := Lib.rl_loadVar_cells (P := prog) 276 ((prog.info? 276).get (by kernel_rfl)) (by kernel_rfl) (λ_ => by kernel_rfl) rb 0 [v] (by kernel_rfl) W (λk u hk => by
    cases k with
    | zero => obtain rfl : v = u := by simpa using hk
              exact h
    | succ k => simp at hk)
  simpa using this
theorem ZD7 (nm : String) (hn : nm = "Len" ∨ nm = "Swap") (w : World) (rb N : Nat) (hN : N = prog.types.size + Made.depth - 1) : (method (prog.types.size + Made.depth) 274 (.pointer (some ⟨rb, 0, none⟩)) nm).run prog w = ((loadVar 244 ⟨rb, 0, none⟩ >>= λu => match u with | .iface t' v' => method N t' v' nm | .nilIface => runtimePanic .nilDeref | _ => stuck "method row: interface value expected").run prog w) := by
 subst hN
 rcases hn with rfl|rfl
 .kernel_rfl
 .kernel_rfl
theorem ZzH (nm : String) (f : Nat) (hn : nm = "Len" ∧ f = 327 ∨ nm = "Swap" ∧ f = 330) (v : Value) (w : World) (N : Nat) (hN : N = prog.types.size + Made.depth - 1) : (method N 246 v nm).run prog w = .ok (f, v) w := by
 subst hN
 rcases hn with ⟨rfl,rfl⟩|⟨rfl,rfl⟩
 .kernel_rfl
 .kernel_rfl
theorem Zmj (nm : String) (f : Nat) (hn : nm = "Len" ∧ f = 327 ∨ nm = "Swap" ∧ f = 330) {W : World} {rb : Nat} {v : Value} (h : W.cell? ⟨rb, 0, none⟩ = some (.iface 246 v)) : (method (prog.types.size + Made.depth) 274 (.pointer (some ⟨rb, 0, none⟩)) nm).run prog W = .ok (f, v) W := by
 obtain ⟨N,hN⟩:∃N,N=prog.types.size+Made.depth - 1:=⟨_,yi rfl⟩
 rw [ZD7 nm (hn.elim (λh=>.inl h.1) λh=>.inr h.1) W rb N hN]
 have h1:=ZBK h
 have h2:=ZzH nm f hn v W N hN
 simp [h1,h2,Result.andThen]
theorem ZBd (nm : String) (hn : nm = "Less") (w : World) (rb : Nat) : (method (prog.types.size + Made.depth) 274 (.pointer (some ⟨rb, 0, none⟩)) nm).run prog w = ((loadVar 276 ⟨rb, 0, none⟩ >>= λu => pure (333, u)).run prog w) := by
 subst hn
 kernel_rfl
theorem Ztz {W : World} {rb : Nat} {v : Value} (h : W.cell? ⟨rb, 0, none⟩ = some v) : (method (prog.types.size + Made.depth) 274 (.pointer (some ⟨rb, 0, none⟩)) "Less").run prog W = .ok (333, .agg #[v]) W := by
 rw [ZBd "Less" rfl]
 have h1:=ZAO h
 simp [h1,Result.andThen]
def ZAY (rb blk off c n sz:Nat) (G:Nat->Int) (dk:Array Nat) (W:World):Prop:=Blk W rb 276 #[.iface 246 (.slice (some ⟨blk,off,none⟩) n c)]/\rb≠blk/\dk.size=n/\∃cs,Blk W blk 3 cs/\cs.size=sz/\∀t,t<n->cs[off+t]?=some (.int .i64 (G dk[t]!))
theorem ZAY.keep {rb a off c n sz:Nat}{G:Nat->Int}{dk:Array Nat}{W W':World}(h:ZAY rb a off c n sz G dk W) (hb:Below W.heap.size W W'):ZAY rb a off c n sz G dk W':=by
 obtain ⟨h1,h2,h3,cs,h4,h6,h5⟩:=h
 exact ⟨h1.later hb,h2,h3,cs,h4.later hb,h6,h5⟩
theorem ZyC (rb blk off c n sz:Nat) (G:Nat->Int) (hn:n<=12):Zsl (ZAY rb blk off c n sz G) n blk 274 327 333 330 (.pointer (some ⟨rb,0,none⟩)) (.agg #[.iface 246 (.slice (some ⟨blk,off,none⟩) n c)]) (.slice (some ⟨blk,off,none⟩) n c) (.slice (some ⟨blk,off,none⟩) n c) (λi j=>decide (G j<G i)) where
 n12:=hn
 lenAt:=by
  rintro dk W ⟨h1,_⟩ N rfl
  exact Zmj "Len" _ (.inl ⟨rfl, rfl⟩) (h1.at (i := 0) rfl)
 lessAt:=by
  rintro dk W ⟨h1,_⟩ N rfl
  exact Ztz (h1.at (i:=0) rfl)
 swapAt:=by
  rintro dk W ⟨h1,_⟩ N rfl
  exact Zmj "Swap" _ (.inr ⟨rfl, rfl⟩) (h1.at (i := 0) rfl)
 eLen:=enters_of func327 yO rfl
 eLess:=enters_of func333 yO rfl
 eSwap:=enters_of func330 yO rfl
 len:=λdk W h=>(Zye blk off c n W).mono λe w' ⟨h1,h2⟩=>by
  subst h2
  exact ⟨h1,h,Below.refl _ _⟩
 less:=λdk W i j h hi hj=>by
  obtain ⟨h1,h2,h3,cs,h4,h6,h5⟩:=id h
  refine (Zvo blk off c n W h4.lt (G dk[i]!) (G dk[j]!) i j hi hj yE (h4.at (h5 i hi)) (h4.at (h5 j hj))).mono ?_
  rintro e w' ⟨he,hb⟩
  exact ⟨he,h.keep hb,hb⟩
 swap:=λdk W i j h hi hj=>by
  obtain ⟨h1,h2,h3,cs,h4,h6,h5⟩:=h
  refine (ZuC blk off c n W (G dk[i]!) (G dk[j]!) i j hi hj yE (h4.at (h5 i hi)) (h4.at (h5 j hj)) (h4.frozen _) (h4.frozen _)).mono ?_
  rintro e w' ⟨he,q,rfl⟩
  have hsz:=(ZkY dk i j).1
  refine ⟨he,⟨((h1.far (p:=⟨blk,off+i,none⟩) h2 _).far (p:=⟨blk,off+j,none⟩) h2 _),h2,by rw [hsz];exact h3,_,(h4.set_ (off+i) _).set_ (off+j) _,by simp [h6],λt ht=>?_⟩,(((YM.refl [blk] W).setCell (p:=⟨blk,off+i,none⟩) yG _).setCell (p:=⟨blk,off+j,none⟩) yG _).drewN q⟩
  have hci:=(AE.1 (h5 i hi)).1
  have hcj:=(AE.1 (h5 j hj)).1
  unfold swq
  rw [if_pos ⟨yE,yE⟩,Go.Sort.swp_get dk yE yE,AO,AO]
  by_cases e1:t=j
  .subst e1
   rw [if_pos rfl,if_pos (by simpa using hcj),if_pos rfl]
  .rw [if_neg yE,if_neg e1]
   by_cases e2:t=i
   .subst e2
    rw [if_pos rfl,if_pos hci,if_pos rfl]
   .rw [if_neg yE,if_neg e2]
    exact h5 t ht
def ZJl (rb:Nat) (v:Value) (dk:Array Nat) (W:World):Prop:=Blk W rb 276 #[.iface 246 v]
theorem ZwT (rb c:Nat) (A:Option Addr) (lt:Nat->Nat->Bool):Zsl (ZJl rb (.slice A 0 c)) 0 rb 274 327 333 330 (.pointer (some ⟨rb,0,none⟩)) (.agg #[.iface 246 (.slice A 0 c)]) (.slice A 0 c) (.slice A 0 c) lt where
 n12:=AD _
 lenAt:=by
  rintro dk W h1 N rfl
  exact Zmj "Len" _ (.inl ⟨rfl, rfl⟩) (Blk.at (i := 0) h1 rfl)
 lessAt:=by
  rintro dk W h1 N rfl
  exact Ztz (Blk.at (i:=0) h1 rfl)
 swapAt:=by
  rintro dk W h1 N rfl
  exact Zmj "Swap" _ (.inr ⟨rfl, rfl⟩) (Blk.at (i := 0) h1 rfl)
 eLen:=enters_of func327 yO rfl
 eLess:=enters_of func333 yO rfl
 eSwap:=enters_of func330 yO rfl
 len:=λdk W h=>(Zvq A c 0 W).mono λe w' ⟨h1,h2⟩=>by
  subst h2
  exact ⟨h1,h,Below.refl _ _⟩
 less:=λdk W i j h hi hj=>by omega
 swap:=λdk W i j h hi hj=>by omega
end
section
open Go.RowKit
theorem Zwp (w:World):∀l:List Int,REs w 1 (A0 ZH l) (l.map λi=>Value.int .i64 i) []
 | []=>⟨rfl,rfl⟩
 |i::l=>⟨[.int .i64 i],l.map λi=>Value.int .i64 i,[],[],rfl,rfl,⟨RCs.solo (x:=.int .i64 i) (L:=[]) ⟨rfl,rfl⟩,rfl⟩,Zwp w l⟩
theorem Zlq {w:World}:∀{l:List Int}{cs:List Value}{L:List Nat},REs w 1 (A0 ZH l) cs L->cs=(l.map λi=>Value.int .i64 i)/\L=[]
 | [],_,_,⟨h1,h2⟩=>⟨h1,h2⟩
 |i::l,_,_,⟨c1,c2,L1,L2,rfl,rfl,⟨h3,h4⟩,h5⟩=>by
  obtain ⟨rfl,rfl⟩:=Zlq h5
  obtain ⟨v,cs,L,M,rfl,rfl,h6,rfl,rfl⟩:=h3
  obtain ⟨rfl,rfl⟩:=h6
  exact ⟨rfl,rfl⟩
def FlK (l:List Int) (st:St):Prop:=st.sl 3=.p false [.row 32]/\st.ob 32=.row 3 1 (A0 ZH l) 2
theorem ZAg [NW] {W:Qq}{U:Nat->Prop}{st:St}{a:Act}{w:World}{l:List Int}(hx:∀b,¬(W.x b\/W.y b)) (hI:Inv W U st a w) (hk:FlK l st):
  a.defers=[]/\w.ownsV W.heap.size 3 1 (a.tmps.getD 3 undef) l.length (l.map λi=>Value.int .i64 i)/\Own w W.heap.size (a.tmps.getD 3 undef).ownBlock.toList/\Bel W w:=by
 obtain ⟨g,hH,hS⟩:=hI.ex
 obtain ⟨k1,k2⟩:=hk
 have h3:=hS 3
 rw [k1]at h3
 obtain ⟨x,e0,e1⟩:=h3
 obtain rfl:AV.row 32=x:=by simpa using e0
 obtain ⟨e1,_⟩:=e1
 have o2:=hH.obs 32
 rw [k2]at o2
 obtain ⟨_,cs,L,p1,p2,p3⟩:=o2
 obtain ⟨q3,q4⟩:g.O 32=(g.val 32).ownBlock.toList/\g.D 32=L:=by
  rcases p3 with ⟨_,h1,h2⟩|⟨h,_⟩|⟨h,_⟩
  .exact ⟨h1,h2⟩
  .simp at h
  .simp at h
 obtain ⟨rfl,rfl⟩:=Zlq p2
 have c:∀y∈(g.val 32).ownBlock.toList,W.heap.size<=y:=λy m=>(hH.plain 32 y (by rw [q3];exact AP _ m)).1.resolve_right (hx y)
 have f:∀y∈(g.val 32).ownBlock.toList,∃j e,w.heap[y]?=some (.cells j e (0,0)):=λy m=>by
  have h:=(hH.plain 32 y (by rw [q3];exact AP _ m)).2
  rw [k2]at h
  exact h
 have d:=hH.nodup 32
 rw [q3,q4,A5]at d
 rw [AC]at p1
 rw [e1]
 exact ⟨hI.defers,ZnE p1 c,⟨d,c,f⟩,hH.below⟩
theorem Ztw {l:List Value}{n:Nat}(h:l.length=n):∃f:Nat->Value,l=(AF n).map f:=by
 refine ⟨λi=>l.getD i undef,List.ext_getElem (by simp [h]) λi h1 h2=>?_⟩
 simp [h1]
theorem ZCf {w:World}{B:Nat}{v:Value}{l:List Int}(a:w.ownsV B 3 1 v l.length (l.map λi=>Value.int .i64 i)) (hB:B<=w.heap.size) (x:l.length<=12):
  Calls prog 231 #[.iface 274 (.pointer (some ⟨w.heap.size,0,none⟩))] (w.alloc (.cells #[.iface 246 v] 276)) λe w'=>e=.returned (.tuple #[])/\w'.ownsV B 3 1 v l.length ((ZlG l).map λi=>Value.int .i64 i)/\(∀b∈v.ownBlock.toList,∃d e,w'.heap[b]?=some (.cells d e (0,0)))/\Below B w w':=by
 have f:Below w.heap.size w (w.alloc (.cells #[.iface 246 v] 276)):=(Below.refl _ _).alloc (A6 _) _
 have hb:Blk (w.alloc (.cells #[.iface 246 v] 276)) w.heap.size 276 #[.iface 246 v]:=Blk.new _ _ _
 by_cases h0:l.length=0
 .obtain rfl:=List.eq_nil_of_length_eq_zero h0
  obtain ⟨A,c,rfl,p,hcm⟩:=XK a
  refine (ZwE (ZwT w.heap.size c A (λ_ _=>false)) #[] _ hb).mono ?_
  rintro e w' ⟨rfl,_,ho⟩
  have hk:∀b∈(Value.slice A 0 c).ownBlock.toList,w'.heap[b]?=w.heap[b]?:=λb mb=>by
   have q:=ZjE a b mb
   rw [ho.block b (Nat.lt_of_lt_of_le q f.size) (by simp;omega)]
   exact f.block b q
  refine ⟨rfl,XJ a hk,λb mb=>?_,(Below.trans (f.mono hB) ((ho.below (B:=B) (AG hB f.size) (by simpa using hB))))⟩
  rw [hk b mb]
  rcases a.2 with ⟨hv,_⟩|⟨g,o,cap,d,hv,_,hg,_⟩
  .rw [hv]at mb;simp [Value.ownBlock]at mb
  .rw [hv]at mb
   simp [Value.ownBlock]at mb
   subst mb
   exact ⟨_,_,hg⟩
 .rcases a.2 with ⟨_,h1⟩|⟨g,o,cap,d,rfl,u,hg,p,hm,hs,ht⟩
  .exact absurd h1 h0
  have hgl:g<w.heap.size:=(AE.1 hg).1
  have hr:ZAY w.heap.size g o cap l.length d.size (λk=>(l[k]?).getD 0) (AH l.length) (w.alloc (.cells #[.iface 246 (.slice (some ⟨g,o,none⟩) l.length cap)] 276)):=by
   refine ⟨hb,yE,yG,d,Blk.alloc hg _,rfl,λt m=>?_⟩
   have e:((d.toList.drop o).take (l.length*1))[t]?=some (Value.int .i64 l[t]):=by
    rw [ht,AI,List.getElem?_eq_getElem m];rfl
   rw [AQ yE,AR,AJ]at e
   rw [e,getElem!_pos (AH l.length) t (by simpa using m)]
   simp [m]
  refine (ZwE (ZyC w.heap.size g o cap l.length d.size (λk=>(l[k]?).getD 0) x) _ _ hr).mono ?_
  rintro e w' ⟨rfl,⟨_,_,h3,cs,h4,h5,h6⟩,ho⟩
  refine ⟨rfl,⟨by rw [AC,Zlc];omega,.inr ⟨g,o,cap,cs,rfl,u,h4,p,hm,yE,?_⟩⟩,λb mb=>?_,Below.trans (f.mono hB) (ho.below (AG hB f.size) (by simpa using u))⟩
  .have hsz:(Zqg l).size=l.length:=by
    have:=(Zr7 l).1
    simpa using this
   refine List.ext_getElem? λt=>?_
   by_cases m:t<l.length
   .rw [AQ yE,AR,AJ,h6 t m,AI]
    unfold ZlG
    rw [AI,AJ,Array.getElem?_eq_getElem (by omega:t<(Zqg l).size)]
    have hx:(Zgw (λi j=>decide ((l[j]?).getD 0<(l[i]?).getD 0)) (AH l.length) 0 l.length)=Zqg l:=rfl
    simp only[hx,Option.map_some]
    rw [getElem!_pos (Zqg l) t yE]
   .rw [AS (by rw [List.length_take];omega),AS (by rw [AC,Zlc];omega)]
  .simp [Value.ownBlock]at mb
   subst mb
   exact ⟨_,_,h4⟩
theorem ZGo {l_0 v1:List Int}(e1:QU l_0=some v1) (i:v1.length<=12):Sound prog J0 184 [(false,[.sl 3 1 (A0 ZH l_0)])] [(false,[(false,.sl 3 1 (A0 ZH (ZlG v1)))])]:=by
 refine Zwn (od:=λ_=>none) (hds:=hds) htt hJ0 hmix 2 (FlK v1) func184 yO rfl yO yO ?_ ?_
 .simp only[Zqf,Znd,f184,Zk,go_sem,seval]
  refine Za (i_copyInts_ok e1) ?_
  simp only[*,go_sem,seval]
  rw [Zrn]
  exact ⟨by simp only[go_sem,seval],by simp only[go_sem,seval]⟩
 .intro _ W U st a w hJ hz hx hI hN hk
  obtain ⟨j,b,hO,c⟩:=ZAg hx hI hk
  simp only[Zql]
  obtain ⟨d,df⟩:=a
  obtain ⟨tm,rfl⟩:∃l,d=List.toArray l:=⟨d.toList,yG⟩
  obtain rfl:df=[]:=j
  have hN:tm.length=11:=hN
  clear hI hk
  obtain ⟨f,rfl⟩:=Ztw hN
  obtain ⟨v,hv⟩:∃v,f 3=v:=⟨_,rfl⟩
  have g:(({ tmps:=((AF 11).map f).toArray,defers:=[] }:Act).tmps.getD 3 undef)=v:=hv
  rw [g]at b hO
  have hS:=ZCf b c.size i
  have HBW:=yS c
  have HX:=yS hx
  have HZ:=yS hz
  have HO:=yS hO
  clear b c hx hz hN g hO
  simp only[AF,List.range.loop,A0,hv]
  go_wp2_with (first|(go_at_call 232;refine (Zvd v _).mono ?_;rintro e w1 ⟨rfl,rfl⟩)|(go_at_call 231;refine hS.mono ?_;rintro e w' ⟨rfl,k1,k2,k3⟩))
  have K1:=yS k1
  have K2:=yS k2
  have K3:=yS k3
  clear k1 k2 k3 hS
  go_ret
  refine ⟨v,λ_=>True,rfl,⟨[_],v.ownBlock.toList++[],⟨_,[],v.ownBlock.toList++[],[],rfl,yG,.inr ⟨rfl,_,rfl,yF,_,[],by rw [AC,Zlc];exact K1.out,Zwp _ _,rfl,λ_ _=>trivial⟩,rfl,rfl⟩,⟨by rw [A5];exact HO.out.nodup,by rw [A5];exact HO.out.ge,by rw [A5];exact K2.out⟩,rfl⟩,λ_ _=>trivial,?_⟩
  exact ⟨K3.out.os.trans HBW.out.os,K3.out.tape.trans HBW.out.tape,K3.out.output.trans HBW.out.output,AG HBW.out.size K3.out.size,λk hk=>(K3.out.block k hk).trans (HBW.out.block k hk λhh=>HX.out k (.inl hh))⟩
theorem Zkc {l_0 r:List Int}(h:ZdP l_0=some r):Sound prog J0 184 [(false,[.sl 3 1 (A0 ZH l_0)])] [(false,[(false,.sl 3 1 (A0 ZH r))])]:=by
 unfold ZdP at h
 obtain ⟨v1,e1,h⟩:=ZE h
 by_cases a:v1.length<=12
 .rw [if_pos a]at h
  obtain rfl:=A4 h
  exact ZGo e1 a
 .rw [if_neg a]at h;cases h
end
section
theorem Zov {b:Zu}{r:(List Int)}(h:Zeo b=some r):Sound prog J0 79 [(true,QF b)] [(false,[(false,.sl 3 1 (A0 ZH r))])]:=by
 refine fnk func79 rfl ?_
 unfold Zeo at h
 simp only[fnS,f79,Zk,go_sem,seval]
 refine Zb h λ_ z h=>Za (Ze7 z)<|yA ?_
 refine yB h (λ_ h=>?_) λ_ h=>?_
 refine Zb h λd A h=>Za (Zoz A)<|yA ?_
 refine Yr h (λs st=>match s with|(l,m)=>IV [(1,.bp 0 0),(3,.p false [.row 1]),(4,.p false [.row 2]),(5,yM (.int .i64 m))] [.box 52 [.c (.int .i64 b.nodes),.c (zC b.reasons)],.row 3 1 (A0 ZH d) 2,.row 3 1 (A0 ZH l) 2] st) [] [0,96,128] yF yD ?_
 rintro ⟨l,m⟩ ⟨_,_,_⟩ _ o _ h B
 simp only[go_sem,seval,Zc]at o
 obtain ⟨⟨_,_,_,_⟩,_,_,_,hn⟩:=o
 subst hn
 simp only[*,go_sem,seval]
 refine yB h (λ_ h=>?_) λ_ h=>?_
 obtain ⟨C,h⟩:=Zq h
 try simp only[Nat.reduceLeDiff]at C
 simp only[*,go_sem,seval]
 exact yR h [0,1,99]
 refine Yr h (λs st=>match s with|(q,t,e)=>IV [(1,.bp 0 0),(3,.p false [.row 1]),(4,.p false [.row 2]),(6,yM (.int .i64 t)),(7,yM (.int .i64 e))] [.box 52 [.c (.int .i64 b.nodes),.c (zC b.reasons)],.row 3 1 (A0 ZH d) 2,.row 3 1 (A0 ZH q) 2] st) [] [0,1,2] yF yD ?_
 rintro ⟨q,t,e⟩ ⟨_,_,_⟩ _ u _ h D
 simp only[go_sem,seval,Zc]at u
 obtain ⟨⟨_,_,_,_,_⟩,_,_,_,hn⟩:=u
 subst hn
 simp only[*,go_sem,seval]
 refine yB h (λ_ h=>?_) λ_ h=>?_
 refine Zb h λ_ E h=>Za (Zi0 E)<|yA ?_
 refine Yr h (λs st=>match s with|(v,f,g)=>IV [(1,.bp 0 0),(3,.p false [.row 1]),(4,.p false [.row 2]),(6,yM (.int .i64 g)),(7,yM (.int .i64 e)),(8,.p false [.row 3])] [.box 52 [.c (.int .i64 b.nodes),.c (zC b.reasons)],.row 3 1 (A0 ZH d) 2,.row 3 1 (A0 ZH v) 2,.row 3 1 (A0 ZH f) 2] st) [] [0,1,2,147] yF yD ?_
 rintro ⟨v,f,g⟩ ⟨_,_,_⟩ _ w _ h F
 simp only[go_sem,seval,Zc]at w
 obtain ⟨⟨_,_,_,_,_,_⟩,_,_,_,_,hn⟩:=w
 subst hn
 simp only[*,go_sem,seval]
 refine yB h (λ_ h=>?_) λ_ h=>?_
 refine Zh h (λi j st=>IV [(1,.bp 0 0),(3,.p false [.row 1]),(4,.p false [.row 2]),(6,yM (.int .i64 g)),(7,yM (.int .i64 e)),(8,.p false [.row 3]),(9,yL i)] [.box 52 [.c (.int .i64 b.nodes),.c (zC b.reasons)],.row 3 1 (A0 ZH d) 2,.row 3 1 (A0 ZH j) 2,.row 3 1 (A0 ZH f) 2] st) [] [0,1,2,3] yF yD ?_ ?_
 rintro _ _ j ⟨_,_,_⟩ _ k x G h _
 simp only[go_sem,seval,Zc]at x
 obtain ⟨⟨_,_,_,_,_,_,_⟩,_,_,_,H,hn⟩:=x
 subst hn
 have I:=WF.rowL G H
 have:=Zz k
 have:=ZC k
 have:=Zj (ZA k) I
 obtain ⟨_,h⟩:=Zq h
 obtain ⟨_,_,h⟩:=ZE h
 simp only[*,go_sem,seval]
 exact yR h [0,1,2,3]
 rintro j ⟨_,_,_⟩ y _ h
 simp only[go_sem,seval,Zc]at y
 obtain ⟨⟨_,_,_,_,_,_,_⟩,_,_,_,_,hn⟩:=y
 subst hn
 have:=Zx (f.length)
 simp only[*,go_sem,seval]
 refine Zb h λ_ J h=>Za (Zi0 J)<|yA ?_
 exact yR h [0,1,2,196]
 replace h:=Zn h F
 exact yR h [0,1,2]
 replace h:=Zn h D
 replace h:=Zn h B
 iterate 2 (cases h;exact yD)
theorem Zh3 {l_0:(List Zf)}{r:(List Zf)}(h:ZbC l_0=some r):Sound prog J0 23 [(false,[.sl 76 4 (A0 eRule l_0)])] [(false,[(false,.sl 76 4 (A0 eRule r))])]:=by
 refine fnk func23 rfl ?_
 unfold ZbC at h
 simp only[fnS,f23,Zk,go_sem,seval]
 refine Zh h (λi a st=>IV [(3,.p false [.row 0]),(6,yM (yW l_0)),(7,yL l_0.length),(8,yL i)] [.row 76 4 (A0 eRule a) 2] st) [(false,3,0)] [80] yF yD ?_ ?_
 rintro _ _ a ⟨_,_,_⟩ _ b d f h _
 simp only[go_sem,seval,Zc]at d
 obtain ⟨⟨_,g,_,_⟩,_,hn⟩:=d
 subst hn
 have k:=WF.slotL f g (j:=0) rfl
 have:=Zz b
 have:=ZC b
 have:=Zj (ZA b) k
 simp only[*,go_sem,seval]
 refine Zb h λ_ l h=>Za (ZoX l) ?_
 obtain ⟨m,h⟩:=Zq h
 try simp only[Nat.reduceLeDiff]at m
 simp only[*,go_sem,seval]
 exact yR h [145]
 rintro a ⟨_,_,_⟩ e _ h
 simp only[go_sem,seval,Zc]at e
 obtain ⟨⟨_,_,_,_⟩,_,hn⟩:=e
 subst hn
 have:=Zx (l_0.length)
 cases h;exact yD
theorem i_IsMemory_ok {l_0:(List Zr)}{r:Bool}(h:Zcr l_0=some r):Sound prog J0 49 [(false,[.sl 64 3 (A0 eStamp l_0)])] [(false,[(false,.bool r)])]:=by
 refine fnk func49 rfl ?_
 unfold Zcr at h
 simp only[fnS,f49,Zk,go_sem,seval]
 refine Zh h (λi a st=>IV [(0,yM (zB l_0)),(3,.p false [.row 0]),(7,yM (zB l_0)),(8,yL l_0.length),(9,yL i)] [.map (.int .i64) .bool (A0 eIB a)] st) [] [16] yF yD ?_ ?_
 rintro _ _ a ⟨_,_,_⟩ _ b e g h d
 simp only[go_sem,seval,Zc]at e
 obtain ⟨⟨k,_,_,_,_⟩,_,hn⟩:=e
 subst hn
 have l:=WF.slotL g k (j:=0) rfl
 have:=Zz b
 have:=ZC b
 have:=Zj (ZA b) l
 simp only[*,go_sem,seval]
 refine yB h (λ_ h=>?_) λ_ h=>?_
 replace h:=Zn h d
 cases h;exact yD
 refine yB h (λ_ h=>?_) λ_ h=>?_
 replace h:=Zn h d
 cases h;exact yD
 refine yB h (λ_ h=>?_) λ_ h=>?_
 replace h:=Zn h d
 cases h;exact yD
 exact yR h [0]
 rintro a ⟨_,_,_⟩ f _ h
 simp only[go_sem,seval,Zc]at f
 obtain ⟨⟨_,_,_,_,_⟩,_,hn⟩:=f
 subst hn
 have:=Zx (l_0.length)
 simp only[*,go_sem,seval]
 refine Zb h λ_ m h=>Za (i_FactsIn_ok m)<|yA ?_
 refine Zb h λ_ o h=>Za (ZiH o) ?_
 cases h;exact yD
theorem ZiF {append_0:ZF}{String_1:ZF}{r:Int}(h:Yc append_0 String_1=some r):Sound prog J0 145 [(true,eChoice append_0),(true,eChoice String_1)] [(false,[(false,.int .i64 r)])]:=by
 refine fnk func145 rfl ?_
 unfold Yc at h
 simp only[fnS,f145,Zk,go_sem,seval]
 refine yB h (λ_ h=>?_) λ_ h=>?_
 refine Zb h λ_ g h=>Za (ZY g) ?_
 cases h;exact yD
 refine Zb h λd j h=>Za (Zkc j)<|yA ?_
 refine Zb h λk l h=>Za (Zkc l)<|yA ?_
 refine Zh h (λi _ st=>IV [(2,.bp 0 0),(3,.bp 1 0),(5,.p false [.row 2]),(6,.p false [.row 3]),(7,yL i)] [zI 112 (eChoice append_0),zI 112 (eChoice String_1),.row 3 1 (A0 ZH d) 2,.row 3 1 (A0 ZH k) 2] st) [] [0,16,160,208] yF yD ?_ ?_
 rintro _ _ ⟨⟩ ⟨_,_,_⟩ _ b e m h a
 simp only[go_sem,seval,Zc]at e
 obtain ⟨⟨_,_,_,_,_⟩,_,_,o,_,hn⟩:=e
 subst hn
 have q:=WF.rowL m o
 have:=Zz b
 have:=ZC b
 have:=Zj (ZA b) q
 simp only[*,go_sem,seval]
 refine yB h (λ_ h=>?_) λ_ h=>?_
 obtain ⟨_,h⟩:=Zq h
 obtain ⟨_,_,h⟩:=ZE h
 simp only[*,go_sem,seval]
 refine yB h (λ_ h=>?_) λ_ h=>?_
 refine Zb h λ_ t h=>Za (ZY t) ?_
 replace h:=Zn h a
 cases h;exact yD
 exact yR h [0,1,2,3]
 refine yB h (λ_ h=>?_) λ_ h=>?_
 refine Zb h λ_ u h=>Za (ZY u) ?_
 replace h:=Zn h a
 cases h;exact yD
 refine yB h (λ_ h=>?_) λ_ h=>?_
 refine Zb h λ_ v h=>Za (ZY v) ?_
 replace h:=Zn h a
 cases h;exact yD
 refine yB h (λ_ h=>?_) λ_ h=>?_
 refine Zb h λ_ w h=>Za (ZY w) ?_
 replace h:=Zn h a
 cases h;exact yD
 refine Zb h λ_ x h=>Za (Zcj x) ?_
 replace h:=Zn h a
 cases h;exact yD
 rintro ⟨⟩ ⟨_,_,_⟩ f _ h
 simp only[go_sem,seval,Zc]at f
 obtain ⟨⟨_,_,_,_,_⟩,_,_,_,_,hn⟩:=f
 subst hn
 have:=Zx (d.length)
 simp only[*,go_sem,seval]
 refine yB h (λ_ h=>?_) λ_ h=>?_
 refine Zb h λ_ y h=>Za (ZY y) ?_
 cases h;exact yD
 refine yB h (λ_ h=>?_) λ_ h=>?_
 refine Zb h λ_ z h=>Za (ZY z) ?_
 cases h;exact yD
 refine yB h (λ_ h=>?_) λ_ h=>?_
 refine Zb h λ_ A h=>Za (ZY A) ?_
 cases h;exact yD
 refine Zb h λ_ B h=>Za (Zcj B) ?_
 cases h;exact yD
end
section
theorem Zms {s_0:ByteArray}{r:(Zp×Bool)}(h:ZbI s_0=some r):Sound prog J0 147 [(false,[.str s_0])] [(true,[(false,.int .i64 r.1.kind),(false,.str r.1.pattern.rel),(false,.sl 9 1 (A0 ZB r.1.pattern.args)),(false,.str r.1.left),(false,.str r.1.right)]),(false,[(false,.bool r.2)])]:=by
 refine fnk func147 rfl ?_
 unfold ZbI at h
 have f:Z9 ⟨#[110,111,116,32]⟩=true:=by decide
 simp only[fnS,f147,Zk,go_sem,seval,f]
 refine Yr h (λb st=>IV [(0,yM (.str s_0)),(2,.bp 0 0),(4,yM (.int .i64 b))] [.box 134 [.c (.int .i64 0),.c (.str ⟨#[]⟩),.nil 9 1,.c (.str ⟨#[]⟩),.c (.str ⟨#[]⟩)]] st) [] [0] yF yD ?_
 rintro b ⟨_,_,_⟩ _ d _ h a
 simp only[go_sem,seval,Zc]at d
 obtain ⟨⟨_,_,_⟩,_,hn⟩:=d
 subst hn
 simp only[*,go_sem,seval]
 refine yB h (λ_ h=>?_) λ_ h=>?_
 refine Zb h λ_ g h=>Za (Zsd g)<|yA ?_
 refine Zb h λ_ i h=>Za (QV i)<|yA ?_
 refine yB h (λ_ h=>?_) λ_ h=>?_
 obtain ⟨_,h⟩:=Zq h
 obtain ⟨_,j,h⟩:=ZE h
 try simp only[seval]at j
 obtain ⟨_,h⟩:=Zq h
 obtain ⟨_,k,h⟩:=ZE h
 try simp only[seval]at k
 simp only[*,go_sem,seval]
 refine Zb h λ_ l h=>Za (ZeW l)<|yA ?_
 refine yB h (λ_ h=>?_) λ_ h=>?_
 replace h:=Zn h a
 cases h;exact yD
 exact yR h [0]
 exact yR h [0]
 refine yB h (λ_ h=>?_) λ_ h=>?_
 obtain ⟨_,h⟩:=Zq h
 simp only[*,go_sem,seval]
 refine Ze h (λe h=>?_) (λe h=>?_)<;>(try simp only[seval]at e)<;>try simp only[*,go_sem,seval]
 refine Zb h λ_ m h=>Za (X8 m)<|yA ?_
 refine yB h (λ_ h=>?_) λ_ h=>?_
 iterate 2 (replace h:=Zn h a;cases h;simp only[*,go_sem,seval])
 refine Zb h λ_ o h=>Za (X8 o)<|yA ?_
 refine yB h (λ_ h=>?_) λ_ h=>?_
 iterate 2 (replace h:=Zn h a;cases h;simp only[*,go_sem,seval])
 refine Zb h λ_ q h=>Za (X8 q)<|yA ?_
 refine yB h (λ_ h=>?_) λ_ h=>?_
 iterate 2 (replace h:=Zn h a;cases h;simp only[*,go_sem,seval])
theorem Zo9 {s_0:ByteArray}{r:(Zw×Bool)}(h:Zbu s_0=some r):Sound prog J0 148 [(false,[.str s_0])] [(true,[(false,.int .i64 r.1.kind),(false,.str r.1.pattern.rel),(false,.sl 9 1 (A0 ZB r.1.pattern.args))]),(false,[(false,.bool r.2)])]:=by
 refine fnk func148 rfl ?_
 unfold Zbu at h
 have a:Z9 ⟨#[100,114,111,112]⟩=true:=by decide
 have b:Z9 ⟨#[115,116,111,112]⟩=true:=by decide
 have c:Z9 ⟨#[32]⟩=true:=by decide
 have d:Z9 ⟨#[97,100,100]⟩=true:=by decide
 simp only[fnS,f148,Zk,go_sem,seval,a,b,c,d]
 refine yB h (λ_ h=>?_) λ_ h=>?_
 cases h;exact yD
 refine Zb h λ_ e h=>Za (QV e)<|yA ?_
 refine yB h (λ_ h=>?_) λ_ h=>?_
 cases h;exact yD
 obtain ⟨_,h⟩:=Zq h
 obtain ⟨_,f,h⟩:=ZE h
 try simp only[seval]at f
 simp only[*,go_sem,seval]
 refine yB h (λ_ h=>?_) λ_ h=>?_
 obtain ⟨_,h⟩:=Zq h
 obtain ⟨_,g,h⟩:=ZE h
 try simp only[seval]at g
 simp only[*,go_sem,seval]
 refine Zb h λ_ i h=>Za (X8 i) ?_
 cases h;exact yD
 refine yB h (λ_ h=>?_) λ_ h=>?_
 obtain ⟨_,h⟩:=Zq h
 obtain ⟨_,j,h⟩:=ZE h
 try simp only[seval]at j
 simp only[*,go_sem,seval]
 refine Zb h λ_ k h=>Za (X8 k) ?_
 iterate 2 (cases h;exact yD)
theorem ZgY {x_0:Zp}{r:Bool}(h:Zcc x_0=some r):Sound prog J0 193 [(true,ZO x_0)] [(false,[(false,.bool r)])]:=by
 refine fnk func193 rfl ?_
 unfold Zcc at h
 simp only[fnS,f193,Zk,go_sem,seval]
 refine Zb h λ_ a h=>Za (ZeW a)<|yA ?_
 refine yB h (λ_ h=>?_) λ_ h=>?_
 iterate 2 (cases h;exact yD)
theorem Zmv {append_0:Zp}{String_1:(List Zs)}{r:Bool}(h:Zdq append_0 String_1=some r):Sound prog J0 154 [(true,ZO append_0),(false,[.sl 194 2 (A0 ePair String_1)])] [(false,[(false,.bool r)])]:=by
 refine fnk func154 rfl ?_
 unfold Zdq at h
 simp only[fnS,f154,Zk,go_sem,seval]
 refine Zb h λ_ a h=>Za (ZtI a)<|yA ?_
 refine yB h (λ_ h=>?_) λ_ h=>?_
 refine Zb h λ_ b h=>Za (Zal b)<|yA ?_
 refine yB h (λ_ h=>?_) λ_ h=>?_
 refine Zb h λ_ c h=>Za (ZdJ c)<|yA ?_
 refine Zb h λ_ d h=>Za (ZdJ d)<|yA ?_
 iterate 3 refine yB h (λ_ h=>?_) λ_ h=>?_
 cases h;exact yD
 refine yB h (λ_ h=>?_) λ_ h=>?_
 cases h;exact yD
 refine Zb h λ_ e h=>Za (ZcU e)<|yA ?_
 refine Zb h λ_ f h=>Za (ZcU f)<|yA ?_
 iterate 2 refine yB h (λ_ h=>?_) λ_ h=>?_
 iterate 7 (cases h;exact yD)
theorem ZlM {append_0:Zf}{r:Bool}(h:ZfP append_0=some r):Sound prog J0 44 [(true,eRule append_0)] [(false,[(false,.bool r)])]:=by
 refine fnk func44 rfl ?_
 unfold ZfP at h
 simp only[fnS,f44,Zk,go_sem,seval]
 refine Zb h λ_ v h=>Za (Y5 v)<|yA ?_
 iterate 2 refine yB h (λ_ h=>?_) λ_ h=>?_
 iterate 5 (cases h;simp only[*,go_sem,seval];refine Ze h (λ_ h=>?_) λ_ h=>?_<;>try simp only[*,go_sem,seval])
 cases h;exact yD
 refine Zh h (λi _ st=>IV [(1,.bp 0 0),(49,yM (yY append_0.cond)),(50,yL append_0.cond.length),(51,yL i)] [zI 76 (eRule append_0)] st) [] [0] yF yD ?_ ?_
 rintro _ _ ⟨⟩ ⟨_,_,_⟩ _ a g w h b
 simp only[go_sem,seval,Zc]at g
 obtain ⟨⟨_,x,_,_⟩,_,hn⟩:=g
 subst hn
 have y:=WF.slotL w x (j:=0) rfl
 have:=Zz a
 have:=ZC a
 have:=Zj (ZA a) y
 simp only[*,go_sem,seval]
 refine Zb h λ_ z h=>Za (Zht z)<|yA ?_
 iterate 3 refine yB h (λ_ h=>?_) λ_ h=>?_
 replace h:=Zn h b
 cases h;exact yD
 refine Zb h λ_ A h=>Za (ZiW A)<|yA ?_
 refine yB h (λ_ h=>?_) λ_ h=>?_
 exact yR h [0]
 replace h:=Zn h b
 cases h;exact yD
 refine Zb h λ_ B h=>Za (ZiW B)<|yA ?_
 refine yB h (λ_ h=>?_) λ_ h=>?_
 refine ⟨_,[],[0],(A4 h).symm,yF,?_⟩
 iterate 2 (simp only[*,go_sem,seval];replace h:=Zn h b;cases h)
 simp only[*,go_sem,seval]
 rintro ⟨⟩ ⟨_,_,_⟩ k _ h
 simp only[go_sem,seval,Zc]at k
 obtain ⟨⟨_,_,_,_⟩,_,hn⟩:=k
 subst hn
 have:=Zx (append_0.cond.length)
 simp only[*,go_sem,seval]
 refine Zb h λl C h=>Za (Zem C)<|yA ?_
 refine Zh h (λi _ st=>IV [(1,.bp 0 0),(5,.p false [.row 1]),(81,yM (zA append_0.thn)),(82,yL append_0.thn.length),(83,yL i)] [zI 76 (eRule append_0),.row 9 1 (A0 ZB l) 2] st) [] [0,81] yF yD ?_ ?_
 rintro D _ ⟨⟩ ⟨_,_,_⟩ _ d m E h o
 simp only[go_sem,seval,Zc]at m
 obtain ⟨⟨_,_,F,_,_⟩,_,_,hn⟩:=m
 subst hn
 have G:=WF.slotL E F (j:=0) rfl
 have:=Zz d
 have:=ZC d
 have:=Zj (ZA d) G
 simp only[*,go_sem,seval]
 refine Zb h λ_ H h=>Za (ZoP H)<|yA ?_
 refine yB h (λ_ h=>?_) λ_ h=>?_
 refine Zb h λe I h=>Za (Zek I)<|yA ?_
 refine Zh h (λi _ st=>IV [(1,.bp 0 0),(5,.p false [.row 1]),(81,yM (zA append_0.thn)),(82,yL append_0.thn.length),(83,yL D),(93,.p false [.row 2]),(94,yL e.length),(95,yL i)] [zI 76 (eRule append_0),.row 9 1 (A0 ZB l) 2,.row 9 1 (A0 ZB e) 2] st) [] [0,1,178] yF yD ?_ ?_
 rintro _ _ ⟨⟩ ⟨_,_,_⟩ _ f q J h K
 simp only[go_sem,seval,Zc]at q
 obtain ⟨⟨_,_,_,_,_,_,_,_⟩,_,_,L,hn⟩:=q
 subst hn
 have M:=WF.rowL J L
 have:=Zz f
 have:=ZC f
 have:=Zj (ZA f) M
 simp only[*,go_sem,seval]
 refine Zb h λ_ N h=>Za (ZaS N)<|yA ?_
 refine yB h (λ_ h=>?_) λ_ h=>?_
 exact yR h [0,1,2]
 replace h:=Zn h K
 replace h:=Zn h o
 cases h;exact yD
 rintro ⟨⟩ ⟨_,_,_⟩ t _ h
 simp only[go_sem,seval,Zc]at t
 obtain ⟨⟨_,_,_,_,_,_,_,_⟩,_,_,_,hn⟩:=t
 subst hn
 have:=Zx (e.length)
 simp only[*,go_sem,seval]
 exact yR h [0,1]
 replace h:=Zn h o
 cases h;exact yD
 rintro ⟨⟩ ⟨_,_,_⟩ u _ h
 simp only[go_sem,seval,Zc]at u
 obtain ⟨⟨_,_,_,_,_⟩,_,_,hn⟩:=u
 subst hn
 have:=Zx (append_0.thn.length)
 simp only[*,go_sem,seval]
 refine Zb h λ_ O h=>Za (Zl8 O)<|yA ?_
 refine Zb h λ_ P h=>Za (QE P) ?_
 iterate 2 (cases h;exact yD)
theorem Zd3 {p_0:Zv}{b_1:(List Zs)}{facts_2:(List Zd)}{r:(List Zd)}(h:X1 p_0 b_1 facts_2=some r):Sound prog J0 210 [(true,Q4 p_0),(false,[.sl 194 2 (A0 ePair b_1)]),(false,[.sl 40 2 (A0 eFact facts_2)])] [(false,[(false,.sl 40 2 (A0 eFact r))])]:=by
 refine fnk func210 rfl ?_
 unfold X1 at h
 simp only[fnS,f210,Zk,go_sem,seval]
 refine Zh h (λi a st=>IV [(1,yM (yZ b_1)),(2,yM (yU facts_2)),(3,.bp 0 0),(7,.p false [.row 1]),(8,yL i)] [.box 113 [.c (.str p_0.rel),.c (yV p_0.args)],.row 40 2 (A0 eFact a) 2] st) [] [0,32] yF yD ?_ ?_
 rintro _ _ a ⟨_,_,_⟩ _ b d f h _
 simp only[go_sem,seval,Zc]at d
 obtain ⟨⟨_,g,_,_,_⟩,_,_,hn⟩:=d
 subst hn
 have k:=WF.slotL f g (j:=0) rfl
 have:=Zz b
 have:=ZC b
 have:=Zj (ZA b) k
 simp only[*,go_sem,seval]
 refine Zb h λ_ l h=>Za (Zhl l)<|yA ?_
 refine yB h (λ_ h=>?_) λ_ h=>?_
 refine Zb h λ_ m h=>Za (Xw m) ?_
 obtain ⟨o,h⟩:=Zq h
 try simp only[Nat.reduceLeDiff]at o
 simp only[*,go_sem,seval]
 exact yR h [0,386]
 exact yR h [0,1]
 rintro a ⟨_,_,_⟩ e _ h
 simp only[go_sem,seval,Zc]at e
 obtain ⟨⟨_,_,_,_,_⟩,_,_,hn⟩:=e
 subst hn
 have:=Zx (facts_2.length)
 cases h;exact yD
theorem s_l14Reason_ok {append_0:Zf}{String_1:Int}{a_2:Zt}{a_3:(List Zd)}{r:Zg}(h:ZbJ append_0 String_1 a_2 a_3=some r):Sound prog J0 77 [(true,eRule append_0),(false,[.int .i64 String_1]),(true,eToken a_2),(false,[.sl 40 2 (A0 eFact a_3)])] [(true,[(false,.int .i64 r.for_),(false,.sl 3 1 (A0 ZH r.inn)),(false,.sl 3 1 (A0 ZH r.outs))])]:=by
 refine fnk func77 rfl ?_
 unfold ZbJ at h
 simp only[fnS,f77,Zk,go_sem,seval]
 obtain ⟨_,_,_,_,h⟩:=ZaV h
 simp only[*,go_sem,seval]
 refine Zb h λd g h=>Za (s_Instance_ok g)<|yA ?_
 refine Zh h (λi a st=>IV [(3,yM (yU a_3)),(4,.bp 0 0),(6,.bp 1 0),(8,.bp 2 0),(9,.bp 3 0),(11,.p false [.row 5]),(12,yL i)] [zI 76 (eRule append_0),zI 132 (eToken a_2),.box 125 [.c (.int .i64 0),.nil 3 1,.nil 3 1],.box 40 [.c (.str d.1.rel),.row 4],.row 9 1 (A0 ZB d.1.args) 2,.row 40 2 (A0 eFact a) 2] st) [] [0,16,32,240,176,288] yF yD ?_ ?_
 rintro _ _ a ⟨_,_,_⟩ _ b e k h _
 simp only[go_sem,seval,Zc]at e
 obtain ⟨⟨_,_,_,_,_,_,_⟩,l,_,_,_,_,_,hn⟩:=e
 subst hn
 have m:=WF.boxL k l (j:=2) rfl
 have:=Zz b
 have:=ZC b
 have:=Zj (ZA b) m
 simp only[*,go_sem,seval]
 refine yB h (λ_ h=>?_) λ_ h=>?_
 refine Zb h λ_ o h=>Za (s_Instance_ok o) ?_
 obtain ⟨q,h⟩:=Zq h
 try simp only[Nat.reduceLeDiff]at q
 simp only[*,go_sem,seval]
 exact yR h [0,1,2,3,4,486]
 exact yR h [0,1,2,3,4,5]
 rintro a ⟨_,_,_⟩ f _ h
 simp only[go_sem,seval,Zc]at f
 obtain ⟨⟨_,_,_,_,_,_,_⟩,_,_,_,_,_,_,hn⟩:=f
 subst hn
 have:=Zx (append_0.cond.length)
 simp only[*,go_sem,seval]
 refine Zb h λ_ t h=>Za (s_FindFact_ok t)<|yA ?_
 refine Zb h λ_ u h=>Za (ZiU u)<|yA ?_
 refine Zb h λ_ v h=>Za (ZiU v) ?_
 cases h;exact yD
theorem Zoy {b_0:Zu}{r:(List Bool)}(h:ZeN b_0=some r):Sound prog J0 42 [(true,QF b_0)] [(false,[(false,.sl 4 1 (A0 ZgK r))])]:=by
 refine fnk func42 rfl ?_
 unfold ZeN at h
 simp only[fnS,f42,Zk,go_sem,seval]
 refine Zb h λd g h=>Za (Zov g)<|yA ?_
 refine Zh h (λi a st=>IV [(3,.p false [.row 0]),(4,.p false [.row 1]),(5,yL i)] [.row 3 1 (A0 ZH d) 2,.row 4 1 (A0 ZgK a) 2] st) [] [48,80] yF yD ?_ ?_
 rintro _ _ a ⟨_,_,_⟩ _ b e j h _
 simp only[go_sem,seval,Zc]at e
 obtain ⟨⟨_,_,_⟩,k,_,hn⟩:=e
 subst hn
 have l:=WF.rowL j k
 have:=Zz b
 have:=ZC b
 have:=Zj (ZA b) l
 obtain ⟨m,h⟩:=Zq h
 try simp only[Nat.reduceLeDiff]at m
 simp only[*,go_sem,seval]
 exact yR h [0,178]
 rintro a ⟨_,_,_⟩ f _ h
 simp only[go_sem,seval,Zc]at f
 obtain ⟨⟨_,_,_⟩,_,_,hn⟩:=f
 subst hn
 have:=Zx (d.length)
 cases h;exact yD
theorem i_copyEngine_ok {append_0:Zo}{r:Zo}(h:QS append_0=some r):Sound prog J0 24 [(true,eEngine append_0)] [(true,[(false,.sl 76 4 (A0 eRule r.rules)),(false,.sl 64 3 (A0 eStamp r.memory)),(false,.int .i64 r.clock),(false,.sl 94 2 (A0 eFiring r.fired)),(false,.bool r.halted),(false,.sl 97 4 (A0 eEvent r.log))])]:=by
 refine fnk func24 rfl ?_
 unfold QS at h
 simp only[fnS,f24,Zk,go_sem,seval]
 refine Zb h λd v h=>Za (Zh3 v)<|yA ?_
 refine Zh h (λi a st=>IV [(1,.bp 0 0),(2,.bp 1 0),(3,.bp 2 0),(19,yM (zB append_0.memory)),(20,yL append_0.memory.length),(21,yL i)] [.box 34 [.c (yW append_0.rules),.c (zB append_0.memory),.c (.int .i64 append_0.clock),.c (zD append_0.fired),.c (.bool append_0.halted),.c (zE append_0.log)],.box 34 [.nil 76 4,.nil 64 3,.c (.int .i64 0),.nil 94 2,.c (.bool false),.nil 97 4],.box 34 [.row 3,.row 4,.c (.int .i64 append_0.clock),.nil 94 2,.c (.bool append_0.halted),.nil 97 4],.row 76 4 (A0 eRule d) 2,.row 64 3 (A0 eStamp a) 2] st) [(true,160,1)] [0,16,160,64,256] yF yD ?_ ?_
 rintro _ _ a ⟨_,_,_⟩ _ e l w h _
 simp only[go_sem,seval,Zc]at l
 obtain ⟨⟨_,_,_,x,_,_⟩,_,_,_,_,_,hn⟩:=l
 subst hn
 have y:=WF.slotL w x (j:=0) rfl
 have:=Zz e
 have:=ZC e
 have:=Zj (ZA e) y
 simp only[*,go_sem,seval]
 refine Zb h λ_ z h=>Za (Z7 z) ?_
 obtain ⟨A,h⟩:=Zq h
 try simp only[Nat.reduceLeDiff]at A
 simp only[*,go_sem,seval]
 exact yR h [0,1,2,3,229]
 rintro a ⟨_,_,_⟩ m _ h
 simp only[go_sem,seval,Zc]at m
 obtain ⟨⟨_,_,_,_,_,_⟩,_,_,_,_,_,hn⟩:=m
 subst hn
 have:=Zx (append_0.memory.length)
 simp only[*,go_sem,seval]
 refine Zh h (λi b st=>IV [(1,.bp 0 0),(2,.bp 1 0),(3,.bp 2 0),(38,yM (zD append_0.fired)),(39,yL append_0.fired.length),(40,yL i)] [.box 34 [.c (yW append_0.rules),.c (zB append_0.memory),.c (.int .i64 append_0.clock),.c (zD append_0.fired),.c (.bool append_0.halted),.c (zE append_0.log)],.box 34 [.nil 76 4,.nil 64 3,.c (.int .i64 0),.nil 94 2,.c (.bool false),.nil 97 4],.box 34 [.row 3,.row 4,.c (.int .i64 append_0.clock),.row 5,.c (.bool append_0.halted),.nil 97 4],.row 76 4 (A0 eRule d) 2,.row 64 3 (A0 eStamp a) 2,.row 94 2 (A0 eFiring b) 2] st) [(true,2,3)] [0,1,2,3,4,85] yF yD ?_ ?_
 rintro _ _ b ⟨_,_,_⟩ _ f o B h _
 simp only[go_sem,seval,Zc]at o
 obtain ⟨⟨_,_,_,C,_,_⟩,_,_,_,_,_,_,hn⟩:=o
 subst hn
 have D:=WF.slotL B C (j:=0) rfl
 have:=Zz f
 have:=ZC f
 have:=Zj (ZA f) D
 simp only[*,go_sem,seval]
 refine Zb h λ_ E h=>Za (i_copyInts_ok E) ?_
 obtain ⟨F,h⟩:=Zq h
 try simp only[Nat.reduceLeDiff]at F
 simp only[*,go_sem,seval]
 exact yR h [0,1,2,3,4,230]
 rintro b ⟨_,_,_⟩ q _ h
 simp only[go_sem,seval,Zc]at q
 obtain ⟨⟨_,_,_,_,_,_⟩,_,_,_,_,_,_,hn⟩:=q
 subst hn
 have:=Zx (append_0.fired.length)
 simp only[*,go_sem,seval]
 refine Zh h (λi g st=>IV [(2,.bp 0 0),(3,.bp 1 0),(57,yM (zE append_0.log)),(58,yL append_0.log.length),(59,yL i)] [.box 34 [.nil 76 4,.nil 64 3,.c (.int .i64 0),.nil 94 2,.c (.bool false),.nil 97 4],.box 34 [.row 2,.row 3,.c (.int .i64 append_0.clock),.row 4,.c (.bool append_0.halted),.row 5],.row 76 4 (A0 eRule d) 2,.row 64 3 (A0 eStamp a) 2,.row 94 2 (A0 eFiring b) 2,.row 97 4 (A0 eEvent g) 2] st) [(true,2,5)] [1,2,3,4,5,86] yF yD ?_ ?_
 rintro _ _ g ⟨_,_,_⟩ _ k t G h _
 simp only[go_sem,seval,Zc]at t
 obtain ⟨⟨_,_,H,_,_⟩,_,_,_,_,_,_,hn⟩:=t
 subst hn
 have I:=WF.slotL G H (j:=0) rfl
 have:=Zz k
 have:=ZC k
 have:=Zj (ZA k) I
 simp only[*,go_sem,seval]
 refine Zb h λ_ J h=>Za (Znk J) ?_
 obtain ⟨K,h⟩:=Zq h
 try simp only[Nat.reduceLeDiff]at K
 simp only[*,go_sem,seval]
 exact yR h [0,1,2,3,4,166]
 rintro g ⟨_,_,_⟩ u _ h
 simp only[go_sem,seval,Zc]at u
 obtain ⟨⟨_,_,_,_,_⟩,_,_,_,_,_,_,hn⟩:=u
 subst hn
 have:=Zx (append_0.log.length)
 cases h;exact yD
theorem Zjf {i_0:Int}{j_1:Int}{cap_2:(List ZF)}{r:Bool}(h:Zbh i_0 j_1 cap_2=some r):Sound prog J0 144 [(false,[.int .i64 i_0]),(false,[.int .i64 j_1]),(false,[.pt [.sl 112 7 (A0 eChoice cap_2)]])] [(false,[(false,.bool r)])]:=by
 refine fnk func144 rfl ?_
 unfold Zbh at h
 simp only[fnS,f144,Zk,go_sem,seval]
 obtain ⟨_,_,_,_,h⟩:=ZaV h
 obtain ⟨_,_,_,_,h⟩:=ZaV h
 simp only[*,go_sem,seval]
 refine Zb h λ_ a h=>Za (ZiF a) ?_
 cases h;exact yD
end
end Go.Proofs.YthjnneiibkknhaaGreatDoor
