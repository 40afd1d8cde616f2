/- Texts of this proof, joined: Dp13, Dp14, Tk, W0, Tw, Ed, Ea, Dp15, Dp16, Dp17, SoN, SoM, SoS, Sc. What each holds is said at its theorems. -/
import Derived.Test.YthjnneiibkknhaaGreatDoorEngineModelQ7
import Derived.Test.YthjnneiibkknhaaGreatDoorEngineModelQ8
import Derived.Test.YthjnneiibkknhaaGreatDoorEngineModelQ3
import Derived.Test.YthjnneiibkknhaaGreatDoorProg
import Derived.OwnWalk
import Derived.Outline
import Derived.WalkSpells
import Derived.StillTailTactics
import Derived.Deep.RegionHeld3
import Derived.Shelf.GgSortMore.Stable
import Derived.Lib.ReflectliteSwap
open Array renaming range→AD,length_toList→Aj,getElem?_toList→Av,getElem?_eq_getElem→Ax,getElem?_eq_some_iff→Ay,toList_range→Az
open List renaming map→A0,mem_append_right→A5,mem_append→A9,getElem?_eq_getElem→AA,mem_cons→AE,nodup_append→AF,mem_append_left→AG,range→AJ,getElem?_eq_some_iff→AK,nodup_cons→AL,mem_cons_of_mem→AN,not_mem_nil→AO,sublist_append_right→AP,append_assoc→AR,length_map→AS,flatMap_cons→AU,map_cons→AY,map_nil→AZ,mem_flatten→Aa,take_add_one→Ad,sublist_append_left→Ae,mem_of_getElem?→Ag,length_cons→Ah,filterMap_cons→Ai,length_append→Ak,flatten_cons→Al,getElem?_append_left→Am,getElem?_append_right→An,sublist_cons_self→Ap,drop_of_length_le→Aq,getElem?_map→Ar,ext_getElem→As,getElem?_take_of_lt→At,getElem?_drop→Au,getElem?_eq_none→Aw
open List.Sublist renaming refl→Ao
open Nat renaming le_refl→A6,zero_le→AB,le_trans→AC,lt_or_ge→AI,add_mul→AQ,le_succ→AT,add_sub_cancel→AW,lt_of_lt_of_le→Ab,zero_add→Ac
open Option renaming bind_some→AH,getD_some→AX
open Option.some renaming inj→A4
open Go.Proofs.Tryz
set_option linter.unusedSimpArgs false
set_option linter.unusedVariables false
set_option maxRecDepth 1000000
set_option maxHeartbeats 4000000
open Go.Lib renaming hid→yS
namespace Go.Proofs.YthjnneiibkknhaaGreatDoor
section
theorem Zh2 {append_0:Zf}{r:Bool}(h:Zc3 append_0=some r):Sound prog J0 149 [(true,eRule append_0)] [(false,[(false,.bool r)])]:=by
 refine fnk func149 rfl ?_
 unfold Zc3 at h
 simp only[fnS,f149,Zk,go_sem,seval]
 refine Zb h λ_ H h=>Za (ZhS H)<|yA ?_
 refine yB h (λ_ h=>?_) λ_ h=>?_
 refine Zb h λ_ I h=>Za (QD I)<|yA ?_
 refine yB h (λ_ h=>?_) λ_ h=>?_
 refine Zb h λ_ J h=>Za (QD J)<|yA ?_
 refine yB h (λ_ h=>?_) λ_ h=>?_
 refine Zb h λ_ K h=>Za (QD K)<|yA ?_
 refine yB h (λ_ h=>?_) λ_ h=>?_
 refine Zb h λe L h=>Za (Zca L)<|yA ?_
 refine Zh h (λi _ st=>IV [(1,.bp 0 0),(3,.p false [.row 1]),(4,yL i)] [zI 76 (eRule append_0),.row 9 1 (A0 ZB e) 2] st) [] [0,480] yF yD ?_ ?_
 rintro b a ⟨⟩ ⟨_,_,_⟩ _ f o M h d
 simp only[go_sem,seval,Zc]at o
 obtain ⟨⟨_,_,_⟩,N,_,hn⟩:=o
 subst hn
 have O:=WF.boxL M N (j:=2) rfl
 have:=Zz f
 have:=ZC f
 have:=Zj (ZA f) O
 simp only[*,go_sem,seval]
 refine Zb h λ_ P h=>Za (ZeW P)<|yA ?_
 iterate 3 refine yB h (λ_ h=>?_) λ_ h=>?_
 replace h:=Zn h d
 cases h;exact yD
 refine Zb h λQ R h=>Za (Zca R)<|yA ?_
 refine Zb h λq S h=>Za (Za7 S)<|yA ?_
 refine Zh h (λi _ st=>IV [(1,.bp 0 0),(3,.p false [.row 1]),(4,yL b),(5,.bp 2 0),(6,.p false [.row 3]),(7,.p false [.row 4]),(8,yL i),(58,yL b),(59,yM (.bool (((b:Nat):Int)==0))),(60,yM (.bool (((b:Nat):Int)==0))),(61,.bp 2 0),(62,yM (.int .i64 a.kind)),(63,yM (.bool (a.kind != 1))),(64,yM (.bool (a.kind != 1)))] [zI 76 (eRule append_0),.row 9 1 (A0 ZB e) 2,zI 134 (ZO a),.row 9 1 (A0 ZB Q) 2,.row 9 1 (A0 ZB q) 2] st) [] [0,1,162,418,466] yF yD ?_ ?_
 rintro _ _ ⟨⟩ ⟨_,_,_⟩ _ g t T h u
 simp only[go_sem,seval,Zc]at t
 obtain ⟨⟨_,_,_,_,_,_,_,_,_,_,_,_,_,_⟩,_,_,_,_,U,hn⟩:=t
 subst hn
 have V:=WF.rowL T U
 have:=Zz g
 have:=ZC g
 have:=Zj (ZA g) V
 simp only[*,go_sem,seval]
 refine Zb h λ_ W h=>Za (YK W)<|yA ?_
 refine Zb h λ_ X h=>Za (ZgY X)<|yA ?_
 iterate 3 refine yB h (λ_ h=>?_) λ_ h=>?_
 exact yR h [0,1,2,3,4]
 exact yR h [0,1,2,3,4]
 replace h:=Zn h u
 replace h:=Zn h d
 cases h;exact yD
 iterate 2 refine yB h (λ_ h=>?_) λ_ h=>?_
 exact yR h [0,1,2,3,4]
 refine Zb h λ_ Y h=>Za (ZfJ Y)<|yA ?_
 refine yB h (λ_ h=>?_) λ_ h=>?_
 replace h:=Zn h u
 replace h:=Zn h d
 cases h;exact yD
 exact yR h [0,1,2,3,4]
 exact yR h [0,1,2,3,4]
 rintro ⟨⟩ ⟨_,_,_⟩ v _ h
 simp only[go_sem,seval,Zc]at v
 obtain ⟨⟨_,_,_,_,_,_,_,_,_,_,_,_,_,_⟩,_,_,_,_,_,hn⟩:=v
 subst hn
 have:=Zx (q.length)
 simp only[*,go_sem,seval]
 exact yR h [0,1]
 refine Zb h λZ aa h=>Za (Zca aa)<|yA ?_
 refine Zb h λw ab h=>Za (Za7 ab)<|yA ?_
 refine Zh h (λi _ st=>IV [(1,.bp 0 0),(3,.p false [.row 1]),(4,yL b),(5,.bp 2 0),(6,.p false [.row 3]),(7,.p false [.row 4]),(8,yL i),(58,yL b),(59,yM (.bool (((b:Nat):Int)==0))),(60,yM (.bool (((b:Nat):Int)==0))),(64,yM (.bool false))] [zI 76 (eRule append_0),.row 9 1 (A0 ZB e) 2,zI 134 (ZO a),.row 9 1 (A0 ZB Z) 2,.row 9 1 (A0 ZB w) 2] st) [] [0,1,162,418,466] yF yD ?_ ?_
 rintro _ _ ⟨⟩ ⟨_,_,_⟩ _ k x ac h y
 simp only[go_sem,seval,Zc]at x
 obtain ⟨⟨_,_,_,_,_,_,_,_,_,_,_⟩,_,_,_,_,ad,hn⟩:=x
 subst hn
 have ae:=WF.rowL ac ad
 have:=Zz k
 have:=ZC k
 have:=Zj (ZA k) ae
 simp only[*,go_sem,seval]
 refine Zb h λ_ af h=>Za (YK af)<|yA ?_
 refine Zb h λ_ ag h=>Za (ZgY ag)<|yA ?_
 iterate 3 refine yB h (λ_ h=>?_) λ_ h=>?_
 exact yR h [0,1,2,3,4]
 exact yR h [0,1,2,3,4]
 replace h:=Zn h y
 replace h:=Zn h d
 cases h;exact yD
 iterate 2 refine yB h (λ_ h=>?_) λ_ h=>?_
 exact yR h [0,1,2,3,4]
 refine Zb h λ_ ah h=>Za (ZfJ ah)<|yA ?_
 refine yB h (λ_ h=>?_) λ_ h=>?_
 replace h:=Zn h y
 replace h:=Zn h d
 cases h;exact yD
 exact yR h [0,1,2,3,4]
 exact yR h [0,1,2,3,4]
 rintro ⟨⟩ ⟨_,_,_⟩ z _ h
 simp only[go_sem,seval,Zc]at z
 obtain ⟨⟨_,_,_,_,_,_,_,_,_,_,_⟩,_,_,_,_,_,hn⟩:=z
 subst hn
 have:=Zx (w.length)
 simp only[*,go_sem,seval]
 exact yR h [0,1]
 replace h:=Zn h d
 cases h;exact yD
 rintro ⟨⟩ ⟨_,_,_⟩ A _ h
 simp only[go_sem,seval,Zc]at A
 obtain ⟨⟨_,_,_⟩,_,_,hn⟩:=A
 subst hn
 have:=Zx (append_0.cond.length)
 simp only[*,go_sem,seval]
 refine Zh h (λi _ st=>IV [(1,.bp 0 0),(3,.p false [.row 1]),(10,yL i)] [zI 76 (eRule append_0),.row 9 1 (A0 ZB e) 2] st) [] [0,1] yF yD ?_ ?_
 rintro ai _ ⟨⟩ ⟨_,_,_⟩ _ l B aj h C
 simp only[go_sem,seval,Zc]at B
 obtain ⟨⟨_,_,_⟩,ak,_,hn⟩:=B
 subst hn
 have al:=WF.boxL aj ak (j:=3) rfl
 have:=Zz l
 have:=ZC l
 have:=Zj (ZA l) al
 simp only[*,go_sem,seval]
 refine Zb h λ_ am h=>Za (Zo0 am)<|yA ?_
 refine yB h (λ_ h=>?_) λ_ h=>?_
 refine Zb h λD an h=>Za (Zdl an)<|yA ?_
 refine Zh h (λi _ st=>IV [(1,.bp 0 0),(3,.p false [.row 1]),(10,yL ai),(11,.p false [.row 2]),(12,yL i)] [zI 76 (eRule append_0),.row 9 1 (A0 ZB e) 2,.row 9 1 (A0 ZB D) 2] st) [] [0,1,290] yF yD ?_ ?_
 rintro _ _ ⟨⟩ ⟨_,_,_⟩ _ m E ao h ap
 simp only[go_sem,seval,Zc]at E
 obtain ⟨⟨_,_,_,_,_⟩,_,_,aq,hn⟩:=E
 subst hn
 have ar:=WF.rowL ao aq
 have:=Zz m
 have:=ZC m
 have:=Zj (ZA m) ar
 simp only[*,go_sem,seval]
 refine Zb h λ_ au h=>Za (YK au)<|yA ?_
 refine yB h (λ_ h=>?_) λ_ h=>?_
 exact yR h [0,1,2]
 replace h:=Zn h ap
 replace h:=Zn h C
 cases h;exact yD
 rintro ⟨⟩ ⟨_,_,_⟩ F _ h
 simp only[go_sem,seval,Zc]at F
 obtain ⟨⟨_,_,_,_,_⟩,_,_,_,hn⟩:=F
 subst hn
 have:=Zx (D.length)
 simp only[*,go_sem,seval]
 exact yR h [0,1]
 replace h:=Zn h C
 cases h;exact yD
 rintro ⟨⟩ ⟨_,_,_⟩ G _ h
 simp only[go_sem,seval,Zc]at G
 obtain ⟨⟨_,_,_⟩,_,_,hn⟩:=G
 subst hn
 have:=Zx (append_0.thn.length)
 simp only[*,go_sem,seval]
 refine Zb h λ_ av h=>Za (Zop av) ?_
 iterate 5 (cases h;exact yD)
theorem ZnN {x_0:Zp}{b_1:(List Zs)}{facts_2:(List Zd)}{r:Bool}(h:ZcZ x_0 b_1 facts_2=some r):Sound prog J0 112 [(true,ZO x_0),(false,[.sl 194 2 (A0 ePair b_1)]),(false,[.sl 40 2 (A0 eFact facts_2)])] [(false,[(false,.bool r)])]:=by
 refine fnk func112 rfl ?_
 unfold ZcZ at h
 simp only[fnS,f112,Zk,go_sem,seval]
 refine Zb h λ_ a h=>Za (Zht a)<|yA ?_
 refine yB h (λ_ h=>?_) λ_ h=>?_
 refine Zb h λ_ b h=>Za (Zal b)<|yA ?_
 iterate 2 refine yB h (λ_ h=>?_) λ_ h=>?_
 refine Zb h λ_ c h=>Za (ZeM c) ?_
 cases h;exact yD
 refine yB h (λ_ h=>?_) λ_ h=>?_
 refine Zb h λ_ d h=>Za (ZeM d) ?_
 cases h;exact yD
 refine Zb h λ_ e h=>Za (Zmv e) ?_
 iterate 3 (cases h;exact yD)
theorem i_AreRules_ok {l_0:(List Zf)}{r:Bool}(h:Zau l_0=some r):Sound prog J0 22 [(false,[.sl 76 4 (A0 eRule l_0)])] [(false,[(false,.bool r)])]:=by
 refine fnk func22 rfl ?_
 unfold Zau at h
 simp only[fnS,f22,Zk,go_sem,seval]
 refine yB h (λ_ h=>?_) λ_ h=>?_
 cases h;exact yD
 refine Zh h (λi _ st=>IV [(0,yM (yW l_0)),(8,yM (yW l_0)),(9,yL l_0.length),(10,yL i)] [] st) [] [] yF yD ?_ ?_
 rintro _ _ ⟨⟩ ⟨_,_,_⟩ _ a b f h d
 simp only[go_sem,seval,Zc]at b
 obtain ⟨⟨g,_,_,_⟩,hn⟩:=b
 subst hn
 have k:=WF.slotL f g (j:=0) rfl
 have:=Zz a
 have:=ZC a
 have:=Zj (ZA a) k
 simp only[*,go_sem,seval]
 refine Zb h λ_ l h=>Za (ZlM l)<|yA ?_
 refine yB h (λ_ h=>?_) λ_ h=>?_
 refine Zb h λ_ m h=>Za (Zfe m)<|yA ?_
 refine yB h (λ_ h=>?_) λ_ h=>?_
 replace h:=Zn h d
 cases h;exact yD
 exact yR h []
 replace h:=Zn h d
 cases h;exact yD
 rintro ⟨⟩ ⟨_,_,_⟩ e _ h
 simp only[go_sem,seval,Zc]at e
 obtain ⟨⟨_,_,_,_⟩,hn⟩:=e
 subst hn
 have:=Zx (l_0.length)
 cases h;exact yD
theorem ZnD {r_0:Zf}{r:Bool}(h:Zc7 r_0=some r):Sound prog J0 150 [(true,eRule r_0)] [(false,[(false,.bool r)])]:=by
 refine fnk func150 rfl ?_
 unfold Zc7 at h
 simp only[fnS,f150,Zk,go_sem,seval]
 refine Zb h λ_ l h=>Za (ZlM l)<|yA ?_
 refine yB h (λ_ h=>?_) λ_ h=>?_
 refine Zb h λ_ m h=>Za (Zpb m)<|yA ?_
 refine yB h (λ_ h=>?_) λ_ h=>?_
 refine Zh h (λi _ st=>IV [(1,.bp 0 0),(17,yM (yY r_0.cond)),(18,yL r_0.cond.length),(19,yL i)] [zI 76 (eRule r_0)] st) [] [0] yF yD ?_ ?_
 rintro o _ ⟨⟩ ⟨_,_,_⟩ _ a e q h t
 simp only[go_sem,seval,Zc]at e
 obtain ⟨⟨_,u,_,_⟩,_,hn⟩:=e
 subst hn
 have v:=WF.slotL q u (j:=0) rfl
 have:=Zz a
 have:=ZC a
 have:=Zj (ZA a) v
 simp only[*,go_sem,seval]
 refine yB h (λ_ h=>?_) λ_ h=>?_
 exact yR h [0]
 refine Zb h λw x h=>Za (Zem x)<|yA ?_
 refine Zb h λb y h=>Za (ZcI y)<|yA ?_
 refine Zh h (λi _ st=>IV [(1,.bp 0 0),(5,.p false [.row 1]),(17,yM (yY r_0.cond)),(18,yL r_0.cond.length),(19,yL o),(31,.p false [.row 2]),(32,yL b.length),(33,yL i)] [zI 76 (eRule r_0),.row 9 1 (A0 ZB w) 2,.row 9 1 (A0 ZB b) 2] st) [] [0,193,241] yF yD ?_ ?_
 rintro _ _ ⟨⟩ ⟨_,_,_⟩ _ d f z h A
 simp only[go_sem,seval,Zc]at f
 obtain ⟨⟨_,_,_,_,_,_,_,_⟩,_,_,B,hn⟩:=f
 subst hn
 have C:=WF.rowL z B
 have:=Zz d
 have:=ZC d
 have:=Zj (ZA d) C
 simp only[*,go_sem,seval]
 refine Zb h λ_ D h=>Za (ZaS D)<|yA ?_
 refine yB h (λ_ h=>?_) λ_ h=>?_
 exact yR h [0,1,2]
 replace h:=Zn h A
 replace h:=Zn h t
 cases h;exact yD
 rintro ⟨⟩ ⟨_,_,_⟩ g _ h
 simp only[go_sem,seval,Zc]at g
 obtain ⟨⟨_,_,_,_,_,_,_,_⟩,_,_,_,hn⟩:=g
 subst hn
 have:=Zx (b.length)
 simp only[*,go_sem,seval]
 exact yR h [0]
 rintro ⟨⟩ ⟨_,_,_⟩ k _ h
 simp only[go_sem,seval,Zc]at k
 obtain ⟨⟨_,_,_,_⟩,_,hn⟩:=k
 subst hn
 have:=Zx (r_0.cond.length)
 iterate 3 (cases h;exact yD)
theorem Zm9 {x_0:Zp}{b_1:(List Zs)}{r:Bool}(h:Zc5 x_0 b_1=some r):Sound prog J0 211 [(true,ZO x_0),(false,[.sl 194 2 (A0 ePair b_1)])] [(false,[(false,.bool r)])]:=by
 refine fnk func211 rfl ?_
 unfold Zc5 at h
 simp only[fnS,f211,Zk,go_sem,seval]
 refine Zb h λ_ a h=>Za (ZgY a)<|yA ?_
 refine yB h (λ_ h=>?_) λ_ h=>?_
 refine Zb h λ_ b h=>Za (Zas b)<|yA ?_
 refine yB h (λ_ h=>?_) λ_ h=>?_
 refine Zb h λ_ c h=>Za (ZdM c)<|yA ?_
 refine Zb h λ_ d h=>Za (ZdM d)<|yA ?_
 iterate 3 refine yB h (λ_ h=>?_) λ_ h=>?_
 cases h;exact yD
 refine yB h (λ_ h=>?_) λ_ h=>?_
 cases h;exact yD
 refine Zb h λ_ e h=>Za (ZiG e)<|yA ?_
 refine yB h (λ_ h=>?_) λ_ h=>?_
 refine Zb h λ_ f h=>Za (ZiG f)<|yA ?_
 refine yB h (λ_ h=>?_) λ_ h=>?_
 refine Zb h λ_ g h=>Za (Zfc g) ?_
 iterate 7 (cases h;exact yD)
theorem s_l14In_ok {l_0:(List Zd)}{b_1:Zu}{r:(List Zd)}(h:ZkH l_0 b_1=some r):Sound prog J0 21 [(false,[.sl 40 2 (A0 eFact l_0)]),(true,QF b_1)] [(false,[(false,.sl 40 2 (A0 eFact r))])]:=by
 refine fnk func21 rfl ?_
 unfold ZkH at h
 simp only[fnS,f21,Zk,go_sem,seval]
 refine Zb h λf g h=>Za (Zoy g)<|yA ?_
 refine Zh h (λi a st=>IV [(0,yM (yU l_0)),(5,.p false [.row 0]),(6,.p false [.row 1]),(7,yL i)] [.row 40 2 (A0 eFact a) 2,.row 4 1 (A0 ZgK f) 2] st) [] [32,80] yF yD ?_ ?_
 rintro _ _ a ⟨_,_,_⟩ _ b d k h l
 simp only[go_sem,seval,Zc]at d
 obtain ⟨⟨m,_,_,_⟩,_,_,hn⟩:=d
 subst hn
 have o:=WF.slotL k m (j:=0) rfl
 have:=Zz b
 have:=ZC b
 have:=Zj (ZA b) o
 simp only[*,go_sem,seval]
 refine yB h (λ_ h=>?_) λ_ h=>?_
 obtain ⟨_,h⟩:=Zq h
 obtain ⟨_,_,h⟩:=ZE h
 simp only[*,go_sem,seval]
 refine yB h (λ_ h=>?_) λ_ h=>?_
 refine Zb h λ_ q h=>Za (Xw q) ?_
 obtain ⟨t,h⟩:=Zq h
 try simp only[Nat.reduceLeDiff]at t
 simp only[*,go_sem,seval]
 exact yR h [338,1]
 exact yR h [0,1]
 replace h:=Zn h l
 cases h;exact yD
 rintro a ⟨_,_,_⟩ e _ h
 simp only[go_sem,seval,Zc]at e
 obtain ⟨⟨_,_,_,_⟩,_,_,hn⟩:=e
 subst hn
 have:=Zx (l_0.length)
 cases h;exact yD
end
section
theorem Zrc {append_0:Zf}{String_1:ByteArray}{a_2:ByteArray}{r:(Zf×Bool)}(h:Zfz append_0 String_1 a_2=some r):Sound prog J0 106 [(true,[.str append_0.name,.int .i64 append_0.priority,.nl 134 5,.nl 115 3]),(false,[.str String_1]),(false,[.str a_2])] [(true,[(false,.str r.1.name),(false,.int .i64 r.1.priority),(false,.sl 134 5 (A0 ZO r.1.cond)),(false,.sl 115 3 (A0 eAction r.1.thn))]),(false,[(false,.bool r.2)])]:=by
 refine fnk func106 rfl ?_
 unfold Zfz at h
 have o:Z9 ⟨#[32,38,32]⟩=true:=by decide
 simp only[fnS,f106,Zk,go_sem,seval,o]
 refine Zb h λf q h=>Za (QV q)<|yA ?_
 refine Zh h (λi a st=>IV [(2,yM (.str a_2)),(3,.bp 0 0),(6,.bp 2 0),(8,.p false [.row 3]),(9,yL i)] [.box 76 [.c (.str append_0.name),.c (.int .i64 append_0.priority),.row 1,.nil 115 3],.row 134 5 (A0 ZO a) 2,.box 76 [.c (.str ⟨#[]⟩),.c (.int .i64 0),.nil 134 5,.nil 115 3],.row 9 1 (A0 ZB f) 2] st) [(true,0,2)] [0,112,16,64] yF yD ?_ ?_
 rintro _ _ a ⟨_,_,_⟩ _ b g t h u
 simp only[go_sem,seval,Zc]at g
 obtain ⟨⟨_,_,_,_,_⟩,_,_,_,v,hn⟩:=g
 subst hn
 have w:=WF.rowL t v
 have:=Zz b
 have:=ZC b
 have:=Zj (ZA b) w
 simp only[*,go_sem,seval]
 refine Zb h λ_ x h=>Za (Zms x)<|yA ?_
 refine yB h (λ_ h=>?_) λ_ h=>?_
 obtain ⟨y,h⟩:=Zq h
 try simp only[Nat.reduceLeDiff]at y
 simp only[*,go_sem,seval]
 exact yR h [0,340,2,3]
 replace h:=Zn h u
 cases h;exact yD
 rintro a ⟨_,_,_⟩ j _ h
 simp only[go_sem,seval,Zc]at j
 obtain ⟨⟨_,_,_,_,_⟩,_,_,_,_,hn⟩:=j
 subst hn
 have:=Zx (f.length)
 simp only[*,go_sem,seval]
 refine Zb h λk z h=>Za (QV z)<|yA ?_
 refine Zh h (λi d st=>IV [(3,.bp 0 0),(6,.bp 3 0),(12,.p false [.row 4]),(13,yL i)] [.box 76 [.c (.str append_0.name),.c (.int .i64 append_0.priority),.row 1,.row 2],.row 134 5 (A0 ZO a) 2,.row 115 3 (A0 eAction d) 2,.box 76 [.c (.str ⟨#[]⟩),.c (.int .i64 0),.nil 134 5,.nil 115 3],.row 9 1 (A0 ZB k) 2] st) [(true,0,3)] [0,1,132,2,84] yF yD ?_ ?_
 rintro _ _ d ⟨_,_,_⟩ _ e l A h B
 simp only[go_sem,seval,Zc]at l
 obtain ⟨⟨_,_,_,_⟩,_,_,_,_,C,hn⟩:=l
 subst hn
 have D:=WF.rowL A C
 have:=Zz e
 have:=ZC e
 have:=Zj (ZA e) D
 simp only[*,go_sem,seval]
 refine Zb h λ_ E h=>Za (Zo9 E)<|yA ?_
 refine yB h (λ_ h=>?_) λ_ h=>?_
 obtain ⟨F,h⟩:=Zq h
 try simp only[Nat.reduceLeDiff]at F
 simp only[*,go_sem,seval]
 exact yR h [0,1,341,3,4]
 replace h:=Zn h B
 cases h;exact yD
 rintro d ⟨_,_,_⟩ m _ h
 simp only[go_sem,seval,Zc]at m
 obtain ⟨⟨_,_,_,_⟩,_,_,_,_,_,hn⟩:=m
 subst hn
 have:=Zx (k.length)
 simp only[*,go_sem,seval]
 refine Zb h λ_ G h=>Za (Zh2 G) ?_
 cases h;exact yD
theorem Zfi {append_0:(List Zp)}{String_1:(List Zd)}{r:(List Zt)}(h:Zap append_0 String_1=some r):Sound prog J0 69 [(false,[.sl 134 5 (A0 ZO append_0)]),(false,[.sl 40 2 (A0 eFact String_1)])] [(false,[(true,.sl 132 2 (A0 eToken r))])]:=by
 refine fnk func69 rfl ?_
 unfold Zap at h
 simp only[fnS,f69,Zk,go_sem,seval]
 refine Zh h (λi b st=>IV [(1,yM (yU String_1)),(5,.p false [.row 0]),(17,yM (yY append_0)),(18,yL append_0.length),(19,yL i)] [.row 132 2 (A0 eToken b) 1] st) [(true,32,1)] [32] yF yD ?_ ?_
 rintro l a b ⟨_,_,_⟩ _ d m x h _
 simp only[go_sem,seval,Zc]at m
 obtain ⟨⟨_,_,y,_,_⟩,_,hn⟩:=m
 subst hn
 have z:=WF.slotL x y (j:=0) rfl
 have:=Zz d
 have:=ZC d
 have:=Zj (ZA d) z
 simp only[*,go_sem,seval]
 refine Zh h (λi e st=>IV [(1,yM (yU String_1)),(7,.bp 0 0),(8,.p false [.row 1]),(17,yM (yY append_0)),(18,yL append_0.length),(19,yL l),(23,.p false [.row 2]),(24,yL b.length),(25,yL i)] [zI 134 (ZO a),.row 132 2 (A0 eToken e) 1,.row 132 2 (A0 eToken b) 1] st) [(false,8,0),(true,145,1)] [49,145,0] yF yD ?_ ?_
 rintro A o e ⟨_,_,_⟩ _ f q B h _
 simp only[go_sem,seval,Zc]at q
 obtain ⟨⟨_,_,_,_,_,_,_,_,_⟩,_,_,C,hn⟩:=q
 subst hn
 have D:=WF.rowL B C
 have:=Zz f
 have:=ZC f
 have:=Zj (ZA f) D
 simp only[*,go_sem,seval]
 refine yB h (λ_ h=>?_) λ_ h=>?_
 refine Zb h λ_ E h=>Za (ZnN E)<|yA ?_
 refine yB h (λ_ h=>?_) λ_ h=>?_
 obtain ⟨F,h⟩:=Zq h
 try simp only[Nat.reduceLeDiff]at F
 simp only[*,go_sem,seval]
 exact yR h [0,259,2]
 exact yR h [0,1,2]
 refine Zh h (λi g st=>IV [(1,yM (yU String_1)),(7,.bp 0 0),(8,.p false [.row 1]),(10,.bp 2 0),(17,yM (yY append_0)),(18,yL append_0.length),(19,yL l),(23,.p false [.row 3]),(24,yL b.length),(25,yL A),(41,yM (yU String_1)),(42,yL String_1.length),(43,yL i)] [zI 134 (ZO a),.row 132 2 (A0 eToken g) 1,zI 132 (eToken o),.row 132 2 (A0 eToken b) 1] st) [] [0,1,51,2] yF yD ?_ ?_
 rintro _ _ g ⟨_,_,_⟩ _ k t G h _
 simp only[go_sem,seval,Zc]at t
 obtain ⟨⟨H,_,_,_,_,_,_,_,_,_,_,_,_⟩,_,_,_,_,hn⟩:=t
 subst hn
 have I:=WF.slotL G H (j:=0) rfl
 have:=Zz k
 have:=ZC k
 have:=Zj (ZA k) I
 simp only[*,go_sem,seval]
 refine Zb h λ_ J h=>Za (ZgZ J)<|yA ?_
 refine yB h (λ_ h=>?_) λ_ h=>?_
 refine Zb h λ_ K h=>Za (Zey K)<|yA ?_
 refine Zb h λ_ L h=>Za (Z7 L) ?_
 obtain ⟨M,h⟩:=Zq h
 try simp only[Nat.reduceLeDiff]at M
 obtain ⟨N,h⟩:=Zq h
 try simp only[Nat.reduceLeDiff]at N
 simp only[*,go_sem,seval]
 exact yR h [0,452,2,3]
 exact yR h [0,1,2,3]
 rintro g ⟨_,_,_⟩ u _ h
 simp only[go_sem,seval,Zc]at u
 obtain ⟨⟨_,_,_,_,_,_,_,_,_,_,_,_,_⟩,_,_,_,_,hn⟩:=u
 subst hn
 have:=Zx (String_1.length)
 simp only[*,go_sem,seval]
 exact yR h [0,1,3]
 rintro e ⟨_,_,_⟩ v _ h
 simp only[go_sem,seval,Zc]at v
 obtain ⟨⟨_,_,_,_,_,_,_,_,_⟩,_,_,_,hn⟩:=v
 subst hn
 have:=Zx (b.length)
 simp only[*,go_sem,seval]
 exact yR h [1]
 rintro b ⟨_,_,_⟩ w _ h
 simp only[go_sem,seval,Zc]at w
 obtain ⟨⟨_,_,_,_,_⟩,_,hn⟩:=w
 subst hn
 have:=Zx (append_0.length)
 cases h;exact yD
theorem Zmc {rules_0:(List Zf)}{r:Bool}(h:Zb4 rules_0=some r):Sound prog J0 109 [(false,[.sl 76 4 (A0 eRule rules_0)])] [(false,[(false,.bool r)])]:=by
 refine fnk func109 rfl ?_
 unfold Zb4 at h
 simp only[fnS,f109,Zk,go_sem,seval]
 refine Zb h λ_ y h=>Za (i_AreRules_ok y)<|yA ?_
 refine yB h (λ_ h=>?_) λ_ h=>?_
 refine Zh h (λi _ st=>IV [(0,yM (yW rules_0)),(13,yM (yW rules_0)),(14,yL rules_0.length),(15,yL i)] [] st) [] [] yF yD ?_ ?_
 rintro l a ⟨⟩ ⟨_,_,_⟩ _ d m z h e
 simp only[go_sem,seval,Zc]at m
 obtain ⟨⟨A,_,_,_⟩,hn⟩:=m
 subst hn
 have B:=WF.slotL z A (j:=0) rfl
 have:=Zz d
 have:=ZC d
 have:=Zj (ZA d) B
 simp only[*,go_sem,seval]
 refine Zb h λ_ C h=>Za (ZnD C)<|yA ?_
 refine yB h (λ_ h=>?_) λ_ h=>?_
 refine Zh h (λi _ st=>IV [(0,yM (yW rules_0)),(4,.bp 0 0),(13,yM (yW rules_0)),(14,yL rules_0.length),(15,yL l),(23,yM (yY a.cond)),(24,yL a.cond.length),(25,yL i)] [zI 76 (eRule a)] st) [] [48] yF yD ?_ ?_
 rintro D b ⟨⟩ ⟨_,_,_⟩ _ f o E h q
 simp only[go_sem,seval,Zc]at o
 obtain ⟨⟨_,_,_,_,_,F,_,_⟩,_,hn⟩:=o
 subst hn
 have G:=WF.slotL E F (j:=0) rfl
 have:=Zz f
 have:=ZC f
 have:=Zj (ZA f) G
 simp only[*,go_sem,seval]
 refine yB h (λ_ h=>?_) λ_ h=>?_
 exact yR h [0]
 obtain ⟨H,I,h⟩:=ZE h
 refine ZDp (Zo5 I)<|yA ?_
 refine Zb h λg J h=>Za (ZiP J)<|yA ?_
 refine Zh h (λi _ st=>IV [(0,yM (yW rules_0)),(4,.bp 0 0),(6,.bp 1 0),(7,.p false [.row 2]),(13,yM (yW rules_0)),(14,yL rules_0.length),(15,yL l),(23,yM (yY a.cond)),(24,yL a.cond.length),(25,yL D),(38,.p false [.row 3]),(39,yL g.length),(40,yL i)] [zI 76 (eRule a),zI 134 (ZO b),.map .str .bool (A0 eSB H),.row 9 1 (A0 ZB g) 2] st) [] [0,49,193,241] yF yD ?_ ?_
 rintro _ _ ⟨⟩ ⟨_,_,_⟩ _ k t K h u
 simp only[go_sem,seval,Zc]at t
 obtain ⟨⟨_,_,_,_,_,_,_,_,_,_,_,_,_⟩,_,_,_,L,hn⟩:=t
 subst hn
 have M:=WF.rowL K L
 have:=Zz k
 have:=ZC k
 have:=Zj (ZA k) M
 simp only[*,go_sem,seval]
 refine yB h (λ_ h=>?_) λ_ h=>?_
 replace h:=Zn h u
 replace h:=Zn h q
 replace h:=Zn h e
 cases h;exact yD
 refine yB h (λ_ h=>?_) λ_ h=>?_
 replace h:=Zn h u
 replace h:=Zn h q
 replace h:=Zn h e
 cases h;exact yD
 exact yR h [0,1,2,3]
 rintro ⟨⟩ ⟨_,_,_⟩ v _ h
 simp only[go_sem,seval,Zc]at v
 obtain ⟨⟨_,_,_,_,_,_,_,_,_,_,_,_,_⟩,_,_,_,_,hn⟩:=v
 subst hn
 have:=Zx (g.length)
 simp only[*,go_sem,seval]
 exact yR h [0]
 rintro ⟨⟩ ⟨_,_,_⟩ w _ h
 simp only[go_sem,seval,Zc]at w
 obtain ⟨⟨_,_,_,_,_,_,_,_⟩,_,hn⟩:=w
 subst hn
 have:=Zx (a.cond.length)
 simp only[*,go_sem,seval]
 exact yR h []
 replace h:=Zn h e
 cases h;exact yD
 rintro ⟨⟩ ⟨_,_,_⟩ x _ h
 simp only[go_sem,seval,Zc]at x
 obtain ⟨⟨_,_,_,_⟩,hn⟩:=x
 subst hn
 have:=Zx (rules_0.length)
 iterate 2 (cases h;exact yD)
theorem Znz {x_0:Zp}{b_1:(List Zs)}{facts_2:(List Zd)}{r:Bool}(h:Zdr x_0 b_1 facts_2=some r):Sound prog J0 166 [(true,ZO x_0),(false,[.sl 194 2 (A0 ePair b_1)]),(false,[.sl 40 2 (A0 eFact facts_2)])] [(false,[(false,.bool r)])]:=by
 refine fnk func166 rfl ?_
 unfold Zdr at h
 simp only[fnS,f166,Zk,go_sem,seval]
 refine Zb h λ_ a h=>Za (ZeW a)<|yA ?_
 refine yB h (λ_ h=>?_) λ_ h=>?_
 refine Zb h λ_ b h=>Za (Zas b)<|yA ?_
 iterate 2 refine yB h (λ_ h=>?_) λ_ h=>?_
 refine Zb h λ_ c h=>Za (Zd3 c) ?_
 cases h;exact yD
 refine yB h (λ_ h=>?_) λ_ h=>?_
 refine Zb h λ_ d h=>Za (Zd3 d) ?_
 cases h;exact yD
 refine Zb h λ_ e h=>Za (Zm9 e) ?_
 iterate 3 (cases h;exact yD)
theorem ZmR {r_0:Zf}{r:Bool}(h:Zc4 r_0=some r):Sound prog J0 158 [(true,eRule r_0)] [(false,[(false,.bool r)])]:=by
 refine fnk func158 rfl ?_
 unfold Zc4 at h
 simp only[fnS,f158,Zk,go_sem,seval]
 refine Zb h λ_ k h=>Za (Zh2 k)<|yA ?_
 refine yB h (λ_ h=>?_) λ_ h=>?_
 refine Zh h (λi _ st=>IV [(1,.bp 0 0),(3,yL i)] [zI 76 (eRule r_0)] st) [] [0] yF yD ?_ ?_
 rintro _ _ ⟨⟩ ⟨_,_,_⟩ _ a d l h m
 simp only[go_sem,seval,Zc]at d
 obtain ⟨⟨_,_⟩,o,hn⟩:=d
 subst hn
 have q:=WF.boxL l o (j:=2) rfl
 have:=Zz a
 have:=ZC a
 have:=Zj (ZA a) q
 simp only[*,go_sem,seval]
 refine yB h (λ_ h=>?_) λ_ h=>?_
 refine Zb h λ_ t h=>Za (Za7 t)<|yA ?_
 refine Zb h λ_ u h=>Za (Zca u)<|yA ?_
 refine Zb h λ_ v h=>Za (Zpc v)<|yA ?_
 refine yB h (λ_ h=>?_) λ_ h=>?_
 exact yR h [0]
 replace h:=Zn h m
 cases h;exact yD
 exact yR h [0]
 rintro ⟨⟩ ⟨_,_,_⟩ e _ h
 simp only[go_sem,seval,Zc]at e
 obtain ⟨⟨_,_⟩,_,hn⟩:=e
 subst hn
 have:=Zx (r_0.cond.length)
 simp only[*,go_sem,seval]
 refine Zh h (λi _ st=>IV [(1,.bp 0 0),(4,yL i)] [zI 76 (eRule r_0)] st) [] [0] yF yD ?_ ?_
 rintro _ _ ⟨⟩ ⟨_,_,_⟩ _ b f w h x
 simp only[go_sem,seval,Zc]at f
 obtain ⟨⟨_,_⟩,y,hn⟩:=f
 subst hn
 have z:=WF.boxL w y (j:=3) rfl
 have:=Zz b
 have:=ZC b
 have:=Zj (ZA b) z
 simp only[*,go_sem,seval]
 refine yB h (λ_ h=>?_) λ_ h=>?_
 replace h:=Zn h x
 cases h;exact yD
 exact yR h [0]
 rintro ⟨⟩ ⟨_,_,_⟩ g _ h
 simp only[go_sem,seval,Zc]at g
 obtain ⟨⟨_,_⟩,_,hn⟩:=g
 subst hn
 have:=Zx (r_0.thn.length)
 iterate 2 (cases h;exact yD)
theorem Zo4 {l_0:(List Zf)}{r:Bool}(h:ZeI l_0=some r):Sound prog J0 161 [(false,[.sl 76 4 (A0 eRule l_0)])] [(false,[(false,.bool r)])]:=by
 refine fnk func161 rfl ?_
 unfold ZeI at h
 simp only[fnS,f161,Zk,go_sem,seval]
 refine Zh h (λi _ st=>IV [(0,yM (yW l_0)),(3,yL i)] [] st) [] [] yF yD ?_ ?_
 rintro _ _ ⟨⟩ ⟨_,_,_⟩ _ a b f h d
 simp only[go_sem,seval,Zc]at b
 obtain ⟨⟨g,_⟩,hn⟩:=b
 subst hn
 have k:=WF.slotL f g (j:=0) rfl
 have:=Zz a
 have:=ZC a
 have:=Zj (ZA a) k
 simp only[*,go_sem,seval]
 refine Zb h λ_ l h=>Za (Zh2 l)<|yA ?_
 refine yB h (λ_ h=>?_) λ_ h=>?_
 refine Zb h λ_ m h=>Za (ZoO m)<|yA ?_
 refine yB h (λ_ h=>?_) λ_ h=>?_
 replace h:=Zn h d
 cases h;exact yD
 exact yR h []
 replace h:=Zn h d
 cases h;exact yD
 rintro ⟨⟩ ⟨_,_,_⟩ e _ h
 simp only[go_sem,seval,Zc]at e
 obtain ⟨⟨_,_⟩,hn⟩:=e
 subst hn
 have:=Zx (l_0.length)
 cases h;exact yD
theorem i_NewEngine_ok {rules_0:(List Zf)}{r:(Zo×Bool)}(h:Zdg rules_0=some r):Sound prog J0 8 [(false,[.sl 76 4 (A0 eRule rules_0)])] [(true,[(false,.sl 76 4 (A0 eRule r.1.rules)),(false,.sl 64 3 (A0 eStamp r.1.memory)),(false,.int .i64 r.1.clock),(false,.sl 94 2 (A0 eFiring r.1.fired)),(false,.bool r.1.halted),(false,.sl 97 4 (A0 eEvent r.1.log))]),(false,[(false,.bool r.2)])]:=by
 refine fnk func8 rfl ?_
 unfold Zdg at h
 simp only[fnS,f8,Zk,go_sem,seval]
 refine Zb h λ_ a h=>Za (i_AreRules_ok a)<|yA ?_
 refine yB h (λ_ h=>?_) λ_ h=>?_
 refine Zb h λ_ b h=>Za (Zh3 b) ?_
 iterate 2 (cases h;exact yD)
theorem i_IsEngine_ok {append_0:Zo}{r:Bool}(h:QX append_0=some r):Sound prog J0 25 [(true,eEngine append_0)] [(false,[(false,.bool r)])]:=by
 refine fnk func25 rfl ?_
 unfold QX at h
 simp only[fnS,f25,Zk,go_sem,seval]
 refine Zb h λ_ x h=>Za (i_AreRules_ok x)<|yA ?_
 refine yB h (λ_ h=>?_) λ_ h=>?_
 refine Zb h λ_ y h=>Za (i_IsMemory_ok y)<|yA ?_
 iterate 2 refine yB h (λ_ h=>?_) λ_ h=>?_
 iterate 3 (cases h;simp only[*,go_sem,seval];refine Ze h (λ_ h=>?_) λ_ h=>?_<;>try simp only[*,go_sem,seval])
 cases h;exact yD
 refine Zh h (λi _ st=>IV [(1,.bp 0 0),(43,yM (zB append_0.memory)),(44,yL append_0.memory.length),(45,yL i)] [.box 34 [.c (yW append_0.rules),.c (zB append_0.memory),.c (.int .i64 append_0.clock),.c (zD append_0.fired),.c (.bool append_0.halted),.c (zE append_0.log)]] st) [] [0] yF yD ?_ ?_
 rintro _ _ ⟨⟩ ⟨_,_,_⟩ _ a e z h A
 simp only[go_sem,seval,Zc]at e
 obtain ⟨⟨_,B,_,_⟩,_,hn⟩:=e
 subst hn
 have C:=WF.slotL z B (j:=0) rfl
 have:=Zz a
 have:=ZC a
 have:=Zj (ZA a) C
 simp only[*,go_sem,seval]
 refine yB h (λ_ h=>?_) λ_ h=>?_
 replace h:=Zn h A
 cases h;exact yD
 exact yR h [0]
 rintro ⟨⟩ ⟨_,_,_⟩ f _ h
 simp only[go_sem,seval,Zc]at f
 obtain ⟨⟨_,_,_,_⟩,_,hn⟩:=f
 subst hn
 have:=Zx (append_0.memory.length)
 simp only[*,go_sem,seval]
 refine Zh h (λi _ st=>IV [(1,.bp 0 0),(56,yM (zD append_0.fired)),(57,yL append_0.fired.length),(58,yL i)] [.box 34 [.c (yW append_0.rules),.c (zB append_0.memory),.c (.int .i64 append_0.clock),.c (zD append_0.fired),.c (.bool append_0.halted),.c (zE append_0.log)]] st) [] [0] yF yD ?_ ?_
 rintro g k ⟨⟩ ⟨_,_,_⟩ _ b l D h m
 simp only[go_sem,seval,Zc]at l
 obtain ⟨⟨_,E,_,_⟩,_,hn⟩:=l
 subst hn
 have F:=WF.slotL D E (j:=0) rfl
 have:=Zz b
 have:=ZC b
 have:=Zj (ZA b) F
 simp only[*,go_sem,seval]
 refine Zb h λ_ G h=>Za (ZlW G)<|yA ?_
 refine yB h (λ_ h=>?_) λ_ h=>?_
 refine Yr h (λo st=>IV [(1,.bp 0 0),(5,yL g),(6,.bp 1 0),(7,yM (.int .i64 o)),(56,yM (zD append_0.fired)),(57,yL append_0.fired.length),(58,yL g)] [.box 34 [.c (yW append_0.rules),.c (zB append_0.memory),.c (.int .i64 append_0.clock),.c (zD append_0.fired),.c (.bool append_0.halted),.c (zE append_0.log)],zI 94 (eFiring k)] st) [] [0,65] yF yD ?_
 rintro o ⟨_,_,_⟩ _ q _ h t
 simp only[go_sem,seval,Zc]at q
 obtain ⟨⟨_,_,_,_,_,_,_⟩,_,_,hn⟩:=q
 subst hn
 simp only[*,go_sem,seval]
 refine yB h (λ_ h=>?_) λ_ h=>?_
 obtain ⟨_,_,_,_,h⟩:=ZaV h
 simp only[*,go_sem,seval]
 refine Zb h λ_ H h=>Za (Zl4 H)<|yA ?_
 refine yB h (λ_ h=>?_) λ_ h=>?_
 replace h:=Zn h t
 replace h:=Zn h m
 cases h;exact yD
 exact yR h [0,1]
 replace h:=Zn h t
 exact yR h [0]
 replace h:=Zn h m
 cases h;exact yD
 rintro ⟨⟩ ⟨_,_,_⟩ u _ h
 simp only[go_sem,seval,Zc]at u
 obtain ⟨⟨_,_,_,_⟩,_,hn⟩:=u
 subst hn
 have:=Zx (append_0.fired.length)
 simp only[*,go_sem,seval]
 refine Zh h (λi _ st=>IV [(81,yM (zE append_0.log)),(82,yL append_0.log.length),(83,yL i)] [] st) [] [] yF yD ?_ ?_
 rintro _ _ ⟨⟩ ⟨_,_,_⟩ _ d v I h J
 simp only[go_sem,seval,Zc]at v
 obtain ⟨⟨K,_,_⟩,hn⟩:=v
 subst hn
 have L:=WF.slotL I K (j:=0) rfl
 have:=Zz d
 have:=ZC d
 have:=Zj (ZA d) L
 simp only[*,go_sem,seval]
 refine Zb h λ_ M h=>Za (ZrO M)<|yA ?_
 refine yB h (λ_ h=>?_) λ_ h=>?_
 exact yR h []
 replace h:=Zn h J
 cases h;exact yD
 rintro ⟨⟩ ⟨_,_,_⟩ w _ h
 simp only[go_sem,seval,Zc]at w
 obtain ⟨⟨_,_,_⟩,hn⟩:=w
 subst hn
 have:=Zx (append_0.log.length)
 iterate 3 (cases h;exact yD)
end
section
open Go.RowKit
section
variable {w w':World} {base:Nat} {e:TypeId} {size n:Nat} {v:Value} {xs:List Value}
theorem Zkq (h:w.ownsV base e size v n xs) (o:Obj):(w.alloc o).ownsV base e size v n xs:=XJ h (λb mb=>Below.heap_alloc w o b (ZjE h b mb))
theorem Zs7 (h:w.ownsV base e size v n xs):w.drew.ownsV base e size v n xs:=XJ h (λ_ _=>rfl)
theorem Zgh (h:w.ownsV base e size v n xs) (hb:Below w.heap.size w w'):w'.ownsV base e size v n xs:=XJ h (λb mb=>hb.block b (ZjE h b mb))
theorem ZAG (h:w.ownsV base e size v n xs):Own w base v.ownBlock.toList:=by
 rcases h.2 with ⟨h0,_⟩|⟨g,o,cap,a,hv,hg,hc,_⟩
 .subst h0;exact Own.nil w base
 .subst hv;exact ⟨by simp [Value.ownBlock],by simpa [Value.ownBlock]using hg,by simpa [Value.ownBlock]using ⟨a,e,hc⟩⟩
end
theorem ZsK {P:Program}{o:Oper}{a:Act}{K:Act->World->Prop}{Q:Exit->Act->World->Prop}{w0:World}(s x:Operand) (t:TypeId)
  (ho:o.op=.call { callee:=.builtin .append,args:=#[s,x],argTypes:=#[t,t] })
  (e:TypeId) (z:Value) (size c:Nat) (ht:P.underlying t=some (.slice e)) (hi:(P.info? e).map (λi=>(i.zero,i.size,i.bytes))=some (some z,size,c)) (A:z.cells.size=size) (B:0<size)
  (base:Nat) (v:Value) (n:Nat) (xs b:List Value) (hs:a.eval s=v) (hx:a.eval x=.slice (some ⟨w0.heap.size,0,none⟩) 1 1) (l:w0.ownsV base e size v n xs)
  (hl:b.length=size) (h1:∀u∈b,u.oneCell'=true) (h63:n+1<=9223372036854775807) (f:(n+1)*c<=140737488355328) (hbase:base<=w0.heap.size) (w2:World) (d:w2=w0.alloc (.cells b.toArray e)\/w2=(w0.alloc (.cells b.toArray e)).drew)
  (h:∀v' w',w'.ownsV base e size v' (n+1) (xs++b)->w0.grownBy w' v.ownBlock->(∀g,v'.ownBlock=some g->v.ownBlock=some g\/w0.heap.size<=g)->K (a.put o.dst v') w'):
  Oper.wp P o a w2 K Q:=by
 obtain ⟨i,C,D,E,F⟩:=info_parts hi
 have hsize:w2.heap.size=w0.heap.size+1:=by rcases d with rfl|rfl<;>simp
 have m:w2.ownsV base e size v n xs:=by
  rcases d with rfl|rfl
  .exact Zkq l _
  .exact Zs7 (Zkq l _)
 have q:w2.heap[w0.heap.size]?=some (.cells b.toArray e (0,0)):=by
  rcases d with rfl|rfl
  .exact heap_alloc_new w0 _
  .exact heap_alloc_new w0 _
 have w:∀k,k<w0.heap.size->w2.heap[k]?=w0.heap[k]?:=λk hk=>by
  rcases d with rfl|rfl
  .exact Below.heap_alloc w0 _ k hk
  .exact Below.heap_alloc w0 _ k hk
 have p:w2.os=w0.os/\w2.tape=w0.tape/\w2.output=w0.output:=by rcases d with rfl|rfl<;>exact ⟨rfl,rfl,rfl⟩
 obtain ⟨v',w',y,h2,h3,h5⟩:=ZgJ (P:=P) w2 base t o.type e i z size c ht C D E F A B v n xs m ⟨w0.heap.size,0,none⟩ 1 1 b
  yE (λj u hu=>by rw [Zdt];rw [cell_of_row w2 w0.heap.size (0+j) b.toArray e (0,0) q];simpa using hu) h1 (by unfold maxLen;omega) f yE
 unfold Oper.wp execOp
 simp only[ho,resolve,invoke,builtin,Sem.run_bind,Sem.run_pure,Result.andThen_ok,List.map_toArray,AY,AZ,hs,hx,y]
 refine h v' w' h2 ?_ ?_
 .exact ⟨h3.os.trans p.1,h3.tape.trans p.2.1,h3.output.trans p.2.2,AC yE h3.size,λk hk hn=>(h3.block k yE hn).trans (w k hk)⟩
 .intro g hg
  rcases h5 with h5|h5<;>rw [h5]at hg
  .exact .inl hg
  .simp at hg
   exact .inr yE
theorem Zj1 {P:Program}{k:Array Oper}{f:List Oper}{o:Oper}{a:Act}{Q:Exit->Act->World->Prop}{w0:World}(m:o.guard=none) (s x:Operand) (t:TypeId)
  (ho:o.op=.call { callee:=.builtin .append,args:=#[s,x],argTypes:=#[t,t] })
  (e:TypeId) (z:Value) (size c:Nat) (ht:P.underlying t=some (.slice e)) (hi:(P.info? e).map (λi=>(i.zero,i.size,i.bytes))=some (some z,size,c)) (p:z.cells.size=size) (q:0<size)
  (base:Nat) (v:Value) (n:Nat) (xs b:List Value) (hs:a.eval s=v) (hx:a.eval x=.slice (some ⟨w0.heap.size,0,none⟩) 1 1) (l:w0.ownsV base e size v n xs)
  (hl:b.length=size) (h1:∀u∈b,u.oneCell'=true) (w:n+1<=9223372036854775807) (d:(n+1)*c<=140737488355328) (j:base<=w0.heap.size)
  (h:∀v' w',w'.ownsV base e size v' (n+1) (xs++b)->w0.grownBy w' v.ownBlock->(∀g,v'.ownBlock=some g->v.ownBlock=some g\/w0.heap.size<=g)->wpList P k Q f (a.put o.dst v') w'):
  wpList P k Q (o::f) a (w0.alloc (.cells b.toArray e)):=
 wpList_plain m λ_ hK=>ZsK s x t ho e z size c ht hi p q base v n xs b hs hx l hl h1 w d j _ (.inl rfl) λv' w' h2 h3 h4=>hK _ _ (h v' w' h2 h3 h4)
theorem Sound.givesX {P:Program}{J:World->Prop}{f:FuncId}{args:List (Bool×List CT)}{α:Type}{c:Xy α}{g:α->List CT}{x:α}(h:Sound P J f args [(true,(g x).map λy=>(false,y))]) (hg:Enc c g) {w:World}{vs:List Value}(hj:J w) (ha:ZJ (Zu0 w) args vs):Calls P f vs.toArray w (ZAu c w x):=
 (h.calls hj ha).mono λ_ w' ⟨v,n,h1,h2,h3⟩=>by
  obtain ⟨F,p1,hO⟩:=ZqZ h2
  rcases p1 with ⟨_,cs,rfl,hc⟩|⟨hf,_⟩
  .obtain ⟨F',hs,hr⟩:=ZyM hc
   exact ⟨cs,F',h1,⟨hg.of hr,hO.sub hs⟩,h3⟩
  .simp at hf
structure ZdI {α:Type}(c:Xy α) (E:TypeId) (base:Nat) (w1:World) (Ls:List (List Nat)) (k:Nat) (ds:List α) (v:Value) (w:World):Prop where
 row:∃xs Lp,w.ownsV base E c.size v ds.length xs/\c.reps w xs ds Lp/\Own w base (v.ownBlock.toList++Lp)/\∀y∈Lp,y∈(Ls.take k).flatten\/w1.heap.size<=y
 own:∀g,v.ownBlock=some g->w1.heap.size<=g
 below:Below w1.heap.size w1 w
section
variable {α:Type} {c:Xy α} {E:TypeId} {base:Nat} {w1 w w':World} {Ls:List (List Nat)} {k k':Nat} {ds:List α} {v v':Value}
theorem ZdI.start:ZdI c E base w1 Ls 0 [] (.slice none 0 0) w1:=
 ⟨⟨[],[],ZfE _ _ _ _,⟨rfl,rfl⟩,by simpa [Value.ownBlock]using Own.nil w1 base,yG⟩,by simp [Value.ownBlock],Below.refl _ _⟩
theorem ZdI.later (h:ZdI c E base w1 Ls k ds v w) (hb:Below w.heap.size w w'):ZdI c E base w1 Ls k ds v w':=by
 obtain ⟨⟨xs,Lp,h1,h2,h3,h4⟩,h5,h6⟩:=h
 have a:=h3.lt
 exact ⟨⟨xs,Lp,Zgh h1 hb,ZbH h2 (λb mb=>hb.block b (a b (by simp [mb]))),h3.keep (λb mb=>hb.block b (a b mb)),h4⟩,h5,h6.trans (hb.mono h6.size)⟩
theorem Zhr {Ls:List (List Nat)}{k k':Nat}(h:k<=k') {y:Nat}(hy:y∈(Ls.take k).flatten):y∈(Ls.take k').flatten:=by
 obtain ⟨l,ml,hl⟩:=Aa.1 hy
 exact Aa.2 ⟨l,(List.take_prefix_take_left h).subset ml,hl⟩
theorem ZdI.skip (h:ZdI c E base w1 Ls k ds v w) (hk:k<=k'):ZdI c E base w1 Ls k' ds v w:=by
 obtain ⟨⟨xs,Lp,h1,h2,h3,h4⟩,h5,h6⟩:=h
 exact ⟨⟨xs,Lp,h1,h2,h3,λy my=>(h4 y my).imp (Zhr hk) id⟩,h5,h6⟩
theorem ZdI.add (h:ZdI c E base w1 Ls k ds v w) (hk:k<=k') {xs f:List Value}{Lp l:List Nat}{t:α}(hr:c.reps w xs ds Lp) (hs:∀y∈Lp,y∈(Ls.take k).flatten\/w1.heap.size<=y) (x:c.rep w f t l) (hO:Own w base (v.ownBlock.toList++(Lp++l))) (hl:∀y∈l,y∈(Ls.take k').flatten\/w1.heap.size<=y)
  (i:w'.ownsV base E c.size v' (ds.length+1) (xs++f)) (d:w.grownBy w' v.ownBlock) (j:∀g,v'.ownBlock=some g->v.ownBlock=some g\/w.heap.size<=g):ZdI c E base w1 Ls k' (ds++[t]) v' w':=by
 have z:=hO.lt
 have A:=AF.1 hO.nodup
 have o:∀y∈Lp++l,w'.heap[y]?=w.heap[y]?:=λy my=>d.block y (z y (by simp at my ⊢;exact .inr my)) (λe=>A.2.2 y (by simp [<-e]) y my rfl)
 have p:c.reps w' (xs++f) (ds++[t]) (Lp++l):=ZbH (ZhK hr (ZlA x)) o
 have u:Own w' base (Lp++l):=(hO.sub (AP _ _)).keep o
 have hv:=ZAG i
 refine ⟨⟨xs++f,Lp++l,by rw [Ak];exact i,p,⟨AF.2 ⟨hv.nodup,u.nodup,λa ma b mb e=>?_⟩,λb mb=>?_,λb mb=>?_⟩,λy my=>?_⟩,λg hg=>?_,?_⟩
 .subst e
  have ha:v'.ownBlock=some a:=by simpa using ma
  rcases j a ha with h1|h1
  .exact A.2.2 a (by simp [h1]) a mb rfl
  .have:=z a (by simp at mb ⊢;exact .inr mb)
   omega
 .rcases A9.1 mb with m|m
  .exact hv.ge b m
  .exact u.ge b m
 .rcases A9.1 mb with m|m
  .exact hv.plain b m
  .exact u.plain b m
 .rcases A9.1 my with m|m
  .exact (hs y m).imp (Zhr hk) id
  .exact hl y m
 .rcases j g hg with h1|h1
  .exact h.own g h1
  .exact AC h.below.size h1
 .exact h.below.trans ⟨d.os,d.tape,d.output,d.size,λq hq=>d.block q (Ab hq h.below.size) (λe=>by have:=h.own q e.symm;omega)⟩
end
end
section
open Go.RowKit
theorem ZjB {α:Type}{c:Xy α}{w:World}:∀{ds:List α}{xs:List Value}{L:List Nat},c.reps w xs ds L->∃(css:List (List Value)) (Ls:List (List Nat)),css.length=ds.length/\Ls.length=ds.length/\xs=css.flatten/\L=Ls.flatten/\∀(i:Nat) (d:α) (c1:List Value) (l1:List Nat),ds[i]?=some d->css[i]?=some c1->Ls[i]?=some l1->c.rep w c1 d l1
 | [],_,_,⟨h1,h2⟩=>⟨[],[],rfl,rfl,h1,h2,yG⟩
 |d::ds,_,_,⟨c1,c2,L1,L2,rfl,rfl,h1,h2⟩=>by
  obtain ⟨css,Ls,a1,a2,rfl,rfl,a5⟩:=ZjB h2
  refine ⟨c1::css,L1::Ls,by simp [a1],by simp [a2],yG,yG,λi e u l hd hc hl=>?_⟩
  cases i with
  |zero=>simp at hd hc hl;subst hd hc hl;exact h1
  |succ i=>exact a5 i e u l (by simpa using hd) (by simpa using hc) (by simpa using hl)
theorem ZwH {α:Type}{m:Nat}:∀{css:List (List α)}{i j:Nat}{c1:List α}{u:α},(∀x∈css,x.length=m)->css[i]?=some c1->c1[j]?=some u->css.flatten[i*m+j]?=some u
 | [],i,_,_,_,_,h,_=>by simp at h
 |c::css,0,j,c1,u,hs,h,hu=>by
  simp at h;subst h
  rw [Al,Nat.zero_mul,Ac,Am (AK.1 hu).1]
  exact hu
 |c::css,i+1,j,c1,u,hs,h,hu=>by
  have hc:=hs c yG
  have:=ZwH (css:=css) (i:=i) (λx mx=>hs x (by simp [mx])) (by simpa using h) hu
  rw [Al,An (by rw [hc,AQ];omega),hc,show (i+1)*m+j - m=i*m+j by rw [AQ];omega]
  exact this
structure ZyH {α:Type}(c:Xy α) (w:World) (A:Option Addr) (ds:List α) (L:List Nat) (css:List (List Value)) (Ls:List (List Nat)):Prop where
 cl:css.length=ds.length
 ll:Ls.length=ds.length
 el:∀(i:Nat) (d:α) (c1:List Value) (l1:List Nat),ds[i]?=some d->css[i]?=some c1->Ls[i]?=some l1->c.rep w c1 d l1
 sub:Ls.flatten.Sublist L
 at_:∀(i:Nat) (c1:List Value),css[i]?=some c1->∃b off,A=some ⟨b,off,none⟩/\b∈L/\∀j u,c1[j]?=some u->w.cell? ⟨b,off+(i*c.size+j),none⟩=some u
theorem Sli.parts {α:Type}{c:Xy α}{w:World}{A:Option Addr}{ds:List α}{L:List Nat}(h:Sli c w A ds L):∃css Ls,ZyH c w A ds L css Ls:=by
 obtain ⟨xs,L0,L1,rfl,h1,h2⟩:=h
 obtain ⟨css,Ls,a1,a2,rfl,rfl,a5⟩:=ZjB h2
 refine ⟨css,Ls,a1,a2,a5,AP _ _,λi c1 hc=>?_⟩
 have hi:i<ds.length:=by rw [<-a1];exact (AK.1 hc).1
 obtain ⟨b,off,hA,hL,a⟩:=h1.at_ yE
 have hs:∀x∈css,x.length=c.size:=λx mx=>by
  obtain ⟨j,hj⟩:=List.mem_iff_getElem?.1 mx
  have hjl:=(AK.1 hj).1
  exact c.len (a5 j ds[j] x Ls[j] (AA yE) hj (AA yE))
 exact ⟨b,off,hA,by simp [hL],λj u hu=>a _ u (ZwH hs hc hu)⟩
theorem X9 {Ls:List (List Nat)}{k:Nat}{l:List Nat}(h:Ls[k]?=some l):(Ls.take (k+1)).flatten=(Ls.take k).flatten++l:=by
 rw [Ad,h];simp
theorem Zhu {Ls:List (List Nat)}(k:Nat):(Ls.take k).flatten.Sublist Ls.flatten:=by
 conv=>rhs;rw [<-List.take_append_drop k Ls,List.flatten_append]
 exact Ae _ _
section
variable {α:Type} {c:Xy α} {E:TypeId} {W w1 w w':World} {LA:List Nat} {Ls:List (List Nat)} {M:List α} {p:α->Bool} {k:Nat} {v v':Value} {x:α} {l:List Nat}
theorem ZfI (hx:M[k]?=some x):(M.take (k+1)).filter p=(M.take k).filter p++(if p x then [x] else []):=by
 rw [Ad,hx,List.filter_append]
 show _++List.filter p [x]=_
 cases hp:p x<;>simp [hp]
end
section
variable {β:Type} {c:Xy β} {E:TypeId} {W w1 w w':World} {LA:List Nat} {Ls:List (List Nat)} {ds:List β} {k:Nat} {v v':Value} {y:β} {l l':List Nat}
end
end
section
open Go.RowKit
theorem ZpM {P:Program}{j:Array Oper}{o:Oper}{a:Act}{K:Act->World->Prop}{Q:Exit->Act->World->Prop}{E:Prop}{w0:World}(l:o.guard=none) (s x:Operand) (t:TypeId)
  (ho:o.op=.call { callee:=.builtin .append,args:=#[s,x],argTypes:=#[t,t] })
  (e:TypeId) (z:Value) (size c:Nat) (ht:P.underlying t=some (.slice e)) (hi:(P.info? e).map (λi=>(i.zero,i.size,i.bytes))=some (some z,size,c)) (m:z.cells.size=size) (p:0<size)
  (base:Nat) (v:Value) (n:Nat) (xs b:List Value) (hs:a.eval s=v) (hx:a.eval x=.slice (some ⟨w0.heap.size,0,none⟩) 1 1) (k:w0.ownsV base e size v n xs)
  (hl:b.length=size) (h1:∀u∈b,u.oneCell'=true) (q:n+1<=9223372036854775807) (d:(n+1)*c<=140737488355328) (f:base<=w0.heap.size)
  (h:∀v' w',w'.ownsV base e size v' (n+1) (xs++b)->w0.grownBy w' v.ownBlock->(∀g,v'.ownBlock=some g->v.ownBlock=some g\/w0.heap.size<=g)->K (a.put o.dst v') w'):
  if Region.wanted o (yielded j a.tmps)=true then Oper.wp P o a (w0.alloc (.cells b.toArray e)) K Q else E:=by
 have hw:Region.wanted o (yielded j a.tmps)=true:=by simp [Region.wanted,l]
 rw [if_pos hw]
 exact ZsK s x t ho e z size c ht hi m p base v n xs b hs hx k hl h1 q d f _ (.inl rfl) h
theorem ZdI.taken {base:Nat}{w1 w:World}{LA:List Nat}{Ls:List (List Nat)}{k:Nat}{v:Value}{l Lp:List Nat}(hO:Own w1 base LA) (hs:Ls.flatten.Sublist LA) (hl:Ls[k]?=some l) (hb:Below w1.heap.size w1 w) (hv:Own w base (v.ownBlock.toList++Lp)) (o:∀y∈Lp,y∈(Ls.take k).flatten\/w1.heap.size<=y) (p:∀g,v.ownBlock=some g->w1.heap.size<=g):Own w base (v.ownBlock.toList++(Lp++l)):=by
 have c:((Ls.take (k+1)).flatten).Sublist LA:=(Zhu _).trans hs
 rw [X9 hl]at c
 have i:=hO.sub c
 have q:=AF.1 i.nodup
 have j:Own w1 base l:=i.sub (AP _ _)
 have d:=j.lt
 have f:Own w base l:=j.keep (λb mb=>hb.block b (d b mb))
 rw [<-AR]
 refine ⟨AF.2 ⟨hv.nodup,f.nodup,λa ma b mb e=>?_⟩,λb mb=>?_,λb mb=>?_⟩
 .subst e
  rcases A9.1 ma with m|m
  .have:=p a (by simpa using m);have:=d a mb;omega
  .rcases o a m with m|m
   .exact q.2.2 a m a mb rfl
   .have:=d a mb;omega
 .rcases A9.1 mb with m|m
  .exact hv.ge b m
  .exact f.ge b m
 .rcases A9.1 mb with m|m
  .exact hv.plain b m
  .exact f.plain b m
end
section
open Go.RowKit
open Classical
theorem Zcu:(prog.info? 64).map (λi=>(i.zero,i.size,i.bytes))=some (some (.agg #[.string ⟨#[]⟩,.slice none 0 0,.int .i64 0]),3,48):=yO
def csE (e:Zo):List (Bool×CT):=[(false,.sl 76 4 (A0 eRule e.rules)),(false,.sl 64 3 (A0 eStamp e.memory)),(false,.int .i64 e.clock),(false,.sl 94 2 (A0 eFiring e.fired)),(false,.bool e.halted),(false,.sl 97 4 (A0 eEvent e.log))]
theorem ZrZ {w w':World}{B:Nat}{n m:Nat->Prop}{t k:Nat}{xs:List (List CT)}{v:Value}{F:List Nat}(h:OC w B n (false,.sl t k xs) v F) (hk:∀x∈F,w'.heap[x]?=w.heap[x]?) (hm:∀x∈F,n x->m x):OC w' B m (false,.sl t k xs) v F:=by
 obtain ⟨h1,cs,L,h2,h3,rfl,h4⟩:=h
 exact ⟨h1,cs,L,XJ h2 λb mb=>hk b (AG _ mb),h3.keep λb mb=>hk b (A5 _ mb),rfl,λb mb=>hm b (AG _ mb) (h4 b mb)⟩
theorem Zp5 {w:World}{n:Nat->Prop}{e:Zo}{us:List Value}{F:List Nat}(h:OCs w 0 n (csE e) us F):∃u0 u1 u3 u5 F0 F1 F3 F5,us=[u0,u1,.int .i64 e.clock,u3,.bool e.halted,u5]/\F=F0++(F1++(F3++F5))/\OC w 0 n (false,.sl 76 4 (A0 eRule e.rules)) u0 F0/\OC w 0 n (false,.sl 64 3 (A0 eStamp e.memory)) u1 F1/\OC w 0 n (false,.sl 94 2 (A0 eFiring e.fired)) u3 F3/\OC w 0 n (false,.sl 97 4 (A0 eEvent e.log)) u5 F5:=by
 obtain ⟨u0,r0,F0,G0,rfl,rfl,h0,u1,r1,F1,G1,rfl,rfl,h1,u2,r2,F2,G2,rfl,rfl,h2,u3,r3,F3,G3,rfl,rfl,h3,u4,r4,F4,G4,rfl,rfl,h4,u5,r5,F5,G5,rfl,rfl,h5,rfl,rfl⟩:=h
 obtain ⟨⟨rfl,_⟩,rfl⟩:=h2
 obtain ⟨⟨rfl,_⟩,rfl⟩:=h4
 exact ⟨u0,u1,u3,u5,F0,F1,F3,F5,rfl,yG,h0,h1,h3,h5⟩
theorem Zzz {w:World}{n:Nat->Prop}{e:Zo}{u0 u1 u3 u5:Value}{F0 F1 F3 F5:List Nat}(h0:OC w 0 n (false,.sl 76 4 (A0 eRule e.rules)) u0 F0) (h1:OC w 0 n (false,.sl 64 3 (A0 eStamp e.memory)) u1 F1) (h3:OC w 0 n (false,.sl 94 2 (A0 eFiring e.fired)) u3 F3) (h5:OC w 0 n (false,.sl 97 4 (A0 eEvent e.log)) u5 F5):OCs w 0 n (csE e) [u0,u1,.int .i64 e.clock,u3,.bool e.halted,u5] (F0++(F1++(F3++F5))):=
 ⟨u0,_,F0,_,rfl,rfl,h0,u1,_,F1,_,rfl,rfl,h1,_,_,[],_,rfl,rfl,⟨⟨rfl,rfl⟩,rfl⟩,u3,_,F3,_,rfl,rfl,h3,_,_,[],_,rfl,rfl,⟨⟨rfl,rfl⟩,rfl⟩,u5,[],F5,[],rfl,yG,h5,rfl,rfl⟩
theorem Zxg {A B C M:List Nat}{S:Nat}(h:(A++(B++C)).Nodup) (hM:M.Nodup) (hm:∀y∈M,y∈B\/S<=y) (b:∀y∈A++(B++C),y<S):(A++(M++C)).Nodup:=by
 obtain ⟨hA,d,h1⟩:=AF.1 h
 obtain ⟨hB,hC,h2⟩:=AF.1 d
 refine AF.2 ⟨hA,AF.2 ⟨hM,hC,λa ma c mc e=>?_⟩,λa ma c mc e=>?_⟩
 .subst e
  rcases hm a ma with m|m
  .exact h2 a m a mc rfl
  .have:=b a (by simp [mc]);omega
 .subst e
  rcases A9.1 mc with m|m
  .rcases hm a m with m|m
   .exact h1 a ma a (by simp [m]) rfl
   .have:=b a (by simp [ma]);omega
  .exact h1 a ma a (by simp [m]) rfl
theorem ZtN {w ws:World}{z q:Nat->Prop}{b:Nat}{e:Zo}{u0 u3 u5 v:Value}{F0 F1 F3 F5:List Nat}{m:List Zr}{ck:Int}{xs:List Value}{Lp Lf:List Nat}{Af:Option Addr}{cf:Nat}{f:Zd}{i:Int}{rule:ByteArray}{r:Zo}
  (hj:J0 w) (j:q b) (G:∀x,q x->JF0 x/\x∈b::(F0++(F1++(F3++F5)))) (hz:∀x,z x->x<w.heap.size/\¬q x/\x∉b::(F0++(F1++(F3++F5)))) (c:Own w 0 (b::(F0++(F1++(F3++F5)))))
  (c0:OC w 0 (λx=>z x\/q x) (false,.sl 76 4 (A0 eRule e.rules)) u0 F0) (c3:OC w 0 (λx=>z x\/q x) (false,.sl 94 2 (A0 eFiring e.fired)) u3 F3) (c5:OC w 0 (λx=>z x\/q x) (false,.sl 97 4 (A0 eEvent e.log)) u5 F5)
  (hf:Zab.rep w [.string f.rel,.slice Af f.args.length cf] f Lf) (p:∀x∈Lf,¬(z x\/q x)) (L:rule.size<=9223372036854775807)
  (hB:ZuJ (λx=>x=b) w ws) (H:ws.heap[b]?=some (.cells #[u0,v,.int .i64 ck,u3,.bool e.halted,u5] 34 (0,0)))
  (I:ws.ownsV 0 64 3 v m.length xs) (t:Zaa.reps ws xs m Lp) (hO:Own ws 0 (v.ownBlock.toList++Lp)) (N:∀y∈Lp,y∈F1\/w.heap.size<=y) (u:∀g,v.ownBlock=some g->w.heap.size<=g)
  (h:Yq ({ rules:=e.rules,memory:=m,clock:=ck,fired:=e.fired,halted:=e.halted,log:=e.log }:Zo) i rule f=some r):
  Calls prog 57 #[.pointer (some ⟨b,0,none⟩),.int .i64 i,.string rule,.agg #[.string f.rel,.slice Af f.args.length cf]] ws λed w'=>ed=.returned (.tuple #[])/\∃n D F',(∀x,z x->n x)/\n b/\(∀x,n x->z x\/q x\/w.heap.size<=x)/\ZpJ w' n 34 (csE r) (.pointer (some ⟨b,0,none⟩)) b D [] F'/\(∀x∈F',x∈F0++(F1++(F3++F5))\/w.heap.size<=x)/\ZuJ q w w':=by
 have E:=c.lt
 have J:b∉F0++(F1++(F3++F5)):=(AL.1 c.nodup).1
 have hM:∀y∈v.ownBlock.toList++Lp,y∈F1\/w.heap.size<=y:=λy my=>by
  rcases A9.1 my with my|my
  .exact .inr (u y (by simpa using my))
  .exact N y my
 have a:∀x,x<w.heap.size->x≠b->ws.heap[x]?=w.heap[x]?:=λx h1 h2=>hB.block x h1 h2
 have K:∀x∈F0++((v.ownBlock.toList++Lp)++(F3++F5)),x∈F0++(F1++(F3++F5))\/w.heap.size<=x:=λx mx=>by
  rcases A9.1 mx with mx|mx
  .exact .inl (by simp [mx])
  rcases A9.1 mx with mx|mx
  .rcases hM x mx with h|h
   .exact .inl (by simp [h])
   .exact .inr h
  .exact .inl (A5 _ (A5 _ mx))
 have k:∀x∈F0,x<w.heap.size/\x≠b:=λx mx=>⟨E x (by simp [mx]),λe=>J (by rw [<-e];simp [mx])⟩
 have d:∀x∈F3++F5,x<w.heap.size/\x≠b:=λx mx=>⟨E x (AN _ (A5 _ (A5 _ mx))),λe=>J (by rw [<-e];exact A5 _ (A5 _ mx))⟩
 let q1:Nat->Prop:=λx=>(q x/\x∈b::(F0++((v.ownBlock.toList++Lp)++(F3++F5))))\/v.ownBlock=some x
 have hn:∀x∈F0++(F3++F5),(z x\/q x)->(z x\/q1 x):=λx mx h=>by
  rcases h with h|h
  .exact .inl h
  .refine .inr (.inl ⟨h,AN _ ?_⟩)
   rcases A9.1 mx with mx|mx
   .exact AG _ mx
   .exact A5 _ (A5 _ mx)
 have O:J0 ws:=hJ0.below (λx=>x=b) w ws hj (λx hx=>hx ▸ (G b j).1) hB.os hB.tape hB.output hB.size hB.block
 have P:OCs ws 0 (λx=>z x\/q1 x) (csE { rules:=e.rules,memory:=m,clock:=ck,fired:=e.fired,halted:=e.halted,log:=e.log }) [u0,v,.int .i64 ck,u3,.bool e.halted,u5] (F0++((v.ownBlock.toList++Lp)++(F3++F5))):=
  Zzz (e:={ rules:=e.rules,memory:=m,clock:=ck,fired:=e.fired,halted:=e.halted,log:=e.log }) (ZrZ c0 (λx mx=>a x (k x mx).1 (k x mx).2) λx mx=>hn x (AG _ mx))
   ⟨yF,xs,Lp,by rw [AS];exact I,ZtB.reps t,rfl,λx mx=>.inr (.inr (by simpa using mx))⟩
   (ZrZ c3 (λx mx=>a x (d x (AG _ mx)).1 (d x (AG _ mx)).2) λx mx=>hn x (by simp [mx]))
   (ZrZ c5 (λx mx=>a x (d x (A5 _ mx)).1 (d x (A5 _ mx)).2) λx mx=>hn x (by simp [mx]))
 have F:Own ws 0 (b::(F0++((v.ownBlock.toList++Lp)++(F3++F5)))):=by
  refine ⟨?_,λ_ _=>AB _,λx mx=>?_⟩
  .have:=Zxg (A:=b::F0) (B:=F1) (C:=F3++F5) (M:=v.ownBlock.toList++Lp) (S:=w.heap.size) c.nodup hO.nodup hM E
   exact this
  .rcases AE.1 mx with rfl|mx
   .exact ⟨_,_,H⟩
   rcases A9.1 mx with mx|mx
   .rw [a x (k x mx).1 (k x mx).2];exact c.plain x (by simp [mx])
   rcases A9.1 mx with mx|mx
   .exact hO.plain x mx
   .rw [a x (d x mx).1 (d x mx).2];exact c.plain x (AN _ (A5 _ (A5 _ mx)))
 have Q:∀x,v.ownBlock=some x->x∈b::(F0++((v.ownBlock.toList++Lp)++(F3++F5))):=λx hx=>by rw [hx];simp
 have l:∀x,q1 x->q x\/w.heap.size<=x:=λx hx=>hx.elim (λh=>.inl h.1) λh=>.inr (u x h)
 refine ((i_Engine_write_ok h).2 ws z q1 (.pointer (some ⟨b,0,none⟩)) [] [.int .i64 i,.string rule,.agg #[.string f.rel,.slice Af f.args.length cf]] b [u0,v,.int .i64 ck,u3,.bool e.halted,u5] [] _ O (.inl ⟨j,yG⟩) (λx hx=>?_) (λx hx=>?_) rfl ⟨rfl,rfl⟩ ⟨rfl,H,by simpa [gvC,csE]using P,F⟩ ?_).mono ?_
 .rcases hx with hx|hx
  .exact ⟨(G x hx.1).1,hx.2⟩
  .exact ⟨hJ0.new w x hj (u x hx),Q x hx⟩
 .obtain ⟨z1,z2,z3⟩:=hz x hx
  refine ⟨Ab z1 hB.size,λh=>(l x h).elim z2 λh=>by omega,λh=>?_⟩
  rcases AE.1 h with h|h
  .exact z3 (by simp [h])
  .rcases K x h with h|h
   .exact z3 (AN _ h)
   .omega
 .have o:∀x∈Lf,x<w.heap.size:=λx mx=>Zab.lt hf x mx
  refine ⟨.inr ⟨rfl,_,[],rfl,⟨rfl,rfl⟩,λ_ h=>absurd h yG⟩,.inr ⟨rfl,_,[],rfl,⟨rfl,rfl,L⟩,λ_ h=>absurd h yG⟩,.inl ⟨rfl,[_,_],Lf,rfl,Zbn.to (Zab.keep hf λx mx=>a x (o x mx) λe=>p x mx (.inr (e ▸ j))),λx mx h=>?_⟩,trivial⟩
  rcases h with h|h
  .exact p x mx (.inl h)
  .rcases l x h with h|h
   .exact p x mx (.inr h)
   .have:=o x mx;omega
 .rintro ed w' ⟨rv,n,D,F',rfl,⟨rs,RF,⟨rfl,rfl⟩,_,R⟩,k1,k2,k3,k4,k5,k6⟩
  subst R
  refine ⟨rfl,n,D,F',k1,k2,λx hx=>?_,k4,λx hx=>?_,⟨k6.os.trans hB.os,k6.tape.trans hB.tape,k6.output.trans hB.output,AC hB.size k6.size,λx hx hq=>?_⟩⟩
  .rcases k3 x hx with h|h|h
   .exact .inl h
   .exact .inr (l x h)
   .exact .inr (.inr (AC hB.size h))
  .rcases k5 x hx with h|h
   .rcases A9.1 h with h|h
    .exact .inl (by simp [h])
    rcases A9.1 h with h|h
    .rcases hM x h with h|h
     .exact .inl (by simp [h])
     .exact .inr h
    .exact .inl (A5 _ (A5 _ h))
   .exact .inr (AC hB.size h)
  .rw [k6.block x (Ab hx hB.size) λh=>(l x h).elim hq λh=>by omega]
   exact hB.block x hx λe=>hq (e ▸ j)
theorem ZCM {w:World}{z:Nat->Prop}{f:Zd}{k:Int}{r:ByteArray}{vs:List Value}(h:ZJ (Zhk w z) [(true,eFact f),(false,[.int .i64 k]),(false,[.str r])] vs):∃Af cf Lf,vs=[.agg #[.string f.rel,.slice Af f.args.length cf],.int .i64 k,.string r]/\Zab.rep w [.string f.rel,.slice Af f.args.length cf] f Lf/\(∀x∈Lf,¬z x)/\r.size<=9223372036854775807:=by
 match vs,h with
 | [v1,v2,v3],⟨h1,h2,h3,_⟩=>
  rcases h1 with ⟨_,cs,Lf,rfl,hr,hz⟩|⟨hf,_⟩
  .have hr:=Zbn.of hr
   obtain ⟨A1,c1,L1,e1,e2,t0,n1,m1,s1⟩:=id hr
   subst e1
   rcases h2 with ⟨hf,_⟩|⟨_,ct,L,e,hc,_⟩
   .simp at hf
   obtain rfl:CT.int .i64 k=ct:=by simpa using e
   obtain ⟨rfl,_⟩:=hc
   rcases h3 with ⟨hf,_⟩|⟨_,ct,L,e,hc,_⟩
   .simp at hf
   obtain rfl:CT.str r=ct:=by simpa using e
   obtain ⟨rfl,_,a⟩:=hc
   exact ⟨A1,c1,Lf,rfl,hr,hz,a⟩
  .simp at hf
theorem ZpO {w:World}{n:Nat->Prop}{M:List Zr}{u:Value}{F:List Nat}(h:OC w 0 n (false,.sl 64 3 (A0 eStamp M)) u F):∃A c css Ls,u=.slice A M.length c/\ZyH Zaa w A M F css Ls:=by
 obtain ⟨_,cs,L,a,f,rfl,_⟩:=h
 rw [AS]at a
 obtain ⟨A,c,rfl,_,_⟩:=XK a
 obtain ⟨L0,j,k,g⟩:=Sl.of_ownV a
 have hS:Sli Zaa w A M (L0++L):=⟨cs,L0,L,rfl,j,ZtB.reps_of f⟩
 obtain ⟨css,Ls,hP⟩:=hS.parts
 have d:(L0++L).Sublist ((Value.slice A M.length c).ownBlock.toList++L):=by
  refine List.Sublist.append ?_ (Ao _)
  cases L0 with
  |nil=>exact List.nil_sublist _
  |cons y L0=>
   obtain ⟨o,rfl⟩:=g y yG
   cases L0 with
   |nil=>exact Ao _
   |cons y' L0=>
    obtain ⟨o',e⟩:=g y' yG
    have l:=k.nodup
    simp at e
    simp [e.1]at l
 exact ⟨A,c,css,Ls,rfl,hP.cl,hP.ll,hP.el,hP.sub.trans d,λi c1 hc=>by
  obtain ⟨b,off,h1,h2,h3⟩:=hP.at_ i c1 hc
  exact ⟨b,off,h1,d.subset h2,h3⟩⟩
noncomputable def Zh1 (f:Zd) (x:Zr):Bool:=!decide (Xh x.fact f=some true)
theorem ZHt {c:Zo}{a:Zd}{j:Int}{l:ByteArray}{r:Zo}(h:Xr c a j l=some r):Zgo prog J0 JF0 60 34 (csE c) none [(true,eFact a),(false,[.int .i64 j]),(false,[.str l])] [] (csE r):=by
 unfold Xr at h
 split at h
 rotate_left
 .cases h
 rename_i hc
 refine ⟨⟨f60,func60,yO,yO⟩,λw z q v0 gs vs b us us2 F hj S U hz ai aj ak D=>?_⟩
 obtain ⟨rfl,rfl⟩:=aj
 obtain ⟨rfl,V,J,f⟩:=ak
 obtain ⟨u0,u1,u3,u5,F0,F1,F3,F5,al,rfl,c0,c1,c3,c5⟩:=Zp5 (e:=c) (by simpa [gvC]using J)
 subst al
 clear J ai
 obtain ⟨Af,cf,Lf,rfl,hf,W,X⟩:=ZCM D
 clear D
 obtain ⟨AM,cM,css,Ls,rfl,hP⟩:=ZpO c1
 clear c1
 have HTail:=yS (And.intro U (And.intro hz (And.intro c0 (And.intro c3 c5))))
 have HQB:=yS S
 have HOW:=yS f
 have HJ:=yS hj
 have HF:=yS hf
 have HFZ:=yS W
 have HRU:=yS X
 have HP:=yS hP
 have HW:=yS h
 obtain ⟨Y,am⟩:=hc
 obtain ⟨n,hn⟩:∃n,c.memory.length=n:=⟨_,rfl⟩
 obtain ⟨nf,E⟩:∃n,a.args.length=n:=⟨_,rfl⟩
 have HN:Hid (c.memory.length=n):=hn
 have HNF:Hid (a.args.length=nf):=E
 have hbl:b<w.heap.size:=f.lt b yG
 have HLF:Hid (∀x∈Lf,x<w.heap.size):=λx mx=>Zab.lt hf x mx
 have Z:Own w 0 F1:=f.sub ((Ae _ _).trans ((AP _ _).trans (Ap _ _)))
 have HO1:=yS Z
 have HBX:Hid (Blk w b 34 #[u0,.slice AM n cM,.int .i64 c.clock,u3,.bool c.halted,u5]):=by rw [<-hn];exact V
 rw [hn]at Y
 rw [E]at am
 show Calls prog 60 #[.pointer (some ⟨b,0,none⟩),.agg #[.string a.rel,.slice Af a.args.length cf],.int .i64 j,.string l] w _
 rw [E]
 clear hj hf W X hP h f V hz U c0 c3 c5 Z S hn E
 have HB1:Hid (Below w.heap.size w (w.alloc (.cells #[.string a.rel,.slice Af nf cf] 40))):=(Below.refl _ w).alloc (A6 _) _
 have HX1:=HBX.out.later HB1.out
 have HK1:Blk (w.alloc (.cells #[.string a.rel,.slice Af nf cf] 40)) w.heap.size 40 #[.string a.rel,.slice Af nf cf]:=Blk.new _ _ _
 go_enter func60,ntmps60
 obtain ⟨w0,L⟩:∃w0,w0=w.alloc (.cells #[.string a.rel,.slice Af nf cf] 40):=⟨_,rfl⟩
 have m1:=HX1.at (i:=1) rfl
 go_wp2
 rw [<-L]at HB1 HX1 HK1 m1
 have HX:=yS HX1
 have HK:=yS HK1
 have HJ0:Hid (J0 w0):=Za0 hJ0 HJ.out HB1.out
 have HSW:Hid (w0.heap.size=w.heap.size+1):=by show _=_;rw [L];simp
 have HO0:Hid (Own w0 0 F1):=HO1.out.keep (YA HB1.out HO1.out.lt)
 clear HX1 HK1 m1
 go_loopw [8,10,16] (λv q i wr=>∃k:Nat,k<=n/\i=.int .i64 k/\Hid (ZdI Zaa 64 0 w0 Ls k ((c.memory.take k).filter (Zh1 a)) v wr)) (λ_ _ i _=>n - (intOf i).toNat)
 case atStart=>exact ⟨0,AB _,rfl,by rw [<-L];exact ZdI.start⟩
 case round=>
  obtain ⟨k,hk,rfl,HI⟩:=hrel
  have HBW:Hid (Below w.heap.size w wr):=HB1.out.trans (HI.out.below.mono (by have:=HSW.out;omega))
  have HKr:=yS (HK.out.later HI.out.below)
  have HXr:=yS (HX.out.later HI.out.below)
  have HJr:Hid (J0 wr):=Za0 hJ0 HJ.out HBW.out
  by_cases hlt:k<n
  .obtain ⟨x,hx⟩:∃x,c.memory[k]?=some x:=⟨_,AA (by have:=HN.out;omega)⟩
   obtain ⟨c1,M⟩:∃c1,css[k]?=some c1:=⟨_,AA (by have:=HP.out.cl;have:=HN.out;omega)⟩
   obtain ⟨l1,N⟩:∃l1,Ls[k]?=some l1:=⟨_,AA (by have:=HP.out.ll;have:=HN.out;omega)⟩
   obtain ⟨bM,off,rfl,an,G⟩:=HP.out.at_ k c1 M
   have HR:=yS (HP.out.el k x c1 l1 hx M N)
   have HL1:=yS N
   have HXE:=yS hx
   obtain ⟨A1,t,L1,e1,e2,t0,n1,m1,s1⟩:=HR.out
   subst e1
   have HSL:Hid (∀y∈l1,y<w.heap.size):=λy my=>Zaa.lt HR.out y my
   have HXF:Hid (Zab.rep w [.string x.fact.rel,.slice A1 x.fact.args.length t] x.fact l1):=⟨A1,t,L1,rfl,e2,t0,n1,m1,s1⟩
   have C:∀p:Addr,p.block=bM->wr.cell? p=w.cell? p:=λp hp=>World.cell?_of_block (by rw [hp];exact HBW.out.block bM (HO1.out.lt bM an))
   have q0:wr.cell? ⟨bM,off+k*3,none⟩=_:=(C ⟨bM,off+(k*3+0),none⟩ rfl).trans (G 0 _ rfl)
   have q1:wr.cell? ⟨bM,off+k*3+1,none⟩=_:=(C ⟨bM,off+(k*3+1),none⟩ rfl).trans (G 1 _ rfl)
   have q2:wr.cell? ⟨bM,off+k*3+2,none⟩=_:=(C ⟨bM,off+(k*3+2),none⟩ rfl).trans (G 2 _ rfl)
   have f0:∀o,(wr.alloc o).cell? ⟨w.heap.size,0,none⟩=some (.string a.rel):=λo=>(HKr.out.alloc o).at (i:=0) rfl
   have f1:∀o,(wr.alloc o).cell? ⟨w.heap.size,1,none⟩=some (.slice Af nf cf):=λo=>(HKr.out.alloc o).at (i:=1) rfl
   have BA:Hid (Below wr.heap.size wr (wr.alloc (.cells #[.string x.fact.rel,.slice A1 x.fact.args.length t,.int .i64 x.time] 64))):=(Below.refl _ wr).alloc (A6 _) _
   have BWA:Hid (Below w.heap.size w (wr.alloc (.cells #[.string x.fact.rel,.slice A1 x.fact.args.length t,.int .i64 x.time] 64))):=HBW.out.trans (BA.out.mono HBW.out.size)
   obtain ⟨d,hd⟩:∃d,decide (x.fact=a)=d:=⟨_,rfl⟩
   have HKD:Hid (Zh1 a x=!d):=by show _=_;unfold Zh1;rw [Yv,hd];simp
   have HCA:Hid (Calls prog 55 #[.agg #[.string x.fact.rel,.slice A1 x.fact.args.length t],.agg #[.string a.rel,.slice Af nf cf]] (wr.alloc (.cells #[.string x.fact.rel,.slice A1 x.fact.args.length t,.int .i64 x.time] 64)) λe w2=>e=.returned (.bool d)/\Below (wr.alloc (.cells #[.string x.fact.rel,.slice A1 x.fact.args.length t,.int .i64 x.time] 64)).heap.size (wr.alloc (.cells #[.string x.fact.rel,.slice A1 x.fact.args.length t,.int .i64 x.time] 64)) w2):=by
    rw [<-hd,<-HNF.out]
    exact Sound.givesB (ZcR (Yv x.fact a)) (Za0 hJ0 HJ.out BWA.out) (vs:=[_,_]) ⟨Ziw Zbn (Zab.keep HXF.out (YA BWA.out HSL.out)),Ziw Zbn (Zab.keep HF.out (YA BWA.out HLF.out)),trivial⟩
   clear G C hd N hx M
   go_wp2_with fail
   refine HCA.out.mono ?_
   rintro e w2 ⟨rfl,H⟩
   have HI2:=yS ((HI.out.later BA.out).later H)
   have K2:Hid (Blk w2 wr.heap.size 64 #[.string x.fact.rel,.slice A1 x.fact.args.length t,.int .i64 x.time]):=Blk.later (Blk.new _ _ _) H
   have HB2:Hid (Below w.heap.size w w2):=BWA.out.trans (H.mono BWA.out.size)
   clear HCA H q0 q1 q2 f0 f1
   cases d with
   |false=>
    have p0:=K2.out.at (i:=0) rfl
    have p1:=K2.out.at (i:=1) rfl
    have p2:=K2.out.at (i:=2) rfl
    obtain ⟨⟨xs,Lp,ho,hr,hO,aa⟩,ab,ac⟩:=HI2.out
    have HO:=yS ho
    have HRs:=yS (And.intro hr (And.intro hO aa))
    have HVO:Hid (∀g,u8.ownBlock=some g->w0.heap.size<=g):=ab
    have HBQ:=yS ac
    have hpl:((c.memory.take k).filter (Zh1 a)).length<=k:=AC (List.length_filter_le _ _) (by simp;omega)
    clear ho hr hO aa ab ac
    go_wp2_with (at_builtin;(refine Zj1 rfl (.tmp 25) (.tmp 27) 30 rfl 64 _ 3 48 underlying30 Zcu rfl yE 0 u8 ((c.memory.take k).filter (Zh1 a)).length xs [_,_,_] rfl rfl HO.out rfl (by intro u hu;simp only[AE,AO,or_false]at hu;rcases hu with rfl|rfl|rfl<;>rfl) yE yE (AB _) ?_);intro v' w' f O ad)
    refine ⟨⟨k+1,yE,yG,?_⟩,by simp [intOf];omega⟩
    show ZdI _ _ _ _ _ _ _ _ _
    rw [ZfI HXE.out,HKD.out]
    exact HI2.out.add (AT k) HRs.out.1 HRs.out.2.2 (Zaa.keep HR.out (YA HB2.out HSL.out)) (ZdI.taken HO0.out HP.out.sub HL1.out HBQ.out HRs.out.2.1 HRs.out.2.2 HVO.out) (λy m=>.inl (by rw [X9 HL1.out];exact A5 _ m)) f O ad
   |true=>
    go_wp2
    refine ⟨⟨k+1,yE,yG,?_⟩,by simp [intOf];omega⟩
    show ZdI _ _ _ _ _ _ _ _ _
    rw [ZfI HXE.out,HKD.out]
    simpa using HI2.out.skip (AT k)
  .obtain rfl:k=n:=by omega
   have HI':Hid (ZdI Zaa 64 0 w0 Ls k (c.memory.filter (Zh1 a)) u8 wr):=by
    have:=HI.out
    rw [List.take_of_length_le (by have:=HN.out;omega)]at this
    exact this
   have fz:=HXr.out.frozen 1
   have m1:=HXr.out.at (i:=1) rfl
   have ae:w.heap.size≠b:=by omega
   have g0:∀u,(wr.setCell ⟨b,1,none⟩ u).cell? ⟨w.heap.size,0,none⟩=some (.string a.rel):=λu=>(HKr.out.far (p:=⟨b,1,none⟩) ae u).at (i:=0) rfl
   have g1:∀u,(wr.setCell ⟨b,1,none⟩ u).cell? ⟨w.heap.size,1,none⟩=some (.slice Af nf cf):=λu=>(HKr.out.far (p:=⟨b,1,none⟩) ae u).at (i:=1) rfl
   obtain ⟨xs8,Lp8,P,af,ag,K⟩:=HI'.out.row
   obtain ⟨A8,c8,e8,_,_⟩:=XK P
   subst e8
   have HO8:=yS P
   have HR8:=yS (And.intro af (And.intro ag K))
   clear HI P af ag K
   have ah:b∉F0++(F1++(F3++F5)):=(AL.1 HOW.out.nodup).1
   have B:∀y∈Lp8,y∈F1\/w.heap.size<=y:=λy my=>(HR8.out.2.2 y my).imp (λh=>(HP.out.sub.subset ((Zhu _).subset h))) λh=>by have:=HSW.out;omega
   have Q:∀g,(Value.slice A8 (c.memory.filter (Zh1 a)).length c8).ownBlock=some g->w.heap.size<=g:=λg hg=>by have:=HI'.out.own g hg;have:=HSW.out;omega
   have I:∀y∈(Value.slice A8 (c.memory.filter (Zh1 a)).length c8).ownBlock.toList++Lp8,y≠b:=λy my e=>by
    rcases A9.1 my with m|m
    .have:=Q y (by simpa using m);omega
    .rcases B y m with h|h
     .exact ah (by rw [<-e];simp [h])
     .omega
   have A:∀y,y≠b->(wr.setCell ⟨b,1,none⟩ (.slice A8 (c.memory.filter (Zh1 a)).length c8)).heap[y]?=wr.heap[y]?:=λy hy=>Below.heap_setCell _ _ _ _ hy
   have T:=ZtN (ws:=wr.setCell ⟨b,1,none⟩ (.slice A8 (c.memory.filter (Zh1 a)).length c8)) (F1:=F1) HJ.out HQB.out HTail.out.1 HTail.out.2.1 HOW.out HTail.out.2.2.1 HTail.out.2.2.2.1 HTail.out.2.2.2.2 HF.out HFZ.out HRU.out
    ⟨HBW.out.os,HBW.out.tape,HBW.out.output,by simpa [World.setCell]using HBW.out.size,λy hy hn=>(A y hn).trans (HBW.out.block y hy)⟩
    (by have:=HXr.out.set_ 1 (.slice A8 (c.memory.filter (Zh1 a)).length c8);exact this)
    (XJ HO8.out λy my=>A y (I y (AG _ my)))
    (ZbH HR8.out.1 λy my=>A y (I y (A5 _ my)))
    (HR8.out.2.1.keep λy my=>A y (I y my)) B Q HW.out
   rw [HNF.out]at T
   clear ah B Q I A
   have HT:=yS T
   clear T
   go_wp2_with fail
   refine HT.out.mono ?_
   rintro e w' ⟨rfl,R⟩
   clear HT
   go_wp2
   go_end0
   obtain ⟨n',ao,F',k1,k2,k3,k4,k5,k6⟩:=R
   exact ⟨_,n',ao,F',rfl,⟨[],[],⟨rfl,rfl⟩,Own.nil _ _,rfl⟩,k1,k2,k3,k4,k5,k6⟩
theorem i_Engine_drop_ok {a:Zo}{d:Zd}{b:Int}{c:ByteArray}{r:Zo}(h:Xr a d b c=some r):Zgo prog J0 JF0 60 34 [(false,.sl 76 4 (A0 eRule a.rules)),(false,.sl 64 3 (A0 eStamp a.memory)),(false,.int .i64 a.clock),(false,.sl 94 2 (A0 eFiring a.fired)),(false,.bool a.halted),(false,.sl 97 4 (A0 eEvent a.log))] none [(true,eFact d),(false,[.int .i64 b]),(false,[.str c])] [] [(false,.sl 76 4 (A0 eRule r.rules)),(false,.sl 64 3 (A0 eStamp r.memory)),(false,.int .i64 r.clock),(false,.sl 94 2 (A0 eFiring r.fired)),(false,.bool r.halted),(false,.sl 97 4 (A0 eEvent r.log))]:=ZHt h
end
section
open Go.RowKit
open Classical
noncomputable def Zgm (f:Zd) (s:Zr):List Zr->List Zr
 | []=>[s]
 |x::l=>if 0<Zci x.fact f then s::x::l else x::Zgm f s l
theorem Zv8 (f:Zd) (s:Zr):∀l:List Zr,ZuS (λx=>Yn x f) s l=some (Zgm f s l)
 | []=>rfl
 |x::l=>by
  unfold ZuS Zgm
  rw [Xd,AH]
  split
  .rfl
  .rw [Zv8 f s l];rfl
structure ZIG (f:Zd) (s:Zr) (M:List Zr) (w0:World) (Ls:List (List Nat)) (k:Nat) (d:Bool) (v:Value) (w:World):Prop where
 ex:∃ds,ZdI Zaa 64 0 w0 Ls k ds v w/\ds.length<=k+1/\(d=true->ds++M.drop k=Zgm f s M)/\(d=false->ds=M.take k/\ds++Zgm f s (M.drop k)=Zgm f s M)
theorem ZqS {α:Type}{l:List α}{k:Nat}{x:α}(h:l[k]?=some x):l.drop k=x::l.drop (k+1):=by
 obtain ⟨h1,h2⟩:=AK.1 h
 rw [List.drop_eq_getElem_cons h1,h2]
theorem ZyH.keep {α:Type}{c:Xy α}{w w':World}{A:Option Addr}{ds:List α}{L:List Nat}{css:List (List Value)}{Ls:List (List Nat)}(h:ZyH c w A ds L css Ls) (hk:∀y∈L,w'.heap[y]?=w.heap[y]?):ZyH c w' A ds L css Ls:=
 ⟨h.cl,h.ll,λi d c1 l1 hd hc hl=>c.keep (h.el i d c1 l1 hd hc hl) λy m=>hk y (h.sub.subset (Aa.2 ⟨l1,Ag hl,m⟩)),h.sub,λi c1 hc=>by
  obtain ⟨b,off,h1,h2,h3⟩:=h.at_ i c1 hc
  exact ⟨b,off,h1,h2,λj u hu=>(World.cell?_of_block (hk b h2)).trans (h3 j u hu)⟩⟩
theorem ZHT {f:Zo}{a:Zd}{B:Int}{C:ByteArray}{r:Zo}(h:Xp f a B C=some r):Zgo prog J0 JF0 28 34 (csE f) none [(true,eFact a),(false,[.int .i64 B]),(false,[.str C])] [] (csE r):=by
 unfold Xp at h
 split at h
 rotate_left
 .cases h
 rename_i hc
 rw [Zv8,AH]at h
 refine ⟨⟨f28,func28,yO,yO⟩,λw z q v0 gs vs b us us2 F hj az a0 hz be bf bg U=>?_⟩
 obtain ⟨rfl,rfl⟩:=bf
 obtain ⟨rfl,a1,ap,l⟩:=bg
 obtain ⟨u0,u1,u3,u5,F0,F1,F3,F5,bh,rfl,c0,c1,c3,c5⟩:=Zp5 (e:=f) (by simpa [gvC]using ap)
 subst bh
 clear ap be
 obtain ⟨Af,cf,Lf,rfl,hf,a2,a3⟩:=ZCM U
 clear U
 obtain ⟨AM,cM,css,Ls,rfl,hP⟩:=ZpO c1
 clear c1
 have HTail:=yS (And.intro a0 (And.intro hz (And.intro c0 (And.intro c3 c5))))
 have HQB:=yS az
 have HOW:=yS l
 have HJ:=yS hj
 have HF:=yS hf
 have HFZ:=yS a2
 have HRU:=yS a3
 have HP:=yS hP
 obtain ⟨a4,a5,bi,V⟩:=hc
 have HFA:Hid (a.args.length<=1048576):=a5
 obtain ⟨n,hn⟩:∃n,f.memory.length=n:=⟨_,rfl⟩
 obtain ⟨nf,al⟩:∃n,a.args.length=n:=⟨_,rfl⟩
 obtain ⟨ck,X⟩:∃n:Nat,f.clock=n:=⟨f.clock.toNat,yE⟩
 rw [X]at h
 have HW:=yS h
 have HN:Hid (f.memory.length=n):=hn
 have HNF:Hid (a.args.length=nf):=al
 have HCK:Hid (f.clock=(ck:Int)):=X
 have hbl:b<w.heap.size:=l.lt b yG
 have HLF:Hid (∀x∈Lf,x<w.heap.size):=λx mx=>Zab.lt hf x mx
 have a6:Own w 0 F1:=l.sub ((Ae _ _).trans ((AP _ _).trans (Ap _ _)))
 have HO1:=yS a6
 have HBX:Hid (Blk w b 34 #[u0,.slice AM n cM,.int .i64 (ck:Int),u3,.bool f.halted,u5]):=by rw [<-hn,<-X];exact a1
 rw [hn]at a4
 rw [al]at a5
 rw [X]at V
 show Calls prog 28 #[.pointer (some ⟨b,0,none⟩),.agg #[.string a.rel,.slice Af a.args.length cf],.int .i64 B,.string C] w _
 rw [al]
 clear hj hf a2 a3 hP h l a1 hz a0 c0 c3 c5 a6 az hn al X bi
 have HB1:Hid (Below w.heap.size w (w.alloc (.cells #[.string a.rel,.slice Af nf cf] 40))):=(Below.refl _ w).alloc (A6 _) _
 have HX1:=HBX.out.later HB1.out
 have am:w.heap.size≠b:=by omega
 have HK1:Blk (w.alloc (.cells #[.string a.rel,.slice Af nf cf] 40)) w.heap.size 40 #[.string a.rel,.slice Af nf cf]:=Blk.new _ _ _
 have HX2:Blk ((w.setCell ⟨b,2,none⟩ (.int .i64 ((ck:Int)+1))).alloc (.cells #[.string a.rel,.slice Af nf cf] 40)) b 34 #[u0,.slice AM n cM,.int .i64 ((ck:Int)+1),u3,.bool f.halted,u5]:=(HBX.out.set_ 2 _).alloc _
 have HK2:Blk ((w.setCell ⟨b,2,none⟩ (.int .i64 ((ck:Int)+1))).alloc (.cells #[.string a.rel,.slice Af nf cf] 40)) w.heap.size 40 #[.string a.rel,.slice Af nf cf]:=Blk.new_at (by simp [World.setCell])
 have m2:=HX1.at (i:=2) rfl
 have bj:=HX1.frozen 2
 have m1:=HX2.at (i:=1) rfl
 go_enter func28,ntmps28
 obtain ⟨w0,an⟩:∃w0,w0=(w.setCell ⟨b,2,none⟩ (.int .i64 ((ck:Int)+1))).alloc (.cells #[.string a.rel,.slice Af nf cf] 40):=⟨_,rfl⟩
 go_wp2
 rw [<-an]at HX2 HK2 m1
 have HX:=yS HX2
 have HK:=yS HK2
 have HSW:Hid (w0.heap.size=w.heap.size+1):=by show _=_;rw [an];simp [World.setCell]
 have HB0:Hid (ZuJ (λx=>x=b) w w0):=by
  rw [an]
  exact ⟨rfl,rfl,rfl,by simp [World.setCell],λy hy hn=>(Below.heap_alloc _ _ y (by simpa [World.setCell]using hy)).trans (Below.heap_setCell _ _ _ _ hn)⟩
 have HJ0:Hid (J0 w0):=hJ0.below (λx=>x=b) w w0 HJ.out (λx hx=>hx ▸ (HTail.out.1 b HQB.out).1) HB0.out.os HB0.out.tape HB0.out.output HB0.out.size HB0.out.block
 have aq:b∉F0++(F1++(F3++F5)):=(AL.1 HOW.out.nodup).1
 have ar:∀y∈F1,w0.heap[y]?=w.heap[y]?:=λy my=>HB0.out.block y (HO1.out.lt y my) λe=>aq (by rw [<-e];simp [my])
 have HP0:=yS (HP.out.keep ar)
 have HO0:Hid (Own w0 0 F1):=HO1.out.keep ar
 have HF0:Hid (Zab.rep w0 [.string a.rel,.slice Af nf cf] a Lf):=by
  rw [<-HNF.out]
  exact Zab.keep HF.out λy my=>HB0.out.block y (HLF.out y my) λe=>HFZ.out y my (.inr (e ▸ HQB.out))
 have HLF0:Hid (∀x∈Lf,x<w0.heap.size):=λx mx=>by have:=HLF.out x mx;have:=HSW.out;omega
 have HBF:=yS aq
 clear HX1 HX2 HK1 HK2 m1 m2 bj aq ar
 have FIN:Hid (∀(wl:World) (A8:Option Addr) (c8:Nat),ZdI Zaa 64 0 w0 Ls n (Zgm a ({ fact:=a,time:=(ck:Int)+1 }:Zr) f.memory) (.slice A8 (Zgm a ({ fact:=a,time:=(ck:Int)+1 }:Zr) f.memory).length c8) wl->Calls prog 57 #[.pointer (some ⟨b,0,none⟩),.int .i64 B,.string C,.agg #[.string a.rel,.slice Af nf cf]] (wl.setCell ⟨b,1,none⟩ (.slice A8 (Zgm a ({ fact:=a,time:=(ck:Int)+1 }:Zr) f.memory).length c8)) λed w'=>ed=.returned (.tuple #[])/\∃n Y F',(∀x,z x->n x)/\n b/\(∀x,n x->z x\/q x\/w.heap.size<=x)/\ZpJ w' n 34 (csE r) (.pointer (some ⟨b,0,none⟩)) b Y [] F'/\(∀x∈F',x∈F0++(F1++(F3++F5))\/w.heap.size<=x)/\ZuJ q w w'):=by
  intro wl A8 c8 hI
  generalize Zgm a ({ fact:=a,time:=(ck:Int)+1 }:Zr) f.memory=m at hI HW ⊢
  obtain ⟨⟨a7,Lp8,O,bk,bl,a8⟩,a9,K⟩:=hI
  have Z:∀y∈Lp8,y∈F1\/w.heap.size<=y:=λy my=>(a8 y my).imp (λh=>(HP.out.sub.subset ((Zhu _).subset h))) λh=>by have:=HSW.out;omega
  have ba:∀g,(Value.slice A8 m.length c8).ownBlock=some g->w.heap.size<=g:=λg hg=>by have:=a9 g hg;have:=HSW.out;omega
  have au:∀y∈(Value.slice A8 m.length c8).ownBlock.toList++Lp8,y≠b:=λy my e=>by
   rcases A9.1 my with m|m
   .have:=ba y (by simpa using m);omega
   .rcases Z y m with h|h
    .exact HBF.out (by rw [<-e];simp [h])
    .omega
  have R:∀y,y≠b->(wl.setCell ⟨b,1,none⟩ (.slice A8 m.length c8)).heap[y]?=wl.heap[y]?:=λy hy=>Below.heap_setCell _ _ _ _ hy
  have T:=ZtN (ws:=wl.setCell ⟨b,1,none⟩ (.slice A8 m.length c8)) (F1:=F1) HJ.out HQB.out HTail.out.1 HTail.out.2.1 HOW.out HTail.out.2.2.1 HTail.out.2.2.2.1 HTail.out.2.2.2.2 HF.out HFZ.out HRU.out
   ⟨K.os.trans HB0.out.os,K.tape.trans HB0.out.tape,K.output.trans HB0.out.output,by have h1:=K.size;have h2:=HSW.out;simp only[World.setCell];simp;omega,λy hy hn=>(R y hn).trans ((K.block y (by have:=HSW.out;omega)).trans (HB0.out.block y hy hn))⟩
   ((HX.out.later K).set_ 1 (.slice A8 m.length c8))
   (XJ O λy my=>R y (au y (AG _ my)))
   (ZbH bk λy my=>R y (au y (A5 _ my)))
   (bl.keep λy my=>R y (au y my)) Z ba HW.out
  rw [HNF.out]at T
  exact T
 go_loopw [8,9,11,24] (λv dn q i wr=>∃(k:Nat) (d:Bool),k<=n/\i=.int .i64 k/\dn=.bool d/\Hid (ZIG a ({ fact:=a,time:=(ck:Int)+1 }:Zr) f.memory w0 Ls k d v wr)) (λ_ _ _ i _=>n - (intOf i).toNat)
 case atStart=>exact ⟨0,false,AB _,rfl,rfl,by rw [<-an];exact ⟨[],ZdI.start,yG,yG,λ_=>⟨rfl,rfl⟩⟩⟩
 case round=>
  obtain ⟨k,d,hk,rfl,rfl,HI⟩:=hrel
  obtain ⟨ds,hM,av,bb,bc⟩:=HI.out.ex
  have HM:=yS hM
  have HD:Hid ((d=true->ds++f.memory.drop k=Zgm a ({ fact:=a,time:=(ck:Int)+1 }:Zr) f.memory)/\(d=false->ds=f.memory.take k/\ds++Zgm a ({ fact:=a,time:=(ck:Int)+1 }:Zr) (f.memory.drop k)=Zgm a ({ fact:=a,time:=(ck:Int)+1 }:Zr) f.memory)):=⟨bb,bc⟩
  have HBW:=yS hM.below
  have HKr:=yS (HK.out.later hM.below)
  have HXr:=yS (HX.out.later hM.below)
  have HJr:Hid (J0 wr):=Za0 hJ0 HJ0.out hM.below
  clear hM bb bc HI
  by_cases hlt:k<n
  .obtain ⟨x,hx⟩:∃x,f.memory[k]?=some x:=⟨_,AA (by have:=HN.out;omega)⟩
   obtain ⟨c1,V⟩:∃c1,css[k]?=some c1:=⟨_,AA (by have:=HP0.out.cl;have:=HN.out;omega)⟩
   obtain ⟨l1,aw⟩:∃l1,Ls[k]?=some l1:=⟨_,AA (by have:=HP0.out.ll;have:=HN.out;omega)⟩
   obtain ⟨bM,off,rfl,bm,ao⟩:=HP0.out.at_ k c1 V
   have HR:=yS (HP0.out.el k x c1 l1 hx V aw)
   have HL1:=yS aw
   have HXE:=yS hx
   obtain ⟨A1,J,L1,e1,e2,t0,n1,m1,s1⟩:=HR.out
   subst e1
   have HSL:Hid (∀y∈l1,y<w0.heap.size):=λy my=>Zaa.lt HR.out y my
   have HXF:Hid (Zab.rep w0 [.string x.fact.rel,.slice A1 x.fact.args.length J] x.fact l1):=⟨A1,J,L1,rfl,e2,t0,n1,m1,s1⟩
   have S:∀p:Addr,p.block=bM->wr.cell? p=w0.cell? p:=λp hp=>World.cell?_of_block (by rw [hp];exact HBW.out.block bM (HO0.out.lt bM bm))
   have q0:wr.cell? ⟨bM,off+k*3,none⟩=_:=(S ⟨bM,off+(k*3+0),none⟩ rfl).trans (ao 0 _ rfl)
   have q1:wr.cell? ⟨bM,off+k*3+1,none⟩=_:=(S ⟨bM,off+(k*3+1),none⟩ rfl).trans (ao 1 _ rfl)
   have q2:wr.cell? ⟨bM,off+k*3+2,none⟩=_:=(S ⟨bM,off+(k*3+2),none⟩ rfl).trans (ao 2 _ rfl)
   have f0:∀o,(wr.alloc o).cell? ⟨w.heap.size,0,none⟩=some (.string a.rel):=λo=>(HKr.out.alloc o).at (i:=0) rfl
   have f1:∀o,(wr.alloc o).cell? ⟨w.heap.size,1,none⟩=some (.slice Af nf cf):=λo=>(HKr.out.alloc o).at (i:=1) rfl
   have BA:Hid (Below wr.heap.size wr (wr.alloc (.cells #[.string x.fact.rel,.slice A1 x.fact.args.length J,.int .i64 x.time] 64))):=(Below.refl _ wr).alloc (A6 _) _
   have BWA:Hid (Below w0.heap.size w0 (wr.alloc (.cells #[.string x.fact.rel,.slice A1 x.fact.args.length J,.int .i64 x.time] 64))):=HBW.out.trans (BA.out.mono HBW.out.size)
   have HMA:=yS (HM.out.later BA.out)
   have HKA:=yS (Blk.new wr 64 #[.string x.fact.rel,.slice A1 x.fact.args.length J,.int .i64 x.time])
   clear ao S aw hx V t0 n1 m1 s1 e2
   cases d with
   |true=>
    obtain ⟨⟨xs,Lp,ho,hr,hO,D⟩,E,L⟩:=HMA.out
    have HO:=yS ho
    have HRs:=yS (And.intro hr (And.intro hO D))
    have HVO:Hid (∀g,u8.ownBlock=some g->w0.heap.size<=g):=E
    clear ho hr hO D E L
    go_wp2_with (at_builtin;(refine Zj1 rfl (.tmp 47) (.tmp 49) 30 rfl 64 _ 3 48 underlying30 Zcu rfl yE 0 u8 ds.length xs [_,_,_] rfl (by show Value.slice (some ⟨wr.heap.size+1,0,none⟩) 1 1=_;simp) HO.out rfl (by intro u hu;simp only[AE,AO,or_false]at hu;rcases hu with rfl|rfl|rfl<;>rfl) yE yE (AB _) ?_);intro v' w' l G M)
    refine ⟨⟨k+1,true,yE,yG,rfl,?_⟩,by simp [intOf];omega⟩
    refine ⟨ds++[x],HMA.out.add (AT k) HRs.out.1 HRs.out.2.2 (Zaa.keep HR.out (YA BWA.out HSL.out)) (ZdI.taken HO0.out HP0.out.sub HL1.out HMA.out.below HRs.out.2.1 HRs.out.2.2 HVO.out) (λy m=>.inl (by rw [X9 HL1.out];exact A5 _ m)) l G M,by simp;omega,λ_=>?_,yG⟩
    rw [AR,List.singleton_append,<-ZqS HXE.out]
    exact HD.out.1 (by trivial)
   |false=>
    obtain ⟨zc,ax⟩:∃zc,Zci x.fact a=zc:=⟨_,rfl⟩
    have HZC:=yS ax
    have HCA:Hid (Calls prog 56 #[.agg #[.string x.fact.rel,.slice A1 x.fact.args.length J],.agg #[.string a.rel,.slice Af nf cf]] (wr.alloc (.cells #[.string x.fact.rel,.slice A1 x.fact.args.length J,.int .i64 x.time] 64)) λe w2=>e=.returned (.int .i64 zc)/\Below (wr.alloc (.cells #[.string x.fact.rel,.slice A1 x.fact.args.length J,.int .i64 x.time] 64)).heap.size (wr.alloc (.cells #[.string x.fact.rel,.slice A1 x.fact.args.length J,.int .i64 x.time] 64)) w2):=by
     have bd:=Zab.keep HF0.out (YA BWA.out HLF0.out)
     rw [<-HNF.out]at bd ⊢
     rw [<-ax]
     exact Sound.givesI (Zad (Xd x.fact a)) (Za0 hJ0 HJ0.out BWA.out) (vs:=[_,_]) ⟨Ziw Zbn (Zab.keep HXF.out (YA BWA.out HSL.out)),Ziw Zbn bd,trivial⟩
    clear ax
    go_wp2_with fail
    refine HCA.out.mono ?_
    rintro e w2 ⟨rfl,aa⟩
    have HB2:Hid (Below w0.heap.size w0 w2):=BWA.out.trans (aa.mono BWA.out.size)
    have HM2:=yS (HMA.out.later aa)
    have HS2:=yS (HKA.out.later aa)
    have HK2:=yS (HK.out.later HB2.out)
    have HX2:=yS (HX.out.later HB2.out)
    have HJ2:Hid (J0 w2):=Za0 hJ0 HJ0.out HB2.out
    have HSZ:Hid (wr.heap.size<w2.heap.size):=by have:=aa.size;simp at this;exact this
    obtain ⟨⟨xs,Lp,ho,hr,hO,D⟩,E,L⟩:=HM2.out
    have HO:=yS ho
    have HRs:=yS (And.intro hr (And.intro hO D))
    have HVO:Hid (∀g,u8.ownBlock=some g->w0.heap.size<=g):=E
    have p0:=HS2.out.at (i:=0) rfl
    have p1:=HS2.out.at (i:=1) rfl
    have p2:=HS2.out.at (i:=2) rfl
    clear HCA aa q0 q1 q2 f0 f1 ho hr hO D E L
    by_cases hz:0<zc
    .clear p0 p1 p2
     have f0:w2.cell? ⟨w.heap.size,0,none⟩=some (.string a.rel):=HK2.out.at (i:=0) rfl
     have f1:w2.cell? ⟨w.heap.size,1,none⟩=some (.slice Af nf cf):=HK2.out.at (i:=1) rfl
     have f2:w2.cell? ⟨b,2,none⟩=some (.int .i64 ((ck:Int)+1)):=HX2.out.at (i:=2) rfl
     have HVL:Hid (∀g,u8.ownBlock=some g->g<wr.heap.size):=by
      intro g hg
      obtain ⟨_,_,ho,_⟩:=HM.out.row
      exact ZjE ho g (by rw [hg];simp)
     have HJD:Hid (J0 w2.drew):=Za0 hJ0 HJ0.out HB2.out.drew
     have HFD:Hid (Zab.rep w2.drew [.string a.rel,.slice Af a.args.length cf] a Lf):=by
      rw [HNF.out]
      exact Zab.keep HF0.out (YA HB2.out.drew HLF0.out)
     have HCF:Hid (Yd a=some a):=Z6 a HFA.out
     have HCA:Hid (Calls prog 30 #[.agg #[.string a.rel,.slice Af nf cf]] w2.drew (ZAu Zab w2.drew a)):=by
      have:=Sound.givesX (c:=Zab) (g:=eFact) (x:=a) (Z7 HCF.out) Zbn HJD.out (vs:=[_]) ⟨Ziw Zbn HFD.out,trivial⟩
      rw [HNF.out]at this
      exact this
     go_wp2_with fail
     go_region_held3 (λW=>W.cell? ⟨b,2,none⟩=some (.int .i64 ((ck:Int)+1))/\W.cell? ⟨w.heap.size,0,none⟩=some (.string a.rel)/\W.cell? ⟨w.heap.size,1,none⟩=some (.slice Af nf cf)) (first|exact ⟨f2,f0,f1⟩|exact ⟨ab,ac,ad⟩|exact ⟨ae _,af _,ag _⟩|exact ⟨ah,ai,aj⟩) (first|(go_at_call 30;refine HCA.out.mono ?_;rintro e w7 ⟨bn,L7,rfl,P,ak⟩;obtain ⟨A7,c7,M7,ay,bo,t7,n7,m7,s7⟩:=P.rep;subst ay;have H7:=yS P;have W7:Hid (Below w2.heap.size w2 w7):=(Below.refl _ w2).drew.trans ak;have KX7:=yS (HX2.out.later W7.out);have KF7:=yS (HK2.out.later W7.out);have KS7:=yS (HS2.out.later W7.out);have ab:w7.cell? ⟨b,2,none⟩=some (.int .i64 ((ck:Int)+1)):=KX7.out.at (i:=2) rfl;have ac:w7.cell? ⟨w.heap.size,0,none⟩=some (.string a.rel):=KF7.out.at (i:=0) rfl;have ad:w7.cell? ⟨w.heap.size,1,none⟩=some (.slice Af nf cf):=KF7.out.at (i:=1) rfl;have ae:∀o,(w7.alloc o).cell? ⟨b,2,none⟩=some (.int .i64 ((ck:Int)+1)):=λo=>(KX7.out.alloc o).at (i:=2) rfl;have af:∀o,(w7.alloc o).cell? ⟨w.heap.size,0,none⟩=some (.string a.rel):=λo=>(KF7.out.alloc o).at (i:=0) rfl;have ag:∀o,(w7.alloc o).cell? ⟨w.heap.size,1,none⟩=some (.slice Af nf cf):=λo=>(KF7.out.alloc o).at (i:=1) rfl;have HO7:Hid (w7.ownsV 0 64 Zaa.size u8 ds.length xs):=Zgh HO.out W7.out;clear P ak t7 n7 m7 s7)|(refine ZpM rfl (.tmp 37) (.tmp 45) 30 rfl 64 _ 3 48 underlying30 Zcu rfl yE 0 u8 ds.length xs [_,_,_] rfl rfl HO7.out rfl (by intro u hu;simp only[AE,AO,or_false]at hu;rcases hu with rfl|rfl|rfl<;>rfl) yE yE (AB _) ?_;intro v8 w8 H j I;have KX8:Hid (Blk w8 b 34 #[u0,.slice (some ⟨bM,off,none⟩) n cM,.int .i64 ((ck:Int)+1),u3,.bool f.halted,u5]):=(j.block _ KX7.out.lt (λe=>by have:=HVO.out _ e.symm;have:=HSW.out;omega)).trans KX7.out;have KF8:Hid (Blk w8 w.heap.size 40 #[.string a.rel,.slice Af nf cf]):=(j.block _ KF7.out.lt (λe=>by have:=HVO.out _ e.symm;have:=HSW.out;omega)).trans KF7.out;have ah:w8.cell? ⟨b,2,none⟩=some (.int .i64 ((ck:Int)+1)):=KX8.out.at (i:=2) rfl;have ai:w8.cell? ⟨w.heap.size,0,none⟩=some (.string a.rel):=KF8.out.at (i:=0) rfl;have aj:w8.cell? ⟨w.heap.size,1,none⟩=some (.slice Af nf cf):=KF8.out.at (i:=1) rfl;have H8:Hid (w8.ownsV 0 64 3 v8 (ds.length+1) (xs++[.string a.rel,.slice A7 a.args.length c7,.int .i64 ((ck:Int)+1)])/\w7.grownBy w8 u8.ownBlock/\∀g,v8.ownBlock=some g->u8.ownBlock=some g\/w7.heap.size<=g):=⟨H,j,I⟩;clear H j I))
     have A:=HRs.out.2.1.lt
     have HO9:Hid (Own w7 0 (u8.ownBlock.toList++(Lp++L7))):=by
      have:=(HRs.out.2.1.keep (YA W7.out A)).append H7.out.own (AB _) A
      rw [AR]at this
      exact this
     have N:Zaa.rep w7 [.string a.rel,.slice A7 a.args.length c7,.int .i64 ((ck:Int)+1)] ({ fact:=a,time:=(ck:Int)+1 }:Zr) L7:=by
      obtain ⟨A1,c1,M1,e1,e2,t,n,m,s⟩:=H7.out.rep
      obtain ⟨rfl,rfl⟩:A7=A1/\c7=c1:=by simpa using e1
      exact ⟨A7,c7,M1,rfl,e2,t,n,m,s⟩
     have HM8:=yS ((HM2.out.later W7.out).add (A6 k) (ZbH HRs.out.1 (YA W7.out λy m=>A y (A5 _ m))) HRs.out.2.2 N HO9.out (λy m=>.inr (AC HB2.out.size (H7.out.own.ge y m))) H8.out.1 H8.out.2.1 H8.out.2.2)
     have KS8:Hid (Blk w8 wr.heap.size 64 #[.string x.fact.rel,.slice A1 x.fact.args.length J,.int .i64 x.time]):=(H8.out.2.1.block _ KS7.out.lt (λe=>by have:=HVL.out _ e.symm;omega)).trans KS7.out
     have p0:=KS8.out.at (i:=0) rfl
     have p1:=KS8.out.at (i:=1) rfl
     have p2:=KS8.out.at (i:=2) rfl
     obtain ⟨⟨bp,Lp9,ho,hr,hO,D⟩,E,L⟩:=HM8.out
     have HOb:=yS ho
     have HRb:=yS (And.intro hr (And.intro hO D))
     have HVb:Hid (∀g,v8.ownBlock=some g->w0.heap.size<=g):=E
     have HBb:=yS L
     have hdl9:(ds++[({ fact:=a,time:=(ck:Int)+1 }:Zr)]).length=ds.length+1:=by simp
     clear ho hr hO D E L A N f0 f1 f2 ac ad ab af ag ae ai aj ah
     have hdk:ds.length<=k:=by rw [(HD.out.2 (by trivial)).1];simp;omega
     go_wp2_with (at_builtin;(refine Zj1 rfl (.tmp 47) (.tmp 49) 30 rfl 64 _ 3 48 underlying30 Zcu rfl yE 0 v8 (ds++[({ fact:=a,time:=(ck:Int)+1 }:Zr)]).length bp [_,_,_] rfl rfl HOb.out rfl (by intro u hu;simp only[AE,AO,or_false]at hu;rcases hu with rfl|rfl|rfl<;>rfl) yE yE (AB _) ?_);intro v' w' l G M)
     refine ⟨⟨k+1,true,yE,yG,rfl,?_⟩,by simp [intOf];omega⟩
     refine ⟨ds++[({ fact:=a,time:=(ck:Int)+1 }:Zr)]++[x],HM8.out.add (AT k) HRb.out.1 HRb.out.2.2 (Zaa.keep HR.out (YA HBb.out HSL.out)) (ZdI.taken HO0.out HP0.out.sub HL1.out HBb.out HRb.out.2.1 HRb.out.2.2 HVb.out) (λy m=>.inl (by rw [X9 HL1.out];exact A5 _ m)) l G M,by simp;omega,λ_=>?_,yG⟩
     obtain ⟨h1,h2⟩:=HD.out.2 (by trivial)
     rw [ZqS HXE.out,Zgm,HZC.out,if_pos yE]at h2
     rw [<-h2]
     simp
    .go_wp2_with (at_builtin;(refine Zj1 rfl (.tmp 47) (.tmp 49) 30 rfl 64 _ 3 48 underlying30 Zcu rfl yE 0 u8 ds.length xs [_,_,_] rfl rfl HO.out rfl (by intro u hu;simp only[AE,AO,or_false]at hu;rcases hu with rfl|rfl|rfl<;>rfl) yE yE (AB _) ?_);intro v' w' l G M)
     refine ⟨⟨k+1,false,yE,yG,rfl,?_⟩,by simp [intOf];omega⟩
     refine ⟨ds++[x],HM2.out.add (AT k) HRs.out.1 HRs.out.2.2 (Zaa.keep HR.out (YA HB2.out HSL.out)) (ZdI.taken HO0.out HP0.out.sub HL1.out HM2.out.below HRs.out.2.1 HRs.out.2.2 HVO.out) (λy m=>.inl (by rw [X9 HL1.out];exact A5 _ m)) l G M,by simp;omega,yG,λ_=>?_⟩
     obtain ⟨h1,h2⟩:=HD.out.2 (by trivial)
     rw [ZqS HXE.out,Zgm,HZC.out,if_neg yE]at h2
     refine ⟨by rw [Ad,HXE.out,h1];rfl,?_⟩
     rw [AR]
     exact h2
  .obtain rfl:k=n:=by omega
   cases d with
   |true=>
    have hds:ds=Zgm a ({ fact:=a,time:=(ck:Int)+1 }:Zr) f.memory:=by
     have:=HD.out.1 rfl
     rw [Aq (by have:=HN.out;omega),List.append_nil]at this
     exact this
    have HMl:=HM.out
    rw [hds]at HMl
    have hnM:(Zgm a ({ fact:=a,time:=(ck:Int)+1 }:Zr) f.memory).length<=k+1:=by rw [<-hds];exact av
    obtain ⟨a7,Lp8,O,_⟩:=HMl.row
    obtain ⟨A8,c8,e8,_,_⟩:=XK O
    subst e8
    have HMl:=yS HMl
    have fz:=HXr.out.frozen 1
    have m1:=HXr.out.at (i:=1) rfl
    have g0:∀u,(wr.setCell ⟨b,1,none⟩ u).cell? ⟨w.heap.size,0,none⟩=some (.string a.rel):=λu=>(HKr.out.far (p:=⟨b,1,none⟩) am u).at (i:=0) rfl
    have g1:∀u,(wr.setCell ⟨b,1,none⟩ u).cell? ⟨w.heap.size,1,none⟩=some (.slice Af nf cf):=λu=>(HKr.out.far (p:=⟨b,1,none⟩) am u).at (i:=1) rfl
    clear HD hds O av HM
    go_wp2_with fail
    refine (FIN.out _ _ _ HMl.out).mono ?_
    rintro e w' ⟨rfl,Q⟩
    go_wp2
    go_end0
    obtain ⟨n',Y,F',k1,k2,k3,k4,k5,k6⟩:=Q
    exact ⟨_,n',Y,F',rfl,⟨[],[],⟨rfl,rfl⟩,Own.nil _ _,rfl⟩,k1,k2,k3,k4,k5,k6⟩
   |false=>
    obtain ⟨h1,h2⟩:=HD.out.2 rfl
    have hds:ds++[({ fact:=a,time:=(ck:Int)+1 }:Zr)]=Zgm a ({ fact:=a,time:=(ck:Int)+1 }:Zr) f.memory:=by
     rw [Aq (by have:=HN.out;omega),Zgm]at h2
     exact h2
    have HDS:=yS hds
    obtain ⟨⟨xs,Lp,ho,hr,hO,D⟩,E,L⟩:=HM.out
    have HO:=yS ho
    have HRs:=yS (And.intro hr (And.intro hO D))
    have HVO:Hid (∀g,u8.ownBlock=some g->w0.heap.size<=g):=E
    have f0:wr.cell? ⟨w.heap.size,0,none⟩=some (.string a.rel):=HKr.out.at (i:=0) rfl
    have f1:wr.cell? ⟨w.heap.size,1,none⟩=some (.slice Af nf cf):=HKr.out.at (i:=1) rfl
    have f2:wr.cell? ⟨b,2,none⟩=some (.int .i64 ((ck:Int)+1)):=HXr.out.at (i:=2) rfl
    have HJD:Hid (J0 wr.drew):=Za0 hJ0 HJ0.out HBW.out.drew
    have HFD:Hid (Zab.rep wr.drew [.string a.rel,.slice Af a.args.length cf] a Lf):=by
     rw [HNF.out]
     exact Zab.keep HF0.out (YA HBW.out.drew HLF0.out)
    have HCF:Hid (Yd a=some a):=Z6 a HFA.out
    have HCA:Hid (Calls prog 30 #[.agg #[.string a.rel,.slice Af nf cf]] wr.drew (ZAu Zab wr.drew a)):=by
     have:=Sound.givesX (c:=Zab) (g:=eFact) (x:=a) (Z7 HCF.out) Zbn HJD.out (vs:=[_]) ⟨Ziw Zbn HFD.out,trivial⟩
     rw [HNF.out]at this
     exact this
    clear ho hr hO D E L hds h1 h2
    go_wp2_with fail
    go_region_held3 (λW=>W.cell? ⟨b,2,none⟩=some (.int .i64 ((ck:Int)+1))/\W.cell? ⟨w.heap.size,0,none⟩=some (.string a.rel)/\W.cell? ⟨w.heap.size,1,none⟩=some (.slice Af nf cf)) (first|exact ⟨f2,f0,f1⟩|exact ⟨ab,ac,ad⟩|exact ⟨ae _,af _,ag _⟩|exact ⟨ah,ai,aj⟩) (first|(go_at_call 30;refine HCA.out.mono ?_;rintro e w7 ⟨bn,L7,rfl,P,ak⟩;obtain ⟨A7,c7,M7,ay,bo,t7,n7,m7,s7⟩:=P.rep;subst ay;have H7:=yS P;have W7:Hid (Below wr.heap.size wr w7):=(Below.refl _ wr).drew.trans ak;have KX7:=yS (HXr.out.later W7.out);have KF7:=yS (HKr.out.later W7.out);have ab:w7.cell? ⟨b,2,none⟩=some (.int .i64 ((ck:Int)+1)):=KX7.out.at (i:=2) rfl;have ac:w7.cell? ⟨w.heap.size,0,none⟩=some (.string a.rel):=KF7.out.at (i:=0) rfl;have ad:w7.cell? ⟨w.heap.size,1,none⟩=some (.slice Af nf cf):=KF7.out.at (i:=1) rfl;have ae:∀o,(w7.alloc o).cell? ⟨b,2,none⟩=some (.int .i64 ((ck:Int)+1)):=λo=>(KX7.out.alloc o).at (i:=2) rfl;have af:∀o,(w7.alloc o).cell? ⟨w.heap.size,0,none⟩=some (.string a.rel):=λo=>(KF7.out.alloc o).at (i:=0) rfl;have ag:∀o,(w7.alloc o).cell? ⟨w.heap.size,1,none⟩=some (.slice Af nf cf):=λo=>(KF7.out.alloc o).at (i:=1) rfl;have HO7:Hid (w7.ownsV 0 64 Zaa.size u8 ds.length xs):=Zgh HO.out W7.out;clear P ak t7 n7 m7 s7)|(refine ZpM rfl (.tmp 54) (.tmp 62) 30 rfl 64 _ 3 48 underlying30 Zcu rfl yE 0 u8 ds.length xs [_,_,_] rfl rfl HO7.out rfl (by intro u hu;simp only[AE,AO,or_false]at hu;rcases hu with rfl|rfl|rfl<;>rfl) yE yE (AB _) ?_;intro v8 w8 H j I;have KX8:Hid (Blk w8 b 34 #[u0,.slice AM k cM,.int .i64 ((ck:Int)+1),u3,.bool f.halted,u5]):=(j.block _ KX7.out.lt (λe=>by have:=HVO.out _ e.symm;have:=HSW.out;omega)).trans KX7.out;have KF8:Hid (Blk w8 w.heap.size 40 #[.string a.rel,.slice Af nf cf]):=(j.block _ KF7.out.lt (λe=>by have:=HVO.out _ e.symm;have:=HSW.out;omega)).trans KF7.out;have ah:w8.cell? ⟨b,2,none⟩=some (.int .i64 ((ck:Int)+1)):=KX8.out.at (i:=2) rfl;have ai:w8.cell? ⟨w.heap.size,0,none⟩=some (.string a.rel):=KF8.out.at (i:=0) rfl;have aj:w8.cell? ⟨w.heap.size,1,none⟩=some (.slice Af nf cf):=KF8.out.at (i:=1) rfl;have H8:Hid (w8.ownsV 0 64 3 v8 (ds.length+1) (xs++[.string a.rel,.slice A7 a.args.length c7,.int .i64 ((ck:Int)+1)])/\w7.grownBy w8 u8.ownBlock/\∀g,v8.ownBlock=some g->u8.ownBlock=some g\/w7.heap.size<=g):=⟨H,j,I⟩;clear H j I))
    have A:=HRs.out.2.1.lt
    have HO9:Hid (Own w7 0 (u8.ownBlock.toList++(Lp++L7))):=by
     have:=(HRs.out.2.1.keep (YA W7.out A)).append H7.out.own (AB _) A
     rw [AR]at this
     exact this
    have N:Zaa.rep w7 [.string a.rel,.slice A7 a.args.length c7,.int .i64 ((ck:Int)+1)] ({ fact:=a,time:=(ck:Int)+1 }:Zr) L7:=by
     obtain ⟨A1,c1,M1,e1,e2,t,n,m,s⟩:=H7.out.rep
     obtain ⟨rfl,rfl⟩:A7=A1/\c7=c1:=by simpa using e1
     exact ⟨A7,c7,M1,rfl,e2,t,n,m,s⟩
    have HMl:=(HM.out.later W7.out).add (A6 k) (ZbH HRs.out.1 (YA W7.out λy m=>A y (A5 _ m))) HRs.out.2.2 N HO9.out (λy m=>.inr (AC HBW.out.size (H7.out.own.ge y m))) H8.out.1 H8.out.2.1 H8.out.2.2
    rw [HDS.out]at HMl
    obtain ⟨a7,Lp8,O,_⟩:=HMl.row
    obtain ⟨A8,c8,e8,_,_⟩:=XK O
    subst e8
    have HMl:=yS HMl
    have fz:=KX8.out.frozen 1
    have m1:=KX8.out.at (i:=1) rfl
    have g0:∀u,(w8.setCell ⟨b,1,none⟩ u).cell? ⟨w.heap.size,0,none⟩=some (.string a.rel):=λu=>(KF8.out.far (p:=⟨b,1,none⟩) am u).at (i:=0) rfl
    have g1:∀u,(w8.setCell ⟨b,1,none⟩ u).cell? ⟨w.heap.size,1,none⟩=some (.slice Af nf cf):=λu=>(KF8.out.far (p:=⟨b,1,none⟩) am u).at (i:=1) rfl
    clear HD HDS O av HM H8 HO9 N A f0 f1 f2 ac ad ab af ag ae ai aj ah
    go_wp2_with fail
    refine (FIN.out _ _ _ HMl.out).mono ?_
    rintro e w' ⟨rfl,Q⟩
    go_wp2
    go_end0
    obtain ⟨n',Y,F',k1,k2,k3,k4,k5,k6⟩:=Q
    exact ⟨_,n',Y,F',rfl,⟨[],[],⟨rfl,rfl⟩,Own.nil _ _,rfl⟩,k1,k2,k3,k4,k5,k6⟩
theorem i_Engine_add_ok {a:Zo}{d:Zd}{b:Int}{c:ByteArray}{r:Zo}(h:Xp a d b c=some r):Zgo prog J0 JF0 28 34 [(false,.sl 76 4 (A0 eRule a.rules)),(false,.sl 64 3 (A0 eStamp a.memory)),(false,.int .i64 a.clock),(false,.sl 94 2 (A0 eFiring a.fired)),(false,.bool a.halted),(false,.sl 97 4 (A0 eEvent a.log))] none [(true,eFact d),(false,[.int .i64 b]),(false,[.str c])] [] [(false,.sl 76 4 (A0 eRule r.rules)),(false,.sl 64 3 (A0 eStamp r.memory)),(false,.int .i64 r.clock),(false,.sl 94 2 (A0 eFiring r.fired)),(false,.bool r.halted),(false,.sl 97 4 (A0 eEvent r.log))]:=ZHT h
end
section
theorem ZhO {a:ByteArray}{r:(Zf×Bool)}(h:Zat a=some r):Sound prog J0 65 [(false,[.str a])] [(true,[(false,.str r.1.name),(false,.int .i64 r.1.priority),(false,.sl 134 5 (A0 ZO r.1.cond)),(false,.sl 115 3 (A0 eAction r.1.thn))]),(false,[(false,.bool r.2)])]:=by
 refine fnk func65 rfl ?_
 unfold Zat at h
 have b:Z9 ⟨#[32,45,62,32]⟩=true:=by decide
 have c:Z9 ⟨#[32]⟩=true:=by decide
 have d:Z9 ⟨#[58,32]⟩=true:=by decide
 simp only[fnS,f65,Zk,go_sem,seval,b,c,d]
 refine Zb h λ_ e h=>Za (QV e)<|yA ?_
 refine yB h (λ_ h=>?_) λ_ h=>?_
 cases h;exact yD
 obtain ⟨_,h⟩:=Zq h
 obtain ⟨_,f,h⟩:=ZE h
 try simp only[seval]at f
 simp only[*,go_sem,seval]
 refine Zb h λ_ g h=>Za (QV g) ?_
 obtain ⟨_,h⟩:=Zq h
 obtain ⟨_,i,h⟩:=ZE h
 try simp only[seval]at i
 simp only[*,go_sem,seval]
 refine Zb h λ_ j h=>Za (QV j) ?_
 iterate 2 (simp only[*,go_sem,seval];(refine Ze h (λ_ h=>?_) λ_ h=>?_<;>try simp only[*,go_sem,seval]);cases h)
 simp only[*,go_sem,seval]
 obtain ⟨_,h⟩:=Zq h
 obtain ⟨_,k,h⟩:=ZE h
 try simp only[seval]at k
 simp only[*,go_sem,seval]
 refine Zb h λ_ l h=>Za (ZcL l)<|yA ?_
 refine yB h (λ_ h=>?_) λ_ h=>?_
 obtain ⟨_,h⟩:=Zq h
 obtain ⟨_,m,h⟩:=ZE h
 try simp only[seval]at m
 obtain ⟨_,h⟩:=Zq h
 obtain ⟨_,o,h⟩:=ZE h
 try simp only[seval]at o
 obtain ⟨_,h⟩:=Zq h
 obtain ⟨_,p,h⟩:=ZE h
 try simp only[seval]at p
 simp only[*,go_sem,seval]
 refine Zb h λ_ q h=>Za (Zrc q)<|yA ?_
 refine yB h (λ_ h=>?_) λ_ h=>?_
 iterate 3 (cases h;exact yD)
theorem Zjg {a:(List Zf)}{String_1:(List Zd)}{r:((List Zd)×Bool)}(h:Yy a String_1=some r):Sound prog J0 67 [(false,[.sl 76 4 (A0 eRule a)]),(false,[.sl 40 2 (A0 eFact String_1)])] [(false,[(false,.sl 40 2 (A0 eFact r.1))]),(false,[(false,.bool r.2)])]:=by
 refine fnn 4 func67 rfl ?_
 unfold Yy at h
 simp only[fnN,f67,Zk,go_sem,seval]
 refine Zb h λ_ H h=>Za (Zmc H)<|yA ?_
 refine yB h (λ_ h=>?_) λ_ h=>?_
 refine Zb h λ_ I h=>Za (ZiH I)<|yA ?_
 refine yB h (λ_ h=>?_) λ_ h=>?_
 refine Zb h λ_ J h=>Za (Zey J)<|yA ?_
 refine Yr h (λs st=>match s with|(v,w)=>IV [(0,yM (yW a)),(6,.p false [.n (yU v)]),(7,yM (.bool w))] [] st) [(false,6,4096)] [] yF yD ?_
 rintro ⟨v,w⟩ ⟨_,_,_⟩ _ x _ h y
 simp only[go_sem,seval,Zc]at x
 obtain ⟨⟨_,_,_⟩,hn⟩:=x
 subst hn
 simp only[*,go_sem,seval]
 refine yB h (λ_ h=>?_) λ_ h=>?_
 refine Zh h (λi s st=>match s with|(f,g)=>IV [(0,yM (yW a)),(6,.p false [.n (yU f)]),(7,yM (.bool g)),(27,yM (yW a)),(28,yL a.length),(29,yL i)] [] st) [] [] yF yD ?_ ?_
 rintro z d ⟨f,g⟩ ⟨_,_,_⟩ _ k A K h L
 simp only[go_sem,seval,Zc]at A
 obtain ⟨⟨M,_,_,_,_,_⟩,hn⟩:=A
 subst hn
 have N:=WF.slotL K M (j:=0) rfl
 have:=Zz k
 have:=ZC k
 have:=Zj (ZA k) N
 simp only[*,go_sem,seval]
 obtain ⟨_,O,h⟩:=ZE h
 refine Zkx (ZfO O)<|yA ?_
 obtain ⟨e,P,h⟩:=ZE h
 refine Zkx (Zfi P)<|yA ?_
 refine Zh h (λi s st=>match s with|(l,m)=>IV [(0,yM (yW a)),(6,.p false [.n (yU l)]),(7,yM (.bool m)),(9,.bp 0 0),(27,yM (yW a)),(28,yL a.length),(29,yL z),(36,yM (zF e)),(37,yL e.length),(38,yL i)] [zI 76 (eRule d)] st) [] [48] yF yD ?_ ?_
 rintro Q B ⟨l,m⟩ ⟨_,_,_⟩ _ o C R h S
 simp only[go_sem,seval,Zc]at C
 obtain ⟨⟨_,_,_,_,_,_,_,T,_,_⟩,_,hn⟩:=C
 subst hn
 have U:=WF.slotL R T (j:=0) rfl
 have:=Zz o
 have:=ZC o
 have:=Zj (ZA o) U
 simp only[*,go_sem,seval]
 refine Zh h (λi s st=>match s with|(q,t)=>IV [(0,yM (yW a)),(6,.p false [.n (yU q)]),(7,yM (.bool t)),(9,.bp 0 0),(11,.bp 1 0),(27,yM (yW a)),(28,yL a.length),(29,yL z),(36,yM (zF e)),(37,yL e.length),(38,yL Q),(43,yM (zA d.thn)),(44,yL d.thn.length),(45,yL i)] [zI 76 (eRule d),zI 132 (eToken B)] st) [] [0,49] yF yD ?_ ?_
 rintro _ _ ⟨q,t⟩ ⟨_,_,_⟩ _ u D V h W
 simp only[go_sem,seval,Zc]at D
 obtain ⟨⟨_,_,_,_,_,_,_,_,_,_,_,X,_,_⟩,_,_,hn⟩:=D
 subst hn
 have Y:=WF.slotL V X (j:=0) rfl
 have:=Zz u
 have:=ZC u
 have:=Zj (ZA u) Y
 simp only[*,go_sem,seval]
 refine Zb h λ_ Z h=>Za (i_Instance_ok Z)<|yA ?_
 refine Zb h λ_ aa h=>Za (ZcM aa)<|yA ?_
 refine yB h (λ_ h=>?_) λ_ h=>?_
 exact yR h [0,1]
 refine yB h (λ_ h=>?_) λ_ h=>?_
 replace h:=Zn h W
 replace h:=Zn h S
 replace h:=Zn h L
 replace h:=Zn h y
 cases h;exact yD
 refine Zb h λ_ ab h=>Za (ZqQ ab)<|yA ?_
 exact yC h [(false,6,4096)] [0,1]
 rintro ⟨q,t⟩ ⟨_,_,_⟩ E _ h
 simp only[go_sem,seval,Zc]at E
 obtain ⟨⟨_,_,_,_,_,_,_,_,_,_,_,_,_,_⟩,_,_,hn⟩:=E
 subst hn
 have:=Zx (d.thn.length)
 simp only[*,go_sem,seval]
 exact yR h [0]
 rintro ⟨l,m⟩ ⟨_,_,_⟩ F _ h
 simp only[go_sem,seval,Zc]at F
 obtain ⟨⟨_,_,_,_,_,_,_,_,_,_⟩,_,hn⟩:=F
 subst hn
 have:=Zx (e.length)
 simp only[*,go_sem,seval]
 exact yR h []
 rintro ⟨f,g⟩ ⟨_,_,_⟩ G _ h
 simp only[go_sem,seval,Zc]at G
 obtain ⟨⟨_,_,_,_,_,_⟩,hn⟩:=G
 subst hn
 have:=Zx (a.length)
 simp only[*,go_sem,seval]
 exact yR h []
 replace h:=Zn h y
 iterate 3 (cases h;exact yD)
theorem Zt7 {append_0:(List Zt)}{a:Zp}{a_2:(List Zd)}{r:(List Zt)}(h:ZhB append_0 a a_2=some r):Sound prog J0 123 [(false,[.sl 132 2 (A0 eToken append_0)]),(true,ZO a),(false,[.sl 40 2 (A0 eFact a_2)])] [(false,[(false,.sl 132 2 (A0 eToken r))])]:=by
 refine fnk func123 rfl ?_
 unfold ZhB at h
 simp only[fnS,f123,Zk,go_sem,seval]
 refine Zh h (λi b st=>IV [(0,yM (zF append_0)),(2,yM (yU a_2)),(4,.bp 0 0),(7,.p false [.row 1]),(8,yL i)] [zI 134 (ZO a),.row 132 2 (A0 eToken b) 2] st) [] [0,32] yF yD ?_ ?_
 rintro o _ b ⟨_,_,_⟩ _ d g q h _
 simp only[go_sem,seval,Zc]at g
 obtain ⟨⟨t,_,_,_,_⟩,_,_,hn⟩:=g
 subst hn
 have u:=WF.slotL q t (j:=0) rfl
 have:=Zz d
 have:=ZC d
 have:=Zj (ZA d) u
 simp only[*,go_sem,seval]
 refine yB h (λ_ h=>?_) λ_ h=>?_
 refine Zb h λ_ v h=>Za (Znz v)<|yA ?_
 refine yB h (λ_ h=>?_) λ_ h=>?_
 refine Zb h λ_ w h=>Za (ZsT w) ?_
 obtain ⟨x,h⟩:=Zq h
 try simp only[Nat.reduceLeDiff]at x
 simp only[*,go_sem,seval]
 exact yR h [0,354]
 exact yR h [0,1]
 refine Zh h (λi e st=>IV [(0,yM (zF append_0)),(2,yM (yU a_2)),(4,.bp 0 0),(7,.p false [.row 1]),(8,yL o),(9,yL i)] [zI 134 (ZO a),.row 132 2 (A0 eToken e) 2] st) [] [0,1] yF yD ?_ ?_
 rintro _ _ e ⟨_,_,_⟩ _ f k y h _
 simp only[go_sem,seval,Zc]at k
 obtain ⟨⟨_,z,_,_,_,_⟩,_,_,hn⟩:=k
 subst hn
 have A:=WF.slotL y z (j:=0) rfl
 have:=Zz f
 have:=ZC f
 have:=Zj (ZA f) A
 simp only[*,go_sem,seval]
 refine Zb h λ_ B h=>Za (Zhl B)<|yA ?_
 refine yB h (λ_ h=>?_) λ_ h=>?_
 refine Zb h λ_ C h=>Za (s_l2Copies_ok C)<|yA ?_
 refine Zb h λ_ D h=>Za (Xw D) ?_
 obtain ⟨E,h⟩:=Zq h
 try simp only[Nat.reduceLeDiff]at E
 obtain ⟨F,h⟩:=Zq h
 try simp only[Nat.reduceLeDiff]at F
 simp only[*,go_sem,seval]
 exact yR h [0,626]
 exact yR h [0,1]
 rintro e ⟨_,_,_⟩ l _ h
 simp only[go_sem,seval,Zc]at l
 obtain ⟨⟨_,_,_,_,_,_⟩,_,_,hn⟩:=l
 subst hn
 have:=Zx (a_2.length)
 simp only[*,go_sem,seval]
 exact yR h [0,1]
 rintro b ⟨_,_,_⟩ m _ h
 simp only[go_sem,seval,Zc]at m
 obtain ⟨⟨_,_,_,_,_⟩,_,_,hn⟩:=m
 subst hn
 have:=Zx (append_0.length)
 cases h;exact yD
theorem s_AreLogical_ok {append_0:(List Zf)}{r:Bool}(h:ZbR append_0=some r):Sound prog J0 119 [(false,[.sl 76 4 (A0 eRule append_0)])] [(false,[(false,.bool r)])]:=by
 refine fnk func119 rfl ?_
 unfold ZbR at h
 simp only[fnS,f119,Zk,go_sem,seval]
 refine Zh h (λi _ st=>IV [(0,yM (yW append_0)),(3,yL i)] [] st) [] [] yF yD ?_ ?_
 rintro l x ⟨⟩ ⟨_,_,_⟩ _ b m y h d
 simp only[go_sem,seval,Zc]at m
 obtain ⟨⟨z,_⟩,hn⟩:=m
 subst hn
 have A:=WF.slotL y z (j:=0) rfl
 have:=Zz b
 have:=ZC b
 have:=Zj (ZA b) A
 simp only[*,go_sem,seval]
 refine Zb h λ_ B h=>Za (ZmR B)<|yA ?_
 refine yB h (λ_ h=>?_) λ_ h=>?_
 refine Zb h λe C h=>Za (ZiL C)<|yA ?_
 refine Zh h (λi _ st=>IV [(0,yM (yW append_0)),(3,yL l),(4,.p false [.row 0]),(5,yL i)] [.row 9 1 (A0 ZB e) 2] st) [] [224] yF yD ?_ ?_
 rintro D a ⟨⟩ ⟨_,_,_⟩ _ f o E h q
 simp only[go_sem,seval,Zc]at o
 obtain ⟨⟨F,_,_,_⟩,_,hn⟩:=o
 subst hn
 have G:=WF.elL (WF.slotD E F (j:=0) rfl) b (j:=2) rfl
 have:=Zz f
 have:=ZC f
 have:=Zj (ZA f) G
 simp only[*,go_sem,seval]
 refine Zh h (λi _ st=>IV [(0,yM (yW append_0)),(3,yL l),(4,.p false [.row 0]),(5,yL D),(6,.bp 1 0),(7,yL i)] [.row 9 1 (A0 ZB e) 2,zI 134 (ZO a)] st) [] [0,257] yF yD ?_ ?_
 rintro _ _ ⟨⟩ ⟨_,_,_⟩ _ g t H h k
 simp only[go_sem,seval,Zc]at t
 obtain ⟨⟨_,_,_,_,_,_⟩,I,_,hn⟩:=t
 subst hn
 have J:=WF.rowL H I
 have:=Zz g
 have:=ZC g
 have:=Zj (ZA g) J
 simp only[*,go_sem,seval]
 iterate 2 refine yB h (λ_ h=>?_) λ_ h=>?_
 replace h:=Zn h k
 replace h:=Zn h q
 replace h:=Zn h d
 cases h;exact yD
 refine Zb h λ_ K h=>Za (Zmb K)<|yA ?_
 refine yB h (λ_ h=>?_) λ_ h=>?_
 replace h:=Zn h k
 replace h:=Zn h q
 replace h:=Zn h d
 cases h;exact yD
 exact yR h [0,1]
 replace h:=Zn h k
 exact yR h [0]
 rintro ⟨⟩ ⟨_,_,_⟩ u _ h
 simp only[go_sem,seval,Zc]at u
 obtain ⟨⟨_,_,_,_,_,_⟩,_,_,hn⟩:=u
 subst hn
 have:=Zx (e.length)
 simp only[*,go_sem,seval]
 exact yR h [0]
 rintro ⟨⟩ ⟨_,_,_⟩ v _ h
 simp only[go_sem,seval,Zc]at v
 obtain ⟨⟨_,_,_,_⟩,_,hn⟩:=v
 subst hn
 have:=Zx (x.cond.length)
 simp only[*,go_sem,seval]
 exact yR h []
 replace h:=Zn h d
 cases h;exact yD
 rintro ⟨⟩ ⟨_,_,_⟩ w _ h
 simp only[go_sem,seval,Zc]at w
 obtain ⟨⟨_,_⟩,hn⟩:=w
 subst hn
 have:=Zx (append_0.length)
 simp only[*,go_sem,seval]
 refine Zb h λ_ L h=>Za (Zo4 L) ?_
 cases h;exact yD
theorem i_PutFact_ok {e_0:Zo}{f_1:Zd}{r:(Zo×Bool)}(h:ZdU e_0 f_1=some r):Sound prog J0 9 [(true,eEngine e_0),(true,eFact f_1)] [(true,[(false,.sl 76 4 (A0 eRule r.1.rules)),(false,.sl 64 3 (A0 eStamp r.1.memory)),(false,.int .i64 r.1.clock),(false,.sl 94 2 (A0 eFiring r.1.fired)),(false,.bool r.1.halted),(false,.sl 97 4 (A0 eEvent r.1.log))]),(false,[(false,.bool r.2)])]:=by
 refine fnk func9 rfl ?_
 unfold ZdU at h
 have a:Z9 ⟨#[]⟩=true:=by decide
 simp only[fnS,f9,Zk,go_sem,seval,a]
 refine Zb h λ_ b h=>Za (i_copyEngine_ok b)<|yA ?_
 refine Zb h λ_ c h=>Za (i_IsEngine_ok c)<|yA ?_
 refine yB h (λ_ h=>?_) λ_ h=>?_
 refine Zb h λ_ d h=>Za (Y9 d)<|yA ?_
 refine yB h (λ_ h=>?_) λ_ h=>?_
 refine Zb h λ_ e h=>Za (i_hasStamp_ok e) ?_
 iterate 4 (simp only[*,go_sem,seval];(refine Ze h (λ_ h=>?_) λ_ h=>?_<;>try simp only[*,go_sem,seval]);cases h)
 simp only[*,go_sem,seval]
 obtain ⟨_,f,h⟩:=ZE h
 refine ZnB (i_Engine_add_ok f) ?_
 iterate 3 (cases h;exact yD)
theorem ZnF {r_0:Zf}{facts_1:(List Zd)}{r:(List Xb)}(h:Zc0 r_0 facts_1=some r):Sound prog J0 138 [(true,eRule r_0),(false,[.sl 40 2 (A0 eFact facts_1)])] [(false,[(true,.sl 110 3 (A0 eMatch r))])]:=by
 refine fnk func138 rfl ?_
 unfold Zc0 at h
 simp only[fnS,f138,Zk,go_sem,seval]
 obtain ⟨a,g,h⟩:=ZE h
 refine Zkx (Zfi g)<|yA ?_
 refine Zh h (λi b st=>IV [(2,.bp 0 0),(5,.p false [.row 1]),(11,yM (zF a)),(12,yL a.length),(13,yL i)] [zI 76 (eRule r_0),.row 110 3 (A0 eMatch b) 1] st) [(false,5,0),(true,144,1)] [0,144] yF yD ?_ ?_
 rintro _ _ b ⟨_,_,_⟩ _ d e k h _
 simp only[go_sem,seval,Zc]at e
 obtain ⟨⟨_,_,l,_,_⟩,_,_,hn⟩:=e
 subst hn
 have m:=WF.slotL k l (j:=0) rfl
 have:=Zz d
 have:=ZC d
 have:=Zj (ZA d) m
 obtain ⟨o,h⟩:=Zq h
 try simp only[Nat.reduceLeDiff]at o
 simp only[*,go_sem,seval]
 exact yR h [0,226]
 rintro b ⟨_,_,_⟩ f _ h
 simp only[go_sem,seval,Zc]at f
 obtain ⟨⟨_,_,_,_,_⟩,_,_,hn⟩:=f
 subst hn
 have:=Zx (a.length)
 cases h;exact yD
end
section
theorem s_l14Known_ok {c_0:l1CurD}{nots_1:Bool}{r:(Zf×l1CurD)}(h:Zcn c_0 nots_1=some r):SoundH prog J0 JF0 35 (.box 71 (el1Cur c_0)) [(false,[.bool nots_1])] [(true,[(false,.str r.1.name),(false,.int .i64 r.1.priority),(false,.sl 134 5 (A0 ZO r.1.cond)),(false,.sl 115 3 (A0 eAction r.1.thn))])] (.box 71 (el1Cur r.2)):=by
 refine fnh func35 rfl ?_
 unfold Zcn at h
 have a:Z9 ⟨#[114,32,48,58,32,112,40,63,120,41,32,38,32,111,110,40,63,120,44,63,121,41,32,38,32,63,120,32,33,61,32,63,121,32,45,62,32,97,100,100,32,113,40,63,121,41]⟩=true:=by decide
 have b:Z9 ⟨#[114,32,48,58,32,115,40,63,120,41,32,38,32,110,111,116,32,122,40,41,32,38,32,110,111,116,32,112,40,63,120,41,32,45,62,32,97,100,100,32,98,97,100,40,41]⟩=true:=by decide
 have c:Z9 ⟨#[114,32,49,58,32,111,110,40,63,120,44,63,121,41,32,38,32,111,110,40,63,121,44,63,122,41,32,45,62,32,97,100,100,32,111,110,40,63,120,44,63,122,41]⟩=true:=by decide
 have d:Z9 ⟨#[114,32,49,58,32,113,40,63,120,41,32,38,32,111,110,40,63,120,44,63,121,41,32,38,32,110,111,116,32,113,40,63,121,41,32,45,62,32,97,100,100,32,115,40,63,120,41]⟩=true:=by decide
 have e:Z9 ⟨#[114,32,49,58,32,113,40,63,120,41,32,38,32,112,40,63,120,41,32,45,62,32,97,100,100,32,98,97,100,40,41]⟩=true:=by decide
 have f:Z9 ⟨#[114,32,49,58,32,97,116,40,63,120,44,63,121,41,32,45,62,32,97,100,100,32,111,110,40,63,120,44,63,121,41]⟩=true:=by decide
 have g:Z9 ⟨#[114,32,50,58,32,111,110,40,63,120,44,63,121,41,32,38,32,112,40,63,121,41,32,45,62,32,97,100,100,32,112,40,63,120,41]⟩=true:=by decide
 have i:Z9 ⟨#[114,32,50,58,32,112,40,63,120,41,32,38,32,110,111,116,32,113,40,63,120,41,32,45,62,32,97,100,100,32,115,40,63,120,41]⟩=true:=by decide
 have j:Z9 ⟨#[114,32,51,58,32,112,40,63,120,41,32,38,32,112,40,63,121,41,32,38,32,63,120,32,60,32,63,121,32,45,62,32,97,100,100,32,122,40,41]⟩=true:=by decide
 have k:Z9 ⟨#[114,32,52,58,32,111,110,40,63,120,44,97,41,32,45,62,32,97,100,100,32,113,40,63,120,41,32,38,32,97,100,100,32,112,40,97,41]⟩=true:=by decide
 have l:Z9 ⟨#[114,32,53,58,32,111,110,40,63,120,44,63,121,41,32,38,32,110,111,116,32,112,40,63,121,41,32,45,62,32,97,100,100,32,115,40,63,121,41]⟩=true:=by decide
 simp only[fnH,f35,ZeR,Zez,XY,go_sem,seval,a,b,c,d,e,f,g,i,j,k,l]
 refine yB h (λ_ h=>?_) λ_ h=>?_
 obtain ⟨m,o,h⟩:=ZE h
 refine Zan (s_l1Below_ok o) ?_
 obtain ⟨p,h⟩:=Zq h
 try simp only[seval]at p
 obtain ⟨q,t,h⟩:=ZE h
 have u:(A0 ZB [(⟨#[114,32,49,58,32,111,110,40,63,120,44,63,121,41,32,38,32,111,110,40,63,121,44,63,122,41,32,45,62,32,97,100,100,32,111,110,40,63,120,44,63,122,41]⟩),(⟨#[114,32,50,58,32,111,110,40,63,120,44,63,121,41,32,38,32,112,40,63,121,41,32,45,62,32,97,100,100,32,112,40,63,120,41]⟩),(⟨#[114,32,48,58,32,112,40,63,120,41,32,38,32,111,110,40,63,120,44,63,121,41,32,38,32,63,120,32,33,61,32,63,121,32,45,62,32,97,100,100,32,113,40,63,121,41]⟩),(⟨#[114,32,51,58,32,112,40,63,120,41,32,38,32,112,40,63,121,41,32,38,32,63,120,32,60,32,63,121,32,45,62,32,97,100,100,32,122,40,41]⟩),(⟨#[114,32,52,58,32,111,110,40,63,120,44,97,41,32,45,62,32,97,100,100,32,113,40,63,120,41,32,38,32,97,100,100,32,112,40,97,41]⟩),(⟨#[114,32,49,58,32,113,40,63,120,41,32,38,32,112,40,63,120,41,32,45,62,32,97,100,100,32,98,97,100,40,41]⟩),(⟨#[114,32,49,58,32,97,116,40,63,120,44,63,121,41,32,45,62,32,97,100,100,32,111,110,40,63,120,44,63,121,41]⟩),(⟨#[114,32,50,58,32,112,40,63,120,41,32,38,32,110,111,116,32,113,40,63,120,41,32,45,62,32,97,100,100,32,115,40,63,120,41]⟩),(⟨#[114,32,53,58,32,111,110,40,63,120,44,63,121,41,32,38,32,110,111,116,32,112,40,63,121,41,32,45,62,32,97,100,100,32,115,40,63,121,41]⟩),(⟨#[114,32,48,58,32,115,40,63,120,41,32,38,32,110,111,116,32,122,40,41,32,38,32,110,111,116,32,112,40,63,120,41,32,45,62,32,97,100,100,32,98,97,100,40,41]⟩),(⟨#[114,32,49,58,32,113,40,63,120,41,32,38,32,111,110,40,63,120,44,63,121,41,32,38,32,110,111,116,32,113,40,63,121,41,32,45,62,32,97,100,100,32,115,40,63,120,41]⟩)])[(Int.toNat m.1)]?=some (ZB q):=by rw [Ar,t];rfl
 simp only[AY,AZ,Zry]at u
 simp only[*,go_sem,seval]
 refine Zb h λ_ v h=>Za (ZhO v) ?_
 cases h;exact yD
 obtain ⟨w,x,h⟩:=ZE h
 refine Zan (s_l1Below_ok x) ?_
 obtain ⟨y,h⟩:=Zq h
 try simp only[seval]at y
 obtain ⟨z,A,h⟩:=ZE h
 have B:(A0 ZB [(⟨#[114,32,49,58,32,111,110,40,63,120,44,63,121,41,32,38,32,111,110,40,63,121,44,63,122,41,32,45,62,32,97,100,100,32,111,110,40,63,120,44,63,122,41]⟩),(⟨#[114,32,50,58,32,111,110,40,63,120,44,63,121,41,32,38,32,112,40,63,121,41,32,45,62,32,97,100,100,32,112,40,63,120,41]⟩),(⟨#[114,32,48,58,32,112,40,63,120,41,32,38,32,111,110,40,63,120,44,63,121,41,32,38,32,63,120,32,33,61,32,63,121,32,45,62,32,97,100,100,32,113,40,63,121,41]⟩),(⟨#[114,32,51,58,32,112,40,63,120,41,32,38,32,112,40,63,121,41,32,38,32,63,120,32,60,32,63,121,32,45,62,32,97,100,100,32,122,40,41]⟩),(⟨#[114,32,52,58,32,111,110,40,63,120,44,97,41,32,45,62,32,97,100,100,32,113,40,63,120,41,32,38,32,97,100,100,32,112,40,97,41]⟩),(⟨#[114,32,49,58,32,113,40,63,120,41,32,38,32,112,40,63,120,41,32,45,62,32,97,100,100,32,98,97,100,40,41]⟩),(⟨#[114,32,49,58,32,97,116,40,63,120,44,63,121,41,32,45,62,32,97,100,100,32,111,110,40,63,120,44,63,121,41]⟩),(⟨#[114,32,50,58,32,112,40,63,120,41,32,38,32,110,111,116,32,113,40,63,120,41,32,45,62,32,97,100,100,32,115,40,63,120,41]⟩),(⟨#[114,32,53,58,32,111,110,40,63,120,44,63,121,41,32,38,32,110,111,116,32,112,40,63,121,41,32,45,62,32,97,100,100,32,115,40,63,121,41]⟩),(⟨#[114,32,48,58,32,115,40,63,120,41,32,38,32,110,111,116,32,122,40,41,32,38,32,110,111,116,32,112,40,63,120,41,32,45,62,32,97,100,100,32,98,97,100,40,41]⟩),(⟨#[114,32,49,58,32,113,40,63,120,41,32,38,32,111,110,40,63,120,44,63,121,41,32,38,32,110,111,116,32,113,40,63,121,41,32,45,62,32,97,100,100,32,115,40,63,120,41]⟩)])[(Int.toNat w.1)]?=some (ZB z):=by rw [Ar,A];rfl
 simp only[AY,AZ,Zry]at B
 simp only[*,go_sem,seval]
 refine Zb h λ_ C h=>Za (ZhO C) ?_
 cases h;exact yD
theorem i_ground_ok {d:(List Zf)}{g:(List Zd)}{r:((List Zd)×Zu×(List Zbl)×Bool)}(h:Zb1 d g=some r):Sound prog J0 39 [(false,[.sl 76 4 (A0 eRule d)]),(false,[.sl 40 2 (A0 eFact g)])] [(false,[(false,.sl 40 2 (A0 eFact r.1))]),(true,[(false,.int .i64 r.2.1.nodes),(false,.sl 125 3 (A0 eReason r.2.1.reasons))]),(false,[(false,.any)]),(false,[(false,.bool r.2.2.2)])]:=by
 refine fnn 4 func39 rfl ?_
 unfold Zb1 at h
 simp only[fnN,f39,Zk,go_sem,seval]
 refine Zb h λe P h=>Za (Zjg P)<|yA ?_
 refine yB h (λ_ h=>?_) λ_ h=>?_
 refine Zh h (λi s st=>match s with|(q,t)=>IV [(0,yM (yW d)),(5,.bp 0 0),(8,.p false [.n (yU e.1)]),(10,.bp 1 0),(11,.p false [.row 3]),(40,yM (yU g)),(41,yL g.length),(42,yL i)] [.box 52 [.c (.int .i64 0),.nil 125 3],.box 52 [.c (.int .i64 ((e.1.length:Nat):Int)),.row 2],.row 125 3 (A0 eReason q) 2,.row 127 2 (A0 Zir t) 2] st) [(false,8,4096),(false,11,0),(true,272,1)] [16,272,369,368] yF yD ?_ ?_
 rintro _ _ ⟨q,t⟩ ⟨_,_,_⟩ _ u E Q h _
 simp only[go_sem,seval,Zc]at E
 obtain ⟨⟨_,_,_,_,_,R,_,_⟩,_,_,_,_,hn⟩:=E
 subst hn
 have S:=WF.slotL Q R (j:=0) rfl
 have:=Zz u
 have:=ZC u
 have:=Zj (ZA u) S
 simp only[*,go_sem,seval]
 refine Zb h λ_ T h=>Za (ZcM T) ?_
 obtain ⟨U,h⟩:=Zq h
 try simp only[Nat.reduceLeDiff]at U
 obtain ⟨V,h⟩:=Zq h
 try simp only[Nat.reduceLeDiff]at V
 simp only[*,go_sem,seval]
 exact yR h [0,1,196,292]
 rintro ⟨q,t⟩ ⟨_,_,_⟩ F _ h
 simp only[go_sem,seval,Zc]at F
 obtain ⟨⟨_,_,_,_,_,_,_,_⟩,_,_,_,_,hn⟩:=F
 subst hn
 have:=Zx (g.length)
 simp only[*,go_sem,seval]
 refine Zh h (λi s st=>match s with|(v,w)=>IV [(5,.bp 0 0),(8,.p false [.n (yU e.1)]),(10,.bp 1 0),(11,.p false [.row 3]),(60,yM (yW d)),(61,yL d.length),(62,yL i)] [.box 52 [.c (.int .i64 0),.nil 125 3],.box 52 [.c (.int .i64 ((e.1.length:Nat):Int)),.row 2],.row 125 3 (A0 eReason v) 2,.row 127 2 (A0 Zir w) 1] st) [(true,3,1)] [0,1,2,3] yF yD ?_ ?_
 rintro x b ⟨v,w⟩ ⟨_,_,_⟩ _ y G W h _
 simp only[go_sem,seval,Zc]at G
 obtain ⟨⟨_,_,_,_,X,_,_⟩,_,_,_,_,hn⟩:=G
 subst hn
 have Y:=WF.slotL W X (j:=0) rfl
 have:=Zz y
 have:=ZC y
 have:=Zj (ZA y) Y
 simp only[*,go_sem,seval]
 obtain ⟨_,Z,h⟩:=ZE h
 refine Zkx (ZfO Z)<|yA ?_
 obtain ⟨f,aa,h⟩:=ZE h
 refine Zkx (Zfi aa)<|yA ?_
 refine Zh h (λi s st=>match s with|(k,l)=>IV [(5,.bp 0 0),(8,.p false [.n (yU e.1)]),(10,.bp 1 0),(11,.p false [.row 3]),(15,.bp 4 0),(60,yM (yW d)),(61,yL d.length),(62,yL x),(69,yM (zF f)),(70,yL f.length),(71,yL i)] [.box 52 [.c (.int .i64 0),.nil 125 3],.box 52 [.c (.int .i64 ((e.1.length:Nat):Int)),.row 2],.row 125 3 (A0 eReason k) 2,.row 127 2 (A0 Zir l) 1,zI 76 (eRule b)] st) [] [0,1,2,3,52] yF yD ?_ ?_
 rintro H m ⟨k,l⟩ ⟨_,_,_⟩ _ z I ab h _
 simp only[go_sem,seval,Zc]at I
 obtain ⟨⟨_,_,_,_,_,_,_,_,ac,_,_⟩,_,_,_,_,_,hn⟩:=I
 subst hn
 have ad:=WF.slotL ab ac (j:=0) rfl
 have:=Zz z
 have:=ZC z
 have:=Zj (ZA z) ad
 simp only[*,go_sem,seval]
 refine Zh h (λi o st=>IV [(5,.bp 0 0),(8,.p false [.n (yU e.1)]),(10,.bp 1 0),(11,.p false [.row 3]),(15,.bp 4 0),(17,.bp 5 0),(18,.p false [.row 6]),(60,yM (yW d)),(61,yL d.length),(62,yL x),(69,yM (zF f)),(70,yL f.length),(71,yL H),(76,yM (yY b.cond)),(77,yL b.cond.length),(78,yL i)] [.box 52 [.c (.int .i64 0),.nil 125 3],.box 52 [.c (.int .i64 ((e.1.length:Nat):Int)),.row 2],.row 125 3 (A0 eReason k) 2,.row 127 2 (A0 Zir l) 1,zI 76 (eRule b),zI 132 (eToken m),.row 40 2 (A0 eFact o) 2] st) [(false,18,0)] [0,1,2,3,4,53,165] yF yD ?_ ?_
 rintro _ _ o ⟨_,_,_⟩ _ A J ae h _
 simp only[go_sem,seval,Zc]at J
 obtain ⟨⟨_,_,_,_,_,_,_,_,_,_,_,_,_,af,_,_⟩,_,_,_,_,_,_,_,hn⟩:=J
 subst hn
 have ag:=WF.slotL ae af (j:=0) rfl
 have:=Zz A
 have:=ZC A
 have:=Zj (ZA A) ag
 simp only[*,go_sem,seval]
 refine yB h (λ_ h=>?_) λ_ h=>?_
 refine Zb h λ_ ah h=>Za (i_Instance_ok ah) ?_
 obtain ⟨ai,h⟩:=Zq h
 try simp only[Nat.reduceLeDiff]at ai
 simp only[*,go_sem,seval]
 exact yR h [0,1,2,3,4,5,359]
 exact yR h [0,1,2,3,4,5,6]
 rintro o ⟨_,_,_⟩ K _ h
 simp only[go_sem,seval,Zc]at K
 obtain ⟨⟨_,_,_,_,_,_,_,_,_,_,_,_,_,_,_,_⟩,_,_,_,_,_,_,_,hn⟩:=K
 subst hn
 have:=Zx (b.cond.length)
 simp only[*,go_sem,seval]
 refine Zh h (λi s st=>match s with|(B,C)=>IV [(5,.bp 0 0),(8,.p false [.n (yU e.1)]),(10,.bp 1 0),(11,.p false [.row 3]),(15,.bp 4 0),(17,.bp 5 0),(18,.p false [.row 6]),(60,yM (yW d)),(61,yL d.length),(62,yL x),(69,yM (zF f)),(70,yL f.length),(71,yL H),(99,yM (zA b.thn)),(100,yL b.thn.length),(101,yL i)] [.box 52 [.c (.int .i64 0),.nil 125 3],.box 52 [.c (.int .i64 ((e.1.length:Nat):Int)),.row 2],.row 125 3 (A0 eReason B) 2,.row 127 2 (A0 Zir C) 1,zI 76 (eRule b),zI 132 (eToken m),.row 40 2 (A0 eFact o) 2] st) [] [0,1,2,3,4,5,6] yF yD ?_ ?_
 rintro _ _ ⟨B,C⟩ ⟨_,_,_⟩ _ D L aj h _
 simp only[go_sem,seval,Zc]at L
 obtain ⟨⟨_,_,_,_,_,_,_,_,_,_,_,_,_,ak,_,_⟩,_,_,_,_,_,_,_,hn⟩:=L
 subst hn
 have al:=WF.slotL aj ak (j:=0) rfl
 have:=Zz D
 have:=ZC D
 have:=Zj (ZA D) al
 simp only[*,go_sem,seval]
 refine Zb h λ_ am h=>Za (i_Instance_ok am)<|yA ?_
 refine Zb h λ_ an h=>Za (ZcM an)<|yA ?_
 refine Zb h λ_ ao h=>Za (ZkI ao)<|yA ?_
 refine Zb h λ_ ap h=>Za (ZkI ap)<|yA ?_
 refine Zb h λ_ aq h=>Za (Znw aq)<|yA ?_
 refine yB h (λ_ h=>?_) λ_ h=>?_
 exact yR h [0,1,2,3,4,5,6]
 obtain ⟨ar,h⟩:=Zq h
 try simp only[Nat.reduceLeDiff]at ar
 obtain ⟨au,h⟩:=Zq h
 try simp only[Nat.reduceLeDiff]at au
 simp only[*,go_sem,seval]
 exact yR h [0,1,615,775,4,5,6]
 rintro ⟨B,C⟩ ⟨_,_,_⟩ M _ h
 simp only[go_sem,seval,Zc]at M
 obtain ⟨⟨_,_,_,_,_,_,_,_,_,_,_,_,_,_,_,_⟩,_,_,_,_,_,_,_,hn⟩:=M
 subst hn
 have:=Zx (b.thn.length)
 simp only[*,go_sem,seval]
 exact yR h [0,1,2,3,4]
 rintro ⟨k,l⟩ ⟨_,_,_⟩ N _ h
 simp only[go_sem,seval,Zc]at N
 obtain ⟨⟨_,_,_,_,_,_,_,_,_,_,_⟩,_,_,_,_,_,hn⟩:=N
 subst hn
 have:=Zx (f.length)
 simp only[*,go_sem,seval]
 exact yR h [0,1,2,3]
 rintro ⟨v,w⟩ ⟨_,_,_⟩ O _ h
 simp only[go_sem,seval,Zc]at O
 obtain ⟨⟨_,_,_,_,_,_,_⟩,_,_,_,_,hn⟩:=O
 subst hn
 have:=Zx (d.length)
 simp only[*,go_sem,seval]
 refine yB h (λ_ h=>?_) λ_ h=>?_
 iterate 3 (cases h;exact yD)
theorem s_l6Tokens_ok {l_0:(List Zp)}{facts_1:(List Zd)}{r:(List Zt)}(h:Zbx l_0 facts_1=some r):Sound prog J0 75 [(false,[.sl 134 5 (A0 ZO l_0)]),(false,[.sl 40 2 (A0 eFact facts_1)])] [(false,[(false,.sl 132 2 (A0 eToken r))])]:=by
 refine fnk func75 rfl ?_
 unfold Zbx at h
 simp only[fnS,f75,Zk,go_sem,seval]
 refine Zh h (λi a st=>IV [(0,yM (yY l_0)),(1,yM (yU facts_1)),(5,.p false [.row 0]),(6,yL i)] [.row 132 2 (A0 eToken a) 2] st) [] [32] yF yD ?_ ?_
 rintro _ _ a ⟨_,_,_⟩ _ b d f h _
 simp only[go_sem,seval,Zc]at d
 obtain ⟨⟨g,_,_,_⟩,_,hn⟩:=d
 subst hn
 have k:=WF.slotL f g (j:=0) rfl
 have:=Zz b
 have:=ZC b
 have:=Zj (ZA b) k
 simp only[*,go_sem,seval]
 refine Zb h λ_ l h=>Za (Zt7 l)<|yA ?_
 exact yR h [161]
 rintro a ⟨_,_,_⟩ e _ h
 simp only[go_sem,seval,Zc]at e
 obtain ⟨⟨_,_,_,_⟩,_,hn⟩:=e
 subst hn
 have:=Zx (l_0.length)
 cases h;exact yD
end
section
theorem i_allMatches_ok {a:(List Zf)}{facts_1:(List Zd)}{r:(List Xb)}(h:Zcf a facts_1=some r):Sound prog J0 97 [(false,[.sl 76 4 (A0 eRule a)]),(false,[.sl 40 2 (A0 eFact facts_1)])] [(false,[(true,.sl 110 3 (A0 eMatch r))])]:=by
 refine fnk func97 rfl ?_
 unfold Zcf at h
 simp only[fnS,f97,Zk,go_sem,seval]
 refine Zh h (λi b st=>IV [(1,yM (yU facts_1)),(5,.p false [.row 0]),(8,yM (yW a)),(9,yL a.length),(10,yL i)] [.row 110 3 (A0 eMatch b) 1] st) [(false,5,0),(true,80,1)] [80] yF yD ?_ ?_
 rintro _ _ b ⟨_,_,_⟩ _ d e g h _
 simp only[go_sem,seval,Zc]at e
 obtain ⟨⟨_,_,k,_,_⟩,_,hn⟩:=e
 subst hn
 have l:=WF.slotL g k (j:=0) rfl
 have:=Zz d
 have:=ZC d
 have:=Zj (ZA d) l
 simp only[*,go_sem,seval]
 obtain ⟨_,m,h⟩:=ZE h
 refine Zkx (ZnF m) ?_
 obtain ⟨_,h⟩:=Zq h
 simp only[*,go_sem,seval]
 exact yR h [145]
 rintro b ⟨_,_,_⟩ f _ h
 simp only[go_sem,seval,Zc]at f
 obtain ⟨⟨_,_,_,_,_⟩,_,hn⟩:=f
 subst hn
 have:=Zx (a.length)
 cases h;exact yD
end
section
open Go.RowKit
section
variable {I:Array Nat->World->Prop} {n blk g sf:Nat} {lt:Nat->Nat->Bool} {lb sb:Array Value}
theorem ZjI (p:Nat->Bool) (k i:Nat):Zev p k i i=i:=by
 cases k with
 |zero=>rfl
 |succ k=>rw [Zev,if_neg yE]
theorem Zmh {p:Nat->Bool}{k i j:Nat}(h:i<j) (hk:j - i<=k):Zev p k i j=if p ((i+j) / 2)=true then Zev p (k - 1) ((i+j) / 2+1) j else Zev p (k - 1) i ((i+j) / 2):=by
 obtain ⟨k,rfl⟩:∃k',k=k'+1:=⟨k - 1,yE⟩
 rw [Zev,if_pos h,AW]
def soM (I:Array Nat->World->Prop) (n blk g sf:Nat) (lt:Nat->Nat->Bool) (lb sb:Array Value) (f:Nat):Prop:=∀(a m b:Nat) {za zm zb:Int}(_:za=a) (_:zm=m) (_:zb=b) (dk:Array Nat) (W:World) (_:I dk W) (_:a<m) (_:m<b) (_:b<=n) (_:b - a<=f),
  Calls prog 230 #[.agg #[.func (.func g) #[] lb,.func (.func sf) #[] sb],.int .i64 za,.int .i64 zm,.int .i64 zb] W (soP I blk W (ZdB lt f a m b dk))
theorem ZAJ (h:ZgH I n blk g sf lt lb sb) (f:Nat) (HR:Hid (soM I n blk g sf lt lb sb f)) (a m b:Nat) {za zm zb:Int}(ea:za=a) (em:zm=m) (eb:zb=b) (dk:Array Nat) (W:World) (hI:I dk W) (ham:a<m) (hmb:m<b) (hb:b<=n) (hf:b - a<=f+1) (h1:¬m - a=1) (h2:¬b - m=1) (hc:(a+b) / 2<m):
  Calls prog 230 #[.agg #[.func (.func g) #[] lb,.func (.func sf) #[] sb],.int .i64 za,.int .i64 zm,.int .i64 zb] W (soP I blk W (ZdB lt (f+1) a m b dk)):=by
 subst ea em eb
 have HS:=yS h
 have n62:=h.n62
 have eg:=h.eg
 have hblk:=h.lt _ _ hI
 obtain ⟨i1,o1⟩:=h.box hI (.cells #[.func (.func g) #[] lb,.func (.func sf) #[] sb] 226)
 have HI1:=yS i1
 have HO1:=yS o1
 have HB1:Hid (Blk (W.alloc (.cells #[.func (.func g) #[] lb,.func (.func sf) #[] sb] 226)) W.heap.size 226 #[.func (.func g) #[] lb,.func (.func sf) #[] sb]):=Blk.new _ _ _
 clear hI h i1 o1
 go_enter func230,ntmps230
 obtain ⟨d,q⟩:∃d,d=(a+b) / 2:=⟨_,rfl⟩
 obtain ⟨s0,l⟩:∃s0,s0=if d<m then d+m - b else a:=⟨_,rfl⟩
 obtain ⟨r0,o⟩:∃r0,r0=if d<m then d else m:=⟨_,rfl⟩
 have u:Hid (ZgT lt a m b dk=Zev (λc=>!lt dk[d+m - 1 - c]! dk[c]!) (b - a) s0 r0):=by
  show _=_
  unfold ZgT
  rw [<-q,<-l,<-o]
 have HE:Hid (∀s,ZgT lt a m b dk=s->∀d1 d2 d3,d1=(if s<m/\m<d+m - s then ZwK dk s m (d+m - s) else dk)->d2=(if a<s/\s<d then ZdB lt f a s d d1 else d1)->d3=(if d<d+m - s/\d+m - s<b then ZdB lt f d (d+m - s) b d2 else d2)->ZdB lt (f+1) a m b dk=d3):=by
  rintro s hs d1 d2 d3 rfl rfl rfl
  rw [ZdB,if_neg h1,if_neg h2]
  simp only[hs,<-q]
 have hb1:(((m:Nat):Int) - a==1)=false:=by simp;omega
 have hb2:(((b:Nat):Int) - m==1)=false:=by simp;omega
 have hw0:((a:Int)+b) % 18446744073709551616=a+b:=by omega
 have hm2:((a:Int)+b) / 2=d:=by omega
 have v:a<d/\d<b/\2*d<=a+b/\a+b<=2*d+1:=by omega
 obtain ⟨g1,g2,g3,g4⟩:=v
 have x:a<=s0/\s0<=r0/\r0<=m/\r0<=d/\d+m<=s0+b:=by
  by_cases hc:d<m
  .rw [if_pos hc]at l o;omega
  .rw [if_neg hc]at l o;omega
 obtain ⟨g5,g6,g7,g8,g9⟩:=x
 have w:(d<m->s0=d+m - b/\r0=d)/\(¬d<m->s0=a/\r0=m):=by
  by_cases hc:d<m
  .rw [if_pos hc]at l o;exact ⟨λ_=>⟨l,o⟩,λh=>absurd hc h⟩
  .rw [if_neg hc]at l o;exact ⟨λh=>absurd h hc,λ_=>⟨l,o⟩⟩
 clear l o
 obtain ⟨q1,q2⟩:=w
 have Q1:=yS q1
 have Q2:=yS q2
 clear q1 q2
 have t:=q
 clear q
 rw [<-t]at hc
 clear t
 obtain ⟨q1,q2⟩:=Q1.out hc
 clear Q1 Q2
 go_wp2
 go_loopw [18,19] (λvi vj wr=>∃(i j k:Nat),vi=.int .i64 i/\vj=.int .i64 j/\s0<=i/\i<=j/\j<=r0/\j - i<=k/\Hid (Zev (λc=>!lt dk[d+m - 1 - c]! dk[c]!) k i j=ZgT lt a m b dk)/\Hid (I dk wr)/\Hid (YM [blk] W wr)/\Hid (Blk wr W.heap.size 226 #[.func (.func g) #[] lb,.func (.func sf) #[] sb])) (λvi vj _=>(intOf vj).toNat - (intOf vi).toNat)
 case atStart=>exact ⟨s0,r0,b - a,by congr 1;omega,by congr 1;omega,A6 _,yE,A6 _,yE,u.out.symm,HI1,HO1,HB1⟩
 case round=>
  clear HI1 HO1 HB1 u
  obtain ⟨i,j,k,rfl,rfl,hmi,hij,hjb,hk,HH,HI,HO,HB⟩:=hrel
  have c0:=HB.out.at (i:=0) rfl
  have c1:=HB.out.at (i:=1) rfl
  by_cases y:i<j
  .have hl:=HS.out.less dk _ (d+m - 1 - (i+j) / 2) ((i+j) / 2) HI.out yE yE
   rw [show ((d+m - 1 - (i+j) / 2:Nat):Int)=(d:Int)+m - 1 - ((i:Int)+j) / 2 by omega,show (((i+j) / 2:Nat):Int)=((i:Int)+j) / 2 by omega]at hl
   have hh:=Zmh (p:=λc=>!lt dk[d+m - 1 - c]! dk[c]!) y hk
   have hw:((i:Int)+j) % 18446744073709551616=i+j:=by omega
   cases hlv:lt dk[d+m - 1 - (i+j) / 2]! dk[(i+j) / 2]! with
   |false=>
    rw [hlv]at hl
    rw [hlv,if_pos (show (!false)=true from rfl)]at hh
    have HH2:=yS (hh.symm.trans HH.out)
    clear hh HH
    go_wp2_with fail
    refine hl.mono ?_
    rintro e w1 ⟨rfl,i2,b2⟩
    go_wp2
    exact ⟨⟨(i+j) / 2+1,j,k - 1,by go_num,rfl,yE,yE,yE,yE,HH2,i2,HO.out.trans (YM.of_below b2 _),HB.out.later b2⟩,by simp [intOf];omega⟩
   |true=>
    rw [hlv]at hl
    rw [hlv,if_neg yG]at hh
    have HH2:=yS (hh.symm.trans HH.out)
    clear hh HH
    go_wp2_with fail
    refine hl.mono ?_
    rintro e w1 ⟨rfl,i2,b2⟩
    go_wp2
    exact ⟨⟨i,(i+j) / 2,k - 1,rfl,by go_num,yE,yE,yE,yE,HH2,i2,HO.out.trans (YM.of_below b2 _),HB.out.later b2⟩,by simp [intOf];omega⟩
  .obtain rfl:i=j:=by omega
   have hX:ZgT lt a m b dk=i:=HH.out.symm.trans (ZjI _ _ _)
   have HE2:=yS (HE.out i hX)
   clear HH HE hX
   rcases AI i m with p1|p1<;>rcases AI i d with p4|p4<;>rcases AI a i with p3|p3<;>rcases AI (d+m - i) b with p6|p6
   all_goals first|(exfalso;omega)|skip
   all_goals (first|have f1:(i:Int)<m:=by omega|have f1:¬(i:Int)<m:=by omega)
   all_goals (first|have f2:(m:Int)<d+m - i:=by omega|have f2:¬(m:Int)<d+m - i:=by omega)
   all_goals (first|have f3:(a:Int)<i:=by omega|have f3:¬(a:Int)<i:=by omega)
   all_goals (first|have f4:(i:Int)<d:=by omega|have f4:¬(i:Int)<d:=by omega)
   all_goals (first|have f5:(d:Int)<d+m - i:=by omega|have f5:¬(d:Int)<d+m - i:=by omega)
   all_goals (first|have f6:(d:Int)+m - i<b:=by omega|have f6:¬(d:Int)+m - i<b:=by omega)
   .skip
    go_wp2_with fail
    refine (ZdT HS.out i m (d+m - i) rfl rfl yE _ _ HI.out yE yE yE).mono ?_;rintro e w1 ⟨rfl,i2,o2⟩;replace HI:=yS i2;replace HO:=yS (HO.out.trans o2);replace HB:=yS (Yl HB.out o2 yE);replace c0:=HB.out.at (i:=0) rfl;replace c1:=HB.out.at (i:=1) rfl;clear i2 o2
    go_wp2_with fail
    refine (HR.out a i d rfl rfl rfl _ _ HI.out yE yE yE yE).mono ?_;rintro e w1 ⟨rfl,i2,o2⟩;replace HI:=yS i2;replace HO:=yS (HO.out.trans o2);replace HB:=yS (Yl HB.out o2 yE);replace c0:=HB.out.at (i:=0) rfl;replace c1:=HB.out.at (i:=1) rfl;clear i2 o2
    go_wp2_with fail
    refine (HR.out d (d+m - i) b rfl yE rfl _ _ HI.out yE yE yE yE).mono ?_;rintro e w1 ⟨rfl,i2,o2⟩;replace HI:=yS i2;replace HO:=yS (HO.out.trans o2);replace HB:=yS (Yl HB.out o2 yE);replace c0:=HB.out.at (i:=0) rfl;replace c1:=HB.out.at (i:=1) rfl;clear i2 o2
    go_wp2
    go_end0
    exact ⟨rfl,by rw [HE2.out _ _ _ (if_pos yE).symm (if_pos yE).symm (if_pos yE).symm];exact HI.out,HO.out⟩
   .skip
    go_wp2_with fail
    refine (ZdT HS.out i m (d+m - i) rfl rfl yE _ _ HI.out yE yE yE).mono ?_;rintro e w1 ⟨rfl,i2,o2⟩;replace HI:=yS i2;replace HO:=yS (HO.out.trans o2);replace HB:=yS (Yl HB.out o2 yE);replace c0:=HB.out.at (i:=0) rfl;replace c1:=HB.out.at (i:=1) rfl;clear i2 o2
    go_wp2_with fail
    refine (HR.out a i d rfl rfl rfl _ _ HI.out yE yE yE yE).mono ?_;rintro e w1 ⟨rfl,i2,o2⟩;replace HI:=yS i2;replace HO:=yS (HO.out.trans o2);replace HB:=yS (Yl HB.out o2 yE);replace c0:=HB.out.at (i:=0) rfl;replace c1:=HB.out.at (i:=1) rfl;clear i2 o2
    go_wp2
    go_end0
    exact ⟨rfl,by rw [HE2.out _ _ _ (if_pos yE).symm (if_pos yE).symm (if_neg yE).symm];exact HI.out,HO.out⟩
   .skip
    go_wp2_with fail
    refine (ZdT HS.out i m (d+m - i) rfl rfl yE _ _ HI.out yE yE yE).mono ?_;rintro e w1 ⟨rfl,i2,o2⟩;replace HI:=yS i2;replace HO:=yS (HO.out.trans o2);replace HB:=yS (Yl HB.out o2 yE);replace c0:=HB.out.at (i:=0) rfl;replace c1:=HB.out.at (i:=1) rfl;clear i2 o2
    go_wp2
    go_end0
    exact ⟨rfl,by rw [HE2.out _ _ _ (if_pos yE).symm (if_neg yE).symm (if_neg yE).symm];exact HI.out,HO.out⟩
   .skip
    go_wp2_with fail
    refine (HR.out d (d+m - i) b rfl yE rfl _ _ HI.out yE yE yE yE).mono ?_;rintro e w1 ⟨rfl,i2,o2⟩;replace HI:=yS i2;replace HO:=yS (HO.out.trans o2);replace HB:=yS (Yl HB.out o2 yE);replace c0:=HB.out.at (i:=0) rfl;replace c1:=HB.out.at (i:=1) rfl;clear i2 o2
    go_wp2
    go_end0
    exact ⟨rfl,by rw [HE2.out _ _ _ (if_neg yE).symm (if_neg yE).symm (if_pos yE).symm];exact HI.out,HO.out⟩
theorem ZzN (h:ZgH I n blk g sf lt lb sb) (f:Nat) (HR:Hid (soM I n blk g sf lt lb sb f)) (a m b:Nat) {za zm zb:Int}(ea:za=a) (em:zm=m) (eb:zb=b) (dk:Array Nat) (W:World) (hI:I dk W) (ham:a<m) (hmb:m<b) (hb:b<=n) (hf:b - a<=f+1) (h1:¬m - a=1) (h2:¬b - m=1) (hc:¬(a+b) / 2<m):
  Calls prog 230 #[.agg #[.func (.func g) #[] lb,.func (.func sf) #[] sb],.int .i64 za,.int .i64 zm,.int .i64 zb] W (soP I blk W (ZdB lt (f+1) a m b dk)):=by
 subst ea em eb
 have HS:=yS h
 have n62:=h.n62
 have eg:=h.eg
 have hblk:=h.lt _ _ hI
 obtain ⟨i1,o1⟩:=h.box hI (.cells #[.func (.func g) #[] lb,.func (.func sf) #[] sb] 226)
 have HI1:=yS i1
 have HO1:=yS o1
 have HB1:Hid (Blk (W.alloc (.cells #[.func (.func g) #[] lb,.func (.func sf) #[] sb] 226)) W.heap.size 226 #[.func (.func g) #[] lb,.func (.func sf) #[] sb]):=Blk.new _ _ _
 clear hI h i1 o1
 go_enter func230,ntmps230
 obtain ⟨d,q⟩:∃d,d=(a+b) / 2:=⟨_,rfl⟩
 obtain ⟨s0,l⟩:∃s0,s0=if d<m then d+m - b else a:=⟨_,rfl⟩
 obtain ⟨r0,o⟩:∃r0,r0=if d<m then d else m:=⟨_,rfl⟩
 have u:Hid (ZgT lt a m b dk=Zev (λc=>!lt dk[d+m - 1 - c]! dk[c]!) (b - a) s0 r0):=by
  show _=_
  unfold ZgT
  rw [<-q,<-l,<-o]
 have HE:Hid (∀s,ZgT lt a m b dk=s->∀d1 d2 d3,d1=(if s<m/\m<d+m - s then ZwK dk s m (d+m - s) else dk)->d2=(if a<s/\s<d then ZdB lt f a s d d1 else d1)->d3=(if d<d+m - s/\d+m - s<b then ZdB lt f d (d+m - s) b d2 else d2)->ZdB lt (f+1) a m b dk=d3):=by
  rintro s hs d1 d2 d3 rfl rfl rfl
  rw [ZdB,if_neg h1,if_neg h2]
  simp only[hs,<-q]
 have hb1:(((m:Nat):Int) - a==1)=false:=by simp;omega
 have hb2:(((b:Nat):Int) - m==1)=false:=by simp;omega
 have hw0:((a:Int)+b) % 18446744073709551616=a+b:=by omega
 have hm2:((a:Int)+b) / 2=d:=by omega
 have v:a<d/\d<b/\2*d<=a+b/\a+b<=2*d+1:=by omega
 obtain ⟨g1,g2,g3,g4⟩:=v
 have x:a<=s0/\s0<=r0/\r0<=m/\r0<=d/\d+m<=s0+b:=by
  by_cases hc:d<m
  .rw [if_pos hc]at l o;omega
  .rw [if_neg hc]at l o;omega
 obtain ⟨g5,g6,g7,g8,g9⟩:=x
 have w:(d<m->s0=d+m - b/\r0=d)/\(¬d<m->s0=a/\r0=m):=by
  by_cases hc:d<m
  .rw [if_pos hc]at l o;exact ⟨λ_=>⟨l,o⟩,λh=>absurd hc h⟩
  .rw [if_neg hc]at l o;exact ⟨λh=>absurd h hc,λ_=>⟨l,o⟩⟩
 clear l o
 obtain ⟨q1,q2⟩:=w
 have Q1:=yS q1
 have Q2:=yS q2
 clear q1 q2
 have t:=q
 clear q
 rw [<-t]at hc
 clear t
 obtain ⟨q1,q2⟩:=Q2.out hc
 clear Q1 Q2
 go_wp2
 go_loopw [18,19] (λvi vj wr=>∃(i j k:Nat),vi=.int .i64 i/\vj=.int .i64 j/\s0<=i/\i<=j/\j<=r0/\j - i<=k/\Hid (Zev (λc=>!lt dk[d+m - 1 - c]! dk[c]!) k i j=ZgT lt a m b dk)/\Hid (I dk wr)/\Hid (YM [blk] W wr)/\Hid (Blk wr W.heap.size 226 #[.func (.func g) #[] lb,.func (.func sf) #[] sb])) (λvi vj _=>(intOf vj).toNat - (intOf vi).toNat)
 case atStart=>exact ⟨s0,r0,b - a,by congr 1;omega,by congr 1;omega,A6 _,yE,A6 _,yE,u.out.symm,HI1,HO1,HB1⟩
 case round=>
  clear HI1 HO1 HB1 u
  obtain ⟨i,j,k,rfl,rfl,hmi,hij,hjb,hk,HH,HI,HO,HB⟩:=hrel
  have c0:=HB.out.at (i:=0) rfl
  have c1:=HB.out.at (i:=1) rfl
  by_cases y:i<j
  .have hl:=HS.out.less dk _ (d+m - 1 - (i+j) / 2) ((i+j) / 2) HI.out yE yE
   rw [show ((d+m - 1 - (i+j) / 2:Nat):Int)=(d:Int)+m - 1 - ((i:Int)+j) / 2 by omega,show (((i+j) / 2:Nat):Int)=((i:Int)+j) / 2 by omega]at hl
   have hh:=Zmh (p:=λc=>!lt dk[d+m - 1 - c]! dk[c]!) y hk
   have hw:((i:Int)+j) % 18446744073709551616=i+j:=by omega
   cases hlv:lt dk[d+m - 1 - (i+j) / 2]! dk[(i+j) / 2]! with
   |false=>
    rw [hlv]at hl
    rw [hlv,if_pos (show (!false)=true from rfl)]at hh
    have HH2:=yS (hh.symm.trans HH.out)
    clear hh HH
    go_wp2_with fail
    refine hl.mono ?_
    rintro e w1 ⟨rfl,i2,b2⟩
    go_wp2
    exact ⟨⟨(i+j) / 2+1,j,k - 1,by go_num,rfl,yE,yE,yE,yE,HH2,i2,HO.out.trans (YM.of_below b2 _),HB.out.later b2⟩,by simp [intOf];omega⟩
   |true=>
    rw [hlv]at hl
    rw [hlv,if_neg yG]at hh
    have HH2:=yS (hh.symm.trans HH.out)
    clear hh HH
    go_wp2_with fail
    refine hl.mono ?_
    rintro e w1 ⟨rfl,i2,b2⟩
    go_wp2
    exact ⟨⟨i,(i+j) / 2,k - 1,rfl,by go_num,yE,yE,yE,yE,HH2,i2,HO.out.trans (YM.of_below b2 _),HB.out.later b2⟩,by simp [intOf];omega⟩
  .obtain rfl:i=j:=by omega
   have hX:ZgT lt a m b dk=i:=HH.out.symm.trans (ZjI _ _ _)
   have HE2:=yS (HE.out i hX)
   clear HH HE hX
   rcases AI i m with p1|p1<;>rcases AI i d with p4|p4<;>rcases AI a i with p3|p3<;>rcases AI (d+m - i) b with p6|p6
   all_goals first|(exfalso;omega)|skip
   all_goals (first|have f1:(i:Int)<m:=by omega|have f1:¬(i:Int)<m:=by omega)
   all_goals (first|have f2:(m:Int)<d+m - i:=by omega|have f2:¬(m:Int)<d+m - i:=by omega)
   all_goals (first|have f3:(a:Int)<i:=by omega|have f3:¬(a:Int)<i:=by omega)
   all_goals (first|have f4:(i:Int)<d:=by omega|have f4:¬(i:Int)<d:=by omega)
   all_goals (first|have f5:(d:Int)<d+m - i:=by omega|have f5:¬(d:Int)<d+m - i:=by omega)
   all_goals (first|have f6:(d:Int)+m - i<b:=by omega|have f6:¬(d:Int)+m - i<b:=by omega)
   .skip
    go_wp2_with fail
    refine (ZdT HS.out i m (d+m - i) rfl rfl yE _ _ HI.out yE yE yE).mono ?_;rintro e w1 ⟨rfl,i2,o2⟩;replace HI:=yS i2;replace HO:=yS (HO.out.trans o2);replace HB:=yS (Yl HB.out o2 yE);replace c0:=HB.out.at (i:=0) rfl;replace c1:=HB.out.at (i:=1) rfl;clear i2 o2
    go_wp2_with fail
    refine (HR.out a i d rfl rfl rfl _ _ HI.out yE yE yE yE).mono ?_;rintro e w1 ⟨rfl,i2,o2⟩;replace HI:=yS i2;replace HO:=yS (HO.out.trans o2);replace HB:=yS (Yl HB.out o2 yE);replace c0:=HB.out.at (i:=0) rfl;replace c1:=HB.out.at (i:=1) rfl;clear i2 o2
    go_wp2_with fail
    refine (HR.out d (d+m - i) b rfl yE rfl _ _ HI.out yE yE yE yE).mono ?_;rintro e w1 ⟨rfl,i2,o2⟩;replace HI:=yS i2;replace HO:=yS (HO.out.trans o2);replace HB:=yS (Yl HB.out o2 yE);replace c0:=HB.out.at (i:=0) rfl;replace c1:=HB.out.at (i:=1) rfl;clear i2 o2
    go_wp2
    go_end0
    exact ⟨rfl,by rw [HE2.out _ _ _ (if_pos yE).symm (if_pos yE).symm (if_pos yE).symm];exact HI.out,HO.out⟩
   .skip
    go_wp2_with fail
    refine (ZdT HS.out i m (d+m - i) rfl rfl yE _ _ HI.out yE yE yE).mono ?_;rintro e w1 ⟨rfl,i2,o2⟩;replace HI:=yS i2;replace HO:=yS (HO.out.trans o2);replace HB:=yS (Yl HB.out o2 yE);replace c0:=HB.out.at (i:=0) rfl;replace c1:=HB.out.at (i:=1) rfl;clear i2 o2
    go_wp2_with fail
    refine (HR.out d (d+m - i) b rfl yE rfl _ _ HI.out yE yE yE yE).mono ?_;rintro e w1 ⟨rfl,i2,o2⟩;replace HI:=yS i2;replace HO:=yS (HO.out.trans o2);replace HB:=yS (Yl HB.out o2 yE);replace c0:=HB.out.at (i:=0) rfl;replace c1:=HB.out.at (i:=1) rfl;clear i2 o2
    go_wp2
    go_end0
    exact ⟨rfl,by rw [HE2.out _ _ _ (if_pos yE).symm (if_neg yE).symm (if_pos yE).symm];exact HI.out,HO.out⟩
   .skip
    go_wp2_with fail
    refine (ZdT HS.out i m (d+m - i) rfl rfl yE _ _ HI.out yE yE yE).mono ?_;rintro e w1 ⟨rfl,i2,o2⟩;replace HI:=yS i2;replace HO:=yS (HO.out.trans o2);replace HB:=yS (Yl HB.out o2 yE);replace c0:=HB.out.at (i:=0) rfl;replace c1:=HB.out.at (i:=1) rfl;clear i2 o2
    go_wp2
    go_end0
    exact ⟨rfl,by rw [HE2.out _ _ _ (if_pos yE).symm (if_neg yE).symm (if_neg yE).symm];exact HI.out,HO.out⟩
   .skip
    go_wp2_with fail
    refine (HR.out a i d rfl rfl rfl _ _ HI.out yE yE yE yE).mono ?_;rintro e w1 ⟨rfl,i2,o2⟩;replace HI:=yS i2;replace HO:=yS (HO.out.trans o2);replace HB:=yS (Yl HB.out o2 yE);replace c0:=HB.out.at (i:=0) rfl;replace c1:=HB.out.at (i:=1) rfl;clear i2 o2
    go_wp2
    go_end0
    exact ⟨rfl,by rw [HE2.out _ _ _ (if_neg yE).symm (if_pos yE).symm (if_neg yE).symm];exact HI.out,HO.out⟩
   .skip
    go_wp2
    go_end0
    exact ⟨rfl,by rw [HE2.out _ _ _ (if_neg yE).symm (if_neg yE).symm (if_neg yE).symm];exact HI.out,HO.out⟩
end
end
section
open Go.RowKit
section
variable {I:Array Nat->World->Prop} {n blk g sf:Nat} {lt:Nat->Nat->Bool} {lb sb:Array Value}
theorem ZuW (h:ZgH I n blk g sf lt lb sb) (f:Nat) (HR:Hid (soM I n blk g sf lt lb sb f)) (a m b:Nat) {za zm zb:Int}(ea:za=a) (em:zm=m) (eb:zb=b) (dk:Array Nat) (W:World) (hI:I dk W) (l:a<m) (o:m<b) (hb:b<=n) (hf:b - a<=f+1):
  Calls prog 230 #[.agg #[.func (.func g) #[] lb,.func (.func sf) #[] sb],.int .i64 za,.int .i64 zm,.int .i64 zb] W (soP I blk W (ZdB lt (f+1) a m b dk)):=by
 subst ea em eb
 by_cases h3:¬m - a=1/\¬b - m=1
 .by_cases hc:(a+b) / 2<m
  .exact ZAJ h f HR a m b rfl rfl rfl dk W hI l o hb hf h3.1 h3.2 hc
  .exact ZzN h f HR a m b rfl rfl rfl dk W hI l o hb hf h3.1 h3.2 hc
 have HS:=yS h
 have n62:=h.n62
 have eg:=h.eg
 have hblk:=h.lt _ _ hI
 obtain ⟨i1,o1⟩:=h.box hI (.cells #[.func (.func g) #[] lb,.func (.func sf) #[] sb] 226)
 have HI1:=yS i1
 have HO1:=yS o1
 have HB1:Hid (Blk (W.alloc (.cells #[.func (.func g) #[] lb,.func (.func sf) #[] sb] 226)) W.heap.size 226 #[.func (.func g) #[] lb,.func (.func sf) #[] sb]):=Blk.new _ _ _
 clear hI h i1 o1
 go_enter func230,ntmps230
 by_cases h1:m - a=1
 .have HE:Hid (ZdB lt (f+1) a m b dk=upR dk a (Zev (λh=>lt dk[h]! dk[a]!) (b - m) m b - 1 - a)):=by
   show _=_
   rw [ZdB,if_pos h1]
  have u:(((m:Nat):Int) - a==1)=true:=by simp;omega
  go_wp2
  go_loopw [8,9] (λvi vj wr=>∃(i j k:Nat),vi=.int .i64 i/\vj=.int .i64 j/\m<=i/\i<=j/\j<=b/\j - i<=k/\Hid (Zev (λh=>lt dk[h]! dk[a]!) k i j=Zev (λh=>lt dk[h]! dk[a]!) (b - m) m b)/\Hid (I dk wr)/\Hid (YM [blk] W wr)/\Hid (Blk wr W.heap.size 226 #[.func (.func g) #[] lb,.func (.func sf) #[] sb])) (λvi vj _=>(intOf vj).toNat - (intOf vi).toNat)
  case atStart=>exact ⟨m,b,b - m,rfl,rfl,A6 _,yE,A6 _,A6 _,rfl,HI1,HO1,HB1⟩
  case round=>
   clear HI1 HO1 HB1
   obtain ⟨i,j,k,rfl,rfl,v,w,x,hk,HH,HI,HO,HB⟩:=hrel
   have c0:=HB.out.at (i:=0) rfl
   have c1:=HB.out.at (i:=1) rfl
   by_cases d:i<j
   .have hl:=HS.out.less dk _ ((i+j) / 2) a HI.out yE yE
    rw [show (((i+j) / 2:Nat):Int)=((i:Int)+j) / 2 by omega]at hl
    have hh:=Zmh (p:=λh=>lt dk[h]! dk[a]!) d hk
    have hw:((i:Int)+j) % 18446744073709551616=i+j:=by omega
    cases hlv:lt dk[(i+j) / 2]! dk[a]! with
    |true=>
     rw [hlv]at hl
     rw [hlv,if_pos rfl]at hh
     have HH2:=yS (hh.symm.trans HH.out)
     clear hh HH
     go_wp2_with fail
     refine hl.mono ?_
     rintro e w1 ⟨rfl,i2,b2⟩
     go_wp2
     exact ⟨⟨(i+j) / 2+1,j,k - 1,by go_num,rfl,yE,yE,yE,yE,HH2,i2,HO.out.trans (YM.of_below b2 _),HB.out.later b2⟩,by simp [intOf];omega⟩
    |false=>
     rw [hlv]at hl
     rw [hlv,if_neg yG]at hh
     have HH2:=yS (hh.symm.trans HH.out)
     clear hh HH
     go_wp2_with fail
     refine hl.mono ?_
     rintro e w1 ⟨rfl,i2,b2⟩
     go_wp2
     exact ⟨⟨i,(i+j) / 2,k - 1,rfl,by go_num,yE,yE,yE,yE,HH2,i2,HO.out.trans (YM.of_below b2 _),HB.out.later b2⟩,by simp [intOf];omega⟩
   .obtain rfl:i=j:=by omega
    have HX:Hid (Zev (λh=>lt dk[h]! dk[a]!) (b - m) m b=i):=HH.out.symm.trans (ZjI _ _ _)
    clear HH
    go_wp2
    go_loopw [11] (λvk c=>∃t:Nat,t<=i - 1 - a/\vk=.int .i64 ((a+t:Nat):Int)/\Hid (I (upR dk a t) c)/\Hid (YM [blk] W c)/\Hid (Blk c W.heap.size 226 #[.func (.func g) #[] lb,.func (.func sf) #[] sb])) (λvk _=>i - (intOf vk).toNat)
    case atStart=>exact ⟨0,AB _,rfl,HI,HO,HB⟩
    case round=>
     clear HI HO HB c0 c1
     obtain ⟨t,ht,rfl,HI,HO,HB⟩:=hrel
     have c1:=HB.out.at (i:=1) rfl
     by_cases q:a+t<i - 1
     .obtain ⟨W',e1,e2,e3⟩:=HS.out.swap _ _ (a+t) (a+t+1) HI.out yE yE
      rw [show ((a+t+1:Nat):Int)=((a+t:Nat):Int)+1 by omega]at e1
      have HB':=yS (Yl HB.out e3 yE)
      have HO':=yS (HO.out.trans e3)
      have HI':=yS e2
      clear e2 e3
      generalize hq:((a+t:Nat):Int)=z at *
      go_wp2
      exact ⟨⟨t+1,yE,by go_num,HI',HO',HB'⟩,by simp [intOf];omega⟩
     .obtain rfl:t=i - 1 - a:=by omega
      generalize hq:((a+(i - 1 - a):Nat):Int)=z at *
      go_wp2
      go_end0
      exact ⟨rfl,by rw [HE.out,HX.out];exact HI.out,HO.out⟩
 .by_cases h2:b - m=1
  .have HE:Hid (ZdB lt (f+1) a m b dk=Zsb dk m (m - Zev (λh=>!lt dk[m]! dk[h]!) (m - a) a m)):=by
    show _=_
    rw [ZdB,if_neg h1,if_pos h2]
   have u:(((m:Nat):Int) - a==1)=false:=by simp;omega
   have hb2:(((b:Nat):Int) - m==1)=true:=by simp;omega
   go_wp2
   go_loopw [12,13] (λvi vj wr=>∃(i j k:Nat),vi=.int .i64 i/\vj=.int .i64 j/\a<=i/\i<=j/\j<=m/\j - i<=k/\Hid (Zev (λh=>!lt dk[m]! dk[h]!) k i j=Zev (λh=>!lt dk[m]! dk[h]!) (m - a) a m)/\Hid (I dk wr)/\Hid (YM [blk] W wr)/\Hid (Blk wr W.heap.size 226 #[.func (.func g) #[] lb,.func (.func sf) #[] sb])) (λvi vj _=>(intOf vj).toNat - (intOf vi).toNat)
   case atStart=>exact ⟨a,m,m - a,rfl,rfl,A6 _,yE,A6 _,A6 _,rfl,HI1,HO1,HB1⟩
   case round=>
    clear HI1 HO1 HB1
    obtain ⟨i,j,k,rfl,rfl,v,w,x,hk,HH,HI,HO,HB⟩:=hrel
    have c0:=HB.out.at (i:=0) rfl
    have c1:=HB.out.at (i:=1) rfl
    by_cases d:i<j
    .have hl:=HS.out.less dk _ m ((i+j) / 2) HI.out yE yE
     rw [show (((i+j) / 2:Nat):Int)=((i:Int)+j) / 2 by omega]at hl
     have hh:=Zmh (p:=λh=>!lt dk[m]! dk[h]!) d hk
     have hw:((i:Int)+j) % 18446744073709551616=i+j:=by omega
     cases hlv:lt dk[m]! dk[(i+j) / 2]! with
     |false=>
      rw [hlv]at hl
      rw [hlv,if_pos (show (!false)=true from rfl)]at hh
      have HH2:=yS (hh.symm.trans HH.out)
      clear hh HH
      go_wp2_with fail
      refine hl.mono ?_
      rintro e w1 ⟨rfl,i2,b2⟩
      go_wp2
      exact ⟨⟨(i+j) / 2+1,j,k - 1,by go_num,rfl,yE,yE,yE,yE,HH2,i2,HO.out.trans (YM.of_below b2 _),HB.out.later b2⟩,by simp [intOf];omega⟩
     |true=>
      rw [hlv]at hl
      rw [hlv,if_neg yG]at hh
      have HH2:=yS (hh.symm.trans HH.out)
      clear hh HH
      go_wp2_with fail
      refine hl.mono ?_
      rintro e w1 ⟨rfl,i2,b2⟩
      go_wp2
      exact ⟨⟨i,(i+j) / 2,k - 1,rfl,by go_num,yE,yE,yE,yE,HH2,i2,HO.out.trans (YM.of_below b2 _),HB.out.later b2⟩,by simp [intOf];omega⟩
    .obtain rfl:i=j:=by omega
     have HX:Hid (Zev (λh=>!lt dk[m]! dk[h]!) (m - a) a m=i):=HH.out.symm.trans (ZjI _ _ _)
     clear HH
     go_wp2
     go_loopw [15] (λvk c=>∃t:Nat,t<=m - i/\vk=.int .i64 ((m - t:Nat):Int)/\Hid (I (Zsb dk m t) c)/\Hid (YM [blk] W c)/\Hid (Blk c W.heap.size 226 #[.func (.func g) #[] lb,.func (.func sf) #[] sb])) (λvk _=>(intOf vk).toNat)
     case atStart=>exact ⟨0,AB _,rfl,HI,HO,HB⟩
     case round=>
      clear HI HO HB c0 c1
      obtain ⟨t,ht,rfl,HI,HO,HB⟩:=hrel
      have c1:=HB.out.at (i:=1) rfl
      by_cases q:i<m - t
      .obtain ⟨W',e1,e2,e3⟩:=HS.out.swap _ _ (m - t) (m - t - 1) HI.out yE yE
       rw [show ((m - t - 1:Nat):Int)=((m - t:Nat):Int) - 1 by omega]at e1
       have HB':=yS (Yl HB.out e3 yE)
       have HO':=yS (HO.out.trans e3)
       have HI':=yS e2
       clear e2 e3
       generalize hq:((m - t:Nat):Int)=z at *
       go_wp2
       exact ⟨⟨t+1,yE,by go_num,HI',HO',HB'⟩,by simp [intOf];omega⟩
      .obtain rfl:t=m - i:=by omega
       generalize hq:((m - (m - i):Nat):Int)=z at *
       go_wp2
       go_end0
       exact ⟨rfl,by rw [HE.out,HX.out];exact HI.out,HO.out⟩
  .exact absurd ⟨h1,h2⟩ h3
theorem Zhz (h:ZgH I n blk g sf lt lb sb):∀f:Nat,soM I n blk g sf lt lb sb f
 |0=>λa m b _ _ _ _ _ _ dk W hI c d hb hf=>by omega
 |f+1=>λa m b _ _ _ ea em eb dk W hI c d hb hf=>ZuW h f (Zhz h f) a m b ea em eb dk W hI c d hb hf
end
end
section
open Go.RowKit
section
variable {I:Array Nat->World->Prop} {n blk g sf:Nat} {lt:Nat->Nat->Bool} {lb sb:Array Value}
theorem ZCm {k a:Nat}{d:Array Nat}(h:a+20<=n) (hk:n - a<=k):Zlf lt n k a d=Zlf lt n (k - 1) (a+20) (Zgw lt d a (a+20)):=by
 obtain ⟨k,rfl⟩:∃k',k=k'+1:=⟨k - 1,yE⟩
 rw [Zlf,if_pos h,AW]
theorem ZzD {k a:Nat}{d:Array Nat}(h:¬a+20<=n):Zlf lt n k a d=(a,d):=by
 cases k with
 |zero=>rfl
 |succ k=>rw [Zlf,if_neg h]
theorem ZB3 {bs k a:Nat}{d:Array Nat}(h0:0<bs) (h:a+2*bs<=n) (hk:n - a<=k):ZiC lt n bs k a d=ZiC lt n bs (k - 1) (a+2*bs) (ZdB lt n a (a+bs) (a+2*bs) d):=by
 obtain ⟨k,rfl⟩:∃k',k=k'+1:=⟨k - 1,yE⟩
 rw [ZiC,if_pos h,AW]
theorem ZyX {bs k a:Nat}{d:Array Nat}(h:¬a+2*bs<=n):ZiC lt n bs k a d=(a,d):=by
 cases k with
 |zero=>rfl
 |succ k=>rw [ZiC,if_neg h]
theorem ZBy {bs k:Nat}{d:Array Nat}(h:bs<n) (hk:n - bs<=k):Znq lt n k bs d=Znq lt n (k - 1) (2*bs) (ZoT lt n bs d):=by
 obtain ⟨k,rfl⟩:∃k',k=k'+1:=⟨k - 1,yE⟩
 rw [Znq,if_pos h,AW]
theorem ZAh {bs k:Nat}{d:Array Nat}(h:¬bs<n):Znq lt n k bs d=d:=by
 cases k with
 |zero=>rfl
 |succ k=>rw [Znq,if_neg h]
theorem Zxj (h:ZgH I n blk g sf lt lb sb) {zn:Int}(en:zn=n) (dk:Array Nat) (W:World) (hI:I dk W):
  Calls prog 182 #[.agg #[.func (.func g) #[] lb,.func (.func sf) #[] sb],.int .i64 zn] W (soP I blk W (ZhF lt n dk)):=by
 subst en
 have HS:=yS h
 have n62:=h.n62
 have hblk:=h.lt _ _ hI
 obtain ⟨i1,o1⟩:=h.box hI (.cells #[.func (.func g) #[] lb,.func (.func sf) #[] sb] 226)
 have HI1:=yS i1
 have HO1:=yS o1
 have HB1:Hid (Blk (W.alloc (.cells #[.func (.func g) #[] lb,.func (.func sf) #[] sb] 226)) W.heap.size 226 #[.func (.func g) #[] lb,.func (.func sf) #[] sb]):=Blk.new _ _ _
 clear hI h i1 o1
 go_enter func182,ntmps182
 go_wp2
 go_loopw [5,6] (λva vb wr=>∃(a k:Nat) (d:Array Nat),va=.int .i64 a/\vb=.int .i64 ((a+20:Nat):Int)/\a<=n/\n - a<=k/\Hid (Zlf lt n k a d=Zlf lt n n 0 dk)/\Hid (I d wr)/\Hid (YM [blk] W wr)/\Hid (Blk wr W.heap.size 226 #[.func (.func g) #[] lb,.func (.func sf) #[] sb])) (λva _ _=>n - (intOf va).toNat)
 case atStart=>exact ⟨0,n,dk,rfl,rfl,AB _,A6 _,rfl,HI1,HO1,HB1⟩
 case round=>
  clear HI1 HO1 HB1
  obtain ⟨a,k,d,rfl,rfl,han,hk,HH,HI,HO,HB⟩:=hrel
  have c0:=HB.out.at (i:=0) rfl
  have c1:=HB.out.at (i:=1) rfl
  by_cases j:a+20<=n
  .have HH2:=yS ((ZCm (lt:=lt) (d:=d) j hk).symm.trans HH.out)
   clear HH
   have hz:((a+20:Nat):Int)=(a:Int)+20:=by omega
   rw [hz]
   go_wp2_with fail
   refine (Zkf HS.out a (a+20) rfl yE d _ HI.out yE yE).mono ?_
   rintro e w1 ⟨rfl,i2,o2⟩
   go_wp2
   exact ⟨⟨a+20,k - 1,_,by go_num,by go_num,yE,yE,HH2,i2,HO.out.trans o2,Yl HB.out o2 yE⟩,by simp [intOf];omega⟩
  .have hX:Zlf lt n n 0 dk=(a,d):=HH.out.symm.trans (ZzD j)
   have HX:Hid (Znq lt n n 20 (Zgw lt d a n)=ZhF lt n dk):=by
    show _=ZhF lt n dk
    unfold ZhF
    rw [hX]
   clear HH hX
   have hz:((a+20:Nat):Int)=(a:Int)+20:=by omega
   rw [hz]
   have hge:¬(a:Int)+20<=n:=by omega
   go_wp2_with fail
   refine (Zkf HS.out a n rfl rfl d _ HI.out yE yE).mono ?_
   rintro e w1 ⟨rfl,i2,o2⟩
   replace HI:=yS i2
   replace HO:=yS (HO.out.trans o2)
   replace HB:=yS (Yl HB.out o2 yE)
   clear i2 o2 c0 c1
   generalize Zgw lt d a n=d at *
   go_wp2
   go_loopw [4] (λvs wr=>∃(bs k:Nat) (d:Array Nat),vs=.int .i64 bs/\20<=bs/\bs<=20+2*n/\n - bs<=k/\Hid (Znq lt n k bs d=ZhF lt n dk)/\Hid (I d wr)/\Hid (YM [blk] W wr)/\Hid (Blk wr W.heap.size 226 #[.func (.func g) #[] lb,.func (.func sf) #[] sb])) (λvs _=>n - (intOf vs).toNat)
   case atStart=>exact ⟨20,n,d,rfl,A6 _,yE,yE,HX,HI,HO,HB⟩
   case round=>
    clear HI HO HB HX
    obtain ⟨bs,k,d,rfl,hbs,hbn,hk,HH,HI,HO,HB⟩:=hrel
    have c0:=HB.out.at (i:=0) rfl
    have c1:=HB.out.at (i:=1) rfl
    by_cases b:bs<n
    .have HH2:=yS ((ZBy (lt:=lt) (d:=d) b hk).symm.trans HH.out)
     clear HH
     go_wp2
     go_loopw [5,6] (λva vb wr=>∃(a k2:Nat) (d2:Array Nat),va=.int .i64 a/\vb=.int .i64 ((a+2*bs:Nat):Int)/\a<=n/\n - a<=k2/\Hid (ZiC lt n bs k2 a d2=ZiC lt n bs n 0 d)/\Hid (I d2 wr)/\Hid (YM [blk] W wr)/\Hid (Blk wr W.heap.size 226 #[.func (.func g) #[] lb,.func (.func sf) #[] sb])) (λva _ _=>n - (intOf va).toNat)
     case atStart=>exact ⟨0,n,d,rfl,by go_num,AB _,A6 _,rfl,HI,HO,HB⟩
     case round=>
      clear HI HO HB c0 c1
      obtain ⟨a,k2,d2,rfl,rfl,han2,l,HH,HI,HO,HB⟩:=hrel
      have c0:=HB.out.at (i:=0) rfl
      have c1:=HB.out.at (i:=1) rfl
      have hz:((a+2*bs:Nat):Int)=(a:Int)+2*bs:=by omega
      rw [hz]
      by_cases c:a+2*bs<=n
      .have HH3:=yS ((ZB3 (lt:=lt) (d:=d2) yE c l).symm.trans HH.out)
       clear HH
       have m:(a:Int)+2*bs<=n:=by omega
       go_wp2_with fail
       refine (Zhz HS.out n a (a+bs) (a+2*bs) rfl yE yE d2 _ HI.out yE yE yE yE).mono ?_
       rintro e w1 ⟨rfl,i2,o2⟩
       go_wp2
       exact ⟨⟨a+2*bs,k2 - 1,_,by go_num,by go_num,yE,yE,HH3,i2,HO.out.trans o2,Yl HB.out o2 yE⟩,by simp [intOf];omega⟩
      .have hX:ZiC lt n bs n 0 d=(a,d2):=HH.out.symm.trans (ZyX c)
       clear HH
       have m:¬(a:Int)+2*bs<=n:=by omega
       by_cases f:a+bs<n
       .have HX:Hid (ZdB lt n a (a+bs) n d2=ZoT lt n bs d):=by
         show _=ZoT lt n bs d
         unfold ZoT
         rw [hX,if_pos f]
        clear hX
        have o:(a:Int)+bs<n:=by omega
        go_wp2_with fail
        refine (Zhz HS.out n a (a+bs) n rfl yE rfl d2 _ HI.out yE yE yE yE).mono ?_
        rintro e w1 ⟨rfl,i2,o2⟩
        go_wp2
        exact ⟨⟨2*bs,k - 1,_,by go_num,yE,yE,yE,by rw [HX.out];exact HH2,i2,HO.out.trans o2,Yl HB.out o2 yE⟩,by simp [intOf];omega⟩
       .have HX:Hid (d2=ZoT lt n bs d):=by
         show _=ZoT lt n bs d
         unfold ZoT
         rw [hX,if_neg f]
        clear hX
        have o:¬(a:Int)+bs<n:=by omega
        go_wp2
        exact ⟨⟨2*bs,k - 1,_,by go_num,yE,yE,yE,by rw [HX.out];exact HH2,HI,HO,HB⟩,by simp [intOf];omega⟩
    .have hX:d=ZhF lt n dk:=(ZAh b).symm.trans HH.out
     have HX:=yS hX
     clear hX HH
     go_wp2
     go_end0
     exact ⟨rfl,by rw [<-HX.out];exact HI.out,HO.out⟩
end
end
section
open Go.RowKit
noncomputable def scT:TypeInfo:=(prog.info? 67).get yO
noncomputable def scE:TypeInfo:=(prog.info? 112).get yO
theorem scK (n:Nat):Lib.swapperK n scE 25=if n=0 then 1 else if n=1 then 2 else 9:=by
 have a:scE.hasPointers=true:=yO
 have b:(scE.bytes==8)=false:=yO
 unfold Lib.swapperK
 by_cases h0:n=0
 .subst h0;rfl
 .by_cases h1:n=1
  .subst h1;rfl
  .have c:(n==0)=false:=by simp [h0]
   have d:(n==1)=false:=by simp [h1]
   simp [a,b,c,d,h0,h1]
theorem ZkN {g t:Nat}:∀(vs:List Value) {w:World}{cs:Array Value}(o:Nat),Blk w g t cs->∃a,Blk (w.setCells g o vs) g t a/\a.size=cs.size/\∀k,k<cs.size->a[k]?=if o<=k/\k<o+vs.length then vs[k - o]? else cs[k]?
 | [],w,cs,o,h=>⟨cs,h,rfl,λk _=>by rw [if_neg (by simp only[List.length_nil];omega)]⟩
 |v::vs,w,cs,o,h=>by
  obtain ⟨a,h1,h2,h3⟩:=ZkN vs (o+1) (h.set_ o v)
  refine ⟨a,h1,by rw [h2];simp,λk hk=>?_⟩
  rw [h3 k (by simpa using hk)]
  by_cases e:k=o
  .subst e
   rw [if_neg yE,if_pos yG]
   simp [hk]
  .by_cases e2:o+1<=k/\k<o+1+vs.length
   .rw [if_pos e2,if_pos (by simp only[Ah];omega),show k - o=(k - (o+1))+1 by omega,List.getElem?_cons_succ]
   .rw [if_neg e2,if_neg (by simp only[Ah];omega),Array.getElem?_setIfInBounds,if_neg (λx=>e x.symm)]
theorem ZnW {css:Nat->List Value}{m:Nat}:∀{ks:List Nat}{t r:Nat}(ht:t<ks.length),(∀k∈ks,(css k).length=m)->r<m->(ks.flatMap css)[t*m+r]?=(css ks[t])[r]?
 | [],t,r,ht,_,_=>by simp at ht
 |k::ks,0,r,ht,h,hr=>by
  rw [AU,Nat.zero_mul,Ac,Am (by rw [h k yG];exact hr)];rfl
 |k::ks,t+1,r,ht,h,hr=>by
  have hk:=h k yG
  rw [AU,An (by rw [hk,AQ];omega),hk,show (t+1)*m+r - m=t*m+r by rw [AQ];omega]
  exact ZnW (ks:=ks) (by simpa using ht) (λk mk=>h k (by simp [mk])) hr
theorem Zpe {css:Nat->List Value}{m:Nat}:∀{ks:List Nat},(∀k∈ks,(css k).length=m)->(ks.flatMap css).length=ks.length*m
 | [],_=>by simp
 |k::ks,h=>by rw [AU,Ak,h k yG,Zpe (λk mk=>h k (by simp [mk])),Ah,AQ];omega
theorem Zzc {l:List ZF}:∀{ks:List Nat}{t:Nat},(∀k∈ks,k<l.length)->(ks.filterMap λi=>l[i]?)[t]?=(ks[t]?).bind λi=>l[i]?
 | [],t,_=>by simp
 |k::ks,t,h=>by
  obtain ⟨x,hx⟩:∃x,l[k]?=some x:=⟨_,AA (h k yG)⟩
  rw [Ai,hx]
  cases t with
  |zero=>simp [hx]
  |succ t=>exact Zzc (ks:=ks) λk mk=>h k (by simp [mk])
theorem Zvh {l:List ZF}:∀{ks:List Nat},(∀k∈ks,k<l.length)->(ks.filterMap λi=>l[i]?).length=ks.length
 | [],_=>by simp
 |k::ks,h=>by
  obtain ⟨x,hx⟩:∃x,l[k]?=some x:=⟨_,AA (h k yG)⟩
  rw [Ai,hx]
  simp [Zvh (ks:=ks) λk mk=>h k (by simp [mk])]
theorem Zyb {n t : Nat}(h : t < n) : (AD n)[t]! = t := by
  rw [getElem!_pos (AD n) t (by simpa using h)]
  simp
theorem ZmJ {W:World}{l:List ZF}{css:Nat->List Value}{Ls:Nat->List Nat}:∀{ks:List Nat},(∀k∈ks,∃x,l[k]?=some x/\RCs W (eChoice x) (css k) (Ls k)/\(css k).length=7)->REs W 7 ((ks.filterMap λi=>l[i]?).map eChoice) (ks.flatMap css) (ks.flatMap Ls)
 | [],_=>⟨rfl,rfl⟩
 |k::ks,h=>by
  obtain ⟨x,hx,h1,h2⟩:=h k yG
  rw [Ai,hx]
  exact ⟨css k,_,Ls k,_,by rw [AU],by rw [AU],⟨h1,h2⟩,ZmJ λk mk=>h k (by simp [mk])⟩
theorem ZxV {W:World}{l:List ZF}{cs:List Value}{L:List Nat}(h:REs W 7 (l.map eChoice) cs L):∃(css:Nat->List Value) (Ls:Nat->List Nat),cs=(AJ l.length).flatMap css/\L=(AJ l.length).flatMap Ls/\∀k,k<l.length->∃x,l[k]?=some x/\RCs W (eChoice x) (css k) (Ls k)/\(css k).length=7:=by
 obtain ⟨css,Ls,h1,h2,h3,h4,h5⟩:=ZjB (c:=Zrm) (Zp6.reps_of h)
 have fl:∀{β:Type} (xs:List (List β)) (n:Nat),xs.length=n->xs.flatten=(AJ n).flatMap λi=>(xs[i]?).getD []:=λxs n hn=>by
  subst hn
  rw [List.flatMap_def]
  congr 1
  refine As yG λi a b=>?_
  simp only[List.getElem_map,List.getElem_range]
  rw [AA a,AX]
 refine ⟨λi=>(css[i]?).getD [],λi=>(Ls[i]?).getD [],by rw [h3];exact fl css _ h1,by rw [h4];exact fl Ls _ h2,λk hk=>?_⟩
 obtain ⟨x,hx⟩:∃x,l[k]?=some x:=⟨_,AA hk⟩
 obtain ⟨c1,hc⟩:∃x,css[k]?=some x:=⟨_,AA yE⟩
 obtain ⟨l1,hl⟩:∃x,Ls[k]?=some x:=⟨_,AA yE⟩
 have hr:=h5 k x c1 l1 hx hc hl
 exact ⟨x,hx,by simp only[hc,hl,AX];exact Zp6.to hr,by simp only[hc,AX];exact Zrm.len hr⟩
structure ScD (w:World) (B b g o cap sz:Nat) (l:List ZF) (css:Nat->List Value) (Ls:Nat->List Nat):Prop where
 el:∀k,k<l.length->∃x,l[k]?=some x/\RCs w (eChoice x) (css k) (Ls k)/\(css k).length=7
 far:∀k,k<l.length->∀y∈Ls k,y<w.heap.size/\y≠g
 gb:g≠b
 hB:B<=g
 cap:l.length<=cap/\cap<=maxLen/\o+cap*7<=sz
 jf:JF0 g
 cmp:∀x∈l,∀y∈l,(Yc x y).isSome=true
structure ScI (w:World) (b g o cap sz:Nat) (l:List ZF) (css:Nat->List Value) (Ls:Nat->List Nat) (dk:Array Nat) (W:World):Prop where
 pm:Pm (AD l.length) dk
 box:Blk W b 67 #[.slice (some ⟨g,o,none⟩) l.length cap]
 row:∃cur,Blk W g 112 cur/\cur.size=sz/\∀t r,t<l.length->r<7->cur[o+(t*7+r)]?=(css dk[t]!)[r]?
 keep:∀k,k<l.length->∀y∈Ls k,W.heap[y]?=w.heap[y]?
 j:J0 W
section
variable {w W W':World} {B b g o cap sz:Nat} {l:List ZF} {css:Nat->List Value} {Ls:Nat->List Nat} {dk:Array Nat}
theorem Zj5 (h:Pm (AD l.length) dk):dk.size=l.length:=by rw [h.1];simp
theorem Zp9 (h:Pm (AD l.length) dk):∀k∈dk.toList,k<l.length:=λk mk=>by
 have:=h.2.mem_iff.1 mk
 simpa using this
theorem Zv0 (h:Pm (AD l.length) dk) {t:Nat}(ht:t<l.length):dk[t]!<l.length/\dk.toList[t]?=some dk[t]!:=by
 have hs:=Zj5 h
 rw [getElem!_pos dk t yE]
 exact ⟨Zp9 h _ yG,by simp [AA,hs,ht]⟩
theorem ScD.at_ (D:ScD w B b g o cap sz l css Ls) (h:ScI w b g o cap sz l css Ls dk W):∀k∈dk.toList,∃x,l[k]?=some x/\RCs W (eChoice x) (css k) (Ls k)/\(css k).length=7:=λk mk=>by
 have hk:=Zp9 h.pm k mk
 obtain ⟨x,h1,h2,h3⟩:=D.el k hk
 exact ⟨x,h1,h2.keep (h.keep k hk),h3⟩
theorem ScD.len (D:ScD w B b g o cap sz l css Ls) (h:ScI w b g o cap sz l css Ls dk W):∀k∈dk.toList,(css k).length=7:=λk mk=>by
 obtain ⟨_,_,_,h3⟩:=D.at_ h k mk
 exact h3
theorem ScD.owns (D:ScD w B b g o cap sz l css Ls) (h:ScI w b g o cap sz l css Ls dk W):W.ownsV B 112 7 (.slice (some ⟨g,o,none⟩) l.length cap) l.length (dk.toList.flatMap css):=by
 obtain ⟨a,h1,h2,h3⟩:=h.row
 have hs:=Zj5 h.pm
 have hl:(dk.toList.flatMap css).length=l.length*7:=by rw [Zpe (ks:=dk.toList) (D.len h),Aj (xs:=dk),hs]
 obtain ⟨c1,c2,c3⟩:=D.cap
 refine ⟨hl,.inr ⟨g,o,cap,a,rfl,D.hB,h1,c1,c2,yE,List.ext_getElem? λj=>?_⟩⟩
 by_cases hj:j<l.length*7
 .have e:j=j / 7*7+j % 7:=by omega
  have ht:j / 7<l.length:=by omega
  rw [At hj,Au,Av,e,h3 (j / 7) (j % 7) ht yE,ZnW (ks:=dk.toList) (by simp;omega) (D.len h) yE]
  rw [getElem!_pos dk (j / 7) yE]
  simp
 .rw [Aw (by rw [List.length_take];omega),Aw (by rw [hl];omega)]
theorem ScI.ext (D:ScD w B b g o cap sz l css Ls) (h:ScI w b g o cap sz l css Ls dk W) (hb:Below W.heap.size W W'):ScI w b g o cap sz l css Ls dk W':=by
 obtain ⟨a,h1,h2⟩:=h.row
 refine ⟨h.pm,h.box.later hb,⟨a,h1.later hb,h2⟩,λk hk y my=>?_,Za0 hJ0 h.j hb⟩
 have e:=h.keep k hk y my
 have c:y<W.heap.size:=by
  have h1:=(D.far k hk y my).1
  rw [Ax h1]at e
  exact (Ay.1 e).1
 exact (hb.block y c).trans e
theorem ZCh (D : ScD w B b g o cap sz l css Ls) (h : ScI w b g o cap sz l css Ls dk W) {i j : Nat}(hi : i < l.length) (hj : j < l.length) : Calls prog 144 #[.int .i64 i, .int .i64 j, .pointer (some ⟨b, 0, none⟩)] W λe w' => e = .returned (.bool (ltC l dk[i]! dk[j]!)) /\ ScI w b g o cap sz l css Ls dk w' /\ Below W.heap.size W w' := by
  obtain ⟨i1, i2⟩ := Zv0 h.pm hi
  obtain ⟨j1, j2⟩ := Zv0 h.pm hj
  obtain ⟨x, hx⟩ : ∃ x, l[dk[i]!]? = some x := ⟨_, AA i1⟩
  obtain ⟨y, hy⟩ : ∃ y, l[dk[j]!]? = some y := ⟨_, AA j1⟩
  obtain ⟨v, hv⟩ := Option.isSome_iff_exists.1 (D.cmp x (Ag hx) y (Ag hy))
  have c := Zp9 h.pm
  have hr : Zbh i j (dk.toList.filterMap λi => l[i]?) = some (decide (v < 0)) := by
    unfold Zbh
    rw [Y3, Zzc c, i2, AH, hx, AH, Y3, Zzc c, j2, AH, hy, AH, hv, AH]
  have hl : ltC l dk[i]! dk[j]! = decide (v < 0) := by
    unfold ltC
    rw [hx, AH, hy, AH, hv, AX]
  have d := D.owns h
  have a : ((dk.toList.filterMap λi => l[i]?).map eChoice).length = l.length := by rw [AS, Zvh c, Aj, Zj5 h.pm]
  obtain ⟨c1, c2, c3⟩ := D.cap
  have f : RC W (.pt [.sl 112 7 (A0 eChoice (dk.toList.filterMap λi => l[i]?))]) (.pointer (some ⟨b, 0, none⟩)) (b :: ([g] ++ dk.toList.flatMap Ls)) := by
    refine ⟨b, [.slice (some ⟨g, o, none⟩) l.length cap], _, rfl, h.box.lt, rfl, λk u hu => ?_, ⟨_, [], [g] ++ dk.toList.flatMap Ls, [], rfl, by simp, ⟨some ⟨g, o, none⟩, cap, dk.toList.flatMap css, [g], dk.toList.flatMap Ls, by rw [a], by rw [a]; exact c1, c2, rfl, by omega, ⟨by rw [a]; exact d.1, .inr ⟨by rw [a]; omega, g, o, rfl, rfl, λk u hu => Zhd d rfl k u hu⟩⟩, ZmJ (D.at_ h)⟩, rfl, rfl⟩⟩
    rw [Ac]
    cases k with
    |zero => simp at hu; subst hu; exact h.box.at (i := 0) rfl
    |succ k => simp at hu
  rw [hl]
  refine (Sound.givesB (Zjf hr) h.j (vs := [_, _, _]) ⟨ZvK W i, ZvK W j, .inr ⟨rfl, _, _, rfl, f, λ_ _ h => h⟩, trivial⟩).mono ?_
  rintro e w' ⟨rfl, hb⟩
  exact ⟨rfl, h.ext D hb, hb⟩
theorem Zv9 {W:World}{x:ZF}{cs:List Value}{L:List Nat}(h:RCs W (eChoice x) cs L) (hl:cs.length=7):∀u∈cs,u.oneCell'=true:=
 REs.one (w:=W) (m:=7) (xs:=[eChoice x]) (cs:=cs) (L:=L) ⟨cs,[],L,[],yG,yG,⟨h,hl⟩,rfl,rfl⟩
theorem Zjs {g:Nat}:∀(vs:List Value) (o:Nat) (w:World),YM [g] w (w.setCells g o vs)
 | [],_,w=>YM.refl _ _
 |v::vs,o,w=>((YM.refl [g] w).setCell (p:=⟨g,o,none⟩) yG v).trans (Zjs vs (o+1) _)
theorem ZB6 (D:ScD w B b g o cap sz l css Ls) (h:ScI w b g o cap sz l css Ls dk W) {i j:Nat}(hi:i<l.length) (hj:j<l.length):∃W',(callFunc 228 (#[.int .i64 i,.int .i64 j]++#[.slice (some ⟨g,o,none⟩) l.length cap,typeHandle prog 112])).run prog W=.ok (.value (.tuple #[])) W'/\ScI w b g o cap sz l css Ls (swq dk i j) W'/\YM [g] W W':=by
 obtain ⟨cur,h1,h2,h3⟩:=h.row
 obtain ⟨i1,i2⟩:=Zv0 h.pm hi
 obtain ⟨j1,j2⟩:=Zv0 h.pm hj
 obtain ⟨x,hx,rx,lx⟩:=D.el _ i1
 obtain ⟨y,hy,ry,ly⟩:=D.el _ j1
 obtain ⟨c1,c2,c3⟩:=D.cap
 have hs:scE.size=7:=yO
 have hsz:=Zj5 h.pm
 obtain ⟨n,hn⟩:∃n,n=l.length:=⟨_,rfl⟩
 have c:∀t r v,t<l.length->(css dk[t]!)[r]?=some v->r<7->W.cell? ⟨g,o+t*7+r,none⟩=some v:=λt r v ht hv hr=>by
  have:=h3 t r ht hr
  rw [hv]at this
  rw [Nat.add_assoc]
  exact h1.at this
 have d:=Lib.run_swap_cells (P:=prog) false 112 scE yO (λ_=>by kernel_rfl) g o l.length cap i j hi hj (css dk[i]!) (css dk[j]!) (by rw [hs];exact lx) (by rw [hs];exact ly) (Zv9 rx lx) (Zv9 ry ly) W
  (λk v hk=>by rw [hs];exact c i k v hi hk (by have:=(AK.1 hk).1;omega)) (λk v hk=>by rw [hs];exact c j k v hj hk (by have:=(AK.1 hk).1;omega)) (λk _=>h1.frozen _) (λk _=>h1.frozen _)
 rw [hs]at d
 have ho:YM [g] W ((W.setCells g (o+i*7) (css dk[j]!)).setCells g (o+j*7) (css dk[i]!)):=(Zjs _ _ _).trans (Zjs _ _ _)
 obtain ⟨cur1,p1,p2,p3⟩:=ZkN (css dk[j]!) (o+i*7) h1
 obtain ⟨f,q1,q2,q3⟩:=ZkN (css dk[i]!) (o+j*7) p1
 have a:∀t,t<l.length->o+t*7+7<=sz:=λt ht=>by omega
 refine ⟨_,?_,⟨h.pm.trans ?_,?_,⟨f,q1,yE,λt r ht hr=>?_⟩,λk hk y my=>?_,?_⟩,ho⟩
 .rw [run_callFunc_extern func228 yO yO yO (e:=Extern.ReflectliteSwapper.swap false) yO]
  rw [show (#[.int .i64 i,.int .i64 j]++#[.slice (some ⟨g,o,none⟩) l.length cap,typeHandle prog 112]:Array Value)=#[.int .i64 i,.int .i64 j,.slice (some ⟨g,o,none⟩) l.length cap,typeHandle prog 112] from rfl,d]
  rfl
 .exact ZkY dk i j
 .exact (ho.block b h.box.lt (by simpa using λe=>D.gb e.symm)).trans h.box
 .have a1:=a t ht
  have a2:=a i hi
  have a3:=a j hj
  unfold swq
  rw [if_pos ⟨yE,yE⟩,Go.Sort.swp_get dk yE yE,q3 _ yE,lx,p3 _ yE,ly]
  by_cases e1:t=j
  .subst e1
   rw [if_pos ⟨yE,yE⟩,if_pos rfl]
   congr 1
   omega
  .rw [if_neg (λhh=>e1 yE),if_neg e1]
   by_cases e2:t=i
   .subst e2
    rw [if_pos ⟨yE,yE⟩,if_pos rfl]
    congr 1
    omega
   .rw [if_neg (λhh=>e2 yE),if_neg e2]
    exact h3 t r ht hr
 .obtain ⟨y1,y2⟩:=D.far k hk y my
  have e:=h.keep k hk y my
  have m:y<W.heap.size:=by
   rw [Ax y1]at e
   exact (Ay.1 e).1
  exact (ho.block y m (by simpa using y2)).trans e
 .exact hJ0.below (·=g) W _ h.j (λb hb=>hb ▸ D.jf) ho.os ho.tape ho.output ho.size λk hk hn=>ho.block k hk (by simpa using hn)
theorem ZAP (D:ScD w B b g o cap sz l css Ls) (a:l.length<4611686018427387904):ZgH (ScI w b g o cap sz l css Ls) l.length g 144 228 (ltC l) #[.pointer (some ⟨b,0,none⟩)] #[.slice (some ⟨g,o,none⟩) l.length cap,typeHandle prog 112] where
 n62:=a
 eg:=enters_of func144 yO rfl
 less:=λdk W i j h hi hj=>ZCh D h hi hj
 swap:=λdk W i j h hi hj=>ZB6 D h hi hj
 ext:=λdk W W' h hb=>h.ext D hb
 lt:=λdk W h=>by obtain ⟨cur,h1,_⟩:=h.row;exact h1.lt
end
noncomputable def Zpu (l:List ZF):List ZF:=(ZhF (ltC l) l.length (AD l.length)).toList.filterMap λi=>l[i]?
theorem ZxN (l:List ZF):(Zpu l).length=l.length:=by
 have h:=Zn0 (ltC l) l.length (AD l.length)
 unfold Zpu
 rw [Zvh (Zp9 h),Aj,Zj5 h]
/-- the sort: the row holds its choices in order -/
theorem ZB5 {w : World} {B b : Nat} {v : Value} {cs : List Value} {L : List Nat} {l : List ZF} (hj : J0 w) (hblk : Blk w b 67 #[v]) (hown : w.ownsV B 112 7 v l.length cs) (hre : REs w 7 (A0 eChoice l) cs L) (hO : Own w B (b :: (v.ownBlock.toList ++ L))) (hJF : ∀ g, B ≤ g → JF0 g) (h20 : l.length ≤ 1048576) (hcmp : ∀ x ∈ l, ∀ y ∈ l, (Yc x y).isSome = true) :
    Calls prog 143 #[.iface 67 v, .func (.func 144) #[] #[.pointer (some ⟨b, 0, none⟩)]] w λe w' => e = .returned (.tuple #[]) ∧ w'.cell? ⟨b, 0, none⟩ = some v ∧ (∃ cs' L', w'.ownsV B 112 7 v l.length cs' ∧ REs w' 7 (A0 eChoice (Zpu l)) cs' L' ∧ Own w' B (b :: (v.ownBlock.toList ++ L'))) ∧ Below B w w' := by
  obtain ⟨A, c, rfl, hnc, hcm⟩ := XK hown
  obtain ⟨hnb, hnd⟩ := AL.1 hO.nodup
  have hB : B ≤ b := hO.ge b (List.mem_cons_self ..)
  by_cases h2 : l.length ≤ 1
  · have hf : ∃ f, prog.funcs.findIdx? (·.name == "internal/reflectlite" ++ ".Swapper$" ++ toString (Lib.swapperK l.length scE 25)) = some f := by
      rw [scK]
      by_cases h0 : l.length = 0
      · rw [if_pos h0]; exact ⟨220, by kernel_rfl⟩
      · rw [if_neg h0, if_pos yE]; exact ⟨221, by kernel_rfl⟩
    obtain ⟨f, hf⟩ := hf
    have hT := Any.sort_SliceStable_tiny laysGt8 67 112 scT scE yO yO yO yO 25 (λ_ => by kernel_rfl) A l.length c h2 f hf (.func 144) #[] #[.pointer (some ⟨b, 0, none⟩)] w
    refine (show Calls _ 143 _ _ _ from hT).mono ?_
    rintro e w' ⟨rfl, os, rfl⟩
    have hst : Zpu l = l := by
      have key : ∀ X : Array Nat, Pm (AD l.length) X → X.toList = AJ l.length := λX hX => by
        have p := hX.2
        rw [Az] at p
        rcases Nat.eq_zero_or_pos l.length with h0 | h0
        · rw [h0] at p ⊢
          exact List.perm_nil.1 p
        · have h1 : l.length = 1 := by omega
          rw [h1] at p ⊢
          exact List.perm_singleton.1 p
      unfold Zpu
      rw [key _ (Zn0 (ltC l) l.length (AD l.length))]
      match l, h2 with
      | [], _ => rfl
      | [x], _ => rfl
    have hb0 : Below w.heap.size w (Go.Sort.grow w os) := ⟨rfl, rfl, rfl, by rw [Go.Sort.size_grow]; omega, λk hk => Go.Sort.heap_grow_old _ _ hk⟩
    have hlt := hO.lt
    have hk : ∀ y ∈ b :: ((Value.slice A l.length c).ownBlock.toList ++ L), (Go.Sort.grow w os).heap[y]? = w.heap[y]? := λy m => hb0.block y (hlt y m)
    refine ⟨rfl, (Go.Sort.cell?_grow _ _ _ hblk.lt).trans (hblk.at (i := 0) rfl), ⟨cs, L, XJ hown λy m => hk y (by simp at m ⊢; exact .inr (.inl m)), ?_, hO.keep hk⟩, hb0.mono (AC hB (Nat.le_of_lt hblk.lt))⟩
    rw [hst]
    exact REs.keep hre λy m => hk y (by simp [m])
  · rcases hown.2 with ⟨h0, h1⟩ | ⟨g, o, cap, cur, hv, hb, hg, hnc', hm, hs, ht⟩
    · omega
    simp only[Value.slice.injEq, true_and] at hv
    obtain ⟨rfl, rfl⟩ := hv
    have hgb : g ≠ b := λe => hnb (by rw [← e]; simp [Value.ownBlock])
    have hgL : ∀ y ∈ L, y ≠ g := λy m e => (AF.1 hnd).2.2 g (by simp [Value.ownBlock]) y m e.symm
    obtain ⟨css, Ls, e1, e2, hel⟩ := ZxV hre
    subst e1 e2
    have hl7 : ∀ k ∈ AJ l.length, (css k).length = 7 := λk mk => by
      obtain ⟨_, _, _, h7⟩ := hel k (by simpa using mk)
      exact h7
    have D : ScD w B b g o c cur.size l css Ls := ⟨hel, λk hk y my => ⟨hO.lt y (by simp; right; right; exact ⟨k, hk, my⟩), hgL y (by simp; exact ⟨k, hk, my⟩)⟩, hgb, hb, ⟨hnc, hcm, hs⟩, hJF g hb, hcmp⟩
    have hI : ScI w b g o c cur.size l css Ls (AD l.length) w := by
      refine ⟨Pm.refl _, hblk, ⟨cur, hg, rfl, λt r ht' hr => ?_⟩, λ_ _ _ _ => rfl, hj⟩
      have hx : ((cur.toList.drop o).take (l.length * 7))[t * 7 + r]? = (css t)[r]? := by
        rw [ht, ZnW (by simpa using ht') hl7 hr]
        simp
      rw [At yE, Au, Av] at hx
      rw [hx, Zyb ht']
    have hb2 : Below w.heap.size w (stableWorld prog laysGt8_ren 67 (some ⟨g, o, none⟩) l.length c w) := ((Below.refl _ _).alloc (A6 _) _).alloc yG _
    have hI2 := hI.ext D hb2
    have hsb : sliceBound prog 112 scE 25 (some ⟨g, o, none⟩) l.length c = #[.slice (some ⟨g, o, none⟩) l.length c, typeHandle prog 112] := by
      unfold sliceBound
      rw [show Lib.swapperK l.length scE 25 = 9 by rw [scK, if_neg yE, if_neg yE]]
      rfl
    have hS := Zxj (ZAP D yE) rfl _ _ hI2
    have hT := Any.sort_SliceStable_of_stable laysGt8 67 112 scT scE yO yO yO yO 25 (λ_ => by kernel_rfl) (some ⟨g, o, none⟩) l.length c yE 228 (by rw [scK, if_neg yE, if_neg yE]; kernel_rfl) (.func 144) #[] #[.pointer (some ⟨b, 0, none⟩)] w _ (by rw [hsb]; exact hS)
    refine (show Calls _ 143 _ _ _ from hT).mono ?_
    rintro e w' ⟨rfl, hI3, ho⟩
    have hp := (hI3.pm.2).flatMap_right Ls
    rw [Az] at hp
    have hBw : B ≤ w.heap.size := AC hB (Nat.le_of_lt hblk.lt)
    refine ⟨rfl, hI3.box.at (i := 0) rfl, ⟨_, (ZhF (ltC l) l.length (AD l.length)).toList.flatMap Ls, D.owns hI3, ZmJ (D.at_ hI3), ⟨?_, λy m => hO.ge y ?_, λy m => ?_⟩⟩, Below.trans (hb2.mono hBw) (ho.below (AC hBw hb2.size) (by simpa using hb))⟩
    · refine (List.Perm.nodup_iff ?_).2 hO.nodup
      exact (hp.append_left _).cons b
    · exact ((hp.append_left _).cons b).mem_iff.1 m
    · rcases AE.1 m with rfl | m
      · exact ⟨_, _, hI3.box⟩
      · rcases A9.1 m with m | m
        · simp [Value.ownBlock] at m
          subst m
          obtain ⟨cur', h1, _⟩ := hI3.row
          exact ⟨_, _, h1⟩
        · obtain ⟨k, mk, my⟩ := List.mem_flatMap.1 m
          rw [hI3.keep k (Zp9 hI3.pm k mk) y my]
          refine hO.plain y (by simp; right; right; exact ⟨k, Zp9 hI3.pm k mk, my⟩)
def ScK (l:List ZF) (st:St):Prop:=st.sl 3=.bp 0 0/\st.ob 0=.box 67 [.row 1]/\st.ob 1=.row 112 7 (A0 eChoice l) 2
theorem Zy2 [NW] {W:Qq}{U:Nat->Prop}{st:St}{a:Act}{w:World}{l:List ZF}(hx:∀b,¬(W.x b\/W.y b)) (hI:Inv W U st a w) (hk:ScK l st):
  a.defers=[]/\∃b v cs L,a.tmps.getD 3 undef=.pointer (some ⟨b,0,none⟩)/\Blk w b 67 #[v]/\w.ownsV W.heap.size 112 7 v l.length cs/\REs w 7 (A0 eChoice l) cs L/\Own w W.heap.size (b::(v.ownBlock.toList++L))/\Bel W w:=by
 obtain ⟨g,hH,hS⟩:=hI.ex
 obtain ⟨k1,k2,k3⟩:=hk
 have h9:=hS 3
 rw [k1]at h9
 obtain ⟨b,e1,e2⟩:=h9
 have o1:=hH.obs 0
 rw [k2]at o1
 obtain ⟨b',vs,f1,f2,f3,f4,f5⟩:=o1
 obtain rfl:b=b':=by rw [e1]at f1;simpa using f1
 have o2:=hH.obs 1
 rw [k3]at o2
 obtain ⟨_,cs,L,p1,p2,p3⟩:=o2
 obtain ⟨_,p3,p4⟩:True/\g.O 1=(g.val 1).ownBlock.toList/\g.D 1=L:=by
  rcases p3 with ⟨_,h1,h2⟩|⟨h,_⟩|⟨h,_⟩
  .exact ⟨trivial,h1,h2⟩
  .simp at h
  .simp at h
 have hv:vs=[g.val 1]:=by
  cases vs with
  |nil=>exact f5.elim
  |cons v vs=>
   cases vs with
   |nil=>rw [f5.1.1]
   |cons _ _=>exact f5.2.elim
 subst hv
 have j:∀k,∀y∈g.O k++g.D k,W.heap.size<=y:=λk y m=>(hH.plain k y m).1.resolve_right (hx y)
 have o:∀y∈g.O 0++g.D 0,∃i e,w.heap[y]?=some (.cells i e (0,0)):=λy m=>by
  have h:=(hH.plain 0 y m).2
  rw [k2]at h
  exact h
 have d:∀y∈g.O 1++g.D 1,∃i e,w.heap[y]?=some (.cells i e (0,0)):=λy m=>by
  have h:=(hH.plain 1 y m).2
  rw [k3]at h
  exact h
 have c:=j 1
 have f:=hH.nodup 1
 have p:=hH.apart 0 1 yF b (by rw [f2];simp)
 rw [p3,p4]at c f p d
 rw [AS]at p1
 have q:W.heap.size<=b:=j 0 b (by rw [f2];simp)
 refine ⟨hI.defers,b,g.val 1,cs,L,e2,f4,ZnE p1 λy m=>c y (AG _ m),p2,⟨AL.2 ⟨p,f⟩,λy m=>?_,λy m=>?_⟩,hH.below⟩
 .rcases AE.1 m with rfl|m
  .exact q
  .exact c y m
 .rcases AE.1 m with rfl|m
  .exact o y (by rw [f2];simp)
  .exact d y m
theorem ZtM {l:List Value}{n:Nat}(h:l.length=n):∃f:Nat->Value,l=(AJ n).map f:=by
 refine ⟨λi=>l.getD i undef,As (by simp [h]) λi h1 h2=>?_⟩
 simp [h1]
theorem ZG0 {l_0 v1:List ZF}(h:Zbb l_0=some v1) (M:v1.length<=1048576) (E:∀x∈v1,∀y∈v1,(Yc x y).isSome=true):Sound prog J0 100 [(false,[.sl 112 7 (A0 eChoice l_0)])] [(false,[(false,.sl 112 7 (A0 eChoice (Zpu v1)))])]:=by
 refine Zwn (od:=λ_=>none) (hds:=hds) htt hJ0 hmix 3 (ScK v1) func100 yO rfl yO yO ?_ ?_
 .unfold Zbb at h
  simp only[Zqf,Znd,f100,Zk,go_sem,seval]
  refine Zh h (λi o st=>IV [(3,.bp 0 0),(6,.p false [.c (.sl 112 7 (A0 eChoice l_0))]),(7,.p false [.c (.int .i64 ((l_0.length:Nat):Int))]),(8,.p false [.c (.int .i64 ((i:Nat):Int))])] [.box 67 [.row 1],.row 112 7 (A0 eChoice o) 2] st) [(true,16,0)] [16,80] yF ?_ ?_ ?_
  .simp only[*,go_sem,seval]
  .rintro i9 x10 o ⟨sl,ob,n⟩ y1 B F N h hy1
   simp only[go_sem,seval,Zc]at F
   obtain ⟨⟨g5_3,G,g5_7,g5_8⟩,og5_0,og5_1,hn⟩:=F
   subst hn
   have C:=WF.slotL N G (j:=0) rfl
   have q6:=Zz B
   have q7:=ZC B
   have q8:=Zj (ZA B) C
   try simp only[*,go_sem,seval]
   obtain ⟨v11,e9,h⟩:=ZE h
   refine Za (by have hh:=Zl1 e9;first|exact hh|(simp only[*,go_sem]at hh;exact hh)) ?_
   obtain ⟨O,h⟩:=Zq h
   try simp only[Nat.reduceLeDiff]at O
   try simp only[*,go_sem,seval]
   refine ⟨_,[],[0,146],(A4 h).symm,yF,?_⟩
   try simp only[*,go_sem,seval]
  .rintro o ⟨sl,ob,n⟩ z hW12 h
   simp only[go_sem,seval,Zc]at z
   obtain ⟨⟨D,g13_6,g13_7,g13_8⟩,t,u,hn⟩:=z
   subst hn
   have q14:=Zx (l_0.length)
   obtain rfl:=A4 h
   try simp only[*,go_sem,seval]
   show ScK _ _
   exact ⟨by first|exact D|simp only[*,go_sem,seval],by first|exact t|simp only[*,go_sem,seval],by first|exact u|simp only[*,go_sem,seval]⟩
 .intro _ W U st a w hJ hz hx hI hN hk
  obtain ⟨P,b,v,cs,L,h9,q,A,H,hO,d⟩:=Zy2 hx hI hk
  simp only[Zql]
  obtain ⟨I,df⟩:=a
  obtain ⟨tm,rfl⟩:∃l,I=List.toArray l:=⟨I.toList,yG⟩
  obtain rfl:df=[]:=P
  have hN:tm.length=23:=hN
  clear hI hk
  obtain ⟨f,rfl⟩:=ZtM hN
  have hf:f 3=.pointer (some ⟨b,0,none⟩):=h9
  clear h9 hN
  have hj:J0 w:=hJ0.below (λ_=>False) W.toWorld w hJ (λ_ hh=>hh.elim) d.os d.tape d.output d.size λk hk _=>d.block k hk λhh=>hx k (.inl hh)
  have hS:=ZB5 hj q A H hO (λg hg=>hJ0.new W.toWorld g hJ hg) M E
  have k0:w.cell? ⟨b,0,none⟩=some v:=q.at (i:=0) rfl
  have HBW:=yS d
  have HX:=yS hx
  have HZ:=yS hz
  clear q A H hO d hx hz hj
  simp only[AJ,List.range.loop,A0,hf]
  go_wp2_with (go_at_call 143;refine hS.mono ?_;rintro e w' ⟨rfl,k1,J,K⟩)
  clear hS k0
  have HR:=yS J
  have HW:=yS K
  clear J K
  go_wp2
  go_ret
  obtain ⟨Q,L',h1,h2,h3⟩:=HR.out
  obtain ⟨_,R⟩:=AL.1 h3.nodup
  have HO:Own w' W.heap.size (v.ownBlock.toList++L'):=⟨R,λy m=>h3.ge y (AN _ m),λy m=>h3.plain y (AN _ m)⟩
  refine ⟨v,λ_=>True,rfl,⟨[_],v.ownBlock.toList++L',⟨_,[],v.ownBlock.toList++L',[],rfl,yG,.inr ⟨rfl,_,rfl,yF,Q,L',by rw [AS,ZxN];exact h1,h2,rfl,λ_ _=>trivial⟩,rfl,rfl⟩,HO,rfl⟩,λ_ _=>trivial,?_⟩
  exact ⟨HW.out.os.trans HBW.out.os,HW.out.tape.trans HBW.out.tape,HW.out.output.trans HBW.out.output,AC HBW.out.size HW.out.size,λk hk=>(HW.out.block k hk).trans (HBW.out.block k hk λhh=>HX.out k (.inl hh))⟩
theorem i_SortChoices_ok {l_0 r:List ZF}(h:Zbd l_0=some r):Sound prog J0 100 [(false,[.sl 112 7 (A0 eChoice l_0)])] [(false,[(false,.sl 112 7 (A0 eChoice r))])]:=by
 unfold Zbd at h
 obtain ⟨v1,e1,h⟩:=ZE h
 by_cases hc:v1.length<=1048576/\∀x∈v1,∀y∈v1,(Yc x y).isSome=true
 .rw [if_pos hc]at h
  obtain rfl:=A4 h
  exact ZG0 e1 hc.1 hc.2
 .rw [if_neg hc]at h;cases h
end
end Go.Proofs.YthjnneiibkknhaaGreatDoor
