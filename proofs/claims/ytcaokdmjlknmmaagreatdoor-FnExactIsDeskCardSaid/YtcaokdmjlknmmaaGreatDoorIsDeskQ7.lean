/- Texts of this proof, joined: Dp8, Dp9, Dp10, Dp11, Dp12, BStd, DE, Tk, W0, Tw, Ts, Dp13, Dp14, Dp15, Dp16. What each holds is said at its theorems. -/
import Derived.Test.YtcaokdmjlknmmaaGreatDoorIsDeskQ6
import Derived.Test.YtcaokdmjlknmmaaGreatDoorIsDeskQ4
import Derived.Test.YtcaokdmjlknmmaaGreatDoorIsDeskQ1
import Derived.Test.YtcaokdmjlknmmaaGreatDoorIsDeskQ5
import Derived.Test.YtcaokdmjlknmmaaGreatDoorIsDeskQ2
import Derived.Test.YtcaokdmjlknmmaaGreatDoorProg
import Derived.OwnWalk
import Derived.Outline
import Derived.WalkSpells
import Derived.StillTailTactics
import Derived.Deep.RegionHeld3
open Int renaming toNat_natCast→AJ
open List renaming map→A0,append_nil→AB,append_assoc→AC,nil_append→AD,mem_append→AG,getElem?_eq_getElem→AH,nodup_append→AI,sublist_append_right→AL,getElem?_eq_some_iff→AM,take_add_one→AN,mem_flatten→AO,length_append→AP,mem_append_right→AR,mem_cons→AS,not_mem_nil→AT,take_of_length_le→AW,flatten_cons→AY,mem_of_getElem?→AZ
open List.Sublist renaming append→AX
open Nat renaming le_refl→AE,le_trans→AF,lt_of_lt_of_le→AK,zero_le→AQ,le_succ→AU
open Option.some renaming inj→AA
open Go.Proofs.Tryz
set_option linter.unusedSimpArgs false
set_option linter.unusedVariables false
set_option maxRecDepth 1000000
set_option maxHeartbeats 4000000
namespace Go.Proofs.YtcaokdmjlknmmaaGreatDoor
section
theorem Zgu {x_0:Zf}{r:Bool}(h:Zd7 x_0=some r):Zm prog J0 134 [(true,ZE x_0)] [(false,[(false,.bool r)])]:=by
 refine fnk func134 rfl ?_
 unfold Zd7 at h
 have a:ZaR ⟨#[]⟩=true:=by decide
 simp only[fnS,f134,Zq,go_sem,seval,a]
 refine yB h (fun _ h=>?_) fun _ h=>?_
 refine ZE9 h fun _ b h=>Zb (Zan b)<|yA ?_
 iterate 2 refine yB h (fun _ h=>?_) fun _ h=>?_
 iterate 3 (cases h;exact yD)
 refine yB h (fun _ h=>?_) fun _ h=>?_
 refine ZE9 h fun _ c h=>Zb (Zan c)<|yA ?_
 iterate 2 refine yB h (fun _ h=>?_) fun _ h=>?_
 iterate 3 (cases h;exact yD)
 iterate 3 refine yB h (fun _ h=>?_) fun _ h=>?_
 refine ZE9 h fun _ d h=>Zb (Zal d)<|yA ?_
 refine yB h (fun _ h=>?_) fun _ h=>?_
 refine ZE9 h fun _ e h=>Zb (Zal e) ?_
 iterate 4 (cases h;exact yD)
 iterate 3 refine yB h (fun _ h=>?_) fun _ h=>?_
 refine ZE9 h fun _ f h=>Zb (Zal f)<|yA ?_
 refine yB h (fun _ h=>?_) fun _ h=>?_
 refine ZE9 h fun _ g h=>Zb (Zal g) ?_
 iterate 4 (cases h;exact yD)
 iterate 3 refine yB h (fun _ h=>?_) fun _ h=>?_
 refine ZE9 h fun _ i h=>Zb (Zal i)<|yA ?_
 refine yB h (fun _ h=>?_) fun _ h=>?_
 refine ZE9 h fun _ j h=>Zb (Zal j) ?_
 iterate 5 (cases h;exact yD)
theorem Zfc {r_0:Zl}{i_1:Int}{v_2:ByteArray}{r:Bool}(h:X3 r_0 i_1 v_2=some r):Zm prog J0 138 [(true,Zy r_0),(false,[.int .i64 i_1]),(false,[.str v_2])] [(false,[(false,.bool r)])]:=by
 refine fnk func138 rfl ?_
 unfold X3 at h
 simp only[fnS,f138,Zq,go_sem,seval]
 refine Zi h (fun i _ st=>IV [(1,yM (.int .i64 i_1)),(2,yM (.str v_2)),(3,.bp 0 0),(7,yL i)] [zH 64 (Zy r_0)] st) [] [0] yF yD ?_ ?_
 rintro _ _ ⟨⟩ ⟨_,_,_⟩ _ a d k h l
 simp only[go_sem,seval,Zd]at d
 obtain ⟨⟨_,_,_,_⟩,m,hn⟩:=d
 subst hn
 have o:=WF.boxL k m (j:=2) rfl
 have:=ZR a
 have:=ZT a
 have:=Zp (ZS a) o
 simp only[*,go_sem,seval]
 refine yB h (fun _ h=>?_) fun _ h=>?_
 refine ZE9 h fun _ q h=>Zb (ZcH q)<|yA ?_
 refine ZE9 h fun _ t h=>Zb (Q0 t)<|yA ?_
 refine yB h (fun _ h=>?_) fun _ h=>?_
 replace h:=Zt h l
 cases h;exact yD
 exact yR h [0]
 exact yR h [0]
 rintro ⟨⟩ ⟨_,_,_⟩ e _ h
 simp only[go_sem,seval,Zd]at e
 obtain ⟨⟨_,_,_,_⟩,_,hn⟩:=e
 subst hn
 have:=ZN (r_0.cond.length)
 simp only[*,go_sem,seval]
 refine Zi h (fun i _ st=>IV [(2,yM (.str v_2)),(3,.bp 0 0),(8,yL i)] [zH 64 (Zy r_0)] st) [] [0] yF yD ?_ ?_
 rintro _ _ ⟨⟩ ⟨_,_,_⟩ _ b f u h v
 simp only[go_sem,seval,Zd]at f
 obtain ⟨⟨_,_,_⟩,w,hn⟩:=f
 subst hn
 have x:=WF.boxL u w (j:=3) rfl
 have:=ZR b
 have:=ZT b
 have:=Zp (ZS b) x
 simp only[*,go_sem,seval]
 refine ZE9 h fun _ y h=>Zb (ZcS y)<|yA ?_
 refine ZE9 h fun _ z h=>Zb (Q0 z)<|yA ?_
 refine yB h (fun _ h=>?_) fun _ h=>?_
 replace h:=Zt h v
 cases h;exact yD
 exact yR h [0]
 rintro ⟨⟩ ⟨_,_,_⟩ g _ h
 simp only[go_sem,seval,Zd]at g
 obtain ⟨⟨_,_,_⟩,_,hn⟩:=g
 subst hn
 have:=ZN (r_0.thn.length)
 cases h;exact yD
theorem ZnE {a_0:ZY}{r:Bool}(h:Zet a_0=some r):Zm prog J0 139 [(true,ZQ a_0)] [(false,[(false,.bool r)])]:=by
 refine fnk func139 rfl ?_
 unfold Zet at h
 have a:ZaR ⟨#[]⟩=true:=by decide
 simp only[fnS,f139,Zq,go_sem,seval,a]
 refine yB h (fun _ h=>?_) fun _ h=>?_
 refine ZE9 h fun _ b h=>Zb (Zan b) ?_
 cases h;exact yD
 refine yB h (fun _ h=>?_) fun _ h=>?_
 refine ZE9 h fun _ c h=>Zb (Zan c) ?_
 cases h;exact yD
 iterate 2 refine yB h (fun _ h=>?_) fun _ h=>?_
 iterate 3 (cases h;exact yD)
theorem ZnO {r_0:Zl}{r:(List ByteArray)}(h:ZdU r_0=some r):Zm prog J0 141 [(true,Zy r_0)] [(false,[(false,.sl 9 1 (A0 ZH r))])]:=by
 refine fnk func141 rfl ?_
 unfold ZdU at h
 simp only[fnS,f141,Zq,go_sem,seval]
 refine Zi h (fun i a st=>IV [(1,.bp 0 0),(3,.p false [.row 1]),(4,yL i)] [zH 64 (Zy r_0),.row 9 1 (A0 ZH a) 2] st) [] [0,32] yF yD ?_ ?_
 rintro A _ a ⟨_,_,_⟩ _ b m B h _
 simp only[go_sem,seval,Zd]at m
 obtain ⟨⟨_,_,_⟩,C,_,hn⟩:=m
 subst hn
 have D:=WF.boxL B C (j:=2) rfl
 have:=ZR b
 have:=ZT b
 have:=Zp (ZS b) D
 simp only[*,go_sem,seval]
 refine ZE9 h fun o E h=>Zb (ZcH E)<|yA ?_
 refine Zi h (fun i d st=>IV [(1,.bp 0 0),(3,.p false [.row 1]),(4,yL A),(5,.p false [.row 2]),(6,yL i)] [zH 64 (Zy r_0),.row 9 1 (A0 ZH d) 2,.row 9 1 (A0 ZH o) 2] st) [] [0,1,162] yF yD ?_ ?_
 rintro _ _ d ⟨_,_,_⟩ _ e q F h _
 simp only[go_sem,seval,Zd]at q
 obtain ⟨⟨_,_,_,_,_⟩,_,_,G,hn⟩:=q
 subst hn
 have H:=WF.rowL F G
 have:=ZR e
 have:=ZT e
 have:=Zp (ZS e) H
 simp only[*,go_sem,seval]
 refine ZE9 h fun _ I h=>Zb (Zbd I)<|yA ?_
 exact yR h [0,147,2]
 rintro d ⟨_,_,_⟩ t _ h
 simp only[go_sem,seval,Zd]at t
 obtain ⟨⟨_,_,_,_,_⟩,_,_,_,hn⟩:=t
 subst hn
 have:=ZN (o.length)
 simp only[*,go_sem,seval]
 exact yR h [0,1]
 rintro a ⟨_,_,_⟩ u _ h
 simp only[go_sem,seval,Zd]at u
 obtain ⟨⟨_,_,_⟩,_,_,hn⟩:=u
 subst hn
 have:=ZN (r_0.cond.length)
 simp only[*,go_sem,seval]
 refine Zi h (fun i f st=>IV [(1,.bp 0 0),(3,.p false [.row 1]),(7,yL i)] [zH 64 (Zy r_0),.row 9 1 (A0 ZH f) 2] st) [] [0,1] yF yD ?_ ?_
 rintro J _ f ⟨_,_,_⟩ _ g v K h _
 simp only[go_sem,seval,Zd]at v
 obtain ⟨⟨_,_,_⟩,L,_,hn⟩:=v
 subst hn
 have M:=WF.boxL K L (j:=3) rfl
 have:=ZR g
 have:=ZT g
 have:=Zp (ZS g) M
 simp only[*,go_sem,seval]
 refine ZE9 h fun w N h=>Zb (ZcS N)<|yA ?_
 refine Zi h (fun i k st=>IV [(1,.bp 0 0),(3,.p false [.row 1]),(7,yL J),(8,.p false [.row 2]),(9,yL i)] [zH 64 (Zy r_0),.row 9 1 (A0 ZH k) 2,.row 9 1 (A0 ZH w) 2] st) [] [0,1,178] yF yD ?_ ?_
 rintro _ _ k ⟨_,_,_⟩ _ l x O h _
 simp only[go_sem,seval,Zd]at x
 obtain ⟨⟨_,_,_,_,_⟩,_,_,P,hn⟩:=x
 subst hn
 have Q:=WF.rowL O P
 have:=ZR l
 have:=ZT l
 have:=Zp (ZS l) Q
 simp only[*,go_sem,seval]
 refine ZE9 h fun _ R h=>Zb (Zbd R)<|yA ?_
 exact yR h [0,147,2]
 rintro k ⟨_,_,_⟩ y _ h
 simp only[go_sem,seval,Zd]at y
 obtain ⟨⟨_,_,_,_,_⟩,_,_,_,hn⟩:=y
 subst hn
 have:=ZN (w.length)
 simp only[*,go_sem,seval]
 exact yR h [0,1]
 rintro f ⟨_,_,_⟩ z _ h
 simp only[go_sem,seval,Zd]at z
 obtain ⟨⟨_,_,_⟩,_,_,hn⟩:=z
 subst hn
 have:=ZN (r_0.thn.length)
 cases h;exact yD
theorem Znv {l_0:(List Z2)}{r:Bool}(h:ZdQ l_0=some r):Zm prog J0 34 [(false,[.sl 85 3 (A0 YF l_0)])] [(false,[(false,.bool r)])]:=by
 refine fnk func34 rfl ?_
 unfold ZdQ at h
 simp only[fnS,f34,Zq,go_sem,seval]
 refine Zi h (fun i _ st=>IV [(0,yM (zD l_0)),(3,yL i)] [] st) [] [] yF yD ?_ ?_
 rintro l _ ⟨⟩ ⟨_,_,_⟩ _ a b m h d
 simp only[go_sem,seval,Zd]at b
 obtain ⟨⟨o,_⟩,hn⟩:=b
 subst hn
 have q:=WF.slotL m o (j:=0) rfl
 have:=ZR a
 have:=ZT a
 have:=Zp (ZS a) q
 simp only[*,go_sem,seval]
 refine ZE9 h fun _ t h=>Zb (XK t)<|yA ?_
 refine yB h (fun _ h=>?_) fun _ h=>?_
 refine Zaj h (fun e st=>IV [(0,yM (zD l_0)),(3,yL l),(4,yM (.int .i64 e))] [] st) [] [] yF yD ?_
 rintro e ⟨_,_,_⟩ _ f _ h g
 simp only[go_sem,seval,Zd]at f
 obtain ⟨⟨_,_,_⟩,hn⟩:=f
 subst hn
 simp only[*,go_sem,seval]
 refine yB h (fun _ h=>?_) fun _ h=>?_
 obtain ⟨_,_,_,_,h⟩:=Qj h
 simp only[*,go_sem,seval]
 refine yB h (fun _ h=>?_) fun _ h=>?_
 replace h:=Zt h g
 replace h:=Zt h d
 cases h;exact yD
 exact yR h []
 replace h:=Zt h g
 exact yR h []
 replace h:=Zt h d
 cases h;exact yD
 rintro ⟨⟩ ⟨_,_,_⟩ k _ h
 simp only[go_sem,seval,Zd]at k
 obtain ⟨⟨_,_⟩,hn⟩:=k
 subst hn
 have:=ZN (l_0.length)
 simp only[*,go_sem,seval]
 refine ZE9 h fun _ u h=>Zb (ZiR u)<|yA ?_
 refine ZE9 h fun _ v h=>Zb (Zia v) ?_
 cases h;exact yD
theorem Zk0 {r_0:Zl}{r:(List Zf)}(h:ZbT r_0=some r):Zm prog J0 91 [(true,Zy r_0)] [(false,[(false,.sl 107 5 (A0 ZE r))])]:=by
 refine fnk func91 rfl ?_
 unfold ZbT at h
 simp only[fnS,f91,Zq,go_sem,seval]
 refine ZE9 h fun f g h=>Zb (ZkZ g)<|yA ?_
 refine Zi h (fun i a st=>IV [(1,.bp 0 0),(3,.p false [.row 1]),(4,.p false [.row 2]),(5,yL i)] [zH 64 (Zy r_0),.row 107 5 (A0 ZE a) 2,.row 218 2 (A0 ZO f) 2] st) [] [0,32,80] yF yD ?_ ?_
 rintro _ _ a ⟨_,_,_⟩ _ b d k h _
 simp only[go_sem,seval,Zd]at d
 obtain ⟨⟨_,_,_,_⟩,l,_,_,hn⟩:=d
 subst hn
 have m:=WF.boxL k l (j:=2) rfl
 have:=ZR b
 have:=ZT b
 have:=Zp (ZS b) m
 simp only[*,go_sem,seval]
 refine ZE9 h fun _ o h=>Zb (Zdm o) ?_
 obtain ⟨q,h⟩:=ZM h
 try simp only[Nat.reduceLeDiff]at q
 simp only[*,go_sem,seval]
 exact yR h [0,227,2]
 rintro a ⟨_,_,_⟩ e _ h
 simp only[go_sem,seval,Zd]at e
 obtain ⟨⟨_,_,_,_⟩,_,_,_,hn⟩:=e
 subst hn
 have:=ZN (r_0.cond.length)
 cases h;exact yD
theorem ZpO {a:Ze}{b:Int}{d:Zf}{r:(Int×Ze)}(h:Zfd a b d=some r):Zf4 prog J0 JF0 92 48 [(false,.sl 64 4 (A0 Zy a.rules)),(false,.sl 3 1 (A0 Z8 a.ends)),(false,.sl 103 3 (A0 Z0 a.alphas)),(false,.sl 110 8 (A0 Ym a.nodes)),(false,.sl 83 2 (A0 Zw a.facts)),(false,.int .i64 a.tries)] none [(false,[.int .i64 b]),(true,ZE d)] [(false,[(false,.int .i64 r.1)])] [(false,.sl 64 4 (A0 Zy r.2.rules)),(false,.sl 3 1 (A0 Z8 r.2.ends)),(false,.sl 103 3 (A0 Z0 r.2.alphas)),(false,.sl 110 8 (A0 Ym r.2.nodes)),(false,.sl 83 2 (A0 Zw r.2.facts)),(false,.int .i64 r.2.tries)]:=by
 refine fno func92 rfl ?_
 unfold Zfd at h
 simp only[fnO,f92,Ze8,gvC,go_sem,seval]
 refine Zaj h (fun f st=>IV [(0,.bp 0 0),(1,.p false [.c (.int .i64 b)]),(5,.bp 6 0),(7,.p false [.c (.int .i64 f)])] [.box 48 [.row 1,.row 2,.row 3,.row 4,.row 5,.c (.int .i64 a.tries)],.row 64 4 (A0 Zy a.rules) 2,.row 3 1 (A0 Z8 a.ends) 2,.row 103 3 (A0 Z0 a.alphas) 2,.row 110 8 (A0 Ym a.nodes) 2,.row 83 2 (A0 Zw a.facts) 2,.box 107 [.c (.int .i64 d.kind),.c (.str d.pattern.rel),.c (.sl 9 1 (A0 ZH d.pattern.args)),.c (.str d.left),.c (.str d.right)]] st) [] [0,1,2,3,4,5,6] yF ?_ ?_
 .simp only[*,go_sem,seval]
 .rintro f ⟨sl,ob,n⟩ y1 g hW3 h e
  simp only[go_sem,seval,Zd]at g
  obtain ⟨⟨g4_0,g4_1,g4_5,g4_7⟩,og4_0,og4_1,og4_2,og4_3,og4_4,og4_5,og4_6,hn⟩:=g
  subst hn
  simp only[*,go_sem,seval]
  refine Zc h (fun c5 h=>?_) (fun c5 h=>?_)<;>try simp only[*,go_sem,seval]
  .obtain ⟨p6,h⟩:=ZM h
   obtain ⟨x4,e7,h⟩:=Za h
   simp only[*,go_sem,seval]
   refine Zc h (fun c8 h=>?_) (fun c8 h=>?_)<;>try simp only[*,go_sem,seval]
   .refine ZE9 h fun v5 e9 h=>Zb (Ze7 e9) ?_
    simp only[*,go_sem,seval]
    refine Zc h (fun i h=>?_) (fun i h=>?_)<;>try simp only[*,go_sem,seval]
    .replace h:=Zt h e
     obtain rfl:=AA h
     simp only[*,go_sem,seval]
    .refine ⟨_,[],[0,1,2,3,4,5,6],(AA h).symm,yF,?_⟩
     simp only[*,go_sem,seval]
   .refine ⟨_,[],[0,1,2,3,4,5,6],(AA h).symm,yF,?_⟩
    simp only[*,go_sem,seval]
  .refine ZE9 h fun v6 j h=>Zb (Zgz j) ?_
   simp only[*,go_sem,seval]
   refine Zc h (fun k h=>?_) (fun k h=>?_)<;>try simp only[*,go_sem,seval]
   .refine ZE9 h fun v7 l h=>Zb (Zjo l) ?_
    simp only[*,go_sem,seval]
    obtain ⟨v8,m,h⟩:=Za h
    refine Zim (ZjM m) ?_
    obtain ⟨o,h⟩:=ZM h
    try simp only[Nat.reduceLeDiff]at o
    replace h:=Zt h e
    obtain rfl:=AA h
    simp only[*,go_sem,seval]
   .refine Zc h (fun q h=>?_) (fun q h=>?_)<;>try simp only[*,go_sem,seval]
    .refine ZE9 h fun v9 t h=>Zb (Zjo t) ?_
     simp only[*,go_sem,seval]
     obtain ⟨v10,u,h⟩:=Za h
     refine Zim (ZjM u) ?_
     obtain ⟨v,h⟩:=ZM h
     try simp only[Nat.reduceLeDiff]at v
     replace h:=Zt h e
     obtain rfl:=AA h
     simp only[*,go_sem,seval]
    .obtain ⟨w,h⟩:=ZM h
     try simp only[Nat.reduceLeDiff]at w
     replace h:=Zt h e
     obtain rfl:=AA h
     simp only[*,go_sem,seval]
theorem ZgR {append_0:Zj}{String_1:Zk}{a_2:(List Zg)}{r:((List Zg)×Bool)}(h:Zby append_0 String_1 a_2=some r):Zm prog J0 94 [(true,YD append_0),(true,Zw String_1),(false,[.sl 218 2 (A0 ZO a_2)])] [(false,[(false,.sl 218 2 (A0 ZO r.1))]),(false,[(false,.bool r.2)])]:=by
 refine fnk func94 rfl ?_
 unfold Zby at h
 simp only[fnS,f94,Zq,go_sem,seval]
 refine ZE9 h fun _ g h=>Zb (Zan g)<|yA ?_
 refine yB h (fun _ h=>?_) fun _ h=>?_
 refine ZE9 h fun _ k h=>Zb (Xl k)<|yA ?_
 refine yB h (fun _ h=>?_) fun _ h=>?_
 refine ZE9 h fun _ l h=>Zb (ZbO l)<|yA ?_
 iterate 3 refine yB h (fun _ h=>?_) fun _ h=>?_
 cases h;exact yD
 refine ZE9 h fun _ m h=>Zb (Zgs m)<|yA ?_
 refine Zi h (fun i a st=>IV [(3,.bp 0 0),(4,.bp 1 0),(8,.p false [.row 2]),(9,yL i)] [.box 101 [.c (.str append_0.rel),.c (yU append_0.args)],zH 83 (Zw String_1),.row 218 2 (A0 ZO a) 2] st) [] [0,16,544] yF yD ?_ ?_
 rintro _ _ a ⟨_,_,_⟩ _ b d o h e
 simp only[go_sem,seval,Zd]at d
 obtain ⟨⟨_,_,_,_⟩,q,_,_,hn⟩:=d
 subst hn
 have t:=WF.boxL o q (j:=1) rfl
 have:=ZR b
 have:=ZT b
 have:=Zp (ZS b) t
 simp only[*,go_sem,seval]
 refine ZE9 h fun _ u h=>Zb (Qk u)<|yA ?_
 refine yB h (fun _ h=>?_) fun _ h=>?_
 obtain ⟨_,_,_,v,h⟩:=Qj h
 simp only[AJ]at v
 simp only[*,go_sem,seval]
 refine yB h (fun _ h=>?_) fun _ h=>?_
 exact yR h [0,1,2]
 replace h:=Zt h e
 cases h;exact yD
 obtain ⟨_,_,_,w,h⟩:=Qj h
 simp only[AJ]at w
 simp only[*,go_sem,seval]
 refine ZE9 h fun _ x h=>Zb (Zqm x)<|yA ?_
 refine yB h (fun _ h=>?_) fun _ h=>?_
 exact yR h [0,1,355]
 replace h:=Zt h e
 cases h;exact yD
 rintro a ⟨_,_,_⟩ f _ h
 simp only[go_sem,seval,Zd]at f
 obtain ⟨⟨_,_,_,_⟩,_,_,_,hn⟩:=f
 subst hn
 have:=ZN (append_0.args.length)
 iterate 5 (cases h;exact yD)
theorem ZhU {r_0:Zl}{k_1:Int}{r:Bool}(h:Zcc r_0 k_1=some r):Zm prog J0 164 [(true,Zy r_0),(false,[.int .i64 k_1])] [(false,[(false,.bool r)])]:=by
 refine fnk func164 rfl ?_
 unfold Zcc at h
 simp only[fnS,f164,Zq,go_sem,seval]
 obtain ⟨a,_,_,_,h⟩:=Qj h
 simp only[*,go_sem,seval]
 refine ZE9 h fun j k h=>Zb (ZgF k)<|yA ?_
 refine ZE9 h fun b l h=>Zb (ZeX l)<|yA ?_
 refine Zi h (fun i _ st=>IV [(1,yM (.int .i64 k_1)),(2,.bp 0 0),(5,.bp 1 0),(6,.p false [.row 2]),(18,.p false [.row 3]),(19,yL b.length),(20,yL i)] [zH 64 (Zy r_0),zH 107 (ZE a),.row 9 1 (A0 ZH j) 2,.row 9 1 (A0 ZH b) 2] st) [] [0,112,176,224] yF yD ?_ ?_
 rintro _ _ ⟨⟩ ⟨_,_,_⟩ _ d e m h f
 simp only[go_sem,seval,Zd]at e
 obtain ⟨⟨_,_,_,_,_,_,_⟩,_,_,_,o,hn⟩:=e
 subst hn
 have q:=WF.rowL m o
 have:=ZR d
 have:=ZT d
 have:=Zp (ZS d) q
 simp only[*,go_sem,seval]
 refine yB h (fun _ h=>?_) fun _ h=>?_
 exact yR h [0,1,2,3]
 refine ZE9 h fun _ t h=>Zb (Zds t)<|yA ?_
 refine yB h (fun _ h=>?_) fun _ h=>?_
 exact yR h [0,1,2,3]
 refine yB h (fun _ h=>?_) fun _ h=>?_
 replace h:=Zt h f
 cases h;exact yD
 refine ZE9 h fun _ u h=>Zb (ZgE u)<|yA ?_
 refine yB h (fun _ h=>?_) fun _ h=>?_
 replace h:=Zt h f
 cases h;exact yD
 exact yR h [0,1,2,3]
 rintro ⟨⟩ ⟨_,_,_⟩ g _ h
 simp only[go_sem,seval,Zd]at g
 obtain ⟨⟨_,_,_,_,_,_,_⟩,_,_,_,_,hn⟩:=g
 subst hn
 have:=ZN (b.length)
 cases h;exact yD
theorem Znp {l_0:(List Z2)}{r:Bool}(h:ZdK l_0=some r):Zm prog J0 59 [(false,[.sl 85 3 (A0 YF l_0)])] [(false,[(false,.bool r)])]:=by
 refine fnk func59 rfl ?_
 unfold ZdK at h
 simp only[fnS,f59,Zq,go_sem,seval]
 refine Zi h (fun i a st=>IV [(0,yM (zD l_0)),(3,.p false [.row 0]),(7,yM (zD l_0)),(8,yL l_0.length),(9,yL i)] [.map (.int .i64) .bool (A0 eIB a)] st) [] [16] yF yD ?_ ?_
 rintro _ _ a ⟨_,_,_⟩ _ b e g h d
 simp only[go_sem,seval,Zd]at e
 obtain ⟨⟨k,_,_,_,_⟩,_,hn⟩:=e
 subst hn
 have l:=WF.slotL g k (j:=0) rfl
 have:=ZR b
 have:=ZT b
 have:=Zp (ZS b) l
 simp only[*,go_sem,seval]
 refine yB h (fun _ h=>?_) fun _ h=>?_
 replace h:=Zt h d
 cases h;exact yD
 refine yB h (fun _ h=>?_) fun _ h=>?_
 replace h:=Zt h d
 cases h;exact yD
 refine yB h (fun _ h=>?_) fun _ h=>?_
 replace h:=Zt h d
 cases h;exact yD
 exact yR h [0]
 rintro a ⟨_,_,_⟩ f _ h
 simp only[go_sem,seval,Zd]at f
 obtain ⟨⟨_,_,_,_,_⟩,_,hn⟩:=f
 subst hn
 have:=ZN (l_0.length)
 simp only[*,go_sem,seval]
 refine ZE9 h fun _ m h=>Zb (ZjF m)<|yA ?_
 refine ZE9 h fun _ o h=>Zb (ZhS o) ?_
 cases h;exact yD
end
section
theorem ZiN {a:Ze}{b:Ze}{r:Bool}(h:Zay a b=some r):Zm prog J0 64 [(true,ZbV a),(true,ZbV b)] [(false,[(false,.bool r)])]:=by
 refine ZEL [(12,[0,1,2,3,4,5,6,7,8,9,10,11,12,13],true)] func64 rfl ?_
 unfold Zay at h
 simp only[fnS,f64,Zq,go_sem,Zu,seval]
 refine ZE9 h fun v1 e1 h=>Zb (by have hh:=Zg5 e1;first|exact hh|(simp only[go_sem,Zu, *]at hh;exact hh)) ?_
 simp only[go_sem,Zu,seval, *]
 refine Zc h (fun c2 h=>?_) (fun c2 h=>?_)<;>try simp only[go_sem,Zu,seval, *]
 .refine ZE9 h fun v2 e3 h=>Zb (by have hh:=Zh2 e3;first|exact hh|(simp only[go_sem,Zu, *]at hh;exact hh)) ?_
  simp only[go_sem,Zu,seval, *]
  refine Zc h (fun c4 h=>?_) (fun c4 h=>?_)<;>try simp only[go_sem,Zu,seval, *]
  .refine ZE9 h fun v3 e5 h=>Zb (by have hh:=ZbJ e5;first|exact hh|(simp only[go_sem,Zu, *]at hh;exact hh)) ?_
   simp only[go_sem,Zu,seval, *]
   refine Zc h (fun c6 h=>?_) (fun c6 h=>?_)<;>try simp only[go_sem,Zu,seval, *]
   .refine Zc h (fun c7 h=>?_) (fun c7 h=>?_)<;>try simp only[go_sem,Zu,seval, *]
    .obtain rfl:=AA h
     simp only[go_sem,Zu,seval, *]
    .refine Zc h (fun c8 h=>?_) (fun c8 h=>?_)<;>try simp only[go_sem,Zu,seval, *]
     .obtain rfl:=AA h
      simp only[go_sem,Zu,seval, *]
     .refine Zi h (fun i _ st=>IV [(2,.bp 0 0),(3,.bp 1 0),(51,.p false [.c (.int .i64 ((a.alphas.length:Nat):Int))]),(52,.p false [.c (.int .i64 ((i:Nat):Int))])] [.box 48 [.c (.sl 64 4 (A0 Zy a.rules)),.c (.sl 3 1 (A0 Z8 a.ends)),.c (.sl 103 3 (A0 Z0 a.alphas)),.c (.sl 110 8 (A0 Ym a.nodes)),.c (.sl 83 2 (A0 Zw a.facts)),.c (.int .i64 a.tries)],.box 48 [.c (.sl 64 4 (A0 Zy b.rules)),.c (.sl 3 1 (A0 Z8 b.ends)),.c (.sl 103 3 (A0 Z0 b.alphas)),.c (.sl 110 8 (A0 Ym b.nodes)),.c (.sl 83 2 (A0 Zw b.facts)),.c (.int .i64 b.tries)]] st) [] [0,16] yF ?_ ?_ ?_
      .simp only[go_sem,Zu,seval, *]
      .rintro i27 x28 ⟨⟩ ⟨sl,ob,n⟩ y9 e o v h w
       simp only[go_sem,Zu,seval,Zd]at o
       obtain ⟨⟨g13_2,g13_3,g13_51,g13_52⟩,g,og13_1,hn⟩:=o
       subst hn
       have k:=WF.boxL v g (j:=2) rfl
       have q14:=ZR e
       have q15:=ZT e
       have q16:=Zp (ZS e) k
       obtain ⟨x29,a17,a18,y,h⟩:=Qj h
       simp only[AJ]at y
       simp only[go_sem,Zu,seval, *]
       refine ZE9 h fun v30 z h=>Zb (by have hh:=ZaE z;first|exact hh|(simp only[go_sem,Zu, *]at hh;exact hh)) ?_
       simp only[go_sem,Zu,seval, *]
       refine Zc h (fun A h=>?_) (fun A h=>?_)<;>try simp only[go_sem,Zu,seval, *]
       .refine ZE9 h fun v31 B h=>Zb (by have hh:=ZbJ B;first|exact hh|(simp only[go_sem,Zu, *]at hh;exact hh)) ?_
        simp only[go_sem,Zu,seval, *]
        refine Zc h (fun C h=>?_) (fun C h=>?_)<;>try simp only[go_sem,Zu,seval, *]
        .refine ⟨_,[],[0,1],(AA h).symm,yF,?_⟩
         simp only[go_sem,Zu,seval, *]
        .replace h:=Zt h w
         obtain rfl:=AA h
         simp only[go_sem,Zu,seval, *]
       .replace h:=Zt h w
        obtain rfl:=AA h
        simp only[go_sem,Zu,seval, *]
      .rintro ⟨⟩ ⟨sl,ob,n⟩ q hW25 h
       simp only[go_sem,Zu,seval,Zd]at q
       obtain ⟨⟨g26_2,g26_3,g26_51,g26_52⟩,og26_0,og26_1,hn⟩:=q
       subst hn
       have q27:=ZN (a.alphas.length)
       simp only[go_sem,Zu,seval, *]
       refine Zi h (fun i _ st=>IV [(2,.bp 0 0),(3,.bp 1 0),(88,.p false [.c (.int .i64 ((a.nodes.length:Nat):Int))]),(89,.p false [.c (.int .i64 ((i:Nat):Int))])] [.box 48 [.c (.sl 64 4 (A0 Zy a.rules)),.c (.sl 3 1 (A0 Z8 a.ends)),.c (.sl 103 3 (A0 Z0 a.alphas)),.c (.sl 110 8 (A0 Ym a.nodes)),.c (.sl 83 2 (A0 Zw a.facts)),.c (.int .i64 a.tries)],.box 48 [.c (.sl 64 4 (A0 Zy b.rules)),.c (.sl 3 1 (A0 Z8 b.ends)),.c (.sl 103 3 (A0 Z0 b.alphas)),.c (.sl 110 8 (A0 Ym b.nodes)),.c (.sl 83 2 (A0 Zw b.facts)),.c (.int .i64 b.tries)]] st) [] [0,1] yF ?_ ?_ ?_
       .simp only[go_sem,Zu,seval, *]
       .rintro i41 x42 ⟨⟩ ⟨sl,ob,n⟩ y28 f t x h d
        simp only[go_sem,Zu,seval,Zd]at t
        obtain ⟨⟨g32_2,g32_3,g32_88,g32_89⟩,l,og32_1,hn⟩:=t
        subst hn
        have m:=WF.boxL x l (j:=3) rfl
        have q33:=ZR f
        have q34:=ZT f
        have q35:=Zp (ZS f) m
        obtain ⟨x43,a36,a37,D,h⟩:=Qj h
        simp only[AJ]at D
        simp only[go_sem,Zu,seval, *]
        refine Zc h (fun E h=>?_) (fun E h=>?_)<;>try simp only[go_sem,Zu,seval, *]
        .replace h:=Zt h d
         obtain rfl:=AA h
         simp only[go_sem,Zu,seval, *]
        .refine Zc h (fun F h=>?_) (fun F h=>?_)<;>try simp only[go_sem,Zu,seval, *]
         .replace h:=Zt h d
          obtain rfl:=AA h
          simp only[go_sem,Zu,seval, *]
         .refine ZE9 h fun v44 G h=>Zb (by have hh:=ZeV G;first|exact hh|(simp only[go_sem,Zu, *]at hh;exact hh)) ?_
          simp only[go_sem,Zu,seval, *]
          refine Zc h (fun H h=>?_) (fun H h=>?_)<;>try simp only[go_sem,Zu,seval, *]
          .refine ZE9 h fun v45 I h=>Zb (by have hh:=Zk9 I;first|exact hh|(simp only[go_sem,Zu, *]at hh;exact hh)) ?_
           simp only[go_sem,Zu,seval, *]
           refine Zc h (fun J h=>?_) (fun J h=>?_)<;>try simp only[go_sem,Zu,seval, *]
           .refine ⟨_,[],[0,1],(AA h).symm,yF,?_⟩
            simp only[go_sem,Zu,seval, *]
           .replace h:=Zt h d
            obtain rfl:=AA h
            simp only[go_sem,Zu,seval, *]
          .replace h:=Zt h d
           obtain rfl:=AA h
           simp only[go_sem,Zu,seval, *]
       .rintro ⟨⟩ ⟨sl,ob,n⟩ u hW46 h
        simp only[go_sem,Zu,seval,Zd]at u
        obtain ⟨⟨g47_2,g47_3,g47_88,g47_89⟩,og47_0,og47_1,hn⟩:=u
        subst hn
        have q48:=ZN (a.nodes.length)
        obtain rfl:=AA h
        simp only[go_sem,Zu,seval, *]
   .obtain rfl:=AA h
    simp only[go_sem,Zu,seval, *]
  .obtain rfl:=AA h
   simp only[go_sem,Zu,seval, *]
 .obtain rfl:=AA h
  simp only[go_sem,Zu,seval, *]
theorem Zmf {l_0:(List Zl)}{r:(List Zl)}(h:ZcP l_0=some r):Zm prog J0 176 [(false,[.sl 64 4 (A0 Zy l_0)])] [(false,[(false,.sl 64 4 (A0 Zy r))])]:=by
 refine fnk func176 rfl ?_
 unfold ZcP at h
 simp only[fnS,f176,Zq,go_sem,seval]
 refine Zi h (fun i a st=>IV [(3,.p false [.row 0]),(6,yM (yW l_0)),(7,yL l_0.length),(8,yL i)] [.row 64 4 (A0 Zy a) 2] st) [(false,3,0)] [80] yF yD ?_ ?_
 rintro _ _ a ⟨_,_,_⟩ _ b d f h _
 simp only[go_sem,seval,Zd]at d
 obtain ⟨⟨_,g,_,_⟩,_,hn⟩:=d
 subst hn
 have k:=WF.slotL f g (j:=0) rfl
 have:=ZR b
 have:=ZT b
 have:=Zp (ZS b) k
 simp only[*,go_sem,seval]
 refine ZE9 h fun _ l h=>Zb (ZnD l) ?_
 obtain ⟨m,h⟩:=ZM h
 try simp only[Nat.reduceLeDiff]at m
 simp only[*,go_sem,seval]
 exact yR h [145]
 rintro a ⟨_,_,_⟩ e _ h
 simp only[go_sem,seval,Zd]at e
 obtain ⟨⟨_,_,_,_⟩,_,hn⟩:=e
 subst hn
 have:=ZN (l_0.length)
 cases h;exact yD
theorem Zbh {p_0:Zj}{b_1:(List Zg)}{facts_2:(List Zk)}{r:(List Zk)}(h:Y7 p_0 b_1 facts_2=some r):Zm prog J0 180 [(true,YD p_0),(false,[.sl 218 2 (A0 ZO b_1)]),(false,[.sl 83 2 (A0 Zw facts_2)])] [(false,[(false,.sl 83 2 (A0 Zw r))])]:=by
 refine fnk func180 rfl ?_
 unfold Y7 at h
 simp only[fnS,f180,Zq,go_sem,seval]
 refine Zi h (fun i a st=>IV [(1,yM (yX b_1)),(3,.bp 0 0),(7,.p false [.row 1]),(12,yM (yV facts_2)),(13,yL facts_2.length),(14,yL i)] [.box 101 [.c (.str p_0.rel),.c (yU p_0.args)],.row 83 2 (A0 Zw a) 2] st) [(false,7,0)] [0,96] yF yD ?_ ?_
 rintro _ _ a ⟨_,_,_⟩ _ b d f h _
 simp only[go_sem,seval,Zd]at d
 obtain ⟨⟨_,_,_,g,_,_⟩,_,_,hn⟩:=d
 subst hn
 have k:=WF.slotL f g (j:=0) rfl
 have:=ZR b
 have:=ZT b
 have:=Zp (ZS b) k
 simp only[*,go_sem,seval]
 refine ZE9 h fun _ l h=>Zb (Zd2 l)<|yA ?_
 refine yB h (fun _ h=>?_) fun _ h=>?_
 refine ZE9 h fun _ m h=>Zb (ZcF m) ?_
 obtain ⟨o,h⟩:=ZM h
 try simp only[Nat.reduceLeDiff]at o
 simp only[*,go_sem,seval]
 exact yR h [0,306]
 exact yR h [0,1]
 rintro a ⟨_,_,_⟩ e _ h
 simp only[go_sem,seval,Zd]at e
 obtain ⟨⟨_,_,_,_,_,_⟩,_,_,hn⟩:=e
 subst hn
 have:=ZN (facts_2.length)
 cases h;exact yD
theorem ZrA {x_0:Zf}{r:Bool}(h:ZiL x_0=some r):Zm prog J0 248 [(true,ZE x_0)] [(false,[(false,.bool r)])]:=by
 refine fnk func248 rfl ?_
 unfold ZiL at h
 simp only[fnS,f248,Zq,go_sem,seval]
 refine ZE9 h fun _ a h=>Zb (ZgM a)<|yA ?_
 refine yB h (fun _ h=>?_) fun _ h=>?_
 iterate 2 (cases h;exact yD)
end
section
theorem ZgA {x_0:Zf}{r:Bool}(h:Zb3 x_0=some r):Zm prog J0 137 [(true,ZE x_0)] [(false,[(false,.bool r)])]:=by
 refine fnk func137 rfl ?_
 unfold Zb3 at h
 simp only[fnS,f137,Zq,go_sem,seval]
 refine ZE9 h fun _ a h=>Zb (Zgu a)<|yA ?_
 refine yB h (fun _ h=>?_) fun _ h=>?_
 iterate 2 (cases h;exact yD)
theorem Zbf {p_0:Zj}{b_1:(List Zg)}{facts_2:(List Zk)}{r:(List Zk)}(h:Y4 p_0 b_1 facts_2=some r):Zm prog J0 42 [(true,YD p_0),(false,[.sl 218 2 (A0 ZO b_1)]),(false,[.sl 83 2 (A0 Zw facts_2)])] [(false,[(false,.sl 83 2 (A0 Zw r))])]:=by
 refine fnk func42 rfl ?_
 unfold Y4 at h
 simp only[fnS,f42,Zq,go_sem,seval]
 refine Zi h (fun i a st=>IV [(1,yM (yX b_1)),(2,yM (yV facts_2)),(3,.bp 0 0),(7,.p false [.row 1]),(8,yL i)] [.box 101 [.c (.str p_0.rel),.c (yU p_0.args)],.row 83 2 (A0 Zw a) 2] st) [] [0,32] yF yD ?_ ?_
 rintro _ _ a ⟨_,_,_⟩ _ b d f h _
 simp only[go_sem,seval,Zd]at d
 obtain ⟨⟨_,g,_,_,_⟩,_,_,hn⟩:=d
 subst hn
 have k:=WF.slotL f g (j:=0) rfl
 have:=ZR b
 have:=ZT b
 have:=Zp (ZS b) k
 simp only[*,go_sem,seval]
 refine ZE9 h fun _ l h=>Zb (ZgR l)<|yA ?_
 refine yB h (fun _ h=>?_) fun _ h=>?_
 refine ZE9 h fun _ m h=>Zb (ZeL m) ?_
 obtain ⟨o,h⟩:=ZM h
 try simp only[Nat.reduceLeDiff]at o
 simp only[*,go_sem,seval]
 exact yR h [0,386]
 exact yR h [0,1]
 rintro a ⟨_,_,_⟩ e _ h
 simp only[go_sem,seval,Zd]at e
 obtain ⟨⟨_,_,_,_,_⟩,_,_,hn⟩:=e
 subst hn
 have:=ZN (facts_2.length)
 cases h;exact yD
theorem Zqa {append_0:Zl}{r:Bool}(h:ZgB append_0=some r):Zm prog J0 107 [(true,Zy append_0)] [(false,[(false,.bool r)])]:=by
 refine fnk func107 rfl ?_
 unfold ZgB at h
 simp only[fnS,f107,Zq,go_sem,seval]
 refine ZE9 h fun _ v h=>Zb (YX v)<|yA ?_
 iterate 2 refine yB h (fun _ h=>?_) fun _ h=>?_
 iterate 5 (cases h;simp only[*,go_sem,seval];refine Zc h (fun _ h=>?_) fun _ h=>?_<;>try simp only[*,go_sem,seval])
 cases h;exact yD
 refine Zi h (fun i _ st=>IV [(1,.bp 0 0),(49,yM (yY append_0.cond)),(50,yL append_0.cond.length),(51,yL i)] [zH 64 (Zy append_0)] st) [] [0] yF yD ?_ ?_
 rintro _ _ ⟨⟩ ⟨_,_,_⟩ _ a g w h b
 simp only[go_sem,seval,Zd]at g
 obtain ⟨⟨_,x,_,_⟩,_,hn⟩:=g
 subst hn
 have y:=WF.slotL w x (j:=0) rfl
 have:=ZR a
 have:=ZT a
 have:=Zp (ZS a) y
 simp only[*,go_sem,seval]
 refine ZE9 h fun _ z h=>Zb (ZgM z)<|yA ?_
 iterate 3 refine yB h (fun _ h=>?_) fun _ h=>?_
 replace h:=Zt h b
 cases h;exact yD
 refine ZE9 h fun _ A h=>Zb (ZhU A)<|yA ?_
 refine yB h (fun _ h=>?_) fun _ h=>?_
 exact yR h [0]
 replace h:=Zt h b
 cases h;exact yD
 refine ZE9 h fun _ B h=>Zb (ZhU B)<|yA ?_
 refine yB h (fun _ h=>?_) fun _ h=>?_
 refine ⟨_,[],[0],(AA h).symm,yF,?_⟩
 iterate 2 (simp only[*,go_sem,seval];replace h:=Zt h b;cases h)
 simp only[*,go_sem,seval]
 rintro ⟨⟩ ⟨_,_,_⟩ k _ h
 simp only[go_sem,seval,Zd]at k
 obtain ⟨⟨_,_,_,_⟩,_,hn⟩:=k
 subst hn
 have:=ZN (append_0.cond.length)
 simp only[*,go_sem,seval]
 refine ZE9 h fun l C h=>Zb (ZgF C)<|yA ?_
 refine Zi h (fun i _ st=>IV [(1,.bp 0 0),(5,.p false [.row 1]),(81,yM (zA append_0.thn)),(82,yL append_0.thn.length),(83,yL i)] [zH 64 (Zy append_0),.row 9 1 (A0 ZH l) 2] st) [] [0,81] yF yD ?_ ?_
 rintro D _ ⟨⟩ ⟨_,_,_⟩ _ d m E h o
 simp only[go_sem,seval,Zd]at m
 obtain ⟨⟨_,_,F,_,_⟩,_,_,hn⟩:=m
 subst hn
 have G:=WF.slotL E F (j:=0) rfl
 have:=ZR d
 have:=ZT d
 have:=Zp (ZS d) G
 simp only[*,go_sem,seval]
 refine ZE9 h fun _ H h=>Zb (Znn H)<|yA ?_
 refine yB h (fun _ h=>?_) fun _ h=>?_
 refine ZE9 h fun e I h=>Zb (Zd9 I)<|yA ?_
 refine Zi h (fun i _ st=>IV [(1,.bp 0 0),(5,.p false [.row 1]),(81,yM (zA append_0.thn)),(82,yL append_0.thn.length),(83,yL D),(93,.p false [.row 2]),(94,yL e.length),(95,yL i)] [zH 64 (Zy append_0),.row 9 1 (A0 ZH l) 2,.row 9 1 (A0 ZH e) 2] st) [] [0,1,178] yF yD ?_ ?_
 rintro _ _ ⟨⟩ ⟨_,_,_⟩ _ f q J h K
 simp only[go_sem,seval,Zd]at q
 obtain ⟨⟨_,_,_,_,_,_,_,_⟩,_,_,L,hn⟩:=q
 subst hn
 have M:=WF.rowL J L
 have:=ZR f
 have:=ZT f
 have:=Zp (ZS f) M
 simp only[*,go_sem,seval]
 refine ZE9 h fun _ N h=>Zb (Zds N)<|yA ?_
 refine yB h (fun _ h=>?_) fun _ h=>?_
 exact yR h [0,1,2]
 replace h:=Zt h K
 replace h:=Zt h o
 cases h;exact yD
 rintro ⟨⟩ ⟨_,_,_⟩ t _ h
 simp only[go_sem,seval,Zd]at t
 obtain ⟨⟨_,_,_,_,_,_,_,_⟩,_,_,_,hn⟩:=t
 subst hn
 have:=ZN (e.length)
 simp only[*,go_sem,seval]
 exact yR h [0,1]
 replace h:=Zt h o
 cases h;exact yD
 rintro ⟨⟩ ⟨_,_,_⟩ u _ h
 simp only[go_sem,seval,Zd]at u
 obtain ⟨⟨_,_,_,_,_⟩,_,_,hn⟩:=u
 subst hn
 have:=ZN (append_0.thn.length)
 simp only[*,go_sem,seval]
 refine ZE9 h fun _ O h=>Zb (Zk7 O)<|yA ?_
 refine ZE9 h fun _ P h=>Zb (Zci P) ?_
 iterate 2 (cases h;exact yD)
theorem ZlP {b:(List Zl)}{r:Ze}(h:Zdg b=some r):Zm prog J0 116 [(false,[.sl 64 4 (A0 Zy b)])] [(true,[(false,.sl 64 4 (A0 Zy r.rules)),(false,.sl 3 1 (A0 Z8 r.ends)),(false,.sl 103 3 (A0 Z0 r.alphas)),(false,.sl 110 8 (A0 Ym r.nodes)),(false,.sl 83 2 (A0 Zw r.facts)),(false,.int .i64 r.tries)])]:=by
 refine fnk func116 rfl ?_
 unfold Zdg at h
 simp only[fnS,f116,Zq,go_sem,seval]
 refine ZE9 h fun _ E h=>Zb (Zmf E)<|yA ?_
 refine Zi h (fun i s st=>match s with|(d,e,f,g,k,l)=>IV [(2,.bp 0 0),(3,.bp 1 0),(14,yM (yW b)),(15,yL b.length),(16,yL i)] [.box 48 [.nil 64 4,.nil 3 1,.nil 103 3,.nil 110 8,.nil 83 2,.c (.int .i64 0)],.box 48 [.row 2,.row 3,.row 4,.row 5,.row 6,.c (.int .i64 d)],.row 64 4 (A0 Zy e) 2,.row 3 1 (A0 Z8 f) 2,.row 103 3 (A0 Z0 g) 2,.row 110 8 (A0 Ym k) 2,.row 83 2 (A0 Zw l) 2] st) [(true,96,1),(true,96,2),(true,96,4)] [0,96,32,176,177,64,178] yF yD ?_ ?_
 rintro F _ ⟨d,e,f,g,k,l⟩ ⟨_,_,_⟩ _ m A G h _
 simp only[go_sem,seval,Zd]at A
 obtain ⟨⟨_,_,H,_,_⟩,_,_,_,_,_,_,_,hn⟩:=A
 subst hn
 have I:=WF.slotL G H (j:=0) rfl
 have:=ZR m
 have:=ZT m
 have:=Zp (ZS m) I
 simp only[*,go_sem,seval]
 refine ZE9 h fun o J h=>Zb (Zk1 J)<|yA ?_
 refine Zi h (fun i s st=>match s with|(q,t,u,v,w,x,y)=>IV [(2,.bp 0 0),(3,.bp 1 0),(6,yM (.int .i64 y)),(14,yM (yW b)),(15,yL b.length),(16,yL F),(21,.p false [.row 7]),(22,yL o.length),(23,yL i)] [.box 48 [.nil 64 4,.nil 3 1,.nil 103 3,.nil 110 8,.nil 83 2,.c (.int .i64 0)],.box 48 [.row 2,.row 3,.row 4,.row 5,.row 6,.c (.int .i64 q)],.row 64 4 (A0 Zy t) 2,.row 3 1 (A0 Z8 u) 2,.row 103 3 (A0 Z0 v) 2,.row 110 8 (A0 Ym w) 2,.row 83 2 (A0 Zw x) 2,.row 107 5 (A0 ZE o) 2] st) [] [0,1,2,3,4,5,6,119] yF yD ?_ ?_
 rintro _ _ ⟨q,t,u,v,w,x,y⟩ ⟨_,_,_⟩ _ z B K h _
 simp only[go_sem,seval,Zd]at B
 obtain ⟨⟨_,_,_,_,_,_,_,_,_⟩,_,_,_,_,_,_,_,L,hn⟩:=B
 subst hn
 have M:=WF.rowL K L
 have:=ZR z
 have:=ZT z
 have:=Zp (ZS z) M
 simp only[*,go_sem,seval]
 obtain ⟨_,N,h⟩:=Za h
 refine Zim (ZiC N)<|yA ?_
 exact yR h [0,1,120,121,122,123,124,7]
 rintro ⟨q,t,u,v,w,x,y⟩ ⟨_,_,_⟩ C _ h
 simp only[go_sem,seval,Zd]at C
 obtain ⟨⟨_,_,_,_,_,_,_,_,_⟩,_,_,_,_,_,_,_,_,hn⟩:=C
 subst hn
 have:=ZN (o.length)
 obtain ⟨O,h⟩:=ZM h
 try simp only[Nat.reduceLeDiff]at O
 simp only[*,go_sem,seval]
 exact yR h [0,1,2,88,4,5,6]
 rintro ⟨d,e,f,g,k,l⟩ ⟨_,_,_⟩ D _ h
 simp only[go_sem,seval,Zd]at D
 obtain ⟨⟨_,_,_,_,_⟩,_,_,_,_,_,_,_,hn⟩:=D
 subst hn
 have:=ZN (b.length)
 cases h;exact yD
theorem ZlH {append_0:Zf}{String_1:(List Zg)}{r:Bool}(h:ZcT append_0 String_1=some r):Zm prog J0 238 [(true,ZE append_0),(false,[.sl 218 2 (A0 ZO String_1)])] [(false,[(false,.bool r)])]:=by
 refine fnk func238 rfl ?_
 unfold ZcT at h
 simp only[fnS,f238,Zq,go_sem,seval]
 refine ZE9 h fun _ a h=>Zb (ZrA a)<|yA ?_
 refine yB h (fun _ h=>?_) fun _ h=>?_
 refine ZE9 h fun _ b h=>Zb (Zb1 b)<|yA ?_
 refine yB h (fun _ h=>?_) fun _ h=>?_
 refine ZE9 h fun _ c h=>Zb (ZfK c)<|yA ?_
 refine ZE9 h fun _ d h=>Zb (ZfK d)<|yA ?_
 iterate 3 refine yB h (fun _ h=>?_) fun _ h=>?_
 cases h;exact yD
 refine yB h (fun _ h=>?_) fun _ h=>?_
 cases h;exact yD
 refine ZE9 h fun _ e h=>Zb (ZcE e)<|yA ?_
 refine ZE9 h fun _ f h=>Zb (ZcE f)<|yA ?_
 iterate 2 refine yB h (fun _ h=>?_) fun _ h=>?_
 iterate 7 (cases h;exact yD)
end
section
theorem Zqy {append_0:Zl}{r:Bool}(h:ZgQ append_0=some r):Zm prog J0 84 [(true,Zy append_0)] [(false,[(false,.bool r)])]:=by
 refine fnk func84 rfl ?_
 unfold ZgQ at h
 simp only[fnS,f84,Zq,go_sem,seval]
 refine ZE9 h fun _ H h=>Zb (YV H)<|yA ?_
 refine yB h (fun _ h=>?_) fun _ h=>?_
 refine ZE9 h fun _ I h=>Zb (XK I)<|yA ?_
 refine yB h (fun _ h=>?_) fun _ h=>?_
 refine ZE9 h fun _ J h=>Zb (XK J)<|yA ?_
 refine yB h (fun _ h=>?_) fun _ h=>?_
 refine ZE9 h fun _ K h=>Zb (XK K)<|yA ?_
 refine yB h (fun _ h=>?_) fun _ h=>?_
 refine ZE9 h fun e L h=>Zb (Zeh L)<|yA ?_
 refine Zi h (fun i _ st=>IV [(1,.bp 0 0),(3,.p false [.row 1]),(4,yL i)] [zH 64 (Zy append_0),.row 9 1 (A0 ZH e) 2] st) [] [0,480] yF yD ?_ ?_
 rintro b a ⟨⟩ ⟨_,_,_⟩ _ f o M h d
 simp only[go_sem,seval,Zd]at o
 obtain ⟨⟨_,_,_⟩,N,_,hn⟩:=o
 subst hn
 have O:=WF.boxL M N (j:=2) rfl
 have:=ZR f
 have:=ZT f
 have:=Zp (ZS f) O
 simp only[*,go_sem,seval]
 refine ZE9 h fun _ P h=>Zb (Zgu P)<|yA ?_
 iterate 3 refine yB h (fun _ h=>?_) fun _ h=>?_
 replace h:=Zt h d
 cases h;exact yD
 refine ZE9 h fun Q R h=>Zb (Zeh R)<|yA ?_
 refine ZE9 h fun q S h=>Zb (ZcH S)<|yA ?_
 refine Zi h (fun i _ st=>IV [(1,.bp 0 0),(3,.p false [.row 1]),(4,yL b),(5,.bp 2 0),(6,.p false [.row 3]),(7,.p false [.row 4]),(8,yL i),(58,yL b),(59,yM (.bool (((b:Nat):Int)==0))),(60,yM (.bool (((b:Nat):Int)==0))),(61,.bp 2 0),(62,yM (.int .i64 a.kind)),(63,yM (.bool (a.kind != 1))),(64,yM (.bool (a.kind != 1)))] [zH 64 (Zy append_0),.row 9 1 (A0 ZH e) 2,zH 107 (ZE a),.row 9 1 (A0 ZH Q) 2,.row 9 1 (A0 ZH q) 2] st) [] [0,1,162,418,466] yF yD ?_ ?_
 rintro _ _ ⟨⟩ ⟨_,_,_⟩ _ g t T h u
 simp only[go_sem,seval,Zd]at t
 obtain ⟨⟨_,_,_,_,_,_,_,_,_,_,_,_,_,_⟩,_,_,_,_,U,hn⟩:=t
 subst hn
 have V:=WF.rowL T U
 have:=ZR g
 have:=ZT g
 have:=Zp (ZS g) V
 simp only[*,go_sem,seval]
 refine ZE9 h fun _ W h=>Zb (Q0 W)<|yA ?_
 refine ZE9 h fun _ X h=>Zb (ZgA X)<|yA ?_
 iterate 3 refine yB h (fun _ h=>?_) fun _ h=>?_
 exact yR h [0,1,2,3,4]
 exact yR h [0,1,2,3,4]
 replace h:=Zt h u
 replace h:=Zt h d
 cases h;exact yD
 iterate 2 refine yB h (fun _ h=>?_) fun _ h=>?_
 exact yR h [0,1,2,3,4]
 refine ZE9 h fun _ Y h=>Zb (Zfc Y)<|yA ?_
 refine yB h (fun _ h=>?_) fun _ h=>?_
 replace h:=Zt h u
 replace h:=Zt h d
 cases h;exact yD
 exact yR h [0,1,2,3,4]
 exact yR h [0,1,2,3,4]
 rintro ⟨⟩ ⟨_,_,_⟩ v _ h
 simp only[go_sem,seval,Zd]at v
 obtain ⟨⟨_,_,_,_,_,_,_,_,_,_,_,_,_,_⟩,_,_,_,_,_,hn⟩:=v
 subst hn
 have:=ZN (q.length)
 simp only[*,go_sem,seval]
 exact yR h [0,1]
 refine ZE9 h fun Z aa h=>Zb (Zeh aa)<|yA ?_
 refine ZE9 h fun w ab h=>Zb (ZcH ab)<|yA ?_
 refine Zi h (fun i _ st=>IV [(1,.bp 0 0),(3,.p false [.row 1]),(4,yL b),(5,.bp 2 0),(6,.p false [.row 3]),(7,.p false [.row 4]),(8,yL i),(58,yL b),(59,yM (.bool (((b:Nat):Int)==0))),(60,yM (.bool (((b:Nat):Int)==0))),(64,yM (.bool false))] [zH 64 (Zy append_0),.row 9 1 (A0 ZH e) 2,zH 107 (ZE a),.row 9 1 (A0 ZH Z) 2,.row 9 1 (A0 ZH w) 2] st) [] [0,1,162,418,466] yF yD ?_ ?_
 rintro _ _ ⟨⟩ ⟨_,_,_⟩ _ k x ac h y
 simp only[go_sem,seval,Zd]at x
 obtain ⟨⟨_,_,_,_,_,_,_,_,_,_,_⟩,_,_,_,_,ad,hn⟩:=x
 subst hn
 have ae:=WF.rowL ac ad
 have:=ZR k
 have:=ZT k
 have:=Zp (ZS k) ae
 simp only[*,go_sem,seval]
 refine ZE9 h fun _ af h=>Zb (Q0 af)<|yA ?_
 refine ZE9 h fun _ ag h=>Zb (ZgA ag)<|yA ?_
 iterate 3 refine yB h (fun _ h=>?_) fun _ h=>?_
 exact yR h [0,1,2,3,4]
 exact yR h [0,1,2,3,4]
 replace h:=Zt h y
 replace h:=Zt h d
 cases h;exact yD
 iterate 2 refine yB h (fun _ h=>?_) fun _ h=>?_
 exact yR h [0,1,2,3,4]
 refine ZE9 h fun _ ah h=>Zb (Zfc ah)<|yA ?_
 refine yB h (fun _ h=>?_) fun _ h=>?_
 replace h:=Zt h y
 replace h:=Zt h d
 cases h;exact yD
 exact yR h [0,1,2,3,4]
 exact yR h [0,1,2,3,4]
 rintro ⟨⟩ ⟨_,_,_⟩ z _ h
 simp only[go_sem,seval,Zd]at z
 obtain ⟨⟨_,_,_,_,_,_,_,_,_,_,_⟩,_,_,_,_,_,hn⟩:=z
 subst hn
 have:=ZN (w.length)
 simp only[*,go_sem,seval]
 exact yR h [0,1]
 replace h:=Zt h d
 cases h;exact yD
 rintro ⟨⟩ ⟨_,_,_⟩ A _ h
 simp only[go_sem,seval,Zd]at A
 obtain ⟨⟨_,_,_⟩,_,_,hn⟩:=A
 subst hn
 have:=ZN (append_0.cond.length)
 simp only[*,go_sem,seval]
 refine Zi h (fun i _ st=>IV [(1,.bp 0 0),(3,.p false [.row 1]),(10,yL i)] [zH 64 (Zy append_0),.row 9 1 (A0 ZH e) 2] st) [] [0,1] yF yD ?_ ?_
 rintro ai _ ⟨⟩ ⟨_,_,_⟩ _ l B aj h C
 simp only[go_sem,seval,Zd]at B
 obtain ⟨⟨_,_,_⟩,ak,_,hn⟩:=B
 subst hn
 have al:=WF.boxL aj ak (j:=3) rfl
 have:=ZR l
 have:=ZT l
 have:=Zp (ZS l) al
 simp only[*,go_sem,seval]
 refine ZE9 h fun _ am h=>Zb (ZnE am)<|yA ?_
 refine yB h (fun _ h=>?_) fun _ h=>?_
 refine ZE9 h fun D an h=>Zb (ZcS an)<|yA ?_
 refine Zi h (fun i _ st=>IV [(1,.bp 0 0),(3,.p false [.row 1]),(10,yL ai),(11,.p false [.row 2]),(12,yL i)] [zH 64 (Zy append_0),.row 9 1 (A0 ZH e) 2,.row 9 1 (A0 ZH D) 2] st) [] [0,1,290] yF yD ?_ ?_
 rintro _ _ ⟨⟩ ⟨_,_,_⟩ _ m E ao h ap
 simp only[go_sem,seval,Zd]at E
 obtain ⟨⟨_,_,_,_,_⟩,_,_,aq,hn⟩:=E
 subst hn
 have ar:=WF.rowL ao aq
 have:=ZR m
 have:=ZT m
 have:=Zp (ZS m) ar
 simp only[*,go_sem,seval]
 refine ZE9 h fun _ au h=>Zb (Q0 au)<|yA ?_
 refine yB h (fun _ h=>?_) fun _ h=>?_
 exact yR h [0,1,2]
 replace h:=Zt h ap
 replace h:=Zt h C
 cases h;exact yD
 rintro ⟨⟩ ⟨_,_,_⟩ F _ h
 simp only[go_sem,seval,Zd]at F
 obtain ⟨⟨_,_,_,_,_⟩,_,_,_,hn⟩:=F
 subst hn
 have:=ZN (D.length)
 simp only[*,go_sem,seval]
 exact yR h [0,1]
 replace h:=Zt h C
 cases h;exact yD
 rintro ⟨⟩ ⟨_,_,_⟩ G _ h
 simp only[go_sem,seval,Zd]at G
 obtain ⟨⟨_,_,_⟩,_,_,hn⟩:=G
 subst hn
 have:=ZN (append_0.thn.length)
 simp only[*,go_sem,seval]
 refine ZE9 h fun _ av h=>Zb (ZnO av) ?_
 iterate 5 (cases h;exact yD)
theorem Zlr {x_0:Zf}{b_1:(List Zg)}{r:Bool}(h:Zc7 x_0 b_1=some r):Zm prog J0 200 [(true,ZE x_0),(false,[.sl 218 2 (A0 ZO b_1)])] [(false,[(false,.bool r)])]:=by
 refine fnk func200 rfl ?_
 unfold Zc7 at h
 simp only[fnS,f200,Zq,go_sem,seval]
 refine ZE9 h fun _ a h=>Zb (ZgA a)<|yA ?_
 refine yB h (fun _ h=>?_) fun _ h=>?_
 refine ZE9 h fun _ b h=>Zb (ZbO b)<|yA ?_
 refine yB h (fun _ h=>?_) fun _ h=>?_
 refine ZE9 h fun _ c h=>Zb (ZfS c)<|yA ?_
 refine ZE9 h fun _ d h=>Zb (ZfS d)<|yA ?_
 iterate 3 refine yB h (fun _ h=>?_) fun _ h=>?_
 cases h;exact yD
 refine yB h (fun _ h=>?_) fun _ h=>?_
 cases h;exact yD
 refine ZE9 h fun _ e h=>Zb (ZhQ e)<|yA ?_
 refine yB h (fun _ h=>?_) fun _ h=>?_
 refine ZE9 h fun _ f h=>Zb (ZhQ f)<|yA ?_
 refine yB h (fun _ h=>?_) fun _ h=>?_
 refine ZE9 h fun _ g h=>Zb (ZeR g) ?_
 iterate 7 (cases h;exact yD)
theorem Zh4 {l_0:(List Zl)}{r:Bool}(h:Zcs l_0=some r):Zm prog J0 58 [(false,[.sl 64 4 (A0 Zy l_0)])] [(false,[(false,.bool r)])]:=by
 refine fnk func58 rfl ?_
 unfold Zcs at h
 simp only[fnS,f58,Zq,go_sem,seval]
 refine yB h (fun _ h=>?_) fun _ h=>?_
 cases h;exact yD
 refine Zi h (fun i _ st=>IV [(0,yM (yW l_0)),(8,yM (yW l_0)),(9,yL l_0.length),(10,yL i)] [] st) [] [] yF yD ?_ ?_
 rintro _ _ ⟨⟩ ⟨_,_,_⟩ _ a b f h d
 simp only[go_sem,seval,Zd]at b
 obtain ⟨⟨g,_,_,_⟩,hn⟩:=b
 subst hn
 have k:=WF.slotL f g (j:=0) rfl
 have:=ZR a
 have:=ZT a
 have:=Zp (ZS a) k
 simp only[*,go_sem,seval]
 refine ZE9 h fun _ l h=>Zb (Zqa l)<|yA ?_
 refine yB h (fun _ h=>?_) fun _ h=>?_
 refine ZE9 h fun _ m h=>Zb (Zh6 m)<|yA ?_
 refine yB h (fun _ h=>?_) fun _ h=>?_
 replace h:=Zt h d
 cases h;exact yD
 exact yR h []
 replace h:=Zt h d
 cases h;exact yD
 rintro ⟨⟩ ⟨_,_,_⟩ e _ h
 simp only[go_sem,seval,Zd]at e
 obtain ⟨⟨_,_,_,_⟩,hn⟩:=e
 subst hn
 have:=ZN (l_0.length)
 cases h;exact yD
theorem Zms {x_0:Zf}{b_1:(List Zg)}{facts_2:(List Zk)}{r:Bool}(h:Zc8 x_0 b_1 facts_2=some r):Zm prog J0 219 [(true,ZE x_0),(false,[.sl 218 2 (A0 ZO b_1)]),(false,[.sl 83 2 (A0 Zw facts_2)])] [(false,[(false,.bool r)])]:=by
 refine fnk func219 rfl ?_
 unfold Zc8 at h
 simp only[fnS,f219,Zq,go_sem,seval]
 refine ZE9 h fun _ a h=>Zb (ZgM a)<|yA ?_
 refine yB h (fun _ h=>?_) fun _ h=>?_
 refine ZE9 h fun _ b h=>Zb (Zb1 b)<|yA ?_
 iterate 2 refine yB h (fun _ h=>?_) fun _ h=>?_
 refine ZE9 h fun _ c h=>Zb (Zbh c) ?_
 cases h;exact yD
 refine yB h (fun _ h=>?_) fun _ h=>?_
 refine ZE9 h fun _ d h=>Zb (Zbh d) ?_
 cases h;exact yD
 refine ZE9 h fun _ e h=>Zb (ZlH e) ?_
 iterate 3 (cases h;exact yD)
end
section
theorem Zh0 {l_0:(List Zl)}{r:Bool}(h:Zcj l_0=some r):Zm prog J0 33 [(false,[.sl 64 4 (A0 Zy l_0)])] [(false,[(false,.bool r)])]:=by
 refine fnk func33 rfl ?_
 unfold Zcj at h
 simp only[fnS,f33,Zq,go_sem,seval]
 refine Zi h (fun i _ st=>IV [(0,yM (yW l_0)),(3,yL i)] [] st) [] [] yF yD ?_ ?_
 rintro _ _ ⟨⟩ ⟨_,_,_⟩ _ a b f h d
 simp only[go_sem,seval,Zd]at b
 obtain ⟨⟨g,_⟩,hn⟩:=b
 subst hn
 have k:=WF.slotL f g (j:=0) rfl
 have:=ZR a
 have:=ZT a
 have:=Zp (ZS a) k
 simp only[*,go_sem,seval]
 refine ZE9 h fun _ l h=>Zb (Zqy l)<|yA ?_
 refine yB h (fun _ h=>?_) fun _ h=>?_
 refine ZE9 h fun _ m h=>Zb (Zh8 m)<|yA ?_
 refine yB h (fun _ h=>?_) fun _ h=>?_
 replace h:=Zt h d
 cases h;exact yD
 exact yR h []
 replace h:=Zt h d
 cases h;exact yD
 rintro ⟨⟩ ⟨_,_,_⟩ e _ h
 simp only[go_sem,seval,Zd]at e
 obtain ⟨⟨_,_⟩,hn⟩:=e
 subst hn
 have:=ZN (l_0.length)
 cases h;exact yD
theorem ZmI {x_0:Zf}{b_1:(List Zg)}{facts_2:(List Zk)}{r:Bool}(h:Zc3 x_0 b_1 facts_2=some r):Zm prog J0 154 [(true,ZE x_0),(false,[.sl 218 2 (A0 ZO b_1)]),(false,[.sl 83 2 (A0 Zw facts_2)])] [(false,[(false,.bool r)])]:=by
 refine fnk func154 rfl ?_
 unfold Zc3 at h
 simp only[fnS,f154,Zq,go_sem,seval]
 refine ZE9 h fun _ a h=>Zb (Zgu a)<|yA ?_
 refine yB h (fun _ h=>?_) fun _ h=>?_
 refine ZE9 h fun _ b h=>Zb (ZbO b)<|yA ?_
 iterate 2 refine yB h (fun _ h=>?_) fun _ h=>?_
 refine ZE9 h fun _ c h=>Zb (Zbf c) ?_
 cases h;exact yD
 refine yB h (fun _ h=>?_) fun _ h=>?_
 refine ZE9 h fun _ d h=>Zb (Zbf d) ?_
 cases h;exact yD
 refine ZE9 h fun _ e h=>Zb (Zlr e) ?_
 iterate 3 (cases h;exact yD)
theorem Zno {append_0:Yq}{r:Bool}(h:Zee append_0=some r):Zm prog J0 18 [(true,ZjL append_0)] [(false,[(false,.bool r)])]:=by
 refine fnk func18 rfl ?_
 unfold Zee at h
 simp only[fnS,f18,Zq,go_sem,seval]
 refine ZE9 h fun _ x h=>Zb (Zh4 x)<|yA ?_
 refine yB h (fun _ h=>?_) fun _ h=>?_
 refine ZE9 h fun _ y h=>Zb (Znp y)<|yA ?_
 iterate 2 refine yB h (fun _ h=>?_) fun _ h=>?_
 iterate 3 (cases h;simp only[*,go_sem,seval];refine Zc h (fun _ h=>?_) fun _ h=>?_<;>try simp only[*,go_sem,seval])
 cases h;exact yD
 refine Zi h (fun i _ st=>IV [(1,.bp 0 0),(43,yM (zD append_0.memory)),(44,yL append_0.memory.length),(45,yL i)] [.box 43 [.c (yW append_0.rules),.c (zD append_0.memory),.c (.int .i64 append_0.clock),.c (zE append_0.fired),.c (.bool append_0.halted),.c (zG append_0.log)]] st) [] [0] yF yD ?_ ?_
 rintro _ _ ⟨⟩ ⟨_,_,_⟩ _ a e z h A
 simp only[go_sem,seval,Zd]at e
 obtain ⟨⟨_,B,_,_⟩,_,hn⟩:=e
 subst hn
 have C:=WF.slotL z B (j:=0) rfl
 have:=ZR a
 have:=ZT a
 have:=Zp (ZS a) C
 simp only[*,go_sem,seval]
 refine yB h (fun _ h=>?_) fun _ h=>?_
 replace h:=Zt h A
 cases h;exact yD
 exact yR h [0]
 rintro ⟨⟩ ⟨_,_,_⟩ f _ h
 simp only[go_sem,seval,Zd]at f
 obtain ⟨⟨_,_,_,_⟩,_,hn⟩:=f
 subst hn
 have:=ZN (append_0.memory.length)
 simp only[*,go_sem,seval]
 refine Zi h (fun i _ st=>IV [(1,.bp 0 0),(56,yM (zE append_0.fired)),(57,yL append_0.fired.length),(58,yL i)] [.box 43 [.c (yW append_0.rules),.c (zD append_0.memory),.c (.int .i64 append_0.clock),.c (zE append_0.fired),.c (.bool append_0.halted),.c (zG append_0.log)]] st) [] [0] yF yD ?_ ?_
 rintro g k ⟨⟩ ⟨_,_,_⟩ _ b l D h m
 simp only[go_sem,seval,Zd]at l
 obtain ⟨⟨_,E,_,_⟩,_,hn⟩:=l
 subst hn
 have F:=WF.slotL D E (j:=0) rfl
 have:=ZR b
 have:=ZT b
 have:=Zp (ZS b) F
 simp only[*,go_sem,seval]
 refine ZE9 h fun _ G h=>Zb (ZkX G)<|yA ?_
 refine yB h (fun _ h=>?_) fun _ h=>?_
 refine Zaj h (fun o st=>IV [(1,.bp 0 0),(5,yL g),(6,.bp 1 0),(7,yM (.int .i64 o)),(56,yM (zE append_0.fired)),(57,yL append_0.fired.length),(58,yL g)] [.box 43 [.c (yW append_0.rules),.c (zD append_0.memory),.c (.int .i64 append_0.clock),.c (zE append_0.fired),.c (.bool append_0.halted),.c (zG append_0.log)],zH 88 (Yu k)] st) [] [0,65] yF yD ?_
 rintro o ⟨_,_,_⟩ _ q _ h t
 simp only[go_sem,seval,Zd]at q
 obtain ⟨⟨_,_,_,_,_,_,_⟩,_,_,hn⟩:=q
 subst hn
 simp only[*,go_sem,seval]
 refine yB h (fun _ h=>?_) fun _ h=>?_
 obtain ⟨_,_,_,_,h⟩:=Qj h
 simp only[*,go_sem,seval]
 refine ZE9 h fun _ H h=>Zb (Zla H)<|yA ?_
 refine yB h (fun _ h=>?_) fun _ h=>?_
 replace h:=Zt h t
 replace h:=Zt h m
 cases h;exact yD
 exact yR h [0,1]
 replace h:=Zt h t
 exact yR h [0]
 replace h:=Zt h m
 cases h;exact yD
 rintro ⟨⟩ ⟨_,_,_⟩ u _ h
 simp only[go_sem,seval,Zd]at u
 obtain ⟨⟨_,_,_,_⟩,_,hn⟩:=u
 subst hn
 have:=ZN (append_0.fired.length)
 simp only[*,go_sem,seval]
 refine Zi h (fun i _ st=>IV [(81,yM (zG append_0.log)),(82,yL append_0.log.length),(83,yL i)] [] st) [] [] yF yD ?_ ?_
 rintro _ _ ⟨⟩ ⟨_,_,_⟩ _ d v I h J
 simp only[go_sem,seval,Zd]at v
 obtain ⟨⟨K,_,_⟩,hn⟩:=v
 subst hn
 have L:=WF.slotL I K (j:=0) rfl
 have:=ZR d
 have:=ZT d
 have:=Zp (ZS d) L
 simp only[*,go_sem,seval]
 refine ZE9 h fun _ M h=>Zb (ZoW M)<|yA ?_
 refine yB h (fun _ h=>?_) fun _ h=>?_
 exact yR h []
 replace h:=Zt h J
 cases h;exact yD
 rintro ⟨⟩ ⟨_,_,_⟩ w _ h
 simp only[go_sem,seval,Zd]at w
 obtain ⟨⟨_,_,_⟩,hn⟩:=w
 subst hn
 have:=ZN (append_0.log.length)
 iterate 3 (cases h;exact yD)
end
section
open Go.RowKit
structure Enc {α:Type}(c:Z9 α) (f:α->List CT):Prop where
 to:∀{w:World} {cs:List Value} {x:α} {L:List Nat},c.rep w cs x L->RCs w (f x) cs L
 of:∀{w:World} {cs:List Value} {x:α} {L:List Nat},RCs w (f x) cs L->c.rep w cs x L
section
variable {α:Type} {c:Z9 α} {f:α->List CT} {w:World}
theorem Enc.reps (h:Enc c f):∀{ds:List α}{xs:List Value}{L:List Nat},c.reps w xs ds L->REs w c.size (ds.map f) xs L
 | [],_,_,h1=>h1
 |_::_,_,_,⟨c1,c2,L1,L2,h1,h2,h3,h4⟩=>⟨c1,c2,L1,L2,h1,h2,⟨h.to h3,c.len h3⟩,h.reps h4⟩
theorem Enc.reps_of (h:Enc c f):∀{ds:List α}{xs:List Value}{L:List Nat},REs w c.size (ds.map f) xs L->c.reps w xs ds L
 | [],_,_,h1=>h1
 |_::_,_,_,⟨c1,c2,L1,L2,h1,h2,h3,h4⟩=>⟨c1,c2,L1,L2,h1,h2,h.of h3.1,h.reps_of h4⟩
theorem Enc.sl (h:Enc c f) (e:Nat) {v:Value}{ds:List α}{L:List Nat}:(Yb c).rep w [v] ds L↔RC w (.sl e c.size (ds.map f)) v L:=by
 constructor
 .rintro ⟨A,cap,hv,h1,h2,xs,L0,L1,hL,h3,h4⟩
  obtain rfl:v=_:=by simpa using hv
  exact ⟨A,cap,xs,L0,L1,yG,by simpa using h1,h2,hL,c.pos,by simpa using h3,h.reps h4⟩
 .rintro ⟨A,cap,xs,L0,L1,hv,h1,h2,hL,h0,h3,h4⟩
  exact ⟨A,cap,by simpa using hv,by simpa using h1,h2,xs,L0,L1,hL,by simpa using h3,h.reps_of h4⟩
theorem RCs.solo {x:CT}{v:Value}{L:List Nat}(h:RC w x v L):RCs w [x] [v] L:=⟨v,[],L,[],rfl,yG,h,rfl,rfl⟩
theorem RCs.more {x:CT}{v:Value}{L M:List Nat}{r:List CT}{cs:List Value}(h:RC w x v L) (k:RCs w r cs M):RCs w (x::r) (v::cs) (L++M):=⟨v,cs,L,M,rfl,rfl,h,k⟩
end
theorem Zpy:Enc ZgI Z8 where
 to:=fun ⟨h1,h2⟩=>by subst h1;subst h2;exact RCs.solo ⟨rfl,rfl⟩
 of:=fun ⟨v,cs',L1,L2,h1,h2,h3,h4,h5⟩=>by
  obtain ⟨rfl,rfl⟩:=h3
  subst h4;subst h5;exact ⟨h1,h2⟩
theorem encStr:Enc Zeu ZH where
 to:=fun ⟨h1,h2,h3⟩=>by subst h1;subst h2;exact RCs.solo ⟨rfl,rfl,h3⟩
 of:=fun ⟨v,cs',L1,L2,h1,h2,h3,h4,h5⟩=>by
  obtain ⟨rfl,rfl,t⟩:=h3
  subst h4;subst h5;exact ⟨h1,h2,t⟩
def ZsW (w:World):Bool×List CT->Value->Prop:=ZhI w fun _=>False
theorem ZlC {α:Type}{c:Z9 α}{f:α->List CT}(h:Enc c f) (e:Nat) {w:World}{v:Value}{ds:List α}{L:List Nat}(hr:(Yb c).rep w [v] ds L):ZsW w (false,[.sl e c.size (ds.map f)]) v:=.inr ⟨rfl,_,L,rfl,(h.sl e).1 hr,fun _ _ h=>h⟩
theorem ZeM {α:Type}{c:Z9 α}{f:α->List CT}(h:Enc c f) {w:World}{vs:List Value}{x:α}{L:List Nat}(hr:c.rep w vs x L):ZsW w (true,f x) (.agg vs.toArray):=.inl ⟨rfl,vs,L,rfl,h.to hr,fun _ _ h=>h⟩
section
variable {w w':World} {v:Value} {e:Ending}
theorem Zo3 {B:Nat}{n:Nat->Prop}{x:RT}(h:ZiY w B n [x] v):∃F,OP w B n x v F/\Own w B F:=by
 obtain ⟨vs,F,⟨u,vs',F1,F2,rfl,rfl,h1,rfl,rfl⟩,h2,rfl⟩:=h
 rw [AB]at h2
 exact ⟨F1,by simpa using h1,h2⟩
theorem Zwn {α:Type}{c:Z9 α}{f:α->List CT}(h:Enc c f) {t:Nat}{ds:List α}{n:Nat->Prop}(hr:ZiY w' w.heap.size n [(false,[(false,.sl t c.size (ds.map f))])] v) (hb:Below w.heap.size w w'):Zfy c t w v ds w':=by
 obtain ⟨F,h1,h2⟩:=Zo3 hr
 rcases h1 with ⟨h1,_⟩|⟨_,ct,h1,h3⟩
 .simp at h1
 .obtain rfl:_=ct:=by simpa using h1
  obtain ⟨_,cs,L,h4,h5,rfl,_⟩:=h3
  exact ⟨⟨cs,L,by simpa using h4,h.reps_of h5,h2⟩,hb⟩
theorem ZvK {b:Bool}{B:Nat}{m:Nat->Prop}(hr:ZiY w B m [(false,[(false,.bool b)])] v):v=.bool b:=by
 obtain ⟨F,h1,h2⟩:=Zo3 hr
 rcases h1 with ⟨h1,_⟩|⟨_,ct,h1,h3⟩
 .simp at h1
 .obtain rfl:_=ct:=by simpa using h1
  exact h3.1.1
end
section
variable {P:Program} {J:World->Prop} {f:FuncId} {args:List (Bool×List CT)} {res:List RT}
theorem Zm.calls (h:Zm P J f args res) {w:World}{vs:List Value}(hj:J w) (ha:ZD (ZsW w) args vs):Calls P f vs.toArray w fun e w'=>∃v n,e=.returned v/\ZiY w' w.heap.size n res v/\Below w.heap.size w w':=
 (h.2 w (fun _=>False) vs hj (fun _ h=>h.elim) ha).mono fun _ _ ⟨v,n,h1,h2,_,h3⟩=>⟨v,n,h1,h2,h3⟩
theorem Zm.givesS {α:Type}{c:Z9 α}{g:α->List CT}{t:Nat}{ds:List α}(h:Zm P J f args [(false,[(false,.sl t c.size (ds.map g))])]) (hg:Enc c g) {w:World}{vs:List Value}(hj:J w) (ha:ZD (ZsW w) args vs):Calls P f vs.toArray w (Zbg c t w ds):=
 (h.calls hj ha).mono fun _ _ ⟨v,_,h1,h2,h3⟩=>⟨v,h1,Zwn hg h2 h3⟩
theorem Zm.givesB {b:Bool}(h:Zm P J f args [(false,[(false,.bool b)])]) {w:World}{vs:List Value}(hj:J w) (ha:ZD (ZsW w) args vs):Calls P f vs.toArray w fun e w'=>e=.returned (.bool b)/\Below w.heap.size w w':=
 (h.calls hj ha).mono fun _ _ ⟨v,_,h1,h2,h3⟩=>⟨by rw [h1,ZvK h2],h3⟩
def ZyH {α:Type}(c:Z9 α) (t:Nat) (w:World) (ds:List α) (b:Bool):Ending->World->Prop:=fun e w'=>∃v,e=.returned (.tuple #[v,.bool b])/\Zfy c t w v ds w'
theorem Zm.givesSB {α:Type}{c:Z9 α}{g:α->List CT}{t:Nat}{ds:List α}{b:Bool}(h:Zm P J f args [(false,[(false,.sl t c.size (ds.map g))]),(false,[(false,.bool b)])]) (hg:Enc c g) {w:World}{vs:List Value}(hj:J w) (ha:ZD (ZsW w) args vs):Calls P f vs.toArray w (ZyH c t w ds b):=
 (h.calls hj ha).mono fun _ w' ⟨v,n,h1,⟨us,F,⟨u,us',F1,F2,e1,e2,p1,u2,us2,F3,F4,e3,e4,p2,e5,e6⟩,hO,e7⟩,h3⟩=>by
  subst e5 e6 e3 e4 e1 e2
  rcases p2 with ⟨p2,_⟩|⟨_,ct,p2,p3⟩
  .simp at p2
  .obtain rfl:_=ct:=by simpa using p2
   obtain ⟨⟨p4,_⟩,rfl⟩:=p3
   subst p4
   simp only[AB]at hO
   exact ⟨u,by rw [h1,e7];rfl,Zwn (n:=n) hg ⟨[u],F1,⟨u,[],F1,[],rfl,yG,p1,rfl,rfl⟩,hO,rfl⟩ h3⟩
theorem Zw7 {w:World}{B:Nat}{n:Nat->Prop}:∀{l:List CT}{cs:List Value}{F:List Nat},OCs w B n (l.map fun y=>(false,y)) cs F->∃F',F'.Sublist F/\RCs w l cs F'
 | [],_,_,⟨h1,h2⟩=>⟨[],yG,h1,rfl⟩
 |x::l,_,_,⟨v,vs,F1,F2,rfl,rfl,h1,h2⟩=>by
  obtain ⟨F2',s2,r2⟩:=Zw7 h2
  have key:∃F1',F1'.Sublist F1/\RC w x v F1':=by
   cases x with
   |sl e q xs=>
    obtain ⟨hm,cs,L,o1,o2,o3,o4⟩:=h1
    obtain ⟨A,cap,L0,s1,s2,s3,s4,s5⟩:=Sl.row o1
    exact ⟨L0++L,by rw [o3];exact AX s5 (List.Sublist.refl _),A,cap,cs,L0,L,s1,s2,s3,rfl,hm,s4,o2⟩
   |int k i=>exact ⟨[],yG,h1.1⟩
   |bool b=>exact ⟨[],yG,h1.1⟩
   |str s=>exact ⟨[],yG,h1.1⟩
   |ifc s=>exact ⟨[],yG,h1.1⟩
   |any=>exact ⟨[],yG,h1.1⟩
   |_=>exact h1.elim
  obtain ⟨F1',s1,r1⟩:=key
  exact ⟨F1'++F2',AX s1 s2,v,vs,F1',F2',rfl,rfl,r1,r2⟩
end
end
theorem ZlA:Enc XP YD where
 to:=fun {w cs x L} h=>by
  obtain ⟨A1,c1,L1,rfl,rfl,t0,n1,m1,s1⟩:=h
  have hh:RCs w (YD x) _ _:=RCs.more ⟨rfl,rfl,t0⟩ (RCs.solo ((encStr.sl 9).1 ⟨A1,c1,rfl,n1,m1,s1⟩))
  simpa only [AD,AB,AC]using hh
 of:=fun {w cs x L} h=>by
  obtain ⟨v0,r0,K0,M0,rfl,rfl,h0,v1,r1,K1,M1,rfl,rfl,h1,rfl,rfl⟩:=h
  obtain ⟨rfl,rfl,t0⟩:=h0
  obtain ⟨A1,c1,e1,n1,m1,s1⟩:=(encStr.sl 9).2 h1
  cases e1
  exact ⟨A1,c1,_,rfl,by simp only[AD,AB,AC],t0,n1,m1,s1⟩
theorem Zlj:Enc X6 ZE where
 to:=fun {w cs x L} h=>by
  obtain ⟨A1,c1,L1,rfl,rfl,t0,t1,t2,n1,m1,s1⟩:=h
  have hh:RCs w (ZE x) _ _:=RCs.more ⟨rfl,rfl⟩ (RCs.more ⟨rfl,rfl,t0⟩ (RCs.more ((encStr.sl 9).1 ⟨A1,c1,rfl,n1,m1,s1⟩) (RCs.more ⟨rfl,rfl,t1⟩ (RCs.solo ⟨rfl,rfl,t2⟩))))
  simpa only [AD,AB,AC]using hh
 of:=fun {w cs x L} h=>by
  obtain ⟨v0,r0,K0,M0,rfl,rfl,h0,v1,r1,K1,M1,rfl,rfl,h1,v2,r2,K2,M2,rfl,rfl,h2,v3,r3,K3,M3,rfl,rfl,h3,v4,r4,K4,M4,rfl,rfl,h4,rfl,rfl⟩:=h
  obtain ⟨rfl,rfl⟩:=h0
  obtain ⟨rfl,rfl,t0⟩:=h1
  obtain ⟨A1,c1,e1,n1,m1,s1⟩:=(encStr.sl 9).2 h2
  cases e1
  obtain ⟨rfl,rfl,t1⟩:=h3
  obtain ⟨rfl,rfl,t2⟩:=h4
  exact ⟨A1,c1,_,rfl,by simp only[AD,AB,AC],t0,t1,t2,n1,m1,s1⟩
theorem Zos:Enc YJ ZQ where
 to:=fun {w cs x L} h=>by
  obtain ⟨A1,c1,L1,rfl,rfl,t0,n1,m1,s1⟩:=h
  have hh:RCs w (ZQ x) _ _:=RCs.more ⟨rfl,rfl⟩ (RCs.more ⟨rfl,rfl,t0⟩ (RCs.solo ((encStr.sl 9).1 ⟨A1,c1,rfl,n1,m1,s1⟩)))
  simpa only [AD,AB,AC]using hh
 of:=fun {w cs x L} h=>by
  obtain ⟨v0,r0,K0,M0,rfl,rfl,h0,v1,r1,K1,M1,rfl,rfl,h1,v2,r2,K2,M2,rfl,rfl,h2,rfl,rfl⟩:=h
  obtain ⟨rfl,rfl⟩:=h0
  obtain ⟨rfl,rfl,t0⟩:=h1
  obtain ⟨A1,c1,e1,n1,m1,s1⟩:=(encStr.sl 9).2 h2
  cases e1
  exact ⟨A1,c1,_,rfl,by simp only[AD,AB,AC],t0,n1,m1,s1⟩
theorem Zlh:Enc Xj Zy where
 to:=fun {w cs x L} h=>by
  obtain ⟨A1,c1,L1,A2,c2,L2,rfl,rfl,t0,n1,m1,s1,n2,m2,s2⟩:=h
  have hh:RCs w (Zy x) _ _:=RCs.more ⟨rfl,rfl,t0⟩ (RCs.more ⟨rfl,rfl⟩ (RCs.more ((Zlj.sl 107).1 ⟨A1,c1,rfl,n1,m1,s1⟩) (RCs.solo ((Zos.sl 117).1 ⟨A2,c2,rfl,n2,m2,s2⟩))))
  simpa only [AD,AB,AC]using hh
 of:=fun {w cs x L} h=>by
  obtain ⟨v0,r0,K0,M0,rfl,rfl,h0,v1,r1,K1,M1,rfl,rfl,h1,v2,r2,K2,M2,rfl,rfl,h2,v3,r3,K3,M3,rfl,rfl,h3,rfl,rfl⟩:=h
  obtain ⟨rfl,rfl,t0⟩:=h0
  obtain ⟨rfl,rfl⟩:=h1
  obtain ⟨A1,c1,e1,n1,m1,s1⟩:=(Zlj.sl 107).2 h2
  cases e1
  obtain ⟨A2,c2,e2,n2,m2,s2⟩:=(Zos.sl 117).2 h3
  cases e2
  exact ⟨A1,c1,_,A2,c2,_,rfl,by simp only[AD,AB,AC],t0,n1,m1,s1,n2,m2,s2⟩
theorem QW:Enc Yh Zw where
 to:=fun {w cs x L} h=>by
  obtain ⟨A1,c1,L1,rfl,rfl,t0,n1,m1,s1⟩:=h
  have hh:RCs w (Zw x) _ _:=RCs.more ⟨rfl,rfl,t0⟩ (RCs.solo ((encStr.sl 9).1 ⟨A1,c1,rfl,n1,m1,s1⟩))
  simpa only [AD,AB,AC]using hh
 of:=fun {w cs x L} h=>by
  obtain ⟨v0,r0,K0,M0,rfl,rfl,h0,v1,r1,K1,M1,rfl,rfl,h1,rfl,rfl⟩:=h
  obtain ⟨rfl,rfl,t0⟩:=h0
  obtain ⟨A1,c1,e1,n1,m1,s1⟩:=(encStr.sl 9).2 h1
  cases e1
  exact ⟨A1,c1,_,rfl,by simp only[AD,AB,AC],t0,n1,m1,s1⟩
theorem ZrM:Enc Y8 YF where
 to:=fun {w cs x L} h=>by
  obtain ⟨A1,c1,L1,rfl,rfl,t0,n1,m1,s1⟩:=h
  have hh:RCs w (YF x) _ _:=RCs.more ⟨rfl,rfl,t0⟩ (RCs.more ((encStr.sl 9).1 ⟨A1,c1,rfl,n1,m1,s1⟩) (RCs.solo ⟨rfl,rfl⟩))
  simpa only [AD,AB,AC]using hh
 of:=fun {w cs x L} h=>by
  obtain ⟨v0,r0,K0,M0,rfl,rfl,h0,v1,r1,K1,M1,rfl,rfl,h1,v2,r2,K2,M2,rfl,rfl,h2,rfl,rfl⟩:=h
  obtain ⟨rfl,rfl,t0⟩:=h0
  obtain ⟨A1,c1,e1,n1,m1,s1⟩:=(encStr.sl 9).2 h1
  cases e1
  obtain ⟨rfl,rfl⟩:=h2
  exact ⟨A1,c1,_,rfl,by simp only[AD,AB,AC],t0,n1,m1,s1⟩
theorem Zok:Enc Yz Yu where
 to:=fun {w cs x L} h=>by
  obtain ⟨A1,c1,L1,rfl,rfl,t0,n1,m1,s1⟩:=h
  have hh:RCs w (Yu x) _ _:=RCs.more ⟨rfl,rfl,t0⟩ (RCs.solo ((Zpy.sl 3).1 ⟨A1,c1,rfl,n1,m1,s1⟩))
  simpa only [AD,AB,AC]using hh
 of:=fun {w cs x L} h=>by
  obtain ⟨v0,r0,K0,M0,rfl,rfl,h0,v1,r1,K1,M1,rfl,rfl,h1,rfl,rfl⟩:=h
  obtain ⟨rfl,rfl,t0⟩:=h0
  obtain ⟨A1,c1,e1,n1,m1,s1⟩:=(Zpy.sl 3).2 h1
  cases e1
  exact ⟨A1,c1,_,rfl,by simp only[AD,AB,AC],t0,n1,m1,s1⟩
theorem ZqV:Enc Xz Qh where
 to:=fun {w cs x L} h=>by
  obtain ⟨A1,c1,L1,rfl,rfl,t0,t1,n1,m1,s1⟩:=h
  have hh:RCs w (Qh x) _ _:=RCs.more ⟨rfl,rfl⟩ (RCs.more ⟨rfl,rfl,t0⟩ (RCs.more ⟨rfl,rfl,t1⟩ (RCs.solo ((encStr.sl 9).1 ⟨A1,c1,rfl,n1,m1,s1⟩))))
  simpa only [AD,AB,AC]using hh
 of:=fun {w cs x L} h=>by
  obtain ⟨v0,r0,K0,M0,rfl,rfl,h0,v1,r1,K1,M1,rfl,rfl,h1,v2,r2,K2,M2,rfl,rfl,h2,v3,r3,K3,M3,rfl,rfl,h3,rfl,rfl⟩:=h
  obtain ⟨rfl,rfl⟩:=h0
  obtain ⟨rfl,rfl,t0⟩:=h1
  obtain ⟨rfl,rfl,t1⟩:=h2
  obtain ⟨A1,c1,e1,n1,m1,s1⟩:=(encStr.sl 9).2 h3
  cases e1
  exact ⟨A1,c1,_,rfl,by simp only[AD,AB,AC],t0,t1,n1,m1,s1⟩
theorem Zq9:Enc Y2 Z0 where
 to:=fun {w cs x L} h=>by
  obtain ⟨A1,c1,L1,A2,c2,L2,rfl,rfl,t0,n1,m1,s1,n2,m2,s2⟩:=h
  have hh:RCs w (Z0 x) _ _:=RCs.more ⟨rfl,rfl,t0⟩ (RCs.more ((encStr.sl 9).1 ⟨A1,c1,rfl,n1,m1,s1⟩) (RCs.solo ((QW.sl 83).1 ⟨A2,c2,rfl,n2,m2,s2⟩)))
  simpa only [AD,AB,AC]using hh
 of:=fun {w cs x L} h=>by
  obtain ⟨v0,r0,K0,M0,rfl,rfl,h0,v1,r1,K1,M1,rfl,rfl,h1,v2,r2,K2,M2,rfl,rfl,h2,rfl,rfl⟩:=h
  obtain ⟨rfl,rfl,t0⟩:=h0
  obtain ⟨A1,c1,e1,n1,m1,s1⟩:=(encStr.sl 9).2 h1
  cases e1
  obtain ⟨A2,c2,e2,n2,m2,s2⟩:=(QW.sl 83).2 h2
  cases e2
  exact ⟨A1,c1,_,A2,c2,_,rfl,by simp only[AD,AB,AC],t0,n1,m1,s1,n2,m2,s2⟩
theorem ZfG:Enc XA ZO where
 to:=fun {w cs x L} h=>by
  obtain ⟨rfl,rfl,t0,t1⟩:=h
  have hh:RCs w (ZO x) _ _:=RCs.more ⟨rfl,rfl,t0⟩ (RCs.solo ⟨rfl,rfl,t1⟩)
  simpa only [AD,AB,AC]using hh
 of:=fun {w cs x L} h=>by
  obtain ⟨v0,r0,K0,M0,rfl,rfl,h0,v1,r1,K1,M1,rfl,rfl,h1,rfl,rfl⟩:=h
  obtain ⟨rfl,rfl,t0⟩:=h0
  obtain ⟨rfl,rfl,t1⟩:=h1
  exact ⟨rfl,by simp only[AD,AB,AC],t0,t1⟩
theorem ZmQ:Enc Yg Xv where
 to:=fun {w cs x L} h=>by
  obtain ⟨A1,c1,L1,A2,c2,L2,rfl,rfl,n1,m1,s1,n2,m2,s2⟩:=h
  have hh:RCs w (Xv x) _ _:=RCs.more ((QW.sl 83).1 ⟨A1,c1,rfl,n1,m1,s1⟩) (RCs.solo ((ZfG.sl 218).1 ⟨A2,c2,rfl,n2,m2,s2⟩))
  simpa only [AD,AB,AC]using hh
 of:=fun {w cs x L} h=>by
  obtain ⟨v0,r0,K0,M0,rfl,rfl,h0,v1,r1,K1,M1,rfl,rfl,h1,rfl,rfl⟩:=h
  obtain ⟨A1,c1,e1,n1,m1,s1⟩:=(QW.sl 83).2 h0
  cases e1
  obtain ⟨A2,c2,e2,n2,m2,s2⟩:=(ZfG.sl 218).2 h1
  cases e2
  exact ⟨A1,c1,_,A2,c2,_,rfl,by simp only[AD,AB,AC],n1,m1,s1,n2,m2,s2⟩
theorem ZtT:Enc QX Ym where
 to:=fun {w cs x L} h=>by
  obtain ⟨A1,c1,L1,A2,c2,L2,rfl,rfl,t0,t1,t2,n1,m1,s1,n2,m2,s2⟩:=h
  have hh:RCs w (Ym x) _ _:=RCs.more ⟨rfl,rfl⟩ (RCs.more ⟨rfl,rfl⟩ (RCs.more ⟨rfl,rfl,t0⟩ (RCs.more ((encStr.sl 9).1 ⟨A1,c1,rfl,n1,m1,s1⟩) (RCs.more ⟨rfl,rfl,t1⟩ (RCs.more ⟨rfl,rfl,t2⟩ (RCs.more ⟨rfl,rfl⟩ (RCs.solo ((ZmQ.sl 167).1 ⟨A2,c2,rfl,n2,m2,s2⟩))))))))
  simpa only [AD,AB,AC]using hh
 of:=fun {w cs x L} h=>by
  obtain ⟨v0,r0,K0,M0,rfl,rfl,h0,v1,r1,K1,M1,rfl,rfl,h1,v2,r2,K2,M2,rfl,rfl,h2,v3,r3,K3,M3,rfl,rfl,h3,v4,r4,K4,M4,rfl,rfl,h4,v5,r5,K5,M5,rfl,rfl,h5,v6,r6,K6,M6,rfl,rfl,h6,v7,r7,K7,M7,rfl,rfl,h7,rfl,rfl⟩:=h
  obtain ⟨rfl,rfl⟩:=h0
  obtain ⟨rfl,rfl⟩:=h1
  obtain ⟨rfl,rfl,t0⟩:=h2
  obtain ⟨A1,c1,e1,n1,m1,s1⟩:=(encStr.sl 9).2 h3
  cases e1
  obtain ⟨rfl,rfl,t1⟩:=h4
  obtain ⟨rfl,rfl,t2⟩:=h5
  obtain ⟨rfl,rfl⟩:=h6
  obtain ⟨A2,c2,e2,n2,m2,s2⟩:=(ZmQ.sl 167).2 h7
  cases e2
  exact ⟨A1,c1,_,A2,c2,_,rfl,by simp only[AD,AB,AC],t0,t1,t2,n1,m1,s1,n2,m2,s2⟩
theorem Zt4:Enc ZbQ Zqs where
 to:=fun {w cs x L} h=>by
  obtain ⟨A1,c1,L1,A2,c2,L2,A3,c3,L3,A4,c4,L4,A5,c5,L5,A6,c6,L6,A7,c7,L7,A8,c8,L8,A9,c9,L9,rfl,rfl,n1,m1,s1,n2,m2,s2,n3,m3,s3,n4,m4,s4,n5,m5,s5,n6,m6,s6,n7,m7,s7,n8,m8,s8,n9,m9,s9⟩:=h
  have hh:RCs w (Zqs x) _ _:=RCs.more ((Zlh.sl 64).1 ⟨A1,c1,rfl,n1,m1,s1⟩) (RCs.more ((ZrM.sl 85).1 ⟨A2,c2,rfl,n2,m2,s2⟩) (RCs.more ⟨rfl,rfl⟩ (RCs.more ((Zok.sl 88).1 ⟨A3,c3,rfl,n3,m3,s3⟩) (RCs.more ⟨rfl,rfl⟩ (RCs.more ((ZqV.sl 97).1 ⟨A4,c4,rfl,n4,m4,s4⟩) (RCs.more ((Zlh.sl 64).1 ⟨A5,c5,rfl,n5,m5,s5⟩) (RCs.more ((Zpy.sl 3).1 ⟨A6,c6,rfl,n6,m6,s6⟩) (RCs.more ((Zq9.sl 103).1 ⟨A7,c7,rfl,n7,m7,s7⟩) (RCs.more ((ZtT.sl 110).1 ⟨A8,c8,rfl,n8,m8,s8⟩) (RCs.more ((QW.sl 83).1 ⟨A9,c9,rfl,n9,m9,s9⟩) (RCs.solo ⟨rfl,rfl⟩)))))))))))
  simpa only [AD,AB,AC]using hh
 of:=fun {w cs x L} h=>by
  obtain ⟨v0,r0,K0,M0,rfl,rfl,h0,v1,r1,K1,M1,rfl,rfl,h1,v2,r2,K2,M2,rfl,rfl,h2,v3,r3,K3,M3,rfl,rfl,h3,v4,r4,K4,M4,rfl,rfl,h4,v5,r5,K5,M5,rfl,rfl,h5,v6,r6,K6,M6,rfl,rfl,h6,v7,r7,K7,M7,rfl,rfl,h7,v8,r8,K8,M8,rfl,rfl,h8,v9,r9,K9,M9,rfl,rfl,h9,v10,r10,K10,M10,rfl,rfl,a,v11,r11,K11,M11,rfl,rfl,b,rfl,rfl⟩:=h
  obtain ⟨A1,c1,e1,n1,m1,s1⟩:=(Zlh.sl 64).2 h0
  cases e1
  obtain ⟨A2,c2,e2,n2,m2,s2⟩:=(ZrM.sl 85).2 h1
  cases e2
  obtain ⟨rfl,rfl⟩:=h2
  obtain ⟨A3,c3,e3,n3,m3,s3⟩:=(Zok.sl 88).2 h3
  cases e3
  obtain ⟨rfl,rfl⟩:=h4
  obtain ⟨A4,c4,e4,n4,m4,s4⟩:=(ZqV.sl 97).2 h5
  cases e4
  obtain ⟨A5,c5,e5,n5,m5,s5⟩:=(Zlh.sl 64).2 h6
  cases e5
  obtain ⟨A6,c6,e6,n6,m6,s6⟩:=(Zpy.sl 3).2 h7
  cases e6
  obtain ⟨A7,c7,e7,n7,m7,s7⟩:=(Zq9.sl 103).2 h8
  cases e7
  obtain ⟨A8,c8,e8,n8,m8,s8⟩:=(ZtT.sl 110).2 h9
  cases e8
  obtain ⟨A9,c9,e9,n9,m9,s9⟩:=(QW.sl 83).2 a
  cases e9
  obtain ⟨rfl,rfl⟩:=b
  exact ⟨A1,c1,_,A2,c2,_,A3,c3,_,A4,c4,_,A5,c5,_,A6,c6,_,A7,c7,_,A8,c8,_,A9,c9,_,rfl,by simp only[AD,AB,AC],n1,m1,s1,n2,m2,s2,n3,m3,s3,n4,m4,s4,n5,m5,s5,n6,m6,s6,n7,m7,s7,n8,m8,s8,n9,m9,s9⟩
section
open Go.RowKit
section
variable {w w':World} {base:Nat} {e:TypeId} {size n:Nat} {v:Value} {xs:List Value}
theorem ZjP (h:w.ownsV base e size v n xs) (o:Obj):(w.alloc o).ownsV base e size v n xs:=Zcg h (fun b mb=>Below.heap_alloc w o b (Zip h b mb))
theorem Zp6 (h:w.ownsV base e size v n xs):w.drew.ownsV base e size v n xs:=Zcg h (fun _ _=>rfl)
theorem Zdu (h:w.ownsV base e size v n xs) (hb:Below w.heap.size w w'):w'.ownsV base e size v n xs:=Zcg h (fun b mb=>hb.block b (Zip h b mb))
theorem Zxb (h:w.ownsV base e size v n xs):∀g,v.ownBlock=some g->base<=g:=fun g hg=>by
 rcases h.2 with ⟨h0,_⟩|⟨g',o,cap,cur,hv,hb,_⟩
 .rw [h0]at hg;simp [Value.ownBlock]at hg
 .rw [hv]at hg;simp [Value.ownBlock]at hg;omega
theorem ZqC (h:w.ownsV base e size v n xs):Own w base v.ownBlock.toList:=by
 rcases h.2 with ⟨h0,_⟩|⟨g,o,cap,a,hv,hg,hc,_⟩
 .subst h0;exact Own.nil w base
 .subst hv;exact ⟨by simp [Value.ownBlock],by simpa [Value.ownBlock]using hg,by simpa [Value.ownBlock]using ⟨a,e,hc⟩⟩
end
theorem Zq3 {P:Program}{o:Oper}{a:Act}{K:Act->World->Prop}{Q:Exit->Act->World->Prop}{w0:World}(s x:Operand) (t:TypeId)
  (ho:o.op=.call { callee:=.builtin .append,args:=#[s,x],argTypes:=#[t,t] })
  (e:TypeId) (z:Value) (size c:Nat) (ht:P.underlying t=some (.slice e)) (hi:(P.info? e).map (fun i=>(i.zero,i.size,i.bytes))=some (some z,size,c)) (A:z.cells.size=size) (B:0<size)
  (base:Nat) (v:Value) (n:Nat) (xs b:List Value) (hs:a.eval s=v) (hx:a.eval x=.slice (some ⟨w0.heap.size,0,none⟩) 1 1) (l:w0.ownsV base e size v n xs)
  (hl:b.length=size) (h1:∀u∈b,u.oneCell'=true) (h63:n+1<=9223372036854775807) (f:(n+1)*c<=140737488355328) (hbase:base<=w0.heap.size) (w2:World) (d:w2=w0.alloc (.cells b.toArray e)\/w2=(w0.alloc (.cells b.toArray e)).drew)
  (h:∀v' w',w'.ownsV base e size v' (n+1) (xs++b)->w0.grownBy w' v.ownBlock->(∀g,v'.ownBlock=some g->v.ownBlock=some g\/w0.heap.size<=g)->K (a.put o.dst v') w'):
  Oper.wp P o a w2 K Q:=by
 obtain ⟨i,C,D,E,F⟩:=info_parts hi
 have hsize:w2.heap.size=w0.heap.size+1:=by rcases d with rfl|rfl<;>simp
 have m:w2.ownsV base e size v n xs:=by
  rcases d with rfl|rfl
  .exact ZjP l _
  .exact Zp6 (ZjP l _)
 have q:w2.heap[w0.heap.size]?=some (.cells b.toArray e (0,0)):=by
  rcases d with rfl|rfl
  .exact heap_alloc_new w0 _
  .exact heap_alloc_new w0 _
 have w:∀k,k<w0.heap.size->w2.heap[k]?=w0.heap[k]?:=fun k hk=>by
  rcases d with rfl|rfl
  .exact Below.heap_alloc w0 _ k hk
  .exact Below.heap_alloc w0 _ k hk
 have p:w2.os=w0.os/\w2.tape=w0.tape/\w2.output=w0.output:=by rcases d with rfl|rfl<;>exact ⟨rfl,rfl,rfl⟩
 obtain ⟨v',w',y,h2,h3,h5⟩:=Zge (P:=P) w2 base t o.type e i z size c ht C D E F A B v n xs m ⟨w0.heap.size,0,none⟩ 1 1 b
  yE (fun j u hu=>by rw [ZcY];rw [cell_of_row w2 w0.heap.size (0+j) b.toArray e (0,0) q];simpa using hu) h1 (by unfold maxLen;omega) f yE
 unfold Oper.wp execOp
 simp only[ho,resolve,invoke,builtin,Sem.run_bind,Sem.run_pure,Result.andThen_ok,List.map_toArray,List.map_cons,List.map_nil,hs,hx,y]
 refine h v' w' h2 ?_ ?_
 .exact ⟨h3.os.trans p.1,h3.tape.trans p.2.1,h3.output.trans p.2.2,AF yE h3.size,fun k hk hn=>(h3.block k yE hn).trans (w k hk)⟩
 .intro g hg
  rcases h5 with h5|h5<;>rw [h5]at hg
  .exact .inl hg
  .simp at hg
   exact .inr yE
theorem ZwG {P:Program}{k:Array Oper}{f:List Oper}{o:Oper}{a:Act}{Q:Exit->Act->World->Prop}{w0:World}(m:o.guard=none) (s x:Operand) (t:TypeId)
  (ho:o.op=.call { callee:=.builtin .append,args:=#[s,x],argTypes:=#[t,t] })
  (e:TypeId) (z:Value) (size c:Nat) (ht:P.underlying t=some (.slice e)) (hi:(P.info? e).map (fun i=>(i.zero,i.size,i.bytes))=some (some z,size,c)) (p:z.cells.size=size) (q:0<size)
  (base:Nat) (v:Value) (n:Nat) (xs b:List Value) (hs:a.eval s=v) (hx:a.eval x=.slice (some ⟨w0.heap.size,0,none⟩) 1 1) (l:w0.ownsV base e size v n xs)
  (hl:b.length=size) (h1:∀u∈b,u.oneCell'=true) (w:n+1<=9223372036854775807) (d:(n+1)*c<=140737488355328) (j:base<=w0.heap.size)
  (h:∀v' w',w'.ownsV base e size v' (n+1) (xs++b)->w0.grownBy w' v.ownBlock->(∀g,v'.ownBlock=some g->v.ownBlock=some g\/w0.heap.size<=g)->wpList P k Q f (a.put o.dst v') w'):
  wpList P k Q (o::f) a (w0.alloc (.cells b.toArray e)):=
 wpList_plain m fun _ hK=>Zq3 s x t ho e z size c ht hi p q base v n xs b hs hx l hl h1 w d j _ (.inl rfl) fun v' w' h2 h3 h4=>hK _ _ (h v' w' h2 h3 h4)
theorem Zm.givesX {P:Program}{J:World->Prop}{f:FuncId}{args:List (Bool×List CT)}{α:Type}{c:Z9 α}{g:α->List CT}{x:α}(h:Zm P J f args [(true,(g x).map fun y=>(false,y))]) (hg:Enc c g) {w:World}{vs:List Value}(hj:J w) (ha:ZD (ZsW w) args vs):Calls P f vs.toArray w (ZcM c w x):=
 (h.calls hj ha).mono fun _ w' ⟨v,n,h1,h2,h3⟩=>by
  obtain ⟨F,p1,hO⟩:=Zo3 h2
  rcases p1 with ⟨_,cs,rfl,hc⟩|⟨hf,_⟩
  .obtain ⟨F',hs,hr⟩:=Zw7 hc
   exact ⟨cs,F',h1,⟨hg.of hr,hO.sub hs⟩,h3⟩
  .simp at hf
structure Zdl (base:Nat) (w1:World) (Ls:List (List Nat)) (k:Nat) (ds:List Zs) (v:Value) (w:World):Prop where
 row:∃xs Lp,w.ownsV base 167 2 v ds.length xs/\Yg.reps w xs ds Lp/\Own w base (v.ownBlock.toList++Lp)/\∀y∈Lp,y∈(Ls.take k).flatten\/w1.heap.size<=y
 own:∀g,v.ownBlock=some g->w1.heap.size<=g
 below:Below w1.heap.size w1 w
section
variable {base:Nat} {w1 w w':World} {Ls:List (List Nat)} {k k':Nat} {ds:List Zs} {v v':Value}
theorem Zdl.start:Zdl base w1 Ls 0 [] (.slice none 0 0) w1:=
 ⟨⟨[],[],Zfg _ _ _ _,⟨rfl,rfl⟩,by simpa [Value.ownBlock]using Own.nil w1 base,yG⟩,by simp [Value.ownBlock],Below.refl _ _⟩
theorem Zdl.later (h:Zdl base w1 Ls k ds v w) (hb:Below w.heap.size w w'):Zdl base w1 Ls k ds v w':=by
 obtain ⟨⟨xs,Lp,h1,h2,h3,h4⟩,h5,h6⟩:=h
 have a:=h3.lt
 exact ⟨⟨xs,Lp,Zdu h1 hb,QJ h2 (fun b mb=>hb.block b (a b (by simp [mb]))),h3.keep (fun b mb=>hb.block b (a b mb)),h4⟩,h5,h6.trans (hb.mono h6.size)⟩
theorem Zhe {Ls:List (List Nat)}{k k':Nat}(h:k<=k') {y:Nat}(hy:y∈(Ls.take k).flatten):y∈(Ls.take k').flatten:=by
 obtain ⟨l,ml,hl⟩:=AO.1 hy
 exact AO.2 ⟨l,(List.take_prefix_take_left h).subset ml,hl⟩
theorem Zdl.skip (h:Zdl base w1 Ls k ds v w) (hk:k<=k'):Zdl base w1 Ls k' ds v w:=by
 obtain ⟨⟨xs,Lp,h1,h2,h3,h4⟩,h5,h6⟩:=h
 exact ⟨⟨xs,Lp,h1,h2,h3,fun y my=>(h4 y my).imp (Zhe hk) id⟩,h5,h6⟩
theorem Zdl.add (h:Zdl base w1 Ls k ds v w) (hk:k<=k') {xs d:List Value}{Lp l:List Nat}{t:Zs}(hr:Yg.reps w xs ds Lp) (hs:∀y∈Lp,y∈(Ls.take k).flatten\/w1.heap.size<=y) (u:Yg.rep w d t l) (hO:Own w base (v.ownBlock.toList++(Lp++l))) (hl:∀y∈l,y∈(Ls.take k').flatten\/w1.heap.size<=y)
  (f:w'.ownsV base 167 2 v' (ds.length+1) (xs++d)) (c:w.grownBy w' v.ownBlock) (i:∀g,v'.ownBlock=some g->v.ownBlock=some g\/w.heap.size<=g):Zdl base w1 Ls k' (ds++[t]) v' w':=by
 have x:=hO.lt
 have z:=AI.1 hO.nodup
 have j:∀y∈Lp++l,w'.heap[y]?=w.heap[y]?:=fun y my=>c.block y (x y (by simp at my ⊢;exact .inr my)) (fun e=>z.2.2 y (by simp [<-e]) y my rfl)
 have o:Yg.reps w' (xs++d) (ds++[t]) (Lp++l):=QJ (Zc2 hr (ZcU u)) j
 have p:Own w' base (Lp++l):=(hO.sub (AL _ _)).keep j
 have hv:=ZqC f
 refine ⟨⟨xs++d,Lp++l,by rw [AP];exact f,o,⟨AI.2 ⟨hv.nodup,p.nodup,fun a ma b mb e=>?_⟩,fun b mb=>?_,fun b mb=>?_⟩,fun y my=>?_⟩,fun g hg=>?_,?_⟩
 .subst e
  have ha:v'.ownBlock=some a:=by simpa using ma
  rcases i a ha with h1|h1
  .exact z.2.2 a (by simp [h1]) a mb rfl
  .have:=x a (by simp at mb ⊢;exact .inr mb)
   omega
 .rcases AG.1 mb with m|m
  .exact hv.ge b m
  .exact p.ge b m
 .rcases AG.1 mb with m|m
  .exact hv.plain b m
  .exact p.plain b m
 .rcases AG.1 my with m|m
  .exact (hs y m).imp (Zhe hk) id
  .exact hl y m
 .rcases i g hg with h1|h1
  .exact h.own g h1
  .exact AF h.below.size h1
 .exact h.below.trans ⟨c.os,c.tape,c.output,c.size,fun q hq=>c.block q (AK hq h.below.size) (fun e=>by have:=h.own q e.symm;omega)⟩
theorem Zdl.done {W:World}(h:Zdl W.heap.size w1 Ls k ds v w) (hb:Below W.heap.size W w1):Zfy Yg 167 W v ds w:=by
 obtain ⟨⟨xs,Lp,h1,h2,h3,_⟩,_,h6⟩:=h
 exact ⟨⟨xs,Lp,h1,h2,h3⟩,hb.trans (h6.mono hb.size)⟩
end
end
section
open Go.RowKit
theorem Zl8 {α:Type}{c:Z9 α}{w:World}:∀{ds:List α}{xs:List Value}{L:List Nat},c.reps w xs ds L->∃(css:List (List Value)) (Ls:List (List Nat)),css.length=ds.length/\Ls.length=ds.length/\xs=css.flatten/\L=Ls.flatten/\∀(i:Nat) (d:α) (c1:List Value) (l1:List Nat),ds[i]?=some d->css[i]?=some c1->Ls[i]?=some l1->c.rep w c1 d l1
 | [],_,_,⟨h1,h2⟩=>⟨[],[],rfl,rfl,h1,h2,yG⟩
 |d::ds,_,_,⟨c1,c2,L1,L2,rfl,rfl,h1,h2⟩=>by
  obtain ⟨css,Ls,a1,a2,rfl,rfl,a5⟩:=Zl8 h2
  refine ⟨c1::css,L1::Ls,by simp [a1],by simp [a2],yG,yG,fun i e u l hd hc hl=>?_⟩
  cases i with
  |zero=>simp at hd hc hl;subst hd hc hl;exact h1
  |succ i=>exact a5 i e u l (by simpa using hd) (by simpa using hc) (by simpa using hl)
theorem Ztp {α:Type}{m:Nat}:∀{css:List (List α)}{i j:Nat}{c1:List α}{u:α},(∀x∈css,x.length=m)->css[i]?=some c1->c1[j]?=some u->css.flatten[i*m+j]?=some u
 | [],i,_,_,_,_,h,_=>by simp at h
 |c::css,0,j,c1,u,hs,h,hu=>by
  simp at h;subst h
  rw [AY,Nat.zero_mul,Nat.zero_add,List.getElem?_append_left (AM.1 hu).1]
  exact hu
 |c::css,i+1,j,c1,u,hs,h,hu=>by
  have hc:=hs c yG
  have:=Ztp (css:=css) (i:=i) (fun x mx=>hs x (by simp [mx])) (by simpa using h) hu
  rw [AY,List.getElem?_append_right (by rw [hc,Nat.add_mul];omega),hc,show (i+1)*m+j - m=i*m+j by rw [Nat.add_mul];omega]
  exact this
structure ZEj {α:Type}(c:Z9 α) (w:World) (A:Option Addr) (ds:List α) (L:List Nat) (css:List (List Value)) (Ls:List (List Nat)):Prop where
 cl:css.length=ds.length
 ll:Ls.length=ds.length
 el:∀(i:Nat) (d:α) (c1:List Value) (l1:List Nat),ds[i]?=some d->css[i]?=some c1->Ls[i]?=some l1->c.rep w c1 d l1
 sub:Ls.flatten.Sublist L
 at_:∀(i:Nat) (c1:List Value),css[i]?=some c1->∃b off,A=some ⟨b,off,none⟩/\b∈L/\∀j u,c1[j]?=some u->w.cell? ⟨b,off+(i*c.size+j),none⟩=some u
theorem Sli.parts {α:Type}{c:Z9 α}{w:World}{A:Option Addr}{ds:List α}{L:List Nat}(h:Sli c w A ds L):∃css Ls,ZEj c w A ds L css Ls:=by
 obtain ⟨xs,L0,L1,rfl,h1,h2⟩:=h
 obtain ⟨css,Ls,a1,a2,rfl,rfl,a5⟩:=Zl8 h2
 refine ⟨css,Ls,a1,a2,a5,AL _ _,fun i c1 hc=>?_⟩
 have hi:i<ds.length:=by rw [<-a1];exact (AM.1 hc).1
 obtain ⟨b,off,hA,hL,a⟩:=h1.at_ yE
 have hs:∀x∈css,x.length=c.size:=fun x mx=>by
  obtain ⟨j,hj⟩:=List.mem_iff_getElem?.1 mx
  have hjl:=(AM.1 hj).1
  exact c.len (a5 j ds[j] x Ls[j] (AH yE) hj (AH yE))
 exact ⟨b,off,hA,by simp [hL],fun j u hu=>a _ u (Ztp hs hc hu)⟩
theorem ZeS {Ls:List (List Nat)}{k:Nat}{l:List Nat}(h:Ls[k]?=some l):(Ls.take (k+1)).flatten=(Ls.take k).flatten++l:=by
 rw [AN,h];simp
theorem Zr0 {Ls:List (List Nat)}(k:Nat):(Ls.take k).flatten.Sublist Ls.flatten:=by
 conv=>rhs;rw [<-List.take_append_drop k Ls,List.flatten_append]
 exact List.sublist_append_left _ _
section
variable {α:Type} {c:Z9 α} {E:TypeId} {W w1 w w':World} {LA:List Nat} {Ls:List (List Nat)} {M:List α} {p:α->Bool} {k:Nat} {v v':Value} {x:α} {l:List Nat}
end
section
variable {β:Type} {c:Z9 β} {E:TypeId} {W w1 w w':World} {LA:List Nat} {Ls:List (List Nat)} {ds:List β} {k:Nat} {v v':Value} {y:β} {l l':List Nat}
end
end
section
open Go.RowKit
theorem ZlD:(prog.info? 167).map (fun i=>(i.zero,i.size,i.bytes))=some (some (.agg #[.slice none 0 0,.slice none 0 0]),2,48):=yO
theorem Zur:(prog.info? 83).map (fun i=>(i.zero,i.size,i.bytes))=some (some (.agg #[.string ⟨#[]⟩,.slice none 0 0]),2,40):=yO
theorem ZpF {B:Nat}{w0 w w':World}{o:Option Nat}(h:Below B w0 w) (g:w.grownBy w' o) (hB:B<=w.heap.size) (ho:∀q,o=some q->B<=q):Below B w0 w':=
 ⟨g.os.trans h.os,g.tape.trans h.tape,g.output.trans h.output,AF h.size g.size,fun q hq=>(g.block q (AK hq hB) (fun e=>by have:=ho q e.symm;omega)).trans (h.block q hq)⟩
theorem Own.permT {w:World}{base:Nat}{L M:List Nat}(h:Own w base L) (p:L.Perm M):Own w base M:=
 ⟨p.nodup_iff.1 h.nodup,fun b m=>h.ge b (p.mem_iff.2 m),fun b m=>h.plain b (p.mem_iff.2 m)⟩
theorem Zoa {P:Program}{j:Array Oper}{o:Oper}{a:Act}{K:Act->World->Prop}{Q:Exit->Act->World->Prop}{E:Prop}{w0:World}(l:o.guard=none) (s x:Operand) (t:TypeId)
  (ho:o.op=.call { callee:=.builtin .append,args:=#[s,x],argTypes:=#[t,t] })
  (e:TypeId) (z:Value) (size c:Nat) (ht:P.underlying t=some (.slice e)) (hi:(P.info? e).map (fun i=>(i.zero,i.size,i.bytes))=some (some z,size,c)) (m:z.cells.size=size) (p:0<size)
  (base:Nat) (v:Value) (n:Nat) (xs b:List Value) (hs:a.eval s=v) (hx:a.eval x=.slice (some ⟨w0.heap.size,0,none⟩) 1 1) (k:w0.ownsV base e size v n xs)
  (hl:b.length=size) (h1:∀u∈b,u.oneCell'=true) (q:n+1<=9223372036854775807) (d:(n+1)*c<=140737488355328) (f:base<=w0.heap.size)
  (h:∀v' w',w'.ownsV base e size v' (n+1) (xs++b)->w0.grownBy w' v.ownBlock->(∀g,v'.ownBlock=some g->v.ownBlock=some g\/w0.heap.size<=g)->K (a.put o.dst v') w'):
  if Region.wanted o (yielded j a.tmps)=true then Oper.wp P o a (w0.alloc (.cells b.toArray e)) K Q else E:=by
 have hw:Region.wanted o (yielded j a.tmps)=true:=by simp [Region.wanted,l]
 rw [if_pos hw]
 exact Zq3 s x t ho e z size c ht hi m p base v n xs b hs hx k hl h1 q d f _ (.inl rfl) h
theorem Zfy.laterT {α:Type}{c:Z9 α}{E:TypeId}{W w w':World}{v:Value}{ds:List α}(h:Zfy c E W v ds w) (hb:Below w.heap.size w w'):Zfy c E W v ds w':=by
 obtain ⟨⟨xs,L,h1,h2,h3⟩,h4⟩:=h
 have a:=h3.lt
 exact ⟨⟨xs,L,Zdu h1 hb,QJ h2 (fun b mb=>hb.block b (a b (by simp [mb]))),h3.keep (fun b mb=>hb.block b (a b mb))⟩,h4.trans (hb.mono h4.size)⟩
theorem Zwh (w:World):Zfy Yg 167 w (.slice (some ⟨w.heap.size,0,none⟩) 1 1) [ZjK] (w.alloc (.cells #[.slice none 0 0,.slice none 0 0] 167)):=by
 have hn:=heap_alloc_new w (.cells #[.slice none 0 0,.slice none 0 0] 167)
 refine ⟨⟨[.slice none 0 0,.slice none 0 0],[],⟨rfl,.inr ⟨w.heap.size,0,1,_,rfl,AE _,hn,AE _,by unfold maxLen;omega,by simp [Yg],by simp [Yg]⟩⟩,?_,?_⟩,(Below.refl _ w).alloc (AE _) _⟩
 .exact ZcU ⟨none,0,[],none,0,[],rfl,rfl,AE _,by unfold maxLen;omega,Sli.nil _ _,AE _,by unfold maxLen;omega,Sli.nil _ _⟩
 .exact ⟨by simp [Value.ownBlock],by simp [Value.ownBlock],fun b mb=>by simp [Value.ownBlock]at mb;subst mb;exact ⟨_,_,hn⟩⟩
theorem ZwE {l:List Zf}{k:Nat}{x:Zf}{F:List Zk}(h:l[k]?=some x):Yn (l.take (k+1)) F=Zfa x F (Yn (l.take k) F):=by
 rw [AN,h];exact Zdx _ _ _
theorem Zj7 {ts:List Zs}{j:Nat}{t:Zs}{x:Zf}{F:List Zk}(h:ts[j]?=some t):(ts.take (j+1)).flatMap (QV x F)=(ts.take j).flatMap (QV x F)++QV x F t:=by
 rw [AN,h,List.flatMap_append];simp
theorem ZtH {α β:Type}{F:List α}{q:Nat}{f:α}{g:α->Option β}(h:F[q]?=some f):(F.take (q+1)).filterMap g=(F.take q).filterMap g++(g f).toList:=by
 rw [AN,h,List.filterMap_append]
 cases hg:g f<;>simp [hg]
theorem Zdl.taken {base:Nat}{w1 w:World}{LA:List Nat}{Ls:List (List Nat)}{k:Nat}{v:Value}{l Lp:List Nat}(hO:Own w1 base LA) (hs:Ls.flatten.Sublist LA) (hl:Ls[k]?=some l) (hb:Below w1.heap.size w1 w) (hv:Own w base (v.ownBlock.toList++Lp)) (o:∀y∈Lp,y∈(Ls.take k).flatten\/w1.heap.size<=y) (p:∀g,v.ownBlock=some g->w1.heap.size<=g):Own w base (v.ownBlock.toList++(Lp++l)):=by
 have c:((Ls.take (k+1)).flatten).Sublist LA:=(Zr0 _).trans hs
 rw [ZeS hl]at c
 have i:=hO.sub c
 have q:=AI.1 i.nodup
 have j:Own w1 base l:=i.sub (AL _ _)
 have d:=j.lt
 have f:Own w base l:=j.keep (fun b mb=>hb.block b (d b mb))
 rw [<-AC]
 refine ⟨AI.2 ⟨hv.nodup,f.nodup,fun a ma b mb e=>?_⟩,fun b mb=>?_,fun b mb=>?_⟩
 .subst e
  rcases AG.1 ma with m|m
  .have:=p a (by simpa using m);have:=d a mb;omega
  .rcases o a m with m|m
   .exact q.2.2 a m a mb rfl
   .have:=d a mb;omega
 .rcases AG.1 mb with m|m
  .exact hv.ge b m
  .exact f.ge b m
 .rcases AG.1 mb with m|m
  .exact hv.plain b m
  .exact f.plain b m
theorem Zfy.snocT {α:Type}{c:Z9 α}{E:TypeId}{W w2 w3:World}{v v':Value}{ds:List α}{x:α}{xs f:List Value}{L l:List Nat}(hB:Below W.heap.size W w2) (hr:c.reps w2 xs ds L) (o:c.rep w2 f x l) (hO:Own w2 W.heap.size (v.ownBlock.toList++(L++l))) (i:w3.ownsV W.heap.size E c.size v' (ds.length+1) (xs++f)) (d:w2.grownBy w3 v.ownBlock) (p:∀g,v'.ownBlock=some g->v.ownBlock=some g\/w2.heap.size<=g):Zfy c E W v' (ds++[x]) w3:=by
 have t:=hO.lt
 have u:=AI.1 hO.nodup
 have j:∀y∈L++l,w3.heap[y]?=w2.heap[y]?:=fun y my=>d.block y (t y (by simp at my ⊢;exact .inr my)) (fun e=>u.2.2 y (by simp [<-e]) y my rfl)
 have k:Own w3 W.heap.size (L++l):=(hO.sub (AL _ _)).keep j
 have hv:=ZqC i
 refine ⟨⟨xs++f,L++l,by rw [AP];exact i,QJ (Zc2 hr (ZcU o)) j,⟨AI.2 ⟨hv.nodup,k.nodup,fun a ma b mb e=>?_⟩,fun b mb=>?_,fun b mb=>?_⟩⟩,?_⟩
 .subst e
  have ha:v'.ownBlock=some a:=by simpa using ma
  rcases p a ha with h1|h1
  .exact u.2.2 a (by simp [h1]) a mb rfl
  .have:=t a (by simp at mb ⊢;exact .inr mb)
   omega
 .rcases AG.1 mb with m|m
  .exact hv.ge b m
  .exact k.ge b m
 .rcases AG.1 mb with m|m
  .exact hv.plain b m
  .exact k.plain b m
 .exact hB.trans ⟨d.os,d.tape,d.output,d.size,fun q hq=>d.block q (AK hq hB.size) (fun e=>by have:=hO.ge q (by simp [<-e]);omega)⟩
theorem ZsT {l:List Zf}{F:List Zk}(hl:l.length<=4) (hF:F.length<=24) (hA:∀f∈F,f.args.length<=3) (w:World) (hj:J0 w) (A:Option Addr) (c:Nat) (L:List Nat) (hR:(Yb X6).rep w [.slice A l.length c] l L) (B:Option Addr) (d:Nat) (K:List Nat) (hB:(Yb Yh).rep w [.slice B F.length d] F K):
  Calls prog 181 #[.slice A l.length c,.slice B F.length d] w (Zbg Yg 167 w (Yn l F)):=by
 obtain ⟨al,bg,am⟩:=ZZ hR
 obtain ⟨an,bh,ao⟩:=ZZ hB
 obtain ⟨n,hn⟩:∃n,l.length=n:=⟨_,rfl⟩
 obtain ⟨m,hm⟩:∃m,F.length=m:=⟨_,rfl⟩
 have HN:Hid (l.length=n):=hn
 have HM:Hid (F.length=m):=hm
 have HL4:Hid (l.length<=4):=hl
 have HF24:Hid (F.length<=24):=hF
 rw [hm]at hB
 rw [hn]at hl al ⊢
 rw [hm]at hF an ⊢
 have HR:Hid (Sli X6 w A l L):=am
 have HB:=Lib.hid hB
 have HSB:Hid (Sli Yh w B F K):=ao
 have HJ:=Lib.hid hj
 have HA:Hid (∀f∈F,f.args.length<=3):=hA
 clear hR hB am ao hj hn hm hA bg bh al an
 go_enter func181,ntmps181
 go_wp2
 have H:Hid (Zfy Yg 167 w (.slice (some ⟨w.heap.size,0,none⟩) 1 1) (Yn (l.take 0) F) (w.alloc (.cells #[.slice none 0 0,.slice none 0 0] 167))):=Zwh w
 go_loopw [5,19] (fun v i wr=>∃(k:Nat),k<=n/\i=.int .i64 k/\Hid (Zfy Yg 167 w v (Yn (l.take k) F) wr)) (fun _ i _=>n - (intOf i).toNat)
 case atStart=>exact ⟨0,AQ _,rfl,H⟩
 case round=>
  clear H
  obtain ⟨k,hk,rfl,HV⟩:=hrel
  by_cases hlt:k<n
  .have ap:k<l.length:=by have:=HN.out;omega
   obtain ⟨bc,oc,cs,Lk,rfl,bi,_,z,hc⟩:=HR.out.at_ ap
   obtain ⟨x,hx⟩:∃x,l[k]=x:=⟨_,rfl⟩
   have HX:Hid (l[k]?=some x):=by rw [AH ap,hx];rfl
   rw [hx]at z
   have HXR:=Lib.hid z
   obtain ⟨Ap,cp,Lp,e1,e2,t0,t1,t2,np,mp,sp⟩:=z
   subst e1
   have P:bc<w.heap.size:=HR.out.lt _ bi
   obtain ⟨ts,Y⟩:∃ts,Yn (l.take k) F=ts:=⟨_,rfl⟩
   have HTS:Hid (Yn (l.take k) F=ts):=Y
   rw [Y]at HV
   obtain ⟨Av,cv,e3⟩:=HV.out.shape
   subst e3
   obtain ⟨nt,Z⟩:∃nt,ts.length=nt:=⟨_,rfl⟩
   have HNT:Hid (ts.length=nt):=Z
   have hnt2:nt<=331776:=by rw [<-Z,<-Y];exact Ziv F HF24.out _ (by have:=HL4.out;simp;omega)
   rw [Z]at HV ⊢
   have HBW:Hid (Below w.heap.size w wr):=HV.out.below
   have q0:wr.cell? ⟨bc,oc+k*5,none⟩=some (.int .i64 x.kind):=(HBW.out.cell (p:=⟨bc,oc+(k*5+0),none⟩) P).trans (hc 0 _ rfl)
   have q1:wr.cell? ⟨bc,oc+k*5+1,none⟩=some (.string x.pattern.rel):=(HBW.out.cell (p:=⟨bc,oc+(k*5+1),none⟩) P).trans (hc 1 _ rfl)
   have q2:wr.cell? ⟨bc,oc+k*5+2,none⟩=some (.slice Ap x.pattern.args.length cp):=(HBW.out.cell (p:=⟨bc,oc+(k*5+2),none⟩) P).trans (hc 2 _ rfl)
   have q3:wr.cell? ⟨bc,oc+k*5+3,none⟩=some (.string x.left):=(HBW.out.cell (p:=⟨bc,oc+(k*5+3),none⟩) P).trans (hc 3 _ rfl)
   have q4:wr.cell? ⟨bc,oc+k*5+4,none⟩=some (.string x.right):=(HBW.out.cell (p:=⟨bc,oc+(k*5+4),none⟩) P).trans (hc 4 _ rfl)
   have HPR:Hid (XP.rep w [.string x.pattern.rel,.slice Ap x.pattern.args.length cp] x.pattern Lp):=⟨Ap,cp,Lp,rfl,rfl,t0,np,mp,sp⟩
   clear hc hx Y Z np mp sp t0 t1 t2
   go_wp2
   obtain ⟨w1,I⟩:∃w1,w1=wr.alloc (.cells #[.int .i64 x.kind,.string x.pattern.rel,.slice Ap x.pattern.args.length cp,.string x.left,.string x.right] 107):=⟨_,rfl⟩
   have BA:Hid (Below wr.heap.size wr w1):=by rw [I];exact (Below.refl _ wr).alloc (AE _) _
   have HSZ:Hid (w1.heap.size=wr.heap.size+1):=by rw [I];show _=_;simp
   have K1:Hid (Blk w1 wr.heap.size 107 #[.int .i64 x.kind,.string x.pattern.rel,.slice Ap x.pattern.args.length cp,.string x.left,.string x.right]):=by rw [I];exact Blk.new _ _ _
   obtain ⟨g,hg⟩:∃g,g=wr.heap.size:=⟨_,rfl⟩
   rw [<-hg]at K1
   have HG:Hid (g=wr.heap.size):=hg
   rw [<-I,<-hg]
   clear I hg q0 q1 q2 q3 q4
   have BW1:Hid (Below w.heap.size w w1):=HBW.out.trans (BA.out.mono HBW.out.size)
   have HV1:=Lib.hid (HV.out.laterT BA.out)
   obtain ⟨LA,hG⟩:=HV1.out.got
   obtain ⟨bj,bk,hS⟩:=ZZ hG.rep
   obtain ⟨css,Ls,hP⟩:=hS.parts
   have HP:=Lib.hid hP
   have HOA:Hid (Own w1 w.heap.size LA):=hG.own
   clear hG hS hP bj bk HV1 HV
   have H:Hid (Zdl w.heap.size w1 Ls 0 ((ts.take 0).flatMap (QV x F)) (.slice none 0 0) w1):=Zdl.start
   go_loopw [8,25] (fun v i wq=>∃(j:Nat),j<=nt/\i=.int .i64 j/\Hid (Zdl w.heap.size w1 Ls j ((ts.take j).flatMap (QV x F)) v wq)) (fun _ i _=>nt - (intOf i).toNat)
   case atStart=>exact ⟨0,AQ _,rfl,H⟩
   case round=>
    clear H
    obtain ⟨j,hj,rfl,HQ⟩:=hrel
    by_cases hjt:j<nt
    .obtain ⟨t,ht⟩:∃t,ts[j]?=some t:=⟨_,AH (by have:=HNT.out;omega)⟩
     obtain ⟨c1,Q⟩:∃c1,css[j]?=some c1:=⟨_,AH (by have:=HP.out.cl;have:=HNT.out;omega)⟩
     obtain ⟨l1,aa⟩:∃l1,Ls[j]?=some l1:=⟨_,AH (by have:=HP.out.ll;have:=HNT.out;omega)⟩
     obtain ⟨bt,ot,rfl,bl,ae⟩:=HP.out.at_ j c1 Q
     have HTR:=Lib.hid (HP.out.el j t c1 l1 ht Q aa)
     obtain ⟨A1,d1,L1,A2,d2,L2,e1,e2,n1,m1,s1,n2,m2,s2⟩:=HTR.out
     subst e1
     have R:bt<w1.heap.size:=HOA.out.lt bt bl
     have HT:Hid (ts[j]?=some t):=ht
     have HL1:Hid (Ls[j]?=some l1):=aa
     have ac:Hid (∀y∈l1,y∈LA):=by
      intro y m
      obtain ⟨a1,a2⟩:=AM.1 aa
      exact HP.out.sub.subset (AO.2 ⟨l1,a2 ▸ List.getElem_mem a1,m⟩)
     have HTK:Hid (Zy0 F t):=by
      have h:=Zkd F (l.take k) t (by rw [HTS.out];exact AZ ht)
      exact h.s (by have:=HL4.out;simp;omega) HA.out
     obtain ⟨tf,M⟩:∃n,t.facts.length=n:=⟨_,rfl⟩
     obtain ⟨tb,N⟩:∃n,t.binding.length=n:=⟨_,rfl⟩
     have HTF:Hid (t.facts.length=tf):=M
     have HTB:Hid (t.binding.length=tb):=N
     rw [M,N]at HTR
     have r0:wr.cell? ⟨bt,ot+j*2,none⟩=some (.slice A1 tf d1):=(HQ.out.below.cell (p:=⟨bt,ot+(j*2+0),none⟩) R).trans ((ae 0 _ rfl).trans (by rw [M]))
     have r1:wr.cell? ⟨bt,ot+j*2+1,none⟩=some (.slice A2 tb d2):=(HQ.out.below.cell (p:=⟨bt,ot+(j*2+1),none⟩) R).trans ((ae 1 _ rfl).trans (by rw [N]))
     have HQK:=Lib.hid (K1.out.later HQ.out.below)
     have HSZ2:Hid (g<wr.heap.size):=by have:=HG.out;have:=HSZ.out;have:=HQ.out.below.size;show _<_;omega
     have k0:∀o,(wr.alloc o).cell? ⟨g,0,none⟩=some (.int .i64 x.kind):=fun o=>(HQK.out.later ((Below.refl _ wr).alloc (AE _) o)).at (i:=0) rfl
     have k1:∀o,(wr.alloc o).cell? ⟨g,1,none⟩=some (.string x.pattern.rel):=fun o=>(HQK.out.later ((Below.refl _ wr).alloc (AE _) o)).at (i:=1) rfl
     have k2:∀o,(wr.alloc o).cell? ⟨g,2,none⟩=some (.slice Ap x.pattern.args.length cp):=fun o=>(HQK.out.later ((Below.refl _ wr).alloc (AE _) o)).at (i:=2) rfl
     have k3:∀o,(wr.alloc o).cell? ⟨g,3,none⟩=some (.string x.left):=fun o=>(HQK.out.later ((Below.refl _ wr).alloc (AE _) o)).at (i:=3) rfl
     have k4:∀o,(wr.alloc o).cell? ⟨g,4,none⟩=some (.string x.right):=fun o=>(HQK.out.later ((Below.refl _ wr).alloc (AE _) o)).at (i:=4) rfl
     have B3:Hid (∀o,Below w.heap.size w (wr.alloc o)):=fun o=>BW1.out.trans (HQ.out.below.mono BW1.out.size |>.trans (((Below.refl _ wr).alloc (AE _) o).mono (AF BW1.out.size HQ.out.below.size)))
     have BQ:Hid (∀o,Below w1.heap.size w1 (wr.alloc o)):=fun o=>HQ.out.below.trans (((Below.refl _ wr).alloc (AE _) o).mono HQ.out.below.size)
     have HFR1:Hid ((Yb Yh).rep w1 [.slice A1 tf d1] t.facts L1):=⟨A1,d1,by rw [M],n1,m1,s1⟩
     have HBR1:Hid ((Yb XA).rep w1 [.slice A2 tb d2] t.binding L2):=⟨A2,d2,by rw [N],n2,m2,s2⟩
     have HFR:Hid (∀o,(Yb Yh).rep (wr.alloc o) [.slice A1 tf d1] t.facts L1):=fun o=>⟨A1,d1,by rw [M],n1,m1,s1.below (BQ.out o)⟩
     have HBR:Hid (∀o,(Yb XA).rep (wr.alloc o) [.slice A2 tb d2] t.binding L2):=fun o=>⟨A2,d2,by rw [N],n2,m2,s2.below (BQ.out o)⟩
     have HLE:Hid (((ts.take j).flatMap (QV x F)).length<=7962624):=by
      have h:=Zju x F HF24.out (ts.take j)
      have:(ts.take j).length<=331776:=by simp;omega
      unfold Zfa at h
      show _<=_
      omega
     clear ae ht Q aa M N n1 m1 s1 n2 m2 s2 R
     by_cases ab:x.kind=1
     .go_wp2
      have HK1:Hid (x.kind=1):=ab
      clear ab
      obtain ⟨w3,O⟩:∃w3,w3=wr.alloc (.cells #[.slice A1 tf d1,.slice A2 tb d2] 167):=⟨_,rfl⟩
      obtain ⟨gt,S⟩:∃gt,gt=wr.heap.size:=⟨_,rfl⟩
      have HSZ3:Hid (w3.heap.size=gt+1):=by rw [O,S];show _=_;simp
      have K2:Hid (Blk w3 gt 167 #[.slice A1 tf d1,.slice A2 tb d2]):=by rw [O,S];exact Blk.new _ _ _
      have B13:Hid (Below w1.heap.size w1 w3):=by rw [O];exact BQ.out _
      have HG1:Hid (w1.heap.size<=gt):=by rw [S];exact HQ.out.below.size
      have HGG:Hid (g<w1.heap.size):=by have:=HG.out;have:=HSZ.out;show _<_;omega
      obtain ⟨D,hD⟩:∃D,D=(ts.take j).flatMap (QV x F):=⟨_,rfl⟩
      have HD:Hid (D=(ts.take j).flatMap (QV x F)):=hD
      have H:Hid (Zdl w.heap.size w1 Ls j (D++(F.take 0).filterMap fun f=>(X1 x.pattern f t.binding).map fun b=>({ facts:=t.facts++[f],binding:=b }:Zs)) u8 w3/\Blk w3 gt 167 #[.slice A1 tf d1,.slice A2 tb d2]/\∀y,u8.ownBlock=some y->y≠gt):=by
       refine ⟨?_,K2.out,fun y hy e=>?_⟩
       .rw [hD,O,List.take_zero,List.filterMap_nil,AB]
        exact HQ.out.later ((Below.refl _ wr).alloc (AE _) _)
       .obtain ⟨⟨xs,Lp,ho,_⟩,_⟩:=HQ.out
        have:=Zip ho y (by simp [hy])
        omega
      have HDL:Hid (D.length<=7962624):=by rw [hD];exact HLE.out
      rw [<-O,<-S]
      clear O S hD k0 k1 k2 k3 k4 r0 r1 HQ HQK HSZ2 B3 BQ HFR HBR HLE
      go_loopw [8,43] (fun v i wq=>∃(q:Nat),q<=m/\i=.int .i64 q/\Hid (Zdl w.heap.size w1 Ls j (D++(F.take q).filterMap fun f=>(X1 x.pattern f t.binding).map fun b=>({ facts:=t.facts++[f],binding:=b }:Zs)) v wq/\Blk wq gt 167 #[.slice A1 tf d1,.slice A2 tb d2]/\∀y,v.ownBlock=some y->y≠gt)) (fun _ i _=>m - (intOf i).toNat)
      case atStart=>exact ⟨0,AQ _,rfl,H⟩
      case round=>
       clear H
       obtain ⟨q,hq,rfl,HI⟩:=hrel
       by_cases hqm:q<m
       .have aq:q<F.length:=by have:=HM.out;omega
        obtain ⟨bf,of,cs,Lf,rfl,bm,_,z,hc⟩:=HSB.out.at_ aq
        obtain ⟨f,hf⟩:∃f,F[q]=f:=⟨_,rfl⟩
        have HFQ:Hid (F[q]?=some f):=by rw [AH aq,hf];rfl
        rw [hf]at z
        have HFE:=Lib.hid z
        obtain ⟨Af,cf,Lf2,e1,e2,t0,nf,mf,sf⟩:=z
        subst e1
        have ar:bf<w.heap.size:=HSB.out.lt _ bm
        have BWQ:Hid (Below w.heap.size w wr):=BW1.out.trans (HI.out.1.below.mono BW1.out.size)
        have HGT:Hid (gt<wr.heap.size):=HI.out.2.1.lt
        have s0:wr.cell? ⟨bf,of+q*2,none⟩=some (.string f.rel):=(BWQ.out.cell (p:=⟨bf,of+(q*2+0),none⟩) ar).trans (hc 0 _ rfl)
        have s1:wr.cell? ⟨bf,of+q*2+1,none⟩=some (.slice Af f.args.length cf):=(BWQ.out.cell (p:=⟨bf,of+(q*2+1),none⟩) ar).trans (hc 1 _ rfl)
        have BO:Hid (∀o,Below wr.heap.size wr (wr.alloc o)):=fun o=>(Below.refl _ wr).alloc (AE _) o
        have BWO:Hid (∀o,Below w.heap.size w (wr.alloc o)):=fun o=>BWQ.out.trans ((BO.out o).mono BWQ.out.size)
        have B1O:Hid (∀o,Below w1.heap.size w1 (wr.alloc o)):=fun o=>HI.out.1.below.trans ((BO.out o).mono HI.out.1.below.size)
        have KG:Hid (∀o,Blk (wr.alloc o) g 107 #[.int .i64 x.kind,.string x.pattern.rel,.slice Ap x.pattern.args.length cp,.string x.left,.string x.right]):=fun o=>K1.out.later (B1O.out o)
        have KT:Hid (∀o,Blk (wr.alloc o) gt 167 #[.slice A1 tf d1,.slice A2 tb d2]):=fun o=>HI.out.2.1.later (BO.out o)
        have k1:∀o,(wr.alloc o).cell? ⟨g,1,none⟩=some (.string x.pattern.rel):=fun o=>(KG.out o).at (i:=1) rfl
        have k2:∀o,(wr.alloc o).cell? ⟨g,2,none⟩=some (.slice Ap x.pattern.args.length cp):=fun o=>(KG.out o).at (i:=2) rfl
        have k3:∀o,(wr.alloc o).cell? ⟨gt,1,none⟩=some (.slice A2 tb d2):=fun o=>(KT.out o).at (i:=1) rfl
        have HL1s:Hid (∀y∈l1,y<w1.heap.size):=fun y m=>HOA.out.lt y (ac.out y m)
        clear hc hf t0 nf mf sf
        obtain ⟨E,hE⟩:∃E,E=D++(F.take q).filterMap fun f=>(X1 x.pattern f t.binding).map fun b=>({ facts:=t.facts++[f],binding:=b }:Zs):=⟨_,rfl⟩
        have HE:Hid (E=D++(F.take q).filterMap fun f=>(X1 x.pattern f t.binding).map fun b=>({ facts:=t.facts++[f],binding:=b }:Zs)):=hE
        have hEL:E.length<=8000000:=by
         have h1:=HDL.out
         have h2:=List.length_filterMap_le (fun f=>(X1 x.pattern f t.binding).map fun b=>({ facts:=t.facts++[f],binding:=b }:Zs)) (F.take q)
         have h3:(F.take q).length<=q:=by simp;omega
         rw [hE,AP]
         omega
        rw [<-hE]at HI
        clear hE
        cases hm:X1 x.pattern f t.binding with
        |none=>
         have HC:Qt x.pattern f t.binding=some ([],false):=by rw [ZbL,hm];rfl
         go_wp2_with fail
         refine (Zm.givesSB (c:=XA) (g:=ZO) (t:=218) (ds:=[]) (b:=false) (Zd2 HC) ZfG (Zce hJ0 HJ.out (BWO.out _)) (vs:=[_,_,_]) ⟨ZeM ZlA (XP.keep HPR.out (Zo (BWO.out _) (fun y m=>XP.lt HPR.out y m))),ZeM QW (Yh.keep HFE.out (Zo (BWO.out _) (fun y m=>Yh.lt HFE.out y m))),ZlC ZfG _ ((Yb XA).keep HBR1.out (Zo (B1O.out _) (fun y m=>(Yb XA).lt HBR1.out y m))),trivial⟩).mono ?_
         rintro e w5 ⟨vb,rfl,G⟩
         have HQ5:=Lib.hid ((HI.out.1.later (BO.out _)).later G.below)
         have K5:=Lib.hid ((KT.out _).later G.below)
         clear G k1 k2 k3 s0 s1
         go_wp2
         refine ⟨⟨q+1,yE,yG,?_⟩,by simp [intOf];omega⟩
         show Zdl _ _ _ _ _ _ _/\_/\_
         refine ⟨?_,K5.out,HI.out.2.2⟩
         rw [ZtH HFQ.out]
         simp only[hm,Option.map_none,Option.toList_none,AB]
         rw [<-HE.out]
         exact HQ5.out
        |some b=>
         have HC:Qt x.pattern f t.binding=some (b,true):=by rw [ZbL,hm];rfl
         go_wp2_with fail
         refine (Zm.givesSB (c:=XA) (g:=ZO) (t:=218) (ds:=b) (b:=true) (Zd2 HC) ZfG (Zce hJ0 HJ.out (BWO.out _)) (vs:=[_,_,_]) ⟨ZeM ZlA (XP.keep HPR.out (Zo (BWO.out _) (fun y m=>XP.lt HPR.out y m))),ZeM QW (Yh.keep HFE.out (Zo (BWO.out _) (fun y m=>Yh.lt HFE.out y m))),ZlC ZfG _ ((Yb XA).keep HBR1.out (Zo (B1O.out _) (fun y m=>(Yb XA).lt HBR1.out y m))),trivial⟩).mono ?_
         rintro e w5 ⟨vb,rfl,G⟩
         obtain ⟨Ab,cb,eb⟩:=G.shape
         subst eb
         obtain ⟨Lb,au⟩:=G.got
         have HGb:=Lib.hid au
         have W5:Hid (Below wr.heap.size wr w5):=(BO.out _).trans (G.below.mono (BO.out _).size)
         have HQ5:=Lib.hid (HI.out.1.later W5.out)
         have KT5:=Lib.hid (HI.out.2.1.later W5.out)
         have KF5:Hid (Blk w5 wr.heap.size 83 #[.string f.rel,.slice Af f.args.length cf]):=Blk.later (Blk.new _ _ _) G.below
         have WW5:Hid (Below w.heap.size w w5):=BWQ.out.trans (W5.out.mono BWQ.out.size)
         have W15:Hid (Below w1.heap.size w1 w5):=HQ5.out.below
         have a0:w5.cell? ⟨gt,0,none⟩=some (.slice A1 tf d1):=KT5.out.at (i:=0) rfl
         have a1:w5.cell? ⟨wr.heap.size,0,none⟩=some (.string f.rel):=KF5.out.at (i:=0) rfl
         have a2:w5.cell? ⟨wr.heap.size,1,none⟩=some (.slice Af f.args.length cf):=KF5.out.at (i:=1) rfl
         have JD:Hid (J0 w5.drew):=Zce hJ0 HJ.out WW5.out.drew
         have FD:Hid ((Yb Yh).rep w5.drew [.slice A1 tf d1] t.facts L1):=(Yb Yh).keep HFR1.out (Zo W15.out.drew (fun y m=>(Yb Yh).lt HFR1.out y m))
         have HCF:Hid (Zaf t.facts=some t.facts):=Zeq _ (by have:=HTK.out.len;omega) (fun g mg=>by have:=HTK.out.args g mg;omega)
         have HCX:Hid (QA f=some f):=Za0 f (by have:=HA.out f (AZ HFQ.out);omega)
         obtain ⟨⟨av,Lp9,aw,ax,ay,ad⟩,az,_⟩:=HI.out.1
         have HO9:=Lib.hid aw
         have HR9:=Lib.hid (And.intro ax (And.intro ay ad))
         clear G au k1 k2 k3 s0 s1 HC aw ax ay ad az
         have htl:t.facts.length<=4:=HTK.out.len
         go_wp2_with fail
         go_region_held3 (fun W=>W.cell? ⟨gt,0,none⟩=some (.slice A1 tf d1)/\W.cell? ⟨wr.heap.size,0,none⟩=some (.string f.rel)/\W.cell? ⟨wr.heap.size,1,none⟩=some (.slice Af f.args.length cf)) (first|exact ⟨a0,a1,a2⟩|exact ⟨bn,bo,bp⟩|exact ⟨bq,br,bs⟩|exact ⟨bu _,bv _,bw _⟩|exact ⟨bx,bz,b0⟩|exact ⟨b1 _,b2 _,b3 _⟩|exact ⟨b4,b5,b6⟩) (first|(go_at_call 179;refine (Zm.givesS (c:=Yh) (g:=Zw) (t:=83) (ds:=t.facts) (Zgp HCF.out) QW JD.out (vs:=[_]) ⟨ZlC QW _ FD.out,trivial⟩).mono ?_;rintro e w6 ⟨v6,rfl,af⟩;obtain ⟨T,L6,a3,a4,a5⟩:=af.ex;have HE6:Hid (w6.ownsV w5.heap.size 83 Yh.size v6 t.facts.length T/\Yh.reps w6 T t.facts L6/\Own w6 w5.heap.size (v6.ownBlock.toList++L6)):=⟨a3,a4,a5⟩;have W6:Hid (Below w5.heap.size w5 w6):=(Below.refl _ w5).drew.trans af.below;have KT6:=Lib.hid (KT5.out.later W6.out);have KF6:=Lib.hid (KF5.out.later W6.out);have bn:w6.cell? ⟨gt,0,none⟩=some (.slice A1 tf d1):=KT6.out.at (i:=0) rfl;have bo:w6.cell? ⟨wr.heap.size,0,none⟩=some (.string f.rel):=KF6.out.at (i:=0) rfl;have bp:w6.cell? ⟨wr.heap.size,1,none⟩=some (.slice Af f.args.length cf):=KF6.out.at (i:=1) rfl;clear af a3 a4 a5)|(go_at_call 68;refine (Zm.givesX (c:=Yh) (g:=Zw) (x:=f) (ZcF HCX.out) QW (Zce hJ0 HJ.out (WW5.out.trans (W6.out.mono WW5.out.size))) (vs:=[_]) ⟨ZeM QW (Yh.keep HFE.out (Zo (WW5.out.trans (W6.out.mono WW5.out.size)) (fun y m=>Yh.lt HFE.out y m))),trivial⟩).mono ?_;rintro e w7 ⟨cs7,L7,rfl,ag,a6⟩;obtain ⟨A7,c7,M7,b7,b8,t7,n7,m7,s7⟩:=ag.rep;subst b7;have H7:=Lib.hid ag;have W7:Hid (Below w6.heap.size w6 w7):=a6;have KT7:=Lib.hid (KT6.out.later W7.out);have KF7:=Lib.hid (KF6.out.later W7.out);have bq:w7.cell? ⟨gt,0,none⟩=some (.slice A1 tf d1):=KT7.out.at (i:=0) rfl;have br:w7.cell? ⟨wr.heap.size,0,none⟩=some (.string f.rel):=KF7.out.at (i:=0) rfl;have bs:w7.cell? ⟨wr.heap.size,1,none⟩=some (.slice Af f.args.length cf):=KF7.out.at (i:=1) rfl;have bu:∀o,(w7.alloc o).cell? ⟨gt,0,none⟩=some (.slice A1 tf d1):=fun o=>(KT7.out.later ((Below.refl _ w7).alloc (AE _) o)).at (i:=0) rfl;have bv:∀o,(w7.alloc o).cell? ⟨wr.heap.size,0,none⟩=some (.string f.rel):=fun o=>(KF7.out.later ((Below.refl _ w7).alloc (AE _) o)).at (i:=0) rfl;have bw:∀o,(w7.alloc o).cell? ⟨wr.heap.size,1,none⟩=some (.slice Af f.args.length cf):=fun o=>(KF7.out.later ((Below.refl _ w7).alloc (AE _) o)).at (i:=1) rfl;have HO7:Hid (w7.ownsV w5.heap.size 83 Yh.size v6 t.facts.length T):=Zdu HE6.out.1 W7.out;have HR7:Hid (Yh.reps w7 T t.facts L6):=QJ HE6.out.2.1 (fun y m=>W7.out.block y (HE6.out.2.2.lt y (AR _ m)));have HW7:Hid (Own w7 w5.heap.size (v6.ownBlock.toList++(L6++L7))):=(by rw [<-AC];exact Own.append (HE6.out.2.2.keep (fun y m=>W7.out.block y (HE6.out.2.2.lt y m))) H7.out.own W6.out.size (fun y m=>HE6.out.2.2.lt y m));have W57:Hid (Below w5.heap.size w5 w7):=W6.out.trans (W7.out.mono W6.out.size);have HVG:Hid (∀y,v6.ownBlock=some y->w5.heap.size<=y):=Zxb HO7.out;clear ag a6 b8 t7 n7 m7 s7)|(refine Zoa rfl (.tmp 60) (.tmp 63) 46 rfl 83 _ 2 40 underlying46 Zur rfl yE w5.heap.size v6 t.facts.length T [_,_] rfl rfl HO7.out rfl (by intro u hu;simp only[AS,AT,or_false]at hu;rcases hu with rfl|rfl<;>rfl) yE yE W57.out.size ?_;intro v8 w8 J a U;obtain ⟨A8,c8,e8,_,_⟩:=Zav J;subst e8;have H8:Hid (Zfy Yh 83 w5 (.slice A8 (t.facts.length+1) c8) (t.facts++[f]) w8):=Zfy.snocT W57.out HR7.out H7.out.rep HW7.out J a U;have W08:Hid (Below wr.heap.size wr w8):=ZpF (W5.out.trans (W57.out.mono W5.out.size)) a (AF W5.out.size W57.out.size) (fun y hy=>AF W5.out.size (HVG.out y hy));have KT8:Hid (Blk w8 gt 167 #[.slice A1 tf d1,.slice A2 tb d2]):=(a.block _ KT7.out.lt (fun e=>(by have h1:=HVG.out _ e.symm;have h2:=KT5.out.lt;omega))).trans KT7.out;have KF8:Hid (Blk w8 wr.heap.size 83 #[.string f.rel,.slice Af f.args.length cf]):=(a.block _ KF7.out.lt (fun e=>(by have h1:=HVG.out _ e.symm;have h2:=KF5.out.lt;omega))).trans KF7.out;have GB8:Hid (∀y∈Lb,w8.heap[y]?=w5.heap[y]?):=(fun y m=>(a.block y (AK (HGb.out.own.lt y m) W57.out.size) (fun e=>(by have h1:=HVG.out _ e.symm;have h2:=HGb.out.own.lt y m;omega))).trans (W57.out.block y (HGb.out.own.lt y m)));have bx:w8.cell? ⟨gt,0,none⟩=some (.slice A1 tf d1):=KT8.out.at (i:=0) rfl;have bz:w8.cell? ⟨wr.heap.size,0,none⟩=some (.string f.rel):=KF8.out.at (i:=0) rfl;have b0:w8.cell? ⟨wr.heap.size,1,none⟩=some (.slice Af f.args.length cf):=KF8.out.at (i:=1) rfl;have b1:∀o,(w8.alloc o).cell? ⟨gt,0,none⟩=some (.slice A1 tf d1):=fun o=>(KT8.out.later ((Below.refl _ w8).alloc (AE _) o)).at (i:=0) rfl;have b2:∀o,(w8.alloc o).cell? ⟨wr.heap.size,0,none⟩=some (.string f.rel):=fun o=>(KF8.out.later ((Below.refl _ w8).alloc (AE _) o)).at (i:=0) rfl;have b3:∀o,(w8.alloc o).cell? ⟨wr.heap.size,1,none⟩=some (.slice Af f.args.length cf):=fun o=>(KF8.out.later ((Below.refl _ w8).alloc (AE _) o)).at (i:=1) rfl;have HS8:Hid (w.heap.size<=w8.heap.size):=AF BWQ.out.size W08.out.size;clear J a U)|(refine Zoa rfl (.tmp 57) (.tmp 67) 108 rfl 167 _ 2 48 underlying108 ZlD rfl yE w.heap.size u8 E.length av [_,_] rfl rfl (Zdu HO9.out W08.out) rfl (by intro u hu;simp only[AS,AT,or_false]at hu;rcases hu with rfl|rfl<;>rfl) yE yE HS8.out ?_;intro v9 w9 V C X;have KT9:Hid (Blk w9 gt 167 #[.slice A1 tf d1,.slice A2 tb d2]):=(C.block _ KT8.out.lt (fun e=>HI.out.2.2 gt e.symm rfl)).trans KT8.out;have KF9:Hid (Blk w9 wr.heap.size 83 #[.string f.rel,.slice Af f.args.length cf]):=(C.block _ KF8.out.lt (fun e=>(by have:=Zip HO9.out wr.heap.size (by rw [<-e];simp);omega))).trans KF8.out;have b4:w9.cell? ⟨gt,0,none⟩=some (.slice A1 tf d1):=KT9.out.at (i:=0) rfl;have b5:w9.cell? ⟨wr.heap.size,0,none⟩=some (.string f.rel):=KF9.out.at (i:=0) rfl;have b6:w9.cell? ⟨wr.heap.size,1,none⟩=some (.slice Af f.args.length cf):=KF9.out.at (i:=1) rfl;have H9:Hid (w9.ownsV w.heap.size 167 2 v9 (E.length+1) (av++[.slice A8 (t.facts.length+1) c8,.slice Ab b.length cb])/\w8.grownBy w9 u8.ownBlock/\∀g,v9.ownBlock=some g->u8.ownBlock=some g\/w8.heap.size<=g):=⟨V,C,X⟩;clear V C X))
         go_wp2
         refine ⟨⟨q+1,yE,yG,?_⟩,by simp [intOf];omega⟩
         show Zdl _ _ _ _ _ _ _/\_/\_
         rw [ZtH HFQ.out,<-AC,<-HE.out]
         simp only[hm,Option.map_some,Option.toList_some]
         have HQ8:=HI.out.1.later W08.out
         obtain ⟨L8,ah⟩:=H8.out.got
         have b9:∀y∈L8,w5.heap.size<=y:=ah.own.ge
         have a7:∀y∈Lb,wr.heap.size+1<=y/\y<w5.heap.size:=fun y m=>⟨by have:=HGb.out.own.ge y m;simpa using this,HGb.out.own.lt y m⟩
         have h9:∀y∈u8.ownBlock.toList++Lp9,y<wr.heap.size:=HR9.out.2.1.lt
         have a8:Own w8 w.heap.size (u8.ownBlock.toList++Lp9):=HR9.out.2.1.keep (fun y m=>W08.out.block y (h9 y m))
         have ca:Own w8 wr.heap.size Lb:=(HGb.out.own.keep GB8.out).mono yG
         have ai:=(a8.append ca BWQ.out.size h9).append ah.own (AF BWQ.out.size W5.out.size) (fun y m=>by
          rcases AG.1 m with m|m
          .exact AK (h9 y m) W5.out.size
          .exact (a7 y m).2)
         obtain ⟨Q,cc,cd⟩:=ZZ ah.rep
         obtain ⟨ce,cg,ch⟩:=ZZ ((Yb XA).keep HGb.out.rep GB8.out)
         have z:Yg.rep w8 [.slice A8 (t.facts.length+1) c8,.slice Ab b.length cb] ({ facts:=t.facts++[f],binding:=b }:Zs) (L8++Lb):=⟨A8,c8,L8,Ab,cb,Lb,yG,rfl,Q,cc,cd,ce,cg,ch⟩
         refine ⟨HQ8.add (AE j) (QJ HR9.out.1 (fun y m=>W08.out.block y (h9 y (AR _ m)))) HR9.out.2.2 z (ai.permT ?_) (fun y m=>.inr ?_) H9.out.1 H9.out.2.1 H9.out.2.2,KT9.out,fun y hy e=>?_⟩
         .rw [AC,AC]
          exact List.Perm.append_left _ (List.Perm.append_left _ List.perm_append_comm)
         .have I:w1.heap.size<=wr.heap.size:=HI.out.1.below.size
          rcases AG.1 m with m|m
          .exact AF I (AF W5.out.size (b9 y m))
          .have:=(a7 y m).1
           omega
         .rcases H9.out.2.2 y hy with h|h
          .exact HI.out.2.2 y h e
          .have h1:=HGT.out
           have h2:=W08.out.size
           omega
       .have ci:q=m:=by omega
        go_wp2
        refine ⟨⟨j+1,yE,yG,?_⟩,by simp [intOf];omega⟩
        show Zdl _ _ _ _ _ _ _
        have h:=HI.out.1.skip (AU j)
        rw [ci,AW (by have:=HM.out;omega)]at h
        rw [Zj7 HT.out,<-HD.out]
        have e:QV x F t=F.filterMap fun f=>(X1 x.pattern f t.binding).map fun b=>({ facts:=t.facts++[f],binding:=b }:Zs):=by unfold QV;rw [if_pos HK1.out]
        rw [e]
        exact h
     .go_wp2_with fail
      refine (Zm.givesB (Zms (Zgl x t.binding F (by have:=HF24.out;omega) (fun f mf=>by have:=HA.out f mf;omega))) (Zce hJ0 HJ.out (B3.out _)) (vs:=[_,_,_]) ⟨ZeM Zlj (X6.keep HXR.out (Zo (B3.out _) (fun y m=>X6.lt HXR.out y m))),?_,ZlC QW _ ((Yb Yh).keep HB.out (Zo (B3.out _) (fun y m=>(Yb Yh).lt HB.out y m))),trivial⟩).mono ?_
      .exact ZlC ZfG _ (HBR.out _)
      rintro e w4 ⟨rfl,aj⟩
      have K2:Hid (Blk w4 wr.heap.size 167 #[.slice A1 tf d1,.slice A2 tb d2]):=Blk.later (Blk.new _ _ _) aj
      have HQ4:=Lib.hid ((HQ.out.later ((Below.refl _ wr).alloc (AE _) _)).later aj)
      have p0:w4.cell? ⟨wr.heap.size,0,none⟩=some (.slice A1 tf d1):=K2.out.at (i:=0) rfl
      have p1:w4.cell? ⟨wr.heap.size,1,none⟩=some (.slice A2 tb d2):=K2.out.at (i:=1) rfl
      have HTR4:Hid (Yg.rep w4 [.slice A1 tf d1,.slice A2 tb d2] t l1):=Yg.keep HTR.out (fun y m=>(HQ4.out.below.block y (HOA.out.lt y (ac.out y m))))
      obtain ⟨⟨xs,Lp,ho,hr,hO,a9⟩,ba,bb⟩:=HQ4.out
      have HO:=Lib.hid ho
      have HRS:=Lib.hid (And.intro hr (And.intro hO a9))
      have HVO:Hid (∀g,u8.ownBlock=some g->w1.heap.size<=g):=ba
      have HBQ:=Lib.hid bb
      have hds:((ts.take j).flatMap (QV x F)).length<=7962624:=HLE.out
      have cj:Hid (w.heap.size<=w4.heap.size):=AF BW1.out.size HBQ.out.size
      clear aj ho hr hO a9 ba bb k0 k1 k2 k3 k4 r0 r1
      cases hh:Zkb x t.binding F with
      |true=>
       have HH:Hid (QV x F t=[t]):=by show _=_;unfold QV;rw [if_neg ab,if_pos hh]
       clear hh
       go_wp2_with (at_builtin;(refine ZwG rfl (.tmp 37) (.tmp 39) 108 rfl 167 _ 2 48 underlying108 ZlD rfl yE w.heap.size u8 ((ts.take j).flatMap (QV x F)).length xs [_,_] rfl rfl HO.out rfl (by intro u hu;simp only[AS,AT,or_false]at hu;rcases hu with rfl|rfl<;>rfl) yE yE cj.out ?_);intro v' w' bd ak be)
       refine ⟨⟨j+1,yE,yG,?_⟩,by simp [intOf];omega⟩
       show Zdl _ _ _ _ _ _ _
       rw [Zj7 HT.out,HH.out]
       exact HQ4.out.add (AU j) HRS.out.1 HRS.out.2.2 HTR4.out (Zdl.taken HOA.out HP.out.sub HL1.out HBQ.out HRS.out.2.1 HRS.out.2.2 HVO.out) (fun y m=>.inl (by rw [ZeS HL1.out];exact AR _ m)) bd ak be
      |false=>
       have HH:Hid (QV x F t=[]):=by show _=_;unfold QV;rw [if_neg ab,if_neg (by simp [hh])]
       clear hh
       go_wp2
       refine ⟨⟨j+1,yE,yG,?_⟩,by simp [intOf];omega⟩
       show Zdl _ _ _ _ _ _ _
       rw [Zj7 HT.out,HH.out,AB]
       exact HQ4.out.skip (AU j)
    .have ck:j=nt:=by omega
     go_wp2
     refine ⟨⟨k+1,yE,yG,?_⟩,by simp [intOf];omega⟩
     show Zfy _ _ _ _ _ _
     rw [ZwE HX.out,HTS.out]
     have h:=HQ.out.done BW1.out
     rw [ck,AW (by have:=HNT.out;omega)]at h
     exact h
  .have cm:k=n:=by omega
   go_wp2
   go_ret
   refine ⟨_,rfl,?_⟩
   have h:=HV.out
   rw [cm,AW (by have:=HN.out;omega)]at h
   exact h
end
section
open Go.RowKit
theorem ZmA {a:List Zf}{f:List Zk}{r:List Zs}(h:ZeQ a f=some r):Zm prog J0 181 [(false,[.sl 107 5 (A0 ZE a)]),(false,[.sl 83 2 (A0 Zw f)])] [(false,[(false,.sl 167 2 (A0 Xv r))])]:=by
 unfold ZeQ at h
 split at h
 .rename_i hc
  obtain ⟨hl,hF,hA⟩:=hc
  rw [ZhV _ _ hl hF hA]at h
  obtain rfl:=AA h
  refine ⟨⟨f181,func181,yO,yO⟩,fun w z vs hj hz ha=>?_⟩
  cases vs with
  |nil=>exact ha.elim
  |cons v vs=>
   obtain ⟨ha,hr⟩:=ha
   cases vs with
   |nil=>exact hr.elim
   |cons u vs=>
    obtain ⟨hu,hr⟩:=hr
    cases vs with
    |cons _ _=>exact hr.elim
    |nil=>
     rcases ha with ⟨hf,_⟩|⟨_,ct,L,e1,hx,_⟩
     .simp at hf
     .rcases hu with ⟨hf,_⟩|⟨_,j,L2,e2,k,_⟩
      .simp at hf
      .obtain rfl:(CT.sl 107 5 (A0 ZE a))=ct:=by simpa using e1
       obtain rfl:(CT.sl 83 2 (A0 Zw f))=j:=by simpa using e2
       have h1:=(Zlj.sl 107).2 hx
       have h2:=(QW.sl 83).2 k
       obtain ⟨A,c,hv,q1,q2,q3⟩:=h1
       obtain ⟨B,d,hu,p1,p2,p3⟩:=h2
       simp only[List.cons.injEq,and_true]at hv hu
       subst hv
       subst hu
       refine (ZsT hl hF hA w hj A c L ⟨A,c,rfl,q1,q2,q3⟩ B d L2 ⟨B,d,rfl,p1,p2,p3⟩).mono ?_
       rintro e w' ⟨v,rfl,⟨xs,Lp,i,g,hO⟩,hB⟩
       exact ⟨v,fun b=>z b\/b∈v.ownBlock.toList,rfl,⟨[v],v.ownBlock.toList++Lp,⟨v,[],v.ownBlock.toList++Lp,[],rfl,yG,.inr ⟨rfl,_,rfl,yF,xs,Lp,by rw [List.length_map];exact i,ZmQ.reps g,rfl,fun b m=>.inr m⟩,rfl,rfl⟩,hO,rfl⟩,fun b h=>.inl h,hB⟩
 .cases h
end
section
theorem Zm8 {append_0:Yq}{r:Bool}(h:Zeg append_0=some r):Zm prog J0 11 [(true,ZjL append_0)] [(false,[(false,.bool r)])]:=by
 refine fnk func11 rfl ?_
 unfold Zeg at h
 simp only[fnS,f11,Zq,go_sem,seval]
 refine ZE9 h fun _ q h=>Zb (Zh0 q)<|yA ?_
 refine yB h (fun _ h=>?_) fun _ h=>?_
 refine ZE9 h fun _ t h=>Zb (Znv t)<|yA ?_
 refine yB h (fun _ h=>?_) fun _ h=>?_
 refine ZE9 h fun _ u h=>Zb (XK u)<|yA ?_
 iterate 2 refine yB h (fun _ h=>?_) fun _ h=>?_
 cases h;exact yD
 refine yB h (fun _ h=>?_) fun _ h=>?_
 cases h;exact yD
 refine Zi h (fun i _ st=>IV [(1,.bp 0 0),(3,yL i)] [.box 43 [.c (yW append_0.rules),.c (zD append_0.memory),.c (.int .i64 append_0.clock),.c (zE append_0.fired),.c (.bool append_0.halted),.c (zG append_0.log)]] st) [] [0] yF yD ?_ ?_
 rintro _ _ ⟨⟩ ⟨_,_,_⟩ _ a e v h w
 simp only[go_sem,seval,Zd]at e
 obtain ⟨⟨_,_⟩,x,hn⟩:=e
 subst hn
 have y:=WF.boxL v x (j:=1) rfl
 have:=ZR a
 have:=ZT a
 have:=Zp (ZS a) y
 simp only[*,go_sem,seval]
 refine yB h (fun _ h=>?_) fun _ h=>?_
 replace h:=Zt h w
 cases h;exact yD
 exact yR h [0]
 rintro ⟨⟩ ⟨_,_,_⟩ f _ h
 simp only[go_sem,seval,Zd]at f
 obtain ⟨⟨_,_⟩,_,hn⟩:=f
 subst hn
 have:=ZN (append_0.memory.length)
 simp only[*,go_sem,seval]
 refine Zi h (fun i _ st=>IV [(1,.bp 0 0),(4,yL i)] [.box 43 [.c (yW append_0.rules),.c (zD append_0.memory),.c (.int .i64 append_0.clock),.c (zE append_0.fired),.c (.bool append_0.halted),.c (zG append_0.log)]] st) [] [0] yF yD ?_ ?_
 rintro _ _ ⟨⟩ ⟨_,_,_⟩ _ b g z h k
 simp only[go_sem,seval,Zd]at g
 obtain ⟨⟨_,_⟩,A,hn⟩:=g
 subst hn
 have B:=WF.boxL z A (j:=3) rfl
 have:=ZR b
 have:=ZT b
 have:=Zp (ZS b) B
 simp only[*,go_sem,seval]
 refine ZE9 h fun _ C h=>Zb (ZmR C)<|yA ?_
 refine yB h (fun _ h=>?_) fun _ h=>?_
 obtain ⟨_,h⟩:=ZM h
 simp only[*,go_sem,seval]
 refine ZE9 h fun _ D h=>Zb (by have hh:=Znz D;simp only[*,go_sem]at hh;exact hh)<|yA ?_
 refine yB h (fun _ h=>?_) fun _ h=>?_
 replace h:=Zt h k
 cases h;exact yD
 exact yR h [0]
 replace h:=Zt h k
 cases h;exact yD
 rintro ⟨⟩ ⟨_,_,_⟩ l _ h
 simp only[go_sem,seval,Zd]at l
 obtain ⟨⟨_,_⟩,_,hn⟩:=l
 subst hn
 have:=ZN (append_0.fired.length)
 simp only[*,go_sem,seval]
 refine Zi h (fun i _ st=>IV [(1,.bp 0 0),(5,yL i)] [.box 43 [.c (yW append_0.rules),.c (zD append_0.memory),.c (.int .i64 append_0.clock),.c (zE append_0.fired),.c (.bool append_0.halted),.c (zG append_0.log)]] st) [] [0] yF yD ?_ ?_
 rintro _ _ ⟨⟩ ⟨_,_,_⟩ _ d m E h F
 simp only[go_sem,seval,Zd]at m
 obtain ⟨⟨_,_⟩,G,hn⟩:=m
 subst hn
 have H:=WF.boxL E G (j:=5) rfl
 have:=ZR d
 have:=ZT d
 have:=Zp (ZS d) H
 simp only[*,go_sem,seval]
 refine ZE9 h fun _ I h=>Zb (ZpC I)<|yA ?_
 refine yB h (fun _ h=>?_) fun _ h=>?_
 exact yR h [0]
 replace h:=Zt h F
 cases h;exact yD
 rintro ⟨⟩ ⟨_,_,_⟩ o _ h
 simp only[go_sem,seval,Zd]at o
 obtain ⟨⟨_,_⟩,_,hn⟩:=o
 subst hn
 have:=ZN (append_0.log.length)
 iterate 4 (cases h;exact yD)
theorem Zjp {b:(List Zl)}{r:(Ze×Bool)}(h:Q6 b=some r):Zm prog J0 39 [(false,[.sl 64 4 (A0 Zy b)])] [(true,[(false,.sl 64 4 (A0 Zy r.1.rules)),(false,.sl 3 1 (A0 Z8 r.1.ends)),(false,.sl 103 3 (A0 Z0 r.1.alphas)),(false,.sl 110 8 (A0 Ym r.1.nodes)),(false,.sl 83 2 (A0 Zw r.1.facts)),(false,.int .i64 r.1.tries)]),(false,[(false,.bool r.2)])]:=by
 refine fnk func39 rfl ?_
 unfold Q6 at h
 simp only[fnS,f39,Zq,go_sem,seval]
 refine ZE9 h fun _ E h=>Zb (Zh0 E)<|yA ?_
 refine yB h (fun _ h=>?_) fun _ h=>?_
 refine ZE9 h fun _ F h=>Zb (Zna F)<|yA ?_
 refine Zi h (fun i s st=>match s with|(d,e,f,g,k,l)=>IV [(0,yM (yW b)),(2,.bp 0 0),(4,.bp 1 0),(5,yL i)] [.box 48 [.nil 64 4,.nil 3 1,.nil 103 3,.nil 110 8,.nil 83 2,.c (.int .i64 0)],.box 48 [.row 2,.row 3,.row 4,.row 5,.row 6,.c (.int .i64 d)],.row 64 4 (A0 Zy e) 2,.row 3 1 (A0 Z8 f) 2,.row 103 3 (A0 Z0 g) 2,.row 110 8 (A0 Ym k) 2,.row 83 2 (A0 Zw l) 2] st) [(true,192,1),(true,192,2),(true,192,4)] [0,192,96,240,241,160,242] yF yD ?_ ?_
 rintro G _ ⟨d,e,f,g,k,l⟩ ⟨_,_,_⟩ _ m z H h _
 simp only[go_sem,seval,Zd]at z
 obtain ⟨⟨I,_,_,_⟩,_,_,_,_,_,_,_,hn⟩:=z
 subst hn
 have J:=WF.slotL H I (j:=0) rfl
 have:=ZR m
 have:=ZT m
 have:=Zp (ZS m) J
 simp only[*,go_sem,seval]
 refine ZE9 h fun A K h=>Zb (Zk0 K)<|yA ?_
 refine Zi h (fun i s st=>match s with|(o,q,t,u,v,w,x)=>IV [(0,yM (yW b)),(2,.bp 0 0),(4,.bp 1 0),(5,yL G),(6,yM (.int .i64 x)),(7,.p false [.row 7]),(8,yL i)] [.box 48 [.nil 64 4,.nil 3 1,.nil 103 3,.nil 110 8,.nil 83 2,.c (.int .i64 0)],.box 48 [.row 2,.row 3,.row 4,.row 5,.row 6,.c (.int .i64 o)],.row 64 4 (A0 Zy q) 2,.row 3 1 (A0 Z8 t) 2,.row 103 3 (A0 Z0 u) 2,.row 110 8 (A0 Ym v) 2,.row 83 2 (A0 Zw w) 2,.row 107 5 (A0 ZE A) 2] st) [] [0,1,2,3,4,5,6,151] yF yD ?_ ?_
 rintro _ _ ⟨o,q,t,u,v,w,x⟩ ⟨_,_,_⟩ _ y B L h _
 simp only[go_sem,seval,Zd]at B
 obtain ⟨⟨_,_,_,_,_,_,_⟩,_,_,_,_,_,_,_,M,hn⟩:=B
 subst hn
 have N:=WF.rowL L M
 have:=ZR y
 have:=ZT y
 have:=Zp (ZS y) N
 simp only[*,go_sem,seval]
 obtain ⟨_,O,h⟩:=Za h
 refine Zim (ZpO O)<|yA ?_
 exact yR h [0,1,152,153,154,155,156,7]
 rintro ⟨o,q,t,u,v,w,x⟩ ⟨_,_,_⟩ C _ h
 simp only[go_sem,seval,Zd]at C
 obtain ⟨⟨_,_,_,_,_,_,_⟩,_,_,_,_,_,_,_,_,hn⟩:=C
 subst hn
 have:=ZN (A.length)
 obtain ⟨P,h⟩:=ZM h
 try simp only[Nat.reduceLeDiff]at P
 simp only[*,go_sem,seval]
 exact yR h [0,1,2,136,4,5,6]
 rintro ⟨d,e,f,g,k,l⟩ ⟨_,_,_⟩ D _ h
 simp only[go_sem,seval,Zd]at D
 obtain ⟨⟨_,_,_,_⟩,_,_,_,_,_,_,_,hn⟩:=D
 subst hn
 have:=ZN (b.length)
 iterate 2 (cases h;exact yD)
theorem Zrs {append_0:(List Zs)}{a:Zf}{a_2:(List Zk)}{r:(List Zs)}(h:Zhh append_0 a a_2=some r):Zm prog J0 96 [(false,[.sl 167 2 (A0 Xv append_0)]),(true,ZE a),(false,[.sl 83 2 (A0 Zw a_2)])] [(false,[(false,.sl 167 2 (A0 Xv r))])]:=by
 refine fnk func96 rfl ?_
 unfold Zhh at h
 simp only[fnS,f96,Zq,go_sem,seval]
 refine Zi h (fun i b st=>IV [(0,yM (zF append_0)),(2,yM (yV a_2)),(4,.bp 0 0),(7,.p false [.row 1]),(8,yL i)] [zH 107 (ZE a),.row 167 2 (A0 Xv b) 2] st) [] [0,32] yF yD ?_ ?_
 rintro o _ b ⟨_,_,_⟩ _ d g q h _
 simp only[go_sem,seval,Zd]at g
 obtain ⟨⟨t,_,_,_,_⟩,_,_,hn⟩:=g
 subst hn
 have u:=WF.slotL q t (j:=0) rfl
 have:=ZR d
 have:=ZT d
 have:=Zp (ZS d) u
 simp only[*,go_sem,seval]
 refine yB h (fun _ h=>?_) fun _ h=>?_
 refine ZE9 h fun _ v h=>Zb (ZmI v)<|yA ?_
 refine yB h (fun _ h=>?_) fun _ h=>?_
 refine ZE9 h fun _ w h=>Zb (Zqt w) ?_
 obtain ⟨x,h⟩:=ZM h
 try simp only[Nat.reduceLeDiff]at x
 simp only[*,go_sem,seval]
 exact yR h [0,354]
 exact yR h [0,1]
 refine Zi h (fun i e st=>IV [(0,yM (zF append_0)),(2,yM (yV a_2)),(4,.bp 0 0),(7,.p false [.row 1]),(8,yL o),(9,yL i)] [zH 107 (ZE a),.row 167 2 (A0 Xv e) 2] st) [] [0,1] yF yD ?_ ?_
 rintro _ _ e ⟨_,_,_⟩ _ f k y h _
 simp only[go_sem,seval,Zd]at k
 obtain ⟨⟨_,z,_,_,_,_⟩,_,_,hn⟩:=k
 subst hn
 have A:=WF.slotL y z (j:=0) rfl
 have:=ZR f
 have:=ZT f
 have:=Zp (ZS f) A
 simp only[*,go_sem,seval]
 refine ZE9 h fun _ B h=>Zb (ZgR B)<|yA ?_
 refine yB h (fun _ h=>?_) fun _ h=>?_
 refine ZE9 h fun _ C h=>Zb (ZhK C)<|yA ?_
 refine ZE9 h fun _ D h=>Zb (ZeL D) ?_
 obtain ⟨E,h⟩:=ZM h
 try simp only[Nat.reduceLeDiff]at E
 obtain ⟨F,h⟩:=ZM h
 try simp only[Nat.reduceLeDiff]at F
 simp only[*,go_sem,seval]
 exact yR h [0,626]
 exact yR h [0,1]
 rintro e ⟨_,_,_⟩ l _ h
 simp only[go_sem,seval,Zd]at l
 obtain ⟨⟨_,_,_,_,_,_⟩,_,_,hn⟩:=l
 subst hn
 have:=ZN (a_2.length)
 simp only[*,go_sem,seval]
 exact yR h [0,1]
 rintro b ⟨_,_,_⟩ m _ h
 simp only[go_sem,seval,Zd]at m
 obtain ⟨⟨_,_,_,_,_⟩,_,_,hn⟩:=m
 subst hn
 have:=ZN (append_0.length)
 cases h;exact yD
theorem ZiJ {a:Ze}{b:(List Zk)}{r:Ze}(h:Zar a b=some r):Zf4 prog J0 JF0 117 48 [(false,.sl 64 4 (A0 Zy a.rules)),(false,.sl 3 1 (A0 Z8 a.ends)),(false,.sl 103 3 (A0 Z0 a.alphas)),(false,.sl 110 8 (A0 Ym a.nodes)),(false,.sl 83 2 (A0 Zw a.facts)),(false,.int .i64 a.tries)] none [(false,[.sl 83 2 (A0 Zw b)])] [] [(false,.sl 64 4 (A0 Zy r.rules)),(false,.sl 3 1 (A0 Z8 r.ends)),(false,.sl 103 3 (A0 Z0 r.alphas)),(false,.sl 110 8 (A0 Ym r.nodes)),(false,.sl 83 2 (A0 Zw r.facts)),(false,.int .i64 r.tries)]:=by
 refine fno func117 rfl ?_
 unfold Zar at h
 simp only[fnO,f117,Ze8,gvC,go_sem,seval]
 refine ZE9 h fun v1 e1 h=>Zb (Zgp e1) ?_
 simp only[*,go_sem,seval]
 refine Zaj h (fun s st=>match s with|(d,i)=>IV [(0,.bp 0 0),(1,.p false [.c (.sl 83 2 (A0 Zw b))]),(15,.p false [.c (.int .i64 ((a.alphas.length:Nat):Int))]),(16,.p false [.c (.int .i64 i)])] [.box 48 [.row 1,.row 2,.row 3,.row 4,.row 5,.c (.int .i64 a.tries)],.row 64 4 (A0 Zy a.rules) 2,.row 3 1 (A0 Z8 a.ends) 2,.row 103 3 (A0 Z0 d) 2,.row 110 8 (A0 Ym a.nodes) 2,.row 83 2 (A0 Zw v1) 2] st) [] [0,1,2,3,4,38] yF ?_ ?_
 .simp only[*,go_sem,seval]
 .rintro ⟨d,i⟩ ⟨sl,ob,n⟩ y2 j hW4 h l
  simp only[go_sem,seval,Zd]at j
  obtain ⟨⟨g5_0,g5_1,g5_15,g5_16⟩,og5_0,og5_1,og5_2,og5_3,og5_4,og5_5,hn⟩:=j
  subst hn
  simp only[*,go_sem,seval]
  refine Zc h (fun c6 h=>?_) (fun c6 h=>?_)<;>try simp only[*,go_sem,seval]
  .obtain ⟨p7,h⟩:=ZM h
   obtain ⟨x6,e8,h⟩:=Za h
   simp only[*,go_sem,seval]
   refine ZE9 h fun v7 e9 h=>Zb (Zbh e9) ?_
   simp only[*,go_sem,seval]
   refine ⟨_,[],[0,1,2,3,4,5],(AA h).symm,yF,?_⟩
   simp only[*,go_sem,seval]
  .refine Zaj h (fun s st=>match s with|(e,f)=>IV [(0,.bp 0 0),(1,.p false [.c (.sl 83 2 (A0 Zw b))]),(41,.p false [.c (.int .i64 ((a.nodes.length:Nat):Int))]),(42,.p false [.c (.int .i64 f)])] [.box 48 [.row 1,.row 2,.row 3,.row 4,.row 5,.c (.int .i64 a.tries)],.row 64 4 (A0 Zy a.rules) 2,.row 3 1 (A0 Z8 a.ends) 2,.row 103 3 (A0 Z0 d) 2,.row 110 8 (A0 Ym e) 2,.row 83 2 (A0 Zw v1) 2] st) [] [0,1,2,3,4,5] yF ?_ ?_
   .simp only[*,go_sem,seval]
   .rintro ⟨e,f⟩ ⟨sl,ob,n⟩ y10 g hW12 h k
    simp only[go_sem,seval,Zd]at g
    obtain ⟨⟨g13_0,g13_1,g13_41,g13_42⟩,og13_0,og13_1,og13_2,og13_3,og13_4,og13_5,hn⟩:=g
    subst hn
    simp only[*,go_sem,seval]
    refine Zc h (fun m h=>?_) (fun m h=>?_)<;>try simp only[*,go_sem,seval]
    .refine ZE9 h fun v13 o h=>Zb (Zrd o) ?_
     simp only[*,go_sem,seval]
     refine ZE9 h fun v14 q h=>Zb (ZmA q) ?_
     obtain ⟨p17,h⟩:=ZM h
     obtain ⟨x15,e18,h⟩:=Za h
     simp only[*,go_sem,seval]
     refine ⟨_,[],[0,1,2,3,4,5],(AA h).symm,yF,?_⟩
     simp only[*,go_sem,seval]
    .replace h:=Zt h k
     replace h:=Zt h l
     obtain rfl:=AA h
     simp only[*,go_sem,seval]
end
section
theorem ZnG {l_0:(List Zf)}{facts_1:(List Zk)}{r:(List Zs)}(h:ZdT l_0 facts_1=some r):Zm prog J0 44 [(false,[.sl 107 5 (A0 ZE l_0)]),(false,[.sl 83 2 (A0 Zw facts_1)])] [(false,[(false,.sl 167 2 (A0 Xv r))])]:=by
 refine fnk func44 rfl ?_
 unfold ZdT at h
 simp only[fnS,f44,Zq,go_sem,seval]
 refine Zi h (fun i a st=>IV [(0,yM (yY l_0)),(1,yM (yV facts_1)),(5,.p false [.row 0]),(6,yL i)] [.row 167 2 (A0 Xv a) 2] st) [] [32] yF yD ?_ ?_
 rintro _ _ a ⟨_,_,_⟩ _ b d f h _
 simp only[go_sem,seval,Zd]at d
 obtain ⟨⟨g,_,_,_⟩,_,hn⟩:=d
 subst hn
 have k:=WF.slotL f g (j:=0) rfl
 have:=ZR b
 have:=ZT b
 have:=Zp (ZS b) k
 simp only[*,go_sem,seval]
 refine ZE9 h fun _ l h=>Zb (Zrs l)<|yA ?_
 exact yR h [161]
 rintro a ⟨_,_,_⟩ e _ h
 simp only[go_sem,seval,Zd]at e
 obtain ⟨⟨_,_,_,_⟩,_,hn⟩:=e
 subst hn
 have:=ZN (l_0.length)
 cases h;exact yD
theorem Ztk {rules_0:(List Zl)}{facts_1:(List Zk)}{tries_2:Int}{r:Ze}(h:Zjz rules_0 facts_1 tries_2=some r):Zm prog J0 65 [(false,[.sl 64 4 (A0 Zy rules_0)]),(false,[.sl 83 2 (A0 Zw facts_1)]),(false,[.int .i64 tries_2])] [(true,[(false,.sl 64 4 (A0 Zy r.rules)),(false,.sl 3 1 (A0 Z8 r.ends)),(false,.sl 103 3 (A0 Z0 r.alphas)),(false,.sl 110 8 (A0 Ym r.nodes)),(false,.sl 83 2 (A0 Zw r.facts)),(false,.int .i64 r.tries)])]:=by
 refine fnk func65 rfl ?_
 unfold Zjz at h
 simp only[fnS,f65,Zq,go_sem,seval]
 refine ZE9 h fun _ a h=>Zb (ZlP a)<|yA ?_
 obtain ⟨_,b,h⟩:=Za h
 refine Zim (ZiJ b) ?_
 cases h;exact yD
end
section
theorem ZmX {append_0:Ze}{r:Bool}(h:Zdb append_0=some r):Zm prog J0 12 [(true,ZbV append_0)] [(false,[(false,.bool r)])]:=by
 refine fnk func12 rfl ?_
 unfold Zdb at h
 simp only[fnS,f12,Zq,go_sem,seval]
 refine ZE9 h fun _ k h=>Zb (Zjp k)<|yA ?_
 refine yB h (fun _ h=>?_) fun _ h=>?_
 refine ZE9 h fun _ l h=>Zb (Zia l)<|yA ?_
 refine yB h (fun _ h=>?_) fun _ h=>?_
 refine ZE9 h fun _ m h=>Zb (Zk2 m)<|yA ?_
 iterate 2 refine yB h (fun _ h=>?_) fun _ h=>?_
 cases h;exact yD
 refine Zi h (fun i _ st=>IV [(1,.bp 0 0),(5,yL i)] [.box 48 [.c (yW append_0.rules),.c (yZ append_0.ends),.c (zB append_0.alphas),.c (zC append_0.nodes),.c (yV append_0.facts),.c (.int .i64 append_0.tries)]] st) [] [0] yF yD ?_ ?_
 rintro _ _ ⟨⟩ ⟨_,_,_⟩ _ a d o h q
 simp only[go_sem,seval,Zd]at d
 obtain ⟨⟨_,_⟩,t,hn⟩:=d
 subst hn
 have u:=WF.boxL o t (j:=2) rfl
 have:=ZR a
 have:=ZT a
 have:=Zp (ZS a) u
 simp only[*,go_sem,seval]
 refine ZE9 h fun _ v h=>Zb (Zbf v)<|yA ?_
 refine ZE9 h fun _ w h=>Zb (ZdL w)<|yA ?_
 refine yB h (fun _ h=>?_) fun _ h=>?_
 exact yR h [0]
 replace h:=Zt h q
 cases h;exact yD
 rintro ⟨⟩ ⟨_,_,_⟩ e _ h
 simp only[go_sem,seval,Zd]at e
 obtain ⟨⟨_,_⟩,_,hn⟩:=e
 subst hn
 have:=ZN (append_0.alphas.length)
 simp only[*,go_sem,seval]
 refine Zi h (fun i _ st=>IV [(1,.bp 0 0),(6,yL i)] [.box 48 [.c (yW append_0.rules),.c (yZ append_0.ends),.c (zB append_0.alphas),.c (zC append_0.nodes),.c (yV append_0.facts),.c (.int .i64 append_0.tries)]] st) [] [0] yF yD ?_ ?_
 rintro _ _ ⟨⟩ ⟨_,_,_⟩ _ b f x h y
 simp only[go_sem,seval,Zd]at f
 obtain ⟨⟨_,_⟩,z,hn⟩:=f
 subst hn
 have A:=WF.boxL x z (j:=3) rfl
 have:=ZR b
 have:=ZT b
 have:=Zp (ZS b) A
 simp only[*,go_sem,seval]
 refine ZE9 h fun _ B h=>Zb (Zrt B)<|yA ?_
 refine ZE9 h fun _ C h=>Zb (ZnG C)<|yA ?_
 refine ZE9 h fun _ D h=>Zb (Zjv D)<|yA ?_
 refine yB h (fun _ h=>?_) fun _ h=>?_
 exact yR h [0]
 replace h:=Zt h y
 cases h;exact yD
 rintro ⟨⟩ ⟨_,_,_⟩ g _ h
 simp only[go_sem,seval,Zd]at g
 obtain ⟨⟨_,_⟩,_,hn⟩:=g
 subst hn
 have:=ZN (append_0.nodes.length)
 iterate 4 (cases h;exact yD)
theorem Zlt {n_0:Ze}{r:Bool}(h:Zc5 n_0=some r):Zm prog J0 19 [(true,ZbV n_0)] [(false,[(false,.bool r)])]:=by
 refine fnk func19 rfl ?_
 unfold Zc5 at h
 simp only[fnS,f19,Zq,go_sem,seval]
 refine ZE9 h fun _ a h=>Zb (Zh4 a)<|yA ?_
 refine yB h (fun _ h=>?_) fun _ h=>?_
 refine ZE9 h fun _ b h=>Zb (ZhS b)<|yA ?_
 iterate 2 refine yB h (fun _ h=>?_) fun _ h=>?_
 refine ZE9 h fun _ c h=>Zb (Ztk c)<|yA ?_
 refine ZE9 h fun _ d h=>Zb (ZiN d) ?_
 iterate 4 (cases h;exact yD)
end
section
theorem Zp3 {d_0:ZaQ}{r:Bool}(h:ZfA d_0=some r):Zm prog J0 5 [(true,Zqs d_0)] [(false,[(false,.bool r)])]:=by
 refine fnk func5 rfl ?_
 unfold ZfA at h
 simp only[fnS,f5,Zq,go_sem,seval]
 refine ZE9 h fun _ e h=>Zb (Zm8 e)<|yA ?_
 refine yB h (fun _ h=>?_) fun _ h=>?_
 refine ZE9 h fun _ f h=>Zb (ZmX f)<|yA ?_
 iterate 2 refine yB h (fun _ h=>?_) fun _ h=>?_
 cases h;exact yD
 refine ZE9 h fun _ g h=>Zb (ZiR g)<|yA ?_
 refine ZE9 h fun _ k h=>Zb (ZdL k)<|yA ?_
 refine yB h (fun _ h=>?_) fun _ h=>?_
 refine Zi h (fun i _ st=>IV [(1,.bp 0 0),(3,yL i)] [.box 50 [.c (yW d_0.engine.rules),.c (zD d_0.engine.memory),.c (.int .i64 d_0.engine.clock),.c (zE d_0.engine.fired),.c (.bool d_0.engine.halted),.c (zG d_0.engine.log),.c (yW d_0.network.rules),.c (yZ d_0.network.ends),.c (zB d_0.network.alphas),.c (zC d_0.network.nodes),.c (yV d_0.network.facts),.c (.int .i64 d_0.network.tries)]] st) [] [0] yF yD ?_ ?_
 rintro _ _ ⟨⟩ ⟨_,_,_⟩ _ a b l h m
 simp only[go_sem,seval,Zd]at b
 obtain ⟨⟨_,_⟩,o,hn⟩:=b
 subst hn
 have q:=WF.boxL l o (j:=0) rfl
 have:=ZR a
 have:=ZT a
 have:=Zp (ZS a) q
 obtain ⟨_,_,_,t,h⟩:=Qj h
 simp only[AJ]at t
 simp only[*,go_sem,seval]
 refine ZE9 h fun _ u h=>Zb (Znk u)<|yA ?_
 refine yB h (fun _ h=>?_) fun _ h=>?_
 exact yR h [0]
 replace h:=Zt h m
 cases h;exact yD
 rintro ⟨⟩ ⟨_,_,_⟩ d _ h
 simp only[go_sem,seval,Zd]at d
 obtain ⟨⟨_,_⟩,_,hn⟩:=d
 subst hn
 have:=ZN (d_0.engine.rules.length)
 iterate 4 (cases h;exact yD)
theorem Zp8 {d_0:ZaQ}{r:Bool}(h:Zfv d_0=some r):Zm prog J0 7 [(true,Zqs d_0)] [(false,[(false,.bool r)])]:=by
 refine fnk func7 rfl ?_
 unfold Zfv at h
 simp only[fnS,f7,Zq,go_sem,seval]
 refine ZE9 h fun _ a h=>Zb (Zno a)<|yA ?_
 refine yB h (fun _ h=>?_) fun _ h=>?_
 refine ZE9 h fun _ b h=>Zb (Zlt b)<|yA ?_
 refine yB h (fun _ h=>?_) fun _ h=>?_
 refine ZE9 h fun _ c h=>Zb (Zg5 c)<|yA ?_
 refine yB h (fun _ h=>?_) fun _ h=>?_
 refine ZE9 h fun _ d h=>Zb (ZjF d)<|yA ?_
 refine ZE9 h fun _ e h=>Zb (ZbJ e) ?_
 iterate 4 (cases h;exact yD)
end
end Go.Proofs.YtcaokdmjlknmmaaGreatDoor
