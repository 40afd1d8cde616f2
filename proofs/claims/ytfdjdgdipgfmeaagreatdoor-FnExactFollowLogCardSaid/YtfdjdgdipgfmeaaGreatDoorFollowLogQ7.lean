/- Texts of this proof, joined; no conditions. -/
import Derived.Test.YtfdjdgdipgfmeaaGreatDoorFollowLogQ6
import Derived.Test.YtfdjdgdipgfmeaaGreatDoorFollowLogQ4
import Derived.Test.YtfdjdgdipgfmeaaGreatDoorFollowLogQ1
import Derived.Test.YtfdjdgdipgfmeaaGreatDoorFollowLogQ5
import Derived.Test.YtfdjdgdipgfmeaaGreatDoorFollowLogQ2
import Derived.Test.YtfdjdgdipgfmeaaGreatDoorProg
import Derived.OwnWalk
import Derived.Outline
import Derived.WalkSpells
import Derived.StillTailTactics
import Derived.Deep.RegionHeld3
open Int renaming toNat_natCast→AL
open List renaming map→A0,append_nil→A9,append_assoc→AA,nil_append→AC,length_map→AD,length_take→AE,length_drop→AF,mem_append→AH,getElem?_eq_getElem→AI,nodup_append→AJ,sublist_append_right→AM,getElem?_eq_some_iff→AN,take_add_one→AO,mem_flatten→AP,length_append→AQ,mem_append_right→AS,mem_cons→AT,not_mem_nil→AU,take_of_length_le→AX,flatten_cons→AZ,mem_of_getElem?→Aa
open List.Sublist renaming append→AY
open Nat renaming le_refl→AB,le_trans→AG,lt_of_lt_of_le→AK,zero_le→AR,le_succ→AW
open Option.some renaming inj→A6
open Go.Proofs.Tryz
set_option linter.unusedSimpArgs false
set_option linter.unusedVariables false
set_option maxRecDepth 1000000
set_option maxHeartbeats 4000000
namespace Go.Proofs.YtfdjdgdipgfmeaaGreatDoor
noncomputable section
section
theorem Qr {I:Zc}{r:Zc}(h:QW I=some r):Zp prog J0 21 [(true,YD I)] [(true,[(false,.sl 118 4 (A0 ZB r.rules)),(false,.sl 3 1 (A0 Ye r.ends)),(false,.sl 103 3 (A0 ZG r.alphas)),(false,.sl 108 8 (A0 Z6 r.nodes)),(false,.sl 60 2 (A0 Zo r.facts)),(false,.int .i64 r.tries)])]:=by
 refine fnk func21 rfl ?_;unfold QW at h;simp only[fnS,f21,Zu,go_sem,seval];refine Zb h fun f t h=>Za (Zka t)<|yA ?_;refine Zb h fun g u h=>Za (ZuY u)<|yA ?_;refine Zb h fun k v h=>Za (Xe v)<|yA ?_;refine Zk h (fun i a st=>IV [(1,.bp 0 0),(2,.bp 1 0),(3,.bp 2 0),(4,yL i)] [.box 37 [.c (yW I.rules),.c (yY I.ends),.c (yZ I.alphas),.c (zA I.nodes),.c (yU I.facts),.c (.int .i64 I.tries)],.box 37 [.nil 118 4,.nil 3 1,.nil 103 3,.nil 108 8,.nil 60 2,.c (.int .i64 0)],.box 37 [.row 3,.row 4,.row 5,.nil 108 8,.row 6,.c (.int .i64 I.tries)],.row 118 4 (A0 ZB f) 2,.row 3 1 (A0 Ye g) 2,.row 103 3 (A0 ZG a) 2,.row 60 2 (A0 Zo k) 2] st) [(true,224,2)] [0,16,224,64,112,272,160] yF yD ?_ ?_;rintro _ _ a ⟨_,_,_⟩ _ b l w h _;simp only[go_sem,seval,Zd]at l;obtain ⟨⟨_,_,_,_⟩,x,_,_,_,_,_,_,J⟩:=l;subst J;have y:=WF.boxL w x (j:=2) rfl;have:=Z1 b;have:=Z3 b
 have:=Zt (Z0 b) y;simp only[*,go_sem,seval];refine Zb h fun _ z h=>Za (Zfz z)<|yA ?_;refine Zb h fun _ A h=>Za (Xe A) ?_;obtain ⟨B,h⟩:=ZD h;try simp only[Nat.reduceLeDiff]at B
 simp only[*,go_sem,seval];exact yR h [0,1,2,3,4,375,6];rintro a ⟨_,_,_⟩ m _ h;simp only[go_sem,seval,Zd]at m;obtain ⟨⟨_,_,_,_⟩,_,_,_,_,_,_,_,J⟩:=m;subst J;have:=ZY (I.alphas.length);simp only[*,go_sem,seval];refine Zk h (fun i d st=>IV [(1,.bp 0 0),(2,.bp 1 0),(3,.bp 2 0),(5,yL i)] [.box 37 [.c (yW I.rules),.c (yY I.ends),.c (yZ I.alphas),.c (zA I.nodes),.c (yU I.facts),.c (.int .i64 I.tries)],.box 37 [.nil 118 4,.nil 3 1,.nil 103 3,.nil 108 8,.nil 60 2,.c (.int .i64 0)],.box 37 [.row 3,.row 4,.row 5,.row 6,.row 7,.c (.int .i64 I.tries)],.row 118 4 (A0 ZB f) 2,.row 3 1 (A0 Ye g) 2,.row 103 3 (A0 ZG a) 2,.row 108 8 (A0 Z6 d) 2,.row 60 2 (A0 Zo k) 2] st) [(true,2,3)] [0,1,2,3,4,5,103,6] yF yD ?_ ?_;rintro _ _ d ⟨_,_,_⟩ _ e o C h _;simp only[go_sem,seval,Zd]at o;obtain ⟨⟨_,_,_,_⟩,D,_,_,_,_,_,_,_,J⟩:=o;subst J
 have E:=WF.boxL C D (j:=3) rfl;have:=Z1 e;have:=Z3 e;have:=Zt (Z0 e) E;simp only[*,go_sem,seval];refine Zb h fun _ F h=>Za (Zgb F)<|yA ?_;refine Zb h fun _ G h=>Za (Zlu G) ?_;obtain ⟨H,h⟩:=ZD h;try simp only[Nat.reduceLeDiff]at H
 simp only[*,go_sem,seval];exact yR h [0,1,2,3,4,5,424,7];rintro d ⟨_,_,_⟩ q _ h;simp only[go_sem,seval,Zd]at q;obtain ⟨⟨_,_,_,_⟩,_,_,_,_,_,_,_,_,J⟩:=q;subst J;have:=ZY (I.nodes.length);cases h;exact yD
theorem Zsf {A:List Zf}{B:Zf}{r:((List Zf)×Bool)}(h:ZgQ A B=some r):Zp prog J0 61 [(false,[.sl 60 2 (A0 Zo A)]),(true,Zo B)] [(false,[(false,.sl 60 2 (A0 Zo r.1))]),(false,[(false,.bool r.2)])]:=by
 refine fnk func61 rfl ?_;unfold ZgQ at h;simp only[fnS,f61,Zu,go_sem,seval];refine Zb h fun _ a h=>Za (Zgs a)<|yA ?_;refine yB h (fun _ h=>?_) fun _ h=>?_;refine Zb h fun _ b h=>Za (Zjm b)<|yA ?_;refine yB h (fun _ h=>?_) fun _ h=>?_;refine Zb h fun _ c h=>Za (Zko c)<|yA ?_;refine yB h (fun _ h=>?_) fun _ h=>?_;refine Zb h fun _ d h=>Za (Xe d) ?_;cases h;exact yD;refine yB h (fun _ h=>?_) fun _ h=>?_;refine Zb h fun _ e h=>Za (Xe e) ?_;cases h;exact yD;refine Zb h fun _ f h=>Za (Zvi f) ?_;cases h;exact yD;refine Zb h fun _ g h=>Za (Xe g) ?_;cases h;exact yD;refine Zb h fun _ i h=>Za (Xe i) ?_;cases h;exact yD
theorem ZiL {A:Zh}{r:Bool}(h:Zft A=some r):Zp prog J0 194 [(true,ZW A)] [(false,[(false,.bool r)])]:=by
 refine fnk func194 rfl ?_;unfold Zft at h;have a:Zcs ⟨#[]⟩=true:=by decide
 simp only[fnS,f194,Zu,go_sem,seval,a];refine yB h (fun _ h=>?_) fun _ h=>?_;refine Zb h fun _ b h=>Za (Za8 b)<|yA ?_;iterate 2 refine yB h (fun _ h=>?_) fun _ h=>?_
 iterate 3 (cases h;exact yD)
 refine yB h (fun _ h=>?_) fun _ h=>?_;refine Zb h fun _ c h=>Za (Za8 c)<|yA ?_;iterate 2 refine yB h (fun _ h=>?_) fun _ h=>?_
 iterate 3 (cases h;exact yD)
 iterate 3 refine yB h (fun _ h=>?_) fun _ h=>?_
 refine Zb h fun _ d h=>Za (Zbz d)<|yA ?_;refine yB h (fun _ h=>?_) fun _ h=>?_;refine Zb h fun _ e h=>Za (Zbz e) ?_;iterate 4 (cases h;exact yD)
 iterate 3 refine yB h (fun _ h=>?_) fun _ h=>?_
 refine Zb h fun _ f h=>Za (Zbz f)<|yA ?_;refine yB h (fun _ h=>?_) fun _ h=>?_;refine Zb h fun _ g h=>Za (Zbz g) ?_;iterate 4 (cases h;exact yD)
 iterate 3 refine yB h (fun _ h=>?_) fun _ h=>?_
 refine Zb h fun _ i h=>Za (Zbz i)<|yA ?_;refine yB h (fun _ h=>?_) fun _ h=>?_;refine Zb h fun _ j h=>Za (Zbz j) ?_;iterate 5 (cases h;exact yD)
theorem Zg9 {A:Zq}{C:Int}{B:ByteArray}{r:Bool}(h:Zad A C B=some r):Zp prog J0 230 [(true,ZB A),(false,[.int .i64 C]),(false,[.str B])] [(false,[(false,.bool r)])]:=by
 refine fnk func230 rfl ?_;unfold Zad at h;simp only[fnS,f230,Zu,go_sem,seval];refine Zk h (fun i _ st=>IV [(1,yM (.int .i64 C)),(2,yM (.str B)),(3,.bp 0 0),(7,yL i)] [zE 118 (ZB A)] st) [] [0] yF yD ?_ ?_;rintro _ _ ⟨⟩ ⟨_,_,_⟩ _ a d k h l;simp only[go_sem,seval,Zd]at d;obtain ⟨⟨_,_,_,_⟩,m,D⟩:=d;subst D;have o:=WF.boxL k m (j:=2) rfl;have:=Z1 a;have:=Z3 a;have:=Zt (Z0 a) o;simp only[*,go_sem,seval];refine yB h (fun _ h=>?_) fun _ h=>?_;refine Zb h fun _ q h=>Za (ZdY q)<|yA ?_;refine Zb h fun _ t h=>Za (ZbF t)<|yA ?_;refine yB h (fun _ h=>?_) fun _ h=>?_;replace h:=Zv h l;cases h;exact yD;exact yR h [0];exact yR h [0];rintro ⟨⟩ ⟨_,_,_⟩ e _ h;simp only[go_sem,seval,Zd]at e;obtain ⟨⟨_,_,_,_⟩,_,D⟩:=e;subst D;have:=ZY (A.cond.length);simp only[*,go_sem,seval];refine Zk h (fun i _ st=>IV [(2,yM (.str B)),(3,.bp 0 0),(8,yL i)] [zE 118 (ZB A)] st) [] [0] yF yD ?_ ?_
 rintro _ _ ⟨⟩ ⟨_,_,_⟩ _ b f u h v;simp only[go_sem,seval,Zd]at f;obtain ⟨⟨_,_,_⟩,w,D⟩:=f;subst D;have x:=WF.boxL u w (j:=3) rfl;have:=Z1 b;have:=Z3 b;have:=Zt (Z0 b) x;simp only[*,go_sem,seval];refine Zb h fun _ y h=>Za (Zew y)<|yA ?_;refine Zb h fun _ z h=>Za (ZbF z)<|yA ?_;refine yB h (fun _ h=>?_) fun _ h=>?_;replace h:=Zv h v;cases h;exact yD;exact yR h [0];rintro ⟨⟩ ⟨_,_,_⟩ g _ h;simp only[go_sem,seval,Zd]at g;obtain ⟨⟨_,_,_⟩,_,D⟩:=g;subst D;have:=ZY (A.thn.length);cases h;exact yD
theorem ZpQ {A:ZV}{r:Bool}(h:Zfs A=some r):Zp prog J0 231 [(true,Yd A)] [(false,[(false,.bool r)])]:=by
 refine fnk func231 rfl ?_;unfold Zfs at h;have a:Zcs ⟨#[]⟩=true:=by decide
 simp only[fnS,f231,Zu,go_sem,seval,a];refine yB h (fun _ h=>?_) fun _ h=>?_;refine Zb h fun _ b h=>Za (Za8 b) ?_;cases h;exact yD;refine yB h (fun _ h=>?_) fun _ h=>?_;refine Zb h fun _ c h=>Za (Za8 c) ?_;cases h;exact yD;iterate 2 refine yB h (fun _ h=>?_) fun _ h=>?_
 iterate 3 (cases h;exact yD)
theorem ZpH {S:Zq}{r:List ByteArray}(h:Zfh S=some r):Zp prog J0 233 [(true,ZB S)] [(false,[(false,.sl 9 1 (A0 ZM r))])]:=by
 refine fnk func233 rfl ?_;unfold Zfh at h;simp only[fnS,f233,Zu,go_sem,seval];refine Zk h (fun i a st=>IV [(1,.bp 0 0),(3,.p false [.row 1]),(4,yL i)] [zE 118 (ZB S),.row 9 1 (A0 ZM a) 2] st) [] [0,32] yF yD ?_ ?_;rintro A _ a ⟨_,_,_⟩ _ b m B h _;simp only[go_sem,seval,Zd]at m;obtain ⟨⟨_,_,_⟩,C,_,T⟩:=m;subst T;have D:=WF.boxL B C (j:=2) rfl;have:=Z1 b;have:=Z3 b;have:=Zt (Z0 b) D;simp only[*,go_sem,seval];refine Zb h fun o E h=>Za (ZdY E)<|yA ?_;refine Zk h (fun i d st=>IV [(1,.bp 0 0),(3,.p false [.row 1]),(4,yL A),(5,.p false [.row 2]),(6,yL i)] [zE 118 (ZB S),.row 9 1 (A0 ZM d) 2,.row 9 1 (A0 ZM o) 2] st) [] [0,1,162] yF yD ?_ ?_;rintro _ _ d ⟨_,_,_⟩ _ e q F h _;simp only[go_sem,seval,Zd]at q;obtain ⟨⟨_,_,_,_,_⟩,_,_,G,T⟩:=q;subst T;have H:=WF.rowL F G;have:=Z1 e;have:=Z3 e;have:=Zt (Z0 e) H;simp only[*,go_sem,seval];refine Zb h fun _ I h=>Za (Zcr I)<|yA ?_
 exact yR h [0,147,2];rintro d ⟨_,_,_⟩ t _ h;simp only[go_sem,seval,Zd]at t;obtain ⟨⟨_,_,_,_,_⟩,_,_,_,T⟩:=t;subst T;have:=ZY (o.length);simp only[*,go_sem,seval];exact yR h [0,1];rintro a ⟨_,_,_⟩ u _ h;simp only[go_sem,seval,Zd]at u;obtain ⟨⟨_,_,_⟩,_,_,T⟩:=u;subst T;have:=ZY (S.cond.length);simp only[*,go_sem,seval];refine Zk h (fun i f st=>IV [(1,.bp 0 0),(3,.p false [.row 1]),(7,yL i)] [zE 118 (ZB S),.row 9 1 (A0 ZM f) 2] st) [] [0,1] yF yD ?_ ?_;rintro J _ f ⟨_,_,_⟩ _ g v K h _;simp only[go_sem,seval,Zd]at v;obtain ⟨⟨_,_,_⟩,L,_,T⟩:=v;subst T;have M:=WF.boxL K L (j:=3) rfl;have:=Z1 g;have:=Z3 g;have:=Zt (Z0 g) M;simp only[*,go_sem,seval];refine Zb h fun w N h=>Za (Zew N)<|yA ?_;refine Zk h (fun i k st=>IV [(1,.bp 0 0),(3,.p false [.row 1]),(7,yL J),(8,.p false [.row 2]),(9,yL i)] [zE 118 (ZB S),.row 9 1 (A0 ZM k) 2,.row 9 1 (A0 ZM w) 2] st) [] [0,1,178] yF yD ?_ ?_
 rintro _ _ k ⟨_,_,_⟩ _ l x O h _;simp only[go_sem,seval,Zd]at x;obtain ⟨⟨_,_,_,_,_⟩,_,_,P,T⟩:=x;subst T;have Q:=WF.rowL O P;have:=Z1 l;have:=Z3 l;have:=Zt (Z0 l) Q;simp only[*,go_sem,seval];refine Zb h fun _ R h=>Za (Zcr R)<|yA ?_;exact yR h [0,147,2];rintro k ⟨_,_,_⟩ y _ h;simp only[go_sem,seval,Zd]at y;obtain ⟨⟨_,_,_,_,_⟩,_,_,_,T⟩:=y;subst T;have:=ZY (w.length);simp only[*,go_sem,seval];exact yR h [0,1];rintro f ⟨_,_,_⟩ z _ h;simp only[go_sem,seval,Zd]at z;obtain ⟨⟨_,_,_⟩,_,_,T⟩:=z;subst T;have:=ZY (S.thn.length);cases h;exact yD
theorem Znb {A:Zq}{r:List Zh}(h:ZcY A=some r):Zp prog J0 149 [(true,ZB A)] [(false,[(false,.sl 105 5 (A0 ZW r))])]:=by
 refine fnk func149 rfl ?_;unfold ZcY at h;simp only[fnS,f149,Zu,go_sem,seval];refine Zb h fun f g h=>Za (Znd g)<|yA ?_;refine Zk h (fun i a st=>IV [(1,.bp 0 0),(3,.p false [.row 1]),(4,.p false [.row 2]),(5,yL i)] [zE 118 (ZB A),.row 105 5 (A0 ZW a) 2,.row 206 2 (A0 Z5 f) 2] st) [] [0,32,80] yF yD ?_ ?_;rintro _ _ a ⟨_,_,_⟩ _ b d k h _;simp only[go_sem,seval,Zd]at d;obtain ⟨⟨_,_,_,_⟩,l,_,_,B⟩:=d;subst B;have m:=WF.boxL k l (j:=2) rfl;have:=Z1 b;have:=Z3 b;have:=Zt (Z0 b) m;simp only[*,go_sem,seval];refine Zb h fun _ o h=>Za (ZeB o) ?_;obtain ⟨q,h⟩:=ZD h;try simp only[Nat.reduceLeDiff]at q
 simp only[*,go_sem,seval];exact yR h [0,227,2];rintro a ⟨_,_,_⟩ e _ h;simp only[go_sem,seval,Zd]at e;obtain ⟨⟨_,_,_,_⟩,_,_,_,B⟩:=e;subst B;have:=ZY (A.cond.length);cases h;exact yD
theorem Zr2 {a:Zc}{b:Int}{d:Zh}{r:(Int×Zc)}(h:ZgN a b d=some r):ZhN prog J0 JF0 150 37 [(false,.sl 118 4 (A0 ZB a.rules)),(false,.sl 3 1 (A0 Ye a.ends)),(false,.sl 103 3 (A0 ZG a.alphas)),(false,.sl 108 8 (A0 Z6 a.nodes)),(false,.sl 60 2 (A0 Zo a.facts)),(false,.int .i64 a.tries)] none [(false,[.int .i64 b]),(true,ZW d)] [(false,[(false,.int .i64 r.1)])] [(false,.sl 118 4 (A0 ZB r.2.rules)),(false,.sl 3 1 (A0 Ye r.2.ends)),(false,.sl 103 3 (A0 ZG r.2.alphas)),(false,.sl 108 8 (A0 Z6 r.2.nodes)),(false,.sl 60 2 (A0 Zo r.2.facts)),(false,.int .i64 r.2.tries)]:=by
 refine fno func150 rfl ?_;unfold ZgN at h;simp only[fnO,f150,ZgG,gvC,go_sem,seval];refine Zba h (fun f st=>IV [(0,.bp 0 0),(1,.p false [.c (.int .i64 b)]),(5,.bp 6 0),(7,.p false [.c (.int .i64 f)])] [.box 37 [.row 1,.row 2,.row 3,.row 4,.row 5,.c (.int .i64 a.tries)],.row 118 4 (A0 ZB a.rules) 2,.row 3 1 (A0 Ye a.ends) 2,.row 103 3 (A0 ZG a.alphas) 2,.row 108 8 (A0 Z6 a.nodes) 2,.row 60 2 (A0 Zo a.facts) 2,.box 105 [.c (.int .i64 d.kind),.c (.str d.pattern.rel),.c (.sl 9 1 (A0 ZM d.pattern.args)),.c (.str d.left),.c (.str d.right)]] st) [] [0,1,2,3,4,5,6] yF ?_ ?_
 .simp only[*,go_sem,seval]
 .rintro f ⟨sl,ob,n⟩ S g N h e;simp only[go_sem,seval,Zd]at g;obtain ⟨⟨K,J,I,H⟩,G,F,E,D,C,B,A,M⟩:=g;subst M;simp only[*,go_sem,seval];refine Ze h (fun R h=>?_) (fun R h=>?_)<;>try simp only[*,go_sem,seval]
  .obtain ⟨p6,h⟩:=ZD h;obtain ⟨T,e7,h⟩:=XH h;simp only[*,go_sem,seval];refine Ze h (fun P h=>?_) (fun P h=>?_)<;>try simp only[*,go_sem,seval]
   .refine Zb h fun v5 O h=>Za (Zj9 O) ?_;simp only[*,go_sem,seval];refine Ze h (fun i h=>?_) (fun i h=>?_)<;>try simp only[*,go_sem,seval]
    .replace h:=Zv h e;obtain rfl:=A6 h;simp only[*,go_sem,seval]
    .refine ⟨_,[],[0,1,2,3,4,5,6],(A6 h).symm,yF,?_⟩;simp only[*,go_sem,seval]
   .refine ⟨_,[],[0,1,2,3,4,5,6],(A6 h).symm,yF,?_⟩;simp only[*,go_sem,seval]
  .refine Zb h fun v6 j h=>Za (Zgb j) ?_;simp only[*,go_sem,seval];refine Ze h (fun k h=>?_) (fun k h=>?_)<;>try simp only[*,go_sem,seval]
   .refine Zb h fun W l h=>Za (Zls l) ?_;simp only[*,go_sem,seval];obtain ⟨V,m,h⟩:=XH h;refine Zjk (Zle m) ?_;obtain ⟨o,h⟩:=ZD h;try simp only[Nat.reduceLeDiff]at o
    replace h:=Zv h e;obtain rfl:=A6 h;simp only[*,go_sem,seval]
   .refine Ze h (fun q h=>?_) (fun q h=>?_)<;>try simp only[*,go_sem,seval]
    .refine Zb h fun U t h=>Za (Zls t) ?_;simp only[*,go_sem,seval];obtain ⟨L,u,h⟩:=XH h;refine Zjk (Zle u) ?_;obtain ⟨v,h⟩:=ZD h;try simp only[Nat.reduceLeDiff]at v
     replace h:=Zv h e;obtain rfl:=A6 h;simp only[*,go_sem,seval]
    .obtain ⟨w,h⟩:=ZD h;try simp only[Nat.reduceLeDiff]at w
     replace h:=Zv h e;obtain rfl:=A6 h;simp only[*,go_sem,seval]
theorem ZfW {A:Zm}{String_1:Zf}{B:List Zj}{r:((List Zj)×Bool)}(h:ZbB A String_1 B=some r):Zp prog J0 111 [(true,Xu A),(true,Zo String_1),(false,[.sl 206 2 (A0 Z5 B)])] [(false,[(false,.sl 206 2 (A0 Z5 r.1))]),(false,[(false,.bool r.2)])]:=by
 refine fnk func111 rfl ?_;unfold ZbB at h;simp only[fnS,f111,Zu,go_sem,seval];refine Zb h fun _ g h=>Za (Za8 g)<|yA ?_;refine yB h (fun _ h=>?_) fun _ h=>?_;refine Zb h fun _ k h=>Za (Zjm k)<|yA ?_;refine yB h (fun _ h=>?_) fun _ h=>?_;refine Zb h fun _ l h=>Za (Zc0 l)<|yA ?_;iterate 3 refine yB h (fun _ h=>?_) fun _ h=>?_
 cases h;exact yD;refine Zb h fun _ m h=>Za (Zjs m)<|yA ?_;refine Zk h (fun i a st=>IV [(3,.bp 0 0),(4,.bp 1 0),(8,.p false [.row 2]),(9,yL i)] [.box 100 [.c (.str A.rel),.c (yV A.args)],zE 60 (Zo String_1),.row 206 2 (A0 Z5 a) 2] st) [] [0,16,544] yF yD ?_ ?_;rintro _ _ a ⟨_,_,_⟩ _ b d o h e;simp only[go_sem,seval,Zd]at d;obtain ⟨⟨_,_,_,_⟩,q,_,_,C⟩:=d;subst C;have t:=WF.boxL o q (j:=1) rfl;have:=Z1 b;have:=Z3 b;have:=Zt (Z0 b) t;simp only[*,go_sem,seval];refine Zb h fun _ u h=>Za (Zaw u)<|yA ?_;refine yB h (fun _ h=>?_) fun _ h=>?_;obtain ⟨_,_,_,v,h⟩:=Za4 h;simp only[AL]at v;simp only[*,go_sem,seval];refine yB h (fun _ h=>?_) fun _ h=>?_;exact yR h [0,1,2];replace h:=Zv h e;cases h;exact yD;obtain ⟨_,_,_,w,h⟩:=Za4 h;simp only[AL]at w;simp only[*,go_sem,seval];refine Zb h fun _ x h=>Za (Zs1 x)<|yA ?_;refine yB h (fun _ h=>?_) fun _ h=>?_;exact yR h [0,1,355]
 replace h:=Zv h e;cases h;exact yD;rintro a ⟨_,_,_⟩ f _ h;simp only[go_sem,seval,Zd]at f;obtain ⟨⟨_,_,_,_⟩,_,_,_,C⟩:=f;subst C;have:=ZY (A.args.length);iterate 5 (cases h;exact yD)
theorem ZuA {B:List Zi}{A:List Zi}{r:(Int×Int)}(h:Zjf B A=some r):Zp prog J0 112 [(false,[.sl 142 2 (A0 Yj B)]),(false,[.sl 142 2 (A0 Yj A)])] [(false,[(false,.int .i64 r.1)]),(false,[(false,.int .i64 r.2)])]:=by
 refine fnk func112 rfl ?_;unfold Zjf at h;simp only[fnS,f112,Zu,go_sem,seval];refine Zk h (fun i a st=>IV [(0,yM (zD B)),(1,yM (zD A)),(6,yM (.int .i64 a)),(7,yL i)] [] st) [] [] yF yD ?_ ?_;rintro m _ a ⟨_,_,_⟩ _ b f o h _;simp only[go_sem,seval,Zd]at f;obtain ⟨⟨q,_,_,_⟩,C⟩:=f;subst C;have t:=WF.slotL o q (j:=0) rfl;have:=Z1 b;have:=Z3 b;have:=Zt (Z0 b) t;simp only[*,go_sem,seval];refine Zk h (fun i d st=>IV [(0,yM (zD B)),(1,yM (zD A)),(6,yM (.int .i64 d)),(7,yL m),(8,yL i)] [] st) [] [] yF yD ?_ ?_;rintro _ _ d ⟨_,_,_⟩ _ e g u h _;simp only[go_sem,seval,Zd]at g;obtain ⟨⟨_,v,_,_,_⟩,C⟩:=g;subst C;have w:=WF.slotL u v (j:=0) rfl;have:=Z1 e;have:=Z3 e;have:=Zt (Z0 e) w;simp only[*,go_sem,seval];refine Zb h fun _ x h=>Za (ZkD x)<|yA ?_;refine yB h (fun _ h=>?_) fun _ h=>?_;exact yR h [];exact yR h [];rintro d ⟨_,_,_⟩ k _ h;simp only[go_sem,seval,Zd]at k
 obtain ⟨⟨_,_,_,_,_⟩,C⟩:=k;subst C;have:=ZY (A.length);simp only[*,go_sem,seval];exact yR h [];rintro a ⟨_,_,_⟩ l _ h;simp only[go_sem,seval,Zd]at l;obtain ⟨⟨_,_,_,_⟩,C⟩:=l;subst C;have:=ZY (B.length);cases h;exact yD
end
section
theorem Zkk {A:List Zf}{B:Zf}{r:Int}(h:Zby A B=some r):Zp prog J0 175 [(false,[.sl 60 2 (A0 Zo A)]),(true,Zo B)] [(false,[(false,.int .i64 r)])]:=by
 refine fnk func175 rfl ?_;unfold Zby at h;simp only[fnS,f175,Zu,go_sem,seval];refine Zk h (fun i _ st=>IV [(3,.bp 0 0),(7,yM (yU A)),(8,yL A.length),(9,yL i)] [zE 60 (Zo B)] st) [] [0] yF yD ?_ ?_;rintro _ _ ⟨⟩ ⟨_,_,_⟩ _ a b e h f;simp only[go_sem,seval,Zd]at b;obtain ⟨⟨_,g,_,_⟩,_,C⟩:=b;subst C;have k:=WF.slotL e g (j:=0) rfl;have:=Z1 a;have:=Z3 a;have:=Zt (Z0 a) k;simp only[*,go_sem,seval];refine Zb h fun _ l h=>Za (Zkd l)<|yA ?_;refine yB h (fun _ h=>?_) fun _ h=>?_;replace h:=Zv h f;cases h;exact yD;exact yR h [0];rintro ⟨⟩ ⟨_,_,_⟩ d _ h;simp only[go_sem,seval,Zd]at d;obtain ⟨⟨_,_,_,_⟩,_,C⟩:=d;subst C;have:=ZY (A.length);cases h;exact yD
end
section
theorem Znf {A:List Zf}{B:Zf}{r:((List Zf)×Bool)}(h:ZcO A B=some r):Zp prog J0 64 [(false,[.sl 60 2 (A0 Zo A)]),(true,Zo B)] [(false,[(false,.sl 60 2 (A0 Zo r.1))]),(false,[(false,.bool r.2)])]:=by
 refine fnk func64 rfl ?_;unfold ZcO at h;simp only[fnS,f64,Zu,go_sem,seval];refine Zb h fun _ a h=>Za (Zgs a)<|yA ?_;refine yB h (fun _ h=>?_) fun _ h=>?_;refine Zb h fun _ b h=>Za (Zko b)<|yA ?_;refine yB h (fun _ h=>?_) fun _ h=>?_;refine Zb h fun _ c h=>Za (Xe c) ?_;cases h;exact yD;refine Zb h fun _ d h=>Za (ZoW d) ?_;cases h;exact yD;refine Zb h fun _ e h=>Za (Xe e) ?_;cases h;exact yD
theorem Zim {A:List Zq}{r:List Zq}(h:ZcG A=some r):Zp prog J0 69 [(false,[.sl 118 4 (A0 ZB A)])] [(false,[(false,.sl 118 4 (A0 ZB r))])]:=by
 refine fnk func69 rfl ?_;unfold ZcG at h;simp only[fnS,f69,Zu,go_sem,seval];refine Zk h (fun i a st=>IV [(3,.p false [.row 0]),(6,yM (yW A)),(7,yL A.length),(8,yL i)] [.row 118 4 (A0 ZB a) 2] st) [(false,3,0)] [80] yF yD ?_ ?_;rintro _ _ a ⟨_,_,_⟩ _ b d f h _;simp only[go_sem,seval,Zd]at d;obtain ⟨⟨_,g,_,_⟩,_,B⟩:=d;subst B;have k:=WF.slotL f g (j:=0) rfl;have:=Z1 b;have:=Z3 b;have:=Zt (Z0 b) k;simp only[*,go_sem,seval];refine Zb h fun _ l h=>Za (Zqk l) ?_;obtain ⟨m,h⟩:=ZD h;try simp only[Nat.reduceLeDiff]at m
 simp only[*,go_sem,seval];exact yR h [145];rintro a ⟨_,_,_⟩ e _ h;simp only[go_sem,seval,Zd]at e;obtain ⟨⟨_,_,_,_⟩,_,B⟩:=e;subst B;have:=ZY (A.length);cases h;exact yD
theorem Zkj {A:Zq}{B:Int}{r:Bool}(h:ZdL A B=some r):Zp prog J0 199 [(true,ZB A),(false,[.int .i64 B])] [(false,[(false,.bool r)])]:=by
 refine fnk func199 rfl ?_;unfold ZdL at h;simp only[fnS,f199,Zu,go_sem,seval];obtain ⟨a,_,_,_,h⟩:=Za4 h;simp only[*,go_sem,seval];refine Zb h fun j k h=>Za (Zji k)<|yA ?_;refine Zb h fun b l h=>Za (Zgt l)<|yA ?_;refine Zk h (fun i _ st=>IV [(1,yM (.int .i64 B)),(2,.bp 0 0),(5,.bp 1 0),(6,.p false [.row 2]),(18,.p false [.row 3]),(19,yL b.length),(20,yL i)] [zE 118 (ZB A),zE 105 (ZW a),.row 9 1 (A0 ZM j) 2,.row 9 1 (A0 ZM b) 2] st) [] [0,112,176,224] yF yD ?_ ?_;rintro _ _ ⟨⟩ ⟨_,_,_⟩ _ d e m h f;simp only[go_sem,seval,Zd]at e;obtain ⟨⟨_,_,_,_,_,_,_⟩,_,_,_,o,C⟩:=e;subst C;have q:=WF.rowL m o;have:=Z1 d;have:=Z3 d;have:=Zt (Z0 d) q;simp only[*,go_sem,seval];refine yB h (fun _ h=>?_) fun _ h=>?_;exact yR h [0,1,2,3];refine Zb h fun _ t h=>Za (ZeL t)<|yA ?_;refine yB h (fun _ h=>?_) fun _ h=>?_;exact yR h [0,1,2,3];refine yB h (fun _ h=>?_) fun _ h=>?_;replace h:=Zv h f
 cases h;exact yD;refine Zb h fun _ u h=>Za (Zi9 u)<|yA ?_;refine yB h (fun _ h=>?_) fun _ h=>?_;replace h:=Zv h f;cases h;exact yD;exact yR h [0,1,2,3];rintro ⟨⟩ ⟨_,_,_⟩ g _ h;simp only[go_sem,seval,Zd]at g;obtain ⟨⟨_,_,_,_,_,_,_⟩,_,_,_,_,C⟩:=g;subst C;have:=ZY (b.length);cases h;exact yD
theorem Zlr {a:Zc}{b:Zc}{r:Bool}(h:Za9 a b=some r):Zp prog J0 127 [(true,YD a),(true,YD b)] [(false,[(false,.bool r)])]:=by
 refine ZGj [(12,[0,1,2,3,4,5,6,7,8,9,10,11,12,13],true)] func127 rfl ?_;unfold Za9 at h;simp only[fnS,f127,Zu,go_sem,Zs,seval];refine Zb h fun v1 e1 h=>Za (by have hh:=ZoR e1;first|exact hh|(simp only[go_sem,Zs, *]at hh;exact hh)) ?_;simp only[go_sem,Zs,seval, *];refine Ze h (fun c2 h=>?_) (fun c2 h=>?_)<;>try simp only[go_sem,Zs,seval, *]
 .refine Zb h fun v2 e3 h=>Za (by have hh:=Zp9 e3;first|exact hh|(simp only[go_sem,Zs, *]at hh;exact hh)) ?_;simp only[go_sem,Zs,seval, *];refine Ze h (fun c4 h=>?_) (fun c4 h=>?_)<;>try simp only[go_sem,Zs,seval, *]
  .refine Zb h fun v3 e5 h=>Za (by have hh:=Zfx e5;first|exact hh|(simp only[go_sem,Zs, *]at hh;exact hh)) ?_;simp only[go_sem,Zs,seval, *];refine Ze h (fun c6 h=>?_) (fun c6 h=>?_)<;>try simp only[go_sem,Zs,seval, *]
   .refine Ze h (fun c7 h=>?_) (fun c7 h=>?_)<;>try simp only[go_sem,Zs,seval, *]
    .obtain rfl:=A6 h;simp only[go_sem,Zs,seval, *]
    .refine Ze h (fun c8 h=>?_) (fun c8 h=>?_)<;>try simp only[go_sem,Zs,seval, *]
     .obtain rfl:=A6 h;simp only[go_sem,Zs,seval, *]
     .refine Zk h (fun i _ st=>IV [(2,.bp 0 0),(3,.bp 1 0),(51,.p false [.c (.int .i64 (a.alphas.length:Int))]),(52,.p false [.c (.int .i64 (i:Int))])] [.box 37 [.c (.sl 118 4 (A0 ZB a.rules)),.c (.sl 3 1 (A0 Ye a.ends)),.c (.sl 103 3 (A0 ZG a.alphas)),.c (.sl 108 8 (A0 Z6 a.nodes)),.c (.sl 60 2 (A0 Zo a.facts)),.c (.int .i64 a.tries)],.box 37 [.c (.sl 118 4 (A0 ZB b.rules)),.c (.sl 3 1 (A0 Ye b.ends)),.c (.sl 103 3 (A0 ZG b.alphas)),.c (.sl 108 8 (A0 Z6 b.nodes)),.c (.sl 60 2 (A0 Zo b.facts)),.c (.int .i64 b.tries)]] st) [] [0,16] yF ?_ ?_ ?_
      .simp only[go_sem,Zs,seval, *]
      .rintro i27 x28 ⟨⟩ ⟨sl,ob,n⟩ y9 e o v h w;simp only[go_sem,Zs,seval,Zd]at o;obtain ⟨⟨g13_2,g13_3,g13_51,g13_52⟩,g,og13_1,hn⟩:=o;subst hn;have k:=WF.boxL v g (j:=2) rfl;have q14:=Z1 e;have q15:=Z3 e;have q16:=Zt (Z0 e) k;obtain ⟨x29,a17,a18,y,h⟩:=Za4 h;simp only[AL]at y;simp only[go_sem,Zs,seval, *];refine Zb h fun v30 z h=>Za (by have hh:=ZbS z;first|exact hh|(simp only[go_sem,Zs, *]at hh;exact hh)) ?_;simp only[go_sem,Zs,seval, *];refine Ze h (fun A h=>?_) (fun A h=>?_)<;>try simp only[go_sem,Zs,seval, *]
       .refine Zb h fun v31 B h=>Za (by have hh:=Zfx B;first|exact hh|(simp only[go_sem,Zs, *]at hh;exact hh)) ?_;simp only[go_sem,Zs,seval, *];refine Ze h (fun C h=>?_) (fun C h=>?_)<;>try simp only[go_sem,Zs,seval, *]
        .refine ⟨_,[],[0,1],(A6 h).symm,yF,?_⟩;simp only[go_sem,Zs,seval, *]
        .replace h:=Zv h w;obtain rfl:=A6 h;simp only[go_sem,Zs,seval, *]
       .replace h:=Zv h w;obtain rfl:=A6 h;simp only[go_sem,Zs,seval, *]
      .rintro ⟨⟩ ⟨sl,ob,n⟩ q hW25 h;simp only[go_sem,Zs,seval,Zd]at q;obtain ⟨⟨g26_2,g26_3,g26_51,g26_52⟩,og26_0,og26_1,hn⟩:=q;subst hn;have q27:=ZY (a.alphas.length);simp only[go_sem,Zs,seval, *];refine Zk h (fun i _ st=>IV [(2,.bp 0 0),(3,.bp 1 0),(88,.p false [.c (.int .i64 (a.nodes.length:Int))]),(89,.p false [.c (.int .i64 (i:Int))])] [.box 37 [.c (.sl 118 4 (A0 ZB a.rules)),.c (.sl 3 1 (A0 Ye a.ends)),.c (.sl 103 3 (A0 ZG a.alphas)),.c (.sl 108 8 (A0 Z6 a.nodes)),.c (.sl 60 2 (A0 Zo a.facts)),.c (.int .i64 a.tries)],.box 37 [.c (.sl 118 4 (A0 ZB b.rules)),.c (.sl 3 1 (A0 Ye b.ends)),.c (.sl 103 3 (A0 ZG b.alphas)),.c (.sl 108 8 (A0 Z6 b.nodes)),.c (.sl 60 2 (A0 Zo b.facts)),.c (.int .i64 b.tries)]] st) [] [0,1] yF ?_ ?_ ?_
       .simp only[go_sem,Zs,seval, *]
       .rintro i41 x42 ⟨⟩ ⟨sl,ob,n⟩ y28 f t x h d;simp only[go_sem,Zs,seval,Zd]at t;obtain ⟨⟨g32_2,g32_3,g32_88,g32_89⟩,l,og32_1,hn⟩:=t;subst hn;have m:=WF.boxL x l (j:=3) rfl;have q33:=Z1 f;have q34:=Z3 f;have q35:=Zt (Z0 f) m;obtain ⟨x43,a36,a37,D,h⟩:=Za4 h;simp only[AL]at D;simp only[go_sem,Zs,seval, *];refine Ze h (fun E h=>?_) (fun E h=>?_)<;>try simp only[go_sem,Zs,seval, *]
        .replace h:=Zv h d;obtain rfl:=A6 h;simp only[go_sem,Zs,seval, *]
        .refine Ze h (fun F h=>?_) (fun F h=>?_)<;>try simp only[go_sem,Zs,seval, *]
         .replace h:=Zv h d;obtain rfl:=A6 h;simp only[go_sem,Zs,seval, *]
         .refine Zb h fun v44 G h=>Za (by have hh:=ZgD G;first|exact hh|(simp only[go_sem,Zs, *]at hh;exact hh)) ?_;simp only[go_sem,Zs,seval, *];refine Ze h (fun H h=>?_) (fun H h=>?_)<;>try simp only[go_sem,Zs,seval, *]
          .refine Zb h fun v45 I h=>Za (by have hh:=Znv I;first|exact hh|(simp only[go_sem,Zs, *]at hh;exact hh)) ?_;simp only[go_sem,Zs,seval, *];refine Ze h (fun J h=>?_) (fun J h=>?_)<;>try simp only[go_sem,Zs,seval, *]
           .refine ⟨_,[],[0,1],(A6 h).symm,yF,?_⟩;simp only[go_sem,Zs,seval, *]
           .replace h:=Zv h d;obtain rfl:=A6 h;simp only[go_sem,Zs,seval, *]
          .replace h:=Zv h d;obtain rfl:=A6 h;simp only[go_sem,Zs,seval, *]
       .rintro ⟨⟩ ⟨sl,ob,n⟩ u hW46 h;simp only[go_sem,Zs,seval,Zd]at u;obtain ⟨⟨g47_2,g47_3,g47_88,g47_89⟩,og47_0,og47_1,hn⟩:=u;subst hn;have q48:=ZY (a.nodes.length);obtain rfl:=A6 h;simp only[go_sem,Zs,seval, *]
   .obtain rfl:=A6 h;simp only[go_sem,Zs,seval, *]
  .obtain rfl:=A6 h;simp only[go_sem,Zs,seval, *]
 .obtain rfl:=A6 h;simp only[go_sem,Zs,seval, *]
theorem Zcq {B:Zm}{C:List Zj}{A:List Zf}{r:List Zf}(h:Qh B C A=some r):Zp prog J0 216 [(true,Xu B),(false,[.sl 206 2 (A0 Z5 C)]),(false,[.sl 60 2 (A0 Zo A)])] [(false,[(false,.sl 60 2 (A0 Zo r))])]:=by
 refine fnk func216 rfl ?_;unfold Qh at h;simp only[fnS,f216,Zu,go_sem,seval];refine Zk h (fun i a st=>IV [(1,yM (yX C)),(3,.bp 0 0),(7,.p false [.row 1]),(12,yM (yU A)),(13,yL A.length),(14,yL i)] [.box 100 [.c (.str B.rel),.c (yV B.args)],.row 60 2 (A0 Zo a) 2] st) [(false,7,0)] [0,96] yF yD ?_ ?_;rintro _ _ a ⟨_,_,_⟩ _ b d f h _;simp only[go_sem,seval,Zd]at d;obtain ⟨⟨_,_,_,g,_,_⟩,_,_,D⟩:=d;subst D;have k:=WF.slotL f g (j:=0) rfl;have:=Z1 b;have:=Z3 b;have:=Zt (Z0 b) k;simp only[*,go_sem,seval];refine Zb h fun _ l h=>Za (Zdb l)<|yA ?_;refine yB h (fun _ h=>?_) fun _ h=>?_;refine Zb h fun _ m h=>Za (Qq m) ?_;obtain ⟨o,h⟩:=ZD h;try simp only[Nat.reduceLeDiff]at o
 simp only[*,go_sem,seval];exact yR h [0,306];exact yR h [0,1];rintro a ⟨_,_,_⟩ e _ h;simp only[go_sem,seval,Zd]at e;obtain ⟨⟨_,_,_,_,_,_⟩,_,_,D⟩:=e;subst D;have:=ZY (A.length);cases h;exact yD
theorem Zs8 {A:Zh}{r:Bool}(h:Zlf A=some r):Zp prog J0 268 [(true,ZW A)] [(false,[(false,.bool r)])]:=by
 refine fnk func268 rfl ?_;unfold Zlf at h;simp only[fnS,f268,Zu,go_sem,seval];refine Zb h fun _ a h=>Za (Zik a)<|yA ?_;refine yB h (fun _ h=>?_) fun _ h=>?_;iterate 2 (cases h;exact yD)
theorem ZrW {A:List Zf}{B:Zf}{r:((List Zf)×Bool)}(h:Zha A B=some r):Zp prog J0 129 [(false,[.sl 60 2 (A0 Zo A)]),(true,Zo B)] [(false,[(false,.sl 60 2 (A0 Zo r.1))]),(false,[(false,.bool r.2)])]:=by
 refine fnk func129 rfl ?_;unfold Zha at h;simp only[fnS,f129,Zu,go_sem,seval];refine Zb h fun _ a h=>Za (Zgy a)<|yA ?_;refine yB h (fun _ h=>?_) fun _ h=>?_;refine Zb h fun _ b h=>Za (Zio b)<|yA ?_;refine yB h (fun _ h=>?_) fun _ h=>?_;refine Zb h fun _ c h=>Za (Zkk c)<|yA ?_;refine yB h (fun _ h=>?_) fun _ h=>?_;refine Zb h fun _ d h=>Za (Yx d) ?_;cases h;exact yD;refine yB h (fun _ h=>?_) fun _ h=>?_;refine Zb h fun _ e h=>Za (Yx e) ?_;cases h;exact yD;refine Zb h fun _ f h=>Za (Zrx f) ?_;cases h;exact yD;refine Zb h fun _ g h=>Za (Yx g) ?_;cases h;exact yD;refine Zb h fun _ i h=>Za (Yx i) ?_;cases h;exact yD
theorem ZkF {B:Zi}{A:Zi}{r:Int}(h:ZaS B A=some r):Zp prog J0 219 [(true,Yj B),(true,Yj A)] [(false,[(false,.int .i64 r)])]:=by
 refine fnk func219 rfl ?_;unfold ZaS at h;simp only[fnS,f219,Zu,go_sem,seval];refine Zb h fun _ a h=>Za (Zig a) ?_;cases h;exact yD
theorem Zng {A:List Zf}{a:Zf}{r:((List Zf)×Bool)}(h:ZcM A a=some r):Zp prog J0 131 [(false,[.sl 60 2 (A0 Zo A)]),(true,Zo a)] [(false,[(false,.sl 60 2 (A0 Zo r.1))]),(false,[(false,.bool r.2)])]:=by
 refine ZGj [(4,[0,1,2,3,4,5,6,7,8,9,10,11],true)] func131 rfl ?_;unfold ZcM at h;simp only[fnS,f131,Zu,go_sem,Zs,slB,AD,AE,AF,seval];refine Zb h fun O G h=>Za (by have hh:=Zkk G;first|exact hh|(simp only[go_sem,Zs,slB,AD,AE,AF, *]at hh;exact hh)) ?_;simp only[go_sem,Zs,slB,AD,AE,AF,seval, *];refine Zb h fun N F h=>Za (by have hh:=Zgy F;first|exact hh|(simp only[go_sem,Zs,slB,AD,AE,AF, *]at hh;exact hh)) ?_;simp only[go_sem,Zs,slB,AD,AE,AF,seval, *];refine Ze h (fun I h=>?_) (fun I h=>?_)<;>try simp only[go_sem,Zs,slB,AD,AE,AF,seval, *]
 .refine Ze h (fun H h=>?_) (fun H h=>?_)<;>try simp only[go_sem,Zs,slB,AD,AE,AF,seval, *]
  .refine Zb h fun M E h=>Za (by have hh:=Yx E;first|exact hh|(simp only[go_sem,Zs,slB,AD,AE,AF, *]at hh;exact hh)) ?_;obtain rfl:=A6 h;simp only[go_sem,Zs,slB,AD,AE,AF,seval, *]
  .obtain ⟨R,h⟩:=ZD h;simp only[go_sem,Zs,slB,AD,AE,AF,seval, *];refine Zb h fun L D h=>Za (by have hh:=Yx D;first|exact hh|(simp only[go_sem,Zs,slB,AD,AE,AF, *]at hh;exact hh)) ?_;obtain ⟨P,h⟩:=ZD h;simp only[go_sem,Zs,slB,AD,AE,AF,seval, *];refine Zb h fun K C h=>Za (by have hh:=Yx C;first|exact hh|(simp only[go_sem,Zs,slB,AD,AE,AF, *]at hh;exact hh)) ?_;obtain ⟨B,h⟩:=ZD h;obtain rfl:=A6 h;simp only[go_sem,Zs,slB,AD,AE,AF,seval, *]
 .refine Zb h fun J b h=>Za (by have hh:=Yx b;first|exact hh|(simp only[go_sem,Zs,slB,AD,AE,AF, *]at hh;exact hh)) ?_;obtain rfl:=A6 h;simp only[go_sem,Zs,slB,AD,AE,AF,seval, *]
end
section
theorem ZiM {A:Zh}{r:Bool}(h:ZcK A=some r):Zp prog J0 229 [(true,ZW A)] [(false,[(false,.bool r)])]:=by
 refine fnk func229 rfl ?_;unfold ZcK at h;simp only[fnS,f229,Zu,go_sem,seval];refine Zb h fun _ a h=>Za (ZiL a)<|yA ?_;refine yB h (fun _ h=>?_) fun _ h=>?_;iterate 2 (cases h;exact yD)
theorem ZaI {B:Zm}{C:List Zj}{A:List Zf}{r:List Zf}(h:XD B C A=some r):Zp prog J0 107 [(true,Xu B),(false,[.sl 206 2 (A0 Z5 C)]),(false,[.sl 60 2 (A0 Zo A)])] [(false,[(false,.sl 60 2 (A0 Zo r))])]:=by
 refine fnk func107 rfl ?_;unfold XD at h;simp only[fnS,f107,Zu,go_sem,seval];refine Zk h (fun i a st=>IV [(1,yM (yX C)),(2,yM (yU A)),(3,.bp 0 0),(7,.p false [.row 1]),(8,yL i)] [.box 100 [.c (.str B.rel),.c (yV B.args)],.row 60 2 (A0 Zo a) 2] st) [] [0,32] yF yD ?_ ?_;rintro _ _ a ⟨_,_,_⟩ _ b d f h _;simp only[go_sem,seval,Zd]at d;obtain ⟨⟨_,g,_,_,_⟩,_,_,D⟩:=d;subst D;have k:=WF.slotL f g (j:=0) rfl;have:=Z1 b;have:=Z3 b;have:=Zt (Z0 b) k;simp only[*,go_sem,seval];refine Zb h fun _ l h=>Za (ZfW l)<|yA ?_;refine yB h (fun _ h=>?_) fun _ h=>?_;refine Zb h fun _ m h=>Za (Qy m) ?_;obtain ⟨o,h⟩:=ZD h;try simp only[Nat.reduceLeDiff]at o
 simp only[*,go_sem,seval];exact yR h [0,386];exact yR h [0,1];rintro a ⟨_,_,_⟩ e _ h;simp only[go_sem,seval,Zd]at e;obtain ⟨⟨_,_,_,_,_⟩,_,_,D⟩:=e;subst D;have:=ZY (A.length);cases h;exact yD
theorem YI {I:Zc}{r:Zc}(h:Ym I=some r):Zp prog J0 30 [(true,YD I)] [(true,[(false,.sl 118 4 (A0 ZB r.rules)),(false,.sl 3 1 (A0 Ye r.ends)),(false,.sl 103 3 (A0 ZG r.alphas)),(false,.sl 108 8 (A0 Z6 r.nodes)),(false,.sl 60 2 (A0 Zo r.facts)),(false,.int .i64 r.tries)])]:=by
 refine fnk func30 rfl ?_;unfold Ym at h;simp only[fnS,f30,Zu,go_sem,seval];refine Zb h fun f t h=>Za (Zim t)<|yA ?_;refine Zb h fun g u h=>Za (Zqj u)<|yA ?_;refine Zb h fun k v h=>Za (Yx v)<|yA ?_;refine Zk h (fun i a st=>IV [(1,.bp 0 0),(2,.bp 1 0),(3,.bp 2 0),(21,yM (yZ I.alphas)),(22,yL I.alphas.length),(23,yL i)] [.box 37 [.c (yW I.rules),.c (yY I.ends),.c (yZ I.alphas),.c (zA I.nodes),.c (yU I.facts),.c (.int .i64 I.tries)],.box 37 [.nil 118 4,.nil 3 1,.nil 103 3,.nil 108 8,.nil 60 2,.c (.int .i64 0)],.box 37 [.row 3,.row 4,.row 5,.nil 108 8,.row 6,.c (.int .i64 I.tries)],.row 118 4 (A0 ZB f) 2,.row 3 1 (A0 Ye g) 2,.row 103 3 (A0 ZG a) 2,.row 60 2 (A0 Zo k) 2] st) [(true,224,2)] [0,16,224,64,112,320,160] yF yD ?_ ?_;rintro _ _ a ⟨_,_,_⟩ _ b l w h _;simp only[go_sem,seval,Zd]at l
 obtain ⟨⟨_,_,_,x,_,_⟩,_,_,_,_,_,_,_,J⟩:=l;subst J;have y:=WF.slotL w x (j:=0) rfl;have:=Z1 b;have:=Z3 b;have:=Zt (Z0 b) y;simp only[*,go_sem,seval];refine Zb h fun _ z h=>Za (ZdE z)<|yA ?_;refine Zb h fun _ A h=>Za (Yx A) ?_;obtain ⟨B,h⟩:=ZD h;try simp only[Nat.reduceLeDiff]at B
 simp only[*,go_sem,seval];exact yR h [0,1,2,3,4,247,6];rintro a ⟨_,_,_⟩ m _ h;simp only[go_sem,seval,Zd]at m;obtain ⟨⟨_,_,_,_,_,_⟩,_,_,_,_,_,_,_,J⟩:=m;subst J;have:=ZY (I.alphas.length);simp only[*,go_sem,seval];refine Zk h (fun i d st=>IV [(2,.bp 0 0),(3,.bp 1 0),(41,yM (zA I.nodes)),(42,yL I.nodes.length),(43,yL i)] [.box 37 [.nil 118 4,.nil 3 1,.nil 103 3,.nil 108 8,.nil 60 2,.c (.int .i64 0)],.box 37 [.row 2,.row 3,.row 4,.row 5,.row 6,.c (.int .i64 I.tries)],.row 118 4 (A0 ZB f) 2,.row 3 1 (A0 Ye g) 2,.row 103 3 (A0 ZG a) 2,.row 108 8 (A0 Z6 d) 2,.row 60 2 (A0 Zo k) 2] st) [(true,2,3)] [1,2,3,4,5,87,6] yF yD ?_ ?_;rintro _ _ d ⟨_,_,_⟩ _ e o C h _;simp only[go_sem,seval,Zd]at o;obtain ⟨⟨_,_,D,_,_⟩,_,_,_,_,_,_,_,J⟩:=o;subst J;have E:=WF.slotL C D (j:=0) rfl;have:=Z1 e;have:=Z3 e;have:=Zt (Z0 e) E;simp only[*,go_sem,seval]
 refine Zb h fun _ F h=>Za (Zah F)<|yA ?_;refine Zb h fun _ G h=>Za (Znc G) ?_;obtain ⟨H,h⟩:=ZD h;try simp only[Nat.reduceLeDiff]at H
 simp only[*,go_sem,seval];exact yR h [0,1,2,3,4,311,6];rintro d ⟨_,_,_⟩ q _ h;simp only[go_sem,seval,Zd]at q;obtain ⟨⟨_,_,_,_,_⟩,_,_,_,_,_,_,_,J⟩:=q;subst J;have:=ZY (I.nodes.length);cases h;exact yD
theorem Zuu {R:Zq}{r:Bool}(h:Ziu R=some r):Zp prog J0 163 [(true,ZB R)] [(false,[(false,.bool r)])]:=by
 refine fnk func163 rfl ?_;unfold Ziu at h;simp only[fnS,f163,Zu,go_sem,seval];refine Zb h fun _ v h=>Za (Zir v)<|yA ?_;iterate 2 refine yB h (fun _ h=>?_) fun _ h=>?_
 iterate 5 (cases h;simp only[*,go_sem,seval];refine Ze h (fun _ h=>?_) fun _ h=>?_<;>try simp only[*,go_sem,seval])
 cases h;exact yD;refine Zk h (fun i _ st=>IV [(1,.bp 0 0),(49,yM (zB R.cond)),(50,yL R.cond.length),(51,yL i)] [zE 118 (ZB R)] st) [] [0] yF yD ?_ ?_;rintro _ _ ⟨⟩ ⟨_,_,_⟩ _ a g w h b;simp only[go_sem,seval,Zd]at g;obtain ⟨⟨_,x,_,_⟩,_,S⟩:=g;subst S;have y:=WF.slotL w x (j:=0) rfl;have:=Z1 a;have:=Z3 a;have:=Zt (Z0 a) y;simp only[*,go_sem,seval];refine Zb h fun _ z h=>Za (Zik z)<|yA ?_;iterate 3 refine yB h (fun _ h=>?_) fun _ h=>?_
 replace h:=Zv h b;cases h;exact yD;refine Zb h fun _ A h=>Za (Zkj A)<|yA ?_;refine yB h (fun _ h=>?_) fun _ h=>?_;exact yR h [0];replace h:=Zv h b;cases h;exact yD;refine Zb h fun _ B h=>Za (Zkj B)<|yA ?_;refine yB h (fun _ h=>?_) fun _ h=>?_;refine ⟨_,[],[0],(A6 h).symm,yF,?_⟩;iterate 2 (simp only[*,go_sem,seval];replace h:=Zv h b;cases h)
 simp only[*,go_sem,seval];rintro ⟨⟩ ⟨_,_,_⟩ k _ h;simp only[go_sem,seval,Zd]at k;obtain ⟨⟨_,_,_,_⟩,_,S⟩:=k;subst S;have:=ZY (R.cond.length);simp only[*,go_sem,seval];refine Zb h fun l C h=>Za (Zji C)<|yA ?_;refine Zk h (fun i _ st=>IV [(1,.bp 0 0),(5,.p false [.row 1]),(81,yM (zC R.thn)),(82,yL R.thn.length),(83,yL i)] [zE 118 (ZB R),.row 9 1 (A0 ZM l) 2] st) [] [0,81] yF yD ?_ ?_;rintro D _ ⟨⟩ ⟨_,_,_⟩ _ d m E h o;simp only[go_sem,seval,Zd]at m;obtain ⟨⟨_,_,F,_,_⟩,_,_,S⟩:=m;subst S;have G:=WF.slotL E F (j:=0) rfl;have:=Z1 d;have:=Z3 d;have:=Zt (Z0 d) G;simp only[*,go_sem,seval];refine Zb h fun _ H h=>Za (Zp7 H)<|yA ?_;refine yB h (fun _ h=>?_) fun _ h=>?_;refine Zb h fun e I h=>Za (Zfa I)<|yA ?_
 refine Zk h (fun i _ st=>IV [(1,.bp 0 0),(5,.p false [.row 1]),(81,yM (zC R.thn)),(82,yL R.thn.length),(83,yL D),(93,.p false [.row 2]),(94,yL e.length),(95,yL i)] [zE 118 (ZB R),.row 9 1 (A0 ZM l) 2,.row 9 1 (A0 ZM e) 2] st) [] [0,1,178] yF yD ?_ ?_;rintro _ _ ⟨⟩ ⟨_,_,_⟩ _ f q J h K;simp only[go_sem,seval,Zd]at q;obtain ⟨⟨_,_,_,_,_,_,_,_⟩,_,_,L,S⟩:=q;subst S;have M:=WF.rowL J L;have:=Z1 f;have:=Z3 f;have:=Zt (Z0 f) M;simp only[*,go_sem,seval];refine Zb h fun _ N h=>Za (ZeL N)<|yA ?_;refine yB h (fun _ h=>?_) fun _ h=>?_;exact yR h [0,1,2];replace h:=Zv h K;replace h:=Zv h o;cases h;exact yD;rintro ⟨⟩ ⟨_,_,_⟩ t _ h;simp only[go_sem,seval,Zd]at t;obtain ⟨⟨_,_,_,_,_,_,_,_⟩,_,_,_,S⟩:=t;subst S;have:=ZY (e.length);simp only[*,go_sem,seval];exact yR h [0,1];replace h:=Zv h o;cases h;exact yD;rintro ⟨⟩ ⟨_,_,_⟩ u _ h;simp only[go_sem,seval,Zd]at u
 obtain ⟨⟨_,_,_,_,_⟩,_,_,S⟩:=u;subst S;have:=ZY (R.thn.length);simp only[*,go_sem,seval];refine Zb h fun _ O h=>Za (Zns O)<|yA ?_;refine Zb h fun _ P h=>Za (Zdt P) ?_;iterate 2 (cases h;exact yD)
theorem Zof {b:List Zq}{r:Zc}(h:Zes b=some r):Zp prog J0 173 [(false,[.sl 118 4 (A0 ZB b)])] [(true,[(false,.sl 118 4 (A0 ZB r.rules)),(false,.sl 3 1 (A0 Ye r.ends)),(false,.sl 103 3 (A0 ZG r.alphas)),(false,.sl 108 8 (A0 Z6 r.nodes)),(false,.sl 60 2 (A0 Zo r.facts)),(false,.int .i64 r.tries)])]:=by
 refine fnk func173 rfl ?_;unfold Zes at h;simp only[fnS,f173,Zu,go_sem,seval];refine Zb h fun _ E h=>Za (Zim E)<|yA ?_;refine Zk h (fun i s st=>match s with|(d,e,f,g,k,l)=>IV [(2,.bp 0 0),(3,.bp 1 0),(14,yM (yW b)),(15,yL b.length),(16,yL i)] [.box 37 [.nil 118 4,.nil 3 1,.nil 103 3,.nil 108 8,.nil 60 2,.c (.int .i64 0)],.box 37 [.row 2,.row 3,.row 4,.row 5,.row 6,.c (.int .i64 d)],.row 118 4 (A0 ZB e) 2,.row 3 1 (A0 Ye f) 2,.row 103 3 (A0 ZG g) 2,.row 108 8 (A0 Z6 k) 2,.row 60 2 (A0 Zo l) 2] st) [(true,96,1),(true,96,2),(true,96,4)] [0,96,32,176,177,64,178] yF yD ?_ ?_;rintro F _ ⟨d,e,f,g,k,l⟩ ⟨_,_,_⟩ _ m A G h _;simp only[go_sem,seval,Zd]at A;obtain ⟨⟨_,_,H,_,_⟩,_,_,_,_,_,_,_,P⟩:=A;subst P;have I:=WF.slotL G H (j:=0) rfl;have:=Z1 m;have:=Z3 m;have:=Zt (Z0 m) I;simp only[*,go_sem,seval];refine Zb h fun o J h=>Za (Znm J)<|yA ?_
 refine Zk h (fun i s st=>match s with|(q,t,u,v,w,x,y)=>IV [(2,.bp 0 0),(3,.bp 1 0),(6,yM (.int .i64 y)),(14,yM (yW b)),(15,yL b.length),(16,yL F),(21,.p false [.row 7]),(22,yL o.length),(23,yL i)] [.box 37 [.nil 118 4,.nil 3 1,.nil 103 3,.nil 108 8,.nil 60 2,.c (.int .i64 0)],.box 37 [.row 2,.row 3,.row 4,.row 5,.row 6,.c (.int .i64 q)],.row 118 4 (A0 ZB t) 2,.row 3 1 (A0 Ye u) 2,.row 103 3 (A0 ZG v) 2,.row 108 8 (A0 Z6 w) 2,.row 60 2 (A0 Zo x) 2,.row 105 5 (A0 ZW o) 2] st) [] [0,1,2,3,4,5,6,119] yF yD ?_ ?_;rintro _ _ ⟨q,t,u,v,w,x,y⟩ ⟨_,_,_⟩ _ z B K h _;simp only[go_sem,seval,Zd]at B;obtain ⟨⟨_,_,_,_,_,_,_,_,_⟩,_,_,_,_,_,_,_,L,P⟩:=B;subst P;have M:=WF.rowL K L;have:=Z1 z;have:=Z3 z;have:=Zt (Z0 z) M;simp only[*,go_sem,seval];obtain ⟨_,N,h⟩:=XH h;refine Zjk (ZkT N)<|yA ?_;exact yR h [0,1,120,121,122,123,124,7];rintro ⟨q,t,u,v,w,x,y⟩ ⟨_,_,_⟩ C _ h;simp only[go_sem,seval,Zd]at C
 obtain ⟨⟨_,_,_,_,_,_,_,_,_⟩,_,_,_,_,_,_,_,_,P⟩:=C;subst P;have:=ZY (o.length);obtain ⟨O,h⟩:=ZD h;try simp only[Nat.reduceLeDiff]at O
 simp only[*,go_sem,seval];exact yR h [0,1,2,88,4,5,6];rintro ⟨d,e,f,g,k,l⟩ ⟨_,_,_⟩ D _ h;simp only[go_sem,seval,Zd]at D;obtain ⟨⟨_,_,_,_,_⟩,_,_,_,_,_,_,_,P⟩:=D;subst P;have:=ZY (b.length);cases h;exact yD
theorem Zpi {A:Zh}{String_1:List Zj}{r:Bool}(h:Zey A String_1=some r):Zp prog J0 262 [(true,ZW A),(false,[.sl 206 2 (A0 Z5 String_1)])] [(false,[(false,.bool r)])]:=by
 refine fnk func262 rfl ?_;unfold Zey at h;simp only[fnS,f262,Zu,go_sem,seval];refine Zb h fun _ a h=>Za (Zs8 a)<|yA ?_;refine yB h (fun _ h=>?_) fun _ h=>?_;refine Zb h fun _ b h=>Za (ZcQ b)<|yA ?_;refine yB h (fun _ h=>?_) fun _ h=>?_;refine Zb h fun _ c h=>Za (ZhF c)<|yA ?_;refine Zb h fun _ d h=>Za (ZhF d)<|yA ?_;iterate 3 refine yB h (fun _ h=>?_) fun _ h=>?_
 cases h;exact yD;refine yB h (fun _ h=>?_) fun _ h=>?_;cases h;exact yD;refine Zb h fun _ e h=>Za (ZdZ e)<|yA ?_;refine Zb h fun _ f h=>Za (ZdZ f)<|yA ?_;iterate 2 refine yB h (fun _ h=>?_) fun _ h=>?_
 iterate 7 (cases h;exact yD)
theorem ZpJ {A:List Zi}{B:Zi}{r:Bool}(h:ZfR A B=some r):Zp prog J0 177 [(false,[.sl 142 2 (A0 Yj A)]),(true,Yj B)] [(false,[(false,.bool r)])]:=by
 refine fnk func177 rfl ?_;unfold ZfR at h;simp only[fnS,f177,Zu,go_sem,seval];refine Zk h (fun i _ st=>IV [(3,.bp 0 0),(7,yM (zD A)),(8,yL A.length),(9,yL i)] [zE 142 (Yj B)] st) [] [0] yF yD ?_ ?_;rintro _ _ ⟨⟩ ⟨_,_,_⟩ _ a b e h f;simp only[go_sem,seval,Zd]at b;obtain ⟨⟨_,g,_,_⟩,_,C⟩:=b;subst C;have k:=WF.slotL e g (j:=0) rfl;have:=Z1 a;have:=Z3 a;have:=Zt (Z0 a) k;simp only[*,go_sem,seval];refine Zb h fun _ l h=>Za (ZkF l)<|yA ?_;refine yB h (fun _ h=>?_) fun _ h=>?_;replace h:=Zv h f;cases h;exact yD;exact yR h [0];rintro ⟨⟩ ⟨_,_,_⟩ d _ h;simp only[go_sem,seval,Zd]at d;obtain ⟨⟨_,_,_,_⟩,_,C⟩:=d;subst C;have:=ZY (A.length);cases h;exact yD
end
section
theorem ZsT {append_0:Zq}{r:Bool}(h:Zjb append_0=some r):Zp prog J0 185 [(true,ZB append_0)] [(false,[(false,.bool r)])]:=by
 refine fnk func185 rfl ?_;unfold Zjb at h;simp only[fnS,f185,Zu,go_sem,seval];refine Zb h fun _ H h=>Za (ZjD H)<|yA ?_;refine yB h (fun _ h=>?_) fun _ h=>?_;refine Zb h fun _ I h=>Za (ZbU I)<|yA ?_;refine yB h (fun _ h=>?_) fun _ h=>?_;refine Zb h fun _ J h=>Za (ZbU J)<|yA ?_;refine yB h (fun _ h=>?_) fun _ h=>?_;refine Zb h fun _ K h=>Za (ZbU K)<|yA ?_;refine yB h (fun _ h=>?_) fun _ h=>?_;refine Zb h fun e L h=>Za (ZfK L)<|yA ?_;refine Zk h (fun i _ st=>IV [(1,.bp 0 0),(3,.p false [.row 1]),(4,yL i)] [zE 118 (ZB append_0),.row 9 1 (A0 ZM e) 2] st) [] [0,480] yF yD ?_ ?_;rintro b a ⟨⟩ ⟨_,_,_⟩ _ f o M h d;simp only[go_sem,seval,Zd]at o;obtain ⟨⟨_,_,_⟩,N,_,hn⟩:=o;subst hn;have O:=WF.boxL M N (j:=2) rfl;have:=Z1 f;have:=Z3 f;have:=Zt (Z0 f) O;simp only[*,go_sem,seval];refine Zb h fun _ P h=>Za (ZiL P)<|yA ?_;iterate 3 refine yB h (fun _ h=>?_) fun _ h=>?_
 replace h:=Zv h d;cases h;exact yD;refine Zb h fun Q R h=>Za (ZfK R)<|yA ?_;refine Zb h fun q S h=>Za (ZdY S)<|yA ?_;refine Zk h (fun i _ st=>IV [(1,.bp 0 0),(3,.p false [.row 1]),(4,yL b),(5,.bp 2 0),(6,.p false [.row 3]),(7,.p false [.row 4]),(8,yL i),(58,yL b),(59,yM (.bool ((b:Int)==0))),(60,yM (.bool ((b:Int)==0))),(61,.bp 2 0),(62,yM (.int .i64 a.kind)),(63,yM (.bool (a.kind != 1))),(64,yM (.bool (a.kind != 1)))] [zE 118 (ZB append_0),.row 9 1 (A0 ZM e) 2,zE 105 (ZW a),.row 9 1 (A0 ZM Q) 2,.row 9 1 (A0 ZM q) 2] st) [] [0,1,162,418,466] yF yD ?_ ?_;rintro _ _ ⟨⟩ ⟨_,_,_⟩ _ g t T h u;simp only[go_sem,seval,Zd]at t;obtain ⟨⟨_,_,_,_,_,_,_,_,_,_,_,_,_,_⟩,_,_,_,_,U,hn⟩:=t;subst hn;have V:=WF.rowL T U;have:=Z1 g;have:=Z3 g;have:=Zt (Z0 g) V;simp only[*,go_sem,seval];refine Zb h fun _ W h=>Za (ZbF W)<|yA ?_;refine Zb h fun _ X h=>Za (ZiM X)<|yA ?_
 iterate 3 refine yB h (fun _ h=>?_) fun _ h=>?_
 exact yR h [0,1,2,3,4];exact yR h [0,1,2,3,4];replace h:=Zv h u;replace h:=Zv h d;cases h;exact yD;iterate 2 refine yB h (fun _ h=>?_) fun _ h=>?_
 exact yR h [0,1,2,3,4];refine Zb h fun _ Y h=>Za (Zg9 Y)<|yA ?_;refine yB h (fun _ h=>?_) fun _ h=>?_;replace h:=Zv h u;replace h:=Zv h d;cases h;exact yD;exact yR h [0,1,2,3,4];exact yR h [0,1,2,3,4];rintro ⟨⟩ ⟨_,_,_⟩ v _ h;simp only[go_sem,seval,Zd]at v;obtain ⟨⟨_,_,_,_,_,_,_,_,_,_,_,_,_,_⟩,_,_,_,_,_,hn⟩:=v;subst hn;have:=ZY (q.length);simp only[*,go_sem,seval];exact yR h [0,1];refine Zb h fun Z aa h=>Za (ZfK aa)<|yA ?_;refine Zb h fun w ab h=>Za (ZdY ab)<|yA ?_;refine Zk h (fun i _ st=>IV [(1,.bp 0 0),(3,.p false [.row 1]),(4,yL b),(5,.bp 2 0),(6,.p false [.row 3]),(7,.p false [.row 4]),(8,yL i),(58,yL b),(59,yM (.bool ((b:Int)==0))),(60,yM (.bool ((b:Int)==0))),(64,yM (.bool false))] [zE 118 (ZB append_0),.row 9 1 (A0 ZM e) 2,zE 105 (ZW a),.row 9 1 (A0 ZM Z) 2,.row 9 1 (A0 ZM w) 2] st) [] [0,1,162,418,466] yF yD ?_ ?_;rintro _ _ ⟨⟩ ⟨_,_,_⟩ _ k x ac h y
 simp only[go_sem,seval,Zd]at x;obtain ⟨⟨_,_,_,_,_,_,_,_,_,_,_⟩,_,_,_,_,ad,hn⟩:=x;subst hn;have ae:=WF.rowL ac ad;have:=Z1 k;have:=Z3 k;have:=Zt (Z0 k) ae;simp only[*,go_sem,seval];refine Zb h fun _ af h=>Za (ZbF af)<|yA ?_;refine Zb h fun _ ag h=>Za (ZiM ag)<|yA ?_;iterate 3 refine yB h (fun _ h=>?_) fun _ h=>?_
 exact yR h [0,1,2,3,4];exact yR h [0,1,2,3,4];replace h:=Zv h y;replace h:=Zv h d;cases h;exact yD;iterate 2 refine yB h (fun _ h=>?_) fun _ h=>?_
 exact yR h [0,1,2,3,4];refine Zb h fun _ ah h=>Za (Zg9 ah)<|yA ?_;refine yB h (fun _ h=>?_) fun _ h=>?_;replace h:=Zv h y;replace h:=Zv h d;cases h;exact yD;exact yR h [0,1,2,3,4];exact yR h [0,1,2,3,4];rintro ⟨⟩ ⟨_,_,_⟩ z _ h;simp only[go_sem,seval,Zd]at z;obtain ⟨⟨_,_,_,_,_,_,_,_,_,_,_⟩,_,_,_,_,_,hn⟩:=z;subst hn;have:=ZY (w.length);simp only[*,go_sem,seval];exact yR h [0,1];replace h:=Zv h d;cases h;exact yD;rintro ⟨⟩ ⟨_,_,_⟩ A _ h;simp only[go_sem,seval,Zd]at A;obtain ⟨⟨_,_,_⟩,_,_,hn⟩:=A;subst hn;have:=ZY (append_0.cond.length);simp only[*,go_sem,seval];refine Zk h (fun i _ st=>IV [(1,.bp 0 0),(3,.p false [.row 1]),(10,yL i)] [zE 118 (ZB append_0),.row 9 1 (A0 ZM e) 2] st) [] [0,1] yF yD ?_ ?_;rintro ai _ ⟨⟩ ⟨_,_,_⟩ _ l B aj h C;simp only[go_sem,seval,Zd]at B;obtain ⟨⟨_,_,_⟩,ak,_,hn⟩:=B;subst hn;have al:=WF.boxL aj ak (j:=3) rfl;have:=Z1 l;have:=Z3 l;have:=Zt (Z0 l) al
 simp only[*,go_sem,seval];refine Zb h fun _ am h=>Za (ZpQ am)<|yA ?_;refine yB h (fun _ h=>?_) fun _ h=>?_;refine Zb h fun D an h=>Za (Zew an)<|yA ?_;refine Zk h (fun i _ st=>IV [(1,.bp 0 0),(3,.p false [.row 1]),(10,yL ai),(11,.p false [.row 2]),(12,yL i)] [zE 118 (ZB append_0),.row 9 1 (A0 ZM e) 2,.row 9 1 (A0 ZM D) 2] st) [] [0,1,290] yF yD ?_ ?_;rintro _ _ ⟨⟩ ⟨_,_,_⟩ _ m E ao h ap;simp only[go_sem,seval,Zd]at E;obtain ⟨⟨_,_,_,_,_⟩,_,_,aq,hn⟩:=E;subst hn;have ar:=WF.rowL ao aq;have:=Z1 m;have:=Z3 m;have:=Zt (Z0 m) ar;simp only[*,go_sem,seval];refine Zb h fun _ au h=>Za (ZbF au)<|yA ?_;refine yB h (fun _ h=>?_) fun _ h=>?_;exact yR h [0,1,2];replace h:=Zv h ap;replace h:=Zv h C;cases h;exact yD;rintro ⟨⟩ ⟨_,_,_⟩ F _ h;simp only[go_sem,seval,Zd]at F;obtain ⟨⟨_,_,_,_,_⟩,_,_,_,hn⟩:=F;subst hn;have:=ZY (D.length);simp only[*,go_sem,seval];exact yR h [0,1];replace h:=Zv h C
 cases h;exact yD;rintro ⟨⟩ ⟨_,_,_⟩ G _ h;simp only[go_sem,seval,Zd]at G;obtain ⟨⟨_,_,_⟩,_,_,hn⟩:=G;subst hn;have:=ZY (append_0.thn.length);simp only[*,go_sem,seval];refine Zb h fun _ av h=>Za (ZpH av) ?_;iterate 5 (cases h;exact yD)
theorem ZnV {A:Zh}{B:List Zj}{r:Bool}(h:Zec A B=some r):Zp prog J0 195 [(true,ZW A),(false,[.sl 206 2 (A0 Z5 B)])] [(false,[(false,.bool r)])]:=by
 refine fnk func195 rfl ?_;unfold Zec at h;simp only[fnS,f195,Zu,go_sem,seval];refine Zb h fun _ a h=>Za (ZiM a)<|yA ?_;refine yB h (fun _ h=>?_) fun _ h=>?_;refine Zb h fun _ b h=>Za (Zc0 b)<|yA ?_;refine yB h (fun _ h=>?_) fun _ h=>?_;refine Zb h fun _ c h=>Za (Zhg c)<|yA ?_;refine Zb h fun _ d h=>Za (Zhg d)<|yA ?_;iterate 3 refine yB h (fun _ h=>?_) fun _ h=>?_
 cases h;exact yD;refine yB h (fun _ h=>?_) fun _ h=>?_;cases h;exact yD;refine Zb h fun _ e h=>Za (Zkt e)<|yA ?_;refine yB h (fun _ h=>?_) fun _ h=>?_;refine Zb h fun _ f h=>Za (Zkt f)<|yA ?_;refine yB h (fun _ h=>?_) fun _ h=>?_;refine Zb h fun _ g h=>Za (Zf4 g) ?_;iterate 7 (cases h;exact yD)
theorem Zp0 {A:List Zq}{r:Bool}(h:ZfT A=some r):Zp prog J0 125 [(false,[.sl 118 4 (A0 ZB A)])] [(false,[(false,.bool r)])]:=by
 refine fnk func125 rfl ?_;unfold ZfT at h;simp only[fnS,f125,Zu,go_sem,seval];refine yB h (fun _ h=>?_) fun _ h=>?_;cases h;exact yD;refine Zk h (fun i _ st=>IV [(0,yM (yW A)),(8,yM (yW A)),(9,yL A.length),(10,yL i)] [] st) [] [] yF yD ?_ ?_;rintro _ _ ⟨⟩ ⟨_,_,_⟩ _ a b f h d;simp only[go_sem,seval,Zd]at b;obtain ⟨⟨g,_,_,_⟩,B⟩:=b;subst B;have k:=WF.slotL f g (j:=0) rfl;have:=Z1 a;have:=Z3 a;have:=Zt (Z0 a) k;simp only[*,go_sem,seval];refine Zb h fun _ l h=>Za (Zuu l)<|yA ?_;refine yB h (fun _ h=>?_) fun _ h=>?_;refine Zb h fun _ m h=>Za (ZpF m)<|yA ?_;refine yB h (fun _ h=>?_) fun _ h=>?_;replace h:=Zv h d;cases h;exact yD;exact yR h [];replace h:=Zv h d;cases h;exact yD;rintro ⟨⟩ ⟨_,_,_⟩ e _ h;simp only[go_sem,seval,Zd]at e;obtain ⟨⟨_,_,_,_⟩,B⟩:=e;subst B;have:=ZY (A.length);cases h;exact yD
theorem ZnY {B:Zh}{C:List Zj}{A:List Zf}{r:Bool}(h:Zev B C A=some r):Zp prog J0 249 [(true,ZW B),(false,[.sl 206 2 (A0 Z5 C)]),(false,[.sl 60 2 (A0 Zo A)])] [(false,[(false,.bool r)])]:=by
 refine fnk func249 rfl ?_;unfold Zev at h;simp only[fnS,f249,Zu,go_sem,seval];refine Zb h fun _ a h=>Za (Zik a)<|yA ?_;refine yB h (fun _ h=>?_) fun _ h=>?_;refine Zb h fun _ b h=>Za (ZcQ b)<|yA ?_;iterate 2 refine yB h (fun _ h=>?_) fun _ h=>?_
 refine Zb h fun _ c h=>Za (Zcq c) ?_;cases h;exact yD;refine yB h (fun _ h=>?_) fun _ h=>?_;refine Zb h fun _ d h=>Za (Zcq d) ?_;cases h;exact yD;refine Zb h fun _ e h=>Za (Zpi e) ?_;iterate 3 (cases h;exact yD)
end
section
theorem ZpG {l_0:List Zq}{r:Bool}(h:Zfv l_0=some r):Zp prog J0 148 [(false,[.sl 118 4 (A0 ZB l_0)])] [(false,[(false,.bool r)])]:=by
 refine fnk func148 rfl ?_;unfold Zfv at h;simp only[fnS,f148,Zu,go_sem,seval];refine Zk h (fun i _ st=>IV [(0,yM (yW l_0)),(3,yL i)] [] st) [] [] yF yD ?_ ?_;rintro _ _ ⟨⟩ ⟨_,_,_⟩ _ a b f h d;simp only[go_sem,seval,Zd]at b;obtain ⟨⟨g,_⟩,hn⟩:=b;subst hn;have k:=WF.slotL f g (j:=0) rfl;have:=Z1 a;have:=Z3 a;have:=Zt (Z0 a) k;simp only[*,go_sem,seval];refine Zb h fun _ l h=>Za (ZsT l)<|yA ?_;refine yB h (fun _ h=>?_) fun _ h=>?_;refine Zb h fun _ m h=>Za (Zqi m)<|yA ?_;refine yB h (fun _ h=>?_) fun _ h=>?_;replace h:=Zv h d;cases h;exact yD;exact yR h [];replace h:=Zv h d;cases h;exact yD;rintro ⟨⟩ ⟨_,_,_⟩ e _ h;simp only[go_sem,seval,Zd]at e;obtain ⟨⟨_,_⟩,hn⟩:=e;subst hn;have:=ZY (l_0.length);cases h;exact yD
theorem Zpa {B:Zh}{C:List Zj}{A:List Zf}{r:Bool}(h:Zeu B C A=some r):Zp prog J0 159 [(true,ZW B),(false,[.sl 206 2 (A0 Z5 C)]),(false,[.sl 60 2 (A0 Zo A)])] [(false,[(false,.bool r)])]:=by
 refine fnk func159 rfl ?_;unfold Zeu at h;simp only[fnS,f159,Zu,go_sem,seval];refine Zb h fun _ a h=>Za (ZiL a)<|yA ?_;refine yB h (fun _ h=>?_) fun _ h=>?_;refine Zb h fun _ b h=>Za (Zc0 b)<|yA ?_;iterate 2 refine yB h (fun _ h=>?_) fun _ h=>?_
 refine Zb h fun _ c h=>Za (ZaI c) ?_;cases h;exact yD;refine yB h (fun _ h=>?_) fun _ h=>?_;refine Zb h fun _ d h=>Za (ZaI d) ?_;cases h;exact yD;refine Zb h fun _ e h=>Za (ZnV e) ?_;iterate 3 (cases h;exact yD)
end
section
open Go.RowKit
structure Enc {α:Type}(c:YC α) (f:α->List CT):Prop where
 to:∀{w:World} {cs:List Value} {x:α} {L:List Nat},c.rep w cs x L->RCs w (f x) cs L
 of:∀{w:World} {cs:List Value} {x:α} {L:List Nat},RCs w (f x) cs L->c.rep w cs x L
section
variable {α:Type} {c:YC α} {f:α->List CT} {w:World}
theorem Enc.reps (h:Enc c f):∀{ds:List α}{xs:List Value}{L:List Nat},c.reps w xs ds L->REs w c.size (ds.map f) xs L
 | [],_,_,h1=>h1
 |_::_,_,_,⟨c1,c2,L1,L2,h1,h2,h3,h4⟩=>⟨c1,c2,L1,L2,h1,h2,⟨h.to h3,c.len h3⟩,h.reps h4⟩
theorem Enc.reps_of (h:Enc c f):∀{ds:List α}{xs:List Value}{L:List Nat},REs w c.size (ds.map f) xs L->c.reps w xs ds L
 | [],_,_,h1=>h1
 |_::_,_,_,⟨c1,c2,L1,L2,h1,h2,h3,h4⟩=>⟨c1,c2,L1,L2,h1,h2,h.of h3.1,h.reps_of h4⟩
theorem Enc.sl (h:Enc c f) (e:Nat) {v:Value}{ds:List α}{L:List Nat}:(Zz c).rep w [v] ds L↔RC w (.sl e c.size (ds.map f)) v L:=by
 constructor
 .rintro ⟨A,cap,B,G,F,xs,L0,L1,C,E,D⟩;obtain rfl:v=_:=by simpa using B
  exact ⟨A,cap,xs,L0,L1,yG,by simpa using G,F,C,c.pos,by simpa using E,h.reps D⟩
 .rintro ⟨A,cap,xs,L0,L1,B,G,F,C,H,E,D⟩;exact ⟨A,cap,by simpa using B,by simpa using G,F,xs,L0,L1,C,by simpa using E,h.reps_of D⟩
theorem RCs.solo {x:CT}{v:Value}{L:List Nat}(h:RC w x v L):RCs w [x] [v] L:=⟨v,[],L,[],rfl,yG,h,rfl,rfl⟩
theorem RCs.more {x:CT}{v:Value}{L M:List Nat}{r:List CT}{cs:List Value}(h:RC w x v L) (k:RCs w r cs M):RCs w (x::r) (v::cs) (L++M):=⟨v,cs,L,M,rfl,rfl,h,k⟩
end
theorem ZyL:Enc ZeD Ye where
 to:=fun ⟨B,A⟩=>by subst B;subst A;exact RCs.solo ⟨rfl,rfl⟩
 of:=fun ⟨v,F,L1,L2,B,A,E,D,C⟩=>by
  obtain ⟨rfl,rfl⟩:=E;subst D;subst C;exact ⟨B,A⟩
theorem encStr:Enc ZbY ZM where
 to:=fun ⟨C,B,A⟩=>by subst C;subst B;exact RCs.solo ⟨rfl,rfl,A⟩
 of:=fun ⟨v,F,L1,L2,C,B,A,E,D⟩=>by
  obtain ⟨rfl,rfl,t⟩:=A;subst E;subst D;exact ⟨C,B,t⟩
def Zup (w:World):Bool×List CT->Value->Prop:=Zj4 w fun _=>False
theorem ZkZ {α:Type}{c:YC α}{f:α->List CT}(h:Enc c f) (e:Nat) {w:World}{v:Value}{ds:List α}{L:List Nat}(A:(Zz c).rep w [v] ds L):Zup w (false,[.sl e c.size (ds.map f)]) v:=.inr ⟨rfl,_,L,rfl,(h.sl e).1 A,fun _ _ h=>h⟩
theorem Zgj {α:Type}{c:YC α}{f:α->List CT}(h:Enc c f) {w:World}{vs:List Value}{x:α}{L:List Nat}(A:c.rep w vs x L):Zup w (true,f x) (.agg vs.toArray):=.inl ⟨rfl,vs,L,rfl,h.to A,fun _ _ h=>h⟩
section
variable {w w':World} {v:Value} {e:Ending}
theorem ZsF {B:Nat}{n:Nat->Prop}{x:RT}(h:ZlC w B n [x] v):∃F,OP w B n x v F/\Own w B F:=by
 obtain ⟨vs,F,⟨u,C,F1,F2,rfl,rfl,D,rfl,rfl⟩,A,rfl⟩:=h;rw [A9]at A;exact ⟨F1,by simpa using D,A⟩
theorem ZyY {α:Type}{c:YC α}{f:α->List CT}(h:Enc c f) {t:Nat}{ds:List α}{n:Nat->Prop}(B:ZlC w' w.heap.size n [(false,[(false,.sl t c.size (ds.map f))])] v) (C:Below w.heap.size w w'):ZgT c t w v ds w':=by
 obtain ⟨F,A,H⟩:=ZsF B;rcases A with ⟨A,_⟩|⟨_,ct,A,G⟩
 .simp at A
 .obtain rfl:_=ct:=by simpa using A
  obtain ⟨_,cs,L,E,D,rfl,_⟩:=G;exact ⟨⟨cs,L,by simpa using E,h.reps_of D,H⟩,C⟩
theorem ZyX {b:Bool}{B:Nat}{m:Nat->Prop}(C:ZlC w B m [(false,[(false,.bool b)])] v):v=.bool b:=by
 obtain ⟨F,A,E⟩:=ZsF C;rcases A with ⟨A,_⟩|⟨_,ct,A,D⟩
 .simp at A
 .obtain rfl:_=ct:=by simpa using A
  exact D.1.1
end
section
variable {P:Program} {J:World->Prop} {f:FuncId} {args:List (Bool×List CT)} {res:List RT}
theorem Zp.calls (h:Zp P J f args res) {w:World}{vs:List Value}(A:J w) (B:ZN (Zup w) args vs):Calls P f vs.toArray w fun e w'=>∃v n,e=.returned v/\ZlC w' w.heap.size n res v/\Below w.heap.size w w':=
 (h.2 w (fun _=>False) vs A (fun _ h=>h.elim) B).mono fun _ _ ⟨v,n,E,D,_,C⟩=>⟨v,n,E,D,C⟩
theorem Zp.givesS {α:Type}{c:YC α}{g:α->List CT}{t:Nat}{ds:List α}(h:Zp P J f args [(false,[(false,.sl t c.size (ds.map g))])]) (B:Enc c g) {w:World}{vs:List Value}(A:J w) (C:ZN (Zup w) args vs):Calls P f vs.toArray w (ZdN c t w ds):=
 (h.calls A C).mono fun _ _ ⟨v,_,F,E,D⟩=>⟨v,F,ZyY B E D⟩
theorem Zp.givesB {b:Bool}(h:Zp P J f args [(false,[(false,.bool b)])]) {w:World}{vs:List Value}(A:J w) (B:ZN (Zup w) args vs):Calls P f vs.toArray w fun e w'=>e=.returned (.bool b)/\Below w.heap.size w w':=
 (h.calls A B).mono fun _ _ ⟨v,_,E,D,C⟩=>⟨by rw [E,ZyX D],C⟩
def ZBA {α:Type}(c:YC α) (t:Nat) (w:World) (ds:List α) (b:Bool):Ending->World->Prop:=fun e w'=>∃v,e=.returned (.tuple #[v,.bool b])/\ZgT c t w v ds w'
theorem Zp.givesSB {α:Type}{c:YC α}{g:α->List CT}{t:Nat}{ds:List α}{b:Bool}(h:Zp P J f args [(false,[(false,.sl t c.size (ds.map g))]),(false,[(false,.bool b)])]) (K:Enc c g) {w:World}{vs:List Value}(I:J w) (L:ZN (Zup w) args vs):Calls P f vs.toArray w (ZBA c t w ds b):=
 (h.calls I L).mono fun _ w' ⟨v,n,N,⟨us,F,⟨u,D,F1,F2,W,V,H,u2,C,F3,F4,U,T,A,S,R⟩,B,O⟩,M⟩=>by
  subst S R U T W V;rcases A with ⟨A,_⟩|⟨_,ct,A,G⟩
  .simp at A
  .obtain rfl:_=ct:=by simpa using A
   obtain ⟨⟨E,_⟩,rfl⟩:=G;subst E;simp only[A9]at B;exact ⟨u,by rw [N,O];rfl,ZyY (n:=n) K ⟨[u],F1,⟨u,[],F1,[],rfl,yG,H,rfl,rfl⟩,B,rfl⟩ M⟩
theorem ZvL {w:World}{B:Nat}{n:Nat->Prop}:∀{l:List CT}{cs:List Value}{F:List Nat},OCs w B n (l.map fun y=>(false,y)) cs F->∃F',F'.Sublist F/\RCs w l cs F'
 | [],_,_,⟨h1,h2⟩=>⟨[],yG,h1,rfl⟩
 |x::l,_,_,⟨v,vs,F1,F2,rfl,rfl,h1,h2⟩=>by
  obtain ⟨F2',C,I⟩:=ZvL h2;have key:∃F1',F1'.Sublist F1/\RC w x v F1':=by
   cases x with
   |sl e q xs=>
    obtain ⟨O,cs,L,N,M,K,P⟩:=h1;obtain ⟨A,cap,L0,D,C,H,G,E⟩:=Sl.row N;exact ⟨L0++L,by rw [K];exact AY E (List.Sublist.refl _),A,cap,cs,L0,L,D,C,H,rfl,O,G,M⟩
   |int k i=>exact ⟨[],yG,h1.1⟩
   |bool b=>exact ⟨[],yG,h1.1⟩
   |str s=>exact ⟨[],yG,h1.1⟩
   |ifc s=>exact ⟨[],yG,h1.1⟩
   |any=>exact ⟨[],yG,h1.1⟩
   |_=>exact h1.elim
  obtain ⟨F1',D,J⟩:=key;exact ⟨F1'++F2',AY D C,v,vs,F1',F2',rfl,rfl,J,I⟩
def ZsI {β:Type}(a:YC β) (w:World) (x:β) (b:Bool):Ending->World->Prop:=fun e w'=>∃cs L,e=.returned (.tuple #[.agg (cs:List Value).toArray,.bool b])/\Got a w.heap.size cs x L w'/\Below w.heap.size w w'
theorem Zp.givesXB {β:Type}{c2:YC β}{g2:β->List CT}{x:β}{b:Bool}(h:Zp P J f args [(true,(g2 x).map fun y=>(false,y)),(false,[(false,.bool b)])]) (a:Enc c2 g2) {w:World}{vs:List Value}(L:J w) (M:ZN (Zup w) args vs):Calls P f vs.toArray w (ZsI c2 w x b):=
 (h.calls L M).mono fun _ w' ⟨v,n,O,⟨us,F,⟨u,E,F1,F2,e1,W,B,u2,D,F3,F4,V,U,A,T,S⟩,C,R⟩,N⟩=>by
  subst T S V U e1 W;rcases A with ⟨A,_⟩|⟨_,ct,A,K⟩
  .simp at A
  obtain rfl:_=ct:=by simpa using A
  obtain ⟨⟨I,_⟩,rfl⟩:=K;subst I;rcases B with ⟨_,cs,rfl,B⟩|⟨B,_⟩
  rotate_left
  .simp at B
  simp only[A9]at C;obtain ⟨L1,G,H⟩:=ZvL B;exact ⟨cs,L1,by rw [O,R];rfl,⟨a.of H,C.sub G⟩,N⟩
end
end
theorem Zot:Enc QY Xu where
 to:=fun {w cs x L} h=>by
  obtain ⟨A1,E,L1,rfl,rfl,A,C,D,B⟩:=h;have F:RCs w (Xu x) _ _:=RCs.more ⟨rfl,rfl,A⟩ (RCs.solo ((encStr.sl 9).1 ⟨A1,E,rfl,C,D,B⟩));simpa only [AC,A9,AA]using F
 of:=fun {w cs x L} h=>by
  obtain ⟨K,N,K0,M0,rfl,rfl,H,J,M,K1,M1,rfl,rfl,G,rfl,rfl⟩:=h;obtain ⟨rfl,rfl,A⟩:=H;obtain ⟨A1,E,I,C,D,B⟩:=(encStr.sl 9).2 G;cases I;exact ⟨A1,E,_,rfl,by simp only[AC,A9,AA],A,C,D,B⟩
theorem ZnO:Enc X8 ZW where
 to:=fun {w cs x L} h=>by
  obtain ⟨A1,F,L1,rfl,rfl,B,A,t2,D,E,C⟩:=h;have G:RCs w (ZW x) _ _:=RCs.more ⟨rfl,rfl⟩ (RCs.more ⟨rfl,rfl,B⟩ (RCs.more ((encStr.sl 9).1 ⟨A1,F,rfl,D,E,C⟩) (RCs.more ⟨rfl,rfl,A⟩ (RCs.solo ⟨rfl,rfl,t2⟩))));simpa only [AC,A9,AA]using G
 of:=fun {w cs x L} h=>by
  obtain ⟨T,r0,K0,M0,rfl,rfl,M,S,r1,K1,M1,rfl,rfl,K,R,W,K2,M2,rfl,rfl,J,P,V,K3,M3,rfl,rfl,I,O,U,K4,M4,rfl,rfl,H,rfl,rfl⟩:=h;obtain ⟨rfl,rfl⟩:=M;obtain ⟨rfl,rfl,B⟩:=K;obtain ⟨A1,F,N,D,E,C⟩:=(encStr.sl 9).2 J;cases N;obtain ⟨rfl,rfl,A⟩:=I;obtain ⟨rfl,rfl,t2⟩:=H;exact ⟨A1,F,_,rfl,by simp only[AC,A9,AA],B,A,t2,D,E,C⟩
theorem ZqT:Enc YT Yd where
 to:=fun {w cs x L} h=>by
  obtain ⟨A1,E,L1,rfl,rfl,A,C,D,B⟩:=h;have F:RCs w (Yd x) _ _:=RCs.more ⟨rfl,rfl⟩ (RCs.more ⟨rfl,rfl,A⟩ (RCs.solo ((encStr.sl 9).1 ⟨A1,E,rfl,C,D,B⟩)));simpa only [AC,A9,AA]using F
 of:=fun {w cs x L} h=>by
  obtain ⟨N,R,K0,M0,rfl,rfl,I,M,P,K1,M1,rfl,rfl,H,K,O,K2,M2,rfl,rfl,G,rfl,rfl⟩:=h;obtain ⟨rfl,rfl⟩:=I;obtain ⟨rfl,rfl,A⟩:=H;obtain ⟨A1,E,J,C,D,B⟩:=(encStr.sl 9).2 G;cases J;exact ⟨A1,E,_,rfl,by simp only[AC,A9,AA],A,C,D,B⟩
theorem ZwK:Enc X6 ZB where
 to:=fun {w cs x L} h=>by
  obtain ⟨A1,H,L1,A2,c2,L2,rfl,rfl,A,E,G,C,D,F,B⟩:=h;have I:RCs w (ZB x) _ _:=RCs.more ⟨rfl,rfl,A⟩ (RCs.more ⟨rfl,rfl⟩ (RCs.more ((ZnO.sl 105).1 ⟨A1,H,rfl,E,G,C⟩) (RCs.solo ((ZqT.sl 173).1 ⟨A2,c2,rfl,D,F,B⟩))));simpa only [AC,A9,AA]using I
 of:=fun {w cs x L} h=>by
  obtain ⟨U,r0,K0,M0,rfl,rfl,N,T,r1,K1,M1,rfl,rfl,M,S,W,K2,M2,rfl,rfl,K,R,V,K3,M3,rfl,rfl,J,rfl,rfl⟩:=h;obtain ⟨rfl,rfl,A⟩:=N;obtain ⟨rfl,rfl⟩:=M;obtain ⟨A1,H,P,E,G,C⟩:=(ZnO.sl 105).2 K;cases P;obtain ⟨A2,c2,O,D,F,B⟩:=(ZqT.sl 173).2 J;cases O;exact ⟨A1,H,_,A2,c2,_,rfl,by simp only[AC,A9,AA],A,E,G,C,D,F,B⟩
theorem Za2:Enc Ys Zo where
 to:=fun {w cs x L} h=>by
  obtain ⟨A1,E,L1,rfl,rfl,A,C,D,B⟩:=h;have F:RCs w (Zo x) _ _:=RCs.more ⟨rfl,rfl,A⟩ (RCs.solo ((encStr.sl 9).1 ⟨A1,E,rfl,C,D,B⟩));simpa only [AC,A9,AA]using F
 of:=fun {w cs x L} h=>by
  obtain ⟨K,N,K0,M0,rfl,rfl,H,J,M,K1,M1,rfl,rfl,G,rfl,rfl⟩:=h;obtain ⟨rfl,rfl,A⟩:=H;obtain ⟨A1,E,I,C,D,B⟩:=(encStr.sl 9).2 G;cases I;exact ⟨A1,E,_,rfl,by simp only[AC,A9,AA],A,C,D,B⟩
theorem ZtZ:Enc Xd ZG where
 to:=fun {w cs x L} h=>by
  obtain ⟨A1,H,L1,A2,c2,L2,rfl,rfl,A,E,G,C,D,F,B⟩:=h;have I:RCs w (ZG x) _ _:=RCs.more ⟨rfl,rfl,A⟩ (RCs.more ((encStr.sl 9).1 ⟨A1,H,rfl,E,G,C⟩) (RCs.solo ((Za2.sl 60).1 ⟨A2,c2,rfl,D,F,B⟩)));simpa only [AC,A9,AA]using I
 of:=fun {w cs x L} h=>by
  obtain ⟨S,V,K0,M0,rfl,rfl,M,R,U,K1,M1,rfl,rfl,K,P,T,K2,M2,rfl,rfl,J,rfl,rfl⟩:=h;obtain ⟨rfl,rfl,A⟩:=M;obtain ⟨A1,H,O,E,G,C⟩:=(encStr.sl 9).2 K;cases O;obtain ⟨A2,c2,N,D,F,B⟩:=(Za2.sl 60).2 J;cases N;exact ⟨A1,H,_,A2,c2,_,rfl,by simp only[AC,A9,AA],A,E,G,C,D,F,B⟩
theorem Zht:Enc XK Z5 where
 to:=fun {w cs x L} h=>by
  obtain ⟨rfl,rfl,B,A⟩:=h;have C:RCs w (Z5 x) _ _:=RCs.more ⟨rfl,rfl,B⟩ (RCs.solo ⟨rfl,rfl,A⟩);simpa only [AC,A9,AA]using C
 of:=fun {w cs x L} h=>by
  obtain ⟨G,I,K0,M0,rfl,rfl,E,F,H,K1,M1,rfl,rfl,D,rfl,rfl⟩:=h;obtain ⟨rfl,rfl,B⟩:=E;obtain ⟨rfl,rfl,A⟩:=D;exact ⟨rfl,by simp only[AC,A9,AA],B,A⟩
theorem Zo2:Enc Yt Yj where
 to:=fun {w cs x L} h=>by
  obtain ⟨A1,G,L1,A2,c2,L2,rfl,rfl,D,F,B,C,E,A⟩:=h;have H:RCs w (Yj x) _ _:=RCs.more ((Za2.sl 60).1 ⟨A1,G,rfl,D,F,B⟩) (RCs.solo ((Zht.sl 206).1 ⟨A2,c2,rfl,C,E,A⟩));simpa only [AC,A9,AA]using H
 of:=fun {w cs x L} h=>by
  obtain ⟨O,R,K0,M0,rfl,rfl,J,N,P,K1,M1,rfl,rfl,I,rfl,rfl⟩:=h;obtain ⟨A1,G,M,D,F,B⟩:=(Za2.sl 60).2 J;cases M;obtain ⟨A2,c2,K,C,E,A⟩:=(Zht.sl 206).2 I;cases K;exact ⟨A1,G,_,A2,c2,_,rfl,by simp only[AC,A9,AA],D,F,B,C,E,A⟩
theorem ZwL:Enc QC Z6 where
 to:=fun {w cs x L} h=>by
  obtain ⟨A1,I,L1,A2,c2,L2,rfl,rfl,B,A,t2,F,H,D,E,G,C⟩:=h;have J:RCs w (Z6 x) _ _:=RCs.more ⟨rfl,rfl⟩ (RCs.more ⟨rfl,rfl⟩ (RCs.more ⟨rfl,rfl,B⟩ (RCs.more ((encStr.sl 9).1 ⟨A1,I,rfl,F,H,D⟩) (RCs.more ⟨rfl,rfl,A⟩ (RCs.more ⟨rfl,rfl,t2⟩ (RCs.more ⟨rfl,rfl⟩ (RCs.solo ((Zo2.sl 142).1 ⟨A2,c2,rfl,E,G,C⟩))))))));simpa only [AC,A9,AA]using J
 of:=fun {w cs x L} h=>by
  obtain ⟨v0,r0,K0,M0,rfl,rfl,T,v1,r1,K1,M1,rfl,rfl,S,v2,r2,K2,M2,rfl,rfl,R,v3,r3,K3,M3,rfl,rfl,P,v4,r4,K4,M4,rfl,rfl,O,v5,r5,K5,M5,rfl,rfl,N,v6,r6,K6,M6,rfl,rfl,M,W,r7,K7,M7,rfl,rfl,K,rfl,rfl⟩:=h;obtain ⟨rfl,rfl⟩:=T;obtain ⟨rfl,rfl⟩:=S;obtain ⟨rfl,rfl,B⟩:=R;obtain ⟨A1,I,V,F,H,D⟩:=(encStr.sl 9).2 P;cases V;obtain ⟨rfl,rfl,A⟩:=O;obtain ⟨rfl,rfl,t2⟩:=N;obtain ⟨rfl,rfl⟩:=M;obtain ⟨A2,c2,U,E,G,C⟩:=(Zo2.sl 142).2 K;cases U;exact ⟨A1,I,_,A2,c2,_,rfl,by simp only[AC,A9,AA],B,A,t2,F,H,D,E,G,C⟩
theorem Zhr:Enc Yr YD where
 to:=fun {w cs x L} h=>by
  obtain ⟨A1,U,L1,A2,c2,L2,A3,T,L3,A4,S,L4,A5,R,L5,rfl,rfl,J,P,E,I,O,D,H,N,C,G,M,B,F,K,A⟩:=h;have V:RCs w (YD x) _ _:=RCs.more ((ZwK.sl 118).1 ⟨A1,U,rfl,J,P,E⟩) (RCs.more ((ZyL.sl 3).1 ⟨A2,c2,rfl,I,O,D⟩) (RCs.more ((ZtZ.sl 103).1 ⟨A3,T,rfl,H,N,C⟩) (RCs.more ((ZwL.sl 108).1 ⟨A4,S,rfl,G,M,B⟩) (RCs.more ((Za2.sl 60).1 ⟨A5,R,rfl,F,K,A⟩) (RCs.solo ⟨rfl,rfl⟩)))));simpa only [AC,A9,AA]using V
 of:=fun {w cs x L} h=>by
  obtain ⟨v0,r0,K0,M0,rfl,rfl,h0,v1,r1,K1,M1,rfl,rfl,h1,v2,r2,K2,M2,rfl,rfl,h2,v3,r3,K3,M3,rfl,rfl,h3,v4,r4,K4,M4,rfl,rfl,h4,v5,r5,K5,M5,rfl,rfl,W,rfl,rfl⟩:=h;obtain ⟨A1,U,e1,J,P,E⟩:=(ZwK.sl 118).2 h0;cases e1;obtain ⟨A2,c2,e2,I,O,D⟩:=(ZyL.sl 3).2 h1;cases e2;obtain ⟨A3,T,e3,H,N,C⟩:=(ZtZ.sl 103).2 h2;cases e3;obtain ⟨A4,S,e4,G,M,B⟩:=(ZwL.sl 108).2 h3;cases e4;obtain ⟨A5,R,e5,F,K,A⟩:=(Za2.sl 60).2 h4;cases e5;obtain ⟨rfl,rfl⟩:=W;exact ⟨A1,U,_,A2,c2,_,A3,T,_,A4,S,_,A5,R,_,rfl,by simp only[AC,A9,AA],J,P,E,I,O,D,H,N,C,G,M,B,F,K,A⟩
theorem ZuL:Enc XG ZkQ where
 to:=fun {w cs x L} h=>by
  obtain ⟨A1,F,L1,rfl,rfl,B,A,D,E,C⟩:=h;have G:RCs w (ZkQ x) _ _:=RCs.more ⟨rfl,rfl⟩ (RCs.more ⟨rfl,rfl,B⟩ (RCs.more ⟨rfl,rfl,A⟩ (RCs.solo ((encStr.sl 9).1 ⟨A1,F,rfl,D,E,C⟩))));simpa only [AC,A9,AA]using G
 of:=fun {w cs x L} h=>by
  obtain ⟨R,V,K0,M0,rfl,rfl,K,P,U,K1,M1,rfl,rfl,J,O,T,K2,M2,rfl,rfl,I,N,S,K3,M3,rfl,rfl,H,rfl,rfl⟩:=h;obtain ⟨rfl,rfl⟩:=K;obtain ⟨rfl,rfl,B⟩:=J;obtain ⟨rfl,rfl,A⟩:=I;obtain ⟨A1,F,M,D,E,C⟩:=(encStr.sl 9).2 H;cases M;exact ⟨A1,F,_,rfl,by simp only[AC,A9,AA],B,A,D,E,C⟩
section
open Go.RowKit
section
variable {w w':World} {base:Nat} {e:TypeId} {size n:Nat} {v:Value} {xs:List Value}
theorem Zl3 (h:w.ownsV base e size v n xs) (o:Obj):(w.alloc o).ownsV base e size v n xs:=Zdy h (fun b A=>Below.heap_alloc w o b (ZkW h b A))
theorem ZuX (h:w.ownsV base e size v n xs):w.drew.ownsV base e size v n xs:=Zdy h (fun _ _=>rfl)
theorem ZeV (h:w.ownsV base e size v n xs) (B:Below w.heap.size w w'):w'.ownsV base e size v n xs:=Zdy h (fun b A=>B.block b (ZkW h b A))
theorem Zy3 (h:w.ownsV base e size v n xs):∀g,v.ownBlock=some g->base<=g:=fun g A=>by
 rcases h.2 with ⟨C,_⟩|⟨F,o,cap,D,B,E,_⟩
 .rw [C]at A;simp [Value.ownBlock]at A
 .rw [B]at A;simp [Value.ownBlock]at A;omega
theorem ZtY (h:w.ownsV base e size v n xs):Own w base v.ownBlock.toList:=by
 rcases h.2 with ⟨D,_⟩|⟨g,o,cap,a,A,B,C,_⟩
 .subst D;exact Own.nil w base
 .subst A;exact ⟨by simp [Value.ownBlock],by simpa [Value.ownBlock]using B,by simpa [Value.ownBlock]using ⟨a,e,C⟩⟩
end
theorem ZsM {P:Program}{o:Oper}{a:Act}{K:Act->World->Prop}{Q:Exit->Act->World->Prop}{G:World}(s x:Operand) (t:TypeId)
  (U:o.op=.call { callee:=.builtin .append,args:=#[s,x],argTypes:=#[t,t] })
  (e:TypeId) (z:Value) (size c:Nat) (T:P.underlying t=some (.slice e)) (hi:(P.info? e).map (fun i=>(i.zero,i.size,i.bytes))=some (some z,size,c)) (A:z.cells.size=size) (B:0<size)
  (base:Nat) (v:Value) (n:Nat) (xs b:List Value) (hs:a.eval s=v) (R:a.eval x=.slice (some ⟨G.heap.size,0,none⟩) 1 1) (l:G.ownsV base e size v n xs)
  (hl:b.length=size) (h1:∀u∈b,u.oneCell'=true) (W:n+1<=9223372036854775807) (f:(n+1)*c<=140737488355328) (O:base<=G.heap.size) (w2:World) (d:w2=G.alloc (.cells b.toArray e)\/w2=(G.alloc (.cells b.toArray e)).drew)
  (h:∀H w',w'.ownsV base e size H (n+1) (xs++b)->G.grownBy w' v.ownBlock->(∀g,H.ownBlock=some g->v.ownBlock=some g\/G.heap.size<=g)->K (a.put o.dst H) w'):
  Oper.wp P o a w2 K Q:=by
 obtain ⟨i,C,D,E,F⟩:=info_parts hi;have M:w2.heap.size=G.heap.size+1:=by rcases d with rfl|rfl<;>simp
 have m:w2.ownsV base e size v n xs:=by
  rcases d with rfl|rfl
  .exact Zl3 l _
  .exact ZuX (Zl3 l _)
 have q:w2.heap[G.heap.size]?=some (.cells b.toArray e (0,0)):=by
  rcases d with rfl|rfl
  .exact heap_alloc_new G _
  .exact heap_alloc_new G _
 have w:∀k,k<G.heap.size->w2.heap[k]?=G.heap[k]?:=fun k J=>by
  rcases d with rfl|rfl
  .exact Below.heap_alloc G _ k J
  .exact Below.heap_alloc G _ k J
 have p:w2.os=G.os/\w2.tape=G.tape/\w2.output=G.output:=by rcases d with rfl|rfl<;>exact ⟨rfl,rfl,rfl⟩
 obtain ⟨H,w',y,h2,I,L⟩:=Zh9 (P:=P) w2 base t o.type e i z size c T C D E F A B v n xs m ⟨G.heap.size,0,none⟩ 1 1 b
  yE (fun j u S=>by rw [Zea];rw [cell_of_row w2 G.heap.size (0+j) b.toArray e (0,0) q];simpa using S) h1 (by unfold maxLen;omega) f yE
 unfold Oper.wp execOp;simp only[U,resolve,invoke,builtin,Sem.run_bind,Sem.run_pure,Result.andThen_ok,List.map_toArray,List.map_cons,List.map_nil,hs,R,y];refine h H w' h2 ?_ ?_
 .exact ⟨I.os.trans p.1,I.tape.trans p.2.1,I.output.trans p.2.2,AG yE I.size,fun k J V=>(I.block k yE V).trans (w k J)⟩
 .intro g N;rcases L with L|L<;>rw [L]at N
  .exact .inl N
  .simp at N;exact .inr yE
theorem Zzy {P:Program}{k:Array Oper}{f:List Oper}{o:Oper}{a:Act}{Q:Exit->Act->World->Prop}{A:World}(m:o.guard=none) (s x:Operand) (t:TypeId)
  (E:o.op=.call { callee:=.builtin .append,args:=#[s,x],argTypes:=#[t,t] })
  (e:TypeId) (z:Value) (size c:Nat) (D:P.underlying t=some (.slice e)) (hi:(P.info? e).map (fun i=>(i.zero,i.size,i.bytes))=some (some z,size,c)) (p:z.cells.size=size) (q:0<size)
  (base:Nat) (v:Value) (n:Nat) (xs b:List Value) (hs:a.eval s=v) (C:a.eval x=.slice (some ⟨A.heap.size,0,none⟩) 1 1) (l:A.ownsV base e size v n xs)
  (F:b.length=size) (K:∀u∈b,u.oneCell'=true) (w:n+1<=9223372036854775807) (d:(n+1)*c<=140737488355328) (j:base<=A.heap.size)
  (h:∀B w',w'.ownsV base e size B (n+1) (xs++b)->A.grownBy w' v.ownBlock->(∀g,B.ownBlock=some g->v.ownBlock=some g\/A.heap.size<=g)->wpList P k Q f (a.put o.dst B) w'):
  wpList P k Q (o::f) a (A.alloc (.cells b.toArray e)):=
 wpList_plain m fun _ G=>ZsM s x t E e z size c D hi p q base v n xs b hs C l F K w d j _ (.inl rfl) fun B w' J I H=>G _ _ (h B w' J I H)
theorem Zp.givesX {P:Program}{J:World->Prop}{f:FuncId}{args:List (Bool×List CT)}{α:Type}{c:YC α}{g:α->List CT}{x:α}(h:Zp P J f args [(true,(g x).map fun y=>(false,y))]) (D:Enc c g) {w:World}{vs:List Value}(C:J w) (H:ZN (Zup w) args vs):Calls P f vs.toArray w (Zg2 c w x):=
 (h.calls C H).mono fun _ w' ⟨v,n,M,L,K⟩=>by
  obtain ⟨F,A,I⟩:=ZsF L;rcases A with ⟨_,cs,rfl,G⟩|⟨E,_⟩
  .obtain ⟨F',hs,B⟩:=ZvL G;exact ⟨cs,F',M,⟨D.of B,I.sub hs⟩,K⟩
  .simp at E
structure ZeE (base:Nat) (w1:World) (Ls:List (List Nat)) (k:Nat) (ds:List Zi) (v:Value) (w:World):Prop where
 row:∃xs Lp,w.ownsV base 142 2 v ds.length xs/\Yt.reps w xs ds Lp/\Own w base (v.ownBlock.toList++Lp)/\∀y∈Lp,y∈(Ls.take k).flatten\/w1.heap.size<=y
 own:∀g,v.ownBlock=some g->w1.heap.size<=g
 below:Below w1.heap.size w1 w
section
variable {base:Nat} {w1 w w':World} {Ls:List (List Nat)} {k k':Nat} {ds:List Zi} {v v':Value}
theorem ZeE.start:ZeE base w1 Ls 0 [] (.slice none 0 0) w1:=
 ⟨⟨[],[],ZgR _ _ _ _,⟨rfl,rfl⟩,by simpa [Value.ownBlock]using Own.nil w1 base,yG⟩,by simp [Value.ownBlock],Below.refl _ _⟩
theorem ZeE.later (h:ZeE base w1 Ls k ds v w) (A:Below w.heap.size w w'):ZeE base w1 Ls k ds v w':=by
 obtain ⟨⟨xs,Lp,H,G,D,F⟩,E,C⟩:=h;have a:=D.lt;exact ⟨⟨xs,Lp,ZeV H A,QU G (fun b B=>A.block b (a b (by simp [B]))),D.keep (fun b B=>A.block b (a b B)),F⟩,E,C.trans (A.mono C.size)⟩
theorem Zjr {Ls:List (List Nat)}{k A:Nat}(h:k<=A) {y:Nat}(C:y∈(Ls.take k).flatten):y∈(Ls.take A).flatten:=by
 obtain ⟨l,B,D⟩:=AP.1 C;exact AP.2 ⟨l,(List.take_prefix_take_left h).subset B,D⟩
theorem ZeE.skip (h:ZeE base w1 Ls k ds v w) (B:k<=k'):ZeE base w1 Ls k' ds v w:=by
 obtain ⟨⟨xs,Lp,H,G,F,E⟩,D,C⟩:=h;exact ⟨⟨xs,Lp,H,G,F,fun y A=>(E y A).imp (Zjr B) id⟩,D,C⟩
theorem ZeE.add (h:ZeE base w1 Ls k ds v w) (I:k<=k') {xs d:List Value}{Lp l:List Nat}{t:Zi}(F:Yt.reps w xs ds Lp) (hs:∀y∈Lp,y∈(Ls.take k).flatten\/w1.heap.size<=y) (u:Yt.rep w d t l) (D:Own w base (v.ownBlock.toList++(Lp++l))) (H:∀y∈l,y∈(Ls.take k').flatten\/w1.heap.size<=y)
  (f:w'.ownsV base 142 2 v' (ds.length+1) (xs++d)) (c:w.grownBy w' v.ownBlock) (i:∀g,v'.ownBlock=some g->v.ownBlock=some g\/w.heap.size<=g):ZeE base w1 Ls k' (ds++[t]) v' w':=by
 have x:=D.lt;have z:=AJ.1 D.nodup;have j:∀y∈Lp++l,w'.heap[y]?=w.heap[y]?:=fun y C=>c.block y (x y (by simp at C ⊢;exact .inr C)) (fun e=>z.2.2 y (by simp [<-e]) y C rfl);have o:Yt.reps w' (xs++d) (ds++[t]) (Lp++l):=QU (ZcH F (Zd8 u)) j;have p:Own w' base (Lp++l):=(D.sub (AM _ _)).keep j;have hv:=ZtY f;refine ⟨⟨xs++d,Lp++l,by rw [AQ];exact f,o,⟨AJ.2 ⟨hv.nodup,p.nodup,fun a E b A e=>?_⟩,fun b A=>?_,fun b A=>?_⟩,fun y C=>?_⟩,fun g J=>?_,?_⟩
 .subst e;have K:v'.ownBlock=some a:=by simpa using E
  rcases i a K with B|B
  .exact z.2.2 a (by simp [B]) a A rfl
  .have:=x a (by simp at A ⊢;exact .inr A);omega
 .rcases AH.1 A with m|m
  .exact hv.ge b m
  .exact p.ge b m
 .rcases AH.1 A with m|m
  .exact hv.plain b m
  .exact p.plain b m
 .rcases AH.1 C with m|m
  .exact (hs y m).imp (Zjr I) id
  .exact H y m
 .rcases i g J with B|B
  .exact h.own g B
  .exact AG h.below.size B
 .exact h.below.trans ⟨c.os,c.tape,c.output,c.size,fun q G=>c.block q (AK G h.below.size) (fun e=>by have:=h.own q e.symm;omega)⟩
theorem ZeE.done {W:World}(h:ZeE W.heap.size w1 Ls k ds v w) (A:Below W.heap.size W w1):ZgT Yt 142 W v ds w:=by
 obtain ⟨⟨xs,Lp,E,D,C,_⟩,_,B⟩:=h;exact ⟨⟨xs,Lp,E,D,C⟩,A.trans (B.mono A.size)⟩
end
end
section
open Go.RowKit
theorem ZpB {α:Type}{c:YC α}{w:World}:∀{ds:List α}{xs:List Value}{L:List Nat},c.reps w xs ds L->∃(css:List (List Value)) (Ls:List (List Nat)),css.length=ds.length/\Ls.length=ds.length/\xs=css.flatten/\L=Ls.flatten/\∀(i:Nat) (d:α) (A:List Value) (E:List Nat),ds[i]?=some d->css[i]?=some A->Ls[i]?=some E->c.rep w A d E
 | [],_,_,⟨h1,h2⟩=>⟨[],[],rfl,rfl,h1,h2,yG⟩
 |d::ds,_,_,⟨A,c2,L1,L2,rfl,rfl,h1,h2⟩=>by
  obtain ⟨css,Ls,H,G,rfl,rfl,F⟩:=ZpB h2;refine ⟨A::css,L1::Ls,by simp [H],by simp [G],yG,yG,fun i e u l C D B=>?_⟩;cases i with
  |zero=>simp at C D B;subst C D B;exact h1
  |succ i=>exact F i e u l (by simpa using C) (by simpa using D) (by simpa using B)
theorem Zwh {α:Type}{m:Nat}:∀{css:List (List α)}{i j:Nat}{A:List α}{u:α},(∀x∈css,x.length=m)->css[i]?=some A->A[j]?=some u->css.flatten[i*m+j]?=some u
 | [],i,_,_,_,_,h,_=>by simp at h
 |c::css,0,j,A,u,hs,h,hu=>by
  simp at h;subst h;rw [AZ,Nat.zero_mul,Nat.zero_add,List.getElem?_append_left (AN.1 hu).1];exact hu
 |c::css,i+1,j,A,u,hs,h,hu=>by
  have hc:=hs c yG;have:=Zwh (css:=css) (i:=i) (fun x B=>hs x (by simp [B])) (by simpa using h) hu;rw [AZ,List.getElem?_append_right (by rw [hc,Nat.add_mul];omega),hc,show (i+1)*m+j - m=i*m+j by rw [Nat.add_mul];omega];exact this
structure ZHU {α:Type}(c:YC α) (w:World) (A:Option Addr) (ds:List α) (L:List Nat) (css:List (List Value)) (Ls:List (List Nat)):Prop where
 cl:css.length=ds.length
 ll:Ls.length=ds.length
 el:∀(i:Nat) (d:α) (c1:List Value) (l1:List Nat),ds[i]?=some d->css[i]?=some c1->Ls[i]?=some l1->c.rep w c1 d l1
 sub:Ls.flatten.Sublist L
 at_:∀(i:Nat) (c1:List Value),css[i]?=some c1->∃b off,A=some ⟨b,off,none⟩/\b∈L/\∀j u,c1[j]?=some u->w.cell? ⟨b,off+(i*c.size+j),none⟩=some u
theorem Sli.parts {α:Type}{c:YC α}{w:World}{A:Option Addr}{ds:List α}{L:List Nat}(h:Sli c w A ds L):∃css Ls,ZHU c w A ds L css Ls:=by
 obtain ⟨xs,L0,L1,rfl,K,J⟩:=h;obtain ⟨css,Ls,E,M,rfl,rfl,D⟩:=ZpB J;refine ⟨css,Ls,E,M,D,AM _ _,fun i N C=>?_⟩;have hi:i<ds.length:=by rw [<-E];exact (AN.1 C).1
 obtain ⟨b,off,I,H,a⟩:=K.at_ yE;have hs:∀x∈css,x.length=c.size:=fun x F=>by
  obtain ⟨j,B⟩:=List.mem_iff_getElem?.1 F;have hjl:=(AN.1 B).1;exact c.len (D j ds[j] x Ls[j] (AI yE) B (AI yE))
 exact ⟨b,off,I,by simp [H],fun j u G=>a _ u (Zwh hs C G)⟩
theorem Zgm {Ls:List (List Nat)}{k:Nat}{l:List Nat}(h:Ls[k]?=some l):(Ls.take (k+1)).flatten=(Ls.take k).flatten++l:=by
 rw [AO,h];simp
theorem Ztu {Ls:List (List Nat)}(k:Nat):(Ls.take k).flatten.Sublist Ls.flatten:=by
 conv=>rhs;rw [<-List.take_append_drop k Ls,List.flatten_append]
 exact List.sublist_append_left _ _
section
variable {α:Type} {c:YC α} {E:TypeId} {W w1 w w':World} {LA:List Nat} {Ls:List (List Nat)} {M:List α} {p:α->Bool} {k:Nat} {v v':Value} {x:α} {l:List Nat}
end
section
variable {β:Type} {c:YC β} {E:TypeId} {W w1 w w':World} {LA:List Nat} {Ls:List (List Nat)} {ds:List β} {k:Nat} {v v':Value} {y:β} {l l':List Nat}
end
end
section
open Go.RowKit
theorem Zpn:(prog.info? 142).map (fun i=>(i.zero,i.size,i.bytes))=some (some (.agg #[.slice none 0 0,.slice none 0 0]),2,48):=yO
theorem ZxH:(prog.info? 60).map (fun i=>(i.zero,i.size,i.bytes))=some (some (.agg #[.string ⟨#[]⟩,.slice none 0 0]),2,40):=yO
theorem Zsa {B:Nat}{A w w':World}{o:Option Nat}(h:Below B A w) (g:w.grownBy w' o) (E:B<=w.heap.size) (D:∀q,o=some q->B<=q):Below B A w':=
 ⟨g.os.trans h.os,g.tape.trans h.tape,g.output.trans h.output,AG h.size g.size,fun q C=>(g.block q (AK C E) (fun e=>by have:=D q e.symm;omega)).trans (h.block q C)⟩
theorem Own.permT {w:World}{base:Nat}{L M:List Nat}(h:Own w base L) (p:L.Perm M):Own w base M:=
 ⟨p.nodup_iff.1 h.nodup,fun b m=>h.ge b (p.mem_iff.2 m),fun b m=>h.plain b (p.mem_iff.2 m)⟩
theorem ZqC {P:Program}{j:Array Oper}{o:Oper}{a:Act}{K:Act->World->Prop}{Q:Exit->Act->World->Prop}{E:Prop}{A:World}(l:o.guard=none) (s x:Operand) (t:TypeId)
  (G:o.op=.call { callee:=.builtin .append,args:=#[s,x],argTypes:=#[t,t] })
  (e:TypeId) (z:Value) (size c:Nat) (F:P.underlying t=some (.slice e)) (hi:(P.info? e).map (fun i=>(i.zero,i.size,i.bytes))=some (some z,size,c)) (m:z.cells.size=size) (p:0<size)
  (base:Nat) (v:Value) (n:Nat) (xs b:List Value) (hs:a.eval s=v) (C:a.eval x=.slice (some ⟨A.heap.size,0,none⟩) 1 1) (k:A.ownsV base e size v n xs)
  (H:b.length=size) (I:∀u∈b,u.oneCell'=true) (q:n+1<=9223372036854775807) (d:(n+1)*c<=140737488355328) (f:base<=A.heap.size)
  (h:∀B w',w'.ownsV base e size B (n+1) (xs++b)->A.grownBy w' v.ownBlock->(∀g,B.ownBlock=some g->v.ownBlock=some g\/A.heap.size<=g)->K (a.put o.dst B) w'):
  if Region.wanted o (yielded j a.tmps)=true then Oper.wp P o a (A.alloc (.cells b.toArray e)) K Q else E:=by
 have D:Region.wanted o (yielded j a.tmps)=true:=by simp [Region.wanted,l]
 rw [if_pos D];exact ZsM s x t G e z size c F hi m p base v n xs b hs C k H I q d f _ (.inl rfl) h
theorem ZgT.laterT {α:Type}{c:YC α}{E:TypeId}{W w w':World}{v:Value}{ds:List α}(h:ZgT c E W v ds w) (A:Below w.heap.size w w'):ZgT c E W v ds w':=by
 obtain ⟨⟨xs,L,G,F,D⟩,C⟩:=h;have a:=D.lt;exact ⟨⟨xs,L,ZeV G A,QU F (fun b B=>A.block b (a b (by simp [B]))),D.keep (fun b B=>A.block b (a b B))⟩,C.trans (A.mono C.size)⟩
theorem ZzP (w:World):ZgT Yt 142 w (.slice (some ⟨w.heap.size,0,none⟩) 1 1) [Zkz] (w.alloc (.cells #[.slice none 0 0,.slice none 0 0] 142)):=by
 have hn:=heap_alloc_new w (.cells #[.slice none 0 0,.slice none 0 0] 142);refine ⟨⟨[.slice none 0 0,.slice none 0 0],[],⟨rfl,.inr ⟨w.heap.size,0,1,_,rfl,AB _,hn,AB _,by unfold maxLen;omega,by simp [Yt],by simp [Yt]⟩⟩,?_,?_⟩,(Below.refl _ w).alloc (AB _) _⟩
 .exact Zd8 ⟨none,0,[],none,0,[],rfl,rfl,AB _,by unfold maxLen;omega,Sli.nil _ _,AB _,by unfold maxLen;omega,Sli.nil _ _⟩
 .exact ⟨by simp [Value.ownBlock],by simp [Value.ownBlock],fun b A=>by simp [Value.ownBlock]at A;subst A;exact ⟨_,_,hn⟩⟩
theorem ZAs {l:List Zh}{k:Nat}{x:Zh}{F:List Zf}(h:l[k]?=some x):Yk (l.take (k+1)) F=Zbk x F (Yk (l.take k) F):=by
 rw [AO,h];exact Zc7 _ _ _
theorem Zmq {ts:List Zi}{j:Nat}{t:Zi}{x:Zh}{F:List Zf}(h:ts[j]?=some t):(ts.take (j+1)).flatMap (QL x F)=(ts.take j).flatMap (QL x F)++QL x F t:=by
 rw [AO,h,List.flatMap_append];simp
theorem Zwz {α β:Type}{F:List α}{q:Nat}{f:α}{g:α->Option β}(h:F[q]?=some f):(F.take (q+1)).filterMap g=(F.take q).filterMap g++(g f).toList:=by
 rw [AO,h,List.filterMap_append];cases hg:g f<;>simp [hg]
theorem ZeE.taken {base:Nat}{B w:World}{LA:List Nat}{Ls:List (List Nat)}{k:Nat}{v:Value}{l Lp:List Nat}(G:Own B base LA) (hs:Ls.flatten.Sublist LA) (E:Ls[k]?=some l) (F:Below B.heap.size B w) (C:Own w base (v.ownBlock.toList++Lp)) (o:∀y∈Lp,y∈(Ls.take k).flatten\/B.heap.size<=y) (p:∀g,v.ownBlock=some g->B.heap.size<=g):Own w base (v.ownBlock.toList++(Lp++l)):=by
 have c:((Ls.take (k+1)).flatten).Sublist LA:=(Ztu _).trans hs;rw [Zgm E]at c;have i:=G.sub c;have q:=AJ.1 i.nodup;have j:Own B base l:=i.sub (AM _ _);have d:=j.lt;have f:Own w base l:=j.keep (fun b A=>F.block b (d b A));rw [<-AA];refine ⟨AJ.2 ⟨C.nodup,f.nodup,fun a D b A e=>?_⟩,fun b A=>?_,fun b A=>?_⟩
 .subst e;rcases AH.1 D with m|m
  .have:=p a (by simpa using m);have:=d a A;omega
  .rcases o a m with m|m
   .exact q.2.2 a m a A rfl
   .have:=d a A;omega
 .rcases AH.1 A with m|m
  .exact C.ge b m
  .exact f.ge b m
 .rcases AH.1 A with m|m
  .exact C.plain b m
  .exact f.plain b m
theorem ZgT.snocT {α:Type}{c:YC α}{E:TypeId}{W w2 w3:World}{v B:Value}{ds:List α}{x:α}{xs f:List Value}{L l:List Nat}(F:Below W.heap.size W w2) (I:c.reps w2 xs ds L) (o:c.rep w2 f x l) (C:Own w2 W.heap.size (v.ownBlock.toList++(L++l))) (i:w3.ownsV W.heap.size E c.size B (ds.length+1) (xs++f)) (d:w2.grownBy w3 v.ownBlock) (p:∀g,B.ownBlock=some g->v.ownBlock=some g\/w2.heap.size<=g):ZgT c E W B (ds++[x]) w3:=by
 have t:=C.lt;have u:=AJ.1 C.nodup;have j:∀y∈L++l,w3.heap[y]?=w2.heap[y]?:=fun y D=>d.block y (t y (by simp at D ⊢;exact .inr D)) (fun e=>u.2.2 y (by simp [<-e]) y D rfl);have k:Own w3 W.heap.size (L++l):=(C.sub (AM _ _)).keep j;have hv:=ZtY i;refine ⟨⟨xs++f,L++l,by rw [AQ];exact i,QU (ZcH I (Zd8 o)) j,⟨AJ.2 ⟨hv.nodup,k.nodup,fun a H b A e=>?_⟩,fun b A=>?_,fun b A=>?_⟩⟩,?_⟩
 .subst e;have K:B.ownBlock=some a:=by simpa using H
  rcases p a K with G|G
  .exact u.2.2 a (by simp [G]) a A rfl
  .have:=t a (by simp at A ⊢;exact .inr A);omega
 .rcases AH.1 A with m|m
  .exact hv.ge b m
  .exact k.ge b m
 .rcases AH.1 A with m|m
  .exact hv.plain b m
  .exact k.plain b m
 .exact F.trans ⟨d.os,d.tape,d.output,d.size,fun q J=>d.block q (AK J F.size) (fun e=>by have:=C.ge q (by simp [<-e]);omega)⟩
theorem Zv1 {l:List Zh}{F:List Zf}(hl:l.length<=4) (hF:F.length<=24) (hA:∀f∈F,f.args.length<=3) (w:World) (hj:J0 w) (A:Option Addr) (c:Nat) (L:List Nat) (hR:(Zz X8).rep w [.slice A l.length c] l L) (B:Option Addr) (d:Nat) (K:List Nat) (hB:(Zz Ys).rep w [.slice B F.length d] F K):
  Calls prog 217 #[.slice A l.length c,.slice B F.length d] w (ZdN Yt 142 w (Yk l F)):=by
 obtain ⟨al,bg,am⟩:=ZH hR;obtain ⟨an,bh,ao⟩:=ZH hB;obtain ⟨n,hn⟩:∃n,l.length=n:=⟨_,rfl⟩
 obtain ⟨m,hm⟩:∃m,F.length=m:=⟨_,rfl⟩
 have HN:Hid (l.length=n):=hn;have HM:Hid (F.length=m):=hm;have HL4:Hid (l.length<=4):=hl;have HF24:Hid (F.length<=24):=hF;rw [hm]at hB;rw [hn]at hl al ⊢;rw [hm]at hF an ⊢;have HR:Hid (Sli X8 w A l L):=am;have HB:=Lib.hid hB;have HSB:Hid (Sli Ys w B F K):=ao;have HJ:=Lib.hid hj;have HA:Hid (∀f∈F,f.args.length<=3):=hA;clear hR hB am ao hj hn hm hA bg bh al an;go_enter func217,ntmps217;go_wp2;have H:Hid (ZgT Yt 142 w (.slice (some ⟨w.heap.size,0,none⟩) 1 1) (Yk (l.take 0) F) (w.alloc (.cells #[.slice none 0 0,.slice none 0 0] 142))):=ZzP w;go_loopw [5,19] (fun v i wr=>∃(k:Nat),k<=n/\i=.int .i64 k/\Hid (ZgT Yt 142 w v (Yk (l.take k) F) wr)) (fun _ i _=>n - (intOf i).toNat)
 case atStart=>exact ⟨0,AR _,rfl,H⟩
 case round=>
  clear H;obtain ⟨k,hk,rfl,HV⟩:=hrel;by_cases hlt:k<n
  .have ap:k<l.length:=by have:=HN.out;omega
   obtain ⟨bc,oc,cs,Lk,rfl,bi,_,z,hc⟩:=HR.out.at_ ap;obtain ⟨x,hx⟩:∃x,l[k]=x:=⟨_,rfl⟩
   have HX:Hid (l[k]?=some x):=by rw [AI ap,hx];rfl
   rw [hx]at z;have HXR:=Lib.hid z;obtain ⟨Ap,cp,Lp,e1,e2,t0,t1,t2,np,mp,sp⟩:=z;subst e1;have P:bc<w.heap.size:=HR.out.lt _ bi;obtain ⟨ts,Y⟩:∃ts,Yk (l.take k) F=ts:=⟨_,rfl⟩
   have HTS:Hid (Yk (l.take k) F=ts):=Y;rw [Y]at HV;obtain ⟨Av,cv,e3⟩:=HV.out.shape;subst e3;obtain ⟨nt,Z⟩:∃nt,ts.length=nt:=⟨_,rfl⟩
   have HNT:Hid (ts.length=nt):=Z;have hnt2:nt<=331776:=by rw [<-Z,<-Y];exact ZfD F HF24.out _ (by have:=HL4.out;simp;omega)
   rw [Z]at HV ⊢;have HBW:Hid (Below w.heap.size w wr):=HV.out.below;have q0:wr.cell? ⟨bc,oc+k*5,none⟩=some (.int .i64 x.kind):=(HBW.out.cell (p:=⟨bc,oc+(k*5+0),none⟩) P).trans (hc 0 _ rfl);have q1:wr.cell? ⟨bc,oc+k*5+1,none⟩=some (.string x.pattern.rel):=(HBW.out.cell (p:=⟨bc,oc+(k*5+1),none⟩) P).trans (hc 1 _ rfl);have q2:wr.cell? ⟨bc,oc+k*5+2,none⟩=some (.slice Ap x.pattern.args.length cp):=(HBW.out.cell (p:=⟨bc,oc+(k*5+2),none⟩) P).trans (hc 2 _ rfl);have q3:wr.cell? ⟨bc,oc+k*5+3,none⟩=some (.string x.left):=(HBW.out.cell (p:=⟨bc,oc+(k*5+3),none⟩) P).trans (hc 3 _ rfl);have q4:wr.cell? ⟨bc,oc+k*5+4,none⟩=some (.string x.right):=(HBW.out.cell (p:=⟨bc,oc+(k*5+4),none⟩) P).trans (hc 4 _ rfl);have HPR:Hid (QY.rep w [.string x.pattern.rel,.slice Ap x.pattern.args.length cp] x.pattern Lp):=⟨Ap,cp,Lp,rfl,rfl,t0,np,mp,sp⟩
   clear hc hx Y Z np mp sp t0 t1 t2;go_wp2;obtain ⟨w1,I⟩:∃w1,w1=wr.alloc (.cells #[.int .i64 x.kind,.string x.pattern.rel,.slice Ap x.pattern.args.length cp,.string x.left,.string x.right] 105):=⟨_,rfl⟩
   have BA:Hid (Below wr.heap.size wr w1):=by rw [I];exact (Below.refl _ wr).alloc (AB _) _
   have HSZ:Hid (w1.heap.size=wr.heap.size+1):=by rw [I];show _=_;simp
   have K1:Hid (Blk w1 wr.heap.size 105 #[.int .i64 x.kind,.string x.pattern.rel,.slice Ap x.pattern.args.length cp,.string x.left,.string x.right]):=by rw [I];exact Blk.new _ _ _
   obtain ⟨g,hg⟩:∃g,g=wr.heap.size:=⟨_,rfl⟩
   rw [<-hg]at K1;have HG:Hid (g=wr.heap.size):=hg;rw [<-I,<-hg];clear I hg q0 q1 q2 q3 q4;have BW1:Hid (Below w.heap.size w w1):=HBW.out.trans (BA.out.mono HBW.out.size);have HV1:=Lib.hid (HV.out.laterT BA.out);obtain ⟨LA,hG⟩:=HV1.out.got;obtain ⟨bj,bk,hS⟩:=ZH hG.rep;obtain ⟨css,Ls,hP⟩:=hS.parts;have HP:=Lib.hid hP;have HOA:Hid (Own w1 w.heap.size LA):=hG.own;clear hG hS hP bj bk HV1 HV;have H:Hid (ZeE w.heap.size w1 Ls 0 ((ts.take 0).flatMap (QL x F)) (.slice none 0 0) w1):=ZeE.start;go_loopw [8,25] (fun v i wq=>∃(j:Nat),j<=nt/\i=.int .i64 j/\Hid (ZeE w.heap.size w1 Ls j ((ts.take j).flatMap (QL x F)) v wq)) (fun _ i _=>nt - (intOf i).toNat)
   case atStart=>exact ⟨0,AR _,rfl,H⟩
   case round=>
    clear H;obtain ⟨j,hj,rfl,HQ⟩:=hrel;by_cases hjt:j<nt
    .obtain ⟨t,ht⟩:∃t,ts[j]?=some t:=⟨_,AI (by have:=HNT.out;omega)⟩
     obtain ⟨c1,Q⟩:∃c1,css[j]?=some c1:=⟨_,AI (by have:=HP.out.cl;have:=HNT.out;omega)⟩
     obtain ⟨l1,aa⟩:∃l1,Ls[j]?=some l1:=⟨_,AI (by have:=HP.out.ll;have:=HNT.out;omega)⟩
     obtain ⟨bt,ot,rfl,bl,ae⟩:=HP.out.at_ j c1 Q;have HTR:=Lib.hid (HP.out.el j t c1 l1 ht Q aa);obtain ⟨A1,d1,L1,A2,d2,L2,e1,e2,n1,m1,s1,n2,m2,s2⟩:=HTR.out;subst e1;have R:bt<w1.heap.size:=HOA.out.lt bt bl;have HT:Hid (ts[j]?=some t):=ht;have HL1:Hid (Ls[j]?=some l1):=aa;have ac:Hid (∀y∈l1,y∈LA):=by
      intro y m;obtain ⟨a1,a2⟩:=AN.1 aa;exact HP.out.sub.subset (AP.2 ⟨l1,a2 ▸ List.getElem_mem a1,m⟩)
     have HTK:Hid (Zvw F t):=by
      have h:=Ze2 F (l.take k) t (by rw [HTS.out];exact Aa ht);exact h.s (by have:=HL4.out;simp;omega) HA.out
     obtain ⟨tf,M⟩:∃n,t.facts.length=n:=⟨_,rfl⟩
     obtain ⟨tb,N⟩:∃n,t.binding.length=n:=⟨_,rfl⟩
     have HTF:Hid (t.facts.length=tf):=M;have HTB:Hid (t.binding.length=tb):=N;rw [M,N]at HTR;have r0:wr.cell? ⟨bt,ot+j*2,none⟩=some (.slice A1 tf d1):=(HQ.out.below.cell (p:=⟨bt,ot+(j*2+0),none⟩) R).trans ((ae 0 _ rfl).trans (by rw [M]));have r1:wr.cell? ⟨bt,ot+j*2+1,none⟩=some (.slice A2 tb d2):=(HQ.out.below.cell (p:=⟨bt,ot+(j*2+1),none⟩) R).trans ((ae 1 _ rfl).trans (by rw [N]));have HQK:=Lib.hid (K1.out.later HQ.out.below);have HSZ2:Hid (g<wr.heap.size):=by have:=HG.out;have:=HSZ.out;have:=HQ.out.below.size;show _<_;omega
     have k0:∀o,(wr.alloc o).cell? ⟨g,0,none⟩=some (.int .i64 x.kind):=fun o=>(HQK.out.later ((Below.refl _ wr).alloc (AB _) o)).at (i:=0) rfl;have k1:∀o,(wr.alloc o).cell? ⟨g,1,none⟩=some (.string x.pattern.rel):=fun o=>(HQK.out.later ((Below.refl _ wr).alloc (AB _) o)).at (i:=1) rfl;have k2:∀o,(wr.alloc o).cell? ⟨g,2,none⟩=some (.slice Ap x.pattern.args.length cp):=fun o=>(HQK.out.later ((Below.refl _ wr).alloc (AB _) o)).at (i:=2) rfl;have k3:∀o,(wr.alloc o).cell? ⟨g,3,none⟩=some (.string x.left):=fun o=>(HQK.out.later ((Below.refl _ wr).alloc (AB _) o)).at (i:=3) rfl;have k4:∀o,(wr.alloc o).cell? ⟨g,4,none⟩=some (.string x.right):=fun o=>(HQK.out.later ((Below.refl _ wr).alloc (AB _) o)).at (i:=4) rfl
     have B3:Hid (∀o,Below w.heap.size w (wr.alloc o)):=fun o=>BW1.out.trans (HQ.out.below.mono BW1.out.size |>.trans (((Below.refl _ wr).alloc (AB _) o).mono (AG BW1.out.size HQ.out.below.size)));have BQ:Hid (∀o,Below w1.heap.size w1 (wr.alloc o)):=fun o=>HQ.out.below.trans (((Below.refl _ wr).alloc (AB _) o).mono HQ.out.below.size);have HFR1:Hid ((Zz Ys).rep w1 [.slice A1 tf d1] t.facts L1):=⟨A1,d1,by rw [M],n1,m1,s1⟩
     have HBR1:Hid ((Zz XK).rep w1 [.slice A2 tb d2] t.binding L2):=⟨A2,d2,by rw [N],n2,m2,s2⟩
     have HFR:Hid (∀o,(Zz Ys).rep (wr.alloc o) [.slice A1 tf d1] t.facts L1):=fun o=>⟨A1,d1,by rw [M],n1,m1,s1.below (BQ.out o)⟩
     have HBR:Hid (∀o,(Zz XK).rep (wr.alloc o) [.slice A2 tb d2] t.binding L2):=fun o=>⟨A2,d2,by rw [N],n2,m2,s2.below (BQ.out o)⟩
     have HLE:Hid (((ts.take j).flatMap (QL x F)).length<=7962624):=by
      have h:=Zlq x F HF24.out (ts.take j);have:(ts.take j).length<=331776:=by simp;omega
      unfold Zbk at h;show _<=_
      omega
     clear ae ht Q aa M N n1 m1 s1 n2 m2 s2 R;by_cases ab:x.kind=1
     .go_wp2;have HK1:Hid (x.kind=1):=ab;clear ab;obtain ⟨w3,O⟩:∃w3,w3=wr.alloc (.cells #[.slice A1 tf d1,.slice A2 tb d2] 142):=⟨_,rfl⟩
      obtain ⟨gt,S⟩:∃gt,gt=wr.heap.size:=⟨_,rfl⟩
      have HSZ3:Hid (w3.heap.size=gt+1):=by rw [O,S];show _=_;simp
      have K2:Hid (Blk w3 gt 142 #[.slice A1 tf d1,.slice A2 tb d2]):=by rw [O,S];exact Blk.new _ _ _
      have B13:Hid (Below w1.heap.size w1 w3):=by rw [O];exact BQ.out _
      have HG1:Hid (w1.heap.size<=gt):=by rw [S];exact HQ.out.below.size
      have HGG:Hid (g<w1.heap.size):=by have:=HG.out;have:=HSZ.out;show _<_;omega
      obtain ⟨D,hD⟩:∃D,D=(ts.take j).flatMap (QL x F):=⟨_,rfl⟩
      have HD:Hid (D=(ts.take j).flatMap (QL x F)):=hD;have H:Hid (ZeE w.heap.size w1 Ls j (D++(F.take 0).filterMap fun f=>(Y0 x.pattern f t.binding).map fun b=>({ facts:=t.facts++[f],binding:=b }:Zi)) u8 w3/\Blk w3 gt 142 #[.slice A1 tf d1,.slice A2 tb d2]/\∀y,u8.ownBlock=some y->y≠gt):=by
       refine ⟨?_,K2.out,fun y hy e=>?_⟩
       .rw [hD,O,List.take_zero,List.filterMap_nil,A9];exact HQ.out.later ((Below.refl _ wr).alloc (AB _) _)
       .obtain ⟨⟨xs,Lp,ho,_⟩,_⟩:=HQ.out;have:=ZkW ho y (by simp [hy]);omega
      have HDL:Hid (D.length<=7962624):=by rw [hD];exact HLE.out
      rw [<-O,<-S];clear O S hD k0 k1 k2 k3 k4 r0 r1 HQ HQK HSZ2 B3 BQ HFR HBR HLE;go_loopw [8,43] (fun v i wq=>∃(q:Nat),q<=m/\i=.int .i64 q/\Hid (ZeE w.heap.size w1 Ls j (D++(F.take q).filterMap fun f=>(Y0 x.pattern f t.binding).map fun b=>({ facts:=t.facts++[f],binding:=b }:Zi)) v wq/\Blk wq gt 142 #[.slice A1 tf d1,.slice A2 tb d2]/\∀y,v.ownBlock=some y->y≠gt)) (fun _ i _=>m - (intOf i).toNat)
      case atStart=>exact ⟨0,AR _,rfl,H⟩
      case round=>
       clear H;obtain ⟨q,hq,rfl,HI⟩:=hrel;by_cases hqm:q<m
       .have aq:q<F.length:=by have:=HM.out;omega
        obtain ⟨bf,of,cs,Lf,rfl,bm,_,z,hc⟩:=HSB.out.at_ aq;obtain ⟨f,hf⟩:∃f,F[q]=f:=⟨_,rfl⟩
        have HFQ:Hid (F[q]?=some f):=by rw [AI aq,hf];rfl
        rw [hf]at z;have HFE:=Lib.hid z;obtain ⟨Af,cf,Lf2,e1,e2,t0,nf,mf,sf⟩:=z;subst e1;have ar:bf<w.heap.size:=HSB.out.lt _ bm;have BWQ:Hid (Below w.heap.size w wr):=BW1.out.trans (HI.out.1.below.mono BW1.out.size);have HGT:Hid (gt<wr.heap.size):=HI.out.2.1.lt;have s0:wr.cell? ⟨bf,of+q*2,none⟩=some (.string f.rel):=(BWQ.out.cell (p:=⟨bf,of+(q*2+0),none⟩) ar).trans (hc 0 _ rfl);have s1:wr.cell? ⟨bf,of+q*2+1,none⟩=some (.slice Af f.args.length cf):=(BWQ.out.cell (p:=⟨bf,of+(q*2+1),none⟩) ar).trans (hc 1 _ rfl);have BO:Hid (∀o,Below wr.heap.size wr (wr.alloc o)):=fun o=>(Below.refl _ wr).alloc (AB _) o;have BWO:Hid (∀o,Below w.heap.size w (wr.alloc o)):=fun o=>BWQ.out.trans ((BO.out o).mono BWQ.out.size);have B1O:Hid (∀o,Below w1.heap.size w1 (wr.alloc o)):=fun o=>HI.out.1.below.trans ((BO.out o).mono HI.out.1.below.size)
        have KG:Hid (∀o,Blk (wr.alloc o) g 105 #[.int .i64 x.kind,.string x.pattern.rel,.slice Ap x.pattern.args.length cp,.string x.left,.string x.right]):=fun o=>K1.out.later (B1O.out o);have KT:Hid (∀o,Blk (wr.alloc o) gt 142 #[.slice A1 tf d1,.slice A2 tb d2]):=fun o=>HI.out.2.1.later (BO.out o);have k1:∀o,(wr.alloc o).cell? ⟨g,1,none⟩=some (.string x.pattern.rel):=fun o=>(KG.out o).at (i:=1) rfl;have k2:∀o,(wr.alloc o).cell? ⟨g,2,none⟩=some (.slice Ap x.pattern.args.length cp):=fun o=>(KG.out o).at (i:=2) rfl;have k3:∀o,(wr.alloc o).cell? ⟨gt,1,none⟩=some (.slice A2 tb d2):=fun o=>(KT.out o).at (i:=1) rfl;have HL1s:Hid (∀y∈l1,y<w1.heap.size):=fun y m=>HOA.out.lt y (ac.out y m);clear hc hf t0 nf mf sf;obtain ⟨E,hE⟩:∃E,E=D++(F.take q).filterMap fun f=>(Y0 x.pattern f t.binding).map fun b=>({ facts:=t.facts++[f],binding:=b }:Zi):=⟨_,rfl⟩
        have HE:Hid (E=D++(F.take q).filterMap fun f=>(Y0 x.pattern f t.binding).map fun b=>({ facts:=t.facts++[f],binding:=b }:Zi)):=hE;have hEL:E.length<=8000000:=by
         have h1:=HDL.out;have h2:=List.length_filterMap_le (fun f=>(Y0 x.pattern f t.binding).map fun b=>({ facts:=t.facts++[f],binding:=b }:Zi)) (F.take q);have h3:(F.take q).length<=q:=by simp;omega
         rw [hE,AQ];omega
        rw [<-hE]at HI;clear hE;cases hm:Y0 x.pattern f t.binding with
        |none=>
         have HC:QX x.pattern f t.binding=some ([],false):=by rw [Za7,hm];rfl
         go_wp2_with fail
         refine (Zp.givesSB (c:=XK) (g:=Z5) (t:=206) (ds:=[]) (b:=false) (Zdb HC) Zht (ZcD hJ0 HJ.out (BWO.out _)) (vs:=[_,_,_]) ⟨Zgj Zot (QY.keep HPR.out (Zr (BWO.out _) (fun y m=>QY.lt HPR.out y m))),Zgj Za2 (Ys.keep HFE.out (Zr (BWO.out _) (fun y m=>Ys.lt HFE.out y m))),ZkZ Zht _ ((Zz XK).keep HBR1.out (Zr (B1O.out _) (fun y m=>(Zz XK).lt HBR1.out y m))),trivial⟩).mono ?_;rintro e w5 ⟨vb,rfl,G⟩;have HQ5:=Lib.hid ((HI.out.1.later (BO.out _)).later G.below);have K5:=Lib.hid ((KT.out _).later G.below);clear G k1 k2 k3 s0 s1;go_wp2;refine ⟨⟨q+1,yE,yG,?_⟩,by simp [intOf];omega⟩;show ZeE _ _ _ _ _ _ _/\_/\_
         refine ⟨?_,K5.out,HI.out.2.2⟩;rw [Zwz HFQ.out];simp only[hm,Option.map_none,Option.toList_none,A9];rw [<-HE.out];exact HQ5.out
        |some b=>
         have HC:QX x.pattern f t.binding=some (b,true):=by rw [Za7,hm];rfl
         go_wp2_with fail
         refine (Zp.givesSB (c:=XK) (g:=Z5) (t:=206) (ds:=b) (b:=true) (Zdb HC) Zht (ZcD hJ0 HJ.out (BWO.out _)) (vs:=[_,_,_]) ⟨Zgj Zot (QY.keep HPR.out (Zr (BWO.out _) (fun y m=>QY.lt HPR.out y m))),Zgj Za2 (Ys.keep HFE.out (Zr (BWO.out _) (fun y m=>Ys.lt HFE.out y m))),ZkZ Zht _ ((Zz XK).keep HBR1.out (Zr (B1O.out _) (fun y m=>(Zz XK).lt HBR1.out y m))),trivial⟩).mono ?_;rintro e w5 ⟨vb,rfl,G⟩;obtain ⟨Ab,cb,eb⟩:=G.shape;subst eb;obtain ⟨Lb,au⟩:=G.got;have HGb:=Lib.hid au;have W5:Hid (Below wr.heap.size wr w5):=(BO.out _).trans (G.below.mono (BO.out _).size);have HQ5:=Lib.hid (HI.out.1.later W5.out);have KT5:=Lib.hid (HI.out.2.1.later W5.out);have KF5:Hid (Blk w5 wr.heap.size 60 #[.string f.rel,.slice Af f.args.length cf]):=Blk.later (Blk.new _ _ _) G.below;have WW5:Hid (Below w.heap.size w w5):=BWQ.out.trans (W5.out.mono BWQ.out.size)
         have W15:Hid (Below w1.heap.size w1 w5):=HQ5.out.below;have a0:w5.cell? ⟨gt,0,none⟩=some (.slice A1 tf d1):=KT5.out.at (i:=0) rfl;have a1:w5.cell? ⟨wr.heap.size,0,none⟩=some (.string f.rel):=KF5.out.at (i:=0) rfl;have a2:w5.cell? ⟨wr.heap.size,1,none⟩=some (.slice Af f.args.length cf):=KF5.out.at (i:=1) rfl;have JD:Hid (J0 w5.drew):=ZcD hJ0 HJ.out WW5.out.drew;have FD:Hid ((Zz Ys).rep w5.drew [.slice A1 tf d1] t.facts L1):=(Zz Ys).keep HFR1.out (Zr W15.out.drew (fun y m=>(Zz Ys).lt HFR1.out y m));have HCF:Hid (Yl t.facts=some t.facts):=Zdk _ (by have:=HTK.out.len;omega) (fun g mg=>by have:=HTK.out.args g mg;omega);have HCX:Hid (XR f=some f):=XX f (by have:=HA.out f (Aa HFQ.out);omega);obtain ⟨⟨av,Lp9,aw,ax,ay,ad⟩,az,_⟩:=HI.out.1;have HO9:=Lib.hid aw;have HR9:=Lib.hid (And.intro ax (And.intro ay ad));clear G au k1 k2 k3 s0 s1 HC aw ax ay ad az
         have htl:t.facts.length<=4:=HTK.out.len;go_wp2_with fail
         go_region_held3 (fun W=>W.cell? ⟨gt,0,none⟩=some (.slice A1 tf d1)/\W.cell? ⟨wr.heap.size,0,none⟩=some (.string f.rel)/\W.cell? ⟨wr.heap.size,1,none⟩=some (.slice Af f.args.length cf)) (first|exact ⟨a0,a1,a2⟩|exact ⟨bn,bo,bp⟩|exact ⟨bq,br,bs⟩|exact ⟨bu _,bv _,bw _⟩|exact ⟨bx,bz,b0⟩|exact ⟨b1 _,b2 _,b3 _⟩|exact ⟨b4,b5,b6⟩) (first|(go_at_call 71;refine (Zp.givesS (c:=Ys) (g:=Zo) (t:=60) (ds:=t.facts) (Yx HCF.out) Za2 JD.out (vs:=[_]) ⟨ZkZ Za2 _ FD.out,trivial⟩).mono ?_;rintro e w6 ⟨v6,rfl,af⟩;obtain ⟨T,L6,a3,a4,a5⟩:=af.ex;have HE6:Hid (w6.ownsV w5.heap.size 60 Ys.size v6 t.facts.length T/\Ys.reps w6 T t.facts L6/\Own w6 w5.heap.size (v6.ownBlock.toList++L6)):=⟨a3,a4,a5⟩;have W6:Hid (Below w5.heap.size w5 w6):=(Below.refl _ w5).drew.trans af.below;have KT6:=Lib.hid (KT5.out.later W6.out);have KF6:=Lib.hid (KF5.out.later W6.out);have bn:w6.cell? ⟨gt,0,none⟩=some (.slice A1 tf d1):=KT6.out.at (i:=0) rfl;have bo:w6.cell? ⟨wr.heap.size,0,none⟩=some (.string f.rel):=KF6.out.at (i:=0) rfl;have bp:w6.cell? ⟨wr.heap.size,1,none⟩=some (.slice Af f.args.length cf):=KF6.out.at (i:=1) rfl;clear af a3 a4 a5)|(go_at_call 122;refine (Zp.givesX (c:=Ys) (g:=Zo) (x:=f) (Qq HCX.out) Za2 (ZcD hJ0 HJ.out (WW5.out.trans (W6.out.mono WW5.out.size))) (vs:=[_]) ⟨Zgj Za2 (Ys.keep HFE.out (Zr (WW5.out.trans (W6.out.mono WW5.out.size)) (fun y m=>Ys.lt HFE.out y m))),trivial⟩).mono ?_;rintro e w7 ⟨cs7,L7,rfl,ag,a6⟩;obtain ⟨A7,c7,M7,b7,b8,t7,n7,m7,s7⟩:=ag.rep;subst b7;have H7:=Lib.hid ag;have W7:Hid (Below w6.heap.size w6 w7):=a6;have KT7:=Lib.hid (KT6.out.later W7.out);have KF7:=Lib.hid (KF6.out.later W7.out);have bq:w7.cell? ⟨gt,0,none⟩=some (.slice A1 tf d1):=KT7.out.at (i:=0) rfl;have br:w7.cell? ⟨wr.heap.size,0,none⟩=some (.string f.rel):=KF7.out.at (i:=0) rfl;have bs:w7.cell? ⟨wr.heap.size,1,none⟩=some (.slice Af f.args.length cf):=KF7.out.at (i:=1) rfl;have bu:∀o,(w7.alloc o).cell? ⟨gt,0,none⟩=some (.slice A1 tf d1):=fun o=>(KT7.out.later ((Below.refl _ w7).alloc (AB _) o)).at (i:=0) rfl;have bv:∀o,(w7.alloc o).cell? ⟨wr.heap.size,0,none⟩=some (.string f.rel):=fun o=>(KF7.out.later ((Below.refl _ w7).alloc (AB _) o)).at (i:=0) rfl;have bw:∀o,(w7.alloc o).cell? ⟨wr.heap.size,1,none⟩=some (.slice Af f.args.length cf):=fun o=>(KF7.out.later ((Below.refl _ w7).alloc (AB _) o)).at (i:=1) rfl;have HO7:Hid (w7.ownsV w5.heap.size 60 Ys.size v6 t.facts.length T):=ZeV HE6.out.1 W7.out;have HR7:Hid (Ys.reps w7 T t.facts L6):=QU HE6.out.2.1 (fun y m=>W7.out.block y (HE6.out.2.2.lt y (AS _ m)));have HW7:Hid (Own w7 w5.heap.size (v6.ownBlock.toList++(L6++L7))):=(by rw [<-AA];exact Own.append (HE6.out.2.2.keep (fun y m=>W7.out.block y (HE6.out.2.2.lt y m))) H7.out.own W6.out.size (fun y m=>HE6.out.2.2.lt y m));have W57:Hid (Below w5.heap.size w5 w7):=W6.out.trans (W7.out.mono W6.out.size);have HVG:Hid (∀y,v6.ownBlock=some y->w5.heap.size<=y):=Zy3 HO7.out;clear ag a6 b8 t7 n7 m7 s7)|(refine ZqC rfl (.tmp 60) (.tmp 63) 35 rfl 60 _ 2 40 underlying35 ZxH rfl yE w5.heap.size v6 t.facts.length T [_,_] rfl rfl HO7.out rfl (by intro u hu;simp only[AT,AU,or_false]at hu;rcases hu with rfl|rfl<;>rfl) yE yE W57.out.size ?_;intro v8 w8 J a U;obtain ⟨A8,c8,e8,_,_⟩:=Zbt J;subst e8;have H8:Hid (ZgT Ys 60 w5 (.slice A8 (t.facts.length+1) c8) (t.facts++[f]) w8):=ZgT.snocT W57.out HR7.out H7.out.rep HW7.out J a U;have W08:Hid (Below wr.heap.size wr w8):=Zsa (W5.out.trans (W57.out.mono W5.out.size)) a (AG W5.out.size W57.out.size) (fun y hy=>AG W5.out.size (HVG.out y hy));have KT8:Hid (Blk w8 gt 142 #[.slice A1 tf d1,.slice A2 tb d2]):=(a.block _ KT7.out.lt (fun e=>(by have h1:=HVG.out _ e.symm;have h2:=KT5.out.lt;omega))).trans KT7.out;have KF8:Hid (Blk w8 wr.heap.size 60 #[.string f.rel,.slice Af f.args.length cf]):=(a.block _ KF7.out.lt (fun e=>(by have h1:=HVG.out _ e.symm;have h2:=KF5.out.lt;omega))).trans KF7.out;have GB8:Hid (∀y∈Lb,w8.heap[y]?=w5.heap[y]?):=(fun y m=>(a.block y (AK (HGb.out.own.lt y m) W57.out.size) (fun e=>(by have h1:=HVG.out _ e.symm;have h2:=HGb.out.own.lt y m;omega))).trans (W57.out.block y (HGb.out.own.lt y m)));have bx:w8.cell? ⟨gt,0,none⟩=some (.slice A1 tf d1):=KT8.out.at (i:=0) rfl;have bz:w8.cell? ⟨wr.heap.size,0,none⟩=some (.string f.rel):=KF8.out.at (i:=0) rfl;have b0:w8.cell? ⟨wr.heap.size,1,none⟩=some (.slice Af f.args.length cf):=KF8.out.at (i:=1) rfl;have b1:∀o,(w8.alloc o).cell? ⟨gt,0,none⟩=some (.slice A1 tf d1):=fun o=>(KT8.out.later ((Below.refl _ w8).alloc (AB _) o)).at (i:=0) rfl;have b2:∀o,(w8.alloc o).cell? ⟨wr.heap.size,0,none⟩=some (.string f.rel):=fun o=>(KF8.out.later ((Below.refl _ w8).alloc (AB _) o)).at (i:=0) rfl;have b3:∀o,(w8.alloc o).cell? ⟨wr.heap.size,1,none⟩=some (.slice Af f.args.length cf):=fun o=>(KF8.out.later ((Below.refl _ w8).alloc (AB _) o)).at (i:=1) rfl;have HS8:Hid (w.heap.size<=w8.heap.size):=AG BWQ.out.size W08.out.size;clear J a U)|(refine ZqC rfl (.tmp 57) (.tmp 67) 106 rfl 142 _ 2 48 underlying106 Zpn rfl yE w.heap.size u8 E.length av [_,_] rfl rfl (ZeV HO9.out W08.out) rfl (by intro u hu;simp only[AT,AU,or_false]at hu;rcases hu with rfl|rfl<;>rfl) yE yE HS8.out ?_;intro v9 w9 V C X;have KT9:Hid (Blk w9 gt 142 #[.slice A1 tf d1,.slice A2 tb d2]):=(C.block _ KT8.out.lt (fun e=>HI.out.2.2 gt e.symm rfl)).trans KT8.out;have KF9:Hid (Blk w9 wr.heap.size 60 #[.string f.rel,.slice Af f.args.length cf]):=(C.block _ KF8.out.lt (fun e=>(by have:=ZkW HO9.out wr.heap.size (by rw [<-e];simp);omega))).trans KF8.out;have b4:w9.cell? ⟨gt,0,none⟩=some (.slice A1 tf d1):=KT9.out.at (i:=0) rfl;have b5:w9.cell? ⟨wr.heap.size,0,none⟩=some (.string f.rel):=KF9.out.at (i:=0) rfl;have b6:w9.cell? ⟨wr.heap.size,1,none⟩=some (.slice Af f.args.length cf):=KF9.out.at (i:=1) rfl;have H9:Hid (w9.ownsV w.heap.size 142 2 v9 (E.length+1) (av++[.slice A8 (t.facts.length+1) c8,.slice Ab b.length cb])/\w8.grownBy w9 u8.ownBlock/\∀g,v9.ownBlock=some g->u8.ownBlock=some g\/w8.heap.size<=g):=⟨V,C,X⟩;clear V C X))
         go_wp2;refine ⟨⟨q+1,yE,yG,?_⟩,by simp [intOf];omega⟩;show ZeE _ _ _ _ _ _ _/\_/\_
         rw [Zwz HFQ.out,<-AA,<-HE.out];simp only[hm,Option.map_some,Option.toList_some];have HQ8:=HI.out.1.later W08.out;obtain ⟨L8,ah⟩:=H8.out.got;have b9:∀y∈L8,w5.heap.size<=y:=ah.own.ge;have a7:∀y∈Lb,wr.heap.size+1<=y/\y<w5.heap.size:=fun y m=>⟨by have:=HGb.out.own.ge y m;simpa using this,HGb.out.own.lt y m⟩
         have h9:∀y∈u8.ownBlock.toList++Lp9,y<wr.heap.size:=HR9.out.2.1.lt;have a8:Own w8 w.heap.size (u8.ownBlock.toList++Lp9):=HR9.out.2.1.keep (fun y m=>W08.out.block y (h9 y m));have ca:Own w8 wr.heap.size Lb:=(HGb.out.own.keep GB8.out).mono yG;have ai:=(a8.append ca BWQ.out.size h9).append ah.own (AG BWQ.out.size W5.out.size) (fun y m=>by
          rcases AH.1 m with m|m
          .exact AK (h9 y m) W5.out.size
          .exact (a7 y m).2)
         obtain ⟨Q,cc,cd⟩:=ZH ah.rep;obtain ⟨ce,cg,ch⟩:=ZH ((Zz XK).keep HGb.out.rep GB8.out);have z:Yt.rep w8 [.slice A8 (t.facts.length+1) c8,.slice Ab b.length cb] ({ facts:=t.facts++[f],binding:=b }:Zi) (L8++Lb):=⟨A8,c8,L8,Ab,cb,Lb,yG,rfl,Q,cc,cd,ce,cg,ch⟩
         refine ⟨HQ8.add (AB j) (QU HR9.out.1 (fun y m=>W08.out.block y (h9 y (AS _ m)))) HR9.out.2.2 z (ai.permT ?_) (fun y m=>.inr ?_) H9.out.1 H9.out.2.1 H9.out.2.2,KT9.out,fun y hy e=>?_⟩
         .rw [AA,AA];exact List.Perm.append_left _ (List.Perm.append_left _ List.perm_append_comm)
         .have I:w1.heap.size<=wr.heap.size:=HI.out.1.below.size;rcases AH.1 m with m|m
          .exact AG I (AG W5.out.size (b9 y m))
          .have:=(a7 y m).1;omega
         .rcases H9.out.2.2 y hy with h|h
          .exact HI.out.2.2 y h e
          .have h1:=HGT.out;have h2:=W08.out.size;omega
       .have ci:q=m:=by omega
        go_wp2;refine ⟨⟨j+1,yE,yG,?_⟩,by simp [intOf];omega⟩;show ZeE _ _ _ _ _ _ _
        have h:=HI.out.1.skip (AW j);rw [ci,AX (by have:=HM.out;omega)]at h;rw [Zmq HT.out,<-HD.out];have e:QL x F t=F.filterMap fun f=>(Y0 x.pattern f t.binding).map fun b=>({ facts:=t.facts++[f],binding:=b }:Zi):=by unfold QL;rw [if_pos HK1.out]
        rw [e];exact h
     .go_wp2_with fail
      refine (Zp.givesB (ZnY (Zi8 x t.binding F (by have:=HF24.out;omega) (fun f mf=>by have:=HA.out f mf;omega))) (ZcD hJ0 HJ.out (B3.out _)) (vs:=[_,_,_]) ⟨Zgj ZnO (X8.keep HXR.out (Zr (B3.out _) (fun y m=>X8.lt HXR.out y m))),?_,ZkZ Za2 _ ((Zz Ys).keep HB.out (Zr (B3.out _) (fun y m=>(Zz Ys).lt HB.out y m))),trivial⟩).mono ?_
      .exact ZkZ Zht _ (HBR.out _)
      rintro e w4 ⟨rfl,aj⟩;have K2:Hid (Blk w4 wr.heap.size 142 #[.slice A1 tf d1,.slice A2 tb d2]):=Blk.later (Blk.new _ _ _) aj;have HQ4:=Lib.hid ((HQ.out.later ((Below.refl _ wr).alloc (AB _) _)).later aj);have p0:w4.cell? ⟨wr.heap.size,0,none⟩=some (.slice A1 tf d1):=K2.out.at (i:=0) rfl;have p1:w4.cell? ⟨wr.heap.size,1,none⟩=some (.slice A2 tb d2):=K2.out.at (i:=1) rfl;have HTR4:Hid (Yt.rep w4 [.slice A1 tf d1,.slice A2 tb d2] t l1):=Yt.keep HTR.out (fun y m=>(HQ4.out.below.block y (HOA.out.lt y (ac.out y m))));obtain ⟨⟨xs,Lp,ho,hr,hO,a9⟩,ba,bb⟩:=HQ4.out;have HO:=Lib.hid ho;have HRS:=Lib.hid (And.intro hr (And.intro hO a9));have HVO:Hid (∀g,u8.ownBlock=some g->w1.heap.size<=g):=ba;have HBQ:=Lib.hid bb;have hds:((ts.take j).flatMap (QL x F)).length<=7962624:=HLE.out;have cj:Hid (w.heap.size<=w4.heap.size):=AG BW1.out.size HBQ.out.size
      clear aj ho hr hO a9 ba bb k0 k1 k2 k3 k4 r0 r1;cases hh:ZiU x t.binding F with
      |true=>
       have HH:Hid (QL x F t=[t]):=by show _=_;unfold QL;rw [if_neg ab,if_pos hh]
       clear hh;go_wp2_with (at_builtin;(refine Zzy rfl (.tmp 37) (.tmp 39) 106 rfl 142 _ 2 48 underlying106 Zpn rfl yE w.heap.size u8 ((ts.take j).flatMap (QL x F)).length xs [_,_] rfl rfl HO.out rfl (by intro u hu;simp only[AT,AU,or_false]at hu;rcases hu with rfl|rfl<;>rfl) yE yE cj.out ?_);intro v' w' bd ak be);refine ⟨⟨j+1,yE,yG,?_⟩,by simp [intOf];omega⟩;show ZeE _ _ _ _ _ _ _
       rw [Zmq HT.out,HH.out];exact HQ4.out.add (AW j) HRS.out.1 HRS.out.2.2 HTR4.out (ZeE.taken HOA.out HP.out.sub HL1.out HBQ.out HRS.out.2.1 HRS.out.2.2 HVO.out) (fun y m=>.inl (by rw [Zgm HL1.out];exact AS _ m)) bd ak be
      |false=>
       have HH:Hid (QL x F t=[]):=by show _=_;unfold QL;rw [if_neg ab,if_neg (by simp [hh])]
       clear hh;go_wp2;refine ⟨⟨j+1,yE,yG,?_⟩,by simp [intOf];omega⟩;show ZeE _ _ _ _ _ _ _
       rw [Zmq HT.out,HH.out,A9];exact HQ4.out.skip (AW j)
    .have ck:j=nt:=by omega
     go_wp2;refine ⟨⟨k+1,yE,yG,?_⟩,by simp [intOf];omega⟩;show ZgT _ _ _ _ _ _
     rw [ZAs HX.out,HTS.out];have h:=HQ.out.done BW1.out;rw [ck,AX (by have:=HNT.out;omega)]at h;exact h
  .have cm:k=n:=by omega
   go_wp2;go_ret;refine ⟨_,rfl,?_⟩;have h:=HV.out;rw [cm,AX (by have:=HN.out;omega)]at h;exact h
end
section
open Go.RowKit
theorem Zpe {a:List Zh}{f:List Zf}{r:List Zi}(h:Zge a f=some r):Zp prog J0 217 [(false,[.sl 105 5 (A0 ZW a)]),(false,[.sl 60 2 (A0 Zo f)])] [(false,[(false,.sl 142 2 (A0 Yj r))])]:=by
 unfold Zge at h;split at h
 .rename_i hc;obtain ⟨hl,hF,hA⟩:=hc;rw [Zkm _ _ hl hF hA]at h;obtain rfl:=A6 h;refine ⟨⟨f217,func217,yO,yO⟩,fun w z vs hj hz ha=>?_⟩;cases vs with
  |nil=>exact ha.elim
  |cons v vs=>
   obtain ⟨ha,hr⟩:=ha;cases vs with
   |nil=>exact hr.elim
   |cons u vs=>
    obtain ⟨hu,hr⟩:=hr;cases vs with
    |cons _ _=>exact hr.elim
    |nil=>
     rcases ha with ⟨hf,_⟩|⟨_,ct,L,e1,hx,_⟩
     .simp at hf
     .rcases hu with ⟨hf,_⟩|⟨_,j,L2,e2,k,_⟩
      .simp at hf
      .obtain rfl:(CT.sl 105 5 (A0 ZW a))=ct:=by simpa using e1
       obtain rfl:(CT.sl 60 2 (A0 Zo f))=j:=by simpa using e2
       have h1:=(ZnO.sl 105).2 hx;have h2:=(Za2.sl 60).2 k;obtain ⟨A,c,hv,q1,q2,q3⟩:=h1;obtain ⟨B,d,hu,p1,p2,p3⟩:=h2;simp only[List.cons.injEq,and_true]at hv hu;subst hv;subst hu;refine (Zv1 hl hF hA w hj A c L ⟨A,c,rfl,q1,q2,q3⟩ B d L2 ⟨B,d,rfl,p1,p2,p3⟩).mono ?_;rintro e w' ⟨v,rfl,⟨xs,Lp,i,g,hO⟩,hB⟩;exact ⟨v,fun b=>z b\/b∈v.ownBlock.toList,rfl,⟨[v],v.ownBlock.toList++Lp,⟨v,[],v.ownBlock.toList++Lp,[],rfl,yG,.inr ⟨rfl,_,rfl,yF,xs,Lp,by rw [AD];exact i,Zo2.reps g,rfl,fun b m=>.inr m⟩,rfl,rfl⟩,hO,rfl⟩,fun b h=>.inl h,hB⟩
 .cases h
end
section
theorem Zlg {b:List Zq}{r:(Zc×Bool)}(h:Zbc b=some r):Zp prog J0 104 [(false,[.sl 118 4 (A0 ZB b)])] [(true,[(false,.sl 118 4 (A0 ZB r.1.rules)),(false,.sl 3 1 (A0 Ye r.1.ends)),(false,.sl 103 3 (A0 ZG r.1.alphas)),(false,.sl 108 8 (A0 Z6 r.1.nodes)),(false,.sl 60 2 (A0 Zo r.1.facts)),(false,.int .i64 r.1.tries)]),(false,[(false,.bool r.2)])]:=by
 refine fnk func104 rfl ?_;unfold Zbc at h;simp only[fnS,f104,Zu,go_sem,seval];refine Zb h fun _ E h=>Za (ZpG E)<|yA ?_;refine yB h (fun _ h=>?_) fun _ h=>?_;refine Zb h fun _ F h=>Za (Zka F)<|yA ?_;refine Zk h (fun i s st=>match s with|(d,e,f,g,k,l)=>IV [(0,yM (yW b)),(2,.bp 0 0),(4,.bp 1 0),(5,yL i)] [.box 37 [.nil 118 4,.nil 3 1,.nil 103 3,.nil 108 8,.nil 60 2,.c (.int .i64 0)],.box 37 [.row 2,.row 3,.row 4,.row 5,.row 6,.c (.int .i64 d)],.row 118 4 (A0 ZB e) 2,.row 3 1 (A0 Ye f) 2,.row 103 3 (A0 ZG g) 2,.row 108 8 (A0 Z6 k) 2,.row 60 2 (A0 Zo l) 2] st) [(true,192,1),(true,192,2),(true,192,4)] [0,192,96,240,241,160,242] yF yD ?_ ?_;rintro G _ ⟨d,e,f,g,k,l⟩ ⟨_,_,_⟩ _ m z H h _;simp only[go_sem,seval,Zd]at z;obtain ⟨⟨I,_,_,_⟩,_,_,_,_,_,_,_,R⟩:=z;subst R;have J:=WF.slotL H I (j:=0) rfl;have:=Z1 m;have:=Z3 m;have:=Zt (Z0 m) J;simp only[*,go_sem,seval]
 refine Zb h fun A K h=>Za (Znb K)<|yA ?_;refine Zk h (fun i s st=>match s with|(o,q,t,u,v,w,x)=>IV [(0,yM (yW b)),(2,.bp 0 0),(4,.bp 1 0),(5,yL G),(6,yM (.int .i64 x)),(7,.p false [.row 7]),(8,yL i)] [.box 37 [.nil 118 4,.nil 3 1,.nil 103 3,.nil 108 8,.nil 60 2,.c (.int .i64 0)],.box 37 [.row 2,.row 3,.row 4,.row 5,.row 6,.c (.int .i64 o)],.row 118 4 (A0 ZB q) 2,.row 3 1 (A0 Ye t) 2,.row 103 3 (A0 ZG u) 2,.row 108 8 (A0 Z6 v) 2,.row 60 2 (A0 Zo w) 2,.row 105 5 (A0 ZW A) 2] st) [] [0,1,2,3,4,5,6,151] yF yD ?_ ?_;rintro _ _ ⟨o,q,t,u,v,w,x⟩ ⟨_,_,_⟩ _ y B L h _;simp only[go_sem,seval,Zd]at B;obtain ⟨⟨_,_,_,_,_,_,_⟩,_,_,_,_,_,_,_,M,R⟩:=B;subst R;have N:=WF.rowL L M;have:=Z1 y;have:=Z3 y;have:=Zt (Z0 y) N;simp only[*,go_sem,seval];obtain ⟨_,O,h⟩:=XH h;refine Zjk (Zr2 O)<|yA ?_;exact yR h [0,1,152,153,154,155,156,7];rintro ⟨o,q,t,u,v,w,x⟩ ⟨_,_,_⟩ C _ h;simp only[go_sem,seval,Zd]at C
 obtain ⟨⟨_,_,_,_,_,_,_⟩,_,_,_,_,_,_,_,_,R⟩:=C;subst R;have:=ZY (A.length);obtain ⟨P,h⟩:=ZD h;try simp only[Nat.reduceLeDiff]at P
 simp only[*,go_sem,seval];exact yR h [0,1,2,136,4,5,6];rintro ⟨d,e,f,g,k,l⟩ ⟨_,_,_⟩ D _ h;simp only[go_sem,seval,Zd]at D;obtain ⟨⟨_,_,_,_⟩,_,_,_,_,_,_,_,R⟩:=D;subst R;have:=ZY (b.length);iterate 2 (cases h;exact yD)
theorem Zjg {G:List Zi}{a:Zh}{H:List Zf}{r:List Zi}(h:ZfI G a H=some r):Zp prog J0 113 [(false,[.sl 142 2 (A0 Yj G)]),(true,ZW a),(false,[.sl 60 2 (A0 Zo H)])] [(false,[(false,.sl 142 2 (A0 Yj r))])]:=by
 refine fnk func113 rfl ?_;unfold ZfI at h;simp only[fnS,f113,Zu,go_sem,seval];refine Zk h (fun i b st=>IV [(0,yM (zD G)),(2,yM (yU H)),(4,.bp 0 0),(7,.p false [.row 1]),(8,yL i)] [zE 105 (ZW a),.row 142 2 (A0 Yj b) 2] st) [] [0,32] yF yD ?_ ?_;rintro o _ b ⟨_,_,_⟩ _ d g q h _;simp only[go_sem,seval,Zd]at g;obtain ⟨⟨t,_,_,_,_⟩,_,_,I⟩:=g;subst I;have u:=WF.slotL q t (j:=0) rfl;have:=Z1 d;have:=Z3 d;have:=Zt (Z0 d) u;simp only[*,go_sem,seval];refine yB h (fun _ h=>?_) fun _ h=>?_;refine Zb h fun _ v h=>Za (Zpa v)<|yA ?_;refine yB h (fun _ h=>?_) fun _ h=>?_;refine Zb h fun _ w h=>Za (ZmX w) ?_;obtain ⟨x,h⟩:=ZD h;try simp only[Nat.reduceLeDiff]at x
 simp only[*,go_sem,seval];exact yR h [0,354];exact yR h [0,1];refine Zk h (fun i e st=>IV [(0,yM (zD G)),(2,yM (yU H)),(4,.bp 0 0),(7,.p false [.row 1]),(8,yL o),(9,yL i)] [zE 105 (ZW a),.row 142 2 (A0 Yj e) 2] st) [] [0,1] yF yD ?_ ?_;rintro _ _ e ⟨_,_,_⟩ _ f k y h _;simp only[go_sem,seval,Zd]at k;obtain ⟨⟨_,z,_,_,_,_⟩,_,_,I⟩:=k;subst I;have A:=WF.slotL y z (j:=0) rfl;have:=Z1 f;have:=Z3 f;have:=Zt (Z0 f) A;simp only[*,go_sem,seval];refine Zb h fun _ B h=>Za (ZfW B)<|yA ?_;refine yB h (fun _ h=>?_) fun _ h=>?_;refine Zb h fun _ C h=>Za (Xe C)<|yA ?_;refine Zb h fun _ D h=>Za (Qy D) ?_;obtain ⟨E,h⟩:=ZD h;try simp only[Nat.reduceLeDiff]at E
 obtain ⟨F,h⟩:=ZD h;try simp only[Nat.reduceLeDiff]at F
 simp only[*,go_sem,seval];exact yR h [0,626];exact yR h [0,1];rintro e ⟨_,_,_⟩ l _ h;simp only[go_sem,seval,Zd]at l;obtain ⟨⟨_,_,_,_,_,_⟩,_,_,I⟩:=l;subst I;have:=ZY (H.length);simp only[*,go_sem,seval];exact yR h [0,1];rintro b ⟨_,_,_⟩ m _ h;simp only[go_sem,seval,Zd]at m;obtain ⟨⟨_,_,_,_,_⟩,_,_,I⟩:=m;subst I;have:=ZY (G.length);cases h;exact yD
theorem Zgf {a:Zc}{b:List Zf}{r:Zc}(h:Zaq a b=some r):ZhN prog J0 JF0 174 37 [(false,.sl 118 4 (A0 ZB a.rules)),(false,.sl 3 1 (A0 Ye a.ends)),(false,.sl 103 3 (A0 ZG a.alphas)),(false,.sl 108 8 (A0 Z6 a.nodes)),(false,.sl 60 2 (A0 Zo a.facts)),(false,.int .i64 a.tries)] none [(false,[.sl 60 2 (A0 Zo b)])] [] [(false,.sl 118 4 (A0 ZB r.rules)),(false,.sl 3 1 (A0 Ye r.ends)),(false,.sl 103 3 (A0 ZG r.alphas)),(false,.sl 108 8 (A0 Z6 r.nodes)),(false,.sl 60 2 (A0 Zo r.facts)),(false,.int .i64 r.tries)]:=by
 refine fno func174 rfl ?_;unfold Zaq at h;simp only[fnO,f174,ZgG,gvC,go_sem,seval];refine Zb h fun U e1 h=>Za (Yx e1) ?_;simp only[*,go_sem,seval];refine Zba h (fun s st=>match s with|(d,i)=>IV [(0,.bp 0 0),(1,.p false [.c (.sl 60 2 (A0 Zo b))]),(15,.p false [.c (.int .i64 (a.alphas.length:Int))]),(16,.p false [.c (.int .i64 i)])] [.box 37 [.row 1,.row 2,.row 3,.row 4,.row 5,.c (.int .i64 a.tries)],.row 118 4 (A0 ZB a.rules) 2,.row 3 1 (A0 Ye a.ends) 2,.row 103 3 (A0 ZG d) 2,.row 108 8 (A0 Z6 a.nodes) 2,.row 60 2 (A0 Zo U) 2] st) [] [0,1,2,3,4,38] yF ?_ ?_
 .simp only[*,go_sem,seval]
 .rintro ⟨d,i⟩ ⟨sl,ob,n⟩ y2 j ag h l;simp only[go_sem,seval,Zd]at j;obtain ⟨⟨aa,W,R,P⟩,N,M,L,K,J,I,O⟩:=j;subst O;simp only[*,go_sem,seval];refine Ze h (fun c6 h=>?_) (fun c6 h=>?_)<;>try simp only[*,go_sem,seval]
  .obtain ⟨p7,h⟩:=ZD h;obtain ⟨x6,e8,h⟩:=XH h;simp only[*,go_sem,seval];refine Zb h fun v7 e9 h=>Za (Zcq e9) ?_;simp only[*,go_sem,seval];refine ⟨_,[],[0,1,2,3,4,5],(A6 h).symm,yF,?_⟩;simp only[*,go_sem,seval]
  .refine Zba h (fun s st=>match s with|(e,f)=>IV [(0,.bp 0 0),(1,.p false [.c (.sl 60 2 (A0 Zo b))]),(41,.p false [.c (.int .i64 (a.nodes.length:Int))]),(42,.p false [.c (.int .i64 f)])] [.box 37 [.row 1,.row 2,.row 3,.row 4,.row 5,.c (.int .i64 a.tries)],.row 118 4 (A0 ZB a.rules) 2,.row 3 1 (A0 Ye a.ends) 2,.row 103 3 (A0 ZG d) 2,.row 108 8 (A0 Z6 e) 2,.row 60 2 (A0 Zo U) 2] st) [] [0,1,2,3,4,5] yF ?_ ?_
   .simp only[*,go_sem,seval]
   .rintro ⟨e,f⟩ ⟨sl,ob,n⟩ ab g V h k;simp only[go_sem,seval,Zd]at g;obtain ⟨⟨T,S,H,G⟩,F,E,D,C,B,A,O⟩:=g;subst O;simp only[*,go_sem,seval];refine Ze h (fun m h=>?_) (fun m h=>?_)<;>try simp only[*,go_sem,seval]
    .refine Zb h fun ae o h=>Za (ZuD o) ?_;simp only[*,go_sem,seval];refine Zb h fun ad q h=>Za (Zpe q) ?_;obtain ⟨af,h⟩:=ZD h;obtain ⟨ac,ah,h⟩:=XH h;simp only[*,go_sem,seval];refine ⟨_,[],[0,1,2,3,4,5],(A6 h).symm,yF,?_⟩;simp only[*,go_sem,seval]
    .replace h:=Zv h k;replace h:=Zv h l;obtain rfl:=A6 h;simp only[*,go_sem,seval]
end
section
theorem ZpX {B:List Zh}{A:List Zf}{r:List Zi}(h:Zff B A=some r):Zp prog J0 109 [(false,[.sl 105 5 (A0 ZW B)]),(false,[.sl 60 2 (A0 Zo A)])] [(false,[(false,.sl 142 2 (A0 Yj r))])]:=by
 refine fnk func109 rfl ?_;unfold Zff at h;simp only[fnS,f109,Zu,go_sem,seval];refine Zk h (fun i a st=>IV [(0,yM (zB B)),(1,yM (yU A)),(5,.p false [.row 0]),(6,yL i)] [.row 142 2 (A0 Yj a) 2] st) [] [32] yF yD ?_ ?_;rintro _ _ a ⟨_,_,_⟩ _ b d f h _;simp only[go_sem,seval,Zd]at d;obtain ⟨⟨g,_,_,_⟩,_,C⟩:=d;subst C;have k:=WF.slotL f g (j:=0) rfl;have:=Z1 b;have:=Z3 b;have:=Zt (Z0 b) k;simp only[*,go_sem,seval];refine Zb h fun _ l h=>Za (Zjg l)<|yA ?_;exact yR h [161];rintro a ⟨_,_,_⟩ e _ h;simp only[go_sem,seval,Zd]at e;obtain ⟨⟨_,_,_,_⟩,_,C⟩:=e;subst C;have:=ZY (B.length);cases h;exact yD
theorem Zke {a:Zc}{f:List Zf}{e:Zf}{r:Zc}(h:Zdu a f e=some r):Zp prog J0 63 [(true,YD a),(false,[.sl 60 2 (A0 Zo f)]),(true,Zo e)] [(true,[(false,.sl 118 4 (A0 ZB r.rules)),(false,.sl 3 1 (A0 Ye r.ends)),(false,.sl 103 3 (A0 ZG r.alphas)),(false,.sl 108 8 (A0 Z6 r.nodes)),(false,.sl 60 2 (A0 Zo r.facts)),(false,.int .i64 r.tries)])]:=by
 refine fnk func63 rfl ?_;unfold Zdu at h;simp only[fnS,f63,Zu,go_sem,seval];refine Zb h fun d u h=>Za (Qr u)<|yA ?_;refine Zb h fun j v h=>Za (Xe v)<|yA ?_;refine Zba h (fun s st=>match s with|(g,i,k)=>IV [(1,yM (yU f)),(3,.bp 0 0),(5,.bp 1 0),(6,.bp 2 0),(7,.bp 3 0),(8,.p false [.row 9]),(9,yM (.int .i64 k))] [.box 37 [.c (yW a.rules),.c (yY a.ends),.c (yZ a.alphas),.c (zA a.nodes),.c (yU a.facts),.c (.int .i64 a.tries)],zE 60 (Zo e),.box 37 [.nil 118 4,.nil 3 1,.nil 103 3,.nil 108 8,.nil 60 2,.c (.int .i64 0)],.box 37 [.row 4,.row 5,.row 6,.row 7,.row 8,.c (.int .i64 d.tries)],.row 118 4 (A0 ZB d.rules) 2,.row 3 1 (A0 Ye d.ends) 2,.row 103 3 (A0 ZG g) 2,.row 108 8 (A0 Z6 d.nodes) 2,.row 60 2 (A0 Zo j) 2,.row 4 1 (A0 Zwm i) 2] st) [] [0,16,32,80,64,65,66,67,128,176] yF yD ?_;rintro ⟨g,i,k⟩ ⟨_,_,_⟩ _ l _ h w;simp only[go_sem,seval,Zd]at l
 obtain ⟨⟨_,_,_,_,_,_,_⟩,_,_,_,_,_,_,_,_,_,_,E⟩:=l;subst E;simp only[*,go_sem,seval];refine yB h (fun _ h=>?_) fun _ h=>?_;obtain ⟨_,h⟩:=ZD h;obtain ⟨_,_,h⟩:=XH h;simp only[*,go_sem,seval];refine Zb h fun _ x h=>Za (ZfW x) ?_;obtain ⟨y,h⟩:=ZD h;try simp only[Nat.reduceLeDiff]at y
 simp only[*,go_sem,seval];refine Zb h fun _ z h=>Za (ZaI z)<|yA ?_;exact yR h [0,1,2,3,4,5,6,7,8,346];refine Zba h (fun s st=>match s with|(m,o,q)=>IV [(3,.bp 0 0),(6,.bp 1 0),(7,.bp 2 0),(8,.p false [.row 8]),(12,yM (.int .i64 q))] [.box 37 [.c (yW a.rules),.c (yY a.ends),.c (yZ a.alphas),.c (zA a.nodes),.c (yU a.facts),.c (.int .i64 a.tries)],.box 37 [.nil 118 4,.nil 3 1,.nil 103 3,.nil 108 8,.nil 60 2,.c (.int .i64 0)],.box 37 [.row 3,.row 4,.row 5,.row 6,.row 7,.c (.int .i64 m)],.row 118 4 (A0 ZB d.rules) 2,.row 3 1 (A0 Ye d.ends) 2,.row 103 3 (A0 ZG g) 2,.row 108 8 (A0 Z6 o) 2,.row 60 2 (A0 Zo j) 2,.row 4 1 (A0 Zwm i) 2] st) [] [0,2,3,4,5,6,7,8,9] yF yD ?_;rintro ⟨m,o,q⟩ ⟨_,_,_⟩ _ t _ h A;simp only[go_sem,seval,Zd]at t;obtain ⟨⟨_,_,_,_,_⟩,_,_,_,_,_,_,_,_,_,E⟩:=t;subst E;simp only[*,go_sem,seval];refine yB h (fun _ h=>?_) fun _ h=>?_;obtain ⟨_,h⟩:=ZD h;obtain ⟨_,_,h⟩:=XH h
 obtain ⟨_,h⟩:=ZD h;obtain ⟨_,_,h⟩:=XH h;obtain ⟨_,_,_,_,h⟩:=Za4 h;simp only[*,go_sem,seval];refine Zb h fun _ B h=>Za (ZuA B)<|yA ?_;refine yB h (fun _ h=>?_) fun _ h=>?_;refine Zb h fun _ C h=>Za (Zjg C)<|yA ?_;exact yR h [0,1,2,3,4,5,6,7,8];obtain ⟨_,h⟩:=ZD h;obtain ⟨_,_,h⟩:=XH h;simp only[*,go_sem,seval];refine Zb h fun _ D h=>Za (Zjg D) ?_;obtain ⟨_,h⟩:=ZD h;obtain ⟨_,_,h⟩:=XH h;simp only[*,go_sem,seval];refine yB h (fun _ h=>?_) fun _ h=>?_;exact yR h [0,1,2,3,4,5,6,7,8];exact yR h [0,1,2,3,4,5,6,7,8];replace h:=Zv h A;replace h:=Zv h w;cases h;exact yD
theorem Zvy {B:List Zq}{C:List Zf}{A:Int}{r:Zc}(h:ZlY B C A=some r):Zp prog J0 128 [(false,[.sl 118 4 (A0 ZB B)]),(false,[.sl 60 2 (A0 Zo C)]),(false,[.int .i64 A])] [(true,[(false,.sl 118 4 (A0 ZB r.rules)),(false,.sl 3 1 (A0 Ye r.ends)),(false,.sl 103 3 (A0 ZG r.alphas)),(false,.sl 108 8 (A0 Z6 r.nodes)),(false,.sl 60 2 (A0 Zo r.facts)),(false,.int .i64 r.tries)])]:=by
 refine fnk func128 rfl ?_;unfold ZlY at h;simp only[fnS,f128,Zu,go_sem,seval];refine Zb h fun _ a h=>Za (Zof a)<|yA ?_;obtain ⟨_,b,h⟩:=XH h;refine Zjk (Zgf b) ?_;cases h;exact yD
theorem Zld {G:Zc}{String_1:List Zf}{H:Zf}{r:Zc}(h:Ze6 G String_1 H=some r):Zp prog J0 130 [(true,YD G),(false,[.sl 60 2 (A0 Zo String_1)]),(true,Zo H)] [(true,[(false,.sl 118 4 (A0 ZB r.rules)),(false,.sl 3 1 (A0 Ye r.ends)),(false,.sl 103 3 (A0 ZG r.alphas)),(false,.sl 108 8 (A0 Z6 r.nodes)),(false,.sl 60 2 (A0 Zo r.facts)),(false,.int .i64 r.tries)])]:=by
 refine fnk func130 rfl ?_;unfold Ze6 at h;simp only[fnS,f130,Zu,go_sem,seval];refine Zb h fun _ v h=>Za (YI v)<|yA ?_;obtain ⟨b,w,h⟩:=XH h;refine Zjk (Zgf w)<|yA ?_;refine Zk h (fun i e st=>IV [(3,.bp 0 0),(5,.bp 1 0),(6,.bp 2 0),(7,.bp 3 0),(22,.p false [.row 7]),(23,yL b.nodes.length),(24,yL i)] [.box 37 [.c (yW G.rules),.c (yY G.ends),.c (yZ G.alphas),.c (zA G.nodes),.c (yU G.facts),.c (.int .i64 G.tries)],zE 60 (Zo H),.box 37 [.nil 118 4,.nil 3 1,.nil 103 3,.nil 108 8,.nil 60 2,.c (.int .i64 0)],.box 37 [.row 4,.row 5,.row 6,.row 7,.row 8,.c (.int .i64 e)],.row 118 4 (A0 ZB b.rules) 2,.row 3 1 (A0 Ye b.ends) 2,.row 103 3 (A0 ZG b.alphas) 2,.row 108 8 (A0 Z6 b.nodes) 2,.row 60 2 (A0 Zo b.facts) 2] st) [] [0,16,32,80,128,129,130,131,132] yF yD ?_ ?_;rintro x d e ⟨_,_,_⟩ _ f o y h _;simp only[go_sem,seval,Zd]at o
 obtain ⟨⟨_,_,_,_,_,_,_⟩,_,_,_,_,_,_,_,z,_,I⟩:=o;subst I;have A:=WF.rowL y z;have:=Z1 f;have:=Z3 f;have:=Zt (Z0 f) A;simp only[*,go_sem,seval];refine yB h (fun _ h=>?_) fun _ h=>?_;exact yR h [0,1,2,3,4,5,6,7,8];obtain ⟨_,h⟩:=ZD h;obtain ⟨g,_,h⟩:=XH h;simp only[*,go_sem,seval]
 refine Zk h (fun i s st=>match s with|(k,l)=>IV [(3,.bp 0 0),(5,.bp 1 0),(6,.bp 2 0),(7,.bp 3 0),(9,.bp 9 0),(10,yM (.int .i64 k)),(11,yM (.int .i64 l)),(22,.p false [.row 7]),(23,yL b.nodes.length),(24,yL x),(37,yM (zD g.tokens)),(38,yL g.tokens.length),(39,yL i)] [.box 37 [.c (yW G.rules),.c (yY G.ends),.c (yZ G.alphas),.c (zA G.nodes),.c (yU G.facts),.c (.int .i64 G.tries)],zE 60 (Zo H),.box 37 [.nil 118 4,.nil 3 1,.nil 103 3,.nil 108 8,.nil 60 2,.c (.int .i64 0)],.box 37 [.row 4,.row 5,.row 6,.row 7,.row 8,.c (.int .i64 e)],.row 118 4 (A0 ZB b.rules) 2,.row 3 1 (A0 Ye b.ends) 2,.row 103 3 (A0 ZG b.alphas) 2,.row 108 8 (A0 Z6 b.nodes) 2,.row 60 2 (A0 Zo b.facts) 2,zE 108 (Z6 d)] st) [] [0,1,2,3,4,5,6,7,8,73] yF yD ?_ ?_;rintro _ _ ⟨k,l⟩ ⟨_,_,_⟩ _ m q B h _;simp only[go_sem,seval,Zd]at q
 obtain ⟨⟨_,_,_,_,_,_,_,_,_,_,C,_,_⟩,_,_,_,_,_,_,_,_,_,_,I⟩:=q;subst I;have D:=WF.slotL B C (j:=0) rfl;have:=Z1 m;have:=Z3 m;have:=Zt (Z0 m) D;obtain ⟨_,_,_,_,h⟩:=Za4 h;simp only[*,go_sem,seval];refine Zb h fun _ E h=>Za (ZpJ E)<|yA ?_;refine yB h (fun _ h=>?_) fun _ h=>?_;exact yR h [0,1,2,3,4,5,6,7,8,9];exact yR h [0,1,2,3,4,5,6,7,8,9];rintro ⟨k,l⟩ ⟨_,_,_⟩ t _ h;simp only[go_sem,seval,Zd]at t;obtain ⟨⟨_,_,_,_,_,_,_,_,_,_,_,_,_⟩,_,_,_,_,_,_,_,_,_,_,I⟩:=t;subst I;have:=ZY (g.tokens.length);simp only[*,go_sem,seval];refine yB h (fun _ h=>?_) fun _ h=>?_;exact yR h [0,1,2,3,4,5,6,7,8];obtain ⟨_,h⟩:=ZD h;obtain ⟨_,_,h⟩:=XH h;simp only[*,go_sem,seval];refine Zb h fun _ F h=>Za (Zdb F)<|yA ?_;refine yB h (fun _ h=>?_) fun _ h=>?_;exact yR h [0,1,2,3,4,5,6,7,8];exact yR h [0,1,2,3,4,5,6,7,8];rintro e ⟨_,_,_⟩ u _ h;simp only[go_sem,seval,Zd]at u
 obtain ⟨⟨_,_,_,_,_,_,_⟩,_,_,_,_,_,_,_,_,_,I⟩:=u;subst I;have:=ZY (b.nodes.length);cases h;exact yD
end
section
theorem ZjC {E:Zc}{r:Bool}(h:ZcE E=some r):Zp prog J0 62 [(true,YD E)] [(false,[(false,.bool r)])]:=by
 refine fnk func62 rfl ?_;unfold ZcE at h;simp only[fnS,f62,Zu,go_sem,seval];refine Zb h fun _ k h=>Za (Zlg k)<|yA ?_;refine yB h (fun _ h=>?_) fun _ h=>?_;refine Zb h fun _ l h=>Za (Zgs l)<|yA ?_;refine yB h (fun _ h=>?_) fun _ h=>?_;refine Zb h fun _ m h=>Za (Znl m)<|yA ?_;iterate 2 refine yB h (fun _ h=>?_) fun _ h=>?_
 cases h;exact yD;refine Zk h (fun i _ st=>IV [(1,.bp 0 0),(5,yL i)] [.box 37 [.c (yW E.rules),.c (yY E.ends),.c (yZ E.alphas),.c (zA E.nodes),.c (yU E.facts),.c (.int .i64 E.tries)]] st) [] [0] yF yD ?_ ?_;rintro _ _ ⟨⟩ ⟨_,_,_⟩ _ a d o h q;simp only[go_sem,seval,Zd]at d;obtain ⟨⟨_,_⟩,t,F⟩:=d;subst F;have u:=WF.boxL o t (j:=2) rfl;have:=Z1 a;have:=Z3 a;have:=Zt (Z0 a) u;simp only[*,go_sem,seval];refine Zb h fun _ v h=>Za (ZaI v)<|yA ?_;refine Zb h fun _ w h=>Za (ZiD w)<|yA ?_;refine yB h (fun _ h=>?_) fun _ h=>?_;exact yR h [0];replace h:=Zv h q;cases h;exact yD;rintro ⟨⟩ ⟨_,_,_⟩ e _ h;simp only[go_sem,seval,Zd]at e;obtain ⟨⟨_,_⟩,_,F⟩:=e;subst F;have:=ZY (E.alphas.length);simp only[*,go_sem,seval]
 refine Zk h (fun i _ st=>IV [(1,.bp 0 0),(6,yL i)] [.box 37 [.c (yW E.rules),.c (yY E.ends),.c (yZ E.alphas),.c (zA E.nodes),.c (yU E.facts),.c (.int .i64 E.tries)]] st) [] [0] yF yD ?_ ?_;rintro _ _ ⟨⟩ ⟨_,_,_⟩ _ b f x h y;simp only[go_sem,seval,Zd]at f;obtain ⟨⟨_,_⟩,z,F⟩:=f;subst F;have A:=WF.boxL x z (j:=3) rfl;have:=Z1 b;have:=Z3 b;have:=Zt (Z0 b) A;simp only[*,go_sem,seval];refine Zb h fun _ B h=>Za (Zt5 B)<|yA ?_;refine Zb h fun _ C h=>Za (ZpX C)<|yA ?_;refine Zb h fun _ D h=>Za (Zl5 D)<|yA ?_;refine yB h (fun _ h=>?_) fun _ h=>?_;exact yR h [0];replace h:=Zv h y;cases h;exact yD;rintro ⟨⟩ ⟨_,_,_⟩ g _ h;simp only[go_sem,seval,Zd]at g;obtain ⟨⟨_,_⟩,_,F⟩:=g;subst F;have:=ZY (E.nodes.length);iterate 4 (cases h;exact yD)
theorem Zjw {A:Zc}{r:Bool}(h:Zcx A=some r):Zp prog J0 75 [(true,YD A)] [(false,[(false,.bool r)])]:=by
 refine fnk func75 rfl ?_;unfold Zcx at h;simp only[fnS,f75,Zu,go_sem,seval];refine Zb h fun _ a h=>Za (Zp0 a)<|yA ?_;refine yB h (fun _ h=>?_) fun _ h=>?_;refine Zb h fun _ b h=>Za (Zgy b)<|yA ?_;iterate 2 refine yB h (fun _ h=>?_) fun _ h=>?_
 refine Zb h fun _ c h=>Za (Zvy c)<|yA ?_;refine Zb h fun _ d h=>Za (Zlr d) ?_;iterate 4 (cases h;exact yD)
theorem ZzL {A:Zc}{B:Zf}{r:(Zc×Bool)}(h:ZwU A B=some r):Zp prog J0 76 [(true,YD A),(true,Zo B)] [(true,[(false,.sl 118 4 (A0 ZB r.1.rules)),(false,.sl 3 1 (A0 Ye r.1.ends)),(false,.sl 103 3 (A0 ZG r.1.alphas)),(false,.sl 108 8 (A0 Z6 r.1.nodes)),(false,.sl 60 2 (A0 Zo r.1.facts)),(false,.int .i64 r.1.tries)]),(false,[(false,.bool r.2)])]:=by
 refine fnk func76 rfl ?_;unfold ZwU at h;simp only[fnS,f76,Zu,go_sem,seval];refine Zb h fun _ a h=>Za (ZrW a)<|yA ?_;refine yB h (fun _ h=>?_) fun _ h=>?_;refine Zb h fun _ b h=>Za (Zld b) ?_;cases h;exact yD;refine Zb h fun _ c h=>Za (YI c) ?_;cases h;exact yD
theorem Zyo {A:Zc}{B:Zf}{r:(Zc×Bool)}(h:Zsi A B=some r):Zp prog J0 77 [(true,YD A),(true,Zo B)] [(true,[(false,.sl 118 4 (A0 ZB r.1.rules)),(false,.sl 3 1 (A0 Ye r.1.ends)),(false,.sl 103 3 (A0 ZG r.1.alphas)),(false,.sl 108 8 (A0 Z6 r.1.nodes)),(false,.sl 60 2 (A0 Zo r.1.facts)),(false,.int .i64 r.1.tries)]),(false,[(false,.bool r.2)])]:=by
 refine fnk func77 rfl ?_;unfold Zsi at h;simp only[fnS,f77,Zu,go_sem,seval];refine Zb h fun _ a h=>Za (Zng a)<|yA ?_;refine yB h (fun _ h=>?_) fun _ h=>?_;refine Zb h fun _ b h=>Za (Zld b) ?_;cases h;exact yD;refine Zb h fun _ c h=>Za (YI c) ?_;cases h;exact yD
end
section
theorem Zgc {A:Zc}{B:Zf}{r:(Zc×Bool)}(h:Zao A B=some r):Zp prog J0 22 [(true,YD A),(true,Zo B)] [(true,[(false,.sl 118 4 (A0 ZB r.1.rules)),(false,.sl 3 1 (A0 Ye r.1.ends)),(false,.sl 103 3 (A0 ZG r.1.alphas)),(false,.sl 108 8 (A0 Z6 r.1.nodes)),(false,.sl 60 2 (A0 Zo r.1.facts)),(false,.int .i64 r.1.tries)]),(false,[(false,.bool r.2)])]:=by
 refine fnk func22 rfl ?_;unfold Zao at h;simp only[fnS,f22,Zu,go_sem,seval];refine Zb h fun _ a h=>Za (Zsf a)<|yA ?_;refine Zb h fun _ b h=>Za (ZjC b)<|yA ?_;iterate 2 refine yB h (fun _ h=>?_) fun _ h=>?_
 refine Zb h fun _ c h=>Za (Zke c) ?_;cases h;exact yD;refine Zb h fun _ d h=>Za (Qr d) ?_;cases h;exact yD;refine Zb h fun _ e h=>Za (Qr e) ?_;cases h;exact yD
theorem Zd7 {A:Zc}{B:Zf}{r:(Zc×Bool)}(h:X7 A B=some r):Zp prog J0 23 [(true,YD A),(true,Zo B)] [(true,[(false,.sl 118 4 (A0 ZB r.1.rules)),(false,.sl 3 1 (A0 Ye r.1.ends)),(false,.sl 103 3 (A0 ZG r.1.alphas)),(false,.sl 108 8 (A0 Z6 r.1.nodes)),(false,.sl 60 2 (A0 Zo r.1.facts)),(false,.int .i64 r.1.tries)]),(false,[(false,.bool r.2)])]:=by
 refine fnk func23 rfl ?_;unfold X7 at h;simp only[fnS,f23,Zu,go_sem,seval];refine Zb h fun _ a h=>Za (Znf a)<|yA ?_;refine Zb h fun _ b h=>Za (ZjC b)<|yA ?_;iterate 2 refine yB h (fun _ h=>?_) fun _ h=>?_
 refine Zb h fun _ c h=>Za (Zke c) ?_;cases h;exact yD;refine Zb h fun _ d h=>Za (Qr d) ?_;cases h;exact yD;refine Zb h fun _ e h=>Za (Qr e) ?_;cases h;exact yD
theorem Zf2 {A:Zc}{B:Zf}{r:(Zc×Bool)}(h:XZ A B=some r):Zp prog J0 31 [(true,YD A),(true,Zo B)] [(true,[(false,.sl 118 4 (A0 ZB r.1.rules)),(false,.sl 3 1 (A0 Ye r.1.ends)),(false,.sl 103 3 (A0 ZG r.1.alphas)),(false,.sl 108 8 (A0 Z6 r.1.nodes)),(false,.sl 60 2 (A0 Zo r.1.facts)),(false,.int .i64 r.1.tries)]),(false,[(false,.bool r.2)])]:=by
 refine fnk func31 rfl ?_;unfold XZ at h;simp only[fnS,f31,Zu,go_sem,seval];refine Zb h fun _ a h=>Za (Zjw a)<|yA ?_;refine yB h (fun _ h=>?_) fun _ h=>?_;refine Zb h fun _ b h=>Za (ZzL b) ?_;cases h;exact yD;refine Zb h fun _ c h=>Za (YI c) ?_;cases h;exact yD
theorem Zek {A:Zc}{B:Zf}{r:(Zc×Bool)}(h:Y7 A B=some r):Zp prog J0 32 [(true,YD A),(true,Zo B)] [(true,[(false,.sl 118 4 (A0 ZB r.1.rules)),(false,.sl 3 1 (A0 Ye r.1.ends)),(false,.sl 103 3 (A0 ZG r.1.alphas)),(false,.sl 108 8 (A0 Z6 r.1.nodes)),(false,.sl 60 2 (A0 Zo r.1.facts)),(false,.int .i64 r.1.tries)]),(false,[(false,.bool r.2)])]:=by
 refine fnk func32 rfl ?_;unfold Y7 at h;simp only[fnS,f32,Zu,go_sem,seval];refine Zb h fun _ a h=>Za (Zjw a)<|yA ?_;refine yB h (fun _ h=>?_) fun _ h=>?_;refine Zb h fun _ b h=>Za (Zyo b) ?_;cases h;exact yD;refine Zb h fun _ c h=>Za (YI c) ?_;cases h;exact yD
end
section
theorem Zpu {G:Zc}{a:List YB}{r:(Zc×Bool)}(h:Zet G a=some r):Zp prog J0 6 [(true,YD G),(false,[.sl 62 4 (A0 ZkQ a)])] [(true,[(false,.sl 118 4 (A0 ZB r.1.rules)),(false,.sl 3 1 (A0 Ye r.1.ends)),(false,.sl 103 3 (A0 ZG r.1.alphas)),(false,.sl 108 8 (A0 Z6 r.1.nodes)),(false,.sl 60 2 (A0 Zo r.1.facts)),(false,.int .i64 r.1.tries)]),(false,[(false,.bool r.2)])]:=by
 refine fnk func6 rfl ?_;unfold Zet at h;simp only[fnS,f6,Zu,go_sem,seval];refine Zb h fun _ u h=>Za (Qr u)<|yA ?_;refine Zk h (fun i s st=>match s with|(e,f,g,k,l,m)=>IV [(1,yM (.sl 62 4 (A0 ZkQ a))),(2,.bp 0 0),(4,.bp 1 0),(6,.bp 2 0),(7,yL i)] [.box 37 [.c (yW G.rules),.c (yY G.ends),.c (yZ G.alphas),.c (zA G.nodes),.c (yU G.facts),.c (.int .i64 G.tries)],.box 37 [.nil 118 4,.nil 3 1,.nil 103 3,.nil 108 8,.nil 60 2,.c (.int .i64 0)],.box 37 [.row 3,.row 4,.row 5,.row 6,.row 7,.c (.int .i64 e)],.row 118 4 (A0 ZB f) 2,.row 3 1 (A0 Ye g) 2,.row 103 3 (A0 ZG k) 2,.row 108 8 (A0 Z6 l) 2,.row 60 2 (A0 Zo m) 2] st) [] [0,16,80,64,65,66,67,68] yF yD ?_ ?_;rintro _ _ ⟨e,f,g,k,l,m⟩ ⟨_,_,_⟩ _ o q v h d;simp only[go_sem,seval,Zd]at q;obtain ⟨⟨w,_,_,_,_⟩,_,_,_,_,_,_,_,_,H⟩:=q;subst H;have x:=WF.slotL v w (j:=0) rfl;have:=Z1 o;have:=Z3 o;have:=Zt (Z0 o) x;simp only[*,go_sem,seval]
 refine yB h (fun _ h=>?_) fun _ h=>?_;refine Zb h fun _ y h=>Za (Zgc y)<|yA ?_;refine yB h (fun _ h=>?_) fun _ h=>?_;exact yR h [0,1,2,344,345,346,347,348];refine Zb h fun _ z h=>Za (Qr z) ?_;replace h:=Zv h d;cases h;exact yD;refine yB h (fun _ h=>?_) fun _ h=>?_;refine Zb h fun _ A h=>Za (Zgc A)<|yA ?_;refine yB h (fun _ h=>?_) fun _ h=>?_;exact yR h [0,1,2,376,377,378,379,380];refine Zb h fun _ B h=>Za (Qr B) ?_;replace h:=Zv h d;cases h;exact yD;refine yB h (fun _ h=>?_) fun _ h=>?_;refine Zb h fun _ C h=>Za (Zd7 C)<|yA ?_;refine yB h (fun _ h=>?_) fun _ h=>?_;exact yR h [0,1,2,408,409,410,411,412];refine Zb h fun _ D h=>Za (Qr D) ?_;replace h:=Zv h d;cases h;exact yD;refine yB h (fun _ h=>?_) fun _ h=>?_;refine Zb h fun _ E h=>Za (Zd7 E)<|yA ?_;refine yB h (fun _ h=>?_) fun _ h=>?_;exact yR h [0,1,2,440,441,442,443,444];refine Zb h fun _ F h=>Za (Qr F) ?_;replace h:=Zv h d
 cases h;exact yD;exact yR h [0,1,2,3,4,5,6,7];rintro ⟨e,f,g,k,l,m⟩ ⟨_,_,_⟩ t _ h;simp only[go_sem,seval,Zd]at t;obtain ⟨⟨_,_,_,_,_⟩,_,_,_,_,_,_,_,_,H⟩:=t;subst H;have:=ZY (a.length);cases h;exact yD
theorem Zox {G:Zc}{a:List YB}{r:(Zc×Bool)}(h:Zd5 G a=some r):Zp prog J0 9 [(true,YD G),(false,[.sl 62 4 (A0 ZkQ a)])] [(true,[(false,.sl 118 4 (A0 ZB r.1.rules)),(false,.sl 3 1 (A0 Ye r.1.ends)),(false,.sl 103 3 (A0 ZG r.1.alphas)),(false,.sl 108 8 (A0 Z6 r.1.nodes)),(false,.sl 60 2 (A0 Zo r.1.facts)),(false,.int .i64 r.1.tries)]),(false,[(false,.bool r.2)])]:=by
 refine fnk func9 rfl ?_;unfold Zd5 at h;simp only[fnS,f9,Zu,go_sem,seval];refine Zb h fun _ u h=>Za (YI u)<|yA ?_;refine Zk h (fun i s st=>match s with|(e,f,g,k,l,m)=>IV [(2,.bp 0 0),(4,.bp 1 0),(6,.bp 2 0),(13,yM (.sl 62 4 (A0 ZkQ a))),(14,yL a.length),(15,yL i)] [.box 37 [.c (yW G.rules),.c (yY G.ends),.c (yZ G.alphas),.c (zA G.nodes),.c (yU G.facts),.c (.int .i64 G.tries)],.box 37 [.nil 118 4,.nil 3 1,.nil 103 3,.nil 108 8,.nil 60 2,.c (.int .i64 0)],.box 37 [.row 3,.row 4,.row 5,.row 6,.row 7,.c (.int .i64 e)],.row 118 4 (A0 ZB f) 2,.row 3 1 (A0 Ye g) 2,.row 103 3 (A0 ZG k) 2,.row 108 8 (A0 Z6 l) 2,.row 60 2 (A0 Zo m) 2] st) [] [0,16,80,64,65,66,67,68] yF yD ?_ ?_;rintro _ _ ⟨e,f,g,k,l,m⟩ ⟨_,_,_⟩ _ o q v h d;simp only[go_sem,seval,Zd]at q;obtain ⟨⟨_,_,_,w,_,_⟩,_,_,_,_,_,_,_,_,H⟩:=q;subst H;have x:=WF.slotL v w (j:=0) rfl;have:=Z1 o;have:=Z3 o;have:=Zt (Z0 o) x
 simp only[*,go_sem,seval];refine yB h (fun _ h=>?_) fun _ h=>?_;refine Zb h fun _ y h=>Za (Zf2 y)<|yA ?_;refine yB h (fun _ h=>?_) fun _ h=>?_;exact yR h [0,1,2,232,233,234,235,236];refine Zb h fun _ z h=>Za (YI z) ?_;replace h:=Zv h d;cases h;exact yD;refine yB h (fun _ h=>?_) fun _ h=>?_;refine Zb h fun _ A h=>Za (Zf2 A)<|yA ?_;refine yB h (fun _ h=>?_) fun _ h=>?_;exact yR h [0,1,2,264,265,266,267,268];refine Zb h fun _ B h=>Za (YI B) ?_;replace h:=Zv h d;cases h;exact yD;refine yB h (fun _ h=>?_) fun _ h=>?_;refine Zb h fun _ C h=>Za (Zek C)<|yA ?_;refine yB h (fun _ h=>?_) fun _ h=>?_;exact yR h [0,1,2,296,297,298,299,300];refine Zb h fun _ D h=>Za (YI D) ?_;replace h:=Zv h d;cases h;exact yD;refine yB h (fun _ h=>?_) fun _ h=>?_;refine Zb h fun _ E h=>Za (Zek E)<|yA ?_;refine yB h (fun _ h=>?_) fun _ h=>?_;exact yR h [0,1,2,328,329,330,331,332];refine Zb h fun _ F h=>Za (YI F) ?_
 replace h:=Zv h d;cases h;exact yD;exact yR h [0,1,2,3,4,5,6,7];rintro ⟨e,f,g,k,l,m⟩ ⟨_,_,_⟩ t _ h;simp only[go_sem,seval,Zd]at t;obtain ⟨⟨_,_,_,_,_,_⟩,_,_,_,_,_,_,_,_,H⟩:=t;subst H;have:=ZY (a.length);cases h;exact yD
end
end
end Go.Proofs.YtfdjdgdipgfmeaaGreatDoor
