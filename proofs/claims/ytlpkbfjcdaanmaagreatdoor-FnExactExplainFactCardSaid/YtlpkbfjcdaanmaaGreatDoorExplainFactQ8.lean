/- Texts of this proof, joined: Dp15, Dp16, Dp18, Dp17, Dp13, Fo, Dp19, Dp20, Fc, Dp21, Dp22, Dp23, Dp24, Sz, To. What each holds is said at its theorems. -/
import Derived.Test.YtlpkbfjcdaanmaaGreatDoorExplainFactQ6
import Derived.Test.YtlpkbfjcdaanmaaGreatDoorExplainFactQ7
import Derived.Test.YtlpkbfjcdaanmaaGreatDoorProg
import Derived.OwnWalk
import Derived.Outline
import Derived.WalkSpells
import Derived.StillTailTactics
import Derived.Deep.RegionHeld3
import Derived.Test.YtlpkbfjcdaanmaaGreatDoorExplainFactQ4
import Derived.BigQuiet
import Derived.Test.YtlpkbfjcdaanmaaGreatDoorExplainFactQ1
open Int renaming toNat_natCast→AE
open List renaming map→A0,drop_eq_getElem_cons→A8,drop_of_length_le→AA,append_assoc→AB,drop_zero→AC,getElem?_eq_some_iff→AD,drop_eq_nil_of_le→AF,mem_singleton→AG,length_append→AH,map_append→AI
open Nat renaming le_refl→A4,le_trans→A5,zero_le→A6
open Option renaming bind_eq_some_iff→A7,bind_some→A9
open Option.some renaming inj→A3
open Go.Proofs.Tryz
set_option linter.unusedSimpArgs false
set_option linter.unusedVariables false
set_option maxRecDepth 1000000
set_option maxHeartbeats 4000000
open Go.Lib renaming hid→yS
namespace Go.Proofs.YtlpkbfjcdaanmaaGreatDoor
section
theorem Ziw {append_0:List Zl}{String_1:List Zc}{r:List Zq}(h:Zao append_0 String_1=some r):Zm prog J0 70 [(false,[.sl 80 5 (A0 ZJ append_0)]),(false,[.sl 53 2 (A0 Zs String_1)])] [(false,[(true,.sl 111 2 (A0 YU r))])]:=by
 refine fnk func70 rfl ?_;unfold Zao at h;simp only[fnS,f70,Zo,go_sem,seval];refine Zh h (fun i b st=>IV [(1,yM (yT String_1)),(5,.p false [.row 0]),(17,yM (yY append_0)),(18,yL append_0.length),(19,yL i)] [.row 111 2 (A0 YU b) 1] st) [(true,32,1)] [32] yF yD ?_ ?_
 rintro l a b ⟨_,_,_⟩ _ d m x h _;simp only[go_sem,seval,Zb]at m;obtain ⟨⟨_,_,y,_,_⟩,_,hn⟩:=m;subst hn;have z:=WF.slotL x y (j:=0) rfl;have:=ZC d;have:=ZE d;have:=Zk (ZD d) z;simp only[*,go_sem,seval];refine Zh h (fun i e st=>IV [(1,yM (yT String_1)),(7,.bp 0 0),(8,.p false [.row 1]),(17,yM (yY append_0)),(18,yL append_0.length),(19,yL l),(23,.p false [.row 2]),(24,yL b.length),(25,yL i)] [zD 80 (ZJ a),.row 111 2 (A0 YU e) 1,.row 111 2 (A0 YU b) 1] st) [(false,8,0),(true,145,1)] [49,145,0] yF yD ?_ ?_
 rintro A o e ⟨_,_,_⟩ _ f q B h _;simp only[go_sem,seval,Zb]at q;obtain ⟨⟨_,_,_,_,_,_,_,_,_⟩,_,_,C,hn⟩:=q;subst hn;have D:=WF.rowL B C;have:=ZC f;have:=ZE f;have:=Zk (ZD f) D;simp only[*,go_sem,seval];refine yB h (fun _ h=>?_) fun _ h=>?_
 refine ZPO h fun _ E h=>Zd (Zhh E)<|yA ?_
 refine yB h (fun _ h=>?_) fun _ h=>?_
 obtain ⟨F,h⟩:=Zv h;try simp only[Nat.reduceLeDiff]at F
 simp only[*,go_sem,seval];exact yR h [0,259,2];exact yR h [0,1,2];refine Zh h (fun i g st=>IV [(1,yM (yT String_1)),(7,.bp 0 0),(8,.p false [.row 1]),(10,.bp 2 0),(17,yM (yY append_0)),(18,yL append_0.length),(19,yL l),(23,.p false [.row 3]),(24,yL b.length),(25,yL A),(41,yM (yT String_1)),(42,yL String_1.length),(43,yL i)] [zD 80 (ZJ a),.row 111 2 (A0 YU g) 1,zD 111 (YU o),.row 111 2 (A0 YU b) 1] st) [] [0,1,51,2] yF yD ?_ ?_
 rintro _ _ g ⟨_,_,_⟩ _ k t G h _;simp only[go_sem,seval,Zb]at t;obtain ⟨⟨H,_,_,_,_,_,_,_,_,_,_,_,_⟩,_,_,_,_,hn⟩:=t;subst hn;have I:=WF.slotL G H (j:=0) rfl;have:=ZC k;have:=ZE k;have:=Zk (ZD k) I;simp only[*,go_sem,seval];refine ZPO h fun _ J h=>Zd (ZbH J)<|yA ?_
 refine yB h (fun _ h=>?_) fun _ h=>?_
 refine ZPO h fun _ K h=>Zd (ZdW K)<|yA ?_
 refine ZPO h fun _ L h=>Zd (YO L) ?_
 obtain ⟨M,h⟩:=Zv h;try simp only[Nat.reduceLeDiff]at M
 obtain ⟨N,h⟩:=Zv h;try simp only[Nat.reduceLeDiff]at N
 simp only[*,go_sem,seval];exact yR h [0,452,2,3];exact yR h [0,1,2,3];rintro g ⟨_,_,_⟩ u _ h;simp only[go_sem,seval,Zb]at u;obtain ⟨⟨_,_,_,_,_,_,_,_,_,_,_,_,_⟩,_,_,_,_,hn⟩:=u;subst hn;have:=ZB (String_1.length);simp only[*,go_sem,seval];exact yR h [0,1,3];rintro e ⟨_,_,_⟩ v _ h;simp only[go_sem,seval,Zb]at v;obtain ⟨⟨_,_,_,_,_,_,_,_,_⟩,_,_,_,hn⟩:=v;subst hn;have:=ZB (b.length);simp only[*,go_sem,seval];exact yR h [1];rintro b ⟨_,_,_⟩ w _ h;simp only[go_sem,seval,Zb]at w;obtain ⟨⟨_,_,_,_,_⟩,_,hn⟩:=w;subst hn;have:=ZB (append_0.length);cases h;exact yD
theorem ZlT {rules_0:List Zg}{r:Bool}(h:ZbT rules_0=some r):Zm prog J0 255 [(false,[.sl 76 4 (A0 ZL rules_0)])] [(false,[(false,.bool r)])]:=by
 refine fnk func255 rfl ?_;unfold ZbT at h;simp only[fnS,f255,Zo,go_sem,seval];refine ZPO h fun v1 y h=>Zd (Zoo y)<|yA ?_
 refine yB h (fun _ h=>?_) fun _ h=>?_
 refine Zh h (fun i _ st=>IV [(0,yM (yW rules_0)),(13,yM (yW rules_0)),(14,yL rules_0.length),(15,yL i)] [] st) [] [] yF yD ?_ ?_
 rintro l a ⟨⟩ ⟨_,_,_⟩ _ d m z h e;simp only[go_sem,seval,Zb]at m;obtain ⟨⟨A,_,_,_⟩,hn⟩:=m;subst hn;have B:=WF.slotL z A (j:=0) rfl;have:=ZC d;have:=ZE d;have:=Zk (ZD d) B;simp only[*,go_sem,seval];refine ZPO h fun _ C h=>Zd (Zl7 C)<|yA ?_
 refine yB h (fun _ h=>?_) fun _ h=>?_
 refine Zh h (fun i _ st=>IV [(0,yM (yW rules_0)),(4,.bp 0 0),(13,yM (yW rules_0)),(14,yL rules_0.length),(15,yL l),(23,yM (yY a.cond)),(24,yL a.cond.length),(25,yL i)] [zD 76 (ZL a)] st) [] [48] yF yD ?_ ?_
 rintro D b ⟨⟩ ⟨_,_,_⟩ _ f o E h q;simp only[go_sem,seval,Zb]at o;obtain ⟨⟨_,_,_,_,_,F,_,_⟩,_,hn⟩:=o;subst hn;have G:=WF.slotL E F (j:=0) rfl;have:=ZC f;have:=ZE f;have:=Zk (ZD f) G;simp only[*,go_sem,seval];refine yB h (fun _ h=>?_) fun _ h=>?_
 exact yR h [0];obtain ⟨H,I,h⟩:=Za h;refine ZDu (ZoC I)<|yA ?_;refine ZPO h fun g J h=>Zd (Zit J)<|yA ?_
 refine Zh h (fun i _ st=>IV [(0,yM (yW rules_0)),(4,.bp 0 0),(6,.bp 1 0),(7,.p false [.row 2]),(13,yM (yW rules_0)),(14,yL rules_0.length),(15,yL l),(23,yM (yY a.cond)),(24,yL a.cond.length),(25,yL D),(38,.p false [.row 3]),(39,yL g.length),(40,yL i)] [zD 76 (ZL a),zD 80 (ZJ b),.map .str .bool (A0 eSB H),.row 9 1 (A0 ZA g) 2] st) [] [0,49,193,241] yF yD ?_ ?_
 rintro _ _ ⟨⟩ ⟨_,_,_⟩ _ k t K h u;simp only[go_sem,seval,Zb]at t;obtain ⟨⟨_,_,_,_,_,_,_,_,_,_,_,_,_⟩,_,_,_,L,hn⟩:=t;subst hn;have M:=WF.rowL K L;have:=ZC k;have:=ZE k;have:=Zk (ZD k) M;simp only[*,go_sem,seval];refine yB h (fun _ h=>?_) fun _ h=>?_
 replace h:=Zr h u;replace h:=Zr h q;replace h:=Zr h e;cases h;exact yD;refine yB h (fun _ h=>?_) fun _ h=>?_
 replace h:=Zr h u;replace h:=Zr h q;replace h:=Zr h e;cases h;exact yD;exact yR h [0,1,2,3];rintro ⟨⟩ ⟨_,_,_⟩ v _ h;simp only[go_sem,seval,Zb]at v;obtain ⟨⟨_,_,_,_,_,_,_,_,_,_,_,_,_⟩,_,_,_,_,hn⟩:=v;subst hn;have:=ZB (g.length);simp only[*,go_sem,seval];exact yR h [0];rintro ⟨⟩ ⟨_,_,_⟩ w _ h;simp only[go_sem,seval,Zb]at w;obtain ⟨⟨_,_,_,_,_,_,_,_⟩,_,hn⟩:=w;subst hn;have:=ZB (a.cond.length);simp only[*,go_sem,seval];exact yR h [];replace h:=Zr h e;cases h;exact yD;rintro ⟨⟩ ⟨_,_,_⟩ x _ h;simp only[go_sem,seval,Zb]at x;obtain ⟨⟨_,_,_,_⟩,hn⟩:=x;subst hn;have:=ZB (rules_0.length);iterate 2 (cases h;exact yD)
theorem Znz {x_0:Zl}{b_1:List Zi}{facts_2:List Zc}{r:Bool}(h:ZcP x_0 b_1 facts_2=some r):Zm prog J0 243 [(true,ZJ x_0),(false,[.sl 162 2 (A0 ZR b_1)]),(false,[.sl 53 2 (A0 Zs facts_2)])] [(false,[(false,.bool r)])]:=by
 refine fnk func243 rfl ?_;unfold ZcP at h;simp only[fnS,f243,Zo,go_sem,seval];refine ZPO h fun v1 a h=>Zd (ZgO a)<|yA ?_
 refine yB h (fun _ h=>?_) fun _ h=>?_
 refine ZPO h fun _ b h=>Zd (Zan b)<|yA ?_
 iterate 2 refine yB h (fun _ h=>?_) fun _ h=>?_
 refine ZPO h fun _ c h=>Zd (Zd2 c) ?_
 cases h;exact yD;refine yB h (fun _ h=>?_) fun _ h=>?_
 refine ZPO h fun _ d h=>Zd (Zd2 d) ?_
 cases h;exact yD;refine ZPO h fun _ e h=>Zd (Zmo e) ?_
 iterate 3 (cases h;exact yD)
theorem Znx {r_0:Zg}{r:Bool}(h:Zc1 r_0=some r):Zm prog J0 271 [(true,ZL r_0)] [(false,[(false,.bool r)])]:=by
 refine fnk func271 rfl ?_;unfold Zc1 at h;simp only[fnS,f271,Zo,go_sem,seval];refine ZPO h fun v1 k h=>Zd (ZeX k)<|yA ?_
 refine yB h (fun _ h=>?_) fun _ h=>?_
 refine Zh h (fun i _ st=>IV [(1,.bp 0 0),(3,yL i)] [zD 76 (ZL r_0)] st) [] [0] yF yD ?_ ?_
 rintro _ _ ⟨⟩ ⟨_,_,_⟩ _ a d l h m;simp only[go_sem,seval,Zb]at d;obtain ⟨⟨_,_⟩,o,hn⟩:=d;subst hn;have q:=WF.boxL l o (j:=2) rfl;have:=ZC a;have:=ZE a;have:=Zk (ZD a) q;simp only[*,go_sem,seval];refine yB h (fun _ h=>?_) fun _ h=>?_
 refine ZPO h fun _ t h=>Zd (ZaP t)<|yA ?_
 refine ZPO h fun _ u h=>Zd (ZbG u)<|yA ?_
 refine ZPO h fun _ v h=>Zd (Zop v)<|yA ?_
 refine yB h (fun _ h=>?_) fun _ h=>?_
 exact yR h [0];replace h:=Zr h m;cases h;exact yD;exact yR h [0];rintro ⟨⟩ ⟨_,_,_⟩ e _ h;simp only[go_sem,seval,Zb]at e;obtain ⟨⟨_,_⟩,_,hn⟩:=e;subst hn;have:=ZB (r_0.cond.length);simp only[*,go_sem,seval];refine Zh h (fun i _ st=>IV [(1,.bp 0 0),(4,yL i)] [zD 76 (ZL r_0)] st) [] [0] yF yD ?_ ?_
 rintro _ _ ⟨⟩ ⟨_,_,_⟩ _ b f w h x;simp only[go_sem,seval,Zb]at f;obtain ⟨⟨_,_⟩,y,hn⟩:=f;subst hn;have z:=WF.boxL w y (j:=3) rfl;have:=ZC b;have:=ZE b;have:=Zk (ZD b) z;simp only[*,go_sem,seval];refine yB h (fun _ h=>?_) fun _ h=>?_
 replace h:=Zr h x;cases h;exact yD;exact yR h [0];rintro ⟨⟩ ⟨_,_,_⟩ g _ h;simp only[go_sem,seval,Zb]at g;obtain ⟨⟨_,_⟩,_,hn⟩:=g;subst hn;have:=ZB (r_0.thn.length);iterate 2 (cases h;exact yD)
theorem Zn8 {l_0:List Zg}{r:Bool}(h:Zd4 l_0=some r):Zm prog J0 274 [(false,[.sl 76 4 (A0 ZL l_0)])] [(false,[(false,.bool r)])]:=by
 refine fnk func274 rfl ?_;unfold Zd4 at h;simp only[fnS,f274,Zo,go_sem,seval];refine Zh h (fun i _ st=>IV [(0,yM (yW l_0)),(3,yL i)] [] st) [] [] yF yD ?_ ?_
 rintro _ _ ⟨⟩ ⟨_,_,_⟩ _ a b f h d;simp only[go_sem,seval,Zb]at b;obtain ⟨⟨g,_⟩,hn⟩:=b;subst hn;have k:=WF.slotL f g (j:=0) rfl;have:=ZC a;have:=ZE a;have:=Zk (ZD a) k;simp only[*,go_sem,seval];refine ZPO h fun _ l h=>Zd (ZeX l)<|yA ?_
 refine yB h (fun _ h=>?_) fun _ h=>?_
 refine ZPO h fun _ m h=>Zd (Zob m)<|yA ?_
 refine yB h (fun _ h=>?_) fun _ h=>?_
 replace h:=Zr h d;cases h;exact yD;exact yR h [];replace h:=Zr h d;cases h;exact yD;rintro ⟨⟩ ⟨_,_,_⟩ e _ h;simp only[go_sem,seval,Zb]at e;obtain ⟨⟨_,_⟩,hn⟩:=e;subst hn;have:=ZB (l_0.length);cases h;exact yD
end
section
theorem Zjc {a:List Zg}{String_1:List Zc}{r:((List Zc)×Bool)}(h:YB a String_1=some r):Zm prog J0 215 [(false,[.sl 76 4 (A0 ZL a)]),(false,[.sl 53 2 (A0 Zs String_1)])] [(false,[(false,.sl 53 2 (A0 Zs r.1))]),(false,[(false,.bool r.2)])]:=by
 refine fnn 4 func215 rfl ?_;unfold YB at h;simp only[fnN,f215,Zo,go_sem,seval];refine ZPO h fun v1 H h=>Zd (ZlT H)<|yA ?_
 refine yB h (fun _ h=>?_) fun _ h=>?_
 refine ZPO h fun _ I h=>Zd (Zom I)<|yA ?_
 refine yB h (fun _ h=>?_) fun _ h=>?_
 refine ZPO h fun _ J h=>Zd (ZdW J)<|yA ?_
 refine Xj h (fun s st=>match s with|(v,w)=>IV [(0,yM (yW a)),(6,.p false [.n (yT v)]),(7,yM (.bool w))] [] st) [(false,6,4096)] [] yF yD ?_
 rintro ⟨v,w⟩ ⟨_,_,_⟩ _ x _ h y;simp only[go_sem,seval,Zb]at x;obtain ⟨⟨_,_,_⟩,hn⟩:=x;subst hn;simp only[*,go_sem,seval];refine yB h (fun _ h=>?_) fun _ h=>?_
 refine Zh h (fun i s st=>match s with|(f,g)=>IV [(0,yM (yW a)),(6,.p false [.n (yT f)]),(7,yM (.bool g)),(27,yM (yW a)),(28,yL a.length),(29,yL i)] [] st) [] [] yF yD ?_ ?_
 rintro z d ⟨f,g⟩ ⟨_,_,_⟩ _ k A K h L;simp only[go_sem,seval,Zb]at A;obtain ⟨⟨M,_,_,_,_,_⟩,hn⟩:=A;subst hn;have N:=WF.slotL K M (j:=0) rfl;have:=ZC k;have:=ZE k;have:=Zk (ZD k) N;simp only[*,go_sem,seval];obtain ⟨_,O,h⟩:=Za h;refine ZnA (ZfN O)<|yA ?_;obtain ⟨e,P,h⟩:=Za h;refine ZnA (Ziw P)<|yA ?_;refine Zh h (fun i s st=>match s with|(l,m)=>IV [(0,yM (yW a)),(6,.p false [.n (yT l)]),(7,yM (.bool m)),(9,.bp 0 0),(27,yM (yW a)),(28,yL a.length),(29,yL z),(36,yM (zB e)),(37,yL e.length),(38,yL i)] [zD 76 (ZL d)] st) [] [48] yF yD ?_ ?_
 rintro Q B ⟨l,m⟩ ⟨_,_,_⟩ _ o C R h S;simp only[go_sem,seval,Zb]at C;obtain ⟨⟨_,_,_,_,_,_,_,T,_,_⟩,_,hn⟩:=C;subst hn;have U:=WF.slotL R T (j:=0) rfl;have:=ZC o;have:=ZE o;have:=Zk (ZD o) U;simp only[*,go_sem,seval];refine Zh h (fun i s st=>match s with|(q,t)=>IV [(0,yM (yW a)),(6,.p false [.n (yT q)]),(7,yM (.bool t)),(9,.bp 0 0),(11,.bp 1 0),(27,yM (yW a)),(28,yL a.length),(29,yL z),(36,yM (zB e)),(37,yL e.length),(38,yL Q),(43,yM (yZ d.thn)),(44,yL d.thn.length),(45,yL i)] [zD 76 (ZL d),zD 111 (YU B)] st) [] [0,49] yF yD ?_ ?_
 rintro _ _ ⟨q,t⟩ ⟨_,_,_⟩ _ u D V h W;simp only[go_sem,seval,Zb]at D;obtain ⟨⟨_,_,_,_,_,_,_,_,_,_,_,X,_,_⟩,_,_,hn⟩:=D;subst hn;have Y:=WF.slotL V X (j:=0) rfl;have:=ZC u;have:=ZE u;have:=Zk (ZD u) Y;simp only[*,go_sem,seval];refine ZPO h fun _ Z h=>Zd (Zfi Z)<|yA ?_
 refine ZPO h fun _ aa h=>Zd (ZcD aa)<|yA ?_
 refine yB h (fun _ h=>?_) fun _ h=>?_
 exact yR h [0,1];refine yB h (fun _ h=>?_) fun _ h=>?_
 replace h:=Zr h W;replace h:=Zr h S;replace h:=Zr h L;replace h:=Zr h y;cases h;exact yD;refine ZPO h fun _ ab h=>Zd (ZqA ab)<|yA ?_
 exact yC h [(false,6,4096)] [0,1];rintro ⟨q,t⟩ ⟨_,_,_⟩ E _ h;simp only[go_sem,seval,Zb]at E;obtain ⟨⟨_,_,_,_,_,_,_,_,_,_,_,_,_,_⟩,_,_,hn⟩:=E;subst hn;have:=ZB (d.thn.length);simp only[*,go_sem,seval];exact yR h [0];rintro ⟨l,m⟩ ⟨_,_,_⟩ F _ h;simp only[go_sem,seval,Zb]at F;obtain ⟨⟨_,_,_,_,_,_,_,_,_,_⟩,_,hn⟩:=F;subst hn;have:=ZB (e.length);simp only[*,go_sem,seval];exact yR h [];rintro ⟨f,g⟩ ⟨_,_,_⟩ G _ h;simp only[go_sem,seval,Zb]at G;obtain ⟨⟨_,_,_,_,_,_⟩,hn⟩:=G;subst hn;have:=ZB (a.length);simp only[*,go_sem,seval];exact yR h [];replace h:=Zr h y;iterate 3 (cases h;exact yD)
theorem ZH0 {a:Zg}{d:List Zc}{e:List Zi}{r:Int}(h:ZHb a d e=some r):Zm prog J0 87 [(true,ZL a),(false,[.sl 53 2 (A0 Zs d)]),(false,[.sl 162 2 (A0 ZR e)])] [(false,[(false,.int .i64 r)])]:=by
 refine fnk func87 rfl ?_;unfold ZHb at h;simp only[fnS,f87,Zo,go_sem,seval];refine Xj h (fun s st=>match s with|(f,g)=>IV [(1,yM (yT d)),(2,yM (yX e)),(3,.bp 0 0),(7,yM (.int .i64 f)),(8,yM (.int .i64 g))] [zD 76 (ZL a)] st) [] [0] yF yD ?_
 rintro ⟨f,g⟩ ⟨_,_,_⟩ _ m _ h t;simp only[go_sem,seval,Zb]at m;obtain ⟨⟨_,_,_,_,_⟩,_,hn⟩:=m;subst hn;simp only[*,go_sem,seval];refine yB h (fun _ h=>?_) fun _ h=>?_
 obtain ⟨_,h⟩:=Zv h;simp only[*,go_sem,seval];obtain ⟨k,u,h⟩:=Za h;refine ZnA (by have hh:=Ziw u;simp only[*,go_sem]at hh;exact hh)<|yA ?_
 refine Zh h (fun i _ st=>IV [(1,yM (yT d)),(2,yM (yX e)),(3,.bp 0 0),(7,yM (.int .i64 f)),(8,yM (.int .i64 g)),(23,yM (zB k)),(24,yL k.length),(25,yL i)] [zD 76 (ZL a)] st) [] [0] yF yD ?_ ?_
 rintro _ _ ⟨⟩ ⟨_,_,_⟩ _ l o v h w;simp only[go_sem,seval,Zb]at o;obtain ⟨⟨_,_,_,_,_,x,_,_⟩,_,hn⟩:=o;subst hn;have y:=WF.slotL v x (j:=0) rfl;have:=ZC l;have:=ZE l;have:=Zk (ZD l) y;simp only[*,go_sem,seval];refine ZPO h fun _ z h=>Zd (ZIo z)<|yA ?_
 refine yB h (fun _ h=>?_) fun _ h=>?_
 replace h:=Zr h w;exact yR h [0];exact yR h [0];rintro ⟨⟩ ⟨_,_,_⟩ q _ h;simp only[go_sem,seval,Zb]at q;obtain ⟨⟨_,_,_,_,_,_,_,_⟩,_,hn⟩:=q;subst hn;have:=ZB (k.length);simp only[*,go_sem,seval];exact yR h [0];replace h:=Zr h t;cases h;exact yD
theorem Zsv {append_0:List Zq}{a:Zl}{a_2:List Zc}{r:List Zq}(h:Zhz append_0 a a_2=some r):Zm prog J0 187 [(false,[.sl 111 2 (A0 YU append_0)]),(true,ZJ a),(false,[.sl 53 2 (A0 Zs a_2)])] [(false,[(false,.sl 111 2 (A0 YU r))])]:=by
 refine fnk func187 rfl ?_;unfold Zhz at h;simp only[fnS,f187,Zo,go_sem,seval];refine Zh h (fun i b st=>IV [(0,yM (zB append_0)),(2,yM (yT a_2)),(4,.bp 0 0),(7,.p false [.row 1]),(8,yL i)] [zD 80 (ZJ a),.row 111 2 (A0 YU b) 2] st) [] [0,32] yF yD ?_ ?_
 rintro o _ b ⟨_,_,_⟩ _ d g q h _;simp only[go_sem,seval,Zb]at g;obtain ⟨⟨t,_,_,_,_⟩,_,_,hn⟩:=g;subst hn;have u:=WF.slotL q t (j:=0) rfl;have:=ZC d;have:=ZE d;have:=Zk (ZD d) u;simp only[*,go_sem,seval];refine yB h (fun _ h=>?_) fun _ h=>?_
 refine ZPO h fun _ v h=>Zd (Znz v)<|yA ?_
 refine yB h (fun _ h=>?_) fun _ h=>?_
 refine ZPO h fun _ w h=>Zd (ZrY w) ?_
 obtain ⟨x,h⟩:=Zv h;try simp only[Nat.reduceLeDiff]at x
 simp only[*,go_sem,seval];exact yR h [0,354];exact yR h [0,1];refine Zh h (fun i e st=>IV [(0,yM (zB append_0)),(2,yM (yT a_2)),(4,.bp 0 0),(7,.p false [.row 1]),(8,yL o),(9,yL i)] [zD 80 (ZJ a),.row 111 2 (A0 YU e) 2] st) [] [0,1] yF yD ?_ ?_
 rintro _ _ e ⟨_,_,_⟩ _ f k y h _;simp only[go_sem,seval,Zb]at k;obtain ⟨⟨_,z,_,_,_,_⟩,_,_,hn⟩:=k;subst hn;have A:=WF.slotL y z (j:=0) rfl;have:=ZC f;have:=ZE f;have:=Zk (ZD f) A;simp only[*,go_sem,seval];refine ZPO h fun _ B h=>Zd (Zg5 B)<|yA ?_
 refine yB h (fun _ h=>?_) fun _ h=>?_
 refine ZPO h fun _ C h=>Zd (Zfo C)<|yA ?_
 refine ZPO h fun _ D h=>Zd (Xr D) ?_
 obtain ⟨E,h⟩:=Zv h;try simp only[Nat.reduceLeDiff]at E
 obtain ⟨F,h⟩:=Zv h;try simp only[Nat.reduceLeDiff]at F
 simp only[*,go_sem,seval];exact yR h [0,626];exact yR h [0,1];rintro e ⟨_,_,_⟩ l _ h;simp only[go_sem,seval,Zb]at l;obtain ⟨⟨_,_,_,_,_,_⟩,_,_,hn⟩:=l;subst hn;have:=ZB (a_2.length);simp only[*,go_sem,seval];exact yR h [0,1];rintro b ⟨_,_,_⟩ m _ h;simp only[go_sem,seval,Zb]at m;obtain ⟨⟨_,_,_,_,_⟩,_,_,hn⟩:=m;subst hn;have:=ZB (append_0.length);cases h;exact yD
theorem ZlH {append_0:List Zg}{r:Bool}(h:Zb0 append_0=some r):Zm prog J0 227 [(false,[.sl 76 4 (A0 ZL append_0)])] [(false,[(false,.bool r)])]:=by
 refine fnk func227 rfl ?_;unfold Zb0 at h;simp only[fnS,f227,Zo,go_sem,seval];refine Zh h (fun i _ st=>IV [(0,yM (yW append_0)),(3,yL i)] [] st) [] [] yF yD ?_ ?_
 rintro l x ⟨⟩ ⟨_,_,_⟩ _ b m y h d;simp only[go_sem,seval,Zb]at m;obtain ⟨⟨z,_⟩,hn⟩:=m;subst hn;have A:=WF.slotL y z (j:=0) rfl;have:=ZC b;have:=ZE b;have:=Zk (ZD b) A;simp only[*,go_sem,seval];refine ZPO h fun _ B h=>Zd (Znx B)<|yA ?_
 refine yB h (fun _ h=>?_) fun _ h=>?_
 refine ZPO h fun e C h=>Zd (Zij C)<|yA ?_
 refine Zh h (fun i _ st=>IV [(0,yM (yW append_0)),(3,yL l),(4,.p false [.row 0]),(5,yL i)] [.row 9 1 (A0 ZA e) 2] st) [] [224] yF yD ?_ ?_
 rintro D a ⟨⟩ ⟨_,_,_⟩ _ f o E h q;simp only[go_sem,seval,Zb]at o;obtain ⟨⟨F,_,_,_⟩,_,hn⟩:=o;subst hn;have G:=WF.elL (WF.slotD E F (j:=0) rfl) b (j:=2) rfl;have:=ZC f;have:=ZE f;have:=Zk (ZD f) G;simp only[*,go_sem,seval];refine Zh h (fun i _ st=>IV [(0,yM (yW append_0)),(3,yL l),(4,.p false [.row 0]),(5,yL D),(6,.bp 1 0),(7,yL i)] [.row 9 1 (A0 ZA e) 2,zD 80 (ZJ a)] st) [] [0,257] yF yD ?_ ?_
 rintro _ _ ⟨⟩ ⟨_,_,_⟩ _ g t H h k;simp only[go_sem,seval,Zb]at t;obtain ⟨⟨_,_,_,_,_,_⟩,I,_,hn⟩:=t;subst hn;have J:=WF.rowL H I;have:=ZC g;have:=ZE g;have:=Zk (ZD g) J;simp only[*,go_sem,seval];iterate 2 refine yB h (fun _ h=>?_) fun _ h=>?_
 replace h:=Zr h k;replace h:=Zr h q;replace h:=Zr h d;cases h;exact yD;refine ZPO h fun _ K h=>Zd (ZlL K)<|yA ?_
 refine yB h (fun _ h=>?_) fun _ h=>?_
 replace h:=Zr h k;replace h:=Zr h q;replace h:=Zr h d;cases h;exact yD;exact yR h [0,1];replace h:=Zr h k;exact yR h [0];rintro ⟨⟩ ⟨_,_,_⟩ u _ h;simp only[go_sem,seval,Zb]at u;obtain ⟨⟨_,_,_,_,_,_⟩,_,_,hn⟩:=u;subst hn;have:=ZB (e.length);simp only[*,go_sem,seval];exact yR h [0];rintro ⟨⟩ ⟨_,_,_⟩ v _ h;simp only[go_sem,seval,Zb]at v;obtain ⟨⟨_,_,_,_⟩,_,hn⟩:=v;subst hn;have:=ZB (x.cond.length);simp only[*,go_sem,seval];exact yR h [];replace h:=Zr h d;cases h;exact yD;rintro ⟨⟩ ⟨_,_,_⟩ w _ h;simp only[go_sem,seval,Zb]at w;obtain ⟨⟨_,_⟩,hn⟩:=w;subst hn;have:=ZB (append_0.length);simp only[*,go_sem,seval];refine ZPO h fun _ L h=>Zd (Zn8 L) ?_
 cases h;exact yD
end
section
theorem Zfj {l_0:List Zl}{facts_1:List Zc}{r:List Zq}(h:Zaa l_0 facts_1=some r):Zm prog J0 123 [(false,[.sl 80 5 (A0 ZJ l_0)]),(false,[.sl 53 2 (A0 Zs facts_1)])] [(false,[(false,.sl 111 2 (A0 YU r))])]:=by
 refine fnk func123 rfl ?_;unfold Zaa at h;simp only[fnS,f123,Zo,go_sem,seval];refine Zh h (fun i a st=>IV [(0,yM (yY l_0)),(1,yM (yT facts_1)),(5,.p false [.row 0]),(6,yL i)] [.row 111 2 (A0 YU a) 2] st) [] [32] yF yD ?_ ?_
 rintro _ _ a ⟨_,_,_⟩ _ b d f h _;simp only[go_sem,seval,Zb]at d;obtain ⟨⟨g,_,_,_⟩,_,hn⟩:=d;subst hn;have k:=WF.slotL f g (j:=0) rfl;have:=ZC b;have:=ZE b;have:=Zk (ZD b) k;simp only[*,go_sem,seval];refine ZPO h fun _ l h=>Zd (Zsv l)<|yA ?_
 exact yR h [161];rintro a ⟨_,_,_⟩ e _ h;simp only[go_sem,seval,Zb]at e;obtain ⟨⟨_,_,_,_⟩,_,hn⟩:=e;subst hn;have:=ZB (l_0.length);cases h;exact yD
end
section
theorem ZLo {d:List Zg}{f:List Zc}{r:((List Zc)×Zt×(List Za4)×Bool)}(h:ZJz d f=some r):Zm prog J0 157 [(false,[.sl 76 4 (A0 ZL d)]),(false,[.sl 53 2 (A0 Zs f)])] [(false,[(true,.sl 53 2 (A0 Zs r.1))]),(true,[(false,.int .i64 r.2.1.nodes),(false,.sl 179 3 (A0 ZG r.2.1.reasons))]),(false,[(true,.sl 187 2 (A0 Zh4 r.2.2.1))]),(false,[(false,.bool r.2.2.2)])]:=by
 refine fnk func157 rfl ?_;unfold ZJz at h;simp only[fnS,f157,Zo,go_sem,seval];refine ZPO h fun v1 O h=>Zd (Zjc O)<|yA ?_
 refine yB h (fun _ h=>?_) fun _ h=>?_
 refine Zh h (fun i s st=>match s with|(o,q)=>IV [(0,yM (yW d)),(5,.bp 0 0),(8,.p false [.row 1]),(10,.bp 2 0),(11,.p false [.row 4]),(40,yM (yT f)),(41,yL f.length),(42,yL i)] [.box 140 [.c (.int .i64 0),.nil 179 3],.row 53 2 (A0 Zs v1.1) 2,.box 140 [.c (.int .i64 (v1.1.length:Int)),.row 3],.row 179 3 (A0 ZG o) 2,.row 187 2 (A0 Zh4 q) 2] st) [(false,11,0),(true,272,1)] [16,96,272,369,368] yF yD ?_ ?_
 rintro _ _ ⟨o,q⟩ ⟨_,_,_⟩ _ t D P h _;simp only[go_sem,seval,Zb]at D;obtain ⟨⟨_,_,_,_,_,Q,_,_⟩,_,_,_,_,_,hn⟩:=D;subst hn;have R:=WF.slotL P Q (j:=0) rfl;have:=ZC t;have:=ZE t;have:=Zk (ZD t) R;simp only[*,go_sem,seval];refine ZPO h fun _ S h=>Zd (ZcD S) ?_
 obtain ⟨T,h⟩:=Zv h;try simp only[Nat.reduceLeDiff]at T
 obtain ⟨U,h⟩:=Zv h;try simp only[Nat.reduceLeDiff]at U
 simp only[*,go_sem,seval];exact yR h [0,1,2,197,293];rintro ⟨o,q⟩ ⟨_,_,_⟩ E _ h;simp only[go_sem,seval,Zb]at E;obtain ⟨⟨_,_,_,_,_,_,_,_⟩,_,_,_,_,_,hn⟩:=E;subst hn;have:=ZB (f.length);simp only[*,go_sem,seval];refine Zh h (fun i s st=>match s with|(u,v)=>IV [(5,.bp 0 0),(8,.p false [.row 1]),(10,.bp 2 0),(11,.p false [.row 4]),(60,yM (yW d)),(61,yL d.length),(62,yL i)] [.box 140 [.c (.int .i64 0),.nil 179 3],.row 53 2 (A0 Zs v1.1) 0,.box 140 [.c (.int .i64 (v1.1.length:Int)),.row 3],.row 179 3 (A0 ZG u) 2,.row 187 2 (A0 Zh4 v) 1] st) [(true,1,0),(true,4,1)] [0,1,2,3,4] yF yD ?_ ?_
 rintro w b ⟨u,v⟩ ⟨_,_,_⟩ _ x F V h _;simp only[go_sem,seval,Zb]at F;obtain ⟨⟨_,_,_,_,W,_,_⟩,_,_,_,_,_,hn⟩:=F;subst hn;have X:=WF.slotL V W (j:=0) rfl;have:=ZC x;have:=ZE x;have:=Zk (ZD x) X;simp only[*,go_sem,seval];obtain ⟨_,Y,h⟩:=Za h;refine ZnA (ZfN Y)<|yA ?_;obtain ⟨e,Z,h⟩:=Za h;refine ZnA (Ziw Z)<|yA ?_;refine Zh h (fun i s st=>match s with|(g,k)=>IV [(5,.bp 0 0),(8,.p false [.row 1]),(10,.bp 2 0),(11,.p false [.row 4]),(15,.bp 5 0),(60,yM (yW d)),(61,yL d.length),(62,yL w),(69,yM (zB e)),(70,yL e.length),(71,yL i)] [.box 140 [.c (.int .i64 0),.nil 179 3],.row 53 2 (A0 Zs v1.1) 0,.box 140 [.c (.int .i64 (v1.1.length:Int)),.row 3],.row 179 3 (A0 ZG g) 2,.row 187 2 (A0 Zh4 k) 1,zD 76 (ZL b)] st) [] [0,1,2,3,4,53] yF yD ?_ ?_
 rintro G l ⟨g,k⟩ ⟨_,_,_⟩ _ y H aa h _;simp only[go_sem,seval,Zb]at H;obtain ⟨⟨_,_,_,_,_,_,_,_,ab,_,_⟩,_,_,_,_,_,_,hn⟩:=H;subst hn;have ac:=WF.slotL aa ab (j:=0) rfl;have:=ZC y;have:=ZE y;have:=Zk (ZD y) ac;simp only[*,go_sem,seval];refine Zh h (fun i m st=>IV [(5,.bp 0 0),(8,.p false [.row 1]),(10,.bp 2 0),(11,.p false [.row 4]),(15,.bp 5 0),(17,.bp 6 0),(18,.p false [.row 7]),(60,yM (yW d)),(61,yL d.length),(62,yL w),(69,yM (zB e)),(70,yL e.length),(71,yL G),(76,yM (yY b.cond)),(77,yL b.cond.length),(78,yL i)] [.box 140 [.c (.int .i64 0),.nil 179 3],.row 53 2 (A0 Zs v1.1) 0,.box 140 [.c (.int .i64 (v1.1.length:Int)),.row 3],.row 179 3 (A0 ZG g) 2,.row 187 2 (A0 Zh4 k) 1,zD 76 (ZL b),zD 111 (YU l),.row 53 2 (A0 Zs m) 2] st) [(false,18,0)] [0,1,2,3,4,5,54,166] yF yD ?_ ?_
 rintro _ _ m ⟨_,_,_⟩ _ z I ad h _;simp only[go_sem,seval,Zb]at I;obtain ⟨⟨_,_,_,_,_,_,_,_,_,_,_,_,_,ae,_,_⟩,_,_,_,_,_,_,_,_,hn⟩:=I;subst hn;have af:=WF.slotL ad ae (j:=0) rfl;have:=ZC z;have:=ZE z;have:=Zk (ZD z) af;simp only[*,go_sem,seval];refine yB h (fun _ h=>?_) fun _ h=>?_
 refine ZPO h fun _ ag h=>Zd (Zfi ag) ?_
 obtain ⟨ah,h⟩:=Zv h;try simp only[Nat.reduceLeDiff]at ah
 simp only[*,go_sem,seval];exact yR h [0,1,2,3,4,5,6,360];exact yR h [0,1,2,3,4,5,6,7];rintro m ⟨_,_,_⟩ J _ h;simp only[go_sem,seval,Zb]at J;obtain ⟨⟨_,_,_,_,_,_,_,_,_,_,_,_,_,_,_,_⟩,_,_,_,_,_,_,_,_,hn⟩:=J;subst hn;have:=ZB (b.cond.length);simp only[*,go_sem,seval];refine Zh h (fun i s st=>match s with|(A,B)=>IV [(5,.bp 0 0),(8,.p false [.row 1]),(10,.bp 2 0),(11,.p false [.row 4]),(15,.bp 5 0),(17,.bp 6 0),(18,.p false [.row 7]),(60,yM (yW d)),(61,yL d.length),(62,yL w),(69,yM (zB e)),(70,yL e.length),(71,yL G),(99,yM (yZ b.thn)),(100,yL b.thn.length),(101,yL i)] [.box 140 [.c (.int .i64 0),.nil 179 3],.row 53 2 (A0 Zs v1.1) 0,.box 140 [.c (.int .i64 (v1.1.length:Int)),.row 3],.row 179 3 (A0 ZG A) 2,.row 187 2 (A0 Zh4 B) 1,zD 76 (ZL b),zD 111 (YU l),.row 53 2 (A0 Zs m) 2] st) [] [0,1,2,3,4,5,6,7] yF yD ?_ ?_
 rintro _ _ ⟨A,B⟩ ⟨_,_,_⟩ _ C K ai h _;simp only[go_sem,seval,Zb]at K;obtain ⟨⟨_,_,_,_,_,_,_,_,_,_,_,_,_,aj,_,_⟩,_,_,_,_,_,_,_,_,hn⟩:=K;subst hn;have ak:=WF.slotL ai aj (j:=0) rfl;have:=ZC C;have:=ZE C;have:=Zk (ZD C) ak;simp only[*,go_sem,seval];refine ZPO h fun _ al h=>Zd (Zfi al)<|yA ?_
 refine ZPO h fun _ am h=>Zd (ZcD am)<|yA ?_
 refine ZPO h fun _ an h=>Zd (ZjT an)<|yA ?_
 refine ZPO h fun _ ao h=>Zd (ZjT ao)<|yA ?_
 refine ZPO h fun _ ap h=>Zd (Znn ap)<|yA ?_
 refine yB h (fun _ h=>?_) fun _ h=>?_
 exact yR h [0,1,2,3,4,5,6,7];obtain ⟨aq,h⟩:=Zv h;try simp only[Nat.reduceLeDiff]at aq
 obtain ⟨ar,h⟩:=Zv h;try simp only[Nat.reduceLeDiff]at ar
 simp only[*,go_sem,seval];exact yR h [0,1,2,616,776,5,6,7];rintro ⟨A,B⟩ ⟨_,_,_⟩ L _ h;simp only[go_sem,seval,Zb]at L;obtain ⟨⟨_,_,_,_,_,_,_,_,_,_,_,_,_,_,_,_⟩,_,_,_,_,_,_,_,_,hn⟩:=L;subst hn;have:=ZB (b.thn.length);simp only[*,go_sem,seval];exact yR h [0,1,2,3,4,5];rintro ⟨g,k⟩ ⟨_,_,_⟩ M _ h;simp only[go_sem,seval,Zb]at M;obtain ⟨⟨_,_,_,_,_,_,_,_,_,_,_⟩,_,_,_,_,_,_,hn⟩:=M;subst hn;have:=ZB (e.length);simp only[*,go_sem,seval];exact yR h [0,1,2,3,4];rintro ⟨u,v⟩ ⟨_,_,_⟩ N _ h;simp only[go_sem,seval,Zb]at N;obtain ⟨⟨_,_,_,_,_,_,_⟩,_,_,_,_,_,hn⟩:=N;subst hn;have:=ZB (d.length);simp only[*,go_sem,seval];refine yB h (fun _ h=>?_) fun _ h=>?_
 iterate 3 (cases h;exact yD)
theorem Zq2 {d:List Zg}{f:List Zc}{r:((List Zc)×Zt×(List Za4)×Bool)}(h:ZbJ d f=some r):Zm prog J0 157 [(false,[.sl 76 4 (A0 ZL d)]),(false,[.sl 53 2 (A0 Zs f)])] [(false,[(false,.sl 53 2 (A0 Zs r.1))]),(true,[(false,.int .i64 r.2.1.nodes),(false,.sl 179 3 (A0 ZG r.2.1.reasons))]),(false,[(false,.any)]),(false,[(false,.bool r.2.2.2)])]:=by
 refine fnn 4 func157 rfl ?_;unfold ZbJ at h;simp only[fnN,f157,Zo,go_sem,seval];refine ZPO h fun v1 O h=>Zd (Zjc O)<|yA ?_
 refine yB h (fun _ h=>?_) fun _ h=>?_
 refine Zh h (fun i s st=>match s with|(o,q)=>IV [(0,yM (yW d)),(5,.bp 0 0),(8,.p false [.n (yT v1.1)]),(10,.bp 1 0),(11,.p false [.row 3]),(40,yM (yT f)),(41,yL f.length),(42,yL i)] [.box 140 [.c (.int .i64 0),.nil 179 3],.box 140 [.c (.int .i64 (v1.1.length:Int)),.row 2],.row 179 3 (A0 ZG o) 2,.row 187 2 (A0 Zh4 q) 2] st) [(false,8,4096),(false,11,0),(true,272,1)] [16,272,369,368] yF yD ?_ ?_
 rintro _ _ ⟨o,q⟩ ⟨_,_,_⟩ _ t D P h _;simp only[go_sem,seval,Zb]at D;obtain ⟨⟨_,_,_,_,_,Q,_,_⟩,_,_,_,_,hn⟩:=D;subst hn;have R:=WF.slotL P Q (j:=0) rfl;have:=ZC t;have:=ZE t;have:=Zk (ZD t) R;simp only[*,go_sem,seval];refine ZPO h fun _ S h=>Zd (ZcD S) ?_
 obtain ⟨T,h⟩:=Zv h;try simp only[Nat.reduceLeDiff]at T
 obtain ⟨U,h⟩:=Zv h;try simp only[Nat.reduceLeDiff]at U
 simp only[*,go_sem,seval];exact yR h [0,1,196,292];rintro ⟨o,q⟩ ⟨_,_,_⟩ E _ h;simp only[go_sem,seval,Zb]at E;obtain ⟨⟨_,_,_,_,_,_,_,_⟩,_,_,_,_,hn⟩:=E;subst hn;have:=ZB (f.length);simp only[*,go_sem,seval];refine Zh h (fun i s st=>match s with|(u,v)=>IV [(5,.bp 0 0),(8,.p false [.n (yT v1.1)]),(10,.bp 1 0),(11,.p false [.row 3]),(60,yM (yW d)),(61,yL d.length),(62,yL i)] [.box 140 [.c (.int .i64 0),.nil 179 3],.box 140 [.c (.int .i64 (v1.1.length:Int)),.row 2],.row 179 3 (A0 ZG u) 2,.row 187 2 (A0 Zh4 v) 1] st) [(true,3,1)] [0,1,2,3] yF yD ?_ ?_
 rintro w b ⟨u,v⟩ ⟨_,_,_⟩ _ x F V h _;simp only[go_sem,seval,Zb]at F;obtain ⟨⟨_,_,_,_,W,_,_⟩,_,_,_,_,hn⟩:=F;subst hn;have X:=WF.slotL V W (j:=0) rfl;have:=ZC x;have:=ZE x;have:=Zk (ZD x) X;simp only[*,go_sem,seval];obtain ⟨_,Y,h⟩:=Za h;refine ZnA (ZfN Y)<|yA ?_;obtain ⟨e,Z,h⟩:=Za h;refine ZnA (Ziw Z)<|yA ?_;refine Zh h (fun i s st=>match s with|(g,k)=>IV [(5,.bp 0 0),(8,.p false [.n (yT v1.1)]),(10,.bp 1 0),(11,.p false [.row 3]),(15,.bp 4 0),(60,yM (yW d)),(61,yL d.length),(62,yL w),(69,yM (zB e)),(70,yL e.length),(71,yL i)] [.box 140 [.c (.int .i64 0),.nil 179 3],.box 140 [.c (.int .i64 (v1.1.length:Int)),.row 2],.row 179 3 (A0 ZG g) 2,.row 187 2 (A0 Zh4 k) 1,zD 76 (ZL b)] st) [] [0,1,2,3,52] yF yD ?_ ?_
 rintro G l ⟨g,k⟩ ⟨_,_,_⟩ _ y H aa h _;simp only[go_sem,seval,Zb]at H;obtain ⟨⟨_,_,_,_,_,_,_,_,ab,_,_⟩,_,_,_,_,_,hn⟩:=H;subst hn;have ac:=WF.slotL aa ab (j:=0) rfl;have:=ZC y;have:=ZE y;have:=Zk (ZD y) ac;simp only[*,go_sem,seval];refine Zh h (fun i m st=>IV [(5,.bp 0 0),(8,.p false [.n (yT v1.1)]),(10,.bp 1 0),(11,.p false [.row 3]),(15,.bp 4 0),(17,.bp 5 0),(18,.p false [.row 6]),(60,yM (yW d)),(61,yL d.length),(62,yL w),(69,yM (zB e)),(70,yL e.length),(71,yL G),(76,yM (yY b.cond)),(77,yL b.cond.length),(78,yL i)] [.box 140 [.c (.int .i64 0),.nil 179 3],.box 140 [.c (.int .i64 (v1.1.length:Int)),.row 2],.row 179 3 (A0 ZG g) 2,.row 187 2 (A0 Zh4 k) 1,zD 76 (ZL b),zD 111 (YU l),.row 53 2 (A0 Zs m) 2] st) [(false,18,0)] [0,1,2,3,4,53,165] yF yD ?_ ?_
 rintro _ _ m ⟨_,_,_⟩ _ z I ad h _;simp only[go_sem,seval,Zb]at I;obtain ⟨⟨_,_,_,_,_,_,_,_,_,_,_,_,_,ae,_,_⟩,_,_,_,_,_,_,_,hn⟩:=I;subst hn;have af:=WF.slotL ad ae (j:=0) rfl;have:=ZC z;have:=ZE z;have:=Zk (ZD z) af;simp only[*,go_sem,seval];refine yB h (fun _ h=>?_) fun _ h=>?_
 refine ZPO h fun _ ag h=>Zd (Zfi ag) ?_
 obtain ⟨ah,h⟩:=Zv h;try simp only[Nat.reduceLeDiff]at ah
 simp only[*,go_sem,seval];exact yR h [0,1,2,3,4,5,359];exact yR h [0,1,2,3,4,5,6];rintro m ⟨_,_,_⟩ J _ h;simp only[go_sem,seval,Zb]at J;obtain ⟨⟨_,_,_,_,_,_,_,_,_,_,_,_,_,_,_,_⟩,_,_,_,_,_,_,_,hn⟩:=J;subst hn;have:=ZB (b.cond.length);simp only[*,go_sem,seval];refine Zh h (fun i s st=>match s with|(A,B)=>IV [(5,.bp 0 0),(8,.p false [.n (yT v1.1)]),(10,.bp 1 0),(11,.p false [.row 3]),(15,.bp 4 0),(17,.bp 5 0),(18,.p false [.row 6]),(60,yM (yW d)),(61,yL d.length),(62,yL w),(69,yM (zB e)),(70,yL e.length),(71,yL G),(99,yM (yZ b.thn)),(100,yL b.thn.length),(101,yL i)] [.box 140 [.c (.int .i64 0),.nil 179 3],.box 140 [.c (.int .i64 (v1.1.length:Int)),.row 2],.row 179 3 (A0 ZG A) 2,.row 187 2 (A0 Zh4 B) 1,zD 76 (ZL b),zD 111 (YU l),.row 53 2 (A0 Zs m) 2] st) [] [0,1,2,3,4,5,6] yF yD ?_ ?_
 rintro _ _ ⟨A,B⟩ ⟨_,_,_⟩ _ C K ai h _;simp only[go_sem,seval,Zb]at K;obtain ⟨⟨_,_,_,_,_,_,_,_,_,_,_,_,_,aj,_,_⟩,_,_,_,_,_,_,_,hn⟩:=K;subst hn;have ak:=WF.slotL ai aj (j:=0) rfl;have:=ZC C;have:=ZE C;have:=Zk (ZD C) ak;simp only[*,go_sem,seval];refine ZPO h fun _ al h=>Zd (Zfi al)<|yA ?_
 refine ZPO h fun _ am h=>Zd (ZcD am)<|yA ?_
 refine ZPO h fun _ an h=>Zd (ZjT an)<|yA ?_
 refine ZPO h fun _ ao h=>Zd (ZjT ao)<|yA ?_
 refine ZPO h fun _ ap h=>Zd (Znn ap)<|yA ?_
 refine yB h (fun _ h=>?_) fun _ h=>?_
 exact yR h [0,1,2,3,4,5,6];obtain ⟨aq,h⟩:=Zv h;try simp only[Nat.reduceLeDiff]at aq
 obtain ⟨ar,h⟩:=Zv h;try simp only[Nat.reduceLeDiff]at ar
 simp only[*,go_sem,seval];exact yR h [0,1,615,775,4,5,6];rintro ⟨A,B⟩ ⟨_,_,_⟩ L _ h;simp only[go_sem,seval,Zb]at L;obtain ⟨⟨_,_,_,_,_,_,_,_,_,_,_,_,_,_,_,_⟩,_,_,_,_,_,_,_,hn⟩:=L;subst hn;have:=ZB (b.thn.length);simp only[*,go_sem,seval];exact yR h [0,1,2,3,4];rintro ⟨g,k⟩ ⟨_,_,_⟩ M _ h;simp only[go_sem,seval,Zb]at M;obtain ⟨⟨_,_,_,_,_,_,_,_,_,_,_⟩,_,_,_,_,_,hn⟩:=M;subst hn;have:=ZB (e.length);simp only[*,go_sem,seval];exact yR h [0,1,2,3];rintro ⟨u,v⟩ ⟨_,_,_⟩ N _ h;simp only[go_sem,seval,Zb]at N;obtain ⟨⟨_,_,_,_,_,_,_⟩,_,_,_,_,hn⟩:=N;subst hn;have:=ZB (d.length);simp only[*,go_sem,seval];refine yB h (fun _ h=>?_) fun _ h=>?_
 iterate 3 (cases h;exact yD)
end
section
theorem ZKz {b_0:Zt}{x_1:Int}{r:Int}(h:ZIT b_0 x_1=some r):Zm prog J0 253 [(true,Qu b_0),(false,[.int .i64 x_1])] [(false,[(false,.int .i64 r)])]:=by
 refine fnk func253 rfl ?_;unfold ZIT at h;simp only[fnS,f253,Zo,go_sem,seval];refine ZPO h fun v1 e h=>Zd (ZoP e)<|yA ?_
 refine ZPO h fun _ f h=>Zd (XM f)<|yA ?_
 refine yB h (fun _ h=>?_) fun _ h=>?_
 obtain ⟨_,h⟩:=Zv h;obtain ⟨_,_,h⟩:=Za h;simp only[*,go_sem,seval];refine yB h (fun _ h=>?_) fun _ h=>?_
 cases h;exact yD;refine Zh h (fun i _ st=>IV [(1,yM (.int .i64 x_1)),(2,.bp 0 0),(5,.p false [.row 1]),(6,yL i)] [.box 140 [.c (.int .i64 b_0.nodes),.c (zA b_0.reasons)],.row 3 1 (A0 ZO v1) 2] st) [] [0,48] yF yD ?_ ?_
 rintro _ _ ⟨⟩ ⟨_,_,_⟩ _ a b g h k;simp only[go_sem,seval,Zb]at b;obtain ⟨⟨_,_,_,_⟩,l,_,hn⟩:=b;subst hn;have m:=WF.boxL g l (j:=1) rfl;have:=ZC a;have:=ZE a;have:=Zk (ZD a) m;simp only[*,go_sem,seval];refine yB h (fun _ h=>?_) fun _ h=>?_
 refine ZPO h fun _ o h=>Zd (ZmL o)<|yA ?_
 refine yB h (fun _ h=>?_) fun _ h=>?_
 refine ZPO h fun _ q h=>Zd (Zqc q)<|yA ?_
 refine yB h (fun _ h=>?_) fun _ h=>?_
 replace h:=Zr h k;cases h;exact yD;exact yR h [0,1];exact yR h [0,1];exact yR h [0,1];rintro ⟨⟩ ⟨_,_,_⟩ d _ h;simp only[go_sem,seval,Zb]at d;obtain ⟨⟨_,_,_,_⟩,_,_,hn⟩:=d;subst hn;have:=ZB (b_0.reasons.length);iterate 2 (cases h;exact yD)
end
section
open Go.RowKit
theorem ZLy:(prog.info? 3).map (fun i=>(i.zero,i.size,i.bytes))=some (some (.int .i64 0),1,8):=yO
theorem ZKi (w:World):∀l:List Int,ZGg.reps w (l.map (Value.int .i64)) l []
 | []=>⟨rfl,rfl⟩
 |x::l=>⟨[.int .i64 x],l.map (Value.int .i64),[],[],rfl,rfl,⟨rfl,rfl⟩,ZKi w l⟩
theorem ZK0 {w:World}{base:Nat}{v:Value}{l:List Int}(h:w.ownsRow base 3 1 v l.length (l.map (Value.int .i64))):∃A c L,v=.slice A l.length c/\(Zw ZGg).rep w [.slice A l.length c] l L:=by
 have h1:=ZdZ h;obtain ⟨A,c,rfl,hn,hm⟩:=QP h1;obtain ⟨L,hs,_,_⟩:=Sl.of_ownV h1;exact ⟨A,c,L++[],rfl,A,c,rfl,hn,hm,_,L,[],rfl,hs,ZKi w l⟩
theorem ZI5 {w w':World}{base:Nat}{v:Value}{n:Nat}{xs:List Value}(h:w.ownsRow base 3 1 v n xs) (hb:Below w.heap.size w w'):w'.ownsRow base 3 1 v n xs:=
 h.kept (row:=none) ⟨hb.os,hb.tape,hb.output,hb.size,fun q hq _=>hb.block q hq⟩ (by cases v.ownBlock<;>simp)
theorem ZIY {w w':World}(hb:Below w.heap.size w w') (o:Option Nat):w.grownBy w' o:=⟨hb.os,hb.tape,hb.output,hb.size,fun q hq _=>hb.block q hq⟩
theorem ZJr {B:Nat}{w0 w w':World}{o:Option Nat}(h:Below B w0 w) (g:w.grownBy w' o) (hB:B<=w.heap.size) (ho:∀q,o=some q->B<=q):Below B w0 w':=
 ⟨g.os.trans h.os,g.tape.trans h.tape,g.output.trans h.output,A5 h.size g.size,fun q hq=>(g.block q yE (fun e=>by have:=ho q e.symm;omega)).trans (h.block q hq)⟩
theorem ZJc {w w1 w2:World}{v v1:Value}(h:w.grownBy w1 v.ownBlock) (k:w1.grownBy w2 v1.ownBlock) (hb:∀g,v1.ownBlock=some g->v.ownBlock=some g\/w.heap.size<=g):w.grownBy w2 v.ownBlock:=
 ⟨k.os.trans h.os,k.tape.trans h.tape,k.output.trans h.output,A5 h.size k.size,fun q hq a=>(k.block q (Nat.lt_of_lt_of_le hq h.size) (fun e=>by
  rcases hb q e.symm with h1|h1
  .exact a h1.symm
  .omega)).trans (h.block q hq a)⟩
def ZMi (a w:World) (v:Value) (r:List Int):Ending->World->Prop:=fun e w'=>∃v',e=.returned v'/\w'.ownsRow a.heap.size 3 1 v' r.length (r.map (Value.int .i64))/\w.grownBy w' v.ownBlock/\∀g,v'.ownBlock=some g->v.ownBlock=some g\/w.heap.size<=g
structure ZJU (w0 ws:World) (v:Value) (lk:List Int) (vl:Value) (wr:World):Prop where
 row:wr.ownsRow w0.heap.size 3 1 vl lk.length (lk.map (Value.int .i64))
 grown:ws.grownBy wr v.ownBlock
 blk:∀g,vl.ownBlock=some g->v.ownBlock=some g\/ws.heap.size<=g
theorem ZLb {w:World}{cs:List Value}{b:Zt}{L:List Nat}(hb:Q1.rep w cs b L) {k:Nat}{q:Zf}(hq:b.reasons[k]?=some q):∃A1 c1 bb off Ai ci Li,cs=[.int .i64 b.nodes,.slice A1 b.reasons.length c1]/\A1=some ⟨bb,off,none⟩/\bb<w.heap.size/\w.cell? ⟨bb,off+k*3+1,none⟩=some (.slice Ai q.inn.length ci)/\q.inn.length<=9223372036854775807/\Sli ZGg w Ai q.inn Li:=by
 obtain ⟨A1,c1,L1,e1,e2,n1,m1,s1⟩:=hb;subst e1 e2;obtain ⟨c,d⟩:=AD.1 hq;obtain ⟨bb,off,cs,Lk,e3,e,hLk,a,hc⟩:=s1.at_ c;rw [d]at a;obtain ⟨Ai,ci,Li,Ao,co,Lo,e4,e5,ni,mi,si,no,mo,so⟩:=a;subst e4;exact ⟨A1,c1,bb,off,Ai,ci,Li,rfl,e3,s1.lt _ e,hc 1 _ rfl,A5 ni (by unfold maxLen at mi;omega),si⟩
theorem ZJ8 {b:Zt}{rd:List Int}{w0:World}(hj:J0 w0) {cs:List Value}{Lb:List Nat}(hb:Q1.rep w0 cs b Lb):∀(n:Nat) (x:Int) (l r:List Int),ZJa (ZI1 b rd) ZgY b n x l=some r->∀(w:World) (v:Value) (A:Option Addr) (c:Nat) (Lr:List Nat),Below w0.heap.size w0 w->(Zw ZGg).rep w [.slice A rd.length c] rd Lr->w.ownsRow w0.heap.size 3 1 v l.length (l.map (Value.int .i64))->(∀g,v.ownBlock=some g->g∉Lr)->
  Calls prog 220 #[.agg cs.toArray,.slice A rd.length c,.int .i64 x,v] w (ZMi w0 w v r)
 |0,x,l,r,h,_,_,_,_,_,_,_,_,_=>by cases h
 |n+1,x,l,r,h,w,v,A,c,Lr,hB,hrd,hv,hf=>by
  rw [ZJa]at h;cases hs:ZI1 b rd x with
  |none=>rw [hs]at h;cases h
  |some s=>
   rw [hs,A9]at h;have V:∃A1 c1,cs=[.int .i64 b.nodes,.slice A1 b.reasons.length c1]:=by
    obtain ⟨A1,c1,L1,e1,_⟩:=hb;exact ⟨A1,c1,e1⟩
   obtain ⟨A1,c1,rfl⟩:=V;have IH:=ZJ8 (rd:=rd) hj hb n;obtain ⟨nr,C⟩:∃nr,b.reasons.length=nr:=⟨_,rfl⟩;obtain ⟨nd,D⟩:∃nd,rd.length=nd:=⟨_,rfl⟩;have HND:Hid (rd.length=nd):=D;have HNR:Hid (b.reasons.length=nr):=C;rw [C]at hb;rw [C,D]at IH;rw [D]at hrd;rw [C,D];have F:=Zi6 (ZdZ hv);have G:=ZqS hv;have HJ:=yS hj;have HB:=yS hB;have HRD:=yS hrd;have HV:=yS hv;have HF:Hid (∀g,v.ownBlock=some g->g∉Lr):=hf;have HVL:Hid (∀g,v.ownBlock=some g->g<w.heap.size/\w0.heap.size<=g):=fun g hg=>⟨F g (by simp [hg]),G g hg⟩
   have HBE:=yS hb;have HS:Hid (ZI1 b rd x=some s):=hs;have HH:=yS h;have HI:=yS IH;clear hj hB hrd hv hf hb hs h IH F G C D;go_enter func220,ntmps220;go_wp2_with fail
   obtain ⟨w1,E⟩:∃w1,w1=w.alloc (.cells #[.int .i64 b.nodes,.slice A1 nr c1] 140):=⟨_,rfl⟩;have BW:Hid (Below w.heap.size w w1):=by rw [E];exact (Below.refl _ w).alloc (A4 _) _
   have HSZ:Hid (w1.heap.size=w.heap.size+1):=by rw [E];show _=_;simp
   have B1:Hid (Below w0.heap.size w0 w1):=HB.out.trans (BW.out.mono HB.out.size);have K0:Hid (Blk w1 w.heap.size 140 #[.int .i64 b.nodes,.slice A1 nr c1]):=by rw [E];exact Blk.new _ _ _
   rw [<-E];clear E;have R1:Hid ((Zw ZGg).rep w1 [.slice A nd c] rd Lr):=(Zw ZGg).keep HRD.out (Zy BW.out (fun y m=>(Zw ZGg).lt HRD.out y m))
   refine (Zm.givesI (ZLm HS.out) (Qt hJ0 HJ.out B1.out) (vs:=[_,_,_]) ⟨Zh9 ZJm (Q1.keep HBE.out (Zy B1.out (fun y m=>Q1.lt HBE.out y m))),Zcs ZJK 3 R1.out,ZKx _ _,trivial⟩).mono ?_
   rintro e w2 ⟨rfl,M⟩;have W2:Hid (Below w1.heap.size w1 w2):=M;clear M;by_cases H:s<0
   .obtain rfl:l=r:=by
     have:=HH.out;rw [if_pos (decide_eq_true H)]at this;exact A3 this
    have W:Hid (Below w.heap.size w w2):=BW.out.trans (W2.out.mono BW.out.size);go_wp2;go_ret;exact ⟨v,rfl,ZI5 HV.out W.out,ZIY W.out _,fun g h=>.inl h⟩
   .have h1:=HH.out;rw [if_neg (by simpa using H)]at h1
    cases hh:ZgY l s with
    |none=>rw [hh]at h1;cases h1
    |some hm=>
     rw [hh,A9]at h1;have HM:Hid (ZgY l s=some hm):=hh;have H1:=yS h1;obtain ⟨Av,cv,Lv,X,N⟩:=ZK0 (ZI5 HV.out (BW.out.trans (W2.out.mono BW.out.size)));subst X;have HVR:=yS N;clear hh h1 N HH;go_wp2_with fail
     refine (Zm.givesB (Zrg HM.out) (Qt hJ0 HJ.out (B1.out.trans (W2.out.mono B1.out.size))) (vs:=[_,_]) ⟨Zcs ZJK _ HVR.out,ZKx _ _,trivial⟩).mono ?_;rintro e w3 ⟨rfl,O⟩;have W3:Hid (Below w1.heap.size w1 w3):=W2.out.trans (O.mono W2.out.size);clear O W2 HVR;cases hm with
     |true=>
      obtain rfl:l=r:=by
       have:=H1.out;rw [if_pos rfl]at this;exact A3 this
      have W:Hid (Below w.heap.size w w3):=BW.out.trans (W3.out.mono BW.out.size);go_wp2;go_ret;exact ⟨_,rfl,ZI5 HV.out W.out,ZIY W.out _,fun g h=>.inl h⟩
     |false=>
      have h1:=H1.out;rw [if_neg yG]at h1;obtain ⟨k,hk⟩:∃k:Nat,s=k:=⟨s.toNat,yE⟩;subst hk;rw [AE]at h1;obtain ⟨q,hq,h1⟩:=A7.1 h1;obtain ⟨t,ht,h1⟩:=A7.1 h1;by_cases P:t.length<1048576
      .rw [if_pos P]at h1;obtain rfl:=A3 h1;have hkn:k<nr:=by have:=(AD.1 hq).1;have:=HNR.out;omega
       have J:=HBE.out;rw [<-HNR.out]at J;obtain ⟨A1',Y,bb,off,Ai,ci,Li,e1,e2,Z,d,aa,Q⟩:=ZLb J hq;obtain ⟨rfl,rfl⟩:A1=A1'/\c1=Y:=by simpa using e1
       subst e2;have HSL:=yS Q;have HT:=yS ht;obtain ⟨pi,K⟩:∃pi,q.inn.length=pi:=⟨_,rfl⟩;have HPI:Hid (q.inn.length=pi):=K;rw [K]at d aa;have W03:Hid (Below w0.heap.size w0 w3):=B1.out.trans (W3.out.mono B1.out.size);have p1:w3.cell? ⟨bb,off+k*3+1,none⟩=some (.slice Ai pi ci):=(W03.out.cell (p:=⟨bb,off+k*3+1,none⟩) Z).trans d;have pk:w3.cell? ⟨w.heap.size,1,none⟩=some (.slice (some ⟨bb,off,none⟩) nr c1):=(K0.out.later W3.out).at rfl;clear h1 e1 K Q ht d J H1 HM HS hq;go_wp2;clear p1 pk;have z:Hid (∃lk,goO (ZJa (ZI1 b rd) ZgY b n) (q.inn.drop 0) lk=some t/\ZJU w0 w1 (.slice Av l.length cv) lk (.slice Av l.length cv) w3):=⟨l,HT.out,ZI5 HV.out (BW.out.trans (W3.out.mono BW.out.size)),ZIY W3.out _,fun g h=>.inl h⟩
       go_loopw [3,31] (fun vl i wr=>∃(j:Nat),j<=pi/\i=.int .i64 j/\Hid (∃lk,goO (ZJa (ZI1 b rd) ZgY b n) (q.inn.drop j) lk=some t/\ZJU w0 w1 (.slice Av l.length cv) lk vl wr)) (fun _ i _=>pi - (intOf i).toNat)
       case atStart=>exact ⟨0,A6 _,rfl,z⟩
       case round=>
        clear z;obtain ⟨j,hj,rfl,HR⟩:=hrel;obtain ⟨lk,B,z⟩:=HR.out;have HST:=yS z;have HBK:Hid (Below w0.heap.size w0 wr):=ZJr B1.out z.grown (B1.out.size) (fun g hg=>(HVL.out g hg).2)
        clear HR z;by_cases hjp:j<pi
        .have R:j<q.inn.length:=by have:=HPI.out;omega
         obtain ⟨bi,oi,cs2,Lk2,rfl,S,_,L,T⟩:=HSL.out.at_ R;obtain ⟨e3,_⟩:=L;subst e3;obtain ⟨y,hy⟩:∃y,q.inn[j]=y:=⟨_,rfl⟩;rw [A8 R,hy,goO]at B;obtain ⟨u,hu,I⟩:=A7.1 B;have HU:=yS hu;have HGO:=yS I;have p3:wr.cell? ⟨bi,oi+j,none⟩=some (.int .i64 y):=by
          have h:=T 0 _ rfl;rw [show oi+(j*ZGg.size+0)=oi+j from by show oi+(j*1+0)=_;omega,hy]at h
          exact (HBK.out.cell (p:=⟨bi,oi+j,none⟩) (HSL.out.lt _ S)).trans h
         have KB:Hid (Blk wr w.heap.size 140 #[.int .i64 b.nodes,.slice (some ⟨bb,off,none⟩) nr c1]):=(HST.out.grown.block _ (by have:=HSZ.out;omega) (fun e=>by have:=(HVL.out _ e.symm).1;omega)).trans K0.out
         have b0:wr.cell? ⟨w.heap.size,0,none⟩=some (.int .i64 b.nodes):=KB.out.at rfl;have b1:wr.cell? ⟨w.heap.size,1,none⟩=some (.slice (some ⟨bb,off,none⟩) nr c1):=KB.out.at rfl;clear T hy B hu I;go_wp2_with fail
         have HRW:Hid ((Zw ZGg).rep wr [.slice A nd c] rd Lr):=(Zw ZGg).keep HRD.out (fun q m=>(HST.out.grown.block q (by have:=(Zw ZGg).lt HRD.out q m;have:=HSZ.out;omega) (fun e=>HF.out q e.symm m)).trans (BW.out.block q ((Zw ZGg).lt HRD.out q m)))
         refine (HI.out y lk u HU.out wr _ A c Lr HBK.out HRW.out HST.out.row (fun g hg m=>?_)).mono ?_
         .rcases HST.out.blk g hg with h|h
          .exact HF.out g h m
          .have:=(Zw ZGg).lt HRD.out g m;have:=HSZ.out;omega
         .rintro e w4 ⟨v',rfl,f,a,o⟩;have HN:Hid (ZJU w0 w1 (.slice Av l.length cv) u v' w4):=⟨f,ZJc HST.out.grown a HST.out.blk,fun g hg=>(o g hg).elim (fun h=>HST.out.blk g h) (fun h=>.inr (A5 HST.out.grown.size h))⟩
          clear f a o;go_wp2;exact ⟨⟨j+1,yE,yG,u,HGO.out,HN.out⟩,by simp [intOf];omega⟩
        .have U:q.inn.drop j=[]:=AF (by have:=HPI.out;omega)
         rw [U,goO]at B;obtain rfl:=A3 B;have HVL2:Hid (w0.heap.size<=wr.heap.size):=HBK.out.size;clear U B;go_wp2_with (at_builtin;(refine Zyx rfl (.tmp 41) (.tmp 43) 86 rfl 3 _ 1 8 underlying86 ZLy rfl yE w0.heap.size u3 lk.length (lk.map (Value.int .i64)) [.int .i64 (k:Int)] rfl rfl HST.out.row rfl (by intro u hu;simp only[AG]at hu;subst hu;rfl) yE yE HVL2.out ?_);intro v' w' f a o)
         go_ret;refine ⟨v',rfl,by rw [AH,AI];exact f,?_,fun g hg=>?_⟩
         .exact ZJc (v:=.slice Av l.length cv) (v1:=.slice Av l.length cv) (ZIY BW.out _) (ZJc HST.out.grown a HST.out.blk) (fun g hg=>.inl hg)
         .rcases o g hg with h|h
          .rcases HST.out.blk g h with h|h
           .exact .inl h
           .exact .inr (A5 BW.out.size h)
          .exact .inr (A5 BW.out.size (A5 HST.out.grown.size h))
      .rw [if_neg P]at h1;cases h1
theorem ZLG {w:World}{base:Nat}{e:TypeId}{size n:Nat}{v:Value}{xs:List Value}(h:w.ownsRow base e size v n xs):Own w base v.ownBlock.toList:=by
 rcases h.2 with ⟨h0,_⟩|⟨g,cap,a,hv,hg,hc,_⟩
 .subst h0;exact Own.nil w base
 .subst hv;exact ⟨by simp [Value.ownBlock],by simpa [Value.ownBlock]using hg,by simpa [Value.ownBlock]using ⟨a,e,hc⟩⟩
theorem ZLr {w0 w:World}{v:Value}{r:List Int}(h:w.ownsRow w0.heap.size 3 1 v r.length (r.map (Value.int .i64))) (hB:Below w0.heap.size w0 w):ZeC ZGg 3 w0 v r w:=
 ⟨⟨_,[],ZdZ h,ZKi w r,by rw [List.append_nil];exact ZLG h⟩,hB⟩
theorem ZJY {b:Zt}{x:Int}{r:List Int}(h:ZIX b x=some r) (w:World) (cs:List Value) (L:List Nat) (hj:J0 w) (hb:Q1.rep w cs b L):Calls prog 158 #[.agg cs.toArray,.int .i64 x] w (Zi7 ZGg 3 w r):=by
 unfold ZIX at h;obtain ⟨ok,k,h⟩:=A7.1 h;have p:∃A1 c1,cs=[.int .i64 b.nodes,.slice A1 b.reasons.length c1]:=by
  obtain ⟨A1,c1,L1,e1,_⟩:=hb;exact ⟨A1,c1,e1⟩
 obtain ⟨A1,c1,rfl⟩:=p;obtain ⟨nr,d⟩:∃nr,b.reasons.length=nr:=⟨_,rfl⟩;have HNR:Hid (b.reasons.length=nr):=d;rw [d]at hb;rw [d];have HJ:=yS hj;have HBE:=yS hb;have HOK:Hid (ZIW b=some ok):=k;have HH:=yS h;clear hj hb k h d;go_enter func158,ntmps158;go_wp2_with fail
 obtain ⟨w1,f⟩:∃w1,w1=w.alloc (.cells #[.int .i64 b.nodes,.slice A1 nr c1] 140):=⟨_,rfl⟩;have BW:Hid (Below w.heap.size w w1):=by rw [f];exact (Below.refl _ w).alloc (A4 _) _
 have K0:Hid (Blk w1 w.heap.size 140 #[.int .i64 b.nodes,.slice A1 nr c1]):=by rw [f];exact Blk.new _ _ _
 rw [<-f];clear f;refine (Zm.givesB (ZKb HOK.out) (Qt hJ0 HJ.out BW.out) (vs:=[_]) ⟨Zh9 ZJm (Q1.keep HBE.out (Zy BW.out (fun y m=>Q1.lt HBE.out y m))),trivial⟩).mono ?_
 rintro e w2 ⟨rfl,j⟩;have K2:Hid (Blk w2 w.heap.size 140 #[.int .i64 b.nodes,.slice A1 nr c1]):=K0.out.later j;have W2:Hid (Below w.heap.size w w2):=BW.out.trans (j.mono BW.out.size);clear j K0 BW;cases ok with
 |false=>
  obtain rfl:[]=r:=by
   have:=HH.out;rw [if_neg yG]at this;exact A3 this
  go_wp2;go_ret;exact ⟨_,rfl,ZLr (r:=[]) (World.ownsRow_nil _ _ _ _) W2.out⟩
 |true=>
  have h1:=HH.out;rw [if_pos rfl]at h1;obtain ⟨rd,l,h1⟩:=A7.1 h1;have HRD:Hid (ZhI b=some rd):=l;have H1:=yS h1;have b0:w2.cell? ⟨w.heap.size,0,none⟩=some (.int .i64 b.nodes):=K2.out.at rfl;have b1:w2.cell? ⟨w.heap.size,1,none⟩=some (.slice A1 nr c1):=K2.out.at rfl;clear h1 l HH;have JD:Hid (J0 w2.drew):=Qt hJ0 HJ.out W2.out.drew;have BD:Hid (Q1.rep w2.drew [.int .i64 b.nodes,.slice A1 nr c1] b L):=Q1.keep HBE.out (Zy W2.out.drew (fun y m=>Q1.lt HBE.out y m))
  go_wp2_with fail
  go_region_held3 (fun W=>W.cell? ⟨w.heap.size,0,none⟩=some (.int .i64 b.nodes)/\W.cell? ⟨w.heap.size,1,none⟩=some (.slice A1 nr c1)) (first|exact ⟨b0,b1⟩|exact ⟨d0,d1⟩|exact ⟨f0,f1⟩) (first|(go_at_call 221;refine (Zm.givesS (c:=ZGg) (g:=ZO) (t:=3) (ds:=rd) (Zq7 HRD.out) ZJK JD.out (vs:=[_]) ⟨Zh9 ZJm BD.out,trivial⟩).mono ?_;rintro e w3 ⟨v3,rfl,hA⟩;obtain ⟨An,cap,rfl⟩:=hA.shape;obtain ⟨LA,hG⟩:=hA.got;have HGR:=yS hG.rep;have W3:Hid (Below w.heap.size w w3):=W2.out.drew.trans (hA.below.mono W2.out.size);have K3:Hid (Blk w3 w.heap.size 140 #[.int .i64 b.nodes,.slice A1 nr c1]):=Blk.later (w:=w2.drew) K2.out hA.below;have d0:w3.cell? ⟨w.heap.size,0,none⟩=some (.int .i64 b.nodes):=K3.out.at rfl;have d1:w3.cell? ⟨w.heap.size,1,none⟩=some (.slice A1 nr c1):=K3.out.at rfl;clear hA hG)|(go_at_call 220;refine (ZJ8 HJ.out HBE.out _ x [] r H1.out w3 (.slice none 0 0) An cap LA W3.out HGR.out (World.ownsRow_nil _ _ _ _) (by simp [Value.ownBlock])).mono ?_;rintro e w4 ⟨v4,rfl,i,a,o⟩;have HO4:=yS i;have W4:Hid (Below w.heap.size w w4):=ZJr W3.out a W3.out.size (by simp [Value.ownBlock]);have K4:Hid (Blk w4 w.heap.size 140 #[.int .i64 b.nodes,.slice A1 nr c1]):=(a.block _ K3.out.lt (by simp [Value.ownBlock])).trans K3.out;have f0:w4.cell? ⟨w.heap.size,0,none⟩=some (.int .i64 b.nodes):=K4.out.at rfl;have f1:w4.cell? ⟨w.heap.size,1,none⟩=some (.slice A1 nr c1):=K4.out.at rfl;clear i a o))
  go_wp2;go_ret;exact ⟨_,rfl,ZLr HO4.out W4.out⟩
theorem ZKa {b:Zt}{w0:World}(hj:J0 w0) {cs:List Value}{Lb:List Nat}(hb:Q1.rep w0 cs b Lb):∀(n:Nat) (x:Int) (l r:List Int),ZJa (ZIT b) ZJy b n x l=some r->∀(w:World) (v:Value),Below w0.heap.size w0 w->w.ownsRow w0.heap.size 3 1 v l.length (l.map (Value.int .i64))->
  Calls prog 213 #[.agg cs.toArray,.int .i64 x,v] w (ZMi w0 w v r)
 |0,x,l,r,h,_,_,_,_=>by cases h
 |n+1,x,l,r,h,w,v,hB,hv=>by
  rw [ZJa]at h;cases hs:ZIT b x with
  |none=>rw [hs]at h;cases h
  |some s=>
   rw [hs,A9]at h;have T:∃A1 c1,cs=[.int .i64 b.nodes,.slice A1 b.reasons.length c1]:=by
    obtain ⟨A1,c1,L1,e1,_⟩:=hb;exact ⟨A1,c1,e1⟩
   obtain ⟨A1,c1,rfl⟩:=T;have IH:=ZKa hj hb n;obtain ⟨nr,A⟩:∃nr,b.reasons.length=nr:=⟨_,rfl⟩;have HNR:Hid (b.reasons.length=nr):=A;rw [A]at hb;rw [A]at IH;rw [A];have C:=Zi6 (ZdZ hv);have D:=ZqS hv;have HJ:=yS hj;have HB:=yS hB;have HV:=yS hv;have HVL:Hid (∀g,v.ownBlock=some g->g<w.heap.size/\w0.heap.size<=g):=fun g hg=>⟨C g (by simp [hg]),D g hg⟩
   have HBE:=yS hb;have HS:Hid (ZIT b x=some s):=hs;have HH:=yS h;have HI:=yS IH;clear hj hB hv hb hs h IH C D A;go_enter func213,ntmps213;go_wp2_with fail
   obtain ⟨w1,B⟩:∃w1,w1=w.alloc (.cells #[.int .i64 b.nodes,.slice A1 nr c1] 140):=⟨_,rfl⟩;have BW:Hid (Below w.heap.size w w1):=by rw [B];exact (Below.refl _ w).alloc (A4 _) _
   have HSZ:Hid (w1.heap.size=w.heap.size+1):=by rw [B];show _=_;simp
   have B1:Hid (Below w0.heap.size w0 w1):=HB.out.trans (BW.out.mono HB.out.size);have K0:Hid (Blk w1 w.heap.size 140 #[.int .i64 b.nodes,.slice A1 nr c1]):=by rw [B];exact Blk.new _ _ _
   rw [<-B];clear B;refine (Zm.givesI (ZKz HS.out) (Qt hJ0 HJ.out B1.out) (vs:=[_,_]) ⟨Zh9 ZJm (Q1.keep HBE.out (Zy B1.out (fun y m=>Q1.lt HBE.out y m))),ZKx _ _,trivial⟩).mono ?_
   rintro e w2 ⟨rfl,K⟩;have W2:Hid (Below w1.heap.size w1 w2):=K;clear K;by_cases E:s<0
   .obtain rfl:l=r:=by
     have:=HH.out;rw [if_pos (decide_eq_true E)]at this;exact A3 this
    have W:Hid (Below w.heap.size w w2):=BW.out.trans (W2.out.mono BW.out.size);go_wp2;go_ret;exact ⟨v,rfl,ZI5 HV.out W.out,ZIY W.out _,fun g h=>.inl h⟩
   .have h1:=HH.out;rw [if_neg (by simpa using E)]at h1
    cases hh:ZJy l s with
    |none=>rw [hh]at h1;cases h1
    |some hm=>
     rw [hh,A9]at h1;have HM:Hid (ZJy l s=some hm):=hh;have H1:=yS h1;obtain ⟨Av,cv,Lv,U,L⟩:=ZK0 (ZI5 HV.out (BW.out.trans (W2.out.mono BW.out.size)));subst U;have HVR:=yS L;clear hh h1 L HH;go_wp2_with fail
     refine (Zm.givesB (ZLK HM.out) (Qt hJ0 HJ.out (B1.out.trans (W2.out.mono B1.out.size))) (vs:=[_,_]) ⟨Zcs ZJK _ HVR.out,ZKx _ _,trivial⟩).mono ?_;rintro e w3 ⟨rfl,M⟩;have W3:Hid (Below w1.heap.size w1 w3):=W2.out.trans (M.mono W2.out.size);clear M W2 HVR;cases hm with
     |true=>
      obtain rfl:l=r:=by
       have:=H1.out;rw [if_pos rfl]at this;exact A3 this
      have W:Hid (Below w.heap.size w w3):=BW.out.trans (W3.out.mono BW.out.size);go_wp2;go_ret;exact ⟨_,rfl,ZI5 HV.out W.out,ZIY W.out _,fun g h=>.inl h⟩
     |false=>
      have h1:=H1.out;rw [if_neg yG]at h1;obtain ⟨k,hk⟩:∃k:Nat,s=k:=⟨s.toNat,yE⟩;subst hk;rw [AE]at h1;obtain ⟨q,hq,h1⟩:=A7.1 h1;obtain ⟨t,ht,h1⟩:=A7.1 h1;by_cases N:t.length<1048576
      .rw [if_pos N]at h1;obtain rfl:=A3 h1;have hkn:k<nr:=by have:=(AD.1 hq).1;have:=HNR.out;omega
       have H:=HBE.out;rw [<-HNR.out]at H;obtain ⟨A1',V,bb,off,Ai,ci,Li,e1,e2,O,c,X,P⟩:=ZLb H hq;obtain ⟨rfl,rfl⟩:A1=A1'/\c1=V:=by simpa using e1
       subst e2;have HSL:=yS P;have HT:=yS ht;have HBB:=yS O;obtain ⟨pi,I⟩:∃pi,q.inn.length=pi:=⟨_,rfl⟩;have HPI:Hid (q.inn.length=pi):=I;rw [I]at c X;have HC:=yS c;clear h1 e1 I P ht c H H1 HM HS hq O;go_wp2;have o:Hid (∃lk,goO (ZJa (ZIT b) ZJy b n) (q.inn.drop 0) lk=some t/\ZJU w0 w1 (.slice Av l.length cv) lk (.slice Av l.length cv) w3):=⟨l,HT.out,ZI5 HV.out (BW.out.trans (W3.out.mono BW.out.size)),ZIY W3.out _,fun g h=>.inl h⟩
       go_loopw [2,8] (fun vl i wr=>∃(j:Nat),j<=pi/\i=.int .i64 j/\Hid (∃lk,goO (ZJa (ZIT b) ZJy b n) (q.inn.drop j) lk=some t/\ZJU w0 w1 (.slice Av l.length cv) lk vl wr)) (fun _ i _=>pi - (intOf i).toNat)
       case atStart=>exact ⟨0,A6 _,rfl,o⟩
       case round=>
        clear o;obtain ⟨j,hj,rfl,HR⟩:=hrel;obtain ⟨lk,z,o⟩:=HR.out;have HST:=yS o;have HBK:Hid (Below w0.heap.size w0 wr):=ZJr B1.out o.grown (B1.out.size) (fun g hg=>(HVL.out g hg).2)
        have KB:Hid (Blk wr w.heap.size 140 #[.int .i64 b.nodes,.slice (some ⟨bb,off,none⟩) nr c1]):=(HST.out.grown.block _ (by have:=HSZ.out;omega) (fun e=>by have:=(HVL.out _ e.symm).1;omega)).trans K0.out
        have b0:wr.cell? ⟨w.heap.size,0,none⟩=some (.int .i64 b.nodes):=KB.out.at rfl;have b1:wr.cell? ⟨w.heap.size,1,none⟩=some (.slice (some ⟨bb,off,none⟩) nr c1):=KB.out.at rfl;have p1:wr.cell? ⟨bb,off+k*3+1,none⟩=some (.slice Ai pi ci):=(HBK.out.cell (p:=⟨bb,off+k*3+1,none⟩) HBB.out).trans HC.out;clear HR o;by_cases hjp:j<pi
        .have Q:j<q.inn.length:=by have:=HPI.out;omega
         obtain ⟨bi,oi,cs2,Lk2,rfl,F,_,J,R⟩:=HSL.out.at_ Q;obtain ⟨e3,_⟩:=J;subst e3;obtain ⟨y,hy⟩:∃y,q.inn[j]=y:=⟨_,rfl⟩;rw [A8 Q,hy,goO]at z;obtain ⟨u,hu,G⟩:=A7.1 z;have HU:=yS hu;have HGO:=yS G;have HBI:Hid (bi<w0.heap.size):=HSL.out.lt _ F;have p3:wr.cell? ⟨bi,oi+j,none⟩=some (.int .i64 y):=by
          have h:=R 0 _ rfl;rw [show oi+(j*ZGg.size+0)=oi+j from by show oi+(j*1+0)=_;omega,hy]at h
          exact (HBK.out.cell (p:=⟨bi,oi+j,none⟩) HBI.out).trans h
         clear R hy z hu G F;go_wp2_with fail
         go_region_held3 (fun W=>W.cell? ⟨w.heap.size,0,none⟩=some (.int .i64 b.nodes)/\W.cell? ⟨w.heap.size,1,none⟩=some (.slice (some ⟨bb,off,none⟩) nr c1)/\W.cell? ⟨bb,off+k*3+1,none⟩=some (.slice (some ⟨bi,oi,none⟩) pi ci)/\W.cell? ⟨bi,oi+j,none⟩=some (.int .i64 y)) (first|exact ⟨b0,b1,p1,p3⟩|exact ⟨d0,d1,d2,d3⟩) (first|(go_at_call 213;refine (HI.out y lk u HU.out wr.drew _ HBK.out.drew (ZI5 HST.out.row (Below.refl _ _).drew)).mono ?_;rintro e w4 ⟨v',rfl,d,a,f⟩;have HGR:Hid (wr.grownBy w4 u2.ownBlock):=⟨a.os,a.tape,a.output,a.size,a.block⟩;have HN:Hid (ZJU w0 w1 (.slice Av l.length cv) u v' w4):=⟨d,ZJc HST.out.grown HGR.out HST.out.blk,fun g hg=>(f g hg).elim (fun h=>HST.out.blk g h) (fun h=>.inr (A5 HST.out.grown.size h))⟩;have HB4:Hid (Below w0.heap.size w0 w4):=ZJr B1.out HN.out.grown B1.out.size (fun g hg=>(HVL.out g hg).2);have K4:Hid (Blk w4 w.heap.size 140 #[.int .i64 b.nodes,.slice (some ⟨bb,off,none⟩) nr c1]):=(HN.out.grown.block _ (by have:=HSZ.out;omega) (fun e=>by have:=(HVL.out _ e.symm).1;omega)).trans K0.out;have d0:w4.cell? ⟨w.heap.size,0,none⟩=some (.int .i64 b.nodes):=K4.out.at rfl;have d1:w4.cell? ⟨w.heap.size,1,none⟩=some (.slice (some ⟨bb,off,none⟩) nr c1):=K4.out.at rfl;have d2:w4.cell? ⟨bb,off+k*3+1,none⟩=some (.slice (some ⟨bi,oi,none⟩) pi ci):=(HB4.out.cell (p:=⟨bb,off+k*3+1,none⟩) HBB.out).trans HC.out;have d3:w4.cell? ⟨bi,oi+j,none⟩=some (.int .i64 y):=(HB4.out.cell (p:=⟨bi,oi+j,none⟩) HBI.out).trans ((HBK.out.cell (p:=⟨bi,oi+j,none⟩) HBI.out).symm.trans p3);clear d a f))
         go_wp2;exact ⟨⟨j+1,yE,yG,u,HGO.out,HN.out⟩,by simp [intOf];omega⟩
        .have S:q.inn.drop j=[]:=AF (by have:=HPI.out;omega)
         rw [S,goO]at z;obtain rfl:=A3 z;have HVL2:Hid (w0.heap.size<=wr.heap.size):=HBK.out.size;clear S z;go_wp2_with (at_builtin;(refine Zyx rfl (.tmp 43) (.tmp 45) 86 rfl 3 _ 1 8 underlying86 ZLy rfl yE w0.heap.size u2 lk.length (lk.map (Value.int .i64)) [.int .i64 (k:Int)] rfl rfl HST.out.row rfl (by intro u hu;simp only[AG]at hu;subst hu;rfl) yE yE HVL2.out ?_);intro v' w' d a f)
         go_ret;refine ⟨v',rfl,by rw [AH,AI];exact d,?_,fun g hg=>?_⟩
         .exact ZJc (v:=.slice Av l.length cv) (v1:=.slice Av l.length cv) (ZIY BW.out _) (ZJc HST.out.grown a HST.out.blk) (fun g hg=>.inl hg)
         .rcases f g hg with h|h
          .rcases HST.out.blk g h with h|h
           .exact .inl h
           .exact .inr (A5 BW.out.size h)
          .exact .inr (A5 BW.out.size (A5 HST.out.grown.size h))
      .rw [if_neg N]at h1;cases h1
theorem ZJ0 {b:Zt}{x:Int}{r:List Int}(h:ZIV b x=some r) (w:World) (cs:List Value) (L:List Nat) (hj:J0 w) (hb:Q1.rep w cs b L):Calls prog 152 #[.agg cs.toArray,.int .i64 x] w (Zi7 ZGg 3 w r):=by
 unfold ZIV at h;obtain ⟨rd,_,h⟩:=A7.1 h;have i:∃A1 c1,cs=[.int .i64 b.nodes,.slice A1 b.reasons.length c1]:=by
  obtain ⟨A1,c1,L1,e1,_⟩:=hb;exact ⟨A1,c1,e1⟩
 obtain ⟨A1,c1,rfl⟩:=i;obtain ⟨nr,f⟩:∃nr,b.reasons.length=nr:=⟨_,rfl⟩;rw [f]at hb;rw [f];have HJ:=yS hj;have HBE:=yS hb;have HH:=yS h;clear hj hb h f;go_enter func152,ntmps152;go_wp2_with fail
 obtain ⟨w2,c⟩:∃w2,w2=(w.alloc (.cells #[.int .i64 b.nodes,.slice A1 nr c1] 140)).alloc (.cells #[] 3):=⟨_,rfl⟩;have B2:Hid (Below w.heap.size w w2):=by rw [c];exact ((Below.refl _ w).alloc (A4 _) _).alloc yG _
 have HO:Hid (w2.ownsRow w.heap.size 3 1 (.slice (some ⟨w.heap.size+1,0,none⟩) 0 0) ([]:List Int).length (([]:List Int).map (Value.int .i64))):=by
  have hg:w2.heap[w.heap.size+1]?=some (.cells #[] 3 (0,0)):=by
   rw [c];exact Blk.new_at (w:=w.alloc (.cells #[.int .i64 b.nodes,.slice A1 nr c1] 140)) (t:=3) (cs:=#[]) yG
  exact ⟨yG,.inr ⟨w.heap.size+1,0,#[],rfl,yE,hg,yG,by unfold maxLen;omega,yG,yG⟩⟩
 rw [<-c];clear c;refine (ZKa HJ.out HBE.out _ x [] r HH.out w2 _ B2.out HO.out).mono ?_;rintro e w4 ⟨v4,rfl,d,a,g⟩;have HO4:=yS d;have W4:Hid (Below w.heap.size w w4):=ZJr B2.out a B2.out.size (fun q hq=>by simp [Value.ownBlock]at hq;omega)
 clear d a g;go_wp2;go_ret;exact ⟨_,rfl,ZLr HO4.out W4.out⟩
theorem ZKI {f:FuncId}{b:Zt}{x:Int}{r:List Int}(hc:Zez prog f) (h:∀(w:World) (cs:List Value) (L:List Nat),J0 w->Q1.rep w cs b L->Calls prog f #[.agg cs.toArray,.int .i64 x] w (Zi7 ZGg 3 w r)):Zm prog J0 f [(true,Qu b),(false,[.int .i64 x])] [(false,[(false,.sl 3 1 (A0 ZO r))])]:=by
 refine ⟨hc,fun w z vs hj hz ha=>?_⟩
 cases vs with
 |nil=>exact ha.elim
 |cons v vs=>
  obtain ⟨ha,hr⟩:=ha;cases vs with
  |nil=>exact hr.elim
  |cons u vs=>
   obtain ⟨hu,hr⟩:=hr;cases vs with
   |cons _ _=>exact hr.elim
   |nil=>
    rcases ha with ⟨_,cs,L,rfl,hR,_⟩|⟨hf,_⟩
    .rcases hu with ⟨hf,_⟩|⟨_,ct,L2,e2,hx,_⟩
     .simp at hf
     .obtain rfl:(CT.int .i64 x)=ct:=by simpa using e2
      obtain ⟨rfl,_⟩:=hx;refine (h w cs L hj (ZJm.of hR)).mono ?_;rintro e w' ⟨v,rfl,⟨xs,Lp,c,a,hO⟩,hB⟩;exact ⟨v,fun b=>z b\/b∈v.ownBlock.toList,rfl,⟨[v],v.ownBlock.toList++Lp,⟨v,[],v.ownBlock.toList++Lp,[],rfl,yG,.inr ⟨rfl,_,rfl,Nat.one_pos,xs,Lp,by rw [List.length_map];exact c,ZJK.reps a,rfl,fun b m=>.inr m⟩,rfl,rfl⟩,hO,rfl⟩,fun b h=>.inl h,hB⟩
    .simp at hf
theorem ZJ4 {a:Zt}{b:Int}{r:List Int}(h:ZIX a b=some r):Zm prog J0 158 [(true,Qu a),(false,[.int .i64 b])] [(false,[(false,.sl 3 1 (A0 ZO r))])]:=
 ZKI ⟨f158,func158,yO,yO⟩ fun w cs L hj hb=>ZJY h w cs L hj hb
theorem ZKe {a:Zt}{b:Int}{r:List Int}(h:ZIV a b=some r):Zm prog J0 152 [(true,Qu a),(false,[.int .i64 b])] [(false,[(false,.sl 3 1 (A0 ZO r))])]:=
 ZKI ⟨f152,func152,yO,yO⟩ fun w cs L hj hb=>ZJ0 h w cs L hj hb
end
section
theorem Zji {rules_0:List Zg}{base_1:List Zc}{r:((List Zc)×Zt×Bool)}(h:QV rules_0 base_1=some r):Zm prog J0 127 [(false,[.sl 76 4 (A0 ZL rules_0)]),(false,[.sl 53 2 (A0 Zs base_1)])] [(false,[(false,.sl 53 2 (A0 Zs r.1))]),(true,[(false,.int .i64 r.2.1.nodes),(false,.sl 179 3 (A0 ZG r.2.1.reasons))]),(false,[(false,.bool r.2.2)])]:=by
 refine fnk func127 rfl ?_;unfold QV at h;simp only[fnS,f127,Zo,go_sem,seval];refine ZPO h fun v1 a h=>Zd (Zq2 a) ?_
 cases h;exact yD
theorem ZLi {append_0:List Zg}{b:List Zc}{v:Zc}{r:((List ZzC)×Bool)}(h:ZJd append_0 b v=some r):Zm prog J0 94 [(false,[.sl 76 4 (A0 ZL append_0)]),(false,[.sl 53 2 (A0 Zs b)]),(true,Zs v)] [(false,[(false,.sl 88 4 (A0 ZF5 r.1))]),(false,[(false,.bool r.2)])]:=by
 refine ZMt func94 rfl ?_;unfold ZJd at h;simp only[fnS,f94,Zo,go_sem,seval];obtain ⟨v1,e1,h⟩:=Za h;refine ZnA (ZLo e1) ?_;simp only[*,go_sem,seval];refine Ze h (fun c2 h=>?_) (fun c2 h=>?_)<;>try simp only[*,go_sem,seval]
 .refine ZPO h fun v2 e3 h=>Zd (ZcD e3) ?_
  simp only[*,go_sem,seval];refine ZPO h fun v3 e4 h=>Zd (ZJ4 e4) ?_
  simp only[*,go_sem,seval];refine Ze h (fun c5 h=>?_) (fun c5 h=>?_)<;>try simp only[*,go_sem,seval]
  .obtain rfl:=A3 h;simp only[*,go_sem,seval]
  .refine Zh h (fun i a st=>IV [(8,.p false [.c (.sl 53 2 (A0 Zs v1.1))]),(9,.bp 0 0),(10,.p false [.c (.sl 187 2 (A0 Zh4 v1.2.2.1))]),(13,.p false [.row 2]),(37,.p false [.row 3]),(38,.p false [.c (.int .i64 (v3.length:Int))]),(39,.p false [.c (.int .i64 (i:Int))])] [.box 140 [.c (.int .i64 v1.2.1.nodes),.row 1],.row 179 3 (A0 ZG v1.2.1.reasons) 2,.row 88 4 (A0 ZF5 a) 2,.row 3 1 (A0 ZO v3) 2] st) [(false,13,0)] [176,80,496,352] yF ?_ ?_ ?_
   .simp only[*,go_sem,seval]
   .rintro z x55 a ⟨sl,ob,n⟩ y6 t w A h hy6;simp only[go_sem,seval,Zb]at w;obtain ⟨⟨g10_8,g10_9,g10_10,g10_13,g10_37,g10_38,g10_39⟩,og10_0,og10_1,og10_2,f,hn⟩:=w;subst hn;have u:=WF.rowL A f;have q11:=ZC t;have q12:=ZE t;have q13:=Zk (ZD t) u;obtain ⟨p14,h⟩:=Zv h;obtain ⟨x56,e15,h⟩:=Za h;obtain ⟨x57,a16,a17,e18,h⟩:=ZcM h;simp only[*,go_sem,seval];refine ZPO h fun x B h=>Zd (YO B) ?_
    obtain ⟨g,a20,a21,e22,h⟩:=ZcM h;simp only[*,go_sem,seval];refine Zh h (fun i d st=>IV [(8,.p false [.c (.sl 53 2 (A0 Zs v1.1))]),(9,.bp 0 0),(10,.p false [.c (.sl 187 2 (A0 Zh4 v1.2.2.1))]),(13,.p false [.row 2]),(16,.bp 3 0),(37,.p false [.row 6]),(38,.p false [.c (.int .i64 (v3.length:Int))]),(39,.p false [.c (.int .i64 (z:Int))]),(63,.p false [.c (.sl 53 2 (A0 Zs g.facts))]),(64,.p false [.c (.int .i64 (g.facts.length:Int))]),(65,.p false [.c (.int .i64 (i:Int))])] [.box 140 [.c (.int .i64 v1.2.1.nodes),.row 1],.row 179 3 (A0 ZG v1.2.1.reasons) 2,.row 88 4 (A0 ZF5 a) 2,.box 88 [.c (.str x.rel),.row 4,.c (.str g.rule),.row 5],.row 9 1 (A0 ZA x.args) 2,.row 3 1 (A0 ZO d) 2,.row 3 1 (A0 ZO v3) 2] st) [(true,324,3)] [0,1,2,324,212,468,3] yF ?_ ?_ ?_
    .simp only[*,go_sem,seval]
    .rintro i68 x69 d ⟨sl,ob,n⟩ y23 e m y h hy23;simp only[go_sem,seval,Zb]at m;obtain ⟨⟨g27_8,g27_9,g27_10,g27_13,g27_16,g27_37,g27_38,g27_39,k,g27_64,g27_65⟩,og27_0,og27_1,og27_2,og27_3,og27_4,og27_5,og27_6,hn⟩:=m;subst hn;have l:=WF.slotL y k (j:=0) rfl;have q28:=ZC e;have q29:=ZE e;have q30:=Zk (ZD e) l;simp only[*,go_sem,seval];refine ZPO h fun v70 C h=>Zd (ZKC C) ?_
     obtain ⟨D,h⟩:=Zv h;try simp only[Nat.reduceLeDiff]at D
     simp only[*,go_sem,seval];refine ⟨_,[],[0,1,2,3,4,183,6],(A3 h).symm,yF,?_⟩;simp only[*,go_sem,seval]
    .rintro d ⟨sl,ob,n⟩ o hW34 h;simp only[go_sem,seval,Zb]at o;obtain ⟨⟨g35_8,g35_9,g35_10,g35_13,g35_16,g35_37,g35_38,g35_39,g35_63,g35_64,g35_65⟩,og35_0,og35_1,og35_2,og35_3,og35_4,og35_5,og35_6,hn⟩:=o;subst hn;have q36:=ZB (g.facts.length);obtain ⟨E,h⟩:=Zv h;try simp only[Nat.reduceLeDiff]at E
     simp only[*,go_sem,seval];refine ⟨_,[],[0,1,71,6],(A3 h).symm,yF,?_⟩;simp only[*,go_sem,seval]
   .rintro a ⟨sl,ob,n⟩ q hW39 h;simp only[go_sem,seval,Zb]at q;obtain ⟨⟨g40_8,g40_9,g40_10,g40_13,g40_37,g40_38,g40_39⟩,og40_0,og40_1,og40_2,og40_3,hn⟩:=q;subst hn;have q41:=ZB (v3.length);obtain rfl:=A3 h;simp only[*,go_sem,seval]
 .obtain rfl:=A3 h;simp only[*,go_sem,seval]
theorem Zjb {a:List Zg}{String_1:List Zc}{r:((List Zc)×Bool)}(h:YA a String_1=some r):Zm prog J0 161 [(false,[.sl 76 4 (A0 ZL a)]),(false,[.sl 53 2 (A0 Zs String_1)])] [(false,[(false,.sl 53 2 (A0 Zs r.1))]),(false,[(false,.bool r.2)])]:=by
 refine fnn 4 func161 rfl ?_;unfold YA at h;simp only[fnN,f161,Zo,go_sem,seval];refine ZPO h fun v1 B h=>Zd (ZlH B)<|yA ?_
 refine yB h (fun _ h=>?_) fun _ h=>?_
 refine ZPO h fun _ C h=>Zd (Zis C)<|yA ?_
 refine yB h (fun _ h=>?_) fun _ h=>?_
 refine ZPO h fun _ D h=>Zd (Zfo D)<|yA ?_
 refine Xj h (fun s st=>match s with|(b,o)=>IV [(0,yM (yW a)),(6,.p false [.n (yT b)]),(7,yM (.bool o))] [] st) [(false,6,4096)] [] yF yD ?_
 rintro ⟨b,o⟩ ⟨_,_,_⟩ _ q _ h t;simp only[go_sem,seval,Zb]at q;obtain ⟨⟨_,_,_⟩,hn⟩:=q;subst hn;simp only[*,go_sem,seval];refine yB h (fun _ h=>?_) fun _ h=>?_
 refine Zh h (fun i e st=>IV [(0,yM (yW a)),(6,.p false [.n (yT e)]),(8,.p false [.n (yT b)]),(9,yL i)] [] st) [] [] yF yD ?_ ?_
 rintro u E e ⟨_,_,_⟩ _ d v F h G;simp only[go_sem,seval,Zb]at v;obtain ⟨⟨H,_,_,_⟩,hn⟩:=v;subst hn;have I:=WF.slotL F H (j:=0) rfl;have:=ZC d;have:=ZE d;have:=Zk (ZD d) I;simp only[*,go_sem,seval];obtain ⟨_,J,h⟩:=Za h;refine ZnA (ZfX J)<|yA ?_;refine ZPO h fun f K h=>Zd (Zfj K)<|yA ?_
 refine Zh h (fun i g st=>IV [(0,yM (yW a)),(6,.p false [.n (yT g)]),(8,.p false [.n (yT b)]),(9,yL u),(10,.p false [.row 0]),(11,yL i)] [.row 111 2 (A0 YU f) 2] st) [] [160] yF yD ?_ ?_
 rintro L _ g ⟨_,_,_⟩ _ k w M h _;simp only[go_sem,seval,Zb]at w;obtain ⟨⟨_,_,_,_,_,_⟩,N,hn⟩:=w;subst hn;have O:=WF.rowL M N;have:=ZC k;have:=ZE k;have:=Zk (ZD k) O;simp only[*,go_sem,seval];refine Zh h (fun i l st=>IV [(0,yM (yW a)),(6,.p false [.n (yT l)]),(8,.p false [.n (yT b)]),(9,yL u),(10,.p false [.row 0]),(11,yL L),(12,yL i)] [.row 111 2 (A0 YU f) 2] st) [] [0] yF yD ?_ ?_
 rintro _ _ l ⟨_,_,_⟩ _ m x P h _;simp only[go_sem,seval,Zb]at x;obtain ⟨⟨Q,_,_,_,_,_,_⟩,_,hn⟩:=x;subst hn;have R:=WF.elL (WF.slotD P Q (j:=0) rfl) d (j:=3) rfl;have:=ZC m;have:=ZE m;have:=Zk (ZD m) R;simp only[*,go_sem,seval];refine ZPO h fun _ S h=>Zd (Zfq S)<|yA ?_
 refine ZPO h fun _ T h=>Zd (ZtP T)<|yA ?_
 exact yC h [(false,6,4096)] [0];rintro l ⟨_,_,_⟩ y _ h;simp only[go_sem,seval,Zb]at y;obtain ⟨⟨_,_,_,_,_,_,_⟩,_,hn⟩:=y;subst hn;have:=ZB (E.thn.length);simp only[*,go_sem,seval];exact yR h [0];rintro g ⟨_,_,_⟩ z _ h;simp only[go_sem,seval,Zb]at z;obtain ⟨⟨_,_,_,_,_,_⟩,_,hn⟩:=z;subst hn;have:=ZB (f.length);simp only[*,go_sem,seval];refine yB h (fun _ h=>?_) fun _ h=>?_
 replace h:=Zr h G;replace h:=Zr h t;cases h;exact yD;exact yR h [];rintro e ⟨_,_,_⟩ A _ h;simp only[go_sem,seval,Zb]at A;obtain ⟨⟨_,_,_,_⟩,hn⟩:=A;subst hn;have:=ZB (a.length);simp only[*,go_sem,seval];exact yR h [];replace h:=Zr h t;iterate 3 (cases h;exact yD)
theorem ZoO {r_0:Zg}{n_1:Int}{facts_2:List Zc}{r:List Zq}(h:Zck r_0 n_1 facts_2=some r):Zm prog J0 62 [(true,ZL r_0),(false,[.int .i64 n_1]),(false,[.sl 53 2 (A0 Zs facts_2)])] [(false,[(false,.sl 111 2 (A0 YU r))])]:=by
 refine fnk func62 rfl ?_;unfold Zck at h;simp only[fnS,f62,Zo,go_sem,seval];refine ZPO h fun v1 a h=>Zd (ZeX a)<|yA ?_
 refine yB h (fun _ h=>?_) fun _ h=>?_
 refine ZPO h fun _ b h=>Zd (Zis b)<|yA ?_
 refine yB h (fun _ h=>?_) fun _ h=>?_
 refine ZPO h fun _ c h=>Zd (XM c)<|yA ?_
 refine yB h (fun _ h=>?_) fun _ h=>?_
 obtain ⟨_,h⟩:=Zv h;simp only[*,go_sem,seval];refine ZPO h fun _ d h=>Zd (by have hh:=Zfj d;simp only[*,go_sem]at hh;exact hh) ?_
 iterate 4 (cases h;exact yD)
end
section
theorem Zqu {rules_0:List Zg}{base_1:List Zc}{r:((List Zc)×Bool)}(h:Zbi rules_0 base_1=some r):Zm prog J0 68 [(false,[.sl 76 4 (A0 ZL rules_0)]),(false,[.sl 53 2 (A0 Zs base_1)])] [(false,[(false,.sl 53 2 (A0 Zs r.1))]),(false,[(false,.bool r.2)])]:=by
 refine fnk func68 rfl ?_;unfold Zbi at h;simp only[fnS,f68,Zo,go_sem,seval];refine ZPO h fun v1 a h=>Zd (Zji a)<|yA ?_
 refine yB h (fun _ h=>?_) fun _ h=>?_
 refine ZPO h fun _ b h=>Zd (ZoA b) ?_
 iterate 2 (cases h;exact yD)
theorem ZKv {b:List Zg}{d:List Zc}{r:((List Zc)×Zt×(List XR)×Bool)}(h:ZI6 b d=some r):Zm prog J0 151 [(false,[.sl 76 4 (A0 ZL b)]),(false,[.sl 53 2 (A0 Zs d)])] [(false,[(false,.sl 53 2 (A0 Zs r.1))]),(true,[(false,.int .i64 r.2.1.nodes),(false,.sl 179 3 (A0 ZG r.2.1.reasons))]),(false,[(true,.sl 181 3 (A0 ZfI r.2.2.1))]),(false,[(false,.bool r.2.2.2)])]:=by
 refine fnk func151 rfl ?_;unfold ZI6 at h;simp only[fnS,f151,Zo,go_sem,seval];refine ZPO h fun v1 H h=>Zd (Zjb H)<|yA ?_
 refine yB h (fun _ h=>?_) fun _ h=>?_
 refine Zh h (fun i s st=>match s with|(f,g)=>IV [(0,yM (yW b)),(1,yM (yT d)),(5,.bp 0 0),(8,.p false [.row 1]),(10,.bp 2 0),(11,.p false [.row 4]),(12,yL i)] [.box 140 [.c (.int .i64 0),.nil 179 3],.row 53 2 (A0 Zs v1.1) 2,.box 140 [.c (.int .i64 (v1.1.length:Int)),.row 3],.row 179 3 (A0 ZG f) 2,.row 181 3 (A0 ZfI g) 2] st) [(true,240,1)] [16,96,240,352,272] yF yD ?_ ?_
 rintro _ _ ⟨f,g⟩ ⟨_,_,_⟩ _ k y I h _;simp only[go_sem,seval,Zb]at y;obtain ⟨⟨_,J,_,_,_,_,_⟩,_,_,_,_,_,hn⟩:=y;subst hn;have K:=WF.slotL I J (j:=0) rfl;have:=ZC k;have:=ZE k;have:=Zk (ZD k) K;simp only[*,go_sem,seval];refine ZPO h fun _ L h=>Zd (Zfa L) ?_
 obtain ⟨M,h⟩:=Zv h;try simp only[Nat.reduceLeDiff]at M
 obtain ⟨N,h⟩:=Zv h;try simp only[Nat.reduceLeDiff]at N
 simp only[*,go_sem,seval];exact yR h [0,1,2,229,325];rintro ⟨f,g⟩ ⟨_,_,_⟩ z _ h;simp only[go_sem,seval,Zb]at z;obtain ⟨⟨_,_,_,_,_,_,_⟩,_,_,_,_,_,hn⟩:=z;subst hn;have:=ZB (d.length);simp only[*,go_sem,seval];refine Zh h (fun i s st=>match s with|(l,m)=>IV [(0,yM (yW b)),(5,.bp 0 0),(8,.p false [.row 1]),(10,.bp 2 0),(11,.p false [.row 4]),(13,yL i)] [.box 140 [.c (.int .i64 0),.nil 179 3],.row 53 2 (A0 Zs v1.1) 2,.box 140 [.c (.int .i64 (v1.1.length:Int)),.row 3],.row 179 3 (A0 ZG l) 2,.row 181 3 (A0 ZfI m) 1] st) [(true,4,1)] [0,1,2,3,4] yF yD ?_ ?_
 rintro A O ⟨l,m⟩ ⟨_,_,_⟩ _ e B P h Q;simp only[go_sem,seval,Zb]at B;obtain ⟨⟨R,_,_,_,_,_⟩,_,_,_,_,_,hn⟩:=B;subst hn;have S:=WF.slotL P R (j:=0) rfl;have:=ZC e;have:=ZE e;have:=Zk (ZD e) S;simp only[*,go_sem,seval];obtain ⟨_,T,h⟩:=Za h;refine ZnA (ZfX T)<|yA ?_;refine ZPO h fun o U h=>Zd (Zfj U)<|yA ?_
 refine Zh h (fun i s st=>match s with|(q,t)=>IV [(0,yM (yW b)),(5,.bp 0 0),(8,.p false [.row 1]),(10,.bp 2 0),(11,.p false [.row 4]),(13,yL A),(14,.p false [.row 5]),(15,yL i)] [.box 140 [.c (.int .i64 0),.nil 179 3],.row 53 2 (A0 Zs v1.1) 2,.box 140 [.c (.int .i64 (v1.1.length:Int)),.row 3],.row 179 3 (A0 ZG q) 2,.row 181 3 (A0 ZfI t) 1,.row 111 2 (A0 YU o) 2] st) [] [0,1,2,3,4,165] yF yD ?_ ?_
 rintro V _ ⟨q,t⟩ ⟨_,_,_⟩ _ u C W h X;simp only[go_sem,seval,Zb]at C;obtain ⟨⟨_,_,_,_,_,_,_,_⟩,_,_,_,_,_,Y,hn⟩:=C;subst hn;have Z:=WF.rowL W Y;have:=ZC u;have:=ZE u;have:=Zk (ZD u) Z;simp only[*,go_sem,seval];refine Zh h (fun i s st=>match s with|(v,w)=>IV [(0,yM (yW b)),(5,.bp 0 0),(8,.p false [.row 1]),(10,.bp 2 0),(11,.p false [.row 4]),(13,yL A),(14,.p false [.row 5]),(15,yL V),(16,yL i)] [.box 140 [.c (.int .i64 0),.nil 179 3],.row 53 2 (A0 Zs v1.1) 2,.box 140 [.c (.int .i64 (v1.1.length:Int)),.row 3],.row 179 3 (A0 ZG v) 2,.row 181 3 (A0 ZfI w) 1,.row 111 2 (A0 YU o) 2] st) [] [0,1,2,3,4,5] yF yD ?_ ?_
 rintro _ _ ⟨v,w⟩ ⟨_,_,_⟩ _ x D aa h ab;simp only[go_sem,seval,Zb]at D;obtain ⟨⟨ac,_,_,_,_,_,_,_,_⟩,_,_,_,_,_,_,hn⟩:=D;subst hn;have ad:=WF.elL (WF.slotD aa ac (j:=0) rfl) e (j:=3) rfl;have:=ZC x;have:=ZE x;have:=Zk (ZD x) ad;simp only[*,go_sem,seval];refine ZPO h fun _ ae h=>Zd (ZnO ae)<|yA ?_
 refine ZPO h fun _ af h=>Zd (ZqY af)<|yA ?_
 refine yB h (fun _ h=>?_) fun _ h=>?_
 exact yR h [0,1,2,3,4,5];refine yB h (fun _ h=>?_) fun _ h=>?_
 replace h:=Zr h ab;replace h:=Zr h X;replace h:=Zr h Q;cases h;exact yD;obtain ⟨ag,h⟩:=Zv h;try simp only[Nat.reduceLeDiff]at ag
 obtain ⟨ah,h⟩:=Zv h;try simp only[Nat.reduceLeDiff]at ah
 simp only[*,go_sem,seval];exact yR h [0,1,2,550,790,5];rintro ⟨v,w⟩ ⟨_,_,_⟩ E _ h;simp only[go_sem,seval,Zb]at E;obtain ⟨⟨_,_,_,_,_,_,_,_,_⟩,_,_,_,_,_,_,hn⟩:=E;subst hn;have:=ZB (O.thn.length);simp only[*,go_sem,seval];exact yR h [0,1,2,3,4,5];rintro ⟨q,t⟩ ⟨_,_,_⟩ F _ h;simp only[go_sem,seval,Zb]at F;obtain ⟨⟨_,_,_,_,_,_,_,_⟩,_,_,_,_,_,_,hn⟩:=F;subst hn;have:=ZB (o.length);simp only[*,go_sem,seval];exact yR h [0,1,2,3,4];rintro ⟨l,m⟩ ⟨_,_,_⟩ G _ h;simp only[go_sem,seval,Zb]at G;obtain ⟨⟨_,_,_,_,_,_⟩,_,_,_,_,_,hn⟩:=G;subst hn;have:=ZB (b.length);iterate 2 (cases h;exact yD)
theorem Zmr {b:List Zg}{d:List Zc}{r:((List Zc)×Zt×(List XR)×Bool)}(h:XZ b d=some r):Zm prog J0 151 [(false,[.sl 76 4 (A0 ZL b)]),(false,[.sl 53 2 (A0 Zs d)])] [(false,[(false,.sl 53 2 (A0 Zs r.1))]),(true,[(false,.int .i64 r.2.1.nodes),(false,.sl 179 3 (A0 ZG r.2.1.reasons))]),(false,[(false,.any)]),(false,[(false,.bool r.2.2.2)])]:=by
 refine fnk func151 rfl ?_;unfold XZ at h;simp only[fnS,f151,Zo,go_sem,seval];refine ZPO h fun v1 H h=>Zd (Zjb H)<|yA ?_
 refine yB h (fun _ h=>?_) fun _ h=>?_
 refine Zh h (fun i s st=>match s with|(f,g)=>IV [(0,yM (yW b)),(1,yM (yT d)),(5,.bp 0 0),(8,.p false [.row 1]),(10,.bp 2 0),(11,.p false [.row 4]),(12,yL i)] [.box 140 [.c (.int .i64 0),.nil 179 3],.row 53 2 (A0 Zs v1.1) 2,.box 140 [.c (.int .i64 (v1.1.length:Int)),.row 3],.row 179 3 (A0 ZG f) 2,.row 181 3 (A0 ZfI g) 2] st) [(true,240,1)] [16,96,240,352,272] yF yD ?_ ?_
 rintro _ _ ⟨f,g⟩ ⟨_,_,_⟩ _ k y I h _;simp only[go_sem,seval,Zb]at y;obtain ⟨⟨_,J,_,_,_,_,_⟩,_,_,_,_,_,hn⟩:=y;subst hn;have K:=WF.slotL I J (j:=0) rfl;have:=ZC k;have:=ZE k;have:=Zk (ZD k) K;simp only[*,go_sem,seval];refine ZPO h fun _ L h=>Zd (Zfa L) ?_
 obtain ⟨M,h⟩:=Zv h;try simp only[Nat.reduceLeDiff]at M
 obtain ⟨N,h⟩:=Zv h;try simp only[Nat.reduceLeDiff]at N
 simp only[*,go_sem,seval];exact yR h [0,1,2,229,325];rintro ⟨f,g⟩ ⟨_,_,_⟩ z _ h;simp only[go_sem,seval,Zb]at z;obtain ⟨⟨_,_,_,_,_,_,_⟩,_,_,_,_,_,hn⟩:=z;subst hn;have:=ZB (d.length);simp only[*,go_sem,seval];refine Zh h (fun i s st=>match s with|(l,m)=>IV [(0,yM (yW b)),(5,.bp 0 0),(8,.p false [.row 1]),(10,.bp 2 0),(11,.p false [.row 4]),(13,yL i)] [.box 140 [.c (.int .i64 0),.nil 179 3],.row 53 2 (A0 Zs v1.1) 2,.box 140 [.c (.int .i64 (v1.1.length:Int)),.row 3],.row 179 3 (A0 ZG l) 2,.row 181 3 (A0 ZfI m) 1] st) [(true,4,1)] [0,1,2,3,4] yF yD ?_ ?_
 rintro A O ⟨l,m⟩ ⟨_,_,_⟩ _ e B P h Q;simp only[go_sem,seval,Zb]at B;obtain ⟨⟨R,_,_,_,_,_⟩,_,_,_,_,_,hn⟩:=B;subst hn;have S:=WF.slotL P R (j:=0) rfl;have:=ZC e;have:=ZE e;have:=Zk (ZD e) S;simp only[*,go_sem,seval];obtain ⟨_,T,h⟩:=Za h;refine ZnA (ZfX T)<|yA ?_;refine ZPO h fun o U h=>Zd (Zfj U)<|yA ?_
 refine Zh h (fun i s st=>match s with|(q,t)=>IV [(0,yM (yW b)),(5,.bp 0 0),(8,.p false [.row 1]),(10,.bp 2 0),(11,.p false [.row 4]),(13,yL A),(14,.p false [.row 5]),(15,yL i)] [.box 140 [.c (.int .i64 0),.nil 179 3],.row 53 2 (A0 Zs v1.1) 2,.box 140 [.c (.int .i64 (v1.1.length:Int)),.row 3],.row 179 3 (A0 ZG q) 2,.row 181 3 (A0 ZfI t) 1,.row 111 2 (A0 YU o) 2] st) [] [0,1,2,3,4,165] yF yD ?_ ?_
 rintro V _ ⟨q,t⟩ ⟨_,_,_⟩ _ u C W h X;simp only[go_sem,seval,Zb]at C;obtain ⟨⟨_,_,_,_,_,_,_,_⟩,_,_,_,_,_,Y,hn⟩:=C;subst hn;have Z:=WF.rowL W Y;have:=ZC u;have:=ZE u;have:=Zk (ZD u) Z;simp only[*,go_sem,seval];refine Zh h (fun i s st=>match s with|(v,w)=>IV [(0,yM (yW b)),(5,.bp 0 0),(8,.p false [.row 1]),(10,.bp 2 0),(11,.p false [.row 4]),(13,yL A),(14,.p false [.row 5]),(15,yL V),(16,yL i)] [.box 140 [.c (.int .i64 0),.nil 179 3],.row 53 2 (A0 Zs v1.1) 2,.box 140 [.c (.int .i64 (v1.1.length:Int)),.row 3],.row 179 3 (A0 ZG v) 2,.row 181 3 (A0 ZfI w) 1,.row 111 2 (A0 YU o) 2] st) [] [0,1,2,3,4,5] yF yD ?_ ?_
 rintro _ _ ⟨v,w⟩ ⟨_,_,_⟩ _ x D aa h ab;simp only[go_sem,seval,Zb]at D;obtain ⟨⟨ac,_,_,_,_,_,_,_,_⟩,_,_,_,_,_,_,hn⟩:=D;subst hn;have ad:=WF.elL (WF.slotD aa ac (j:=0) rfl) e (j:=3) rfl;have:=ZC x;have:=ZE x;have:=Zk (ZD x) ad;simp only[*,go_sem,seval];refine ZPO h fun _ ae h=>Zd (ZnO ae)<|yA ?_
 refine ZPO h fun _ af h=>Zd (ZqY af)<|yA ?_
 refine yB h (fun _ h=>?_) fun _ h=>?_
 exact yR h [0,1,2,3,4,5];refine yB h (fun _ h=>?_) fun _ h=>?_
 replace h:=Zr h ab;replace h:=Zr h X;replace h:=Zr h Q;cases h;exact yD;obtain ⟨ag,h⟩:=Zv h;try simp only[Nat.reduceLeDiff]at ag
 obtain ⟨ah,h⟩:=Zv h;try simp only[Nat.reduceLeDiff]at ah
 simp only[*,go_sem,seval];exact yR h [0,1,2,550,790,5];rintro ⟨v,w⟩ ⟨_,_,_⟩ E _ h;simp only[go_sem,seval,Zb]at E;obtain ⟨⟨_,_,_,_,_,_,_,_,_⟩,_,_,_,_,_,_,hn⟩:=E;subst hn;have:=ZB (O.thn.length);simp only[*,go_sem,seval];exact yR h [0,1,2,3,4,5];rintro ⟨q,t⟩ ⟨_,_,_⟩ F _ h;simp only[go_sem,seval,Zb]at F;obtain ⟨⟨_,_,_,_,_,_,_,_⟩,_,_,_,_,_,_,hn⟩:=F;subst hn;have:=ZB (o.length);simp only[*,go_sem,seval];exact yR h [0,1,2,3,4];rintro ⟨l,m⟩ ⟨_,_,_⟩ G _ h;simp only[go_sem,seval,Zb]at G;obtain ⟨⟨_,_,_,_,_,_⟩,_,_,_,_,_,hn⟩:=G;subst hn;have:=ZB (b.length);iterate 2 (cases h;exact yD)
theorem ZIw {a:Zg}{d:List Zc}{e:List Zi}{r:Int}(h:ZHs a d e=some r):Zm prog J0 82 [(true,ZL a),(false,[.sl 53 2 (A0 Zs d)]),(false,[.sl 162 2 (A0 ZR e)])] [(false,[(false,.int .i64 r)])]:=by
 refine fnk func82 rfl ?_;unfold ZHs at h;simp only[fnS,f82,Zo,go_sem,seval];refine Xj h (fun s st=>match s with|(k,f)=>IV [(1,yM (yT d)),(2,yM (yX e)),(3,.bp 0 0),(7,yM (.int .i64 k)),(8,yM (.int .i64 f))] [zD 76 (ZL a)] st) [] [0] yF yD ?_
 rintro ⟨k,f⟩ ⟨_,_,_⟩ _ l _ h t;simp only[go_sem,seval,Zb]at l;obtain ⟨⟨_,_,_,_,_⟩,_,hn⟩:=l;subst hn;simp only[*,go_sem,seval];refine yB h (fun _ h=>?_) fun _ h=>?_
 refine ZPO h fun m u h=>Zd (ZoO u)<|yA ?_
 refine Zh h (fun i g st=>IV [(1,yM (yT d)),(2,yM (yX e)),(3,.bp 0 0),(7,yM (.int .i64 g)),(8,yM (.int .i64 f)),(9,.p false [.row 1]),(10,yL i)] [zD 76 (ZL a),.row 111 2 (A0 YU m) 2] st) [] [0,129] yF yD ?_ ?_
 rintro _ _ g ⟨_,_,_⟩ _ j o v h _;simp only[go_sem,seval,Zb]at o;obtain ⟨⟨_,_,_,_,_,_,_⟩,_,w,hn⟩:=o;subst hn;have x:=WF.rowL v w;have:=ZC j;have:=ZE j;have:=Zk (ZD j) x;simp only[*,go_sem,seval];refine ZPO h fun _ y h=>Zd (ZH9 y)<|yA ?_
 refine yB h (fun _ h=>?_) fun _ h=>?_
 exact yR h [0,1];exact yR h [0,1];rintro g ⟨_,_,_⟩ q _ h;simp only[go_sem,seval,Zb]at q;obtain ⟨⟨_,_,_,_,_,_,_⟩,_,_,hn⟩:=q;subst hn;have:=ZB (m.length);simp only[*,go_sem,seval];exact yR h [0];replace h:=Zr h t;cases h;exact yD
end
section
open Go.RowKit
theorem ZIA : prog.globalNamed "loop.example/g03015/impl.testSigns" = some 0 := by kernel_rfl
theorem ZIP {w:World}(h:J0 w):w.cell? ⟨0,0,none⟩=some (.string ⟨#[32,61,32]⟩)/\w.cell? ⟨0,1,none⟩=some (.string ⟨#[32,33,61,32]⟩)/\w.cell? ⟨0,2,none⟩=some (.string ⟨#[32,60,32]⟩):=by
 obtain ⟨cs, h1, h2⟩ := h ("loop.example/g03015/impl.testSigns", fun cs => cs = #[.string ⟨#[32, 61, 32]⟩, .string ⟨#[32, 33, 61, 32]⟩, .string ⟨#[32, 60, 32]⟩]) (by simp [Zy6])
 rw [h2]at h1
 exact ⟨World.var?_cell ZIA h1 0,World.var?_cell ZIA h1 1,World.var?_cell ZIA h1 2⟩
theorem ZIN {x:Zl}{r:ByteArray}(h:ZG3 x=some r) (w:World) (cs:List Value) (L:List Nat) (hj:J0 w) (hx:YL.rep w cs x L):
  Calls prog 88 #[.agg cs.toArray] w (fun e w'=>e=.returned (.string r)/\r.size<=9223372036854775807/\Below w.heap.size w w'):=by
 unfold ZG3 at h;obtain ⟨v1,hv,h⟩:=A7.1 h;have HX:=yS hx;have HV:Hid (Zeh x=some v1):=hv;have HJ:=yS hj;have HH:=yS h;obtain ⟨Ap,cp,Lp,e1,e2,t0,t1,t2,np,mp,sp⟩:=hx;subst e1;have HP:Hid (Qq.rep w [.string x.pattern.rel,.slice Ap x.pattern.args.length cp] x.pattern Lp):=⟨Ap,cp,Lp,rfl,rfl,t0,np,mp,sp⟩;clear h hv hj e2 t0 t1 t2 np mp sp;have BA:Hid (∀o,Below w.heap.size w (w.alloc o)):=fun o=>(Below.refl _ w).alloc (A4 _) o
 go_enter func88,ntmps88;go_wp2_with fail
 refine (Zm.givesB (ZhF HV.out) (Qt hJ0 HJ.out (BA.out _)) (vs:=[_]) ⟨Zh9 Zkf (YL.keep HX.out (Zy (BA.out _) (fun y m=>YL.lt HX.out y m))),trivial⟩).mono ?_
 rintro e w2 ⟨rfl,b⟩;have W2:Hid (Below w.heap.size w w2):=(BA.out _).trans (b.mono (BA.out _).size);have K2:Hid (Blk w2 w.heap.size 80 #[.int .i64 x.kind,.string x.pattern.rel,.slice Ap x.pattern.args.length cp,.string x.left,.string x.right]):=Blk.later (Blk.new _ _ _) b;clear b;cases v1 with
 |false=>
  obtain rfl:(⟨#[]⟩:ByteArray)=r:=A3 HH.out;go_wp2;go_ret;exact ⟨rfl,yF,W2.out⟩
 |true=>
  have h:=HH.out;rw [if_pos rfl]at h;have k0:w2.cell? ⟨w.heap.size,0,none⟩=some (.int .i64 x.kind):=K2.out.at (i:=0) rfl;have k1:w2.cell? ⟨w.heap.size,1,none⟩=some (.string x.pattern.rel):=K2.out.at (i:=1) rfl;have k2:w2.cell? ⟨w.heap.size,2,none⟩=some (.slice Ap x.pattern.args.length cp):=K2.out.at (i:=2) rfl;have k3:w2.cell? ⟨w.heap.size,3,none⟩=some (.string x.left):=K2.out.at (i:=3) rfl;have k4:w2.cell? ⟨w.heap.size,4,none⟩=some (.string x.right):=K2.out.at (i:=4) rfl;have HPT:Hid (ZGZ x.pattern=some (ZH1 x.pattern)):=ZHe _;have J2:Hid (J0 w2):=Qt hJ0 HJ.out W2.out;have P2:Hid (Qq.rep w2 [.string x.pattern.rel,.slice Ap x.pattern.args.length cp] x.pattern Lp):=Qq.keep HP.out (Zy W2.out (fun y m=>Qq.lt HP.out y m))
  clear HH;by_cases h1:x.kind=1
  .rw [if_pos h1,HPT.out]at h;obtain rfl:=A3 h;clear h;go_wp2_with fail
   refine (Zm.givesT (ZHc HPT.out) J2.out (vs:=[_]) ⟨Zh9 ZmV P2.out,trivial⟩).mono ?_;rintro e w3 ⟨rfl,a⟩;have W3:Hid (Below w.heap.size w w3):=W2.out.trans (a.mono W2.out.size);clear a k0 k1 k2 k3 k4;go_wp2;go_ret;exact ⟨rfl,A5 (ZG4 _) yE,W3.out⟩
  .rw [if_neg h1]at h;by_cases h2:x.kind=2
   .rw [if_pos h2,HPT.out,A9,if_pos (A5 (ZG4 _) yE)]at h;have HR:Hid ((⟨#[110,111,116,32]⟩:ByteArray)++ZH1 x.pattern=r):=A3 h;clear h;go_wp2_with fail
    refine (Zm.givesT (ZHc HPT.out) J2.out (vs:=[_]) ⟨Zh9 ZmV P2.out,trivial⟩).mono ?_;rintro e w3 ⟨rfl,a⟩;have W3:Hid (Below w.heap.size w w3):=W2.out.trans (a.mono W2.out.size);clear a k0 k1 k2 k3 k4;go_wp2;all_goals try (exfalso;have:=ZG4 x.pattern;omega)
    go_ret;refine ⟨congrArg (fun s=>Ending.returned (.string s)) HR.out,?_,W3.out⟩
    rw [<-HR.out,ZyE];have:=ZG4 x.pattern;have e0:(⟨#[110,111,116,32]⟩:ByteArray).size=4:=rfl;omega
   .rw [if_neg h2]at h;split at h
    .rename_i hc;obtain ⟨c1,c2,c3,c4⟩:=hc;have HR:Hid ((x.left++ZHL x.kind)++x.right=r):=A3 h;have HS:Hid (x.left.size<=1048576/\x.right.size<=1048576):=⟨c3,c4⟩;obtain ⟨s0,s1,s2⟩:=ZIP J2.out;have hk:x.kind=3\/x.kind=4\/x.kind=5:=by omega
     clear h c1 c2 c3 c4 h1 h2;have fin:∀s:ByteArray,s.size<=4->ZHL x.kind=s->(Value.string ((x.left++s)++x.right)=.string r)/\r.size<=9223372036854775807:=by
      intro s hs e;rw [<-HR.out,e];refine ⟨rfl,?_⟩;rw [ZyE,ZyE];have:=HS.out;omega
     have FIN:=yS fin;clear fin;rcases hk with hk|hk|hk
     .have HK:=yS hk;rw [hk]at k0;clear hk;have z0:IntKind.i64.wrap 0=0:=rfl;have z1:¬9223372036854775807<x.left.size+3:=by have hs:=HS.out;omega
      have z2:¬9223372036854775807<x.left.size+3+x.right.size:=by have hs:=HS.out;omega
      go_wp2;go_quiet (fail)
      go_wp2;go_ret;obtain ⟨f1,f2⟩:=FIN.out ⟨#[32,61,32]⟩ yF (by rw [HK.out];rfl)
      exact ⟨congrArg Ending.returned f1,f2,Zrz W2.out nq⟩
     .have HK:=yS hk;rw [hk]at k0;clear hk;have z0:IntKind.i64.wrap 1=1:=rfl;have z1:¬9223372036854775807<x.left.size+4:=by have hs:=HS.out;omega
      have z2:¬9223372036854775807<x.left.size+4+x.right.size:=by have hs:=HS.out;omega
      go_wp2;go_quiet (fail)
      go_wp2;go_ret;obtain ⟨f1,f2⟩:=FIN.out ⟨#[32,33,61,32]⟩ yF (by rw [HK.out];rfl)
      exact ⟨congrArg Ending.returned f1,f2,Zrz W2.out nq⟩
     .have HK:=yS hk;rw [hk]at k0;clear hk;have z0:IntKind.i64.wrap 2=2:=rfl;have z1:¬9223372036854775807<x.left.size+3:=by have hs:=HS.out;omega
      have z2:¬9223372036854775807<x.left.size+3+x.right.size:=by have hs:=HS.out;omega
      go_wp2;go_quiet (fail)
      go_wp2;go_ret;obtain ⟨f1,f2⟩:=FIN.out ⟨#[32,60,32]⟩ yF (by rw [HK.out];rfl)
      exact ⟨congrArg Ending.returned f1,f2,Zrz W2.out nq⟩
    .cases h
theorem ZHO {a:Zl}{r:ByteArray}(h:ZG3 a=some r):Zm prog J0 88 [(true,ZJ a)] [(false,[(false,.str r)])]:=by
 refine ⟨⟨f88,func88,yO,yO⟩,fun w z vs hj hz ha=>?_⟩
 cases vs with
 |nil=>exact ha.elim
 |cons v vs=>
  obtain ⟨ha,hr⟩:=ha;cases vs with
  |cons _ _=>exact hr.elim
  |nil=>
   rcases ha with ⟨_,cs,L,rfl,hR,_⟩|⟨hf,_⟩
   .refine (ZIN h w cs L hj (Zkf.of hR)).mono ?_;rintro e w' ⟨rfl,hs,hb⟩;exact ⟨_,z,rfl,Ztg ⟨⟨rfl,rfl,hs⟩,rfl⟩,fun b h=>h,hb⟩
   .simp at hf
end
section
theorem ZIq {append_0:List Zg}{String_1:List Zc}{a_2:Zc}{r:((List Zwt)×Bool)}(h:ZHk append_0 String_1 a_2=some r):Zm prog J0 29 [(false,[.sl 76 4 (A0 ZL append_0)]),(false,[.sl 53 2 (A0 Zs String_1)]),(true,Zs a_2)] [(false,[(false,.sl 73 3 (A0 ZzG r.1))]),(false,[(false,.bool r.2)])]:=by
 refine fnk func29 rfl ?_;unfold ZHk at h;simp only[fnS,f29,Zo,go_sem,seval];refine ZPO h fun v1 o h=>Zd (Zqu o)<|yA ?_
 refine yB h (fun _ h=>?_) fun _ h=>?_
 refine ZPO h fun _ q h=>Zd (Zlb q)<|yA ?_
 refine yB h (fun _ h=>?_) fun _ h=>?_
 refine ZPO h fun _ t h=>Zd (ZcD t)<|yA ?_
 refine yB h (fun _ h=>?_) fun _ h=>?_
 cases h;exact yD;refine Zh h (fun i b st=>IV [(5,.bp 0 0),(8,.p false [.row 1]),(10,.p false [.row 2]),(38,yM (yW append_0)),(39,yL append_0.length),(40,yL i)] [zD 53 (Zs a_2),.row 53 2 (A0 Zs v1.1) 2,.row 73 3 (A0 ZzG b) 2] st) [(false,10,0)] [0,80,448] yF yD ?_ ?_
 rintro u a b ⟨_,_,_⟩ _ d g v h _;simp only[go_sem,seval,Zb]at g;obtain ⟨⟨_,_,_,w,_,_⟩,_,_,_,hn⟩:=g;subst hn;have x:=WF.slotL v w (j:=0) rfl;have:=ZC d;have:=ZE d;have:=Zk (ZD d) x;simp only[*,go_sem,seval];refine Zh h (fun i e st=>IV [(5,.bp 0 0),(8,.p false [.row 1]),(10,.p false [.row 2]),(12,.bp 3 0),(38,yM (yW append_0)),(39,yL append_0.length),(40,yL u),(45,yM (yZ a.thn)),(46,yL a.thn.length),(47,yL i)] [zD 53 (Zs a_2),.row 53 2 (A0 Zs v1.1) 2,.row 73 3 (A0 ZzG e) 2,zD 76 (ZL a)] st) [] [0,1,2,51] yF yD ?_ ?_
 rintro _ _ e ⟨_,_,_⟩ _ f k y h _;simp only[go_sem,seval,Zb]at k;obtain ⟨⟨_,_,_,_,_,_,_,z,_,_⟩,_,_,_,_,hn⟩:=k;subst hn;have A:=WF.slotL y z (j:=0) rfl;have:=ZC f;have:=ZE f;have:=Zk (ZD f) A;simp only[*,go_sem,seval];refine ZPO h fun _ B h=>Zd (ZbH B)<|yA ?_
 refine yB h (fun _ h=>?_) fun _ h=>?_
 refine ZPO h fun _ C h=>Zd (ZH0 C)<|yA ?_
 refine yB h (fun _ h=>?_) fun _ h=>?_
 obtain ⟨_,_,_,_,h⟩:=ZcM h;simp only[*,go_sem,seval];refine ZPO h fun _ D h=>Zd (ZHO D) ?_
 obtain ⟨E,h⟩:=Zv h;try simp only[Nat.reduceLeDiff]at E
 simp only[*,go_sem,seval];exact yR h [0,1,692,3];obtain ⟨F,h⟩:=Zv h;try simp only[Nat.reduceLeDiff]at F
 simp only[*,go_sem,seval];exact yR h [0,1,564,3];exact yR h [0,1,2,3];rintro e ⟨_,_,_⟩ l _ h;simp only[go_sem,seval,Zb]at l;obtain ⟨⟨_,_,_,_,_,_,_,_,_,_⟩,_,_,_,_,hn⟩:=l;subst hn;have:=ZB (a.thn.length);simp only[*,go_sem,seval];exact yR h [0,1,2];rintro b ⟨_,_,_⟩ m _ h;simp only[go_sem,seval,Zb]at m;obtain ⟨⟨_,_,_,_,_,_⟩,_,_,_,hn⟩:=m;subst hn;have:=ZB (append_0.length);iterate 3 (cases h;exact yD)
theorem ZiS {rules_0:List Zg}{base_1:List Zc}{r:((List Zc)×Zt×Bool)}(h:QX rules_0 base_1=some r):Zm prog J0 102 [(false,[.sl 76 4 (A0 ZL rules_0)]),(false,[.sl 53 2 (A0 Zs base_1)])] [(false,[(false,.sl 53 2 (A0 Zs r.1))]),(true,[(false,.int .i64 r.2.1.nodes),(false,.sl 179 3 (A0 ZG r.2.1.reasons))]),(false,[(false,.bool r.2.2)])]:=by
 refine fnk func102 rfl ?_;unfold QX at h;simp only[fnS,f102,Zo,go_sem,seval];refine ZPO h fun v1 a h=>Zd (Zmr a)<|yA ?_
 refine yB h (fun _ h=>?_) fun _ h=>?_
 iterate 2 (cases h;exact yD)
theorem ZLt {append_0:List Zg}{b:List Zc}{u:Zc}{r:((List ZzC)×Bool)}(h:ZJf append_0 b u=some r):Zm prog J0 90 [(false,[.sl 76 4 (A0 ZL append_0)]),(false,[.sl 53 2 (A0 Zs b)]),(true,Zs u)] [(false,[(false,.sl 88 4 (A0 ZF5 r.1))]),(false,[(false,.bool r.2)])]:=by
 refine ZMt func90 rfl ?_;unfold ZJf at h;simp only[fnS,f90,Zo,go_sem,seval];obtain ⟨v1,e1,h⟩:=Za h;refine ZnA (ZKv e1) ?_;simp only[*,go_sem,seval];refine Ze h (fun c2 h=>?_) (fun c2 h=>?_)<;>try simp only[*,go_sem,seval]
 .refine ZPO h fun v2 e3 h=>Zd (Zfa e3) ?_
  simp only[*,go_sem,seval];refine ZPO h fun v3 e4 h=>Zd (ZKe e4) ?_
  simp only[*,go_sem,seval];refine Zh h (fun i a st=>IV [(8,.p false [.row 0]),(9,.p false [.row 1]),(10,.bp 2 0),(11,.p false [.c (.sl 181 3 (A0 ZfI v1.2.2.1))]),(13,.p false [.row 4]),(14,.p false [.c (.int .i64 (i:Int))])] [.row 88 4 (A0 ZF5 a) 2,.row 53 2 (A0 Zs v1.1) 2,.box 140 [.c (.int .i64 v1.2.1.nodes),.row 3],.row 179 3 (A0 ZG v1.2.1.reasons) 2,.row 3 1 (A0 ZO v3) 2] st) [] [48,112,208,113,384] yF ?_ ?_ ?_
  .simp only[*,go_sem,seval]
  .rintro z A a ⟨sl,ob,n⟩ y5 o v B h hy5;simp only[go_sem,seval,Zb]at v;obtain ⟨⟨g9_8,g9_9,g9_10,g9_11,g9_13,g9_14⟩,og9_0,og9_1,og9_2,og9_3,q,hn⟩:=v;subst hn;have t:=WF.rowL B q;have q10:=ZC o;have q11:=ZE o;have q12:=Zk (ZD o) t;obtain ⟨p13,h⟩:=Zv h;obtain ⟨x40,e14,h⟩:=Za h;obtain ⟨p15,h⟩:=Zv h;obtain ⟨x41,e16,h⟩:=Za h;simp only[*,go_sem,seval];refine ZPO h fun w C h=>Zd (Xr C) ?_
   obtain ⟨x,a18,a19,D,h⟩:=ZcM h;simp only[*,go_sem,seval];refine Zh h (fun i d st=>IV [(8,.p false [.row 0]),(9,.p false [.row 1]),(10,.bp 2 0),(11,.p false [.c (.sl 181 3 (A0 ZfI v1.2.2.1))]),(13,.p false [.row 4]),(14,.p false [.c (.int .i64 (z:Int))]),(15,.p false [.c (.int .i64 A)]),(16,.bp 5 0),(17,.p false [.c (.int .i64 (i:Int))])] [.row 88 4 (A0 ZF5 a) 2,.row 53 2 (A0 Zs v1.1) 2,.box 140 [.c (.int .i64 v1.2.1.nodes),.row 3],.row 179 3 (A0 ZG v1.2.1.reasons) 2,.row 3 1 (A0 ZO v3) 2,.box 88 [.c (.str w.rel),.row 6,.c (.str x.rule),.row 7],.row 9 1 (A0 ZA w.args) 2,.row 3 1 (A0 ZO d) 2] st) [(true,405,3)] [0,1,2,3,4,405,293,453] yF ?_ ?_ ?_
   .simp only[*,go_sem,seval]
   .rintro i52 x53 d ⟨sl,ob,n⟩ y21 e k y h hy21;simp only[go_sem,seval,Zb]at k;obtain ⟨⟨g25_8,g25_9,g25_10,f,g25_13,g25_14,g25_15,g25_16,g25_17⟩,og25_0,og25_1,og25_2,og25_3,og25_4,og25_5,og25_6,og25_7,hn⟩:=k;subst hn;have g:=WF.elL (WF.slotD y f (j:=0) rfl) D (j:=1) rfl;have q26:=ZC e;have q27:=ZE e;have q28:=Zk (ZD e) g;simp only[*,go_sem,seval];refine ZPO h fun v54 E h=>Zd (ZKV E) ?_
    obtain ⟨F,h⟩:=Zv h;try simp only[Nat.reduceLeDiff]at F
    simp only[*,go_sem,seval];refine ⟨_,[],[0,1,2,3,4,5,6,376],(A3 h).symm,yF,?_⟩;simp only[*,go_sem,seval]
   .rintro d ⟨sl,ob,n⟩ l hW32 h;simp only[go_sem,seval,Zb]at l;obtain ⟨⟨g33_8,g33_9,g33_10,g33_11,g33_13,g33_14,g33_15,g33_16,g33_17⟩,og33_0,og33_1,og33_2,og33_3,og33_4,og33_5,og33_6,og33_7,hn⟩:=l;subst hn;have q34:=ZB (x.token.facts.length);obtain ⟨G,h⟩:=Zv h;try simp only[Nat.reduceLeDiff]at G
    simp only[*,go_sem,seval];refine ⟨_,[],[200,1,2,3,4],(A3 h).symm,yF,?_⟩;simp only[*,go_sem,seval]
  .rintro a ⟨sl,ob,n⟩ m hW37 h;simp only[go_sem,seval,Zb]at m;obtain ⟨⟨g38_8,g38_9,g38_10,g38_11,g38_13,g38_14⟩,og38_0,og38_1,og38_2,og38_3,og38_4,hn⟩:=m;subst hn;have q39:=ZB (v3.length);obtain rfl:=A3 h;simp only[*,go_sem,seval]
 .obtain rfl:=A3 h;simp only[*,go_sem,seval]
end
section
theorem ZKn {append_0:List Zg}{String_1:List Zc}{a_2:Zc}{r:List ByteArray}(h:ZI0 append_0 String_1 a_2=some r):Zm prog J0 36 [(false,[.sl 76 4 (A0 ZL append_0)]),(false,[.sl 53 2 (A0 Zs String_1)]),(true,Zs a_2)] [(false,[(false,.sl 9 1 (A0 ZA r))])]:=by
 refine fnk func36 rfl ?_;unfold ZI0 at h;have m:ZbS ⟨#[110,111,32,114,117,108,101]⟩=true:=by decide
 have o:ZbS ⟨#[110,111,58,32]⟩=true:=by decide
 have q:ZbS ⟨#[58,32]⟩=true:=by decide
 simp only[fnS,f36,Zo,go_sem,seval,m,o,q];refine ZPO h fun v1 t h=>Zd (ZLi t)<|yA ?_
 refine yB h (fun _ h=>?_) fun _ h=>?_
 refine Zh h (fun i a st=>IV [(7,.p false [.row 0]),(24,.p false [.row 1]),(25,yL v1.1.length),(26,yL i)] [.row 9 1 (A0 ZA a) 2,.row 88 4 (A0 ZF5 v1.1) 2] st) [(false,7,0)] [256,96] yF yD ?_ ?_
 rintro _ _ a ⟨_,_,_⟩ _ b g u h _;simp only[go_sem,seval,Zb]at g;obtain ⟨⟨_,_,_,_⟩,_,v,hn⟩:=g;subst hn;have w:=WF.rowL u v;have:=ZC b;have:=ZE b;have:=Zk (ZD b) w;simp only[*,go_sem,seval];refine ZPO h fun _ x h=>Zd (Zmm x) ?_
 obtain ⟨y,h⟩:=Zv h;simp only[go_sem]at y;simp only[*,go_sem,seval];refine ZPO h fun _ z h=>Zd (ZKW z) ?_
 obtain ⟨A,h⟩:=Zv h;simp only[go_sem]at A;obtain ⟨B,h⟩:=Zv h;try simp only[Nat.reduceLeDiff]at B
 simp only[*,go_sem,seval];exact yR h [242,1];rintro a ⟨_,_,_⟩ j _ h;simp only[go_sem,seval,Zb]at j;obtain ⟨⟨_,_,_,_⟩,_,_,hn⟩:=j;subst hn;have:=ZB (v1.1.length);cases h;exact yD;refine ZPO h fun d C h=>Zd (ZIq C)<|yA ?_
 iterate 2 refine yB h (fun _ h=>?_) fun _ h=>?_
 cases h;exact yD;refine Zh h (fun i e st=>IV [(7,.p false [.row 0]),(55,.p false [.row 1]),(56,yL d.1.length),(57,yL i)] [.row 9 1 (A0 ZA e) 2,.row 73 3 (A0 ZzG d.1) 2] st) [(false,7,0)] [480,256] yF yD ?_ ?_
 rintro _ _ e ⟨_,_,_⟩ _ f k D h _;simp only[go_sem,seval,Zb]at k;obtain ⟨⟨_,_,_,_⟩,_,E,hn⟩:=k;subst hn;have F:=WF.rowL D E;have:=ZC f;have:=ZE f;have:=Zk (ZD f) F;simp only[*,go_sem,seval];refine ZPO h fun _ G h=>Zd (ZKO G) ?_
 obtain ⟨H,h⟩:=Zv h;simp only[go_sem]at H;obtain ⟨I,h⟩:=Zv h;try simp only[Nat.reduceLeDiff]at I
 simp only[*,go_sem,seval];exact yR h [162,1];rintro e ⟨_,_,_⟩ l _ h;simp only[go_sem,seval,Zb]at l;obtain ⟨⟨_,_,_,_⟩,_,_,hn⟩:=l;subst hn;have:=ZB (d.1.length);iterate 2 (cases h;exact yD)
theorem Zqj {rules_0:List Zg}{base_1:List Zc}{r:((List Zc)×Bool)}(h:ZfH rules_0 base_1=some r):Zm prog J0 42 [(false,[.sl 76 4 (A0 ZL rules_0)]),(false,[.sl 53 2 (A0 Zs base_1)])] [(false,[(false,.sl 53 2 (A0 Zs r.1))]),(false,[(false,.bool r.2)])]:=by
 refine fnk func42 rfl ?_;unfold ZfH at h;simp only[fnS,f42,Zo,go_sem,seval];refine ZPO h fun v1 a h=>Zd (ZiS a)<|yA ?_
 refine yB h (fun _ h=>?_) fun _ h=>?_
 refine ZPO h fun _ b h=>Zd (Zul b) ?_
 iterate 2 (cases h;exact yD)
end
section
theorem ZIn {append_0:List Zg}{String_1:List Zc}{a_2:Zc}{r:((List Zwt)×Bool)}(h:ZHi append_0 String_1 a_2=some r):Zm prog J0 27 [(false,[.sl 76 4 (A0 ZL append_0)]),(false,[.sl 53 2 (A0 Zs String_1)]),(true,Zs a_2)] [(false,[(false,.sl 73 3 (A0 ZzG r.1))]),(false,[(false,.bool r.2)])]:=by
 refine fnk func27 rfl ?_;unfold ZHi at h;simp only[fnS,f27,Zo,go_sem,seval];refine ZPO h fun v1 m h=>Zd (Zqj m)<|yA ?_
 refine yB h (fun _ h=>?_) fun _ h=>?_
 refine ZPO h fun _ o h=>Zd (Zk1 o)<|yA ?_
 refine yB h (fun _ h=>?_) fun _ h=>?_
 refine ZPO h fun _ q h=>Zd (Zfa q)<|yA ?_
 refine yB h (fun _ h=>?_) fun _ h=>?_
 cases h;exact yD;refine Zh h (fun i b st=>IV [(0,yM (yW append_0)),(5,.bp 0 0),(8,.p false [.row 1]),(9,.p false [.row 2]),(11,yL i)] [zD 53 (Zs a_2),.row 73 3 (A0 ZzG b) 2,.row 53 2 (A0 Zs v1.1) 2] st) [] [0,48,112] yF yD ?_ ?_
 rintro t u b ⟨_,_,_⟩ _ a f v h _;simp only[go_sem,seval,Zb]at f;obtain ⟨⟨w,_,_,_,_⟩,_,_,_,hn⟩:=f;subst hn;have x:=WF.slotL v w (j:=0) rfl;have:=ZC a;have:=ZE a;have:=Zk (ZD a) x;simp only[*,go_sem,seval];refine Zh h (fun i d st=>IV [(0,yM (yW append_0)),(5,.bp 0 0),(8,.p false [.row 1]),(9,.p false [.row 2]),(11,yL t),(12,yL i)] [zD 53 (Zs a_2),.row 73 3 (A0 ZzG d) 2,.row 53 2 (A0 Zs v1.1) 2] st) [] [0,1,2] yF yD ?_ ?_
 rintro _ _ d ⟨_,_,_⟩ _ e g y h _;simp only[go_sem,seval,Zb]at g;obtain ⟨⟨z,_,_,_,_,_⟩,_,_,_,hn⟩:=g;subst hn;have A:=WF.elL (WF.slotD y z (j:=0) rfl) a (j:=3) rfl;have:=ZC e;have:=ZE e;have:=Zk (ZD e) A;simp only[*,go_sem,seval];refine ZPO h fun _ B h=>Zd (Zg5 B)<|yA ?_
 refine yB h (fun _ h=>?_) fun _ h=>?_
 refine ZPO h fun _ C h=>Zd (ZIw C)<|yA ?_
 refine yB h (fun _ h=>?_) fun _ h=>?_
 obtain ⟨_,_,_,_,h⟩:=ZcM h;simp only[*,go_sem,seval];refine ZPO h fun _ D h=>Zd (ZHQ D) ?_
 obtain ⟨E,h⟩:=Zv h;try simp only[Nat.reduceLeDiff]at E
 simp only[*,go_sem,seval];exact yR h [0,1043,2];obtain ⟨F,h⟩:=Zv h;try simp only[Nat.reduceLeDiff]at F
 simp only[*,go_sem,seval];exact yR h [0,867,2];exact yR h [0,1,2];rintro d ⟨_,_,_⟩ k _ h;simp only[go_sem,seval,Zb]at k;obtain ⟨⟨_,_,_,_,_,_⟩,_,_,_,hn⟩:=k;subst hn;have:=ZB (u.thn.length);simp only[*,go_sem,seval];exact yR h [0,1,2];rintro b ⟨_,_,_⟩ l _ h;simp only[go_sem,seval,Zb]at l;obtain ⟨⟨_,_,_,_,_⟩,_,_,_,hn⟩:=l;subst hn;have:=ZB (append_0.length);iterate 3 (cases h;exact yD)
end
section
theorem ZKo {a:List Zg}{b:List Zc}{a_2:Zc}{r:List ByteArray}(h:ZIZ a b a_2=some r):Zm prog J0 35 [(false,[.sl 76 4 (A0 ZL a)]),(false,[.sl 53 2 (A0 Zs b)]),(true,Zs a_2)] [(false,[(false,.sl 9 1 (A0 ZA r))])]:=by
 refine fnk func35 rfl ?_;unfold ZIZ at h;have C:ZbS ⟨#[110,111,32,114,117,108,101]⟩=true:=by decide
 have D:ZbS ⟨#[110,111,58,32]⟩=true:=by decide
 have E:ZbS ⟨#[58,32]⟩=true:=by decide
 simp only[fnS,f35,Zo,go_sem,seval,C,D,E];refine ZPO h fun v1 F h=>Zd (ZLt F)<|yA ?_
 refine Zh h (fun i s st=>match s with|(d,e)=>IV [(0,yM (yW a)),(1,yM (yT b)),(5,.bp 0 0),(7,.p false [.row 1]),(8,.p false [.row 2]),(9,yM (.bool e)),(10,yL i)] [zD 53 (Zs a_2),.row 9 1 (A0 ZA d) 2,.row 88 4 (A0 ZF5 v1.1) 2] st) [] [0,32,112] yF yD ?_ ?_
 rintro _ _ ⟨d,e⟩ ⟨_,_,_⟩ _ f t G h u;simp only[go_sem,seval,Zb]at t;obtain ⟨⟨_,_,_,_,_,_,_⟩,_,_,H,hn⟩:=t;subst hn;have I:=WF.rowL G H;have:=ZC f;have:=ZE f;have:=Zk (ZD f) I;simp only[*,go_sem,seval];refine yB h (fun _ h=>?_) fun _ h=>?_
 refine ZPO h fun _ J h=>Zd (ZmT J) ?_
 obtain ⟨K,h⟩:=Zv h;simp only[go_sem]at K;simp only[*,go_sem,seval];refine ZPO h fun _ L h=>Zd (ZKU L) ?_
 obtain ⟨M,h⟩:=Zv h;simp only[go_sem]at M;obtain ⟨N,h⟩:=Zv h;try simp only[Nat.reduceLeDiff]at N
 simp only[*,go_sem,seval];exact yR h [0,291,2];refine ZPO h fun v O h=>Zd (ZIn O)<|yA ?_
 refine Zh h (fun i s st=>match s with|(g,j)=>IV [(7,.p false [.row 0]),(11,.p false [.row 1]),(12,yM (.bool j)),(13,yL i)] [.row 9 1 (A0 ZA g) 2,.row 73 3 (A0 ZzG v.1) 2] st) [] [1,163] yF yD ?_ ?_
 rintro _ _ ⟨g,j⟩ ⟨_,_,_⟩ _ k w P h Q;simp only[go_sem,seval,Zb]at w;obtain ⟨⟨_,_,_,_⟩,_,R,hn⟩:=w;subst hn;have S:=WF.rowL P R;have:=ZC k;have:=ZE k;have:=Zk (ZD k) S;simp only[*,go_sem,seval];refine yB h (fun _ h=>?_) fun _ h=>?_
 refine ZPO h fun _ T h=>Zd (ZJX T) ?_
 obtain ⟨U,h⟩:=Zv h;simp only[go_sem]at U;obtain ⟨V,h⟩:=Zv h;try simp only[Nat.reduceLeDiff]at V
 simp only[*,go_sem,seval];exact yR h [242,1];replace h:=Zr h Q;replace h:=Zr h u;cases h;exact yD;rintro ⟨g,j⟩ ⟨_,_,_⟩ x _ h;simp only[go_sem,seval,Zb]at x;obtain ⟨⟨_,_,_,_⟩,_,_,hn⟩:=x;subst hn;have:=ZB (v.1.length);simp only[*,go_sem,seval];iterate 2 refine yB h (fun _ h=>?_) fun _ h=>?_
 obtain ⟨W,h⟩:=Zv h;try simp only[Nat.reduceLeDiff]at W
 iterate 3 (replace h:=Zr h u;cases h;simp only[*,go_sem,seval])
 rintro ⟨d,e⟩ ⟨_,_,_⟩ y _ h;simp only[go_sem,seval,Zb]at y;obtain ⟨⟨_,_,_,_,_,_,_⟩,_,_,_,hn⟩:=y;subst hn;have:=ZB (v1.1.length);simp only[*,go_sem,seval];refine ZPO h fun z X h=>Zd (ZIn X)<|yA ?_
 refine Zh h (fun i s st=>match s with|(l,m)=>IV [(7,.p false [.row 0]),(11,.p false [.row 1]),(12,yM (.bool m)),(13,yL i)] [.row 9 1 (A0 ZA l) 2,.row 73 3 (A0 ZzG z.1) 2] st) [] [1,163] yF yD ?_ ?_
 rintro _ _ ⟨l,m⟩ ⟨_,_,_⟩ _ o A Y h Z;simp only[go_sem,seval,Zb]at A;obtain ⟨⟨_,_,_,_⟩,_,aa,hn⟩:=A;subst hn;have ab:=WF.rowL Y aa;have:=ZC o;have:=ZE o;have:=Zk (ZD o) ab;simp only[*,go_sem,seval];refine yB h (fun _ h=>?_) fun _ h=>?_
 refine ZPO h fun _ ac h=>Zd (ZJX ac) ?_
 obtain ⟨ad,h⟩:=Zv h;simp only[go_sem]at ad;obtain ⟨ae,h⟩:=Zv h;try simp only[Nat.reduceLeDiff]at ae
 simp only[*,go_sem,seval];exact yR h [242,1];replace h:=Zr h Z;cases h;exact yD;rintro ⟨l,m⟩ ⟨_,_,_⟩ B _ h;simp only[go_sem,seval,Zb]at B;obtain ⟨⟨_,_,_,_⟩,_,_,hn⟩:=B;subst hn;have:=ZB (z.1.length);simp only[*,go_sem,seval];iterate 2 refine yB h (fun _ h=>?_) fun _ h=>?_
 obtain ⟨af,h⟩:=Zv h;try simp only[Nat.reduceLeDiff]at af
 iterate 3 (cases h;exact yD)
end
section
open Go.RowKit
theorem ZiB (A:Option Addr) (n c:Nat) (ds:List ByteArray) (L:List Nat) (left:Int) (w:World) (hn:n=ds.length) (hm:n<=9223372036854775807) (h0:0<=left) (h1:left<=1048576) (h:Sli Zde w A ds L):
  Calls prog 79 #[.slice A n c,.int .i64 left] w (Zfn (XD ds) left w):=by
 have H:=yS h;have HN:=yS hn;clear h hn;by_cases hlen:(n:Int)<=left
 .go_enter func79,ntmps79;go_wp2;go_loop [1,5] (fun q i=>∃(k:Nat) (l:Int),k<=n/\i=.int .i64 k/\q=.int .i64 l/\0<=l/\l<=left/\Hid (szR ((ds.drop k).map ByteArray.size).sum l=szR (XD ds) left)) (fun _ i=>n - (intOf i).toNat)
  case atStart=>exact ⟨0,left - n,A6 _,rfl,rfl,yE,yE,yS (by
    have e:=HN.out;exact ZaZ _ _ _ _ yE (by simp [XD];omega))⟩
  case round=>
   obtain ⟨k,l,hk,rfl,rfl,f,hl1,HE⟩:=hrel;by_cases hlt:k<n
   .obtain ⟨b,off,cs,Lk,rfl,_,_,a,hc⟩:=H.out.at_ (show k<ds.length by have:=HN.out;omega)
    obtain ⟨rfl,_,g⟩:=Zy5 a;have d:=hc 0 _ rfl;clear hc a;have hd:Hid (ds.drop k=ds[k]'(by have:=HN.out;omega)::ds.drop (k+1)):=A8 _
    generalize ds[k]'(by have:=HN.out;omega)=s at d hd g
    simp only[show Zde.size=1 from rfl,Nat.mul_one,Nat.add_zero]at d;by_cases hs:(s.size:Int)<=l
    .go_wp2;go_round
     case rel=>exact ⟨k+1,l - s.size,yE,by go_num,rfl,yE,yE,yS (by rw [<-HE.out,hd.out];exact ZaZ _ _ _ _ yE yG)⟩
     case measure=>simp [intOf];omega
    .go_wp2;go_ret;exact ⟨YK (by rw [<-HE.out,hd.out,ZZ (by simp;omega)]),Below.refl _ _⟩
   .go_wp2;go_ret;exact ⟨YK (by rw [<-HE.out,AA (by have:=HN.out;omega)];simp [szR,f]),Below.refl _ _⟩
 .go_enter func79,ntmps79;go_wp2;go_ret;exact ⟨YK (by rw [ZZ (by have:=HN.out;simp [XD];omega)]),Below.refl _ _⟩
theorem Zl9 (cs:List Value) (x:Zc) (L:List Nat) (left:Int) (w:World) (h0:0<=left) (h1:left<=1048576) (h:Z8.rep w cs x L):
  Calls prog 26 #[.agg cs.toArray,.int .i64 left] w (Zfn (Xx x) left w):=by
 obtain ⟨A1,c1,L1,rfl,_hL,t0,n1,m1,s1⟩:=h;unfold maxLen at m1;have S1:=yS s1;clear s1;have B0:Hid (Below w.heap.size w (w.alloc (.cells #[.string x.rel,.slice A1 x.args.length c1] 48))):=(Below.refl _ _).alloc (A4 _) _;have K0:Hid (Blk (w.alloc (.cells #[.string x.rel,.slice A1 x.args.length c1] 48)) w.heap.size 48 #[.string x.rel,.slice A1 x.args.length c1]):=Blk.new _ _ _;go_enter func26,ntmps26;by_cases k1:(x.rel.size:Int)<=left
 rotate_left
 .go_wp2_with fail
  go_ret;exact ⟨YK (by rw [ZZ (by simp only[Xx];omega)]),B0.out⟩
 go_wp2_with fail
 refine (ZiB A1 _ c1 x.args L1 _ _ rfl yE yE yE (S1.out.below B0.out)).mono ?_;rintro e w1 ⟨rfl,a⟩;have B1:=yS (B0.out.trans (a.mono B0.out.size));have K1:=yS (K0.out.later a);have f0:=K1.out.at (i:=0) rfl;have f1:=K1.out.at (i:=1) rfl;clear a;by_cases k2:((XD x.args:Nat):Int)<=left - x.rel.size
 rotate_left
 .rw [ZZ k2];go_wp2_with fail
  go_ret;exact ⟨YK (by rw [ZZ (by simp only[Xx];omega)]),B1.out⟩
 rw [Xe k2];go_wp2_with fail
 go_ret;exact ⟨YK (by rw [Xe (by simp only[Xx];omega)]<;>simp only[Xx]<;>omega),B1.out⟩
theorem Zs2 (A:Option Addr) (n c:Nat) (ds:List Zc) (L:List Nat) (left:Int) (w:World) (hn:n=ds.length) (hm:n<=9223372036854775807) (h0:0<=left) (h1:left<=1048576) (h:Sli Z8 w A ds L):
  Calls prog 10 #[.slice A n c,.int .i64 left] w (Zfn (Yu ds) left w):=by
 have H:=yS h;have HN:=yS hn;clear h hn;by_cases hlen:(n:Int)<=left
 .go_enter func10,ntmps10;go_wp2;go_loopw [1,5] (fun q i wr=>∃(k:Nat) (l:Int),k<=n/\i=.int .i64 k/\q=.int .i64 l/\0<=l/\l<=left/\Hid (Below w.heap.size w wr)/\Hid (szR ((ds.drop k).map Xx).sum l=szR (Yu ds) left)) (fun _ i _=>n - (intOf i).toNat)
  case atStart=>exact ⟨0,left - n,A6 _,rfl,rfl,yE,yE,Below.refl _ _,yS (by
    have e:=HN.out;exact ZaZ _ _ _ _ yE (by simp only[Yu,AC];omega))⟩
  case round=>
   obtain ⟨k,l,hk,rfl,rfl,g,hl1,HB,HE⟩:=hrel;by_cases hlt:k<n
   .have j:k<ds.length:=by have:=HN.out;omega
    obtain ⟨b,off,cs,Lk,rfl,o,t,a,hc⟩:=H.out.at_ j;have f:b<w.heap.size:=H.out.lt b o;have HR:=yS (Z8.keep a (Zy HB.out (fun y m=>H.out.lt y (t y m))))
    obtain ⟨A1,c1,rfl⟩:=ZcS a;have q0:wr.cell? ⟨b,off+k*2,none⟩=_:=(HB.out.cell (p:=⟨b,off+(k*2+0),none⟩) f).trans (hc 0 _ rfl);have q1:wr.cell? ⟨b,off+k*2+1,none⟩=_:=(HB.out.cell (p:=⟨b,off+(k*2+1),none⟩) f).trans (hc 1 _ rfl);have hd:Hid (ds.drop k=ds[k]::ds.drop (k+1)):=A8 _;generalize ds[k]=x at *
    clear hc a;by_cases hs:(Xx x:Int)<=l
    .go_wp2_with (go_at_call 26;refine (Zl9 _ x Lk _ _ yE yE HR.out).mono ?_;rintro e w1 ⟨rfl,d⟩;rw [Xe hs];have HB1:=yS (HB.out.trans (d.mono HB.out.size));clear d);go_roundw
     case rel=>exact ⟨k+1,l - Xx x,yE,by go_num,rfl,yE,yE,HB1.out,yS (by rw [<-HE.out,hd.out];exact ZaZ _ _ _ _ yE yG)⟩
     case measure=>simp [intOf];omega
    .go_wp2_with (go_at_call 26;refine (Zl9 _ x Lk _ _ yE yE HR.out).mono ?_;rintro e w1 ⟨rfl,d⟩;rw [ZZ hs];have HB1:=yS (HB.out.trans (d.mono HB.out.size));clear d);go_ret;exact ⟨YK (by rw [<-HE.out,hd.out,ZZ (by simp;omega)]),HB1.out⟩
   .go_wp2;go_ret;exact ⟨YK (by rw [<-HE.out,AA (by have:=HN.out;omega)];simp [szR,g]),HB.out⟩
 .go_enter func10,ntmps10;go_wp2;go_ret;exact ⟨YK (by rw [ZZ (by have:=HN.out;simp only[Yu];omega)]),Below.refl _ _⟩
theorem Ziv (cs:List Value) (x:Zx) (L:List Nat) (left:Int) (w:World) (h0:0<=left) (h1:left<=1048576) (h:Qq.rep w cs x L):
  Calls prog 119 #[.agg cs.toArray,.int .i64 left] w (Zfn (Z6 x) left w):=by
 obtain ⟨A1,c1,L1,rfl,_hL,t0,n1,m1,s1⟩:=h;unfold maxLen at m1;have S1:=yS s1;clear s1;have B0:Hid (Below w.heap.size w (w.alloc (.cells #[.string x.rel,.slice A1 x.args.length c1] 101))):=(Below.refl _ _).alloc (A4 _) _;have K0:Hid (Blk (w.alloc (.cells #[.string x.rel,.slice A1 x.args.length c1] 101)) w.heap.size 101 #[.string x.rel,.slice A1 x.args.length c1]):=Blk.new _ _ _;go_enter func119,ntmps119;by_cases k1:(x.rel.size:Int)<=left
 rotate_left
 .go_wp2_with fail
  go_ret;exact ⟨YK (by rw [ZZ (by simp only[Z6];omega)]),B0.out⟩
 go_wp2_with fail
 refine (ZiB A1 _ c1 x.args L1 _ _ rfl yE yE yE (S1.out.below B0.out)).mono ?_;rintro e w1 ⟨rfl,a⟩;have B1:=yS (B0.out.trans (a.mono B0.out.size));have K1:=yS (K0.out.later a);have f0:=K1.out.at (i:=0) rfl;have f1:=K1.out.at (i:=1) rfl;clear a;by_cases k2:((XD x.args:Nat):Int)<=left - x.rel.size
 rotate_left
 .rw [ZZ k2];go_wp2_with fail
  go_ret;exact ⟨YK (by rw [ZZ (by simp only[Z6];omega)]),B1.out⟩
 rw [Xe k2];go_wp2_with fail
 go_ret;exact ⟨YK (by rw [Xe (by simp only[Z6];omega)]<;>simp only[Z6]<;>omega),B1.out⟩
theorem Zml (cs:List Value) (x:Zl) (L:List Nat) (left:Int) (w:World) (h0:0<=left) (h1:left<=1048576) (h:YL.rep w cs x L):
  Calls prog 60 #[.agg cs.toArray,.int .i64 left] w (Zfn (Ys x) left w):=by
 obtain ⟨A1,c1,L1,rfl,_hL,t0,t1,t2,n1,m1,s1⟩:=h;unfold maxLen at m1;have S1:=yS s1;clear s1;have B0:Hid (Below w.heap.size w (w.alloc (.cells #[.int .i64 x.kind,.string x.pattern.rel,.slice A1 x.pattern.args.length c1,.string x.left,.string x.right] 103))):=(Below.refl _ _).alloc (A4 _) _;have K0:Hid (Blk (w.alloc (.cells #[.int .i64 x.kind,.string x.pattern.rel,.slice A1 x.pattern.args.length c1,.string x.left,.string x.right] 103)) w.heap.size 103 #[.int .i64 x.kind,.string x.pattern.rel,.slice A1 x.pattern.args.length c1,.string x.left,.string x.right]):=Blk.new _ _ _;go_enter func60,ntmps60;go_wp2_with fail
 refine (Ziv [.string x.pattern.rel,.slice A1 x.pattern.args.length c1] x.pattern _ _ _ yE yE ⟨A1,c1,L1,rfl,rfl,t0,n1,(by unfold maxLen;omega),S1.out.below B0.out⟩).mono ?_
 rintro e w1 ⟨rfl,a⟩;have B1:=yS (B0.out.trans (a.mono B0.out.size));have K1:=yS (K0.out.later a);have f0:=K1.out.at (i:=0) rfl;have f1:=K1.out.at (i:=1) rfl;have f2:=K1.out.at (i:=2) rfl;have f3:=K1.out.at (i:=3) rfl;have f4:=K1.out.at (i:=4) rfl;clear a;by_cases k1:((Z6 x.pattern:Nat):Int)<=left
 rotate_left
 .rw [ZZ k1];go_wp2_with fail
  go_ret;exact ⟨YK (by rw [ZZ (by simp only[Ys];omega)]),B1.out⟩
 rw [Xe k1];by_cases k2:(x.left.size:Int)<=left - (Z6 x.pattern:Nat)
 rotate_left
 .go_wp2_with fail
  go_ret;exact ⟨YK (by rw [ZZ (by simp only[Ys];omega)]),B1.out⟩
 by_cases k3:(x.right.size:Int)<=left - (Z6 x.pattern:Nat) - x.left.size
 rotate_left
 .go_wp2_with fail
  go_ret;exact ⟨YK (by rw [ZZ (by simp only[Ys];omega)]),B1.out⟩
 go_wp2_with fail
 go_ret;exact ⟨YK (by rw [Xe (by simp only[Ys];omega)]<;>simp only[Ys]<;>omega),B1.out⟩
theorem Zlk (A:Option Addr) (n c:Nat) (ds:List Zl) (L:List Nat) (left:Int) (w:World) (hn:n=ds.length) (hm:n<=9223372036854775807) (h0:0<=left) (h1:left<=1048576) (h:Sli YL w A ds L):
  Calls prog 11 #[.slice A n c,.int .i64 left] w (Zfn (Z3 ds) left w):=by
 have H:=yS h;have HN:=yS hn;clear h hn;by_cases hlen:(n:Int)<=left
 .go_enter func11,ntmps11;go_wp2;go_loopw [1,5] (fun q i wr=>∃(k:Nat) (l:Int),k<=n/\i=.int .i64 k/\q=.int .i64 l/\0<=l/\l<=left/\Hid (Below w.heap.size w wr)/\Hid (szR ((ds.drop k).map Ys).sum l=szR (Z3 ds) left)) (fun _ i _=>n - (intOf i).toNat)
  case atStart=>exact ⟨0,left - n,A6 _,rfl,rfl,yE,yE,Below.refl _ _,yS (by
    have e:=HN.out;exact ZaZ _ _ _ _ yE (by simp only[Z3,AC];omega))⟩
  case round=>
   obtain ⟨k,l,hk,rfl,rfl,g,hl1,HB,HE⟩:=hrel;by_cases hlt:k<n
   .have j:k<ds.length:=by have:=HN.out;omega
    obtain ⟨b,off,cs,Lk,rfl,o,t,a,hc⟩:=H.out.at_ j;have d:b<w.heap.size:=H.out.lt b o;have HR:=yS (YL.keep a (Zy HB.out (fun y m=>H.out.lt y (t y m))))
    obtain ⟨A1,c1,rfl⟩:=ZcW a;have q0:wr.cell? ⟨b,off+k*5,none⟩=_:=(HB.out.cell (p:=⟨b,off+(k*5+0),none⟩) d).trans (hc 0 _ rfl);have q1:wr.cell? ⟨b,off+k*5+1,none⟩=_:=(HB.out.cell (p:=⟨b,off+(k*5+1),none⟩) d).trans (hc 1 _ rfl);have q2:wr.cell? ⟨b,off+k*5+2,none⟩=_:=(HB.out.cell (p:=⟨b,off+(k*5+2),none⟩) d).trans (hc 2 _ rfl);have q3:wr.cell? ⟨b,off+k*5+3,none⟩=_:=(HB.out.cell (p:=⟨b,off+(k*5+3),none⟩) d).trans (hc 3 _ rfl);have q4:wr.cell? ⟨b,off+k*5+4,none⟩=_:=(HB.out.cell (p:=⟨b,off+(k*5+4),none⟩) d).trans (hc 4 _ rfl);have hd:Hid (ds.drop k=ds[k]::ds.drop (k+1)):=A8 _;generalize ds[k]=x at *
    clear hc a;by_cases hs:(Ys x:Int)<=l
    .go_wp2_with (go_at_call 60;refine (Zml _ x Lk _ _ yE yE HR.out).mono ?_;rintro e w1 ⟨rfl,f⟩;rw [Xe hs];have HB1:=yS (HB.out.trans (f.mono HB.out.size));clear f);go_roundw
     case rel=>exact ⟨k+1,l - Ys x,yE,by go_num,rfl,yE,yE,HB1.out,yS (by rw [<-HE.out,hd.out];exact ZaZ _ _ _ _ yE yG)⟩
     case measure=>simp [intOf];omega
    .go_wp2_with (go_at_call 60;refine (Zml _ x Lk _ _ yE yE HR.out).mono ?_;rintro e w1 ⟨rfl,f⟩;rw [ZZ hs];have HB1:=yS (HB.out.trans (f.mono HB.out.size));clear f);go_ret;exact ⟨YK (by rw [<-HE.out,hd.out,ZZ (by simp;omega)]),HB1.out⟩
   .go_wp2;go_ret;exact ⟨YK (by rw [<-HE.out,AA (by have:=HN.out;omega)];simp [szR,g]),HB.out⟩
 .go_enter func11,ntmps11;go_wp2;go_ret;exact ⟨YK (by rw [ZZ (by have:=HN.out;simp only[Z3];omega)]),Below.refl _ _⟩
theorem Zkh (cs:List Value) (x:Zu) (L:List Nat) (left:Int) (w:World) (h0:0<=left) (h1:left<=1048576) (h:Yp.rep w cs x L):
  Calls prog 178 #[.agg cs.toArray,.int .i64 left] w (Zfn (Yt x) left w):=by
 obtain ⟨A1,c1,L1,rfl,_hL,t0,n1,m1,s1⟩:=h;unfold maxLen at m1;have S1:=yS s1;clear s1;have B0:Hid (Below w.heap.size w (w.alloc (.cells #[.int .i64 x.kind,.string x.pattern.rel,.slice A1 x.pattern.args.length c1] 206))):=(Below.refl _ _).alloc (A4 _) _;have K0:Hid (Blk (w.alloc (.cells #[.int .i64 x.kind,.string x.pattern.rel,.slice A1 x.pattern.args.length c1] 206)) w.heap.size 206 #[.int .i64 x.kind,.string x.pattern.rel,.slice A1 x.pattern.args.length c1]):=Blk.new _ _ _;go_enter func178,ntmps178;go_wp2_with fail
 refine (Ziv [.string x.pattern.rel,.slice A1 x.pattern.args.length c1] x.pattern _ _ _ yE yE ⟨A1,c1,L1,rfl,rfl,t0,n1,(by unfold maxLen;omega),S1.out.below B0.out⟩).mono ?_
 rintro e w1 ⟨rfl,a⟩;have B1:=yS (B0.out.trans (a.mono B0.out.size));have K1:=yS (K0.out.later a);have f0:=K1.out.at (i:=0) rfl;have f1:=K1.out.at (i:=1) rfl;have f2:=K1.out.at (i:=2) rfl;clear a;by_cases k1:((Z6 x.pattern:Nat):Int)<=left
 rotate_left
 .rw [ZZ k1];go_wp2_with fail
  go_ret;exact ⟨YK (by rw [ZZ (by simp only[Yt];omega)]),B1.out⟩
 rw [Xe k1];go_wp2_with fail
 go_ret;exact ⟨YK (by rw [Xe (by simp only[Yt];omega)]<;>simp only[Yt]<;>omega),B1.out⟩
theorem Zoh (A:Option Addr) (n c:Nat) (ds:List Zu) (L:List Nat) (left:Int) (w:World) (hn:n=ds.length) (hm:n<=9223372036854775807) (h0:0<=left) (h1:left<=1048576) (h:Sli Yp w A ds L):
  Calls prog 118 #[.slice A n c,.int .i64 left] w (Zfn (Ym ds) left w):=by
 have H:=yS h;have HN:=yS hn;clear h hn;by_cases hlen:(n:Int)<=left
 .go_enter func118,ntmps118;go_wp2;go_loopw [1,5] (fun q i wr=>∃(k:Nat) (l:Int),k<=n/\i=.int .i64 k/\q=.int .i64 l/\0<=l/\l<=left/\Hid (Below w.heap.size w wr)/\Hid (szR ((ds.drop k).map Yt).sum l=szR (Ym ds) left)) (fun _ i _=>n - (intOf i).toNat)
  case atStart=>exact ⟨0,left - n,A6 _,rfl,rfl,yE,yE,Below.refl _ _,yS (by
    have e:=HN.out;exact ZaZ _ _ _ _ yE (by simp only[Ym,AC];omega))⟩
  case round=>
   obtain ⟨k,l,hk,rfl,rfl,g,hl1,HB,HE⟩:=hrel;by_cases hlt:k<n
   .have j:k<ds.length:=by have:=HN.out;omega
    obtain ⟨b,off,cs,Lk,rfl,o,t,a,hc⟩:=H.out.at_ j;have f:b<w.heap.size:=H.out.lt b o;have HR:=yS (Yp.keep a (Zy HB.out (fun y m=>H.out.lt y (t y m))))
    obtain ⟨A1,c1,rfl⟩:=ZaY a;have q0:wr.cell? ⟨b,off+k*3,none⟩=_:=(HB.out.cell (p:=⟨b,off+(k*3+0),none⟩) f).trans (hc 0 _ rfl);have q1:wr.cell? ⟨b,off+k*3+1,none⟩=_:=(HB.out.cell (p:=⟨b,off+(k*3+1),none⟩) f).trans (hc 1 _ rfl);have q2:wr.cell? ⟨b,off+k*3+2,none⟩=_:=(HB.out.cell (p:=⟨b,off+(k*3+2),none⟩) f).trans (hc 2 _ rfl);have hd:Hid (ds.drop k=ds[k]::ds.drop (k+1)):=A8 _;generalize ds[k]=x at *
    clear hc a;by_cases hs:(Yt x:Int)<=l
    .go_wp2_with (go_at_call 178;refine (Zkh _ x Lk _ _ yE yE HR.out).mono ?_;rintro e w1 ⟨rfl,d⟩;rw [Xe hs];have HB1:=yS (HB.out.trans (d.mono HB.out.size));clear d);go_roundw
     case rel=>exact ⟨k+1,l - Yt x,yE,by go_num,rfl,yE,yE,HB1.out,yS (by rw [<-HE.out,hd.out];exact ZaZ _ _ _ _ yE yG)⟩
     case measure=>simp [intOf];omega
    .go_wp2_with (go_at_call 178;refine (Zkh _ x Lk _ _ yE yE HR.out).mono ?_;rintro e w1 ⟨rfl,d⟩;rw [ZZ hs];have HB1:=yS (HB.out.trans (d.mono HB.out.size));clear d);go_ret;exact ⟨YK (by rw [<-HE.out,hd.out,ZZ (by simp;omega)]),HB1.out⟩
   .go_wp2;go_ret;exact ⟨YK (by rw [<-HE.out,AA (by have:=HN.out;omega)];simp [szR,g]),HB.out⟩
 .go_enter func118,ntmps118;go_wp2;go_ret;exact ⟨YK (by rw [ZZ (by have:=HN.out;simp only[Ym];omega)]),Below.refl _ _⟩
theorem ZnQ (cs:List Value) (x:Zg) (L:List Nat) (left:Int) (w:World) (h0:0<=left) (h1:left<=1048576) (h:XW.rep w cs x L):
  Calls prog 59 #[.agg cs.toArray,.int .i64 left] w (Zfn (Yv x) left w):=by
 obtain ⟨A1,c1,L1,A2,c2,L2,rfl,_hL,t0,n1,m1,s1,n2,m2,s2⟩:=h;unfold maxLen at m1 m2;have S1:=yS s1;clear s1;have S2:=yS s2;clear s2;have B0:Hid (Below w.heap.size w (w.alloc (.cells #[.string x.name,.int .i64 x.priority,.slice A1 x.cond.length c1,.slice A2 x.thn.length c2] 99))):=(Below.refl _ _).alloc (A4 _) _;have K0:Hid (Blk (w.alloc (.cells #[.string x.name,.int .i64 x.priority,.slice A1 x.cond.length c1,.slice A2 x.thn.length c2] 99)) w.heap.size 99 #[.string x.name,.int .i64 x.priority,.slice A1 x.cond.length c1,.slice A2 x.thn.length c2]):=Blk.new _ _ _;go_enter func59,ntmps59;by_cases k1:(x.name.size:Int)<=left
 rotate_left
 .go_wp2_with fail
  go_ret;exact ⟨YK (by rw [ZZ (by simp only[Yv];omega)]),B0.out⟩
 go_wp2_with fail
 refine (Zlk A1 _ c1 x.cond L1 _ _ rfl yE yE yE (S1.out.below B0.out)).mono ?_;rintro e w1 ⟨rfl,a⟩;have B1:=yS (B0.out.trans (a.mono B0.out.size));have K1:=yS (K0.out.later a);have f0:=K1.out.at (i:=0) rfl;have f1:=K1.out.at (i:=1) rfl;have f2:=K1.out.at (i:=2) rfl;have f3:=K1.out.at (i:=3) rfl;clear a;by_cases k2:((Z3 x.cond:Nat):Int)<=left - x.name.size
 rotate_left
 .rw [ZZ k2];go_wp2_with fail
  go_ret;exact ⟨YK (by rw [ZZ (by simp only[Yv];omega)]),B1.out⟩
 rw [Xe k2];go_wp2_with fail
 refine (Zoh A2 _ c2 x.thn L2 _ _ rfl yE yE yE (S2.out.below B1.out)).mono ?_;rintro e w2 ⟨rfl,b⟩;have B2:=yS (B1.out.trans (b.mono B1.out.size));have K2:=yS (K1.out.later b);clear f0 f1 f2 f3;have f0:=K2.out.at (i:=0) rfl;have f1:=K2.out.at (i:=1) rfl;have f2:=K2.out.at (i:=2) rfl;have f3:=K2.out.at (i:=3) rfl;clear b;by_cases k3:((Ym x.thn:Nat):Int)<=left - x.name.size - (Z3 x.cond:Nat)
 rotate_left
 .rw [ZZ k3];go_wp2_with fail
  go_ret;exact ⟨YK (by rw [ZZ (by simp only[Yv];omega)]),B2.out⟩
 rw [Xe k3];go_wp2_with fail
 go_ret;exact ⟨YK (by rw [Xe (by simp only[Yv];omega)]<;>simp only[Yv]<;>omega),B2.out⟩
theorem Zsi (A:Option Addr) (n c:Nat) (ds:List Zg) (L:List Nat) (left:Int) (w:World) (hn:n=ds.length) (hm:n<=9223372036854775807) (h0:0<=left) (h1:left<=1048576) (h:Sli XW w A ds L):
  Calls prog 9 #[.slice A n c,.int .i64 left] w (Zfn (Yg ds) left w):=by
 have H:=yS h;have HN:=yS hn;clear h hn;by_cases hlen:(n:Int)<=left
 .go_enter func9,ntmps9;go_wp2;go_loopw [1,5] (fun q i wr=>∃(k:Nat) (l:Int),k<=n/\i=.int .i64 k/\q=.int .i64 l/\0<=l/\l<=left/\Hid (Below w.heap.size w wr)/\Hid (szR ((ds.drop k).map Yv).sum l=szR (Yg ds) left)) (fun _ i _=>n - (intOf i).toNat)
  case atStart=>exact ⟨0,left - n,A6 _,rfl,rfl,yE,yE,Below.refl _ _,yS (by
    have e:=HN.out;exact ZaZ _ _ _ _ yE (by simp only[Yg,AC];omega))⟩
  case round=>
   obtain ⟨k,l,hk,rfl,rfl,g,hl1,HB,HE⟩:=hrel;by_cases hlt:k<n
   .have j:k<ds.length:=by have:=HN.out;omega
    obtain ⟨b,off,cs,Lk,rfl,o,t,a,hc⟩:=H.out.at_ j;have f:b<w.heap.size:=H.out.lt b o;have HR:=yS (XW.keep a (Zy HB.out (fun y m=>H.out.lt y (t y m))))
    obtain ⟨A1,c1,A2,c2,rfl⟩:=Zc2 a;have q0:wr.cell? ⟨b,off+k*4,none⟩=_:=(HB.out.cell (p:=⟨b,off+(k*4+0),none⟩) f).trans (hc 0 _ rfl);have q1:wr.cell? ⟨b,off+k*4+1,none⟩=_:=(HB.out.cell (p:=⟨b,off+(k*4+1),none⟩) f).trans (hc 1 _ rfl);have q2:wr.cell? ⟨b,off+k*4+2,none⟩=_:=(HB.out.cell (p:=⟨b,off+(k*4+2),none⟩) f).trans (hc 2 _ rfl);have q3:wr.cell? ⟨b,off+k*4+3,none⟩=_:=(HB.out.cell (p:=⟨b,off+(k*4+3),none⟩) f).trans (hc 3 _ rfl);have hd:Hid (ds.drop k=ds[k]::ds.drop (k+1)):=A8 _;generalize ds[k]=x at *
    clear hc a;by_cases hs:(Yv x:Int)<=l
    .go_wp2_with (go_at_call 59;refine (ZnQ _ x Lk _ _ yE yE HR.out).mono ?_;rintro e w1 ⟨rfl,d⟩;rw [Xe hs];have HB1:=yS (HB.out.trans (d.mono HB.out.size));clear d);go_roundw
     case rel=>exact ⟨k+1,l - Yv x,yE,by go_num,rfl,yE,yE,HB1.out,yS (by rw [<-HE.out,hd.out];exact ZaZ _ _ _ _ yE yG)⟩
     case measure=>simp [intOf];omega
    .go_wp2_with (go_at_call 59;refine (ZnQ _ x Lk _ _ yE yE HR.out).mono ?_;rintro e w1 ⟨rfl,d⟩;rw [ZZ hs];have HB1:=yS (HB.out.trans (d.mono HB.out.size));clear d);go_ret;exact ⟨YK (by rw [<-HE.out,hd.out,ZZ (by simp;omega)]),HB1.out⟩
   .go_wp2;go_ret;exact ⟨YK (by rw [<-HE.out,AA (by have:=HN.out;omega)];simp [szR,g]),HB.out⟩
 .go_enter func9,ntmps9;go_wp2;go_ret;exact ⟨YK (by rw [ZZ (by have:=HN.out;simp only[Yg];omega)]),Below.refl _ _⟩
end
section
open Go.RowKit
theorem infoString_:(prog.info? 9).map (fun i=>(i.zero,i.size,i.bytes))=some (some (.string ⟨#[]⟩),1,16):=yO
theorem ZiD (A:Option Addr) (n c:Nat) (ds:List ByteArray) (L:List Nat) (w:World) (hn:n=ds.length) (hm:ds.length<=1099511627776) (h:Sli Zde w A ds L):
  Calls prog 83 #[.slice A n c] w (Zi7 Zde 9 w ds):=by
 obtain ⟨i0,hi,g,l,m⟩:=info_parts infoString_;rw [<-hn]at hm;have H:=yS h;have HN:=yS hn;clear h hn;go_enter func83,ntmps83;go_wp2_with (at_make;refine wpList_make_full _ rfl _ _ 46 rfl w.heap.size 9 i0 _ 1 underlying46 hi g l .i64 .i64 _ _ n rfl rfl rfl rfl (by rw [m];omega) (by unfold maxLen;omega) (A4 _) ?_;intro w1 a hg)
 have hb:Below w.heap.size w w1:=(Below.refl _ _).grown hg (A4 _) yG;have HF0:Hid (Yf Zde 9 w n ds 0 w1):=Yf.start a hb;clear a hg hb;go_wp2;go_loopw [4] (fun i wr=>∃(k:Nat),k<=n/\i=.int .i64 k/\Hid (Yf Zde 9 w n ds k wr)) (fun i _=>n - (intOf i).toNat)
 case atStart=>exact ⟨0,A6 _,rfl,HF0⟩
 case round=>
  obtain ⟨k,hk,rfl,HF⟩:=hrel;by_cases f:k<n
  .have o:k<ds.length:=by have:=HN.out;omega
   obtain ⟨b,off,cs,Lk,rfl,q,hLk,d,hc⟩:=H.out.at_ o;have t:b<w.heap.size:=H.out.lt b q;have e:=d;obtain ⟨rfl,_,u⟩:=e;have q0:=(HF.out.below.cell (p:=⟨b,off+(k*Zde.size+0),none⟩) t).trans (hc 0 _ rfl);have HS:=yS (HF.out.store (w2:=wr) (x:=ds[k]) (M:=[]) f HN.out (fun _=>rfl) (Below.refl _ _) ⟨⟨rfl,rfl,u⟩,Own.nil _ _⟩)
   obtain ⟨d0,e0⟩:=HF.out.cell f (j:=0) yF;have z0:=HF.out.frozen k;simp only[show Zde.size=1 from rfl,Nat.mul_one,Nat.add_zero]at q0 HS e0;generalize ds[k]=x at *
   clear hc d;go_wp2_with fail
   go_roundw
   case rel=>exact ⟨k+1,yE,by go_num,HS.out⟩
   case measure=>simp [intOf];omega
  .obtain rfl:k=n:=by omega
   go_wp2;go_ret;exact ⟨_,rfl,HF.out.done HN.out⟩
theorem Ztm (cs:List Value) (x:Zc) (L:List Nat) (w:World) (hz:Xx x<=1048576) (h:Z8.rep w cs x L):
  Calls prog 28 #[.agg cs.toArray] w (Zma Z8 w x):=by
 obtain ⟨A1,c1,L1,rfl,_hL,t0,n1,m1,s1⟩:=h;unfold maxLen at m1;have S1:=yS s1;clear s1;simp only[Xx]at hz;go_enter func28,ntmps28;go_wp2_with fail
 refine (ZiD A1 _ c1 x.args L1 _ rfl (by simp only[XD]at hz;omega) (S1.out.below yI)).mono ?_
 rintro e w1 ⟨v1,rfl,a1⟩;obtain ⟨c,d,rfl⟩:=a1.shape;have a:=a1.below;obtain ⟨M1,g1⟩:=a1.got;clear a1;have G1:=yS (g1.mono (show w.heap.size+3<=_ by simp))
 have lt1:=yS g1.lt;clear g1;have B1:Hid (Below w.heap.size w w1):=Below.trans yI (a.mono yK);have K0:Hid (Blk w1 w.heap.size 48 #[.string x.rel,.slice A1 x.args.length c1]):=Blk.later (Blk.alloc (Blk.alloc (Blk.new _ _ _) _) _) a;have K1:Hid (Blk w1 (w.heap.size+1) 53 #[.string ⟨#[]⟩,.slice none 0 0]):=Blk.later (Blk.alloc (Blk.new_at yG) _) a;have K2:Hid (Blk w1 (w.heap.size+1+1) 53 #[.string x.rel,.slice none 0 0]):=Blk.later (Blk.new_at yG) a;have f0:=K0.out.at (i:=0) rfl;have r0:=K1.out.at (i:=0) rfl;have o0:=K2.out.at (i:=0) rfl;have rz0:=K1.out.frozen 0;have oz0:=K2.out.frozen 0;have f1:=K0.out.at (i:=1) rfl;have r1:=K1.out.at (i:=1) rfl;have o1:=K2.out.at (i:=1) rfl;have rz1:=K1.out.frozen 1;have oz1:=K2.out.frozen 1;have hz1:w.heap.size+2<w1.heap.size:=by have:=a.size;simp at this;omega
 clear a;go_wp2_with fail
 refine bodyPost_ret (v:=.agg #[.string x.rel,.slice c x.args.length d]) (by simp [results,results28,go_sem,r0,r1]) rfl ?_
 obtain ⟨f,g,j⟩:=ZH G1.out.rep;exact ZhH (wr:=w1) (M1) ⟨⟨c,d,M1,rfl,rfl,t0,f,g,j⟩,by have o:=G1.out.own;simpa only [AB]using o⟩ (by intro b hb;repeat rw [Below.heap_setCell _ _ _ _ (by dsimp only;omega)]) (by repeat (first|refine Below.setCell ?_ (by dsimp only;omega) _|refine Below.alloc ?_ yK _|exact B1.out))
theorem infoFact:(prog.info? 53).map (fun i=>(i.zero,i.size,i.bytes))=some (some (.agg #[.string ⟨#[]⟩,.slice none 0 0]),2,40):=yO
theorem ZeQ (A:Option Addr) (n c:Nat) (ds:List Zc) (L:List Nat) (w:World) (hn:n=ds.length) (hz:Yu ds<=1048576) (h:Sli Z8 w A ds L):
  Calls prog 14 #[.slice A n c] w (Zi7 Z8 53 w ds):=by
 obtain ⟨i0,hi,u,v,z⟩:=info_parts infoFact;have H:=yS h;have HN:=yS hn;have hm:n<=1048576:=by simp only[Yu]at hz;omega
 have HZ:=yS hz;clear h hn hz;go_enter func14,ntmps14;go_wp2_with (at_make;refine wpList_make_full _ rfl _ _ 33 rfl w.heap.size 53 i0 _ 2 underlying33 hi u v .i64 .i64 _ _ n rfl rfl rfl rfl (by rw [z];omega) (by unfold maxLen;omega) (A4 _) ?_;intro w1 f hg)
 have hb:Below w.heap.size w w1:=(Below.refl _ _).grown hg (A4 _) yG;have HF0:Hid (Yf Z8 53 w n ds 0 w1):=Yf.start f hb;clear f hg hb;go_wp2;go_loopw [4] (fun i wr=>∃(k:Nat),k<=n/\i=.int .i64 k/\Hid (Yf Z8 53 w n ds k wr)) (fun i _=>n - (intOf i).toNat)
 case atStart=>exact ⟨0,A6 _,rfl,HF0⟩
 case round=>
  obtain ⟨k,hk,rfl,HF⟩:=hrel;by_cases g:k<n
  .have o:k<ds.length:=by have:=HN.out;omega
   obtain ⟨b,off,cs,Lk,rfl,B,C,a,hc⟩:=H.out.at_ o;have q:b<w.heap.size:=H.out.lt b B;have HR:=yS (Z8.keep a (Zy HF.out.below (fun y m=>H.out.lt y (C y m))))
   obtain ⟨A1,c1,rfl⟩:=ZcS a;have q0:wr.cell? ⟨b,off+k*2,none⟩=_:=(HF.out.below.cell (p:=⟨b,off+(k*2+0),none⟩) q).trans (hc 0 _ rfl);have q1:wr.cell? ⟨b,off+k*2+1,none⟩=_:=(HF.out.below.cell (p:=⟨b,off+(k*2+1),none⟩) q).trans (hc 1 _ rfl);have t:Hid (Xx ds[k]<=1048576):=Zl4 Xx ds k o (by have:=HZ.out;simp only[Yu]at this;omega)
   obtain ⟨x,hx⟩:∃x,x=ds[k]:=⟨_,rfl⟩;have HX:=yS hx;rw [<-hx]at HR q0 q1 t;clear hc a hx;go_wp2_with fail
   refine (Ztm _ x Lk _ t.out HR.out).mono ?_;rintro e w2 ⟨cs2,M2,rfl,g2,l⟩;have HF2:=yS (HF.out.later l);have HS:=yS (HF.out.store g HN.out (fun _=>HX.out) l g2)
   obtain ⟨vA1,vc1,rfl⟩:=ZcS g2.rep;clear g2 l;obtain ⟨d0,e0⟩:∃d,w2.cell? ⟨w.heap.size,k*2,none⟩=some d:=HF2.out.cell g (j:=0) yF;have z0:=HF2.out.frozen (k*2);obtain ⟨d1,e1⟩:∃d,w2.cell? ⟨w.heap.size,k*2+1,none⟩=some d:=HF2.out.cell g (j:=1) yF;have z1:=HF2.out.frozen (k*2+1);go_wp2_with fail
   go_roundw
   case rel=>exact ⟨k+1,yE,by go_num,HS.out⟩
   case measure=>simp [intOf];omega
  .obtain rfl:k=n:=by omega
   go_wp2;go_ret;exact ⟨_,rfl,HF.out.done HN.out⟩
theorem Zix (cs:List Value) (x:Zx) (L:List Nat) (w:World) (hz:Z6 x<=1048576) (h:Qq.rep w cs x L):
  Calls prog 126 #[.agg cs.toArray] w (Zma Qq w x):=by
 obtain ⟨A1,c1,L1,rfl,_hL,t0,n1,m1,s1⟩:=h;unfold maxLen at m1;have S1:=yS s1;clear s1;simp only[Z6]at hz;go_enter func126,ntmps126;go_wp2_with fail
 refine (ZiD A1 _ c1 x.args L1 _ rfl (by simp only[XD]at hz;omega) (S1.out.below yI)).mono ?_
 rintro e w1 ⟨v1,rfl,a1⟩;obtain ⟨c,d,rfl⟩:=a1.shape;have a:=a1.below;obtain ⟨M1,g1⟩:=a1.got;clear a1;have G1:=yS (g1.mono (show w.heap.size+3<=_ by simp))
 have lt1:=yS g1.lt;clear g1;have B1:Hid (Below w.heap.size w w1):=Below.trans yI (a.mono yK);have K0:Hid (Blk w1 w.heap.size 101 #[.string x.rel,.slice A1 x.args.length c1]):=Blk.later (Blk.alloc (Blk.alloc (Blk.new _ _ _) _) _) a;have K1:Hid (Blk w1 (w.heap.size+1) 78 #[.string ⟨#[]⟩,.slice none 0 0]):=Blk.later (Blk.alloc (Blk.new_at yG) _) a;have K2:Hid (Blk w1 (w.heap.size+1+1) 78 #[.string x.rel,.slice none 0 0]):=Blk.later (Blk.new_at yG) a;have f0:=K0.out.at (i:=0) rfl;have r0:=K1.out.at (i:=0) rfl;have o0:=K2.out.at (i:=0) rfl;have rz0:=K1.out.frozen 0;have oz0:=K2.out.frozen 0;have f1:=K0.out.at (i:=1) rfl;have r1:=K1.out.at (i:=1) rfl;have o1:=K2.out.at (i:=1) rfl;have rz1:=K1.out.frozen 1;have oz1:=K2.out.frozen 1;have hz1:w.heap.size+2<w1.heap.size:=by have:=a.size;simp at this;omega
 clear a;go_wp2_with fail
 refine bodyPost_ret (v:=.agg #[.string x.rel,.slice c x.args.length d]) (by simp [results,results126,go_sem,r0,r1]) rfl ?_
 obtain ⟨f,g,j⟩:=ZH G1.out.rep;exact ZhH (wr:=w1) (M1) ⟨⟨c,d,M1,rfl,rfl,t0,f,g,j⟩,by have o:=G1.out.own;simpa only [AB]using o⟩ (by intro b hb;repeat rw [Below.heap_setCell _ _ _ _ (by dsimp only;omega)]) (by repeat (first|refine Below.setCell ?_ (by dsimp only;omega) _|refine Below.alloc ?_ yK _|exact B1.out))
theorem Zuj (cs:List Value) (x:Zl) (L:List Nat) (w:World) (hz:Ys x<=1048576) (h:YL.rep w cs x L):
  Calls prog 67 #[.agg cs.toArray] w (Zma YL w x):=by
 obtain ⟨A1,c1,L1,rfl,_hL,t0,t1,t2,n1,m1,s1⟩:=h;unfold maxLen at m1;have S1:=yS s1;clear s1;simp only[Ys]at hz;go_enter func67,ntmps67;go_wp2_with fail
 refine (Zix [.string x.pattern.rel,.slice A1 x.pattern.args.length c1] x.pattern _ _ yE ⟨A1,c1,L1,rfl,rfl,t0,n1,(by unfold maxLen;omega),S1.out.below yI⟩).mono ?_
 rintro e w1 ⟨cs1,M1,rfl,g1,a⟩;obtain ⟨c,d,rfl⟩:=ZgK g1.rep;have G1:=yS (g1.mono (show w.heap.size+3<=_ by simp))
 have lt1:=yS g1.lt;clear g1;have B1:Hid (Below w.heap.size w w1):=Below.trans yI (a.mono yK);have K0:Hid (Blk w1 w.heap.size 103 #[.int .i64 x.kind,.string x.pattern.rel,.slice A1 x.pattern.args.length c1,.string x.left,.string x.right]):=Blk.later (Blk.alloc (Blk.alloc (Blk.new _ _ _) _) _) a;have K1:Hid (Blk w1 (w.heap.size+1) 80 #[.int .i64 0,.string ⟨#[]⟩,.slice none 0 0,.string ⟨#[]⟩,.string ⟨#[]⟩]):=Blk.later (Blk.alloc (Blk.new_at yG) _) a;have K2:Hid (Blk w1 (w.heap.size+1+1) 80 #[.int .i64 x.kind,.string ⟨#[]⟩,.slice none 0 0,.string ⟨#[]⟩,.string ⟨#[]⟩]):=Blk.later (Blk.new_at yG) a;have f0:=K0.out.at (i:=0) rfl;have r0:=K1.out.at (i:=0) rfl;have o0:=K2.out.at (i:=0) rfl;have rz0:=K1.out.frozen 0;have oz0:=K2.out.frozen 0;have f1:=K0.out.at (i:=1) rfl;have r1:=K1.out.at (i:=1) rfl;have o1:=K2.out.at (i:=1) rfl;have rz1:=K1.out.frozen 1;have oz1:=K2.out.frozen 1
 have f2:=K0.out.at (i:=2) rfl;have r2:=K1.out.at (i:=2) rfl;have o2:=K2.out.at (i:=2) rfl;have rz2:=K1.out.frozen 2;have oz2:=K2.out.frozen 2;have f3:=K0.out.at (i:=3) rfl;have r3:=K1.out.at (i:=3) rfl;have o3:=K2.out.at (i:=3) rfl;have rz3:=K1.out.frozen 3;have oz3:=K2.out.frozen 3;have f4:=K0.out.at (i:=4) rfl;have r4:=K1.out.at (i:=4) rfl;have o4:=K2.out.at (i:=4) rfl;have rz4:=K1.out.frozen 4;have oz4:=K2.out.frozen 4;have hz1:w.heap.size+2<w1.heap.size:=by have:=a.size;simp at this;omega
 clear a;go_wp2_with fail
 refine bodyPost_ret (v:=.agg #[.int .i64 x.kind,.string x.pattern.rel,.slice c x.pattern.args.length d,.string x.left,.string x.right]) (by simp [results,results67,go_sem,r0,r1,r2,r3,r4]) rfl ?_
 obtain ⟨_,_,N1,f,g,_,j,k,l⟩:=G1.out.rep;cases f;subst g;exact ZhH (wr:=w1) (M1) ⟨⟨c,d,M1,rfl,rfl,t0,t1,t2,j,k,l⟩,by have o:=G1.out.own;simpa only [AB]using o⟩ (by intro b hb;repeat rw [Below.heap_setCell _ _ _ _ (by dsimp only;omega)]) (by repeat (first|refine Below.setCell ?_ (by dsimp only;omega) _|refine Below.alloc ?_ yK _|exact B1.out))
theorem infoCond:(prog.info? 80).map (fun i=>(i.zero,i.size,i.bytes))=some (some (.agg #[.int .i64 0,.string ⟨#[]⟩,.slice none 0 0,.string ⟨#[]⟩,.string ⟨#[]⟩]),5,80):=yO
theorem Zc8 (A:Option Addr) (n c:Nat) (ds:List Zl) (L:List Nat) (w:World) (hn:n=ds.length) (hz:Z3 ds<=1048576) (h:Sli YL w A ds L):
  Calls prog 15 #[.slice A n c] w (Zi7 YL 80 w ds):=by
 obtain ⟨i0,hi,u,v,z⟩:=info_parts infoCond;have H:=yS h;have HN:=yS hn;have hm:n<=1048576:=by simp only[Z3]at hz;omega
 have HZ:=yS hz;clear h hn hz;go_enter func15,ntmps15;go_wp2_with (at_make;refine wpList_make_full _ rfl _ _ 35 rfl w.heap.size 80 i0 _ 5 underlying35 hi u v .i64 .i64 _ _ n rfl rfl rfl rfl (by rw [z];omega) (by unfold maxLen;omega) (A4 _) ?_;intro w1 l hg)
 have hb:Below w.heap.size w w1:=(Below.refl _ _).grown hg (A4 _) yG;have HF0:Hid (Yf YL 80 w n ds 0 w1):=Yf.start l hb;clear l hg hb;go_wp2;go_loopw [4] (fun i wr=>∃(k:Nat),k<=n/\i=.int .i64 k/\Hid (Yf YL 80 w n ds k wr)) (fun i _=>n - (intOf i).toNat)
 case atStart=>exact ⟨0,A6 _,rfl,HF0⟩
 case round=>
  obtain ⟨k,hk,rfl,HF⟩:=hrel;by_cases a:k<n
  .have q:k<ds.length:=by have:=HN.out;omega
   obtain ⟨b,off,cs,Lk,rfl,B,C,f,hc⟩:=H.out.at_ q;have g:b<w.heap.size:=H.out.lt b B;have HR:=yS (YL.keep f (Zy HF.out.below (fun y m=>H.out.lt y (C y m))))
   obtain ⟨A1,c1,rfl⟩:=ZcW f;have q0:wr.cell? ⟨b,off+k*5,none⟩=_:=(HF.out.below.cell (p:=⟨b,off+(k*5+0),none⟩) g).trans (hc 0 _ rfl);have q1:wr.cell? ⟨b,off+k*5+1,none⟩=_:=(HF.out.below.cell (p:=⟨b,off+(k*5+1),none⟩) g).trans (hc 1 _ rfl);have q2:wr.cell? ⟨b,off+k*5+2,none⟩=_:=(HF.out.below.cell (p:=⟨b,off+(k*5+2),none⟩) g).trans (hc 2 _ rfl);have q3:wr.cell? ⟨b,off+k*5+3,none⟩=_:=(HF.out.below.cell (p:=⟨b,off+(k*5+3),none⟩) g).trans (hc 3 _ rfl);have q4:wr.cell? ⟨b,off+k*5+4,none⟩=_:=(HF.out.below.cell (p:=⟨b,off+(k*5+4),none⟩) g).trans (hc 4 _ rfl);have t:Hid (Ys ds[k]<=1048576):=Zl4 Ys ds k q (by have:=HZ.out;simp only[Z3]at this;omega)
   obtain ⟨x,hx⟩:∃x,x=ds[k]:=⟨_,rfl⟩;have HX:=yS hx;rw [<-hx]at HR q0 q1 q2 q3 q4 t;clear hc f hx;go_wp2_with fail
   refine (Zuj _ x Lk _ t.out HR.out).mono ?_;rintro e w2 ⟨cs2,M2,rfl,g2,o⟩;have HF2:=yS (HF.out.later o);have HS:=yS (HF.out.store a HN.out (fun _=>HX.out) o g2)
   obtain ⟨vA1,vc1,rfl⟩:=ZcW g2.rep;clear g2 o;obtain ⟨d0,e0⟩:∃d,w2.cell? ⟨w.heap.size,k*5,none⟩=some d:=HF2.out.cell a (j:=0) yF;have z0:=HF2.out.frozen (k*5);obtain ⟨d1,e1⟩:∃d,w2.cell? ⟨w.heap.size,k*5+1,none⟩=some d:=HF2.out.cell a (j:=1) yF;have z1:=HF2.out.frozen (k*5+1);obtain ⟨d2,e2⟩:∃d,w2.cell? ⟨w.heap.size,k*5+2,none⟩=some d:=HF2.out.cell a (j:=2) yF;have z2:=HF2.out.frozen (k*5+2);obtain ⟨d3,e3⟩:∃d,w2.cell? ⟨w.heap.size,k*5+3,none⟩=some d:=HF2.out.cell a (j:=3) yF;have z3:=HF2.out.frozen (k*5+3);obtain ⟨d4,e4⟩:∃d,w2.cell? ⟨w.heap.size,k*5+4,none⟩=some d:=HF2.out.cell a (j:=4) yF;have z4:=HF2.out.frozen (k*5+4);go_wp2_with fail
   go_roundw
   case rel=>exact ⟨k+1,yE,by go_num,HS.out⟩
   case measure=>simp [intOf];omega
  .obtain rfl:k=n:=by omega
   go_wp2;go_ret;exact ⟨_,rfl,HF.out.done HN.out⟩
theorem ZqE (cs:List Value) (x:Zu) (L:List Nat) (w:World) (hz:Yt x<=1048576) (h:Yp.rep w cs x L):
  Calls prog 189 #[.agg cs.toArray] w (Zma Yp w x):=by
 obtain ⟨A1,c1,L1,rfl,_hL,t0,n1,m1,s1⟩:=h;unfold maxLen at m1;have S1:=yS s1;clear s1;simp only[Yt]at hz;go_enter func189,ntmps189;go_wp2_with fail
 refine (Zix [.string x.pattern.rel,.slice A1 x.pattern.args.length c1] x.pattern _ _ yE ⟨A1,c1,L1,rfl,rfl,t0,n1,(by unfold maxLen;omega),S1.out.below yI⟩).mono ?_
 rintro e w1 ⟨cs1,M1,rfl,g1,a⟩;obtain ⟨c,d,rfl⟩:=ZgK g1.rep;have G1:=yS (g1.mono (show w.heap.size+3<=_ by simp))
 have lt1:=yS g1.lt;clear g1;have B1:Hid (Below w.heap.size w w1):=Below.trans yI (a.mono yK);have K0:Hid (Blk w1 w.heap.size 206 #[.int .i64 x.kind,.string x.pattern.rel,.slice A1 x.pattern.args.length c1]):=Blk.later (Blk.alloc (Blk.alloc (Blk.new _ _ _) _) _) a;have K1:Hid (Blk w1 (w.heap.size+1) 125 #[.int .i64 0,.string ⟨#[]⟩,.slice none 0 0]):=Blk.later (Blk.alloc (Blk.new_at yG) _) a;have K2:Hid (Blk w1 (w.heap.size+1+1) 125 #[.int .i64 x.kind,.string ⟨#[]⟩,.slice none 0 0]):=Blk.later (Blk.new_at yG) a;have f0:=K0.out.at (i:=0) rfl;have r0:=K1.out.at (i:=0) rfl;have o0:=K2.out.at (i:=0) rfl;have rz0:=K1.out.frozen 0;have oz0:=K2.out.frozen 0;have f1:=K0.out.at (i:=1) rfl;have r1:=K1.out.at (i:=1) rfl;have o1:=K2.out.at (i:=1) rfl;have rz1:=K1.out.frozen 1;have oz1:=K2.out.frozen 1;have f2:=K0.out.at (i:=2) rfl;have r2:=K1.out.at (i:=2) rfl;have o2:=K2.out.at (i:=2) rfl
 have rz2:=K1.out.frozen 2;have oz2:=K2.out.frozen 2;have hz1:w.heap.size+2<w1.heap.size:=by have:=a.size;simp at this;omega
 clear a;go_wp2_with fail
 refine bodyPost_ret (v:=.agg #[.int .i64 x.kind,.string x.pattern.rel,.slice c x.pattern.args.length d]) (by simp [results,results189,go_sem,r0,r1,r2]) rfl ?_
 obtain ⟨_,_,N1,f,g,_,j,k,l⟩:=G1.out.rep;cases f;subst g;exact ZhH (wr:=w1) (M1) ⟨⟨c,d,M1,rfl,rfl,t0,j,k,l⟩,by have o:=G1.out.own;simpa only [AB]using o⟩ (by intro b hb;repeat rw [Below.heap_setCell _ _ _ _ (by dsimp only;omega)]) (by repeat (first|refine Below.setCell ?_ (by dsimp only;omega) _|refine Below.alloc ?_ yK _|exact B1.out))
theorem infoAction:(prog.info? 125).map (fun i=>(i.zero,i.size,i.bytes))=some (some (.agg #[.int .i64 0,.string ⟨#[]⟩,.slice none 0 0]),3,48):=yO
theorem ZoJ (A:Option Addr) (n c:Nat) (ds:List Zu) (L:List Nat) (w:World) (hn:n=ds.length) (hz:Ym ds<=1048576) (h:Sli Yp w A ds L):
  Calls prog 125 #[.slice A n c] w (Zi7 Yp 125 w ds):=by
 obtain ⟨i0,hi,u,v,z⟩:=info_parts infoAction;have H:=yS h;have HN:=yS hn;have hm:n<=1048576:=by simp only[Ym]at hz;omega
 have HZ:=yS hz;clear h hn hz;go_enter func125,ntmps125;go_wp2_with (at_make;refine wpList_make_full _ rfl _ _ 74 rfl w.heap.size 125 i0 _ 3 underlying74 hi u v .i64 .i64 _ _ n rfl rfl rfl rfl (by rw [z];omega) (by unfold maxLen;omega) (A4 _) ?_;intro w1 g hg)
 have hb:Below w.heap.size w w1:=(Below.refl _ _).grown hg (A4 _) yG;have HF0:Hid (Yf Yp 125 w n ds 0 w1):=Yf.start g hb;clear g hg hb;go_wp2;go_loopw [4] (fun i wr=>∃(k:Nat),k<=n/\i=.int .i64 k/\Hid (Yf Yp 125 w n ds k wr)) (fun i _=>n - (intOf i).toNat)
 case atStart=>exact ⟨0,A6 _,rfl,HF0⟩
 case round=>
  obtain ⟨k,hk,rfl,HF⟩:=hrel;by_cases f:k<n
  .have q:k<ds.length:=by have:=HN.out;omega
   obtain ⟨b,off,cs,Lk,rfl,B,C,a,hc⟩:=H.out.at_ q;have l:b<w.heap.size:=H.out.lt b B;have HR:=yS (Yp.keep a (Zy HF.out.below (fun y m=>H.out.lt y (C y m))))
   obtain ⟨A1,c1,rfl⟩:=ZaY a;have q0:wr.cell? ⟨b,off+k*3,none⟩=_:=(HF.out.below.cell (p:=⟨b,off+(k*3+0),none⟩) l).trans (hc 0 _ rfl);have q1:wr.cell? ⟨b,off+k*3+1,none⟩=_:=(HF.out.below.cell (p:=⟨b,off+(k*3+1),none⟩) l).trans (hc 1 _ rfl);have q2:wr.cell? ⟨b,off+k*3+2,none⟩=_:=(HF.out.below.cell (p:=⟨b,off+(k*3+2),none⟩) l).trans (hc 2 _ rfl);have t:Hid (Yt ds[k]<=1048576):=Zl4 Yt ds k q (by have:=HZ.out;simp only[Ym]at this;omega)
   obtain ⟨x,hx⟩:∃x,x=ds[k]:=⟨_,rfl⟩;have HX:=yS hx;rw [<-hx]at HR q0 q1 q2 t;clear hc a hx;go_wp2_with fail
   refine (ZqE _ x Lk _ t.out HR.out).mono ?_;rintro e w2 ⟨cs2,M2,rfl,g2,o⟩;have HF2:=yS (HF.out.later o);have HS:=yS (HF.out.store f HN.out (fun _=>HX.out) o g2)
   obtain ⟨vA1,vc1,rfl⟩:=ZaY g2.rep;clear g2 o;obtain ⟨d0,e0⟩:∃d,w2.cell? ⟨w.heap.size,k*3,none⟩=some d:=HF2.out.cell f (j:=0) yF;have z0:=HF2.out.frozen (k*3);obtain ⟨d1,e1⟩:∃d,w2.cell? ⟨w.heap.size,k*3+1,none⟩=some d:=HF2.out.cell f (j:=1) yF;have z1:=HF2.out.frozen (k*3+1);obtain ⟨d2,e2⟩:∃d,w2.cell? ⟨w.heap.size,k*3+2,none⟩=some d:=HF2.out.cell f (j:=2) yF;have z2:=HF2.out.frozen (k*3+2);go_wp2_with fail
   go_roundw
   case rel=>exact ⟨k+1,yE,by go_num,HS.out⟩
   case measure=>simp [intOf];omega
  .obtain rfl:k=n:=by omega
   go_wp2;go_ret;exact ⟨_,rfl,HF.out.done HN.out⟩
theorem Ztw (cs:List Value) (x:Zg) (L:List Nat) (w:World) (hz:Yv x<=1048576) (h:XW.rep w cs x L):
  Calls prog 66 #[.agg cs.toArray] w (Zma XW w x):=by
 obtain ⟨A1,c1,L1,A2,c2,L2,rfl,_hL,t0,n1,m1,s1,n2,m2,s2⟩:=h;unfold maxLen at m1 m2;have S1:=yS s1;clear s1;have S2:=yS s2;clear s2;simp only[Yv]at hz;go_enter func66,ntmps66;go_wp2_with fail
 refine (Zc8 A1 _ c1 x.cond L1 _ rfl yE (S1.out.below yI)).mono ?_;rintro e w1 ⟨v1,rfl,a1⟩;obtain ⟨d,f,rfl⟩:=a1.shape;have c:=a1.below;obtain ⟨M1,g1⟩:=a1.got;clear a1;have G1:=yS (g1.mono (show w.heap.size+3<=_ by simp))
 have z:=yS g1.lt;clear g1;have B1:Hid (Below w.heap.size w w1):=Below.trans yI (c.mono yK);have K0:Hid (Blk w1 w.heap.size 99 #[.string x.name,.int .i64 x.priority,.slice A1 x.cond.length c1,.slice A2 x.thn.length c2]):=Blk.later (Blk.alloc (Blk.alloc (Blk.new _ _ _) _) _) c;have K1:Hid (Blk w1 (w.heap.size+1) 76 #[.string ⟨#[]⟩,.int .i64 0,.slice none 0 0,.slice none 0 0]):=Blk.later (Blk.alloc (Blk.new_at yG) _) c;have K2:Hid (Blk w1 (w.heap.size+1+1) 76 #[.string x.name,.int .i64 x.priority,.slice none 0 0,.slice none 0 0]):=Blk.later (Blk.new_at yG) c;have f0:=K0.out.at (i:=0) rfl;have r0:=K1.out.at (i:=0) rfl;have o0:=K2.out.at (i:=0) rfl;have g:=K1.out.frozen 0;have j:=K2.out.frozen 0;have f1:=K0.out.at (i:=1) rfl;have r1:=K1.out.at (i:=1) rfl;have o1:=K2.out.at (i:=1) rfl;have k:=K1.out.frozen 1;have l:=K2.out.frozen 1;have f2:=K0.out.at (i:=2) rfl;have r2:=K1.out.at (i:=2) rfl
 have o2:=K2.out.at (i:=2) rfl;have m:=K1.out.frozen 2;have p:=K2.out.frozen 2;have f3:=K0.out.at (i:=3) rfl;have r3:=K1.out.at (i:=3) rfl;have o3:=K2.out.at (i:=3) rfl;have q:=K1.out.frozen 3;have t:=K2.out.frozen 3;have hz1:w.heap.size+2<w1.heap.size:=by have:=c.size;simp at this;omega
 clear c;go_wp2_with fail
 refine (ZoJ A2 _ c2 x.thn L2 _ rfl yE (S2.out.below (by repeat (first|refine Below.setCell ?_ (by dsimp only;omega) _|refine Below.alloc ?_ yK _|exact B1.out)))).mono ?_
 rintro e w2 ⟨v2,rfl,a2⟩;obtain ⟨u,y,rfl⟩:=a2.shape;have a:=a2.below;obtain ⟨M2,g2⟩:=a2.got;clear a2;have G2:=yS (g2.mono (show w1.heap.size<=_ by simp))
 have lt2:=yS g2.lt;clear g2;have B2:Hid (Below w.heap.size w w2):=Below.trans (by repeat (first|refine Below.setCell ?_ (by dsimp only;omega) _|refine Below.alloc ?_ yK _|exact B1.out)) (a.mono yK)
 have G1:Hid (Got (Zw YL) (w.heap.size+3) [.slice d x.cond.length f] x.cond M1 w2):=Got.later (by repeat (first|refine Got.setCell ?_ (by dsimp only;omega) _|exact G1.out)) a
 have K0:=yS (Blk.later (Blk.far K0.out (by dsimp only;omega) _) a)
 have K1:=yS (Blk.later (Blk.far K1.out (by dsimp only;omega) _) a)
 have K2:=yS (Blk.later (Blk.set_ K2.out 2 _) a);clear f0 r0 o0 g j f1 r1 o1 k l f2 r2 o2 m p f3 r3 o3 q t;have f0:=K0.out.at (i:=0) rfl;have r0:=K1.out.at (i:=0) rfl;have o0:=K2.out.at (i:=0) rfl;have g:=K1.out.frozen 0;have j:=K2.out.frozen 0;have f1:=K0.out.at (i:=1) rfl;have r1:=K1.out.at (i:=1) rfl;have o1:=K2.out.at (i:=1) rfl;have k:=K1.out.frozen 1;have l:=K2.out.frozen 1;have f2:=K0.out.at (i:=2) rfl;have r2:=K1.out.at (i:=2) rfl;have o2:=K2.out.at (i:=2) rfl;have m:=K1.out.frozen 2;have p:=K2.out.frozen 2;have f3:=K0.out.at (i:=3) rfl;have r3:=K1.out.at (i:=3) rfl;have o3:=K2.out.at (i:=3) rfl;have q:=K1.out.frozen 3;have t:=K2.out.frozen 3;have hz2:w.heap.size+2<w2.heap.size:=by have:=a.size;simp at this;omega
 have hy2:w1.heap.size<=w2.heap.size:=by have:=a.size;simp at this;omega
 clear a;go_wp2_with fail
 refine bodyPost_ret (v:=.agg #[.string x.name,.int .i64 x.priority,.slice d x.cond.length f,.slice u x.thn.length y]) (by simp [results,results66,go_sem,r0,r1,r2,r3]) rfl ?_
 obtain ⟨A,B,C⟩:=ZH G1.out.rep;obtain ⟨D,E,F⟩:=ZH G2.out.rep;exact ZhH (wr:=w2) (M1++M2) ⟨⟨d,f,M1,u,y,M2,rfl,rfl,t0,A,B,C,D,E,F⟩,by have o:=(Own.append G1.out.own G2.out.own yE z.out);simpa only [AB]using o⟩ (by intro b hb;repeat rw [Below.heap_setCell _ _ _ _ (by dsimp only;omega)]) (by repeat (first|refine Below.setCell ?_ (by dsimp only;omega) _|refine Below.alloc ?_ yK _|exact B2.out))
theorem infoRule:(prog.info? 76).map (fun i=>(i.zero,i.size,i.bytes))=some (some (.agg #[.string ⟨#[]⟩,.int .i64 0,.slice none 0 0,.slice none 0 0]),4,72):=yO
theorem Ze2 (A:Option Addr) (n c:Nat) (ds:List Zg) (L:List Nat) (w:World) (hn:n=ds.length) (hz:Yg ds<=1048576) (h:Sli XW w A ds L):
  Calls prog 13 #[.slice A n c] w (Zi7 XW 76 w ds):=by
 obtain ⟨i0,hi,u,v,z⟩:=info_parts infoRule;have H:=yS h;have HN:=yS hn;have hm:n<=1048576:=by simp only[Yg]at hz;omega
 have HZ:=yS hz;clear h hn hz;go_enter func13,ntmps13;go_wp2_with (at_make;refine wpList_make_full _ rfl _ _ 31 rfl w.heap.size 76 i0 _ 4 underlying31 hi u v .i64 .i64 _ _ n rfl rfl rfl rfl (by rw [z];omega) (by unfold maxLen;omega) (A4 _) ?_;intro w1 l hg)
 have hb:Below w.heap.size w w1:=(Below.refl _ _).grown hg (A4 _) yG;have HF0:Hid (Yf XW 76 w n ds 0 w1):=Yf.start l hb;clear l hg hb;go_wp2;go_loopw [4] (fun i wr=>∃(k:Nat),k<=n/\i=.int .i64 k/\Hid (Yf XW 76 w n ds k wr)) (fun i _=>n - (intOf i).toNat)
 case atStart=>exact ⟨0,A6 _,rfl,HF0⟩
 case round=>
  obtain ⟨k,hk,rfl,HF⟩:=hrel;by_cases a:k<n
  .have q:k<ds.length:=by have:=HN.out;omega
   obtain ⟨b,off,cs,Lk,rfl,B,C,f,hc⟩:=H.out.at_ q;have g:b<w.heap.size:=H.out.lt b B;have HR:=yS (XW.keep f (Zy HF.out.below (fun y m=>H.out.lt y (C y m))))
   obtain ⟨A1,c1,A2,c2,rfl⟩:=Zc2 f;have q0:wr.cell? ⟨b,off+k*4,none⟩=_:=(HF.out.below.cell (p:=⟨b,off+(k*4+0),none⟩) g).trans (hc 0 _ rfl);have q1:wr.cell? ⟨b,off+k*4+1,none⟩=_:=(HF.out.below.cell (p:=⟨b,off+(k*4+1),none⟩) g).trans (hc 1 _ rfl);have q2:wr.cell? ⟨b,off+k*4+2,none⟩=_:=(HF.out.below.cell (p:=⟨b,off+(k*4+2),none⟩) g).trans (hc 2 _ rfl);have q3:wr.cell? ⟨b,off+k*4+3,none⟩=_:=(HF.out.below.cell (p:=⟨b,off+(k*4+3),none⟩) g).trans (hc 3 _ rfl);have t:Hid (Yv ds[k]<=1048576):=Zl4 Yv ds k q (by have:=HZ.out;simp only[Yg]at this;omega)
   obtain ⟨x,hx⟩:∃x,x=ds[k]:=⟨_,rfl⟩;have HX:=yS hx;rw [<-hx]at HR q0 q1 q2 q3 t;clear hc f hx;go_wp2_with fail
   refine (Ztw _ x Lk _ t.out HR.out).mono ?_;rintro e w2 ⟨cs2,M2,rfl,g2,o⟩;have HF2:=yS (HF.out.later o);have HS:=yS (HF.out.store a HN.out (fun _=>HX.out) o g2)
   obtain ⟨vA1,vc1,vA2,vc2,rfl⟩:=Zc2 g2.rep;clear g2 o;obtain ⟨d0,e0⟩:∃d,w2.cell? ⟨w.heap.size,k*4,none⟩=some d:=HF2.out.cell a (j:=0) yF;have z0:=HF2.out.frozen (k*4);obtain ⟨d1,e1⟩:∃d,w2.cell? ⟨w.heap.size,k*4+1,none⟩=some d:=HF2.out.cell a (j:=1) yF;have z1:=HF2.out.frozen (k*4+1);obtain ⟨d2,e2⟩:∃d,w2.cell? ⟨w.heap.size,k*4+2,none⟩=some d:=HF2.out.cell a (j:=2) yF;have z2:=HF2.out.frozen (k*4+2);obtain ⟨d3,e3⟩:∃d,w2.cell? ⟨w.heap.size,k*4+3,none⟩=some d:=HF2.out.cell a (j:=3) yF;have z3:=HF2.out.frozen (k*4+3);go_wp2_with fail
   go_roundw
   case rel=>exact ⟨k+1,yE,by go_num,HS.out⟩
   case measure=>simp [intOf];omega
  .obtain rfl:k=n:=by omega
   go_wp2;go_ret;exact ⟨_,rfl,HF.out.done HN.out⟩
end
end Go.Proofs.YtlpkbfjcdaanmaaGreatDoor
