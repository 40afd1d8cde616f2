/- Parts of this proof, joined; what they hold is said at the theorems. -/
import Derived.Test.YtnacpkmpdlodoaaGreatDoorTrimmedQ7
import Derived.Test.YtnacpkmpdlodoaaGreatDoorTrimmedQ8
import Derived.Test.YtnacpkmpdlodoaaGreatDoorTrimmedQ5
import Derived.Test.YtnacpkmpdlodoaaGreatDoorTrimmedQ1
import Derived.Test.YtnacpkmpdlodoaaGreatDoorTrimmedQ6
import Derived.Test.YtnacpkmpdlodoaaGreatDoorProg
import Derived.OwnWalk
import Derived.Outline
import Derived.WalkSpells
import Derived.StillTailTactics
import Derived.Deep.RegionHeld3
import Derived.Test.YtnacpkmpdlodoaaGreatDoorTrimmedQ3
import Derived.Test.YtnacpkmpdlodoaaGreatDoorTrimmedQ4
import Derived.Deep.Slices
import Derived.ChangeArms
import Derived.ProofKit
open Array renaming getElem?_eq_some_iff→BB
open Bool renaming and_eq_true→AN,or_eq_true→Ad
open Int renaming toNat_natCast→AW,eq_ofNat_of_zero_le→Ac
open List renaming map→A0,mem_append→AA,append_nil→AC,getElem?_eq_some_iff→AH,append_assoc→AI,nil_append→AJ,mem_append_right→AK,mem_append_left→AM,length_set→AP,nodup_append→AQ,range→AS,replicate→AT,length_append→AY,mem_cons→AZ,length_map→Ae,not_mem_nil→Ah,getElem?_append_right→Aj,nodup_cons→Ak,toArray→Am,all_eq_true→An,sublist_append_right→Ap,getElem?_eq_getElem→Aq,drop_of_length_le→As,length_take→Ax,mem_cons_of_mem→Ay,drop_eq_getElem_cons→Az,map_append→B3,eq_nil_of_length_eq_zero→BA
open List.Sublist renaming append→AU,refl→Aa
open List.cons renaming injEq→B4
open Nat renaming le_trans→AD,lt_of_lt_of_le→AE,le_refl→AL,zero_le→AX,mul_le_mul_right→B5,eq_zero_or_pos→B9,testBit_or→BC
open Option renaming bind_eq_some_iff→AB,bind_some→Ab
open Option.some renaming inj→A9,injEq→Aw
open Go.Proofs.Tryz
set_option linter.unusedSimpArgs false
set_option linter.unusedVariables false
set_option maxRecDepth 1000000
set_option maxHeartbeats 4000000
open Go.Lib renaming hid→yS
namespace Go.Proofs.YtnacpkmpdlodoaaGreatDoor
open Go.IntKind
section
theorem ZmV{b:List Zf}{d:List Za}{r:((List Za)×Zl×(List Yc)×Bool)}(h:QZ b d=some r):Zp prog J0 55 [(false,[.sl 87 4 (A0 ZF b)]),(false,[.sl 35 2 (A0 Zq d)])] [(false,[(false,.sl 35 2 (A0 Zq r.1))]),(true,[(false,.int .i64 r.2.1.nodes),(false,.sl 109 3 (A0 ZJ r.2.1.reasons))]),(false,[(true,.sl 111 3 (A0 QQ r.2.2.1))]),(false,[(false,.bool r.2.2.2)])]:=by
 refine fnk func55 rfl ?_;unfold QZ at h;simp only[fnS,f55,Zt,go_sem,seval];refine Zc h fun v1 H h=>Zd (ZbK H)<|yA ?_;refine yB h (fun _ h=>?_) fun _ h=>?_;refine Zk h (fun i s st=>match s with|(f,g)=>IV [(0,yM (yX b)),(1,yM (yU d)),(5,.bp 0 0),(8,.p false [.row 1]),(10,.bp 2 0),(11,.p false [.row 4]),(12,yL i)] [.box 53 [.c (.int .i64 0),.nil 109 3],.row 35 2 (A0 Zq v1.1) 2,.box 53 [.c (.int .i64 (v1.1.length:Int)),.row 3],.row 109 3 (A0 ZJ f) 2,.row 111 3 (A0 QQ g) 2] st) [(true,240,1)] [16,96,240,352,272] yF yD ?_ ?_;rintro _ _ ⟨f,g⟩ ⟨_,_,_⟩ _ k y I h _;simp only[go_sem,seval,Zb]at y;obtain ⟨⟨_,J,_,_,_,_,_⟩,_,_,_,_,_,hn⟩:=y;subst hn;have K:=WF.slotL I J (j:=0) rfl;have:=ZH k;have:=ZI k;have:=Zm (ZG k) K;simp only[*,go_sem,seval];refine Zc h fun _ L h=>Zd (Qq L) ?_;obtain ⟨M,h⟩:=Zs h;try simp only[Nat.reduceLeDiff]at M
 obtain ⟨N,h⟩:=Zs h;try simp only[Nat.reduceLeDiff]at N
 simp only[*,go_sem,seval];exact yR h [0,1,2,229,325];rintro ⟨f,g⟩ ⟨_,_,_⟩ z _ h;simp only[go_sem,seval,Zb]at z;obtain ⟨⟨_,_,_,_,_,_,_⟩,_,_,_,_,_,hn⟩:=z;subst hn;have:=ZE (d.length);simp only[*,go_sem,seval];refine Zk h (fun i s st=>match s with|(l,m)=>IV [(0,yM (yX b)),(5,.bp 0 0),(8,.p false [.row 1]),(10,.bp 2 0),(11,.p false [.row 4]),(13,yL i)] [.box 53 [.c (.int .i64 0),.nil 109 3],.row 35 2 (A0 Zq v1.1) 2,.box 53 [.c (.int .i64 (v1.1.length:Int)),.row 3],.row 109 3 (A0 ZJ l) 2,.row 111 3 (A0 QQ m) 1] st) [(true,4,1)] [0,1,2,3,4] yF yD ?_ ?_;rintro A O ⟨l,m⟩ ⟨_,_,_⟩ _ e B P h Q;simp only[go_sem,seval,Zb]at B;obtain ⟨⟨R,_,_,_,_,_⟩,_,_,_,_,_,hn⟩:=B;subst hn;have S:=WF.slotL P R (j:=0) rfl;have:=ZH e;have:=ZI e;have:=Zm (ZG e) S;simp only[*,go_sem,seval];obtain ⟨_,T,h⟩:=Zn h;refine Zhp (ZcX T)<|yA ?_;refine Zc h fun o U h=>Zd (Zdd U)<|yA ?_
 refine Zk h (fun i s st=>match s with|(q,t)=>IV [(0,yM (yX b)),(5,.bp 0 0),(8,.p false [.row 1]),(10,.bp 2 0),(11,.p false [.row 4]),(13,yL A),(14,.p false [.row 5]),(15,yL i)] [.box 53 [.c (.int .i64 0),.nil 109 3],.row 35 2 (A0 Zq v1.1) 2,.box 53 [.c (.int .i64 (v1.1.length:Int)),.row 3],.row 109 3 (A0 ZJ q) 2,.row 111 3 (A0 QQ t) 1,.row 81 2 (A0 YD o) 2] st) [] [0,1,2,3,4,165] yF yD ?_ ?_;rintro V _ ⟨q,t⟩ ⟨_,_,_⟩ _ u C W h X;simp only[go_sem,seval,Zb]at C;obtain ⟨⟨_,_,_,_,_,_,_,_⟩,_,_,_,_,_,Y,hn⟩:=C;subst hn;have Z:=WF.rowL W Y;have:=ZH u;have:=ZI u;have:=Zm (ZG u) Z;simp only[*,go_sem,seval]
 refine Zk h (fun i s st=>match s with|(v,w)=>IV [(0,yM (yX b)),(5,.bp 0 0),(8,.p false [.row 1]),(10,.bp 2 0),(11,.p false [.row 4]),(13,yL A),(14,.p false [.row 5]),(15,yL V),(16,yL i)] [.box 53 [.c (.int .i64 0),.nil 109 3],.row 35 2 (A0 Zq v1.1) 2,.box 53 [.c (.int .i64 (v1.1.length:Int)),.row 3],.row 109 3 (A0 ZJ v) 2,.row 111 3 (A0 QQ w) 1,.row 81 2 (A0 YD o) 2] st) [] [0,1,2,3,4,5] yF yD ?_ ?_;rintro _ _ ⟨v,w⟩ ⟨_,_,_⟩ _ x D aa h ab;simp only[go_sem,seval,Zb]at D;obtain ⟨⟨ac,_,_,_,_,_,_,_,_⟩,_,_,_,_,_,_,hn⟩:=D;subst hn;have ad:=WF.elL (WF.slotD aa ac (j:=0) rfl) e (j:=3) rfl;have:=ZH x;have:=ZI x;have:=Zm (ZG x) ad;simp only[*,go_sem,seval];refine Zc h fun _ ae h=>Zd (Ziq ae)<|yA ?_;refine Zc h fun _ af h=>Zd (Zk8 af)<|yA ?_;refine yB h (fun _ h=>?_) fun _ h=>?_;exact yR h [0,1,2,3,4,5];refine yB h (fun _ h=>?_) fun _ h=>?_;replace h:=Zr h ab;replace h:=Zr h X
 replace h:=Zr h Q;cases h;exact yD;obtain ⟨ag,h⟩:=Zs h;try simp only[Nat.reduceLeDiff]at ag
 obtain ⟨ah,h⟩:=Zs h;try simp only[Nat.reduceLeDiff]at ah
 simp only[*,go_sem,seval];exact yR h [0,1,2,550,790,5];rintro ⟨v,w⟩ ⟨_,_,_⟩ E _ h;simp only[go_sem,seval,Zb]at E;obtain ⟨⟨_,_,_,_,_,_,_,_,_⟩,_,_,_,_,_,_,hn⟩:=E;subst hn;have:=ZE (O.thn.length);simp only[*,go_sem,seval];exact yR h [0,1,2,3,4,5];rintro ⟨q,t⟩ ⟨_,_,_⟩ F _ h;simp only[go_sem,seval,Zb]at F;obtain ⟨⟨_,_,_,_,_,_,_,_⟩,_,_,_,_,_,_,hn⟩:=F;subst hn;have:=ZE (o.length);simp only[*,go_sem,seval];exact yR h [0,1,2,3,4];rintro ⟨l,m⟩ ⟨_,_,_⟩ G _ h;simp only[go_sem,seval,Zb]at G;obtain ⟨⟨_,_,_,_,_,_⟩,_,_,_,_,_,hn⟩:=G;subst hn;have:=ZE (b.length);iterate 2 (cases h;exact yD)
theorem ZnP{b:List Zf}{d:List Za}{r:((List Za)×Zl×(List Yc)×Bool)}(h:XI b d=some r):Zp prog J0 55 [(false,[.sl 87 4 (A0 ZF b)]),(false,[.sl 35 2 (A0 Zq d)])] [(false,[(false,.sl 35 2 (A0 Zq r.1))]),(true,[(false,.int .i64 r.2.1.nodes),(false,.sl 109 3 (A0 ZJ r.2.1.reasons))]),(false,[(false,.any)]),(false,[(false,.bool r.2.2.2)])]:=by
 refine fnk func55 rfl ?_;unfold XI at h;simp only[fnS,f55,Zt,go_sem,seval];refine Zc h fun v1 H h=>Zd (ZbK H)<|yA ?_;refine yB h (fun _ h=>?_) fun _ h=>?_;refine Zk h (fun i s st=>match s with|(f,g)=>IV [(0,yM (yX b)),(1,yM (yU d)),(5,.bp 0 0),(8,.p false [.row 1]),(10,.bp 2 0),(11,.p false [.row 4]),(12,yL i)] [.box 53 [.c (.int .i64 0),.nil 109 3],.row 35 2 (A0 Zq v1.1) 2,.box 53 [.c (.int .i64 (v1.1.length:Int)),.row 3],.row 109 3 (A0 ZJ f) 2,.row 111 3 (A0 QQ g) 2] st) [(true,240,1)] [16,96,240,352,272] yF yD ?_ ?_;rintro _ _ ⟨f,g⟩ ⟨_,_,_⟩ _ k y I h _;simp only[go_sem,seval,Zb]at y;obtain ⟨⟨_,J,_,_,_,_,_⟩,_,_,_,_,_,hn⟩:=y;subst hn;have K:=WF.slotL I J (j:=0) rfl;have:=ZH k;have:=ZI k;have:=Zm (ZG k) K;simp only[*,go_sem,seval];refine Zc h fun _ L h=>Zd (Qq L) ?_;obtain ⟨M,h⟩:=Zs h;try simp only[Nat.reduceLeDiff]at M
 obtain ⟨N,h⟩:=Zs h;try simp only[Nat.reduceLeDiff]at N
 simp only[*,go_sem,seval];exact yR h [0,1,2,229,325];rintro ⟨f,g⟩ ⟨_,_,_⟩ z _ h;simp only[go_sem,seval,Zb]at z;obtain ⟨⟨_,_,_,_,_,_,_⟩,_,_,_,_,_,hn⟩:=z;subst hn;have:=ZE (d.length);simp only[*,go_sem,seval];refine Zk h (fun i s st=>match s with|(l,m)=>IV [(0,yM (yX b)),(5,.bp 0 0),(8,.p false [.row 1]),(10,.bp 2 0),(11,.p false [.row 4]),(13,yL i)] [.box 53 [.c (.int .i64 0),.nil 109 3],.row 35 2 (A0 Zq v1.1) 2,.box 53 [.c (.int .i64 (v1.1.length:Int)),.row 3],.row 109 3 (A0 ZJ l) 2,.row 111 3 (A0 QQ m) 1] st) [(true,4,1)] [0,1,2,3,4] yF yD ?_ ?_;rintro A O ⟨l,m⟩ ⟨_,_,_⟩ _ e B P h Q;simp only[go_sem,seval,Zb]at B;obtain ⟨⟨R,_,_,_,_,_⟩,_,_,_,_,_,hn⟩:=B;subst hn;have S:=WF.slotL P R (j:=0) rfl;have:=ZH e;have:=ZI e;have:=Zm (ZG e) S;simp only[*,go_sem,seval];obtain ⟨_,T,h⟩:=Zn h;refine Zhp (ZcX T)<|yA ?_;refine Zc h fun o U h=>Zd (Zdd U)<|yA ?_
 refine Zk h (fun i s st=>match s with|(q,t)=>IV [(0,yM (yX b)),(5,.bp 0 0),(8,.p false [.row 1]),(10,.bp 2 0),(11,.p false [.row 4]),(13,yL A),(14,.p false [.row 5]),(15,yL i)] [.box 53 [.c (.int .i64 0),.nil 109 3],.row 35 2 (A0 Zq v1.1) 2,.box 53 [.c (.int .i64 (v1.1.length:Int)),.row 3],.row 109 3 (A0 ZJ q) 2,.row 111 3 (A0 QQ t) 1,.row 81 2 (A0 YD o) 2] st) [] [0,1,2,3,4,165] yF yD ?_ ?_;rintro V _ ⟨q,t⟩ ⟨_,_,_⟩ _ u C W h X;simp only[go_sem,seval,Zb]at C;obtain ⟨⟨_,_,_,_,_,_,_,_⟩,_,_,_,_,_,Y,hn⟩:=C;subst hn;have Z:=WF.rowL W Y;have:=ZH u;have:=ZI u;have:=Zm (ZG u) Z;simp only[*,go_sem,seval]
 refine Zk h (fun i s st=>match s with|(v,w)=>IV [(0,yM (yX b)),(5,.bp 0 0),(8,.p false [.row 1]),(10,.bp 2 0),(11,.p false [.row 4]),(13,yL A),(14,.p false [.row 5]),(15,yL V),(16,yL i)] [.box 53 [.c (.int .i64 0),.nil 109 3],.row 35 2 (A0 Zq v1.1) 2,.box 53 [.c (.int .i64 (v1.1.length:Int)),.row 3],.row 109 3 (A0 ZJ v) 2,.row 111 3 (A0 QQ w) 1,.row 81 2 (A0 YD o) 2] st) [] [0,1,2,3,4,5] yF yD ?_ ?_;rintro _ _ ⟨v,w⟩ ⟨_,_,_⟩ _ x D aa h ab;simp only[go_sem,seval,Zb]at D;obtain ⟨⟨ac,_,_,_,_,_,_,_,_⟩,_,_,_,_,_,_,hn⟩:=D;subst hn;have ad:=WF.elL (WF.slotD aa ac (j:=0) rfl) e (j:=3) rfl;have:=ZH x;have:=ZI x;have:=Zm (ZG x) ad;simp only[*,go_sem,seval];refine Zc h fun _ ae h=>Zd (Ziq ae)<|yA ?_;refine Zc h fun _ af h=>Zd (Zk8 af)<|yA ?_;refine yB h (fun _ h=>?_) fun _ h=>?_;exact yR h [0,1,2,3,4,5];refine yB h (fun _ h=>?_) fun _ h=>?_;replace h:=Zr h ab;replace h:=Zr h X
 replace h:=Zr h Q;cases h;exact yD;obtain ⟨ag,h⟩:=Zs h;try simp only[Nat.reduceLeDiff]at ag
 obtain ⟨ah,h⟩:=Zs h;try simp only[Nat.reduceLeDiff]at ah
 simp only[*,go_sem,seval];exact yR h [0,1,2,550,790,5];rintro ⟨v,w⟩ ⟨_,_,_⟩ E _ h;simp only[go_sem,seval,Zb]at E;obtain ⟨⟨_,_,_,_,_,_,_,_,_⟩,_,_,_,_,_,_,hn⟩:=E;subst hn;have:=ZE (O.thn.length);simp only[*,go_sem,seval];exact yR h [0,1,2,3,4,5];rintro ⟨q,t⟩ ⟨_,_,_⟩ F _ h;simp only[go_sem,seval,Zb]at F;obtain ⟨⟨_,_,_,_,_,_,_,_⟩,_,_,_,_,_,_,hn⟩:=F;subst hn;have:=ZE (o.length);simp only[*,go_sem,seval];exact yR h [0,1,2,3,4];rintro ⟨l,m⟩ ⟨_,_,_⟩ G _ h;simp only[go_sem,seval,Zb]at G;obtain ⟨⟨_,_,_,_,_,_⟩,_,_,_,_,_,hn⟩:=G;subst hn;have:=ZE (b.length);iterate 2 (cases h;exact yD)
theorem Zml{A:Zi}{r:(Zf×Zi)}(h:ZeX A=some r):Ys prog J0 JF0 192 (.box 77 (ZS A)) [] [(true,[(false,.str r.1.name),(false,.int .i64 r.1.priority),(false,.sl 144 5 (A0 ZT r.1.cond)),(false,.sl 90 3 (A0 ZM r.1.thn))])] (.box 77 (ZS r.2)):=by
 refine fnh func192 rfl ?_;unfold ZeX at h;simp only[fnH,f192,YF,YE,Yh,go_sem,seval];obtain ⟨v1,a,h⟩:=Zn h;refine ZA (ZdS a)<|yA ?_;refine yB h (fun _ h=>?_) fun _ h=>?_;obtain ⟨_,b,h⟩:=Zn h;refine ZA (ZpT b) ?_;cases h;exact yD;obtain ⟨_,c,h⟩:=Zn h;refine ZA (Zd9 c) ?_;cases h;exact yD
theorem Zs0{A:List Zf}{B:List Za}{r:((List Za)×Bool)}(h:Za9 A B=some r):Zp prog J0 21 [(false,[.sl 87 4 (A0 ZF A)]),(false,[.sl 35 2 (A0 Zq B)])] [(false,[(false,.sl 35 2 (A0 Zq r.1))]),(false,[(false,.bool r.2)])]:=by
 refine fnk func21 rfl ?_;unfold Za9 at h;simp only[fnS,f21,Zt,go_sem,seval];refine Zc h fun v1 a h=>Zd (ZjQ a)<|yA ?_;refine yB h (fun _ h=>?_) fun _ h=>?_;refine Zc h fun _ b h=>Zd (ZpX b) ?_;iterate 2 (cases h;exact yD)
theorem Zpz{C:Zf}{B A:List Za}{r:(Zw×Bool)}(h:ZeE C B A=some r):Zp prog J0 52 [(true,ZF C),(false,[.sl 35 2 (A0 Zq B)]),(false,[.sl 35 2 (A0 Zq A)])] [(true,[(true,.sl 35 2 (A0 Zq r.1.facts)),(true,.sl 149 2 (A0 Yi r.1.binding))]),(false,[(false,.bool r.2)])]:=by
 refine fnk func52 rfl ?_;unfold ZeE at h;simp only[fnS,f52,Zt,go_sem,seval];refine Zc h fun v1 e h=>Zd (Zp6 e)<|yA ?_;refine Zk h (fun i _ st=>IV [(2,yM (yU A)),(6,.bp 0 0),(8,.p false [.row 1]),(9,yL i)] [.box 81 [.nil 35 2,.nil 149 2],.row 81 2 (A0 YD v1) 2] st) [] [16,128] yF yD ?_ ?_;rintro _ _ ⟨⟩ ⟨_,_,_⟩ _ a b f h g;simp only[go_sem,seval,Zb]at b;obtain ⟨⟨_,_,_,_⟩,_,j,D⟩:=b;subst D;have k:=WF.rowL f j;have:=ZH a;have:=ZI a;have:=Zm (ZG a) k;simp only[*,go_sem,seval];refine Zc h fun _ l h=>Zd (ZnF l)<|yA ?_;refine yB h (fun _ h=>?_) fun _ h=>?_;replace h:=Zr h g;cases h;exact yD;exact yR h [0,1];rintro ⟨⟩ ⟨_,_,_⟩ d _ h;simp only[go_sem,seval,Zb]at d;obtain ⟨⟨_,_,_,_⟩,_,_,D⟩:=d;subst D;have:=ZE (v1.length);cases h;exact yD
end
section
open Go.RowKit
structure Enc {α:Type}(c:Yk α) (f:α->List CT):Prop where
 to:∀{w:World} {cs:List Value} {x:α} {L:List Nat},c.rep w cs x L->RCs w (f x) cs L
 of:∀{w:World} {cs:List Value} {x:α} {L:List Nat},RCs w (f x) cs L->c.rep w cs x L
section
variable {α:Type} {c:Yk α} {f:α->List CT} {w:World}
theorem Enc.reps(h:Enc c f):∀{ds:List α}{xs:List Value}{L:List Nat},c.reps w xs ds L->REs w c.size (ds.map f) xs L
 | [],_,_,h1=>h1
 |_::_,_,_,⟨c1,c2,L1,L2,h1,h2,h3,h4⟩=>⟨c1,c2,L1,L2,h1,h2,⟨h.to h3,c.len h3⟩,h.reps h4⟩
theorem Enc.reps_of(h:Enc c f):∀{ds:List α}{xs:List Value}{L:List Nat},REs w c.size (ds.map f) xs L->c.reps w xs ds L
 | [],_,_,h1=>h1
 |_::_,_,_,⟨c1,c2,L1,L2,h1,h2,h3,h4⟩=>⟨c1,c2,L1,L2,h1,h2,h.of h3.1,h.reps_of h4⟩
theorem Enc.sl(h:Enc c f)(e:Nat){v:Value}{ds:List α}{L:List Nat}:(ZQ c).rep w [v] ds L↔RC w (.sl e c.size (ds.map f)) v L:=by
 constructor
 .rintro ⟨A,cap,B,G,F,xs,L0,L1,C,E,D⟩;obtain rfl:v=_:=by simpa using B
  exact ⟨A,cap,xs,L0,L1,yG,by simpa using G,F,C,c.pos,by simpa using E,h.reps D⟩
 .rintro ⟨A,cap,xs,L0,L1,B,G,F,C,H,E,D⟩;exact ⟨A,cap,by simpa using B,by simpa using G,F,xs,L0,L1,C,by simpa using E,h.reps_of D⟩
theorem RCs.solo{x:CT}{v:Value}{L:List Nat}(h:RC w x v L):RCs w [x] [v] L:=⟨v,[],L,[],rfl,yG,h,rfl,rfl⟩
theorem RCs.more{x:CT}{v:Value}{L M:List Nat}{r:List CT}{cs:List Value}(h:RC w x v L)(k:RCs w r cs M):RCs w (x::r) (v::cs) (L++M):=⟨v,cs,L,M,rfl,rfl,h,k⟩
end
theorem ZfO:Enc Zj7 ZP where
 to:=fun ⟨B,A⟩=>by subst B;subst A;exact RCs.solo ⟨rfl,rfl⟩
 of:=fun ⟨v,F,L1,L2,B,A,E,D,C⟩=>by
  obtain ⟨rfl,rfl⟩:=E;subst D;subst C;exact ⟨B,A⟩
theorem ZCG:Enc ZBv ZbA where
 to:=fun ⟨B,A⟩=>by subst B;subst A;exact RCs.solo ⟨rfl,rfl⟩
 of:=fun ⟨v,F,L1,L2,B,A,E,D,C⟩=>by
  obtain ⟨rfl,rfl⟩:=E;subst D;subst C;exact ⟨B,A⟩
theorem encStr:Enc ZsX ZC where
 to:=fun ⟨C,B,A⟩=>by subst C;subst B;exact RCs.solo ⟨rfl,rfl,A⟩
 of:=fun ⟨v,F,L1,L2,C,B,A,E,D⟩=>by
  obtain ⟨rfl,rfl,t⟩:=A;subst E;subst D;exact ⟨C,B,t⟩
def Zu1(w:World):Bool×List CT->Value->Prop:=Zh3 w fun _=>False
theorem Zox{α:Type}{c:Yk α}{f:α->List CT}(h:Enc c f)(e:Nat){w:World}{v:Value}{ds:List α}{L:List Nat}(A:(ZQ c).rep w [v] ds L):Zu1 w (false,[.sl e c.size (ds.map f)]) v:=.inr ⟨rfl,_,L,rfl,(h.sl e).1 A,fun _ _ h=>h⟩
theorem ZsA(w:World)(n:Int):Zu1 w (false,[.int .i64 n]) (.int .i64 n):=.inr ⟨rfl,_,[],rfl,⟨rfl,rfl⟩,fun _ _ h=>h⟩
theorem ZkN{α:Type}{c:Yk α}{f:α->List CT}(h:Enc c f){w:World}{vs:List Value}{x:α}{L:List Nat}(A:c.rep w vs x L):Zu1 w (true,f x) (.agg vs.toArray):=.inl ⟨rfl,vs,L,rfl,h.to A,fun _ _ h=>h⟩
section
variable {w w':World} {v:Value} {e:Ending}
theorem Zhd{B:Nat}{n:Nat->Prop}{x:RT}(h:Zgi w B n [x] v):∃F,OP w B n x v F/\Own w B F:=by
 obtain ⟨vs,F,⟨u,C,F1,F2,rfl,rfl,D,rfl,rfl⟩,A,rfl⟩:=h;rw [AC]at A;exact ⟨F1,by simpa using D,A⟩
theorem ZGs{α:Type}{c:Yk α}{f:α->List CT}(h:Enc c f){t:Nat}{ds:List α}{n:Nat->Prop}(B:Zgi w' w.heap.size n [(false,[(false,.sl t c.size (ds.map f))])] v)(C:Below w.heap.size w w'):ZhA c t w v ds w':=by
 obtain ⟨F,A,H⟩:=Zhd B;rcases A with ⟨A,_⟩|⟨_,ct,A,G⟩
 .simp at A
 .obtain rfl:_=ct:=by simpa using A
  obtain ⟨_,cs,L,E,D,rfl,_⟩:=G;exact ⟨⟨cs,L,by simpa using E,h.reps_of D,H⟩,C⟩
theorem Zsg{n:Int}{B:Nat}{m:Nat->Prop}(C:Zgi w B m [(false,[(false,.int .i64 n)])] v):v=.int .i64 n:=by
 obtain ⟨F,A,E⟩:=Zhd C;rcases A with ⟨A,_⟩|⟨_,ct,A,D⟩
 .simp at A
 .obtain rfl:_=ct:=by simpa using A
  exact D.1.1
theorem Zto{b:Bool}{B:Nat}{m:Nat->Prop}(C:Zgi w B m [(false,[(false,.bool b)])] v):v=.bool b:=by
 obtain ⟨F,A,E⟩:=Zhd C;rcases A with ⟨A,_⟩|⟨_,ct,A,D⟩
 .simp at A
 .obtain rfl:_=ct:=by simpa using A
  exact D.1.1
theorem ZCu{s:BYT}{B:Nat}{m:Nat->Prop}(C:Zgi w B m [(false,[(false,.str s)])] v):v=.string s:=by
 obtain ⟨F,A,E⟩:=Zhd C;rcases A with ⟨A,_⟩|⟨_,ct,A,D⟩
 .simp at A
 .obtain rfl:_=ct:=by simpa using A
  exact D.1.1
end
section
variable {P:Program} {J:World->Prop} {f:FuncId} {args:List (Bool×List CT)} {res:List RT}
theorem Zp.calls(h:Zp P J f args res){w:World}{vs:List Value}(A:J w)(ha:ZW (Zu1 w) args vs):Calls P f vs.toArray w fun e w'=>∃v n,e=.returned v/\Zgi w' w.heap.size n res v/\Below w.heap.size w w':=
 (h.2 w (fun _=>False) vs A (fun _ h=>h.elim) ha).mono fun _ _ ⟨v,n,D,C,_,B⟩=>⟨v,n,D,C,B⟩
theorem Zp.givesS{α:Type}{c:Yk α}{g:α->List CT}{t:Nat}{ds:List α}(h:Zp P J f args [(false,[(false,.sl t c.size (ds.map g))])])(B:Enc c g){w:World}{vs:List Value}(A:J w)(ha:ZW (Zu1 w) args vs):Calls P f vs.toArray w (Zsu c t w ds):=
 (h.calls A ha).mono fun _ _ ⟨v,_,E,D,C⟩=>⟨v,E,ZGs B D C⟩
theorem Zp.givesB{b:Bool}(h:Zp P J f args [(false,[(false,.bool b)])]){w:World}{vs:List Value}(A:J w)(ha:ZW (Zu1 w) args vs):Calls P f vs.toArray w fun e w'=>e=.returned (.bool b)/\Below w.heap.size w w':=
 (h.calls A ha).mono fun _ _ ⟨v,_,D,C,B⟩=>⟨by rw [D,Zto C],B⟩
theorem Zp.givesI{b:Int}(h:Zp P J f args [(false,[(false,.int .i64 b)])]){w:World}{vs:List Value}(A:J w)(ha:ZW (Zu1 w) args vs):Calls P f vs.toArray w fun e w'=>e=.returned (.int .i64 b)/\Below w.heap.size w w':=
 (h.calls A ha).mono fun _ _ ⟨v,_,D,C,B⟩=>⟨by rw [D,Zsg C],B⟩
def Zsd{α:Type}(c:Yk α)(t:Nat)(w:World)(ds:List α)(b:Bool):Ending->World->Prop:=fun e w'=>∃v,e=.returned (.tuple #[v,.bool b])/\ZhA c t w v ds w'
theorem ZvI{w:World}{B:Nat}{n:Nat->Prop}:∀{l:List CT}{cs:List Value}{F:List Nat},OCs w B n (l.map fun y=>(false,y)) cs F->∃F',F'.Sublist F/\RCs w l cs F'
 | [],_,_,⟨h1,h2⟩=>⟨[],yG,h1,rfl⟩
 |x::l,_,_,⟨v,vs,F1,F2,rfl,rfl,h1,h2⟩=>by
  obtain ⟨F2',C,I⟩:=ZvI h2;have key:∃F1',F1'.Sublist F1/\RC w x v F1':=by
   cases x with
   |sl e q xs=>
    obtain ⟨O,cs,L,N,M,K,P⟩:=h1;obtain ⟨A,cap,L0,D,C,H,G,E⟩:=Sl.row N;exact ⟨L0++L,by rw [K];exact AU E (Aa _),A,cap,cs,L0,L,D,C,H,rfl,O,G,M⟩
   |int k i=>exact ⟨[],yG,h1.1⟩
   |bool b=>exact ⟨[],yG,h1.1⟩
   |str s=>exact ⟨[],yG,h1.1⟩
   |ifc s=>exact ⟨[],yG,h1.1⟩
   |any=>exact ⟨[],yG,h1.1⟩
   |_=>exact h1.elim
  obtain ⟨F1',D,J⟩:=key;exact ⟨F1'++F2',AU D C,v,vs,F1',F2',rfl,rfl,J,I⟩
end
end
theorem Zau:Enc Yf Zq where
 to:=fun {w cs x L} h=>by
  obtain ⟨A1,E,L1,rfl,rfl,A,C,D,B⟩:=h;have F:RCs w (Zq x) _ _:=RCs.more ⟨rfl,rfl,A⟩ (RCs.solo ((encStr.sl 9).1 ⟨A1,E,rfl,C,D,B⟩));simpa only [AJ,AC,AI]using F
 of:=fun {w cs x L} h=>by
  obtain ⟨J,M,K0,M0,rfl,rfl,H,v1,K,K1,M1,rfl,rfl,G,rfl,rfl⟩:=h;obtain ⟨rfl,rfl,A⟩:=H;obtain ⟨A1,E,I,C,D,B⟩:=(encStr.sl 9).2 G;cases I;exact ⟨A1,E,_,rfl,by simp only[AJ,AC,AI],A,C,D,B⟩
theorem Zm9:Enc Zez XP where
 to:=fun {w cs x L} h=>by
  obtain ⟨A1,J,L1,A2,I,L2,rfl,rfl,B,A,F,H,D,E,G,C⟩:=h;have K:RCs w (XP x) _ _:=RCs.more ⟨rfl,rfl,B⟩ (RCs.more ((encStr.sl 9).1 ⟨A1,J,rfl,F,H,D⟩) (RCs.more ⟨rfl,rfl,A⟩ (RCs.solo ((ZfO.sl 3).1 ⟨A2,I,rfl,E,G,C⟩))));simpa only [AJ,AC,AI]using K
 of:=fun {w cs x L} h=>by
  obtain ⟨V,r0,K0,M0,rfl,rfl,P,v1,r1,K1,M1,rfl,rfl,O,U,r2,K2,M2,rfl,rfl,N,T,W,K3,M3,rfl,rfl,M,rfl,rfl⟩:=h;obtain ⟨rfl,rfl,B⟩:=P;obtain ⟨A1,J,S,F,H,D⟩:=(encStr.sl 9).2 O;cases S;obtain ⟨rfl,rfl,A⟩:=N;obtain ⟨A2,I,R,E,G,C⟩:=(ZfO.sl 3).2 M;cases R;exact ⟨A1,J,_,A2,I,_,rfl,by simp only[AJ,AC,AI],B,A,F,H,D,E,G,C⟩
theorem Zq2:Enc ZsI ZJ where
 to:=fun {w cs x L} h=>by
  obtain ⟨A1,H,L1,A2,G,L2,rfl,rfl,D,F,B,C,E,A⟩:=h;have I:RCs w (ZJ x) _ _:=RCs.more ⟨rfl,rfl⟩ (RCs.more ((ZfO.sl 3).1 ⟨A1,H,rfl,D,F,B⟩) (RCs.solo ((ZfO.sl 3).1 ⟨A2,G,rfl,C,E,A⟩)));simpa only [AJ,AC,AI]using I
 of:=fun {w cs x L} h=>by
  obtain ⟨R,U,K0,M0,rfl,rfl,M,v1,T,K1,M1,rfl,rfl,K,P,S,K2,M2,rfl,rfl,J,rfl,rfl⟩:=h;obtain ⟨rfl,rfl⟩:=M;obtain ⟨A1,H,O,D,F,B⟩:=(ZfO.sl 3).2 K;cases O;obtain ⟨A2,G,N,C,E,A⟩:=(ZfO.sl 3).2 J;cases N;exact ⟨A1,H,_,A2,G,_,rfl,by simp only[AJ,AC,AI],D,F,B,C,E,A⟩
theorem ZgU:Enc Zbx YY where
 to:=fun {w cs x L} h=>by
  obtain ⟨A1,D,L1,rfl,rfl,B,C,A⟩:=h;have E:RCs w (YY x) _ _:=RCs.more ⟨rfl,rfl⟩ (RCs.solo ((Zq2.sl 109).1 ⟨A1,D,rfl,B,C,A⟩));simpa only [AJ,AC,AI]using E
 of:=fun {w cs x L} h=>by
  obtain ⟨I,K,K0,M0,rfl,rfl,G,v1,J,K1,M1,rfl,rfl,F,rfl,rfl⟩:=h;obtain ⟨rfl,rfl⟩:=G;obtain ⟨A1,D,H,B,C,A⟩:=(Zq2.sl 109).2 F;cases H;exact ⟨A1,D,_,rfl,by simp only[AJ,AC,AI],B,C,A⟩
theorem Zw3:Enc ZDh Yi where
 to:=fun {w cs x L} h=>by
  obtain ⟨rfl,rfl,B,A⟩:=h;have C:RCs w (Yi x) _ _:=RCs.more ⟨rfl,rfl,B⟩ (RCs.solo ⟨rfl,rfl,A⟩);simpa only [AJ,AC,AI]using C
 of:=fun {w cs x L} h=>by
  obtain ⟨F,H,K0,M0,rfl,rfl,E,v1,G,K1,M1,rfl,rfl,D,rfl,rfl⟩:=h;obtain ⟨rfl,rfl,B⟩:=E;obtain ⟨rfl,rfl,A⟩:=D;exact ⟨rfl,by simp only[AJ,AC,AI],B,A⟩
theorem Zvn:Enc ZlR YD where
 to:=fun {w cs x L} h=>by
  obtain ⟨A1,H,L1,A2,G,L2,rfl,rfl,D,F,B,C,E,A⟩:=h;have I:RCs w (YD x) _ _:=RCs.more ((Zau.sl 35).1 ⟨A1,H,rfl,D,F,B⟩) (RCs.solo ((Zw3.sl 149).1 ⟨A2,G,rfl,C,E,A⟩));simpa only [AJ,AC,AI]using I
 of:=fun {w cs x L} h=>by
  obtain ⟨O,R,K0,M0,rfl,rfl,K,v1,P,K1,M1,rfl,rfl,J,rfl,rfl⟩:=h;obtain ⟨A1,H,N,D,F,B⟩:=(Zau.sl 35).2 K;cases N;obtain ⟨A2,G,M,C,E,A⟩:=(Zw3.sl 149).2 J;cases M;exact ⟨A1,H,_,A2,G,_,rfl,by simp only[AJ,AC,AI],D,F,B,C,E,A⟩
theorem Zw5:Enc ZC9 ZT where
 to:=fun {w cs x L} h=>by
  obtain ⟨A1,G,L1,rfl,rfl,C,B,A,E,F,D⟩:=h;have H:RCs w (ZT x) _ _:=RCs.more ⟨rfl,rfl⟩ (RCs.more ⟨rfl,rfl,C⟩ (RCs.more ((encStr.sl 9).1 ⟨A1,G,rfl,E,F,D⟩) (RCs.more ⟨rfl,rfl,B⟩ (RCs.solo ⟨rfl,rfl,A⟩))));simpa only [AJ,AC,AI]using H
 of:=fun {w cs x L} h=>by
  obtain ⟨T,r0,K0,M0,rfl,rfl,N,v1,r1,K1,M1,rfl,rfl,M,S,W,K2,M2,rfl,rfl,K,R,V,K3,M3,rfl,rfl,J,P,U,K4,M4,rfl,rfl,I,rfl,rfl⟩:=h;obtain ⟨rfl,rfl⟩:=N;obtain ⟨rfl,rfl,C⟩:=M;obtain ⟨A1,G,O,E,F,D⟩:=(encStr.sl 9).2 K;cases O;obtain ⟨rfl,rfl,B⟩:=J;obtain ⟨rfl,rfl,A⟩:=I;exact ⟨A1,G,_,rfl,by simp only[AJ,AC,AI],C,B,A,E,F,D⟩
theorem Zrj:Enc ZxH ZM where
 to:=fun {w cs x L} h=>by
  obtain ⟨A1,E,L1,rfl,rfl,A,C,D,B⟩:=h;have F:RCs w (ZM x) _ _:=RCs.more ⟨rfl,rfl⟩ (RCs.more ⟨rfl,rfl,A⟩ (RCs.solo ((encStr.sl 9).1 ⟨A1,E,rfl,C,D,B⟩)));simpa only [AJ,AC,AI]using F
 of:=fun {w cs x L} h=>by
  obtain ⟨M,P,K0,M0,rfl,rfl,I,v1,O,K1,M1,rfl,rfl,H,K,N,K2,M2,rfl,rfl,G,rfl,rfl⟩:=h;obtain ⟨rfl,rfl⟩:=I;obtain ⟨rfl,rfl,A⟩:=H;obtain ⟨A1,E,J,C,D,B⟩:=(encStr.sl 9).2 G;cases J;exact ⟨A1,E,_,rfl,by simp only[AJ,AC,AI],A,C,D,B⟩
theorem Zlf:Enc Zby ZF where
 to:=fun {w cs x L} h=>by
  obtain ⟨A1,I,L1,A2,H,L2,rfl,rfl,A,E,G,C,D,F,B⟩:=h;have J:RCs w (ZF x) _ _:=RCs.more ⟨rfl,rfl,A⟩ (RCs.more ⟨rfl,rfl⟩ (RCs.more ((Zw5.sl 144).1 ⟨A1,I,rfl,E,G,C⟩) (RCs.solo ((Zrj.sl 90).1 ⟨A2,H,rfl,D,F,B⟩))));simpa only [AJ,AC,AI]using J
 of:=fun {w cs x L} h=>by
  obtain ⟨U,r0,K0,M0,rfl,rfl,O,v1,r1,K1,M1,rfl,rfl,N,T,W,K2,M2,rfl,rfl,M,S,V,K3,M3,rfl,rfl,K,rfl,rfl⟩:=h;obtain ⟨rfl,rfl,A⟩:=O;obtain ⟨rfl,rfl⟩:=N;obtain ⟨A1,I,R,E,G,C⟩:=(Zw5.sl 144).2 M;cases R;obtain ⟨A2,H,P,D,F,B⟩:=(Zrj.sl 90).2 K;cases P;exact ⟨A1,I,_,A2,H,_,rfl,by simp only[AJ,AC,AI],A,E,G,C,D,F,B⟩
section
open Go.RowKit
theorem Zpr:(prog.info? 3).map (fun i=>(i.zero,i.size,i.bytes))=some (some (.int .i64 0),1,8):=yO
theorem Zb4(w:World):∀l:List Int,Zj7.reps w (l.map (Value.int .i64)) l []
 | []=>⟨rfl,rfl⟩
 |x::l=>⟨[.int .i64 x],l.map (Value.int .i64),[],[],rfl,rfl,⟨rfl,rfl⟩,Zb4 w l⟩
theorem ZyC{w:World}{base:Nat}{v:Value}{l:List Int}(h:w.ownsRow base 3 1 v l.length (l.map (Value.int .i64))):∃A c L,v=.slice A l.length c/\(ZQ Zj7).rep w [.slice A l.length c] l L:=by
 have h1:=Zet h;obtain ⟨A,c,rfl,B,C⟩:=YH h1;obtain ⟨L,hs,_,_⟩:=Sl.of_ownV h1;exact ⟨A,c,L++[],rfl,A,c,rfl,B,C,_,L,[],rfl,hs,Zb4 w l⟩
theorem ZgE{w w':World}{base:Nat}{v:Value}{n:Nat}{xs:List Value}(h:w.ownsRow base 3 1 v n xs)(A:Below w.heap.size w w'):w'.ownsRow base 3 1 v n xs:=
 h.kept (row:=none) ⟨A.os,A.tape,A.output,A.size,fun q B _=>A.block q B⟩ (by cases v.ownBlock<;>simp)
theorem Zfq{w w':World}(A:Below w.heap.size w w')(o:Option Nat):w.grownBy w' o:=⟨A.os,A.tape,A.output,A.size,fun q B _=>A.block q B⟩
theorem Zdw{B:Nat}{A w w':World}{o:Option Nat}(h:Below B A w)(g:w.grownBy w' o)(E:B<=w.heap.size)(D:∀q,o=some q->B<=q):Below B A w':=
 ⟨g.os.trans h.os,g.tape.trans h.tape,g.output.trans h.output,AD h.size g.size,fun q C=>(g.block q yE (fun e=>by have:=D q e.symm;omega)).trans (h.block q C)⟩
theorem ZhG{w B A:World}{v v1:Value}(h:w.grownBy B v.ownBlock)(k:B.grownBy A v1.ownBlock)(E:∀g,v1.ownBlock=some g->v.ownBlock=some g\/w.heap.size<=g):w.grownBy A v.ownBlock:=
 ⟨k.os.trans h.os,k.tape.trans h.tape,k.output.trans h.output,AD h.size k.size,fun q C a=>(k.block q (AE C h.size) (fun e=>by
  rcases E q e.symm with D|D
  .exact a D.symm
  .omega)).trans (h.block q C a)⟩
def ZDP(a w:World)(v:Value)(r:List Int):Ending->World->Prop:=fun e w'=>∃v',e=.returned v'/\w'.ownsRow a.heap.size 3 1 v' r.length (r.map (Value.int .i64))/\w.grownBy w' v.ownBlock/\∀g,v'.ownBlock=some g->v.ownBlock=some g\/w.heap.size<=g
structure ZsD (w0 ws:World) (v:Value) (lk:List Int) (vl:Value) (wr:World):Prop where
 row:wr.ownsRow w0.heap.size 3 1 vl lk.length (lk.map (Value.int .i64))
 grown:ws.grownBy wr v.ownBlock
 blk:∀g,vl.ownBlock=some g->v.ownBlock=some g\/ws.heap.size<=g
theorem ZxM{w:World}{cs:List Value}{b:Zl}{L:List Nat}(J:Zbx.rep w cs b L){k:Nat}{q:Zh}(H:b.reasons[k]?=some q):∃A1 C A off Ai B Li,cs=[.int .i64 b.nodes,.slice A1 b.reasons.length C]/\A1=some ⟨A,off,none⟩/\A<w.heap.size/\w.cell? ⟨A,off+k*3+1,none⟩=some (.slice Ai q.inn.length B)/\q.inn.length<=9223372036854775807/\Sli Zj7 w Ai q.inn Li:=by
 obtain ⟨A1,C,L1,P,O,T,V,D⟩:=J;subst P O;obtain ⟨c,d⟩:=AH.1 H;obtain ⟨A,off,cs,Lk,N,e,K,a,I⟩:=D.at_ c;rw [d]at a;obtain ⟨Ai,B,Li,Ao,co,Lo,M,W,F,G,E,S,U,R⟩:=a;subst M;exact ⟨A1,C,A,off,Ai,B,Li,rfl,N,D.lt _ e,I 1 _ rfl,AD F (by unfold maxLen at G;omega),E⟩
theorem Zt1{w:World}{base:Nat}{e:TypeId}{size n:Nat}{v:Value}{xs:List Value}(h:w.ownsRow base e size v n xs):Own w base v.ownBlock.toList:=by
 rcases h.2 with ⟨D,_⟩|⟨g,cap,a,A,B,C,_⟩
 .subst D;exact Own.nil w base
 .subst A;exact ⟨by simp [Value.ownBlock],by simpa [Value.ownBlock]using B,by simpa [Value.ownBlock]using ⟨a,e,C⟩⟩
theorem ZCI{A w:World}{v:Value}{r:List Int}(h:w.ownsRow A.heap.size 3 1 v r.length (r.map (Value.int .i64)))(B:Below A.heap.size A w):ZhA Zj7 3 A v r w:=
 ⟨⟨_,[],Zet h,Zb4 w r,by rw [AC];exact Zt1 h⟩,B⟩
theorem Zla{b:Zl}{w0:World}(hj:J0 w0){cs:List Value}{Lb:List Nat}(hb:Zbx.rep w0 cs b Lb):∀(n:Nat) (x:Int) (l r:List Int),ZfU (XE b) Zd4 b n x l=some r->∀(w:World) (v:Value),Below w0.heap.size w0 w->w.ownsRow w0.heap.size 3 1 v l.length (l.map (Value.int .i64))->
  Calls prog 107 #[.agg cs.toArray,.int .i64 x,v] w (ZDP w0 w v r)
 |0,x,l,r,h,_,_,_,_=>by cases h
 |n+1,x,l,r,h,w,v,hB,hv=>by
  rw [ZfU]at h;cases hs:XE b x with
  |none=>rw [hs]at h;cases h
  |some s=>
   rw [hs,Ab]at h;have T:∃A1 c1,cs=[.int .i64 b.nodes,.slice A1 b.reasons.length c1]:=by
    obtain ⟨A1,c1,L1,e1,_⟩:=hb;exact ⟨A1,c1,e1⟩
   obtain ⟨A1,c1,rfl⟩:=T;have IH:=Zla hj hb n;obtain ⟨nr,A⟩:∃nr,b.reasons.length=nr:=⟨_,rfl⟩
   have HNR:Hid (b.reasons.length=nr):=A;rw [A]at hb;rw [A]at IH;rw [A];have C:=Zj2 (Zet hv);have D:=ZsH hv;have HJ:=yS hj;have HB:=yS hB;have HV:=yS hv;have HVL:Hid (∀g,v.ownBlock=some g->g<w.heap.size/\w0.heap.size<=g):=fun g hg=>⟨C g (by simp [hg]),D g hg⟩
   have HBE:=yS hb;have HS:Hid (XE b x=some s):=hs;have HH:=yS h;have HI:=yS IH;clear hj hB hv hb hs h IH C D A;go_enter func107,ntmps107;go_wp2_with fail
   obtain ⟨w1,B⟩:∃w1,w1=w.alloc (.cells #[.int .i64 b.nodes,.slice A1 nr c1] 53):=⟨_,rfl⟩
   have BW:Hid (Below w.heap.size w w1):=by rw [B];exact (Below.refl _ w).alloc (AL _) _
   have HSZ:Hid (w1.heap.size=w.heap.size+1):=by rw [B];show _=_;simp
   have B1:Hid (Below w0.heap.size w0 w1):=HB.out.trans (BW.out.mono HB.out.size);have K0:Hid (Blk w1 w.heap.size 53 #[.int .i64 b.nodes,.slice A1 nr c1]):=by rw [B];exact Blk.new _ _ _
   rw [<-B];clear B;refine (Zp.givesI (Znr HS.out) (Zcb hJ0 HJ.out B1.out) (vs:=[_,_]) ⟨ZkN ZgU (Zbx.keep HBE.out (Qu B1.out (fun y m=>Zbx.lt HBE.out y m))),ZsA _ _,trivial⟩).mono ?_;rintro e w2 ⟨rfl,K⟩;have W2:Hid (Below w1.heap.size w1 w2):=K;clear K;by_cases E:s<0
   .obtain rfl:l=r:=by
     have:=HH.out;rw [yp (decide_eq_true E)]at this;exact A9 this
    have W:Hid (Below w.heap.size w w2):=BW.out.trans (W2.out.mono BW.out.size);go_wp2;go_ret;exact ⟨v,rfl,ZgE HV.out W.out,Zfq W.out _,fun g h=>.inl h⟩
   .have h1:=HH.out;rw [yn (by simpa using E)]at h1;cases hh:Zd4 l s with
    |none=>rw [hh]at h1;cases h1
    |some hm=>
     rw [hh,Ab]at h1;have HM:Hid (Zd4 l s=some hm):=hh;have H1:=yS h1;obtain ⟨Av,cv,Lv,U,L⟩:=ZyC (ZgE HV.out (BW.out.trans (W2.out.mono BW.out.size)));subst U;have HVR:=yS L;clear hh h1 L HH;go_wp2_with fail
     refine (Zp.givesB (Zv0 HM.out) (Zcb hJ0 HJ.out (B1.out.trans (W2.out.mono B1.out.size))) (vs:=[_,_]) ⟨Zox ZfO _ HVR.out,ZsA _ _,trivial⟩).mono ?_;rintro e w3 ⟨rfl,M⟩;have W3:Hid (Below w1.heap.size w1 w3):=W2.out.trans (M.mono W2.out.size);clear M W2 HVR;cases hm with
     |true=>
      obtain rfl:l=r:=by
       have:=H1.out;rw [yp rfl]at this;exact A9 this
      have W:Hid (Below w.heap.size w w3):=BW.out.trans (W3.out.mono BW.out.size);go_wp2;go_ret;exact ⟨_,rfl,ZgE HV.out W.out,Zfq W.out _,fun g h=>.inl h⟩
     |false=>
      have h1:=H1.out;rw [yn yG]at h1;obtain ⟨k,hk⟩:∃k:Nat,s=k:=⟨s.toNat,yE⟩
      subst hk;rw [AW]at h1;obtain ⟨q,hq,h1⟩:=AB.1 h1;obtain ⟨t,ht,h1⟩:=AB.1 h1;by_cases N:t.length<1048576
      .rw [yp N]at h1;obtain rfl:=A9 h1;have aa:k<nr:=by have:=(AH.1 hq).1;have:=HNR.out;omega
       have H:=HBE.out;rw [<-HNR.out]at H;obtain ⟨A1',V,bb,off,Ai,ci,Li,e1,e2,O,c,X,P⟩:=ZxM H hq;obtain ⟨rfl,rfl⟩:A1=A1'/\c1=V:=by simpa using e1
       subst e2;have HSL:=yS P;have HT:=yS ht;have HBB:=yS O;obtain ⟨pi,I⟩:∃pi,q.inn.length=pi:=⟨_,rfl⟩
       have HPI:Hid (q.inn.length=pi):=I;rw [I]at c X;have HC:=yS c;clear h1 e1 I P ht c H H1 HM HS hq O;go_wp2;have o:Hid (∃lk,goO (ZfU (XE b) Zd4 b n) (q.inn.drop 0) lk=some t/\ZsD w0 w1 (.slice Av l.length cv) lk (.slice Av l.length cv) w3):=⟨l,HT.out,ZgE HV.out (BW.out.trans (W3.out.mono BW.out.size)),Zfq W3.out _,fun g h=>.inl h⟩
       go_loopw [2,8] (fun vl i wr=>∃(j:Nat),j<=pi/\i=.int .i64 j/\Hid (∃lk,goO (ZfU (XE b) Zd4 b n) (q.inn.drop j) lk=some t/\ZsD w0 w1 (.slice Av l.length cv) lk vl wr)) (fun _ i _=>pi - (intOf i).toNat)
       case atStart=>exact ⟨0,AX _,rfl,o⟩
       case round=>
        clear o;obtain ⟨j,hj,rfl,HR⟩:=hrel;obtain ⟨lk,z,o⟩:=HR.out;have HST:=yS o;have HBK:Hid (Below w0.heap.size w0 wr):=Zdw B1.out o.grown (B1.out.size) (fun g hg=>(HVL.out g hg).2);have KB:Hid (Blk wr w.heap.size 53 #[.int .i64 b.nodes,.slice (some ⟨bb,off,none⟩) nr c1]):=(HST.out.grown.block _ (by have:=HSZ.out;omega) (fun e=>by have:=(HVL.out _ e.symm).1;omega)).trans K0.out;have b0:wr.cell? ⟨w.heap.size,0,none⟩=some (.int .i64 b.nodes):=KB.out.at rfl;have b1:wr.cell? ⟨w.heap.size,1,none⟩=some (.slice (some ⟨bb,off,none⟩) nr c1):=KB.out.at rfl;have p1:wr.cell? ⟨bb,off+k*3+1,none⟩=some (.slice Ai pi ci):=(HBK.out.cell (p:=⟨bb,off+k*3+1,none⟩) HBB.out).trans HC.out;clear HR o;by_cases ac:j<pi
        .have Q:j<q.inn.length:=by have:=HPI.out;omega
         obtain ⟨bi,oi,ad,Lk2,rfl,F,_,J,R⟩:=HSL.out.at_ Q;obtain ⟨e3,_⟩:=J;subst e3;obtain ⟨y,hy⟩:∃y,q.inn[j]=y:=⟨_,rfl⟩
         rw [Az Q,hy,goO]at z;obtain ⟨u,hu,G⟩:=AB.1 z;have HU:=yS hu;have HGO:=yS G;have HBI:Hid (bi<w0.heap.size):=HSL.out.lt _ F;have p3:wr.cell? ⟨bi,oi+j,none⟩=some (.int .i64 y):=by
          have h:=R 0 _ rfl;rw [show oi+(j*Zj7.size+0)=oi+j from by show oi+(j*1+0)=_;omega,hy]at h;exact (HBK.out.cell (p:=⟨bi,oi+j,none⟩) HBI.out).trans h
         clear R hy z hu G F;go_wp2_with fail
         go_region_held3 (fun W=>W.cell? ⟨w.heap.size,0,none⟩=some (.int .i64 b.nodes)/\W.cell? ⟨w.heap.size,1,none⟩=some (.slice (some ⟨bb,off,none⟩) nr c1)/\W.cell? ⟨bb,off+k*3+1,none⟩=some (.slice (some ⟨bi,oi,none⟩) pi ci)/\W.cell? ⟨bi,oi+j,none⟩=some (.int .i64 y)) (first|exact ⟨b0,b1,p1,p3⟩|exact ⟨d0,d1,d2,d3⟩) (first|(go_at_call 107;refine (HI.out y lk u HU.out wr.drew _ HBK.out.drew (ZgE HST.out.row (Below.refl _ _).drew)).mono ?_;rintro e w4 ⟨v',rfl,d,a,f⟩;have HGR:Hid (wr.grownBy w4 u2.ownBlock):=⟨a.os,a.tape,a.output,a.size,a.block⟩;have HN:Hid (ZsD w0 w1 (.slice Av l.length cv) u v' w4):=⟨d,ZhG HST.out.grown HGR.out HST.out.blk,fun g hg=>(f g hg).elim (fun h=>HST.out.blk g h) (fun h=>.inr (AD HST.out.grown.size h))⟩;have HB4:Hid (Below w0.heap.size w0 w4):=Zdw B1.out HN.out.grown B1.out.size (fun g hg=>(HVL.out g hg).2);have K4:Hid (Blk w4 w.heap.size 53 #[.int .i64 b.nodes,.slice (some ⟨bb,off,none⟩) nr c1]):=(HN.out.grown.block _ (by have:=HSZ.out;omega) (fun e=>by have:=(HVL.out _ e.symm).1;omega)).trans K0.out;have d0:w4.cell? ⟨w.heap.size,0,none⟩=some (.int .i64 b.nodes):=K4.out.at rfl;have d1:w4.cell? ⟨w.heap.size,1,none⟩=some (.slice (some ⟨bb,off,none⟩) nr c1):=K4.out.at rfl;have d2:w4.cell? ⟨bb,off+k*3+1,none⟩=some (.slice (some ⟨bi,oi,none⟩) pi ci):=(HB4.out.cell (p:=⟨bb,off+k*3+1,none⟩) HBB.out).trans HC.out;have d3:w4.cell? ⟨bi,oi+j,none⟩=some (.int .i64 y):=(HB4.out.cell (p:=⟨bi,oi+j,none⟩) HBI.out).trans ((HBK.out.cell (p:=⟨bi,oi+j,none⟩) HBI.out).symm.trans p3);clear d a f))
         go_wp2;exact ⟨⟨j+1,yE,yG,u,HGO.out,HN.out⟩,by simp [intOf];omega⟩
        .have S:q.inn.drop j=[]:=List.drop_eq_nil_of_le (by have:=HPI.out;omega);rw [S,goO]at z;obtain rfl:=A9 z;have HVL2:Hid (w0.heap.size<=wr.heap.size):=HBK.out.size;clear S z;go_wp2_with (at_builtin;(refine ZCm rfl (.tmp 43) (.tmp 45) 36 rfl 3 _ 1 8 underlying36 Zpr rfl yE w0.heap.size u2 lk.length (lk.map (Value.int .i64)) [.int .i64 (k:Int)] rfl rfl HST.out.row rfl (by intro u hu;simp only[List.mem_singleton]at hu;subst hu;rfl) yE yE HVL2.out ?_);intro v' w' d a f);go_ret;refine ⟨v',rfl,by rw [AY,B3];exact d,?_,fun g hg=>?_⟩
         .exact ZhG (v:=.slice Av l.length cv) (v1:=.slice Av l.length cv) (Zfq BW.out _) (ZhG HST.out.grown a HST.out.blk) (fun g hg=>.inl hg)
         .rcases f g hg with h|h
          .rcases HST.out.blk g h with h|h
           .exact .inl h
           .exact .inr (AD BW.out.size h)
          .exact .inr (AD BW.out.size (AD HST.out.grown.size h))
      .rw [yn N]at h1;cases h1
theorem Zj9{b:Zl}{x:Int}{r:List Int}(h:XW b x=some r)(w:World)(cs:List Value)(L:List Nat)(D:J0 w)(C:Zbx.rep w cs b L):Calls prog 68 #[.agg cs.toArray,.int .i64 x] w (Zsu Zj7 3 w r):=by
 unfold XW at h;obtain ⟨J,_,h⟩:=AB.1 h;have i:∃A1 B,cs=[.int .i64 b.nodes,.slice A1 b.reasons.length B]:=by
  obtain ⟨A1,B,L1,H,_⟩:=C;exact ⟨A1,B,H⟩
 obtain ⟨A1,B,rfl⟩:=i;obtain ⟨nr,f⟩:∃nr,b.reasons.length=nr:=⟨_,rfl⟩
 rw [f]at C;rw [f];have HJ:=yS D;have HBE:=yS C;have HH:=yS h;clear D C h f;go_enter func68,ntmps68;go_wp2_with fail
 obtain ⟨A,c⟩:∃A,A=(w.alloc (.cells #[.int .i64 b.nodes,.slice A1 nr B] 53)).alloc (.cells #[] 3):=⟨_,rfl⟩
 have B2:Hid (Below w.heap.size w A):=by rw [c];exact ((Below.refl _ w).alloc (AL _) _).alloc yG _
 have HO:Hid (A.ownsRow w.heap.size 3 1 (.slice (some ⟨w.heap.size+1,0,none⟩) 0 0) ([]:List Int).length (([]:List Int).map (Value.int .i64))):=by
  have G:A.heap[w.heap.size+1]?=some (.cells #[] 3 (0,0)):=by
   rw [c];exact Blk.new_at (w:=w.alloc (.cells #[.int .i64 b.nodes,.slice A1 nr B] 53)) (t:=3) (cs:=#[]) yG
  exact ⟨yG,.inr ⟨w.heap.size+1,0,#[],rfl,yE,G,yG,by unfold maxLen;omega,yG,yG⟩⟩
 rw [<-c];clear c;refine (Zla HJ.out HBE.out _ x [] r HH.out A _ B2.out HO.out).mono ?_;rintro e E ⟨I,rfl,d,a,g⟩;have HO4:=yS d;have W4:Hid (Below w.heap.size w E):=Zdw B2.out a B2.out.size (fun q F=>by simp [Value.ownBlock]at F;omega);clear d a g;go_wp2;go_ret;exact ⟨_,rfl,ZCI HO4.out W4.out⟩
theorem Zwb{f:FuncId}{b:Zl}{x:Int}{r:List Int}(F:ZdI prog f)(h:∀(w:World) (cs:List Value) (L:List Nat),J0 w->Zbx.rep w cs b L->Calls prog f #[.agg cs.toArray,.int .i64 x] w (Zsu Zj7 3 w r)):Zp prog J0 f [(true,YY b),(false,[.int .i64 x])] [(false,[(false,.sl 3 1 (A0 ZP r))])]:=by
 refine ⟨F,fun w z vs E K ha=>?_⟩;cases vs with
 |nil=>exact ha.elim
 |cons v vs=>
  obtain ⟨ha,A⟩:=ha;cases vs with
  |nil=>exact A.elim
  |cons u vs=>
   obtain ⟨D,A⟩:=A;cases vs with
   |cons _ _=>exact A.elim
   |nil=>
    rcases ha with ⟨_,cs,L,rfl,G,_⟩|⟨B,_⟩
    .rcases D with ⟨B,_⟩|⟨_,ct,L2,J,C,_⟩
     .simp at B
     .obtain rfl:(CT.int .i64 x)=ct:=by simpa using J
      obtain ⟨rfl,_⟩:=C;refine (h w cs L E (ZgU.of G)).mono ?_;rintro e w' ⟨v,rfl,⟨xs,Lp,c,a,H⟩,I⟩;exact ⟨v,fun b=>z b\/b∈v.ownBlock.toList,rfl,⟨[v],v.ownBlock.toList++Lp,⟨v,[],v.ownBlock.toList++Lp,[],rfl,yG,.inr ⟨rfl,_,rfl,Nat.one_pos,xs,Lp,by rw [Ae];exact c,ZfO.reps a,rfl,fun b m=>.inr m⟩,rfl,rfl⟩,H,rfl⟩,fun b h=>.inl h,I⟩
    .simp at B
theorem Zkp{a:Zl}{b:Int}{r:List Int}(h:XW a b=some r):Zp prog J0 68 [(true,YY a),(false,[.int .i64 b])] [(false,[(false,.sl 3 1 (A0 ZP r))])]:=
 Zwb ⟨f68,func68,yO,yO⟩ fun w cs L hj hb=>Zj9 h w cs L hj hb
end
section
theorem Zj3{A:List Zf}{B:List Za}{r:((List Za)×Zl×Bool)}(h:Zaj A B=some r):Zp prog J0 24 [(false,[.sl 87 4 (A0 ZF A)]),(false,[.sl 35 2 (A0 Zq B)])] [(false,[(false,.sl 35 2 (A0 Zq r.1))]),(true,[(false,.int .i64 r.2.1.nodes),(false,.sl 109 3 (A0 ZJ r.2.1.reasons))]),(false,[(false,.bool r.2.2)])]:=by
 refine fnk func24 rfl ?_;unfold Zaj at h;simp only[fnS,f24,Zt,go_sem,seval];refine Zc h fun v1 a h=>Zd (ZnP a)<|yA ?_;refine yB h (fun _ h=>?_) fun _ h=>?_;iterate 2 (cases h;exact yD)
theorem Zwr{B:Zi}{A:Int}{r:((List Zf)×Zi)}(h:ZkG B A=some r):Ys prog J0 JF0 138 (.box 77 (ZS B)) [(false,[.int .i64 A])] [(false,[(false,.sl 87 4 (A0 ZF r.1))])] (.box 77 (ZS r.2)):=by
 refine fnh func138 rfl ?_;unfold ZkG at h;have j:ZB ⟨#[114]⟩=true:=by decide
 simp only[fnH,f138,YF,YE,Yh,go_sem,seval,j];obtain ⟨v1,k,h⟩:=Zn h;refine ZA (ZR k)<|yA ?_;refine Ym h (fun s st=>match s with|(b,d,e,f,g)=>IV [(0,.bp 0 0),(5,.p false [.row 1]),(6,yM (.int .i64 g))] [.box 77 [.c (zD b),.c (.int .i64 d),.c (.int .i64 e)],.row 87 4 (A0 ZF f) 2] st) [] [0,17] yF yD ?_;rintro ⟨b,d,e,f,g⟩ ⟨_,_,_⟩ _ i _ h l;simp only[go_sem,seval,Zb]at i;obtain ⟨⟨_,_,_⟩,_,_,C⟩:=i;subst C;simp only[*,go_sem,seval];refine yB h (fun _ h=>?_) fun _ h=>?_;obtain ⟨_,m,h⟩:=Zn h;refine ZA (Zml m)<|yA ?_;refine Zc h fun _ o h=>Zd (ZaM o) ?_;obtain ⟨q,h⟩:=Zs h;simp only[go_sem]at q;obtain ⟨t,h⟩:=Zs h;try simp only[Nat.reduceLeDiff]at t
 simp only[*,go_sem,seval];exact yR h [0,226];replace h:=Zr h l;cases h;exact yD
theorem Zwl{A:Zi}{r:(Zf×Zi)}(h:ZkU A=some r):Ys prog J0 JF0 139 (.box 77 (ZS A)) [] [(true,[(false,.str r.1.name),(false,.int .i64 r.1.priority),(true,.sl 144 5 (A0 ZT r.1.cond)),(true,.sl 90 3 (A0 ZM r.1.thn))])] (.box 77 (ZS r.2)):=by
 refine Zyy [(8,[0,1,2,3,4,5,6,7],true),(10,[0,1,2,3,4,5,6,7,8,9,10,11],true)] func139 rfl ?_;unfold ZkU at h;have a:ZB ⟨#[116]⟩=true:=by decide
 have b:ZB ⟨#[117]⟩=true:=by decide
 have c:ZB ⟨#[63,100]⟩=true:=by decide
 have d:ZB ⟨#[63,101]⟩=true:=by decide
 have e:ZB ⟨#[63,102]⟩=true:=by decide
 have f:ZB ⟨#[63,103]⟩=true:=by decide
 have g:ZB ⟨#[63,120]⟩=true:=by decide
 have i:ZB ⟨#[63,97]⟩=true:=by decide
 have j:ZB ⟨#[63,98]⟩=true:=by decide
 have k:ZB ⟨#[63,99]⟩=true:=by decide
 simp only[fnH,f139,YF,YE,Yh,go_sem,Zg,seval,a,b,c,d,e,f,g,i,j,k];obtain ⟨v1,J,h⟩:=Zn h;refine ZA (by have hh:=Zml J;first|exact hh|(simp only[go_sem,Zg, *]at hh;exact hh)) ?_;simp only[go_sem,Zg,seval, *];obtain ⟨V,I,h⟩:=Zn h;refine ZA (by have hh:=ZR I;first|exact hh|(simp only[go_sem,Zg, *]at hh;exact hh)) ?_;simp only[go_sem,Zg,seval, *];refine Ze h (fun M h=>?_) (fun M h=>?_)<;>try simp only[go_sem,Zg,seval, *]
 .obtain ⟨U,H,h⟩:=Zn h;refine ZA (by have hh:=ZbV H;first|exact hh|(simp only[go_sem,Zg, *]at hh;exact hh)) ?_;obtain rfl:=A9 h;simp only[go_sem,Zg,seval, *]
 .refine Ze h (fun L h=>?_) (fun L h=>?_)<;>try simp only[go_sem,Zg,seval, *]
  .obtain ⟨T,G,h⟩:=Zn h;refine ZA (by have hh:=Q2 G;first|exact hh|(simp only[go_sem,Zg, *]at hh;exact hh)) ?_;obtain rfl:=A9 h;simp only[go_sem,Zg,seval, *]
  .refine Ze h (fun K h=>?_) (fun K h=>?_)<;>try simp only[go_sem,Zg,seval, *]
   .obtain ⟨S,F,h⟩:=Zn h;refine ZA (by have hh:=ZvY F;first|exact hh|(simp only[go_sem,Zg, *]at hh;exact hh)) ?_;obtain ⟨C,h⟩:=Zs h;try simp only[Nat.reduceLeDiff]at C
    obtain rfl:=A9 h;simp only[go_sem,Zg,seval, *]
   .refine Ze h (fun l h=>?_) (fun l h=>?_)<;>try simp only[go_sem,Zg,seval, *]
    .obtain ⟨R,m,h⟩:=Zn h;refine ZA (by have hh:=Q2 m;first|exact hh|(simp only[go_sem,Zg, *]at hh;exact hh)) ?_;simp only[go_sem,Zg,seval, *];obtain ⟨P,o,h⟩:=Zn h;refine ZA (by have hh:=Zn1 o;first|exact hh|(simp only[go_sem,Zg, *]at hh;exact hh)) ?_;obtain ⟨p,h⟩:=Zs h;try simp only[Nat.reduceLeDiff]at p
     obtain rfl:=A9 h;simp only[go_sem,Zg,seval, *]
    .refine Ze h (fun q h=>?_) (fun q h=>?_)<;>try simp only[go_sem,Zg,seval, *]
     .obtain ⟨E,h⟩:=Zs h;obtain rfl:=A9 h;simp only[go_sem,Zg,seval, *]
     .refine Ze h (fun t h=>?_) (fun t h=>?_)<;>try simp only[go_sem,Zg,seval, *]
      .obtain ⟨D,h⟩:=Zs h;obtain rfl:=A9 h;simp only[go_sem,Zg,seval, *]
      .refine Ze h (fun u h=>?_) (fun u h=>?_)<;>try simp only[go_sem,Zg,seval, *]
       .obtain ⟨O,v,h⟩:=Zn h;refine ZA (by have hh:=ZaU v;first|exact hh|(simp only[go_sem,Zg, *]at hh;exact hh)) ?_;simp only[go_sem,Zg,seval, *];obtain ⟨N,w,h⟩:=Zn h;refine ZA (by have hh:=Q2 w;first|exact hh|(simp only[go_sem,Zg, *]at hh;exact hh)) ?_;simp only[go_sem,Zg,seval, *];obtain ⟨B,x,h⟩:=Zn h;refine ZA (by have hh:=ZaU x;first|exact hh|(simp only[go_sem,Zg, *]at hh;exact hh)) ?_;obtain rfl:=A9 h;simp only[go_sem,Zg,seval, *]
       .obtain rfl:=A9 h;simp only[go_sem,Zg,seval, *]
theorem ZgS{B:List Zf}{C:List Za}{A:List Zz}{r:Bool}(h:QR B C A=some r):Zp prog J0 7 [(false,[.sl 87 4 (A0 ZF B)]),(false,[.sl 35 2 (A0 Zq C)]),(false,[.sl 38 4 (A0 XP A)])] [(false,[(false,.bool r)])]:=by
 refine fnk func7 rfl ?_;unfold QR at h;simp only[fnS,f7,Zt,go_sem,seval];refine Zc h fun v1 e h=>Zd (Zs0 e)<|yA ?_;iterate 2 refine yB h (fun _ h=>?_) fun _ h=>?_
 cases h;exact yD;refine Zk h (fun i _ st=>IV [(0,yM (yX B)),(1,yM (yU C)),(2,yM (zC A)),(7,.p false [.row 0]),(24,yM (zC A)),(25,yL A.length),(26,yL i)] [.row 35 2 (A0 Zq v1.1) 2] st) [] [48] yF yD ?_ ?_;rintro _ _ ⟨⟩ ⟨_,_,_⟩ _ a b f h g;simp only[go_sem,seval,Zb]at b;obtain ⟨⟨_,_,k,_,_,_,_⟩,_,D⟩:=b;subst D;have l:=WF.slotL f k (j:=0) rfl;have:=ZH a;have:=ZI a;have:=Zm (ZG a) l;obtain ⟨_,h⟩:=Zs h;simp only[*,go_sem,seval];refine Zc h fun _ m h=>Zd (by have hh:=Zp1 m;simp only[*,go_sem]at hh;exact hh)<|yA ?_;refine yB h (fun _ h=>?_) fun _ h=>?_;exact yR h [0];replace h:=Zr h g;cases h;exact yD;rintro ⟨⟩ ⟨_,_,_⟩ d _ h;simp only[go_sem,seval,Zb]at d;obtain ⟨⟨_,_,_,_,_,_,_⟩,_,D⟩:=d;subst D;have:=ZE (A.length);iterate 2 (cases h;exact yD)
theorem Zs6{K:List Zf}{String_1 O:List Za}{N:List Zz}{L:Zz}{r:Bool}(h:Zf1 K String_1 O N L=some r):Zp prog J0 23 [(false,[.sl 87 4 (A0 ZF K)]),(false,[.sl 35 2 (A0 Zq String_1)]),(false,[.sl 35 2 (A0 Zq O)]),(false,[.sl 38 4 (A0 XP N)]),(true,XP L)] [(false,[(false,.bool r)])]:=by
 refine fnk func23 rfl ?_;unfold Zf1 at h;have t:ZB ⟨#[]⟩=true:=by decide
 simp only[fnS,f23,Zt,go_sem,seval,t];iterate 2 refine yB h (fun _ h=>?_) fun _ h=>?_
 refine Zc h fun v1 u h=>Zd (Qq u) ?_;iterate 2 (cases h;exact yD)
 refine Zc h fun f v h=>Zd (Zjy v)<|yA ?_;refine Zk h (fun i a st=>IV [(0,yM (yX K)),(2,yM (yU O)),(3,yM (zC N)),(9,.bp 0 0),(11,yM (.int .i64 f)),(12,.p false [.row 1]),(13,yL i)] [zF 38 (XP L),.row 35 2 (A0 Zq a) 1] st) [(true,160,1)] [0,160] yF yD ?_ ?_;rintro _ _ a ⟨_,_,_⟩ _ b g w h x;simp only[go_sem,seval,Zb]at g;obtain ⟨⟨_,_,_,_,_,_,_⟩,y,_,M⟩:=g;subst M;have z:=WF.boxL w y (j:=3) rfl;have:=ZH b;have:=ZI b;have:=Zm (ZG b) z;simp only[*,go_sem,seval];refine Zc h fun _ A h=>Zd (Xq A)<|yA ?_;refine yB h (fun _ h=>?_) fun _ h=>?_;obtain ⟨_,_,_,_,h⟩:=Zbl h;obtain ⟨B,h⟩:=Zs h;try simp only[Nat.reduceLeDiff]at B
 simp only[*,go_sem,seval];exact yR h [0,418];replace h:=Zr h x;cases h;exact yD;rintro a ⟨_,_,_⟩ k _ h;simp only[go_sem,seval,Zb]at k;obtain ⟨⟨_,_,_,_,_,_,_⟩,_,_,M⟩:=k;subst M;have:=ZE (L.uses.length);simp only[*,go_sem,seval];refine yB h (fun _ h=>?_) fun _ h=>?_;cases h;exact yD;obtain ⟨C,_,_,D,h⟩:=Zbl h;simp only[*,go_sem,seval];obtain ⟨l,E,h⟩:=Zn h;refine Zhp (Zpz E)<|yA ?_;refine Zk h (fun i d st=>IV [(0,yM (yX K)),(9,.bp 0 0),(11,yM (.int .i64 f)),(14,.bp 1 0),(15,yM (.bool d)),(16,yL i)] [zF 38 (XP L),zF 81 (YD l.1)] st) [] [0,274] yF yD ?_ ?_;rintro _ _ d ⟨_,_,_⟩ _ e m F h o;simp only[go_sem,seval,Zb]at m;obtain ⟨⟨G,_,_,_,_,_⟩,_,_,M⟩:=m;subst M;have H:=WF.elL (WF.slotD F G (j:=0) rfl) D (j:=3) rfl;have:=ZH e;have:=ZI e;have:=Zm (ZG e) H;simp only[*,go_sem,seval];refine yB h (fun _ h=>?_) fun _ h=>?_;refine Zc h fun _ I h=>Zd (Zdo I)<|yA ?_
 refine yB h (fun _ h=>?_) fun _ h=>?_;refine Zc h fun _ J h=>Zd (ZfA J)<|yA ?_;refine yB h (fun _ h=>?_) fun _ h=>?_;replace h:=Zr h o;cases h;exact yD;exact yR h [0,1];exact yR h [0,1];replace h:=Zr h o;cases h;exact yD;rintro d ⟨_,_,_⟩ q _ h;simp only[go_sem,seval,Zb]at q;obtain ⟨⟨_,_,_,_,_,_⟩,_,_,M⟩:=q;subst M;have:=ZE (C.thn.length);cases h;exact yD
end
section
theorem Zhg{A:List Zf}{B:List Za}{r:((List Za)×Bool)}(h:QK A B=some r):Zp prog J0 9 [(false,[.sl 87 4 (A0 ZF A)]),(false,[.sl 35 2 (A0 Zq B)])] [(false,[(false,.sl 35 2 (A0 Zq r.1))]),(false,[(false,.bool r.2)])]:=by
 refine fnk func9 rfl ?_;unfold QK at h;simp only[fnS,f9,Zt,go_sem,seval];refine Zc h fun v1 a h=>Zd (Zj3 a)<|yA ?_;refine yB h (fun _ h=>?_) fun _ h=>?_;refine Zc h fun _ b h=>Zd (Zwa b) ?_;iterate 2 (cases h;exact yD)
theorem Zts{A:Zi}{r:((List Zf)×Zi)}(h:Zir A=some r):Ys prog J0 JF0 101 (.box 77 (ZS A)) [] [(false,[(true,.sl 87 4 (A0 ZF r.1))])] (.box 77 (ZS r.2)):=by
 refine fnh func101 rfl ?_;unfold Zir at h;have j:ZB ⟨#[107]⟩=true:=by decide
 simp only[fnH,f101,YF,YE,Yh,go_sem,seval,j];obtain ⟨v1,k,h⟩:=Zn h;refine ZA (Zwr k)<|yA ?_;obtain ⟨_,l,h⟩:=Zn h;refine ZA (ZR l)<|yA ?_;refine yB h (fun _ h=>?_) fun _ h=>?_;obtain ⟨_,m,h⟩:=Zn h;refine ZA (Zwl m) ?_;obtain ⟨o,h⟩:=Zs h;try simp only[Nat.reduceLeDiff]at o
 cases h;exact yD;refine yB h (fun _ h=>?_) fun _ h=>?_;obtain ⟨q,t,h⟩:=Zn h;refine ZA (Q2 t)<|yA ?_;refine Ym h (fun s st=>match s with|(b,d,e,f,g)=>IV [(0,.bp 0 0),(3,.p false [.row 1]),(4,yM (.int .i64 q.1)),(5,yM (.int .i64 g))] [.box 77 [.c (zD b),.c (.int .i64 d),.c (.int .i64 e)],.row 87 4 (A0 ZF f) 2] st) [] [0,33] yF yD ?_;rintro ⟨b,d,e,f,g⟩ ⟨_,_,_⟩ _ i _ h u;simp only[go_sem,seval,Zb]at i;obtain ⟨⟨_,_,_,_⟩,_,_,B⟩:=i;subst B;simp only[*,go_sem,seval];refine yB h (fun _ h=>?_) fun _ h=>?_;obtain ⟨_,v,h⟩:=Zn h;refine ZA (Zd9 v)<|yA ?_;refine Zc h fun _ w h=>Zd (ZaM w) ?_;obtain ⟨x,h⟩:=Zs h;simp only[go_sem]at x;obtain ⟨y,h⟩:=Zs h;try simp only[Nat.reduceLeDiff]at y
 simp only[*,go_sem,seval];exact yR h [0,258];replace h:=Zr h u;iterate 2 (cases h;exact yD)
end
section
theorem Zr5{A:Zi}{r:((List Zf)×(List Za)×Zi)}(h:ZgA A=some r):Ys prog J0 JF0 65 (.box 77 (ZS A)) [] [(false,[(true,.sl 87 4 (A0 ZF r.1))]),(false,[(true,.sl 35 2 (A0 Zq r.2.1))])] (.box 77 (ZS r.2.2)):=by
 refine fnh func65 rfl ?_;unfold ZgA at h;simp only[fnH,f65,YF,YE,Yh,go_sem,seval];obtain ⟨v1,a,h⟩:=Zn h;refine ZA (Zp9 a)<|yA ?_;obtain ⟨_,b,h⟩:=Zn h;refine ZA (Zr3 b)<|yA ?_;obtain ⟨_,c,h⟩:=Zn h;refine ZA (ZR c)<|yA ?_;refine yB h (fun _ h=>?_) fun _ h=>?_;obtain ⟨_,d,h⟩:=Zn h;refine ZA (Zts d) ?_;cases h;exact yD;refine yB h (fun _ h=>?_) fun _ h=>?_;obtain ⟨_,e,h⟩:=Zn h;refine ZA (Zth e) ?_;iterate 2 (cases h;exact yD)
theorem ZsM{B:List Zf}{C:List Za}{A:List Zz}{r:Bool}(h:Zgl B C A=some r):Zp prog J0 8 [(false,[.sl 87 4 (A0 ZF B)]),(false,[.sl 35 2 (A0 Zq C)]),(false,[.sl 38 4 (A0 XP A)])] [(false,[(false,.bool r)])]:=by
 refine fnk func8 rfl ?_;unfold Zgl at h;simp only[fnS,f8,Zt,go_sem,seval];refine Zc h fun v1 e h=>Zd (Zhg e)<|yA ?_;iterate 2 refine yB h (fun _ h=>?_) fun _ h=>?_
 cases h;exact yD;refine Zk h (fun i _ st=>IV [(0,yM (yX B)),(1,yM (yU C)),(2,yM (zC A)),(7,.p false [.row 0]),(9,yL i)] [.row 35 2 (A0 Zq v1.1) 2] st) [] [48] yF yD ?_ ?_;rintro _ _ ⟨⟩ ⟨_,_,_⟩ _ a b f h g;simp only[go_sem,seval,Zb]at b;obtain ⟨⟨_,_,k,_,_⟩,_,D⟩:=b;subst D;have l:=WF.slotL f k (j:=0) rfl;have:=ZH a;have:=ZI a;have:=Zm (ZG a) l;obtain ⟨_,h⟩:=Zs h;simp only[*,go_sem,seval];refine Zc h fun _ m h=>Zd (by have hh:=Zs6 m;simp only[*,go_sem]at hh;exact hh)<|yA ?_;refine yB h (fun _ h=>?_) fun _ h=>?_;exact yR h [0];replace h:=Zr h g;cases h;exact yD;rintro ⟨⟩ ⟨_,_,_⟩ d _ h;simp only[go_sem,seval,Zb]at d;obtain ⟨⟨_,_,_,_,_⟩,_,D⟩:=d;subst D;have:=ZE (A.length);iterate 2 (cases h;exact yD)
end
section
theorem ZsU{A:Zi}{r:((List Zf)×(List Za)×Za×Zi)}(h:Zei A=some r):Ys prog J0 JF0 36 (.box 77 (ZS A)) [] [(false,[(true,.sl 87 4 (A0 ZF r.1))]),(false,[(true,.sl 35 2 (A0 Zq r.2.1))]),(true,[(false,.str r.2.2.1.rel),(true,.sl 9 1 (A0 ZC r.2.2.1.args))])] (.box 77 (ZS r.2.2.2)):=by
 refine fnh func36 rfl ?_;unfold Zei at h;simp only[fnH,f36,YF,YE,Yh,go_sem,seval];obtain ⟨v1,a,h⟩:=Zn h;refine ZA (Zr5 a)<|yA ?_;refine Zc h fun _ b h=>Zd (ZbK b)<|yA ?_;refine yB h (fun _ h=>?_) fun _ h=>?_;obtain ⟨_,c,h⟩:=Zn h;refine ZA (ZdS c)<|yA ?_;refine yB h (fun _ h=>?_) fun _ h=>?_;obtain ⟨_,d,h⟩:=Zn h;refine ZA (Zhj d) ?_;cases h;exact yD;obtain ⟨_,e,h⟩:=Zn h;refine ZA (ZR e) ?_;obtain ⟨_,h⟩:=Zs h;obtain ⟨_,_,h⟩:=Zn h;cases h;exact yD;obtain ⟨_,f,h⟩:=Zn h;refine ZA (Zhj f) ?_;cases h;exact yD
end
section
open Go.RowKit
section
variable {w w':World} {base:Nat} {e:TypeId} {size n:Nat} {v:Value} {xs:List Value}
theorem Zky(h:w.ownsV base e size v n xs)(o:Obj):(w.alloc o).ownsV base e size v n xs:=YG h (fun b A=>Below.heap_alloc w o b (Zj2 h b A))
theorem ZuP(h:w.ownsV base e size v n xs):w.drew.ownsV base e size v n xs:=YG h (fun _ _=>rfl)
theorem ZdZ(h:w.ownsV base e size v n xs)(B:Below w.heap.size w w'):w'.ownsV base e size v n xs:=YG h (fun b A=>B.block b (Zj2 h b A))
theorem Zuf(h:w.ownsV base e size v n xs):∀g,v.ownBlock=some g->base<=g:=fun g A=>by
 rcases h.2 with ⟨C,_⟩|⟨F,o,cap,D,B,E,_⟩
 .rw [C]at A;simp [Value.ownBlock]at A
 .rw [B]at A;simp [Value.ownBlock]at A;omega
theorem Znl(h:w.ownsV base e size v n xs):Own w base v.ownBlock.toList:=by
 rcases h.2 with ⟨D,_⟩|⟨g,o,cap,a,A,B,C,_⟩
 .subst D;exact Own.nil w base
 .subst A;exact ⟨by simp [Value.ownBlock],by simpa [Value.ownBlock]using B,by simpa [Value.ownBlock]using ⟨a,e,C⟩⟩
end
theorem Zul{P:Program}{o:Oper}{a:Act}{K:Act->World->Prop}{Q:Exit->Act->World->Prop}{G:World}(s x:Operand)(t:TypeId)
  (V:o.op=.call { callee:=.builtin .append,args:=#[s,x],argTypes:=#[t,t] })
  (e:TypeId) (z:Value) (size c:Nat) (U:P.underlying t=some (.slice e)) (hi:(P.info? e).map (fun i=>(i.zero,i.size,i.bytes))=some (some z,size,c)) (A:z.cells.size=size) (B:0<size)
  (base:Nat) (v:Value) (n:Nat) (xs b:List Value) (hs:a.eval s=v) (S:a.eval x=.slice (some ⟨G.heap.size,0,none⟩) 1 1) (l:G.ownsV base e size v n xs)
  (hl:b.length=size) (h1:∀u∈b,u.oneCell'=true) (aa:n+1<=9223372036854775807) (f:(n+1)*c<=140737488355328) (R:base<=G.heap.size) (H:World) (d:H=G.alloc (.cells b.toArray e)\/H=(G.alloc (.cells b.toArray e)).drew)
  (h:∀I w',w'.ownsV base e size I (n+1) (xs++b)->G.grownBy w' v.ownBlock->(∀g,I.ownBlock=some g->v.ownBlock=some g\/G.heap.size<=g)->K (a.put o.dst I) w'):
  Oper.wp P o a H K Q:=by
 obtain ⟨i,C,D,E,F⟩:=info_parts hi;have N:H.heap.size=G.heap.size+1:=by rcases d with rfl|rfl<;>simp
 have m:H.ownsV base e size v n xs:=by
  rcases d with rfl|rfl
  .exact Zky l _
  .exact ZuP (Zky l _)
 have q:H.heap[G.heap.size]?=some (.cells b.toArray e (0,0)):=by
  rcases d with rfl|rfl
  .exact heap_alloc_new G _
  .exact heap_alloc_new G _
 have w:∀k,k<G.heap.size->H.heap[k]?=G.heap[k]?:=fun k L=>by
  rcases d with rfl|rfl
  .exact Below.heap_alloc G _ k L
  .exact Below.heap_alloc G _ k L
 have p:H.os=G.os/\H.tape=G.tape/\H.output=G.output:=by rcases d with rfl|rfl<;>exact ⟨rfl,rfl,rfl⟩
 obtain ⟨I,w',y,h2,J,M⟩:=Zhr (P:=P) H base t o.type e i z size c U C D E F A B v n xs m ⟨G.heap.size,0,none⟩ 1 1 b
  yE (fun j u T=>by rw [Zcl];rw [cell_of_row H G.heap.size (0+j) b.toArray e (0,0) q];simpa using T) h1 (by unfold maxLen;omega) f yE
 unfold Oper.wp execOp;simp only[V,resolve,invoke,builtin,Sem.run_bind,Sem.run_pure,Result.andThen_ok,List.map_toArray,List.map_cons,List.map_nil,hs,S,y];refine h I w' h2 ?_ ?_
 .exact ⟨J.os.trans p.1,J.tape.trans p.2.1,J.output.trans p.2.2,AD yE J.size,fun k L W=>(J.block k yE W).trans (w k L)⟩
 .intro g O;rcases M with M|M<;>rw [M]at O
  .exact .inl O
  .simp at O;exact .inr yE
theorem Zut{P:Program}{k:Array Oper}{f:List Oper}{o:Oper}{a:Act}{Q:Exit->Act->World->Prop}{A:World}(m:o.guard=none)(s x:Operand)(t:TypeId)
  (E:o.op=.call { callee:=.builtin .append,args:=#[s,x],argTypes:=#[t,t] })
  (e:TypeId) (z:Value) (size c:Nat) (D:P.underlying t=some (.slice e)) (hi:(P.info? e).map (fun i=>(i.zero,i.size,i.bytes))=some (some z,size,c)) (p:z.cells.size=size) (q:0<size)
  (base:Nat) (v:Value) (n:Nat) (xs b:List Value) (hs:a.eval s=v) (C:a.eval x=.slice (some ⟨A.heap.size,0,none⟩) 1 1) (l:A.ownsV base e size v n xs)
  (F:b.length=size) (K:∀u∈b,u.oneCell'=true) (w:n+1<=9223372036854775807) (d:(n+1)*c<=140737488355328) (j:base<=A.heap.size)
  (h:∀B w',w'.ownsV base e size B (n+1) (xs++b)->A.grownBy w' v.ownBlock->(∀g,B.ownBlock=some g->v.ownBlock=some g\/A.heap.size<=g)->wpList P k Q f (a.put o.dst B) w'):
  wpList P k Q (o::f) a (A.alloc (.cells b.toArray e)):=
 wpList_plain m fun _ G=>Zul s x t E e z size c D hi p q base v n xs b hs C l F K w d j _ (.inl rfl) fun B w' J I H=>G _ _ (h B w' J I H)
theorem Zp.givesX{P:Program}{J:World->Prop}{f:FuncId}{args:List (Bool×List CT)}{α:Type}{c:Yk α}{g:α->List CT}{x:α}(h:Zp P J f args [(true,(g x).map fun y=>(false,y))])(D:Enc c g){w:World}{vs:List Value}(C:J w)(ha:ZW (Zu1 w) args vs):Calls P f vs.toArray w (ZIj c w x):=
 (h.calls C ha).mono fun _ w' ⟨v,n,L,K,I⟩=>by
  obtain ⟨F,A,H⟩:=Zhd K;rcases A with ⟨_,cs,rfl,G⟩|⟨E,_⟩
  .obtain ⟨F',hs,B⟩:=ZvI G;exact ⟨cs,F',L,⟨D.of B,H.sub hs⟩,I⟩
  .simp at E
section
variable {base:Nat} {w1 w w':World} {Ls:List (List Nat)} {k k':Nat} {ds:List Zw} {v v':Value}
end
end
section
open Go.RowKit
theorem ZqR{α:Type}{c:Yk α}{w:World}{d:α}{B:List Value}{A:List Nat}:∀{ds:List α}{xs:List Value}{L:List Nat},c.reps w xs ds L->c.rep w B d A->c.reps w (xs++B) (ds++[d]) (L++A)
 | [],_,_,⟨h1,h2⟩,h=>by subst h1 h2;exact ⟨B,[],A,[],yG,yG,h,rfl,rfl⟩
 |e::ds,_,_,⟨x1,x2,L1,L2,rfl,rfl,h1,h2⟩,h=>⟨x1,x2++B,L1,L2++A,yG,yG,h1,ZqR h2 h⟩
section
variable {α:Type} {c:Yk α} {E:TypeId} {W w1 w w':World} {LA:List Nat} {Ls:List (List Nat)} {M:List α} {p:α->Bool} {k:Nat} {v v':Value} {x:α} {l:List Nat}
end
section
variable {β:Type} {c:Yk β} {E:TypeId} {W w1 w w':World} {LA:List Nat} {Ls:List (List Nat)} {ds:List β} {k:Nat} {v v':Value} {y:β} {l l':List Nat}
end
end
section
open Go.RowKit
theorem Zrg{P:Program}{j:Array Oper}{o:Oper}{a:Act}{K:Act->World->Prop}{Q:Exit->Act->World->Prop}{E:Prop}{A:World}(l:o.guard=none)(s x:Operand)(t:TypeId)
  (G:o.op=.call { callee:=.builtin .append,args:=#[s,x],argTypes:=#[t,t] })
  (e:TypeId) (z:Value) (size c:Nat) (F:P.underlying t=some (.slice e)) (hi:(P.info? e).map (fun i=>(i.zero,i.size,i.bytes))=some (some z,size,c)) (m:z.cells.size=size) (p:0<size)
  (base:Nat) (v:Value) (n:Nat) (xs b:List Value) (hs:a.eval s=v) (C:a.eval x=.slice (some ⟨A.heap.size,0,none⟩) 1 1) (k:A.ownsV base e size v n xs)
  (H:b.length=size) (I:∀u∈b,u.oneCell'=true) (q:n+1<=9223372036854775807) (d:(n+1)*c<=140737488355328) (f:base<=A.heap.size)
  (h:∀B w',w'.ownsV base e size B (n+1) (xs++b)->A.grownBy w' v.ownBlock->(∀g,B.ownBlock=some g->v.ownBlock=some g\/A.heap.size<=g)->K (a.put o.dst B) w'):
  if Region.wanted o (yielded j a.tmps)=true then Oper.wp P o a (A.alloc (.cells b.toArray e)) K Q else E:=by
 have D:Region.wanted o (yielded j a.tmps)=true:=by simp [Region.wanted,l]
 rw [yp D];exact Zul s x t G e z size c F hi m p base v n xs b hs C k H I q d f _ (.inl rfl) h
theorem ZhA.laterT{α:Type}{c:Yk α}{E:TypeId}{W w w':World}{v:Value}{ds:List α}(h:ZhA c E W v ds w)(A:Below w.heap.size w w'):ZhA c E W v ds w':=by
 obtain ⟨⟨xs,L,G,F,D⟩,C⟩:=h;have a:=D.lt;exact ⟨⟨xs,L,ZdZ G A,Xd F (fun b B=>A.block b (a b (by simp [B]))),D.keep (fun b B=>A.block b (a b B))⟩,C.trans (A.mono C.size)⟩
theorem ZhA.snocT{α:Type}{c:Yk α}{E:TypeId}{W A w3:World}{v C:Value}{ds:List α}{x:α}{xs f:List Value}{L l:List Nat}(G:Below W.heap.size W A)(J:c.reps A xs ds L)(o:c.rep A f x l)(D:Own A W.heap.size (v.ownBlock.toList++(L++l)))(i:w3.ownsV W.heap.size E c.size C (ds.length+1) (xs++f))(d:A.grownBy w3 v.ownBlock)(p:∀g,C.ownBlock=some g->v.ownBlock=some g\/A.heap.size<=g):ZhA c E W C (ds++[x]) w3:=by
 have t:=D.lt;have u:=AQ.1 D.nodup;have j:∀y∈L++l,w3.heap[y]?=A.heap[y]?:=fun y F=>d.block y (t y (by simp at F ⊢;exact .inr F)) (fun e=>u.2.2 y (by simp [<-e]) y F rfl);have k:Own w3 W.heap.size (L++l):=(D.sub (Ap _ _)).keep j;have hv:=Znl i;refine ⟨⟨xs++f,L++l,by rw [AY];exact i,Xd (ZfG J (Zmk o)) j,⟨AQ.2 ⟨hv.nodup,k.nodup,fun a I b B e=>?_⟩,fun b B=>?_,fun b B=>?_⟩⟩,?_⟩
 .subst e;have ha:C.ownBlock=some a:=by simpa using I
  rcases p a ha with H|H
  .exact u.2.2 a (by simp [H]) a B rfl
  .have:=t a (by simp at B ⊢;exact .inr B);omega
 .rcases AA.1 B with m|m
  .exact hv.ge b m
  .exact k.ge b m
 .rcases AA.1 B with m|m
  .exact hv.plain b m
  .exact k.plain b m
 .exact G.trans ⟨d.os,d.tape,d.output,d.size,fun q K=>d.block q (AE K G.size) (fun e=>by have:=D.ge q (by simp [<-e]);omega)⟩
end
section
open Go.RowKit
theorem ZqH:(prog.info? 38).map (fun i=>(i.zero,i.size,i.bytes))=some (some (.agg #[.string ⟨#[]⟩,.slice none 0 0,.string ⟨#[]⟩,.slice none 0 0]),4,80):=yO
def ZaL:Yk Zz where
 size:=4
 rep:=fun w cs x L=>∃A1 a L1 d,cs=[.string x.fact.rel,.slice A1 x.fact.args.length a,.string x.rule,d]/\L=L1++d.ownBlock.toList/\x.fact.rel.size<=9223372036854775807/\x.rule.size<=9223372036854775807/\x.fact.args.length<=a/\a<=maxLen/\Sli ZsX w A1 x.fact.args L1/\w.ownsV 0 3 1 d x.uses.length (x.uses.map (Value.int .i64))
 len:=fun ⟨A1,a,L1,d,h,hL,g,i,j,k,f,e⟩=>by simp [h]
 keep:=fun ⟨A1,a,L1,d,h,hL,g,i,j,k,f,e⟩ hk=>⟨A1,a,L1,d,h,hL,g,i,j,k,f.keep (fun b m=>hk b (by simp [hL,m])),YG e (fun b m=>hk b (by rw [hL];exact AK _ m))⟩
 lt:=fun ⟨A1,a,L1,d,h,hL,g,i,j,k,f,e⟩=>by
  intro b m;simp only[hL,AA]at m
  rcases m with m|m
  .exact f.lt b m
  .exact Zj2 e b m
 one:=fun ⟨A1,a,L1,d,h,hL,g,i,j,k,f,e⟩=>by
  obtain ⟨A,c,rfl,_,_⟩:=YH e
  simp [h,Value.oneCell']
 pos:=by omega
theorem Zwt{w:World}{cs:List Value}{x:Zz}{L:List Nat}(h:ZaL.rep w cs x L):∃L',L'.Sublist L/\Zez.rep w cs x L':=by
 obtain ⟨A1,M,L1,N,rfl,rfl,C,B,F,G,D,E⟩:=h;obtain ⟨A,c,L0,rfl,K,J,I,H⟩:=Sl.row E;exact ⟨L1++L0,AU (Aa _) H,A1,M,L1,A,c,L0,rfl,rfl,C,B,F,G,D,K,J,_,L0,[],yG,I,Zb4 w _⟩
theorem ZcV{w:World}:∀{ds:List Zz}{xs:List Value}{L:List Nat},ZaL.reps w xs ds L->∃L',L'.Sublist L/\Zez.reps w xs ds L'
 | [],_,_,⟨h1,h2⟩=>⟨[],yG,h1,rfl⟩
 |d::ds,_,_,⟨c1,c2,L1,L2,rfl,rfl,h1,h2⟩=>by
  obtain ⟨M1,B,D⟩:=Zwt h1;obtain ⟨M2,A,C⟩:=ZcV h2;exact ⟨M1++M2,AU B A,c1,c2,M1,M2,rfl,rfl,D,C⟩
theorem ZhA.stepO{E:TypeId}{W w:World}{v:Value}{ds:List Zz}(h:ZhA ZaL E W v ds w):ZhA Zez E W v ds w:=by
 obtain ⟨⟨xs,L,D,C,B⟩,A⟩:=h;obtain ⟨L',s,r⟩:=ZcV C;exact ⟨⟨xs,L',D,r,B.sub (AU (Aa _) s)⟩,A⟩
def ZwU:Yk Yc where
 size:=3
 rep:=fun w cs x L=>∃r,cs=.string x.rule::r/\x.rule.size<=9223372036854775807/\ZlR.rep w r x.token L
 len:=fun ⟨r,h,t,hr⟩=>by rw [h,List.length_cons,ZlR.len hr];rfl
 keep:=fun ⟨r,h,t,hr⟩ hk=>⟨r,h,t,ZlR.keep hr hk⟩
 lt:=fun ⟨r,h,t,hr⟩=>ZlR.lt hr
 one:=fun ⟨r,h,t,hr⟩=>by
  intro u hu
  rw [h,AZ]at hu
  rcases hu with rfl|hu
  .rfl
  .exact ZlR.one hr u hu
 pos:=by omega
theorem ZAW:Enc ZwU QQ where
 to:=fun {w cs x L} h=>by
  obtain ⟨r,rfl,t,A⟩:=h;exact RCs.more (x:=.str x.rule) (L:=[]) ⟨rfl,rfl,t⟩ (Zvn.to A)
 of:=fun {w cs x L} h=>by
  obtain ⟨v,a,L1,L2,rfl,rfl,⟨rfl,rfl,t⟩,B⟩:=h;exact ⟨a,rfl,t,by rw [AJ];exact Zvn.of B⟩
theorem Znk{α:Type}{c:Yk α}{f:α->List CT}(h:Enc c f)(e:Nat){w:World}{z:Nat->Prop}{v:Value}{ds:List α}{L:List Nat}(B:(ZQ c).rep w [v] ds L)(A:∀y∈L,¬z y):Zh3 w z (false,[.sl e c.size (ds.map f)]) v:=.inr ⟨rfl,_,L,rfl,(h.sl e).1 B,A⟩
theorem Zh8{R:List Zf}{base F:List Za}{b:Zl}{O:List Yc}{J:Bool}(h:QZ R base=some (F,b,O,J)){w:World}{vs:List Value}{q:Nat}(hj:J0 w)(hq:q<w.heap.size)(ha:ZW (Zh3 w fun y=>y=q) [(false,[.sl 87 4 (A0 ZF R)]),(false,[.sl 35 2 (A0 Zq base)])] vs):
  Calls prog 55 vs.toArray w fun e w'=>∃A cap L0 cs L1 A3 H L3,e=.returned (.tuple #[.slice A F.length cap,.agg (cs:List Value).toArray,.slice A3 O.length H,.bool J])/\((ZQ Yf).rep w' [.slice A F.length cap] F L0/\∀y∈L0,y≠q)/\(Zbx.rep w' cs b L1/\∀y∈L1,y≠q)/\((ZQ ZwU).rep w' [.slice A3 O.length H] O L3/\∀y∈L3,y≠q)/\Below w.heap.size w w':=by
 refine ((ZmV h).2 w (fun y=>y=q) vs hj (fun y hy=>by rw [hy];exact hq) ha).mono ?_;rintro e w' ⟨v,n,rfl,⟨us,F0,⟨u1,W,F1,F2,e1,P,E,u2,V,F3,F4,I,e4,D,u3,U,F5,F6,e5,e6,C,u4,T,F7,F8,e7,e8,B,e9,aa⟩,M,N⟩,hn,hb⟩;subst e9 e7 e5 I e1;rcases E with ⟨E,_⟩|⟨_,c,q1,E⟩
 .simp at E
 rcases D with ⟨_,d,rfl,D⟩|⟨D,_⟩
 rotate_left
 .simp at D
 rcases C with ⟨C,_⟩|⟨_,f,q3,C⟩
 .simp at C
 rcases B with ⟨B,_⟩|⟨_,g,q4,B⟩
 .simp at B
 obtain rfl:_=c:=by simpa using q1
 obtain rfl:_=f:=by simpa using q3
 obtain rfl:_=g:=by simpa using q4
 obtain ⟨⟨rfl,_⟩,_⟩:=B;obtain ⟨_,L3,r3,i⟩:=C;have a:=(ZAW.sl 111).2 r3;obtain ⟨A3,H,I,_⟩:=id a;obtain rfl:u3=_:=by simpa using I
 obtain ⟨_,j,M1,o1,k,o,_⟩:=E;obtain ⟨A1,S,K1,rfl,L,k2,K,k4⟩:=Sl.row o1;obtain ⟨F2',s2,r2⟩:=ZvI (l:=YY b) D;rw [Ae]at N L K;refine ⟨A1,S,K1++M1,d,F2',A3,H,L3,by rw [N];rfl,⟨⟨A1,S,rfl,L,k2,j,K1,M1,rfl,K,Zau.reps_of k⟩,fun y G e=>?_⟩,⟨ZgU.of r2,fun y G e=>?_⟩,⟨a,fun y G e=>i y G (hn y e)⟩,hb⟩
 .have:y∈F0:=by
   rw [P,o];rcases AA.1 G with m|m
   .exact AM _ (AM _ (k4.subset m))
   .exact AM _ (AK _ m)
  have:=M.ge y this;omega
 .have:y∈F0:=by
   rw [P,e4];exact AK _ (AM _ (s2.subset G))
  have:=M.ge y this;omega
structure ZkC (w w4:World) (e:Nat) (v:Value) (out:List Zz) (wr:World):Prop where
 acc:ZhA ZaL 38 w v out wr
 grown:w4.grownBy wr (some e)
 blk:∀q,v.ownBlock=some q->q=e\/w4.heap.size<=q
section
variable {w w4 wr wq:World} {e:Nat} {v v':Value} {out:List Zz}
theorem ZkC.keep(h:ZkC w w4 e v out wr){y:Nat}(A:y<w4.heap.size)(B:y≠e):wr.heap[y]?=w4.heap[y]?:=h.grown.block y A (fun C=>B (A9 C))
theorem ZkC.later(h:ZkC w w4 e v out wr)(A:Below wr.heap.size wr wq):ZkC w w4 e v out wq:=
 ⟨h.acc.laterT A,⟨A.os.trans h.grown.os,A.tape.trans h.grown.tape,A.output.trans h.grown.output,AD h.grown.size A.size,fun k B C=>(A.block k (AE B h.grown.size)).trans (h.grown.block k B C)⟩,h.blk⟩
theorem ZkC.start(B:Below w.heap.size w w4)(A:Blk w4 e 38 #[])(a:w.heap.size<=e):ZkC w w4 e (.slice (some ⟨e,0,none⟩) 0 0) [] w4:=
 ⟨⟨⟨[],[],⟨yG,.inr ⟨e,0,0,#[],rfl,a,A,yG,by unfold maxLen;omega,yG,yG⟩⟩,⟨rfl,rfl⟩,by simp [Value.ownBlock],by simpa [Value.ownBlock]using a,by simpa [Value.ownBlock]using ⟨_,_,A⟩⟩,B⟩,World.grownBy.refl _ _,by simp [Value.ownBlock]⟩
theorem ZkC.add{x:Zz}{xs b:List Value}{L l:List Nat}(h:ZkC w w4 e v out wr)(D:ZaL.reps wr xs out L)(d:ZaL.rep wr b x l)(G:Own wr w.heap.size (v.ownBlock.toList++(L++l)))(f:wq.ownsV w.heap.size 38 4 v' (out.length+1) (xs++b))(a:wr.grownBy wq v.ownBlock)(c:∀g,v'.ownBlock=some g->v.ownBlock=some g\/wr.heap.size<=g):ZkC w w4 e v' (out++[x]) wq:=
 ⟨ZhA.snocT h.acc.below D d G f a c,⟨a.os.trans h.grown.os,a.tape.trans h.grown.tape,a.output.trans h.grown.output,AD h.grown.size a.size,fun k C B=>(a.block k (AE C h.grown.size) (fun F=>by
  rcases h.blk k F.symm with A|A
  .exact B (by rw [A])
  .omega)).trans (h.grown.block k C B)⟩,fun q E=>by
  rcases c q E with A|A
  .exact h.blk q A
  .exact .inr (AD h.grown.size A)⟩
end
structure Zmq (wr wq:World) (h:Nat) (cs:Array Value) (c6:List Value) (g1:Za) (L6:List Nat):Prop where
 below:Below wr.heap.size wr wq
 blk:Blk wq h 38 cs
 ge:wr.heap.size<=h
 rep:Yf.rep wq c6 g1 L6
 own:Own wq wr.heap.size L6
 far:h∉L6
 lth:∀y∈L6,y<wq.heap.size
theorem Zmq.way1{A C:World}{L K J I u0 u1 u2 u3:Value}{B:Nat}{H:List Value}{G:Za}{L6:List Nat}(b:Below A.heap.size A C)(k:Blk C A.heap.size 38 #[L,K,J,I])(E:Got Yf B H G L6 C)(M:A.heap.size+1<=B):
  Zmq A ((((C.setCell ⟨A.heap.size,0,none⟩ u0).setCell ⟨A.heap.size,1,none⟩ u1).setCell ⟨A.heap.size,2,none⟩ u2).setCell ⟨A.heap.size,3,none⟩ u3) A.heap.size #[u0,u1,u2,u3] H G L6:=by
 have D:∀y∈L6,y≠A.heap.size:=fun y m=>by have:=E.own.ge y m;omega
 have F:∀y∈L6,((((C.setCell ⟨A.heap.size,0,none⟩ u0).setCell ⟨A.heap.size,1,none⟩ u1).setCell ⟨A.heap.size,2,none⟩ u2).setCell ⟨A.heap.size,3,none⟩ u3).heap[y]?=C.heap[y]?:=fun y m=>by
  rw [Below.heap_setCell _ _ _ _ (D y m),Below.heap_setCell _ _ _ _ (D y m),Below.heap_setCell _ _ _ _ (D y m),Below.heap_setCell _ _ _ _ (D y m)]
 refine ⟨(((b.setCell (AL _) _).setCell (AL _) _).setCell (AL _) _).setCell (AL _) _,(((k.set_ 0 u0).set_ 1 u1).set_ 2 u2).set_ 3 u3,AL _,Yf.keep E.rep F,(E.own.mono yE).keep F,fun m=>D _ m rfl,fun y m=>?_⟩;have:=E.lt y m;simpa [World.setCell]using this
theorem Zmq.way2{A B:World}{cs:Array Value}{E:List Value}{D:Za}{L6:List Nat}(b:Below A.heap.size A B)(C:Got Yf A.heap.size E D L6 B):Zmq A (B.alloc (.cells cs 38)) B.heap.size cs E D L6:=
 ⟨b.alloc b.size _,Blk.new _ _ _,b.size,(C.alloc _).rep,(C.alloc _).own,fun m=>Nat.lt_irrefl _ (C.lt _ m),fun y m=>AE (C.lt y m) yG⟩
structure ZmT (wr:World) (h:Nat) (A6:Option Addr) (c6:Nat) (g1:Za) (rule:BYT) (L6:List Nat) (us:List Int) (vu:Value) (wq:World):Prop where
 box:Zmq wr wq h #[.string g1.rel,.slice A6 g1.args.length c6,.string rule,vu] [.string g1.rel,.slice A6 g1.args.length c6] g1 L6
 row:wq.ownsV wr.heap.size 3 1 vu us.length (us.map (Value.int .i64))
 far:∀q,vu.ownBlock=some q->q≠h/\q∉L6
theorem ZmT.start{C wq:World}{h:Nat}{A6:Option Addr}{B:Nat}{A:Za}{a:BYT}{L6:List Nat}(b:Zmq C wq h #[.string A.rel,.slice A6 A.args.length B,.string a,.slice none 0 0] [.string A.rel,.slice A6 A.args.length B] A L6):ZmT C h A6 B A a L6 [] (.slice none 0 0) wq:=
 ⟨b,ZiU _ _ _ _,by simp [Value.ownBlock]⟩
theorem ZmT.next{C D E w8:World}{h:Nat}{A6:Option Addr}{K:Nat}{I:Za}{b:BYT}{L6:List Nat}{G:List Int}{F A:Value}{z:Int}(H:ZmT C h A6 K I b L6 G F D)(B:Below D.heap.size D E)(d:w8.ownsV C.heap.size 3 1 A (G.length+1) (G.map (Value.int .i64)++[.int .i64 z]))(a:E.grownBy w8 F.ownBlock)(f:∀g,A.ownBlock=some g->F.ownBlock=some g\/E.heap.size<=g):
  ZmT C h A6 K I b L6 (G++[z]) A (w8.setCell ⟨h,3,none⟩ A):=by
 have i:h<E.heap.size:=AE H.box.blk.lt B.size;have N:Blk w8 h 38 #[.string I.rel,.slice A6 I.args.length K,.string b,F]:=(a.block h i (fun e=>(H.far h e.symm).1 rfl)).trans (H.box.blk.later B);have c:∀q,A.ownBlock=some q->q≠h/\q∉L6:=fun q J=>by
  rcases f q J with h1|h1
  .exact H.far q h1
  .exact ⟨yE,fun m=>by have:=H.box.lth q m;have:=B.size;omega⟩
 have L:∀y∈L6,(w8.setCell ⟨h,3,none⟩ A).heap[y]?=D.heap[y]?:=fun y m=>by
  rw [Below.heap_setCell _ _ _ _ (fun e=>H.box.far (by rw [show h=y from e.symm];exact m))];exact (a.block y (AE (H.box.lth y m) B.size) (fun e=>(H.far y e.symm).2 m)).trans (B.block y (H.box.lth y m))
 have O:Below C.heap.size C w8:=Zdw (H.box.below.trans (B.mono H.box.below.size)) a (AD H.box.below.size B.size) (fun q J=>Zuf H.row q J);refine ⟨⟨O.setCell H.box.ge _,N.set_ 3 A,H.box.ge,Yf.keep H.box.rep L,H.box.own.keep L,H.box.far,fun y m=>?_⟩,?_,c⟩
 .have:=H.box.lth y m;have h1:=B.size;have h2:=a.size;simp [World.setCell];omega
 .rw [AY,B3];exact YG d (fun q M=>Below.heap_setCell _ _ _ _ (by
   have:A.ownBlock=some q:=by simpa using M
   exact (c q this).1))
theorem ZmT.rep{F D:World}{h:Nat}{A6:Option Addr}{E:Nat}{C:Za}{rule:BYT}{L6:List Nat}{G:List Int}{A:Value}(H:ZmT F h A6 E C rule L6 G A D)(N:rule.size≤9223372036854775807):ZaL.rep D [.string C.rel,.slice A6 C.args.length E,.string rule,A] { fact:=C,rule:=rule,uses:=G } (L6++A.ownBlock.toList)∧Own D F.heap.size (L6++A.ownBlock.toList):=by
 obtain ⟨A',P,L',e,O,I,K,M,J⟩:=H.box.rep;simp only[B4,Value.slice.injEq,and_true,true_and] at e;obtain ⟨rfl,rfl⟩:=e;refine ⟨⟨A6,E,L6,A,rfl,rfl,I,N,K,M,by rw [O];exact J,Zoj H.row (AX _)⟩,?_⟩;have ho:=Znl H.row;refine ⟨AQ.2 ⟨H.box.own.nodup,ho.nodup,fun a L b B e=>?_⟩,fun b B=>?_,fun b B=>?_⟩
 ·subst e
  exact (H.far a (by simpa using B)).2 L
 ·rcases AA.1 B with m | m
  ·exact H.box.own.ge b m
  ·exact ho.ge b m
 ·rcases AA.1 B with m | m
  ·exact H.box.own.plain b m
  ·exact ho.plain b m
theorem Zyb{α β:Type}{g:α->Option β}{y:α}{l:List α}{A:List β}(h:ZnQ g (y::l)=some A):∃z us,g y=some z/\ZnQ g l=some us/\A=z::us:=by
 unfold ZnQ at h;obtain ⟨z,B,h⟩:=AB.1 h;obtain ⟨us,C,h⟩:=AB.1 h;exact ⟨z,us,B,C,(A9 h).symm⟩
theorem Zj8{w:World}{b i:Nat}{v:Value}(h:w.cell? ⟨b,i,none⟩=some v):b<w.heap.size:=by
 by_cases A:b<w.heap.size
 .exact A
 .have:w.heap[b]?=none:=Array.getElem?_eq_none yE;simp [World.cell?,this]at h
theorem Ztu{α:Type}{l:List α}{k:Nat}{z:α}(h:l[k]?=some z):l.drop k=z::l.drop (k+1):=by
 obtain ⟨B,A⟩:=AH.1 h;rw [Az B,A]
theorem ZvB{F:List Za}{Q:List Zh}{O:List Yc}{a:List Zz}{z:Int}{s:Zz}(h:Zmj F Q O a z=some s):∃c B C o A,0<=z/\Q[z.toNat]?=some c/\0<=c.for_/\F[c.for_.toNat]?=some B/\Xc B=some C/\O[z.toNat]?=some o/\o.token.facts.length<=1024/\ZnQ (ZaZ a) o.token.facts=some A/\s={ fact:=C,rule:=o.rule,uses:=A }:=by
 unfold Zmj at h;split at h
 .rename_i I;obtain ⟨c,E,h⟩:=AB.1 h;split at h
  .rename_i H;obtain ⟨B,b,h⟩:=AB.1 h;obtain ⟨C,d,h⟩:=AB.1 h;obtain ⟨o,D,h⟩:=AB.1 h;split at h
   .rename_i G;obtain ⟨A,e,h⟩:=AB.1 h;exact ⟨c,B,C,o,A,I,E,H,b,d,D,G,e,(A9 h).symm⟩
   .cases h
  .cases h
 .cases h
set_option maxRecDepth 1000000 in
set_option maxHeartbeats 8000000 in
theorem Zqc{R:List Zf}{base F:List Za}{b:Zl}{O:List Yc}{f:Za}{x:Int}{l:List Int}{r:List Zz}(hg:QZ R base=some (F,b,O,true))(hx:Xs F f=some x)(hfd:XW b x=some l)(hl:l.length<=1024)(hr:ZkX (Zmj F b.reasons O) l []=some r)(w:World)(hj:J0 w)(A:Option Addr)(c:Nat)(L:List Nat)(hR:(ZQ Zby).rep w [.slice A R.length c] R L)(B:Option Addr)(d:Nat)(K:List Nat)(hB:(ZQ Yf).rep w [.slice B base.length d] base K)(cs:List Value)(Lf:List Nat)(hf:Yf.rep w cs f Lf) :
    Calls prog 39 #[.slice A R.length c,.slice B base.length d,.agg cs.toArray] w (Zsd ZaL 38 w r (decide (0 < r.length))):=by
  have HF:=Lib.hid hf;obtain ⟨Af,cf,Lf2,e1,e2,t0,n1,m1,s1⟩:=hf;subst e1;have HG:=Lib.hid hg;have HX:=Lib.hid hx;have HD:=Lib.hid hfd;have HL:Hid (l.length<=1024):=hl;have HR:=Lib.hid hr;have HJ:=Lib.hid hj;have HRR:=Lib.hid hR;have HBB:=Lib.hid hB;clear hg hx hfd hl hr hj hR hB e2 t0 n1 m1 s1;go_enter func39,ntmps39;go_wp2_with fail
  obtain ⟨w0,hw0⟩ : ∃ w0,w0=(w.alloc (.cells #[.string f.rel,.slice Af f.args.length cf] 35)).alloc (.cells #[] 38):=⟨_,rfl⟩;have B0:Hid (Below w.heap.size w w0):=by rw [hw0];exact ((Below.refl _ w).alloc (AL _) _).alloc (by simp) _
  have KF0:Hid (Blk w0 w.heap.size 35 #[.string f.rel,.slice Af f.args.length cf]):=by rw [hw0];exact (Blk.new w _ _).alloc _
  have KE0:Hid (Blk w0 (w.heap.size+1) 38 #[]):=by rw [hw0];exact Blk.new_at (by simp)
  have HS0:Hid (w0.heap.size=w.heap.size+2):=by rw [hw0];show _=_;simp
  rw [← hw0];clear hw0;have J0' : Hid (J0 w0):=Zcb hJ0 HJ.out B0.out;refine (Zh8 HG.out J0'.out (q:=w.heap.size+1) KE0.out.lt (vs:=[_,_]) ⟨Znk Zlf _ ((ZQ Zby).keep HRR.out (Qu B0.out (fun y m=>(ZQ Zby).lt HRR.out y m))) (fun y m e=>by have:=(ZQ Zby).lt HRR.out y m;omega),Znk Zau _ ((ZQ Yf).keep HBB.out (Qu B0.out (fun y m=>(ZQ Yf).lt HBB.out y m))) (fun y m e=>by have:=(ZQ Yf).lt HBB.out y m;omega),trivial⟩).mono ?_;rintro e w1 ⟨AF,cF,LF,csb,Lb,AO,cO,LO,rfl,⟨hF,nF⟩,⟨hBf,nB⟩,⟨hO,nO⟩,hb1⟩;have NF:Hid (∀ y∈LF,y ≠ w.heap.size+1):=nF;have NB:Hid (∀ y∈Lb,y ≠ w.heap.size+1):=nB;have NO:Hid (∀ y∈LO,y ≠ w.heap.size+1):=nO;clear nF nB nO;have HF1:=Lib.hid hF;have HO1:=Lib.hid hO;have HBF1:=Lib.hid hBf;obtain ⟨Ar,cr,Lr,e1,e2,nr,mr,sr⟩:=hBf;subst e1 e2;have B01:Hid (Below w0.heap.size w0 w1):=hb1
  have W1:Hid (Below w.heap.size w w1):=B0.out.trans (hb1.mono B0.out.size);have KF1:Hid (Blk w1 w.heap.size 35 #[.string f.rel,.slice Af f.args.length cf]):=KF0.out.later hb1;have KE1:Hid (Blk w1 (w.heap.size+1) 38 #[]):=KE0.out.later hb1;have SF:Hid (Sli Yf w1 AF F LF):=(ZeR hF).2.2;have SO:Hid (Sli ZwU w1 AO O LO):=(ZeR hO).2.2;have SR:Hid (Sli ZsI w1 Ar b.reasons Lb):=sr;clear hF hO hb1 nr mr sr;obtain ⟨nf,hnf⟩ : ∃ n,F.length=n:=⟨_,rfl⟩;obtain ⟨no,hno⟩ : ∃ n,O.length=n:=⟨_,rfl⟩;obtain ⟨nr,hnr⟩ : ∃ n,b.reasons.length=n:=⟨_,rfl⟩;have HNF:Hid (F.length=nf):=hnf;have HNO:Hid (O.length=no):=hno;have HNR:Hid (b.reasons.length=nr):=hnr;rw [hnf] at HF1 ⊢;rw [hno] at HO1 ⊢;rw [hnr] at HBF1 ⊢;clear hnf hno hnr;go_wp2;obtain ⟨w2,hw2⟩ : ∃ w2,w2=w1.alloc (.cells #[.int .i64 b.nodes,.slice Ar nr cr] 53):=⟨_,rfl⟩
  obtain ⟨g,hgg⟩ : ∃ g,g=w1.heap.size:=⟨_,rfl⟩;have B12:Hid (Below w1.heap.size w1 w2):=by rw [hw2];exact (Below.refl _ w1).alloc (AL _) _
  have KB2:Hid (Blk w2 g 53 #[.int .i64 b.nodes,.slice Ar nr cr]):=by rw [hw2,hgg];exact Blk.new _ _ _
  have HGG:Hid (g=w1.heap.size):=hgg;rw [← hw2,← hgg];clear hw2 hgg;have W2:Hid (Below w.heap.size w w2):=W1.out.trans (B12.out.mono W1.out.size);have KF2:Hid (Blk w2 w.heap.size 35 #[.string f.rel,.slice Af f.args.length cf]):=KF1.out.later B12.out;have KE2:Hid (Blk w2 (w.heap.size+1) 38 #[]):=KE1.out.later B12.out;have a0:w2.cell? ⟨g,0,none⟩=some (.int .i64 b.nodes):=KB2.out.at (i:=0) rfl;have a1:w2.cell? ⟨g,1,none⟩=some (.slice Ar nr cr):=KB2.out.at (i:=1) rfl;have a2:w2.cell? ⟨w.heap.size,0,none⟩=some (.string f.rel):=KF2.out.at (i:=0) rfl;have a3:w2.cell? ⟨w.heap.size,1,none⟩=some (.slice Af f.args.length cf):=KF2.out.at (i:=1) rfl;have JD2:Hid (J0 w2.drew):=Zcb hJ0 HJ.out W2.out.drew
  have FD2:Hid ((ZQ Yf).rep w2.drew [.slice AF nf cF] F LF):=(ZQ Yf).keep HF1.out (Qu B12.out.drew (fun y m=>(ZQ Yf).lt HF1.out y m));have FX2:Hid (Yf.rep w2.drew [.string f.rel,.slice Af f.args.length cf] f Lf):=Yf.keep HF.out (Qu W2.out.drew (fun y m=>Yf.lt HF.out y m))
  go_region_held3 (fun W=>W.cell? ⟨g,0,none⟩=some (.int .i64 b.nodes)/\W.cell? ⟨g,1,none⟩=some (.slice Ar nr cr)/\W.cell? ⟨w.heap.size,0,none⟩=some (.string f.rel)/\W.cell? ⟨w.heap.size,1,none⟩=some (.slice Af f.args.length cf)) (first|exact ⟨a0,a1,a2,a3⟩|exact ⟨b0,b1,b2,b3⟩|exact ⟨c0,c1,c2,c3⟩) (first|(go_at_call 26;refine (Zp.givesI (Qq HX.out) JD2.out (vs:=[_,_]) ⟨Zox Zau _ FD2.out,ZkN Zau FX2.out,trivial⟩).mono ?_;rintro e w3 ⟨rfl,hb3⟩;have B23:Hid (Below w2.heap.size w2 w3):=(Below.refl _ w2).drew.trans hb3;have W3:Hid (Below w.heap.size w w3):=W2.out.trans (B23.out.mono W2.out.size);have B13:Hid (Below w1.heap.size w1 w3):=B12.out.trans (B23.out.mono B12.out.size);have KB3:=Lib.hid (KB2.out.later B23.out);have KF3:=Lib.hid (KF2.out.later B23.out);have b0:w3.cell? ⟨g,0,none⟩=some (.int .i64 b.nodes):=KB3.out.at (i:=0) rfl;have b1:w3.cell? ⟨g,1,none⟩=some (.slice Ar nr cr):=KB3.out.at (i:=1) rfl;have b2:w3.cell? ⟨w.heap.size,0,none⟩=some (.string f.rel):=KF3.out.at (i:=0) rfl;have b3:w3.cell? ⟨w.heap.size,1,none⟩=some (.slice Af f.args.length cf):=KF3.out.at (i:=1) rfl;clear hb3)|(go_at_call 68;refine (Zp.givesS (c:=Zj7) (g:=ZP) (t:=3) (ds:=l) (Zkp HD.out) ZfO (Zcb hJ0 HJ.out W3.out) (vs:=[_,_]) ⟨ZkN ZgU (Zbx.keep HBF1.out (Qu B13.out (fun y m=>Zbx.lt HBF1.out y m))),ZsA _ _,trivial⟩).mono ?_;rintro e w4 ⟨v4,rfl,hA4⟩;obtain ⟨A4,c4,rfl⟩:=hA4.shape;obtain ⟨L4,hG4⟩:=hA4.got;have HG4:=Lib.hid hG4.rep;have SL:Hid (Sli Zj7 w4 A4 l L4):=(ZeR hG4.rep).2.2;have N4:Hid (∀ y∈L4,w3.heap.size<=y):=hG4.own.ge;have B34:Hid (Below w3.heap.size w3 w4):=hA4.below;have W4:Hid (Below w.heap.size w w4):=W3.out.trans (B34.out.mono W3.out.size);have B14:Hid (Below w1.heap.size w1 w4):=B13.out.trans (B34.out.mono B13.out.size);have KB4:=Lib.hid (KB3.out.later B34.out);have KF4:=Lib.hid (KF3.out.later B34.out);have c0:w4.cell? ⟨g,0,none⟩=some (.int .i64 b.nodes):=KB4.out.at (i:=0) rfl;have c1:w4.cell? ⟨g,1,none⟩=some (.slice Ar nr cr):=KB4.out.at (i:=1) rfl;have c2:w4.cell? ⟨w.heap.size,0,none⟩=some (.string f.rel):=KF4.out.at (i:=0) rfl;have c3:w4.cell? ⟨w.heap.size,1,none⟩=some (.slice Af f.args.length cf):=KF4.out.at (i:=1) rfl;clear hA4 hG4))
  obtain ⟨nl,hnl⟩ : ∃ n,l.length=n:=⟨_,rfl⟩;have HNL:Hid (l.length=nl):=hnl;rw [hnl] at HG4 ⊢;clear hnl a0 a1 a2 a3 b0 b1 b2 b3 c0 c1 c2 c3;have KE4:Hid (Blk w4 (w.heap.size+1) 38 #[]):=(KE2.out.later B23.out).later B34.out;have N44:Hid (∀ y∈L4,y ≠ w.heap.size+1):=fun y m e=>by
    have h1:=N4.out y m;have h2:=W1.out.size;have h3:=KE1.out.lt;have h4:=B13.out.size;omega
  have NG:Hid (g ≠ w.heap.size+1):=by
    have h3:=KE1.out.lt;have h4:=HGG.out;show g ≠ _
    omega
  have S4:Hid (w.heap.size+2<=w4.heap.size/\g < w4.heap.size):=⟨by have h3:=KE1.out.lt;have:=B14.out.size;omega,KB4.out.lt⟩;go_wp2;have hst:Hid (ZkC w w4 (w.heap.size+1) (.slice (some ⟨w.heap.size+1,0,none⟩) 0 0) [] w4):=ZkC.start W4.out KE4.out (by omega);go_loopw [8,14] (fun v i wr=>∃ (k:Nat) (out:List Zz),k<=nl/\out.length=k/\i=.int .i64 k/\Hid (ZkX (Zmj F b.reasons O) (l.drop k) out=some r)/\Hid (ZkC w w4 (w.heap.size+1) v out wr)) (fun _ i _=>nl - (intOf i).toNat)
  case atStart=>exact ⟨0,[],AX _,rfl,rfl,HR,hst⟩
  case round =>
    clear hst;obtain ⟨k,out,hk,hok,rfl,HFO,HP⟩:=hrel;by_cases hlt:k < nl
    · obtain ⟨z,hz⟩ : ∃ z,l[k]? = some z:=⟨_,Aq (by have:=HNL.out;omega)⟩
      have hfo:=HFO.out;rw [Ztu hz,ZkX] at hfo;obtain ⟨s,hs,hfo2⟩:=AB.1 hfo;obtain ⟨cc,gf,g1,o,us,h0,hcc,h1,hgf,hg1,ho,h4,hus,rfl⟩:=ZvB hs;obtain ⟨n,rfl⟩:=Ac h0;obtain ⟨y,hy⟩:=Ac h1;rw [hy,AW] at hgf;rw [AW] at hcc ho;have hkl:k < l.length:=(AH.1 hz).1;have hnr:n < nr:=by have:=(AH.1 hcc).1;have:=HNR.out;omega
      have hno:n < no:=by have:=(AH.1 ho).1;have:=HNO.out;omega
      have hyf:y < nf:=by have:=(AH.1 hgf).1;have:=HNF.out;omega
      obtain ⟨b4,o4,cs4,Lk4,rfl,hb4,_,hrep4,hc4⟩:=SL.out.at_ hkl;rw [(AH.1 hz).2] at hrep4;obtain ⟨rfl,_⟩:=hrep4;obtain ⟨br,orr,csr,Lkr,rfl,hbr,_,hrepr,hcr⟩:=SR.out.at_ (AH.1 hcc).1;rw [(AH.1 hcc).2] at hrepr;obtain ⟨Ai,ci,Li,Ao,co,Lo,ecr,_⟩:=hrepr;subst ecr;obtain ⟨bO,oO,csO,LkO,rfl,hbO,hLkO,hrepO,hcO⟩:=SO.out.at_ (AH.1 ho).1;rw [(AH.1 ho).2] at hrepO;obtain ⟨rO,ecO,tO,Af1,cf1,Lf1,Ab1,cb1,Lb1,eco2,eLO,nf1,mf1,sf1,_,_,_⟩:=hrepO;subst ecO eco2 eLO;obtain ⟨bF,oF,csF,LkF,rfl,hbF,hLkF,hrepF,hcF⟩:=SF.out.at_ (AH.1 hgf).1;rw [(AH.1 hgf).2] at hrepF;have HGF:=Lib.hid hrepF;obtain ⟨AG,cG,LG,ecF,eLF,_⟩:=hrepF;subst ecF;have K4:Hid (∀ x,x < w4.heap.size->x ≠ w.heap.size+1->wr.heap[x]? = w4.heap[x]?):=fun x hx hn=>HP.out.keep hx hn
      have K1:Hid (∀ x,x < w1.heap.size->x ≠ w.heap.size+1->wr.heap[x]? = w1.heap[x]?):=fun x hx hn=>(HP.out.keep (AE hx B14.out.size) hn).trans (B14.out.block x hx);have q0:wr.cell? ⟨b4,o4+n*0+k,none⟩=some (.int .i64 (n:Int)):=by
        have:=(World.cell?_of_block (a:=⟨b4,o4+(k*1+0),none⟩) (K4.out b4 (SL.out.lt b4 hb4) (N44.out b4 hb4))).trans (hc4 0 _ rfl);rw [show o4+n*0+k=o4+(k*1+0) by omega];exact this
      rw [Nat.mul_zero,Nat.add_zero] at q0;have q1:wr.cell? ⟨br,orr+n*3,none⟩=some (.int .i64 cc.for_):=(World.cell?_of_block (a:=⟨br,orr+(n*3+0),none⟩) (K1.out br (SR.out.lt br hbr) (NB.out br hbr))).trans (hcr 0 _ rfl);rw [hy] at q1;have q2:wr.cell? ⟨bO,oO+n*3,none⟩=some (.string o.rule):=(World.cell?_of_block (a:=⟨bO,oO+(n*3+0),none⟩) (K1.out bO (SO.out.lt bO hbO) (NO.out bO hbO))).trans (hcO 0 _ rfl);have q3:wr.cell? ⟨bO,oO+n*3+1,none⟩=some (.slice Af1 o.token.facts.length cf1):=(World.cell?_of_block (a:=⟨bO,oO+(n*3+1),none⟩) (K1.out bO (SO.out.lt bO hbO) (NO.out bO hbO))).trans (hcO 1 _ rfl);have q4:wr.cell? ⟨bF,oF+y*2,none⟩=some (.string gf.rel):=(World.cell?_of_block (a:=⟨bF,oF+(y*2+0),none⟩) (K1.out bF (SF.out.lt bF hbF) (NF.out bF hbF))).trans (hcF 0 _ rfl)
      have q5:wr.cell? ⟨bF,oF+y*2+1,none⟩=some (.slice AG gf.args.length cG):=(World.cell?_of_block (a:=⟨bF,oF+(y*2+1),none⟩) (K1.out bF (SF.out.lt bF hbF) (NF.out bF hbF))).trans (hcF 1 _ rfl);have KB:Hid (Blk wr g 53 #[.int .i64 b.nodes,.slice (some ⟨br,orr,none⟩) nr cr]):=(K4.out g S4.out.2 NG.out).trans KB4.out;have q6:wr.cell? ⟨g,1,none⟩=some (.slice (some ⟨br,orr,none⟩) nr cr):=KB.out.at (i:=1) rfl;have HS1:Hid (Sli Yf w1 Af1 o.token.facts Lf1/\∀ x∈Lf1,x∈LO):=⟨sf1,fun x m=>hLkO x (by simp [m])⟩;have hsubF:Hid (∀ x∈LkF,x∈LF):=hLkF;have HG1:=Lib.hid hg1;have HUS:=Lib.hid hus;have HFO2:=Lib.hid hfo2;have HOK:Hid (out.length=k):=hok;have HTO:Hid (o.rule.size<=9223372036854775807):=tO;have HY:Hid (cc.for_=y):=hy
      clear hfo hs hz hcc hgf ho hc4 hcr hcO hcF hb4 hbr hbO hbF hLkO hLkF hg1 hus hfo2 hkl h0 h1 HFO nf1 mf1 sf1 tO hy;have WR:Hid (Below w.heap.size w wr):=HP.out.acc.below;have KS:Hid (g < wr.heap.size/\br < wr.heap.size/\bO < wr.heap.size/\bF < wr.heap.size):=⟨KB.out.lt,Zj8 q1,Zj8 q2,Zj8 q4⟩;have FGA:Hid (∀ x∈LkF,wr.heap[x]? = w1.heap[x]?):=fun x m=>K1.out x (SF.out.lt x (hsubF.out x m)) (NF.out x (hsubF.out x m));have FGR:Hid (Yf.rep wr [.string gf.rel,.slice AG gf.args.length cG] gf LkF):=Yf.keep HGF.out FGA.out
      have SW:Hid (∀ W,Below wr.heap.size wr W->W.cell? ⟨g,1,none⟩=some (.slice (some ⟨br,orr,none⟩) nr cr)/\W.cell? ⟨br,orr+n*3,none⟩=some (.int .i64 y)/\W.cell? ⟨bO,oO+n*3,none⟩=some (.string o.rule)/\W.cell? ⟨bF,oF+y*2,none⟩=some (.string gf.rel)/\W.cell? ⟨bF,oF+y*2+1,none⟩=some (.slice AG gf.args.length cG)):=fun W hW=>⟨(hW.cell KS.out.1).trans q6,(hW.cell KS.out.2.1).trans q1,(hW.cell KS.out.2.2.1).trans q2,(hW.cell KS.out.2.2.2).trans q4,(hW.cell KS.out.2.2.2).trans q5⟩;have HC:Hid (∀ W,Below wr.heap.size wr W->Calls prog 57 #[.agg #[.string gf.rel,.slice AG gf.args.length cG]] W (fun e w6=>∃ A6 c6 L6,e=.returned (.agg #[.string g1.rel,.slice A6 g1.args.length c6])/\Got Yf W.heap.size [.string g1.rel,.slice A6 g1.args.length c6] g1 L6 w6/\Below W.heap.size W w6)):=fun W hW=>by
        refine (Zp.givesX (c:=Yf) (g:=Zq) (x:=g1) (Y7 HG1.out) Zau (Zcb hJ0 HJ.out (WR.out.trans (hW.mono WR.out.size))) (vs:=[_]) ⟨ZkN Zau (Yf.keep FGR.out (Qu hW (fun x m=>Yf.lt FGR.out x m))),trivial⟩).mono ?_;rintro e w6 ⟨cs6,L6,rfl,hG6,hb6⟩;obtain ⟨A6,c6,M6,e61,e62,t6,n6,m6,s6⟩:=id hG6.rep;subst e61;exact ⟨A6,c6,L6,rfl,hG6,hb6⟩
      have hB0:Below wr.heap.size wr wr:=Below.refl _ _;go_wp2_with fail
      go_region_held3 (fun W=>W.cell? ⟨g,1,none⟩=some (.slice (some ⟨br,orr,none⟩) nr cr)/\W.cell? ⟨br,orr+n*3,none⟩=some (.int .i64 y)/\W.cell? ⟨bO,oO+n*3,none⟩=some (.string o.rule)/\W.cell? ⟨bF,oF+y*2,none⟩=some (.string gf.rel)/\W.cell? ⟨bF,oF+y*2+1,none⟩=some (.slice AG gf.args.length cG)) (first|(refine SW.out _ ?_;repeat (first|with_reducible exact Below.refl _ _|with_reducible exact B6.out|refine Below.drew ?_|refine Below.setCell ?_ (by dsimp only;first|omega|(have:=B6.out.size;omega)) _|refine Below.alloc ?_ (by first|omega|(simp;done)|(have:=B6.out.size;omega)|(have:=B6.out.size;simp;omega)) _))) (first|(go_at_call 57;refine (HC.out _ (by repeat (first|with_reducible exact Below.refl _ _|refine Below.drew ?_|refine Below.alloc ?_ (by first|omega|(simp;done)|(simp;omega)) _))).mono ?_;rintro e w6 ⟨A6,c6,L6,rfl,hG6,hb6⟩;have B6:Hid (Below wr.heap.size wr w6):=Below.trans (by repeat (first|with_reducible exact Below.refl _ _|refine Below.drew ?_|refine Below.alloc ?_ (by first|omega|(simp;done)|(simp;omega)) _)) (hb6.mono (by first|(simp;done)|(simp;omega)));(first|(have KX:Hid (Blk w6 wr.heap.size 38 #[.string ⟨#[]⟩,.slice none 0 0,.string ⟨#[]⟩,.slice none 0 0]):=Blk.later (w:=(wr.alloc (.cells #[.string ⟨#[]⟩,.slice none 0 0,.string ⟨#[]⟩,.slice none 0 0] 38)).drew) (Blk.new wr _ _) (by with_reducible exact hb6);have x0:=KX.out.at (i:=0) rfl;have x1:=KX.out.at (i:=1) rfl;have x2:=KX.out.at (i:=2) rfl;have x3:=KX.out.at (i:=3) rfl;have z0:=KX.out.frozen 0;have z1:=KX.out.frozen 1;have z2:=KX.out.frozen 2;have z3:=KX.out.frozen 3)|skip)))
      all_goals (
        (first
          | (have HQ:=Zmq.way1 (u0:=.string g1.rel) (u1:=.slice A6 g1.args.length c6) (u2:=.string o.rule) (u3:=.slice none 0 0) B6.out KX.out hG6 (by simp)
             obtain ⟨wq,hwq⟩ : ∃ wq,wq=((((w6.setCell ⟨wr.heap.size,0,none⟩ (.string g1.rel)).setCell ⟨wr.heap.size,1,none⟩ (.slice A6 g1.args.length c6)).setCell ⟨wr.heap.size,2,none⟩ (.string o.rule)).setCell ⟨wr.heap.size,3,none⟩ (.slice none 0 0)):=⟨_,rfl⟩;obtain ⟨h,hh⟩ : ∃ h,h=wr.heap.size:=⟨_,rfl⟩;rw [← hwq,← hh] at HQ;rw [← hwq,← hh])
          | (have HQ:=Zmq.way2 (cs:=#[.string g1.rel,.slice A6 g1.args.length c6,.string o.rule,.slice none 0 0]) B6.out hG6
             obtain ⟨wq,hwq⟩ : ∃ wq,wq=w6.alloc (.cells #[.string g1.rel,.slice A6 g1.args.length c6,.string o.rule,.slice none 0 0] 38):=⟨_,rfl⟩;obtain ⟨h,hh⟩ : ∃ h,h=w6.heap.size:=⟨_,rfl⟩;rw [← hwq,← hh] at HQ;rw [← hwq,← hh]))
        have HBX:=Lib.hid HQ;clear HQ hwq hh hG6 hb6;obtain ⟨nft,hnft⟩ : ∃ q,o.token.facts.length=q:=⟨_,rfl⟩;have HNT:Hid (o.token.facts.length=nft):=hnft;rw [hnft] at q3 h4;clear hnft;obtain ⟨Av,cv,ev⟩:=HP.out.acc.shape;subst ev;obtain ⟨xs9,L9,o9,r9,p9⟩:=HP.out.acc.ex;rw [hok] at o9 ⊢;have HO9:=Lib.hid o9;have HR9:=Lib.hid (And.intro r9 p9);clear o9 r9 p9;go_wp2;obtain ⟨wO,hwO⟩ : ∃ q,q=wr:=⟨_,rfl⟩;subst hwO;have hst:Hid (ZmT wO h A6 c6 g1 o.rule L6 [] (.slice none 0 0) wq):=ZmT.start HBX.out;go_loopw [17] (fun i wz=>∃ (j:Nat) (u1 u2:List Int) (vu:Value),j<=nft/\i=.int .i64 j/\Hid (ZnQ (ZaZ out) (o.token.facts.drop j)=some u2/\u1 ++ u2=us/\u1.length=j)/\Hid (ZmT wO h A6 c6 g1 o.rule L6 u1 vu wz)) (fun i _=>nft - (intOf i).toNat)
        case atStart=>exact ⟨0,[],us,_,AX _,rfl,⟨HUS.out,rfl,rfl⟩,hst⟩
        case round =>
          clear hst;obtain ⟨j,u1,u2,vu,hj,rfl,HU,HI⟩:=hrel;have BQ:Hid (Below wO.heap.size wO wr):=HI.out.box.below;have r3:wr.cell? ⟨bO,oO+n*3+1,none⟩=some (.slice Af1 nft cf1):=(BQ.out.cell (p:=⟨bO,oO+n*3+1,none⟩) KS.out.2.2.1).trans q3;obtain ⟨Au,cu,eu⟩ : ∃ A c,vu=.slice A u1.length c:=by obtain ⟨A,c,h1,_⟩:=YH HI.out.row;exact ⟨A,c,h1⟩
          subst eu;have k3:wr.cell? ⟨h,3,none⟩=some (.slice Au u1.length cu):=HI.out.box.blk.at (i:=3) rfl;have z3:wr.frozen? ⟨h,3,none⟩=false:=HI.out.box.blk.frozen 3;by_cases hjt:j < nft
          · obtain ⟨ft,hft⟩ : ∃ ft,o.token.facts[j]? = some ft:=⟨_,Aq (by have:=HNT.out;omega)⟩
            have hu:=HU.out;rw [Ztu hft] at hu;obtain ⟨hm,hus2,hul⟩:=hu;obtain ⟨z,u3,hz,hm3,rfl⟩:=Zyb hm;obtain ⟨bf1,of1,csf,Lkf,rfl,hbf,hLkf,hrepf,hcf⟩:=HS1.out.1.at_ (AH.1 hft).1;rw [(AH.1 hft).2] at hrepf;have HFT:=Lib.hid hrepf;obtain ⟨At,ct,Lt,ecf,eLt,_⟩:=hrepf;subst ecf;have hbl:bf1 < w1.heap.size:=HS1.out.1.lt _ hbf;have hbo:bf1 < wO.heap.size:=AE hbl (AD B14.out.size HP.out.grown.size);have t4:wO.cell? ⟨bf1,of1+j*2,none⟩=some (.string ft.rel):=(World.cell?_of_block (a:=⟨bf1,of1+(j*2+0),none⟩) (K1.out bf1 hbl (NO.out bf1 (HS1.out.2 _ hbf)))).trans (hcf 0 _ rfl);have t5:wO.cell? ⟨bf1,of1+j*2+1,none⟩=some (.slice At ft.args.length ct):=(World.cell?_of_block (a:=⟨bf1,of1+(j*2+1),none⟩) (K1.out bf1 hbl (NO.out bf1 (HS1.out.2 _ hbf)))).trans (hcf 1 _ rfl)
            have SX:Hid (∀ W,Below wO.heap.size wO W->W.cell? ⟨bO,oO+n*3+1,none⟩=some (.slice (some ⟨bf1,of1,none⟩) nft cf1)/\W.cell? ⟨bf1,of1+j*2,none⟩=some (.string ft.rel)/\W.cell? ⟨bf1,of1+j*2+1,none⟩=some (.slice At ft.args.length ct)):=fun W hW=>⟨(hW.cell (p:=⟨bO,oO+n*3+1,none⟩) KS.out.2.2.1).trans q3,(hW.cell (p:=⟨bf1,of1+j*2,none⟩) hbo).trans t4,(hW.cell (p:=⟨bf1,of1+j*2+1,none⟩) hbo).trans t5⟩;have HFO2:Hid (Yf.rep wO [.string ft.rel,.slice At ft.args.length ct] ft Lkf):=Yf.keep HFT.out (fun x m=>K1.out x (HS1.out.1.lt x (hLkf x m)) (NO.out x (HS1.out.2 x (hLkf x m))));have HCI:Hid (∀ W,Below wO.heap.size wO W->Calls prog 69 #[.slice Av k cv,.agg #[.string ft.rel,.slice At ft.args.length ct]] W (fun e w'=>e=.returned (.int .i64 z)/\Below W.heap.size W w')):=fun W hW=>by
              obtain ⟨LA,hG⟩:=(HP.out.later hW).acc.stepO.got;have hrp:=hG.rep;rw [HOK.out] at hrp;exact Zp.givesI (Zp8 hz) (Zcb hJ0 HJ.out (WR.out.trans (hW.mono WR.out.size))) (vs:=[_,_]) ⟨Zox Zm9 _ hrp,ZkN Zau (Yf.keep HFO2.out (Qu hW (fun x m=>Yf.lt HFO2.out x m))),trivial⟩
            have HZ:Hid (ZnQ (ZaZ out) (o.token.facts.drop (j+1))=some u3/\(u1 ++ [z]) ++ u3=us/\(u1 ++ [z]).length=j+1):=⟨hm3,by rw [AI];exact hus2,by simp [hul]⟩;have HUL:Hid (u1.length=j):=hul;clear hft hm hus2 hm3 hul hcf hbf hLkf t4 t5 hz HU;go_wp2_with fail
            obtain ⟨y1,y2,y3⟩:=SX.out wr BQ.out
            go_region_law ((first|(go_simp;go_at_call 69;refine (HCI.out _ (by repeat (first|with_reducible exact Below.refl _ _|with_reducible exact BQ.out|with_reducible exact B7.out|with_reducible exact B8.out|refine Below.drew ?_|refine Below.setCell ?_ HI.out.box.ge _|refine Below.alloc ?_ (by first|exact BQ.out.size|exact B7.out.size|omega) _))).mono ?_;rintro e w7 ⟨rfl,hb7⟩;have BR7:Hid (Below wr.heap.size wr w7):=Below.trans (by repeat (first|with_reducible exact Below.refl _ _|refine Below.drew ?_|refine Below.alloc ?_ (by first|omega|(simp;done)|(simp;omega)) _)) (hb7.mono (by first|(simp;done)|(simp;omega)));have B7:Hid (Below wO.heap.size wO w7):=BQ.out.trans (BR7.out.mono BQ.out.size);have k7:w7.cell? ⟨h,3,none⟩=some (.slice Au u1.length cu):=(HI.out.box.blk.later BR7.out).at (i:=3) rfl;have k7a:∀ ob,(w7.alloc ob).cell? ⟨h,3,none⟩=some (.slice Au u1.length cu):=fun ob=>((HI.out.box.blk.later BR7.out).later ((Below.refl _ w7).alloc (AL _) ob)).at (i:=3) rfl;clear hb7)|(refine Zrg rfl (.tmp 73) (.tmp 85) 36 rfl 3 (.int .i64 0) 1 8 underlying36 Zpr rfl (by omega) wO.heap.size (.slice Au u1.length cu) u1.length (u1.map (Value.int .i64)) [_] rfl rfl (ZdZ HI.out.row BR7.out) rfl (by intro u hu;simp only[AZ,Ah,or_false] at hu;subst hu;rfl) (by have:=HUL.out;omega) (by have:=HUL.out;omega) B7.out.size ?_;intro v8 w8 hown8 hgrow8 hblk8;obtain ⟨A8,c8,e8,_,_⟩:=YH hown8;subst e8;have H8:Hid (ZmT wO h A6 c6 g1 o.rule L6 (u1 ++ [z]) (.slice A8 (u1.length+1) c8) (w8.setCell ⟨h,3,none⟩ (.slice A8 (u1.length+1) c8))):=ZmT.next HI.out BR7.out hown8 hgrow8 hblk8;have B8:Hid (Below wO.heap.size wO w8):=Zdw B7.out hgrow8 B7.out.size (fun q hq=>Zuf HI.out.row q hq);have K8:Hid (Blk w8 h 38 #[.string g1.rel,.slice A6 g1.args.length c6,.string o.rule,.slice Au u1.length cu]):=(hgrow8.block h (AE HI.out.box.blk.lt BR7.out.size) (fun e=>(HI.out.far h e.symm).1 rfl)).trans (HI.out.box.blk.later BR7.out);have k8:w8.cell? ⟨h,3,none⟩=some (.slice Au u1.length cu):=K8.out.at (i:=3) rfl;have z8:w8.frozen? ⟨h,3,none⟩=false:=K8.out.frozen 3;clear hown8 hgrow8 hblk8)))
            all_goals (
              go_wp2;exact ⟨⟨j+1,u1 ++ [z],u3,_,by omega,by simp,HZ,by first|exact H8|exact Lib.hid H8.out.drew⟩,by simp [intOf];omega⟩)
          · have h0:j=nft:=by omega
            subst h0;have hu:=HU.out;rw [As (by have:=HNT.out;omega),ZnQ] at hu;obtain ⟨hm,hus2,hul⟩:=hu;obtain rfl:_=u2:=A9 hm;rw [AC] at hus2;subst hus2;have k0:wr.cell? ⟨h,0,none⟩=some (.string g1.rel):=HI.out.box.blk.at (i:=0) rfl;have k1:wr.cell? ⟨h,1,none⟩=some (.slice A6 g1.args.length c6):=HI.out.box.blk.at (i:=1) rfl;have k2:wr.cell? ⟨h,2,none⟩=some (.string o.rule):=HI.out.box.blk.at (i:=2) rfl;clear hm hul HU;have hkk:k<=1024:=by have:=HL.out;have:=HNL.out;omega
            go_wp2_with (at_builtin;(refine Zut rfl (.tmp 88) (.tmp 90) 26 rfl 38 _ 4 80 underlying26 ZqH rfl (by omega) w.heap.size (.slice Av k cv) k xs9 [_,_,_,_] rfl rfl (ZdZ HO9.out BQ.out) rfl (by intro u hu;simp only[AZ,Ah,or_false] at hu;rcases hu with rfl|rfl|rfl|rfl<;>rfl) (by omega) (by omega) (AD WR.out.size BQ.out.size) ?_);intro v' w' hown hgrow hblk);have hrO:=HI.out.rep HTO.out;have hO9:Own wr w.heap.size ((Value.ownBlock (.slice Av out.length cv)).toList ++ L9):=HR9.out.2.keep (fun y m=>BQ.out.block y (HR9.out.2.lt y m));have hOO:=hO9.append hrO.2 WR.out.size HR9.out.2.lt;rw [AI] at hOO;refine ⟨⟨k+1,out ++ [{ fact:=g1,rule:=o.rule,uses:=u1 }],by omega,by simp [HOK.out],by simp,HFO2,?_⟩,by simp [intOf];omega⟩
            exact Lib.hid ((HP.out.later BQ.out).add (Xd HR9.out.1 (fun y m=>BQ.out.block y (HR9.out.2.lt y (AK _ m)))) hrO.1 hOO (by rw [HOK.out];exact hown) (by rw [HOK.out];exact hgrow) (by rw [HOK.out];exact hblk)))
    · have h0:k=nl:=by omega
      subst h0;have hfo:=HFO.out;rw [As (by have:=HNL.out;omega),ZkX] at hfo;obtain rfl:out=r:=A9 hfo;obtain ⟨Av,cv,ev⟩:=HP.out.acc.shape;subst ev;clear hfo HFO;subst hok;go_wp2;go_ret2;exact ⟨_,rfl,HP.out.acc⟩
theorem Zp4{R:List Zf}{base F:List Za}{b:Zl}{O:List Yc}{f:Za}(I:QZ R base=some (F,b,O,false))(w:World)(H:J0 w)(A:Option Addr)(c:Nat)(L:List Nat)(J:(ZQ Zby).rep w [.slice A R.length c] R L)(B:Option Addr)(d:Nat)(K:List Nat)(M:(ZQ Yf).rep w [.slice B base.length d] base K)(cs:List Value)(Lf:List Nat)(hf:Yf.rep w cs f Lf):
  Calls prog 39 #[.slice A R.length c,.slice B base.length d,.agg cs.toArray] w (Zsd ZaL 38 w [] false):=by
 obtain ⟨Af,cf,Lf2,E,D,N,n1,m1,S⟩:=hf;subst E;have HG:=yS I;have HJ:=yS H;have HRR:=yS J;have HBB:=yS M;clear I H J M D N n1 m1 S;go_enter func39,ntmps39;go_wp2_with fail
 obtain ⟨C,a⟩:∃C,C=(w.alloc (.cells #[.string f.rel,.slice Af f.args.length cf] 35)).alloc (.cells #[] 38):=⟨_,rfl⟩
 have B0:Hid (Below w.heap.size w C):=by rw [a];exact ((Below.refl _ w).alloc (AL _) _).alloc yG _
 have KE0:Hid (Blk C (w.heap.size+1) 38 #[]):=by rw [a];exact Blk.new_at yG
 rw [<-a];clear a;have J0':Hid (J0 C):=Zcb hJ0 HJ.out B0.out;refine (Zh8 HG.out J0'.out (q:=w.heap.size+1) KE0.out.lt (vs:=[_,_]) ⟨Znk Zlf _ ((ZQ Zby).keep HRR.out (Qu B0.out (fun y m=>(ZQ Zby).lt HRR.out y m))) (fun y m e=>by have:=(ZQ Zby).lt HRR.out y m;omega),Znk Zau _ ((ZQ Yf).keep HBB.out (Qu B0.out (fun y m=>(ZQ Yf).lt HBB.out y m))) (fun y m e=>by have:=(ZQ Yf).lt HBB.out y m;omega),trivial⟩).mono ?_;rintro e G ⟨AF,cF,LF,aa,Lb,AO,cO,LO,rfl,⟨hF,V⟩,⟨i,W⟩,⟨hO,U⟩,g⟩;obtain ⟨Ar,cr,Lr,E,D,T,mr,P⟩:=i;subst E D;have W1:Hid (Below w.heap.size w G):=B0.out.trans (g.mono B0.out.size);have KE1:Hid (Blk G (w.heap.size+1) 38 #[]):=KE0.out.later g;clear hF hO g T mr P V W U;go_wp2;go_ret2;exact ⟨_,rfl,(ZkC.start (W1.out.alloc W1.out.size _) (KE1.out.alloc _) yE).acc⟩
theorem ZnW{R:List Zf}{base:List Za}{f:Za}{r:List Zz}(h:ZdC R base f=some r)(w:World)(D:J0 w)(A:Option Addr)(c:Nat)(L:List Nat)(H:(ZQ Zby).rep w [.slice A R.length c] R L)(B:Option Addr)(d:Nat)(K:List Nat)(I:(ZQ Yf).rep w [.slice B base.length d] base K)(cs:List Value)(Lf:List Nat)(G:Yf.rep w cs f Lf):
  Calls prog 39 #[.slice A R.length c,.slice B base.length d,.agg cs.toArray] w (Zsd ZaL 38 w r (decide (0<r.length))):=by
 unfold ZdC at h;obtain ⟨⟨F,b,O,J⟩,E,h⟩:=AB.1 h;cases J with
 |false=>
  obtain rfl:[]=r:=A9 h;exact Zp4 E w D A c L H B d K I cs Lf G
 |true=>
  rw [yp rfl]at h;obtain ⟨x,M,h⟩:=AB.1 h;obtain ⟨l,N,h⟩:=AB.1 h;by_cases C:l.length<=1024
  .rw [yp C]at h;exact Zqc E M N C h w D A c L H B d K I cs Lf G
  .rw [yn C]at h;cases h
end
section
open Go.RowKit
def Zhz(z:Nat->Prop)(b:Nat)(own:List Nat):Nat->Prop:=inQ (fun y=>z y\/y∈own) (some b)
structure LdK (w0:World) (z:Nat->Prop) (b:Nat):Prop where
 hz:∀y,z y->y<w0.heap.size/\y≠b
 hb:b<w0.heap.size
 jf:JF0 b
 j0:J0 w0
structure Xo (w0:World) (z:Nat->Prop) (b:Nat) (own:List Nat) (c:Zi) (w:World):Prop where
 hand:Znp w (Zhz z b own) (some b) (.box 77 (ZS c)) (.pointer (some ⟨b,0,none⟩))
 bel:Zgo (some b) w0 w
 j:J0 w
 own:∀y∈own,w0.heap.size<=y/\y<w.heap.size
theorem Zgo.trans{q:Option Nat}{w A w2:World}(h:Zgo q w A)(k:Zgo q A w2):Zgo q w w2:=
 ⟨k.os.trans h.os,k.tape.trans h.tape,k.output.trans h.output,AD h.size k.size,fun y B C=>(k.block y (AE B h.size) C).trans (h.block y B C)⟩
section
variable {w0 w w':World} {z:Nat->Prop} {b:Nat} {own own':List Nat} {c c':Zi}
theorem Xo.call{f:FuncId}{args:List (Bool×List CT)}{d:List RT}{vs:List Value}(H:Ys prog J0 JF0 f (.box 77 (ZS c)) args d (.box 77 (ZS c')))(K:LdK w0 z b)(S:Xo w0 z b own c w)(ha:ZW (Zh3 w (Zhz z b own)) args vs):
  Calls prog f (.pointer (some ⟨b,0,none⟩)::vs).toArray w fun e w'=>∃v n,e=.returned v/\Zgi w' w.heap.size n d v/\(∀y,Zhz z b own y->n y)/\Xo w0 z b own c' w'/\Zgo (some b) w w':=by
 refine (H.2 w (fun y=>z y\/y∈own) (some b) _ vs S.j (fun y A=>by cases A;exact K.jf) (fun y A=>?_) S.hand ha).mono ?_
 .rcases A with A|A
  .exact ⟨AE (K.hz y A).1 S.bel.size,fun e=>(K.hz y A).2 (A9 e).symm⟩
  .exact ⟨(S.own y A).2,fun e=>by have:=(S.own y A).1;have:=K.hb;have:=A9 e;omega⟩
 .rintro e w' ⟨v,n,J,F,C,I,hb⟩;refine ⟨v,n,J,F,C,⟨?_,S.bel.trans hb,?_,fun y B=>⟨(S.own y B).1,AE (S.own y B).2 hb.size⟩⟩,hb⟩
  .obtain ⟨T,D,L,R,P,O,N,M⟩:=I;exact ⟨T,D,L,R,P,O,N,fun a E hz=>M a E (C a hz)⟩
  .exact hJ0.below (fun y=>y=b) w w' S.j (fun y A=>by rw [A];exact K.jf) hb.os hb.tape hb.output hb.size (fun k G g=>hb.block k G (fun e=>g (A9 e).symm))
theorem Xo.turn(K:LdK w0 z b)(S:Xo w0 z b own c w)(d:w'.os=w.os)(e:w'.tape=w.tape)(f:w'.output=w.output)(g:w.heap.size<=w'.heap.size)(D:∀y,y<w.heap.size->y∉own->w'.heap[y]?=w.heap[y]?)(G:∀y∈own',y∈own\/w.heap.size<=y)(N:∀y∈own',y<w'.heap.size):Xo w0 z b own' c w':=by
 have hb:b∉own:=fun m=>by have:=(S.own b m).1;have:=K.hb;omega
 have hs:=S.bel.size;obtain ⟨b',I,L,R,P,O,H,E⟩:=S.hand;obtain rfl:b=b':=A9 R;have hL:=H.lt;refine ⟨⟨b,I,L,rfl,P,(D b (by have:=K.hb;omega) hb).trans O,H.keep (fun a A=>D a (hL a A) (fun m=>E a A (.inl (.inr m)))),fun a A B=>?_⟩,⟨d.trans S.bel.os,e.trans S.bel.tape,f.trans S.bel.output,AD hs g,fun y F J=>(D y yE (fun m=>by have:=(S.own y m).1;omega)).trans (S.bel.block y F J)⟩,hJ0.below (fun y=>y∈own) w w' S.j (fun y C=>hJ0.new w0 y K.j0 (S.own y C).1) d e f g (fun y F M=>D y F M),fun y C=>⟨?_,N y C⟩⟩
 .rcases B with (B|B)|B
  .exact E a A (.inl (.inl B))
  .rcases G a B with m|m
   .exact E a A (.inl (.inr m))
   .have:=hL a A;omega
  .exact E a A (.inr B)
 .rcases G y C with m|m
  .exact (S.own y m).1
  .omega
def Lnt{α:Type}(cd:Yk α)(z:Nat->Prop)(b:Nat)(own:List Nat)(cs:List Value)(x:α)(w:World):Prop:=∃L,cd.rep w cs x L/\∀a∈L,¬Zhz z b own a
theorem Lnt.turn{α:Type}{cd:Yk α}{cs:List Value}{x:α}(H:Lnt cd z b own cs x w)(F:∀y,y<w.heap.size->y∉own->w'.heap[y]?=w.heap[y]?)(E:∀y∈own',y∈own\/w.heap.size<=y):Lnt cd z b own' cs x w':=by
 obtain ⟨L,D,C⟩:=H;have hL:=cd.lt D;refine ⟨L,cd.keep D (fun a A=>F a (hL a A) (fun m=>C a A (.inl (.inr m)))),fun a A B=>?_⟩;rcases B with (B|B)|B
 .exact C a A (.inl (.inl B))
 .rcases E a B with m|m
  .exact C a A (.inl (.inr m))
  .have:=hL a A;omega
 .exact C a A (.inr B)
theorem Lnt.later{α:Type}{cd:Yk α}{cs:List Value}{x:α}(H:Lnt cd z b own cs x w)(D:Zgo (some b) w w'):Lnt cd z b own cs x w':=by
 obtain ⟨L,C,B⟩:=H;exact ⟨L,cd.keep C (fun a A=>D.block a (cd.lt C a A) (fun e=>B a A (.inr e))),B⟩
end
theorem Zzp{w:World}{B:Nat}{n:Nat->Prop}{D C A:RT}{v:Value}(h:Zgi w B n [D,C,A] v):∃u1 u2 u3 F1 F2 F3,v=.tuple #[u1,u2,u3]/\OP w B n D u1 F1/\OP w B n C u2 F2/\OP w B n A u3 F3/\Own w B (F1++(F2++F3)):=by
 obtain ⟨V,F0,⟨u1,H,F1,F2,U,T,K,u2,G,F3,F4,S,R,J,u3,F,F5,F6,P,O,I,N,M⟩,E,L⟩:=h;subst N M P O S R U T;rw [AC]at E;exact ⟨u1,u2,u3,F1,F3,F5,by rw [L];rfl,K,J,I,E⟩
theorem ZwY{α:Type}{cd:Yk α}{f:α->List CT}(D:Enc cd f){w:World}{B t:Nat}{n:Nat->Prop}{ds:List α}{v:Value}{F:List Nat}(h:OP w B n (false,[(true,.sl t cd.size (ds.map f))]) v F):∃A c L,v=.slice A ds.length c/\(ZQ cd).rep w [.slice A ds.length c] ds L/\∀a∈L,¬n a:=by
 rcases h with ⟨C,_⟩|⟨_,ct,C,H⟩
 .simp at C
 .obtain rfl:_=ct:=by simpa using C
  obtain ⟨_,L,G,E⟩:=H;have h6:=(D.sl t).2 G;obtain ⟨A,c,e,_⟩:=id h6;obtain rfl:v=_:=by simpa using e
  exact ⟨A,c,L,rfl,h6,E⟩
theorem ZwZ{w:World}{B:Nat}{n:Nat->Prop}{f:Za}{v:Value}{F:List Nat}(h:OP w B n (true,[(false,.str f.rel),(true,.sl 9 1 (A0 ZC f.args))]) v F):∃A c L,v=.agg #[.string f.rel,.slice A f.args.length c]/\Yf.rep w [.string f.rel,.slice A f.args.length c] f L/\∀a∈L,¬n a:=by
 rcases h with ⟨_,vs,rfl,u1,E,F1,F2,rfl,_,I,u2,D,F3,F4,rfl,_,H,rfl,_⟩|⟨C,_⟩
 .obtain ⟨⟨rfl,_,G⟩,_⟩:=I;obtain ⟨_,L,K,J⟩:=H;obtain ⟨A,c,e,C,N,M⟩:=(encStr.sl 9).2 K;obtain rfl:u2=_:=by simpa using e
  exact ⟨A,c,L,rfl,⟨A,c,L,rfl,rfl,G,C,N,M⟩,J⟩
 .simp at C
theorem ZrW{E w:World}{z:Nat->Prop}{b:Nat}{d:List Nat}{c G:Zi}{R:List Zf}{l:List Za}{f:Za}(h:Zei c=some (R,l,f,G))(K:LdK E z b)(S:Xo E z b d c w):
  Calls prog 36 #[.pointer (some ⟨b,0,none⟩)] w fun e w'=>∃A1 D A2 C A3 B,e=.returned (.tuple #[.slice A1 R.length D,.slice A2 l.length C,.agg #[.string f.rel,.slice A3 f.args.length B]])/\Lnt (ZQ Zby) z b d [.slice A1 R.length D] R w'/\Lnt (ZQ Yf) z b d [.slice A2 l.length C] l w'/\Lnt Yf z b d [.string f.rel,.slice A3 f.args.length B] f w'/\Xo E z b d G w'/\Zgo (some b) w w':=by
 refine (Xo.call (ZsU h) K S (vs:=[]) trivial).mono ?_;rintro e w' ⟨v,n,rfl,U,F,W,V⟩;obtain ⟨u1,u2,u3,F1,F2,F3,rfl,T,P,O,_⟩:=Zzp U;obtain ⟨A1,D,L1,rfl,J,N⟩:=ZwY (cd:=Zby) Zlf T;obtain ⟨A2,C,L2,rfl,I,M⟩:=ZwY (cd:=Yf) Zau P;obtain ⟨A3,B,L3,rfl,H,L⟩:=ZwZ O;exact ⟨A1,D,A2,C,A3,B,rfl,⟨L1,J,fun a m A=>N a m (F a A)⟩,⟨L2,I,fun a m A=>M a m (F a A)⟩,⟨L3,H,fun a m A=>L a m (F a A)⟩,W,V⟩
theorem Zdk{A w:World}{z:Nat->Prop}{b:Nat}{a:List Nat}{c B:Zi}{n k:Int}(h:ZL c n=some (k,B))(K:LdK A z b)(S:Xo A z b a c w):
  Calls prog 38 #[.pointer (some ⟨b,0,none⟩),.int .i64 n] w fun e w'=>e=.returned (.int .i64 k)/\Xo A z b a B w'/\Zgo (some b) w w':=by
 refine (Xo.call (ZR h) K S (vs:=[.int .i64 n]) ⟨.inr ⟨rfl,_,[],rfl,⟨rfl,rfl⟩,yG⟩,trivial⟩).mono ?_;rintro e w' ⟨v,m,rfl,C,_,E,D⟩;exact ⟨by rw [Zsg C],E,D⟩
theorem Zr6{A w:World}{z:Nat->Prop}{b:Nat}{a:List Nat}{c B:Zi}{n:Int}{k:Bool}(h:ZaI c n=some (k,B))(K:LdK A z b)(S:Xo A z b a c w):
  Calls prog 37 #[.pointer (some ⟨b,0,none⟩),.int .i64 n] w fun e w'=>e=.returned (.bool k)/\Xo A z b a B w'/\Zgo (some b) w w':=by
 refine (Xo.call (ZdS h) K S (vs:=[.int .i64 n]) ⟨.inr ⟨rfl,_,[],rfl,⟨rfl,rfl⟩,yG⟩,trivial⟩).mono ?_;rintro e w' ⟨v,m,rfl,C,_,E,D⟩;exact ⟨by rw [Zto C],E,D⟩
theorem Zvr{B w:World}{z:Nat->Prop}{b:Nat}{d:List Nat}{c C:Zi}{f:Za}(h:Zd7 c=some (f,C))(K:LdK B z b)(S:Xo B z b d c w):
  Calls prog 40 #[.pointer (some ⟨b,0,none⟩)] w fun e w'=>∃A3 A,e=.returned (.agg #[.string f.rel,.slice A3 f.args.length A])/\Lnt Yf z b d [.string f.rel,.slice A3 f.args.length A] f w'/\Xo B z b d C w'/\Zgo (some b) w w':=by
 refine (Xo.call (Zhj h) K S (vs:=[]) trivial).mono ?_;rintro e w' ⟨v,n,rfl,I,J,M,L⟩;obtain ⟨F,G,_⟩:=Zhd I;obtain ⟨A3,A,L3,rfl,D,E⟩:=ZwZ G;exact ⟨A3,A,rfl,⟨L3,D,fun a m H=>E a m (J a H)⟩,M,L⟩
theorem Zfl{l:List Value}{n:Nat}(h:l.length=n):∃f:Nat->Value,l=(AS n).map f:=by
 refine ⟨fun i=>l.getD i undef,List.ext_getElem (by simp [h]) fun i A B=>?_⟩;simp [A]
def ZzI:Nat->Code->Code
 |0,.seq a _=>a
 |n+1,.seq _ b=>ZzI n b
 |_,c=>c
def ZzL:Nat->Code->Code
 |n+1,.seq _ b=>ZzL n b
 |_,c=>c
section
variable {w0 w w':World} {z:Nat->Prop} {b:Nat} {own own':List Nat} {c c':Zi}
theorem Lnt.arg{α:Type}{cd:Yk α}{f:α->List CT}(A:Enc cd f)(t:Nat){v:Value}{ds:List α}(H:Lnt (ZQ cd) z b own [v] ds w):Zh3 w (Zhz z b own) (false,[.sl t cd.size (ds.map f)]) v:=by
 obtain ⟨L,C,B⟩:=H;exact .inr ⟨rfl,_,L,rfl,(A.sl t).1 C,B⟩
theorem Xo.ask{f:FuncId}{args:List (Bool×List CT)}{a:List RT}{vs:List Value}(H:Zp prog J0 f args a)(K:LdK w0 z b)(S:Xo w0 z b own c w)(ha:ZW (Zh3 w (Zhz z b own)) args vs):
  Calls prog f vs.toArray w fun e w'=>∃v n,e=.returned v/\Zgi w' w.heap.size n a v/\Xo w0 z b own c w'/\Below w.heap.size w w':=by
 refine (H.2 w (Zhz z b own) vs S.j (fun y A=>?_) ha).mono ?_
 .rcases A with (A|A)|A
  .exact AE (K.hz y A).1 S.bel.size
  .exact (S.own y A).2
  .have:=A9 A;have:=K.hb;have:=S.bel.size;omega
 .rintro e w' ⟨v,n,D,C,E,hb⟩;exact ⟨v,n,D,C,S.turn K hb.os hb.tape hb.output hb.size (fun y A _=>hb.block y A) (fun y B=>.inl B) (fun y B=>AE (S.own y B).2 hb.size),hb⟩
theorem Lnt.fresh{α:Type}{cd:Yk α}{cs:List Value}{x:α}{L:List Nat}(K:LdK w0 z b)(S:Xo w0 z b own c w)(h:cd.rep w' cs x L)(B:∀y∈L,w.heap.size<=y):Lnt cd z b own cs x w':=
 ⟨L,h,fun a A hz=>by
  have h1:=B a A;have h2:=S.bel.size;rcases hz with (hz|hz)|hz
  .have:=(K.hz a hz).1;omega
  .have:=(S.own a hz).2;omega
  .have:=A9 hz;have:=K.hb;omega⟩
end
theorem ZF9{α:Type}{cd:Yk α}{f:α->List CT}(M:Enc cd f){w:World}{B t:Nat}{n:Nat->Prop}{ds:List α}{v:Value}{F:List Nat}(h:OP w B n (false,[(false,.sl t cd.size (ds.map f))]) v F):∃A c L,v=.slice A ds.length c/\(ZQ cd).rep w [.slice A ds.length c] ds L/\∀a∈L,a∈F:=by
 rcases h with ⟨C,_⟩|⟨_,ct,C,N⟩
 .simp at C
 .obtain rfl:_=ct:=by simpa using C
  obtain ⟨_,b,M1,H,d,e,_⟩:=N;obtain ⟨A1,G,K1,rfl,E,K,D,J⟩:=Sl.row H;rw [Ae]at E D;refine ⟨A1,G,K1++M1,by rw [Ae],⟨A1,G,rfl,E,K,b,K1,M1,rfl,D,M.reps_of d⟩,fun a I=>?_⟩;rw [e];rcases AA.1 I with m|m
  .exact AM _ (J.subset m)
  .exact AK _ m
theorem ZBK{w:World}{B:Nat}{n:Nat->Prop}{C A:RT}{v:Value}(h:Zgi w B n [C,A] v):∃u1 u2 F1 F2,v=.tuple #[u1,u2]/\OP w B n C u1 F1/\OP w B n A u2 F2/\Own w B (F1++F2):=by
 obtain ⟨P,F0,⟨u1,F,F1,F2,O,N,H,u2,E,F3,F4,M,L,G,K,J⟩,D,I⟩:=h;subst K J M L O N;rw [AC]at D;exact ⟨u1,u2,F1,F3,by rw [I];rfl,H,G,D⟩
theorem ZB6{w:World}{B:Nat}{n:Nat->Prop}{k:Bool}{v:Value}{F:List Nat}(h:OP w B n (false,[(false,.bool k)]) v F):v=.bool k:=by
 rcases h with ⟨A,_⟩|⟨_,ct,A,C⟩
 .simp at A
 .obtain rfl:_=ct:=by simpa using A
  exact C.1.1
theorem ZpE{B w:World}{z:Nat->Prop}{b:Nat}{a:List Nat}{c:Zi}{R:List Zf}{l M:List Za}{E:Bool}{D C:Value}(h:QK R l=some (M,E))(K:LdK B z b)(S:Xo B z b a c w)(T:Lnt (ZQ Zby) z b a [D] R w)(N:Lnt (ZQ Yf) z b a [C] l w):
  Calls prog 9 #[D,C] w fun e w'=>∃A1 A,e=.returned (.tuple #[.slice A1 M.length A,.bool E])/\Lnt (ZQ Yf) z b a [.slice A1 M.length A] M w'/\Xo B z b a c w'/\Below w.heap.size w w':=by
 refine (Xo.ask (Zhg h) K S (vs:=[D,C]) ⟨T.arg Zlf _,N.arg Zau _,trivial⟩).mono ?_;rintro e w' ⟨v,n,rfl,L,P,O⟩;obtain ⟨u1,u2,F1,F2,rfl,I,H,U⟩:=ZBK L;obtain ⟨A1,A,L1,rfl,F,G⟩:=ZF9 (cd:=Yf) Zau I;obtain rfl:=ZB6 H;exact ⟨A1,A,rfl,Lnt.fresh K S F fun y J=>U.ge y (AM _ (G y J)),P,O⟩
theorem ZCN{cd:Code}(l:f19.body=some cd){R w:World}{z:Nat->Prop}{b p:Nat}{c c':Zi}{M:List Za}{f L:Za}{fv:Nat->Value}(h:Zve M f c=some (L,c'))(K:LdK R z b)(S:Xo R z b [p] c w){A8:Option Addr}{c8:Nat}(hM:Lnt (ZQ Yf) z b [p] [.slice A8 M.length c8] M w){Af:Option Addr}{O:Nat}(hB:Blk w p 35 #[.string f.rel,.slice Af f.args.length O])(hf:Lnt Yf z b [p] [.string f.rel,.slice Af f.args.length O] f w)(h0:fv 0=.pointer (some ⟨b,0,none⟩))(h7:fv 7=.pointer (some ⟨p,0,none⟩))(h8:fv 8=.slice A8 M.length c8):
  (ZzI 3 cd).wp prog (fun e a w'=>e=.normal/\a.defers=[]/\a.tmps.size=122/\a.tmps.getD 0 undef=.pointer (some ⟨b,0,none⟩)/\a.tmps.getD 5 undef=fv 5/\a.tmps.getD 6 undef=fv 6/\a.tmps.getD 7 undef=.pointer (some ⟨p,0,none⟩)/\Xo R z b [p] c' w'/\(∃A3 c3,Blk w' p 35 #[.string L.rel,.slice A3 L.args.length c3]/\Lnt Yf z b [p] [.string L.rel,.slice A3 L.args.length c3] L w')/\(∀y,y<w.heap.size->y≠b->y≠p->w'.heap[y]?=w.heap[y]?)/\w.heap.size<=w'.heap.size) ⟨((AS 122).map fv).toArray,[]⟩ w:=by
 injection l with l;subst l;simp only[ZzI,AS,List.range.loop,A0,h0,h7,h8];unfold Zve at h;have HK:=yS K;have HS:=yS S;have HM:=yS hM;have HB:=yS hB;have HF:=yS hf;clear K S hM hB hf h0 h7 h8;by_cases T:0<M.length
 .rw [yp T]at h;obtain ⟨⟨o,c1⟩,h1,h⟩:=AB.1 h;have H1:=yS h1;have H:=yS h;clear h h1;obtain ⟨n,J⟩:∃n,M.length=n:=⟨_,rfl⟩
  have HN:Hid (M.length=n):=J;have HPB:Hid (b≠p):=fun e=>by
   have h1:=(HS.out.own p yG).1;have h2:=HK.out.hb;omega
  rw [J]at T HM ⊢;clear J;go_wp2_with fail
  refine (Zr6 H1.out HK.out HS.out).mono ?_;rintro e w1 ⟨rfl,x,q⟩;have HS1:=yS x;have HB1:=yS q;have HP1:Hid (Blk w1 p 35 #[.string f.rel,.slice Af f.args.length O]):=(q.block p HB.out.lt (fun e=>HPB.out (A9 e))).trans HB.out;clear x q;cases o with
  |true=>
   obtain ⟨rfl,rfl⟩:f=L/\c1=c':=by simpa using H.out
   go_wp2;exact ⟨HS1.out,⟨_,_,HP1.out,HF.out.later HB1.out⟩,fun y N J _=>HB1.out.block y N (fun e=>J (A9 e).symm),HB1.out.size⟩
  |false=>
   have h:=H.out;rw [yn yG]at h;obtain ⟨⟨k,c2⟩,h2,h⟩:=AB.1 h;by_cases t:0<=k
   .rw [yp t]at h;obtain ⟨g,P,h⟩:=AB.1 h;obtain ⟨rfl,rfl⟩:g=L/\c2=c':=by simpa using h
    obtain ⟨j,rfl⟩:=Ac t;rw [AW]at P;have hj:j<n:=by have:=(AH.1 P).1;have:=HN.out;omega
    have HG:=yS P;rw [HN.out]at h2;have H2:=yS h2;clear h h2 P H H1;go_wp2_with fail
    refine (Zdk H2.out HK.out HS1.out).mono ?_;rintro e I ⟨rfl,A,d⟩;obtain ⟨LM,B,C⟩:=(HM.out.later HB1.out).later d;obtain ⟨bm,W,cm,Lm,rfl,E,D,u,v⟩:=(ZeR B).2.2.at_ (AH.1 HG.out).1;rw [(AH.1 HG.out).2]at u;have HRM:=yS u;obtain ⟨Ag,V,Lg,rfl,_,_⟩:=u;have q1:I.cell? ⟨bm,W+j*2,none⟩=some (.string g.rel):=v 0 _ rfl;have q2:I.cell? ⟨bm,W+j*2+1,none⟩=some (.slice Ag g.args.length V):=v 1 _ rfl;have HLZ:Hid (∀a∈Lm,¬Zhz z b [p] a):=fun a m=>C a (D a m);have HS2:=yS A;have HB2:=yS d;have HP2:Hid (Blk I p 35 #[.string f.rel,.slice Af f.args.length O]):=(d.block p HP1.out.lt (fun e=>HPB.out (A9 e))).trans HP1.out;have p0:I.cell? ⟨p,0,none⟩=some (.string f.rel):=HP2.out.at (i:=0) rfl;have p1:I.cell? ⟨p,1,none⟩=some (.slice Af f.args.length O):=HP2.out.at (i:=1) rfl;have p2:I.frozen? ⟨p,0,none⟩=false:=HP2.out.frozen 0;have p3:I.frozen? ⟨p,1,none⟩=false:=HP2.out.frozen 1
    clear A d B C E D v HG H2;go_wp2;have U:∀y,y<I.heap.size->y∉[p]->((I.setCell ⟨p,0,none⟩ (.string g.rel)).setCell ⟨p,1,none⟩ (.slice Ag g.args.length V)).heap[y]?=I.heap[y]?:=fun y _ J=>by
     have J:p≠y:=fun e=>J (by simp [e]);rw [Below.heap_setCell _ _ _ _ (fun e=>J e.symm),Below.heap_setCell _ _ _ _ (fun e=>J e.symm)]
    have F:=HP2.out.lt;refine ⟨HS2.out.turn HK.out rfl rfl rfl (by simp [World.setCell]) U (fun y m=>.inl m) (fun y m=>?_),⟨Ag,V,(HP2.out.set_ 0 _).set_ 1 _,Lnt.turn ⟨_,HRM.out,HLZ.out⟩ U (fun y m=>.inl m)⟩,fun y N hb hp=>?_,AD HB1.out.size HB2.out.size⟩
    .simp at m;subst m;simpa [World.setCell]using F
    .have h1:=HB1.out.size;exact (U y (AE N (AD h1 HB2.out.size)) (by simp [hp])).trans ((HB2.out.block y (AE N h1) (fun e=>hb (A9 e).symm)).trans (HB1.out.block y N (fun e=>hb (A9 e).symm)))
   .rw [yn t]at h;cases h
 .rw [yn T]at h;obtain ⟨rfl,rfl⟩:f=L/\c=c':=by simpa using h
  have G:M.length=0:=by omega
  rw [G];go_wp2;exact ⟨HS.out,_,_,HB.out,HF.out⟩
structure StS (w:World) (B:Nat) (v:Value) (S:List Zz) (own:List Nat):Prop where
 ex:∃xs L,own=v.ownBlock.toList++L/\w.ownsV B 38 4 v S.length xs/\ZaL.reps w xs S L/\Own w B own
section
variable {w0 w w':World} {z:Nat->Prop} {b B:Nat} {own:List Nat} {c:Zi} {v:Value} {S:List Zz}
theorem StS.keep(h:StS w B v S own)(A:∀y∈own,w'.heap[y]?=w.heap[y]?):StS w' B v S own:=by
 obtain ⟨xs,L,C,F,E,D⟩:=h.ex;exact ⟨xs,L,C,YG F (fun y m=>A y (by rw [C];exact AM _ m)),Xd E (fun y m=>A y (by rw [C];exact AK _ m)),D.keep A⟩
theorem StS.call(h:StS w B v S own)(K:LdK w0 z b)(C:w0.heap.size<=B)(hb:Zgo (some b) w w'):StS w' B v S own:=by
 obtain ⟨xs,L,F,E,D,A⟩:=h.ex;refine h.keep fun y m=>hb.block y (A.lt y m) fun e=>?_;have:=A.ge y m;have:=K.hb;have:=A9 e;omega
theorem StS.lent(h:StS w B v S own)(K:LdK w0 z b)(O:w0.heap.size<=B):∃A cap,v=.slice A S.length cap/\Lnt (ZQ Zez) z b [] [.slice A S.length cap] S w:=by
 obtain ⟨xs,L,M,J,I,H⟩:=h.ex;obtain ⟨L',s,r⟩:=ZcV I;obtain ⟨A,cap,L0,rfl,F,E,D,C⟩:=Sl.row J;refine ⟨A,cap,rfl,L0++L',⟨A,cap,rfl,F,E,xs,L0,L',rfl,D,r⟩,fun a G hz=>?_⟩;have N:B<=a:=H.ge a (by rw [M];exact (AA.1 G).elim (fun m=>AM _ (C.subset m)) (fun m=>AK _ (s.subset m)));rcases hz with (hz|hz)|hz
 .have:=(K.hz a hz).1;omega
 .simp at hz
 .have:=K.hb;have:=A9 hz;omega
end
theorem Zng{w:World}{B m n cap q o i:Nat}{E:TypeId}{xs:List Value}(h:w.ownsV B E m (.slice (some ⟨q,o,none⟩) n cap) n xs)(hi:i<n*m)(u:Value):(w.setCell ⟨q,o+i,none⟩ u).ownsV B E m (.slice (some ⟨q,o,none⟩) n cap) n (xs.set i u):=by
 refine ⟨by rw [AP];exact h.1,?_⟩;rcases h.2 with ⟨K,_⟩|⟨g,o',C,b,A,I,H,a,F,hs,D⟩
 .simp at K
 .simp only[Value.slice.injEq,Aw,Addr.mk.injEq,and_true,true_and]at A;obtain ⟨⟨rfl,rfl⟩,rfl⟩:=A;have J:Blk w q E b:=H;have G:n*m<=cap*m:=B5 m a;refine .inr ⟨q,o,cap,_,rfl,I,J.set_ (o+i) u,a,F,by simpa using hs,?_⟩;rw [Array.toList_setIfInBounds,List.drop_set,yn yE,Nat.add_sub_cancel_left,List.take_set,D]
theorem ZzP{A B:List Value}{F E D C v:Value}:(A++([F,E,D,C]++B)).set A.length v=A++([v,E,D,C]++B):=by simp
theorem ZBq{A B:List Value}{E F D C v:Value}:(A++([E,F,D,C]++B)).set (A.length+1) v=A++([E,v,D,C]++B):=by simp
theorem Zz5{A B:List Value}{E D F C v:Value}:(A++([E,D,F,C]++B)).set (A.length+2) v=A++([E,D,v,C]++B):=by simp
theorem ZzW{A B:List Value}{E D C F v:Value}:(A++([E,D,C,F]++B)).set (A.length+3) v=A++([E,D,C,v]++B):=by simp
theorem Zx2{w w':World}{B q i:Nat}{L:List Nat}(h:Own w B (q::L))(e:w'.heap[q]?=w.heap[q]?):w'.frozen? ⟨q,i,none⟩=false:=by
 obtain ⟨C,t,A⟩:=h.plain q yG;exact Blk.frozen (e.trans A) i
theorem ZrR{A:World}{z:Nat->Prop}{b B a:Nat}(K:LdK A z b)(C:A.heap.size<=B)(ha:B<=a):¬Zhz z b [] a:=fun hz=>by
 rcases hz with (hz|hz)|hz
 .have:=(K.hz a hz).1;omega
 .simp at hz
 .have:=K.hb;have:=A9 hz;omega
theorem Zk3{w:World}{B m n cap q o:Nat}{E:TypeId}{xs:List Value}(h:w.ownsV B E m (.slice (some ⟨q,o,none⟩) n cap) n xs)(i:Nat):w.frozen? ⟨q,i,none⟩=false:=by
 rcases h.2 with ⟨F,_⟩|⟨g,o',C,G,A,H,D,_⟩
 .simp at F
 .simp only[Value.slice.injEq,Aw,Addr.mk.injEq]at A;rw [A.1.1];exact Blk.frozen D i
section
variable {w0 w wq:World} {z:Nat->Prop} {b B n cap j q o:Nat} {own:List Nat} {S:List Zz} {A:Option Addr} {st st':Zz}
theorem StS.split(h:StS w B (.slice A n cap) S own)(N:S.length=n)(P:S[j]?=some st):∃q o C ck D L1 Lk L2,A=some ⟨q,o,none⟩/\w.ownsV B 38 4 (.slice (some ⟨q,o,none⟩) n cap) n (C++(ck++D))/\C.length=j*4/\ZaL.reps w C (S.take j) L1/\ZaL.rep w ck st Lk/\ZaL.reps w D (S.drop (j+1)) L2/\Own w B (q::(L1++(Lk++L2)))/\∀y∈q::(L1++(Lk++L2)),y∈own:=by
 obtain ⟨xs,L,T,E,R,G⟩:=h.ex;rw [N]at E;obtain ⟨O,rfl⟩:=AH.1 P;obtain ⟨C,ck,D,L1,Lk,L2,rfl,M,rfl,K,J,I⟩:=Zxy R O;rcases id E.2 with ⟨W,V⟩|⟨g,o,H,U,F,_⟩
 .omega
 .simp only[Value.slice.injEq,true_and]at F;obtain ⟨rfl,rfl⟩:=F;have e:own=g::(L1++(Lk++L2)):=by rw [T];rfl
  rw [e]at G;exact ⟨g,o,C,ck,D,L1,Lk,L2,rfl,E,M,K,J,I,G,fun y m=>by rw [e];exact m⟩
theorem StS.tail(h:StS w B (.slice A n cap) S own)(C:S.length=n)(O:n≠0):∃own',StS w B (.slice (if cap=1 then A else A.map (·.add (1*4))) (n - 1) (cap - 1)) S.tail own':=by
 obtain ⟨xs,L,M,E,K,J⟩:=h.ex;rw [C]at E;cases S with
 |nil=>simp at C;omega
 |cons x r=>
  obtain ⟨F,c2,M1,M2,rfl,rfl,I,H⟩:=K;obtain ⟨D,G⟩:=ZoS E (l:=1) yE;have N:F.length=4:=ZaL.len I;have e:(F++c2).drop (1*4)=c2:=by
   rw [List.drop_append_of_le_length yE,As yE,AJ]
  rw [e]at D;have a:r.length=n - 1:=by simp at C;omega
  refine ⟨_,_,M2,rfl,by rw [List.tail_cons,a];exact D,H,J.sub ?_⟩;rw [G,M];exact AU (Aa _) (Ap _ _)
theorem ZlF{C ck A:List Value}{L1 Lk L2:List Nat}(c:wq.ownsV B 38 4 (.slice (some ⟨q,o,none⟩) n cap) n (C++(ck++A)))(W:ZaL.reps wq C (S.take j) L1)(V:Zez.rep wq ck st' Lk)(U:ZaL.reps wq A (S.drop (j+1)) L2)(T:j<S.length)(D:S.length=n)(K:LdK w0 z b)(hB:w0.heap.size<=B)(F:∀a∈L1++L2,B<=a)(R:∀a∈Lk,¬Zhz z b [] a):Lnt (ZQ Zez) z b [] [.slice (some ⟨q,o,none⟩) n cap] (S.set j st') wq:=by
 obtain ⟨M1,H,J⟩:=ZcV W;obtain ⟨M2,G,I⟩:=ZcV U;have d:∀a,B<=a->¬Zhz z b [] a:=fun a ha hz=>by
  rcases hz with (hz|hz)|hz
  .have:=(K.hz a hz).1;omega
  .simp at hz
  .have:=K.hb;have:=A9 hz;omega
 have f:Zez.reps wq (C++(ck++A)) (S.set j st') (M1++(Lk++M2)):=by
  rw [List.set_eq_take_append_cons_drop,yp T];exact ZfG J ⟨ck,A,Lk,M2,rfl,rfl,V,I⟩
 obtain ⟨A',i,L0,e,O,N,M,L⟩:=Sl.row c;simp only[Value.slice.injEq,true_and]at e;obtain ⟨rfl,rfl⟩:=e;refine ⟨L0++(M1++(Lk++M2)),⟨_,_,by rw [AP,D],by rw [AP,D];exact O,N,_,L0,_,rfl,by rw [AP,D];exact M,f⟩,fun a P=>?_⟩;rcases AA.1 P with m|m
 .have:a∈[q]:=L.subset m;simp at this;subst this;rcases c.2 with ⟨h0,_⟩|⟨g,o',i,aa,E,hb,_⟩
  .simp at h0
  .simp only[Value.slice.injEq,Aw,Addr.mk.injEq]at E;exact d _ (by rw [E.1.1];exact hb)
 .rcases AA.1 m with m|m
  .exact d a (F a (AM _ (H.subset m)))
  .rcases AA.1 m with m|m
   .exact R a m
   .exact d a (F a (AK _ (G.subset m)))
end
theorem ZqS(w:World):∀l:List BYT,(∀s∈l,s.size<=9223372036854775807)->ZsX.reps w (l.map Value.string) l []
 | [],_=>⟨rfl,rfl⟩
 |s::r,h=>⟨[.string s],r.map Value.string,[],[],rfl,rfl,⟨rfl,rfl,h s yG⟩,ZqS w r fun x m=>h x (by simp [m])⟩
theorem ZzM{α:Type}{cd:Yk α}(E:cd.size=1){w:World}{t:TypeId}{l:List α}{vs:List Value}(C:cd.reps (w.alloc (.cells vs.toArray t)) vs l [])(A:vs.length=l.length)(F:0<l.length)(D:l.length<=maxLen):(ZQ cd).rep (w.alloc (.cells vs.toArray t)) [.slice (some ⟨w.heap.size,0,none⟩) l.length l.length] l [w.heap.size]:=by
 refine ⟨_,_,rfl,AL _,D,vs,[w.heap.size],[],yG,⟨by rw [E,A,Nat.mul_one],.inr ⟨F,_,_,rfl,rfl,fun j u B=>?_⟩⟩,C⟩;rw [Nat.zero_add];exact (Blk.new w t vs.toArray).at (by simpa using B)
section
variable {w0 w w':World} {z:Nat->Prop} {b:Nat} {own:List Nat} {c c':Zi}
theorem Xo.alloc(K:LdK w0 z b)(S:Xo w0 z b own c w)(o:Obj):Xo w0 z b own c (w.alloc o):=S.turn K rfl rfl rfl yG (fun y A _=>heap_alloc_old w o A) (fun y m=>.inl m) (fun y m=>AE (S.own y m).2 yG)
theorem Xo.new_far(K:LdK w0 z b)(S:Xo w0 z b own c w):¬Zhz z b own w.heap.size:=fun hz=>by
 have h2:=S.bel.size;rcases hz with (hz|hz)|hz
 .have:=(K.hz _ hz).1;omega
 .have:=(S.own _ hz).2;omega
 .have:=A9 hz;have:=K.hb;omega
theorem ZoO(w:World)(o:Obj):Zgo (some b) w (w.alloc o):=⟨rfl,rfl,rfl,yG,fun y A _=>heap_alloc_old w o A⟩
theorem ZtV{L:List BYT}{g:BYT}{v:Value}{M:List Nat}(h:QD c L=some (g,c'))(K:LdK w0 z b)(S:Xo w0 z b own c w)(ha:(ZQ ZsX).rep w [v] L M)(E:∀a∈M,¬Zhz z b own a):
  Calls prog 41 #[.pointer (some ⟨b,0,none⟩),v] w fun e w'=>e=.returned (.string g)/\g.size<=9223372036854775807/\Xo w0 z b own c' w'/\Zgo (some b) w w':=by
 refine (Xo.call (ZaU h) K S (vs:=[v]) ⟨.inr ⟨rfl,_,M,rfl,(encStr.sl 9).1 ha,E⟩,trivial⟩).mono ?_;rintro e w' ⟨v,m,rfl,B,_,D,C⟩;refine ⟨by rw [ZCu B],?_,D,C⟩;obtain ⟨F,A,_⟩:=Zhd B;rcases A with ⟨A,_⟩|⟨_,ct,A,G⟩
 .simp at A
 .obtain rfl:_=ct:=by simpa using A
  exact G.1.2.2
theorem Ztm{L:List Int}{g:Int}{v:Value}{M:List Nat}(h:QE c L=some (g,c'))(K:LdK w0 z b)(S:Xo w0 z b own c w)(ha:(ZQ Zj7).rep w [v] L M)(D:∀a∈M,¬Zhz z b own a):
  Calls prog 43 #[.pointer (some ⟨b,0,none⟩),v] w fun e w'=>e=.returned (.int .i64 g)/\Xo w0 z b own c' w'/\Zgo (some b) w w':=by
 refine (Xo.call (Q2 h) K S (vs:=[v]) ⟨.inr ⟨rfl,_,M,rfl,(ZfO.sl 3).1 ha,D⟩,trivial⟩).mono ?_;rintro e w' ⟨v,m,rfl,A,_,C,B⟩;exact ⟨by rw [Zsg A],C,B⟩
end
structure StC (w:World) (B:Nat) (v:Value) (S:List Zz) (own:List Nat):Prop where
 ex:∃xs L,own=v.ownBlock.toList++L/\w.ownsV B 38 4 v S.length xs/\Zez.reps w xs S L/\Own w B own
theorem ZBX{w:World}{m n k:Nat}{A:Option Addr}{xs:List Value}{L:List Nat}(h:Sl w m A n xs L)(E:k<=n):∃L',Sl w m A k (xs.take (k*m)) L'/\∀y∈L',y∈L:=by
 have D:(xs.take (k*m)).length=k*m:=by
  rw [Ax,h.1];have:=B5 m E;omega
 rcases B9 k with B|B
 .exact ⟨[],⟨D,.inl ⟨B,rfl⟩⟩,yG⟩
 .rcases h.2 with ⟨I,_⟩|⟨_,g,o,H,G,F⟩
  .omega
  .refine ⟨L,⟨D,.inr ⟨B,g,o,H,G,fun j u C=>F j u ?_⟩⟩,fun y m=>m⟩;have hj:=(AH.1 C).1
   rwa [List.getElem?_take_of_lt yE]at C
theorem Zrf{α:Type}{cd:Yk α}{w:World}:∀{ds:List α}{xs:List Value}{L:List Nat}(k:Nat),cd.reps w xs ds L->∃L',cd.reps w (xs.take (k*cd.size)) (ds.take k) L'/\∀y∈L',y∈L
 |_,_,_,0,_=>⟨[],by simp only[Nat.zero_mul,List.take_zero];exact ⟨rfl,rfl⟩,yG⟩
 | [],_,_,k+1,⟨h1,h2⟩=>⟨[],by rw [h1];simp only[List.take_nil];exact ⟨rfl,rfl⟩,yG⟩
 |d::ds,_,_,k+1,⟨c1,c2,L1,L2,rfl,rfl,h1,h2⟩=>by
  obtain ⟨L',B,A⟩:=Zrf k h2;have hc:=cd.len h1;refine ⟨L1++L',⟨c1,c2.take (k*cd.size),L1,L',?_,rfl,h1,B⟩,fun y m=>?_⟩
  .rw [Nat.succ_mul,Nat.add_comm,List.take_append,List.take_of_length_le yE];congr 2
   omega
  .rcases AA.1 m with m|m
   .exact AM _ m
   .exact AK _ (A y m)
theorem Zvl{α:Type}{cd:Yk α}{w:World}{A:Option Addr}{n cap k:Nat}{ds:List α}{L:List Nat}(h:(ZQ cd).rep w [.slice A n cap] ds L)(F:k<=ds.length):∃L',(ZQ cd).rep w [.slice A k cap] (ds.take k) L'/\∀y∈L',y∈L:=by
 obtain ⟨J,I,xs,L0,L1,rfl,H,G⟩:=ZeR h;obtain ⟨M0,E,D⟩:=ZBX H F;obtain ⟨M1,C,B⟩:=Zrf k G;have a:(ds.take k).length=k:=by rw [Ax];omega
 exact ⟨M0++M1,⟨A,cap,by rw [a],by rw [a];omega,I,_,M0,M1,rfl,by rw [a];exact E,C⟩,fun y m=>by
  rcases AA.1 m with m|m
  .exact AM _ (D y m)
  .exact AK _ (B y m)⟩
section
variable {w0 w w2 w3:World} {z:Nat->Prop} {b B:Nat} {own:List Nat} {S:List Zz} {v v':Value}
theorem StS.c(h:StS w B v S own):∃own',StC w B v S own'/\∀y∈own',y∈own:=by
 obtain ⟨xs,L,E,D,C,A⟩:=h.ex;obtain ⟨L',s,r⟩:=ZcV C;have hs:(v.ownBlock.toList++L').Sublist own:=by rw [E];exact AU (Aa _) s
 exact ⟨_,⟨xs,L',rfl,D,r,A.sub hs⟩,fun y m=>hs.subset m⟩
theorem StC.rep(h:StC w B v S own):∃A cap L,v=.slice A S.length cap/\(ZQ Zez).rep w [.slice A S.length cap] S L/\∀y∈L,y∈own/\B<=y:=by
 obtain ⟨xs,L,J,I,H,G⟩:=h.ex;obtain ⟨A,cap,L0,rfl,F,E,D,C⟩:=Sl.row I;refine ⟨A,cap,L0++L,rfl,⟨A,cap,rfl,F,E,xs,L0,L,rfl,D,H⟩,fun y m=>?_⟩;have:y∈own:=by rw [J];exact (AA.1 m).elim (fun m=>AM _ (C.subset m)) (fun m=>AK _ m)
 exact ⟨this,G.ge y this⟩
theorem StC.call(h:StC w B v S own)(K:LdK w0 z b)(G:w0.heap.size<=B)(hb:Zgo (some b) w w2):StC w2 B v S own:=by
 obtain ⟨xs,L,D,F,E,C⟩:=h.ex;have A:∀y∈own,w2.heap[y]?=w.heap[y]?:=fun y m=>hb.block y (C.lt y m) fun e=>by
  have:=C.ge y m;have:=K.hb;have:=A9 e;omega
 exact ⟨xs,L,D,YG F (fun y m=>A y (by rw [D];exact AM _ m)),Xd E (fun y m=>A y (by rw [D];exact AK _ m)),C.keep A⟩
theorem StC.add{xs b:List Value}{L l:List Nat}{x:Zz}(M:Zez.reps w2 xs S L)(D:Own w2 B (v.ownBlock.toList++L))(i:Zez.rep w2 b x l)(A:Own w2 w.heap.size l)(N:B<=w.heap.size)(E:∀y∈v.ownBlock.toList++L,y<w.heap.size)(K:w.heap.size<=w2.heap.size)(f:w3.ownsV B 38 4 v' (S.length+1) (xs++b))(I:w2.grownBy w3 v.ownBlock)(j:∀g,v'.ownBlock=some g->v.ownBlock=some g\/w2.heap.size<=g):
  StC w3 B v' (S++[x]) (v'.ownBlock.toList++(L++l)):=by
 obtain ⟨P,J,H⟩:=AQ.1 D.nodup;have d:∀g,v.ownBlock=some g->g∈v.ownBlock.toList:=fun g h=>by simp [h]
 have G:∀y∈L++l,w3.heap[y]?=w2.heap[y]?:=fun y m=>by
  rcases AA.1 m with m|m
  .exact I.block y (D.lt y (AK _ m)) (fun e=>H y (d y e.symm) y m rfl)
  .refine I.block y (A.lt y m) (fun e=>?_);have h1:=E y (AM _ (d y e.symm));have h2:=A.ge y m;omega
 have ho:=Znl f;have k:∀y∈L++l,B<=y:=fun y m=>by
  rcases AA.1 m with m|m
  .exact D.ge y (AK _ m)
  .exact AD N (A.ge y m)
 refine ⟨xs++b,L++l,rfl,by rw [AY];exact f,ZqR (Xd M (fun y m=>G y (AM _ m))) (Zez.keep i (fun y m=>G y (AK _ m))),⟨AQ.2 ⟨ho.nodup,AQ.2 ⟨J,A.nodup,fun a F c C e=>?_⟩,fun a F c C e=>?_⟩,fun y m=>?_,fun y m=>?_⟩⟩
 .have h1:=E a (AK _ F);have h2:=A.ge c C;omega
 .subst e;have O:v'.ownBlock=some a:=by simpa using F
  rcases j a O with h|h
  .rcases AA.1 C with m|m
   .exact H a (d a h) a m rfl
   .have h1:=E a (AM _ (d a h));have h2:=A.ge a m;omega
  .rcases AA.1 C with m|m
   .have h1:=E a (AK _ m);omega
   .have h1:=A.lt a m;omega
 .rcases AA.1 m with m|m
  .exact ho.ge y m
  .exact k y m
 .rcases AA.1 m with m|m
  .exact ho.plain y m
  .rw [G y m];rcases AA.1 m with m|m
   .exact D.plain y (AK _ m)
   .exact A.plain y m
end
noncomputable def Znf(S:List Zz)(c:Zi):Option (List Zz×Zi):=
 if S.length=0 then some ([],c) else (ZL c (S.length:Int)).bind fun k=>if 0<=k.1/\S.length<=1024 then (S[k.1.toNat]?).bind fun st=>(ZL k.2 10).bind fun d=>ZtQ S k.1.toNat st d.1 d.2 else none
def LdR(f:World)(z:Nat->Prop)(b:Nat)(c':Zi)(R:List Zf)(l:List Za)(T:List Zz):Ending->World->Prop:=fun e w'=>∃A1 a A2 c A3 d,e=.returned (.tuple #[.slice A1 R.length a,.slice A2 l.length c,.slice A3 T.length d])/\Lnt (ZQ Zby) z b [] [.slice A1 R.length a] R w'/\Lnt (ZQ Yf) z b [] [.slice A2 l.length c] l w'/\Lnt (ZQ Zez) z b [] [.slice A3 T.length d] T w'/\Xo f z b [] c' w'
theorem Xo.less{A w:World}{z:Nat->Prop}{b:Nat}{a:List Nat}{c:Zi}(K:LdK A z b)(h:Xo A z b a c w):Xo A z b [] c w:=h.turn K rfl rfl rfl (AL _) (fun _ _ _=>rfl) (fun y m=>by simp at m) (fun y m=>by simp at m)
theorem Lnt.less{w:World}{z:Nat->Prop}{b:Nat}{a:List Nat}{α:Type}{cd:Yk α}{cs:List Value}{x:α}(H:Lnt cd z b a cs x w):Lnt cd z b [] cs x w:=H.turn (fun _ _ _=>rfl) (fun y m=>by simp at m)
set_option maxRecDepth 1000000 in
set_option maxHeartbeats 8000000 in
theorem ZC3{cd:Code}(hcd:f19.body=some cd){w0 w:World}{z:Nat->Prop}{b p:Nat}{c c' : Zi}{R:List Zf}{l:List Za}{S T:List Zz}{f:Za}{fv:Nat->Value}(hP:ZdC R l f=some S)(hT:Znf S c=some (T,c'))(K:LdK w0 z b)(hS:Xo w0 z b [p] c w){AR Al:Option Addr}{cR cl:Nat}(hR:Lnt (ZQ Zby) z b [p] [.slice AR R.length cR] R w)(hl:Lnt (ZQ Yf) z b [p] [.slice Al l.length cl] l w){Af:Option Addr}{cf:Nat}(hB:Blk w p 35 #[.string f.rel,.slice Af f.args.length cf])(hf:Lnt Yf z b [p] [.string f.rel,.slice Af f.args.length cf] f w)(h0:fv 0=.pointer (some ⟨b,0,none⟩))(h5:fv 5=.slice AR R.length cR)(h6:fv 6=.slice Al l.length cl)(h7:fv 7=.pointer (some ⟨p,0,none⟩)) :
    (ZzL 4 cd).wp prog (bodyPost prog f19 (LdR w0 z b c' R l T)) ⟨((AS 122).map fv).toArray,[]⟩ w:=by
  injection hcd with hcd
  subst hcd
  simp only[ZzL,AS,List.range.loop,A0,h0,h5,h6,h7]
  have HT:=Lib.hid hT
  have HK:=Lib.hid K
  have HS:=Lib.hid hS
  have HR:=Lib.hid hR
  have HL:=Lib.hid hl
  have a0:w.cell? ⟨p,0,none⟩=some (.string f.rel):=hB.at (i:=0) rfl
  have a1:w.cell? ⟨p,1,none⟩=some (.slice Af f.args.length cf):=hB.at (i:=1) rfl
  obtain ⟨LR,r1,_⟩:=hR
  obtain ⟨Ll,r2,_⟩:=hl
  obtain ⟨Lf,r3,_⟩:=hf
  have HC:=ZnW hP w hS.j AR cR LR r1 Al cl Ll r2 _ Lf r3
  clear hP hT K hS r1 r2 r3 hB h0 h5 h6 h7
  go_wp2_with fail
  refine HC.mono ?_
  rintro e w1 ⟨v,rfl,hA⟩
  clear HC a0 a1
  obtain ⟨⟨xs,L,o1,o2,o3⟩,hb1⟩:=hA
  have hB0:w0.heap.size<=w.heap.size:=HS.out.bel.size
  have HB0:Hid (w0.heap.size<=w.heap.size):=hB0
  obtain ⟨own,hown⟩ : ∃ own,own=v.ownBlock.toList ++ L:=⟨_,rfl⟩
  have hk:∀ y,y < w.heap.size->y ∉ [p]->w1.heap[y]? = w.heap[y]?:=fun y hy _=>hb1.block y hy
  have ho:∀ y∈own,y∈[p] ∨ w.heap.size<=y:=fun y my=>.inr (o3.ge y (by rw [← hown];exact my))
  have HST:Hid (StS w1 w.heap.size v S own):=⟨xs,L,hown,o1,o2,by rw [hown];exact o3⟩
  have HS1:Hid (Xo w0 z b own c w1):=HS.out.turn HK.out hb1.os hb1.tape hb1.output hb1.size hk ho (fun y my=>o3.lt y (by rw [← hown];exact my))
  have HR1:Hid (Lnt (ZQ Zby) z b own [.slice AR R.length cR] R w1):=HR.out.turn hk ho
  have HL1:Hid (Lnt (ZQ Yf) z b own [.slice Al l.length cl] l w1):=HL.out.turn hk ho
  have HOW:Hid (∀ y∈own,w.heap.size<=y):=fun y my=>o3.ge y (by rw [← hown];exact my)
  obtain ⟨A,cap,rfl,_,_⟩:=YH o1
  clear o1 o2 o3 hb1 hk ho hown HR HL HS hB0
  obtain ⟨n,hn⟩ : ∃ n,S.length=n:=⟨_,rfl⟩
  have HN:Hid (S.length=n):=hn
  rw [hn] at HST ⊢
  clear hn
  have ht:=HT.out
  unfold Znf at ht
  rw [HN.out] at ht
  by_cases hn0:n=0
  · rw [yp hn0] at ht
    obtain ⟨rfl,rfl⟩ : []=T/\c=c':=by simpa using ht
    subst hn0
    go_wp2
    go_ret3
    obtain ⟨A',cap',e,hL⟩:=HST.out.lent HK.out HB0.out
    rw [HN.out] at e hL
    simp only[Value.slice.injEq,true_and] at e
    obtain ⟨rfl,rfl⟩:=e
    obtain rfl:=BA HN.out
    exact ⟨_,_,_,_,_,_,rfl,HR1.out.less,HL1.out.less,hL,HS1.out.less HK.out⟩
  · rw [yn hn0] at ht
    obtain ⟨⟨k,c1⟩,h1,ht⟩:=AB.1 ht
    by_cases hkn:0<=k/\n<=1024
    rotate_left
    · rw [yn hkn] at ht;cases ht
    rw [yp hkn] at ht
    obtain ⟨st,hst,ht⟩:=AB.1 ht
    obtain ⟨⟨d,c2⟩,h2,ht⟩:=AB.1 ht
    obtain ⟨⟨j,rfl⟩,hn1024⟩ : (∃ j:Nat,k=j)/\n<=1024:=⟨Ac hkn.1,hkn.2⟩
    dsimp only at hst h2 ht
    rw [AW] at hst ht
    have hj:j < n:=by have:=(AH.1 hst).1;have:=HN.out;omega
    have HSJ:=Lib.hid hst
    have H1:=Lib.hid h1
    have H2:=Lib.hid h2
    have HT2:=Lib.hid ht
    clear ht h1 h2 hst hkn HT
    go_wp2_with fail
    refine (Zdk H1.out HK.out HS1.out).mono ?_
    rintro e w2 ⟨rfl,hS2,hb2⟩
    have HS2:=Lib.hid hS2
    have HST2:=Lib.hid (HST.out.call HK.out HB0.out hb2)
    have HR2:=Lib.hid (HR1.out.later hb2)
    have HL2:=Lib.hid (HL1.out.later hb2)
    clear hS2 hb2 HS1 HST HR1 HL1 H1
    go_wp2_with fail
    refine (Zdk H2.out HK.out HS2.out).mono ?_
    rintro e w3 ⟨rfl,hS3,hb3⟩
    have HS3:=Lib.hid hS3
    have HST3:=Lib.hid (HST2.out.call HK.out HB0.out hb3)
    have HR3:=Lib.hid (HR2.out.later hb3)
    have HL3:=Lib.hid (HL2.out.later hb3)
    clear hS3 hb3 HS2 HST2 HR2 HL2 H2
    have ht:=HT2.out
    unfold ZtQ at ht
    clear HT2
    by_cases hd0:d=0
    · rw [yp hd0] at ht
      have HT:=Lib.hid ht
      subst hd0
      clear ht
      obtain ⟨⟨g,c3⟩,h1,ht⟩:=AB.1 HT.out
      obtain ⟨rfl,rfl⟩ : S.set j { st with fact:=g } = T/\c3=c':=by simpa using ht
      have H1:=Lib.hid h1
      clear ht h1 HT
      go_wp2_with fail
      refine (Zvr H1.out HK.out HS3.out).mono ?_
      rintro e w4 ⟨Ag,cg,rfl,hg,hS4,hb4⟩
      obtain ⟨q,o,x1,ck,x2,L1,Lk,L2,rfl,o1,hx1,r1,r2,r3,oO,oin⟩:=(HST3.out.call HK.out HB0.out hb4).split HN.out HSJ.out
      obtain ⟨A1,k1,M1,v2,rfl,rfl,t0,t1,n1,m1,s1,o2⟩:=r2
      have HG:=Lib.hid hg
      have HS4:=Lib.hid hS4
      have HR4:=Lib.hid (HR3.out.later hb4)
      have HL4:=Lib.hid (HL3.out.later hb4)
      have q0:w4.cell? ⟨q,o+j*4,none⟩=some (.string st.fact.rel):=Zah o1 rfl (j*4) _ (by rw [Aj (by omega)];simp [hx1])
      have q1:w4.cell? ⟨q,o+j*4+1,none⟩=some (.slice A1 st.fact.args.length k1):=Zah o1 rfl (j*4+1) _ (by rw [Aj (by omega)];simp [hx1])
      have z0:w4.frozen? ⟨q,o+j*4,none⟩=false:=Zk3 o1 _
      have z1:w4.frozen? ⟨q,o+j*4+1,none⟩=false:=Zk3 o1 _
      have HO1:=Lib.hid o1
      have HX1:Hid (x1.length=j*4):=hx1
      have HR1:=Lib.hid r1
      have HR2:=Lib.hid r3
      have HOO:=Lib.hid oO
      have HOI:=Lib.hid oin
      have HT1:Hid (st.fact.rel.size<=9223372036854775807/\st.rule.size<=9223372036854775807):=⟨t0,t1⟩
      have HO2:=Lib.hid o2
      clear o1 hx1 r1 r3 oO oin t0 t1 n1 m1 s1 o2 hg hS4 hb4 H1 HS3 HST3 HR3 HL3
      go_wp2
      go_ret3
      have hk:∀ y,y ≠ q->((w4.setCell ⟨q,o+j*4,none⟩ (.string g.rel)).setCell ⟨q,o+j*4+1,none⟩ (.slice Ag g.args.length cg)).heap[y]? = w4.heap[y]?:=fun y hy=>by
        rw [Below.heap_setCell _ _ _ _ hy,Below.heap_setCell _ _ _ _ hy]
      have hqo:q∈own:=HOI.out q (by simp)
      have hk2:∀ y,y < w4.heap.size->y ∉ own->((w4.setCell ⟨q,o+j*4,none⟩ (.string g.rel)).setCell ⟨q,o+j*4+1,none⟩ (.slice Ag g.args.length cg)).heap[y]? = w4.heap[y]?:=fun y _ hn=>hk y (fun e=>hn (by rw [e];exact hqo))
      obtain ⟨hqn,hnd⟩:=Ak.1 HOO.out.nodup
      have hrow:=Zng (Zng HO1.out (i:=j*4) (by omega) (.string g.rel)) (i:=j*4+1) (by omega) (.slice Ag g.args.length cg)
      rw [← HX1.out,ZzP,ZBq,HX1.out] at hrow
      obtain ⟨Lf2,hg1,hg2⟩:=(HG.out.turn hk2 (own':=[]) (fun y m=>by simp at m))
      obtain ⟨A6,c6,L6,e6,rfl,t6,n6,m6,s6⟩:=hg1
      simp only[B4,Value.slice.injEq,and_true,true_and] at e6
      obtain ⟨rfl,rfl⟩:=e6
      have ho2:=YG (w':=((w4.setCell ⟨q,o+j*4,none⟩ (.string g.rel)).setCell ⟨q,o+j*4+1,none⟩ (.slice Ag g.args.length cg))) HO2.out (fun y m=>hk y (fun e=>hqn (by rw [← e];simp [m])))
      obtain ⟨A7,c7,L7,rfl,u1,u2,u3,u4⟩:=Sl.row ho2
      have hput:=ZlF (st':={ fact:=g,rule:=st.rule,uses:=st.uses }) (ck:=[.string g.rel,.slice Ag g.args.length cg,.string st.rule,.slice A7 st.uses.length c7]) (Lk:=Lf2 ++ L7) hrow (Xd HR1.out (fun y m=>hk y (fun e=>hqn (by rw [← e];simp [m])))) ⟨Ag,cg,Lf2,A7,c7,L7,rfl,rfl,t6,HT1.out.2,n6,m6,s6,u1,u2,_,L7,[],by simp,u3,Zb4 _ _⟩ (Xd HR2.out (fun y m=>hk y (fun e=>hqn (by rw [← e];simp [m])))) (by rw [HN.out];exact hj) HN.out HK.out HB0.out (fun a m=>HOO.out.ge a (by rcases AA.1 m with m|m<;>simp [m])) (fun a m=>by
        rcases AA.1 m with m|m
        · exact hg2 a m
        · have h1:=HOO.out.ge a (by have:=u4.subset m;simp [Value.ownBlock] at this ⊢;simp [this])
          rintro ((hz|hz)|hz)
          · have:=(HK.out.hz a hz).1
            have:=HB0.out
            omega
          · simp at hz
          · have:=HK.out.hb
            have:=HB0.out
            have:=A9 hz
            omega)
      exact ⟨_,_,_,_,_,_,by rw [AP,HN.out];rfl,HR4.out.turn hk2 (fun y m=>by simp at m),HL4.out.turn hk2 (fun y m=>by simp at m),by rw [AP,HN.out];exact hput,HS4.out.turn HK.out rfl rfl rfl (by simp [World.setCell]) hk2 (fun y m=>by simp at m) (fun y m=>by simp at m)⟩
    rw [yn hd0] at ht
    by_cases hd1:d=1
    · rw [yp hd1] at ht
      have HT:=Lib.hid ht
      subst hd1
      clear ht
      obtain ⟨⟨g,c3⟩,h1,ht⟩:=AB.1 HT.out
      obtain ⟨rfl,rfl⟩ : S.set j { st with rule:=g } = T/\c3=c':=by simpa using ht
      have H1:=Lib.hid h1
      clear ht h1 HT
      have hlit:=ZzM (cd:=ZsX) rfl (w:=w3) (t:=9) (vs:=[.string ⟨#[]⟩,.string ⟨#[114,49]⟩,.string ⟨#[114,50]⟩,.string ⟨#[120]⟩]) (ZqS _ [⟨#[]⟩,⟨#[114,49]⟩,⟨#[114,50]⟩,⟨#[120]⟩] (by decide)) rfl (by decide) (by unfold maxLen;decide)
      have hC:=ZtV H1.out HK.out (HS3.out.alloc HK.out _) hlit (fun a m=>by simp at m;rw [m];exact HS3.out.new_far HK.out)
      clear hlit
      go_wp2_with fail
      refine hC.mono ?_
      rintro e w4 ⟨rfl,hgs,hS4,hb4⟩
      clear hC
      have hb4:=(ZoO w3 _).trans hb4
      have HGS:Hid (g.size<=9223372036854775807):=hgs
      obtain ⟨q,o,x1,ck,x2,L1,Lk,L2,rfl,o1,hx1,r1,r2,r3,oO,oin⟩:=(HST3.out.call HK.out HB0.out hb4).split HN.out HSJ.out
      obtain ⟨A1,k1,M1,v2,rfl,rfl,t0,t1,n1,m1,s1,o2⟩:=r2
      have HS4:=Lib.hid hS4
      have HR4:=Lib.hid (HR3.out.later hb4)
      have HL4:=Lib.hid (HL3.out.later hb4)
      have q2:w4.cell? ⟨q,o+j*4+2,none⟩=some (.string st.rule):=Zah o1 rfl (j*4+2) _ (by rw [Aj (by omega)];simp [hx1])
      have z2:w4.frozen? ⟨q,o+j*4+2,none⟩=false:=Zk3 o1 _
      have HO1:=Lib.hid o1
      have HX1:Hid (x1.length=j*4):=hx1
      have HR1:=Lib.hid r1
      have HR2:=Lib.hid r3
      have HOO:=Lib.hid oO
      have HOI:=Lib.hid oin
      have HT1:Hid (st.fact.rel.size<=9223372036854775807/\st.rule.size<=9223372036854775807/\st.fact.args.length<=k1/\k1<=maxLen):=⟨t0,t1,n1,m1⟩
      have HO2:=Lib.hid o2
      have HS1:=Lib.hid s1
      clear o1 hx1 r1 r3 oO oin t0 t1 n1 m1 s1 o2 hS4 hb4 HS3 HST3 HR3 HL3 hgs
      go_wp2
      go_ret3
      have hk:∀ y,y ≠ q->(w4.setCell ⟨q,o+j*4+2,none⟩ (.string g)).heap[y]? = w4.heap[y]?:=fun y hy=>by
        rw [Below.heap_setCell _ _ _ _ hy]
      have hqo:q∈own:=HOI.out q (by simp)
      have hk2:∀ y,y < w4.heap.size->y ∉ own->(w4.setCell ⟨q,o+j*4+2,none⟩ (.string g)).heap[y]? = w4.heap[y]?:=fun y _ hn=>hk y (fun e=>hn (by rw [e];exact hqo))
      obtain ⟨hqn,hnd⟩:=Ak.1 HOO.out.nodup
      have hrow:=Zng HO1.out (i:=j*4+2) (by omega) (.string g)
      rw [← HX1.out,Zz5,HX1.out] at hrow
      have ho2:=YG (w':=w4.setCell ⟨q,o+j*4+2,none⟩ (.string g)) HO2.out (fun y m=>hk y (fun e=>hqn (by rw [← e];simp [m])))
      obtain ⟨A7,c7,L7,rfl,u1,u2,u3,u4⟩:=Sl.row ho2
      have hput:=ZlF (st':={ fact:=st.fact,rule:=g,uses:=st.uses }) (ck:=[.string st.fact.rel,.slice A1 st.fact.args.length k1,.string g,.slice A7 st.uses.length c7]) (Lk:=M1 ++ L7) hrow (Xd HR1.out (fun y m=>hk y (fun e=>hqn (by rw [← e];simp [m])))) ⟨A1,k1,M1,A7,c7,L7,rfl,rfl,HT1.out.1,HGS.out,HT1.out.2.2.1,HT1.out.2.2.2,HS1.out.keep (fun y m=>hk y (fun e=>hqn (by rw [← e];simp [m]))),u1,u2,_,L7,[],by simp,u3,Zb4 _ _⟩ (Xd HR2.out (fun y m=>hk y (fun e=>hqn (by rw [← e];simp [m])))) (by rw [HN.out];exact hj) HN.out HK.out HB0.out (fun a m=>HOO.out.ge a (by rcases AA.1 m with m|m<;>simp [m])) (fun a m=>ZrR HK.out HB0.out (HOO.out.ge a (by
        rcases AA.1 m with m|m
        · simp [m]
        · have:=u4.subset m
          simp [Value.ownBlock] at this ⊢
          simp [this])))
      exact ⟨_,_,_,_,_,_,by rw [AP,HN.out];rfl,HR4.out.turn hk2 (fun y m=>by simp at m),HL4.out.turn hk2 (fun y m=>by simp at m),by rw [AP,HN.out];exact hput,HS4.out.turn HK.out rfl rfl rfl (by simp [World.setCell]) hk2 (fun y m=>by simp at m) (fun y m=>by simp at m)⟩
    rw [yn hd1] at ht
    by_cases hd2:d=2
    · rw [yp hd2] at ht
      have HT:=Lib.hid ht
      subst hd2
      clear ht
      obtain ⟨⟨g,c3⟩,h1,ht⟩:=AB.1 HT.out
      by_cases hg:0<=g/\g<=1048576/\st.uses.length<=1024
      rotate_left
      · rw [yn hg] at ht;cases ht
      rw [yp hg] at ht
      obtain ⟨rfl,rfl⟩ : S.set j { st with uses:=st.uses ++ [g - 1] } = T/\c3=c':=by simpa using ht
      rw [HN.out,show (((n+1:Nat)):Int)=i64.wrap ((n:Int)+1) by rw [Yo (by omega) (by omega)];omega] at h1
      have H1:=Lib.hid h1
      obtain ⟨hg0,hg1,hu⟩:=hg
      clear ht h1 HT
      obtain ⟨q,o,x1,ck,x2,L1,Lk,L2,rfl,o1,hx1,r1,r2,r3,oO,oin⟩:=HST3.out.split HN.out HSJ.out
      obtain ⟨A1,k1,M1,v2,rfl,rfl,t0,t1,n1,m1,s1,o2⟩:=r2
      obtain ⟨Au,cu,rfl,_,_⟩:=YH o2
      have q3:w3.cell? ⟨q,o+j*4+3,none⟩=some (.slice Au st.uses.length cu):=Zah o1 rfl (j*4+3) _ (by rw [Aj (by omega)];simp [hx1])
      have z3:w3.frozen? ⟨q,o+j*4+3,none⟩=false:=Zk3 o1 _
      have HO1:=Lib.hid o1
      have HX1:Hid (x1.length=j*4):=hx1
      have HR1:=Lib.hid r1
      have HR2:=Lib.hid r3
      have HOO:=Lib.hid oO
      have HOI:=Lib.hid oin
      have HT1:Hid (st.fact.rel.size<=9223372036854775807/\st.rule.size<=9223372036854775807/\st.fact.args.length<=k1/\k1<=maxLen):=⟨t0,t1,n1,m1⟩
      have HO2:=Lib.hid o2
      have HS1:=Lib.hid s1
      clear o1 hx1 r1 r3 oO oin t0 t1 n1 m1 s1 o2
      have HQB:Hid (q ≠ b):=fun e=>by
        have h1:=HOO.out.ge q (by simp)
        have h2:=HK.out.hb
        have h3:=HB0.out
        omega
      have HUB:Hid (∀ y∈(Value.slice Au st.uses.length cu).ownBlock.toList,y ≠ b/\y ≠ q/\y < w3.heap.size):=fun y m=>by
        have m2:y∈q :: (L1 ++ ((M1 ++ (Value.slice Au st.uses.length cu).ownBlock.toList) ++ L2)):=by simp only[AZ,AA];exact .inr (.inr (.inl (.inr m)))
        have h1:=HOO.out.ge y m2
        have h2:=HK.out.hb
        have h3:=HB0.out
        refine ⟨fun e=>by omega,fun e=>?_,HOO.out.lt y m2⟩
        have:=(Ak.1 HOO.out.nodup).1
        rw [← e] at this
        exact this (by simp only[AA];exact .inr (.inl (.inr m)))
      have HSD:Hid (Xo w0 z b own c2 w3.drew):=HS3.out.turn HK.out rfl rfl rfl (AL _) (fun _ _ _=>rfl) (fun y m=>.inl m) (fun y m=>(HS3.out.own y m).2)
      obtain ⟨nu,hnu⟩ : ∃ k,st.uses.length=k:=⟨_,rfl⟩
      have HNU:Hid (st.uses.length=nu):=hnu
      rw [hnu] at q3 HO2 HUB HOO HOI hu
      clear hnu
      have q3d:w3.drew.cell? ⟨q,o+j*4+3,none⟩=some (.slice Au nu cu):=q3
      go_wp2_with fail
      go_region_law ((first|(go_simp;go_at_call 38;refine (Zdk H1.out HK.out HSD.out).mono ?_;rintro e w4 ⟨rfl,hS4,hb4⟩;have HS4:=Lib.hid hS4;have HB4:Hid (Zgo (some b) w3 w4):=⟨hb4.os,hb4.tape,hb4.output,hb4.size,hb4.block⟩;have k4:w4.cell? ⟨q,o+j*4+3,none⟩=some (.slice Au nu cu):=(World.cell?_of_block (a:=⟨q,o+j*4+3,none⟩) (HB4.out.block q (HOO.out.lt q (by simp)) (fun e=>HQB.out (A9 e).symm))).trans q3;have k4a:∀ ob,(w4.alloc ob).cell? ⟨q,o+j*4+3,none⟩=some (.slice Au nu cu):=fun ob=>(World.cell?_of_block (a:=⟨q,o+j*4+3,none⟩) (heap_alloc_old w4 ob (AE (HOO.out.lt q (by simp)) HB4.out.size))).trans k4;have O4:Hid (w4.ownsV 0 3 1 (.slice Au nu cu) nu (st.uses.map (Value.int .i64))):=YG HO2.out (fun y m=>HB4.out.block y (HUB.out y m).2.2 (fun e=>(HUB.out y m).1 (A9 e).symm));clear hS4 hb4)|(refine Zrg rfl (.tmp 85) (.tmp 92) 36 rfl 3 (.int .i64 0) 1 8 underlying36 Zpr rfl (by omega) 0 (.slice Au nu cu) nu (st.uses.map (Value.int .i64)) [_] rfl rfl O4.out rfl (by intro u hu;simp only[AZ,Ah,or_false] at hu;subst hu;rfl) (by omega) (by omega) (AX _) ?_;intro v8 w8 hown8 hgrow8 hblk8;obtain ⟨A8,c8,e8,_,_⟩:=YH hown8;subst e8;have O8:=Lib.hid hown8;have G8:=Lib.hid hgrow8;have hq8:w8.heap[q]? = w4.heap[q]?:=hgrow8.block q (AE (HOO.out.lt q (by simp)) HB4.out.size) (fun e=>(HUB.out q (by rw [← e];simp)).2.1 rfl);have k8:w8.cell? ⟨q,o+j*4+3,none⟩=some (.slice Au nu cu):=(World.cell?_of_block (a:=⟨q,o+j*4+3,none⟩) hq8).trans k4;have z8:w8.frozen? ⟨q,o+j*4+3,none⟩=false:=Zx2 HOO.out (hq8.trans (HB4.out.block q (HOO.out.lt q (by simp)) (fun e=>HQB.out (A9 e).symm)));clear hown8 hgrow8)))
      all_goals (
        go_wp2
        go_ret3
        obtain ⟨wq,hwq⟩ : ∃ wq,wq=w8.setCell ⟨q,o+j*4+3,none⟩ (.slice A8 (nu+1) c8):=⟨_,rfl⟩
        rw [← hwq]
        have hk:∀ y,y ≠ q->wq.heap[y]? = w8.heap[y]?:=fun y hy=>by
          rw [hwq,Below.heap_setCell _ _ _ _ hy]
        obtain ⟨hqn,hnd⟩:=Ak.1 HOO.out.nodup
        have hk4:∀ y,y < w4.heap.size->y ≠ q->y ∉ (Value.slice Au nu cu).ownBlock.toList->wq.heap[y]? = w4.heap[y]?:=fun y hy hq hu=>(hk y hq).trans (G8.out.block y hy (fun e=>hu (by rw [← e];simp)))
        have hsub:∀ y∈q :: (L1 ++ ((M1 ++ (Value.slice Au nu cu).ownBlock.toList) ++ L2)),y < w4.heap.size/\w4.heap[y]? = w3.heap[y]?:=fun y m=>by
          have h1:=HOO.out.lt y m
          have h2:=HOO.out.ge y m
          refine ⟨AE h1 HB4.out.size,HB4.out.block y h1 (fun e=>?_)⟩
          have h3:=HK.out.hb
          have h4:=HB0.out
          have:=A9 e
          omega
        have hrow3:=YG (w':=w4) HO1.out (fun y m=>(hsub y (by simp [Value.ownBlock] at m;simp [m])).2)
        have hrow4:=YG (w':=w8) hrow3 (fun y m=>by
          have m:y=q:=by simp [Value.ownBlock] at m;exact m
          rw [m]
          exact G8.out.block q (hsub q (by simp)).1 (fun e=>(HUB.out q (by rw [← e];simp)).2.1 rfl))
        have hrow:=Zng hrow4 (i:=j*4+3) (by omega) (.slice A8 (nu+1) c8)
        rw [← HX1.out,ZzW,HX1.out] at hrow
        rw [show o+(j*4+3)=o+j*4+3 by omega,← hwq] at hrow
        have hqu:q ∉ (Value.slice Au nu cu).ownBlock.toList:=fun m=>(HUB.out q m).2.1 rfl
        have hin:∀ y∈L1 ++ (M1 ++ L2),wq.heap[y]? = w3.heap[y]?:=fun y m=>by
          have m2:y∈L1 ++ ((M1 ++ (Value.slice Au nu cu).ownBlock.toList) ++ L2):=by
            simp only[AA] at m ⊢
            rcases m with m|m|m
            · exact .inl m
            · exact .inr (.inl (.inl m))
            · exact .inr (.inr m)
          have hyq:y ≠ q:=fun e=>hqn (by rw [← e];exact m2)
          refine (hk4 y (hsub y (Ay _ m2)).1 hyq fun hu=>?_).trans (hsub y (Ay _ m2)).2
          obtain ⟨d1,d2,d3⟩:=AQ.1 hnd
          obtain ⟨d4,d5,d6⟩:=AQ.1 d2
          obtain ⟨d7,d8,d9⟩:=AQ.1 d4
          simp only[AA] at m
          rcases m with m|m|m
          · exact d3 y m y (by simp only[AA];exact .inl (.inr hu)) rfl
          · exact d9 y m y hu rfl
          · exact d6 y (by simp only[AA];exact .inr hu) y m rfl
        have ho8:wq.ownsV 0 3 1 (.slice A8 (nu+1) c8) (nu+1) (st.uses.map (Value.int .i64) ++ [_]):=YG (w':=wq) O8.out (fun y m=>hk y (fun e=>by
          rw [e] at m
          have m:(Value.slice A8 (nu+1) c8).ownBlock=some q:=by simpa using m
          rcases hblk8 q m with h|h
          · exact hqu (by rw [h];simp)
          · have:=(hsub q (by simp)).1
            omega))
        have hw:i64.wrap (g - 1)=g - 1:=Yo (by omega) (by omega)
        rw [hw,show st.uses.map (Value.int .i64) ++ [Value.int .i64 (g - 1)]=(st.uses ++ [g - 1]).map (Value.int .i64) by simp,show nu+1=(st.uses ++ [g - 1]).length by rw [AY,HNU.out];rfl] at ho8
        rw [show nu+1=(st.uses ++ [g - 1]).length by rw [AY,HNU.out];rfl] at hrow hblk8
        obtain ⟨A7,c7,L7,e7,u1,u2,u3,u4⟩:=Sl.row ho8
        simp only[Value.slice.injEq,true_and] at e7
        obtain ⟨rfl,rfl⟩:=e7
        have hfar:∀ a∈M1 ++ L7,w.heap.size<=a:=fun a m=>by
          rcases AA.1 m with m|m
          · exact HOO.out.ge a (by simp [m])
          · have m2:(Value.slice A8 (st.uses ++ [g - 1]).length c8).ownBlock=some a:=by simpa using u4.subset m
            rcases hblk8 a m2 with h|h
            · exact HOO.out.ge a (by simp [h])
            · have h1:=HOO.out.ge q (by simp)
              have h2:=(hsub q (by simp)).1
              omega
        have hput:=ZlF (st':={ fact:=st.fact,rule:=st.rule,uses:=st.uses ++ [g - 1] }) (Lk:=M1 ++ L7) hrow (Xd HR1.out (fun y m=>hin y (by simp [m]))) ⟨A1,k1,M1,A8,c8,L7,rfl,rfl,HT1.out.1,HT1.out.2.1,HT1.out.2.2.1,HT1.out.2.2.2,HS1.out.keep (fun y m=>hin y (by simp [m])),u1,u2,_,L7,[],by simp,u3,Zb4 _ _⟩ (Xd HR2.out (fun y m=>hin y (by simp [m]))) (by rw [HN.out];exact hj) HN.out HK.out HB0.out (fun a m=>HOO.out.ge a (by rcases AA.1 m with m|m<;>simp [m])) (fun a m=>ZrR HK.out HB0.out (hfar a m))
        have hk2:∀ y,y < w4.heap.size->y ∉ own->wq.heap[y]? = w4.heap[y]?:=fun y hy hn=>hk4 y hy (fun e=>hn (by rw [e];exact HOI.out q (by simp))) (fun m=>hn (HOI.out y (by simp only[AZ,AA];exact .inr (.inr (.inl (.inr m))))))
        have hos:wq.os=w4.os:=by rw [hwq];exact G8.out.os
        have htp:wq.tape=w4.tape:=by rw [hwq];exact G8.out.tape
        have hou:wq.output=w4.output:=by rw [hwq];exact G8.out.output
        have hsz:w4.heap.size<=wq.heap.size:=by rw [hwq];simpa [World.setCell] using G8.out.size
        exact ⟨_,_,_,_,_,_,by rw [AP,HN.out];rfl,(HR3.out.later HB4.out).turn hk2 (fun y m=>by simp at m),(HL3.out.later HB4.out).turn hk2 (fun y m=>by simp at m),by rw [AP,HN.out];exact hput,HS4.out.turn HK.out hos htp hou hsz hk2 (fun y m=>by simp at m) (fun y m=>by simp at m)⟩)
    rw [yn hd2] at ht
    by_cases hd3:d=3
    · rw [yp hd3] at ht
      have HT:=Lib.hid ht
      subst hd3
      clear ht
      obtain ⟨rfl,rfl⟩ : S.drop 1=T/\c2=c':=by simpa using HT.out
      obtain ⟨own',hT⟩:=HST3.out.tail HN.out hn0
      have hDR:=Lib.hid (hT.lent HK.out HB0.out)
      clear hT
      go_wp2
      all_goals (
        go_ret3
        obtain ⟨A',cap',e,hL⟩:=hDR.out
        by_cases hc:cap=1
        · first
          | (exfalso;omega)
          | (subst hc
             rw [yp rfl] at e
             simp only[Value.slice.injEq] at e
             obtain ⟨rfl,e2,rfl⟩:=e
             exact ⟨_,_,_,_,_,_,by rw [← e2];rfl,HR3.out.less,HL3.out.less,hL,HS3.out.less HK.out⟩)
        · first
          | (exfalso;omega)
          | (rw [yn hc] at e
             simp only[Value.slice.injEq] at e
             obtain ⟨rfl,e2,rfl⟩:=e
             exact ⟨_,_,_,_,_,_,by rw [← e2];rfl,HR3.out.less,HL3.out.less,hL,HS3.out.less HK.out⟩))
    rw [yn hd3] at ht
    by_cases hd4:d=4
    · rw [yp hd4] at ht
      have HT:=Lib.hid ht
      subst hd4
      clear ht
      obtain ⟨y,h1,ht⟩:=AB.1 HT.out
      obtain ⟨y0,hy0,ht⟩:=AB.1 ht
      obtain ⟨⟨g,c3⟩,h2,ht⟩:=AB.1 ht
      by_cases hg:0<=g/\g.toNat<=S.length+60
      rotate_left
      · rw [yn hg] at ht;cases ht
      rw [yp hg] at ht
      obtain ⟨rfl,rfl⟩ : (S ++ AT 60 y0).take g.toNat=T/\c3=c':=by simpa using ht
      obtain ⟨⟨gn,rfl⟩,hg2⟩ : (∃ k:Nat,g=k)/\g.toNat<=S.length+60:=⟨Ac hg.1,hg.2⟩
      rw [HN.out,AW] at hg2
      have H1:=Lib.hid h1
      have H2:=Lib.hid h2
      have HY:=Lib.hid hy0
      clear ht h1 h2 hy0 hg HT
      obtain ⟨own1,hC,hsub⟩:=HST3.out.c
      have HC0:Hid (StC w3 w.heap.size (.slice A n cap) (S ++ AT 0 y0) own1):=by
        show StC _ _ _ _ _
        rw [List.replicate_zero,AC]
        exact hC
      have HS0:Hid (Xo w0 z b own1 c2 w3):=HS3.out.turn HK.out rfl rfl rfl (AL _) (fun _ _ _=>rfl) (fun y m=>.inl (hsub y m)) (fun y m=>(HS3.out.own y (hsub y m)).2)
      have HR0:Hid (Lnt (ZQ Zby) z b own1 [.slice AR R.length cR] R w3):=HR3.out.turn (fun _ _ _=>rfl) (fun y m=>.inl (hsub y m))
      have HL0:Hid (Lnt (ZQ Yf) z b own1 [.slice Al l.length cl] l w3):=HL3.out.turn (fun _ _ _=>rfl) (fun y m=>.inl (hsub y m))
      clear hC hsub HS3 HST3 HR3 HL3 HSJ
      go_wp2_with fail
      go_loopw [10,13] (fun v i wr=>∃ (k:Nat) (ow:List Nat),k<=60/\i=.int .i64 k/\Hid (StC wr w.heap.size v (S ++ AT k y0) ow)/\Hid (Xo w0 z b ow c2 wr)/\Hid (Lnt (ZQ Zby) z b ow [.slice AR R.length cR] R wr)/\Hid (Lnt (ZQ Yf) z b ow [.slice Al l.length cl] l wr)) (fun _ i _=>60 - (intOf i).toNat)
      case atStart=>exact ⟨0,own1,AX _,rfl,HC0,HS0,HR0,HL0⟩
      case round =>
        clear HC0 HS0 HR0 HL0
        obtain ⟨k,ow,hk,rfl,HC,HSr,HRr,HLr⟩:=hrel
        obtain ⟨xs,L,e1,o1,r1,p1⟩:=HC.out.ex
        obtain ⟨m,hm⟩ : ∃ m,(S ++ AT k y0).length=m:=⟨_,rfl⟩
        have HM:Hid ((S ++ AT k y0).length=m):=hm
        have HMN:Hid (m=n+k):=by show _=_;rw [← hm,AY,List.length_replicate,HN.out]
        have hm1:1<=m/\m<=1084:=by have:=HMN.out;omega
        obtain ⟨Ar,cr,ev,hmc,hcm⟩:=YH o1
        rw [hm] at ev o1 hmc
        subst ev
        by_cases hlt:k < 60
        · obtain ⟨A',cap',L',e',hrep,hLB⟩:=HC.out.rep
          rw [hm] at e'
          simp only[Value.slice.injEq,true_and] at e'
          obtain ⟨rfl,rfl⟩:=e'
          obtain ⟨L2,hrep2,_⟩:=Zvl (k:=1) hrep (by omega)
          have ht1:(S ++ AT k y0).take 1=S.take 1:=by
            rw [List.take_append_of_le_length (by have:=HN.out;omega)]
          rw [ht1] at hrep2
          have HCC:Hid (Calls prog 42 #[.slice Ar 1 cr] wr (Zsu Zez 38 wr y)):=Zp.givesS (Zsj H1.out) Zm9 HSr.out.j (vs:=[.slice Ar 1 cr]) (ha:=by exact ⟨Zox Zm9 _ hrep2,trivial⟩)
          have HE1:=Lib.hid e1
          have HO1:=Lib.hid o1
          have HR1:=Lib.hid r1
          have HP1:=Lib.hid p1
          clear e1 o1 r1 p1 hrep hrep2 hLB hm
          go_wp2_with fail
          refine HCC.out.mono ?_
          rintro e w4 ⟨v4,rfl,hA4⟩
          clear HCC
          obtain ⟨⟨xs4,L4,o4,r4,p4⟩,hb4⟩:=hA4
          obtain ⟨A4,c4,rfl,_,_⟩:=YH o4
          obtain ⟨yr,rfl⟩ : ∃ r,y=y0 :: r:=by
            have:=HY.out
            cases y with
            | nil=>simp at this
            | cons a r=>simp at this;exact ⟨r,by rw [this]⟩
          obtain ⟨ck,xr,Lk,Lr,rfl,rfl,hk4,_⟩:=r4
          have HK4:=Lib.hid hk4
          obtain ⟨A5,c5,L5,A6,c6,L6,rfl,_⟩:=hk4
          rcases o4.2 with ⟨h0,h1⟩|⟨q4,f4,cap4,cur4,hv4,_⟩
          · simp at h1
          simp only[Value.slice.injEq,true_and] at hv4
          obtain ⟨rfl,rfl⟩:=hv4
          have x0:w4.cell? ⟨q4,f4,none⟩=some (.string y0.fact.rel):=Zah o4 rfl 0 _ rfl
          have x1:w4.cell? ⟨q4,f4+1,none⟩=some (.slice A5 y0.fact.args.length c5):=Zah o4 rfl 1 _ rfl
          have x2:w4.cell? ⟨q4,f4+2,none⟩=some (.string y0.rule):=Zah o4 rfl 2 _ rfl
          have x3:w4.cell? ⟨q4,f4+3,none⟩=some (.slice A6 y0.uses.length c6):=Zah o4 rfl 3 _ rfl
          have HB4:Hid (Below wr.heap.size wr w4):=hb4
          have HP4:Hid (Own w4 wr.heap.size Lk):=p4.sub (List.Sublist.trans (List.sublist_append_left _ _) (Ap _ _))
          have HWB:Hid (w.heap.size<=wr.heap.size):=by
            rcases HO1.out.2 with ⟨_,h0⟩|⟨q1,f1,cp,cu1,_,h1,h2,_⟩
            · omega
            · exact AD h1 (Nat.le_of_lt (BB.1 h2).1)
          clear o4 p4 hb4
          go_wp2_with (at_builtin;(refine Zut rfl (.tmp 106) (.tmp 112) 26 rfl 38 _ 4 80 underlying26 ZqH rfl (by omega) w.heap.size (.slice Ar m cr) m xs [_,_,_,_] rfl rfl (ZdZ HO1.out HB4.out) rfl (by intro u hu;simp only[AZ,Ah,or_false] at hu;rcases hu with rfl|rfl|rfl|rfl<;>rfl) (by omega) (by omega) (AD HWB.out HB4.out.size) ?_);intro v' w' hown hgrow hblk)
          have hkb:∀ y∈ow,w4.heap[y]? = wr.heap[y]?:=fun y my=>HB4.out.block y (HP1.out.lt y my)
          have hadd:=StC.add (S:=S ++ AT k y0) (v:=.slice Ar m cr) (x:=y0) (Xd HR1.out (fun y my=>hkb y (by rw [HE1.out];exact AK _ my))) (by rw [← HE1.out];exact HP1.out.keep hkb) HK4.out HP4.out HWB.out (fun y my=>HP1.out.lt y (by rw [HE1.out];exact my)) HB4.out.size (by rw [HM.out];exact hown) hgrow hblk
          rw [AI,← List.replicate_succ'] at hadd
          obtain ⟨_,_,_,_,_,hOO⟩:=hadd.ex
          have hk2:∀ y,y < wr.heap.size->y ∉ ow->w'.heap[y]? = wr.heap[y]?:=fun y hy hn=>(hgrow.block y (AE hy HB4.out.size) (fun e=>hn (by rw [HE1.out,← e];simp))).trans (HB4.out.block y hy)
          have ho2:∀ y∈v'.ownBlock.toList ++ (L ++ Lk),y∈ow ∨ wr.heap.size<=y:=fun y my=>by
            rcases AA.1 my with my|my
            · have h0:v'.ownBlock=some y:=by simpa using my
              rcases hblk y h0 with h|h
              · exact .inl (by rw [HE1.out,h];simp)
              · exact .inr (AD HB4.out.size h)
            · rcases AA.1 my with my|my
              · exact .inl (by rw [HE1.out];exact AK _ my)
              · exact .inr (HP4.out.ge y my)
          have HADD:=Lib.hid hadd
          have HS9:Hid (Xo w0 z b (v'.ownBlock.toList ++ (L ++ Lk)) c2 w'):=HSr.out.turn HK.out (hgrow.os.trans HB4.out.os) (hgrow.tape.trans HB4.out.tape) (hgrow.output.trans HB4.out.output) (AD HB4.out.size hgrow.size) hk2 ho2 (fun y my=>hOO.lt y my)
          have HR9:Hid (Lnt (ZQ Zby) z b (v'.ownBlock.toList ++ (L ++ Lk)) [.slice AR R.length cR] R w'):=HRr.out.turn hk2 ho2
          have HL9:Hid (Lnt (ZQ Yf) z b (v'.ownBlock.toList ++ (L ++ Lk)) [.slice Al l.length cl] l w'):=HLr.out.turn hk2 ho2
          clear hkb hadd hOO hk2 ho2 hown hgrow hblk
          go_wp2
          exact ⟨⟨k+1,_,by omega,by simp,HADD,HS9,HR9,HL9⟩,by simp [intOf];omega⟩
        · have h0:k=60:=by omega
          subst h0
          have hlit:=ZzM (cd:=Zj7) rfl (w:=wr) (t:=3) (l:=[59,60,61]) (vs:=[.int .i64 59,.int .i64 60,.int .i64 61]) (Zb4 _ [59,60,61]) rfl (by decide) (by unfold maxLen;decide)
          have hCI:=Ztm H2.out HK.out (HSr.out.alloc HK.out _) hlit (fun a m=>by simp at m;rw [m];exact HSr.out.new_far HK.out)
          have HCI:=Lib.hid hCI
          have HMM:Hid (m=n+60):=HMN.out
          clear hlit hCI e1 o1 r1 p1 hm
          go_wp2_with fail
          refine HCI.out.mono ?_
          rintro e w5 ⟨rfl,hS5,hb5⟩
          clear HCI
          have hb5:=(ZoO wr _).trans hb5
          have HB5:=Lib.hid hb5
          have HS5:=Lib.hid hS5
          have hgm:gn<=m:=by have:=HMM.out;omega
          have hgc:gn<=cr:=by omega
          clear hb5 hS5
          go_wp2
          go_ret3
          obtain ⟨A',cap',L',e',hrep,hLB⟩:=(HC.out.call HK.out HB0.out HB5.out).rep
          rw [HM.out] at e'
          simp only[Value.slice.injEq,true_and] at e'
          obtain ⟨rfl,rfl⟩:=e'
          obtain ⟨L2,hrep2,hL2⟩:=Zvl (k:=gn) hrep (by rw [HM.out];exact hgm)
          have hlen:((S ++ AT 60 y0).take gn).length=gn:=by rw [Ax,HM.out];omega
          rw [AW]
          exact ⟨_,_,_,_,_,_,by rw [hlen];rfl,(HRr.out.later HB5.out).less,(HLr.out.later HB5.out).less,⟨L2,by rw [hlen];exact hrep2,fun a ma=>ZrR HK.out HB0.out (hLB a (hL2 a ma)).2⟩,HS5.out.less HK.out⟩
    rw [yn hd4] at ht
    obtain ⟨rfl,rfl⟩ : S=T/\c2=c':=by simpa using ht
    clear ht
    go_wp2
    go_ret3
    obtain ⟨A',cap',e,hL⟩:=HST3.out.lent HK.out HB0.out
    rw [HN.out] at e hL
    simp only[Value.slice.injEq,true_and] at e
    obtain ⟨rfl,rfl⟩:=e
    exact ⟨_,_,_,_,_,_,by rw [HN.out];rfl,HR3.out.less,HL3.out.less,by rw [HN.out];exact hL,HS3.out.less HK.out⟩
theorem Zsh{P:Program}{x y:Code}{Q:Exit->Act->World->Prop}{Q1:Act->World->Prop}{a:Act}{w:World}(h:x.wp P (fun e a w=>e=.normal/\Q1 a w) a w)(k:∀a w,Q1 a w->y.wp P Q a w):(Code.seq x y).wp P Q a w:=wp_seq (wp_mono h fun e a w ⟨A,B⟩=>by subst A;exact k a w B)
def LdG(a:World)(z:Nat->Prop)(b:Nat)(c:Zi)(R:List Zf)(l:List Za)(f:Za)(d e g:Value)(w:World):Prop:=∃p AR cR Al cl Af cf,d=.slice AR R.length cR/\e=.slice Al l.length cl/\g=.pointer (some ⟨p,0,none⟩)/\Xo a z b [p] c w/\Lnt (ZQ Zby) z b [p] [.slice AR R.length cR] R w/\Lnt (ZQ Yf) z b [p] [.slice Al l.length cl] l w/\Lnt Yf z b [p] [.string f.rel,.slice Af f.args.length cf] f w/\Blk w p 35 #[.string f.rel,.slice Af f.args.length cf]
section
variable {w0 w w':World} {z:Nat->Prop} {b:Nat} {c:Zi} {R:List Zf} {l:List Za} {f:Za} {v5 v6 v7:Value}
theorem LdG.start{AR Al Af:Option Addr}{E D C:Nat}(K:LdK w0 z b)(S:Xo w0 z b [] c w)(I:Lnt (ZQ Zby) z b [] [.slice AR R.length E] R w)(G:Lnt (ZQ Yf) z b [] [.slice Al l.length D] l w)(H:Lnt Yf z b [] [.string f.rel,.slice Af f.args.length C] f w):
  LdG w0 z b c R l f (.slice AR R.length E) (.slice Al l.length D) (.pointer (some ⟨w.heap.size,0,none⟩)) (w.alloc (.cells #[.string f.rel,.slice Af f.args.length C] 35)):=by
 have B:∀y,y<w.heap.size->y∉([]:List Nat)->(w.alloc (.cells #[.string f.rel,.slice Af f.args.length C] 35)).heap[y]?=w.heap[y]?:=fun y F _=>heap_alloc_old w _ F;have A:∀y∈[w.heap.size],y∈([]:List Nat)\/w.heap.size<=y:=fun y m=>by simp at m;exact .inr yE
 exact ⟨_,_,_,_,_,_,_,rfl,rfl,rfl,S.turn K rfl rfl rfl yG B A (fun y m=>by simp at m;simp [m]),I.turn B A,G.turn B A,H.turn B A,Blk.new _ _ _⟩
theorem LdG.later(H:LdG w0 z b c R l f v5 v6 v7 w)(K:LdK w0 z b)(_:J0 w')(A:Below w.heap.size w w'):LdG w0 z b c R l f v5 v6 v7 w':=by
 obtain ⟨p,AR,P,Al,N,Af,O,M,L,J,C,G,E,F,I⟩:=H;have B:∀y,y<w.heap.size->y∉[p]->w'.heap[y]?=w.heap[y]?:=fun y D _=>A.block y D;exact ⟨p,AR,P,Al,N,Af,O,M,L,J,C.turn K A.os A.tape A.output A.size B (fun y m=>.inl m) (fun y m=>AE (C.own y m).2 A.size),G.turn B (fun y m=>.inl m),E.turn B (fun y m=>.inl m),F.turn B (fun y m=>.inl m),I.later A⟩
end
theorem ZxQ{C:World}{z:Nat->Prop}{b:Nat}{c c':Zi}{R:List Zf}{l:List Za}{T:List Zz}(h:Zee c=some (R,l,T,c'))(K:LdK C z b)(hS:Xo C z b [] c C):
  Calls prog 19 #[.pointer (some ⟨b,0,none⟩)] C (LdR C z b c' R l T):=by
 unfold Zee at h;obtain ⟨⟨R1,F,f,c1⟩,E,h⟩:=AB.1 h;obtain ⟨⟨M,ok⟩,J,h⟩:=AB.1 h;obtain ⟨⟨f2,c2⟩,h3,h⟩:=AB.1 h;obtain ⟨S,h4,h⟩:=AB.1 h;dsimp only at J h3 h4 h;have hT:R1=R/\F=l/\Znf S c2=some (T,c'):=by
  unfold Znf;by_cases h0:S.length=0
  .rw [yp h0]at h ⊢;obtain ⟨rfl,rfl,rfl,rfl⟩:R1=R/\F=l/\[]=T/\c2=c':=by simpa using h
   exact ⟨rfl,rfl,rfl⟩
  .rw [yn h0]at h ⊢;obtain ⟨k,e1,h⟩:=AB.1 h;rw [e1,Ab];by_cases E:0<=k.1/\S.length<=1024
   .rw [yp E]at h ⊢;obtain ⟨st,e2,h⟩:=AB.1 h;obtain ⟨d,e3,h⟩:=AB.1 h;obtain ⟨t,e4,h⟩:=AB.1 h;obtain ⟨rfl,rfl,rfl,rfl⟩:R1=R/\F=l/\t.1=T/\t.2=c':=by simpa using h
    rw [e2,Ab,e3,Ab,e4];exact ⟨rfl,rfl,rfl⟩
   .rw [yn E]at h;cases h
 obtain ⟨rfl,rfl,hT⟩:=hT;have HK:=yS K;have HS:=yS hS;have H1:=yS E;have H2:=yS J;have H3:=yS h3;have H4:=yS h4;have HT:=yS hT;clear E J h3 h4 h hS K hT;go_enter func19,ntmps19;refine Zsh (Q1:=fun a w'=>a.defers=[]/\a.tmps.size=122/\a.tmps.getD 0 undef=.pointer (some ⟨b,0,none⟩)/\w'=C) ?_ ?_
 .go_wp2
 rintro ⟨tm,P⟩ w' ⟨O,D,B,e9⟩;obtain rfl:C=w':=e9.symm;obtain rfl:P=[]:=O;obtain ⟨g,rfl⟩:∃l,tm=Am l:=⟨tm.toList,yG⟩
 obtain ⟨fv,rfl⟩:=Zfl (l:=g) (n:=122) D;have B:fv 0=.pointer (some ⟨b,0,none⟩):=B;clear D;refine Zsh (Q1:=fun a w'=>a.defers=[]/\a.tmps.size=122/\a.tmps.getD 0 undef=.pointer (some ⟨b,0,none⟩)/\LdG C z b c1 R1 F f (a.tmps.getD 5 undef) (a.tmps.getD 6 undef) (a.tmps.getD 7 undef) w') ?_ ?_
 .simp only[AS,List.range.loop,A0,B];go_wp2_with fail
  refine (ZrW H1.out HK.out HS.out).mono ?_;rintro e w1 ⟨AR,cR,Al,cl,Af,cf,rfl,I,G,U,i,u⟩;have HG:=yS (LdG.start HK.out i I G U);clear I G U i u;go_wp2;exact HG.out
 rintro ⟨tm,P⟩ w1 ⟨O,D,B,hG⟩;obtain rfl:P=[]:=O;obtain ⟨g,rfl⟩:∃l,tm=Am l:=⟨tm.toList,yG⟩
 obtain ⟨fv,rfl⟩:=Zfl (l:=g) (n:=122) D;have B:fv 0=.pointer (some ⟨b,0,none⟩):=B;have HG:Hid (LdG C z b c1 R1 F f (fv 5) (fv 6) (fv 7) w1):=hG;clear D hG;refine Zsh (Q1:=fun a w'=>a.defers=[]/\a.tmps.size=122/\a.tmps.getD 0 undef=.pointer (some ⟨b,0,none⟩)/\LdG C z b c1 R1 F f (a.tmps.getD 5 undef) (a.tmps.getD 6 undef) (a.tmps.getD 7 undef) w'/\∃p A8 c8,a.tmps.getD 7 undef=.pointer (some ⟨p,0,none⟩)/\a.tmps.getD 8 undef=.slice A8 M.length c8/\Lnt (ZQ Yf) z b [p] [.slice A8 M.length c8] M w') ?_ ?_
 .obtain ⟨p,AR,cR,Al,cl,Af,cf,W,V,N,i,I,G,U,hB⟩:=HG.out;have HC:=yS (ZpE H2.out HK.out i I G);simp only[AS,List.range.loop,A0,B,W,V,N];clear i I G U hB;go_wp2_with fail
  refine HC.out.mono ?_;rintro e w2 ⟨A8,c8,rfl,hM,m,q⟩;have HM:=yS hM;have HG2:=yS ((HG.out.later HK.out m.j q));clear hM m q HC;rw [W,V,N]at HG2;go_wp2;exact ⟨HG2.out,_,_,⟨rfl,rfl⟩,HM.out⟩
 rintro ⟨tm,P⟩ w2 ⟨O,D,B,hG,p,A8,c8,g7,g8,hM⟩;obtain rfl:P=[]:=O;obtain ⟨g,rfl⟩:∃l,tm=Am l:=⟨tm.toList,yG⟩
 obtain ⟨fv,rfl⟩:=Zfl (l:=g) (n:=122) D;have B:fv 0=.pointer (some ⟨b,0,none⟩):=B;have g7:fv 7=.pointer (some ⟨p,0,none⟩):=g7;have g8:fv 8=.slice A8 M.length c8:=g8;obtain ⟨p',AR,cR,Al,cl,Af,cf,W,V,N,m,I,G,U,hB⟩:=hG;have W:fv 5=.slice AR R1.length cR:=W;have V:fv 6=.slice Al F.length cl:=V;have N:fv 7=.pointer (some ⟨p',0,none⟩):=N;obtain rfl:p=p':=by rw [g7]at N;simpa using N
 refine wp_seq (wp_mono (ZCN rfl H3.out HK.out m hM hB U B g7 g8) ?_);rintro e ⟨tm,P⟩ w3 ⟨rfl,O,D,q0,q5,q6,q7,v,⟨A3,c3,w,y⟩,A,aa⟩;obtain rfl:P=[]:=O;obtain ⟨g,rfl⟩:∃l,tm=Am l:=⟨tm.toList,yG⟩
 obtain ⟨gv,rfl⟩:=Zfl (l:=g) (n:=122) D;have o:∀{α:Type} {cd:Yk α} {cs:List Value} {x:α},Lnt cd z b [p] cs x w2->Lnt cd z b [p] cs x w3:=fun {α cd cs x} H=>by
  obtain ⟨L,E,J⟩:=H;exact ⟨L,cd.keep E (fun a ma=>A a (cd.lt E a ma) (fun e=>J a ma (.inr (by rw [e]))) (fun e=>J a ma (.inl (.inr (by simp [e]))))),J⟩
 exact ZC3 rfl H4.out HT.out HK.out v (o I) (o G) w y q0 (q5.trans W) (q6.trans V) q7
theorem ZsT{α:Type}{cd:Yk α}{f:α->List CT}(F:Enc cd f){w:World}{B t:Nat}{z n:Nat->Prop}{b:Nat}{ds:List α}{A:Option Addr}{k n':Nat}(H:Lnt (ZQ cd) z b [] [.slice A k n'] ds w)(E:∀y,n y->Zhz z b [] y):OP w B n (false,[(true,.sl t cd.size (ds.map f))]) (.slice A k n') []:=by
 obtain ⟨L,I,G⟩:=H;exact .inr ⟨rfl,_,rfl,rfl,L,(F.sl t).1 I,fun y C D=>G y C (E y D)⟩
theorem Zsw{c:Zi}{r:(List Zf)×(List Za)×(List Zz)×Zi}(h:Zee c=some r):Ys prog J0 JF0 19 (.box 77 (ZS c)) [] [(false,[(true,.sl 87 4 (A0 ZF r.1))]),(false,[(true,.sl 35 2 (A0 Zq r.2.1))]),(false,[(true,.sl 38 4 (A0 XP r.2.2.1))])] (.box 77 (ZS r.2.2.2)):=by
 obtain ⟨R,l,T,c'⟩:=r;refine ⟨⟨f19,func19,yO,yO⟩,fun w z q v0 vs hj hq hz hh ha=>?_⟩;cases vs with
 |cons _ _=>exact ha.elim
 |nil=>
  obtain ⟨b,us,L,rfl,rfl,h3,h4,h5⟩:=id hh;have K:LdK w z b:=⟨fun y hy=>⟨(hz y hy).1,fun e=>(hz y hy).2 (by rw [e])⟩,(BB.1 h3).1,hq b rfl,hj⟩
  have d:∀y,Zhz z b [] y↔inQ z (some b) y:=fun y=>by
   unfold Zhz inQ;simp
  have S:Xo w z b [] c w:=⟨⟨b,us,L,rfl,rfl,h3,h4,fun a m hy=>h5 a m ((d a).1 hy)⟩,⟨rfl,rfl,rfl,AL _,fun _ _ _=>rfl⟩,hj,fun y m=>by simp at m⟩
  refine (ZxQ h K S).mono ?_;rintro e w' ⟨A1,c1,A2,c2,A3,c3,rfl,hR,hl,hT,hS⟩;have hn:∀y,inQ z (some b) y->Zhz z b [] y:=fun y hy=>(d y).2 hy;refine ⟨_,inQ z (some b),rfl,⟨[.slice A1 R.length c1,.slice A2 l.length c2,.slice A3 T.length c3],[],⟨_,_,[],[],rfl,rfl,ZsT Zlf hR hn,_,_,[],[],rfl,rfl,ZsT Zau hl hn,_,_,[],[],rfl,rfl,ZsT Zm9 hT hn,rfl,rfl⟩,Own.nil _ _,rfl⟩,fun _ h=>h,?_,hS.bel⟩;obtain ⟨b',f,L',e1,e2,e3,e4,e5⟩:=hS.hand;exact ⟨b',f,L',e1,e2,e3,e4,fun a m hy=>e5 a m (hn a hy)⟩
end
section
theorem ZlD{A:List Int}{r:((List Zf)×(List Za)×(List Zz))}(h:Zbr A=some r):Zp prog J0 6 [(false,[.sl 5 1 (A0 ZbA A)])] [(false,[(true,.sl 87 4 (A0 ZF r.1))]),(false,[(true,.sl 35 2 (A0 Zq r.2.1))]),(false,[(true,.sl 38 4 (A0 XP r.2.2))])]:=by
 refine fnk func6 rfl ?_;unfold Zbr at h;simp only[fnS,f6,Zt,go_sem,seval];obtain ⟨v1,a,h⟩:=Zn h;refine ZH2 (Zwe a)<|yA ?_;obtain ⟨_,b,h⟩:=Zn h;refine ZA (Zsw b) ?_;cases h;exact yD
end
section
open Go.RowKit
def Zyu(ops:Array Oper):Nat->Nat->Nat
 |0,_=>0
 |n+1,j=>match ops[j]? with
  |some o=>(o.after.toList.filter (Region.binds .any)).foldl (fun m e=>Nat.lor m (Nat.lor (Nat.pow 2 e.on) (Zyu ops n e.on))) 0
  |none=>0
theorem Zvx{α:Type}{f:α->Nat}{i:Nat}:∀{l:List α}{m:Nat},(l.foldl (fun m e=>Nat.lor m (f e)) m).testBit i=true->m.testBit i=true\/∃e∈l,(f e).testBit i=true
 | [],_,h=>.inl h
 |x::l,m,h=>by
  rcases Zvx (l:=l) h with h|⟨e,B,C⟩
  .have A:(m ||| f x).testBit i=true:=h;rw [BC,Ad]at A;rcases A with A|A
   .exact .inl A
   .exact .inr ⟨x,yG,A⟩
  .exact .inr ⟨e,by simp [B],C⟩
theorem ZxD{a:Array Oper}{i:Nat}:∀(n j:Nat),(Zyu a n j).testBit i=true->i∈anc a n j
 |0,j,h=>by simp [Zyu]at h
 |n+1,j,h=>by
  unfold Zyu at h;unfold anc;cases ho:a[j]? with
  |none=>rw [ho]at h;simp at h
  |some o=>
   rw [ho]at h;simp only at h ⊢;rcases Zvx h with h|⟨e,B,C⟩
   .simp at h
   .refine List.mem_flatMap.2 ⟨e,B,?_⟩;have A:(2 ^ e.on ||| Zyu a n e.on).testBit i=true:=C;rw [BC,Ad]at A;rcases A with A|A
    .rw [Nat.testBit_two_pow,decide_eq_true_iff]at A;subst A;simp
    .exact Ay _ (ZxD n e.on A)
def ZvE(tt:Nat->Option TI)(hds:FuncId->Nat)(ops:Array Oper)(i j:Nat):Bool:=!Nat.beq i j&&match ops[i]?,ops[j]? with
 |some oi,some oj=>(oi.after.toList.all fun e=>!Region.binds .any e||!Nat.beq e.on j)&&((oi.apart ops oj&&Zv1 tt hds false oi.op oj.op)||Nat.testBit (Zyu ops ops.size j) i)
 |_,_=>true
def Zne(tt:Nat->Option TI)(hds:FuncId->Nat)(ops:Array Oper):List Nat->Bool
 | []=>true
 |i::r=>r.all (ZvE tt hds ops i)&&Zne tt hds ops r
def Zr2(tt:Nat->Option TI)(hds:FuncId->Nat)(ops:Array Oper):Bool:=Zne tt hds ops (AS ops.size)&&ZCg ops
section
variable {tt:Nat->Option TI} {hds:FuncId->Nat} {ops:Array Oper}
theorem ZyU{i j:Nat}(h:ZvE tt hds ops i j=true):Zmw tt hds false ops i j=true:=by
 unfold ZvE at h;unfold Zmw;rw [AN]at h ⊢;refine ⟨h.1,?_⟩;have h2:=h.2;cases hi:ops[i]? with
 |none=>rfl
 |some oi=>
  cases hj:ops[j]? with
  |none=>rfl
  |some oj=>
   rw [hi,hj]at h2;simp only[AN,Ad]at h2 ⊢;refine ⟨h2.1,h2.2.elim .inr fun A=>.inl ?_⟩;rw [List.contains_iff_mem];exact ZxD _ _ A
theorem ZoQ:∀{l:List Nat},Zne tt hds ops l=true->Zh5 tt hds false ops l=true
 | [],_=>rfl
 |i::r,h=>by
  simp only[Zne,AN,An]at h;simp only[Zh5,AN,An];exact ⟨fun j A=>ZyU (h.1 j A),ZoQ h.2⟩
theorem ZvH(h:Zr2 tt hds ops=true):ZnC tt hds ops=true:=by
 unfold Zr2 at h;unfold ZnC;rw [AN]at h ⊢;exact ⟨ZoQ h.1,h.2⟩
end
def Q0(tt:Nat->Option TI)(hs:FuncId->Nat)(N:Nat):Code->Bool
 |.skip=>true
 |.region _ ops d=>(ops.toList.all fun o=>match o.dst with|some t=>Nat.blt t N|none=>true)&&(!d||Zr2 tt hs ops)
 |.seq x y=>Q0 tt hs N x&&Q0 tt hs N y
 |.cond _ x y=>Q0 tt hs N x&&Q0 tt hs N y
 |.block _ x=>Q0 tt hs N x
 |.loop x=>Q0 tt hs N x
 |.exit _=>true
 |.ret=>true
 |_=>false
theorem ZbO{tt:Nat->Option TI}{hs:FuncId->Nat}{N:Nat}:∀(c:Code),Q0 tt hs N c=true->Xa (fun _=>none) tt hs false N c=true
 |.skip,_=>rfl
 |.exit _,_=>rfl
 |.ret,_=>rfl
 |.region id ops d,h=>by
  simp only[Q0,AN,Ad,An]at h;simp only[Xa,AN,Ad,An];refine ⟨fun o A=>?_,h.2.imp (fun h=>h) ZvH⟩;have:=h.1 o A;cases hd:o.dst with
  |none=>rfl
  |some t=>rw [hd]at this;simp only[Bool.not_false,Bool.true_or,Bool.and_true];exact this
 |.seq x y,h=>by
  simp only[Q0,AN]at h;simp only[Xa,AN];exact ⟨ZbO x h.1,ZbO y h.2⟩
 |.cond _ x y,h=>by
  simp only[Q0,AN]at h;simp only[Xa,AN];exact ⟨ZbO x h.1,ZbO y h.2⟩
 |.block _ x,h=>ZbO x h
 |.loop x,h=>ZbO x h
 |.rangeFunc _ _ _ _,h=>by simp [Q0]at h
 |.scope _,h=>by simp [Q0]at h
 |.label _,h=>by simp [Q0]at h
 |.goto _,h=>by simp [Q0]at h
 |.refuse _,h=>by simp [Q0]at h
end
section
theorem ZKv{C:List Int}{r:Bool}(h:ZJX C=some r):Zp prog J0 4 [(false,[.sl 5 1 (A0 ZbA C)])] [(false,[(false,.bool r)])]:=by
 refine fnk (hok:=ZbO _ yO) func4 rfl ?_;unfold ZJX at h;simp only[fnS,f4,Zt,go_sem,seval];refine Zc h fun v1 f h=>Zd (ZA5 f)<|yA ?_;refine yB h (fun _ h=>?_) fun _ h=>?_;cases h;exact yD;obtain ⟨_,g,h⟩:=Zn h;refine Zhp (ZlD g)<|yA ?_;refine Zc h fun _ j h=>Zd (ZgS j)<|yA ?_;refine Zc h fun _ k h=>Zd (ZsM k)<|yA ?_;iterate 2 refine yB h (fun _ h=>?_) fun _ h=>?_
 cases h;exact yD;refine Zc h fun _ l h=>Zd (ZgS l)<|yA ?_;refine yB h (fun _ h=>?_) fun _ h=>?_;refine Zc h fun _ m h=>Zd (ZK7 m) ?_;obtain ⟨_,h⟩:=Zs h;simp only[*,go_sem,seval];refine Zc h fun b o h=>Zd (ZJ6 o)<|yA ?_;refine Zc h fun q t h=>Zd (ZJ6 t) ?_;iterate 3 (simp only[*,go_sem,seval];(refine Ze h (fun _ h=>?_) fun _ h=>?_<;>try simp only[*,go_sem,seval]);cases h)
 simp only[*,go_sem,seval];refine Zc h fun _ u h=>Zd (ZgS u)<|yA ?_;refine yB h (fun _ h=>?_) fun _ h=>?_;obtain ⟨_,h⟩:=Zs h;obtain ⟨_,_,h⟩:=Zn h;obtain ⟨_,_,_,_,h⟩:=Zbl h;simp only[*,go_sem,seval];refine Zc h fun _ v h=>Zd (Zcu v)<|yA ?_;refine yB h (fun _ h=>?_) fun _ h=>?_;cases h;exact yD;refine Zk h (fun i _ st=>IV [(7,.p false [.row 0]),(8,.p false [.row 1]),(9,yL i)] [.row 38 4 (A0 XP b) 2,.row 38 4 (A0 XP q) 2] st) [] [624,720] yF yD ?_ ?_;rintro _ _ ⟨⟩ ⟨_,_,_⟩ _ a d w h x;simp only[go_sem,seval,Zb]at d;obtain ⟨⟨_,_,_⟩,y,_,D⟩:=d;subst D;have z:=WF.rowL w y;have:=ZH a;have:=ZI a;have:=Zm (ZG a) z;simp only[*,go_sem,seval];refine Zc h fun _ A h=>Zd (ZKc A) ?_;obtain ⟨_,h⟩:=Zs h;obtain ⟨_,_,h⟩:=Zn h;simp only[*,go_sem,seval];refine Zc h fun _ B h=>Zd (ZKc B)<|yA ?_;refine yB h (fun _ h=>?_) fun _ h=>?_;exact yR h [0,1];replace h:=Zr h x;cases h;exact yD;rintro ⟨⟩ ⟨_,_,_⟩ e _ h
 simp only[go_sem,seval,Zb]at e;obtain ⟨⟨_,_,_⟩,_,_,D⟩:=e;subst D;have:=ZE (b.length);iterate 4 (cases h;exact yD)
end
section
open Go.RowKit Go.Deep
def Zzv{α:Type}(P:Program)(t:TypeId)(c:Yk α)(wf:α->Prop):Prop:=
 ∀{H:Type} {enc:TypeId×Value->H} {w:World} {base:Nat} {spare:Nat->Bool} {held:Bool} {fuel:Nat} {cs:List Value} {x:DataW H×List MemPlace},
  DataW.trod enc P w base spare held fuel t cs=some x->∃d L,c.rep w cs d L/\wf d
theorem Zwv{P:Program}{t:TypeId}(E:P.underlying t=some (.int .u8)):Zzv P t ZBv (fun n=>0<=n/\n<=255):=by
 intro H F w base A B C cs x h;obtain ⟨n,rfl,_,D⟩:=DataW.trod_int E h;refine ⟨n,[],⟨rfl,rfl⟩,?_⟩;simp [Lit.wf,IntKind.min,IntKind.max,IntKind.signed,IntKind.bits]at D;exact ⟨yE,yE⟩
theorem ZuB{α:Type}{c:Yk α}{G:α->Prop}{P:Program}{t e:TypeId}(S:P.underlying t=some (.slice e))(W:P.cellsOf e=c.size)(U:Zzv P e c G):Zzv P t (ZQ c) (fun ds=>∀d∈ds,G d):=by
 intro H aa w base I M O cs x h;rcases open_slice S h with ⟨rfl,_⟩|⟨a,len,cap,m,n,D,Pl,rfl,hb,hl,J,l,_,R⟩
 .exact ⟨[],[],⟨none,0,rfl,AL _,AX _,Sli.nil _ _⟩,yG⟩
 .have V:len<=m:=by rw [l];split<;>omega
  have key:∀q,q<=len->∃(xs:List Value) (ds:List α) (L:List Nat),ds.length=q/\(∀j u,xs[j]?=some u->w.cell? (a.add j)=some u)/\c.reps w xs ds L/\∀d∈ds,G d:=by
   intro q;induction q with
   |zero=>exact fun _=>⟨[],[],[],rfl,yG,⟨rfl,rfl⟩,yG⟩
   |succ q ih=>
    intro hq;obtain ⟨xs,ds,L,B,f,E,i⟩:=ih yE;obtain ⟨o,h1,h2⟩:=R q yE;obtain ⟨d,Lq,k,p⟩:=U h2;obtain ⟨_,K,v⟩:=World.cells?_some h1;refine ⟨xs++o,ds++[d],L++Lq,by simp [B],fun j u A=>?_,ZfG E (Zmk k),?_⟩
    .have g:xs.length=q*c.size:=by rw [Zko E,B]
     rw [List.getElem?_append]at A;split at A
     .exact f j u A
     .rename_i hj;have hj2:=(AH.1 A).1;have:=v (j - xs.length) yE;rw [<-A,<-this,Go.Deep.add_add,W,<-g];congr 2
      omega
    .intro y C;rcases AA.1 C with C|C
     .exact i y C
     .simp at C;subst C;exact p
  obtain ⟨xs,ds,L,B,f,E,i⟩:=key len (AL _);have g:=Zko E;rcases B9 len with N|N
  .have:ds=[]:=BA yE;subst this;refine ⟨[],[],⟨some a,cap,by simp at B;rw [<-B];rfl,yG,J,Sli.nil _ _⟩,yG⟩
  .obtain ⟨b,off,F⟩:=a;have T:0<xs.length:=by rw [g,B];exact Nat.mul_pos N c.pos
   have z:F=none:=by
    have h1:=f 0 _ (Aq T);have e:(⟨b,off,F⟩:Addr).add 0=⟨b,off,F⟩:=by simp [Addr.add]
    rw [e]at h1;cases F with
    |none=>rfl
    |some q=>
     simp only[World.cell?]at h1;split at h1<;>simp at h1
   subst z;refine ⟨ds,[b]++L,⟨some ⟨b,off,none⟩,cap,by rw [B],yE,J,xs,[b],L,rfl,⟨by rw [g],.inr ⟨yE,b,off,rfl,rfl,fun j u A=>?_⟩⟩,E⟩,i⟩;have:=f j u A
   rwa [Zcl]at this
end
section
open Go.RowKit
theorem ZKt(w:World)(C:J0 w)(A:Option Addr)(c:Nat)(a:List Int)(L:List Nat)(h:(ZQ ZBv).rep w [.slice A a.length c] a L)(B:∀x∈a,0<=x/\x<=255):
  Calls prog 4 #[.slice A a.length c] w (fun e w'=>e=.returned (.bool true)/\Below w.heap.size w w'):=
 Zp.givesB (ZKv (ZKn a B)) C (vs:=[_]) ⟨Zox ZCG _ h,trivial⟩
end
end Go.Proofs.YtnacpkmpdlodoaaGreatDoor
