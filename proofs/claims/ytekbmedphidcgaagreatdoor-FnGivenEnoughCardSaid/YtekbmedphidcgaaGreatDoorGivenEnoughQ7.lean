/- Texts of this proof, joined: Dp2, Dp4, Dp3, BStd, DE, Dm, De, Dp5, Dp6, Dp8, Dp7, Dp9, Dp10, Dp11. What each holds is said at its theorems. -/
import Derived.Test.YtekbmedphidcgaaGreatDoorGivenEnoughQ6
import Derived.Test.YtekbmedphidcgaaGreatDoorGivenEnoughQ5
import Derived.Test.YtekbmedphidcgaaGreatDoorGivenEnoughQ1
import Derived.Test.YtekbmedphidcgaaGreatDoorGivenEnoughQ3
import Derived.Deep.OwnRows
import Derived.Test.YtekbmedphidcgaaGreatDoorProg
import Derived.OwnWalk
import Derived.Outline
import Derived.WalkSpells
import Derived.StillTailTactics
import Derived.BigGuard
open Bool renaming and_eq_true→AD
open Int renaming toNat_natCast→A6
open List renaming map→A0,replicate→A4,range'→A5,append_nil→A7,getElem?_eq_getElem→AA,nil_append→AB,append_assoc→AC,getElem?_eq_some_iff→AF,all_eq_true→AG,take_of_length_le→AH,getElem?_map→AJ,getElem?_replicate→AK,mem_append→AL,mem_of_getElem?→AM,foldl_append→AN,getElem_mem→AO
open Nat renaming zero_le→A8,le_refl→A9,le_trans→AE,le_of_eq→AI
open Option.some renaming inj→A3
open Go.Proofs.Tryz
set_option linter.unusedSimpArgs false
set_option linter.unusedVariables false
set_option maxRecDepth 1000000
set_option maxHeartbeats 4000000
namespace Go.Proofs.YtekbmedphidcgaaGreatDoor
section
theorem ZlS {a_0:Zd} {b_1:Zd} {r:Bool} (h:Zbe a_0 b_1=some r):Zl prog J0 129 [(true,Zq a_0),(true,Zq b_1)] [(false,[(false,.bool r)])]:=by
 refine fnk func129 rfl ?_
 unfold Zbe at h
 simp only[fnS,f129,Zm,go_sem,seval]
 refine yB h (fun _ h=>?_) fun _ h=>?_
 refine Za h fun v1 a h=>Zb (ZkF a) ?_
 iterate 2 (cases h;exact yD)
theorem YC {f_0:Zd} {r:Zd} (h:Yl f_0=some r):Zl prog J0 103 [(true,Zq f_0)] [(true,[(false,.str r.rel),(false,.sl 9 1 (A0 Zw r.args))])]:=by
 refine fnk func103 rfl ?_
 unfold Yl at h
 simp only[fnS,f103,Zm,go_sem,seval]
 refine Za h fun v1 a h=>Zb (ZfK a) ?_
 cases h;exact yD
theorem ZfA {s_0:ByteArray} {r:Bool} (h:Zdg s_0=some r):Zl prog J0 166 [(false,[.str s_0])] [(false,[(false,.bool r)])]:=by
 refine fnk func166 rfl ?_
 unfold Zdg at h
 simp only[fnS,f166,Zm,go_sem,seval]
 refine Za h fun v1 a h=>Zb (XS a)<|yA ?_
 refine yB h (fun _ h=>?_) fun _ h=>?_
 obtain ⟨_,_,b,h⟩:=ZpV h
 try simp only[seval] at b
 iterate 2 (cases h;exact yD)
theorem ZcG {s_0:ByteArray} {r:Bool} (h:Zcp s_0=some r):Zl prog J0 229 [(false,[.str s_0])] [(false,[(false,.bool r)])]:=by
 refine fnk func229 rfl ?_
 unfold Zcp at h
 simp only[fnS,f229,Zm,go_sem,seval]
 refine yB h (fun _ h=>?_) fun _ h=>?_
 obtain ⟨_,_,a,h⟩:=ZpV h
 try simp only[seval] at a
 simp only[*,go_sem,seval]
 refine yB h (fun _ h=>?_) fun _ h=>?_
 obtain ⟨_,h⟩:=Zs h
 simp only[*,go_sem,seval]
 refine Za h fun _ b h=>Zb (XS b) ?_
 iterate 3 (cases h;exact yD)
theorem ZbF {s_0:ByteArray} {r:(Int × Bool)} (h:QD s_0=some r):Zl prog J0 259 [(false,[.str s_0])] [(false,[(false,.int .i64 r.1)]),(false,[(false,.bool r.2)])]:=by
 refine fnk func259 rfl ?_
 unfold QD at h
 simp only[fnS,f259,Zm,go_sem,seval]
 iterate 2 ((refine Ze h (fun _ h=>?_) fun _ h=>?_<;>try simp only[*,go_sem,seval]);cases h;simp only[*,go_sem,seval])
 refine Za h fun v1 a h=>Zb (ZsH a)<|yA ?_
 iterate 2 refine yB h (fun _ h=>?_) fun _ h=>?_
 cases h;exact yD
 refine yB h (fun _ h=>?_) fun _ h=>?_
 cases h;exact yD
 refine Za h fun _ b h=>Zb (ZjM b)<|yA ?_
 refine yB h (fun _ h=>?_) fun _ h=>?_
 iterate 3 (cases h;exact yD)
theorem ZnX {x_0:Zr} {r:(List ByteArray)} (h:Zgs x_0=some r):Zl prog J0 282 [(true,ZK x_0)] [(false,[(false,.sl 9 1 (A0 Zw r))])]:=by
 refine fnk func282 rfl ?_
 unfold Zgs at h
 simp only[fnS,f282,Zm,go_sem,seval]
 refine Za h fun v1 a h=>Zb (ZfK a) ?_
 obtain ⟨b,h⟩:=Zs h
 try simp only[Nat.reduceLeDiff] at b
 cases h;exact yD
theorem ZgC {r_0:Zf} {r:(List ByteArray)} (h:XY r_0=some r):Zl prog J0 277 [(true,ZG r_0)] [(false,[(false,.sl 9 1 (A0 Zw r))])]:=by
 refine fnk func277 rfl ?_
 unfold XY at h
 simp only[fnS,f277,Zm,go_sem,seval]
 refine Zh h (fun i a st=>IV [(3,.p false [.row 0]),(7,yM (yU r_0.thn)),(8,yL r_0.thn.length),(9,yL i)] [.row 9 1 (A0 Zw a) 2] st) [(false,3,0)] [112] yF yD ?_ ?_
 rintro _ _ a ⟨sl,ob,n⟩ _ b d f h _
 simp only[go_sem,seval,Zc] at d
 obtain ⟨⟨_,g,_,_⟩,_,hn⟩:=d
 subst hn
 have k:=WF.slotL f g (j:=0) rfl
 have:=ZB b
 have:=ZC b
 have:=Zj (ZA b) k
 simp only[*,go_sem,seval]
 refine yB h (fun _ h=>?_) fun _ h=>?_
 obtain ⟨l,h⟩:=Zs h
 try simp only[Nat.reduceLeDiff] at l
 simp only[*,go_sem,seval]
 exact yC h [] [289]
 refine yB h (fun _ h=>?_) fun _ h=>?_
 obtain ⟨m,h⟩:=Zs h
 try simp only[Nat.reduceLeDiff] at m
 simp only[*,go_sem,seval]
 exact yC h [] [289]
 exact yC h [] [0]
 rintro a ⟨sl,ob,n⟩ e _ h
 simp only[go_sem,seval,Zc] at e
 obtain ⟨⟨_,_,_,_⟩,_,hn⟩:=e
 subst hn
 have:=Zz (r_0.thn.length)
 simp only[*,go_sem,seval]
 refine Za h fun _ o h=>Zb (XK o) ?_
 cases h;exact yD
theorem ZnK {r_0:Zf} {r:(List ByteArray)} (h:Zbm r_0=some r):Zl prog J0 292 [(true,ZG r_0)] [(false,[(false,.sl 9 1 (A0 Zw r))])]:=by
 refine fnk func292 rfl ?_
 unfold Zbm at h
 simp only[fnS,f292,Zm,go_sem,seval]
 refine Zh h (fun i a st=>IV [(3,.p false [.row 0]),(7,yM (yS r_0.cond)),(8,yL r_0.cond.length),(9,yL i)] [.row 9 1 (A0 Zw a) 2] st) [(false,3,0)] [112] yF yD ?_ ?_
 rintro _ _ a ⟨sl,ob,n⟩ _ b d f h _
 simp only[go_sem,seval,Zc] at d
 obtain ⟨⟨_,g,_,_⟩,_,hn⟩:=d
 subst hn
 have k:=WF.slotL f g (j:=0) rfl
 have:=ZB b
 have:=ZC b
 have:=Zj (ZA b) k
 simp only[*,go_sem,seval]
 refine yB h (fun _ h=>?_) fun _ h=>?_
 obtain ⟨l,h⟩:=Zs h
 try simp only[Nat.reduceLeDiff] at l
 simp only[*,go_sem,seval]
 exact yC h [] [289]
 refine yB h (fun _ h=>?_) fun _ h=>?_
 obtain ⟨m,h⟩:=Zs h
 try simp only[Nat.reduceLeDiff] at m
 simp only[*,go_sem,seval]
 exact yC h [] [289]
 exact yC h [] [0]
 rintro a ⟨sl,ob,n⟩ e _ h
 simp only[go_sem,seval,Zc] at e
 obtain ⟨⟨_,_,_,_⟩,_,hn⟩:=e
 subst hn
 have:=Zz (r_0.cond.length)
 simp only[*,go_sem,seval]
 refine Za h fun _ o h=>Zb (XK o) ?_
 cases h;exact yD
theorem Zjo {a_0:Zg} {b_1:Zg} {r:Bool} (h:ZaK a_0 b_1=some r):Zl prog J0 239 [(true,ZL a_0),(true,ZL b_1)] [(false,[(false,.bool r)])]:=by
 refine fnk func239 rfl ?_
 unfold ZaK at h
 simp only[fnS,f239,Zm,go_sem,seval]
 refine yB h (fun _ h=>?_) fun _ h=>?_
 refine Za h fun v1 a h=>Zb (ZgG a)<|yA ?_
 refine yB h (fun _ h=>?_) fun _ h=>?_
 refine Za h fun _ b h=>Zb (ZgG b) ?_
 iterate 3 (cases h;exact yD)
theorem Zpp {b:Zu} {r:(List Int)} (h:ZfP b=some r):Zl prog J0 178 [(true,Qw b)] [(false,[(false,.sl 3 1 (A0 Z5 r))])]:=by
 refine fnk func178 rfl ?_
 unfold ZfP at h
 simp only[fnS,f178,Zm,go_sem,seval]
 refine Za h fun v1 A h=>Zb (Zoq A) ?_
 obtain ⟨_,h⟩:=Zs h
 simp only[*,go_sem,seval]
 refine XH h (fun s st=>match s with | (q,t,e)=>IV [(1,.bp 0 0),(3,.p false [.row 1]),(4,.p false [.row 2]),(5,yM (.int .i64 e)),(20,yM (.int .i64 ((Int.toNat b.nodes:Nat):Int))),(21,yM (.int .i64 t))] [.box 91 [.c (.int .i64 b.nodes),.c (yV b.reasons)],.row 3 1 (A0 Z5 v1) 2,.row 3 1 (A0 Z5 q) 2] st) [] [0,48,112] yF yD ?_
 rintro ⟨q,t,e⟩ ⟨sl,ob,n⟩ _ u _ h B
 simp only[go_sem,seval,Zc] at u
 obtain ⟨⟨_,_,_,_,_,_⟩,_,_,_,hn⟩:=u
 subst hn
 simp only[*,go_sem,seval]
 refine yB h (fun _ h=>?_) fun _ h=>?_
 obtain ⟨_,h⟩:=Zs h
 obtain ⟨_,_,h⟩:=ZJ h
 obtain ⟨_,h⟩:=Zs h
 obtain ⟨_,_,h⟩:=ZJ h
 simp only[*,go_sem,seval]
 exact yC h [] [0,1,2]
 refine XH h (fun s st=>match s with | (k,f,g)=>IV [(1,.bp 0 0),(3,.p false [.row 1]),(4,.p false [.row 2]),(5,yM (.int .i64 e)),(7,yM (.int .i64 f)),(8,yM (.int .i64 g))] [.box 91 [.c (.int .i64 b.nodes),.c (yV b.reasons)],.row 3 1 (A0 Z5 v1) 2,.row 3 1 (A0 Z5 k) 2] st) [] [0,1,2] yF yD ?_
 rintro ⟨k,f,g⟩ ⟨sl,ob,n⟩ _ v _ h C
 simp only[go_sem,seval,Zc] at v
 obtain ⟨⟨_,_,_,_,_,_⟩,_,_,_,hn⟩:=v
 subst hn
 simp only[*,go_sem,seval]
 refine yB h (fun _ h=>?_) fun _ h=>?_
 refine Zh h (fun i d st=>IV [(1,.bp 0 0),(3,.p false [.row 1]),(4,.p false [.row 2]),(5,yM (.int .i64 e)),(7,yM (.int .i64 f)),(8,yM (.int .i64 g)),(9,.p false [.row 3]),(38,yM (yV b.reasons)),(39,yL b.reasons.length),(40,yL i)] [.box 91 [.c (.int .i64 b.nodes),.c (yV b.reasons)],.row 3 1 (A0 Z5 v1) 2,.row 3 1 (A0 Z5 k) 2,.row 3 1 (A0 Z5 d) 2] st) [(false,9,0)] [0,1,2,131] yF yD ?_ ?_
 rintro _ _ d ⟨sl,ob,n⟩ _ l w D h _
 simp only[go_sem,seval,Zc] at w
 obtain ⟨⟨_,_,_,_,_,_,_,E,_,_⟩,_,_,_,_,hn⟩:=w
 subst hn
 have F:=WF.slotL D E (j:=0) rfl
 have:=ZB l
 have:=ZC l
 have:=Zj (ZA l) F
 obtain ⟨_,h⟩:=Zs h
 obtain ⟨_,_,h⟩:=ZJ h
 simp only[*,go_sem,seval]
 refine yB h (fun _ h=>?_) fun _ h=>?_
 obtain ⟨_,h⟩:=Zs h
 obtain ⟨_,_,h⟩:=ZJ h
 simp only[*,go_sem,seval]
 refine yB h (fun _ h=>?_) fun _ h=>?_
 refine Za h fun _ G h=>Zb (Zkh G)<|yA ?_
 refine yB h (fun _ h=>?_) fun _ h=>?_
 obtain ⟨H,h⟩:=Zs h
 try simp only[Nat.reduceLeDiff] at H
 simp only[*,go_sem,seval]
 exact yC h [] [0,1,2,484]
 exact yC h [] [0,1,2,3]
 exact yC h [] [0,1,2,3]
 exact yC h [] [0,1,2,3]
 rintro d ⟨sl,ob,n⟩ x _ h
 simp only[go_sem,seval,Zc] at x
 obtain ⟨⟨_,_,_,_,_,_,_,_,_,_⟩,_,_,_,_,hn⟩:=x
 subst hn
 have:=Zz (b.reasons.length)
 simp only[*,go_sem,seval]
 refine yB h (fun _ h=>?_) fun _ h=>?_
 exact yC h [] [0,1,2]
 refine Zh h (fun i m st=>IV [(1,.bp 0 0),(3,.p false [.row 1]),(4,.p false [.row 2]),(5,yM (.int .i64 e)),(7,yM (.int .i64 f)),(8,yM (.int .i64 g)),(76,.p false [.row 3]),(77,yL d.length),(78,yL i)] [.box 91 [.c (.int .i64 b.nodes),.c (yV b.reasons)],.row 3 1 (A0 Z5 v1) 2,.row 3 1 (A0 Z5 m) 2,.row 3 1 (A0 Z5 d) 2] st) [] [0,1,2,3] yF yD ?_ ?_
 rintro _ _ m ⟨sl,ob,n⟩ _ o y I h _
 simp only[go_sem,seval,Zc] at y
 obtain ⟨⟨_,_,_,_,_,_,_,_,_⟩,_,_,_,J,hn⟩:=y
 subst hn
 have K:=WF.rowL I J
 have:=ZB o
 have:=ZC o
 have:=Zj (ZA o) K
 obtain ⟨_,h⟩:=Zs h
 obtain ⟨_,_,h⟩:=ZJ h
 simp only[*,go_sem,seval]
 exact yC h [] [0,1,2,3]
 rintro m ⟨sl,ob,n⟩ z _ h
 simp only[go_sem,seval,Zc] at z
 obtain ⟨⟨_,_,_,_,_,_,_,_,_⟩,_,_,_,_,hn⟩:=z
 subst hn
 have:=Zz (d.length)
 simp only[*,go_sem,seval]
 exact yC h [] [0,1,2]
 replace h:=Zo h C
 replace h:=Zo h B
 cases h;exact yD
theorem QS {c_0:ZF} {n_1:Int} {r:(Int × ZF)} (h:Xb c_0 n_1=some r):ZaU prog J0 JF0 142 (.box 184 (Za7 c_0)) [(false,[.int .i64 n_1])] [(false,[(false,.int .i64 r.1)])] (.box 184 (Za7 r.2)):=by
 refine fnh func142 rfl ?_
 unfold Xb at h
 simp only[fnH,f142,ZcO,ZcW,Y9,go_sem,seval]
 refine yB h (fun _ h=>?_) fun _ h=>?_
 cases h;exact yD
 refine yB h (fun _ h=>?_) fun _ h=>?_
 obtain ⟨v1,a,h⟩:=ZJ h
 refine QC (Zdz a) ?_
 obtain ⟨_,h⟩:=Zs h
 cases h;exact yD
 obtain ⟨_,b,h⟩:=ZJ h
 refine QC (Zdz b)<|yA ?_
 obtain ⟨_,c,h⟩:=ZJ h
 refine QC (Zdz c)<|yA ?_
 obtain ⟨_,d,h⟩:=ZJ h
 refine QC (Zdz d) ?_
 obtain ⟨_,h⟩:=Zs h
 cases h;exact yD
theorem Zbv {s_0:ByteArray} {r:(Int × Bool)} (h:X0 s_0=some r):Zl prog J0 192 [(false,[.str s_0])] [(false,[(false,.int .i64 r.1)]),(false,[(false,.bool r.2)])]:=by
 refine fnk func192 rfl ?_
 unfold X0 at h
 simp only[fnS,f192,Zm,go_sem,seval]
 refine Za h fun v1 g h=>Zb (Zat g)<|yA ?_
 refine yB h (fun _ h=>?_) fun _ h=>?_
 refine Zh h (fun i a st=>IV [(0,yM (.str s_0)),(4,yM (.int .i64 a)),(5,yL i)] [] st) [] [] yF yD ?_ ?_
 rintro _ _ a ⟨sl,ob,n⟩ _ b d k h e
 simp only[go_sem,seval,Zc] at d
 obtain ⟨⟨l,_,_⟩,hn⟩:=d
 subst hn
 have m:=WF.slotS k l (j:=0) rfl
 have:=Znm b
 have:=Zuf b
 have:=Zj (Zrk b) m
 simp only[*,go_sem,seval]
 refine yB h (fun _ h=>?_) fun _ h=>?_
 replace h:=Zo h e
 cases h;exact yD
 refine yB h (fun _ h=>?_) fun _ h=>?_
 replace h:=Zo h e
 cases h;exact yD
 exact yC h [] []
 rintro a ⟨sl,ob,n⟩ f _ h
 simp only[go_sem,seval,Zc] at f
 obtain ⟨⟨_,_,_⟩,hn⟩:=f
 subst hn
 have:=Zz (s_0.size)
 simp only[*,go_sem,seval]
 refine Za h fun _ o h=>Zb (Zfs o)<|yA ?_
 refine yB h (fun _ h=>?_) fun _ h=>?_
 iterate 3 (cases h;exact yD)
theorem XR {s_0:ByteArray} {r:Bool} (h:X3 s_0=some r):Zl prog J0 160 [(false,[.str s_0])] [(false,[(false,.bool r)])]:=by
 refine fnk func160 rfl ?_
 unfold X3 at h
 simp only[fnS,f160,Zm,go_sem,seval]
 refine Zh h (fun i _ st=>IV [(0,yM (.str s_0)),(3,yL i)] [] st) [] [] yF yD ?_ ?_
 rintro _ _ ⟨⟩ ⟨sl,ob,n⟩ _ a b e h f
 simp only[go_sem,seval,Zc] at b
 obtain ⟨⟨g,_⟩,hn⟩:=b
 subst hn
 have k:=WF.slotS e g (j:=0) rfl
 have:=Znm a
 have:=Zuf a
 have:=Zj (Zrk a) k
 simp only[*,go_sem,seval]
 refine Za h fun _ l h=>Zb (Zat l)<|yA ?_
 refine yB h (fun _ h=>?_) fun _ h=>?_
 exact yC h [] []
 refine Za h fun _ m h=>Zb (Zat m)<|yA ?_
 refine yB h (fun _ h=>?_) fun _ h=>?_
 exact yC h [] []
 replace h:=Zo h f
 cases h;exact yD
 rintro ⟨⟩ ⟨sl,ob,n⟩ d _ h
 simp only[go_sem,seval,Zc] at d
 obtain ⟨⟨_,_⟩,hn⟩:=d
 subst hn
 have:=Zz (s_0.size)
 simp only[*,go_sem,seval]
 refine Za h fun _ o h=>Zb (Zat o) ?_
 cases h;exact yD
theorem Znw {s_0:ByteArray} {r:(ByteArray × (List ByteArray) × Bool)} (h:Zd9 s_0=some r):Zl prog J0 301 [(false,[.str s_0])] [(false,[(false,.str r.1)]),(false,[(false,.sl 9 1 (A0 Zw r.2.1))]),(false,[(false,.bool r.2.2)])]:=by
 refine fnk func301 rfl ?_
 unfold Zd9 at h
 have a:Z2 ⟨#[40]⟩=true:=by decide
 have b:Z2 ⟨#[44]⟩=true:=by decide
 have c:Z2 ⟨#[]⟩=true:=by decide
 simp only[fnS,f301,Zm,go_sem,seval,a,b,c]
 refine Za h fun v1 d h=>Zb (XU d)<|yA ?_
 refine yB h (fun _ h=>?_) fun _ h=>?_
 cases h;exact yD
 obtain ⟨_,h⟩:=Zs h
 obtain ⟨_,e,h⟩:=ZJ h
 try simp only[seval] at e
 simp only[*,go_sem,seval]
 refine yB h (fun _ h=>?_) fun _ h=>?_
 cases h;exact yD
 obtain ⟨_,_,_,h⟩:=ZpV h
 simp only[*,go_sem,seval]
 refine yB h (fun _ h=>?_) fun _ h=>?_
 cases h;exact yD
 obtain ⟨_,h⟩:=Zs h
 simp only[*,go_sem,seval]
 refine yB h (fun _ h=>?_) fun _ h=>?_
 obtain ⟨_,h⟩:=Zs h
 obtain ⟨_,f,h⟩:=ZJ h
 try simp only[seval] at f
 cases h;exact yD
 obtain ⟨_,h⟩:=Zs h
 obtain ⟨_,g,h⟩:=ZJ h
 try simp only[seval] at g
 simp only[*,go_sem,seval]
 refine Za h fun _ i h=>Zb (XU i) ?_
 cases h;exact yD
theorem Xr {f_0:Zd} {r:Zd} (h:XM f_0=some r):Zl prog J0 98 [(true,Zq f_0)] [(true,[(false,.str r.rel),(false,.sl 9 1 (A0 Zw r.args))])]:=by
 refine fnk func98 rfl ?_
 unfold XM at h
 simp only[fnS,f98,Zm,go_sem,seval]
 refine Za h fun v1 a h=>Zb (ZnT a) ?_
 cases h;exact yD
theorem ZlG {a_0:(List ByteArray)} {b_1:(List ByteArray)} {r:Bool} (h:ZcU a_0 b_1=some r):Zl prog J0 244 [(false,[.sl 9 1 (A0 Zw a_0)]),(false,[.sl 9 1 (A0 Zw b_1)])] [(false,[(false,.bool r)])]:=by
 refine fnk func244 rfl ?_
 unfold ZcU at h
 simp only[fnS,f244,Zm,go_sem,seval]
 refine Zh h (fun i _ st=>IV [(0,yM (yP a_0)),(1,yM (yP b_1)),(5,yL i)] [] st) [] [] yF yD ?_ ?_
 rintro _ _ ⟨⟩ ⟨sl,ob,n⟩ _ a b e h f
 simp only[go_sem,seval,Zc] at b
 obtain ⟨⟨g,_,_⟩,hn⟩:=b
 subst hn
 have k:=WF.slotL e g (j:=0) rfl
 have:=ZB a
 have:=ZC a
 have:=Zj (ZA a) k
 simp only[*,go_sem,seval]
 refine Za h fun _ l h=>Zb (Ym l)<|yA ?_
 refine yB h (fun _ h=>?_) fun _ h=>?_
 exact yC h [] []
 replace h:=Zo h f
 cases h;exact yD
 rintro ⟨⟩ ⟨sl,ob,n⟩ d _ h
 simp only[go_sem,seval,Zc] at d
 obtain ⟨⟨_,_,_⟩,hn⟩:=d
 subst hn
 have:=Zz (a_0.length)
 cases h;exact yD
theorem ZgL {r_0:Zf} {r:(List ByteArray)} (h:QI r_0=some r):Zl prog J0 185 [(true,ZG r_0)] [(false,[(false,.sl 9 1 (A0 Zw r))])]:=by
 refine fnk func185 rfl ?_
 unfold QI at h
 simp only[fnS,f185,Zm,go_sem,seval]
 refine Zh h (fun i a st=>IV [(1,.bp 0 0),(3,.p false [.row 1]),(4,yL i)] [yZ 104 (ZG r_0),.row 9 1 (A0 Zw a) 2] st) [] [0,32] yF yD ?_ ?_
 rintro _ _ a ⟨sl,ob,n⟩ _ b d f h _
 simp only[go_sem,seval,Zc] at d
 obtain ⟨⟨_,_,_⟩,g,_,hn⟩:=d
 subst hn
 have k:=WF.boxL f g (j:=3) rfl
 have:=ZB b
 have:=ZC b
 have:=Zj (ZA b) k
 simp only[*,go_sem,seval]
 refine yB h (fun _ h=>?_) fun _ h=>?_
 refine Za h fun _ l h=>Zb (Y1 l)<|yA ?_
 exact yC h [] [0,466]
 refine yB h (fun _ h=>?_) fun _ h=>?_
 refine Za h fun _ m h=>Zb (Y1 m)<|yA ?_
 exact yC h [] [0,466]
 exact yC h [] [0,1]
 rintro a ⟨sl,ob,n⟩ e _ h
 simp only[go_sem,seval,Zc] at e
 obtain ⟨⟨_,_,_⟩,_,_,hn⟩:=e
 subst hn
 have:=Zz (r_0.thn.length)
 cases h;exact yD
theorem ZnN {r_0:Zf} {r:(List ByteArray)} (h:Zbt r_0=some r):Zl prog J0 245 [(true,ZG r_0)] [(false,[(false,.sl 9 1 (A0 Zw r))])]:=by
 refine fnk func245 rfl ?_
 unfold Zbt at h
 simp only[fnS,f245,Zm,go_sem,seval]
 refine Zh h (fun i a st=>IV [(1,.bp 0 0),(3,.p false [.row 1]),(4,yL i)] [yZ 104 (ZG r_0),.row 9 1 (A0 Zw a) 2] st) [] [0,32] yF yD ?_ ?_
 rintro _ _ a ⟨sl,ob,n⟩ _ b d f h _
 simp only[go_sem,seval,Zc] at d
 obtain ⟨⟨_,_,_⟩,g,_,hn⟩:=d
 subst hn
 have k:=WF.boxL f g (j:=2) rfl
 have:=ZB b
 have:=ZC b
 have:=Zj (ZA b) k
 simp only[*,go_sem,seval]
 refine yB h (fun _ h=>?_) fun _ h=>?_
 refine Za h fun _ l h=>Zb (Y1 l)<|yA ?_
 exact yC h [] [0,466]
 refine yB h (fun _ h=>?_) fun _ h=>?_
 refine Za h fun _ m h=>Zb (Y1 m)<|yA ?_
 exact yC h [] [0,466]
 exact yC h [] [0,1]
 rintro a ⟨sl,ob,n⟩ e _ h
 simp only[go_sem,seval,Zc] at e
 obtain ⟨⟨_,_,_⟩,_,_,hn⟩:=e
 subst hn
 have:=Zz (r_0.cond.length)
 cases h;exact yD
theorem Zpy {a_0:Zd} {b_1:Zd} {r:Bool} (h:Zj1 a_0 b_1=some r):Zl prog J0 127 [(true,Zq a_0),(true,Zq b_1)] [(false,[(false,.bool r)])]:=by
 refine fnk func127 rfl ?_
 unfold Zj1 at h
 simp only[fnS,f127,Zm,go_sem,seval]
 refine yB h (fun _ h=>?_) fun _ h=>?_
 refine Za h fun v1 a h=>Zb (ZiH a) ?_
 iterate 2 (cases h;exact yD)
theorem ZnD {l_0:(List Zg)} {r_1:Zg} {r:Int} (h:Zd8 l_0 r_1=some r):Zl prog J0 169 [(false,[.sl 144 3 (A0 ZL l_0)]),(true,ZL r_1)] [(false,[(false,.int .i64 r)])]:=by
 refine fnk func169 rfl ?_
 unfold Zd8 at h
 simp only[fnS,f169,Zm,go_sem,seval]
 refine Zh h (fun i _ st=>IV [(0,yM (yV l_0)),(3,.bp 0 0),(5,yL i)] [yZ 144 (ZL r_1)] st) [] [0] yF yD ?_ ?_
 rintro _ _ ⟨⟩ ⟨sl,ob,n⟩ _ a b e h f
 simp only[go_sem,seval,Zc] at b
 obtain ⟨⟨g,_,_⟩,_,hn⟩:=b
 subst hn
 have k:=WF.slotL e g (j:=0) rfl
 have:=ZB a
 have:=ZC a
 have:=Zj (ZA a) k
 simp only[*,go_sem,seval]
 refine yB h (fun _ h=>?_) fun _ h=>?_
 refine Za h fun _ l h=>Zb (Ze0 l)<|yA ?_
 refine yB h (fun _ h=>?_) fun _ h=>?_
 refine Za h fun _ m h=>Zb (Ze0 m)<|yA ?_
 refine yB h (fun _ h=>?_) fun _ h=>?_
 replace h:=Zo h f
 cases h;exact yD
 exact yC h [] [0]
 exact yC h [] [0]
 exact yC h [] [0]
 rintro ⟨⟩ ⟨sl,ob,n⟩ d _ h
 simp only[go_sem,seval,Zc] at d
 obtain ⟨⟨_,_,_⟩,_,hn⟩:=d
 subst hn
 have:=Zz (l_0.length)
 cases h;exact yD
end
section
theorem ZbG {l_0:(List Zd)} {f_1:Zd} {r:Int} (h:Z8 l_0 f_1=some r):Zl prog J0 64 [(false,[.sl 71 2 (A0 Zq l_0)]),(true,Zq f_1)] [(false,[(false,.int .i64 r)])]:=by
 refine fnk func64 rfl ?_
 unfold Z8 at h
 simp only[fnS,f64,Zm,go_sem,seval]
 refine Zh h (fun i _ st=>IV [(3,.bp 0 0),(7,yM (yO l_0)),(8,yL l_0.length),(9,yL i)] [yZ 71 (Zq f_1)] st) [] [0] yF yD ?_ ?_
 rintro _ _ ⟨⟩ ⟨sl,ob,n⟩ _ a b e h f
 simp only[go_sem,seval,Zc] at b
 obtain ⟨⟨_,g,_,_⟩,_,hn⟩:=b
 subst hn
 have k:=WF.slotL e g (j:=0) rfl
 have:=ZB a
 have:=ZC a
 have:=Zj (ZA a) k
 simp only[*,go_sem,seval]
 refine Za h fun _ l h=>Zb (ZlS l)<|yA ?_
 refine yB h (fun _ h=>?_) fun _ h=>?_
 replace h:=Zo h f
 cases h;exact yD
 exact yC h [] [0]
 rintro ⟨⟩ ⟨sl,ob,n⟩ d _ h
 simp only[go_sem,seval,Zc] at d
 obtain ⟨⟨_,_,_,_⟩,_,hn⟩:=d
 subst hn
 have:=Zz (l_0.length)
 cases h;exact yD
theorem QF {s_0:ByteArray} {r:Bool} (h:Qx s_0=some r):Zl prog J0 167 [(false,[.str s_0])] [(false,[(false,.bool r)])]:=by
 refine fnk func167 rfl ?_
 unfold Qx at h
 simp only[fnS,f167,Zm,go_sem,seval]
 refine Za h fun v1 a h=>Zb (XS a)<|yA ?_
 refine yB h (fun _ h=>?_) fun _ h=>?_
 cases h;exact yD
 refine Za h fun _ b h=>Zb (ZcG b) ?_
 cases h;exact yD
theorem Qk {b_0:(List Zp)} {r:Bool} (h:Xq b_0=some r):Zl prog J0 209 [(false,[.sl 135 2 (A0 ZZ b_0)])] [(false,[(false,.bool r)])]:=by
 refine fnk func209 rfl ?_
 unfold Xq at h
 simp only[fnS,f209,Zm,go_sem,seval]
 refine yB h (fun _ h=>?_) fun _ h=>?_
 cases h;exact yD
 refine Zh h (fun i _ st=>IV [(0,yM (yT b_0)),(8,yM (yT b_0)),(9,yL b_0.length),(10,yL i)] [] st) [] [] yF yD ?_ ?_
 rintro _ _ ⟨⟩ ⟨sl,ob,n⟩ _ a b f h d
 simp only[go_sem,seval,Zc] at b
 obtain ⟨⟨g,_,_,_⟩,hn⟩:=b
 subst hn
 have k:=WF.slotL f g (j:=0) rfl
 have:=ZB a
 have:=ZC a
 have:=Zj (ZA a) k
 simp only[*,go_sem,seval]
 refine Za h fun _ l h=>Zb (ZcG l)<|yA ?_
 refine yB h (fun _ h=>?_) fun _ h=>?_
 refine Za h fun _ m h=>Zb (XS m)<|yA ?_
 iterate 2 refine yB h (fun _ h=>?_) fun _ h=>?_
 obtain ⟨_,_,_,_,h⟩:=Zci h
 simp only[*,go_sem,seval]
 refine yB h (fun _ h=>?_) fun _ h=>?_
 exact yC h [] []
 replace h:=Zo h d
 cases h;exact yD
 refine ⟨_,[],[],(A3 h).symm,yF,?_⟩
 iterate 2 (simp only[*,go_sem,seval];replace h:=Zo h d;cases h)
 simp only[*,go_sem,seval]
 rintro ⟨⟩ ⟨sl,ob,n⟩ e _ h
 simp only[go_sem,seval,Zc] at e
 obtain ⟨⟨_,_,_,_⟩,hn⟩:=e
 subst hn
 have:=Zz (b_0.length)
 cases h;exact yD
theorem Zjf {f_0:Zd} {r:Bool} (h:Zej f_0=some r):Zl prog J0 211 [(true,Zq f_0)] [(false,[(false,.bool r)])]:=by
 refine fnk func211 rfl ?_
 unfold Zej at h
 simp only[fnS,f211,Zm,go_sem,seval]
 refine Za h fun v1 e h=>Zb (ZfA e)<|yA ?_
 iterate 2 refine yB h (fun _ h=>?_) fun _ h=>?_
 cases h;exact yD
 refine Zh h (fun i _ st=>IV [(16,yM (yP f_0.args)),(17,yL f_0.args.length),(18,yL i)] [] st) [] [] yF yD ?_ ?_
 rintro _ _ ⟨⟩ ⟨sl,ob,n⟩ _ a b f h g
 simp only[go_sem,seval,Zc] at b
 obtain ⟨⟨k,_,_⟩,hn⟩:=b
 subst hn
 have l:=WF.slotL f k (j:=0) rfl
 have:=ZB a
 have:=ZC a
 have:=Zj (ZA a) l
 simp only[*,go_sem,seval]
 refine Za h fun _ m h=>Zb (XS m)<|yA ?_
 refine yB h (fun _ h=>?_) fun _ h=>?_
 exact yC h [] []
 replace h:=Zo h g
 cases h;exact yD
 rintro ⟨⟩ ⟨sl,ob,n⟩ d _ h
 simp only[go_sem,seval,Zc] at d
 obtain ⟨⟨_,_,_⟩,hn⟩:=d
 subst hn
 have:=Zz (f_0.args.length)
 iterate 2 (cases h;exact yD)
theorem Zcn {b_0:(List Zp)} {term_1:ByteArray} {r:(ByteArray × Bool)} (h:ZaC b_0 term_1=some r):Zl prog J0 236 [(false,[.sl 135 2 (A0 ZZ b_0)]),(false,[.str term_1])] [(false,[(false,.str r.1)]),(false,[(false,.bool r.2)])]:=by
 refine fnk func236 rfl ?_
 unfold ZaC at h
 have e:Z2 ⟨#[]⟩=true:=by decide
 simp only[fnS,f236,Zm,go_sem,seval,e]
 refine Za h fun v1 f h=>Zb (XS f)<|yA ?_
 refine yB h (fun _ h=>?_) fun _ h=>?_
 cases h;exact yD
 refine Za h fun _ g h=>Zb (ZcG g)<|yA ?_
 refine yB h (fun _ h=>?_) fun _ h=>?_
 refine Zh h (fun i _ st=>IV [(1,yM (.str term_1)),(14,yM (yT b_0)),(15,yL b_0.length),(16,yL i)] [] st) [] [] yF yD ?_ ?_
 rintro _ _ ⟨⟩ ⟨sl,ob,n⟩ _ a b k h l
 simp only[go_sem,seval,Zc] at b
 obtain ⟨⟨_,m,_,_⟩,hn⟩:=b
 subst hn
 have o:=WF.slotL k m (j:=0) rfl
 have:=ZB a
 have:=ZC a
 have:=Zj (ZA a) o
 simp only[*,go_sem,seval]
 refine yB h (fun _ h=>?_) fun _ h=>?_
 replace h:=Zo h l
 cases h;exact yD
 exact yC h [] []
 rintro ⟨⟩ ⟨sl,ob,n⟩ d _ h
 simp only[go_sem,seval,Zc] at d
 obtain ⟨⟨_,_,_,_⟩,hn⟩:=d
 subst hn
 have:=Zz (b_0.length)
 iterate 2 (cases h;exact yD)
theorem ZfY {l_0:(List Zd)} {r:(List Zd)} (h:ZaG l_0=some r):Zl prog J0 139 [(false,[.sl 71 2 (A0 Zq l_0)])] [(false,[(false,.sl 71 2 (A0 Zq r))])]:=by
 refine fnk func139 rfl ?_
 unfold ZaG at h
 simp only[fnS,f139,Zm,go_sem,seval]
 refine Zh h (fun i a st=>IV [(3,.p false [.row 0]),(6,yM (yO l_0)),(7,yL l_0.length),(8,yL i)] [.row 71 2 (A0 Zq a) 2] st) [(false,3,0)] [80] yF yD ?_ ?_
 rintro _ _ a ⟨sl,ob,n⟩ _ b d f h _
 simp only[go_sem,seval,Zc] at d
 obtain ⟨⟨_,g,_,_⟩,_,hn⟩:=d
 subst hn
 have k:=WF.slotL f g (j:=0) rfl
 have:=ZB b
 have:=ZC b
 have:=Zj (ZA b) k
 simp only[*,go_sem,seval]
 refine Za h fun _ l h=>Zb (YC l) ?_
 obtain ⟨m,h⟩:=Zs h
 try simp only[Nat.reduceLeDiff] at m
 simp only[*,go_sem,seval]
 exact yC h [] [145]
 rintro a ⟨sl,ob,n⟩ e _ h
 simp only[go_sem,seval,Zc] at e
 obtain ⟨⟨_,_,_,_⟩,_,hn⟩:=e
 subst hn
 have:=Zz (l_0.length)
 cases h;exact yD
theorem ZhS {a_0:ByteArray} {b_1:ByteArray} {r:Int} (h:Qj a_0 b_1=some r):Zl prog J0 251 [(false,[.str a_0]),(false,[.str b_1])] [(false,[(false,.int .i64 r)])]:=by
 refine fnk func251 rfl ?_
 unfold Qj at h
 simp only[fnS,f251,Zm,go_sem,seval]
 refine Za h fun v1 a h=>Zb (ZbF a)<|yA ?_
 refine Za h fun _ b h=>Zb (ZbF b)<|yA ?_
 iterate 2 refine yB h (fun _ h=>?_) fun _ h=>?_
 refine Za h fun _ c h=>Zb (Zbp c) ?_
 iterate 2 (cases h;exact yD)
 refine yB h (fun _ h=>?_) fun _ h=>?_
 cases h;exact yD
 refine Za h fun _ d h=>Zb (Zhw d) ?_
 cases h;exact yD
theorem Zc1 {l_0:(List ByteArray)} {r:(List ByteArray)} (h:Qn l_0=some r):Zl prog J0 205 [(false,[.sl 9 1 (A0 Zw l_0)])] [(false,[(false,.sl 9 1 (A0 Zw r))])]:=by
 refine fnk func205 rfl ?_
 unfold Qn at h
 simp only[fnS,f205,Zm,go_sem,seval]
 refine Zh h (fun i a st=>IV [(3,.p false [.row 0]),(6,yM (yP l_0)),(7,yL l_0.length),(8,yL i)] [.row 9 1 (A0 Zw a) 2] st) [(false,3,0)] [80] yF yD ?_ ?_
 rintro _ _ a ⟨sl,ob,n⟩ _ b d f h _
 simp only[go_sem,seval,Zc] at d
 obtain ⟨⟨_,g,_,_⟩,_,hn⟩:=d
 subst hn
 have k:=WF.slotL f g (j:=0) rfl
 have:=ZB b
 have:=ZC b
 have:=Zj (ZA b) k
 simp only[*,go_sem,seval]
 refine Za h fun _ l h=>Zb (ZcG l)<|yA ?_
 refine yB h (fun _ h=>?_) fun _ h=>?_
 obtain ⟨m,h⟩:=Zs h
 try simp only[Nat.reduceLeDiff] at m
 simp only[*,go_sem,seval]
 exact yC h [] [145]
 exact yC h [] [0]
 rintro a ⟨sl,ob,n⟩ e _ h
 simp only[go_sem,seval,Zc] at e
 obtain ⟨⟨_,_,_,_⟩,_,hn⟩:=e
 subst hn
 have:=Zz (l_0.length)
 cases h;exact yD
theorem ZlX {a:(List Zf)} {a_1:ByteArray} {r:(List (ByteArray × Bool))} (h:ZcF a a_1=some r):Zj3 prog J0 276 [(false,[.sl 104 4 (A0 ZG a)]),(false,[.str a_1])] (.map .str .bool (A0 eSB r)):=by
 refine fnb func276 rfl ?_
 unfold ZcF at h
 simp only[fnB,f276,Zm,go_sem,seval]
 refine XH h (fun s st=>match s with | (o,q)=>IV [(0,yM (yR a)),(5,.p false [.row 0]),(6,.p false [.row 1])] [.map .str .bool (A0 eSB o),.row 9 1 (A0 Zw q) 2] st) [] [16,64] yF yD ?_
 rintro ⟨o,q⟩ ⟨sl,ob,n⟩ _ t _ h z
 simp only[go_sem,seval,Zc] at t
 obtain ⟨⟨_,_,_⟩,_,_,hn⟩:=t
 subst hn
 simp only[*,go_sem,seval]
 refine yB h (fun _ h=>?_) fun _ h=>?_
 obtain ⟨_,h⟩:=Zs h
 obtain ⟨u,A,h⟩:=ZJ h
 try simp only[seval] at A
 obtain ⟨_,h⟩:=Zs h
 simp only[*,go_sem,seval]
 refine Zh h (fun i s st=>match s with | (d,e)=>IV [(0,yM (yR a)),(5,.p false [.row 0]),(6,.p false [.row 1]),(7,yM (.str u)),(23,yM (yR a)),(24,yL a.length),(25,yL i)] [.map .str .bool (A0 eSB d),.row 9 1 (A0 Zw e) 2] st) [] [0,130] yF yD ?_ ?_
 rintro B _ ⟨d,e⟩ ⟨sl,ob,n⟩ _ f v C h _
 simp only[go_sem,seval,Zc] at v
 obtain ⟨⟨D,_,_,_,_,_,_⟩,_,_,hn⟩:=v
 subst hn
 have E:=WF.slotL C D (j:=0) rfl
 have:=ZB f
 have:=ZC f
 have:=Zj (ZA f) E
 simp only[*,go_sem,seval]
 refine Za h fun _ F h=>Zb (ZgC F)<|yA ?_
 refine Za h fun _ G h=>Zb (QT G)<|yA ?_
 refine yB h (fun _ h=>?_) fun _ h=>?_
 refine Za h fun g H h=>Zb (ZnK H)<|yA ?_
 refine Zh h (fun i s st=>match s with | (k,l)=>IV [(0,yM (yR a)),(5,.p false [.row 0]),(6,.p false [.row 1]),(7,yM (.str u)),(23,yM (yR a)),(24,yL a.length),(25,yL B),(35,.p false [.row 2]),(36,yL g.length),(37,yL i)] [.map .str .bool (A0 eSB k),.row 9 1 (A0 Zw l) 2,.row 9 1 (A0 Zw g) 2] st) [] [0,1,178] yF yD ?_ ?_
 rintro _ _ ⟨k,l⟩ ⟨sl,ob,n⟩ _ m w I h _
 simp only[go_sem,seval,Zc] at w
 obtain ⟨⟨_,_,_,_,_,_,_,_,_,_⟩,_,_,J,hn⟩:=w
 subst hn
 have K:=WF.rowL I J
 have:=ZB m
 have:=ZC m
 have:=Zj (ZA m) K
 simp only[*,go_sem,seval]
 refine yB h (fun _ h=>?_) fun _ h=>?_
 exact yC h [] [0,1,2]
 obtain ⟨L,h⟩:=Zs h
 try simp only[Nat.reduceLeDiff] at L
 simp only[*,go_sem,seval]
 exact yC h [] [0,227,2]
 rintro ⟨k,l⟩ ⟨sl,ob,n⟩ x _ h
 simp only[go_sem,seval,Zc] at x
 obtain ⟨⟨_,_,_,_,_,_,_,_,_,_⟩,_,_,_,hn⟩:=x
 subst hn
 have:=Zz (g.length)
 simp only[*,go_sem,seval]
 exact yC h [] [0,1]
 exact yC h [] [0,1]
 rintro ⟨d,e⟩ ⟨sl,ob,n⟩ y _ h
 simp only[go_sem,seval,Zc] at y
 obtain ⟨⟨_,_,_,_,_,_,_⟩,_,_,hn⟩:=y
 subst hn
 have:=Zz (a.length)
 simp only[*,go_sem,seval]
 exact yC h [] [0,1]
 replace h:=Zo h z
 cases h;exact yD
theorem Zkz {l_0:(List Zg)} {r_1:Zg} {r:Bool} (h:ZaA l_0 r_1=some r):Zl prog J0 176 [(false,[.sl 144 3 (A0 ZL l_0)]),(true,ZL r_1)] [(false,[(false,.bool r)])]:=by
 refine fnk func176 rfl ?_
 unfold ZaA at h
 simp only[fnS,f176,Zm,go_sem,seval]
 refine Zh h (fun i _ st=>IV [(3,.bp 0 0),(7,yM (yV l_0)),(8,yL l_0.length),(9,yL i)] [yZ 144 (ZL r_1)] st) [] [0] yF yD ?_ ?_
 rintro _ _ ⟨⟩ ⟨sl,ob,n⟩ _ a b e h f
 simp only[go_sem,seval,Zc] at b
 obtain ⟨⟨_,g,_,_⟩,_,hn⟩:=b
 subst hn
 have k:=WF.slotL e g (j:=0) rfl
 have:=ZB a
 have:=ZC a
 have:=Zj (ZA a) k
 simp only[*,go_sem,seval]
 refine Za h fun _ l h=>Zb (Zjo l)<|yA ?_
 refine yB h (fun _ h=>?_) fun _ h=>?_
 replace h:=Zo h f
 cases h;exact yD
 exact yC h [] [0]
 rintro ⟨⟩ ⟨sl,ob,n⟩ d _ h
 simp only[go_sem,seval,Zc] at d
 obtain ⟨⟨_,_,_,_⟩,_,hn⟩:=d
 subst hn
 have:=Zz (l_0.length)
 cases h;exact yD
theorem Zjd {b_0:Zu} {r:(List Bool)} (h:ZdW b_0=some r):Zl prog J0 123 [(true,Qw b_0)] [(false,[(false,.sl 4 1 (A0 ZgO r))])]:=by
 refine fnk func123 rfl ?_
 unfold ZdW at h
 simp only[fnS,f123,Zm,go_sem,seval]
 refine Za h fun v1 f h=>Zb (Zpp f)<|yA ?_
 refine Zh h (fun i a st=>IV [(3,.p false [.row 0]),(7,.p false [.row 1]),(8,yL v1.length),(9,yL i)] [.row 4 1 (A0 ZgO a) 2,.row 3 1 (A0 Z5 v1) 2] st) [(false,3,0)] [112,64] yF yD ?_ ?_
 rintro _ _ a ⟨sl,ob,n⟩ _ b d g h _
 simp only[go_sem,seval,Zc] at d
 obtain ⟨⟨_,_,_,_⟩,_,j,hn⟩:=d
 subst hn
 have k:=WF.rowL g j
 have:=ZB b
 have:=ZC b
 have:=Zj (ZA b) k
 obtain ⟨l,h⟩:=Zs h
 try simp only[Nat.reduceLeDiff] at l
 simp only[*,go_sem,seval]
 exact yC h [] [130,1]
 rintro a ⟨sl,ob,n⟩ e _ h
 simp only[go_sem,seval,Zc] at e
 obtain ⟨⟨_,_,_,_⟩,_,_,hn⟩:=e
 subst hn
 have:=Zz (v1.length)
 cases h;exact yD
theorem ZfW {s_0:ByteArray} {r:Bool} (h:ZcY s_0=some r):Zl prog J0 148 [(false,[.str s_0])] [(false,[(false,.bool r)])]:=by
 refine fnk func148 rfl ?_
 unfold ZcY at h
 simp only[fnS,f148,Zm,go_sem,seval]
 refine Za h fun v1 a h=>Zb (XR a)<|yA ?_
 refine yB h (fun _ h=>?_) fun _ h=>?_
 obtain ⟨_,_,b,h⟩:=ZpV h
 try simp only[seval] at b
 simp only[*,go_sem,seval]
 refine Za h fun _ c h=>Zb (Zat c) ?_
 iterate 2 (cases h;exact yD)
theorem Qq {s_0:ByteArray} {r:Bool} (h:Zab s_0=some r):Zl prog J0 159 [(false,[.str s_0])] [(false,[(false,.bool r)])]:=by
 refine fnk func159 rfl ?_
 unfold Zab at h
 simp only[fnS,f159,Zm,go_sem,seval]
 refine yB h (fun _ h=>?_) fun _ h=>?_
 obtain ⟨_,_,a,h⟩:=ZpV h
 try simp only[seval] at a
 simp only[*,go_sem,seval]
 refine yB h (fun _ h=>?_) fun _ h=>?_
 obtain ⟨_,h⟩:=Zs h
 simp only[*,go_sem,seval]
 refine Za h fun _ b h=>Zb (XR b) ?_
 iterate 3 (cases h;exact yD)
theorem Zdr {a_0:ByteArray} {b_1:ByteArray} {r:Int} (h:Y0 a_0 b_1=some r):Zl prog J0 120 [(false,[.str a_0]),(false,[.str b_1])] [(false,[(false,.int .i64 r)])]:=by
 refine fnk func120 rfl ?_
 unfold Y0 at h
 simp only[fnS,f120,Zm,go_sem,seval]
 refine Za h fun v1 a h=>Zb (Zbv a)<|yA ?_
 refine Za h fun _ b h=>Zb (Zbv b)<|yA ?_
 iterate 3 refine yB h (fun _ h=>?_) fun _ h=>?_
 cases h;exact yD
 refine yB h (fun _ h=>?_) fun _ h=>?_
 iterate 3 (cases h;exact yD)
 refine yB h (fun _ h=>?_) fun _ h=>?_
 cases h;exact yD
 refine Za h fun _ c h=>Zb (Zkf c) ?_
 cases h;exact yD
theorem ZjQ {c_0:ZF} {list_1:(List ByteArray)} {r:(ByteArray × ZF)} (h:Zdx c_0 list_1=some r):ZaU prog J0 JF0 183 (.box 184 (Za7 c_0)) [(false,[.sl 9 1 (A0 Zw list_1)])] [(false,[(false,.str r.1)])] (.box 184 (Za7 r.2)):=by
 refine fnh func183 rfl ?_
 unfold Zdx at h
 have a:Z2 ⟨#[]⟩=true:=by decide
 simp only[fnH,f183,ZcO,ZcW,Y9,go_sem,seval,a]
 obtain ⟨v1,b,h⟩:=ZJ h
 refine QC (QS b) ?_
 obtain ⟨_,_,_,_,h⟩:=Zci h
 cases h;exact yD
theorem Zjm {a:(List Zf)} {String_1:ByteArray} {b:ByteArray} {r:Bool} (h:ZaO a String_1 b=some r):Zl prog J0 186 [(false,[.sl 104 4 (A0 ZG a)]),(false,[.str String_1]),(false,[.str b])] [(false,[(false,.bool r)])]:=by
 refine fnk func186 rfl ?_
 unfold ZaO at h
 simp only[fnS,f186,Zm,go_sem,seval]
 refine XH h (fun s st=>match s with | (m,e)=>IV [(0,yM (yR a)),(2,yM (.str b)),(7,.p false [.row 0]),(8,yM (.int .i64 e))] [.row 9 1 (A0 Zw m) 2] st) [] [32] yF yD ?_
 rintro ⟨m,e⟩ ⟨sl,ob,n⟩ _ o _ h q
 simp only[go_sem,seval,Zc] at o
 obtain ⟨⟨_,_,_,_⟩,_,hn⟩:=o
 subst hn
 simp only[*,go_sem,seval]
 refine yB h (fun _ h=>?_) fun _ h=>?_
 refine Zh h (fun i f st=>IV [(0,yM (yR a)),(2,yM (.str b)),(7,.p false [.row 0]),(8,yM (.int .i64 e)),(9,yL i)] [.row 9 1 (A0 Zw f) 2] st) [] [0] yF yD ?_ ?_
 rintro y _ f ⟨sl,ob,n⟩ _ g t z h A
 simp only[go_sem,seval,Zc] at t
 obtain ⟨⟨B,_,_,_,_⟩,_,hn⟩:=t
 subst hn
 have C:=WF.slotL z B (j:=0) rfl
 have:=ZB g
 have:=ZC g
 have:=Zj (ZA g) C
 simp only[*,go_sem,seval]
 refine Za h fun _ D h=>Zb (ZgL D) ?_
 obtain ⟨_,h⟩:=Zs h
 obtain ⟨_,_,h⟩:=ZJ h
 simp only[*,go_sem,seval]
 refine Za h fun _ E h=>Zb (Ym E)<|yA ?_
 refine yB h (fun _ h=>?_) fun _ h=>?_
 refine Za h fun u F h=>Zb (ZnN F)<|yA ?_
 refine Za h fun _ G h=>Zb (Ym G)<|yA ?_
 refine yB h (fun _ h=>?_) fun _ h=>?_
 replace h:=Zo h A
 replace h:=Zo h q
 cases h;exact yD
 refine Zh h (fun i k st=>IV [(0,yM (yR a)),(2,yM (.str b)),(7,.p false [.row 0]),(8,yM (.int .i64 e)),(9,yL y),(10,.p false [.row 1]),(11,yL i)] [.row 9 1 (A0 Zw k) 2,.row 9 1 (A0 Zw u) 2] st) [] [0,305] yF yD ?_ ?_
 rintro _ _ k ⟨sl,ob,n⟩ _ l v H h _
 simp only[go_sem,seval,Zc] at v
 obtain ⟨⟨_,_,_,_,_,_,_⟩,_,I,hn⟩:=v
 subst hn
 have J:=WF.rowL H I
 have:=ZB l
 have:=ZC l
 have:=Zj (ZA l) J
 simp only[*,go_sem,seval]
 refine Za h fun _ K h=>Zb (Ym K)<|yA ?_
 refine yB h (fun _ h=>?_) fun _ h=>?_
 exact yC h [] [0,1]
 obtain ⟨L,h⟩:=Zs h
 try simp only[Nat.reduceLeDiff] at L
 simp only[*,go_sem,seval]
 exact yC h [] [274,1]
 rintro k ⟨sl,ob,n⟩ w _ h
 simp only[go_sem,seval,Zc] at w
 obtain ⟨⟨_,_,_,_,_,_,_⟩,_,_,hn⟩:=w
 subst hn
 have:=Zz (u.length)
 simp only[*,go_sem,seval]
 exact yC h [] [0]
 exact yC h [] [0]
 rintro f ⟨sl,ob,n⟩ x _ h
 simp only[go_sem,seval,Zc] at x
 obtain ⟨⟨_,_,_,_,_⟩,_,hn⟩:=x
 subst hn
 have:=Zz (a.length)
 simp only[*,go_sem,seval]
 exact yC h [] [0]
 replace h:=Zo h q
 cases h;exact yD
theorem ZdO {l_0:(List Zd)} {r:(List Zd)} (h:Zak l_0=some r):Zl prog J0 113 [(false,[.sl 71 2 (A0 Zq l_0)])] [(false,[(false,.sl 71 2 (A0 Zq r))])]:=by
 refine fnk func113 rfl ?_
 unfold Zak at h
 simp only[fnS,f113,Zm,go_sem,seval]
 refine Zh h (fun i a st=>IV [(0,yM (yO l_0)),(3,.p false [.row 0]),(4,yL i)] [.row 71 2 (A0 Zq a) 2] st) [] [16] yF yD ?_ ?_
 rintro _ _ a ⟨sl,ob,n⟩ _ b d f h _
 simp only[go_sem,seval,Zc] at d
 obtain ⟨⟨g,_,_⟩,_,hn⟩:=d
 subst hn
 have k:=WF.slotL f g (j:=0) rfl
 have:=ZB b
 have:=ZC b
 have:=Zj (ZA b) k
 simp only[*,go_sem,seval]
 refine Za h fun _ l h=>Zb (Xr l) ?_
 obtain ⟨m,h⟩:=Zs h
 try simp only[Nat.reduceLeDiff] at m
 simp only[*,go_sem,seval]
 exact yC h [] [177]
 rintro a ⟨sl,ob,n⟩ e _ h
 simp only[go_sem,seval,Zc] at e
 obtain ⟨⟨_,_,_⟩,_,hn⟩:=e
 subst hn
 have:=Zz (l_0.length)
 cases h;exact yD
theorem ZgK {s_0:ByteArray} {r:Bool} (h:ZcE s_0=some r):Zl prog J0 163 [(false,[.str s_0])] [(false,[(false,.bool r)])]:=by
 refine fnk func163 rfl ?_
 unfold ZcE at h
 simp only[fnS,f163,Zm,go_sem,seval]
 refine Za h fun v1 a h=>Zb (Zbv a) ?_
 cases h;exact yD
end
section
theorem ZFm {l_0:(List Int)} {n_1:Int} {r:Bool} (h:ZD4 l_0 n_1=some r):Zl prog J0 302 [(false,[.sl 3 1 (A0 Z5 l_0)]),(false,[.int .i64 n_1])] [(false,[(false,.bool r)])]:=by
 refine fnk func302 rfl ?_
 unfold ZD4 at h
 simp only[fnS,f302,Zm,go_sem,seval]
 refine Zh h (fun i _ st=>IV [(0,yM (yQ l_0)),(1,yM (.int .i64 n_1)),(5,yL i)] [] st) [] [] yF yD ?_ ?_
 rintro _ _ ⟨⟩ ⟨sl,ob,n⟩ _ a b f h d
 simp only[go_sem,seval,Zc] at b
 obtain ⟨⟨g,_,_⟩,hn⟩:=b
 subst hn
 have k:=WF.slotL f g (j:=0) rfl
 have:=ZB a
 have:=ZC a
 have:=Zj (ZA a) k
 simp only[*,go_sem,seval]
 refine Za h fun _ l h=>Zb (Zat l)<|yA ?_
 iterate 2 refine yB h (fun _ h=>?_) fun _ h=>?_
 obtain ⟨_,_,_,_,h⟩:=Zci h
 simp only[*,go_sem,seval]
 refine yB h (fun _ h=>?_) fun _ h=>?_
 replace h:=Zo h d
 cases h;exact yD
 exact yC h [] []
 exact yC h [] []
 replace h:=Zo h d
 cases h;exact yD
 rintro ⟨⟩ ⟨sl,ob,n⟩ e _ h
 simp only[go_sem,seval,Zc] at e
 obtain ⟨⟨_,_,_⟩,hn⟩:=e
 subst hn
 have:=Zz (l_0.length)
 cases h;exact yD
theorem ZGl {a:Zu} {String_1:Int} {r:(List Bool)} (h:ZEk a String_1=some r):Zl prog J0 290 [(true,Qw a),(false,[.int .i64 String_1])] [(false,[(false,.sl 4 1 (A0 ZgO r))])]:=by
 refine fnk func290 rfl ?_
 unfold ZEk at h
 simp only[fnS,f290,Zm,go_sem,seval]
 obtain ⟨_,h⟩:=Zs h
 simp only[*,go_sem,seval]
 refine XH h (fun s st=>match s with | (l,m,d)=>IV [(2,.bp 0 0),(5,.p false [.row 1]),(6,.p false [.row 2]),(7,yM (.int .i64 d))] [.box 91 [.c (.int .i64 a.nodes),.c (yV a.reasons)],.row 4 1 (A0 ZgO l) 2,.row 3 1 (A0 Z5 m) 2] st) [] [0,64,112] yF yD ?_
 rintro ⟨l,m,d⟩ ⟨sl,ob,n⟩ _ o _ h z
 simp only[go_sem,seval,Zc] at o
 obtain ⟨⟨_,_,_,_⟩,_,_,_,hn⟩:=o
 subst hn
 simp only[*,go_sem,seval]
 refine yB h (fun _ h=>?_) fun _ h=>?_
 refine Zh h (fun i s st=>match s with | (e,f)=>IV [(2,.bp 0 0),(5,.p false [.row 1]),(6,.p false [.row 2]),(7,yM (.int .i64 d)),(8,yL i)] [.box 91 [.c (.int .i64 a.nodes),.c (yV a.reasons)],.row 4 1 (A0 ZgO e) 2,.row 3 1 (A0 Z5 f) 2] st) [] [0,1,2] yF yD ?_ ?_
 rintro A q ⟨e,f⟩ ⟨sl,ob,n⟩ _ g t B h _
 simp only[go_sem,seval,Zc] at t
 obtain ⟨⟨_,_,_,_,_⟩,C,_,_,hn⟩:=t
 subst hn
 have D:=WF.boxL B C (j:=1) rfl
 have:=ZB g
 have:=ZC g
 have:=Zj (ZA g) D
 obtain ⟨_,h⟩:=Zs h
 obtain ⟨_,_,h⟩:=ZJ h
 simp only[*,go_sem,seval]
 refine yB h (fun _ h=>?_) fun _ h=>?_
 exact yC h [] [0,1,2]
 refine Za h fun u E h=>Zb (ZHf E) ?_
 obtain ⟨_,h⟩:=Zs h
 simp only[*,go_sem,seval]
 refine XH h (fun s st=>match s with | (v,w,k)=>IV [(2,.bp 0 0),(5,.p false [.row 1]),(6,.p false [.row 2]),(7,yM (.int .i64 d)),(8,yL A),(9,.p false [.row 3]),(10,yM (.int .i64 k))] [.box 91 [.c (.int .i64 a.nodes),.c (yV a.reasons)],.row 4 1 (A0 ZgO v) 2,.row 3 1 (A0 Z5 w) 2,.row 3 1 (A0 Z5 (u++q.outs)) 2] st) [] [0,1,2,467] yF yD ?_
 rintro ⟨v,w,k⟩ ⟨sl,ob,n⟩ _ x _ h F
 simp only[go_sem,seval,Zc] at x
 obtain ⟨⟨_,_,_,_,_,_,_⟩,_,_,_,_,hn⟩:=x
 subst hn
 simp only[*,go_sem,seval]
 refine yB h (fun _ h=>?_) fun _ h=>?_
 obtain ⟨_,h⟩:=Zs h
 obtain ⟨G,H,h⟩:=ZJ h
 have J:(A0 Z5 u++A0 Z5 q.outs)[(Int.toNat k)]?=some (Z5 G):=by rw [←List.map_append,AJ,H];rfl
 obtain ⟨_,h⟩:=Zs h
 obtain ⟨_,_,h⟩:=ZJ h
 simp only[*,go_sem,seval]
 refine yB h (fun _ h=>?_) fun _ h=>?_
 exact yC h [] [0,1,2,3]
 obtain ⟨I,h⟩:=Zs h
 try simp only[Nat.reduceLeDiff] at I
 simp only[*,go_sem,seval]
 exact yC h [] [0,1,404,3]
 replace h:=Zo h F
 exact yC h [] [0,1,2]
 rintro ⟨e,f⟩ ⟨sl,ob,n⟩ y _ h
 simp only[go_sem,seval,Zc] at y
 obtain ⟨⟨_,_,_,_,_⟩,_,_,_,hn⟩:=y
 subst hn
 have:=Zz (a.reasons.length)
 simp only[*,go_sem,seval]
 exact yC h [] [0,1,2]
 replace h:=Zo h z
 cases h;exact yD
theorem ZE2 {b:Zu} {e:(List Int)} {f:Int} {d:(List Int)} {g:Int} {r:(List Int)} (h:ZD5 b e f d g=some r):Zl prog J0 267 [(true,Qw b),(false,[.sl 3 1 (A0 Z5 e)]),(false,[.int .i64 f]),(false,[.sl 3 1 (A0 Z5 d)]),(false,[.int .i64 g])] [(false,[(false,.sl 3 1 (A0 Z5 r))])]:=by
 refine fnk func267 rfl ?_
 unfold ZD5 at h
 simp only[fnS,f267,Zm,go_sem,seval]
 refine XH h (fun s st=>match s with | (l,k)=>IV [(1,yM (yQ e)),(2,yM (.int .i64 f)),(3,yM (yQ d)),(4,yM (.int .i64 g)),(5,.bp 0 0),(11,.p false [.row 1]),(12,yM (.int .i64 k))] [.box 91 [.c (.int .i64 b.nodes),.c (yV b.reasons)],.row 3 1 (A0 Z5 l) 2] st) [] [0,32] yF yD ?_
 rintro ⟨l,k⟩ ⟨sl,ob,n⟩ _ o _ h v
 simp only[go_sem,seval,Zc] at o
 obtain ⟨⟨_,_,_,_,_,_,_⟩,_,_,hn⟩:=o
 subst hn
 simp only[*,go_sem,seval]
 refine yB h (fun _ h=>?_) fun _ h=>?_
 obtain ⟨_,_,_,_,h⟩:=Zci h
 simp only[*,go_sem,seval]
 refine yB h (fun _ h=>?_) fun _ h=>?_
 exact yC h [] [0,1]
 obtain ⟨q,_,_,_,h⟩:=Zci h
 simp only[*,go_sem,seval]
 refine yB h (fun _ h=>?_) fun _ h=>?_
 exact yC h [] [0,1]
 refine Zh h (fun i _ st=>IV [(1,yM (yQ e)),(2,yM (.int .i64 f)),(3,yM (yQ d)),(4,yM (.int .i64 g)),(5,.bp 0 0),(11,.p false [.row 1]),(12,yM (.int .i64 k)),(13,yL i),(29,yM (yQ d)),(30,yM (.int .i64 k)),(32,yM (.int .i64 q)),(33,yM (.bool (decide (0≤q))))] [.box 91 [.c (.int .i64 b.nodes),.c (yV b.reasons)],.row 3 1 (A0 Z5 l) 2] st) [] [0,1] yF yD ?_ ?_
 rintro _ _ ⟨⟩ ⟨sl,ob,n⟩ _ m t w h x
 simp only[go_sem,seval,Zc] at t
 obtain ⟨⟨_,_,_,_,_,_,_,_,_,_,_,_⟩,y,_,hn⟩:=t
 subst hn
 have z:=WF.boxL w y (j:=1) rfl
 have:=ZB m
 have:=ZC m
 have:=Zj (ZA m) z
 simp only[*,go_sem,seval]
 refine yB h (fun _ h=>?_) fun _ h=>?_
 refine Za h fun _ A h=>Zb (ZEO A)<|yA ?_
 refine yB h (fun _ h=>?_) fun _ h=>?_
 refine Za h fun _ B h=>Zb (ZFh B)<|yA ?_
 refine yB h (fun _ h=>?_) fun _ h=>?_
 obtain ⟨C,h⟩:=Zs h
 try simp only[Nat.reduceLeDiff] at C
 replace h:=Zo h x
 simp only[*,go_sem,seval]
 exact yC h [] [0,514]
 exact yC h [] [0,1]
 exact yC h [] [0,1]
 exact yC h [] [0,1]
 rintro ⟨⟩ ⟨sl,ob,n⟩ u _ h
 simp only[go_sem,seval,Zc] at u
 obtain ⟨⟨_,_,_,_,_,_,_,_,_,_,_,_⟩,_,_,hn⟩:=u
 subst hn
 have:=Zz (b.reasons.length)
 simp only[*,go_sem,seval]
 exact yC h [] [0,1]
 replace h:=Zo h v
 cases h;exact yD
theorem Zkn {b_0:Zu} {r:Bool} (h:ZbW b_0=some r):Zl prog J0 124 [(true,Qw b_0)] [(false,[(false,.bool r)])]:=by
 refine fnk func124 rfl ?_
 unfold ZbW at h
 simp only[fnS,f124,Zm,go_sem,seval]
 iterate 3 ((refine Ze h (fun _ h=>?_) fun _ h=>?_<;>try simp only[*,go_sem,seval]);cases h;simp only[*,go_sem,seval])
 refine Zh h (fun i _ st=>IV [(1,.bp 0 0),(20,yM (yV b_0.reasons)),(21,yL b_0.reasons.length),(22,yL i)] [.box 91 [.c (.int .i64 b_0.nodes),.c (yV b_0.reasons)]] st) [] [0] yF yD ?_ ?_
 rintro _ _ ⟨⟩ ⟨sl,ob,n⟩ _ a d f h b
 simp only[go_sem,seval,Zc] at d
 obtain ⟨⟨_,g,_,_⟩,_,hn⟩:=d
 subst hn
 have k:=WF.slotL f g (j:=0) rfl
 have:=ZB a
 have:=ZC a
 have:=Zj (ZA a) k
 simp only[*,go_sem,seval]
 refine yB h (fun _ h=>?_) fun _ h=>?_
 replace h:=Zo h b
 cases h;exact yD
 refine yB h (fun _ h=>?_) fun _ h=>?_
 replace h:=Zo h b
 cases h;exact yD
 refine Za h fun _ l h=>Zb (Zch l)<|yA ?_
 refine yB h (fun _ h=>?_) fun _ h=>?_
 refine Za h fun _ m h=>Zb (Zch m)<|yA ?_
 refine yB h (fun _ h=>?_) fun _ h=>?_
 refine ⟨_,[],[0],(A3 h).symm,yF,?_⟩
 iterate 2 (simp only[*,go_sem,seval];replace h:=Zo h b;cases h)
 simp only[*,go_sem,seval]
 rintro ⟨⟩ ⟨sl,ob,n⟩ e _ h
 simp only[go_sem,seval,Zc] at e
 obtain ⟨⟨_,_,_,_⟩,_,hn⟩:=e
 subst hn
 have:=Zz (b_0.reasons.length)
 cases h;exact yD
theorem ZGZ {b_0:Zu} {rounds_1:(List Int)} {x_2:Int} {r:Int} (h:ZDN b_0 rounds_1 x_2=some r):Zl prog J0 240 [(true,Qw b_0),(false,[.sl 3 1 (A0 Z5 rounds_1)]),(false,[.int .i64 x_2])] [(false,[(false,.int .i64 r)])]:=by
 refine fnk func240 rfl ?_
 unfold ZDN at h
 simp only[fnS,f240,Zm,go_sem,seval]
 iterate 2 ((refine Ze h (fun _ h=>?_) fun _ h=>?_<;>try simp only[*,go_sem,seval]);cases h;simp only[*,go_sem,seval])
 obtain ⟨_,_,_,_,h⟩:=Zci h
 simp only[*,go_sem,seval]
 refine yB h (fun _ h=>?_) fun _ h=>?_
 cases h;exact yD
 refine Zh h (fun i _ st=>IV [(1,yM (yQ rounds_1)),(2,yM (.int .i64 x_2)),(25,yM (yV b_0.reasons)),(26,yL b_0.reasons.length),(27,yL i)] [] st) [] [] yF yD ?_ ?_
 rintro _ _ ⟨⟩ ⟨sl,ob,n⟩ _ a b e h f
 simp only[go_sem,seval,Zc] at b
 obtain ⟨⟨_,_,g,_,_⟩,hn⟩:=b
 subst hn
 have k:=WF.slotL e g (j:=0) rfl
 have:=ZB a
 have:=ZC a
 have:=Zj (ZA a) k
 simp only[*,go_sem,seval]
 refine yB h (fun _ h=>?_) fun _ h=>?_
 refine Za h fun _ l h=>Zb (Zkh l)<|yA ?_
 refine yB h (fun _ h=>?_) fun _ h=>?_
 replace h:=Zo h f
 cases h;exact yD
 exact yC h [] []
 exact yC h [] []
 rintro ⟨⟩ ⟨sl,ob,n⟩ d _ h
 simp only[go_sem,seval,Zc] at d
 obtain ⟨⟨_,_,_,_,_⟩,hn⟩:=d
 subst hn
 have:=Zz (b_0.reasons.length)
 cases h;exact yD
end
section
open Go.RowKit
structure Enc {α:Type} (c:ZaE α) (f:α→List CT):Prop where
 to:∀{w:World} {cs:List Value} {x:α} {L:List Nat},c.rep w cs x L→RCs w (f x) cs L
 of:∀{w:World} {cs:List Value} {x:α} {L:List Nat},RCs w (f x) cs L→c.rep w cs x L
section
variable {α:Type} {c:ZaE α} {f:α→List CT} {w:World}
theorem Enc.reps (h:Enc c f):∀{ds:List α} {xs:List Value} {L:List Nat},c.reps w xs ds L→REs w c.size (ds.map f) xs L
 | [],_,_,h1=>h1
 | _::_,_,_,⟨c1,c2,L1,L2,h1,h2,h3,h4⟩=>⟨c1,c2,L1,L2,h1,h2,⟨h.to h3,c.len h3⟩,h.reps h4⟩
theorem Enc.reps_of (h:Enc c f):∀{ds:List α} {xs:List Value} {L:List Nat},REs w c.size (ds.map f) xs L→c.reps w xs ds L
 | [],_,_,h1=>h1
 | _::_,_,_,⟨c1,c2,L1,L2,h1,h2,h3,h4⟩=>⟨c1,c2,L1,L2,h1,h2,h.of h3.1,h.reps_of h4⟩
theorem Enc.sl (h:Enc c f) (e:Nat) {v:Value} {ds:List α} {L:List Nat}:(ZfI c).rep w [v] ds L↔RC w (.sl e c.size (ds.map f)) v L:=by
 constructor
 ·rintro ⟨A,cap,hv,h1,h2,xs,L0,L1,hL,h3,h4⟩
  obtain rfl:v=_:=by simpa using hv
  exact ⟨A,cap,xs,L0,L1,yG,by simpa using h1,h2,hL,c.pos,by simpa using h3,h.reps h4⟩
 ·rintro ⟨A,cap,xs,L0,L1,hv,h1,h2,hL,h0,h3,h4⟩
  exact ⟨A,cap,by simpa using hv,by simpa using h1,h2,xs,L0,L1,hL,by simpa using h3,h.reps_of h4⟩
theorem RCs.solo {x:CT} {v:Value} {L:List Nat} (h:RC w x v L):RCs w [x] [v] L:=⟨v,[],L,[],rfl,by simp,h,rfl,rfl⟩
theorem RCs.more {x:CT} {v:Value} {L M:List Nat} {r:List CT} {cs:List Value} (h:RC w x v L) (k:RCs w r cs M):RCs w (x::r) (v::cs) (L++M):=⟨v,cs,L,M,rfl,rfl,h,k⟩
theorem Enc.slice (h:Enc c f) (e:Nat):Enc (ZfI c) (fun l=>[.sl e c.size (l.map f)]) where
 to:=fun {w cs x L} hr=>by
  obtain ⟨A,cap,rfl,h1⟩:=id hr
  exact RCs.solo ((h.sl e).1 hr)
 of:=fun {w cs x L} hr=>by
  obtain ⟨v,cs',L1,L2,rfl,rfl,h1,rfl,rfl⟩:=hr
  rw [A7]
  exact (h.sl e).2 h1
end
theorem Zng:Enc Zqc Z5 where
 to:=fun ⟨h1,h2⟩=>by subst h1;subst h2;exact RCs.solo ⟨rfl,rfl⟩
 of:=fun ⟨v,cs',L1,L2,h1,h2,h3,h4,h5⟩=>by
  obtain ⟨rfl,rfl⟩:=h3
  subst h4;subst h5;exact ⟨h1,h2⟩
theorem ZvS:Enc ZtW Zek where
 to:=fun ⟨h1,h2⟩=>by subst h1;subst h2;exact RCs.solo ⟨rfl,rfl⟩
 of:=fun ⟨v,cs',L1,L2,h1,h2,h3,h4,h5⟩=>by
  obtain ⟨rfl,rfl⟩:=h3
  subst h4;subst h5;exact ⟨h1,h2⟩
theorem ZvR:Enc Zq1 ZgO where
 to:=fun ⟨h1,h2⟩=>by subst h1;subst h2;exact RCs.solo ⟨rfl,rfl⟩
 of:=fun ⟨v,cs',L1,L2,h1,h2,h3,h4,h5⟩=>by
  obtain ⟨rfl,rfl⟩:=h3
  subst h4;subst h5;exact ⟨h1,h2⟩
theorem encStr:Enc ZCD Zw where
 to:=fun ⟨h1,h2,h3⟩=>by subst h1;subst h2;exact RCs.solo ⟨rfl,rfl,h3⟩
 of:=fun ⟨v,cs',L1,L2,h1,h2,h3,h4,h5⟩=>by
  obtain ⟨rfl,rfl,t⟩:=h3
  subst h4;subst h5;exact ⟨h1,h2,t⟩
def ZAg (w:World):Bool × List CT→Value→Prop:=Zjv w fun _=>False
theorem ZzU {α:Type} {c:ZaE α} {f:α→List CT} (h:Enc c f) (e:Nat) {w:World} {v:Value} {ds:List α} {L:List Nat} (hr:(ZfI c).rep w [v] ds L):ZAg w (false,[.sl e c.size (ds.map f)]) v:=.inr ⟨rfl,_,L,rfl,(h.sl e).1 hr,fun _ _ h=>h⟩
theorem ZFT (w:World) (n:Int):ZAg w (false,[.int .i64 n]) (.int .i64 n):=.inr ⟨rfl,_,[],rfl,⟨rfl,rfl⟩,fun _ _ h=>h⟩
theorem ZEU {α:Type} {c:ZaE α} {f:α→List CT} (h:Enc c f) {w:World} {vs:List Value} {x:α} {L:List Nat} (hr:c.rep w vs x L):ZAg w (true,f x) (.agg vs.toArray):=.inl ⟨rfl,vs,L,rfl,h.to hr,fun _ _ h=>h⟩
section
variable {w w':World} {v:Value} {e:Ending}
theorem ZuI {B:Nat} {n:Nat→Prop} {x:RT} (h:Ziy w B n [x] v):∃F,OP w B n x v F∧Own w B F:=by
 obtain ⟨vs,F,⟨u,vs',F1,F2,rfl,rfl,h1,rfl,rfl⟩,h2,rfl⟩:=h
 rw [A7] at h2
 exact ⟨F1,by simpa using h1,h2⟩
theorem ZIC {α:Type} {c:ZaE α} {f:α→List CT} (h:Enc c f) {t:Nat} {ds:List α} {n:Nat→Prop} (hr:Ziy w' w.heap.size n [(false,[(false,.sl t c.size (ds.map f))])] v) (hb:Below w.heap.size w w'):ZGN c t w v ds w':=by
 obtain ⟨F,h1,h2⟩:=ZuI hr
 rcases h1 with ⟨h1,_⟩ | ⟨_,ct,h1,h3⟩
 ·simp at h1
 ·obtain rfl:_=ct:=by simpa using h1
  obtain ⟨_,cs,L,h4,h5,rfl,_⟩:=h3
  exact ⟨⟨cs,L,by simpa using h4,h.reps_of h5,h2⟩,hb⟩
theorem ZIG {n:Int} {B:Nat} {m:Nat→Prop} (hr:Ziy w B m [(false,[(false,.int .i64 n)])] v):v=.int .i64 n:=by
 obtain ⟨F,h1,h2⟩:=ZuI hr
 rcases h1 with ⟨h1,_⟩ | ⟨_,ct,h1,h3⟩
 ·simp at h1
 ·obtain rfl:_=ct:=by simpa using h1
  exact h3.1.1
theorem Ztf {b:Bool} {B:Nat} {m:Nat→Prop} (hr:Ziy w B m [(false,[(false,.bool b)])] v):v=.bool b:=by
 obtain ⟨F,h1,h2⟩:=ZuI hr
 rcases h1 with ⟨h1,_⟩ | ⟨_,ct,h1,h3⟩
 ·simp at h1
 ·obtain rfl:_=ct:=by simpa using h1
  exact h3.1.1
end
section
variable {P:Program} {J:World→Prop} {f:FuncId} {args:List (Bool × List CT)} {res:List RT}
theorem Zl.calls (h:Zl P J f args res) {w:World} {vs:List Value} (hj:J w) (ha:ZH (ZAg w) args vs):Calls P f vs.toArray w fun e w'=>∃v n,e=.returned v∧Ziy w' w.heap.size n res v∧Below w.heap.size w w':=
 (h.2 w (fun _=>False) vs hj (fun _ h=>h.elim) ha).mono fun _ _ ⟨v,n,h1,h2,_,h3⟩=>⟨v,n,h1,h2,h3⟩
theorem Zl.givesS {α:Type} {c:ZaE α} {g:α→List CT} {t:Nat} {ds:List α} (h:Zl P J f args [(false,[(false,.sl t c.size (ds.map g))])]) (hg:Enc c g) {w:World} {vs:List Value} (hj:J w) (ha:ZH (ZAg w) args vs):Calls P f vs.toArray w (ZEC c t w ds):=
 (h.calls hj ha).mono fun _ _ ⟨v,_,h1,h2,h3⟩=>⟨v,h1,ZIC hg h2 h3⟩
theorem Zl.givesB {b:Bool} (h:Zl P J f args [(false,[(false,.bool b)])]) {w:World} {vs:List Value} (hj:J w) (ha:ZH (ZAg w) args vs):Calls P f vs.toArray w fun e w'=>e=.returned (.bool b)∧Below w.heap.size w w':=
 (h.calls hj ha).mono fun _ _ ⟨v,_,h1,h2,h3⟩=>⟨by rw [h1,Ztf h2],h3⟩
theorem Zl.givesI {b:Int} (h:Zl P J f args [(false,[(false,.int .i64 b)])]) {w:World} {vs:List Value} (hj:J w) (ha:ZH (ZAg w) args vs):Calls P f vs.toArray w fun e w'=>e=.returned (.int .i64 b)∧Below w.heap.size w w':=
 (h.calls hj ha).mono fun _ _ ⟨v,_,h1,h2,h3⟩=>⟨by rw [h1,ZIG h2],h3⟩
end
end
theorem Zna:Enc ZnO ZL where
 to:=fun {w cs x L} h=>by
  obtain ⟨A1,c1,L1,A2,c2,L2,rfl,rfl,n1,m1,s1,n2,m2,s2⟩:=h
  have hh:RCs w (ZL x) _ _:=RCs.more ⟨rfl,rfl⟩ (RCs.more ((Zng.sl 3).1 ⟨A1,c1,rfl,n1,m1,s1⟩) (RCs.solo ((Zng.sl 3).1 ⟨A2,c2,rfl,n2,m2,s2⟩)))
  simpa only [AB,A7,AC] using hh
 of:=fun {w cs x L} h=>by
  obtain ⟨v0,r0,K0,M0,rfl,rfl,h0,v1,r1,K1,M1,rfl,rfl,h1,v2,r2,K2,M2,rfl,rfl,h2,rfl,rfl⟩:=h
  obtain ⟨rfl,rfl⟩:=h0
  obtain ⟨A1,c1,e1,n1,m1,s1⟩:=(Zng.sl 3).2 h1
  cases e1
  obtain ⟨A2,c2,e2,n2,m2,s2⟩:=(Zng.sl 3).2 h2
  cases e2
  exact ⟨A1,c1,_,A2,c2,_,rfl,by simp only[AB,A7,AC],n1,m1,s1,n2,m2,s2⟩
theorem Zqn:Enc ZoR Qw where
 to:=fun {w cs x L} h=>by
  obtain ⟨A1,c1,L1,rfl,rfl,n1,m1,s1⟩:=h
  have hh:RCs w (Qw x) _ _:=RCs.more ⟨rfl,rfl⟩ (RCs.solo ((Zna.sl 144).1 ⟨A1,c1,rfl,n1,m1,s1⟩))
  simpa only [AB,A7,AC] using hh
 of:=fun {w cs x L} h=>by
  obtain ⟨v0,r0,K0,M0,rfl,rfl,h0,v1,r1,K1,M1,rfl,rfl,h1,rfl,rfl⟩:=h
  obtain ⟨rfl,rfl⟩:=h0
  obtain ⟨A1,c1,e1,n1,m1,s1⟩:=(Zna.sl 144).2 h1
  cases e1
  exact ⟨A1,c1,_,rfl,by simp only[AB,A7,AC],n1,m1,s1⟩
section
open Go.RowKit
structure ZoU (w wr:World) (n r:Nat):Prop where
 below:Below w.heap.size w wr
 size:wr.heap.size=w.heap.size+1+r
 top:wr.rowIs w.heap.size 94 n (fun j=>if j<r then .slice (some ⟨w.heap.size+1+j,0,none⟩) n n else .slice none 0 0)
 row:∀j,j<r→wr.rowIs (w.heap.size+1+j) 4 n (fun _=>.bool false)
structure Qf (w wr:World) (n:Nat) (d:List (List Bool)):Prop where
 below:Below w.heap.size w wr
 size:w.heap.size+1+n≤wr.heap.size
 top:wr.rowIs w.heap.size 94 n (fun j=>.slice (some ⟨w.heap.size+1+j,0,none⟩) n n)
 row:∀j,j<n→wr.rowIs (w.heap.size+1+j) 4 n (fun c=>.bool (Zb9 d j c))
 sq:SqM n d
theorem Zqz (w:World) (n:Nat):ZoU w (w.alloc (.cells (madeCells #[.slice none 0 0] n) 94)) n 0:=
 ⟨(Below.refl _ w).alloc (A9 _) _,yG,(World.rowIs_made w _ n 94).congr (fun j _=>by simp),fun j hj=>absurd hj (Nat.not_lt_zero _)⟩
theorem ZoU.next {w wr:World} {n r:Nat} (h:ZoU w wr n r):ZoU w ((wr.alloc (.cells (madeCells #[.bool false] n) 4)).setCell ⟨w.heap.size,r,none⟩ (.slice (some ⟨wr.heap.size,0,none⟩) n n)) n (r+1):=by
 have a:=World.rowIs_made wr (.bool false) n 4
 rw [h.size] at a ⊢
 refine ⟨(h.below.alloc (by rw [h.size];omega) _).setCell (A9 _) _,by simp [h.size];omega,((h.top.alloc _).set r _).congr (fun j _=>?_),fun j hj=>?_⟩
 ·by_cases e:j=r
  ·subst e;simp
  ·rw [if_neg e]
   by_cases b:j<r
   ·rw [if_pos b,if_pos yE]
   ·rw [if_neg b,if_neg yE]
 ·by_cases e:j=r
  ·subst e
   exact a.setOther (by show w.heap.size+1+j≠w.heap.size;omega) _
  ·exact ((h.row j yE).alloc _).setOther (by show w.heap.size+1+j≠w.heap.size;omega) _
theorem Zsi (n i j:Nat):Zb9 (A4 n (A4 n false)) i j=false:=by
 unfold Zb9
 rw [AK]
 split
 ·rename_i r e
  split at e
  ·simp at e;subst e
   rw [AK]
   split
   ·rename_i v e2
    split at e2
    ·simp at e2;exact e2
    ·simp at e2
   ·rfl
  ·simp at e
 ·rfl
theorem ZoU.done {w wr:World} {n:Nat} (h:ZoU w wr n n):Qf w wr n (A4 n (A4 n false)):=
 ⟨h.below,by rw [h.size];omega,h.top.congr (fun j hj=>by rw [if_pos hj]),fun j hj=>(h.row j hj).congr (fun c _=>by rw [Zsi]),SqM.new n⟩
theorem Qf.later {w wr w':World} {n:Nat} {d:List (List Bool)} (h:Qf w wr n d) (hb:Below wr.heap.size wr w'):Qf w w' n d:=
 ⟨h.below.trans (hb.mono h.below.size),AE h.size hb.size,h.top.of_block (hb.block _ h.top.lt),fun j hj=>(h.row j hj).of_block (hb.block _ (h.row j hj).lt),h.sq⟩
theorem Qf.set {w wr:World} {n:Nat} {d:List (List Bool)} (h:Qf w wr n d) {i j:Nat} (hi:i<n) (hj:j<n) (v:Bool):Qf w (wr.setCell ⟨w.heap.size+1+i,j,none⟩ (.bool v)) n (Zjq d i j v):=by
 refine ⟨h.below.setCell (by show w.heap.size≤w.heap.size+1+i;omega) _,by simpa using h.size,h.top.setOther (by show w.heap.size≠w.heap.size+1+i;omega) _,fun q hq=>?_,h.sq.set i j v⟩
 by_cases e:q=i
 ·subst e
  refine ((h.row q hq).set j (.bool v)).congr (fun c hc=>?_)
  rw [Zny h.sq hi hj]
  by_cases e2:c=j
  ·rw [if_pos e2,if_pos ⟨rfl,e2⟩]
  ·rw [if_neg e2,if_neg (fun hh=>e2 hh.2)]
 ·refine ((h.row q hq).setOther (by show w.heap.size+1+q≠w.heap.size+1+i;omega) _).congr (fun c _=>?_)
  rw [Zny h.sq hi hj,if_neg (fun hh=>e hh.1)]
theorem Qf.drew {w wr:World} {n:Nat} {d:List (List Bool)} (h:Qf w wr n d):Qf w wr.drew n d:=⟨h.below.drew,h.size,h.top.drew,fun j hj=>(h.row j hj).drew,h.sq⟩
theorem Zmb {w:World} {b t n:Nat} {f:Nat→Value} {xs:List Value} (h:w.rowIs b t n f) (hx:xs.length=n) (he:∀i,i<n→xs[i]?=some (f i)):∃L,Sl w 1 (some ⟨b,0,none⟩) n xs L∧∀y∈L,y=b:=by
 by_cases hn:n=0
 ·subst hn
  exact ⟨[],⟨by simpa using hx,.inl ⟨rfl,rfl⟩⟩,yG⟩
 ·refine ⟨[b],⟨by simpa using hx,.inr ⟨yE,b,0,rfl,rfl,fun j u hu=>?_⟩⟩,yG⟩
  have hj:j<n:=by rw [←hx];exact (AF.1 hu).1
  rw [he j hj] at hu
  obtain rfl:=A3 hu
  rw [Nat.zero_add]
  exact h.cell hj
theorem ZjP (w:World):∀l:List Bool,Zq1.reps w (l.map Value.bool) l []
 | []=>⟨rfl,rfl⟩
 | x::l=>⟨[.bool x],l.map Value.bool,[],[],rfl,rfl,⟨rfl,rfl⟩,ZjP w l⟩
theorem Zrg {α:Type} {c:ZaE α} {w:World} {B:Nat}:∀{ds:List α} {cells:List Value},cells.length=ds.length→(∀(i:Nat) (d:α) (v:Value),ds[i]?=some d→cells[i]?=some v→∃L,c.rep w [v] d L∧∀y∈L,B≤y)→∃L,c.reps w cells ds L∧∀y∈L,B≤y
 | [],cells,hl,_=>⟨[],⟨List.eq_nil_of_length_eq_zero hl,rfl⟩,yG⟩
 | d::ds,[],hl,_=>by simp at hl
 | d::ds,v::cells,hl,h=>by
  obtain ⟨L1,h1,g1⟩:=h 0 d v rfl rfl
  obtain ⟨L2,h2,g2⟩:=Zrg (ds:=ds) (cells:=cells) (by simpa using hl) (fun i e u he hu=>h (i+1) e u (by simpa using he) (by simpa using hu))
  refine ⟨L1++L2,⟨[v],cells,L1,L2,rfl,rfl,h1,h2⟩,fun y my=>?_⟩
  rcases AL.1 my with m | m
  ·exact g1 y m
  ·exact g2 y m
theorem Qf.rep {w wr:World} {n:Nat} {d:List (List Bool)} (h:Qf w wr n d) (hn:n≤24):∃L,(ZfI (ZfI Zq1)).rep wr [.slice (some ⟨w.heap.size,0,none⟩) n n] d L∧∀y∈L,w.heap.size≤y:=by
 have hd:=h.sq.len
 obtain ⟨L0,hs,b⟩:=Zmb (xs:=(List.range n).map fun j=>.slice (some ⟨w.heap.size+1+j,0,none⟩) n n) h.top yG (fun i hi=>by simp [hi])
 obtain ⟨L1,hr,e⟩:=Zrg (c:=ZfI Zq1) (w:=wr) (B:=w.heap.size) (ds:=d) (cells:=(List.range n).map fun j=>.slice (some ⟨w.heap.size+1+j,0,none⟩) n n) (by simp [hd]) (fun i r v hr hv=>by
  have hi:i<n:=by rw [←hd];exact (AF.1 hr).1
  have a:r.length=n:=h.sq.row r (AM hr)
  have f:v=.slice (some ⟨w.heap.size+1+i,0,none⟩) n n:=by simp [hi] at hv;exact hv.symm
  subst f
  obtain ⟨L,hl,hL⟩:=Zmb (xs:=r.map Value.bool) (h.row i hi) (by simp [a]) (fun j hj=>by
   have g:j<r.length:=by omega
   unfold Zb9
   rw [hr]
   simp only
   rw [AJ,AA g]
   rfl)
  refine ⟨L++[],⟨some ⟨w.heap.size+1+i,0,none⟩,n,by rw [a],yE,by unfold maxLen;omega,r.map Value.bool,L,[],rfl,by rw [a];exact hl,ZjP wr r⟩,fun y my=>?_⟩
  rw [A7] at my
  rw [hL y my];omega)
 refine ⟨L0++L1,⟨some ⟨w.heap.size,0,none⟩,n,by rw [hd],yE,by unfold maxLen;omega,_,L0,L1,rfl,by rw [hd];exact hs,hr⟩,fun y my=>?_⟩
 rcases AL.1 my with m | m
 ·rw [b y m];exact A9 _
 ·exact e y m
end
section
open Go.RowKit
theorem ZsB:(prog.info? 4).map (fun i=>(i.zero,i.size,i.bytes))=some (some (.bool false),1,1):=by kernel_rfl
theorem Zp2:(prog.info? 94).map (fun i=>(i.zero,i.size,i.bytes))=some (some (.slice none 0 0),1,24):=by kernel_rfl
theorem Zca {α β:Type} {f:β→α→β} {l:List α} {k:Nat} {x:α} {b:β} (h:l[k]?=some x):(l.take (k+1)).foldl f b=f ((l.take k).foldl f b) x:=by
 rw [List.take_add_one,h,AN];rfl
theorem Zbq {β:Type} {f:β→Nat→β} {k:Nat} {b:β}:(A5 0 (k+1)).foldl f b=f ((A5 0 k).foldl f b) k:=by
 rw [List.range'_concat,AN];simp
theorem ZqN {b:Zu} (S:Zl9 b=true) (w:World) (cs:List Value) (L:List Nat) (hb:ZoR.rep w cs b L) :
  Calls prog 125 #[.agg cs.toArray] w (fun e w'=>∃w0,Below w.heap.size w w0∧e=.returned (.slice (some ⟨w0.heap.size,0,none⟩) b.nodes.toNat b.nodes.toNat)∧Qf w0 w' b.nodes.toNat (Zfc b.nodes.toNat b.reasons)):=by
 obtain ⟨A1,c1,L1,e1,e2,n1,m1,s1⟩:=hb
 subst e1 e2
 unfold Zl9 at S
 rw [AD,decide_eq_true_iff] at S
 obtain ⟨⟨h0,an,ao⟩,hr⟩:=S
 have HR:Hid (∀r∈b.reasons,(0≤r.for_∧r.for_.toNat<b.nodes.toNat)∧(∀y∈r.inn,0≤y∧y.toNat<b.nodes.toNat)∧∀y∈r.outs,0≤y∧y.toNat<b.nodes.toNat):=fun r mr=>by
  have:=AG.1 hr r mr
  rw [AD,AD,decide_eq_true_iff,AG,AG] at this
  obtain ⟨⟨a1,a2⟩,a3⟩:=this
  refine ⟨yE,fun y my=>?_,fun y my=>?_⟩
  ·have:=of_decide_eq_true (a2 y my);omega
  ·have:=of_decide_eq_true (a3 y my);omega
 clear hr
 have HS:Hid (Sli ZnO w A1 b.reasons _):=s1
 clear s1
 have T:b.nodes=((b.nodes.toNat:Nat):Int):=by omega
 obtain ⟨n,hn⟩:∃n,b.nodes.toNat=n:=⟨_,rfl⟩
 have HN:Hid (b.nodes.toNat=n):=hn
 rw [hn] at T ⊢
 rw [T]
 obtain ⟨m,hm⟩:∃m,b.reasons.length=m:=⟨_,rfl⟩
 have HM:Hid (b.reasons.length=m):=hm
 rw [hm] at n1 ao ⊢
 have hn24:n≤24:=by omega
 clear hm hn T h0 an
 have ah:∀w:World,_:=run_make_row' (P:=prog) 170 94 (.slice none 0 0) 24 underlying170 Zp2 rfl .i64 .i64 n yE yE
 go_enter func125,ntmps125
 go_wp2
 clear ah
 obtain ⟨w0,A⟩:∃w0,w0=w.alloc (.cells #[.int .i64 ((n:Nat):Int),.slice A1 m c1] 91):=⟨_,rfl⟩
 have U:w0.heap.size=w.heap.size + 1:=by rw [A];simp
 have HB:Hid (Below w.heap.size w w0):=by rw [A];exact (Below.refl _ w).alloc (A9 _) _
 have K0:Hid (Blk w0 w.heap.size 91 #[.int .i64 ((n:Nat):Int),.slice A1 m c1]):=by rw [A];exact Blk.new _ _ _
 rw [←A,←U]
 have H0:Hid (w0.heap.size=w.heap.size + 1):=U
 have f:Hid (ZoU w0 (w0.alloc (.cells (madeCells #[.slice none 0 0] n) 94)) n 0):=Zqz w0 n
 clear A U
 go_loopw [19] (fun i wr=>∃(k:Nat),k≤n∧i=.int .i64 k∧Hid (ZoU w0 wr n k)) (fun i _=>n - (intOf i).toNat)
 case atStart=>exact ⟨0,A8 _,rfl,f⟩
 case round =>
  clear f
  obtain ⟨k,hk,rfl,HA⟩:=hrel
  by_cases M:k<n
  ·have q0:wr.cell? ⟨w.heap.size,0,none⟩=some (.int .i64 ((n:Nat):Int)):=(HA.out.below.cell (p:=⟨w.heap.size,0,none⟩) (by show w.heap.size<w0.heap.size;rw [H0.out];omega)).trans (K0.out.at rfl)
   have ah:∀w:World,_:=run_make_row' (P:=prog) 94 4 (.bool false) 1 underlying94 ZsB rfl .i64 .i64 n yE yE
   have hst1:∀o,(wr.alloc o).cell? ⟨w0.heap.size,k,none⟩=some (.slice none 0 0):=fun o=>by
    have:=(HA.out.top.alloc o).cell M
    simpa using this
   have hst2:∀o,(wr.alloc o).frozen? ⟨w0.heap.size,k,none⟩=false:=fun o=>(HA.out.top.alloc o).frozen k
   go_wp2
   exact ⟨⟨k + 1,yE,yG,HA.out.next⟩,by simp [intOf];omega⟩
  ·obtain rfl:k=n:=by omega
   have HD:Hid (Qf w0 wr k (A4 k (A4 k false))):=HA.out.done
   clear HA
   have q1:wr.cell? ⟨w.heap.size,1,none⟩=some (.slice A1 m c1):=(HD.out.below.cell (p:=⟨w.heap.size,1,none⟩) (by show w.heap.size<w0.heap.size;rw [H0.out];omega)).trans (K0.out.at rfl)
   go_wp2
   clear q1 M hk
   have f:Hid (Qf w0 wr k ((b.reasons.take 0).foldl Zic (A4 k (A4 k false)))):=HD
   clear HD
   go_loopw [32] (fun i wr=>∃(q:Nat),q≤m∧i=.int .i64 q∧Hid (Qf w0 wr k ((b.reasons.take q).foldl Zic (A4 k (A4 k false))))) (fun i _=>m - (intOf i).toNat)
   case atStart=>exact ⟨0,A8 _,rfl,f⟩
   case round =>
    clear f
    obtain ⟨q,hq,rfl,HA⟩:=hrel
    by_cases M:q<m
    ·obtain ⟨r,hr⟩:∃r,b.reasons[q]?=some r:=⟨_,AA (by have:=HM.out;omega)⟩
     have ai:q<b.reasons.length:=(AF.1 hr).1
     obtain ⟨bb,off,cs,Lk,rfl,ap,hLk,Q,hc⟩:=HS.out.at_ ai
     have aj:b.reasons[q]=r:=by rw [AA ai] at hr;exact A3 hr
     rw [aj] at Q
     obtain ⟨Ai,ci,Li,Ao,co,Lo,e1,e2,ni,mi,si,no,mo,so⟩:=Q
     subst e1
     have V:bb<w.heap.size:=HS.out.lt _ ap
     have l:∀{a:Addr},a.block<w.heap.size→wr.cell? a=w.cell? a:=fun {a} ha=>(HA.out.below.cell (p:=a) (by rw [H0.out];omega)).trans (HB.out.cell ha)
     have mr:=AM hr
     obtain ⟨⟨f0,f1⟩,f2,f3⟩:=HR.out r mr
     simp only[HN.out] at f1 f2 f3
     obtain ⟨x,hx⟩:∃x:Nat,r.for_=x:=⟨r.for_.toNat,yE⟩
     have t:x<k:=by omega
     have HX:Hid (r.for_.toNat=x):=by show r.for_.toNat=x;omega
     have HIF:Hid (∀y∈r.inn,0≤y∧y.toNat<k):=f2
     have HOF:Hid (∀y∈r.outs,0≤y∧y.toNat<k):=f3
     have HI:Hid (Sli Zqc w Ai r.inn _):=si
     have HO:Hid (Sli Zqc w Ao r.outs _):=so
     have HQ:Hid (b.reasons[q]?=some r):=hr
     have p0:wr.cell? ⟨bb,off + q * 3,none⟩=some (.int .i64 r.for_):=(l V).trans (hc 0 _ rfl)
     have p1:wr.cell? ⟨bb,off + q * 3 + 1,none⟩=some (.slice Ai r.inn.length ci):=(l V).trans (hc 1 _ rfl)
     have p2:wr.cell? ⟨bb,off + q * 3 + 2,none⟩=some (.slice Ao r.outs.length co):=(l V).trans (hc 2 _ rfl)
     rw [hx] at p0
     obtain ⟨pi,W⟩:∃pi,r.inn.length=pi:=⟨_,rfl⟩
     obtain ⟨po,X⟩:∃po,r.outs.length=po:=⟨_,rfl⟩
     rw [W] at p1 ni
     rw [X] at p2 no
     have hpb:pi≤9223372036854775807:=AE ni (by unfold maxLen at mi;omega)
     have hpc:po≤9223372036854775807:=AE no (by unfold maxLen at mo;omega)
     have HIL:Hid (r.inn.length=pi):=W
     have HOL:Hid (r.outs.length=po):=X
     clear hc l W X hx f0 f1 f2 f3 si so hr mr aj
     go_wp2
     obtain ⟨D,hD⟩:∃D,D=(b.reasons.take q).foldl Zic (A4 k (A4 k false)):=⟨_,rfl⟩
     obtain ⟨w1,N⟩:∃w1,w1=wr.alloc (.cells #[.int .i64 ((x:Nat):Int),.slice Ai pi ci,.slice Ao po co] 144):=⟨_,rfl⟩
     obtain ⟨g,hg⟩:∃g,g=wr.heap.size:=⟨_,rfl⟩
     have B:Hid (Qf w0 w1 k ((r.inn.take 0).foldl (Zah r.for_.toNat) D)):=by rw [N,hD];exact HA.out.later ((Below.refl _ _).alloc (A9 _) _)
     have C:Hid (Blk w1 g 144 #[.int .i64 ((x:Nat):Int),.slice Ai pi ci,.slice Ao po co]):=by rw [N,hg];exact Blk.new _ _ _
     have HG:Hid (w0.heap.size + 1 + k≤g):=by rw [hg];exact HA.out.size
     rw [←N,←hg]
     have HD0:Hid (D=(b.reasons.take q).foldl Zic (A4 k (A4 k false))):=hD
     clear HA N hg p0 p1 p2 hD
     go_loopw [39] (fun i wr=>∃(j:Nat),j≤pi∧i=.int .i64 j∧Hid (Qf w0 wr k ((r.inn.take j).foldl (Zah r.for_.toNat) D))∧Hid (Blk wr g 144 #[.int .i64 ((x:Nat):Int),.slice Ai pi ci,.slice Ao po co])) (fun i _=>pi - (intOf i).toNat)
     case atStart=>exact ⟨0,A8 _,rfl,B,C⟩
     case round =>
      clear B C
      obtain ⟨j,hj,rfl,HW,HK⟩:=hrel
      by_cases R:j<pi
      ·have u:j<r.inn.length:=by have:=HIL.out;omega
       obtain ⟨bi,oi,aq,Lk2,rfl,F,_,z,G⟩:=HI.out.at_ u
       obtain ⟨e3,_⟩:=z
       subst e3
       have hy:=AA u
       obtain ⟨y0,y1⟩:=HIF.out _ (AO u)
       obtain ⟨yn,H⟩:∃yn:Nat,r.inn[j]=yn:=⟨r.inn[j].toNat,yE⟩
       have I:r.inn[j].toNat=yn:=by omega
       have J:yn<k:=by omega
       have Y:bi<w.heap.size:=HI.out.lt _ F
       have p3:wr.cell? ⟨bi,oi + j,none⟩=some (.int .i64 ((yn:Nat):Int)):=by
        have h:=G 0 _ rfl
        rw [show oi + (j * Zqc.size + 0)=oi + j from by show oi + (j * 1 + 0)=_;omega,H] at h
        exact ((HW.out.below.cell (p:=⟨bi,oi + j,none⟩) (by show bi<w0.heap.size;rw [H0.out];omega)).trans (HB.out.cell (p:=⟨bi,oi + j,none⟩) Y)).trans h
       have s0:wr.cell? ⟨g,0,none⟩=some (.int .i64 ((x:Nat):Int)):=HK.out.at rfl
       have s1:wr.cell? ⟨w0.heap.size,x,none⟩=some (.slice (some ⟨w0.heap.size + 1 + x,0,none⟩) k k):=HW.out.top.cell t
       have s2:=(HW.out.row x t).cell J
       have s3:=(HW.out.row x t).frozen yn
       have HY:Hid (r.inn[j]?=some r.inn[j]∧r.inn[j].toNat=yn):=⟨hy,I⟩
       clear G hy I H y0 y1
       go_wp2
       refine ⟨⟨j + 1,yE,yG,?_,HK.out.far (by show g ≠ w0.heap.size + 1 + x;have:=HG.out;omega) _⟩,by simp [intOf];omega⟩
       show Qf w0 _ k _
       rw [Zca HY.out.1]
       have e:∀d,Zah r.for_.toNat d r.inn[j]=Zjq d x yn true:=fun d=>by unfold Zah;rw [HX.out,HY.out.2]
       rw [e]
       exact HW.out.set t J true
      ·have O:j=pi:=by omega
       have q2:wr.cell? ⟨g,2,none⟩=some (.slice Ao po co):=HK.out.at rfl
       go_wp2
       clear q2 R hj
       have B:Hid (Qf w0 wr k ((r.outs.take 0).foldl (Zah r.for_.toNat) ((r.inn.take pi).foldl (Zah r.for_.toNat) D))):=by rw [←O];exact HW
       have C:=HK
       clear HW HK O
       go_loopw [54] (fun i wr=>∃(j:Nat),j≤po∧i=.int .i64 j∧Hid (Qf w0 wr k ((r.outs.take j).foldl (Zah r.for_.toNat) ((r.inn.take pi).foldl (Zah r.for_.toNat) D)))∧Hid (Blk wr g 144 #[.int .i64 ((x:Nat):Int),.slice Ai pi ci,.slice Ao po co])) (fun i _=>po - (intOf i).toNat)
       case atStart=>exact ⟨0,A8 _,rfl,B,C⟩
       case round =>
        clear B C
        obtain ⟨j,hj,rfl,HW,HK⟩:=hrel
        by_cases R:j<po
        ·have u:j<r.outs.length:=by have:=HOL.out;omega
         obtain ⟨bi,oi,aq,Lk2,rfl,F,_,z,G⟩:=HO.out.at_ u
         obtain ⟨e3,_⟩:=z
         subst e3
         have hy:=AA u
         obtain ⟨y0,y1⟩:=HOF.out _ (AO u)
         obtain ⟨yn,H⟩:∃yn:Nat,r.outs[j]=yn:=⟨r.outs[j].toNat,yE⟩
         have I:r.outs[j].toNat=yn:=by omega
         have J:yn<k:=by omega
         have Y:bi<w.heap.size:=HO.out.lt _ F
         have p3:wr.cell? ⟨bi,oi + j,none⟩=some (.int .i64 ((yn:Nat):Int)):=by
          have h:=G 0 _ rfl
          rw [show oi + (j * Zqc.size + 0)=oi + j from by show oi + (j * 1 + 0)=_;omega,H] at h
          exact ((HW.out.below.cell (p:=⟨bi,oi + j,none⟩) (by show bi<w0.heap.size;rw [H0.out];omega)).trans (HB.out.cell (p:=⟨bi,oi + j,none⟩) Y)).trans h
         have s0:wr.cell? ⟨g,0,none⟩=some (.int .i64 ((x:Nat):Int)):=HK.out.at rfl
         have s1:wr.cell? ⟨w0.heap.size,x,none⟩=some (.slice (some ⟨w0.heap.size + 1 + x,0,none⟩) k k):=HW.out.top.cell t
         have s2:=(HW.out.row x t).cell J
         have s3:=(HW.out.row x t).frozen yn
         have HY:Hid (r.outs[j]?=some r.outs[j]∧r.outs[j].toNat=yn):=⟨hy,I⟩
         clear G hy I H y0 y1
         go_wp2
         refine ⟨⟨j + 1,yE,yG,?_,HK.out.far (by show g ≠ w0.heap.size + 1 + x;have:=HG.out;omega) _⟩,by simp [intOf];omega⟩
         show Qf w0 _ k _
         rw [Zca HY.out.1]
         have e:∀d,Zah r.for_.toNat d r.outs[j]=Zjq d x yn true:=fun d=>by unfold Zah;rw [HX.out,HY.out.2]
         rw [e]
         exact HW.out.set t J true
        ·have O:j=po:=by omega
         go_wp2
         refine ⟨⟨q + 1,yE,yG,?_⟩,by simp [intOf];omega⟩
         show Qf w0 _ k _
         rw [Zca HQ.out,←HD0.out]
         have h:=HW.out
         rw [O,AH (AI HOL.out),AH (AI HIL.out)] at h
         exact h
    ·have ak:q=m:=by omega
     have HD:Hid (Qf w0 wr k (b.reasons.foldl Zic (A4 k (A4 k false)))):=by
      have h:=HA.out
      rw [ak,AH (AI HM.out)] at h
      exact h
     clear HA ak
     go_wp2
     obtain ⟨E,hE⟩:∃E,E=b.reasons.foldl Zic (A4 k (A4 k false)):=⟨_,rfl⟩
     have HE:Hid (E=b.reasons.foldl Zic (A4 k (A4 k false))):=hE
     have f:Hid (Qf w0 wr k ((A5 0 0).foldl (ZmX k) E)):=by rw [hE];exact HD
     clear HD hE M hq
     go_loopw [69] (fun i wr=>∃(a:Nat),a≤k∧i=.int .i64 a∧Hid (Qf w0 wr k ((A5 0 a).foldl (ZmX k) E))) (fun i _=>k - (intOf i).toNat)
     case atStart=>exact ⟨0,A8 _,rfl,f⟩
     case round =>
      clear f
      obtain ⟨a,ha,rfl,HA⟩:=hrel
      by_cases Z:a<k
      ·go_wp2
       obtain ⟨E1,aa⟩:∃E1,E1=(A5 0 a).foldl (ZmX k) E:=⟨_,rfl⟩
       have HE1:Hid (E1=(A5 0 a).foldl (ZmX k) E):=aa
       have f:Hid (Qf w0 wr k ((A5 0 0).foldl (Zm6 k a) E1)):=by rw [aa];exact HA
       clear HA aa
       go_loopw [74] (fun i wr=>∃(c:Nat),c≤k∧i=.int .i64 c∧Hid (Qf w0 wr k ((A5 0 c).foldl (Zm6 k a) E1))) (fun i _=>k - (intOf i).toNat)
       case atStart=>exact ⟨0,A8 _,rfl,f⟩
       case round =>
        clear f
        obtain ⟨c,hc,rfl,HA⟩:=hrel
        by_cases K:c<k
        ·go_wp2
         obtain ⟨E2,ab⟩:∃E2,E2=(A5 0 c).foldl (Zm6 k a) E1:=⟨_,rfl⟩
         have HE2:Hid (E2=(A5 0 c).foldl (Zm6 k a) E1):=ab
         have f:Hid (Qf w0 wr k ((A5 0 0).foldl (ZkT a c) E2)):=by rw [ab];exact HA
         clear HA ab
         go_loopw [79] (fun i wr=>∃(e:Nat),e≤k∧i=.int .i64 e∧Hid (Qf w0 wr k ((A5 0 e).foldl (ZkT a c) E2))) (fun i _=>k - (intOf i).toNat)
         case atStart=>exact ⟨0,A8 _,rfl,f⟩
         case round =>
          clear f
          obtain ⟨e,he,rfl,HA⟩:=hrel
          by_cases ac:e<k
          ·obtain ⟨E3,ad⟩:∃E3,E3=(A5 0 e).foldl (ZkT a c) E2:=⟨_,rfl⟩
           have HE3:Hid (E3=(A5 0 e).foldl (ZkT a c) E2):=ad
           have HW:Hid (Qf w0 wr k E3):=by rw [ad];exact HA
           clear HA ad
           have s1:wr.cell? ⟨w0.heap.size,c,none⟩=some (.slice (some ⟨w0.heap.size + 1 + c,0,none⟩) k k):=HW.out.top.cell K
           have s2:wr.cell? ⟨w0.heap.size,a,none⟩=some (.slice (some ⟨w0.heap.size + 1 + a,0,none⟩) k k):=HW.out.top.cell Z
           obtain ⟨v1,ae⟩:∃v,Zb9 E3 c e=v:=⟨_,rfl⟩
           obtain ⟨v2,af⟩:∃v,Zb9 E3 c a=v:=⟨_,rfl⟩
           obtain ⟨v3,ag⟩:∃v,Zb9 E3 a e=v:=⟨_,rfl⟩
           have u1:wr.cell? ⟨w0.heap.size + 1 + c,e,none⟩=some (.bool v1):=by rw [←ae];exact (HW.out.row c K).cell ac
           have u2:wr.cell? ⟨w0.heap.size + 1 + c,a,none⟩=some (.bool v2):=by rw [←af];exact (HW.out.row c K).cell Z
           have u3:wr.cell? ⟨w0.heap.size + 1 + a,e,none⟩=some (.bool v3):=by rw [←ag];exact (HW.out.row a Z).cell ac
           have u4':wr.frozen? ⟨w0.heap.size + 1 + c,e,none⟩=false:=(HW.out.row c K).frozen e
           have al:Hid (Qf w0 (wr.setCell ⟨w0.heap.size + 1 + c,e,none⟩ (.bool (v1 || (v2 && v3)))).drew k ((A5 0 (e + 1)).foldl (ZkT a c) E2)):=by
            show Qf w0 _ k _
            rw [Zbq,←HE3.out]
            unfold ZkT
            rw [ae,af,ag]
            exact (HW.out.set K ac _).drew
           clear ae af ag
           go_wp2_with fail
           cases v1<;>cases v2<;>cases v3 <;>
            (go_big_region
             go_wp2
             exact ⟨⟨e + 1,yE,yG,al⟩,by simp [intOf];omega⟩)
          ·have ar:e=k:=by omega
           go_wp2
           refine ⟨⟨c + 1,yE,yG,?_⟩,by simp [intOf];omega⟩
           show Qf w0 _ k _
           rw [Zbq,←HE2.out]
           have h:=HA.out
           rw [ar] at h
           exact h
        ·have au:c=k:=by omega
         go_wp2
         refine ⟨⟨a + 1,yE,yG,?_⟩,by simp [intOf];omega⟩
         show Qf w0 _ k _
         rw [Zbq,←HE1.out]
         have h:=HA.out
         rw [au] at h
         exact h
      ·have am:a=k:=by omega
       have HF:Hid (Qf w0 wr k (Zfc k b.reasons)):=by
        have h:=HA.out
        rw [am,HE.out] at h
        exact h
       clear HA am
       go_wp2
       go_ret
       exact ⟨w0,HB.out,rfl,HF.out⟩
theorem ZhX {b_0:Zu} {r:List (List Bool)} (h:ZaL b_0=some r):Zl prog J0 125 [(true,Qw b_0)] [(false,[(true,.sl 94 1 (A0 Zge r))])]:=by
 unfold ZaL at h
 split at h
 ·rename_i hok
  obtain rfl:=A3 h
  refine ⟨⟨f125,func125,by kernel_rfl,by kernel_rfl⟩,fun w z vs hj hz ha=>?_⟩
  cases vs with
  | nil=>exact ha.elim
  | cons v vs=>
   obtain ⟨ha,hr⟩:=ha
   cases vs with
   | cons _ _=>exact hr.elim
   | nil=>
    rcases ha with ⟨_,cs,L,rfl,hR,_⟩ | ⟨hf,_⟩
    ·refine (ZqN hok w cs L (Zqn.of hR)).mono ?_
     rintro e w' ⟨w0,hB,rfl,hM⟩
     have h24:b_0.nodes.toNat≤24:=by
      unfold Zl9 at hok
      rw [AD,decide_eq_true_iff] at hok
      omega
     obtain ⟨L2,hrep,hL2⟩:=hM.rep h24
     have hrc:=((ZvR.slice 4).sl 94).1 hrep
     have hno:∀y∈L2,¬z y:=fun y my hzy=>by
      have h1:=hz y hzy
      have h2:=hL2 y my
      have h3:=hB.size
      omega
     exact ⟨_,z,rfl,⟨[_],[],⟨_,[],[],[],rfl,rfl,.inr ⟨rfl,_,rfl,rfl,L2,hrc,hno⟩,rfl,rfl⟩,Own.nil _ _,rfl⟩,fun _ h=>h,hB.trans (hM.below.mono hB.size)⟩
    ·simp at hf
 ·cases h
end
section
theorem ZbJ {l_0:(List Zd)} {f_1:Zd} {r:Int} (h:Ql l_0 f_1=some r):Zl prog J0 62 [(false,[.sl 71 2 (A0 Zq l_0)]),(true,Zq f_1)] [(false,[(false,.int .i64 r)])]:=by
 refine fnk func62 rfl ?_
 unfold Ql at h
 simp only[fnS,f62,Zm,go_sem,seval]
 refine Zh h (fun i _ st=>IV [(0,yM (yO l_0)),(3,.bp 0 0),(5,yL i)] [yZ 71 (Zq f_1)] st) [] [0] yF yD ?_ ?_
 rintro _ _ ⟨⟩ ⟨sl,ob,n⟩ _ a b e h f
 simp only[go_sem,seval,Zc] at b
 obtain ⟨⟨g,_,_⟩,_,hn⟩:=b
 subst hn
 have k:=WF.slotL e g (j:=0) rfl
 have:=ZB a
 have:=ZC a
 have:=Zj (ZA a) k
 simp only[*,go_sem,seval]
 refine Za h fun _ l h=>Zb (Zpy l)<|yA ?_
 refine yB h (fun _ h=>?_) fun _ h=>?_
 replace h:=Zo h f
 cases h;exact yD
 exact yC h [] [0]
 rintro ⟨⟩ ⟨sl,ob,n⟩ d _ h
 simp only[go_sem,seval,Zc] at d
 obtain ⟨⟨_,_,_⟩,_,hn⟩:=d
 subst hn
 have:=Zz (l_0.length)
 cases h;exact yD
theorem ZF7 {b_0:Zu} {r:Bool} (h:ZEb b_0=some r):Zl prog J0 289 [(true,Qw b_0)] [(false,[(false,.bool r)])]:=by
 refine fnk func289 rfl ?_
 unfold ZEb at h
 simp only[fnS,f289,Zm,go_sem,seval]
 refine Zh h (fun i _ st=>IV [(1,.bp 0 0),(3,yL i)] [.box 91 [.c (.int .i64 b_0.nodes),.c (yV b_0.reasons)]] st) [] [0] yF yD ?_ ?_
 rintro _ _ ⟨⟩ ⟨sl,ob,n⟩ _ a b e h f
 simp only[go_sem,seval,Zc] at b
 obtain ⟨⟨_,_⟩,g,hn⟩:=b
 subst hn
 have k:=WF.boxL e g (j:=1) rfl
 have:=ZB a
 have:=ZC a
 have:=Zj (ZA a) k
 simp only[*,go_sem,seval]
 refine Za h fun _ l h=>Zb (Zat l)<|yA ?_
 refine yB h (fun _ h=>?_) fun _ h=>?_
 refine Za h fun _ m h=>Zb (ZFm m)<|yA ?_
 refine yB h (fun _ h=>?_) fun _ h=>?_
 refine Za h fun _ o h=>Zb (ZFm o)<|yA ?_
 refine yB h (fun _ h=>?_) fun _ h=>?_
 refine ⟨_,[],[0],(A3 h).symm,yF,?_⟩
 iterate 3 (simp only[*,go_sem,seval];replace h:=Zo h f;cases h)
 simp only[*,go_sem,seval]
 rintro ⟨⟩ ⟨sl,ob,n⟩ d _ h
 simp only[go_sem,seval,Zc] at d
 obtain ⟨⟨_,_⟩,_,hn⟩:=d
 subst hn
 have:=Zz (b_0.reasons.length)
 simp only[*,go_sem,seval]
 refine Za h fun _ q h=>Zb (Zat q)<|yA ?_
 refine yB h (fun _ h=>?_) fun _ h=>?_
 iterate 2 (cases h;exact yD)
theorem ZdB {b_0:Zu} {r:Bool} (h:XI b_0=some r):Zl prog J0 60 [(true,Qw b_0)] [(false,[(false,.bool r)])]:=by
 refine fnk func60 rfl ?_
 unfold XI at h
 simp only[fnS,f60,Zm,go_sem,seval]
 refine Za h fun v1 q h=>Zb (Zkn q)<|yA ?_
 refine yB h (fun _ h=>?_) fun _ h=>?_
 obtain ⟨e,t,h⟩:=ZJ h
 refine ZkJ (ZhX t)<|yA ?_
 refine Zh h (fun i _ st=>IV [(3,yM (.sl 94 1 (A0 Zge e))),(14,yM (yV b_0.reasons)),(15,yL b_0.reasons.length),(16,yL i)] [] st) [] [] yF yD ?_ ?_
 rintro u a ⟨⟩ ⟨sl,ob,n⟩ _ b f v h g
 simp only[go_sem,seval,Zc] at f
 obtain ⟨⟨_,w,_,_⟩,hn⟩:=f
 subst hn
 have x:=WF.slotL v w (j:=0) rfl
 have:=ZB b
 have:=ZC b
 have:=Zj (ZA b) x
 simp only[*,go_sem,seval]
 refine Zh h (fun i _ st=>IV [(3,yM (.sl 94 1 (A0 Zge e))),(5,.bp 0 0),(14,yM (yV b_0.reasons)),(15,yL b_0.reasons.length),(16,yL u),(21,yM (yQ a.outs)),(22,yL a.outs.length),(23,yL i)] [yZ 144 (ZL a)] st) [] [48] yF yD ?_ ?_
 rintro _ _ ⟨⟩ ⟨sl,ob,n⟩ _ d k y h l
 simp only[go_sem,seval,Zc] at k
 obtain ⟨⟨_,_,_,_,_,z,_,_⟩,_,hn⟩:=k
 subst hn
 have A:=WF.slotL y z (j:=0) rfl
 have:=ZB d
 have:=ZC d
 have:=Zj (ZA d) A
 simp only[*,go_sem,seval]
 refine yB h (fun _ h=>?_) fun _ h=>?_
 replace h:=Zo h l
 replace h:=Zo h g
 cases h;exact yD
 obtain ⟨_,_,_,_,h⟩:=Zci h
 obtain ⟨_,_,_,_,h⟩:=Zci h
 simp only[*,go_sem,seval]
 refine yB h (fun _ h=>?_) fun _ h=>?_
 replace h:=Zo h l
 replace h:=Zo h g
 cases h;exact yD
 exact yC h [] [0]
 rintro ⟨⟩ ⟨sl,ob,n⟩ m _ h
 simp only[go_sem,seval,Zc] at m
 obtain ⟨⟨_,_,_,_,_,_,_,_⟩,_,hn⟩:=m
 subst hn
 have:=Zz (a.outs.length)
 simp only[*,go_sem,seval]
 exact yC h [] []
 rintro ⟨⟩ ⟨sl,ob,n⟩ o _ h
 simp only[go_sem,seval,Zc] at o
 obtain ⟨⟨_,_,_,_⟩,hn⟩:=o
 subst hn
 have:=Zz (b_0.reasons.length)
 iterate 2 (cases h;exact yD)
theorem ZF2 {steps_0:(List ZvY)} {f_1:Zd} {r:Int} (h:ZEa steps_0 f_1=some r):Zl prog J0 104 [(false,[.sl 86 4 (A0 ZAO steps_0)]),(true,Zq f_1)] [(false,[(false,.int .i64 r)])]:=by
 refine fnk func104 rfl ?_
 unfold ZEa at h
 simp only[fnS,f104,Zm,go_sem,seval]
 refine Zh h (fun i _ st=>IV [(3,.bp 0 0),(7,yM (yY steps_0)),(8,yL steps_0.length),(9,yL i)] [yZ 71 (Zq f_1)] st) [] [0] yF yD ?_ ?_
 rintro _ _ ⟨⟩ ⟨sl,ob,n⟩ _ a b e h f
 simp only[go_sem,seval,Zc] at b
 obtain ⟨⟨_,g,_,_⟩,_,hn⟩:=b
 subst hn
 have k:=WF.slotL e g (j:=0) rfl
 have:=ZB a
 have:=ZC a
 have:=Zj (ZA a) k
 simp only[*,go_sem,seval]
 refine Za h fun _ l h=>Zb (ZlS l)<|yA ?_
 refine yB h (fun _ h=>?_) fun _ h=>?_
 replace h:=Zo h f
 cases h;exact yD
 exact yC h [] [0]
 rintro ⟨⟩ ⟨sl,ob,n⟩ d _ h
 simp only[go_sem,seval,Zc] at d
 obtain ⟨⟨_,_,_,_⟩,_,hn⟩:=d
 subst hn
 have:=Zz (steps_0.length)
 cases h;exact yD
theorem ZJc {a_0:(List Zd)} {b_1:(List Zd)} {r:Bool} (h:ZIL a_0 b_1=some r):Zl prog J0 249 [(false,[.sl 71 2 (A0 Zq a_0)]),(false,[.sl 71 2 (A0 Zq b_1)])] [(false,[(false,.bool r)])]:=by
 refine fnk func249 rfl ?_
 unfold ZIL at h
 simp only[fnS,f249,Zm,go_sem,seval]
 refine yB h (fun _ h=>?_) fun _ h=>?_
 cases h;exact yD
 refine Zh h (fun i _ st=>IV [(0,yM (yO a_0)),(1,yM (yO b_1)),(12,yL a_0.length),(13,yL i)] [] st) [] [] yF yD ?_ ?_
 rintro _ _ ⟨⟩ ⟨sl,ob,n⟩ _ a b e h f
 simp only[go_sem,seval,Zc] at b
 obtain ⟨⟨g,_,_,_⟩,hn⟩:=b
 subst hn
 have k:=WF.slotL e g (j:=0) rfl
 have:=ZB a
 have:=ZC a
 have:=Zj (ZA a) k
 obtain ⟨_,_,_,l,h⟩:=Zci h
 simp only[A6] at l
 simp only[*,go_sem,seval]
 refine Za h fun _ m h=>Zb (ZlS m)<|yA ?_
 refine yB h (fun _ h=>?_) fun _ h=>?_
 exact yC h [] []
 replace h:=Zo h f
 cases h;exact yD
 rintro ⟨⟩ ⟨sl,ob,n⟩ d _ h
 simp only[go_sem,seval,Zc] at d
 obtain ⟨⟨_,_,_,_⟩,hn⟩:=d
 subst hn
 have:=Zz (a_0.length)
 cases h;exact yD
end
section
theorem XL {p_0:Zv} {r:Bool} (h:YR p_0=some r):Zl prog J0 93 [(true,Qz p_0)] [(false,[(false,.bool r)])]:=by
 refine fnk func93 rfl ?_
 unfold YR at h
 simp only[fnS,f93,Zm,go_sem,seval]
 refine Za h fun v1 e h=>Zb (ZfA e)<|yA ?_
 iterate 2 refine yB h (fun _ h=>?_) fun _ h=>?_
 cases h;exact yD
 refine Zh h (fun i _ st=>IV [(16,yM (yP p_0.args)),(17,yL p_0.args.length),(18,yL i)] [] st) [] [] yF yD ?_ ?_
 rintro _ _ ⟨⟩ ⟨sl,ob,n⟩ _ a b f h g
 simp only[go_sem,seval,Zc] at b
 obtain ⟨⟨k,_,_⟩,hn⟩:=b
 subst hn
 have l:=WF.slotL f k (j:=0) rfl
 have:=ZB a
 have:=ZC a
 have:=Zj (ZA a) l
 simp only[*,go_sem,seval]
 refine Za h fun _ m h=>Zb (QF m)<|yA ?_
 refine yB h (fun _ h=>?_) fun _ h=>?_
 exact yC h [] []
 replace h:=Zo h g
 cases h;exact yD
 rintro ⟨⟩ ⟨sl,ob,n⟩ d _ h
 simp only[go_sem,seval,Zc] at d
 obtain ⟨⟨_,_,_⟩,hn⟩:=d
 subst hn
 have:=Zz (p_0.args.length)
 iterate 2 (cases h;exact yD)
theorem Zo9 {a:(List Zp)} {b:ByteArray} {d:ByteArray} {r:((List Zp) × Bool)} (h:Zf0 a b d=some r):Zl prog J0 214 [(false,[.sl 135 2 (A0 ZZ a)]),(false,[.str b]),(false,[.str d])] [(false,[(false,.sl 135 2 (A0 ZZ r.1))]),(false,[(false,.bool r.2)])]:=by
 refine fnk func214 rfl ?_
 unfold Zf0 at h
 simp only[fnS,f214,Zm,go_sem,seval]
 refine Za h fun v1 o h=>Zb (Qk o)<|yA ?_
 refine yB h (fun _ h=>?_) fun _ h=>?_
 refine Za h fun _ q h=>Zb (ZcG q)<|yA ?_
 refine yB h (fun _ h=>?_) fun _ h=>?_
 refine Za h fun _ t h=>Zb (XS t)<|yA ?_
 refine yB h (fun _ h=>?_) fun _ h=>?_
 refine Za h fun _ u h=>Zb (Zcn u)<|yA ?_
 iterate 2 refine yB h (fun _ h=>?_) fun _ h=>?_
 refine Za h fun _ v h=>Zb (Zfq v) ?_
 iterate 2 (cases h;exact yD)
 refine yB h (fun _ h=>?_) fun _ h=>?_
 cases h;exact yD
 refine Zh h (fun i s st=>match s with | (e,f)=>IV [(1,yM (.str b)),(2,yM (.str d)),(10,.p false [.row 0]),(11,yM (.bool f)),(42,yM (yT a)),(43,yL a.length),(44,yL i)] [.row 135 2 (A0 ZZ e) 2] st) [(false,10,0)] [512] yF yD ?_ ?_
 rintro _ _ ⟨e,f⟩ ⟨sl,ob,n⟩ _ g l x h _
 simp only[go_sem,seval,Zc] at l
 obtain ⟨⟨_,_,_,_,y,_,_⟩,_,hn⟩:=l
 subst hn
 have z:=WF.slotL x y (j:=0) rfl
 have:=ZB g
 have:=ZC g
 have:=Zj (ZA g) z
 simp only[*,go_sem,seval]
 refine yB h (fun _ h=>?_) fun _ h=>?_
 obtain ⟨A,h⟩:=Zs h
 try simp only[Nat.reduceLeDiff] at A
 simp only[*,go_sem,seval]
 exact yC h [] [257]
 refine Ze h (fun k h=>?_) (fun k h=>?_)
 have B:=k
 obtain ⟨C,h⟩:=Zs h
 try simp only[Nat.reduceLeDiff] at C
 simp only[*,go_sem,seval]
 exact yC h [] [257]
 have B:=k
 obtain ⟨D,h⟩:=Zs h
 try simp only[Nat.reduceLeDiff] at D
 obtain ⟨E,h⟩:=Zs h
 try simp only[Nat.reduceLeDiff] at E
 simp only[*,go_sem,seval]
 exact yC h [] [385]
 rintro ⟨e,f⟩ ⟨sl,ob,n⟩ m _ h
 simp only[go_sem,seval,Zc] at m
 obtain ⟨⟨_,_,_,_,_,_,_⟩,_,hn⟩:=m
 subst hn
 have:=Zz (a.length)
 simp only[*,go_sem,seval]
 refine yB h (fun _ h=>?_) fun _ h=>?_
 cases h;exact yD
 obtain ⟨F,h⟩:=Zs h
 try simp only[Nat.reduceLeDiff] at F
 iterate 4 (cases h;exact yD)
theorem Zdp {a_0:Zd} {b_1:Zd} {r:Int} (h:XJ a_0 b_1=some r):Zl prog J0 193 [(true,Zq a_0),(true,Zq b_1)] [(false,[(false,.int .i64 r)])]:=by
 refine fnk func193 rfl ?_
 unfold XJ at h
 simp only[fnS,f193,Zm,go_sem,seval]
 refine Za h fun v1 f h=>Zb (Zhw f)<|yA ?_
 refine yB h (fun _ h=>?_) fun _ h=>?_
 cases h;exact yD
 refine Zh h (fun i _ st=>IV [(2,.bp 0 0),(3,.bp 1 0),(6,yL i)] [yZ 71 (Zq a_0),yZ 71 (Zq b_1)] st) [] [0,16] yF yD ?_ ?_
 rintro _ _ ⟨⟩ ⟨sl,ob,n⟩ _ a b g h d
 simp only[go_sem,seval,Zc] at b
 obtain ⟨⟨_,_,_⟩,k,_,hn⟩:=b
 subst hn
 have l:=WF.boxL g k (j:=1) rfl
 have:=ZB a
 have:=ZC a
 have:=Zj (ZA a) l
 simp only[*,go_sem,seval]
 refine yB h (fun _ h=>?_) fun _ h=>?_
 obtain ⟨_,_,_,m,h⟩:=Zci h
 simp only[A6] at m
 simp only[*,go_sem,seval]
 refine Za h fun _ o h=>Zb (ZhS o)<|yA ?_
 refine yB h (fun _ h=>?_) fun _ h=>?_
 replace h:=Zo h d
 cases h;exact yD
 exact yC h [] [0,1]
 refine Za h fun _ q h=>Zb (Zbp q) ?_
 replace h:=Zo h d
 cases h;exact yD
 rintro ⟨⟩ ⟨sl,ob,n⟩ e _ h
 simp only[go_sem,seval,Zc] at e
 obtain ⟨⟨_,_,_⟩,_,_,hn⟩:=e
 subst hn
 have:=Zz (a_0.args.length)
 simp only[*,go_sem,seval]
 refine Za h fun _ t h=>Zb (Zbp t) ?_
 cases h;exact yD
theorem ZcQ {r_0:Zf} {n_1:Int} {r:(List ByteArray)} (h:Qu r_0 n_1=some r):Zl prog J0 203 [(true,ZG r_0),(false,[.int .i64 n_1])] [(false,[(false,.sl 9 1 (A0 Zw r))])]:=by
 refine fnk func203 rfl ?_
 unfold Qu at h
 simp only[fnS,f203,Zm,go_sem,seval]
 refine Zh h (fun i a st=>IV [(1,yM (.int .i64 n_1)),(5,.p false [.row 0]),(9,yM (yS r_0.cond)),(10,yL r_0.cond.length),(11,yL i)] [.row 9 1 (A0 Zw a) 2] st) [(false,5,0)] [112] yF yD ?_ ?_
 rintro _ _ a ⟨sl,ob,n⟩ _ b d f h _
 simp only[go_sem,seval,Zc] at d
 obtain ⟨⟨_,_,g,_,_⟩,_,hn⟩:=d
 subst hn
 have k:=WF.slotL f g (j:=0) rfl
 have:=ZB b
 have:=ZC b
 have:=Zj (ZA b) k
 simp only[*,go_sem,seval]
 iterate 2 refine yB h (fun _ h=>?_) fun _ h=>?_
 refine Za h fun _ l h=>Zb (Zc1 l) ?_
 obtain ⟨_,h⟩:=Zs h
 simp only[*,go_sem,seval]
 exact yC h [] [321]
 exact yC h [] [0]
 exact yC h [] [0]
 rintro a ⟨sl,ob,n⟩ e _ h
 simp only[go_sem,seval,Zc] at e
 obtain ⟨⟨_,_,_,_,_⟩,_,hn⟩:=e
 subst hn
 have:=Zz (r_0.cond.length)
 simp only[*,go_sem,seval]
 refine Za h fun _ m h=>Zb (XK m) ?_
 cases h;exact yD
theorem ZbA {x_0:Zr} {r:(List ByteArray)} (h:X1 x_0=some r):Zl prog J0 255 [(true,ZK x_0)] [(false,[(false,.sl 9 1 (A0 Zw r))])]:=by
 refine fnk func255 rfl ?_
 unfold X1 at h
 simp only[fnS,f255,Zm,go_sem,seval]
 refine Za h fun v1 a h=>Zb (ZnX a)<|yA ?_
 refine Za h fun _ b h=>Zb (Zc1 b)<|yA ?_
 refine Za h fun _ c h=>Zb (XK c) ?_
 cases h;exact yD
theorem ZhC {facts_0:(List Zd)} {l_1:(List Zd)} {r:(List Int)} (h:Zcr facts_0 l_1=some r):Zl prog J0 175 [(false,[.sl 71 2 (A0 Zq facts_0)]),(false,[.sl 71 2 (A0 Zq l_1)])] [(false,[(false,.sl 3 1 (A0 Z5 r))])]:=by
 refine fnk func175 rfl ?_
 unfold Zcr at h
 simp only[fnS,f175,Zm,go_sem,seval]
 refine Zh h (fun i a st=>IV [(0,yM (yO facts_0)),(5,.p false [.row 0]),(9,yM (yO l_1)),(10,yL l_1.length),(11,yL i)] [.row 3 1 (A0 Z5 a) 2] st) [(false,5,0)] [80] yF yD ?_ ?_
 rintro _ _ a ⟨sl,ob,n⟩ _ b d f h _
 simp only[go_sem,seval,Zc] at d
 obtain ⟨⟨_,_,g,_,_⟩,_,hn⟩:=d
 subst hn
 have k:=WF.slotL f g (j:=0) rfl
 have:=ZB b
 have:=ZC b
 have:=Zj (ZA b) k
 simp only[*,go_sem,seval]
 refine Za h fun _ l h=>Zb (ZbG l)<|yA ?_
 refine yB h (fun _ h=>?_) fun _ h=>?_
 refine Za h fun _ m h=>Zb (Zph m)<|yA ?_
 refine yB h (fun _ h=>?_) fun _ h=>?_
 exact yC h [] [0]
 obtain ⟨o,h⟩:=Zs h
 try simp only[Nat.reduceLeDiff] at o
 simp only[*,go_sem,seval]
 exact yC h [] [321]
 exact yC h [] [0]
 rintro a ⟨sl,ob,n⟩ e _ h
 simp only[go_sem,seval,Zc] at e
 obtain ⟨⟨_,_,_,_,_⟩,_,hn⟩:=e
 subst hn
 have:=Zz (l_1.length)
 simp only[*,go_sem,seval]
 obtain ⟨_,q,h⟩:=ZJ h
 refine QC (Zly q) ?_
 cases h;exact yD
theorem ZlQ {facts_0:(List Zd)} {b_1:Zu} {r:(List Zd)} (h:ZcT facts_0 b_1=some r):Zl prog J0 122 [(false,[.sl 71 2 (A0 Zq facts_0)]),(true,Qw b_1)] [(false,[(false,.sl 71 2 (A0 Zq r))])]:=by
 refine fnk func122 rfl ?_
 unfold ZcT at h
 simp only[fnS,f122,Zm,go_sem,seval]
 refine Za h fun v1 f h=>Zb (Zjd f)<|yA ?_
 refine Zh h (fun i a st=>IV [(0,yM (yO facts_0)),(5,.p false [.row 0]),(9,.p false [.row 1]),(10,yL v1.length),(11,yL i)] [.row 71 2 (A0 Zq a) 2,.row 4 1 (A0 ZgO v1) 2] st) [(false,5,0)] [112,64] yF yD ?_ ?_
 rintro _ _ a ⟨sl,ob,n⟩ _ b d g h _
 simp only[go_sem,seval,Zc] at d
 obtain ⟨⟨_,_,_,_,_⟩,_,j,hn⟩:=d
 subst hn
 have k:=WF.rowL g j
 have:=ZB b
 have:=ZC b
 have:=Zj (ZA b) k
 simp only[*,go_sem,seval]
 refine yB h (fun _ h=>?_) fun _ h=>?_
 obtain ⟨_,_,_,l,h⟩:=Zci h
 simp only[A6] at l
 simp only[*,go_sem,seval]
 refine Za h fun _ m h=>Zb (YC m) ?_
 obtain ⟨o,h⟩:=Zs h
 try simp only[Nat.reduceLeDiff] at o
 simp only[*,go_sem,seval]
 exact yC h [] [226,1]
 exact yC h [] [0,1]
 rintro a ⟨sl,ob,n⟩ e _ h
 simp only[go_sem,seval,Zc] at e
 obtain ⟨⟨_,_,_,_,_⟩,_,_,hn⟩:=e
 subst hn
 have:=Zz (v1.length)
 cases h;exact yD
theorem Qp {s_0:ByteArray} {r:Bool} (h:Qv s_0=some r):Zl prog J0 158 [(false,[.str s_0])] [(false,[(false,.bool r)])]:=by
 refine fnk func158 rfl ?_
 unfold Qv at h
 simp only[fnS,f158,Zm,go_sem,seval]
 refine Za h fun v1 a h=>Zb (XR a)<|yA ?_
 refine yB h (fun _ h=>?_) fun _ h=>?_
 cases h;exact yD
 refine Za h fun _ b h=>Zb (Qq b) ?_
 cases h;exact yD
theorem ZbQ {p_0:Zv} {r:(List ByteArray)} (h:Za0 p_0=some r):Zl prog J0 155 [(true,Qz p_0)] [(false,[(false,.sl 9 1 (A0 Zw r))])]:=by
 refine fnk func155 rfl ?_
 unfold Za0 at h
 simp only[fnS,f155,Zm,go_sem,seval]
 refine Zh h (fun i a st=>IV [(1,.bp 0 0),(3,.p false [.row 1]),(4,yL i)] [.box 58 [.c (.str p_0.rel),.c (yP p_0.args)],.row 9 1 (A0 Zw a) 2] st) [] [0,32] yF yD ?_ ?_
 rintro _ _ a ⟨sl,ob,n⟩ _ b d f h _
 simp only[go_sem,seval,Zc] at d
 obtain ⟨⟨_,_,_⟩,g,_,hn⟩:=d
 subst hn
 have k:=WF.boxL f g (j:=1) rfl
 have:=ZB b
 have:=ZC b
 have:=Zj (ZA b) k
 simp only[*,go_sem,seval]
 refine Za h fun _ l h=>Zb (Qq l)<|yA ?_
 refine yB h (fun _ h=>?_) fun _ h=>?_
 refine Za h fun _ m h=>Zb (Y1 m)<|yA ?_
 exact yC h [] [0,274]
 exact yC h [] [0,1]
 rintro a ⟨sl,ob,n⟩ e _ h
 simp only[go_sem,seval,Zc] at e
 obtain ⟨⟨_,_,_⟩,_,_,hn⟩:=e
 subst hn
 have:=Zz (p_0.args.length)
 cases h;exact yD
theorem Za3 {a_0:Zd} {b_1:Zd} {r:Int} (h:YZ a_0 b_1=some r):Zl prog J0 52 [(true,Zq a_0),(true,Zq b_1)] [(false,[(false,.int .i64 r)])]:=by
 refine fnk func52 rfl ?_
 unfold YZ at h
 simp only[fnS,f52,Zm,go_sem,seval]
 refine yB h (fun _ h=>?_) fun _ h=>?_
 refine Zh h (fun i _ st=>IV [(2,.bp 0 0),(3,.bp 1 0),(5,yL i)] [yZ 71 (Zq a_0),yZ 71 (Zq b_1)] st) [] [0,16] yF yD ?_ ?_
 rintro _ _ ⟨⟩ ⟨sl,ob,n⟩ _ a d f h b
 simp only[go_sem,seval,Zc] at d
 obtain ⟨⟨_,_,_⟩,g,_,hn⟩:=d
 subst hn
 have k:=WF.boxL f g (j:=1) rfl
 have:=ZB a
 have:=ZC a
 have:=Zj (ZA a) k
 simp only[*,go_sem,seval]
 refine yB h (fun _ h=>?_) fun _ h=>?_
 obtain ⟨_,_,_,l,h⟩:=Zci h
 simp only[A6] at l
 simp only[*,go_sem,seval]
 refine Za h fun _ m h=>Zb (Zdr m)<|yA ?_
 refine yB h (fun _ h=>?_) fun _ h=>?_
 replace h:=Zo h b
 cases h;exact yD
 exact yC h [] [0,1]
 refine yB h (fun _ h=>?_) fun _ h=>?_
 replace h:=Zo h b
 cases h;exact yD
 refine yB h (fun _ h=>?_) fun _ h=>?_
 iterate 2 (replace h:=Zo h b;cases h;simp only[*,go_sem,seval])
 rintro ⟨⟩ ⟨sl,ob,n⟩ e _ h
 simp only[go_sem,seval,Zc] at e
 obtain ⟨⟨_,_,_⟩,_,_,hn⟩:=e
 subst hn
 have:=Zz (a_0.args.length)
 iterate 2 (simp only[*,go_sem,seval];(refine Ze h (fun _ h=>?_) fun _ h=>?_<;>try simp only[*,go_sem,seval]);cases h)
 simp only[*,go_sem,seval]
 cases h;exact yD
 refine Za h fun _ o h=>Zb (Zkf o) ?_
 cases h;exact yD
theorem Zjg {f_0:Zd} {r:Bool} (h:ZdZ f_0=some r):Zl prog J0 188 [(true,Zq f_0)] [(false,[(false,.bool r)])]:=by
 refine fnk func188 rfl ?_
 unfold ZdZ at h
 simp only[fnS,f188,Zm,go_sem,seval]
 refine Zh h (fun i _ st=>IV [(1,.bp 0 0),(3,yL i)] [yZ 71 (Zq f_0)] st) [] [0] yF yD ?_ ?_
 rintro _ _ ⟨⟩ ⟨sl,ob,n⟩ _ a b e h f
 simp only[go_sem,seval,Zc] at b
 obtain ⟨⟨_,_⟩,g,hn⟩:=b
 subst hn
 have k:=WF.boxL e g (j:=1) rfl
 have:=ZB a
 have:=ZC a
 have:=Zj (ZA a) k
 simp only[*,go_sem,seval]
 refine Za h fun _ l h=>Zb (XR l)<|yA ?_
 refine yB h (fun _ h=>?_) fun _ h=>?_
 exact yC h [] [0]
 replace h:=Zo h f
 cases h;exact yD
 rintro ⟨⟩ ⟨sl,ob,n⟩ d _ h
 simp only[go_sem,seval,Zc] at d
 obtain ⟨⟨_,_⟩,_,hn⟩:=d
 subst hn
 have:=Zz (f_0.args.length)
 simp only[*,go_sem,seval]
 refine Za h fun _ m h=>Zb (ZfW m)<|yA ?_
 refine yB h (fun _ h=>?_) fun _ h=>?_
 iterate 2 (cases h;exact yD)
theorem Qy {b_0:(List Zp)} {r:Bool} (h:Xt b_0=some r):Zl prog J0 89 [(false,[.sl 135 2 (A0 ZZ b_0)])] [(false,[(false,.bool r)])]:=by
 refine fnk func89 rfl ?_
 unfold Xt at h
 simp only[fnS,f89,Zm,go_sem,seval]
 refine Zh h (fun i _ st=>IV [(0,yM (yT b_0)),(3,yL i)] [] st) [] [] yF yD ?_ ?_
 rintro _ _ ⟨⟩ ⟨sl,ob,n⟩ _ a b f h d
 simp only[go_sem,seval,Zc] at b
 obtain ⟨⟨g,_⟩,hn⟩:=b
 subst hn
 have k:=WF.slotL f g (j:=0) rfl
 have:=ZB a
 have:=ZC a
 have:=Zj (ZA a) k
 simp only[*,go_sem,seval]
 refine Za h fun _ l h=>Zb (Qq l)<|yA ?_
 refine yB h (fun _ h=>?_) fun _ h=>?_
 refine Za h fun _ m h=>Zb (XR m)<|yA ?_
 iterate 2 refine yB h (fun _ h=>?_) fun _ h=>?_
 obtain ⟨_,_,_,_,h⟩:=Zci h
 simp only[*,go_sem,seval]
 refine yB h (fun _ h=>?_) fun _ h=>?_
 exact yC h [] []
 replace h:=Zo h d
 cases h;exact yD
 refine ⟨_,[],[],(A3 h).symm,yF,?_⟩
 iterate 2 (simp only[*,go_sem,seval];replace h:=Zo h d;cases h)
 simp only[*,go_sem,seval]
 rintro ⟨⟩ ⟨sl,ob,n⟩ e _ h
 simp only[go_sem,seval,Zc] at e
 obtain ⟨⟨_,_⟩,hn⟩:=e
 subst hn
 have:=Zz (b_0.length)
 cases h;exact yD
theorem Zcl {b_0:(List Zp)} {term_1:ByteArray} {r:(ByteArray × Bool)} (h:ZaI b_0 term_1=some r):Zl prog J0 162 [(false,[.sl 135 2 (A0 ZZ b_0)]),(false,[.str term_1])] [(false,[(false,.str r.1)]),(false,[(false,.bool r.2)])]:=by
 refine fnk func162 rfl ?_
 unfold ZaI at h
 have e:Z2 ⟨#[]⟩=true:=by decide
 simp only[fnS,f162,Zm,go_sem,seval,e]
 refine Za h fun v1 f h=>Zb (XR f)<|yA ?_
 refine yB h (fun _ h=>?_) fun _ h=>?_
 cases h;exact yD
 refine Zh h (fun i _ st=>IV [(0,yM (yT b_0)),(1,yM (.str term_1)),(6,yL i)] [] st) [] [] yF yD ?_ ?_
 rintro _ _ ⟨⟩ ⟨sl,ob,n⟩ _ a b g h k
 simp only[go_sem,seval,Zc] at b
 obtain ⟨⟨l,_,_⟩,hn⟩:=b
 subst hn
 have m:=WF.slotL g l (j:=0) rfl
 have:=ZB a
 have:=ZC a
 have:=Zj (ZA a) m
 simp only[*,go_sem,seval]
 refine yB h (fun _ h=>?_) fun _ h=>?_
 refine Za h fun _ o h=>Zb (Qq o)<|yA ?_
 refine yB h (fun _ h=>?_) fun _ h=>?_
 replace h:=Zo h k
 cases h;exact yD
 exact yC h [] []
 exact yC h [] []
 rintro ⟨⟩ ⟨sl,ob,n⟩ d _ h
 simp only[go_sem,seval,Zc] at d
 obtain ⟨⟨_,_,_⟩,hn⟩:=d
 subst hn
 have:=Zz (b_0.length)
 cases h;exact yD
theorem Zoi {t_0:Zt} {r:Zt} (h:ZfQ t_0=some r):Zl prog J0 247 [(true,YE t_0)] [(true,[(false,.sl 71 2 (A0 Zq r.facts)),(false,.sl 135 2 (A0 ZZ r.binding))])]:=by
 refine fnk func247 rfl ?_
 unfold ZfQ at h
 simp only[fnS,f247,Zm,go_sem,seval]
 refine Za h fun v1 a h=>Zb (ZdO a)<|yA ?_
 refine Za h fun _ b h=>Zb (Zf8 b) ?_
 cases h;exact yD
theorem ZgA {l_0:(List Zd)} {facts_1:(List Zd)} {r:(List Int)} (h:Zbu l_0 facts_1=some r):Zl prog J0 230 [(false,[.sl 71 2 (A0 Zq l_0)]),(false,[.sl 71 2 (A0 Zq facts_1)])] [(false,[(false,.sl 3 1 (A0 Z5 r))])]:=by
 refine fnk func230 rfl ?_
 unfold Zbu at h
 simp only[fnS,f230,Zm,go_sem,seval]
 refine Zh h (fun i a st=>IV [(0,yM (yO l_0)),(1,yM (yO facts_1)),(5,.p false [.row 0]),(6,yL i)] [.row 3 1 (A0 Z5 a) 2] st) [] [16] yF yD ?_ ?_
 rintro _ _ a ⟨sl,ob,n⟩ _ b d f h _
 simp only[go_sem,seval,Zc] at d
 obtain ⟨⟨_,g,_,_⟩,_,hn⟩:=d
 subst hn
 have k:=WF.slotL f g (j:=0) rfl
 have:=ZB b
 have:=ZC b
 have:=Zj (ZA b) k
 simp only[*,go_sem,seval]
 refine Za h fun _ l h=>Zb (ZbJ l)<|yA ?_
 refine yB h (fun _ h=>?_) fun _ h=>?_
 refine Za h fun _ m h=>Zb (Zpb m)<|yA ?_
 exact yC h [] [241]
 exact yC h [] [0]
 rintro a ⟨sl,ob,n⟩ e _ h
 simp only[go_sem,seval,Zc] at e
 obtain ⟨⟨_,_,_,_⟩,_,hn⟩:=e
 subst hn
 have:=Zz (facts_1.length)
 cases h;exact yD
end
section
theorem Zfk {append_0:Zv} {String_1:Zd} {a_2:(List Zp)} {r:((List Zp) × Bool)} (h:ZaF append_0 String_1 a_2=some r):Zl prog J0 138 [(true,Qz append_0),(true,Zq String_1),(false,[.sl 135 2 (A0 ZZ a_2)])] [(false,[(false,.sl 135 2 (A0 ZZ r.1))]),(false,[(false,.bool r.2)])]:=by
 refine fnk func138 rfl ?_
 unfold ZaF at h
 simp only[fnS,f138,Zm,go_sem,seval]
 refine Za h fun v1 g h=>Zb (XL g)<|yA ?_
 refine yB h (fun _ h=>?_) fun _ h=>?_
 refine Za h fun _ k h=>Zb (Zjf k)<|yA ?_
 refine yB h (fun _ h=>?_) fun _ h=>?_
 refine Za h fun _ l h=>Zb (Qk l)<|yA ?_
 iterate 3 refine yB h (fun _ h=>?_) fun _ h=>?_
 cases h;exact yD
 refine Za h fun _ m h=>Zb (Zfq m)<|yA ?_
 refine Zh h (fun i a st=>IV [(4,.bp 0 0),(8,.p false [.row 1]),(45,yM (yP append_0.args)),(46,yL append_0.args.length),(47,yL i)] [yZ 71 (Zq String_1),.row 135 2 (A0 ZZ a) 2] st) [] [16,544] yF yD ?_ ?_
 rintro _ _ a ⟨sl,ob,n⟩ _ b d o h e
 simp only[go_sem,seval,Zc] at d
 obtain ⟨⟨_,_,q,_,_⟩,_,_,hn⟩:=d
 subst hn
 have t:=WF.slotL o q (j:=0) rfl
 have:=ZB b
 have:=ZC b
 have:=Zj (ZA b) t
 simp only[*,go_sem,seval]
 refine Za h fun _ u h=>Zb (XS u)<|yA ?_
 refine yB h (fun _ h=>?_) fun _ h=>?_
 obtain ⟨_,_,_,v,h⟩:=Zci h
 simp only[A6] at v
 simp only[*,go_sem,seval]
 refine yB h (fun _ h=>?_) fun _ h=>?_
 exact yC h [] [0,1]
 replace h:=Zo h e
 cases h;exact yD
 obtain ⟨_,_,_,w,h⟩:=Zci h
 simp only[A6] at w
 simp only[*,go_sem,seval]
 refine Za h fun _ x h=>Zb (Zo9 x)<|yA ?_
 refine yB h (fun _ h=>?_) fun _ h=>?_
 exact yC h [] [0,242]
 replace h:=Zo h e
 cases h;exact yD
 rintro a ⟨sl,ob,n⟩ f _ h
 simp only[go_sem,seval,Zc] at f
 obtain ⟨⟨_,_,_,_,_⟩,_,_,hn⟩:=f
 subst hn
 have:=Zz (append_0.args.length)
 iterate 5 (cases h;exact yD)
theorem Zfj {x_0:Zr} {r:Bool} (h:Zdj x_0=some r):Zl prog J0 201 [(true,ZK x_0)] [(false,[(false,.bool r)])]:=by
 refine fnk func201 rfl ?_
 unfold Zdj at h
 have a:Z2 ⟨#[]⟩=true:=by decide
 simp only[fnS,f201,Zm,go_sem,seval,a]
 refine yB h (fun _ h=>?_) fun _ h=>?_
 refine Za h fun v1 b h=>Zb (XL b)<|yA ?_
 iterate 2 refine yB h (fun _ h=>?_) fun _ h=>?_
 iterate 3 (cases h;exact yD)
 refine yB h (fun _ h=>?_) fun _ h=>?_
 refine Za h fun _ c h=>Zb (XL c)<|yA ?_
 iterate 2 refine yB h (fun _ h=>?_) fun _ h=>?_
 iterate 3 (cases h;exact yD)
 refine yB h (fun _ h=>?_) fun _ h=>?_
 refine Za h fun _ d h=>Zb (QF d)<|yA ?_
 refine yB h (fun _ h=>?_) fun _ h=>?_
 refine Za h fun _ e h=>Zb (QF e)<|yA ?_
 refine yB h (fun _ h=>?_) fun _ h=>?_
 refine Za h fun _ f h=>Zb (QN f) ?_
 iterate 3 (cases h;exact yD)
 refine yB h (fun _ h=>?_) fun _ h=>?_
 refine Za h fun _ g h=>Zb (QF g)<|yA ?_
 refine yB h (fun _ h=>?_) fun _ h=>?_
 refine Za h fun _ i h=>Zb (QF i)<|yA ?_
 refine yB h (fun _ h=>?_) fun _ h=>?_
 refine Za h fun _ j h=>Zb (QN j) ?_
 iterate 3 (cases h;exact yD)
 refine yB h (fun _ h=>?_) fun _ h=>?_
 refine Za h fun _ k h=>Zb (QF k)<|yA ?_
 refine yB h (fun _ h=>?_) fun _ h=>?_
 refine Za h fun _ l h=>Zb (QF l)<|yA ?_
 refine yB h (fun _ h=>?_) fun _ h=>?_
 refine Za h fun _ m h=>Zb (QN m) ?_
 iterate 4 (cases h;exact yD)
theorem ZnM {a:(List Zd)} {f_1:Zd} {r:(List Zd)} (h:XF a f_1=some r):Zl prog J0 121 [(false,[.sl 71 2 (A0 Zq a)]),(true,Zq f_1)] [(false,[(false,.sl 71 2 (A0 Zq r))])]:=by
 refine fnk func121 rfl ?_
 unfold XF at h
 simp only[fnS,f121,Zm,go_sem,seval]
 refine Zh h (fun i s st=>match s with | (b,d)=>IV [(3,.bp 0 0),(5,.p false [.row 1]),(6,yM (.bool d)),(9,yM (yO a)),(10,yL a.length),(11,yL i)] [yZ 71 (Zq f_1),.row 71 2 (A0 Zq b) 2] st) [(false,5,0)] [0,112] yF yD ?_ ?_
 rintro _ _ ⟨b,d⟩ ⟨sl,ob,n⟩ _ e f l h _
 simp only[go_sem,seval,Zc] at f
 obtain ⟨⟨_,_,_,m,_,_⟩,_,_,hn⟩:=f
 subst hn
 have o:=WF.slotL l m (j:=0) rfl
 have:=ZB e
 have:=ZC e
 have:=Zj (ZA e) o
 simp only[*,go_sem,seval]
 refine yB h (fun _ h=>?_) fun _ h=>?_
 refine Za h fun _ q h=>Zb (YC q) ?_
 obtain ⟨t,h⟩:=Zs h
 try simp only[Nat.reduceLeDiff] at t
 simp only[*,go_sem,seval]
 exact yC h [] [0,274]
 refine Za h fun _ u h=>Zb (Zdp u)<|yA ?_
 refine yB h (fun _ h=>?_) fun _ h=>?_
 refine Za h fun _ v h=>Zb (YC v) ?_
 obtain ⟨w,h⟩:=Zs h
 try simp only[Nat.reduceLeDiff] at w
 simp only[*,go_sem,seval]
 refine Za h fun _ x h=>Zb (YC x) ?_
 obtain ⟨y,h⟩:=Zs h
 try simp only[Nat.reduceLeDiff] at y
 simp only[*,go_sem,seval]
 exact yC h [] [0,386]
 refine Za h fun _ z h=>Zb (YC z) ?_
 obtain ⟨A,h⟩:=Zs h
 try simp only[Nat.reduceLeDiff] at A
 simp only[*,go_sem,seval]
 exact yC h [] [0,274]
 rintro ⟨b,d⟩ ⟨sl,ob,n⟩ g _ h
 simp only[go_sem,seval,Zc] at g
 obtain ⟨⟨_,_,_,_,_,_⟩,_,_,hn⟩:=g
 subst hn
 have:=Zz (a.length)
 simp only[*,go_sem,seval]
 refine yB h (fun _ h=>?_) fun _ h=>?_
 cases h;exact yD
 refine Za h fun _ B h=>Zb (YC B) ?_
 obtain ⟨C,h⟩:=Zs h
 try simp only[Nat.reduceLeDiff] at C
 cases h;exact yD
theorem ZdP {p_0:Zv} {b_1:(List Zp)} {r:(Zd × Bool)} (h:XZ p_0 b_1=some r):Zl prog J0 174 [(true,Qz p_0),(false,[.sl 135 2 (A0 ZZ b_1)])] [(true,[(false,.str r.1.rel),(false,.sl 9 1 (A0 Zw r.1.args))]),(false,[(false,.bool r.2)])]:=by
 refine fnk func174 rfl ?_
 unfold XZ at h
 simp only[fnS,f174,Zm,go_sem,seval]
 refine Za h fun v1 f h=>Zb (XL f)<|yA ?_
 refine yB h (fun _ h=>?_) fun _ h=>?_
 refine Za h fun _ g h=>Zb (Qk g)<|yA ?_
 refine yB h (fun _ h=>?_) fun _ h=>?_
 refine Zh h (fun i a st=>IV [(1,yM (yT b_1)),(4,.bp 0 0),(6,.bp 1 0),(24,yM (yP p_0.args)),(25,yL p_0.args.length),(26,yL i)] [.box 71 [.c (.str ⟨#[]⟩),.nil 9 1],.box 71 [.c (.str p_0.rel),.row 2],.row 9 1 (A0 Zw a) 2] st) [(true,224,1)] [16,224,320] yF yD ?_ ?_
 rintro _ _ a ⟨sl,ob,n⟩ _ b d k h l
 simp only[go_sem,seval,Zc] at d
 obtain ⟨⟨_,_,_,m,_,_⟩,_,_,_,hn⟩:=d
 subst hn
 have o:=WF.slotL k m (j:=0) rfl
 have:=ZB b
 have:=ZC b
 have:=Zj (ZA b) o
 simp only[*,go_sem,seval]
 refine Za h fun _ q h=>Zb (Zcn q)<|yA ?_
 refine yB h (fun _ h=>?_) fun _ h=>?_
 obtain ⟨t,h⟩:=Zs h
 try simp only[Nat.reduceLeDiff] at t
 simp only[*,go_sem,seval]
 exact yC h [] [0,1,291]
 replace h:=Zo h l
 cases h;exact yD
 rintro a ⟨sl,ob,n⟩ e _ h
 simp only[go_sem,seval,Zc] at e
 obtain ⟨⟨_,_,_,_,_,_⟩,_,_,_,hn⟩:=e
 subst hn
 have:=Zz (p_0.args.length)
 iterate 3 (cases h;exact yD)
theorem Zfo {r_0:Zf} {k_1:Int} {v_2:ByteArray} {r:Bool} (h:Xm r_0 k_1 v_2=some r):Zl prog J0 256 [(true,ZG r_0),(false,[.int .i64 k_1]),(false,[.str v_2])] [(false,[(false,.bool r)])]:=by
 refine fnk func256 rfl ?_
 unfold Xm at h
 simp only[fnS,f256,Zm,go_sem,seval]
 refine Zh h (fun i _ st=>IV [(1,yM (.int .i64 k_1)),(2,yM (.str v_2)),(3,.bp 0 0),(12,yM (yS r_0.cond)),(13,yL r_0.cond.length),(14,yL i)] [yZ 104 (ZG r_0)] st) [] [0] yF yD ?_ ?_
 rintro _ _ ⟨⟩ ⟨sl,ob,n⟩ _ a d k h l
 simp only[go_sem,seval,Zc] at d
 obtain ⟨⟨_,_,_,m,_,_⟩,_,hn⟩:=d
 subst hn
 have o:=WF.slotL k m (j:=0) rfl
 have:=ZB a
 have:=ZC a
 have:=Zj (ZA a) o
 simp only[*,go_sem,seval]
 refine yB h (fun _ h=>?_) fun _ h=>?_
 refine Za h fun _ q h=>Zb (ZbA q)<|yA ?_
 refine Za h fun _ t h=>Zb (QT t)<|yA ?_
 refine yB h (fun _ h=>?_) fun _ h=>?_
 replace h:=Zo h l
 cases h;exact yD
 exact yC h [] [0]
 exact yC h [] [0]
 rintro ⟨⟩ ⟨sl,ob,n⟩ e _ h
 simp only[go_sem,seval,Zc] at e
 obtain ⟨⟨_,_,_,_,_,_⟩,_,hn⟩:=e
 subst hn
 have:=Zz (r_0.cond.length)
 simp only[*,go_sem,seval]
 refine Zh h (fun i _ st=>IV [(2,yM (.str v_2)),(30,yM (yU r_0.thn)),(31,yL r_0.thn.length),(32,yL i)] [] st) [] [] yF yD ?_ ?_
 rintro _ _ ⟨⟩ ⟨sl,ob,n⟩ _ b f u h v
 simp only[go_sem,seval,Zc] at f
 obtain ⟨⟨_,w,_,_⟩,hn⟩:=f
 subst hn
 have x:=WF.slotL u w (j:=0) rfl
 have:=ZB b
 have:=ZC b
 have:=Zj (ZA b) x
 simp only[*,go_sem,seval]
 refine Za h fun _ y h=>Zb (QT y)<|yA ?_
 refine yB h (fun _ h=>?_) fun _ h=>?_
 replace h:=Zo h v
 cases h;exact yD
 exact yC h [] []
 rintro ⟨⟩ ⟨sl,ob,n⟩ g _ h
 simp only[go_sem,seval,Zc] at g
 obtain ⟨⟨_,_,_,_⟩,hn⟩:=g
 subst hn
 have:=Zz (r_0.thn.length)
 cases h;exact yD
theorem Zl0 {a_0:Zx} {r:Bool} (h:Zc5 a_0=some r):Zl prog J0 204 [(true,ZD a_0)] [(false,[(false,.bool r)])]:=by
 refine fnk func204 rfl ?_
 unfold Zc5 at h
 simp only[fnS,f204,Zm,go_sem,seval]
 refine yB h (fun _ h=>?_) fun _ h=>?_
 refine Za h fun v1 a h=>Zb (XL a) ?_
 cases h;exact yD
 refine yB h (fun _ h=>?_) fun _ h=>?_
 refine Za h fun _ b h=>Zb (XL b) ?_
 cases h;exact yD
 refine yB h (fun _ h=>?_) fun _ h=>?_
 refine Za h fun _ c h=>Zb (QN c) ?_
 iterate 2 (cases h;exact yD)
theorem Zjn {l_0:(List Zr)} {r:(List ByteArray)} (h:Za4 l_0=some r):Zl prog J0 208 [(false,[.sl 60 5 (A0 ZK l_0)])] [(false,[(false,.sl 9 1 (A0 Zw r))])]:=by
 refine fnk func208 rfl ?_
 unfold Za4 at h
 simp only[fnS,f208,Zm,go_sem,seval]
 refine Zh h (fun i a st=>IV [(3,.p false [.row 0]),(6,yM (yS l_0)),(7,yL l_0.length),(8,yL i)] [.row 9 1 (A0 Zw a) 2] st) [(false,3,0)] [80] yF yD ?_ ?_
 rintro _ _ a ⟨sl,ob,n⟩ _ b d f h _
 simp only[go_sem,seval,Zc] at d
 obtain ⟨⟨_,g,_,_⟩,_,hn⟩:=d
 subst hn
 have k:=WF.slotL f g (j:=0) rfl
 have:=ZB b
 have:=ZC b
 have:=Zj (ZA b) k
 simp only[*,go_sem,seval]
 refine Za h fun _ l h=>Zb (ZbA l) ?_
 obtain ⟨_,h⟩:=Zs h
 simp only[*,go_sem,seval]
 exact yC h [] [129]
 rintro a ⟨sl,ob,n⟩ e _ h
 simp only[go_sem,seval,Zc] at e
 obtain ⟨⟨_,_,_,_⟩,_,hn⟩:=e
 subst hn
 have:=Zz (l_0.length)
 cases h;exact yD
theorem ZlA {l_0:(List Zd)} {r:Bool} (h:ZcA l_0=some r):Zl prog J0 235 [(false,[.sl 71 2 (A0 Zq l_0)])] [(false,[(false,.bool r)])]:=by
 refine fnk func235 rfl ?_
 unfold ZcA at h
 simp only[fnS,f235,Zm,go_sem,seval]
 refine yB h (fun _ h=>?_) fun _ h=>?_
 cases h;exact yD
 refine Zh h (fun i _ st=>IV [(0,yM (yO l_0)),(8,yM (yO l_0)),(9,yL l_0.length),(10,yL i)] [] st) [] [] yF yD ?_ ?_
 rintro _ _ ⟨⟩ ⟨sl,ob,n⟩ _ a b f h d
 simp only[go_sem,seval,Zc] at b
 obtain ⟨⟨g,_,_,_⟩,hn⟩:=b
 subst hn
 have k:=WF.slotL f g (j:=0) rfl
 have:=ZB a
 have:=ZC a
 have:=Zj (ZA a) k
 simp only[*,go_sem,seval]
 refine Za h fun _ l h=>Zb (Zjf l)<|yA ?_
 iterate 2 refine yB h (fun _ h=>?_) fun _ h=>?_
 obtain ⟨_,_,_,_,h⟩:=Zci h
 simp only[*,go_sem,seval]
 refine Za h fun _ m h=>Zb (Zdp m)<|yA ?_
 refine yB h (fun _ h=>?_) fun _ h=>?_
 replace h:=Zo h d
 cases h;exact yD
 exact yC h [] []
 exact yC h [] []
 replace h:=Zo h d
 cases h;exact yD
 rintro ⟨⟩ ⟨sl,ob,n⟩ e _ h
 simp only[go_sem,seval,Zc] at e
 obtain ⟨⟨_,_,_,_⟩,hn⟩:=e
 subst hn
 have:=Zz (l_0.length)
 cases h;exact yD
theorem Y3 {p_0:Zv} {r:Bool} (h:YD p_0=some r):Zl prog J0 157 [(true,Qz p_0)] [(false,[(false,.bool r)])]:=by
 refine fnk func157 rfl ?_
 unfold YD at h
 simp only[fnS,f157,Zm,go_sem,seval]
 refine Zh h (fun i _ st=>IV [(1,.bp 0 0),(3,yL i)] [.box 58 [.c (.str p_0.rel),.c (yP p_0.args)]] st) [] [0] yF yD ?_ ?_
 rintro _ _ ⟨⟩ ⟨sl,ob,n⟩ _ a b e h f
 simp only[go_sem,seval,Zc] at b
 obtain ⟨⟨_,_⟩,g,hn⟩:=b
 subst hn
 have k:=WF.boxL e g (j:=1) rfl
 have:=ZB a
 have:=ZC a
 have:=Zj (ZA a) k
 simp only[*,go_sem,seval]
 refine Za h fun _ l h=>Zb (Qp l)<|yA ?_
 refine yB h (fun _ h=>?_) fun _ h=>?_
 exact yC h [] [0]
 replace h:=Zo h f
 cases h;exact yD
 rintro ⟨⟩ ⟨sl,ob,n⟩ d _ h
 simp only[go_sem,seval,Zc] at d
 obtain ⟨⟨_,_⟩,_,hn⟩:=d
 subst hn
 have:=Zz (p_0.args.length)
 simp only[*,go_sem,seval]
 refine Za h fun _ m h=>Zb (ZfW m)<|yA ?_
 refine yB h (fun _ h=>?_) fun _ h=>?_
 iterate 2 (cases h;exact yD)
theorem ZaS {r_0:Zf} {n_1:Int} {r:(List ByteArray)} (h:XT r_0 n_1=some r):Zl prog J0 149 [(true,ZG r_0),(false,[.int .i64 n_1])] [(false,[(false,.sl 9 1 (A0 Zw r))])]:=by
 refine fnk func149 rfl ?_
 unfold XT at h
 simp only[fnS,f149,Zm,go_sem,seval]
 refine Zh h (fun i a st=>IV [(1,yM (.int .i64 n_1)),(2,.bp 0 0),(5,.p false [.row 1]),(6,yL i)] [yZ 104 (ZG r_0),.row 9 1 (A0 Zw a) 2] st) [] [0,32] yF yD ?_ ?_
 rintro b _ a ⟨sl,ob,n⟩ _ d g q h t
 simp only[go_sem,seval,Zc] at g
 obtain ⟨⟨_,_,_,_⟩,u,_,hn⟩:=g
 subst hn
 have v:=WF.boxL q u (j:=2) rfl
 have:=ZB d
 have:=ZC d
 have:=Zj (ZA d) v
 simp only[*,go_sem,seval]
 iterate 2 refine yB h (fun _ h=>?_) fun _ h=>?_
 refine Za h fun k w h=>Zb (ZbQ w)<|yA ?_
 refine Zh h (fun i e st=>IV [(1,yM (.int .i64 n_1)),(2,.bp 0 0),(5,.p false [.row 1]),(6,yL b),(7,.p false [.row 2]),(8,yL i),(16,yL b),(17,yM (.int .i64 n_1)),(18,yM (.bool (decide (((b:Nat):Int)<n_1))))] [yZ 104 (ZG r_0),.row 9 1 (A0 Zw e) 2,.row 9 1 (A0 Zw k) 2] st) [] [0,1,370] yF yD ?_ ?_
 rintro _ _ e ⟨sl,ob,n⟩ _ f l x h _
 simp only[go_sem,seval,Zc] at l
 obtain ⟨⟨_,_,_,_,_,_,_,_,_⟩,_,_,y,hn⟩:=l
 subst hn
 have z:=WF.rowL x y
 have:=ZB f
 have:=ZC f
 have:=Zj (ZA f) z
 simp only[*,go_sem,seval]
 refine Za h fun _ A h=>Zb (Y1 A)<|yA ?_
 exact yC h [] [0,147,2]
 rintro e ⟨sl,ob,n⟩ m _ h
 simp only[go_sem,seval,Zc] at m
 obtain ⟨⟨_,_,_,_,_,_,_,_,_⟩,_,_,_,hn⟩:=m
 subst hn
 have:=Zz (k.length)
 simp only[*,go_sem,seval]
 exact yC h [] [0,1]
 exact yC h [] [0,1]
 replace h:=Zo h t
 cases h;exact yD
 rintro a ⟨sl,ob,n⟩ o _ h
 simp only[go_sem,seval,Zc] at o
 obtain ⟨⟨_,_,_,_⟩,_,_,hn⟩:=o
 subst hn
 have:=Zz (r_0.cond.length)
 cases h;exact yD
theorem Q7 {x_0:Zr} {r:(List ByteArray)} (h:Xz x_0=some r):Zl prog J0 150 [(true,ZK x_0)] [(false,[(false,.sl 9 1 (A0 Zw r))])]:=by
 refine fnk func150 rfl ?_
 unfold Xz at h
 simp only[fnS,f150,Zm,go_sem,seval]
 refine Za h fun v1 a h=>Zb (ZbQ a)<|yA ?_
 refine Za h fun _ b h=>Zb (Qq b)<|yA ?_
 refine yB h (fun _ h=>?_) fun _ h=>?_
 refine Za h fun _ c h=>Zb (Y1 c)<|yA ?_
 refine Za h fun _ d h=>Zb (Qq d)<|yA ?_
 refine yB h (fun _ h=>?_) fun _ h=>?_
 refine Za h fun _ e h=>Zb (Y1 e) ?_
 iterate 2 (cases h;exact yD)
 refine Za h fun _ f h=>Zb (Qq f)<|yA ?_
 refine yB h (fun _ h=>?_) fun _ h=>?_
 refine Za h fun _ g h=>Zb (Y1 g) ?_
 iterate 2 (cases h;exact yD)
theorem Zdi {a:(List Zd)} {f_1:Zd} {r:(List Zd)} (h:YI a f_1=some r):Zl prog J0 117 [(false,[.sl 71 2 (A0 Zq a)]),(true,Zq f_1)] [(false,[(false,.sl 71 2 (A0 Zq r))])]:=by
 refine fnk func117 rfl ?_
 unfold YI at h
 simp only[fnS,f117,Zm,go_sem,seval]
 refine Zh h (fun i s st=>match s with | (b,d)=>IV [(0,yM (yO a)),(3,.bp 0 0),(5,.p false [.row 1]),(6,yM (.bool d)),(7,yL i)] [yZ 71 (Zq f_1),.row 71 2 (A0 Zq b) 2] st) [] [0,32] yF yD ?_ ?_
 rintro _ _ ⟨b,d⟩ ⟨sl,ob,n⟩ _ e f k h _
 simp only[go_sem,seval,Zc] at f
 obtain ⟨⟨l,_,_,_,_⟩,_,_,hn⟩:=f
 subst hn
 have m:=WF.slotL k l (j:=0) rfl
 have:=ZB e
 have:=ZC e
 have:=Zj (ZA e) m
 simp only[*,go_sem,seval]
 refine yB h (fun _ h=>?_) fun _ h=>?_
 refine Za h fun _ o h=>Zb (Xr o) ?_
 obtain ⟨q,h⟩:=Zs h
 try simp only[Nat.reduceLeDiff] at q
 simp only[*,go_sem,seval]
 exact yC h [] [0,354]
 refine Za h fun _ t h=>Zb (Za3 t)<|yA ?_
 refine yB h (fun _ h=>?_) fun _ h=>?_
 refine Za h fun _ u h=>Zb (Za3 u)<|yA ?_
 refine yB h (fun _ h=>?_) fun _ h=>?_
 refine Za h fun _ v h=>Zb (Xr v) ?_
 obtain ⟨w,h⟩:=Zs h
 try simp only[Nat.reduceLeDiff] at w
 simp only[*,go_sem,seval]
 refine Za h fun _ x h=>Zb (Xr x) ?_
 obtain ⟨y,h⟩:=Zs h
 try simp only[Nat.reduceLeDiff] at y
 simp only[*,go_sem,seval]
 exact yC h [] [0,578]
 refine Za h fun _ z h=>Zb (Xr z) ?_
 obtain ⟨A,h⟩:=Zs h
 try simp only[Nat.reduceLeDiff] at A
 simp only[*,go_sem,seval]
 exact yC h [] [0,482]
 refine Za h fun _ B h=>Zb (Xr B) ?_
 obtain ⟨C,h⟩:=Zs h
 try simp only[Nat.reduceLeDiff] at C
 simp only[*,go_sem,seval]
 exact yC h [] [0,354]
 rintro ⟨b,d⟩ ⟨sl,ob,n⟩ g _ h
 simp only[go_sem,seval,Zc] at g
 obtain ⟨⟨_,_,_,_,_⟩,_,_,hn⟩:=g
 subst hn
 have:=Zz (a.length)
 simp only[*,go_sem,seval]
 refine yB h (fun _ h=>?_) fun _ h=>?_
 cases h;exact yD
 refine Za h fun _ D h=>Zb (Xr D) ?_
 obtain ⟨E,h⟩:=Zs h
 try simp only[Nat.reduceLeDiff] at E
 cases h;exact yD
end
section
theorem ZEt {b_0:Zu} {r:Bool} (h:ZDG b_0=some r):Zl prog J0 265 [(true,Qw b_0)] [(false,[(false,.bool r)])]:=by
 refine fnk func265 rfl ?_
 unfold ZDG at h
 simp only[fnS,f265,Zm,go_sem,seval]
 refine Za h fun v1 o h=>Zb (ZF7 o)<|yA ?_
 refine yB h (fun _ h=>?_) fun _ h=>?_
 refine Zh h (fun i _ st=>IV [(1,.bp 0 0),(3,yL i)] [.box 91 [.c (.int .i64 b_0.nodes),.c (yV b_0.reasons)]] st) [] [0] yF yD ?_ ?_
 rintro q d ⟨⟩ ⟨sl,ob,n⟩ _ a e t h f
 simp only[go_sem,seval,Zc] at e
 obtain ⟨⟨_,_⟩,u,hn⟩:=e
 subst hn
 have v:=WF.boxL t u (j:=1) rfl
 have:=ZB a
 have:=ZC a
 have:=Zj (ZA a) v
 simp only[*,go_sem,seval]
 refine Zh h (fun i _ st=>IV [(1,.bp 0 0),(3,yL q),(4,yM (.int .i64 d.for_)),(5,yL i)] [.box 91 [.c (.int .i64 b_0.nodes),.c (yV b_0.reasons)]] st) [] [0] yF yD ?_ ?_
 rintro _ _ ⟨⟩ ⟨sl,ob,n⟩ _ b g w h k
 simp only[go_sem,seval,Zc] at g
 obtain ⟨⟨_,_,_,_⟩,x,hn⟩:=g
 subst hn
 have y:=WF.elL (WF.boxD w x (j:=1) rfl) a (j:=2) rfl
 have:=ZB b
 have:=ZC b
 have:=Zj (ZA b) y
 simp only[*,go_sem,seval]
 refine yB h (fun _ h=>?_) fun _ h=>?_
 replace h:=Zo h k
 replace h:=Zo h f
 cases h;exact yD
 refine Za h fun _ z h=>Zb (ZGl z) ?_
 obtain ⟨_,h⟩:=Zs h
 obtain ⟨_,_,h⟩:=ZJ h
 simp only[*,go_sem,seval]
 refine yB h (fun _ h=>?_) fun _ h=>?_
 replace h:=Zo h k
 replace h:=Zo h f
 cases h;exact yD
 exact yC h [] [0]
 rintro ⟨⟩ ⟨sl,ob,n⟩ l _ h
 simp only[go_sem,seval,Zc] at l
 obtain ⟨⟨_,_,_,_⟩,_,hn⟩:=l
 subst hn
 have:=Zz (d.outs.length)
 simp only[*,go_sem,seval]
 exact yC h [] [0]
 rintro ⟨⟩ ⟨sl,ob,n⟩ m _ h
 simp only[go_sem,seval,Zc] at m
 obtain ⟨⟨_,_⟩,_,hn⟩:=m
 subst hn
 have:=Zz (b_0.reasons.length)
 iterate 2 (cases h;exact yD)
theorem ZqI {l_0:(List Zd)} {f_1:Zd} {r:Bool} (h:Zh6 l_0 f_1=some r):Zl prog J0 49 [(false,[.sl 71 2 (A0 Zq l_0)]),(true,Zq f_1)] [(false,[(false,.bool r)])]:=by
 refine fnk func49 rfl ?_
 unfold Zh6 at h
 simp only[fnS,f49,Zm,go_sem,seval]
 refine Za h fun v1 a h=>Zb (ZbJ a) ?_
 cases h;exact yD
end
section
theorem ZlI {l_0:(List Zd)} {r:Bool} (h:Zdd l_0=some r):Zl prog J0 112 [(false,[.sl 71 2 (A0 Zq l_0)])] [(false,[(false,.bool r)])]:=by
 refine fnk func112 rfl ?_
 unfold Zdd at h
 simp only[fnS,f112,Zm,go_sem,seval]
 refine Zh h (fun i _ st=>IV [(0,yM (yO l_0)),(3,yL i)] [] st) [] [] yF yD ?_ ?_
 rintro _ _ ⟨⟩ ⟨sl,ob,n⟩ _ a b f h d
 simp only[go_sem,seval,Zc] at b
 obtain ⟨⟨g,_⟩,hn⟩:=b
 subst hn
 have k:=WF.slotL f g (j:=0) rfl
 have:=ZB a
 have:=ZC a
 have:=Zj (ZA a) k
 simp only[*,go_sem,seval]
 refine Za h fun _ l h=>Zb (Zjg l)<|yA ?_
 iterate 2 refine yB h (fun _ h=>?_) fun _ h=>?_
 obtain ⟨_,_,_,_,h⟩:=Zci h
 simp only[*,go_sem,seval]
 refine Za h fun _ m h=>Zb (Za3 m)<|yA ?_
 refine yB h (fun _ h=>?_) fun _ h=>?_
 replace h:=Zo h d
 cases h;exact yD
 exact yC h [] []
 exact yC h [] []
 replace h:=Zo h d
 cases h;exact yD
 rintro ⟨⟩ ⟨sl,ob,n⟩ e _ h
 simp only[go_sem,seval,Zc] at e
 obtain ⟨⟨_,_⟩,hn⟩:=e
 subst hn
 have:=Zz (l_0.length)
 cases h;exact yD
theorem ZoM {b_0:(List Zp)} {v_1:ByteArray} {value_2:ByteArray} {r:((List Zp) × Bool)} (h:Zfm b_0 v_1 value_2=some r):Zl prog J0 226 [(false,[.sl 135 2 (A0 ZZ b_0)]),(false,[.str v_1]),(false,[.str value_2])] [(false,[(false,.sl 135 2 (A0 ZZ r.1))]),(false,[(false,.bool r.2)])]:=by
 refine fnk func226 rfl ?_
 unfold Zfm at h
 simp only[fnS,f226,Zm,go_sem,seval]
 refine Za h fun v1 a h=>Zb (Qy a)<|yA ?_
 refine yB h (fun _ h=>?_) fun _ h=>?_
 refine Za h fun _ b h=>Zb (Qq b)<|yA ?_
 refine yB h (fun _ h=>?_) fun _ h=>?_
 refine Za h fun _ c h=>Zb (XR c)<|yA ?_
 refine yB h (fun _ h=>?_) fun _ h=>?_
 refine Za h fun _ d h=>Zb (Zcl d)<|yA ?_
 iterate 2 refine yB h (fun _ h=>?_) fun _ h=>?_
 refine Za h fun _ e h=>Zb (Zf8 e) ?_
 iterate 2 (cases h;exact yD)
 refine yB h (fun _ h=>?_) fun _ h=>?_
 cases h;exact yD
 refine Za h fun _ f h=>Zb (Zqy f) ?_
 iterate 4 (cases h;exact yD)
theorem ZGr {b:Zu} {r:(List Int)} (h:ZEq b=some r):Zl prog J0 266 [(true,Qw b)] [(false,[(false,.sl 3 1 (A0 Z5 r))])]:=by
 refine fnk func266 rfl ?_
 unfold ZEq at h
 simp only[fnS,f266,Zm,go_sem,seval]
 refine Za h fun v1 B h=>Zb (ZEt B)<|yA ?_
 refine yB h (fun _ h=>?_) fun _ h=>?_
 obtain ⟨_,h⟩:=Zs h
 simp only[*,go_sem,seval]
 refine XH h (fun s st=>match s with | (q,e)=>IV [(1,.bp 0 0),(3,.p false [.row 1]),(4,yM (.int .i64 e))] [.box 91 [.c (.int .i64 b.nodes),.c (yV b.reasons)],.row 3 1 (A0 Z5 q) 2] st) [] [0,112] yF yD ?_
 rintro ⟨q,e⟩ ⟨sl,ob,n⟩ _ t _ h C
 simp only[go_sem,seval,Zc] at t
 obtain ⟨⟨_,_,_⟩,_,_,hn⟩:=t
 subst hn
 simp only[*,go_sem,seval]
 refine yB h (fun _ h=>?_) fun _ h=>?_
 refine Zh h (fun i f st=>IV [(1,.bp 0 0),(3,.p false [.row 1]),(4,yM (.int .i64 e)),(5,yL i)] [.box 91 [.c (.int .i64 b.nodes),.c (yV b.reasons)],.row 3 1 (A0 Z5 f) 2] st) [] [0,1] yF yD ?_ ?_
 rintro u d f ⟨sl,ob,n⟩ _ g v D h _
 simp only[go_sem,seval,Zc] at v
 obtain ⟨⟨_,_,_,_⟩,E,_,hn⟩:=v
 subst hn
 have F:=WF.boxL D E (j:=1) rfl
 have:=ZB g
 have:=ZC g
 have:=Zj (ZA g) F
 simp only[*,go_sem,seval]
 refine Zh h (fun i k st=>IV [(1,.bp 0 0),(3,.p false [.row 1]),(4,yM (.int .i64 e)),(5,yL u),(6,.bp 2 0),(7,yL i)] [.box 91 [.c (.int .i64 b.nodes),.c (yV b.reasons)],.row 3 1 (A0 Z5 k) 2,yZ 144 (ZL d)] st) [] [0,1,162] yF yD ?_ ?_
 rintro _ _ k ⟨sl,ob,n⟩ _ l w G h _
 simp only[go_sem,seval,Zc] at w
 obtain ⟨⟨_,_,_,_,_,_⟩,_,_,H,hn⟩:=w
 subst hn
 have I:=WF.boxL G H (j:=1) rfl
 have:=ZB l
 have:=ZC l
 have:=Zj (ZA l) I
 obtain ⟨_,h⟩:=Zs h
 obtain ⟨_,_,h⟩:=ZJ h
 obtain ⟨_,h⟩:=Zs h
 obtain ⟨_,_,h⟩:=ZJ h
 simp only[*,go_sem,seval]
 exact yC h [] [0,1,2]
 rintro k ⟨sl,ob,n⟩ x _ h
 simp only[go_sem,seval,Zc] at x
 obtain ⟨⟨_,_,_,_,_,_⟩,_,_,_,hn⟩:=x
 subst hn
 have:=Zz (d.inn.length)
 simp only[*,go_sem,seval]
 refine Zh h (fun i m st=>IV [(1,.bp 0 0),(3,.p false [.row 1]),(4,yM (.int .i64 e)),(5,yL u),(6,.bp 2 0),(8,yL i)] [.box 91 [.c (.int .i64 b.nodes),.c (yV b.reasons)],.row 3 1 (A0 Z5 m) 2,yZ 144 (ZL d)] st) [] [0,1,2] yF yD ?_ ?_
 rintro _ _ m ⟨sl,ob,n⟩ _ o y J h _
 simp only[go_sem,seval,Zc] at y
 obtain ⟨⟨_,_,_,_,_,_⟩,_,_,K,hn⟩:=y
 subst hn
 have L:=WF.boxL J K (j:=2) rfl
 have:=ZB o
 have:=ZC o
 have:=Zj (ZA o) L
 obtain ⟨_,h⟩:=Zs h
 obtain ⟨_,_,h⟩:=ZJ h
 obtain ⟨_,h⟩:=Zs h
 obtain ⟨_,_,h⟩:=ZJ h
 simp only[*,go_sem,seval]
 exact yC h [] [0,1,2]
 rintro m ⟨sl,ob,n⟩ z _ h
 simp only[go_sem,seval,Zc] at z
 obtain ⟨⟨_,_,_,_,_,_⟩,_,_,_,hn⟩:=z
 subst hn
 have:=Zz (d.outs.length)
 simp only[*,go_sem,seval]
 exact yC h [] [0,1]
 rintro f ⟨sl,ob,n⟩ A _ h
 simp only[go_sem,seval,Zc] at A
 obtain ⟨⟨_,_,_,_⟩,_,_,hn⟩:=A
 subst hn
 have:=Zz (b.reasons.length)
 simp only[*,go_sem,seval]
 exact yC h [] [0,1]
 replace h:=Zo h C
 iterate 2 (cases h;exact yD)
end
section
theorem Zcx {p_0:Zv} {b_1:(List Zp)} {facts_2:(List Zd)} {r:(List Zd)} (h:Xc p_0 b_1 facts_2=some r):Zl prog J0 94 [(true,Qz p_0),(false,[.sl 135 2 (A0 ZZ b_1)]),(false,[.sl 71 2 (A0 Zq facts_2)])] [(false,[(false,.sl 71 2 (A0 Zq r))])]:=by
 refine fnk func94 rfl ?_
 unfold Xc at h
 simp only[fnS,f94,Zm,go_sem,seval]
 refine Zh h (fun i a st=>IV [(1,yM (yT b_1)),(3,.bp 0 0),(7,.p false [.row 1]),(12,yM (yO facts_2)),(13,yL facts_2.length),(14,yL i)] [.box 58 [.c (.str p_0.rel),.c (yP p_0.args)],.row 71 2 (A0 Zq a) 2] st) [(false,7,0)] [0,96] yF yD ?_ ?_
 rintro _ _ a ⟨sl,ob,n⟩ _ b d f h _
 simp only[go_sem,seval,Zc] at d
 obtain ⟨⟨_,_,_,g,_,_⟩,_,_,hn⟩:=d
 subst hn
 have k:=WF.slotL f g (j:=0) rfl
 have:=ZB b
 have:=ZC b
 have:=Zj (ZA b) k
 simp only[*,go_sem,seval]
 refine Za h fun _ l h=>Zb (Zfk l)<|yA ?_
 refine yB h (fun _ h=>?_) fun _ h=>?_
 refine Za h fun _ m h=>Zb (YC m) ?_
 obtain ⟨o,h⟩:=Zs h
 try simp only[Nat.reduceLeDiff] at o
 simp only[*,go_sem,seval]
 exact yC h [] [0,306]
 exact yC h [] [0,1]
 rintro a ⟨sl,ob,n⟩ e _ h
 simp only[go_sem,seval,Zc] at e
 obtain ⟨⟨_,_,_,_,_,_⟩,_,_,hn⟩:=e
 subst hn
 have:=Zz (facts_2.length)
 cases h;exact yD
theorem Zod {x_0:Zr} {r:Bool} (h:Zhs x_0=some r):Zl prog J0 258 [(true,ZK x_0)] [(false,[(false,.bool r)])]:=by
 refine fnk func258 rfl ?_
 unfold Zhs at h
 simp only[fnS,f258,Zm,go_sem,seval]
 refine Za h fun v1 a h=>Zb (Zfj a)<|yA ?_
 refine yB h (fun _ h=>?_) fun _ h=>?_
 iterate 2 (cases h;exact yD)
theorem ZgJ {r_0:Zf} {k_1:Int} {r:Bool} (h:Zbs r_0 k_1=some r):Zl prog J0 202 [(true,ZG r_0),(false,[.int .i64 k_1])] [(false,[(false,.bool r)])]:=by
 refine fnk func202 rfl ?_
 unfold Zbs at h
 simp only[fnS,f202,Zm,go_sem,seval]
 obtain ⟨a,_,_,_,h⟩:=Zci h
 simp only[*,go_sem,seval]
 refine Za h fun j k h=>Zb (ZcQ k)<|yA ?_
 refine Za h fun b l h=>Zb (ZbA l)<|yA ?_
 refine Zh h (fun i _ st=>IV [(1,yM (.int .i64 k_1)),(2,.bp 0 0),(5,.bp 1 0),(6,.p false [.row 2]),(18,.p false [.row 3]),(19,yL b.length),(20,yL i)] [yZ 104 (ZG r_0),yZ 60 (ZK a),.row 9 1 (A0 Zw j) 2,.row 9 1 (A0 Zw b) 2] st) [] [0,112,176,224] yF yD ?_ ?_
 rintro _ _ ⟨⟩ ⟨sl,ob,n⟩ _ d e m h f
 simp only[go_sem,seval,Zc] at e
 obtain ⟨⟨_,_,_,_,_,_,_⟩,_,_,_,o,hn⟩:=e
 subst hn
 have q:=WF.rowL m o
 have:=ZB d
 have:=ZC d
 have:=Zj (ZA d) q
 simp only[*,go_sem,seval]
 refine yB h (fun _ h=>?_) fun _ h=>?_
 exact yC h [] [0,1,2,3]
 refine Za h fun _ t h=>Zb (QT t)<|yA ?_
 refine yB h (fun _ h=>?_) fun _ h=>?_
 exact yC h [] [0,1,2,3]
 refine yB h (fun _ h=>?_) fun _ h=>?_
 replace h:=Zo h f
 cases h;exact yD
 refine Za h fun _ u h=>Zb (Zfo u)<|yA ?_
 refine yB h (fun _ h=>?_) fun _ h=>?_
 replace h:=Zo h f
 cases h;exact yD
 exact yC h [] [0,1,2,3]
 rintro ⟨⟩ ⟨sl,ob,n⟩ g _ h
 simp only[go_sem,seval,Zc] at g
 obtain ⟨⟨_,_,_,_,_,_,_⟩,_,_,_,_,hn⟩:=g
 subst hn
 have:=Zz (b.length)
 cases h;exact yD
theorem Zdw {x_0:Zr} {r:Bool} (h:Zb1 x_0=some r):Zl prog J0 88 [(true,ZK x_0)] [(false,[(false,.bool r)])]:=by
 refine fnk func88 rfl ?_
 unfold Zb1 at h
 have a:Z2 ⟨#[]⟩=true:=by decide
 simp only[fnS,f88,Zm,go_sem,seval,a]
 refine yB h (fun _ h=>?_) fun _ h=>?_
 refine Za h fun v1 b h=>Zb (Y3 b)<|yA ?_
 iterate 2 refine yB h (fun _ h=>?_) fun _ h=>?_
 iterate 3 (cases h;exact yD)
 refine yB h (fun _ h=>?_) fun _ h=>?_
 refine Za h fun _ c h=>Zb (Y3 c)<|yA ?_
 iterate 2 refine yB h (fun _ h=>?_) fun _ h=>?_
 iterate 3 (cases h;exact yD)
 iterate 3 refine yB h (fun _ h=>?_) fun _ h=>?_
 refine Za h fun _ d h=>Zb (Qp d)<|yA ?_
 refine yB h (fun _ h=>?_) fun _ h=>?_
 refine Za h fun _ e h=>Zb (Qp e) ?_
 iterate 4 (cases h;exact yD)
 iterate 3 refine yB h (fun _ h=>?_) fun _ h=>?_
 refine Za h fun _ f h=>Zb (Qp f)<|yA ?_
 refine yB h (fun _ h=>?_) fun _ h=>?_
 refine Za h fun _ g h=>Zb (Qp g) ?_
 iterate 4 (cases h;exact yD)
 iterate 3 refine yB h (fun _ h=>?_) fun _ h=>?_
 refine Za h fun _ i h=>Zb (Qp i)<|yA ?_
 refine yB h (fun _ h=>?_) fun _ h=>?_
 refine Za h fun _ j h=>Zb (Qp j) ?_
 iterate 5 (cases h;exact yD)
theorem Zem {r_0:Zf} {i_1:Int} {v_2:ByteArray} {r:Bool} (h:Xu r_0 i_1 v_2=some r):Zl prog J0 153 [(true,ZG r_0),(false,[.int .i64 i_1]),(false,[.str v_2])] [(false,[(false,.bool r)])]:=by
 refine fnk func153 rfl ?_
 unfold Xu at h
 simp only[fnS,f153,Zm,go_sem,seval]
 refine Zh h (fun i _ st=>IV [(1,yM (.int .i64 i_1)),(2,yM (.str v_2)),(3,.bp 0 0),(7,yL i)] [yZ 104 (ZG r_0)] st) [] [0] yF yD ?_ ?_
 rintro _ _ ⟨⟩ ⟨sl,ob,n⟩ _ a d k h l
 simp only[go_sem,seval,Zc] at d
 obtain ⟨⟨_,_,_,_⟩,m,hn⟩:=d
 subst hn
 have o:=WF.boxL k m (j:=2) rfl
 have:=ZB a
 have:=ZC a
 have:=Zj (ZA a) o
 simp only[*,go_sem,seval]
 refine yB h (fun _ h=>?_) fun _ h=>?_
 refine Za h fun _ q h=>Zb (Q7 q)<|yA ?_
 refine Za h fun _ t h=>Zb (Ym t)<|yA ?_
 refine yB h (fun _ h=>?_) fun _ h=>?_
 replace h:=Zo h l
 cases h;exact yD
 exact yC h [] [0]
 exact yC h [] [0]
 rintro ⟨⟩ ⟨sl,ob,n⟩ e _ h
 simp only[go_sem,seval,Zc] at e
 obtain ⟨⟨_,_,_,_⟩,_,hn⟩:=e
 subst hn
 have:=Zz (r_0.cond.length)
 simp only[*,go_sem,seval]
 refine Zh h (fun i _ st=>IV [(2,yM (.str v_2)),(3,.bp 0 0),(8,yL i)] [yZ 104 (ZG r_0)] st) [] [0] yF yD ?_ ?_
 rintro _ _ ⟨⟩ ⟨sl,ob,n⟩ _ b f u h v
 simp only[go_sem,seval,Zc] at f
 obtain ⟨⟨_,_,_⟩,w,hn⟩:=f
 subst hn
 have x:=WF.boxL u w (j:=3) rfl
 have:=ZB b
 have:=ZC b
 have:=Zj (ZA b) x
 simp only[*,go_sem,seval]
 refine Za h fun _ y h=>Zb (ZbQ y)<|yA ?_
 refine Za h fun _ z h=>Zb (Ym z)<|yA ?_
 refine yB h (fun _ h=>?_) fun _ h=>?_
 replace h:=Zo h v
 cases h;exact yD
 exact yC h [] [0]
 rintro ⟨⟩ ⟨sl,ob,n⟩ g _ h
 simp only[go_sem,seval,Zc] at g
 obtain ⟨⟨_,_,_⟩,_,hn⟩:=g
 subst hn
 have:=Zz (r_0.thn.length)
 cases h;exact yD
theorem ZlF {a_0:Zx} {r:Bool} (h:ZcM a_0=some r):Zl prog J0 154 [(true,ZD a_0)] [(false,[(false,.bool r)])]:=by
 refine fnk func154 rfl ?_
 unfold ZcM at h
 have a:Z2 ⟨#[]⟩=true:=by decide
 simp only[fnS,f154,Zm,go_sem,seval,a]
 refine yB h (fun _ h=>?_) fun _ h=>?_
 refine Za h fun v1 b h=>Zb (Y3 b) ?_
 cases h;exact yD
 refine yB h (fun _ h=>?_) fun _ h=>?_
 refine Za h fun _ c h=>Zb (Y3 c) ?_
 cases h;exact yD
 iterate 2 refine yB h (fun _ h=>?_) fun _ h=>?_
 iterate 3 (cases h;exact yD)
theorem Zl1 {r_0:Zf} {r:(List ByteArray)} (h:ZcH r_0=some r):Zl prog J0 156 [(true,ZG r_0)] [(false,[(false,.sl 9 1 (A0 Zw r))])]:=by
 refine fnk func156 rfl ?_
 unfold ZcH at h
 simp only[fnS,f156,Zm,go_sem,seval]
 refine Zh h (fun i a st=>IV [(1,.bp 0 0),(3,.p false [.row 1]),(4,yL i)] [yZ 104 (ZG r_0),.row 9 1 (A0 Zw a) 2] st) [] [0,32] yF yD ?_ ?_
 rintro A _ a ⟨sl,ob,n⟩ _ b m B h _
 simp only[go_sem,seval,Zc] at m
 obtain ⟨⟨_,_,_⟩,C,_,hn⟩:=m
 subst hn
 have D:=WF.boxL B C (j:=2) rfl
 have:=ZB b
 have:=ZC b
 have:=Zj (ZA b) D
 simp only[*,go_sem,seval]
 refine Za h fun o E h=>Zb (Q7 E)<|yA ?_
 refine Zh h (fun i d st=>IV [(1,.bp 0 0),(3,.p false [.row 1]),(4,yL A),(5,.p false [.row 2]),(6,yL i)] [yZ 104 (ZG r_0),.row 9 1 (A0 Zw d) 2,.row 9 1 (A0 Zw o) 2] st) [] [0,1,162] yF yD ?_ ?_
 rintro _ _ d ⟨sl,ob,n⟩ _ e q F h _
 simp only[go_sem,seval,Zc] at q
 obtain ⟨⟨_,_,_,_,_⟩,_,_,G,hn⟩:=q
 subst hn
 have H:=WF.rowL F G
 have:=ZB e
 have:=ZC e
 have:=Zj (ZA e) H
 simp only[*,go_sem,seval]
 refine Za h fun _ I h=>Zb (Y1 I)<|yA ?_
 exact yC h [] [0,147,2]
 rintro d ⟨sl,ob,n⟩ t _ h
 simp only[go_sem,seval,Zc] at t
 obtain ⟨⟨_,_,_,_,_⟩,_,_,_,hn⟩:=t
 subst hn
 have:=Zz (o.length)
 simp only[*,go_sem,seval]
 exact yC h [] [0,1]
 rintro a ⟨sl,ob,n⟩ u _ h
 simp only[go_sem,seval,Zc] at u
 obtain ⟨⟨_,_,_⟩,_,_,hn⟩:=u
 subst hn
 have:=Zz (r_0.cond.length)
 simp only[*,go_sem,seval]
 refine Zh h (fun i f st=>IV [(1,.bp 0 0),(3,.p false [.row 1]),(7,yL i)] [yZ 104 (ZG r_0),.row 9 1 (A0 Zw f) 2] st) [] [0,1] yF yD ?_ ?_
 rintro J _ f ⟨sl,ob,n⟩ _ g v K h _
 simp only[go_sem,seval,Zc] at v
 obtain ⟨⟨_,_,_⟩,L,_,hn⟩:=v
 subst hn
 have M:=WF.boxL K L (j:=3) rfl
 have:=ZB g
 have:=ZC g
 have:=Zj (ZA g) M
 simp only[*,go_sem,seval]
 refine Za h fun w N h=>Zb (ZbQ N)<|yA ?_
 refine Zh h (fun i k st=>IV [(1,.bp 0 0),(3,.p false [.row 1]),(7,yL J),(8,.p false [.row 2]),(9,yL i)] [yZ 104 (ZG r_0),.row 9 1 (A0 Zw k) 2,.row 9 1 (A0 Zw w) 2] st) [] [0,1,178] yF yD ?_ ?_
 rintro _ _ k ⟨sl,ob,n⟩ _ l x O h _
 simp only[go_sem,seval,Zc] at x
 obtain ⟨⟨_,_,_,_,_⟩,_,_,P,hn⟩:=x
 subst hn
 have Q:=WF.rowL O P
 have:=ZB l
 have:=ZC l
 have:=Zj (ZA l) Q
 simp only[*,go_sem,seval]
 refine Za h fun _ R h=>Zb (Y1 R)<|yA ?_
 exact yC h [] [0,147,2]
 rintro k ⟨sl,ob,n⟩ y _ h
 simp only[go_sem,seval,Zc] at y
 obtain ⟨⟨_,_,_,_,_⟩,_,_,_,hn⟩:=y
 subst hn
 have:=Zz (w.length)
 simp only[*,go_sem,seval]
 exact yC h [] [0,1]
 rintro f ⟨sl,ob,n⟩ z _ h
 simp only[go_sem,seval,Zc] at z
 obtain ⟨⟨_,_,_⟩,_,_,hn⟩:=z
 subst hn
 have:=Zz (r_0.thn.length)
 cases h;exact yD
theorem Xi {s_0:ByteArray} {r:(Zv × Bool)} (h:Yd s_0=some r):Zl prog J0 288 [(false,[.str s_0])] [(true,[(false,.str r.1.rel),(false,.sl 9 1 (A0 Zw r.1.args))]),(false,[(false,.bool r.2)])]:=by
 refine fnk func288 rfl ?_
 unfold Yd at h
 simp only[fnS,f288,Zm,go_sem,seval]
 refine Za h fun v1 a h=>Zb (Znw a)<|yA ?_
 refine yB h (fun _ h=>?_) fun _ h=>?_
 refine Za h fun _ b h=>Zb (Y3 b)<|yA ?_
 refine yB h (fun _ h=>?_) fun _ h=>?_
 iterate 3 (cases h;exact yD)
theorem Znx {c_0:ZF} {most_1:Int} {r:((List Zd) × ZF)} (h:Zeo c_0 most_1=some r):ZaU prog J0 JF0 110 (.box 184 (Za7 c_0)) [(false,[.int .i64 most_1])] [(false,[(false,.sl 71 2 (A0 Zq r.1))])] (.box 184 (Za7 r.2)):=by
 refine fnh func110 rfl ?_
 unfold Zeo at h
 have j:Z2 ⟨#[111,110]⟩=true:=by decide
 have k:Z2 ⟨#[112]⟩=true:=by decide
 have l:Z2 ⟨#[113]⟩=true:=by decide
 have m:Z2 ⟨#[49]⟩=true:=by decide
 have o:Z2 ⟨#[50]⟩=true:=by decide
 have q:Z2 ⟨#[97,116]⟩=true:=by decide
 have t:Z2 ⟨#[97]⟩=true:=by decide
 have u:Z2 ⟨#[98]⟩=true:=by decide
 simp only[fnH,f110,ZcO,ZcW,Y9,go_sem,seval,j,k,l,m,o,q,t,u]
 obtain ⟨v1,v,h⟩:=ZJ h
 refine QC (QS v)<|yA ?_
 refine XH h (fun s st=>match s with | (b,d,e,f,g)=>IV [(0,.bp 0 0),(5,.p false [.row 1]),(6,yM (.int .i64 g))] [.box 184 [.c (yX b),.c (.int .i64 d),.c (.int .i64 e)],.row 71 2 (A0 Zq f) 2] st) [] [0,17] yF yD ?_
 rintro ⟨b,d,e,f,g⟩ ⟨sl,ob,n⟩ _ i _ h w
 simp only[go_sem,seval,Zc] at i
 obtain ⟨⟨_,_,_⟩,_,_,hn⟩:=i
 subst hn
 simp only[*,go_sem,seval]
 refine yB h (fun _ h=>?_) fun _ h=>?_
 obtain ⟨_,x,h⟩:=ZJ h
 refine QC (ZjQ x)<|yA ?_
 obtain ⟨_,y,h⟩:=ZJ h
 refine QC (ZjQ y)<|yA ?_
 obtain ⟨_,z,h⟩:=ZJ h
 refine QC (QS z)<|yA ?_
 refine yB h (fun _ h=>?_) fun _ h=>?_
 refine Za h fun _ A h=>Zb (Zdi A)<|yA ?_
 exact yC h [] [0,290]
 refine yB h (fun _ h=>?_) fun _ h=>?_
 refine Za h fun _ B h=>Zb (Zdi B)<|yA ?_
 exact yC h [] [0,338]
 refine yB h (fun _ h=>?_) fun _ h=>?_
 refine Za h fun _ C h=>Zb (Zdi C)<|yA ?_
 exact yC h [] [0,354]
 refine Za h fun _ D h=>Zb (Zdi D)<|yA ?_
 exact yC h [] [0,370]
 replace h:=Zo h w
 cases h;exact yD
theorem ZfU {append_0:Zv} {String_1:Zd} {a_2:(List Zp)} {r:((List Zp) × Bool)} (h:Zau append_0 String_1 a_2=some r):Zl prog J0 161 [(true,Qz append_0),(true,Zq String_1),(false,[.sl 135 2 (A0 ZZ a_2)])] [(false,[(false,.sl 135 2 (A0 ZZ r.1))]),(false,[(false,.bool r.2)])]:=by
 refine fnk func161 rfl ?_
 unfold Zau at h
 simp only[fnS,f161,Zm,go_sem,seval]
 refine Za h fun v1 g h=>Zb (Y3 g)<|yA ?_
 refine yB h (fun _ h=>?_) fun _ h=>?_
 refine Za h fun _ k h=>Zb (Zjg k)<|yA ?_
 refine yB h (fun _ h=>?_) fun _ h=>?_
 refine Za h fun _ l h=>Zb (Qy l)<|yA ?_
 iterate 3 refine yB h (fun _ h=>?_) fun _ h=>?_
 cases h;exact yD
 refine Za h fun _ m h=>Zb (Zf8 m)<|yA ?_
 refine Zh h (fun i a st=>IV [(3,.bp 0 0),(4,.bp 1 0),(8,.p false [.row 2]),(9,yL i)] [.box 58 [.c (.str append_0.rel),.c (yP append_0.args)],yZ 71 (Zq String_1),.row 135 2 (A0 ZZ a) 2] st) [] [0,16,544] yF yD ?_ ?_
 rintro _ _ a ⟨sl,ob,n⟩ _ b d o h e
 simp only[go_sem,seval,Zc] at d
 obtain ⟨⟨_,_,_,_⟩,q,_,_,hn⟩:=d
 subst hn
 have t:=WF.boxL o q (j:=1) rfl
 have:=ZB b
 have:=ZC b
 have:=Zj (ZA b) t
 simp only[*,go_sem,seval]
 refine Za h fun _ u h=>Zb (XR u)<|yA ?_
 refine yB h (fun _ h=>?_) fun _ h=>?_
 obtain ⟨_,_,_,v,h⟩:=Zci h
 simp only[A6] at v
 simp only[*,go_sem,seval]
 refine yB h (fun _ h=>?_) fun _ h=>?_
 exact yC h [] [0,1,2]
 replace h:=Zo h e
 cases h;exact yD
 obtain ⟨_,_,_,w,h⟩:=Zci h
 simp only[A6] at w
 simp only[*,go_sem,seval]
 refine Za h fun _ x h=>Zb (ZoM x)<|yA ?_
 refine yB h (fun _ h=>?_) fun _ h=>?_
 exact yC h [] [0,1,355]
 replace h:=Zo h e
 cases h;exact yD
 rintro a ⟨sl,ob,n⟩ f _ h
 simp only[go_sem,seval,Zc] at f
 obtain ⟨⟨_,_,_,_⟩,_,_,_,hn⟩:=f
 subst hn
 have:=Zz (append_0.args.length)
 iterate 5 (cases h;exact yD)
end
section
theorem ZdM {p_0:Zv} {b_1:(List Zp)} {r:(Zd × Bool)} (h:Y2 p_0 b_1=some r):Zl prog J0 116 [(true,Qz p_0),(false,[.sl 135 2 (A0 ZZ b_1)])] [(true,[(false,.str r.1.rel),(false,.sl 9 1 (A0 Zw r.1.args))]),(false,[(false,.bool r.2)])]:=by
 refine fnk func116 rfl ?_
 unfold Y2 at h
 simp only[fnS,f116,Zm,go_sem,seval]
 refine Za h fun v1 f h=>Zb (Y3 f)<|yA ?_
 refine yB h (fun _ h=>?_) fun _ h=>?_
 refine Za h fun _ g h=>Zb (Qy g)<|yA ?_
 refine yB h (fun _ h=>?_) fun _ h=>?_
 refine Zh h (fun i a st=>IV [(1,yM (yT b_1)),(2,.bp 0 0),(4,.bp 1 0),(6,.bp 2 0),(7,yL i)] [.box 58 [.c (.str p_0.rel),.c (yP p_0.args)],.box 71 [.c (.str ⟨#[]⟩),.nil 9 1],.box 71 [.c (.str p_0.rel),.row 3],.row 9 1 (A0 Zw a) 2] st) [(true,224,1)] [0,16,224,272] yF yD ?_ ?_
 rintro _ _ a ⟨sl,ob,n⟩ _ b d k h l
 simp only[go_sem,seval,Zc] at d
 obtain ⟨⟨_,_,_,_,_⟩,m,_,_,_,hn⟩:=d
 subst hn
 have o:=WF.boxL k m (j:=1) rfl
 have:=ZB b
 have:=ZC b
 have:=Zj (ZA b) o
 simp only[*,go_sem,seval]
 refine Za h fun _ q h=>Zb (Zcl q)<|yA ?_
 refine yB h (fun _ h=>?_) fun _ h=>?_
 obtain ⟨t,h⟩:=Zs h
 try simp only[Nat.reduceLeDiff] at t
 simp only[*,go_sem,seval]
 exact yC h [] [0,1,2,372]
 replace h:=Zo h l
 cases h;exact yD
 rintro a ⟨sl,ob,n⟩ e _ h
 simp only[go_sem,seval,Zc] at e
 obtain ⟨⟨_,_,_,_,_⟩,_,_,_,_,hn⟩:=e
 subst hn
 have:=Zz (p_0.args.length)
 iterate 3 (cases h;exact yD)
theorem ZGg {b:Zu} {r:(List Int)} (h:ZD6 b=some r):Zl prog J0 224 [(true,Qw b)] [(false,[(false,.sl 3 1 (A0 Z5 r))])]:=by
 refine fnk func224 rfl ?_
 unfold ZD6 at h
 simp only[fnS,f224,Zm,go_sem,seval]
 refine Za h fun v1 z h=>Zb (ZEt z)<|yA ?_
 refine yB h (fun _ h=>?_) fun _ h=>?_
 refine Za h fun d A h=>Zb (ZGr A)<|yA ?_
 refine XH h (fun s st=>match s with | (l,m)=>IV [(1,.bp 0 0),(3,.p false [.row 1]),(4,.p false [.row 2]),(5,yM (.int .i64 m))] [.box 91 [.c (.int .i64 b.nodes),.c (yV b.reasons)],.row 3 1 (A0 Z5 d) 2,.row 3 1 (A0 Z5 l) 2] st) [] [0,96,128] yF yD ?_
 rintro ⟨l,m⟩ ⟨sl,ob,n⟩ _ o _ h B
 simp only[go_sem,seval,Zc] at o
 obtain ⟨⟨_,_,_,_⟩,_,_,_,hn⟩:=o
 subst hn
 simp only[*,go_sem,seval]
 refine yB h (fun _ h=>?_) fun _ h=>?_
 obtain ⟨C,h⟩:=Zs h
 try simp only[Nat.reduceLeDiff] at C
 simp only[*,go_sem,seval]
 exact yC h [] [0,1,99]
 refine XH h (fun s st=>match s with | (q,t,e)=>IV [(1,.bp 0 0),(3,.p false [.row 1]),(4,.p false [.row 2]),(6,yM (.int .i64 t)),(7,yM (.int .i64 e))] [.box 91 [.c (.int .i64 b.nodes),.c (yV b.reasons)],.row 3 1 (A0 Z5 d) 2,.row 3 1 (A0 Z5 q) 2] st) [] [0,1,2] yF yD ?_
 rintro ⟨q,t,e⟩ ⟨sl,ob,n⟩ _ u _ h D
 simp only[go_sem,seval,Zc] at u
 obtain ⟨⟨_,_,_,_,_⟩,_,_,_,hn⟩:=u
 subst hn
 simp only[*,go_sem,seval]
 refine yB h (fun _ h=>?_) fun _ h=>?_
 refine Za h fun _ E h=>Zb (ZE2 E)<|yA ?_
 refine XH h (fun s st=>match s with | (v,f,g)=>IV [(1,.bp 0 0),(3,.p false [.row 1]),(4,.p false [.row 2]),(6,yM (.int .i64 g)),(7,yM (.int .i64 e)),(8,.p false [.row 3])] [.box 91 [.c (.int .i64 b.nodes),.c (yV b.reasons)],.row 3 1 (A0 Z5 d) 2,.row 3 1 (A0 Z5 v) 2,.row 3 1 (A0 Z5 f) 2] st) [] [0,1,2,147] yF yD ?_
 rintro ⟨v,f,g⟩ ⟨sl,ob,n⟩ _ w _ h F
 simp only[go_sem,seval,Zc] at w
 obtain ⟨⟨_,_,_,_,_,_⟩,_,_,_,_,hn⟩:=w
 subst hn
 simp only[*,go_sem,seval]
 refine yB h (fun _ h=>?_) fun _ h=>?_
 refine Zh h (fun i j st=>IV [(1,.bp 0 0),(3,.p false [.row 1]),(4,.p false [.row 2]),(6,yM (.int .i64 g)),(7,yM (.int .i64 e)),(8,.p false [.row 3]),(9,yL i)] [.box 91 [.c (.int .i64 b.nodes),.c (yV b.reasons)],.row 3 1 (A0 Z5 d) 2,.row 3 1 (A0 Z5 j) 2,.row 3 1 (A0 Z5 f) 2] st) [] [0,1,2,3] yF yD ?_ ?_
 rintro _ _ j ⟨sl,ob,n⟩ _ k x G h _
 simp only[go_sem,seval,Zc] at x
 obtain ⟨⟨_,_,_,_,_,_,_⟩,_,_,_,H,hn⟩:=x
 subst hn
 have I:=WF.rowL G H
 have:=ZB k
 have:=ZC k
 have:=Zj (ZA k) I
 obtain ⟨_,h⟩:=Zs h
 obtain ⟨_,_,h⟩:=ZJ h
 simp only[*,go_sem,seval]
 exact yC h [] [0,1,2,3]
 rintro j ⟨sl,ob,n⟩ y _ h
 simp only[go_sem,seval,Zc] at y
 obtain ⟨⟨_,_,_,_,_,_,_⟩,_,_,_,_,hn⟩:=y
 subst hn
 have:=Zz (f.length)
 simp only[*,go_sem,seval]
 refine Za h fun _ J h=>Zb (ZE2 J)<|yA ?_
 exact yC h [] [0,1,2,196]
 replace h:=Zo h F
 exact yC h [] [0,1,2]
 replace h:=Zo h D
 replace h:=Zo h B
 iterate 2 (cases h;exact yD)
theorem ZOg {steps_0:(List ZvY)} {r:(List Zd)} (h:ZN0 steps_0=some r):Zl prog J0 55 [(false,[.sl 86 4 (A0 ZAO steps_0)])] [(false,[(false,.sl 71 2 (A0 Zq r))])]:=by
 refine fnk func55 rfl ?_
 unfold ZN0 at h
 have f:Z2 ⟨#[]⟩=true:=by decide
 simp only[fnS,f55,Zm,go_sem,seval,f]
 refine Zh h (fun i a st=>IV [(3,.p false [.row 0]),(6,yM (yY steps_0)),(7,yL steps_0.length),(8,yL i)] [.row 71 2 (A0 Zq a) 2] st) [(false,3,0)] [80] yF yD ?_ ?_
 rintro _ _ a ⟨sl,ob,n⟩ _ b d g h _
 simp only[go_sem,seval,Zc] at d
 obtain ⟨⟨_,k,_,_⟩,_,hn⟩:=d
 subst hn
 have l:=WF.slotL g k (j:=0) rfl
 have:=ZB b
 have:=ZC b
 have:=Zj (ZA b) l
 simp only[*,go_sem,seval]
 refine yB h (fun _ h=>?_) fun _ h=>?_
 refine Za h fun _ m h=>Zb (ZbG m)<|yA ?_
 refine yB h (fun _ h=>?_) fun _ h=>?_
 refine Za h fun _ o h=>Zb (ZnM o)<|yA ?_
 exact yC h [] [289]
 exact yC h [] [0]
 exact yC h [] [0]
 rintro a ⟨sl,ob,n⟩ e _ h
 simp only[go_sem,seval,Zc] at e
 obtain ⟨⟨_,_,_,_⟩,_,hn⟩:=e
 subst hn
 have:=Zz (steps_0.length)
 cases h;exact yD
end
end Go.Proofs.YtekbmedphidcgaaGreatDoor
